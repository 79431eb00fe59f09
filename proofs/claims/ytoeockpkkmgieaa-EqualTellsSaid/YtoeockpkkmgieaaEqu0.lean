/- What tells two automata apart, as data: the search over pairs, nearest first. Conditions: those of each theorem. -/
import Derived.Test.YtoeockpkkmgieaaAlp0
import Derived.Test.YtoeockpkkmgieaaDfa0
import Derived.Test.YtoeockpkkmgieaaSx13
namespace Go.Sx
set_option linter.unusedVariables false
set_option linter.unusedSimpArgs false
/-- A step of the search. -/
structure St4 where
  p : Int
  q : Int
  from_ : Int
  sym : Int
def st0 : St4 := ⟨0, 0, 0, 0⟩
def tySt : Ty St4 := ⟨4, fun x => [.int .i64 x.p, .int .i64 x.q, .int .i64 x.from_, .int .i64 x.sym], fun _ => rfl, fun x u h => by
  simp only [List.mem_cons, List.not_mem_nil, or_false] at h; rcases h with rfl | rfl | rfl | rfl <;> rfl, by omega⟩
def St4.pr (s : St4) : Int × Int := (s.p, s.q)
def prs (l : List St4) : List (Int × Int) := l.map St4.pr
def putS (l : List St4) (p : Int × Int) (f sym : Int) : List St4 := if p ∈ prs l then l else l ++ [⟨p.1, p.2, f, sym⟩]
def MapInv (m : List ((Int × Int) × Int)) (l : List St4) : Prop := ∀ p, (getM m p).isSome = decide (p ∈ prs l)
theorem MapInv.nil : MapInv [] [] := fun p => by simp [getM, prs]
theorem MapInv.old {m : List ((Int × Int) × Int)} {l : List St4} {p : Int × Int} {f sym : Int} (h : MapInv m l) (hp : (getM m p).isSome = true) : putS l p f sym = l := by
  rw [h p] at hp
  rw [putS, if_pos (of_decide_eq_true hp)]
theorem MapInv.new {m : List ((Int × Int) × Int)} {l : List St4} {p : Int × Int} {f sym v : Int} (h : MapInv m l) (hp : ¬ (getM m p).isSome = true) : putS l p f sym = l ++ [⟨p.1, p.2, f, sym⟩] ∧ MapInv (putM m p v) (l ++ [⟨p.1, p.2, f, sym⟩]) := by
  rw [h p] at hp
  have hn : p ∉ prs l := fun e => hp (decide_eq_true e)
  refine ⟨by rw [putS, if_neg hn], fun q => ?_⟩
  rw [getM_put]
  by_cases e : q = p
  · subst e; rw [if_pos rfl]; simp [prs, St4.pr]
  · rw [if_neg e, h q]
    have : q ∈ prs (l ++ [⟨p.1, p.2, f, sym⟩]) ↔ q ∈ prs l := by
      simp only [prs, List.map_append, List.map_cons, List.map_nil, List.mem_append, List.mem_singleton, St4.pr]
      exact ⟨fun h => h.resolve_right (fun e2 => e (by rw [e2])), .inl⟩
    simp only [this]
theorem putS_pre (l : List St4) (p : Int × Int) (f sym : Int) : ∃ r, putS l p f sym = l ++ r ∧ r.length ≤ 1 := by
  unfold putS; split
  · exact ⟨[], by simp, by simp⟩
  · exact ⟨_, rfl, by simp⟩
theorem putS_len (l : List St4) (p : Int × Int) (f sym : Int) : l.length ≤ (putS l p f sym).length ∧ (putS l p f sym).length ≤ l.length + 1 := by
  obtain ⟨r, h, hl⟩ := putS_pre l p f sym
  rw [h, List.length_append]; omega

/-! ### The word of a step -/
def revW (l : List St4) : Nat → Nat → List Int
  | 0, _ => []
  | n + 1, i => if (l.getD i st0).from_ < 0 then [] else (l.getD i st0).sym :: revW l n (l.getD i st0).from_.toNat
def wordS (l : List St4) (i : Nat) : List Int := (revW l (i + 1) i).reverse
/-- Each step comes from an earlier one, or from none. -/
def Chain (l : List St4) : Prop := ∀ i, i < l.length → -1 ≤ (l.getD i st0).from_ ∧ (l.getD i st0).from_ < (i : Int)
theorem revW_fuel {l : List St4} (h : Chain l) : ∀ (n i : Nat), i < l.length → i < n → revW l n i = revW l (i + 1) i
  | 0, i, _, hn => by omega
  | n + 1, i, hi, hn => by
    have hc := h i hi
    simp only [revW]
    split
    · rfl
    · rename_i h0
      have hj : (l.getD i st0).from_.toNat < l.length := by omega
      rw [revW_fuel h n _ hj (by omega), revW_fuel h i _ hj (by omega)]
theorem revW_step {l : List St4} (h : Chain l) {i : Nat} (hi : i < l.length) (h0 : 0 ≤ (l.getD i st0).from_) :
    revW l (i + 1) i = (l.getD i st0).sym :: revW l ((l.getD i st0).from_.toNat + 1) (l.getD i st0).from_.toNat := by
  have hc := h i hi
  have hj : (l.getD i st0).from_.toNat < l.length := by omega
  rw [revW, if_neg (by omega), revW_fuel h i _ hj (by have := hc.2; omega)]
theorem revW_end {l : List St4} {i n : Nat} (h0 : (l.getD i st0).from_ < 0) : revW l n i = [] := by
  cases n with
  | zero => rfl
  | succ n => rw [revW, if_pos h0]
theorem wordS_step {l : List St4} (h : Chain l) {i : Nat} (hi : i < l.length) (h0 : 0 ≤ (l.getD i st0).from_) :
    wordS l i = wordS l (l.getD i st0).from_.toNat ++ [(l.getD i st0).sym] := by
  rw [wordS, revW_step h hi h0, List.reverse_cons]; rfl
theorem wordS_end {l : List St4} {i : Nat} (h0 : (l.getD i st0).from_ < 0) : wordS l i = [] := by rw [wordS, revW_end h0]; rfl
theorem revW_len (l : List St4) : ∀ n i, (revW l n i).length ≤ n
  | 0, i => by simp [revW]
  | n + 1, i => by
    rw [revW]; split
    · simp
    · have := revW_len l n (l.getD i st0).from_.toNat; rw [List.length_cons]; omega

/-! ### The search -/
def nxP (a b : DfaD) (s : St4) (sym : Int) : Int × Int := (stepD a s.p sym, stepD b s.q sym)
def addS (a b : DfaD) (s : St4) (at_ : Nat) (l : List St4) (sym : Int) : List St4 := putS l (nxP a b s sym) (at_ : Int) sym
def apLoop (a b : DfaD) (fs : List Int) : Nat → Nat → List St4 → Option (List Int)
  | 0, _, _ => none
  | f + 1, at_, l => if at_ < l.length then
      (if a.acc.getD (l.getD at_ st0).p.toNat false ≠ b.acc.getD (l.getD at_ st0).q.toNat false then some (wordS l at_) else apLoop a b fs f (at_ + 1) (fs.foldl (addS a b (l.getD at_ st0) at_) l)) else none
def firstsAB (a b : DfaD) : List Int := firstsI (joinL a.cls b.cls) (joinN a.cls b.cls)
def startS (a b : DfaD) : List St4 := [⟨a.start, b.start, -1, 0⟩]
def apartO (a b : DfaD) : Option (List Int) := apLoop a b (firstsAB a b) (a.acc.length * b.acc.length + 1) 0 (startS a b)
/-- What the program answers: symbols, whether any, and 0 or 3. -/
def apartW (a b : DfaD) : List Int := if rightB a = true ∧ rightB b = true then (apartO a b).getD [] else []
def apartI (a b : DfaD) : Bool := if rightB a = true ∧ rightB b = true then (apartO a b).isSome else false
def apartE (a b : DfaD) : Int := if rightB a = true ∧ rightB b = true then 0 else 3
theorem foldAddS_pre (a b : DfaD) (s : St4) (at_ : Nat) : ∀ (fs : List Int) (l : List St4), ∃ r, fs.foldl (addS a b s at_) l = l ++ r ∧ r.length ≤ fs.length
  | [], l => ⟨[], by simp, by simp⟩
  | f :: fs, l => by
    obtain ⟨r, hr, hl⟩ := putS_pre l (nxP a b s f) (at_ : Int) f
    obtain ⟨r2, hr2, hl2⟩ := foldAddS_pre a b s at_ fs (addS a b s at_ l f)
    exact ⟨r ++ r2, by rw [List.foldl_cons, hr2]; show putS _ _ _ _ ++ r2 = _; rw [hr, List.append_assoc], by simp; omega⟩
theorem getD_preS {l r : List St4} {i : Nat} {x : St4} (h : i < l.length) : (l ++ r).getD i x = l.getD i x := by
  simp only [List.getD_eq_getElem?_getD, List.getElem?_append_left h]

/-- What all steps are. -/
structure StI (a b : DfaD) (l : List St4) (at_ : Nat) : Prop where
  pos : 0 < l.length
  rng : ∀ i, i < l.length → (0 ≤ (l.getD i st0).p ∧ (l.getD i st0).p < (a.acc.length : Int)) ∧ (0 ≤ (l.getD i st0).q ∧ (l.getD i st0).q < (b.acc.length : Int))
  chain : ∀ i, i < l.length → (i = 0 ∧ l.getD i st0 = ⟨a.start, b.start, -1, 0⟩) ∨ (0 ≤ (l.getD i st0).from_ ∧ (l.getD i st0).from_ < (i : Int) ∧ (0 ≤ (l.getD i st0).sym ∧ (l.getD i st0).sym < 259) ∧ (l.getD i st0).pr = nxP a b (l.getD (l.getD i st0).from_.toNat st0) (l.getD i st0).sym)
  nd : (prs l).Nodup
  old : ∀ i, i < at_ → i < l.length → a.acc.getD (l.getD i st0).p.toNat false = b.acc.getD (l.getD i st0).q.toNat false
theorem stepD_bd' {d : DfaD} (hr : rightB d = true) {q b : Int} (h0 : 0 ≤ q) (h1 : q < (d.acc.length : Int)) (hb : 0 ≤ b ∧ b < 259) : 0 ≤ stepD d q b ∧ stepD d q b < (d.acc.length : Int) := by
  have hs := right_sym hr hb.1 hb.2
  have hi := right_idx hr h0 h1 hs.2.1 hs.2.2.1
  exact ⟨hi.2.2.2.1, hi.2.2.2.2⟩
theorem StI.ch {a b : DfaD} {l : List St4} {at_ : Nat} (h : StI a b l at_) : Chain l := fun i hi => by
  rcases h.chain i hi with ⟨e, h1⟩ | ⟨h1, h2, _⟩
  · rw [h1]; simp; omega
  · omega
theorem nodup_le : ∀ (N : Nat) (l : List Nat), l.Nodup → (∀ x, x ∈ l → x < N) → l.length ≤ N
  | 0, l, _, hb => by
    cases l with
    | nil => simp
    | cons x l => exact absurd (hb x (by simp)) (by omega)
  | N + 1, l, hn, hb => by
    by_cases hN : N ∈ l
    · have h1 := nodup_le N (l.erase N) (hn.erase N) (fun x hx => by
        have h2 := (hn.mem_erase_iff).1 hx
        have h3 := hb x h2.2
        have h4 := h2.1
        omega)
      rw [List.length_erase_of_mem hN] at h1; omega
    · have h1 := nodup_le N l hn (fun x hx => by
        have h3 := hb x hx
        have h4 : x ≠ N := fun e => hN (e ▸ hx)
        omega)
      omega
theorem StI.bound {a b : DfaD} {l : List St4} {at_ : Nat} (h : StI a b l at_) : l.length ≤ a.acc.length * b.acc.length := by
  have key := nodup_le (a.acc.length * b.acc.length) ((prs l).map fun p => p.1.toNat * b.acc.length + p.2.toNat) ?_ ?_
  · simpa [prs] using key
  · rw [List.nodup_iff_pairwise_ne, List.pairwise_map]
    have hnd := h.nd
    rw [List.nodup_iff_pairwise_ne] at hnd
    refine hnd.imp_of_mem ?_
    intro x y hx hy hne e
    obtain ⟨s, hs, rfl⟩ := List.mem_map.1 hx
    obtain ⟨t, ht, rfl⟩ := List.mem_map.1 hy
    obtain ⟨i, hi, rfl⟩ := List.mem_iff_getElem.1 hs
    obtain ⟨j, hj, rfl⟩ := List.mem_iff_getElem.1 ht
    have r1 := h.rng i hi
    have r2 := h.rng j hj
    simp only [List.getD_eq_getElem?_getD, List.getElem?_eq_getElem hi, List.getElem?_eq_getElem hj, Option.getD_some] at r1 r2
    apply hne
    simp only [St4.pr] at e ⊢
    have hq1 : (l[i].q).toNat < b.acc.length := by omega
    have hq2 : (l[j].q).toNat < b.acc.length := by omega
    have hd := congrArg (· / b.acc.length) e
    have hm := congrArg (· % b.acc.length) e
    simp only [Nat.mul_comm _ b.acc.length, Nat.mul_add_div (show 0 < b.acc.length by omega), Nat.div_eq_of_lt hq1, Nat.div_eq_of_lt hq2, Nat.mul_add_mod, Nat.mod_eq_of_lt hq1, Nat.mod_eq_of_lt hq2] at hd hm
    have e1 : l[i].p = l[j].p := by omega
    have e2 : l[i].q = l[j].q := by omega
    rw [e1, e2]
  · intro x hx
    obtain ⟨p, hp, rfl⟩ := List.mem_map.1 hx
    obtain ⟨s, hs, rfl⟩ := List.mem_map.1 hp
    obtain ⟨i, hi, rfl⟩ := List.mem_iff_getElem.1 hs
    have r1 := h.rng i hi
    simp only [List.getD_eq_getElem?_getD, List.getElem?_eq_getElem hi, Option.getD_some] at r1
    simp only [St4.pr]
    have h1 : (l[i].p).toNat + 1 ≤ a.acc.length := by omega
    have h2 := Nat.mul_le_mul_right b.acc.length h1
    rw [Nat.add_mul, Nat.one_mul] at h2
    omega
theorem StI.start {a b : DfaD} (ha : rightB a = true) (hb : rightB b = true) : StI a b (startS a b) 0 := by
  have h1 := (rightB_iff.1 ha).1
  have h2 := (rightB_iff.1 hb).1
  refine ⟨by simp [startS], fun i hi => ?_, fun i hi => .inl ?_, by simp [startS, prs], fun i hi => by omega⟩
  · have : i = 0 := by simp [startS] at hi; exact hi
    subst this
    exact ⟨⟨h1.2.2.2.2.2.2.1, h1.2.2.2.2.2.2.2⟩, ⟨h2.2.2.2.2.2.2.1, h2.2.2.2.2.2.2.2⟩⟩
  · have : i = 0 := by simp [startS] at hi; exact hi
    subst this
    exact ⟨rfl, rfl⟩
theorem StI.put {a b : DfaD} (ha : rightB a = true) (hb : rightB b = true) {l : List St4} {at_ : Nat} (h : StI a b l at_) (hat : at_ < l.length) {sym : Int} (hs : 0 ≤ sym ∧ sym < 259) {s : St4} (hse : s = l.getD at_ st0) : StI a b (addS a b s at_ l sym) at_ := by
  subst hse
  unfold addS putS
  split
  · exact h
  · rename_i hn
    have r := h.rng at_ hat
    have s1 := stepD_bd' ha r.1.1 r.1.2 hs
    have s2 := stepD_bd' hb r.2.1 r.2.2 hs
    have hg : ∀ i, i < l.length → (l ++ [(⟨(nxP a b (l.getD at_ st0) sym).1, (nxP a b (l.getD at_ st0) sym).2, (at_ : Int), sym⟩ : St4)]).getD i st0 = l.getD i st0 := fun i hi => getD_preS hi
    have hl : (l ++ [(⟨(nxP a b (l.getD at_ st0) sym).1, (nxP a b (l.getD at_ st0) sym).2, (at_ : Int), sym⟩ : St4)]).getD l.length st0 = ⟨(nxP a b (l.getD at_ st0) sym).1, (nxP a b (l.getD at_ st0) sym).2, (at_ : Int), sym⟩ := by
      simp [List.getD_eq_getElem?_getD]
    refine ⟨by simp, fun i hi => ?_, fun i hi => ?_, ?_, fun i hi hi2 => ?_⟩
    · by_cases e : i < l.length
      · rw [hg i e]; exact h.rng i e
      · have : i = l.length := by simp at hi; omega
        subst this
        rw [hl]; exact ⟨s1, s2⟩
    · by_cases e : i < l.length
      · rw [hg i e]
        rcases h.chain i e with c | ⟨c1, c2, c3, c4⟩
        · exact .inl c
        · exact .inr ⟨c1, c2, c3, by rw [hg _ (by omega)]; exact c4⟩
      · have : i = l.length := by simp at hi; omega
        subst this
        rw [hl]
        refine .inr ⟨by simp, by simp; omega, hs, ?_⟩
        simp only [Int.toNat_natCast]
        rw [hg at_ hat]; rfl
    · simp only [prs, List.map_append, List.map_cons, List.map_nil]
      refine List.nodup_append.2 ⟨h.nd, by simp, fun x hx y hy e => ?_⟩
      simp at hy; subst hy; subst e; exact hn hx
    · have e : i < l.length := by omega
      rw [hg i e]; exact h.old i hi e
theorem StI.fold {a b : DfaD} (ha : rightB a = true) (hb : rightB b = true) {at_ : Nat} {s : St4} : ∀ (fs : List Int) {l : List St4}, StI a b l at_ → at_ < l.length → s = l.getD at_ st0 → (∀ c, c ∈ fs → 0 ≤ c ∧ c < 259) → StI a b (fs.foldl (addS a b s at_) l) at_
  | [], l, h, _, _, _ => h
  | c :: fs, l, h, hat, hs, hc => by
    have h1 := h.put ha hb hat (hc c (by simp)) hs
    obtain ⟨r, hr, _⟩ := putS_pre l (nxP a b s c) (at_ : Int) c
    have hr' : addS a b s at_ l c = l ++ r := hr
    exact StI.fold ha hb fs h1 (by rw [hr', List.length_append]; omega) (by rw [hr', getD_preS hat]; exact hs) (fun x hx => hc x (by simp [hx]))
theorem StI.test {a b : DfaD} {l : List St4} {at_ : Nat} (h : StI a b l at_) (he : a.acc.getD (l.getD at_ st0).p.toNat false = b.acc.getD (l.getD at_ st0).q.toNat false) : StI a b l (at_ + 1) :=
  ⟨h.pos, h.rng, h.chain, h.nd, fun i hi hi2 => by
    by_cases e : i = at_
    · subst e; exact he
    · exact h.old i (by omega) hi2⟩
theorem apLoop_go {a b : DfaD} {fs : List Int} {F at_ : Nat} {l : List St4} (hF : at_ < F) (h1 : at_ < l.length) (he : a.acc.getD (l.getD at_ st0).p.toNat false = b.acc.getD (l.getD at_ st0).q.toNat false) :
    apLoop a b fs (F - at_) at_ l = apLoop a b fs (F - (at_ + 1)) (at_ + 1) (fs.foldl (addS a b (l.getD at_ st0) at_) l) := by
  have e : F - at_ = (F - (at_ + 1)) + 1 := by omega
  rw [e, apLoop, if_pos h1, if_neg (by rw [he]; simp)]
theorem apLoop_hit {a b : DfaD} {fs : List Int} {F at_ : Nat} {l : List St4} (hF : at_ < F) (h1 : at_ < l.length) (he : a.acc.getD (l.getD at_ st0).p.toNat false ≠ b.acc.getD (l.getD at_ st0).q.toNat false) :
    apLoop a b fs (F - at_) at_ l = some (wordS l at_) := by
  have e : F - at_ = (F - (at_ + 1)) + 1 := by omega
  rw [e, apLoop, if_pos h1, if_pos he]
theorem apLoop_end {a b : DfaD} {fs : List Int} {F at_ : Nat} {l : List St4} (h1 : ¬ at_ < l.length) : apLoop a b fs F at_ l = none := by
  cases F with
  | zero => rfl
  | succ F => rw [apLoop, if_neg h1]
theorem apLoop_sound {a b : DfaD} (ha : rightB a = true) (hb : rightB b = true) {fs : List Int} (hfs : ∀ c, c ∈ fs → 0 ≤ c ∧ c < 259) : ∀ (f at_ : Nat) (l : List St4) (w : List Int), StI a b l at_ → apLoop a b fs f at_ l = some w →
    ∃ l' i, StI a b l' i ∧ i < l'.length ∧ w = wordS l' i ∧ a.acc.getD (l'.getD i st0).p.toNat false ≠ b.acc.getD (l'.getD i st0).q.toNat false
  | 0, at_, l, w, _, h => by cases h
  | f + 1, at_, l, w, hI, h => by
    rw [apLoop] at h
    split at h
    · rename_i hat
      split at h
      · rename_i hne
        cases h
        exact ⟨l, at_, hI, hat, rfl, hne⟩
      · rename_i hne
        refine apLoop_sound ha hb hfs f (at_ + 1) _ w ?_ h
        have hI2 := hI.fold ha hb fs hat rfl hfs
        obtain ⟨r, hr, _⟩ := foldAddS_pre a b (l.getD at_ st0) at_ fs l
        refine hI2.test ?_
        rw [hr, getD_preS hat]
        exact Classical.not_not.1 hne
    · cases h
/-- Where one comes by a word. -/
theorem runFrom_fold {d : DfaD} : ∀ (w : List Int) (k : Nat) (q : Int), (∀ c, c ∈ w → 0 ≤ c ∧ c < 259) → k ≤ w.length → runFrom d w k q = (w.drop k).foldl (stepD d) q := by
  intro w k q hw hk
  induction hm : w.length - k generalizing k q with
  | zero => rw [runFrom_end (by omega), List.drop_eq_nil_of_le (by omega)]; rfl
  | succ m ih =>
    have hlt : k < w.length := by omega
    have hc := hw (w.getD k 0) (getD_mem' hlt)
    have e : w.drop k = w[k] :: w.drop (k + 1) := List.drop_eq_getElem_cons hlt
    have e2 : w.getD k 0 = w[k] := by simp [List.getD_eq_getElem?_getD, List.getElem?_eq_getElem hlt]
    rw [runFrom_step hlt hc.1 hc.2, ih (k + 1) _ (by omega) (by omega), e, List.foldl_cons, ← e2]
    rfl
theorem runF_fold {d : DfaD} (hr : rightB d = true) {s : Int} (h0 : 0 ≤ s ∧ s < (d.acc.length : Int)) {w : List Int} (hw : ∀ c, c ∈ w → 0 ≤ c ∧ c < 259) : runF d s w = w.foldl (stepD d) s := by
  rw [runF_go (by rw [hr]; simp) h0.1 h0.2, runFrom_fold w 0 s hw (by omega)]; simp
theorem fold_rng {d : DfaD} (hr : rightB d = true) : ∀ (w : List Int) (s : Int), 0 ≤ s ∧ s < (d.acc.length : Int) → (∀ c, c ∈ w → 0 ≤ c ∧ c < 259) → 0 ≤ w.foldl (stepD d) s ∧ w.foldl (stepD d) s < (d.acc.length : Int)
  | [], s, h, _ => h
  | c :: w, s, h, hw => fold_rng hr w _ (stepD_bd' hr h.1 h.2 (hw c (by simp))) (fun x hx => hw x (by simp [hx]))
theorem accepts_fold {d : DfaD} (hr : rightB d = true) {w : List Int} (hw : ∀ c, c ∈ w → 0 ≤ c ∧ c < 259) : acceptsB d w = d.acc.getD (w.foldl (stepD d) d.start).toNat false := by
  have hs := (rightB_iff.1 hr).1.2.2.2.2.2.2
  have h1 := runF_fold hr hs hw
  have h2 := fold_rng hr w d.start hs hw
  rw [acceptsB_yes (by rw [h1]; omega), h1]
theorem wordS_run {a b : DfaD} {l : List St4} {at_ : Nat} (h : StI a b l at_) : ∀ (i : Nat), i < l.length → (∀ c, c ∈ wordS l i → 0 ≤ c ∧ c < 259) ∧ (wordS l i).foldl (stepD a) a.start = (l.getD i st0).p ∧ (wordS l i).foldl (stepD b) b.start = (l.getD i st0).q ∧
      ∀ k, k < (wordS l i).length → ∃ j, j < i ∧ wordS l j = (wordS l i).take k := by
  intro i
  induction i using Nat.strongRecOn with
  | _ i ih =>
    intro hi
    rcases h.chain i hi with ⟨e, h1⟩ | ⟨h1, h2, h3, h4⟩
    · have hw : wordS l i = [] := wordS_end (by rw [h1]; show (-1 : Int) < 0; omega)
      rw [hw, h1]
      exact ⟨fun c hc => by simp at hc, rfl, rfl, fun k hk => by simp at hk⟩
    · obtain ⟨i1, i2, i3, i4⟩ := ih (l.getD i st0).from_.toNat (by omega) (by omega)
      have hw := wordS_step h.ch hi h1
      rw [hw]
      simp only [St4.pr, nxP, Prod.mk.injEq] at h4
      refine ⟨fun c hc => ?_, ?_, ?_, fun k hk => ?_⟩
      · rcases List.mem_append.1 hc with c1 | c1
        · exact i1 c c1
        · simp at c1; subst c1; simpa using h3
      · rw [List.foldl_append, i2, h4.1]; rfl
      · rw [List.foldl_append, i3, h4.2]; rfl
      · simp only [List.length_append, List.length_singleton] at hk
        by_cases e : k = (wordS l (l.getD i st0).from_.toNat).length
        · exact ⟨(l.getD i st0).from_.toNat, by omega, by rw [e, List.take_left]⟩
        · obtain ⟨j, j1, j2⟩ := i4 k (by omega)
          exact ⟨j, by omega, by rw [List.take_append_of_le_length (by omega)]; exact j2⟩
theorem startS_len (a b : DfaD) : (startS a b).length = 1 := rfl
/-- What the search finds tells both apart, and nothing ahead of it does. -/
theorem apart_tells {a b : DfaD} (ha : rightB a = true) (hb : rightB b = true) (hfs : ∀ c, c ∈ firstsAB a b → 0 ≤ c ∧ c < 259) :
    (∀ i, i < (apartW a b).length → acceptsB a ((apartW a b).take i) = acceptsB b ((apartW a b).take i)) ∧ apartI a b = decide (acceptsB a (apartW a b) ≠ acceptsB b (apartW a b)) := by
  have e1 : apartW a b = (apartO a b).getD [] := by rw [apartW, if_pos ⟨ha, hb⟩]
  have e2 : apartI a b = (apartO a b).isSome := by rw [apartI, if_pos ⟨ha, hb⟩]
  have hI := StI.start ha hb
  cases ho : apartO a b with
  | none =>
    rw [e1, e2, ho]
    have h0 : a.acc.getD a.start.toNat false = b.acc.getD b.start.toNat false := by
      unfold apartO at ho
      rw [apLoop, if_pos (by simp [startS])] at ho
      split at ho
      · cases ho
      · rename_i hne; exact Classical.not_not.1 hne
    refine ⟨fun i hi => by simp at hi, ?_⟩
    have a1 := accepts_fold ha (w := []) (fun c hc => by simp at hc)
    have b1 := accepts_fold hb (w := []) (fun c hc => by simp at hc)
    simp only [Option.getD_none, Option.isSome_none]
    exact (decide_eq_false (by rw [a1, b1]; exact fun h => h h0)).symm
  | some w =>
    obtain ⟨l, i, hl, hi, hw, hne⟩ := apLoop_sound ha hb hfs _ 0 (startS a b) w hI ho
    rw [e1, e2, ho]
    simp only [Option.getD_some, Option.isSome_some]
    obtain ⟨w1, w2, w3, w4⟩ := wordS_run hl i hi
    rw [hw]
    refine ⟨fun k hk => ?_, ?_⟩
    · obtain ⟨j, j1, j2⟩ := w4 k hk
      obtain ⟨v1, v2, v3, _⟩ := wordS_run hl j (by omega)
      rw [← j2, accepts_fold ha v1, accepts_fold hb v1, v2, v3]
      exact hl.old j j1 (by omega)
    · exact (decide_eq_true (by rw [accepts_fold ha w1, accepts_fold hb w1, w2, w3]; exact hne)).symm

theorem foldAddS_step {a b : DfaD} {s : St4} {at_ j : Nat} {fs : List Int} {l : List St4} (h : j < fs.length) : addS a b s at_ ((fs.take j).foldl (addS a b s at_) l) (fs.getD j 0) = (fs.take (j + 1)).foldl (addS a b s at_) l := by
  rw [take_succ_getD 0 h, List.foldl_append]; rfl
theorem foldAddS_lt {a b : DfaD} {s : St4} {at_ : Nat} {fs : List Int} {l : List St4} (h : at_ < l.length) : at_ < (fs.foldl (addS a b s at_) l).length := by
  obtain ⟨r, hr, _⟩ := foldAddS_pre a b s at_ fs l
  rw [hr, List.length_append]; omega
theorem foldAddS_get {a b : DfaD} {s : St4} {at_ : Nat} {fs : List Int} {l : List St4} (h : at_ < l.length) : (fs.foldl (addS a b s at_) l).getD at_ st0 = l.getD at_ st0 := by
  obtain ⟨r, hr, _⟩ := foldAddS_pre a b s at_ fs l
  rw [hr, getD_preS h]
/-! ### Turned -/
theorem dd_map {α β : Type} [DecidableEq α] [DecidableEq β] {f : α → β} (hf : ∀ x y, f x = f y → x = y) (l : List α) : dd (l.map f) = (dd l).map f := by
  suffices h : ∀ r : List α, dd (r.reverse.map f) = (dd r.reverse).map f by simpa using h l.reverse
  intro r
  induction r with
  | nil => simp [dd]
  | cons x r ih =>
    rw [List.reverse_cons, List.map_append, List.map_cons, List.map_nil, dd_snoc, dd_snoc, ih]
    by_cases h : x ∈ dd r.reverse
    · rw [if_pos h, if_pos (List.mem_map.2 ⟨x, h, rfl⟩)]
    · rw [if_neg h, if_neg (fun e => by obtain ⟨y, hy, he⟩ := List.mem_map.1 e; exact h (hf _ _ he ▸ hy)), List.map_append]; rfl
theorem ix_map {α β : Type} [DecidableEq α] [DecidableEq β] {f : α → β} (hf : ∀ x y, f x = f y → x = y) (x : α) : ∀ l : List α, ix (f x) (l.map f) = ix x l
  | [] => rfl
  | y :: l => by
    simp only [List.map_cons, ix]
    by_cases h : x = y
    · rw [if_pos h, if_pos (by rw [h])]
    · rw [if_neg h, if_neg (fun e => h (hf _ _ e)), ix_map hf x l]
theorem swap_inj : ∀ x y : Int × Int, Prod.swap x = Prod.swap y → x = y := fun x y h => by
  have := congrArg Prod.swap h; simpa using this
theorem zip_swap : ∀ a b : List Int, b.zip a = (a.zip b).map Prod.swap
  | [], b => by cases b <;> rfl
  | x :: a, [] => rfl
  | x :: a, y :: b => by simp [zip_swap a b]
theorem join_swap {a b : List Int} (h : a.length = b.length) : joinL b a = joinL a b ∧ joinN b a = joinN a b := by
  have e := zip_swap a b
  constructor
  · rw [joinL, joinL, if_pos h, if_pos h.symm, e]
    simp only [numL, dd_map swap_inj, List.map_map]
    apply List.map_congr_left
    intro x _
    simp only [Function.comp_apply, ix_map swap_inj]
  · rw [joinN, joinN, if_pos h, if_pos h.symm, e, dd_map swap_inj, List.length_map]
theorem firsts_swap {a b : DfaD} (h : a.cls.length = b.cls.length) : firstsAB b a = firstsAB a b := by
  unfold firstsAB; rw [(join_swap h).1, (join_swap h).2]
def St4.sw (s : St4) : St4 := ⟨s.q, s.p, s.from_, s.sym⟩
theorem getD_sw {l : List St4} {i : Nat} (h : i < l.length) : (l.map St4.sw).getD i st0 = (l.getD i st0).sw := by simp [List.getD_eq_getElem?_getD, List.getElem?_eq_getElem h]
theorem getD_sw' (l : List St4) (i : Nat) : (l.map St4.sw).getD i st0 = (l.getD i st0).sw := by
  by_cases h : i < l.length
  · exact getD_sw h
  · simp only [List.getD_eq_getElem?_getD]
    rw [List.getElem?_eq_none (by simpa using h), List.getElem?_eq_none (by omega)]; rfl
theorem revW_sw (l : List St4) : ∀ n i, revW (l.map St4.sw) n i = revW l n i
  | 0, i => rfl
  | n + 1, i => by
    rw [revW, revW, getD_sw']
    show (if (l.getD i st0).from_ < 0 then _ else (l.getD i st0).sym :: revW _ n (l.getD i st0).from_.toNat) = _
    rw [revW_sw l n]
theorem wordS_sw (l : List St4) (i : Nat) : wordS (l.map St4.sw) i = wordS l i := by rw [wordS, revW_sw]; rfl
theorem prs_sw (l : List St4) : prs (l.map St4.sw) = (prs l).map Prod.swap := by simp [prs, St4.sw, St4.pr, Function.comp_def]
theorem putS_sw (l : List St4) (p : Int × Int) (f sym : Int) : putS (l.map St4.sw) p.swap f sym = (putS l p f sym).map St4.sw := by
  unfold putS
  rw [prs_sw]
  by_cases h : p ∈ prs l
  · rw [if_pos h, if_pos (List.mem_map.2 ⟨p, h, rfl⟩)]
  · rw [if_neg h, if_neg (fun e => by obtain ⟨y, hy, he⟩ := List.mem_map.1 e; exact h (swap_inj _ _ he ▸ hy)), List.map_append]; rfl
theorem fold_sw (a b : DfaD) (s : St4) (at_ : Nat) : ∀ (fs : List Int) (l : List St4), fs.foldl (addS b a s.sw at_) (l.map St4.sw) = (fs.foldl (addS a b s at_) l).map St4.sw
  | [], l => rfl
  | c :: fs, l => by
    rw [List.foldl_cons, List.foldl_cons, ← fold_sw a b s at_ fs]
    congr 1
    exact putS_sw l (nxP a b s c) (at_ : Int) c
theorem apLoop_sw (a b : DfaD) (fs : List Int) : ∀ (f at_ : Nat) (l : List St4), apLoop b a fs f at_ (l.map St4.sw) = apLoop a b fs f at_ l
  | 0, _, _ => rfl
  | f + 1, at_, l => by
    rw [apLoop, apLoop, List.length_map, getD_sw', wordS_sw, fold_sw, apLoop_sw a b fs f]
    by_cases h : at_ < l.length
    · rw [if_pos h, if_pos h]
      show (if b.acc.getD (l.getD at_ st0).q.toNat false ≠ a.acc.getD (l.getD at_ st0).p.toNat false then _ else _) = _
      by_cases e : a.acc.getD (l.getD at_ st0).p.toNat false = b.acc.getD (l.getD at_ st0).q.toNat false
      · rw [if_neg (by rw [e]; simp), if_neg (by rw [e]; simp)]
      · rw [if_pos (fun h => e h.symm), if_pos e]
    · rw [if_neg h, if_neg h]
theorem apart_swap {a b : DfaD} : apartW b a = apartW a b ∧ apartI b a = apartI a b ∧ apartE b a = apartE a b := by
  by_cases h : rightB a = true ∧ rightB b = true
  · have hl : a.cls.length = b.cls.length := by rw [(rightB_iff.1 h.1).1.1, (rightB_iff.1 h.2).1.1]
    have ho : apartO b a = apartO a b := by
      unfold apartO
      rw [firsts_swap hl, Nat.mul_comm, ← apLoop_sw a b]
      rfl
    rw [apartW, apartW, apartI, apartI, apartE, apartE, if_pos h, if_pos h.symm, if_pos h, if_pos h.symm, if_pos h, if_pos h.symm, ho]
    exact ⟨rfl, rfl, rfl⟩
  · have h' : ¬ (rightB b = true ∧ rightB a = true) := fun e => h e.symm
    rw [apartW, apartW, apartI, apartI, apartE, apartE, if_neg h, if_neg h', if_neg h, if_neg h', if_neg h, if_neg h']
    exact ⟨rfl, rfl, rfl⟩

/-! ### The first symbols are symbols -/
theorem numL_surj {α : Type} [DecidableEq α] {l : List α} {c : Nat} (h : c < (dd l).length) : ∃ i, i < l.length ∧ (numL l).getD i 0 = (c : Int) := by
  have hm : (dd l)[c] ∈ l := (dd_mem l _).1 (List.getElem_mem h)
  obtain ⟨i, hi, e⟩ := List.mem_iff_getElem.1 hm
  refine ⟨i, hi, ?_⟩
  simp only [numL, List.getD_eq_getElem?_getD, List.getElem?_map, List.getElem?_eq_getElem hi, Option.map_some, Option.getD_some, e]
  congr 1
  have hnd := dd_nodup l
  have key : ∀ (m : List α) (c : Nat) (hc : c < m.length), m.Nodup → ix m[c] m = c := by
    intro m
    induction m with
    | nil => intro c hc; simp at hc
    | cons y m ih =>
      intro c hc hn
      cases c with
      | zero => simp [ix]
      | succ c =>
        have hc' : c < m.length := by simpa using hc
        have hn' := List.nodup_cons.1 hn
        simp only [List.getElem_cons_succ, ix]
        rw [if_neg (fun e => hn'.1 (by rw [← e]; exact List.getElem_mem hc')), ih c hc' hn'.2]
  exact key (dd l) c h hnd
theorem firstsAB_bd {a b : DfaD} (ha : rightB a = true) (hb : rightB b = true) : ∀ c, c ∈ firstsAB a b → 0 ≤ c ∧ c < 259 := by
  intro x hx
  have h1 := (rightB_iff.1 ha).1.1
  have h2 := (rightB_iff.1 hb).1.1
  have hab : a.cls.length = b.cls.length := by rw [h1, h2]
  have hz : (a.cls.zip b.cls).length = 259 := by simp [h1, h2]
  simp only [firstsAB, firstsI, joinL, joinN, if_pos hab, List.mem_map, List.mem_range] at hx
  obtain ⟨c, hc, rfl⟩ := hx
  obtain ⟨i, hi, e⟩ := numL_surj (l := a.cls.zip b.cls) (c := c) (by omega)
  have hl : (numL (a.cls.zip b.cls)).length = 259 := by simp [numL, h1, h2]
  have hm : ((c : Nat) : Int) ∈ numL (a.cls.zip b.cls) := by
    rw [← e]; exact getD_mem' (by rw [hl]; omega)
  rw [firstI, if_pos hm]
  have := ix_lt hm
  omega
end Go.Sx
