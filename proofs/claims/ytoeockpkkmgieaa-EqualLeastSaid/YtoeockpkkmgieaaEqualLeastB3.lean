/- Proved here: the least automaton is right, accepts what the automaton accepts, has no more states, all reached and no two alike; two automata have the same least one just if they accept the same. Conditions: those of each theorem. -/
import Derived.Test.YtoeockpkkmgieaaEqualLeastB2
import Derived.Test.YtoeockpkkmgieaaEqualLeastB1
namespace Go.Proofs.Ytoeockpkkmgieaa
open Go Go.Sx
set_option linter.unusedVariables false
set_option linter.unusedSimpArgs false
noncomputable def headsD (d : DfaD) : List Int := firstsI (numL (symF d)) ((dd (symF d)).length : Int)
noncomputable def numD (d : DfaD) : List Int × List Int := numLoop d (blkD d) (headsD d) 4097 0 ([d.start], [])
noncomputable def leastD (d : DfaD) : DfaD := ⟨numL (symF d), ((dd (symF d)).length : Int), 0, (numD d).2, (numD d).1.map fun s => d.acc.getD s.toNat false⟩
theorem symF_dd (d : DfaD) : 1 ≤ (dd (symF d)).length ∧ (dd (symF d)).length ≤ 259 := by
  have h1 := dd_len (symF d)
  rw [(symF_q d).len] at h1
  refine ⟨?_, h1⟩
  have h2 : (symF d).getD 0 0 ∈ symF d := getD_mem' (by rw [(symF_q d).len]; omega)
  exact List.length_pos_of_mem ((dd_mem _ _).2 h2)
theorem headsD_len (d : DfaD) : (headsD d).length = (dd (symF d)).length := by
  have := symF_dd d
  unfold headsD; rw [firstsI_len]; omega
/-- The first symbol of a class is of that class. -/
theorem headsD_at (d : DfaD) {c : Nat} (hc : c < (dd (symF d)).length) : 0 ≤ (headsD d).getD c 0 ∧ (headsD d).getD c 0 < 259 ∧ (numL (symF d)).getD ((headsD d).getD c 0).toNat 0 = (c : Int) := by
  have hw := symF_dd d
  obtain ⟨i, hi, e⟩ := numL_surj hc
  have hl : (numL (symF d)).length = 259 := by rw [numL_len, (symF_q d).len]
  have hm : (c : Int) ∈ numL (symF d) := by rw [← e]; exact getD_mem' (by rw [numL_len]; exact hi)
  have hlt := ix_lt hm
  rw [headsD, firstsI_get (by omega), firstI, if_pos hm]
  exact ⟨by omega, by omega, by rw [Int.toNat_natCast]; exact ix_get hm⟩
theorem headsD_bd (d : DfaD) : ∀ j, j < (headsD d).length → 0 ≤ (headsD d).getD j 0 ∧ (headsD d).getD j 0 < 259 := fun j hj => by
  rw [headsD_len] at hj
  have := headsD_at d hj
  exact ⟨this.1, this.2.1⟩
theorem headsD_ok (d : DfaD) : okW (headsD d) := fun c hc => by
  obtain ⟨j, hj, rfl⟩ := List.mem_iff_getElem.1 hc
  have := headsD_bd d j hj
  simpa [List.getD_eq_getElem?_getD, List.getElem?_eq_getElem hj] using this
theorem symN_bd (d : DfaD) {sym : Nat} (hs : sym < 259) : 0 ≤ (numL (symF d)).getD sym 0 ∧ (numL (symF d)).getD sym 0 < ((dd (symF d)).length : Int) := by
  have hl := (symF_q d).len
  rw [numL_getD (by omega)]
  have := ix_lt ((dd_mem (symF d) _).2 (getD_mem' (d := 0) (show sym < (symF d).length by omega)))
  omega
/-- A symbol is alike to the first one of its class. -/
theorem headsD_sym (d : DfaD) {sym : Nat} (hs : sym < 259) : SymR d ((headsD d).getD ((numL (symF d)).getD sym 0).toNat 0).toNat sym := by
  have hb := symN_bd d hs
  have hl := (symF_q d).len
  have hh := headsD_at d (c := ((numL (symF d)).getD sym 0).toNat) (by omega)
  rw [Int.toNat_of_nonneg hb.1] at hh
  refine ((symF_q d).kernel (symR_eq d 259) (by omega) hs).1 ?_
  have h1 := numG_kernel (l := symF d) (i := ((headsD d).getD ((numL (symF d)).getD sym 0).toNat 0).toNat) (k := sym) (by omega) (by omega)
  have l1 : ((headsD d).getD ((numL (symF d)).getD sym 0).toNat 0).toNat < (numL (symF d)).length := by rw [numL_len]; omega
  have l2 : sym < (numL (symF d)).length := by rw [numL_len]; omega
  have h2 : (numL (symF d))[((headsD d).getD ((numL (symF d)).getD sym 0).toNat 0).toNat]? = (numL (symF d))[sym]? := by
    rw [List.getElem?_eq_getElem l1, List.getElem?_eq_getElem l2]
    have h3 := hh.2.2
    rw [List.getD_eq_getElem?_getD, List.getElem?_eq_getElem l1, Option.getD_some] at h3
    rw [h3, List.getD_eq_getElem?_getD, List.getElem?_eq_getElem l2, Option.getD_some]
  have h4 := h1.1 h2
  have gd : ∀ k, (symF d).getD k 0 = ((symF d)[k]?).getD 0 := fun k => List.getD_eq_getElem?_getD ..
  rw [gd, gd, h4]
theorem numD_I {d : DfaD} (hr : rightB d = true) : NuI d (headsD d) (numD d) (numD d).1.length 0 := by
  have hn := (rightB_iff.1 hr).1.2.2.2.2.1
  exact NuI.loop hr (blkD_k d) (headsD_bd d) 4097 0 _ (NuI.start hr _) (by simp) (by omega)
/-- A step of the least automaton. -/
theorem leastD_step {d : DfaD} (hr : rightB d = true) {i : Nat} (hi : i < (numD d).1.length) {c : Int} (hc : 0 ≤ c ∧ c < 259) :
    (0 ≤ stepD (leastD d) (i : Int) c ∧ stepD (leastD d) (i : Int) c < ((numD d).1.length : Int)) ∧ LEq d ((numD d).1.getD (stepD (leastD d) (i : Int) c).toNat 0) d (stepD d ((numD d).1.getD i 0) c) := by
  have h := numD_I hr
  have hb := symN_bd d (sym := c.toNat) (by omega)
  have hs := headsD_sym d (sym := c.toNat) (by omega)
  have hlh := headsD_len d
  have e1 : stepD (leastD d) (i : Int) c = (numD d).2.getD (i * (headsD d).length + ((numL (symF d)).getD c.toNat 0).toNat) 0 := by
    unfold stepD
    show (numD d).2.getD (((i : Nat) : Int) * ((dd (symF d)).length : Int) + (numL (symF d)).getD c.toNat 0).toNat 0 = _
    congr 1
    rw [hlh]
    have h1 : (((i : Nat) : Int) * ((dd (symF d)).length : Int)) = ((i * (dd (symF d)).length : Nat) : Int) := by rw [Int.natCast_mul]
    omega
  have hlt : ((numL (symF d)).getD c.toNat 0).toNat < (headsD d).length := by omega
  have hm : i * (headsD d).length + ((numL (symF d)).getD c.toNat 0).toNat < (numD d).2.length := by
    rw [h.nlen]
    have h2 := Nat.mul_le_mul_right (headsD d).length (show i + 1 ≤ (numD d).1.length by omega)
    rw [Nat.add_mul, Nat.one_mul] at h2
    omega
  have hx := h.nx _ hm
  have hdv := divW (a := i) hlt
  rw [hdv.1, hdv.2] at hx
  rw [e1]
  refine ⟨hx.1, hx.2.2.trans ?_⟩
  have hri := h.rng i hi
  have h3 := hs ((numD d).1.getD i 0).toNat (by omega) (by rw [Int.toNat_of_nonneg hri.1.1]; exact hri.2)
  have h4 := headsD_at d (c := ((numL (symF d)).getD c.toNat 0).toNat) (by omega)
  rw [Int.toNat_of_nonneg hri.1.1, Int.toNat_of_nonneg hc.1, Int.toNat_of_nonneg h4.1] at h3
  exact h3
theorem leastD_accAt {d : DfaD} (hr : rightB d = true) : ∀ (w : List Int) (i : Nat), i < (numD d).1.length → okW w → accAt (leastD d) (i : Int) w = accAt d ((numD d).1.getD i 0) w
  | [], i, hi, _ => by
    show ((numD d).1.map fun s => d.acc.getD s.toNat false).getD (i : Int).toNat false = d.acc.getD ((numD d).1.getD i 0).toNat false
    rw [Int.toNat_natCast]
    simp [List.getD_eq_getElem?_getD, List.getElem?_eq_getElem hi]
  | c :: w, i, hi, hw => by
    have h1 := leastD_step hr hi hw.tail.1
    have ih := leastD_accAt hr w (stepD (leastD d) (i : Int) c).toNat (by omega) hw.tail.2
    rw [Int.toNat_of_nonneg h1.1.1] at ih
    show accAt (leastD d) (stepD (leastD d) (i : Int) c) w = accAt d (stepD d ((numD d).1.getD i 0) c) w
    rw [ih]
    exact h1.2 w hw.tail.2
theorem leastD_leq {d : DfaD} (hr : rightB d = true) {i : Nat} (hi : i < (numD d).1.length) : LEq (leastD d) (i : Int) d ((numD d).1.getD i 0) := fun w hw => leastD_accAt hr w i hi hw
theorem leastD_lang {d : DfaD} (hr : rightB d = true) : LEq (leastD d) (leastD d).start d d.start := by
  have h := numD_I hr
  have h1 := leastD_leq hr h.pos
  rw [h.head] at h1
  exact h1
/-! ### It hangs on what is accepted alone -/
theorem symR_lang {d e : DfaD} (hd : rightB d = true) (he : rightB e = true) (h : LEq d d.start e e.start) {i k : Nat} (hi : i < 259) (hk : k < 259) (hR : SymR d i k) : SymR e i k := by
  intro s hs hto
  obtain ⟨w, hw, ew⟩ := to_word he hto
  have hsd := (rightB_iff.1 hd).1.2.2.2.2.2.2
  have h1 := LEq.run w h hw
  rw [ew] at h1
  have h2 := fold_rng hd w d.start hsd hw
  have h3 := hR (w.foldl (stepD d) d.start).toNat (by omega) (by rw [Int.toNat_of_nonneg h2.1]; exact word_to hd w _ hw)
  rw [Int.toNat_of_nonneg h2.1] at h3
  exact ((h1.step (c := (i : Int)) (by omega)).symm.trans h3).trans (h1.step (c := (k : Int)) (by omega))
theorem symF_lang {d e : DfaD} (hd : rightB d = true) (he : rightB e = true) (h : LEq d d.start e e.start) : symF d = symF e :=
  ((symF_q d).congr fun i k hi hk => ⟨symR_lang hd he h hi hk, symR_lang he hd h.symm hi hk⟩).uniq (symF_q e)
theorem leastD_congr {d e : DfaD} (hd : rightB d = true) (he : rightB e = true) (h : LEq d d.start e e.start) : leastD d = leastD e := by
  have hs := symF_lang hd he h
  have hh : headsD d = headsD e := by unfold headsD; rw [hs]
  have hsd := (rightB_iff.1 hd).1.2.2.2.2.2.2
  have hse := (rightB_iff.1 he).1.2.2.2.2.2.2
  have h0 : CoI d e ([d.start], []) ([e.start], []) := by
    refine ⟨rfl, rfl, fun i hi => ?_, fun i hi => ?_, fun i hi => ?_⟩
    · have : i = 0 := by simp at hi; exact hi
      subst this; exact h
    · have : i = 0 := by simp at hi; exact hi
      subst this; exact hsd
    · have : i = 0 := by simp at hi; exact hi
      subst this; exact hse
  have hc : CoI d e (numD d) (numD e) := by
    unfold numD; rw [hh]
    exact CoI.loop hd he (blkD_k d) (blkD_k e) (headsD_ok e) 4097 0 _ _ h0
  unfold leastD
  rw [hs, hc.nx]
  congr 1
  refine List.ext_getElem (by simp [hc.len]) fun i h1 h2 => ?_
  simp only [List.length_map] at h1 h2
  have h3 := (hc.eqs i h1).acc
  simp only [List.getElem_map]
  simpa [List.getD_eq_getElem?_getD, List.getElem?_eq_getElem h1, List.getElem?_eq_getElem h2] using h3
theorem leastD_iff {d e : DfaD} (hd : rightB d = true) (he : rightB e = true) : leastD d = leastD e ↔ LEq d d.start e e.start := by
  constructor
  · intro h
    have h1 := leastD_lang hd
    have h2 := leastD_lang he
    rw [h] at h1
    exact h1.symm.trans h2
  · exact leastD_congr hd he
/-! ### What is accepted, of any numbers -/
theorem runFrom_no {d : DfaD} : ∀ (w : List Int) (k : Nat) (q : Int), (∃ i, k ≤ i ∧ i < w.length ∧ ¬ (0 ≤ w.getD i 0 ∧ w.getD i 0 < 259)) → runFrom d w k q = -1 := by
  intro w k q h
  induction hm : w.length - k generalizing k q with
  | zero => obtain ⟨i, h1, h2, _⟩ := h; omega
  | succ m ih =>
    obtain ⟨i, h1, h2, h3⟩ := h
    by_cases hb : 0 ≤ w.getD k 0 ∧ w.getD k 0 < 259
    · rw [runFrom_step (by omega) hb.1 hb.2]
      refine ih (k + 1) _ ⟨i, ?_, h2, h3⟩ (by omega)
      by_cases e : i = k
      · subst e; exact absurd hb h3
      · omega
    · exact runFrom_bad (by omega) hb
theorem accepts_bad {d : DfaD} (hr : rightB d = true) {w : List Int} (hw : ¬ okW w) : acceptsB d w = false := by
  have hs := (rightB_iff.1 hr).1.2.2.2.2.2.2
  refine acceptsB_no ?_
  rw [runF_go (by rw [hr]; simp) hs.1 hs.2, runFrom_no]
  · decide
  · refine Classical.byContradiction fun hn => hw fun c hc => ?_
    obtain ⟨i, hi, rfl⟩ := List.mem_iff_getElem.1 hc
    refine Classical.byContradiction fun h9 => hn ⟨i, by omega, hi, ?_⟩
    simpa [List.getD_eq_getElem?_getD, List.getElem?_eq_getElem hi] using h9
theorem leq_accepts {d e : DfaD} (hd : rightB d = true) (he : rightB e = true) (h : LEq d d.start e e.start) (w : List Int) : acceptsB d w = acceptsB e w := by
  by_cases hw : okW w
  · rw [accepts_fold hd hw, accepts_fold he hw]; exact h w hw
  · rw [accepts_bad hd hw, accepts_bad he hw]
end Go.Proofs.Ytoeockpkkmgieaa


/- Rounds of the numbering of states, and of the classes of symbols, in the programs' words. Conditions: those of each theorem. -/
namespace Go.Proofs.Ytoeockpkkmgieaa
open Go Go.Sx
set_option linter.unusedVariables false
set_option linter.unusedSimpArgs false
/-- The map of what was met. -/
def MetM (mm : List (Int × Int)) (met : List Int) : Prop := ∀ x, getM mm x = if x ∈ met then some ((ix x met : Nat) : Int) else none
theorem MetM.start (b : Int) : MetM (putM [] b 0) [b] := fun x => by
  rw [getM_put]
  by_cases e : x = b
  · subst e; simp [ix]
  · rw [if_neg e, if_neg (by simpa using e)]; rfl
theorem MetM.new {mm : List (Int × Int)} {met : List Int} {b : Int} (h : MetM mm met) (hb : b ∉ met) : MetM (putM mm b ((met.length : Nat) : Int)) (met ++ [b]) := fun x => by
  rw [getM_put]
  by_cases e : x = b
  · subst e; rw [if_pos rfl, if_pos (by simp), ix_snoc hb]
  · rw [if_neg e, h x]
    by_cases e2 : x ∈ met
    · rw [if_pos e2, if_pos (List.mem_append_left _ e2), ix_app _ e2]
    · rw [if_neg e2, if_neg (by simp only [List.mem_append, List.mem_singleton]; exact fun h9 => h9.elim e2 e)]
theorem nu_old {d : DfaD} {bl fs hs nx tt mx : List Int} {mj : List (Int × Int)} {s : Int} {j : Nat} (hF : (tt, mx) = (fs.take j).foldl (meetD d bl s) (hs, nx)) (hM : MetM mj (tt.map (blAt bl))) (hj : j < fs.length)
    (hc : (getM mj (blAt bl (stepD d s (fs.getD j 0)))).isSome = true) : (tt, mx ++ [(getM mj (blAt bl (stepD d s (fs.getD j 0)))).getD 0]) = (fs.take (j + 1)).foldl (meetD d bl s) (hs, nx) := by
  rw [← meetFold_step hj, ← hF]
  rw [hM] at hc ⊢
  by_cases h : blAt bl (stepD d s (fs.getD j 0)) ∈ tt.map (blAt bl)
  · unfold meetD; rw [if_pos h, if_pos h]; rfl
  · rw [if_neg h] at hc; cases hc
theorem nu_new {d : DfaD} {bl fs hs nx tt mx : List Int} {mj : List (Int × Int)} {s : Int} {j : Nat} (hF : (tt, mx) = (fs.take j).foldl (meetD d bl s) (hs, nx)) (hM : MetM mj (tt.map (blAt bl))) (hj : j < fs.length)
    (hc : ¬ (getM mj (blAt bl (stepD d s (fs.getD j 0)))).isSome = true) : (tt ++ [stepD d s (fs.getD j 0)], mx ++ [((tt.length : Nat) : Int)]) = (fs.take (j + 1)).foldl (meetD d bl s) (hs, nx) ∧
      MetM (putM mj (blAt bl (stepD d s (fs.getD j 0))) ((tt.length : Nat) : Int)) ((tt ++ [stepD d s (fs.getD j 0)]).map (blAt bl)) := by
  rw [← meetFold_step hj, ← hF]
  rw [hM] at hc
  by_cases h : blAt bl (stepD d s (fs.getD j 0)) ∈ tt.map (blAt bl)
  · rw [if_pos h] at hc; exact absurd rfl hc
  · refine ⟨by unfold meetD; rw [if_neg h], ?_⟩
    have := hM.new h
    rw [List.length_map] at this
    rw [List.map_append]; exact this
theorem NuI.at' {d : DfaD} (hr : rightB d = true) {bl fs hs nx tt mx : List Int} (hb : BlkK d bl) (hfs : ∀ j, j < fs.length → 0 ≤ fs.getD j 0 ∧ fs.getD j 0 < 259) {k j : Nat} (h : NuI d fs (hs, nx) k 0) (hk : k < hs.length) (hj : j ≤ fs.length)
    (hF : (tt, mx) = (fs.take j).foldl (meetD d bl (hs.getD k 0)) (hs, nx)) : NuI d fs (tt, mx) k j ∧ ∃ r, tt = hs ++ r := by
  rw [hF]
  refine ⟨NuI.upto hr hb hfs h hk j hj, ?_⟩
  obtain ⟨r, e⟩ := meetFold_pre d bl (hs.getD k 0) (fs.take j) (hs, nx)
  rw [← hF] at e
  exact ⟨r, e⟩
def accF (d : DfaD) (s : Int) : Bool := d.acc.getD s.toNat false
theorem acc_step {d : DfaD} {hs tt r : List Int} {k : Nat} (hk : k < hs.length) (e : tt = hs ++ r) : (hs.take k).map (accF d) ++ [d.acc.getD (hs.getD k 0).toNat false] = (tt.take (k + 1)).map (accF d) := by
  rw [e, List.take_append_of_le_length (by omega), take_succ_getD 0 hk, List.map_append]; rfl
theorem numLoop_next {d : DfaD} {bl fs hs nx tt mx : List Int} {k j : Nat} (hR : numLoop d bl fs 4097 0 ([d.start], []) = numLoop d bl fs (4097 - k) k (hs, nx)) (hk : k < hs.length) (h4 : k < 4097) (hj : j = fs.length)
    (hF : (tt, mx) = (fs.take j).foldl (meetD d bl (hs.getD k 0)) (hs, nx)) : numLoop d bl fs 4097 0 ([d.start], []) = numLoop d bl fs (4097 - (k + 1)) (k + 1) (tt, mx) := by
  subst hj
  rw [List.take_length] at hF
  rw [hR, numLoop_go h4 hk, hF]
theorem numLoop_done {d : DfaD} {bl fs hs nx : List Int} {k : Nat} (hR : numLoop d bl fs 4097 0 ([d.start], []) = numLoop d bl fs (4097 - k) k (hs, nx)) (hk : ¬ k < hs.length) : (numLoop d bl fs 4097 0 ([d.start], [])).1 = hs ∧ (numLoop d bl fs 4097 0 ([d.start], [])).2 = nx := by
  rw [hR, numLoop_end hk]; exact ⟨rfl, rfl⟩
/-! ### Classes, as the document finds them -/
def SmP (d : DfaD) (bl : List Int) (k sym j : Nat) (b : Bool) : Prop := b = true ↔ ∀ i : Nat, i < j → To d d.start (i : Int) → blAt bl (stepD d (i : Int) (k : Int)) = blAt bl (stepD d (i : Int) (sym : Int))
theorem SmP.start (d : DfaD) (bl : List Int) (k sym : Nat) : SmP d bl k sym 0 true := ⟨fun _ i hi => by omega, fun _ => rfl⟩
theorem SmP.skip {d : DfaD} {bl : List Int} {k sym j : Nat} (h : SmP d bl k sym j true) (hn : ¬ To d d.start (j : Int)) : SmP d bl k sym (j + 1) true :=
  ⟨fun _ i hi ht => by
    by_cases e : i = j
    · subst e; exact absurd ht hn
    · exact h.1 rfl i (by omega) ht, fun _ => rfl⟩
theorem SmP.step {d : DfaD} {bl : List Int} {k sym j : Nat} {p : Prop} [Decidable p] (h : SmP d bl k sym j true) (hy : To d d.start (j : Int)) (hp : p ↔ blAt bl (stepD d (j : Int) (k : Int)) = blAt bl (stepD d (j : Int) (sym : Int))) : SmP d bl k sym (j + 1) (decide p) := by
  constructor
  · intro e i hi ht
    by_cases e2 : i = j
    · subst e2; exact hp.1 (of_decide_eq_true e)
    · exact h.1 rfl i (by omega) ht
  · intro h9
    exact decide_eq_true (hp.2 (h9 j (by omega) hy))
theorem SmP.fin {d : DfaD} (hr : rightB d = true) {bl : List Int} (hb : BlkK d bl) {k sym j n : Nat} {b : Bool} (h : SmP d bl k sym j b) (hk : k < 259) (hs : sym < 259) (hn : n = d.acc.length) (hj : ¬ j < n ∨ b = false) (hj2 : j ≤ n) : b = true ↔ SymR d k sym := by
  subst hn
  have key : ∀ i : Nat, i < d.acc.length → (blAt bl (stepD d (i : Int) (k : Int)) = blAt bl (stepD d (i : Int) (sym : Int)) ↔ LEq d (stepD d (i : Int) (k : Int)) d (stepD d (i : Int) (sym : Int))) := fun i hi =>
    hb _ _ (stepD_bd' hr (by omega) (by omega) (by omega)) (stepD_bd' hr (by omega) (by omega) (by omega))
  rcases hj with hj | hj
  · have : j = d.acc.length := by omega
    subst this
    exact ⟨fun e i hi ht => (key i hi).1 (h.1 e i hi ht), fun e => h.2 fun i hi ht => (key i hi).2 (e i hi ht)⟩
  · subst hj
    refine ⟨fun e => (by cases e), fun e => h.2 fun i hi ht => (key i (by omega)).2 (e i (by omega) ht)⟩
/-- Looking for the first alike from behind. -/
def FsP (R : Nat → Nat → Prop) (q : List Int) (s : Nat) (aa y : Int) : Prop := (y < aa ∧ 0 ≤ aa ∧ aa ≤ (s : Int)) ∧ R aa.toNat s ∧ ∀ k : Nat, y < (k : Int) → (k : Int) < aa → q.getD k 0 = (k : Int) → ¬ R k s
theorem FsP.start {R : Nat → Nat → Prop} (hr : ∀ i, R i i) (q : List Int) (s : Nat) : FsP R q s (s : Int) ((s : Int) - 1) := ⟨by omega, by rw [Int.toNat_natCast]; exact hr s, fun k h1 h2 => by omega⟩
theorem FsP.fin {R : Nat → Nat → Prop} {q : List Int} {s n : Nat} {aa y : Int} (h : FsP R q s aa y) (e : EqR R n) (hs : s < n) (hq : FrQ R q s) (hy : y < 0) (hy2 : -1 ≤ y) : FrQ R (q ++ [aa]) (s + 1) := by
  refine hq.snoc h.1.2.1 h.1.2.2 h.2.1 fun k hk hR => ?_
  have h1 := hq.val k (by have := h.1; omega)
  have h2 := hq.val (q.getD k 0).toNat (by have := h.1; omega)
  have h3 : R (q.getD k 0).toNat s := e.trans _ _ _ (by have := h.1; omega) (by have := h.1; omega) hs h1.2.2.1 hR
  refine h.2.2 (q.getD k 0).toNat (by omega) (by omega) ?_ h3
  have e9 : EqR R s := ⟨fun i hi => e.refl i (by omega), fun i k hi hk => e.symm i k (by omega) (by omega), fun i j k hi hj hk => e.trans i j k (by omega) (by omega) (by omega)⟩
  have h4 := (hq.first e9) k (by rw [hq.len]; have := h.1; omega)
  rw [h4.2.2, Int.toNat_of_nonneg h4.1]
theorem heads_of {d : DfaD} {q : List Int} (hq : FrQ (SymR d) q 259) : (∀ j, j < (firstsI (numL q) ((dd q).length : Int)).length → 0 ≤ (firstsI (numL q) ((dd q).length : Int)).getD j 0 ∧ (firstsI (numL q) ((dd q).length : Int)).getD j 0 < 259) ∧ (firstsI (numL q) ((dd q).length : Int)).length ≤ 259 := by
  have e := hq.uniq (symF_q d)
  subst e
  refine ⟨headsD_bd d, ?_⟩
  have h1 := headsD_len d
  have h2 := symF_dd d
  unfold headsD at h1
  omega
end Go.Proofs.Ytoeockpkkmgieaa


/- The walks of functions, printed by wip/tools/gw.py. -/
namespace Go.Proofs.Ytoeockpkkmgieaa
open Go Go.Sx
set_option linter.unusedVariables false
set_option linter.unusedSimpArgs false
set_option maxRecDepth 20000 in
theorem miniNumber_any (d : DfaD) (dca : Option Addr) (dna : Option Addr) (dba : Option Addr) (dcc : Nat) (dnc : Nat) (dbc : Nat) (bla : Option Addr) (bl : List Int) (blc : Nat) (cla : Option Addr) (cl : List Int) (clc : Nat) (width : Int) (w : World) (rcd : RdT (tyI .i64) w (.slice dca d.cls.length dcc) d.cls) (rnd : RdT (tyI .i64) w (.slice dna d.next.length dnc) d.next) (rbd : RdT tyB w (.slice dba d.acc.length dbc) d.acc) (rbl : RdT (tyI .i64) w (.slice bla bl.length blc) bl) (rcl : RdT (tyI .i64) w (.slice cla cl.length clc) cl) (hrt : rightB d = true) (hbk : BlkK d bl) (hbl : bl.length = d.acc.length) (hfs : ∀ j, j < (firstsI cl width).length → 0 ≤ (firstsI cl width).getD j 0 ∧ (firstsI cl width).getD j 0 < 259) (hfw : (firstsI cl width).length ≤ 259) :
    Calls Try.prog 85 #[.agg #[.slice dca d.cls.length dcc, .int .i64 d.width, .int .i64 d.start, .slice dna d.next.length dnc, .slice dba d.acc.length dbc], .slice bla bl.length blc, .slice cla cl.length clc, .int .i64 width] w (Ret fun v w' => ∃ na : Option Addr, ∃ nc : Nat, ∃ ba : Option Addr, ∃ bc : Nat, v = .agg #[.slice cla cl.length clc, .int .i64 width, .int .i64 0, .slice na (((numLoop d bl (firstsI cl width) 4097 0 ([d.start], [])).2).length) nc, .slice ba (((numLoop d bl (firstsI cl width) 4097 0 ([d.start], [])).1.map (accF d)).length) bc] ∧ Upd w [] w' [rowT (tyI .i64) (.slice na (((numLoop d bl (firstsI cl width) 4097 0 ([d.start], [])).2).length) nc) 3 ((numLoop d bl (firstsI cl width) 4097 0 ([d.start], [])).2), rowT tyB (.slice ba (((numLoop d bl (firstsI cl width) 4097 0 ([d.start], [])).1.map (accF d)).length) bc) 4 ((numLoop d bl (firstsI cl width) 4097 0 ([d.start], [])).1.map (accF d))]) := by
  have hri := rightB_iff.1 hrt
  have le_rcd := rcd.le
  have le_rnd := rnd.le
  have le_rbd := rbd.le
  have le_rbl := rbl.le
  have le_rcl := rcl.le
  refine calls_of_W (args := [.agg #[.slice dca d.cls.length dcc, .int .i64 d.width, .int .i64 d.start, .slice dna d.next.length dnc, .slice dba d.acc.length dbc], .slice bla bl.length blc, .slice cla cl.length clc, .int .i64 width]) Try.func85 rfl rfl rfl ?_
  have H0 : UpG w [] w [] := UpG.nil w
  show W _ _ _ _ [(0, .agg #[.slice dca d.cls.length dcc, .int .i64 d.width, .int .i64 d.start, .slice dna d.next.length dnc, .slice dba d.acc.length dbc]), (1, .slice bla bl.length blc), (2, .slice cla cl.length clc), (3, .int .i64 width)] w
  refine W.seq ?_
  refine W.region ?_
  refine WL.op rfl (d_box rfl fun w1 u1 => ?_)
  have H1 : UpG w [] w1 [[blk w.heap.size #[.slice dca d.cls.length dcc, .int .i64 d.width, .int .i64 d.start, .slice dna d.next.length dnc, .slice dba d.acc.length dbc] 25]] := H0.new' u1
  refine WL.op rfl (d_alloc sz25 fun w2 u2 => ?_)
  have H2 : UpG w [] w2 [[blk w.heap.size #[.slice dca d.cls.length dcc, .int .i64 d.width, .int .i64 d.start, .slice dna d.next.length dnc, .slice dba d.acc.length dbc] 25], [blk w1.heap.size #[.slice none 0 0, .int .i64 0, .int .i64 0, .slice none 0 0, .slice none 0 0] 25]] := H1.new' u2
  refine WL.done (X.then_code ?_)
  refine W.seq ?_
  refine W.region ?_
  refine WL.op rfl (d_move rfl ?_)
  refine WL.op rfl (d_move rfl ?_)
  refine WL.op rfl (d_build (cs := #[.slice cla cl.length clc, .int .i64 width, .int .i64 0, .slice none 0 0, .slice none 0 0]) rfl (by kernel_rfl) ?_)
  refine WL.op rfl (d_alloc sz25 fun w3 u3 => ?_)
  have H3 : UpG w [] w3 [[blk w.heap.size #[.slice dca d.cls.length dcc, .int .i64 d.width, .int .i64 d.start, .slice dna d.next.length dnc, .slice dba d.acc.length dbc] 25], [blk w1.heap.size #[.slice none 0 0, .int .i64 0, .int .i64 0, .slice none 0 0, .slice none 0 0] 25], [blk w2.heap.size #[.slice none 0 0, .int .i64 0, .int .i64 0, .slice none 0 0, .slice none 0 0] 25]] := H2.new' u3
  refine WL.op0 (d_storeAB (us := [.slice cla cl.length clc, .int .i64 width, .int .i64 0, .slice none 0 0, .slice none 0 0]) (cs' := #[.slice cla cl.length clc, .int .i64 width, .int .i64 0, .slice none 0 0, .slice none 0 0]) sz25 rfl rfl rfl rfl (H3.blk 2 rfl) rfl rfl fun w4 u4 => ?_)
  have H4 : UpG w [] w4 [[blk w.heap.size #[.slice dca d.cls.length dcc, .int .i64 d.width, .int .i64 d.start, .slice dna d.next.length dnc, .slice dba d.acc.length dbc] 25], [blk w1.heap.size #[.slice none 0 0, .int .i64 0, .int .i64 0, .slice none 0 0, .slice none 0 0] 25], [blk w2.heap.size #[.slice cla cl.length clc, .int .i64 width, .int .i64 0, .slice none 0 0, .slice none 0 0] 25]] := H3.on 2 rfl u4
  refine WL.done (X.then_code ?_)
  refine W.seq ?_
  refine W.region ?_
  refine WL.op rfl (d_makeMap (fun a : Int => .int .i64 a) (fun a : Int => .int .i64 a) fun w5 u5 => ?_)
  have H5 : UpG w [] w5 [[blk w.heap.size #[.slice dca d.cls.length dcc, .int .i64 d.width, .int .i64 d.start, .slice dna d.next.length dnc, .slice dba d.acc.length dbc] 25], [blk w1.heap.size #[.slice none 0 0, .int .i64 0, .int .i64 0, .slice none 0 0, .slice none 0 0] 25], [blk w2.heap.size #[.slice cla cl.length clc, .int .i64 width, .int .i64 0, .slice none 0 0, .slice none 0 0] 25], [mapC (fun a : Int => .int .i64 a) (fun a : Int => .int .i64 a) w4.heap.size ([] : List (Int × Int))]] := H4.new' u5
  refine WL.op rfl (d_move rfl ?_)
  refine WL.op rfl (d_fieldAddrB fld25_2 rfl rfl ?_)
  refine WL.op rfl (d_loadB Try.underlying3 rfl rfl (H5.blk 0 rfl) rfl ?_)
  refine WL.op rfl (t_addr1 d.start.toNat (T := (tyI .i64)) rfl Try.underlying22 sz3 rfl rfl (rbl.at H5) (by omega) (by omega) ?_)
  refine WL.op rfl (t_load1 d.start.toNat 0 (T := (tyI .i64)) rfl Try.underlying3 rfl rfl (rbl.at H5) (by omega) rfl ?_)
  refine WL.op0 (d_insert (ek := (fun a : Int => .int .i64 a)) (evl := (fun a : Int => .int .i64 a)) (bl.getD d.start.toNat 0) 0 key3 Try.underlying135 rfl rfl rfl (H5.hpOf 3 rfl) fun w6 u6 => ?_)
  have H6 : UpG w [] w6 [[blk w.heap.size #[.slice dca d.cls.length dcc, .int .i64 d.width, .int .i64 d.start, .slice dna d.next.length dnc, .slice dba d.acc.length dbc] 25], [blk w1.heap.size #[.slice none 0 0, .int .i64 0, .int .i64 0, .slice none 0 0, .slice none 0 0] 25], [blk w2.heap.size #[.slice cla cl.length clc, .int .i64 width, .int .i64 0, .slice none 0 0, .slice none 0 0] 25], [mapC (fun a : Int => .int .i64 a) (fun a : Int => .int .i64 a) w4.heap.size (putM ([] : List (Int × Int)) (bl.getD d.start.toNat 0) 0)]] := H5.on 3 rfl u6
  refine WL.op rfl (d_move rfl ?_)
  refine WL.op rfl (d_assign rfl ?_)
  refine WL.done (X.then_code ?_)
  refine W.seq ?_
  refine W.region ?_
  refine WL.op rfl (d_fieldAddrB fld25_2 rfl rfl ?_)
  refine WL.op rfl (d_loadB Try.underlying3 rfl rfl (H6.blk 0 rfl) rfl ?_)
  refine WL.op rfl (t_buildSlice (T := (tyI .i64)) (xs := [d.start]) (cs := #[.int .i64 d.start]) rfl Try.underlying22 sz3 rfl rfl rfl rfl (by kernel_rfl) rfl rfl fun w7 u7 => ?_)
  have H7 : UpG w [] w7 [[blk w.heap.size #[.slice dca d.cls.length dcc, .int .i64 d.width, .int .i64 d.start, .slice dna d.next.length dnc, .slice dba d.acc.length dbc] 25], [blk w1.heap.size #[.slice none 0 0, .int .i64 0, .int .i64 0, .slice none 0 0, .slice none 0 0] 25], [blk w2.heap.size #[.slice cla cl.length clc, .int .i64 width, .int .i64 0, .slice none 0 0, .slice none 0 0] 25], [mapC (fun a : Int => .int .i64 a) (fun a : Int => .int .i64 a) w4.heap.size (putM ([] : List (Int × Int)) (bl.getD d.start.toNat 0) 0)], [rowT (tyI .i64) (.slice (some ⟨w6.heap.size, 0, none⟩) ([d.start].length) ([d.start].length)) 3 [d.start]]] := H6.new' u7
  refine WL.op rfl (d_assign rfl ?_)
  refine WL.done (X.then_code ?_)
  refine W.seq ?_
  refine W.region ?_
  refine WL.op rfl (d_move rfl ?_)
  refine WL.op rfl (d_move rfl ?_)
  refine WL.op rfl (d_call ok78 rfl (Ret.calls (firsts_any cla cl clc width w7 (rcl.at H7) ) fun _ w8 p1 => ?_))
  obtain ⟨a2_1, c2_1, rfl, u8⟩ := p1
  have H8 : UpG w [] w8 [[blk w.heap.size #[.slice dca d.cls.length dcc, .int .i64 d.width, .int .i64 d.start, .slice dna d.next.length dnc, .slice dba d.acc.length dbc] 25], [blk w1.heap.size #[.slice none 0 0, .int .i64 0, .int .i64 0, .slice none 0 0, .slice none 0 0] 25], [blk w2.heap.size #[.slice cla cl.length clc, .int .i64 width, .int .i64 0, .slice none 0 0, .slice none 0 0] 25], [mapC (fun a : Int => .int .i64 a) (fun a : Int => .int .i64 a) w4.heap.size (putM ([] : List (Int × Int)) (bl.getD d.start.toNat 0) 0)], [rowT (tyI .i64) (.slice (some ⟨w6.heap.size, 0, none⟩) ([d.start].length) ([d.start].length)) 3 [d.start]], [rowT (tyI .i64) (.slice a2_1 ((firstsI cl width).length) c2_1) 3 (firstsI cl width)]] := (H7.new' u8).re rfl
  refine WL.op rfl (d_assign rfl ?_)
  refine WL.done (X.then_code ?_)
  refine W.seq ?_
  refine W.seq ?_
  refine W.region ?_
  refine WL.op rfl (d_assign rfl ?_)
  refine WL.done (X.then_code ?_)
  refine W.block ?_
  have H9 : UpG w [] w8 [[blk w.heap.size #[.slice dca d.cls.length dcc, .int .i64 d.width, .int .i64 d.start, .slice dna d.next.length dnc, .slice dba d.acc.length dbc] 25], [blk w1.heap.size #[.slice none 0 0, .int .i64 0, .int .i64 0, .slice none 0 0, .slice none 0 0] 25], [blk w2.heap.size #[.slice cla cl.length clc, .int .i64 width, .int .i64 0, .slice none 0 0, .slice none 0 0] 25], [mapC (fun a : Int => .int .i64 a) (fun a : Int => .int .i64 a) w4.heap.size (putM ([] : List (Int × Int)) (bl.getD d.start.toNat 0) 0)], [rowT (tyI .i64) (.slice (some ⟨w6.heap.size, 0, none⟩) ([d.start].length) ([d.start].length)) 3 [d.start]], [rowT (tyI .i64) (.slice a2_1 ((firstsI cl width).length) c2_1) 3 (firstsI cl width)], [rowT (tyI .i64) (.slice none (([] : List Int).length) 0) 3 ([] : List Int)]] := H8.new' (Upd.nilRowT w8 (tyI .i64) 3)
  have H10 : UpG w [] w8 [[blk w.heap.size #[.slice dca d.cls.length dcc, .int .i64 d.width, .int .i64 d.start, .slice dna d.next.length dnc, .slice dba d.acc.length dbc] 25], [blk w1.heap.size #[.slice none 0 0, .int .i64 0, .int .i64 0, .slice none 0 0, .slice none 0 0] 25], [blk w2.heap.size #[.slice cla cl.length clc, .int .i64 width, .int .i64 0, .slice none 0 0, .slice none 0 0] 25], [mapC (fun a : Int => .int .i64 a) (fun a : Int => .int .i64 a) w4.heap.size (putM ([] : List (Int × Int)) (bl.getD d.start.toNat 0) 0)], [rowT (tyI .i64) (.slice (some ⟨w6.heap.size, 0, none⟩) ([d.start].length) ([d.start].length)) 3 [d.start]], [rowT (tyI .i64) (.slice a2_1 ((firstsI cl width).length) c2_1) 3 (firstsI cl width)], [rowT (tyI .i64) (.slice none (([] : List Int).length) 0) 3 ([] : List Int)], [rowT tyB (.slice none (([] : List Bool).length) 0) 4 ([] : List Bool)]] := H9.new' (Upd.nilRowT w8 tyB 4)
  have H11 : UpG w [] w8 [[blk w.heap.size #[.slice dca d.cls.length dcc, .int .i64 d.width, .int .i64 d.start, .slice dna d.next.length dnc, .slice dba d.acc.length dbc] 25], [blk w1.heap.size #[.slice none 0 0, .int .i64 0, .int .i64 0, .slice none 0 0, .slice none 0 0] 25], [blk w2.heap.size #[.slice cla cl.length clc, .int .i64 width, .int .i64 0, .slice none (([] : List Int).length) 0, .slice none (([] : List Bool).length) 0] 25], [mapC (fun a : Int => .int .i64 a) (fun a : Int => .int .i64 a) w4.heap.size (putM ([] : List (Int × Int)) (bl.getD d.start.toNat 0) 0)], [rowT (tyI .i64) (.slice (some ⟨w6.heap.size, 0, none⟩) ([d.start].length) ([d.start].length)) 3 [d.start]], [rowT (tyI .i64) (.slice a2_1 ((firstsI cl width).length) c2_1) 3 (firstsI cl width)], [rowT (tyI .i64) (.slice none (([] : List Int).length) 0) 3 ([] : List Int)], [rowT tyB (.slice none (([] : List Bool).length) 0) 4 ([] : List Bool)]] := H10.re rfl
  refine W.pick [13, 12, 11, 10, 9, 8, 4, 1] (Γ' := [(13, .int .i64 0), (12, .slice a2_1 ((firstsI cl width).length) c2_1), (11, .slice (some ⟨w6.heap.size, 0, none⟩) ([d.start].length) ([d.start].length)), (10, .map (some w4.heap.size)), (9, .pointer (some ⟨w2.heap.size, 0, none⟩)), (8, .pointer (some ⟨w1.heap.size, 0, none⟩)), (4, .pointer (some ⟨w.heap.size, 0, none⟩)), (1, .slice bla bl.length blc)]) rfl ?_
  refine W.loop (fun m Γ' w' => ∃ k : Nat, ∃ hs : List Int, ∃ ha : Option Addr, ∃ hc : Nat, ∃ nx : List Int, ∃ na : Option Addr, ∃ nc : Nat, ∃ ac : List Bool, ∃ ba : Option Addr, ∃ bc : Nat, ∃ mm : List (Int × Int), Γ' = [(13, .int .i64 ((k : Nat) : Int)), (12, .slice a2_1 ((firstsI cl width).length) c2_1), (11, .slice ha hs.length hc), (10, .map (some w4.heap.size)), (9, .pointer (some ⟨w2.heap.size, 0, none⟩)), (8, .pointer (some ⟨w1.heap.size, 0, none⟩)), (4, .pointer (some ⟨w.heap.size, 0, none⟩)), (1, .slice bla bl.length blc)] ∧ UpG w [] w' [[blk w.heap.size #[.slice dca d.cls.length dcc, .int .i64 d.width, .int .i64 d.start, .slice dna d.next.length dnc, .slice dba d.acc.length dbc] 25], [blk w1.heap.size #[.slice none 0 0, .int .i64 0, .int .i64 0, .slice none 0 0, .slice none 0 0] 25], [blk w2.heap.size #[.slice cla cl.length clc, .int .i64 width, .int .i64 0, .slice na nx.length nc, .slice ba ac.length bc] 25], [mapC (fun a : Int => .int .i64 a) (fun a : Int => .int .i64 a) w4.heap.size mm], [rowT (tyI .i64) (.slice ha hs.length hc) 3 hs], [rowT (tyI .i64) (.slice a2_1 ((firstsI cl width).length) c2_1) 3 (firstsI cl width)], [rowT (tyI .i64) (.slice na nx.length nc) 3 nx], [rowT tyB (.slice ba ac.length bc) 4 ac]] ∧ (k ≤ hs.length) ∧ (NuI d (firstsI cl width) (hs, nx) k 0) ∧ (MetM mm (hs.map (blAt bl))) ∧ (ac = (hs.take k).map (accF d)) ∧ ((numLoop d bl (firstsI cl width) 4097 0 ([d.start], [])) = numLoop d bl (firstsI cl width) (4097 - k) k (hs, nx)) ∧ m = 4097 - k) (4097 - 0) ⟨0, [d.start], (some ⟨w6.heap.size, 0, none⟩), [d.start].length, [], none, 0, [], none, 0, putM [] (bl.getD d.start.toNat 0) 0, rfl, (H11.re rfl), (by simp), (by exact NuI.start hrt _), (by exact MetM.start _), (by rfl), (by rfl), rfl⟩ ?_
  rintro m1 Γ1 w9 ⟨k, hs, ha, hc, nx, na, nc, ac, ba, bc, mm, rfl, H12, hk, hN, hM, hA, hR, rfl⟩
  have hbd : hs.length ≤ d.acc.length := hN.bound
  have hal : ac.length = k := by rw [hA]; simp; omega
  refine W.seq ?_
  refine W.seq ?_
  refine W.region ?_
  refine WL.op rfl (d_move rfl ?_)
  refine WL.op rfl (d_move rfl ?_)
  refine WL.op rfl (d_lenS Try.underlying22 rfl ?_)
  refine WL.op rfl (d_cmp (decide (((k : Nat) : Int) < ((hs.length : Nat) : Int))) rfl rfl rfl ?_)
  refine WL.done (X.then_code ?_)
  refine W.ite (p := ((k : Nat) : Int) < ((hs.length : Nat) : Int)) rfl (fun c167 => ?_) (fun c167 => ?_)
  · skip
    refine W.skip (X.then_code ?_)
    refine W.seq ?_
    refine W.block ?_
    refine W.seq ?_
    have hkh : k < hs.length := by omega
    have hrk := (hN.rng k hkh).1
    have hrk1 : 0 ≤ hs.getD k 0 := hrk.1
    have hrk2 : hs.getD k 0 < (d.acc.length : Int) := hrk.2
    have hnl := hN.nlen
    have hnb : nx.length ≤ 4096 * 259 := by have h8 : nx.length = k * (firstsI cl width).length + 0 := hnl; have h9 := Nat.mul_le_mul (show k ≤ 4096 by omega) hfw; omega
    refine W.region ?_
    refine WL.op rfl (d_move rfl ?_)
    refine WL.op rfl (d_move rfl ?_)
    refine WL.op rfl (t_addr1 k (T := (tyI .i64)) rfl Try.underlying22 sz3 rfl rfl (H12.rdT 4 rfl) rfl (by omega) ?_)
    refine WL.op rfl (t_load1 k 0 (T := (tyI .i64)) rfl Try.underlying3 rfl rfl (H12.rdT 4 rfl) (by omega) rfl ?_)
    refine WL.op rfl (d_assign rfl ?_)
    refine WL.done (X.then_code ?_)
    refine W.seq ?_
    refine W.regionD mixed (by kernel_rfl) fun hok1 w10 k1 => ?_
    have H13 : UpG w [] w10 [[blk w.heap.size #[.slice dca d.cls.length dcc, .int .i64 d.width, .int .i64 d.start, .slice dna d.next.length dnc, .slice dba d.acc.length dbc] 25], [blk w1.heap.size #[.slice none 0 0, .int .i64 0, .int .i64 0, .slice none 0 0, .slice none 0 0] 25], [blk w2.heap.size #[.slice cla cl.length clc, .int .i64 width, .int .i64 0, .slice na nx.length nc, .slice ba ac.length bc] 25], [mapC (fun a : Int => .int .i64 a) (fun a : Int => .int .i64 a) w4.heap.size mm], [rowT (tyI .i64) (.slice ha hs.length hc) 3 hs], [rowT (tyI .i64) (.slice a2_1 ((firstsI cl width).length) c2_1) 3 (firstsI cl width)], [rowT (tyI .i64) (.slice na nx.length nc) 3 nx], [rowT tyB (.slice ba ac.length bc) 4 ac]] := H12.kept k1
    refine WD.take hok1 0 (.pointer (some ⟨w2.heap.size, 4, none⟩)) (fun _ => True) rfl rfl rfl rfl rfl trivial (.inl ⟨rfl, fun _ _ => d_fieldAddrB fld25_4 rfl rfl ⟨rfl, rfl⟩⟩) ?_
    refine WD.take hok1 1 (.slice ba ac.length bc) (fun w' => w'.heap[w2.heap.size]? = some (.cells #[.slice cla cl.length clc, .int .i64 width, .int .i64 0, .slice na nx.length nc, .slice ba ac.length bc] 25 (0, 0))) rfl rfl rfl rfl rfl (H13.blk 2 rfl) (.inl ⟨rfl, fun _ hC => d_loadB Try.underlying23 rfl rfl hC rfl ⟨rfl, rfl⟩⟩) ?_
    refine WD.take hok1 2 (.pointer (some ⟨w.heap.size, 4, none⟩)) (fun _ => True) rfl rfl rfl rfl rfl trivial (.inl ⟨rfl, fun _ _ => d_fieldAddrB fld25_4 rfl rfl ⟨rfl, rfl⟩⟩) ?_
    refine WD.take hok1 3 (.slice dba d.acc.length dbc) (fun w' => w'.heap[w.heap.size]? = some (.cells #[.slice dca d.cls.length dcc, .int .i64 d.width, .int .i64 d.start, .slice dna d.next.length dnc, .slice dba d.acc.length dbc] 25 (0, 0))) rfl rfl rfl rfl rfl (H13.blk 0 rfl) (.inl ⟨rfl, fun _ hC => d_loadB Try.underlying23 rfl rfl hC rfl ⟨rfl, rfl⟩⟩) ?_
    refine WD.take hok1 4 (.int .i64 (hs.getD k 0)) (fun _ => True) rfl rfl rfl rfl rfl trivial (.inl ⟨rfl, fun _ _ => d_move rfl ⟨rfl, rfl⟩⟩) ?_
    refine WD.take hok1 5 (elemPtr (.slice dba d.acc.length dbc) ((hs.getD k 0).toNat)) (fun w' => RdT tyB w' (.slice dba d.acc.length dbc) d.acc) rfl rfl rfl rfl rfl (rbd.at H13) (.inl ⟨rfl, fun _ hC => t_addr1 ((hs.getD k 0).toNat) (T := tyB) rfl Try.underlying23 sz4 rfl rfl hC (by omega) (by omega) ⟨rfl, rfl⟩⟩) ?_
    refine WD.take hok1 6 (.bool (d.acc.getD ((hs.getD k 0).toNat) false)) (fun w' => RdT tyB w' (.slice dba d.acc.length dbc) d.acc) rfl rfl rfl rfl rfl (rbd.at H13) (.inl ⟨rfl, fun _ hC => t_load1 ((hs.getD k 0).toNat) false (T := tyB) rfl Try.underlying4 rfl rfl hC (by omega) rfl ⟨rfl, rfl⟩⟩) ?_
    refine WD.loud hok1 7 rfl (⟨_, [⟨1, .slice ba ac.length bc, (fun w' => w'.heap[w2.heap.size]? = some (.cells #[.slice cla cl.length clc, .int .i64 width, .int .i64 0, .slice na nx.length nc, .slice ba ac.length bc] 25 (0, 0)))⟩, ⟨0, .pointer (some ⟨w2.heap.size, 4, none⟩), (fun _ => True)⟩], rfl, rfl, rfl, rfl, rfl, rfl, t_buildSlice (T := tyB) (xs := [d.acc.getD ((hs.getD k 0).toNat) false]) (cs := #[.bool (d.acc.getD ((hs.getD k 0).toNat) false)]) rfl Try.underlying23 sz4 rfl rfl rfl rfl (by kernel_rfl) rfl rfl fun w11 u9 => ?_⟩)
    have H14 : UpG w [] w11 [[blk w.heap.size #[.slice dca d.cls.length dcc, .int .i64 d.width, .int .i64 d.start, .slice dna d.next.length dnc, .slice dba d.acc.length dbc] 25], [blk w1.heap.size #[.slice none 0 0, .int .i64 0, .int .i64 0, .slice none 0 0, .slice none 0 0] 25], [blk w2.heap.size #[.slice cla cl.length clc, .int .i64 width, .int .i64 0, .slice na nx.length nc, .slice ba ac.length bc] 25], [mapC (fun a : Int => .int .i64 a) (fun a : Int => .int .i64 a) w4.heap.size mm], [rowT (tyI .i64) (.slice ha hs.length hc) 3 hs], [rowT (tyI .i64) (.slice a2_1 ((firstsI cl width).length) c2_1) 3 (firstsI cl width)], [rowT (tyI .i64) (.slice na nx.length nc) 3 nx], [rowT tyB (.slice ba ac.length bc) 4 ac], [rowT tyB (.slice (some ⟨w10.heap.size, 0, none⟩) ([d.acc.getD ((hs.getD k 0).toNat) false].length) ([d.acc.getD ((hs.getD k 0).toNat) false].length)) 4 [d.acc.getD ((hs.getD k 0).toNat) false]]] := H13.new' u9
    refine ⟨⟨(H14.blk 2 rfl), trivial, trivial⟩, ?_⟩
    refine WD.loud hok1 8 rfl (⟨_, [], rfl, rfl, rfl, rfl, rfl, rfl, t_append (T := tyB) (xs := ac) (ys := [d.acc.getD ((hs.getD k 0).toNat) false]) rfl Try.underlying23 sz4 rfl rfl rfl (H14.ownT 7 rfl) (H14.rdT 8 rfl) (by simp only [List.length_singleton]; omega) (by simp only [List.length_singleton]; omega) fun a1 c1 w12 u10 => ?_⟩)
    have H15 : UpG w [] w12 [[blk w.heap.size #[.slice dca d.cls.length dcc, .int .i64 d.width, .int .i64 d.start, .slice dna d.next.length dnc, .slice dba d.acc.length dbc] 25], [blk w1.heap.size #[.slice none 0 0, .int .i64 0, .int .i64 0, .slice none 0 0, .slice none 0 0] 25], [blk w2.heap.size #[.slice cla cl.length clc, .int .i64 width, .int .i64 0, .slice na nx.length nc, .slice ba ac.length bc] 25], [mapC (fun a : Int => .int .i64 a) (fun a : Int => .int .i64 a) w4.heap.size mm], [rowT (tyI .i64) (.slice ha hs.length hc) 3 hs], [rowT (tyI .i64) (.slice a2_1 ((firstsI cl width).length) c2_1) 3 (firstsI cl width)], [rowT (tyI .i64) (.slice na nx.length nc) 3 nx], [rowT tyB (.slice a1 ((ac ++ [d.acc.getD ((hs.getD k 0).toNat) false]).length) c1) 4 (ac ++ [d.acc.getD ((hs.getD k 0).toNat) false])], []] := (H14.on 7 rfl u10).drop 8
    refine ⟨trivial, ?_⟩
    refine WD.take hok1 9 (.pointer (some ⟨w2.heap.size, 4, none⟩)) (fun _ => True) rfl rfl rfl rfl rfl trivial (.inl ⟨rfl, fun _ _ => d_fieldAddrB fld25_4 rfl rfl ⟨rfl, rfl⟩⟩) ?_
    refine WD.loud hok1 10 rfl (⟨_, [], rfl, rfl, rfl, rfl, rfl, rfl, d_storeB sz23 rfl rfl rfl (H15.blk 2 rfl) rfl fun w13 u11 => ?_⟩)
    have H16 : UpG w [] w13 [[blk w.heap.size #[.slice dca d.cls.length dcc, .int .i64 d.width, .int .i64 d.start, .slice dna d.next.length dnc, .slice dba d.acc.length dbc] 25], [blk w1.heap.size #[.slice none 0 0, .int .i64 0, .int .i64 0, .slice none 0 0, .slice none 0 0] 25], [blk w2.heap.size #[.slice cla cl.length clc, .int .i64 width, .int .i64 0, .slice na nx.length nc, .slice a1 ((ac ++ [d.acc.getD ((hs.getD k 0).toNat) false]).length) c1] 25], [mapC (fun a : Int => .int .i64 a) (fun a : Int => .int .i64 a) w4.heap.size mm], [rowT (tyI .i64) (.slice ha hs.length hc) 3 hs], [rowT (tyI .i64) (.slice a2_1 ((firstsI cl width).length) c2_1) 3 (firstsI cl width)], [rowT (tyI .i64) (.slice na nx.length nc) 3 nx], [rowT tyB (.slice a1 ((ac ++ [d.acc.getD ((hs.getD k 0).toNat) false]).length) c1) 4 (ac ++ [d.acc.getD ((hs.getD k 0).toNat) false])], []] := H15.on 2 rfl u11
    refine ⟨trivial, ?_⟩
    refine WD.done hok1 rfl (X.then_code ?_)
    refine W.seq ?_
    refine W.region ?_
    refine WL.op rfl (d_move rfl ?_)
    refine WL.op rfl (d_lenS Try.underlying22 rfl ?_)
    refine WL.op rfl (d_move rfl ?_)
    refine WL.done (X.then_code ?_)
    refine W.block ?_
    refine W.pick [58, 57, 56, 14, 13, 12, 11, 10, 9, 8, 4, 1] (Γ' := [(58, .int .i64 0), (57, .int .i64 (((firstsI cl width).length : Nat) : Int)), (56, .slice a2_1 ((firstsI cl width).length) c2_1), (14, .int .i64 (hs.getD k 0)), (13, .int .i64 ((k : Nat) : Int)), (12, .slice a2_1 ((firstsI cl width).length) c2_1), (11, .slice ha hs.length hc), (10, .map (some w4.heap.size)), (9, .pointer (some ⟨w2.heap.size, 0, none⟩)), (8, .pointer (some ⟨w1.heap.size, 0, none⟩)), (4, .pointer (some ⟨w.heap.size, 0, none⟩)), (1, .slice bla bl.length blc)]) rfl ?_
    refine W.loop (fun m Γ' w' => ∃ j : Nat, ∃ tt : List Int, ∃ ta : Option Addr, ∃ tc : Nat, ∃ mx : List Int, ∃ ma : Option Addr, ∃ mc : Nat, ∃ mj : List (Int × Int), Γ' = [(58, .int .i64 ((j : Nat) : Int)), (57, .int .i64 (((firstsI cl width).length : Nat) : Int)), (56, .slice a2_1 ((firstsI cl width).length) c2_1), (14, .int .i64 (hs.getD k 0)), (13, .int .i64 ((k : Nat) : Int)), (12, .slice a2_1 ((firstsI cl width).length) c2_1), (11, .slice ta tt.length tc), (10, .map (some w4.heap.size)), (9, .pointer (some ⟨w2.heap.size, 0, none⟩)), (8, .pointer (some ⟨w1.heap.size, 0, none⟩)), (4, .pointer (some ⟨w.heap.size, 0, none⟩)), (1, .slice bla bl.length blc)] ∧ UpG w [] w' [[blk w.heap.size #[.slice dca d.cls.length dcc, .int .i64 d.width, .int .i64 d.start, .slice dna d.next.length dnc, .slice dba d.acc.length dbc] 25], [blk w1.heap.size #[.slice none 0 0, .int .i64 0, .int .i64 0, .slice none 0 0, .slice none 0 0] 25], [blk w2.heap.size #[.slice cla cl.length clc, .int .i64 width, .int .i64 0, .slice ma mx.length mc, .slice a1 ((ac ++ [d.acc.getD ((hs.getD k 0).toNat) false]).length) c1] 25], [mapC (fun a : Int => .int .i64 a) (fun a : Int => .int .i64 a) w4.heap.size mj], [rowT (tyI .i64) (.slice ta tt.length tc) 3 tt], [rowT (tyI .i64) (.slice a2_1 ((firstsI cl width).length) c2_1) 3 (firstsI cl width)], [rowT (tyI .i64) (.slice ma mx.length mc) 3 mx], [rowT tyB (.slice a1 ((ac ++ [d.acc.getD ((hs.getD k 0).toNat) false]).length) c1) 4 (ac ++ [d.acc.getD ((hs.getD k 0).toNat) false])], []] ∧ (j ≤ (firstsI cl width).length) ∧ ((tt, mx) = ((firstsI cl width).take j).foldl (meetD d bl (hs.getD k 0)) (hs, nx)) ∧ (MetM mj (tt.map (blAt bl))) ∧ m = (firstsI cl width).length - j) ((firstsI cl width).length - 0) ⟨0, hs, ha, hc, nx, na, nc, mm, rfl, H16, (by omega), (by rfl), (by exact hM), rfl⟩ ?_
    rintro m2 Γ2 w14 ⟨j, tt, ta, tc, mx, ma, mc, mj, rfl, H17, hj, hF, hMj, rfl⟩
    refine W.seq ?_
    refine W.region ?_
    refine WL.op rfl (d_cmp (decide (((j : Nat) : Int) < (((firstsI cl width).length : Nat) : Int))) rfl rfl rfl ?_)
    refine WL.done (X.then_code ?_)
    refine W.seq ?_
    refine W.ite (p := ((j : Nat) : Int) < (((firstsI cl width).length : Nat) : Int)) rfl (fun c170 => ?_) (fun c170 => ?_)
    · skip
      refine W.skip (X.then_code ?_)
      refine W.seq ?_
      refine W.block ?_
      refine W.seq ?_
      refine W.region ?_
      refine WL.op rfl (t_addr1 j (T := (tyI .i64)) rfl Try.underlying22 sz3 rfl rfl (H17.rdT 5 rfl) rfl (by omega) ?_)
      refine WL.op rfl (t_load1 j 0 (T := (tyI .i64)) rfl Try.underlying3 rfl rfl (H17.rdT 5 rfl) (by omega) rfl ?_)
      refine WL.op rfl (d_assign rfl ?_)
      refine WL.done (X.then_code ?_)
      refine W.seq ?_
      have hsy := hfs j (by omega)
      have hs1 := right_sym hrt hsy.1 hsy.2
      have hi1 := right_idx hrt hrk1 hrk2 hs1.2.1 hs1.2.2.1
      have hNj := (NuI.at' hrt hbk hfs hN hkh hj hF).1
      have hbj := hNj.bound
      have hmxl : mx.length = k * (firstsI cl width).length + j := hNj.nlen
      have hmxb : mx.length ≤ 4096 * 259 + 259 := by have h9 := Nat.mul_le_mul (show k ≤ 4096 by omega) hfw; omega
      have htb : tt.length ≤ d.acc.length := hbj
      refine W.regionD mixed (by kernel_rfl) fun hok2 w15 k2 => ?_
      have H18 : UpG w [] w15 [[blk w.heap.size #[.slice dca d.cls.length dcc, .int .i64 d.width, .int .i64 d.start, .slice dna d.next.length dnc, .slice dba d.acc.length dbc] 25], [blk w1.heap.size #[.slice none 0 0, .int .i64 0, .int .i64 0, .slice none 0 0, .slice none 0 0] 25], [blk w2.heap.size #[.slice cla cl.length clc, .int .i64 width, .int .i64 0, .slice ma mx.length mc, .slice a1 ((ac ++ [d.acc.getD ((hs.getD k 0).toNat) false]).length) c1] 25], [mapC (fun a : Int => .int .i64 a) (fun a : Int => .int .i64 a) w4.heap.size mj], [rowT (tyI .i64) (.slice ta tt.length tc) 3 tt], [rowT (tyI .i64) (.slice a2_1 ((firstsI cl width).length) c2_1) 3 (firstsI cl width)], [rowT (tyI .i64) (.slice ma mx.length mc) 3 mx], [rowT tyB (.slice a1 ((ac ++ [d.acc.getD ((hs.getD k 0).toNat) false]).length) c1) 4 (ac ++ [d.acc.getD ((hs.getD k 0).toNat) false])], []] := H17.kept k2
      refine WD.take hok2 0 (.pointer (some ⟨w.heap.size, 3, none⟩)) (fun _ => True) rfl rfl rfl rfl rfl trivial (.inl ⟨rfl, fun _ _ => d_fieldAddrB fld25_3 rfl rfl ⟨rfl, rfl⟩⟩) ?_
      refine WD.take hok2 1 (.slice dna d.next.length dnc) (fun w' => w'.heap[w.heap.size]? = some (.cells #[.slice dca d.cls.length dcc, .int .i64 d.width, .int .i64 d.start, .slice dna d.next.length dnc, .slice dba d.acc.length dbc] 25 (0, 0))) rfl rfl rfl rfl rfl (H18.blk 0 rfl) (.inl ⟨rfl, fun _ hC => d_loadB Try.underlying22 rfl rfl hC rfl ⟨rfl, rfl⟩⟩) ?_
      refine WD.take hok2 2 (.int .i64 (hs.getD k 0)) (fun _ => True) rfl rfl rfl rfl rfl trivial (.inl ⟨rfl, fun _ _ => d_move rfl ⟨rfl, rfl⟩⟩) ?_
      refine WD.take hok2 3 (.pointer (some ⟨w.heap.size, 1, none⟩)) (fun _ => True) rfl rfl rfl rfl rfl trivial (.inl ⟨rfl, fun _ _ => d_fieldAddrB fld25_1 rfl rfl ⟨rfl, rfl⟩⟩) ?_
      refine WD.take hok2 4 (.int .i64 d.width) (fun w' => w'.heap[w.heap.size]? = some (.cells #[.slice dca d.cls.length dcc, .int .i64 d.width, .int .i64 d.start, .slice dna d.next.length dnc, .slice dba d.acc.length dbc] 25 (0, 0))) rfl rfl rfl rfl rfl (H18.blk 0 rfl) (.inl ⟨rfl, fun _ hC => d_loadB Try.underlying3 rfl rfl hC rfl ⟨rfl, rfl⟩⟩) ?_
      refine WD.take hok2 5 (.int .i64 ((hs.getD k 0) * d.width)) (fun _ => True) rfl rfl rfl rfl rfl trivial (.inl ⟨rfl, fun _ _ => d_mul rfl rfl (by omega) (by omega) ⟨rfl, rfl⟩⟩) ?_
      refine WD.take hok2 6 (.pointer (some ⟨w.heap.size, 0, none⟩)) (fun _ => True) rfl rfl rfl rfl rfl trivial (.inl ⟨rfl, fun _ _ => d_fieldAddrB fld25_0 rfl rfl ⟨rfl, rfl⟩⟩) ?_
      refine WD.take hok2 7 (.slice dca d.cls.length dcc) (fun w' => w'.heap[w.heap.size]? = some (.cells #[.slice dca d.cls.length dcc, .int .i64 d.width, .int .i64 d.start, .slice dna d.next.length dnc, .slice dba d.acc.length dbc] 25 (0, 0))) rfl rfl rfl rfl rfl (H18.blk 0 rfl) (.inl ⟨rfl, fun _ hC => d_loadB Try.underlying22 rfl rfl hC rfl ⟨rfl, rfl⟩⟩) ?_
      refine WD.take hok2 8 (.int .i64 ((firstsI cl width).getD j 0)) (fun _ => True) rfl rfl rfl rfl rfl trivial (.inl ⟨rfl, fun _ _ => d_move rfl ⟨rfl, rfl⟩⟩) ?_
      refine WD.take hok2 9 (elemPtr (.slice dca d.cls.length dcc) (((firstsI cl width).getD j 0).toNat)) (fun w' => RdT (tyI .i64) w' (.slice dca d.cls.length dcc) d.cls) rfl rfl rfl rfl rfl (rcd.at H18) (.inl ⟨rfl, fun _ hC => t_addr1 (((firstsI cl width).getD j 0).toNat) (T := (tyI .i64)) rfl Try.underlying22 sz3 rfl rfl hC (by omega) (by omega) ⟨rfl, rfl⟩⟩) ?_
      refine WD.take hok2 10 (.int .i64 (d.cls.getD (((firstsI cl width).getD j 0).toNat) 0)) (fun w' => RdT (tyI .i64) w' (.slice dca d.cls.length dcc) d.cls) rfl rfl rfl rfl rfl (rcd.at H18) (.inl ⟨rfl, fun _ hC => t_load1 (((firstsI cl width).getD j 0).toNat) 0 (T := (tyI .i64)) rfl Try.underlying3 rfl rfl hC (by omega) rfl ⟨rfl, rfl⟩⟩) ?_
      refine WD.take hok2 11 (.int .i64 (((hs.getD k 0) * d.width) + (d.cls.getD (((firstsI cl width).getD j 0).toNat) 0))) (fun _ => True) rfl rfl rfl rfl rfl trivial (.inl ⟨rfl, fun _ _ => d_add rfl rfl (by omega) (by omega) ⟨rfl, rfl⟩⟩) ?_
      refine WD.take hok2 12 (elemPtr (.slice dna d.next.length dnc) ((((hs.getD k 0) * d.width) + (d.cls.getD (((firstsI cl width).getD j 0).toNat) 0)).toNat)) (fun w' => RdT (tyI .i64) w' (.slice dna d.next.length dnc) d.next) rfl rfl rfl rfl rfl (rnd.at H18) (.inl ⟨rfl, fun _ hC => t_addr1 ((((hs.getD k 0) * d.width) + (d.cls.getD (((firstsI cl width).getD j 0).toNat) 0)).toNat) (T := (tyI .i64)) rfl Try.underlying22 sz3 rfl rfl hC (by omega) (by omega) ⟨rfl, rfl⟩⟩) ?_
      refine WD.take hok2 13 (.int .i64 (d.next.getD ((((hs.getD k 0) * d.width) + (d.cls.getD (((firstsI cl width).getD j 0).toNat) 0)).toNat) 0)) (fun w' => RdT (tyI .i64) w' (.slice dna d.next.length dnc) d.next) rfl rfl rfl rfl rfl (rnd.at H18) (.inl ⟨rfl, fun _ hC => t_load1 ((((hs.getD k 0) * d.width) + (d.cls.getD (((firstsI cl width).getD j 0).toNat) 0)).toNat) 0 (T := (tyI .i64)) rfl Try.underlying3 rfl rfl hC (by omega) rfl ⟨rfl, rfl⟩⟩) ?_
      refine WD.take hok2 14 (.int .i64 (d.next.getD ((((hs.getD k 0) * d.width) + (d.cls.getD (((firstsI cl width).getD j 0).toNat) 0)).toNat) 0)) (fun _ => True) rfl rfl rfl rfl rfl trivial (.inl ⟨rfl, fun _ _ => d_assign rfl ⟨rfl, rfl⟩⟩) ?_
      refine WD.done hok2 rfl (X.then_code ?_)
      refine W.pick [17, 58, 57, 56, 14, 13, 12, 11, 10, 9, 8, 4, 1] (Γ' := [(17, .int .i64 (d.next.getD ((((hs.getD k 0) * d.width) + (d.cls.getD (((firstsI cl width).getD j 0).toNat) 0)).toNat) 0)), (58, .int .i64 ((j : Nat) : Int)), (57, .int .i64 (((firstsI cl width).length : Nat) : Int)), (56, .slice a2_1 ((firstsI cl width).length) c2_1), (14, .int .i64 (hs.getD k 0)), (13, .int .i64 ((k : Nat) : Int)), (12, .slice a2_1 ((firstsI cl width).length) c2_1), (11, .slice ta tt.length tc), (10, .map (some w4.heap.size)), (9, .pointer (some ⟨w2.heap.size, 0, none⟩)), (8, .pointer (some ⟨w1.heap.size, 0, none⟩)), (4, .pointer (some ⟨w.heap.size, 0, none⟩)), (1, .slice bla bl.length blc)]) rfl ?_
      refine W.seq ?_
      refine W.region ?_
      refine WL.op rfl (d_move rfl ?_)
      refine WL.op rfl (d_move rfl ?_)
      refine WL.op rfl (d_move rfl ?_)
      refine WL.op rfl (t_addr1 ((d.next.getD ((((hs.getD k 0) * d.width) + (d.cls.getD (((firstsI cl width).getD j 0).toNat) 0)).toNat) 0).toNat) (T := (tyI .i64)) rfl Try.underlying22 sz3 rfl rfl (rbl.at H18) (by omega) (by omega) ?_)
      refine WL.op rfl (t_load1 ((d.next.getD ((((hs.getD k 0) * d.width) + (d.cls.getD (((firstsI cl width).getD j 0).toNat) 0)).toNat) 0).toNat) 0 (T := (tyI .i64)) rfl Try.underlying3 rfl rfl (rbl.at H18) (by omega) rfl ?_)
      refine WL.op rfl (d_look2 (ek := (fun a : Int => .int .i64 a)) (evl := (fun a : Int => .int .i64 a)) (bl.getD ((d.next.getD ((((hs.getD k 0) * d.width) + (d.cls.getD (((firstsI cl width).getD j 0).toNat) 0)).toNat) 0).toNat) 0) 0 key3 Try.underlying135 sz3 rfl rfl (H18.mapAt 3 rfl) ?_)
      refine WL.op rfl (d_move rfl ?_)
      refine WL.op rfl (d_extract rfl rfl ?_)
      refine WL.op rfl (d_extract rfl rfl ?_)
      refine WL.op rfl (d_assign rfl ?_)
      refine WL.op rfl (d_assign rfl ?_)
      refine WL.done (X.then_code ?_)
      refine W.seq ?_
      refine W.seq ?_
      refine W.region ?_
      refine WL.op rfl (d_move rfl ?_)
      refine WL.op rfl (d_notB rfl ?_)
      refine WL.done (X.then_code ?_)
      refine W.iteB (b := !((getM mj (bl.getD ((d.next.getD ((((hs.getD k 0) * d.width) + (d.cls.getD (((firstsI cl width).getD j 0).toNat) 0)).toNat) 0).toNat) 0)).isSome)) rfl (fun c173 => ?_) (fun c173 => ?_)
      · skip
        refine W.seq ?_
        refine W.region ?_
        refine WL.op rfl (d_move rfl ?_)
        refine WL.op rfl (d_lenS Try.underlying22 rfl ?_)
        refine WL.op rfl (d_assign rfl ?_)
        refine WL.done (X.then_code ?_)
        refine W.seq ?_
        refine W.region ?_
        refine WL.op rfl (d_move rfl ?_)
        refine WL.op rfl (d_move rfl ?_)
        refine WL.op rfl (d_move rfl ?_)
        refine WL.op rfl (t_addr1 ((d.next.getD ((((hs.getD k 0) * d.width) + (d.cls.getD (((firstsI cl width).getD j 0).toNat) 0)).toNat) 0).toNat) (T := (tyI .i64)) rfl Try.underlying22 sz3 rfl rfl (rbl.at H18) (by omega) (by omega) ?_)
        refine WL.op rfl (t_load1 ((d.next.getD ((((hs.getD k 0) * d.width) + (d.cls.getD (((firstsI cl width).getD j 0).toNat) 0)).toNat) 0).toNat) 0 (T := (tyI .i64)) rfl Try.underlying3 rfl rfl (rbl.at H18) (by omega) rfl ?_)
        refine WL.op rfl (d_move rfl ?_)
        refine WL.op0 (d_mapUpdate (ek := (fun a : Int => .int .i64 a)) (evl := (fun a : Int => .int .i64 a)) (bl.getD ((d.next.getD ((((hs.getD k 0) * d.width) + (d.cls.getD (((firstsI cl width).getD j 0).toNat) 0)).toNat) 0).toNat) 0) ((tt.length : Nat) : Int) key3 Try.underlying135 rfl rfl rfl (H18.hpOf 3 rfl) fun w16 u12 => ?_)
        have H19 : UpG w [] w16 [[blk w.heap.size #[.slice dca d.cls.length dcc, .int .i64 d.width, .int .i64 d.start, .slice dna d.next.length dnc, .slice dba d.acc.length dbc] 25], [blk w1.heap.size #[.slice none 0 0, .int .i64 0, .int .i64 0, .slice none 0 0, .slice none 0 0] 25], [blk w2.heap.size #[.slice cla cl.length clc, .int .i64 width, .int .i64 0, .slice ma mx.length mc, .slice a1 ((ac ++ [d.acc.getD ((hs.getD k 0).toNat) false]).length) c1] 25], [mapC (fun a : Int => .int .i64 a) (fun a : Int => .int .i64 a) w4.heap.size (putM mj (bl.getD ((d.next.getD ((((hs.getD k 0) * d.width) + (d.cls.getD (((firstsI cl width).getD j 0).toNat) 0)).toNat) 0).toNat) 0) ((tt.length : Nat) : Int))], [rowT (tyI .i64) (.slice ta tt.length tc) 3 tt], [rowT (tyI .i64) (.slice a2_1 ((firstsI cl width).length) c2_1) 3 (firstsI cl width)], [rowT (tyI .i64) (.slice ma mx.length mc) 3 mx], [rowT tyB (.slice a1 ((ac ++ [d.acc.getD ((hs.getD k 0).toNat) false]).length) c1) 4 (ac ++ [d.acc.getD ((hs.getD k 0).toNat) false])], []] := H18.on 3 rfl u12
        refine WL.done (X.then_code ?_)
        refine W.pick [18, 17, 58, 57, 56, 14, 13, 12, 11, 10, 9, 8, 4, 1] (Γ' := [(18, .int .i64 ((tt.length : Nat) : Int)), (17, .int .i64 (d.next.getD ((((hs.getD k 0) * d.width) + (d.cls.getD (((firstsI cl width).getD j 0).toNat) 0)).toNat) 0)), (58, .int .i64 ((j : Nat) : Int)), (57, .int .i64 (((firstsI cl width).length : Nat) : Int)), (56, .slice a2_1 ((firstsI cl width).length) c2_1), (14, .int .i64 (hs.getD k 0)), (13, .int .i64 ((k : Nat) : Int)), (12, .slice a2_1 ((firstsI cl width).length) c2_1), (11, .slice ta tt.length tc), (10, .map (some w4.heap.size)), (9, .pointer (some ⟨w2.heap.size, 0, none⟩)), (8, .pointer (some ⟨w1.heap.size, 0, none⟩)), (4, .pointer (some ⟨w.heap.size, 0, none⟩)), (1, .slice bla bl.length blc)]) rfl ?_
        refine W.region ?_
        refine WL.op rfl (d_move rfl ?_)
        refine WL.op rfl (d_move rfl ?_)
        refine WL.op rfl (t_buildSlice (T := (tyI .i64)) (xs := [d.next.getD ((((hs.getD k 0) * d.width) + (d.cls.getD (((firstsI cl width).getD j 0).toNat) 0)).toNat) 0]) (cs := #[.int .i64 (d.next.getD ((((hs.getD k 0) * d.width) + (d.cls.getD (((firstsI cl width).getD j 0).toNat) 0)).toNat) 0)]) rfl Try.underlying22 sz3 rfl rfl rfl rfl (by kernel_rfl) rfl rfl fun w17 u13 => ?_)
        have H20 : UpG w [] w17 [[blk w.heap.size #[.slice dca d.cls.length dcc, .int .i64 d.width, .int .i64 d.start, .slice dna d.next.length dnc, .slice dba d.acc.length dbc] 25], [blk w1.heap.size #[.slice none 0 0, .int .i64 0, .int .i64 0, .slice none 0 0, .slice none 0 0] 25], [blk w2.heap.size #[.slice cla cl.length clc, .int .i64 width, .int .i64 0, .slice ma mx.length mc, .slice a1 ((ac ++ [d.acc.getD ((hs.getD k 0).toNat) false]).length) c1] 25], [mapC (fun a : Int => .int .i64 a) (fun a : Int => .int .i64 a) w4.heap.size (putM mj (bl.getD ((d.next.getD ((((hs.getD k 0) * d.width) + (d.cls.getD (((firstsI cl width).getD j 0).toNat) 0)).toNat) 0).toNat) 0) ((tt.length : Nat) : Int))], [rowT (tyI .i64) (.slice ta tt.length tc) 3 tt], [rowT (tyI .i64) (.slice a2_1 ((firstsI cl width).length) c2_1) 3 (firstsI cl width)], [rowT (tyI .i64) (.slice ma mx.length mc) 3 mx], [rowT tyB (.slice a1 ((ac ++ [d.acc.getD ((hs.getD k 0).toNat) false]).length) c1) 4 (ac ++ [d.acc.getD ((hs.getD k 0).toNat) false])], [], [rowT (tyI .i64) (.slice (some ⟨w16.heap.size, 0, none⟩) ([d.next.getD ((((hs.getD k 0) * d.width) + (d.cls.getD (((firstsI cl width).getD j 0).toNat) 0)).toNat) 0].length) ([d.next.getD ((((hs.getD k 0) * d.width) + (d.cls.getD (((firstsI cl width).getD j 0).toNat) 0)).toNat) 0].length)) 3 [d.next.getD ((((hs.getD k 0) * d.width) + (d.cls.getD (((firstsI cl width).getD j 0).toNat) 0)).toNat) 0]]] := H19.new' u13
        refine WL.op rfl (t_append (T := (tyI .i64)) (xs := tt) (ys := [d.next.getD ((((hs.getD k 0) * d.width) + (d.cls.getD (((firstsI cl width).getD j 0).toNat) 0)).toNat) 0]) rfl Try.underlying22 sz3 rfl rfl rfl (H20.ownT 4 rfl) (H20.rdT 9 rfl) (by simp only [List.length_singleton]; omega) (by simp only [List.length_singleton]; omega) fun a2 c2 w18 u14 => ?_)
        have H21 : UpG w [] w18 [[blk w.heap.size #[.slice dca d.cls.length dcc, .int .i64 d.width, .int .i64 d.start, .slice dna d.next.length dnc, .slice dba d.acc.length dbc] 25], [blk w1.heap.size #[.slice none 0 0, .int .i64 0, .int .i64 0, .slice none 0 0, .slice none 0 0] 25], [blk w2.heap.size #[.slice cla cl.length clc, .int .i64 width, .int .i64 0, .slice ma mx.length mc, .slice a1 ((ac ++ [d.acc.getD ((hs.getD k 0).toNat) false]).length) c1] 25], [mapC (fun a : Int => .int .i64 a) (fun a : Int => .int .i64 a) w4.heap.size (putM mj (bl.getD ((d.next.getD ((((hs.getD k 0) * d.width) + (d.cls.getD (((firstsI cl width).getD j 0).toNat) 0)).toNat) 0).toNat) 0) ((tt.length : Nat) : Int))], [rowT (tyI .i64) (.slice a2 ((tt ++ [d.next.getD ((((hs.getD k 0) * d.width) + (d.cls.getD (((firstsI cl width).getD j 0).toNat) 0)).toNat) 0]).length) c2) 3 (tt ++ [d.next.getD ((((hs.getD k 0) * d.width) + (d.cls.getD (((firstsI cl width).getD j 0).toNat) 0)).toNat) 0])], [rowT (tyI .i64) (.slice a2_1 ((firstsI cl width).length) c2_1) 3 (firstsI cl width)], [rowT (tyI .i64) (.slice ma mx.length mc) 3 mx], [rowT tyB (.slice a1 ((ac ++ [d.acc.getD ((hs.getD k 0).toNat) false]).length) c1) 4 (ac ++ [d.acc.getD ((hs.getD k 0).toNat) false])], [], []] := (H20.on 4 rfl u14).drop 9
        refine WL.op rfl (d_assign rfl ?_)
        refine WL.done (X.then_code ?_)
        refine W.region ?_
        refine WL.op rfl (d_fieldAddrB fld25_3 rfl rfl ?_)
        refine WL.op rfl (d_loadB Try.underlying22 rfl rfl (H21.blk 2 rfl) rfl ?_)
        refine WL.op rfl (d_move rfl ?_)
        refine WL.op rfl (t_buildSlice (T := (tyI .i64)) (xs := [((tt.length : Nat) : Int)]) (cs := #[.int .i64 ((tt.length : Nat) : Int)]) rfl Try.underlying22 sz3 rfl rfl rfl rfl (by kernel_rfl) rfl rfl fun w19 u15 => ?_)
        have H22 : UpG w [] w19 [[blk w.heap.size #[.slice dca d.cls.length dcc, .int .i64 d.width, .int .i64 d.start, .slice dna d.next.length dnc, .slice dba d.acc.length dbc] 25], [blk w1.heap.size #[.slice none 0 0, .int .i64 0, .int .i64 0, .slice none 0 0, .slice none 0 0] 25], [blk w2.heap.size #[.slice cla cl.length clc, .int .i64 width, .int .i64 0, .slice ma mx.length mc, .slice a1 ((ac ++ [d.acc.getD ((hs.getD k 0).toNat) false]).length) c1] 25], [mapC (fun a : Int => .int .i64 a) (fun a : Int => .int .i64 a) w4.heap.size (putM mj (bl.getD ((d.next.getD ((((hs.getD k 0) * d.width) + (d.cls.getD (((firstsI cl width).getD j 0).toNat) 0)).toNat) 0).toNat) 0) ((tt.length : Nat) : Int))], [rowT (tyI .i64) (.slice a2 ((tt ++ [d.next.getD ((((hs.getD k 0) * d.width) + (d.cls.getD (((firstsI cl width).getD j 0).toNat) 0)).toNat) 0]).length) c2) 3 (tt ++ [d.next.getD ((((hs.getD k 0) * d.width) + (d.cls.getD (((firstsI cl width).getD j 0).toNat) 0)).toNat) 0])], [rowT (tyI .i64) (.slice a2_1 ((firstsI cl width).length) c2_1) 3 (firstsI cl width)], [rowT (tyI .i64) (.slice ma mx.length mc) 3 mx], [rowT tyB (.slice a1 ((ac ++ [d.acc.getD ((hs.getD k 0).toNat) false]).length) c1) 4 (ac ++ [d.acc.getD ((hs.getD k 0).toNat) false])], [], [], [rowT (tyI .i64) (.slice (some ⟨w18.heap.size, 0, none⟩) ([((tt.length : Nat) : Int)].length) ([((tt.length : Nat) : Int)].length)) 3 [((tt.length : Nat) : Int)]]] := H21.new' u15
        refine WL.op rfl (t_append (T := (tyI .i64)) (xs := mx) (ys := [((tt.length : Nat) : Int)]) rfl Try.underlying22 sz3 rfl rfl rfl (H22.ownT 6 rfl) (H22.rdT 10 rfl) (by simp only [List.length_singleton]; omega) (by simp only [List.length_singleton]; omega) fun a3 c3 w20 u16 => ?_)
        have H23 : UpG w [] w20 [[blk w.heap.size #[.slice dca d.cls.length dcc, .int .i64 d.width, .int .i64 d.start, .slice dna d.next.length dnc, .slice dba d.acc.length dbc] 25], [blk w1.heap.size #[.slice none 0 0, .int .i64 0, .int .i64 0, .slice none 0 0, .slice none 0 0] 25], [blk w2.heap.size #[.slice cla cl.length clc, .int .i64 width, .int .i64 0, .slice ma mx.length mc, .slice a1 ((ac ++ [d.acc.getD ((hs.getD k 0).toNat) false]).length) c1] 25], [mapC (fun a : Int => .int .i64 a) (fun a : Int => .int .i64 a) w4.heap.size (putM mj (bl.getD ((d.next.getD ((((hs.getD k 0) * d.width) + (d.cls.getD (((firstsI cl width).getD j 0).toNat) 0)).toNat) 0).toNat) 0) ((tt.length : Nat) : Int))], [rowT (tyI .i64) (.slice a2 ((tt ++ [d.next.getD ((((hs.getD k 0) * d.width) + (d.cls.getD (((firstsI cl width).getD j 0).toNat) 0)).toNat) 0]).length) c2) 3 (tt ++ [d.next.getD ((((hs.getD k 0) * d.width) + (d.cls.getD (((firstsI cl width).getD j 0).toNat) 0)).toNat) 0])], [rowT (tyI .i64) (.slice a2_1 ((firstsI cl width).length) c2_1) 3 (firstsI cl width)], [rowT (tyI .i64) (.slice a3 ((mx ++ [((tt.length : Nat) : Int)]).length) c3) 3 (mx ++ [((tt.length : Nat) : Int)])], [rowT tyB (.slice a1 ((ac ++ [d.acc.getD ((hs.getD k 0).toNat) false]).length) c1) 4 (ac ++ [d.acc.getD ((hs.getD k 0).toNat) false])], [], [], []] := (H22.on 6 rfl u16).drop 10
        refine WL.op rfl (d_fieldAddrB fld25_3 rfl rfl ?_)
        refine WL.op0 (d_storeB sz22 rfl rfl rfl (H23.blk 2 rfl) rfl fun w21 u17 => ?_)
        have H24 : UpG w [] w21 [[blk w.heap.size #[.slice dca d.cls.length dcc, .int .i64 d.width, .int .i64 d.start, .slice dna d.next.length dnc, .slice dba d.acc.length dbc] 25], [blk w1.heap.size #[.slice none 0 0, .int .i64 0, .int .i64 0, .slice none 0 0, .slice none 0 0] 25], [blk w2.heap.size #[.slice cla cl.length clc, .int .i64 width, .int .i64 0, .slice a3 ((mx ++ [((tt.length : Nat) : Int)]).length) c3, .slice a1 ((ac ++ [d.acc.getD ((hs.getD k 0).toNat) false]).length) c1] 25], [mapC (fun a : Int => .int .i64 a) (fun a : Int => .int .i64 a) w4.heap.size (putM mj (bl.getD ((d.next.getD ((((hs.getD k 0) * d.width) + (d.cls.getD (((firstsI cl width).getD j 0).toNat) 0)).toNat) 0).toNat) 0) ((tt.length : Nat) : Int))], [rowT (tyI .i64) (.slice a2 ((tt ++ [d.next.getD ((((hs.getD k 0) * d.width) + (d.cls.getD (((firstsI cl width).getD j 0).toNat) 0)).toNat) 0]).length) c2) 3 (tt ++ [d.next.getD ((((hs.getD k 0) * d.width) + (d.cls.getD (((firstsI cl width).getD j 0).toNat) 0)).toNat) 0])], [rowT (tyI .i64) (.slice a2_1 ((firstsI cl width).length) c2_1) 3 (firstsI cl width)], [rowT (tyI .i64) (.slice a3 ((mx ++ [((tt.length : Nat) : Int)]).length) c3) 3 (mx ++ [((tt.length : Nat) : Int)])], [rowT tyB (.slice a1 ((ac ++ [d.acc.getD ((hs.getD k 0).toNat) false]).length) c1) 4 (ac ++ [d.acc.getD ((hs.getD k 0).toNat) false])], [], [], []] := H23.on 2 rfl u17
        refine WL.done (X.block_normal (X.then_code ?_))
        refine W.region ?_
        refine WL.op rfl (d_add rfl rfl (by omega) (by omega) ?_)
        refine WL.op rfl (d_move rfl ?_)
        refine WL.done ?_
        exact X.next [58, 57, 56, 14, 13, 12, 11, 10, 9, 8, 4, 1] (Γ' := [(58, .int .i64 (((j + 1) : Nat) : Int)), (57, .int .i64 (((firstsI cl width).length : Nat) : Int)), (56, .slice a2_1 ((firstsI cl width).length) c2_1), (14, .int .i64 (hs.getD k 0)), (13, .int .i64 ((k : Nat) : Int)), (12, .slice a2_1 ((firstsI cl width).length) c2_1), (11, .slice a2 ((tt ++ [d.next.getD ((((hs.getD k 0) * d.width) + (d.cls.getD (((firstsI cl width).getD j 0).toNat) 0)).toNat) 0]).length) c2), (10, .map (some w4.heap.size)), (9, .pointer (some ⟨w2.heap.size, 0, none⟩)), (8, .pointer (some ⟨w1.heap.size, 0, none⟩)), (4, .pointer (some ⟨w.heap.size, 0, none⟩)), (1, .slice bla bl.length blc)]) rfl ((firstsI cl width).length - (j + 1)) (by omega) ⟨j + 1, tt ++ [d.next.getD ((((hs.getD k 0) * d.width) + (d.cls.getD (((firstsI cl width).getD j 0).toNat) 0)).toNat) 0], a2, c2, mx ++ [((tt.length : Nat) : Int)], a3, c3, putM mj (bl.getD ((d.next.getD ((((hs.getD k 0) * d.width) + (d.cls.getD (((firstsI cl width).getD j 0).toNat) 0)).toNat) 0).toNat) 0) ((tt.length : Nat) : Int), rfl, (H24.re rfl), (by omega), (by first | exact nu_old hF hMj (by omega) (bn_t c173) | exact (nu_new hF hMj (by omega) (bn_f c173)).1), (by first | exact (nu_new hF hMj (by omega) (bn_f c173)).2 | exact hMj), rfl⟩
      · skip
        refine W.skip (X.then_code ?_)
        refine W.region ?_
        refine WL.op rfl (d_fieldAddrB fld25_3 rfl rfl ?_)
        refine WL.op rfl (d_loadB Try.underlying22 rfl rfl (H18.blk 2 rfl) rfl ?_)
        refine WL.op rfl (d_move rfl ?_)
        refine WL.op rfl (t_buildSlice (T := (tyI .i64)) (xs := [(getM mj (bl.getD ((d.next.getD ((((hs.getD k 0) * d.width) + (d.cls.getD (((firstsI cl width).getD j 0).toNat) 0)).toNat) 0).toNat) 0)).getD 0]) (cs := #[.int .i64 ((getM mj (bl.getD ((d.next.getD ((((hs.getD k 0) * d.width) + (d.cls.getD (((firstsI cl width).getD j 0).toNat) 0)).toNat) 0).toNat) 0)).getD 0)]) rfl Try.underlying22 sz3 rfl rfl rfl rfl (by kernel_rfl) rfl rfl fun w22 u18 => ?_)
        have H25 : UpG w [] w22 [[blk w.heap.size #[.slice dca d.cls.length dcc, .int .i64 d.width, .int .i64 d.start, .slice dna d.next.length dnc, .slice dba d.acc.length dbc] 25], [blk w1.heap.size #[.slice none 0 0, .int .i64 0, .int .i64 0, .slice none 0 0, .slice none 0 0] 25], [blk w2.heap.size #[.slice cla cl.length clc, .int .i64 width, .int .i64 0, .slice ma mx.length mc, .slice a1 ((ac ++ [d.acc.getD ((hs.getD k 0).toNat) false]).length) c1] 25], [mapC (fun a : Int => .int .i64 a) (fun a : Int => .int .i64 a) w4.heap.size mj], [rowT (tyI .i64) (.slice ta tt.length tc) 3 tt], [rowT (tyI .i64) (.slice a2_1 ((firstsI cl width).length) c2_1) 3 (firstsI cl width)], [rowT (tyI .i64) (.slice ma mx.length mc) 3 mx], [rowT tyB (.slice a1 ((ac ++ [d.acc.getD ((hs.getD k 0).toNat) false]).length) c1) 4 (ac ++ [d.acc.getD ((hs.getD k 0).toNat) false])], [], [rowT (tyI .i64) (.slice (some ⟨w15.heap.size, 0, none⟩) ([(getM mj (bl.getD ((d.next.getD ((((hs.getD k 0) * d.width) + (d.cls.getD (((firstsI cl width).getD j 0).toNat) 0)).toNat) 0).toNat) 0)).getD 0].length) ([(getM mj (bl.getD ((d.next.getD ((((hs.getD k 0) * d.width) + (d.cls.getD (((firstsI cl width).getD j 0).toNat) 0)).toNat) 0).toNat) 0)).getD 0].length)) 3 [(getM mj (bl.getD ((d.next.getD ((((hs.getD k 0) * d.width) + (d.cls.getD (((firstsI cl width).getD j 0).toNat) 0)).toNat) 0).toNat) 0)).getD 0]]] := H18.new' u18
        refine WL.op rfl (t_append (T := (tyI .i64)) (xs := mx) (ys := [(getM mj (bl.getD ((d.next.getD ((((hs.getD k 0) * d.width) + (d.cls.getD (((firstsI cl width).getD j 0).toNat) 0)).toNat) 0).toNat) 0)).getD 0]) rfl Try.underlying22 sz3 rfl rfl rfl (H25.ownT 6 rfl) (H25.rdT 9 rfl) (by simp only [List.length_singleton]; omega) (by simp only [List.length_singleton]; omega) fun a4 c4 w23 u19 => ?_)
        have H26 : UpG w [] w23 [[blk w.heap.size #[.slice dca d.cls.length dcc, .int .i64 d.width, .int .i64 d.start, .slice dna d.next.length dnc, .slice dba d.acc.length dbc] 25], [blk w1.heap.size #[.slice none 0 0, .int .i64 0, .int .i64 0, .slice none 0 0, .slice none 0 0] 25], [blk w2.heap.size #[.slice cla cl.length clc, .int .i64 width, .int .i64 0, .slice ma mx.length mc, .slice a1 ((ac ++ [d.acc.getD ((hs.getD k 0).toNat) false]).length) c1] 25], [mapC (fun a : Int => .int .i64 a) (fun a : Int => .int .i64 a) w4.heap.size mj], [rowT (tyI .i64) (.slice ta tt.length tc) 3 tt], [rowT (tyI .i64) (.slice a2_1 ((firstsI cl width).length) c2_1) 3 (firstsI cl width)], [rowT (tyI .i64) (.slice a4 ((mx ++ [(getM mj (bl.getD ((d.next.getD ((((hs.getD k 0) * d.width) + (d.cls.getD (((firstsI cl width).getD j 0).toNat) 0)).toNat) 0).toNat) 0)).getD 0]).length) c4) 3 (mx ++ [(getM mj (bl.getD ((d.next.getD ((((hs.getD k 0) * d.width) + (d.cls.getD (((firstsI cl width).getD j 0).toNat) 0)).toNat) 0).toNat) 0)).getD 0])], [rowT tyB (.slice a1 ((ac ++ [d.acc.getD ((hs.getD k 0).toNat) false]).length) c1) 4 (ac ++ [d.acc.getD ((hs.getD k 0).toNat) false])], [], []] := (H25.on 6 rfl u19).drop 9
        refine WL.op rfl (d_fieldAddrB fld25_3 rfl rfl ?_)
        refine WL.op0 (d_storeB sz22 rfl rfl rfl (H26.blk 2 rfl) rfl fun w24 u20 => ?_)
        have H27 : UpG w [] w24 [[blk w.heap.size #[.slice dca d.cls.length dcc, .int .i64 d.width, .int .i64 d.start, .slice dna d.next.length dnc, .slice dba d.acc.length dbc] 25], [blk w1.heap.size #[.slice none 0 0, .int .i64 0, .int .i64 0, .slice none 0 0, .slice none 0 0] 25], [blk w2.heap.size #[.slice cla cl.length clc, .int .i64 width, .int .i64 0, .slice a4 ((mx ++ [(getM mj (bl.getD ((d.next.getD ((((hs.getD k 0) * d.width) + (d.cls.getD (((firstsI cl width).getD j 0).toNat) 0)).toNat) 0).toNat) 0)).getD 0]).length) c4, .slice a1 ((ac ++ [d.acc.getD ((hs.getD k 0).toNat) false]).length) c1] 25], [mapC (fun a : Int => .int .i64 a) (fun a : Int => .int .i64 a) w4.heap.size mj], [rowT (tyI .i64) (.slice ta tt.length tc) 3 tt], [rowT (tyI .i64) (.slice a2_1 ((firstsI cl width).length) c2_1) 3 (firstsI cl width)], [rowT (tyI .i64) (.slice a4 ((mx ++ [(getM mj (bl.getD ((d.next.getD ((((hs.getD k 0) * d.width) + (d.cls.getD (((firstsI cl width).getD j 0).toNat) 0)).toNat) 0).toNat) 0)).getD 0]).length) c4) 3 (mx ++ [(getM mj (bl.getD ((d.next.getD ((((hs.getD k 0) * d.width) + (d.cls.getD (((firstsI cl width).getD j 0).toNat) 0)).toNat) 0).toNat) 0)).getD 0])], [rowT tyB (.slice a1 ((ac ++ [d.acc.getD ((hs.getD k 0).toNat) false]).length) c1) 4 (ac ++ [d.acc.getD ((hs.getD k 0).toNat) false])], [], []] := H26.on 2 rfl u20
        refine WL.done (X.block_normal (X.then_code ?_))
        refine W.pick [58, 57, 56, 14, 13, 12, 11, 10, 9, 8, 4, 1] (Γ' := [(58, .int .i64 ((j : Nat) : Int)), (57, .int .i64 (((firstsI cl width).length : Nat) : Int)), (56, .slice a2_1 ((firstsI cl width).length) c2_1), (14, .int .i64 (hs.getD k 0)), (13, .int .i64 ((k : Nat) : Int)), (12, .slice a2_1 ((firstsI cl width).length) c2_1), (11, .slice ta tt.length tc), (10, .map (some w4.heap.size)), (9, .pointer (some ⟨w2.heap.size, 0, none⟩)), (8, .pointer (some ⟨w1.heap.size, 0, none⟩)), (4, .pointer (some ⟨w.heap.size, 0, none⟩)), (1, .slice bla bl.length blc)]) rfl ?_
        refine W.region ?_
        refine WL.op rfl (d_add rfl rfl (by omega) (by omega) ?_)
        refine WL.op rfl (d_move rfl ?_)
        refine WL.done ?_
        exact X.next [58, 57, 56, 14, 13, 12, 11, 10, 9, 8, 4, 1] (Γ' := [(58, .int .i64 (((j + 1) : Nat) : Int)), (57, .int .i64 (((firstsI cl width).length : Nat) : Int)), (56, .slice a2_1 ((firstsI cl width).length) c2_1), (14, .int .i64 (hs.getD k 0)), (13, .int .i64 ((k : Nat) : Int)), (12, .slice a2_1 ((firstsI cl width).length) c2_1), (11, .slice ta tt.length tc), (10, .map (some w4.heap.size)), (9, .pointer (some ⟨w2.heap.size, 0, none⟩)), (8, .pointer (some ⟨w1.heap.size, 0, none⟩)), (4, .pointer (some ⟨w.heap.size, 0, none⟩)), (1, .slice bla bl.length blc)]) rfl ((firstsI cl width).length - (j + 1)) (by omega) ⟨j + 1, tt, ta, tc, mx ++ [(getM mj (bl.getD ((d.next.getD ((((hs.getD k 0) * d.width) + (d.cls.getD (((firstsI cl width).getD j 0).toNat) 0)).toNat) 0).toNat) 0)).getD 0], a4, c4, mj, rfl, (H27.re rfl), (by omega), (by first | exact nu_old hF hMj (by omega) (bn_t c173) | exact (nu_new hF hMj (by omega) (bn_f c173)).1), (by first | exact (nu_new hF hMj (by omega) (bn_f c173)).2 | exact hMj), rfl⟩
    · skip
      refine W.exit (X.then_exit (X.then_exit (X.block_exit (X.block_normal (X.then_code ?_)))))
      refine W.region ?_
      refine WL.op rfl (d_move rfl ?_)
      refine WL.op rfl (d_add rfl rfl (by omega) (by omega) ?_)
      refine WL.op rfl (d_assign rfl ?_)
      refine WL.done ?_
      obtain ⟨rr, hrr⟩ := (NuI.at' hrt hbk hfs hN hkh hj hF).2
      have hkt : k + 1 ≤ tt.length := by rw [hrr]; simp; omega
      exact X.next [13, 12, 11, 10, 9, 8, 4, 1] (Γ' := [(13, .int .i64 (((k + 1) : Nat) : Int)), (12, .slice a2_1 ((firstsI cl width).length) c2_1), (11, .slice ta tt.length tc), (10, .map (some w4.heap.size)), (9, .pointer (some ⟨w2.heap.size, 0, none⟩)), (8, .pointer (some ⟨w1.heap.size, 0, none⟩)), (4, .pointer (some ⟨w.heap.size, 0, none⟩)), (1, .slice bla bl.length blc)]) rfl (4097 - (k + 1)) (by omega) ⟨k + 1, tt, ta, tc, mx, ma, mc, ac ++ [d.acc.getD ((hs.getD k 0).toNat) false], a1, c1, mj, rfl, (H17.re rfl), (by omega), (by exact (NuI.at' hrt hbk hfs hN hkh hj hF).1.next (by omega)), (by exact hMj), (by rw [hA]; exact acc_step hkh hrr), (by exact numLoop_next hR hkh (by omega) (by omega) hF), rfl⟩
  · skip
    refine W.exit (X.then_exit (X.then_exit (X.block_exit (X.then_code ?_))))
    refine W.seq ?_
    refine W.region ?_
    refine WL.op rfl (d_loadAB [.slice cla cl.length clc, .int .i64 width, .int .i64 0, .slice na nx.length nc, .slice ba ac.length bc] Try.underlying25 rfl sz25 rfl (H12.blk 2 rfl) rfl rfl ?_)
    refine WL.op0 (d_storeAB (us := [.slice cla cl.length clc, .int .i64 width, .int .i64 0, .slice na nx.length nc, .slice ba ac.length bc]) (cs' := #[.slice cla cl.length clc, .int .i64 width, .int .i64 0, .slice na nx.length nc, .slice ba ac.length bc]) sz25 rfl rfl rfl rfl (H12.blk 1 rfl) rfl rfl fun w25 u21 => ?_)
    have H28 : UpG w [] w25 [[blk w.heap.size #[.slice dca d.cls.length dcc, .int .i64 d.width, .int .i64 d.start, .slice dna d.next.length dnc, .slice dba d.acc.length dbc] 25], [blk w1.heap.size #[.slice cla cl.length clc, .int .i64 width, .int .i64 0, .slice na nx.length nc, .slice ba ac.length bc] 25], [blk w2.heap.size #[.slice cla cl.length clc, .int .i64 width, .int .i64 0, .slice na nx.length nc, .slice ba ac.length bc] 25], [mapC (fun a : Int => .int .i64 a) (fun a : Int => .int .i64 a) w4.heap.size mm], [rowT (tyI .i64) (.slice ha hs.length hc) 3 hs], [rowT (tyI .i64) (.slice a2_1 ((firstsI cl width).length) c2_1) 3 (firstsI cl width)], [rowT (tyI .i64) (.slice na nx.length nc) 3 nx], [rowT tyB (.slice ba ac.length bc) 4 ac]] := H12.on 1 rfl u21
    refine WL.done (X.then_code ?_)
    refine W.ret (X.retR1 rfl (rv_cellA [.slice cla cl.length clc, .int .i64 width, .int .i64 0, .slice na nx.length nc, .slice ba ac.length bc] Try.underlying25 rfl sz25 rfl (H28.blk 1 rfl) rfl rfl) ?_)
    obtain ⟨hn1, hn2⟩ := numLoop_done hR (by omega)
    have e1 : (numLoop d bl (firstsI cl width) 4097 0 ([d.start], [])).1.map (accF d) = ac := by rw [hn1, hA, List.take_of_length_le (by omega)]
    rw [e1, hn2]
    exact ⟨na, nc, ba, bc, (by rfl), (Upd.sel H28 (l := [6, 7]) rfl rfl)⟩
end Go.Proofs.Ytoeockpkkmgieaa


/- The walks of functions, printed by wip/tools/gw.py. -/
namespace Go.Proofs.Ytoeockpkkmgieaa
open Go Go.Sx
set_option linter.unusedVariables false
set_option linter.unusedSimpArgs false
set_option maxRecDepth 20000 in
theorem used_any (d : DfaD) (dca : Option Addr) (dna : Option Addr) (dba : Option Addr) (dcc : Nat) (dnc : Nat) (dbc : Nat) (w : World) (rcd : RdT (tyI .i64) w (.slice dca d.cls.length dcc) d.cls) (rnd : RdT (tyI .i64) w (.slice dna d.next.length dnc) d.next) (rbd : RdT tyB w (.slice dba d.acc.length dbc) d.acc) (hl : d.cls.length ≤ 1000) :
    Calls Try.prog 57 #[.agg #[.slice dca d.cls.length dcc, .int .i64 d.width, .int .i64 d.start, .slice dna d.next.length dnc, .slice dba d.acc.length dbc]] w (Ret fun v w' => ∃ a2 : Option Addr, ∃ c2 : Nat, v = .slice a2 ((usedI d).length) c2 ∧ Upd w [] w' [rowT (tyI .i64) (.slice a2 ((usedI d).length) c2) 3 (usedI d)]) := by
  have le_rcd := rcd.le
  have le_rnd := rnd.le
  have le_rbd := rbd.le
  refine calls_of_W (args := [.agg #[.slice dca d.cls.length dcc, .int .i64 d.width, .int .i64 d.start, .slice dna d.next.length dnc, .slice dba d.acc.length dbc]]) Try.func57 rfl rfl rfl ?_
  have H0 : UpG w [] w [] := UpG.nil w
  show W _ _ _ _ [(0, .agg #[.slice dca d.cls.length dcc, .int .i64 d.width, .int .i64 d.start, .slice dna d.next.length dnc, .slice dba d.acc.length dbc])] w
  refine W.seq ?_
  refine W.region ?_
  refine WL.op rfl (d_box rfl fun w1 u1 => ?_)
  have H1 : UpG w [] w1 [[blk w.heap.size #[.slice dca d.cls.length dcc, .int .i64 d.width, .int .i64 d.start, .slice dna d.next.length dnc, .slice dba d.acc.length dbc] 25]] := H0.new' u1
  refine WL.op rfl (d_assign rfl ?_)
  refine WL.done (X.then_code ?_)
  refine W.seq ?_
  refine W.region ?_
  refine WL.op rfl (d_fieldAddrB fld25_0 rfl rfl ?_)
  refine WL.op rfl (d_loadB Try.underlying22 rfl rfl (H1.blk 0 rfl) rfl ?_)
  refine WL.op rfl (d_call ok66 rfl (Ret.calls (cloneI_any dca d.cls dcc d.cls.length w1 (rcd.at H1) (by omega)) fun _ w2 p1 => ?_))
  obtain ⟨a2_1, c2_1, rfl, u2⟩ := p1
  have H2 : UpG w [] w2 [[blk w.heap.size #[.slice dca d.cls.length dcc, .int .i64 d.width, .int .i64 d.start, .slice dna d.next.length dnc, .slice dba d.acc.length dbc] 25], [rowT (tyI .i64) (.slice a2_1 d.cls.length c2_1) 3 d.cls]] := (H1.new' u2).re rfl
  refine WL.op rfl (d_assign rfl ?_)
  refine WL.done (X.then_code ?_)
  refine W.seq ?_
  refine W.region ?_
  refine WL.op rfl (d_move rfl ?_)
  refine WL.op rfl (d_call ok90 rfl (Ret.calls (sort_any a2_1 d.cls c2_1 d.cls.length w2 (H2.hpOf 1 rfl)  rfl (by omega)) fun _ w3 p2 => ?_))
  obtain ⟨rfl, u3⟩ := p2
  have H3 : UpG w [] w3 [[blk w.heap.size #[.slice dca d.cls.length dcc, .int .i64 d.width, .int .i64 d.start, .slice dna d.next.length dnc, .slice dba d.acc.length dbc] 25], [rowT (tyI .i64) (.slice a2_1 d.cls.length c2_1) 3 (sortI d.cls)]] := H2.on 1 rfl u3
  refine WL.done (X.then_code ?_)
  refine W.seq ?_
  refine W.region ?_
  refine WL.op rfl (d_move rfl ?_)
  refine WL.op rfl (d_call ok91 rfl (Ret.calls (compact_any a2_1 (sortI d.cls) c2_1 d.cls.length w3 (H3.hpOf 1 rfl)  ((sortI_len _).symm) (by rw [sortI_len]; omega)) fun _ w4 p3 => ?_))
  obtain ⟨rfl, u4⟩ := p3
  have H4 : UpG w [] w4 [[blk w.heap.size #[.slice dca d.cls.length dcc, .int .i64 d.width, .int .i64 d.start, .slice dna d.next.length dnc, .slice dba d.acc.length dbc] 25], [rowT (tyI .i64) (.slice a2_1 ((Lib.compact (sortI d.cls)).length) c2_1) 3 (Lib.compact (sortI d.cls))]] := H3.on 1 rfl u4
  refine WL.op rfl (d_assign rfl ?_)
  refine WL.done (X.then_code ?_)
  refine W.ret (X.ret1 rfl rfl ?_)
  exact ⟨a2_1, c2_1, (by rfl), (by have hh := H4.one 1 rfl; exact hh)⟩
end Go.Proofs.Ytoeockpkkmgieaa


/- The walks of functions, printed by wip/tools/gw.py. -/
namespace Go.Proofs.Ytoeockpkkmgieaa
open Go Go.Sx
set_option linter.unusedVariables false
set_option linter.unusedSimpArgs false
set_option maxRecDepth 20000 in
theorem spreadR_any (todoa : Option Addr) (todo : List Int) (todoc : Nat) (n : Nat) (next : FuncId) (nextc : List Value) (nx : Int → List Int) (w : World) (hp : Hp w [rowT (tyI .i64) (.slice todoa todo.length todoc) 3 todo]) (hn : n ≤ 5000 ∧ todo.length ≤ 5000) (hr : ∀ t, t ∈ todo → 0 ≤ t ∧ t < (n : Int)) (hnx : ∀ s, 0 ≤ s → s < (n : Int) → (nx s).length ≤ 2000000 ∧ ∀ t, t ∈ nx s → 0 ≤ t ∧ t < (n : Int)) (hok : CallOk Try.prog next) (hf : ClosR Try.prog next nextc nx n (ats [rowT (tyI .i64) (.slice todoa todo.length todoc) 3 todo]) w) :
    Calls Try.prog 58 #[.slice todoa todo.length todoc, .int .i64 ((n : Nat) : Int), .func (.func next) #[] nextc.toArray] w (Ret fun v w' => ∃ a2 : Option Addr, ∃ o2 : List Bool, ∃ c2 : Nat, v = .slice a2 o2.length c2 ∧ Upd w [rowT (tyI .i64) (.slice todoa todo.length todoc) 3 todo] w' [rowT tyB (.slice a2 o2.length c2) 4 o2] ∧ (SprF nx n todo o2)) := by
  refine calls_of_W (args := [.slice todoa todo.length todoc, .int .i64 ((n : Nat) : Int), .func (.func next) #[] nextc.toArray]) Try.func58 rfl rfl rfl ?_
  have H0 : UpG w [rowT (tyI .i64) (.slice todoa todo.length todoc) 3 todo] w [[rowT (tyI .i64) (.slice todoa todo.length todoc) 3 todo]] := (UpG.refl hp).re rfl
  show W _ _ _ _ [(0, .slice todoa todo.length todoc), (1, .int .i64 ((n : Nat) : Int)), (2, .func (.func next) #[] nextc.toArray)] w
  refine W.seq ?_
  refine W.region ?_
  refine WL.op rfl (d_assign rfl ?_)
  refine WL.done (X.then_code ?_)
  refine W.seq ?_
  refine W.region ?_
  refine WL.op rfl (d_move rfl ?_)
  refine WL.op rfl (t_make n false (T := tyB) rfl Try.underlying23 sz4 rfl rfl rfl rfl (by omega) (by omega) fun w1 u1 => ?_)
  have H1 : UpG w [rowT (tyI .i64) (.slice todoa todo.length todoc) 3 todo] w1 [[rowT (tyI .i64) (.slice todoa todo.length todoc) 3 todo], [rowT tyB (.slice (some ⟨w.heap.size, 0, none⟩) ((List.replicate n false).length) n) 4 (List.replicate n false)]] := H0.new' u1
  refine WL.op rfl (d_assign rfl ?_)
  refine WL.done (X.then_code ?_)
  refine W.seq ?_
  refine W.seq ?_
  refine W.region ?_
  refine WL.op rfl (d_move rfl ?_)
  refine WL.op rfl (d_lenS Try.underlying22 rfl ?_)
  refine WL.op rfl (d_move rfl ?_)
  refine WL.done (X.then_code ?_)
  refine W.block ?_
  refine W.pick [17, 16, 15, 7, 6, 0, 2] (Γ' := [(17, .int .i64 0), (16, .int .i64 ((todo.length : Nat) : Int)), (15, .slice todoa todo.length todoc), (7, .slice (some ⟨w.heap.size, 0, none⟩) ((List.replicate n false).length) n), (6, .slice none 0 0), (0, .slice todoa todo.length todoc), (2, .func (.func next) #[] nextc.toArray)]) rfl ?_
  refine W.loop (fun m Γ' w' => ∃ k : Nat, ∃ o : List Bool, Γ' = [(17, .int .i64 ((k : Nat) : Int)), (16, .int .i64 ((todo.length : Nat) : Int)), (15, .slice todoa todo.length todoc), (7, .slice (some ⟨w.heap.size, 0, none⟩) ((List.replicate n false).length) n), (6, .slice none 0 0), (0, .slice todoa todo.length todoc), (2, .func (.func next) #[] nextc.toArray)] ∧ UpG w [rowT (tyI .i64) (.slice todoa todo.length todoc) 3 todo] w' [[rowT (tyI .i64) (.slice todoa todo.length todoc) 3 todo], [rowT tyB (.slice (some ⟨w.heap.size, 0, none⟩) ((List.replicate n false).length) n) 4 o]] ∧ (k ≤ todo.length) ∧ (SprA n todo o k) ∧ m = todo.length - k) (todo.length - 0) ⟨0, List.replicate n false, rfl, H1, (by first | assumption | omega | simp), (by exact SprA.start n todo), rfl⟩ ?_
  rintro m1 Γ1 w2 ⟨k, o, rfl, H2, hk, ha, rfl⟩
  have hol := ha.len
  refine W.seq ?_
  refine W.region ?_
  refine WL.op rfl (d_cmp (decide (((k : Nat) : Int) < ((todo.length : Nat) : Int))) rfl rfl rfl ?_)
  refine WL.done (X.then_code ?_)
  refine W.seq ?_
  refine W.ite (p := ((k : Nat) : Int) < ((todo.length : Nat) : Int)) rfl (fun c124 => ?_) (fun c124 => ?_)
  · skip
    refine W.skip (X.then_code ?_)
    refine W.seq ?_
    refine W.block ?_
    refine W.seq ?_
    refine W.region ?_
    refine WL.op rfl (t_addr1 k (T := (tyI .i64)) rfl Try.underlying22 sz3 rfl rfl (H2.rdT 0 rfl) rfl (by omega) ?_)
    refine WL.op rfl (t_load1 k 0 (T := (tyI .i64)) rfl Try.underlying3 rfl rfl (H2.rdT 0 rfl) (by omega) rfl ?_)
    refine WL.op rfl (d_assign rfl ?_)
    refine WL.done (X.then_code ?_)
    have hb := hr (todo.getD k 0) (getD_mem' (by omega))
    refine W.region ?_
    refine WL.op rfl (d_move rfl ?_)
    refine WL.op rfl (d_move rfl ?_)
    refine WL.op rfl (t_addr1 ((todo.getD k 0).toNat) (T := tyB) rfl Try.underlying23 sz4 rfl rfl (H2.rdT 1 rfl) (by omega) (by omega) ?_)
    refine WL.op0 (t_store1 ((todo.getD k 0).toNat) true (T := tyB) (e := 4) rfl sz4 rfl rfl rfl (H2.ownT 1 rfl) (by omega) fun w3 u2 => ?_)
    have H3 : UpG w [rowT (tyI .i64) (.slice todoa todo.length todoc) 3 todo] w3 [[rowT (tyI .i64) (.slice todoa todo.length todoc) 3 todo], [rowT tyB (.slice (some ⟨w.heap.size, 0, none⟩) ((List.replicate n false).length) n) 4 (o.set ((todo.getD k 0).toNat) true)]] := H2.on 1 rfl u2
    refine WL.done (X.block_normal (X.then_code ?_))
    refine W.region ?_
    refine WL.op rfl (d_add rfl rfl (by omega) (by omega) ?_)
    refine WL.op rfl (d_move rfl ?_)
    refine WL.done ?_
    exact X.next [17, 16, 15, 7, 6, 0, 2] (Γ' := [(17, .int .i64 (((k + 1) : Nat) : Int)), (16, .int .i64 ((todo.length : Nat) : Int)), (15, .slice todoa todo.length todoc), (7, .slice (some ⟨w.heap.size, 0, none⟩) ((List.replicate n false).length) n), (6, .slice none 0 0), (0, .slice todoa todo.length todoc), (2, .func (.func next) #[] nextc.toArray)]) rfl (todo.length - (k + 1)) (by omega) ⟨k + 1, o.set ((todo.getD k 0).toNat) true, rfl, H3, (by first | assumption | omega | simp), (by exact ha.step (by omega) hr), rfl⟩
  · skip
    refine W.exit (X.then_exit (X.then_exit (X.block_exit (X.then_code ?_))))
    refine W.seq ?_
    refine W.block ?_
    have hcf := cf_le o
    refine W.pick [7, 6, 0, 2] (Γ' := [(7, .slice (some ⟨w.heap.size, 0, none⟩) ((List.replicate n false).length) n), (6, .slice none 0 0), (0, .slice todoa todo.length todoc), (2, .func (.func next) #[] nextc.toArray)]) rfl ?_
    refine W.loop (fun m Γ' w' => ∃ o : List Bool, ∃ td : List Int, ∃ ta : Option Addr, ∃ tc : Nat, Γ' = [(7, .slice (some ⟨w.heap.size, 0, none⟩) ((List.replicate n false).length) n), (6, .slice none 0 0), (0, .slice ta td.length tc), (2, .func (.func next) #[] nextc.toArray)] ∧ UpG w [rowT (tyI .i64) (.slice todoa todo.length todoc) 3 todo] w' [[rowT (tyI .i64) (.slice ta td.length tc) 3 td], [rowT tyB (.slice (some ⟨w.heap.size, 0, none⟩) ((List.replicate n false).length) n) 4 o]] ∧ (SprI nx n todo o td) ∧ (2 * cf o + td.length ≤ 20000) ∧ m = 2 * cf o + td.length) (2 * cf o + todo.length) ⟨o, todo, todoa, todoc, rfl, H2, (by exact ha.done (by omega) hr), (by omega), rfl⟩ ?_
    rintro m2 Γ2 w4 ⟨o_1, td, ta, tc, rfl, H4, hi, hB, rfl⟩
    have hol2 := hi.len
    refine W.seq ?_
    refine W.seq ?_
    refine W.region ?_
    refine WL.op rfl (d_move rfl ?_)
    refine WL.op rfl (d_lenS Try.underlying22 rfl ?_)
    refine WL.op rfl (d_cmp (decide (((td.length : Nat) : Int) > (0 : Int))) rfl rfl rfl ?_)
    refine WL.done (X.then_code ?_)
    refine W.ite (p := ((td.length : Nat) : Int) > (0 : Int)) rfl (fun c127 => ?_) (fun c127 => ?_)
    · skip
      refine W.skip (X.then_code ?_)
      refine W.block ?_
      refine W.seq ?_
      refine W.region ?_
      refine WL.op rfl (d_move rfl ?_)
      refine WL.op rfl (d_move rfl ?_)
      refine WL.op rfl (d_lenS Try.underlying22 rfl ?_)
      refine WL.op rfl (d_sub rfl rfl (by omega) (by omega) ?_)
      refine WL.op rfl (t_addr1 (td.length - 1) (T := (tyI .i64)) rfl Try.underlying22 sz3 rfl rfl (H4.rdT 0 rfl) (by omega) (by omega) ?_)
      refine WL.op rfl (t_load1 (td.length - 1) 0 (T := (tyI .i64)) rfl Try.underlying3 rfl rfl (H4.rdT 0 rfl) (by omega) rfl ?_)
      refine WL.op rfl (d_assign rfl ?_)
      refine WL.done (X.then_code ?_)
      refine W.seq ?_
      refine W.region ?_
      refine WL.op rfl (d_move rfl ?_)
      refine WL.op rfl (d_move rfl ?_)
      refine WL.op rfl (d_lenS Try.underlying22 rfl ?_)
      refine WL.op rfl (d_sub rfl rfl (by omega) (by omega) ?_)
      refine WL.op rfl (t_pop (((td.length : Nat) : Int) - 1) (td.length - 1) (T := (tyI .i64)) (e := 3) (xs := td) rfl Try.underlying22 sz3 rfl rfl (H4.ownT 0 rfl) (by omega) (by omega) fun w5 u3 => ?_)
      have H5 : UpG w [rowT (tyI .i64) (.slice todoa todo.length todoc) 3 todo] w5 [[rowT (tyI .i64) (.slice ta ((td.take (td.length - 1)).length) tc) 3 (td.take (td.length - 1))], [rowT tyB (.slice (some ⟨w.heap.size, 0, none⟩) ((List.replicate n false).length) n) 4 o_1]] := H4.on 0 rfl u3
      refine WL.op rfl (d_assign rfl ?_)
      refine WL.done (X.then_code ?_)
      refine W.pick [0, 38, 37, 36, 35, 34, 10, 33, 32, 31, 30, 29, 28, 27, 26, 25, 7, 6, 2] (Γ' := [(0, .slice ta ((td.take (td.length - 1)).length) tc), (38, .slice ta ((td.take (td.length - 1)).length) tc), (37, .int .i64 (((td.length : Nat) : Int) - 1)), (36, .int .i64 ((td.length : Nat) : Int)), (35, .slice ta td.length tc), (34, .slice ta td.length tc), (10, .int .i64 (td.getD (td.length - 1) 0)), (33, .int .i64 (td.getD (td.length - 1) 0)), (32, elemPtr (.slice ta td.length tc) (td.length - 1)), (31, .int .i64 (((td.length : Nat) : Int) - 1)), (30, .int .i64 ((td.length : Nat) : Int)), (29, .slice ta td.length tc), (28, .slice ta td.length tc), (27, .bool (decide (((td.length : Nat) : Int) > (0 : Int)))), (26, .int .i64 ((td.length : Nat) : Int)), (25, .slice ta td.length tc), (7, .slice (some ⟨w.heap.size, 0, none⟩) ((List.replicate n false).length) n), (6, .slice none 0 0), (2, .func (.func next) #[] nextc.toArray)]) rfl ?_
      refine W.seq ?_
      have hst := (hi.inT (td.getD (td.length - 1) 0) (getD_mem' (by omega))).1
      have hns := hnx _ hst.1 hst.2
      refine W.region ?_
      refine WL.op rfl (d_move rfl ?_)
      refine WL.op rfl (d_move rfl ?_)
      refine WL.op rfl (d_callv hok rfl rfl (Ret.calls (hf w5 H5.keep (td.getD (td.length - 1) 0) (by omega) (by omega)) fun _ w6 p1 => ?_))
      obtain ⟨na1, nc1, rfl, u4⟩ := p1
      have H6 : UpG w [rowT (tyI .i64) (.slice todoa todo.length todoc) 3 todo] w6 [[rowT (tyI .i64) (.slice ta ((td.take (td.length - 1)).length) tc) 3 (td.take (td.length - 1))], [rowT tyB (.slice (some ⟨w.heap.size, 0, none⟩) ((List.replicate n false).length) n) 4 o_1], [rowT (tyI .i64) (.slice na1 ((nx (td.getD (td.length - 1) 0)).length) nc1) 3 (nx (td.getD (td.length - 1) 0))]] := H5.new' u4
      refine WL.op rfl (d_lenS Try.underlying22 rfl ?_)
      refine WL.op rfl (d_move rfl ?_)
      refine WL.done (X.then_code ?_)
      refine W.pick [43, 42, 41, 40, 39, 0, 38, 37, 36, 35, 34, 10, 33, 32, 31, 30, 29, 28, 27, 26, 25, 7, 6, 2] (Γ' := [(43, .int .i64 0), (42, .int .i64 (((nx (td.getD (td.length - 1) 0)).length : Nat) : Int)), (41, .slice na1 ((nx (td.getD (td.length - 1) 0)).length) nc1), (40, .int .i64 (td.getD (td.length - 1) 0)), (39, .func (.func next) #[] nextc.toArray), (0, .slice ta ((td.take (td.length - 1)).length) tc), (38, .slice ta ((td.take (td.length - 1)).length) tc), (37, .int .i64 (((td.length : Nat) : Int) - 1)), (36, .int .i64 ((td.length : Nat) : Int)), (35, .slice ta td.length tc), (34, .slice ta td.length tc), (10, .int .i64 (td.getD (td.length - 1) 0)), (33, .int .i64 (td.getD (td.length - 1) 0)), (32, elemPtr (.slice ta td.length tc) (td.length - 1)), (31, .int .i64 (((td.length : Nat) : Int) - 1)), (30, .int .i64 ((td.length : Nat) : Int)), (29, .slice ta td.length tc), (28, .slice ta td.length tc), (27, .bool (decide (((td.length : Nat) : Int) > (0 : Int)))), (26, .int .i64 ((td.length : Nat) : Int)), (25, .slice ta td.length tc), (7, .slice (some ⟨w.heap.size, 0, none⟩) ((List.replicate n false).length) n), (6, .slice none 0 0), (2, .func (.func next) #[] nextc.toArray)]) rfl ?_
      refine W.block ?_
      refine W.pick [43, 42, 41, 40, 39, 0, 38, 37, 36, 35, 34, 10, 33, 32, 31, 30, 29, 28, 27, 26, 25, 7, 6, 2] (Γ' := [(43, .int .i64 0), (42, .int .i64 (((nx (td.getD (td.length - 1) 0)).length : Nat) : Int)), (41, .slice na1 ((nx (td.getD (td.length - 1) 0)).length) nc1), (40, .int .i64 (td.getD (td.length - 1) 0)), (39, .func (.func next) #[] nextc.toArray), (0, .slice ta ((td.take (td.length - 1)).length) tc), (38, .slice ta ((td.take (td.length - 1)).length) tc), (37, .int .i64 (((td.length : Nat) : Int) - 1)), (36, .int .i64 ((td.length : Nat) : Int)), (35, .slice ta td.length tc), (34, .slice ta td.length tc), (10, .int .i64 (td.getD (td.length - 1) 0)), (33, .int .i64 (td.getD (td.length - 1) 0)), (32, elemPtr (.slice ta td.length tc) (td.length - 1)), (31, .int .i64 (((td.length : Nat) : Int) - 1)), (30, .int .i64 ((td.length : Nat) : Int)), (29, .slice ta td.length tc), (28, .slice ta td.length tc), (27, .bool (decide (((td.length : Nat) : Int) > (0 : Int)))), (26, .int .i64 ((td.length : Nat) : Int)), (25, .slice ta td.length tc), (7, .slice (some ⟨w.heap.size, 0, none⟩) ((List.replicate n false).length) n), (6, .slice none 0 0), (2, .func (.func next) #[] nextc.toArray)]) rfl ?_
      refine W.loop (fun m Γ' w' => ∃ j : Nat, ∃ o3 : List Bool, ∃ tj : List Int, ∃ ua : Option Addr, ∃ uc : Nat, Γ' = [(43, .int .i64 ((j : Nat) : Int)), (42, .int .i64 (((nx (td.getD (td.length - 1) 0)).length : Nat) : Int)), (41, .slice na1 ((nx (td.getD (td.length - 1) 0)).length) nc1), (40, .int .i64 (td.getD (td.length - 1) 0)), (39, .func (.func next) #[] nextc.toArray), (0, .slice ua tj.length uc), (38, .slice ta ((td.take (td.length - 1)).length) tc), (37, .int .i64 (((td.length : Nat) : Int) - 1)), (36, .int .i64 ((td.length : Nat) : Int)), (35, .slice ta td.length tc), (34, .slice ta td.length tc), (10, .int .i64 (td.getD (td.length - 1) 0)), (33, .int .i64 (td.getD (td.length - 1) 0)), (32, elemPtr (.slice ta td.length tc) (td.length - 1)), (31, .int .i64 (((td.length : Nat) : Int) - 1)), (30, .int .i64 ((td.length : Nat) : Int)), (29, .slice ta td.length tc), (28, .slice ta td.length tc), (27, .bool (decide (((td.length : Nat) : Int) > (0 : Int)))), (26, .int .i64 ((td.length : Nat) : Int)), (25, .slice ta td.length tc), (7, .slice (some ⟨w.heap.size, 0, none⟩) ((List.replicate n false).length) n), (6, .slice none 0 0), (2, .func (.func next) #[] nextc.toArray)] ∧ UpG w [rowT (tyI .i64) (.slice todoa todo.length todoc) 3 todo] w' [[rowT (tyI .i64) (.slice ua tj.length uc) 3 tj], [rowT tyB (.slice (some ⟨w.heap.size, 0, none⟩) ((List.replicate n false).length) n) 4 o3], [rowT (tyI .i64) (.slice na1 ((nx (td.getD (td.length - 1) 0)).length) nc1) 3 (nx (td.getD (td.length - 1) 0))]] ∧ (SprJ nx n todo o3 tj (td.getD (td.length - 1) 0) j) ∧ (j ≤ (nx (td.getD (td.length - 1) 0)).length) ∧ (2 * cf o3 + tj.length + 1 ≤ 2 * cf o_1 + td.length) ∧ m = (nx (td.getD (td.length - 1) 0)).length - j) ((nx (td.getD (td.length - 1) 0)).length - 0) ⟨0, o_1, td.take (td.length - 1), ta, tc, rfl, H6, (by exact hi.pop (by omega)), (by first | assumption | omega | simp), (by simp; omega), rfl⟩ ?_
      rintro m3 Γ3 w7 ⟨j, o3, tj, ua, uc, rfl, H7, hj, hjl, hm, rfl⟩
      have hol3 := hj.len
      refine W.seq ?_
      have hst := (hi.inT (td.getD (td.length - 1) 0) (getD_mem' (by omega))).1
      have hns := hnx _ hst.1 hst.2
      refine W.region ?_
      refine WL.op rfl (d_cmp (decide (((j : Nat) : Int) < (((nx (td.getD (td.length - 1) 0)).length : Nat) : Int))) rfl rfl rfl ?_)
      refine WL.done (X.then_code ?_)
      refine W.pick [44, 43, 42, 41, 40, 39, 0, 38, 37, 36, 35, 34, 10, 33, 32, 31, 30, 29, 28, 27, 26, 25, 7, 6, 2] (Γ' := [(44, .bool (decide (((j : Nat) : Int) < (((nx (td.getD (td.length - 1) 0)).length : Nat) : Int)))), (43, .int .i64 ((j : Nat) : Int)), (42, .int .i64 (((nx (td.getD (td.length - 1) 0)).length : Nat) : Int)), (41, .slice na1 ((nx (td.getD (td.length - 1) 0)).length) nc1), (40, .int .i64 (td.getD (td.length - 1) 0)), (39, .func (.func next) #[] nextc.toArray), (0, .slice ua tj.length uc), (38, .slice ta ((td.take (td.length - 1)).length) tc), (37, .int .i64 (((td.length : Nat) : Int) - 1)), (36, .int .i64 ((td.length : Nat) : Int)), (35, .slice ta td.length tc), (34, .slice ta td.length tc), (10, .int .i64 (td.getD (td.length - 1) 0)), (33, .int .i64 (td.getD (td.length - 1) 0)), (32, elemPtr (.slice ta td.length tc) (td.length - 1)), (31, .int .i64 (((td.length : Nat) : Int) - 1)), (30, .int .i64 ((td.length : Nat) : Int)), (29, .slice ta td.length tc), (28, .slice ta td.length tc), (27, .bool (decide (((td.length : Nat) : Int) > (0 : Int)))), (26, .int .i64 ((td.length : Nat) : Int)), (25, .slice ta td.length tc), (7, .slice (some ⟨w.heap.size, 0, none⟩) ((List.replicate n false).length) n), (6, .slice none 0 0), (2, .func (.func next) #[] nextc.toArray)]) rfl ?_
      refine W.seq ?_
      refine W.ite (p := ((j : Nat) : Int) < (((nx (td.getD (td.length - 1) 0)).length : Nat) : Int)) rfl (fun c130 => ?_) (fun c130 => ?_)
      · skip
        refine W.skip (X.then_code ?_)
        refine W.pick [44, 43, 42, 41, 40, 39, 0, 38, 37, 36, 35, 34, 10, 33, 32, 31, 30, 29, 28, 27, 26, 25, 7, 6, 2] (Γ' := [(44, .bool (decide (((j : Nat) : Int) < (((nx (td.getD (td.length - 1) 0)).length : Nat) : Int)))), (43, .int .i64 ((j : Nat) : Int)), (42, .int .i64 (((nx (td.getD (td.length - 1) 0)).length : Nat) : Int)), (41, .slice na1 ((nx (td.getD (td.length - 1) 0)).length) nc1), (40, .int .i64 (td.getD (td.length - 1) 0)), (39, .func (.func next) #[] nextc.toArray), (0, .slice ua tj.length uc), (38, .slice ta ((td.take (td.length - 1)).length) tc), (37, .int .i64 (((td.length : Nat) : Int) - 1)), (36, .int .i64 ((td.length : Nat) : Int)), (35, .slice ta td.length tc), (34, .slice ta td.length tc), (10, .int .i64 (td.getD (td.length - 1) 0)), (33, .int .i64 (td.getD (td.length - 1) 0)), (32, elemPtr (.slice ta td.length tc) (td.length - 1)), (31, .int .i64 (((td.length : Nat) : Int) - 1)), (30, .int .i64 ((td.length : Nat) : Int)), (29, .slice ta td.length tc), (28, .slice ta td.length tc), (27, .bool (decide (((td.length : Nat) : Int) > (0 : Int)))), (26, .int .i64 ((td.length : Nat) : Int)), (25, .slice ta td.length tc), (7, .slice (some ⟨w.heap.size, 0, none⟩) ((List.replicate n false).length) n), (6, .slice none 0 0), (2, .func (.func next) #[] nextc.toArray)]) rfl ?_
        refine W.seq ?_
        refine W.block ?_
        refine W.seq ?_
        have hst := (hi.inT (td.getD (td.length - 1) 0) (getD_mem' (by omega))).1
        have hns := hnx _ hst.1 hst.2
        refine W.region ?_
        refine WL.op rfl (t_addr1 j (T := (tyI .i64)) rfl Try.underlying22 sz3 rfl rfl (H7.rdT 2 rfl) rfl (by omega) ?_)
        refine WL.op rfl (t_load1 j 0 (T := (tyI .i64)) rfl Try.underlying3 rfl rfl (H7.rdT 2 rfl) (by omega) rfl ?_)
        refine WL.op rfl (d_assign rfl ?_)
        refine WL.done (X.then_code ?_)
        refine W.pick [12, 46, 45, 44, 43, 42, 41, 40, 39, 0, 38, 37, 36, 35, 34, 10, 33, 32, 31, 30, 29, 28, 27, 26, 25, 7, 6, 2] (Γ' := [(12, .int .i64 ((nx (td.getD (td.length - 1) 0)).getD j 0)), (46, .int .i64 ((nx (td.getD (td.length - 1) 0)).getD j 0)), (45, elemPtr (.slice na1 ((nx (td.getD (td.length - 1) 0)).length) nc1) j), (44, .bool (decide (((j : Nat) : Int) < (((nx (td.getD (td.length - 1) 0)).length : Nat) : Int)))), (43, .int .i64 ((j : Nat) : Int)), (42, .int .i64 (((nx (td.getD (td.length - 1) 0)).length : Nat) : Int)), (41, .slice na1 ((nx (td.getD (td.length - 1) 0)).length) nc1), (40, .int .i64 (td.getD (td.length - 1) 0)), (39, .func (.func next) #[] nextc.toArray), (0, .slice ua tj.length uc), (38, .slice ta ((td.take (td.length - 1)).length) tc), (37, .int .i64 (((td.length : Nat) : Int) - 1)), (36, .int .i64 ((td.length : Nat) : Int)), (35, .slice ta td.length tc), (34, .slice ta td.length tc), (10, .int .i64 (td.getD (td.length - 1) 0)), (33, .int .i64 (td.getD (td.length - 1) 0)), (32, elemPtr (.slice ta td.length tc) (td.length - 1)), (31, .int .i64 (((td.length : Nat) : Int) - 1)), (30, .int .i64 ((td.length : Nat) : Int)), (29, .slice ta td.length tc), (28, .slice ta td.length tc), (27, .bool (decide (((td.length : Nat) : Int) > (0 : Int)))), (26, .int .i64 ((td.length : Nat) : Int)), (25, .slice ta td.length tc), (7, .slice (some ⟨w.heap.size, 0, none⟩) ((List.replicate n false).length) n), (6, .slice none 0 0), (2, .func (.func next) #[] nextc.toArray)]) rfl ?_
        refine W.seq ?_
        have hb := hns.2 ((nx (td.getD (td.length - 1) 0)).getD j 0) (getD_mem' (by omega))
        refine W.region ?_
        refine WL.op rfl (d_move rfl ?_)
        refine WL.op rfl (d_move rfl ?_)
        refine WL.op rfl (t_addr1 (((nx (td.getD (td.length - 1) 0)).getD j 0).toNat) (T := tyB) rfl Try.underlying23 sz4 rfl rfl (H7.rdT 1 rfl) (by omega) (by omega) ?_)
        refine WL.op rfl (t_load1 (((nx (td.getD (td.length - 1) 0)).getD j 0).toNat) false (T := tyB) rfl Try.underlying4 rfl rfl (H7.rdT 1 rfl) (by omega) rfl ?_)
        refine WL.op rfl (d_notB rfl ?_)
        refine WL.done (X.then_code ?_)
        refine W.pick [51, 50, 49, 48, 47, 12, 46, 45, 44, 43, 42, 41, 40, 39, 0, 38, 37, 36, 35, 34, 10, 33, 32, 31, 30, 29, 28, 27, 26, 25, 7, 6, 2] (Γ' := [(51, .bool (!(o3.getD (((nx (td.getD (td.length - 1) 0)).getD j 0).toNat) false))), (50, .bool (o3.getD (((nx (td.getD (td.length - 1) 0)).getD j 0).toNat) false)), (49, elemPtr (.slice (some ⟨w.heap.size, 0, none⟩) ((List.replicate n false).length) n) (((nx (td.getD (td.length - 1) 0)).getD j 0).toNat)), (48, .int .i64 ((nx (td.getD (td.length - 1) 0)).getD j 0)), (47, .slice (some ⟨w.heap.size, 0, none⟩) ((List.replicate n false).length) n), (12, .int .i64 ((nx (td.getD (td.length - 1) 0)).getD j 0)), (46, .int .i64 ((nx (td.getD (td.length - 1) 0)).getD j 0)), (45, elemPtr (.slice na1 ((nx (td.getD (td.length - 1) 0)).length) nc1) j), (44, .bool (decide (((j : Nat) : Int) < (((nx (td.getD (td.length - 1) 0)).length : Nat) : Int)))), (43, .int .i64 ((j : Nat) : Int)), (42, .int .i64 (((nx (td.getD (td.length - 1) 0)).length : Nat) : Int)), (41, .slice na1 ((nx (td.getD (td.length - 1) 0)).length) nc1), (40, .int .i64 (td.getD (td.length - 1) 0)), (39, .func (.func next) #[] nextc.toArray), (0, .slice ua tj.length uc), (38, .slice ta ((td.take (td.length - 1)).length) tc), (37, .int .i64 (((td.length : Nat) : Int) - 1)), (36, .int .i64 ((td.length : Nat) : Int)), (35, .slice ta td.length tc), (34, .slice ta td.length tc), (10, .int .i64 (td.getD (td.length - 1) 0)), (33, .int .i64 (td.getD (td.length - 1) 0)), (32, elemPtr (.slice ta td.length tc) (td.length - 1)), (31, .int .i64 (((td.length : Nat) : Int) - 1)), (30, .int .i64 ((td.length : Nat) : Int)), (29, .slice ta td.length tc), (28, .slice ta td.length tc), (27, .bool (decide (((td.length : Nat) : Int) > (0 : Int)))), (26, .int .i64 ((td.length : Nat) : Int)), (25, .slice ta td.length tc), (7, .slice (some ⟨w.heap.size, 0, none⟩) ((List.replicate n false).length) n), (6, .slice none 0 0), (2, .func (.func next) #[] nextc.toArray)]) rfl ?_
        refine W.iteB (b := !(o3.getD (((nx (td.getD (td.length - 1) 0)).getD j 0).toNat) false)) rfl (fun c131 => ?_) (fun c131 => ?_)
        · skip
          refine W.seq ?_
          refine W.region ?_
          refine WL.op rfl (d_move rfl ?_)
          refine WL.op rfl (d_move rfl ?_)
          refine WL.op rfl (t_addr1 (((nx (td.getD (td.length - 1) 0)).getD j 0).toNat) (T := tyB) rfl Try.underlying23 sz4 rfl rfl (H7.rdT 1 rfl) (by omega) (by omega) ?_)
          refine WL.op0 (t_store1 (((nx (td.getD (td.length - 1) 0)).getD j 0).toNat) true (T := tyB) (e := 4) rfl sz4 rfl rfl rfl (H7.ownT 1 rfl) (by omega) fun w8 u5 => ?_)
          have H8 : UpG w [rowT (tyI .i64) (.slice todoa todo.length todoc) 3 todo] w8 [[rowT (tyI .i64) (.slice ua tj.length uc) 3 tj], [rowT tyB (.slice (some ⟨w.heap.size, 0, none⟩) ((List.replicate n false).length) n) 4 (o3.set (((nx (td.getD (td.length - 1) 0)).getD j 0).toNat) true)], [rowT (tyI .i64) (.slice na1 ((nx (td.getD (td.length - 1) 0)).length) nc1) 3 (nx (td.getD (td.length - 1) 0))]] := H7.on 1 rfl u5
          refine WL.done (X.then_code ?_)
          refine W.pick [54, 53, 52, 51, 50, 49, 48, 47, 12, 46, 45, 44, 43, 42, 41, 40, 39, 0, 38, 37, 36, 35, 34, 10, 33, 32, 31, 30, 29, 28, 27, 26, 25, 7, 6, 2] (Γ' := [(54, elemPtr (.slice (some ⟨w.heap.size, 0, none⟩) ((List.replicate n false).length) n) (((nx (td.getD (td.length - 1) 0)).getD j 0).toNat)), (53, .int .i64 ((nx (td.getD (td.length - 1) 0)).getD j 0)), (52, .slice (some ⟨w.heap.size, 0, none⟩) ((List.replicate n false).length) n), (51, .bool (!(o3.getD (((nx (td.getD (td.length - 1) 0)).getD j 0).toNat) false))), (50, .bool (o3.getD (((nx (td.getD (td.length - 1) 0)).getD j 0).toNat) false)), (49, elemPtr (.slice (some ⟨w.heap.size, 0, none⟩) ((List.replicate n false).length) n) (((nx (td.getD (td.length - 1) 0)).getD j 0).toNat)), (48, .int .i64 ((nx (td.getD (td.length - 1) 0)).getD j 0)), (47, .slice (some ⟨w.heap.size, 0, none⟩) ((List.replicate n false).length) n), (12, .int .i64 ((nx (td.getD (td.length - 1) 0)).getD j 0)), (46, .int .i64 ((nx (td.getD (td.length - 1) 0)).getD j 0)), (45, elemPtr (.slice na1 ((nx (td.getD (td.length - 1) 0)).length) nc1) j), (44, .bool (decide (((j : Nat) : Int) < (((nx (td.getD (td.length - 1) 0)).length : Nat) : Int)))), (43, .int .i64 ((j : Nat) : Int)), (42, .int .i64 (((nx (td.getD (td.length - 1) 0)).length : Nat) : Int)), (41, .slice na1 ((nx (td.getD (td.length - 1) 0)).length) nc1), (40, .int .i64 (td.getD (td.length - 1) 0)), (39, .func (.func next) #[] nextc.toArray), (0, .slice ua tj.length uc), (38, .slice ta ((td.take (td.length - 1)).length) tc), (37, .int .i64 (((td.length : Nat) : Int) - 1)), (36, .int .i64 ((td.length : Nat) : Int)), (35, .slice ta td.length tc), (34, .slice ta td.length tc), (10, .int .i64 (td.getD (td.length - 1) 0)), (33, .int .i64 (td.getD (td.length - 1) 0)), (32, elemPtr (.slice ta td.length tc) (td.length - 1)), (31, .int .i64 (((td.length : Nat) : Int) - 1)), (30, .int .i64 ((td.length : Nat) : Int)), (29, .slice ta td.length tc), (28, .slice ta td.length tc), (27, .bool (decide (((td.length : Nat) : Int) > (0 : Int)))), (26, .int .i64 ((td.length : Nat) : Int)), (25, .slice ta td.length tc), (7, .slice (some ⟨w.heap.size, 0, none⟩) ((List.replicate n false).length) n), (6, .slice none 0 0), (2, .func (.func next) #[] nextc.toArray)]) rfl ?_
          refine W.region ?_
          refine WL.op rfl (d_move rfl ?_)
          refine WL.op rfl (d_move rfl ?_)
          refine WL.op rfl (t_buildSlice (T := (tyI .i64)) (xs := [(nx (td.getD (td.length - 1) 0)).getD j 0]) (cs := #[.int .i64 ((nx (td.getD (td.length - 1) 0)).getD j 0)]) rfl Try.underlying22 sz3 rfl rfl rfl rfl (by kernel_rfl) rfl rfl fun w9 u6 => ?_)
          have H9 : UpG w [rowT (tyI .i64) (.slice todoa todo.length todoc) 3 todo] w9 [[rowT (tyI .i64) (.slice ua tj.length uc) 3 tj], [rowT tyB (.slice (some ⟨w.heap.size, 0, none⟩) ((List.replicate n false).length) n) 4 (o3.set (((nx (td.getD (td.length - 1) 0)).getD j 0).toNat) true)], [rowT (tyI .i64) (.slice na1 ((nx (td.getD (td.length - 1) 0)).length) nc1) 3 (nx (td.getD (td.length - 1) 0))], [rowT (tyI .i64) (.slice (some ⟨w8.heap.size, 0, none⟩) ([(nx (td.getD (td.length - 1) 0)).getD j 0].length) ([(nx (td.getD (td.length - 1) 0)).getD j 0].length)) 3 [(nx (td.getD (td.length - 1) 0)).getD j 0]]] := H8.new' u6
          refine WL.op rfl (t_append (T := (tyI .i64)) (xs := tj) (ys := [(nx (td.getD (td.length - 1) 0)).getD j 0]) rfl Try.underlying22 sz3 rfl rfl rfl (H9.ownT 0 rfl) (H9.rdT 3 rfl) (by simp; omega) (by simp; omega) fun a1 c1 w10 u7 => ?_)
          have H10 : UpG w [rowT (tyI .i64) (.slice todoa todo.length todoc) 3 todo] w10 [[rowT (tyI .i64) (.slice a1 ((tj ++ [(nx (td.getD (td.length - 1) 0)).getD j 0]).length) c1) 3 (tj ++ [(nx (td.getD (td.length - 1) 0)).getD j 0])], [rowT tyB (.slice (some ⟨w.heap.size, 0, none⟩) ((List.replicate n false).length) n) 4 (o3.set (((nx (td.getD (td.length - 1) 0)).getD j 0).toNat) true)], [rowT (tyI .i64) (.slice na1 ((nx (td.getD (td.length - 1) 0)).length) nc1) 3 (nx (td.getD (td.length - 1) 0))], []] := (H9.on 0 rfl u7).drop 3
          refine WL.op rfl (d_assign rfl ?_)
          refine WL.done (X.block_normal (X.then_code ?_))
          refine W.pick [0, 58, 57, 56, 55, 54, 53, 52, 51, 50, 49, 48, 47, 12, 46, 45, 44, 43, 42, 41, 40, 39, 38, 37, 36, 35, 34, 10, 33, 32, 31, 30, 29, 28, 27, 26, 25, 7, 6, 2] (Γ' := [(0, .slice a1 ((tj ++ [(nx (td.getD (td.length - 1) 0)).getD j 0]).length) c1), (58, .slice a1 ((tj ++ [(nx (td.getD (td.length - 1) 0)).getD j 0]).length) c1), (57, .slice (some ⟨w8.heap.size, 0, none⟩) ([(nx (td.getD (td.length - 1) 0)).getD j 0].length) ([(nx (td.getD (td.length - 1) 0)).getD j 0].length)), (56, .int .i64 ((nx (td.getD (td.length - 1) 0)).getD j 0)), (55, .slice ua tj.length uc), (54, elemPtr (.slice (some ⟨w.heap.size, 0, none⟩) ((List.replicate n false).length) n) (((nx (td.getD (td.length - 1) 0)).getD j 0).toNat)), (53, .int .i64 ((nx (td.getD (td.length - 1) 0)).getD j 0)), (52, .slice (some ⟨w.heap.size, 0, none⟩) ((List.replicate n false).length) n), (51, .bool (!(o3.getD (((nx (td.getD (td.length - 1) 0)).getD j 0).toNat) false))), (50, .bool (o3.getD (((nx (td.getD (td.length - 1) 0)).getD j 0).toNat) false)), (49, elemPtr (.slice (some ⟨w.heap.size, 0, none⟩) ((List.replicate n false).length) n) (((nx (td.getD (td.length - 1) 0)).getD j 0).toNat)), (48, .int .i64 ((nx (td.getD (td.length - 1) 0)).getD j 0)), (47, .slice (some ⟨w.heap.size, 0, none⟩) ((List.replicate n false).length) n), (12, .int .i64 ((nx (td.getD (td.length - 1) 0)).getD j 0)), (46, .int .i64 ((nx (td.getD (td.length - 1) 0)).getD j 0)), (45, elemPtr (.slice na1 ((nx (td.getD (td.length - 1) 0)).length) nc1) j), (44, .bool (decide (((j : Nat) : Int) < (((nx (td.getD (td.length - 1) 0)).length : Nat) : Int)))), (43, .int .i64 ((j : Nat) : Int)), (42, .int .i64 (((nx (td.getD (td.length - 1) 0)).length : Nat) : Int)), (41, .slice na1 ((nx (td.getD (td.length - 1) 0)).length) nc1), (40, .int .i64 (td.getD (td.length - 1) 0)), (39, .func (.func next) #[] nextc.toArray), (38, .slice ta ((td.take (td.length - 1)).length) tc), (37, .int .i64 (((td.length : Nat) : Int) - 1)), (36, .int .i64 ((td.length : Nat) : Int)), (35, .slice ta td.length tc), (34, .slice ta td.length tc), (10, .int .i64 (td.getD (td.length - 1) 0)), (33, .int .i64 (td.getD (td.length - 1) 0)), (32, elemPtr (.slice ta td.length tc) (td.length - 1)), (31, .int .i64 (((td.length : Nat) : Int) - 1)), (30, .int .i64 ((td.length : Nat) : Int)), (29, .slice ta td.length tc), (28, .slice ta td.length tc), (27, .bool (decide (((td.length : Nat) : Int) > (0 : Int)))), (26, .int .i64 ((td.length : Nat) : Int)), (25, .slice ta td.length tc), (7, .slice (some ⟨w.heap.size, 0, none⟩) ((List.replicate n false).length) n), (6, .slice none 0 0), (2, .func (.func next) #[] nextc.toArray)]) rfl ?_
          have hst := (hi.inT (td.getD (td.length - 1) 0) (getD_mem' (by omega))).1
          have hns := hnx _ hst.1 hst.2
          refine W.region ?_
          refine WL.op rfl (d_add rfl rfl (by omega) (by omega) ?_)
          refine WL.op rfl (d_move rfl ?_)
          refine WL.done ?_
          exact X.next [43, 42, 41, 40, 39, 0, 38, 37, 36, 35, 34, 10, 33, 32, 31, 30, 29, 28, 27, 26, 25, 7, 6, 2] (Γ' := [(43, .int .i64 (((j + 1) : Nat) : Int)), (42, .int .i64 (((nx (td.getD (td.length - 1) 0)).length : Nat) : Int)), (41, .slice na1 ((nx (td.getD (td.length - 1) 0)).length) nc1), (40, .int .i64 (td.getD (td.length - 1) 0)), (39, .func (.func next) #[] nextc.toArray), (0, .slice a1 ((tj ++ [(nx (td.getD (td.length - 1) 0)).getD j 0]).length) c1), (38, .slice ta ((td.take (td.length - 1)).length) tc), (37, .int .i64 (((td.length : Nat) : Int) - 1)), (36, .int .i64 ((td.length : Nat) : Int)), (35, .slice ta td.length tc), (34, .slice ta td.length tc), (10, .int .i64 (td.getD (td.length - 1) 0)), (33, .int .i64 (td.getD (td.length - 1) 0)), (32, elemPtr (.slice ta td.length tc) (td.length - 1)), (31, .int .i64 (((td.length : Nat) : Int) - 1)), (30, .int .i64 ((td.length : Nat) : Int)), (29, .slice ta td.length tc), (28, .slice ta td.length tc), (27, .bool (decide (((td.length : Nat) : Int) > (0 : Int)))), (26, .int .i64 ((td.length : Nat) : Int)), (25, .slice ta td.length tc), (7, .slice (some ⟨w.heap.size, 0, none⟩) ((List.replicate n false).length) n), (6, .slice none 0 0), (2, .func (.func next) #[] nextc.toArray)]) rfl ((nx (td.getD (td.length - 1) 0)).length - (j + 1)) (by omega) ⟨j + 1, o3.set (((nx (td.getD (td.length - 1) 0)).getD j 0).toNat) true, tj ++ [(nx (td.getD (td.length - 1) 0)).getD j 0], a1, c1, rfl, (H10.re rfl), (by first | exact hj.new (by omega) hb | exact hj.old (by omega) (by simpa using c131)), (by first | assumption | omega | simp), (by first | omega | (have h9 := cf_set o3 ((nx (td.getD (td.length - 1) 0)).getD j 0).toNat (by omega) (by simpa using c131); rw [List.length_append, List.length_singleton]; omega)), rfl⟩
        · skip
          refine W.skip (X.block_normal (X.then_code ?_))
          refine W.pick [51, 50, 49, 48, 47, 12, 46, 45, 44, 43, 42, 41, 40, 39, 0, 38, 37, 36, 35, 34, 10, 33, 32, 31, 30, 29, 28, 27, 26, 25, 7, 6, 2] (Γ' := [(51, .bool (!(o3.getD (((nx (td.getD (td.length - 1) 0)).getD j 0).toNat) false))), (50, .bool (o3.getD (((nx (td.getD (td.length - 1) 0)).getD j 0).toNat) false)), (49, elemPtr (.slice (some ⟨w.heap.size, 0, none⟩) ((List.replicate n false).length) n) (((nx (td.getD (td.length - 1) 0)).getD j 0).toNat)), (48, .int .i64 ((nx (td.getD (td.length - 1) 0)).getD j 0)), (47, .slice (some ⟨w.heap.size, 0, none⟩) ((List.replicate n false).length) n), (12, .int .i64 ((nx (td.getD (td.length - 1) 0)).getD j 0)), (46, .int .i64 ((nx (td.getD (td.length - 1) 0)).getD j 0)), (45, elemPtr (.slice na1 ((nx (td.getD (td.length - 1) 0)).length) nc1) j), (44, .bool (decide (((j : Nat) : Int) < (((nx (td.getD (td.length - 1) 0)).length : Nat) : Int)))), (43, .int .i64 ((j : Nat) : Int)), (42, .int .i64 (((nx (td.getD (td.length - 1) 0)).length : Nat) : Int)), (41, .slice na1 ((nx (td.getD (td.length - 1) 0)).length) nc1), (40, .int .i64 (td.getD (td.length - 1) 0)), (39, .func (.func next) #[] nextc.toArray), (0, .slice ua tj.length uc), (38, .slice ta ((td.take (td.length - 1)).length) tc), (37, .int .i64 (((td.length : Nat) : Int) - 1)), (36, .int .i64 ((td.length : Nat) : Int)), (35, .slice ta td.length tc), (34, .slice ta td.length tc), (10, .int .i64 (td.getD (td.length - 1) 0)), (33, .int .i64 (td.getD (td.length - 1) 0)), (32, elemPtr (.slice ta td.length tc) (td.length - 1)), (31, .int .i64 (((td.length : Nat) : Int) - 1)), (30, .int .i64 ((td.length : Nat) : Int)), (29, .slice ta td.length tc), (28, .slice ta td.length tc), (27, .bool (decide (((td.length : Nat) : Int) > (0 : Int)))), (26, .int .i64 ((td.length : Nat) : Int)), (25, .slice ta td.length tc), (7, .slice (some ⟨w.heap.size, 0, none⟩) ((List.replicate n false).length) n), (6, .slice none 0 0), (2, .func (.func next) #[] nextc.toArray)]) rfl ?_
          have hst := (hi.inT (td.getD (td.length - 1) 0) (getD_mem' (by omega))).1
          have hns := hnx _ hst.1 hst.2
          refine W.region ?_
          refine WL.op rfl (d_add rfl rfl (by omega) (by omega) ?_)
          refine WL.op rfl (d_move rfl ?_)
          refine WL.done ?_
          exact X.next [43, 42, 41, 40, 39, 0, 38, 37, 36, 35, 34, 10, 33, 32, 31, 30, 29, 28, 27, 26, 25, 7, 6, 2] (Γ' := [(43, .int .i64 (((j + 1) : Nat) : Int)), (42, .int .i64 (((nx (td.getD (td.length - 1) 0)).length : Nat) : Int)), (41, .slice na1 ((nx (td.getD (td.length - 1) 0)).length) nc1), (40, .int .i64 (td.getD (td.length - 1) 0)), (39, .func (.func next) #[] nextc.toArray), (0, .slice ua tj.length uc), (38, .slice ta ((td.take (td.length - 1)).length) tc), (37, .int .i64 (((td.length : Nat) : Int) - 1)), (36, .int .i64 ((td.length : Nat) : Int)), (35, .slice ta td.length tc), (34, .slice ta td.length tc), (10, .int .i64 (td.getD (td.length - 1) 0)), (33, .int .i64 (td.getD (td.length - 1) 0)), (32, elemPtr (.slice ta td.length tc) (td.length - 1)), (31, .int .i64 (((td.length : Nat) : Int) - 1)), (30, .int .i64 ((td.length : Nat) : Int)), (29, .slice ta td.length tc), (28, .slice ta td.length tc), (27, .bool (decide (((td.length : Nat) : Int) > (0 : Int)))), (26, .int .i64 ((td.length : Nat) : Int)), (25, .slice ta td.length tc), (7, .slice (some ⟨w.heap.size, 0, none⟩) ((List.replicate n false).length) n), (6, .slice none 0 0), (2, .func (.func next) #[] nextc.toArray)]) rfl ((nx (td.getD (td.length - 1) 0)).length - (j + 1)) (by omega) ⟨j + 1, o3, tj, ua, uc, rfl, H7, (by first | exact hj.new (by omega) hb | exact hj.old (by omega) (by simpa using c131)), (by first | assumption | omega | simp), (by first | omega | (have h9 := cf_set o3 ((nx (td.getD (td.length - 1) 0)).getD j 0).toNat (by omega) (by simpa using c131); rw [List.length_append, List.length_singleton]; omega)), rfl⟩
      · skip
        refine W.exit (X.then_exit (X.then_exit (X.block_exit (X.block_normal ?_))))
        exact X.next [7, 6, 0, 2] (Γ' := [(7, .slice (some ⟨w.heap.size, 0, none⟩) ((List.replicate n false).length) n), (6, .slice none 0 0), (0, .slice ua tj.length uc), (2, .func (.func next) #[] nextc.toArray)]) rfl (2 * cf o3 + tj.length) (by omega) ⟨o3, tj, ua, uc, rfl, (UpG.of (G := [[rowT (tyI .i64) (.slice ua tj.length uc) 3 tj], [rowT tyB (.slice (some ⟨w.heap.size, 0, none⟩) ((List.replicate n false).length) n) 4 o3]]) (Upd.sel H7 (M := [rowT (tyI .i64) (.slice ua tj.length uc) 3 tj, rowT tyB (.slice (some ⟨w.heap.size, 0, none⟩) ((List.replicate n false).length) n) 4 o3]) (l := [0, 1]) rfl rfl) rfl), (by exact hj.done (by omega)), (by omega), rfl⟩
    · skip
      refine W.exit (X.then_exit (X.then_exit (X.block_exit (X.then_code ?_))))
      refine W.seq ?_
      refine W.region ?_
      refine WL.op rfl (d_move rfl ?_)
      refine WL.op rfl (d_assign rfl ?_)
      refine WL.done (X.then_code ?_)
      refine W.ret (X.ret1 rfl rfl ?_)
      have hfin := hi.fin (by omega)
      exact ⟨(some ⟨w.heap.size, 0, none⟩), o_1, n, (by rw [hol2, List.length_replicate]), (by have h9 := H4.one 1 rfl; rw [List.length_replicate] at h9; rw [hol2]; exact h9), hfin⟩

set_option maxRecDepth 20000 in
theorem spreadO_any (todoa : Option Addr) (todo : List Int) (todoc : Nat) (n : Nat) (next : FuncId) (nextc : List Value) (nx : Int → List Int) (w : World) (hp : Hp w [rowT (tyI .i64) (.slice todoa todo.length todoc) 3 todo]) (hn : n ≤ 5000 ∧ todo.length ≤ 5000) (hr : ∀ t, t ∈ todo → 0 ≤ t ∧ t < (n : Int)) (hnx : ∀ s, 0 ≤ s → s < (n : Int) → (nx s).length ≤ 2000000 ∧ ∀ t, t ∈ nx s → 0 ≤ t ∧ t < (n : Int)) (hok : CallOk Try.prog next) (hf : ClosO Try.prog next nextc nx n (ats [rowT (tyI .i64) (.slice todoa todo.length todoc) 3 todo]) w) :
    Calls Try.prog 58 #[.slice todoa todo.length todoc, .int .i64 ((n : Nat) : Int), .func (.func next) #[] nextc.toArray] w (Ret fun v w' => ∃ a2 : Option Addr, ∃ o2 : List Bool, ∃ c2 : Nat, v = .slice a2 o2.length c2 ∧ Upd w [rowT (tyI .i64) (.slice todoa todo.length todoc) 3 todo] w' [rowT tyB (.slice a2 o2.length c2) 4 o2] ∧ (SprF nx n todo o2)) := by
  refine calls_of_W (args := [.slice todoa todo.length todoc, .int .i64 ((n : Nat) : Int), .func (.func next) #[] nextc.toArray]) Try.func58 rfl rfl rfl ?_
  have H0 : UpG w [rowT (tyI .i64) (.slice todoa todo.length todoc) 3 todo] w [[rowT (tyI .i64) (.slice todoa todo.length todoc) 3 todo]] := (UpG.refl hp).re rfl
  show W _ _ _ _ [(0, .slice todoa todo.length todoc), (1, .int .i64 ((n : Nat) : Int)), (2, .func (.func next) #[] nextc.toArray)] w
  refine W.seq ?_
  refine W.region ?_
  refine WL.op rfl (d_assign rfl ?_)
  refine WL.done (X.then_code ?_)
  refine W.seq ?_
  refine W.region ?_
  refine WL.op rfl (d_move rfl ?_)
  refine WL.op rfl (t_make n false (T := tyB) rfl Try.underlying23 sz4 rfl rfl rfl rfl (by omega) (by omega) fun w1 u1 => ?_)
  have H1 : UpG w [rowT (tyI .i64) (.slice todoa todo.length todoc) 3 todo] w1 [[rowT (tyI .i64) (.slice todoa todo.length todoc) 3 todo], [rowT tyB (.slice (some ⟨w.heap.size, 0, none⟩) ((List.replicate n false).length) n) 4 (List.replicate n false)]] := H0.new' u1
  refine WL.op rfl (d_assign rfl ?_)
  refine WL.done (X.then_code ?_)
  refine W.seq ?_
  refine W.seq ?_
  refine W.region ?_
  refine WL.op rfl (d_move rfl ?_)
  refine WL.op rfl (d_lenS Try.underlying22 rfl ?_)
  refine WL.op rfl (d_move rfl ?_)
  refine WL.done (X.then_code ?_)
  refine W.block ?_
  refine W.pick [17, 16, 15, 7, 6, 0, 2] (Γ' := [(17, .int .i64 0), (16, .int .i64 ((todo.length : Nat) : Int)), (15, .slice todoa todo.length todoc), (7, .slice (some ⟨w.heap.size, 0, none⟩) ((List.replicate n false).length) n), (6, .slice none 0 0), (0, .slice todoa todo.length todoc), (2, .func (.func next) #[] nextc.toArray)]) rfl ?_
  refine W.loop (fun m Γ' w' => ∃ k : Nat, ∃ o : List Bool, Γ' = [(17, .int .i64 ((k : Nat) : Int)), (16, .int .i64 ((todo.length : Nat) : Int)), (15, .slice todoa todo.length todoc), (7, .slice (some ⟨w.heap.size, 0, none⟩) ((List.replicate n false).length) n), (6, .slice none 0 0), (0, .slice todoa todo.length todoc), (2, .func (.func next) #[] nextc.toArray)] ∧ UpG w [rowT (tyI .i64) (.slice todoa todo.length todoc) 3 todo] w' [[rowT (tyI .i64) (.slice todoa todo.length todoc) 3 todo], [rowT tyB (.slice (some ⟨w.heap.size, 0, none⟩) ((List.replicate n false).length) n) 4 o]] ∧ (k ≤ todo.length) ∧ (SprA n todo o k) ∧ m = todo.length - k) (todo.length - 0) ⟨0, List.replicate n false, rfl, H1, (by first | assumption | omega | simp), (by exact SprA.start n todo), rfl⟩ ?_
  rintro m1 Γ1 w2 ⟨k, o, rfl, H2, hk, ha, rfl⟩
  have hol := ha.len
  refine W.seq ?_
  refine W.region ?_
  refine WL.op rfl (d_cmp (decide (((k : Nat) : Int) < ((todo.length : Nat) : Int))) rfl rfl rfl ?_)
  refine WL.done (X.then_code ?_)
  refine W.seq ?_
  refine W.ite (p := ((k : Nat) : Int) < ((todo.length : Nat) : Int)) rfl (fun c124 => ?_) (fun c124 => ?_)
  · skip
    refine W.skip (X.then_code ?_)
    refine W.seq ?_
    refine W.block ?_
    refine W.seq ?_
    refine W.region ?_
    refine WL.op rfl (t_addr1 k (T := (tyI .i64)) rfl Try.underlying22 sz3 rfl rfl (H2.rdT 0 rfl) rfl (by omega) ?_)
    refine WL.op rfl (t_load1 k 0 (T := (tyI .i64)) rfl Try.underlying3 rfl rfl (H2.rdT 0 rfl) (by omega) rfl ?_)
    refine WL.op rfl (d_assign rfl ?_)
    refine WL.done (X.then_code ?_)
    have hb := hr (todo.getD k 0) (getD_mem' (by omega))
    refine W.region ?_
    refine WL.op rfl (d_move rfl ?_)
    refine WL.op rfl (d_move rfl ?_)
    refine WL.op rfl (t_addr1 ((todo.getD k 0).toNat) (T := tyB) rfl Try.underlying23 sz4 rfl rfl (H2.rdT 1 rfl) (by omega) (by omega) ?_)
    refine WL.op0 (t_store1 ((todo.getD k 0).toNat) true (T := tyB) (e := 4) rfl sz4 rfl rfl rfl (H2.ownT 1 rfl) (by omega) fun w3 u2 => ?_)
    have H3 : UpG w [rowT (tyI .i64) (.slice todoa todo.length todoc) 3 todo] w3 [[rowT (tyI .i64) (.slice todoa todo.length todoc) 3 todo], [rowT tyB (.slice (some ⟨w.heap.size, 0, none⟩) ((List.replicate n false).length) n) 4 (o.set ((todo.getD k 0).toNat) true)]] := H2.on 1 rfl u2
    refine WL.done (X.block_normal (X.then_code ?_))
    refine W.region ?_
    refine WL.op rfl (d_add rfl rfl (by omega) (by omega) ?_)
    refine WL.op rfl (d_move rfl ?_)
    refine WL.done ?_
    exact X.next [17, 16, 15, 7, 6, 0, 2] (Γ' := [(17, .int .i64 (((k + 1) : Nat) : Int)), (16, .int .i64 ((todo.length : Nat) : Int)), (15, .slice todoa todo.length todoc), (7, .slice (some ⟨w.heap.size, 0, none⟩) ((List.replicate n false).length) n), (6, .slice none 0 0), (0, .slice todoa todo.length todoc), (2, .func (.func next) #[] nextc.toArray)]) rfl (todo.length - (k + 1)) (by omega) ⟨k + 1, o.set ((todo.getD k 0).toNat) true, rfl, H3, (by first | assumption | omega | simp), (by exact ha.step (by omega) hr), rfl⟩
  · skip
    refine W.exit (X.then_exit (X.then_exit (X.block_exit (X.then_code ?_))))
    refine W.seq ?_
    refine W.block ?_
    have hcf := cf_le o
    refine W.pick [7, 6, 0, 2] (Γ' := [(7, .slice (some ⟨w.heap.size, 0, none⟩) ((List.replicate n false).length) n), (6, .slice none 0 0), (0, .slice todoa todo.length todoc), (2, .func (.func next) #[] nextc.toArray)]) rfl ?_
    refine W.loop (fun m Γ' w' => ∃ o : List Bool, ∃ td : List Int, ∃ ta : Option Addr, ∃ tc : Nat, Γ' = [(7, .slice (some ⟨w.heap.size, 0, none⟩) ((List.replicate n false).length) n), (6, .slice none 0 0), (0, .slice ta td.length tc), (2, .func (.func next) #[] nextc.toArray)] ∧ UpG w [rowT (tyI .i64) (.slice todoa todo.length todoc) 3 todo] w' [[rowT (tyI .i64) (.slice ta td.length tc) 3 td], [rowT tyB (.slice (some ⟨w.heap.size, 0, none⟩) ((List.replicate n false).length) n) 4 o]] ∧ (SprI nx n todo o td) ∧ (2 * cf o + td.length ≤ 20000) ∧ m = 2 * cf o + td.length) (2 * cf o + todo.length) ⟨o, todo, todoa, todoc, rfl, H2, (by exact ha.done (by omega) hr), (by omega), rfl⟩ ?_
    rintro m2 Γ2 w4 ⟨o_1, td, ta, tc, rfl, H4, hi, hB, rfl⟩
    have hol2 := hi.len
    refine W.seq ?_
    refine W.seq ?_
    refine W.region ?_
    refine WL.op rfl (d_move rfl ?_)
    refine WL.op rfl (d_lenS Try.underlying22 rfl ?_)
    refine WL.op rfl (d_cmp (decide (((td.length : Nat) : Int) > (0 : Int))) rfl rfl rfl ?_)
    refine WL.done (X.then_code ?_)
    refine W.ite (p := ((td.length : Nat) : Int) > (0 : Int)) rfl (fun c127 => ?_) (fun c127 => ?_)
    · skip
      refine W.skip (X.then_code ?_)
      refine W.block ?_
      refine W.seq ?_
      refine W.region ?_
      refine WL.op rfl (d_move rfl ?_)
      refine WL.op rfl (d_move rfl ?_)
      refine WL.op rfl (d_lenS Try.underlying22 rfl ?_)
      refine WL.op rfl (d_sub rfl rfl (by omega) (by omega) ?_)
      refine WL.op rfl (t_addr1 (td.length - 1) (T := (tyI .i64)) rfl Try.underlying22 sz3 rfl rfl (H4.rdT 0 rfl) (by omega) (by omega) ?_)
      refine WL.op rfl (t_load1 (td.length - 1) 0 (T := (tyI .i64)) rfl Try.underlying3 rfl rfl (H4.rdT 0 rfl) (by omega) rfl ?_)
      refine WL.op rfl (d_assign rfl ?_)
      refine WL.done (X.then_code ?_)
      refine W.seq ?_
      refine W.region ?_
      refine WL.op rfl (d_move rfl ?_)
      refine WL.op rfl (d_move rfl ?_)
      refine WL.op rfl (d_lenS Try.underlying22 rfl ?_)
      refine WL.op rfl (d_sub rfl rfl (by omega) (by omega) ?_)
      refine WL.op rfl (t_pop (((td.length : Nat) : Int) - 1) (td.length - 1) (T := (tyI .i64)) (e := 3) (xs := td) rfl Try.underlying22 sz3 rfl rfl (H4.ownT 0 rfl) (by omega) (by omega) fun w5 u3 => ?_)
      have H5 : UpG w [rowT (tyI .i64) (.slice todoa todo.length todoc) 3 todo] w5 [[rowT (tyI .i64) (.slice ta ((td.take (td.length - 1)).length) tc) 3 (td.take (td.length - 1))], [rowT tyB (.slice (some ⟨w.heap.size, 0, none⟩) ((List.replicate n false).length) n) 4 o_1]] := H4.on 0 rfl u3
      refine WL.op rfl (d_assign rfl ?_)
      refine WL.done (X.then_code ?_)
      refine W.pick [0, 38, 37, 36, 35, 34, 10, 33, 32, 31, 30, 29, 28, 27, 26, 25, 7, 6, 2] (Γ' := [(0, .slice ta ((td.take (td.length - 1)).length) tc), (38, .slice ta ((td.take (td.length - 1)).length) tc), (37, .int .i64 (((td.length : Nat) : Int) - 1)), (36, .int .i64 ((td.length : Nat) : Int)), (35, .slice ta td.length tc), (34, .slice ta td.length tc), (10, .int .i64 (td.getD (td.length - 1) 0)), (33, .int .i64 (td.getD (td.length - 1) 0)), (32, elemPtr (.slice ta td.length tc) (td.length - 1)), (31, .int .i64 (((td.length : Nat) : Int) - 1)), (30, .int .i64 ((td.length : Nat) : Int)), (29, .slice ta td.length tc), (28, .slice ta td.length tc), (27, .bool (decide (((td.length : Nat) : Int) > (0 : Int)))), (26, .int .i64 ((td.length : Nat) : Int)), (25, .slice ta td.length tc), (7, .slice (some ⟨w.heap.size, 0, none⟩) ((List.replicate n false).length) n), (6, .slice none 0 0), (2, .func (.func next) #[] nextc.toArray)]) rfl ?_
      refine W.seq ?_
      have hst := (hi.inT (td.getD (td.length - 1) 0) (getD_mem' (by omega))).1
      have hns := hnx _ hst.1 hst.2
      refine W.region ?_
      refine WL.op rfl (d_move rfl ?_)
      refine WL.op rfl (d_move rfl ?_)
      refine WL.op rfl (d_callv hok rfl rfl (Ret.calls (hf w5 H5.keep (td.getD (td.length - 1) 0) (by omega) (by omega)) fun _ w6 p1 => ?_))
      obtain ⟨na1, nc1, rfl, u4, rdn1⟩ := p1
      have H6 : UpG w [rowT (tyI .i64) (.slice todoa todo.length todoc) 3 todo] w6 [[rowT (tyI .i64) (.slice ta ((td.take (td.length - 1)).length) tc) 3 (td.take (td.length - 1))], [rowT tyB (.slice (some ⟨w.heap.size, 0, none⟩) ((List.replicate n false).length) n) 4 o_1]] := H5.call u4
      refine WL.op rfl (d_lenS Try.underlying22 rfl ?_)
      refine WL.op rfl (d_move rfl ?_)
      refine WL.done (X.then_code ?_)
      refine W.pick [43, 42, 41, 40, 39, 0, 38, 37, 36, 35, 34, 10, 33, 32, 31, 30, 29, 28, 27, 26, 25, 7, 6, 2] (Γ' := [(43, .int .i64 0), (42, .int .i64 (((nx (td.getD (td.length - 1) 0)).length : Nat) : Int)), (41, .slice na1 ((nx (td.getD (td.length - 1) 0)).length) nc1), (40, .int .i64 (td.getD (td.length - 1) 0)), (39, .func (.func next) #[] nextc.toArray), (0, .slice ta ((td.take (td.length - 1)).length) tc), (38, .slice ta ((td.take (td.length - 1)).length) tc), (37, .int .i64 (((td.length : Nat) : Int) - 1)), (36, .int .i64 ((td.length : Nat) : Int)), (35, .slice ta td.length tc), (34, .slice ta td.length tc), (10, .int .i64 (td.getD (td.length - 1) 0)), (33, .int .i64 (td.getD (td.length - 1) 0)), (32, elemPtr (.slice ta td.length tc) (td.length - 1)), (31, .int .i64 (((td.length : Nat) : Int) - 1)), (30, .int .i64 ((td.length : Nat) : Int)), (29, .slice ta td.length tc), (28, .slice ta td.length tc), (27, .bool (decide (((td.length : Nat) : Int) > (0 : Int)))), (26, .int .i64 ((td.length : Nat) : Int)), (25, .slice ta td.length tc), (7, .slice (some ⟨w.heap.size, 0, none⟩) ((List.replicate n false).length) n), (6, .slice none 0 0), (2, .func (.func next) #[] nextc.toArray)]) rfl ?_
      refine W.block ?_
      refine W.pick [43, 42, 41, 40, 39, 0, 38, 37, 36, 35, 34, 10, 33, 32, 31, 30, 29, 28, 27, 26, 25, 7, 6, 2] (Γ' := [(43, .int .i64 0), (42, .int .i64 (((nx (td.getD (td.length - 1) 0)).length : Nat) : Int)), (41, .slice na1 ((nx (td.getD (td.length - 1) 0)).length) nc1), (40, .int .i64 (td.getD (td.length - 1) 0)), (39, .func (.func next) #[] nextc.toArray), (0, .slice ta ((td.take (td.length - 1)).length) tc), (38, .slice ta ((td.take (td.length - 1)).length) tc), (37, .int .i64 (((td.length : Nat) : Int) - 1)), (36, .int .i64 ((td.length : Nat) : Int)), (35, .slice ta td.length tc), (34, .slice ta td.length tc), (10, .int .i64 (td.getD (td.length - 1) 0)), (33, .int .i64 (td.getD (td.length - 1) 0)), (32, elemPtr (.slice ta td.length tc) (td.length - 1)), (31, .int .i64 (((td.length : Nat) : Int) - 1)), (30, .int .i64 ((td.length : Nat) : Int)), (29, .slice ta td.length tc), (28, .slice ta td.length tc), (27, .bool (decide (((td.length : Nat) : Int) > (0 : Int)))), (26, .int .i64 ((td.length : Nat) : Int)), (25, .slice ta td.length tc), (7, .slice (some ⟨w.heap.size, 0, none⟩) ((List.replicate n false).length) n), (6, .slice none 0 0), (2, .func (.func next) #[] nextc.toArray)]) rfl ?_
      refine W.loop (fun m Γ' w' => ∃ j : Nat, ∃ o3 : List Bool, ∃ tj : List Int, ∃ ua : Option Addr, ∃ uc : Nat, Γ' = [(43, .int .i64 ((j : Nat) : Int)), (42, .int .i64 (((nx (td.getD (td.length - 1) 0)).length : Nat) : Int)), (41, .slice na1 ((nx (td.getD (td.length - 1) 0)).length) nc1), (40, .int .i64 (td.getD (td.length - 1) 0)), (39, .func (.func next) #[] nextc.toArray), (0, .slice ua tj.length uc), (38, .slice ta ((td.take (td.length - 1)).length) tc), (37, .int .i64 (((td.length : Nat) : Int) - 1)), (36, .int .i64 ((td.length : Nat) : Int)), (35, .slice ta td.length tc), (34, .slice ta td.length tc), (10, .int .i64 (td.getD (td.length - 1) 0)), (33, .int .i64 (td.getD (td.length - 1) 0)), (32, elemPtr (.slice ta td.length tc) (td.length - 1)), (31, .int .i64 (((td.length : Nat) : Int) - 1)), (30, .int .i64 ((td.length : Nat) : Int)), (29, .slice ta td.length tc), (28, .slice ta td.length tc), (27, .bool (decide (((td.length : Nat) : Int) > (0 : Int)))), (26, .int .i64 ((td.length : Nat) : Int)), (25, .slice ta td.length tc), (7, .slice (some ⟨w.heap.size, 0, none⟩) ((List.replicate n false).length) n), (6, .slice none 0 0), (2, .func (.func next) #[] nextc.toArray)] ∧ UpG w [rowT (tyI .i64) (.slice todoa todo.length todoc) 3 todo] w' [[rowT (tyI .i64) (.slice ua tj.length uc) 3 tj], [rowT tyB (.slice (some ⟨w.heap.size, 0, none⟩) ((List.replicate n false).length) n) 4 o3]] ∧ (SprJ nx n todo o3 tj (td.getD (td.length - 1) 0) j) ∧ (j ≤ (nx (td.getD (td.length - 1) 0)).length) ∧ (2 * cf o3 + tj.length + 1 ≤ 2 * cf o_1 + td.length) ∧ m = (nx (td.getD (td.length - 1) 0)).length - j) ((nx (td.getD (td.length - 1) 0)).length - 0) ⟨0, o_1, td.take (td.length - 1), ta, tc, rfl, H6, (by exact hi.pop (by omega)), (by first | assumption | omega | simp), (by simp; omega), rfl⟩ ?_
      rintro m3 Γ3 w7 ⟨j, o3, tj, ua, uc, rfl, H7, hj, hjl, hm, rfl⟩
      have hol3 := hj.len
      refine W.seq ?_
      have hst := (hi.inT (td.getD (td.length - 1) 0) (getD_mem' (by omega))).1
      have hns := hnx _ hst.1 hst.2
      refine W.region ?_
      refine WL.op rfl (d_cmp (decide (((j : Nat) : Int) < (((nx (td.getD (td.length - 1) 0)).length : Nat) : Int))) rfl rfl rfl ?_)
      refine WL.done (X.then_code ?_)
      refine W.pick [44, 43, 42, 41, 40, 39, 0, 38, 37, 36, 35, 34, 10, 33, 32, 31, 30, 29, 28, 27, 26, 25, 7, 6, 2] (Γ' := [(44, .bool (decide (((j : Nat) : Int) < (((nx (td.getD (td.length - 1) 0)).length : Nat) : Int)))), (43, .int .i64 ((j : Nat) : Int)), (42, .int .i64 (((nx (td.getD (td.length - 1) 0)).length : Nat) : Int)), (41, .slice na1 ((nx (td.getD (td.length - 1) 0)).length) nc1), (40, .int .i64 (td.getD (td.length - 1) 0)), (39, .func (.func next) #[] nextc.toArray), (0, .slice ua tj.length uc), (38, .slice ta ((td.take (td.length - 1)).length) tc), (37, .int .i64 (((td.length : Nat) : Int) - 1)), (36, .int .i64 ((td.length : Nat) : Int)), (35, .slice ta td.length tc), (34, .slice ta td.length tc), (10, .int .i64 (td.getD (td.length - 1) 0)), (33, .int .i64 (td.getD (td.length - 1) 0)), (32, elemPtr (.slice ta td.length tc) (td.length - 1)), (31, .int .i64 (((td.length : Nat) : Int) - 1)), (30, .int .i64 ((td.length : Nat) : Int)), (29, .slice ta td.length tc), (28, .slice ta td.length tc), (27, .bool (decide (((td.length : Nat) : Int) > (0 : Int)))), (26, .int .i64 ((td.length : Nat) : Int)), (25, .slice ta td.length tc), (7, .slice (some ⟨w.heap.size, 0, none⟩) ((List.replicate n false).length) n), (6, .slice none 0 0), (2, .func (.func next) #[] nextc.toArray)]) rfl ?_
      refine W.seq ?_
      refine W.ite (p := ((j : Nat) : Int) < (((nx (td.getD (td.length - 1) 0)).length : Nat) : Int)) rfl (fun c130 => ?_) (fun c130 => ?_)
      · skip
        refine W.skip (X.then_code ?_)
        refine W.pick [44, 43, 42, 41, 40, 39, 0, 38, 37, 36, 35, 34, 10, 33, 32, 31, 30, 29, 28, 27, 26, 25, 7, 6, 2] (Γ' := [(44, .bool (decide (((j : Nat) : Int) < (((nx (td.getD (td.length - 1) 0)).length : Nat) : Int)))), (43, .int .i64 ((j : Nat) : Int)), (42, .int .i64 (((nx (td.getD (td.length - 1) 0)).length : Nat) : Int)), (41, .slice na1 ((nx (td.getD (td.length - 1) 0)).length) nc1), (40, .int .i64 (td.getD (td.length - 1) 0)), (39, .func (.func next) #[] nextc.toArray), (0, .slice ua tj.length uc), (38, .slice ta ((td.take (td.length - 1)).length) tc), (37, .int .i64 (((td.length : Nat) : Int) - 1)), (36, .int .i64 ((td.length : Nat) : Int)), (35, .slice ta td.length tc), (34, .slice ta td.length tc), (10, .int .i64 (td.getD (td.length - 1) 0)), (33, .int .i64 (td.getD (td.length - 1) 0)), (32, elemPtr (.slice ta td.length tc) (td.length - 1)), (31, .int .i64 (((td.length : Nat) : Int) - 1)), (30, .int .i64 ((td.length : Nat) : Int)), (29, .slice ta td.length tc), (28, .slice ta td.length tc), (27, .bool (decide (((td.length : Nat) : Int) > (0 : Int)))), (26, .int .i64 ((td.length : Nat) : Int)), (25, .slice ta td.length tc), (7, .slice (some ⟨w.heap.size, 0, none⟩) ((List.replicate n false).length) n), (6, .slice none 0 0), (2, .func (.func next) #[] nextc.toArray)]) rfl ?_
        refine W.seq ?_
        refine W.block ?_
        refine W.seq ?_
        have hst := (hi.inT (td.getD (td.length - 1) 0) (getD_mem' (by omega))).1
        have hns := hnx _ hst.1 hst.2
        refine W.region ?_
        refine WL.op rfl (t_addr1 j (T := (tyI .i64)) rfl Try.underlying22 sz3 rfl rfl (rdn1 w7 H7.keep) rfl (by omega) ?_)
        refine WL.op rfl (t_load1 j 0 (T := (tyI .i64)) rfl Try.underlying3 rfl rfl (rdn1 w7 H7.keep) (by omega) rfl ?_)
        refine WL.op rfl (d_assign rfl ?_)
        refine WL.done (X.then_code ?_)
        refine W.pick [12, 46, 45, 44, 43, 42, 41, 40, 39, 0, 38, 37, 36, 35, 34, 10, 33, 32, 31, 30, 29, 28, 27, 26, 25, 7, 6, 2] (Γ' := [(12, .int .i64 ((nx (td.getD (td.length - 1) 0)).getD j 0)), (46, .int .i64 ((nx (td.getD (td.length - 1) 0)).getD j 0)), (45, elemPtr (.slice na1 ((nx (td.getD (td.length - 1) 0)).length) nc1) j), (44, .bool (decide (((j : Nat) : Int) < (((nx (td.getD (td.length - 1) 0)).length : Nat) : Int)))), (43, .int .i64 ((j : Nat) : Int)), (42, .int .i64 (((nx (td.getD (td.length - 1) 0)).length : Nat) : Int)), (41, .slice na1 ((nx (td.getD (td.length - 1) 0)).length) nc1), (40, .int .i64 (td.getD (td.length - 1) 0)), (39, .func (.func next) #[] nextc.toArray), (0, .slice ua tj.length uc), (38, .slice ta ((td.take (td.length - 1)).length) tc), (37, .int .i64 (((td.length : Nat) : Int) - 1)), (36, .int .i64 ((td.length : Nat) : Int)), (35, .slice ta td.length tc), (34, .slice ta td.length tc), (10, .int .i64 (td.getD (td.length - 1) 0)), (33, .int .i64 (td.getD (td.length - 1) 0)), (32, elemPtr (.slice ta td.length tc) (td.length - 1)), (31, .int .i64 (((td.length : Nat) : Int) - 1)), (30, .int .i64 ((td.length : Nat) : Int)), (29, .slice ta td.length tc), (28, .slice ta td.length tc), (27, .bool (decide (((td.length : Nat) : Int) > (0 : Int)))), (26, .int .i64 ((td.length : Nat) : Int)), (25, .slice ta td.length tc), (7, .slice (some ⟨w.heap.size, 0, none⟩) ((List.replicate n false).length) n), (6, .slice none 0 0), (2, .func (.func next) #[] nextc.toArray)]) rfl ?_
        refine W.seq ?_
        have hb := hns.2 ((nx (td.getD (td.length - 1) 0)).getD j 0) (getD_mem' (by omega))
        refine W.region ?_
        refine WL.op rfl (d_move rfl ?_)
        refine WL.op rfl (d_move rfl ?_)
        refine WL.op rfl (t_addr1 (((nx (td.getD (td.length - 1) 0)).getD j 0).toNat) (T := tyB) rfl Try.underlying23 sz4 rfl rfl (H7.rdT 1 rfl) (by omega) (by omega) ?_)
        refine WL.op rfl (t_load1 (((nx (td.getD (td.length - 1) 0)).getD j 0).toNat) false (T := tyB) rfl Try.underlying4 rfl rfl (H7.rdT 1 rfl) (by omega) rfl ?_)
        refine WL.op rfl (d_notB rfl ?_)
        refine WL.done (X.then_code ?_)
        refine W.pick [51, 50, 49, 48, 47, 12, 46, 45, 44, 43, 42, 41, 40, 39, 0, 38, 37, 36, 35, 34, 10, 33, 32, 31, 30, 29, 28, 27, 26, 25, 7, 6, 2] (Γ' := [(51, .bool (!(o3.getD (((nx (td.getD (td.length - 1) 0)).getD j 0).toNat) false))), (50, .bool (o3.getD (((nx (td.getD (td.length - 1) 0)).getD j 0).toNat) false)), (49, elemPtr (.slice (some ⟨w.heap.size, 0, none⟩) ((List.replicate n false).length) n) (((nx (td.getD (td.length - 1) 0)).getD j 0).toNat)), (48, .int .i64 ((nx (td.getD (td.length - 1) 0)).getD j 0)), (47, .slice (some ⟨w.heap.size, 0, none⟩) ((List.replicate n false).length) n), (12, .int .i64 ((nx (td.getD (td.length - 1) 0)).getD j 0)), (46, .int .i64 ((nx (td.getD (td.length - 1) 0)).getD j 0)), (45, elemPtr (.slice na1 ((nx (td.getD (td.length - 1) 0)).length) nc1) j), (44, .bool (decide (((j : Nat) : Int) < (((nx (td.getD (td.length - 1) 0)).length : Nat) : Int)))), (43, .int .i64 ((j : Nat) : Int)), (42, .int .i64 (((nx (td.getD (td.length - 1) 0)).length : Nat) : Int)), (41, .slice na1 ((nx (td.getD (td.length - 1) 0)).length) nc1), (40, .int .i64 (td.getD (td.length - 1) 0)), (39, .func (.func next) #[] nextc.toArray), (0, .slice ua tj.length uc), (38, .slice ta ((td.take (td.length - 1)).length) tc), (37, .int .i64 (((td.length : Nat) : Int) - 1)), (36, .int .i64 ((td.length : Nat) : Int)), (35, .slice ta td.length tc), (34, .slice ta td.length tc), (10, .int .i64 (td.getD (td.length - 1) 0)), (33, .int .i64 (td.getD (td.length - 1) 0)), (32, elemPtr (.slice ta td.length tc) (td.length - 1)), (31, .int .i64 (((td.length : Nat) : Int) - 1)), (30, .int .i64 ((td.length : Nat) : Int)), (29, .slice ta td.length tc), (28, .slice ta td.length tc), (27, .bool (decide (((td.length : Nat) : Int) > (0 : Int)))), (26, .int .i64 ((td.length : Nat) : Int)), (25, .slice ta td.length tc), (7, .slice (some ⟨w.heap.size, 0, none⟩) ((List.replicate n false).length) n), (6, .slice none 0 0), (2, .func (.func next) #[] nextc.toArray)]) rfl ?_
        refine W.iteB (b := !(o3.getD (((nx (td.getD (td.length - 1) 0)).getD j 0).toNat) false)) rfl (fun c131 => ?_) (fun c131 => ?_)
        · skip
          refine W.seq ?_
          refine W.region ?_
          refine WL.op rfl (d_move rfl ?_)
          refine WL.op rfl (d_move rfl ?_)
          refine WL.op rfl (t_addr1 (((nx (td.getD (td.length - 1) 0)).getD j 0).toNat) (T := tyB) rfl Try.underlying23 sz4 rfl rfl (H7.rdT 1 rfl) (by omega) (by omega) ?_)
          refine WL.op0 (t_store1 (((nx (td.getD (td.length - 1) 0)).getD j 0).toNat) true (T := tyB) (e := 4) rfl sz4 rfl rfl rfl (H7.ownT 1 rfl) (by omega) fun w8 u5 => ?_)
          have H8 : UpG w [rowT (tyI .i64) (.slice todoa todo.length todoc) 3 todo] w8 [[rowT (tyI .i64) (.slice ua tj.length uc) 3 tj], [rowT tyB (.slice (some ⟨w.heap.size, 0, none⟩) ((List.replicate n false).length) n) 4 (o3.set (((nx (td.getD (td.length - 1) 0)).getD j 0).toNat) true)]] := H7.on 1 rfl u5
          refine WL.done (X.then_code ?_)
          refine W.pick [54, 53, 52, 51, 50, 49, 48, 47, 12, 46, 45, 44, 43, 42, 41, 40, 39, 0, 38, 37, 36, 35, 34, 10, 33, 32, 31, 30, 29, 28, 27, 26, 25, 7, 6, 2] (Γ' := [(54, elemPtr (.slice (some ⟨w.heap.size, 0, none⟩) ((List.replicate n false).length) n) (((nx (td.getD (td.length - 1) 0)).getD j 0).toNat)), (53, .int .i64 ((nx (td.getD (td.length - 1) 0)).getD j 0)), (52, .slice (some ⟨w.heap.size, 0, none⟩) ((List.replicate n false).length) n), (51, .bool (!(o3.getD (((nx (td.getD (td.length - 1) 0)).getD j 0).toNat) false))), (50, .bool (o3.getD (((nx (td.getD (td.length - 1) 0)).getD j 0).toNat) false)), (49, elemPtr (.slice (some ⟨w.heap.size, 0, none⟩) ((List.replicate n false).length) n) (((nx (td.getD (td.length - 1) 0)).getD j 0).toNat)), (48, .int .i64 ((nx (td.getD (td.length - 1) 0)).getD j 0)), (47, .slice (some ⟨w.heap.size, 0, none⟩) ((List.replicate n false).length) n), (12, .int .i64 ((nx (td.getD (td.length - 1) 0)).getD j 0)), (46, .int .i64 ((nx (td.getD (td.length - 1) 0)).getD j 0)), (45, elemPtr (.slice na1 ((nx (td.getD (td.length - 1) 0)).length) nc1) j), (44, .bool (decide (((j : Nat) : Int) < (((nx (td.getD (td.length - 1) 0)).length : Nat) : Int)))), (43, .int .i64 ((j : Nat) : Int)), (42, .int .i64 (((nx (td.getD (td.length - 1) 0)).length : Nat) : Int)), (41, .slice na1 ((nx (td.getD (td.length - 1) 0)).length) nc1), (40, .int .i64 (td.getD (td.length - 1) 0)), (39, .func (.func next) #[] nextc.toArray), (0, .slice ua tj.length uc), (38, .slice ta ((td.take (td.length - 1)).length) tc), (37, .int .i64 (((td.length : Nat) : Int) - 1)), (36, .int .i64 ((td.length : Nat) : Int)), (35, .slice ta td.length tc), (34, .slice ta td.length tc), (10, .int .i64 (td.getD (td.length - 1) 0)), (33, .int .i64 (td.getD (td.length - 1) 0)), (32, elemPtr (.slice ta td.length tc) (td.length - 1)), (31, .int .i64 (((td.length : Nat) : Int) - 1)), (30, .int .i64 ((td.length : Nat) : Int)), (29, .slice ta td.length tc), (28, .slice ta td.length tc), (27, .bool (decide (((td.length : Nat) : Int) > (0 : Int)))), (26, .int .i64 ((td.length : Nat) : Int)), (25, .slice ta td.length tc), (7, .slice (some ⟨w.heap.size, 0, none⟩) ((List.replicate n false).length) n), (6, .slice none 0 0), (2, .func (.func next) #[] nextc.toArray)]) rfl ?_
          refine W.region ?_
          refine WL.op rfl (d_move rfl ?_)
          refine WL.op rfl (d_move rfl ?_)
          refine WL.op rfl (t_buildSlice (T := (tyI .i64)) (xs := [(nx (td.getD (td.length - 1) 0)).getD j 0]) (cs := #[.int .i64 ((nx (td.getD (td.length - 1) 0)).getD j 0)]) rfl Try.underlying22 sz3 rfl rfl rfl rfl (by kernel_rfl) rfl rfl fun w9 u6 => ?_)
          have H9 : UpG w [rowT (tyI .i64) (.slice todoa todo.length todoc) 3 todo] w9 [[rowT (tyI .i64) (.slice ua tj.length uc) 3 tj], [rowT tyB (.slice (some ⟨w.heap.size, 0, none⟩) ((List.replicate n false).length) n) 4 (o3.set (((nx (td.getD (td.length - 1) 0)).getD j 0).toNat) true)], [rowT (tyI .i64) (.slice (some ⟨w8.heap.size, 0, none⟩) ([(nx (td.getD (td.length - 1) 0)).getD j 0].length) ([(nx (td.getD (td.length - 1) 0)).getD j 0].length)) 3 [(nx (td.getD (td.length - 1) 0)).getD j 0]]] := H8.new' u6
          refine WL.op rfl (t_append (T := (tyI .i64)) (xs := tj) (ys := [(nx (td.getD (td.length - 1) 0)).getD j 0]) rfl Try.underlying22 sz3 rfl rfl rfl (H9.ownT 0 rfl) (H9.rdT 2 rfl) (by simp; omega) (by simp; omega) fun a1 c1 w10 u7 => ?_)
          have H10 : UpG w [rowT (tyI .i64) (.slice todoa todo.length todoc) 3 todo] w10 [[rowT (tyI .i64) (.slice a1 ((tj ++ [(nx (td.getD (td.length - 1) 0)).getD j 0]).length) c1) 3 (tj ++ [(nx (td.getD (td.length - 1) 0)).getD j 0])], [rowT tyB (.slice (some ⟨w.heap.size, 0, none⟩) ((List.replicate n false).length) n) 4 (o3.set (((nx (td.getD (td.length - 1) 0)).getD j 0).toNat) true)], []] := (H9.on 0 rfl u7).drop 2
          refine WL.op rfl (d_assign rfl ?_)
          refine WL.done (X.block_normal (X.then_code ?_))
          refine W.pick [0, 58, 57, 56, 55, 54, 53, 52, 51, 50, 49, 48, 47, 12, 46, 45, 44, 43, 42, 41, 40, 39, 38, 37, 36, 35, 34, 10, 33, 32, 31, 30, 29, 28, 27, 26, 25, 7, 6, 2] (Γ' := [(0, .slice a1 ((tj ++ [(nx (td.getD (td.length - 1) 0)).getD j 0]).length) c1), (58, .slice a1 ((tj ++ [(nx (td.getD (td.length - 1) 0)).getD j 0]).length) c1), (57, .slice (some ⟨w8.heap.size, 0, none⟩) ([(nx (td.getD (td.length - 1) 0)).getD j 0].length) ([(nx (td.getD (td.length - 1) 0)).getD j 0].length)), (56, .int .i64 ((nx (td.getD (td.length - 1) 0)).getD j 0)), (55, .slice ua tj.length uc), (54, elemPtr (.slice (some ⟨w.heap.size, 0, none⟩) ((List.replicate n false).length) n) (((nx (td.getD (td.length - 1) 0)).getD j 0).toNat)), (53, .int .i64 ((nx (td.getD (td.length - 1) 0)).getD j 0)), (52, .slice (some ⟨w.heap.size, 0, none⟩) ((List.replicate n false).length) n), (51, .bool (!(o3.getD (((nx (td.getD (td.length - 1) 0)).getD j 0).toNat) false))), (50, .bool (o3.getD (((nx (td.getD (td.length - 1) 0)).getD j 0).toNat) false)), (49, elemPtr (.slice (some ⟨w.heap.size, 0, none⟩) ((List.replicate n false).length) n) (((nx (td.getD (td.length - 1) 0)).getD j 0).toNat)), (48, .int .i64 ((nx (td.getD (td.length - 1) 0)).getD j 0)), (47, .slice (some ⟨w.heap.size, 0, none⟩) ((List.replicate n false).length) n), (12, .int .i64 ((nx (td.getD (td.length - 1) 0)).getD j 0)), (46, .int .i64 ((nx (td.getD (td.length - 1) 0)).getD j 0)), (45, elemPtr (.slice na1 ((nx (td.getD (td.length - 1) 0)).length) nc1) j), (44, .bool (decide (((j : Nat) : Int) < (((nx (td.getD (td.length - 1) 0)).length : Nat) : Int)))), (43, .int .i64 ((j : Nat) : Int)), (42, .int .i64 (((nx (td.getD (td.length - 1) 0)).length : Nat) : Int)), (41, .slice na1 ((nx (td.getD (td.length - 1) 0)).length) nc1), (40, .int .i64 (td.getD (td.length - 1) 0)), (39, .func (.func next) #[] nextc.toArray), (38, .slice ta ((td.take (td.length - 1)).length) tc), (37, .int .i64 (((td.length : Nat) : Int) - 1)), (36, .int .i64 ((td.length : Nat) : Int)), (35, .slice ta td.length tc), (34, .slice ta td.length tc), (10, .int .i64 (td.getD (td.length - 1) 0)), (33, .int .i64 (td.getD (td.length - 1) 0)), (32, elemPtr (.slice ta td.length tc) (td.length - 1)), (31, .int .i64 (((td.length : Nat) : Int) - 1)), (30, .int .i64 ((td.length : Nat) : Int)), (29, .slice ta td.length tc), (28, .slice ta td.length tc), (27, .bool (decide (((td.length : Nat) : Int) > (0 : Int)))), (26, .int .i64 ((td.length : Nat) : Int)), (25, .slice ta td.length tc), (7, .slice (some ⟨w.heap.size, 0, none⟩) ((List.replicate n false).length) n), (6, .slice none 0 0), (2, .func (.func next) #[] nextc.toArray)]) rfl ?_
          have hst := (hi.inT (td.getD (td.length - 1) 0) (getD_mem' (by omega))).1
          have hns := hnx _ hst.1 hst.2
          refine W.region ?_
          refine WL.op rfl (d_add rfl rfl (by omega) (by omega) ?_)
          refine WL.op rfl (d_move rfl ?_)
          refine WL.done ?_
          exact X.next [43, 42, 41, 40, 39, 0, 38, 37, 36, 35, 34, 10, 33, 32, 31, 30, 29, 28, 27, 26, 25, 7, 6, 2] (Γ' := [(43, .int .i64 (((j + 1) : Nat) : Int)), (42, .int .i64 (((nx (td.getD (td.length - 1) 0)).length : Nat) : Int)), (41, .slice na1 ((nx (td.getD (td.length - 1) 0)).length) nc1), (40, .int .i64 (td.getD (td.length - 1) 0)), (39, .func (.func next) #[] nextc.toArray), (0, .slice a1 ((tj ++ [(nx (td.getD (td.length - 1) 0)).getD j 0]).length) c1), (38, .slice ta ((td.take (td.length - 1)).length) tc), (37, .int .i64 (((td.length : Nat) : Int) - 1)), (36, .int .i64 ((td.length : Nat) : Int)), (35, .slice ta td.length tc), (34, .slice ta td.length tc), (10, .int .i64 (td.getD (td.length - 1) 0)), (33, .int .i64 (td.getD (td.length - 1) 0)), (32, elemPtr (.slice ta td.length tc) (td.length - 1)), (31, .int .i64 (((td.length : Nat) : Int) - 1)), (30, .int .i64 ((td.length : Nat) : Int)), (29, .slice ta td.length tc), (28, .slice ta td.length tc), (27, .bool (decide (((td.length : Nat) : Int) > (0 : Int)))), (26, .int .i64 ((td.length : Nat) : Int)), (25, .slice ta td.length tc), (7, .slice (some ⟨w.heap.size, 0, none⟩) ((List.replicate n false).length) n), (6, .slice none 0 0), (2, .func (.func next) #[] nextc.toArray)]) rfl ((nx (td.getD (td.length - 1) 0)).length - (j + 1)) (by omega) ⟨j + 1, o3.set (((nx (td.getD (td.length - 1) 0)).getD j 0).toNat) true, tj ++ [(nx (td.getD (td.length - 1) 0)).getD j 0], a1, c1, rfl, (H10.re rfl), (by first | exact hj.new (by omega) hb | exact hj.old (by omega) (by simpa using c131)), (by first | assumption | omega | simp), (by first | omega | (have h9 := cf_set o3 ((nx (td.getD (td.length - 1) 0)).getD j 0).toNat (by omega) (by simpa using c131); rw [List.length_append, List.length_singleton]; omega)), rfl⟩
        · skip
          refine W.skip (X.block_normal (X.then_code ?_))
          refine W.pick [51, 50, 49, 48, 47, 12, 46, 45, 44, 43, 42, 41, 40, 39, 0, 38, 37, 36, 35, 34, 10, 33, 32, 31, 30, 29, 28, 27, 26, 25, 7, 6, 2] (Γ' := [(51, .bool (!(o3.getD (((nx (td.getD (td.length - 1) 0)).getD j 0).toNat) false))), (50, .bool (o3.getD (((nx (td.getD (td.length - 1) 0)).getD j 0).toNat) false)), (49, elemPtr (.slice (some ⟨w.heap.size, 0, none⟩) ((List.replicate n false).length) n) (((nx (td.getD (td.length - 1) 0)).getD j 0).toNat)), (48, .int .i64 ((nx (td.getD (td.length - 1) 0)).getD j 0)), (47, .slice (some ⟨w.heap.size, 0, none⟩) ((List.replicate n false).length) n), (12, .int .i64 ((nx (td.getD (td.length - 1) 0)).getD j 0)), (46, .int .i64 ((nx (td.getD (td.length - 1) 0)).getD j 0)), (45, elemPtr (.slice na1 ((nx (td.getD (td.length - 1) 0)).length) nc1) j), (44, .bool (decide (((j : Nat) : Int) < (((nx (td.getD (td.length - 1) 0)).length : Nat) : Int)))), (43, .int .i64 ((j : Nat) : Int)), (42, .int .i64 (((nx (td.getD (td.length - 1) 0)).length : Nat) : Int)), (41, .slice na1 ((nx (td.getD (td.length - 1) 0)).length) nc1), (40, .int .i64 (td.getD (td.length - 1) 0)), (39, .func (.func next) #[] nextc.toArray), (0, .slice ua tj.length uc), (38, .slice ta ((td.take (td.length - 1)).length) tc), (37, .int .i64 (((td.length : Nat) : Int) - 1)), (36, .int .i64 ((td.length : Nat) : Int)), (35, .slice ta td.length tc), (34, .slice ta td.length tc), (10, .int .i64 (td.getD (td.length - 1) 0)), (33, .int .i64 (td.getD (td.length - 1) 0)), (32, elemPtr (.slice ta td.length tc) (td.length - 1)), (31, .int .i64 (((td.length : Nat) : Int) - 1)), (30, .int .i64 ((td.length : Nat) : Int)), (29, .slice ta td.length tc), (28, .slice ta td.length tc), (27, .bool (decide (((td.length : Nat) : Int) > (0 : Int)))), (26, .int .i64 ((td.length : Nat) : Int)), (25, .slice ta td.length tc), (7, .slice (some ⟨w.heap.size, 0, none⟩) ((List.replicate n false).length) n), (6, .slice none 0 0), (2, .func (.func next) #[] nextc.toArray)]) rfl ?_
          have hst := (hi.inT (td.getD (td.length - 1) 0) (getD_mem' (by omega))).1
          have hns := hnx _ hst.1 hst.2
          refine W.region ?_
          refine WL.op rfl (d_add rfl rfl (by omega) (by omega) ?_)
          refine WL.op rfl (d_move rfl ?_)
          refine WL.done ?_
          exact X.next [43, 42, 41, 40, 39, 0, 38, 37, 36, 35, 34, 10, 33, 32, 31, 30, 29, 28, 27, 26, 25, 7, 6, 2] (Γ' := [(43, .int .i64 (((j + 1) : Nat) : Int)), (42, .int .i64 (((nx (td.getD (td.length - 1) 0)).length : Nat) : Int)), (41, .slice na1 ((nx (td.getD (td.length - 1) 0)).length) nc1), (40, .int .i64 (td.getD (td.length - 1) 0)), (39, .func (.func next) #[] nextc.toArray), (0, .slice ua tj.length uc), (38, .slice ta ((td.take (td.length - 1)).length) tc), (37, .int .i64 (((td.length : Nat) : Int) - 1)), (36, .int .i64 ((td.length : Nat) : Int)), (35, .slice ta td.length tc), (34, .slice ta td.length tc), (10, .int .i64 (td.getD (td.length - 1) 0)), (33, .int .i64 (td.getD (td.length - 1) 0)), (32, elemPtr (.slice ta td.length tc) (td.length - 1)), (31, .int .i64 (((td.length : Nat) : Int) - 1)), (30, .int .i64 ((td.length : Nat) : Int)), (29, .slice ta td.length tc), (28, .slice ta td.length tc), (27, .bool (decide (((td.length : Nat) : Int) > (0 : Int)))), (26, .int .i64 ((td.length : Nat) : Int)), (25, .slice ta td.length tc), (7, .slice (some ⟨w.heap.size, 0, none⟩) ((List.replicate n false).length) n), (6, .slice none 0 0), (2, .func (.func next) #[] nextc.toArray)]) rfl ((nx (td.getD (td.length - 1) 0)).length - (j + 1)) (by omega) ⟨j + 1, o3, tj, ua, uc, rfl, H7, (by first | exact hj.new (by omega) hb | exact hj.old (by omega) (by simpa using c131)), (by first | assumption | omega | simp), (by first | omega | (have h9 := cf_set o3 ((nx (td.getD (td.length - 1) 0)).getD j 0).toNat (by omega) (by simpa using c131); rw [List.length_append, List.length_singleton]; omega)), rfl⟩
      · skip
        refine W.exit (X.then_exit (X.then_exit (X.block_exit (X.block_normal ?_))))
        exact X.next [7, 6, 0, 2] (Γ' := [(7, .slice (some ⟨w.heap.size, 0, none⟩) ((List.replicate n false).length) n), (6, .slice none 0 0), (0, .slice ua tj.length uc), (2, .func (.func next) #[] nextc.toArray)]) rfl (2 * cf o3 + tj.length) (by omega) ⟨o3, tj, ua, uc, rfl, H7, (by exact hj.done (by omega)), (by omega), rfl⟩
    · skip
      refine W.exit (X.then_exit (X.then_exit (X.block_exit (X.then_code ?_))))
      refine W.seq ?_
      refine W.region ?_
      refine WL.op rfl (d_move rfl ?_)
      refine WL.op rfl (d_assign rfl ?_)
      refine WL.done (X.then_code ?_)
      refine W.ret (X.ret1 rfl rfl ?_)
      have hfin := hi.fin (by omega)
      exact ⟨(some ⟨w.heap.size, 0, none⟩), o_1, n, (by rw [hol2, List.length_replicate]), (by have h9 := H4.one 1 rfl; rw [List.length_replicate] at h9; rw [hol2]; exact h9), hfin⟩
end Go.Proofs.Ytoeockpkkmgieaa


/- The walks of functions, printed by wip/tools/gw.py. -/
namespace Go.Proofs.Ytoeockpkkmgieaa
open Go Go.Sx
set_option linter.unusedVariables false
set_option linter.unusedSimpArgs false
set_option maxRecDepth 20000 in
theorem reach1_any (s : Int) (lg : Nat) (la : Option Addr) (lc : Nat) (dg : Nat) (d : DfaD) (dca : Option Addr) (dcc : Nat) (dna : Option Addr) (dnc : Nat) (dba : Option Addr) (dbc : Nat) (w : World) (rl : RdT (tyI .i64) w (.slice la ((usedI d).length) lc) (usedI d)) (rn : RdT (tyI .i64) w (.slice dna d.next.length dnc) d.next) (blg : w.heap[lg]? = some (.cells #[.slice la ((usedI d).length) lc] 22 (0, 0))) (bdg : w.heap[dg]? = some (.cells #[.slice dca d.cls.length dcc, .int .i64 d.width, .int .i64 d.start, .slice dna d.next.length dnc, .slice dba d.acc.length dbc] 25 (0, 0))) (hrt : rightB d = true) (hs : 0 ≤ s ∧ s < (d.acc.length : Int)) :
    Calls Try.prog 60 #[.int .i64 s, .pointer (some ⟨lg, 0, none⟩), .pointer (some ⟨dg, 0, none⟩)] w (Ret fun v w' => ∃ a2 : Option Addr, ∃ c2 : Nat, v = .slice a2 ((nxR d s).length) c2 ∧ Upd w [] w' [rowT (tyI .i64) (.slice a2 ((nxR d s).length) c2) 3 (nxR d s)]) := by
  have hul := used_len d
  have hri := rightB_iff.1 hrt
  have le_rl := rl.le
  have le_rn := rn.le
  refine calls_of_W (args := [.int .i64 s, .pointer (some ⟨lg, 0, none⟩), .pointer (some ⟨dg, 0, none⟩)]) Try.func60 rfl rfl rfl ?_
  have H0 : UpG w [] w [] := UpG.nil w
  show W _ _ _ _ [(0, .int .i64 s), (1, .pointer (some ⟨lg, 0, none⟩)), (2, .pointer (some ⟨dg, 0, none⟩))] w
  refine W.seq ?_
  refine W.region ?_
  refine WL.op rfl (d_assign rfl ?_)
  refine WL.done (X.then_code ?_)
  refine W.seq ?_
  refine W.region ?_
  refine WL.op rfl (d_assign rfl ?_)
  refine WL.done (X.then_code ?_)
  refine W.seq ?_
  refine W.seq ?_
  refine W.region ?_
  refine WL.op rfl (d_loadB Try.underlying22 rfl rfl (H0.keep0.obj blg (by simp)) rfl ?_)
  refine WL.op rfl (d_lenS Try.underlying22 rfl ?_)
  refine WL.op rfl (d_move rfl ?_)
  refine WL.done (X.then_code ?_)
  refine W.block ?_
  have H1 : UpG w [] w [[rowT (tyI .i64) (.slice none (([] : List Int).length) 0) 3 ([] : List Int)]] := H0.new' (Upd.nilRowT w (tyI .i64) 3)
  refine W.pick [10, 9, 8, 5, 4, 0, 2] (Γ' := [(10, .int .i64 0), (9, .int .i64 (((usedI d).length : Nat) : Int)), (8, .slice la ((usedI d).length) lc), (5, .slice none (([] : List Int).length) 0), (4, .slice none 0 0), (0, .int .i64 s), (2, .pointer (some ⟨dg, 0, none⟩))]) rfl ?_
  refine W.loop (fun m Γ' w' => ∃ k : Nat, ∃ q : List Int, ∃ qa : Option Addr, ∃ qc : Nat, Γ' = [(10, .int .i64 ((k : Nat) : Int)), (9, .int .i64 (((usedI d).length : Nat) : Int)), (8, .slice la ((usedI d).length) lc), (5, .slice qa q.length qc), (4, .slice none 0 0), (0, .int .i64 s), (2, .pointer (some ⟨dg, 0, none⟩))] ∧ UpG w [] w' [[rowT (tyI .i64) (.slice qa q.length qc) 3 q]] ∧ (k ≤ (usedI d).length) ∧ (q = ((usedI d).take k).map (fun c => d.next.getD (s * d.width + c).toNat 0)) ∧ (q.length = k) ∧ m = (usedI d).length - k) ((usedI d).length - 0) ⟨0, ([] : List Int), none, 0, rfl, H1, (by first | assumption | omega | simp), (by rfl), (by rfl), rfl⟩ ?_
  rintro m1 Γ1 w1 ⟨k, q, qa, qc, rfl, H2, hk, hq, hql, rfl⟩
  refine W.seq ?_
  refine W.region ?_
  refine WL.op rfl (d_cmp (decide (((k : Nat) : Int) < (((usedI d).length : Nat) : Int))) rfl rfl rfl ?_)
  refine WL.done (X.then_code ?_)
  refine W.seq ?_
  refine W.ite (p := ((k : Nat) : Int) < (((usedI d).length : Nat) : Int)) rfl (fun c114 => ?_) (fun c114 => ?_)
  · skip
    refine W.skip (X.then_code ?_)
    refine W.seq ?_
    refine W.block ?_
    refine W.seq ?_
    refine W.region ?_
    refine WL.op rfl (t_addr1 k (T := (tyI .i64)) rfl Try.underlying22 sz3 rfl rfl (rl.at H2) rfl (by omega) ?_)
    refine WL.op rfl (t_load1 k 0 (T := (tyI .i64)) rfl Try.underlying3 rfl rfl (rl.at H2) (by omega) rfl ?_)
    refine WL.op rfl (d_assign rfl ?_)
    refine WL.done (X.then_code ?_)
    have hcx := used_bd hrt (x := (usedI d).getD k 0) (getD_mem' (by omega))
    have hix := right_idx hrt hs.1 hs.2 hcx.1 hcx.2
    refine W.region ?_
    refine WL.op rfl (d_move rfl ?_)
    refine WL.op rfl (d_fieldAddrB fld25_3 rfl rfl ?_)
    refine WL.op rfl (d_loadB Try.underlying22 rfl rfl (H2.keep0.obj bdg (by simp)) rfl ?_)
    refine WL.op rfl (d_move rfl ?_)
    refine WL.op rfl (d_fieldAddrB fld25_1 rfl rfl ?_)
    refine WL.op rfl (d_loadB Try.underlying3 rfl rfl (H2.keep0.obj bdg (by simp)) rfl ?_)
    refine WL.op rfl (d_mul rfl rfl (by omega) (by omega) ?_)
    refine WL.op rfl (d_move rfl ?_)
    refine WL.op rfl (d_add rfl rfl (by omega) (by omega) ?_)
    refine WL.op rfl (t_addr1 (((s * d.width) + ((usedI d).getD k 0)).toNat) (T := (tyI .i64)) rfl Try.underlying22 sz3 rfl rfl (rn.at H2) (by omega) (by omega) ?_)
    refine WL.op rfl (t_load1 (((s * d.width) + ((usedI d).getD k 0)).toNat) 0 (T := (tyI .i64)) rfl Try.underlying3 rfl rfl (rn.at H2) (by omega) rfl ?_)
    refine WL.op rfl (t_buildSlice (T := (tyI .i64)) (xs := [d.next.getD (((s * d.width) + ((usedI d).getD k 0)).toNat) 0]) (cs := #[.int .i64 (d.next.getD (((s * d.width) + ((usedI d).getD k 0)).toNat) 0)]) rfl Try.underlying22 sz3 rfl rfl rfl rfl (by kernel_rfl) rfl rfl fun w2 u1 => ?_)
    have H3 : UpG w [] w2 [[rowT (tyI .i64) (.slice qa q.length qc) 3 q], [rowT (tyI .i64) (.slice (some ⟨w1.heap.size, 0, none⟩) ([d.next.getD (((s * d.width) + ((usedI d).getD k 0)).toNat) 0].length) ([d.next.getD (((s * d.width) + ((usedI d).getD k 0)).toNat) 0].length)) 3 [d.next.getD (((s * d.width) + ((usedI d).getD k 0)).toNat) 0]]] := H2.new' u1
    refine WL.op rfl (t_append (T := (tyI .i64)) (xs := q) (ys := [d.next.getD (((s * d.width) + ((usedI d).getD k 0)).toNat) 0]) rfl Try.underlying22 sz3 rfl rfl rfl (H3.ownT 0 rfl) (H3.rdT 1 rfl) (by simp; omega) (by simp; omega) fun a1 c1 w3 u2 => ?_)
    have H4 : UpG w [] w3 [[rowT (tyI .i64) (.slice a1 ((q ++ [d.next.getD (((s * d.width) + ((usedI d).getD k 0)).toNat) 0]).length) c1) 3 (q ++ [d.next.getD (((s * d.width) + ((usedI d).getD k 0)).toNat) 0])], []] := (H3.on 0 rfl u2).drop 1
    refine WL.op rfl (d_assign rfl ?_)
    refine WL.done (X.block_normal (X.then_code ?_))
    refine W.pick [5, 26, 25, 24, 23, 22, 21, 20, 19, 18, 17, 16, 15, 14, 7, 13, 12, 11, 10, 9, 8, 4, 0, 2] (Γ' := [(5, .slice a1 ((q ++ [d.next.getD (((s * d.width) + ((usedI d).getD k 0)).toNat) 0]).length) c1), (26, .slice a1 ((q ++ [d.next.getD (((s * d.width) + ((usedI d).getD k 0)).toNat) 0]).length) c1), (25, .slice (some ⟨w1.heap.size, 0, none⟩) ([d.next.getD (((s * d.width) + ((usedI d).getD k 0)).toNat) 0].length) ([d.next.getD (((s * d.width) + ((usedI d).getD k 0)).toNat) 0].length)), (24, .int .i64 (d.next.getD (((s * d.width) + ((usedI d).getD k 0)).toNat) 0)), (23, elemPtr (.slice dna d.next.length dnc) (((s * d.width) + ((usedI d).getD k 0)).toNat)), (22, .int .i64 ((s * d.width) + ((usedI d).getD k 0))), (21, .int .i64 ((usedI d).getD k 0)), (20, .int .i64 (s * d.width)), (19, .int .i64 d.width), (18, .pointer (some ⟨dg, 1, none⟩)), (17, .int .i64 s), (16, .slice dna d.next.length dnc), (15, .pointer (some ⟨dg, 3, none⟩)), (14, .slice qa q.length qc), (7, .int .i64 ((usedI d).getD k 0)), (13, .int .i64 ((usedI d).getD k 0)), (12, elemPtr (.slice la ((usedI d).length) lc) k), (11, .bool (decide (((k : Nat) : Int) < (((usedI d).length : Nat) : Int)))), (10, .int .i64 ((k : Nat) : Int)), (9, .int .i64 (((usedI d).length : Nat) : Int)), (8, .slice la ((usedI d).length) lc), (4, .slice none 0 0), (0, .int .i64 s), (2, .pointer (some ⟨dg, 0, none⟩))]) rfl ?_
    refine W.region ?_
    refine WL.op rfl (d_add rfl rfl (by omega) (by omega) ?_)
    refine WL.op rfl (d_move rfl ?_)
    refine WL.done ?_
    exact X.next [10, 9, 8, 5, 4, 0, 2] (Γ' := [(10, .int .i64 (((k + 1) : Nat) : Int)), (9, .int .i64 (((usedI d).length : Nat) : Int)), (8, .slice la ((usedI d).length) lc), (5, .slice a1 ((q ++ [d.next.getD (((s * d.width) + ((usedI d).getD k 0)).toNat) 0]).length) c1), (4, .slice none 0 0), (0, .int .i64 s), (2, .pointer (some ⟨dg, 0, none⟩))]) rfl ((usedI d).length - (k + 1)) (by omega) ⟨k + 1, q ++ [d.next.getD (((s * d.width) + ((usedI d).getD k 0)).toNat) 0], a1, c1, rfl, (H4.re rfl), (by first | assumption | omega | simp), (by rw [hq]; exact nxR_step (by omega)), (by simp; omega), rfl⟩
  · skip
    refine W.exit (X.then_exit (X.then_exit (X.block_exit (X.then_code ?_))))
    refine W.seq ?_
    refine W.region ?_
    refine WL.op rfl (d_move rfl ?_)
    refine WL.op rfl (d_assign rfl ?_)
    refine WL.done (X.then_code ?_)
    refine W.ret (X.ret1 rfl rfl ?_)
    have e : nxR d s = q := by rw [hq, List.take_of_length_le (by omega)]; rfl
    rw [e]
    exact ⟨qa, qc, (by rfl), (by have hh := H2.one 0 rfl; exact hh)⟩

set_option maxRecDepth 20000 in
theorem reach_any (d : DfaD) (dca : Option Addr) (dna : Option Addr) (dba : Option Addr) (dcc : Nat) (dnc : Nat) (dbc : Nat) (w : World) (rcd : RdT (tyI .i64) w (.slice dca d.cls.length dcc) d.cls) (rnd : RdT (tyI .i64) w (.slice dna d.next.length dnc) d.next) (rbd : RdT tyB w (.slice dba d.acc.length dbc) d.acc) (hcl : d.cls.length ≤ 1000) :
    Calls Try.prog 19 #[.agg #[.slice dca d.cls.length dcc, .int .i64 d.width, .int .i64 d.start, .slice dna d.next.length dnc, .slice dba d.acc.length dbc]] w (Ret fun v w' => ∃ a2 : Option Addr, ∃ o2 : List Bool, ∃ c2 : Nat, v = .slice a2 o2.length c2 ∧ Upd w [] w' [rowT tyB (.slice a2 o2.length c2) 4 o2] ∧ (ReachP d o2)) := by
  have le_rcd := rcd.le
  have le_rnd := rnd.le
  have le_rbd := rbd.le
  refine calls_of_W (args := [.agg #[.slice dca d.cls.length dcc, .int .i64 d.width, .int .i64 d.start, .slice dna d.next.length dnc, .slice dba d.acc.length dbc]]) Try.func19 rfl rfl rfl ?_
  have H0 : UpG w [] w [] := UpG.nil w
  show W _ _ _ _ [(0, .agg #[.slice dca d.cls.length dcc, .int .i64 d.width, .int .i64 d.start, .slice dna d.next.length dnc, .slice dba d.acc.length dbc])] w
  refine W.seq ?_
  refine W.region ?_
  refine WL.op rfl (d_box rfl fun w1 u1 => ?_)
  have H1 : UpG w [] w1 [[blk w.heap.size #[.slice dca d.cls.length dcc, .int .i64 d.width, .int .i64 d.start, .slice dna d.next.length dnc, .slice dba d.acc.length dbc] 25]] := H0.new' u1
  refine WL.op rfl (d_assign rfl ?_)
  refine WL.done (X.then_code ?_)
  refine W.seq ?_
  refine W.seq ?_
  refine W.region ?_
  refine WL.op rfl (d_loadAB [.slice dca d.cls.length dcc, .int .i64 d.width, .int .i64 d.start, .slice dna d.next.length dnc, .slice dba d.acc.length dbc] Try.underlying25 rfl sz25 rfl (H1.blk 0 rfl) rfl rfl ?_)
  refine WL.op rfl (d_call ok24 rfl (Ret.calls (right_any d dca dna dba dcc dnc dbc w1 (rcd.at H1) (rnd.at H1) (rbd.at H1) ) fun _ w2 p1 => ?_))
  obtain ⟨rfl, u2⟩ := p1
  have H2 : UpG w [] w2 [[blk w.heap.size #[.slice dca d.cls.length dcc, .int .i64 d.width, .int .i64 d.start, .slice dna d.next.length dnc, .slice dba d.acc.length dbc] 25]] := H1.call u2
  refine WL.op rfl (d_notB rfl ?_)
  refine WL.done (X.then_code ?_)
  refine W.iteB (b := !(rightB d)) rfl (fun c108 => ?_) (fun c108 => ?_)
  · skip
    refine W.seq ?_
    refine W.region ?_
    refine WL.op rfl (d_assign rfl ?_)
    refine WL.done (X.then_code ?_)
    refine W.ret (X.then_ret (X.ret1 rfl rfl ?_))
    exact ⟨none, [], 0, (by rfl), nilOwn H2, ⟨fun _ => rfl, fun h => by rw [h] at c108; exact absurd c108 (by decide)⟩⟩
  · skip
    refine W.skip (X.then_code ?_)
    refine W.seq ?_
    have hrt : rightB d = true := by simpa using c108
    have hri := rightB_iff.1 hrt
    refine W.region ?_
    refine WL.op rfl (d_loadAB [.slice dca d.cls.length dcc, .int .i64 d.width, .int .i64 d.start, .slice dna d.next.length dnc, .slice dba d.acc.length dbc] Try.underlying25 rfl sz25 rfl (H2.blk 0 rfl) rfl rfl ?_)
    refine WL.op rfl (d_call ok57 rfl (Ret.calls (used_any d dca dna dba dcc dnc dbc w2 (rcd.at H2) (rnd.at H2) (rbd.at H2) (by omega)) fun _ w3 p2 => ?_))
    obtain ⟨a2_1, c2_1, rfl, u3⟩ := p2
    have H3 : UpG w [] w3 [[blk w.heap.size #[.slice dca d.cls.length dcc, .int .i64 d.width, .int .i64 d.start, .slice dna d.next.length dnc, .slice dba d.acc.length dbc] 25], [rowT (tyI .i64) (.slice a2_1 ((usedI d).length) c2_1) 3 (usedI d)]] := (H2.new' u3).re rfl
    refine WL.op rfl (d_alloc sz22 fun w4 u4 => ?_)
    have H4 : UpG w [] w4 [[blk w.heap.size #[.slice dca d.cls.length dcc, .int .i64 d.width, .int .i64 d.start, .slice dna d.next.length dnc, .slice dba d.acc.length dbc] 25], [rowT (tyI .i64) (.slice a2_1 ((usedI d).length) c2_1) 3 (usedI d)], [blk w3.heap.size #[.slice none 0 0] 22]] := H3.new' u4
    refine WL.op0 (d_storeB sz22 rfl rfl rfl (H4.blk 2 rfl) rfl fun w5 u5 => ?_)
    have H5 : UpG w [] w5 [[blk w.heap.size #[.slice dca d.cls.length dcc, .int .i64 d.width, .int .i64 d.start, .slice dna d.next.length dnc, .slice dba d.acc.length dbc] 25], [rowT (tyI .i64) (.slice a2_1 ((usedI d).length) c2_1) 3 (usedI d)], [blk w3.heap.size #[.slice a2_1 ((usedI d).length) c2_1] 22]] := H4.on 2 rfl u5
    refine WL.done (X.then_code ?_)
    refine W.seq ?_
    refine W.region ?_
    refine WL.op rfl (d_fieldAddrB fld25_2 rfl rfl ?_)
    refine WL.op rfl (d_loadB Try.underlying3 rfl rfl (H5.blk 0 rfl) rfl ?_)
    refine WL.op rfl (t_buildSlice (T := (tyI .i64)) (xs := [d.start]) (cs := #[.int .i64 d.start]) rfl Try.underlying22 sz3 rfl rfl rfl rfl (by kernel_rfl) rfl rfl fun w6 u6 => ?_)
    have H6 : UpG w [] w6 [[blk w.heap.size #[.slice dca d.cls.length dcc, .int .i64 d.width, .int .i64 d.start, .slice dna d.next.length dnc, .slice dba d.acc.length dbc] 25], [rowT (tyI .i64) (.slice a2_1 ((usedI d).length) c2_1) 3 (usedI d)], [blk w3.heap.size #[.slice a2_1 ((usedI d).length) c2_1] 22], [rowT (tyI .i64) (.slice (some ⟨w5.heap.size, 0, none⟩) ([d.start].length) ([d.start].length)) 3 [d.start]]] := H5.new' u6
    refine WL.op rfl (d_fieldAddrB fld25_4 rfl rfl ?_)
    refine WL.op rfl (d_loadB Try.underlying23 rfl rfl (H6.blk 0 rfl) rfl ?_)
    refine WL.op rfl (d_lenS Try.underlying23 rfl ?_)
    refine WL.op rfl (d_makeFunc rfl rfl ?_)
    refine WL.op rfl (d_call ok58 rfl (Ret.calls (spreadR_any (some ⟨w5.heap.size, 0, none⟩) [d.start] ([d.start].length) d.acc.length 60 [.pointer (some ⟨w3.heap.size, 0, none⟩), .pointer (some ⟨w.heap.size, 0, none⟩)] (nxR d) w6 (H6.hpOf 3 rfl)  (by simp; omega) (by intro t ht; simp only [List.mem_singleton] at ht; subst ht; omega) (fun s h0 h1 => ⟨by have := nxR_len d s; omega, fun t ht => nxR_bd hrt h0 h1 ht⟩) ok60 (fun w2 k2 x h0 h1 => reach1_any x _ _ _ _ d _ _ _ _ _ _ w2 (H6.rdT_keep 3 1 rfl rfl rfl k2) (rnd.kept (H6.keep_step 3 rfl k2)) (H6.blk_keep 3 2 rfl rfl rfl k2) (H6.blk_keep 3 0 rfl rfl rfl k2) hrt ⟨h0, h1⟩)) fun _ w7 p3 => ?_))
    obtain ⟨a2_2, o2_1, c2_2, rfl, u7, q1⟩ := p3
    have H7 : UpG w [] w7 [[blk w.heap.size #[.slice dca d.cls.length dcc, .int .i64 d.width, .int .i64 d.start, .slice dna d.next.length dnc, .slice dba d.acc.length dbc] 25], [rowT (tyI .i64) (.slice a2_1 ((usedI d).length) c2_1) 3 (usedI d)], [blk w3.heap.size #[.slice a2_1 ((usedI d).length) c2_1] 22], [rowT tyB (.slice a2_2 o2_1.length c2_2) 4 o2_1]] := H6.on 3 rfl u7
    refine WL.op rfl (d_assign rfl ?_)
    refine WL.done (X.then_code ?_)
    refine W.pick [2] (Γ' := [(2, .slice a2_2 o2_1.length c2_2)]) rfl ?_
    refine W.ret (X.ret1 rfl rfl ?_)
    exact ⟨a2_2, o2_1, c2_2, rfl, H7.one 3 rfl, reach_of hrt q1⟩
end Go.Proofs.Ytoeockpkkmgieaa


/- Memory of the splitter: rows of rows of rows that are read, lists of chunks joined, a look into a map whose answer is known. Conditions: those of each theorem. -/
namespace Go.Sx
set_option linter.unusedVariables false
set_option linter.unusedSimpArgs false
section
variable {β : Type} {f : β → Chunk} {l m : List β} {w w' : World} {L : List Chunk} {G : List (List Chunk)}
theorem many_join (h : Hp w [manyF f l, manyF f m]) : Upd w [manyF f l, manyF f m] w [manyF f (l ++ m)] := by
  have h1 : Hp w (l.map f ++ [manyF f m]) := hp_many.1 h
  have h2 : Hp w (manyF f m :: l.map f) := h1.perm (List.perm_append_singleton _ _)
  have h3 : Hp w (m.map f ++ l.map f) := hp_many.1 h2
  have h4 : Hp w (l.map f ++ m.map f) := h3.perm List.perm_append_comm
  refine ⟨hp_many.2 (by rw [List.append_nil, List.map_append]; exact h4), Keep.refl _ _, fun g hg => .inl ?_⟩
  have e1 : ats [manyF f (l ++ m)] = ats ((l ++ m).map f ++ []) := ats_many _ _
  rw [e1, List.append_nil, List.map_append, ats_append] at hg
  have e2 : ats [manyF f l, manyF f m] = ats (l.map f ++ [manyF f m]) := ats_many _ _
  have e3 : ats [manyF f m] = ats (m.map f ++ []) := ats_many _ _
  rw [e2, ats_append, e3, List.append_nil]
  exact hg
theorem UpG.joinMany (h : UpG w L w' G) (i j : Nat) (hij : Nat.beq i j = false) (hi : G[i]? = some [manyF f l]) (hj : G[j]? = some [manyF f m]) : UpG w L w' ((G.set i [manyF f (l ++ m)]).set j [] ++ [[]]) :=
  h.on2 (A' := [manyF f (l ++ m)]) (B' := []) (C := []) i j hij hi hj (many_join (h.hp2 i j hij hi hj))
end
/-- Rows of rows of rows of whole numbers. -/
def fromC (a : Option Addr) (n c : Nat) (F : List (LR (LR Int))) : Chunk := many [rowT tyLR (.slice a n c) 77 F, manyF (inLR tyLR 22).row F, manyF (inLR (tyI .i64) 3).row (F.flatMap LR.xs)]
section
variable {w w' : World} {L : List Chunk} {G : List (List Chunk)} {a : Option Addr} {n c : Nat} {F : List (LR (LR Int))}
theorem UpG.packFrom (h : UpG w L w' G) (i : Nat) (hi : G[i]? = some [rowT tyLR (.slice a n c) 77 F, manyF (inLR tyLR 22).row F, manyF (inLR (tyI .i64) 3).row (F.flatMap LR.xs)]) : UpG w L w' (G.set i [fromC a n c F]) := by
  refine h.on i hi ⟨hp_many.2 ?_, Keep.refl _ _, fun g hg => .inl ?_⟩
  · have := h.hpOf i hi
    simpa using this
  · have e1 := ats_many [rowT tyLR (.slice a n c) 77 F, manyF (inLR tyLR 22).row F, manyF (inLR (tyI .i64) 3).row (F.flatMap LR.xs)] []
    unfold fromC at hg
    rw [e1] at hg; simpa using hg
theorem from_all (h : Hp w [fromC a n c F]) : Hp w [rowT tyLR (.slice a n c) 77 F, manyF (inLR tyLR 22).row F, manyF (inLR (tyI .i64) 3).row (F.flatMap LR.xs)] := by
  have := (hp_many (L := [rowT tyLR (.slice a n c) 77 F, manyF (inLR tyLR 22).row F, manyF (inLR (tyI .i64) 3).row (F.flatMap LR.xs)]) (M := [])).1 h
  simpa using this
theorem from_rd0 (h : Hp w [fromC a n c F]) : RdT tyLR w (.slice a n c) F := hp_rdT (from_all h) (List.mem_of_getElem? (i := 0) rfl)
theorem from_rd1 (h : Hp w [fromC a n c F]) : (inLR tyLR 22).Rd w F :=
  Inn.own ⟨fun c' hc => (from_all h).holds c' (by simp only [List.mem_singleton] at hc; subst hc; simp), (sub_ats (L := [rowT tyLR (.slice a n c) 77 F, manyF (inLR tyLR 22).row F, manyF (inLR (tyI .i64) 3).row (F.flatMap LR.xs)]) (by simp)).nodup (from_all h).nodup⟩
theorem from_rd2 (h : Hp w [fromC a n c F]) {p : LR (LR Int)} (hp : p ∈ F) : (inLR (tyI .i64) 3).Rd w p.xs := fun q hq =>
  (Inn.own (I := inLR (tyI .i64) 3) (ps := F.flatMap LR.xs) ⟨fun c' hc => (from_all h).holds c' (by simp only [List.mem_singleton] at hc; subst hc; simp), (sub_ats (L := [rowT tyLR (.slice a n c) 77 F, manyF (inLR tyLR 22).row F, manyF (inLR (tyI .i64) 3).row (F.flatMap LR.xs)]) (by simp)).nodup (from_all h).nodup⟩) q (List.mem_flatMap.2 ⟨p, hp, hq⟩)
end
section
variable {P : Program} {κ ν : Type} [DecidableEq κ] {ek : κ → Value} {evl : ν → Value} {Γ : Env} {w : World} {ty : TypeId} {K : Value → World → Prop}
theorem d_look1E {t k e : TypeId} {x ix : Operand} {g : Nat} {m : List (κ × ν)} (a : κ) (d : ν) {s b : Nat} (y : ν) (he : (getM m a).getD d = y) (ks : KeyS P k ek) (ht : P.underlying t = some (.map k e)) (hz : szOf P e = some (s, b, some (evl d))) (hx : ev Γ x = some (.map (some g))) (hi : ev Γ ix = some (ek a))
    (hm : MapAt w ek evl g m) (kk : K (evl y) w) : Does P Γ w (.lookup t x ix false) ty K := d_look1 a d ks ht hz hx hi hm (he ▸ kk)
end
/-- A pair of whole numbers, two cells. -/
def tyTk : Ty (Int × Int) := ⟨2, fun x => [.int .i64 x.1, .int .i64 x.2], fun _ => rfl, fun x u h => by
  simp only [List.mem_cons, List.not_mem_nil, or_false] at h; rcases h with rfl | rfl <;> rfl, by omega⟩
/-- A function value that tells a bool of a number, while what is at some places turns. -/
def ClosS (P : Program) (f : FuncId) (fc : List Value) (p : Int → Bool) (S : List Nat) (w : World) : Prop :=
  ∀ w' : World, Keep S w w' → ∀ x : Int, Calls P f (#[.int .i64 x] ++ fc.toArray) w' (Ret fun v w'' => v = .bool (p x) ∧ Upd w' [] w'' [])
end Go.Sx


/- Proved here: parting states into blocks by J. Hopcroft's way ends with the blocks of states that are alike: what a split, a task and all tasks keep. Conditions: those of each theorem. -/
namespace Go.Proofs.Ytoeockpkkmgieaa
open Go Go.Sx
set_option linter.unusedVariables false
set_option linter.unusedSimpArgs false
/-! ### Lists of numbers -/
theorem nodup_sub_len {α : Type} [DecidableEq α] : ∀ {l m : List α}, l.Nodup → (∀ x, x ∈ l → x ∈ m) → l.length ≤ m.length
  | [], m, _, _ => by simp
  | x :: l, m, hn, hs => by
    have hn' := List.nodup_cons.1 hn
    have hx := hs x List.mem_cons_self
    have h1 := nodup_sub_len (l := l) (m := m.erase x) hn'.2 (fun y hy => by
      have hne : y ≠ x := fun e => hn'.1 (e ▸ hy)
      exact (List.mem_erase_of_ne hne).2 (hs y (List.mem_cons_of_mem _ hy)))
    rw [List.length_erase_of_mem hx] at h1
    have := List.length_pos_of_mem hx
    simp only [List.length_cons]; omega
theorem nodup_all {α : Type} [DecidableEq α] {l m : List α} (hl : l.Nodup) (hs : ∀ x, x ∈ l → x ∈ m) (hlen : m.length ≤ l.length) : ∀ y, y ∈ m → y ∈ l := fun y hy => by
  refine Classical.byContradiction fun hn => ?_
  have := nodup_sub_len (l := y :: l) (m := m) (List.nodup_cons.2 ⟨hn, hl⟩) (fun x hx => by
    rcases List.mem_cons.1 hx with rfl | hx
    · exact hy
    · exact hs x hx)
  simp only [List.length_cons] at this
  omega
theorem nodup_more {α : Type} [DecidableEq α] {l m : List α} (hm : m.Nodup) (hlen : l.length < m.length) : ∃ y, y ∈ m ∧ y ∉ l := by
  refine Classical.byContradiction fun hn => ?_
  have := nodup_sub_len (l := m) (m := l) hm (fun x hx => Classical.byContradiction fun h9 => hn ⟨x, hx, h9⟩)
  omega
/-! ### What is kept -/
def mxs (ms : List (LR Int)) (b : Nat) : List Int := (ms.getD b lr0).xs
def bk (bl : List Int) (i : Nat) : Nat := (bl.getD i 0).toNat
/-- Where a state goes by the k-th class in use. -/
def dl (d : DfaD) (k i : Nat) : Nat := (d.next.getD ((i : Int) * d.width + (usedI d).getD k 0).toNat 0).toNat
theorem dl_lt {d : DfaD} (hr : rightB d = true) {k i : Nat} (hk : k < (usedI d).length) (hi : i < d.acc.length) : dl d k i < d.acc.length ∧ ((dl d k i : Nat) : Int) = d.next.getD ((i : Int) * d.width + (usedI d).getD k 0).toNat 0 := by
  have h1 := used_bd hr (getD_mem' (d := 0) hk)
  have h2 := right_idx hr (q := (i : Int)) (by omega) (by omega) h1.1 h1.2
  unfold dl; omega
theorem dl_sym {d : DfaD} (hr : rightB d = true) {c : Int} (hc : 0 ≤ c ∧ c < 259) : ∃ k, k < (usedI d).length ∧ ∀ i, dN d i c = dl d k i := by
  have h1 := (rightB_iff.1 hr).1.1
  have hm : d.cls.getD c.toNat 0 ∈ usedI d := (used_mem d _).2 (getD_mem' (by omega))
  obtain ⟨k, hk, e⟩ := List.mem_iff_getElem.1 hm
  refine ⟨k, hk, fun i => ?_⟩
  have e2 : (usedI d).getD k 0 = d.cls.getD c.toNat 0 := by rw [← e]; simp [List.getD_eq_getElem?_getD, List.getElem?_eq_getElem hk]
  unfold dN stepD dl; rw [e2]
theorem dl_cls {d : DfaD} (hr : rightB d = true) {k : Nat} (hk : k < (usedI d).length) : ∃ c : Int, (0 ≤ c ∧ c < 259) ∧ ∀ i, dN d i c = dl d k i := by
  have h1 := (rightB_iff.1 hr).1.1
  have hm : (usedI d).getD k 0 ∈ d.cls := (used_mem d _).1 (getD_mem' hk)
  obtain ⟨j, hj, e⟩ := List.mem_iff_getElem.1 hm
  refine ⟨(j : Int), by omega, fun i => ?_⟩
  have e2 : d.cls.getD j 0 = (usedI d).getD k 0 := by rw [← e]; simp [List.getD_eq_getElem?_getD, List.getElem?_eq_getElem hj]
  unfold dN stepD dl; rw [Int.toNat_natCast, e2]
theorem dis_dl {d : DfaD} (hr : rightB d = true) {k p q : Nat} (hk : k < (usedI d).length) (h : Dis d (dl d k p) (dl d k q)) : Dis d p q := by
  obtain ⟨c, hc, e⟩ := dl_cls hr hk
  obtain ⟨t, ht⟩ := h
  exact ⟨t + 1, .inr ⟨c, hc, by rw [e, e]; exact ht⟩⟩
structure PartP (n : Nat) (bl : List Int) (ms : List (LR Int)) : Prop where
  len : bl.length = n
  rng : ∀ i, i < n → 0 ≤ bl.getD i 0 ∧ bl.getD i 0 < (ms.length : Int)
  mem : ∀ b, b < ms.length → ∀ x : Int, x ∈ mxs ms b ↔ ∃ i : Nat, i < n ∧ x = (i : Int) ∧ bl.getD i 0 = (b : Int)
  nd : ∀ b, b < ms.length → (mxs ms b).Nodup
  pos : ∀ b, b < ms.length → mxs ms b ≠ []
theorem PartP.bound {n : Nat} {bl : List Int} {ms : List (LR Int)} (h : PartP n bl ms) : ms.length ≤ n := by
  have key := nodup_sub_len (l := (List.range ms.length).map fun b => ((mxs ms b).headD 0).toNat) (m := List.range n) ?_ ?_
  · simpa using key
  · rw [List.nodup_iff_pairwise_ne, List.pairwise_map]
    refine (List.nodup_iff_pairwise_ne.1 List.nodup_range).imp_of_mem ?_
    intro a b ha hb hne e
    have pick : ∀ c, c < ms.length → ∃ i : Nat, i < n ∧ ((mxs ms c).headD 0).toNat = i ∧ bl.getD i 0 = (c : Int) := fun c hc => by
      have hp := h.pos c hc
      cases hm : mxs ms c with
      | nil => exact absurd hm hp
      | cons y l =>
        obtain ⟨i, hi, e1, e2⟩ := (h.mem c hc y).1 (by rw [hm]; exact List.mem_cons_self)
        exact ⟨i, hi, by simp only [List.headD_cons]; omega, e2⟩
    obtain ⟨i, hi, e1, e2⟩ := pick a (List.mem_range.1 ha)
    obtain ⟨j, hj, e3, e4⟩ := pick b (List.mem_range.1 hb)
    have : i = j := by rw [← e1, ← e3]; exact e
    subst this
    rw [e2] at e4
    exact hne (by omega)
  · intro x hx
    obtain ⟨b, hb, rfl⟩ := List.mem_map.1 hx
    have hb := List.mem_range.1 hb
    have hp := h.pos b hb
    cases hm : mxs ms b with
    | nil => exact absurd hm hp
    | cons y l =>
      obtain ⟨i, hi, e1, e2⟩ := (h.mem b hb y).1 (by rw [hm]; exact List.mem_cons_self)
      simp only [List.headD_cons, List.mem_range]; omega
theorem PartP.mlen {n : Nat} {bl : List Int} {ms : List (LR Int)} (h : PartP n bl ms) {b : Nat} (hb : b < ms.length) : (mxs ms b).length ≤ n := by
  have key := nodup_sub_len (l := mxs ms b) (m := (List.range n).map fun i : Nat => (i : Int)) (h.nd b hb) (fun x hx => by
    obtain ⟨i, hi, e, _⟩ := (h.mem b hb x).1 hx
    exact List.mem_map.2 ⟨i, List.mem_range.2 hi, e.symm⟩)
  simpa using key
structure WaitP (K nb : Nat) (td : List (Int × Int)) (wt : List (LR Bool)) : Prop where
  len : wt.length = nb
  row : ∀ b, b < nb → (wt.getD b lr0).xs.length = K
  todo : ∀ b c, b < nb → c < K → cellB wt b c = true → (((b : Nat) : Int), ((c : Nat) : Int)) ∈ td
  bd : ∀ t : Int × Int, t ∈ td → (0 ≤ t.1 ∧ t.1 < (nb : Int)) ∧ (0 ≤ t.2 ∧ t.2 < (K : Int))
def StabI (d : DfaD) (bl : List Int) (wt : List (LR Bool)) (E : Nat → Nat → Nat → Prop) : Prop :=
  ∀ k p q, k < (usedI d).length → p < d.acc.length → q < d.acc.length → bl.getD p 0 = bl.getD q 0 → bl.getD (dl d k p) 0 ≠ bl.getD (dl d k q) 0 → cellB wt (bk bl (dl d k p)) k = true ∨ cellB wt (bk bl (dl d k q)) k = true ∨ E k p q
def SndI (d : DfaD) (bl : List Int) : Prop := ∀ p q, p < d.acc.length → q < d.acc.length → bl.getD p 0 ≠ bl.getD q 0 → Dis d p q
def AccI (d : DfaD) (bl : List Int) : Prop := ∀ p q, p < d.acc.length → q < d.acc.length → bl.getD p 0 = bl.getD q 0 → d.acc.getD p false = d.acc.getD q false
structure HopI (d : DfaD) (bl : List Int) (ms : List (LR Int)) (td : List (Int × Int)) (wt : List (LR Bool)) (E : Nat → Nat → Nat → Prop) : Prop where
  part : PartP d.acc.length bl ms
  wait : WaitP (usedI d).length ms.length td wt
  stab : StabI d bl wt E
  snd : SndI d bl
  acc : AccI d bl
/-- One cell of a table is set. -/
structure WtSet (wt : List (LR Bool)) (b c : Nat) (v : Bool) (wt' : List (LR Bool)) : Prop where
  len : wt'.length = wt.length
  row : ∀ i, (wt'.getD i lr0).xs.length = (wt.getD i lr0).xs.length
  val : ∀ i j, cellB wt' i j = if i = b ∧ j = c then v else cellB wt i j
theorem WtSet.mk' {X : List (LR Bool)} {i k : Nat} {b : Bool} (hil : i < X.length) (hk : k < (X.getD i lr0).xs.length) : WtSet X i k b (X.set i ⟨(X.getD i lr0).a, (X.getD i lr0).n, (X.getD i lr0).c, (X.getD i lr0).xs.set k b⟩) := by
  have hg : ∀ r, (X.set i ⟨(X.getD i lr0).a, (X.getD i lr0).n, (X.getD i lr0).c, (X.getD i lr0).xs.set k b⟩).getD r lr0 = if i = r then ⟨(X.getD i lr0).a, (X.getD i lr0).n, (X.getD i lr0).c, (X.getD i lr0).xs.set k b⟩ else X.getD r lr0 := fun r => by
    simp only [List.getD_eq_getElem?_getD, List.getElem?_set]
    split
    · rename_i e; subst e; simp [hil]
    · rfl
  refine ⟨by simp, fun r => ?_, fun r c => ?_⟩
  · rw [hg]; split
    · rename_i e; subst e; simp
    · rfl
  · unfold cellB
    rw [hg]
    by_cases e : i = r
    · subst e
      rw [if_pos rfl]
      show ((X.getD i lr0).xs.set k b).getD c false = _
      rw [getD_setB hk]
      by_cases e2 : k = c
      · subst e2; simp
      · rw [if_neg e2, if_neg (fun h => e2 h.2.symm)]
    · rw [if_neg e, if_neg (fun h => e h.1.symm)]
/-! ### A split -/
structure SplR (b : Nat) (out : List Int) (K : Nat) (bl : List Int) (ms : List (LR Int)) (td : List (Int × Int)) (wt : List (LR Bool)) (bl' : List Int) (ms' : List (LR Int)) (td' : List (Int × Int)) (wt' : List (LR Bool)) : Prop where
  ml : ms'.length = ms.length + 1
  m1 : mxs ms' b = (mxs ms b).filter (fun x => !decide (x ∈ out))
  m2 : mxs ms' ms.length = out
  m3 : ∀ i, i < ms.length → i ≠ b → ms'.getD i lr0 = ms.getD i lr0
  bll : bl'.length = bl.length
  bv : ∀ i, i < bl.length → bl'.getD i 0 = if (i : Int) ∈ out then (ms.length : Int) else bl.getD i 0
  wl : wt'.length = wt.length + 1
  wr : ∀ i, i < wt.length + 1 → (wt'.getD i lr0).xs.length = K
  wk : ∀ i c, i < wt.length → c < K → cellB wt i c = true → cellB wt' i c = true
  wn : ∀ i c, i < wt.length + 1 → c < K → cellB wt' i c = true → (i < wt.length ∧ cellB wt i c = true) ∨ (((i : Nat) : Int), ((c : Nat) : Int)) ∈ td'
  ws : ∀ c, c < K → (cellB wt b c = true → cellB wt' wt.length c = true) ∧ (cellB wt' b c = true ∨ cellB wt' wt.length c = true)
  tl : td'.length = td.length + K
  tk : ∀ t, t ∈ td → t ∈ td'
  tb : ∀ t : Int × Int, t ∈ td' → t ∈ td ∨ ((t.1 = (b : Int) ∨ t.1 = (wt.length : Int)) ∧ (0 ≤ t.2 ∧ t.2 < (K : Int)))
theorem HopI.split {d : DfaD} {bl bl' : List Int} {ms ms' : List (LR Int)} {td td' : List (Int × Int)} {wt wt' : List (LR Bool)} {E : Nat → Nat → Nat → Prop} {b : Nat} {out : List Int}
    (hr : rightB d = true) (h : HopI d bl ms td wt E) (s : SplR b out (usedI d).length bl ms td wt bl' ms' td' wt') (hb : b < ms.length) (hsub : ∀ x, x ∈ out → x ∈ mxs ms b) (hnd : out.Nodup) (hne : out ≠ []) (hmore : ∃ y, y ∈ mxs ms b ∧ y ∉ out)
    (hdis : ∀ p q : Nat, p < d.acc.length → q < d.acc.length → (p : Int) ∈ out → (q : Int) ∈ mxs ms b → (q : Int) ∉ out → Dis d p q) : HopI d bl' ms' td' wt' E := by
  have hbl := h.part.len
  have hwl := h.wait.len
  have inb : ∀ i : Nat, i < d.acc.length → (i : Int) ∈ out → bl.getD i 0 = (b : Int) := fun i hi ho => by
    obtain ⟨j, hj, e1, e2⟩ := (h.part.mem b hb _).1 (hsub _ ho)
    have : i = j := by omega
    subst this; exact e2
  have bv : ∀ i, i < d.acc.length → bl'.getD i 0 = if (i : Int) ∈ out then (ms.length : Int) else bl.getD i 0 := fun i hi => s.bv i (by omega)
  have up : ∀ p q, p < d.acc.length → q < d.acc.length → bl'.getD p 0 = bl'.getD q 0 → bl.getD p 0 = bl.getD q 0 := fun p q hp hq e => by
    rw [bv p hp, bv q hq] at e
    have r1 := h.part.rng p hp
    have r2 := h.part.rng q hq
    by_cases o1 : (p : Int) ∈ out
    · by_cases o2 : (q : Int) ∈ out
      · rw [inb p hp o1, inb q hq o2]
      · rw [if_pos o1, if_neg o2] at e; omega
    · by_cases o2 : (q : Int) ∈ out
      · rw [if_neg o1, if_pos o2] at e; omega
      · rw [if_neg o1, if_neg o2] at e; exact e
  refine ⟨⟨by rw [s.bll]; exact hbl, fun i hi => ?_, fun c hc x => ?_, fun c hc => ?_, fun c hc => ?_⟩, ⟨by rw [s.wl, s.ml, hwl], fun c hc => s.wr c (by rw [s.ml] at hc; omega), fun c k hc hk ht => ?_, fun t ht => ?_⟩, ?_, ?_, fun p q hp hq e => h.acc p q hp hq (up p q hp hq e)⟩
  · have r1 := h.part.rng i hi
    rw [bv i hi, s.ml]; split <;> omega
  · rw [s.ml] at hc
    by_cases e1 : c = ms.length
    · subst e1
      rw [s.m2]
      constructor
      · intro hx
        obtain ⟨i, hi, e, e2⟩ := (h.part.mem b hb _).1 (hsub _ hx)
        exact ⟨i, hi, e, by rw [bv i hi, if_pos (e ▸ hx)]⟩
      · rintro ⟨i, hi, rfl, e⟩
        rw [bv i hi] at e
        split at e
        · assumption
        · have := (h.part.rng i hi).2; omega
    · have hc' : c < ms.length := by omega
      by_cases e2 : c = b
      · subst e2
        rw [s.m1, List.mem_filter, h.part.mem c hb]
        constructor
        · rintro ⟨⟨i, hi, rfl, e⟩, ho⟩
          have ho : (i : Int) ∉ out := by simpa using ho
          exact ⟨i, hi, rfl, by rw [bv i hi, if_neg ho]; exact e⟩
        · rintro ⟨i, hi, rfl, e⟩
          rw [bv i hi] at e
          split at e
          · omega
          · rename_i ho; exact ⟨⟨i, hi, rfl, e⟩, by simpa using ho⟩
      · have e3 : mxs ms' c = mxs ms c := by unfold mxs; rw [s.m3 c hc' e2]
        rw [e3, h.part.mem c hc']
        constructor
        · rintro ⟨i, hi, rfl, e⟩
          refine ⟨i, hi, rfl, ?_⟩
          rw [bv i hi, if_neg (fun ho => e2 (by have := inb i hi ho; omega))]; exact e
        · rintro ⟨i, hi, rfl, e⟩
          refine ⟨i, hi, rfl, ?_⟩
          rw [bv i hi] at e
          split at e
          · omega
          · exact e
  · rw [s.ml] at hc
    by_cases e1 : c = ms.length
    · subst e1; rw [s.m2]; exact hnd
    · by_cases e2 : c = b
      · subst e2; rw [s.m1]; exact (h.part.nd c hb).sublist List.filter_sublist
      · have e3 : mxs ms' c = mxs ms c := by unfold mxs; rw [s.m3 c (by omega) e2]
        rw [e3]; exact h.part.nd c (by omega)
  · rw [s.ml] at hc
    by_cases e1 : c = ms.length
    · subst e1; rw [s.m2]; exact hne
    · by_cases e2 : c = b
      · subst e2; rw [s.m1]
        obtain ⟨y, hy, hn⟩ := hmore
        exact List.ne_nil_of_mem (List.mem_filter.2 ⟨hy, by simpa using hn⟩)
      · have e3 : mxs ms' c = mxs ms c := by unfold mxs; rw [s.m3 c (by omega) e2]
        rw [e3]; exact h.part.pos c (by omega)
  · rw [s.ml] at hc
    rcases s.wn c k (by omega) hk ht with ⟨h1, h2⟩ | h1
    · exact s.tk _ (h.wait.todo c k (by omega) hk h2)
    · exact h1
  · rw [s.ml]
    rcases s.tb t ht with h1 | ⟨h1, h2⟩
    · have := h.wait.bd t h1; omega
    · omega
  · intro k p q hk hp hq e hne2
    have e0 := up p q hp hq e
    have lp := (dl_lt hr hk hp).1
    have lq := (dl_lt hr hk hq).1
    have key : ∀ i, i < d.acc.length → cellB wt (bk bl i) k = true → cellB wt' (bk bl' i) k = true := fun i hi hc => by
      have r1 := h.part.rng i hi
      by_cases o : (i : Int) ∈ out
      · have e1 : bk bl' i = wt.length := by unfold bk; rw [bv i hi, if_pos o, hwl]; simp
        have e2 : bk bl i = b := by unfold bk; rw [inb i hi o]; simp
        rw [e1]; rw [e2] at hc
        exact (s.ws k hk).1 hc
      · have e1 : bk bl' i = bk bl i := by unfold bk; rw [bv i hi, if_neg o]
        rw [e1]
        exact s.wk _ k (by unfold bk; omega) hk hc
    by_cases e3 : bl.getD (dl d k p) 0 = bl.getD (dl d k q) 0
    · rw [bv _ lp, bv _ lq] at hne2
      have w := (s.ws k hk).2
      have at_ : ∀ i, i < d.acc.length → bk bl' i = if (i : Int) ∈ out then wt.length else bk bl i := fun i hi => by
        unfold bk; rw [bv i hi]; split
        · rw [hwl]; simp
        · rfl
      by_cases o1 : ((dl d k p : Nat) : Int) ∈ out
      · by_cases o2 : ((dl d k q : Nat) : Int) ∈ out
        · rw [if_pos o1, if_pos o2] at hne2; exact absurd rfl hne2
        · have e4 : bk bl (dl d k q) = b := by unfold bk; rw [← e3, inb _ lp o1]; simp
          rw [at_ _ lp, if_pos o1, at_ _ lq, if_neg o2, e4]
          rcases w with w | w
          · exact .inr (.inl w)
          · exact .inl w
      · by_cases o2 : ((dl d k q : Nat) : Int) ∈ out
        · have e4 : bk bl (dl d k p) = b := by unfold bk; rw [e3, inb _ lq o2]; simp
          rw [at_ _ lp, if_neg o1, at_ _ lq, if_pos o2, e4]
          rcases w with w | w
          · exact .inl w
          · exact .inr (.inl w)
        · rw [if_neg o1, if_neg o2] at hne2; exact absurd e3 hne2
    · rcases h.stab k p q hk hp hq e0 e3 with h1 | h1 | h1
      · exact .inl (key _ lp h1)
      · exact .inr (.inl (key _ lq h1))
      · exact .inr (.inr h1)
  · intro p q hp hq hne2
    rw [bv p hp, bv q hq] at hne2
    by_cases e3 : bl.getD p 0 = bl.getD q 0
    · by_cases o1 : (p : Int) ∈ out
      · by_cases o2 : (q : Int) ∈ out
        · rw [if_pos o1, if_pos o2] at hne2; exact absurd rfl hne2
        · exact hdis p q hp hq o1 ((h.part.mem b hb _).2 ⟨q, hq, rfl, by rw [← e3]; exact inb p hp o1⟩) o2
      · by_cases o2 : (q : Int) ∈ out
        · exact dis_symm (hdis q p hq hp o2 ((h.part.mem b hb _).2 ⟨p, hp, rfl, by rw [e3]; exact inb q hq o2⟩) o1)
        · rw [if_neg o1, if_neg o2] at hne2; exact absurd e3 hne2
    · exact h.snd p q hp hq e3
end Go.Proofs.Ytoeockpkkmgieaa


/- Rounds within a split, a task, the start and the end of parting states into blocks. Conditions: those of each theorem. -/
namespace Go.Proofs.Ytoeockpkkmgieaa
open Go Go.Sx
set_option linter.unusedVariables false
set_option linter.unusedSimpArgs false
/-! ### A block is added -/
structure AddR (l : List Int) (K : Nat) (la : Option Addr) (ln lc : Nat) (bl : List Int) (ms : List (LR Int)) (wt : List (LR Bool)) (bl' : List Int) (wt' : List (LR Bool)) : Prop where
  bll : bl'.length = bl.length
  bv : ∀ i, i < bl.length → bl'.getD i 0 = if (i : Int) ∈ l then (ms.length : Int) else bl.getD i 0
  wl : wt'.length = wt.length + 1
  wo : ∀ i, i < wt.length → wt'.getD i lr0 = wt.getD i lr0
  wn : (wt'.getD wt.length lr0).xs = List.replicate K false
theorem getD_snocL {α : Type} {X : List (LR α)} {p : LR α} : (X ++ [p]).getD X.length lr0 = p := by simp [List.getD_eq_getElem?_getD]
theorem getD_preL {α : Type} {X Y : List (LR α)} {i : Nat} (h : i < X.length) : (X ++ Y).getD i lr0 = X.getD i lr0 := by simp only [List.getD_eq_getElem?_getD, List.getElem?_append_left h]
/-- The states of a list are given a number, the first k of them. -/
structure BlI (l : List Int) (v : Int) (bl bl' : List Int) (k : Nat) : Prop where
  len : bl'.length = bl.length
  val : ∀ i, i < bl.length → bl'.getD i 0 = if (i : Int) ∈ l.take k then v else bl.getD i 0
theorem BlI.start (l : List Int) (v : Int) (bl : List Int) : BlI l v bl bl 0 := ⟨rfl, fun i hi => by simp⟩
theorem BlI.step {l : List Int} {v : Int} {bl bl' : List Int} {k : Nat} (h : BlI l v bl bl' k) (hk : k < l.length) (hx : 0 ≤ l.getD k 0 ∧ l.getD k 0 < (bl.length : Int)) : BlI l v bl (bl'.set (l.getD k 0).toNat v) (k + 1) := by
  refine ⟨by simp [h.len], fun i hi => ?_⟩
  rw [getD_setI (by rw [h.len]; omega), take_succ_getD 0 hk, h.val i hi]
  by_cases e : (l.getD k 0).toNat = i
  · rw [if_pos e, if_pos]
    simp only [List.mem_append, List.mem_singleton]
    exact .inr (by omega)
  · rw [if_neg e]
    by_cases e2 : (i : Int) ∈ l.take k
    · rw [if_pos e2, if_pos (List.mem_append_left _ e2)]
    · rw [if_neg e2, if_neg]
      simp only [List.mem_append, List.mem_singleton]
      rintro (h9 | h9)
      · exact e2 h9
      · exact e (by omega)
theorem BlI.fin {l : List Int} {v : Int} {bl bl' : List Int} {k : Nat} (h : BlI l v bl bl' k) (hk : ¬ k < l.length) : ∀ i, i < bl.length → bl'.getD i 0 = if (i : Int) ∈ l then v else bl.getD i 0 := fun i hi => by
  have := h.val i hi
  rwa [List.take_of_length_le (by omega)] at this
/-! ### Behind a split, class by class -/
structure SlI (b K : Nat) (wt0 : List (LR Bool)) (td0 : List (Int × Int)) (wt : List (LR Bool)) (td : List (Int × Int)) (c : Nat) : Prop where
  wl : wt.length = wt0.length + 1
  wr : ∀ i, i < wt0.length + 1 → (wt.getD i lr0).xs.length = K
  wk : ∀ i k, i < wt0.length → k < K → cellB wt0 i k = true → cellB wt i k = true
  wn : ∀ i k, i < wt0.length + 1 → k < K → cellB wt i k = true → (i < wt0.length ∧ cellB wt0 i k = true) ∨ (((i : Nat) : Int), ((k : Nat) : Int)) ∈ td
  ws : ∀ k, k < c → (cellB wt0 b k = true → cellB wt wt0.length k = true) ∧ (cellB wt b k = true ∨ cellB wt wt0.length k = true)
  un : ∀ k, c ≤ k → k < K → cellB wt b k = cellB wt0 b k
  tl : td.length = td0.length + c
  tk : ∀ t, t ∈ td0 → t ∈ td
  tb : ∀ t : Int × Int, t ∈ td → t ∈ td0 ∨ ((t.1 = (b : Int) ∨ t.1 = (wt0.length : Int)) ∧ (0 ≤ t.2 ∧ t.2 < (K : Int)))
theorem cell_rep {X : List (LR Bool)} {i K k : Nat} (h : (X.getD i lr0).xs = List.replicate K false) : cellB X i k = false := by
  unfold cellB; rw [h]
  simp only [List.getD_eq_getElem?_getD, List.getElem?_replicate]
  split <;> rfl
theorem SlI.start {b K : Nat} {wt0 wt : List (LR Bool)} {td0 : List (Int × Int)} (hw : ∀ i, i < wt0.length → (wt0.getD i lr0).xs.length = K) (hb : b < wt0.length) (h1 : wt.length = wt0.length + 1) (h2 : ∀ i, i < wt0.length → wt.getD i lr0 = wt0.getD i lr0) (h3 : (wt.getD wt0.length lr0).xs = List.replicate K false) :
    SlI b K wt0 td0 wt td0 0 := by
  have hc : ∀ i k, i < wt0.length → cellB wt i k = cellB wt0 i k := fun i k hi => by unfold cellB; rw [h2 i hi]
  refine ⟨h1, fun i hi => ?_, fun i k hi hk h => by rw [hc i k hi]; exact h, fun i k hi hk h => ?_, fun k hk => by omega, fun k _ _ => hc b k hb, rfl, fun t h => h, fun t h => .inl h⟩
  · by_cases e : i = wt0.length
    · subst e; rw [h3]; simp
    · rw [h2 i (by omega)]; exact hw i (by omega)
  · by_cases e : i = wt0.length
    · subst e; rw [cell_rep h3] at h; cases h
    · exact .inl ⟨by omega, by rw [← hc i k (by omega)]; exact h⟩
theorem SlI.put {b K x : Nat} {wt0 wt wt' : List (LR Bool)} {td0 td : List (Int × Int)} {c : Nat} (h : SlI b K wt0 td0 wt td c) (hb : b < wt0.length) (hc : c < K) (hx : x = b ∨ x = wt0.length) (hold : cellB wt0 b c = true → x = wt0.length) (s : WtSet wt x c true wt') :
    SlI b K wt0 td0 wt' (td ++ [(((x : Nat) : Int), ((c : Nat) : Int))]) (c + 1) := by
  have up : ∀ i k, cellB wt i k = true → cellB wt' i k = true := fun i k h9 => by rw [s.val]; split; rfl; exact h9
  refine ⟨by rw [s.len]; exact h.wl, fun i hi => by rw [s.row]; exact h.wr i hi, fun i k hi hk h9 => up i k (h.wk i k hi hk h9), fun i k hi hk h9 => ?_, fun k hk => ?_, fun k hk hk2 => ?_, by simp [h.tl]; omega, fun t ht => List.mem_append_left _ (h.tk t ht), fun t ht => ?_⟩
  · rw [s.val] at h9
    split at h9
    · rename_i e; obtain ⟨rfl, rfl⟩ := e; exact .inr (by simp)
    · rcases h.wn i k hi hk h9 with h8 | h8
      · exact .inl h8
      · exact .inr (List.mem_append_left _ h8)
  · by_cases e : k = c
    · subst e
      have e1 : cellB wt' x k = true := by rw [s.val, if_pos ⟨rfl, rfl⟩]
      refine ⟨fun h9 => by rw [← hold h9]; exact e1, ?_⟩
      rcases hx with rfl | rfl
      · exact .inl e1
      · exact .inr e1
    · have h9 := h.ws k (by omega)
      refine ⟨fun h8 => up _ _ (h9.1 h8), ?_⟩
      rcases h9.2 with h8 | h8
      · exact .inl (up _ _ h8)
      · exact .inr (up _ _ h8)
  · rw [s.val, if_neg (fun e => by omega)]; exact h.un k (by omega) hk2
  · rcases List.mem_append.1 ht with h9 | h9
    · exact h.tb t h9
    · rw [List.mem_singleton.1 h9]
      exact .inr ⟨by simp only; omega, by simp only; omega⟩
theorem SlI.fin {b K : Nat} {out : List Int} {bl bl' : List Int} {ms ms' : List (LR Int)} {wt0 wt : List (LR Bool)} {td0 td : List (Int × Int)} {c : Nat} (h : SlI b K wt0 td0 wt td c) (hc : c = K) (hml : ms'.length = ms.length + 1)
    (hm1 : mxs ms' b = (mxs ms b).filter (fun x => !decide (x ∈ out))) (hm2 : mxs ms' ms.length = out) (hm3 : ∀ i, i < ms.length → i ≠ b → ms'.getD i lr0 = ms.getD i lr0) (hbl : bl'.length = bl.length) (hbv : ∀ i, i < bl.length → bl'.getD i 0 = if (i : Int) ∈ out then (ms.length : Int) else bl.getD i 0) :
    SplR b out K bl ms td0 wt0 bl' ms' td wt := by
  subst hc
  exact ⟨hml, hm1, hm2, hm3, hbl, hbv, h.wl, h.wr, h.wk, h.wn, fun k hk => h.ws k hk, h.tl, h.tk, h.tb⟩
/-! ### A task: who comes in -/
def frL (F : List (LR (LR Int))) (c : Nat) (t : Int) : List Int := ((F.getD c lr0).xs.getD t.toNat lr0).xs
structure FromP (d : DfaD) (F : List (LR (LR Int))) : Prop where
  len : F.length = (usedI d).length
  row : ∀ k, k < F.length → (F.getD k lr0).xs.length = d.acc.length
  mem : ∀ k, k < F.length → ∀ t : Nat, t < d.acc.length → ∀ x : Int, x ∈ frL F k (t : Int) ↔ ∃ i : Nat, i < d.acc.length ∧ x = (i : Int) ∧ dl d k i = t
  nd : ∀ k, k < F.length → ∀ t : Nat, t < d.acc.length → (frL F k (t : Int)).Nodup
/-- What was gone through: the first q of the task's states, and the first r of those that come into the next one. -/
def LsN (F : List (LR (LR Int))) (c : Nat) (mT : List Int) (q r : Nat) : List Int := (mT.take q).flatMap (frL F c) ++ (frL F c (mT.getD q 0)).take r
theorem LsN.step {F : List (LR (LR Int))} {c q r : Nat} {mT : List Int} (h : r < (frL F c (mT.getD q 0)).length) : LsN F c mT q (r + 1) = LsN F c mT q r ++ [(frL F c (mT.getD q 0)).getD r 0] := by
  unfold LsN; rw [take_succ_getD 0 h, List.append_assoc]
theorem LsN.next {F : List (LR (LR Int))} {c q r : Nat} {mT : List Int} (hq : q < mT.length) (h : ¬ r < (frL F c (mT.getD q 0)).length) : LsN F c mT (q + 1) 0 = LsN F c mT q r := by
  unfold LsN; rw [take_succ_getD 0 hq, List.flatMap_append, List.take_of_length_le (l := frL F c (mT.getD q 0)) (by omega)]; simp
theorem LsN.zero (F : List (LR (LR Int))) (c : Nat) (mT : List Int) : LsN F c mT 0 0 = [] := by simp [LsN]
theorem LsN.all {F : List (LR (LR Int))} {c q : Nat} {mT : List Int} (hq : ¬ q < mT.length) : LsN F c mT q 0 = mT.flatMap (frL F c) := by
  unfold LsN; rw [List.take_of_length_le (by omega)]; simp
/-- The states that come into a block. -/
theorem pre_mem {d : DfaD} {F : List (LR (LR Int))} {bl : List Int} {ms : List (LR Int)} (hF : FromP d F) (hp : PartP d.acc.length bl ms) {c t : Nat} (hc : c < F.length) (ht : t < ms.length) (hr : rightB d = true) (x : Int) :
    x ∈ (mxs ms t).flatMap (frL F c) ↔ ∃ i : Nat, i < d.acc.length ∧ x = (i : Int) ∧ bl.getD (dl d c i) 0 = (t : Int) := by
  rw [List.mem_flatMap]
  constructor
  · rintro ⟨y, hy, hx⟩
    obtain ⟨j, hj, rfl, e⟩ := (hp.mem t ht y).1 hy
    obtain ⟨i, hi, rfl, e2⟩ := (hF.mem c hc j hj x).1 hx
    exact ⟨i, hi, rfl, by rw [e2]; exact e⟩
  · rintro ⟨i, hi, rfl, e⟩
    have hl := (dl_lt hr (k := c) (by rw [← hF.len]; exact hc) hi).1
    exact ⟨((dl d c i : Nat) : Int), (hp.mem t ht _).2 ⟨_, hl, rfl, e⟩, (hF.mem c hc _ hl _).2 ⟨i, hi, rfl, rfl⟩⟩
theorem flat_nodup {α β : Type} {f : α → List β} : ∀ {l : List α}, l.Nodup → (∀ x, x ∈ l → (f x).Nodup) → (∀ x y z, x ∈ l → y ∈ l → z ∈ f x → z ∈ f y → x = y) → (l.flatMap f).Nodup
  | [], _, _, _ => by simp
  | a :: l, hn, h1, h2 => by
    have hn' := List.nodup_cons.1 hn
    rw [List.flatMap_cons]
    refine List.nodup_append.2 ⟨h1 a List.mem_cons_self, flat_nodup hn'.2 (fun x hx => h1 x (List.mem_cons_of_mem _ hx)) (fun x y z hx hy => h2 x y z (List.mem_cons_of_mem _ hx) (List.mem_cons_of_mem _ hy)), ?_⟩
    intro z hz w hw e
    subst e
    obtain ⟨y, hy, hz2⟩ := List.mem_flatMap.1 hw
    have := h2 a y z List.mem_cons_self (List.mem_cons_of_mem _ hy) hz hz2
    subst this
    exact hn'.1 hy
theorem pre_nodup {d : DfaD} {F : List (LR (LR Int))} {bl : List Int} {ms : List (LR Int)} (hF : FromP d F) (hp : PartP d.acc.length bl ms) {c t : Nat} (hc : c < F.length) (ht : t < ms.length) : ((mxs ms t).flatMap (frL F c)).Nodup := by
  refine flat_nodup (hp.nd t ht) (fun x hx => ?_) (fun x y z hx hy h1 h2 => ?_)
  · obtain ⟨i, hi, rfl, _⟩ := (hp.mem t ht x).1 hx
    exact hF.nd c hc i hi
  · obtain ⟨i, hi, rfl, _⟩ := (hp.mem t ht x).1 hx
    obtain ⟨j, hj, rfl, _⟩ := (hp.mem t ht y).1 hy
    obtain ⟨u, hu, rfl, e1⟩ := (hF.mem c hc i hi z).1 h1
    obtain ⟨v, hv, e3, e2⟩ := (hF.mem c hc j hj _).1 h2
    have : u = v := by omega
    subst this
    rw [← e1, ← e2]
structure PsI (nb : Nat) (bl L : List Int) (ps : List (LR Int)) (met : List Int) : Prop where
  len : ps.length = nb
  val : ∀ b, b < nb → (ps.getD b lr0).xs = L.filter (fun x => decide (bl.getD x.toNat 0 = ((b : Nat) : Int)))
  mt : ∀ y : Int, y ∈ met ↔ ∃ x, x ∈ L ∧ bl.getD x.toNat 0 = y
  nd : met.Nodup
theorem PsI.start (nb : Nat) (bl : List Int) : PsI nb bl [] (List.replicate nb lr0) [] := ⟨by simp, fun b hb => by simp [List.getD_eq_getElem?_getD, hb, lr0], fun y => by simp, by simp⟩
theorem PsI.put {nb : Nat} {bl L : List Int} {ps : List (LR Int)} {met : List Int} {x : Int} {a : Option Addr} {n c b : Nat} (h : PsI nb bl L ps met) (hb : bl.getD x.toNat 0 = ((b : Nat) : Int)) (hbn : b < nb) :
    ∀ met', (if (ps.getD b lr0).xs = [] then met' = met ++ [((b : Nat) : Int)] else met' = met) → PsI nb bl (L ++ [x]) (ps.set b ⟨a, n, c, (ps.getD b lr0).xs ++ [x]⟩) met' := by
  intro met' hm
  have hnew : (ps.getD b lr0).xs = [] ↔ ((b : Nat) : Int) ∉ met := by
    rw [h.val b hbn, List.filter_eq_nil_iff, h.mt]
    constructor
    · rintro h9 ⟨y, hy, e⟩
      exact h9 y hy (by simpa using e)
    · intro h9 y hy e
      exact h9 ⟨y, hy, by simpa using e⟩
  refine ⟨by simp [h.len], fun k hk => ?_, fun y => ?_, ?_⟩
  · rw [getD_setLP (by rw [h.len]; exact hbn), List.filter_append]
    by_cases e : b = k
    · subst e
      rw [if_pos rfl]
      show (ps.getD b lr0).xs ++ [x] = _
      rw [h.val b hbn]
      have : List.filter (fun x => decide (bl.getD x.toNat 0 = ((b : Nat) : Int))) [x] = [x] := by simp only [List.filter_cons, List.filter_nil, hb, decide_true, if_true]
      rw [this]
    · rw [if_neg e, h.val k hk]
      have : List.filter (fun x => decide (bl.getD x.toNat 0 = ((k : Nat) : Int))) [x] = [] := by
        simp only [List.filter_cons, List.filter_nil, hb]
        rw [if_neg]; simp only [decide_eq_true_eq]; omega
      rw [this, List.append_nil]
  · have key : (∃ z, z ∈ L ++ [x] ∧ bl.getD z.toNat 0 = y) ↔ (y ∈ met ∨ y = ((b : Nat) : Int)) := by
      rw [h.mt]
      constructor
      · rintro ⟨z, hz, e⟩
        rcases List.mem_append.1 hz with h9 | h9
        · exact .inl ⟨z, h9, e⟩
        · rw [List.mem_singleton.1 h9, hb] at e; exact .inr e.symm
      · rintro (⟨z, hz, e⟩ | e)
        · exact ⟨z, List.mem_append_left _ hz, e⟩
        · exact ⟨x, by simp, by rw [hb, e]⟩
    rw [key]
    split at hm
    · rw [hm]; simp
    · rename_i hne
      rw [hm]
      constructor
      · intro h9; exact .inl h9
      · rintro (h9 | rfl)
        · exact h9
        · exact Classical.byContradiction fun h8 => hne (hnew.2 h8)
  · split at hm
    · rename_i he
      rw [hm]
      exact List.nodup_append.2 ⟨h.nd, by simp, fun u hu v hv e => by
        rw [List.mem_singleton.1 hv] at e; subst e; exact (hnew.1 he) hu⟩
    · rw [hm]; exact h.nd
/-- The map holds those lists. -/
def MmP (mm : List (Int × LR Int)) (ps : List (LR Int)) : Prop := ∀ b : Nat, b < ps.length → (getM mm ((b : Nat) : Int)).getD lr0 = ps.getD b lr0
theorem MmP.start (nb : Nat) : MmP [] (List.replicate nb lr0) := fun b hb => by
  have : b < nb := by simpa using hb
  simp [getM, List.getD_eq_getElem?_getD, this]
theorem MmP.put {mm : List (Int × LR Int)} {ps : List (LR Int)} {b : Nat} {v : LR Int} (h : MmP mm ps) (hb : b < ps.length) : MmP (putM mm ((b : Nat) : Int) v) (ps.set b v) := fun k hk => by
  rw [getM_put, getD_setLP hb]
  by_cases e : b = k
  · subst e; rw [if_pos rfl, if_pos rfl]; rfl
  · rw [if_neg (by omega), if_neg e]; exact h k (by simpa using hk)
/-! ### A task: the splits -/
structure TaskI (d : DfaD) (bl0 : List Int) (ms0 : List (LR Int)) (td0 : List (Int × Int)) (L met : List Int) (E : Nat → Nat → Nat → Prop) (bl : List Int) (ms : List (LR Int)) (td : List (Int × Int)) (wt : List (LR Bool)) (q : Nat) : Prop where
  hop : HopI d bl ms td wt E
  ref : ∀ p r, p < d.acc.length → r < d.acc.length → bl.getD p 0 = bl.getD r 0 → bl0.getD p 0 = bl0.getD r 0
  unt : ∀ j, q ≤ j → j < met.length → ms.getD (met.getD j 0).toNat lr0 = ms0.getD (met.getD j 0).toNat lr0
  done : ∀ p r, p < d.acc.length → r < d.acc.length → bl.getD p 0 = bl.getD r 0 → (∀ j, q ≤ j → j < met.length → met.getD j 0 ≠ bl0.getD p 0) → ((p : Int) ∈ L ↔ (r : Int) ∈ L)
  cnt : ms0.length ≤ ms.length ∧ td.length + ms0.length * (usedI d).length = td0.length + ms.length * (usedI d).length
theorem TaskI.start {d : DfaD} {bl0 : List Int} {ms0 : List (LR Int)} {td0 : List (Int × Int)} {L met : List Int} {wt : List (LR Bool)} {E : Nat → Nat → Nat → Prop} (h : HopI d bl0 ms0 td0 wt E) (hm : ∀ y : Int, y ∈ met ↔ ∃ x, x ∈ L ∧ bl0.getD x.toNat 0 = y) :
    TaskI d bl0 ms0 td0 L met E bl0 ms0 td0 wt 0 := by
  refine ⟨h, fun p r _ _ e => e, fun j _ _ => rfl, fun p r hp hr e hn => ?_, by omega⟩
  have key : ∀ i : Nat, bl0.getD i 0 = bl0.getD p 0 → (i : Int) ∉ L := fun i e2 hi => by
    have h1 := (hm (bl0.getD p 0)).2 ⟨(i : Int), hi, by rw [Int.toNat_natCast]; exact e2⟩
    obtain ⟨j, hj, e3⟩ := List.mem_iff_getElem.1 h1
    exact hn j (by omega) hj (by rw [← e3]; simp [List.getD_eq_getElem?_getD, List.getElem?_eq_getElem hj])
  exact ⟨fun h9 => absurd h9 (key p rfl), fun h9 => absurd h9 (key r e.symm)⟩
/-- The states of L that are of one block, as the block is. -/
theorem met_out {d : DfaD} {bl0 bl : List Int} {ms0 ms : List (LR Int)} {td0 td : List (Int × Int)} {L met : List Int} {wt : List (LR Bool)} {E : Nat → Nat → Nat → Prop} {q b : Nat} {ps : List (LR Int)} (h : TaskI d bl0 ms0 td0 L met E bl ms td wt q) (h0 : PartP d.acc.length bl0 ms0)
    (hL : ∀ x, x ∈ L → ∃ i : Nat, i < d.acc.length ∧ x = (i : Int)) (hP : PsI ms0.length bl0 L ps met) (hq : q < met.length) (hb : met.getD q 0 = ((b : Nat) : Int)) (hbn : b < ms0.length) :
    (∀ x, x ∈ (ps.getD b lr0).xs ↔ x ∈ L ∧ x ∈ mxs ms b) ∧ (∀ i : Nat, i < d.acc.length → (bl.getD i 0 = ((b : Nat) : Int) ↔ bl0.getD i 0 = ((b : Nat) : Int))) ∧ mxs ms b = mxs ms0 b ∧ (ps.getD b lr0).xs ≠ [] := by
  have hun := h.unt q (Nat.le_refl _) hq
  rw [hb, Int.toNat_natCast] at hun
  have e1 : mxs ms b = mxs ms0 b := by unfold mxs; rw [hun]
  have hbm : b < ms.length := by have := h.cnt.1; omega
  have hbl : ∀ i : Nat, i < d.acc.length → (bl.getD i 0 = ((b : Nat) : Int) ↔ bl0.getD i 0 = ((b : Nat) : Int)) := fun i hi => by
    have m1 := h.hop.part.mem b hbm (i : Int)
    have m2 := h0.mem b hbn (i : Int)
    rw [e1] at m1
    constructor
    · intro e
      obtain ⟨j, hj, e2, e3⟩ := m2.1 (m1.2 ⟨i, hi, rfl, e⟩)
      have : i = j := by omega
      subst this; exact e3
    · intro e
      obtain ⟨j, hj, e2, e3⟩ := m1.1 (m2.2 ⟨i, hi, rfl, e⟩)
      have : i = j := by omega
      subst this; exact e3
  refine ⟨fun x => ?_, hbl, e1, ?_⟩
  · rw [hP.val b hbn, List.mem_filter, decide_eq_true_eq]
    constructor
    · rintro ⟨h1, h2⟩
      obtain ⟨i, hi, rfl⟩ := hL x h1
      rw [Int.toNat_natCast] at h2
      exact ⟨h1, by rw [e1]; exact (h0.mem b hbn _).2 ⟨i, hi, rfl, h2⟩⟩
    · rintro ⟨h1, h2⟩
      rw [e1] at h2
      obtain ⟨i, hi, rfl, e⟩ := (h0.mem b hbn _).1 h2
      exact ⟨h1, by rw [Int.toNat_natCast]; exact e⟩
  · obtain ⟨x, hx, e⟩ := (hP.mt (((b : Nat) : Int))).1 (by rw [← hb]; exact getD_mem' hq)
    rw [hP.val b hbn]
    exact List.ne_nil_of_mem (List.mem_filter.2 ⟨hx, by rw [decide_eq_true_eq]; exact e⟩)
theorem TaskI.skip {d : DfaD} {bl0 bl : List Int} {ms0 ms : List (LR Int)} {td0 td : List (Int × Int)} {L met : List Int} {wt : List (LR Bool)} {E : Nat → Nat → Nat → Prop} {q b : Nat} {ps : List (LR Int)} (h : TaskI d bl0 ms0 td0 L met E bl ms td wt q) (h0 : PartP d.acc.length bl0 ms0)
    (hL : ∀ x, x ∈ L → ∃ i : Nat, i < d.acc.length ∧ x = (i : Int)) (hLn : L.Nodup) (hP : PsI ms0.length bl0 L ps met) (hq : q < met.length) (hb : met.getD q 0 = ((b : Nat) : Int)) (hbn : b < ms0.length) (hlen : ¬ (ps.getD b lr0).xs.length < (mxs ms b).length) :
    TaskI d bl0 ms0 td0 L met E bl ms td wt (q + 1) := by
  obtain ⟨m1, m2, m3, _⟩ := met_out h h0 hL hP hq hb hbn
  have hbm : b < ms.length := by have := h.cnt.1; omega
  have hpn : (ps.getD b lr0).xs.Nodup := by rw [hP.val b hbn]; exact hLn.sublist List.filter_sublist
  have all := nodup_all hpn (fun x hx => ((m1 x).1 hx).2) (by omega)
  refine ⟨h.hop, h.ref, fun j hj hj2 => h.unt j (by omega) hj2, fun p r hp hr e hn => ?_, h.cnt⟩
  by_cases e2 : bl0.getD p 0 = ((b : Nat) : Int)
  · have key : ∀ i : Nat, i < d.acc.length → bl0.getD i 0 = ((b : Nat) : Int) → (i : Int) ∈ L := fun i hi e3 =>
      ((m1 _).1 (all _ ((h.hop.part.mem b hbm _).2 ⟨i, hi, rfl, (m2 i hi).2 e3⟩))).1
    have e4 := h.ref p r hp hr e
    exact ⟨fun _ => key r hr (by rw [← e4]; exact e2), fun _ => key p hp e2⟩
  · refine h.done p r hp hr e fun j hj hj2 => ?_
    by_cases e3 : j = q
    · subst e3; rw [hb]; exact fun h9 => e2 h9.symm
    · exact hn j (by omega) hj2
theorem TaskI.split {d : DfaD} {bl0 bl bl' : List Int} {ms0 ms ms' : List (LR Int)} {td0 td td' : List (Int × Int)} {L met : List Int} {wt wt' : List (LR Bool)} {E : Nat → Nat → Nat → Prop} {q b c t : Nat} {ps : List (LR Int)} (hr : rightB d = true) (h : TaskI d bl0 ms0 td0 L met E bl ms td wt q) (h0 : PartP d.acc.length bl0 ms0) (hs0 : SndI d bl0)
    (hL : ∀ x, x ∈ L ↔ ∃ i : Nat, i < d.acc.length ∧ x = (i : Int) ∧ bl0.getD (dl d c i) 0 = ((t : Nat) : Int)) (hc : c < (usedI d).length) (hLn : L.Nodup) (hP : PsI ms0.length bl0 L ps met) (hq : q < met.length) (hb : met.getD q 0 = ((b : Nat) : Int)) (hbn : b < ms0.length) (hlen : (ps.getD b lr0).xs.length < (mxs ms b).length)
    (s : SplR b (ps.getD b lr0).xs (usedI d).length bl ms td wt bl' ms' td' wt') : TaskI d bl0 ms0 td0 L met E bl' ms' td' wt' (q + 1) := by
  have hL' : ∀ x, x ∈ L → ∃ i : Nat, i < d.acc.length ∧ x = (i : Int) := fun x hx => by obtain ⟨i, hi, e, _⟩ := (hL x).1 hx; exact ⟨i, hi, e⟩
  obtain ⟨m1, m2, m3, m4⟩ := met_out h h0 hL' hP hq hb hbn
  have hbm : b < ms.length := by have := h.cnt.1; omega
  have hpn : (ps.getD b lr0).xs.Nodup := by rw [hP.val b hbn]; exact hLn.sublist List.filter_sublist
  have hbl := h.hop.part.len
  have bv : ∀ i, i < d.acc.length → bl'.getD i 0 = if (i : Int) ∈ (ps.getD b lr0).xs then (ms.length : Int) else bl.getD i 0 := fun i hi => s.bv i (by omega)
  have inb : ∀ i : Nat, i < d.acc.length → (i : Int) ∈ (ps.getD b lr0).xs → bl.getD i 0 = ((b : Nat) : Int) := fun i hi ho => by
    obtain ⟨j, hj, e1, e2⟩ := (h.hop.part.mem b hbm _).1 ((m1 _).1 ho).2
    have : i = j := by omega
    subst this; exact e2
  have hop := h.hop.split hr s hbm (fun x hx => ((m1 x).1 hx).2) hpn m4 (nodup_more (h.hop.part.nd b hbm) hlen) (fun p r hp hr2 o1 i2 o2 => by
    have l1 := ((m1 _).1 o1).1
    have l2 : (r : Int) ∉ L := fun h9 => o2 ((m1 _).2 ⟨h9, i2⟩)
    obtain ⟨i, hi, e1, e2⟩ := (hL _).1 l1
    have : p = i := by omega
    subst this
    refine dis_dl hr hc (hs0 _ _ (dl_lt hr hc hp).1 (dl_lt hr hc hr2).1 fun e3 => l2 ((hL _).2 ⟨r, hr2, rfl, ?_⟩))
    rw [← e3]; exact e2)
  have up : ∀ p r, p < d.acc.length → r < d.acc.length → bl'.getD p 0 = bl'.getD r 0 → bl.getD p 0 = bl.getD r 0 ∧ ((p : Int) ∈ (ps.getD b lr0).xs ↔ (r : Int) ∈ (ps.getD b lr0).xs) := fun p r hp hr2 e => by
    rw [bv p hp, bv r hr2] at e
    have r1 := h.hop.part.rng p hp
    have r2 := h.hop.part.rng r hr2
    by_cases o1 : (p : Int) ∈ (ps.getD b lr0).xs
    · by_cases o2 : (r : Int) ∈ (ps.getD b lr0).xs
      · exact ⟨by rw [inb p hp o1, inb r hr2 o2], fun _ => o2, fun _ => o1⟩
      · rw [if_pos o1, if_neg o2] at e; omega
    · by_cases o2 : (r : Int) ∈ (ps.getD b lr0).xs
      · rw [if_neg o1, if_pos o2] at e; omega
      · rw [if_neg o1, if_neg o2] at e; exact ⟨e, fun h9 => absurd h9 o1, fun h9 => absurd h9 o2⟩
  refine ⟨hop, fun p r hp hr2 e => h.ref p r hp hr2 (up p r hp hr2 e).1, fun j hj hj2 => ?_, fun p r hp hr2 e hn => ?_, ?_⟩
  · have hne : (met.getD j 0).toNat ≠ b := fun e => by
      have h1 := hP.nd
      rw [List.nodup_iff_pairwise_ne, List.pairwise_iff_getElem] at h1
      have h2 := h1 q j hq hj2 (by omega)
      have r1 : ∀ i, i < met.length → met.getD i 0 = met[i]?.getD 0 := fun i hi => List.getD_eq_getElem?_getD ..
      have hj0 : 0 ≤ met.getD j 0 := by
        obtain ⟨x, hx, e9⟩ := (hP.mt (met.getD j 0)).1 (getD_mem' hj2)
        obtain ⟨i, hi, rfl⟩ := hL' x hx
        have := h0.rng i hi
        rw [Int.toNat_natCast] at e9; omega
      apply h2
      have e3 : met.getD q 0 = met[q] := by simp [List.getD_eq_getElem?_getD, List.getElem?_eq_getElem hq]
      have e4 : met.getD j 0 = met[j] := by simp [List.getD_eq_getElem?_getD, List.getElem?_eq_getElem hj2]
      rw [← e3, ← e4, hb]; omega
    have hlt : (met.getD j 0).toNat < ms.length := by
      obtain ⟨x, hx, e9⟩ := (hP.mt (met.getD j 0)).1 (getD_mem' hj2)
      obtain ⟨i, hi, rfl⟩ := hL' x hx
      have := h0.rng i hi
      have := h.cnt.1
      rw [Int.toNat_natCast] at e9; omega
    rw [s.m3 _ hlt hne]
    exact h.unt j (by omega) hj2
  · obtain ⟨e1, e2⟩ := up p r hp hr2 e
    by_cases e3 : bl0.getD p 0 = ((b : Nat) : Int)
    · have key : ∀ i : Nat, i < d.acc.length → bl0.getD i 0 = ((b : Nat) : Int) → ((i : Int) ∈ (ps.getD b lr0).xs ↔ (i : Int) ∈ L) := fun i hi e4 =>
        ⟨fun h9 => ((m1 _).1 h9).1, fun h9 => (m1 _).2 ⟨h9, (h.hop.part.mem b hbm _).2 ⟨i, hi, rfl, (m2 i hi).2 e4⟩⟩⟩
      have e4 := h.ref p r hp hr2 e1
      rw [← key p hp e3, ← key r hr2 (by rw [← e4]; exact e3)]; exact e2
    · refine h.done p r hp hr2 e1 fun j hj hj2 => ?_
      by_cases e5 : j = q
      · subst e5; rw [hb]; exact fun h9 => e3 h9.symm
      · exact hn j (by omega) hj2
  · have h1 := h.cnt
    have h2 := s.ml
    have h3 := s.tl
    refine ⟨by omega, ?_⟩
    rw [h2, h3, Nat.add_mul, Nat.one_mul]
    omega
/-- The condition while a task is done: at its class, states that part in whether they come in. -/
def TaskE (d : DfaD) (bl : List Int) (t c k p q : Nat) : Prop := k = c ∧ ¬ (bl.getD (dl d c p) 0 = ((t : Nat) : Int) ↔ bl.getD (dl d c q) 0 = ((t : Nat) : Int))
theorem HopI.take {d : DfaD} {bl : List Int} {ms : List (LR Int)} {td : List (Int × Int)} {wt wt' : List (LR Bool)} {t c : Nat} (hr : rightB d = true) (h : HopI d bl ms (td ++ [(((t : Nat) : Int), ((c : Nat) : Int))]) wt (fun _ _ _ => False)) (s : WtSet wt t c false wt') :
    HopI d bl ms td wt' (TaskE d bl t c) := by
  refine ⟨h.part, ⟨by rw [s.len]; exact h.wait.len, fun b hb => by rw [s.row]; exact h.wait.row b hb, fun b k hb hk h9 => ?_, fun u hu => h.wait.bd u (List.mem_append_left _ hu)⟩, ?_, h.snd, h.acc⟩
  · rw [s.val] at h9
    split at h9
    · cases h9
    · rename_i hne
      rcases List.mem_append.1 (h.wait.todo b k hb hk h9) with h8 | h8
      · exact h8
      · have h7 := List.mem_singleton.1 h8
        simp only [Prod.mk.injEq] at h7
        exact absurd ⟨by omega, by omega⟩ hne
  · intro k p q hk hp hq e hne
    have lp := (dl_lt hr hk hp).1
    have lq := (dl_lt hr hk hq).1
    have rp := h.part.rng _ lp
    have rq := h.part.rng _ lq
    by_cases hE : TaskE d bl t c k p q
    · exact .inr (.inr hE)
    · have hnot : k = c → (bl.getD (dl d c p) 0 = ((t : Nat) : Int) ↔ bl.getD (dl d c q) 0 = ((t : Nat) : Int)) := fun e9 => Classical.byContradiction fun h8 => hE ⟨e9, h8⟩
      rcases h.stab k p q hk hp hq e hne with h9 | h9 | h9
      · refine .inl ?_
        rw [s.val, if_neg]; exact h9
        rintro ⟨e1, e2⟩
        have e3 := hnot e2
        subst e2
        have e4 : bl.getD (dl d k p) 0 = ((t : Nat) : Int) := by unfold bk at e1; omega
        exact hne (by rw [e4, e3.1 e4])
      · refine .inr (.inl ?_)
        rw [s.val, if_neg]; exact h9
        rintro ⟨e1, e2⟩
        have e3 := hnot e2
        subst e2
        have e4 : bl.getD (dl d k q) 0 = ((t : Nat) : Int) := by unfold bk at e1; omega
        exact hne (by rw [e4, e3.2 e4])
      · exact h9.elim
theorem TaskI.fin {d : DfaD} {bl0 bl : List Int} {ms0 ms : List (LR Int)} {td0 td : List (Int × Int)} {L met : List Int} {wt : List (LR Bool)} {q c t : Nat} (h : TaskI d bl0 ms0 td0 L met (TaskE d bl0 t c) bl ms td wt q) (hq : ¬ q < met.length)
    (hL : ∀ x, x ∈ L ↔ ∃ i : Nat, i < d.acc.length ∧ x = (i : Int) ∧ bl0.getD (dl d c i) 0 = ((t : Nat) : Int)) : HopI d bl ms td wt (fun _ _ _ => False) := by
  refine ⟨h.hop.part, h.hop.wait, ?_, h.hop.snd, h.hop.acc⟩
  intro k p r hk hp hr e hne
  have hd := h.done p r hp hr e (fun j hj hj2 => by omega)
  rcases h.hop.stab k p r hk hp hr e hne with h9 | h9 | ⟨_, h9⟩
  · exact .inl h9
  · exact .inr (.inl h9)
  · exfalso
    apply h9
    have key : ∀ i : Nat, i < d.acc.length → ((i : Int) ∈ L ↔ bl0.getD (dl d c i) 0 = ((t : Nat) : Int)) := fun i hi => by
      rw [hL]
      constructor
      · rintro ⟨j, hj, e1, e2⟩
        have : i = j := by omega
        subst this; exact e2
      · intro e1; exact ⟨i, hi, rfl, e1⟩
    rw [← key p hp, ← key r hr]; exact hd
/-! ### The end -/
theorem HopI.alike {d : DfaD} (hr : rightB d = true) {bl : List Int} {ms : List (LR Int)} {wt : List (LR Bool)} (h : HopI d bl ms [] wt (fun _ _ _ => False)) : ∀ (t p q : Nat), p < d.acc.length → q < d.acc.length → disT d t p q → bl.getD p 0 ≠ bl.getD q 0
  | 0, p, q, hp, hq, hd, e => hd (h.acc p q hp hq e)
  | t + 1, p, q, hp, hq, hd, e => by
    rcases hd with hd | ⟨c, hc, hd⟩
    · exact HopI.alike hr h t p q hp hq hd e
    · obtain ⟨k, hk, e2⟩ := dl_sym hr hc
      rw [e2, e2] at hd
      have lp := (dl_lt hr hk hp).1
      have lq := (dl_lt hr hk hq).1
      have rp := h.part.rng _ lp
      have rq := h.part.rng _ lq
      have hn := HopI.alike hr h t _ _ lp lq hd
      rcases h.stab k p q hk hp hq e hn with h9 | h9 | h9
      · exact absurd (h.wait.todo _ k (by unfold bk; omega) hk h9) (by simp)
      · exact absurd (h.wait.todo _ k (by unfold bk; omega) hk h9) (by simp)
      · exact h9
theorem HopI.blocks {d : DfaD} (hr : rightB d = true) {bl : List Int} {ms : List (LR Int)} {td : List (Int × Int)} {wt : List (LR Bool)} (h : HopI d bl ms td wt (fun _ _ _ => False)) (ht : ¬ 0 < td.length) : joinL bl bl = blkD d ∧ joinN bl bl = ((dd (blkF d)).length : Int) := by
  have ht0 : td = [] := List.length_eq_zero_iff.1 (by omega)
  subst ht0
  have hl := h.part.len
  have hfl := (blkF_q d).len
  have hk : ∀ i k, i < d.acc.length → k < d.acc.length → ((bl.zip bl)[i]? = (bl.zip bl)[k]? ↔ (blkF d)[i]? = (blkF d)[k]?) := fun i k hi hk2 => by
    have gz : ∀ i, i < d.acc.length → (bl.zip bl)[i]? = some (bl.getD i 0, bl.getD i 0) := fun i hi => by
      rw [List.getElem?_eq_getElem (by rw [List.length_zip]; omega), List.getElem_zip]
      simp [List.getD_eq_getElem?_getD, List.getElem?_eq_getElem (show i < bl.length by omega)]
    have gf : ∀ i, i < d.acc.length → (blkF d)[i]? = some ((blkF d).getD i 0) := fun i hi => by
      simp [List.getD_eq_getElem?_getD, List.getElem?_eq_getElem (show i < (blkF d).length by omega)]
    rw [gz i hi, gz k hk2, gf i hi, gf k hk2]
    simp only [Option.some.injEq, Prod.mk.injEq, and_self]
    rw [(blkF_q d).kernel (stR_eq d _) hi hk2]
    constructor
    · intro e
      exact (dis_iff hr hi hk2).1 fun ⟨t, hd⟩ => HopI.alike hr h t i k hi hk2 hd e
    · intro e
      exact Classical.byContradiction fun hn => (dis_iff hr hi hk2).2 e (h.snd i k hi hk2 hn)
  have key := num_kernel d.acc.length (bl.zip bl) (blkF d) (by simp [hl]) hfl hk
  constructor
  · unfold joinL blkD; rw [if_pos rfl]; exact key.1
  · unfold joinN; rw [if_pos rfl, key.2]
end Go.Proofs.Ytoeockpkkmgieaa

