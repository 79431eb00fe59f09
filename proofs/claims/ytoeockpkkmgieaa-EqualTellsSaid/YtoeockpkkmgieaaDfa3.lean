/- Proved here: which states lead where, as data; what the two spreads of an automaton mark. Conditions: those of each theorem. -/
import Derived.Test.YtoeockpkkmgieaaL2
import Derived.Test.YtoeockpkkmgieaaSx13
namespace Go.Proofs.Ytoeockpkkmgieaa
open Go Go.Sx
set_option linter.unusedVariables false
set_option linter.unusedSimpArgs false
/-- One comes from a state to another one. -/
inductive To (d : DfaD) : Int → Int → Prop
  | refl (s : Int) : To d s s
  | step {s u t : Int} : u ∈ nxR d s → To d u t → To d s t
theorem To.trans {d : DfaD} {a b c : Int} (h : To d a b) (k : To d b c) : To d a c := by
  induction h with
  | refl s => exact k
  | step hu _ ih => exact .step hu (ih k)
theorem To.snoc {d : DfaD} {a b c : Int} (h : To d a b) (k : c ∈ nxR d b) : To d a c := h.trans (.step k (.refl c))
theorem To.bd {d : DfaD} (hr : rightB d = true) {a b : Int} (h : To d a b) (h0 : 0 ≤ a ∧ a < (d.acc.length : Int)) : 0 ≤ b ∧ b < (d.acc.length : Int) := by
  induction h with
  | refl s => exact h0
  | step hu _ ih => exact ih (nxR_bd hr h0.1 h0.2 hu)

/-- Behind k states and j classes of the next one: who comes where. -/
structure PrB (d : DfaD) (ps : List (LR Int)) (k j : Nat) : Prop where
  len : ps.length = d.acc.length
  mem : ∀ t : Nat, t < d.acc.length → ∀ x : Int, x ∈ (ps.getD t lr0).xs ↔ (∃ s : Nat, s < k ∧ x = (s : Int) ∧ (t : Int) ∈ nxR d s) ∨ (x = (k : Int) ∧ (t : Int) ∈ (nxR d k).take j)
  size : ∀ t : Nat, (ps.getD t lr0).xs.length ≤ k * (usedI d).length + j
theorem PrB.start (d : DfaD) : PrB d (List.replicate d.acc.length lr0) 0 0 := by
  have e : ∀ t : Nat, ((List.replicate d.acc.length (lr0 : LR Int)).getD t lr0).xs = [] := fun t => by
    simp only [List.getD_eq_getElem?_getD, List.getElem?_replicate]; split <;> rfl
  refine ⟨by simp, fun t ht x => ?_, fun t => by rw [e]; simp⟩
  rw [e]
  constructor
  · intro h; simp at h
  · rintro (⟨s, hs, _⟩ | ⟨_, h⟩)
    · omega
    · simp at h
theorem take_one_getD {l : List Int} {k : Nat} (h : k < l.length) : l.take (k + 1) = l.take k ++ [l.getD k 0] := by
  rw [List.take_add_one, List.getElem?_eq_getElem h]; simp [List.getD_eq_getElem?_getD, List.getElem?_eq_getElem h]
theorem getD_setLP {ps : List (LR Int)} {q t : Nat} {p : LR Int} (hq : q < ps.length) : (ps.set q p).getD t lr0 = if q = t then p else ps.getD t lr0 := by
  simp only [List.getD_eq_getElem?_getD, List.getElem?_set]
  split
  · rename_i e; subst e; simp [hq]
  · rfl
theorem PrB.step {d : DfaD} {ps : List (LR Int)} {k j q : Nat} {a : Option Addr} {c m : Nat} (h : PrB d ps k j) (hj : j < (usedI d).length) (hq : d.next.getD (((k : Nat) : Int) * d.width + (usedI d).getD j 0).toNat 0 = (q : Int)) (hqn : q < d.acc.length) :
    PrB d (ps.set q ⟨a, m, c, (ps.getD q lr0).xs ++ [(k : Int)]⟩) k (j + 1) := by
  have hlen : q < ps.length := by rw [h.len]; exact hqn
  have hnl : (nxR d k).length = (usedI d).length := by simp [nxR]
  have htk : (nxR d k).take (j + 1) = (nxR d k).take j ++ [(q : Int)] := by
    rw [take_one_getD (by omega)]
    have : (nxR d k).getD j 0 = (q : Int) := by
      rw [← hq]; simp [nxR, List.getD_eq_getElem?_getD, List.getElem?_eq_getElem hj]
    rw [this]
  refine ⟨by simp [h.len], fun t ht x => ?_, fun t => ?_⟩
  · rw [getD_setLP hlen, htk]
    by_cases e : q = t
    · subst e
      rw [if_pos rfl]
      simp only [List.mem_append, List.mem_singleton]
      rw [h.mem q ht x]
      constructor
      · rintro ((c | c) | c)
        · exact .inl c
        · exact .inr ⟨c.1, by simp⟩
        · exact .inr ⟨c, by simp⟩
      · rintro (c | c)
        · exact .inl (.inl c)
        · first | exact .inr c | exact .inr c.1
    · rw [if_neg e, h.mem t ht x]
      simp only [List.mem_append, List.mem_singleton]
      constructor
      · rintro (c | ⟨c, c2⟩)
        · exact .inl c
        · exact .inr ⟨c, .inl c2⟩
      · rintro (c | ⟨c, c2 | c2⟩)
        · exact .inl c
        · exact .inr ⟨c, c2⟩
        · exfalso; omega
  · rw [getD_setLP hlen]
    split
    · rename_i e; subst e; have := h.size q; show ((ps.getD q lr0).xs ++ [(k : Int)]).length ≤ _; rw [List.length_append, List.length_singleton]; omega
    · have := h.size t; omega
theorem PrB.next {d : DfaD} {ps : List (LR Int)} {k j : Nat} (h : PrB d ps k j) (hj : ¬ j < (usedI d).length) (hj2 : j ≤ (usedI d).length) : PrB d ps (k + 1) 0 := by
  have hnl : (nxR d k).length = (usedI d).length := by simp [nxR]
  refine ⟨h.len, fun t ht x => ?_, fun t => ?_⟩
  · rw [h.mem t ht x, List.take_of_length_le (l := nxR d k) (i := j) (by omega), List.take_zero]
    constructor
    · rintro (⟨s, h1, h2, h3⟩ | ⟨h1, h2⟩)
      · exact .inl ⟨s, by omega, h2, h3⟩
      · exact .inl ⟨k, by omega, h1, h2⟩
    · rintro (⟨s, h1, h2, h3⟩ | ⟨_, h⟩)
      · by_cases e : s = k
        · subst e; exact .inr ⟨h2, h3⟩
        · exact .inl ⟨s, by omega, h2, h3⟩
      · simp at h
  · have h1 := h.size t
    have h2 : (k + 1) * (usedI d).length = k * (usedI d).length + (usedI d).length := by rw [Nat.add_mul, Nat.one_mul]
    omega
theorem PrB.fin {d : DfaD} {ps : List (LR Int)} {k : Nat} (h : PrB d ps k 0) (hk : k = d.acc.length) (t : Nat) (ht : t < d.acc.length) (x : Int) :
    x ∈ (ps.getD t lr0).xs ↔ ∃ s : Nat, s < d.acc.length ∧ x = (s : Int) ∧ (t : Int) ∈ nxR d s := by
  subst hk
  rw [h.mem t ht x]; simp

/-- The states that accept, the first k of all. -/
def accL (d : DfaD) (k : Nat) : List Int := List.map (fun i : Nat => (i : Int)) (List.filter (fun i : Nat => d.acc.getD i false) (List.range k))
theorem accL_yes {d : DfaD} {k : Nat} (h : d.acc.getD k false = true) : accL d k ++ [(k : Int)] = accL d (k + 1) := by
  rw [List.getD_eq_getElem?_getD] at h; simp [accL, List.range_succ, List.filter_append, h]
theorem accL_no {d : DfaD} {k : Nat} (h : ¬ d.acc.getD k false = true) : accL d k = accL d (k + 1) := by
  rw [List.getD_eq_getElem?_getD] at h; simp [accL, List.range_succ, List.filter_append, h]
theorem accL_len (d : DfaD) (k : Nat) : (accL d k).length ≤ k := by
  have := List.length_filter_le (fun i => d.acc.getD i false) (List.range k)
  simp only [accL, List.length_map]; simpa using this
theorem accL_mem {d : DfaD} {k : Nat} {x : Int} : x ∈ accL d k ↔ ∃ f : Nat, f < k ∧ d.acc.getD f false = true ∧ x = (f : Int) := by
  simp only [accL, List.mem_map, List.mem_filter, List.mem_range]
  constructor
  · rintro ⟨a, ⟨h1, h2⟩, rfl⟩; exact ⟨a, h1, h2, rfl⟩
  · rintro ⟨a, h1, h2, rfl⟩; exact ⟨a, ⟨h1, h2⟩, rfl⟩
def psN (ps : List (LR Int)) (x : Int) : List Int := (ps.getD x.toNat lr0).xs
def LiveP (d : DfaD) (o : List Bool) : Prop := (rightB d = false → o = []) ∧ (rightB d = true → o.length = d.acc.length ∧ ∀ s : Nat, s < d.acc.length → (o.getD s false = true ↔ ∃ f : Nat, f < d.acc.length ∧ d.acc.getD f false = true ∧ To d s f))
def ReachP (d : DfaD) (o : List Bool) : Prop := (rightB d = false → o = []) ∧ (rightB d = true → o.length = d.acc.length ∧ ∀ s : Nat, s < d.acc.length → (o.getD s false = true ↔ To d d.start s))
theorem live_of {d : DfaD} {ps : List (LR Int)} {o : List Bool} {k : Nat} (hr : rightB d = true) (h : PrB d ps k 0) (hk : k = d.acc.length) (hs : SprF (psN ps) d.acc.length (accL d d.acc.length) o) : LiveP d o := by
  refine ⟨fun h => (by rw [hr] at h; cases h), fun _ => ⟨hs.len, fun s hsl => ⟨fun ho => ?_, ?_⟩⟩⟩
  · have := hs.min (fun x => ∃ s : Nat, x = (s : Int) ∧ s < d.acc.length ∧ ∃ f : Nat, f < d.acc.length ∧ d.acc.getD f false = true ∧ To d s f)
      (fun t ht => by obtain ⟨f, h1, h2, rfl⟩ := accL_mem.1 ht; exact ⟨f, rfl, h1, f, h1, h2, .refl _⟩)
      (fun x hx t ht => by
        obtain ⟨s, rfl, h1, f, h2, h3, h4⟩ := hx
        obtain ⟨s', h5, rfl, h6⟩ := (h.fin hk s h1 t).1 (by simpa [psN] using ht)
        exact ⟨s', rfl, h5, f, h2, h3, .step h6 h4⟩) s ho
    obtain ⟨s', e, _, f, h2, h3, h4⟩ := this
    exact ⟨f, h2, h3, by rw [e]; exact h4⟩
  · rintro ⟨f, h1, h2, h3⟩
    have key : ∀ a b : Int, To d a b → b = (f : Int) → 0 ≤ a ∧ a < (d.acc.length : Int) → o.getD a.toNat false = true := by
      intro a b hab
      induction hab with
      | refl s => intro e _; subst e; exact hs.init _ (accL_mem.2 ⟨f, h1, h2, rfl⟩)
      | @step a u t hu _ ih =>
        intro e ha
        have hub := nxR_bd hr ha.1 ha.2 hu
        have ho := ih e hub
        refine hs.clo u.toNat ho a ?_
        show a ∈ psN ps (u.toNat : Int)
        simp only [psN, Int.toNat_natCast]
        refine (h.fin hk u.toNat (by omega) a).2 ⟨a.toNat, by omega, by omega, ?_⟩
        rw [Int.toNat_of_nonneg ha.1, Int.toNat_of_nonneg hub.1]; exact hu
    have := key s f h3 rfl ⟨by omega, by omega⟩
    simpa using this
theorem reach_of {d : DfaD} {o : List Bool} (hr : rightB d = true) (hs : SprF (nxR d) d.acc.length [d.start] o) : ReachP d o := by
  have hri := rightB_iff.1 hr
  refine ⟨fun h => (by rw [hr] at h; cases h), fun _ => ⟨hs.len, fun s hsl => ⟨fun ho => ?_, fun ht => ?_⟩⟩⟩
  · exact hs.min (fun x => To d d.start x) (fun t ht => by simp only [List.mem_singleton] at ht; subst ht; exact .refl _) (fun x hx t ht => hx.snoc ht) s ho
  · have key : ∀ a b : Int, To d a b → 0 ≤ a ∧ a < (d.acc.length : Int) → o.getD a.toNat false = true → o.getD b.toNat false = true := by
      intro a b hab
      induction hab with
      | refl s => intro _ h; exact h
      | @step a u t hu _ ih =>
        intro ha h
        have hub := nxR_bd hr ha.1 ha.2 hu
        refine ih hub (hs.clo a.toNat h u ?_)
        rw [Int.toNat_of_nonneg ha.1]; exact hu
    have := key _ _ ht ⟨hri.1.2.2.2.2.2.2.1, hri.1.2.2.2.2.2.2.2⟩ (hs.init _ (by simp))
    simpa using this
def oneD : DfaD := ⟨List.replicate 259 0, 1, 0, [0], [true]⟩
theorem oneD_right : rightB oneD = true := by decide +kernel
theorem oneD_word : wordOk ⟨#[97, 98]⟩ 0 1 = true ∧ wordD ⟨#[97, 98]⟩ 0 1 = [256, 97] := by constructor <;> decide +kernel
theorem oneD_acc : acceptsB oneD [256, 97] = true := by decide +kernel
theorem LiveP.one {o : List Bool} (h : LiveP oneD o) : o.length = 1 ∧ o.getD 0 false = true := by
  obtain ⟨h1, h2⟩ := h.2 oneD_right
  exact ⟨h1, (h2 0 (by decide)).2 ⟨0, by decide, rfl, .refl _⟩⟩
theorem ReachP.one {o : List Bool} (h : ReachP oneD o) : o.length = 1 ∧ o.getD 0 false = true := by
  obtain ⟨h1, h2⟩ := h.2 oneD_right
  exact ⟨h1, (h2 0 (by decide)).2 (.refl _)⟩
theorem take_one1 {l : List Int} (h : 0 < l.length) : l.take 1 = [l.getD 0 0] := by
  cases l with
  | nil => simp at h
  | cons x l => rfl
theorem manyRd_keep {w w' w'' : World} {L A : List Chunk} {G : List (List Chunk)} {σ α : Type} {I : Inn σ α} {ps : List σ} (h : UpG w L w' G) (i j : Nat) (hij : Nat.beq i j = false) (hi : G[i]? = some A) (hj : G[j]? = some [manyF I.row ps]) (k : Keep (ats A) w' w'') : I.Rd w'' ps := by
  have h2 := h.hp2 i j hij hi hj
  refine Inn.own (h2.right.keep k fun g hg hm => h2.apart hm hg)
theorem closO_of {P : Program} {f : FuncId} {fc : List Value} {ps : List (LR Int)} {n : Nat} {S : List Nat} {w : World}
    (hc : ∀ w', Keep S w w' → ∀ x : Int, 0 ≤ x → x < (n : Int) → Calls P f (#[.int .i64 x] ++ fc.toArray) w' (Ret fun v w'' => v = .slice (ps.getD x.toNat lr0).a (ps.getD x.toNat lr0).n (ps.getD x.toNat lr0).c ∧ Upd w' [] w'' []))
    (hr : ∀ w', Keep S w w' → (inLR (tyI .i64) 3).Rd w' ps) (hn : n ≤ ps.length) : ClosO P f fc (psN ps) n S w := fun w' k x h0 h1 => by
  refine (hc w' k x h0 h1).mono ?_
  rintro e w3 ⟨v, rfl, hv, hu⟩
  have rd : ∀ w', Keep S w w' → RdT (tyI .i64) w' (.slice (ps.getD x.toNat lr0).a (ps.getD x.toNat lr0).n (ps.getD x.toNat lr0).c) (ps.getD x.toNat lr0).xs := fun w' k' => (hr w' k').get lr0 x.toNat (by omega)
  have hl := (rd w' k).len
  refine ⟨_, rfl, (ps.getD x.toNat lr0).a, (ps.getD x.toNat lr0).c, ?_, hu, fun w4 k4 => ?_⟩
  · rw [hv, hl]; rfl
  · have h2 := rd w4 k4; rw [hl] at h2; exact h2
end Go.Proofs.Ytoeockpkkmgieaa
