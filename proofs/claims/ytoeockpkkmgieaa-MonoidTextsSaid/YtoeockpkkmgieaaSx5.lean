/- A statement whose order of evaluation Go leaves open: its quiet operations in the order of the text, whichever the order was. -/
import Derived.Test.YtoeockpkkmgieaaSx4
namespace Go.Sx
set_option linter.unusedVariables false
set_option linter.unusedSimpArgs false

/-- A promise: operation k yields v in every world of C. -/
structure Prm where
  k : Nat
  v : Value
  C : World → Prop

section
variable (P : Program) (n : Nat) (ops : Array Oper)

/-- Its direct ones ahead. -/
def preds (k : Nat) : List Nat := match ops[k]? with | some o => (o.after.toList.filter (Region.binds .any)).map (·.on) | none => []
def dstOf (k : Nat) : Option Tmp := (ops[k]?).bind (·.dst)
def looks (k : Nat) : List Tmp := match ops[k]? with | some o => o.looksAt ops | none => []

/-- The looks that a region must pass: each slot is written once; who looks at a slot that is written waits for it, or is waited for; who is waited for stands ahead; no select. -/
def regOk : Bool :=
  Region.noSelect ops &&
  (List.range ops.size).all fun k =>
    ((preds ops k).all fun i => Nat.blt i k) &&
    (List.range ops.size).all fun i => i == k || match dstOf ops i with
      | none => true
      | some d => dstOf ops k != some d && (!(looks ops k).contains d || (preds ops k).contains i || (preds ops i).contains k)

/-- What operation k yields where the slots are as told. -/
def YieldsG (Γ : Env) (k : Nat) (v : Value) (w : World) : Prop :=
  ∀ a : Act, (∀ t u, t ∈ looks ops k → look Γ t = some u → a.tmps.getD t undef = u) → ∃ o, ops[k]? = some o ∧
    ((Region.wanted o (yielded ops a.tmps) = true ∧ ∀ next Q, next (a.put o.dst v) w → o.wp P a w next Q) ∨ (Region.wanted o (yielded ops a.tmps) = false ∧ v = undef))

structure Inv (T : List Nat) (Pn : List Prm) (Γ : Env) (w : World) (listed : Array Bool) (a : Act) : Prop where
  lsize : listed.size = ops.size
  size : a.tmps.size = n
  defers : a.defers = []
  closedT : ∀ i, i ∈ T → ∀ j, j ∈ preds ops i → j ∈ T
  closedL : ∀ i, listed.getD i false = true → ∀ j, j ∈ preds ops i → listed.getD j false = true
  taken : ∀ i, listed.getD i false = true → i ∈ T
  slot : ∀ t v, look Γ t = some v → (∀ p, p ∈ Pn → listed.getD p.k false = false → dstOf ops p.k = some t → p.v = v) ∧ ((∀ p, p ∈ Pn → listed.getD p.k false = false → dstOf ops p.k ≠ some t) → a.tmps.getD t undef = v)
  pend : ∀ i, i ∈ T → listed.getD i false = false → ∃ p, p ∈ Pn ∧ p.k = i
  prom : ∀ p, p ∈ Pn → p.k ∈ T ∧ (listed.getD p.k false = false → p.C w ∧ (dstOf ops p.k).any (· < n) = true ∧ ∃ Γk, (∀ w', p.C w' → YieldsG P ops Γk p.k p.v w') ∧
    ∀ t u, t ∈ looks ops p.k → look Γk t = some u → (∀ q, q ∈ Pn → listed.getD q.k false = false → dstOf ops q.k = some t → q.k ∈ preds ops p.k → q.v = u) ∧ ((∀ q, q ∈ Pn → listed.getD q.k false = false → q.k ∈ preds ops p.k → dstOf ops q.k ≠ some t) → a.tmps.getD t undef = u))
  one : ∀ p, p ∈ Pn → ∀ q, q ∈ Pn → p.k = q.k → p.v = q.v

def WD (Q : Exit → Act → World → Prop) (T : List Nat) (Pn : List Prm) (Γ : Env) (w : World) : Prop :=
  ∀ fuel listed a, Inv P n ops T Pn Γ w listed a → ((List.range ops.size).filter fun i => !listed.getD i false).length ≤ fuel → wpAny P .any ops Q fuel listed a w
end

section
variable {P : Program} {n : Nat} {ops : Array Oper} {Q : Exit → Act → World → Prop} {T : List Nat} {Pn : List Prm} {Γ : Env} {w : World} {listed : Array Bool} {a : Act}

theorem regOk_noSelect (h : regOk ops = true) : Region.noSelect ops = true := by simp only [regOk, Bool.and_eq_true] at h; exact h.1
theorem regOk_lt (h : regOk ops = true) {k i : Nat} (hk : k < ops.size) (hi : i ∈ preds ops k) : i < k := by
  simp only [regOk, Bool.and_eq_true, List.all_eq_true, List.mem_range] at h
  exact of_eq_true (Eq.trans Nat.blt_eq.symm (eq_true ((h.2 k hk).1 i hi)))
theorem regOk_dst (h : regOk ops = true) {k i d : Nat} (hk : k < ops.size) (hi : i < ops.size) (hne : i ≠ k) (hd : dstOf ops i = some d) : dstOf ops k ≠ some d ∧ (d ∈ looks ops k → i ∈ preds ops k ∨ k ∈ preds ops i) := by
  simp only [regOk, Bool.and_eq_true, List.all_eq_true, List.mem_range] at h
  have h1 := (h.2 k hk).2 i hi
  simp only [hd, Bool.or_eq_true, beq_iff_eq, hne, false_or, Bool.and_eq_true, bne_iff_ne, ne_eq, Bool.not_eq_true', List.contains_eq_mem, decide_eq_true_eq, decide_eq_false_iff_not] at h1
  exact ⟨h1.1, fun hm => by rcases h1.2 with (h2 | h2) | h2; exact absurd hm h2; exact .inl h2; exact .inr h2⟩
theorem dst_lt {k d : Nat} (h : dstOf ops k = some d) : k < ops.size := by
  unfold dstOf at h
  rcases Nat.lt_or_ge k ops.size with h1 | h1
  · exact h1
  · simp [Array.getElem?_eq_none h1] at h

theorem ready_iff (hl : listed.size = ops.size) {j : Nat} : j ∈ Region.ready .any ops listed ↔ j < ops.size ∧ listed.getD j false = false ∧ ∀ i, i ∈ preds ops j → listed.getD i false = true := by
  rw [mem_ready]
  constructor
  · rintro ⟨h0, o, ho, hall⟩
    have hj := (Array.getElem?_eq_some_iff.1 ho).1
    refine ⟨hj, ?_, fun i hi => ?_⟩
    · rw [Array.getD_eq_getD_getElem?] at h0 ⊢
      rw [Array.getElem?_eq_getElem (by omega)] at h0 ⊢
      simpa using h0
    · simp only [preds, ho, List.mem_map, List.mem_filter] at hi
      obtain ⟨e, ⟨he, hb⟩, rfl⟩ := hi
      exact hall e (by simpa using he) hb
  · rintro ⟨hj, h0, hall⟩
    refine ⟨?_, ops[j], Array.getElem?_eq_getElem hj, fun e he hb => ?_⟩
    · rw [Array.getD_eq_getD_getElem?] at h0 ⊢
      rw [Array.getElem?_eq_getElem (by omega)] at h0 ⊢
      simpa using h0
    · refine hall _ ?_
      simp only [preds, Array.getElem?_eq_getElem hj, List.mem_map, List.mem_filter]
      exact ⟨e, ⟨by simpa using he, hb⟩, rfl⟩

theorem getD_setF {i j : Nat} (hi : i < listed.size) : (listed.setIfInBounds i true).getD j false = if i = j then true else listed.getD j false := by
  by_cases h : i = j
  · subst h; simp [hi]
  · simp [h, Array.getElem?_setIfInBounds_ne h]

/-- Among those that have not come up one may come up. -/
theorem ready_some (hok : regOk ops = true) (hl : listed.size = ops.size) {i : Nat} (hi : i < ops.size) (hu : listed.getD i false = false) : ∃ j, j ∈ Region.ready .any ops listed := by
  induction i using Nat.strongRecOn with
  | _ i ih =>
    by_cases h : ∀ j, j ∈ preds ops i → listed.getD j false = true
    · exact ⟨i, (ready_iff hl).2 ⟨hi, hu, h⟩⟩
    · have : ∃ j, j ∈ preds ops i ∧ listed.getD j false = false := by
        false_or_by_contra
        rename_i hc
        refine h (fun j hj => ?_)
        cases hx : listed.getD j false
        · exact absurd ⟨j, hj, hx⟩ hc
        · rfl
      obtain ⟨j, hj, hx⟩ := this
      have hlt := regOk_lt hok hi hj
      exact ih j hlt (by omega) hx

theorem count_set {i : Nat} (hi : i < ops.size) (hl : listed.size = ops.size) (hu : listed.getD i false = false) {fuel : Nat} (hf : ((List.range ops.size).filter fun j => !listed.getD j false).length ≤ fuel + 1) :
    ((List.range ops.size).filter fun j => !(listed.setIfInBounds i true).getD j false).length ≤ fuel := by
  have hmem : i ∈ (List.range ops.size).filter fun j => !listed.getD j false := by simp only [List.mem_filter, List.mem_range]; exact ⟨hi, by rw [hu]; rfl⟩
  have heq : ((List.range ops.size).filter fun j => !(listed.setIfInBounds i true).getD j false) = ((List.range ops.size).filter fun j => !listed.getD j false).filter (fun j => j != i) := by
    rw [List.filter_filter]
    apply List.filter_congr
    intro j _
    rw [getD_setF (by omega)]
    by_cases h : i = j
    · subst h; simp
    · simp [h, Ne.symm h]
  have hlt : (((List.range ops.size).filter fun j => !listed.getD j false).filter (fun j => j != i)).length < ((List.range ops.size).filter fun j => !listed.getD j false).length := by
    rcases Nat.lt_or_ge (((List.range ops.size).filter fun j => !listed.getD j false).filter (fun j => j != i)).length ((List.range ops.size).filter fun j => !listed.getD j false).length with h | h
    · exact h
    · have := List.length_filter_eq_length_iff.1 (Nat.le_antisymm (List.length_filter_le _ _) h) i hmem
      simp at this
  rw [heq]; omega

/-- What the slots that an operation looks at tell is enough. -/
theorem exec_of {o : Oper} (hs : ∀ cs b, o.op ≠ .select cs b) {k : Nat} (ho : ops[k]? = some o) {a : Act} (h : ∀ t u, t ∈ looks ops k → look Γ t = some u → a.tmps.getD t undef = u) : ∃ ρ, AgR ρ Γ ∧ execOp a.eval o = execOp ρ o := by
  refine ⟨fun x => (ev Γ x).getD (a.eval x), fun x v e => by simp [e], execOp_congr o hs fun x hx => ?_⟩
  cases hv : ev Γ x with
  | none => simp
  | some u =>
    cases x with
    | tmp t =>
      simp only [Option.getD_some]
      refine h t u ?_ hv
      simp only [looks, ho, Oper.looksAt]
      exact List.mem_append_left _ (List.mem_filterMap.2 ⟨.tmp t, by simpa using hx, rfl⟩)
    | const c => simpa [ev, Act.eval] using hv
    | global g => simpa [ev, Act.eval] using hv
    | func f => simpa [ev, Act.eval] using hv

/-- A promised operation comes up. -/
theorem Inv.run (hok : regOk ops = true) (h : Inv P n ops T Pn Γ w listed a) {p : Prm} (hp : p ∈ Pn) (hr : p.k ∈ Region.ready .any ops listed) :
    ∃ o d, ops[p.k]? = some o ∧ o.dst = some d ∧ Inv P n ops T Pn Γ w (listed.setIfInBounds p.k true) (a.put (some d) p.v) ∧
      ((Region.wanted o (yielded ops a.tmps) = true ∧ ∀ next Q, next (a.put o.dst p.v) w → o.wp P a w next Q) ∨ (Region.wanted o (yielded ops a.tmps) = false ∧ p.v = undef)) := by
  obtain ⟨hk, hu, hall⟩ := (ready_iff h.lsize).1 hr
  obtain ⟨hT, hpr⟩ := h.prom p hp
  obtain ⟨hC, hd, Γk, hy, hsl⟩ := hpr hu
  obtain ⟨o, ho, hres⟩ := hy w hC a (fun t u ht hl => (hsl t u ht hl).2 fun q _ h2 h5 _ => by rw [hall q.k h5] at h2; cases h2)
  cases hdst : dstOf ops p.k with
  | none => rw [hdst] at hd; simp at hd
  | some d =>
    have hod : o.dst = some d := by simpa [dstOf, ho] using hdst
    have hdn : d < n := by rw [hdst] at hd; simpa using hd
    refine ⟨o, d, ho, hod, ?_, hres⟩
    have hkl : p.k < listed.size := by rw [h.lsize]; exact hk
    have hput : ∀ t, (a.put (some d) p.v).tmps.getD t undef = if d = t then p.v else a.tmps.getD t undef := fun t => by
      by_cases e : d = t
      · subst e; simp [Act.put, Array.getD_eq_getD_getElem?, h.size, hdn]
      · simp [Act.put, Array.getD_eq_getD_getElem?, e]
    have hunl : ∀ j, (listed.setIfInBounds p.k true).getD j false = false → p.k ≠ j ∧ listed.getD j false = false := fun j hj => by
      rw [getD_setF hkl] at hj
      split at hj
      · cases hj
      · rename_i e; exact ⟨e, hj⟩
    refine ⟨by simp [h.lsize], by simp [Act.put, h.size], by simp [Act.put, h.defers], h.closedT, fun i hi j hj => ?_, fun i hi => ?_, fun t v hv => ⟨fun q hq huq hdq => ?_, fun hno => ?_⟩, fun i hi hui => h.pend i hi (hunl i hui).2, fun q hq => ⟨(h.prom q hq).1, fun huq => ?_⟩, h.one⟩
    · rw [getD_setF hkl] at hi ⊢
      split
      · rfl
      · split at hi
        · rename_i e; subst e; exact hall j hj
        · exact h.closedL i hi j hj
    · rw [getD_setF hkl] at hi
      split at hi
      · rename_i e; subst e; exact hT
      · exact h.taken i hi
    · exact (h.slot t v hv).1 q hq (hunl _ huq).2 hdq
    · rw [hput]
      by_cases e : d = t
      · rw [if_pos e]; exact (h.slot t v hv).1 p hp hu (e ▸ hdst)
      · rw [if_neg e]
        refine (h.slot t v hv).2 fun q hq huq hdq => ?_
        by_cases e2 : p.k = q.k
        · rw [← e2, hdst] at hdq; injection hdq; contradiction
        · exact hno q hq (by rw [getD_setF hkl, if_neg e2]; exact huq) hdq
    · obtain ⟨hne, huq⟩ := hunl _ huq
      obtain ⟨hqT, hq2⟩ := h.prom q hq
      obtain ⟨hqC, hqd, Γq, hqy, hqs⟩ := hq2 huq
      refine ⟨hqC, hqd, Γq, hqy, fun t u ht hl => ⟨fun r hr' hur hdr hpr' => (hqs t u ht hl).1 r hr' (hunl _ hur).2 hdr hpr', fun hno => ?_⟩⟩
      rw [hput]
      have hqk : q.k < ops.size := by cases hx : dstOf ops q.k with | none => rw [hx] at hqd; simp at hqd | some x => exact dst_lt hx
      by_cases e : d = t
      · rw [if_pos e]
        subst e
        rcases (regOk_dst hok hqk hk hne hdst).2 ht with h6 | h6
        · exact (hqs d u ht hl).1 p hp hu hdst h6
        · rw [hall q.k h6] at huq; cases huq
      · rw [if_neg e]
        refine (hqs t u ht hl).2 fun r hr' hur hpr' hdr => ?_
        by_cases e2 : p.k = r.k
        · rw [← e2, hdst] at hdr; injection hdr; contradiction
        · exact hno r hr' (by rw [getD_setF hkl, if_neg e2]; exact hur) hpr' hdr

/-- Is it wanted, by what is known? -/
def wantG (ops : Array Oper) (Γ : Env) (o : Oper) : Option Bool :=
  match o.guard with
  | none => some true
  | some (j, want) => match dstOf ops j with
    | some t => match look Γ t with
      | some (.bool b) => some (b == want)
      | some (.tuple vs) => if vs.size = 0 then some false else none
      | _ => none
    | none => none
theorem wantG_of {o : Oper} {k : Nat} (ho : ops[k]? = some o) {c : Bool} (h : wantG ops Γ o = some c) {a : Act} (ha : ∀ t u, t ∈ looks ops k → look Γ t = some u → a.tmps.getD t undef = u) : Region.wanted o (yielded ops a.tmps) = c := by
  unfold wantG at h
  unfold Region.wanted
  split at h
  · rename_i hg; rw [hg]; simpa using h
  · rename_i j want hg
    rw [hg]
    split at h
    · rename_i t ht
      split at h
      · rename_i b hb
        have hm : t ∈ looks ops k := by
          simp only [looks, ho, Oper.looksAt, hg]
          exact List.mem_append_right _ (by rw [show ((ops[j]?).bind (·.dst)) = some t from ht]; simp)
        have h1 := ha t _ hm hb
        have : yielded ops a.tmps j = some b := by
          unfold yielded
          rw [show ((ops[j]?).bind (·.dst)) = some t from ht]
          rw [Array.getD_eq_getD_getElem?] at h1
          simp only [Option.bind_some]
          cases hx : a.tmps[t]? with
          | none => rw [hx] at h1; simp [undef] at h1
          | some u => rw [hx] at h1; simp at h1; subst h1; rfl
        simp only [this]
        injection h
      · rename_i vs hb
        have hm : t ∈ looks ops k := by
          simp only [looks, ho, Oper.looksAt, hg]
          exact List.mem_append_right _ (by rw [show ((ops[j]?).bind (·.dst)) = some t from ht]; simp)
        have h1 := ha t _ hm hb
        split at h
        case isFalse => cases h
        have : yielded ops a.tmps j = none := by
          unfold yielded
          rw [show ((ops[j]?).bind (·.dst)) = some t from ht]
          rw [Array.getD_eq_getD_getElem?] at h1
          simp only [Option.bind_some]
          cases hx : a.tmps[t]? with
          | none => rfl
          | some u => rw [hx] at h1; simp at h1; subst h1; rfl
        simp only [this]
        injection h
      · cases h
    · cases h

/-- THE REGION: nothing has been taken yet. -/
theorem W.regionD {id : Nat} {l : List Oper} (hm : P.follows .mixedOrders = true) (hok : regOk l.toArray = true) (h : regOk l.toArray = true → ∀ w', Keep [] w w' → WD P n l.toArray Q [] [] Γ w') : W P n (.region id l.toArray true) Q Γ w := by
  intro a ha
  refine wp_region_any hm (h hok { w with drawn := w.drawn + 1 } (Keep.of_drawn _ _) _ _ _ ?_ ?_)
  · have hl : ∀ i, (Array.replicate l.toArray.size false).getD i false = false := fun i => by
      rw [Array.getD_eq_getD_getElem?, Array.getElem?_replicate]; split <;> rfl
    exact ⟨by simp, ha.size, ha.defers, by simp, (fun i hi => by rw [hl] at hi; cases hi), (fun i hi => by rw [hl] at hi; cases hi), fun t v hv => ⟨by simp, fun _ => ha.slot t v hv⟩, by simp, by simp, by simp⟩
  · refine Nat.le_trans (List.length_filter_le _ _) (by simp)

/-- A quiet operation is taken. -/
theorem WD.take (hok : regOk ops = true) (k : Nat) {o : Oper} {d : Nat} (v : Value) (C : World → Prop) (ho : ops[k]? = some o) (hd : o.dst = some d) (hdn : Nat.blt d n = true) (hT : T.contains k = false) (hpre : (preds ops k).all T.contains = true)
    (hC : C w) (hy : wantG ops Γ o = some true ∧ (∀ w', C w' → Does P Γ w' o.op o.type fun v' w'' => v' = v ∧ w'' = w') ∨ wantG ops Γ o = some false ∧ v = undef)
    (h : WD P n ops Q (k :: T) (⟨k, v, C⟩ :: Pn) ((d, v) :: Γ) w) : WD P n ops Q T Pn Γ w := by
  intro fuel listed a hi hf
  have hdst : dstOf ops k = some d := by simp [dstOf, ho, hd]
  have hkT : k ∉ T := by simpa using hT
  have hpre' : ∀ j, j ∈ preds ops k → j ∈ T := by simpa using hpre
  have hdn' : d < n := of_eq_true (Eq.trans Nat.blt_eq.symm (eq_true hdn))
  have hku : listed.getD k false = false := by cases hx : listed.getD k false; rfl; exact absurd (hi.taken k hx) hkT
  have hPk : ∀ p, p ∈ Pn → p.k ≠ k := fun p hp e => hkT (e ▸ (hi.prom p hp).1)
  have hPlt : ∀ p, p ∈ Pn → listed.getD p.k false = false → p.k < ops.size := fun p hp hu => by
    obtain ⟨_, hd', _⟩ := (hi.prom p hp).2 hu
    cases hx : dstOf ops p.k with | none => rw [hx] at hd'; simp at hd' | some x => exact dst_lt hx
  have hklt := dst_lt hdst
  refine h fuel listed a ⟨hi.lsize, hi.size, hi.defers, fun i hi' j hj => ?_, hi.closedL, fun i hi' => List.mem_cons_of_mem _ (hi.taken i hi'), fun t u hu => ⟨fun p hp hup hdp => ?_, fun hno => ?_⟩, fun i hi' hui => ?_, fun p hp => ⟨?_, fun hup => ?_⟩, fun p hp q hq e => ?_⟩ hf
  · rcases List.mem_cons.1 hi' with rfl | hi'
    · exact List.mem_cons_of_mem _ (hpre' j hj)
    · exact List.mem_cons_of_mem _ (hi.closedT i hi' j hj)
  · rcases List.mem_cons.1 hp with rfl | hp
    · rw [hdst] at hdp; injection hdp with hdp; subst hdp
      rw [look_cons_eq] at hu; injection hu
    · by_cases e : d = t
      · subst e
        exact absurd hdp (regOk_dst hok (hPlt p hp hup) hklt (Ne.symm (hPk p hp)) hdst).1
      · rw [look_cons_ne _ _ e] at hu; exact (hi.slot t u hu).1 p hp hup hdp
  · by_cases e : d = t
    · subst e; exact absurd hdst (hno ⟨k, v, C⟩ (by simp) hku)
    · rw [look_cons_ne _ _ e] at hu
      exact (hi.slot t u hu).2 fun p hp => hno p (List.mem_cons_of_mem _ hp)
  · rcases List.mem_cons.1 hi' with rfl | hi'
    · exact ⟨⟨i, v, C⟩, by simp, rfl⟩
    · obtain ⟨p, hp, e⟩ := hi.pend i hi' hui
      exact ⟨p, List.mem_cons_of_mem _ hp, e⟩
  · rcases List.mem_cons.1 hp with rfl | hp
    · simp
    · exact List.mem_cons_of_mem _ (hi.prom p hp).1
  · rcases List.mem_cons.1 hp with rfl | hp
    · refine ⟨hC, by simp [hdst, hdn'], Γ, fun w' hw' a' ha' => ⟨o, ho, ?_⟩, fun t u ht hl => ⟨fun q hq huq hdq hqp => ?_, fun hno => ?_⟩⟩
      · rcases hy with ⟨hw, hy⟩ | ⟨hw, hv⟩
        case inr => exact .inr ⟨wantG_of ho hw ha', hv⟩
        refine .inl ⟨wantG_of ho hw ha', ?_⟩
        obtain ⟨ρ, hρ, he⟩ := exec_of (Γ := Γ) (fun cs b => Region.noSelect_spec (regOk_noSelect hok) k o cs b ho) ho ha'
        exact fun next Q hn => (hy w' hw').wpR hρ he fun v' w'' ⟨e1, e2⟩ => by rw [e1, e2]; exact hn
      · rcases List.mem_cons.1 hq with rfl | hq
        · have := regOk_lt hok hklt hqp; simp at this
        · exact (hi.slot t u hl).1 q hq huq hdq
      · refine (hi.slot t u hl).2 fun q hq huq hdq => ?_
        have hqT := (hi.prom q hq).1
        rcases (regOk_dst hok hklt (hPlt q hq huq) (hPk q hq) hdq).2 ht with h6 | h6
        · exact hno q (List.mem_cons_of_mem _ hq) huq h6 hdq
        · exact hkT (hi.closedT q.k hqT k h6)
    · obtain ⟨h1, h2, Γk, h3, h4⟩ := (hi.prom p hp).2 hup
      refine ⟨h1, h2, Γk, h3, fun t u ht hl => ⟨fun q hq huq hdq hqp => ?_, fun hno => (h4 t u ht hl).2 fun q hq => hno q (List.mem_cons_of_mem _ hq)⟩⟩
      rcases List.mem_cons.1 hq with rfl | hq
      · exact absurd (hi.closedT p.k (hi.prom p hp).1 k hqp) hkT
      · exact (h4 t u ht hl).1 q hq huq hdq hqp
  · rcases List.mem_cons.1 hp with rfl | hp <;> rcases List.mem_cons.1 hq with rfl | hq
    · rfl
    · exact absurd e.symm (hPk q hq)
    · exact absurd e (hPk p hp)
    · exact hi.one p hp q hq e

/-- What is promised comes up, whenever it may. -/
theorem drain (hok : regOk ops = true)
    (hrest : ∀ fuel listed a, Inv P n ops T Pn Γ w listed a → ((List.range ops.size).filter fun i => !listed.getD i false).length ≤ fuel + 1 → ∀ j, j ∈ Region.ready .any ops listed → j ∉ T → wpOp P ops Q j (wpAny P .any ops Q fuel (listed.setIfInBounds j true)) a w)
    (hend : ∀ listed a, Inv P n ops T Pn Γ w listed a → (∀ i, i < ops.size → listed.getD i false = true) → Q .normal a w) : WD P n ops Q T Pn Γ w := by
  intro fuel
  induction fuel with
  | zero =>
    intro listed a hi hf
    have hall : ∀ i, i < ops.size → listed.getD i false = true := fun i hlt => by
      cases hx : listed.getD i false with
      | true => rfl
      | false =>
        have : i ∈ (List.range ops.size).filter fun i => !listed.getD i false := by simp only [List.mem_filter, List.mem_range]; exact ⟨hlt, by rw [hx]; rfl⟩
        have := List.length_pos_of_mem this
        omega
    refine ⟨?_, hend listed a hi hall⟩
    rw [List.eq_nil_iff_forall_not_mem]
    intro j hj
    obtain ⟨h1, h2, _⟩ := (ready_iff hi.lsize).1 hj
    rw [hall j h1] at h2; cases h2
  | succ fuel ih =>
    intro listed a hi hf
    refine ⟨fun hr => hend listed a hi fun i hlt => ?_, fun j hj => ?_⟩
    · cases hx : listed.getD i false with
      | true => rfl
      | false =>
        obtain ⟨j, hj⟩ := ready_some hok hi.lsize hlt hx
        rw [hr] at hj; cases hj
    · by_cases hT : j ∈ T
      · obtain ⟨h1, h2, _⟩ := (ready_iff hi.lsize).1 hj
        obtain ⟨p, hp, rfl⟩ := hi.pend j hT h2
        obtain ⟨o, d, ho, hd, hi', hres⟩ := hi.run hok hp hj
        have hk := ih (listed.setIfInBounds p.k true) (a.put (some d) p.v) hi' (count_set h1 hi.lsize h2 hf)
        unfold wpOp
        rw [ho]
        rcases hres with ⟨hw, hr⟩ | ⟨hw, hv⟩
        · simp only [hw, if_true]
          exact .inl (hr _ _ (by rw [hd]; exact hk))
        · simp only [hw, Bool.false_eq_true, if_false]
          rw [hd, ← hv]; exact hk
      · exact hrest fuel listed a hi hf j hj hT

/-- All are taken. -/
theorem WD.done (hok : regOk ops = true) (hall : (List.range ops.size).all T.contains = true) (h : X n Q .normal Γ w) : WD P n ops Q T Pn Γ w := by
  have hall' : ∀ i, i < ops.size → i ∈ T := by simpa using hall
  refine drain hok (fun fuel listed a hi _ j hj hT => absurd (hall' j ((ready_iff hi.lsize).1 hj).1) hT) fun listed a hi hl => h a ⟨hi.size, hi.defers, fun t v hv => (hi.slot t v hv).2 fun p hp hup hdp => ?_⟩
  rw [hl p.k (dst_lt hdp)] at hup; cases hup

/-- The ways part at what a slot holds. -/
theorem WD.part (t : Nat) {p : Prop} [Decidable p] (ht : look Γ t = some (.bool (decide p))) (h1 : p → WD P n ops Q T Pn ((t, .bool true) :: Γ) w) (h2 : ¬ p → WD P n ops Q T Pn ((t, .bool false) :: Γ) w) : WD P n ops Q T Pn Γ w := by
  intro fuel listed a hi hf
  have key : ∀ b, decide p = b → Inv P n ops T Pn ((t, .bool b) :: Γ) w listed a := fun b hb => by
    refine ⟨hi.lsize, hi.size, hi.defers, hi.closedT, hi.closedL, hi.taken, fun u v hv => hi.slot u v ?_, hi.pend, hi.prom, hi.one⟩
    by_cases e : t = u
    · subst e; rw [look_cons_eq] at hv; rw [ht, hb]; exact hv
    · rwa [look_cons_ne _ _ e] at hv
  by_cases hp : p
  · exact h1 hp fuel listed a (key true (by simp [hp])) hf
  · exact h2 hp fuel listed a (key false (by simp [hp])) hf

/-- All that one waits for, through others too. -/
def ancs (ops : Array Oper) (j : Nat) : List Nat := (List.range j).reverse.foldl (fun S i => if (j :: S).any (fun s => (preds ops s).contains i) then i :: S else S) []
theorem ancs_listed {j : Nat} (hj : ∀ i, i ∈ preds ops j → listed.getD i false = true) (hc : ∀ i, listed.getD i false = true → ∀ k, k ∈ preds ops i → listed.getD k false = true) : ∀ i, i ∈ ancs ops j → listed.getD i false = true := by
  unfold ancs
  have : ∀ (l S : List Nat), (∀ i, i ∈ S → listed.getD i false = true) → ∀ i, i ∈ l.foldl (fun S i => if (j :: S).any (fun s => (preds ops s).contains i) then i :: S else S) S → listed.getD i false = true := by
    intro l
    induction l with
    | nil => intro S hS i hi; exact hS i hi
    | cons x l ih =>
      intro S hS i hi
      simp only [List.foldl_cons] at hi
      refine ih _ ?_ i hi
      intro k hk
      split at hk
      · rename_i hx
        rcases List.mem_cons.1 hk with rfl | hk
        · simp only [List.any_cons, Bool.or_eq_true, List.any_eq_true, List.contains_eq_mem, decide_eq_true_eq] at hx
          rcases hx with hx | ⟨s, hs, hx⟩
          · exact hj k hx
          · exact hc s (hS s hs) k hx
        · exact hS k hk
      · exact hS k hk
  exact this _ [] (by simp)

def putG (Γ : Env) (d : Option Tmp) (v : Value) : Env := match d with | some d => (d, v) :: Γ | none => Γ
def Still (w : World) : List Prm → Prop
  | [] => True
  | p :: r => p.C w ∧ Still w r
theorem Still.at {w : World} : ∀ {l : List Prm}, Still w l → ∀ p, p ∈ l → p.C w
  | _ :: _, h, p, hp => by rcases List.mem_cons.1 hp with rfl | hp; exact h.1; exact Still.at h.2 p hp

/-- Operation j is carried out, and what is promised still holds. -/
def Loud (P : Program) (n : Nat) (ops : Array Oper) (Q : Exit → Act → World → Prop) (T : List Nat) (Pn : List Prm) (Γ : Env) (w : World) (j : Nat) : Prop :=
  ∃ o Pn', ops[j]? = some o ∧ T.contains j = false ∧ (preds ops j).all T.contains = true ∧ (match o.dst with | some d => Nat.blt d n | none => true) = true ∧ wantG ops Γ o = some true ∧
    Pn.filter (fun p => !(ancs ops j).contains p.k) = Pn' ∧ Does P Γ w o.op o.type fun v w' => Still w' Pn' ∧ WD P n ops Q (j :: T) Pn' (putG Γ o.dst v) w'
/-- The operations that may come up beside what is promised. -/
theorem WD.louds (hok : regOk ops = true) (js : List Nat) (hne : js.isEmpty = false)
    (honly : ((List.range ops.size).all fun i => js.contains i || T.contains i || !((preds ops i).all T.contains)) = true) (h : ∀ j, j ∈ js → Loud P n ops Q T Pn Γ w j) : WD P n ops Q T Pn Γ w := by
  refine drain hok (fun fuel listed a hi hf i hir hiT => ?_) (fun listed a hi hl => ?_)
  case refine_2 =>
    cases js with
    | nil => simp at hne
    | cons j js =>
      obtain ⟨o, Pn', ho, hT, _⟩ := h j (by simp)
      exact absurd (hi.taken j (hl j (Array.getElem?_eq_some_iff.1 ho).1)) (by simpa using hT)
  obtain ⟨hilt, hiu, hip⟩ := (ready_iff hi.lsize).1 hir
  have hij : i ∈ js := by
    have h1 := List.all_eq_true.1 honly i (by simpa using hilt)
    simp only [Bool.or_eq_true, List.contains_eq_mem, decide_eq_true_eq, Bool.not_eq_true'] at h1
    rcases h1 with (h1 | h1) | h1
    · exact h1
    · exact absurd h1 hiT
    · have : (preds ops i).all T.contains = true := by simp only [List.all_eq_true, List.contains_eq_mem, decide_eq_true_eq]; exact fun k hk => hi.taken k (hip k hk)
      exact absurd this (by rw [h1]; simp)
  obtain ⟨o, Pn', ho, hT, hpre, hdn, hw, hP, h⟩ := h i hij
  have hjT : i ∉ T := by simpa using hT
  have hpre' : ∀ k, k ∈ preds ops i → k ∈ T := by simpa using hpre
  have hmemP : ∀ p, p ∈ Pn' ↔ p ∈ Pn ∧ p.k ∉ ancs ops i := fun p => by rw [← hP]; simp
  have hanc := ancs_listed hip hi.closedL
  have hil : i < listed.size := by rw [hi.lsize]; exact hilt
  have hpl : ∀ p, p ∈ Pn → p.k ≠ i := fun p hp e => hjT (e ▸ (hi.prom p hp).1)
  have hdlt : ∀ p, p ∈ Pn → listed.getD p.k false = false → p.k < ops.size := fun p hp hu => by
    obtain ⟨_, hd', _⟩ := (hi.prom p hp).2 hu
    cases hx : dstOf ops p.k with | none => rw [hx] at hd'; simp at hd' | some x => exact dst_lt hx
  have hag : ∀ t u, t ∈ looks ops i → look Γ t = some u → a.tmps.getD t undef = u := fun t u ht hl => (hi.slot t u hl).2 fun p hp hup hdp => by
    rcases (regOk_dst hok hilt (hdlt p hp hup) (hpl p hp) hdp).2 ht with h6 | h6
    · rw [hip p.k h6] at hup; cases hup
    · exact hjT (hi.closedT p.k (hi.prom p hp).1 i h6)
  have hwant := wantG_of ho hw hag
  obtain ⟨ρ, hρ, he⟩ := exec_of (Γ := Γ) (fun cs b => Region.noSelect_spec (regOk_noSelect hok) i o cs b ho) ho hag
  unfold wpOp
  rw [ho]
  simp only [hwant, if_true]
  refine .inl (h.wpR hρ he fun v w' ⟨hst, hk⟩ => hk fuel _ _ ?_ (count_set hilt hi.lsize hiu hf))
  have hunl : ∀ k, (listed.setIfInBounds i true).getD k false = false → i ≠ k ∧ listed.getD k false = false := fun k hk => by
    rw [getD_setF hil] at hk
    split at hk
    · cases hk
    · rename_i e; exact ⟨e, hk⟩
  have hput : ∀ t, (a.put o.dst v).tmps.getD t undef = if o.dst = some t then v else a.tmps.getD t undef := fun t => by
    cases hx : o.dst with
    | none => simp [Act.put]
    | some d =>
      have hdn' : d < n := by rw [hx] at hdn; exact of_eq_true (Eq.trans Nat.blt_eq.symm (eq_true hdn))
      by_cases e : d = t
      · subst e; simp [Act.put, Array.getD_eq_getD_getElem?, hi.size, hdn']
      · simp [Act.put, Array.getD_eq_getD_getElem?, e]
  have hdi : dstOf ops i = o.dst := by simp [dstOf, ho]
  refine ⟨by simp [hi.lsize], by cases o.dst <;> simp [Act.put, hi.size], by cases o.dst <;> simp [Act.put, hi.defers], fun k hk m hm => ?_, fun k hk m hm => ?_, fun k hk => ?_, fun t u hu => ?_, fun k hk hku => ?_, fun p hp => ⟨List.mem_cons_of_mem _ (hi.prom p ((hmemP p).1 hp).1).1, fun hup => ?_⟩, fun p hp q hq => hi.one p ((hmemP p).1 hp).1 q ((hmemP q).1 hq).1⟩
  · rcases List.mem_cons.1 hk with rfl | hk
    · exact List.mem_cons_of_mem _ (hpre' m hm)
    · exact List.mem_cons_of_mem _ (hi.closedT k hk m hm)
  · rw [getD_setF hil] at hk ⊢
    split
    · rfl
    · split at hk
      · rename_i e; subst e; exact hip m hm
      · exact hi.closedL k hk m hm
  · rw [getD_setF hil] at hk
    split at hk
    · rename_i e; subst e; simp
    · exact List.mem_cons_of_mem _ (hi.taken k hk)
  · rw [hput]
    by_cases e : o.dst = some t
    · rw [if_pos e]
      have : look (putG Γ o.dst v) t = some v := by rw [e]; exact look_cons_eq _ _ _
      rw [this] at hu; injection hu with hu
      refine ⟨fun p hp hup hdp => ?_, fun _ => hu⟩
      have hp1 := ((hmemP p).1 hp).1
      exact absurd (hdi.trans e) (fun e2 => (regOk_dst hok (hdlt p hp1 (hunl _ hup).2) hilt (Ne.symm (hpl p hp1)) e2).1 hdp)
    · rw [if_neg e]
      have : look (putG Γ o.dst v) t = look Γ t := by
        cases hx : o.dst with
        | none => rfl
        | some d => exact look_cons_ne _ _ (fun e2 => e (by rw [hx, e2]))
      rw [this] at hu
      refine ⟨fun p hp hup hdp => (hi.slot t u hu).1 p ((hmemP p).1 hp).1 (hunl _ hup).2 hdp, fun hno => (hi.slot t u hu).2 fun p hp hup hdp => ?_⟩
      refine hno p ((hmemP p).2 ⟨hp, fun ha => by rw [hanc _ ha] at hup; cases hup⟩) ?_ hdp
      rw [getD_setF hil, if_neg (Ne.symm (hpl p hp))]; exact hup
  · obtain ⟨hne, hku⟩ := hunl _ hku
    rcases List.mem_cons.1 hk with rfl | hk
    · exact absurd rfl hne
    · obtain ⟨p, hp, rfl⟩ := hi.pend k hk hku
      exact ⟨p, (hmemP p).2 ⟨hp, fun ha => by rw [hanc _ ha] at hku; cases hku⟩, rfl⟩
  · obtain ⟨hp1, hp2⟩ := (hmemP p).1 hp
    obtain ⟨hne, hup⟩ := hunl _ hup
    obtain ⟨_, h2, Γk, h3, h4⟩ := (hi.prom p hp1).2 hup
    refine ⟨hst.at p hp, h2, Γk, h3, fun t u ht hl => ⟨fun q hq huq hdq hqp => (h4 t u ht hl).1 q ((hmemP q).1 hq).1 (hunl _ huq).2 hdq hqp, fun hno => ?_⟩⟩
    rw [hput]
    have hne' : o.dst ≠ some t := fun e => by
      rcases (regOk_dst hok (hdlt p hp1 hup) hilt hne (hdi.trans e)).2 ht with h6 | h6
      · exact hjT (hi.closedT p.k (hi.prom p hp1).1 i h6)
      · rw [hip p.k h6] at hup; cases hup
    rw [if_neg hne']
    refine (h4 t u ht hl).2 fun q hq huq hqp hdq => ?_
    refine hno q ((hmemP q).2 ⟨hq, fun ha => by rw [hanc _ ha] at huq; cases huq⟩) ?_ hqp hdq
    rw [getD_setF hil, if_neg (Ne.symm (hpl q hq))]; exact huq
/-- The one operation that may come up beside what is promised. -/
theorem WD.loud (hok : regOk ops = true) (j : Nat) (honly : ((List.range ops.size).all fun i => [j].contains i || T.contains i || !((preds ops i).all T.contains)) = true) (h : Loud P n ops Q T Pn Γ w j) : WD P n ops Q T Pn Γ w :=
  WD.louds hok [j] rfl honly (fun i hi => by simp only [List.mem_singleton] at hi; subst hi; exact h)
end
end Go.Sx
