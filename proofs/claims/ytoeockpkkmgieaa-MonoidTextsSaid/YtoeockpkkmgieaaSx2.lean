/- Walks over what is known of the slots: the judgements. -/
import Derived.Test.YtoeockpkkmgieaaSx1
namespace Go.Sx
set_option linter.unusedVariables false
set_option linter.unusedSimpArgs false

abbrev Env := List (Nat × Value)
/-- What is known of a slot; the newest word counts. -/
def look : Env → Nat → Option Value
  | [], _ => none
  | (k, v) :: r, t => match Nat.beq k t with | true => some v | false => look r t

theorem look_cons_eq (k : Nat) (v : Value) (r : Env) : look ((k, v) :: r) k = some v := by simp [look]
theorem look_cons_ne {k t : Nat} (v : Value) (r : Env) (h : k ≠ t) : look ((k, v) :: r) t = look r t := by
  have : Nat.beq k t = false := by
    cases hb : Nat.beq k t
    · rfl
    · exact absurd (Nat.eq_of_beq_eq_true hb) h
  simp [look, this]

structure Agree (n : Nat) (a : Act) (Γ : Env) : Prop where
  size : a.tmps.size = n
  defers : a.defers = []
  slot : ∀ t v, look Γ t = some v → a.tmps.getD t undef = v

def ev (Γ : Env) : Operand → Option Value
  | .tmp t => look Γ t
  | .const v => some v
  | .global g => some (.pointer (some ⟨g, 0, none⟩))
  | .func f => some (.func (.func f) #[] #[])
def evs (Γ : Env) : List Operand → Option (List Value)
  | [] => some []
  | x :: r => match ev Γ x, evs Γ r with | some v, some l => some (v :: l) | _, _ => none

def AgR (ρ : Operand → Value) (Γ : Env) : Prop := ∀ x v, ev Γ x = some v → ρ x = v
theorem AgR.evs {ρ : Operand → Value} {Γ : Env} (h : AgR ρ Γ) : ∀ (l : List Operand) (vs : List Value), Sx.evs Γ l = some vs → l.map ρ = vs
  | [], vs, e => by simp [Sx.evs] at e; simp [e]
  | x :: r, vs, e => by
    simp only [Sx.evs] at e
    split at e
    · rename_i v l hv hl
      simp only [Option.some.injEq] at e
      subst e
      simp [h x v hv, h.evs r l hl]
    · cases e

theorem Agree.ev {n : Nat} {a : Act} {Γ : Env} (h : Agree n a Γ) : AgR a.eval Γ := by
  intro x v e
  cases x with
  | tmp t => exact h.slot t v e
  | const u => simpa [Sx.ev, Act.eval] using e
  | global g => simpa [Sx.ev, Act.eval] using e
  | func f => simpa [Sx.ev, Act.eval] using e

theorem Agree.put {n : Nat} {a : Act} {Γ : Env} (h : Agree n a Γ) {d : Nat} (hd : Nat.blt d n = true) (v : Value) : Agree n (a.put (some d) v) ((d, v) :: Γ) := by
  have hd' : d < a.tmps.size := by rw [h.size]; exact of_eq_true (Eq.trans Nat.blt_eq.symm (eq_true hd))
  refine ⟨by simp [Act.put, h.size], by simp [Act.put, h.defers], fun t u e => ?_⟩
  by_cases ht : d = t
  · subst ht
    rw [look_cons_eq] at e
    simp only [Option.some.injEq] at e
    subst e
    simp [Act.put, Array.getD_eq_getD_getElem?, hd']
  · rw [look_cons_ne v Γ ht] at e
    have := h.slot t u e
    simp only [Array.getD_eq_getD_getElem?] at this
    simp [Act.put, Array.getD_eq_getD_getElem?, ht, this]
theorem Agree.put0 {n : Nat} {a : Act} {Γ : Env} (h : Agree n a Γ) (v : Value) : Agree n (a.put none v) Γ := h

theorem Agree.sub {n : Nat} {a : Act} {Γ Γ' : Env} (h : Agree n a Γ) (hs : ∀ t v, look Γ' t = some v → look Γ t = some v) : Agree n a Γ' :=
  ⟨h.size, h.defers, fun t v e => h.slot t v (hs t v e)⟩

/-- Just these slots. -/
def pick (Γ : Env) : List Nat → Env
  | [] => []
  | t :: r => match look Γ t with | some v => (t, v) :: pick Γ r | none => pick Γ r
theorem look_pick (Γ : Env) : ∀ (ks : List Nat) (t : Nat) (v : Value), look (pick Γ ks) t = some v → look Γ t = some v
  | [], t, v, e => by simp [pick, look] at e
  | k :: ks, t, v, e => by
    simp only [pick] at e
    split at e
    · rename_i u hu
      by_cases hk : k = t
      · subst hk; rw [look_cons_eq] at e; rw [hu]; exact e
      · rw [look_cons_ne u _ hk] at e; exact look_pick Γ ks t v e
    · exact look_pick Γ ks t v e
theorem Agree.pick {n : Nat} {a : Act} {Γ : Env} (h : Agree n a Γ) (ks : List Nat) : Agree n a (pick Γ ks) := h.sub (look_pick Γ ks)

/-- An operation, by its kind and type alone. -/
def ex (ρ : Operand → Value) (op : Op) (ty : TypeId) : Sem Next := execOp ρ { dst := none, op, type := ty, pos := "", after := #[], guard := none }
theorem ex_eq (ρ : Operand → Value) (d : Option Tmp) (op : Op) (ty : TypeId) (pos : String) (after : Array Edge) (guard : Option (Nat × Bool)) :
    execOp ρ { dst := d, op, type := ty, pos, after, guard } = ex ρ op ty := rfl

def Ret (R : Value → World → Prop) : Ending → World → Prop := fun e w => ∃ v, e = .returned v ∧ R v w
theorem Ret.calls {P : Program} {f : FuncId} {args : Array Value} {w : World} {R R' : Value → World → Prop} (h : Calls P f args w (Ret R)) (k : ∀ v w', R v w' → R' v w') : Calls P f args w (Ret R') :=
  h.mono fun _ w' ⟨v, e, hr⟩ => ⟨v, e, k v w' hr⟩

/-- What an operation does, whatever else the slots hold. -/
def Does (P : Program) (Γ : Env) (w : World) (op : Op) (ty : TypeId) (K : Value → World → Prop) : Prop :=
  ∀ ρ, AgR ρ Γ → match (ex ρ op ty).run P w with
    | .ok (.value v) w' => K v w'
    | .ok .skip w' => K undef w'
    | .ok (.enter f args) w' => Calls P f args w' (Ret K)
    | _ => False
theorem Does.mono {P : Program} {Γ : Env} {w : World} {op : Op} {ty : TypeId} {K K' : Value → World → Prop} (h : Does P Γ w op ty K) (k : ∀ v w', K v w' → K' v w') : Does P Γ w op ty K' := by
  intro ρ hρ
  have := h ρ hρ
  split at this
  · exact k _ _ this
  · exact k _ _ this
  · exact Ret.calls this k
  · exact this.elim
theorem Does.of_run {P : Program} {Γ : Env} {w w' : World} {op : Op} {ty : TypeId} {K : Value → World → Prop} {v : Value} (h : ∀ ρ, AgR ρ Γ → (ex ρ op ty).run P w = .ok (.value v) w') (k : K v w') : Does P Γ w op ty K := by
  intro ρ hρ
  rw [h ρ hρ]
  exact k
theorem Does.of_skip {P : Program} {Γ : Env} {w w' : World} {op : Op} {ty : TypeId} {K : Value → World → Prop} (h : ∀ ρ, AgR ρ Γ → (ex ρ op ty).run P w = .ok .skip w') (k : K undef w') : Does P Γ w op ty K := by
  intro ρ hρ
  rw [h ρ hρ]
  exact k

theorem Does.wpR {P : Program} {Γ : Env} {w : World} {K : Value → World → Prop} {a : Act} {ρ : Operand → Value} {o : Oper} (h : Does P Γ w o.op o.type K) (hρ : AgR ρ Γ) (he : execOp a.eval o = execOp ρ o)
    {next : Act → World → Prop} {Q : Exit → Act → World → Prop} (k : ∀ v w', K v w' → next (a.put o.dst v) w') : Oper.wp P o a w next Q := by
  have := h ρ hρ
  unfold Oper.wp
  rw [he]
  cases o
  rw [ex_eq]
  split at this <;> rename_i hr <;> simp only [hr, Oper.upon]
  · exact k _ _ this
  · exact k _ _ this
  · exact this.mono fun e w' ⟨v, he, hv⟩ => by subst he; exact k v w' hv
  · exact this.elim
theorem Does.wp {P : Program} {Γ : Env} {w : World} {op : Op} {ty : TypeId} {K : Value → World → Prop} (h : Does P Γ w op ty K) {n : Nat} {a : Act} (ha : Agree n a Γ)
    {d : Option Tmp} {pos : String} {after : Array Edge} {guard : Option (Nat × Bool)} {next : Act → World → Prop} {Q : Exit → Act → World → Prop}
    (k : ∀ v w', K v w' → next (a.put d v) w') : Oper.wp P { dst := d, op, type := ty, pos, after, guard } a w next Q := by
  have := h a.eval ha.ev
  unfold Oper.wp
  rw [ex_eq]
  split at this <;> rename_i hr <;> simp only [hr, Oper.upon]
  · exact k _ _ this
  · exact k _ _ this
  · exact this.mono fun e w' ⟨v, he, hv⟩ => by subst he; exact k v w' hv
  · exact this.elim

section
variable (P : Program) (n : Nat)
def W (c : Code) (Q : Exit → Act → World → Prop) (Γ : Env) (w : World) : Prop := ∀ a, Agree n a Γ → c.wp P Q a w
def WL (ops : Array Oper) (Q : Exit → Act → World → Prop) (l : List Oper) (Γ : Env) (w : World) : Prop := ∀ a, Agree n a Γ → wpList P ops Q l a w
def X (Q : Exit → Act → World → Prop) (e : Exit) (Γ : Env) (w : World) : Prop := ∀ a, Agree n a Γ → Q e a w
end

section
variable {P : Program} {n : Nat} {ops : Array Oper} {Q : Exit → Act → World → Prop} {Γ : Env} {w : World} {rest : List Oper}

theorem WL.op {d : Nat} {op : Op} {ty : TypeId} {pos : String} {after : Array Edge} (hd : Nat.blt d n = true)
    (h : Does P Γ w op ty fun v w' => WL P n ops Q rest ((d, v) :: Γ) w') : WL P n ops Q ({ dst := some d, op, type := ty, pos, after, guard := none } :: rest) Γ w :=
  fun a ha => by
    unfold wpList
    rw [if_pos (by rfl)]
    exact .inl (h.wp ha fun v w' k => k _ (ha.put hd v))
theorem WL.op0 {op : Op} {ty : TypeId} {pos : String} {after : Array Edge}
    (h : Does P Γ w op ty fun _ w' => WL P n ops Q rest Γ w') : WL P n ops Q ({ dst := none, op, type := ty, pos, after, guard := none } :: rest) Γ w :=
  fun a ha => by
    unfold wpList
    rw [if_pos (by rfl)]
    exact .inl (h.wp ha fun v w' k => k _ (ha.put0 v))

theorem yielded_of {a : Act} (ha : Agree n a Γ) {j t : Nat} {b : Bool} (hj : (ops[j]?).bind (·.dst) = some t) (hv : look Γ t = some (.bool b)) : yielded ops a.tmps j = some b := by
  have h := ha.slot t _ hv
  rw [Array.getD_eq_getD_getElem?] at h
  unfold yielded
  rw [hj]
  simp only [Option.bind_some]
  cases hx : a.tmps[t]? with
  | none => rw [hx] at h; simp [undef] at h
  | some u => rw [hx] at h; simp at h; subst h; rfl
theorem wanted_of {a : Act} (ha : Agree n a Γ) {o : Oper} {j t : Nat} {want b : Bool} (hg : o.guard = some (j, want)) (hj : (ops[j]?).bind (·.dst) = some t) (hv : look Γ t = some (.bool b)) :
    Region.wanted o (yielded ops a.tmps) = (b == want) := by
  unfold Region.wanted
  rw [hg]
  simp only [yielded_of ha hj hv]
  cases b <;> cases want <;> rfl
theorem wanted_undef {a : Act} (ha : Agree n a Γ) {o : Oper} {j t : Nat} {want : Bool} (hg : o.guard = some (j, want)) (hj : (ops[j]?).bind (·.dst) = some t) (hv : look Γ t = some undef) :
    Region.wanted o (yielded ops a.tmps) = false := by
  have h := ha.slot t _ hv
  rw [Array.getD_eq_getD_getElem?] at h
  have : yielded ops a.tmps j = none := by
    unfold yielded
    rw [hj]
    simp only [Option.bind_some]
    cases hx : a.tmps[t]? with
    | none => rfl
    | some u => rw [hx] at h; simp at h; subst h; rfl
  unfold Region.wanted
  rw [hg]
  simp only [this]
  rfl
theorem WL.opU {d : Nat} {op : Op} {ty : TypeId} {pos : String} {after : Array Edge} {j t : Nat} {want : Bool} (hj : (ops[j]?).bind (·.dst) = some t) (hv : look Γ t = some undef) (hd : Nat.blt d n = true)
    (h : WL P n ops Q rest ((d, undef) :: Γ) w) : WL P n ops Q ({ dst := some d, op, type := ty, pos, after, guard := some (j, want) } :: rest) Γ w :=
  fun a ha => by
    unfold wpList
    rw [if_neg (by rw [wanted_undef ha rfl hj hv]; simp)]
    exact h _ (ha.put hd undef)
theorem WL.opU0 {op : Op} {ty : TypeId} {pos : String} {after : Array Edge} {j t : Nat} {want : Bool} (hj : (ops[j]?).bind (·.dst) = some t) (hv : look Γ t = some undef)
    (h : WL P n ops Q rest Γ w) : WL P n ops Q ({ dst := none, op, type := ty, pos, after, guard := some (j, want) } :: rest) Γ w :=
  fun a ha => by
    unfold wpList
    rw [if_neg (by rw [wanted_undef ha rfl hj hv]; simp)]
    exact h _ ha
theorem WL.opG {d : Nat} {op : Op} {ty : TypeId} {pos : String} {after : Array Edge} {j t : Nat} {want : Bool} (hj : (ops[j]?).bind (·.dst) = some t) (hv : look Γ t = some (.bool want)) (hd : Nat.blt d n = true)
    (h : Does P Γ w op ty fun v w' => WL P n ops Q rest ((d, v) :: Γ) w') : WL P n ops Q ({ dst := some d, op, type := ty, pos, after, guard := some (j, want) } :: rest) Γ w :=
  fun a ha => by
    unfold wpList
    rw [if_pos (by rw [wanted_of ha rfl hj hv]; simp)]
    exact .inl (h.wp ha fun v w' k => k _ (ha.put hd v))
theorem WL.opN {d : Nat} {op : Op} {ty : TypeId} {pos : String} {after : Array Edge} {j t : Nat} {want b : Bool} (hj : (ops[j]?).bind (·.dst) = some t) (hv : look Γ t = some (.bool b)) (hb : (b == want) = false) (hd : Nat.blt d n = true)
    (h : WL P n ops Q rest ((d, undef) :: Γ) w) : WL P n ops Q ({ dst := some d, op, type := ty, pos, after, guard := some (j, want) } :: rest) Γ w :=
  fun a ha => by
    unfold wpList
    rw [if_neg (by rw [wanted_of ha rfl hj hv, hb]; simp)]
    exact h _ (ha.put hd undef)
theorem WL.opN0 {op : Op} {ty : TypeId} {pos : String} {after : Array Edge} {j t : Nat} {want b : Bool} (hj : (ops[j]?).bind (·.dst) = some t) (hv : look Γ t = some (.bool b)) (hb : (b == want) = false)
    (h : WL P n ops Q rest Γ w) : WL P n ops Q ({ dst := none, op, type := ty, pos, after, guard := some (j, want) } :: rest) Γ w :=
  fun a ha => by
    unfold wpList
    rw [if_neg (by rw [wanted_of ha rfl hj hv, hb]; simp)]
    exact h _ (ha.put0 undef)

theorem Agree.bool {a : Act} {t : Nat} {p : Prop} [Decidable p] (ha : Agree n a Γ) (ht : look Γ t = some (.bool (decide p))) {b : Bool} (hb : decide p = b) : Agree n a ((t, .bool b) :: Γ) :=
  ha.sub fun u v e => by
    by_cases hu : t = u
    · subst hu; rw [look_cons_eq] at e; rw [ht, hb]; exact e
    · rwa [look_cons_ne _ _ hu] at e
/-- The ways part at what a slot holds. -/
theorem WL.part {l : List Oper} (t : Nat) {p : Prop} [Decidable p] (ht : look Γ t = some (.bool (decide p))) (h1 : p → WL P n ops Q l ((t, .bool true) :: Γ) w) (h2 : ¬ p → WL P n ops Q l ((t, .bool false) :: Γ) w) : WL P n ops Q l Γ w :=
  fun a ha => by
    by_cases hp : p
    · exact h1 hp a (ha.bool ht (by simp [hp]))
    · exact h2 hp a (ha.bool ht (by simp [hp]))
theorem W.part {c : Code} (t : Nat) {p : Prop} [Decidable p] (ht : look Γ t = some (.bool (decide p))) (h1 : p → W P n c Q ((t, .bool true) :: Γ) w) (h2 : ¬ p → W P n c Q ((t, .bool false) :: Γ) w) : W P n c Q Γ w :=
  fun a ha => by
    by_cases hp : p
    · exact h1 hp a (ha.bool ht (by simp [hp]))
    · exact h2 hp a (ha.bool ht (by simp [hp]))
theorem WL.done (h : X n Q .normal Γ w) : WL P n ops Q [] Γ w := fun a ha => h a ha

theorem W.region {id : Nat} {l : List Oper} (h : WL P n l.toArray Q l Γ w) : W P n (.region id l.toArray false) Q Γ w := fun a ha => wp_region_lit (h a ha)
theorem W.seq {x y : Code} (h : W P n x (Exit.then (y.wp P Q) Q) Γ w) : W P n (.seq x y) Q Γ w := fun a ha => wp_seq (h a ha)
theorem W.skip (h : X n Q .normal Γ w) : W P n .skip Q Γ w := fun a ha => wp_skip (h a ha)
theorem W.ret (h : X n Q .ret Γ w) : W P n .ret Q Γ w := fun a ha => wp_ret (h a ha)
theorem W.exit {id : Nat} (h : X n Q (.exit id) Γ w) : W P n (.exit id) Q Γ w := fun a ha => wp_exit (h a ha)
theorem W.block {id : Nat} {c : Code} (h : W P n c (Exit.inBlock id Q) Γ w) : W P n (.block id c) Q Γ w := fun a ha => wp_block (h a ha)
theorem W.ift {c : Operand} {x y : Code} (hc : ev Γ c = some (.bool true)) (h : W P n x Q Γ w) : W P n (.cond c x y) Q Γ w := fun a ha => wp_cond_true (ha.ev _ _ hc) (h a ha)
theorem W.iff {c : Operand} {x y : Code} (hc : ev Γ c = some (.bool false)) (h : W P n y Q Γ w) : W P n (.cond c x y) Q Γ w := fun a ha => wp_cond_false (ha.ev _ _ hc) (h a ha)
theorem W.ite {c : Operand} {x y : Code} {p : Prop} [Decidable p] (hc : ev Γ c = some (.bool (decide p))) (h1 : p → W P n x Q Γ w) (h2 : ¬ p → W P n y Q Γ w) : W P n (.cond c x y) Q Γ w :=
  fun a ha => wp_cond_split (ha.ev _ _ hc) (fun h => h1 (of_decide_eq_true h) a ha) (fun h => h2 (of_decide_eq_false h) a ha)
/-- Just some slots are still wanted. -/
theorem W.pick {c : Code} (ks : List Nat) {Γ' : Env} (e : Sx.pick Γ ks = Γ') (h : W P n c Q Γ' w) : W P n c Q Γ w := fun a ha => h a (e ▸ ha.pick ks)
theorem X.pick {e : Exit} (ks : List Nat) {Γ' : Env} (he : Sx.pick Γ ks = Γ') (h : X n Q e Γ' w) : X n Q e Γ w := fun a ha => h a (he ▸ ha.pick ks)

/-- A loop: what holds at its head bears a number, which each round lowers. -/
theorem W.loop {c : Code} (I : Nat → Env → World → Prop) (m : Nat) (h0 : I m Γ w)
    (round : ∀ m Γ w, I m Γ w → W P n c (Exit.then (fun a' w' => ∃ m', m' < m ∧ ∃ Γ', Agree n a' Γ' ∧ I m' Γ' w') Q) Γ w) : W P n (.loop c) Q Γ w := by
  intro a ha
  refine wp_loop_ghost (fun k a w => ∃ Γ, Agree n a Γ ∧ I k Γ w) m ⟨Γ, ha, h0⟩ ?_
  rintro k a w ⟨Γ, ha, hI⟩
  exact round k Γ w hI a ha

theorem X.then_normal {K : Act → World → Prop} (h : ∀ a, Agree n a Γ → K a w) : X n (Exit.then K Q) .normal Γ w := h
theorem X.then_code {y : Code} (h : W P n y Q Γ w) : X n (Exit.then (y.wp P Q) Q) .normal Γ w := h
theorem X.then_ret {K : Act → World → Prop} (h : X n Q .ret Γ w) : X n (Exit.then K Q) .ret Γ w := h
theorem X.then_exit {K : Act → World → Prop} {id : Nat} (h : X n Q (.exit id) Γ w) : X n (Exit.then K Q) (.exit id) Γ w := h
theorem X.block_normal {id : Nat} (h : X n Q .normal Γ w) : X n (Exit.inBlock id Q) .normal Γ w := h
theorem X.block_ret {id : Nat} (h : X n Q .ret Γ w) : X n (Exit.inBlock id Q) .ret Γ w := h
theorem X.block_exit {id : Nat} (h : X n Q .normal Γ w) : X n (Exit.inBlock id Q) (.exit id) Γ w := fun a ha => by simpa [Exit.inBlock] using h a ha
theorem X.block_exit' {id id' : Nat} (hne : Nat.beq id' id = false) (h : X n Q (.exit id') Γ w) : X n (Exit.inBlock id Q) (.exit id') Γ w := fun a ha => by
  have : id' ≠ id := by intro e; subst e; simp at hne
  simpa [Exit.inBlock, this] using h a ha
/-- A round has come to its end. -/
theorem X.next {I : Nat → Env → World → Prop} {m : Nat} (ks : List Nat) {Γ' : Env} (he : Sx.pick Γ ks = Γ') (m' : Nat) (hm : m' < m) (h : I m' Γ' w) :
    X n (Exit.then (fun a' w' => ∃ m', m' < m ∧ ∃ Γ', Agree n a' Γ' ∧ I m' Γ' w') Q) .normal Γ w := fun _ ha => ⟨m', hm, Γ', he ▸ ha.pick ks, h⟩

/-- The ways meet: what holds behind a piece of code. -/
theorem W.cut {x y : Code} (I : Env → World → Prop) (h1 : W P n x (Exit.then (fun a' w' => ∃ Γ', Agree n a' Γ' ∧ I Γ' w') Q) Γ w) (h2 : ∀ Γ w, I Γ w → W P n y Q Γ w) : W P n (.seq x y) Q Γ w :=
  fun a ha => wp_seq (wp_mono (h1 a ha) fun e a' w' hq => by
    cases e with
    | normal => obtain ⟨Γ', hA, hI⟩ := hq; exact h2 Γ' w' hI a' hA
    | exit id => exact hq
    | goto l => exact hq
    | ret => exact hq
    | panic ch => exact hq
    | outgrown => exact hq)
theorem X.cut {I : Env → World → Prop} (ks : List Nat) {Γ' : Env} (he : Sx.pick Γ ks = Γ') (h : I Γ' w) : X n (Exit.then (fun a' w' => ∃ Γ', Agree n a' Γ' ∧ I Γ' w') Q) .normal Γ w :=
  fun _ ha => ⟨Γ', he ▸ ha.pick ks, h⟩
end

/-! ### The whole function -/
def zipEnv : Nat → List Value → Env
  | _, [] => []
  | k, v :: r => (k, v) :: zipEnv (k + 1) r
theorem look_zipEnv : ∀ (l : List Value) (k t : Nat) (v : Value), look (zipEnv k l) t = some v → k ≤ t ∧ l[t - k]? = some v
  | [], k, t, v, e => by simp [zipEnv, look] at e
  | u :: l, k, t, v, e => by
    by_cases h : k = t
    · subst h; simp only [zipEnv] at e; rw [look_cons_eq] at e; simpa using e
    · simp only [zipEnv] at e
      rw [look_cons_ne _ _ h] at e
      obtain ⟨h1, h2⟩ := look_zipEnv l (k + 1) t v e
      refine ⟨by omega, ?_⟩
      rw [show t - k = (t - (k + 1)) + 1 by omega]
      simpa using h2

theorem calls_of_W {P : Program} {f : FuncId} {fn : Func} {c : Code} {args : List Value} {w : World} {R : Value → World → Prop} {m : Nat}
    (hf : P.funcs[f]? = some fn) (hb : fn.body = some c) (hm : fn.ntmps = m) (hl : Nat.ble args.length m = true) (h : W P m c (bodyPost P fn (Ret R)) (zipEnv 0 args) w) : Calls P f args.toArray w (Ret R) := by
  refine calls_of_wp hf hb (h _ ⟨?_, rfl, ?_⟩)
  · have := Nat.le_of_ble_eq_true hl
    simp [hm]; omega
  · intro t v e
    obtain ⟨_, h2⟩ := look_zipEnv args 0 t v e
    simp only [Nat.sub_zero] at h2
    have hlt : t < args.length := (List.getElem?_eq_some_iff.1 h2).1
    rw [Array.getD_eq_getD_getElem?, Array.getElem?_append_left (by simpa using hlt)]
    simp [h2]

theorem X.ret1 {P : Program} {fn : Func} {n : Nat} {Γ : Env} {w : World} {R : Value → World → Prop} {t : Nat} (hr : fn.results = #[.tmp t]) {v : Value} (hv : look Γ t = some v) (h : R v w) : X n (bodyPost P fn (Ret R)) .ret Γ w :=
  fun a ha => bodyPost_ret (results_tmp hr _ _ _) ha.defers ⟨_, rfl, by rw [ha.slot t v hv]; exact h⟩
theorem X.ret2 {P : Program} {fn : Func} {n : Nat} {Γ : Env} {w : World} {R : Value → World → Prop} {t u : Nat} (hr : fn.results = #[.tmp t, .tmp u]) {v1 v2 : Value} (h1 : look Γ t = some v1) (h2 : look Γ u = some v2) (h : R (.tuple #[v1, v2]) w) : X n (bodyPost P fn (Ret R)) .ret Γ w :=
  fun a ha => bodyPost_ret (results_tmp2 hr _ _ _) ha.defers ⟨_, rfl, by rw [ha.slot t v1 h1, ha.slot u v2 h2]; exact h⟩
theorem X.ret3 {P : Program} {fn : Func} {n : Nat} {Γ : Env} {w : World} {R : Value → World → Prop} {t u s : Nat} (hr : fn.results = #[.tmp t, .tmp u, .tmp s]) {v1 v2 v3 : Value} (h1 : look Γ t = some v1) (h2 : look Γ u = some v2) (h3 : look Γ s = some v3) (h : R (.tuple #[v1, v2, v3]) w) : X n (bodyPost P fn (Ret R)) .ret Γ w :=
  fun a ha => bodyPost_ret (v := .tuple #[v1, v2, v3]) (by simp only [results, hr]; have e1 := ha.slot t v1 h1; have e2 := ha.slot u v2 h2; have e3 := ha.slot s v3 h3; simp only [Array.getD_eq_getD_getElem?] at e1 e2 e3; simp [e1, e2, e3]) ha.defers ⟨_, rfl, h⟩
theorem X.end0 {P : Program} {fn : Func} {n : Nat} {Γ : Env} {w : World} {R : Value → World → Prop} (hr : fn.results = #[]) (h : R (.tuple #[]) w) : X n (bodyPost P fn (Ret R)) .normal Γ w :=
  fun _ ha => bodyPost_end (results_none hr _ _ _) ha.defers ⟨_, rfl, h⟩
theorem X.ret0 {P : Program} {fn : Func} {n : Nat} {Γ : Env} {w : World} {R : Value → World → Prop} (hr : fn.results = #[]) (h : R (.tuple #[]) w) : X n (bodyPost P fn (Ret R)) .ret Γ w :=
  fun _ ha => bodyPost_ret (results_none hr _ _ _) ha.defers ⟨_, rfl, h⟩
end Go.Sx
