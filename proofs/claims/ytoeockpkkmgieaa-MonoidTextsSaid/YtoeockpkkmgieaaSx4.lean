/- Walks over what is known of the slots: what is built, made, appended. -/
import Derived.Test.YtoeockpkkmgieaaSx3
namespace Go.Sx
set_option linter.unusedVariables false
set_option linter.unusedSimpArgs false

def evp (Γ : Env) : List (Nat × Operand) → Option (List (Nat × Value))
  | [] => some []
  | (i, x) :: r => match ev Γ x, evp Γ r with | some v, some l => some ((i, v) :: l) | _, _ => none
theorem AgR.evp {ρ : Operand → Value} {Γ : Env} (h : AgR ρ Γ) : ∀ (l : List (Nat × Operand)) (vs : List (Nat × Value)), Sx.evp Γ l = some vs → (l.map fun p => (p.1, ρ p.2)) = vs
  | [], vs, e => by simp [Sx.evp] at e; simp [e]
  | (i, x) :: r, vs, e => by
    simp only [Sx.evp] at e
    split at e
    · rename_i v l hv hl
      simp only [Option.some.injEq] at e
      subst e
      simp [h x v hv, h.evp r l hl]
    · cases e

def ints (k : IntKind) (xs : List Int) : List Value := xs.map (Value.int k)
def bools (xs : List Bool) : List Value := xs.map Value.bool
def strs (xs : List ByteArray) : List Value := xs.map Value.string
theorem ints_length (k : IntKind) (xs : List Int) : (ints k xs).length = xs.length := by simp [ints]
theorem bools_length (xs : List Bool) : (bools xs).length = xs.length := by simp [bools]
theorem strs_length (xs : List ByteArray) : (strs xs).length = xs.length := by simp [strs]
theorem ints_append (k : IntKind) (xs ys : List Int) : ints k xs ++ ints k ys = ints k (xs ++ ys) := by simp [ints]
theorem bools_append (xs ys : List Bool) : bools xs ++ bools ys = bools (xs ++ ys) := by simp [bools]
theorem strs_append (xs ys : List ByteArray) : strs xs ++ strs ys = strs (xs ++ ys) := by simp [strs]
theorem ints_one (k : IntKind) (xs : List Int) : ∀ u ∈ ints k xs, u.oneCell' = true := by simp only [ints, List.mem_map]; rintro u ⟨x, _, rfl⟩; rfl
theorem bools_one (xs : List Bool) : ∀ u ∈ bools xs, u.oneCell' = true := by simp only [bools, List.mem_map]; rintro u ⟨x, _, rfl⟩; rfl
theorem strs_one (xs : List ByteArray) : ∀ u ∈ strs xs, u.oneCell' = true := by simp only [strs, List.mem_map]; rintro u ⟨x, _, rfl⟩; rfl
theorem ints_at (k : IntKind) (xs : List Int) {i : Nat} (h : i < xs.length) : (ints k xs)[i]? = some (.int k (xs.getD i 0)) := by simp [ints, h, List.getD_eq_getElem?_getD]
theorem bools_at (xs : List Bool) {i : Nat} (h : i < xs.length) : (bools xs)[i]? = some (.bool (xs.getD i false)) := by simp [bools, h, List.getD_eq_getElem?_getD]
theorem strs_at (xs : List ByteArray) {i : Nat} (h : i < xs.length) : (strs xs)[i]? = some (.string (xs.getD i .empty)) := by simp [strs, h, List.getD_eq_getElem?_getD]
theorem ints_set (k : IntKind) (xs : List Int) (i : Nat) (x : Int) : (ints k xs).set i (.int k x) = ints k (xs.set i x) := by simp [ints, List.map_set]
theorem bools_set (xs : List Bool) (i : Nat) (x : Bool) : (bools xs).set i (.bool x) = bools (xs.set i x) := by simp [bools, List.map_set]
theorem strs_set (xs : List ByteArray) (i : Nat) (x : ByteArray) : (strs xs).set i (.string x) = strs (xs.set i x) := by simp [strs, List.map_set]

section
variable {P : Program} {Γ : Env} {w : World} {ty : TypeId} {K : Value → World → Prop}

theorem d_build {t : TypeId} {ps : Array (Nat × Operand)} {vs : List (Nat × Value)} {cs : Array Value} (hp : evp Γ ps.toList = some vs) (hb : P.built t vs = some cs) (k : K (.agg cs) w) : Does P Γ w (.build t ps) ty K :=
  Does.of_run (fun ρ hρ => by
    have e : (ps.map fun (i, x) => (i, ρ x)).toList = vs := by rw [← hρ.evp _ _ hp]; simp
    simp only [ex, execOp, Sem.run_bind, run_build w t _ cs (by rw [e]; exact hb), Result.andThen_ok]
    rfl) k
theorem own_made {g : Nat} {cs : Array Value} {e : TypeId} {sz n : Nat} {w' : World} (h : Upd w [] w' [blk g cs e]) (hs : cs.size = n * sz) (hn : n ≤ 9223372036854775807) : Upd w [] w' [row (.slice (some ⟨g, 0, none⟩) n n) e sz n cs.toList] := by
  have hb := h.hp.blk (g := g) (cs := cs) (e := e) (by simp)
  have ho : w'.ownsRow 0 e sz (.slice (some ⟨g, 0, none⟩) n n) n cs.toList :=
    ⟨by simp [hs], .inr ⟨g, n, cs, rfl, Nat.zero_le _, hb, Nat.le_refl _, by simp [maxLen]; omega, hs, by rw [List.take_of_length_le]; simp [hs]⟩⟩
  refine ⟨⟨fun c hc => ?_, by simp [ats, row, Value.ownBlock]⟩, h.keep, fun g' hg => h.fresh g' (by simpa [ats, row, blk, Value.ownBlock] using hg)⟩
  simp only [List.mem_singleton] at hc
  subst hc
  exact own_row ho
theorem d_buildSlice {t e : TypeId} {len sz b : Nat} {z : Value} {ps : Array (Nat × Operand)} {vs : List (Nat × Value)} {cs : Array Value} (ht : P.underlying t = some (.slice e)) (hs : szOf P e = some (sz, b, some z)) (hp : evp Γ ps.toList = some vs)
    (hsmall : Nat.ble (len * sz) 16777216 = true) (hpos : Nat.beq (len * sz) 0 = false)
    (hf : Instr.fill (fun i => some (i * sz, sz)) ((Array.range (len * sz)).map (z.cells[· % z.cells.size]!)) vs = some cs) (hcs : cs.size = len * sz)
    (k : ∀ w', Upd w [] w' [row (.slice (some ⟨w.heap.size, 0, none⟩) len len) e sz len cs.toList] → K (.slice (some ⟨w.heap.size, 0, none⟩) len len) w') : Does P Γ w (.buildSlice t len ps) ty K :=
  Does.of_run (w' := w.alloc (.cells cs e)) (fun ρ hρ => by
    have e1 : (ps.map fun (i, x) => (i, ρ x)).toList = vs := by rw [← hρ.evp _ _ hp]; simp
    have h1 : ¬ (16777216 < len * sz) := by have := Nat.le_of_ble_eq_true hsmall; omega
    have h2 : len * sz ≠ 0 := by intro h; rw [h] at hpos; simp at hpos
    simp only [ex, execOp, Instr.buildSlice, e1]
    simp [run_underlying ht, run_sz hs, run_zero hs, h1, hf, newRow, newObj, Sem.run, h2]) (k _ (own_made (Upd.alloc w cs e) hcs (by
      have := Nat.le_of_ble_eq_true hsmall
      have h2 : 0 < sz := by
        rcases Nat.eq_zero_or_pos sz with h | h
        · rw [h] at hpos; simp at hpos
        · exact h
      have := Nat.le_mul_of_pos_right len h2
      omega)))
/-- An empty literal, '[]T{}'. -/
theorem d_buildSlice0 {t e : TypeId} {sz b : Nat} {z : Option Value} (ht : P.underlying t = some (.slice e)) (hs : szOf P e = some (sz, b, z))
    (k : ∀ w', Upd w [] w' [row (.slice (some ⟨w.heap.size, 0, none⟩) 0 0) e sz 0 []] → K (.slice (some ⟨w.heap.size, 0, none⟩) 0 0) w') : Does P Γ w (.buildSlice t 0 #[]) ty K :=
  Does.of_run (w' := w.alloc (.cells #[] e)) (fun ρ hρ => by
    simp only [ex, execOp, Instr.buildSlice]
    have h0 : ∀ f : Nat → Value, (Array.range 0).map f = #[] := fun f => by simp
    simp [run_underlying ht, run_sz hs, newRow, newObj, Sem.run, Instr.fill, h0]) (k _ (by simpa using own_made (n := 0) (sz := sz) (Upd.alloc w #[] e) (by simp) (by omega)))
theorem madeCells_one {z : Value} (n : Nat) : (madeCells #[z] n).toList = List.replicate n z := by
  apply List.ext_getElem
  · simp [madeCells]
  · intro i h1 h2; simp [madeCells, Nat.mod_one]
theorem d_make {t e : TypeId} {x y : Operand} {kx ky : IntKind} {sz b : Nat} {z : Value} {l c : Int} (ht : P.underlying t = some (.slice e)) (hs : szOf P e = some (sz, b, some z)) (hx : ev Γ x = some (.int kx l)) (hy : ev Γ y = some (.int ky c))
    (h0 : 0 ≤ l) (hlc : l ≤ c) (hb : (b : Int) * c ≤ 140737488355328) (hc : c ≤ 9223372036854775807)
    (k : ∀ w', Upd w [] w' [row (.slice (some ⟨w.heap.size, 0, none⟩) l.toNat c.toNat) e sz l.toNat ((madeCells z.cells (c.toNat * sz)).toList.take (l.toNat * sz))] → K (.slice (some ⟨w.heap.size, 0, none⟩) l.toNat c.toNat) w') : Does P Γ w (.makeSlice t x y) ty K := by
  obtain ⟨i, hi, rfl, rfl, hz⟩ := szOf_info hs
  refine Does.of_run (w' := w.alloc (.cells (madeCells z.cells (c.toNat * i.size)) e)) (fun ρ hρ => ?_) (k _ ?_)
  · simp only [ex, execOp, hρ x _ hx, hρ y _ hy, Sem.run_bind, run_make (P := P) w t e i z ht hi hz kx ky l c h0 hlc (by omega) hc, Result.andThen_ok]
    rfl
  · have hu := Upd.alloc w (madeCells z.cells (c.toNat * i.size)) e
    have hbk := hu.hp.blk (g := w.heap.size) (cs := madeCells z.cells (c.toNat * i.size)) (e := e) (by simp)
    have hle : l.toNat * i.size ≤ c.toNat * i.size := Nat.mul_le_mul_right _ (by omega)
    have ho : (w.alloc (.cells (madeCells z.cells (c.toNat * i.size)) e)).ownsRow 0 e i.size (.slice (some ⟨w.heap.size, 0, none⟩) l.toNat c.toNat) l.toNat ((madeCells z.cells (c.toNat * i.size)).toList.take (l.toNat * i.size)) :=
      ⟨by rw [List.length_take, Array.length_toList, size_madeCells]; exact Nat.min_eq_left hle, .inr ⟨w.heap.size, c.toNat, _, rfl, Nat.zero_le _, hbk, by omega, by simp [maxLen]; omega, size_madeCells _ _, rfl⟩⟩
    refine ⟨⟨fun c' hc' => ?_, by simp [ats, row, Value.ownBlock]⟩, hu.keep, fun g' hg => hu.fresh g' (by simpa [ats, row, blk, Value.ownBlock] using hg)⟩
    simp only [List.mem_singleton] at hc'
    subst hc'
    exact own_row ho
/-- 'make([]T, n)' of one-cell elements. -/
theorem d_make1 {t e : TypeId} {x : Operand} {kx : IntKind} {b : Nat} {z : Value} {l : Int} (ht : P.underlying t = some (.slice e)) (hs : szOf P e = some (1, b, some z)) (hz : z.cells = #[z]) (hx : ev Γ x = some (.int kx l))
    (h0 : 0 ≤ l) (hb : (b : Int) * l ≤ 140737488355328) (hc : l ≤ 9223372036854775807)
    (k : ∀ w', Upd w [] w' [row (.slice (some ⟨w.heap.size, 0, none⟩) l.toNat l.toNat) e 1 l.toNat (List.replicate l.toNat z)] → K (.slice (some ⟨w.heap.size, 0, none⟩) l.toNat l.toNat) w') : Does P Γ w (.makeSlice t x x) ty K :=
  d_make ht hs hx hx h0 (Int.le_refl _) hb hc fun w' h => k w' (by rw [hz, Nat.mul_one, madeCells_one, List.take_of_length_le (by simp)] at h; exact h)

theorem upd_of_grown {v v' : Value} {e : TypeId} {sz n n' : Nat} {vs vs' : List Value} {w' : World} (h : w'.ownsRow 0 e sz v' n' vs') (hg : w.grownBy w' v.ownBlock) (hb : v'.ownBlock = v.ownBlock ∨ v'.ownBlock = some w.heap.size) : Upd w [row v e sz n vs] w' [row v' e sz n' vs'] := by
  refine ⟨⟨fun c hc => ?_, ?_⟩, ⟨hg.os, hg.tape, hg.output, hg.size, fun k hk hs => hg.block k hk ?_⟩, fun g hg' => ?_⟩
  · simp only [List.mem_singleton] at hc; subst hc; exact own_row h
  · cases hv : v'.ownBlock <;> simp [ats, row, hv]
  · intro e'; apply hs; simp [ats, row, ← e']
  · have : v'.ownBlock = some g := by
      cases hv : v'.ownBlock <;> simp [ats, row, hv] at hg'
      rw [hg']
    rcases hb with h1 | h1
    · left; rw [this] at h1; simp [ats, row, ← h1]
    · right; rw [this] at h1; injection h1 with h1; omega
theorem run_append_none {t xt e : TypeId} {i : TypeInfo} {a A : Option Addr} {n c c' : Nat} (ht : P.underlying t = some (.slice e)) (hxt : P.underlying xt = some (.slice e)) (hi : P.info? e = some i) (hn : n ≤ c) : (Builtin.append_ #[t, xt] ty #[.slice a n c, .slice A 0 c']).run P w = .ok (.slice a n c) w := by
  have hf : (Builtin.firstCells i.size 0 (.slice A 0 c')).run P w = .ok #[] w := by
    cases A <;> simp [Builtin.firstCells, loadCells, loadCellsFrom]
  have hm : (match (TypeDesc.slice e) with | .int _ => true | _ => false) = false := rfl
  cases a <;> simp [Builtin.append_, run_underlying ht, run_underlying hxt, sizeOf, typeInfo, hi, Builtin.lenOf, hn, hf, storeCells]
/-- append, onto a row of one's own, of what is read. -/
theorem d_append {s x : Operand} {t e : TypeId} {sz b n m c cx : Nat} {z : Value} {a A : Option Addr} {vs news : List Value} (ht : P.underlying t = some (.slice e)) (hs : szOf P e = some (sz, b, some z)) (hzs : z.cells.size = sz) (hsz : Nat.blt 0 sz = true)
    (hev : ev Γ s = some (.slice a n c)) (hx : ev Γ x = some (.slice A m cx)) (ho : w.ownsRow 0 e sz (.slice a n c) n vs) (hr : Rd w (.slice A m cx) sz m news) (h1 : ∀ u ∈ news, u.oneCell' = true) (hb : (n + m) * b ≤ 140737488355328) (h63 : n + m ≤ 9223372036854775807)
    (k : ∀ a' c' w', Upd w [row (.slice a n c) e sz n vs] w' [row (.slice a' (n + m) c') e sz (n + m) (vs ++ news)] → K (.slice a' (n + m) c') w') : Does P Γ w (.call { callee := .builtin .append, args := #[s, x], argTypes := #[t, t] }) ty K := by
  obtain ⟨i, hi, rfl, rfl, hz⟩ := szOf_info hs
  have hsz' : 0 < i.size := of_eq_true (Eq.trans Nat.blt_eq.symm (eq_true hsz))
  rcases Nat.eq_zero_or_pos m with rfl | hm
  · have hn : n ≤ c := by
      rcases ho.2 with ⟨h1, h2⟩ | ⟨g, cap, cur, h1, _, _, h2, _⟩
      · omega
      · injection h1 with _ _ h1; omega
    have hnews : news = [] := by have := hr.len; simp at this; exact this
    subst hnews
    refine Does.of_run (w' := w) (fun ρ hρ => ?_) (k a c w ?_)
    · have := run_append_none (P := P) (w := w) (ty := ty) (t := t) (xt := t) (a := a) (A := A) (n := n) (c := c) (c' := cx) ht ht hi hn
      simp only [ex, execOp, resolve, invoke, builtin, Sem.run_bind, Sem.run_pure, Result.andThen_ok, List.map_toArray, List.map_cons, List.map_nil, hρ s _ hev, hρ x _ hx, this]
      rfl
    · simp only [List.append_nil]
      refine Upd.refl ⟨fun c' hc' => ?_, ?_⟩
      · simp only [List.mem_singleton] at hc'; subst hc'; exact own_row ho
      · cases a <;> simp [ats, row, Value.ownBlock]
  · have hlen : 0 < news.length := by rw [hr.len]; exact Nat.mul_pos hm hsz'
    obtain ⟨A', cap', e', hl, _, hcell⟩ := hr
    injection e' with e1 e2 e3
    subst e1 e3
    obtain ⟨ad, rfl, _⟩ := hcell 0 _ (List.getElem?_eq_getElem hlen)
    obtain ⟨v', w', hrun, hown, hg, _, hat⟩ := run_append_own_at (P := P) w 0 t ty e i z i.size i.bytes ht hi hz rfl rfl hzs hsz' (.slice a n c) n vs ho ad m cx news hl (fun j u hj => by
      obtain ⟨ad', e', hc⟩ := hcell j u hj
      injection e' with e'
      subst e'
      exact hc) h1 (by simp [maxLen]; omega) hb (Nat.zero_le _)
    obtain ⟨a', c', rfl⟩ := row_slice hown
    refine Does.of_run (fun ρ hρ => ?_) (k a' c' w' (upd_of_grown hown hg hat))
    simp only [ex, execOp, resolve, invoke, builtin, Sem.run_bind, Sem.run_pure, Result.andThen_ok, List.map_toArray, List.map_cons, List.map_nil, hρ s _ hev, hρ x _ hx, hrun]
end
/-- Nothing as a row of one's own. -/
theorem UpG.nilRow {w w' : World} {L : List Chunk} {G : List (List Chunk)} (h : UpG w L w' G) (e : TypeId) (sz : Nat) : UpG w L w' (G ++ [[row (.slice none 0 0) e sz 0 []]]) := by
  refine h.new' ⟨⟨fun c hc => ?_, by simp [ats, row, Value.ownBlock]⟩, Keep.refl _ _, fun g hg => by simp [ats, row, Value.ownBlock] at hg⟩
  simp only [List.mem_singleton] at hc
  subst hc
  exact ⟨by simp, .inl ⟨rfl, rfl⟩⟩
end Go.Sx
