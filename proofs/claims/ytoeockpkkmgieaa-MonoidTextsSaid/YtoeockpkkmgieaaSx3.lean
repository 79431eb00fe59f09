/- Walks over what is known of the slots: what the operations do. -/
import Derived.Test.YtoeockpkkmgieaaSx2
namespace Go.Sx
set_option linter.unusedVariables false
set_option linter.unusedSimpArgs false

/-! ### Types, by the program's tables -/
def aggD : TypeDesc → Bool | .struct _ | .array _ _ => true | _ => false
def szOf (P : Program) (t : TypeId) : Option (Nat × Nat × Option Value) := (P.info? t).map fun i => (i.size, i.bytes, i.zero)
def fldOf (P : Program) (t : TypeId) (f : Nat) : Option (Nat × Nat × Bool) :=
  match P.underlying t with
  | some (.struct fs) => match fs[f]? with
    | some fd => match P.info? fd.type, P.underlying fd.type with
      | some i, some d => some (fd.offset, i.size, aggD d)
      | _, _ => none
    | none => none
  | _ => none

section
variable {P : Program} {w : World} {t : TypeId}
theorem szOf_info {s b : Nat} {z : Option Value} (h : szOf P t = some (s, b, z)) : ∃ i, P.info? t = some i ∧ i.size = s ∧ i.bytes = b ∧ i.zero = z := by
  unfold szOf at h
  cases hi : P.info? t with
  | none => rw [hi] at h; simp at h
  | some i => rw [hi] at h; simp at h; exact ⟨i, rfl, h.1, h.2.1, h.2.2⟩
theorem run_info {i : TypeInfo} (h : P.info? t = some i) : (typeInfo t).run P w = .ok i w := by simp [typeInfo, h]
theorem run_sz {s b : Nat} {z : Option Value} (h : szOf P t = some (s, b, z)) : (sizeOf t).run P w = .ok s w := by
  obtain ⟨i, hi, rfl, _, _⟩ := szOf_info h
  simp [sizeOf, typeInfo, hi]
theorem run_zero {s b : Nat} {z : Value} (h : szOf P t = some (s, b, some z)) : (zeroValue t).run P w = .ok z w := by
  obtain ⟨i, hi, _, _, hz⟩ := szOf_info h
  simp [zeroValue, typeInfo, hi, hz]
theorem run_isAgg {d : TypeDesc} (h : P.underlying t = some d) : (isAgg t).run P w = .ok (aggD d) w := by
  unfold isAgg
  simp only [Sem.run_bind, run_underlying h, Result.andThen_ok]
  cases d <;> rfl
end

section
variable {P : Program} {Γ : Env} {w : World} {ty : TypeId} {K : Value → World → Prop}

/-! ### Slots -/
theorem d_move {x : Operand} {v : Value} (hx : ev Γ x = some v) (k : K v w) : Does P Γ w (.move x) ty K :=
  Does.of_run (fun ρ hρ => by simp [ex, execOp, hρ x v hx]) k
theorem d_assign {x : Operand} {v : Value} (hx : ev Γ x = some v) (k : K v w) : Does P Γ w (.assign x) ty K :=
  Does.of_run (fun ρ hρ => by simp [ex, execOp, hρ x v hx]) k
theorem d_nilCheck {x : Operand} {ad : Addr} (hx : ev Γ x = some (.pointer (some ad))) (k : K (.pointer (some ad)) w) : Does P Γ w (.nilCheck x) ty K :=
  Does.of_run (fun ρ hρ => by simp [ex, execOp, hρ x _ hx]) k
theorem d_nilCheckF {x : Operand} {f : FuncId} {a b : Array Value} (hx : ev Γ x = some (.func (.func f) a b)) (k : K (.func (.func f) a b) w) : Does P Γ w (.nilCheck x) ty K :=
  Does.of_run (fun ρ hρ => by simp [ex, execOp, hρ x _ hx]) k
theorem d_pick {c x y : Operand} {b : Bool} {v : Value} (hc : ev Γ c = some (.bool b)) (hv : (match b with | true => ev Γ x | false => ev Γ y) = some v) (k : K v w) : Does P Γ w (.pick c x y) ty K :=
  Does.of_run (fun ρ hρ => by
    cases b
    · simp [ex, execOp, hρ c _ hc, hρ y _ hv, asBool]
    · simp [ex, execOp, hρ c _ hc, hρ x _ hv, asBool]) k
theorem d_extract {x : Operand} {i : Nat} {vs : Array Value} {v : Value} (hx : ev Γ x = some (.tuple vs)) (hv : vs[i]? = some v) (k : K v w) : Does P Γ w (.extract x i) ty K :=
  Does.of_run (fun ρ hρ => by simp [ex, execOp, hρ x _ hx, Instr.extract, hv]) k

/-! ### Addresses, loads, stores -/
theorem d_load {t : TypeId} {x : Operand} {ad : Addr} {d : TypeDesc} {v : Value} (ht : P.underlying t = some d) (hd : aggD d = false) (hx : ev Γ x = some (.pointer (some ad))) (hc : w.cell? ad = some v) (k : K v w) : Does P Γ w (.load t x) ty K :=
  Does.of_run (fun ρ hρ => by
    simp only [ex, execOp, hρ x _ hx, Instr.loadAt, Instr.sureAddr, loadVar]
    simp [run_isAgg ht, hd, load, Sem.run, hc]) k
theorem cells_of_blk {g : Nat} {cs : Array Value} {e : TypeId} (h : w.heap[g]? = some (.cells cs e (0, 0))) (off : Nat) : w.cell? ⟨g, off, none⟩ = cs[off]? := by simp [World.cell?, h]
theorem d_loadB {t : TypeId} {x : Operand} {g off : Nat} {cs : Array Value} {e : TypeId} {d : TypeDesc} {v : Value} (ht : P.underlying t = some d) (hd : aggD d = false) (hx : ev Γ x = some (.pointer (some ⟨g, off, none⟩)))
    (hb : w.heap[g]? = some (.cells cs e (0, 0))) (hv : cs[off]? = some v) (k : K v w) : Does P Γ w (.load t x) ty K :=
  d_load ht hd hx (by rw [cells_of_blk hb]; exact hv) k
theorem d_loadA {t : TypeId} {x : Operand} {ad : Addr} {d : TypeDesc} {s b : Nat} {z : Option Value} {cs : List Value} (ht : P.underlying t = some d) (hd : aggD d = true) (hs : szOf P t = some (s, b, z)) (hx : ev Γ x = some (.pointer (some ad)))
    (hl : cs.length = s) (hc : ∀ j u, cs[j]? = some u → w.cell? (ad.add j) = some u) (k : K (.agg cs.toArray) w) : Does P Γ w (.load t x) ty K :=
  Does.of_run (fun ρ hρ => by
    simp only [ex, execOp, hρ x _ hx, Instr.loadAt, Instr.sureAddr, loadVar]
    subst hl
    simp [run_isAgg ht, hd, run_sz hs, run_loadCells_list (P := P) (w := w) ad cs hc]) k
theorem add_off (g off j : Nat) : (⟨g, off, none⟩ : Addr).add j = ⟨g, off + j, none⟩ := by unfold Addr.add; split <;> simp_all
theorem d_loadAB {t : TypeId} {x : Operand} {g off : Nat} {cs : Array Value} {e : TypeId} {d : TypeDesc} {s b : Nat} {z : Option Value} (us : List Value) (ht : P.underlying t = some d) (hd : aggD d = true) (hs : szOf P t = some (s, b, z)) (hx : ev Γ x = some (.pointer (some ⟨g, off, none⟩)))
    (hb : w.heap[g]? = some (.cells cs e (0, 0))) (hl : us.length = s) (hc : (cs.toList.drop off).take s = us) (k : K (.agg us.toArray) w) : Does P Γ w (.load t x) ty K :=
  d_loadA ht hd hs hx hl (fun j u hj => by
    rw [add_off, cells_of_blk hb]
    rw [← hc, List.getElem?_take] at hj
    split at hj
    · simpa using hj
    · cases hj) k

def elemPtr : Value → Nat → Value
  | .slice (some a) _ _, j => .pointer (some (a.add j))
  | _, _ => .nilFunc
theorem Rd.ptr {v : Value} {sz n : Nat} {vs : List Value} (h : Rd w v sz n vs) {j : Nat} {u : Value} (hj : vs[j]? = some u) : ∃ ad, elemPtr v j = .pointer (some (ad.add j)) ∧ w.cell? (ad.add j) = some u ∧ ∃ c, v = .slice (some ad) n c := by
  obtain ⟨A, cap, rfl, _, _, h3⟩ := h
  obtain ⟨ad, rfl, hc⟩ := h3 j u hj
  exact ⟨ad, rfl, hc, cap, rfl⟩
theorem d_indexAddr {t e : TypeId} {x ix : Operand} {v : Value} {kd : IntKind} {i : Int} {sz b n : Nat} {z : Option Value} {vs : List Value} (ht : P.underlying t = some (.slice e)) (hs : szOf P e = some (sz, b, z))
    (hx : ev Γ x = some v) (hi : ev Γ ix = some (.int kd i)) (hr : Rd w v sz n vs) (h0 : 0 ≤ i) (h1 : i < n) (hz : 0 < sz) (k : K (elemPtr v (i.toNat * sz)) w) : Does P Γ w (.indexAddr t x ix) ty K :=
  Does.of_run (fun ρ hρ => by
    have hlt : i.toNat * sz < vs.length := by
      rw [hr.len]
      exact Nat.mul_lt_mul_of_pos_right (by omega) hz
    obtain ⟨ad, he, _, c, hv⟩ := hr.ptr (List.getElem?_eq_getElem hlt)
    subst hv
    simp only [ex, execOp, hρ x _ hx, hρ ix _ hi, Instr.indexAt, asIntOf]
    simp [run_underlying ht, run_sz hs, h0, h1, elemPtr]) k
theorem d_loadR {t : TypeId} {x : Operand} {v : Value} {j sz n : Nat} {vs : List Value} {d : TypeDesc} {u : Value} (ht : P.underlying t = some d) (hd : aggD d = false) (hx : ev Γ x = some (elemPtr v j)) (hr : Rd w v sz n vs) (hj : vs[j]? = some u) (k : K u w) : Does P Γ w (.load t x) ty K := by
  obtain ⟨ad, he, hc, _⟩ := hr.ptr hj
  exact d_load ht hd (he ▸ hx) hc k
theorem add_add (a : Addr) (i j : Nat) : (a.add i).add j = a.add (i + j) := by
  unfold Addr.add
  split <;> split <;> split <;> simp_all <;> omega
theorem d_loadAR {t : TypeId} {x : Operand} {v : Value} {j sz n s b : Nat} {z : Option Value} {vs : List Value} {d : TypeDesc} (us : List Value) (ht : P.underlying t = some d) (hd : aggD d = true) (hs : szOf P t = some (s, b, z)) (hx : ev Γ x = some (elemPtr v j)) (hr : Rd w v sz n vs)
    (hl : us.length = s) (hp : 0 < s) (hc : (vs.drop j).take s = us) (k : K (.agg us.toArray) w) : Does P Γ w (.load t x) ty K := by
  have hat : ∀ i u, us[i]? = some u → vs[j + i]? = some u := fun i u hi => by
    rw [← hc, List.getElem?_take] at hi
    split at hi
    · simpa using hi
    · cases hi
  have h0 : us[0]? = some us[0] := List.getElem?_eq_getElem (by omega)
  obtain ⟨ad, he, _, c, hv⟩ := hr.ptr (hat 0 _ h0)
  refine d_loadA ht hd hs (ad := ad.add j) (by rw [hx, ← Nat.add_zero j, he]) hl (fun i u hi => ?_) k
  obtain ⟨ad', he', hc', c', hv'⟩ := hr.ptr (hat i u hi)
  rw [hv] at hv'
  injection hv' with e1
  injection e1 with e1
  subst e1
  rw [add_add]; exact hc'
theorem run_fieldPlace {fd : Field} {i : TypeInfo} (hs : P.info? fd.type = some i) (hz : i.size ≠ 0) (ad : Addr) : (fieldPlace ad fd).run P w = .ok (ad.add fd.offset) w := by
  simp [fieldPlace, sizeOf, typeInfo, hs, hz]
theorem d_fieldAddr {t : TypeId} {x : Operand} {f off s : Nat} {g : Bool} {ad : Addr} (hf : fldOf P t f = some (off, s, g)) (hs : Nat.beq s 0 = false) (hx : ev Γ x = some (.pointer (some ad))) (k : K (.pointer (some (ad.add off))) w) : Does P Γ w (.fieldAddr t x f) ty K :=
  Does.of_run (fun ρ hρ => by
    unfold fldOf at hf
    split at hf
    · rename_i fs hu
      split at hf
      · rename_i fd hfd
        split at hf
        · rename_i i d hi hd
          simp only [Option.some.injEq, Prod.mk.injEq] at hf
          obtain ⟨rfl, rfl, _⟩ := hf
          have hz : i.size ≠ 0 := by intro e; rw [e] at hs; simp at hs
          simp only [ex, execOp, hρ x _ hx, Instr.fieldAt, Instr.sureAddr]
          simp [run_underlying hu, hfd, run_fieldPlace hi hz]
        · cases hf
      · cases hf
    · cases hf) k
theorem d_fieldAddrB {t : TypeId} {x : Operand} {f off s : Nat} {a : Bool} {g o : Nat} (hf : fldOf P t f = some (off, s, a)) (hs : Nat.beq s 0 = false) (hx : ev Γ x = some (.pointer (some ⟨g, o, none⟩))) (k : K (.pointer (some ⟨g, o + off, none⟩)) w) : Does P Γ w (.fieldAddr t x f) ty K :=
  d_fieldAddr hf hs hx (by rw [add_off]; exact k)
theorem d_fieldAddrR {t : TypeId} {x : Operand} {f off s : Nat} {a : Bool} {v : Value} {j n sz : Nat} {vs : List Value} {u : Value} (hf : fldOf P t f = some (off, s, a)) (hs : Nat.beq s 0 = false) (hx : ev Γ x = some (elemPtr v j)) (hr : Rd w v sz n vs) (hj : vs[j]? = some u) (k : K (elemPtr v (j + off)) w) : Does P Γ w (.fieldAddr t x f) ty K := by
  obtain ⟨ad, he, _, c, rfl⟩ := hr.ptr hj
  exact d_fieldAddr hf hs (he ▸ hx) (by simpa [elemPtr, add_add] using k)
/-- A field of a struct that is a value. -/
theorem d_field {t : TypeId} {x : Operand} {f off s : Nat} {cs : Array Value} {v : Value} (hf : fldOf P t f = some (off, s, false)) (hx : ev Γ x = some (.agg cs)) (hv : cs[off]? = some v) (k : K v w) : Does P Γ w (.field t x f) ty K :=
  Does.of_run (fun ρ hρ => by
    unfold fldOf at hf
    split at hf
    · rename_i fs hu
      split at hf
      · rename_i fd hfd
        split at hf
        · rename_i i d hi hd
          simp only [Option.some.injEq, Prod.mk.injEq] at hf
          obtain ⟨rfl, rfl, hg⟩ := hf
          simp only [ex, execOp, hρ x _ hx, Instr.field, asAgg, part]
          simp [run_underlying hu, hfd, run_isAgg hd, hg, hv]
        · cases hf
      · cases hf
    · cases hf) k
theorem d_fieldA {t : TypeId} {x : Operand} {f off s : Nat} {cs : Array Value} {us : Array Value} (hf : fldOf P t f = some (off, s, true)) (hx : ev Γ x = some (.agg cs)) (hv : cs.extract off (off + s) = us) (k : K (.agg us) w) : Does P Γ w (.field t x f) ty K :=
  Does.of_run (fun ρ hρ => by
    unfold fldOf at hf
    split at hf
    · rename_i fs hu
      split at hf
      · rename_i fd hfd
        split at hf
        · rename_i i d hi hd
          simp only [Option.some.injEq, Prod.mk.injEq] at hf
          obtain ⟨rfl, rfl, hg⟩ := hf
          simp only [ex, execOp, hρ x _ hx, Instr.field, asAgg, part]
          simp [run_underlying hu, hfd, run_isAgg hd, hg, sizeOf, typeInfo, hi, hv]
        · cases hf
      · cases hf
    · cases hf) k
theorem run_store1 {ad : Addr} {v old : Value} (h1 : v.oneCell' = true) (hc : w.cell? ad = some old) (hf : w.frozen? ad = false) : (store ad v).run P w = .ok () (w.setCell ad v) := by
  rw [run_store P w ad v _ h1, hc]
  simp [hf]
theorem cells_one {v : Value} (h1 : v.oneCell' = true) : v.cells = #[v] := by cases v <;> simp_all [Value.oneCell', Value.cells]
theorem d_store {t : TypeId} {x y : Operand} {ad : Addr} {b : Nat} {z : Option Value} {v old : Value} (hs : szOf P t = some (1, b, z)) (hx : ev Γ x = some (.pointer (some ad))) (hy : ev Γ y = some v) (h1 : v.oneCell' = true)
    (hc : w.cell? ad = some old) (hf : w.frozen? ad = false) (k : K undef (w.setCell ad v)) : Does P Γ w (.store t x y) ty K :=
  Does.of_skip (fun ρ hρ => by
    simp only [ex, execOp, hρ x _ hx, hρ y _ hy, Instr.storeAt, Instr.sureAddr, storeVar, cells_one h1]
    have h0 : ad.add 0 = ad := by simp [Addr.add]
    simp [run_sz hs, storeCells, h0, run_store1 h1 hc hf]) k
theorem d_storeB {t : TypeId} {x y : Operand} {g off b : Nat} {cs : Array Value} {e : TypeId} {z : Option Value} {v : Value} (hs : szOf P t = some (1, b, z)) (hx : ev Γ x = some (.pointer (some ⟨g, off, none⟩))) (hy : ev Γ y = some v) (h1 : v.oneCell' = true)
    (hb : w.heap[g]? = some (.cells cs e (0, 0))) (hl : Nat.blt off cs.size = true) (k : ∀ w', Upd w [blk g cs e] w' [blk g (cs.setIfInBounds off v) e] → K undef w') : Does P Γ w (.store t x y) ty K := by
  have hl' : off < cs.size := of_eq_true (Eq.trans Nat.blt_eq.symm (eq_true hl))
  exact d_store hs hx hy h1 (old := cs[off]) (by rw [cells_of_blk hb]; exact Array.getElem?_eq_getElem hl') (by simp [World.frozen?, hb]) (k _ (Upd.setCell hb off v))
theorem Upd.setRow {g : Nat} {cs cs' : Array Value} {e : TypeId} (h : w.heap[g]? = some (.cells cs e (0, 0))) : Upd w [blk g cs e] (w.setRow g cs') [blk g cs' e] := by
  refine ⟨⟨fun c hc => ?_, by simp [ats, Sx.blk]⟩, ⟨rfl, rfl, rfl, by simp [World.setRow], fun k hk hs => ?_⟩, fun g' hg => ?_⟩
  · simp only [List.mem_singleton] at hc; subst hc
    show (w.setRow g cs').heap[g]? = _
    simp [World.setRow, Array.getElem?_modify, h]
  · have : k ≠ g := by intro e'; subst e'; simp [ats, Sx.blk] at hs
    simp [World.setRow, Array.getElem?_modify, Ne.symm this]
  · left; simpa [ats, Sx.blk] using hg
theorem d_storeAB {t : TypeId} {x y : Operand} {g off s b : Nat} {cs : Array Value} {us : List Value} {e : TypeId} {z : Option Value} (hs : szOf P t = some (s, b, z)) (hx : ev Γ x = some (.pointer (some ⟨g, off, none⟩))) (hy : ev Γ y = some (.agg us.toArray)) (hl : us.length = s)
    (h1 : us.all (·.oneCell') = true) (hb : w.heap[g]? = some (.cells cs e (0, 0))) (hle : Nat.ble (off + us.length) cs.size = true) {cs' : Array Value} (hc : (cs.toList.take off ++ us ++ cs.toList.drop (off + us.length)).toArray = cs')
    (k : ∀ w', Upd w [blk g cs e] w' [blk g cs' e] → K undef w') : Does P Γ w (.store t x y) ty K :=
  Does.of_skip (w' := w.setRow g cs') (fun ρ hρ => by
    simp only [ex, execOp, hρ x _ hx, hρ y _ hy, Instr.storeAt, Instr.sureAddr, storeVar, Value.cells]
    have := run_storeCells_at P g off e us 0 cs w hb (by simpa using Nat.le_of_ble_eq_true hle) (by simpa using h1)
    simp only [Nat.add_zero, hc] at this
    simp [run_sz hs, hl, this]) (k _ (Upd.setRow hb))
/-- A store into an element of a row of one's own. -/
theorem own_set {v : Value} {e : TypeId} {sz n : Nat} {vs : List Value} (h : w.ownsRow 0 e sz v n vs) {j : Nat} (hj : j < vs.length) (u : Value) :
    ∃ ad old, elemPtr v j = .pointer (some ad) ∧ w.cell? ad = some old ∧ w.frozen? ad = false ∧ Upd w [row v e sz n vs] (w.setCell ad u) [row v e sz n (vs.set j u)] := by
  obtain ⟨h1, h2⟩ := h
  rcases h2 with ⟨rfl, rfl⟩ | ⟨g, cap, cur, rfl, _, h3, h4, h5, h6, h7⟩
  · omega
  · have hlt : j < cur.size := by
      have : vs.length ≤ cur.size := by rw [← h7]; simp; omega
      omega
    refine ⟨⟨g, j, none⟩, cur[j], by simp [elemPtr, add_off], by rw [cells_of_blk h3]; exact Array.getElem?_eq_getElem hlt, by simp [World.frozen?, h3], ?_⟩
    refine ⟨⟨fun c hc => ?_, by simp [ats, row, Value.ownBlock]⟩, ⟨rfl, rfl, rfl, by simp [World.setCell], fun k hk hs => ?_⟩, fun g' hg => ?_⟩
    · simp only [List.mem_singleton] at hc; subst hc
      refine ⟨by simpa using h1, .inr ⟨g, cap, cur.setIfInBounds j u, rfl, Nat.zero_le _, by simp [World.setCell, Array.getElem?_modify, h3], h4, h5, by simp [h6], ?_⟩⟩
      rw [← h7]
      simp only [Array.toList_setIfInBounds]
      have hjn : j < n * sz := by omega
      apply List.ext_getElem?
      intro i
      simp only [List.getElem?_take, List.getElem?_set, List.length_take]
      by_cases hi : i < n * sz
      · by_cases hij : j = i
        · subst hij; simp [hi, hlt]; omega
        · simp [hi, hij]
      · have : j ≠ i := by omega
        simp [hi, this]
    · exact RowKit.Below.heap_setCell _ _ _ _ (by intro e'; subst e'; simp [ats, row, Value.ownBlock] at hs)
    · left; simpa [ats, row] using hg
theorem d_storeR {t : TypeId} {x y : Operand} {v : Value} {e : TypeId} {j sz n b : Nat} {vs : List Value} {z : Option Value} {u : Value} (hs : szOf P t = some (1, b, z)) (hx : ev Γ x = some (elemPtr v j)) (hy : ev Γ y = some u) (h1 : u.oneCell' = true)
    (ho : w.ownsRow 0 e sz v n vs) (hj : j < vs.length) (k : ∀ w', Upd w [row v e sz n vs] w' [row v e sz n (vs.set j u)] → K undef w') : Does P Γ w (.store t x y) ty K := by
  obtain ⟨ad, old, he, hc, hf, hu⟩ := own_set ho hj u
  exact d_store hs (he ▸ hx) hy h1 hc hf (k _ hu)

/-! ### Numbers, strings, bools -/
theorem wrap_in {k : IntKind} {x : Int} (h : (if k.signed then -(2 ^ (k.bits - 1) : Int) else 0) ≤ x ∧ x ≤ k.max) : k.wrap x = x := by
  cases k <;> simp only [IntKind.signed, IntKind.bits, IntKind.max, IntKind.wrap, if_true, Bool.false_eq_true, if_false, Bool.true_and, Bool.false_and] at * <;> (try split) <;> simp_all <;> omega
theorem wrap_i64 {x : Int} (h : -9223372036854775808 ≤ x) (h' : x ≤ 9223372036854775807) : IntKind.i64.wrap x = x := wrap_in (by simpa [IntKind.signed, IntKind.bits, IntKind.max] using ⟨h, h'⟩)
theorem wrap_u8 {x : Int} (h : 0 ≤ x) (h' : x ≤ 255) : IntKind.u8.wrap x = x := wrap_in (by simpa [IntKind.signed, IntKind.bits, IntKind.max] using ⟨h, h'⟩)

theorem d_arith {op : BinOp} {xt yt : TypeId} {x y : Operand} {kd : IntKind} {a b : Int} (r : Int) (hx : ev Γ x = some (.int kd a)) (hy : ev Γ y = some (.int kd b))
    (hr : (match op with | .add => some (kd.wrap (a + b)) | .sub => some (kd.wrap (a - b)) | .mul => some (kd.wrap (a * b)) | _ => none) = some r) (k : K (.int kd r) w) : Does P Γ w (.binOp op xt x y yt) ty K :=
  Does.of_run (fun ρ hρ => by
    cases op <;> simp only [reduceCtorEq, Option.some.injEq] at hr <;> subst hr <;>
    simp [ex, execOp, hρ x _ hx, hρ y _ hy, eqGuard, binOp, Op.intArith]) k
theorem d_add {xt yt : TypeId} {x y : Operand} {a b : Int} (hx : ev Γ x = some (.int .i64 a)) (hy : ev Γ y = some (.int .i64 b)) (h : -9223372036854775808 ≤ a + b) (h' : a + b ≤ 9223372036854775807) (k : K (.int .i64 (a + b)) w) : Does P Γ w (.binOp .add xt x y yt) ty K :=
  d_arith (a + b) hx hy (by rw [wrap_i64 h h']) k
theorem d_sub {xt yt : TypeId} {x y : Operand} {a b : Int} (hx : ev Γ x = some (.int .i64 a)) (hy : ev Γ y = some (.int .i64 b)) (h : -9223372036854775808 ≤ a - b) (h' : a - b ≤ 9223372036854775807) (k : K (.int .i64 (a - b)) w) : Does P Γ w (.binOp .sub xt x y yt) ty K :=
  d_arith (a - b) hx hy (by rw [wrap_i64 h h']) k
theorem d_mul {xt yt : TypeId} {x y : Operand} {a b : Int} (hx : ev Γ x = some (.int .i64 a)) (hy : ev Γ y = some (.int .i64 b)) (h : -9223372036854775808 ≤ a * b) (h' : a * b ≤ 9223372036854775807) (k : K (.int .i64 (a * b)) w) : Does P Γ w (.binOp .mul xt x y yt) ty K :=
  d_arith (a * b) hx hy (by rw [wrap_i64 h h']) k
def cmpOf : BinOp → Int → Int → Option Bool
  | .eql, a, b => some (decide (a = b))
  | .neq, a, b => some (decide (a ≠ b))
  | .lss, a, b => some (decide (a < b))
  | .leq, a, b => some (decide (a ≤ b))
  | .gtr, a, b => some (decide (a > b))
  | .geq, a, b => some (decide (a ≥ b))
  | _, _, _ => none
theorem d_cmp {op : BinOp} {xt yt : TypeId} {x y : Operand} {kd : IntKind} {a b : Int} (r : Bool) (hx : ev Γ x = some (.int kd a)) (hy : ev Γ y = some (.int kd b)) (hr : cmpOf op a b = some r) (k : K (.bool r) w) : Does P Γ w (.binOp op xt x y yt) ty K :=
  Does.of_run (fun ρ hρ => by
    cases op <;> simp only [cmpOf, reduceCtorEq, Option.some.injEq] at hr <;> subst hr <;>
    simp [ex, execOp, hρ x _ hx, hρ y _ hy, eqGuard, binOp, Op.intCmp] <;> (try (by_cases h : a = b <;> simp [h]))) k
theorem toList_inj {a b : ByteArray} : (a.toList == b.toList) = decide (a = b) := by
  by_cases h : a = b
  · subst h; simp
  · have : a.toList ≠ b.toList := fun e => h (by
      have h2 : a.data.toList = b.data.toList := by rw [← ByteArray.toList_eq, ← ByteArray.toList_eq, e]
      cases a; cases b; simp only [ByteArray.mk.injEq]; exact Array.ext' h2)
    simp [h, this]
theorem d_streq {xt yt : TypeId} {x y : Operand} {a b : ByteArray} (hx : ev Γ x = some (.string a)) (hy : ev Γ y = some (.string b)) (k : K (.bool (decide (a = b))) w) : Does P Γ w (.binOp .eql xt x y yt) ty K :=
  Does.of_run (fun ρ hρ => by simp [ex, execOp, hρ x _ hx, hρ y _ hy, eqGuard, binOp, Op.stringOp, toList_inj]) k
theorem d_strne {xt yt : TypeId} {x y : Operand} {a b : ByteArray} (hx : ev Γ x = some (.string a)) (hy : ev Γ y = some (.string b)) (k : K (.bool (decide (a ≠ b))) w) : Does P Γ w (.binOp .neq xt x y yt) ty K :=
  Does.of_run (fun ρ hρ => by simp [ex, execOp, hρ x _ hx, hρ y _ hy, eqGuard, binOp, Op.stringOp, toList_inj]) k
theorem d_concat {xt yt : TypeId} {x y : Operand} {a b : ByteArray} (hx : ev Γ x = some (.string a)) (hy : ev Γ y = some (.string b)) (h : a.size + b.size ≤ 9223372036854775807) (k : K (.string (a ++ b)) w) : Does P Γ w (.binOp .add xt x y yt) ty K :=
  Does.of_run (fun ρ hρ => by
    have : ¬ (((a.size + b.size : Nat) : Int) > IntKind.i64.max) := by simp [IntKind.max, IntKind.signed, IntKind.bits]; omega
    simp only [ex, execOp, hρ x _ hx, hρ y _ hy, eqGuard, binOp, Op.stringOp, if_neg this]
    simp) k
theorem run_equal_bool {t : TypeId} (ht : P.underlying t = some .bool) (a b : Bool) (d : Nat) : (Op.equalIn (d + 1) t (.bool a) (.bool b)).run P w = .ok (a == b) w := by
  simp [Op.equalIn, run_underlying ht]
theorem run_equal_ptr {t e : TypeId} (ht : P.underlying t = some (.pointer e)) (a : Option Addr) (d : Nat) : (Op.equalIn (d + 1) t (.pointer a) (.pointer none)).run P w = .ok (decide (a = none)) w := by
  cases a <;> simp [Op.equalIn, run_underlying ht]
theorem run_equal_slc {t e : TypeId} (ht : P.underlying t = some (.slice e)) (a : Option Addr) (n c d : Nat) : (Op.equalIn (d + 1) t (.slice a n c) (.slice none 0 0)).run P w = .ok (decide (a = none)) w := by
  cases a <;> simp [Op.equalIn, run_underlying ht]
theorem run_equal {t : TypeId} {x y : Value} {r : Bool} (h : ∀ d, (Op.equalIn (d + 1) t x y).run P w = .ok r w) : (Op.equal t x y).run P w = .ok r w := h 9999
theorem d_booleq {xt yt : TypeId} {x y : Operand} {a b : Bool} (ht : P.underlying xt = some .bool) (hx : ev Γ x = some (.bool a)) (hy : ev Γ y = some (.bool b)) (k : K (.bool (decide (a = b))) w) : Does P Γ w (.binOp .eql xt x y yt) ty K :=
  Does.of_run (fun ρ hρ => by
    have := run_equal (w := w) (fun d => run_equal_bool (w := w) ht a b d)
    simp [ex, execOp, hρ x _ hx, hρ y _ hy, eqGuard, binOp, this]; cases a <;> cases b <;> rfl) k
theorem d_boolne {xt yt : TypeId} {x y : Operand} {a b : Bool} (ht : P.underlying xt = some .bool) (hx : ev Γ x = some (.bool a)) (hy : ev Γ y = some (.bool b)) (k : K (.bool (decide (a ≠ b))) w) : Does P Γ w (.binOp .neq xt x y yt) ty K :=
  Does.of_run (fun ρ hρ => by
    have := run_equal (w := w) (fun d => run_equal_bool (w := w) ht a b d)
    simp [ex, execOp, hρ x _ hx, hρ y _ hy, eqGuard, binOp, this]; cases a <;> cases b <;> rfl) k
theorem d_ptrnil {xt yt e : TypeId} {x : Operand} {a : Option Addr} (ht : P.underlying xt = some (.pointer e)) (hx : ev Γ x = some (.pointer a)) (k : K (.bool (decide (a = none))) w) : Does P Γ w (.binOp .eql xt x (.const (.pointer none)) yt) ty K :=
  Does.of_run (fun ρ hρ => by
    have hc : ρ (.const (.pointer none)) = .pointer none := hρ _ _ rfl
    have := run_equal (w := w) (fun d => run_equal_ptr (w := w) ht a d)
    simp [ex, execOp, hρ x _ hx, hc, eqGuard, binOp, this]) k
theorem d_slcnil {xt yt e : TypeId} {x : Operand} {a : Option Addr} {n c : Nat} (ht : P.underlying xt = some (.slice e)) (hx : ev Γ x = some (.slice a n c)) (k : K (.bool (decide (a = none))) w) : Does P Γ w (.binOp .eql xt x (.const (.slice none 0 0)) yt) ty K :=
  Does.of_run (fun ρ hρ => by
    have hc : ρ (.const (.slice none 0 0)) = .slice none 0 0 := hρ _ _ rfl
    have := run_equal (w := w) (fun d => run_equal_slc (w := w) ht a n c d)
    simp [ex, execOp, hρ x _ hx, hc, eqGuard, binOp, this]) k
theorem d_not {xt : TypeId} {x : Operand} {p : Prop} [Decidable p] (hx : ev Γ x = some (.bool (decide p))) (k : K (.bool (decide (¬ p))) w) : Does P Γ w (.unOp .not xt x) ty K :=
  Does.of_run (fun ρ hρ => by simp [ex, execOp, hρ x _ hx, Op.unary]) k
theorem d_notB {xt : TypeId} {x : Operand} {b : Bool} (hx : ev Γ x = some (.bool b)) (k : K (.bool (!b)) w) : Does P Γ w (.unOp .not xt x) ty K :=
  Does.of_run (fun ρ hρ => by simp [ex, execOp, hρ x _ hx, Op.unary]) k
theorem d_quo {xt yt : TypeId} {x y : Operand} {a b : Int} (hx : ev Γ x = some (.int .i64 a)) (hy : ev Γ y = some (.int .i64 b)) (h0 : 0 ≤ a) (hb : 0 < b) (h' : a ≤ 9223372036854775807) (k : K (.int .i64 (a / b)) w) : Does P Γ w (.binOp .quo xt x y yt) ty K :=
  Does.of_run (fun ρ hρ => by
    have h1 : a.tdiv b = a / b := Int.tdiv_eq_ediv_of_nonneg h0
    have h2 : 0 ≤ a / b := Int.ediv_nonneg h0 (by omega)
    have h3 : a / b ≤ a := Int.ediv_le_self _ h0
    have hb' : b ≠ 0 := by omega
    simp [ex, execOp, hρ x _ hx, hρ y _ hy, eqGuard, binOp, Op.intDiv, hb', h1, wrap_i64 (x := a / b) (by omega) (by omega)]) k
theorem d_rem {xt yt : TypeId} {x y : Operand} {kd : IntKind} {a b : Int} (hx : ev Γ x = some (.int kd a)) (hy : ev Γ y = some (.int kd b)) (hb : b ≠ 0) (k : K (.int kd (a.tmod b)) w) : Does P Γ w (.binOp .rem xt x y yt) ty K :=
  Does.of_run (fun ρ hρ => by simp [ex, execOp, hρ x _ hx, hρ y _ hy, eqGuard, binOp, Op.intDiv, hb]) k
theorem d_remN {xt yt : TypeId} {x y : Operand} {kd : IntKind} {a b : Int} (hx : ev Γ x = some (.int kd a)) (hy : ev Γ y = some (.int kd b)) (h0 : 0 ≤ a) (hb : 0 < b) (k : K (.int kd (a % b)) w) : Does P Γ w (.binOp .rem xt x y yt) ty K :=
  d_rem hx hy (by omega) (by rw [Int.tmod_eq_emod_of_nonneg h0]; exact k)
/-- Any operation on two whole numbers, as the model has it. -/
theorem d_bits {op : BinOp} {xt yt : TypeId} {x y : Operand} {kd : IntKind} {a b : Int} (r : Int) (hx : ev Γ x = some (.int kd a)) (hy : ev Γ y = some (.int kd b))
    (hr : (match op with
      | .and => some (kd.wrap (BitVec.ofInt kd.bits a &&& BitVec.ofInt kd.bits b).toNat)
      | .or => some (kd.wrap (BitVec.ofInt kd.bits a ||| BitVec.ofInt kd.bits b).toNat)
      | .xor => some (kd.wrap (BitVec.ofInt kd.bits a ^^^ BitVec.ofInt kd.bits b).toNat)
      | .andNot => some (kd.wrap (BitVec.ofInt kd.bits a &&& ~~~BitVec.ofInt kd.bits b).toNat)
      | _ => none) = some r) (k : K (.int kd r) w) : Does P Γ w (.binOp op xt x y yt) ty K :=
  Does.of_run (fun ρ hρ => by
    cases op <;> simp only [reduceCtorEq, Option.some.injEq] at hr <;> subst hr <;>
    simp [ex, execOp, hρ x _ hx, hρ y _ hy, eqGuard, binOp, Op.intBits]) k
theorem d_shl {xt yt : TypeId} {x y : Operand} {kd ky : IntKind} {a b : Int} (hx : ev Γ x = some (.int kd a)) (hy : ev Γ y = some (.int ky b)) (hb : 0 ≤ b) (k : K (.int kd (kd.wrap (a * 2 ^ (min b.toNat kd.bits)))) w) : Does P Γ w (.binOp .shl xt x y yt) ty K :=
  Does.of_run (fun ρ hρ => by
    have : ¬ b < 0 := by omega
    simp [ex, execOp, hρ x _ hx, hρ y _ hy, eqGuard, binOp, Op.shift, this]) k
theorem d_shr {xt yt : TypeId} {x y : Operand} {kd ky : IntKind} {a b : Int} (hx : ev Γ x = some (.int kd a)) (hy : ev Γ y = some (.int ky b)) (hb : 0 ≤ b) (k : K (.int kd (a.fdiv (2 ^ (min b.toNat kd.bits)))) w) : Does P Γ w (.binOp .shr xt x y yt) ty K :=
  Does.of_run (fun ρ hρ => by
    have : ¬ b < 0 := by omega
    simp [ex, execOp, hρ x _ hx, hρ y _ hy, eqGuard, binOp, Op.shift, this]) k
theorem d_conv {src dst : TypeId} {x : Operand} {kd ks : IntKind} {ds : TypeDesc} {a : Int} (hs : P.underlying src = some ds) (hd : P.underlying dst = some (.int kd)) (hx : ev Γ x = some (.int ks a)) (k : K (.int kd (kd.wrap a)) w) : Does P Γ w (.convert src dst x) ty K :=
  Does.of_run (fun ρ hρ => by simp [ex, execOp, hρ x _ hx, convert, run_underlying hs, run_underlying hd, Conv.intToInt]) k
theorem d_convI {src dst : TypeId} {x : Operand} {kd ks : IntKind} {ds : TypeDesc} {a : Int} (hs : P.underlying src = some ds) (hd : P.underlying dst = some (.int kd)) (hx : ev Γ x = some (.int ks a)) (h : (if kd.signed then -(2 ^ (kd.bits - 1) : Int) else 0) ≤ a ∧ a ≤ kd.max) (k : K (.int kd a) w) : Does P Γ w (.convert src dst x) ty K :=
  d_conv hs hd hx (by rw [wrap_in h]; exact k)

/-! ### len, slices, strings -/
theorem d_lenS {x : Operand} {t e : TypeId} {a : Option Addr} {n c : Nat} (ht : P.underlying t = some (.slice e)) (hx : ev Γ x = some (.slice a n c)) (k : K (.int .i64 n) w) : Does P Γ w (.call { callee := .builtin .len, args := #[x], argTypes := #[t] }) ty K :=
  Does.of_run (fun ρ hρ => by simp [ex, execOp, hρ x _ hx, resolve, invoke, builtin, Builtin.len_, run_underlying ht, goInt]) k
theorem d_lenR {x : Operand} {t e : TypeId} {v : Value} {sz n : Nat} {vs : List Value} (ht : P.underlying t = some (.slice e)) (hx : ev Γ x = some v) (hr : Rd w v sz n vs) (k : K (.int .i64 n) w) : Does P Γ w (.call { callee := .builtin .len, args := #[x], argTypes := #[t] }) ty K := by
  obtain ⟨A, cap, rfl, _⟩ := hr
  exact d_lenS ht hx k
theorem d_lenStr {x : Operand} {t : TypeId} {s : ByteArray} (ht : P.underlying t = some .string) (hx : ev Γ x = some (.string s)) (k : K (.int .i64 s.size) w) : Does P Γ w (.call { callee := .builtin .len, args := #[x], argTypes := #[t] }) ty K :=
  Does.of_run (fun ρ hρ => by simp [ex, execOp, hρ x _ hx, resolve, invoke, builtin, Builtin.len_, run_underlying ht, goInt]) k
theorem d_idxStr {t : TypeId} {x ix : Operand} {s : ByteArray} {kd : IntKind} {i : Int} (ht : P.underlying t = some .string) (hx : ev Γ x = some (.string s)) (hi : ev Γ ix = some (.int kd i)) (h0 : 0 ≤ i) (h1 : i.toNat < s.size) (k : K (.int .u8 (s[i.toNat]'h1).toNat) w) : Does P Γ w (.index t x ix) ty K :=
  Does.of_run (fun ρ hρ => by
    simp only [ex, execOp, hρ x _ hx, hρ ix _ hi, Instr.index, asIntOf]
    simp [run_underlying ht, h0, h1]) k
theorem d_idxArr {t e : TypeId} {x ix : Operand} {cs : Array Value} {len b : Nat} {d : TypeDesc} {z : Option Value} {kd : IntKind} {i : Int} {v : Value} (ht : P.underlying t = some (.array len e)) (he : P.underlying e = some d) (hd : aggD d = false) (hs : szOf P e = some (1, b, z)) (hx : ev Γ x = some (.agg cs)) (hi : ev Γ ix = some (.int kd i))
    (h0 : 0 ≤ i) (h1 : i < len) (hv : cs[i.toNat]? = some v) (k : K v w) : Does P Γ w (.index t x ix) ty K :=
  Does.of_run (fun ρ hρ => by
    simp only [ex, execOp, hρ x _ hx, hρ ix _ hi, Instr.index, asIntOf, part]
    simp [run_underlying ht, run_sz hs, run_isAgg he, hd, h0, h1, hv]) k
theorem d_idxAddrArr {t e : TypeId} {x ix : Operand} {ad : Addr} {len sz b : Nat} {z : Option Value} {kd : IntKind} {i : Int} (ht : P.underlying t = some (.array len e)) (hs : szOf P e = some (sz, b, z)) (hx : ev Γ x = some (.pointer (some ad))) (hi : ev Γ ix = some (.int kd i))
    (h0 : 0 ≤ i) (h1 : i < len) (k : K (.pointer (some (ad.add (i.toNat * sz)))) w) : Does P Γ w (.indexAddr t x ix) ty K :=
  Does.of_run (fun ρ hρ => by
    simp only [ex, execOp, hρ x _ hx, hρ ix _ hi, Instr.indexAt, asIntOf, Instr.sureAddr]
    simp [run_underlying ht, run_sz hs, h0, h1]) k
def bdOk (lo hi cap : Int) : Prop := 0 ≤ lo ∧ lo ≤ hi ∧ hi ≤ cap
theorem run_sliceBounds {b : Bool} {len cap : Nat} {lo hi : Option Value} {l h : Int} (hlo : lo = none ∧ l = 0 ∨ ∃ kd, lo = some (.int kd l)) (hhi : hi = none ∧ h = len ∨ ∃ kd, hi = some (.int kd h)) (hk : bdOk l h cap) :
    (Instr.sliceBounds b len cap lo hi none).run P w = .ok (l.toNat, h.toNat, cap) w := by
  obtain ⟨h1, h2, h3⟩ := hk
  have e1 : 0 ≤ h := by omega
  have e2 : (l : Int) ≤ ((h.toNat : Nat) : Int) := by omega
  rcases hlo with ⟨rfl, rfl⟩ | ⟨kd, rfl⟩ <;> rcases hhi with ⟨rfl, rfl⟩ | ⟨kd', rfl⟩
  · simp [Instr.sliceBounds]
  · simp [Instr.sliceBounds, Instr.sliceBound, asIntOf, e1, h3]
  · simp [Instr.sliceBounds, Instr.sliceBound, asIntOf, h1, h2]
  · have : l ≤ max h 0 := by omega
    simp [Instr.sliceBounds, Instr.sliceBound, asIntOf, e1, h1, h3, this]
def evO (Γ : Env) : Option Operand → Option (Option Value)
  | none => some none
  | some x => (ev Γ x).map some
theorem AgR.evO {ρ : Operand → Value} (h : AgR ρ Γ) {x : Option Operand} {v : Option Value} (e : evO Γ x = some v) : x.map ρ = v := by
  cases x with
  | none => simp [Sx.evO] at e; simp [e]
  | some x =>
    simp only [Sx.evO] at e
    cases hv : ev Γ x with
    | none => rw [hv] at e; simp at e
    | some u => rw [hv] at e; simp at e; simp [h x u hv, e]
theorem d_substr {t : TypeId} {x : Operand} {lo hi : Option Operand} {vlo vhi : Option Value} {s : ByteArray} (l h : Int) (ht : P.underlying t = some .string) (hx : ev Γ x = some (.string s)) (hlo : evO Γ lo = some vlo) (hhi : evO Γ hi = some vhi)
    (el : vlo = none ∧ l = 0 ∨ ∃ kd, vlo = some (.int kd l)) (eh : vhi = none ∧ h = s.size ∨ ∃ kd, vhi = some (.int kd h)) (hk : bdOk l h s.size) (k : K (.string (s.extract l.toNat h.toNat)) w) : Does P Γ w (.slice t x lo hi none) ty K :=
  Does.of_run (fun ρ hρ => by
    simp only [ex, execOp, hρ x _ hx, hρ.evO hlo, hρ.evO hhi, Instr.sliceAt, Instr.slice, Option.map_none]
    simp [run_underlying ht, run_sliceBounds (P := P) (w := w) (b := false) el eh hk]) k
/-- What reslicing makes. -/
def subSlice (v : Value) (sz : Nat) (l h : Nat) : Value :=
  match v with
  | .slice a _ c => .slice (if c = l then a else a.map (·.add (l * sz))) (h - l) (c - l)
  | v => v
theorem d_slice {t e : TypeId} {x : Operand} {lo hi : Option Operand} {vlo vhi : Option Value} {A : Option Addr} {n c sz b : Nat} {z : Option Value} (l h : Int) (ht : P.underlying t = some (.slice e)) (hs : szOf P e = some (sz, b, z)) (hx : ev Γ x = some (.slice A n c)) (hlo : evO Γ lo = some vlo) (hhi : evO Γ hi = some vhi)
    (el : vlo = none ∧ l = 0 ∨ ∃ kd, vlo = some (.int kd l)) (eh : vhi = none ∧ h = n ∨ ∃ kd, vhi = some (.int kd h)) (hk : bdOk l h c) (k : K (subSlice (.slice A n c) sz l.toNat h.toNat) w) : Does P Γ w (.slice t x lo hi none) ty K :=
  Does.of_run (fun ρ hρ => by
    simp only [ex, execOp, hρ x _ hx, hρ.evO hlo, hρ.evO hhi, Instr.sliceAt, Instr.slice, Option.map_none]
    simp [run_underlying ht, run_sz hs, run_sliceBounds (P := P) (w := w) (b := true) el eh hk, subSlice]) k

/-! ### Calls -/
theorem map_evs {ρ : Operand → Value} {xs : Array Operand} {vs : List Value} (hρ : AgR ρ Γ) (hx : evs Γ xs.toList = some vs) : xs.map ρ = vs.toArray := by
  have := hρ.evs _ _ hx
  rw [← this, ← Array.toList_map]
def CallOk (P : Program) (f : FuncId) : Prop := ∀ args w, (callFunc f args).run P w = .ok (.enter f args) w
theorem callOk {f : FuncId} {fn : Func} (hf : P.funcs[f]? = some fn) (hn : (fn.name == "runtime.NumGoroutine") = false) (hb : fn.body.isNone = false) : CallOk P f := by
  intro args w
  have hn' : ¬ (fn.name = "runtime.NumGoroutine") := by simpa using hn
  have hb' : ¬ (fn.body = none) := by cases h : fn.body <;> simp [h] at hb ⊢
  simp [callFunc, hf, hn', hb']
theorem d_call {f : FuncId} {xs : Array Operand} {ts : Array TypeId} {vs : List Value} (hc : CallOk P f) (hx : evs Γ xs.toList = some vs) (h : Calls P f vs.toArray w (Ret K)) : Does P Γ w (.call { callee := .value (.func f), args := xs, argTypes := ts }) ty K := by
  intro ρ hρ
  have h1 : ρ (.func f) = .func (.func f) #[] #[] := hρ _ _ rfl
  have h2 : xs.map ρ = vs.toArray := map_evs hρ hx
  simp only [ex, execOp, resolve, h1, h2, Deferred.ofValue]
  have := hc vs.toArray w
  simp [invoke, this]
  exact h
/-- A function value is called. -/
theorem d_callv {f : FuncId} {g : Operand} {first capt : Array Value} {xs : Array Operand} {ts : Array TypeId} {vs : List Value} (hc : CallOk P f) (hg : ev Γ g = some (.func (.func f) first capt)) (hx : evs Γ xs.toList = some vs)
    (h : Calls P f (first ++ vs.toArray ++ capt) w (Ret K)) : Does P Γ w (.call { callee := .value g, args := xs, argTypes := ts }) ty K := by
  intro ρ hρ
  have h1 := hρ _ _ hg
  have h2 : xs.map ρ = vs.toArray := map_evs hρ hx
  simp only [ex, execOp, resolve, h1, h2, Deferred.ofValue]
  have := hc (first ++ vs.toArray ++ capt) w
  simp only [Array.append_assoc] at this
  simp [invoke, this]
  simpa using h
theorem d_makeFunc {fn : Fn} {first capt : Array Operand} {fs cs : List Value} (h1 : evs Γ first.toList = some fs) (h2 : evs Γ capt.toList = some cs) (k : K (.func fn fs.toArray cs.toArray) w) : Does P Γ w (.makeFunc fn first capt) ty K :=
  Does.of_run (fun ρ hρ => by
    have e1 : first.map ρ = fs.toArray := map_evs hρ h1
    have e2 : capt.map ρ = cs.toArray := map_evs hρ h2
    simp [ex, execOp, e1, e2, Instr.makeFunc]) k

/-! ### New memory -/
theorem d_box {e : TypeId} {x : Operand} {v : Value} (hx : ev Γ x = some v) (k : ∀ w', Upd w [] w' [blk w.heap.size v.cells e] → K (.pointer (some ⟨w.heap.size, 0, none⟩)) w') : Does P Γ w (.box e x) ty K :=
  Does.of_run (w' := w.alloc (.cells v.cells e)) (fun ρ hρ => by simp [ex, execOp, hρ x _ hx, Instr.box, newVar, newRow, newObj, Sem.run]) (k _ (Upd.alloc w _ e))
theorem d_alloc {e : TypeId} {s b : Nat} {z : Value} (hs : szOf P e = some (s, b, some z)) (k : ∀ w', Upd w [] w' [blk w.heap.size z.cells e] → K (.pointer (some ⟨w.heap.size, 0, none⟩)) w') : Does P Γ w (.alloc e) ty K :=
  Does.of_run (w' := w.alloc (.cells z.cells e)) (fun ρ hρ => by simp [ex, execOp, Instr.alloc, run_zero hs, newVar, newRow, newObj, Sem.run]) (k _ (Upd.alloc w _ e))
end
end Go.Sx
