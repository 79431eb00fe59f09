/- Slices of whatever elements: read, owned, written, appended to. -/
import Derived.Test.YtoeockpkkmgieaaSx5
namespace Go.Sx
set_option linter.unusedVariables false
set_option linter.unusedSimpArgs false

/-- How an element lies in cells. -/
structure Ty (α : Type) where
  sz : Nat
  enc : α → List Value
  len : ∀ x, (enc x).length = sz
  one : ∀ x u, u ∈ enc x → u.oneCell' = true
  pos : 0 < sz
def Ty.all {α : Type} (T : Ty α) (xs : List α) : List Value := xs.flatMap T.enc
def tyI (k : IntKind) : Ty Int := ⟨1, fun x => [.int k x], fun _ => rfl, fun x u h => by simp only [List.mem_singleton] at h; subst h; rfl, by omega⟩
def tyB : Ty Bool := ⟨1, fun x => [.bool x], fun _ => rfl, fun x u h => by simp only [List.mem_singleton] at h; subst h; rfl, by omega⟩
def tyS : Ty ByteArray := ⟨1, fun x => [.string x], fun _ => rfl, fun x u h => by simp only [List.mem_singleton] at h; subst h; rfl, by omega⟩
/-- A slice's own three numbers. -/
structure Sl where
  a : Option Addr
  n : Nat
  c : Nat
def tyL : Ty Sl := ⟨1, fun x => [.slice x.a x.n x.c], fun _ => rfl, fun x u h => by simp only [List.mem_singleton] at h; subst h; rfl, by omega⟩

section
variable {α : Type} (T : Ty α)
theorem Ty.all_length (xs : List α) : (T.all xs).length = xs.length * T.sz := by
  induction xs with
  | nil => simp [Ty.all]
  | cons x xs ih => simp only [Ty.all, List.flatMap_cons, List.length_append, T.len, List.length_cons, Nat.add_mul, Nat.one_mul] at *; rw [ih]; omega
theorem Ty.all_append (xs ys : List α) : T.all (xs ++ ys) = T.all xs ++ T.all ys := by simp [Ty.all]
theorem Ty.all_one (xs : List α) : ∀ u ∈ T.all xs, u.oneCell' = true := by
  intro u hu
  simp only [Ty.all, List.mem_flatMap] at hu
  obtain ⟨x, _, hx⟩ := hu
  exact T.one x u hx
theorem Ty.all_at (d : α) : ∀ (xs : List α) (i j : Nat), i < xs.length → j < T.sz → (T.all xs)[i * T.sz + j]? = (T.enc (xs.getD i d))[j]?
  | [], i, j, h, _ => by simp at h
  | x :: xs, 0, j, _, hj => by
    simp only [Ty.all, List.flatMap_cons, Nat.zero_mul, Nat.zero_add, List.getD_cons_zero]
    rw [List.getElem?_append_left (by rw [T.len]; exact hj)]
  | x :: xs, i + 1, j, h, hj => by
    simp only [Ty.all, List.flatMap_cons, List.getD_cons_succ]
    rw [List.getElem?_append_right (by rw [T.len, Nat.add_mul]; omega), T.len, ← Ty.all_at d xs i j (by simpa using h) hj]
    congr 1
    rw [Nat.add_mul]; omega
theorem Ty.all_at1 (h1 : T.sz = 1) (d : α) (xs : List α) (i : Nat) (h : i < xs.length) : (T.all xs)[i]? = (T.enc (xs.getD i d))[0]? := by
  have := T.all_at d xs i 0 h (by omega)
  simpa [h1] using this
theorem Ty.all_part (d : α) (xs : List α) (i : Nat) (h : i < xs.length) : ((T.all xs).drop (i * T.sz)).take T.sz = T.enc (xs.getD i d) := by
  apply List.ext_getElem?
  intro j
  rw [List.getElem?_take]
  by_cases hj : j < T.sz
  · rw [if_pos hj, List.getElem?_drop, T.all_at d xs i j h hj]
  · rw [if_neg hj, List.getElem?_eq_none (by rw [T.len]; omega)]
theorem Ty.all_set (d : α) : ∀ (xs : List α) (i j : Nat) (x' : α) (u : Value), i < xs.length → j < T.sz → T.enc x' = (T.enc (xs.getD i d)).set j u → (T.all xs).set (i * T.sz + j) u = T.all (xs.set i x')
  | [], i, j, _, _, h, _, _ => by simp at h
  | x :: xs, 0, j, x', u, _, hj, he => by
    simp only [Ty.all, List.flatMap_cons, Nat.zero_mul, Nat.zero_add, List.set_cons_zero, List.getD_cons_zero] at *
    rw [List.set_append_left _ _ (by rw [T.len]; exact hj), he]
  | x :: xs, i + 1, j, x', u, h, hj, he => by
    simp only [Ty.all, List.flatMap_cons, List.set_cons_succ, List.getD_cons_succ] at *
    rw [List.set_append_right _ _ (by rw [T.len, Nat.add_mul]; omega), T.len]
    have ih := Ty.all_set d xs i j x' u (by simpa using h) hj he
    simp only [Ty.all] at ih
    rw [← ih]
    congr 2
    rw [Nat.add_mul]; omega

/-- A slice that is read. -/
def RdT (w : World) (v : Value) (xs : List α) : Prop := Rd w v T.sz xs.length (T.all xs)
/-- A slice of one's own. -/
def rowT (v : Value) (e : TypeId) (xs : List α) : Chunk := row v e T.sz xs.length (T.all xs)
end

section
variable {α : Type} {T : Ty α} {P : Program} {Γ : Env} {w : World} {ty : TypeId} {K : Value → World → Prop}
theorem RdT.kept {w' : World} {v : Value} {xs : List α} (h : RdT T w v xs) (k : Keep [] w w') : RdT T w' v xs := Rd.kept h k
theorem RdT.keep {w' : World} {v : Value} {xs : List α} {S : List Nat} (h : RdT T w v xs) (k : Keep S w w') (hS : ∀ g, Value.blk? v = some g → g ∉ S) : RdT T w' v xs := Rd.keep h k hS
theorem RdT.at {w' : World} {v : Value} {xs : List α} {G : List (List Chunk)} (h : RdT T w v xs) (k : UpG w [] w' G) : RdT T w' v xs := Rd.at h k
theorem RdT.nil (w : World) (A : Option Addr) (cap : Nat) : RdT T w (.slice A 0 cap) [] := ⟨A, cap, rfl, by simp [Ty.all], by simp, by simp [Ty.all]⟩
theorem RdT.le {v : Value} {xs : List α} (h : RdT T w v xs) : xs.length ≤ 9223372036854775807 := by obtain ⟨_, _, _, _, h, _⟩ := h; exact h
theorem UpG.rdT {w' : World} {L : List Chunk} {G : List (List Chunk)} {v : Value} {e : TypeId} {xs : List α} (h : UpG w L w' G) (i : Nat) (hi : G[i]? = some [rowT T v e xs]) : RdT T w' v xs := h.rd i hi
theorem UpG.ownT {w' : World} {L : List Chunk} {G : List (List Chunk)} {v : Value} {e : TypeId} {xs : List α} (h : UpG w L w' G) (i : Nat) (hi : G[i]? = some [rowT T v e xs]) : w'.ownsRow 0 e T.sz v xs.length (T.all xs) := h.own i hi
theorem UpG.re {w w' : World} {L : List Chunk} {G G' : List (List Chunk)} (h : UpG w L w' G) (e : G'.flatten = G.flatten) : UpG w L w' G' := by unfold UpG at *; rw [e]; exact h
theorem UpG.to {w w' : World} {L M : List Chunk} {G : List (List Chunk)} (h : UpG w L w' G) (e : M = G.flatten) : Upd w L w' M := e ▸ h
theorem UpG.cast {w w' : World} {L : List Chunk} {G G' : List (List Chunk)} (h : UpG w L w' G) (e : G = G') : UpG w L w' G' := e ▸ h
theorem hp_rdT {v : Value} {e : TypeId} {xs : List α} {L : List Chunk} (h : Hp w L) (hm : rowT T v e xs ∈ L) : RdT T w v xs := own_rd (row_own (h.holds _ hm))

theorem t_lenS {x : Operand} {t e : TypeId} {a : Option Addr} {n c : Nat} (ht : P.underlying t = some (.slice e)) (hx : ev Γ x = some (.slice a n c)) (k : K (.int .i64 ((n : Nat) : Int)) w) : Does P Γ w (.call { callee := .builtin .len, args := #[x], argTypes := #[t] }) ty K := d_lenS ht hx k
/-- '&xs[i]', elements of one cell. -/
theorem t_addr1 {t e : TypeId} {x ix : Operand} {v : Value} {kd : IntKind} {i : Int} {b : Nat} {z : Option Value} {xs : List α} (j : Nat) (hT : T.sz = 1) (ht : P.underlying t = some (.slice e)) (hs : szOf P e = some (1, b, z))
    (hx : ev Γ x = some v) (hi : ev Γ ix = some (.int kd i)) (hr : RdT T w v xs) (hij : i = ((j : Nat) : Int)) (hj : j < xs.length) (k : K (elemPtr v j) w) : Does P Γ w (.indexAddr t x ix) ty K := by
  subst hij
  unfold RdT at hr
  rw [hT] at hr
  exact d_indexAddr ht hs hx hi hr (by omega) (by omega) (by omega) (by simpa using k)
theorem t_addrN {t e : TypeId} {x ix : Operand} {v : Value} {kd : IntKind} {i : Int} {s b : Nat} {z : Option Value} {xs : List α} (j : Nat) (hT : T.sz = s) (ht : P.underlying t = some (.slice e)) (hs : szOf P e = some (s, b, z))
    (hx : ev Γ x = some v) (hi : ev Γ ix = some (.int kd i)) (hr : RdT T w v xs) (hij : i = ((j : Nat) : Int)) (hj : j < xs.length) (k : K (elemPtr v (j * s)) w) : Does P Γ w (.indexAddr t x ix) ty K := by
  subst hij
  subst hT
  exact d_indexAddr ht hs hx hi hr (by omega) (by omega) T.pos (by simpa using k)
theorem t_load1 {t : TypeId} {x : Operand} {v : Value} {xs : List α} {desc : TypeDesc} {u : Value} (j : Nat) (d : α) (hT : T.sz = 1) (ht : P.underlying t = some desc) (hd : aggD desc = false) (hx : ev Γ x = some (elemPtr v j)) (hr : RdT T w v xs) (hj : j < xs.length)
    (he : T.enc (xs.getD j d) = [u]) (k : K u w) : Does P Γ w (.load t x) ty K :=
  d_loadR ht hd hx hr (by rw [T.all_at1 hT d xs j hj, he]; rfl) k
theorem t_loadN {t : TypeId} {x : Operand} {v : Value} {xs : List α} {desc : TypeDesc} {s b : Nat} {z : Option Value} {us : List Value} (j : Nat) (d : α) (hT : T.sz = s) (ht : P.underlying t = some desc) (hd : aggD desc = true) (hs : szOf P t = some (s, b, z)) (hx : ev Γ x = some (elemPtr v (j * s))) (hr : RdT T w v xs) (hj : j < xs.length)
    (he : T.enc (xs.getD j d) = us) (k : K (.agg us.toArray) w) : Does P Γ w (.load t x) ty K := by
  subst hT
  exact d_loadAR us ht hd hs hx hr (by rw [← he, T.len]) T.pos (by rw [T.all_part d xs j hj, he]) k
/-- A field of an element. -/
theorem t_fld {t : TypeId} {x : Operand} {f off s sf : Nat} {g : Bool} {v : Value} {xs : List α} (j : Nat) (d : α) (hT : T.sz = s) (hf : fldOf P t f = some (off, sf, g)) (hs : Nat.beq sf 0 = false) (hx : ev Γ x = some (elemPtr v (j * s))) (hr : RdT T w v xs) (hj : j < xs.length) (k : K (elemPtr v (j * s + off)) w) : Does P Γ w (.fieldAddr t x f) ty K := by
  subst hT
  have h1 := T.all_at d xs j 0 hj T.pos
  rw [Nat.add_zero, List.getElem?_eq_getElem (l := T.enc (xs.getD j d)) (by rw [T.len]; exact T.pos)] at h1
  exact d_fieldAddrR hf hs hx hr h1 k
theorem t_loadF {t : TypeId} {x : Operand} {v : Value} {xs : List α} {desc : TypeDesc} {off s : Nat} {u : Value} (j : Nat) (d : α) (hT : T.sz = s) (hlt : Nat.blt off s = true) (ht : P.underlying t = some desc) (hd : aggD desc = false) (hx : ev Γ x = some (elemPtr v (j * s + off))) (hr : RdT T w v xs) (hj : j < xs.length)
    (he : (T.enc (xs.getD j d))[off]? = some u) (k : K u w) : Does P Γ w (.load t x) ty K := by
  subst hT
  exact d_loadR ht hd hx hr (by rw [T.all_at d xs j off hj (of_eq_true (Eq.trans Nat.blt_eq.symm (eq_true hlt))), he]) k
theorem t_store1 {t e : TypeId} {x y : Operand} {v : Value} {b : Nat} {z : Option Value} {xs : List α} {u : Value} (j : Nat) (x' : α) (hT : T.sz = 1) (hs : szOf P t = some (1, b, z)) (hx : ev Γ x = some (elemPtr v j)) (hy : ev Γ y = some u) (he : T.enc x' = [u])
    (ho : w.ownsRow 0 e T.sz v xs.length (T.all xs)) (hj : j < xs.length) (k : ∀ w', Upd w [rowT T v e xs] w' [rowT T v e (xs.set j x')] → K undef w') : Does P Γ w (.store t x y) ty K := by
  have hset : (T.all xs).set j u = T.all (xs.set j x') := by
    have := T.all_set (xs.getD j x') xs j 0 x' u hj (by omega) (by
      have h2 := T.len (xs.getD j (xs.getD j x'))
      rw [hT] at h2
      match h3 : T.enc (xs.getD j (xs.getD j x')), h2 with
      | [c], _ => rw [he]; rfl)
    simpa [hT] using this
  refine d_storeR hs hx hy (T.one x' u (by rw [he]; simp)) ho (by rw [T.all_length, hT]; omega) fun w' h => k w' ?_
  unfold rowT
  rw [List.length_set, ← hset]
  exact h
theorem t_append {s x : Operand} {t e : TypeId} {sz b c cx : Nat} {z : Value} {a A : Option Addr} {xs ys : List α} (hT : T.sz = sz) (ht : P.underlying t = some (.slice e)) (hs : szOf P e = some (sz, b, some z)) (hzs : z.cells.size = sz)
    (hev : ev Γ s = some (.slice a xs.length c)) (hx : ev Γ x = some (.slice A ys.length cx)) (ho : w.ownsRow 0 e T.sz (.slice a xs.length c) xs.length (T.all xs)) (hr : RdT T w (.slice A ys.length cx) ys) (hb : (xs.length + ys.length) * b ≤ 140737488355328) (h63 : xs.length + ys.length ≤ 9223372036854775807)
    (k : ∀ a' c' w', Upd w [rowT T (.slice a xs.length c) e xs] w' [rowT T (.slice a' (xs ++ ys).length c') e (xs ++ ys)] → K (.slice a' (xs ++ ys).length c') w') : Does P Γ w (.call { callee := .builtin .append, args := #[s, x], argTypes := #[t, t] }) ty K := by
  subst hT
  refine d_append ht hs hzs (of_eq_true (Eq.trans Nat.blt_eq (eq_true T.pos))) hev hx ho hr (T.all_one ys) hb h63 fun a' c' w' h => ?_
  have := k a' c' w'
  unfold rowT at this
  rw [List.length_append, T.all_append] at this
  exact this h
theorem t_made {g : Nat} {cs : Array Value} {e : TypeId} {w' : World} {xs : List α} {sz : Nat} (_hT : T.sz = sz) (h : Upd w [] w' [row (.slice (some ⟨g, 0, none⟩) xs.length xs.length) e sz xs.length cs.toList]) (hc : cs.toList = T.all xs) : Upd w [] w' [rowT T (.slice (some ⟨g, 0, none⟩) xs.length xs.length) e xs] := by
  unfold rowT
  rw [_hT, ← hc]
  exact h
theorem t_buildSlice {t e : TypeId} {len sz b : Nat} {z : Value} {ps : Array (Nat × Operand)} {vs : List (Nat × Value)} {cs : Array Value} {xs : List α} (hT : T.sz = sz) (ht : P.underlying t = some (.slice e)) (hs : szOf P e = some (sz, b, some z)) (hp : evp Γ ps.toList = some vs) (hlen : xs.length = len)
    (hsmall : Nat.ble (len * sz) 16777216 = true) (hpos : Nat.beq (len * sz) 0 = false)
    (hf : Instr.fill (fun i => some (i * sz, sz)) ((Array.range (len * sz)).map (z.cells[· % z.cells.size]!)) vs = some cs) (hcs : cs.size = len * sz) (hxs : cs.toList = T.all xs)
    (k : ∀ w', Upd w [] w' [rowT T (.slice (some ⟨w.heap.size, 0, none⟩) xs.length xs.length) e xs] → K (.slice (some ⟨w.heap.size, 0, none⟩) xs.length xs.length) w') : Does P Γ w (.buildSlice t len ps) ty K := by
  subst hlen
  exact d_buildSlice ht hs hp hsmall hpos hf hcs fun w' h => k w' (t_made hT h hxs)
theorem t_buildSlice0 {t e : TypeId} {sz b : Nat} {z : Option Value} (hT : T.sz = sz) (ht : P.underlying t = some (.slice e)) (hs : szOf P e = some (sz, b, z))
    (k : ∀ w', Upd w [] w' [rowT T (.slice (some ⟨w.heap.size, 0, none⟩) ([] : List α).length 0) e []] → K (.slice (some ⟨w.heap.size, 0, none⟩) ([] : List α).length 0) w') : Does P Γ w (.buildSlice t 0 #[]) ty K :=
  d_buildSlice0 ht hs fun w' h => k w' (by unfold rowT; rw [hT]; exact h)
theorem replicate_all (n : Nat) (d : α) : T.all (List.replicate n d) = (List.replicate n (T.enc d)).flatten := by
  induction n with
  | zero => rfl
  | succ n ih => simp only [List.replicate_succ, Ty.all, List.flatMap_cons, List.flatten_cons] at *; rw [ih]
theorem madeCells_all {z : Value} {d : α} (hz : z.cells.toList = T.enc d) (n : Nat) : (madeCells z.cells (n * T.sz)).toList = T.all (List.replicate n d) := by
  have hzs : z.cells.size = T.sz := by rw [← Array.length_toList, hz, T.len]
  apply List.ext_getElem?
  intro m
  by_cases hm : m < n * T.sz
  · have h1 : m = (m / T.sz) * T.sz + m % T.sz := by rw [Nat.mul_comm]; exact (Nat.div_add_mod m T.sz).symm
    have h2 : m % T.sz < T.sz := Nat.mod_lt _ T.pos
    have h3 : m / T.sz < n := Nat.div_lt_of_lt_mul (by rw [Nat.mul_comm]; exact hm)
    have h4 := T.all_at d (List.replicate n d) (m / T.sz) (m % T.sz) (by simpa using h3) h2
    rw [← h1] at h4
    rw [h4]
    have h5 : (List.replicate n d).getD (m / T.sz) d = d := by simp [List.getD_eq_getElem?_getD, h3]
    rw [h5, ← hz]
    have h6 : m % z.cells.size < z.cells.size := by rw [hzs]; exact h2
    simp [madeCells, hm, hzs, h2]
  · rw [List.getElem?_eq_none (by simp [madeCells]; omega), List.getElem?_eq_none (by rw [T.all_length]; simp; omega)]
/-- 'make([]T, n)'. -/
theorem t_make {t e : TypeId} {x y : Operand} {kx ky : IntKind} {sz b : Nat} {z : Value} {l : Int} (n : Nat) (d : α) (hT : T.sz = sz) (ht : P.underlying t = some (.slice e)) (hs : szOf P e = some (sz, b, some z)) (hz : z.cells.toList = T.enc d) (hx : ev Γ x = some (.int kx l)) (hy : ev Γ y = some (.int ky l))
    (hl : l = ((n : Nat) : Int)) (hb : b * n ≤ 140737488355328) (hc : n ≤ 9223372036854775807)
    (k : ∀ w', Upd w [] w' [rowT T (.slice (some ⟨w.heap.size, 0, none⟩) (List.replicate n d).length n) e (List.replicate n d)] → K (.slice (some ⟨w.heap.size, 0, none⟩) (List.replicate n d).length n) w') : Does P Γ w (.makeSlice t x y) ty K := by
  subst hl hT
  have hb' : (b : Int) * (n : Int) ≤ 140737488355328 := by
    have h : ((b * n : Nat) : Int) ≤ 140737488355328 := by omega
    rwa [Int.natCast_mul] at h
  refine d_make ht hs hx hy (by omega) (Int.le_refl _) hb' (by omega) fun w' h => ?_
  have := k w'
  unfold rowT at this
  rw [List.length_replicate, ← madeCells_all hz] at this
  simp only [Int.toNat_natCast] at h ⊢
  refine this ?_
  rw [List.take_of_length_le (by simp [size_madeCells])] at h
  exact h
/-- 'make([]T, 0, n)'. -/
theorem t_make0 {t e : TypeId} {x y : Operand} {kx ky : IntKind} {sz b : Nat} {z : Value} {l : Int} (n : Nat) (hT : T.sz = sz) (ht : P.underlying t = some (.slice e)) (hs : szOf P e = some (sz, b, some z)) (hx : ev Γ x = some (.int kx 0)) (hy : ev Γ y = some (.int ky l))
    (hl : l = ((n : Nat) : Int)) (hb : b * n ≤ 140737488355328) (hc : n ≤ 9223372036854775807)
    (k : ∀ w', Upd w [] w' [rowT T (.slice (some ⟨w.heap.size, 0, none⟩) ([] : List α).length n) e []] → K (.slice (some ⟨w.heap.size, 0, none⟩) ([] : List α).length n) w') : Does P Γ w (.makeSlice t x y) ty K := by
  subst hl hT
  have hb' : (b : Int) * (n : Int) ≤ 140737488355328 := by
    have h : ((b * n : Nat) : Int) ≤ 140737488355328 := by omega
    rwa [Int.natCast_mul] at h
  refine d_make ht hs hx hy (Int.le_refl _) (by omega) hb' (by omega) fun w' h => ?_
  simp only [Int.toNat_natCast, Int.toNat_zero, Nat.zero_mul, List.take_zero] at h ⊢
  exact k w' h
theorem Upd.nilRowT (w : World) (T : Ty α) (e : TypeId) : Upd w [] w [rowT T (.slice none ([] : List α).length 0) e []] := by
  refine ⟨⟨fun c hc => ?_, by simp [ats, rowT, row, Value.ownBlock]⟩, Keep.refl _ _, fun g hg => by simp [ats, rowT, row, Value.ownBlock] at hg⟩
  simp only [List.mem_singleton] at hc
  subst hc
  exact ⟨by simp [Ty.all], .inl ⟨rfl, rfl⟩⟩
end
/-- Structs: what a whole one, written out, holds. -/
theorem d_ptrnilF {P : Program} {Γ : Env} {w : World} {ty : TypeId} {K : Value → World → Prop} {xt yt e : TypeId} {x : Operand} {a : Addr} (ht : P.underlying xt = some (.pointer e)) (hx : ev Γ x = some (.pointer (some a))) (k : K (.bool false) w) : Does P Γ w (.binOp .eql xt x (.const (.pointer none)) yt) ty K :=
  d_ptrnil ht hx (by simpa using k)
theorem d_ptrnilT {P : Program} {Γ : Env} {w : World} {ty : TypeId} {K : Value → World → Prop} {xt yt e : TypeId} {x : Operand} (ht : P.underlying xt = some (.pointer e)) (hx : ev Γ x = some (.pointer none)) (k : K (.bool true) w) : Does P Γ w (.binOp .eql xt x (.const (.pointer none)) yt) ty K :=
  d_ptrnil ht hx (by simpa using k)
end Go.Sx
