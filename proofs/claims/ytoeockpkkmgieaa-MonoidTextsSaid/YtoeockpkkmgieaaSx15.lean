/- Bytes as strings; lists with each thing once, numbered as met. -/
import Derived.Test.YtoeockpkkmgieaaSx14
import Derived.Test.YtoeockpkkmgieaaDfa5
import Derived.Laws.BytesArg
namespace Go.Sx
set_option linter.unusedVariables false
set_option linter.unusedSimpArgs false
section
variable {P : Program} {Γ : Env} {w : World} {ty : TypeId} {K : Value → World → Prop}
theorem d_bytesStr {src dst e : TypeId} {x : Operand} {a : Option Addr} {n c : Nat} {xs : List Int} (hs : P.underlying src = some (.slice e)) (he : P.underlying e = some (.int .u8)) (hd : P.underlying dst = some .string) (hx : ev Γ x = some (.slice a n c)) (hr : RdT (tyI .u8) w (.slice a n c) xs)
    (k : K (.string (strOfNums xs)) w) : Does P Γ w (.convert src dst x) ty K := by
  have hn := hr.len
  subst hn
  have hrun : (convert src dst (.slice a xs.length c)).run P w = .ok (.string (strOfNums xs)) w := by
    obtain ⟨A, cap, hv, h1, h2, h3⟩ := hr
    cases hv
    cases a with
    | none =>
      have h0 : xs = [] := by
        cases xs with
        | nil => rfl
        | cons y ys =>
          obtain ⟨ad, e1, _⟩ := h3 0 (.int .u8 y) (by simp [all_int])
          cases e1
      subst h0
      have h5 := run_convert_bytes_nil (P := P) w src e hs he 0 c dst hd
      exact h5
    | some ad =>
      have hl : (loadCells ad xs.length).run P w = .ok (xs.map (Value.int .u8)).toArray w := by
        have := run_loadCells_list (P := P) w ad (xs.map (Value.int .u8)) (fun j v hj => by
          obtain ⟨ad', e1, e2⟩ := h3 j v (by rw [all_int]; exact hj)
          cases e1
          exact e2)
        simpa using this
      rw [run_convert_bytes_string w src dst e _ xs.length c hs he hd, run_bytesToString w _ xs.length c xs hl, foldl_push_bytes]
      simp [strOfNums, ByteArray.empty, ByteArray.emptyWithCapacity]
      rfl
  exact Does.of_run (fun ρ hρ => by simp [ex, execOp, hρ x _ hx, hrun]) k
end
/-- A field of an element that is a struct itself. -/
theorem t_loadFN {α : Type} {T : Ty α} {P : Program} {Γ : Env} {w : World} {ty : TypeId} {K : Value → World → Prop} {t : TypeId} {x : Operand} {v : Value} {xs : List α} {desc : TypeDesc} {off n s b : Nat} {z : Option Value} {us : List Value} (j : Nat) (d : α) (hT : T.sz = s) (hlt : Nat.ble (off + n) s = true) (hn : Nat.blt 0 n = true) (ht : P.underlying t = some desc) (hd : aggD desc = true) (hs : szOf P t = some (n, b, z))
    (hx : ev Γ x = some (elemPtr v (j * s + off))) (hr : RdT T w v xs) (hj : j < xs.length) (he : ((T.enc (xs.getD j d)).drop off).take n = us) (k : K (.agg us.toArray) w) : Does P Γ w (.load t x) ty K := by
  subst hT
  have hle := Nat.le_of_ble_eq_true hlt
  have hn' : 0 < n := of_eq_true (Eq.trans Nat.blt_eq.symm (eq_true hn))
  refine d_loadAR us ht hd hs hx hr ?_ hn' ?_ k
  · rw [← he, List.length_take, List.length_drop, T.len]; omega
  · rw [← he, ← T.all_part d xs j hj, ← List.drop_drop, List.drop_take, List.take_take, Nat.min_eq_left (by omega)]
theorem bn_t {b : Bool} (h : ¬ (!b) = true) : b = true := by cases b <;> simp_all
theorem bn_f {b : Bool} (h : (!b) = true) : ¬ b = true := by cases b <;> simp_all
/-- Each thing once, in the order in which they come. -/
def dd {α : Type} [DecidableEq α] (l : List α) : List α := l.foldl (fun acc x => if x ∈ acc then acc else acc ++ [x]) []
section
variable {α : Type} [DecidableEq α]
theorem dd_snoc (l : List α) (x : α) : dd (l ++ [x]) = if x ∈ dd l then dd l else dd l ++ [x] := by
  unfold dd; rw [List.foldl_append]; rfl
theorem dd_mem (l : List α) (x : α) : x ∈ dd l ↔ x ∈ l := by
  suffices h : ∀ r : List α, x ∈ dd r.reverse ↔ x ∈ r.reverse by simpa using h l.reverse
  intro r
  induction r with
  | nil => simp [dd]
  | cons y r ih =>
    rw [List.reverse_cons, dd_snoc]
    split
    · rename_i hy
      rw [ih]; simp only [List.mem_append, List.mem_singleton]
      constructor
      · exact .inl
      · rintro (h | rfl)
        · exact h
        · exact ih.1 hy
    · simp only [List.mem_append, List.mem_singleton, ih]
theorem dd_nodup (l : List α) : (dd l).Nodup := by
  suffices h : ∀ r : List α, (dd r.reverse).Nodup by simpa using h l.reverse
  intro r
  induction r with
  | nil => simp [dd]
  | cons y r ih =>
    rw [List.reverse_cons, dd_snoc]
    split
    · exact ih
    · rename_i hy
      exact List.nodup_append.2 ⟨ih, by simp, fun a ha b hb e => by simp at hb; subst hb; subst e; exact hy ha⟩
theorem dd_len (l : List α) : (dd l).length ≤ l.length := by
  suffices h : ∀ r : List α, (dd r.reverse).length ≤ r.reverse.length by simpa using h l.reverse
  intro r
  induction r with
  | nil => simp [dd]
  | cons y r ih =>
    rw [List.reverse_cons, dd_snoc]
    split
    · simp at ih ⊢; omega
    · simp at ih ⊢; omega
/-- What is met first keeps its place. -/
theorem dd_prefix (l m : List α) : ∃ r, dd (l ++ m) = dd l ++ r := by
  suffices h : ∀ m : List α, ∃ r, dd (l ++ m.reverse) = dd l ++ r by simpa using h m.reverse
  intro m
  induction m with
  | nil => exact ⟨[], by simp⟩
  | cons y m ih =>
    obtain ⟨r, hr⟩ := ih
    rw [List.reverse_cons, ← List.append_assoc, dd_snoc]
    split
    · exact ⟨r, hr⟩
    · exact ⟨r ++ [y], by rw [hr, List.append_assoc]⟩
/-- The first place of a thing. -/
def ix (x : α) : List α → Nat
  | [] => 0
  | y :: l => if x = y then 0 else ix x l + 1
theorem ix_lt {x : α} : ∀ {l : List α}, x ∈ l → ix x l < l.length
  | y :: l, h => by
    unfold ix
    split
    · simp
    · rename_i hne
      have := ix_lt (x := x) (l := l) (by simpa [hne] using h)
      simp; omega
theorem ix_get {x d : α} : ∀ {l : List α}, x ∈ l → l.getD (ix x l) d = x
  | y :: l, h => by
    unfold ix
    split
    · rename_i e; simp [e]
    · rename_i hne
      simpa using ix_get (x := x) (d := d) (l := l) (by simpa [hne] using h)
theorem ix_app {x : α} (r : List α) : ∀ {l : List α}, x ∈ l → ix x (l ++ r) = ix x l
  | y :: l, h => by
    simp only [List.cons_append, ix]
    split
    · rfl
    · rename_i hne
      rw [ix_app r (l := l) (by simpa [hne] using h)]
theorem ix_new {x : α} : ∀ {l : List α}, x ∉ l → ix x l = l.length
  | [], _ => rfl
  | y :: l, h => by
    simp only [List.mem_cons, not_or] at h
    simp only [ix, if_neg h.1, ix_new h.2, List.length_cons]
theorem ix_inj {x y : α} {l : List α} (hx : x ∈ l) (hy : y ∈ l) (h : ix x l = ix y l) : x = y := by
  have e1 := ix_get (d := x) hx
  have e2 := ix_get (d := x) hy
  rw [h] at e1; exact e1.symm.trans e2
theorem dd_idx (l m : List α) {x : α} (h : x ∈ dd l) : ix x (dd (l ++ m)) = ix x (dd l) := by
  obtain ⟨r, hr⟩ := dd_prefix l m
  rw [hr, ix_app r h]
/-- A map that tells each thing's place. -/
def nmap (l : List α) : List (α × Int) := (dd l).zipIdx.map fun p => (p.1, (p.2 : Int))
theorem nmap_len (l : List α) : (nmap l).length = (dd l).length := by simp [nmap]
theorem getM_zip : ∀ (l : List α) (i : Nat) (x : α), getM ((l.zipIdx i).map fun p => (p.1, (p.2 : Int))) x = if x ∈ l then some ((i + ix x l : Nat) : Int) else none
  | [], i, x => by simp [getM]
  | y :: l, i, x => by
    simp only [List.zipIdx_cons, List.map_cons, getM, getM_zip l (i + 1) x]
    by_cases h : x = y
    · subst h; simp [ix]
    · rw [if_neg h]
      by_cases hm : x ∈ l
      · rw [if_pos hm, if_pos (by simp [hm])]
        simp only [ix, if_neg h]
        congr 2; omega
      · rw [if_neg hm, if_neg (by simp [hm, h])]
theorem nmap_get (l : List α) (x : α) : getM (nmap l) x = if x ∈ l then some ((ix x (dd l) : Nat) : Int) else none := by
  have := getM_zip (dd l) 0 x
  simp only [dd_mem, Nat.zero_add] at this
  exact this
theorem nmap_old {l : List α} {x : α} (h : x ∈ l) : nmap (l ++ [x]) = nmap l := by
  simp only [nmap, dd_snoc]; rw [if_pos ((dd_mem l x).2 h)]
theorem nmap_new {l : List α} {x : α} (h : x ∉ l) : putM (nmap l) x (((nmap l).length : Nat) : Int) = nmap (l ++ [x]) := by
  have h2 : x ∉ dd l := fun hm => h ((dd_mem l x).1 hm)
  rw [putM_new (by rw [nmap_get, if_neg h]), nmap_len]
  simp [nmap, dd_snoc, h2, List.zipIdx_append]
/-- Each thing's number. -/
def numL (l : List α) : List Int := l.map fun x => ((ix x (dd l) : Nat) : Int)
end
end Go.Sx
