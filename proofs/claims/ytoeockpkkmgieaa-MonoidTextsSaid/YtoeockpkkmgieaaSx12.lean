/- Rows that are read alone, owned; strings as bytes. -/
import Derived.Test.YtoeockpkkmgieaaSx11
import Derived.Lib.ConvBytes
namespace Go.Sx
set_option linter.unusedVariables false
set_option linter.unusedSimpArgs false
section
variable {α : Type} {T : Ty α} {w w' : World} {L : List Chunk} {G : List (List Chunk)} {v : Value} {xs : List α}
theorem rd_local (h : ∀ g, g ∈ (Value.blk? v).toList → w'.heap[g]? = w.heap[g]?) (k : RdT T w v xs) : RdT T w' v xs := by
  obtain ⟨A, cap, rfl, h1, h2, h3⟩ := k
  refine ⟨A, cap, rfl, h1, h2, fun j u hj => ?_⟩
  obtain ⟨ad, rfl, hc⟩ := h3 j u hj
  refine ⟨ad, rfl, ?_⟩
  rw [← hc]
  exact World.cell?_of_block (w := w) (h _ (by rw [add_block]; simp [Value.blk?]))
/-- A slice that is one's own to read. -/
def rdC (T : Ty α) (v : Value) (xs : List α) : Chunk :=
  ⟨(Value.blk? v).toList, fun w => RdT T w v xs ∧ ∀ g, g ∈ (Value.blk? v).toList → g < w.heap.size,
    fun w w' h k => ⟨rd_local h k.1, fun g hg => by
      have h1 := k.2 g hg
      have h2 := h g hg
      rw [Array.getElem?_eq_getElem h1] at h2
      exact (Array.getElem?_eq_some_iff.1 h2).1⟩,
    fun w g hg k => k.2 g hg, fun _ _ => by cases Value.blk? v <;> simp⟩
theorem UpG.rdC (h : UpG w L w' G) (i : Nat) (hi : G[i]? = some [rdC T v xs]) : RdT T w' v xs := ((h.hpOf i hi).holds (Sx.rdC T v xs) (by simp) : (Sx.rdC T v xs).P w').1
theorem UpG.keep_step {w'' : World} {A : List Chunk} (h : UpG w [] w' G) (i : Nat) (hi : G[i]? = some A) (k : Keep (ats A) w' w'') : Keep [] w w'' :=
  h.keep0.step k fun g hg => .inr ((Upd.fresh h g ((mem_ats.2 (by
    obtain ⟨c, hc, hg'⟩ := mem_ats.1 hg
    exact ⟨c, List.mem_flatten.2 ⟨A, List.mem_of_getElem? hi, hc⟩, hg'⟩)))).resolve_left (by simp [ats]))
theorem UpG.blk_keep {w'' : World} {A : List Chunk} {g : Nat} {cs : Array Value} {e : TypeId} (h : UpG w L w' G) (i j : Nat) (hij : Nat.beq i j = false) (hi : G[i]? = some A) (hj : G[j]? = some [Sx.blk g cs e]) (k : Keep (ats A) w' w'') : w''.heap[g]? = some (.cells cs e (0, 0)) :=
  k.obj (h.blk j hj) fun hm => (h.hp2 i j hij hi hj).apart hm (by simp [ats, Sx.blk])
theorem UpG.rdT_keep {w'' : World} {A : List Chunk} {e : TypeId} (h : UpG w L w' G) (i j : Nat) (hij : Nat.beq i j = false) (hi : G[i]? = some A) (hj : G[j]? = some [rowT T v e xs]) (k : Keep (ats A) w' w'') : RdT T w'' v xs := by
  refine (h.rdT j hj).keep k fun g hg hm => (h.hp2 i j hij hi hj).apart hm ?_
  obtain ⟨A', cap, rfl, _⟩ := h.rdT j hj
  cases A' with
  | none => simp [Value.blk?] at hg
  | some ad => simp [Value.blk?] at hg; simp [ats, rowT, row, Value.ownBlock, hg]
end
section
variable {P : Program} {Γ : Env} {w : World} {ty : TypeId} {K : Value → World → Prop}
def bytesL (s : ByteArray) : List Int := (List.range s.size).map (bt s)
theorem bytesL_len (s : ByteArray) : (bytesL s).length = s.size := by simp [bytesL]
theorem bytesL_get (s : ByteArray) (j : Nat) (h : j < s.size) : (bytesL s).getD j 0 = bt s j := by simp [bytesL, List.getD_eq_getElem?_getD, h]
theorem d_strBytes {src dst e : TypeId} {u : TypeDesc} {x : Operand} {s : ByteArray} (hs : P.underlying src = some u) (hd : P.underlying dst = some (.slice e)) (he : P.underlying e = some (.int .u8)) (hx : ev Γ x = some (.string s)) (hsz : s.size ≤ 9223372036854775807)
    (k : ∀ c w', Upd w [] w' [rdC (tyI .u8) (.slice (some ⟨w.heap.size, 0, none⟩) (bytesL s).length c) (bytesL s)] → K (.slice (some ⟨w.heap.size, 0, none⟩) (bytesL s).length c) w') : Does P Γ w (.convert src dst x) ty K := by
  have hrun := Lib.run_convert_string_bytes (P := P) w src dst e s hs hd he
  have key := k (grownCap w s.size 0 e) (Lib.bytesWorld w e s)
  rw [bytesL_len] at key
  refine Does.of_run (w' := Lib.bytesWorld w e s) (fun ρ hρ => ?_) (key ⟨⟨fun c hc => ?_, ?_⟩, ⟨rfl, rfl, rfl, ?_, fun j hj _ => Lib.bytesWorld_at_old w e s j hj⟩, fun g hg => .inr ?_⟩)
  · simp only [ex, execOp, hρ x _ hx]; simp [hrun]
  · simp only [List.mem_singleton] at hc; subst hc
    refine ⟨⟨_, _, by rw [bytesL_len], by rw [all_int]; simp [tyI], by rw [bytesL_len]; exact hsz, fun j u hj => ⟨_, rfl, ?_⟩⟩, fun g hg => ?_⟩
    · rw [all_int] at hj
      have hj' : j < s.size := by have := (List.getElem?_eq_some_iff.1 hj).1; simpa [bytesL_len] using this
      have h1 := Lib.bytesWorld_cell w e s j hj'
      rw [add_off]
      simp only [Nat.zero_add]
      rw [h1]
      simp [bytesL, hj'] at hj
      rw [← hj]
      simp [bt, hj']
    · simp [Value.blk?] at hg; subst hg; rw [Lib.bytesWorld_size]; omega
  · simp [ats, rdC, Value.blk?]
  · rw [Lib.bytesWorld_size]; omega
  · simp [ats, rdC, Value.blk?] at hg; omega
end
end Go.Sx
