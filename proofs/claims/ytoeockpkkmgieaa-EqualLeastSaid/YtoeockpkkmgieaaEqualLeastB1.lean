/- The state of memory for walks: what a piece of code owns, what it keeps. -/
import Derived.WalkKit
import Derived.Maps.AppendAt
import Derived.Deep.Quiet
import Derived.Deep.LoopGhost
import Derived.KernelRfl
import Derived.ProofKit
import Derived.OpenShut
import Derived.ShutString
import Derived.ChangeOld
import Derived.Below
import Derived.SizedLaws
import Derived.Deep.Slices
import Derived.Deep.CondSized
import Derived.Test.YtoeockpkkmgieaaRows
import Derived.Test.YtoeockpkkmgieaaProg
import Derived.Laws.StructEq
import Derived.Lib.SliceRun
import Derived.Sort.Row
import Derived.Sort.Grow
import Derived.Lib.ConvBytes
import Derived.MapKept
import Derived.WideKeyRuns
import Derived.Carry
import Derived.Laws.BytesArg
namespace Go.Sx
set_option linter.unusedVariables false
set_option linter.unusedSimpArgs false

/-- From w to w' nothing that was there has turned but the blocks of S; blocks may have come. -/
structure Keep (S : List Nat) (w w' : World) : Prop where
  os : w'.os = w.os
  tape : w'.tape = w.tape
  output : w'.output = w.output
  size : w.heap.size ≤ w'.heap.size
  block : ∀ k, k < w.heap.size → k ∉ S → w'.heap[k]? = w.heap[k]?

theorem Keep.refl (S : List Nat) (w : World) : Keep S w w := ⟨rfl, rfl, rfl, Nat.le_refl _, fun _ _ _ => rfl⟩
theorem Keep.trans {S : List Nat} {a b c : World} (h : Keep S a b) (k : Keep S b c) : Keep S a c :=
  ⟨k.os.trans h.os, k.tape.trans h.tape, k.output.trans h.output, Nat.le_trans h.size k.size,
    fun i hi hs => (k.block i (Nat.lt_of_lt_of_le hi h.size) hs).trans (h.block i hi hs)⟩
theorem Keep.step {S T : List Nat} {a b c : World} (h : Keep S a b) (k : Keep T b c) (hT : ∀ g, g ∈ T → g ∈ S ∨ a.heap.size ≤ g) : Keep S a c :=
  ⟨k.os.trans h.os, k.tape.trans h.tape, k.output.trans h.output, Nat.le_trans h.size k.size,
    fun i hi hs => (k.block i (Nat.lt_of_lt_of_le hi h.size) (fun hm => by rcases hT i hm with h1 | h1; exact hs h1; omega)).trans (h.block i hi hs)⟩
theorem Keep.mono {S T : List Nat} {a b : World} (h : Keep S a b) (hT : ∀ g, g ∈ S → g ∈ T) : Keep T a b :=
  ⟨h.os, h.tape, h.output, h.size, fun i hi hs => h.block i hi (fun hm => hs (hT i hm))⟩
theorem Keep.nil {S : List Nat} {a b : World} (h : Keep [] a b) : Keep S a b := h.mono (by simp)
theorem Keep.below {w w' : World} (h : Keep [] w w') : RowKit.Below w.heap.size w w' := ⟨h.os, h.tape, h.output, h.size, fun k hk => h.block k hk (by simp)⟩
theorem Keep.of_drawn (w : World) (n : Nat) : Keep [] w { w with drawn := n } := ⟨rfl, rfl, rfl, Nat.le_refl _, fun _ _ _ => rfl⟩
theorem Keep.cell {S : List Nat} {w w' : World} (h : Keep S w w') {a : Addr} {v : Value} (hc : w.cell? a = some v) (hS : a.block ∉ S) : w'.cell? a = some v := by
  rw [← hc]
  exact World.cell?_of_block (w := w) (h.block _ (World.block_lt_of_cell? w a hc) hS)
theorem Keep.obj {S : List Nat} {w w' : World} (h : Keep S w w') {g : Nat} {o : Obj} (hc : w.heap[g]? = some o) (hS : g ∉ S) : w'.heap[g]? = some o := by
  rw [← hc]
  exact h.block _ (Array.getElem?_eq_some_iff.1 hc).1 hS

theorem lt_of_obj {w : World} {g : Nat} {o : Obj} (h : w.heap[g]? = some o) : g < w.heap.size := (Array.getElem?_eq_some_iff.1 h).1

/-- A piece of memory: at which blocks, and what of the world it says: that hangs on those blocks alone. -/
structure Chunk where
  bs : List Nat
  P : World → Prop
  loc : ∀ w w', (∀ g, g ∈ bs → w'.heap[g]? = w.heap[g]?) → P w → P w'
  lt : ∀ w g, g ∈ bs → P w → g < w.heap.size
  nd : ∀ w, P w → bs.Nodup

def Chunk.holds (w : World) (c : Chunk) : Prop := c.P w

def ats (L : List Chunk) : List Nat := L.flatMap Chunk.bs

theorem mem_ats {L : List Chunk} {g : Nat} : g ∈ ats L ↔ ∃ c, c ∈ L ∧ g ∈ c.bs := by simp [ats]
theorem ats_append (L M : List Chunk) : ats (L ++ M) = ats L ++ ats M := by simp [ats]

theorem sub_ats : ∀ {M L : List Chunk}, M.Sublist L → (ats M).Sublist (ats L)
  | _, _, .slnil => .slnil
  | _, _, .cons a h => (sub_ats h).trans (List.sublist_append_right _ _)
  | _, _, .cons_cons a h => (sub_ats h).append_left a.bs
/-- All of some chunks hold, no two at one block. -/
structure Hp (w : World) (L : List Chunk) : Prop where
  holds : ∀ c, c ∈ L → c.holds w
  nodup : (ats L).Nodup

theorem Hp.nil (w : World) : Hp w [] := ⟨by simp, by simp [ats]⟩
theorem Hp.lt {w : World} {L : List Chunk} (h : Hp w L) {g : Nat} (hg : g ∈ ats L) : g < w.heap.size := by
  obtain ⟨c, hc, e⟩ := mem_ats.1 hg
  exact c.lt w g e (h.holds c hc)
theorem Hp.perm {w : World} {L M : List Chunk} (h : Hp w L) (p : L.Perm M) : Hp w M :=
  ⟨fun c hc => h.holds c (p.mem_iff.2 hc), (List.Perm.nodup_iff (p.flatMap_right _)).1 h.nodup⟩
theorem Hp.left {w : World} {L M : List Chunk} (h : Hp w (L ++ M)) : Hp w L :=
  ⟨fun c hc => h.holds c (List.mem_append_left _ hc), by have := h.nodup; rw [ats_append] at this; exact (List.nodup_append.1 this).1⟩
theorem Hp.right {w : World} {L M : List Chunk} (h : Hp w (L ++ M)) : Hp w M :=
  ⟨fun c hc => h.holds c (List.mem_append_right _ hc), by have := h.nodup; rw [ats_append] at this; exact (List.nodup_append.1 this).2.1⟩
theorem Hp.apart {w : World} {L M : List Chunk} (h : Hp w (L ++ M)) {g : Nat} (h1 : g ∈ ats L) (h2 : g ∈ ats M) : False := by
  have := h.nodup; rw [ats_append] at this; exact (List.nodup_append.1 this).2.2 g h1 g h2 rfl
theorem Hp.keep {w w' : World} {L : List Chunk} {S : List Nat} (h : Hp w L) (k : Keep S w w') (hS : ∀ g, g ∈ ats L → g ∉ S) : Hp w' L := by
  refine ⟨fun c hc => c.loc w w' (fun g hg => ?_) (h.holds c hc), h.nodup⟩
  exact k.block g (c.lt w g hg (h.holds c hc)) (hS g (mem_ats.2 ⟨c, hc, hg⟩))
theorem Hp.append {w : World} {L M : List Chunk} (h : Hp w L) (k : Hp w M) (hd : ∀ g, g ∈ ats L → g ∉ ats M) : Hp w (L ++ M) := by
  refine ⟨fun c hc => ?_, ?_⟩
  · rcases List.mem_append.1 hc with h1 | h1
    · exact h.holds c h1
    · exact k.holds c h1
  · rw [ats_append]
    exact List.nodup_append.2 ⟨h.nodup, k.nodup, fun a ha b hb e => hd a ha (e ▸ hb)⟩

/-- From w, owning L, one has come to w', owning L'; all else is as it was. -/
structure Upd (w : World) (L : List Chunk) (w' : World) (L' : List Chunk) : Prop where
  hp : Hp w' L'
  keep : Keep (ats L) w w'
  fresh : ∀ g, g ∈ ats L' → g ∈ ats L ∨ w.heap.size ≤ g

theorem Upd.refl {w : World} {L : List Chunk} (h : Hp w L) : Upd w L w L := ⟨h, Keep.refl _ _, fun _ h => .inl h⟩
theorem Upd.nil (w : World) : Upd w [] w [] := Upd.refl (Hp.nil w)
theorem Upd.size {w w' : World} {L L' : List Chunk} (h : Upd w L w' L') : w.heap.size ≤ w'.heap.size := h.keep.size
/-- Owning less. -/
theorem Upd.drop {w w' : World} {L L' M : List Chunk} (h : Upd w L w' L') (hs : M.Sublist L') : Upd w L w' M :=
  ⟨⟨fun c hc => h.hp.holds c (hs.subset hc), (sub_ats hs).nodup h.hp.nodup⟩, h.keep, fun g hg => h.fresh g ((sub_ats hs).subset hg)⟩
theorem Upd.noneL {w w' : World} {L L' : List Chunk} (h : Upd w L w' L') : Upd w L w' [] := h.drop (List.nil_sublist _)
theorem Upd.perm {w w' : World} {L L' M : List Chunk} (h : Upd w L w' L') (p : L'.Perm M) : Upd w L w' M :=
  ⟨h.hp.perm p, h.keep, fun g hg => h.fresh g ((p.flatMap_right _).mem_iff.2 hg)⟩
/-- A draw, or whatever keeps all. -/
theorem Upd.kept {w w1 w2 : World} {L L' : List Chunk} (h : Upd w L w1 L') (k : Keep [] w1 w2) : Upd w L w2 L' :=
  ⟨h.hp.keep k (by simp), h.keep.step k (by simp), h.fresh⟩
/-- The rule of the frame: a part of what is owned is worked on. -/
theorem Upd.frame {w w1 w2 : World} {L A B M : List Chunk} (h : Upd w L w1 (A ++ M)) (k : Upd w1 A w2 B) : Upd w L w2 (B ++ M) := by
  have hM : Hp w2 M := h.hp.right.keep k.keep (fun g h2 h1 => h.hp.apart h1 h2)
  refine ⟨k.hp.append hM ?_, ?_, ?_⟩
  · intro g hb hm
    rcases k.fresh g hb with h1 | h1
    · exact h.hp.apart h1 hm
    · have := h.hp.right.lt hm; omega
  · refine h.keep.step k.keep ?_
    intro g hg
    exact h.fresh g (by rw [ats_append]; exact List.mem_append_left _ hg)
  · intro g hg
    rw [ats_append] at hg
    rcases List.mem_append.1 hg with h1 | h1
    · rcases k.fresh g h1 with h2 | h2
      · exact h.fresh g (by rw [ats_append]; exact List.mem_append_left _ h2)
      · exact .inr (Nat.le_trans h.size h2)
    · exact h.fresh g (by rw [ats_append]; exact List.mem_append_right _ h1)

/-- What is owned, group by group. -/
def UpG (w : World) (L : List Chunk) (w' : World) (G : List (List Chunk)) : Prop := Upd w L w' G.flatten

theorem perm_set {α : Type} : ∀ (G : List (List α)) (i : Nat) (A : List α), G[i]? = some A → G.flatten.Perm (A ++ (G.set i []).flatten)
  | [], i, A, h => by simp at h
  | B :: G, 0, A, h => by simp at h; subst h; simp
  | B :: G, i + 1, A, h => by
    simp only [List.flatten_cons, List.set_cons_succ]
    have ih := perm_set G i A (by simpa using h)
    exact (ih.append_left B).trans (by rw [← List.append_assoc, ← List.append_assoc]; exact (List.perm_append_comm).append_right _)
theorem perm_set' {α : Type} : ∀ (G : List (List α)) (i : Nat) (A B : List α), G[i]? = some A → (B ++ (G.set i []).flatten).Perm (G.set i B).flatten
  | [], i, A, B, h => by simp at h
  | C :: G, 0, A, B, h => by simp
  | C :: G, i + 1, A, B, h => by
    simp only [List.flatten_cons, List.set_cons_succ]
    have ih := perm_set' G i A B (by simpa using h)
    refine List.Perm.trans ?_ (ih.append_left C)
    rw [← List.append_assoc, ← List.append_assoc]; exact (List.perm_append_comm).append_right _

theorem UpG.nil (w : World) : UpG w [] w [] := Upd.nil w
theorem UpG.refl {w : World} {L : List Chunk} (h : Hp w L) : UpG w L w [L] := by unfold UpG; simpa using Upd.refl h
theorem UpG.size {w w' : World} {L : List Chunk} {G : List (List Chunk)} (h : UpG w L w' G) : w.heap.size ≤ w'.heap.size := h.keep.size
theorem UpG.kept {w w1 w2 : World} {L : List Chunk} {G : List (List Chunk)} (h : UpG w L w1 G) (k : Keep [] w1 w2) : UpG w L w2 G := Upd.kept h k
/-- Group i is worked on. -/
theorem UpG.on {w w1 w2 : World} {L : List Chunk} {G : List (List Chunk)} (h : UpG w L w1 G) (i : Nat) {A B : List Chunk} (hi : G[i]? = some A) (k : Upd w1 A w2 B) : UpG w L w2 (G.set i B) :=
  Upd.perm (Upd.frame (Upd.perm h (perm_set G i A hi)) k) (perm_set' G i A B hi)
/-- New memory comes. -/
theorem UpG.new {w w1 w2 : World} {L : List Chunk} {G : List (List Chunk)} (h : UpG w L w1 G) {B : List Chunk} (k : Upd w1 [] w2 B) : UpG w L w2 (B :: G) := by
  have := Upd.frame (A := []) (B := B) (M := G.flatten) h k
  simpa [UpG] using this
theorem UpG.new' {w w1 w2 : World} {L : List Chunk} {G : List (List Chunk)} (h : UpG w L w1 G) {B : List Chunk} (k : Upd w1 [] w2 B) : UpG w L w2 (G ++ [B]) := by
  refine Upd.perm (h.new k) ?_
  simp only [List.flatten_cons, List.flatten_append, List.flatten_nil, List.append_nil]
  exact List.perm_append_comm
/-- Nothing of what is owned is touched. -/
theorem UpG.call {w w1 w2 : World} {L : List Chunk} {G : List (List Chunk)} (h : UpG w L w1 G) (k : Upd w1 [] w2 []) : UpG w L w2 G := by
  have := Upd.frame (A := []) (B := []) (M := G.flatten) h k
  simpa [UpG] using this
theorem UpG.noneL {w w' : World} {L : List Chunk} {G : List (List Chunk)} (h : UpG w L w' G) : Upd w L w' [] := Upd.noneL h
theorem UpG.one {w w' : World} {L A : List Chunk} {G : List (List Chunk)} (h : UpG w L w' G) (i : Nat) (hi : G[i]? = some A) : Upd w L w' A :=
  Upd.drop h (List.sublist_flatten_of_mem (List.mem_of_getElem? hi))
theorem UpG.all {w w' : World} {L M : List Chunk} {G : List (List Chunk)} (h : UpG w L w' G) (e : G.flatten = M) : Upd w L w' M := e ▸ h
theorem UpG.of {w w' : World} {L M : List Chunk} {G : List (List Chunk)} (h : Upd w L w' M) (e : G.flatten = M) : UpG w L w' G := by unfold UpG; rw [e]; exact h
theorem UpG.keep {w w' : World} {L : List Chunk} {G : List (List Chunk)} (h : UpG w L w' G) : Keep (ats L) w w' := Upd.keep h
theorem UpG.keep0 {w w' : World} {G : List (List Chunk)} (h : UpG w [] w' G) : Keep [] w w' := Upd.keep h
theorem UpG.hpOf {w w' : World} {L A : List Chunk} {G : List (List Chunk)} (h : UpG w L w' G) (i : Nat) (hi : G[i]? = some A) : Hp w' A :=
  (Hp.perm (Upd.hp h) (perm_set G i A hi)).left

/-- A group is let go. -/
theorem UpG.drop {w w' : World} {L : List Chunk} {G : List (List Chunk)} (h : UpG w L w' G) (i : Nat) : UpG w L w' (G.set i []) := by
  cases hi : G[i]? with
  | none => rw [List.set_eq_of_length_le (by simpa using hi)]; exact h
  | some A => exact Upd.drop (Upd.perm h (perm_set G i A hi)) (List.sublist_append_right _ _)

/-! ### Blocks written out; rows -/

/-- A block, written out. -/
def blk (g : Nat) (cs : Array Value) (e : TypeId) : Chunk :=
  ⟨[g], fun w => w.heap[g]? = some (.cells cs e (0, 0)), fun w w' h k => (h g (by simp)).trans k, fun w g' hg k => by simp at hg; subst hg; exact lt_of_obj k, fun _ _ => by simp⟩
theorem own_local {v : Value} {e : TypeId} {sz n : Nat} {vs : List Value} (w w' : World) (h : ∀ g, g ∈ v.ownBlock.toList → w'.heap[g]? = w.heap[g]?) (k : w.ownsRow 0 e sz v n vs) : w'.ownsRow 0 e sz v n vs := by
  refine ⟨k.1, ?_⟩
  rcases k.2 with h1 | ⟨g, cap, cur, rfl, h2, h3, h4⟩
  · exact .inl h1
  · exact .inr ⟨g, cap, cur, rfl, h2, (h g (by simp [Value.ownBlock])).trans h3, h4⟩
theorem own_lt {v : Value} {e : TypeId} {sz n : Nat} {vs : List Value} (w : World) (g : Nat) (hg : g ∈ v.ownBlock.toList) (k : w.ownsRow 0 e sz v n vs) : g < w.heap.size := by
  rcases k.2 with ⟨rfl, _⟩ | ⟨g', cap, cur, rfl, h2, h3, h4⟩
  · simp [Value.ownBlock] at hg
  · simp [Value.ownBlock] at hg; subst hg; exact lt_of_obj h3
/-- A slice of one's own: its first n elements, sz cells each. -/
def row (v : Value) (e : TypeId) (sz n : Nat) (vs : List Value) : Chunk :=
  ⟨v.ownBlock.toList, fun w => w.ownsRow 0 e sz v n vs, own_local, own_lt, fun _ _ => by cases v.ownBlock <;> simp⟩

theorem Hp.blk {w : World} {g : Nat} {cs : Array Value} {e : TypeId} {L : List Chunk} (h : Hp w L) (hm : blk g cs e ∈ L) : w.heap[g]? = some (.cells cs e (0, 0)) := h.holds _ hm
theorem row_own {w : World} {v : Value} {e : TypeId} {sz n : Nat} {vs : List Value} (h : (row v e sz n vs).holds w) : w.ownsRow 0 e sz v n vs := h
theorem own_row {w : World} {v : Value} {e : TypeId} {sz n : Nat} {vs : List Value} (h : w.ownsRow 0 e sz v n vs) : (row v e sz n vs).holds w := h
/-- Many chunks as one. -/
def many (L : List Chunk) : Chunk := ⟨ats L, fun w => Hp w L,
  fun w w' h k => ⟨fun c hc => c.loc w w' (fun g hg => h g (mem_ats.2 ⟨c, hc, hg⟩)) (k.holds c hc), k.nodup⟩, fun w g hg k => k.lt hg, fun _ k => k.nodup⟩
theorem ats_many (L M : List Chunk) : ats (many L :: M) = ats (L ++ M) := by simp [ats, many]
theorem hp_many {w : World} {L M : List Chunk} : Hp w (many L :: M) ↔ Hp w (L ++ M) := by
  constructor
  · intro h
    refine ⟨fun c hc => ?_, by rw [← ats_many]; exact h.nodup⟩
    rcases List.mem_append.1 hc with h1 | h1
    · exact (h.holds (many L) (by simp) : Hp w L).holds c h1
    · exact h.holds c (by simp [h1])
  · intro h
    refine ⟨fun c hc => ?_, by rw [ats_many]; exact h.nodup⟩
    rcases List.mem_cons.1 hc with rfl | h1
    · exact h.left
    · exact h.holds c (List.mem_append_right _ h1)
theorem row_slice {w : World} {v : Value} {e : TypeId} {sz n : Nat} {vs : List Value} (h : w.ownsRow 0 e sz v n vs) : ∃ a c, v = .slice a n c := by
  rcases h.2 with ⟨rfl, rfl⟩ | ⟨g, cap, cur, rfl, _⟩
  · exact ⟨none, 0, rfl⟩
  · exact ⟨_, cap, rfl⟩

/-- A slice that is read: n elements of sz cells. -/
def Rd (w : World) (v : Value) (sz n : Nat) (vs : List Value) : Prop :=
  ∃ A cap, v = .slice A n cap ∧ vs.length = n * sz ∧ n ≤ 9223372036854775807 ∧ ∀ j u, vs[j]? = some u → ∃ ad, A = some ad ∧ w.cell? (ad.add j) = some u

theorem add_block (ad : Addr) (j : Nat) : (ad.add j).block = ad.block := by unfold Addr.add; split <;> rfl

/-- The block of a slice. -/
def Value.blk? : Value → Option Nat
  | .slice (some a) _ _ => some a.block
  | _ => none

theorem Rd.keep {w w' : World} {v : Value} {sz n : Nat} {vs : List Value} {S : List Nat} (h : Rd w v sz n vs) (k : Keep S w w') (hS : ∀ g, Value.blk? v = some g → g ∉ S) : Rd w' v sz n vs := by
  obtain ⟨A, cap, rfl, h1, h2, h3⟩ := h
  refine ⟨A, cap, rfl, h1, h2, fun j u hj => ?_⟩
  obtain ⟨ad, rfl, hc⟩ := h3 j u hj
  exact ⟨ad, rfl, k.cell hc (by rw [add_block]; exact hS _ rfl)⟩
theorem Rd.kept {w w' : World} {v : Value} {sz n : Nat} {vs : List Value} (h : Rd w v sz n vs) (k : Keep [] w w') : Rd w' v sz n vs := h.keep k (by simp)
theorem Rd.at {w w' : World} {v : Value} {sz n : Nat} {vs : List Value} {G : List (List Chunk)} (h : Rd w v sz n vs) (k : UpG w [] w' G) : Rd w' v sz n vs := h.keep k.keep (by simp [ats])
theorem Rd.len {w : World} {v : Value} {sz n : Nat} {vs : List Value} (h : Rd w v sz n vs) : vs.length = n * sz := by obtain ⟨_, _, _, h, _⟩ := h; exact h
theorem Rd.nil (w : World) (sz : Nat) (A : Option Addr) (cap : Nat) : Rd w (.slice A 0 cap) sz 0 [] := ⟨A, cap, rfl, by simp, by omega, by simp⟩

theorem own_rd {w : World} {b : Nat} {v : Value} {e : TypeId} {sz n : Nat} {vs : List Value} (h : w.ownsRow b e sz v n vs) : Rd w v sz n vs := by
  have h0 := h
  obtain ⟨h1, h2⟩ := h
  rcases h2 with ⟨rfl, rfl⟩ | ⟨g, cap, cur, rfl, _, h3, h4, h5, h6, h7⟩
  · exact ⟨none, 0, rfl, h1, by omega, fun j u hj => by
      have : j < vs.length := (List.getElem?_eq_some_iff.1 hj).1
      omega⟩
  · exact ⟨_, cap, rfl, h1, by simp only [maxLen] at h5; omega, fun j u hj => ⟨_, rfl, h0.cells (g := g) rfl j u hj⟩⟩

theorem UpG.own {w w' : World} {L : List Chunk} {G : List (List Chunk)} {v : Value} {e : TypeId} {sz n : Nat} {vs : List Value} (h : UpG w L w' G) (i : Nat) (hi : G[i]? = some [row v e sz n vs]) : w'.ownsRow 0 e sz v n vs :=
  row_own ((h.hpOf i hi).holds _ (by simp))
theorem UpG.rd {w w' : World} {L : List Chunk} {G : List (List Chunk)} {v : Value} {e : TypeId} {sz n : Nat} {vs : List Value} (h : UpG w L w' G) (i : Nat) (hi : G[i]? = some [row v e sz n vs]) : Rd w' v sz n vs :=
  own_rd (h.own i hi)
theorem UpG.blk {w w' : World} {L : List Chunk} {G : List (List Chunk)} {g : Nat} {cs : Array Value} {e : TypeId} (h : UpG w L w' G) (i : Nat) (hi : G[i]? = some [blk g cs e]) : w'.heap[g]? = some (.cells cs e (0, 0)) :=
  (h.hpOf i hi).blk (by simp)

/-- A new block. -/
theorem Upd.alloc (w : World) (cs : Array Value) (e : TypeId) : Upd w [] (w.alloc (.cells cs e)) [Sx.blk w.heap.size cs e] := by
  refine ⟨⟨fun c hc => ?_, by simp [ats, Sx.blk]⟩, ⟨rfl, rfl, rfl, by simp, fun k hk _ => RowKit.Below.heap_alloc w _ k hk⟩, fun g hg => ?_⟩
  · simp only [List.mem_singleton] at hc; subst hc
    exact heap_alloc_new w _
  · simp [ats, Sx.blk] at hg; omega
/-- A store into a block. -/
theorem Upd.setCell {w : World} {g : Nat} {cs : Array Value} {e : TypeId} (h : w.heap[g]? = some (.cells cs e (0, 0))) (off : Nat) (u : Value) :
    Upd w [Sx.blk g cs e] (w.setCell ⟨g, off, none⟩ u) [Sx.blk g (cs.setIfInBounds off u) e] := by
  have hlt := lt_of_obj h
  refine ⟨⟨fun c hc => ?_, by simp [ats, Sx.blk]⟩, ⟨rfl, rfl, rfl, by simp [World.setCell], fun k hk hs => ?_⟩, fun g' hg => ?_⟩
  · simp only [List.mem_singleton] at hc; subst hc
    show (w.setCell ⟨g, off, none⟩ u).heap[g]? = _
    simp [World.setCell, Array.getElem?_modify, h]
  · exact RowKit.Below.heap_setCell _ _ _ _ (by intro e'; subst e'; simp [ats, Sx.blk] at hs)
  · left; simpa [ats, Sx.blk] using hg
end Go.Sx


/- Walks over what is known of the slots: the judgements. -/
namespace Go.Sx
set_option linter.unusedVariables false
set_option linter.unusedSimpArgs false

abbrev Env := List (Nat × Value)
/-- What is known of a slot; the newest word counts. -/
def look : Env → Nat → Option Value
  | [], _ => none
  | (k, v) :: r, t => match Nat.beq k t with | true => some v | false => look r t

theorem look_cons_eq (k : Nat) (v : Value) (r : Env) : look ((k, v) :: r) k = some v := by simp [look]
theorem look_cons_ne {k t : Nat} (v : Value) (r : Env) (h : k ≠ t) : look ((k, v) :: r) t = look r t := by
  have : Nat.beq k t = false := by
    cases hb : Nat.beq k t
    · rfl
    · exact absurd (Nat.eq_of_beq_eq_true hb) h
  simp [look, this]

structure Agree (n : Nat) (a : Act) (Γ : Env) : Prop where
  size : a.tmps.size = n
  defers : a.defers = []
  slot : ∀ t v, look Γ t = some v → a.tmps.getD t undef = v

def ev (Γ : Env) : Operand → Option Value
  | .tmp t => look Γ t
  | .const v => some v
  | .global g => some (.pointer (some ⟨g, 0, none⟩))
  | .func f => some (.func (.func f) #[] #[])
def evs (Γ : Env) : List Operand → Option (List Value)
  | [] => some []
  | x :: r => match ev Γ x, evs Γ r with | some v, some l => some (v :: l) | _, _ => none

def AgR (ρ : Operand → Value) (Γ : Env) : Prop := ∀ x v, ev Γ x = some v → ρ x = v
theorem AgR.evs {ρ : Operand → Value} {Γ : Env} (h : AgR ρ Γ) : ∀ (l : List Operand) (vs : List Value), Sx.evs Γ l = some vs → l.map ρ = vs
  | [], vs, e => by simp [Sx.evs] at e; simp [e]
  | x :: r, vs, e => by
    simp only [Sx.evs] at e
    split at e
    · rename_i v l hv hl
      simp only [Option.some.injEq] at e
      subst e
      simp [h x v hv, h.evs r l hl]
    · cases e

theorem Agree.ev {n : Nat} {a : Act} {Γ : Env} (h : Agree n a Γ) : AgR a.eval Γ := by
  intro x v e
  cases x with
  | tmp t => exact h.slot t v e
  | const u => simpa [Sx.ev, Act.eval] using e
  | global g => simpa [Sx.ev, Act.eval] using e
  | func f => simpa [Sx.ev, Act.eval] using e

theorem Agree.put {n : Nat} {a : Act} {Γ : Env} (h : Agree n a Γ) {d : Nat} (hd : Nat.blt d n = true) (v : Value) : Agree n (a.put (some d) v) ((d, v) :: Γ) := by
  have hd' : d < a.tmps.size := by rw [h.size]; exact of_eq_true (Eq.trans Nat.blt_eq.symm (eq_true hd))
  refine ⟨by simp [Act.put, h.size], by simp [Act.put, h.defers], fun t u e => ?_⟩
  by_cases ht : d = t
  · subst ht
    rw [look_cons_eq] at e
    simp only [Option.some.injEq] at e
    subst e
    simp [Act.put, Array.getD_eq_getD_getElem?, hd']
  · rw [look_cons_ne v Γ ht] at e
    have := h.slot t u e
    simp only [Array.getD_eq_getD_getElem?] at this
    simp [Act.put, Array.getD_eq_getD_getElem?, ht, this]
theorem Agree.put0 {n : Nat} {a : Act} {Γ : Env} (h : Agree n a Γ) (v : Value) : Agree n (a.put none v) Γ := h

theorem Agree.sub {n : Nat} {a : Act} {Γ Γ' : Env} (h : Agree n a Γ) (hs : ∀ t v, look Γ' t = some v → look Γ t = some v) : Agree n a Γ' :=
  ⟨h.size, h.defers, fun t v e => h.slot t v (hs t v e)⟩

/-- Just these slots. -/
def pick (Γ : Env) : List Nat → Env
  | [] => []
  | t :: r => match look Γ t with | some v => (t, v) :: pick Γ r | none => pick Γ r
theorem look_pick (Γ : Env) : ∀ (ks : List Nat) (t : Nat) (v : Value), look (pick Γ ks) t = some v → look Γ t = some v
  | [], t, v, e => by simp [pick, look] at e
  | k :: ks, t, v, e => by
    simp only [pick] at e
    split at e
    · rename_i u hu
      by_cases hk : k = t
      · subst hk; rw [look_cons_eq] at e; rw [hu]; exact e
      · rw [look_cons_ne u _ hk] at e; exact look_pick Γ ks t v e
    · exact look_pick Γ ks t v e
theorem Agree.pick {n : Nat} {a : Act} {Γ : Env} (h : Agree n a Γ) (ks : List Nat) : Agree n a (pick Γ ks) := h.sub (look_pick Γ ks)

/-- An operation, by its kind and type alone. -/
def ex (ρ : Operand → Value) (op : Op) (ty : TypeId) : Sem Next := execOp ρ { dst := none, op, type := ty, pos := "", after := #[], guard := none }
theorem ex_eq (ρ : Operand → Value) (d : Option Tmp) (op : Op) (ty : TypeId) (pos : String) (after : Array Edge) (guard : Option (Nat × Bool)) :
    execOp ρ { dst := d, op, type := ty, pos, after, guard } = ex ρ op ty := rfl

def Ret (R : Value → World → Prop) : Ending → World → Prop := fun e w => ∃ v, e = .returned v ∧ R v w
theorem Ret.calls {P : Program} {f : FuncId} {args : Array Value} {w : World} {R R' : Value → World → Prop} (h : Calls P f args w (Ret R)) (k : ∀ v w', R v w' → R' v w') : Calls P f args w (Ret R') :=
  h.mono fun _ w' ⟨v, e, hr⟩ => ⟨v, e, k v w' hr⟩

/-- What an operation does, whatever else the slots hold. -/
def Does (P : Program) (Γ : Env) (w : World) (op : Op) (ty : TypeId) (K : Value → World → Prop) : Prop :=
  ∀ ρ, AgR ρ Γ → match (ex ρ op ty).run P w with
    | .ok (.value v) w' => K v w'
    | .ok .skip w' => K undef w'
    | .ok (.enter f args) w' => Calls P f args w' (Ret K)
    | _ => False
theorem Does.mono {P : Program} {Γ : Env} {w : World} {op : Op} {ty : TypeId} {K K' : Value → World → Prop} (h : Does P Γ w op ty K) (k : ∀ v w', K v w' → K' v w') : Does P Γ w op ty K' := by
  intro ρ hρ
  have := h ρ hρ
  split at this
  · exact k _ _ this
  · exact k _ _ this
  · exact Ret.calls this k
  · exact this.elim
theorem Does.of_run {P : Program} {Γ : Env} {w w' : World} {op : Op} {ty : TypeId} {K : Value → World → Prop} {v : Value} (h : ∀ ρ, AgR ρ Γ → (ex ρ op ty).run P w = .ok (.value v) w') (k : K v w') : Does P Γ w op ty K := by
  intro ρ hρ
  rw [h ρ hρ]
  exact k
theorem Does.of_skip {P : Program} {Γ : Env} {w w' : World} {op : Op} {ty : TypeId} {K : Value → World → Prop} (h : ∀ ρ, AgR ρ Γ → (ex ρ op ty).run P w = .ok .skip w') (k : K undef w') : Does P Γ w op ty K := by
  intro ρ hρ
  rw [h ρ hρ]
  exact k

theorem Does.wpR {P : Program} {Γ : Env} {w : World} {K : Value → World → Prop} {a : Act} {ρ : Operand → Value} {o : Oper} (h : Does P Γ w o.op o.type K) (hρ : AgR ρ Γ) (he : execOp a.eval o = execOp ρ o)
    {next : Act → World → Prop} {Q : Exit → Act → World → Prop} (k : ∀ v w', K v w' → next (a.put o.dst v) w') : Oper.wp P o a w next Q := by
  have := h ρ hρ
  unfold Oper.wp
  rw [he]
  cases o
  rw [ex_eq]
  split at this <;> rename_i hr <;> simp only [hr, Oper.upon]
  · exact k _ _ this
  · exact k _ _ this
  · exact this.mono fun e w' ⟨v, he, hv⟩ => by subst he; exact k v w' hv
  · exact this.elim
theorem Does.wp {P : Program} {Γ : Env} {w : World} {op : Op} {ty : TypeId} {K : Value → World → Prop} (h : Does P Γ w op ty K) {n : Nat} {a : Act} (ha : Agree n a Γ)
    {d : Option Tmp} {pos : String} {after : Array Edge} {guard : Option (Nat × Bool)} {next : Act → World → Prop} {Q : Exit → Act → World → Prop}
    (k : ∀ v w', K v w' → next (a.put d v) w') : Oper.wp P { dst := d, op, type := ty, pos, after, guard } a w next Q := by
  have := h a.eval ha.ev
  unfold Oper.wp
  rw [ex_eq]
  split at this <;> rename_i hr <;> simp only [hr, Oper.upon]
  · exact k _ _ this
  · exact k _ _ this
  · exact this.mono fun e w' ⟨v, he, hv⟩ => by subst he; exact k v w' hv
  · exact this.elim

section
variable (P : Program) (n : Nat)
def W (c : Code) (Q : Exit → Act → World → Prop) (Γ : Env) (w : World) : Prop := ∀ a, Agree n a Γ → c.wp P Q a w
def WL (ops : Array Oper) (Q : Exit → Act → World → Prop) (l : List Oper) (Γ : Env) (w : World) : Prop := ∀ a, Agree n a Γ → wpList P ops Q l a w
def X (Q : Exit → Act → World → Prop) (e : Exit) (Γ : Env) (w : World) : Prop := ∀ a, Agree n a Γ → Q e a w
end

section
variable {P : Program} {n : Nat} {ops : Array Oper} {Q : Exit → Act → World → Prop} {Γ : Env} {w : World} {rest : List Oper}

theorem WL.op {d : Nat} {op : Op} {ty : TypeId} {pos : String} {after : Array Edge} (hd : Nat.blt d n = true)
    (h : Does P Γ w op ty fun v w' => WL P n ops Q rest ((d, v) :: Γ) w') : WL P n ops Q ({ dst := some d, op, type := ty, pos, after, guard := none } :: rest) Γ w :=
  fun a ha => by
    unfold wpList
    rw [if_pos (by rfl)]
    exact .inl (h.wp ha fun v w' k => k _ (ha.put hd v))
theorem WL.op0 {op : Op} {ty : TypeId} {pos : String} {after : Array Edge}
    (h : Does P Γ w op ty fun _ w' => WL P n ops Q rest Γ w') : WL P n ops Q ({ dst := none, op, type := ty, pos, after, guard := none } :: rest) Γ w :=
  fun a ha => by
    unfold wpList
    rw [if_pos (by rfl)]
    exact .inl (h.wp ha fun v w' k => k _ (ha.put0 v))

theorem yielded_of {a : Act} (ha : Agree n a Γ) {j t : Nat} {b : Bool} (hj : (ops[j]?).bind (·.dst) = some t) (hv : look Γ t = some (.bool b)) : yielded ops a.tmps j = some b := by
  have h := ha.slot t _ hv
  rw [Array.getD_eq_getD_getElem?] at h
  unfold yielded
  rw [hj]
  simp only [Option.bind_some]
  cases hx : a.tmps[t]? with
  | none => rw [hx] at h; simp [undef] at h
  | some u => rw [hx] at h; simp at h; subst h; rfl
theorem wanted_of {a : Act} (ha : Agree n a Γ) {o : Oper} {j t : Nat} {want b : Bool} (hg : o.guard = some (j, want)) (hj : (ops[j]?).bind (·.dst) = some t) (hv : look Γ t = some (.bool b)) :
    Region.wanted o (yielded ops a.tmps) = (b == want) := by
  unfold Region.wanted
  rw [hg]
  simp only [yielded_of ha hj hv]
  cases b <;> cases want <;> rfl
theorem WL.opG {d : Nat} {op : Op} {ty : TypeId} {pos : String} {after : Array Edge} {j t : Nat} {want : Bool} (hj : (ops[j]?).bind (·.dst) = some t) (hv : look Γ t = some (.bool want)) (hd : Nat.blt d n = true)
    (h : Does P Γ w op ty fun v w' => WL P n ops Q rest ((d, v) :: Γ) w') : WL P n ops Q ({ dst := some d, op, type := ty, pos, after, guard := some (j, want) } :: rest) Γ w :=
  fun a ha => by
    unfold wpList
    rw [if_pos (by rw [wanted_of ha rfl hj hv]; simp)]
    exact .inl (h.wp ha fun v w' k => k _ (ha.put hd v))
theorem WL.opN {d : Nat} {op : Op} {ty : TypeId} {pos : String} {after : Array Edge} {j t : Nat} {want b : Bool} (hj : (ops[j]?).bind (·.dst) = some t) (hv : look Γ t = some (.bool b)) (hb : (b == want) = false) (hd : Nat.blt d n = true)
    (h : WL P n ops Q rest ((d, undef) :: Γ) w) : WL P n ops Q ({ dst := some d, op, type := ty, pos, after, guard := some (j, want) } :: rest) Γ w :=
  fun a ha => by
    unfold wpList
    rw [if_neg (by rw [wanted_of ha rfl hj hv, hb]; simp)]
    exact h _ (ha.put hd undef)
theorem Agree.bool {a : Act} {t : Nat} {p : Prop} [Decidable p] (ha : Agree n a Γ) (ht : look Γ t = some (.bool (decide p))) {b : Bool} (hb : decide p = b) : Agree n a ((t, .bool b) :: Γ) :=
  ha.sub fun u v e => by
    by_cases hu : t = u
    · subst hu; rw [look_cons_eq] at e; rw [ht, hb]; exact e
    · rwa [look_cons_ne _ _ hu] at e
/-- The ways part at what a slot holds. -/
theorem WL.part {l : List Oper} (t : Nat) {p : Prop} [Decidable p] (ht : look Γ t = some (.bool (decide p))) (h1 : p → WL P n ops Q l ((t, .bool true) :: Γ) w) (h2 : ¬ p → WL P n ops Q l ((t, .bool false) :: Γ) w) : WL P n ops Q l Γ w :=
  fun a ha => by
    by_cases hp : p
    · exact h1 hp a (ha.bool ht (by simp [hp]))
    · exact h2 hp a (ha.bool ht (by simp [hp]))
theorem W.part {c : Code} (t : Nat) {p : Prop} [Decidable p] (ht : look Γ t = some (.bool (decide p))) (h1 : p → W P n c Q ((t, .bool true) :: Γ) w) (h2 : ¬ p → W P n c Q ((t, .bool false) :: Γ) w) : W P n c Q Γ w :=
  fun a ha => by
    by_cases hp : p
    · exact h1 hp a (ha.bool ht (by simp [hp]))
    · exact h2 hp a (ha.bool ht (by simp [hp]))
theorem WL.done (h : X n Q .normal Γ w) : WL P n ops Q [] Γ w := fun a ha => h a ha

theorem W.region {id : Nat} {l : List Oper} (h : WL P n l.toArray Q l Γ w) : W P n (.region id l.toArray false) Q Γ w := fun a ha => wp_region_lit (h a ha)
theorem W.seq {x y : Code} (h : W P n x (Exit.then (y.wp P Q) Q) Γ w) : W P n (.seq x y) Q Γ w := fun a ha => wp_seq (h a ha)
theorem W.skip (h : X n Q .normal Γ w) : W P n .skip Q Γ w := fun a ha => wp_skip (h a ha)
theorem W.ret (h : X n Q .ret Γ w) : W P n .ret Q Γ w := fun a ha => wp_ret (h a ha)
theorem W.exit {id : Nat} (h : X n Q (.exit id) Γ w) : W P n (.exit id) Q Γ w := fun a ha => wp_exit (h a ha)
theorem W.block {id : Nat} {c : Code} (h : W P n c (Exit.inBlock id Q) Γ w) : W P n (.block id c) Q Γ w := fun a ha => wp_block (h a ha)
theorem W.ift {c : Operand} {x y : Code} (hc : ev Γ c = some (.bool true)) (h : W P n x Q Γ w) : W P n (.cond c x y) Q Γ w := fun a ha => wp_cond_true (ha.ev _ _ hc) (h a ha)
theorem W.iff {c : Operand} {x y : Code} (hc : ev Γ c = some (.bool false)) (h : W P n y Q Γ w) : W P n (.cond c x y) Q Γ w := fun a ha => wp_cond_false (ha.ev _ _ hc) (h a ha)
theorem W.ite {c : Operand} {x y : Code} {p : Prop} [Decidable p] (hc : ev Γ c = some (.bool (decide p))) (h1 : p → W P n x Q Γ w) (h2 : ¬ p → W P n y Q Γ w) : W P n (.cond c x y) Q Γ w :=
  fun a ha => wp_cond_split (ha.ev _ _ hc) (fun h => h1 (of_decide_eq_true h) a ha) (fun h => h2 (of_decide_eq_false h) a ha)
/-- Just some slots are still wanted. -/
theorem W.pick {c : Code} (ks : List Nat) {Γ' : Env} (e : Sx.pick Γ ks = Γ') (h : W P n c Q Γ' w) : W P n c Q Γ w := fun a ha => h a (e ▸ ha.pick ks)
theorem X.pick {e : Exit} (ks : List Nat) {Γ' : Env} (he : Sx.pick Γ ks = Γ') (h : X n Q e Γ' w) : X n Q e Γ w := fun a ha => h a (he ▸ ha.pick ks)

/-- A loop: what holds at its head bears a number, which each round lowers. -/
theorem W.loop {c : Code} (I : Nat → Env → World → Prop) (m : Nat) (h0 : I m Γ w)
    (round : ∀ m Γ w, I m Γ w → W P n c (Exit.then (fun a' w' => ∃ m', m' < m ∧ ∃ Γ', Agree n a' Γ' ∧ I m' Γ' w') Q) Γ w) : W P n (.loop c) Q Γ w := by
  intro a ha
  refine wp_loop_ghost (fun k a w => ∃ Γ, Agree n a Γ ∧ I k Γ w) m ⟨Γ, ha, h0⟩ ?_
  rintro k a w ⟨Γ, ha, hI⟩
  exact round k Γ w hI a ha

theorem X.then_code {y : Code} (h : W P n y Q Γ w) : X n (Exit.then (y.wp P Q) Q) .normal Γ w := h
theorem X.then_ret {K : Act → World → Prop} (h : X n Q .ret Γ w) : X n (Exit.then K Q) .ret Γ w := h
theorem X.then_exit {K : Act → World → Prop} {id : Nat} (h : X n Q (.exit id) Γ w) : X n (Exit.then K Q) (.exit id) Γ w := h
theorem X.block_normal {id : Nat} (h : X n Q .normal Γ w) : X n (Exit.inBlock id Q) .normal Γ w := h
theorem X.block_ret {id : Nat} (h : X n Q .ret Γ w) : X n (Exit.inBlock id Q) .ret Γ w := h
theorem X.block_exit {id : Nat} (h : X n Q .normal Γ w) : X n (Exit.inBlock id Q) (.exit id) Γ w := fun a ha => by simpa [Exit.inBlock] using h a ha
/-- A round has come to its end. -/
theorem X.next {I : Nat → Env → World → Prop} {m : Nat} (ks : List Nat) {Γ' : Env} (he : Sx.pick Γ ks = Γ') (m' : Nat) (hm : m' < m) (h : I m' Γ' w) :
    X n (Exit.then (fun a' w' => ∃ m', m' < m ∧ ∃ Γ', Agree n a' Γ' ∧ I m' Γ' w') Q) .normal Γ w := fun _ ha => ⟨m', hm, Γ', he ▸ ha.pick ks, h⟩

/-- The ways meet: what holds behind a piece of code. -/
theorem W.cut {x y : Code} (I : Env → World → Prop) (h1 : W P n x (Exit.then (fun a' w' => ∃ Γ', Agree n a' Γ' ∧ I Γ' w') Q) Γ w) (h2 : ∀ Γ w, I Γ w → W P n y Q Γ w) : W P n (.seq x y) Q Γ w :=
  fun a ha => wp_seq (wp_mono (h1 a ha) fun e a' w' hq => by
    cases e with
    | normal => obtain ⟨Γ', hA, hI⟩ := hq; exact h2 Γ' w' hI a' hA
    | exit id => exact hq
    | goto l => exact hq
    | ret => exact hq
    | panic ch => exact hq
    | outgrown => exact hq)
theorem X.cut {I : Env → World → Prop} (ks : List Nat) {Γ' : Env} (he : Sx.pick Γ ks = Γ') (h : I Γ' w) : X n (Exit.then (fun a' w' => ∃ Γ', Agree n a' Γ' ∧ I Γ' w') Q) .normal Γ w :=
  fun _ ha => ⟨Γ', he ▸ ha.pick ks, h⟩
end

/-! ### The whole function -/
def zipEnv : Nat → List Value → Env
  | _, [] => []
  | k, v :: r => (k, v) :: zipEnv (k + 1) r
theorem look_zipEnv : ∀ (l : List Value) (k t : Nat) (v : Value), look (zipEnv k l) t = some v → k ≤ t ∧ l[t - k]? = some v
  | [], k, t, v, e => by simp [zipEnv, look] at e
  | u :: l, k, t, v, e => by
    by_cases h : k = t
    · subst h; simp only [zipEnv] at e; rw [look_cons_eq] at e; simpa using e
    · simp only [zipEnv] at e
      rw [look_cons_ne _ _ h] at e
      obtain ⟨h1, h2⟩ := look_zipEnv l (k + 1) t v e
      refine ⟨by omega, ?_⟩
      rw [show t - k = (t - (k + 1)) + 1 by omega]
      simpa using h2

theorem calls_of_W {P : Program} {f : FuncId} {fn : Func} {c : Code} {args : List Value} {w : World} {R : Value → World → Prop} {m : Nat}
    (hf : P.funcs[f]? = some fn) (hb : fn.body = some c) (hm : fn.ntmps = m) (hl : Nat.ble args.length m = true) (h : W P m c (bodyPost P fn (Ret R)) (zipEnv 0 args) w) : Calls P f args.toArray w (Ret R) := by
  refine calls_of_wp hf hb (h _ ⟨?_, rfl, ?_⟩)
  · have := Nat.le_of_ble_eq_true hl
    simp [hm]; omega
  · intro t v e
    obtain ⟨_, h2⟩ := look_zipEnv args 0 t v e
    simp only [Nat.sub_zero] at h2
    have hlt : t < args.length := (List.getElem?_eq_some_iff.1 h2).1
    rw [Array.getD_eq_getD_getElem?, Array.getElem?_append_left (by simpa using hlt)]
    simp [h2]

theorem X.ret1 {P : Program} {fn : Func} {n : Nat} {Γ : Env} {w : World} {R : Value → World → Prop} {t : Nat} (hr : fn.results = #[.tmp t]) {v : Value} (hv : look Γ t = some v) (h : R v w) : X n (bodyPost P fn (Ret R)) .ret Γ w :=
  fun a ha => bodyPost_ret (results_tmp hr _ _ _) ha.defers ⟨_, rfl, by rw [ha.slot t v hv]; exact h⟩
theorem X.ret2 {P : Program} {fn : Func} {n : Nat} {Γ : Env} {w : World} {R : Value → World → Prop} {t u : Nat} (hr : fn.results = #[.tmp t, .tmp u]) {v1 v2 : Value} (h1 : look Γ t = some v1) (h2 : look Γ u = some v2) (h : R (.tuple #[v1, v2]) w) : X n (bodyPost P fn (Ret R)) .ret Γ w :=
  fun a ha => bodyPost_ret (results_tmp2 hr _ _ _) ha.defers ⟨_, rfl, by rw [ha.slot t v1 h1, ha.slot u v2 h2]; exact h⟩
theorem X.ret3 {P : Program} {fn : Func} {n : Nat} {Γ : Env} {w : World} {R : Value → World → Prop} {t u s : Nat} (hr : fn.results = #[.tmp t, .tmp u, .tmp s]) {v1 v2 v3 : Value} (h1 : look Γ t = some v1) (h2 : look Γ u = some v2) (h3 : look Γ s = some v3) (h : R (.tuple #[v1, v2, v3]) w) : X n (bodyPost P fn (Ret R)) .ret Γ w :=
  fun a ha => bodyPost_ret (v := .tuple #[v1, v2, v3]) (by simp only [results, hr]; have e1 := ha.slot t v1 h1; have e2 := ha.slot u v2 h2; have e3 := ha.slot s v3 h3; simp only [Array.getD_eq_getD_getElem?] at e1 e2 e3; simp [e1, e2, e3]) ha.defers ⟨_, rfl, h⟩
theorem X.end0 {P : Program} {fn : Func} {n : Nat} {Γ : Env} {w : World} {R : Value → World → Prop} (hr : fn.results = #[]) (h : R (.tuple #[]) w) : X n (bodyPost P fn (Ret R)) .normal Γ w :=
  fun _ ha => bodyPost_end (results_none hr _ _ _) ha.defers ⟨_, rfl, h⟩
end Go.Sx


/- Walks over what is known of the slots: what the operations do. -/
namespace Go.Sx
set_option linter.unusedVariables false
set_option linter.unusedSimpArgs false

/-! ### Types, by the program's tables -/
def aggD : TypeDesc → Bool | .struct _ | .array _ _ => true | _ => false
def szOf (P : Program) (t : TypeId) : Option (Nat × Nat × Option Value) := (P.info? t).map fun i => (i.size, i.bytes, i.zero)
def fldOf (P : Program) (t : TypeId) (f : Nat) : Option (Nat × Nat × Bool) :=
  match P.underlying t with
  | some (.struct fs) => match fs[f]? with
    | some fd => match P.info? fd.type, P.underlying fd.type with
      | some i, some d => some (fd.offset, i.size, aggD d)
      | _, _ => none
    | none => none
  | _ => none

section
variable {P : Program} {w : World} {t : TypeId}
theorem szOf_info {s b : Nat} {z : Option Value} (h : szOf P t = some (s, b, z)) : ∃ i, P.info? t = some i ∧ i.size = s ∧ i.bytes = b ∧ i.zero = z := by
  unfold szOf at h
  cases hi : P.info? t with
  | none => rw [hi] at h; simp at h
  | some i => rw [hi] at h; simp at h; exact ⟨i, rfl, h.1, h.2.1, h.2.2⟩
theorem run_sz {s b : Nat} {z : Option Value} (h : szOf P t = some (s, b, z)) : (sizeOf t).run P w = .ok s w := by
  obtain ⟨i, hi, rfl, _, _⟩ := szOf_info h
  simp [sizeOf, typeInfo, hi]
theorem run_zero {s b : Nat} {z : Value} (h : szOf P t = some (s, b, some z)) : (zeroValue t).run P w = .ok z w := by
  obtain ⟨i, hi, _, _, hz⟩ := szOf_info h
  simp [zeroValue, typeInfo, hi, hz]
theorem run_isAgg {d : TypeDesc} (h : P.underlying t = some d) : (isAgg t).run P w = .ok (aggD d) w := by
  unfold isAgg
  simp only [Sem.run_bind, run_underlying h, Result.andThen_ok]
  cases d <;> rfl
end

section
variable {P : Program} {Γ : Env} {w : World} {ty : TypeId} {K : Value → World → Prop}

/-! ### Slots -/
theorem d_move {x : Operand} {v : Value} (hx : ev Γ x = some v) (k : K v w) : Does P Γ w (.move x) ty K :=
  Does.of_run (fun ρ hρ => by simp [ex, execOp, hρ x v hx]) k
theorem d_assign {x : Operand} {v : Value} (hx : ev Γ x = some v) (k : K v w) : Does P Γ w (.assign x) ty K :=
  Does.of_run (fun ρ hρ => by simp [ex, execOp, hρ x v hx]) k
theorem d_nilCheck {x : Operand} {ad : Addr} (hx : ev Γ x = some (.pointer (some ad))) (k : K (.pointer (some ad)) w) : Does P Γ w (.nilCheck x) ty K :=
  Does.of_run (fun ρ hρ => by simp [ex, execOp, hρ x _ hx]) k
theorem d_pick {c x y : Operand} {b : Bool} {v : Value} (hc : ev Γ c = some (.bool b)) (hv : (match b with | true => ev Γ x | false => ev Γ y) = some v) (k : K v w) : Does P Γ w (.pick c x y) ty K :=
  Does.of_run (fun ρ hρ => by
    cases b
    · simp [ex, execOp, hρ c _ hc, hρ y _ hv, asBool]
    · simp [ex, execOp, hρ c _ hc, hρ x _ hv, asBool]) k
theorem d_extract {x : Operand} {i : Nat} {vs : Array Value} {v : Value} (hx : ev Γ x = some (.tuple vs)) (hv : vs[i]? = some v) (k : K v w) : Does P Γ w (.extract x i) ty K :=
  Does.of_run (fun ρ hρ => by simp [ex, execOp, hρ x _ hx, Instr.extract, hv]) k

/-! ### Addresses, loads, stores -/
theorem d_load {t : TypeId} {x : Operand} {ad : Addr} {d : TypeDesc} {v : Value} (ht : P.underlying t = some d) (hd : aggD d = false) (hx : ev Γ x = some (.pointer (some ad))) (hc : w.cell? ad = some v) (k : K v w) : Does P Γ w (.load t x) ty K :=
  Does.of_run (fun ρ hρ => by
    simp only [ex, execOp, hρ x _ hx, Instr.loadAt, Instr.sureAddr, loadVar]
    simp [run_isAgg ht, hd, load, Sem.run, hc]) k
theorem cells_of_blk {g : Nat} {cs : Array Value} {e : TypeId} (h : w.heap[g]? = some (.cells cs e (0, 0))) (off : Nat) : w.cell? ⟨g, off, none⟩ = cs[off]? := by simp [World.cell?, h]
theorem d_loadB {t : TypeId} {x : Operand} {g off : Nat} {cs : Array Value} {e : TypeId} {d : TypeDesc} {v : Value} (ht : P.underlying t = some d) (hd : aggD d = false) (hx : ev Γ x = some (.pointer (some ⟨g, off, none⟩)))
    (hb : w.heap[g]? = some (.cells cs e (0, 0))) (hv : cs[off]? = some v) (k : K v w) : Does P Γ w (.load t x) ty K :=
  d_load ht hd hx (by rw [cells_of_blk hb]; exact hv) k
theorem d_loadA {t : TypeId} {x : Operand} {ad : Addr} {d : TypeDesc} {s b : Nat} {z : Option Value} {cs : List Value} (ht : P.underlying t = some d) (hd : aggD d = true) (hs : szOf P t = some (s, b, z)) (hx : ev Γ x = some (.pointer (some ad)))
    (hl : cs.length = s) (hc : ∀ j u, cs[j]? = some u → w.cell? (ad.add j) = some u) (k : K (.agg cs.toArray) w) : Does P Γ w (.load t x) ty K :=
  Does.of_run (fun ρ hρ => by
    simp only [ex, execOp, hρ x _ hx, Instr.loadAt, Instr.sureAddr, loadVar]
    subst hl
    simp [run_isAgg ht, hd, run_sz hs, run_loadCells_list (P := P) (w := w) ad cs hc]) k
theorem add_off (g off j : Nat) : (⟨g, off, none⟩ : Addr).add j = ⟨g, off + j, none⟩ := by unfold Addr.add; split <;> simp_all
theorem d_loadAB {t : TypeId} {x : Operand} {g off : Nat} {cs : Array Value} {e : TypeId} {d : TypeDesc} {s b : Nat} {z : Option Value} (us : List Value) (ht : P.underlying t = some d) (hd : aggD d = true) (hs : szOf P t = some (s, b, z)) (hx : ev Γ x = some (.pointer (some ⟨g, off, none⟩)))
    (hb : w.heap[g]? = some (.cells cs e (0, 0))) (hl : us.length = s) (hc : (cs.toList.drop off).take s = us) (k : K (.agg us.toArray) w) : Does P Γ w (.load t x) ty K :=
  d_loadA ht hd hs hx hl (fun j u hj => by
    rw [add_off, cells_of_blk hb]
    rw [← hc, List.getElem?_take] at hj
    split at hj
    · simpa using hj
    · cases hj) k

def elemPtr : Value → Nat → Value
  | .slice (some a) _ _, j => .pointer (some (a.add j))
  | _, _ => .nilFunc
theorem Rd.ptr {v : Value} {sz n : Nat} {vs : List Value} (h : Rd w v sz n vs) {j : Nat} {u : Value} (hj : vs[j]? = some u) : ∃ ad, elemPtr v j = .pointer (some (ad.add j)) ∧ w.cell? (ad.add j) = some u ∧ ∃ c, v = .slice (some ad) n c := by
  obtain ⟨A, cap, rfl, _, _, h3⟩ := h
  obtain ⟨ad, rfl, hc⟩ := h3 j u hj
  exact ⟨ad, rfl, hc, cap, rfl⟩
theorem d_indexAddr {t e : TypeId} {x ix : Operand} {v : Value} {kd : IntKind} {i : Int} {sz b n : Nat} {z : Option Value} {vs : List Value} (ht : P.underlying t = some (.slice e)) (hs : szOf P e = some (sz, b, z))
    (hx : ev Γ x = some v) (hi : ev Γ ix = some (.int kd i)) (hr : Rd w v sz n vs) (h0 : 0 ≤ i) (h1 : i < n) (hz : 0 < sz) (k : K (elemPtr v (i.toNat * sz)) w) : Does P Γ w (.indexAddr t x ix) ty K :=
  Does.of_run (fun ρ hρ => by
    have hlt : i.toNat * sz < vs.length := by
      rw [hr.len]
      exact Nat.mul_lt_mul_of_pos_right (by omega) hz
    obtain ⟨ad, he, _, c, hv⟩ := hr.ptr (List.getElem?_eq_getElem hlt)
    subst hv
    simp only [ex, execOp, hρ x _ hx, hρ ix _ hi, Instr.indexAt, asIntOf]
    simp [run_underlying ht, run_sz hs, h0, h1, elemPtr]) k
theorem d_loadR {t : TypeId} {x : Operand} {v : Value} {j sz n : Nat} {vs : List Value} {d : TypeDesc} {u : Value} (ht : P.underlying t = some d) (hd : aggD d = false) (hx : ev Γ x = some (elemPtr v j)) (hr : Rd w v sz n vs) (hj : vs[j]? = some u) (k : K u w) : Does P Γ w (.load t x) ty K := by
  obtain ⟨ad, he, hc, _⟩ := hr.ptr hj
  exact d_load ht hd (he ▸ hx) hc k
theorem add_add (a : Addr) (i j : Nat) : (a.add i).add j = a.add (i + j) := by
  unfold Addr.add
  split <;> split <;> split <;> simp_all <;> omega
theorem d_loadAR {t : TypeId} {x : Operand} {v : Value} {j sz n s b : Nat} {z : Option Value} {vs : List Value} {d : TypeDesc} (us : List Value) (ht : P.underlying t = some d) (hd : aggD d = true) (hs : szOf P t = some (s, b, z)) (hx : ev Γ x = some (elemPtr v j)) (hr : Rd w v sz n vs)
    (hl : us.length = s) (hp : 0 < s) (hc : (vs.drop j).take s = us) (k : K (.agg us.toArray) w) : Does P Γ w (.load t x) ty K := by
  have hat : ∀ i u, us[i]? = some u → vs[j + i]? = some u := fun i u hi => by
    rw [← hc, List.getElem?_take] at hi
    split at hi
    · simpa using hi
    · cases hi
  have h0 : us[0]? = some us[0] := List.getElem?_eq_getElem (by omega)
  obtain ⟨ad, he, _, c, hv⟩ := hr.ptr (hat 0 _ h0)
  refine d_loadA ht hd hs (ad := ad.add j) (by rw [hx, ← Nat.add_zero j, he]) hl (fun i u hi => ?_) k
  obtain ⟨ad', he', hc', c', hv'⟩ := hr.ptr (hat i u hi)
  rw [hv] at hv'
  injection hv' with e1
  injection e1 with e1
  subst e1
  rw [add_add]; exact hc'
theorem run_fieldPlace {fd : Field} {i : TypeInfo} (hs : P.info? fd.type = some i) (hz : i.size ≠ 0) (ad : Addr) : (fieldPlace ad fd).run P w = .ok (ad.add fd.offset) w := by
  simp [fieldPlace, sizeOf, typeInfo, hs, hz]
theorem d_fieldAddr {t : TypeId} {x : Operand} {f off s : Nat} {g : Bool} {ad : Addr} (hf : fldOf P t f = some (off, s, g)) (hs : Nat.beq s 0 = false) (hx : ev Γ x = some (.pointer (some ad))) (k : K (.pointer (some (ad.add off))) w) : Does P Γ w (.fieldAddr t x f) ty K :=
  Does.of_run (fun ρ hρ => by
    unfold fldOf at hf
    split at hf
    · rename_i fs hu
      split at hf
      · rename_i fd hfd
        split at hf
        · rename_i i d hi hd
          simp only [Option.some.injEq, Prod.mk.injEq] at hf
          obtain ⟨rfl, rfl, _⟩ := hf
          have hz : i.size ≠ 0 := by intro e; rw [e] at hs; simp at hs
          simp only [ex, execOp, hρ x _ hx, Instr.fieldAt, Instr.sureAddr]
          simp [run_underlying hu, hfd, run_fieldPlace hi hz]
        · cases hf
      · cases hf
    · cases hf) k
theorem d_fieldAddrB {t : TypeId} {x : Operand} {f off s : Nat} {a : Bool} {g o : Nat} (hf : fldOf P t f = some (off, s, a)) (hs : Nat.beq s 0 = false) (hx : ev Γ x = some (.pointer (some ⟨g, o, none⟩))) (k : K (.pointer (some ⟨g, o + off, none⟩)) w) : Does P Γ w (.fieldAddr t x f) ty K :=
  d_fieldAddr hf hs hx (by rw [add_off]; exact k)
theorem d_fieldAddrR {t : TypeId} {x : Operand} {f off s : Nat} {a : Bool} {v : Value} {j n sz : Nat} {vs : List Value} {u : Value} (hf : fldOf P t f = some (off, s, a)) (hs : Nat.beq s 0 = false) (hx : ev Γ x = some (elemPtr v j)) (hr : Rd w v sz n vs) (hj : vs[j]? = some u) (k : K (elemPtr v (j + off)) w) : Does P Γ w (.fieldAddr t x f) ty K := by
  obtain ⟨ad, he, _, c, rfl⟩ := hr.ptr hj
  exact d_fieldAddr hf hs (he ▸ hx) (by simpa [elemPtr, add_add] using k)
theorem run_store1 {ad : Addr} {v old : Value} (h1 : v.oneCell' = true) (hc : w.cell? ad = some old) (hf : w.frozen? ad = false) : (store ad v).run P w = .ok () (w.setCell ad v) := by
  rw [run_store P w ad v _ h1, hc]
  simp [hf]
theorem cells_one {v : Value} (h1 : v.oneCell' = true) : v.cells = #[v] := by cases v <;> simp_all [Value.oneCell', Value.cells]
theorem d_store {t : TypeId} {x y : Operand} {ad : Addr} {b : Nat} {z : Option Value} {v old : Value} (hs : szOf P t = some (1, b, z)) (hx : ev Γ x = some (.pointer (some ad))) (hy : ev Γ y = some v) (h1 : v.oneCell' = true)
    (hc : w.cell? ad = some old) (hf : w.frozen? ad = false) (k : K undef (w.setCell ad v)) : Does P Γ w (.store t x y) ty K :=
  Does.of_skip (fun ρ hρ => by
    simp only [ex, execOp, hρ x _ hx, hρ y _ hy, Instr.storeAt, Instr.sureAddr, storeVar, cells_one h1]
    have h0 : ad.add 0 = ad := by simp [Addr.add]
    simp [run_sz hs, storeCells, h0, run_store1 h1 hc hf]) k
theorem d_storeB {t : TypeId} {x y : Operand} {g off b : Nat} {cs : Array Value} {e : TypeId} {z : Option Value} {v : Value} (hs : szOf P t = some (1, b, z)) (hx : ev Γ x = some (.pointer (some ⟨g, off, none⟩))) (hy : ev Γ y = some v) (h1 : v.oneCell' = true)
    (hb : w.heap[g]? = some (.cells cs e (0, 0))) (hl : Nat.blt off cs.size = true) (k : ∀ w', Upd w [blk g cs e] w' [blk g (cs.setIfInBounds off v) e] → K undef w') : Does P Γ w (.store t x y) ty K := by
  have hl' : off < cs.size := of_eq_true (Eq.trans Nat.blt_eq.symm (eq_true hl))
  exact d_store hs hx hy h1 (old := cs[off]) (by rw [cells_of_blk hb]; exact Array.getElem?_eq_getElem hl') (by simp [World.frozen?, hb]) (k _ (Upd.setCell hb off v))
theorem Upd.setRow {g : Nat} {cs cs' : Array Value} {e : TypeId} (h : w.heap[g]? = some (.cells cs e (0, 0))) : Upd w [blk g cs e] (w.setRow g cs') [blk g cs' e] := by
  refine ⟨⟨fun c hc => ?_, by simp [ats, Sx.blk]⟩, ⟨rfl, rfl, rfl, by simp [World.setRow], fun k hk hs => ?_⟩, fun g' hg => ?_⟩
  · simp only [List.mem_singleton] at hc; subst hc
    show (w.setRow g cs').heap[g]? = _
    simp [World.setRow, Array.getElem?_modify, h]
  · have : k ≠ g := by intro e'; subst e'; simp [ats, Sx.blk] at hs
    simp [World.setRow, Array.getElem?_modify, Ne.symm this]
  · left; simpa [ats, Sx.blk] using hg
theorem d_storeAB {t : TypeId} {x y : Operand} {g off s b : Nat} {cs : Array Value} {us : List Value} {e : TypeId} {z : Option Value} (hs : szOf P t = some (s, b, z)) (hx : ev Γ x = some (.pointer (some ⟨g, off, none⟩))) (hy : ev Γ y = some (.agg us.toArray)) (hl : us.length = s)
    (h1 : us.all (·.oneCell') = true) (hb : w.heap[g]? = some (.cells cs e (0, 0))) (hle : Nat.ble (off + us.length) cs.size = true) {cs' : Array Value} (hc : (cs.toList.take off ++ us ++ cs.toList.drop (off + us.length)).toArray = cs')
    (k : ∀ w', Upd w [blk g cs e] w' [blk g cs' e] → K undef w') : Does P Γ w (.store t x y) ty K :=
  Does.of_skip (w' := w.setRow g cs') (fun ρ hρ => by
    simp only [ex, execOp, hρ x _ hx, hρ y _ hy, Instr.storeAt, Instr.sureAddr, storeVar, Value.cells]
    have := run_storeCells_at P g off e us 0 cs w hb (by simpa using Nat.le_of_ble_eq_true hle) (by simpa using h1)
    simp only [Nat.add_zero, hc] at this
    simp [run_sz hs, hl, this]) (k _ (Upd.setRow hb))
/-- A store into an element of a row of one's own. -/
theorem own_set {v : Value} {e : TypeId} {sz n : Nat} {vs : List Value} (h : w.ownsRow 0 e sz v n vs) {j : Nat} (hj : j < vs.length) (u : Value) :
    ∃ ad old, elemPtr v j = .pointer (some ad) ∧ w.cell? ad = some old ∧ w.frozen? ad = false ∧ Upd w [row v e sz n vs] (w.setCell ad u) [row v e sz n (vs.set j u)] := by
  obtain ⟨h1, h2⟩ := h
  rcases h2 with ⟨rfl, rfl⟩ | ⟨g, cap, cur, rfl, _, h3, h4, h5, h6, h7⟩
  · omega
  · have hlt : j < cur.size := by
      have : vs.length ≤ cur.size := by rw [← h7]; simp; omega
      omega
    refine ⟨⟨g, j, none⟩, cur[j], by simp [elemPtr, add_off], by rw [cells_of_blk h3]; exact Array.getElem?_eq_getElem hlt, by simp [World.frozen?, h3], ?_⟩
    refine ⟨⟨fun c hc => ?_, by simp [ats, row, Value.ownBlock]⟩, ⟨rfl, rfl, rfl, by simp [World.setCell], fun k hk hs => ?_⟩, fun g' hg => ?_⟩
    · simp only [List.mem_singleton] at hc; subst hc
      refine ⟨by simpa using h1, .inr ⟨g, cap, cur.setIfInBounds j u, rfl, Nat.zero_le _, by simp [World.setCell, Array.getElem?_modify, h3], h4, h5, by simp [h6], ?_⟩⟩
      rw [← h7]
      simp only [Array.toList_setIfInBounds]
      have hjn : j < n * sz := by omega
      apply List.ext_getElem?
      intro i
      simp only [List.getElem?_take, List.getElem?_set, List.length_take]
      by_cases hi : i < n * sz
      · by_cases hij : j = i
        · subst hij; simp [hi, hlt]; omega
        · simp [hi, hij]
      · have : j ≠ i := by omega
        simp [hi, this]
    · exact RowKit.Below.heap_setCell _ _ _ _ (by intro e'; subst e'; simp [ats, row, Value.ownBlock] at hs)
    · left; simpa [ats, row] using hg
theorem d_storeR {t : TypeId} {x y : Operand} {v : Value} {e : TypeId} {j sz n b : Nat} {vs : List Value} {z : Option Value} {u : Value} (hs : szOf P t = some (1, b, z)) (hx : ev Γ x = some (elemPtr v j)) (hy : ev Γ y = some u) (h1 : u.oneCell' = true)
    (ho : w.ownsRow 0 e sz v n vs) (hj : j < vs.length) (k : ∀ w', Upd w [row v e sz n vs] w' [row v e sz n (vs.set j u)] → K undef w') : Does P Γ w (.store t x y) ty K := by
  obtain ⟨ad, old, he, hc, hf, hu⟩ := own_set ho hj u
  exact d_store hs (he ▸ hx) hy h1 hc hf (k _ hu)

/-! ### Numbers, strings, bools -/
theorem wrap_in {k : IntKind} {x : Int} (h : (if k.signed then -(2 ^ (k.bits - 1) : Int) else 0) ≤ x ∧ x ≤ k.max) : k.wrap x = x := by
  cases k <;> simp only [IntKind.signed, IntKind.bits, IntKind.max, IntKind.wrap, if_true, Bool.false_eq_true, if_false, Bool.true_and, Bool.false_and] at * <;> (try split) <;> simp_all <;> omega
theorem wrap_i64 {x : Int} (h : -9223372036854775808 ≤ x) (h' : x ≤ 9223372036854775807) : IntKind.i64.wrap x = x := wrap_in (by simpa [IntKind.signed, IntKind.bits, IntKind.max] using ⟨h, h'⟩)
theorem d_arith {op : BinOp} {xt yt : TypeId} {x y : Operand} {kd : IntKind} {a b : Int} (r : Int) (hx : ev Γ x = some (.int kd a)) (hy : ev Γ y = some (.int kd b))
    (hr : (match op with | .add => some (kd.wrap (a + b)) | .sub => some (kd.wrap (a - b)) | .mul => some (kd.wrap (a * b)) | _ => none) = some r) (k : K (.int kd r) w) : Does P Γ w (.binOp op xt x y yt) ty K :=
  Does.of_run (fun ρ hρ => by
    cases op <;> simp only [reduceCtorEq, Option.some.injEq] at hr <;> subst hr <;>
    simp [ex, execOp, hρ x _ hx, hρ y _ hy, eqGuard, binOp, Op.intArith]) k
theorem d_add {xt yt : TypeId} {x y : Operand} {a b : Int} (hx : ev Γ x = some (.int .i64 a)) (hy : ev Γ y = some (.int .i64 b)) (h : -9223372036854775808 ≤ a + b) (h' : a + b ≤ 9223372036854775807) (k : K (.int .i64 (a + b)) w) : Does P Γ w (.binOp .add xt x y yt) ty K :=
  d_arith (a + b) hx hy (by rw [wrap_i64 h h']) k
theorem d_sub {xt yt : TypeId} {x y : Operand} {a b : Int} (hx : ev Γ x = some (.int .i64 a)) (hy : ev Γ y = some (.int .i64 b)) (h : -9223372036854775808 ≤ a - b) (h' : a - b ≤ 9223372036854775807) (k : K (.int .i64 (a - b)) w) : Does P Γ w (.binOp .sub xt x y yt) ty K :=
  d_arith (a - b) hx hy (by rw [wrap_i64 h h']) k
theorem d_mul {xt yt : TypeId} {x y : Operand} {a b : Int} (hx : ev Γ x = some (.int .i64 a)) (hy : ev Γ y = some (.int .i64 b)) (h : -9223372036854775808 ≤ a * b) (h' : a * b ≤ 9223372036854775807) (k : K (.int .i64 (a * b)) w) : Does P Γ w (.binOp .mul xt x y yt) ty K :=
  d_arith (a * b) hx hy (by rw [wrap_i64 h h']) k
def cmpOf : BinOp → Int → Int → Option Bool
  | .eql, a, b => some (decide (a = b))
  | .neq, a, b => some (decide (a ≠ b))
  | .lss, a, b => some (decide (a < b))
  | .leq, a, b => some (decide (a ≤ b))
  | .gtr, a, b => some (decide (a > b))
  | .geq, a, b => some (decide (a ≥ b))
  | _, _, _ => none
theorem d_cmp {op : BinOp} {xt yt : TypeId} {x y : Operand} {kd : IntKind} {a b : Int} (r : Bool) (hx : ev Γ x = some (.int kd a)) (hy : ev Γ y = some (.int kd b)) (hr : cmpOf op a b = some r) (k : K (.bool r) w) : Does P Γ w (.binOp op xt x y yt) ty K :=
  Does.of_run (fun ρ hρ => by
    cases op <;> simp only [cmpOf, reduceCtorEq, Option.some.injEq] at hr <;> subst hr <;>
    simp [ex, execOp, hρ x _ hx, hρ y _ hy, eqGuard, binOp, Op.intCmp] <;> (try (by_cases h : a = b <;> simp [h]))) k
theorem toList_inj {a b : ByteArray} : (a.toList == b.toList) = decide (a = b) := by
  by_cases h : a = b
  · subst h; simp
  · have : a.toList ≠ b.toList := fun e => h (by
      have h2 : a.data.toList = b.data.toList := by rw [← ByteArray.toList_eq, ← ByteArray.toList_eq, e]
      cases a; cases b; simp only [ByteArray.mk.injEq]; exact Array.ext' h2)
    simp [h, this]
theorem run_equal_bool {t : TypeId} (ht : P.underlying t = some .bool) (a b : Bool) (d : Nat) : (Op.equalIn (d + 1) t (.bool a) (.bool b)).run P w = .ok (a == b) w := by
  simp [Op.equalIn, run_underlying ht]
theorem run_equal_slc {t e : TypeId} (ht : P.underlying t = some (.slice e)) (a : Option Addr) (n c d : Nat) : (Op.equalIn (d + 1) t (.slice a n c) (.slice none 0 0)).run P w = .ok (decide (a = none)) w := by
  cases a <;> simp [Op.equalIn, run_underlying ht]
theorem run_equal {t : TypeId} {x y : Value} {r : Bool} (h : ∀ d, (Op.equalIn (d + 1) t x y).run P w = .ok r w) : (Op.equal t x y).run P w = .ok r w := h 9999
theorem d_booleq {xt yt : TypeId} {x y : Operand} {a b : Bool} (ht : P.underlying xt = some .bool) (hx : ev Γ x = some (.bool a)) (hy : ev Γ y = some (.bool b)) (k : K (.bool (decide (a = b))) w) : Does P Γ w (.binOp .eql xt x y yt) ty K :=
  Does.of_run (fun ρ hρ => by
    have := run_equal (w := w) (fun d => run_equal_bool (w := w) ht a b d)
    simp [ex, execOp, hρ x _ hx, hρ y _ hy, eqGuard, binOp, this]; cases a <;> cases b <;> rfl) k
theorem d_boolne {xt yt : TypeId} {x y : Operand} {a b : Bool} (ht : P.underlying xt = some .bool) (hx : ev Γ x = some (.bool a)) (hy : ev Γ y = some (.bool b)) (k : K (.bool (decide (a ≠ b))) w) : Does P Γ w (.binOp .neq xt x y yt) ty K :=
  Does.of_run (fun ρ hρ => by
    have := run_equal (w := w) (fun d => run_equal_bool (w := w) ht a b d)
    simp [ex, execOp, hρ x _ hx, hρ y _ hy, eqGuard, binOp, this]; cases a <;> cases b <;> rfl) k
theorem d_slcnil {xt yt e : TypeId} {x : Operand} {a : Option Addr} {n c : Nat} (ht : P.underlying xt = some (.slice e)) (hx : ev Γ x = some (.slice a n c)) (k : K (.bool (decide (a = none))) w) : Does P Γ w (.binOp .eql xt x (.const (.slice none 0 0)) yt) ty K :=
  Does.of_run (fun ρ hρ => by
    have hc : ρ (.const (.slice none 0 0)) = .slice none 0 0 := hρ _ _ rfl
    have := run_equal (w := w) (fun d => run_equal_slc (w := w) ht a n c d)
    simp [ex, execOp, hρ x _ hx, hc, eqGuard, binOp, this]) k
theorem d_notB {xt : TypeId} {x : Operand} {b : Bool} (hx : ev Γ x = some (.bool b)) (k : K (.bool (!b)) w) : Does P Γ w (.unOp .not xt x) ty K :=
  Does.of_run (fun ρ hρ => by simp [ex, execOp, hρ x _ hx, Op.unary]) k
/-! ### len, slices, strings -/
theorem d_lenS {x : Operand} {t e : TypeId} {a : Option Addr} {n c : Nat} (ht : P.underlying t = some (.slice e)) (hx : ev Γ x = some (.slice a n c)) (k : K (.int .i64 n) w) : Does P Γ w (.call { callee := .builtin .len, args := #[x], argTypes := #[t] }) ty K :=
  Does.of_run (fun ρ hρ => by simp [ex, execOp, hρ x _ hx, resolve, invoke, builtin, Builtin.len_, run_underlying ht, goInt]) k
def bdOk (lo hi cap : Int) : Prop := 0 ≤ lo ∧ lo ≤ hi ∧ hi ≤ cap
theorem run_sliceBounds {b : Bool} {len cap : Nat} {lo hi : Option Value} {l h : Int} (hlo : lo = none ∧ l = 0 ∨ ∃ kd, lo = some (.int kd l)) (hhi : hi = none ∧ h = len ∨ ∃ kd, hi = some (.int kd h)) (hk : bdOk l h cap) :
    (Instr.sliceBounds b len cap lo hi none).run P w = .ok (l.toNat, h.toNat, cap) w := by
  obtain ⟨h1, h2, h3⟩ := hk
  have e1 : 0 ≤ h := by omega
  have e2 : (l : Int) ≤ ((h.toNat : Nat) : Int) := by omega
  rcases hlo with ⟨rfl, rfl⟩ | ⟨kd, rfl⟩ <;> rcases hhi with ⟨rfl, rfl⟩ | ⟨kd', rfl⟩
  · simp [Instr.sliceBounds]
  · simp [Instr.sliceBounds, Instr.sliceBound, asIntOf, e1, h3]
  · simp [Instr.sliceBounds, Instr.sliceBound, asIntOf, h1, h2]
  · have : l ≤ max h 0 := by omega
    simp [Instr.sliceBounds, Instr.sliceBound, asIntOf, e1, h1, h3, this]
def evO (Γ : Env) : Option Operand → Option (Option Value)
  | none => some none
  | some x => (ev Γ x).map some
theorem AgR.evO {ρ : Operand → Value} (h : AgR ρ Γ) {x : Option Operand} {v : Option Value} (e : evO Γ x = some v) : x.map ρ = v := by
  cases x with
  | none => simp [Sx.evO] at e; simp [e]
  | some x =>
    simp only [Sx.evO] at e
    cases hv : ev Γ x with
    | none => rw [hv] at e; simp at e
    | some u => rw [hv] at e; simp at e; simp [h x u hv, e]
/-- What reslicing makes. -/
def subSlice (v : Value) (sz : Nat) (l h : Nat) : Value :=
  match v with
  | .slice a _ c => .slice (if c = l then a else a.map (·.add (l * sz))) (h - l) (c - l)
  | v => v
theorem d_slice {t e : TypeId} {x : Operand} {lo hi : Option Operand} {vlo vhi : Option Value} {A : Option Addr} {n c sz b : Nat} {z : Option Value} (l h : Int) (ht : P.underlying t = some (.slice e)) (hs : szOf P e = some (sz, b, z)) (hx : ev Γ x = some (.slice A n c)) (hlo : evO Γ lo = some vlo) (hhi : evO Γ hi = some vhi)
    (el : vlo = none ∧ l = 0 ∨ ∃ kd, vlo = some (.int kd l)) (eh : vhi = none ∧ h = n ∨ ∃ kd, vhi = some (.int kd h)) (hk : bdOk l h c) (k : K (subSlice (.slice A n c) sz l.toNat h.toNat) w) : Does P Γ w (.slice t x lo hi none) ty K :=
  Does.of_run (fun ρ hρ => by
    simp only [ex, execOp, hρ x _ hx, hρ.evO hlo, hρ.evO hhi, Instr.sliceAt, Instr.slice, Option.map_none]
    simp [run_underlying ht, run_sz hs, run_sliceBounds (P := P) (w := w) (b := true) el eh hk, subSlice]) k

/-! ### Calls -/
theorem map_evs {ρ : Operand → Value} {xs : Array Operand} {vs : List Value} (hρ : AgR ρ Γ) (hx : evs Γ xs.toList = some vs) : xs.map ρ = vs.toArray := by
  have := hρ.evs _ _ hx
  rw [← this, ← Array.toList_map]
def CallOk (P : Program) (f : FuncId) : Prop := ∀ args w, (callFunc f args).run P w = .ok (.enter f args) w
theorem callOk {f : FuncId} {fn : Func} (hf : P.funcs[f]? = some fn) (hn : (fn.name == "runtime.NumGoroutine") = false) (hb : fn.body.isNone = false) : CallOk P f := by
  intro args w
  have hn' : ¬ (fn.name = "runtime.NumGoroutine") := by simpa using hn
  have hb' : ¬ (fn.body = none) := by cases h : fn.body <;> simp [h] at hb ⊢
  simp [callFunc, hf, hn', hb']
theorem d_call {f : FuncId} {xs : Array Operand} {ts : Array TypeId} {vs : List Value} (hc : CallOk P f) (hx : evs Γ xs.toList = some vs) (h : Calls P f vs.toArray w (Ret K)) : Does P Γ w (.call { callee := .value (.func f), args := xs, argTypes := ts }) ty K := by
  intro ρ hρ
  have h1 : ρ (.func f) = .func (.func f) #[] #[] := hρ _ _ rfl
  have h2 : xs.map ρ = vs.toArray := map_evs hρ hx
  simp only [ex, execOp, resolve, h1, h2, Deferred.ofValue]
  have := hc vs.toArray w
  simp [invoke, this]
  exact h
/-- A function value is called. -/
theorem d_callv {f : FuncId} {g : Operand} {first capt : Array Value} {xs : Array Operand} {ts : Array TypeId} {vs : List Value} (hc : CallOk P f) (hg : ev Γ g = some (.func (.func f) first capt)) (hx : evs Γ xs.toList = some vs)
    (h : Calls P f (first ++ vs.toArray ++ capt) w (Ret K)) : Does P Γ w (.call { callee := .value g, args := xs, argTypes := ts }) ty K := by
  intro ρ hρ
  have h1 := hρ _ _ hg
  have h2 : xs.map ρ = vs.toArray := map_evs hρ hx
  simp only [ex, execOp, resolve, h1, h2, Deferred.ofValue]
  have := hc (first ++ vs.toArray ++ capt) w
  simp only [Array.append_assoc] at this
  simp [invoke, this]
  simpa using h
theorem d_makeFunc {fn : Fn} {first capt : Array Operand} {fs cs : List Value} (h1 : evs Γ first.toList = some fs) (h2 : evs Γ capt.toList = some cs) (k : K (.func fn fs.toArray cs.toArray) w) : Does P Γ w (.makeFunc fn first capt) ty K :=
  Does.of_run (fun ρ hρ => by
    have e1 : first.map ρ = fs.toArray := map_evs hρ h1
    have e2 : capt.map ρ = cs.toArray := map_evs hρ h2
    simp [ex, execOp, e1, e2, Instr.makeFunc]) k

/-! ### New memory -/
theorem d_box {e : TypeId} {x : Operand} {v : Value} (hx : ev Γ x = some v) (k : ∀ w', Upd w [] w' [blk w.heap.size v.cells e] → K (.pointer (some ⟨w.heap.size, 0, none⟩)) w') : Does P Γ w (.box e x) ty K :=
  Does.of_run (w' := w.alloc (.cells v.cells e)) (fun ρ hρ => by simp [ex, execOp, hρ x _ hx, Instr.box, newVar, newRow, newObj, Sem.run]) (k _ (Upd.alloc w _ e))
theorem d_alloc {e : TypeId} {s b : Nat} {z : Value} (hs : szOf P e = some (s, b, some z)) (k : ∀ w', Upd w [] w' [blk w.heap.size z.cells e] → K (.pointer (some ⟨w.heap.size, 0, none⟩)) w') : Does P Γ w (.alloc e) ty K :=
  Does.of_run (w' := w.alloc (.cells z.cells e)) (fun ρ hρ => by simp [ex, execOp, Instr.alloc, run_zero hs, newVar, newRow, newObj, Sem.run]) (k _ (Upd.alloc w _ e))
end
end Go.Sx


/- Walks over what is known of the slots: what is built, made, appended. -/
namespace Go.Sx
set_option linter.unusedVariables false
set_option linter.unusedSimpArgs false

def evp (Γ : Env) : List (Nat × Operand) → Option (List (Nat × Value))
  | [] => some []
  | (i, x) :: r => match ev Γ x, evp Γ r with | some v, some l => some ((i, v) :: l) | _, _ => none
theorem AgR.evp {ρ : Operand → Value} {Γ : Env} (h : AgR ρ Γ) : ∀ (l : List (Nat × Operand)) (vs : List (Nat × Value)), Sx.evp Γ l = some vs → (l.map fun p => (p.1, ρ p.2)) = vs
  | [], vs, e => by simp [Sx.evp] at e; simp [e]
  | (i, x) :: r, vs, e => by
    simp only [Sx.evp] at e
    split at e
    · rename_i v l hv hl
      simp only [Option.some.injEq] at e
      subst e
      simp [h x v hv, h.evp r l hl]
    · cases e

section
variable {P : Program} {Γ : Env} {w : World} {ty : TypeId} {K : Value → World → Prop}

theorem d_build {t : TypeId} {ps : Array (Nat × Operand)} {vs : List (Nat × Value)} {cs : Array Value} (hp : evp Γ ps.toList = some vs) (hb : P.built t vs = some cs) (k : K (.agg cs) w) : Does P Γ w (.build t ps) ty K :=
  Does.of_run (fun ρ hρ => by
    have e : (ps.map fun (i, x) => (i, ρ x)).toList = vs := by rw [← hρ.evp _ _ hp]; simp
    simp only [ex, execOp, Sem.run_bind, run_build w t _ cs (by rw [e]; exact hb), Result.andThen_ok]
    rfl) k
theorem own_made {g : Nat} {cs : Array Value} {e : TypeId} {sz n : Nat} {w' : World} (h : Upd w [] w' [blk g cs e]) (hs : cs.size = n * sz) (hn : n ≤ 9223372036854775807) : Upd w [] w' [row (.slice (some ⟨g, 0, none⟩) n n) e sz n cs.toList] := by
  have hb := h.hp.blk (g := g) (cs := cs) (e := e) (by simp)
  have ho : w'.ownsRow 0 e sz (.slice (some ⟨g, 0, none⟩) n n) n cs.toList :=
    ⟨by simp [hs], .inr ⟨g, n, cs, rfl, Nat.zero_le _, hb, Nat.le_refl _, by simp [maxLen]; omega, hs, by rw [List.take_of_length_le]; simp [hs]⟩⟩
  refine ⟨⟨fun c hc => ?_, by simp [ats, row, Value.ownBlock]⟩, h.keep, fun g' hg => h.fresh g' (by simpa [ats, row, blk, Value.ownBlock] using hg)⟩
  simp only [List.mem_singleton] at hc
  subst hc
  exact own_row ho
theorem d_buildSlice {t e : TypeId} {len sz b : Nat} {z : Value} {ps : Array (Nat × Operand)} {vs : List (Nat × Value)} {cs : Array Value} (ht : P.underlying t = some (.slice e)) (hs : szOf P e = some (sz, b, some z)) (hp : evp Γ ps.toList = some vs)
    (hsmall : Nat.ble (len * sz) 16777216 = true) (hpos : Nat.beq (len * sz) 0 = false)
    (hf : Instr.fill (fun i => some (i * sz, sz)) ((Array.range (len * sz)).map (z.cells[· % z.cells.size]!)) vs = some cs) (hcs : cs.size = len * sz)
    (k : ∀ w', Upd w [] w' [row (.slice (some ⟨w.heap.size, 0, none⟩) len len) e sz len cs.toList] → K (.slice (some ⟨w.heap.size, 0, none⟩) len len) w') : Does P Γ w (.buildSlice t len ps) ty K :=
  Does.of_run (w' := w.alloc (.cells cs e)) (fun ρ hρ => by
    have e1 : (ps.map fun (i, x) => (i, ρ x)).toList = vs := by rw [← hρ.evp _ _ hp]; simp
    have h1 : ¬ (16777216 < len * sz) := by have := Nat.le_of_ble_eq_true hsmall; omega
    have h2 : len * sz ≠ 0 := by intro h; rw [h] at hpos; simp at hpos
    simp only [ex, execOp, Instr.buildSlice, e1]
    simp [run_underlying ht, run_sz hs, run_zero hs, h1, hf, newRow, newObj, Sem.run, h2]) (k _ (own_made (Upd.alloc w cs e) hcs (by
      have := Nat.le_of_ble_eq_true hsmall
      have h2 : 0 < sz := by
        rcases Nat.eq_zero_or_pos sz with h | h
        · rw [h] at hpos; simp at hpos
        · exact h
      have := Nat.le_mul_of_pos_right len h2
      omega)))
/-- An empty literal, '[]T{}'. -/
theorem d_buildSlice0 {t e : TypeId} {sz b : Nat} {z : Option Value} (ht : P.underlying t = some (.slice e)) (hs : szOf P e = some (sz, b, z))
    (k : ∀ w', Upd w [] w' [row (.slice (some ⟨w.heap.size, 0, none⟩) 0 0) e sz 0 []] → K (.slice (some ⟨w.heap.size, 0, none⟩) 0 0) w') : Does P Γ w (.buildSlice t 0 #[]) ty K :=
  Does.of_run (w' := w.alloc (.cells #[] e)) (fun ρ hρ => by
    simp only [ex, execOp, Instr.buildSlice]
    have h0 : ∀ f : Nat → Value, (Array.range 0).map f = #[] := fun f => by simp
    simp [run_underlying ht, run_sz hs, newRow, newObj, Sem.run, Instr.fill, h0]) (k _ (by simpa using own_made (n := 0) (sz := sz) (Upd.alloc w #[] e) (by simp) (by omega)))
theorem d_make {t e : TypeId} {x y : Operand} {kx ky : IntKind} {sz b : Nat} {z : Value} {l c : Int} (ht : P.underlying t = some (.slice e)) (hs : szOf P e = some (sz, b, some z)) (hx : ev Γ x = some (.int kx l)) (hy : ev Γ y = some (.int ky c))
    (h0 : 0 ≤ l) (hlc : l ≤ c) (hb : (b : Int) * c ≤ 140737488355328) (hc : c ≤ 9223372036854775807)
    (k : ∀ w', Upd w [] w' [row (.slice (some ⟨w.heap.size, 0, none⟩) l.toNat c.toNat) e sz l.toNat ((madeCells z.cells (c.toNat * sz)).toList.take (l.toNat * sz))] → K (.slice (some ⟨w.heap.size, 0, none⟩) l.toNat c.toNat) w') : Does P Γ w (.makeSlice t x y) ty K := by
  obtain ⟨i, hi, rfl, rfl, hz⟩ := szOf_info hs
  refine Does.of_run (w' := w.alloc (.cells (madeCells z.cells (c.toNat * i.size)) e)) (fun ρ hρ => ?_) (k _ ?_)
  · simp only [ex, execOp, hρ x _ hx, hρ y _ hy, Sem.run_bind, run_make (P := P) w t e i z ht hi hz kx ky l c h0 hlc (by omega) hc, Result.andThen_ok]
    rfl
  · have hu := Upd.alloc w (madeCells z.cells (c.toNat * i.size)) e
    have hbk := hu.hp.blk (g := w.heap.size) (cs := madeCells z.cells (c.toNat * i.size)) (e := e) (by simp)
    have hle : l.toNat * i.size ≤ c.toNat * i.size := Nat.mul_le_mul_right _ (by omega)
    have ho : (w.alloc (.cells (madeCells z.cells (c.toNat * i.size)) e)).ownsRow 0 e i.size (.slice (some ⟨w.heap.size, 0, none⟩) l.toNat c.toNat) l.toNat ((madeCells z.cells (c.toNat * i.size)).toList.take (l.toNat * i.size)) :=
      ⟨by rw [List.length_take, Array.length_toList, size_madeCells]; exact Nat.min_eq_left hle, .inr ⟨w.heap.size, c.toNat, _, rfl, Nat.zero_le _, hbk, by omega, by simp [maxLen]; omega, size_madeCells _ _, rfl⟩⟩
    refine ⟨⟨fun c' hc' => ?_, by simp [ats, row, Value.ownBlock]⟩, hu.keep, fun g' hg => hu.fresh g' (by simpa [ats, row, blk, Value.ownBlock] using hg)⟩
    simp only [List.mem_singleton] at hc'
    subst hc'
    exact own_row ho
theorem upd_of_grown {v v' : Value} {e : TypeId} {sz n n' : Nat} {vs vs' : List Value} {w' : World} (h : w'.ownsRow 0 e sz v' n' vs') (hg : w.grownBy w' v.ownBlock) (hb : v'.ownBlock = v.ownBlock ∨ v'.ownBlock = some w.heap.size) : Upd w [row v e sz n vs] w' [row v' e sz n' vs'] := by
  refine ⟨⟨fun c hc => ?_, ?_⟩, ⟨hg.os, hg.tape, hg.output, hg.size, fun k hk hs => hg.block k hk ?_⟩, fun g hg' => ?_⟩
  · simp only [List.mem_singleton] at hc; subst hc; exact own_row h
  · cases hv : v'.ownBlock <;> simp [ats, row, hv]
  · intro e'; apply hs; simp [ats, row, ← e']
  · have : v'.ownBlock = some g := by
      cases hv : v'.ownBlock <;> simp [ats, row, hv] at hg'
      rw [hg']
    rcases hb with h1 | h1
    · left; rw [this] at h1; simp [ats, row, ← h1]
    · right; rw [this] at h1; injection h1 with h1; omega
theorem run_append_none {t xt e : TypeId} {i : TypeInfo} {a A : Option Addr} {n c c' : Nat} (ht : P.underlying t = some (.slice e)) (hxt : P.underlying xt = some (.slice e)) (hi : P.info? e = some i) (hn : n ≤ c) : (Builtin.append_ #[t, xt] ty #[.slice a n c, .slice A 0 c']).run P w = .ok (.slice a n c) w := by
  have hf : (Builtin.firstCells i.size 0 (.slice A 0 c')).run P w = .ok #[] w := by
    cases A <;> simp [Builtin.firstCells, loadCells, loadCellsFrom]
  have hm : (match (TypeDesc.slice e) with | .int _ => true | _ => false) = false := rfl
  cases a <;> simp [Builtin.append_, run_underlying ht, run_underlying hxt, sizeOf, typeInfo, hi, Builtin.lenOf, hn, hf, storeCells]
/-- append, onto a row of one's own, of what is read. -/
theorem d_append {s x : Operand} {t e : TypeId} {sz b n m c cx : Nat} {z : Value} {a A : Option Addr} {vs news : List Value} (ht : P.underlying t = some (.slice e)) (hs : szOf P e = some (sz, b, some z)) (hzs : z.cells.size = sz) (hsz : Nat.blt 0 sz = true)
    (hev : ev Γ s = some (.slice a n c)) (hx : ev Γ x = some (.slice A m cx)) (ho : w.ownsRow 0 e sz (.slice a n c) n vs) (hr : Rd w (.slice A m cx) sz m news) (h1 : ∀ u ∈ news, u.oneCell' = true) (hb : (n + m) * b ≤ 140737488355328) (h63 : n + m ≤ 9223372036854775807)
    (k : ∀ a' c' w', Upd w [row (.slice a n c) e sz n vs] w' [row (.slice a' (n + m) c') e sz (n + m) (vs ++ news)] → K (.slice a' (n + m) c') w') : Does P Γ w (.call { callee := .builtin .append, args := #[s, x], argTypes := #[t, t] }) ty K := by
  obtain ⟨i, hi, rfl, rfl, hz⟩ := szOf_info hs
  have hsz' : 0 < i.size := of_eq_true (Eq.trans Nat.blt_eq.symm (eq_true hsz))
  rcases Nat.eq_zero_or_pos m with rfl | hm
  · have hn : n ≤ c := by
      rcases ho.2 with ⟨h1, h2⟩ | ⟨g, cap, cur, h1, _, _, h2, _⟩
      · omega
      · injection h1 with _ _ h1; omega
    have hnews : news = [] := by have := hr.len; simp at this; exact this
    subst hnews
    refine Does.of_run (w' := w) (fun ρ hρ => ?_) (k a c w ?_)
    · have := run_append_none (P := P) (w := w) (ty := ty) (t := t) (xt := t) (a := a) (A := A) (n := n) (c := c) (c' := cx) ht ht hi hn
      simp only [ex, execOp, resolve, invoke, builtin, Sem.run_bind, Sem.run_pure, Result.andThen_ok, List.map_toArray, List.map_cons, List.map_nil, hρ s _ hev, hρ x _ hx, this]
      rfl
    · simp only [List.append_nil]
      refine Upd.refl ⟨fun c' hc' => ?_, ?_⟩
      · simp only [List.mem_singleton] at hc'; subst hc'; exact own_row ho
      · cases a <;> simp [ats, row, Value.ownBlock]
  · have hlen : 0 < news.length := by rw [hr.len]; exact Nat.mul_pos hm hsz'
    obtain ⟨A', cap', e', hl, _, hcell⟩ := hr
    injection e' with e1 e2 e3
    subst e1 e3
    obtain ⟨ad, rfl, _⟩ := hcell 0 _ (List.getElem?_eq_getElem hlen)
    obtain ⟨v', w', hrun, hown, hg, _, hat⟩ := run_append_own_at (P := P) w 0 t ty e i z i.size i.bytes ht hi hz rfl rfl hzs hsz' (.slice a n c) n vs ho ad m cx news hl (fun j u hj => by
      obtain ⟨ad', e', hc⟩ := hcell j u hj
      injection e' with e'
      subst e'
      exact hc) h1 (by simp [maxLen]; omega) hb (Nat.zero_le _)
    obtain ⟨a', c', rfl⟩ := row_slice hown
    refine Does.of_run (fun ρ hρ => ?_) (k a' c' w' (upd_of_grown hown hg hat))
    simp only [ex, execOp, resolve, invoke, builtin, Sem.run_bind, Sem.run_pure, Result.andThen_ok, List.map_toArray, List.map_cons, List.map_nil, hρ s _ hev, hρ x _ hx, hrun]
end
end Go.Sx


/- A statement whose order of evaluation Go leaves open: its quiet operations in the order of the text, whichever the order was. -/
namespace Go.Sx
set_option linter.unusedVariables false
set_option linter.unusedSimpArgs false

/-- A promise: operation k yields v in every world of C. -/
structure Prm where
  k : Nat
  v : Value
  C : World → Prop

section
variable (P : Program) (n : Nat) (ops : Array Oper)

/-- Its direct ones ahead. -/
def preds (k : Nat) : List Nat := match ops[k]? with | some o => (o.after.toList.filter (Region.binds .any)).map (·.on) | none => []
def dstOf (k : Nat) : Option Tmp := (ops[k]?).bind (·.dst)
def looks (k : Nat) : List Tmp := match ops[k]? with | some o => o.looksAt ops | none => []

/-- The looks that a region must pass: each slot is written once; who looks at a slot that is written waits for it, or is waited for; who is waited for stands ahead; no select. -/
def regOk : Bool :=
  Region.noSelect ops &&
  (List.range ops.size).all fun k =>
    ((preds ops k).all fun i => Nat.blt i k) &&
    (List.range ops.size).all fun i => i == k || match dstOf ops i with
      | none => true
      | some d => dstOf ops k != some d && (!(looks ops k).contains d || (preds ops k).contains i || (preds ops i).contains k)

/-- What operation k yields where the slots are as told. -/
def YieldsG (Γ : Env) (k : Nat) (v : Value) (w : World) : Prop :=
  ∀ a : Act, (∀ t u, t ∈ looks ops k → look Γ t = some u → a.tmps.getD t undef = u) → ∃ o, ops[k]? = some o ∧
    ((Region.wanted o (yielded ops a.tmps) = true ∧ ∀ next Q, next (a.put o.dst v) w → o.wp P a w next Q) ∨ (Region.wanted o (yielded ops a.tmps) = false ∧ v = undef))

structure Inv (T : List Nat) (Pn : List Prm) (Γ : Env) (w : World) (listed : Array Bool) (a : Act) : Prop where
  lsize : listed.size = ops.size
  size : a.tmps.size = n
  defers : a.defers = []
  closedT : ∀ i, i ∈ T → ∀ j, j ∈ preds ops i → j ∈ T
  closedL : ∀ i, listed.getD i false = true → ∀ j, j ∈ preds ops i → listed.getD j false = true
  taken : ∀ i, listed.getD i false = true → i ∈ T
  slot : ∀ t v, look Γ t = some v → (∀ p, p ∈ Pn → listed.getD p.k false = false → dstOf ops p.k = some t → p.v = v) ∧ ((∀ p, p ∈ Pn → listed.getD p.k false = false → dstOf ops p.k ≠ some t) → a.tmps.getD t undef = v)
  pend : ∀ i, i ∈ T → listed.getD i false = false → ∃ p, p ∈ Pn ∧ p.k = i
  prom : ∀ p, p ∈ Pn → p.k ∈ T ∧ (listed.getD p.k false = false → p.C w ∧ (dstOf ops p.k).any (· < n) = true ∧ ∃ Γk, (∀ w', p.C w' → YieldsG P ops Γk p.k p.v w') ∧
    ∀ t u, t ∈ looks ops p.k → look Γk t = some u → (∀ q, q ∈ Pn → listed.getD q.k false = false → dstOf ops q.k = some t → q.k ∈ preds ops p.k → q.v = u) ∧ ((∀ q, q ∈ Pn → listed.getD q.k false = false → q.k ∈ preds ops p.k → dstOf ops q.k ≠ some t) → a.tmps.getD t undef = u))
  one : ∀ p, p ∈ Pn → ∀ q, q ∈ Pn → p.k = q.k → p.v = q.v

def WD (Q : Exit → Act → World → Prop) (T : List Nat) (Pn : List Prm) (Γ : Env) (w : World) : Prop :=
  ∀ fuel listed a, Inv P n ops T Pn Γ w listed a → ((List.range ops.size).filter fun i => !listed.getD i false).length ≤ fuel → wpAny P .any ops Q fuel listed a w
end

section
variable {P : Program} {n : Nat} {ops : Array Oper} {Q : Exit → Act → World → Prop} {T : List Nat} {Pn : List Prm} {Γ : Env} {w : World} {listed : Array Bool} {a : Act}

theorem regOk_noSelect (h : regOk ops = true) : Region.noSelect ops = true := by simp only [regOk, Bool.and_eq_true] at h; exact h.1
theorem regOk_lt (h : regOk ops = true) {k i : Nat} (hk : k < ops.size) (hi : i ∈ preds ops k) : i < k := by
  simp only [regOk, Bool.and_eq_true, List.all_eq_true, List.mem_range] at h
  exact of_eq_true (Eq.trans Nat.blt_eq.symm (eq_true ((h.2 k hk).1 i hi)))
theorem regOk_dst (h : regOk ops = true) {k i d : Nat} (hk : k < ops.size) (hi : i < ops.size) (hne : i ≠ k) (hd : dstOf ops i = some d) : dstOf ops k ≠ some d ∧ (d ∈ looks ops k → i ∈ preds ops k ∨ k ∈ preds ops i) := by
  simp only [regOk, Bool.and_eq_true, List.all_eq_true, List.mem_range] at h
  have h1 := (h.2 k hk).2 i hi
  simp only [hd, Bool.or_eq_true, beq_iff_eq, hne, false_or, Bool.and_eq_true, bne_iff_ne, ne_eq, Bool.not_eq_true', List.contains_eq_mem, decide_eq_true_eq, decide_eq_false_iff_not] at h1
  exact ⟨h1.1, fun hm => by rcases h1.2 with (h2 | h2) | h2; exact absurd hm h2; exact .inl h2; exact .inr h2⟩
theorem dst_lt {k d : Nat} (h : dstOf ops k = some d) : k < ops.size := by
  unfold dstOf at h
  rcases Nat.lt_or_ge k ops.size with h1 | h1
  · exact h1
  · simp [Array.getElem?_eq_none h1] at h

theorem ready_iff (hl : listed.size = ops.size) {j : Nat} : j ∈ Region.ready .any ops listed ↔ j < ops.size ∧ listed.getD j false = false ∧ ∀ i, i ∈ preds ops j → listed.getD i false = true := by
  rw [mem_ready]
  constructor
  · rintro ⟨h0, o, ho, hall⟩
    have hj := (Array.getElem?_eq_some_iff.1 ho).1
    refine ⟨hj, ?_, fun i hi => ?_⟩
    · rw [Array.getD_eq_getD_getElem?] at h0 ⊢
      rw [Array.getElem?_eq_getElem (by omega)] at h0 ⊢
      simpa using h0
    · simp only [preds, ho, List.mem_map, List.mem_filter] at hi
      obtain ⟨e, ⟨he, hb⟩, rfl⟩ := hi
      exact hall e (by simpa using he) hb
  · rintro ⟨hj, h0, hall⟩
    refine ⟨?_, ops[j], Array.getElem?_eq_getElem hj, fun e he hb => ?_⟩
    · rw [Array.getD_eq_getD_getElem?] at h0 ⊢
      rw [Array.getElem?_eq_getElem (by omega)] at h0 ⊢
      simpa using h0
    · refine hall _ ?_
      simp only [preds, Array.getElem?_eq_getElem hj, List.mem_map, List.mem_filter]
      exact ⟨e, ⟨by simpa using he, hb⟩, rfl⟩

theorem getD_setF {i j : Nat} (hi : i < listed.size) : (listed.setIfInBounds i true).getD j false = if i = j then true else listed.getD j false := by
  by_cases h : i = j
  · subst h; simp [hi]
  · simp [h, Array.getElem?_setIfInBounds_ne h]

/-- Among those that have not come up one may come up. -/
theorem ready_some (hok : regOk ops = true) (hl : listed.size = ops.size) {i : Nat} (hi : i < ops.size) (hu : listed.getD i false = false) : ∃ j, j ∈ Region.ready .any ops listed := by
  induction i using Nat.strongRecOn with
  | _ i ih =>
    by_cases h : ∀ j, j ∈ preds ops i → listed.getD j false = true
    · exact ⟨i, (ready_iff hl).2 ⟨hi, hu, h⟩⟩
    · have : ∃ j, j ∈ preds ops i ∧ listed.getD j false = false := by
        false_or_by_contra
        rename_i hc
        refine h (fun j hj => ?_)
        cases hx : listed.getD j false
        · exact absurd ⟨j, hj, hx⟩ hc
        · rfl
      obtain ⟨j, hj, hx⟩ := this
      have hlt := regOk_lt hok hi hj
      exact ih j hlt (by omega) hx

theorem count_set {i : Nat} (hi : i < ops.size) (hl : listed.size = ops.size) (hu : listed.getD i false = false) {fuel : Nat} (hf : ((List.range ops.size).filter fun j => !listed.getD j false).length ≤ fuel + 1) :
    ((List.range ops.size).filter fun j => !(listed.setIfInBounds i true).getD j false).length ≤ fuel := by
  have hmem : i ∈ (List.range ops.size).filter fun j => !listed.getD j false := by simp only [List.mem_filter, List.mem_range]; exact ⟨hi, by rw [hu]; rfl⟩
  have heq : ((List.range ops.size).filter fun j => !(listed.setIfInBounds i true).getD j false) = ((List.range ops.size).filter fun j => !listed.getD j false).filter (fun j => j != i) := by
    rw [List.filter_filter]
    apply List.filter_congr
    intro j _
    rw [getD_setF (by omega)]
    by_cases h : i = j
    · subst h; simp
    · simp [h, Ne.symm h]
  have hlt : (((List.range ops.size).filter fun j => !listed.getD j false).filter (fun j => j != i)).length < ((List.range ops.size).filter fun j => !listed.getD j false).length := by
    rcases Nat.lt_or_ge (((List.range ops.size).filter fun j => !listed.getD j false).filter (fun j => j != i)).length ((List.range ops.size).filter fun j => !listed.getD j false).length with h | h
    · exact h
    · have := List.length_filter_eq_length_iff.1 (Nat.le_antisymm (List.length_filter_le _ _) h) i hmem
      simp at this
  rw [heq]; omega

/-- What the slots that an operation looks at tell is enough. -/
theorem exec_of {o : Oper} (hs : ∀ cs b, o.op ≠ .select cs b) {k : Nat} (ho : ops[k]? = some o) {a : Act} (h : ∀ t u, t ∈ looks ops k → look Γ t = some u → a.tmps.getD t undef = u) : ∃ ρ, AgR ρ Γ ∧ execOp a.eval o = execOp ρ o := by
  refine ⟨fun x => (ev Γ x).getD (a.eval x), fun x v e => by simp [e], execOp_congr o hs fun x hx => ?_⟩
  cases hv : ev Γ x with
  | none => simp
  | some u =>
    cases x with
    | tmp t =>
      simp only [Option.getD_some]
      refine h t u ?_ hv
      simp only [looks, ho, Oper.looksAt]
      exact List.mem_append_left _ (List.mem_filterMap.2 ⟨.tmp t, by simpa using hx, rfl⟩)
    | const c => simpa [ev, Act.eval] using hv
    | global g => simpa [ev, Act.eval] using hv
    | func f => simpa [ev, Act.eval] using hv

/-- A promised operation comes up. -/
theorem Inv.run (hok : regOk ops = true) (h : Inv P n ops T Pn Γ w listed a) {p : Prm} (hp : p ∈ Pn) (hr : p.k ∈ Region.ready .any ops listed) :
    ∃ o d, ops[p.k]? = some o ∧ o.dst = some d ∧ Inv P n ops T Pn Γ w (listed.setIfInBounds p.k true) (a.put (some d) p.v) ∧
      ((Region.wanted o (yielded ops a.tmps) = true ∧ ∀ next Q, next (a.put o.dst p.v) w → o.wp P a w next Q) ∨ (Region.wanted o (yielded ops a.tmps) = false ∧ p.v = undef)) := by
  obtain ⟨hk, hu, hall⟩ := (ready_iff h.lsize).1 hr
  obtain ⟨hT, hpr⟩ := h.prom p hp
  obtain ⟨hC, hd, Γk, hy, hsl⟩ := hpr hu
  obtain ⟨o, ho, hres⟩ := hy w hC a (fun t u ht hl => (hsl t u ht hl).2 fun q _ h2 h5 _ => by rw [hall q.k h5] at h2; cases h2)
  cases hdst : dstOf ops p.k with
  | none => rw [hdst] at hd; simp at hd
  | some d =>
    have hod : o.dst = some d := by simpa [dstOf, ho] using hdst
    have hdn : d < n := by rw [hdst] at hd; simpa using hd
    refine ⟨o, d, ho, hod, ?_, hres⟩
    have hkl : p.k < listed.size := by rw [h.lsize]; exact hk
    have hput : ∀ t, (a.put (some d) p.v).tmps.getD t undef = if d = t then p.v else a.tmps.getD t undef := fun t => by
      by_cases e : d = t
      · subst e; simp [Act.put, Array.getD_eq_getD_getElem?, h.size, hdn]
      · simp [Act.put, Array.getD_eq_getD_getElem?, e]
    have hunl : ∀ j, (listed.setIfInBounds p.k true).getD j false = false → p.k ≠ j ∧ listed.getD j false = false := fun j hj => by
      rw [getD_setF hkl] at hj
      split at hj
      · cases hj
      · rename_i e; exact ⟨e, hj⟩
    refine ⟨by simp [h.lsize], by simp [Act.put, h.size], by simp [Act.put, h.defers], h.closedT, fun i hi j hj => ?_, fun i hi => ?_, fun t v hv => ⟨fun q hq huq hdq => ?_, fun hno => ?_⟩, fun i hi hui => h.pend i hi (hunl i hui).2, fun q hq => ⟨(h.prom q hq).1, fun huq => ?_⟩, h.one⟩
    · rw [getD_setF hkl] at hi ⊢
      split
      · rfl
      · split at hi
        · rename_i e; subst e; exact hall j hj
        · exact h.closedL i hi j hj
    · rw [getD_setF hkl] at hi
      split at hi
      · rename_i e; subst e; exact hT
      · exact h.taken i hi
    · exact (h.slot t v hv).1 q hq (hunl _ huq).2 hdq
    · rw [hput]
      by_cases e : d = t
      · rw [if_pos e]; exact (h.slot t v hv).1 p hp hu (e ▸ hdst)
      · rw [if_neg e]
        refine (h.slot t v hv).2 fun q hq huq hdq => ?_
        by_cases e2 : p.k = q.k
        · rw [← e2, hdst] at hdq; injection hdq; contradiction
        · exact hno q hq (by rw [getD_setF hkl, if_neg e2]; exact huq) hdq
    · obtain ⟨hne, huq⟩ := hunl _ huq
      obtain ⟨hqT, hq2⟩ := h.prom q hq
      obtain ⟨hqC, hqd, Γq, hqy, hqs⟩ := hq2 huq
      refine ⟨hqC, hqd, Γq, hqy, fun t u ht hl => ⟨fun r hr' hur hdr hpr' => (hqs t u ht hl).1 r hr' (hunl _ hur).2 hdr hpr', fun hno => ?_⟩⟩
      rw [hput]
      have hqk : q.k < ops.size := by cases hx : dstOf ops q.k with | none => rw [hx] at hqd; simp at hqd | some x => exact dst_lt hx
      by_cases e : d = t
      · rw [if_pos e]
        subst e
        rcases (regOk_dst hok hqk hk hne hdst).2 ht with h6 | h6
        · exact (hqs d u ht hl).1 p hp hu hdst h6
        · rw [hall q.k h6] at huq; cases huq
      · rw [if_neg e]
        refine (hqs t u ht hl).2 fun r hr' hur hpr' hdr => ?_
        by_cases e2 : p.k = r.k
        · rw [← e2, hdst] at hdr; injection hdr; contradiction
        · exact hno r hr' (by rw [getD_setF hkl, if_neg e2]; exact hur) hpr' hdr

/-- Is it wanted, by what is known? -/
def wantG (ops : Array Oper) (Γ : Env) (o : Oper) : Option Bool :=
  match o.guard with
  | none => some true
  | some (j, want) => match dstOf ops j with
    | some t => match look Γ t with
      | some (.bool b) => some (b == want)
      | some (.tuple vs) => if vs.size = 0 then some false else none
      | _ => none
    | none => none
theorem wantG_of {o : Oper} {k : Nat} (ho : ops[k]? = some o) {c : Bool} (h : wantG ops Γ o = some c) {a : Act} (ha : ∀ t u, t ∈ looks ops k → look Γ t = some u → a.tmps.getD t undef = u) : Region.wanted o (yielded ops a.tmps) = c := by
  unfold wantG at h
  unfold Region.wanted
  split at h
  · rename_i hg; rw [hg]; simpa using h
  · rename_i j want hg
    rw [hg]
    split at h
    · rename_i t ht
      split at h
      · rename_i b hb
        have hm : t ∈ looks ops k := by
          simp only [looks, ho, Oper.looksAt, hg]
          exact List.mem_append_right _ (by rw [show ((ops[j]?).bind (·.dst)) = some t from ht]; simp)
        have h1 := ha t _ hm hb
        have : yielded ops a.tmps j = some b := by
          unfold yielded
          rw [show ((ops[j]?).bind (·.dst)) = some t from ht]
          rw [Array.getD_eq_getD_getElem?] at h1
          simp only [Option.bind_some]
          cases hx : a.tmps[t]? with
          | none => rw [hx] at h1; simp [undef] at h1
          | some u => rw [hx] at h1; simp at h1; subst h1; rfl
        simp only [this]
        injection h
      · rename_i vs hb
        have hm : t ∈ looks ops k := by
          simp only [looks, ho, Oper.looksAt, hg]
          exact List.mem_append_right _ (by rw [show ((ops[j]?).bind (·.dst)) = some t from ht]; simp)
        have h1 := ha t _ hm hb
        split at h
        case isFalse => cases h
        have : yielded ops a.tmps j = none := by
          unfold yielded
          rw [show ((ops[j]?).bind (·.dst)) = some t from ht]
          rw [Array.getD_eq_getD_getElem?] at h1
          simp only [Option.bind_some]
          cases hx : a.tmps[t]? with
          | none => rfl
          | some u => rw [hx] at h1; simp at h1; subst h1; rfl
        simp only [this]
        injection h
      · cases h
    · cases h

/-- THE REGION: nothing has been taken yet. -/
theorem W.regionD {id : Nat} {l : List Oper} (hm : P.follows .mixedOrders = true) (hok : regOk l.toArray = true) (h : regOk l.toArray = true → ∀ w', Keep [] w w' → WD P n l.toArray Q [] [] Γ w') : W P n (.region id l.toArray true) Q Γ w := by
  intro a ha
  refine wp_region_any hm (h hok { w with drawn := w.drawn + 1 } (Keep.of_drawn _ _) _ _ _ ?_ ?_)
  · have hl : ∀ i, (Array.replicate l.toArray.size false).getD i false = false := fun i => by
      rw [Array.getD_eq_getD_getElem?, Array.getElem?_replicate]; split <;> rfl
    exact ⟨by simp, ha.size, ha.defers, by simp, (fun i hi => by rw [hl] at hi; cases hi), (fun i hi => by rw [hl] at hi; cases hi), fun t v hv => ⟨by simp, fun _ => ha.slot t v hv⟩, by simp, by simp, by simp⟩
  · refine Nat.le_trans (List.length_filter_le _ _) (by simp)

/-- A quiet operation is taken. -/
theorem WD.take (hok : regOk ops = true) (k : Nat) {o : Oper} {d : Nat} (v : Value) (C : World → Prop) (ho : ops[k]? = some o) (hd : o.dst = some d) (hdn : Nat.blt d n = true) (hT : T.contains k = false) (hpre : (preds ops k).all T.contains = true)
    (hC : C w) (hy : wantG ops Γ o = some true ∧ (∀ w', C w' → Does P Γ w' o.op o.type fun v' w'' => v' = v ∧ w'' = w') ∨ wantG ops Γ o = some false ∧ v = undef)
    (h : WD P n ops Q (k :: T) (⟨k, v, C⟩ :: Pn) ((d, v) :: Γ) w) : WD P n ops Q T Pn Γ w := by
  intro fuel listed a hi hf
  have hdst : dstOf ops k = some d := by simp [dstOf, ho, hd]
  have hkT : k ∉ T := by simpa using hT
  have hpre' : ∀ j, j ∈ preds ops k → j ∈ T := by simpa using hpre
  have hdn' : d < n := of_eq_true (Eq.trans Nat.blt_eq.symm (eq_true hdn))
  have hku : listed.getD k false = false := by cases hx : listed.getD k false; rfl; exact absurd (hi.taken k hx) hkT
  have hPk : ∀ p, p ∈ Pn → p.k ≠ k := fun p hp e => hkT (e ▸ (hi.prom p hp).1)
  have hPlt : ∀ p, p ∈ Pn → listed.getD p.k false = false → p.k < ops.size := fun p hp hu => by
    obtain ⟨_, hd', _⟩ := (hi.prom p hp).2 hu
    cases hx : dstOf ops p.k with | none => rw [hx] at hd'; simp at hd' | some x => exact dst_lt hx
  have hklt := dst_lt hdst
  refine h fuel listed a ⟨hi.lsize, hi.size, hi.defers, fun i hi' j hj => ?_, hi.closedL, fun i hi' => List.mem_cons_of_mem _ (hi.taken i hi'), fun t u hu => ⟨fun p hp hup hdp => ?_, fun hno => ?_⟩, fun i hi' hui => ?_, fun p hp => ⟨?_, fun hup => ?_⟩, fun p hp q hq e => ?_⟩ hf
  · rcases List.mem_cons.1 hi' with rfl | hi'
    · exact List.mem_cons_of_mem _ (hpre' j hj)
    · exact List.mem_cons_of_mem _ (hi.closedT i hi' j hj)
  · rcases List.mem_cons.1 hp with rfl | hp
    · rw [hdst] at hdp; injection hdp with hdp; subst hdp
      rw [look_cons_eq] at hu; injection hu
    · by_cases e : d = t
      · subst e
        exact absurd hdp (regOk_dst hok (hPlt p hp hup) hklt (Ne.symm (hPk p hp)) hdst).1
      · rw [look_cons_ne _ _ e] at hu; exact (hi.slot t u hu).1 p hp hup hdp
  · by_cases e : d = t
    · subst e; exact absurd hdst (hno ⟨k, v, C⟩ (by simp) hku)
    · rw [look_cons_ne _ _ e] at hu
      exact (hi.slot t u hu).2 fun p hp => hno p (List.mem_cons_of_mem _ hp)
  · rcases List.mem_cons.1 hi' with rfl | hi'
    · exact ⟨⟨i, v, C⟩, by simp, rfl⟩
    · obtain ⟨p, hp, e⟩ := hi.pend i hi' hui
      exact ⟨p, List.mem_cons_of_mem _ hp, e⟩
  · rcases List.mem_cons.1 hp with rfl | hp
    · simp
    · exact List.mem_cons_of_mem _ (hi.prom p hp).1
  · rcases List.mem_cons.1 hp with rfl | hp
    · refine ⟨hC, by simp [hdst, hdn'], Γ, fun w' hw' a' ha' => ⟨o, ho, ?_⟩, fun t u ht hl => ⟨fun q hq huq hdq hqp => ?_, fun hno => ?_⟩⟩
      · rcases hy with ⟨hw, hy⟩ | ⟨hw, hv⟩
        case inr => exact .inr ⟨wantG_of ho hw ha', hv⟩
        refine .inl ⟨wantG_of ho hw ha', ?_⟩
        obtain ⟨ρ, hρ, he⟩ := exec_of (Γ := Γ) (fun cs b => Region.noSelect_spec (regOk_noSelect hok) k o cs b ho) ho ha'
        exact fun next Q hn => (hy w' hw').wpR hρ he fun v' w'' ⟨e1, e2⟩ => by rw [e1, e2]; exact hn
      · rcases List.mem_cons.1 hq with rfl | hq
        · have := regOk_lt hok hklt hqp; simp at this
        · exact (hi.slot t u hl).1 q hq huq hdq
      · refine (hi.slot t u hl).2 fun q hq huq hdq => ?_
        have hqT := (hi.prom q hq).1
        rcases (regOk_dst hok hklt (hPlt q hq huq) (hPk q hq) hdq).2 ht with h6 | h6
        · exact hno q (List.mem_cons_of_mem _ hq) huq h6 hdq
        · exact hkT (hi.closedT q.k hqT k h6)
    · obtain ⟨h1, h2, Γk, h3, h4⟩ := (hi.prom p hp).2 hup
      refine ⟨h1, h2, Γk, h3, fun t u ht hl => ⟨fun q hq huq hdq hqp => ?_, fun hno => (h4 t u ht hl).2 fun q hq => hno q (List.mem_cons_of_mem _ hq)⟩⟩
      rcases List.mem_cons.1 hq with rfl | hq
      · exact absurd (hi.closedT p.k (hi.prom p hp).1 k hqp) hkT
      · exact (h4 t u ht hl).1 q hq huq hdq hqp
  · rcases List.mem_cons.1 hp with rfl | hp <;> rcases List.mem_cons.1 hq with rfl | hq
    · rfl
    · exact absurd e.symm (hPk q hq)
    · exact absurd e (hPk p hp)
    · exact hi.one p hp q hq e

/-- What is promised comes up, whenever it may. -/
theorem drain (hok : regOk ops = true)
    (hrest : ∀ fuel listed a, Inv P n ops T Pn Γ w listed a → ((List.range ops.size).filter fun i => !listed.getD i false).length ≤ fuel + 1 → ∀ j, j ∈ Region.ready .any ops listed → j ∉ T → wpOp P ops Q j (wpAny P .any ops Q fuel (listed.setIfInBounds j true)) a w)
    (hend : ∀ listed a, Inv P n ops T Pn Γ w listed a → (∀ i, i < ops.size → listed.getD i false = true) → Q .normal a w) : WD P n ops Q T Pn Γ w := by
  intro fuel
  induction fuel with
  | zero =>
    intro listed a hi hf
    have hall : ∀ i, i < ops.size → listed.getD i false = true := fun i hlt => by
      cases hx : listed.getD i false with
      | true => rfl
      | false =>
        have : i ∈ (List.range ops.size).filter fun i => !listed.getD i false := by simp only [List.mem_filter, List.mem_range]; exact ⟨hlt, by rw [hx]; rfl⟩
        have := List.length_pos_of_mem this
        omega
    refine ⟨?_, hend listed a hi hall⟩
    rw [List.eq_nil_iff_forall_not_mem]
    intro j hj
    obtain ⟨h1, h2, _⟩ := (ready_iff hi.lsize).1 hj
    rw [hall j h1] at h2; cases h2
  | succ fuel ih =>
    intro listed a hi hf
    refine ⟨fun hr => hend listed a hi fun i hlt => ?_, fun j hj => ?_⟩
    · cases hx : listed.getD i false with
      | true => rfl
      | false =>
        obtain ⟨j, hj⟩ := ready_some hok hi.lsize hlt hx
        rw [hr] at hj; cases hj
    · by_cases hT : j ∈ T
      · obtain ⟨h1, h2, _⟩ := (ready_iff hi.lsize).1 hj
        obtain ⟨p, hp, rfl⟩ := hi.pend j hT h2
        obtain ⟨o, d, ho, hd, hi', hres⟩ := hi.run hok hp hj
        have hk := ih (listed.setIfInBounds p.k true) (a.put (some d) p.v) hi' (count_set h1 hi.lsize h2 hf)
        unfold wpOp
        rw [ho]
        rcases hres with ⟨hw, hr⟩ | ⟨hw, hv⟩
        · simp only [hw, if_true]
          exact .inl (hr _ _ (by rw [hd]; exact hk))
        · simp only [hw, Bool.false_eq_true, if_false]
          rw [hd, ← hv]; exact hk
      · exact hrest fuel listed a hi hf j hj hT

/-- All are taken. -/
theorem WD.done (hok : regOk ops = true) (hall : (List.range ops.size).all T.contains = true) (h : X n Q .normal Γ w) : WD P n ops Q T Pn Γ w := by
  have hall' : ∀ i, i < ops.size → i ∈ T := by simpa using hall
  refine drain hok (fun fuel listed a hi _ j hj hT => absurd (hall' j ((ready_iff hi.lsize).1 hj).1) hT) fun listed a hi hl => h a ⟨hi.size, hi.defers, fun t v hv => (hi.slot t v hv).2 fun p hp hup hdp => ?_⟩
  rw [hl p.k (dst_lt hdp)] at hup; cases hup

/-- The ways part at what a slot holds. -/
theorem WD.part (t : Nat) {p : Prop} [Decidable p] (ht : look Γ t = some (.bool (decide p))) (h1 : p → WD P n ops Q T Pn ((t, .bool true) :: Γ) w) (h2 : ¬ p → WD P n ops Q T Pn ((t, .bool false) :: Γ) w) : WD P n ops Q T Pn Γ w := by
  intro fuel listed a hi hf
  have key : ∀ b, decide p = b → Inv P n ops T Pn ((t, .bool b) :: Γ) w listed a := fun b hb => by
    refine ⟨hi.lsize, hi.size, hi.defers, hi.closedT, hi.closedL, hi.taken, fun u v hv => hi.slot u v ?_, hi.pend, hi.prom, hi.one⟩
    by_cases e : t = u
    · subst e; rw [look_cons_eq] at hv; rw [ht, hb]; exact hv
    · rwa [look_cons_ne _ _ e] at hv
  by_cases hp : p
  · exact h1 hp fuel listed a (key true (by simp [hp])) hf
  · exact h2 hp fuel listed a (key false (by simp [hp])) hf

/-- All that one waits for, through others too. -/
def ancs (ops : Array Oper) (j : Nat) : List Nat := (List.range j).reverse.foldl (fun S i => if (j :: S).any (fun s => (preds ops s).contains i) then i :: S else S) []
theorem ancs_listed {j : Nat} (hj : ∀ i, i ∈ preds ops j → listed.getD i false = true) (hc : ∀ i, listed.getD i false = true → ∀ k, k ∈ preds ops i → listed.getD k false = true) : ∀ i, i ∈ ancs ops j → listed.getD i false = true := by
  unfold ancs
  have : ∀ (l S : List Nat), (∀ i, i ∈ S → listed.getD i false = true) → ∀ i, i ∈ l.foldl (fun S i => if (j :: S).any (fun s => (preds ops s).contains i) then i :: S else S) S → listed.getD i false = true := by
    intro l
    induction l with
    | nil => intro S hS i hi; exact hS i hi
    | cons x l ih =>
      intro S hS i hi
      simp only [List.foldl_cons] at hi
      refine ih _ ?_ i hi
      intro k hk
      split at hk
      · rename_i hx
        rcases List.mem_cons.1 hk with rfl | hk
        · simp only [List.any_cons, Bool.or_eq_true, List.any_eq_true, List.contains_eq_mem, decide_eq_true_eq] at hx
          rcases hx with hx | ⟨s, hs, hx⟩
          · exact hj k hx
          · exact hc s (hS s hs) k hx
        · exact hS k hk
      · exact hS k hk
  exact this _ [] (by simp)

def putG (Γ : Env) (d : Option Tmp) (v : Value) : Env := match d with | some d => (d, v) :: Γ | none => Γ
def Still (w : World) : List Prm → Prop
  | [] => True
  | p :: r => p.C w ∧ Still w r
theorem Still.at {w : World} : ∀ {l : List Prm}, Still w l → ∀ p, p ∈ l → p.C w
  | _ :: _, h, p, hp => by rcases List.mem_cons.1 hp with rfl | hp; exact h.1; exact Still.at h.2 p hp

/-- Operation j is carried out, and what is promised still holds. -/
def Loud (P : Program) (n : Nat) (ops : Array Oper) (Q : Exit → Act → World → Prop) (T : List Nat) (Pn : List Prm) (Γ : Env) (w : World) (j : Nat) : Prop :=
  ∃ o Pn', ops[j]? = some o ∧ T.contains j = false ∧ (preds ops j).all T.contains = true ∧ (match o.dst with | some d => Nat.blt d n | none => true) = true ∧ wantG ops Γ o = some true ∧
    Pn.filter (fun p => !(ancs ops j).contains p.k) = Pn' ∧ Does P Γ w o.op o.type fun v w' => Still w' Pn' ∧ WD P n ops Q (j :: T) Pn' (putG Γ o.dst v) w'
/-- The operations that may come up beside what is promised. -/
theorem WD.louds (hok : regOk ops = true) (js : List Nat) (hne : js.isEmpty = false)
    (honly : ((List.range ops.size).all fun i => js.contains i || T.contains i || !((preds ops i).all T.contains)) = true) (h : ∀ j, j ∈ js → Loud P n ops Q T Pn Γ w j) : WD P n ops Q T Pn Γ w := by
  refine drain hok (fun fuel listed a hi hf i hir hiT => ?_) (fun listed a hi hl => ?_)
  case refine_2 =>
    cases js with
    | nil => simp at hne
    | cons j js =>
      obtain ⟨o, Pn', ho, hT, _⟩ := h j (by simp)
      exact absurd (hi.taken j (hl j (Array.getElem?_eq_some_iff.1 ho).1)) (by simpa using hT)
  obtain ⟨hilt, hiu, hip⟩ := (ready_iff hi.lsize).1 hir
  have hij : i ∈ js := by
    have h1 := List.all_eq_true.1 honly i (by simpa using hilt)
    simp only [Bool.or_eq_true, List.contains_eq_mem, decide_eq_true_eq, Bool.not_eq_true'] at h1
    rcases h1 with (h1 | h1) | h1
    · exact h1
    · exact absurd h1 hiT
    · have : (preds ops i).all T.contains = true := by simp only [List.all_eq_true, List.contains_eq_mem, decide_eq_true_eq]; exact fun k hk => hi.taken k (hip k hk)
      exact absurd this (by rw [h1]; simp)
  obtain ⟨o, Pn', ho, hT, hpre, hdn, hw, hP, h⟩ := h i hij
  have hjT : i ∉ T := by simpa using hT
  have hpre' : ∀ k, k ∈ preds ops i → k ∈ T := by simpa using hpre
  have hmemP : ∀ p, p ∈ Pn' ↔ p ∈ Pn ∧ p.k ∉ ancs ops i := fun p => by rw [← hP]; simp
  have hanc := ancs_listed hip hi.closedL
  have hil : i < listed.size := by rw [hi.lsize]; exact hilt
  have hpl : ∀ p, p ∈ Pn → p.k ≠ i := fun p hp e => hjT (e ▸ (hi.prom p hp).1)
  have hdlt : ∀ p, p ∈ Pn → listed.getD p.k false = false → p.k < ops.size := fun p hp hu => by
    obtain ⟨_, hd', _⟩ := (hi.prom p hp).2 hu
    cases hx : dstOf ops p.k with | none => rw [hx] at hd'; simp at hd' | some x => exact dst_lt hx
  have hag : ∀ t u, t ∈ looks ops i → look Γ t = some u → a.tmps.getD t undef = u := fun t u ht hl => (hi.slot t u hl).2 fun p hp hup hdp => by
    rcases (regOk_dst hok hilt (hdlt p hp hup) (hpl p hp) hdp).2 ht with h6 | h6
    · rw [hip p.k h6] at hup; cases hup
    · exact hjT (hi.closedT p.k (hi.prom p hp).1 i h6)
  have hwant := wantG_of ho hw hag
  obtain ⟨ρ, hρ, he⟩ := exec_of (Γ := Γ) (fun cs b => Region.noSelect_spec (regOk_noSelect hok) i o cs b ho) ho hag
  unfold wpOp
  rw [ho]
  simp only [hwant, if_true]
  refine .inl (h.wpR hρ he fun v w' ⟨hst, hk⟩ => hk fuel _ _ ?_ (count_set hilt hi.lsize hiu hf))
  have hunl : ∀ k, (listed.setIfInBounds i true).getD k false = false → i ≠ k ∧ listed.getD k false = false := fun k hk => by
    rw [getD_setF hil] at hk
    split at hk
    · cases hk
    · rename_i e; exact ⟨e, hk⟩
  have hput : ∀ t, (a.put o.dst v).tmps.getD t undef = if o.dst = some t then v else a.tmps.getD t undef := fun t => by
    cases hx : o.dst with
    | none => simp [Act.put]
    | some d =>
      have hdn' : d < n := by rw [hx] at hdn; exact of_eq_true (Eq.trans Nat.blt_eq.symm (eq_true hdn))
      by_cases e : d = t
      · subst e; simp [Act.put, Array.getD_eq_getD_getElem?, hi.size, hdn']
      · simp [Act.put, Array.getD_eq_getD_getElem?, e]
  have hdi : dstOf ops i = o.dst := by simp [dstOf, ho]
  refine ⟨by simp [hi.lsize], by cases o.dst <;> simp [Act.put, hi.size], by cases o.dst <;> simp [Act.put, hi.defers], fun k hk m hm => ?_, fun k hk m hm => ?_, fun k hk => ?_, fun t u hu => ?_, fun k hk hku => ?_, fun p hp => ⟨List.mem_cons_of_mem _ (hi.prom p ((hmemP p).1 hp).1).1, fun hup => ?_⟩, fun p hp q hq => hi.one p ((hmemP p).1 hp).1 q ((hmemP q).1 hq).1⟩
  · rcases List.mem_cons.1 hk with rfl | hk
    · exact List.mem_cons_of_mem _ (hpre' m hm)
    · exact List.mem_cons_of_mem _ (hi.closedT k hk m hm)
  · rw [getD_setF hil] at hk ⊢
    split
    · rfl
    · split at hk
      · rename_i e; subst e; exact hip m hm
      · exact hi.closedL k hk m hm
  · rw [getD_setF hil] at hk
    split at hk
    · rename_i e; subst e; simp
    · exact List.mem_cons_of_mem _ (hi.taken k hk)
  · rw [hput]
    by_cases e : o.dst = some t
    · rw [if_pos e]
      have : look (putG Γ o.dst v) t = some v := by rw [e]; exact look_cons_eq _ _ _
      rw [this] at hu; injection hu with hu
      refine ⟨fun p hp hup hdp => ?_, fun _ => hu⟩
      have hp1 := ((hmemP p).1 hp).1
      exact absurd (hdi.trans e) (fun e2 => (regOk_dst hok (hdlt p hp1 (hunl _ hup).2) hilt (Ne.symm (hpl p hp1)) e2).1 hdp)
    · rw [if_neg e]
      have : look (putG Γ o.dst v) t = look Γ t := by
        cases hx : o.dst with
        | none => rfl
        | some d => exact look_cons_ne _ _ (fun e2 => e (by rw [hx, e2]))
      rw [this] at hu
      refine ⟨fun p hp hup hdp => (hi.slot t u hu).1 p ((hmemP p).1 hp).1 (hunl _ hup).2 hdp, fun hno => (hi.slot t u hu).2 fun p hp hup hdp => ?_⟩
      refine hno p ((hmemP p).2 ⟨hp, fun ha => by rw [hanc _ ha] at hup; cases hup⟩) ?_ hdp
      rw [getD_setF hil, if_neg (Ne.symm (hpl p hp))]; exact hup
  · obtain ⟨hne, hku⟩ := hunl _ hku
    rcases List.mem_cons.1 hk with rfl | hk
    · exact absurd rfl hne
    · obtain ⟨p, hp, rfl⟩ := hi.pend k hk hku
      exact ⟨p, (hmemP p).2 ⟨hp, fun ha => by rw [hanc _ ha] at hku; cases hku⟩, rfl⟩
  · obtain ⟨hp1, hp2⟩ := (hmemP p).1 hp
    obtain ⟨hne, hup⟩ := hunl _ hup
    obtain ⟨_, h2, Γk, h3, h4⟩ := (hi.prom p hp1).2 hup
    refine ⟨hst.at p hp, h2, Γk, h3, fun t u ht hl => ⟨fun q hq huq hdq hqp => (h4 t u ht hl).1 q ((hmemP q).1 hq).1 (hunl _ huq).2 hdq hqp, fun hno => ?_⟩⟩
    rw [hput]
    have hne' : o.dst ≠ some t := fun e => by
      rcases (regOk_dst hok (hdlt p hp1 hup) hilt hne (hdi.trans e)).2 ht with h6 | h6
      · exact hjT (hi.closedT p.k (hi.prom p hp1).1 i h6)
      · rw [hip p.k h6] at hup; cases hup
    rw [if_neg hne']
    refine (h4 t u ht hl).2 fun q hq huq hqp hdq => ?_
    refine hno q ((hmemP q).2 ⟨hq, fun ha => by rw [hanc _ ha] at huq; cases huq⟩) ?_ hqp hdq
    rw [getD_setF hil, if_neg (Ne.symm (hpl q hq))]; exact huq
/-- The one operation that may come up beside what is promised. -/
theorem WD.loud (hok : regOk ops = true) (j : Nat) (honly : ((List.range ops.size).all fun i => [j].contains i || T.contains i || !((preds ops i).all T.contains)) = true) (h : Loud P n ops Q T Pn Γ w j) : WD P n ops Q T Pn Γ w :=
  WD.louds hok [j] rfl honly (fun i hi => by simp only [List.mem_singleton] at hi; subst hi; exact h)
end
end Go.Sx


/- Slices of whatever elements: read, owned, written, appended to. -/
namespace Go.Sx
set_option linter.unusedVariables false
set_option linter.unusedSimpArgs false

/-- How an element lies in cells. -/
structure Ty (α : Type) where
  sz : Nat
  enc : α → List Value
  len : ∀ x, (enc x).length = sz
  one : ∀ x u, u ∈ enc x → u.oneCell' = true
  pos : 0 < sz
def Ty.all {α : Type} (T : Ty α) (xs : List α) : List Value := xs.flatMap T.enc
def tyI (k : IntKind) : Ty Int := ⟨1, fun x => [.int k x], fun _ => rfl, fun x u h => by simp only [List.mem_singleton] at h; subst h; rfl, by omega⟩
def tyB : Ty Bool := ⟨1, fun x => [.bool x], fun _ => rfl, fun x u h => by simp only [List.mem_singleton] at h; subst h; rfl, by omega⟩
/-- A slice's own three numbers. -/
structure Sl where
  a : Option Addr
  n : Nat
  c : Nat
def tyL : Ty Sl := ⟨1, fun x => [.slice x.a x.n x.c], fun _ => rfl, fun x u h => by simp only [List.mem_singleton] at h; subst h; rfl, by omega⟩

section
variable {α : Type} (T : Ty α)
theorem Ty.all_length (xs : List α) : (T.all xs).length = xs.length * T.sz := by
  induction xs with
  | nil => simp [Ty.all]
  | cons x xs ih => simp only [Ty.all, List.flatMap_cons, List.length_append, T.len, List.length_cons, Nat.add_mul, Nat.one_mul] at *; rw [ih]; omega
theorem Ty.all_append (xs ys : List α) : T.all (xs ++ ys) = T.all xs ++ T.all ys := by simp [Ty.all]
theorem Ty.all_one (xs : List α) : ∀ u ∈ T.all xs, u.oneCell' = true := by
  intro u hu
  simp only [Ty.all, List.mem_flatMap] at hu
  obtain ⟨x, _, hx⟩ := hu
  exact T.one x u hx
theorem Ty.all_at (d : α) : ∀ (xs : List α) (i j : Nat), i < xs.length → j < T.sz → (T.all xs)[i * T.sz + j]? = (T.enc (xs.getD i d))[j]?
  | [], i, j, h, _ => by simp at h
  | x :: xs, 0, j, _, hj => by
    simp only [Ty.all, List.flatMap_cons, Nat.zero_mul, Nat.zero_add, List.getD_cons_zero]
    rw [List.getElem?_append_left (by rw [T.len]; exact hj)]
  | x :: xs, i + 1, j, h, hj => by
    simp only [Ty.all, List.flatMap_cons, List.getD_cons_succ]
    rw [List.getElem?_append_right (by rw [T.len, Nat.add_mul]; omega), T.len, ← Ty.all_at d xs i j (by simpa using h) hj]
    congr 1
    rw [Nat.add_mul]; omega
theorem Ty.all_at1 (h1 : T.sz = 1) (d : α) (xs : List α) (i : Nat) (h : i < xs.length) : (T.all xs)[i]? = (T.enc (xs.getD i d))[0]? := by
  have := T.all_at d xs i 0 h (by omega)
  simpa [h1] using this
theorem Ty.all_part (d : α) (xs : List α) (i : Nat) (h : i < xs.length) : ((T.all xs).drop (i * T.sz)).take T.sz = T.enc (xs.getD i d) := by
  apply List.ext_getElem?
  intro j
  rw [List.getElem?_take]
  by_cases hj : j < T.sz
  · rw [if_pos hj, List.getElem?_drop, T.all_at d xs i j h hj]
  · rw [if_neg hj, List.getElem?_eq_none (by rw [T.len]; omega)]
theorem Ty.all_set (d : α) : ∀ (xs : List α) (i j : Nat) (x' : α) (u : Value), i < xs.length → j < T.sz → T.enc x' = (T.enc (xs.getD i d)).set j u → (T.all xs).set (i * T.sz + j) u = T.all (xs.set i x')
  | [], i, j, _, _, h, _, _ => by simp at h
  | x :: xs, 0, j, x', u, _, hj, he => by
    simp only [Ty.all, List.flatMap_cons, Nat.zero_mul, Nat.zero_add, List.set_cons_zero, List.getD_cons_zero] at *
    rw [List.set_append_left _ _ (by rw [T.len]; exact hj), he]
  | x :: xs, i + 1, j, x', u, h, hj, he => by
    simp only [Ty.all, List.flatMap_cons, List.set_cons_succ, List.getD_cons_succ] at *
    rw [List.set_append_right _ _ (by rw [T.len, Nat.add_mul]; omega), T.len]
    have ih := Ty.all_set d xs i j x' u (by simpa using h) hj he
    simp only [Ty.all] at ih
    rw [← ih]
    congr 2
    rw [Nat.add_mul]; omega

/-- A slice that is read. -/
def RdT (w : World) (v : Value) (xs : List α) : Prop := Rd w v T.sz xs.length (T.all xs)
/-- A slice of one's own. -/
def rowT (v : Value) (e : TypeId) (xs : List α) : Chunk := row v e T.sz xs.length (T.all xs)
end

section
variable {α : Type} {T : Ty α} {P : Program} {Γ : Env} {w : World} {ty : TypeId} {K : Value → World → Prop}
theorem RdT.kept {w' : World} {v : Value} {xs : List α} (h : RdT T w v xs) (k : Keep [] w w') : RdT T w' v xs := Rd.kept h k
theorem RdT.keep {w' : World} {v : Value} {xs : List α} {S : List Nat} (h : RdT T w v xs) (k : Keep S w w') (hS : ∀ g, Value.blk? v = some g → g ∉ S) : RdT T w' v xs := Rd.keep h k hS
theorem RdT.at {w' : World} {v : Value} {xs : List α} {G : List (List Chunk)} (h : RdT T w v xs) (k : UpG w [] w' G) : RdT T w' v xs := Rd.at h k
theorem RdT.nil (w : World) (A : Option Addr) (cap : Nat) : RdT T w (.slice A 0 cap) [] := ⟨A, cap, rfl, by simp [Ty.all], by simp, by simp [Ty.all]⟩
theorem RdT.le {v : Value} {xs : List α} (h : RdT T w v xs) : xs.length ≤ 9223372036854775807 := by obtain ⟨_, _, _, _, h, _⟩ := h; exact h
theorem UpG.rdT {w' : World} {L : List Chunk} {G : List (List Chunk)} {v : Value} {e : TypeId} {xs : List α} (h : UpG w L w' G) (i : Nat) (hi : G[i]? = some [rowT T v e xs]) : RdT T w' v xs := h.rd i hi
theorem UpG.ownT {w' : World} {L : List Chunk} {G : List (List Chunk)} {v : Value} {e : TypeId} {xs : List α} (h : UpG w L w' G) (i : Nat) (hi : G[i]? = some [rowT T v e xs]) : w'.ownsRow 0 e T.sz v xs.length (T.all xs) := h.own i hi
theorem UpG.re {w w' : World} {L : List Chunk} {G G' : List (List Chunk)} (h : UpG w L w' G) (e : G'.flatten = G.flatten) : UpG w L w' G' := by unfold UpG at *; rw [e]; exact h
theorem UpG.to {w w' : World} {L M : List Chunk} {G : List (List Chunk)} (h : UpG w L w' G) (e : M = G.flatten) : Upd w L w' M := e ▸ h
theorem hp_rdT {v : Value} {e : TypeId} {xs : List α} {L : List Chunk} (h : Hp w L) (hm : rowT T v e xs ∈ L) : RdT T w v xs := own_rd (row_own (h.holds _ hm))

/-- '&xs[i]', elements of one cell. -/
theorem t_addr1 {t e : TypeId} {x ix : Operand} {v : Value} {kd : IntKind} {i : Int} {b : Nat} {z : Option Value} {xs : List α} (j : Nat) (hT : T.sz = 1) (ht : P.underlying t = some (.slice e)) (hs : szOf P e = some (1, b, z))
    (hx : ev Γ x = some v) (hi : ev Γ ix = some (.int kd i)) (hr : RdT T w v xs) (hij : i = ((j : Nat) : Int)) (hj : j < xs.length) (k : K (elemPtr v j) w) : Does P Γ w (.indexAddr t x ix) ty K := by
  subst hij
  unfold RdT at hr
  rw [hT] at hr
  exact d_indexAddr ht hs hx hi hr (by omega) (by omega) (by omega) (by simpa using k)
theorem t_addrN {t e : TypeId} {x ix : Operand} {v : Value} {kd : IntKind} {i : Int} {s b : Nat} {z : Option Value} {xs : List α} (j : Nat) (hT : T.sz = s) (ht : P.underlying t = some (.slice e)) (hs : szOf P e = some (s, b, z))
    (hx : ev Γ x = some v) (hi : ev Γ ix = some (.int kd i)) (hr : RdT T w v xs) (hij : i = ((j : Nat) : Int)) (hj : j < xs.length) (k : K (elemPtr v (j * s)) w) : Does P Γ w (.indexAddr t x ix) ty K := by
  subst hij
  subst hT
  exact d_indexAddr ht hs hx hi hr (by omega) (by omega) T.pos (by simpa using k)
theorem t_load1 {t : TypeId} {x : Operand} {v : Value} {xs : List α} {desc : TypeDesc} {u : Value} (j : Nat) (d : α) (hT : T.sz = 1) (ht : P.underlying t = some desc) (hd : aggD desc = false) (hx : ev Γ x = some (elemPtr v j)) (hr : RdT T w v xs) (hj : j < xs.length)
    (he : T.enc (xs.getD j d) = [u]) (k : K u w) : Does P Γ w (.load t x) ty K :=
  d_loadR ht hd hx hr (by rw [T.all_at1 hT d xs j hj, he]; rfl) k
theorem t_loadN {t : TypeId} {x : Operand} {v : Value} {xs : List α} {desc : TypeDesc} {s b : Nat} {z : Option Value} {us : List Value} (j : Nat) (d : α) (hT : T.sz = s) (ht : P.underlying t = some desc) (hd : aggD desc = true) (hs : szOf P t = some (s, b, z)) (hx : ev Γ x = some (elemPtr v (j * s))) (hr : RdT T w v xs) (hj : j < xs.length)
    (he : T.enc (xs.getD j d) = us) (k : K (.agg us.toArray) w) : Does P Γ w (.load t x) ty K := by
  subst hT
  exact d_loadAR us ht hd hs hx hr (by rw [← he, T.len]) T.pos (by rw [T.all_part d xs j hj, he]) k
/-- A field of an element. -/
theorem t_fld {t : TypeId} {x : Operand} {f off s sf : Nat} {g : Bool} {v : Value} {xs : List α} (j : Nat) (d : α) (hT : T.sz = s) (hf : fldOf P t f = some (off, sf, g)) (hs : Nat.beq sf 0 = false) (hx : ev Γ x = some (elemPtr v (j * s))) (hr : RdT T w v xs) (hj : j < xs.length) (k : K (elemPtr v (j * s + off)) w) : Does P Γ w (.fieldAddr t x f) ty K := by
  subst hT
  have h1 := T.all_at d xs j 0 hj T.pos
  rw [Nat.add_zero, List.getElem?_eq_getElem (l := T.enc (xs.getD j d)) (by rw [T.len]; exact T.pos)] at h1
  exact d_fieldAddrR hf hs hx hr h1 k
theorem t_store1 {t e : TypeId} {x y : Operand} {v : Value} {b : Nat} {z : Option Value} {xs : List α} {u : Value} (j : Nat) (x' : α) (hT : T.sz = 1) (hs : szOf P t = some (1, b, z)) (hx : ev Γ x = some (elemPtr v j)) (hy : ev Γ y = some u) (he : T.enc x' = [u])
    (ho : w.ownsRow 0 e T.sz v xs.length (T.all xs)) (hj : j < xs.length) (k : ∀ w', Upd w [rowT T v e xs] w' [rowT T v e (xs.set j x')] → K undef w') : Does P Γ w (.store t x y) ty K := by
  have hset : (T.all xs).set j u = T.all (xs.set j x') := by
    have := T.all_set (xs.getD j x') xs j 0 x' u hj (by omega) (by
      have h2 := T.len (xs.getD j (xs.getD j x'))
      rw [hT] at h2
      match h3 : T.enc (xs.getD j (xs.getD j x')), h2 with
      | [c], _ => rw [he]; rfl)
    simpa [hT] using this
  refine d_storeR hs hx hy (T.one x' u (by rw [he]; simp)) ho (by rw [T.all_length, hT]; omega) fun w' h => k w' ?_
  unfold rowT
  rw [List.length_set, ← hset]
  exact h
theorem t_append {s x : Operand} {t e : TypeId} {sz b c cx : Nat} {z : Value} {a A : Option Addr} {xs ys : List α} (hT : T.sz = sz) (ht : P.underlying t = some (.slice e)) (hs : szOf P e = some (sz, b, some z)) (hzs : z.cells.size = sz)
    (hev : ev Γ s = some (.slice a xs.length c)) (hx : ev Γ x = some (.slice A ys.length cx)) (ho : w.ownsRow 0 e T.sz (.slice a xs.length c) xs.length (T.all xs)) (hr : RdT T w (.slice A ys.length cx) ys) (hb : (xs.length + ys.length) * b ≤ 140737488355328) (h63 : xs.length + ys.length ≤ 9223372036854775807)
    (k : ∀ a' c' w', Upd w [rowT T (.slice a xs.length c) e xs] w' [rowT T (.slice a' (xs ++ ys).length c') e (xs ++ ys)] → K (.slice a' (xs ++ ys).length c') w') : Does P Γ w (.call { callee := .builtin .append, args := #[s, x], argTypes := #[t, t] }) ty K := by
  subst hT
  refine d_append ht hs hzs (of_eq_true (Eq.trans Nat.blt_eq (eq_true T.pos))) hev hx ho hr (T.all_one ys) hb h63 fun a' c' w' h => ?_
  have := k a' c' w'
  unfold rowT at this
  rw [List.length_append, T.all_append] at this
  exact this h
theorem t_made {g : Nat} {cs : Array Value} {e : TypeId} {w' : World} {xs : List α} {sz : Nat} (_hT : T.sz = sz) (h : Upd w [] w' [row (.slice (some ⟨g, 0, none⟩) xs.length xs.length) e sz xs.length cs.toList]) (hc : cs.toList = T.all xs) : Upd w [] w' [rowT T (.slice (some ⟨g, 0, none⟩) xs.length xs.length) e xs] := by
  unfold rowT
  rw [_hT, ← hc]
  exact h
theorem t_buildSlice {t e : TypeId} {len sz b : Nat} {z : Value} {ps : Array (Nat × Operand)} {vs : List (Nat × Value)} {cs : Array Value} {xs : List α} (hT : T.sz = sz) (ht : P.underlying t = some (.slice e)) (hs : szOf P e = some (sz, b, some z)) (hp : evp Γ ps.toList = some vs) (hlen : xs.length = len)
    (hsmall : Nat.ble (len * sz) 16777216 = true) (hpos : Nat.beq (len * sz) 0 = false)
    (hf : Instr.fill (fun i => some (i * sz, sz)) ((Array.range (len * sz)).map (z.cells[· % z.cells.size]!)) vs = some cs) (hcs : cs.size = len * sz) (hxs : cs.toList = T.all xs)
    (k : ∀ w', Upd w [] w' [rowT T (.slice (some ⟨w.heap.size, 0, none⟩) xs.length xs.length) e xs] → K (.slice (some ⟨w.heap.size, 0, none⟩) xs.length xs.length) w') : Does P Γ w (.buildSlice t len ps) ty K := by
  subst hlen
  exact d_buildSlice ht hs hp hsmall hpos hf hcs fun w' h => k w' (t_made hT h hxs)
theorem t_buildSlice0 {t e : TypeId} {sz b : Nat} {z : Option Value} (hT : T.sz = sz) (ht : P.underlying t = some (.slice e)) (hs : szOf P e = some (sz, b, z))
    (k : ∀ w', Upd w [] w' [rowT T (.slice (some ⟨w.heap.size, 0, none⟩) ([] : List α).length 0) e []] → K (.slice (some ⟨w.heap.size, 0, none⟩) ([] : List α).length 0) w') : Does P Γ w (.buildSlice t 0 #[]) ty K :=
  d_buildSlice0 ht hs fun w' h => k w' (by unfold rowT; rw [hT]; exact h)
theorem madeCells_all {z : Value} {d : α} (hz : z.cells.toList = T.enc d) (n : Nat) : (madeCells z.cells (n * T.sz)).toList = T.all (List.replicate n d) := by
  have hzs : z.cells.size = T.sz := by rw [← Array.length_toList, hz, T.len]
  apply List.ext_getElem?
  intro m
  by_cases hm : m < n * T.sz
  · have h1 : m = (m / T.sz) * T.sz + m % T.sz := by rw [Nat.mul_comm]; exact (Nat.div_add_mod m T.sz).symm
    have h2 : m % T.sz < T.sz := Nat.mod_lt _ T.pos
    have h3 : m / T.sz < n := Nat.div_lt_of_lt_mul (by rw [Nat.mul_comm]; exact hm)
    have h4 := T.all_at d (List.replicate n d) (m / T.sz) (m % T.sz) (by simpa using h3) h2
    rw [← h1] at h4
    rw [h4]
    have h5 : (List.replicate n d).getD (m / T.sz) d = d := by simp [List.getD_eq_getElem?_getD, h3]
    rw [h5, ← hz]
    have h6 : m % z.cells.size < z.cells.size := by rw [hzs]; exact h2
    simp [madeCells, hm, hzs, h2]
  · rw [List.getElem?_eq_none (by simp [madeCells]; omega), List.getElem?_eq_none (by rw [T.all_length]; simp; omega)]
/-- 'make([]T, n)'. -/
theorem t_make {t e : TypeId} {x y : Operand} {kx ky : IntKind} {sz b : Nat} {z : Value} {l : Int} (n : Nat) (d : α) (hT : T.sz = sz) (ht : P.underlying t = some (.slice e)) (hs : szOf P e = some (sz, b, some z)) (hz : z.cells.toList = T.enc d) (hx : ev Γ x = some (.int kx l)) (hy : ev Γ y = some (.int ky l))
    (hl : l = ((n : Nat) : Int)) (hb : b * n ≤ 140737488355328) (hc : n ≤ 9223372036854775807)
    (k : ∀ w', Upd w [] w' [rowT T (.slice (some ⟨w.heap.size, 0, none⟩) (List.replicate n d).length n) e (List.replicate n d)] → K (.slice (some ⟨w.heap.size, 0, none⟩) (List.replicate n d).length n) w') : Does P Γ w (.makeSlice t x y) ty K := by
  subst hl hT
  have hb' : (b : Int) * (n : Int) ≤ 140737488355328 := by
    have h : ((b * n : Nat) : Int) ≤ 140737488355328 := by omega
    rwa [Int.natCast_mul] at h
  refine d_make ht hs hx hy (by omega) (Int.le_refl _) hb' (by omega) fun w' h => ?_
  have := k w'
  unfold rowT at this
  rw [List.length_replicate, ← madeCells_all hz] at this
  simp only [Int.toNat_natCast] at h ⊢
  refine this ?_
  rw [List.take_of_length_le (by simp [size_madeCells])] at h
  exact h
theorem Upd.nilRowT (w : World) (T : Ty α) (e : TypeId) : Upd w [] w [rowT T (.slice none ([] : List α).length 0) e []] := by
  refine ⟨⟨fun c hc => ?_, by simp [ats, rowT, row, Value.ownBlock]⟩, Keep.refl _ _, fun g hg => by simp [ats, rowT, row, Value.ownBlock] at hg⟩
  simp only [List.mem_singleton] at hc
  subst hc
  exact ⟨by simp [Ty.all], .inl ⟨rfl, rfl⟩⟩
end
end Go.Sx


/- Small words that the walker writes. -/
namespace Go.Sx
set_option linter.unusedVariables false
set_option linter.unusedSimpArgs false
section
variable {P : Program} {n : Nat} {ops : Array Oper} {Q : Exit → Act → World → Prop} {Γ : Env} {w : World} {ty : TypeId} {K : Value → World → Prop}

theorem W.iteB {c : Operand} {x y : Code} {b : Bool} (hc : ev Γ c = some (.bool b)) (h1 : b = true → W P n x Q Γ w) (h2 : ¬ b = true → W P n y Q Γ w) : W P n (.cond c x y) Q Γ w := by
  cases b
  · exact W.iff hc (h2 (by simp))
  · exact W.ift hc (h1 rfl)

theorem d_min {x y : Operand} {ts : Array TypeId} {kd : IntKind} {a b : Int} (hx : ev Γ x = some (.int kd a)) (hy : ev Γ y = some (.int kd b)) (k : K (.int kd (min a b)) w) : Does P Γ w (.call { callee := .builtin .min, args := #[x, y], argTypes := ts }) ty K :=
  Does.of_run (fun ρ hρ => by
    have : (if b < a then b else a) = min a b := by split <;> omega
    simp [ex, execOp, hρ x _ hx, hρ y _ hy, resolve, invoke, builtin, Builtin.min_, Builtin.min2, this]) k
theorem boolEnv {a : Act} {t : Nat} {b c : Bool} (ha : Agree n a Γ) (ht : look Γ t = some (.bool b)) (hb : b = c) : Agree n a ((t, .bool c) :: Γ) :=
  ha.sub fun u v e => by
    by_cases hu : t = u
    · subst hu; rw [look_cons_eq] at e; rw [ht, hb]; exact e
    · rwa [look_cons_ne _ _ hu] at e
theorem WL.partB {l : List Oper} (t : Nat) {b : Bool} (ht : look Γ t = some (.bool b)) (h1 : b = true → WL P n ops Q l ((t, .bool true) :: Γ) w) (h2 : ¬ b = true → WL P n ops Q l ((t, .bool false) :: Γ) w) : WL P n ops Q l Γ w :=
  fun a ha => by
    cases hb : b
    · exact h2 (by simp [hb]) a (boolEnv ha ht hb)
    · exact h1 hb a (boolEnv ha ht hb)
theorem WD.partB {T : List Nat} {Pn : List Prm} (t : Nat) {b : Bool} (ht : look Γ t = some (.bool b)) (h1 : b = true → WD P n ops Q T Pn ((t, .bool true) :: Γ) w) (h2 : ¬ b = true → WD P n ops Q T Pn ((t, .bool false) :: Γ) w) : WD P n ops Q T Pn Γ w :=
  WD.part t (p := b = true) (by rw [ht]; simp) h1 h2
/-- Some of what is owned, in whatever order. -/
theorem pairwise_sel {α : Type} {R : α → α → Prop} (hs : ∀ a b, R a b → R b a) {F M : List α} {l : List Nat} (hl : l.map (fun i => F[i]?) = M.map some) (hn : l.Nodup) (hF : F.Pairwise R) : M.Pairwise R := by
  rw [List.pairwise_iff_getElem] at hF ⊢
  have hlen : l.length = M.length := by simpa using congrArg List.length hl
  have hat : ∀ i (h : i < M.length), ∃ h2 : l[i]'(by omega) < F.length, F[l[i]'(by omega)]'h2 = M[i] := by
    intro i h
    have h1 : (l.map (fun i => F[i]?))[i]? = (M.map some)[i]? := by rw [hl]
    simp only [List.getElem?_map, List.getElem?_eq_getElem (show i < l.length by omega), List.getElem?_eq_getElem h, Option.map_some, Option.some.injEq] at h1
    obtain ⟨h2, h3⟩ := List.getElem?_eq_some_iff.1 h1
    exact ⟨h2, h3⟩
  intro i j hi hj hij
  obtain ⟨a1, a2⟩ := hat i hi
  obtain ⟨b1, b2⟩ := hat j hj
  have hne : l[i]'(by omega) ≠ l[j]'(by omega) := fun e => by
    have := (List.getElem_inj hn).1 e
    omega
  rw [← a2, ← b2]
  rcases Nat.lt_or_gt_of_ne hne with h | h
  · exact hF _ _ a1 b1 h
  · exact hs _ _ (hF _ _ b1 a1 h)
theorem Upd.sel {w w' : World} {L M : List Chunk} {G : List (List Chunk)} (h : UpG w L w' G) {l : List Nat} (hl : l.map (fun i => G.flatten[i]?) = M.map some) (hn : decide l.Nodup = true) : Upd w L w' M := by
  have hmem : ∀ c, c ∈ M → c ∈ G.flatten := fun c hc => by
    have : some c ∈ M.map some := List.mem_map_of_mem hc
    rw [← hl] at this
    obtain ⟨i, _, hi⟩ := List.mem_map.1 this
    exact List.mem_of_getElem? hi
  refine ⟨⟨fun c hc => (Upd.hp h).holds c (hmem c hc), ?_⟩, h.keep, fun g hg => ?_⟩
  · have h1 := (Upd.hp h).nodup
    unfold ats at h1 ⊢
    rw [List.nodup_iff_pairwise_ne, List.pairwise_flatMap] at h1 ⊢
    exact ⟨fun c hc => h1.1 c (hmem c hc), pairwise_sel (fun a b hab x hx y hy e => hab y hy x hx e.symm) hl (of_decide_eq_true hn) h1.2⟩
  · obtain ⟨c, hc, e⟩ := mem_ats.1 hg
    exact Upd.fresh h g (mem_ats.2 ⟨c, hmem c hc, e⟩)

/-- What a result's variable holds. -/
def resOf (tmps : Array Value) (r : ResultVar) : Sem Value := match r with | .tmp t => pure (tmps.getD t undef) | .cell a t => do loadVar t (← asAddr (tmps.getD a undef))
theorem results_of (fn : Func) (tmps : Array Value) : results fn tmps = (do let vs ← fn.results.mapM (resOf tmps); pure (if h : vs.size = 1 then vs[0] else .tuple vs)) := rfl
def RVal (P : Program) (Γ : Env) (w : World) (r : ResultVar) (v : Value) : Prop :=
  ∀ tmps : Array Value, (∀ t u, look Γ t = some u → tmps.getD t undef = u) → Sem.run P (resOf tmps r) w = .ok v w
theorem rv_tmp {t : Tmp} {v : Value} (h : look Γ t = some v) : RVal P Γ w (.tmp t) v := fun tmps ht => by simp only [resOf, ht t v h]; rfl
theorem rv_cellA {a : Tmp} {t : TypeId} {d : TypeDesc} {g off s b : Nat} {z : Option Value} {cs : Array Value} {e : TypeId} (us : List Value) (hu : P.underlying t = some d) (hd : aggD d = true) (hs : szOf P t = some (s, b, z)) (h : look Γ a = some (.pointer (some ⟨g, off, none⟩))) (hb : w.heap[g]? = some (.cells cs e (0, 0)))
    (hl : us.length = s) (hc : (cs.toList.drop off).take s = us) : RVal P Γ w (.cell a t) (.agg us.toArray) := fun tmps ht => by
  simp only [resOf, ht a _ h, asAddr, loadVar]
  have hcell : ∀ j v, us[j]? = some v → w.cell? ((⟨g, off, none⟩ : Addr).add j) = some v := fun j u hj => by
    rw [add_off, cells_of_blk hb]
    rw [← hc, List.getElem?_take] at hj
    split at hj
    · simpa using hj
    · cases hj
  subst hl
  simp [run_isAgg hu, hd, run_sz hs, run_loadCells_list (P := P) (w := w) _ us hcell]
theorem X.retR1 {fn : Func} {R : Value → World → Prop} {r1 : ResultVar} (hr : fn.results = #[r1]) {v1 : Value} (h1 : RVal P Γ w r1 v1) (h : R v1 w) : X n (bodyPost P fn (Ret R)) .ret Γ w :=
  fun a ha => bodyPost_ret (v := v1) (by
    have e1 := h1 a.tmps ha.slot
    simp [results_of, hr, e1]) ha.defers ⟨_, rfl, h⟩
theorem X.retR2 {fn : Func} {R : Value → World → Prop} {r1 r2 : ResultVar} (hr : fn.results = #[r1, r2]) {v1 v2 : Value} (h1 : RVal P Γ w r1 v1) (h2 : RVal P Γ w r2 v2) (h : R (.tuple #[v1, v2]) w) : X n (bodyPost P fn (Ret R)) .ret Γ w :=
  fun a ha => bodyPost_ret (v := .tuple #[v1, v2]) (by
    have e1 := h1 a.tmps ha.slot
    have e2 := h2 a.tmps ha.slot
    simp [results_of, hr, e1, e2]) ha.defers ⟨_, rfl, h⟩
/-- Two groups are worked on; new memory may come. -/
theorem UpG.hp2 {w w' : World} {L A B : List Chunk} {G : List (List Chunk)} (h : UpG w L w' G) (i j : Nat) (hij : Nat.beq i j = false) (hi : G[i]? = some A) (hj : G[j]? = some B) : Hp w' (A ++ B) := by
  have hne : i ≠ j := by intro e; subst e; simp at hij
  have p1 := perm_set G i A hi
  have p2 := perm_set (G.set i []) j B (by rw [List.getElem?_set_ne hne]; exact hj)
  have h1 := (Hp.perm (Upd.hp h) (p1.trans (p2.append_left A)))
  rw [← List.append_assoc] at h1
  exact h1.left
theorem UpG.on2 {w w1 w2 : World} {L A B A' B' C : List Chunk} {G : List (List Chunk)} (h : UpG w L w1 G) (i j : Nat) (hij : Nat.beq i j = false) (hi : G[i]? = some A) (hj : G[j]? = some B) (k : Upd w1 (A ++ B) w2 (A' ++ B' ++ C)) : UpG w L w2 ((G.set i A').set j B' ++ [C]) := by
  have hne : i ≠ j := by intro e; subst e; simp at hij
  have hj' : (G.set i [])[j]? = some B := by rw [List.getElem?_set_ne hne]; exact hj
  have p1 := perm_set G i A hi
  have p2 := perm_set (G.set i []) j B hj'
  have p := p1.trans (p2.append_left A)
  rw [← List.append_assoc] at p
  have u := Upd.frame (Upd.perm h p) k
  refine Upd.perm u ?_
  have hi'' : ((G.set i A').set j [])[j]? = some [] := by
    have : j < G.length := (List.getElem?_eq_some_iff.1 hj).1
    simp [this]
  have q1 := perm_set' (G.set i []) j B B' hj'
  have hi2 : ((G.set i []).set j B')[i]? = some [] := by
    have : i < G.length := (List.getElem?_eq_some_iff.1 hi).1
    rw [List.getElem?_set_ne (Ne.symm hne)]; simp [this]
  have q2 := perm_set' ((G.set i []).set j B') i [] A' hi2
  have e1 : ((G.set i []).set j B').set i [] = (G.set i []).set j B' := by rw [List.set_comm _ _ (Ne.symm hne), List.set_set]
  have e2 : ((G.set i []).set j B').set i A' = (G.set i A').set j B' := by rw [List.set_comm _ _ (Ne.symm hne), List.set_set]
  rw [e1, e2] at q2
  simp only [List.flatten_append, List.flatten_cons, List.flatten_nil, List.append_nil]
  refine List.Perm.trans ?_ (q2.append_right C)
  refine List.Perm.trans ?_ ((q1.append_left A').append_right C)
  simp only [List.append_assoc]
  refine List.Perm.append_left A' (List.Perm.append_left B' ?_)
  exact List.perm_append_comm
theorem UpG.onX {w w1 w2 : World} {L A B C : List Chunk} {G : List (List Chunk)} (h : UpG w L w1 G) (i : Nat) (hi : G[i]? = some A) (k : Upd w1 A w2 (B ++ C)) : UpG w L w2 (G.set i B ++ [C]) := by
  refine Upd.perm (Upd.frame (Upd.perm h (perm_set G i A hi)) k) ?_
  simp only [List.flatten_append, List.flatten_cons, List.flatten_nil, List.append_nil, List.append_assoc]
  refine List.Perm.trans ?_ ((perm_set' G i A B hi).append_right C)
  rw [List.append_assoc]
  exact List.Perm.append_left B List.perm_append_comm
/-- 'xs[:h]' of a row of one's own. -/
theorem t_pop {α : Type} {T : Ty α} {t e : TypeId} {x hi : Operand} {kd : IntKind} {a : Option Addr} {c sz b : Nat} {z : Option Value} {xs : List α} (h : Int) (hn : Nat) (hT : T.sz = sz) (ht : P.underlying t = some (.slice e)) (hs : szOf P e = some (sz, b, z)) (hx : ev Γ x = some (.slice a xs.length c)) (hh : ev Γ hi = some (.int kd h))
    (ho : w.ownsRow 0 e T.sz (.slice a xs.length c) xs.length (T.all xs)) (hij : h = ((hn : Nat) : Int)) (hle : hn ≤ xs.length) (k : ∀ w', Upd w [rowT T (.slice a xs.length c) e xs] w' [rowT T (.slice a (xs.take hn).length c) e (xs.take hn)] → K (.slice a (xs.take hn).length c) w') : Does P Γ w (.slice t x none (some hi) none) ty K := by
  subst hij hT
  have hlen : (xs.take hn).length = hn := by simp; omega
  have hc : xs.length ≤ c := by
    rcases ho.2 with ⟨h1, h2⟩ | ⟨g, cap, cur, h1, _, _, h2, _⟩
    · omega
    · injection h1 with _ _ h1; omega
  have key := k w
  rw [hlen] at key
  refine d_slice 0 (hn : Int) ht hs hx rfl (by simp [evO, hh]) (.inl ⟨rfl, rfl⟩) (.inr ⟨kd, rfl⟩) ⟨by omega, by omega, by omega⟩ ?_
  have e1 : subSlice (.slice a xs.length c) T.sz (0 : Int).toNat ((hn : Nat) : Int).toNat = .slice a hn c := by
    simp only [subSlice, Int.toNat_zero, Int.toNat_natCast, Nat.zero_mul, Nat.sub_zero]
    split
    · rfl
    · cases a <;> simp [Addr.add]
  rw [e1]
  refine key ?_
  have ho' : w.ownsRow 0 e T.sz (.slice a hn c) hn (T.all (xs.take hn)) ∨ (a = none ∧ hn = 0 ∧ c = 0) := by
    rcases ho.2 with ⟨h1, h2⟩ | ⟨g, cap, cur, h1, h3, h4, h5, h6, h7, h8⟩
    · injection h1 with h1 _ h3
      exact .inr ⟨h1, by omega, h3⟩
    · injection h1 with h1 _ h9
      subst h1 h9
      refine .inl ⟨by rw [T.all_length, hlen], .inr ⟨g, c, cur, rfl, h3, h4, by omega, h6, h7, ?_⟩⟩
      have : T.all (xs.take hn) = (T.all xs).take (hn * T.sz) := by
        have e3 : T.all xs = T.all (xs.take hn) ++ T.all (xs.drop hn) := by rw [← T.all_append, List.take_append_drop]
        have e4 : (T.all (xs.take hn)).length = hn * T.sz := by rw [T.all_length, hlen]
        rw [e3, ← e4, List.take_left]
      rw [this, ← h8, List.take_take, Nat.min_eq_left (Nat.mul_le_mul_right _ hle)]
  have ho2 : w.ownsRow 0 e T.sz (.slice a hn c) hn (T.all (xs.take hn)) := by
    rcases ho' with h1 | ⟨rfl, rfl, rfl⟩
    · exact h1
    · exact ⟨by simp [Ty.all], .inl ⟨rfl, rfl⟩⟩
  unfold rowT
  rw [hlen]
  refine ⟨⟨fun c' hc' => ?_, ?_⟩, Keep.refl _ _, fun g hg => .inl ?_⟩
  · simp only [List.mem_singleton] at hc'; subst hc'; exact own_row ho2
  · cases a <;> simp [ats, row, Value.ownBlock]
  · cases a with
    | none => simp [ats, row, Value.ownBlock] at hg
    | some a => simpa [ats, row, Value.ownBlock] using hg
end
theorem nilOwn {α : Type} {T : Ty α} {e : TypeId} {w w' : World} {L : List Chunk} {G : List (List Chunk)} (h : UpG w L w' G) : Upd w L w' [rowT T (.slice none ([] : List α).length 0) e []] :=
  ((UpG.of (G := []) h.noneL rfl).new' (Upd.nilRowT w' T e)).one 0 rfl
theorem RdT.nilOf {α : Type} {T : Ty α} {w : World} {a : Option Addr} {n c : Nat} {xs : List α} (h : RdT T w (.slice a n c) xs) (ha : a = none) : xs = [] := by
  obtain ⟨A, cap, he, hl, _, hr⟩ := h
  subst ha; cases he
  cases xs with
  | nil => rfl
  | cons x xs =>
    have h0 : 0 < (T.all (x :: xs)).length := by rw [hl]; exact Nat.mul_pos (by simp) T.pos
    obtain ⟨ad, h1, _⟩ := hr 0 _ (List.getElem?_eq_getElem h0)
    cases h1
end Go.Sx


/- What reads as a datum is an element; a slice of such reads as a list; a row's end. -/
namespace Go.Sx
set_option linter.unusedVariables false
set_option linter.unusedSimpArgs false
open Go.ChangeShapes Go.WideShapes Go.ChangeAt Go.RowKit
section
variable {H : Type} {enc : TypeId × Value → H} {P : Program} {W : World} {α β : Type} {t e : TypeId}

/-- no part is of more bytes than a machine holds -/
def Wt (P : Program) (t : TypeId) (d : DataW H) : Prop := ∀ n ∈ d.weights P t, n ≤ reachBytes
theorem wt_arg {ts : List TypeId} {ds : List (DataW H)} (h : (DataW.weightsEach P ts ds).all (· ≤ reachBytes) = true) {j : Nat} {t : TypeId} {d : DataW H} (ht : ts[j]? = some t) (hd : ds[j]? = some d) : Wt P t d :=
  fun n hn => by simpa using List.all_eq_true.1 h n (DataW.weights_mem_each ht hd n hn)
theorem weights_mem_all {e : TypeId} {n : Nat} : ∀ {ds : List (DataW H)} {d : DataW H}, d ∈ ds → n ∈ d.weights P e → n ∈ DataW.weightsAll P e ds
  | d0 :: ds, d, hd, hn => by
    simp only [DataW.weightsAll, List.mem_append]
    rcases List.mem_cons.1 hd with rfl | h
    · exact .inl hn
    · exact .inr (weights_mem_all h hn)
/-- what reads as a datum is an element -/
def El (enc : TypeId × Value → H) (P : Program) (W : World) (t : TypeId) (T : Ty α) (inv : α → DataW H → Prop) : Prop :=
  ∀ fuel cs x, DataW.trod enc P W 0 (fun _ => true) true fuel t cs = some x → Wt P t x.1 → ∃ a, cs = T.enc a ∧ inv a x.1

theorem El.int {k : IntKind} (ht : P.underlying t = some (.int k)) : El enc P W t (tyI k) (fun n _ => (Lit.int k n).wf = true) := fun fuel cs x h _ => by
  obtain ⟨n, rfl, _, hw⟩ := DataW.trod_int ht h
  exact ⟨n, rfl, hw⟩
theorem El.bool (ht : P.underlying t = some .bool) : El enc P W t tyB (fun _ _ => True) := fun fuel cs x h _ => by
  obtain ⟨n, rfl, _⟩ := DataW.trod_bool ht h
  exact ⟨n, rfl, trivial⟩
/-- a list, and its datum -/
def DSl (inv : α → DataW H → Prop) (xs : List α) (d : DataW H) : Prop :=
  (xs = [] ∧ d = .nil) ∨ ∃ (ds sp : List (DataW H)), d = .slice ds sp ∧ ds.length = xs.length ∧ ∀ (i : Nat) (a : α) (y : DataW H), xs[i]? = some a → ds[i]? = some y → inv a y
theorem DSl.get {inv : α → DataW H → Prop} {xs : List α} {d : DataW H} (h : DSl inv xs d) (i : Nat) (z : α) (hi : i < xs.length) : ∃ y, inv (xs.getD i z) y := by
  rcases h with ⟨rfl, _⟩ | ⟨ds, sp, _, hl, hd⟩
  · simp at hi
  · have h1 : i < ds.length := by omega
    exact ⟨ds[i], hd i _ _ (by simp [List.getD_eq_getElem?_getD, List.getElem?_eq_getElem hi]) (List.getElem?_eq_getElem h1)⟩

theorem DSl.mem {inv : α → DataW H → Prop} {xs : List α} {d : DataW H} (h : DSl inv xs d) {p : α} (hp : p ∈ xs) : ∃ y, inv p y := by
  obtain ⟨i, hi, rfl⟩ := List.mem_iff_getElem.1 hp
  obtain ⟨y, hy⟩ := h.get i xs[i] hi
  exact ⟨y, by simpa [List.getD_eq_getElem?_getD, List.getElem?_eq_getElem hi] using hy⟩
theorem choose_list {T : Ty α} {inv : α → DataW H → Prop} {n : Nat} {C : Nat → List Value} {D : Nat → DataW H} (h : ∀ i, i < n → ∃ a, C i = T.enc a ∧ inv a (D i)) :
    ∃ xs : List α, xs.length = n ∧ ∀ i a, xs[i]? = some a → C i = T.enc a ∧ inv a (D i) := by
  induction n with
  | zero => exact ⟨[], rfl, fun i a h => by simp at h⟩
  | succ n ih =>
    obtain ⟨xs, hl, hx⟩ := ih fun i hi => h i (by omega)
    obtain ⟨a, ha⟩ := h n (by omega)
    refine ⟨xs ++ [a], by simp [hl], fun i b hb => ?_⟩
    by_cases hi : i < xs.length
    · rw [List.getElem?_append_left hi] at hb; exact hx i b hb
    · have hi2 : i = n := by
        have := (List.getElem?_eq_some_iff.1 hb).1; simp [hl] at this; omega
      subst hi2
      rw [List.getElem?_append_right (by omega)] at hb
      simp [hl] at hb; subst hb; exact ha

theorem rd_of_cells {T : Ty α} {A : Addr} {n cap : Nat} {xs : List α} (hl : xs.length = n) (hn : n ≤ 9223372036854775807)
    (h : ∀ i a, xs[i]? = some a → W.cells? 0 (A.add (i * T.sz)) T.sz = some (T.enc a)) : RdT T W (.slice (some A) n cap) xs := by
  subst hl
  refine ⟨some A, cap, rfl, T.all_length xs, hn, fun j u hj => ⟨A, rfl, ?_⟩⟩
  have hlt : j < xs.length * T.sz := by rw [← T.all_length]; exact (List.getElem?_eq_some_iff.1 hj).1
  have hp := T.pos
  have hi : j / T.sz < xs.length := (Nat.div_lt_iff_lt_mul hp).2 hlt
  have hr : j % T.sz < T.sz := Nat.mod_lt _ hp
  have e1 : j / T.sz * T.sz + j % T.sz = j := by rw [Nat.mul_comm]; exact Nat.div_add_mod j T.sz
  have h1 := h (j / T.sz) xs[j / T.sz] (List.getElem?_eq_getElem hi)
  obtain ⟨_, _, hc⟩ := World.cells?_some h1
  have h2 := hc (j % T.sz) hr
  have h3 := T.all_at xs[j / T.sz] xs (j / T.sz) (j % T.sz) hi hr
  rw [e1, hj] at h3
  have h4 : xs.getD (j / T.sz) xs[j / T.sz] = xs[j / T.sz] := by simp [List.getD_eq_getElem?_getD, List.getElem?_eq_getElem hi]
  rw [h4] at h3
  rw [← e1, ← Addr.add_add, h2, h3]

theorem El.slice {T : Ty α} {inv : α → DataW H → Prop} {b : Nat} (ht : P.underlying t = some (.slice e)) (hc : P.cellsOf e = T.sz) (hby : P.bytesOf e = b) (he : El enc P W e T inv) :
    El enc P W t tyL (fun s d => ∃ xs, RdT T W (.slice s.a s.n s.c) xs ∧ (DSl inv xs d ∧ xs.length * b ≤ reachBytes ∧ xs.length ≤ s.c) ∧ s.n = xs.length) := fun fuel cs x h hw => by
  rcases Deep.open_slice ht h with ⟨rfl, rfl⟩ | ⟨a, len, cap, m, n, D, Pl, rfl, hb, hl, hm, hmm, rfl, hx⟩
  · exact ⟨⟨none, 0, 0⟩, rfl, [], RdT.nil W none 0, ⟨.inl ⟨rfl, rfl⟩, by simp, by simp⟩, rfl⟩
  · simp only [if_true] at hmm
    subst hmm
    have hch : ∀ i, i < len → ∃ cs', W.cells? 0 (a.add (i * P.cellsOf e)) (P.cellsOf e) = some cs' ∧ ∃ b, cs' = T.enc b ∧ inv b (D i) := fun i hi => by
      obtain ⟨cs', h1, h2⟩ := hx i (by omega)
      refine ⟨cs', h1, he _ _ _ h2 fun k hk => hw k ?_⟩
      simp only [DataW.weights, ht]
      refine List.mem_cons_of_mem _ (List.mem_append_left _ (weights_mem_all (List.mem_map.2 ⟨i, List.mem_range.2 hi, rfl⟩) hk))
    obtain ⟨xs, hxl, hxs⟩ := choose_list (T := T) (inv := fun b d => inv b d) (n := len) (C := fun i => (W.cells? 0 (a.add (i * P.cellsOf e)) (P.cellsOf e)).getD []) (D := D) (fun i hi => by
      obtain ⟨cs', h1, b, h2, h3⟩ := hch i hi
      exact ⟨b, by simp [h1, h2], h3⟩)
    refine ⟨⟨some a, len, _⟩, rfl, xs, rd_of_cells hxl (Nat.le_trans hl (Nat.le_trans hm (by decide))) (fun i b hb => ?_),  ⟨.inr ⟨_, _, rfl, by simp [hxl], fun i b y hb hy => ?_⟩, ?_, by rw [hxl]; exact hl⟩, hxl.symm⟩
    · have hi : i < len := by rw [← hxl]; exact (List.getElem?_eq_some_iff.1 hb).1
      obtain ⟨cs', h1, b', h2, h3⟩ := hch i hi
      have := (hxs i b hb).1
      rw [h1] at this
      simp only [Option.getD_some] at this
      rw [← hc, h1, this]
    · have hi : i < len := by rw [← hxl]; exact (List.getElem?_eq_some_iff.1 hb).1
      have := (hxs i b hb).2
      simp [hi] at hy; subst hy; exact this
    · have := hw ((((List.range len).map D).length + ((List.range (m - len)).map fun j => D (len + j)).length) * P.bytesOf e) (by simp [DataW.weights, ht])
      rw [hby] at this; simp only [List.length_map, List.length_range] at this
      rw [hxl]; exact Nat.le_trans (Nat.mul_le_mul_right b (by omega)) this

/-- a struct's field -/
theorem El.field {T : Ty α} {inv : α → DataW H → Prop} {n : Nat} {f : Field} {cs : List Value} {xs : List (DataW H × List MemPlace)} {i o c : Nat}
    (hf : DataW.trod enc P W 0 (fun _ => true) true n f.type ((cs.drop f.offset).take (P.cellsOf f.type)) = xs[i]?) (hi : i < xs.length) {t : TypeId} {fs : Array Field} (ht : P.underlying t = some (.struct fs)) (hfi : fs[i]? = some f) (hw : Wt P t (.agg (xs.map (·.1)))) (ho : f.offset = o) (hc : P.cellsOf f.type = c) (he : El enc P W f.type T inv) :
    ∃ a, (cs.drop o).take c = T.enc a ∧ ∃ y, (xs.map (·.1))[i]? = some y ∧ inv a y := by
  rw [List.getElem?_eq_getElem hi] at hf
  obtain ⟨a, h1, h2⟩ := he _ _ _ hf fun k hk => hw k (by
    simp only [DataW.weights, ht]
    exact DataW.weights_mem_each (j := i) (by simp [hfi]) (by simp [hi]) k hk)
  subst ho; subst hc
  exact ⟨a, h1, _, by simp [hi], h2⟩
theorem part_cons {cs l r : List Value} {o c : Nat} (h : (cs.drop o).take c = l) (h2 : cs.drop (o + c) = r) : cs.drop o = l ++ r := by
  rw [← h, ← h2, ← List.drop_drop, List.take_append_drop]
theorem part_end {cs : List Value} {n : Nat} (h : cs.length = n) : cs.drop n = [] := by rw [← h]; simp

theorem trod_slice_arg {T : Ty α} {inv : α → DataW H → Prop} {b : Nat} (he : El enc P W t tyL (fun s d => ∃ xs, RdT T W (.slice s.a s.n s.c) xs ∧ (DSl inv xs d ∧ xs.length * b ≤ reachBytes ∧ xs.length ≤ s.c) ∧ s.n = xs.length)) {a : Option Addr} {n c : Nat} {d : DataW H} {ps : List MemPlace}
    (h : DataW.Trod enc P W 0 (fun _ => true) true t (.slice a n c) d ps) (hw : Wt P t d) : ∃ xs, n = xs.length ∧ RdT T W (.slice a n c) xs ∧ DSl inv xs d ∧ xs.length * b ≤ reachBytes ∧ xs.length ≤ c := by
  obtain ⟨fuel, hf⟩ := h
  obtain ⟨s, h1, xs, h2, h3, h4⟩ := he _ _ _ hf hw
  have h5 : s.a = a ∧ s.n = n ∧ s.c = c := by
    simp only [Value.cells, tyL, List.toList_toArray] at h1
    simp at h1
    exact ⟨h1.1.symm, h1.2.1.symm, h1.2.2.symm⟩
  obtain ⟨rfl, rfl, rfl⟩ := h5
  exact ⟨xs, h4, h2, h3⟩
theorem below_of {w w' : World} (h : Upd w [] w' []) : RowKit.Below w.heap.size w w' := (Upd.keep h).below
end
end Go.Sx


/- Automata as data; small searches. -/
namespace Go.Sx
set_option linter.unusedVariables false
set_option linter.unusedSimpArgs false
structure DfaD where
  cls : List Int
  width : Int
  start : Int
  next : List Int
  acc : List Bool

/-- The first place from k on at which p holds. -/
def findFrom {α : Type} (p : α → Bool) (l : List α) (k : Nat) : Int := if h : k < l.length then (if p l[k] then (k : Int) else findFrom p l (k + 1)) else -1
termination_by l.length - k
def findI {α : Type} (p : α → Bool) (l : List α) : Int := findFrom p l 0
theorem findFrom_no {α : Type} (p : α → Bool) (l : List α) (k : Nat) {d : α} (h : k < l.length) (hp : ¬ p (l.getD k d) = true) : findFrom p l k = findFrom p l (k + 1) := by
  have : l.getD k d = l[k] := by simp [List.getD_eq_getElem?_getD, h]
  rw [this] at hp
  rw [findFrom, dif_pos h, if_neg hp]
theorem findFrom_yes {α : Type} (p : α → Bool) (l : List α) (k : Nat) {d : α} (h : k < l.length) (hp : p (l.getD k d) = true) : findFrom p l k = (k : Int) := by
  have : l.getD k d = l[k] := by simp [List.getD_eq_getElem?_getD, h]
  rw [this] at hp
  rw [findFrom, dif_pos h, if_pos hp]
theorem findFrom_end {α : Type} (p : α → Bool) (l : List α) (k : Nat) (h : l.length ≤ k) : findFrom p l k = -1 := by
  rw [findFrom, dif_neg (by omega)]
/-- A function value that tells a bool of a number, and only reads what is there. -/
def ClosB (P : Program) (f : FuncId) (fc : List Value) (p : Int → Bool) (w : World) : Prop :=
  ∀ w' : World, Keep [] w w' → ∀ x : Int, Calls P f (#[.int .i64 x] ++ fc.toArray) w' (Ret fun v w'' => v = .bool (p x) ∧ Upd w' [] w'' [])
end Go.Sx
namespace Go.Sx
set_option linter.unusedVariables false
set_option linter.unusedSimpArgs false
theorem ClosB.keep {P : Program} {f : FuncId} {fc : List Value} {p : Int → Bool} {w w' : World} (h : ClosB P f fc p w) (k : Keep [] w w') : ClosB P f fc p w' := fun w2 k2 x => h w2 (k.trans k2) x
theorem findFrom_any {α : Type} (p : α → Bool) (l : List α) (k : Nat) : decide (findFrom p l k ≥ 0) = (l.drop k).any p := by
  rw [findFrom]
  split
  · rename_i h
    rw [List.drop_eq_getElem_cons h, List.any_cons]
    split
    · rename_i hp; simp [hp]
    · rename_i hp; rw [findFrom_any p l (k + 1)]; simp [hp]
  · rename_i h
    rw [List.drop_eq_nil_of_le (by omega)]; simp
termination_by l.length - k
theorem findI_any {α : Type} (p : α → Bool) (l : List α) : decide (findI p l ≥ 0) = l.any p := by
  unfold findI; rw [findFrom_any]; simp
def withinB (l : List Int) (n : Int) : Bool := l.all fun x => decide (0 ≤ x ∧ x < n)
theorem within_eq (l : List Int) (n : Int) : (!l.any fun x => decide (x < 0 ∨ n ≤ x)) = withinB l n := by
  unfold withinB
  rw [List.not_any_eq_all_not]
  congr 1
  funext x
  by_cases h : 0 ≤ x ∧ x < n
  · have h2 : ¬ (x < 0 ∨ n ≤ x) := by omega
    rw [decide_eq_true h, decide_eq_false h2]; rfl
  · have h2 : x < 0 ∨ n ≤ x := by omega
    rw [decide_eq_false h, decide_eq_true h2]; rfl
theorem within_at {l : List Int} {n : Int} (h : withinB l n = true) (i : Nat) (hi : i < l.length) : 0 ≤ l.getD i 0 ∧ l.getD i 0 < n := by
  unfold withinB at h
  rw [List.all_eq_true] at h
  have := h (l.getD i 0) (by rw [List.getD_eq_getElem?_getD, List.getElem?_eq_getElem hi]; exact List.getElem_mem hi)
  simpa using this
def rightB (d : DfaD) : Bool :=
  decide (d.cls.length = 259 ∧ 1 ≤ d.width ∧ d.width ≤ 259 ∧ 1 ≤ d.acc.length ∧ d.acc.length ≤ 4096 ∧ (d.next.length : Int) = (d.acc.length : Int) * d.width ∧ 0 ≤ d.start ∧ d.start < (d.acc.length : Int)) &&
  withinB d.cls d.width && withinB d.next (d.acc.length : Int)
theorem mul_bd {a b A B : Int} (h0 : 0 ≤ a) (h1 : a ≤ A) (h2 : 0 ≤ b) (h3 : b ≤ B) : 0 ≤ a * b ∧ a * b ≤ A * B :=
  ⟨Int.mul_nonneg h0 h2, Int.mul_le_mul h1 h3 h2 (by omega)⟩
end Go.Sx
namespace Go.Sx
set_option linter.unusedVariables false
set_option linter.unusedSimpArgs false
/-- One step, of what is right. -/
def stepD (d : DfaD) (q : Int) (sym : Int) : Int := d.next.getD (q * d.width + d.cls.getD sym.toNat 0).toNat 0
def runFrom (d : DfaD) (word : List Int) (k : Nat) (q : Int) : Int :=
  if h : k < word.length then (if 0 ≤ word[k] ∧ word[k] < 259 then runFrom d word (k + 1) (stepD d q word[k]) else -1) else q
termination_by word.length - k
def runF (d : DfaD) (s : Int) (word : List Int) : Int := if rightB d = true ∧ 0 ≤ s ∧ s < (d.acc.length : Int) then runFrom d word 0 s else -1
end Go.Sx
namespace Go.Sx
set_option linter.unusedVariables false
set_option linter.unusedSimpArgs false
theorem rightB_iff {d : DfaD} : rightB d = true ↔ (d.cls.length = 259 ∧ 1 ≤ d.width ∧ d.width ≤ 259 ∧ 1 ≤ d.acc.length ∧ d.acc.length ≤ 4096 ∧ (d.next.length : Int) = (d.acc.length : Int) * d.width ∧ 0 ≤ d.start ∧ d.start < (d.acc.length : Int)) ∧
    withinB d.cls d.width = true ∧ withinB d.next (d.acc.length : Int) = true := by
  unfold rightB
  simp only [Bool.and_eq_true, decide_eq_true_eq, and_assoc]
theorem right_idx {d : DfaD} (hr : rightB d = true) {q x : Int} (h0 : 0 ≤ q) (h1 : q < (d.acc.length : Int)) (h2 : 0 ≤ x) (h3 : x < d.width) :
    0 ≤ q * d.width ∧ q * d.width + x < (d.next.length : Int) ∧ (d.next.length : Int) ≤ 1060864 ∧ 0 ≤ d.next.getD (q * d.width + x).toNat 0 ∧ d.next.getD (q * d.width + x).toNat 0 < (d.acc.length : Int) := by
  obtain ⟨⟨a1, a2, a3, a4, a5, a6, a7, a8⟩, b1, b2⟩ := rightB_iff.1 hr
  have e1 : 0 ≤ q * d.width := Int.mul_nonneg h0 (by omega)
  have e2 : (q + 1) * d.width ≤ (d.acc.length : Int) * d.width := Int.mul_le_mul_of_nonneg_right (by omega) (by omega)
  have e3 : (q + 1) * d.width = q * d.width + d.width := by rw [Int.add_mul, Int.one_mul]
  have e4 := (mul_bd (a := (d.acc.length : Int)) (b := d.width) (A := 4096) (B := 259) (by omega) (by omega) (by omega) (by omega)).2
  have e5 : q * d.width + x < (d.next.length : Int) := by omega
  have e6 := within_at b2 (q * d.width + x).toNat (by omega)
  exact ⟨e1, e5, by omega, e6.1, e6.2⟩
theorem right_sym {d : DfaD} (hr : rightB d = true) {c : Int} (h0 : 0 ≤ c) (h1 : c < 259) : c.toNat < d.cls.length ∧ 0 ≤ d.cls.getD c.toNat 0 ∧ d.cls.getD c.toNat 0 < d.width ∧ d.width ≤ 259 := by
  obtain ⟨⟨a1, a2, a3, a4, a5, a6, a7, a8⟩, b1, b2⟩ := rightB_iff.1 hr
  have := within_at b1 c.toNat (by omega)
  exact ⟨by omega, this.1, this.2, a3⟩
theorem runF_go {d : DfaD} {s : Int} {word : List Int} (h : ¬ (!rightB d) = true) (h0 : 0 ≤ s) (h1 : s < (d.acc.length : Int)) : runF d s word = runFrom d word 0 s := by
  have : rightB d = true := by simpa using h
  unfold runF; rw [if_pos ⟨this, h0, h1⟩]
theorem runF_no {d : DfaD} {s : Int} {word : List Int} (h : (!rightB d) = true ∨ s < 0 ∨ (d.acc.length : Int) ≤ s) : runF d s word = -1 := by
  unfold runF
  rw [if_neg]
  rintro ⟨a, b, c⟩
  rcases h with h | h | h
  · simp [a] at h
  · omega
  · omega
theorem runFrom_step {d : DfaD} {word : List Int} {k : Nat} {q : Int} (h : k < word.length) (h0 : 0 ≤ word.getD k 0) (h1 : word.getD k 0 < 259) : runFrom d word k q = runFrom d word (k + 1) (d.next.getD (q * d.width + d.cls.getD (word.getD k 0).toNat 0).toNat 0) := by
  have e : word.getD k 0 = word[k] := by simp [List.getD_eq_getElem?_getD, h]
  rw [e] at h0 h1 ⊢
  rw [runFrom, dif_pos h, if_pos ⟨h0, h1⟩]; rfl
theorem runFrom_bad {d : DfaD} {word : List Int} {k : Nat} {q : Int} (h : k < word.length) (h0 : ¬ (0 ≤ word.getD k 0 ∧ word.getD k 0 < 259)) : runFrom d word k q = -1 := by
  have e : word.getD k 0 = word[k] := by simp [List.getD_eq_getElem?_getD, h]
  rw [e] at h0
  rw [runFrom, dif_pos h, if_neg h0]
theorem runFrom_end {d : DfaD} {word : List Int} {k : Nat} {q : Int} (h : word.length ≤ k) : runFrom d word k q = q := by
  rw [runFrom, dif_neg (by omega)]
end Go.Sx
namespace Go.Sx
set_option linter.unusedVariables false
set_option linter.unusedSimpArgs false
theorem runFrom_lt {d : DfaD} (hr : rightB d = true) (word : List Int) (k : Nat) (q : Int) (h0 : 0 ≤ q) (h1 : q < (d.acc.length : Int)) : runFrom d word k q = -1 ∨ 0 ≤ runFrom d word k q ∧ runFrom d word k q < (d.acc.length : Int) := by
  rw [runFrom]
  split
  · split
    · rename_i h
      have hs := right_sym hr h.1 h.2
      have hi := right_idx hr h0 h1 hs.2.1 hs.2.2.1
      exact runFrom_lt hr word (k + 1) _ hi.2.2.2.1 hi.2.2.2.2
    · exact .inl rfl
  · exact .inr ⟨h0, h1⟩
termination_by word.length - k
theorem runF_lt (d : DfaD) (s : Int) (word : List Int) : runF d s word = -1 ∨ 0 ≤ runF d s word ∧ runF d s word < (d.acc.length : Int) := by
  unfold runF
  split
  · rename_i h; exact runFrom_lt h.1 word 0 s h.2.1 h.2.2
  · exact .inl rfl
def acceptsB (d : DfaD) (word : List Int) : Bool := if 0 ≤ runF d d.start word then d.acc.getD (runF d d.start word).toNat false else false
theorem acceptsB_no {d : DfaD} {word : List Int} (h : ¬ runF d d.start word ≥ 0) : acceptsB d word = false := by unfold acceptsB; rw [if_neg (by omega)]
theorem acceptsB_yes {d : DfaD} {word : List Int} (h : runF d d.start word ≥ 0) : acceptsB d word = d.acc.getD (runF d d.start word).toNat false := by unfold acceptsB; rw [if_pos (by omega)]
end Go.Sx


/- An automaton as it lies in memory: its five cells. -/
namespace Go.Sx
structure DfaS where
  cls : Sl
  width : Int
  start : Int
  next : Sl
  acc : Sl
def tyDfaS : Ty DfaS := ⟨5, fun x => [.slice x.cls.a x.cls.n x.cls.c, .int .i64 x.width, .int .i64 x.start, .slice x.next.a x.next.n x.next.c, .slice x.acc.a x.acc.n x.acc.c], fun _ => rfl, fun x u h => by
  simp only [List.mem_cons, List.not_mem_nil, or_false] at h; rcases h with rfl | rfl | rfl | rfl | rfl <;> rfl, by omega⟩
end Go.Sx


/- Proved here: what an automaton reads as return true at every input that their statements speak of, and leave what was handed in as it read; conditions: none beyond those of the statements. -/
namespace Go.Proofs.Ytoeockpkkmgieaa
open Go Go.Sx Go.ChangeShapes Go.WideShapes Go.ChangeAt Go.RowKit
set_option linter.unusedVariables false
theorem el25 {H : Type} {enc : TypeId × Value → H} {W : World} : El enc Try.prog W 25 tyDfaS (fun a d => ∃ ys, d = .agg ys ∧ (∃ y, ys[0]? = some y ∧ ∃ xs, RdT (tyI .i64) W (.slice a.cls.a a.cls.n a.cls.c) xs ∧ (DSl (fun n _ => (Lit.int .i64 n).wf = true) xs y ∧ xs.length * 8 ≤ reachBytes ∧ xs.length ≤ a.cls.c) ∧ a.cls.n = xs.length) ∧ (∃ y, ys[1]? = some y ∧ (Lit.int .i64 a.width).wf = true) ∧ (∃ y, ys[2]? = some y ∧ (Lit.int .i64 a.start).wf = true) ∧ (∃ y, ys[3]? = some y ∧ ∃ xs, RdT (tyI .i64) W (.slice a.next.a a.next.n a.next.c) xs ∧ (DSl (fun n _ => (Lit.int .i64 n).wf = true) xs y ∧ xs.length * 8 ≤ reachBytes ∧ xs.length ≤ a.next.c) ∧ a.next.n = xs.length) ∧ (∃ y, ys[4]? = some y ∧ ∃ xs, RdT tyB W (.slice a.acc.a a.acc.n a.acc.c) xs ∧ (DSl (fun _ _ => True) xs y ∧ xs.length * 1 ≤ reachBytes ∧ xs.length ≤ a.acc.c) ∧ a.acc.n = xs.length)) := fun fuel cs x h hw0 => by
  obtain ⟨xs, n, rfl, hx, hl, hn, hf⟩ := DataW.trod_struct Try.underlying25 h
  have hw : Wt Try.prog 25 (.agg (xs.map (·.1))) := by have h9 := hw0; rw [hx] at h9; exact h9
  obtain ⟨a0, e0, y0⟩ := El.field (o := 0) (c := 1) (hf 0 _ rfl) (by rw [hn]; decide) Try.underlying25 rfl hw rfl (by kernel_rfl) (El.slice (T := tyI .i64) (b := 8) Try.underlying22 (by kernel_rfl) (by kernel_rfl) (El.int Try.underlying3))
  obtain ⟨a1, e1, y1⟩ := El.field (o := 1) (c := 1) (hf 1 _ rfl) (by rw [hn]; decide) Try.underlying25 rfl hw rfl (by kernel_rfl) (El.int Try.underlying3)
  obtain ⟨a2, e2, y2⟩ := El.field (o := 2) (c := 1) (hf 2 _ rfl) (by rw [hn]; decide) Try.underlying25 rfl hw rfl (by kernel_rfl) (El.int Try.underlying3)
  obtain ⟨a3, e3, y3⟩ := El.field (o := 3) (c := 1) (hf 3 _ rfl) (by rw [hn]; decide) Try.underlying25 rfl hw rfl (by kernel_rfl) (El.slice (T := tyI .i64) (b := 8) Try.underlying22 (by kernel_rfl) (by kernel_rfl) (El.int Try.underlying3))
  obtain ⟨a4, e4, y4⟩ := El.field (o := 4) (c := 1) (hf 4 _ rfl) (by rw [hn]; decide) Try.underlying25 rfl hw rfl (by kernel_rfl) (El.slice (T := tyB) (b := 1) Try.underlying23 (by kernel_rfl) (by kernel_rfl) (El.bool Try.underlying4))
  exact ⟨⟨a0, a1, a2, a3, a4⟩, (part_cons (o := 0) (c := 1) e0 (part_cons (o := 1) (c := 1) e1 (part_cons (o := 2) (c := 1) e2 (part_cons (o := 3) (c := 1) e3 (part_cons (o := 4) (c := 1) e4 (part_end (hl.trans (by kernel_rfl)))))))), _, congrArg Prod.fst hx, y0, y1, y2, y3, y4⟩
end Go.Proofs.Ytoeockpkkmgieaa


/- What the program's tables say of types and functions, for walks. -/
namespace Go.Proofs.Ytoeockpkkmgieaa
open Go Go.Sx
theorem sz2 : szOf Try.prog 2 = some (1, 8, some (.int .i64 0)) := by kernel_rfl
theorem sz3 : szOf Try.prog 3 = some (1, 8, some (.int .i64 0)) := by kernel_rfl
theorem sz4 : szOf Try.prog 4 = some (1, 1, some (.bool false)) := by kernel_rfl
theorem sz22 : szOf Try.prog 22 = some (1, 24, some (.slice none 0 0)) := by kernel_rfl
theorem sz23 : szOf Try.prog 23 = some (1, 24, some (.slice none 0 0)) := by kernel_rfl
theorem sz25 : szOf Try.prog 25 = some (5, 88, some (.agg #[.slice none 0 0, .int .i64 0, .int .i64 0, .slice none 0 0, .slice none 0 0])) := by kernel_rfl
theorem fld25_0 : fldOf Try.prog 25 0 = some (0, 1, false) := by kernel_rfl
theorem fld25_1 : fldOf Try.prog 25 1 = some (1, 1, false) := by kernel_rfl
theorem fld25_2 : fldOf Try.prog 25 2 = some (2, 1, false) := by kernel_rfl
theorem fld25_3 : fldOf Try.prog 25 3 = some (3, 1, false) := by kernel_rfl
theorem fld25_4 : fldOf Try.prog 25 4 = some (4, 1, false) := by kernel_rfl
theorem sz29 : szOf Try.prog 29 = some (1, 24, some (.slice none 0 0)) := by kernel_rfl
theorem sz77 : szOf Try.prog 77 = some (1, 24, some (.slice none 0 0)) := by kernel_rfl
theorem sz100 : szOf Try.prog 100 = some (1, 24, some (.slice none 0 0)) := by kernel_rfl
theorem fld102_2 : fldOf Try.prog 102 2 = some (10, 1, false) := by kernel_rfl
theorem fld102_3 : fldOf Try.prog 102 3 = some (11, 1, false) := by kernel_rfl
theorem sz105 : szOf Try.prog 105 = some (2, 16, some (.agg #[.int .i64 0, .int .i64 0])) := by kernel_rfl
theorem fld105_0 : fldOf Try.prog 105 0 = some (0, 1, false) := by kernel_rfl
theorem fld105_1 : fldOf Try.prog 105 1 = some (1, 1, false) := by kernel_rfl
theorem sz107 : szOf Try.prog 107 = some (4, 32, some (.agg #[.int .i64 0, .int .i64 0, .int .i64 0, .int .i64 0])) := by kernel_rfl
theorem fld107_0 : fldOf Try.prog 107 0 = some (0, 2, true) := by kernel_rfl
theorem fld107_1 : fldOf Try.prog 107 1 = some (2, 1, false) := by kernel_rfl
theorem fld107_2 : fldOf Try.prog 107 2 = some (3, 1, false) := by kernel_rfl
theorem sz114 : szOf Try.prog 114 = some (1, 24, some (.slice none 0 0)) := by kernel_rfl
theorem sz115 : szOf Try.prog 115 = some (1, 24, some (.slice none 0 0)) := by kernel_rfl
theorem fld117_0 : fldOf Try.prog 117 0 = some (0, 1, false) := by kernel_rfl
theorem fld117_1 : fldOf Try.prog 117 1 = some (1, 1, false) := by kernel_rfl
theorem fld117_2 : fldOf Try.prog 117 2 = some (2, 1, false) := by kernel_rfl
theorem fld117_3 : fldOf Try.prog 117 3 = some (3, 1, false) := by kernel_rfl
theorem fld117_4 : fldOf Try.prog 117 4 = some (4, 1, false) := by kernel_rfl
theorem sz119 : szOf Try.prog 119 = some (2, 16, some (.agg #[.int .i64 0, .int .i64 0])) := by kernel_rfl
theorem fld119_0 : fldOf Try.prog 119 0 = some (0, 1, false) := by kernel_rfl
theorem fld119_1 : fldOf Try.prog 119 1 = some (1, 1, false) := by kernel_rfl
theorem sz130 : szOf Try.prog 130 = some (2, 16, some (.agg #[.int .i64 0, .int .i64 0])) := by kernel_rfl
theorem sz135 : szOf Try.prog 135 = some (1, 8, some (.map none)) := by kernel_rfl
theorem ok18 : CallOk Try.prog 18 := callOk Try.func18 (by decide) rfl
theorem ok19 : CallOk Try.prog 19 := callOk Try.func19 (by decide) rfl
theorem ok24 : CallOk Try.prog 24 := callOk Try.func24 (by decide) rfl
theorem ok25 : CallOk Try.prog 25 := callOk Try.func25 (by decide) rfl
theorem ok26 : CallOk Try.prog 26 := callOk Try.func26 (by decide) rfl
theorem ok40 : CallOk Try.prog 40 := callOk Try.func40 (by decide) rfl
theorem ok43 : CallOk Try.prog 43 := callOk Try.func43 (by decide) rfl
theorem ok44 : CallOk Try.prog 44 := callOk Try.func44 (by decide) rfl
theorem ok45 : CallOk Try.prog 45 := callOk Try.func45 (by decide) rfl
theorem ok46 : CallOk Try.prog 46 := callOk Try.func46 (by decide) rfl
theorem ok51 : CallOk Try.prog 51 := callOk Try.func51 (by decide) rfl
theorem ok52 : CallOk Try.prog 52 := callOk Try.func52 (by decide) rfl
theorem ok57 : CallOk Try.prog 57 := callOk Try.func57 (by decide) rfl
theorem ok58 : CallOk Try.prog 58 := callOk Try.func58 (by decide) rfl
theorem ok59 : CallOk Try.prog 59 := callOk Try.func59 (by decide) rfl
theorem ok60 : CallOk Try.prog 60 := callOk Try.func60 (by decide) rfl
theorem ok61 : CallOk Try.prog 61 := callOk Try.func61 (by decide) rfl
theorem ok62 : CallOk Try.prog 62 := callOk Try.func62 (by decide) rfl
theorem ok66 : CallOk Try.prog 66 := callOk Try.func66 (by decide) rfl
theorem ok72 : CallOk Try.prog 72 := callOk Try.func72 (by decide) rfl
theorem ok75 : CallOk Try.prog 75 := callOk Try.func75 (by decide) rfl
theorem ok76 : CallOk Try.prog 76 := callOk Try.func76 (by decide) rfl
theorem ok77 : CallOk Try.prog 77 := callOk Try.func77 (by decide) rfl
theorem ok78 : CallOk Try.prog 78 := callOk Try.func78 (by decide) rfl
theorem ok79 : CallOk Try.prog 79 := callOk Try.func79 (by decide) rfl
theorem ok80 : CallOk Try.prog 80 := callOk Try.func80 (by decide) rfl
theorem ok83 : CallOk Try.prog 83 := callOk Try.func83 (by decide) rfl
theorem ok84 : CallOk Try.prog 84 := callOk Try.func84 (by decide) rfl
theorem ok85 : CallOk Try.prog 85 := callOk Try.func85 (by decide) rfl
theorem ok90 : CallOk Try.prog 90 := callOk Try.func90 (by decide) rfl
theorem ok91 : CallOk Try.prog 91 := callOk Try.func91 (by decide) rfl
theorem ok92 : CallOk Try.prog 92 := callOk Try.func92 (by decide) rfl
theorem ok93 : CallOk Try.prog 93 := callOk Try.func93 (by decide) rfl
theorem ok95 : CallOk Try.prog 95 := callOk Try.func95 (by decide) rfl
theorem ok96 : CallOk Try.prog 96 := callOk Try.func96 (by decide) rfl
theorem ok97 : CallOk Try.prog 97 := callOk Try.func97 (by decide) rfl
theorem ok98 : CallOk Try.prog 98 := callOk Try.func98 (by decide) rfl
theorem ok99 : CallOk Try.prog 99 := callOk Try.func99 (by decide) rfl
theorem ok102 : CallOk Try.prog 102 := callOk Try.func102 (by decide) rfl
theorem ok104 : CallOk Try.prog 104 := callOk Try.func104 (by decide) rfl
theorem ok105 : CallOk Try.prog 105 := callOk Try.func105 (by decide) rfl
theorem ok106 : CallOk Try.prog 106 := callOk Try.func106 (by decide) rfl
theorem mixed : Try.prog.follows .mixedOrders = true := by kernel_rfl
end Go.Proofs.Ytoeockpkkmgieaa


/- More words for walks: structs compared. -/
namespace Go.Sx
set_option linter.unusedVariables false
set_option linter.unusedSimpArgs false
def cellEq : Value → Value → Bool
  | .int _ a, .int _ b => decide (a = b)
  | .string a, .string b => decide (a = b)
  | .bool a, .bool b => decide (a = b)
  | _, _ => true
def cellsEq : List Value → List Value → Bool
  | [x], [y] => cellEq x y
  | x :: xs, y :: ys => cellEq x y && cellsEq xs ys
  | _, _ => true
def flatOne (P : Program) (t : TypeId) (x y : Value) : Bool :=
  match P.underlying t, x, y with
  | some (.int k), .int a _, .int b _ => decide (a = k) && decide (b = k)
  | some .bool, .bool _, .bool _ => true
  | some .string, .string _, .string _ => true
  | _, _, _ => false
def flatOk (P : Program) : Nat → List Field → List Value → List Value → Bool
  | _, [], [], [] => true
  | i, f :: fs, x :: xs, y :: ys => (f.name != "_") && (Nat.beq f.offset i) && flatOne P f.type x y && flatOk P (i + 1) fs xs ys
  | _, _, _, _ => false
section
variable {P : Program} {Γ : Env} {w : World} {ty : TypeId} {K : Value → World → Prop}
theorem run_flatOne {t : TypeId} {x y : Value} {d o : Nat} {X Y : Array Value} (h : flatOne P t x y = true) (hx : X[o]? = some x) (hy : Y[o]? = some y) :
    (part t X o).run P w = .ok x w ∧ (part t Y o).run P w = .ok y w ∧ (Op.equalIn (d + 1) t x y).run P w = .ok (cellEq x y) w := by
  unfold flatOne at h
  split at h
  · rename_i k a n b m hu
    simp only [Bool.and_eq_true, decide_eq_true_eq] at h
    obtain ⟨rfl, rfl⟩ := h
    refine ⟨?_, ?_, ?_⟩
    · simp [part, isAgg, run_underlying hu, hx]
    · simp [part, isAgg, run_underlying hu, hy]
    · simp [Op.equalIn, run_underlying hu, cellEq]; rfl
  · rename_i a b hu
    refine ⟨?_, ?_, ?_⟩
    · simp [part, isAgg, run_underlying hu, hx]
    · simp [part, isAgg, run_underlying hu, hy]
    · simp [Op.equalIn, run_underlying hu, cellEq]; rfl
  · rename_i a b hu
    refine ⟨?_, ?_, ?_⟩
    · simp [part, isAgg, run_underlying hu, hx]
    · simp [part, isAgg, run_underlying hu, hy]
    · have := run_equalIn_string (P := P) w d t a b hu
      rw [this]; simp [cellEq, toList_inj]
  · cases h
theorem run_flat {d : Nat} {X Y : Array Value} : ∀ {fs : List Field} {i : Nat} {xs ys : List Value}, flatOk P i fs xs ys = true → (∀ j, j < xs.length → X[i + j]? = xs[j]?) → (∀ j, j < ys.length → Y[i + j]? = ys[j]?) →
    (Op.eqFields (d + 1) X Y fs).run P w = .ok (cellsEq xs ys) w
  | [], i, [], [], _, _, _ => by simp [Op.eqFields, cellsEq]
  | f :: fs, i, x :: xs, y :: ys, h, hx, hy => by
    simp only [flatOk, Bool.and_eq_true, bne_iff_ne, ne_eq] at h
    obtain ⟨⟨⟨hn, ho⟩, h1⟩, h2⟩ := h
    have ho := Nat.eq_of_beq_eq_true ho
    have ex := hx 0 (by simp); have ey := hy 0 (by simp)
    simp only [Nat.add_zero, List.getElem?_cons_zero] at ex ey
    obtain ⟨p1, p2, p3⟩ := run_flatOne (w := w) (d := d) (o := f.offset) h1 (by rw [ho]; exact ex) (by rw [ho]; exact ey)
    have ih := run_flat (d := d) (X := X) (Y := Y) h2 (fun j hj => by have := hx (j + 1) (by simp; omega); rw [show i + 1 + j = i + (j + 1) by omega, this]; simp) (fun j hj => by have := hy (j + 1) (by simp; omega); rw [show i + 1 + j = i + (j + 1) by omega, this]; simp)
    have hc : cellsEq (x :: xs) (y :: ys) = (cellEq x y && cellsEq xs ys) := by
      cases xs <;> cases ys <;> simp [cellsEq]
    simp only [Op.eqFields, ne_eq, hn, not_false_eq_true, if_true, Sem.run_bind, p1, p2, p3, Result.andThen_ok, hc]
    cases hb : cellEq x y
    · simp
    · simp [ih]
theorem run_aggeq {t : TypeId} {xs ys : List Value} (ht : P.underlying t = some (.struct (P.fieldsOf t))) (hp : P.stoodInHeld t = false) (h : flatOk P 0 (P.fieldsOf t).toList xs ys = true) :
    (Op.equalIn 10000 t (.agg xs.toArray) (.agg ys.toArray)).run P w = .ok (cellsEq xs ys) w := by
  rw [run_equalIn_struct w 9999 t xs.toArray ys.toArray ht hp]
  exact run_flat (d := 9998) h (fun j hj => by simp) (fun j hj => by simp)
theorem RdT.take {α : Type} {T : Ty α} {a : Option Addr} {n c : Nat} {xs : List α} (h : RdT T w (.slice a n c) xs) (k : Nat) (hk : k ≤ xs.length) : RdT T w (.slice a (xs.take k).length c) (xs.take k) := by
  obtain ⟨A, cap, he, hl, hle, hr⟩ := h
  cases he
  have hlen : (xs.take k).length = k := by simp; omega
  refine ⟨a, c, rfl, T.all_length _, by omega, fun j u hj => hr j u ?_⟩
  have e3 : T.all xs = T.all (xs.take k) ++ T.all (xs.drop k) := by rw [← T.all_append, List.take_append_drop]
  rw [e3, List.getElem?_append_left (List.getElem?_eq_some_iff.1 hj).1, hj]
/-- 'xs[:h]' of what is read. -/
theorem t_take {α : Type} {T : Ty α} {t e : TypeId} {x hi : Operand} {kd : IntKind} {a : Option Addr} {c sz b : Nat} {z : Option Value} {xs : List α} (h : Int) (hn : Nat) (hT : T.sz = sz) (ht : P.underlying t = some (.slice e)) (hs : szOf P e = some (sz, b, z)) (hx : ev Γ x = some (.slice a xs.length c)) (hh : ev Γ hi = some (.int kd h))
    (hij : h = ((hn : Nat) : Int)) (hle : hn ≤ xs.length) (hc : xs.length ≤ c) (k : K (.slice a (xs.take hn).length c) w) : Does P Γ w (.slice t x none (some hi) none) ty K := by
  subst hij hT
  have hlen : (xs.take hn).length = hn := by simp; omega
  rw [hlen] at k
  refine d_slice 0 (hn : Int) ht hs hx rfl (by simp [evO, hh]) (.inl ⟨rfl, rfl⟩) (.inr ⟨kd, rfl⟩) ⟨by omega, by omega, by omega⟩ ?_
  have e1 : subSlice (.slice a xs.length c) T.sz (0 : Int).toNat ((hn : Nat) : Int).toNat = .slice a hn c := by
    simp only [subSlice, Int.toNat_zero, Int.toNat_natCast, Nat.zero_mul, Nat.sub_zero]
    split
    · rfl
    · cases a <;> simp [Addr.add]
  rw [e1]
  exact k
end
end Go.Sx


/- Slices of things that hold slices: lists of parts, owned as one chunk, or read. -/
namespace Go.Sx
set_option linter.unusedVariables false
set_option linter.unusedSimpArgs false
/-- Many chunks, by a list. -/
def manyF {α : Type} (f : α → Chunk) (l : List α) : Chunk := many (l.map f)
theorem RdT.len {α : Type} {T : Ty α} {w : World} {a : Option Addr} {n c : Nat} {xs : List α} (h : RdT T w (.slice a n c) xs) : n = xs.length := by
  obtain ⟨A, cap, e, _⟩ := h
  cases e; rfl
theorem t_appendN {α : Type} {T : Ty α} {P : Program} {Γ : Env} {w : World} {ty : TypeId} {K : Value → World → Prop} {s x : Operand} {t e : TypeId} {sz b c cx n m : Nat} {z : Value} {a A : Option Addr} {xs ys : List α} (hT : T.sz = sz) (ht : P.underlying t = some (.slice e)) (hs : szOf P e = some (sz, b, some z)) (hzs : z.cells.size = sz)
    (hev : ev Γ s = some (.slice a n c)) (hx : ev Γ x = some (.slice A m cx)) (hn : n = xs.length) (ho : w.ownsRow 0 e T.sz (.slice a n c) xs.length (T.all xs)) (hr : RdT T w (.slice A m cx) ys) (hb : (xs.length + ys.length) * b ≤ 140737488355328) (h63 : xs.length + ys.length ≤ 9223372036854775807)
    (k : ∀ a' c' w', Upd w [rowT T (.slice a n c) e xs] w' [rowT T (.slice a' (xs ++ ys).length c') e (xs ++ ys)] → K (.slice a' (xs ++ ys).length c') w') : Does P Γ w (.call { callee := .builtin .append, args := #[s, x], argTypes := #[t, t] }) ty K := by
  subst hn
  have hm := hr.len
  subst hm
  exact t_append hT ht hs hzs hev hx ho hr hb h63 k
/-- What each of some things has inside. -/
structure Inn (σ α : Type) where
  T : Ty α
  e : TypeId
  A : σ → Option Addr
  C : σ → Nat
  X : σ → List α
  N : σ → Nat
section
variable {σ α : Type} {w w' : World} {L : List Chunk} {G : List (List Chunk)}
def Inn.row (I : Inn σ α) (p : σ) : Chunk := rowT I.T (.slice (I.A p) (I.N p) (I.C p)) I.e (I.X p)
def Inn.Rd (I : Inn σ α) (w : World) (ps : List σ) : Prop := ∀ p, p ∈ ps → RdT I.T w (.slice (I.A p) (I.N p) (I.C p)) (I.X p)
theorem Upd.manyNil {β : Type} (f : β → Chunk) (w : World) : Upd w [] w [manyF f []] :=
  ⟨⟨fun c hc => by simp only [List.mem_singleton] at hc; subst hc; exact Hp.nil w, by simp [ats, manyF, many]⟩, Keep.refl _ _, fun g hg => by simp [ats, manyF, many] at hg⟩
theorem hp_one {c : Chunk} (h : c.holds w) : Hp w [c] := ⟨fun c' hc => by simp only [List.mem_singleton] at hc; subst hc; exact h, by simpa [ats] using c.nd w h⟩
theorem manyF_add {β : Type} {f : β → Chunk} {l : List β} {p : β} {M : List Chunk} (h : Hp w (manyF f l :: f p :: M)) : Hp w (manyF f (l ++ [p]) :: M) := by
  have h1 := (hp_many (M := f p :: M)).1 h
  refine (hp_many (M := M)).2 ?_
  simpa using h1
theorem Upd.absorb {β : Type} {f : β → Chunk} {l : List β} {p : β} (h : Hp w [manyF f l, f p]) : Upd w [manyF f l, f p] w [manyF f (l ++ [p])] :=
  ⟨manyF_add h, Keep.refl _ _, fun g hg => .inl (by simpa [ats, manyF, many] using hg)⟩
theorem UpG.absorb {β : Type} {f : β → Chunk} {l : List β} (p : β) (h : UpG w L w' G) (i j : Nat) (hij : Nat.beq i j = false) (hi : G[i]? = some [manyF f l]) (hj : G[j]? = some [f p]) :
    UpG w L w' ((G.set i [manyF f (l ++ [p])]).set j [] ++ [[]]) :=
  h.on2 (A' := [manyF f (l ++ [p])]) (B' := []) (C := []) i j hij hi hj (Upd.absorb (h.hp2 i j hij hi hj))
theorem manyF_get {β : Type} {f : β → Chunk} {l : List β} {p : β} (h : Hp w [manyF f l]) (hp : p ∈ l) : (f p).holds w :=
  (h.holds (manyF f l) (by simp) : Hp w (l.map f)).holds _ (List.mem_map.2 ⟨p, hp, rfl⟩)
variable {I : Inn σ α} {ps qs : List σ}
theorem Inn.own (h : Hp w [manyF I.row ps]) : I.Rd w ps := fun p hp =>
  own_rd (row_own (v := .slice (I.A p) (I.N p) (I.C p)) (e := I.e) (sz := I.T.sz) (n := (I.X p).length) (vs := I.T.all (I.X p)) (manyF_get (f := I.row) h hp))
theorem Inn.Rd.kept (h : I.Rd w ps) (k : Keep [] w w') : I.Rd w' ps := fun p hp => (h p hp).kept k
theorem Inn.Rd.at (h : I.Rd w ps) (k : UpG w [] w' G) : I.Rd w' ps := fun p hp => (h p hp).at k
theorem Inn.Rd.get (h : I.Rd w ps) (d : σ) (k : Nat) (hk : k < ps.length) : RdT I.T w (.slice (I.A (ps.getD k d)) (I.N (ps.getD k d)) (I.C (ps.getD k d))) (I.X (ps.getD k d)) :=
  h _ (by simp [List.getD_eq_getElem?_getD, List.getElem?_eq_getElem hk])
theorem Inn.Rd.take (h : I.Rd w ps) (k : Nat) : I.Rd w (ps.take k) := fun p hp => h p (List.mem_of_mem_take hp)
theorem Inn.Rd.append (h : I.Rd w ps) (k : I.Rd w qs) : I.Rd w (ps ++ qs) := fun p hp => (List.mem_append.1 hp).elim (h p) (k p)
theorem Inn.Rd.nil (I : Inn σ α) (w : World) : I.Rd w [] := fun p hp => by simp at hp
theorem Inn.Rd.cons {p : σ} (h : RdT I.T w (.slice (I.A p) (I.N p) (I.C p)) (I.X p)) (k : I.Rd w ps) : I.Rd w (p :: ps) := fun q hq => by
  rcases List.mem_cons.1 hq with rfl | h1
  · exact h
  · exact k q h1
theorem getD_mem' {l : List σ} {d : σ} {k : Nat} (hk : k < l.length) : l.getD k d ∈ l := by simp [List.getD_eq_getElem?_getD, List.getElem?_eq_getElem hk]
end
end Go.Sx


/- Structs stored into rows of one's own; rows cleared from a place on. -/
namespace Go.Sx
set_option linter.unusedVariables false
set_option linter.unusedSimpArgs false
section
variable {P : Program} {Γ : Env} {w : World} {ty : TypeId} {K : Value → World → Prop} {α : Type} {T : Ty α}
/-- Cells stored into a row of one's own. -/
theorem own_setN {v : Value} {e : TypeId} {xs ys : List α} {us : List Value} {o : Nat} (ho : w.ownsRow 0 e T.sz v xs.length (T.all xs)) (h1 : us.all (·.oneCell') = true) (hlt : o + us.length ≤ xs.length * T.sz) (hpos : 0 < us.length)
    (hl : ys.length = xs.length) (hys : T.all ys = (T.all xs).take o ++ us ++ (T.all xs).drop (o + us.length)) :
    ∃ g cs cap, v = .slice (some ⟨g, 0, none⟩) xs.length cap ∧ w.heap[g]? = some (.cells cs e (0, 0)) ∧ o + us.length ≤ cs.size ∧
      Upd w [rowT T v e xs] (w.setRow g (cs.toList.take o ++ us ++ cs.toList.drop (o + us.length)).toArray) [rowT T v e ys] := by
  obtain ⟨k1, k2⟩ := ho
  rcases k2 with ⟨rfl, h0⟩ | ⟨g, cap, cur, rfl, _, h3, h4, h5, h6, h7⟩
  · rw [h0, Nat.zero_mul] at hlt; omega
  · have hsz : xs.length * T.sz ≤ cur.size := by rw [h6]; exact Nat.mul_le_mul_right _ h4
    have hos : o + us.length ≤ cur.size := Nat.le_trans hlt hsz
    refine ⟨g, cur, cap, rfl, h3, hos, ?_⟩
    have hu := Upd.setRow (cs' := (cur.toList.take o ++ us ++ cur.toList.drop (o + us.length)).toArray) h3
    have hbk := hu.hp.blk (g := g) (cs := (cur.toList.take o ++ us ++ cur.toList.drop (o + us.length)).toArray) (e := e) (by simp)
    refine ⟨⟨fun c hc => ?_, by simp [ats, rowT, row, Value.ownBlock]⟩, ?_, fun g' hg => .inl ?_⟩
    · simp only [List.mem_singleton] at hc; subst hc
      show World.ownsRow _ 0 e T.sz _ ys.length (T.all ys)
      rw [hl]
      refine ⟨by rw [T.all_length, hl], .inr ⟨g, cap, _, rfl, Nat.zero_le _, hbk, h4, h5, ?_, ?_⟩⟩
      · simp [← h6]; omega
      · rw [hys, ← h7]
        have a1 : (cur.toList.take (xs.length * T.sz)).take o = cur.toList.take o := by rw [List.take_take, Nat.min_eq_left (by omega)]
        have l1 : (cur.toList.take o).length = o := by simp; omega
        have a2 : (cur.toList.take (xs.length * T.sz)).drop (o + us.length) = (cur.toList.drop (o + us.length)).take (xs.length * T.sz - (o + us.length)) := by rw [List.drop_take]
        rw [a1, a2]
        simp only [List.toList_toArray]
        have l2 : (cur.toList.take o ++ us).length = o + us.length := by rw [List.length_append, l1]
        rw [List.take_append, List.take_of_length_le (by rw [l2]; exact hlt), l2]
    · have := hu.keep; simpa [ats, rowT, row, blk, Value.ownBlock] using this
    · simpa [ats, rowT, row, Value.ownBlock] using hg
/-- 's[i:]' of whatever, by its value alone. -/
theorem t_suffix {t e : TypeId} {x lo : Operand} {kd : IntKind} {a : Option Addr} {n c sz b : Nat} {z : Option Value} {l : Int} (i : Nat) (ht : P.underlying t = some (.slice e)) (hs : szOf P e = some (sz, b, z)) (hx : ev Γ x = some (.slice a n c)) (hl : ev Γ lo = some (.int kd l))
    (hij : l = ((i : Nat) : Int)) (hin : i ≤ n) (hc : n ≤ c) (k : K (subSlice (.slice a n c) sz i n) w) : Does P Γ w (.slice t x (some lo) none none) ty K := by
  subst hij
  refine d_slice (i : Int) (n : Int) ht hs hx (by simp [evO, hl]) rfl (.inr ⟨kd, rfl⟩) (.inl ⟨rfl, rfl⟩) ⟨by omega, by omega, by omega⟩ ?_
  simpa using k
theorem run_clear {t e cty : TypeId} {zv : Value} {g o n c : Nat} {cs : Array Value} {e' : TypeId} (ht : P.underlying t = some (.slice e)) (hz : ∀ w, (zeroValue e).run P w = .ok zv w) (hn : 0 < n) (hb : w.heap[g]? = some (.cells cs e' (0, 0)))
    (hle : o + (Builtin.zeroCells zv.cells n).toList.length ≤ cs.size) (h1 : (Builtin.zeroCells zv.cells n).toList.all (·.oneCell') = true) :
    (Builtin.clear_ #[t] cty #[.slice (some ⟨g, o, none⟩) n c]).run P w = .ok (.tuple #[]) (w.setRow g (cs.toList.take o ++ (Builtin.zeroCells zv.cells n).toList ++ cs.toList.drop (o + (Builtin.zeroCells zv.cells n).toList.length)).toArray) := by
  have := run_storeCells_at P g o e' (Builtin.zeroCells zv.cells n).toList 0 cs w hb (by rw [Nat.add_zero]; exact hle) (fun u hu => List.all_eq_true.1 h1 u hu)
  simp only [Nat.add_zero] at this
  obtain ⟨m, rfl⟩ : ∃ m, n = m + 1 := ⟨n - 1, by omega⟩
  simp [Builtin.clear_, run_underlying ht, hz, this]
theorem zeroCells_all {z : Value} {d : α} (hz : z.cells.toList = T.enc d) (n : Nat) : (Builtin.zeroCells z.cells n).toList = T.all (List.replicate n d) := by
  have hs : z.cells.size = T.sz := by rw [← Array.length_toList, hz, T.len]
  have e : Builtin.zeroCells z.cells n = madeCells z.cells (n * T.sz) := by unfold Builtin.zeroCells madeCells; rw [hs]
  rw [e]; exact madeCells_all hz n
/-- 'clear(s[i:])', s a row of one's own. -/
theorem t_clear {t e : TypeId} {x : Operand} {a : Option Addr} {c sz b : Nat} {z : Value} {xs : List α} (i : Nat) (d : α) (hT : T.sz = sz) (ht : P.underlying t = some (.slice e)) (hs : szOf P e = some (sz, b, some z)) (hz : z.cells.toList = T.enc d)
    (hx : ev Γ x = some (subSlice (.slice a xs.length c) sz i xs.length)) (ho : w.ownsRow 0 e T.sz (.slice a xs.length c) xs.length (T.all xs)) (hi : i ≤ xs.length)
    (k : ∀ w', Upd w [rowT T (.slice a xs.length c) e xs] w' [rowT T (.slice a xs.length c) e (xs.take i ++ List.replicate (xs.length - i) d)] → K (.tuple #[]) w') : Does P Γ w (.call { callee := .builtin .clear, args := #[x], argTypes := #[t] }) ty K := by
  subst hT
  have hl : (xs.take i ++ List.replicate (xs.length - i) d).length = xs.length := by simp; omega
  rcases Nat.eq_or_lt_of_le hi with he | hlt
  · have e1 : xs.take i ++ List.replicate (xs.length - i) d = xs := by rw [he]; simp
    rw [e1] at k
    refine Does.of_run (fun ρ hρ => ?_) (k w (Upd.refl (hp_one (own_row ho))))
    simp only [ex, execOp, resolve, invoke, builtin, Sem.run_bind, Sem.run_pure, Result.andThen_ok, List.map_toArray, List.map_cons, List.map_nil, hρ x _ hx]
    have : (Builtin.clear_ #[t] ty #[subSlice (.slice a xs.length c) T.sz i xs.length]).run P w = .ok (.tuple #[]) w := by
      simp only [subSlice, he, Nat.sub_self]
      cases (if c = xs.length then a else a.map (·.add (xs.length * T.sz))) <;> simp [Builtin.clear_, run_underlying ht]
    simp [this]
  · have hc : xs.length ≤ c := by
      rcases ho.2 with ⟨h1, h2⟩ | ⟨g, cap, cur, h1, _, _, h2, _⟩
      · omega
      · injection h1 with _ _ h1; omega
    have hzl := zeroCells_all (T := T) hz (xs.length - i)
    have hzn : (Builtin.zeroCells z.cells (xs.length - i)).toList.length = (xs.length - i) * T.sz := by rw [hzl, T.all_length]; simp
    have hone : (Builtin.zeroCells z.cells (xs.length - i)).toList.all (·.oneCell') = true := by rw [hzl, List.all_eq_true]; exact fun u hu => T.all_one _ u hu
    have hmul : i * T.sz + (xs.length - i) * T.sz = xs.length * T.sz := by rw [← Nat.add_mul]; congr 1; omega
    obtain ⟨g, cs, cap, hv, hb, hle, hu⟩ := own_setN (ys := xs.take i ++ List.replicate (xs.length - i) d) (us := (Builtin.zeroCells z.cells (xs.length - i)).toList) (o := i * T.sz) ho hone (by rw [hzn, hmul]; exact Nat.le_refl _) (by rw [hzn]; exact Nat.mul_pos (by omega) T.pos) hl (by
      rw [T.all_append, ← hzl, hzn, hmul]
      have e3 : T.all xs = T.all (xs.take i) ++ T.all (xs.drop i) := by rw [← T.all_append, List.take_append_drop]
      have e4 : (T.all (xs.take i)).length = i * T.sz := by rw [T.all_length, List.length_take, Nat.min_eq_left hi]
      have e5 : (T.all xs).drop (xs.length * T.sz) = [] := List.drop_of_length_le (by rw [T.all_length]; exact Nat.le_refl _)
      rw [e5, e3, ← e4, List.take_left]; simp)
    injection hv with ha _ _
    subst ha
    have e6 : subSlice (.slice (some ⟨g, 0, none⟩) xs.length c) T.sz i xs.length = .slice (some ⟨g, i * T.sz, none⟩) (xs.length - i) (c - i) := by
      simp only [subSlice]; rw [if_neg (by omega)]; simp [Addr.add]; exact fun h => h.symm
    rw [e6] at hx
    have hk := k _ (by rw [hl] at *; exact hu)
    refine Does.of_run (fun ρ hρ => ?_) hk
    simp only [ex, execOp, resolve, invoke, builtin, Sem.run_bind, Sem.run_pure, Result.andThen_ok, List.map_toArray, List.map_cons, List.map_nil, hρ x _ hx]
    rw [run_clear ht (fun w => run_zero hs) (by omega) hb hle hone]
    rfl
theorem t_clearN {t e : TypeId} {x : Operand} {a : Option Addr} {n c sz b : Nat} {z : Value} {xs : List α} (i : Nat) (d : α) (hT : T.sz = sz) (ht : P.underlying t = some (.slice e)) (hs : szOf P e = some (sz, b, some z)) (hz : z.cells.toList = T.enc d)
    (hx : ev Γ x = some (subSlice (.slice a n c) sz i n)) (ho : w.ownsRow 0 e T.sz (.slice a n c) xs.length (T.all xs)) (hn : n = xs.length) (hi : i ≤ n)
    (k : ∀ w', Upd w [rowT T (.slice a n c) e xs] w' [rowT T (.slice a n c) e (xs.take i ++ List.replicate (n - i) d)] → K (.tuple #[]) w') : Does P Γ w (.call { callee := .builtin .clear, args := #[x], argTypes := #[t] }) ty K := by
  subst hn; exact t_clear i d hT ht hs hz hx ho hi k
theorem t_popN {t e : TypeId} {x hi : Operand} {kd : IntKind} {a : Option Addr} {n c sz b : Nat} {z : Option Value} {xs : List α} (h : Int) (hn : Nat) (hT : T.sz = sz) (ht : P.underlying t = some (.slice e)) (hs : szOf P e = some (sz, b, z)) (hx : ev Γ x = some (.slice a n c)) (hh : ev Γ hi = some (.int kd h))
    (ho : w.ownsRow 0 e T.sz (.slice a n c) xs.length (T.all xs)) (hnn : n = xs.length) (hij : h = ((hn : Nat) : Int)) (hle : hn ≤ n) (k : ∀ w', Upd w [rowT T (.slice a n c) e xs] w' [rowT T (.slice a (xs.take hn).length c) e (xs.take hn)] → K (.slice a (xs.take hn).length c) w') : Does P Γ w (.slice t x none (some hi) none) ty K := by
  subst hnn; exact t_pop h hn hT ht hs hx hh ho hij hle k
theorem own_capN {a : Option Addr} {n c sz m : Nat} {e : TypeId} {vs : List Value} (h : w.ownsRow 0 e sz (.slice a n c) m vs) : n ≤ c := by
  rcases h.2 with ⟨h1, h2⟩ | ⟨g, cap, cur, h1, _, _, h2, _⟩
  · injection h1 with _ h1 _; omega
  · injection h1 with _ h3 h1; omega
theorem Inn.Rd.filter {σ β : Type} {I : Inn σ β} {ps : List σ} (h : I.Rd w ps) (q : σ → Bool) : I.Rd w (ps.filter q) := fun p hp => h p (List.mem_filter.1 hp).1
end
end Go.Sx


/- The shelf's words on rows of whole numbers, in those of chunks. -/
namespace Go.Sx
set_option linter.unusedVariables false
set_option linter.unusedSimpArgs false
open Go.Sort
section
variable {w : World} {k : IntKind} {e : TypeId}
theorem all_int (xs : List Int) : (tyI k).all xs = xs.map (Value.int k) := by
  induction xs with
  | nil => rfl
  | cons x xs ih => simp only [Ty.all, tyI, List.flatMap_cons, List.map_cons, List.singleton_append] at *; rw [ih]
theorem holds_own {g n c : Nat} {xs : List Int} (ho : w.ownsRow 0 e (tyI k).sz (.slice (some ⟨g, 0, none⟩) n c) xs.length ((tyI k).all xs)) : Holds (Value.int k) w g 0 xs.toArray ∧ g < w.heap.size := by
  have hrd := own_rd ho
  obtain ⟨h1, h2⟩ := ho
  rcases h2 with ⟨h, _⟩ | ⟨g', cap, cur, hv, h2, h3, h4, h5, h6, h7⟩
  · cases h
  · cases hv
    refine ⟨fun j hj => ?_, lt_of_obj h3⟩
    have hj' : j < xs.length := by simpa using hj
    obtain ⟨A, cap', he, _, _, hr⟩ := hrd
    cases he
    obtain ⟨ad, ha, hc⟩ := hr j (.int k xs[j]) (by rw [all_int]; simp [hj'])
    cases ha
    refine ⟨?_, by simp [World.frozen?, h3]⟩
    rw [add_off] at hc
    simp only [Nat.zero_add] at hc ⊢
    rw [hc]
    simp [hj']
theorem upd_put {g n c q : Nat} {os : Array Obj} {xs ys : List Int} (ho : w.ownsRow 0 e (tyI k).sz (.slice (some ⟨g, 0, none⟩) n c) xs.length ((tyI k).all xs)) (hl : ys.length = xs.length) :
    Upd w [rowT (tyI k) (.slice (some ⟨g, 0, none⟩) n c) e xs] (grow (putRow (Value.int k) (Sort.ahead w q) g 0 ys.toArray) os) [rowT (tyI k) (.slice (some ⟨g, 0, none⟩) n c) e ys] := by
  obtain ⟨h1, h2⟩ := ho
  rcases h2 with ⟨h, _⟩ | ⟨g', cap, cur, hv, h2, h3, h4, h5, h6, h7⟩
  · cases h
  · cases hv
    have hlt := lt_of_obj h3
    have hg : (grow (putRow (Value.int k) (Sort.ahead w q) g 0 ys.toArray) os).heap[g]? = some (.cells (putCells (Value.int k) 0 ys.toArray cur) e (0, 0)) := by
      simp only [grow, putRow, mapBlock, Sort.ahead]
      rw [Array.getElem?_append_left (by simpa using hlt), Array.getElem?_modify, if_pos rfl, h3]
      rfl
    have hsz : xs.length ≤ cur.size := by rw [h6]; simp only [tyI, Nat.mul_one]; exact h4
    refine ⟨⟨fun c' hc => ?_, by simp [ats, rowT, row, Value.ownBlock]⟩, ⟨rfl, rfl, rfl, by simp [grow, putRow, mapBlock, Sort.ahead], fun i hi hs => ?_⟩, fun g' hg' => .inl (by simpa [ats, rowT, row, Value.ownBlock] using hg')⟩
    · simp only [List.mem_singleton] at hc; subst hc
      show World.ownsRow _ 0 e (tyI k).sz _ ys.length ((tyI k).all ys)
      refine ⟨(tyI k).all_length ys, .inr ⟨g, c, putCells (Value.int k) 0 ys.toArray cur, by rw [hl], Nat.zero_le _, hg, by omega, h5, by simp [putCells, h6], ?_⟩⟩
      rw [all_int]
      simp only [tyI, Nat.mul_one]
      apply List.ext_getElem?
      intro j
      simp only [List.getElem?_take, putCells, Array.getElem?_toList, Array.getElem?_mapIdx, List.getElem?_map]
      by_cases hj : j < ys.length
      · have hj2 : j < cur.size := by omega
        simp [hj, hj2]
      · simp [hj, List.getElem?_eq_none (by omega : ys.length ≤ j)]
    · have hne : g ≠ i := by intro e'; subst e'; simp [ats, rowT, row, Value.ownBlock] at hs
      simp only [grow, putRow, mapBlock, Sort.ahead]
      rw [Array.getElem?_append_left (by simpa using hi), Array.getElem?_modify, if_neg hne]
theorem upd_take {α : Type} {T : Ty α} {L : List Chunk} {w' : World} {g n c j : Nat} {ys zs : List α} (h : Upd w L w' [rowT T (.slice (some ⟨g, 0, none⟩) n c) e ys]) (hj : j ≤ ys.length) (hz : ys.take j = zs) : Upd w L w' [rowT T (.slice (some ⟨g, 0, none⟩) zs.length c) e zs] := by
  subst hz
  have hlen : (ys.take j).length = j := by simp; omega
  have ho := row_own (h.hp.holds _ (List.mem_singleton.2 rfl))
  refine ⟨⟨fun c' hc => ?_, by simp [ats, rowT, row, Value.ownBlock]⟩, h.keep, fun g' hg => h.fresh g' (by simpa [ats, rowT, row, Value.ownBlock] using hg)⟩
  simp only [List.mem_singleton] at hc; subst hc
  show World.ownsRow _ 0 e T.sz _ (ys.take j).length (T.all (ys.take j))
  rcases ho.2 with ⟨h1, _⟩ | ⟨g', cap, cur, hv, h2, h3, h4, h5, h6, h7⟩
  · cases h1
  · cases hv
    refine ⟨T.all_length _, .inr ⟨g, c, cur, rfl, Nat.zero_le _, h3, by omega, h5, h6, ?_⟩⟩
    have e3 : T.all ys = T.all (ys.take j) ++ T.all (ys.drop j) := by rw [← T.all_append, List.take_append_drop]
    have e4 : (T.all (ys.take j)).length = (ys.take j).length * T.sz := T.all_length _
    have e5 : cur.toList.take ((ys.take j).length * T.sz) = (cur.toList.take (ys.length * T.sz)).take ((ys.take j).length * T.sz) := by rw [List.take_take, Nat.min_eq_left (Nat.mul_le_mul_right _ (by omega))]
    rw [e5, h7, e3, ← e4, List.take_left]
end
end Go.Sx


/- Rows that are read alone, owned; strings as bytes. -/
namespace Go.Sx
set_option linter.unusedVariables false
set_option linter.unusedSimpArgs false
section
variable {α : Type} {T : Ty α} {w w' : World} {L : List Chunk} {G : List (List Chunk)} {v : Value} {xs : List α}
theorem UpG.keep_step {w'' : World} {A : List Chunk} (h : UpG w [] w' G) (i : Nat) (hi : G[i]? = some A) (k : Keep (ats A) w' w'') : Keep [] w w'' :=
  h.keep0.step k fun g hg => .inr ((Upd.fresh h g ((mem_ats.2 (by
    obtain ⟨c, hc, hg'⟩ := mem_ats.1 hg
    exact ⟨c, List.mem_flatten.2 ⟨A, List.mem_of_getElem? hi, hc⟩, hg'⟩)))).resolve_left (by simp [ats]))
theorem UpG.blk_keep {w'' : World} {A : List Chunk} {g : Nat} {cs : Array Value} {e : TypeId} (h : UpG w L w' G) (i j : Nat) (hij : Nat.beq i j = false) (hi : G[i]? = some A) (hj : G[j]? = some [Sx.blk g cs e]) (k : Keep (ats A) w' w'') : w''.heap[g]? = some (.cells cs e (0, 0)) :=
  k.obj (h.blk j hj) fun hm => (h.hp2 i j hij hi hj).apart hm (by simp [ats, Sx.blk])
theorem UpG.rdT_keep {w'' : World} {A : List Chunk} {e : TypeId} (h : UpG w L w' G) (i j : Nat) (hij : Nat.beq i j = false) (hi : G[i]? = some A) (hj : G[j]? = some [rowT T v e xs]) (k : Keep (ats A) w' w'') : RdT T w'' v xs := by
  refine (h.rdT j hj).keep k fun g hg hm => (h.hp2 i j hij hi hj).apart hm ?_
  obtain ⟨A', cap, rfl, _⟩ := h.rdT j hj
  cases A' with
  | none => simp [Value.blk?] at hg
  | some ad => simp [Value.blk?] at hg; simp [ats, rowT, row, Value.ownBlock, hg]
end
section
variable {P : Program} {Γ : Env} {w : World} {ty : TypeId} {K : Value → World → Prop}
end
end Go.Sx


/- One of many rows taken in hand, and put back. -/
namespace Go.Sx
set_option linter.unusedVariables false
set_option linter.unusedSimpArgs false
section
variable {β : Type} {f : β → Chunk} {l : List β} {w w' : World} {L : List Chunk} {G : List (List Chunk)} {p : β} {i : Nat}
theorem erase_perm (hi : i < l.length) : (l[i] :: l.eraseIdx i).Perm l := by
  rw [List.eraseIdx_eq_take_drop_succ]
  have e : l = l.take i ++ l[i] :: l.drop (i + 1) := by rw [← List.drop_eq_getElem_cons hi, List.take_append_drop]
  refine List.perm_middle.symm.trans ?_
  rw [← e]
theorem set_perm (hi : i < l.length) (p : β) : (l.set i p).Perm (p :: l.eraseIdx i) := by
  rw [List.eraseIdx_eq_take_drop_succ, List.set_eq_take_append_cons_drop, if_pos hi]
  exact List.perm_middle
theorem many_out (d : β) (hi : i < l.length) (h : Hp w [manyF f l]) : Upd w [manyF f l] w [manyF f (l.eraseIdx i), f (l.getD i d)] := by
  have e : l.getD i d = l[i] := by simp [List.getD_eq_getElem?_getD, List.getElem?_eq_getElem hi]
  have hperm : (l.map f).Perm ((l.eraseIdx i).map f ++ [f l[i]]) := by
    have h1 := (erase_perm hi).symm.map f
    rw [List.map_cons] at h1
    exact h1.trans (List.perm_append_singleton _ _).symm
  have h1 : Hp w (l.map f ++ []) := hp_many.1 h
  rw [List.append_nil] at h1
  rw [e]
  refine ⟨hp_many.2 (h1.perm hperm), Keep.refl _ _, fun g hg => .inl ?_⟩
  have h2 : g ∈ ats ((l.eraseIdx i).map f ++ [f l[i]]) := by rw [← ats_many]; exact hg
  have h3 : g ∈ ats (l.map f) := (hperm.flatMap_right _).mem_iff.2 h2
  have h4 : ats [manyF f l] = ats (l.map f ++ []) := ats_many _ _
  rw [h4, List.append_nil]; exact h3
theorem many_in (hi : i < l.length) (h : Hp w [manyF f (l.eraseIdx i), f p]) : Upd w [manyF f (l.eraseIdx i), f p] w [manyF f (l.set i p)] := by
  have hperm : ((l.eraseIdx i).map f ++ [f p]).Perm ((l.set i p).map f) := by
    have h1 := (set_perm hi p).map f
    rw [List.map_cons] at h1
    exact (List.perm_append_singleton _ _).trans h1.symm
  have h1 := (hp_many.1 h).perm hperm
  refine ⟨?_, Keep.refl _ _, fun g hg => .inl ?_⟩
  · refine hp_many.2 ?_
    rw [List.append_nil]; exact h1
  · have h4 : ats [manyF f (l.set i p)] = ats ((l.set i p).map f ++ []) := ats_many _ _
    rw [h4, List.append_nil] at hg
    have h5 : g ∈ ats ((l.eraseIdx i).map f ++ [f p]) := (hperm.flatMap_right _).mem_iff.2 hg
    have h6 : ats [manyF f (l.eraseIdx i), f p] = ats ((l.eraseIdx i).map f ++ [f p]) := ats_many _ _
    rw [h6]; exact h5
theorem UpG.takeOut (d : β) (h : UpG w L w' G) (j i : Nat) (hj : G[j]? = some [manyF f l]) (hi : i < l.length) : UpG w L w' (G.set j [manyF f (l.eraseIdx i)] ++ [[f (l.getD i d)]]) :=
  h.onX (B := [manyF f (l.eraseIdx i)]) (C := [f (l.getD i d)]) j hj (many_out d hi (h.hpOf j hj))
theorem UpG.putBack (p : β) (h : UpG w L w' G) (j k i : Nat) (hjk : Nat.beq j k = false) (hj : G[j]? = some [manyF f (l.eraseIdx i)]) (hk : G[k]? = some [f p]) (hi : i < l.length) : UpG w L w' ((G.set j [manyF f (l.set i p)]).set k [] ++ [[]]) :=
  h.on2 (A' := [manyF f (l.set i p)]) (B' := []) (C := []) j k hjk hj hk (many_in hi (h.hp2 j k hjk hj hk))
end
/-- A row within a row: its header, and what it holds. -/
structure LR (α : Type) where
  a : Option Addr
  n : Nat
  c : Nat
  xs : List α
def tyLR {α : Type} : Ty (LR α) := ⟨1, fun p => [.slice p.a p.n p.c], fun _ => rfl, fun d u hu => by simp at hu; subst hu; rfl, by omega⟩
def lr0 {α : Type} : LR α := ⟨none, 0, 0, []⟩
def inLR {α : Type} (T : Ty α) (e : TypeId) : Inn (LR α) α := ⟨T, e, LR.a, LR.c, LR.xs, LR.n⟩
theorem Upd.manyRep {α : Type} (T : Ty α) (e : TypeId) (n : Nat) (w : World) : Upd w [] w [manyF (inLR T e).row (List.replicate n lr0)] := by
  have hats : ats ((List.replicate n lr0).map (inLR T e).row) = [] := by
    induction n with
    | zero => rfl
    | succ n ih => rw [List.replicate_succ, List.map_cons]; simp only [ats, List.flatMap_cons] at ih ⊢; rw [ih]; rfl
  have hh : Hp w ((List.replicate n lr0).map (inLR T e).row) := by
    refine ⟨fun c hc => ?_, by rw [hats]; simp⟩
    obtain ⟨p, hp, rfl⟩ := List.mem_map.1 hc
    have := List.eq_of_mem_replicate hp
    subst this
    exact ⟨by simp [Ty.all, inLR, lr0], .inl ⟨rfl, rfl⟩⟩
  have h2 : ats [manyF (inLR T e).row (List.replicate n lr0)] = [] := by
    have := ats_many ((List.replicate n lr0).map (inLR T e).row) []
    rw [List.append_nil, hats] at this; exact this
  exact ⟨hp_many.2 (by rw [List.append_nil]; exact hh), Keep.refl _ _, fun g hg => by rw [h2] at hg; simp at hg⟩
/-- An inner row turned: the outer one is as it was. -/
theorem rowT_recast {α : Type} {X : List (LR α)} {i : Nat} (hi : i < X.length) (v : Value) (e : TypeId) (ys : List α) :
    rowT tyLR v e (X.set i ⟨(X.getD i lr0).a, (X.getD i lr0).n, (X.getD i lr0).c, ys⟩) = rowT tyLR v e X := by
  have h1 : (tyLR : Ty (LR α)).all (X.set i ⟨(X.getD i lr0).a, (X.getD i lr0).n, (X.getD i lr0).c, ys⟩) = tyLR.all X := by
    have h2 := (tyLR : Ty (LR α)).all_set (X.getD i lr0) X i 0 ⟨(X.getD i lr0).a, (X.getD i lr0).n, (X.getD i lr0).c, ys⟩ (.slice (X.getD i lr0).a (X.getD i lr0).n (X.getD i lr0).c) hi (Nat.zero_lt_one) rfl
    rw [← h2]
    apply List.ext_getElem?
    intro m
    rw [List.getElem?_set]
    split
    · rename_i hm
      subst hm
      have h3 := (tyLR : Ty (LR α)).all_at lr0 X i 0 hi (Nat.zero_lt_one)
      rw [h3]
      split
      · rfl
      · rename_i h4; exact absurd (by rw [Ty.all_length]; show i * 1 + 0 < X.length * 1; omega) h4
    · rfl
  unfold rowT
  rw [h1, List.length_set]
theorem UpG.recast {α : Type} {w w' : World} {L : List Chunk} {G : List (List Chunk)} {X : List (LR α)} {v : Value} {e : TypeId} (ys : List α) (h : UpG w L w' G) (k i : Nat) (hk : G[k]? = some [rowT tyLR v e X]) (hi : i < X.length) :
    UpG w L w' (G.set k [rowT tyLR v e (X.set i ⟨(X.getD i lr0).a, (X.getD i lr0).n, (X.getD i lr0).c, ys⟩)]) := by
  rw [rowT_recast hi]
  have : G.set k [rowT tyLR v e X] = G := by
    apply List.ext_getElem?
    intro m
    rw [List.getElem?_set]
    split
    · rename_i hm; subst hm
      split
      · exact hk.symm
      · rename_i h4; rw [List.getElem?_eq_none (by omega)]
    · rfl
  rw [this]; exact h
end Go.Sx


/- Maps of one's own: made, looked up, written. -/
namespace Go.Sx
set_option linter.unusedVariables false
set_option linter.unusedSimpArgs false
open Go.MapKept
section
variable {κ ν : Type} [DecidableEq κ]
/-- The first place of a key. -/
def fndK (a : κ) : List κ → Nat → Option Nat
  | [], _ => none
  | x :: r, i => if a = x then some i else fndK a r (i + 1)
def getM : List (κ × ν) → κ → Option ν
  | [], _ => none
  | p :: r, a => if a = p.1 then some p.2 else getM r a
def putM : List (κ × ν) → κ → ν → List (κ × ν)
  | [], a, v => [(a, v)]
  | p :: r, a, v => if a = p.1 then (a, v) :: r else p :: putM r a v
theorem getM_put (m : List (κ × ν)) (a b : κ) (v : ν) : getM (putM m a v) b = if b = a then some v else getM m b := by
  induction m with
  | nil => simp [putM, getM]
  | cons p r ih =>
    unfold putM
    split
    · rename_i h
      subst h
      simp only [getM]
      split <;> rfl
    · rename_i h
      simp only [getM, ih]
      split
      · rename_i h2; subst h2; rw [if_neg (fun e => h e.symm)]
      · rfl
theorem getM_none {m : List (κ × ν)} {a : κ} : getM m a = none ↔ ∀ p, p ∈ m → p.1 ≠ a := by
  induction m with
  | nil => simp [getM]
  | cons p r ih =>
    simp only [getM]
    split
    · rename_i h; simp [h]
    · rename_i h
      rw [ih]
      simp only [List.mem_cons, forall_eq_or_imp]
      exact ⟨fun h2 => ⟨fun e => h e.symm, h2⟩, fun h2 => h2.2⟩
theorem putM_new {m : List (κ × ν)} {a : κ} {v : ν} (h : getM m a = none) : putM m a v = m ++ [(a, v)] := by
  induction m with
  | nil => rfl
  | cons p r ih =>
    simp only [getM] at h
    split at h
    · cases h
    · rename_i hne
      simp only [putM, if_neg hne, ih h, List.cons_append]
theorem fndK_spec (a : κ) : ∀ (l : List κ) (i : Nat), (fndK a l i = none ∧ a ∉ l) ∨ ∃ j, fndK a l i = some (i + j) ∧ l[j]? = some a ∧ ∀ q, q < j → l[q]? ≠ some a
  | [], i => .inl ⟨rfl, by simp⟩
  | x :: r, i => by
    unfold fndK
    by_cases h : a = x
    · rw [if_pos h]; exact .inr ⟨0, rfl, by simp [h], fun q hq => by omega⟩
    · rw [if_neg h]
      rcases fndK_spec a r (i + 1) with ⟨h1, h2⟩ | ⟨j, h1, h2, h3⟩
      · exact .inl ⟨h1, by simp [h, h2]⟩
      · refine .inr ⟨j + 1, by rw [h1]; congr 1; omega, by simpa using h2, fun q hq => ?_⟩
        cases q with
        | zero => simp; exact fun e => h e.symm
        | succ q => simpa using h3 q (by omega)
/-- What a key's type does. -/
structure KeyS (P : Program) (k : TypeId) (enc : κ → Value) : Prop where
  chk : ∀ (e : Bool) (a : κ) (w : World), (Instr.checkKey e 10000 k (enc a)).run P w = .ok () w
  find : ∀ (a : κ) (es : List MapEntry) (ks : List κ) (w : World), es.map (·.key) = ks.map enc →
    (Instr.findKey k (enc a) es).run P w = .ok ((fndK a ks 0).bind fun j => (es[j]?).map fun e => (j, e.val)) w
  bits : ∀ a, Instr.sameBits 10000 (enc a) (enc a) = true

theorem findNow_of {d : TypeDesc} {enc : κ → Value} (hs : ∀ a b, Instr.sameNow d (enc a) (enc b) = some (decide (a = b))) (a : κ) :
    ∀ (es : List MapEntry) (ks : List κ) (i : Nat), es.map (·.key) = ks.map enc → Instr.findNow d (enc a) es i = some ((fndK a ks i).bind fun j => (es[j - i]?).map fun e => (j, e.val))
  | [], [], i, _ => rfl
  | [], _ :: _, i, h => by simp at h
  | _ :: _, [], i, h => by simp at h
  | e :: es, x :: ks, i, h => by
    simp only [List.map_cons, List.cons.injEq] at h
    unfold Instr.findNow fndK
    rw [h.1, hs]
    by_cases hx : a = x
    · simp [hx]
    · rw [if_neg hx, decide_eq_false hx]
      simp only
      rw [findNow_of hs a es ks (i + 1) h.2]
      congr 1
      rcases fndK_spec a ks (i + 1) with ⟨h1, _⟩ | ⟨j, h1, h2, _⟩
      · rw [h1]; rfl
      · rw [h1]
        simp only [Option.bind_some]
        have e1 : i + 1 + j - (i + 1) = j := by omega
        have e2 : i + 1 + j - i = j + 1 := by omega
        rw [e1, e2]
        simp
theorem keyI {P : Program} {k : TypeId} {q : IntKind} (hk : P.underlying k = some (.int q)) : KeyS P k (fun a : Int => .int q a) where
  chk := fun e a w => run_checkKey (d := .int q) hk (by simp [IsKey]) e 9999
  find := fun a es ks w h => run_findKey hk (by
    have := findNow_of (d := .int q) (enc := fun a : Int => .int q a) (fun a b => by simp [Instr.sameNow]; rfl) a es ks 0 h
    simpa using this)
  bits := fun a => by simp [Instr.sameBits]
end
/-! ### Keys that are structs -/
section
variable {P : Program}
theorem chk_one {em : Bool} {n : Nat} {t : TypeId} {x y : Value} {w : World} (h : flatOne P t x y = true) : (Instr.checkKey em (n + 1) t x).run P w = .ok () w := by
  unfold flatOne at h
  split at h
  · rename_i hu; unfold Instr.checkKey; simp [run_underlying hu, Result.andThen]
  · rename_i hu; unfold Instr.checkKey; simp [run_underlying hu, Result.andThen]
  · rename_i hu; unfold Instr.checkKey; simp [run_underlying hu, Result.andThen]
  · cases h
theorem run_chkFlat {em : Bool} {n : Nat} {X : Array Value} : ∀ {fs : List Field} {i : Nat} {xs : List Value} (w : World), flatOk P i fs xs xs = true → (∀ j, j < xs.length → X[i + j]? = xs[j]?) →
    (forIn fs PUnit.unit fun f _ => (if f.name ≠ "_" then (do
      let v ← part f.type X f.offset
      Instr.checkKey em (n + 1) f.type v
      pure (ForInStep.yield PUnit.unit)) else pure (ForInStep.yield PUnit.unit) : Sem (ForInStep PUnit))).run P w = .ok PUnit.unit w
  | [], i, [], w, _, _ => by simp
  | f :: fs, i, x :: xs, w, h, hx => by
    simp only [flatOk, Bool.and_eq_true, bne_iff_ne, ne_eq] at h
    obtain ⟨⟨⟨hn, ho⟩, h1⟩, h2⟩ := h
    have ho := Nat.eq_of_beq_eq_true ho
    have ex := hx 0 (by simp)
    simp only [Nat.add_zero, List.getElem?_cons_zero] at ex
    obtain ⟨p1, _, _⟩ := run_flatOne (w := w) (d := 0) (o := f.offset) h1 (by rw [ho]; exact ex) (by rw [ho]; exact ex)
    have ih := run_chkFlat (em := em) (n := n) (X := X) w h2 (fun j hj => by have := hx (j + 1) (by simp; omega); rw [show i + 1 + j = i + (j + 1) by omega, this]; simp)
    have hc : (Instr.checkKey em (n + 1) f.type x).run P w = .ok () w := chk_one h1
    simp only [ne_eq] at ih
    simp only [List.forIn_cons, Sem.run_bind, ne_eq, hn, not_false_eq_true, if_true, p1, hc, Result.andThen_ok, Sem.run_pure, ih]
theorem run_findAsk {κ : Type} [DecidableEq κ] {k : TypeId} {enc : κ → Value} (heq : ∀ (a b : κ) (w : World), (Op.equal k (enc a) (enc b)).run P w = .ok (decide (a = b)) w) (a : κ) :
    ∀ (es : List MapEntry) (ks : List κ) (i : Nat) (w : World), es.map (·.key) = ks.map enc → (Instr.findAsking k (enc a) es i).run P w = .ok ((fndK a ks i).bind fun j => (es[j - i]?).map fun e => (j, e.val)) w
  | [], [], i, w, _ => by simp [Instr.findAsking, fndK]
  | [], _ :: _, i, w, h => by simp at h
  | _ :: _, [], i, w, h => by simp at h
  | e :: es, x :: ks, i, w, h => by
    simp only [List.map_cons, List.cons.injEq] at h
    unfold Instr.findAsking fndK
    rw [h.1]
    simp only [Sem.run_bind, heq, Result.andThen_ok]
    by_cases hx : a = x
    · simp [hx]
    · rw [if_neg hx, decide_eq_false hx]
      simp only [Bool.false_eq_true, if_false]
      rw [run_findAsk heq a es ks (i + 1) w h.2]
      congr 1
      rcases fndK_spec a ks (i + 1) with ⟨h1, _⟩ | ⟨j, h1, h2, _⟩
      · rw [h1]; rfl
      · rw [h1]
        simp only [Option.bind_some]
        have e1 : i + 1 + j - (i + 1) = j := by omega
        have e2 : i + 1 + j - i = j + 1 := by omega
        rw [e1, e2]
        simp
/-- a pair of whole numbers -/
def encP (p : Int × Int) : Value := .agg #[.int .i64 p.1, .int .i64 p.2]
theorem keyP {k : TypeId} (hu : P.underlying k = some (.struct (P.fieldsOf k))) (hp : P.stoodInHeld k = false)
    (hf : ∀ x y z u : Int, flatOk P 0 (P.fieldsOf k).toList [.int .i64 x, .int .i64 y] [.int .i64 z, .int .i64 u] = true) : KeyS P k encP where
  chk := fun e a w => by
    unfold Instr.checkKey
    simp only [Sem.run_bind, run_underlying hu, Result.andThen_ok, encP]
    rw [← Array.forIn_toList]
    have h1 := run_chkFlat (em := e) (n := 9998) (X := #[Value.int .i64 a.1, .int .i64 a.2]) w (hf a.1 a.2 a.1 a.2) (fun j hj => by simp)
    rw [h1]; simp
  find := fun a es ks w h => by
    have e1 := run_findKey_eq (P := P) (w := w) (k := k) (by simp [hu]) (encP a) es
    rw [e1]
    have := run_findAsk (P := P) (k := k) (enc := encP) (fun a b w => by
      have h1 := run_aggeq (w := w) hu hp (hf a.1 a.2 b.1 b.2)
      have h2 : cellsEq [Value.int .i64 a.1, .int .i64 a.2] [.int .i64 b.1, .int .i64 b.2] = decide (a = b) := by
        obtain ⟨a1, a2⟩ := a; obtain ⟨b1, b2⟩ := b
        simp [cellsEq, cellEq]
      rw [h2] at h1
      exact h1) a es ks 0 w h
    simpa using this
  bits := fun a => by simp [Instr.sameBits, encP]
end
/-- A map of one's own: its entries, in the order in which they came. -/
def mapC {κ ν : Type} (ek : κ → Value) (ev : ν → Value) (g : Nat) (m : List (κ × ν)) : Chunk :=
  ⟨[g], fun w => ∃ es clock, w.heap[g]? = some (.map es clock) ∧ es.toList.map (fun e => (e.key, e.val)) = m.map (fun p => (ek p.1, ev p.2)),
    fun w w' h k => by obtain ⟨es, c, h1, h2⟩ := k; exact ⟨es, c, (h g (by simp)).trans h1, h2⟩,
    fun w g' hg k => by obtain ⟨es, c, h1, _⟩ := k; simp at hg; subst hg; exact lt_of_obj h1, fun _ _ => by simp⟩
/-- What a map's block says. -/
def MapAt {κ ν : Type} (w : World) (ek : κ → Value) (evl : ν → Value) (g : Nat) (m : List (κ × ν)) : Prop := ∃ es clock, w.heap[g]? = some (.map es clock) ∧ es.toList.map (fun e => (e.key, e.val)) = m.map (fun p => (ek p.1, evl p.2))
section
variable {κ ν : Type} {P : Program} {Γ : Env} {w : World} {ty : TypeId} {K : Value → World → Prop} {ek : κ → Value} {evl : ν → Value}
theorem UpG.mapAt {w w' : World} {L : List Chunk} {G : List (List Chunk)} {g : Nat} {m : List (κ × ν)} (h : UpG w L w' G) (i : Nat) (hi : G[i]? = some [mapC ek evl g m]) :
    MapAt w' ek evl g m := (h.hpOf i hi).holds (mapC ek evl g m) (by simp)
theorem keys_of {m : List (κ × ν)} {es : Array MapEntry} (h : es.toList.map (fun e => (e.key, e.val)) = m.map (fun p => (ek p.1, evl p.2))) : es.toList.map (·.key) = (m.map Prod.fst).map ek := by
  have h2 := congrArg (List.map Prod.fst) h
  simpa [Function.comp_def] using h2
theorem d_lenM {x : Operand} {t k e : TypeId} {g : Nat} {m : List (κ × ν)} (ht : P.underlying t = some (.map k e)) (hx : ev Γ x = some (.map (some g)))
    (hm : MapAt w ek evl g m) (kk : K (.int .i64 ((m.length : Nat) : Int)) w) : Does P Γ w (.call { callee := .builtin .len, args := #[x], argTypes := #[t] }) ty K := by
  obtain ⟨es, clock, h1, h2⟩ := hm
  have hl : es.size = m.length := by have := congrArg List.length h2; simpa using this
  refine Does.of_run (w' := w) (fun ρ hρ => ?_) kk
  simp [ex, execOp, hρ x _ hx, resolve, invoke, builtin, Builtin.len_, run_underlying ht, Go.MapKept.run_getObj_map h1, goInt, hl, Result.andThen]
end
section
variable {κ ν : Type} [DecidableEq κ] {P : Program} {Γ : Env} {w : World} {ty : TypeId} {K : Value → World → Prop} {ek : κ → Value} {evl : ν → Value}
theorem d_makeMap {t : TypeId} {κ ν : Type} (ek : κ → Value) (evl : ν → Value) (k : ∀ w', Upd w [] w' [mapC ek evl w.heap.size []] → K (.map (some w.heap.size)) w') : Does P Γ w (.makeMap t none) ty K :=
  Does.of_run (w' := w.alloc (.map #[] 0)) (fun ρ hρ => by simp [ex, execOp, Go.RowKit.run_makeMap]) (k _ ⟨⟨fun c hc => by
    simp only [List.mem_singleton] at hc; subst hc; exact ⟨#[], 0, (heap_alloc w _).1, rfl⟩, by simp [ats, mapC]⟩,
    ⟨rfl, rfl, rfl, by show w.heap.size ≤ (w.heap.push _).size; simp, fun j hj _ => (heap_alloc w _).2 j hj⟩, fun g hg => .inr (by simp [ats, mapC] at hg; omega)⟩)
theorem d_makeMapR {t k e : TypeId} {x : Operand} {kd : IntKind} {i : Int} {κ ν : Type} (ek : κ → Value) (evl : ν → Value) (ht : P.underlying t = some (.map k e)) (hx : ev Γ x = some (.int kd i)) (kk : ∀ w', Upd w [] w' [mapC ek evl w.heap.size []] → K (.map (some w.heap.size)) w') : Does P Γ w (.makeMap t (some x)) ty K :=
  Does.of_run (w' := w.alloc (.map #[] 0)) (fun ρ hρ => by
    have h1 : (Instr.makeMap t (some (.int kd i))).run P w = .ok (.map (some w.heap.size)) (w.alloc (.map #[] 0)) := by
      unfold Instr.makeMap
      simp only [Sem.run_bind, run_underlying ht, Result.andThen_ok, asInt]
      rfl
    simp [ex, execOp, hρ x _ hx, h1]) (kk _ ⟨⟨fun c hc => by
    simp only [List.mem_singleton] at hc; subst hc; exact ⟨#[], 0, (heap_alloc w _).1, rfl⟩, by simp [ats, mapC]⟩,
    ⟨rfl, rfl, rfl, by show w.heap.size ≤ (w.heap.push _).size; simp, fun j hj _ => (heap_alloc w _).2 j hj⟩, fun g hg => .inr (by simp [ats, mapC] at hg; omega)⟩)
theorem getM_of {m : List (κ × ν)} {es : Array MapEntry} (a : κ) (h : es.toList.map (fun e => (e.key, e.val)) = m.map (fun p => (ek p.1, evl p.2))) :
    ((fndK a (m.map Prod.fst) 0).bind fun j => (es.toList[j]?).map fun e => (j, e.val)).map (fun x => x.2) = (getM m a).map evl := by
  have aux : ∀ (m : List (κ × ν)) (es : List MapEntry) (i : Nat), es.map (fun e => (e.key, e.val)) = m.map (fun p => (ek p.1, evl p.2)) →
      ((fndK a (m.map Prod.fst) i).bind fun j => (es[j - i]?).map fun e => (j, e.val)).map (fun x => x.2) = (getM m a).map evl := by
    intro m
    induction m with
    | nil => intro es i _; rfl
    | cons p r ih =>
      intro es i h
      match es, h with
      | e :: es, h =>
        simp only [List.map_cons, List.cons.injEq, Prod.mk.injEq] at h
        unfold getM
        simp only [List.map_cons]
        unfold fndK
        by_cases hx : a = p.1
        · simp [hx, h.1.2]
        · rw [if_neg hx, if_neg hx, ← ih es (i + 1) h.2]
          rcases fndK_spec a (r.map Prod.fst) (i + 1) with ⟨h1, _⟩ | ⟨j, h1, h2, _⟩
          · rw [h1]; rfl
          · rw [h1]
            simp only [Option.bind_some]
            have e1 : i + 1 + j - (i + 1) = j := by omega
            have e2 : i + 1 + j - i = j + 1 := by omega
            rw [e1, e2]; simp
  have := aux m es.toList 0 h
  simpa using this
theorem run_look {t k e : TypeId} {g : Nat} {m : List (κ × ν)} {a : κ} {s b : Nat} {d : ν} (ks : KeyS P k ek) (ht : P.underlying t = some (.map k e)) (hz : szOf P e = some (s, b, some (evl d)))
    (hm : MapAt w ek evl g m) (c : Bool) :
    (Instr.lookup t (.map (some g)) (ek a) c).run P w = .ok (if c then .tuple #[evl ((getM m a).getD d), .bool (getM m a).isSome] else evl ((getM m a).getD d)) w := by
  obtain ⟨es, clock, h1, h2⟩ := hm
  have h3 := getM_of a h2
  unfold Instr.lookup
  simp only [Sem.run_bind, run_underlying ht, Result.andThen, Go.MapKept.run_getObj_map h1, Sem.run_pure, ks.chk, ks.find a es.toList _ w (keys_of h2)]
  cases hf : (fndK a (m.map Prod.fst) 0).bind fun j => (es.toList[j]?).map fun e => (j, e.val) with
  | none =>
    rw [hf] at h3
    have hg : getM m a = none := by cases hgm : getM m a with
      | none => rfl
      | some v => rw [hgm] at h3; cases h3
    simp [hg, run_zero hz, Result.andThen]
  | some x =>
    rw [hf] at h3
    obtain ⟨v, hg, hv⟩ : ∃ v, getM m a = some v ∧ evl v = x.2 := by
      cases hgm : getM m a with
      | none => rw [hgm] at h3; cases h3
      | some v => rw [hgm] at h3; exact ⟨v, rfl, by simpa using h3.symm⟩
    obtain ⟨j, u⟩ := x
    simp only at hv
    simp [hg, hv, Result.andThen]
theorem d_look2 {t k e : TypeId} {x ix : Operand} {g : Nat} {m : List (κ × ν)} (a : κ) (d : ν) {s b : Nat} (ks : KeyS P k ek) (ht : P.underlying t = some (.map k e)) (hz : szOf P e = some (s, b, some (evl d))) (hx : ev Γ x = some (.map (some g))) (hi : ev Γ ix = some (ek a))
    (hm : MapAt w ek evl g m) (kk : K (.tuple #[evl ((getM m a).getD d), .bool (getM m a).isSome]) w) : Does P Γ w (.lookup t x ix true) ty K :=
  Does.of_run (fun ρ hρ => by have := run_look (a := a) ks ht hz hm true; simp [ex, execOp, hρ x _ hx, hρ ix _ hi, this]) kk
theorem d_look1 {t k e : TypeId} {x ix : Operand} {g : Nat} {m : List (κ × ν)} (a : κ) (d : ν) {s b : Nat} (ks : KeyS P k ek) (ht : P.underlying t = some (.map k e)) (hz : szOf P e = some (s, b, some (evl d))) (hx : ev Γ x = some (.map (some g))) (hi : ev Γ ix = some (ek a))
    (hm : MapAt w ek evl g m) (kk : K (evl ((getM m a).getD d)) w) : Does P Γ w (.lookup t x ix false) ty K :=
  Does.of_run (fun ρ hρ => by have := run_look (a := a) ks ht hz hm false; simp [ex, execOp, hρ x _ hx, hρ ix _ hi, this]) kk
theorem run_put {t k e : TypeId} {g : Nat} {m : List (κ × ν)} {a : κ} {v : ν} (ks : KeyS P k ek) (ht : P.underlying t = some (.map k e)) (hp : Hp w [mapC ek evl g m]) :
    ∃ w', (Instr.mapUpdate t (.map (some g)) (ek a) (evl v)).run P w = .ok () w' ∧ Upd w [mapC ek evl g m] w' [mapC ek evl g (putM m a v)] := by
  obtain ⟨es, clock, h1, h2⟩ := (hp.holds (mapC ek evl g m) (by simp) : (mapC ek evl g m).P w)
  have mk : ∀ es' clock', es'.toList.map (fun e => (e.key, e.val)) = (putM m a v).map (fun p => (ek p.1, evl p.2)) → Upd w [mapC ek evl g m] { w with heap := w.heap.setIfInBounds g (.map es' clock') } [mapC ek evl g (putM m a v)] := fun es' clock' h3 =>
    ⟨⟨fun c hc => by simp only [List.mem_singleton] at hc; subst hc; exact ⟨es', clock', (heap_set h1).1, h3⟩, by simp [ats, mapC]⟩,
      ⟨rfl, rfl, rfl, by simp, fun i hi hs => (heap_set h1).2 i (fun e => hs (by simp [ats, mapC, e]))⟩, fun g' hg => .inl (by simpa [ats, mapC] using hg)⟩
  unfold Instr.mapUpdate
  simp only [Sem.run_bind, run_underlying ht, Result.andThen, Go.MapKept.run_getObj_map h1, Sem.run_pure, ks.chk, ks.find a es.toList _ w (keys_of h2)]
  have hlen : es.toList.length = m.length := by have := congrArg List.length h2; simpa using this
  rcases fndK_spec a (m.map Prod.fst) 0 with ⟨hf, hn⟩ | ⟨j, hf, hj, hfirst⟩
  · rw [hf]
    refine ⟨_, by simp [Go.MapKept.run_setObj_map _ h1], mk (es.push { key := ek a, val := evl v, born := clock }) (clock + 1) ?_⟩
    have hg : getM m a = none := getM_none.2 fun p hp e => hn (List.mem_map.2 ⟨p, hp, e⟩)
    rw [putM_new hg]
    simp [h2]
  · rw [hf]
    have hjl : j < es.toList.length := by
      have := (List.getElem?_eq_some_iff.1 hj).1
      simp at this; omega
    have hjs : j < es.size := by simpa using hjl
    have hkey : es[j].key = ek a := by
      have h3 := congrArg (fun l => l[j]?) (keys_of h2)
      simp only [List.getElem?_map] at h3 hj
      rw [List.getElem?_eq_getElem hjl] at h3
      cases hmj : m[j]? with
      | none => rw [hmj] at hj; cases hj
      | some p =>
        rw [hmj] at h3 hj
        simp only [Option.map_some, Option.some.injEq] at h3 hj
        rw [← hj]; simpa using h3
    simp only [Nat.zero_add, Option.bind_some, List.getElem?_eq_getElem hjl, Option.map_some, Sem.run_bind, Result.andThen]
    have hst : (Instr.keyThatStays (((es[j]?).map (·.key)).getD (ek a)) (ek a)).run P w = .ok (ek a) w := by
      unfold Instr.keyThatStays
      rw [Array.getElem?_eq_getElem hjs]
      simp only [Option.map_some, Option.getD_some, hkey, ks.bits, if_true, Sem.run_pure]
    rw [hst]
    refine ⟨_, by simp [Go.MapKept.run_setObj_map _ h1], mk (es.modify j fun e => { key := ek a, val := evl v, born := e.born }) clock ?_⟩
    -- the entry at j is turned
    have hput : ∀ (m : List (κ × ν)) (j : Nat), (m.map Prod.fst)[j]? = some a → (∀ q, q < j → (m.map Prod.fst)[q]? ≠ some a) → putM m a v = m.set j (a, v) := by
      intro m
      induction m with
      | nil => intro j h; simp at h
      | cons p r ih =>
        intro j h hq
        unfold putM
        cases j with
        | zero => simp at h; rw [if_pos h.symm]; rfl
        | succ j =>
          have h0 := hq 0 (by omega)
          simp at h0
          rw [if_neg (fun e => h0 e.symm)]
          rw [ih j (by simpa using h) (fun q hq' => by simpa using hq (q + 1) (by omega))]
          rfl
    rw [hput m j hj hfirst, List.map_set, ← h2]
    apply List.ext_getElem?
    intro q
    simp only [List.getElem?_map, Array.getElem?_toList, Array.getElem?_modify, List.getElem?_set, List.length_map]
    by_cases hq : j = q
    · subst hq
      simp [hjs, hkey]
    · simp [hq]
theorem d_mapUpdate {t k e : TypeId} {x ix y : Operand} {g : Nat} {m : List (κ × ν)} (a : κ) (v : ν) (ks : KeyS P k ek) (ht : P.underlying t = some (.map k e)) (hx : ev Γ x = some (.map (some g))) (hi : ev Γ ix = some (ek a)) (hy : ev Γ y = some (evl v)) (hp : Hp w [mapC ek evl g m])
    (kk : ∀ w', Upd w [mapC ek evl g m] w' [mapC ek evl g (putM m a v)] → K undef w') : Does P Γ w (.mapUpdate t x ix y) ty K := by
  obtain ⟨w', h1, h2⟩ := run_put (a := a) (v := v) ks ht hp
  exact Does.of_skip (fun ρ hρ => by simp [ex, execOp, hρ x _ hx, hρ ix _ hi, hρ y _ hy, h1]) (kk w' h2)
theorem d_insert {t k e : TypeId} {x ix y : Operand} {g : Nat} {m : List (κ × ν)} (a : κ) (v : ν) (ks : KeyS P k ek) (ht : P.underlying t = some (.map k e)) (hx : ev Γ x = some (.map (some g))) (hi : ev Γ ix = some (ek a)) (hy : ev Γ y = some (evl v)) (hp : Hp w [mapC ek evl g m])
    (kk : ∀ w', Upd w [mapC ek evl g m] w' [mapC ek evl g (putM m a v)] → K undef w') : Does P Γ w (.insert t x ix y) ty K := by
  obtain ⟨w', h1, h2⟩ := run_put (a := a) (v := v) ks ht hp
  exact Does.of_skip (fun ρ hρ => by simp [ex, execOp, hρ x _ hx, hρ ix _ hi, hρ y _ hy, h1]) (kk w' h2)
end
end Go.Sx


/- Automata as data, more. -/
namespace Go.Sx
set_option linter.unusedVariables false
set_option linter.unusedSimpArgs false
theorem all_step {p : Nat → Prop} {k : Nat} (h : ∀ i, i < k → p i) (hk : p k) : ∀ i, i < k + 1 → p i := fun i hi => by
  rcases Nat.lt_or_ge i k with h1 | h1
  · exact h i h1
  · have : i = k := by omega
    subst this; exact hk
end Go.Sx


/- Proved here: when two automata are the same; the bytes of a part of a text. Conditions: those of each theorem. -/
namespace Go.Sx
set_option linter.unusedVariables false
set_option linter.unusedSimpArgs false
theorem list_eq_of {α : Type} {a b : List α} {d : α} (hl : a.length = b.length) (h : ∀ i, i < a.length → a.getD i d = b.getD i d) : a = b := by
  apply List.ext_getElem hl
  intro i h1 h2
  have := h i h1
  simpa [List.getD_eq_getElem?_getD, List.getElem?_eq_getElem h1, List.getElem?_eq_getElem h2] using this
def sameD (a b : DfaD) : Bool := decide (a.cls = b.cls ∧ a.width = b.width ∧ a.start = b.start ∧ a.next = b.next ∧ a.acc = b.acc)
theorem sameD_iff {a b : DfaD} : sameD a b = true ↔ a = b := by
  simp only [sameD, decide_eq_true_eq]
  constructor
  · rintro ⟨h1, h2, h3, h4, h5⟩
    cases a; cases b; simp_all
  · rintro rfl; simp
end Go.Sx


/- Bytes as strings; lists with each thing once, numbered as met. -/
namespace Go.Sx
set_option linter.unusedVariables false
set_option linter.unusedSimpArgs false
section
variable {P : Program} {Γ : Env} {w : World} {ty : TypeId} {K : Value → World → Prop}
end
/-- A field of an element that is a struct itself. -/
theorem t_loadFN {α : Type} {T : Ty α} {P : Program} {Γ : Env} {w : World} {ty : TypeId} {K : Value → World → Prop} {t : TypeId} {x : Operand} {v : Value} {xs : List α} {desc : TypeDesc} {off n s b : Nat} {z : Option Value} {us : List Value} (j : Nat) (d : α) (hT : T.sz = s) (hlt : Nat.ble (off + n) s = true) (hn : Nat.blt 0 n = true) (ht : P.underlying t = some desc) (hd : aggD desc = true) (hs : szOf P t = some (n, b, z))
    (hx : ev Γ x = some (elemPtr v (j * s + off))) (hr : RdT T w v xs) (hj : j < xs.length) (he : ((T.enc (xs.getD j d)).drop off).take n = us) (k : K (.agg us.toArray) w) : Does P Γ w (.load t x) ty K := by
  subst hT
  have hle := Nat.le_of_ble_eq_true hlt
  have hn' : 0 < n := of_eq_true (Eq.trans Nat.blt_eq.symm (eq_true hn))
  refine d_loadAR us ht hd hs hx hr ?_ hn' ?_ k
  · rw [← he, List.length_take, List.length_drop, T.len]; omega
  · rw [← he, ← T.all_part d xs j hj, ← List.drop_drop, List.drop_take, List.take_take, Nat.min_eq_left (by omega)]
theorem bn_t {b : Bool} (h : ¬ (!b) = true) : b = true := by cases b <;> simp_all
theorem bn_f {b : Bool} (h : (!b) = true) : ¬ b = true := by cases b <;> simp_all
/-- Each thing once, in the order in which they come. -/
def dd {α : Type} [DecidableEq α] (l : List α) : List α := l.foldl (fun acc x => if x ∈ acc then acc else acc ++ [x]) []
section
variable {α : Type} [DecidableEq α]
theorem dd_snoc (l : List α) (x : α) : dd (l ++ [x]) = if x ∈ dd l then dd l else dd l ++ [x] := by
  unfold dd; rw [List.foldl_append]; rfl
theorem dd_mem (l : List α) (x : α) : x ∈ dd l ↔ x ∈ l := by
  suffices h : ∀ r : List α, x ∈ dd r.reverse ↔ x ∈ r.reverse by simpa using h l.reverse
  intro r
  induction r with
  | nil => simp [dd]
  | cons y r ih =>
    rw [List.reverse_cons, dd_snoc]
    split
    · rename_i hy
      rw [ih]; simp only [List.mem_append, List.mem_singleton]
      constructor
      · exact .inl
      · rintro (h | rfl)
        · exact h
        · exact ih.1 hy
    · simp only [List.mem_append, List.mem_singleton, ih]
theorem dd_nodup (l : List α) : (dd l).Nodup := by
  suffices h : ∀ r : List α, (dd r.reverse).Nodup by simpa using h l.reverse
  intro r
  induction r with
  | nil => simp [dd]
  | cons y r ih =>
    rw [List.reverse_cons, dd_snoc]
    split
    · exact ih
    · rename_i hy
      exact List.nodup_append.2 ⟨ih, by simp, fun a ha b hb e => by simp at hb; subst hb; subst e; exact hy ha⟩
theorem dd_len (l : List α) : (dd l).length ≤ l.length := by
  suffices h : ∀ r : List α, (dd r.reverse).length ≤ r.reverse.length by simpa using h l.reverse
  intro r
  induction r with
  | nil => simp [dd]
  | cons y r ih =>
    rw [List.reverse_cons, dd_snoc]
    split
    · simp at ih ⊢; omega
    · simp at ih ⊢; omega
/-- What is met first keeps its place. -/
theorem dd_prefix (l m : List α) : ∃ r, dd (l ++ m) = dd l ++ r := by
  suffices h : ∀ m : List α, ∃ r, dd (l ++ m.reverse) = dd l ++ r by simpa using h m.reverse
  intro m
  induction m with
  | nil => exact ⟨[], by simp⟩
  | cons y m ih =>
    obtain ⟨r, hr⟩ := ih
    rw [List.reverse_cons, ← List.append_assoc, dd_snoc]
    split
    · exact ⟨r, hr⟩
    · exact ⟨r ++ [y], by rw [hr, List.append_assoc]⟩
/-- The first place of a thing. -/
def ix (x : α) : List α → Nat
  | [] => 0
  | y :: l => if x = y then 0 else ix x l + 1
theorem ix_lt {x : α} : ∀ {l : List α}, x ∈ l → ix x l < l.length
  | y :: l, h => by
    unfold ix
    split
    · simp
    · rename_i hne
      have := ix_lt (x := x) (l := l) (by simpa [hne] using h)
      simp; omega
theorem ix_get {x d : α} : ∀ {l : List α}, x ∈ l → l.getD (ix x l) d = x
  | y :: l, h => by
    unfold ix
    split
    · rename_i e; simp [e]
    · rename_i hne
      simpa using ix_get (x := x) (d := d) (l := l) (by simpa [hne] using h)
theorem ix_app {x : α} (r : List α) : ∀ {l : List α}, x ∈ l → ix x (l ++ r) = ix x l
  | y :: l, h => by
    simp only [List.cons_append, ix]
    split
    · rfl
    · rename_i hne
      rw [ix_app r (l := l) (by simpa [hne] using h)]
theorem ix_inj {x y : α} {l : List α} (hx : x ∈ l) (hy : y ∈ l) (h : ix x l = ix y l) : x = y := by
  have e1 := ix_get (d := x) hx
  have e2 := ix_get (d := x) hy
  rw [h] at e1; exact e1.symm.trans e2
theorem dd_idx (l m : List α) {x : α} (h : x ∈ dd l) : ix x (dd (l ++ m)) = ix x (dd l) := by
  obtain ⟨r, hr⟩ := dd_prefix l m
  rw [hr, ix_app r h]
/-- A map that tells each thing's place. -/
def nmap (l : List α) : List (α × Int) := (dd l).zipIdx.map fun p => (p.1, (p.2 : Int))
theorem nmap_len (l : List α) : (nmap l).length = (dd l).length := by simp [nmap]
theorem getM_zip : ∀ (l : List α) (i : Nat) (x : α), getM ((l.zipIdx i).map fun p => (p.1, (p.2 : Int))) x = if x ∈ l then some ((i + ix x l : Nat) : Int) else none
  | [], i, x => by simp [getM]
  | y :: l, i, x => by
    simp only [List.zipIdx_cons, List.map_cons, getM, getM_zip l (i + 1) x]
    by_cases h : x = y
    · subst h; simp [ix]
    · rw [if_neg h]
      by_cases hm : x ∈ l
      · rw [if_pos hm, if_pos (by simp [hm])]
        simp only [ix, if_neg h]
        congr 2; omega
      · rw [if_neg hm, if_neg (by simp [hm, h])]
theorem nmap_get (l : List α) (x : α) : getM (nmap l) x = if x ∈ l then some ((ix x (dd l) : Nat) : Int) else none := by
  have := getM_zip (dd l) 0 x
  simp only [dd_mem, Nat.zero_add] at this
  exact this
theorem nmap_old {l : List α} {x : α} (h : x ∈ l) : nmap (l ++ [x]) = nmap l := by
  simp only [nmap, dd_snoc]; rw [if_pos ((dd_mem l x).2 h)]
theorem nmap_new {l : List α} {x : α} (h : x ∉ l) : putM (nmap l) x (((nmap l).length : Nat) : Int) = nmap (l ++ [x]) := by
  have h2 : x ∉ dd l := fun hm => h ((dd_mem l x).1 hm)
  rw [putM_new (by rw [nmap_get, if_neg h]), nmap_len]
  simp [nmap, dd_snoc, h2, List.zipIdx_append]
/-- Each thing's number. -/
def numL (l : List α) : List Int := l.map fun x => ((ix x (dd l) : Nat) : Int)
end
end Go.Sx

