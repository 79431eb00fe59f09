/- The state of memory for walks: what a piece of code owns, what it keeps. -/
import Derived.WalkKit
import Derived.Maps.AppendAt
import Derived.Deep.Quiet
import Derived.Deep.LoopGhost
import Derived.KernelRfl
import Derived.Test.YtnjjjmpdikpjaabDoorProg
import Derived.Laws.StructEq
namespace Go.Sx
set_option linter.unusedVariables false
set_option linter.unusedSimpArgs false

/-- From w to w' nothing that was there has turned but the blocks of S; blocks may have come. -/
structure Keep (S : List Nat) (w w' : World) : Prop where
  os : w'.os = w.os
  tape : w'.tape = w.tape
  output : w'.output = w.output
  size : w.heap.size ≤ w'.heap.size
  block : ∀ k, k < w.heap.size → k ∉ S → w'.heap[k]? = w.heap[k]?

theorem Keep.refl (S : List Nat) (w : World) : Keep S w w := ⟨rfl, rfl, rfl, Nat.le_refl _, fun _ _ _ => rfl⟩
theorem Keep.trans {S : List Nat} {a b c : World} (h : Keep S a b) (k : Keep S b c) : Keep S a c :=
  ⟨k.os.trans h.os, k.tape.trans h.tape, k.output.trans h.output, Nat.le_trans h.size k.size,
    fun i hi hs => (k.block i (Nat.lt_of_lt_of_le hi h.size) hs).trans (h.block i hi hs)⟩
theorem Keep.step {S T : List Nat} {a b c : World} (h : Keep S a b) (k : Keep T b c) (hT : ∀ g, g ∈ T → g ∈ S ∨ a.heap.size ≤ g) : Keep S a c :=
  ⟨k.os.trans h.os, k.tape.trans h.tape, k.output.trans h.output, Nat.le_trans h.size k.size,
    fun i hi hs => (k.block i (Nat.lt_of_lt_of_le hi h.size) (fun hm => by rcases hT i hm with h1 | h1; exact hs h1; omega)).trans (h.block i hi hs)⟩
theorem Keep.mono {S T : List Nat} {a b : World} (h : Keep S a b) (hT : ∀ g, g ∈ S → g ∈ T) : Keep T a b :=
  ⟨h.os, h.tape, h.output, h.size, fun i hi hs => h.block i hi (fun hm => hs (hT i hm))⟩
theorem Keep.nil {S : List Nat} {a b : World} (h : Keep [] a b) : Keep S a b := h.mono (by simp)
theorem Keep.below {w w' : World} (h : Keep [] w w') : RowKit.Below w.heap.size w w' := ⟨h.os, h.tape, h.output, h.size, fun k hk => h.block k hk (by simp)⟩
theorem Keep.of_drawn (w : World) (n : Nat) : Keep [] w { w with drawn := n } := ⟨rfl, rfl, rfl, Nat.le_refl _, fun _ _ _ => rfl⟩
theorem Keep.cell {S : List Nat} {w w' : World} (h : Keep S w w') {a : Addr} {v : Value} (hc : w.cell? a = some v) (hS : a.block ∉ S) : w'.cell? a = some v := by
  rw [← hc]
  exact World.cell?_of_block (w := w) (h.block _ (World.block_lt_of_cell? w a hc) hS)
theorem lt_of_obj {w : World} {g : Nat} {o : Obj} (h : w.heap[g]? = some o) : g < w.heap.size := (Array.getElem?_eq_some_iff.1 h).1

/-- A piece of memory: at which blocks, and what of the world it says: that hangs on those blocks alone. -/
structure Chunk where
  bs : List Nat
  P : World → Prop
  loc : ∀ w w', (∀ g, g ∈ bs → w'.heap[g]? = w.heap[g]?) → P w → P w'
  lt : ∀ w g, g ∈ bs → P w → g < w.heap.size
  nd : ∀ w, P w → bs.Nodup

def Chunk.holds (w : World) (c : Chunk) : Prop := c.P w

def ats (L : List Chunk) : List Nat := L.flatMap Chunk.bs

theorem mem_ats {L : List Chunk} {g : Nat} : g ∈ ats L ↔ ∃ c, c ∈ L ∧ g ∈ c.bs := by simp [ats]
theorem ats_append (L M : List Chunk) : ats (L ++ M) = ats L ++ ats M := by simp [ats]

theorem sub_ats : ∀ {M L : List Chunk}, M.Sublist L → (ats M).Sublist (ats L)
  | _, _, .slnil => .slnil
  | _, _, .cons a h => (sub_ats h).trans (List.sublist_append_right _ _)
  | _, _, .cons_cons a h => (sub_ats h).append_left a.bs
/-- All of some chunks hold, no two at one block. -/
structure Hp (w : World) (L : List Chunk) : Prop where
  holds : ∀ c, c ∈ L → c.holds w
  nodup : (ats L).Nodup

theorem Hp.nil (w : World) : Hp w [] := ⟨by simp, by simp [ats]⟩
theorem Hp.lt {w : World} {L : List Chunk} (h : Hp w L) {g : Nat} (hg : g ∈ ats L) : g < w.heap.size := by
  obtain ⟨c, hc, e⟩ := mem_ats.1 hg
  exact c.lt w g e (h.holds c hc)
theorem Hp.perm {w : World} {L M : List Chunk} (h : Hp w L) (p : L.Perm M) : Hp w M :=
  ⟨fun c hc => h.holds c (p.mem_iff.2 hc), (List.Perm.nodup_iff (p.flatMap_right _)).1 h.nodup⟩
theorem Hp.left {w : World} {L M : List Chunk} (h : Hp w (L ++ M)) : Hp w L :=
  ⟨fun c hc => h.holds c (List.mem_append_left _ hc), by have := h.nodup; rw [ats_append] at this; exact (List.nodup_append.1 this).1⟩
theorem Hp.right {w : World} {L M : List Chunk} (h : Hp w (L ++ M)) : Hp w M :=
  ⟨fun c hc => h.holds c (List.mem_append_right _ hc), by have := h.nodup; rw [ats_append] at this; exact (List.nodup_append.1 this).2.1⟩
theorem Hp.apart {w : World} {L M : List Chunk} (h : Hp w (L ++ M)) {g : Nat} (h1 : g ∈ ats L) (h2 : g ∈ ats M) : False := by
  have := h.nodup; rw [ats_append] at this; exact (List.nodup_append.1 this).2.2 g h1 g h2 rfl
theorem Hp.keep {w w' : World} {L : List Chunk} {S : List Nat} (h : Hp w L) (k : Keep S w w') (hS : ∀ g, g ∈ ats L → g ∉ S) : Hp w' L := by
  refine ⟨fun c hc => c.loc w w' (fun g hg => ?_) (h.holds c hc), h.nodup⟩
  exact k.block g (c.lt w g hg (h.holds c hc)) (hS g (mem_ats.2 ⟨c, hc, hg⟩))
theorem Hp.append {w : World} {L M : List Chunk} (h : Hp w L) (k : Hp w M) (hd : ∀ g, g ∈ ats L → g ∉ ats M) : Hp w (L ++ M) := by
  refine ⟨fun c hc => ?_, ?_⟩
  · rcases List.mem_append.1 hc with h1 | h1
    · exact h.holds c h1
    · exact k.holds c h1
  · rw [ats_append]
    exact List.nodup_append.2 ⟨h.nodup, k.nodup, fun a ha b hb e => hd a ha (e ▸ hb)⟩

/-- From w, owning L, one has come to w', owning L'; all else is as it was. -/
structure Upd (w : World) (L : List Chunk) (w' : World) (L' : List Chunk) : Prop where
  hp : Hp w' L'
  keep : Keep (ats L) w w'
  fresh : ∀ g, g ∈ ats L' → g ∈ ats L ∨ w.heap.size ≤ g

theorem Upd.refl {w : World} {L : List Chunk} (h : Hp w L) : Upd w L w L := ⟨h, Keep.refl _ _, fun _ h => .inl h⟩
theorem Upd.nil (w : World) : Upd w [] w [] := Upd.refl (Hp.nil w)
theorem Upd.size {w w' : World} {L L' : List Chunk} (h : Upd w L w' L') : w.heap.size ≤ w'.heap.size := h.keep.size
/-- Owning less. -/
theorem Upd.drop {w w' : World} {L L' M : List Chunk} (h : Upd w L w' L') (hs : M.Sublist L') : Upd w L w' M :=
  ⟨⟨fun c hc => h.hp.holds c (hs.subset hc), (sub_ats hs).nodup h.hp.nodup⟩, h.keep, fun g hg => h.fresh g ((sub_ats hs).subset hg)⟩
theorem Upd.noneL {w w' : World} {L L' : List Chunk} (h : Upd w L w' L') : Upd w L w' [] := h.drop (List.nil_sublist _)
theorem Upd.perm {w w' : World} {L L' M : List Chunk} (h : Upd w L w' L') (p : L'.Perm M) : Upd w L w' M :=
  ⟨h.hp.perm p, h.keep, fun g hg => h.fresh g ((p.flatMap_right _).mem_iff.2 hg)⟩
/-- A draw, or whatever keeps all. -/
theorem Upd.kept {w w1 w2 : World} {L L' : List Chunk} (h : Upd w L w1 L') (k : Keep [] w1 w2) : Upd w L w2 L' :=
  ⟨h.hp.keep k (by simp), h.keep.step k (by simp), h.fresh⟩
/-- The rule of the frame: a part of what is owned is worked on. -/
theorem Upd.frame {w w1 w2 : World} {L A B M : List Chunk} (h : Upd w L w1 (A ++ M)) (k : Upd w1 A w2 B) : Upd w L w2 (B ++ M) := by
  have hM : Hp w2 M := h.hp.right.keep k.keep (fun g h2 h1 => h.hp.apart h1 h2)
  refine ⟨k.hp.append hM ?_, ?_, ?_⟩
  · intro g hb hm
    rcases k.fresh g hb with h1 | h1
    · exact h.hp.apart h1 hm
    · have := h.hp.right.lt hm; omega
  · refine h.keep.step k.keep ?_
    intro g hg
    exact h.fresh g (by rw [ats_append]; exact List.mem_append_left _ hg)
  · intro g hg
    rw [ats_append] at hg
    rcases List.mem_append.1 hg with h1 | h1
    · rcases k.fresh g h1 with h2 | h2
      · exact h.fresh g (by rw [ats_append]; exact List.mem_append_left _ h2)
      · exact .inr (Nat.le_trans h.size h2)
    · exact h.fresh g (by rw [ats_append]; exact List.mem_append_right _ h1)

/-- What is owned, group by group. -/
def UpG (w : World) (L : List Chunk) (w' : World) (G : List (List Chunk)) : Prop := Upd w L w' G.flatten

theorem perm_set {α : Type} : ∀ (G : List (List α)) (i : Nat) (A : List α), G[i]? = some A → G.flatten.Perm (A ++ (G.set i []).flatten)
  | [], i, A, h => by simp at h
  | B :: G, 0, A, h => by simp at h; subst h; simp
  | B :: G, i + 1, A, h => by
    simp only [List.flatten_cons, List.set_cons_succ]
    have ih := perm_set G i A (by simpa using h)
    exact (ih.append_left B).trans (by rw [← List.append_assoc, ← List.append_assoc]; exact (List.perm_append_comm).append_right _)
theorem perm_set' {α : Type} : ∀ (G : List (List α)) (i : Nat) (A B : List α), G[i]? = some A → (B ++ (G.set i []).flatten).Perm (G.set i B).flatten
  | [], i, A, B, h => by simp at h
  | C :: G, 0, A, B, h => by simp
  | C :: G, i + 1, A, B, h => by
    simp only [List.flatten_cons, List.set_cons_succ]
    have ih := perm_set' G i A B (by simpa using h)
    refine List.Perm.trans ?_ (ih.append_left C)
    rw [← List.append_assoc, ← List.append_assoc]; exact (List.perm_append_comm).append_right _

theorem UpG.nil (w : World) : UpG w [] w [] := Upd.nil w
theorem UpG.refl {w : World} {L : List Chunk} (h : Hp w L) : UpG w L w [L] := by unfold UpG; simpa using Upd.refl h
theorem UpG.size {w w' : World} {L : List Chunk} {G : List (List Chunk)} (h : UpG w L w' G) : w.heap.size ≤ w'.heap.size := h.keep.size
theorem UpG.kept {w w1 w2 : World} {L : List Chunk} {G : List (List Chunk)} (h : UpG w L w1 G) (k : Keep [] w1 w2) : UpG w L w2 G := Upd.kept h k
/-- Group i is worked on. -/
theorem UpG.on {w w1 w2 : World} {L : List Chunk} {G : List (List Chunk)} (h : UpG w L w1 G) (i : Nat) {A B : List Chunk} (hi : G[i]? = some A) (k : Upd w1 A w2 B) : UpG w L w2 (G.set i B) :=
  Upd.perm (Upd.frame (Upd.perm h (perm_set G i A hi)) k) (perm_set' G i A B hi)
/-- New memory comes. -/
theorem UpG.new {w w1 w2 : World} {L : List Chunk} {G : List (List Chunk)} (h : UpG w L w1 G) {B : List Chunk} (k : Upd w1 [] w2 B) : UpG w L w2 (B :: G) := by
  have := Upd.frame (A := []) (B := B) (M := G.flatten) h k
  simpa [UpG] using this
theorem UpG.new' {w w1 w2 : World} {L : List Chunk} {G : List (List Chunk)} (h : UpG w L w1 G) {B : List Chunk} (k : Upd w1 [] w2 B) : UpG w L w2 (G ++ [B]) := by
  refine Upd.perm (h.new k) ?_
  simp only [List.flatten_cons, List.flatten_append, List.flatten_nil, List.append_nil]
  exact List.perm_append_comm
/-- Nothing of what is owned is touched. -/
theorem UpG.call {w w1 w2 : World} {L : List Chunk} {G : List (List Chunk)} (h : UpG w L w1 G) (k : Upd w1 [] w2 []) : UpG w L w2 G := by
  have := Upd.frame (A := []) (B := []) (M := G.flatten) h k
  simpa [UpG] using this
theorem UpG.noneL {w w' : World} {L : List Chunk} {G : List (List Chunk)} (h : UpG w L w' G) : Upd w L w' [] := Upd.noneL h
theorem UpG.one {w w' : World} {L A : List Chunk} {G : List (List Chunk)} (h : UpG w L w' G) (i : Nat) (hi : G[i]? = some A) : Upd w L w' A :=
  Upd.drop h (List.sublist_flatten_of_mem (List.mem_of_getElem? hi))
theorem UpG.all {w w' : World} {L M : List Chunk} {G : List (List Chunk)} (h : UpG w L w' G) (e : G.flatten = M) : Upd w L w' M := e ▸ h
theorem UpG.of {w w' : World} {L M : List Chunk} {G : List (List Chunk)} (h : Upd w L w' M) (e : G.flatten = M) : UpG w L w' G := by unfold UpG; rw [e]; exact h
theorem UpG.keep {w w' : World} {L : List Chunk} {G : List (List Chunk)} (h : UpG w L w' G) : Keep (ats L) w w' := Upd.keep h
theorem UpG.keep0 {w w' : World} {G : List (List Chunk)} (h : UpG w [] w' G) : Keep [] w w' := Upd.keep h
theorem UpG.hpOf {w w' : World} {L A : List Chunk} {G : List (List Chunk)} (h : UpG w L w' G) (i : Nat) (hi : G[i]? = some A) : Hp w' A :=
  (Hp.perm (Upd.hp h) (perm_set G i A hi)).left

/-- A group is let go. -/
theorem UpG.drop {w w' : World} {L : List Chunk} {G : List (List Chunk)} (h : UpG w L w' G) (i : Nat) : UpG w L w' (G.set i []) := by
  cases hi : G[i]? with
  | none => rw [List.set_eq_of_length_le (by simpa using hi)]; exact h
  | some A => exact Upd.drop (Upd.perm h (perm_set G i A hi)) (List.sublist_append_right _ _)

/-! ### Blocks written out; rows -/

/-- A block, written out. -/
def blk (g : Nat) (cs : Array Value) (e : TypeId) : Chunk :=
  ⟨[g], fun w => w.heap[g]? = some (.cells cs e (0, 0)), fun w w' h k => (h g (by simp)).trans k, fun w g' hg k => by simp at hg; subst hg; exact lt_of_obj k, fun _ _ => by simp⟩
theorem own_local {v : Value} {e : TypeId} {sz n : Nat} {vs : List Value} (w w' : World) (h : ∀ g, g ∈ v.ownBlock.toList → w'.heap[g]? = w.heap[g]?) (k : w.ownsRow 0 e sz v n vs) : w'.ownsRow 0 e sz v n vs := by
  refine ⟨k.1, ?_⟩
  rcases k.2 with h1 | ⟨g, cap, cur, rfl, h2, h3, h4⟩
  · exact .inl h1
  · exact .inr ⟨g, cap, cur, rfl, h2, (h g (by simp [Value.ownBlock])).trans h3, h4⟩
theorem own_lt {v : Value} {e : TypeId} {sz n : Nat} {vs : List Value} (w : World) (g : Nat) (hg : g ∈ v.ownBlock.toList) (k : w.ownsRow 0 e sz v n vs) : g < w.heap.size := by
  rcases k.2 with ⟨rfl, _⟩ | ⟨g', cap, cur, rfl, h2, h3, h4⟩
  · simp [Value.ownBlock] at hg
  · simp [Value.ownBlock] at hg; subst hg; exact lt_of_obj h3
/-- A slice of one's own: its first n elements, sz cells each. -/
def row (v : Value) (e : TypeId) (sz n : Nat) (vs : List Value) : Chunk :=
  ⟨v.ownBlock.toList, fun w => w.ownsRow 0 e sz v n vs, own_local, own_lt, fun _ _ => by cases v.ownBlock <;> simp⟩

theorem Hp.blk {w : World} {g : Nat} {cs : Array Value} {e : TypeId} {L : List Chunk} (h : Hp w L) (hm : blk g cs e ∈ L) : w.heap[g]? = some (.cells cs e (0, 0)) := h.holds _ hm
theorem row_own {w : World} {v : Value} {e : TypeId} {sz n : Nat} {vs : List Value} (h : (row v e sz n vs).holds w) : w.ownsRow 0 e sz v n vs := h
theorem own_row {w : World} {v : Value} {e : TypeId} {sz n : Nat} {vs : List Value} (h : w.ownsRow 0 e sz v n vs) : (row v e sz n vs).holds w := h
/-- Many chunks as one. -/
def many (L : List Chunk) : Chunk := ⟨ats L, fun w => Hp w L,
  fun w w' h k => ⟨fun c hc => c.loc w w' (fun g hg => h g (mem_ats.2 ⟨c, hc, hg⟩)) (k.holds c hc), k.nodup⟩, fun w g hg k => k.lt hg, fun _ k => k.nodup⟩
theorem row_slice {w : World} {v : Value} {e : TypeId} {sz n : Nat} {vs : List Value} (h : w.ownsRow 0 e sz v n vs) : ∃ a c, v = .slice a n c := by
  rcases h.2 with ⟨rfl, rfl⟩ | ⟨g, cap, cur, rfl, _⟩
  · exact ⟨none, 0, rfl⟩
  · exact ⟨_, cap, rfl⟩

/-- A slice that is read: n elements of sz cells. -/
def Rd (w : World) (v : Value) (sz n : Nat) (vs : List Value) : Prop :=
  ∃ A cap, v = .slice A n cap ∧ vs.length = n * sz ∧ n ≤ 9223372036854775807 ∧ ∀ j u, vs[j]? = some u → ∃ ad, A = some ad ∧ w.cell? (ad.add j) = some u

theorem add_block (ad : Addr) (j : Nat) : (ad.add j).block = ad.block := by unfold Addr.add; split <;> rfl

/-- The block of a slice. -/
def Value.blk? : Value → Option Nat
  | .slice (some a) _ _ => some a.block
  | _ => none

theorem Rd.keep {w w' : World} {v : Value} {sz n : Nat} {vs : List Value} {S : List Nat} (h : Rd w v sz n vs) (k : Keep S w w') (hS : ∀ g, Value.blk? v = some g → g ∉ S) : Rd w' v sz n vs := by
  obtain ⟨A, cap, rfl, h1, h2, h3⟩ := h
  refine ⟨A, cap, rfl, h1, h2, fun j u hj => ?_⟩
  obtain ⟨ad, rfl, hc⟩ := h3 j u hj
  exact ⟨ad, rfl, k.cell hc (by rw [add_block]; exact hS _ rfl)⟩
theorem Rd.kept {w w' : World} {v : Value} {sz n : Nat} {vs : List Value} (h : Rd w v sz n vs) (k : Keep [] w w') : Rd w' v sz n vs := h.keep k (by simp)
theorem Rd.at {w w' : World} {v : Value} {sz n : Nat} {vs : List Value} {G : List (List Chunk)} (h : Rd w v sz n vs) (k : UpG w [] w' G) : Rd w' v sz n vs := h.keep k.keep (by simp [ats])
theorem Rd.len {w : World} {v : Value} {sz n : Nat} {vs : List Value} (h : Rd w v sz n vs) : vs.length = n * sz := by obtain ⟨_, _, _, h, _⟩ := h; exact h
theorem Rd.nil (w : World) (sz : Nat) (A : Option Addr) (cap : Nat) : Rd w (.slice A 0 cap) sz 0 [] := ⟨A, cap, rfl, by simp, by omega, by simp⟩

theorem own_rd {w : World} {b : Nat} {v : Value} {e : TypeId} {sz n : Nat} {vs : List Value} (h : w.ownsRow b e sz v n vs) : Rd w v sz n vs := by
  have h0 := h
  obtain ⟨h1, h2⟩ := h
  rcases h2 with ⟨rfl, rfl⟩ | ⟨g, cap, cur, rfl, _, h3, h4, h5, h6, h7⟩
  · exact ⟨none, 0, rfl, h1, by omega, fun j u hj => by
      have : j < vs.length := (List.getElem?_eq_some_iff.1 hj).1
      omega⟩
  · exact ⟨_, cap, rfl, h1, by simp only [maxLen] at h5; omega, fun j u hj => ⟨_, rfl, h0.cells (g := g) rfl j u hj⟩⟩

theorem UpG.own {w w' : World} {L : List Chunk} {G : List (List Chunk)} {v : Value} {e : TypeId} {sz n : Nat} {vs : List Value} (h : UpG w L w' G) (i : Nat) (hi : G[i]? = some [row v e sz n vs]) : w'.ownsRow 0 e sz v n vs :=
  row_own ((h.hpOf i hi).holds _ (by simp))
theorem UpG.rd {w w' : World} {L : List Chunk} {G : List (List Chunk)} {v : Value} {e : TypeId} {sz n : Nat} {vs : List Value} (h : UpG w L w' G) (i : Nat) (hi : G[i]? = some [row v e sz n vs]) : Rd w' v sz n vs :=
  own_rd (h.own i hi)
theorem UpG.blk {w w' : World} {L : List Chunk} {G : List (List Chunk)} {g : Nat} {cs : Array Value} {e : TypeId} (h : UpG w L w' G) (i : Nat) (hi : G[i]? = some [blk g cs e]) : w'.heap[g]? = some (.cells cs e (0, 0)) :=
  (h.hpOf i hi).blk (by simp)

/-- A new block. -/
theorem Upd.alloc (w : World) (cs : Array Value) (e : TypeId) : Upd w [] (w.alloc (.cells cs e)) [Sx.blk w.heap.size cs e] := by
  refine ⟨⟨fun c hc => ?_, by simp [ats, Sx.blk]⟩, ⟨rfl, rfl, rfl, by simp, fun k hk _ => RowKit.Below.heap_alloc w _ k hk⟩, fun g hg => ?_⟩
  · simp only [List.mem_singleton] at hc; subst hc
    exact heap_alloc_new w _
  · simp [ats, Sx.blk] at hg; omega
/-- A store into a block. -/
theorem Upd.setCell {w : World} {g : Nat} {cs : Array Value} {e : TypeId} (h : w.heap[g]? = some (.cells cs e (0, 0))) (off : Nat) (u : Value) :
    Upd w [Sx.blk g cs e] (w.setCell ⟨g, off, none⟩ u) [Sx.blk g (cs.setIfInBounds off u) e] := by
  have hlt := lt_of_obj h
  refine ⟨⟨fun c hc => ?_, by simp [ats, Sx.blk]⟩, ⟨rfl, rfl, rfl, by simp [World.setCell], fun k hk hs => ?_⟩, fun g' hg => ?_⟩
  · simp only [List.mem_singleton] at hc; subst hc
    show (w.setCell ⟨g, off, none⟩ u).heap[g]? = _
    simp [World.setCell, Array.getElem?_modify, h]
  · exact RowKit.Below.heap_setCell _ _ _ _ (by intro e'; subst e'; simp [ats, Sx.blk] at hs)
  · left; simpa [ats, Sx.blk] using hg
end Go.Sx


/- Walks over what is known of the slots: the judgements. -/
namespace Go.Sx
set_option linter.unusedVariables false
set_option linter.unusedSimpArgs false

abbrev Env := List (Nat × Value)
/-- What is known of a slot; the newest word counts. -/
def look : Env → Nat → Option Value
  | [], _ => none
  | (k, v) :: r, t => match Nat.beq k t with | true => some v | false => look r t

theorem look_cons_eq (k : Nat) (v : Value) (r : Env) : look ((k, v) :: r) k = some v := by simp [look]
theorem look_cons_ne {k t : Nat} (v : Value) (r : Env) (h : k ≠ t) : look ((k, v) :: r) t = look r t := by
  have : Nat.beq k t = false := by
    cases hb : Nat.beq k t
    · rfl
    · exact absurd (Nat.eq_of_beq_eq_true hb) h
  simp [look, this]

structure Agree (n : Nat) (a : Act) (Γ : Env) : Prop where
  size : a.tmps.size = n
  defers : a.defers = []
  slot : ∀ t v, look Γ t = some v → a.tmps.getD t undef = v

def ev (Γ : Env) : Operand → Option Value
  | .tmp t => look Γ t
  | .const v => some v
  | .global g => some (.pointer (some ⟨g, 0, none⟩))
  | .func f => some (.func (.func f) #[] #[])
def evs (Γ : Env) : List Operand → Option (List Value)
  | [] => some []
  | x :: r => match ev Γ x, evs Γ r with | some v, some l => some (v :: l) | _, _ => none

def AgR (ρ : Operand → Value) (Γ : Env) : Prop := ∀ x v, ev Γ x = some v → ρ x = v
theorem AgR.evs {ρ : Operand → Value} {Γ : Env} (h : AgR ρ Γ) : ∀ (l : List Operand) (vs : List Value), Sx.evs Γ l = some vs → l.map ρ = vs
  | [], vs, e => by simp [Sx.evs] at e; simp [e]
  | x :: r, vs, e => by
    simp only [Sx.evs] at e
    split at e
    · rename_i v l hv hl
      simp only [Option.some.injEq] at e
      subst e
      simp [h x v hv, h.evs r l hl]
    · cases e

theorem Agree.ev {n : Nat} {a : Act} {Γ : Env} (h : Agree n a Γ) : AgR a.eval Γ := by
  intro x v e
  cases x with
  | tmp t => exact h.slot t v e
  | const u => simpa [Sx.ev, Act.eval] using e
  | global g => simpa [Sx.ev, Act.eval] using e
  | func f => simpa [Sx.ev, Act.eval] using e

theorem Agree.put {n : Nat} {a : Act} {Γ : Env} (h : Agree n a Γ) {d : Nat} (hd : Nat.blt d n = true) (v : Value) : Agree n (a.put (some d) v) ((d, v) :: Γ) := by
  have hd' : d < a.tmps.size := by rw [h.size]; exact of_eq_true (Eq.trans Nat.blt_eq.symm (eq_true hd))
  refine ⟨by simp [Act.put, h.size], by simp [Act.put, h.defers], fun t u e => ?_⟩
  by_cases ht : d = t
  · subst ht
    rw [look_cons_eq] at e
    simp only [Option.some.injEq] at e
    subst e
    simp [Act.put, Array.getD_eq_getD_getElem?, hd']
  · rw [look_cons_ne v Γ ht] at e
    have := h.slot t u e
    simp only [Array.getD_eq_getD_getElem?] at this
    simp [Act.put, Array.getD_eq_getD_getElem?, ht, this]
theorem Agree.put0 {n : Nat} {a : Act} {Γ : Env} (h : Agree n a Γ) (v : Value) : Agree n (a.put none v) Γ := h

theorem Agree.sub {n : Nat} {a : Act} {Γ Γ' : Env} (h : Agree n a Γ) (hs : ∀ t v, look Γ' t = some v → look Γ t = some v) : Agree n a Γ' :=
  ⟨h.size, h.defers, fun t v e => h.slot t v (hs t v e)⟩

/-- Just these slots. -/
def pick (Γ : Env) : List Nat → Env
  | [] => []
  | t :: r => match look Γ t with | some v => (t, v) :: pick Γ r | none => pick Γ r
theorem look_pick (Γ : Env) : ∀ (ks : List Nat) (t : Nat) (v : Value), look (pick Γ ks) t = some v → look Γ t = some v
  | [], t, v, e => by simp [pick, look] at e
  | k :: ks, t, v, e => by
    simp only [pick] at e
    split at e
    · rename_i u hu
      by_cases hk : k = t
      · subst hk; rw [look_cons_eq] at e; rw [hu]; exact e
      · rw [look_cons_ne u _ hk] at e; exact look_pick Γ ks t v e
    · exact look_pick Γ ks t v e
theorem Agree.pick {n : Nat} {a : Act} {Γ : Env} (h : Agree n a Γ) (ks : List Nat) : Agree n a (pick Γ ks) := h.sub (look_pick Γ ks)

/-- An operation, by its kind and type alone. -/
def ex (ρ : Operand → Value) (op : Op) (ty : TypeId) : Sem Next := execOp ρ { dst := none, op, type := ty, pos := "", after := #[], guard := none }
theorem ex_eq (ρ : Operand → Value) (d : Option Tmp) (op : Op) (ty : TypeId) (pos : String) (after : Array Edge) (guard : Option (Nat × Bool)) :
    execOp ρ { dst := d, op, type := ty, pos, after, guard } = ex ρ op ty := rfl

def Ret (R : Value → World → Prop) : Ending → World → Prop := fun e w => ∃ v, e = .returned v ∧ R v w
theorem Ret.calls {P : Program} {f : FuncId} {args : Array Value} {w : World} {R R' : Value → World → Prop} (h : Calls P f args w (Ret R)) (k : ∀ v w', R v w' → R' v w') : Calls P f args w (Ret R') :=
  h.mono fun _ w' ⟨v, e, hr⟩ => ⟨v, e, k v w' hr⟩

/-- What an operation does, whatever else the slots hold. -/
def Does (P : Program) (Γ : Env) (w : World) (op : Op) (ty : TypeId) (K : Value → World → Prop) : Prop :=
  ∀ ρ, AgR ρ Γ → match (ex ρ op ty).run P w with
    | .ok (.value v) w' => K v w'
    | .ok .skip w' => K undef w'
    | .ok (.enter f args) w' => Calls P f args w' (Ret K)
    | _ => False
theorem Does.mono {P : Program} {Γ : Env} {w : World} {op : Op} {ty : TypeId} {K K' : Value → World → Prop} (h : Does P Γ w op ty K) (k : ∀ v w', K v w' → K' v w') : Does P Γ w op ty K' := by
  intro ρ hρ
  have := h ρ hρ
  split at this
  · exact k _ _ this
  · exact k _ _ this
  · exact Ret.calls this k
  · exact this.elim
theorem Does.of_run {P : Program} {Γ : Env} {w w' : World} {op : Op} {ty : TypeId} {K : Value → World → Prop} {v : Value} (h : ∀ ρ, AgR ρ Γ → (ex ρ op ty).run P w = .ok (.value v) w') (k : K v w') : Does P Γ w op ty K := by
  intro ρ hρ
  rw [h ρ hρ]
  exact k
theorem Does.of_skip {P : Program} {Γ : Env} {w w' : World} {op : Op} {ty : TypeId} {K : Value → World → Prop} (h : ∀ ρ, AgR ρ Γ → (ex ρ op ty).run P w = .ok .skip w') (k : K undef w') : Does P Γ w op ty K := by
  intro ρ hρ
  rw [h ρ hρ]
  exact k

theorem Does.wpR {P : Program} {Γ : Env} {w : World} {K : Value → World → Prop} {a : Act} {ρ : Operand → Value} {o : Oper} (h : Does P Γ w o.op o.type K) (hρ : AgR ρ Γ) (he : execOp a.eval o = execOp ρ o)
    {next : Act → World → Prop} {Q : Exit → Act → World → Prop} (k : ∀ v w', K v w' → next (a.put o.dst v) w') : Oper.wp P o a w next Q := by
  have := h ρ hρ
  unfold Oper.wp
  rw [he]
  cases o
  rw [ex_eq]
  split at this <;> rename_i hr <;> simp only [hr, Oper.upon]
  · exact k _ _ this
  · exact k _ _ this
  · exact this.mono fun e w' ⟨v, he, hv⟩ => by subst he; exact k v w' hv
  · exact this.elim
theorem Does.wp {P : Program} {Γ : Env} {w : World} {op : Op} {ty : TypeId} {K : Value → World → Prop} (h : Does P Γ w op ty K) {n : Nat} {a : Act} (ha : Agree n a Γ)
    {d : Option Tmp} {pos : String} {after : Array Edge} {guard : Option (Nat × Bool)} {next : Act → World → Prop} {Q : Exit → Act → World → Prop}
    (k : ∀ v w', K v w' → next (a.put d v) w') : Oper.wp P { dst := d, op, type := ty, pos, after, guard } a w next Q := by
  have := h a.eval ha.ev
  unfold Oper.wp
  rw [ex_eq]
  split at this <;> rename_i hr <;> simp only [hr, Oper.upon]
  · exact k _ _ this
  · exact k _ _ this
  · exact this.mono fun e w' ⟨v, he, hv⟩ => by subst he; exact k v w' hv
  · exact this.elim

section
variable (P : Program) (n : Nat)
def W (c : Code) (Q : Exit → Act → World → Prop) (Γ : Env) (w : World) : Prop := ∀ a, Agree n a Γ → c.wp P Q a w
def WL (ops : Array Oper) (Q : Exit → Act → World → Prop) (l : List Oper) (Γ : Env) (w : World) : Prop := ∀ a, Agree n a Γ → wpList P ops Q l a w
def X (Q : Exit → Act → World → Prop) (e : Exit) (Γ : Env) (w : World) : Prop := ∀ a, Agree n a Γ → Q e a w
end

section
variable {P : Program} {n : Nat} {ops : Array Oper} {Q : Exit → Act → World → Prop} {Γ : Env} {w : World} {rest : List Oper}

theorem WL.op {d : Nat} {op : Op} {ty : TypeId} {pos : String} {after : Array Edge} (hd : Nat.blt d n = true)
    (h : Does P Γ w op ty fun v w' => WL P n ops Q rest ((d, v) :: Γ) w') : WL P n ops Q ({ dst := some d, op, type := ty, pos, after, guard := none } :: rest) Γ w :=
  fun a ha => by
    unfold wpList
    rw [if_pos (by rfl)]
    exact .inl (h.wp ha fun v w' k => k _ (ha.put hd v))
theorem WL.op0 {op : Op} {ty : TypeId} {pos : String} {after : Array Edge}
    (h : Does P Γ w op ty fun _ w' => WL P n ops Q rest Γ w') : WL P n ops Q ({ dst := none, op, type := ty, pos, after, guard := none } :: rest) Γ w :=
  fun a ha => by
    unfold wpList
    rw [if_pos (by rfl)]
    exact .inl (h.wp ha fun v w' k => k _ (ha.put0 v))

theorem yielded_of {a : Act} (ha : Agree n a Γ) {j t : Nat} {b : Bool} (hj : (ops[j]?).bind (·.dst) = some t) (hv : look Γ t = some (.bool b)) : yielded ops a.tmps j = some b := by
  have h := ha.slot t _ hv
  rw [Array.getD_eq_getD_getElem?] at h
  unfold yielded
  rw [hj]
  simp only [Option.bind_some]
  cases hx : a.tmps[t]? with
  | none => rw [hx] at h; simp [undef] at h
  | some u => rw [hx] at h; simp at h; subst h; rfl
theorem wanted_of {a : Act} (ha : Agree n a Γ) {o : Oper} {j t : Nat} {want b : Bool} (hg : o.guard = some (j, want)) (hj : (ops[j]?).bind (·.dst) = some t) (hv : look Γ t = some (.bool b)) :
    Region.wanted o (yielded ops a.tmps) = (b == want) := by
  unfold Region.wanted
  rw [hg]
  simp only [yielded_of ha hj hv]
  cases b <;> cases want <;> rfl
theorem wanted_undef {a : Act} (ha : Agree n a Γ) {o : Oper} {j t : Nat} {want : Bool} (hg : o.guard = some (j, want)) (hj : (ops[j]?).bind (·.dst) = some t) (hv : look Γ t = some undef) :
    Region.wanted o (yielded ops a.tmps) = false := by
  have h := ha.slot t _ hv
  rw [Array.getD_eq_getD_getElem?] at h
  have : yielded ops a.tmps j = none := by
    unfold yielded
    rw [hj]
    simp only [Option.bind_some]
    cases hx : a.tmps[t]? with
    | none => rfl
    | some u => rw [hx] at h; simp at h; subst h; rfl
  unfold Region.wanted
  rw [hg]
  simp only [this]
  rfl
theorem WL.opU {d : Nat} {op : Op} {ty : TypeId} {pos : String} {after : Array Edge} {j t : Nat} {want : Bool} (hj : (ops[j]?).bind (·.dst) = some t) (hv : look Γ t = some undef) (hd : Nat.blt d n = true)
    (h : WL P n ops Q rest ((d, undef) :: Γ) w) : WL P n ops Q ({ dst := some d, op, type := ty, pos, after, guard := some (j, want) } :: rest) Γ w :=
  fun a ha => by
    unfold wpList
    rw [if_neg (by rw [wanted_undef ha rfl hj hv]; simp)]
    exact h _ (ha.put hd undef)
theorem WL.opG {d : Nat} {op : Op} {ty : TypeId} {pos : String} {after : Array Edge} {j t : Nat} {want : Bool} (hj : (ops[j]?).bind (·.dst) = some t) (hv : look Γ t = some (.bool want)) (hd : Nat.blt d n = true)
    (h : Does P Γ w op ty fun v w' => WL P n ops Q rest ((d, v) :: Γ) w') : WL P n ops Q ({ dst := some d, op, type := ty, pos, after, guard := some (j, want) } :: rest) Γ w :=
  fun a ha => by
    unfold wpList
    rw [if_pos (by rw [wanted_of ha rfl hj hv]; simp)]
    exact .inl (h.wp ha fun v w' k => k _ (ha.put hd v))
theorem WL.opN {d : Nat} {op : Op} {ty : TypeId} {pos : String} {after : Array Edge} {j t : Nat} {want b : Bool} (hj : (ops[j]?).bind (·.dst) = some t) (hv : look Γ t = some (.bool b)) (hb : (b == want) = false) (hd : Nat.blt d n = true)
    (h : WL P n ops Q rest ((d, undef) :: Γ) w) : WL P n ops Q ({ dst := some d, op, type := ty, pos, after, guard := some (j, want) } :: rest) Γ w :=
  fun a ha => by
    unfold wpList
    rw [if_neg (by rw [wanted_of ha rfl hj hv, hb]; simp)]
    exact h _ (ha.put hd undef)
theorem Agree.bool {a : Act} {t : Nat} {p : Prop} [Decidable p] (ha : Agree n a Γ) (ht : look Γ t = some (.bool (decide p))) {b : Bool} (hb : decide p = b) : Agree n a ((t, .bool b) :: Γ) :=
  ha.sub fun u v e => by
    by_cases hu : t = u
    · subst hu; rw [look_cons_eq] at e; rw [ht, hb]; exact e
    · rwa [look_cons_ne _ _ hu] at e
/-- The ways part at what a slot holds. -/
theorem WL.part {l : List Oper} (t : Nat) {p : Prop} [Decidable p] (ht : look Γ t = some (.bool (decide p))) (h1 : p → WL P n ops Q l ((t, .bool true) :: Γ) w) (h2 : ¬ p → WL P n ops Q l ((t, .bool false) :: Γ) w) : WL P n ops Q l Γ w :=
  fun a ha => by
    by_cases hp : p
    · exact h1 hp a (ha.bool ht (by simp [hp]))
    · exact h2 hp a (ha.bool ht (by simp [hp]))
theorem W.part {c : Code} (t : Nat) {p : Prop} [Decidable p] (ht : look Γ t = some (.bool (decide p))) (h1 : p → W P n c Q ((t, .bool true) :: Γ) w) (h2 : ¬ p → W P n c Q ((t, .bool false) :: Γ) w) : W P n c Q Γ w :=
  fun a ha => by
    by_cases hp : p
    · exact h1 hp a (ha.bool ht (by simp [hp]))
    · exact h2 hp a (ha.bool ht (by simp [hp]))
theorem WL.done (h : X n Q .normal Γ w) : WL P n ops Q [] Γ w := fun a ha => h a ha

theorem W.region {id : Nat} {l : List Oper} (h : WL P n l.toArray Q l Γ w) : W P n (.region id l.toArray false) Q Γ w := fun a ha => wp_region_lit (h a ha)
theorem W.seq {x y : Code} (h : W P n x (Exit.then (y.wp P Q) Q) Γ w) : W P n (.seq x y) Q Γ w := fun a ha => wp_seq (h a ha)
theorem W.skip (h : X n Q .normal Γ w) : W P n .skip Q Γ w := fun a ha => wp_skip (h a ha)
theorem W.ret (h : X n Q .ret Γ w) : W P n .ret Q Γ w := fun a ha => wp_ret (h a ha)
theorem W.exit {id : Nat} (h : X n Q (.exit id) Γ w) : W P n (.exit id) Q Γ w := fun a ha => wp_exit (h a ha)
theorem W.block {id : Nat} {c : Code} (h : W P n c (Exit.inBlock id Q) Γ w) : W P n (.block id c) Q Γ w := fun a ha => wp_block (h a ha)
theorem W.ift {c : Operand} {x y : Code} (hc : ev Γ c = some (.bool true)) (h : W P n x Q Γ w) : W P n (.cond c x y) Q Γ w := fun a ha => wp_cond_true (ha.ev _ _ hc) (h a ha)
theorem W.iff {c : Operand} {x y : Code} (hc : ev Γ c = some (.bool false)) (h : W P n y Q Γ w) : W P n (.cond c x y) Q Γ w := fun a ha => wp_cond_false (ha.ev _ _ hc) (h a ha)
theorem W.ite {c : Operand} {x y : Code} {p : Prop} [Decidable p] (hc : ev Γ c = some (.bool (decide p))) (h1 : p → W P n x Q Γ w) (h2 : ¬ p → W P n y Q Γ w) : W P n (.cond c x y) Q Γ w :=
  fun a ha => wp_cond_split (ha.ev _ _ hc) (fun h => h1 (of_decide_eq_true h) a ha) (fun h => h2 (of_decide_eq_false h) a ha)
/-- Just some slots are still wanted. -/
theorem W.pick {c : Code} (ks : List Nat) {Γ' : Env} (e : Sx.pick Γ ks = Γ') (h : W P n c Q Γ' w) : W P n c Q Γ w := fun a ha => h a (e ▸ ha.pick ks)
theorem X.pick {e : Exit} (ks : List Nat) {Γ' : Env} (he : Sx.pick Γ ks = Γ') (h : X n Q e Γ' w) : X n Q e Γ w := fun a ha => h a (he ▸ ha.pick ks)

/-- A loop: what holds at its head bears a number, which each round lowers. -/
theorem W.loop {c : Code} (I : Nat → Env → World → Prop) (m : Nat) (h0 : I m Γ w)
    (round : ∀ m Γ w, I m Γ w → W P n c (Exit.then (fun a' w' => ∃ m', m' < m ∧ ∃ Γ', Agree n a' Γ' ∧ I m' Γ' w') Q) Γ w) : W P n (.loop c) Q Γ w := by
  intro a ha
  refine wp_loop_ghost (fun k a w => ∃ Γ, Agree n a Γ ∧ I k Γ w) m ⟨Γ, ha, h0⟩ ?_
  rintro k a w ⟨Γ, ha, hI⟩
  exact round k Γ w hI a ha

theorem X.then_code {y : Code} (h : W P n y Q Γ w) : X n (Exit.then (y.wp P Q) Q) .normal Γ w := h
theorem X.then_ret {K : Act → World → Prop} (h : X n Q .ret Γ w) : X n (Exit.then K Q) .ret Γ w := h
theorem X.then_exit {K : Act → World → Prop} {id : Nat} (h : X n Q (.exit id) Γ w) : X n (Exit.then K Q) (.exit id) Γ w := h
theorem X.block_normal {id : Nat} (h : X n Q .normal Γ w) : X n (Exit.inBlock id Q) .normal Γ w := h
theorem X.block_ret {id : Nat} (h : X n Q .ret Γ w) : X n (Exit.inBlock id Q) .ret Γ w := h
theorem X.block_exit {id : Nat} (h : X n Q .normal Γ w) : X n (Exit.inBlock id Q) (.exit id) Γ w := fun a ha => by simpa [Exit.inBlock] using h a ha
/-- A round has come to its end. -/
theorem X.next {I : Nat → Env → World → Prop} {m : Nat} (ks : List Nat) {Γ' : Env} (he : Sx.pick Γ ks = Γ') (m' : Nat) (hm : m' < m) (h : I m' Γ' w) :
    X n (Exit.then (fun a' w' => ∃ m', m' < m ∧ ∃ Γ', Agree n a' Γ' ∧ I m' Γ' w') Q) .normal Γ w := fun _ ha => ⟨m', hm, Γ', he ▸ ha.pick ks, h⟩

/-- The ways meet: what holds behind a piece of code. -/
theorem W.cut {x y : Code} (I : Env → World → Prop) (h1 : W P n x (Exit.then (fun a' w' => ∃ Γ', Agree n a' Γ' ∧ I Γ' w') Q) Γ w) (h2 : ∀ Γ w, I Γ w → W P n y Q Γ w) : W P n (.seq x y) Q Γ w :=
  fun a ha => wp_seq (wp_mono (h1 a ha) fun e a' w' hq => by
    cases e with
    | normal => obtain ⟨Γ', hA, hI⟩ := hq; exact h2 Γ' w' hI a' hA
    | exit id => exact hq
    | goto l => exact hq
    | ret => exact hq
    | panic ch => exact hq
    | outgrown => exact hq)
theorem X.cut {I : Env → World → Prop} (ks : List Nat) {Γ' : Env} (he : Sx.pick Γ ks = Γ') (h : I Γ' w) : X n (Exit.then (fun a' w' => ∃ Γ', Agree n a' Γ' ∧ I Γ' w') Q) .normal Γ w :=
  fun _ ha => ⟨Γ', he ▸ ha.pick ks, h⟩
end

/-! ### The whole function -/
def zipEnv : Nat → List Value → Env
  | _, [] => []
  | k, v :: r => (k, v) :: zipEnv (k + 1) r
theorem look_zipEnv : ∀ (l : List Value) (k t : Nat) (v : Value), look (zipEnv k l) t = some v → k ≤ t ∧ l[t - k]? = some v
  | [], k, t, v, e => by simp [zipEnv, look] at e
  | u :: l, k, t, v, e => by
    by_cases h : k = t
    · subst h; simp only [zipEnv] at e; rw [look_cons_eq] at e; simpa using e
    · simp only [zipEnv] at e
      rw [look_cons_ne _ _ h] at e
      obtain ⟨h1, h2⟩ := look_zipEnv l (k + 1) t v e
      refine ⟨by omega, ?_⟩
      rw [show t - k = (t - (k + 1)) + 1 by omega]
      simpa using h2

theorem calls_of_W {P : Program} {f : FuncId} {fn : Func} {c : Code} {args : List Value} {w : World} {R : Value → World → Prop} {m : Nat}
    (hf : P.funcs[f]? = some fn) (hb : fn.body = some c) (hm : fn.ntmps = m) (hl : Nat.ble args.length m = true) (h : W P m c (bodyPost P fn (Ret R)) (zipEnv 0 args) w) : Calls P f args.toArray w (Ret R) := by
  refine calls_of_wp hf hb (h _ ⟨?_, rfl, ?_⟩)
  · have := Nat.le_of_ble_eq_true hl
    simp [hm]; omega
  · intro t v e
    obtain ⟨_, h2⟩ := look_zipEnv args 0 t v e
    simp only [Nat.sub_zero] at h2
    have hlt : t < args.length := (List.getElem?_eq_some_iff.1 h2).1
    rw [Array.getD_eq_getD_getElem?, Array.getElem?_append_left (by simpa using hlt)]
    simp [h2]

theorem X.ret1 {P : Program} {fn : Func} {n : Nat} {Γ : Env} {w : World} {R : Value → World → Prop} {t : Nat} (hr : fn.results = #[.tmp t]) {v : Value} (hv : look Γ t = some v) (h : R v w) : X n (bodyPost P fn (Ret R)) .ret Γ w :=
  fun a ha => bodyPost_ret (results_tmp hr _ _ _) ha.defers ⟨_, rfl, by rw [ha.slot t v hv]; exact h⟩
theorem X.ret2 {P : Program} {fn : Func} {n : Nat} {Γ : Env} {w : World} {R : Value → World → Prop} {t u : Nat} (hr : fn.results = #[.tmp t, .tmp u]) {v1 v2 : Value} (h1 : look Γ t = some v1) (h2 : look Γ u = some v2) (h : R (.tuple #[v1, v2]) w) : X n (bodyPost P fn (Ret R)) .ret Γ w :=
  fun a ha => bodyPost_ret (results_tmp2 hr _ _ _) ha.defers ⟨_, rfl, by rw [ha.slot t v1 h1, ha.slot u v2 h2]; exact h⟩
theorem X.ret3 {P : Program} {fn : Func} {n : Nat} {Γ : Env} {w : World} {R : Value → World → Prop} {t u s : Nat} (hr : fn.results = #[.tmp t, .tmp u, .tmp s]) {v1 v2 v3 : Value} (h1 : look Γ t = some v1) (h2 : look Γ u = some v2) (h3 : look Γ s = some v3) (h : R (.tuple #[v1, v2, v3]) w) : X n (bodyPost P fn (Ret R)) .ret Γ w :=
  fun a ha => bodyPost_ret (v := .tuple #[v1, v2, v3]) (by simp only [results, hr]; have e1 := ha.slot t v1 h1; have e2 := ha.slot u v2 h2; have e3 := ha.slot s v3 h3; simp only [Array.getD_eq_getD_getElem?] at e1 e2 e3; simp [e1, e2, e3]) ha.defers ⟨_, rfl, h⟩
end Go.Sx


/- Walks over what is known of the slots: what the operations do. -/
namespace Go.Sx
set_option linter.unusedVariables false
set_option linter.unusedSimpArgs false

/-! ### Types, by the program's tables -/
def aggD : TypeDesc → Bool | .struct _ | .array _ _ => true | _ => false
def szOf (P : Program) (t : TypeId) : Option (Nat × Nat × Option Value) := (P.info? t).map fun i => (i.size, i.bytes, i.zero)
def fldOf (P : Program) (t : TypeId) (f : Nat) : Option (Nat × Nat × Bool) :=
  match P.underlying t with
  | some (.struct fs) => match fs[f]? with
    | some fd => match P.info? fd.type, P.underlying fd.type with
      | some i, some d => some (fd.offset, i.size, aggD d)
      | _, _ => none
    | none => none
  | _ => none

section
variable {P : Program} {w : World} {t : TypeId}
theorem szOf_info {s b : Nat} {z : Option Value} (h : szOf P t = some (s, b, z)) : ∃ i, P.info? t = some i ∧ i.size = s ∧ i.bytes = b ∧ i.zero = z := by
  unfold szOf at h
  cases hi : P.info? t with
  | none => rw [hi] at h; simp at h
  | some i => rw [hi] at h; simp at h; exact ⟨i, rfl, h.1, h.2.1, h.2.2⟩
theorem run_sz {s b : Nat} {z : Option Value} (h : szOf P t = some (s, b, z)) : (sizeOf t).run P w = .ok s w := by
  obtain ⟨i, hi, rfl, _, _⟩ := szOf_info h
  simp [sizeOf, typeInfo, hi]
theorem run_zero {s b : Nat} {z : Value} (h : szOf P t = some (s, b, some z)) : (zeroValue t).run P w = .ok z w := by
  obtain ⟨i, hi, _, _, hz⟩ := szOf_info h
  simp [zeroValue, typeInfo, hi, hz]
theorem run_isAgg {d : TypeDesc} (h : P.underlying t = some d) : (isAgg t).run P w = .ok (aggD d) w := by
  unfold isAgg
  simp only [Sem.run_bind, run_underlying h, Result.andThen_ok]
  cases d <;> rfl
end

section
variable {P : Program} {Γ : Env} {w : World} {ty : TypeId} {K : Value → World → Prop}

/-! ### Slots -/
theorem d_move {x : Operand} {v : Value} (hx : ev Γ x = some v) (k : K v w) : Does P Γ w (.move x) ty K :=
  Does.of_run (fun ρ hρ => by simp [ex, execOp, hρ x v hx]) k
theorem d_assign {x : Operand} {v : Value} (hx : ev Γ x = some v) (k : K v w) : Does P Γ w (.assign x) ty K :=
  Does.of_run (fun ρ hρ => by simp [ex, execOp, hρ x v hx]) k
theorem d_nilCheck {x : Operand} {ad : Addr} (hx : ev Γ x = some (.pointer (some ad))) (k : K (.pointer (some ad)) w) : Does P Γ w (.nilCheck x) ty K :=
  Does.of_run (fun ρ hρ => by simp [ex, execOp, hρ x _ hx]) k
theorem d_pick {c x y : Operand} {b : Bool} {v : Value} (hc : ev Γ c = some (.bool b)) (hv : (match b with | true => ev Γ x | false => ev Γ y) = some v) (k : K v w) : Does P Γ w (.pick c x y) ty K :=
  Does.of_run (fun ρ hρ => by
    cases b
    · simp [ex, execOp, hρ c _ hc, hρ y _ hv, asBool]
    · simp [ex, execOp, hρ c _ hc, hρ x _ hv, asBool]) k
theorem d_extract {x : Operand} {i : Nat} {vs : Array Value} {v : Value} (hx : ev Γ x = some (.tuple vs)) (hv : vs[i]? = some v) (k : K v w) : Does P Γ w (.extract x i) ty K :=
  Does.of_run (fun ρ hρ => by simp [ex, execOp, hρ x _ hx, Instr.extract, hv]) k

/-! ### Addresses, loads, stores -/
theorem d_load {t : TypeId} {x : Operand} {ad : Addr} {d : TypeDesc} {v : Value} (ht : P.underlying t = some d) (hd : aggD d = false) (hx : ev Γ x = some (.pointer (some ad))) (hc : w.cell? ad = some v) (k : K v w) : Does P Γ w (.load t x) ty K :=
  Does.of_run (fun ρ hρ => by
    simp only [ex, execOp, hρ x _ hx, Instr.loadAt, Instr.sureAddr, loadVar]
    simp [run_isAgg ht, hd, load, Sem.run, hc]) k
theorem cells_of_blk {g : Nat} {cs : Array Value} {e : TypeId} (h : w.heap[g]? = some (.cells cs e (0, 0))) (off : Nat) : w.cell? ⟨g, off, none⟩ = cs[off]? := by simp [World.cell?, h]
theorem d_loadB {t : TypeId} {x : Operand} {g off : Nat} {cs : Array Value} {e : TypeId} {d : TypeDesc} {v : Value} (ht : P.underlying t = some d) (hd : aggD d = false) (hx : ev Γ x = some (.pointer (some ⟨g, off, none⟩)))
    (hb : w.heap[g]? = some (.cells cs e (0, 0))) (hv : cs[off]? = some v) (k : K v w) : Does P Γ w (.load t x) ty K :=
  d_load ht hd hx (by rw [cells_of_blk hb]; exact hv) k
theorem d_loadA {t : TypeId} {x : Operand} {ad : Addr} {d : TypeDesc} {s b : Nat} {z : Option Value} {cs : List Value} (ht : P.underlying t = some d) (hd : aggD d = true) (hs : szOf P t = some (s, b, z)) (hx : ev Γ x = some (.pointer (some ad)))
    (hl : cs.length = s) (hc : ∀ j u, cs[j]? = some u → w.cell? (ad.add j) = some u) (k : K (.agg cs.toArray) w) : Does P Γ w (.load t x) ty K :=
  Does.of_run (fun ρ hρ => by
    simp only [ex, execOp, hρ x _ hx, Instr.loadAt, Instr.sureAddr, loadVar]
    subst hl
    simp [run_isAgg ht, hd, run_sz hs, run_loadCells_list (P := P) (w := w) ad cs hc]) k
theorem add_off (g off j : Nat) : (⟨g, off, none⟩ : Addr).add j = ⟨g, off + j, none⟩ := by unfold Addr.add; split <;> simp_all
theorem d_loadAB {t : TypeId} {x : Operand} {g off : Nat} {cs : Array Value} {e : TypeId} {d : TypeDesc} {s b : Nat} {z : Option Value} (us : List Value) (ht : P.underlying t = some d) (hd : aggD d = true) (hs : szOf P t = some (s, b, z)) (hx : ev Γ x = some (.pointer (some ⟨g, off, none⟩)))
    (hb : w.heap[g]? = some (.cells cs e (0, 0))) (hl : us.length = s) (hc : (cs.toList.drop off).take s = us) (k : K (.agg us.toArray) w) : Does P Γ w (.load t x) ty K :=
  d_loadA ht hd hs hx hl (fun j u hj => by
    rw [add_off, cells_of_blk hb]
    rw [← hc, List.getElem?_take] at hj
    split at hj
    · simpa using hj
    · cases hj) k

def elemPtr : Value → Nat → Value
  | .slice (some a) _ _, j => .pointer (some (a.add j))
  | _, _ => .nilFunc
theorem Rd.ptr {v : Value} {sz n : Nat} {vs : List Value} (h : Rd w v sz n vs) {j : Nat} {u : Value} (hj : vs[j]? = some u) : ∃ ad, elemPtr v j = .pointer (some (ad.add j)) ∧ w.cell? (ad.add j) = some u ∧ ∃ c, v = .slice (some ad) n c := by
  obtain ⟨A, cap, rfl, _, _, h3⟩ := h
  obtain ⟨ad, rfl, hc⟩ := h3 j u hj
  exact ⟨ad, rfl, hc, cap, rfl⟩
theorem d_indexAddr {t e : TypeId} {x ix : Operand} {v : Value} {kd : IntKind} {i : Int} {sz b n : Nat} {z : Option Value} {vs : List Value} (ht : P.underlying t = some (.slice e)) (hs : szOf P e = some (sz, b, z))
    (hx : ev Γ x = some v) (hi : ev Γ ix = some (.int kd i)) (hr : Rd w v sz n vs) (h0 : 0 ≤ i) (h1 : i < n) (hz : 0 < sz) (k : K (elemPtr v (i.toNat * sz)) w) : Does P Γ w (.indexAddr t x ix) ty K :=
  Does.of_run (fun ρ hρ => by
    have hlt : i.toNat * sz < vs.length := by
      rw [hr.len]
      exact Nat.mul_lt_mul_of_pos_right (by omega) hz
    obtain ⟨ad, he, _, c, hv⟩ := hr.ptr (List.getElem?_eq_getElem hlt)
    subst hv
    simp only [ex, execOp, hρ x _ hx, hρ ix _ hi, Instr.indexAt, asIntOf]
    simp [run_underlying ht, run_sz hs, h0, h1, elemPtr]) k
theorem d_loadR {t : TypeId} {x : Operand} {v : Value} {j sz n : Nat} {vs : List Value} {d : TypeDesc} {u : Value} (ht : P.underlying t = some d) (hd : aggD d = false) (hx : ev Γ x = some (elemPtr v j)) (hr : Rd w v sz n vs) (hj : vs[j]? = some u) (k : K u w) : Does P Γ w (.load t x) ty K := by
  obtain ⟨ad, he, hc, _⟩ := hr.ptr hj
  exact d_load ht hd (he ▸ hx) hc k
theorem add_add (a : Addr) (i j : Nat) : (a.add i).add j = a.add (i + j) := by
  unfold Addr.add
  split <;> split <;> split <;> simp_all <;> omega
theorem d_loadAR {t : TypeId} {x : Operand} {v : Value} {j sz n s b : Nat} {z : Option Value} {vs : List Value} {d : TypeDesc} (us : List Value) (ht : P.underlying t = some d) (hd : aggD d = true) (hs : szOf P t = some (s, b, z)) (hx : ev Γ x = some (elemPtr v j)) (hr : Rd w v sz n vs)
    (hl : us.length = s) (hp : 0 < s) (hc : (vs.drop j).take s = us) (k : K (.agg us.toArray) w) : Does P Γ w (.load t x) ty K := by
  have hat : ∀ i u, us[i]? = some u → vs[j + i]? = some u := fun i u hi => by
    rw [← hc, List.getElem?_take] at hi
    split at hi
    · simpa using hi
    · cases hi
  have h0 : us[0]? = some us[0] := List.getElem?_eq_getElem (by omega)
  obtain ⟨ad, he, _, c, hv⟩ := hr.ptr (hat 0 _ h0)
  refine d_loadA ht hd hs (ad := ad.add j) (by rw [hx, ← Nat.add_zero j, he]) hl (fun i u hi => ?_) k
  obtain ⟨ad', he', hc', c', hv'⟩ := hr.ptr (hat i u hi)
  rw [hv] at hv'
  injection hv' with e1
  injection e1 with e1
  subst e1
  rw [add_add]; exact hc'
theorem run_fieldPlace {fd : Field} {i : TypeInfo} (hs : P.info? fd.type = some i) (hz : i.size ≠ 0) (ad : Addr) : (fieldPlace ad fd).run P w = .ok (ad.add fd.offset) w := by
  simp [fieldPlace, sizeOf, typeInfo, hs, hz]
theorem d_fieldAddr {t : TypeId} {x : Operand} {f off s : Nat} {g : Bool} {ad : Addr} (hf : fldOf P t f = some (off, s, g)) (hs : Nat.beq s 0 = false) (hx : ev Γ x = some (.pointer (some ad))) (k : K (.pointer (some (ad.add off))) w) : Does P Γ w (.fieldAddr t x f) ty K :=
  Does.of_run (fun ρ hρ => by
    unfold fldOf at hf
    split at hf
    · rename_i fs hu
      split at hf
      · rename_i fd hfd
        split at hf
        · rename_i i d hi hd
          simp only [Option.some.injEq, Prod.mk.injEq] at hf
          obtain ⟨rfl, rfl, _⟩ := hf
          have hz : i.size ≠ 0 := by intro e; rw [e] at hs; simp at hs
          simp only [ex, execOp, hρ x _ hx, Instr.fieldAt, Instr.sureAddr]
          simp [run_underlying hu, hfd, run_fieldPlace hi hz]
        · cases hf
      · cases hf
    · cases hf) k
theorem d_fieldAddrB {t : TypeId} {x : Operand} {f off s : Nat} {a : Bool} {g o : Nat} (hf : fldOf P t f = some (off, s, a)) (hs : Nat.beq s 0 = false) (hx : ev Γ x = some (.pointer (some ⟨g, o, none⟩))) (k : K (.pointer (some ⟨g, o + off, none⟩)) w) : Does P Γ w (.fieldAddr t x f) ty K :=
  d_fieldAddr hf hs hx (by rw [add_off]; exact k)
theorem d_fieldAddrR {t : TypeId} {x : Operand} {f off s : Nat} {a : Bool} {v : Value} {j n sz : Nat} {vs : List Value} {u : Value} (hf : fldOf P t f = some (off, s, a)) (hs : Nat.beq s 0 = false) (hx : ev Γ x = some (elemPtr v j)) (hr : Rd w v sz n vs) (hj : vs[j]? = some u) (k : K (elemPtr v (j + off)) w) : Does P Γ w (.fieldAddr t x f) ty K := by
  obtain ⟨ad, he, _, c, rfl⟩ := hr.ptr hj
  exact d_fieldAddr hf hs (he ▸ hx) (by simpa [elemPtr, add_add] using k)
theorem run_store1 {ad : Addr} {v old : Value} (h1 : v.oneCell' = true) (hc : w.cell? ad = some old) (hf : w.frozen? ad = false) : (store ad v).run P w = .ok () (w.setCell ad v) := by
  rw [run_store P w ad v _ h1, hc]
  simp [hf]
theorem cells_one {v : Value} (h1 : v.oneCell' = true) : v.cells = #[v] := by cases v <;> simp_all [Value.oneCell', Value.cells]
theorem d_store {t : TypeId} {x y : Operand} {ad : Addr} {b : Nat} {z : Option Value} {v old : Value} (hs : szOf P t = some (1, b, z)) (hx : ev Γ x = some (.pointer (some ad))) (hy : ev Γ y = some v) (h1 : v.oneCell' = true)
    (hc : w.cell? ad = some old) (hf : w.frozen? ad = false) (k : K undef (w.setCell ad v)) : Does P Γ w (.store t x y) ty K :=
  Does.of_skip (fun ρ hρ => by
    simp only [ex, execOp, hρ x _ hx, hρ y _ hy, Instr.storeAt, Instr.sureAddr, storeVar, cells_one h1]
    have h0 : ad.add 0 = ad := by simp [Addr.add]
    simp [run_sz hs, storeCells, h0, run_store1 h1 hc hf]) k
theorem d_storeB {t : TypeId} {x y : Operand} {g off b : Nat} {cs : Array Value} {e : TypeId} {z : Option Value} {v : Value} (hs : szOf P t = some (1, b, z)) (hx : ev Γ x = some (.pointer (some ⟨g, off, none⟩))) (hy : ev Γ y = some v) (h1 : v.oneCell' = true)
    (hb : w.heap[g]? = some (.cells cs e (0, 0))) (hl : Nat.blt off cs.size = true) (k : ∀ w', Upd w [blk g cs e] w' [blk g (cs.setIfInBounds off v) e] → K undef w') : Does P Γ w (.store t x y) ty K := by
  have hl' : off < cs.size := of_eq_true (Eq.trans Nat.blt_eq.symm (eq_true hl))
  exact d_store hs hx hy h1 (old := cs[off]) (by rw [cells_of_blk hb]; exact Array.getElem?_eq_getElem hl') (by simp [World.frozen?, hb]) (k _ (Upd.setCell hb off v))
theorem Upd.setRow {g : Nat} {cs cs' : Array Value} {e : TypeId} (h : w.heap[g]? = some (.cells cs e (0, 0))) : Upd w [blk g cs e] (w.setRow g cs') [blk g cs' e] := by
  refine ⟨⟨fun c hc => ?_, by simp [ats, Sx.blk]⟩, ⟨rfl, rfl, rfl, by simp [World.setRow], fun k hk hs => ?_⟩, fun g' hg => ?_⟩
  · simp only [List.mem_singleton] at hc; subst hc
    show (w.setRow g cs').heap[g]? = _
    simp [World.setRow, Array.getElem?_modify, h]
  · have : k ≠ g := by intro e'; subst e'; simp [ats, Sx.blk] at hs
    simp [World.setRow, Array.getElem?_modify, Ne.symm this]
  · left; simpa [ats, Sx.blk] using hg
theorem d_storeAB {t : TypeId} {x y : Operand} {g off s b : Nat} {cs : Array Value} {us : List Value} {e : TypeId} {z : Option Value} (hs : szOf P t = some (s, b, z)) (hx : ev Γ x = some (.pointer (some ⟨g, off, none⟩))) (hy : ev Γ y = some (.agg us.toArray)) (hl : us.length = s)
    (h1 : us.all (·.oneCell') = true) (hb : w.heap[g]? = some (.cells cs e (0, 0))) (hle : Nat.ble (off + us.length) cs.size = true) {cs' : Array Value} (hc : (cs.toList.take off ++ us ++ cs.toList.drop (off + us.length)).toArray = cs')
    (k : ∀ w', Upd w [blk g cs e] w' [blk g cs' e] → K undef w') : Does P Γ w (.store t x y) ty K :=
  Does.of_skip (w' := w.setRow g cs') (fun ρ hρ => by
    simp only [ex, execOp, hρ x _ hx, hρ y _ hy, Instr.storeAt, Instr.sureAddr, storeVar, Value.cells]
    have := run_storeCells_at P g off e us 0 cs w hb (by simpa using Nat.le_of_ble_eq_true hle) (by simpa using h1)
    simp only [Nat.add_zero, hc] at this
    simp [run_sz hs, hl, this]) (k _ (Upd.setRow hb))
/-! ### Numbers, strings, bools -/
theorem wrap_in {k : IntKind} {x : Int} (h : (if k.signed then -(2 ^ (k.bits - 1) : Int) else 0) ≤ x ∧ x ≤ k.max) : k.wrap x = x := by
  cases k <;> simp only [IntKind.signed, IntKind.bits, IntKind.max, IntKind.wrap, if_true, Bool.false_eq_true, if_false, Bool.true_and, Bool.false_and] at * <;> (try split) <;> simp_all <;> omega
theorem wrap_i64 {x : Int} (h : -9223372036854775808 ≤ x) (h' : x ≤ 9223372036854775807) : IntKind.i64.wrap x = x := wrap_in (by simpa [IntKind.signed, IntKind.bits, IntKind.max] using ⟨h, h'⟩)
theorem d_arith {op : BinOp} {xt yt : TypeId} {x y : Operand} {kd : IntKind} {a b : Int} (r : Int) (hx : ev Γ x = some (.int kd a)) (hy : ev Γ y = some (.int kd b))
    (hr : (match op with | .add => some (kd.wrap (a + b)) | .sub => some (kd.wrap (a - b)) | .mul => some (kd.wrap (a * b)) | _ => none) = some r) (k : K (.int kd r) w) : Does P Γ w (.binOp op xt x y yt) ty K :=
  Does.of_run (fun ρ hρ => by
    cases op <;> simp only [reduceCtorEq, Option.some.injEq] at hr <;> subst hr <;>
    simp [ex, execOp, hρ x _ hx, hρ y _ hy, eqGuard, binOp, Op.intArith]) k
theorem d_add {xt yt : TypeId} {x y : Operand} {a b : Int} (hx : ev Γ x = some (.int .i64 a)) (hy : ev Γ y = some (.int .i64 b)) (h : -9223372036854775808 ≤ a + b) (h' : a + b ≤ 9223372036854775807) (k : K (.int .i64 (a + b)) w) : Does P Γ w (.binOp .add xt x y yt) ty K :=
  d_arith (a + b) hx hy (by rw [wrap_i64 h h']) k
theorem d_sub {xt yt : TypeId} {x y : Operand} {a b : Int} (hx : ev Γ x = some (.int .i64 a)) (hy : ev Γ y = some (.int .i64 b)) (h : -9223372036854775808 ≤ a - b) (h' : a - b ≤ 9223372036854775807) (k : K (.int .i64 (a - b)) w) : Does P Γ w (.binOp .sub xt x y yt) ty K :=
  d_arith (a - b) hx hy (by rw [wrap_i64 h h']) k
theorem d_mul {xt yt : TypeId} {x y : Operand} {a b : Int} (hx : ev Γ x = some (.int .i64 a)) (hy : ev Γ y = some (.int .i64 b)) (h : -9223372036854775808 ≤ a * b) (h' : a * b ≤ 9223372036854775807) (k : K (.int .i64 (a * b)) w) : Does P Γ w (.binOp .mul xt x y yt) ty K :=
  d_arith (a * b) hx hy (by rw [wrap_i64 h h']) k
def cmpOf : BinOp → Int → Int → Option Bool
  | .eql, a, b => some (decide (a = b))
  | .neq, a, b => some (decide (a ≠ b))
  | .lss, a, b => some (decide (a < b))
  | .leq, a, b => some (decide (a ≤ b))
  | .gtr, a, b => some (decide (a > b))
  | .geq, a, b => some (decide (a ≥ b))
  | _, _, _ => none
theorem d_cmp {op : BinOp} {xt yt : TypeId} {x y : Operand} {kd : IntKind} {a b : Int} (r : Bool) (hx : ev Γ x = some (.int kd a)) (hy : ev Γ y = some (.int kd b)) (hr : cmpOf op a b = some r) (k : K (.bool r) w) : Does P Γ w (.binOp op xt x y yt) ty K :=
  Does.of_run (fun ρ hρ => by
    cases op <;> simp only [cmpOf, reduceCtorEq, Option.some.injEq] at hr <;> subst hr <;>
    simp [ex, execOp, hρ x _ hx, hρ y _ hy, eqGuard, binOp, Op.intCmp] <;> (try (by_cases h : a = b <;> simp [h]))) k
theorem toList_inj {a b : ByteArray} : (a.toList == b.toList) = decide (a = b) := by
  by_cases h : a = b
  · subst h; simp
  · have : a.toList ≠ b.toList := fun e => h (by
      have h2 : a.data.toList = b.data.toList := by rw [← ByteArray.toList_eq, ← ByteArray.toList_eq, e]
      cases a; cases b; simp only [ByteArray.mk.injEq]; exact Array.ext' h2)
    simp [h, this]
theorem d_streq {xt yt : TypeId} {x y : Operand} {a b : ByteArray} (hx : ev Γ x = some (.string a)) (hy : ev Γ y = some (.string b)) (k : K (.bool (decide (a = b))) w) : Does P Γ w (.binOp .eql xt x y yt) ty K :=
  Does.of_run (fun ρ hρ => by simp [ex, execOp, hρ x _ hx, hρ y _ hy, eqGuard, binOp, Op.stringOp, toList_inj]) k
theorem d_strne {xt yt : TypeId} {x y : Operand} {a b : ByteArray} (hx : ev Γ x = some (.string a)) (hy : ev Γ y = some (.string b)) (k : K (.bool (decide (a ≠ b))) w) : Does P Γ w (.binOp .neq xt x y yt) ty K :=
  Does.of_run (fun ρ hρ => by simp [ex, execOp, hρ x _ hx, hρ y _ hy, eqGuard, binOp, Op.stringOp, toList_inj]) k
theorem d_concat {xt yt : TypeId} {x y : Operand} {a b : ByteArray} (hx : ev Γ x = some (.string a)) (hy : ev Γ y = some (.string b)) (h : a.size + b.size ≤ 9223372036854775807) (k : K (.string (a ++ b)) w) : Does P Γ w (.binOp .add xt x y yt) ty K :=
  Does.of_run (fun ρ hρ => by
    have : ¬ (((a.size + b.size : Nat) : Int) > IntKind.i64.max) := by simp [IntKind.max, IntKind.signed, IntKind.bits]; omega
    simp only [ex, execOp, hρ x _ hx, hρ y _ hy, eqGuard, binOp, Op.stringOp, if_neg this]
    simp) k
theorem run_equal {t : TypeId} {x y : Value} {r : Bool} (h : ∀ d, (Op.equalIn (d + 1) t x y).run P w = .ok r w) : (Op.equal t x y).run P w = .ok r w := h 9999
theorem d_notB {xt : TypeId} {x : Operand} {b : Bool} (hx : ev Γ x = some (.bool b)) (k : K (.bool (!b)) w) : Does P Γ w (.unOp .not xt x) ty K :=
  Does.of_run (fun ρ hρ => by simp [ex, execOp, hρ x _ hx, Op.unary]) k
theorem d_quo {xt yt : TypeId} {x y : Operand} {a b : Int} (hx : ev Γ x = some (.int .i64 a)) (hy : ev Γ y = some (.int .i64 b)) (h0 : 0 ≤ a) (hb : 0 < b) (h' : a ≤ 9223372036854775807) (k : K (.int .i64 (a / b)) w) : Does P Γ w (.binOp .quo xt x y yt) ty K :=
  Does.of_run (fun ρ hρ => by
    have h1 : a.tdiv b = a / b := Int.tdiv_eq_ediv_of_nonneg h0
    have h2 : 0 ≤ a / b := Int.ediv_nonneg h0 (by omega)
    have h3 : a / b ≤ a := Int.ediv_le_self _ h0
    have hb' : b ≠ 0 := by omega
    simp [ex, execOp, hρ x _ hx, hρ y _ hy, eqGuard, binOp, Op.intDiv, hb', h1, wrap_i64 (x := a / b) (by omega) (by omega)]) k
theorem d_rem {xt yt : TypeId} {x y : Operand} {kd : IntKind} {a b : Int} (hx : ev Γ x = some (.int kd a)) (hy : ev Γ y = some (.int kd b)) (hb : b ≠ 0) (k : K (.int kd (a.tmod b)) w) : Does P Γ w (.binOp .rem xt x y yt) ty K :=
  Does.of_run (fun ρ hρ => by simp [ex, execOp, hρ x _ hx, hρ y _ hy, eqGuard, binOp, Op.intDiv, hb]) k
theorem d_remN {xt yt : TypeId} {x y : Operand} {kd : IntKind} {a b : Int} (hx : ev Γ x = some (.int kd a)) (hy : ev Γ y = some (.int kd b)) (h0 : 0 ≤ a) (hb : 0 < b) (k : K (.int kd (a % b)) w) : Does P Γ w (.binOp .rem xt x y yt) ty K :=
  d_rem hx hy (by omega) (by rw [Int.tmod_eq_emod_of_nonneg h0]; exact k)
/-- Any operation on two whole numbers, as the model has it. -/
theorem d_bits {op : BinOp} {xt yt : TypeId} {x y : Operand} {kd : IntKind} {a b : Int} (r : Int) (hx : ev Γ x = some (.int kd a)) (hy : ev Γ y = some (.int kd b))
    (hr : (match op with
      | .and => some (kd.wrap (BitVec.ofInt kd.bits a &&& BitVec.ofInt kd.bits b).toNat)
      | .or => some (kd.wrap (BitVec.ofInt kd.bits a ||| BitVec.ofInt kd.bits b).toNat)
      | .xor => some (kd.wrap (BitVec.ofInt kd.bits a ^^^ BitVec.ofInt kd.bits b).toNat)
      | .andNot => some (kd.wrap (BitVec.ofInt kd.bits a &&& ~~~BitVec.ofInt kd.bits b).toNat)
      | _ => none) = some r) (k : K (.int kd r) w) : Does P Γ w (.binOp op xt x y yt) ty K :=
  Does.of_run (fun ρ hρ => by
    cases op <;> simp only [reduceCtorEq, Option.some.injEq] at hr <;> subst hr <;>
    simp [ex, execOp, hρ x _ hx, hρ y _ hy, eqGuard, binOp, Op.intBits]) k
theorem d_shl {xt yt : TypeId} {x y : Operand} {kd ky : IntKind} {a b : Int} (hx : ev Γ x = some (.int kd a)) (hy : ev Γ y = some (.int ky b)) (hb : 0 ≤ b) (k : K (.int kd (kd.wrap (a * 2 ^ (min b.toNat kd.bits)))) w) : Does P Γ w (.binOp .shl xt x y yt) ty K :=
  Does.of_run (fun ρ hρ => by
    have : ¬ b < 0 := by omega
    simp [ex, execOp, hρ x _ hx, hρ y _ hy, eqGuard, binOp, Op.shift, this]) k
theorem d_shr {xt yt : TypeId} {x y : Operand} {kd ky : IntKind} {a b : Int} (hx : ev Γ x = some (.int kd a)) (hy : ev Γ y = some (.int ky b)) (hb : 0 ≤ b) (k : K (.int kd (a.fdiv (2 ^ (min b.toNat kd.bits)))) w) : Does P Γ w (.binOp .shr xt x y yt) ty K :=
  Does.of_run (fun ρ hρ => by
    have : ¬ b < 0 := by omega
    simp [ex, execOp, hρ x _ hx, hρ y _ hy, eqGuard, binOp, Op.shift, this]) k
theorem d_conv {src dst : TypeId} {x : Operand} {kd ks : IntKind} {ds : TypeDesc} {a : Int} (hs : P.underlying src = some ds) (hd : P.underlying dst = some (.int kd)) (hx : ev Γ x = some (.int ks a)) (k : K (.int kd (kd.wrap a)) w) : Does P Γ w (.convert src dst x) ty K :=
  Does.of_run (fun ρ hρ => by simp [ex, execOp, hρ x _ hx, convert, run_underlying hs, run_underlying hd, Conv.intToInt]) k
theorem d_convI {src dst : TypeId} {x : Operand} {kd ks : IntKind} {ds : TypeDesc} {a : Int} (hs : P.underlying src = some ds) (hd : P.underlying dst = some (.int kd)) (hx : ev Γ x = some (.int ks a)) (h : (if kd.signed then -(2 ^ (kd.bits - 1) : Int) else 0) ≤ a ∧ a ≤ kd.max) (k : K (.int kd a) w) : Does P Γ w (.convert src dst x) ty K :=
  d_conv hs hd hx (by rw [wrap_in h]; exact k)

/-! ### len, slices, strings -/
theorem d_lenS {x : Operand} {t e : TypeId} {a : Option Addr} {n c : Nat} (ht : P.underlying t = some (.slice e)) (hx : ev Γ x = some (.slice a n c)) (k : K (.int .i64 n) w) : Does P Γ w (.call { callee := .builtin .len, args := #[x], argTypes := #[t] }) ty K :=
  Does.of_run (fun ρ hρ => by simp [ex, execOp, hρ x _ hx, resolve, invoke, builtin, Builtin.len_, run_underlying ht, goInt]) k
theorem d_lenStr {x : Operand} {t : TypeId} {s : ByteArray} (ht : P.underlying t = some .string) (hx : ev Γ x = some (.string s)) (k : K (.int .i64 s.size) w) : Does P Γ w (.call { callee := .builtin .len, args := #[x], argTypes := #[t] }) ty K :=
  Does.of_run (fun ρ hρ => by simp [ex, execOp, hρ x _ hx, resolve, invoke, builtin, Builtin.len_, run_underlying ht, goInt]) k
theorem d_idxStr {t : TypeId} {x ix : Operand} {s : ByteArray} {kd : IntKind} {i : Int} (ht : P.underlying t = some .string) (hx : ev Γ x = some (.string s)) (hi : ev Γ ix = some (.int kd i)) (h0 : 0 ≤ i) (h1 : i.toNat < s.size) (k : K (.int .u8 (s[i.toNat]'h1).toNat) w) : Does P Γ w (.index t x ix) ty K :=
  Does.of_run (fun ρ hρ => by
    simp only [ex, execOp, hρ x _ hx, hρ ix _ hi, Instr.index, asIntOf]
    simp [run_underlying ht, h0, h1]) k
theorem d_idxAddrArr {t e : TypeId} {x ix : Operand} {ad : Addr} {len sz b : Nat} {z : Option Value} {kd : IntKind} {i : Int} (ht : P.underlying t = some (.array len e)) (hs : szOf P e = some (sz, b, z)) (hx : ev Γ x = some (.pointer (some ad))) (hi : ev Γ ix = some (.int kd i))
    (h0 : 0 ≤ i) (h1 : i < len) (k : K (.pointer (some (ad.add (i.toNat * sz)))) w) : Does P Γ w (.indexAddr t x ix) ty K :=
  Does.of_run (fun ρ hρ => by
    simp only [ex, execOp, hρ x _ hx, hρ ix _ hi, Instr.indexAt, asIntOf, Instr.sureAddr]
    simp [run_underlying ht, run_sz hs, h0, h1]) k
def bdOk (lo hi cap : Int) : Prop := 0 ≤ lo ∧ lo ≤ hi ∧ hi ≤ cap
theorem run_sliceBounds {b : Bool} {len cap : Nat} {lo hi : Option Value} {l h : Int} (hlo : lo = none ∧ l = 0 ∨ ∃ kd, lo = some (.int kd l)) (hhi : hi = none ∧ h = len ∨ ∃ kd, hi = some (.int kd h)) (hk : bdOk l h cap) :
    (Instr.sliceBounds b len cap lo hi none).run P w = .ok (l.toNat, h.toNat, cap) w := by
  obtain ⟨h1, h2, h3⟩ := hk
  have e1 : 0 ≤ h := by omega
  have e2 : (l : Int) ≤ ((h.toNat : Nat) : Int) := by omega
  rcases hlo with ⟨rfl, rfl⟩ | ⟨kd, rfl⟩ <;> rcases hhi with ⟨rfl, rfl⟩ | ⟨kd', rfl⟩
  · simp [Instr.sliceBounds]
  · simp [Instr.sliceBounds, Instr.sliceBound, asIntOf, e1, h3]
  · simp [Instr.sliceBounds, Instr.sliceBound, asIntOf, h1, h2]
  · have : l ≤ max h 0 := by omega
    simp [Instr.sliceBounds, Instr.sliceBound, asIntOf, e1, h1, h3, this]
def evO (Γ : Env) : Option Operand → Option (Option Value)
  | none => some none
  | some x => (ev Γ x).map some
theorem AgR.evO {ρ : Operand → Value} (h : AgR ρ Γ) {x : Option Operand} {v : Option Value} (e : evO Γ x = some v) : x.map ρ = v := by
  cases x with
  | none => simp [Sx.evO] at e; simp [e]
  | some x =>
    simp only [Sx.evO] at e
    cases hv : ev Γ x with
    | none => rw [hv] at e; simp at e
    | some u => rw [hv] at e; simp at e; simp [h x u hv, e]
theorem d_substr {t : TypeId} {x : Operand} {lo hi : Option Operand} {vlo vhi : Option Value} {s : ByteArray} (l h : Int) (ht : P.underlying t = some .string) (hx : ev Γ x = some (.string s)) (hlo : evO Γ lo = some vlo) (hhi : evO Γ hi = some vhi)
    (el : vlo = none ∧ l = 0 ∨ ∃ kd, vlo = some (.int kd l)) (eh : vhi = none ∧ h = s.size ∨ ∃ kd, vhi = some (.int kd h)) (hk : bdOk l h s.size) (k : K (.string (s.extract l.toNat h.toNat)) w) : Does P Γ w (.slice t x lo hi none) ty K :=
  Does.of_run (fun ρ hρ => by
    simp only [ex, execOp, hρ x _ hx, hρ.evO hlo, hρ.evO hhi, Instr.sliceAt, Instr.slice, Option.map_none]
    simp [run_underlying ht, run_sliceBounds (P := P) (w := w) (b := false) el eh hk]) k
/-- What reslicing makes. -/
def subSlice (v : Value) (sz : Nat) (l h : Nat) : Value :=
  match v with
  | .slice a _ c => .slice (if c = l then a else a.map (·.add (l * sz))) (h - l) (c - l)
  | v => v
theorem d_slice {t e : TypeId} {x : Operand} {lo hi : Option Operand} {vlo vhi : Option Value} {A : Option Addr} {n c sz b : Nat} {z : Option Value} (l h : Int) (ht : P.underlying t = some (.slice e)) (hs : szOf P e = some (sz, b, z)) (hx : ev Γ x = some (.slice A n c)) (hlo : evO Γ lo = some vlo) (hhi : evO Γ hi = some vhi)
    (el : vlo = none ∧ l = 0 ∨ ∃ kd, vlo = some (.int kd l)) (eh : vhi = none ∧ h = n ∨ ∃ kd, vhi = some (.int kd h)) (hk : bdOk l h c) (k : K (subSlice (.slice A n c) sz l.toNat h.toNat) w) : Does P Γ w (.slice t x lo hi none) ty K :=
  Does.of_run (fun ρ hρ => by
    simp only [ex, execOp, hρ x _ hx, hρ.evO hlo, hρ.evO hhi, Instr.sliceAt, Instr.slice, Option.map_none]
    simp [run_underlying ht, run_sz hs, run_sliceBounds (P := P) (w := w) (b := true) el eh hk, subSlice]) k

/-! ### Calls -/
theorem map_evs {ρ : Operand → Value} {xs : Array Operand} {vs : List Value} (hρ : AgR ρ Γ) (hx : evs Γ xs.toList = some vs) : xs.map ρ = vs.toArray := by
  have := hρ.evs _ _ hx
  rw [← this, ← Array.toList_map]
def CallOk (P : Program) (f : FuncId) : Prop := ∀ args w, (callFunc f args).run P w = .ok (.enter f args) w
theorem callOk {f : FuncId} {fn : Func} (hf : P.funcs[f]? = some fn) (hn : (fn.name == "runtime.NumGoroutine") = false) (hb : fn.body.isNone = false) : CallOk P f := by
  intro args w
  have hn' : ¬ (fn.name = "runtime.NumGoroutine") := by simpa using hn
  have hb' : ¬ (fn.body = none) := by cases h : fn.body <;> simp [h] at hb ⊢
  simp [callFunc, hf, hn', hb']
theorem d_call {f : FuncId} {xs : Array Operand} {ts : Array TypeId} {vs : List Value} (hc : CallOk P f) (hx : evs Γ xs.toList = some vs) (h : Calls P f vs.toArray w (Ret K)) : Does P Γ w (.call { callee := .value (.func f), args := xs, argTypes := ts }) ty K := by
  intro ρ hρ
  have h1 : ρ (.func f) = .func (.func f) #[] #[] := hρ _ _ rfl
  have h2 : xs.map ρ = vs.toArray := map_evs hρ hx
  simp only [ex, execOp, resolve, h1, h2, Deferred.ofValue]
  have := hc vs.toArray w
  simp [invoke, this]
  exact h
/-! ### New memory -/
theorem d_box {e : TypeId} {x : Operand} {v : Value} (hx : ev Γ x = some v) (k : ∀ w', Upd w [] w' [blk w.heap.size v.cells e] → K (.pointer (some ⟨w.heap.size, 0, none⟩)) w') : Does P Γ w (.box e x) ty K :=
  Does.of_run (w' := w.alloc (.cells v.cells e)) (fun ρ hρ => by simp [ex, execOp, hρ x _ hx, Instr.box, newVar, newRow, newObj, Sem.run]) (k _ (Upd.alloc w _ e))
theorem d_alloc {e : TypeId} {s b : Nat} {z : Value} (hs : szOf P e = some (s, b, some z)) (k : ∀ w', Upd w [] w' [blk w.heap.size z.cells e] → K (.pointer (some ⟨w.heap.size, 0, none⟩)) w') : Does P Γ w (.alloc e) ty K :=
  Does.of_run (w' := w.alloc (.cells z.cells e)) (fun ρ hρ => by simp [ex, execOp, Instr.alloc, run_zero hs, newVar, newRow, newObj, Sem.run]) (k _ (Upd.alloc w _ e))
end
end Go.Sx


/- Walks over what is known of the slots: what is built, made, appended. -/
namespace Go.Sx
set_option linter.unusedVariables false
set_option linter.unusedSimpArgs false

def evp (Γ : Env) : List (Nat × Operand) → Option (List (Nat × Value))
  | [] => some []
  | (i, x) :: r => match ev Γ x, evp Γ r with | some v, some l => some ((i, v) :: l) | _, _ => none
theorem AgR.evp {ρ : Operand → Value} {Γ : Env} (h : AgR ρ Γ) : ∀ (l : List (Nat × Operand)) (vs : List (Nat × Value)), Sx.evp Γ l = some vs → (l.map fun p => (p.1, ρ p.2)) = vs
  | [], vs, e => by simp [Sx.evp] at e; simp [e]
  | (i, x) :: r, vs, e => by
    simp only [Sx.evp] at e
    split at e
    · rename_i v l hv hl
      simp only [Option.some.injEq] at e
      subst e
      simp [h x v hv, h.evp r l hl]
    · cases e

section
variable {P : Program} {Γ : Env} {w : World} {ty : TypeId} {K : Value → World → Prop}

theorem d_build {t : TypeId} {ps : Array (Nat × Operand)} {vs : List (Nat × Value)} {cs : Array Value} (hp : evp Γ ps.toList = some vs) (hb : P.built t vs = some cs) (k : K (.agg cs) w) : Does P Γ w (.build t ps) ty K :=
  Does.of_run (fun ρ hρ => by
    have e : (ps.map fun (i, x) => (i, ρ x)).toList = vs := by rw [← hρ.evp _ _ hp]; simp
    simp only [ex, execOp, Sem.run_bind, run_build w t _ cs (by rw [e]; exact hb), Result.andThen_ok]
    rfl) k
theorem own_made {g : Nat} {cs : Array Value} {e : TypeId} {sz n : Nat} {w' : World} (h : Upd w [] w' [blk g cs e]) (hs : cs.size = n * sz) (hn : n ≤ 9223372036854775807) : Upd w [] w' [row (.slice (some ⟨g, 0, none⟩) n n) e sz n cs.toList] := by
  have hb := h.hp.blk (g := g) (cs := cs) (e := e) (by simp)
  have ho : w'.ownsRow 0 e sz (.slice (some ⟨g, 0, none⟩) n n) n cs.toList :=
    ⟨by simp [hs], .inr ⟨g, n, cs, rfl, Nat.zero_le _, hb, Nat.le_refl _, by simp [maxLen]; omega, hs, by rw [List.take_of_length_le]; simp [hs]⟩⟩
  refine ⟨⟨fun c hc => ?_, by simp [ats, row, Value.ownBlock]⟩, h.keep, fun g' hg => h.fresh g' (by simpa [ats, row, blk, Value.ownBlock] using hg)⟩
  simp only [List.mem_singleton] at hc
  subst hc
  exact own_row ho
theorem d_buildSlice {t e : TypeId} {len sz b : Nat} {z : Value} {ps : Array (Nat × Operand)} {vs : List (Nat × Value)} {cs : Array Value} (ht : P.underlying t = some (.slice e)) (hs : szOf P e = some (sz, b, some z)) (hp : evp Γ ps.toList = some vs)
    (hsmall : Nat.ble (len * sz) 16777216 = true) (hpos : Nat.beq (len * sz) 0 = false)
    (hf : Instr.fill (fun i => some (i * sz, sz)) ((Array.range (len * sz)).map (z.cells[· % z.cells.size]!)) vs = some cs) (hcs : cs.size = len * sz)
    (k : ∀ w', Upd w [] w' [row (.slice (some ⟨w.heap.size, 0, none⟩) len len) e sz len cs.toList] → K (.slice (some ⟨w.heap.size, 0, none⟩) len len) w') : Does P Γ w (.buildSlice t len ps) ty K :=
  Does.of_run (w' := w.alloc (.cells cs e)) (fun ρ hρ => by
    have e1 : (ps.map fun (i, x) => (i, ρ x)).toList = vs := by rw [← hρ.evp _ _ hp]; simp
    have h1 : ¬ (16777216 < len * sz) := by have := Nat.le_of_ble_eq_true hsmall; omega
    have h2 : len * sz ≠ 0 := by intro h; rw [h] at hpos; simp at hpos
    simp only [ex, execOp, Instr.buildSlice, e1]
    simp [run_underlying ht, run_sz hs, run_zero hs, h1, hf, newRow, newObj, Sem.run, h2]) (k _ (own_made (Upd.alloc w cs e) hcs (by
      have := Nat.le_of_ble_eq_true hsmall
      have h2 : 0 < sz := by
        rcases Nat.eq_zero_or_pos sz with h | h
        · rw [h] at hpos; simp at hpos
        · exact h
      have := Nat.le_mul_of_pos_right len h2
      omega)))
theorem d_make {t e : TypeId} {x y : Operand} {kx ky : IntKind} {sz b : Nat} {z : Value} {l c : Int} (ht : P.underlying t = some (.slice e)) (hs : szOf P e = some (sz, b, some z)) (hx : ev Γ x = some (.int kx l)) (hy : ev Γ y = some (.int ky c))
    (h0 : 0 ≤ l) (hlc : l ≤ c) (hb : (b : Int) * c ≤ 140737488355328) (hc : c ≤ 9223372036854775807)
    (k : ∀ w', Upd w [] w' [row (.slice (some ⟨w.heap.size, 0, none⟩) l.toNat c.toNat) e sz l.toNat ((madeCells z.cells (c.toNat * sz)).toList.take (l.toNat * sz))] → K (.slice (some ⟨w.heap.size, 0, none⟩) l.toNat c.toNat) w') : Does P Γ w (.makeSlice t x y) ty K := by
  obtain ⟨i, hi, rfl, rfl, hz⟩ := szOf_info hs
  refine Does.of_run (w' := w.alloc (.cells (madeCells z.cells (c.toNat * i.size)) e)) (fun ρ hρ => ?_) (k _ ?_)
  · simp only [ex, execOp, hρ x _ hx, hρ y _ hy, Sem.run_bind, run_make (P := P) w t e i z ht hi hz kx ky l c h0 hlc (by omega) hc, Result.andThen_ok]
    rfl
  · have hu := Upd.alloc w (madeCells z.cells (c.toNat * i.size)) e
    have hbk := hu.hp.blk (g := w.heap.size) (cs := madeCells z.cells (c.toNat * i.size)) (e := e) (by simp)
    have hle : l.toNat * i.size ≤ c.toNat * i.size := Nat.mul_le_mul_right _ (by omega)
    have ho : (w.alloc (.cells (madeCells z.cells (c.toNat * i.size)) e)).ownsRow 0 e i.size (.slice (some ⟨w.heap.size, 0, none⟩) l.toNat c.toNat) l.toNat ((madeCells z.cells (c.toNat * i.size)).toList.take (l.toNat * i.size)) :=
      ⟨by rw [List.length_take, Array.length_toList, size_madeCells]; exact Nat.min_eq_left hle, .inr ⟨w.heap.size, c.toNat, _, rfl, Nat.zero_le _, hbk, by omega, by simp [maxLen]; omega, size_madeCells _ _, rfl⟩⟩
    refine ⟨⟨fun c' hc' => ?_, by simp [ats, row, Value.ownBlock]⟩, hu.keep, fun g' hg => hu.fresh g' (by simpa [ats, row, blk, Value.ownBlock] using hg)⟩
    simp only [List.mem_singleton] at hc'
    subst hc'
    exact own_row ho
theorem upd_of_grown {v v' : Value} {e : TypeId} {sz n n' : Nat} {vs vs' : List Value} {w' : World} (h : w'.ownsRow 0 e sz v' n' vs') (hg : w.grownBy w' v.ownBlock) (hb : v'.ownBlock = v.ownBlock ∨ v'.ownBlock = some w.heap.size) : Upd w [row v e sz n vs] w' [row v' e sz n' vs'] := by
  refine ⟨⟨fun c hc => ?_, ?_⟩, ⟨hg.os, hg.tape, hg.output, hg.size, fun k hk hs => hg.block k hk ?_⟩, fun g hg' => ?_⟩
  · simp only [List.mem_singleton] at hc; subst hc; exact own_row h
  · cases hv : v'.ownBlock <;> simp [ats, row, hv]
  · intro e'; apply hs; simp [ats, row, ← e']
  · have : v'.ownBlock = some g := by
      cases hv : v'.ownBlock <;> simp [ats, row, hv] at hg'
      rw [hg']
    rcases hb with h1 | h1
    · left; rw [this] at h1; simp [ats, row, ← h1]
    · right; rw [this] at h1; injection h1 with h1; omega
theorem run_append_none {t xt e : TypeId} {i : TypeInfo} {a A : Option Addr} {n c c' : Nat} (ht : P.underlying t = some (.slice e)) (hxt : P.underlying xt = some (.slice e)) (hi : P.info? e = some i) (hn : n ≤ c) : (Builtin.append_ #[t, xt] ty #[.slice a n c, .slice A 0 c']).run P w = .ok (.slice a n c) w := by
  have hf : (Builtin.firstCells i.size 0 (.slice A 0 c')).run P w = .ok #[] w := by
    cases A <;> simp [Builtin.firstCells, loadCells, loadCellsFrom]
  have hm : (match (TypeDesc.slice e) with | .int _ => true | _ => false) = false := rfl
  cases a <;> simp [Builtin.append_, run_underlying ht, run_underlying hxt, sizeOf, typeInfo, hi, Builtin.lenOf, hn, hf, storeCells]
/-- append, onto a row of one's own, of what is read. -/
theorem d_append {s x : Operand} {t e : TypeId} {sz b n m c cx : Nat} {z : Value} {a A : Option Addr} {vs news : List Value} (ht : P.underlying t = some (.slice e)) (hs : szOf P e = some (sz, b, some z)) (hzs : z.cells.size = sz) (hsz : Nat.blt 0 sz = true)
    (hev : ev Γ s = some (.slice a n c)) (hx : ev Γ x = some (.slice A m cx)) (ho : w.ownsRow 0 e sz (.slice a n c) n vs) (hr : Rd w (.slice A m cx) sz m news) (h1 : ∀ u ∈ news, u.oneCell' = true) (hb : (n + m) * b ≤ 140737488355328) (h63 : n + m ≤ 9223372036854775807)
    (k : ∀ a' c' w', Upd w [row (.slice a n c) e sz n vs] w' [row (.slice a' (n + m) c') e sz (n + m) (vs ++ news)] → K (.slice a' (n + m) c') w') : Does P Γ w (.call { callee := .builtin .append, args := #[s, x], argTypes := #[t, t] }) ty K := by
  obtain ⟨i, hi, rfl, rfl, hz⟩ := szOf_info hs
  have hsz' : 0 < i.size := of_eq_true (Eq.trans Nat.blt_eq.symm (eq_true hsz))
  rcases Nat.eq_zero_or_pos m with rfl | hm
  · have hn : n ≤ c := by
      rcases ho.2 with ⟨h1, h2⟩ | ⟨g, cap, cur, h1, _, _, h2, _⟩
      · omega
      · injection h1 with _ _ h1; omega
    have hnews : news = [] := by have := hr.len; simp at this; exact this
    subst hnews
    refine Does.of_run (w' := w) (fun ρ hρ => ?_) (k a c w ?_)
    · have := run_append_none (P := P) (w := w) (ty := ty) (t := t) (xt := t) (a := a) (A := A) (n := n) (c := c) (c' := cx) ht ht hi hn
      simp only [ex, execOp, resolve, invoke, builtin, Sem.run_bind, Sem.run_pure, Result.andThen_ok, List.map_toArray, List.map_cons, List.map_nil, hρ s _ hev, hρ x _ hx, this]
      rfl
    · simp only [List.append_nil]
      refine Upd.refl ⟨fun c' hc' => ?_, ?_⟩
      · simp only [List.mem_singleton] at hc'; subst hc'; exact own_row ho
      · cases a <;> simp [ats, row, Value.ownBlock]
  · have hlen : 0 < news.length := by rw [hr.len]; exact Nat.mul_pos hm hsz'
    obtain ⟨A', cap', e', hl, _, hcell⟩ := hr
    injection e' with e1 e2 e3
    subst e1 e3
    obtain ⟨ad, rfl, _⟩ := hcell 0 _ (List.getElem?_eq_getElem hlen)
    obtain ⟨v', w', hrun, hown, hg, _, hat⟩ := run_append_own_at (P := P) w 0 t ty e i z i.size i.bytes ht hi hz rfl rfl hzs hsz' (.slice a n c) n vs ho ad m cx news hl (fun j u hj => by
      obtain ⟨ad', e', hc⟩ := hcell j u hj
      injection e' with e'
      subst e'
      exact hc) h1 (by simp [maxLen]; omega) hb (Nat.zero_le _)
    obtain ⟨a', c', rfl⟩ := row_slice hown
    refine Does.of_run (fun ρ hρ => ?_) (k a' c' w' (upd_of_grown hown hg hat))
    simp only [ex, execOp, resolve, invoke, builtin, Sem.run_bind, Sem.run_pure, Result.andThen_ok, List.map_toArray, List.map_cons, List.map_nil, hρ s _ hev, hρ x _ hx, hrun]
end
end Go.Sx


/- A statement whose order of evaluation Go leaves open: its quiet operations in the order of the text, whichever the order was. -/
namespace Go.Sx
set_option linter.unusedVariables false
set_option linter.unusedSimpArgs false

/-- A promise: operation k yields v in every world of C. -/
structure Prm where
  k : Nat
  v : Value
  C : World → Prop

section
variable (P : Program) (n : Nat) (ops : Array Oper)

/-- Its direct ones ahead. -/
def preds (k : Nat) : List Nat := match ops[k]? with | some o => (o.after.toList.filter (Region.binds .any)).map (·.on) | none => []
def dstOf (k : Nat) : Option Tmp := (ops[k]?).bind (·.dst)
def looks (k : Nat) : List Tmp := match ops[k]? with | some o => o.looksAt ops | none => []

/-- The looks that a region must pass: each slot is written once; who looks at a slot that is written waits for it, or is waited for; who is waited for stands ahead; no select. -/
def regOk : Bool :=
  Region.noSelect ops &&
  (List.range ops.size).all fun k =>
    ((preds ops k).all fun i => Nat.blt i k) &&
    (List.range ops.size).all fun i => i == k || match dstOf ops i with
      | none => true
      | some d => dstOf ops k != some d && (!(looks ops k).contains d || (preds ops k).contains i || (preds ops i).contains k)

/-- What operation k yields where the slots are as told. -/
def YieldsG (Γ : Env) (k : Nat) (v : Value) (w : World) : Prop :=
  ∀ a : Act, (∀ t u, t ∈ looks ops k → look Γ t = some u → a.tmps.getD t undef = u) → ∃ o, ops[k]? = some o ∧
    ((Region.wanted o (yielded ops a.tmps) = true ∧ ∀ next Q, next (a.put o.dst v) w → o.wp P a w next Q) ∨ (Region.wanted o (yielded ops a.tmps) = false ∧ v = undef))

structure Inv (T : List Nat) (Pn : List Prm) (Γ : Env) (w : World) (listed : Array Bool) (a : Act) : Prop where
  lsize : listed.size = ops.size
  size : a.tmps.size = n
  defers : a.defers = []
  closedT : ∀ i, i ∈ T → ∀ j, j ∈ preds ops i → j ∈ T
  closedL : ∀ i, listed.getD i false = true → ∀ j, j ∈ preds ops i → listed.getD j false = true
  taken : ∀ i, listed.getD i false = true → i ∈ T
  slot : ∀ t v, look Γ t = some v → (∀ p, p ∈ Pn → listed.getD p.k false = false → dstOf ops p.k = some t → p.v = v) ∧ ((∀ p, p ∈ Pn → listed.getD p.k false = false → dstOf ops p.k ≠ some t) → a.tmps.getD t undef = v)
  pend : ∀ i, i ∈ T → listed.getD i false = false → ∃ p, p ∈ Pn ∧ p.k = i
  prom : ∀ p, p ∈ Pn → p.k ∈ T ∧ (listed.getD p.k false = false → p.C w ∧ (dstOf ops p.k).any (· < n) = true ∧ ∃ Γk, (∀ w', p.C w' → YieldsG P ops Γk p.k p.v w') ∧
    ∀ t u, t ∈ looks ops p.k → look Γk t = some u → (∀ q, q ∈ Pn → listed.getD q.k false = false → dstOf ops q.k = some t → q.k ∈ preds ops p.k → q.v = u) ∧ ((∀ q, q ∈ Pn → listed.getD q.k false = false → q.k ∈ preds ops p.k → dstOf ops q.k ≠ some t) → a.tmps.getD t undef = u))
  one : ∀ p, p ∈ Pn → ∀ q, q ∈ Pn → p.k = q.k → p.v = q.v

def WD (Q : Exit → Act → World → Prop) (T : List Nat) (Pn : List Prm) (Γ : Env) (w : World) : Prop :=
  ∀ fuel listed a, Inv P n ops T Pn Γ w listed a → ((List.range ops.size).filter fun i => !listed.getD i false).length ≤ fuel → wpAny P .any ops Q fuel listed a w
end

section
variable {P : Program} {n : Nat} {ops : Array Oper} {Q : Exit → Act → World → Prop} {T : List Nat} {Pn : List Prm} {Γ : Env} {w : World} {listed : Array Bool} {a : Act}

theorem regOk_noSelect (h : regOk ops = true) : Region.noSelect ops = true := by simp only [regOk, Bool.and_eq_true] at h; exact h.1
theorem regOk_lt (h : regOk ops = true) {k i : Nat} (hk : k < ops.size) (hi : i ∈ preds ops k) : i < k := by
  simp only [regOk, Bool.and_eq_true, List.all_eq_true, List.mem_range] at h
  exact of_eq_true (Eq.trans Nat.blt_eq.symm (eq_true ((h.2 k hk).1 i hi)))
theorem regOk_dst (h : regOk ops = true) {k i d : Nat} (hk : k < ops.size) (hi : i < ops.size) (hne : i ≠ k) (hd : dstOf ops i = some d) : dstOf ops k ≠ some d ∧ (d ∈ looks ops k → i ∈ preds ops k ∨ k ∈ preds ops i) := by
  simp only [regOk, Bool.and_eq_true, List.all_eq_true, List.mem_range] at h
  have h1 := (h.2 k hk).2 i hi
  simp only [hd, Bool.or_eq_true, beq_iff_eq, hne, false_or, Bool.and_eq_true, bne_iff_ne, ne_eq, Bool.not_eq_true', List.contains_eq_mem, decide_eq_true_eq, decide_eq_false_iff_not] at h1
  exact ⟨h1.1, fun hm => by rcases h1.2 with (h2 | h2) | h2; exact absurd hm h2; exact .inl h2; exact .inr h2⟩
theorem dst_lt {k d : Nat} (h : dstOf ops k = some d) : k < ops.size := by
  unfold dstOf at h
  rcases Nat.lt_or_ge k ops.size with h1 | h1
  · exact h1
  · simp [Array.getElem?_eq_none h1] at h

theorem ready_iff (hl : listed.size = ops.size) {j : Nat} : j ∈ Region.ready .any ops listed ↔ j < ops.size ∧ listed.getD j false = false ∧ ∀ i, i ∈ preds ops j → listed.getD i false = true := by
  rw [mem_ready]
  constructor
  · rintro ⟨h0, o, ho, hall⟩
    have hj := (Array.getElem?_eq_some_iff.1 ho).1
    refine ⟨hj, ?_, fun i hi => ?_⟩
    · rw [Array.getD_eq_getD_getElem?] at h0 ⊢
      rw [Array.getElem?_eq_getElem (by omega)] at h0 ⊢
      simpa using h0
    · simp only [preds, ho, List.mem_map, List.mem_filter] at hi
      obtain ⟨e, ⟨he, hb⟩, rfl⟩ := hi
      exact hall e (by simpa using he) hb
  · rintro ⟨hj, h0, hall⟩
    refine ⟨?_, ops[j], Array.getElem?_eq_getElem hj, fun e he hb => ?_⟩
    · rw [Array.getD_eq_getD_getElem?] at h0 ⊢
      rw [Array.getElem?_eq_getElem (by omega)] at h0 ⊢
      simpa using h0
    · refine hall _ ?_
      simp only [preds, Array.getElem?_eq_getElem hj, List.mem_map, List.mem_filter]
      exact ⟨e, ⟨by simpa using he, hb⟩, rfl⟩

theorem getD_setF {i j : Nat} (hi : i < listed.size) : (listed.setIfInBounds i true).getD j false = if i = j then true else listed.getD j false := by
  by_cases h : i = j
  · subst h; simp [hi]
  · simp [h, Array.getElem?_setIfInBounds_ne h]

/-- Among those that have not come up one may come up. -/
theorem ready_some (hok : regOk ops = true) (hl : listed.size = ops.size) {i : Nat} (hi : i < ops.size) (hu : listed.getD i false = false) : ∃ j, j ∈ Region.ready .any ops listed := by
  induction i using Nat.strongRecOn with
  | _ i ih =>
    by_cases h : ∀ j, j ∈ preds ops i → listed.getD j false = true
    · exact ⟨i, (ready_iff hl).2 ⟨hi, hu, h⟩⟩
    · have : ∃ j, j ∈ preds ops i ∧ listed.getD j false = false := by
        false_or_by_contra
        rename_i hc
        refine h (fun j hj => ?_)
        cases hx : listed.getD j false
        · exact absurd ⟨j, hj, hx⟩ hc
        · rfl
      obtain ⟨j, hj, hx⟩ := this
      have hlt := regOk_lt hok hi hj
      exact ih j hlt (by omega) hx

theorem count_set {i : Nat} (hi : i < ops.size) (hl : listed.size = ops.size) (hu : listed.getD i false = false) {fuel : Nat} (hf : ((List.range ops.size).filter fun j => !listed.getD j false).length ≤ fuel + 1) :
    ((List.range ops.size).filter fun j => !(listed.setIfInBounds i true).getD j false).length ≤ fuel := by
  have hmem : i ∈ (List.range ops.size).filter fun j => !listed.getD j false := by simp only [List.mem_filter, List.mem_range]; exact ⟨hi, by rw [hu]; rfl⟩
  have heq : ((List.range ops.size).filter fun j => !(listed.setIfInBounds i true).getD j false) = ((List.range ops.size).filter fun j => !listed.getD j false).filter (fun j => j != i) := by
    rw [List.filter_filter]
    apply List.filter_congr
    intro j _
    rw [getD_setF (by omega)]
    by_cases h : i = j
    · subst h; simp
    · simp [h, Ne.symm h]
  have hlt : (((List.range ops.size).filter fun j => !listed.getD j false).filter (fun j => j != i)).length < ((List.range ops.size).filter fun j => !listed.getD j false).length := by
    rcases Nat.lt_or_ge (((List.range ops.size).filter fun j => !listed.getD j false).filter (fun j => j != i)).length ((List.range ops.size).filter fun j => !listed.getD j false).length with h | h
    · exact h
    · have := List.length_filter_eq_length_iff.1 (Nat.le_antisymm (List.length_filter_le _ _) h) i hmem
      simp at this
  rw [heq]; omega

/-- What the slots that an operation looks at tell is enough. -/
theorem exec_of {o : Oper} (hs : ∀ cs b, o.op ≠ .select cs b) {k : Nat} (ho : ops[k]? = some o) {a : Act} (h : ∀ t u, t ∈ looks ops k → look Γ t = some u → a.tmps.getD t undef = u) : ∃ ρ, AgR ρ Γ ∧ execOp a.eval o = execOp ρ o := by
  refine ⟨fun x => (ev Γ x).getD (a.eval x), fun x v e => by simp [e], execOp_congr o hs fun x hx => ?_⟩
  cases hv : ev Γ x with
  | none => simp
  | some u =>
    cases x with
    | tmp t =>
      simp only [Option.getD_some]
      refine h t u ?_ hv
      simp only [looks, ho, Oper.looksAt]
      exact List.mem_append_left _ (List.mem_filterMap.2 ⟨.tmp t, by simpa using hx, rfl⟩)
    | const c => simpa [ev, Act.eval] using hv
    | global g => simpa [ev, Act.eval] using hv
    | func f => simpa [ev, Act.eval] using hv

/-- A promised operation comes up. -/
theorem Inv.run (hok : regOk ops = true) (h : Inv P n ops T Pn Γ w listed a) {p : Prm} (hp : p ∈ Pn) (hr : p.k ∈ Region.ready .any ops listed) :
    ∃ o d, ops[p.k]? = some o ∧ o.dst = some d ∧ Inv P n ops T Pn Γ w (listed.setIfInBounds p.k true) (a.put (some d) p.v) ∧
      ((Region.wanted o (yielded ops a.tmps) = true ∧ ∀ next Q, next (a.put o.dst p.v) w → o.wp P a w next Q) ∨ (Region.wanted o (yielded ops a.tmps) = false ∧ p.v = undef)) := by
  obtain ⟨hk, hu, hall⟩ := (ready_iff h.lsize).1 hr
  obtain ⟨hT, hpr⟩ := h.prom p hp
  obtain ⟨hC, hd, Γk, hy, hsl⟩ := hpr hu
  obtain ⟨o, ho, hres⟩ := hy w hC a (fun t u ht hl => (hsl t u ht hl).2 fun q _ h2 h5 _ => by rw [hall q.k h5] at h2; cases h2)
  cases hdst : dstOf ops p.k with
  | none => rw [hdst] at hd; simp at hd
  | some d =>
    have hod : o.dst = some d := by simpa [dstOf, ho] using hdst
    have hdn : d < n := by rw [hdst] at hd; simpa using hd
    refine ⟨o, d, ho, hod, ?_, hres⟩
    have hkl : p.k < listed.size := by rw [h.lsize]; exact hk
    have hput : ∀ t, (a.put (some d) p.v).tmps.getD t undef = if d = t then p.v else a.tmps.getD t undef := fun t => by
      by_cases e : d = t
      · subst e; simp [Act.put, Array.getD_eq_getD_getElem?, h.size, hdn]
      · simp [Act.put, Array.getD_eq_getD_getElem?, e]
    have hunl : ∀ j, (listed.setIfInBounds p.k true).getD j false = false → p.k ≠ j ∧ listed.getD j false = false := fun j hj => by
      rw [getD_setF hkl] at hj
      split at hj
      · cases hj
      · rename_i e; exact ⟨e, hj⟩
    refine ⟨by simp [h.lsize], by simp [Act.put, h.size], by simp [Act.put, h.defers], h.closedT, fun i hi j hj => ?_, fun i hi => ?_, fun t v hv => ⟨fun q hq huq hdq => ?_, fun hno => ?_⟩, fun i hi hui => h.pend i hi (hunl i hui).2, fun q hq => ⟨(h.prom q hq).1, fun huq => ?_⟩, h.one⟩
    · rw [getD_setF hkl] at hi ⊢
      split
      · rfl
      · split at hi
        · rename_i e; subst e; exact hall j hj
        · exact h.closedL i hi j hj
    · rw [getD_setF hkl] at hi
      split at hi
      · rename_i e; subst e; exact hT
      · exact h.taken i hi
    · exact (h.slot t v hv).1 q hq (hunl _ huq).2 hdq
    · rw [hput]
      by_cases e : d = t
      · rw [if_pos e]; exact (h.slot t v hv).1 p hp hu (e ▸ hdst)
      · rw [if_neg e]
        refine (h.slot t v hv).2 fun q hq huq hdq => ?_
        by_cases e2 : p.k = q.k
        · rw [← e2, hdst] at hdq; injection hdq; contradiction
        · exact hno q hq (by rw [getD_setF hkl, if_neg e2]; exact huq) hdq
    · obtain ⟨hne, huq⟩ := hunl _ huq
      obtain ⟨hqT, hq2⟩ := h.prom q hq
      obtain ⟨hqC, hqd, Γq, hqy, hqs⟩ := hq2 huq
      refine ⟨hqC, hqd, Γq, hqy, fun t u ht hl => ⟨fun r hr' hur hdr hpr' => (hqs t u ht hl).1 r hr' (hunl _ hur).2 hdr hpr', fun hno => ?_⟩⟩
      rw [hput]
      have hqk : q.k < ops.size := by cases hx : dstOf ops q.k with | none => rw [hx] at hqd; simp at hqd | some x => exact dst_lt hx
      by_cases e : d = t
      · rw [if_pos e]
        subst e
        rcases (regOk_dst hok hqk hk hne hdst).2 ht with h6 | h6
        · exact (hqs d u ht hl).1 p hp hu hdst h6
        · rw [hall q.k h6] at huq; cases huq
      · rw [if_neg e]
        refine (hqs t u ht hl).2 fun r hr' hur hpr' hdr => ?_
        by_cases e2 : p.k = r.k
        · rw [← e2, hdst] at hdr; injection hdr; contradiction
        · exact hno r hr' (by rw [getD_setF hkl, if_neg e2]; exact hur) hpr' hdr

/-- Is it wanted, by what is known? -/
def wantG (ops : Array Oper) (Γ : Env) (o : Oper) : Option Bool :=
  match o.guard with
  | none => some true
  | some (j, want) => match dstOf ops j with
    | some t => match look Γ t with
      | some (.bool b) => some (b == want)
      | some (.tuple vs) => if vs.size = 0 then some false else none
      | _ => none
    | none => none
theorem wantG_of {o : Oper} {k : Nat} (ho : ops[k]? = some o) {c : Bool} (h : wantG ops Γ o = some c) {a : Act} (ha : ∀ t u, t ∈ looks ops k → look Γ t = some u → a.tmps.getD t undef = u) : Region.wanted o (yielded ops a.tmps) = c := by
  unfold wantG at h
  unfold Region.wanted
  split at h
  · rename_i hg; rw [hg]; simpa using h
  · rename_i j want hg
    rw [hg]
    split at h
    · rename_i t ht
      split at h
      · rename_i b hb
        have hm : t ∈ looks ops k := by
          simp only [looks, ho, Oper.looksAt, hg]
          exact List.mem_append_right _ (by rw [show ((ops[j]?).bind (·.dst)) = some t from ht]; simp)
        have h1 := ha t _ hm hb
        have : yielded ops a.tmps j = some b := by
          unfold yielded
          rw [show ((ops[j]?).bind (·.dst)) = some t from ht]
          rw [Array.getD_eq_getD_getElem?] at h1
          simp only [Option.bind_some]
          cases hx : a.tmps[t]? with
          | none => rw [hx] at h1; simp [undef] at h1
          | some u => rw [hx] at h1; simp at h1; subst h1; rfl
        simp only [this]
        injection h
      · rename_i vs hb
        have hm : t ∈ looks ops k := by
          simp only [looks, ho, Oper.looksAt, hg]
          exact List.mem_append_right _ (by rw [show ((ops[j]?).bind (·.dst)) = some t from ht]; simp)
        have h1 := ha t _ hm hb
        split at h
        case isFalse => cases h
        have : yielded ops a.tmps j = none := by
          unfold yielded
          rw [show ((ops[j]?).bind (·.dst)) = some t from ht]
          rw [Array.getD_eq_getD_getElem?] at h1
          simp only [Option.bind_some]
          cases hx : a.tmps[t]? with
          | none => rfl
          | some u => rw [hx] at h1; simp at h1; subst h1; rfl
        simp only [this]
        injection h
      · cases h
    · cases h

/-- THE REGION: nothing has been taken yet. -/
theorem W.regionD {id : Nat} {l : List Oper} (hm : P.follows .mixedOrders = true) (hok : regOk l.toArray = true) (h : regOk l.toArray = true → ∀ w', Keep [] w w' → WD P n l.toArray Q [] [] Γ w') : W P n (.region id l.toArray true) Q Γ w := by
  intro a ha
  refine wp_region_any hm (h hok { w with drawn := w.drawn + 1 } (Keep.of_drawn _ _) _ _ _ ?_ ?_)
  · have hl : ∀ i, (Array.replicate l.toArray.size false).getD i false = false := fun i => by
      rw [Array.getD_eq_getD_getElem?, Array.getElem?_replicate]; split <;> rfl
    exact ⟨by simp, ha.size, ha.defers, by simp, (fun i hi => by rw [hl] at hi; cases hi), (fun i hi => by rw [hl] at hi; cases hi), fun t v hv => ⟨by simp, fun _ => ha.slot t v hv⟩, by simp, by simp, by simp⟩
  · refine Nat.le_trans (List.length_filter_le _ _) (by simp)

/-- A quiet operation is taken. -/
theorem WD.take (hok : regOk ops = true) (k : Nat) {o : Oper} {d : Nat} (v : Value) (C : World → Prop) (ho : ops[k]? = some o) (hd : o.dst = some d) (hdn : Nat.blt d n = true) (hT : T.contains k = false) (hpre : (preds ops k).all T.contains = true)
    (hC : C w) (hy : wantG ops Γ o = some true ∧ (∀ w', C w' → Does P Γ w' o.op o.type fun v' w'' => v' = v ∧ w'' = w') ∨ wantG ops Γ o = some false ∧ v = undef)
    (h : WD P n ops Q (k :: T) (⟨k, v, C⟩ :: Pn) ((d, v) :: Γ) w) : WD P n ops Q T Pn Γ w := by
  intro fuel listed a hi hf
  have hdst : dstOf ops k = some d := by simp [dstOf, ho, hd]
  have hkT : k ∉ T := by simpa using hT
  have hpre' : ∀ j, j ∈ preds ops k → j ∈ T := by simpa using hpre
  have hdn' : d < n := of_eq_true (Eq.trans Nat.blt_eq.symm (eq_true hdn))
  have hku : listed.getD k false = false := by cases hx : listed.getD k false; rfl; exact absurd (hi.taken k hx) hkT
  have hPk : ∀ p, p ∈ Pn → p.k ≠ k := fun p hp e => hkT (e ▸ (hi.prom p hp).1)
  have hPlt : ∀ p, p ∈ Pn → listed.getD p.k false = false → p.k < ops.size := fun p hp hu => by
    obtain ⟨_, hd', _⟩ := (hi.prom p hp).2 hu
    cases hx : dstOf ops p.k with | none => rw [hx] at hd'; simp at hd' | some x => exact dst_lt hx
  have hklt := dst_lt hdst
  refine h fuel listed a ⟨hi.lsize, hi.size, hi.defers, fun i hi' j hj => ?_, hi.closedL, fun i hi' => List.mem_cons_of_mem _ (hi.taken i hi'), fun t u hu => ⟨fun p hp hup hdp => ?_, fun hno => ?_⟩, fun i hi' hui => ?_, fun p hp => ⟨?_, fun hup => ?_⟩, fun p hp q hq e => ?_⟩ hf
  · rcases List.mem_cons.1 hi' with rfl | hi'
    · exact List.mem_cons_of_mem _ (hpre' j hj)
    · exact List.mem_cons_of_mem _ (hi.closedT i hi' j hj)
  · rcases List.mem_cons.1 hp with rfl | hp
    · rw [hdst] at hdp; injection hdp with hdp; subst hdp
      rw [look_cons_eq] at hu; injection hu
    · by_cases e : d = t
      · subst e
        exact absurd hdp (regOk_dst hok (hPlt p hp hup) hklt (Ne.symm (hPk p hp)) hdst).1
      · rw [look_cons_ne _ _ e] at hu; exact (hi.slot t u hu).1 p hp hup hdp
  · by_cases e : d = t
    · subst e; exact absurd hdst (hno ⟨k, v, C⟩ (by simp) hku)
    · rw [look_cons_ne _ _ e] at hu
      exact (hi.slot t u hu).2 fun p hp => hno p (List.mem_cons_of_mem _ hp)
  · rcases List.mem_cons.1 hi' with rfl | hi'
    · exact ⟨⟨i, v, C⟩, by simp, rfl⟩
    · obtain ⟨p, hp, e⟩ := hi.pend i hi' hui
      exact ⟨p, List.mem_cons_of_mem _ hp, e⟩
  · rcases List.mem_cons.1 hp with rfl | hp
    · simp
    · exact List.mem_cons_of_mem _ (hi.prom p hp).1
  · rcases List.mem_cons.1 hp with rfl | hp
    · refine ⟨hC, by simp [hdst, hdn'], Γ, fun w' hw' a' ha' => ⟨o, ho, ?_⟩, fun t u ht hl => ⟨fun q hq huq hdq hqp => ?_, fun hno => ?_⟩⟩
      · rcases hy with ⟨hw, hy⟩ | ⟨hw, hv⟩
        case inr => exact .inr ⟨wantG_of ho hw ha', hv⟩
        refine .inl ⟨wantG_of ho hw ha', ?_⟩
        obtain ⟨ρ, hρ, he⟩ := exec_of (Γ := Γ) (fun cs b => Region.noSelect_spec (regOk_noSelect hok) k o cs b ho) ho ha'
        exact fun next Q hn => (hy w' hw').wpR hρ he fun v' w'' ⟨e1, e2⟩ => by rw [e1, e2]; exact hn
      · rcases List.mem_cons.1 hq with rfl | hq
        · have := regOk_lt hok hklt hqp; simp at this
        · exact (hi.slot t u hl).1 q hq huq hdq
      · refine (hi.slot t u hl).2 fun q hq huq hdq => ?_
        have hqT := (hi.prom q hq).1
        rcases (regOk_dst hok hklt (hPlt q hq huq) (hPk q hq) hdq).2 ht with h6 | h6
        · exact hno q (List.mem_cons_of_mem _ hq) huq h6 hdq
        · exact hkT (hi.closedT q.k hqT k h6)
    · obtain ⟨h1, h2, Γk, h3, h4⟩ := (hi.prom p hp).2 hup
      refine ⟨h1, h2, Γk, h3, fun t u ht hl => ⟨fun q hq huq hdq hqp => ?_, fun hno => (h4 t u ht hl).2 fun q hq => hno q (List.mem_cons_of_mem _ hq)⟩⟩
      rcases List.mem_cons.1 hq with rfl | hq
      · exact absurd (hi.closedT p.k (hi.prom p hp).1 k hqp) hkT
      · exact (h4 t u ht hl).1 q hq huq hdq hqp
  · rcases List.mem_cons.1 hp with rfl | hp <;> rcases List.mem_cons.1 hq with rfl | hq
    · rfl
    · exact absurd e.symm (hPk q hq)
    · exact absurd e (hPk p hp)
    · exact hi.one p hp q hq e

/-- What is promised comes up, whenever it may. -/
theorem drain (hok : regOk ops = true)
    (hrest : ∀ fuel listed a, Inv P n ops T Pn Γ w listed a → ((List.range ops.size).filter fun i => !listed.getD i false).length ≤ fuel + 1 → ∀ j, j ∈ Region.ready .any ops listed → j ∉ T → wpOp P ops Q j (wpAny P .any ops Q fuel (listed.setIfInBounds j true)) a w)
    (hend : ∀ listed a, Inv P n ops T Pn Γ w listed a → (∀ i, i < ops.size → listed.getD i false = true) → Q .normal a w) : WD P n ops Q T Pn Γ w := by
  intro fuel
  induction fuel with
  | zero =>
    intro listed a hi hf
    have hall : ∀ i, i < ops.size → listed.getD i false = true := fun i hlt => by
      cases hx : listed.getD i false with
      | true => rfl
      | false =>
        have : i ∈ (List.range ops.size).filter fun i => !listed.getD i false := by simp only [List.mem_filter, List.mem_range]; exact ⟨hlt, by rw [hx]; rfl⟩
        have := List.length_pos_of_mem this
        omega
    refine ⟨?_, hend listed a hi hall⟩
    rw [List.eq_nil_iff_forall_not_mem]
    intro j hj
    obtain ⟨h1, h2, _⟩ := (ready_iff hi.lsize).1 hj
    rw [hall j h1] at h2; cases h2
  | succ fuel ih =>
    intro listed a hi hf
    refine ⟨fun hr => hend listed a hi fun i hlt => ?_, fun j hj => ?_⟩
    · cases hx : listed.getD i false with
      | true => rfl
      | false =>
        obtain ⟨j, hj⟩ := ready_some hok hi.lsize hlt hx
        rw [hr] at hj; cases hj
    · by_cases hT : j ∈ T
      · obtain ⟨h1, h2, _⟩ := (ready_iff hi.lsize).1 hj
        obtain ⟨p, hp, rfl⟩ := hi.pend j hT h2
        obtain ⟨o, d, ho, hd, hi', hres⟩ := hi.run hok hp hj
        have hk := ih (listed.setIfInBounds p.k true) (a.put (some d) p.v) hi' (count_set h1 hi.lsize h2 hf)
        unfold wpOp
        rw [ho]
        rcases hres with ⟨hw, hr⟩ | ⟨hw, hv⟩
        · simp only [hw, if_true]
          exact .inl (hr _ _ (by rw [hd]; exact hk))
        · simp only [hw, Bool.false_eq_true, if_false]
          rw [hd, ← hv]; exact hk
      · exact hrest fuel listed a hi hf j hj hT

/-- All are taken. -/
theorem WD.done (hok : regOk ops = true) (hall : (List.range ops.size).all T.contains = true) (h : X n Q .normal Γ w) : WD P n ops Q T Pn Γ w := by
  have hall' : ∀ i, i < ops.size → i ∈ T := by simpa using hall
  refine drain hok (fun fuel listed a hi _ j hj hT => absurd (hall' j ((ready_iff hi.lsize).1 hj).1) hT) fun listed a hi hl => h a ⟨hi.size, hi.defers, fun t v hv => (hi.slot t v hv).2 fun p hp hup hdp => ?_⟩
  rw [hl p.k (dst_lt hdp)] at hup; cases hup

/-- The ways part at what a slot holds. -/
theorem WD.part (t : Nat) {p : Prop} [Decidable p] (ht : look Γ t = some (.bool (decide p))) (h1 : p → WD P n ops Q T Pn ((t, .bool true) :: Γ) w) (h2 : ¬ p → WD P n ops Q T Pn ((t, .bool false) :: Γ) w) : WD P n ops Q T Pn Γ w := by
  intro fuel listed a hi hf
  have key : ∀ b, decide p = b → Inv P n ops T Pn ((t, .bool b) :: Γ) w listed a := fun b hb => by
    refine ⟨hi.lsize, hi.size, hi.defers, hi.closedT, hi.closedL, hi.taken, fun u v hv => hi.slot u v ?_, hi.pend, hi.prom, hi.one⟩
    by_cases e : t = u
    · subst e; rw [look_cons_eq] at hv; rw [ht, hb]; exact hv
    · rwa [look_cons_ne _ _ e] at hv
  by_cases hp : p
  · exact h1 hp fuel listed a (key true (by simp [hp])) hf
  · exact h2 hp fuel listed a (key false (by simp [hp])) hf

/-- All that one waits for, through others too. -/
def ancs (ops : Array Oper) (j : Nat) : List Nat := (List.range j).reverse.foldl (fun S i => if (j :: S).any (fun s => (preds ops s).contains i) then i :: S else S) []
theorem ancs_listed {j : Nat} (hj : ∀ i, i ∈ preds ops j → listed.getD i false = true) (hc : ∀ i, listed.getD i false = true → ∀ k, k ∈ preds ops i → listed.getD k false = true) : ∀ i, i ∈ ancs ops j → listed.getD i false = true := by
  unfold ancs
  have : ∀ (l S : List Nat), (∀ i, i ∈ S → listed.getD i false = true) → ∀ i, i ∈ l.foldl (fun S i => if (j :: S).any (fun s => (preds ops s).contains i) then i :: S else S) S → listed.getD i false = true := by
    intro l
    induction l with
    | nil => intro S hS i hi; exact hS i hi
    | cons x l ih =>
      intro S hS i hi
      simp only [List.foldl_cons] at hi
      refine ih _ ?_ i hi
      intro k hk
      split at hk
      · rename_i hx
        rcases List.mem_cons.1 hk with rfl | hk
        · simp only [List.any_cons, Bool.or_eq_true, List.any_eq_true, List.contains_eq_mem, decide_eq_true_eq] at hx
          rcases hx with hx | ⟨s, hs, hx⟩
          · exact hj k hx
          · exact hc s (hS s hs) k hx
        · exact hS k hk
      · exact hS k hk
  exact this _ [] (by simp)

def putG (Γ : Env) (d : Option Tmp) (v : Value) : Env := match d with | some d => (d, v) :: Γ | none => Γ
def Still (w : World) : List Prm → Prop
  | [] => True
  | p :: r => p.C w ∧ Still w r
theorem Still.at {w : World} : ∀ {l : List Prm}, Still w l → ∀ p, p ∈ l → p.C w
  | _ :: _, h, p, hp => by rcases List.mem_cons.1 hp with rfl | hp; exact h.1; exact Still.at h.2 p hp

/-- Operation j is carried out, and what is promised still holds. -/
def Loud (P : Program) (n : Nat) (ops : Array Oper) (Q : Exit → Act → World → Prop) (T : List Nat) (Pn : List Prm) (Γ : Env) (w : World) (j : Nat) : Prop :=
  ∃ o Pn', ops[j]? = some o ∧ T.contains j = false ∧ (preds ops j).all T.contains = true ∧ (match o.dst with | some d => Nat.blt d n | none => true) = true ∧ wantG ops Γ o = some true ∧
    Pn.filter (fun p => !(ancs ops j).contains p.k) = Pn' ∧ Does P Γ w o.op o.type fun v w' => Still w' Pn' ∧ WD P n ops Q (j :: T) Pn' (putG Γ o.dst v) w'
/-- The operations that may come up beside what is promised. -/
theorem WD.louds (hok : regOk ops = true) (js : List Nat) (hne : js.isEmpty = false)
    (honly : ((List.range ops.size).all fun i => js.contains i || T.contains i || !((preds ops i).all T.contains)) = true) (h : ∀ j, j ∈ js → Loud P n ops Q T Pn Γ w j) : WD P n ops Q T Pn Γ w := by
  refine drain hok (fun fuel listed a hi hf i hir hiT => ?_) (fun listed a hi hl => ?_)
  case refine_2 =>
    cases js with
    | nil => simp at hne
    | cons j js =>
      obtain ⟨o, Pn', ho, hT, _⟩ := h j (by simp)
      exact absurd (hi.taken j (hl j (Array.getElem?_eq_some_iff.1 ho).1)) (by simpa using hT)
  obtain ⟨hilt, hiu, hip⟩ := (ready_iff hi.lsize).1 hir
  have hij : i ∈ js := by
    have h1 := List.all_eq_true.1 honly i (by simpa using hilt)
    simp only [Bool.or_eq_true, List.contains_eq_mem, decide_eq_true_eq, Bool.not_eq_true'] at h1
    rcases h1 with (h1 | h1) | h1
    · exact h1
    · exact absurd h1 hiT
    · have : (preds ops i).all T.contains = true := by simp only [List.all_eq_true, List.contains_eq_mem, decide_eq_true_eq]; exact fun k hk => hi.taken k (hip k hk)
      exact absurd this (by rw [h1]; simp)
  obtain ⟨o, Pn', ho, hT, hpre, hdn, hw, hP, h⟩ := h i hij
  have hjT : i ∉ T := by simpa using hT
  have hpre' : ∀ k, k ∈ preds ops i → k ∈ T := by simpa using hpre
  have hmemP : ∀ p, p ∈ Pn' ↔ p ∈ Pn ∧ p.k ∉ ancs ops i := fun p => by rw [← hP]; simp
  have hanc := ancs_listed hip hi.closedL
  have hil : i < listed.size := by rw [hi.lsize]; exact hilt
  have hpl : ∀ p, p ∈ Pn → p.k ≠ i := fun p hp e => hjT (e ▸ (hi.prom p hp).1)
  have hdlt : ∀ p, p ∈ Pn → listed.getD p.k false = false → p.k < ops.size := fun p hp hu => by
    obtain ⟨_, hd', _⟩ := (hi.prom p hp).2 hu
    cases hx : dstOf ops p.k with | none => rw [hx] at hd'; simp at hd' | some x => exact dst_lt hx
  have hag : ∀ t u, t ∈ looks ops i → look Γ t = some u → a.tmps.getD t undef = u := fun t u ht hl => (hi.slot t u hl).2 fun p hp hup hdp => by
    rcases (regOk_dst hok hilt (hdlt p hp hup) (hpl p hp) hdp).2 ht with h6 | h6
    · rw [hip p.k h6] at hup; cases hup
    · exact hjT (hi.closedT p.k (hi.prom p hp).1 i h6)
  have hwant := wantG_of ho hw hag
  obtain ⟨ρ, hρ, he⟩ := exec_of (Γ := Γ) (fun cs b => Region.noSelect_spec (regOk_noSelect hok) i o cs b ho) ho hag
  unfold wpOp
  rw [ho]
  simp only [hwant, if_true]
  refine .inl (h.wpR hρ he fun v w' ⟨hst, hk⟩ => hk fuel _ _ ?_ (count_set hilt hi.lsize hiu hf))
  have hunl : ∀ k, (listed.setIfInBounds i true).getD k false = false → i ≠ k ∧ listed.getD k false = false := fun k hk => by
    rw [getD_setF hil] at hk
    split at hk
    · cases hk
    · rename_i e; exact ⟨e, hk⟩
  have hput : ∀ t, (a.put o.dst v).tmps.getD t undef = if o.dst = some t then v else a.tmps.getD t undef := fun t => by
    cases hx : o.dst with
    | none => simp [Act.put]
    | some d =>
      have hdn' : d < n := by rw [hx] at hdn; exact of_eq_true (Eq.trans Nat.blt_eq.symm (eq_true hdn))
      by_cases e : d = t
      · subst e; simp [Act.put, Array.getD_eq_getD_getElem?, hi.size, hdn']
      · simp [Act.put, Array.getD_eq_getD_getElem?, e]
  have hdi : dstOf ops i = o.dst := by simp [dstOf, ho]
  refine ⟨by simp [hi.lsize], by cases o.dst <;> simp [Act.put, hi.size], by cases o.dst <;> simp [Act.put, hi.defers], fun k hk m hm => ?_, fun k hk m hm => ?_, fun k hk => ?_, fun t u hu => ?_, fun k hk hku => ?_, fun p hp => ⟨List.mem_cons_of_mem _ (hi.prom p ((hmemP p).1 hp).1).1, fun hup => ?_⟩, fun p hp q hq => hi.one p ((hmemP p).1 hp).1 q ((hmemP q).1 hq).1⟩
  · rcases List.mem_cons.1 hk with rfl | hk
    · exact List.mem_cons_of_mem _ (hpre' m hm)
    · exact List.mem_cons_of_mem _ (hi.closedT k hk m hm)
  · rw [getD_setF hil] at hk ⊢
    split
    · rfl
    · split at hk
      · rename_i e; subst e; exact hip m hm
      · exact hi.closedL k hk m hm
  · rw [getD_setF hil] at hk
    split at hk
    · rename_i e; subst e; simp
    · exact List.mem_cons_of_mem _ (hi.taken k hk)
  · rw [hput]
    by_cases e : o.dst = some t
    · rw [if_pos e]
      have : look (putG Γ o.dst v) t = some v := by rw [e]; exact look_cons_eq _ _ _
      rw [this] at hu; injection hu with hu
      refine ⟨fun p hp hup hdp => ?_, fun _ => hu⟩
      have hp1 := ((hmemP p).1 hp).1
      exact absurd (hdi.trans e) (fun e2 => (regOk_dst hok (hdlt p hp1 (hunl _ hup).2) hilt (Ne.symm (hpl p hp1)) e2).1 hdp)
    · rw [if_neg e]
      have : look (putG Γ o.dst v) t = look Γ t := by
        cases hx : o.dst with
        | none => rfl
        | some d => exact look_cons_ne _ _ (fun e2 => e (by rw [hx, e2]))
      rw [this] at hu
      refine ⟨fun p hp hup hdp => (hi.slot t u hu).1 p ((hmemP p).1 hp).1 (hunl _ hup).2 hdp, fun hno => (hi.slot t u hu).2 fun p hp hup hdp => ?_⟩
      refine hno p ((hmemP p).2 ⟨hp, fun ha => by rw [hanc _ ha] at hup; cases hup⟩) ?_ hdp
      rw [getD_setF hil, if_neg (Ne.symm (hpl p hp))]; exact hup
  · obtain ⟨hne, hku⟩ := hunl _ hku
    rcases List.mem_cons.1 hk with rfl | hk
    · exact absurd rfl hne
    · obtain ⟨p, hp, rfl⟩ := hi.pend k hk hku
      exact ⟨p, (hmemP p).2 ⟨hp, fun ha => by rw [hanc _ ha] at hku; cases hku⟩, rfl⟩
  · obtain ⟨hp1, hp2⟩ := (hmemP p).1 hp
    obtain ⟨hne, hup⟩ := hunl _ hup
    obtain ⟨_, h2, Γk, h3, h4⟩ := (hi.prom p hp1).2 hup
    refine ⟨hst.at p hp, h2, Γk, h3, fun t u ht hl => ⟨fun q hq huq hdq hqp => (h4 t u ht hl).1 q ((hmemP q).1 hq).1 (hunl _ huq).2 hdq hqp, fun hno => ?_⟩⟩
    rw [hput]
    have hne' : o.dst ≠ some t := fun e => by
      rcases (regOk_dst hok (hdlt p hp1 hup) hilt hne (hdi.trans e)).2 ht with h6 | h6
      · exact hjT (hi.closedT p.k (hi.prom p hp1).1 i h6)
      · rw [hip p.k h6] at hup; cases hup
    rw [if_neg hne']
    refine (h4 t u ht hl).2 fun q hq huq hqp hdq => ?_
    refine hno q ((hmemP q).2 ⟨hq, fun ha => by rw [hanc _ ha] at huq; cases huq⟩) ?_ hqp hdq
    rw [getD_setF hil, if_neg (Ne.symm (hpl q hq))]; exact huq
/-- The one operation that may come up beside what is promised. -/
theorem WD.loud (hok : regOk ops = true) (j : Nat) (honly : ((List.range ops.size).all fun i => [j].contains i || T.contains i || !((preds ops i).all T.contains)) = true) (h : Loud P n ops Q T Pn Γ w j) : WD P n ops Q T Pn Γ w :=
  WD.louds hok [j] rfl honly (fun i hi => by simp only [List.mem_singleton] at hi; subst hi; exact h)
end
end Go.Sx


/- Slices of whatever elements: read, owned, written, appended to. -/
namespace Go.Sx
set_option linter.unusedVariables false
set_option linter.unusedSimpArgs false

/-- How an element lies in cells. -/
structure Ty (α : Type) where
  sz : Nat
  enc : α → List Value
  len : ∀ x, (enc x).length = sz
  one : ∀ x u, u ∈ enc x → u.oneCell' = true
  pos : 0 < sz
def Ty.all {α : Type} (T : Ty α) (xs : List α) : List Value := xs.flatMap T.enc
def tyI (k : IntKind) : Ty Int := ⟨1, fun x => [.int k x], fun _ => rfl, fun x u h => by simp only [List.mem_singleton] at h; subst h; rfl, by omega⟩
def tyB : Ty Bool := ⟨1, fun x => [.bool x], fun _ => rfl, fun x u h => by simp only [List.mem_singleton] at h; subst h; rfl, by omega⟩
def tyS : Ty ByteArray := ⟨1, fun x => [.string x], fun _ => rfl, fun x u h => by simp only [List.mem_singleton] at h; subst h; rfl, by omega⟩
/-- A slice's own three numbers. -/
structure Sl where
  a : Option Addr
  n : Nat
  c : Nat
def tyL : Ty Sl := ⟨1, fun x => [.slice x.a x.n x.c], fun _ => rfl, fun x u h => by simp only [List.mem_singleton] at h; subst h; rfl, by omega⟩

section
variable {α : Type} (T : Ty α)
theorem Ty.all_length (xs : List α) : (T.all xs).length = xs.length * T.sz := by
  induction xs with
  | nil => simp [Ty.all]
  | cons x xs ih => simp only [Ty.all, List.flatMap_cons, List.length_append, T.len, List.length_cons, Nat.add_mul, Nat.one_mul] at *; rw [ih]; omega
theorem Ty.all_append (xs ys : List α) : T.all (xs ++ ys) = T.all xs ++ T.all ys := by simp [Ty.all]
theorem Ty.all_one (xs : List α) : ∀ u ∈ T.all xs, u.oneCell' = true := by
  intro u hu
  simp only [Ty.all, List.mem_flatMap] at hu
  obtain ⟨x, _, hx⟩ := hu
  exact T.one x u hx
theorem Ty.all_at (d : α) : ∀ (xs : List α) (i j : Nat), i < xs.length → j < T.sz → (T.all xs)[i * T.sz + j]? = (T.enc (xs.getD i d))[j]?
  | [], i, j, h, _ => by simp at h
  | x :: xs, 0, j, _, hj => by
    simp only [Ty.all, List.flatMap_cons, Nat.zero_mul, Nat.zero_add, List.getD_cons_zero]
    rw [List.getElem?_append_left (by rw [T.len]; exact hj)]
  | x :: xs, i + 1, j, h, hj => by
    simp only [Ty.all, List.flatMap_cons, List.getD_cons_succ]
    rw [List.getElem?_append_right (by rw [T.len, Nat.add_mul]; omega), T.len, ← Ty.all_at d xs i j (by simpa using h) hj]
    congr 1
    rw [Nat.add_mul]; omega
theorem Ty.all_at1 (h1 : T.sz = 1) (d : α) (xs : List α) (i : Nat) (h : i < xs.length) : (T.all xs)[i]? = (T.enc (xs.getD i d))[0]? := by
  have := T.all_at d xs i 0 h (by omega)
  simpa [h1] using this
theorem Ty.all_part (d : α) (xs : List α) (i : Nat) (h : i < xs.length) : ((T.all xs).drop (i * T.sz)).take T.sz = T.enc (xs.getD i d) := by
  apply List.ext_getElem?
  intro j
  rw [List.getElem?_take]
  by_cases hj : j < T.sz
  · rw [if_pos hj, List.getElem?_drop, T.all_at d xs i j h hj]
  · rw [if_neg hj, List.getElem?_eq_none (by rw [T.len]; omega)]
/-- A slice that is read. -/
def RdT (w : World) (v : Value) (xs : List α) : Prop := Rd w v T.sz xs.length (T.all xs)
/-- A slice of one's own. -/
def rowT (v : Value) (e : TypeId) (xs : List α) : Chunk := row v e T.sz xs.length (T.all xs)
end

section
variable {α : Type} {T : Ty α} {P : Program} {Γ : Env} {w : World} {ty : TypeId} {K : Value → World → Prop}
theorem RdT.kept {w' : World} {v : Value} {xs : List α} (h : RdT T w v xs) (k : Keep [] w w') : RdT T w' v xs := Rd.kept h k
theorem RdT.keep {w' : World} {v : Value} {xs : List α} {S : List Nat} (h : RdT T w v xs) (k : Keep S w w') (hS : ∀ g, Value.blk? v = some g → g ∉ S) : RdT T w' v xs := Rd.keep h k hS
theorem RdT.at {w' : World} {v : Value} {xs : List α} {G : List (List Chunk)} (h : RdT T w v xs) (k : UpG w [] w' G) : RdT T w' v xs := Rd.at h k
theorem RdT.nil (w : World) (A : Option Addr) (cap : Nat) : RdT T w (.slice A 0 cap) [] := ⟨A, cap, rfl, by simp [Ty.all], by simp, by simp [Ty.all]⟩
theorem RdT.le {v : Value} {xs : List α} (h : RdT T w v xs) : xs.length ≤ 9223372036854775807 := by obtain ⟨_, _, _, _, h, _⟩ := h; exact h
theorem UpG.rdT {w' : World} {L : List Chunk} {G : List (List Chunk)} {v : Value} {e : TypeId} {xs : List α} (h : UpG w L w' G) (i : Nat) (hi : G[i]? = some [rowT T v e xs]) : RdT T w' v xs := h.rd i hi
theorem UpG.ownT {w' : World} {L : List Chunk} {G : List (List Chunk)} {v : Value} {e : TypeId} {xs : List α} (h : UpG w L w' G) (i : Nat) (hi : G[i]? = some [rowT T v e xs]) : w'.ownsRow 0 e T.sz v xs.length (T.all xs) := h.own i hi
theorem UpG.re {w w' : World} {L : List Chunk} {G G' : List (List Chunk)} (h : UpG w L w' G) (e : G'.flatten = G.flatten) : UpG w L w' G' := by unfold UpG at *; rw [e]; exact h
/-- '&xs[i]', elements of one cell. -/
theorem t_addr1 {t e : TypeId} {x ix : Operand} {v : Value} {kd : IntKind} {i : Int} {b : Nat} {z : Option Value} {xs : List α} (j : Nat) (hT : T.sz = 1) (ht : P.underlying t = some (.slice e)) (hs : szOf P e = some (1, b, z))
    (hx : ev Γ x = some v) (hi : ev Γ ix = some (.int kd i)) (hr : RdT T w v xs) (hij : i = ((j : Nat) : Int)) (hj : j < xs.length) (k : K (elemPtr v j) w) : Does P Γ w (.indexAddr t x ix) ty K := by
  subst hij
  unfold RdT at hr
  rw [hT] at hr
  exact d_indexAddr ht hs hx hi hr (by omega) (by omega) (by omega) (by simpa using k)
theorem t_addrN {t e : TypeId} {x ix : Operand} {v : Value} {kd : IntKind} {i : Int} {s b : Nat} {z : Option Value} {xs : List α} (j : Nat) (hT : T.sz = s) (ht : P.underlying t = some (.slice e)) (hs : szOf P e = some (s, b, z))
    (hx : ev Γ x = some v) (hi : ev Γ ix = some (.int kd i)) (hr : RdT T w v xs) (hij : i = ((j : Nat) : Int)) (hj : j < xs.length) (k : K (elemPtr v (j * s)) w) : Does P Γ w (.indexAddr t x ix) ty K := by
  subst hij
  subst hT
  exact d_indexAddr ht hs hx hi hr (by omega) (by omega) T.pos (by simpa using k)
theorem t_load1 {t : TypeId} {x : Operand} {v : Value} {xs : List α} {desc : TypeDesc} {u : Value} (j : Nat) (d : α) (hT : T.sz = 1) (ht : P.underlying t = some desc) (hd : aggD desc = false) (hx : ev Γ x = some (elemPtr v j)) (hr : RdT T w v xs) (hj : j < xs.length)
    (he : T.enc (xs.getD j d) = [u]) (k : K u w) : Does P Γ w (.load t x) ty K :=
  d_loadR ht hd hx hr (by rw [T.all_at1 hT d xs j hj, he]; rfl) k
theorem t_loadN {t : TypeId} {x : Operand} {v : Value} {xs : List α} {desc : TypeDesc} {s b : Nat} {z : Option Value} {us : List Value} (j : Nat) (d : α) (hT : T.sz = s) (ht : P.underlying t = some desc) (hd : aggD desc = true) (hs : szOf P t = some (s, b, z)) (hx : ev Γ x = some (elemPtr v (j * s))) (hr : RdT T w v xs) (hj : j < xs.length)
    (he : T.enc (xs.getD j d) = us) (k : K (.agg us.toArray) w) : Does P Γ w (.load t x) ty K := by
  subst hT
  exact d_loadAR us ht hd hs hx hr (by rw [← he, T.len]) T.pos (by rw [T.all_part d xs j hj, he]) k
/-- A field of an element. -/
theorem t_fld {t : TypeId} {x : Operand} {f off s sf : Nat} {g : Bool} {v : Value} {xs : List α} (j : Nat) (d : α) (hT : T.sz = s) (hf : fldOf P t f = some (off, sf, g)) (hs : Nat.beq sf 0 = false) (hx : ev Γ x = some (elemPtr v (j * s))) (hr : RdT T w v xs) (hj : j < xs.length) (k : K (elemPtr v (j * s + off)) w) : Does P Γ w (.fieldAddr t x f) ty K := by
  subst hT
  have h1 := T.all_at d xs j 0 hj T.pos
  rw [Nat.add_zero, List.getElem?_eq_getElem (l := T.enc (xs.getD j d)) (by rw [T.len]; exact T.pos)] at h1
  exact d_fieldAddrR hf hs hx hr h1 k
theorem t_loadF {t : TypeId} {x : Operand} {v : Value} {xs : List α} {desc : TypeDesc} {off s : Nat} {u : Value} (j : Nat) (d : α) (hT : T.sz = s) (hlt : Nat.blt off s = true) (ht : P.underlying t = some desc) (hd : aggD desc = false) (hx : ev Γ x = some (elemPtr v (j * s + off))) (hr : RdT T w v xs) (hj : j < xs.length)
    (he : (T.enc (xs.getD j d))[off]? = some u) (k : K u w) : Does P Γ w (.load t x) ty K := by
  subst hT
  exact d_loadR ht hd hx hr (by rw [T.all_at d xs j off hj (of_eq_true (Eq.trans Nat.blt_eq.symm (eq_true hlt))), he]) k
theorem t_append {s x : Operand} {t e : TypeId} {sz b c cx : Nat} {z : Value} {a A : Option Addr} {xs ys : List α} (hT : T.sz = sz) (ht : P.underlying t = some (.slice e)) (hs : szOf P e = some (sz, b, some z)) (hzs : z.cells.size = sz)
    (hev : ev Γ s = some (.slice a xs.length c)) (hx : ev Γ x = some (.slice A ys.length cx)) (ho : w.ownsRow 0 e T.sz (.slice a xs.length c) xs.length (T.all xs)) (hr : RdT T w (.slice A ys.length cx) ys) (hb : (xs.length + ys.length) * b ≤ 140737488355328) (h63 : xs.length + ys.length ≤ 9223372036854775807)
    (k : ∀ a' c' w', Upd w [rowT T (.slice a xs.length c) e xs] w' [rowT T (.slice a' (xs ++ ys).length c') e (xs ++ ys)] → K (.slice a' (xs ++ ys).length c') w') : Does P Γ w (.call { callee := .builtin .append, args := #[s, x], argTypes := #[t, t] }) ty K := by
  subst hT
  refine d_append ht hs hzs (of_eq_true (Eq.trans Nat.blt_eq (eq_true T.pos))) hev hx ho hr (T.all_one ys) hb h63 fun a' c' w' h => ?_
  have := k a' c' w'
  unfold rowT at this
  rw [List.length_append, T.all_append] at this
  exact this h
theorem t_made {g : Nat} {cs : Array Value} {e : TypeId} {w' : World} {xs : List α} {sz : Nat} (_hT : T.sz = sz) (h : Upd w [] w' [row (.slice (some ⟨g, 0, none⟩) xs.length xs.length) e sz xs.length cs.toList]) (hc : cs.toList = T.all xs) : Upd w [] w' [rowT T (.slice (some ⟨g, 0, none⟩) xs.length xs.length) e xs] := by
  unfold rowT
  rw [_hT, ← hc]
  exact h
theorem t_buildSlice {t e : TypeId} {len sz b : Nat} {z : Value} {ps : Array (Nat × Operand)} {vs : List (Nat × Value)} {cs : Array Value} {xs : List α} (hT : T.sz = sz) (ht : P.underlying t = some (.slice e)) (hs : szOf P e = some (sz, b, some z)) (hp : evp Γ ps.toList = some vs) (hlen : xs.length = len)
    (hsmall : Nat.ble (len * sz) 16777216 = true) (hpos : Nat.beq (len * sz) 0 = false)
    (hf : Instr.fill (fun i => some (i * sz, sz)) ((Array.range (len * sz)).map (z.cells[· % z.cells.size]!)) vs = some cs) (hcs : cs.size = len * sz) (hxs : cs.toList = T.all xs)
    (k : ∀ w', Upd w [] w' [rowT T (.slice (some ⟨w.heap.size, 0, none⟩) xs.length xs.length) e xs] → K (.slice (some ⟨w.heap.size, 0, none⟩) xs.length xs.length) w') : Does P Γ w (.buildSlice t len ps) ty K := by
  subst hlen
  exact d_buildSlice ht hs hp hsmall hpos hf hcs fun w' h => k w' (t_made hT h hxs)
/-- 'make([]T, 0, n)'. -/
theorem t_make0 {t e : TypeId} {x y : Operand} {kx ky : IntKind} {sz b : Nat} {z : Value} {l : Int} (n : Nat) (hT : T.sz = sz) (ht : P.underlying t = some (.slice e)) (hs : szOf P e = some (sz, b, some z)) (hx : ev Γ x = some (.int kx 0)) (hy : ev Γ y = some (.int ky l))
    (hl : l = ((n : Nat) : Int)) (hb : b * n ≤ 140737488355328) (hc : n ≤ 9223372036854775807)
    (k : ∀ w', Upd w [] w' [rowT T (.slice (some ⟨w.heap.size, 0, none⟩) ([] : List α).length n) e []] → K (.slice (some ⟨w.heap.size, 0, none⟩) ([] : List α).length n) w') : Does P Γ w (.makeSlice t x y) ty K := by
  subst hl hT
  have hb' : (b : Int) * (n : Int) ≤ 140737488355328 := by
    have h : ((b * n : Nat) : Int) ≤ 140737488355328 := by omega
    rwa [Int.natCast_mul] at h
  refine d_make ht hs hx hy (Int.le_refl _) (by omega) hb' (by omega) fun w' h => ?_
  simp only [Int.toNat_natCast, Int.toNat_zero, Nat.zero_mul, List.take_zero] at h ⊢
  exact k w' h
theorem Upd.nilRowT (w : World) (T : Ty α) (e : TypeId) : Upd w [] w [rowT T (.slice none ([] : List α).length 0) e []] := by
  refine ⟨⟨fun c hc => ?_, by simp [ats, rowT, row, Value.ownBlock]⟩, Keep.refl _ _, fun g hg => by simp [ats, rowT, row, Value.ownBlock] at hg⟩
  simp only [List.mem_singleton] at hc
  subst hc
  exact ⟨by simp [Ty.all], .inl ⟨rfl, rfl⟩⟩
end
end Go.Sx


/- Small words that the walker writes. -/
namespace Go.Sx
set_option linter.unusedVariables false
set_option linter.unusedSimpArgs false
section
variable {P : Program} {n : Nat} {ops : Array Oper} {Q : Exit → Act → World → Prop} {Γ : Env} {w : World} {ty : TypeId} {K : Value → World → Prop}

theorem W.iteB {c : Operand} {x y : Code} {b : Bool} (hc : ev Γ c = some (.bool b)) (h1 : b = true → W P n x Q Γ w) (h2 : ¬ b = true → W P n y Q Γ w) : W P n (.cond c x y) Q Γ w := by
  cases b
  · exact W.iff hc (h2 (by simp))
  · exact W.ift hc (h1 rfl)

/-- Byte j of a string. -/
def bt (s : ByteArray) (j : Nat) : Int := ((s.data.toList.getD j 0).toNat : Int)
theorem bt_range (s : ByteArray) (j : Nat) : 0 ≤ bt s j ∧ bt s j ≤ 255 := by
  have := (s.data.toList.getD j 0).toNat_lt
  unfold bt; omega
theorem d_idxStrN {t : TypeId} {x ix : Operand} {s : ByteArray} {kd : IntKind} {i : Int} (j : Nat) (ht : P.underlying t = some .string) (hx : ev Γ x = some (.string s)) (hi : ev Γ ix = some (.int kd i)) (hij : i = ((j : Nat) : Int)) (hj : j < s.size) (k : K (.int .u8 (bt s j)) w) : Does P Γ w (.index t x ix) ty K := by
  subst hij
  refine d_idxStr ht hx hi (by omega) (by simpa using hj) ?_
  have : (((s[((j : Nat) : Int).toNat]'(by simpa using hj)).toNat : Nat) : Int) = bt s j := by
    have h2 : j < s.data.size := hj
    have h3 : s.data.toList.getD j 0 = s.data[j]'h2 := by rw [List.getD_eq_getElem?_getD, Array.getElem?_toList, Array.getElem?_eq_getElem h2]; rfl
    unfold bt
    rw [h3]
    simp only [Int.toNat_natCast]
    rfl
  rw [this]; exact k
theorem d_substrN {t : TypeId} {x : Operand} {lo hi : Option Operand} {vlo vhi : Option Value} {s : ByteArray} (l h : Int) (ln hn : Nat) (ht : P.underlying t = some .string) (hx : ev Γ x = some (.string s)) (hlo : evO Γ lo = some vlo) (hhi : evO Γ hi = some vhi)
    (el : vlo = none ∧ l = 0 ∨ ∃ kd, vlo = some (.int kd l)) (eh : vhi = none ∧ h = s.size ∨ ∃ kd, vhi = some (.int kd h)) (hl : l = ((ln : Nat) : Int)) (hh : h = ((hn : Nat) : Int)) (hk : bdOk l h s.size) (k : K (.string (s.extract ln hn)) w) : Does P Γ w (.slice t x lo hi none) ty K := by
  subst hl hh
  exact d_substr _ _ ht hx hlo hhi el eh hk (by simpa using k)
theorem d_min {x y : Operand} {ts : Array TypeId} {kd : IntKind} {a b : Int} (hx : ev Γ x = some (.int kd a)) (hy : ev Γ y = some (.int kd b)) (k : K (.int kd (min a b)) w) : Does P Γ w (.call { callee := .builtin .min, args := #[x, y], argTypes := ts }) ty K :=
  Does.of_run (fun ρ hρ => by
    have : (if b < a then b else a) = min a b := by split <;> omega
    simp [ex, execOp, hρ x _ hx, hρ y _ hy, resolve, invoke, builtin, Builtin.min_, Builtin.min2, this]) k
theorem boolEnv {a : Act} {t : Nat} {b c : Bool} (ha : Agree n a Γ) (ht : look Γ t = some (.bool b)) (hb : b = c) : Agree n a ((t, .bool c) :: Γ) :=
  ha.sub fun u v e => by
    by_cases hu : t = u
    · subst hu; rw [look_cons_eq] at e; rw [ht, hb]; exact e
    · rwa [look_cons_ne _ _ hu] at e
theorem WL.partB {l : List Oper} (t : Nat) {b : Bool} (ht : look Γ t = some (.bool b)) (h1 : b = true → WL P n ops Q l ((t, .bool true) :: Γ) w) (h2 : ¬ b = true → WL P n ops Q l ((t, .bool false) :: Γ) w) : WL P n ops Q l Γ w :=
  fun a ha => by
    cases hb : b
    · exact h2 (by simp [hb]) a (boolEnv ha ht hb)
    · exact h1 hb a (boolEnv ha ht hb)
theorem WD.partB {T : List Nat} {Pn : List Prm} (t : Nat) {b : Bool} (ht : look Γ t = some (.bool b)) (h1 : b = true → WD P n ops Q T Pn ((t, .bool true) :: Γ) w) (h2 : ¬ b = true → WD P n ops Q T Pn ((t, .bool false) :: Γ) w) : WD P n ops Q T Pn Γ w :=
  WD.part t (p := b = true) (by rw [ht]; simp) h1 h2
/-- Some of what is owned, in whatever order. -/
theorem pairwise_sel {α : Type} {R : α → α → Prop} (hs : ∀ a b, R a b → R b a) {F M : List α} {l : List Nat} (hl : l.map (fun i => F[i]?) = M.map some) (hn : l.Nodup) (hF : F.Pairwise R) : M.Pairwise R := by
  rw [List.pairwise_iff_getElem] at hF ⊢
  have hlen : l.length = M.length := by simpa using congrArg List.length hl
  have hat : ∀ i (h : i < M.length), ∃ h2 : l[i]'(by omega) < F.length, F[l[i]'(by omega)]'h2 = M[i] := by
    intro i h
    have h1 : (l.map (fun i => F[i]?))[i]? = (M.map some)[i]? := by rw [hl]
    simp only [List.getElem?_map, List.getElem?_eq_getElem (show i < l.length by omega), List.getElem?_eq_getElem h, Option.map_some, Option.some.injEq] at h1
    obtain ⟨h2, h3⟩ := List.getElem?_eq_some_iff.1 h1
    exact ⟨h2, h3⟩
  intro i j hi hj hij
  obtain ⟨a1, a2⟩ := hat i hi
  obtain ⟨b1, b2⟩ := hat j hj
  have hne : l[i]'(by omega) ≠ l[j]'(by omega) := fun e => by
    have := (List.getElem_inj hn).1 e
    omega
  rw [← a2, ← b2]
  rcases Nat.lt_or_gt_of_ne hne with h | h
  · exact hF _ _ a1 b1 h
  · exact hs _ _ (hF _ _ b1 a1 h)
theorem Upd.sel {w w' : World} {L M : List Chunk} {G : List (List Chunk)} (h : UpG w L w' G) {l : List Nat} (hl : l.map (fun i => G.flatten[i]?) = M.map some) (hn : decide l.Nodup = true) : Upd w L w' M := by
  have hmem : ∀ c, c ∈ M → c ∈ G.flatten := fun c hc => by
    have : some c ∈ M.map some := List.mem_map_of_mem hc
    rw [← hl] at this
    obtain ⟨i, _, hi⟩ := List.mem_map.1 this
    exact List.mem_of_getElem? hi
  refine ⟨⟨fun c hc => (Upd.hp h).holds c (hmem c hc), ?_⟩, h.keep, fun g hg => ?_⟩
  · have h1 := (Upd.hp h).nodup
    unfold ats at h1 ⊢
    rw [List.nodup_iff_pairwise_ne, List.pairwise_flatMap] at h1 ⊢
    exact ⟨fun c hc => h1.1 c (hmem c hc), pairwise_sel (fun a b hab x hx y hy e => hab y hy x hx e.symm) hl (of_decide_eq_true hn) h1.2⟩
  · obtain ⟨c, hc, e⟩ := mem_ats.1 hg
    exact Upd.fresh h g (mem_ats.2 ⟨c, hmem c hc, e⟩)

/-- What a result's variable holds. -/
def resOf (tmps : Array Value) (r : ResultVar) : Sem Value := match r with | .tmp t => pure (tmps.getD t undef) | .cell a t => do loadVar t (← asAddr (tmps.getD a undef))
theorem results_of (fn : Func) (tmps : Array Value) : results fn tmps = (do let vs ← fn.results.mapM (resOf tmps); pure (if h : vs.size = 1 then vs[0] else .tuple vs)) := rfl
def RVal (P : Program) (Γ : Env) (w : World) (r : ResultVar) (v : Value) : Prop :=
  ∀ tmps : Array Value, (∀ t u, look Γ t = some u → tmps.getD t undef = u) → Sem.run P (resOf tmps r) w = .ok v w
theorem rv_tmp {t : Tmp} {v : Value} (h : look Γ t = some v) : RVal P Γ w (.tmp t) v := fun tmps ht => by simp only [resOf, ht t v h]; rfl
theorem rv_cellA {a : Tmp} {t : TypeId} {d : TypeDesc} {g off s b : Nat} {z : Option Value} {cs : Array Value} {e : TypeId} (us : List Value) (hu : P.underlying t = some d) (hd : aggD d = true) (hs : szOf P t = some (s, b, z)) (h : look Γ a = some (.pointer (some ⟨g, off, none⟩))) (hb : w.heap[g]? = some (.cells cs e (0, 0)))
    (hl : us.length = s) (hc : (cs.toList.drop off).take s = us) : RVal P Γ w (.cell a t) (.agg us.toArray) := fun tmps ht => by
  simp only [resOf, ht a _ h, asAddr, loadVar]
  have hcell : ∀ j v, us[j]? = some v → w.cell? ((⟨g, off, none⟩ : Addr).add j) = some v := fun j u hj => by
    rw [add_off, cells_of_blk hb]
    rw [← hc, List.getElem?_take] at hj
    split at hj
    · simpa using hj
    · cases hj
  subst hl
  simp [run_isAgg hu, hd, run_sz hs, run_loadCells_list (P := P) (w := w) _ us hcell]
theorem X.retR1 {fn : Func} {R : Value → World → Prop} {r1 : ResultVar} (hr : fn.results = #[r1]) {v1 : Value} (h1 : RVal P Γ w r1 v1) (h : R v1 w) : X n (bodyPost P fn (Ret R)) .ret Γ w :=
  fun a ha => bodyPost_ret (v := v1) (by
    have e1 := h1 a.tmps ha.slot
    simp [results_of, hr, e1]) ha.defers ⟨_, rfl, h⟩
theorem X.retR2 {fn : Func} {R : Value → World → Prop} {r1 r2 : ResultVar} (hr : fn.results = #[r1, r2]) {v1 v2 : Value} (h1 : RVal P Γ w r1 v1) (h2 : RVal P Γ w r2 v2) (h : R (.tuple #[v1, v2]) w) : X n (bodyPost P fn (Ret R)) .ret Γ w :=
  fun a ha => bodyPost_ret (v := .tuple #[v1, v2]) (by
    have e1 := h1 a.tmps ha.slot
    have e2 := h2 a.tmps ha.slot
    simp [results_of, hr, e1, e2]) ha.defers ⟨_, rfl, h⟩
/-- Two groups are worked on; new memory may come. -/
theorem UpG.hp2 {w w' : World} {L A B : List Chunk} {G : List (List Chunk)} (h : UpG w L w' G) (i j : Nat) (hij : Nat.beq i j = false) (hi : G[i]? = some A) (hj : G[j]? = some B) : Hp w' (A ++ B) := by
  have hne : i ≠ j := by intro e; subst e; simp at hij
  have p1 := perm_set G i A hi
  have p2 := perm_set (G.set i []) j B (by rw [List.getElem?_set_ne hne]; exact hj)
  have h1 := (Hp.perm (Upd.hp h) (p1.trans (p2.append_left A)))
  rw [← List.append_assoc] at h1
  exact h1.left
theorem UpG.on2 {w w1 w2 : World} {L A B A' B' C : List Chunk} {G : List (List Chunk)} (h : UpG w L w1 G) (i j : Nat) (hij : Nat.beq i j = false) (hi : G[i]? = some A) (hj : G[j]? = some B) (k : Upd w1 (A ++ B) w2 (A' ++ B' ++ C)) : UpG w L w2 ((G.set i A').set j B' ++ [C]) := by
  have hne : i ≠ j := by intro e; subst e; simp at hij
  have hj' : (G.set i [])[j]? = some B := by rw [List.getElem?_set_ne hne]; exact hj
  have p1 := perm_set G i A hi
  have p2 := perm_set (G.set i []) j B hj'
  have p := p1.trans (p2.append_left A)
  rw [← List.append_assoc] at p
  have u := Upd.frame (Upd.perm h p) k
  refine Upd.perm u ?_
  have hi'' : ((G.set i A').set j [])[j]? = some [] := by
    have : j < G.length := (List.getElem?_eq_some_iff.1 hj).1
    simp [this]
  have q1 := perm_set' (G.set i []) j B B' hj'
  have hi2 : ((G.set i []).set j B')[i]? = some [] := by
    have : i < G.length := (List.getElem?_eq_some_iff.1 hi).1
    rw [List.getElem?_set_ne (Ne.symm hne)]; simp [this]
  have q2 := perm_set' ((G.set i []).set j B') i [] A' hi2
  have e1 : ((G.set i []).set j B').set i [] = (G.set i []).set j B' := by rw [List.set_comm _ _ (Ne.symm hne), List.set_set]
  have e2 : ((G.set i []).set j B').set i A' = (G.set i A').set j B' := by rw [List.set_comm _ _ (Ne.symm hne), List.set_set]
  rw [e1, e2] at q2
  simp only [List.flatten_append, List.flatten_cons, List.flatten_nil, List.append_nil]
  refine List.Perm.trans ?_ (q2.append_right C)
  refine List.Perm.trans ?_ ((q1.append_left A').append_right C)
  simp only [List.append_assoc]
  refine List.Perm.append_left A' (List.Perm.append_left B' ?_)
  exact List.perm_append_comm
end
theorem nilOwn {α : Type} {T : Ty α} {e : TypeId} {w w' : World} {L : List Chunk} {G : List (List Chunk)} (h : UpG w L w' G) : Upd w L w' [rowT T (.slice none ([] : List α).length 0) e []] :=
  ((UpG.of (G := []) h.noneL rfl).new' (Upd.nilRowT w' T e)).one 0 rfl
end Go.Sx


/- What the program's tables say of types and functions, for walks. -/
namespace Go.Proofs.YtnjjjmpdikpjaabDoor
open Go Go.Sx
theorem sz3 : szOf Tryd.prog 3 = some (1, 8, some (.int .i64 0)) := by kernel_rfl
theorem sz4 : szOf Tryd.prog 4 = some (1, 1, some (.bool false)) := by kernel_rfl
theorem sz5 : szOf Tryd.prog 5 = some (1, 1, some (.int .u8 0)) := by kernel_rfl
theorem sz9 : szOf Tryd.prog 9 = some (1, 16, some (.string ⟨#[]⟩)) := by kernel_rfl
theorem sz23 : szOf Tryd.prog 23 = some (1, 24, some (.slice none 0 0)) := by kernel_rfl
theorem sz25 : szOf Tryd.prog 25 = some (2, 40, some (.agg #[.slice none 0 0, .string ⟨#[]⟩])) := by kernel_rfl
theorem fld25_0 : fldOf Tryd.prog 25 0 = some (0, 1, false) := by kernel_rfl
theorem fld25_1 : fldOf Tryd.prog 25 1 = some (1, 1, false) := by kernel_rfl
theorem sz54 : szOf Tryd.prog 54 = some (5, 48, some (.agg #[.int .i64 0, .int .i64 0, .int .i64 0, .int .i64 0, .string ⟨#[]⟩])) := by kernel_rfl
theorem fld54_0 : fldOf Tryd.prog 54 0 = some (0, 1, false) := by kernel_rfl
theorem fld54_1 : fldOf Tryd.prog 54 1 = some (1, 1, false) := by kernel_rfl
theorem fld54_2 : fldOf Tryd.prog 54 2 = some (2, 1, false) := by kernel_rfl
theorem fld54_3 : fldOf Tryd.prog 54 3 = some (3, 1, false) := by kernel_rfl
theorem sz69 : szOf Tryd.prog 69 = some (1, 24, some (.slice none 0 0)) := by kernel_rfl
theorem sz71 : szOf Tryd.prog 71 = some (2, 32, some (.agg #[.pointer none, .slice none 0 0])) := by kernel_rfl
theorem fld71_1 : fldOf Tryd.prog 71 1 = some (1, 1, false) := by kernel_rfl
theorem sz82 : szOf Tryd.prog 82 = some (3, 40, some (.agg #[.string ⟨#[]⟩, .string ⟨#[]⟩, .bool false])) := by kernel_rfl
theorem fld82_0 : fldOf Tryd.prog 82 0 = some (0, 1, false) := by kernel_rfl
theorem fld82_1 : fldOf Tryd.prog 82 1 = some (1, 1, false) := by kernel_rfl
theorem fld82_2 : fldOf Tryd.prog 82 2 = some (2, 1, false) := by kernel_rfl
theorem sz91 : szOf Tryd.prog 91 = some (4, 4, some (.agg #[.bool false, .bool false, .bool false, .bool false])) := by kernel_rfl
theorem sz93 : szOf Tryd.prog 93 = some (3, 24, some (.agg #[.int .i64 0, .int .i64 0, .int .i64 0])) := by kernel_rfl
theorem ok6 : CallOk Tryd.prog 6 := callOk Tryd.func6 (by decide) rfl
theorem ok7 : CallOk Tryd.prog 7 := callOk Tryd.func7 (by decide) rfl
theorem ok9 : CallOk Tryd.prog 9 := callOk Tryd.func9 (by decide) rfl
theorem ok10 : CallOk Tryd.prog 10 := callOk Tryd.func10 (by decide) rfl
theorem ok11 : CallOk Tryd.prog 11 := callOk Tryd.func11 (by decide) rfl
theorem ok12 : CallOk Tryd.prog 12 := callOk Tryd.func12 (by decide) rfl
theorem ok13 : CallOk Tryd.prog 13 := callOk Tryd.func13 (by decide) rfl
theorem ok17 : CallOk Tryd.prog 17 := callOk Tryd.func17 (by decide) rfl
theorem ok18 : CallOk Tryd.prog 18 := callOk Tryd.func18 (by decide) rfl
theorem ok19 : CallOk Tryd.prog 19 := callOk Tryd.func19 (by decide) rfl
theorem ok20 : CallOk Tryd.prog 20 := callOk Tryd.func20 (by decide) rfl
theorem ok22 : CallOk Tryd.prog 22 := callOk Tryd.func22 (by decide) rfl
theorem ok25 : CallOk Tryd.prog 25 := callOk Tryd.func25 (by decide) rfl
theorem ok26 : CallOk Tryd.prog 26 := callOk Tryd.func26 (by decide) rfl
theorem ok27 : CallOk Tryd.prog 27 := callOk Tryd.func27 (by decide) rfl
theorem ok28 : CallOk Tryd.prog 28 := callOk Tryd.func28 (by decide) rfl
theorem ok29 : CallOk Tryd.prog 29 := callOk Tryd.func29 (by decide) rfl
theorem ok30 : CallOk Tryd.prog 30 := callOk Tryd.func30 (by decide) rfl
theorem ok31 : CallOk Tryd.prog 31 := callOk Tryd.func31 (by decide) rfl
theorem ok32 : CallOk Tryd.prog 32 := callOk Tryd.func32 (by decide) rfl
theorem ok33 : CallOk Tryd.prog 33 := callOk Tryd.func33 (by decide) rfl
theorem ok34 : CallOk Tryd.prog 34 := callOk Tryd.func34 (by decide) rfl
theorem ok36 : CallOk Tryd.prog 36 := callOk Tryd.func36 (by decide) rfl
theorem ok37 : CallOk Tryd.prog 37 := callOk Tryd.func37 (by decide) rfl
theorem ok38 : CallOk Tryd.prog 38 := callOk Tryd.func38 (by decide) rfl
theorem ok39 : CallOk Tryd.prog 39 := callOk Tryd.func39 (by decide) rfl
theorem ok40 : CallOk Tryd.prog 40 := callOk Tryd.func40 (by decide) rfl
theorem ok41 : CallOk Tryd.prog 41 := callOk Tryd.func41 (by decide) rfl
theorem ok44 : CallOk Tryd.prog 44 := callOk Tryd.func44 (by decide) rfl
theorem ok45 : CallOk Tryd.prog 45 := callOk Tryd.func45 (by decide) rfl
theorem ok50 : CallOk Tryd.prog 50 := callOk Tryd.func50 (by decide) rfl
theorem y3 : type_of% Tryd.underlying3 := Tryd.underlying3
theorem y4 : type_of% Tryd.underlying4 := Tryd.underlying4
theorem y5 : type_of% Tryd.underlying5 := Tryd.underlying5
theorem y9 : type_of% Tryd.underlying9 := Tryd.underlying9
theorem y23 : type_of% Tryd.underlying23 := Tryd.underlying23
theorem y25 : type_of% Tryd.underlying25 := Tryd.underlying25
theorem y33 : type_of% Tryd.underlying33 := Tryd.underlying33
theorem y48 : type_of% Tryd.underlying48 := Tryd.underlying48
theorem y54 : type_of% Tryd.underlying54 := Tryd.underlying54
theorem y69 : type_of% Tryd.underlying69 := Tryd.underlying69
theorem y73 : type_of% Tryd.underlying73 := Tryd.underlying73
theorem y79 : type_of% Tryd.underlying79 := Tryd.underlying79
theorem y82 : type_of% Tryd.underlying82 := Tryd.underlying82
theorem y91 : type_of% Tryd.underlying91 := Tryd.underlying91
theorem y93 : type_of% Tryd.underlying93 := Tryd.underlying93
theorem mixed : Tryd.prog.follows .mixedOrders = true := by kernel_rfl
end Go.Proofs.YtnjjjmpdikpjaabDoor


/- Short words for printed walks. -/
namespace Go.Sx
set_option linter.unusedVariables false
set_option linter.unusedSimpArgs false
section
variable {P : Program} {n : Nat} {ops : Array Oper} {Q : Exit → Act → World → Prop} {Γ : Env} {w : World} {rest : List Oper} {ty : TypeId}

/-- What is owned, in another order. -/
theorem UpG.pm {w w' : World} {L : List Chunk} {G G' : List (List Chunk)} (h : UpG w L w' G) (l : List Nat) (hl : l.map (fun i => G.flatten[i]?) = G'.flatten.map some) (hn : decide l.Nodup = true) : UpG w L w' G' := UpG.of (Upd.sel h hl hn) rfl
theorem oo {d : Nat} {op : Op} {pos : String} {after : Array Edge} (h : Does P Γ w op ty fun v w' => WL P n ops Q rest ((d, v) :: Γ) w') (hd : Nat.blt d n = true := by rfl) :
    WL P n ops Q ({ dst := some d, op, type := ty, pos, after, guard := none } :: rest) Γ w := WL.op hd h
theorem mv {d : Nat} {x : Operand} {v : Value} {pos : String} {after : Array Edge} (hx : ev Γ x = some v) (h : WL P n ops Q rest ((d, v) :: Γ) w) (hd : Nat.blt d n = true := by rfl) :
    WL P n ops Q ({ dst := some d, op := .move x, type := ty, pos, after, guard := none } :: rest) Γ w := WL.op hd (d_move hx h)
theorem ag {d : Nat} {x : Operand} {v : Value} {pos : String} {after : Array Edge} (hx : ev Γ x = some v) (h : WL P n ops Q rest ((d, v) :: Γ) w) (hd : Nat.blt d n = true := by rfl) :
    WL P n ops Q ({ dst := some d, op := .assign x, type := ty, pos, after, guard := none } :: rest) Γ w := WL.op hd (d_assign hx h)
theorem dc {y : Code} (h : W P n y Q Γ w) : WL P n ops (Exit.then (y.wp P Q) Q) [] Γ w := WL.done (X.then_code h)
theorem rg {id : Nat} {l : List Oper} (h : WL P n l.toArray Q l Γ w) : W P n (.region id l.toArray false) Q Γ w := W.region h
theorem sr {id : Nat} {l : List Oper} {y : Code} (h : WL P n l.toArray (Exit.then (y.wp P Q) Q) l Γ w) : W P n (.seq (.region id l.toArray false) y) Q Γ w := W.seq (W.region h)
theorem sc {y : Code} (h : W P n y Q Γ w) : W P n .skip (Exit.then (y.wp P Q) Q) Γ w := W.skip (X.then_code h)
/-- A round has come to its end. -/
theorem X.nx {I : Nat → Env → World → Prop} {m : Nat} (ks : List Nat) {Γ' : Env} (m' : Nat) (hm : m' < m) (h : I m' Γ' w) (he : Sx.pick Γ ks = Γ') :
    X n (Exit.then (fun a' w' => ∃ m', m' < m ∧ ∃ Γ', Agree n a' Γ' ∧ I m' Γ' w') Q) .normal Γ w := X.next ks he m' hm h
theorem X.cu {I : Env → World → Prop} (ks : List Nat) {Γ' : Env} (h : I Γ' w) (he : Sx.pick Γ ks = Γ') : X n (Exit.then (fun a' w' => ∃ Γ', Agree n a' Γ' ∧ I Γ' w') Q) .normal Γ w := X.cut ks he h

/-- A loop: the slots that turn ahead, the others as they are. -/
theorem W.lp {c : Code} (ks : List Nat) {B : Env} {R : List (List Chunk)} {L : List Chunk} (I : Env → List (List Chunk) → List Chunk → Nat → Env → World → Prop) (m : Nat) {Γ' : Env} (h0 : I B R L m Γ' w) (hk : Sx.pick Γ ks = Γ')
    (round : ∀ m Γ w, I B R L m Γ w → W P n c (Exit.then (fun a' w' => ∃ m', m' < m ∧ ∃ Γ', Agree n a' Γ' ∧ I B R L m' Γ' w') Q) Γ w) : W P n (.loop c) Q Γ w :=
  W.pick ks hk (W.loop (I B R L) m h0 round)
theorem W.ct {x y : Code} {B : Env} {R G : List (List Chunk)} {L : List Chunk} {w0 : World} (bs : List Nat) (k : Nat) (hB : Sx.pick Γ bs = B) (hH : UpG w0 L w G) (hR : G.drop k = R) (I : Env → List (List Chunk) → List Chunk → Env → World → Prop) (h1 : W P n x (Exit.then (fun a' w' => ∃ Γ', Agree n a' Γ' ∧ I B R L Γ' w') Q) Γ w) (h2 : ∀ Γ w, I B R L Γ w → W P n y Q Γ w) : W P n (.seq x y) Q Γ w := W.cut (I B R L) h1 h2

/-- Quiet operations of a region whose order is open. -/
theorem tq {T : List Nat} {Pn : List Prm} (hok : regOk ops = true) (k : Nat) {o : Oper} {d : Nat} {v : Value} (ho : ops[k]? = some o) (hd : o.dst = some d) (hD : ∀ w', Does P Γ w' o.op o.type fun v' w'' => v' = v ∧ w'' = w')
    (h : WD P n ops Q (k :: T) (⟨k, v, fun _ => True⟩ :: Pn) ((d, v) :: Γ) w) (hdn : Nat.blt d n = true := by rfl) (hT : T.contains k = false := by rfl) (hpre : (preds ops k).all T.contains = true := by rfl) (hw : wantG ops Γ o = some true := by rfl) : WD P n ops Q T Pn Γ w :=
  WD.take hok k v (fun _ => True) ho hd hdn hT hpre trivial (.inl ⟨hw, fun w' _ => hD w'⟩) h
theorem tm {T : List Nat} {Pn : List Prm} (hok : regOk ops = true) (k : Nat) {x : Operand} {pos : String} {after : Array Edge} {g : Option (Nat × Bool)} {d : Nat} {v : Value} (ho : ops[k]? = some { dst := some d, op := .move x, type := ty, pos, after, guard := g }) (hx : ev Γ x = some v)
    (h : WD P n ops Q (k :: T) (⟨k, v, fun _ => True⟩ :: Pn) ((d, v) :: Γ) w) (hdn : Nat.blt d n = true := by rfl) (hT : T.contains k = false := by rfl) (hpre : (preds ops k).all T.contains = true := by rfl) (hw : wantG ops Γ { dst := some d, op := .move x, type := ty, pos, after, guard := g } = some true := by rfl) : WD P n ops Q T Pn Γ w :=
  tq hok k ho rfl (fun _ => d_move hx ⟨rfl, rfl⟩) h hdn hT hpre hw
theorem tr {α : Type} {U : Ty α} {v0 : Value} {xs : List α} {T : List Nat} {Pn : List Prm} (hok : regOk ops = true) (k : Nat) (hC : RdT U w v0 xs) {o : Oper} {d : Nat} {v : Value} (ho : ops[k]? = some o) (hd : o.dst = some d) (hD : ∀ w', RdT U w' v0 xs → Does P Γ w' o.op o.type fun v' w'' => v' = v ∧ w'' = w')
    (h : WD P n ops Q (k :: T) (⟨k, v, fun w' => RdT U w' v0 xs⟩ :: Pn) ((d, v) :: Γ) w) (hdn : Nat.blt d n = true := by rfl) (hT : T.contains k = false := by rfl) (hpre : (preds ops k).all T.contains = true := by rfl) (hw : wantG ops Γ o = some true := by rfl) : WD P n ops Q T Pn Γ w :=
  WD.take hok k v _ ho hd hdn hT hpre hC (.inl ⟨hw, hD⟩) h
theorem tb {g : Nat} {ob : Obj} {T : List Nat} {Pn : List Prm} (hok : regOk ops = true) (k : Nat) (hC : w.heap[g]? = some ob) {o : Oper} {d : Nat} {v : Value} (ho : ops[k]? = some o) (hd : o.dst = some d) (hD : ∀ w', w'.heap[g]? = some ob → Does P Γ w' o.op o.type fun v' w'' => v' = v ∧ w'' = w')
    (h : WD P n ops Q (k :: T) (⟨k, v, fun w' => w'.heap[g]? = some ob⟩ :: Pn) ((d, v) :: Γ) w) (hdn : Nat.blt d n = true := by rfl) (hT : T.contains k = false := by rfl) (hpre : (preds ops k).all T.contains = true := by rfl) (hw : wantG ops Γ o = some true := by rfl) : WD P n ops Q T Pn Γ w :=
  WD.take hok k v (fun w' => w'.heap[g]? = some ob) ho hd hdn hT hpre hC (.inl ⟨hw, hD⟩) h
theorem lo {T : List Nat} {Pn : List Prm} {j : Nat} {o : Oper} (Pn' : List Prm) (ho : ops[j]? = some o) (hf : Pn.filter (fun p => !(ancs ops j).contains p.k) = Pn')
    (hD : Does P Γ w o.op o.type fun v w' => Still w' Pn' ∧ WD P n ops Q (j :: T) Pn' (putG Γ o.dst v) w') (hT : T.contains j = false := by rfl) (hp : (preds ops j).all T.contains = true := by rfl)
    (hd : (match o.dst with | some d => Nat.blt d n | none => true) = true := by rfl) (hw : wantG ops Γ o = some true := by rfl) : Loud P n ops Q T Pn Γ w j := ⟨o, Pn', ho, hT, hp, hd, hw, hf, hD⟩
theorem wo {T : List Nat} {Pn : List Prm} (hok : regOk ops = true) (j : Nat) (h : Loud P n ops Q T Pn Γ w j) (honly : ((List.range ops.size).all fun i => [j].contains i || T.contains i || !((preds ops i).all T.contains)) = true := by rfl) : WD P n ops Q T Pn Γ w := WD.loud hok j honly h
end
end Go.Sx


/- More words for walks: structs compared. -/
namespace Go.Sx
set_option linter.unusedVariables false
set_option linter.unusedSimpArgs false
section
variable {P : Program} {Γ : Env} {w : World} {ty : TypeId} {K : Value → World → Prop}
theorem RdT.take {α : Type} {T : Ty α} {a : Option Addr} {n c : Nat} {xs : List α} (h : RdT T w (.slice a n c) xs) (k : Nat) (hk : k ≤ xs.length) : RdT T w (.slice a (xs.take k).length c) (xs.take k) := by
  obtain ⟨A, cap, he, hl, hle, hr⟩ := h
  cases he
  have hlen : (xs.take k).length = k := by simp; omega
  refine ⟨a, c, rfl, T.all_length _, by omega, fun j u hj => hr j u ?_⟩
  have e3 : T.all xs = T.all (xs.take k) ++ T.all (xs.drop k) := by rw [← T.all_append, List.take_append_drop]
  rw [e3, List.getElem?_append_left (List.getElem?_eq_some_iff.1 hj).1, hj]
/-- 'xs[:h]' of what is read. -/
theorem t_take {α : Type} {T : Ty α} {t e : TypeId} {x hi : Operand} {kd : IntKind} {a : Option Addr} {c sz b : Nat} {z : Option Value} {xs : List α} (h : Int) (hn : Nat) (hT : T.sz = sz) (ht : P.underlying t = some (.slice e)) (hs : szOf P e = some (sz, b, z)) (hx : ev Γ x = some (.slice a xs.length c)) (hh : ev Γ hi = some (.int kd h))
    (hij : h = ((hn : Nat) : Int)) (hle : hn ≤ xs.length) (hc : xs.length ≤ c) (k : K (.slice a (xs.take hn).length c) w) : Does P Γ w (.slice t x none (some hi) none) ty K := by
  subst hij hT
  have hlen : (xs.take hn).length = hn := by simp; omega
  rw [hlen] at k
  refine d_slice 0 (hn : Int) ht hs hx rfl (by simp [evO, hh]) (.inl ⟨rfl, rfl⟩) (.inr ⟨kd, rfl⟩) ⟨by omega, by omega, by omega⟩ ?_
  have e1 : subSlice (.slice a xs.length c) T.sz (0 : Int).toNat ((hn : Nat) : Int).toNat = .slice a hn c := by
    simp only [subSlice, Int.toNat_zero, Int.toNat_natCast, Nat.zero_mul, Nat.sub_zero]
    split
    · rfl
    · cases a <;> simp [Addr.add]
  rw [e1]
  exact k
end
end Go.Sx


/- Operations as numbers and bytes: plain data. -/
namespace Go.Sx
set_option linter.unusedVariables false
set_option linter.unusedSimpArgs false
structure OpD where
  kind : Int
  slot : Int
  at_ : Int
  len : Int
  text : ByteArray
structure RawD where
  nums : List Int
  text : ByteArray
structure OpRow where
  name : ByteArray
  nums : ByteArray
  text : Bool
def tyOpRow : Ty OpRow := ⟨3, fun d => [.string d.name, .string d.nums, .bool d.text], fun _ => rfl, fun d u hu => by simp at hu; rcases hu with rfl | rfl | rfl <;> rfl, by omega⟩
def opRow0 : OpRow := ⟨.empty, .empty, false⟩
def opRows : List OpRow := [⟨⟨#[105, 110, 115, 101, 114, 116]⟩, ⟨#[65]⟩, true⟩, ⟨⟨#[100, 101, 108, 101, 116, 101]⟩, ⟨#[65, 76]⟩, false⟩, ⟨⟨#[114, 101, 112, 108, 97, 99, 101]⟩, ⟨#[65, 76]⟩, true⟩, ⟨⟨#[117, 110, 100, 111]⟩, ⟨#[]⟩, false⟩, ⟨⟨#[114, 101, 100, 111]⟩, ⟨#[]⟩, false⟩, ⟨⟨#[114, 101, 103, 105, 115, 116, 101, 114]⟩, ⟨#[]⟩, true⟩, ⟨⟨#[102, 111, 114, 103, 101, 116]⟩, ⟨#[83]⟩, false⟩, ⟨⟨#[99, 111, 117, 110, 116]⟩, ⟨#[83]⟩, false⟩, ⟨⟨#[110, 101, 120, 116]⟩, ⟨#[83, 65]⟩, false⟩, ⟨⟨#[112, 114, 101, 118]⟩, ⟨#[83, 65]⟩, false⟩, ⟨⟨#[108, 105, 115, 116]⟩, ⟨#[83, 65, 76]⟩, false⟩, ⟨⟨#[105, 115]⟩, ⟨#[83]⟩, false⟩, ⟨⟨#[101, 110, 100]⟩, ⟨#[83, 65]⟩, false⟩, ⟨⟨#[114, 101, 97, 100]⟩, ⟨#[65, 76]⟩, false⟩, ⟨⟨#[115, 105, 122, 101]⟩, ⟨#[]⟩, false⟩, ⟨⟨#[108, 105, 110, 101]⟩, ⟨#[65]⟩, false⟩, ⟨⟨#[111, 102, 102, 115, 101, 116]⟩, ⟨#[65, 76]⟩, false⟩, ⟨⟨#[115, 119, 97, 112]⟩, ⟨#[83]⟩, true⟩, ⟨⟨#[109, 97, 114, 107]⟩, ⟨#[65, 76]⟩, false⟩, ⟨⟨#[112, 108, 97, 99, 101]⟩, ⟨#[83]⟩, false⟩, ⟨⟨#[119, 97, 116, 99, 104]⟩, ⟨#[83, 76]⟩, false⟩, ⟨⟨#[109, 101, 114, 103, 101]⟩, ⟨#[65, 76]⟩, false⟩, ⟨⟨#[101, 118, 105, 99, 116]⟩, ⟨#[76]⟩, false⟩, ⟨⟨#[99, 111, 109, 112, 97, 99, 116]⟩, ⟨#[]⟩, false⟩]
def opNames : List ByteArray := [⟨#[105, 110, 115, 101, 114, 116]⟩, ⟨#[100, 101, 108, 101, 116, 101]⟩, ⟨#[114, 101, 112, 108, 97, 99, 101]⟩, ⟨#[117, 110, 100, 111]⟩, ⟨#[114, 101, 100, 111]⟩, ⟨#[114, 101, 103, 105, 115, 116, 101, 114]⟩, ⟨#[102, 111, 114, 103, 101, 116]⟩, ⟨#[99, 111, 117, 110, 116]⟩, ⟨#[110, 101, 120, 116]⟩, ⟨#[112, 114, 101, 118]⟩, ⟨#[108, 105, 115, 116]⟩, ⟨#[105, 115]⟩, ⟨#[101, 110, 100]⟩, ⟨#[114, 101, 97, 100]⟩, ⟨#[115, 105, 122, 101]⟩, ⟨#[108, 105, 110, 101]⟩, ⟨#[111, 102, 102, 115, 101, 116]⟩, ⟨#[115, 119, 97, 112]⟩, ⟨#[109, 97, 114, 107]⟩, ⟨#[112, 108, 97, 99, 101]⟩, ⟨#[119, 97, 116, 99, 104]⟩, ⟨#[109, 101, 114, 103, 101]⟩, ⟨#[101, 118, 105, 99, 116]⟩, ⟨#[99, 111, 109, 112, 97, 99, 116]⟩]
def okK (k : Int) : Bool := decide (1 ≤ k ∧ k ≤ 24)
def opRowAt (k : Int) : OpRow := if okK k = true then opRows.getD (k - 1).toNat opRow0 else ⟨⟨#[]⟩, ⟨#[]⟩, false⟩
def cS (k : Int) : Bool := decide (k = 7 ∨ k = 8 ∨ k = 9 ∨ k = 10 ∨ k = 11 ∨ k = 12 ∨ k = 13 ∨ k = 18 ∨ k = 20 ∨ k = 21)
def cA (k : Int) : Bool := decide (k = 1 ∨ k = 2 ∨ k = 3 ∨ k = 9 ∨ k = 10 ∨ k = 11 ∨ k = 13 ∨ k = 14 ∨ k = 16 ∨ k = 17 ∨ k = 19 ∨ k = 22)
def cL (k : Int) : Bool := decide (k = 2 ∨ k = 3 ∨ k = 11 ∨ k = 14 ∨ k = 17 ∨ k = 19 ∨ k = 21 ∨ k = 22 ∨ k = 23)
def cT (k : Int) : Bool := decide (k = 1 ∨ k = 3 ∨ k = 6 ∨ k = 18)
theorem okK_cases {k : Int} (h : okK k = true) : k = 1 ∨ k = 2 ∨ k = 3 ∨ k = 4 ∨ k = 5 ∨ k = 6 ∨ k = 7 ∨ k = 8 ∨ k = 9 ∨ k = 10 ∨ k = 11 ∨ k = 12 ∨ k = 13 ∨ k = 14 ∨ k = 15 ∨ k = 16 ∨ k = 17 ∨ k = 18 ∨ k = 19 ∨ k = 20 ∨ k = 21 ∨ k = 22 ∨ k = 23 ∨ k = 24 := by simp [okK] at h; omega
def pick3 (b : Bool) (p : Nat) (l : List Int) : Int := if b = true then l.getD p 0 else 0
def posA (k : Int) : Nat := 1 + (cS k).toNat
def posL (k : Int) : Nat := 1 + (cS k).toNat + (cA k).toNat
def tot (k : Int) : Nat := 1 + (cS k).toNat + (cA k).toNat + (cL k).toNat
def fS (k : Int) (l : List Int) : Int := pick3 (cS k) 1 l
def fA (k : Int) (l : List Int) : Int := pick3 (cA k) (posA k) l
def fL (k : Int) (l : List Int) : Int := pick3 (cL k) (posL k) l
def op0 : OpD := ⟨0, 0, 0, 0, ⟨#[]⟩⟩
def ofR (r : RawD) : OpD × Int :=
  if r.nums.length = 0 ∨ okK (r.nums.getD 0 0) = false then (op0, 9)
  else if tot (r.nums.getD 0 0) ≠ r.nums.length ∨ (0 < r.text.size ∧ cT (r.nums.getD 0 0) = false) then (op0, 3)
  else if 1048576 < r.text.size then (op0, 4)
  else (⟨r.nums.getD 0 0, fS (r.nums.getD 0 0) r.nums, fA (r.nums.getD 0 0) r.nums, fL (r.nums.getD 0 0) r.nums, r.text⟩, 0)
/-- the document's loop -/
structure TH (k : Int) (l : List Int) (i n : Nat) (v0 v1 v2 : Int) : Prop where
  n : n = 1 + (if 0 < i then (cS k).toNat else 0) + (if 1 < i then (cA k).toNat else 0) + (if 2 < i then (cL k).toNat else 0)
  v0 : v0 = if 0 < i then fS k l else 0
  v1 : v1 = if 1 < i then fA k l else 0
  v2 : v2 = if 2 < i then fL k l else 0
theorem TH.start (k : Int) (l : List Int) : TH k l 0 1 0 0 0 := ⟨by simp, by simp, by simp, by simp⟩
theorem getD_out (l : List Int) (n : Nat) (h : ¬ n < l.length) : l.getD n 0 = 0 := by simp [List.getD_eq_getElem?_getD, List.getElem?_eq_none (by omega : l.length ≤ n)]
section
variable {k : Int} {l : List Int} {n : Nat} {v0 v1 v2 : Int}
theorem TH.in0 (h : TH k l 0 n v0 v1 v2) (c : cS k = true) : TH k l 1 (n + 1) (l.getD n 0) v1 v2 := by
  obtain ⟨rfl, rfl, rfl, rfl⟩ := h; exact ⟨by simp [c], by simp [fS, pick3, c], by simp, by simp⟩
theorem TH.out0 (h : TH k l 0 n v0 v1 v2) (c : cS k = true) (o : ¬ n < l.length) : TH k l 1 (n + 1) v0 v1 v2 := by
  have e := getD_out l n o; have h2 := h.in0 c; rw [e] at h2; have := h.v0; simp at this; rw [this]; exact h2
theorem TH.no0 (h : TH k l 0 n v0 v1 v2) (c : ¬ cS k = true) : TH k l 1 n v0 v1 v2 := by
  obtain ⟨rfl, rfl, rfl, rfl⟩ := h; exact ⟨by simp [c], by simp [fS, pick3, c], by simp, by simp⟩
theorem TH.in1 (h : TH k l 1 n v0 v1 v2) (c : cA k = true) : TH k l 2 (n + 1) v0 (l.getD n 0) v2 := by
  obtain ⟨rfl, rfl, rfl, rfl⟩ := h; exact ⟨by simp [c], by simp, by simp [fA, posA, pick3, c], by simp⟩
theorem TH.out1 (h : TH k l 1 n v0 v1 v2) (c : cA k = true) (o : ¬ n < l.length) : TH k l 2 (n + 1) v0 v1 v2 := by
  have e := getD_out l n o; have h2 := h.in1 c; rw [e] at h2; have := h.v1; simp at this; rw [this]; exact h2
theorem TH.no1 (h : TH k l 1 n v0 v1 v2) (c : ¬ cA k = true) : TH k l 2 n v0 v1 v2 := by
  obtain ⟨rfl, rfl, rfl, rfl⟩ := h; exact ⟨by simp [c], by simp, by simp [fA, pick3, c], by simp⟩
theorem TH.in2 (h : TH k l 2 n v0 v1 v2) (c : cL k = true) : TH k l 3 (n + 1) v0 v1 (l.getD n 0) := by
  obtain ⟨rfl, rfl, rfl, rfl⟩ := h; exact ⟨by simp [c], by simp, by simp, by simp [fL, posL, pick3, c]⟩
theorem TH.out2 (h : TH k l 2 n v0 v1 v2) (c : cL k = true) (o : ¬ n < l.length) : TH k l 3 (n + 1) v0 v1 v2 := by
  have e := getD_out l n o; have h2 := h.in2 c; rw [e] at h2; have := h.v2; simp at this; rw [this]; exact h2
theorem TH.no2 (h : TH k l 2 n v0 v1 v2) (c : ¬ cL k = true) : TH k l 3 n v0 v1 v2 := by
  obtain ⟨rfl, rfl, rfl, rfl⟩ := h; exact ⟨by simp [c], by simp, by simp, by simp [fL, pick3, c]⟩
theorem TH.fin (h : TH k l 3 n v0 v1 v2) : n = tot k ∧ v0 = fS k l ∧ v1 = fA k l ∧ v2 = fL k l := by
  obtain ⟨rfl, rfl, rfl, rfl⟩ := h; simp [tot]
end
/-- the program's loop -/
def put (c v : Int) (p : Int × Int × Int) : Int × Int × Int := if c = 83 then (v, p.2.1, p.2.2) else if c = 65 then (p.1, v, p.2.2) else (p.1, p.2.1, v)
def fieldsTo (s : ByteArray) (l : List Int) : Nat → Int × Int × Int
  | 0 => (0, 0, 0)
  | j + 1 => put (bt s j) (l.getD (j + 1) 0) (fieldsTo s l j)
theorem row_text {k : Int} (h : okK k = true) : (opRowAt k).text = cT k := by
  rcases okK_cases h with rfl | rfl | rfl | rfl | rfl | rfl | rfl | rfl | rfl | rfl | rfl | rfl | rfl | rfl | rfl | rfl | rfl | rfl | rfl | rfl | rfl | rfl | rfl | rfl <;> rfl
theorem row_nums {k : Int} (h : okK k = true) : (opRowAt k).nums.size + 1 = tot k := by
  rcases okK_cases h with rfl | rfl | rfl | rfl | rfl | rfl | rfl | rfl | rfl | rfl | rfl | rfl | rfl | rfl | rfl | rfl | rfl | rfl | rfl | rfl | rfl | rfl | rfl | rfl <;> rfl
theorem row_fields {k : Int} (h : okK k = true) (l : List Int) : fieldsTo (opRowAt k).nums l (opRowAt k).nums.size = (fS k l, fA k l, fL k l) := by
  rcases okK_cases h with rfl | rfl | rfl | rfl | rfl | rfl | rfl | rfl | rfl | rfl | rfl | rfl | rfl | rfl | rfl | rfl | rfl | rfl | rfl | rfl | rfl | rfl | rfl | rfl <;> rfl
theorem size_pos {s : ByteArray} (h : s ≠ ⟨#[]⟩) : 0 < s.size := by
  rcases Nat.eq_zero_or_pos s.size with h0 | h0
  · exact absurd (ByteArray.size_eq_zero_iff.1 h0) h
  · exact h0
theorem nil_size {s : ByteArray} (h : ¬ s ≠ ⟨#[]⟩) : ¬ 0 < s.size := by rw [Classical.not_not.1 h]; decide
def raw0 : RawD := ⟨[], ⟨#[]⟩⟩
def sel (b : Bool) (v : Int) : List Int := if b = true then [v] else []
def rawN (o : OpD) : List Int := [o.kind] ++ sel (cS o.kind) o.slot ++ sel (cA o.kind) o.at_ ++ sel (cL o.kind) o.len
def bad3 (o : OpD) : Prop := (cS o.kind = false ∧ o.slot ≠ 0) ∨ (cA o.kind = false ∧ o.at_ ≠ 0) ∨ (cL o.kind = false ∧ o.len ≠ 0) ∨ (cT o.kind = false ∧ 0 < o.text.size)
instance (o : OpD) : Decidable (bad3 o) := inferInstanceAs (Decidable (_ ∨ _))
theorem row_size {k : Int} (h : okK k = true) : (opRowAt k).nums.size ≤ 3 := by
  rcases okK_cases h with rfl | rfl | rfl | rfl | rfl | rfl | rfl | rfl | rfl | rfl | rfl | rfl | rfl | rfl | rfl | rfl | rfl | rfl | rfl | rfl | rfl | rfl | rfl | rfl <;> decide
/-- the document's loop -/
structure RH (o : OpD) (i : Nat) (l : List Int) : Prop where
  l : l = [o.kind] ++ (if 0 < i then sel (cS o.kind) o.slot else []) ++ (if 1 < i then sel (cA o.kind) o.at_ else []) ++ (if 2 < i then sel (cL o.kind) o.len else [])
  s : 0 < i → ¬ (cS o.kind = false ∧ o.slot ≠ 0)
  a : 1 < i → ¬ (cA o.kind = false ∧ o.at_ ≠ 0)
  n : 2 < i → ¬ (cL o.kind = false ∧ o.len ≠ 0)
section
variable {o : OpD} {l : List Int}
theorem RH.start (o : OpD) : RH o 0 [o.kind] := ⟨by simp, by simp, by simp, by simp⟩
theorem RH.len {i : Nat} (h : RH o i l) : l.length ≤ 4 := by rw [h.l]; simp only [sel]; split <;> split <;> split <;> (try split) <;> (try split) <;> (try split) <;> simp
theorem RH.in0 (h : RH o 0 l) (c : cS o.kind = true) : RH o 1 (l ++ [o.slot]) := by
  obtain ⟨rfl, _, _, _⟩ := h; exact ⟨by simp [sel, c], by simp [c], by simp, by simp⟩
theorem RH.no0 (h : RH o 0 l) (c : ¬ cS o.kind = true) (z : ¬ o.slot ≠ 0) : RH o 1 l := by
  obtain ⟨rfl, _, _, _⟩ := h; exact ⟨by simp [sel, c], by simp at z; simp [z], by simp, by simp⟩
theorem RH.in1 (h : RH o 1 l) (c : cA o.kind = true) : RH o 2 (l ++ [o.at_]) := by
  obtain ⟨rfl, s, _, _⟩ := h; exact ⟨by simp [sel, c], fun _ => s (by simp), by simp [c], by simp⟩
theorem RH.no1 (h : RH o 1 l) (c : ¬ cA o.kind = true) (z : ¬ o.at_ ≠ 0) : RH o 2 l := by
  obtain ⟨rfl, s, _, _⟩ := h; exact ⟨by simp [sel, c], fun _ => s (by simp), by simp at z; simp [z], by simp⟩
theorem RH.in2 (h : RH o 2 l) (c : cL o.kind = true) : RH o 3 (l ++ [o.len]) := by
  obtain ⟨rfl, s, a, _⟩ := h; exact ⟨by simp [sel, c], fun _ => s (by simp), fun _ => a (by simp), by simp [c]⟩
theorem RH.no2 (h : RH o 2 l) (c : ¬ cL o.kind = true) (z : ¬ o.len ≠ 0) : RH o 3 l := by
  obtain ⟨rfl, s, a, _⟩ := h; exact ⟨by simp [sel, c], fun _ => s (by simp), fun _ => a (by simp), by simp at z; simp [z]⟩
theorem RH.fin (h : RH o 3 l) : l = rawN o := by obtain ⟨rfl, _, _, _⟩ := h; simp [rawN]
end
/-! names -/
theorem name_at (i : Nat) (hi : i < 24) : opNames.getD i .empty = (opRows.getD i opRow0).name := by
  rcases (by omega : i = 0 ∨ i = 1 ∨ i = 2 ∨ i = 3 ∨ i = 4 ∨ i = 5 ∨ i = 6 ∨ i = 7 ∨ i = 8 ∨ i = 9 ∨ i = 10 ∨ i = 11 ∨ i = 12 ∨ i = 13 ∨ i = 14 ∨ i = 15 ∨ i = 16 ∨ i = 17 ∨ i = 18 ∨ i = 19 ∨ i = 20 ∨ i = 21 ∨ i = 22 ∨ i = 23) with rfl | rfl | rfl | rfl | rfl | rfl | rfl | rfl | rfl | rfl | rfl | rfl | rfl | rfl | rfl | rfl | rfl | rfl | rfl | rfl | rfl | rfl | rfl | rfl <;> rfl
def lastTo (x : ByteArray) : Nat → Nat
  | 0 => 0
  | i + 1 => if opNames.getD i .empty = x then i + 1 else lastTo x i
theorem last_of {x : ByteArray} {j : Nat} (hj : j < 24) (h : opNames.getD j .empty = x) : lastTo x 24 = j + 1 := by
  subst h
  rcases (by omega : j = 0 ∨ j = 1 ∨ j = 2 ∨ j = 3 ∨ j = 4 ∨ j = 5 ∨ j = 6 ∨ j = 7 ∨ j = 8 ∨ j = 9 ∨ j = 10 ∨ j = 11 ∨ j = 12 ∨ j = 13 ∨ j = 14 ∨ j = 15 ∨ j = 16 ∨ j = 17 ∨ j = 18 ∨ j = 19 ∨ j = 20 ∨ j = 21 ∨ j = 22 ∨ j = 23) with rfl | rfl | rfl | rfl | rfl | rfl | rfl | rfl | rfl | rfl | rfl | rfl | rfl | rfl | rfl | rfl | rfl | rfl | rfl | rfl | rfl | rfl | rfl | rfl <;> decide
theorem row_name {k : Int} (h : 1 ≤ k ∧ k ≤ 24) : (opRowAt k).name = opNames.getD (k - 1).toNat .empty := by
  rcases okK_cases (by simp [okK]; omega) with rfl | rfl | rfl | rfl | rfl | rfl | rfl | rfl | rfl | rfl | rfl | rfl | rfl | rfl | rfl | rfl | rfl | rfl | rfl | rfl | rfl | rfl | rfl | rfl <;> rfl
theorem row_noname {k : Int} (h : ¬ (1 ≤ k ∧ k ≤ 24)) : (opRowAt k).name = ⟨#[]⟩ := by
  have : okK k = false := by simp [okK]; omega
  simp [opRowAt, this]
theorem last_row {k : Int} (h : (opRowAt k).name ≠ ⟨#[]⟩) : ((lastTo (opRowAt k).name 24 : Nat) : Int) = k := by
  have hk : 1 ≤ k ∧ k ≤ 24 := by
    rcases Classical.em (1 ≤ k ∧ k ≤ 24) with c | c
    · exact c
    · exact absurd (row_noname c) h
  rw [last_of (by omega) (row_name hk).symm]; omega
theorem take_sameI {a b : List Int} {k : Nat} (h : a.take k = b.take k) (ha : k < a.length) (hb : k < b.length) (hx : a.getD k 0 = b.getD k 0) : a.take (k + 1) = b.take (k + 1) := by
  rw [List.take_add_one, List.take_add_one, h, List.getElem?_eq_getElem ha, List.getElem?_eq_getElem hb]
  simp [List.getD_eq_getElem?_getD, List.getElem?_eq_getElem ha, List.getElem?_eq_getElem hb] at hx
  rw [hx]
theorem same_takeI {a b : List Int} {k : Nat} (h : a.take k = b.take k) (ha : a.length ≤ k) (hb : b.length ≤ k) : a = b := by
  rwa [List.take_of_length_le ha, List.take_of_length_le hb] at h
structure RawS where
  nums : Sl
  text : ByteArray
def tyRawS : Ty RawS := ⟨2, fun d => [.slice d.nums.a d.nums.n d.nums.c, .string d.text], fun _ => rfl, fun d u hu => by simp at hu; rcases hu with rfl | rfl <;> rfl, by omega⟩
end Go.Sx

