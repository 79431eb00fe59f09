/- The state of memory for walks: what a piece of code owns, what it keeps. -/
import Derived.WalkKit
import Derived.Maps.AppendAt
import Derived.Deep.Quiet
import Derived.Deep.LoopGhost
import Derived.KernelRfl
namespace Go.Sx
set_option linter.unusedVariables false
set_option linter.unusedSimpArgs false

/-- From w to w' nothing that was there has turned but the blocks of S; blocks may have come. -/
structure Keep (S : List Nat) (w w' : World) : Prop where
  os : w'.os = w.os
  tape : w'.tape = w.tape
  output : w'.output = w.output
  size : w.heap.size ≤ w'.heap.size
  block : ∀ k, k < w.heap.size → k ∉ S → w'.heap[k]? = w.heap[k]?

theorem Keep.refl (S : List Nat) (w : World) : Keep S w w := ⟨rfl, rfl, rfl, Nat.le_refl _, fun _ _ _ => rfl⟩
theorem Keep.trans {S : List Nat} {a b c : World} (h : Keep S a b) (k : Keep S b c) : Keep S a c :=
  ⟨k.os.trans h.os, k.tape.trans h.tape, k.output.trans h.output, Nat.le_trans h.size k.size,
    fun i hi hs => (k.block i (Nat.lt_of_lt_of_le hi h.size) hs).trans (h.block i hi hs)⟩
theorem Keep.step {S T : List Nat} {a b c : World} (h : Keep S a b) (k : Keep T b c) (hT : ∀ g, g ∈ T → g ∈ S ∨ a.heap.size ≤ g) : Keep S a c :=
  ⟨k.os.trans h.os, k.tape.trans h.tape, k.output.trans h.output, Nat.le_trans h.size k.size,
    fun i hi hs => (k.block i (Nat.lt_of_lt_of_le hi h.size) (fun hm => by rcases hT i hm with h1 | h1; exact hs h1; omega)).trans (h.block i hi hs)⟩
theorem Keep.mono {S T : List Nat} {a b : World} (h : Keep S a b) (hT : ∀ g, g ∈ S → g ∈ T) : Keep T a b :=
  ⟨h.os, h.tape, h.output, h.size, fun i hi hs => h.block i hi (fun hm => hs (hT i hm))⟩
theorem Keep.nil {S : List Nat} {a b : World} (h : Keep [] a b) : Keep S a b := h.mono (by simp)
theorem Keep.below {w w' : World} (h : Keep [] w w') : RowKit.Below w.heap.size w w' := ⟨h.os, h.tape, h.output, h.size, fun k hk => h.block k hk (by simp)⟩
theorem Keep.of_drew (w : World) : Keep [] w w.drew := ⟨rfl, rfl, rfl, Nat.le_refl _, fun _ _ _ => rfl⟩
theorem Keep.of_drewN (w : World) (n : Nat) : Keep [] w (w.drewN n) := ⟨rfl, rfl, rfl, Nat.le_refl _, fun _ _ _ => rfl⟩
theorem Keep.of_drawn (w : World) (n : Nat) : Keep [] w { w with drawn := n } := ⟨rfl, rfl, rfl, Nat.le_refl _, fun _ _ _ => rfl⟩
theorem Keep.cell {S : List Nat} {w w' : World} (h : Keep S w w') {a : Addr} {v : Value} (hc : w.cell? a = some v) (hS : a.block ∉ S) : w'.cell? a = some v := by
  rw [← hc]
  exact World.cell?_of_block (w := w) (h.block _ (World.block_lt_of_cell? w a hc) hS)
theorem Keep.obj {S : List Nat} {w w' : World} (h : Keep S w w') {g : Nat} {o : Obj} (hc : w.heap[g]? = some o) (hS : g ∉ S) : w'.heap[g]? = some o := by
  rw [← hc]
  exact h.block _ (Array.getElem?_eq_some_iff.1 hc).1 hS

theorem lt_of_obj {w : World} {g : Nat} {o : Obj} (h : w.heap[g]? = some o) : g < w.heap.size := (Array.getElem?_eq_some_iff.1 h).1

/-- A piece of memory: at which blocks, and what of the world it says: that hangs on those blocks alone. -/
structure Chunk where
  bs : List Nat
  P : World → Prop
  loc : ∀ w w', (∀ g, g ∈ bs → w'.heap[g]? = w.heap[g]?) → P w → P w'
  lt : ∀ w g, g ∈ bs → P w → g < w.heap.size
  nd : ∀ w, P w → bs.Nodup

def Chunk.holds (w : World) (c : Chunk) : Prop := c.P w

def ats (L : List Chunk) : List Nat := L.flatMap Chunk.bs

theorem mem_ats {L : List Chunk} {g : Nat} : g ∈ ats L ↔ ∃ c, c ∈ L ∧ g ∈ c.bs := by simp [ats]
theorem ats_append (L M : List Chunk) : ats (L ++ M) = ats L ++ ats M := by simp [ats]

theorem sub_ats : ∀ {M L : List Chunk}, M.Sublist L → (ats M).Sublist (ats L)
  | _, _, .slnil => .slnil
  | _, _, .cons a h => (sub_ats h).trans (List.sublist_append_right _ _)
  | _, _, .cons_cons a h => (sub_ats h).append_left a.bs
/-- All of some chunks hold, no two at one block. -/
structure Hp (w : World) (L : List Chunk) : Prop where
  holds : ∀ c, c ∈ L → c.holds w
  nodup : (ats L).Nodup

theorem Hp.nil (w : World) : Hp w [] := ⟨by simp, by simp [ats]⟩
theorem Hp.lt {w : World} {L : List Chunk} (h : Hp w L) {g : Nat} (hg : g ∈ ats L) : g < w.heap.size := by
  obtain ⟨c, hc, e⟩ := mem_ats.1 hg
  exact c.lt w g e (h.holds c hc)
theorem Hp.perm {w : World} {L M : List Chunk} (h : Hp w L) (p : L.Perm M) : Hp w M :=
  ⟨fun c hc => h.holds c (p.mem_iff.2 hc), (List.Perm.nodup_iff (p.flatMap_right _)).1 h.nodup⟩
theorem Hp.left {w : World} {L M : List Chunk} (h : Hp w (L ++ M)) : Hp w L :=
  ⟨fun c hc => h.holds c (List.mem_append_left _ hc), by have := h.nodup; rw [ats_append] at this; exact (List.nodup_append.1 this).1⟩
theorem Hp.right {w : World} {L M : List Chunk} (h : Hp w (L ++ M)) : Hp w M :=
  ⟨fun c hc => h.holds c (List.mem_append_right _ hc), by have := h.nodup; rw [ats_append] at this; exact (List.nodup_append.1 this).2.1⟩
theorem Hp.apart {w : World} {L M : List Chunk} (h : Hp w (L ++ M)) {g : Nat} (h1 : g ∈ ats L) (h2 : g ∈ ats M) : False := by
  have := h.nodup; rw [ats_append] at this; exact (List.nodup_append.1 this).2.2 g h1 g h2 rfl
theorem Hp.keep {w w' : World} {L : List Chunk} {S : List Nat} (h : Hp w L) (k : Keep S w w') (hS : ∀ g, g ∈ ats L → g ∉ S) : Hp w' L := by
  refine ⟨fun c hc => c.loc w w' (fun g hg => ?_) (h.holds c hc), h.nodup⟩
  exact k.block g (c.lt w g hg (h.holds c hc)) (hS g (mem_ats.2 ⟨c, hc, hg⟩))
theorem Hp.append {w : World} {L M : List Chunk} (h : Hp w L) (k : Hp w M) (hd : ∀ g, g ∈ ats L → g ∉ ats M) : Hp w (L ++ M) := by
  refine ⟨fun c hc => ?_, ?_⟩
  · rcases List.mem_append.1 hc with h1 | h1
    · exact h.holds c h1
    · exact k.holds c h1
  · rw [ats_append]
    exact List.nodup_append.2 ⟨h.nodup, k.nodup, fun a ha b hb e => hd a ha (e ▸ hb)⟩

/-- From w, owning L, one has come to w', owning L'; all else is as it was. -/
structure Upd (w : World) (L : List Chunk) (w' : World) (L' : List Chunk) : Prop where
  hp : Hp w' L'
  keep : Keep (ats L) w w'
  fresh : ∀ g, g ∈ ats L' → g ∈ ats L ∨ w.heap.size ≤ g

theorem Upd.refl {w : World} {L : List Chunk} (h : Hp w L) : Upd w L w L := ⟨h, Keep.refl _ _, fun _ h => .inl h⟩
theorem Upd.nil (w : World) : Upd w [] w [] := Upd.refl (Hp.nil w)
theorem Upd.size {w w' : World} {L L' : List Chunk} (h : Upd w L w' L') : w.heap.size ≤ w'.heap.size := h.keep.size
/-- Owning less. -/
theorem Upd.drop {w w' : World} {L L' M : List Chunk} (h : Upd w L w' L') (hs : M.Sublist L') : Upd w L w' M :=
  ⟨⟨fun c hc => h.hp.holds c (hs.subset hc), (sub_ats hs).nodup h.hp.nodup⟩, h.keep, fun g hg => h.fresh g ((sub_ats hs).subset hg)⟩
theorem Upd.noneL {w w' : World} {L L' : List Chunk} (h : Upd w L w' L') : Upd w L w' [] := h.drop (List.nil_sublist _)
theorem Upd.perm {w w' : World} {L L' M : List Chunk} (h : Upd w L w' L') (p : L'.Perm M) : Upd w L w' M :=
  ⟨h.hp.perm p, h.keep, fun g hg => h.fresh g ((p.flatMap_right _).mem_iff.2 hg)⟩
/-- A draw, or whatever keeps all. -/
theorem Upd.kept {w w1 w2 : World} {L L' : List Chunk} (h : Upd w L w1 L') (k : Keep [] w1 w2) : Upd w L w2 L' :=
  ⟨h.hp.keep k (by simp), h.keep.step k (by simp), h.fresh⟩
/-- The rule of the frame: a part of what is owned is worked on. -/
theorem Upd.frame {w w1 w2 : World} {L A B M : List Chunk} (h : Upd w L w1 (A ++ M)) (k : Upd w1 A w2 B) : Upd w L w2 (B ++ M) := by
  have hM : Hp w2 M := h.hp.right.keep k.keep (fun g h2 h1 => h.hp.apart h1 h2)
  refine ⟨k.hp.append hM ?_, ?_, ?_⟩
  · intro g hb hm
    rcases k.fresh g hb with h1 | h1
    · exact h.hp.apart h1 hm
    · have := h.hp.right.lt hm; omega
  · refine h.keep.step k.keep ?_
    intro g hg
    exact h.fresh g (by rw [ats_append]; exact List.mem_append_left _ hg)
  · intro g hg
    rw [ats_append] at hg
    rcases List.mem_append.1 hg with h1 | h1
    · rcases k.fresh g h1 with h2 | h2
      · exact h.fresh g (by rw [ats_append]; exact List.mem_append_left _ h2)
      · exact .inr (Nat.le_trans h.size h2)
    · exact h.fresh g (by rw [ats_append]; exact List.mem_append_right _ h1)

/-- What is owned, group by group. -/
def UpG (w : World) (L : List Chunk) (w' : World) (G : List (List Chunk)) : Prop := Upd w L w' G.flatten

theorem perm_set {α : Type} : ∀ (G : List (List α)) (i : Nat) (A : List α), G[i]? = some A → G.flatten.Perm (A ++ (G.set i []).flatten)
  | [], i, A, h => by simp at h
  | B :: G, 0, A, h => by simp at h; subst h; simp
  | B :: G, i + 1, A, h => by
    simp only [List.flatten_cons, List.set_cons_succ]
    have ih := perm_set G i A (by simpa using h)
    exact (ih.append_left B).trans (by rw [← List.append_assoc, ← List.append_assoc]; exact (List.perm_append_comm).append_right _)
theorem perm_set' {α : Type} : ∀ (G : List (List α)) (i : Nat) (A B : List α), G[i]? = some A → (B ++ (G.set i []).flatten).Perm (G.set i B).flatten
  | [], i, A, B, h => by simp at h
  | C :: G, 0, A, B, h => by simp
  | C :: G, i + 1, A, B, h => by
    simp only [List.flatten_cons, List.set_cons_succ]
    have ih := perm_set' G i A B (by simpa using h)
    refine List.Perm.trans ?_ (ih.append_left C)
    rw [← List.append_assoc, ← List.append_assoc]; exact (List.perm_append_comm).append_right _

theorem UpG.nil (w : World) : UpG w [] w [] := Upd.nil w
theorem UpG.refl {w : World} {L : List Chunk} (h : Hp w L) : UpG w L w [L] := by unfold UpG; simpa using Upd.refl h
theorem UpG.size {w w' : World} {L : List Chunk} {G : List (List Chunk)} (h : UpG w L w' G) : w.heap.size ≤ w'.heap.size := h.keep.size
theorem UpG.kept {w w1 w2 : World} {L : List Chunk} {G : List (List Chunk)} (h : UpG w L w1 G) (k : Keep [] w1 w2) : UpG w L w2 G := Upd.kept h k
/-- Group i is worked on. -/
theorem UpG.on {w w1 w2 : World} {L : List Chunk} {G : List (List Chunk)} (h : UpG w L w1 G) (i : Nat) {A B : List Chunk} (hi : G[i]? = some A) (k : Upd w1 A w2 B) : UpG w L w2 (G.set i B) :=
  Upd.perm (Upd.frame (Upd.perm h (perm_set G i A hi)) k) (perm_set' G i A B hi)
/-- New memory comes. -/
theorem UpG.new {w w1 w2 : World} {L : List Chunk} {G : List (List Chunk)} (h : UpG w L w1 G) {B : List Chunk} (k : Upd w1 [] w2 B) : UpG w L w2 (B :: G) := by
  have := Upd.frame (A := []) (B := B) (M := G.flatten) h k
  simpa [UpG] using this
theorem UpG.new' {w w1 w2 : World} {L : List Chunk} {G : List (List Chunk)} (h : UpG w L w1 G) {B : List Chunk} (k : Upd w1 [] w2 B) : UpG w L w2 (G ++ [B]) := by
  refine Upd.perm (h.new k) ?_
  simp only [List.flatten_cons, List.flatten_append, List.flatten_nil, List.append_nil]
  exact List.perm_append_comm
/-- Nothing of what is owned is touched. -/
theorem UpG.call {w w1 w2 : World} {L : List Chunk} {G : List (List Chunk)} (h : UpG w L w1 G) (k : Upd w1 [] w2 []) : UpG w L w2 G := by
  have := Upd.frame (A := []) (B := []) (M := G.flatten) h k
  simpa [UpG] using this
theorem UpG.noneL {w w' : World} {L : List Chunk} {G : List (List Chunk)} (h : UpG w L w' G) : Upd w L w' [] := Upd.noneL h
theorem UpG.one {w w' : World} {L A : List Chunk} {G : List (List Chunk)} (h : UpG w L w' G) (i : Nat) (hi : G[i]? = some A) : Upd w L w' A :=
  Upd.drop h (List.sublist_flatten_of_mem (List.mem_of_getElem? hi))
theorem UpG.all {w w' : World} {L M : List Chunk} {G : List (List Chunk)} (h : UpG w L w' G) (e : G.flatten = M) : Upd w L w' M := e ▸ h
theorem UpG.of {w w' : World} {L M : List Chunk} {G : List (List Chunk)} (h : Upd w L w' M) (e : G.flatten = M) : UpG w L w' G := by unfold UpG; rw [e]; exact h
theorem UpG.keep {w w' : World} {L : List Chunk} {G : List (List Chunk)} (h : UpG w L w' G) : Keep (ats L) w w' := Upd.keep h
theorem UpG.keep0 {w w' : World} {G : List (List Chunk)} (h : UpG w [] w' G) : Keep [] w w' := Upd.keep h
theorem UpG.hpOf {w w' : World} {L A : List Chunk} {G : List (List Chunk)} (h : UpG w L w' G) (i : Nat) (hi : G[i]? = some A) : Hp w' A :=
  (Hp.perm (Upd.hp h) (perm_set G i A hi)).left

/-- A group is let go. -/
theorem UpG.drop {w w' : World} {L : List Chunk} {G : List (List Chunk)} (h : UpG w L w' G) (i : Nat) : UpG w L w' (G.set i []) := by
  cases hi : G[i]? with
  | none => rw [List.set_eq_of_length_le (by simpa using hi)]; exact h
  | some A => exact Upd.drop (Upd.perm h (perm_set G i A hi)) (List.sublist_append_right _ _)

/-! ### Blocks written out; rows -/

/-- A block, written out. -/
def blk (g : Nat) (cs : Array Value) (e : TypeId) : Chunk :=
  ⟨[g], fun w => w.heap[g]? = some (.cells cs e (0, 0)), fun w w' h k => (h g (by simp)).trans k, fun w g' hg k => by simp at hg; subst hg; exact lt_of_obj k, fun _ _ => by simp⟩
theorem own_local {v : Value} {e : TypeId} {sz n : Nat} {vs : List Value} (w w' : World) (h : ∀ g, g ∈ v.ownBlock.toList → w'.heap[g]? = w.heap[g]?) (k : w.ownsRow 0 e sz v n vs) : w'.ownsRow 0 e sz v n vs := by
  refine ⟨k.1, ?_⟩
  rcases k.2 with h1 | ⟨g, cap, cur, rfl, h2, h3, h4⟩
  · exact .inl h1
  · exact .inr ⟨g, cap, cur, rfl, h2, (h g (by simp [Value.ownBlock])).trans h3, h4⟩
theorem own_lt {v : Value} {e : TypeId} {sz n : Nat} {vs : List Value} (w : World) (g : Nat) (hg : g ∈ v.ownBlock.toList) (k : w.ownsRow 0 e sz v n vs) : g < w.heap.size := by
  rcases k.2 with ⟨rfl, _⟩ | ⟨g', cap, cur, rfl, h2, h3, h4⟩
  · simp [Value.ownBlock] at hg
  · simp [Value.ownBlock] at hg; subst hg; exact lt_of_obj h3
/-- A slice of one's own: its first n elements, sz cells each. -/
def row (v : Value) (e : TypeId) (sz n : Nat) (vs : List Value) : Chunk :=
  ⟨v.ownBlock.toList, fun w => w.ownsRow 0 e sz v n vs, own_local, own_lt, fun _ _ => by cases v.ownBlock <;> simp⟩

theorem Hp.blk {w : World} {g : Nat} {cs : Array Value} {e : TypeId} {L : List Chunk} (h : Hp w L) (hm : blk g cs e ∈ L) : w.heap[g]? = some (.cells cs e (0, 0)) := h.holds _ hm
theorem row_own {w : World} {v : Value} {e : TypeId} {sz n : Nat} {vs : List Value} (h : (row v e sz n vs).holds w) : w.ownsRow 0 e sz v n vs := h
theorem own_row {w : World} {v : Value} {e : TypeId} {sz n : Nat} {vs : List Value} (h : w.ownsRow 0 e sz v n vs) : (row v e sz n vs).holds w := h
/-- Many chunks as one. -/
def many (L : List Chunk) : Chunk := ⟨ats L, fun w => Hp w L,
  fun w w' h k => ⟨fun c hc => c.loc w w' (fun g hg => h g (mem_ats.2 ⟨c, hc, hg⟩)) (k.holds c hc), k.nodup⟩, fun w g hg k => k.lt hg, fun _ k => k.nodup⟩
theorem ats_many (L M : List Chunk) : ats (many L :: M) = ats (L ++ M) := by simp [ats, many]
theorem hp_many {w : World} {L M : List Chunk} : Hp w (many L :: M) ↔ Hp w (L ++ M) := by
  constructor
  · intro h
    refine ⟨fun c hc => ?_, by rw [← ats_many]; exact h.nodup⟩
    rcases List.mem_append.1 hc with h1 | h1
    · exact (h.holds (many L) (by simp) : Hp w L).holds c h1
    · exact h.holds c (by simp [h1])
  · intro h
    refine ⟨fun c hc => ?_, by rw [ats_many]; exact h.nodup⟩
    rcases List.mem_cons.1 hc with rfl | h1
    · exact h.left
    · exact h.holds c (List.mem_append_right _ h1)
theorem Upd.pack {w w' : World} {L A M : List Chunk} (h : Upd w L w' (A ++ M)) : Upd w L w' (many A :: M) := ⟨hp_many.2 h.hp, h.keep, fun g hg => h.fresh g (by rw [← ats_many]; exact hg)⟩
theorem Upd.unpack {w w' : World} {L A M : List Chunk} (h : Upd w L w' (many A :: M)) : Upd w L w' (A ++ M) := ⟨hp_many.1 h.hp, h.keep, fun g hg => h.fresh g (by rw [ats_many]; exact hg)⟩
/-- Packed at the start. -/
theorem Upd.unpackL {w w' : World} {A L M : List Chunk} (h : Upd w (A ++ L) w' M) : Upd w (many A :: L) w' M := ⟨h.hp, by rw [ats_many]; exact h.keep, fun g hg => by rw [ats_many]; exact h.fresh g hg⟩
theorem row_slice {w : World} {v : Value} {e : TypeId} {sz n : Nat} {vs : List Value} (h : w.ownsRow 0 e sz v n vs) : ∃ a c, v = .slice a n c := by
  rcases h.2 with ⟨rfl, rfl⟩ | ⟨g, cap, cur, rfl, _⟩
  · exact ⟨none, 0, rfl⟩
  · exact ⟨_, cap, rfl⟩

/-- A slice that is read: n elements of sz cells. -/
def Rd (w : World) (v : Value) (sz n : Nat) (vs : List Value) : Prop :=
  ∃ A cap, v = .slice A n cap ∧ vs.length = n * sz ∧ n ≤ 9223372036854775807 ∧ ∀ j u, vs[j]? = some u → ∃ ad, A = some ad ∧ w.cell? (ad.add j) = some u

theorem add_block (ad : Addr) (j : Nat) : (ad.add j).block = ad.block := by unfold Addr.add; split <;> rfl

/-- The block of a slice. -/
def Value.blk? : Value → Option Nat
  | .slice (some a) _ _ => some a.block
  | _ => none

theorem Rd.keep {w w' : World} {v : Value} {sz n : Nat} {vs : List Value} {S : List Nat} (h : Rd w v sz n vs) (k : Keep S w w') (hS : ∀ g, Value.blk? v = some g → g ∉ S) : Rd w' v sz n vs := by
  obtain ⟨A, cap, rfl, h1, h2, h3⟩ := h
  refine ⟨A, cap, rfl, h1, h2, fun j u hj => ?_⟩
  obtain ⟨ad, rfl, hc⟩ := h3 j u hj
  exact ⟨ad, rfl, k.cell hc (by rw [add_block]; exact hS _ rfl)⟩
theorem Rd.kept {w w' : World} {v : Value} {sz n : Nat} {vs : List Value} (h : Rd w v sz n vs) (k : Keep [] w w') : Rd w' v sz n vs := h.keep k (by simp)
theorem Rd.at {w w' : World} {v : Value} {sz n : Nat} {vs : List Value} {G : List (List Chunk)} (h : Rd w v sz n vs) (k : UpG w [] w' G) : Rd w' v sz n vs := h.keep k.keep (by simp [ats])
theorem Rd.len {w : World} {v : Value} {sz n : Nat} {vs : List Value} (h : Rd w v sz n vs) : vs.length = n * sz := by obtain ⟨_, _, _, h, _⟩ := h; exact h
theorem Rd.nil (w : World) (sz : Nat) (A : Option Addr) (cap : Nat) : Rd w (.slice A 0 cap) sz 0 [] := ⟨A, cap, rfl, by simp, by omega, by simp⟩

theorem own_rd {w : World} {b : Nat} {v : Value} {e : TypeId} {sz n : Nat} {vs : List Value} (h : w.ownsRow b e sz v n vs) : Rd w v sz n vs := by
  have h0 := h
  obtain ⟨h1, h2⟩ := h
  rcases h2 with ⟨rfl, rfl⟩ | ⟨g, cap, cur, rfl, _, h3, h4, h5, h6, h7⟩
  · exact ⟨none, 0, rfl, h1, by omega, fun j u hj => by
      have : j < vs.length := (List.getElem?_eq_some_iff.1 hj).1
      omega⟩
  · exact ⟨_, cap, rfl, h1, by simp only [maxLen] at h5; omega, fun j u hj => ⟨_, rfl, h0.cells (g := g) rfl j u hj⟩⟩

theorem UpG.own {w w' : World} {L : List Chunk} {G : List (List Chunk)} {v : Value} {e : TypeId} {sz n : Nat} {vs : List Value} (h : UpG w L w' G) (i : Nat) (hi : G[i]? = some [row v e sz n vs]) : w'.ownsRow 0 e sz v n vs :=
  row_own ((h.hpOf i hi).holds _ (by simp))
theorem UpG.rd {w w' : World} {L : List Chunk} {G : List (List Chunk)} {v : Value} {e : TypeId} {sz n : Nat} {vs : List Value} (h : UpG w L w' G) (i : Nat) (hi : G[i]? = some [row v e sz n vs]) : Rd w' v sz n vs :=
  own_rd (h.own i hi)
theorem UpG.blk {w w' : World} {L : List Chunk} {G : List (List Chunk)} {g : Nat} {cs : Array Value} {e : TypeId} (h : UpG w L w' G) (i : Nat) (hi : G[i]? = some [blk g cs e]) : w'.heap[g]? = some (.cells cs e (0, 0)) :=
  (h.hpOf i hi).blk (by simp)

/-- A new block. -/
theorem Upd.alloc (w : World) (cs : Array Value) (e : TypeId) : Upd w [] (w.alloc (.cells cs e)) [Sx.blk w.heap.size cs e] := by
  refine ⟨⟨fun c hc => ?_, by simp [ats, Sx.blk]⟩, ⟨rfl, rfl, rfl, by simp, fun k hk _ => RowKit.Below.heap_alloc w _ k hk⟩, fun g hg => ?_⟩
  · simp only [List.mem_singleton] at hc; subst hc
    exact heap_alloc_new w _
  · simp [ats, Sx.blk] at hg; omega
/-- A store into a block. -/
theorem Upd.setCell {w : World} {g : Nat} {cs : Array Value} {e : TypeId} (h : w.heap[g]? = some (.cells cs e (0, 0))) (off : Nat) (u : Value) :
    Upd w [Sx.blk g cs e] (w.setCell ⟨g, off, none⟩ u) [Sx.blk g (cs.setIfInBounds off u) e] := by
  have hlt := lt_of_obj h
  refine ⟨⟨fun c hc => ?_, by simp [ats, Sx.blk]⟩, ⟨rfl, rfl, rfl, by simp [World.setCell], fun k hk hs => ?_⟩, fun g' hg => ?_⟩
  · simp only [List.mem_singleton] at hc; subst hc
    show (w.setCell ⟨g, off, none⟩ u).heap[g]? = _
    simp [World.setCell, Array.getElem?_modify, h]
  · exact RowKit.Below.heap_setCell _ _ _ _ (by intro e'; subst e'; simp [ats, Sx.blk] at hs)
  · left; simpa [ats, Sx.blk] using hg
end Go.Sx
