/- All ways in which an automaton's states go, as data: what the program's search and the document's both find. Conditions: those of each theorem. -/
import Derived.Test.YtoeockpkkmgieaaMon0
import Derived.Test.YtoeockpkkmgieaaDfa0
import Derived.Test.YtoeockpkkmgieaaSx13
namespace Go.Sx
set_option linter.unusedVariables false
set_option linter.unusedSimpArgs false
/-- An element in memory. -/
structure EL where
  a : Option Addr
  n : Nat
  c : Nat
  to : List Int
  text : ByteArray
def el0 : EL := ⟨none, 0, 0, [], ⟨#[]⟩⟩
def tyEL : Ty EL := ⟨2, fun p => [.slice p.a p.n p.c, .string p.text], fun _ => rfl, fun d u hu => by
  simp only [List.mem_cons, List.not_mem_nil, or_false] at hu; rcases hu with rfl | rfl <;> rfl, by omega⟩
def inEL : Inn EL Int := ⟨tyI .i64, 3, EL.a, EL.c, EL.to, EL.n⟩
abbrev ED := List Int × ByteArray
def EL.dat (e : EL) : ED := (e.to, e.text)
def byteS (b : Int) : ByteArray := strOfNums [b]
/-- One element more, if it is new. -/
def addE (d : DfaD) (e : ED) (acc : List ED) (b : Int) : List ED :=
  if (e.1.map fun q => stepD d q b) ∈ acc.map Prod.fst then acc else acc ++ [((e.1.map fun q => stepD d q b), e.2 ++ byteS b)]
def elRun (d : DfaD) (L : List Int) (most : Int) : Nat → Nat → List ED → List ED
  | 0, _, out => out
  | f + 1, at_, out => if at_ < out.length ∧ (out.length : Int) ≤ most then elRun d L most f (at_ + 1) (L.foldl (addE d (out.getD at_ ([], ⟨#[]⟩))) out) else out
def firstE (d : DfaD) : ED := (List.map (fun s : Nat => (s : Int)) (List.range d.acc.length), ⟨#[]⟩)
def elsOut (d : DfaD) (L : List Int) (most : Int) : List ED := elRun d L most most.toNat 0 [firstE d]
theorem elRun_go {d : DfaD} {L : List Int} {most : Int} {at_ : Nat} {out : List ED} (h1 : at_ < out.length) (h2 : (out.length : Int) ≤ most) :
    elRun d L most (most.toNat - at_) at_ out = elRun d L most (most.toNat - (at_ + 1)) (at_ + 1) (L.foldl (addE d (out.getD at_ ([], ⟨#[]⟩))) out) := by
  have e : most.toNat - at_ = (most.toNat - (at_ + 1)) + 1 := by omega
  rw [e, elRun, if_pos ⟨h1, h2⟩]
theorem elRun_end {d : DfaD} {L : List Int} {most : Int} {f at_ : Nat} {out : List ED} (h : ¬ (at_ < out.length ∧ (out.length : Int) ≤ most)) : elRun d L most f at_ out = out := by
  cases f with
  | zero => rfl
  | succ f => rw [elRun, if_neg h]
theorem addE_pre (d : DfaD) (e : ED) (acc : List ED) (b : Int) : ∃ r, addE d e acc b = acc ++ r ∧ r.length ≤ 1 := by
  unfold addE; split
  · exact ⟨[], by simp, by simp⟩
  · exact ⟨_, rfl, by simp⟩
theorem addE_len (d : DfaD) (e : ED) (acc : List ED) (b : Int) : acc.length ≤ (addE d e acc b).length ∧ (addE d e acc b).length ≤ acc.length + 1 := by
  obtain ⟨r, h, hl⟩ := addE_pre d e acc b
  rw [h, List.length_append]; omega
theorem foldAdd_pre (d : DfaD) (e : ED) : ∀ (L : List Int) (acc : List ED), ∃ r, L.foldl (addE d e) acc = acc ++ r ∧ r.length ≤ L.length
  | [], acc => ⟨[], by simp, by simp⟩
  | b :: L, acc => by
    obtain ⟨r, hr, hl⟩ := addE_pre d e acc b
    obtain ⟨r2, hr2, hl2⟩ := foldAdd_pre d e L (addE d e acc b)
    exact ⟨r ++ r2, by rw [List.foldl_cons, hr2, hr, List.append_assoc], by simp; omega⟩
theorem getD_pre {l r : List ED} {i : Nat} {x : ED} (h : i < l.length) : (l ++ r).getD i x = l.getD i x := by
  simp only [List.getD_eq_getElem?_getD, List.getElem?_append_left h]

/-! ### Letters -/
def headB (d : DfaD) (b : Nat) : Bool := !((List.range b).any fun k => decide (d.cls.getD k 0 = d.cls.getD b 0))
def lettersB (d : DfaD) : List Int := List.map (fun b : Nat => (b : Int)) (List.filter (headB d) (List.range 256))
def lettersN (d : DfaD) (n : Nat) : List Int := List.map (fun b : Nat => (b : Int)) (List.filter (headB d) (List.range n))
theorem lettersN_yes {d : DfaD} {b : Nat} (h : headB d b = true) : lettersN d (b + 1) = lettersN d b ++ [(b : Int)] := by simp [lettersN, List.range_succ, h]
theorem lettersN_no {d : DfaD} {b : Nat} (h : headB d b = false) : lettersN d (b + 1) = lettersN d b := by simp [lettersN, List.range_succ, h]
theorem lettersB_bd {d : DfaD} {x : Int} (h : x ∈ lettersB d) : 0 ≤ x ∧ x < 256 := by
  simp only [lettersB, List.mem_map, List.mem_filter, List.mem_range] at h
  obtain ⟨b, ⟨hb, _⟩, rfl⟩ := h; omega

/-! ### Going by a text -/
def goW (d : DfaD) (text : ByteArray) (s : Int) : Int := (bytesL text).foldl (stepD d) s
def goL (d : DfaD) (text : ByteArray) : List Int := List.map (fun s : Nat => goW d text (s : Int)) (List.range d.acc.length)
theorem goL_len (d : DfaD) (text : ByteArray) : (goL d text).length = d.acc.length := by simp [goL]
theorem goW_take {d : DfaD} {text : ByteArray} {k : Nat} {s : Int} (h : k < text.size) :
    ((bytesL text).take (k + 1)).foldl (stepD d) s = stepD d (((bytesL text).take k).foldl (stepD d) s) (bt text k) := by
  rw [take_succ_getD 0 (by rw [bytesL_len]; exact h), List.foldl_append, bytesL_get _ _ h]; rfl
theorem bytesL_bd {text : ByteArray} {b : Int} (h : b ∈ bytesL text) : 0 ≤ b ∧ b < 256 := by
  simp only [bytesL, List.mem_map, List.mem_range] at h
  obtain ⟨i, _, rfl⟩ := h
  have := bt_range text i; omega
theorem stepD_bd {d : DfaD} (hr : rightB d = true) {q b : Int} (h0 : 0 ≤ q) (h1 : q < (d.acc.length : Int)) (hb : 0 ≤ b ∧ b < 259) : 0 ≤ stepD d q b ∧ stepD d q b < (d.acc.length : Int) := by
  have hs := right_sym hr hb.1 hb.2
  have hi := right_idx hr h0 h1 hs.2.1 hs.2.2.1
  exact ⟨hi.2.2.2.1, hi.2.2.2.2⟩
theorem fold_bd {d : DfaD} (hr : rightB d = true) : ∀ (l : List Int) (q : Int), (∀ b, b ∈ l → 0 ≤ b ∧ b < 256) → 0 ≤ q → q < (d.acc.length : Int) → 0 ≤ l.foldl (stepD d) q ∧ l.foldl (stepD d) q < (d.acc.length : Int)
  | [], q, _, h0, h1 => ⟨h0, h1⟩
  | b :: l, q, hl, h0, h1 => by
    have hb := hl b (by simp)
    have := stepD_bd hr h0 h1 (b := b) ⟨hb.1, by omega⟩
    exact fold_bd hr l _ (fun x hx => hl x (by simp [hx])) this.1 this.2
theorem bytesL_append (s t : ByteArray) : bytesL (s ++ t) = bytesL s ++ bytesL t := by
  have key : ∀ s : ByteArray, bytesL s = s.data.toList.map fun u => (u.toNat : Int) := fun s => by
    unfold bytesL bt
    apply List.ext_getElem?
    intro i
    simp only [List.getElem?_map]
    by_cases h : i < s.size
    · have h1 : i < s.data.toList.length := by simpa using h
      rw [List.getElem?_range h]
      have h2 : i < s.data.size := h
      simp [List.getElem?_eq_getElem h1, List.getD_eq_getElem?_getD, Array.getElem?_eq_getElem h2]
    · have h1 : s.data.toList.length ≤ i := by simpa using h
      rw [List.getElem?_eq_none (by simpa using h), List.getElem?_eq_none h1]; rfl
  rw [key, key, key]
  simp
theorem bytesL_byteS {b : Int} (h : 0 ≤ b ∧ b < 256) : bytesL (byteS b) = [b] := by
  have e : byteS b = ⟨#[UInt8.ofNat b.toNat]⟩ := rfl
  rw [e]
  have e2 : bytesL ⟨#[UInt8.ofNat b.toNat]⟩ = [((UInt8.ofNat b.toNat).toNat : Int)] := rfl
  rw [e2]
  have : (UInt8.ofNat b.toNat).toNat = b.toNat := by rw [UInt8.toNat_ofNat']; omega
  rw [this, Int.toNat_of_nonneg h.1]
theorem goW_snoc {d : DfaD} {text : ByteArray} {b s : Int} (h : 0 ≤ b ∧ b < 256) : goW d (text ++ byteS b) s = stepD d (goW d text s) b := by
  unfold goW; rw [bytesL_append, bytesL_byteS h, List.foldl_append]; rfl
theorem goL_snoc {d : DfaD} {text : ByteArray} {b : Int} (h : 0 ≤ b ∧ b < 256) : goL d (text ++ byteS b) = (goL d text).map fun q => stepD d q b := by
  simp only [goL, List.map_map]
  apply List.map_congr_left
  intro s _
  exact goW_snoc h
theorem goL_nil (d : DfaD) : goL d ⟨#[]⟩ = (firstE d).1 := rfl
theorem goL_bd {d : DfaD} (hr : rightB d = true) (text : ByteArray) {x : Int} (h : x ∈ goL d text) : 0 ≤ x ∧ x < (d.acc.length : Int) := by
  simp only [goL, List.mem_map, List.mem_range] at h
  obtain ⟨s, hs, rfl⟩ := h
  exact fold_bd hr _ _ (fun b hb => bytesL_bd hb) (by omega) (by omega)
theorem goL_ok {d : DfaD} (hr : rightB d = true) (text : ByteArray) : stOk (goL d text) := fun x hx => by
  have := goL_bd hr text hx
  have := (rightB_iff.1 hr).1.2.2.2.2.1; omega
theorem goL_then {d : DfaD} (hr : rightB d = true) (s t : ByteArray) : thenB (goL d s) (goL d t) = true := by
  refine thenB_of fun i hi => ?_
  rw [goL_len]
  exact goL_bd hr s (by simp [List.getD_eq_getElem?_getD, List.getElem?_eq_getElem hi])

/-! ### The places of ways -/
def findTo (tos : List (List Int)) (to : List Int) : Int := if to ∈ tos then ((ix to tos : Nat) : Int) else -1
theorem ix_at {α : Type} [DecidableEq α] {x d : α} : ∀ {l : List α} {k : Nat}, k < l.length → l.getD k d = x → (∀ i, i < k → l.getD i d ≠ x) → ix x l = k
  | y :: l, 0, _, h, _ => by simp at h; simp [ix, h]
  | y :: l, k + 1, hk, h, hn => by
    have h0 := hn 0 (by omega)
    simp at h0
    rw [ix, if_neg (fun e => h0 e.symm), ix_at (by simpa using hk) (by simpa using h) (fun i hi => by simpa using hn (i + 1) (by omega))]
theorem tos_getD {l : List EL} {k : Nat} (h : k < l.length) : (l.map EL.to).getD k [] = (l.getD k el0).to := by
  simp [List.getD_eq_getElem?_getD, List.getElem?_eq_getElem h]
theorem findTo_at {l : List EL} {to : List Int} {k : Nat} (hk : k < l.length) (h : (l.getD k el0).to = to) (hn : ∀ i, i < k → (l.getD i el0).to ≠ to) : findTo (l.map EL.to) to = (k : Int) := by
  have hm : to ∈ l.map EL.to := by
    rw [← h]
    exact List.mem_map.2 ⟨l.getD k el0, getD_mem' hk, rfl⟩
  rw [findTo, if_pos hm, ix_at (d := []) (by simpa using hk) (by rw [tos_getD hk]; exact h) (fun i hi => by rw [tos_getD (by omega)]; exact hn i hi)]
theorem findTo_no {l : List EL} {to : List Int} (hn : ∀ i, i < l.length → (l.getD i el0).to ≠ to) : findTo (l.map EL.to) to = -1 := by
  rw [findTo, if_neg]
  intro h
  obtain ⟨e, he, rfl⟩ := List.mem_map.1 h
  obtain ⟨i, hi, rfl⟩ := List.mem_iff_getElem.1 he
  exact hn i hi (by simp [List.getD_eq_getElem?_getD, List.getElem?_eq_getElem hi])
end Go.Sx
