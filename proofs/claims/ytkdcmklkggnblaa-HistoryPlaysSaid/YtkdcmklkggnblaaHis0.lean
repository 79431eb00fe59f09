/- Histories as data. -/
import Derived.Test.YtkdcmklkggnblaaSx7
namespace Go.Sx
set_option linter.unusedVariables false
set_option linter.unusedSimpArgs false
structure HistD where
  past : List ByteArray
  next : List ByteArray
  now : ByteArray
  most : Int
def doH (h : HistD) (x : ByteArray) : HistD × Int := if h.most ≤ (h.past.length : Int) then (h, 6) else (⟨h.past ++ [h.now], [], x, h.most⟩, 0)
def undoH (h : HistD) : HistD × ByteArray × Int :=
  if h.past.length = 0 then (h, ⟨#[]⟩, 8) else (⟨h.past.take (h.past.length - 1), h.next ++ [h.now], h.past.getD (h.past.length - 1) .empty, h.most⟩, h.past.getD (h.past.length - 1) .empty, 0)
def redoH (h : HistD) : HistD × ByteArray × Int :=
  if h.next.length = 0 then (h, ⟨#[]⟩, 8) else (⟨h.past ++ [h.now], h.next.take (h.next.length - 1), h.next.getD (h.next.length - 1) .empty, h.most⟩, h.next.getD (h.next.length - 1) .empty, 0)
def allH (h : HistD) : List ByteArray := h.past ++ [h.now] ++ h.next.reverse
/-- all, as far as the loop has come -/
def allTo (h : HistD) (i : Int) : List ByteArray := h.past ++ [h.now] ++ (h.next.drop (i + 1).toNat).reverse
theorem allTo_start (h : HistD) : allTo h ((h.next.length : Int) - 1) = h.past ++ [h.now] := by
  unfold allTo; rw [show ((h.next.length : Int) - 1 + 1).toNat = h.next.length by omega]; simp
theorem allTo_step (h : HistD) (i : Int) (h0 : 0 ≤ i) (h1 : i < (h.next.length : Int)) : allTo h i ++ [h.next.getD i.toNat .empty] = allTo h (i - 1) := by
  unfold allTo
  have e : (i - 1 + 1).toNat = i.toNat := by omega
  have e2 : (i + 1).toNat = i.toNat + 1 := by omega
  have hl : i.toNat < h.next.length := by omega
  have e3 : h.next.drop i.toNat = h.next[i.toNat] :: h.next.drop (i.toNat + 1) := List.drop_eq_getElem_cons hl
  have e4 : h.next.getD i.toNat .empty = h.next[i.toNat] := by simp [List.getD_eq_getElem?_getD, List.getElem?_eq_getElem hl]
  rw [e, e2, e3, e4, List.reverse_cons]; simp only [List.append_assoc]
theorem allTo_end (h : HistD) (i : Int) (h1 : -1 ≤ i) (h0 : ¬ i ≥ 0) : allTo h i = allH h := by
  unfold allTo allH; rw [show (i + 1).toNat = 0 by omega]; simp

theorem take_same {a b : List ByteArray} {k : Nat} (h : a.take k = b.take k) (ha : k < a.length) (hb : k < b.length) (hx : a.getD k .empty = b.getD k .empty) : a.take (k + 1) = b.take (k + 1) := by
  rw [List.take_add_one, List.take_add_one, h, List.getElem?_eq_getElem ha, List.getElem?_eq_getElem hb]
  simp [List.getD_eq_getElem?_getD, List.getElem?_eq_getElem ha, List.getElem?_eq_getElem hb] at hx
  rw [hx]
theorem same_take {a b : List ByteArray} {k : Nat} (h : a.take k = b.take k) (ha : a.length ≤ k) (hb : b.length ≤ k) : a = b := by
  rwa [List.take_of_length_le ha, List.take_of_length_le hb] at h
structure RowD where
  l : List ByteArray
  at_ : Nat
  most : Int
def doR (r : RowD) (x : ByteArray) : RowD × Int := if r.most ≤ (r.at_ : Int) then (r, 6) else (⟨r.l.take (r.at_ + 1) ++ [x], r.at_ + 1, r.most⟩, 0)
def undoR (r : RowD) : RowD × Int := if r.at_ = 0 then (r, 8) else (⟨r.l, r.at_ - 1, r.most⟩, 0)
def redoR (r : RowD) : RowD × Int := if r.at_ + 1 = r.l.length then (r, 8) else (⟨r.l, r.at_ + 1, r.most⟩, 0)
structure Rel (h : HistD) (r : RowD) : Prop where
  l : r.l = allH h
  at_ : r.at_ = h.past.length
  most : h.most = max r.most 0
theorem allH_len (h : HistD) : (allH h).length = h.past.length + 1 + h.next.length := by simp [allH]; omega
theorem Rel.lt {h : HistD} {r : RowD} (x : Rel h r) : r.at_ < r.l.length := by rw [x.l, x.at_, allH_len]; omega
theorem Rel.len {h : HistD} {r : RowD} (x : Rel h r) : r.l.length = h.past.length + 1 + h.next.length := by rw [x.l, allH_len]
theorem Rel.cur {h : HistD} {r : RowD} (x : Rel h r) : r.l.getD r.at_ .empty = h.now := by
  rw [x.l, x.at_, allH]; simp [List.getD_eq_getElem?_getD, List.getElem?_append_left, List.getElem?_append_right]
theorem Rel.do_ {h : HistD} {r : RowD} (x : Rel h r) (s : ByteArray) : Rel (doH h s).1 (doR r s).1 ∧ (doH h s).2 = (doR r s).2 := by
  have := x.at_; have hm := x.most
  unfold doH doR
  by_cases c : h.most ≤ (h.past.length : Int)
  · rw [if_pos c, if_pos (by omega)]; exact ⟨x, rfl⟩
  · rw [if_neg c, if_neg (by omega)]
    refine ⟨⟨?_, ?_, hm⟩, rfl⟩
    · simp only [allH]; rw [x.l, x.at_]; unfold allH
      have e : (h.past ++ [h.now] ++ h.next.reverse).take (h.past.length + 1) = h.past ++ [h.now] := by
        rw [List.take_append_of_le_length (by simp)]; rw [List.take_of_length_le (by simp)]
      rw [e]; simp
    · simp [x.at_]
theorem take_last {α : Type} (l : List α) (d : α) (h : l.length ≠ 0) : l.take (l.length - 1) ++ [l.getD (l.length - 1) d] = l := by
  have hl : l.length - 1 < l.length := by omega
  conv => rhs; rw [← List.take_append_drop (l.length - 1) l]
  rw [List.drop_eq_getElem_cons hl, List.drop_of_length_le (by omega)]
  simp [List.getD_eq_getElem?_getD, List.getElem?_eq_getElem hl]
theorem undoH_all (h : HistD) : allH (undoH h).1 = allH h := by
  unfold undoH
  by_cases c : h.past.length = 0
  · rw [if_pos c]
  · rw [if_neg c]; simp only [allH]
    conv => rhs; rw [← take_last h.past .empty c]
    simp
theorem redoH_all (h : HistD) : allH (redoH h).1 = allH h := by
  unfold redoH
  by_cases c : h.next.length = 0
  · rw [if_pos c]
  · rw [if_neg c]; simp only [allH]
    conv => rhs; rw [← take_last h.next .empty c]
    simp
theorem Rel.undo {h : HistD} {r : RowD} (x : Rel h r) : Rel (undoH h).1 (undoR r).1 ∧ (undoH h).2.2 = (undoR r).2 ∧ ((undoR r).2 ≠ 0 → (undoH h).2.1 = ⟨#[]⟩) ∧ ((undoR r).2 = 0 → (undoH h).2.1 = (undoH h).1.now) := by
  have := x.at_
  have ha := undoH_all h
  unfold undoH undoR at *
  by_cases c : h.past.length = 0
  · rw [if_pos c] at ha ⊢; rw [if_pos (by omega)]; exact ⟨x, rfl, fun _ => rfl, fun h => by simp at h⟩
  · rw [if_neg c] at ha ⊢; rw [if_neg (by omega)]
    exact ⟨⟨x.l.trans ha.symm, by simp [List.length_take]; omega, x.most⟩, rfl, fun h => absurd rfl h, fun _ => rfl⟩
theorem Rel.redo {h : HistD} {r : RowD} (x : Rel h r) : Rel (redoH h).1 (redoR r).1 ∧ (redoH h).2.2 = (redoR r).2 ∧ ((redoR r).2 ≠ 0 → (redoH h).2.1 = ⟨#[]⟩) ∧ ((redoR r).2 = 0 → (redoH h).2.1 = (redoH h).1.now) := by
  have := x.at_; have hl := x.len
  have ha := redoH_all h
  unfold redoH redoR at *
  by_cases c : h.next.length = 0
  · rw [if_pos c] at ha ⊢; rw [if_pos (by omega)]; exact ⟨x, rfl, fun _ => rfl, fun h => by simp at h⟩
  · rw [if_neg c] at ha ⊢; rw [if_neg (by omega)]
    exact ⟨⟨x.l.trans ha.symm, by simp; omega, x.most⟩, rfl, fun h => absurd rfl h, fun _ => rfl⟩
def stepH (h : HistD) (k : Int) (x : ByteArray) : HistD := if k % 4 < 2 then (doH h x).1 else if k % 4 = 2 then (undoH h).1 else (redoH h).1
def stepR (r : RowD) (k : Int) (x : ByteArray) : RowD := if k % 4 < 2 then (doR r x).1 else if k % 4 = 2 then (undoR r).1 else (redoR r).1
theorem Rel.step {h : HistD} {r : RowD} (x : Rel h r) (k : Int) (s : ByteArray) : Rel (stepH h k s) (stepR r k s) := by
  unfold stepH stepR
  split
  · exact (x.do_ s).1
  · split
    · exact x.undo.1
    · exact x.redo.1
theorem doH_len (h : HistD) (x : ByteArray) : (doH h x).1.past.length + (doH h x).1.next.length ≤ h.past.length + h.next.length + 1 := by
  unfold doH; split <;> simp <;> omega
theorem undoH_len (h : HistD) : (undoH h).1.past.length + (undoH h).1.next.length = h.past.length + h.next.length := by
  have a := allH_len h; have b := allH_len (undoH h).1; rw [undoH_all] at b; omega
theorem redoH_len (h : HistD) : (redoH h).1.past.length + (redoH h).1.next.length = h.past.length + h.next.length := by
  have a := allH_len h; have b := allH_len (redoH h).1; rw [redoH_all] at b; omega
theorem stepH_len (h : HistD) (k : Int) (x : ByteArray) : (stepH h k x).past.length + (stepH h k x).next.length ≤ h.past.length + h.next.length + 1 := by
  have := doH_len h x; have := undoH_len h; have := redoH_len h
  unfold stepH; split
  · omega
  · split <;> omega
theorem rel_new (s : ByteArray) (m : Int) : Rel ⟨[], [], s, max m 0⟩ ⟨[s], 0, m⟩ := ⟨by simp [allH], rfl, rfl⟩
structure DeedD where
  kind : Int
  text : ByteArray
def tyDeed : Ty DeedD := ⟨2, fun d => [.int .u8 d.kind, .string d.text], fun _ => rfl, fun d u hu => by simp at hu; rcases hu with rfl | rfl <;> rfl, by omega⟩
def deed0 : DeedD := ⟨0, .empty⟩
theorem stepH_head (h : HistD) (k : Int) (x : ByteArray) : (allH (stepH h k x)).getD 0 .empty = (allH h).getD 0 .empty := by
  unfold stepH
  split
  · unfold doH; split
    · rfl
    · simp only [allH]; cases h.past <;> simp
  · split
    · rw [undoH_all]
    · rw [redoH_all]
structure BackU (h0 h : HistD) (m : Nat) : Prop where
  all : allH h = allH h0
  next : h.next.length = h0.next.length + m
  past : h.past.length + m = h0.past.length
theorem BackU.start (h : HistD) : BackU h h 0 := ⟨rfl, rfl, rfl⟩
theorem undoH_ok (h : HistD) : ((undoH h).2.2 = 0 ∧ h.past.length ≠ 0 ∧ (undoH h).1.past.length + 1 = h.past.length ∧ (undoH h).1.next.length = h.next.length + 1) ∨ ((undoH h).2.2 ≠ 0 ∧ h.past.length = 0 ∧ (undoH h).1 = h) := by
  unfold undoH; split
  · exact .inr ⟨by simp, by assumption, rfl⟩
  · exact .inl ⟨rfl, by assumption, by simp only [List.length_take]; omega, by simp⟩
theorem redoH_ok (h : HistD) : ((redoH h).2.2 = 0 ∧ h.next.length ≠ 0 ∧ (redoH h).1.past.length = h.past.length + 1) ∨ ((redoH h).2.2 ≠ 0 ∧ h.next.length = 0) := by
  unfold redoH; split
  · exact .inr ⟨by simp, by assumption⟩
  · exact .inl ⟨rfl, by assumption, by simp⟩
theorem BackU.yes {h0 h : HistD} {m : Nat} (b : BackU h0 h m) (e : (undoH h).2.2 = 0) : BackU h0 (undoH h).1 (m + 1) := by
  rcases undoH_ok h with ⟨_, c, p, n⟩ | ⟨c, _⟩
  · have := b.next; have := b.past; exact ⟨(undoH_all h).trans b.all, by omega, by omega⟩
  · exact absurd e c
theorem BackU.no {h0 h : HistD} {m : Nat} (b : BackU h0 h m) (e : ¬ (undoH h).2.2 = 0) : BackU h0 (undoH h).1 m := by
  rcases undoH_ok h with ⟨c, _⟩ | ⟨_, _, c⟩
  · exact absurd c e
  · rw [c]; exact b
theorem BackU.first {h0 h : HistD} {m : Nat} (b : BackU h0 h m) {f : ByteArray} (hq : (allH h0).getD 0 .empty = f) (e : h.past.length = 0) : h.now = f := by
  rw [← hq, ← b.all]; unfold allH; rw [List.length_eq_zero_iff.mp e]; rfl
structure BackR (h0 h : HistD) (m v : Nat) : Prop where
  all : allH h = allH h0
  past : h.past.length + m = h0.past.length + v
theorem BackU.redo {h0 h : HistD} {m : Nat} (b : BackU h0 h m) : BackR h0 h m 0 := ⟨b.all, b.past⟩
theorem BackR.ok {h0 h : HistD} {m v : Nat} (b : BackR h0 h m v) (e : v < m) : (redoH h).2.2 = 0 := by
  have h1 := allH_len h; have h2 := allH_len h0; rw [b.all] at h1; have := b.past
  rcases redoH_ok h with ⟨c, _⟩ | ⟨_, c⟩
  · exact c
  · omega
theorem BackR.step {h0 h : HistD} {m v : Nat} (b : BackR h0 h m v) (e : v < m) : BackR h0 (redoH h).1 m (v + 1) := by
  have := b.past; have := b.ok e
  rcases redoH_ok h with ⟨_, _, c⟩ | ⟨c, _⟩
  · exact ⟨(redoH_all h).trans b.all, by omega⟩
  · exact absurd this c
theorem allH_now (h : HistD) : (allH h).getD h.past.length .empty = h.now := by
  rw [allH]; simp [List.getD_eq_getElem?_getD, List.getElem?_append_left, List.getElem?_append_right]
theorem BackR.now {h0 h : HistD} {m v : Nat} (b : BackR h0 h m v) (e : v = m) : h.now = h0.now := by
  have := b.past
  rw [← allH_now h, ← allH_now h0, b.all, show h.past.length = h0.past.length by omega]
def turnTo (t : ByteArray) (k : Nat) (l : List ByteArray) : List ByteArray := (l.take k).map (· ++ t) ++ l.drop k
def turnFr (t : ByteArray) (k : Nat) (l : List ByteArray) : List ByteArray := l.take k ++ (l.drop k).map (· ++ t)
def turnH (h : HistD) (t : ByteArray) : HistD := ⟨h.past.map (· ++ t), h.next.map (· ++ t), h.now ++ t, h.most⟩
theorem turnTo_len (t : ByteArray) (k : Nat) (l : List ByteArray) : (turnTo t k l).length = l.length := by simp [turnTo]; omega
theorem turnFr_len (t : ByteArray) (k : Nat) (l : List ByteArray) : (turnFr t k l).length = l.length := by simp [turnFr]; omega
theorem turnTo_get (t : ByteArray) (k : Nat) (l : List ByteArray) (h : k < l.length) : (turnTo t k l).getD k .empty = l.getD k .empty := by
  have e : ((l.take k).map (· ++ t)).length = k := by simp; omega
  simp only [turnTo, List.getD_eq_getElem?_getD]
  rw [List.getElem?_append_right (by omega), e]; simp
theorem turnTo_set (t : ByteArray) (k : Nat) (l : List ByteArray) (h : k < l.length) : (turnTo t k l).set k (l.getD k .empty ++ t) = turnTo t (k + 1) l := by
  have e : ((l.take k).map (· ++ t)).length = k := by simp; omega
  have e2 : l.getD k .empty = l[k] := by simp [List.getD_eq_getElem?_getD, List.getElem?_eq_getElem h]
  have e3 : l.take (k + 1) = l.take k ++ [l[k]] := by rw [List.take_add_one, List.getElem?_eq_getElem h]; rfl
  simp only [turnTo]
  rw [List.set_append_right _ _ (by omega), e, Nat.sub_self, List.drop_eq_getElem_cons h, List.set_cons_zero, e2, e3]
  simp only [List.map_append, List.map_cons, List.map_nil, List.append_assoc, List.cons_append, List.nil_append]
theorem turnFr_get (t : ByteArray) (k : Nat) (l : List ByteArray) (h : k < l.length) : (turnFr t (k + 1) l).getD k .empty = l.getD k .empty := by
  simp only [turnFr, List.getD_eq_getElem?_getD]
  rw [List.getElem?_append_left (by simp; omega)]; simp [List.getElem?_take]
theorem turnFr_set (t : ByteArray) (k : Nat) (l : List ByteArray) (h : k < l.length) : (turnFr t (k + 1) l).set k (l.getD k .empty ++ t) = turnFr t k l := by
  have e2 : l.getD k .empty = l[k] := by simp [List.getD_eq_getElem?_getD, List.getElem?_eq_getElem h]
  have e3 : l.take (k + 1) = l.take k ++ [l[k]] := by rw [List.take_add_one, List.getElem?_eq_getElem h]; rfl
  have e4 : (l.take k).length = k := by simp; omega
  simp only [turnFr]
  rw [e3, e2, List.append_assoc, List.set_append_right _ _ (by omega), e4, Nat.sub_self, List.singleton_append, List.set_cons_zero, List.drop_eq_getElem_cons h, List.map_cons]
theorem turnH_past {h : HistD} {t : ByteArray} {k : Nat} {ps : List ByteArray} (e : ps = turnTo t k h.past) (hk : ¬ k < h.past.length) : (turnH h t).past = ps := by
  rw [e, turnTo, List.take_of_length_le (by omega), List.drop_of_length_le (by omega)]; simp [turnH]
theorem turnH_next {h : HistD} {t : ByteArray} {i : Int} {qs : List ByteArray} (e : qs = turnFr t (i + 1).toNat h.next) (h1 : -1 ≤ i) (hi : ¬ i ≥ 0) : (turnH h t).next = qs := by
  rw [e, turnFr, show (i + 1).toNat = 0 by omega]; simp [turnH]
theorem turnH_all (h : HistD) (t : ByteArray) : allH (turnH h t) = (allH h).map (· ++ t) := by simp [turnH, allH]
theorem mem_past {h : HistD} {k : Nat} (hk : k < h.past.length) : h.past.getD k .empty ∈ allH h := by
  simp only [allH, List.mem_append]; refine .inl (.inl ?_); simp [List.getD_eq_getElem?_getD, List.getElem?_eq_getElem hk]
theorem mem_next {h : HistD} {k : Nat} (hk : k < h.next.length) : h.next.getD k .empty ∈ allH h := by
  simp only [allH, List.mem_append, List.mem_reverse]; refine .inr ?_; simp [List.getD_eq_getElem?_getD, List.getElem?_eq_getElem hk]
theorem mem_now {h : HistD} : h.now ∈ allH h := by simp [allH]
theorem getD_mem {l : List ByteArray} {k : Nat} (hk : k < l.length) : l.getD k .empty ∈ l := by simp [List.getD_eq_getElem?_getD, List.getElem?_eq_getElem hk]
theorem stepH_mem {h : HistD} {k : Int} {x s : ByteArray} (hs : s ∈ allH (stepH h k x)) : s ∈ allH h ∨ s = x := by
  unfold stepH at hs
  split at hs
  · unfold doH at hs; split at hs
    · exact .inl hs
    · simp only [allH, List.mem_append, List.reverse_nil, List.append_nil] at hs ⊢
      rcases hs with hs | hs
      · exact .inl (.inl hs)
      · exact .inr (by simpa using hs)
  · split at hs
    · rw [undoH_all] at hs; exact .inl hs
    · rw [redoH_all] at hs; exact .inl hs
theorem map_take_step {l : List ByteArray} {t : ByteArray} {j : Nat} (h : j < l.length) : (l.take j).map (· ++ t) ++ [l.getD j .empty ++ t] = (l.take (j + 1)).map (· ++ t) := by
  have e2 : l.getD j .empty = l[j] := by simp [List.getD_eq_getElem?_getD, List.getElem?_eq_getElem h]
  rw [List.take_add_one, List.getElem?_eq_getElem h, e2, Option.toList_some, List.map_append, List.map_cons, List.map_nil]
end Go.Sx
