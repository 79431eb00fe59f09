/- Digits of bytes, and bytes out of digits, as lists. Conditions: those of each theorem. -/
import Derived.Test.YtnjjjmpdikpjaabDoorConsoleLinesB2
import Derived.Lib.Bytealg
import Derived.Lib.SplitLaws
import Derived.Lib.Join
import Derived.Test.YtnjjjmpdikpjaabDoorConsoleLinesB1
import Derived.ProofKit
import Derived.OpenShut
import Derived.ShutString
import Derived.ChangeOld
import Derived.Below
import Derived.SizedLaws
import Derived.Deep.Slices
import Derived.Deep.CondSized
import Derived.Test.YtnjjjmpdikpjaabDoorRows
import Derived.Lay
import Derived.Lib.LaidTab
import Derived.Shelf.Vars
import Derived.Stop.LaidErr
import Derived.LaidMore
import Derived.LaidLaws
import Derived.MakeChecks
import Derived.Stop.Joined
import Derived.HandedShaped
namespace Go.Sx
set_option linter.unusedVariables false
set_option linter.unusedSimpArgs false
def dgU (k : Nat) : UInt8 := digs.data.toList.getD k 0
def hexL (l : List UInt8) : List UInt8 := l.flatMap fun b => [dgU (b.toNat / 16), dgU (b.toNat % 16)]
def hexS (t : ByteArray) : ByteArray := hexT t t.size
theorem len_size (t : ByteArray) : t.data.toList.length = t.size := by rw [Array.length_toList]; rfl
theorem hexL_app (a b : List UInt8) : hexL (a ++ b) = hexL a ++ hexL b := by simp [hexL]
theorem hexL_len (l : List UInt8) : (hexL l).length = 2 * l.length := by
  induction l with
  | nil => rfl
  | cons x l ih => simp [hexL] at ih ⊢; omega
theorem digs_ext : ∀ k : Fin 16, (digs.extract k.val (k.val + 1)).data.toList = [dgU k.val] := by decide +kernel
theorem dgU_inj : ∀ a b : Fin 16, dgU a.val = dgU b.val → a = b := by decide +kernel
theorem bn_data (s : ByteArray) (i : Nat) (h : i < s.data.toList.length) : bn s i = (s.data.toList[i]).toNat := by
  unfold bn; rw [List.getD_eq_getElem?_getD, List.getElem?_eq_getElem h]; rfl
theorem hexT_data (t : ByteArray) : ∀ i, i ≤ t.size → (hexT t i).data.toList = hexL (t.data.toList.take i)
  | 0, _ => rfl
  | i + 1, h => by
    have hl : i < t.data.toList.length := by rw [len_size]; omega
    have hb := bn_lt t i
    rw [List.take_add_one, List.getElem?_eq_getElem hl, hexL_app, ← hexT_data t i (by omega), hexT]
    have e1 := digs_ext ⟨bn t i / 16, by omega⟩
    have e2 := digs_ext ⟨bn t i % 16, by omega⟩
    simp only [ByteArray.data_append, Array.toList_append, List.append_assoc]
    congr 1
    have e3 : hexL (some t.data.toList[i]).toList = [dgU (bn t i / 16)] ++ [dgU (bn t i % 16)] := by
      rw [bn_data t i hl]; simp [hexL]
    rw [e3]
    congr 1
theorem hexS_data (t : ByteArray) : (hexS t).data.toList = hexL t.data.toList := by
  unfold hexS
  rw [hexT_data t t.size (Nat.le_refl _), List.take_of_length_le (by rw [len_size]; omega)]
theorem hexS_size (t : ByteArray) : (hexS t).size = 2 * t.size := hexT_size t t.size
theorem pair_inj {a b : UInt8} (h : [dgU (a.toNat / 16), dgU (a.toNat % 16)] = [dgU (b.toNat / 16), dgU (b.toNat % 16)]) : a = b := by
  have ha := a.toNat_lt
  have hb := b.toNat_lt
  simp only [List.cons.injEq, and_true] at h
  have e1 := Fin.val_eq_of_eq (dgU_inj ⟨a.toNat / 16, by omega⟩ ⟨b.toNat / 16, by omega⟩ h.1)
  have e2 := Fin.val_eq_of_eq (dgU_inj ⟨a.toNat % 16, by omega⟩ ⟨b.toNat % 16, by omega⟩ h.2)
  simp only at e1 e2
  exact UInt8.toNat_inj.1 (by omega)
theorem hexL_inj : ∀ {a b : List UInt8}, hexL a = hexL b → a = b
  | [], [], _ => rfl
  | [], y :: b, h => by simp [hexL] at h
  | x :: a, [], h => by simp [hexL] at h
  | x :: a, y :: b, h => by
    have h' : [dgU (x.toNat / 16), dgU (x.toNat % 16)] ++ hexL a = [dgU (y.toNat / 16), dgU (y.toNat % 16)] ++ hexL b := by simpa [hexL] using h
    obtain ⟨h1, h2⟩ := List.append_inj h' (by simp)
    rw [pair_inj h1, hexL_inj h2]
theorem hexS_inj {a b : ByteArray} (h : hexS a = hexS b) : a = b := by
  have : hexL a.data.toList = hexL b.data.toList := by rw [← hexS_data, ← hexS_data, h]
  exact ByteArray.ext (Array.ext' (hexL_inj this))
/-- The two digits of one of the bytes. -/
theorem hexL_at (l : List UInt8) {k : Nat} (h : k < l.length) : ((hexL l).drop (2 * k)).take 2 = [dgU (l[k].toNat / 16), dgU (l[k].toNat % 16)] := by
  have e : l = l.take k ++ l[k] :: l.drop (k + 1) := by simp
  have e2 : hexL l = hexL (l.take k) ++ ([dgU (l[k].toNat / 16), dgU (l[k].toNat % 16)] ++ hexL (l.drop (k + 1))) := by
    conv => lhs; rw [e]
    rw [hexL_app]; rfl
  have hl : (hexL (l.take k)).length = 2 * k := by rw [hexL_len, List.length_take]; omega
  rw [e2, ← hl, List.drop_left]
  simp
theorem ext_data (s : ByteArray) (a b : Nat) : (s.extract a b).data.toList = (s.data.toList.drop a).take (b - a) := by
  simp [ByteArray.data_extract, Array.toList_extract, List.extract]
/-! ### The library's way: a digit's place -/
theorem ix_neg : ∀ {l : List UInt8} {c : UInt8}, Lib.indexByte l c < 0 → c ∉ l
  | [], _, _ => by simp
  | b :: l, c, h => by
    unfold Lib.indexByte at h
    split at h
    · omega
    · rename_i hb
      have hb' : ¬ b = c := by simpa using hb
      split at h
      · rename_i h1
        have h1' : Lib.indexByte l c = -1 := by simpa using h1
        have := ix_neg (l := l) (c := c) (by omega)
        simp only [List.mem_cons, not_or]; exact ⟨fun e => hb' e.symm, this⟩
      · have := ix_neg (l := l) (c := c) (by omega)
        simp only [List.mem_cons, not_or]; exact ⟨fun e => hb' e.symm, this⟩
theorem ix_ge : ∀ (l : List UInt8) (c : UInt8), -1 ≤ Lib.indexByte l c
  | [], _ => by simp [Lib.indexByte]
  | b :: l, c => by
    have := ix_ge l c
    unfold Lib.indexByte
    split
    · omega
    · split <;> omega
theorem ix_pos : ∀ {l : List UInt8} {c : UInt8}, 0 ≤ Lib.indexByte l c → (Lib.indexByte l c).toNat < l.length ∧ l.getD (Lib.indexByte l c).toNat 0 = c
  | [], _, h => by simp [Lib.indexByte] at h
  | b :: l, c, h => by
    unfold Lib.indexByte at h ⊢
    split at h
    · rename_i hb
      rw [if_pos hb]; simpa using hb
    · rename_i hb
      rw [if_neg hb]
      split at h
      · omega
      · rename_i h1
        rw [if_neg h1]
        have hge := ix_ge l c
        have h1' : ¬ Lib.indexByte l c = -1 := by simpa using h1
        obtain ⟨h2, h3⟩ := ix_pos (l := l) (c := c) (by omega)
        rw [show (Lib.indexByte l c + 1).toNat = (Lib.indexByte l c).toNat + 1 by omega]
        exact ⟨by simp; omega, by simpa using h3⟩
/-- A digit's place, or less than nothing. -/
def ixD (z : Int) : Int := Lib.indexByte (⟨#[48, 49, 50, 51, 52, 53, 54, 55, 56, 57, 97, 98, 99, 100, 101, 102]⟩ : ByteArray).data.toList z.toNat.toUInt8
theorem bt_u8 (s : ByteArray) {i : Nat} (h : i < s.data.toList.length) : (bt s i).toNat.toUInt8 = s.data.toList[i] := by
  unfold bt; rw [List.getD_eq_getElem?_getD, List.getElem?_eq_getElem h]
  simp
theorem ixD_neg {s : ByteArray} {i : Nat} (h : i < s.data.toList.length) (hx : ixD (bt s i) < 0) : s.data.toList[i] ∉ digs.data.toList := by
  unfold ixD at hx; rw [bt_u8 s h] at hx
  exact ix_neg hx
theorem ixD_pos {s : ByteArray} {i : Nat} (h : i < s.data.toList.length) (hx : ¬ ixD (bt s i) < 0) : (ixD (bt s i)).toNat < 16 ∧ dgU (ixD (bt s i)).toNat = s.data.toList[i] := by
  unfold ixD at hx ⊢; rw [bt_u8 s h] at hx ⊢
  exact ix_pos (Int.not_lt.1 hx)
theorem ixD_lo (z : Int) : -1 ≤ ixD z := ix_ge _ _
theorem dgU_mem {k : Nat} (h : k < 16) : dgU k ∈ digs.data.toList := by
  have hl : digs.data.toList.length = 16 := rfl
  unfold dgU
  rw [List.getD_eq_getElem?_getD, List.getElem?_eq_getElem (by omega)]
  exact List.getElem_mem _
theorem hexL_mem {l : List UInt8} {c : UInt8} (h : c ∈ hexL l) : c ∈ digs.data.toList := by
  simp only [hexL, List.mem_flatMap, List.mem_cons, List.not_mem_nil, or_false] at h
  obtain ⟨b, _, rfl | rfl⟩ := h
  · exact dgU_mem (by have := b.toNat_lt; omega)
  · exact dgU_mem (Nat.mod_lt _ (by decide))
/-- What has been put together of the first digits. -/
structure AbI (s : ByteArray) (o : List Int) (i : Nat) : Prop where
  two : i = 2 * o.length
  hx : hexL (o.map fun n => UInt8.ofNat n.toNat) = s.data.toList.take i
theorem AbI.start (s : ByteArray) : AbI s [] 0 := ⟨rfl, rfl⟩
theorem AbI.next {s : ByteArray} {o : List Int} {i : Nat} (h : AbI s o i) (hi : i + 1 < s.size) (h1 : ¬ ixD (bt s i) < 0) (h2 : ¬ ixD (bt s (i + 1)) < 0) :
    AbI s (o ++ [(((ixD (bt s i)).toNat * 16 + (ixD (bt s (i + 1))).toNat : Nat) : Int)]) (i + 2) := by
  have hs := len_size s
  obtain ⟨a1, a2⟩ := ixD_pos (by omega) h1
  obtain ⟨b1, b2⟩ := ixD_pos (i := i + 1) (by omega) h2
  refine ⟨by simp; have := h.two; omega, ?_⟩
  have hb : (UInt8.ofNat ((ixD (bt s i)).toNat * 16 + (ixD (bt s (i + 1))).toNat)).toNat = (ixD (bt s i)).toNat * 16 + (ixD (bt s (i + 1))).toNat := by rw [UInt8.toNat_ofNat']; omega
  rw [List.map_append, hexL_app, h.hx]
  have e : hexL ([(((ixD (bt s i)).toNat * 16 + (ixD (bt s (i + 1))).toNat : Nat) : Int)].map fun n => UInt8.ofNat n.toNat) = [s.data.toList[i]'(by omega), s.data.toList[i + 1]'(by omega)] := by
    simp only [List.map_cons, List.map_nil, Int.toNat_natCast, hexL, List.flatMap_cons, List.flatMap_nil, List.append_nil, hb]
    rw [← a2, ← b2]
    congr 2
    · omega
    · congr 1; omega
  rw [e, List.take_add_one, List.take_add_one, List.getElem?_eq_getElem (by omega), List.getElem?_eq_getElem (by omega)]
  simp
theorem AbI.fin {s : ByteArray} {o : List Int} {i : Nat} (h : AbI s o i) (hi : i = s.size) : hexS (strOfNums o) = s := by
  apply ByteArray.ext; apply Array.ext'
  rw [hexS_data, strOfNums_data, h.hx, hi, List.take_of_length_le (by rw [len_size]; omega)]
theorem no_hex {s : ByteArray} {i : Nat} (hi : i < s.size) (h : ixD (bt s i) < 0) (t : ByteArray) : hexS t ≠ s := fun e => by
  have hs := len_size s
  have h1 := ixD_neg (i := i) (by omega) h
  have h2 : s.data.toList[i]'(by omega) ∈ hexL t.data.toList := by
    have e2 := hexS_data t
    rw [e] at e2
    rw [← e2]; exact List.getElem_mem _
  exact h1 (hexL_mem h2)
/-! ### The document's way: all bytes tried -/
structure RbI (s : ByteArray) (o : List Int) (k : Nat) : Prop where
  len : o.length ≤ 256 * k
  is : ∀ t, s = hexS t → k ≤ t.size ∧ o = (bytesL t).take k
theorem RbI.start (s : ByteArray) : RbI s [] 0 := ⟨by simp, fun t _ => ⟨Nat.zero_le _, by simp⟩⟩
structure RbJ (s : ByteArray) (o : List Int) (k b : Nat) : Prop where
  len : o.length ≤ 256 * k + b
  is : ∀ t, s = hexS t → k < t.size ∧ o = (bytesL t).take k ++ (if bt t k < ((b : Nat) : Int) then [bt t k] else [])
theorem RbI.open {s : ByteArray} {o : List Int} {k : Nat} (h : RbI s o k) (hk : 2 * k + 1 < s.size) : RbJ s o k 0 :=
  ⟨h.len, fun t e => ⟨by have := hexS_size t; rw [← e] at this; omega, by rw [if_neg (by have := bt_range t k; omega)]; simpa using (h.is t e).2⟩⟩
theorem byte_one {b : Nat} (hb : b < 256) : (hexT (strOfNums [((b : Nat) : Int)]) (strOfNums [((b : Nat) : Int)]).size).data.toList = [dgU (b / 16), dgU (b % 16)] := by
  have := hexS_data (strOfNums [((b : Nat) : Int)])
  unfold hexS at this
  rw [this, strOfNums_data]
  have e : (UInt8.ofNat b).toNat = b := by rw [UInt8.toNat_ofNat']; omega
  simp [hexL, e]
theorem RbJ.cond {s : ByteArray} {o : List Int} {k b : Nat} (h : RbJ s o k b) (hb : b < 256) {t : ByteArray} (e : s = hexS t) :
    hexT (strOfNums [((b : Nat) : Int)]) (strOfNums [((b : Nat) : Int)]).size = s.extract (2 * k) (2 * k + 2) ↔ bt t k = ((b : Nat) : Int) := by
  have hk := (h.is t e).1
  have hl : k < t.data.toList.length := by rw [len_size]; omega
  have h2 : (s.extract (2 * k) (2 * k + 2)).data.toList = [dgU ((t.data.toList[k]).toNat / 16), dgU ((t.data.toList[k]).toNat % 16)] := by
    rw [ext_data, e, hexS_data, show 2 * k + 2 - 2 * k = 2 by omega, hexL_at _ hl]
  have h3 : bt t k = (((t.data.toList[k]).toNat : Nat) : Int) := by
    unfold bt; rw [List.getD_eq_getElem?_getD, List.getElem?_eq_getElem hl]; rfl
  have hu : (UInt8.ofNat b).toNat = b := by rw [UInt8.toNat_ofNat']; omega
  constructor
  · intro h4
    have h5 := byte_one hb
    rw [h4, h2] at h5
    have h6 : t.data.toList[k] = UInt8.ofNat b := pair_inj (by rw [hu]; exact h5)
    rw [h3, h6, hu]
  · intro h4
    have h6 : (t.data.toList[k]).toNat = b := by omega
    apply ByteArray.ext; apply Array.ext'
    rw [byte_one hb, h2, h6]
theorem str_bytes (t : ByteArray) : strOfNums (bytesL t) = t := by
  apply ByteArray.ext; apply Array.ext'
  rw [strOfNums_data]
  apply List.ext_getElem?
  intro j
  simp only [bytesL, List.map_map, List.getElem?_map]
  by_cases h : j < t.size
  · rw [List.getElem?_range h, List.getElem?_eq_getElem (by simpa using h)]
    simp [bt, List.getD_eq_getElem?_getD, h]
  · rw [List.getElem?_eq_none (by simpa using h), List.getElem?_eq_none (by simpa using h)]; rfl
theorem RbI.fin {s : ByteArray} {o : List Int} {k : Nat} (h : RbI s o k) (hk : ¬ 2 * k + 1 < s.size) {t : ByteArray} (e : s = hexS t) : strOfNums o = t := by
  obtain ⟨h1, h2⟩ := h.is t e
  have hs := hexS_size t
  rw [← e] at hs
  have hl := bytesL_len t
  rw [h2, List.take_of_length_le (by omega), str_bytes]
end Go.Sx


/- Texts cut at a byte, and put together again. Conditions: those of each theorem. -/
namespace Go.Sx
set_option linter.unusedVariables false
set_option linter.unusedSimpArgs false
def consH (b : UInt8) : List (List UInt8) → List (List UInt8)
  | [] => [[b]]
  | h :: t => (b :: h) :: t
/-- The pieces between a byte's places. -/
def spl (c : UInt8) : List UInt8 → List (List UInt8)
  | [] => [[]]
  | b :: l => if b = c then [] :: spl c l else consH b (spl c l)
theorem spl_ne (c : UInt8) : ∀ l, spl c l ≠ []
  | [] => by simp [spl]
  | b :: l => by
    unfold spl
    split
    · simp
    · cases spl c l <;> simp [consH]
theorem splitK_spl (c : UInt8) : ∀ l : List UInt8, Lib.splitK [c] 0 (l.count c) l = spl c l
  | [] => rfl
  | b :: l => by
    have ih := splitK_spl c l
    by_cases h : b = c
    · subst h
      rw [List.count_cons_self]
      have hi : Lib.index (b :: l) [b] = 0 := by unfold Lib.index; rw [if_pos (by simp)]
      unfold Lib.splitK
      rw [hi]
      simp only [spl, if_pos]
      rw [← ih]; simp
    · rw [List.count_cons_of_ne h]
      have hi : Lib.index (b :: l) [c] = if Lib.index l [c] == -1 then -1 else Lib.index l [c] + 1 := by
        conv => lhs; unfold Lib.index
        rw [if_neg (by simp; exact fun e => h e.symm)]
      rw [show spl c (b :: l) = consH b (spl c l) by simp [spl, h], ← ih]
      cases hk : l.count c with
      | zero => rfl
      | succ k =>
        have hge := Lib.index_ge l [c]
        unfold Lib.splitK
        rw [hi]
        by_cases h1 : Lib.index l [c] = -1
        · rw [h1]; rfl
        · have g1 : ¬ (Lib.index l [c] == -1) = true := by simpa using h1
          have g2 : ¬ (Lib.index l [c] + 1 == -1) = true := by simp; omega
          have e1 : (Lib.index l [c] + 1).toNat = (Lib.index l [c]).toNat + 1 := by omega
          simp only [if_neg g1, if_neg g2, e1]
          simp [consH, Nat.add_right_comm]
theorem ba_inj {a b : ByteArray} (h : a.data.toList = b.data.toList) : a = b := ByteArray.ext (Array.ext' h)
theorem map_data_inj : ∀ {a b : List ByteArray}, a.map (·.data.toList) = b.map (·.data.toList) → a = b
  | [], [], _ => rfl
  | [], y :: b, h => by simp at h
  | x :: a, [], h => by simp at h
  | x :: a, y :: b, h => by
    simp only [List.map_cons, List.cons.injEq] at h
    rw [ba_inj h.1, map_data_inj h.2]
/-- The pieces ahead of a place, and where the last one begins. -/
def cutTo (c : Int) (s : ByteArray) : Nat → List ByteArray × Nat
  | 0 => ([], 0)
  | i + 1 => if bt s i = c then ((cutTo c s i).1 ++ [s.extract (cutTo c s i).2 i], i + 1) else cutTo c s i
def cutAll (c : Int) (s : ByteArray) : List ByteArray := (cutTo c s s.size).1 ++ [s.extract (cutTo c s s.size).2 s.size]
theorem cutTo_no {c : Int} {s : ByteArray} {i f : Nat} {o : List ByteArray} (h : cutTo c s i = (o, f)) (hb : ¬ bt s i = c) : cutTo c s (i + 1) = (o, f) := by rw [cutTo, if_neg hb, h]
/-- The last piece grows by a byte, or a new one begins. -/
theorem spl_snoc (c b : UInt8) : ∀ (l : List UInt8) (p : List (List UInt8)) (q : List UInt8), spl c l = p ++ [q] → spl c (l ++ [b]) = if b = c then p ++ [q, []] else p ++ [q ++ [b]]
  | [], p, q, h => by
    have : p = [] ∧ q = [] := by
      cases p with
      | nil => simp [spl] at h; exact ⟨rfl, h⟩
      | cons x p => simp [spl] at h
    obtain ⟨rfl, rfl⟩ := this
    simp only [List.nil_append, spl]
    split <;> rfl
  | x :: l, p, q, h => by
    rw [List.cons_append]
    unfold spl at h ⊢
    by_cases hx : x = c
    · rw [if_pos hx] at h ⊢
      cases p with
      | nil => simp at h; exact absurd h.2 (spl_ne c l)
      | cons y p =>
        simp only [List.cons_append, List.cons.injEq] at h
        obtain ⟨rfl, h⟩ := h
        rw [spl_snoc c b l p q h]
        split <;> simp
    · rw [if_neg hx] at h ⊢
      cases hs : spl c l with
      | nil => exact absurd hs (spl_ne c l)
      | cons y r =>
        rw [hs] at h
        simp only [consH] at h
        cases p with
        | nil =>
          simp only [List.nil_append, List.cons.injEq] at h
          obtain ⟨rfl, rfl⟩ := h
          rw [spl_snoc c b l [] y (by rw [hs]; rfl)]
          split <;> simp [consH]
        | cons z p =>
          simp only [List.cons_append, List.cons.injEq] at h
          obtain ⟨rfl, rfl⟩ := h
          rw [spl_snoc c b l (y :: p) q (by rw [hs]; rfl)]
          split <;> simp [consH]
theorem take_list {s : ByteArray} {i : Nat} (h : i < s.size) : s.data.toList.take (i + 1) = s.data.toList.take i ++ [s.data.toList.getD i 0] := take_snoc _ _ (by rw [len_size]; exact h)
theorem cutTo_spl (c : UInt8) (s : ByteArray) : ∀ (i : Nat), i ≤ s.size → (cutTo ((c.toNat : Nat) : Int) s i).2 ≤ i ∧ spl c (s.data.toList.take i) = (cutTo ((c.toNat : Nat) : Int) s i).1.map (·.data.toList) ++ [(s.data.toList.take i).drop (cutTo ((c.toNat : Nat) : Int) s i).2]
  | 0, _ => ⟨Nat.le_refl _, by simp [cutTo, spl]⟩
  | i + 1, h => by
    obtain ⟨h1, h2⟩ := cutTo_spl c s i (by omega)
    have hs := len_size s
    have hb : (s.data.toList.getD i 0 = c) ↔ bt s i = ((c.toNat : Nat) : Int) := by
      unfold bt
      constructor
      · intro e; rw [e]
      · intro e; exact UInt8.toNat_inj.1 (by omega)
    rw [take_list (by omega), spl_snoc c _ _ _ _ h2, cutTo]
    by_cases hc : s.data.toList.getD i 0 = c
    · rw [if_pos hc, if_pos (hb.1 hc)]
      refine ⟨Nat.le_refl _, ?_⟩
      have e1 : (s.extract (cutTo ((c.toNat : Nat) : Int) s i).2 i).data.toList = (s.data.toList.take i).drop (cutTo ((c.toNat : Nat) : Int) s i).2 := by rw [ext_data, List.drop_take]
      have e2 : (s.data.toList.take i ++ [s.data.toList.getD i 0]).drop (i + 1) = [] := by
        apply List.drop_eq_nil_of_le; simp; omega
      rw [e2, List.map_append, List.map_cons, List.map_nil, e1]
      simp
    · rw [if_neg hc, if_neg (fun e => hc (hb.2 e))]
      refine ⟨by omega, ?_⟩
      rw [List.drop_append_of_le_length (by rw [List.length_take]; omega)]
theorem cutAll_spl (c : UInt8) (s : ByteArray) : (cutAll ((c.toNat : Nat) : Int) s).map (·.data.toList) = spl c s.data.toList := by
  obtain ⟨h1, h2⟩ := cutTo_spl c s s.size (Nat.le_refl _)
  have hs := len_size s
  rw [List.take_of_length_le (by omega)] at h2
  rw [h2]
  unfold cutAll
  rw [List.map_append, List.map_cons, List.map_nil, ext_data]
  congr 1
  rw [List.take_of_length_le (by simp)]
theorem splitB_cut (c : UInt8) (s : ByteArray) : Lib.splitB ⟨#[c]⟩ 0 (Lib.countB s ⟨#[c]⟩) s = cutAll ((c.toNat : Nat) : Int) s := by
  apply map_data_inj
  rw [Lib.splitB_data, cutAll_spl, ← splitK_spl]
  have : Lib.countB s ⟨#[c]⟩ = s.data.toList.count c := Lib.count_one c _
  rw [this]
/-! ### Put together -/
/-- Words with a blank between them. -/
def joinW (l : List ByteArray) : ByteArray := ⟨(Lib.join (l.map (·.data.toList)) [32]).toArray⟩
theorem joinW_one (x : ByteArray) : joinW [x] = x := by
  apply ba_inj; simp [joinW, Lib.join_one]
theorem joinTail_app (sep : List UInt8) (a b : List (List UInt8)) : Lib.joinTail sep (a ++ b) = Lib.joinTail sep a ++ Lib.joinTail sep b := by simp [Lib.joinTail]
theorem joinW_snoc (l : List ByteArray) (x : ByteArray) (h : l ≠ []) : joinW (l ++ [x]) = joinW l ++ ⟨#[32]⟩ ++ x := by
  cases l with
  | nil => exact absurd rfl h
  | cons y r =>
    apply ba_inj
    simp [joinW, Lib.join_cons, joinTail_app, Lib.joinTail]
theorem joinW_data (l : List ByteArray) : (joinW l).data.toList = Lib.join (l.map (·.data.toList)) [32] := by simp [joinW]
theorem join_len (m : Nat) : ∀ (l : List ByteArray), (∀ w, w ∈ l → w.size ≤ m) → (Lib.join (l.map (·.data.toList)) [32]).length ≤ l.length * (m + 1)
  | [], _ => by simp [Lib.join_nil]
  | x :: r, h => by
    have hx := h x (by simp)
    have key : ∀ r : List ByteArray, (∀ w, w ∈ r → w.size ≤ m) → (Lib.joinTail [32] (r.map (·.data.toList))).length ≤ r.length * (m + 1) := by
      intro r
      induction r with
      | nil => intro _; simp [Lib.joinTail]
      | cons y r ih =>
        intro hr
        have h1 := ih fun w hw => hr w (by simp [hw])
        have h2 := hr y (by simp)
        have h3 := len_size y
        simp only [Lib.joinTail, List.map_cons, List.flatten_cons, List.length_append, List.length_cons, List.length_nil] at h1 ⊢
        rw [Nat.succ_mul]; omega
    have h1 := key r fun w hw => h w (by simp [hw])
    have h3 := len_size x
    simp only [List.map_cons, Lib.join_cons, List.length_append, List.length_cons]
    rw [Nat.succ_mul]; omega
theorem spl_no (c : UInt8) : ∀ {l : List UInt8}, c ∉ l → spl c l = [l]
  | [], _ => rfl
  | b :: l, h => by
    simp only [List.mem_cons, not_or] at h
    have hb : ¬ b = c := fun e => h.1 e.symm
    simp only [spl, if_neg hb, spl_no c h.2, consH]
theorem spl_app (c : UInt8) (m : List UInt8) : ∀ {l : List UInt8}, c ∉ l → spl c (l ++ c :: m) = l :: spl c m
  | [], _ => by simp [spl]
  | b :: l, h => by
    simp only [List.mem_cons, not_or] at h
    have hb : ¬ b = c := fun e => h.1 e.symm
    simp only [List.cons_append, spl, if_neg hb, spl_app c m h.2, consH]
theorem spl_join (c : UInt8) : ∀ (ws : List (List UInt8)), ws ≠ [] → (∀ w, w ∈ ws → c ∉ w) → spl c (Lib.join ws [c]) = ws
  | [], h, _ => absurd rfl h
  | [x], _, h => by rw [Lib.join_one]; exact spl_no c (h x (by simp))
  | x :: y :: r, _, h => by
    have ih := spl_join c (y :: r) (by simp) fun w hw => h w (by simp [hw])
    have e : Lib.join (x :: y :: r) [c] = x ++ c :: Lib.join (y :: r) [c] := by
      rw [Lib.join_cons, Lib.join_cons]; simp [Lib.joinTail]
    rw [e, spl_app c _ (h x (by simp)), ih]
theorem join_spl (c : UInt8) : ∀ l : List UInt8, Lib.join (spl c l) [c] = l
  | [] => rfl
  | b :: l => by
    have ih := join_spl c l
    unfold spl
    cases hs : spl c l with
    | nil => exact absurd hs (spl_ne c l)
    | cons y r =>
      rw [hs] at ih
      split
      · rename_i h
        rw [Lib.join_cons] at ih ⊢
        simp only [Lib.joinTail, List.map_cons, List.flatten_cons] at ih ⊢
        simp [← ih, h]
      · simp only [consH]
        rw [Lib.join_cons] at ih ⊢
        simp [← ih]
/-- What is put together is cut into the same words. -/
theorem cut_join (ws : List ByteArray) (h : ws ≠ []) (hb : ∀ w, w ∈ ws → (32 : UInt8) ∉ w.data.toList) : cutAll 32 (joinW ws) = ws := by
  apply map_data_inj
  have := cutAll_spl 32 (joinW ws)
  rw [show (((32 : UInt8).toNat : Nat) : Int) = 32 from rfl] at this
  rw [this, joinW_data, spl_join 32 _ (by simpa using h)]
  intro w hw
  obtain ⟨x, hx, rfl⟩ := List.mem_map.1 hw
  exact hb x hx
theorem join_cut (s : ByteArray) : joinW (cutAll 32 s) = s := by
  apply ba_inj
  have := cutAll_spl 32 s
  rw [show (((32 : UInt8).toNat : Nat) : Int) = 32 from rfl] at this
  rw [joinW_data, this, join_spl]
end Go.Sx


/- Lines of operations, read and written, as plain laws. Conditions: those of each theorem. -/
namespace Go.Sx
set_option linter.unusedVariables false
set_option linter.unusedSimpArgs false
def eqH (t : ByteArray) : ByteArray := ⟨#[61]⟩ ++ hexS t
/-- The words behind the kind's. -/
def tailW (ns : List Int) (t : ByteArray) : List ByteArray := ns.map numB ++ (if t = ⟨#[]⟩ then [] else [eqH t])
def lineW (r : RawD) : List ByteArray := (opRowAt (r.nums.getD 0 0)).name :: tailW (r.nums.drop 1) r.text
def lineC (r : RawD) : ByteArray × Int := if (ofR r).2 = 0 then (joinW (lineW r), 0) else (⟨#[]⟩, (ofR r).2)
def okL (l : List Int) : Prop := ∀ n, n ∈ l → i64ok n
def Lok (r : RawD) (s : ByteArray) : Prop := okL r.nums ∧ (ofR r).2 = 0 ∧ joinW (lineW r) = s
def w0 (s : ByteArray) : ByteArray := (cutAll 32 s).getD 0 .empty
/-- What a line reads as. -/
def ReadS (s : ByteArray) (v : RawD) (e : Int) : Prop :=
  (e = 0 ∧ Lok v s) ∨ (e = 9 ∧ v = raw0 ∧ lastTo (w0 s) 24 = 0) ∨ (e = 3 ∧ v = raw0 ∧ lastTo (w0 s) 24 ≠ 0 ∧ ∀ r, ¬ Lok r s)
theorem eqs_size : (⟨#[61]⟩ : ByteArray).size = 1 := rfl
theorem sp_size : (⟨#[32]⟩ : ByteArray).size = 1 := rfl
theorem spe_size : (⟨#[32, 61]⟩ : ByteArray).size = 2 := rfl
theorem nl_size : (⟨#[10]⟩ : ByteArray).size = 1 := rfl
theorem eqH_data (t : ByteArray) : (eqH t).data.toList = 61 :: hexL t.data.toList := by
  unfold eqH; rw [ByteArray.data_append, Array.toList_append, hexS_data]; rfl
theorem eqH_size (t : ByteArray) : (eqH t).size = 1 + 2 * t.size := by
  unfold eqH; rw [ByteArray.size_append, hexS_size]; rfl
theorem numB_head' (n : Int) : ∃ b r, (numB n).data.toList = b :: r ∧ b ≠ 61 := by
  rw [numB_data]
  cases h : Lib.itoa n with
  | nil =>
    have := numB_len n
    have h2 : (numB n).size = (Lib.itoa n).length := by rw [← len_size, numB_data]
    have h3 := Lib.nDigits_pos n.natAbs
    rw [h, List.length_nil] at h2; omega
  | cons b r =>
    refine ⟨b, r, rfl, fun e => ?_⟩
    have := itoa_bytes n b (by rw [h]; simp)
    rw [e] at this
    revert this; decide
theorem num_ne_eq (n : Int) (t : ByteArray) : numB n ≠ eqH t := fun e => by
  obtain ⟨b, r, h1, h2⟩ := numB_head' n
  rw [e, eqH_data] at h1
  injection h1 with h1
  exact h2 h1.symm
theorem eqH_inj {a b : ByteArray} (h : eqH a = eqH b) : a = b := by
  have h1 := eqH_data a
  rw [h, eqH_data] at h1
  injection h1 with _ h1
  exact ba_inj (hexL_inj h1.symm)
theorem nil_eq {t : ByteArray} (h : t.size = 0) : t = ⟨#[]⟩ := by
  apply ba_inj; have := len_size t; exact List.length_eq_zero_iff.1 (by omega)
theorem tailW_inj : ∀ {a b : List Int} {t u : ByteArray}, okL a → okL b → tailW a t = tailW b u → a = b ∧ t = u
  | [], [], t, u, _, _, h => by
    refine ⟨rfl, ?_⟩
    unfold tailW at h
    by_cases h1 : t = ⟨#[]⟩ <;> by_cases h2 : u = ⟨#[]⟩
    · rw [h1, h2]
    · rw [if_pos h1, if_neg h2] at h; simp at h
    · rw [if_neg h1, if_pos h2] at h; simp at h
    · rw [if_neg h1, if_neg h2] at h; simp at h; exact eqH_inj h
  | [], y :: b, t, u, _, _, h => by
    unfold tailW at h
    by_cases h1 : t = ⟨#[]⟩
    · rw [if_pos h1] at h; simp at h
    · rw [if_neg h1] at h; simp at h; exact absurd h.1.symm (num_ne_eq y t)
  | x :: a, [], t, u, _, _, h => by
    unfold tailW at h
    by_cases h1 : u = ⟨#[]⟩
    · rw [if_pos h1] at h; simp at h
    · rw [if_neg h1] at h; simp at h; exact absurd h.1 (num_ne_eq x u)
  | x :: a, y :: b, t, u, ha, hb, h => by
    have h' : numB x = numB y ∧ tailW a t = tailW b u := by
      unfold tailW at h ⊢
      simpa using h
    have e := numB_inj (ha x (by simp)) (hb y (by simp)) h'.1
    obtain ⟨e2, e3⟩ := tailW_inj (fun n hn => ha n (by simp [hn])) (fun n hn => hb n (by simp [hn])) h'.2
    exact ⟨by rw [e, e2], e3⟩
theorem name_noblank (k : Int) : (32 : UInt8) ∉ (opRowAt k).name.data.toList := by
  by_cases h : okK k = true
  · rcases okK_cases h with rfl | rfl | rfl | rfl | rfl | rfl | rfl | rfl | rfl | rfl | rfl | rfl | rfl | rfl | rfl | rfl | rfl | rfl | rfl | rfl | rfl | rfl | rfl | rfl <;> decide
  · unfold opRowAt; rw [if_neg h]; decide
theorem name_size (k : Int) : (opRowAt k).name.size ≤ 8 := by
  by_cases h : okK k = true
  · rcases okK_cases h with rfl | rfl | rfl | rfl | rfl | rfl | rfl | rfl | rfl | rfl | rfl | rfl | rfl | rfl | rfl | rfl | rfl | rfl | rfl | rfl | rfl | rfl | rfl | rfl <;> decide
  · unfold opRowAt; rw [if_neg h]; decide
theorem num_noblank (n : Int) : (32 : UInt8) ∉ (numB n).data.toList := fun h => by
  rw [numB_data] at h
  have := itoa_bytes n _ h
  revert this; decide
theorem eqH_noblank (t : ByteArray) : (32 : UInt8) ∉ (eqH t).data.toList := fun h => by
  rw [eqH_data] at h
  rcases List.mem_cons.1 h with h | h
  · exact absurd h (by decide)
  · have := hexL_mem h
    revert this; decide
theorem line_noblank (r : RawD) : ∀ w, w ∈ lineW r → (32 : UInt8) ∉ w.data.toList := by
  intro w hw
  unfold lineW tailW at hw
  rcases List.mem_cons.1 hw with rfl | hw
  · exact name_noblank _
  · rcases List.mem_append.1 hw with hw | hw
    · obtain ⟨n, _, rfl⟩ := List.mem_map.1 hw; exact num_noblank n
    · split at hw
      · simp at hw
      · simp only [List.mem_singleton] at hw; subst hw; exact eqH_noblank _
theorem cut_line (r : RawD) : cutAll 32 (joinW (lineW r)) = lineW r := cut_join _ (by simp [lineW]) (line_noblank r)
theorem Lok.cut {r : RawD} {s : ByteArray} (h : Lok r s) : cutAll 32 s = lineW r := by rw [← h.2.2, cut_line]
theorem of_ok {r : RawD} (h : (ofR r).2 = 0) : r.nums.length ≠ 0 ∧ okK (r.nums.getD 0 0) = true := by
  unfold ofR at h
  split at h
  · simp at h
  · rename_i h1
    simp only [not_or] at h1
    exact ⟨h1.1, by simpa using h1.2⟩
theorem of_kind {r : RawD} (h : (ofR r).2 = 0) : (ofR r).1.kind = r.nums.getD 0 0 := by
  unfold ofR at h ⊢
  split at h
  · simp at h
  · rename_i h1
    rw [if_neg h1]
    split at h
    · simp at h
    · rename_i h2
      rw [if_neg h2]
      split at h
      · simp at h
      · rename_i h3
        rw [if_neg h3]
theorem name_pos {k : Int} (h : okK k = true) : (opRowAt k).name ≠ ⟨#[]⟩ := by
  rcases okK_cases h with rfl | rfl | rfl | rfl | rfl | rfl | rfl | rfl | rfl | rfl | rfl | rfl | rfl | rfl | rfl | rfl | rfl | rfl | rfl | rfl | rfl | rfl | rfl | rfl <;> decide
theorem Lok.kind {r : RawD} {s : ByteArray} (h : Lok r s) : ((lastTo (w0 s) 24 : Nat) : Int) = r.nums.getD 0 0 ∧ lastTo (w0 s) 24 ≠ 0 := by
  obtain ⟨h1, h2⟩ := of_ok h.2.1
  have e : w0 s = (opRowAt (r.nums.getD 0 0)).name := by unfold w0; rw [h.cut]; rfl
  rw [e]
  have := last_row (name_pos h2)
  refine ⟨this, fun h9 => ?_⟩
  rw [h9] at this
  have h3 : 1 ≤ r.nums.getD 0 0 := by simp only [okK, decide_eq_true_eq] at h2; exact h2.1
  omega
theorem head_drop {l : List Int} (h : l.length ≠ 0) : l = l.getD 0 0 :: l.drop 1 := by
  cases l with
  | nil => simp at h
  | cons x l => simp
theorem Lok.unique {r q : RawD} {s : ByteArray} (h : Lok r s) (k : Lok q s) : r = q := by
  have e := h.cut.symm.trans k.cut
  have e1 := h.kind.1.symm.trans k.kind.1
  unfold lineW at e
  injection e with _ e2
  obtain ⟨e3, e4⟩ := tailW_inj (fun n hn => h.1 n (List.mem_of_mem_drop hn)) (fun n hn => k.1 n (List.mem_of_mem_drop hn)) e2
  have h1 := head_drop (of_ok h.2.1).1
  have k1 := head_drop (of_ok k.2.1).1
  cases r; cases q
  simp only at *
  rw [e4, h1, k1, e1, e3]
theorem ReadS.det {s : ByteArray} {v u : RawD} {e f : Int} (h : ReadS s v e) (k : ReadS s u f) : v = u ∧ e = f := by
  rcases h with ⟨rfl, h⟩ | ⟨rfl, rfl, h⟩ | ⟨rfl, rfl, h, h'⟩ <;> rcases k with ⟨rfl, k⟩ | ⟨rfl, rfl, k⟩ | ⟨rfl, rfl, k, k'⟩
  · exact ⟨h.unique k, rfl⟩
  · exact absurd k h.kind.2
  · exact absurd h (k' v)
  · exact absurd h k.kind.2
  · exact ⟨rfl, rfl⟩
  · exact absurd h k
  · exact absurd k (h' u)
  · exact absurd k h
  · exact ⟨rfl, rfl⟩
/-! ### Words read as numbers, and a text behind them -/
structure WdI (ns0 : List Int) (l : List ByteArray) (j : Nat) (nums ns : List Int) : Prop where
  is : nums = ns0 ++ ns
  len : ns.length = j
  ok : okL ns
  tk : l.take j = ns.map numB
def WdNo (l : List ByteArray) : Prop := ∀ ns t, okL ns → l ≠ tailW ns t
def WdOk (ns0 : List Int) (l : List ByteArray) (v : RawD) : Prop := ∃ ns, v.nums = ns0 ++ ns ∧ okL ns ∧ l = tailW ns v.text
def eqP (w : ByteArray) : Bool := Lib.hasPrefix w.data.toList [61]
theorem eqP_eqH (t : ByteArray) : eqP (eqH t) = true := by unfold eqP; rw [eqH_data]; simp [Lib.hasPrefix]
theorem eqP_num (n : Int) : eqP (numB n) = false := by
  obtain ⟨b, r, h1, h2⟩ := numB_head' n
  unfold eqP; rw [h1]
  have hb : ((61 : UInt8) == b) = false := by
    rcases hc : ((61 : UInt8) == b) with _ | _
    · rfl
    · exact absurd (beq_iff_eq.1 hc).symm h2
  simp only [Lib.hasPrefix, List.isPrefixOf, hb, Bool.false_and]
theorem eqP_split {w : ByteArray} (h : eqP w = true) : w = ⟨#[61]⟩ ++ w.extract 1 w.size := by
  apply ba_inj
  have hl := len_size w
  rw [ByteArray.data_append, Array.toList_append, ext_data]
  unfold eqP at h
  cases hw : w.data.toList with
  | nil => rw [hw] at h; simp [Lib.hasPrefix] at h
  | cons b r =>
    rw [hw] at h hl
    simp only [Lib.hasPrefix, List.isPrefixOf, Bool.and_true] at h
    have e : b = 61 := (beq_iff_eq.1 h).symm
    subst e
    simp only [List.drop_succ_cons, List.drop_zero]
    rw [List.take_of_length_le (by simp at hl; omega)]
    rfl
theorem WdI.start (ns0 : List Int) (l : List ByteArray) : WdI ns0 l 0 ns0 [] := ⟨by simp, rfl, fun n hn => by simp at hn, by simp⟩
theorem WdI.num {ns0 nums ns : List Int} {l : List ByteArray} {j : Nat} (h : WdI ns0 l j nums ns) (hj : j < l.length) {n : Int} (hn : i64ok n) (e : numB n = l.getD j .empty) : WdI ns0 l (j + 1) (nums ++ [n]) (ns ++ [n]) := by
  refine ⟨by rw [h.is, List.append_assoc], by simp [h.len], fun m hm => ?_, ?_⟩
  · rcases List.mem_append.1 hm with h1 | h1
    · exact h.ok m h1
    · simp only [List.mem_singleton] at h1; subst h1; exact hn
  · rw [take_snoc l .empty hj, h.tk, List.map_append, ← e]; rfl
theorem WdI.fin {ns0 nums ns : List Int} {l : List ByteArray} {j : Nat} (h : WdI ns0 l j nums ns) (hj : l.length ≤ j) : WdOk ns0 l ⟨nums, ⟨#[]⟩⟩ :=
  ⟨ns, h.is, h.ok, by have := h.tk; rw [List.take_of_length_le hj] at this; rw [this]; simp [tailW]⟩
theorem tailW_at {ns : List Int} {t : ByteArray} {j : Nat} (hj : j < (tailW ns t).length) (hok : okL ns) :
    (∃ n, i64ok n ∧ (tailW ns t).getD j .empty = numB n) ∨ (j = ns.length ∧ t ≠ ⟨#[]⟩ ∧ (tailW ns t).getD j .empty = eqH t ∧ j + 1 = (tailW ns t).length) := by
  by_cases h : j < ns.length
  · refine .inl ⟨ns[j], hok _ (List.getElem_mem _), ?_⟩
    unfold tailW
    rw [List.getD_eq_getElem?_getD, List.getElem?_append_left (by simpa using h), List.getElem?_map, List.getElem?_eq_getElem h]; rfl
  · unfold tailW at hj ⊢
    split at hj
    · simp at hj; omega
    · rename_i ht
      simp at hj
      have e : j = ns.length := by omega
      refine .inr ⟨e, ht, ?_, ?_⟩
      · rw [if_neg ht, List.getD_eq_getElem?_getD, List.getElem?_append_right (by simp; omega)]; simp [e]
      · rw [if_neg ht]; simp [e]
/-- A word that is no number, nor the text. -/
theorem no_word {l : List ByteArray} {j : Nat} (hj : j < l.length) (h1 : ¬ (eqP (l.getD j .empty) = true ∧ j + 1 = l.length)) (h2 : ∀ n, i64ok n → numB n ≠ l.getD j .empty) : WdNo l := by
  rintro ns t hok rfl
  rcases tailW_at hj hok with ⟨n, hn, e⟩ | ⟨_, _, e, e2⟩
  · exact h2 n hn e.symm
  · exact h1 ⟨by rw [e]; exact eqP_eqH t, e2⟩
/-- A last word that would be a text, and is none. -/
theorem no_text {l : List ByteArray} {j : Nat} (hj : j + 1 = l.length) (hp : eqP (l.getD j .empty) = true) (h : ∀ t, t ≠ ⟨#[]⟩ → hexS t ≠ (l.getD j .empty).extract 1 (l.getD j .empty).size) : WdNo l := by
  intro ns t hok e0
  have hj' : j < (tailW ns t).length := by rw [← e0]; omega
  subst e0
  rcases tailW_at hj' hok with ⟨n, hn, e⟩ | ⟨_, h1, e, e2⟩
  · rw [e, eqP_num] at hp; cases hp
  · refine h t h1 ?_
    rw [e]
    apply ba_inj
    have hs := eqH_size t
    rw [ext_data, hexS_data, eqH_data]
    simp only [List.drop_succ_cons, List.drop_zero]
    rw [List.take_of_length_le (by rw [hexL_len, len_size]; omega)]
theorem yes_text {ns0 nums ns : List Int} {l : List ByteArray} {j : Nat} (h : WdI ns0 l j nums ns) (hj : j + 1 = l.length) (hp : eqP (l.getD j .empty) = true) {t : ByteArray} (ht : t ≠ ⟨#[]⟩) (hx : hexS t = (l.getD j .empty).extract 1 (l.getD j .empty).size) : WdOk ns0 l ⟨nums, t⟩ := by
  refine ⟨ns, h.is, h.ok, ?_⟩
  have e := eqP_split hp
  rw [← hx] at e
  unfold tailW
  rw [if_neg ht, ← h.tk]
  have e2 : l = l.take (j + 1) := by rw [List.take_of_length_le (by omega)]
  conv => lhs; rw [e2, take_snoc l .empty (by omega), e]
  rfl
theorem eqP_size {w : ByteArray} (h : eqP w = true) : 1 ≤ w.size := by
  have := congrArg ByteArray.size (eqP_split h)
  rw [ByteArray.size_append, eqs_size] at this; omega
theorem no_num {w : ByteArray} {av : Int} {eb : Bool} (ha : (eb = false ∧ Lib.atoiAll w.data.toList = .ok av ∧ i64ok av) ∨ (eb = true ∧ ∀ u, Lib.atoiAll w.data.toList ≠ .ok u)) (h : eb = true ∨ numB av ≠ w) : ∀ n, i64ok n → numB n ≠ w := by
  rintro n hn rfl
  have e := atoi_itoa hn
  rw [← numB_data] at e
  rcases ha with ⟨h1, h2, h3⟩ | ⟨h1, h2⟩
  · rw [e] at h2
    injection h2 with h2
    rcases h with h | h
    · rw [h1] at h; cases h
    · exact h (by rw [h2])
  · exact h2 n e
theorem wd_end {ns0 nums ns : List Int} {l : List ByteArray} {j : Nat} (h : WdI ns0 l j nums ns) (hj : j + 1 = l.length) (hp : eqP (l.getD j .empty) = true) {t : ByteArray} {b : Bool} (hb : b = true ∧ hexS t = (l.getD j .empty).extract 1 (l.getD j .empty).size ∨ b = false ∧ ∀ t2, hexS t2 ≠ (l.getD j .empty).extract 1 (l.getD j .empty).size) :
    ((b && decide (t ≠ ⟨#[]⟩)) = true ∧ WdOk ns0 l ⟨nums, t⟩) ∨ ((b && decide (t ≠ ⟨#[]⟩)) = false ∧ WdNo l) := by
  rcases hb with ⟨rfl, hx⟩ | ⟨rfl, hx⟩
  · by_cases ht : t = ⟨#[]⟩
    · refine .inr ⟨by simp [ht], no_text hj hp fun u hu e => hu ?_⟩
      rw [← hx] at e
      rw [hexS_inj e, ht]
    · exact .inl ⟨by simp [ht], yes_text h hj hp ht hx⟩
  · exact .inr ⟨rfl, no_text hj hp fun u _ => hx u⟩
theorem wd_endT {ns0 nums ns : List Int} {l : List ByteArray} {j : Nat} (h : WdI ns0 l j nums ns) (hj : j + 1 = l.length) (hp : eqP (l.getD j .empty) = true) {t : ByteArray} {b : Bool} (hb : b = true ∧ hexS t = (l.getD j .empty).extract 1 (l.getD j .empty).size ∨ b = false ∧ ∀ t2, hexS t2 ≠ (l.getD j .empty).extract 1 (l.getD j .empty).size) (hbt : b = true) :
    (decide (t ≠ ⟨#[]⟩) = true ∧ WdOk ns0 l ⟨nums, t⟩) ∨ (decide (t ≠ ⟨#[]⟩) = false ∧ WdNo l) := by
  have := wd_end h hj hp hb
  rw [hbt] at this; simpa only [Bool.true_and] using this
theorem wd_endF {ns0 nums ns : List Int} {l : List ByteArray} {j : Nat} (h : WdI ns0 l j nums ns) (hj : j + 1 = l.length) (hp : eqP (l.getD j .empty) = true) {t : ByteArray} {b : Bool} (hb : b = true ∧ hexS t = (l.getD j .empty).extract 1 (l.getD j .empty).size ∨ b = false ∧ ∀ t2, hexS t2 ≠ (l.getD j .empty).extract 1 (l.getD j .empty).size) (hbt : ¬ b = true) :
    (false = true ∧ WdOk ns0 l ⟨nums, t⟩) ∨ (false = false ∧ WdNo l) := by
  have := wd_end h hj hp hb
  have e : b = false := by simpa using hbt
  rw [e] at this; simpa only [Bool.false_and] using this
/-- What the words say of the line. -/
theorem read_ok {s : ByteArray} {kind : Nat} {v : RawD} (hk : kind = lastTo (w0 s) 24) (h0 : kind ≠ 0) (h24 : i64ok ((kind : Nat) : Int)) (hw : WdOk [((kind : Nat) : Int)] ((cutAll 32 s).drop 1) v) (ho : (ofR v).2 = 0) (hname : (opRowAt ((kind : Nat) : Int)).name = w0 s) : Lok v s := by
  obtain ⟨ns, e1, e2, e3⟩ := hw
  refine ⟨fun n hn => ?_, ho, ?_⟩
  · rw [e1] at hn
    rcases List.mem_append.1 hn with h | h
    · simp only [List.mem_singleton] at h; subst h; exact h24
    · exact e2 n h
  · have e4 : lineW v = cutAll 32 s := by
      unfold lineW
      rw [e1]
      simp only [List.singleton_append, List.drop_succ_cons, List.drop_zero]
      rw [← e3]
      show (opRowAt ((kind : Nat) : Int)).name :: _ = _
      rw [hname]
      unfold w0
      cases hc : cutAll 32 s with
      | nil => simp [cutAll] at hc
      | cons x r => rfl
    rw [e4, join_cut]
theorem kind_name {x : ByteArray} (h : lastTo x 24 ≠ 0) : (opRowAt ((lastTo x 24 : Nat) : Int)).name = x ∧ 1 ≤ lastTo x 24 ∧ lastTo x 24 ≤ 24 := by
  have key : ∀ j, j ≤ 24 → lastTo x j ≠ 0 → lastTo x j ≤ j ∧ opNames.getD (lastTo x j - 1) .empty = x := by
    intro j
    induction j with
    | zero => intro _ h; exact absurd rfl h
    | succ j ih =>
      intro hj hne
      unfold lastTo at hne ⊢
      split at hne
      · rename_i h1
        rw [if_pos h1]; exact ⟨Nat.le_refl _, by simpa using h1⟩
      · rename_i h1
        rw [if_neg h1]
        obtain ⟨a, b⟩ := ih (by omega) hne
        exact ⟨by omega, b⟩
  obtain ⟨a, b⟩ := key 24 (Nat.le_refl _) h
  refine ⟨?_, by omega, a⟩
  rw [row_name ⟨by omega, by omega⟩]
  rw [show (((lastTo x 24 : Nat) : Int) - 1).toNat = lastTo x 24 - 1 by omega]
  exact b
theorem no_line {s : ByteArray} (h : WdNo ((cutAll 32 s).drop 1)) : ∀ r, ¬ Lok r s := fun r hr => by
  have e := hr.cut
  refine h (r.nums.drop 1) r.text (fun n hn => hr.1 n (List.mem_of_mem_drop hn)) ?_
  rw [e]; rfl
/-- Where the words are a line's, but no operation's. -/
theorem no_op {s : ByteArray} {kind : Nat} {v : RawD} (hk : kind = lastTo (w0 s) 24) (hw : WdOk [((kind : Nat) : Int)] ((cutAll 32 s).drop 1) v) (ho : (ofR v).2 ≠ 0) : ∀ r, ¬ Lok r s := fun r hr => by
  obtain ⟨ns, e1, e2, e3⟩ := hw
  have e := hr.cut
  rw [e] at e3
  obtain ⟨f1, f2⟩ := tailW_inj (fun n hn => hr.1 n (List.mem_of_mem_drop hn)) e2 (show tailW (r.nums.drop 1) r.text = tailW ns v.text from e3)
  have f3 := hr.kind.1
  have f4 := head_drop (of_ok hr.2.1).1
  have : r = v := by
    cases r; cases v
    simp only at *
    rw [f4, ← f3, f1, f2, e1, hk]; rfl
  rw [this] at hr
  exact ho hr.2.1
theorem hex_hexS (t : ByteArray) : strOfNums (hexI t t.size) = hexS t := hex_same t t.size
theorem line_step {r : RawD} {k : Nat} (hk : k + 1 < r.nums.length) : joinW ((opRowAt (r.nums.getD 0 0)).name :: ((r.nums.drop 1).take (k + 1)).map numB) = joinW ((opRowAt (r.nums.getD 0 0)).name :: ((r.nums.drop 1).take k).map numB) ++ ⟨#[32]⟩ ++ numB (r.nums.getD (k + 1) 0) := by
  have h : k < (r.nums.drop 1).length := by simp; omega
  rw [take_snoc (r.nums.drop 1) 0 h, List.map_append, ← List.cons_append, List.map_cons, List.map_nil, joinW_snoc _ _ (by simp)]
  congr 2
  simp [List.getD_eq_getElem?_getD, Nat.add_comm]
theorem line_fin {r : RawD} {k : Nat} (hk : r.nums.length ≤ k + 1) (ht : r.text = ⟨#[]⟩) : joinW ((opRowAt (r.nums.getD 0 0)).name :: ((r.nums.drop 1).take k).map numB) = joinW (lineW r) := by
  unfold lineW tailW
  rw [List.take_of_length_le (by simp; omega), if_pos ht, List.append_nil]
theorem line_finT {r : RawD} {k : Nat} (hk : r.nums.length ≤ k + 1) (ht : r.text ≠ ⟨#[]⟩) : joinW ((opRowAt (r.nums.getD 0 0)).name :: ((r.nums.drop 1).take k).map numB) ++ ⟨#[32]⟩ ++ eqH r.text = joinW (lineW r) := by
  unfold lineW tailW
  rw [List.take_of_length_le (by simp; omega), if_neg ht, ← List.cons_append, joinW_snoc _ _ (by simp)]
theorem spEq (h : ByteArray) (x : ByteArray) : x ++ (⟨#[32, 61]⟩ : ByteArray) ++ h = x ++ ⟨#[32]⟩ ++ (⟨#[61]⟩ ++ h) := by
  apply ba_inj; simp
theorem tailW_size {ns : List Int} {t : ByteArray} (h : okL ns) (ht : t.size ≤ 100000) : ∀ w, w ∈ tailW ns t → w.size ≤ 200001 := by
  intro w hw
  unfold tailW at hw
  rcases List.mem_append.1 hw with hw | hw
  · obtain ⟨n, hn, rfl⟩ := List.mem_map.1 hw
    have := numB_size20 (h n hn); omega
  · split at hw
    · simp at hw
    · simp only [List.mem_singleton] at hw; subst hw; rw [eqH_size]; omega
theorem words_size {name : ByteArray} {ns : List Int} (h : okL ns) (hn : name.size ≤ 8) {m : Nat} (hm : 20 ≤ m) : ∀ w, w ∈ name :: ns.map numB → w.size ≤ m := by
  intro w hw
  rcases List.mem_cons.1 hw with rfl | hw
  · omega
  · obtain ⟨n, hn, rfl⟩ := List.mem_map.1 hw
    have := numB_size20 (h n hn); omega
theorem joinW_size {l : List ByteArray} {m : Nat} (h : ∀ w, w ∈ l → w.size ≤ m) : (joinW l).size ≤ l.length * (m + 1) := by
  have := join_len m l h
  rw [← len_size, joinW_data]; exact this
theorem lineW_size {r : RawD} (h : okL r.nums) (hl : r.nums.length ≤ 1000) (ht : r.text.size ≤ 100000) : (joinW (lineW r)).size ≤ 1000000000 ∧ (lineW r).length ≤ 1002 ∧ lineW r ≠ [] := by
  have h2 : (lineW r).length ≤ 1002 := by unfold lineW tailW; split <;> simp <;> omega
  have h1 := joinW_size (l := lineW r) (m := 200001) (by
    intro w hw
    unfold lineW at hw
    rcases List.mem_cons.1 hw with rfl | hw
    · have := name_size (r.nums.getD 0 0); omega
    · exact tailW_size (fun n hn => h n (List.mem_of_mem_drop hn)) ht w hw)
  have h3 : (lineW r).length * 200002 ≤ 1002 * 200002 := Nat.mul_le_mul_right _ h2
  exact ⟨by omega, h2, by simp [lineW]⟩
theorem line_part_size {r : RawD} (h : okL r.nums) (hl : r.nums.length ≤ 1000) (k : Nat) : (joinW ((opRowAt (r.nums.getD 0 0)).name :: ((r.nums.drop 1).take k).map numB)).size ≤ 30000 := by
  have h1 := joinW_size (words_size (name := (opRowAt (r.nums.getD 0 0)).name) (ns := (r.nums.drop 1).take k) (m := 20) (fun n hn => h n (List.mem_of_mem_drop (List.mem_of_mem_take hn))) (name_size _) (Nat.le_refl _))
  have h2 : (((opRowAt (r.nums.getD 0 0)).name :: ((r.nums.drop 1).take k).map numB)).length ≤ 1001 := by simp; omega
  omega
end Go.Sx


/- Lines read: the two ways give one operation, or the same no. Conditions: those of each theorem. -/
namespace Go.Sx
set_option linter.unusedVariables false
set_option linter.unusedSimpArgs false
theorem cutTo_len (c : Int) (s : ByteArray) : ∀ i, (cutTo c s i).1.length ≤ i
  | 0 => Nat.le_refl _
  | i + 1 => by
    have := cutTo_len c s i
    unfold cutTo; split
    · simp; omega
    · omega
theorem cutAll_len (c : Int) (s : ByteArray) : (cutAll c s).length ≤ s.size + 1 := by
  have := cutTo_len c s s.size
  unfold cutAll; simp; omega
theorem cutTo_mem (c : Int) (s : ByteArray) : ∀ i x, x ∈ (cutTo c s i).1 → x.size ≤ s.size
  | 0, x, h => by simp [cutTo] at h
  | i + 1, x, h => by
    unfold cutTo at h
    split at h
    · rcases List.mem_append.1 h with h1 | h1
      · exact cutTo_mem c s i x h1
      · simp only [List.mem_singleton] at h1; subst h1; rw [ByteArray.size_extract]; omega
    · exact cutTo_mem c s i x h
theorem cutAll_mem (c : Int) (s : ByteArray) : ∀ x, x ∈ cutAll c s → x.size ≤ s.size := fun x h => by
  unfold cutAll at h
  rcases List.mem_append.1 h with h1 | h1
  · exact cutTo_mem c s _ x h1
  · simp only [List.mem_singleton] at h1; subst h1; rw [ByteArray.size_extract]; omega
theorem cutAll_ne (c : Int) (s : ByteArray) : 0 < (cutAll c s).length := by unfold cutAll; simp
theorem read_bad {s : ByteArray} {kind : Nat} {v : RawD} {ok : Bool} (hk : kind = lastTo (w0 s) 24) (hw : (ok = true ∧ WdOk [((kind : Nat) : Int)] ((cutAll 32 s).drop 1) v) ∨ (ok = false ∧ WdNo ((cutAll 32 s).drop 1))) (h : ¬ ok = true ∨ (ofR v).2 ≠ 0) : ∀ r, ¬ Lok r s := by
  rcases hw with ⟨h1, h2⟩ | ⟨h1, h2⟩
  · exact no_op hk h2 (h.resolve_left (fun h9 => h9 h1))
  · exact no_line h2
theorem read_good {s : ByteArray} {kind : Nat} {v : RawD} {ok : Bool} (hk : kind = lastTo (w0 s) 24) (h0 : kind ≠ 0) (hw : (ok = true ∧ WdOk [((kind : Nat) : Int)] ((cutAll 32 s).drop 1) v) ∨ (ok = false ∧ WdNo ((cutAll 32 s).drop 1))) (h : ok = true) (ho : (ofR v).2 = 0) : Lok v s := by
  have h2 := hw.resolve_right (fun h9 => by rw [h] at h9; cases h9.1)
  obtain ⟨a, b, c⟩ := kind_name (x := w0 s) (by rw [← hk]; exact h0)
  exact read_ok hk h0 (by unfold i64ok; omega) h2.2 ho (by rw [hk]; exact a)
theorem lineC_ok {r : RawD} (h : (lineC r).2 = 0) : (ofR r).2 = 0 ∧ (lineC r).1 = joinW (lineW r) := by
  unfold lineC at h ⊢
  split at h
  · rename_i h1
    rw [if_pos h1]; exact ⟨h1, rfl⟩
  · rename_i h1; exact absurd h h1
theorem lineC_of {r : RawD} {s : ByteArray} (h : Lok r s) : lineC r = (s, 0) := by
  unfold lineC; rw [if_pos h.2.1, h.2.2]
/-- What the document has of the words so far. -/
structure RfI (kind : Int) (T : List ByteArray) (k : Nat) (xs : List Int) (tx : ByteArray) : Prop where
  ok : okL xs
  len : xs.length ≤ k + 1
  is : ∀ ns t, okL ns → T = tailW ns t → xs = kind :: ns.take k ∧ tx = if ns.length < k then t else ⟨#[]⟩
theorem RfI.start {kind : Int} (T : List ByteArray) (h : i64ok kind) : RfI kind T 0 [kind] ⟨#[]⟩ :=
  ⟨fun n hn => by simp only [List.mem_singleton] at hn; subst hn; exact h, by simp, fun ns t _ _ => ⟨by simp, by simp⟩⟩
theorem RfI.text {kind : Int} {T : List ByteArray} {k : Nat} {xs : List Int} {tx : ByteArray} (h : RfI kind T k xs tx) (hk : k < T.length) (hp : eqP (T.getD k .empty) = true) {t1 : ByteArray} (h1 : ∀ t2, (T.getD k .empty).extract 1 (T.getD k .empty).size = hexS t2 → t1 = t2) : RfI kind T (k + 1) xs t1 := by
  refine ⟨h.ok, by have := h.len; omega, fun ns t hok e => ?_⟩
  obtain ⟨e1, _⟩ := h.is ns t hok e
  subst e
  rcases tailW_at hk hok with ⟨n, hn, e⟩ | ⟨e0, _, e, _⟩
  · rw [e, eqP_num] at hp; cases hp
  · rw [if_pos (by omega), e1]
    refine ⟨by rw [List.take_of_length_le (by omega), List.take_of_length_le (by omega)], h1 t ?_⟩
    rw [e]
    apply ba_inj
    have hs := eqH_size t
    rw [ext_data, hexS_data, eqH_data]
    simp only [List.drop_succ_cons, List.drop_zero]
    rw [List.take_of_length_le (by rw [hexL_len, len_size]; omega)]
theorem RfI.num {kind : Int} {T : List ByteArray} {k : Nat} {xs : List Int} {tx : ByteArray} (h : RfI kind T k xs tx) (hk : k < T.length) (hp : ¬ (eqP (T.getD k .empty) = true ∧ k + 1 = T.length)) {rv : Int} (hr : i64ok rv) (h1 : ∀ n, i64ok n → T.getD k .empty = numB n → rv = n) : RfI kind T (k + 1) (xs ++ [rv]) tx := by
  refine ⟨fun n hn => ?_, by have := h.len; simp; omega, fun ns t hok e => ?_⟩
  · rcases List.mem_append.1 hn with hn | hn
    · exact h.ok n hn
    · simp only [List.mem_singleton] at hn; subst hn; exact hr
  · obtain ⟨e1, e2⟩ := h.is ns t hok e
    subst e
    by_cases hkn : k < ns.length
    · have e3 : (tailW ns t).getD k .empty = numB (ns.getD k 0) := by
        unfold tailW
        rw [List.getD_eq_getElem?_getD, List.getElem?_append_left (by simpa using hkn), List.getElem?_map]
        simp [List.getD_eq_getElem?_getD, hkn]
      have e4 := h1 _ (hok _ (getD_mem' hkn)) e3
      refine ⟨by rw [e1, e4, take_snoc ns 0 hkn]; rfl, ?_⟩
      rw [e2, if_neg (by omega), if_neg (by omega)]
    · rcases tailW_at hk hok with ⟨n, hn, e⟩ | ⟨e0, _, e, e9⟩
      · exfalso
        have hl : k = ns.length := by
          unfold tailW at hk
          split at hk <;> simp at hk <;> omega
        unfold tailW at e hk
        split at hk
        · simp at hk; omega
        · rename_i ht
          rw [if_neg ht, List.getD_eq_getElem?_getD, List.getElem?_append_right (by simp; omega)] at e
          simp [hl] at e
          exact num_ne_eq n t e.symm
      · exact absurd ⟨by rw [e]; exact eqP_eqH t, e9⟩ hp
theorem RfI.fin {s : ByteArray} {T : List ByteArray} {k : Nat} {xs : List Int} {tx : ByteArray} (h : RfI ((lastTo (w0 s) 24 : Nat) : Int) T k xs tx) (hT : T = (cutAll 32 s).drop 1) (hk : T.length ≤ k) {r : RawD} (hr : Lok r s) : r = ⟨xs, tx⟩ := by
  have e := hr.cut
  have e0 : T = tailW (r.nums.drop 1) r.text := by rw [hT, e]; rfl
  obtain ⟨e1, e2⟩ := h.is (r.nums.drop 1) r.text (fun n hn => hr.1 n (List.mem_of_mem_drop hn)) e0
  have e3 := hr.kind.1
  have e4 := head_drop (of_ok hr.2.1).1
  have hl := congrArg List.length e0
  have e5 : tx = r.text := by
    rw [e2]
    split
    · rfl
    · rename_i h9
      unfold tailW at hl
      split at hl
      · rename_i h8; exact h8.symm
      · simp at hl; simp at h9; omega
  have hle : (r.nums.drop 1).length ≤ k := by
    have : (r.nums.drop 1).length ≤ T.length := by rw [hl]; unfold tailW; simp
    omega
  rw [List.take_of_length_le hle, e3] at e1
  cases r
  simp only at *
  rw [e4, e1, e5]
end Go.Sx


/- Proved here: where a digit stands; conditions: those of the theorem. -/
namespace Go.Proofs.YtnjjjmpdikpjaabDoor
open Go Go.Sx
theorem ixd_any (z : Int) (w : World) : Calls Tryd.prog 50 #[.string ⟨#[48, 49, 50, 51, 52, 53, 54, 55, 56, 57, 97, 98, 99, 100, 101, 102]⟩, .int .u8 z] w (Ret fun v w' => v = .int .i64 (ixD z) ∧ Upd w [] w' []) := indexByte_any _ z w
/-- .. and at none of some blocks. -/
structure LaidK (w : World) (S : List Nat) : Prop where
  laid : Laid w
  off : ∀ g, g ∈ S → ∀ k, k < 4 → g ≠ k
theorem LaidK.at {w w' : World} {L : List Chunk} {G : List (List Chunk)} (h : LaidK w (ats L)) (u : UpG w L w' G) : Laid w' := by
  have k := u.keep
  have hoff : ∀ j, j < 4 → j ∉ ats L := fun j hj hm => h.off j hm j hj rfl
  obtain ⟨m, hm⟩ := h.laid.ml
  obtain ⟨s, hs, hs'⟩ := h.laid.sy
  obtain ⟨r, hr, hr'⟩ := h.laid.rg
  refine ⟨?_, ⟨m, k.cell hm (hoff 0 (by decide))⟩, ⟨s, k.cell hs (hoff 1 (by decide)), hs'⟩, ⟨r, k.cell hr (hoff 2 (by decide)), hr'⟩⟩
  have hg : Tryd.prog.globalNamed "internal/strconv.uint64pow10" = some 3 := by kernel_rfl
  have ht := h.laid.tab
  unfold Lib.TabIs at ht ⊢
  unfold World.var? at ht ⊢
  rw [hg] at ht ⊢
  simp only [Option.bind_some] at ht ⊢
  have hb : w'.heap[3]? = w.heap[3]? := by
    have h3 : 3 < w.heap.size := by
      rcases Nat.lt_or_ge 3 w.heap.size with h9 | h9
      · exact h9
      · rw [Array.getElem?_eq_none h9] at ht; simp at ht
    exact k.block 3 h3 (hoff 3 (by decide))
  rw [hb]; exact ht
theorem Laid.four {w : World} (h : Laid w) : 4 ≤ w.heap.size := by
  have hg : Tryd.prog.globalNamed "internal/strconv.uint64pow10" = some 3 := by kernel_rfl
  have ht := h.tab
  unfold Lib.TabIs World.var? at ht
  rw [hg] at ht
  rcases Nat.lt_or_ge 3 w.heap.size with h9 | h9
  · exact h9
  · simp only [Option.bind_some] at ht
    rw [Array.getElem?_eq_none h9] at ht; simp at ht
theorem LaidK.of {w w' : World} {G : List (List Chunk)} {A B : List Chunk} (h : Laid w) (u : UpG w [] w' G) (i j : Nat) (hi : G[i]? = some A) (hj : G[j]? = some B) : LaidK w' (ats (A ++ B)) := by
  refine ⟨h.at u, fun g hg k hk e => ?_⟩
  have h4 := h.four
  have hm : g ∈ ats G.flatten := by
    obtain ⟨c, hc, hg'⟩ := mem_ats.1 hg
    refine mem_ats.2 ⟨c, ?_, hg'⟩
    rcases List.mem_append.1 hc with h1 | h1
    · exact List.mem_flatten.2 ⟨A, List.mem_of_getElem? hi, h1⟩
    · exact List.mem_flatten.2 ⟨B, List.mem_of_getElem? hj, h1⟩
  rcases Upd.fresh u g hm with h1 | h1
  · simp [ats] at h1
  · omega
theorem eqp_any (s : ByteArray) (w : World) : Calls Tryd.prog 37 #[.string s, .string ⟨#[61]⟩] w (Ret fun v w' => v = .bool (eqP s) ∧ Upd w [] w' []) := hasPrefix_any s _ w
theorem splitW_any (s : ByteArray) (w : World) (lw : Laid w) (hs : s.size ≤ 1000000) :
    Calls Tryd.prog 17 #[.string s, .string ⟨#[32]⟩] w (Ret fun v w' => ∃ a2 : Option Addr, ∃ c2 : Nat, v = .slice a2 (cutAll 32 s).length c2 ∧ Upd w [] w' [rowT tyS (.slice a2 (cutAll 32 s).length c2) 9 (cutAll 32 s)]) := by
  have := split_any s ⟨#[32]⟩ w lw hs (by decide)
  rw [show splitS s ⟨#[32]⟩ = cutAll 32 s from splitB_cut 32 s] at this
  exact this
theorem joinW_any (l : List ByteArray) (la : Option Addr) (lc : Nat) (w : World) (hp : Hp w [rowT tyS (.slice la l.length lc) 9 l]) (hlen : (joinW l).size ≤ 1000000000000) (hne : l ≠ []) (hN : l.length ≤ 1000000) :
    Calls Tryd.prog 28 #[.slice la l.length lc, .string ⟨#[32]⟩] w (Ret fun v w' => v = .string (joinW l) ∧ Upd w [rowT tyS (.slice la l.length lc) 9 l] w' [rowT tyS (.slice la l.length lc) 9 l]) :=
  join_any la l lc ⟨#[32]⟩ w hp (by rw [← len_size, joinW_data] at hlen; exact hlen) hne hN
end Go.Proofs.YtnjjjmpdikpjaabDoor


/- The walks of functions, printed by wip/tools/gw.py. -/
namespace Go.Proofs.YtnjjjmpdikpjaabDoor
open Go Go.Sx
set_option linter.unusedVariables false
set_option linter.unusedSimpArgs false
set_option maxRecDepth 20000 in
theorem bytes_any (s : ByteArray) (w : World) (hs : s.size ≤ 1000000) :
   Calls Tryd.prog 38 #[.string s] w (Ret fun v w' => ∃ t : ByteArray, ∃ b : Bool, v = .tuple #[.string t, .bool b] ∧ Upd w [] w' [] ∧ (t.size ≤ s.size) ∧ (b = true ∧ hexS t = s ∨ b = false ∧ ∀ t2, hexS t2 ≠ s)) := by
 refine calls_of_W (args := [.string s]) Tryd.func38 rfl rfl rfl ?_
 have H0 : UpG w [] w [] := UpG.nil w
 show W _ _ _ _ [(0, _)] w
 refine sr (ag rfl (ag rfl (dc (W.seq (W.seq (W.region (mv rfl (oo (d_lenStr y9 rfl (oo (d_remN rfl rfl (by omega) (by omega) (oo (d_cmp _ rfl rfl rfl (dc ?_))))))))))))))
 refine W.ite rfl (fun c25 => ?_) (fun c25 => ?_)
 · refine sr (ag rfl (ag rfl (dc (W.ret (X.then_ret (X.ret2 rfl rfl rfl ?_))))))
   exact ⟨⟨#[]⟩, false, rfl, H0.noneL, (Nat.zero_le _), (.inr ⟨rfl, fun t2 h9 => by have h8 := hexS_size t2; rw [h9] at h8; omega⟩)⟩
 · refine sc (W.seq (W.region (mv rfl (oo (d_lenStr y9 rfl (oo (d_quo rfl rfl (by omega) (by omega) (by omega) (oo (t_make0 (s.size / 2) (T := (tyI .u8)) rfl y69 sz5 rfl rfl rfl (by omega) (by omega) fun w1 u1 => ?_)))))))))
   have H1 : UpG _ _ _ [[_]] := H0.new' u1
   refine ag rfl (dc (W.seq (W.seq (W.region (ag rfl (dc (W.block (W.lp (B := [(3, _), (2, _), (0, _)]) [5, 4, 3, 2, 0] (fun B R L m Γ' w' => ∃ i : Nat, ∃ o : List Int, ∃ a : Option Addr, ∃ c : Nat, Γ' = (5, .int .i64 ((i : Nat) : Int)) :: (4, .slice a o.length c) :: B ∧ UpG w L w' ([rowT (tyI .u8) (.slice a o.length c) 5 o] :: R) ∧ (i ≤ s.size ∧ i % 2 = 0) ∧ (AbI s o i) ∧ m = s.size - i) (s.size - 0) ⟨0, ([] : List Int), (some ⟨w.heap.size, 0, none⟩), s.size / 2, rfl, H1, (by omega), (by exact AbI.start s), rfl⟩ rfl ?_))))))))
   rintro m1 Γ1 w2 ⟨i, o, a, c, rfl, H2, hi, ho, rfl⟩
   have h2 := ho.two
   refine W.seq (W.seq (W.region (mv rfl (mv rfl (oo (d_lenStr y9 rfl (oo (d_cmp _ rfl rfl rfl (dc ?_)))))))))
   refine W.ite rfl (fun c29 => ?_) (fun c29 => ?_)
   · refine sc (W.seq (W.block (W.seq ?_)))
     have hb0 := bt_range s i
     have hb1 := bt_range s (i + 1)
     have hx0 := ixD_lo (bt s i)
     have hx1 := ixD_lo (bt s (i + 1))
     refine W.regionD mixed (by kernel_rfl) fun hok1 w3 k1 => ?_
     have H3 : UpG _ _ _ [[_]] := H2.kept k1
     refine tm hok1 0 rfl rfl (tm hok1 1 rfl rfl (tq hok1 2 rfl rfl (fun _ => d_idxStrN i y9 rfl rfl rfl (by omega) ⟨rfl, rfl⟩) (tm hok1 4 rfl rfl (tm hok1 5 rfl rfl (tq hok1 6 rfl rfl (fun _ => d_add rfl rfl (by omega) (by omega) ⟨rfl, rfl⟩) (tq hok1 7 rfl rfl (fun _ => d_idxStrN (i + 1) y9 rfl rfl rfl (by omega) ⟨rfl, rfl⟩) (wo hok1 3 (lo [_, _, _, _] rfl rfl (d_call ok50 rfl (Ret.calls (ixd_any _ w3  ) fun _ w4 p1 => ?_))))))))))
     obtain ⟨rfl, u2⟩ := p1
     have H4 : UpG _ _ _ [[_]] := H3.call u2
     refine ⟨⟨trivial, trivial, trivial, trivial, trivial⟩, (wo hok1 8 (lo [] rfl rfl (d_call ok50 rfl (Ret.calls (ixd_any _ w4  ) fun _ w5 p2 => ?_))))⟩
     obtain ⟨rfl, u3⟩ := p2
     have H5 : UpG _ _ _ [[_]] := H4.call u3
     refine ⟨trivial, (tq hok1 9 rfl rfl (fun _ => d_assign rfl ⟨rfl, rfl⟩) (tq hok1 10 rfl rfl (fun _ => d_assign rfl ⟨rfl, rfl⟩) (WD.done hok1 rfl (X.then_code (W.seq (W.seq (W.region (mv rfl (oo (d_cmp _ rfl rfl rfl (mv rfl ?_)))))))))))⟩
     refine WL.part 33 rfl (fun g31 => ?_) (fun g31 => ?_)
     · refine WL.opN rfl rfl rfl rfl (WL.opN rfl rfl rfl rfl (oo (d_pick rfl rfl (dc (W.ift rfl (W.seq (W.region (ag rfl (ag rfl (dc (W.ret (X.then_ret (X.block_ret (X.then_ret (X.then_ret (X.block_ret (X.then_ret (X.ret2 rfl rfl rfl ?_))))))))))))))))))
       exact ⟨⟨#[]⟩, false, rfl, H5.noneL, (Nat.zero_le _), (.inr ⟨rfl, fun t2 => by first | exact no_hex (i := i) (by omega) (by assumption) t2 | exact no_hex (i := i + 1) (by omega) (by assumption) t2⟩)⟩
     · refine WL.opG rfl rfl rfl (d_move rfl (WL.opG rfl rfl rfl (d_cmp _ rfl rfl rfl (oo (d_pick rfl rfl (dc ?_))))))
       refine W.ite rfl (fun c31 => ?_) (fun c31 => ?_)
       · refine sr (ag rfl (ag rfl (dc (W.ret (X.then_ret (X.block_ret (X.then_ret (X.then_ret (X.block_ret (X.then_ret (X.ret2 rfl rfl rfl ?_)))))))))))
         exact ⟨⟨#[]⟩, false, rfl, H5.noneL, (Nat.zero_le _), (.inr ⟨rfl, fun t2 => by first | exact no_hex (i := i) (by omega) (by assumption) t2 | exact no_hex (i := i + 1) (by omega) (by assumption) t2⟩)⟩
       · refine sc ?_
         have hp0 := (ixD_pos (s := s) (i := i) (by rw [len_size]; omega) (by assumption)).1
         have hp1 := (ixD_pos (s := s) (i := i + 1) (by rw [len_size]; omega) (by assumption)).1
         refine W.region (mv rfl (mv rfl (oo (d_shl4 ((ixD (bt s i)).toNat) (by omega) (by omega) rfl rfl (mv rfl (oo (d_or4 ((ixD (bt s i)).toNat) ((ixD (bt s (i + 1))).toNat) (by omega) (by omega) (by omega) rfl rfl (oo (d_convI (kd := .u8) y3 y5 rfl (by simp [IntKind.signed, IntKind.bits, IntKind.max]; omega) (oo (t_buildSlice (T := (tyI .u8)) (xs := [((((ixD (bt s i)).toNat) * 16 + ((ixD (bt s (i + 1))).toNat) : Nat) : Int)]) (cs := #[.int .u8 ((((ixD (bt s i)).toNat) * 16 + ((ixD (bt s (i + 1))).toNat) : Nat) : Int)]) rfl y69 sz5 rfl rfl rfl rfl (by kernel_rfl) rfl rfl fun w6 u4 => ?_)))))))))))
         have H6 : UpG _ _ _ [[_], [_]] := H5.new' u4
         refine oo (t_append (T := (tyI .u8)) (xs := o) (ys := [((((ixD (bt s i)).toNat) * 16 + ((ixD (bt s (i + 1))).toNat) : Nat) : Int)]) rfl y69 sz5 rfl rfl rfl (H6.ownT 0 rfl) (H6.rdT 1 rfl) (by simp; omega) (by simp; omega) fun a1 c1 w7 u5 => ?_)
         have H7 : UpG _ _ _ [[_], []] := (H6.on 0 rfl u5).drop 1
         refine ag rfl (WL.done (X.block_normal (X.then_code (W.pick [4, 35, 34, 5, 3, 2, 0] (Γ' := [(4, _), (35, _), (34, _), (5, _), (3, _), (2, _), (0, _)]) rfl (W.region (mv rfl (oo (d_add rfl rfl (by omega) (by omega) (ag rfl (WL.done ?_))))))))))
         exact X.nx [5, 4, 3, 2, 0] (s.size - (i + 2)) (by omega) ⟨i + 2, o ++ [((((ixD (bt s i)).toNat) * 16 + ((ixD (bt s (i + 1))).toNat) : Nat) : Int)], a1, c1, rfl, (H7.re rfl), (by omega), (by exact ho.next (by omega) (by assumption) (by assumption)), rfl⟩ rfl
   · refine W.exit (X.then_exit (X.then_exit (X.block_exit (X.then_code (W.seq (W.region (mv rfl (oo (d_bytesStr y69 y5 y9 rfl (H2.rdT 0 rfl) (ag rfl (ag rfl (dc (W.ret (X.ret2 rfl rfl rfl ?_))))))))))))))
     exact ⟨strOfNums o, true, rfl, H2.noneL, (by rw [strOfNums_size]; omega), (.inl ⟨rfl, ho.fin (by omega)⟩)⟩

end Go.Proofs.YtnjjjmpdikpjaabDoor


/- The walks of functions, printed by wip/tools/gw.py. -/
namespace Go.Proofs.YtnjjjmpdikpjaabDoor
open Go Go.Sx
set_option linter.unusedVariables false
set_option linter.unusedSimpArgs false
set_option maxRecDepth 20000 in
theorem writeString_any (g : Nat) (pv : Value) (ba : Option Addr) (bx : List Int) (bc : Nat) (s : ByteArray) (w : World) (hp : Hp w [blk g #[pv, .slice ba bx.length bc] 71, rowT (tyI .u8) (.slice ba bx.length bc) 5 bx]) (hpv : pv = .pointer none ∨ pv = .pointer (some ⟨g, 0, none⟩)) (hl : bx.length + s.size ≤ 1000000) :
   Calls Tryd.prog 32 #[.pointer (some ⟨g, 0, none⟩), .string s] w (Ret fun v w' => ∃ ba2 : Option Addr, ∃ bc2 : Nat, v = .tuple #[.int .i64 ((s.size : Nat) : Int), .nilIface] ∧ Upd w [blk g #[pv, .slice ba bx.length bc] 71, rowT (tyI .u8) (.slice ba bx.length bc) 5 bx] w' [blk g #[.pointer (some ⟨g, 0, none⟩), .slice ba2 ((bx ++ bytesL s).length) bc2] 71, rowT (tyI .u8) (.slice ba2 ((bx ++ bytesL s).length) bc2) 5 (bx ++ bytesL s)]) := by
 refine calls_of_W (args := [.pointer (some ⟨g, 0, none⟩), .string s]) Tryd.func32 rfl rfl rfl ?_
 have H0 : UpG w _ w [[_], [_]] := (UpG.refl hp).re rfl
 show W _ _ _ _ [(0, _), (1, _)] w
 refine sr (ag rfl (ag rfl (dc (W.seq (W.region (mv rfl (oo (d_call ok45 rfl (Ret.calls (copyCheck_b _ pv ba bx bc w (H0.hpOf 0 rfl)  hpv) fun _ w1 p1 => ?_)))))))))
 obtain ⟨rfl, u1⟩ := p1
 have H1 : UpG _ _ _ [[_], [_]] := H0.on 0 rfl u1
 refine dc (W.seq (W.region (mv rfl (mv rfl (oo (d_nilCheck rfl (oo (d_fieldAddrB fld71_1 rfl rfl (oo (d_loadB y69 rfl rfl (H1.blk 0 rfl) rfl (mv rfl (oo (t_appendStr y69 y9 sz5 rfl rfl (H1.ownT 1 rfl) (by omega) fun a1 c1 w2 u2 => ?_)))))))))))))
 have H2 : UpG _ _ _ [[_], [_]] := H1.on 1 rfl u2
 refine oo (d_nilCheck rfl (oo (d_fieldAddrB fld71_1 rfl rfl (WL.op0 (d_storeB sz69 rfl rfl rfl (H2.blk 0 rfl) rfl fun w3 u3 => ?_)))))
 have H3 : UpG _ _ _ [[_], [_]] := H2.on 0 rfl u3
 refine dc (W.seq (W.region (mv rfl (oo (d_lenStr y9 rfl (ag rfl (ag rfl (dc (W.ret (X.ret2 rfl rfl rfl ?_))))))))))
 exact ⟨a1, c1, rfl, (Upd.sel H3 (l := [0, 1]) rfl rfl)⟩

set_option maxRecDepth 20000 in
theorem writeByte_any (g : Nat) (pv : Value) (ba : Option Addr) (bx : List Int) (bc : Nat) (z : Int) (w : World) (hp : Hp w [blk g #[pv, .slice ba bx.length bc] 71, rowT (tyI .u8) (.slice ba bx.length bc) 5 bx]) (hpv : pv = .pointer none ∨ pv = .pointer (some ⟨g, 0, none⟩)) (hl : bx.length + 1 ≤ 1000000) :
   Calls Tryd.prog 33 #[.pointer (some ⟨g, 0, none⟩), .int .u8 z] w (Ret fun v w' => ∃ ba2 : Option Addr, ∃ bc2 : Nat, v = .nilIface ∧ Upd w [blk g #[pv, .slice ba bx.length bc] 71, rowT (tyI .u8) (.slice ba bx.length bc) 5 bx] w' [blk g #[.pointer (some ⟨g, 0, none⟩), .slice ba2 ((bx ++ [z]).length) bc2] 71, rowT (tyI .u8) (.slice ba2 ((bx ++ [z]).length) bc2) 5 (bx ++ [z])]) := by
 refine calls_of_W (args := [.pointer (some ⟨g, 0, none⟩), .int .u8 z]) Tryd.func33 rfl rfl rfl ?_
 have H0 : UpG w _ w [[_], [_]] := (UpG.refl hp).re rfl
 show W _ _ _ _ [(0, _), (1, _)] w
 refine sr (ag rfl (dc (W.seq (W.region (mv rfl (oo (d_call ok45 rfl (Ret.calls (copyCheck_b _ pv ba bx bc w (H0.hpOf 0 rfl)  hpv) fun _ w1 p1 => ?_))))))))
 obtain ⟨rfl, u1⟩ := p1
 have H1 : UpG _ _ _ [[_], [_]] := H0.on 0 rfl u1
 refine dc (W.seq (W.region (mv rfl (mv rfl (oo (d_nilCheck rfl (oo (d_fieldAddrB fld71_1 rfl rfl (oo (d_loadB y69 rfl rfl (H1.blk 0 rfl) rfl (mv rfl (oo (t_buildSlice (T := (tyI .u8)) (xs := [z]) (cs := #[.int .u8 z]) rfl y69 sz5 rfl rfl rfl rfl (by kernel_rfl) rfl rfl fun w2 u2 => ?_)))))))))))))
 have H2 : UpG _ _ _ [[_], [_], [_]] := H1.new' u2
 refine oo (t_append (T := (tyI .u8)) (xs := bx) (ys := [z]) rfl y69 sz5 rfl rfl rfl (H2.ownT 1 rfl) (H2.rdT 2 rfl) (by simp; omega) (by simp; omega) fun a1 c1 w3 u3 => ?_)
 have H3 : UpG _ _ _ [[_], [_], []] := (H2.on 1 rfl u3).drop 2
 refine oo (d_nilCheck rfl (oo (d_fieldAddrB fld71_1 rfl rfl (WL.op0 (d_storeB sz69 rfl rfl rfl (H3.blk 0 rfl) rfl fun w4 u4 => ?_)))))
 have H4 : UpG _ _ _ [[_], [_], []] := H3.on 0 rfl u4
 refine dc (W.seq (W.region (ag rfl (dc (W.ret (X.ret1 rfl rfl ?_))))))
 exact ⟨a1, c1, rfl, (Upd.sel H4 (l := [0, 1]) rfl rfl)⟩
end Go.Proofs.YtnjjjmpdikpjaabDoor


/- The walks of functions, printed by wip/tools/gw.py. -/
namespace Go.Proofs.YtnjjjmpdikpjaabDoor
open Go Go.Sx
set_option linter.unusedVariables false
set_option linter.unusedSimpArgs false
set_option maxRecDepth 20000 in
theorem few_any (la : Option Addr) (l : List RawP) (lc : Nat) (w : World) (rl : RdT tyRawP w (.slice la l.length lc) l) (dl : inRaw.Rd w l) (hcap : ∀ p, p ∈ l → p.d.nums.length ≤ p.c) :
   Calls Tryd.prog 10 #[.slice la l.length lc] w (Ret fun v w' => ∃ a2 : Option Addr, ∃ c2 : Nat, v = .slice a2 ((fewL l).length) c2 ∧ Upd w [] w' [rowT tyRawP (.slice a2 ((fewL l).length) c2) 25 (fewL l)]) := by
 have le_rl := rl.le
 refine calls_of_W (args := [.slice la l.length lc]) Tryd.func10 rfl rfl rfl ?_
 have H0 : UpG w [] w [] := UpG.nil w
 show W _ _ _ _ [(0, _)] w
 refine sr (ag rfl (dc (W.seq (W.region (ag rfl (dc (W.seq (W.seq (W.region (ag rfl (dc (W.block ?_))))))))))))
 have H1 : UpG _ _ _ [[_]] := H0.new' (Upd.nilRowT w tyRawP 25)
 refine W.lp (B := [(2, _), (0, _)]) [4, 3, 2, 0] (fun B R L m Γ' w' => ∃ k : Nat, ∃ qs : List RawP, ∃ qa : Option Addr, ∃ qc : Nat, Γ' = (4, .int .i64 ((k : Nat) : Int)) :: (3, .slice qa qs.length qc) :: B ∧ UpG w L w' ([rowT tyRawP (.slice qa qs.length qc) 25 qs] :: R) ∧ (k ≤ l.length ∧ k ≤ 12) ∧ (qs = (l.take k).map fewP) ∧ (qs.length ≤ 12) ∧ m = 12 - k) (12 - 0) ⟨0, ([] : List RawP), none, 0, rfl, H1, (by omega), (by simp), (by simp), rfl⟩ rfl ?_
 rintro m1 Γ1 w1 ⟨k, qs, qa, qc, rfl, H2, hk, hq, hql, rfl⟩
 refine W.seq (W.seq (W.region (mv rfl (mv rfl (oo (d_lenS y33 rfl (oo (d_cmp _ rfl rfl rfl (mv rfl ?_)))))))))
 refine WL.part 9 rfl (fun g27 => ?_) (fun g27 => ?_)
 · refine WL.opG rfl rfl rfl (d_move rfl (WL.opG rfl rfl rfl (d_cmp _ rfl rfl rfl (oo (d_pick rfl rfl (dc ?_))))))
   refine W.ite rfl (fun c27 => ?_) (fun c27 => ?_)
   · refine sc (W.seq (W.block (W.regionD mixed (by kernel_rfl) fun hok1 w2 k1 => ?_)))
     have H3 : UpG _ _ _ [[_]] := H2.kept k1
     refine tm hok1 0 rfl rfl (tm hok1 1 rfl rfl (tm hok1 2 rfl rfl (tr hok1 3 (rl.at H3) rfl rfl (fun _ hC => t_addrN k (T := tyRawP) rfl y33 sz25 rfl rfl hC rfl (by omega) ⟨rfl, rfl⟩) (tr hok1 4 (rl.at H3) rfl rfl (fun _ hC => t_fld k rawP0 (T := tyRawP) rfl fld25_0 rfl rfl hC (by omega) ⟨rfl, rfl⟩) (tr hok1 5 (rl.at H3) rfl rfl (fun _ hC => t_loadF k rawP0 (T := tyRawP) rfl rfl y23 rfl rfl hC (by omega) rfl ⟨rfl, rfl⟩) (tm hok1 6 rfl rfl (tm hok1 7 rfl rfl (tr hok1 8 (rl.at H3) rfl rfl (fun _ hC => t_addrN k (T := tyRawP) rfl y33 sz25 rfl rfl hC rfl (by omega) ⟨rfl, rfl⟩) (tr hok1 9 (rl.at H3) rfl rfl (fun _ hC => t_fld k rawP0 (T := tyRawP) rfl fld25_0 rfl rfl hC (by omega) ⟨rfl, rfl⟩) (tr hok1 10 (rl.at H3) rfl rfl (fun _ hC => t_loadF k rawP0 (T := tyRawP) rfl rfl y23 rfl rfl hC (by omega) rfl ⟨rfl, rfl⟩) (tq hok1 11 rfl rfl (fun _ => d_lenS y23 rfl ⟨rfl, rfl⟩) (tq hok1 12 rfl rfl (fun _ => d_min rfl rfl ⟨rfl, rfl⟩) (tq hok1 13 rfl rfl (fun _ => t_take (min ((((l.getD k rawP0).d.nums).length : Nat) : Int) 6) ((min ((((l.getD k rawP0).d.nums).length : Nat) : Int) 6).toNat) (T := (tyI .i64)) (xs := ((l.getD k rawP0).d.nums)) rfl y23 sz3 rfl rfl (by omega) (by omega) (by have := hcap _ (getD_mem' (d := rawP0) (show k < l.length by omega)); omega) ⟨rfl, rfl⟩) (tm hok1 14 rfl rfl (tm hok1 15 rfl rfl (tr hok1 16 (rl.at H3) rfl rfl (fun _ hC => t_addrN k (T := tyRawP) rfl y33 sz25 rfl rfl hC rfl (by omega) ⟨rfl, rfl⟩) (tr hok1 17 (rl.at H3) rfl rfl (fun _ hC => t_fld k rawP0 (T := tyRawP) rfl fld25_1 rfl rfl hC (by omega) ⟨rfl, rfl⟩) (tr hok1 18 (rl.at H3) rfl rfl (fun _ hC => t_loadF k rawP0 (T := tyRawP) rfl rfl y9 rfl rfl hC (by omega) rfl ⟨rfl, rfl⟩) (tm hok1 19 rfl rfl (tm hok1 20 rfl rfl (tr hok1 21 (rl.at H3) rfl rfl (fun _ hC => t_addrN k (T := tyRawP) rfl y33 sz25 rfl rfl hC rfl (by omega) ⟨rfl, rfl⟩) (tr hok1 22 (rl.at H3) rfl rfl (fun _ hC => t_fld k rawP0 (T := tyRawP) rfl fld25_1 rfl rfl hC (by omega) ⟨rfl, rfl⟩) (tr hok1 23 (rl.at H3) rfl rfl (fun _ hC => t_loadF k rawP0 (T := tyRawP) rfl rfl y9 rfl rfl hC (by omega) rfl ⟨rfl, rfl⟩) ?_)))))))))))))))))))))))
     refine tq hok1 24 rfl rfl (fun _ => d_lenStr y9 rfl ⟨rfl, rfl⟩) (tq hok1 25 rfl rfl (fun _ => d_min rfl rfl ⟨rfl, rfl⟩) (tq hok1 26 rfl rfl (fun _ => d_substrN 0 (min ((((l.getD k rawP0).d.text).size : Nat) : Int) 30) 0 ((min ((((l.getD k rawP0).d.text).size : Nat) : Int) 30).toNat) y9 rfl rfl rfl (.inl ⟨rfl, rfl⟩) (.inr ⟨_, rfl⟩) (by omega) (by omega) ⟨by omega, by omega, by omega⟩ ⟨rfl, rfl⟩) (tq hok1 27 rfl rfl (fun _ => d_build (cs := #[.slice ((l.getD k rawP0).a) ((((l.getD k rawP0).d.nums).take ((min ((((l.getD k rawP0).d.nums).length : Nat) : Int) 6).toNat)).length) ((l.getD k rawP0).c), .string (((l.getD k rawP0).d.text).extract 0 ((min ((((l.getD k rawP0).d.text).size : Nat) : Int) 30).toNat))]) rfl (by kernel_rfl) ⟨rfl, rfl⟩) (wo hok1 28 (lo [_] rfl rfl (t_buildSlice (T := tyRawP) (xs := ([⟨(l.getD k rawP0).a, (l.getD k rawP0).c, ⟨((l.getD k rawP0).d.nums).take ((min ((((l.getD k rawP0).d.nums).length : Nat) : Int) 6).toNat), ((l.getD k rawP0).d.text).extract 0 ((min ((((l.getD k rawP0).d.text).size : Nat) : Int) 30).toNat)⟩⟩] : List RawP)) (cs := #[.slice ((l.getD k rawP0).a) ((((l.getD k rawP0).d.nums).take ((min ((((l.getD k rawP0).d.nums).length : Nat) : Int) 6).toNat)).length) ((l.getD k rawP0).c), .string (((l.getD k rawP0).d.text).extract 0 ((min ((((l.getD k rawP0).d.text).size : Nat) : Int) 30).toNat))]) rfl y33 sz25 rfl rfl rfl rfl (by kernel_rfl) rfl rfl fun w3 u1 => ?_))))))
     have H4 : UpG _ _ _ [[_], [_]] := H3.new' u1
     refine ⟨⟨trivial, trivial⟩, (wo hok1 29 (lo [] rfl rfl (t_append (T := tyRawP) (xs := qs) (ys := ([⟨(l.getD k rawP0).a, (l.getD k rawP0).c, ⟨((l.getD k rawP0).d.nums).take ((min ((((l.getD k rawP0).d.nums).length : Nat) : Int) 6).toNat), ((l.getD k rawP0).d.text).extract 0 ((min ((((l.getD k rawP0).d.text).size : Nat) : Int) 30).toNat)⟩⟩] : List RawP)) rfl y33 sz25 rfl rfl rfl (H4.ownT 0 rfl) (H4.rdT 1 rfl) (by simp; omega) (by simp; omega) fun a1 c1 w4 u2 => ?_)))⟩
     have H5 : UpG _ _ _ [[_], []] := (H4.on 0 rfl u2).drop 1
     refine ⟨trivial, (tq hok1 30 rfl rfl (fun _ => d_assign rfl ⟨rfl, rfl⟩) (WD.done hok1 rfl (X.block_normal (X.then_code (W.pick [3, 11, 10, 4, 2, 0] (Γ' := [(3, _), (11, _), (10, _), (4, _), (2, _), (0, _)]) rfl (W.region (mv rfl (oo (d_add rfl rfl (by omega) (by omega) (ag rfl (WL.done ?_)))))))))))⟩
     exact X.nx [4, 3, 2, 0] (12 - (k + 1)) (by omega) ⟨k + 1, qs ++ ([⟨(l.getD k rawP0).a, (l.getD k rawP0).c, ⟨((l.getD k rawP0).d.nums).take ((min ((((l.getD k rawP0).d.nums).length : Nat) : Int) 6).toNat), ((l.getD k rawP0).d.text).extract 0 ((min ((((l.getD k rawP0).d.text).size : Nat) : Int) 30).toNat)⟩⟩] : List RawP), a1, c1, rfl, (H5.re rfl), (by omega), (by rw [hq, fewL_snoc l (by omega)]; rfl), (by rw [List.length_append, hq]; simp; omega), rfl⟩ rfl
   · refine W.exit (X.then_exit (X.then_exit (X.block_exit (X.then_code (W.seq (W.region (mv rfl (ag rfl (dc (W.ret (X.ret1 rfl rfl ?_)))))))))))
     have e : qs = fewL l := by rw [hq]; first | exact fewL_end (by omega) (by omega) (by omega) | exact fewL_end (by omega) (by omega) (by intro h9; omega)
     subst e
     exact ⟨qa, qc, (by rfl), (by have hh := H2.one 0 rfl; exact hh)⟩
 · refine WL.opN rfl rfl rfl rfl (WL.opN rfl rfl rfl rfl (oo (d_pick rfl rfl (dc (W.iff rfl (W.exit (X.then_exit (X.then_exit (X.block_exit (X.then_code (W.seq (W.region (mv rfl (ag rfl (dc (W.ret (X.ret1 rfl rfl ?_)))))))))))))))))
   have e : qs = fewL l := by rw [hq]; first | exact fewL_end (by omega) (by omega) (by omega) | exact fewL_end (by omega) (by omega) (by intro h9; omega)
   subst e
   exact ⟨qa, qc, (by rfl), (by have hh := H2.one 0 rfl; exact hh)⟩

set_option maxRecDepth 20000 in
theorem line_any (r : RawD) (ra : Option Addr) (rc : Nat) (w : World) (rr : RdT (tyI .i64) w (.slice ra r.nums.length rc) r.nums) (lw : Laid w) (hcap : r.nums.length ≤ rc) (hok : okL r.nums) (hnl : r.nums.length ≤ 1000) (htl : r.text.size ≤ 100000) :
   Calls Tryd.prog 11 #[.agg #[.slice ra r.nums.length rc, .string r.text]] w (Ret fun v w' => v = .tuple #[.string ((lineC r).1), .int .i64 ((lineC r).2)] ∧ Upd w [] w' []) := by
 have hdl := (by simp : (r.nums.drop 1).length = r.nums.length - 1)
 have h61 := eqs_size
 have le_rr := rr.le
 refine calls_of_W (args := [.agg #[.slice ra r.nums.length rc, .string r.text]]) Tryd.func11 rfl rfl rfl ?_
 have H0 : UpG w [] w [] := UpG.nil w
 show W _ _ _ _ [(0, _)] w
 refine sr (oo (d_box rfl fun w1 u1 => ?_))
 have H1 : UpG _ _ _ [[_]] := H0.new' u1
 refine ag rfl (ag rfl (dc (W.seq (W.seq (W.region (oo (d_loadAB [_, _] y25 rfl sz25 rfl (H1.blk 0 rfl) rfl rfl (oo (d_call ok20 rfl (Ret.calls (opOf_any r ra rc w1 (rr.at H1) ) fun _ w2 p1 => ?_))))))))))
 obtain ⟨rfl, u2⟩ := p1
 have H2 : UpG _ _ _ [[_]] := H1.call u2
 refine mv rfl (oo (d_extract rfl rfl (oo (d_extract rfl rfl (oo (d_alloc sz54 fun w3 u3 => ?_))))))
 have H3 : UpG _ _ _ [[_], [_]] := H2.new' u3
 refine WL.op0 (d_storeAB (us := [_, _, _, _, _]) (cs' := #[_, _, _, _, _]) sz54 rfl rfl rfl rfl (H3.blk 1 rfl) rfl rfl fun w4 u4 => ?_)
 have H4 : UpG _ _ _ [[_], [_]] := H3.on 1 rfl u4
 refine ag rfl (dc (W.seq (W.region (mv rfl (oo (d_cmp _ rfl rfl rfl (dc ?_)))))))
 refine W.ite rfl (fun c16 => ?_) (fun c16 => ?_)
 · refine sr (mv rfl (ag rfl (ag rfl (dc (W.ret (X.then_ret (X.ret2 rfl rfl rfl ?_)))))))
   have e9 : lineC r = (⟨#[]⟩, (ofR r).2) := by unfold lineC; rw [if_neg (by simpa using c16)]
   exact ⟨(by rw [e9]; try rfl), H4.noneL⟩
 · refine sc (W.seq ?_)
   have ho : (ofR r).2 = 0 := by simpa using c16
   obtain ⟨ho1, ho2⟩ := of_ok ho
   refine W.region (oo (d_fieldAddrB fld25_0 rfl rfl (oo (d_loadB y23 rfl rfl (H4.blk 0 rfl) rfl (oo (t_addr1 0 (T := (tyI .i64)) rfl y23 sz3 rfl rfl (rr.at H4) rfl (by omega) (oo (t_load1 0 0 (T := (tyI .i64)) rfl y3 rfl rfl (rr.at H4) (by omega) rfl (oo (d_call ok25 rfl (Ret.calls (name_any _ w4  ) fun _ w5 p2 => ?_)))))))))))
   obtain ⟨rfl, u5⟩ := p2
   have H5 : UpG _ _ _ [[_], [_]] := H4.call u5
   refine oo (t_buildSlice (T := tyS) (xs := [(opRowAt (r.nums.getD 0 0)).name]) (cs := #[.string ((opRowAt (r.nums.getD 0 0)).name)]) rfl y48 sz9 rfl rfl rfl rfl (by kernel_rfl) rfl rfl fun w6 u6 => ?_)
   have H6 : UpG _ _ _ [[_], [_], [_]] := H5.new' u6
   refine ag rfl (dc (W.seq (W.seq (W.region (oo (d_fieldAddrB fld25_0 rfl rfl (oo (d_loadB y23 rfl rfl (H6.blk 0 rfl) rfl (oo (t_sufR 1 (T := (tyI .i64)) (xs := r.nums) rfl y23 sz3 rfl rfl rr rfl (by omega) (by omega) fun sa1 sc1 rs1 => (oo (d_lenS y23 rfl (mv rfl (dc (W.block ?_)))))))))))))))
   have H7 : UpG _ _ _ [[_], [_], [_]] := H6.pm [2, 0, 1] rfl rfl
   refine W.lp (B := [(26, _), (25, _), (3, _), (2, _), (1, _)]) [27, 6, 26, 25, 3, 2, 1] (fun B R L m Γ' w' => ∃ k : Nat, ∃ xs : List ByteArray, ∃ xa : Option Addr, ∃ xc : Nat, Γ' = (27, .int .i64 ((k : Nat) : Int)) :: (6, .slice xa xs.length xc) :: B ∧ UpG w L w' ([rowT tyS (.slice xa xs.length xc) 9 xs] :: R) ∧ (k ≤ (r.nums.drop 1).length) ∧ (xs = (opRowAt (r.nums.getD 0 0)).name :: ((r.nums.drop 1).take k).map numB) ∧ (xs.length ≤ k + 1) ∧ m = (r.nums.drop 1).length - k) ((r.nums.drop 1).length - 0) ⟨0, [(opRowAt (r.nums.getD 0 0)).name], (some ⟨w5.heap.size, 0, none⟩), [(opRowAt (r.nums.getD 0 0)).name].length, rfl, H7, (by simp), (by simp), (by simp), rfl⟩ rfl ?_
   rintro m1 Γ1 w7 ⟨k, xs, xa, xc, rfl, H8, hk, hxs, hxl, rfl⟩
   refine sr (oo (d_cmp _ rfl rfl rfl (dc (W.seq ?_))))
   refine W.ite rfl (fun c20 => ?_) (fun c20 => ?_)
   · refine sc (W.seq (W.block (W.seq (W.region (oo (t_addr1 k (T := (tyI .i64)) rfl y23 sz3 rfl rfl (rs1.at H8) rfl (by omega) (oo (t_load1 k 0 (T := (tyI .i64)) rfl y3 rfl rfl (rs1.at H8) (by omega) rfl (ag rfl (dc (W.region (mv rfl (mv rfl (oo (d_call ok26 rfl (Ret.calls (itoa_any _ w7  (lw.at H8) (hok _ (List.mem_of_mem_drop (getD_mem' (by omega))))) fun _ w8 p3 => ?_))))))))))))))))
     obtain ⟨rfl, u7⟩ := p3
     have H9 : UpG _ _ _ [[_], [_], [_]] := H8.call u7
     refine oo (t_buildSlice (T := tyS) (xs := [numB ((r.nums.drop 1).getD k 0)]) (cs := #[.string (numB ((r.nums.drop 1).getD k 0))]) rfl y48 sz9 rfl rfl rfl rfl (by kernel_rfl) rfl rfl fun w9 u8 => ?_)
     have H10 : UpG _ _ _ [[_], [_], [_], [_]] := H9.new' u8
     refine oo (t_append (T := tyS) (xs := xs) (ys := [numB ((r.nums.drop 1).getD k 0)]) rfl y48 sz9 rfl rfl rfl (H10.ownT 0 rfl) (H10.rdT 3 rfl) (by simp; omega) (by simp; omega) fun a1 c1 w10 u9 => ?_)
     have H11 : UpG _ _ _ [[_], [_], [_], []] := (H10.on 0 rfl u9).drop 3
     refine ag rfl (WL.done (X.block_normal (X.then_code (W.region (oo (d_add rfl rfl (by omega) (by omega) (mv rfl (WL.done ?_))))))))
     exact X.nx [27, 6, 26, 25, 3, 2, 1] ((r.nums.drop 1).length - (k + 1)) (by omega) ⟨k + 1, xs ++ [numB ((r.nums.drop 1).getD k 0)], a1, c1, rfl, (H11.re rfl), (by omega), (by rw [hxs, take_snoc (r.nums.drop 1) 0 (by omega), List.map_append]; rfl), (by simp; omega), rfl⟩ rfl
   · refine W.exit (X.then_exit (X.then_exit (X.block_exit (X.then_code ?_))))
     refine W.ct (B := [(3, _), (2, _)]) (R := [[_], [_]]) [3, 2] 1 rfl H8 rfl (fun B R L Γ' w' => ∃ ws : List ByteArray, ∃ wa : Option Addr, ∃ wc : Nat, Γ' = (6, .slice wa ws.length wc) :: B ∧ UpG w L w' ([rowT tyS (.slice wa ws.length wc) 9 ws] :: R) ∧ (ws = lineW r)) ?_ ?_
     · refine sr (oo (d_fieldAddrB fld25_1 rfl rfl (oo (d_loadB y9 rfl rfl (H8.blk 1 rfl) rfl (oo (d_strne rfl rfl (dc ?_)))))))
       refine W.ite rfl (fun c23 => ?_) (fun c23 => ?_)
       · refine W.region (mv rfl (oo (d_fieldAddrB fld25_1 rfl rfl (oo (d_loadB y9 rfl rfl (H8.blk 1 rfl) rfl (oo (d_call ok27 rfl (Ret.calls (hex_any _ w7  (by omega)) fun _ w11 p4 => ?_))))))))
         obtain ⟨rfl, u10⟩ := p4
         have H12 : UpG _ _ _ [[_], [_], [_]] := H8.call u10
         refine oo (d_concat rfl rfl (by first | (simp; omega) | (rw [strOfNums_size, hexI_len]; omega)) (oo (t_buildSlice (T := tyS) (xs := [(⟨#[61]⟩ : ByteArray) ++ (strOfNums (hexI r.text r.text.size))]) (cs := #[.string ((⟨#[61]⟩ : ByteArray) ++ (strOfNums (hexI r.text r.text.size)))]) rfl y48 sz9 rfl rfl rfl rfl (by kernel_rfl) rfl rfl fun w12 u11 => ?_)))
         have H13 : UpG _ _ _ [[_], [_], [_], [_]] := H12.new' u11
         refine oo (t_append (T := tyS) (xs := xs) (ys := [(⟨#[61]⟩ : ByteArray) ++ (strOfNums (hexI r.text r.text.size))]) rfl y48 sz9 rfl rfl rfl (H13.ownT 0 rfl) (H13.rdT 3 rfl) (by first | (simp; omega) | (rw [strOfNums_size, hexI_len]; omega)) (by first | (simp; omega) | (rw [strOfNums_size, hexI_len]; omega)) fun a2 c2 w13 u12 => ?_)
         have H14 : UpG _ _ _ [[_], [_], [_], []] := (H13.on 0 rfl u12).drop 3
         refine ag rfl (WL.done ?_)
         exact X.cu [6, 3, 2] ⟨xs ++ [(⟨#[61]⟩ : ByteArray) ++ (strOfNums (hexI r.text r.text.size))], a2, c2, rfl, (H14.re rfl), (by rw [hxs, hex_hexS]; unfold lineW tailW; rw [List.take_of_length_le (by simp; omega), if_neg (by simpa using c23)]; rfl)⟩ rfl
       · refine W.skip ?_
         exact X.cu [6, 3, 2] ⟨xs, xa, xc, rfl, H8, (by rw [hxs]; unfold lineW tailW; rw [List.take_of_length_le (by simp; omega), if_pos (by simpa using c23), List.append_nil])⟩ rfl
     rintro Γ2 w14 ⟨ws, wa, wc, rfl, H15, hws⟩
     refine W.seq ?_
     have hjs := lineW_size hok hnl htl
     rw [← hws] at hjs
     refine W.region (mv rfl (oo (d_call ok28 rfl (Ret.calls (joinW_any ws wa wc w14 (H15.hpOf 0 rfl)  (by omega) hjs.2.2 (by omega)) fun _ w15 p5 => ?_))))
     obtain ⟨rfl, u13⟩ := p5
     have H16 : UpG _ _ _ [[_], [_], [_]] := H15.on 0 rfl u13
     refine ag rfl (ag rfl (dc (W.ret (X.ret2 rfl rfl rfl ?_))))
     have e9 : lineC r = (joinW (lineW r), 0) := by unfold lineC; rw [if_pos ho]
     exact ⟨(by rw [e9, hws]; try rfl), H16.noneL⟩

set_option maxRecDepth 20000 in
theorem refLine_any (r : RawD) (ra : Option Addr) (rc : Nat) (w : World) (rr : RdT (tyI .i64) w (.slice ra r.nums.length rc) r.nums) (hok : okL r.nums) (hnl : r.nums.length ≤ 1000) (htl : r.text.size ≤ 100000) :
   Calls Tryd.prog 12 #[.agg #[.slice ra r.nums.length rc, .string r.text]] w (Ret fun v w' => v = .tuple #[.string ((lineC r).1), .int .i64 ((lineC r).2)] ∧ Upd w [] w' []) := by
 have hlen24 : opNames.length = 24 := rfl
 have h32 := sp_size
 have h3261 := spe_size
 have le_rr := rr.le
 refine calls_of_W (args := [.agg #[.slice ra r.nums.length rc, .string r.text]]) Tryd.func12 rfl rfl rfl ?_
 have H0 : UpG w [] w [] := UpG.nil w
 show W _ _ _ _ [(0, _)] w
 refine sr (oo (d_box rfl fun w1 u1 => ?_))
 have H1 : UpG _ _ _ [[_]] := H0.new' u1
 refine ag rfl (ag rfl (dc (W.seq (W.region (oo (d_loadAB [_, _] y25 rfl sz25 rfl (H1.blk 0 rfl) rfl rfl (oo (d_call ok29 rfl (Ret.calls (refOf_any r ra rc w1 (rr.at H1) ) fun _ w2 p1 => ?_)))))))))
 obtain ⟨rfl, u2⟩ := p1
 have H2 : UpG _ _ _ [[_]] := H1.call u2
 refine mv rfl (oo (d_extract rfl rfl (oo (d_extract rfl rfl (oo (d_alloc sz54 fun w3 u3 => ?_))))))
 have H3 : UpG _ _ _ [[_], [_]] := H2.new' u3
 refine WL.op0 (d_storeAB (us := [_, _, _, _, _]) (cs' := #[_, _, _, _, _]) sz54 rfl rfl rfl rfl (H3.blk 1 rfl) rfl rfl fun w4 u4 => ?_)
 have H4 : UpG _ _ _ [[_], [_]] := H3.on 1 rfl u4
 refine ag rfl (dc (W.seq (W.seq (W.region (mv rfl (oo (d_cmp _ rfl rfl rfl (dc ?_))))))))
 refine W.ite rfl (fun c13 => ?_) (fun c13 => ?_)
 · refine sr (mv rfl (ag rfl (ag rfl (dc (W.ret (X.then_ret (X.ret2 rfl rfl rfl ?_)))))))
   have e9 : lineC r = (⟨#[]⟩, (ofR r).2) := by unfold lineC; rw [if_neg (by simpa using c13)]
   exact ⟨(by rw [e9]; try rfl), H4.noneL⟩
 · refine sc (W.seq ?_)
   have ho : (ofR r).2 = 0 := by simpa using c13
   obtain ⟨ho1, ho2⟩ := of_ok ho
   have hk1 : (ofR r).1.kind = r.nums.getD 0 0 := of_kind ho
   have hk2 : 1 ≤ r.nums.getD 0 0 ∧ r.nums.getD 0 0 ≤ 24 := by simpa [okK] using ho2
   refine W.regionD mixed (by kernel_rfl) fun hok1 w5 k1 => ?_
   have H5 : UpG _ _ _ [[_], [_]] := H4.kept k1
   refine tq hok1 1 rfl rfl (fun _ => d_fieldAddrB fld54_0 rfl rfl ⟨rfl, rfl⟩) (tb hok1 2 (H5.blk 1 rfl) rfl rfl (fun _ hC => d_loadB y3 rfl rfl hC rfl ⟨rfl, rfl⟩) (tq hok1 3 rfl rfl (fun _ => d_sub rfl rfl (by omega) (by omega) ⟨rfl, rfl⟩) (wo hok1 0 (lo [_, _, _] rfl rfl (d_call ok22 rfl (Ret.calls (names_any  w5  ) fun _ w6 p2 => ?_))))))
   obtain ⟨a2_1, c2_1, rfl, u5⟩ := p2
   have H6 : UpG _ _ _ [[_], [_], [_]] := (H5.new' u5).re rfl
   refine ⟨⟨trivial, (H6.blk 1 rfl), trivial, trivial⟩, (tr hok1 4 (H6.rdT 2 rfl) rfl rfl (fun _ hC => t_addr1 (((ofR r).1.kind - 1).toNat) (T := tyS) rfl y48 sz9 rfl rfl hC (by omega) (by omega) ⟨rfl, rfl⟩) (tr hok1 5 (H6.rdT 2 rfl) rfl rfl (fun _ hC => t_load1 (((ofR r).1.kind - 1).toNat) .empty (T := tyS) rfl y9 rfl rfl hC (by omega) rfl ⟨rfl, rfl⟩) (tq hok1 6 rfl rfl (fun _ => d_assign rfl ⟨rfl, rfl⟩) (WD.done hok1 rfl (X.then_code (W.seq (W.seq (W.region (ag rfl (dc (W.block (W.lp (B := [(3, _), (2, _), (1, _)]) [7, 6, 3, 2, 1] (fun B R L m Γ' w' => ∃ k : Nat, ∃ o : ByteArray, Γ' = (7, .int .i64 ((k + 1 : Nat) : Int)) :: (6, .string o) :: B ∧ UpG w L w' (R) ∧ (k + 1 ≤ r.nums.length) ∧ (o = joinW ((opRowAt (r.nums.getD 0 0)).name :: ((r.nums.drop 1).take k).map numB)) ∧ m = r.nums.length - k) (r.nums.length - 0) ⟨0, opNames.getD (((ofR r).1.kind - 1).toNat) .empty, rfl, H6, (by omega), (by rw [hk1, ← row_name hk2]; simp [joinW_one]), rfl⟩ rfl ?_))))))))))))⟩
   rintro m1 Γ1 w7 ⟨k, o, rfl, H7, hk, ho9, rfl⟩
   refine W.seq (W.seq (W.region (mv rfl (oo (d_fieldAddrB fld25_0 rfl rfl (oo (d_loadB y23 rfl rfl (H7.blk 0 rfl) rfl (oo (d_lenS y23 rfl (oo (d_cmp _ rfl rfl rfl (dc ?_))))))))))))
   refine W.ite rfl (fun c17 => ?_) (fun c17 => ?_)
   · refine sc (W.seq (W.block ?_))
     have hps := line_part_size hok hnl k
     rw [← ho9] at hps
     have hn1 : i64ok (r.nums.getD (k + 1) 0) := hok _ (getD_mem' (by omega))
     have hn2 := numB_size20 hn1
     refine W.region (mv rfl (oo (d_concat rfl rfl (by first | omega | (rw [ByteArray.size_append]; omega)) (oo (d_fieldAddrB fld25_0 rfl rfl (oo (d_loadB y23 rfl rfl (H7.blk 0 rfl) rfl (mv rfl (oo (t_addr1 (k + 1) (T := (tyI .i64)) rfl y23 sz3 rfl rfl (rr.at H7) rfl (by omega) (oo (t_load1 (k + 1) 0 (T := (tyI .i64)) rfl y3 rfl rfl (rr.at H7) (by omega) rfl (oo (d_call ok30 rfl (Ret.calls (number_any _ w7  hn1) fun _ w8 p3 => ?_)))))))))))))))
     obtain ⟨rfl, u6⟩ := p3
     have H8 : UpG _ _ _ [[_], [_], [_]] := H7.call u6
     refine oo (d_concat rfl rfl (by first | omega | (rw [ByteArray.size_append]; omega)) (ag rfl (WL.done (X.block_normal (X.then_code (W.region (mv rfl (oo (d_add rfl rfl (by omega) (by omega) (ag rfl (WL.done ?_)))))))))))
     exact X.nx [7, 6, 3, 2, 1] (r.nums.length - (k + 1)) (by omega) ⟨k + 1, (o ++ ⟨#[32]⟩) ++ (numB (r.nums.getD (k + 1) 0)), rfl, H8, (by omega), (by rw [ho9]; exact (line_step (by omega)).symm), rfl⟩ rfl
   · refine W.exit (X.then_exit (X.then_exit (X.block_exit (X.then_code ?_))))
     refine W.ct (B := [(3, _), (2, _)]) (R := [[_], [_], [_]]) [3, 2] 0 rfl H7 rfl (fun B R L Γ' w' => ∃ o : ByteArray, Γ' = (6, .string o) :: B ∧ UpG w L w' (R) ∧ (o = joinW (lineW r))) ?_ ?_
     · refine sr (oo (d_fieldAddrB fld25_1 rfl rfl (oo (d_loadB y9 rfl rfl (H7.blk 0 rfl) rfl (oo (d_lenStr y9 rfl (oo (d_cmp _ rfl rfl rfl (dc ?_)))))))))
       refine W.ite rfl (fun c20 => ?_) (fun c20 => ?_)
       · have hps := line_part_size hok hnl k
         rw [← ho9] at hps
         have hhx := hexS_size r.text
         unfold hexS at hhx
         refine W.region (mv rfl (oo (d_concat rfl rfl (by first | omega | (rw [ByteArray.size_append]; omega)) (oo (d_fieldAddrB fld25_1 rfl rfl (oo (d_loadB y9 rfl rfl (H7.blk 0 rfl) rfl (oo (d_call ok31 rfl (Ret.calls (rhex_any _ w7  (by omega)) fun _ w9 p4 => ?_))))))))))
         obtain ⟨rfl, u7⟩ := p4
         have H9 : UpG _ _ _ [[_], [_], [_]] := H7.call u7
         refine oo (d_concat rfl rfl (by first | omega | (rw [ByteArray.size_append]; omega)) (ag rfl (WL.done ?_)))
         exact X.cu [6, 3, 2] ⟨(o ++ ⟨#[32, 61]⟩) ++ (hexT r.text r.text.size), rfl, H9, (by rw [ho9, spEq]; exact line_finT (k := k) (by omega) (fun h9 => by rw [h9] at c20; exact absurd c20 (by decide)))⟩ rfl
       · refine W.skip ?_
         exact X.cu [6, 3, 2] ⟨o, rfl, H7, (by rw [ho9]; exact line_fin (k := k) (by omega) (nil_eq (by omega)))⟩ rfl
     rintro Γ2 w10 ⟨o_1, rfl, H10, hfin⟩
     refine sr (mv rfl (ag rfl (ag rfl (dc (W.ret (X.ret2 rfl rfl rfl ?_))))))
     have e9 : lineC r = (joinW (lineW r), 0) := by unfold lineC; rw [if_pos ho]
     exact ⟨(by rw [e9, hfin]; try rfl), H10.noneL⟩
end Go.Proofs.YtnjjjmpdikpjaabDoor


/- The walks of functions, printed by wip/tools/gw.py. -/
namespace Go.Proofs.YtnjjjmpdikpjaabDoor
open Go Go.Sx
set_option linter.unusedVariables false
set_option linter.unusedSimpArgs false
set_option maxRecDepth 20000 in
theorem words_any (na : Option Addr) (ns0 : List Int) (nc : Nat) (la : Option Addr) (l : List ByteArray) (lc : Nat) (w : World) (hp : Hp w [rowT (tyI .i64) (.slice na ns0.length nc) 3 ns0, rdC tyS (.slice la l.length lc) l]) (lw : Laid w) (hl1 : l.length ≤ 1000) (hls : ∀ x, x ∈ l → x.size ≤ 100000) (hn0 : ns0.length ≤ 10) (hw0 : LaidK w (ats [rowT (tyI .i64) (.slice na ns0.length nc) 3 ns0, rdC tyS (.slice la l.length lc) l])) :
   Calls Tryd.prog 19 #[.agg #[.slice na ns0.length nc, .string ⟨#[]⟩], .slice la l.length lc] w (Ret fun v w' => ∃ na2 : Option Addr, ∃ nc2 : Nat, ∃ rd : RawD, ∃ ok : Bool, v = .tuple #[.agg #[.slice na2 rd.nums.length nc2, .string rd.text], .bool ok] ∧ Upd w [rowT (tyI .i64) (.slice na ns0.length nc) 3 ns0, rdC tyS (.slice la l.length lc) l] w' [rowT (tyI .i64) (.slice na2 rd.nums.length nc2) 3 rd.nums] ∧ ((ok = true ∧ WdOk ns0 l rd) ∨ (ok = false ∧ WdNo l)) ∧ (rd.nums.length ≤ ns0.length + l.length ∧ rd.text.size ≤ 100000)) := by
 refine calls_of_W (args := [.agg #[.slice na ns0.length nc, .string ⟨#[]⟩], .slice la l.length lc]) Tryd.func19 rfl rfl rfl ?_
 have H0 : UpG w _ w [[_], [_]] := (UpG.refl hp).re rfl
 show W _ _ _ _ [(0, _), (1, _)] w
 refine sr (oo (d_box rfl fun w1 u1 => ?_))
 have H1 : UpG _ _ _ [[_], [_], [_]] := H0.new' u1
 refine oo (d_alloc sz25 fun w2 u2 => ?_)
 have H2 : UpG _ _ _ [[_], [_], [_], [_]] := H1.new' u2
 refine ag rfl (dc (W.seq (W.seq (W.region (mv rfl (oo (d_lenS y48 rfl (mv rfl (dc (W.block ?_))))))))))
 have H3 : UpG _ _ _ [[_], [_], [_], [_]] := H2.pm [0, 2, 1, 3] rfl rfl
 refine W.lp (B := [(13, _), (12, _), (5, _), (4, _), (2, _), (1, _)]) [14, 13, 12, 5, 4, 2, 1] (fun B R L m Γ' w' => ∃ j : Nat, ∃ xs : List Int, ∃ xa : Option Addr, ∃ xc : Nat, ∃ ns : List Int, Γ' = (14, .int .i64 ((j : Nat) : Int)) :: B ∧ UpG w L w' ([rowT (tyI .i64) (.slice xa xs.length xc) 3 xs] :: [blk w.heap.size #[.slice xa xs.length xc, .string ⟨#[]⟩] 25] :: R) ∧ (j ≤ l.length) ∧ (WdI ns0 l j xs ns) ∧ (xs.length = ns0.length + j) ∧ m = l.length - j) (l.length - 0) ⟨0, ns0, na, nc, [], rfl, H3, (by first | assumption | omega | simp), (by exact WdI.start ns0 l), (by rfl), rfl⟩ rfl ?_
 rintro m1 Γ1 w3 ⟨j, xs, xa, xc, ns, rfl, H4, hj, hwd, hxl, rfl⟩
 refine sr (oo (d_cmp _ rfl rfl rfl (dc (W.seq ?_))))
 refine W.ite rfl (fun c31 => ?_) (fun c31 => ?_)
 · refine sc (W.seq (W.block (W.seq (W.region (mv rfl (oo (t_addr1 j (T := tyS) rfl y48 sz9 rfl rfl (H4.rdC 2 rfl) rfl (by omega) (oo (t_load1 j .empty (T := tyS) rfl y9 rfl rfl (H4.rdC 2 rfl) (by omega) rfl (ag rfl (ag rfl (dc ?_))))))))))))
   refine W.ct (B := [(7, _), (14, _), (13, _), (12, _), (5, _), (4, _), (2, _), (1, _)]) (R := [[_], [_], [_], [_]]) [7, 14, 13, 12, 5, 4, 2, 1] 0 rfl H4 rfl (fun B R L Γ' w' => Γ' = B ∧ UpG w L w' (R) ∧ (¬ (eqP (l.getD j .empty) = true ∧ j + 1 = l.length))) ?_ ?_
   · refine W.seq ?_
     have hjl : j < l.length := by omega
     have hwz := hls _ (getD_mem' (d := .empty) hjl)
     refine W.region (mv rfl (oo (d_call ok37 rfl (Ret.calls (eqp_any _ w3  ) fun _ w4 p1 => ?_))))
     obtain ⟨rfl, u3⟩ := p1
     have H5 : UpG _ _ _ [[_], [_], [_], [_]] := H4.call u3
     refine mv rfl ?_
     refine WL.partB 21 rfl (fun g32 => ?_) (fun g32 => ?_)
     · refine WL.opG rfl rfl rfl (d_move rfl (WL.opG rfl rfl rfl (d_move rfl (WL.opG rfl rfl rfl (d_lenS y48 rfl (WL.opG rfl rfl rfl (d_sub rfl rfl (by omega) (by omega) (WL.opG rfl rfl rfl (d_cmp _ rfl rfl rfl (oo (d_pick rfl rfl (dc ?_))))))))))))
       refine W.ite rfl (fun c32 => ?_) (fun c32 => ?_)
       · refine W.seq ?_
         have hw1 := eqP_size g32
         refine W.region (mv rfl (oo (d_substrN 1 (((l.getD j .empty).size : Nat) : Int) 1 ((l.getD j .empty).size) y9 rfl rfl rfl (.inr ⟨_, rfl⟩) (.inl ⟨rfl, rfl⟩) (by omega) (by omega) ⟨by omega, by omega, by omega⟩ (oo (d_call ok38 rfl (Ret.calls (bytes_any _ w4  (by rw [ByteArray.size_extract]; omega)) fun _ w5 p2 => ?_))))))
         obtain ⟨t_1, b_1, rfl, u4, q1, q2⟩ := p2
         have H6 : UpG _ _ _ [[_], [_], [_], [_]] := H5.call u4
         refine mv rfl (oo (d_extract rfl rfl (oo (d_extract rfl rfl (ag rfl (ag rfl (dc (W.seq (W.region (mv rfl (oo (d_fieldAddrB fld25_1 rfl rfl (WL.op0 (d_storeB sz9 rfl rfl rfl (H6.blk 1 rfl) rfl fun w6 u5 => ?_))))))))))))))
         have H7 : UpG _ _ _ [[_], [_], [_], [_]] := H6.on 1 rfl u5
         refine dc (W.pick [9, 8, 5, 4, 2] (Γ' := [(9, _), (8, _), (5, _), (4, _), (2, _)]) rfl (W.seq (W.region (oo (d_loadAB [_, _] y25 rfl sz25 rfl (H7.blk 1 rfl) rfl rfl (mv rfl (mv rfl ?_)))))))
         refine WL.partB 38 rfl (fun g35 => ?_) (fun g35 => ?_)
         · refine WL.opG rfl rfl rfl (d_move rfl (WL.opG rfl rfl rfl (d_strne rfl rfl (oo (d_pick rfl rfl (WL.op0 (d_storeAB (us := [_, _]) (cs' := #[_, _]) sz25 rfl rfl rfl rfl (H7.blk 3 rfl) rfl rfl fun w7 u6 => ?_)))))))
           have H8 : UpG _ _ _ [[_], [_], [_], [_]] := H7.on 3 rfl u6
           refine ag rfl (dc (W.ret (X.then_ret (X.block_ret (X.then_ret (X.then_ret (X.block_ret (X.then_ret (X.retR2 rfl (rv_cellA [.slice xa xs.length xc, .string t_1] y25 rfl sz25 rfl (H8.blk 3 rfl) rfl rfl) (rv_tmp rfl) ?_)))))))))
           exact ⟨xa, xc, ⟨xs, t_1⟩, decide (t_1 ≠ ⟨#[]⟩), (by rfl), (Upd.sel H8 (l := [0]) rfl rfl), (by first | exact wd_endT hwd (by omega) g32 q2 (by assumption) | exact wd_endF hwd (by omega) g32 q2 (by assumption)), ⟨by show xs.length ≤ _; omega, by rw [ByteArray.size_extract] at q1; show t_1.size ≤ _; omega⟩⟩
         · refine WL.opN rfl rfl rfl rfl (WL.opN rfl rfl rfl rfl (oo (d_pick rfl rfl (WL.op0 (d_storeAB (us := [_, _]) (cs' := #[_, _]) sz25 rfl rfl rfl rfl (H7.blk 3 rfl) rfl rfl fun w8 u7 => ?_)))))
           have H9 : UpG _ _ _ [[_], [_], [_], [_]] := H7.on 3 rfl u7
           refine ag rfl (dc (W.ret (X.then_ret (X.block_ret (X.then_ret (X.then_ret (X.block_ret (X.then_ret (X.retR2 rfl (rv_cellA [.slice xa xs.length xc, .string t_1] y25 rfl sz25 rfl (H9.blk 3 rfl) rfl rfl) (rv_tmp rfl) ?_)))))))))
           exact ⟨xa, xc, ⟨xs, t_1⟩, false, (by rfl), (Upd.sel H9 (l := [0]) rfl rfl), (by first | exact wd_endT hwd (by omega) g32 q2 (by assumption) | exact wd_endF hwd (by omega) g32 q2 (by assumption)), ⟨by show xs.length ≤ _; omega, by rw [ByteArray.size_extract] at q1; show t_1.size ≤ _; omega⟩⟩
       · refine W.skip ?_
         exact X.cu [7, 14, 13, 12, 5, 4, 2, 1] ⟨rfl, H5, (by first | exact fun h => g32 h.1 | (intro h; exact c32 (by omega)))⟩ rfl
     · refine WL.opN rfl rfl rfl rfl (WL.opN rfl rfl rfl rfl (WL.opN rfl rfl rfl rfl (WL.opN rfl rfl rfl rfl (WL.opN rfl rfl rfl rfl (oo (d_pick rfl rfl (dc (W.iff rfl (W.skip ?_)))))))))
       exact X.cu [7, 14, 13, 12, 5, 4, 2, 1] ⟨rfl, H5, (by first | exact fun h => g32 h.1 | (intro h; exact c32 (by omega)))⟩ rfl
   rintro Γ2 w9 ⟨rfl, H10, hnp⟩
   refine W.seq ?_
   have hjl : j < l.length := by omega
   have hwz := hls _ (getD_mem' (d := .empty) hjl)
   refine W.region (mv rfl (oo (d_call ok39 rfl (Ret.calls (atoi_any _ w9  (hw0.at H10) (by omega)) fun _ w10 p3 => ?_))))
   obtain ⟨av_1, ev_1, eb_1, rfl, u8, he1, ha1⟩ := p3
   have H11 : UpG _ _ _ [[_], [_], [_], [_]] := H10.call u8
   refine mv rfl (oo (d_extract rfl rfl (oo (d_extract rfl rfl (ag rfl (ag rfl (dc (W.seq (W.seq (W.region (mv rfl (oo (d_ifne (b := eb_1) y73 rfl (by assumption) (mv rfl ?_))))))))))))))
   refine WL.partB 49 rfl (fun g38 => ?_) (fun g38 => ?_)
   · refine WL.opN rfl rfl rfl rfl (WL.opN rfl rfl rfl rfl (WL.opN rfl rfl rfl rfl (WL.opN rfl rfl rfl rfl (oo (d_pick rfl rfl (dc (W.ift rfl (W.seq (W.region (oo (d_loadAB [_, _] y25 rfl sz25 rfl (H11.blk 1 rfl) rfl rfl (WL.op0 (d_storeAB (us := [_, _]) (cs' := #[_, _]) sz25 rfl rfl rfl rfl (H11.blk 3 rfl) rfl rfl fun w11 u9 => ?_)))))))))))))
     have H12 : UpG _ _ _ [[_], [_], [_], [_]] := H11.on 3 rfl u9
     refine ag rfl (dc (W.ret (X.then_ret (X.block_ret (X.then_ret (X.then_ret (X.block_ret (X.then_ret (X.retR2 rfl (rv_cellA [.slice xa xs.length xc, .string ⟨#[]⟩] y25 rfl sz25 rfl (H12.blk 3 rfl) rfl rfl) (rv_tmp rfl) ?_)))))))))
     exact ⟨xa, xc, ⟨xs, ⟨#[]⟩⟩, false, (by rfl), (Upd.sel H12 (l := [0]) rfl rfl), (.inr ⟨rfl, no_word (by omega) hnp (no_num ha1 (by first | exact .inl (by assumption) | exact .inr (by assumption)))⟩), ⟨by show xs.length ≤ _; omega, Nat.zero_le _⟩⟩
   · obtain ⟨ha2, ha3, ha4⟩ := ha1.resolve_right (fun h => g38 h.1)
     refine WL.opG rfl rfl rfl (d_move rfl (WL.opG rfl rfl rfl (d_call ok26 rfl (Ret.calls (itoa_any _ w10  (hw0.at H11) ha4) fun _ w12 p4 => ?_))))
     obtain ⟨rfl, u10⟩ := p4
     have H13 : UpG _ _ _ [[_], [_], [_], [_]] := H11.call u10
     refine WL.opG rfl rfl rfl (d_move rfl (WL.opG rfl rfl rfl (d_strne rfl rfl (oo (d_pick rfl rfl (dc ?_))))))
     refine W.ite rfl (fun c38 => ?_) (fun c38 => ?_)
     · refine sr (oo (d_loadAB [_, _] y25 rfl sz25 rfl (H13.blk 1 rfl) rfl rfl (WL.op0 (d_storeAB (us := [_, _]) (cs' := #[_, _]) sz25 rfl rfl rfl rfl (H13.blk 3 rfl) rfl rfl fun w13 u11 => ?_))))
       have H14 : UpG _ _ _ [[_], [_], [_], [_]] := H13.on 3 rfl u11
       refine ag rfl (dc (W.ret (X.then_ret (X.block_ret (X.then_ret (X.then_ret (X.block_ret (X.then_ret (X.retR2 rfl (rv_cellA [.slice xa xs.length xc, .string ⟨#[]⟩] y25 rfl sz25 rfl (H14.blk 3 rfl) rfl rfl) (rv_tmp rfl) ?_)))))))))
       exact ⟨xa, xc, ⟨xs, ⟨#[]⟩⟩, false, (by rfl), (Upd.sel H14 (l := [0]) rfl rfl), (.inr ⟨rfl, no_word (by omega) hnp (no_num ha1 (by first | exact .inl (by assumption) | exact .inr (by assumption)))⟩), ⟨by show xs.length ≤ _; omega, Nat.zero_le _⟩⟩
     · refine sc (W.region (oo (d_fieldAddrB fld25_0 rfl rfl (oo (d_loadB y23 rfl rfl (H13.blk 1 rfl) rfl (mv rfl (oo (t_buildSlice (T := (tyI .i64)) (xs := [av_1]) (cs := #[.int .i64 av_1]) rfl y23 sz3 rfl rfl rfl rfl (by kernel_rfl) rfl rfl fun w14 u12 => ?_))))))))
       have H15 : UpG _ _ _ [[_], [_], [_], [_], [_]] := H13.new' u12
       refine oo (t_append (T := (tyI .i64)) (xs := xs) (ys := [av_1]) rfl y23 sz3 rfl rfl rfl (H15.ownT 0 rfl) (H15.rdT 4 rfl) (by simp; omega) (by simp; omega) fun a1 c1 w15 u13 => ?_)
       have H16 : UpG _ _ _ [[_], [_], [_], [_], []] := (H15.on 0 rfl u13).drop 4
       refine oo (d_fieldAddrB fld25_0 rfl rfl (WL.op0 (d_storeB sz23 rfl rfl rfl (H16.blk 1 rfl) rfl fun w16 u14 => ?_)))
       have H17 : UpG _ _ _ [[_], [_], [_], [_], []] := H16.on 1 rfl u14
       refine WL.done (X.block_normal (X.then_code (W.region (oo (d_add rfl rfl (by omega) (by omega) (mv rfl (WL.done ?_)))))))
       exact X.nx [14, 13, 12, 5, 4, 2, 1] (l.length - (j + 1)) (by omega) ⟨j + 1, xs ++ [av_1], a1, c1, ns ++ [av_1], rfl, (H17.re rfl), (by first | assumption | omega | simp), (by exact hwd.num (by omega) ha4 (by simpa using c38)), (by simp; omega), rfl⟩ rfl
 · refine W.exit (X.then_exit (X.then_exit (X.block_exit (X.then_code (W.seq (W.region (oo (d_loadAB [_, _] y25 rfl sz25 rfl (H4.blk 1 rfl) rfl rfl (WL.op0 (d_storeAB (us := [_, _]) (cs' := #[_, _]) sz25 rfl rfl rfl rfl (H4.blk 3 rfl) rfl rfl fun w17 u15 => ?_))))))))))
   have H18 : UpG _ _ _ [[_], [_], [_], [_]] := H4.on 3 rfl u15
   refine ag rfl (dc (W.ret (X.retR2 rfl (rv_cellA [.slice xa xs.length xc, .string ⟨#[]⟩] y25 rfl sz25 rfl (H18.blk 3 rfl) rfl rfl) (rv_tmp rfl) ?_)))
   exact ⟨xa, xc, ⟨xs, ⟨#[]⟩⟩, true, (by rfl), (Upd.sel H18 (l := [0]) rfl rfl), (.inl ⟨rfl, hwd.fin (by omega)⟩), ⟨by show xs.length ≤ _; omega, Nat.zero_le _⟩⟩
end Go.Proofs.YtnjjjmpdikpjaabDoor


/- The walks of functions, printed by wip/tools/gw.py. -/
namespace Go.Proofs.YtnjjjmpdikpjaabDoor
open Go Go.Sx
set_option linter.unusedVariables false
set_option linter.unusedSimpArgs false
set_option maxRecDepth 20000 in
theorem read_any (s : ByteArray) (w : World) (lw : Laid w) (hs : s.size ≤ 900) :
   Calls Tryd.prog 7 #[.string s] w (Ret fun v w' => ∃ ra2 : Option Addr, ∃ rc2 : Nat, ∃ rd : RawD, ∃ re : Int, v = .tuple #[.agg #[.slice ra2 rd.nums.length rc2, .string rd.text], .int .i64 re] ∧ Upd w [] w' [rowT (tyI .i64) (.slice ra2 rd.nums.length rc2) 3 rd.nums] ∧ (ReadS s rd re) ∧ (rd.nums.length ≤ 1000 ∧ rd.text.size ≤ 100000)) := by
 have hcl := cutAll_len 32 s
 have hcm := cutAll_mem 32 s
 have hc0 := cutAll_ne 32 s
 have hcd : ((cutAll 32 s).drop 1).length = (cutAll 32 s).length - 1 := by simp
 refine calls_of_W (args := [.string s]) Tryd.func7 rfl rfl rfl ?_
 have H0 : UpG w [] w [] := UpG.nil w
 show W _ _ _ _ [(0, _)] w
 refine sr (oo (d_alloc sz25 fun w1 u1 => ?_))
 have H1 : UpG _ _ _ [[_]] := H0.new' u1
 refine ag rfl (dc (W.seq (W.region (mv rfl (oo (d_call ok17 rfl (Ret.calls (splitW_any _ w1  (lw.at H1) (by omega)) fun _ w2 p1 => ?_)))))))
 obtain ⟨a2_1, c2_1, rfl, u2⟩ := p1
 have H2 : UpG _ _ _ [[_], [_]] := (H1.new' u2).re rfl
 refine ag rfl (dc (W.seq (W.region (mv rfl (oo (t_addr1 0 (T := tyS) rfl y48 sz9 rfl rfl (H2.rdT 1 rfl) rfl (by omega) (oo (t_load1 0 .empty (T := tyS) rfl y9 rfl rfl (H2.rdT 1 rfl) (by omega) rfl (oo (d_call ok18 rfl (Ret.calls (kind_any _ w2  ) fun _ w3 p2 => ?_)))))))))))
 obtain ⟨rfl, u3⟩ := p2
 have H3 : UpG _ _ _ [[_], [_]] := H2.call u3
 refine ag rfl (dc (W.seq (W.seq (W.region (mv rfl (oo (d_cmp _ rfl rfl rfl (dc ?_))))))))
 refine W.ite rfl (fun c50 => ?_) (fun c50 => ?_)
 · refine sr (oo (d_build (cs := #[.slice none 0 0, .string ⟨#[]⟩]) rfl (by kernel_rfl) (WL.op0 (d_storeAB (us := [_, _]) (cs' := #[_, _]) sz25 rfl rfl rfl rfl (H3.blk 0 rfl) rfl rfl fun w4 u4 => ?_))))
   have H4 : UpG _ _ _ [[_], [_]] := H3.on 0 rfl u4
   refine ag rfl (dc (W.ret (X.then_ret (X.retR2 rfl (rv_cellA [.slice none 0 0, .string ⟨#[]⟩] y25 rfl sz25 rfl (H4.blk 0 rfl) rfl rfl) (rv_tmp rfl) ?_))))
   exact ⟨none, 0, raw0, 9, (by rfl), nilOwn H4, (.inr (.inl ⟨rfl, rfl, by unfold w0; omega⟩)), ⟨Nat.zero_le _, Nat.zero_le _⟩⟩
 · refine sc (W.seq (W.region (mv rfl (oo (t_buildSlice (T := (tyI .i64)) (xs := [((lastTo ((cutAll 32 s).getD 0 .empty) 24 : Nat) : Int)]) (cs := #[.int .i64 ((lastTo ((cutAll 32 s).getD 0 .empty) 24 : Nat) : Int)]) rfl y23 sz3 rfl rfl rfl rfl (by kernel_rfl) rfl rfl fun w5 u5 => ?_)))))
   have H5 : UpG _ _ _ [[_], [_], [_]] := H3.new' u5
   refine oo (d_build (cs := #[.slice (some ⟨w3.heap.size, 0, none⟩) ([((lastTo ((cutAll 32 s).getD 0 .empty) 24 : Nat) : Int)].length) ([((lastTo ((cutAll 32 s).getD 0 .empty) 24 : Nat) : Int)].length), .string ⟨#[]⟩]) rfl (by kernel_rfl) (mv rfl (oo (t_sufRd 1 (T := tyS) (xs := (cutAll 32 s)) rfl y48 sz9 rfl rfl (H5.ownT 1 rfl) rfl (by omega) fun sa1 sc1 w6 u6 => ?_))))
   have H6 : UpG _ _ _ [[_], [_], [_]] := H5.on 1 rfl u6
   refine oo (d_call ok19 rfl (Ret.calls (words_any _ _ _ sa1 ((cutAll 32 s).drop 1) sc1 w6 (H6.hp2 2 1 rfl rfl rfl)  (lw.at H6) (by omega) (fun x hx => by have := hcm x (List.mem_of_mem_drop hx); omega) (by simp) (LaidK.of lw H6 2 1 rfl rfl)) fun _ w7 p3 => ?_))
   obtain ⟨na2_1, nc2_1, rd_1, ok_1, rfl, u7, hw1, hv1⟩ := p3
   have H7 : UpG _ _ _ [[_], [], [_]] := (H6.on2 (A' := [rowT (tyI .i64) (.slice na2_1 rd_1.nums.length nc2_1) 3 rd_1.nums]) (B' := []) (C := []) 2 1 rfl rfl rfl u7).re rfl
   refine mv rfl (oo (d_extract rfl rfl (oo (d_extract rfl rfl (oo (d_alloc sz25 fun w8 u8 => ?_))))))
   have H8 : UpG _ _ _ [[_], [], [_], [_]] := H7.new' u8
   refine WL.op0 (d_storeAB (us := [_, _]) (cs' := #[_, _]) sz25 rfl rfl rfl rfl (H8.blk 3 rfl) rfl rfl fun w9 u9 => ?_)
   have H9 : UpG _ _ _ [[_], [], [_], [_]] := H8.on 3 rfl u9
   refine ag rfl (dc (W.seq (W.seq (W.region (oo (d_loadAB [_, _] y25 rfl sz25 rfl (H9.blk 3 rfl) rfl rfl (oo (d_call ok20 rfl (Ret.calls (opOf_any rd_1 na2_1 _ w9 (H9.rdT 2 rfl) ) fun _ w10 p4 => ?_)))))))))
   obtain ⟨rfl, u10⟩ := p4
   have H10 : UpG _ _ _ [[_], [], [_], [_]] := H9.call u10
   refine mv rfl (oo (d_extract rfl rfl (oo (d_extract rfl rfl (oo (d_alloc sz54 fun w11 u11 => ?_))))))
   have H11 : UpG _ _ _ [[_], [], [_], [_], [_]] := H10.new' u11
   refine WL.op0 (d_storeAB (us := [_, _, _, _, _]) (cs' := #[_, _, _, _, _]) sz54 rfl rfl rfl rfl (H11.blk 4 rfl) rfl rfl fun w12 u12 => ?_)
   have H12 : UpG _ _ _ [[_], [], [_], [_], [_]] := H11.on 4 rfl u12
   refine ag rfl (dc (W.pick [9, 7, 6, 3, 2] (Γ' := [(9, _), (7, _), (6, _), (3, _), (2, _)]) rfl (W.seq (W.region (mv rfl (oo (d_notB rfl (mv rfl ?_))))))))
   refine WL.partB 35 rfl (fun g54 => ?_) (fun g54 => ?_)
   · refine WL.opN rfl rfl rfl rfl (WL.opN rfl rfl rfl rfl (oo (d_pick rfl rfl (dc (W.ift rfl (W.seq (W.region (oo (d_build (cs := #[.slice none 0 0, .string ⟨#[]⟩]) rfl (by kernel_rfl) (WL.op0 (d_storeAB (us := [_, _]) (cs' := #[_, _]) sz25 rfl rfl rfl rfl (H12.blk 0 rfl) rfl rfl fun w13 u13 => ?_)))))))))))
     have H13 : UpG _ _ _ [[_], [], [_], [_], [_]] := H12.on 0 rfl u13
     refine ag rfl (dc (W.ret (X.then_ret (X.retR2 rfl (rv_cellA [.slice none 0 0, .string ⟨#[]⟩] y25 rfl sz25 rfl (H13.blk 0 rfl) rfl rfl) (rv_tmp rfl) ?_))))
     exact ⟨none, 0, raw0, 3, (by rfl), nilOwn H13, (.inr (.inr ⟨rfl, rfl, by unfold w0; omega, read_bad rfl hw1 (by first | exact .inl (by simpa using g54) | exact .inr (by simpa using c54))⟩)), ⟨Nat.zero_le _, Nat.zero_le _⟩⟩
   · refine WL.opG rfl rfl rfl (d_move rfl (WL.opG rfl rfl rfl (d_cmp _ rfl rfl rfl (oo (d_pick rfl rfl (dc ?_))))))
     refine W.ite rfl (fun c54 => ?_) (fun c54 => ?_)
     · refine sr (oo (d_build (cs := #[.slice none 0 0, .string ⟨#[]⟩]) rfl (by kernel_rfl) (WL.op0 (d_storeAB (us := [_, _]) (cs' := #[_, _]) sz25 rfl rfl rfl rfl (H12.blk 0 rfl) rfl rfl fun w14 u14 => ?_))))
       have H14 : UpG _ _ _ [[_], [], [_], [_], [_]] := H12.on 0 rfl u14
       refine ag rfl (dc (W.ret (X.then_ret (X.retR2 rfl (rv_cellA [.slice none 0 0, .string ⟨#[]⟩] y25 rfl sz25 rfl (H14.blk 0 rfl) rfl rfl) (rv_tmp rfl) ?_))))
       exact ⟨none, 0, raw0, 3, (by rfl), nilOwn H14, (.inr (.inr ⟨rfl, rfl, by unfold w0; omega, read_bad rfl hw1 (by first | exact .inl (by simpa using g54) | exact .inr (by simpa using c54))⟩)), ⟨Nat.zero_le _, Nat.zero_le _⟩⟩
     · refine sc (W.seq (W.region (oo (d_loadAB [_, _] y25 rfl sz25 rfl (H12.blk 3 rfl) rfl rfl (WL.op0 (d_storeAB (us := [_, _]) (cs' := #[_, _]) sz25 rfl rfl rfl rfl (H12.blk 0 rfl) rfl rfl fun w15 u15 => ?_))))))
       have H15 : UpG _ _ _ [[_], [], [_], [_], [_]] := H12.on 0 rfl u15
       refine ag rfl (dc (W.ret (X.retR2 rfl (rv_cellA [.slice na2_1 rd_1.nums.length nc2_1, .string rd_1.text] y25 rfl sz25 rfl (H15.blk 0 rfl) rfl rfl) (rv_tmp rfl) ?_)))
       exact ⟨na2_1, nc2_1, rd_1, 0, rfl, H15.one 2 rfl, (.inl ⟨rfl, read_good rfl (by unfold w0; omega) hw1 (by simpa using g54) (by simpa using c54)⟩), (by have h9 := hv1; simp only [List.length_cons, List.length_nil] at h9; omega)⟩

end Go.Proofs.YtnjjjmpdikpjaabDoor


/- The page's examples; texts of many lines. Conditions: those of each theorem. -/
namespace Go.Sx
set_option linter.unusedVariables false
set_option linter.unusedSimpArgs false
def nx1 : RawD := ⟨[9, 2, 5], ⟨#[]⟩⟩
theorem nx1_line : joinW (lineW nx1) = ⟨#[110, 101, 120, 116, 32, 50, 32, 53]⟩ := by
  have e : lineW nx1 = [⟨#[110, 101, 120, 116]⟩, ⟨#[50]⟩, ⟨#[53]⟩] := by
    have e1 : numB 2 = ⟨#[50]⟩ := by rw [numB_pos1 (by decide) (by decide)]; decide +kernel
    have e2 : numB 5 = ⟨#[53]⟩ := by rw [numB_pos1 (by decide) (by decide)]; decide +kernel
    show (opRowAt 9).name :: tailW [2, 5] ⟨#[]⟩ = _
    have e3 : (opRowAt 9).name = ⟨#[110, 101, 120, 116]⟩ := by decide +kernel
    unfold tailW
    rw [if_pos rfl, List.map_cons, List.map_cons, List.map_nil, e1, e2, e3]; rfl
  rw [e]; decide +kernel
theorem nx1_ok : Lok nx1 ⟨#[110, 101, 120, 116, 32, 50, 32, 53]⟩ := by
  refine ⟨fun n hn => ?_, by decide +kernel, nx1_line⟩
  simp only [nx1, List.mem_cons, List.not_mem_nil, or_false] at hn
  unfold i64ok
  rcases hn with rfl | rfl | rfl <;> decide
theorem awake1 {v : RawD} {e : Int} (h : ReadS ⟨#[110, 101, 120, 116, 32, 50, 32, 53]⟩ v e) : v = nx1 ∧ e = 0 := h.det (.inl ⟨rfl, nx1_ok⟩)
theorem awake2 {v : RawD} {e : Int} (h : ReadS ⟨#[110, 101, 120, 116, 32, 32, 50, 32, 53]⟩ v e) : e = 3 := by
  have hk : lastTo (w0 ⟨#[110, 101, 120, 116, 32, 32, 50, 32, 53]⟩) 24 = 9 := by decide +kernel
  rcases h with ⟨rfl, h⟩ | ⟨rfl, rfl, h⟩ | ⟨rfl, rfl, h, h'⟩
  · exfalso
    have hc := h.cut
    have e1 : cutAll 32 ⟨#[110, 101, 120, 116, 32, 32, 50, 32, 53]⟩ = [⟨#[110, 101, 120, 116]⟩, ⟨#[]⟩, ⟨#[50]⟩, ⟨#[53]⟩] := by decide +kernel
    rw [e1] at hc
    unfold lineW at hc
    injection hc with _ hc
    unfold tailW at hc
    cases hn : v.nums.drop 1 with
    | nil =>
      rw [hn] at hc
      split at hc <;> simp at hc
    | cons x r =>
      rw [hn, List.map_cons, List.cons_append] at hc
      injection hc with hc _
      have := numB_len x
      have h3 := Lib.nDigits_pos x.natAbs
      rw [← hc] at this
      have h9 : (⟨#[]⟩ : ByteArray).size = 0 := rfl
      omega
  · rw [hk] at h; cases h
  · rfl
theorem ReadS.same {s : ByteArray} {v u : RawD} {e f : Int} (h : ReadS s v e) (k : ReadS s u f) : e = f ∧ (v.nums = u.nums ∧ v.text = u.text) := by
  obtain ⟨rfl, rfl⟩ := h.det k
  exact ⟨rfl, rfl, rfl⟩
end Go.Sx


/- The walks of functions, printed by wip/tools/gw.py. -/
namespace Go.Proofs.YtnjjjmpdikpjaabDoor
open Go Go.Sx
set_option linter.unusedVariables false
set_option linter.unusedSimpArgs false
set_option maxRecDepth 20000 in
theorem awake_any  (w : World) (lw : Laid w) :
   Calls Tryd.prog 6 #[] w (Ret fun v w' => v = .bool true ∧ Upd w [] w' []) := by
 refine calls_of_W (args := []) Tryd.func6 rfl rfl rfl ?_
 have H0 : UpG w [] w [] := UpG.nil w
 show W _ _ _ _ [] w
 refine sr (ag rfl (dc (W.seq (W.region (oo (d_call ok7 rfl (Ret.calls (read_any _ w  (lw.at H0) (by decide)) fun _ w1 p1 => ?_)))))))
 obtain ⟨ra2_1, rc2_1, rd_1, re_1, rfl, u1, hr1, hb1⟩ := p1
 have H1 : UpG _ _ _ [[_]] := (H0.new' u1).re rfl
 refine mv rfl (oo (d_extract rfl rfl (oo (d_extract rfl rfl (oo (d_alloc sz25 fun w2 u2 => ?_))))))
 have H2 : UpG _ _ _ [[_], [_]] := H1.new' u2
 refine WL.op0 (d_storeAB (us := [_, _]) (cs' := #[_, _]) sz25 rfl rfl rfl rfl (H2.blk 1 rfl) rfl rfl fun w3 u3 => ?_)
 have H3 : UpG _ _ _ [[_], [_]] := H2.on 1 rfl u3
 refine ag rfl (dc (W.seq ?_))
 obtain ⟨e1, e2⟩ := awake1 hr1
 refine W.region (oo (d_loadAB [_, _] y25 rfl sz25 rfl (H3.blk 1 rfl) rfl rfl (oo (d_call ok11 rfl (Ret.calls (line_any rd_1 ra2_1 _ w3 (H3.rdT 0 rfl) (lw.at H3) (own_capN (H3.ownT 0 rfl)) (by rw [e1]; exact nx1_ok.1) (by rw [e1]; decide) (by rw [e1]; decide)) fun _ w4 p2 => ?_)))))
 obtain ⟨rfl, u4⟩ := p2
 have H4 : UpG _ _ _ [[_], [_]] := H3.call u4
 refine mv rfl (oo (d_extract rfl rfl (oo (d_extract rfl rfl (ag rfl (ag rfl (dc (W.seq (W.region (oo (d_call ok7 rfl (Ret.calls (read_any _ w4  (lw.at H4) (by decide)) fun _ w5 p3 => ?_))))))))))))
 obtain ⟨ra2_2, rc2_2, rd_2, re_2, rfl, u5, hr2, hb2⟩ := p3
 have H5 : UpG _ _ _ [[_], [_], [_]] := (H4.new' u5).re rfl
 refine mv rfl (oo (d_extract rfl rfl (oo (d_extract rfl rfl (oo (d_alloc sz25 fun w6 u6 => ?_))))))
 have H6 : UpG _ _ _ [[_], [_], [_], [_]] := H5.new' u6
 refine WL.op0 (d_storeAB (us := [_, _]) (cs' := #[_, _]) sz25 rfl rfl rfl rfl (H6.blk 3 rfl) rfl rfl fun w7 u7 => ?_)
 have H7 : UpG _ _ _ [[_], [_], [_], [_]] := H6.on 3 rfl u7
 refine ag rfl (dc (W.seq ?_))
 have e3 := awake2 hr2
 refine W.region (mv rfl (oo (d_cmp _ rfl rfl rfl (mv rfl ?_))))
 refine WL.part 22 rfl (fun g21 => ?_) (fun g21 => ?_)
 · refine WL.opG rfl rfl rfl (d_fieldAddrB fld25_0 rfl rfl (WL.opG rfl rfl rfl (d_loadB y23 rfl rfl (H7.blk 1 rfl) rfl (WL.opG rfl rfl rfl (d_lenS y23 rfl (WL.opG rfl rfl rfl (d_cmp _ rfl rfl rfl (oo (d_pick rfl rfl (mv rfl ?_))))))))))
   refine WL.part 28 rfl (fun g21x => ?_) (fun g21x => ?_)
   · refine WL.opG rfl rfl rfl (d_fieldAddrB fld25_0 rfl rfl (WL.opG rfl rfl rfl (d_loadB y23 rfl rfl (H7.blk 1 rfl) rfl (WL.opG rfl rfl rfl (t_addr1 1 (T := (tyI .i64)) rfl y23 sz3 rfl rfl (H7.rdT 0 rfl) rfl (by rw [e1]; decide) (WL.opG rfl rfl rfl (t_load1 1 0 (T := (tyI .i64)) rfl y3 rfl rfl (H7.rdT 0 rfl) (by rw [e1]; decide) rfl (WL.opG rfl rfl rfl (d_cmp _ rfl rfl rfl (oo (d_pick rfl rfl (mv rfl ?_))))))))))))
     refine WL.part 35 rfl (fun g21xx => ?_) (fun g21xx => ?_)
     · refine WL.opG rfl rfl rfl (d_move rfl (WL.opG rfl rfl rfl (d_streq rfl rfl (oo (d_pick rfl rfl (mv rfl ?_))))))
       refine WL.part 39 rfl (fun g21xxx => ?_) (fun g21xxx => ?_)
       · refine WL.opG rfl rfl rfl (d_move rfl (WL.opG rfl rfl rfl (d_cmp _ rfl rfl rfl (oo (d_pick rfl rfl (mv rfl ?_))))))
         refine WL.part 43 rfl (fun g21xxxx => ?_) (fun g21xxxx => ?_)
         · refine WL.opG rfl rfl rfl (d_move rfl (WL.opG rfl rfl rfl (d_cmp _ rfl rfl rfl (oo (d_pick rfl rfl (ag rfl (dc (W.pick [0] (Γ' := [(0, _)]) rfl (W.ret (X.ret1 rfl rfl ?_))))))))))
           exact ⟨(by rw [decide_eq_true e3]), H7.noneL⟩
         · exact absurd (by rw [e1, lineC_of nx1_ok]) g21xxxx
       · exact absurd (by rw [e1, lineC_of nx1_ok]) g21xxx
     · exact absurd (by rw [e1]; rfl) g21xx
   · exact absurd (by rw [e1]; rfl) g21x
 · exact absurd (by exact e2) g21

end Go.Proofs.YtnjjjmpdikpjaabDoor


/- Texts of many lines, written and read, as plain laws. Conditions: those of each theorem. -/
namespace Go.Sx
set_option linter.unusedVariables false
set_option linter.unusedSimpArgs false
/-- The lines of the first operations. -/
def txtTo (ds : List RawD) : Nat → ByteArray
  | 0 => ⟨#[]⟩
  | k + 1 => txtTo ds k ++ ((lineC (ds.getD k rawD0)).1 ++ ⟨#[10]⟩)
def okTo (ds : List RawD) (k : Nat) : Prop := ∀ j, j < k → (lineC (ds.getD j rawD0)).2 = 0
/-- What a list of operations is as text. -/
def TextR (ds : List RawD) (t : ByteArray) (at_ e : Int) : Prop :=
  (at_ = 0 ∧ e = 0 ∧ t = txtTo ds ds.length ∧ okTo ds ds.length) ∨ ∃ k : Nat, k < ds.length ∧ at_ = ((k : Nat) : Int) + 1 ∧ e = (lineC (ds.getD k rawD0)).2 ∧ e ≠ 0 ∧ t = ⟨#[]⟩ ∧ okTo ds k
theorem TextR.det {ds : List RawD} {t u : ByteArray} {a b e f : Int} (h : TextR ds t a e) (k : TextR ds u b f) : t = u ∧ a = b ∧ e = f := by
  rcases h with ⟨rfl, rfl, rfl, h⟩ | ⟨i, hi, rfl, rfl, he, rfl, h⟩ <;> rcases k with ⟨rfl, rfl, rfl, k⟩ | ⟨j, hj, rfl, rfl, hf, rfl, k⟩
  · exact ⟨rfl, rfl, rfl⟩
  · exact absurd (h j hj) hf
  · exact absurd (k i hi) he
  · rcases Nat.lt_trichotomy i j with h1 | h1 | h1
    · exact absurd (k i h1) he
    · subst h1; exact ⟨rfl, rfl, rfl⟩
    · exact absurd (h j h1) hf
theorem okTo.succ {ds : List RawD} {k : Nat} (h : okTo ds k) (h1 : (lineC (ds.getD k rawD0)).2 = 0) : okTo ds (k + 1) := fun j hj => by
  by_cases e : j = k
  · rw [e]; exact h1
  · exact h j (by omega)
theorem bytes_app2 (bx : List Int) (s : ByteArray) : strOfNums (bx ++ bytesL s ++ [10]) = strOfNums bx ++ (s ++ ⟨#[10]⟩) := by
  rw [strOfNums_app, strOfNums_app, str_bytes, ByteArray.append_assoc]; rfl
theorem bytes_rng2 {bx : List Int} {s : ByteArray} {z : Int} (h : ∀ x, x ∈ bx → 0 ≤ x ∧ x ≤ 255) (hz : 0 ≤ z ∧ z ≤ 255) : ∀ x, x ∈ bx ++ bytesL s ++ [z] → 0 ≤ x ∧ x ≤ 255 := fun x hx => by
  rcases List.mem_append.1 hx with hx | hx
  · rcases List.mem_append.1 hx with hx | hx
    · exact h x hx
    · obtain ⟨j, _, rfl⟩ := List.mem_map.1 hx; exact bt_range s j
  · simp only [List.mem_singleton] at hx; subst hx; exact hz
theorem fresh_row {w w' : World} {G : List (List Chunk)} {c : Chunk} {α : Type} {T : Ty α} {a : Option Addr} {n k : Nat} {e : TypeId} {xs : List α} (h : UpG w [] w' G) (i : Nat) (hi : G[i]? = some [c, rowT T (.slice a n k) e xs]) : ∀ g, a = some g → w.heap.size ≤ g.block := fun g hg => by
  subst hg
  have hm : g.block ∈ ats G.flatten := mem_ats.2 ⟨rowT T (.slice (some g) n k) e xs, List.mem_flatten.2 ⟨_, List.mem_of_getElem? hi, by simp⟩, by simp [rowT, row, Value.ownBlock]⟩
  rcases Upd.fresh h _ hm with h1 | h1
  · simp [ats] at h1
  · exact h1
/-- What goes along while lines are compared. -/
def LinesI (ds : List RawD) (k : Nat) (t : ByteArray) (at_ e : Int) : Prop :=
  (at_ = 0 ∧ e = 0 ∧ t = txtTo ds k ∧ okTo ds k) ∨ ∃ j : Nat, j < k ∧ at_ = ((j : Nat) : Int) + 1 ∧ e = (lineC (ds.getD j rawD0)).2 ∧ e ≠ 0 ∧ okTo ds j
theorem LinesI.start (ds : List RawD) : LinesI ds 0 ⟨#[]⟩ 0 0 := .inl ⟨rfl, rfl, rfl, fun j hj => by omega⟩
theorem LinesI.good {ds : List RawD} {k : Nat} {t : ByteArray} {a e : Int} (h : LinesI ds k t a e) (h1 : (lineC (ds.getD k rawD0)).2 = 0) : LinesI ds (k + 1) (t ++ ((lineC (ds.getD k rawD0)).1 ++ ⟨#[10]⟩)) a e := by
  rcases h with ⟨rfl, rfl, rfl, h⟩ | ⟨j, hj, h⟩
  · exact .inl ⟨rfl, rfl, rfl, h.succ h1⟩
  · exact .inr ⟨j, by omega, h⟩
theorem LinesI.bad0 {ds : List RawD} {k : Nat} {t : ByteArray} {a e : Int} (h : LinesI ds k t a e) (h1 : (lineC (ds.getD k rawD0)).2 ≠ 0) (h2 : e = 0) : LinesI ds (k + 1) t (((k : Nat) : Int) + 1) (lineC (ds.getD k rawD0)).2 := by
  rcases h with ⟨_, _, _, h⟩ | ⟨j, _, _, _, he, _⟩
  · exact .inr ⟨k, by omega, rfl, rfl, h1, h⟩
  · exact absurd h2 he
theorem LinesI.bad1 {ds : List RawD} {k : Nat} {t : ByteArray} {a e : Int} (h : LinesI ds k t a e) (h2 : ¬ e = 0) : LinesI ds (k + 1) t a e := by
  rcases h with ⟨_, h1, _⟩ | ⟨j, hj, h⟩
  · exact absurd h1 h2
  · exact .inr ⟨j, by omega, h⟩
theorem LinesI.fin0 {ds : List RawD} {k : Nat} {t : ByteArray} {a e : Int} (h : LinesI ds k t a e) (hk : k = ds.length) (he : e ≠ 0) : TextR ds ⟨#[]⟩ a e := by
  subst hk
  rcases h with ⟨_, h1, _⟩ | ⟨j, hj, h1, h2, h3, h4⟩
  · exact absurd h1 he
  · exact .inr ⟨j, hj, h1, h2, h3, rfl, h4⟩
theorem LinesI.fin1 {ds : List RawD} {k : Nat} {t : ByteArray} {a e : Int} (h : LinesI ds k t a e) (hk : k = ds.length) (he : ¬ e ≠ 0) : TextR ds t a e := by
  subst hk
  rcases h with h | ⟨j, hj, h1, h2, h3, h4⟩
  · exact .inl h
  · exact absurd h3 he
/-- Operations that a law looks at. -/
structure FewOk (p : RawP) : Prop where
  nums : p.d.nums.length ≤ 6
  text : p.d.text.size ≤ 30
  cap : p.d.nums.length ≤ p.c
  ok : okL p.d.nums
theorem fewL_ok {l : List RawP} (hc : ∀ p, p ∈ l → p.d.nums.length ≤ p.c) (hk : ∀ p, p ∈ l → okL p.d.nums) : ∀ p, p ∈ fewL l → FewOk p := fun q hq => by
  obtain ⟨p, hp, rfl⟩ := List.mem_map.1 hq
  have hm := List.mem_of_mem_take hp
  have h1 := hc p hm
  have h2 := hk p hm
  refine ⟨?_, ?_, ?_, fun n hn => h2 n (List.mem_of_mem_take hn)⟩
  · show (p.d.nums.take _).length ≤ 6; rw [List.length_take]; omega
  · show (p.d.text.extract 0 _).size ≤ 30; rw [ByteArray.size_extract]; omega
  · show (p.d.nums.take _).length ≤ p.c; rw [List.length_take]; omega
theorem lineC_size {d : RawD} (h : okL d.nums) (h1 : d.nums.length ≤ 6) (h2 : d.text.size ≤ 30) : (lineC d).1.size ≤ 800 := by
  unfold lineC
  split
  · have h3 : (lineW d).length ≤ 8 := by unfold lineW tailW; split <;> simp <;> omega
    have h4 := joinW_size (l := lineW d) (m := 61) (by
      intro w hw
      unfold lineW at hw
      rcases List.mem_cons.1 hw with rfl | hw
      · have := name_size (d.nums.getD 0 0); omega
      · unfold tailW at hw
        rcases List.mem_append.1 hw with hw | hw
        · obtain ⟨n, hn, rfl⟩ := List.mem_map.1 hw
          have := numB_size20 (h n (List.mem_of_mem_drop hn)); omega
        · split at hw
          · simp at hw
          · simp only [List.mem_singleton] at hw; subst hw; rw [eqH_size]; omega)
    have h5 : (lineW d).length * 62 ≤ 8 * 62 := Nat.mul_le_mul_right _ h3
    show (joinW (lineW d)).size ≤ 800
    omega
  · exact Nat.zero_le _
theorem FewOk.size {p : RawP} (h : FewOk p) : (lineC p.d).1.size ≤ 800 := lineC_size h.ok h.nums h.text
theorem FewOk.lok {p : RawP} (h : FewOk p) (h0 : (lineC p.d).2 = 0) : Lok p.d (lineC p.d).1 := by
  obtain ⟨a, b⟩ := lineC_ok h0
  exact ⟨h.ok, a, b.symm⟩
theorem ReadS.back {p : RawP} {v : RawD} {e : Int} (hp : FewOk p) (h0 : (lineC p.d).2 = 0) (h : ReadS (lineC p.d).1 v e) : e = 0 ∧ v = p.d := by
  obtain ⟨a, b⟩ := h.det (.inl ⟨rfl, hp.lok h0⟩)
  exact ⟨b, a⟩
/-! ### Scripts -/
def skipB (w : ByteArray) : Bool := decide (w.size = 0) || decide (bt w 0 = 35)
def ScrOk : List ByteArray → List RawD → Prop
  | [], ds => ds = []
  | w :: L, ds => if skipB w = true then ScrOk L ds else ∃ d r, ds = d :: r ∧ ReadS w d 0 ∧ ScrOk L r
theorem ScrOk.skip : ∀ {L : List ByteArray} {ds : List RawD} {w : ByteArray}, ScrOk L ds → skipB w = true → ScrOk (L ++ [w]) ds
  | [], ds, w, h, hw => by simpa [ScrOk, hw] using h
  | x :: L, ds, w, h, hw => by
    simp only [List.cons_append, ScrOk] at h ⊢
    split
    · rename_i hx
      rw [if_pos hx] at h; exact h.skip hw
    · rename_i hx
      rw [if_neg hx] at h
      obtain ⟨d, r, e, h1, h2⟩ := h
      exact ⟨d, r, e, h1, h2.skip hw⟩
theorem ScrOk.add : ∀ {L : List ByteArray} {ds : List RawD} {w : ByteArray} {d : RawD}, ScrOk L ds → ¬ skipB w = true → ReadS w d 0 → ScrOk (L ++ [w]) (ds ++ [d])
  | [], ds, w, d, h, hw, hr => by
    simp only [ScrOk] at h
    subst h
    simp only [List.nil_append, ScrOk, if_neg hw]
    exact ⟨d, [], rfl, hr, rfl⟩
  | x :: L, ds, w, d, h, hw, hr => by
    simp only [List.cons_append, ScrOk] at h ⊢
    split
    · rename_i hx
      rw [if_pos hx] at h; exact h.add hw hr
    · rename_i hx
      rw [if_neg hx] at h
      obtain ⟨d', r, rfl, h1, h2⟩ := h
      exact ⟨d', r ++ [d], rfl, h1, h2.add hw hr⟩
theorem ScrOk.det : ∀ {L : List ByteArray} {a b : List RawD}, ScrOk L a → ScrOk L b → a = b
  | [], a, b, h, k => by simp only [ScrOk] at h k; rw [h, k]
  | x :: L, a, b, h, k => by
    simp only [ScrOk] at h k
    split at h
    · rename_i hx
      rw [if_pos hx] at k; exact h.det k
    · rename_i hx
      rw [if_neg hx] at k
      obtain ⟨d, r, rfl, h1, h2⟩ := h
      obtain ⟨d', r', rfl, k1, k2⟩ := k
      rw [(h1.det k1).1, h2.det k2]
/-- All lines that are read are operations. -/
theorem ScrOk.each : ∀ {L : List ByteArray} {ds : List RawD}, ScrOk L ds → ∀ w, w ∈ L → ¬ skipB w = true → ∃ d, ReadS w d 0
  | x :: L, ds, h, w, hw, hs => by
    simp only [ScrOk] at h
    split at h
    · rename_i hx
      rcases List.mem_cons.1 hw with rfl | hw
      · exact absurd hx hs
      · exact h.each w hw hs
    · obtain ⟨d, r, _, h1, h2⟩ := h
      rcases List.mem_cons.1 hw with rfl | hw
      · exact ⟨d, h1⟩
      · exact h2.each w hw hs
def ScrR (L : List ByteArray) (ds : List RawD) (at_ e : Int) : Prop :=
  (at_ = 0 ∧ e = 0 ∧ ScrOk L ds) ∨ ∃ (k : Nat) (r : List RawD), k < L.length ∧ ScrOk (L.take k) r ∧ ¬ skipB (L.getD k .empty) = true ∧ (∃ v, ReadS (L.getD k .empty) v e) ∧ e ≠ 0 ∧ at_ = ((k : Nat) : Int) + 1 ∧ ds = []
theorem scr_no {L : List ByteArray} {k : Nat} {e : Int} {S : List ByteArray} {ds : List RawD} (hk : L.getD k .empty ∈ S) (hs : ¬ skipB (L.getD k .empty) = true) (hr : ∃ v, ReadS (L.getD k .empty) v e) (he : e ≠ 0) (h : ScrOk S ds) : False := by
  obtain ⟨d, hd⟩ := h.each _ hk hs
  obtain ⟨v, hv⟩ := hr
  exact he (hv.det hd).2
theorem ScrR.det {L : List ByteArray} {a b : List RawD} {x y e f : Int} (h : ScrR L a x e) (k : ScrR L b y f) : a = b ∧ x = y ∧ e = f := by
  rcases h with ⟨rfl, rfl, h⟩ | ⟨i, r, hi, h1, h2, h3, h4, rfl, rfl⟩ <;> rcases k with ⟨rfl, rfl, k⟩ | ⟨j, q, hj, k1, k2, k3, k4, rfl, rfl⟩
  · exact ⟨h.det k, rfl, rfl⟩
  · exact (scr_no (getD_mem' hj) k2 k3 k4 h).elim
  · exact (scr_no (getD_mem' hi) h2 h3 h4 k).elim
  · have tk : ∀ {i j : Nat}, i < j → i < L.length → L.getD i .empty ∈ L.take j := fun {i j} h1 h2 => by
      have : (L.take j).getD i .empty = L.getD i .empty := by simp [List.getD_eq_getElem?_getD, h1]
      rw [← this]; exact getD_mem' (by rw [List.length_take]; omega)
    rcases Nat.lt_trichotomy i j with h9 | h9 | h9
    · exact (scr_no (tk h9 hi) h2 h3 h4 k1).elim
    · subst h9
      obtain ⟨v, hv⟩ := h3
      obtain ⟨u, hu⟩ := k3
      exact ⟨rfl, rfl, (hv.det hu).2⟩
    · exact (scr_no (tk h9 hj) k2 k3 k4 h1).elim
/-- What the document has while it cuts the text itself. -/
def RsI (s : ByteArray) (i f ln : Nat) (ds : List RawD) : Prop :=
  (i ≤ s.size ∧ f ≤ i ∧ ∃ o, cutTo 10 s i = (o, f) ∧ ln = o.length ∧ ScrOk o ds) ∨ (i = s.size + 1 ∧ ScrOk (cutAll 10 s) ds)
theorem RsI.start (s : ByteArray) : RsI s 0 0 0 [] := .inl ⟨Nat.zero_le _, Nat.le_refl _, [], rfl, rfl, rfl⟩
theorem RsI.here {s : ByteArray} {i f ln : Nat} {ds : List RawD} (h : RsI s i f ln ds) (hi : i ≤ s.size) : f ≤ i ∧ ∃ o, cutTo 10 s i = (o, f) ∧ ln = o.length ∧ ScrOk o ds := by
  rcases h with h | ⟨h, _⟩
  · exact h.2
  · omega
theorem RsI.on {s : ByteArray} {i f ln : Nat} {ds : List RawD} (h : RsI s i f ln ds) (hi : i < s.size) (hb : ¬ bt s i = 10) : RsI s (i + 1) f ln ds := by
  obtain ⟨h1, o, h2, h3, h4⟩ := h.here (by omega)
  exact .inl ⟨by omega, by omega, o, cutTo_no h2 hb, h3, h4⟩
theorem RsI.fin {s : ByteArray} {i f ln : Nat} {ds : List RawD} (h : RsI s i f ln ds) (hi : ¬ i ≤ s.size) : ScrR (cutAll 10 s) ds 0 0 := by
  rcases h with h | ⟨_, h⟩
  · exact absurd h.1 hi
  · exact .inl ⟨rfl, rfl, h⟩
end Go.Sx


/- The walks of functions, printed by wip/tools/gw.py. -/
namespace Go.Proofs.YtnjjjmpdikpjaabDoor
open Go Go.Sx
set_option linter.unusedVariables false
set_option linter.unusedSimpArgs false
set_option maxRecDepth 20000 in
theorem text_any (la : Option Addr) (l : List RawP) (lc : Nat) (w : World) (rl : RdT tyRawP w (.slice la l.length lc) l) (dl : inRaw.Rd w l) (lw : Laid w) (hfo : ∀ p, p ∈ l → FewOk p) (hll : l.length ≤ 12) :
   Calls Tryd.prog 13 #[.slice la l.length lc] w (Ret fun v w' => ∃ t : ByteArray, ∃ ta : Int, ∃ te : Int, v = .tuple #[.string t, .int .i64 ta, .int .i64 te] ∧ Upd w [] w' [] ∧ (TextR (rdsOf l) t ta te) ∧ (t.size ≤ 20000)) := by
 have le_rl := rl.le
 refine calls_of_W (args := [.slice la l.length lc]) Tryd.func13 rfl rfl rfl ?_
 have H0 : UpG w [] w [] := UpG.nil w
 show W _ _ _ _ [(0, _)] w
 refine sr (ag rfl (ag rfl (ag rfl (dc (W.seq (W.region (oo (d_alloc sz71 fun w1 u1 => ?_))))))))
 have H1 : UpG _ _ _ [[_]] := H0.new' u1
 refine dc (W.seq (W.seq (W.region (mv rfl (oo (d_lenS y33 rfl (mv rfl (dc (W.block ?_)))))))))
 have H2 : UpG w [] w1 [[blk w.heap.size #[.pointer none, .slice none (([] : List Int).length) 0] 71], [rowT (tyI .u8) (.slice none (([] : List Int).length) 0) 5 ([] : List Int)]] := H1.new' (Upd.nilRowT w1 (tyI .u8) 5)
 refine W.lp (B := [(11, _), (10, _), (5, _), (4, _), (3, _), (2, _)]) [12, 11, 10, 5, 4, 3, 2] (fun B R L m Γ' w' => ∃ k : Nat, ∃ pv : Value, ∃ ba : Option Addr, ∃ bx : List Int, ∃ bc : Nat, Γ' = (12, .int .i64 ((k : Nat) : Int)) :: B ∧ UpG w L w' ([blk w.heap.size #[pv, .slice ba bx.length bc] 71] :: [rowT (tyI .u8) (.slice ba bx.length bc) 5 bx] :: R) ∧ (k ≤ l.length) ∧ (pv = .pointer none ∨ pv = .pointer (some ⟨w.heap.size, 0, none⟩)) ∧ (strOfNums bx = txtTo (rdsOf l) k) ∧ (bx.length ≤ 801 * k) ∧ (∀ x, x ∈ bx → 0 ≤ x ∧ x ≤ 255) ∧ (okTo (rdsOf l) k) ∧ m = l.length - k) (l.length - 0) ⟨0, (.pointer none), none, ([] : List Int), 0, rfl, (H2.re rfl), (by omega), (by exact .inl rfl), (by rfl), (by simp), (by simp), (by exact fun j hj => by omega), rfl⟩ rfl ?_
 rintro m1 Γ1 w2 ⟨k, pv, ba, bx, bc, rfl, H3, hk, hpv, hbx, hbz, hbr, hok, rfl⟩
 refine sr (oo (d_cmp _ rfl rfl rfl (dc (W.seq ?_))))
 refine W.ite rfl (fun c63 => ?_) (fun c63 => ?_)
 · refine sc (W.seq (W.block (W.seq (W.region (mv rfl (oo (t_addrN k (T := tyRawP) rfl y33 sz25 rfl rfl (rl.at H3) rfl (by omega) (oo (t_loadN k rawP0 (T := tyRawP) (us := [_, _]) rfl y25 rfl sz25 rfl (rl.at H3) (by omega) rfl (oo (d_alloc sz25 fun w3 u2 => ?_)))))))))))
   have H4 : UpG _ _ _ [[_], [_], [_]] := H3.new' u2
   refine ag rfl (WL.op0 (d_storeAB (us := [_, _]) (cs' := #[_, _]) sz25 rfl rfl rfl rfl (H4.blk 2 rfl) rfl rfl fun w4 u3 => ?_))
   have H5 : UpG _ _ _ [[_], [_], [_]] := H4.on 2 rfl u3
   refine dc (W.seq ?_)
   have hq := hfo _ (getD_mem' (d := rawP0) (show k < l.length by omega))
   have hrg := rds_get l k
   have hq1 := hq.nums
   have hq2 := hq.text
   have hqs := hq.size
   refine W.region (oo (d_loadAB [_, _] y25 rfl sz25 rfl (H5.blk 2 rfl) rfl rfl (oo (d_call ok11 rfl (Ret.calls (line_any ((l.getD k rawP0).d) _ _ w4 (show RdT (tyI .i64) w4 (.slice ((l.getD k rawP0).a) (((l.getD k rawP0).d.nums).length) ((l.getD k rawP0).c)) ((l.getD k rawP0).d.nums) from (dl.at H5).get rawP0 k (by omega)) (lw.at H5) hq.cap hq.ok (by omega) (by omega)) fun _ w5 p1 => ?_)))))
   obtain ⟨rfl, u4⟩ := p1
   have H6 : UpG _ _ _ [[_], [_], [_]] := H5.call u4
   refine mv rfl (oo (d_extract rfl rfl (oo (d_extract rfl rfl (ag rfl (ag rfl (dc (W.seq (W.seq (W.region (mv rfl (oo (d_cmp _ rfl rfl rfl (dc ?_))))))))))))))
   refine W.ite rfl (fun c65 => ?_) (fun c65 => ?_)
   · refine sr (mv rfl (oo (d_add rfl rfl (by omega) (by omega) (mv rfl (ag rfl (ag rfl (ag rfl (dc (W.ret (X.then_ret (X.block_ret (X.then_ret (X.then_ret (X.block_ret (X.then_ret (X.ret3 rfl rfl rfl rfl ?_))))))))))))))))
     exact ⟨⟨#[]⟩, ((k : Nat) : Int) + 1, (lineC ((l.getD k rawP0).d)).2, rfl, H6.noneL, (.inr ⟨k, by rw [rds_len]; omega, rfl, by rw [hrg], by simpa using c65, rfl, hok⟩), (Nat.zero_le _)⟩
   · refine sc (W.seq ?_)
     have hl0 : (lineC (l.getD k rawP0).d).2 = 0 := by simpa using c65
     refine W.region (mv rfl ?_)
     have H7 : UpG _ _ _ [[_, _], [_]] := UpG.of (Upd.sel H6 (l := [0, 1, 2]) rfl rfl) rfl
     refine oo (d_call ok32 rfl (Ret.calls (writeString_any _ pv ba bx bc _ w5 (H7.hpOf 0 rfl)  hpv (by omega)) fun _ w6 p2 => ?_))
     obtain ⟨ba2_1, bc2_1, rfl, u5⟩ := p2
     have H8 : UpG _ _ _ [[_, _], [_]] := H7.on 0 rfl u5
     refine dc (W.region (oo (d_call ok33 rfl (Ret.calls (writeByte_any _ (.pointer (some ⟨w.heap.size, 0, none⟩)) ba2_1 (bx ++ bytesL ((lineC ((l.getD k rawP0).d)).1)) bc2_1 _ w6 (H8.hpOf 0 rfl)  (.inr rfl) (by rw [List.length_append, bytesL_len]; omega)) fun _ w7 p3 => ?_))))
     obtain ⟨ba2_2, bc2_2, rfl, u6⟩ := p3
     have H9 : UpG _ _ _ [[_, _], [_]] := H8.on 0 rfl u6
     refine WL.done (X.block_normal (X.then_code (W.region (oo (d_add rfl rfl (by omega) (by omega) (mv rfl (WL.done ?_)))))))
     exact X.nx [12, 11, 10, 5, 4, 3, 2] (l.length - (k + 1)) (by omega) ⟨k + 1, (.pointer (some ⟨w.heap.size, 0, none⟩)), ba2_2, (bx ++ bytesL ((lineC ((l.getD k rawP0).d)).1)) ++ [10], bc2_2, rfl, (H9.pm [0, 1] rfl rfl), (by omega), (by exact .inr rfl), (by rw [txtTo, ← hbx, hrg, bytes_app2]), (by rw [List.length_append, List.length_append, bytesL_len, List.length_singleton]; omega), (by exact bytes_rng2 hbr (by decide)), (by exact hok.succ (by rw [hrg]; exact hl0)), rfl⟩ rfl
 · refine W.exit (X.then_exit (X.then_exit (X.block_exit (X.then_code (W.seq (W.region ?_))))))
   have H10 : UpG _ _ _ [[_, _]] := UpG.of (Upd.sel H3 (l := [0, 1]) rfl rfl) rfl
   refine oo (d_call ok34 rfl (Ret.calls (builderString_any _ pv ba bx bc w2 (H10.hpOf 0 rfl)  hpv hbr w (Nat.le_refl _) H10.keep0 (fresh_row H10 0 rfl)) fun _ w8 p4 => ?_))
   obtain ⟨rfl, u7⟩ := p4
   have H11 : UpG _ _ _ [] := (show UpG _ _ _ [] from u7)
   refine ag rfl (ag rfl (ag rfl (dc (W.ret (X.ret3 rfl rfl rfl rfl ?_)))))
   exact ⟨strOfNums bx, 0, 0, rfl, H11.noneL, (by have e9 : k = (rdsOf l).length := (by rw [rds_len]; omega); rw [e9] at hbx hok; exact .inl ⟨rfl, rfl, hbx, hok⟩), (by rw [strOfNums_size]; omega)⟩
end Go.Proofs.YtnjjjmpdikpjaabDoor


/- The walks of functions, printed by wip/tools/gw.py. -/
namespace Go.Proofs.YtnjjjmpdikpjaabDoor
open Go Go.Sx
set_option linter.unusedVariables false
set_option linter.unusedSimpArgs false
set_option maxRecDepth 20000 in
theorem consoleLines_any (la : Option Addr) (l : List RawP) (lc : Nat) (w : World) (rl : RdT tyRawP w (.slice la l.length lc) l) (dl : inRaw.Rd w l) (lw : Laid w) (hcap : ∀ p, p ∈ l → p.d.nums.length ≤ p.c) (hokn : ∀ p, p ∈ l → okL p.d.nums) :
   Calls Tryd.prog 4 #[.slice la l.length lc] w (Ret fun v w' => v = .bool true ∧ Upd w [] w' []) := by
 have hfo := fewL_ok hcap hokn
 have hfl := fewL_len l
 have le_rl := rl.le
 refine calls_of_W (args := [.slice la l.length lc]) Tryd.func4 rfl rfl rfl ?_
 have H0 : UpG w [] w [] := UpG.nil w
 show W _ _ _ _ [(0, _)] w
 refine sr (ag rfl (dc (W.seq (W.seq (W.region (oo (d_call ok6 rfl (Ret.calls (awake_any  w  (lw.at H0)) fun _ w1 p1 => ?_))))))))
 obtain ⟨rfl, u1⟩ := p1
 have H1 : UpG _ _ _ [] := H0.call u1
 refine oo (d_notB rfl (dc (W.iff rfl (sc (W.seq (W.region (mv rfl (oo (d_call ok10 rfl (Ret.calls (few_any la l lc w1 (rl.at H1) (dl.at H1) hcap) fun _ w2 p2 => ?_))))))))))
 obtain ⟨a2_1, c2_1, rfl, u2⟩ := p2
 have H2 : UpG _ _ _ [[_]] := (H1.new' u2).re rfl
 refine ag rfl (dc (W.seq (W.region (ag rfl (dc (W.seq (W.region (ag rfl (ag rfl (dc (W.seq (W.seq (W.region (ag rfl (dc (W.block (W.lp (B := [(0, _), (2, _)]) [6, 5, 4, 3, 0, 2] (fun B R L m Γ' w' => ∃ k : Nat, ∃ t9 : ByteArray, ∃ a9 : Int, ∃ e9 : Int, Γ' = (6, .int .i64 ((k : Nat) : Int)) :: (5, .int .i64 e9) :: (4, .int .i64 a9) :: (3, .string t9) :: B ∧ UpG w L w' (R) ∧ (k ≤ (fewL l).length) ∧ (LinesI (rdsOf (fewL l)) k t9 a9 e9) ∧ (t9.size ≤ 801 * k) ∧ m = (fewL l).length - k) ((fewL l).length - 0) ⟨0, ⟨#[]⟩, 0, 0, rfl, H2, (by omega), (by exact LinesI.start _), (by decide), rfl⟩ rfl ?_)))))))))))))))))
 rintro m1 Γ1 w3 ⟨k, t9, a9, e9, rfl, H3, hk, hli, htz, rfl⟩
 refine W.seq (W.seq (W.region (mv rfl (mv rfl (oo (d_lenS y33 rfl (oo (d_cmp _ rfl rfl rfl (dc ?_)))))))))
 refine W.ite rfl (fun c41 => ?_) (fun c41 => ?_)
 · refine sc (W.seq (W.block (W.seq ?_)))
   have hq := hfo _ (getD_mem' (d := rawP0) (show k < (fewL l).length by omega))
   have hrg := rds_get (fewL l) k
   have hq1 := hq.nums
   have hq2 := hq.text
   have hqs := hq.size
   refine W.region (mv rfl (mv rfl (oo (t_addrN k (T := tyRawP) rfl y33 sz25 rfl rfl (H3.rdT 0 rfl) rfl (by omega) (oo (t_loadN k rawP0 (T := tyRawP) (us := [_, _]) rfl y25 rfl sz25 rfl (H3.rdT 0 rfl) (by omega) rfl (oo (d_call ok11 rfl (Ret.calls (line_any (((fewL l).getD k rawP0).d) _ _ w3 (show RdT (tyI .i64) w3 (.slice (((fewL l).getD k rawP0).a) ((((fewL l).getD k rawP0).d.nums).length) (((fewL l).getD k rawP0).c)) (((fewL l).getD k rawP0).d.nums) from (fewL_rd (dl.at H3)).get rawP0 k (by omega)) (lw.at H3) hq.cap hq.ok (by omega) (by omega)) fun _ w4 p3 => ?_)))))))))
   obtain ⟨rfl, u3⟩ := p3
   have H4 : UpG _ _ _ [[_]] := H3.call u3
   refine mv rfl (oo (d_extract rfl rfl (oo (d_extract rfl rfl (ag rfl (ag rfl (dc (W.seq (W.region (mv rfl (mv rfl (oo (t_addrN k (T := tyRawP) rfl y33 sz25 rfl rfl (H4.rdT 0 rfl) rfl (by omega) (oo (t_loadN k rawP0 (T := tyRawP) (us := [_, _]) rfl y25 rfl sz25 rfl (H4.rdT 0 rfl) (by omega) rfl (oo (d_call ok12 rfl (Ret.calls (refLine_any (((fewL l).getD k rawP0).d) _ _ w4 (show RdT (tyI .i64) w4 (.slice (((fewL l).getD k rawP0).a) ((((fewL l).getD k rawP0).d.nums).length) (((fewL l).getD k rawP0).c)) (((fewL l).getD k rawP0).d.nums) from (fewL_rd (dl.at H4)).get rawP0 k (by omega)) hq.ok (by omega) (by omega)) fun _ w5 p4 => ?_))))))))))))))))))
   obtain ⟨rfl, u4⟩ := p4
   have H5 : UpG _ _ _ [[_]] := H4.call u4
   refine mv rfl (oo (d_extract rfl rfl (oo (d_extract rfl rfl (ag rfl (ag rfl (dc (W.seq (W.seq (W.region (mv rfl (mv rfl (oo (d_strne rfl rfl (mv rfl ?_)))))))))))))))
   refine WL.part 45 rfl (fun g44 => ?_) (fun g44 => ?_)
   · exact absurd rfl g44
   · refine WL.opG rfl rfl rfl (d_move rfl (WL.opG rfl rfl rfl (d_move rfl (WL.opG rfl rfl rfl (d_cmp _ rfl rfl rfl (oo (d_pick rfl rfl (dc (W.pick [49, 48, 47, 46, 10, 7, 6, 5, 4, 3, 0, 2] (Γ' := [(49, _), (48, _), (47, _), (46, _), (10, _), (7, _), (6, _), (5, _), (4, _), (3, _), (0, _), (2, _)]) rfl ?_)))))))))
     refine W.ite rfl (fun c44 => ?_) (fun c44 => ?_)
     · exfalso; exact absurd rfl c44
     · refine sc (W.seq (W.seq (W.region (mv rfl (oo (d_cmp _ rfl rfl rfl (dc ?_)))))))
       refine W.ite rfl (fun c47 => ?_) (fun c47 => ?_)
       · refine W.seq (W.seq ?_)
         have hl1 : (lineC ((fewL l).getD k rawP0).d).2 ≠ 0 := by simpa using c47
         refine W.region (mv rfl (oo (d_cmp _ rfl rfl rfl (dc ?_))))
         refine W.ite rfl (fun c48 => ?_) (fun c48 => ?_)
         · refine W.region (mv rfl (oo (d_add rfl rfl (by omega) (by omega) (mv rfl (ag rfl (ag rfl (dc (W.exit (X.then_exit (X.block_exit (X.then_code (W.region (mv rfl (oo (d_add rfl rfl (by omega) (by omega) (ag rfl (WL.done ?_)))))))))))))))))
           exact X.nx [6, 5, 4, 3, 0, 2] ((fewL l).length - (k + 1)) (by omega) ⟨k + 1, t9, ((k : Nat) : Int) + 1, (lineC (((fewL l).getD k rawP0).d)).2, rfl, H5, (by omega), (by first | (rw [← hrg] at hl0; have h8 := hli.good hl0; rw [hrg] at h8; exact h8) | (rw [← hrg] at hl1; have h8 := hli.bad0 hl1 (by simpa using c48); rw [hrg] at h8; exact h8) | exact hli.bad1 (by simpa using c48)), (by first | omega | (rw [ByteArray.size_append, ByteArray.size_append, nl_size]; omega)), rfl⟩ rfl
         · refine sc (W.exit (X.then_exit (X.block_exit (X.then_code (W.region (mv rfl (oo (d_add rfl rfl (by omega) (by omega) (ag rfl (WL.done ?_))))))))))
           exact X.nx [6, 5, 4, 3, 0, 2] ((fewL l).length - (k + 1)) (by omega) ⟨k + 1, t9, a9, e9, rfl, H5, (by omega), (by first | (rw [← hrg] at hl0; have h8 := hli.good hl0; rw [hrg] at h8; exact h8) | (rw [← hrg] at hl1; have h8 := hli.bad0 hl1 (by simpa using c48); rw [hrg] at h8; exact h8) | exact hli.bad1 (by simpa using c48)), (by first | omega | (rw [ByteArray.size_append, ByteArray.size_append, nl_size]; omega)), rfl⟩ rfl
       · refine sc (W.seq ?_)
         have hl0 : (lineC ((fewL l).getD k rawP0).d).2 = 0 := by simpa using c47
         refine W.region (mv rfl (oo (d_call ok7 rfl (Ret.calls (read_any _ w5  (lw.at H5) (by omega)) fun _ w6 p5 => ?_))))
         obtain ⟨ra2_1, rc2_1, rd_1, re_1, rfl, u5, hr1, hb1⟩ := p5
         have H6 : UpG _ _ _ [[_], [_]] := (H5.new' u5).re rfl
         refine mv rfl (oo (d_extract rfl rfl (oo (d_extract rfl rfl (oo (d_alloc sz25 fun w7 u6 => ?_))))))
         have H7 : UpG _ _ _ [[_], [_], [_]] := H6.new' u6
         refine WL.op0 (d_storeAB (us := [_, _]) (cs' := #[_, _]) sz25 rfl rfl rfl rfl (H7.blk 2 rfl) rfl rfl fun w8 u7 => ?_)
         have H8 : UpG _ _ _ [[_], [_], [_]] := H7.on 2 rfl u7
         refine ag rfl (dc (W.seq (W.seq (W.regionD mixed (by kernel_rfl) fun hok1 w9 k1 => ?_))))
         have H9 : UpG _ _ _ [[_], [_], [_]] := H8.kept k1
         refine tm hok1 0 rfl rfl (tq hok1 1 rfl rfl (fun _ => d_cmp _ rfl rfl rfl ⟨rfl, rfl⟩) (tm hok1 2 rfl rfl ?_))
         refine WD.part 64 rfl (fun g54 => ?_) (fun g54 => ?_)
         · exact absurd (ReadS.back hq hl0 hr1).1 g54
         · refine tb hok1 3 (H9.blk 2 rfl) rfl rfl (fun _ hC => d_loadAB [_, _] y25 rfl sz25 rfl hC rfl rfl ⟨rfl, rfl⟩) (tm hok1 4 rfl rfl (tm hok1 5 rfl rfl (tr hok1 6 (H9.rdT 0 rfl) rfl rfl (fun _ hC => t_addrN k (T := tyRawP) rfl y33 sz25 rfl rfl hC rfl (by omega) ⟨rfl, rfl⟩) (tr hok1 7 (H9.rdT 0 rfl) rfl rfl (fun _ hC => t_loadN k rawP0 (T := tyRawP) (us := [_, _]) rfl y25 rfl sz25 rfl hC (by omega) rfl ⟨rfl, rfl⟩) (wo hok1 8 (lo [] rfl rfl (d_call ok9 rfl (Ret.calls (rawSame_any rd_1 ra2_1 _ (((fewL l).getD k rawP0).d) _ _ w9 (H9.rdT 1 rfl) (show RdT (tyI .i64) w9 (.slice (((fewL l).getD k rawP0).a) ((((fewL l).getD k rawP0).d.nums).length) (((fewL l).getD k rawP0).c)) (((fewL l).getD k rawP0).d.nums) from (fewL_rd (dl.at H9)).get rawP0 k (by omega)) ) fun _ w10 p6 => ?_))))))))
           obtain ⟨rfl, u8⟩ := p6
           have H10 : UpG _ _ _ [[_], [_], [_]] := H9.call u8
           refine ⟨trivial, (tq hok1 9 rfl rfl (fun _ => d_notB rfl ⟨rfl, rfl⟩) (tq hok1 10 rfl rfl (fun _ => d_pick rfl rfl ⟨rfl, rfl⟩) (WD.done hok1 rfl (X.then_code (W.pick [72, 71, 70, 69, 68, 67, 66, 65, 48, 47, 46, 7, 6, 5, 4, 3, 0, 2] (Γ' := [(72, _), (71, _), (70, _), (69, _), (68, _), (67, _), (66, _), (65, _), (48, _), (47, _), (46, _), (7, _), (6, _), (5, _), (4, _), (3, _), (0, _), (2, _)]) rfl ?_)))))⟩
           refine W.iteB rfl (fun c54 => ?_) (fun c54 => ?_)
           · exfalso; rw [(ReadS.back hq hl0 hr1).2] at c54; simp at c54
           · refine sc (W.region (mv rfl (mv rfl (oo (d_concat rfl rfl (by first | (rw [ByteArray.size_append, nl_size]; omega) | (rw [nl_size]; omega) | omega) (oo (d_concat rfl rfl (by first | (rw [ByteArray.size_append, nl_size]; omega) | (rw [nl_size]; omega) | omega) (ag rfl (WL.done (X.block_normal (X.then_code (W.region (mv rfl (oo (d_add rfl rfl (by omega) (by omega) (ag rfl (WL.done ?_)))))))))))))))))
             exact X.nx [6, 5, 4, 3, 0, 2] ((fewL l).length - (k + 1)) (by omega) ⟨k + 1, t9 ++ (((lineC (((fewL l).getD k rawP0).d)).1) ++ ⟨#[10]⟩), a9, e9, rfl, (H10.pm [0] rfl rfl), (by omega), (by first | (rw [← hrg] at hl0; have h8 := hli.good hl0; rw [hrg] at h8; exact h8) | (rw [← hrg] at hl1; have h8 := hli.bad0 hl1 (by simpa using c48); rw [hrg] at h8; exact h8) | exact hli.bad1 (by simpa using c48)), (by first | omega | (rw [ByteArray.size_append, ByteArray.size_append, nl_size]; omega)), rfl⟩ rfl
 · refine W.exit (X.then_exit (X.then_exit (X.block_exit (X.then_code ?_))))
   refine W.ct (B := [(5, _), (4, _), (0, _), (2, _)]) (R := [[_]]) [5, 4, 0, 2] 0 rfl H3 rfl (fun B R L Γ' w' => ∃ t8 : ByteArray, Γ' = (3, .string t8) :: B ∧ UpG w L w' (R) ∧ (TextR (rdsOf (fewL l)) t8 a9 e9)) ?_ ?_
   · refine sr (mv rfl (oo (d_cmp _ rfl rfl rfl (dc ?_))))
     refine W.ite rfl (fun c59 => ?_) (fun c59 => ?_)
     · refine W.region (ag rfl (WL.done ?_))
       exact X.cu [3, 5, 4, 0, 2] ⟨⟨#[]⟩, rfl, H3, (by exact hli.fin0 (by rw [rds_len]; omega) (by simpa using c59))⟩ rfl
     · refine W.skip ?_
       exact X.cu [3, 5, 4, 0, 2] ⟨t9, rfl, H3, (by first | exact hli.fin0 (by rw [rds_len]; omega) (by simpa using c59) | exact hli.fin1 (by rw [rds_len]; omega) (by simpa using c59))⟩ rfl
   rintro Γ2 w11 ⟨t8, rfl, H11, hfin⟩
   refine sr (mv rfl (oo (d_call ok13 rfl (Ret.calls (text_any a2_1 (fewL l) _ w11 (H11.rdT 0 rfl) (fewL_rd (dl.at H11)) (lw.at H11) hfo hfl) fun _ w12 p7 => ?_))))
   obtain ⟨t_1, ta_1, te_1, rfl, u9, ht1, hts1⟩ := p7
   have H12 : UpG _ _ _ [[_]] := H11.call u9
   refine mv rfl (oo (d_extract rfl rfl (oo (d_extract rfl rfl (oo (d_extract rfl rfl (ag rfl (ag rfl (ag rfl (dc (W.seq (W.region (mv rfl (mv rfl (oo (d_streq rfl rfl (mv rfl ?_)))))))))))))))))
   refine WL.part 88 rfl (fun g63 => ?_) (fun g63 => ?_)
   · refine WL.opG rfl rfl rfl (d_move rfl (WL.opG rfl rfl rfl (d_move rfl (WL.opG rfl rfl rfl (d_cmp _ rfl rfl rfl (oo (d_pick rfl rfl (mv rfl ?_))))))))
     refine WL.part 93 rfl (fun g63x => ?_) (fun g63x => ?_)
     · refine WL.opG rfl rfl rfl (d_move rfl (WL.opG rfl rfl rfl (d_move rfl (WL.opG rfl rfl rfl (d_cmp _ rfl rfl rfl (oo (d_pick rfl rfl (ag rfl (dc (W.ret (X.ret1 rfl rfl ?_)))))))))))
       exact ⟨(by rw [decide_eq_true (ht1.det hfin).2.2]), H12.noneL⟩
     · exact absurd (ht1.det hfin).2.1 g63x
   · exact absurd (ht1.det hfin).1 g63
end Go.Proofs.YtnjjjmpdikpjaabDoor


/- What reads as a datum is an element; a slice of such reads as a list; a row's end. -/
namespace Go.Sx
set_option linter.unusedVariables false
set_option linter.unusedSimpArgs false
open Go.ChangeShapes Go.WideShapes Go.ChangeAt Go.RowKit
section
variable {H : Type} {enc : TypeId × Value → H} {P : Program} {W : World} {α β : Type} {t e : TypeId}

/-- no part is of more bytes than a machine holds -/
def Wt (P : Program) (t : TypeId) (d : DataW H) : Prop := ∀ n ∈ d.weights P t, n ≤ reachBytes
theorem wt_arg {ts : List TypeId} {ds : List (DataW H)} (h : (DataW.weightsEach P ts ds).all (· ≤ reachBytes) = true) {j : Nat} {t : TypeId} {d : DataW H} (ht : ts[j]? = some t) (hd : ds[j]? = some d) : Wt P t d :=
  fun n hn => by simpa using List.all_eq_true.1 h n (DataW.weights_mem_each ht hd n hn)
theorem weights_mem_all {e : TypeId} {n : Nat} : ∀ {ds : List (DataW H)} {d : DataW H}, d ∈ ds → n ∈ d.weights P e → n ∈ DataW.weightsAll P e ds
  | d0 :: ds, d, hd, hn => by
    simp only [DataW.weightsAll, List.mem_append]
    rcases List.mem_cons.1 hd with rfl | h
    · exact .inl hn
    · exact .inr (weights_mem_all h hn)
/-- what reads as a datum is an element -/
def El (enc : TypeId × Value → H) (P : Program) (W : World) (t : TypeId) (T : Ty α) (inv : α → DataW H → Prop) : Prop :=
  ∀ fuel cs x, DataW.trod enc P W 0 (fun _ => true) true fuel t cs = some x → Wt P t x.1 → ∃ a, cs = T.enc a ∧ inv a x.1

theorem El.int {k : IntKind} (ht : P.underlying t = some (.int k)) : El enc P W t (tyI k) (fun n _ => (Lit.int k n).wf = true) := fun fuel cs x h _ => by
  obtain ⟨n, rfl, _, hw⟩ := DataW.trod_int ht h
  exact ⟨n, rfl, hw⟩
theorem El.bool (ht : P.underlying t = some .bool) : El enc P W t tyB (fun _ _ => True) := fun fuel cs x h _ => by
  obtain ⟨n, rfl, _⟩ := DataW.trod_bool ht h
  exact ⟨n, rfl, trivial⟩
theorem El.str (ht : P.underlying t = some .string) : El enc P W t tyS (fun s d => d = .lit (.string s.data.toList) ∧ s.size ≤ reachBytes) := fun fuel cs x h hw => by
  obtain ⟨n, rfl, rfl, _⟩ := DataW.trod_string ht h
  refine ⟨n, rfl, rfl, ?_⟩
  have := hw n.data.toList.length (by simp [DataW.weights])
  rw [Array.length_toList] at this; exact this
/-- a list, and its datum -/
def DSl (inv : α → DataW H → Prop) (xs : List α) (d : DataW H) : Prop :=
  (xs = [] ∧ d = .nil) ∨ ∃ (ds sp : List (DataW H)), d = .slice ds sp ∧ ds.length = xs.length ∧ ∀ (i : Nat) (a : α) (y : DataW H), xs[i]? = some a → ds[i]? = some y → inv a y
theorem DSl.get {inv : α → DataW H → Prop} {xs : List α} {d : DataW H} (h : DSl inv xs d) (i : Nat) (z : α) (hi : i < xs.length) : ∃ y, inv (xs.getD i z) y := by
  rcases h with ⟨rfl, _⟩ | ⟨ds, sp, _, hl, hd⟩
  · simp at hi
  · have h1 : i < ds.length := by omega
    exact ⟨ds[i], hd i _ _ (by simp [List.getD_eq_getElem?_getD, List.getElem?_eq_getElem hi]) (List.getElem?_eq_getElem h1)⟩

theorem DSl.mem {inv : α → DataW H → Prop} {xs : List α} {d : DataW H} (h : DSl inv xs d) {p : α} (hp : p ∈ xs) : ∃ y, inv p y := by
  obtain ⟨i, hi, rfl⟩ := List.mem_iff_getElem.1 hp
  obtain ⟨y, hy⟩ := h.get i xs[i] hi
  exact ⟨y, by simpa [List.getD_eq_getElem?_getD, List.getElem?_eq_getElem hi] using hy⟩
theorem choose_list {T : Ty α} {inv : α → DataW H → Prop} {n : Nat} {C : Nat → List Value} {D : Nat → DataW H} (h : ∀ i, i < n → ∃ a, C i = T.enc a ∧ inv a (D i)) :
    ∃ xs : List α, xs.length = n ∧ ∀ i a, xs[i]? = some a → C i = T.enc a ∧ inv a (D i) := by
  induction n with
  | zero => exact ⟨[], rfl, fun i a h => by simp at h⟩
  | succ n ih =>
    obtain ⟨xs, hl, hx⟩ := ih fun i hi => h i (by omega)
    obtain ⟨a, ha⟩ := h n (by omega)
    refine ⟨xs ++ [a], by simp [hl], fun i b hb => ?_⟩
    by_cases hi : i < xs.length
    · rw [List.getElem?_append_left hi] at hb; exact hx i b hb
    · have hi2 : i = n := by
        have := (List.getElem?_eq_some_iff.1 hb).1; simp [hl] at this; omega
      subst hi2
      rw [List.getElem?_append_right (by omega)] at hb
      simp [hl] at hb; subst hb; exact ha

theorem rd_of_cells {T : Ty α} {A : Addr} {n cap : Nat} {xs : List α} (hl : xs.length = n) (hn : n ≤ 9223372036854775807)
    (h : ∀ i a, xs[i]? = some a → W.cells? 0 (A.add (i * T.sz)) T.sz = some (T.enc a)) : RdT T W (.slice (some A) n cap) xs := by
  subst hl
  refine ⟨some A, cap, rfl, T.all_length xs, hn, fun j u hj => ⟨A, rfl, ?_⟩⟩
  have hlt : j < xs.length * T.sz := by rw [← T.all_length]; exact (List.getElem?_eq_some_iff.1 hj).1
  have hp := T.pos
  have hi : j / T.sz < xs.length := (Nat.div_lt_iff_lt_mul hp).2 hlt
  have hr : j % T.sz < T.sz := Nat.mod_lt _ hp
  have e1 : j / T.sz * T.sz + j % T.sz = j := by rw [Nat.mul_comm]; exact Nat.div_add_mod j T.sz
  have h1 := h (j / T.sz) xs[j / T.sz] (List.getElem?_eq_getElem hi)
  obtain ⟨_, _, hc⟩ := World.cells?_some h1
  have h2 := hc (j % T.sz) hr
  have h3 := T.all_at xs[j / T.sz] xs (j / T.sz) (j % T.sz) hi hr
  rw [e1, hj] at h3
  have h4 : xs.getD (j / T.sz) xs[j / T.sz] = xs[j / T.sz] := by simp [List.getD_eq_getElem?_getD, List.getElem?_eq_getElem hi]
  rw [h4] at h3
  rw [← e1, ← Addr.add_add, h2, h3]

theorem El.slice {T : Ty α} {inv : α → DataW H → Prop} {b : Nat} (ht : P.underlying t = some (.slice e)) (hc : P.cellsOf e = T.sz) (hby : P.bytesOf e = b) (he : El enc P W e T inv) :
    El enc P W t tyL (fun s d => ∃ xs, RdT T W (.slice s.a s.n s.c) xs ∧ (DSl inv xs d ∧ xs.length * b ≤ reachBytes ∧ xs.length ≤ s.c) ∧ s.n = xs.length) := fun fuel cs x h hw => by
  rcases Deep.open_slice ht h with ⟨rfl, rfl⟩ | ⟨a, len, cap, m, n, D, Pl, rfl, hb, hl, hm, hmm, rfl, hx⟩
  · exact ⟨⟨none, 0, 0⟩, rfl, [], RdT.nil W none 0, ⟨.inl ⟨rfl, rfl⟩, by simp, by simp⟩, rfl⟩
  · simp only [if_true] at hmm
    subst hmm
    have hch : ∀ i, i < len → ∃ cs', W.cells? 0 (a.add (i * P.cellsOf e)) (P.cellsOf e) = some cs' ∧ ∃ b, cs' = T.enc b ∧ inv b (D i) := fun i hi => by
      obtain ⟨cs', h1, h2⟩ := hx i (by omega)
      refine ⟨cs', h1, he _ _ _ h2 fun k hk => hw k ?_⟩
      simp only [DataW.weights, ht]
      refine List.mem_cons_of_mem _ (List.mem_append_left _ (weights_mem_all (List.mem_map.2 ⟨i, List.mem_range.2 hi, rfl⟩) hk))
    obtain ⟨xs, hxl, hxs⟩ := choose_list (T := T) (inv := fun b d => inv b d) (n := len) (C := fun i => (W.cells? 0 (a.add (i * P.cellsOf e)) (P.cellsOf e)).getD []) (D := D) (fun i hi => by
      obtain ⟨cs', h1, b, h2, h3⟩ := hch i hi
      exact ⟨b, by simp [h1, h2], h3⟩)
    refine ⟨⟨some a, len, _⟩, rfl, xs, rd_of_cells hxl (Nat.le_trans hl (Nat.le_trans hm (by decide))) (fun i b hb => ?_),  ⟨.inr ⟨_, _, rfl, by simp [hxl], fun i b y hb hy => ?_⟩, ?_, by rw [hxl]; exact hl⟩, hxl.symm⟩
    · have hi : i < len := by rw [← hxl]; exact (List.getElem?_eq_some_iff.1 hb).1
      obtain ⟨cs', h1, b', h2, h3⟩ := hch i hi
      have := (hxs i b hb).1
      rw [h1] at this
      simp only [Option.getD_some] at this
      rw [← hc, h1, this]
    · have hi : i < len := by rw [← hxl]; exact (List.getElem?_eq_some_iff.1 hb).1
      have := (hxs i b hb).2
      simp [hi] at hy; subst hy; exact this
    · have := hw ((((List.range len).map D).length + ((List.range (m - len)).map fun j => D (len + j)).length) * P.bytesOf e) (by simp [DataW.weights, ht])
      rw [hby] at this; simp only [List.length_map, List.length_range] at this
      rw [hxl]; exact Nat.le_trans (Nat.mul_le_mul_right b (by omega)) this

/-- a struct's field -/
theorem El.field {T : Ty α} {inv : α → DataW H → Prop} {n : Nat} {f : Field} {cs : List Value} {xs : List (DataW H × List MemPlace)} {i o c : Nat}
    (hf : DataW.trod enc P W 0 (fun _ => true) true n f.type ((cs.drop f.offset).take (P.cellsOf f.type)) = xs[i]?) (hi : i < xs.length) {t : TypeId} {fs : Array Field} (ht : P.underlying t = some (.struct fs)) (hfi : fs[i]? = some f) (hw : Wt P t (.agg (xs.map (·.1)))) (ho : f.offset = o) (hc : P.cellsOf f.type = c) (he : El enc P W f.type T inv) :
    ∃ a, (cs.drop o).take c = T.enc a ∧ ∃ y, (xs.map (·.1))[i]? = some y ∧ inv a y := by
  rw [List.getElem?_eq_getElem hi] at hf
  obtain ⟨a, h1, h2⟩ := he _ _ _ hf fun k hk => hw k (by
    simp only [DataW.weights, ht]
    exact DataW.weights_mem_each (j := i) (by simp [hfi]) (by simp [hi]) k hk)
  subst ho; subst hc
  exact ⟨a, h1, _, by simp [hi], h2⟩
theorem part_cons {cs l r : List Value} {o c : Nat} (h : (cs.drop o).take c = l) (h2 : cs.drop (o + c) = r) : cs.drop o = l ++ r := by
  rw [← h, ← h2, ← List.drop_drop, List.take_append_drop]
theorem part_end {cs : List Value} {n : Nat} (h : cs.length = n) : cs.drop n = [] := by rw [← h]; simp

theorem trod_slice_arg {T : Ty α} {inv : α → DataW H → Prop} {b : Nat} (he : El enc P W t tyL (fun s d => ∃ xs, RdT T W (.slice s.a s.n s.c) xs ∧ (DSl inv xs d ∧ xs.length * b ≤ reachBytes ∧ xs.length ≤ s.c) ∧ s.n = xs.length)) {a : Option Addr} {n c : Nat} {d : DataW H} {ps : List MemPlace}
    (h : DataW.Trod enc P W 0 (fun _ => true) true t (.slice a n c) d ps) (hw : Wt P t d) : ∃ xs, n = xs.length ∧ RdT T W (.slice a n c) xs ∧ DSl inv xs d ∧ xs.length * b ≤ reachBytes ∧ xs.length ≤ c := by
  obtain ⟨fuel, hf⟩ := h
  obtain ⟨s, h1, xs, h2, h3, h4⟩ := he _ _ _ hf hw
  have h5 : s.a = a ∧ s.n = n ∧ s.c = c := by
    simp only [Value.cells, tyL, List.toList_toArray] at h1
    simp at h1
    exact ⟨h1.1.symm, h1.2.1.symm, h1.2.2.symm⟩
  obtain ⟨rfl, rfl, rfl⟩ := h5
  exact ⟨xs, h4, h2, h3⟩
theorem below_of {w w' : World} (h : Upd w [] w' []) : RowKit.Below w.heap.size w w' := (Upd.keep h).below
end
end Go.Sx


/- Arrays of two, as what reads as a datum. -/
namespace Go.Sx
set_option linter.unusedVariables false
set_option linter.unusedSimpArgs false
open Go.ChangeShapes Go.WideShapes Go.ChangeAt Go.RowKit
section
variable {H : Type} {enc : TypeId × Value → H} {P : Program} {W : World} {α : Type} {t e : TypeId}
def tyTwo (T : Ty α) : Ty (α × α) := ⟨T.sz + T.sz, fun p => T.enc p.1 ++ T.enc p.2, fun p => by simp [T.len], fun p u h => by
  rcases List.mem_append.1 h with h | h
  · exact T.one _ u h
  · exact T.one _ u h, by have := T.pos; omega⟩
theorem El.two {T : Ty α} {inv : α → DataW H → Prop} {s : Nat} (ht : P.underlying t = some (.array 2 e)) (hc : P.cellsOf e = s) (hs : T.sz = s) (hct : P.cellsOf t = s + s) (he : El enc P W e T inv) :
    El enc P W t (tyTwo T) (fun p d => ∃ y0 y1, d = .agg [y0, y1] ∧ inv p.1 y0 ∧ inv p.2 y1) := fun fuel cs x h hw => by
  obtain ⟨xs, m, _, rfl, hl, hn, hf⟩ := DataW.trod_array ht h
  have e0 := hf 0 (by omega)
  have e1 := hf 1 (by omega)
  match xs, hn with
  | [x0, x1], _ =>
    have w0 : Wt P e x0.1 := fun n hn => hw n (by simp only [DataW.weights, ht]; exact weights_mem_all (d := x0.1) (by simp) hn)
    have w1 : Wt P e x1.1 := fun n hn => hw n (by simp only [DataW.weights, ht]; exact weights_mem_all (d := x1.1) (by simp) hn)
    obtain ⟨a0, h0, i0⟩ := he _ _ _ e0 w0
    obtain ⟨a1, h1, i1⟩ := he _ _ _ e1 w1
    refine ⟨(a0, a1), ?_, x0.1, x1.1, rfl, i0, i1⟩
    show cs = T.enc a0 ++ T.enc a1
    rw [← h0, ← h1, hc]
    rw [hct] at hl
    simp only [Nat.zero_mul, List.drop_zero, Nat.one_mul]
    have h3 : (cs.drop s).take s = cs.drop s := List.take_of_length_le (by simp; omega)
    rw [h3, List.take_append_drop]
end
end Go.Sx


/- Proved here: what the laid variables read as, a start that meets the condition, and the wrap that hands a call both the condition and the world's shape. Conditions: those of each theorem. -/
namespace Go.Proofs.YtnjjjmpdikpjaabDoor
open Go Go.Sx Go.ChangeShapes Go.WideShapes Go.ChangeAt Go.RowKit
set_option linter.unusedVariables false
def laid0 : List (String × DataW Unit) := [("math/bits.deBruijn32tab", Rows.laid_math_bits_deBruijn32tab), ("math/bits.deBruijn64tab", Rows.laid_math_bits_deBruijn64tab), ("internal/strconv.uint64pow10", Rows.laid_internal_strconv_uint64pow10), ("unicode/utf8.acceptRanges", Rows.laid_unicode_utf8_acceptRanges), ("strconv.ErrRange", Rows.laid_strconv_ErrRange), ("strconv.ErrSyntax", Rows.laid_strconv_ErrSyntax), ("unicode/utf8.first", Rows.laid_unicode_utf8_first)]
theorem own : ownKnob Tryd.prog.godebug = none := by kernel_rfl
theorem laidOut : laidOutB Tryd.prog = true := by kernel_rfl
theorem noHandle : (laid0.all fun x => x.2.handleName?.isNone) = true := by kernel_rfl
theorem door_met (os : Os) (args : Array Value) : laidMetH Tryd.prog laid0 ((World.laidAll Tryd.prog os laid0).forCall (fun _ _ => 0) ⟨#[], args, []⟩).memory := by
  rw [MakeChecks.laidMetH_plain _ _ _ noHandle]
  exact laidMet_laidAll _ (by kernel_rfl) (by kernel_rfl)
theorem door_shaped (os : Os) : (World.laidAll Tryd.prog os laid0).Shaped Tryd.prog := World.shaped_of_ZipB (by kernel_rfl) (by kernel_rfl)
theorem gPow : Tryd.prog.globalNamed "internal/strconv.uint64pow10" = some 3 := by kernel_rfl
theorem gSyn : Tryd.prog.globalNamed "strconv.ErrSyntax" = some 1 := by kernel_rfl
theorem gRng : Tryd.prog.globalNamed "strconv.ErrRange" = some 2 := by kernel_rfl
theorem err_cell {W : World} {n : String} {g : Nat} {nm : String} {d : DataW Unit} {r : List (String × DataW Unit)} (hg : Tryd.prog.globalNamed n = some g) (ht : (Tryd.prog.globals[g]?).map (·.type) = some 73) (h : laidMet Tryd.prog ((n, .iface nm d) :: r) W) : ∃ v, W.cell? ⟨g, 0, none⟩ = some v ∧ (v = .nilIface ∨ ∃ te pe, v = .iface te pe) := by
  obtain ⟨ps, ⟨g', t', cs, fuel, p, q, hg', ht', hvar, hd, _, _⟩, _⟩ := h
  obtain rfl := Option.some.inj (hg.symm.trans hg')
  obtain rfl := Option.some.inj (ht.symm.trans ht')
  obtain ⟨_, u, v, hcs, _⟩ := iface_of_trod Tryd.underlying73 hd
  have h0 : cs = #[.iface u v] := by apply Array.toList_inj.1; simpa using hcs
  subst h0
  exact ⟨_, World.var?_cell hg hvar 0, .inr ⟨_, _, rfl⟩⟩
theorem laid_of {W : World} (h : laidMetH Tryd.prog laid0 W) (hs : W.ShapedOpen Tryd.prog) : Laid W := by
  rw [MakeChecks.laidMetH_plain _ _ _ noHandle] at h
  have h3 : laidMet Tryd.prog (("internal/strconv.uint64pow10", Lib.tabData .u64 Lib.pow10Tab) :: laid0.drop 3) W := h.tail.tail
  have h5 : laidMet Tryd.prog (laid0.drop 4) W := h.tail.tail.tail.tail
  have h6 : laidMet Tryd.prog (laid0.drop 5) W := h5.tail
  exact ⟨Lib.tabIs_of_head gPow (by kernel_rfl) Tryd.underlying124 Tryd.underlying111 (by kernel_rfl) (by kernel_rfl) h3,
    cell_of_shapedOpen_int hs (t := 3) (zero := #[.int .i64 0]) (of_decide_eq_true (by kernel_rfl)) (by kernel_rfl) rfl (by kernel_rfl) (by kernel_rfl) Tryd.underlying3,
    err_cell gSyn (by kernel_rfl) h6, err_cell gRng (by kernel_rfl) h5⟩
/-- The wrap: the condition and the world's shape. -/
theorem handed_both {H : Type} {enc : TypeId × Value → H} {a : Assume} {C : Checked} {os : Os} {f : FuncId} {fn : Func} {s : ChangeSpec} {conds : List PathCond} {apart fresh handsOn again : Bool} {X : World → Array Value → Prop}
    (hX : ∀ (w w' : World) (args : Array Value), w.heap = w'.heap → X w args → X w' args)
    (own : ownKnob C.prog.godebug = none) (started : os.Started) (noInit : C.prog.inits.idxOf? f = none) (hfn : C.prog.funcs[f]? = some fn)
    (witness : ∃ (w : World) (tape : Tape) (i : Input), w.os = os ∧ (w.forCall tape i).Shaped C.prog ∧ i.vars = [] ∧ Input.okWide C.prog (w.forCall tape i) .any w.heap.size f i ∧
      ((s.pre enc C.prog fn conds apart (w.forCall tape i).memory i.args ∧ X (w.forCall tape i).memory i.args) ∧ sizedMet enc C.prog fn (OpenSpec.ofChange s) apart (w.forCall tape i).memory i.args) ∧ a.holds C.prog (lone (Frame.enter C.prog f i.args .normal) [] (w.forCall tape i)))
    (contract : ∀ (W : World) (base : Nat) (args : Array Value) (ds gs : List (DataW H)) (before : List MemPlace),
      (∀ (j : Nat) t v, fn.params[j]? = some t → args[j]? = some v → Value.okWide C.prog W .any base t v) →
      DataW.Whole enc C.prog fn.params.toList s.vars apart W args.toList ds gs before →
      (DataW.weightsEach C.prog (fn.params.toList ++ s.plain.varTypes C.prog) (ds ++ gs)).all (· ≤ reachBytes) = true → X W args → W.ShapedOpen C.prog →
      Calls C.prog f args W fun e W' => ∃ v, e = .returned v ∧ s.post enc C.prog fn apart fresh handsOn again W args v W') :
    ReturnsInHanded a C os f .any (fun w args => (s.pre enc C.prog fn conds apart w args ∧ X w args) ∧ sizedMet enc C.prog fn (OpenSpec.ofChange s) apart w args) (s.post enc C.prog fn apart fresh handsOn again) := by
  refine returnsInHanded_of_calls own started noInit witness ?_
  intro w tape i _ hsh _ hok hpre _
  obtain ⟨_, _, _, fn', hfn', _, _, _, _, hval⟩ := hok
  obtain rfl : fn' = fn := Option.some.inj (hfn'.symm.trans hfn)
  obtain ⟨⟨⟨ds, gs, before, hw, hc⟩, hx⟩, hz⟩ := hpre
  have hw' := DataW.Whole.of_heap (w' := w.forCall tape i) (by rfl) hw
  refine (contract (w.forCall tape i) w.heap.size i.args ds gs before hval hw' (hz.weights hw) (hX _ _ _ (by rfl) hx) hsh).mono fun e W' ⟨v, he, hp⟩ => ?_
  subst he
  exact ChangeSpec.post_blind hp
end Go.Proofs.YtnjjjmpdikpjaabDoor


/- Proved here: what operations that come in read as. Conditions: those of each theorem. -/
namespace Go.Proofs.YtnjjjmpdikpjaabDoor
open Go Go.Sx Go.ChangeShapes Go.WideShapes Go.ChangeAt Go.RowKit
set_option linter.unusedVariables false
theorem el25 {H : Type} {enc : TypeId × Value → H} {W : World} : El enc Tryd.prog W 25 tyRawS (fun a d => ∃ ys, d = .agg ys ∧ (∃ y, ys[0]? = some y ∧ ∃ xs, RdT (tyI .i64) W (.slice a.nums.a a.nums.n a.nums.c) xs ∧ (DSl (fun n _ => (Lit.int .i64 n).wf = true) xs y ∧ xs.length * 8 ≤ reachBytes ∧ xs.length ≤ a.nums.c) ∧ a.nums.n = xs.length) ∧ (∃ y, ys[1]? = some y ∧ y = .lit (.string a.text.data.toList) ∧ a.text.size ≤ reachBytes)) := fun fuel cs x h hw0 => by
  obtain ⟨xs, n, rfl, hx, hl, hn, hf⟩ := DataW.trod_struct Tryd.underlying25 h
  have hw : Wt Tryd.prog 25 (.agg (xs.map (·.1))) := by have h9 := hw0; rw [hx] at h9; exact h9
  obtain ⟨a0, e0, y0⟩ := El.field (o := 0) (c := 1) (hf 0 _ rfl) (by rw [hn]; decide) Tryd.underlying25 rfl hw rfl (by kernel_rfl) (El.slice (T := tyI .i64) (b := 8) Tryd.underlying23 (by kernel_rfl) (by kernel_rfl) (El.int Tryd.underlying3))
  obtain ⟨a1, e1, y1⟩ := El.field (o := 1) (c := 1) (hf 1 _ rfl) (by rw [hn]; decide) Tryd.underlying25 rfl hw rfl (by kernel_rfl) (El.str Tryd.underlying9)
  exact ⟨⟨a0, a1⟩, (part_cons (o := 0) (c := 1) e0 (part_cons (o := 1) (c := 1) e1 (part_end (hl.trans (by kernel_rfl))))), _, congrArg Prod.fst hx, y0, y1⟩
theorem wf_ok {n : Int} (h : (Lit.int .i64 n).wf = true) : i64ok n := by
  have hb : -9223372036854775808 ≤ n ∧ n ≤ 9223372036854775807 := by simpa [Lit.wf, IntKind.signed, IntKind.bits, IntKind.max, IntKind.min] using h
  exact hb
theorem el25P {H : Type} {enc : TypeId × Value → H} {W : World} : El enc Tryd.prog W 25 tyRawP (fun p _ => RdT (tyI .i64) W (.slice p.a p.d.nums.length p.c) p.d.nums ∧ p.d.nums.length ≤ p.c ∧ okL p.d.nums) := fun fuel cs x h hw => by
  obtain ⟨⟨⟨sa, sn, sc⟩, st⟩, e, ys, _, ⟨y0, _, xs, rd, ⟨hd, _, hc⟩, hn⟩, _⟩ := el25 fuel cs x h hw
  simp only at rd hn hc
  subst hn
  exact ⟨⟨sa, sc, ⟨xs, st⟩⟩, e, rd, hc, fun n hm => by obtain ⟨_, h9⟩ := hd.mem hm; exact wf_ok h9⟩
end Go.Proofs.YtnjjjmpdikpjaabDoor

