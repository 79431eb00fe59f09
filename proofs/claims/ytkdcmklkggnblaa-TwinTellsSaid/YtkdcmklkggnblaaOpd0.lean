/- Operations as numbers and bytes: plain data. -/
import Derived.Test.YtkdcmklkggnblaaSx8
namespace Go.Sx
set_option linter.unusedVariables false
set_option linter.unusedSimpArgs false
structure OpD where
  kind : Int
  slot : Int
  at_ : Int
  len : Int
  text : ByteArray
structure RawD where
  nums : List Int
  text : ByteArray
structure OpRow where
  name : ByteArray
  nums : ByteArray
  text : Bool
def tyOpRow : Ty OpRow := ⟨3, fun d => [.string d.name, .string d.nums, .bool d.text], fun _ => rfl, fun d u hu => by simp at hu; rcases hu with rfl | rfl | rfl <;> rfl, by omega⟩
def opRow0 : OpRow := ⟨.empty, .empty, false⟩
def opRows : List OpRow := [⟨⟨#[105, 110, 115, 101, 114, 116]⟩, ⟨#[65]⟩, true⟩, ⟨⟨#[100, 101, 108, 101, 116, 101]⟩, ⟨#[65, 76]⟩, false⟩, ⟨⟨#[114, 101, 112, 108, 97, 99, 101]⟩, ⟨#[65, 76]⟩, true⟩, ⟨⟨#[117, 110, 100, 111]⟩, ⟨#[]⟩, false⟩, ⟨⟨#[114, 101, 100, 111]⟩, ⟨#[]⟩, false⟩, ⟨⟨#[114, 101, 103, 105, 115, 116, 101, 114]⟩, ⟨#[]⟩, true⟩, ⟨⟨#[102, 111, 114, 103, 101, 116]⟩, ⟨#[83]⟩, false⟩, ⟨⟨#[99, 111, 117, 110, 116]⟩, ⟨#[83]⟩, false⟩, ⟨⟨#[110, 101, 120, 116]⟩, ⟨#[83, 65]⟩, false⟩, ⟨⟨#[112, 114, 101, 118]⟩, ⟨#[83, 65]⟩, false⟩, ⟨⟨#[108, 105, 115, 116]⟩, ⟨#[83, 65, 76]⟩, false⟩, ⟨⟨#[105, 115]⟩, ⟨#[83]⟩, false⟩, ⟨⟨#[101, 110, 100]⟩, ⟨#[83, 65]⟩, false⟩, ⟨⟨#[114, 101, 97, 100]⟩, ⟨#[65, 76]⟩, false⟩, ⟨⟨#[115, 105, 122, 101]⟩, ⟨#[]⟩, false⟩, ⟨⟨#[108, 105, 110, 101]⟩, ⟨#[65]⟩, false⟩, ⟨⟨#[111, 102, 102, 115, 101, 116]⟩, ⟨#[65, 76]⟩, false⟩, ⟨⟨#[115, 119, 97, 112]⟩, ⟨#[83]⟩, true⟩, ⟨⟨#[109, 97, 114, 107]⟩, ⟨#[65, 76]⟩, false⟩, ⟨⟨#[112, 108, 97, 99, 101]⟩, ⟨#[83]⟩, false⟩, ⟨⟨#[119, 97, 116, 99, 104]⟩, ⟨#[83, 76]⟩, false⟩, ⟨⟨#[109, 101, 114, 103, 101]⟩, ⟨#[65, 76]⟩, false⟩, ⟨⟨#[101, 118, 105, 99, 116]⟩, ⟨#[76]⟩, false⟩, ⟨⟨#[99, 111, 109, 112, 97, 99, 116]⟩, ⟨#[]⟩, false⟩]
def opNames : List ByteArray := [⟨#[105, 110, 115, 101, 114, 116]⟩, ⟨#[100, 101, 108, 101, 116, 101]⟩, ⟨#[114, 101, 112, 108, 97, 99, 101]⟩, ⟨#[117, 110, 100, 111]⟩, ⟨#[114, 101, 100, 111]⟩, ⟨#[114, 101, 103, 105, 115, 116, 101, 114]⟩, ⟨#[102, 111, 114, 103, 101, 116]⟩, ⟨#[99, 111, 117, 110, 116]⟩, ⟨#[110, 101, 120, 116]⟩, ⟨#[112, 114, 101, 118]⟩, ⟨#[108, 105, 115, 116]⟩, ⟨#[105, 115]⟩, ⟨#[101, 110, 100]⟩, ⟨#[114, 101, 97, 100]⟩, ⟨#[115, 105, 122, 101]⟩, ⟨#[108, 105, 110, 101]⟩, ⟨#[111, 102, 102, 115, 101, 116]⟩, ⟨#[115, 119, 97, 112]⟩, ⟨#[109, 97, 114, 107]⟩, ⟨#[112, 108, 97, 99, 101]⟩, ⟨#[119, 97, 116, 99, 104]⟩, ⟨#[109, 101, 114, 103, 101]⟩, ⟨#[101, 118, 105, 99, 116]⟩, ⟨#[99, 111, 109, 112, 97, 99, 116]⟩]
def okK (k : Int) : Bool := decide (1 ≤ k ∧ k ≤ 24)
def opRowAt (k : Int) : OpRow := if okK k = true then opRows.getD (k - 1).toNat opRow0 else ⟨⟨#[]⟩, ⟨#[]⟩, false⟩
def cS (k : Int) : Bool := decide (k = 7 ∨ k = 8 ∨ k = 9 ∨ k = 10 ∨ k = 11 ∨ k = 12 ∨ k = 13 ∨ k = 18 ∨ k = 20 ∨ k = 21)
def cA (k : Int) : Bool := decide (k = 1 ∨ k = 2 ∨ k = 3 ∨ k = 9 ∨ k = 10 ∨ k = 11 ∨ k = 13 ∨ k = 14 ∨ k = 16 ∨ k = 17 ∨ k = 19 ∨ k = 22)
def cL (k : Int) : Bool := decide (k = 2 ∨ k = 3 ∨ k = 11 ∨ k = 14 ∨ k = 17 ∨ k = 19 ∨ k = 21 ∨ k = 22 ∨ k = 23)
def cT (k : Int) : Bool := decide (k = 1 ∨ k = 3 ∨ k = 6 ∨ k = 18)
theorem okK_cases {k : Int} (h : okK k = true) : k = 1 ∨ k = 2 ∨ k = 3 ∨ k = 4 ∨ k = 5 ∨ k = 6 ∨ k = 7 ∨ k = 8 ∨ k = 9 ∨ k = 10 ∨ k = 11 ∨ k = 12 ∨ k = 13 ∨ k = 14 ∨ k = 15 ∨ k = 16 ∨ k = 17 ∨ k = 18 ∨ k = 19 ∨ k = 20 ∨ k = 21 ∨ k = 22 ∨ k = 23 ∨ k = 24 := by simp [okK] at h; omega
def pick3 (b : Bool) (p : Nat) (l : List Int) : Int := if b = true then l.getD p 0 else 0
def posA (k : Int) : Nat := 1 + (cS k).toNat
def posL (k : Int) : Nat := 1 + (cS k).toNat + (cA k).toNat
def tot (k : Int) : Nat := 1 + (cS k).toNat + (cA k).toNat + (cL k).toNat
def fS (k : Int) (l : List Int) : Int := pick3 (cS k) 1 l
def fA (k : Int) (l : List Int) : Int := pick3 (cA k) (posA k) l
def fL (k : Int) (l : List Int) : Int := pick3 (cL k) (posL k) l
def op0 : OpD := ⟨0, 0, 0, 0, ⟨#[]⟩⟩
def ofR (r : RawD) : OpD × Int :=
  if r.nums.length = 0 ∨ okK (r.nums.getD 0 0) = false then (op0, 9)
  else if tot (r.nums.getD 0 0) ≠ r.nums.length ∨ (0 < r.text.size ∧ cT (r.nums.getD 0 0) = false) then (op0, 3)
  else if 1048576 < r.text.size then (op0, 4)
  else (⟨r.nums.getD 0 0, fS (r.nums.getD 0 0) r.nums, fA (r.nums.getD 0 0) r.nums, fL (r.nums.getD 0 0) r.nums, r.text⟩, 0)
/-- the document's loop -/
structure TH (k : Int) (l : List Int) (i n : Nat) (v0 v1 v2 : Int) : Prop where
  n : n = 1 + (if 0 < i then (cS k).toNat else 0) + (if 1 < i then (cA k).toNat else 0) + (if 2 < i then (cL k).toNat else 0)
  v0 : v0 = if 0 < i then fS k l else 0
  v1 : v1 = if 1 < i then fA k l else 0
  v2 : v2 = if 2 < i then fL k l else 0
theorem TH.start (k : Int) (l : List Int) : TH k l 0 1 0 0 0 := ⟨by simp, by simp, by simp, by simp⟩
theorem getD_out (l : List Int) (n : Nat) (h : ¬ n < l.length) : l.getD n 0 = 0 := by simp [List.getD_eq_getElem?_getD, List.getElem?_eq_none (by omega : l.length ≤ n)]
section
variable {k : Int} {l : List Int} {n : Nat} {v0 v1 v2 : Int}
theorem TH.in0 (h : TH k l 0 n v0 v1 v2) (c : cS k = true) : TH k l 1 (n + 1) (l.getD n 0) v1 v2 := by
  obtain ⟨rfl, rfl, rfl, rfl⟩ := h; exact ⟨by simp [c], by simp [fS, pick3, c], by simp, by simp⟩
theorem TH.out0 (h : TH k l 0 n v0 v1 v2) (c : cS k = true) (o : ¬ n < l.length) : TH k l 1 (n + 1) v0 v1 v2 := by
  have e := getD_out l n o; have h2 := h.in0 c; rw [e] at h2; have := h.v0; simp at this; rw [this]; exact h2
theorem TH.no0 (h : TH k l 0 n v0 v1 v2) (c : ¬ cS k = true) : TH k l 1 n v0 v1 v2 := by
  obtain ⟨rfl, rfl, rfl, rfl⟩ := h; exact ⟨by simp [c], by simp [fS, pick3, c], by simp, by simp⟩
theorem TH.in1 (h : TH k l 1 n v0 v1 v2) (c : cA k = true) : TH k l 2 (n + 1) v0 (l.getD n 0) v2 := by
  obtain ⟨rfl, rfl, rfl, rfl⟩ := h; exact ⟨by simp [c], by simp, by simp [fA, posA, pick3, c], by simp⟩
theorem TH.out1 (h : TH k l 1 n v0 v1 v2) (c : cA k = true) (o : ¬ n < l.length) : TH k l 2 (n + 1) v0 v1 v2 := by
  have e := getD_out l n o; have h2 := h.in1 c; rw [e] at h2; have := h.v1; simp at this; rw [this]; exact h2
theorem TH.no1 (h : TH k l 1 n v0 v1 v2) (c : ¬ cA k = true) : TH k l 2 n v0 v1 v2 := by
  obtain ⟨rfl, rfl, rfl, rfl⟩ := h; exact ⟨by simp [c], by simp, by simp [fA, pick3, c], by simp⟩
theorem TH.in2 (h : TH k l 2 n v0 v1 v2) (c : cL k = true) : TH k l 3 (n + 1) v0 v1 (l.getD n 0) := by
  obtain ⟨rfl, rfl, rfl, rfl⟩ := h; exact ⟨by simp [c], by simp, by simp, by simp [fL, posL, pick3, c]⟩
theorem TH.out2 (h : TH k l 2 n v0 v1 v2) (c : cL k = true) (o : ¬ n < l.length) : TH k l 3 (n + 1) v0 v1 v2 := by
  have e := getD_out l n o; have h2 := h.in2 c; rw [e] at h2; have := h.v2; simp at this; rw [this]; exact h2
theorem TH.no2 (h : TH k l 2 n v0 v1 v2) (c : ¬ cL k = true) : TH k l 3 n v0 v1 v2 := by
  obtain ⟨rfl, rfl, rfl, rfl⟩ := h; exact ⟨by simp [c], by simp, by simp, by simp [fL, pick3, c]⟩
theorem TH.fin (h : TH k l 3 n v0 v1 v2) : n = tot k ∧ v0 = fS k l ∧ v1 = fA k l ∧ v2 = fL k l := by
  obtain ⟨rfl, rfl, rfl, rfl⟩ := h; simp [tot]
end
/-- the program's loop -/
def put (c v : Int) (p : Int × Int × Int) : Int × Int × Int := if c = 83 then (v, p.2.1, p.2.2) else if c = 65 then (p.1, v, p.2.2) else (p.1, p.2.1, v)
def fieldsTo (s : ByteArray) (l : List Int) : Nat → Int × Int × Int
  | 0 => (0, 0, 0)
  | j + 1 => put (bt s j) (l.getD (j + 1) 0) (fieldsTo s l j)
theorem row_text {k : Int} (h : okK k = true) : (opRowAt k).text = cT k := by
  rcases okK_cases h with rfl | rfl | rfl | rfl | rfl | rfl | rfl | rfl | rfl | rfl | rfl | rfl | rfl | rfl | rfl | rfl | rfl | rfl | rfl | rfl | rfl | rfl | rfl | rfl <;> rfl
theorem row_nums {k : Int} (h : okK k = true) : (opRowAt k).nums.size + 1 = tot k := by
  rcases okK_cases h with rfl | rfl | rfl | rfl | rfl | rfl | rfl | rfl | rfl | rfl | rfl | rfl | rfl | rfl | rfl | rfl | rfl | rfl | rfl | rfl | rfl | rfl | rfl | rfl <;> rfl
theorem row_fields {k : Int} (h : okK k = true) (l : List Int) : fieldsTo (opRowAt k).nums l (opRowAt k).nums.size = (fS k l, fA k l, fL k l) := by
  rcases okK_cases h with rfl | rfl | rfl | rfl | rfl | rfl | rfl | rfl | rfl | rfl | rfl | rfl | rfl | rfl | rfl | rfl | rfl | rfl | rfl | rfl | rfl | rfl | rfl | rfl <;> rfl
theorem size_pos {s : ByteArray} (h : s ≠ ⟨#[]⟩) : 0 < s.size := by
  rcases Nat.eq_zero_or_pos s.size with h0 | h0
  · exact absurd (ByteArray.size_eq_zero_iff.1 h0) h
  · exact h0
theorem size_nil {s : ByteArray} (h : ¬ 0 < s.size) : s = ⟨#[]⟩ := ByteArray.size_eq_zero_iff.1 (by omega)
theorem nil_size {s : ByteArray} (h : ¬ s ≠ ⟨#[]⟩) : ¬ 0 < s.size := by rw [Classical.not_not.1 h]; decide
def raw0 : RawD := ⟨[], ⟨#[]⟩⟩
def sel (b : Bool) (v : Int) : List Int := if b = true then [v] else []
def rawN (o : OpD) : List Int := [o.kind] ++ sel (cS o.kind) o.slot ++ sel (cA o.kind) o.at_ ++ sel (cL o.kind) o.len
def bad3 (o : OpD) : Prop := (cS o.kind = false ∧ o.slot ≠ 0) ∨ (cA o.kind = false ∧ o.at_ ≠ 0) ∨ (cL o.kind = false ∧ o.len ≠ 0) ∨ (cT o.kind = false ∧ 0 < o.text.size)
instance (o : OpD) : Decidable (bad3 o) := inferInstanceAs (Decidable (_ ∨ _))
def rawR (o : OpD) : RawD × Int :=
  if okK o.kind = false then (raw0, 9) else if bad3 o then (raw0, 3) else if 1048576 < o.text.size then (raw0, 4) else (⟨rawN o, o.text⟩, 0)
def getF (c : Int) (o : OpD) : Int := if c = 83 then o.slot else if c = 65 then o.at_ else o.len
def rawTo (s : ByteArray) (o : OpD) : Nat → List Int
  | 0 => [o.kind]
  | j + 1 => rawTo s o j ++ [getF (bt s j) o]
def zeroTo (s : ByteArray) (o : OpD) : Nat → Int × Int × Int
  | 0 => (o.slot, o.at_, o.len)
  | j + 1 => put (bt s j) 0 (zeroTo s o j)
theorem row_raw {k : Int} (h : okK k = true) (a b c : Int) (x : ByteArray) : rawTo (opRowAt k).nums ⟨k, a, b, c, x⟩ (opRowAt k).nums.size = rawN ⟨k, a, b, c, x⟩ := by
  rcases okK_cases h with rfl | rfl | rfl | rfl | rfl | rfl | rfl | rfl | rfl | rfl | rfl | rfl | rfl | rfl | rfl | rfl | rfl | rfl | rfl | rfl | rfl | rfl | rfl | rfl <;> rfl
theorem row_zero {k : Int} (h : okK k = true) (a b c : Int) (x : ByteArray) : zeroTo (opRowAt k).nums ⟨k, a, b, c, x⟩ (opRowAt k).nums.size = (if cS k = true then 0 else a, if cA k = true then 0 else b, if cL k = true then 0 else c) := by
  rcases okK_cases h with rfl | rfl | rfl | rfl | rfl | rfl | rfl | rfl | rfl | rfl | rfl | rfl | rfl | rfl | rfl | rfl | rfl | rfl | rfl | rfl | rfl | rfl | rfl | rfl <;> rfl
theorem rawTo_len (s : ByteArray) (o : OpD) (j : Nat) : (rawTo s o j).length = j + 1 := by
  induction j with
  | zero => rfl
  | succ j ih => simp [rawTo, ih]
theorem row_size {k : Int} (h : okK k = true) : (opRowAt k).nums.size ≤ 3 := by
  rcases okK_cases h with rfl | rfl | rfl | rfl | rfl | rfl | rfl | rfl | rfl | rfl | rfl | rfl | rfl | rfl | rfl | rfl | rfl | rfl | rfl | rfl | rfl | rfl | rfl | rfl <;> decide
theorem rest_bad {o : OpD} {a b c : Int} {x : ByteArray} (ha : a = if cS o.kind = true then 0 else o.slot) (hb : b = if cA o.kind = true then 0 else o.at_) (hc : c = if cL o.kind = true then 0 else o.len) (hx : x = if cT o.kind = true then ⟨#[]⟩ else o.text) :
    (!(decide (o.kind = o.kind) && (decide (a = 0) && (decide (b = 0) && (decide (c = 0) && (decide (x = ⟨#[]⟩))))))) = decide (bad3 o) := by
  have ht : (x = ⟨#[]⟩) ↔ ¬ (cT o.kind = false ∧ 0 < o.text.size) := by
    rw [hx]
    cases h : cT o.kind
    · simp only [Bool.false_eq_true, if_false, true_and]
      exact ⟨fun e => by rw [e]; decide, fun e => size_nil e⟩
    · simp
  have h1 : (a = 0) ↔ ¬ (cS o.kind = false ∧ o.slot ≠ 0) := by rw [ha]; cases h : cS o.kind <;> simp
  have h2 : (b = 0) ↔ ¬ (cA o.kind = false ∧ o.at_ ≠ 0) := by rw [hb]; cases h : cA o.kind <;> simp
  have h3 : (c = 0) ↔ ¬ (cL o.kind = false ∧ o.len ≠ 0) := by rw [hc]; cases h : cL o.kind <;> simp
  have e : (decide (o.kind = o.kind) && (decide (a = 0) && (decide (b = 0) && (decide (c = 0) && (decide (x = ⟨#[]⟩)))))) = decide (¬ bad3 o) := by
    rw [Bool.eq_iff_iff]
    simp only [Bool.and_eq_true, decide_eq_true_eq, h1, h2, h3, ht, bad3, true_and, not_or]
  rw [e]; simp
/-- the document's loop -/
structure RH (o : OpD) (i : Nat) (l : List Int) : Prop where
  l : l = [o.kind] ++ (if 0 < i then sel (cS o.kind) o.slot else []) ++ (if 1 < i then sel (cA o.kind) o.at_ else []) ++ (if 2 < i then sel (cL o.kind) o.len else [])
  s : 0 < i → ¬ (cS o.kind = false ∧ o.slot ≠ 0)
  a : 1 < i → ¬ (cA o.kind = false ∧ o.at_ ≠ 0)
  n : 2 < i → ¬ (cL o.kind = false ∧ o.len ≠ 0)
section
variable {o : OpD} {l : List Int}
theorem RH.start (o : OpD) : RH o 0 [o.kind] := ⟨by simp, by simp, by simp, by simp⟩
theorem RH.len {i : Nat} (h : RH o i l) : l.length ≤ 4 := by rw [h.l]; simp only [sel]; split <;> split <;> split <;> (try split) <;> (try split) <;> (try split) <;> simp
theorem RH.in0 (h : RH o 0 l) (c : cS o.kind = true) : RH o 1 (l ++ [o.slot]) := by
  obtain ⟨rfl, _, _, _⟩ := h; exact ⟨by simp [sel, c], by simp [c], by simp, by simp⟩
theorem RH.no0 (h : RH o 0 l) (c : ¬ cS o.kind = true) (z : ¬ o.slot ≠ 0) : RH o 1 l := by
  obtain ⟨rfl, _, _, _⟩ := h; exact ⟨by simp [sel, c], by simp at z; simp [z], by simp, by simp⟩
theorem RH.in1 (h : RH o 1 l) (c : cA o.kind = true) : RH o 2 (l ++ [o.at_]) := by
  obtain ⟨rfl, s, _, _⟩ := h; exact ⟨by simp [sel, c], fun _ => s (by simp), by simp [c], by simp⟩
theorem RH.no1 (h : RH o 1 l) (c : ¬ cA o.kind = true) (z : ¬ o.at_ ≠ 0) : RH o 2 l := by
  obtain ⟨rfl, s, _, _⟩ := h; exact ⟨by simp [sel, c], fun _ => s (by simp), by simp at z; simp [z], by simp⟩
theorem RH.in2 (h : RH o 2 l) (c : cL o.kind = true) : RH o 3 (l ++ [o.len]) := by
  obtain ⟨rfl, s, a, _⟩ := h; exact ⟨by simp [sel, c], fun _ => s (by simp), fun _ => a (by simp), by simp [c]⟩
theorem RH.no2 (h : RH o 2 l) (c : ¬ cL o.kind = true) (z : ¬ o.len ≠ 0) : RH o 3 l := by
  obtain ⟨rfl, s, a, _⟩ := h; exact ⟨by simp [sel, c], fun _ => s (by simp), fun _ => a (by simp), by simp at z; simp [z]⟩
theorem RH.fin (h : RH o 3 l) : l = rawN o := by obtain ⟨rfl, _, _, _⟩ := h; simp [rawN]
end
theorem ofR_fst {r : RawD} (h : (ofR r).2 = 0) : (rawR (ofR r).1) = (⟨r.nums, r.text⟩, 0) := by
  unfold ofR at h ⊢
  split at h
  · simp at h
  split at h
  · simp at h
  split at h
  · simp at h
  rename_i h1 h2 h3
  rw [if_neg h1, if_neg h2, if_neg h3]
  have hk : okK (r.nums.getD 0 0) = true := by
    rcases hb : okK (r.nums.getD 0 0) with _ | _
    · exact absurd (.inr hb) h1
    · rfl
  have hl : tot (r.nums.getD 0 0) = r.nums.length := by
    rcases Nat.decEq (tot (r.nums.getD 0 0)) r.nums.length with c | c
    · exact absurd (.inl c) h2
    · exact c
  have ht : ¬ (cT (r.nums.getD 0 0) = false ∧ 0 < r.text.size) := fun c => h2 (.inr ⟨c.2, c.1⟩)
  generalize hkk : r.nums.getD 0 0 = k at *
  obtain ⟨l, x⟩ := r
  simp only at *
  have hb : ¬ bad3 ⟨k, fS k l, fA k l, fL k l, x⟩ := by
    simp only [bad3]
    rintro (⟨c, d⟩ | ⟨c, d⟩ | ⟨c, d⟩ | c)
    · exact d (by simp [fS, pick3, c])
    · exact d (by simp [fA, pick3, c])
    · exact d (by simp [fL, pick3, c])
    · exact ht c
  have hn : rawN ⟨k, fS k l, fA k l, fL k l, x⟩ = l := by
    simp only [rawN]
    clear hb ht h1 h2 h3 h
    rcases okK_cases hk with rfl | rfl | rfl | rfl | rfl | rfl | rfl | rfl | rfl | rfl | rfl | rfl | rfl | rfl | rfl | rfl | rfl | rfl | rfl | rfl | rfl | rfl | rfl | rfl <;>
    (have hl' := hl
     simp [tot, cS, cA, cL, Bool.toNat] at hl'
     rcases l with _ | ⟨a, _ | ⟨b, _ | ⟨c, _ | ⟨d, _ | ⟨e, l⟩⟩⟩⟩⟩ <;> simp at hl' <;> simp at hkk <;> subst hkk <;> rfl)
  unfold rawR
  rw [if_neg (by rw [hk]; simp), if_neg hb, if_neg h3, hn]
theorem rawR_fst {o : OpD} (h : (rawR o).2 = 0) : ofR (rawR o).1 = (o, 0) := by
  unfold rawR at h ⊢
  split at h
  · simp at h
  split at h
  · simp at h
  split at h
  · simp at h
  rename_i h1 h2 h3
  rw [if_neg h1, if_neg h2, if_neg h3]
  have hk : okK o.kind = true := by simpa using h1
  obtain ⟨k, a, b, c, x⟩ := o
  simp only [bad3, not_or] at h2
  obtain ⟨b1, b2, b3, b4⟩ := h2
  simp only at *
  have h0 : (rawN ⟨k, a, b, c, x⟩).getD 0 0 = k := rfl
  have hl : tot k = (rawN ⟨k, a, b, c, x⟩).length := by
    simp only [rawN, tot, sel]; cases cS k <;> cases cA k <;> cases cL k <;> rfl
  have f1 : fS k (rawN ⟨k, a, b, c, x⟩) = a := by
    simp only [fS, pick3]
    cases hs : cS k
    · simp [hs] at b1 ⊢; exact b1.symm
    · simp [rawN, sel, hs]
  have f2 : fA k (rawN ⟨k, a, b, c, x⟩) = b := by
    simp only [fA, pick3, posA]
    cases hs : cS k <;> cases ha : cA k
    · simp [ha] at b2 ⊢; exact b2.symm
    · simp [rawN, sel, hs, ha]
    · simp [ha] at b2 ⊢; exact b2.symm
    · simp [rawN, sel, hs, ha]
  have f3 : fL k (rawN ⟨k, a, b, c, x⟩) = c := by
    simp only [fL, pick3, posL]
    cases hs : cS k <;> cases ha : cA k <;> cases hc : cL k
    all_goals first
      | (simp [hc] at b3 ⊢; exact b3.symm)
      | (simp [rawN, sel, hs, ha, hc])
  unfold ofR
  simp only [h0]
  rw [if_neg (by rw [hk]; simp [rawN]), if_neg (by rintro (q | q); exact q hl; exact b4 ⟨q.2, q.1⟩), if_neg h3, f1, f2, f3]
/-! names -/
theorem name_at (i : Nat) (hi : i < 24) : opNames.getD i .empty = (opRows.getD i opRow0).name := by
  rcases (by omega : i = 0 ∨ i = 1 ∨ i = 2 ∨ i = 3 ∨ i = 4 ∨ i = 5 ∨ i = 6 ∨ i = 7 ∨ i = 8 ∨ i = 9 ∨ i = 10 ∨ i = 11 ∨ i = 12 ∨ i = 13 ∨ i = 14 ∨ i = 15 ∨ i = 16 ∨ i = 17 ∨ i = 18 ∨ i = 19 ∨ i = 20 ∨ i = 21 ∨ i = 22 ∨ i = 23) with rfl | rfl | rfl | rfl | rfl | rfl | rfl | rfl | rfl | rfl | rfl | rfl | rfl | rfl | rfl | rfl | rfl | rfl | rfl | rfl | rfl | rfl | rfl | rfl <;> rfl
def lastTo (x : ByteArray) : Nat → Nat
  | 0 => 0
  | i + 1 => if opNames.getD i .empty = x then i + 1 else lastTo x i
theorem last_of {x : ByteArray} {j : Nat} (hj : j < 24) (h : opNames.getD j .empty = x) : lastTo x 24 = j + 1 := by
  subst h
  rcases (by omega : j = 0 ∨ j = 1 ∨ j = 2 ∨ j = 3 ∨ j = 4 ∨ j = 5 ∨ j = 6 ∨ j = 7 ∨ j = 8 ∨ j = 9 ∨ j = 10 ∨ j = 11 ∨ j = 12 ∨ j = 13 ∨ j = 14 ∨ j = 15 ∨ j = 16 ∨ j = 17 ∨ j = 18 ∨ j = 19 ∨ j = 20 ∨ j = 21 ∨ j = 22 ∨ j = 23) with rfl | rfl | rfl | rfl | rfl | rfl | rfl | rfl | rfl | rfl | rfl | rfl | rfl | rfl | rfl | rfl | rfl | rfl | rfl | rfl | rfl | rfl | rfl | rfl <;> decide
theorem row_name {k : Int} (h : 1 ≤ k ∧ k ≤ 24) : (opRowAt k).name = opNames.getD (k - 1).toNat .empty := by
  rcases okK_cases (by simp [okK]; omega) with rfl | rfl | rfl | rfl | rfl | rfl | rfl | rfl | rfl | rfl | rfl | rfl | rfl | rfl | rfl | rfl | rfl | rfl | rfl | rfl | rfl | rfl | rfl | rfl <;> rfl
theorem row_noname {k : Int} (h : ¬ (1 ≤ k ∧ k ≤ 24)) : (opRowAt k).name = ⟨#[]⟩ := by
  have : okK k = false := by simp [okK]; omega
  simp [opRowAt, this]
theorem last_row {k : Int} (h : (opRowAt k).name ≠ ⟨#[]⟩) : ((lastTo (opRowAt k).name 24 : Nat) : Int) = k := by
  have hk : 1 ≤ k ∧ k ≤ 24 := by
    rcases Classical.em (1 ≤ k ∧ k ≤ 24) with c | c
    · exact c
    · exact absurd (row_noname c) h
  rw [last_of (by omega) (row_name hk).symm]; omega
theorem take_sameI {a b : List Int} {k : Nat} (h : a.take k = b.take k) (ha : k < a.length) (hb : k < b.length) (hx : a.getD k 0 = b.getD k 0) : a.take (k + 1) = b.take (k + 1) := by
  rw [List.take_add_one, List.take_add_one, h, List.getElem?_eq_getElem ha, List.getElem?_eq_getElem hb]
  simp [List.getD_eq_getElem?_getD, List.getElem?_eq_getElem ha, List.getElem?_eq_getElem hb] at hx
  rw [hx]
theorem same_takeI {a b : List Int} {k : Nat} (h : a.take k = b.take k) (ha : a.length ≤ k) (hb : b.length ≤ k) : a = b := by
  rwa [List.take_of_length_le ha, List.take_of_length_le hb] at h
structure RawS where
  nums : Sl
  text : ByteArray
def tyRawS : Ty RawS := ⟨2, fun d => [.slice d.nums.a d.nums.n d.nums.c, .string d.text], fun _ => rfl, fun d u hu => by simp at hu; rcases hu with rfl | rfl <;> rfl, by omega⟩
def tyOpD : Ty OpD := ⟨5, fun d => [.int .i64 d.kind, .int .i64 d.slot, .int .i64 d.at_, .int .i64 d.len, .string d.text], fun _ => rfl, fun d u hu => by simp at hu; rcases hu with rfl | rfl | rfl | rfl | rfl <;> rfl, by omega⟩
def opD0 : OpD := ⟨0, 0, 0, 0, .empty⟩
end Go.Sx
