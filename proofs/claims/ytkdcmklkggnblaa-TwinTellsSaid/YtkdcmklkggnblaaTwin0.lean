/- Scripts as numbers and bytes: plain data. -/
import Derived.Test.YtkdcmklkggnblaaSx10
import Derived.Test.YtkdcmklkggnblaaOpd0
namespace Go.Sx
set_option linter.unusedVariables false
set_option linter.unusedSimpArgs false
structure RawP where
  a : Option Addr
  c : Nat
  d : RawD
def tyRawP : Ty RawP := ⟨2, fun p => [.slice p.a p.d.nums.length p.c, .string p.d.text], fun _ => rfl, fun d u hu => by simp at hu; rcases hu with rfl | rfl <;> rfl, by omega⟩
def rawP0 : RawP := ⟨none, 0, ⟨[], .empty⟩⟩
def rawD0 : RawD := ⟨[], .empty⟩
instance : DecidableEq RawD := fun a b => decidable_of_iff (a.nums = b.nums ∧ a.text = b.text) ⟨fun h => by cases a; cases b; simp only at h; rw [h.1, h.2], fun h => by rw [h]; exact ⟨rfl, rfl⟩⟩
def inRaw : Inn RawP Int := ⟨tyI .i64, 3, RawP.a, RawP.c, fun p => p.d.nums⟩
def aboutB (k : Int) : Bool := decide (k = 23 ∨ k = 24)
def keptB (r : RawD) : Bool := decide ((ofR r).2 = 0) && aboutB (ofR r).1.kind
def extraD (bs : List Int) (i : Nat) : List RawD := if i < bs.length then (if 0 < bs.getD i 0 then [⟨[23, bs.getD i 0], ⟨#[]⟩⟩] else if bs.getD i 0 < 0 then [⟨[24], ⟨#[]⟩⟩] else []) else []
def mixD (ds : List RawD) (bs : List Int) : Nat → List RawD
  | 0 => []
  | i + 1 => mixD ds bs i ++ [ds.getD i rawD0] ++ extraD bs i
def rdsOf (ps : List RawP) : List RawD := ps.map RawP.d
theorem rds_get (ps : List RawP) (k : Nat) : (rdsOf ps).getD k rawD0 = (ps.getD k rawP0).d := (getD_map' RawP.d ps rawP0 k).symm
theorem rds_len (ps : List RawP) : (rdsOf ps).length = ps.length := by simp [rdsOf]
theorem rds_app (a b : List RawP) : rdsOf (a ++ b) = rdsOf a ++ rdsOf b := by simp [rdsOf]
theorem mixD_len (ds : List RawD) (bs : List Int) (n : Nat) : (mixD ds bs n).length ≤ 2 * n := by
  induction n with
  | zero => simp [mixD]
  | succ n ih => simp only [mixD, extraD, List.length_append, List.length_singleton]; split <;> (try split) <;> (try split) <;> simp <;> omega
theorem take_sameR {a b : List RawP} {k : Nat} (h : (rdsOf a).take k = (rdsOf b).take k) (ha : k < a.length) (hb : k < b.length) (hx : (a.getD k rawP0).d.nums = (b.getD k rawP0).d.nums ∧ (a.getD k rawP0).d.text = (b.getD k rawP0).d.text) : (rdsOf a).take (k + 1) = (rdsOf b).take (k + 1) := by
  have e : (a.getD k rawP0).d = (b.getD k rawP0).d := by
    rcases h1 : (a.getD k rawP0).d with ⟨x, y⟩; rcases h2 : (b.getD k rawP0).d with ⟨x', y'⟩
    rw [h1, h2] at hx; simp only at hx; rw [hx.1, hx.2]
  rw [← rds_get, ← rds_get] at e
  have ha' : k < (rdsOf a).length := by rw [rds_len]; exact ha
  have hb' : k < (rdsOf b).length := by rw [rds_len]; exact hb
  rw [List.take_add_one, List.take_add_one, h, List.getElem?_eq_getElem ha', List.getElem?_eq_getElem hb']
  simp only [List.getD_eq_getElem?_getD, List.getElem?_eq_getElem ha', List.getElem?_eq_getElem hb', Option.getD_some] at e
  rw [e]
theorem same_takeR {a b : List RawP} {k : Nat} (h : (rdsOf a).take k = (rdsOf b).take k) (ha : a.length ≤ k) (hb : b.length ≤ k) : rdsOf a = rdsOf b := by
  rwa [List.take_of_length_le (by rw [rds_len]; exact ha), List.take_of_length_le (by rw [rds_len]; exact hb)] at h
structure AnsD where
  kind : Int
  err : Int
  nums : List Int
  text : ByteArray
instance : DecidableEq AnsD := fun a b => decidable_of_iff (a.kind = b.kind ∧ a.err = b.err ∧ a.nums = b.nums ∧ a.text = b.text) ⟨fun h => by cases a; cases b; simp only at h; rw [h.1, h.2.1, h.2.2.1, h.2.2.2], fun h => by rw [h]; exact ⟨rfl, rfl, rfl, rfl⟩⟩
theorem ans_ext {a b : AnsD} (h1 : a.kind = b.kind) (h2 : a.err = b.err) (h3 : a.text = b.text) (h4 : a.nums = b.nums) : a = b := by cases a; cases b; simp only at *; subst h1 h2 h3 h4; rfl
structure AnsP where
  a : Option Addr
  c : Nat
  d : AnsD
def tyAnsP : Ty AnsP := ⟨4, fun p => [.int .i64 p.d.kind, .int .i64 p.d.err, .slice p.a p.d.nums.length p.c, .string p.d.text], fun _ => rfl, fun d u hu => by simp at hu; rcases hu with rfl | rfl | rfl | rfl <;> rfl, by omega⟩
def ansP0 : AnsP := ⟨none, 0, ⟨0, 0, [], .empty⟩⟩
def ansD0 : AnsD := ⟨0, 0, [], .empty⟩
def inAns : Inn AnsP Int := ⟨tyI .i64, 3, AnsP.a, AnsP.c, fun p => p.d.nums⟩
def adsOf (ps : List AnsP) : List AnsD := ps.map AnsP.d
theorem ads_get (ps : List AnsP) (k : Nat) : (adsOf ps).getD k ansD0 = (ps.getD k ansP0).d := (getD_map' AnsP.d ps ansP0 k).symm
theorem ads_len (ps : List AnsP) : (adsOf ps).length = ps.length := by simp [adsOf]
theorem ads_app (a b : List AnsP) : adsOf (a ++ b) = adsOf a ++ adsOf b := by simp [adsOf]
def apartL : List AnsD → List AnsD → Nat → Int
  | [], [], _ => -1
  | x :: xs, y :: ys, i => if x = y then apartL xs ys (i + 1) else i
  | _, _, i => i
theorem apartL_go : ∀ (k : Nat) (a b : List AnsD) (i : Nat), a.take k = b.take k → k ≤ a.length → k ≤ b.length → apartL a b i = apartL (a.drop k) (b.drop k) (i + k)
  | 0, a, b, i, _, _, _ => by simp
  | k + 1, [], b, i, _, h, _ => by simp at h
  | k + 1, a :: as, [], i, _, _, h => by simp at h
  | k + 1, x :: xs, y :: ys, i, h, h1, h2 => by
    simp only [List.take_succ_cons, List.cons.injEq] at h
    simp only [apartL, h.1, if_true, List.drop_succ_cons]
    rw [apartL_go k xs ys (i + 1) h.2 (by simpa using h1) (by simpa using h2)]
    congr 1; omega
section
variable {a b : List AnsP} {k : Nat}
theorem take_sameA (h : (adsOf a).take k = (adsOf b).take k) (ha : k < a.length) (hb : k < b.length) (hx : (a.getD k ansP0).d = (b.getD k ansP0).d) : (adsOf a).take (k + 1) = (adsOf b).take (k + 1) := by
  rw [← ads_get, ← ads_get] at hx
  have ha' : k < (adsOf a).length := by rw [ads_len]; exact ha
  have hb' : k < (adsOf b).length := by rw [ads_len]; exact hb
  rw [List.take_add_one, List.take_add_one, h, List.getElem?_eq_getElem ha', List.getElem?_eq_getElem hb']
  simp only [List.getD_eq_getElem?_getD, List.getElem?_eq_getElem ha', List.getElem?_eq_getElem hb', Option.getD_some] at hx
  rw [hx]
theorem same_takeA (h : (adsOf a).take k = (adsOf b).take k) (ha : a.length ≤ k) (hb : b.length ≤ k) : adsOf a = adsOf b := by
  rwa [List.take_of_length_le (by rw [ads_len]; exact ha), List.take_of_length_le (by rw [ads_len]; exact hb)] at h
theorem apart_diff (h : (adsOf a).take k = (adsOf b).take k) (ha : k < a.length) (hb : k < b.length) (hx : ¬ (a.getD k ansP0).d = (b.getD k ansP0).d) : apartL (adsOf a) (adsOf b) 0 = k := by
  have ha' : k < (adsOf a).length := by rw [ads_len]; exact ha
  have hb' : k < (adsOf b).length := by rw [ads_len]; exact hb
  rw [apartL_go k _ _ 0 h (by omega) (by omega), List.drop_eq_getElem_cons ha', List.drop_eq_getElem_cons hb']
  rw [← ads_get, ← ads_get] at hx
  simp only [List.getD_eq_getElem?_getD, List.getElem?_eq_getElem ha', List.getElem?_eq_getElem hb', Option.getD_some] at hx
  simp [apartL, hx]
theorem apart_end (h : (adsOf a).take k = (adsOf b).take k) (ha : k ≤ a.length) (hb : k ≤ b.length) (hx : a.length = k ∨ b.length = k) (hn : a.length ≠ b.length) : apartL (adsOf a) (adsOf b) 0 = k := by
  rw [apartL_go k _ _ 0 h (by rw [ads_len]; exact ha) (by rw [ads_len]; exact hb)]
  have l1 := ads_len a; have l2 := ads_len b
  rcases hx with hx | hx
  · rw [List.drop_of_length_le (show (adsOf a).length ≤ k by omega)]
    rw [List.drop_eq_getElem_cons (show k < (adsOf b).length by omega)]; simp [apartL]
  · rw [List.drop_of_length_le (show (adsOf b).length ≤ k by omega)]
    rw [List.drop_eq_getElem_cons (show k < (adsOf a).length by omega)]; simp [apartL]
theorem apart_none (h : (adsOf a).take k = (adsOf b).take k) (ha : a.length = k) (hb : b.length = k) : apartL (adsOf a) (adsOf b) 0 = -1 := by
  rw [apartL_go k _ _ 0 h (by rw [ads_len]; omega) (by rw [ads_len]; omega), List.drop_of_length_le (by rw [ads_len]; omega), List.drop_of_length_le (by rw [ads_len]; omega)]; rfl
end
theorem apart_self (l : List AnsD) : ∀ i, apartL l l i = -1 := by
  induction l with
  | nil => intro i; rfl
  | cons x xs ih => intro i; simp only [apartL, if_true]; exact ih _
theorem apart_iff : ∀ (a b : List AnsD) (i : Nat), apartL a b i = -1 ↔ a = b
  | [], [], i => by simp [apartL]
  | [], y :: ys, i => by simp [apartL]
  | x :: xs, [], i => by simp [apartL]
  | x :: xs, y :: ys, i => by
    simp only [apartL]
    by_cases h : x = y
    · rw [if_pos h, apart_iff xs ys (i + 1)]; simp [h]
    · rw [if_neg h]; simp [h]
def plainD (l : List AnsD) : List AnsD := l.filter fun a => !aboutB a.kind
theorem keptB_t {r : RawD} (h : (ofR r).2 = 0) (h2 : (ofR r).1.kind = 23) : keptB r = true := by simp [keptB, aboutB, h, h2]
theorem keptB_m {r : RawD} (h : (ofR r).2 = 0) (h2 : ¬ (ofR r).1.kind = 23) : keptB r = decide ((ofR r).1.kind = 24) := by simp [keptB, aboutB, h, h2]
theorem keptB_f {r : RawD} (h : ¬ (ofR r).2 = 0) : keptB r = false := by simp [keptB, h]
/-- the first place at which p says yes -/
def noneTo (p : AnsP → Bool) (s : List AnsP) (k : Nat) : Prop := (s.take k).filter p = []
theorem noneTo_step {p : AnsP → Bool} {s : List AnsP} {k : Nat} (h : noneTo p s k) (hk : k < s.length) (hp : ¬ p (s.getD k ansP0) = true) : noneTo p s (k + 1) := by
  have e : s.getD k ansP0 = s[k] := by simp [List.getD_eq_getElem?_getD, List.getElem?_eq_getElem hk]
  rw [e] at hp
  unfold noneTo at *
  rw [List.take_add_one, List.getElem?_eq_getElem hk, List.filter_append, h]; simp [hp]
theorem none_keep {p : AnsP → Bool} {s : List AnsP} {k : Nat} (h : noneTo p s k) : (s.take k).filter (fun x => !p x) = s.take k := by
  rw [List.filter_eq_self]
  intro x hx
  have : x ∉ (s.take k).filter p := by rw [show (s.take k).filter p = [] from h]; simp
  simpa [hx] using this
/-- the program's loop -/
structure DelI (p : AnsP → Bool) (s ys : List AnsP) (i j : Nat) : Prop where
  len : ys.length = s.length
  le : i < j
  pre : ys.take i = (s.take j).filter (fun x => !p x)
  post : ys.drop j = s.drop j
theorem DelI.start {p : AnsP → Bool} {s : List AnsP} {k : Nat} (h : noneTo p s k) (hk : k < s.length) (hp : p (s.getD k ansP0) = true) : DelI p s s k (k + 1) := by
  have e : s.getD k ansP0 = s[k] := by simp [List.getD_eq_getElem?_getD, List.getElem?_eq_getElem hk]
  rw [e] at hp
  refine ⟨rfl, by omega, ?_, rfl⟩
  rw [List.take_add_one, List.getElem?_eq_getElem hk, List.filter_append, none_keep h]; simp [hp]
section
variable {p : AnsP → Bool} {s ys : List AnsP} {i j : Nat}
theorem DelI.get (h : DelI p s ys i j) (hj : j < s.length) : ys.getD j ansP0 = s.getD j ansP0 := by
  have h1 := congrArg (fun l => l[0]?) h.post
  simp only [List.getElem?_drop, Nat.add_zero] at h1
  simp only [List.getD_eq_getElem?_getD, h1]
theorem DelI.no (h : DelI p s ys i j) (hj : j < s.length) (hp : p (ys.getD j ansP0) = true) : DelI p s ys i (j + 1) := by
  rw [h.get hj] at hp
  have e : s.getD j ansP0 = s[j] := by simp [List.getD_eq_getElem?_getD, List.getElem?_eq_getElem hj]
  rw [e] at hp
  refine ⟨h.len, by have := h.le; omega, ?_, ?_⟩
  · rw [h.pre, List.take_add_one, List.getElem?_eq_getElem hj, List.filter_append]; simp [hp]
  · have := congrArg (List.drop 1) h.post; simpa [List.drop_drop] using this
theorem DelI.yes (h : DelI p s ys i j) (hj : j < s.length) (hp : ¬ p (ys.getD j ansP0) = true) : DelI p s (ys.set i (ys.getD j ansP0)) (i + 1) (j + 1) := by
  have hg := h.get hj
  rw [hg] at hp ⊢
  have e : s.getD j ansP0 = s[j] := by simp [List.getD_eq_getElem?_getD, List.getElem?_eq_getElem hj]
  rw [e] at hp ⊢
  have hle := h.le; have hlen := h.len
  have hi : i < ys.length := by omega
  refine ⟨by simp [hlen], by omega, ?_, ?_⟩
  · rw [List.take_add_one, List.take_set_of_le (by omega), h.pre, List.getElem?_set_self hi]
    rw [List.take_add_one, List.getElem?_eq_getElem hj, List.filter_append]; simp [hp]
  · rw [List.drop_set_of_lt (by omega)]
    have := congrArg (List.drop 1) h.post; simpa [List.drop_drop] using this
theorem DelI.fin (h : DelI p s ys i j) (hj : ¬ j < s.length) : ys.take i = s.filter (fun x => !p x) := by
  rw [h.pre, List.take_of_length_le (by omega)]
end
theorem plain_ads (l : List AnsP) : adsOf (l.filter fun x => !aboutB x.d.kind) = plainD (adsOf l) := by
  simp only [adsOf, plainD, List.filter_map]; rfl
def keepP (x : AnsP) : Bool := !aboutB x.d.kind
theorem filt_yes {l : List AnsP} {k : Nat} (h : k < l.length) (h1 : (l.getD k ansP0).d.kind ≠ 23) (h2 : (l.getD k ansP0).d.kind ≠ 24) : (l.take (k + 1)).filter keepP = (l.take k).filter keepP ++ [l.getD k ansP0] := by
  have e : l.getD k ansP0 = l[k] := by simp [List.getD_eq_getElem?_getD, List.getElem?_eq_getElem h]
  rw [e] at h1 h2 ⊢
  rw [List.take_add_one, List.getElem?_eq_getElem h, List.filter_append]; simp [keepP, aboutB, h1, h2]
theorem filt_no {l : List AnsP} {k : Nat} (h : k < l.length) (h1 : ¬ ((l.getD k ansP0).d.kind ≠ 23 ∧ (l.getD k ansP0).d.kind ≠ 24)) : (l.take (k + 1)).filter keepP = (l.take k).filter keepP := by
  have e : l.getD k ansP0 = l[k] := by simp [List.getD_eq_getElem?_getD, List.getElem?_eq_getElem h]
  rw [e] at h1
  rw [List.take_add_one, List.getElem?_eq_getElem h, List.filter_append]; simp [keepP, aboutB]; omega
structure AnsS where
  kind : Int
  err : Int
  nums : Sl
  text : ByteArray
def tyAnsS : Ty AnsS := ⟨4, fun d => [.int .i64 d.kind, .int .i64 d.err, .slice d.nums.a d.nums.n d.nums.c, .string d.text], fun _ => rfl, fun d u hu => by simp at hu; rcases hu with rfl | rfl | rfl | rfl <;> rfl, by omega⟩
end Go.Sx
