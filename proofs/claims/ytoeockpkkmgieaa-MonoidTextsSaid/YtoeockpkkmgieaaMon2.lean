/- The search for all elements: what its loops keep; letters. Conditions: those of each theorem. -/
import Derived.Test.YtoeockpkkmgieaaMon1
namespace Go.Sx
set_option linter.unusedVariables false
set_option linter.unusedSimpArgs false
structure ElI (d : DfaD) (os : List EL) : Prop where
  go : ∀ i, i < os.length → (os.getD i el0).to = goL d (os.getD i el0).text
  sz : ∀ i, i < os.length → (os.getD i el0).text.size ≤ i
theorem getD_appE {os : List EL} {x : EL} {i : Nat} : (os ++ [x]).getD i el0 = if i < os.length then os.getD i el0 else if i = os.length then x else el0 := by
  simp only [List.getD_eq_getElem?_getD, List.getElem?_append]
  split
  · rfl
  · split
    · rename_i h1 h2; subst h2; simp
    · rename_i h1 h2; rw [List.getElem?_eq_none (by simp; omega)]; rfl
theorem dat_getD {os : List EL} {i : Nat} (h : i < os.length) : (os.map EL.dat).getD i ([], ⟨#[]⟩) = (os.getD i el0).dat := by simp [List.getD_eq_getElem?_getD, List.getElem?_eq_getElem h]
theorem dat_fst (os : List EL) : (os.map EL.dat).map Prod.fst = os.map EL.to := by simp [EL.dat, Function.comp_def]
theorem byteS_size (b : Int) : (byteS b).size = 1 := by rw [byteS, strOfNums_size]; rfl
theorem ElI.one {d : DfaD} {a : Option Addr} {n c : Nat} : ElI d [⟨a, n, c, (firstE d).1, ⟨#[]⟩⟩] := by
  constructor
  · intro i hi
    have : i = 0 := by simpa using hi
    subst this; rfl
  · intro i hi
    have : i = 0 := by simpa using hi
    subst this; exact Nat.le_refl _
theorem ElI.add {d : DfaD} {os : List EL} {at_ : Nat} {b : Int} {a : Option Addr} {n c : Nat} {to : List Int} {text : ByteArray} (h : ElI d os) (hat : at_ < os.length) (hb : 0 ≤ b ∧ b < 256) (ht : text = (os.getD at_ el0).text ++ byteS b) (hto : to = goL d text) :
    ElI d (os ++ [⟨a, n, c, to, text⟩]) := by
  constructor
  · intro i hi
    rw [getD_appE]
    split
    · rename_i h1; exact h.go i h1
    · rw [if_pos (by simp at hi; omega)]; exact hto
  · intro i hi
    rw [getD_appE]
    split
    · rename_i h1; exact h.sz i h1
    · rw [if_pos (by simp at hi; omega)]
      have h2 := h.sz at_ hat
      subst ht
      show ((os.getD at_ el0).text ++ byteS b).size ≤ i
      rw [ByteArray.size_append, byteS_size]
      simp at hi
      rename_i h3
      omega
theorem add_yes {d : DfaD} {os os0 : List EL} {at_ : Nat} {b : Int} {x : EL} (h : ElI d os) (hat : at_ < os.length) (hat0 : at_ < os0.length) (he : os.getD at_ el0 = os0.getD at_ el0) (hb : 0 ≤ b ∧ b < 256) (hx : x.dat = (goL d ((os.getD at_ el0).text ++ byteS b), (os.getD at_ el0).text ++ byteS b))
    (hn : x.to ∉ os.map EL.to) : (os ++ [x]).map EL.dat = addE d ((os0.map EL.dat).getD at_ ([], ⟨#[]⟩)) (os.map EL.dat) b := by
  rw [dat_getD hat0, ← he]
  have e1 : ((os.getD at_ el0).dat.1.map fun q => stepD d q b) = goL d ((os.getD at_ el0).text ++ byteS b) := by
    rw [goL_snoc hb, ← h.go at_ hat]; rfl
  unfold addE
  rw [e1, dat_fst]
  have e2 : x.to = goL d ((os.getD at_ el0).text ++ byteS b) := by have := congrArg Prod.fst hx; exact this
  rw [if_neg (by rw [← e2]; exact hn), List.map_append]
  show _ ++ [x.dat] = _
  rw [hx]; rfl
theorem add_no {d : DfaD} {os os0 : List EL} {at_ : Nat} {b : Int} (h : ElI d os) (hat : at_ < os.length) (hat0 : at_ < os0.length) (he : os.getD at_ el0 = os0.getD at_ el0) (hb : 0 ≤ b ∧ b < 256)
    (hn : goL d ((os.getD at_ el0).text ++ byteS b) ∈ os.map EL.to) : os.map EL.dat = addE d ((os0.map EL.dat).getD at_ ([], ⟨#[]⟩)) (os.map EL.dat) b := by
  rw [dat_getD hat0, ← he]
  have e1 : ((os.getD at_ el0).dat.1.map fun q => stepD d q b) = goL d ((os.getD at_ el0).text ++ byteS b) := by
    rw [goL_snoc hb, ← h.go at_ hat]; rfl
  unfold addE
  rw [e1, dat_fst, if_pos hn]
theorem findTo_neg {tos : List (List Int)} {to : List Int} : findTo tos to < 0 ↔ to ∉ tos := by
  unfold findTo; split <;> rename_i h <;> simp [h]
/-- Is there an earlier symbol of the same class? -/
def seenK (d : DfaD) (b k : Nat) : Bool := (List.range k).any fun i => decide (d.cls.getD i 0 = d.cls.getD b 0)
theorem seenK_step {d : DfaD} {b k : Nat} : seenK d b (k + 1) = (seenK d b k || decide (d.cls.getD k 0 = d.cls.getD b 0)) := by simp [seenK, List.range_succ]
theorem headB_seen (d : DfaD) (b : Nat) : headB d b = !seenK d b b := rfl
theorem lettersN_all (d : DfaD) : lettersN d 256 = lettersB d := rfl
theorem foldL_yes {d : DfaD} {b : Nat} {e : ED} {acc r : List ED} (h : seenK d b b = false) (hr : r = addE d e ((lettersN d b).foldl (addE d e) acc) (b : Int)) : r = (lettersN d (b + 1)).foldl (addE d e) acc := by
  rw [lettersN_yes (by rw [headB_seen, h]; rfl), List.foldl_append, hr]; rfl
theorem foldL_no {d : DfaD} {b : Nat} {e : ED} {acc : List ED} (h : seenK d b b = true) : (lettersN d b).foldl (addE d e) acc = (lettersN d (b + 1)).foldl (addE d e) acc := by
  rw [lettersN_no (by rw [headB_seen, h]; rfl)]

/-! ### What the program's letters are -/
theorem strict_ext : ∀ {l m : List Int}, l.Pairwise (· < ·) → m.Pairwise (· < ·) → (∀ x, x ∈ l ↔ x ∈ m) → l = m
  | [], [], _, _, _ => rfl
  | [], y :: m, _, _, h => absurd ((h y).2 (by simp)) (by simp)
  | x :: l, [], _, _, h => absurd ((h x).1 (by simp)) (by simp)
  | x :: l, y :: m, hl, hm, h => by
    obtain ⟨l1, l2⟩ := List.pairwise_cons.1 hl
    obtain ⟨m1, m2⟩ := List.pairwise_cons.1 hm
    have hxy : x = y := by
      have a := (h x).1 (by simp)
      have b := (h y).2 (by simp)
      rcases List.mem_cons.1 a with a | a
      · exact a
      · rcases List.mem_cons.1 b with b | b
        · exact b.symm
        · have := m1 x a; have := l1 y b; omega
    subst hxy
    congr 1
    refine strict_ext l2 m2 fun z => ⟨fun hz => ?_, fun hz => ?_⟩
    · rcases List.mem_cons.1 ((h z).1 (by simp [hz])) with e | e
      · have := l1 z hz; omega
      · exact e
    · rcases List.mem_cons.1 ((h z).2 (by simp [hz])) with e | e
      · have := m1 z hz; omega
      · exact e
theorem sort_strict {l : List Int} (hn : l.Nodup) : (l.mergeSort fun x y => decide (x ≤ y)).Pairwise (· < ·) := by
  have h1 : (l.mergeSort fun x y => decide (x ≤ y)).Pairwise (fun x y => decide (x ≤ y) = true) := List.pairwise_mergeSort (fun a b c h1 h2 => by simp at *; omega) (fun a b => by simp; omega) l
  have h2 : (l.mergeSort fun x y => decide (x ≤ y)).Nodup := (List.mergeSort_perm l _).nodup_iff.2 hn
  rw [List.nodup_iff_pairwise_ne] at h2
  exact (h1.and h2).imp fun ⟨a, b⟩ => by have := of_decide_eq_true a; omega
theorem lettersB_strict (d : DfaD) : (lettersB d).Pairwise (· < ·) := by
  unfold lettersB
  rw [List.pairwise_map]
  exact (List.Pairwise.filter _ List.pairwise_lt_range).imp fun h => by omega
/-- the firsts that are bytes, the first k of all -/
def bytesK (l : List Int) (k : Nat) : List Int := (l.take k).filter fun x => decide (0 ≤ x ∧ x < 256)
theorem bytesK_yes {l : List Int} {k : Nat} (hk : k < l.length) (h : 0 ≤ l.getD k 0 ∧ l.getD k 0 < 256) : bytesK l k ++ [l.getD k 0] = bytesK l (k + 1) := by
  rw [bytesK, bytesK, take_succ_getD 0 hk, List.filter_append, List.filter_cons, if_pos (decide_eq_true h)]; rfl
theorem bytesK_no {l : List Int} {k : Nat} (hk : k < l.length) (h : ¬ (0 ≤ l.getD k 0 ∧ l.getD k 0 < 256)) : bytesK l k = bytesK l (k + 1) := by
  rw [bytesK, bytesK, take_succ_getD 0 hk, List.filter_append, List.filter_cons, if_neg (by rw [decide_eq_true_eq]; exact h)]; simp
theorem bytesK_len (l : List Int) (k : Nat) : (bytesK l k).length ≤ k := by
  rw [bytesK]; exact Nat.le_trans (List.length_filter_le _ _) (by rw [List.length_take]; omega)
theorem ix_first {l : List Int} {c : Int} (h : c ∈ l) : ∀ i, i < ix c l → l.getD i 0 ≠ c := by
  induction l with
  | nil => simp at h
  | cons y l ih =>
    intro i hi
    unfold ix at hi
    split at hi
    · omega
    · rename_i hne
      cases i with
      | zero => simp; exact fun e => hne e.symm
      | succ i => simpa using ih (by simpa [hne] using h) i (by omega)
theorem letters_eq {d : DfaD} (hr : rightB d = true) : ((bytesK (firstsI d.cls d.width) (firstsI d.cls d.width).length).mergeSort fun x y => decide (x ≤ y)) = lettersB d := by
  have hri := rightB_iff.1 hr
  have hw : (min d.width 259).toNat = d.width.toNat := by omega
  have e0 : bytesK (firstsI d.cls d.width) (firstsI d.cls d.width).length = (firstsI d.cls d.width).filter fun x => decide (0 ≤ x ∧ x < 256) := by rw [bytesK, List.take_of_length_le (Nat.le_refl _)]
  rw [e0]
  have hmem : ∀ x : Int, x ∈ (firstsI d.cls d.width).filter (fun x => decide (0 ≤ x ∧ x < 256)) ↔ x ∈ lettersB d := by
    intro x
    simp only [List.mem_filter, decide_eq_true_eq, firstsI, List.mem_map, List.mem_range, lettersB]
    constructor
    · rintro ⟨⟨c, hc, rfl⟩, h0, h1⟩
      have hm : (c : Int) ∈ d.cls := by
        by_cases e : (c : Int) ∈ d.cls
        · exact e
        · rw [firstI, if_neg e] at h0; omega
      rw [firstI, if_pos hm] at h1 ⊢
      refine ⟨ix (c : Int) d.cls, ⟨by omega, ?_⟩, rfl⟩
      unfold headB
      rw [Bool.not_eq_true', List.any_eq_false]
      intro i hi
      rw [List.mem_range] at hi
      rw [decide_eq_true_eq, ix_get hm]
      exact ix_first hm i hi
    · rintro ⟨b, ⟨hb, hh⟩, rfl⟩
      have hbl : b < d.cls.length := by omega
      have hcb := within_at hri.2.1 b hbl
      have hmem : d.cls.getD b 0 ∈ d.cls := getD_mem' hbl
      have hix : ix (d.cls.getD b 0) d.cls = b := by
        refine ix_at (d := 0) hbl rfl fun i hi e => ?_
        unfold headB at hh
        rw [Bool.not_eq_true', List.any_eq_false] at hh
        exact hh i (List.mem_range.2 hi) (decide_eq_true e)
      refine ⟨⟨(d.cls.getD b 0).toNat, by omega, ?_⟩, by omega, by omega⟩
      rw [Int.toNat_of_nonneg hcb.1, firstI, if_pos hmem, hix]
  have hnd : ((firstsI d.cls d.width).filter fun x => decide (0 ≤ x ∧ x < 256)).Nodup := by
    rw [List.nodup_iff_pairwise_ne]
    unfold firstsI
    rw [List.pairwise_filter, List.pairwise_map]
    refine List.Pairwise.imp_of_mem ?_ List.pairwise_lt_range
    intro a b _ _ hab hxa hxb e
    have h0a := (of_decide_eq_true hxa).1
    have h0b := (of_decide_eq_true hxb).1
    have ma : (a : Int) ∈ d.cls := by
      by_cases e : (a : Int) ∈ d.cls
      · exact e
      · rw [firstI, if_neg e] at h0a; omega
    have mb : (b : Int) ∈ d.cls := by
      by_cases e : (b : Int) ∈ d.cls
      · exact e
      · rw [firstI, if_neg e] at h0b; omega
    rw [firstI, if_pos ma, firstI, if_pos mb] at e
    have := ix_inj ma mb (by omega)
    omega
  refine strict_ext (sort_strict hnd) (lettersB_strict d) fun x => ?_
  rw [List.mem_mergeSort]; exact hmem x

/-! ### The program's search -/
def MapE (m : List (ByteArray × Int)) (os : List EL) : Prop := ∀ t, stOk t → (getM m (keyS t)).isSome = decide (t ∈ os.map EL.to)
theorem MapE.one {t : List Int} {x : EL} {v : Int} (ht : stOk t) (hx : x.to = t) : MapE (putM [] (keyS t) v) [x] := fun u hu => by
  rw [getM_put]
  by_cases e : keyS u = keyS t
  · rw [if_pos e, keyS_inj hu ht e]; simp [hx]
  · rw [if_neg e]
    have : u ≠ t := fun h => e (by rw [h])
    simp [getM, hx, this]
theorem MapE.add {m : List (ByteArray × Int)} {os : List EL} {t : List Int} {x : EL} {v : Int} (h : MapE m os) (ht : stOk t) (hx : x.to = t) : MapE (putM m (keyS t) v) (os ++ [x]) := fun u hu => by
  rw [getM_put]
  by_cases e : keyS u = keyS t
  · rw [if_pos e, keyS_inj hu ht e]; simp [hx]
  · rw [if_neg e, h u hu]
    have : u ≠ t := fun h => e (by rw [h])
    simp [hx, this]
/-- a way being turned, place by place -/
structure MpI (d : DfaD) (b : Int) (to r : List Int) (k : Nat) : Prop where
  len : r.length = to.length
  val : ∀ i, i < to.length → r.getD i 0 = if i < k then stepD d (to.getD i 0) b else to.getD i 0
theorem MpI.start (d : DfaD) (b : Int) (to : List Int) : MpI d b to to 0 := ⟨rfl, fun i hi => by rw [if_neg (by omega)]⟩
theorem MpI.step {d : DfaD} {b : Int} {to r : List Int} {k : Nat} (h : MpI d b to r k) (hk : k < to.length) : MpI d b to (r.set k (stepD d (r.getD k 0) b)) (k + 1) := by
  refine ⟨by simp [h.len], fun i hi => ?_⟩
  rw [getD_setI (by rw [h.len]; exact hk)]
  split
  · rename_i e; subst e
    rw [if_pos (by omega), h.val k hi, if_neg (by omega)]
  · rename_i e
    rw [h.val i hi]
    by_cases hik : i < k
    · rw [if_pos hik, if_pos (by omega)]
    · rw [if_neg hik, if_neg (by omega)]
theorem MpI.fin {d : DfaD} {b : Int} {to r : List Int} {k : Nat} (h : MpI d b to r k) (hk : to.length ≤ k) : r = to.map fun q => stepD d q b := by
  refine list_eq_of (d := 0) (by simp [h.len]) fun i hi => ?_
  have hi' : i < to.length := by rw [← h.len]; exact hi
  rw [h.val i hi', if_pos (by omega)]
  simp [List.getD_eq_getElem?_getD, List.getElem?_eq_getElem hi']
/-- counting up -/
structure UpI (q : List Int) (n k : Nat) : Prop where
  len : q.length = n
  val : ∀ i, i < k → q.getD i 0 = (i : Int)
theorem UpI.start (n : Nat) : UpI (List.replicate n 0) n 0 := ⟨by simp, fun i hi => by omega⟩
theorem UpI.step {q : List Int} {n k : Nat} (h : UpI q n k) (hk : k < n) : UpI (q.set k (k : Int)) n (k + 1) := by
  refine ⟨by simp [h.len], fun i hi => ?_⟩
  rw [getD_setI (by rw [h.len]; exact hk)]
  split
  · rename_i e; subst e; rfl
  · exact h.val i (by omega)
theorem UpI.fin {d : DfaD} {q : List Int} {n k : Nat} (h : UpI q n k) (hk : n ≤ k) (hn : n = d.acc.length) : q = (firstE d).1 := by
  subst hn
  refine list_eq_of (d := 0) (by simp [firstE, h.len]) fun i hi => ?_
  have hi' : i < d.acc.length := by rw [← h.len]; exact hi
  rw [h.val i (by omega)]
  simp [firstE, List.getD_eq_getElem?_getD, hi']
def ElsP (d : DfaD) (most : Int) (xs : List EL) (e : Int) : Prop :=
  (rightB d = false → xs = [] ∧ e = 3) ∧ (rightB d = true → ((elsOut d (lettersB d) most).length : Int) ≤ most → e = 0 ∧ xs.map EL.dat = elsOut d (lettersB d) most ∧ ElI d xs) ∧ (rightB d = true → ¬ ((elsOut d (lettersB d) most).length : Int) ≤ most → e = 5 ∧ xs = [])
theorem nxt_lt {os : List EL} {at_ : Nat} (h : at_ < os.length) : (os.map EL.dat).getD at_ ([], ⟨#[]⟩) = (os.getD at_ el0).dat := dat_getD h
end Go.Sx
