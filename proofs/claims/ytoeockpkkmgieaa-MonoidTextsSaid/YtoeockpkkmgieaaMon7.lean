/- The texts of the elements: each is the least one that goes its way. Conditions: those of each theorem. -/
import Derived.Test.YtoeockpkkmgieaaMon6
namespace Go.Sx
set_option linter.unusedVariables false
set_option linter.unusedSimpArgs false
def lexI : List Int → List Int → Prop
  | _, [] => False
  | [], _ :: _ => True
  | a :: s, b :: t => a < b ∨ (a = b ∧ lexI s t)
def slt (s t : List Int) : Prop := s.length < t.length ∨ (s.length = t.length ∧ lexI s t)
def sle (s t : List Int) : Prop := slt s t ∨ s = t
theorem lexI_trans : ∀ {s t u : List Int}, lexI s t → lexI t u → lexI s u
  | _, t, [], _, h => by cases t <;> exact h.elim
  | _, [], _ :: _, h, _ => by simp [lexI] at h
  | [], _ :: _, _ :: _, _, _ => trivial
  | a :: s, b :: t, c :: u, h1, h2 => by
    simp only [lexI] at h1 h2 ⊢
    rcases h1 with h1 | ⟨rfl, h1⟩
    · rcases h2 with h2 | ⟨rfl, h2⟩
      · exact .inl (by omega)
      · exact .inl h1
    · rcases h2 with h2 | ⟨rfl, h2⟩
      · exact .inl h2
      · exact .inr ⟨rfl, lexI_trans h1 h2⟩
theorem slt_trans {s t u : List Int} (h1 : slt s t) (h2 : slt t u) : slt s u := by
  unfold slt at *
  rcases h1 with h1 | ⟨e1, h1⟩ <;> rcases h2 with h2 | ⟨e2, h2⟩
  · exact .inl (by omega)
  · exact .inl (by omega)
  · exact .inl (by omega)
  · exact .inr ⟨by omega, lexI_trans h1 h2⟩
theorem lexI_app : ∀ {s t : List Int} (u v : List Int), s.length = t.length → lexI s t → lexI (s ++ u) (t ++ v)
  | s, [], _, _, _, h => by cases s <;> simp [lexI] at h
  | [], _ :: _, _, _, e, _ => by simp at e
  | a :: s, b :: t, u, v, e, h => by
    simp only [List.cons_append, lexI] at h ⊢
    rcases h with h | ⟨rfl, h⟩
    · exact .inl h
    · exact .inr ⟨rfl, lexI_app u v (by simpa using e) h⟩
theorem lexI_last : ∀ (s : List Int) {b c : Int}, b < c → lexI (s ++ [b]) (s ++ [c])
  | [], _, _, h => .inl h
  | _ :: s, _, _, h => .inr ⟨rfl, lexI_last s h⟩
theorem slt_snoc {s t : List Int} (h : slt s t) (b c : Int) : slt (s ++ [b]) (t ++ [c]) := by
  unfold slt at *
  simp only [List.length_append, List.length_singleton]
  rcases h with h | ⟨e, h⟩
  · exact .inl (by omega)
  · exact .inr ⟨by omega, lexI_app _ _ e h⟩
theorem slt_last (s : List Int) {b c : Int} (h : b < c) : slt (s ++ [b]) (s ++ [c]) := .inr ⟨by simp, lexI_last s h⟩
theorem slt_nil (s : List Int) (b : Int) : slt [] (s ++ [b]) := .inl (by simp)
theorem sle_trans {s t u : List Int} (h1 : sle s t) (h2 : sle t u) : sle s u := by
  rcases h1 with h1 | rfl
  · rcases h2 with h2 | rfl
    · exact .inl (slt_trans h1 h2)
    · exact .inl h1
  · exact h2
theorem sle_snoc {s t : List Int} (h : sle s t) {b c : Int} (hbc : b ≤ c) : sle (s ++ [b]) (t ++ [c]) := by
  rcases h with h | rfl
  · exact .inl (slt_snoc h b c)
  · by_cases e : b = c
    · subst e; exact .inr rfl
    · exact .inl (slt_last s (by omega))
def bx (x : ED) : List Int := bytesL x.2
theorem foldS {d : DfaD} {e : ED} : ∀ (L : List Int) (acc : List ED), L.Pairwise (· < ·) → (∀ b, b ∈ L → 0 ≤ b ∧ b < 256) → acc.Pairwise (fun x y => slt (bx x) (bx y)) → (∀ x, x ∈ acc → ∀ b, b ∈ L → slt (bx x) (bx e ++ [b])) →
    (L.foldl (addE d e) acc).Pairwise (fun x y => slt (bx x) (bx y)) ∧ (∀ b, b ∈ L → ∃ y, y ∈ L.foldl (addE d e) acc ∧ y.1 = nxD d e.1 b ∧ sle (bx y) (bx e ++ [b])) ∧ (∀ x, x ∈ L.foldl (addE d e) acc → x ∈ acc ∨ ∃ c, c ∈ L ∧ bx x = bx e ++ [c])
  | [], acc, _, _, hs, _ => ⟨hs, fun b hb => by simp at hb, fun x hx => .inl hx⟩
  | b :: L, acc, hL, hB, hs, hlt => by
    rw [List.foldl_cons]
    rw [List.pairwise_cons] at hL
    by_cases hm : nxD d e.1 b ∈ acc.map Prod.fst
    · have eA : addE d e acc b = acc := by unfold addE; exact if_pos hm
      rw [eA]
      obtain ⟨h1, h2, h3⟩ := foldS L acc hL.2 (fun c hc => hB c (List.mem_cons_of_mem _ hc)) hs (fun x hx c hc => hlt x hx c (List.mem_cons_of_mem _ hc))
      refine ⟨h1, fun c hc => ?_, fun x hx => ?_⟩
      · rcases List.mem_cons.1 hc with rfl | hc
        · obtain ⟨y, hy, he⟩ := List.mem_map.1 hm
          obtain ⟨r, hr, _⟩ := foldAdd_pre d e L acc
          exact ⟨y, by rw [hr]; exact List.mem_append_left _ hy, he, .inl (hlt y hy c List.mem_cons_self)⟩
        · exact h2 c hc
      · rcases h3 x hx with h | ⟨c, hc, he⟩
        · exact .inl h
        · exact .inr ⟨c, List.mem_cons_of_mem _ hc, he⟩
    · have eA : addE d e acc b = acc ++ [(nxD d e.1 b, e.2 ++ byteS b)] := by unfold addE; exact if_neg hm
      rw [eA]
      have hb := hB b List.mem_cons_self
      have ebx : bx (nxD d e.1 b, e.2 ++ byteS b) = bx e ++ [b] := by show bytesL _ = _; rw [bytesL_append, bytesL_byteS hb]; rfl
      have hs2 : (acc ++ [(nxD d e.1 b, e.2 ++ byteS b)]).Pairwise (fun x y => slt (bx x) (bx y)) := by
        rw [List.pairwise_append]
        refine ⟨hs, List.pairwise_singleton _ _, fun x hx y hy => ?_⟩
        rw [List.mem_singleton.1 hy, ebx]
        exact hlt x hx b List.mem_cons_self
      have hlt2 : ∀ x, x ∈ acc ++ [(nxD d e.1 b, e.2 ++ byteS b)] → ∀ c, c ∈ L → slt (bx x) (bx e ++ [c]) := fun x hx c hc => by
        rcases List.mem_append.1 hx with hx | hx
        · exact hlt x hx c (List.mem_cons_of_mem _ hc)
        · rw [List.mem_singleton.1 hx, ebx]; exact slt_last _ (hL.1 c hc)
      obtain ⟨h1, h2, h3⟩ := foldS L _ hL.2 (fun c hc => hB c (List.mem_cons_of_mem _ hc)) hs2 hlt2
      refine ⟨h1, fun c hc => ?_, fun x hx => ?_⟩
      · rcases List.mem_cons.1 hc with rfl | hc
        · obtain ⟨r, hr, _⟩ := foldAdd_pre d e L (acc ++ [(nxD d e.1 c, e.2 ++ byteS c)])
          exact ⟨_, by rw [hr]; exact List.mem_append_left _ (List.mem_append_right _ (List.mem_singleton.2 rfl)), rfl, .inr ebx⟩
        · exact h2 c hc
      · rcases h3 x hx with h | ⟨c, hc, he⟩
        · rcases List.mem_append.1 h with h | h
          · exact .inl h
          · exact .inr ⟨b, List.mem_cons_self, by rw [List.mem_singleton.1 h]; exact ebx⟩
        · exact .inr ⟨c, List.mem_cons_of_mem _ hc, he⟩
structure ElS (d : DfaD) (L : List Int) (at_ : Nat) (out : List ED) : Prop where
  srt : out.Pairwise (fun x y => slt (bx x) (bx y))
  lt : at_ < out.length → ∀ x, x ∈ out → ∀ b, b ∈ L → slt (bx x) (bx (out.getD at_ ([], ⟨#[]⟩)) ++ [b])
  mn : ∀ i, i < at_ → i < out.length → ∀ b, b ∈ L → ∃ y, y ∈ out ∧ y.1 = nxD d (out.getD i ([], ⟨#[]⟩)).1 b ∧ sle (bx y) (bx (out.getD i ([], ⟨#[]⟩)) ++ [b])
theorem pair_getD {out : List ED} (h : out.Pairwise (fun x y => slt (bx x) (bx y))) {i j : Nat} (hij : i < j) (hj : j < out.length) : slt (bx (out.getD i ([], ⟨#[]⟩))) (bx (out.getD j ([], ⟨#[]⟩))) := by
  have h9 := List.pairwise_iff_getElem.1 h i j (Nat.lt_trans hij hj) hj hij
  simpa only [List.getD_eq_getElem?_getD, List.getElem?_eq_getElem hj, List.getElem?_eq_getElem (Nat.lt_trans hij hj), Option.getD_some] using h9
theorem ElS.step {d : DfaD} {L : List Int} (hL : L.Pairwise (· < ·)) (hB : ∀ b, b ∈ L → 0 ≤ b ∧ b < 256) {at_ : Nat} {out : List ED} (h : ElS d L at_ out) (ha : at_ < out.length) : ElS d L (at_ + 1) (L.foldl (addE d (out.getD at_ ([], ⟨#[]⟩))) out) := by
  obtain ⟨r, hr, _⟩ := foldAdd_pre d (out.getD at_ ([], ⟨#[]⟩)) L out
  obtain ⟨h1, h2, h3⟩ := foldS (d := d) (e := out.getD at_ ([], ⟨#[]⟩)) L out hL hB h.srt (h.lt ha)
  have eg : ∀ i, i < out.length → (L.foldl (addE d (out.getD at_ ([], ⟨#[]⟩))) out).getD i ([], ⟨#[]⟩) = out.getD i ([], ⟨#[]⟩) := fun i hi => by rw [hr, getD_pre hi]
  refine ⟨h1, fun hl x hx b hb => ?_, fun i hi hl b hb => ?_⟩
  · have hs := pair_getD h1 (Nat.lt_succ_self at_) hl
    rw [eg at_ ha] at hs
    rcases h3 x hx with h4 | ⟨c, hc, h4⟩
    · exact slt_trans (h.lt ha x h4 b hb) (slt_snoc hs b b)
    · rw [h4]; exact slt_snoc hs c b
  · have hio : i < out.length := by omega
    rw [eg i hio]
    by_cases e : i = at_
    · subst e; exact h2 b hb
    · obtain ⟨y, hy, he⟩ := h.mn i (by omega) hio b hb
      exact ⟨y, by rw [hr]; exact List.mem_append_left _ hy, he⟩
theorem least_in {d : DfaD} {most : Int} (hl : ((elsOut d (lettersB d) most).length : Int) ≤ most) : ∀ l : List Int, (∀ b, b ∈ l → 0 ≤ b ∧ b < 256) → ∃ y, y ∈ elsOut d (lettersB d) most ∧ y.1 = goLl d l ∧ sle (bx y) l := by
  have hB : ∀ b, b ∈ lettersB d → 0 ≤ b ∧ b < 256 := fun b h => lettersB_bd h
  obtain ⟨a2, h, hle⟩ := elRun_ind (ElS d (lettersB d)) (fun at_ out h ha => h.step (lettersB_strict d) hB ha) most.toNat 0 [firstE d] (by omega)
    ⟨List.pairwise_singleton _ _, fun _ x hx b hb => by rw [List.mem_singleton.1 hx]; exact slt_nil _ b, fun i hi => by omega⟩ hl
  obtain ⟨_, ⟨r, hr⟩, _⟩ := els_closed hl
  intro l
  suffices h : ∀ m : List Int, (∀ b, b ∈ m → 0 ≤ b ∧ b < 256) → ∃ y, y ∈ elsOut d (lettersB d) most ∧ y.1 = goLl d m.reverse ∧ sle (bx y) m.reverse by
    intro hb; have h9 := h l.reverse (fun b h => hb b (List.mem_reverse.1 h)); rw [List.reverse_reverse] at h9; exact h9
  intro m
  induction m with
  | nil => intro _; exact ⟨firstE d, by rw [hr]; exact List.mem_cons_self, rfl, .inr rfl⟩
  | cons b m ih =>
    intro hb
    obtain ⟨y, hy, hy1, hy2⟩ := ih (fun c h => hb c (List.mem_cons_of_mem _ h))
    have h2 := hb b List.mem_cons_self
    obtain ⟨c, hcb, hm, hce⟩ := head_of d b.toNat (by omega)
    obtain ⟨i, hi, rfl⟩ := List.mem_iff_getElem.1 hy
    have hi2 : i < (elRun d (lettersB d) most most.toNat 0 [firstE d]).length := hi
    have h9 := h.mn i (by omega) hi2 _ hm
    simp only [List.getD_eq_getElem?_getD, List.getElem?_eq_getElem hi2, Option.getD_some] at h9
    obtain ⟨z, hz, hz1, hz2⟩ := h9
    refine ⟨z, hz, ?_, ?_⟩
    · rw [List.reverse_cons, goLl_snoc, nxD_cls (c := (c : Int)) (by simpa using hce), ← hy1]; exact hz1
    · rw [List.reverse_cons]; exact sle_trans hz2 (sle_snoc hy2 (by omega))
theorem lex_less : ∀ {s t : List UInt8}, lexI (s.map fun u => (u.toNat : Int)) (t.map fun u => (u.toNat : Int)) → Op.bytesLess s t = true
  | s, [], h => by cases s <;> exact h.elim
  | [], _ :: _, _ => rfl
  | a :: s, b :: t, h => by
    simp only [List.map_cons, lexI] at h
    rw [Op.bytesLess]
    rcases h with h | ⟨he, h⟩
    · have : a < b := by rw [UInt8.lt_iff_toNat_lt]; omega
      simp [this]
    · have e : a = b := UInt8.toNat_inj.1 (by omega)
      subst e
      simp [lex_less h]
theorem bytesL_key (s : ByteArray) : bytesL s = s.data.toList.map fun u => (u.toNat : Int) := by
  unfold bytesL bt
  apply List.ext_getElem?
  intro i
  simp only [List.getElem?_map]
  by_cases h : i < s.size
  · have h1 : i < s.data.toList.length := by simpa using h
    rw [List.getElem?_range h]
    have h2 : i < s.data.size := h
    simp [List.getElem?_eq_getElem h1, List.getD_eq_getElem?_getD, Array.getElem?_eq_getElem h2]
  · have h1 : s.data.toList.length ≤ i := by simpa using h
    rw [List.getElem?_eq_none (by simpa using h), List.getElem?_eq_none h1]; rfl
theorem bytesL_inj {s t : ByteArray} (h : bytesL s = bytesL t) : s = t := by
  rw [bytesL_key, bytesL_key] at h
  have h2 : s.data.toList = t.data.toList := by
    refine (List.map_inj_right ?_).1 h
    intro a b e; have e9 : (a.toNat : Int) = (b.toNat : Int) := e; exact UInt8.toNat_inj.1 (by omega)
  cases s; cases t; congr 1; exact Array.toList_inj.1 h2
theorem sle_said {s t : ByteArray} (h : sle (bytesL s) (bytesL t)) : ¬ s.size > t.size ∧ (s.size = t.size → strCmp .gtr s t = false) := by
  rcases h with (h | ⟨e, h⟩) | h
  · rw [bytesL_len, bytesL_len] at h; exact ⟨by omega, fun e => by omega⟩
  · rw [bytesL_len, bytesL_len] at e
    refine ⟨by omega, fun _ => ?_⟩
    rw [bytesL_key, bytesL_key] at h
    have h9 := lex_less h
    simp only [strCmp, ByteArray.toList_eq, h9, Bool.true_or, Bool.not_true]
  · have e := bytesL_inj h
    subst e
    exact ⟨by omega, fun _ => by simp [strCmp]⟩
/-- What the law of texts asks: the element that goes as a text does has the least text of all that go so. -/
theorem ElT.least {d : DfaD} {most : Int} {xs : List EL} (hl : ((elsOut d (lettersB d) most).length : Int) ≤ most) (hx : xs.map EL.dat = elsOut d (lettersB d) most) (hT : ElT d xs) {text : ByteArray} {i : Nat} (hi : i < xs.length) (he : (xs.getD i el0).to = goL d text) : sle (bytesL (xs.getD i el0).text) (bytesL text) := by
  obtain ⟨y, hy, hy1, hy2⟩ := least_in hl (bytesL text) (fun b h => bytesL_bd h)
  rw [← hx] at hy
  obtain ⟨x, hxm, rfl⟩ := List.mem_map.1 hy
  obtain ⟨k, hk, rfl⟩ := List.mem_iff_getElem.1 hxm
  have e1 : (xs.getD k el0).to = goL d text := by simp only [List.getD_eq_getElem?_getD, List.getElem?_eq_getElem hk, Option.getD_some]; exact hy1
  have h1 := findTo_nodup hT.nd hk
  have h2 := findTo_nodup hT.nd hi
  rw [e1] at h1; rw [he, h1] at h2
  have e2 : k = i := by omega
  subst e2
  have e3 : (xs.getD k el0) = xs[k] := by simp [List.getD_eq_getElem?_getD, List.getElem?_eq_getElem hk]
  rw [e3]; exact hy2
theorem ElsP.wrong {d : DfaD} {most : Int} {xs : List EL} {e : Int} (h : ElsP d most xs e) (h0 : e ≠ 0) (h5 : e ≠ 5) : rightB d = false := by
  by_cases hr : rightB d = true
  · by_cases hl : ((elsOut d (lettersB d) most).length : Int) ≤ most
    · exact absurd (h.2.1 hr hl).1 h0
    · exact absurd (h.2.2 hr hl).1 h5
  · exact Bool.eq_false_iff.2 hr
/-- How many of the first ways are one that is there. -/
def cntW (tos : List (List Int)) (to : List Int) (k : Nat) : Int := if ix to tos < k then 1 else 0
theorem cntW_yes {xs : List EL} (h : (xs.map EL.to).Nodup) {k : Nat} (hk : k < xs.length) {to : List Int} (he : (xs.getD k el0).to = to) : cntW (xs.map EL.to) to k + 1 = cntW (xs.map EL.to) to (k + 1) := by
  have h1 := findTo_nodup h hk
  have hm : (xs.getD k el0).to ∈ xs.map EL.to := List.mem_map.2 ⟨_, getD_mem' hk, rfl⟩
  unfold findTo at h1
  rw [if_pos hm, he] at h1
  unfold cntW
  rw [if_neg (by omega), if_pos (by omega)]; rfl
theorem cntW_no {xs : List EL} {k : Nat} (hk : k < xs.length) {to : List Int} (hm : to ∈ xs.map EL.to) (he : (xs.getD k el0).to ≠ to) : cntW (xs.map EL.to) to k = cntW (xs.map EL.to) to (k + 1) := by
  have h1 : ix to (xs.map EL.to) ≠ k := fun e => he (by rw [← mapTo_getD, ← e]; exact ix_get hm)
  unfold cntW
  by_cases h2 : ix to (xs.map EL.to) < k
  · rw [if_pos h2, if_pos (by omega)]
  · rw [if_neg h2, if_neg (by omega)]
theorem cntW_end {xs : List EL} {k : Nat} (hk : xs.length ≤ k) {to : List Int} (hm : to ∈ xs.map EL.to) : cntW (xs.map EL.to) to k = 1 := by
  have h1 := ix_lt hm
  rw [List.length_map] at h1
  unfold cntW; rw [if_pos (by omega)]
theorem cntW_bd (tos : List (List Int)) (to : List Int) (k : Nat) : 0 ≤ cntW tos to k ∧ cntW tos to k ≤ 1 := by unfold cntW; split <;> omega
theorem cntW_zero (tos : List (List Int)) (to : List Int) : cntW tos to 0 = 0 := by unfold cntW; rw [if_neg (by omega)]
end Go.Sx
