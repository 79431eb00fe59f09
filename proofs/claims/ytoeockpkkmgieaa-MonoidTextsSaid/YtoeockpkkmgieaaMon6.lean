/- All ways: none twice, the first changes nothing, none is lacking; products. Conditions: those of each theorem. -/
import Derived.Test.YtoeockpkkmgieaaMon5
namespace Go.Sx
set_option linter.unusedVariables false
set_option linter.unusedSimpArgs false
def nxD (d : DfaD) (t : List Int) (b : Int) : List Int := t.map fun q => stepD d q b
theorem elRun_ind {d : DfaD} {L : List Int} {most : Int} (P : Nat → List ED → Prop) (step : ∀ at_ out, P at_ out → at_ < out.length → P (at_ + 1) (L.foldl (addE d (out.getD at_ ([], ⟨#[]⟩))) out)) :
    ∀ (f at_ : Nat) (out : List ED), f + at_ = most.toNat → P at_ out → ((elRun d L most f at_ out).length : Int) ≤ most → ∃ a2, P a2 (elRun d L most f at_ out) ∧ (elRun d L most f at_ out).length ≤ a2 := by
  intro f
  induction f with
  | zero =>
    intro at_ out hf hP hl
    have e : elRun d L most 0 at_ out = out := rfl
    rw [e] at hl ⊢
    exact ⟨at_, hP, by omega⟩
  | succ f ih =>
    intro at_ out hf hP hl
    by_cases h : at_ < out.length ∧ (out.length : Int) ≤ most
    · have e : elRun d L most (f + 1) at_ out = elRun d L most f (at_ + 1) (L.foldl (addE d (out.getD at_ ([], ⟨#[]⟩))) out) := by rw [elRun, if_pos h]
      rw [e] at hl ⊢
      exact ih _ _ (by omega) (step _ _ hP h.1) hl
    · rw [elRun_end h] at hl ⊢
      exact ⟨at_, hP, by omega⟩
theorem addE_nodup {d : DfaD} {e : ED} {acc : List ED} {b : Int} (h : (acc.map Prod.fst).Nodup) : ((addE d e acc b).map Prod.fst).Nodup := by
  unfold addE
  split
  · exact h
  · rename_i hn
    rw [List.map_append, List.nodup_append]
    refine ⟨h, by simp, ?_⟩
    intro a ha c hc
    simp only [List.map_cons, List.map_nil, List.mem_singleton] at hc
    rw [hc]
    intro e9; exact hn (e9 ▸ ha)
theorem foldAdd_nodup {d : DfaD} {e : ED} : ∀ (L : List Int) {acc : List ED}, (acc.map Prod.fst).Nodup → ((L.foldl (addE d e) acc).map Prod.fst).Nodup
  | [], _, h => h
  | b :: L, _, h => foldAdd_nodup L (addE_nodup h)
theorem addE_mem (d : DfaD) (e : ED) (acc : List ED) (b : Int) : nxD d e.1 b ∈ (addE d e acc b).map Prod.fst := by
  unfold addE
  split
  · assumption
  · rw [List.map_append]; exact List.mem_append_right _ (List.mem_singleton.2 rfl)
theorem foldAdd_mem {d : DfaD} {e : ED} {b : Int} : ∀ (L : List Int) (acc : List ED), b ∈ L → nxD d e.1 b ∈ (L.foldl (addE d e) acc).map Prod.fst
  | c :: L, acc, h => by
    rw [List.foldl_cons]
    rcases List.mem_cons.1 h with rfl | h
    · obtain ⟨r, hr, _⟩ := foldAdd_pre d e L (addE d e acc b)
      rw [hr, List.map_append]; exact List.mem_append_left _ (addE_mem d e acc b)
    · exact foldAdd_mem L _ h
structure ElC (d : DfaD) (L : List Int) (at_ : Nat) (out : List ED) : Prop where
  nd : (out.map Prod.fst).Nodup
  hd : ∃ r, out = firstE d :: r
  cl : ∀ i, i < at_ → i < out.length → ∀ b, b ∈ L → nxD d (out.getD i ([], ⟨#[]⟩)).1 b ∈ out.map Prod.fst
theorem ElC.step {d : DfaD} {L : List Int} {at_ : Nat} {out : List ED} (h : ElC d L at_ out) (ha : at_ < out.length) : ElC d L (at_ + 1) (L.foldl (addE d (out.getD at_ ([], ⟨#[]⟩))) out) := by
  obtain ⟨r, hr, _⟩ := foldAdd_pre d (out.getD at_ ([], ⟨#[]⟩)) L out
  refine ⟨foldAdd_nodup L h.nd, ?_, fun i hi hl b hb => ?_⟩
  · obtain ⟨r2, h2⟩ := h.hd
    exact ⟨r2 ++ r, by rw [hr, h2]; rfl⟩
  · have hio : i < out.length := by omega
    by_cases e : i = at_
    · subst e
      have e2 : (L.foldl (addE d (out.getD i ([], ⟨#[]⟩))) out).getD i ([], ⟨#[]⟩) = out.getD i ([], ⟨#[]⟩) := by rw [hr, getD_pre hio]
      rw [e2]; exact foldAdd_mem L out hb
    · rw [hr, getD_pre hio, List.map_append]
      exact List.mem_append_left _ (h.cl i (by omega) hio b hb)
theorem els_closed {d : DfaD} {L : List Int} {most : Int} (hl : ((elsOut d L most).length : Int) ≤ most) :
    ((elsOut d L most).map Prod.fst).Nodup ∧ (∃ r, elsOut d L most = firstE d :: r) ∧ ∀ t, t ∈ (elsOut d L most).map Prod.fst → ∀ b, b ∈ L → nxD d t b ∈ (elsOut d L most).map Prod.fst := by
  obtain ⟨a2, h, hle⟩ := elRun_ind (ElC d L) (fun at_ out h ha => h.step ha) most.toNat 0 [firstE d] (by omega) ⟨by simp, ⟨[], rfl⟩, fun i hi => by omega⟩ hl
  refine ⟨h.nd, h.hd, fun t ht b hb => ?_⟩
  obtain ⟨x, hx, rfl⟩ := List.mem_map.1 ht
  obtain ⟨i, hi, rfl⟩ := List.mem_iff_getElem.1 hx
  have hi2 : i < (elRun d L most most.toNat 0 [firstE d]).length := hi
  have h9 := h.cl i (by omega) hi2 b hb
  simp only [List.getD_eq_getElem?_getD, List.getElem?_eq_getElem hi2, Option.getD_some] at h9
  exact h9
theorem head_of (d : DfaD) : ∀ n : Nat, n < 256 → ∃ c : Nat, c ≤ n ∧ (c : Int) ∈ lettersB d ∧ d.cls.getD c 0 = d.cls.getD n 0 := by
  intro n
  induction n using Nat.strongRecOn with
  | _ n ih =>
    intro hn
    rcases hb : headB d n with _ | _
    · have h9 : ((List.range n).any fun k => decide (d.cls.getD k 0 = d.cls.getD n 0)) = true := by unfold headB at hb; simpa using hb
      obtain ⟨k, hk, he⟩ := List.any_eq_true.1 h9
      rw [List.mem_range] at hk
      obtain ⟨c, hc, hm, hce⟩ := ih k hk (by omega)
      exact ⟨c, by omega, hm, hce.trans (by simpa using he)⟩
    · exact ⟨n, Nat.le_refl n, List.mem_map.2 ⟨n, List.mem_filter.2 ⟨List.mem_range.2 hn, hb⟩, rfl⟩, rfl⟩
def goLl (d : DfaD) (l : List Int) : List Int := List.map (fun s : Nat => l.foldl (stepD d) (s : Int)) (List.range d.acc.length)
theorem goLl_snoc (d : DfaD) (l : List Int) (b : Int) : goLl d (l ++ [b]) = nxD d (goLl d l) b := by
  unfold goLl nxD
  rw [List.map_map]
  apply List.map_congr_left
  intro s hs
  rw [List.foldl_append]; rfl
theorem nxD_cls {d : DfaD} {t : List Int} {b c : Int} (h : d.cls.getD c.toNat 0 = d.cls.getD b.toNat 0) : nxD d t b = nxD d t c := by
  unfold nxD
  apply List.map_congr_left
  intro q hq
  unfold stepD; rw [h]
theorem all_ways {d : DfaD} {most : Int} (hl : ((elsOut d (lettersB d) most).length : Int) ≤ most) : ∀ l : List Int, (∀ b, b ∈ l → 0 ≤ b ∧ b < 256) → goLl d l ∈ (elsOut d (lettersB d) most).map Prod.fst := by
  obtain ⟨_, ⟨r, hr⟩, hc⟩ := els_closed hl
  intro l
  suffices h : ∀ m : List Int, (∀ b, b ∈ m → 0 ≤ b ∧ b < 256) → goLl d m.reverse ∈ (elsOut d (lettersB d) most).map Prod.fst by
    intro hb; have h9 := h l.reverse (fun b h => hb b (List.mem_reverse.1 h)); rw [List.reverse_reverse] at h9; exact h9
  intro m
  induction m with
  | nil => intro _; rw [hr]; exact List.mem_cons_self
  | cons b m ih =>
    intro hb
    have h1 := ih (fun c h => hb c (List.mem_cons_of_mem _ h))
    have h2 := hb b List.mem_cons_self
    obtain ⟨c, hcb, hm, hce⟩ := head_of d b.toNat (by omega)
    rw [List.reverse_cons, goLl_snoc, nxD_cls (c := (c : Int)) (by simpa using hce)]
    exact hc _ h1 _ hm
theorem way_in {d : DfaD} {most : Int} (hl : ((elsOut d (lettersB d) most).length : Int) ≤ most) (t : ByteArray) : goL d t ∈ (elsOut d (lettersB d) most).map Prod.fst := all_ways hl (bytesL t) (fun b h => bytesL_bd h)
theorem goL_getD {d : DfaD} (t : ByteArray) {q : Int} (h0 : 0 ≤ q) (h1 : q < (d.acc.length : Int)) : (goL d t).getD q.toNat 0 = goW d t q := by
  unfold goL
  rw [List.getD_eq_getElem?_getD, List.getElem?_map, List.getElem?_eq_getElem (by simp; omega)]
  simp only [List.getElem_range, Option.map_some, Option.getD_some]
  congr 1; omega
theorem goL_prod {d : DfaD} (hr : rightB d = true) (s t : ByteArray) : thenL (goL d s) (goL d t) = goL d (s ++ t) := by
  have e : goL d (s ++ t) = (goL d s).map (fun q => goW d t q) := by
    unfold goL
    rw [List.map_map]
    apply List.map_congr_left
    intro x hx
    show goW d (s ++ t) x = goW d t (goW d s x)
    unfold goW; rw [bytesL_append, List.foldl_append]
  rw [e, thenL]
  apply List.map_congr_left
  intro q hq
  have h9 := goL_bd hr s hq
  exact goL_getD t h9.1 h9.2
theorem bytesL_nil : bytesL ⟨#[]⟩ = [] := rfl
theorem goL_left {d : DfaD} (hr : rightB d = true) (t : ByteArray) : thenL (goL d ⟨#[]⟩) (goL d t) = goL d t := by
  rw [goL_prod hr]; unfold goL goW; rw [bytesL_append, bytesL_nil, List.nil_append]
theorem goL_right {d : DfaD} (hr : rightB d = true) (t : ByteArray) : thenL (goL d t) (goL d ⟨#[]⟩) = goL d t := by
  rw [goL_prod hr]; unfold goL goW; rw [bytesL_append, bytesL_nil, List.append_nil]
theorem tmod_wrap {x n : Int} (h : 0 < n) : (-n < x.tmod n ∧ x.tmod n < n) ∧ 0 ≤ (x.tmod n + n).tmod n ∧ (x.tmod n + n).tmod n < n := by
  have h1 : -n < x.tmod n := by have := Int.lt_tmod_of_pos x h; omega
  have h2 := Int.tmod_lt_of_pos x h
  exact ⟨⟨h1, h2⟩, Int.tmod_nonneg n (by omega), Int.tmod_lt_of_pos _ h⟩
theorem ElsP.nil {d : DfaD} {most : Int} {xs : List EL} {e : Int} (h : ElsP d most xs e) (he : e ≠ 0) : xs = [] := by
  by_cases hr : rightB d = true
  · by_cases hl : ((elsOut d (lettersB d) most).length : Int) ≤ most
    · exact absurd (h.2.1 hr hl).1 he
    · exact (h.2.2 hr hl).2
  · exact (h.1 (Bool.eq_false_iff.2 hr)).1
/-- What the law of products says, of the elements of an automaton. -/
structure ElT (d : DfaD) (xs : List EL) : Prop where
  to : ∀ i, i < xs.length → (xs.getD i el0).to = goL d (xs.getD i el0).text
  pos : 0 < xs.length
  one : (xs.getD 0 el0).to = goL d ⟨#[]⟩
  nd : (xs.map EL.to).Nodup
  all : ∀ t : ByteArray, goL d t ∈ xs.map EL.to
theorem ElT.of {d : DfaD} {most : Int} {xs : List EL} (hl : ((elsOut d (lettersB d) most).length : Int) ≤ most) (hx : xs.map EL.dat = elsOut d (lettersB d) most) (hI : ElI d xs) : ElT d xs := by
  obtain ⟨h1, ⟨r, h2⟩, h3⟩ := els_closed hl
  have e := els_to hx
  have hp : 0 < xs.length := by rw [els_len hx, h2]; simp
  refine ⟨hI.go, hp, ?_, by rw [e]; exact h1, fun t => by rw [e]; exact way_in hl t⟩
  have h9 := dat_getD hp
  rw [hx, h2] at h9
  simp only [List.getD_cons_zero, EL.dat] at h9
  have h10 := congrArg Prod.fst h9
  simp only at h10
  rw [← h10]; rfl
theorem findTo_nodup {xs : List EL} (h : (xs.map EL.to).Nodup) {k : Nat} (hk : k < xs.length) : findTo (xs.map EL.to) (xs.getD k el0).to = (k : Int) := by
  refine findTo_at hk rfl (fun i hi he => ?_)
  have h1 : (xs.map EL.to)[i]'(by simp; omega) = (xs.map EL.to)[k]'(by simpa using hk) := by
    simp only [List.getD_eq_getElem?_getD, List.getElem?_eq_getElem hk, List.getElem?_eq_getElem (Nat.lt_trans hi hk), Option.getD_some] at he
    simpa using he
  have := (List.getElem_inj h).1 h1
  omega
theorem findTo_mem {xs : List EL} {to : List Int} (h : to ∈ xs.map EL.to) : 0 ≤ findTo (xs.map EL.to) to ∧ findTo (xs.map EL.to) to < (xs.length : Int) ∧ (xs.getD (findTo (xs.map EL.to) to).toNat el0).to = to := by
  unfold findTo
  rw [if_pos h]
  have h1 := ix_lt h
  rw [List.length_map] at h1
  refine ⟨by omega, by omega, ?_⟩
  rw [Int.toNat_natCast, ← mapTo_getD]
  exact ix_get h
theorem ElT.times {d : DfaD} (hr : rightB d = true) {xs : List EL} (h : ElT d xs) {i j : Int} (hi : 0 ≤ i ∧ i < (xs.length : Int)) (hj : 0 ≤ j ∧ j < (xs.length : Int)) :
    0 ≤ timesT (xs.map EL.to) i j ∧ timesT (xs.map EL.to) i j < (xs.length : Int) ∧ (xs.getD (timesT (xs.map EL.to) i j).toNat el0).to = goL d ((xs.getD i.toNat el0).text ++ (xs.getD j.toNat el0).text) := by
  have e1 := h.to i.toNat (by omega)
  have e2 := h.to j.toNat (by omega)
  have e3 := timesT_in hi hj (by rw [e1, e2]; exact goL_then hr _ _)
  rw [e1, e2, goL_prod hr] at e3
  rw [e3]
  exact findTo_mem (h.all _)
theorem ElT.left {d : DfaD} (hr : rightB d = true) {xs : List EL} (h : ElT d xs) {j : Int} (hj : 0 ≤ j ∧ j < (xs.length : Int)) : timesT (xs.map EL.to) 0 j = j := by
  have e2 := h.to j.toNat (by omega)
  have e3 := timesT_in (l := xs) (i := 0) ⟨by omega, by have := h.pos; omega⟩ hj (by show thenB (xs.getD 0 el0).to _ = true; rw [h.one, e2]; exact goL_then hr _ _)
  have e4 : (xs.getD (0 : Int).toNat el0).to = goL d ⟨#[]⟩ := h.one
  rw [e3, e4]
  have e5 : thenL (goL d ⟨#[]⟩) (xs.getD j.toNat el0).to = (xs.getD j.toNat el0).to := by rw [e2]; exact goL_left hr _
  rw [e5, findTo_nodup h.nd (by omega)]; omega
theorem ElT.right {d : DfaD} (hr : rightB d = true) {xs : List EL} (h : ElT d xs) {i : Int} (hi : 0 ≤ i ∧ i < (xs.length : Int)) : timesT (xs.map EL.to) i 0 = i := by
  have e2 := h.to i.toNat (by omega)
  have e3 := timesT_in (l := xs) (j := 0) hi ⟨by omega, by have := h.pos; omega⟩ (by show thenB _ (xs.getD 0 el0).to = true; rw [h.one, e2]; exact goL_then hr _ _)
  have e4 : (xs.getD (0 : Int).toNat el0).to = goL d ⟨#[]⟩ := h.one
  rw [e3, e4]
  have e5 : thenL (xs.getD i.toNat el0).to (goL d ⟨#[]⟩) = (xs.getD i.toNat el0).to := by rw [e2]; exact goL_right hr _
  rw [e5, findTo_nodup h.nd (by omega)]; omega
end Go.Sx
