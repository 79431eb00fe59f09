/- Numbers taken out of a list by what a function says; a map of what goes out. Conditions: those of each theorem. -/
import Derived.Test.YtoeockpkkmgieaaEqualLeastB3
import Derived.Test.YtoeockpkkmgieaaEqualLeastB1
import Derived.Test.YtoeockpkkmgieaaEqualLeastB2
namespace Go.Proofs.Ytoeockpkkmgieaa
open Go Go.Sx
set_option linter.unusedVariables false
set_option linter.unusedSimpArgs false
/-- the first place at which p says yes -/
def noneTo (p : Int → Bool) (s : List Int) (k : Nat) : Prop := (s.take k).filter p = []
theorem noneTo_step {p : Int → Bool} {s : List Int} {k : Nat} (h : noneTo p s k) (hk : k < s.length) (hp : ¬ p (s.getD k 0) = true) : noneTo p s (k + 1) := by
  have e : s.getD k 0 = s[k] := by simp [List.getD_eq_getElem?_getD, List.getElem?_eq_getElem hk]
  rw [e] at hp
  unfold noneTo at *
  rw [List.take_add_one, List.getElem?_eq_getElem hk, List.filter_append, h]; simp [hp]
theorem none_keep {p : Int → Bool} {s : List Int} {k : Nat} (h : noneTo p s k) : (s.take k).filter (fun x => !p x) = s.take k := by
  rw [List.filter_eq_self]
  intro x hx
  have : x ∉ (s.take k).filter p := by rw [show (s.take k).filter p = [] from h]; simp
  simpa [hx] using this
/-- the program's loop -/
structure DelI (p : Int → Bool) (s ys : List Int) (i j : Nat) : Prop where
  len : ys.length = s.length
  le : i < j
  pre : ys.take i = (s.take j).filter (fun x => !p x)
  post : ys.drop j = s.drop j
theorem DelI.start {p : Int → Bool} {s : List Int} {k : Nat} (h : noneTo p s k) (hk : k < s.length) (hp : p (s.getD k 0) = true) : DelI p s s k (k + 1) := by
  have e : s.getD k 0 = s[k] := by simp [List.getD_eq_getElem?_getD, List.getElem?_eq_getElem hk]
  rw [e] at hp
  refine ⟨rfl, by omega, ?_, rfl⟩
  rw [List.take_add_one, List.getElem?_eq_getElem hk, List.filter_append, none_keep h]; simp [hp]
section
variable {p : Int → Bool} {s ys : List Int} {i j : Nat}
theorem DelI.get (h : DelI p s ys i j) (hj : j < s.length) : ys.getD j 0 = s.getD j 0 := by
  have h1 := congrArg (fun l => l[0]?) h.post
  simp only [List.getElem?_drop, Nat.add_zero] at h1
  simp only [List.getD_eq_getElem?_getD, h1]
theorem DelI.no (h : DelI p s ys i j) (hj : j < s.length) (hp : p (ys.getD j 0) = true) : DelI p s ys i (j + 1) := by
  rw [h.get hj] at hp
  have e : s.getD j 0 = s[j] := by simp [List.getD_eq_getElem?_getD, List.getElem?_eq_getElem hj]
  rw [e] at hp
  refine ⟨h.len, by have := h.le; omega, ?_, ?_⟩
  · rw [h.pre, List.take_add_one, List.getElem?_eq_getElem hj, List.filter_append]; simp [hp]
  · have := congrArg (List.drop 1) h.post; simpa [List.drop_drop] using this
theorem DelI.yes (h : DelI p s ys i j) (hj : j < s.length) (hp : ¬ p (ys.getD j 0) = true) : DelI p s (ys.set i (ys.getD j 0)) (i + 1) (j + 1) := by
  have hg := h.get hj
  rw [hg] at hp ⊢
  have e : s.getD j 0 = s[j] := by simp [List.getD_eq_getElem?_getD, List.getElem?_eq_getElem hj]
  rw [e] at hp ⊢
  have hle := h.le; have hlen := h.len
  have hi : i < ys.length := by omega
  refine ⟨by simp [hlen], by omega, ?_, ?_⟩
  · rw [List.take_add_one, List.take_set_of_le (by omega), h.pre, List.getElem?_set_self hi]
    rw [List.take_add_one, List.getElem?_eq_getElem hj, List.filter_append]; simp [hp]
  · rw [List.drop_set_of_lt (by omega)]
    have := congrArg (List.drop 1) h.post; simpa [List.drop_drop] using this
theorem DelI.fin (h : DelI p s ys i j) (hj : ¬ j < s.length) : ys.take i = s.filter (fun x => !p x) := by
  rw [h.pre, List.take_of_length_le (by omega)]
end
theorem findFrom_spec {p : Int → Bool} {s : List Int} : ∀ (n k : Nat), n = s.length - k → noneTo p s k → k ≤ s.length → (findFrom p s k = -1 ∧ noneTo p s s.length) ∨ ∃ j : Nat, findFrom p s k = (j : Int) ∧ j < s.length ∧ noneTo p s j ∧ p (s.getD j 0) = true := by
  intro n
  induction n with
  | zero =>
    intro k hn h hk
    have : k = s.length := by omega
    subst this
    exact .inl ⟨findFrom_end p s _ (Nat.le_refl _), h⟩
  | succ n ih =>
    intro k hn h hk
    have hlt : k < s.length := by omega
    by_cases hp : p (s.getD k 0) = true
    · exact .inr ⟨k, findFrom_yes p s k hlt hp, hlt, h, hp⟩
    · rw [findFrom_no p s k hlt hp]
      exact ih (k + 1) (by omega) (noneTo_step h hlt hp) hlt
theorem findI_spec (p : Int → Bool) (s : List Int) : (findI p s = -1 ∧ noneTo p s s.length) ∨ ∃ j : Nat, findI p s = (j : Int) ∧ j < s.length ∧ noneTo p s j ∧ p (s.getD j 0) = true :=
  findFrom_spec _ 0 rfl (by simp [noneTo]) (by omega)
def GoneM (gm : List (Int × Int)) (l : List Int) (k : Nat) : Prop := ∀ x, (getM gm x).getD 0 = if x ∈ l.take k then 1 else 0
theorem GoneM.start (l : List Int) : GoneM [] l 0 := fun x => by simp [getM]
theorem GoneM.step {gm : List (Int × Int)} {l : List Int} {k : Nat} (h : GoneM gm l k) (hk : k < l.length) : GoneM (putM gm (l.getD k 0) 1) l (k + 1) := fun x => by
  rw [getM_put, take_succ_getD 0 hk]
  by_cases e : x = l.getD k 0
  · rw [if_pos e, if_pos (by simp [e])]; rfl
  · rw [if_neg e, h x]
    by_cases e2 : x ∈ l.take k
    · rw [if_pos e2, if_pos (List.mem_append_left _ e2)]
    · rw [if_neg e2, if_neg (by simp only [List.mem_append, List.mem_singleton]; exact fun h9 => h9.elim e2 e)]
theorem GoneM.fin {gm : List (Int × Int)} {l : List Int} {k : Nat} (h : GoneM gm l k) (hk : ¬ k < l.length) (x : Int) : decide ((getM gm x).getD 0 = 1) = decide (x ∈ l) := by
  rw [h x, List.take_of_length_le (by omega)]
  by_cases e : x ∈ l
  · rw [if_pos e]; simp [e]
  · rw [if_neg e]; simp [e]
theorem mapAt_keep {κ ν : Type} {w w' : World} {ek : κ → Value} {evl : ν → Value} {g : Nat} {m : List (κ × ν)} {S : List Nat} (h : MapAt w ek evl g m) (k : Keep S w w') (hS : g ∉ S) : MapAt w' ek evl g m := by
  obtain ⟨es, clock, h1, h2⟩ := h
  exact ⟨es, clock, k.obj h1 hS, h2⟩
theorem map_keep {κ ν : Type} {w w' w'' : World} {L A : List Chunk} {G : List (List Chunk)} {ek : κ → Value} {evl : ν → Value} {g : Nat} {m : List (κ × ν)} (h : UpG w L w' G) (i j : Nat) (hij : Nat.beq i j = false) (hi : G[i]? = some A) (hj : G[j]? = some [mapC ek evl g m]) (k : Keep (ats A) w' w'') : MapAt w'' ek evl g m :=
  mapAt_keep (h.mapAt j hj) k fun hm => (h.hp2 i j hij hi hj).apart hm (by simp [ats, mapC])
theorem spl_ms {ms : List (LR Int)} {b k : Nat} {out : List Int} {gm : List (Int × Int)} {a oa : Option Addr} {n c on oc : Nat} (hb : b < ms.length) (hg : GoneM gm out k) (hk : ¬ k < out.length) :
    ((ms.set b ⟨a, n, c, (ms.getD b lr0).xs.filter (fun x => !(fun x => decide ((getM gm x).getD 0 = 1)) x)⟩) ++ ([⟨oa, on, oc, out⟩] : List (LR Int))).length = ms.length + 1 ∧
    mxs ((ms.set b ⟨a, n, c, (ms.getD b lr0).xs.filter (fun x => !(fun x => decide ((getM gm x).getD 0 = 1)) x)⟩) ++ ([⟨oa, on, oc, out⟩] : List (LR Int))) b = (mxs ms b).filter (fun x => !decide (x ∈ out)) ∧
    mxs ((ms.set b ⟨a, n, c, (ms.getD b lr0).xs.filter (fun x => !(fun x => decide ((getM gm x).getD 0 = 1)) x)⟩) ++ ([⟨oa, on, oc, out⟩] : List (LR Int))) ms.length = out ∧
    ∀ i, i < ms.length → i ≠ b → ((ms.set b ⟨a, n, c, (ms.getD b lr0).xs.filter (fun x => !(fun x => decide ((getM gm x).getD 0 = 1)) x)⟩) ++ ([⟨oa, on, oc, out⟩] : List (LR Int))).getD i lr0 = ms.getD i lr0 := by
  have hl : (ms.set b ⟨a, n, c, (ms.getD b lr0).xs.filter (fun x => !(fun x => decide ((getM gm x).getD 0 = 1)) x)⟩).length = ms.length := List.length_set
  refine ⟨by rw [List.length_append, hl]; rfl, ?_, ?_, fun i hi hne => ?_⟩
  · unfold mxs
    rw [getD_preL (by rw [hl]; exact hb), getD_setLP hb, if_pos rfl]
    refine List.filter_congr fun x _ => ?_
    show (!decide ((getM gm x).getD 0 = 1)) = _
    rw [hg.fin hk x]
  · unfold mxs
    rw [← hl, getD_snocL]
  · rw [getD_preL (by rw [hl]; exact hi), getD_setLP hb, if_neg (fun e => hne e.symm)]
theorem flat_len {α β : Type} {f : α → List β} {N : Nat} : ∀ {l : List α}, (∀ x, x ∈ l → (f x).length ≤ N) → (l.flatMap f).length ≤ l.length * N
  | [], _ => by simp
  | a :: l, h => by
    rw [List.flatMap_cons, List.length_append, List.length_cons, Nat.add_mul, Nat.one_mul]
    have h1 := h a List.mem_cons_self
    have h2 := flat_len (l := l) (fun x hx => h x (List.mem_cons_of_mem _ hx))
    omega
theorem frL_len {d : DfaD} {F : List (LR (LR Int))} (hF : FromP d F) {c t : Nat} (hc : c < F.length) (ht : t < d.acc.length) : (frL F c (t : Int)).length ≤ d.acc.length := by
  have := nodup_sub_len (hF.nd c hc t ht) (m := (List.range d.acc.length).map fun i : Nat => (i : Int)) (fun x hx => by
    obtain ⟨j, hj, e, _⟩ := (hF.mem c hc t ht x).1 hx
    exact List.mem_map.2 ⟨j, List.mem_range.2 hj, e.symm⟩)
  simpa using this
theorem LsN_len {d : DfaD} {F : List (LR (LR Int))} {bl : List Int} {ms : List (LR Int)} (hF : FromP d F) (hp : PartP d.acc.length bl ms) (hr : rightB d = true) {c t : Nat} (hc : c < F.length) (ht : t < ms.length) (q r : Nat) : (LsN F c (mxs ms t) q r).length ≤ 4097 * 4096 := by
  have hn := (rightB_iff.1 hr).1
  have hm := hp.mlen ht
  have h1 : ((mxs ms t).take q).length ≤ 4096 := by rw [List.length_take]; omega
  have h2 := flat_len (f := frL F c) (l := (mxs ms t).take q) (N := 4096) (fun x hx => by
    obtain ⟨i, hi, rfl, _⟩ := (hp.mem t ht x).1 (List.mem_of_mem_take hx)
    have := frL_len hF hc hi; omega)
  have h3 : (frL F c ((mxs ms t).getD q 0)).length ≤ 4096 := by
    by_cases hq : q < (mxs ms t).length
    · obtain ⟨i, hi, e, _⟩ := (hp.mem t ht _).1 (getD_mem' (d := 0) hq)
      rw [e]; have := frL_len hF hc hi; omega
    · have e : (mxs ms t).getD q 0 = ((0 : Nat) : Int) := by rw [List.getD_eq_getElem?_getD, List.getElem?_eq_none (by omega)]; rfl
      rw [e]; have := frL_len hF hc (t := 0) (by omega); omega
  have h4 := Nat.mul_le_mul_right 4096 h1
  unfold LsN
  rw [List.length_append, List.length_take]
  omega
theorem PsI.mlen {nb : Nat} {bl L : List Int} {ps : List (LR Int)} {met : List Int} (h : PsI nb bl L ps met) : met.length ≤ L.length := by
  have := nodup_sub_len h.nd (m := L.map fun x => bl.getD x.toNat 0) (fun y hy => by
    obtain ⟨x, hx, e⟩ := (h.mt y).1 hy
    exact List.mem_map.2 ⟨x, hx, e⟩)
  simpa using this
theorem pq_next {met : List Int} {pq ps : List (LR Int)} {nb q b : Nat} (nd : met.Nodup) (hnn : ∀ j, j < met.length → 0 ≤ met.getD j 0) (h : pq.length = nb ∧ ∀ j, q ≤ j → j < met.length → pq.getD (met.getD j 0).toNat lr0 = ps.getD (met.getD j 0).toNat lr0) (hq : q < met.length) (hb : met.getD q 0 = ((b : Nat) : Int)) (hbn : b < nb) :
    (pq.set b lr0).length = nb ∧ ∀ j, q + 1 ≤ j → j < met.length → (pq.set b lr0).getD (met.getD j 0).toNat lr0 = ps.getD (met.getD j 0).toNat lr0 := by
  refine ⟨by rw [List.length_set]; exact h.1, fun j h1 h2 => ?_⟩
  rw [getD_setLP (by rw [h.1]; exact hbn), if_neg]
  · exact h.2 j (by omega) h2
  · intro e
    rw [List.nodup_iff_pairwise_ne, List.pairwise_iff_getElem] at nd
    apply nd q j hq h2 (by omega)
    have e3 : met.getD q 0 = met[q] := by simp [List.getD_eq_getElem?_getD, List.getElem?_eq_getElem hq]
    have e4 : met.getD j 0 = met[j] := by simp [List.getD_eq_getElem?_getD, List.getElem?_eq_getElem h2]
    have := hnn j h2
    rw [← e3, ← e4, hb]; omega
/-- The rows of what is parted. -/
abbrev innP : Inn (LR Int) Int := inLR (tyI .i64) 3
end Go.Proofs.Ytoeockpkkmgieaa


/- The walks of functions, printed by wip/tools/gw.py. -/
namespace Go.Proofs.Ytoeockpkkmgieaa
open Go Go.Sx
set_option linter.unusedVariables false
set_option linter.unusedSimpArgs false
set_option maxRecDepth 20000 in
theorem hput_any (g : Nat) (b : Int) (c : Int) (v0 : Value) (v1 : Value) (v2 : Value) (ta : Option Addr) (td : List (Int × Int)) (tc : Nat) (wa : Option Addr) (wt : List (LR Bool)) (wc : Nat) (wn : Nat) (w : World) (hp : Hp w [blk g #[v0, v1, v2, .slice ta td.length tc, .slice wa wn wc] 117, rowT tyTk (.slice ta td.length tc) 119 td, rowT tyLR (.slice wa wn wc) 23 wt, manyF (inLR tyB 4).row wt]) (hb : 0 ≤ b ∧ b < (wt.length : Int)) (hc : 0 ≤ c ∧ c < ((wt.getD b.toNat lr0).xs.length : Int)) (hl : td.length ≤ 100000000) :
    Calls Try.prog 104 #[.pointer (some ⟨g, 0, none⟩), .agg #[.int .i64 b, .int .i64 c]] w (Ret fun v w' => ∃ ta2 : Option Addr, ∃ tc2 : Nat, ∃ wt2 : List (LR Bool), v = .tuple #[] ∧ Upd w [blk g #[v0, v1, v2, .slice ta td.length tc, .slice wa wn wc] 117, rowT tyTk (.slice ta td.length tc) 119 td, rowT tyLR (.slice wa wn wc) 23 wt, manyF (inLR tyB 4).row wt] w' [blk g #[v0, v1, v2, .slice ta2 ((td ++ [(b, c)]).length) tc2, .slice wa wn wc] 117, rowT tyTk (.slice ta2 ((td ++ [(b, c)]).length) tc2) 119 (td ++ [(b, c)]), rowT tyLR (.slice wa wn wc) 23 wt2, manyF (inLR tyB 4).row wt2] ∧ (WtSet wt b.toNat c.toNat true wt2)) := by
  refine calls_of_W (args := [.pointer (some ⟨g, 0, none⟩), .agg #[.int .i64 b, .int .i64 c]]) Try.func104 rfl rfl rfl ?_
  have H0 : UpG w [blk g #[v0, v1, v2, .slice ta td.length tc, .slice wa wn wc] 117, rowT tyTk (.slice ta td.length tc) 119 td, rowT tyLR (.slice wa wn wc) 23 wt, manyF (inLR tyB 4).row wt] w [[blk g #[v0, v1, v2, .slice ta td.length tc, .slice wa wn wc] 117], [rowT tyTk (.slice ta td.length tc) 119 td], [rowT tyLR (.slice wa wn wc) 23 wt], [manyF (inLR tyB 4).row wt]] := (UpG.refl hp).re rfl
  show W _ _ _ _ [(0, .pointer (some ⟨g, 0, none⟩)), (1, .agg #[.int .i64 b, .int .i64 c])] w
  refine W.seq ?_
  refine W.region ?_
  refine WL.op rfl (d_box rfl fun w1 u1 => ?_)
  have H1 : UpG w [blk g #[v0, v1, v2, .slice ta td.length tc, .slice wa wn wc] 117, rowT tyTk (.slice ta td.length tc) 119 td, rowT tyLR (.slice wa wn wc) 23 wt, manyF (inLR tyB 4).row wt] w1 [[blk g #[v0, v1, v2, .slice ta td.length tc, .slice wa wn wc] 117], [rowT tyTk (.slice ta td.length tc) 119 td], [rowT tyLR (.slice wa wn wc) 23 wt], [manyF (inLR tyB 4).row wt], [blk w.heap.size #[.int .i64 b, .int .i64 c] 119]] := H0.new' u1
  refine WL.done (X.then_code ?_)
  refine W.seq ?_
  refine W.regionD mixed (by kernel_rfl) fun hok1 w2 k1 => ?_
  have H2 : UpG w [blk g #[v0, v1, v2, .slice ta td.length tc, .slice wa wn wc] 117, rowT tyTk (.slice ta td.length tc) 119 td, rowT tyLR (.slice wa wn wc) 23 wt, manyF (inLR tyB 4).row wt] w2 [[blk g #[v0, v1, v2, .slice ta td.length tc, .slice wa wn wc] 117], [rowT tyTk (.slice ta td.length tc) 119 td], [rowT tyLR (.slice wa wn wc) 23 wt], [manyF (inLR tyB 4).row wt], [blk w.heap.size #[.int .i64 b, .int .i64 c] 119]] := H1.kept k1
  refine WD.take hok1 0 (.pointer (some ⟨g, 0, none⟩)) (fun _ => True) rfl rfl rfl rfl rfl trivial (.inl ⟨rfl, fun _ _ => d_move rfl ⟨rfl, rfl⟩⟩) ?_
  refine WD.take hok1 1 (.pointer (some ⟨g, 0, none⟩)) (fun _ => True) rfl rfl rfl rfl rfl trivial (.inl ⟨rfl, fun _ _ => d_nilCheck rfl ⟨rfl, rfl⟩⟩) ?_
  refine WD.take hok1 2 (.pointer (some ⟨g, 4, none⟩)) (fun _ => True) rfl rfl rfl rfl rfl trivial (.inl ⟨rfl, fun _ _ => d_fieldAddrB fld117_4 rfl rfl ⟨rfl, rfl⟩⟩) ?_
  refine WD.take hok1 3 (.slice wa wn wc) (fun w' => w'.heap[g]? = some (.cells #[v0, v1, v2, .slice ta td.length tc, .slice wa wn wc] 117 (0, 0))) rfl rfl rfl rfl rfl (H2.blk 0 rfl) (.inl ⟨rfl, fun _ hC => d_loadB Try.underlying29 rfl rfl hC rfl ⟨rfl, rfl⟩⟩) ?_
  refine WD.take hok1 4 (.pointer (some ⟨w.heap.size, 0, none⟩)) (fun _ => True) rfl rfl rfl rfl rfl trivial (.inl ⟨rfl, fun _ _ => d_fieldAddrB fld119_0 rfl rfl ⟨rfl, rfl⟩⟩) ?_
  refine WD.take hok1 5 (.int .i64 b) (fun w' => w'.heap[w.heap.size]? = some (.cells #[.int .i64 b, .int .i64 c] 119 (0, 0))) rfl rfl rfl rfl rfl (H2.blk 4 rfl) (.inl ⟨rfl, fun _ hC => d_loadB Try.underlying3 rfl rfl hC rfl ⟨rfl, rfl⟩⟩) ?_
  refine WD.take hok1 6 (elemPtr (.slice wa wn wc) b.toNat) (fun w' => RdT tyLR w' (.slice wa wn wc) wt) rfl rfl rfl rfl rfl (H2.rdT 2 rfl) (.inl ⟨rfl, fun _ hC => t_addr1 b.toNat (T := tyLR) rfl Try.underlying29 sz23 rfl rfl hC (by omega) (by omega) ⟨rfl, rfl⟩⟩) ?_
  refine WD.take hok1 7 (.slice ((wt.getD b.toNat lr0).a) ((wt.getD b.toNat lr0).n) ((wt.getD b.toNat lr0).c)) (fun w' => RdT tyLR w' (.slice wa wn wc) wt) rfl rfl rfl rfl rfl (H2.rdT 2 rfl) (.inl ⟨rfl, fun _ hC => t_load1 b.toNat lr0 (T := tyLR) rfl Try.underlying23 rfl rfl hC (by omega) rfl ⟨rfl, rfl⟩⟩) ?_
  refine WD.take hok1 8 (.pointer (some ⟨w.heap.size, 1, none⟩)) (fun _ => True) rfl rfl rfl rfl rfl trivial (.inl ⟨rfl, fun _ _ => d_fieldAddrB fld119_1 rfl rfl ⟨rfl, rfl⟩⟩) ?_
  refine WD.take hok1 9 (.int .i64 c) (fun w' => w'.heap[w.heap.size]? = some (.cells #[.int .i64 b, .int .i64 c] 119 (0, 0))) rfl rfl rfl rfl rfl (H2.blk 4 rfl) (.inl ⟨rfl, fun _ hC => d_loadB Try.underlying3 rfl rfl hC rfl ⟨rfl, rfl⟩⟩) ?_
  refine WD.take hok1 10 (elemPtr (.slice ((wt.getD b.toNat lr0).a) ((wt.getD b.toNat lr0).n) ((wt.getD b.toNat lr0).c)) c.toNat) (fun w' => RdT tyB w' (.slice ((wt.getD b.toNat lr0).a) ((wt.getD b.toNat lr0).n) ((wt.getD b.toNat lr0).c)) ((wt.getD b.toNat lr0).xs)) rfl rfl rfl rfl rfl (show RdT tyB w2 (.slice ((wt.getD b.toNat lr0).a) ((wt.getD b.toNat lr0).n) ((wt.getD b.toNat lr0).c)) ((wt.getD b.toNat lr0).xs) from (Inn.own (H2.hpOf 3 rfl)).get lr0 b.toNat (by omega)) (.inl ⟨rfl, fun _ hC => t_addr1 c.toNat (T := tyB) rfl Try.underlying23 sz4 rfl rfl hC (by omega) (by omega) ⟨rfl, rfl⟩⟩) ?_
  have H3 : UpG w [blk g #[v0, v1, v2, .slice ta td.length tc, .slice wa wn wc] 117, rowT tyTk (.slice ta td.length tc) 119 td, rowT tyLR (.slice wa wn wc) 23 wt, manyF (inLR tyB 4).row wt] w2 [[blk g #[v0, v1, v2, .slice ta td.length tc, .slice wa wn wc] 117], [rowT tyTk (.slice ta td.length tc) 119 td], [rowT tyLR (.slice wa wn wc) 23 wt], [manyF (inLR tyB 4).row (wt.eraseIdx b.toNat)], [blk w.heap.size #[.int .i64 b, .int .i64 c] 119], [rowT tyB (.slice ((wt.getD b.toNat lr0).a) ((wt.getD b.toNat lr0).n) ((wt.getD b.toNat lr0).c)) 4 ((wt.getD b.toNat lr0).xs)]] := H2.takeOut (f := (inLR tyB 4).row) lr0 3 b.toNat rfl (by omega)
  refine WD.loud hok1 11 rfl (⟨_, [], rfl, rfl, rfl, rfl, rfl, rfl, t_store1 c.toNat true (T := tyB) (e := 4) rfl sz4 rfl rfl rfl (H3.ownT 5 rfl) (by omega) fun w3 u2 => ?_⟩)
  have H4 : UpG w [blk g #[v0, v1, v2, .slice ta td.length tc, .slice wa wn wc] 117, rowT tyTk (.slice ta td.length tc) 119 td, rowT tyLR (.slice wa wn wc) 23 wt, manyF (inLR tyB 4).row wt] w3 [[blk g #[v0, v1, v2, .slice ta td.length tc, .slice wa wn wc] 117], [rowT tyTk (.slice ta td.length tc) 119 td], [rowT tyLR (.slice wa wn wc) 23 wt], [manyF (inLR tyB 4).row (wt.eraseIdx b.toNat)], [blk w.heap.size #[.int .i64 b, .int .i64 c] 119], [rowT tyB (.slice ((wt.getD b.toNat lr0).a) ((wt.getD b.toNat lr0).n) ((wt.getD b.toNat lr0).c)) 4 (((wt.getD b.toNat lr0).xs).set c.toNat true)]] := H3.on 5 rfl u2
  have H5 : UpG w [blk g #[v0, v1, v2, .slice ta td.length tc, .slice wa wn wc] 117, rowT tyTk (.slice ta td.length tc) 119 td, rowT tyLR (.slice wa wn wc) 23 wt, manyF (inLR tyB 4).row wt] w3 [[blk g #[v0, v1, v2, .slice ta td.length tc, .slice wa wn wc] 117], [rowT tyTk (.slice ta td.length tc) 119 td], [rowT tyLR (.slice wa wn wc) 23 wt], [manyF (inLR tyB 4).row (wt.set b.toNat ⟨(wt.getD b.toNat lr0).a, (wt.getD b.toNat lr0).n, (wt.getD b.toNat lr0).c, ((wt.getD b.toNat lr0).xs).set c.toNat true⟩)], [blk w.heap.size #[.int .i64 b, .int .i64 c] 119], []] := (H4.putBack (f := (inLR tyB 4).row) ⟨(wt.getD b.toNat lr0).a, (wt.getD b.toNat lr0).n, (wt.getD b.toNat lr0).c, ((wt.getD b.toNat lr0).xs).set c.toNat true⟩ 3 5 b.toNat rfl rfl rfl (by omega)).re rfl
  have H6 : UpG w [blk g #[v0, v1, v2, .slice ta td.length tc, .slice wa wn wc] 117, rowT tyTk (.slice ta td.length tc) 119 td, rowT tyLR (.slice wa wn wc) 23 wt, manyF (inLR tyB 4).row wt] w3 [[blk g #[v0, v1, v2, .slice ta td.length tc, .slice wa wn wc] 117], [rowT tyTk (.slice ta td.length tc) 119 td], [rowT tyLR (.slice wa wn wc) 23 (wt.set b.toNat ⟨(wt.getD b.toNat lr0).a, (wt.getD b.toNat lr0).n, (wt.getD b.toNat lr0).c, ((wt.getD b.toNat lr0).xs).set c.toNat true⟩)], [manyF (inLR tyB 4).row (wt.set b.toNat ⟨(wt.getD b.toNat lr0).a, (wt.getD b.toNat lr0).n, (wt.getD b.toNat lr0).c, ((wt.getD b.toNat lr0).xs).set c.toNat true⟩)], [blk w.heap.size #[.int .i64 b, .int .i64 c] 119], []] := H5.recast (((wt.getD b.toNat lr0).xs).set c.toNat true) 2 b.toNat rfl (by omega)
  refine ⟨trivial, ?_⟩
  refine WD.done hok1 rfl (X.then_code ?_)
  refine W.regionD mixed (by kernel_rfl) fun hok2 w4 k2 => ?_
  have H7 : UpG w [blk g #[v0, v1, v2, .slice ta td.length tc, .slice wa wn wc] 117, rowT tyTk (.slice ta td.length tc) 119 td, rowT tyLR (.slice wa wn wc) 23 wt, manyF (inLR tyB 4).row wt] w4 [[blk g #[v0, v1, v2, .slice ta td.length tc, .slice wa wn wc] 117], [rowT tyTk (.slice ta td.length tc) 119 td], [rowT tyLR (.slice wa wn wc) 23 (wt.set b.toNat ⟨(wt.getD b.toNat lr0).a, (wt.getD b.toNat lr0).n, (wt.getD b.toNat lr0).c, ((wt.getD b.toNat lr0).xs).set c.toNat true⟩)], [manyF (inLR tyB 4).row (wt.set b.toNat ⟨(wt.getD b.toNat lr0).a, (wt.getD b.toNat lr0).n, (wt.getD b.toNat lr0).c, ((wt.getD b.toNat lr0).xs).set c.toNat true⟩)], [blk w.heap.size #[.int .i64 b, .int .i64 c] 119], []] := H6.kept k2
  refine WD.take hok2 0 (.pointer (some ⟨g, 0, none⟩)) (fun _ => True) rfl rfl rfl rfl rfl trivial (.inl ⟨rfl, fun _ _ => d_move rfl ⟨rfl, rfl⟩⟩) ?_
  refine WD.take hok2 1 (.pointer (some ⟨g, 0, none⟩)) (fun _ => True) rfl rfl rfl rfl rfl trivial (.inl ⟨rfl, fun _ _ => d_move rfl ⟨rfl, rfl⟩⟩) ?_
  refine WD.take hok2 2 (.pointer (some ⟨g, 0, none⟩)) (fun _ => True) rfl rfl rfl rfl rfl trivial (.inl ⟨rfl, fun _ _ => d_nilCheck rfl ⟨rfl, rfl⟩⟩) ?_
  refine WD.take hok2 3 (.pointer (some ⟨g, 3, none⟩)) (fun _ => True) rfl rfl rfl rfl rfl trivial (.inl ⟨rfl, fun _ _ => d_fieldAddrB fld117_3 rfl rfl ⟨rfl, rfl⟩⟩) ?_
  refine WD.take hok2 4 (.slice ta td.length tc) (fun w' => w'.heap[g]? = some (.cells #[v0, v1, v2, .slice ta td.length tc, .slice wa wn wc] 117 (0, 0))) rfl rfl rfl rfl rfl (H7.blk 0 rfl) (.inl ⟨rfl, fun _ hC => d_loadB Try.underlying115 rfl rfl hC rfl ⟨rfl, rfl⟩⟩) ?_
  refine WD.take hok2 5 (.agg #[.int .i64 b, .int .i64 c]) (fun w' => w'.heap[w.heap.size]? = some (.cells #[.int .i64 b, .int .i64 c] 119 (0, 0))) rfl rfl rfl rfl rfl (H7.blk 4 rfl) (.inl ⟨rfl, fun _ hC => d_loadAB [.int .i64 b, .int .i64 c] Try.underlying119 rfl sz119 rfl hC rfl rfl ⟨rfl, rfl⟩⟩) ?_
  refine WD.loud hok2 6 rfl (⟨_, [⟨4, .slice ta td.length tc, (fun w' => w'.heap[g]? = some (.cells #[v0, v1, v2, .slice ta td.length tc, .slice wa wn wc] 117 (0, 0)))⟩, ⟨3, .pointer (some ⟨g, 3, none⟩), (fun _ => True)⟩, ⟨2, .pointer (some ⟨g, 0, none⟩), (fun _ => True)⟩, ⟨1, .pointer (some ⟨g, 0, none⟩), (fun _ => True)⟩, ⟨0, .pointer (some ⟨g, 0, none⟩), (fun _ => True)⟩], rfl, rfl, rfl, rfl, rfl, rfl, t_buildSlice (T := tyTk) (xs := ([(b, c)] : List (Int × Int))) (cs := #[.int .i64 b, .int .i64 c]) rfl Try.underlying115 sz119 rfl rfl rfl rfl (by kernel_rfl) rfl rfl fun w5 u3 => ?_⟩)
  have H8 : UpG w [blk g #[v0, v1, v2, .slice ta td.length tc, .slice wa wn wc] 117, rowT tyTk (.slice ta td.length tc) 119 td, rowT tyLR (.slice wa wn wc) 23 wt, manyF (inLR tyB 4).row wt] w5 [[blk g #[v0, v1, v2, .slice ta td.length tc, .slice wa wn wc] 117], [rowT tyTk (.slice ta td.length tc) 119 td], [rowT tyLR (.slice wa wn wc) 23 (wt.set b.toNat ⟨(wt.getD b.toNat lr0).a, (wt.getD b.toNat lr0).n, (wt.getD b.toNat lr0).c, ((wt.getD b.toNat lr0).xs).set c.toNat true⟩)], [manyF (inLR tyB 4).row (wt.set b.toNat ⟨(wt.getD b.toNat lr0).a, (wt.getD b.toNat lr0).n, (wt.getD b.toNat lr0).c, ((wt.getD b.toNat lr0).xs).set c.toNat true⟩)], [blk w.heap.size #[.int .i64 b, .int .i64 c] 119], [], [rowT tyTk (.slice (some ⟨w4.heap.size, 0, none⟩) (([(b, c)] : List (Int × Int)).length) (([(b, c)] : List (Int × Int)).length)) 119 ([(b, c)] : List (Int × Int))]] := H7.new' u3
  refine ⟨⟨(H8.blk 0 rfl), trivial, trivial, trivial, trivial, trivial⟩, ?_⟩
  refine WD.loud hok2 7 rfl (⟨_, [⟨0, .pointer (some ⟨g, 0, none⟩), (fun _ => True)⟩], rfl, rfl, rfl, rfl, rfl, rfl, t_append (T := tyTk) (xs := td) (ys := ([(b, c)] : List (Int × Int))) rfl Try.underlying115 sz119 rfl rfl rfl (H8.ownT 1 rfl) (H8.rdT 6 rfl) (by simp only [List.length_singleton]; omega) (by simp only [List.length_singleton]; omega) fun a1 c1 w6 u4 => ?_⟩)
  have H9 : UpG w [blk g #[v0, v1, v2, .slice ta td.length tc, .slice wa wn wc] 117, rowT tyTk (.slice ta td.length tc) 119 td, rowT tyLR (.slice wa wn wc) 23 wt, manyF (inLR tyB 4).row wt] w6 [[blk g #[v0, v1, v2, .slice ta td.length tc, .slice wa wn wc] 117], [rowT tyTk (.slice a1 ((td ++ ([(b, c)] : List (Int × Int))).length) c1) 119 (td ++ ([(b, c)] : List (Int × Int)))], [rowT tyLR (.slice wa wn wc) 23 (wt.set b.toNat ⟨(wt.getD b.toNat lr0).a, (wt.getD b.toNat lr0).n, (wt.getD b.toNat lr0).c, ((wt.getD b.toNat lr0).xs).set c.toNat true⟩)], [manyF (inLR tyB 4).row (wt.set b.toNat ⟨(wt.getD b.toNat lr0).a, (wt.getD b.toNat lr0).n, (wt.getD b.toNat lr0).c, ((wt.getD b.toNat lr0).xs).set c.toNat true⟩)], [blk w.heap.size #[.int .i64 b, .int .i64 c] 119], [], []] := (H8.on 1 rfl u4).drop 6
  refine ⟨⟨trivial, trivial⟩, ?_⟩
  refine WD.take hok2 8 (.pointer (some ⟨g, 0, none⟩)) (fun _ => True) rfl rfl rfl rfl rfl trivial (.inl ⟨rfl, fun _ _ => d_nilCheck rfl ⟨rfl, rfl⟩⟩) ?_
  refine WD.take hok2 9 (.pointer (some ⟨g, 3, none⟩)) (fun _ => True) rfl rfl rfl rfl rfl trivial (.inl ⟨rfl, fun _ _ => d_fieldAddrB fld117_3 rfl rfl ⟨rfl, rfl⟩⟩) ?_
  refine WD.loud hok2 10 rfl (⟨_, [], rfl, rfl, rfl, rfl, rfl, rfl, d_storeB sz115 rfl rfl rfl (H9.blk 0 rfl) rfl fun w7 u5 => ?_⟩)
  have H10 : UpG w [blk g #[v0, v1, v2, .slice ta td.length tc, .slice wa wn wc] 117, rowT tyTk (.slice ta td.length tc) 119 td, rowT tyLR (.slice wa wn wc) 23 wt, manyF (inLR tyB 4).row wt] w7 [[blk g #[v0, v1, v2, .slice a1 ((td ++ ([(b, c)] : List (Int × Int))).length) c1, .slice wa wn wc] 117], [rowT tyTk (.slice a1 ((td ++ ([(b, c)] : List (Int × Int))).length) c1) 119 (td ++ ([(b, c)] : List (Int × Int)))], [rowT tyLR (.slice wa wn wc) 23 (wt.set b.toNat ⟨(wt.getD b.toNat lr0).a, (wt.getD b.toNat lr0).n, (wt.getD b.toNat lr0).c, ((wt.getD b.toNat lr0).xs).set c.toNat true⟩)], [manyF (inLR tyB 4).row (wt.set b.toNat ⟨(wt.getD b.toNat lr0).a, (wt.getD b.toNat lr0).n, (wt.getD b.toNat lr0).c, ((wt.getD b.toNat lr0).xs).set c.toNat true⟩)], [blk w.heap.size #[.int .i64 b, .int .i64 c] 119], [], []] := H9.on 0 rfl u5
  refine ⟨trivial, ?_⟩
  refine WD.done hok2 rfl (X.end0 rfl ?_)
  exact ⟨a1, c1, _, rfl, (Upd.sel H10 (l := [0, 1, 2, 3]) rfl rfl), (WtSet.mk' (by omega) (by omega))⟩

set_option maxRecDepth 20000 in
theorem hwait_any (g : Nat) (c : Int) (a : Int) (b : Int) (v0 : Value) (v1 : Value) (ma : Option Addr) (ms : List (LR Int)) (mc : Nat) (mn : Nat) (ta : Option Addr) (td : List (Int × Int)) (tc : Nat) (wa : Option Addr) (wt : List (LR Bool)) (wc : Nat) (wn : Nat) (w : World) (hp : Hp w [blk g #[v0, v1, .slice ma mn mc, .slice ta td.length tc, .slice wa wn wc] 117, rowT tyLR (.slice ma mn mc) 22 ms, rowT tyTk (.slice ta td.length tc) 119 td, rowT tyLR (.slice wa wn wc) 23 wt, manyF (inLR tyB 4).row wt]) (ha : 0 ≤ a ∧ a < (wt.length : Int) ∧ a < (ms.length : Int)) (hb : 0 ≤ b ∧ b < (wt.length : Int) ∧ b < (ms.length : Int)) (hc : 0 ≤ c ∧ c < ((wt.getD a.toNat lr0).xs.length : Int) ∧ c < ((wt.getD b.toNat lr0).xs.length : Int)) (hl : td.length ≤ 100000000) :
    Calls Try.prog 98 #[.pointer (some ⟨g, 0, none⟩), .int .i64 c, .int .i64 a, .int .i64 b] w (Ret fun v w' => ∃ ta2 : Option Addr, ∃ tc2 : Nat, ∃ wt2 : List (LR Bool), ∃ x : Int, v = .tuple #[] ∧ Upd w [blk g #[v0, v1, .slice ma mn mc, .slice ta td.length tc, .slice wa wn wc] 117, rowT tyLR (.slice ma mn mc) 22 ms, rowT tyTk (.slice ta td.length tc) 119 td, rowT tyLR (.slice wa wn wc) 23 wt, manyF (inLR tyB 4).row wt] w' [blk g #[v0, v1, .slice ma mn mc, .slice ta2 ((td ++ [(x, c)]).length) tc2, .slice wa wn wc] 117, rowT tyLR (.slice ma mn mc) 22 ms, rowT tyTk (.slice ta2 ((td ++ [(x, c)]).length) tc2) 119 (td ++ [(x, c)]), rowT tyLR (.slice wa wn wc) 23 wt2, manyF (inLR tyB 4).row wt2] ∧ (x = a ∨ x = b) ∧ (WtSet wt x.toNat c.toNat true wt2)) := by
  refine calls_of_W (args := [.pointer (some ⟨g, 0, none⟩), .int .i64 c, .int .i64 a, .int .i64 b]) Try.func98 rfl rfl rfl ?_
  have H0 : UpG w [blk g #[v0, v1, .slice ma mn mc, .slice ta td.length tc, .slice wa wn wc] 117, rowT tyLR (.slice ma mn mc) 22 ms, rowT tyTk (.slice ta td.length tc) 119 td, rowT tyLR (.slice wa wn wc) 23 wt, manyF (inLR tyB 4).row wt] w [[blk g #[v0, v1, .slice ma mn mc, .slice ta td.length tc, .slice wa wn wc] 117], [rowT tyLR (.slice ma mn mc) 22 ms], [rowT tyTk (.slice ta td.length tc) 119 td], [rowT tyLR (.slice wa wn wc) 23 wt], [manyF (inLR tyB 4).row wt]] := (UpG.refl hp).re rfl
  show W _ _ _ _ [(0, .pointer (some ⟨g, 0, none⟩)), (1, .int .i64 c), (2, .int .i64 a), (3, .int .i64 b)] w
  refine W.seq ?_
  refine W.seq ?_
  refine W.regionD mixed (by kernel_rfl) fun hok1 w1 k1 => ?_
  have H1 : UpG w [blk g #[v0, v1, .slice ma mn mc, .slice ta td.length tc, .slice wa wn wc] 117, rowT tyLR (.slice ma mn mc) 22 ms, rowT tyTk (.slice ta td.length tc) 119 td, rowT tyLR (.slice wa wn wc) 23 wt, manyF (inLR tyB 4).row wt] w1 [[blk g #[v0, v1, .slice ma mn mc, .slice ta td.length tc, .slice wa wn wc] 117], [rowT tyLR (.slice ma mn mc) 22 ms], [rowT tyTk (.slice ta td.length tc) 119 td], [rowT tyLR (.slice wa wn wc) 23 wt], [manyF (inLR tyB 4).row wt]] := H0.kept k1
  refine WD.take hok1 0 (.pointer (some ⟨g, 0, none⟩)) (fun _ => True) rfl rfl rfl rfl rfl trivial (.inl ⟨rfl, fun _ _ => d_move rfl ⟨rfl, rfl⟩⟩) ?_
  refine WD.take hok1 1 (.pointer (some ⟨g, 0, none⟩)) (fun _ => True) rfl rfl rfl rfl rfl trivial (.inl ⟨rfl, fun _ _ => d_nilCheck rfl ⟨rfl, rfl⟩⟩) ?_
  refine WD.take hok1 2 (.pointer (some ⟨g, 2, none⟩)) (fun _ => True) rfl rfl rfl rfl rfl trivial (.inl ⟨rfl, fun _ _ => d_fieldAddrB fld117_2 rfl rfl ⟨rfl, rfl⟩⟩) ?_
  refine WD.take hok1 3 (.slice ma mn mc) (fun w' => w'.heap[g]? = some (.cells #[v0, v1, .slice ma mn mc, .slice ta td.length tc, .slice wa wn wc] 117 (0, 0))) rfl rfl rfl rfl rfl (H1.blk 0 rfl) (.inl ⟨rfl, fun _ hC => d_loadB Try.underlying77 rfl rfl hC rfl ⟨rfl, rfl⟩⟩) ?_
  refine WD.take hok1 4 (.int .i64 b) (fun _ => True) rfl rfl rfl rfl rfl trivial (.inl ⟨rfl, fun _ _ => d_move rfl ⟨rfl, rfl⟩⟩) ?_
  refine WD.take hok1 5 (elemPtr (.slice ma mn mc) b.toNat) (fun w' => RdT tyLR w' (.slice ma mn mc) ms) rfl rfl rfl rfl rfl (H1.rdT 1 rfl) (.inl ⟨rfl, fun _ hC => t_addr1 b.toNat (T := tyLR) rfl Try.underlying77 sz22 rfl rfl hC (by omega) (by omega) ⟨rfl, rfl⟩⟩) ?_
  refine WD.take hok1 6 (.slice ((ms.getD b.toNat lr0).a) ((ms.getD b.toNat lr0).n) ((ms.getD b.toNat lr0).c)) (fun w' => RdT tyLR w' (.slice ma mn mc) ms) rfl rfl rfl rfl rfl (H1.rdT 1 rfl) (.inl ⟨rfl, fun _ hC => t_load1 b.toNat lr0 (T := tyLR) rfl Try.underlying22 rfl rfl hC (by omega) rfl ⟨rfl, rfl⟩⟩) ?_
  refine WD.take hok1 7 (.int .i64 (((ms.getD b.toNat lr0).n : Nat) : Int)) (fun _ => True) rfl rfl rfl rfl rfl trivial (.inl ⟨rfl, fun _ _ => d_lenS Try.underlying22 rfl ⟨rfl, rfl⟩⟩) ?_
  refine WD.take hok1 8 (.pointer (some ⟨g, 0, none⟩)) (fun _ => True) rfl rfl rfl rfl rfl trivial (.inl ⟨rfl, fun _ _ => d_move rfl ⟨rfl, rfl⟩⟩) ?_
  refine WD.take hok1 9 (.pointer (some ⟨g, 0, none⟩)) (fun _ => True) rfl rfl rfl rfl rfl trivial (.inl ⟨rfl, fun _ _ => d_nilCheck rfl ⟨rfl, rfl⟩⟩) ?_
  refine WD.take hok1 10 (.pointer (some ⟨g, 2, none⟩)) (fun _ => True) rfl rfl rfl rfl rfl trivial (.inl ⟨rfl, fun _ _ => d_fieldAddrB fld117_2 rfl rfl ⟨rfl, rfl⟩⟩) ?_
  refine WD.take hok1 11 (.slice ma mn mc) (fun w' => w'.heap[g]? = some (.cells #[v0, v1, .slice ma mn mc, .slice ta td.length tc, .slice wa wn wc] 117 (0, 0))) rfl rfl rfl rfl rfl (H1.blk 0 rfl) (.inl ⟨rfl, fun _ hC => d_loadB Try.underlying77 rfl rfl hC rfl ⟨rfl, rfl⟩⟩) ?_
  refine WD.take hok1 12 (.int .i64 a) (fun _ => True) rfl rfl rfl rfl rfl trivial (.inl ⟨rfl, fun _ _ => d_move rfl ⟨rfl, rfl⟩⟩) ?_
  refine WD.take hok1 13 (elemPtr (.slice ma mn mc) a.toNat) (fun w' => RdT tyLR w' (.slice ma mn mc) ms) rfl rfl rfl rfl rfl (H1.rdT 1 rfl) (.inl ⟨rfl, fun _ hC => t_addr1 a.toNat (T := tyLR) rfl Try.underlying77 sz22 rfl rfl hC (by omega) (by omega) ⟨rfl, rfl⟩⟩) ?_
  refine WD.take hok1 14 (.slice ((ms.getD a.toNat lr0).a) ((ms.getD a.toNat lr0).n) ((ms.getD a.toNat lr0).c)) (fun w' => RdT tyLR w' (.slice ma mn mc) ms) rfl rfl rfl rfl rfl (H1.rdT 1 rfl) (.inl ⟨rfl, fun _ hC => t_load1 a.toNat lr0 (T := tyLR) rfl Try.underlying22 rfl rfl hC (by omega) rfl ⟨rfl, rfl⟩⟩) ?_
  refine WD.take hok1 15 (.int .i64 (((ms.getD a.toNat lr0).n : Nat) : Int)) (fun _ => True) rfl rfl rfl rfl rfl trivial (.inl ⟨rfl, fun _ _ => d_lenS Try.underlying22 rfl ⟨rfl, rfl⟩⟩) ?_
  refine WD.take hok1 16 (.bool (decide ((((ms.getD b.toNat lr0).n : Nat) : Int) < (((ms.getD a.toNat lr0).n : Nat) : Int)))) (fun _ => True) rfl rfl rfl rfl rfl trivial (.inl ⟨rfl, fun _ _ => d_cmp (decide ((((ms.getD b.toNat lr0).n : Nat) : Int) < (((ms.getD a.toNat lr0).n : Nat) : Int))) rfl rfl rfl ⟨rfl, rfl⟩⟩) ?_
  refine WD.done hok1 rfl (X.then_code ?_)
  refine W.ite (p := (((ms.getD b.toNat lr0).n : Nat) : Int) < (((ms.getD a.toNat lr0).n : Nat) : Int)) rfl (fun c77 => ?_) (fun c77 => ?_)
  · skip
    refine W.region ?_
    refine WL.op rfl (d_move rfl ?_)
    refine WL.op rfl (d_assign rfl ?_)
    refine WL.done (X.then_code ?_)
    refine W.region ?_
    refine WL.op rfl (d_move rfl ?_)
    refine WL.op rfl (d_move rfl ?_)
    refine WL.op rfl (d_move rfl ?_)
    refine WL.op rfl (d_build (cs := #[.int .i64 b, .int .i64 c]) rfl (by kernel_rfl) ?_)
    have H2 : UpG w [blk g #[v0, v1, .slice ma mn mc, .slice ta td.length tc, .slice wa wn wc] 117, rowT tyLR (.slice ma mn mc) 22 ms, rowT tyTk (.slice ta td.length tc) 119 td, rowT tyLR (.slice wa wn wc) 23 wt, manyF (inLR tyB 4).row wt] w1 [[blk g #[v0, v1, .slice ma mn mc, .slice ta td.length tc, .slice wa wn wc] 117, rowT tyTk (.slice ta td.length tc) 119 td, rowT tyLR (.slice wa wn wc) 23 wt, manyF (inLR tyB 4).row wt], [rowT tyLR (.slice ma mn mc) 22 ms]] := UpG.of (Upd.sel H1 (l := [0, 2, 3, 4, 1]) rfl rfl) rfl
    refine WL.op rfl (d_call ok104 rfl (Ret.calls (hput_any g b c v0 v1 (.slice ma mn mc) ta td tc wa wt wc wn w1 (H2.hpOf 0 rfl)  (by omega) (by omega) (by omega)) fun _ w2 p1 => ?_))
    obtain ⟨ta2_1, tc2_1, wt2_1, rfl, u1, q1⟩ := p1
    have H3 : UpG w [blk g #[v0, v1, .slice ma mn mc, .slice ta td.length tc, .slice wa wn wc] 117, rowT tyLR (.slice ma mn mc) 22 ms, rowT tyTk (.slice ta td.length tc) 119 td, rowT tyLR (.slice wa wn wc) 23 wt, manyF (inLR tyB 4).row wt] w2 [[blk g #[v0, v1, (.slice ma mn mc), .slice ta2_1 ((td ++ [(b, c)]).length) tc2_1, .slice wa wn wc] 117, rowT tyTk (.slice ta2_1 ((td ++ [(b, c)]).length) tc2_1) 119 (td ++ [(b, c)]), rowT tyLR (.slice wa wn wc) 23 wt2_1, manyF (inLR tyB 4).row wt2_1], [rowT tyLR (.slice ma mn mc) 22 ms]] := H2.on 0 rfl u1
    refine WL.done (X.end0 rfl ?_)
    exact ⟨ta2_1, tc2_1, wt2_1, _, rfl, (Upd.sel H3 (l := [0, 4, 1, 2, 3]) rfl rfl), (by first | exact .inl rfl | exact .inr rfl), (by assumption)⟩
  · skip
    refine W.skip (X.then_code ?_)
    refine W.region ?_
    refine WL.op rfl (d_move rfl ?_)
    refine WL.op rfl (d_move rfl ?_)
    refine WL.op rfl (d_move rfl ?_)
    refine WL.op rfl (d_build (cs := #[.int .i64 a, .int .i64 c]) rfl (by kernel_rfl) ?_)
    have H4 : UpG w [blk g #[v0, v1, .slice ma mn mc, .slice ta td.length tc, .slice wa wn wc] 117, rowT tyLR (.slice ma mn mc) 22 ms, rowT tyTk (.slice ta td.length tc) 119 td, rowT tyLR (.slice wa wn wc) 23 wt, manyF (inLR tyB 4).row wt] w1 [[blk g #[v0, v1, .slice ma mn mc, .slice ta td.length tc, .slice wa wn wc] 117, rowT tyTk (.slice ta td.length tc) 119 td, rowT tyLR (.slice wa wn wc) 23 wt, manyF (inLR tyB 4).row wt], [rowT tyLR (.slice ma mn mc) 22 ms]] := UpG.of (Upd.sel H1 (l := [0, 2, 3, 4, 1]) rfl rfl) rfl
    refine WL.op rfl (d_call ok104 rfl (Ret.calls (hput_any g a c v0 v1 (.slice ma mn mc) ta td tc wa wt wc wn w1 (H4.hpOf 0 rfl)  (by omega) (by omega) (by omega)) fun _ w3 p2 => ?_))
    obtain ⟨ta2_2, tc2_2, wt2_2, rfl, u2, q2⟩ := p2
    have H5 : UpG w [blk g #[v0, v1, .slice ma mn mc, .slice ta td.length tc, .slice wa wn wc] 117, rowT tyLR (.slice ma mn mc) 22 ms, rowT tyTk (.slice ta td.length tc) 119 td, rowT tyLR (.slice wa wn wc) 23 wt, manyF (inLR tyB 4).row wt] w3 [[blk g #[v0, v1, (.slice ma mn mc), .slice ta2_2 ((td ++ [(a, c)]).length) tc2_2, .slice wa wn wc] 117, rowT tyTk (.slice ta2_2 ((td ++ [(a, c)]).length) tc2_2) 119 (td ++ [(a, c)]), rowT tyLR (.slice wa wn wc) 23 wt2_2, manyF (inLR tyB 4).row wt2_2], [rowT tyLR (.slice ma mn mc) 22 ms]] := H4.on 0 rfl u2
    refine WL.done (X.end0 rfl ?_)
    exact ⟨ta2_2, tc2_2, wt2_2, _, rfl, (Upd.sel H5 (l := [0, 4, 1, 2, 3]) rfl rfl), (by first | exact .inl rfl | exact .inr rfl), (by assumption)⟩

set_option maxRecDepth 20000 in
theorem hadd_any (g : Nat) (la : Option Addr) (l : List Int) (lc : Nat) (ln : Nat) (fa : Option Addr) (fc : Nat) (fn : Nat) (ba : Option Addr) (bl : List Int) (bc : Nat) (bn : Nat) (ma : Option Addr) (ms : List (LR Int)) (mc : Nat) (mn : Nat) (v3 : Value) (wa : Option Addr) (wt : List (LR Bool)) (wc : Nat) (wn : Nat) (w : World) (hp : Hp w [blk g #[.slice fa fn fc, .slice ba bn bc, .slice ma mn mc, v3, .slice wa wn wc] 117, rowT (tyI .i64) (.slice ba bn bc) 3 bl, rowT tyLR (.slice ma mn mc) 22 ms, manyF (inLR (tyI .i64) 3).row ms, rowT tyLR (.slice wa wn wc) 23 wt, manyF (inLR tyB 4).row wt, rowT (tyI .i64) (.slice la ln lc) 3 l]) (hin : ∀ x, x ∈ l → 0 ≤ x ∧ x < (bl.length : Int)) (hms : ms.length ≤ 100000000) (hwt : wt.length ≤ 100000000) (hfn : fn ≤ 100000000) :
    Calls Try.prog 97 #[.pointer (some ⟨g, 0, none⟩), .slice la ln lc] w (Ret fun v w' => ∃ bl2 : List Int, ∃ ma2 : Option Addr, ∃ mc2 : Nat, ∃ wa2 : Option Addr, ∃ wt2 : List (LR Bool), ∃ wc2 : Nat, v = .int .i64 ((ms.length : Nat) : Int) ∧ Upd w [blk g #[.slice fa fn fc, .slice ba bn bc, .slice ma mn mc, v3, .slice wa wn wc] 117, rowT (tyI .i64) (.slice ba bn bc) 3 bl, rowT tyLR (.slice ma mn mc) 22 ms, manyF (inLR (tyI .i64) 3).row ms, rowT tyLR (.slice wa wn wc) 23 wt, manyF (inLR tyB 4).row wt, rowT (tyI .i64) (.slice la ln lc) 3 l] w' [blk g #[.slice fa fn fc, .slice ba bn bc, .slice ma2 ((ms ++ ([⟨la, ln, lc, l⟩] : List (LR Int))).length) mc2, v3, .slice wa2 wt2.length wc2] 117, rowT (tyI .i64) (.slice ba bn bc) 3 bl2, rowT tyLR (.slice ma2 ((ms ++ ([⟨la, ln, lc, l⟩] : List (LR Int))).length) mc2) 22 (ms ++ ([⟨la, ln, lc, l⟩] : List (LR Int))), manyF (inLR (tyI .i64) 3).row (ms ++ ([⟨la, ln, lc, l⟩] : List (LR Int))), rowT tyLR (.slice wa2 wt2.length wc2) 23 wt2, manyF (inLR tyB 4).row wt2] ∧ (AddR l fn la ln lc bl ms wt bl2 wt2)) := by
  refine calls_of_W (args := [.pointer (some ⟨g, 0, none⟩), .slice la ln lc]) Try.func97 rfl rfl rfl ?_
  have H0 : UpG w [blk g #[.slice fa fn fc, .slice ba bn bc, .slice ma mn mc, v3, .slice wa wn wc] 117, rowT (tyI .i64) (.slice ba bn bc) 3 bl, rowT tyLR (.slice ma mn mc) 22 ms, manyF (inLR (tyI .i64) 3).row ms, rowT tyLR (.slice wa wn wc) 23 wt, manyF (inLR tyB 4).row wt, rowT (tyI .i64) (.slice la ln lc) 3 l] w [[blk g #[.slice fa fn fc, .slice ba bn bc, .slice ma mn mc, v3, .slice wa wn wc] 117], [rowT (tyI .i64) (.slice ba bn bc) 3 bl], [rowT tyLR (.slice ma mn mc) 22 ms], [manyF (inLR (tyI .i64) 3).row ms], [rowT tyLR (.slice wa wn wc) 23 wt], [manyF (inLR tyB 4).row wt], [rowT (tyI .i64) (.slice la ln lc) 3 l]] := (UpG.refl hp).re rfl
  show W _ _ _ _ [(0, .pointer (some ⟨g, 0, none⟩)), (1, .slice la ln lc)] w
  refine W.seq ?_
  refine W.region ?_
  refine WL.op rfl (d_assign rfl ?_)
  refine WL.done (X.then_code ?_)
  refine W.seq ?_
  have hmn : mn = ms.length := (H0.rdT 2 rfl).len
  have hwn : wn = wt.length := (H0.rdT 4 rfl).len
  have hbn : bn = bl.length := (H0.rdT 1 rfl).len
  have hln : ln = l.length := (H0.rdT 6 rfl).len
  refine W.region ?_
  refine WL.op rfl (d_move rfl ?_)
  refine WL.op rfl (d_nilCheck rfl ?_)
  refine WL.op rfl (d_fieldAddrB fld117_2 rfl rfl ?_)
  refine WL.op rfl (d_loadB Try.underlying77 rfl rfl (H0.blk 0 rfl) rfl ?_)
  refine WL.op rfl (d_lenS Try.underlying77 rfl ?_)
  refine WL.op rfl (d_assign rfl ?_)
  refine WL.done (X.then_code ?_)
  refine W.seq ?_
  refine W.region ?_
  refine WL.op rfl (d_move rfl ?_)
  refine WL.op rfl (d_move rfl ?_)
  refine WL.op rfl (d_nilCheck rfl ?_)
  refine WL.op rfl (d_fieldAddrB fld117_2 rfl rfl ?_)
  refine WL.op rfl (d_loadB Try.underlying77 rfl rfl (H0.blk 0 rfl) rfl ?_)
  refine WL.op rfl (d_move rfl ?_)
  refine WL.op rfl (t_buildSlice (T := tyLR) (xs := ([⟨la, ln, lc, l⟩] : List (LR Int))) (cs := #[.slice la ln lc]) rfl Try.underlying77 sz22 rfl rfl rfl rfl (by kernel_rfl) rfl rfl fun w1 u1 => ?_)
  have H1 : UpG w [blk g #[.slice fa fn fc, .slice ba bn bc, .slice ma mn mc, v3, .slice wa wn wc] 117, rowT (tyI .i64) (.slice ba bn bc) 3 bl, rowT tyLR (.slice ma mn mc) 22 ms, manyF (inLR (tyI .i64) 3).row ms, rowT tyLR (.slice wa wn wc) 23 wt, manyF (inLR tyB 4).row wt, rowT (tyI .i64) (.slice la ln lc) 3 l] w1 [[blk g #[.slice fa fn fc, .slice ba bn bc, .slice ma mn mc, v3, .slice wa wn wc] 117], [rowT (tyI .i64) (.slice ba bn bc) 3 bl], [rowT tyLR (.slice ma mn mc) 22 ms], [manyF (inLR (tyI .i64) 3).row ms], [rowT tyLR (.slice wa wn wc) 23 wt], [manyF (inLR tyB 4).row wt], [rowT (tyI .i64) (.slice la ln lc) 3 l], [rowT tyLR (.slice (some ⟨w.heap.size, 0, none⟩) (([⟨la, ln, lc, l⟩] : List (LR Int)).length) (([⟨la, ln, lc, l⟩] : List (LR Int)).length)) 22 ([⟨la, ln, lc, l⟩] : List (LR Int))]] := H0.new' u1
  refine WL.op rfl (t_appendN (T := tyLR) (xs := ms) (ys := ([⟨la, ln, lc, l⟩] : List (LR Int))) rfl Try.underlying77 sz22 rfl rfl rfl (H1.rdT 2 rfl).len (H1.ownT 2 rfl) (H1.rdT 7 rfl) (by simp only [List.length_singleton]; omega) (by simp only [List.length_singleton]; omega) fun a1 c1 w2 u2 => ?_)
  have H2 : UpG w [blk g #[.slice fa fn fc, .slice ba bn bc, .slice ma mn mc, v3, .slice wa wn wc] 117, rowT (tyI .i64) (.slice ba bn bc) 3 bl, rowT tyLR (.slice ma mn mc) 22 ms, manyF (inLR (tyI .i64) 3).row ms, rowT tyLR (.slice wa wn wc) 23 wt, manyF (inLR tyB 4).row wt, rowT (tyI .i64) (.slice la ln lc) 3 l] w2 [[blk g #[.slice fa fn fc, .slice ba bn bc, .slice ma mn mc, v3, .slice wa wn wc] 117], [rowT (tyI .i64) (.slice ba bn bc) 3 bl], [rowT tyLR (.slice a1 ((ms ++ ([⟨la, ln, lc, l⟩] : List (LR Int))).length) c1) 22 (ms ++ ([⟨la, ln, lc, l⟩] : List (LR Int)))], [manyF (inLR (tyI .i64) 3).row ms], [rowT tyLR (.slice wa wn wc) 23 wt], [manyF (inLR tyB 4).row wt], [rowT (tyI .i64) (.slice la ln lc) 3 l], []] := (H1.on 2 rfl u2).drop 7
  have H3 : UpG w [blk g #[.slice fa fn fc, .slice ba bn bc, .slice ma mn mc, v3, .slice wa wn wc] 117, rowT (tyI .i64) (.slice ba bn bc) 3 bl, rowT tyLR (.slice ma mn mc) 22 ms, manyF (inLR (tyI .i64) 3).row ms, rowT tyLR (.slice wa wn wc) 23 wt, manyF (inLR tyB 4).row wt, rowT (tyI .i64) (.slice la ln lc) 3 l] w2 [[blk g #[.slice fa fn fc, .slice ba bn bc, .slice ma mn mc, v3, .slice wa wn wc] 117], [rowT (tyI .i64) (.slice ba bn bc) 3 bl], [rowT tyLR (.slice a1 ((ms ++ ([⟨la, ln, lc, l⟩] : List (LR Int))).length) c1) 22 (ms ++ ([⟨la, ln, lc, l⟩] : List (LR Int)))], [manyF (inLR (tyI .i64) 3).row (ms ++ [⟨la, ln, lc, l⟩])], [rowT tyLR (.slice wa wn wc) 23 wt], [manyF (inLR tyB 4).row wt], [], []] := (UpG.absorb (f := (inLR (tyI .i64) 3).row) (⟨la, ln, lc, l⟩ : (LR Int)) H2 3 6 rfl rfl rfl).re rfl
  refine WL.op rfl (d_nilCheck rfl ?_)
  refine WL.op rfl (d_fieldAddrB fld117_2 rfl rfl ?_)
  refine WL.op0 (d_storeB sz77 rfl rfl rfl (H3.blk 0 rfl) rfl fun w3 u3 => ?_)
  have H4 : UpG w [blk g #[.slice fa fn fc, .slice ba bn bc, .slice ma mn mc, v3, .slice wa wn wc] 117, rowT (tyI .i64) (.slice ba bn bc) 3 bl, rowT tyLR (.slice ma mn mc) 22 ms, manyF (inLR (tyI .i64) 3).row ms, rowT tyLR (.slice wa wn wc) 23 wt, manyF (inLR tyB 4).row wt, rowT (tyI .i64) (.slice la ln lc) 3 l] w3 [[blk g #[.slice fa fn fc, .slice ba bn bc, .slice a1 ((ms ++ ([⟨la, ln, lc, l⟩] : List (LR Int))).length) c1, v3, .slice wa wn wc] 117], [rowT (tyI .i64) (.slice ba bn bc) 3 bl], [rowT tyLR (.slice a1 ((ms ++ ([⟨la, ln, lc, l⟩] : List (LR Int))).length) c1) 22 (ms ++ ([⟨la, ln, lc, l⟩] : List (LR Int)))], [manyF (inLR (tyI .i64) 3).row (ms ++ [⟨la, ln, lc, l⟩])], [rowT tyLR (.slice wa wn wc) 23 wt], [manyF (inLR tyB 4).row wt], [], []] := H3.on 0 rfl u3
  refine WL.done (X.then_code ?_)
  refine W.seq ?_
  refine W.regionD mixed (by kernel_rfl) fun hok1 w4 k1 => ?_
  have H5 : UpG w [blk g #[.slice fa fn fc, .slice ba bn bc, .slice ma mn mc, v3, .slice wa wn wc] 117, rowT (tyI .i64) (.slice ba bn bc) 3 bl, rowT tyLR (.slice ma mn mc) 22 ms, manyF (inLR (tyI .i64) 3).row ms, rowT tyLR (.slice wa wn wc) 23 wt, manyF (inLR tyB 4).row wt, rowT (tyI .i64) (.slice la ln lc) 3 l] w4 [[blk g #[.slice fa fn fc, .slice ba bn bc, .slice a1 ((ms ++ ([⟨la, ln, lc, l⟩] : List (LR Int))).length) c1, v3, .slice wa wn wc] 117], [rowT (tyI .i64) (.slice ba bn bc) 3 bl], [rowT tyLR (.slice a1 ((ms ++ ([⟨la, ln, lc, l⟩] : List (LR Int))).length) c1) 22 (ms ++ ([⟨la, ln, lc, l⟩] : List (LR Int)))], [manyF (inLR (tyI .i64) 3).row (ms ++ [⟨la, ln, lc, l⟩])], [rowT tyLR (.slice wa wn wc) 23 wt], [manyF (inLR tyB 4).row wt], [], []] := H4.kept k1
  refine WD.take hok1 0 (.pointer (some ⟨g, 0, none⟩)) (fun _ => True) rfl rfl rfl rfl rfl trivial (.inl ⟨rfl, fun _ _ => d_move rfl ⟨rfl, rfl⟩⟩) ?_
  refine WD.take hok1 1 (.pointer (some ⟨g, 0, none⟩)) (fun _ => True) rfl rfl rfl rfl rfl trivial (.inl ⟨rfl, fun _ _ => d_move rfl ⟨rfl, rfl⟩⟩) ?_
  refine WD.take hok1 2 (.pointer (some ⟨g, 0, none⟩)) (fun _ => True) rfl rfl rfl rfl rfl trivial (.inl ⟨rfl, fun _ _ => d_nilCheck rfl ⟨rfl, rfl⟩⟩) ?_
  refine WD.take hok1 3 (.pointer (some ⟨g, 4, none⟩)) (fun _ => True) rfl rfl rfl rfl rfl trivial (.inl ⟨rfl, fun _ _ => d_fieldAddrB fld117_4 rfl rfl ⟨rfl, rfl⟩⟩) ?_
  refine WD.take hok1 4 (.slice wa wn wc) (fun w' => w'.heap[g]? = some (.cells #[.slice fa fn fc, .slice ba bn bc, .slice a1 ((ms ++ ([⟨la, ln, lc, l⟩] : List (LR Int))).length) c1, v3, .slice wa wn wc] 117 (0, 0))) rfl rfl rfl rfl rfl (H5.blk 0 rfl) (.inl ⟨rfl, fun _ hC => d_loadB Try.underlying29 rfl rfl hC rfl ⟨rfl, rfl⟩⟩) ?_
  refine WD.take hok1 5 (.pointer (some ⟨g, 0, none⟩)) (fun _ => True) rfl rfl rfl rfl rfl trivial (.inl ⟨rfl, fun _ _ => d_move rfl ⟨rfl, rfl⟩⟩) ?_
  refine WD.take hok1 6 (.pointer (some ⟨g, 0, none⟩)) (fun _ => True) rfl rfl rfl rfl rfl trivial (.inl ⟨rfl, fun _ _ => d_nilCheck rfl ⟨rfl, rfl⟩⟩) ?_
  refine WD.take hok1 7 (.pointer (some ⟨g, 0, none⟩)) (fun _ => True) rfl rfl rfl rfl rfl trivial (.inl ⟨rfl, fun _ _ => d_fieldAddrB fld117_0 rfl rfl ⟨rfl, rfl⟩⟩) ?_
  refine WD.take hok1 8 (.slice fa fn fc) (fun w' => w'.heap[g]? = some (.cells #[.slice fa fn fc, .slice ba bn bc, .slice a1 ((ms ++ ([⟨la, ln, lc, l⟩] : List (LR Int))).length) c1, v3, .slice wa wn wc] 117 (0, 0))) rfl rfl rfl rfl rfl (H5.blk 0 rfl) (.inl ⟨rfl, fun _ hC => d_loadB Try.underlying114 rfl rfl hC rfl ⟨rfl, rfl⟩⟩) ?_
  refine WD.take hok1 9 (.int .i64 ((fn : Nat) : Int)) (fun _ => True) rfl rfl rfl rfl rfl trivial (.inl ⟨rfl, fun _ _ => d_lenS Try.underlying114 rfl ⟨rfl, rfl⟩⟩) ?_
  refine WD.loud hok1 10 rfl (⟨_, [⟨4, .slice wa wn wc, (fun w' => w'.heap[g]? = some (.cells #[.slice fa fn fc, .slice ba bn bc, .slice a1 ((ms ++ ([⟨la, ln, lc, l⟩] : List (LR Int))).length) c1, v3, .slice wa wn wc] 117 (0, 0)))⟩, ⟨3, .pointer (some ⟨g, 4, none⟩), (fun _ => True)⟩, ⟨2, .pointer (some ⟨g, 0, none⟩), (fun _ => True)⟩, ⟨1, .pointer (some ⟨g, 0, none⟩), (fun _ => True)⟩, ⟨0, .pointer (some ⟨g, 0, none⟩), (fun _ => True)⟩], rfl, rfl, rfl, rfl, rfl, rfl, t_make fn false (T := tyB) rfl Try.underlying23 sz4 rfl rfl rfl rfl (by first | omega | (simp only [List.length_singleton]; omega)) (by first | omega | (simp only [List.length_singleton]; omega)) fun w5 u4 => ?_⟩)
  have H6 : UpG w [blk g #[.slice fa fn fc, .slice ba bn bc, .slice ma mn mc, v3, .slice wa wn wc] 117, rowT (tyI .i64) (.slice ba bn bc) 3 bl, rowT tyLR (.slice ma mn mc) 22 ms, manyF (inLR (tyI .i64) 3).row ms, rowT tyLR (.slice wa wn wc) 23 wt, manyF (inLR tyB 4).row wt, rowT (tyI .i64) (.slice la ln lc) 3 l] w5 [[blk g #[.slice fa fn fc, .slice ba bn bc, .slice a1 ((ms ++ ([⟨la, ln, lc, l⟩] : List (LR Int))).length) c1, v3, .slice wa wn wc] 117], [rowT (tyI .i64) (.slice ba bn bc) 3 bl], [rowT tyLR (.slice a1 ((ms ++ ([⟨la, ln, lc, l⟩] : List (LR Int))).length) c1) 22 (ms ++ ([⟨la, ln, lc, l⟩] : List (LR Int)))], [manyF (inLR (tyI .i64) 3).row (ms ++ [⟨la, ln, lc, l⟩])], [rowT tyLR (.slice wa wn wc) 23 wt], [manyF (inLR tyB 4).row wt], [], [], [rowT tyB (.slice (some ⟨w4.heap.size, 0, none⟩) ((List.replicate fn false).length) fn) 4 (List.replicate fn false)]] := H5.new' u4
  refine ⟨⟨(H6.blk 0 rfl), trivial, trivial, trivial, trivial, trivial⟩, ?_⟩
  refine WD.loud hok1 11 rfl (⟨_, [⟨4, .slice wa wn wc, (fun w' => w'.heap[g]? = some (.cells #[.slice fa fn fc, .slice ba bn bc, .slice a1 ((ms ++ ([⟨la, ln, lc, l⟩] : List (LR Int))).length) c1, v3, .slice wa wn wc] 117 (0, 0)))⟩, ⟨3, .pointer (some ⟨g, 4, none⟩), (fun _ => True)⟩, ⟨2, .pointer (some ⟨g, 0, none⟩), (fun _ => True)⟩, ⟨1, .pointer (some ⟨g, 0, none⟩), (fun _ => True)⟩, ⟨0, .pointer (some ⟨g, 0, none⟩), (fun _ => True)⟩], rfl, rfl, rfl, rfl, rfl, rfl, t_buildSlice (T := tyLR) (xs := ([⟨(some ⟨w4.heap.size, 0, none⟩), (List.replicate fn false).length, fn, List.replicate fn false⟩] : List (LR Bool))) (cs := #[.slice (some ⟨w4.heap.size, 0, none⟩) ((List.replicate fn false).length) fn]) rfl Try.underlying29 sz23 rfl rfl rfl rfl (by kernel_rfl) rfl rfl fun w6 u5 => ?_⟩)
  have H7 : UpG w [blk g #[.slice fa fn fc, .slice ba bn bc, .slice ma mn mc, v3, .slice wa wn wc] 117, rowT (tyI .i64) (.slice ba bn bc) 3 bl, rowT tyLR (.slice ma mn mc) 22 ms, manyF (inLR (tyI .i64) 3).row ms, rowT tyLR (.slice wa wn wc) 23 wt, manyF (inLR tyB 4).row wt, rowT (tyI .i64) (.slice la ln lc) 3 l] w6 [[blk g #[.slice fa fn fc, .slice ba bn bc, .slice a1 ((ms ++ ([⟨la, ln, lc, l⟩] : List (LR Int))).length) c1, v3, .slice wa wn wc] 117], [rowT (tyI .i64) (.slice ba bn bc) 3 bl], [rowT tyLR (.slice a1 ((ms ++ ([⟨la, ln, lc, l⟩] : List (LR Int))).length) c1) 22 (ms ++ ([⟨la, ln, lc, l⟩] : List (LR Int)))], [manyF (inLR (tyI .i64) 3).row (ms ++ [⟨la, ln, lc, l⟩])], [rowT tyLR (.slice wa wn wc) 23 wt], [manyF (inLR tyB 4).row wt], [], [], [rowT tyB (.slice (some ⟨w4.heap.size, 0, none⟩) ((List.replicate fn false).length) fn) 4 (List.replicate fn false)], [rowT tyLR (.slice (some ⟨w5.heap.size, 0, none⟩) (([⟨(some ⟨w4.heap.size, 0, none⟩), (List.replicate fn false).length, fn, List.replicate fn false⟩] : List (LR Bool)).length) (([⟨(some ⟨w4.heap.size, 0, none⟩), (List.replicate fn false).length, fn, List.replicate fn false⟩] : List (LR Bool)).length)) 23 ([⟨(some ⟨w4.heap.size, 0, none⟩), (List.replicate fn false).length, fn, List.replicate fn false⟩] : List (LR Bool))]] := H6.new' u5
  refine ⟨⟨(H7.blk 0 rfl), trivial, trivial, trivial, trivial, trivial⟩, ?_⟩
  refine WD.loud hok1 12 rfl (⟨_, [⟨0, .pointer (some ⟨g, 0, none⟩), (fun _ => True)⟩], rfl, rfl, rfl, rfl, rfl, rfl, t_appendN (T := tyLR) (xs := wt) (ys := ([⟨(some ⟨w4.heap.size, 0, none⟩), (List.replicate fn false).length, fn, List.replicate fn false⟩] : List (LR Bool))) rfl Try.underlying29 sz23 rfl rfl rfl (H7.rdT 4 rfl).len (H7.ownT 4 rfl) (H7.rdT 9 rfl) (by first | omega | (simp only [List.length_singleton]; omega)) (by first | omega | (simp only [List.length_singleton]; omega)) fun a2 c2 w7 u6 => ?_⟩)
  have H8 : UpG w [blk g #[.slice fa fn fc, .slice ba bn bc, .slice ma mn mc, v3, .slice wa wn wc] 117, rowT (tyI .i64) (.slice ba bn bc) 3 bl, rowT tyLR (.slice ma mn mc) 22 ms, manyF (inLR (tyI .i64) 3).row ms, rowT tyLR (.slice wa wn wc) 23 wt, manyF (inLR tyB 4).row wt, rowT (tyI .i64) (.slice la ln lc) 3 l] w7 [[blk g #[.slice fa fn fc, .slice ba bn bc, .slice a1 ((ms ++ ([⟨la, ln, lc, l⟩] : List (LR Int))).length) c1, v3, .slice wa wn wc] 117], [rowT (tyI .i64) (.slice ba bn bc) 3 bl], [rowT tyLR (.slice a1 ((ms ++ ([⟨la, ln, lc, l⟩] : List (LR Int))).length) c1) 22 (ms ++ ([⟨la, ln, lc, l⟩] : List (LR Int)))], [manyF (inLR (tyI .i64) 3).row (ms ++ [⟨la, ln, lc, l⟩])], [rowT tyLR (.slice a2 ((wt ++ ([⟨(some ⟨w4.heap.size, 0, none⟩), (List.replicate fn false).length, fn, List.replicate fn false⟩] : List (LR Bool))).length) c2) 23 (wt ++ ([⟨(some ⟨w4.heap.size, 0, none⟩), (List.replicate fn false).length, fn, List.replicate fn false⟩] : List (LR Bool)))], [manyF (inLR tyB 4).row wt], [], [], [rowT tyB (.slice (some ⟨w4.heap.size, 0, none⟩) ((List.replicate fn false).length) fn) 4 (List.replicate fn false)], []] := (H7.on 4 rfl u6).drop 9
  have H9 : UpG w [blk g #[.slice fa fn fc, .slice ba bn bc, .slice ma mn mc, v3, .slice wa wn wc] 117, rowT (tyI .i64) (.slice ba bn bc) 3 bl, rowT tyLR (.slice ma mn mc) 22 ms, manyF (inLR (tyI .i64) 3).row ms, rowT tyLR (.slice wa wn wc) 23 wt, manyF (inLR tyB 4).row wt, rowT (tyI .i64) (.slice la ln lc) 3 l] w7 [[blk g #[.slice fa fn fc, .slice ba bn bc, .slice a1 ((ms ++ ([⟨la, ln, lc, l⟩] : List (LR Int))).length) c1, v3, .slice wa wn wc] 117], [rowT (tyI .i64) (.slice ba bn bc) 3 bl], [rowT tyLR (.slice a1 ((ms ++ ([⟨la, ln, lc, l⟩] : List (LR Int))).length) c1) 22 (ms ++ ([⟨la, ln, lc, l⟩] : List (LR Int)))], [manyF (inLR (tyI .i64) 3).row (ms ++ [⟨la, ln, lc, l⟩])], [rowT tyLR (.slice a2 ((wt ++ ([⟨(some ⟨w4.heap.size, 0, none⟩), (List.replicate fn false).length, fn, List.replicate fn false⟩] : List (LR Bool))).length) c2) 23 (wt ++ ([⟨(some ⟨w4.heap.size, 0, none⟩), (List.replicate fn false).length, fn, List.replicate fn false⟩] : List (LR Bool)))], [manyF (inLR tyB 4).row (wt ++ [⟨(some ⟨w4.heap.size, 0, none⟩), (List.replicate fn false).length, fn, List.replicate fn false⟩])], [], [], [], []] := (UpG.absorb (f := (inLR tyB 4).row) (⟨(some ⟨w4.heap.size, 0, none⟩), (List.replicate fn false).length, fn, List.replicate fn false⟩ : (LR Bool)) H8 5 8 rfl rfl rfl).re rfl
  refine ⟨⟨trivial, trivial⟩, ?_⟩
  refine WD.take hok1 13 (.pointer (some ⟨g, 0, none⟩)) (fun _ => True) rfl rfl rfl rfl rfl trivial (.inl ⟨rfl, fun _ _ => d_nilCheck rfl ⟨rfl, rfl⟩⟩) ?_
  refine WD.take hok1 14 (.pointer (some ⟨g, 4, none⟩)) (fun _ => True) rfl rfl rfl rfl rfl trivial (.inl ⟨rfl, fun _ _ => d_fieldAddrB fld117_4 rfl rfl ⟨rfl, rfl⟩⟩) ?_
  refine WD.loud hok1 15 rfl (⟨_, [], rfl, rfl, rfl, rfl, rfl, rfl, d_storeB sz29 rfl rfl rfl (H9.blk 0 rfl) rfl fun w8 u7 => ?_⟩)
  have H10 : UpG w [blk g #[.slice fa fn fc, .slice ba bn bc, .slice ma mn mc, v3, .slice wa wn wc] 117, rowT (tyI .i64) (.slice ba bn bc) 3 bl, rowT tyLR (.slice ma mn mc) 22 ms, manyF (inLR (tyI .i64) 3).row ms, rowT tyLR (.slice wa wn wc) 23 wt, manyF (inLR tyB 4).row wt, rowT (tyI .i64) (.slice la ln lc) 3 l] w8 [[blk g #[.slice fa fn fc, .slice ba bn bc, .slice a1 ((ms ++ ([⟨la, ln, lc, l⟩] : List (LR Int))).length) c1, v3, .slice a2 ((wt ++ ([⟨(some ⟨w4.heap.size, 0, none⟩), (List.replicate fn false).length, fn, List.replicate fn false⟩] : List (LR Bool))).length) c2] 117], [rowT (tyI .i64) (.slice ba bn bc) 3 bl], [rowT tyLR (.slice a1 ((ms ++ ([⟨la, ln, lc, l⟩] : List (LR Int))).length) c1) 22 (ms ++ ([⟨la, ln, lc, l⟩] : List (LR Int)))], [manyF (inLR (tyI .i64) 3).row (ms ++ [⟨la, ln, lc, l⟩])], [rowT tyLR (.slice a2 ((wt ++ ([⟨(some ⟨w4.heap.size, 0, none⟩), (List.replicate fn false).length, fn, List.replicate fn false⟩] : List (LR Bool))).length) c2) 23 (wt ++ ([⟨(some ⟨w4.heap.size, 0, none⟩), (List.replicate fn false).length, fn, List.replicate fn false⟩] : List (LR Bool)))], [manyF (inLR tyB 4).row (wt ++ [⟨(some ⟨w4.heap.size, 0, none⟩), (List.replicate fn false).length, fn, List.replicate fn false⟩])], [], [], [], []] := H9.on 0 rfl u7
  refine ⟨trivial, ?_⟩
  refine WD.done hok1 rfl (X.then_code ?_)
  refine W.pick [5, 4, 0, 1] (Γ' := [(5, .int .i64 ((mn : Nat) : Int)), (4, .int .i64 0), (0, .pointer (some ⟨g, 0, none⟩)), (1, .slice la ln lc)]) rfl ?_
  refine W.seq ?_
  refine W.seq ?_
  have hll := RdT.le (show RdT (tyI .i64) w8 (.slice la ln lc) l from (Inn.own (H10.hpOf 3 rfl)) ⟨la, ln, lc, l⟩ (by simp))
  refine W.region ?_
  refine WL.op rfl (d_move rfl ?_)
  refine WL.op rfl (d_lenS Try.underlying22 rfl ?_)
  refine WL.op rfl (d_move rfl ?_)
  refine WL.done (X.then_code ?_)
  refine W.block ?_
  refine W.pick [40, 39, 38, 5, 4, 0] (Γ' := [(40, .int .i64 0), (39, .int .i64 ((ln : Nat) : Int)), (38, .slice la ln lc), (5, .int .i64 ((mn : Nat) : Int)), (4, .int .i64 0), (0, .pointer (some ⟨g, 0, none⟩))]) rfl ?_
  refine W.loop (fun m Γ' w' => ∃ k : Nat, ∃ bq : List Int, Γ' = [(40, .int .i64 ((k : Nat) : Int)), (39, .int .i64 ((ln : Nat) : Int)), (38, .slice la ln lc), (5, .int .i64 ((mn : Nat) : Int)), (4, .int .i64 0), (0, .pointer (some ⟨g, 0, none⟩))] ∧ UpG w [blk g #[.slice fa fn fc, .slice ba bn bc, .slice ma mn mc, v3, .slice wa wn wc] 117, rowT (tyI .i64) (.slice ba bn bc) 3 bl, rowT tyLR (.slice ma mn mc) 22 ms, manyF (inLR (tyI .i64) 3).row ms, rowT tyLR (.slice wa wn wc) 23 wt, manyF (inLR tyB 4).row wt, rowT (tyI .i64) (.slice la ln lc) 3 l] w' [[blk g #[.slice fa fn fc, .slice ba bn bc, .slice a1 ((ms ++ ([⟨la, ln, lc, l⟩] : List (LR Int))).length) c1, v3, .slice a2 ((wt ++ ([⟨(some ⟨w4.heap.size, 0, none⟩), (List.replicate fn false).length, fn, List.replicate fn false⟩] : List (LR Bool))).length) c2] 117], [rowT (tyI .i64) (.slice ba bn bc) 3 bq], [rowT tyLR (.slice a1 ((ms ++ ([⟨la, ln, lc, l⟩] : List (LR Int))).length) c1) 22 (ms ++ ([⟨la, ln, lc, l⟩] : List (LR Int)))], [manyF (inLR (tyI .i64) 3).row (ms ++ [⟨la, ln, lc, l⟩])], [rowT tyLR (.slice a2 ((wt ++ ([⟨(some ⟨w4.heap.size, 0, none⟩), (List.replicate fn false).length, fn, List.replicate fn false⟩] : List (LR Bool))).length) c2) 23 (wt ++ ([⟨(some ⟨w4.heap.size, 0, none⟩), (List.replicate fn false).length, fn, List.replicate fn false⟩] : List (LR Bool)))], [manyF (inLR tyB 4).row (wt ++ [⟨(some ⟨w4.heap.size, 0, none⟩), (List.replicate fn false).length, fn, List.replicate fn false⟩])], [], [], [], []] ∧ (k ≤ l.length) ∧ (BlI l ((mn : Nat) : Int) bl bq k) ∧ m = l.length - k) (l.length - 0) ⟨0, bl, rfl, H10, (by first | assumption | omega | simp), (by exact BlI.start _ _ _), rfl⟩ ?_
  rintro m1 Γ1 w9 ⟨k, bq, rfl, H11, hk, hq, rfl⟩
  have hql := hq.len
  refine W.seq ?_
  have hll := RdT.le (show RdT (tyI .i64) w9 (.slice la ln lc) l from (Inn.own (H11.hpOf 3 rfl)) ⟨la, ln, lc, l⟩ (by simp))
  refine W.region ?_
  refine WL.op rfl (d_cmp (decide (((k : Nat) : Int) < ((ln : Nat) : Int))) rfl rfl rfl ?_)
  refine WL.done (X.then_code ?_)
  refine W.seq ?_
  refine W.ite (p := ((k : Nat) : Int) < ((ln : Nat) : Int)) rfl (fun c69 => ?_) (fun c69 => ?_)
  · skip
    refine W.skip (X.then_code ?_)
    refine W.seq ?_
    refine W.block ?_
    refine W.seq ?_
    have hll := RdT.le (show RdT (tyI .i64) w9 (.slice la ln lc) l from (Inn.own (H11.hpOf 3 rfl)) ⟨la, ln, lc, l⟩ (by simp))
    refine W.region ?_
    refine WL.op rfl (t_addr1 k (T := (tyI .i64)) rfl Try.underlying22 sz3 rfl rfl (show RdT (tyI .i64) w9 (.slice la ln lc) l from (Inn.own (H11.hpOf 3 rfl)) ⟨la, ln, lc, l⟩ (by simp)) rfl (by omega) ?_)
    refine WL.op rfl (t_load1 k 0 (T := (tyI .i64)) rfl Try.underlying3 rfl rfl (show RdT (tyI .i64) w9 (.slice la ln lc) l from (Inn.own (H11.hpOf 3 rfl)) ⟨la, ln, lc, l⟩ (by simp)) (by omega) rfl ?_)
    refine WL.op rfl (d_assign rfl ?_)
    refine WL.done (X.then_code ?_)
    have hxb := hin (l.getD k 0) (getD_mem' (by omega))
    refine W.region ?_
    refine WL.op rfl (d_move rfl ?_)
    refine WL.op rfl (d_nilCheck rfl ?_)
    refine WL.op rfl (d_fieldAddrB fld117_1 rfl rfl ?_)
    refine WL.op rfl (d_loadB Try.underlying22 rfl rfl (H11.blk 0 rfl) rfl ?_)
    refine WL.op rfl (d_move rfl ?_)
    refine WL.op rfl (d_move rfl ?_)
    refine WL.op rfl (t_addr1 ((l.getD k 0).toNat) (T := (tyI .i64)) rfl Try.underlying22 sz3 rfl rfl (H11.rdT 1 rfl) (by omega) (by omega) ?_)
    refine WL.op0 (t_store1 ((l.getD k 0).toNat) ((mn : Nat) : Int) (T := (tyI .i64)) (e := 3) rfl sz3 rfl rfl rfl (H11.ownT 1 rfl) (by omega) fun w10 u8 => ?_)
    have H12 : UpG w [blk g #[.slice fa fn fc, .slice ba bn bc, .slice ma mn mc, v3, .slice wa wn wc] 117, rowT (tyI .i64) (.slice ba bn bc) 3 bl, rowT tyLR (.slice ma mn mc) 22 ms, manyF (inLR (tyI .i64) 3).row ms, rowT tyLR (.slice wa wn wc) 23 wt, manyF (inLR tyB 4).row wt, rowT (tyI .i64) (.slice la ln lc) 3 l] w10 [[blk g #[.slice fa fn fc, .slice ba bn bc, .slice a1 ((ms ++ ([⟨la, ln, lc, l⟩] : List (LR Int))).length) c1, v3, .slice a2 ((wt ++ ([⟨(some ⟨w4.heap.size, 0, none⟩), (List.replicate fn false).length, fn, List.replicate fn false⟩] : List (LR Bool))).length) c2] 117], [rowT (tyI .i64) (.slice ba bn bc) 3 (bq.set ((l.getD k 0).toNat) ((mn : Nat) : Int))], [rowT tyLR (.slice a1 ((ms ++ ([⟨la, ln, lc, l⟩] : List (LR Int))).length) c1) 22 (ms ++ ([⟨la, ln, lc, l⟩] : List (LR Int)))], [manyF (inLR (tyI .i64) 3).row (ms ++ [⟨la, ln, lc, l⟩])], [rowT tyLR (.slice a2 ((wt ++ ([⟨(some ⟨w4.heap.size, 0, none⟩), (List.replicate fn false).length, fn, List.replicate fn false⟩] : List (LR Bool))).length) c2) 23 (wt ++ ([⟨(some ⟨w4.heap.size, 0, none⟩), (List.replicate fn false).length, fn, List.replicate fn false⟩] : List (LR Bool)))], [manyF (inLR tyB 4).row (wt ++ [⟨(some ⟨w4.heap.size, 0, none⟩), (List.replicate fn false).length, fn, List.replicate fn false⟩])], [], [], [], []] := H11.on 1 rfl u8
    refine WL.done (X.block_normal (X.then_code ?_))
    have hll := RdT.le (show RdT (tyI .i64) w10 (.slice la ln lc) l from (Inn.own (H12.hpOf 3 rfl)) ⟨la, ln, lc, l⟩ (by simp))
    refine W.region ?_
    refine WL.op rfl (d_add rfl rfl (by omega) (by omega) ?_)
    refine WL.op rfl (d_move rfl ?_)
    refine WL.done ?_
    exact X.next [40, 39, 38, 5, 4, 0] (Γ' := [(40, .int .i64 (((k + 1) : Nat) : Int)), (39, .int .i64 ((ln : Nat) : Int)), (38, .slice la ln lc), (5, .int .i64 ((mn : Nat) : Int)), (4, .int .i64 0), (0, .pointer (some ⟨g, 0, none⟩))]) rfl (l.length - (k + 1)) (by omega) ⟨k + 1, bq.set ((l.getD k 0).toNat) ((mn : Nat) : Int), rfl, H12, (by first | assumption | omega | simp), (by exact hq.step (by omega) hxb), rfl⟩
  · skip
    refine W.exit (X.then_exit (X.then_exit (X.block_exit (X.then_code ?_))))
    refine W.seq ?_
    refine W.region ?_
    refine WL.op rfl (d_move rfl ?_)
    refine WL.op rfl (d_assign rfl ?_)
    refine WL.done (X.then_code ?_)
    refine W.ret (X.ret1 rfl rfl ?_)
    exact ⟨_, a1, c1, a2, wt ++ ([⟨(some ⟨w4.heap.size, 0, none⟩), (List.replicate fn false).length, fn, List.replicate fn false⟩] : List (LR Bool)), c2, (by rw [hmn]), (Upd.sel H11 (l := [0, 1, 2, 3, 4, 5]) rfl rfl), ⟨hq.len, by rw [← hmn]; exact hq.fin (by omega), by simp, fun i hi => getD_preL hi, by rw [getD_snocL]⟩⟩
end Go.Proofs.Ytoeockpkkmgieaa


/- The walks of functions, printed by wip/tools/gw.py. -/
namespace Go.Proofs.Ytoeockpkkmgieaa
open Go Go.Sx
set_option linter.unusedVariables false
set_option linter.unusedSimpArgs false
set_option maxRecDepth 20000 in
theorem split1_any (x : Int) (g : Nat) (mg : Nat) (gm : List (Int × Int)) (w : World) (hmg : MapAt w (fun a : Int => .int .i64 a) (fun a : Int => .int .i64 a) mg gm) (bg : w.heap[g]? = some (.cells #[.map (some mg)] 135 (0, 0))) :
    Calls Try.prog 106 #[.int .i64 x, .pointer (some ⟨g, 0, none⟩)] w (Ret fun v w' => v = .bool (decide ((getM gm x).getD 0 = 1)) ∧ Upd w [] w' []) := by
  refine calls_of_W (args := [.int .i64 x, .pointer (some ⟨g, 0, none⟩)]) Try.func106 rfl rfl rfl ?_
  have H0 : UpG w [] w [] := UpG.nil w
  show W _ _ _ _ [(0, .int .i64 x), (1, .pointer (some ⟨g, 0, none⟩))] w
  refine W.seq ?_
  refine W.region ?_
  refine WL.op rfl (d_assign rfl ?_)
  refine WL.done (X.then_code ?_)
  refine W.seq ?_
  refine W.region ?_
  refine WL.op rfl (d_loadB Try.underlying135 rfl rfl (H0.keep0.obj bg (by simp)) rfl ?_)
  refine WL.op rfl (d_move rfl ?_)
  refine WL.op rfl (d_look1 (ek := (fun a : Int => .int .i64 a)) (evl := (fun a : Int => .int .i64 a)) x 0 key3 Try.underlying135 sz3 rfl rfl (mapAt_keep hmg H0.keep0 (by simp)) ?_)
  refine WL.op rfl (d_cmp (decide (((getM gm x).getD 0) = (1 : Int))) rfl rfl rfl ?_)
  refine WL.op rfl (d_assign rfl ?_)
  refine WL.done (X.then_code ?_)
  refine W.ret (X.ret1 rfl rfl ?_)
  exact ⟨(by rfl), H0.noneL⟩

set_option maxRecDepth 20000 in
theorem deleteI_any (sa : Option Addr) (s : List Int) (sc : Nat) (f : FuncId) (fc : List Value) (p : Int → Bool) (w : World) (hp : Hp w [rowT (tyI .i64) (.slice sa s.length sc) 3 s]) (hl : s.length ≤ 100000) (hok : CallOk Try.prog f) (hf : ClosS Try.prog f fc p (ats [rowT (tyI .i64) (.slice sa s.length sc) 3 s]) w) :
    Calls Try.prog 105 #[.slice sa s.length sc, .func (.func f) #[] fc.toArray] w (Ret fun v w' => v = .slice sa ((s.filter (fun x => !p x)).length) sc ∧ Upd w [rowT (tyI .i64) (.slice sa s.length sc) 3 s] w' [rowT (tyI .i64) (.slice sa ((s.filter (fun x => !p x)).length) sc) 3 (s.filter (fun x => !p x))]) := by
  have hsp := findI_spec p s
  refine calls_of_W (args := [.slice sa s.length sc, .func (.func f) #[] fc.toArray]) Try.func105 rfl rfl rfl ?_
  have H0 : UpG w [rowT (tyI .i64) (.slice sa s.length sc) 3 s] w [[rowT (tyI .i64) (.slice sa s.length sc) 3 s]] := (UpG.refl hp).re rfl
  show W _ _ _ _ [(0, .slice sa s.length sc), (1, .func (.func f) #[] fc.toArray)] w
  refine W.seq ?_
  refine W.region ?_
  refine WL.op rfl (d_assign rfl ?_)
  refine WL.done (X.then_code ?_)
  refine W.seq ?_
  refine W.region ?_
  refine WL.op rfl (d_move rfl ?_)
  refine WL.op rfl (d_move rfl ?_)
  refine WL.op rfl (d_call ok102 rfl (Ret.calls (indexFunc_any sa s sc f fc p w (H0.rdT 0 rfl) hok (fun w9 k9 x => hf w9 (H0.keep.trans k9.nil) x)) fun _ w1 p1 => ?_))
  obtain ⟨rfl, u1⟩ := p1
  have H1 : UpG w [rowT (tyI .i64) (.slice sa s.length sc) 3 s] w1 [[rowT (tyI .i64) (.slice sa s.length sc) 3 s]] := H0.call u1
  refine WL.op rfl (d_assign rfl ?_)
  refine WL.done (X.then_code ?_)
  refine W.seq ?_
  refine W.seq ?_
  refine W.region ?_
  refine WL.op rfl (d_move rfl ?_)
  refine WL.op rfl (d_cmp (decide ((findI p s) = (-1 : Int))) rfl rfl rfl ?_)
  refine WL.done (X.then_code ?_)
  refine W.ite (p := (findI p s) = (-1 : Int)) rfl (fun c243 => ?_) (fun c243 => ?_)
  · skip
    refine W.seq ?_
    refine W.region ?_
    refine WL.op rfl (d_move rfl ?_)
    refine WL.op rfl (d_assign rfl ?_)
    refine WL.done (X.then_code ?_)
    refine W.ret (X.then_ret (X.ret1 rfl rfl ?_))
    have hq9 := hsp.resolve_right (fun h => by obtain ⟨k, h, _⟩ := h; omega)
    have e : s.filter (fun x => !p x) = s := by have h9 := none_keep hq9.2; rwa [List.take_of_length_le (by omega)] at h9
    rw [e]
    exact ⟨(by rfl), (Upd.sel H1 (l := [0]) rfl rfl)⟩
  · skip
    obtain ⟨k0, hr, hk0, hn0, hp0⟩ := hsp.resolve_left (fun h => c243 h.1)
    have hr2 : findI p s = (((findI p s).toNat : Nat) : Int) := by omega
    have hk2 : (findI p s).toNat = k0 := by omega
    refine W.skip (X.then_code ?_)
    refine W.seq ?_
    refine W.seq ?_
    refine W.region ?_
    refine WL.op rfl (d_move rfl ?_)
    refine WL.op rfl (d_add rfl rfl (by omega) (by omega) ?_)
    refine WL.op rfl (d_assign rfl ?_)
    refine WL.done (X.then_code ?_)
    refine W.block ?_
    refine W.pick [6, 5, 4, 0, 1] (Γ' := [(6, .int .i64 ((findI p s) + 1)), (5, .int .i64 (findI p s)), (4, .slice none 0 0), (0, .slice sa s.length sc), (1, .func (.func f) #[] fc.toArray)]) rfl ?_
    rw [hr2]
    refine W.loop (fun m Γ' w' => ∃ i : Nat, ∃ j : Nat, ∃ ys : List Int, Γ' = [(6, .int .i64 ((j : Nat) : Int)), (5, .int .i64 ((i : Nat) : Int)), (4, .slice none 0 0), (0, .slice sa s.length sc), (1, .func (.func f) #[] fc.toArray)] ∧ UpG w [rowT (tyI .i64) (.slice sa s.length sc) 3 s] w' [[rowT (tyI .i64) (.slice sa s.length sc) 3 ys]] ∧ (DelI p s ys i j) ∧ (j ≤ s.length) ∧ m = s.length - j) (s.length - ((findI p s).toNat + 1)) ⟨(findI p s).toNat, ((findI p s).toNat + 1), s, rfl, H1, (by rw [hk2]; exact DelI.start hn0 hk0 hp0), (by first | assumption | omega | simp), rfl⟩ ?_
    rintro m1 Γ1 w2 ⟨i, j, ys, rfl, H2, hd, hj, rfl⟩
    have hdl := hd.len
    have hdle := hd.le
    refine W.seq ?_
    refine W.seq ?_
    refine W.region ?_
    refine WL.op rfl (d_move rfl ?_)
    refine WL.op rfl (d_move rfl ?_)
    refine WL.op rfl (d_lenS Try.underlying22 rfl ?_)
    refine WL.op rfl (d_cmp (decide (((j : Nat) : Int) < ((s.length : Nat) : Int))) rfl rfl rfl ?_)
    refine WL.done (X.then_code ?_)
    refine W.ite (p := ((j : Nat) : Int) < ((s.length : Nat) : Int)) rfl (fun c247 => ?_) (fun c247 => ?_)
    · skip
      refine W.skip (X.then_code ?_)
      refine W.seq ?_
      refine W.block ?_
      refine W.seq ?_
      refine W.region ?_
      refine WL.op rfl (d_move rfl ?_)
      refine WL.op rfl (d_move rfl ?_)
      refine WL.op rfl (t_addr1 j (T := (tyI .i64)) rfl Try.underlying22 sz3 rfl rfl (H2.rdT 0 rfl) rfl (by omega) ?_)
      refine WL.op rfl (t_load1 j 0 (T := (tyI .i64)) rfl Try.underlying3 rfl rfl (H2.rdT 0 rfl) (by omega) rfl ?_)
      refine WL.op rfl (d_assign rfl ?_)
      refine WL.done (X.then_code ?_)
      refine W.seq ?_
      refine W.region ?_
      refine WL.op rfl (d_move rfl ?_)
      refine WL.op rfl (d_move rfl ?_)
      refine WL.op rfl (d_callv hok rfl rfl (Ret.calls (hf w2 H2.keep (ys.getD j 0)) fun _ w3 p2 => ?_))
      obtain ⟨rfl, u2⟩ := p2
      have H3 : UpG w [rowT (tyI .i64) (.slice sa s.length sc) 3 s] w3 [[rowT (tyI .i64) (.slice sa s.length sc) 3 ys]] := H2.call u2
      refine WL.op rfl (d_notB rfl ?_)
      refine WL.done (X.then_code ?_)
      refine W.iteB (b := !(p (ys.getD j 0))) rfl (fun c248 => ?_) (fun c248 => ?_)
      · skip
        refine W.seq ?_
        refine W.region ?_
        refine WL.op rfl (d_move rfl ?_)
        refine WL.op rfl (d_move rfl ?_)
        refine WL.op rfl (d_move rfl ?_)
        refine WL.op rfl (t_addr1 i (T := (tyI .i64)) rfl Try.underlying22 sz3 rfl rfl (H3.rdT 0 rfl) rfl (by omega) ?_)
        refine WL.op0 (t_store1 i (ys.getD j 0) (T := (tyI .i64)) (e := 3) rfl sz3 rfl rfl rfl (H3.ownT 0 rfl) (by omega) fun w4 u3 => ?_)
        have H4 : UpG w [rowT (tyI .i64) (.slice sa s.length sc) 3 s] w4 [[rowT (tyI .i64) (.slice sa s.length sc) 3 (ys.set i (ys.getD j 0))]] := H3.on 0 rfl u3
        refine WL.done (X.then_code ?_)
        refine W.region ?_
        refine WL.op rfl (d_move rfl ?_)
        refine WL.op rfl (d_add rfl rfl (by omega) (by omega) ?_)
        refine WL.op rfl (d_assign rfl ?_)
        refine WL.done (X.block_normal (X.then_code ?_))
        refine W.region ?_
        refine WL.op rfl (d_move rfl ?_)
        refine WL.op rfl (d_add rfl rfl (by omega) (by omega) ?_)
        refine WL.op rfl (d_assign rfl ?_)
        refine WL.done ?_
        exact X.next [6, 5, 4, 0, 1] (Γ' := [(6, .int .i64 (((j + 1) : Nat) : Int)), (5, .int .i64 (((i + 1) : Nat) : Int)), (4, .slice none 0 0), (0, .slice sa s.length sc), (1, .func (.func f) #[] fc.toArray)]) rfl (s.length - (j + 1)) (by omega) ⟨i + 1, j + 1, ys.set i (ys.getD j 0), rfl, H4, (by first | exact hd.yes (by omega) (by simpa using c248) | exact hd.no (by omega) (by simpa using c248)), (by first | assumption | omega | simp), rfl⟩
      · skip
        refine W.skip (X.block_normal (X.then_code ?_))
        refine W.region ?_
        refine WL.op rfl (d_move rfl ?_)
        refine WL.op rfl (d_add rfl rfl (by omega) (by omega) ?_)
        refine WL.op rfl (d_assign rfl ?_)
        refine WL.done ?_
        exact X.next [6, 5, 4, 0, 1] (Γ' := [(6, .int .i64 (((j + 1) : Nat) : Int)), (5, .int .i64 ((i : Nat) : Int)), (4, .slice none 0 0), (0, .slice sa s.length sc), (1, .func (.func f) #[] fc.toArray)]) rfl (s.length - (j + 1)) (by omega) ⟨i, j + 1, ys, rfl, H3, (by first | exact hd.yes (by omega) (by simpa using c248) | exact hd.no (by omega) (by simpa using c248)), (by first | assumption | omega | simp), rfl⟩
    · skip
      refine W.exit (X.then_exit (X.then_exit (X.block_exit (X.then_code ?_))))
      refine W.seq ?_
      refine W.region ?_
      refine WL.op rfl (d_move rfl ?_)
      refine WL.op rfl (d_move rfl ?_)
      refine WL.op rfl (t_suffix i Try.underlying22 sz3 rfl rfl rfl (by omega) (own_capN (H2.ownT 0 rfl)) ?_)
      refine WL.op0 (t_clearN i 0 (T := (tyI .i64)) (xs := ys) rfl Try.underlying22 sz3 rfl rfl (H2.ownT 0 rfl) (by exact hdl.symm) (by omega) fun w5 u4 => ?_)
      have H5 : UpG w [rowT (tyI .i64) (.slice sa s.length sc) 3 s] w5 [[rowT (tyI .i64) (.slice sa s.length sc) 3 (ys.take i ++ List.replicate (s.length - i) 0)]] := H2.on 0 rfl u4
      refine WL.done (X.then_code ?_)
      refine W.seq ?_
      refine W.region ?_
      refine WL.op rfl (d_move rfl ?_)
      refine WL.op rfl (d_move rfl ?_)
      refine WL.op rfl (t_popN ((i : Nat) : Int) i (T := (tyI .i64)) (e := 3) (xs := (ys.take i ++ List.replicate (s.length - i) 0)) rfl Try.underlying22 sz3 rfl rfl (H5.ownT 0 rfl) (by simp; omega) rfl (by omega) fun w6 u5 => ?_)
      have H6 : UpG w [rowT (tyI .i64) (.slice sa s.length sc) 3 s] w6 [[rowT (tyI .i64) (.slice sa (((ys.take i ++ List.replicate (s.length - i) 0).take i).length) sc) 3 ((ys.take i ++ List.replicate (s.length - i) 0).take i)]] := H5.on 0 rfl u5
      refine WL.op rfl (d_assign rfl ?_)
      refine WL.done (X.then_code ?_)
      refine W.ret (X.ret1 rfl rfl ?_)
      have e : s.filter (fun x => !p x) = (ys.take i ++ List.replicate (s.length - i) 0).take i := by have h9 := hd.fin (by omega); have h8 : (ys.take i).length = i := by { simp; omega }; rw [← h9, List.take_append_of_le_length (Nat.le_of_eq h8.symm), List.take_take, Nat.min_self]
      rw [e]
      exact ⟨(by rfl), (Upd.sel H6 (l := [0]) rfl rfl)⟩

set_option maxRecDepth 20000 in
theorem hsplit_any (g : Nat) (b : Int) (oa : Option Addr) (out : List Int) (oc : Nat) (on : Nat) (fa : Option Addr) (fc : Nat) (fn : Nat) (ba : Option Addr) (bl : List Int) (bc : Nat) (bn : Nat) (ma : Option Addr) (ms : List (LR Int)) (mc : Nat) (mn : Nat) (ta : Option Addr) (td : List (Int × Int)) (tc : Nat) (wa : Option Addr) (wt : List (LR Bool)) (wc : Nat) (wn : Nat) (w : World) (hp : Hp w [blk g #[.slice fa fn fc, .slice ba bn bc, .slice ma mn mc, .slice ta td.length tc, .slice wa wn wc] 117, rowT (tyI .i64) (.slice ba bn bc) 3 bl, rowT tyLR (.slice ma mn mc) 22 ms, manyF (inLR (tyI .i64) 3).row ms, rowT tyTk (.slice ta td.length tc) 119 td, rowT tyLR (.slice wa wn wc) 23 wt, manyF (inLR tyB 4).row wt, rowT (tyI .i64) (.slice oa on oc) 3 out]) (hb : 0 ≤ b ∧ b < (ms.length : Int)) (hwm : wt.length = ms.length) (hrow : ∀ i, i < wt.length → (wt.getD i lr0).xs.length = fn) (hin : ∀ x, x ∈ out → 0 ≤ x ∧ x < (bl.length : Int)) (hms : ms.length ≤ 1000000) (hfn : fn ≤ 1000000) (htd : td.length ≤ 10000000) (hlb : (ms.getD b.toNat lr0).xs.length ≤ 100000) :
    Calls Try.prog 99 #[.pointer (some ⟨g, 0, none⟩), .int .i64 b, .slice oa on oc] w (Ret fun v w' => ∃ bl2 : List Int, ∃ ma2 : Option Addr, ∃ ms2 : List (LR Int), ∃ mc2 : Nat, ∃ ta2 : Option Addr, ∃ td2 : List (Int × Int), ∃ tc2 : Nat, ∃ wa2 : Option Addr, ∃ wt2 : List (LR Bool), ∃ wc2 : Nat, ∃ wn2 : Nat, v = .tuple #[] ∧ Upd w [blk g #[.slice fa fn fc, .slice ba bn bc, .slice ma mn mc, .slice ta td.length tc, .slice wa wn wc] 117, rowT (tyI .i64) (.slice ba bn bc) 3 bl, rowT tyLR (.slice ma mn mc) 22 ms, manyF (inLR (tyI .i64) 3).row ms, rowT tyTk (.slice ta td.length tc) 119 td, rowT tyLR (.slice wa wn wc) 23 wt, manyF (inLR tyB 4).row wt, rowT (tyI .i64) (.slice oa on oc) 3 out] w' [blk g #[.slice fa fn fc, .slice ba bn bc, .slice ma2 ms2.length mc2, .slice ta2 td2.length tc2, .slice wa2 wn2 wc2] 117, rowT (tyI .i64) (.slice ba bn bc) 3 bl2, rowT tyLR (.slice ma2 ms2.length mc2) 22 ms2, manyF (inLR (tyI .i64) 3).row ms2, rowT tyTk (.slice ta2 td2.length tc2) 119 td2, rowT tyLR (.slice wa2 wn2 wc2) 23 wt2, manyF (inLR tyB 4).row wt2] ∧ (SplR b.toNat out fn bl ms td wt bl2 ms2 td2 wt2)) := by
  refine calls_of_W (args := [.pointer (some ⟨g, 0, none⟩), .int .i64 b, .slice oa on oc]) Try.func99 rfl rfl rfl ?_
  have H0 : UpG w [blk g #[.slice fa fn fc, .slice ba bn bc, .slice ma mn mc, .slice ta td.length tc, .slice wa wn wc] 117, rowT (tyI .i64) (.slice ba bn bc) 3 bl, rowT tyLR (.slice ma mn mc) 22 ms, manyF (inLR (tyI .i64) 3).row ms, rowT tyTk (.slice ta td.length tc) 119 td, rowT tyLR (.slice wa wn wc) 23 wt, manyF (inLR tyB 4).row wt, rowT (tyI .i64) (.slice oa on oc) 3 out] w [[blk g #[.slice fa fn fc, .slice ba bn bc, .slice ma mn mc, .slice ta td.length tc, .slice wa wn wc] 117], [rowT (tyI .i64) (.slice ba bn bc) 3 bl], [rowT tyLR (.slice ma mn mc) 22 ms], [manyF (inLR (tyI .i64) 3).row ms], [rowT tyTk (.slice ta td.length tc) 119 td], [rowT tyLR (.slice wa wn wc) 23 wt], [manyF (inLR tyB 4).row wt], [rowT (tyI .i64) (.slice oa on oc) 3 out]] := (UpG.refl hp).re rfl
  show W _ _ _ _ [(0, .pointer (some ⟨g, 0, none⟩)), (1, .int .i64 b), (2, .slice oa on oc)] w
  refine W.seq ?_
  have hbw : b.toNat < wt.length := by omega
  have hon : on = out.length := (H0.rdT 7 rfl).len
  have hmn : mn = ms.length := (H0.rdT 2 rfl).len
  have hwn : wn = wt.length := (H0.rdT 5 rfl).len
  have hol := (H0.rdT 7 rfl).le
  refine W.region ?_
  refine WL.op rfl (d_move rfl ?_)
  refine WL.op rfl (d_lenS Try.underlying22 rfl ?_)
  refine WL.op rfl (d_makeMapR (fun a : Int => .int .i64 a) (fun a : Int => .int .i64 a) Try.underlying135 rfl fun w1 u1 => ?_)
  have H1 : UpG w [blk g #[.slice fa fn fc, .slice ba bn bc, .slice ma mn mc, .slice ta td.length tc, .slice wa wn wc] 117, rowT (tyI .i64) (.slice ba bn bc) 3 bl, rowT tyLR (.slice ma mn mc) 22 ms, manyF (inLR (tyI .i64) 3).row ms, rowT tyTk (.slice ta td.length tc) 119 td, rowT tyLR (.slice wa wn wc) 23 wt, manyF (inLR tyB 4).row wt, rowT (tyI .i64) (.slice oa on oc) 3 out] w1 [[blk g #[.slice fa fn fc, .slice ba bn bc, .slice ma mn mc, .slice ta td.length tc, .slice wa wn wc] 117], [rowT (tyI .i64) (.slice ba bn bc) 3 bl], [rowT tyLR (.slice ma mn mc) 22 ms], [manyF (inLR (tyI .i64) 3).row ms], [rowT tyTk (.slice ta td.length tc) 119 td], [rowT tyLR (.slice wa wn wc) 23 wt], [manyF (inLR tyB 4).row wt], [rowT (tyI .i64) (.slice oa on oc) 3 out], [mapC (fun a : Int => .int .i64 a) (fun a : Int => .int .i64 a) w.heap.size ([] : List (Int × Int))]] := H0.new' u1
  refine WL.op rfl (d_alloc sz135 fun w2 u2 => ?_)
  have H2 : UpG w [blk g #[.slice fa fn fc, .slice ba bn bc, .slice ma mn mc, .slice ta td.length tc, .slice wa wn wc] 117, rowT (tyI .i64) (.slice ba bn bc) 3 bl, rowT tyLR (.slice ma mn mc) 22 ms, manyF (inLR (tyI .i64) 3).row ms, rowT tyTk (.slice ta td.length tc) 119 td, rowT tyLR (.slice wa wn wc) 23 wt, manyF (inLR tyB 4).row wt, rowT (tyI .i64) (.slice oa on oc) 3 out] w2 [[blk g #[.slice fa fn fc, .slice ba bn bc, .slice ma mn mc, .slice ta td.length tc, .slice wa wn wc] 117], [rowT (tyI .i64) (.slice ba bn bc) 3 bl], [rowT tyLR (.slice ma mn mc) 22 ms], [manyF (inLR (tyI .i64) 3).row ms], [rowT tyTk (.slice ta td.length tc) 119 td], [rowT tyLR (.slice wa wn wc) 23 wt], [manyF (inLR tyB 4).row wt], [rowT (tyI .i64) (.slice oa on oc) 3 out], [mapC (fun a : Int => .int .i64 a) (fun a : Int => .int .i64 a) w.heap.size ([] : List (Int × Int))], [blk w1.heap.size #[.map none] 135]] := H1.new' u2
  refine WL.op0 (d_storeB sz135 rfl rfl rfl (H2.blk 9 rfl) rfl fun w3 u3 => ?_)
  have H3 : UpG w [blk g #[.slice fa fn fc, .slice ba bn bc, .slice ma mn mc, .slice ta td.length tc, .slice wa wn wc] 117, rowT (tyI .i64) (.slice ba bn bc) 3 bl, rowT tyLR (.slice ma mn mc) 22 ms, manyF (inLR (tyI .i64) 3).row ms, rowT tyTk (.slice ta td.length tc) 119 td, rowT tyLR (.slice wa wn wc) 23 wt, manyF (inLR tyB 4).row wt, rowT (tyI .i64) (.slice oa on oc) 3 out] w3 [[blk g #[.slice fa fn fc, .slice ba bn bc, .slice ma mn mc, .slice ta td.length tc, .slice wa wn wc] 117], [rowT (tyI .i64) (.slice ba bn bc) 3 bl], [rowT tyLR (.slice ma mn mc) 22 ms], [manyF (inLR (tyI .i64) 3).row ms], [rowT tyTk (.slice ta td.length tc) 119 td], [rowT tyLR (.slice wa wn wc) 23 wt], [manyF (inLR tyB 4).row wt], [rowT (tyI .i64) (.slice oa on oc) 3 out], [mapC (fun a : Int => .int .i64 a) (fun a : Int => .int .i64 a) w.heap.size ([] : List (Int × Int))], [blk w1.heap.size #[.map (some w.heap.size)] 135]] := H2.on 9 rfl u3
  refine WL.done (X.then_code ?_)
  refine W.seq ?_
  refine W.seq ?_
  refine W.region ?_
  refine WL.op rfl (d_move rfl ?_)
  refine WL.op rfl (d_lenS Try.underlying22 rfl ?_)
  refine WL.op rfl (d_move rfl ?_)
  refine WL.done (X.then_code ?_)
  refine W.block ?_
  refine W.pick [16, 15, 14, 6, 0, 1, 2] (Γ' := [(16, .int .i64 0), (15, .int .i64 ((on : Nat) : Int)), (14, .slice oa on oc), (6, .pointer (some ⟨w1.heap.size, 0, none⟩)), (0, .pointer (some ⟨g, 0, none⟩)), (1, .int .i64 b), (2, .slice oa on oc)]) rfl ?_
  refine W.loop (fun m Γ' w' => ∃ k : Nat, ∃ gm : List (Int × Int), Γ' = [(16, .int .i64 ((k : Nat) : Int)), (15, .int .i64 ((on : Nat) : Int)), (14, .slice oa on oc), (6, .pointer (some ⟨w1.heap.size, 0, none⟩)), (0, .pointer (some ⟨g, 0, none⟩)), (1, .int .i64 b), (2, .slice oa on oc)] ∧ UpG w [blk g #[.slice fa fn fc, .slice ba bn bc, .slice ma mn mc, .slice ta td.length tc, .slice wa wn wc] 117, rowT (tyI .i64) (.slice ba bn bc) 3 bl, rowT tyLR (.slice ma mn mc) 22 ms, manyF (inLR (tyI .i64) 3).row ms, rowT tyTk (.slice ta td.length tc) 119 td, rowT tyLR (.slice wa wn wc) 23 wt, manyF (inLR tyB 4).row wt, rowT (tyI .i64) (.slice oa on oc) 3 out] w' [[blk g #[.slice fa fn fc, .slice ba bn bc, .slice ma mn mc, .slice ta td.length tc, .slice wa wn wc] 117], [rowT (tyI .i64) (.slice ba bn bc) 3 bl], [rowT tyLR (.slice ma mn mc) 22 ms], [manyF (inLR (tyI .i64) 3).row ms], [rowT tyTk (.slice ta td.length tc) 119 td], [rowT tyLR (.slice wa wn wc) 23 wt], [manyF (inLR tyB 4).row wt], [rowT (tyI .i64) (.slice oa on oc) 3 out], [mapC (fun a : Int => .int .i64 a) (fun a : Int => .int .i64 a) w.heap.size gm], [blk w1.heap.size #[.map (some w.heap.size)] 135]] ∧ (k ≤ out.length) ∧ (GoneM gm out k) ∧ m = out.length - k) (out.length - 0) ⟨0, [], rfl, (H3.re rfl), (by omega), (by exact GoneM.start out), rfl⟩ ?_
  rintro m1 Γ1 w4 ⟨k, gm, rfl, H4, hk, hg, rfl⟩
  refine W.seq ?_
  refine W.region ?_
  refine WL.op rfl (d_cmp (decide (((k : Nat) : Int) < ((on : Nat) : Int))) rfl rfl rfl ?_)
  refine WL.done (X.then_code ?_)
  refine W.seq ?_
  refine W.ite (p := ((k : Nat) : Int) < ((on : Nat) : Int)) rfl (fun c92 => ?_) (fun c92 => ?_)
  · skip
    refine W.skip (X.then_code ?_)
    refine W.seq ?_
    refine W.block ?_
    refine W.seq ?_
    refine W.region ?_
    refine WL.op rfl (t_addr1 k (T := (tyI .i64)) rfl Try.underlying22 sz3 rfl rfl (H4.rdT 7 rfl) rfl (by omega) ?_)
    refine WL.op rfl (t_load1 k 0 (T := (tyI .i64)) rfl Try.underlying3 rfl rfl (H4.rdT 7 rfl) (by omega) rfl ?_)
    refine WL.op rfl (d_assign rfl ?_)
    refine WL.done (X.then_code ?_)
    refine W.region ?_
    refine WL.op rfl (d_loadB Try.underlying135 rfl rfl (H4.blk 9 rfl) rfl ?_)
    refine WL.op rfl (d_move rfl ?_)
    refine WL.op0 (d_mapUpdate (ek := (fun a : Int => .int .i64 a)) (evl := (fun a : Int => .int .i64 a)) (out.getD k 0) 1 key3 Try.underlying135 rfl rfl rfl (H4.hpOf 8 rfl) fun w5 u4 => ?_)
    have H5 : UpG w [blk g #[.slice fa fn fc, .slice ba bn bc, .slice ma mn mc, .slice ta td.length tc, .slice wa wn wc] 117, rowT (tyI .i64) (.slice ba bn bc) 3 bl, rowT tyLR (.slice ma mn mc) 22 ms, manyF (inLR (tyI .i64) 3).row ms, rowT tyTk (.slice ta td.length tc) 119 td, rowT tyLR (.slice wa wn wc) 23 wt, manyF (inLR tyB 4).row wt, rowT (tyI .i64) (.slice oa on oc) 3 out] w5 [[blk g #[.slice fa fn fc, .slice ba bn bc, .slice ma mn mc, .slice ta td.length tc, .slice wa wn wc] 117], [rowT (tyI .i64) (.slice ba bn bc) 3 bl], [rowT tyLR (.slice ma mn mc) 22 ms], [manyF (inLR (tyI .i64) 3).row ms], [rowT tyTk (.slice ta td.length tc) 119 td], [rowT tyLR (.slice wa wn wc) 23 wt], [manyF (inLR tyB 4).row wt], [rowT (tyI .i64) (.slice oa on oc) 3 out], [mapC (fun a : Int => .int .i64 a) (fun a : Int => .int .i64 a) w.heap.size (putM gm (out.getD k 0) 1)], [blk w1.heap.size #[.map (some w.heap.size)] 135]] := H4.on 8 rfl u4
    refine WL.done (X.block_normal (X.then_code ?_))
    refine W.region ?_
    refine WL.op rfl (d_add rfl rfl (by omega) (by omega) ?_)
    refine WL.op rfl (d_move rfl ?_)
    refine WL.done ?_
    exact X.next [16, 15, 14, 6, 0, 1, 2] (Γ' := [(16, .int .i64 (((k + 1) : Nat) : Int)), (15, .int .i64 ((on : Nat) : Int)), (14, .slice oa on oc), (6, .pointer (some ⟨w1.heap.size, 0, none⟩)), (0, .pointer (some ⟨g, 0, none⟩)), (1, .int .i64 b), (2, .slice oa on oc)]) rfl (out.length - (k + 1)) (by omega) ⟨k + 1, putM gm (out.getD k 0) 1, rfl, H5, (by omega), (by exact hg.step (by omega)), rfl⟩
  · skip
    refine W.exit (X.then_exit (X.then_exit (X.block_exit (X.then_code ?_))))
    refine W.seq ?_
    have H6 : UpG w [blk g #[.slice fa fn fc, .slice ba bn bc, .slice ma mn mc, .slice ta td.length tc, .slice wa wn wc] 117, rowT (tyI .i64) (.slice ba bn bc) 3 bl, rowT tyLR (.slice ma mn mc) 22 ms, manyF (inLR (tyI .i64) 3).row ms, rowT tyTk (.slice ta td.length tc) 119 td, rowT tyLR (.slice wa wn wc) 23 wt, manyF (inLR tyB 4).row wt, rowT (tyI .i64) (.slice oa on oc) 3 out] w4 [[blk g #[.slice fa fn fc, .slice ba bn bc, .slice ma mn mc, .slice ta td.length tc, .slice wa wn wc] 117], [rowT (tyI .i64) (.slice ba bn bc) 3 bl], [rowT tyLR (.slice ma mn mc) 22 ms], [manyF (inLR (tyI .i64) 3).row (ms.eraseIdx b.toNat)], [rowT tyTk (.slice ta td.length tc) 119 td], [rowT tyLR (.slice wa wn wc) 23 wt], [manyF (inLR tyB 4).row wt], [rowT (tyI .i64) (.slice oa on oc) 3 out], [mapC (fun a : Int => .int .i64 a) (fun a : Int => .int .i64 a) w.heap.size gm], [blk w1.heap.size #[.map (some w.heap.size)] 135], [rowT (tyI .i64) (.slice ((ms.getD b.toNat lr0).a) ((ms.getD b.toNat lr0).n) ((ms.getD b.toNat lr0).c)) 3 ((ms.getD b.toNat lr0).xs)]] := H4.takeOut (f := (inLR (tyI .i64) 3).row) lr0 3 b.toNat rfl (by omega)
    refine W.regionD mixed (by kernel_rfl) fun hok1 w6 k1 => ?_
    have H7 : UpG w [blk g #[.slice fa fn fc, .slice ba bn bc, .slice ma mn mc, .slice ta td.length tc, .slice wa wn wc] 117, rowT (tyI .i64) (.slice ba bn bc) 3 bl, rowT tyLR (.slice ma mn mc) 22 ms, manyF (inLR (tyI .i64) 3).row ms, rowT tyTk (.slice ta td.length tc) 119 td, rowT tyLR (.slice wa wn wc) 23 wt, manyF (inLR tyB 4).row wt, rowT (tyI .i64) (.slice oa on oc) 3 out] w6 [[blk g #[.slice fa fn fc, .slice ba bn bc, .slice ma mn mc, .slice ta td.length tc, .slice wa wn wc] 117], [rowT (tyI .i64) (.slice ba bn bc) 3 bl], [rowT tyLR (.slice ma mn mc) 22 ms], [manyF (inLR (tyI .i64) 3).row (ms.eraseIdx b.toNat)], [rowT tyTk (.slice ta td.length tc) 119 td], [rowT tyLR (.slice wa wn wc) 23 wt], [manyF (inLR tyB 4).row wt], [rowT (tyI .i64) (.slice oa on oc) 3 out], [mapC (fun a : Int => .int .i64 a) (fun a : Int => .int .i64 a) w.heap.size gm], [blk w1.heap.size #[.map (some w.heap.size)] 135], [rowT (tyI .i64) (.slice ((ms.getD b.toNat lr0).a) ((ms.getD b.toNat lr0).n) ((ms.getD b.toNat lr0).c)) 3 ((ms.getD b.toNat lr0).xs)]] := H6.kept k1
    refine WD.take hok1 0 (.pointer (some ⟨g, 0, none⟩)) (fun _ => True) rfl rfl rfl rfl rfl trivial (.inl ⟨rfl, fun _ _ => d_move rfl ⟨rfl, rfl⟩⟩) ?_
    refine WD.take hok1 1 (.pointer (some ⟨g, 0, none⟩)) (fun _ => True) rfl rfl rfl rfl rfl trivial (.inl ⟨rfl, fun _ _ => d_nilCheck rfl ⟨rfl, rfl⟩⟩) ?_
    refine WD.take hok1 2 (.pointer (some ⟨g, 2, none⟩)) (fun _ => True) rfl rfl rfl rfl rfl trivial (.inl ⟨rfl, fun _ _ => d_fieldAddrB fld117_2 rfl rfl ⟨rfl, rfl⟩⟩) ?_
    refine WD.take hok1 3 (.slice ma mn mc) (fun w' => w'.heap[g]? = some (.cells #[.slice fa fn fc, .slice ba bn bc, .slice ma mn mc, .slice ta td.length tc, .slice wa wn wc] 117 (0, 0))) rfl rfl rfl rfl rfl (H7.blk 0 rfl) (.inl ⟨rfl, fun _ hC => d_loadB Try.underlying77 rfl rfl hC rfl ⟨rfl, rfl⟩⟩) ?_
    refine WD.take hok1 4 (.int .i64 b) (fun _ => True) rfl rfl rfl rfl rfl trivial (.inl ⟨rfl, fun _ _ => d_move rfl ⟨rfl, rfl⟩⟩) ?_
    refine WD.take hok1 5 (.pointer (some ⟨g, 0, none⟩)) (fun _ => True) rfl rfl rfl rfl rfl trivial (.inl ⟨rfl, fun _ _ => d_move rfl ⟨rfl, rfl⟩⟩) ?_
    refine WD.take hok1 6 (.pointer (some ⟨g, 0, none⟩)) (fun _ => True) rfl rfl rfl rfl rfl trivial (.inl ⟨rfl, fun _ _ => d_nilCheck rfl ⟨rfl, rfl⟩⟩) ?_
    refine WD.take hok1 7 (.pointer (some ⟨g, 2, none⟩)) (fun _ => True) rfl rfl rfl rfl rfl trivial (.inl ⟨rfl, fun _ _ => d_fieldAddrB fld117_2 rfl rfl ⟨rfl, rfl⟩⟩) ?_
    refine WD.take hok1 8 (.slice ma mn mc) (fun w' => w'.heap[g]? = some (.cells #[.slice fa fn fc, .slice ba bn bc, .slice ma mn mc, .slice ta td.length tc, .slice wa wn wc] 117 (0, 0))) rfl rfl rfl rfl rfl (H7.blk 0 rfl) (.inl ⟨rfl, fun _ hC => d_loadB Try.underlying77 rfl rfl hC rfl ⟨rfl, rfl⟩⟩) ?_
    refine WD.take hok1 9 (.int .i64 b) (fun _ => True) rfl rfl rfl rfl rfl trivial (.inl ⟨rfl, fun _ _ => d_move rfl ⟨rfl, rfl⟩⟩) ?_
    refine WD.take hok1 10 (elemPtr (.slice ma mn mc) b.toNat) (fun w' => RdT tyLR w' (.slice ma mn mc) ms) rfl rfl rfl rfl rfl (H7.rdT 2 rfl) (.inl ⟨rfl, fun _ hC => t_addr1 b.toNat (T := tyLR) rfl Try.underlying77 sz22 rfl rfl hC (by omega) (by omega) ⟨rfl, rfl⟩⟩) ?_
    refine WD.take hok1 11 (.slice ((ms.getD b.toNat lr0).a) ((ms.getD b.toNat lr0).n) ((ms.getD b.toNat lr0).c)) (fun w' => RdT tyLR w' (.slice ma mn mc) ms) rfl rfl rfl rfl rfl (H7.rdT 2 rfl) (.inl ⟨rfl, fun _ hC => t_load1 b.toNat lr0 (T := tyLR) rfl Try.underlying22 rfl rfl hC (by omega) rfl ⟨rfl, rfl⟩⟩) ?_
    refine WD.take hok1 13 (.func (.func 106) #[] #[.pointer (some ⟨w1.heap.size, 0, none⟩)]) (fun _ => True) rfl rfl rfl rfl rfl trivial (.inl ⟨rfl, fun _ _ => d_makeFunc rfl rfl ⟨rfl, rfl⟩⟩) ?_
    refine WD.loud hok1 12 rfl (⟨_, [⟨13, .func (.func 106) #[] #[.pointer (some ⟨w1.heap.size, 0, none⟩)], (fun _ => True)⟩, ⟨4, .int .i64 b, (fun _ => True)⟩, ⟨3, .slice ma mn mc, (fun w' => w'.heap[g]? = some (.cells #[.slice fa fn fc, .slice ba bn bc, .slice ma mn mc, .slice ta td.length tc, .slice wa wn wc] 117 (0, 0)))⟩, ⟨2, .pointer (some ⟨g, 2, none⟩), (fun _ => True)⟩, ⟨1, .pointer (some ⟨g, 0, none⟩), (fun _ => True)⟩, ⟨0, .pointer (some ⟨g, 0, none⟩), (fun _ => True)⟩], rfl, rfl, rfl, rfl, rfl, rfl, d_call ok66 rfl (Ret.calls (cloneI_any ((ms.getD b.toNat lr0).a) ((ms.getD b.toNat lr0).xs) ((ms.getD b.toNat lr0).c) ((ms.getD b.toNat lr0).n) w6 (H7.rdT 10 rfl) (by omega)) fun _ w7 p1 => ?_)⟩)
    obtain ⟨a2_1, c2_1, rfl, u5⟩ := p1
    have H8 : UpG w [blk g #[.slice fa fn fc, .slice ba bn bc, .slice ma mn mc, .slice ta td.length tc, .slice wa wn wc] 117, rowT (tyI .i64) (.slice ba bn bc) 3 bl, rowT tyLR (.slice ma mn mc) 22 ms, manyF (inLR (tyI .i64) 3).row ms, rowT tyTk (.slice ta td.length tc) 119 td, rowT tyLR (.slice wa wn wc) 23 wt, manyF (inLR tyB 4).row wt, rowT (tyI .i64) (.slice oa on oc) 3 out] w7 [[blk g #[.slice fa fn fc, .slice ba bn bc, .slice ma mn mc, .slice ta td.length tc, .slice wa wn wc] 117], [rowT (tyI .i64) (.slice ba bn bc) 3 bl], [rowT tyLR (.slice ma mn mc) 22 ms], [manyF (inLR (tyI .i64) 3).row (ms.eraseIdx b.toNat)], [rowT tyTk (.slice ta td.length tc) 119 td], [rowT tyLR (.slice wa wn wc) 23 wt], [manyF (inLR tyB 4).row wt], [rowT (tyI .i64) (.slice oa on oc) 3 out], [mapC (fun a : Int => .int .i64 a) (fun a : Int => .int .i64 a) w.heap.size gm], [blk w1.heap.size #[.map (some w.heap.size)] 135], [rowT (tyI .i64) (.slice ((ms.getD b.toNat lr0).a) ((ms.getD b.toNat lr0).n) ((ms.getD b.toNat lr0).c)) 3 ((ms.getD b.toNat lr0).xs)], [rowT (tyI .i64) (.slice a2_1 (((ms.getD b.toNat lr0).xs).length) c2_1) 3 ((ms.getD b.toNat lr0).xs)]] := (H7.new' u5).re rfl
    refine ⟨⟨trivial, trivial, (H8.blk 0 rfl), trivial, trivial, trivial, trivial⟩, ?_⟩
    refine WD.loud hok1 14 rfl (⟨_, [⟨4, .int .i64 b, (fun _ => True)⟩, ⟨3, .slice ma mn mc, (fun w' => w'.heap[g]? = some (.cells #[.slice fa fn fc, .slice ba bn bc, .slice ma mn mc, .slice ta td.length tc, .slice wa wn wc] 117 (0, 0)))⟩, ⟨2, .pointer (some ⟨g, 2, none⟩), (fun _ => True)⟩, ⟨1, .pointer (some ⟨g, 0, none⟩), (fun _ => True)⟩, ⟨0, .pointer (some ⟨g, 0, none⟩), (fun _ => True)⟩], rfl, rfl, rfl, rfl, rfl, rfl, d_call ok105 rfl (Ret.calls (deleteI_any a2_1 ((ms.getD b.toNat lr0).xs) c2_1 106 [.pointer (some ⟨w1.heap.size, 0, none⟩)] (fun x => decide ((getM gm x).getD 0 = 1)) w7 (H8.hpOf 11 rfl)  (by omega) ok106 (fun w9 k9 x => split1_any x _ _ gm w9 (map_keep H8 11 8 rfl rfl rfl k9) (H8.blk_keep 11 9 rfl rfl rfl k9))) fun _ w8 p2 => ?_)⟩)
    obtain ⟨rfl, u6⟩ := p2
    have H9 : UpG w [blk g #[.slice fa fn fc, .slice ba bn bc, .slice ma mn mc, .slice ta td.length tc, .slice wa wn wc] 117, rowT (tyI .i64) (.slice ba bn bc) 3 bl, rowT tyLR (.slice ma mn mc) 22 ms, manyF (inLR (tyI .i64) 3).row ms, rowT tyTk (.slice ta td.length tc) 119 td, rowT tyLR (.slice wa wn wc) 23 wt, manyF (inLR tyB 4).row wt, rowT (tyI .i64) (.slice oa on oc) 3 out] w8 [[blk g #[.slice fa fn fc, .slice ba bn bc, .slice ma mn mc, .slice ta td.length tc, .slice wa wn wc] 117], [rowT (tyI .i64) (.slice ba bn bc) 3 bl], [rowT tyLR (.slice ma mn mc) 22 ms], [manyF (inLR (tyI .i64) 3).row (ms.eraseIdx b.toNat)], [rowT tyTk (.slice ta td.length tc) 119 td], [rowT tyLR (.slice wa wn wc) 23 wt], [manyF (inLR tyB 4).row wt], [rowT (tyI .i64) (.slice oa on oc) 3 out], [mapC (fun a : Int => .int .i64 a) (fun a : Int => .int .i64 a) w.heap.size gm], [blk w1.heap.size #[.map (some w.heap.size)] 135], [rowT (tyI .i64) (.slice ((ms.getD b.toNat lr0).a) ((ms.getD b.toNat lr0).n) ((ms.getD b.toNat lr0).c)) 3 ((ms.getD b.toNat lr0).xs)], [rowT (tyI .i64) (.slice a2_1 ((((ms.getD b.toNat lr0).xs).filter (fun x => !(fun x => decide ((getM gm x).getD 0 = 1)) x)).length) c2_1) 3 (((ms.getD b.toNat lr0).xs).filter (fun x => !(fun x => decide ((getM gm x).getD 0 = 1)) x))]] := H8.on 11 rfl u6
    refine ⟨⟨trivial, (H9.blk 0 rfl), trivial, trivial, trivial, trivial⟩, ?_⟩
    refine WD.take hok1 15 (elemPtr (.slice ma mn mc) b.toNat) (fun w' => RdT tyLR w' (.slice ma mn mc) ms) rfl rfl rfl rfl rfl (H9.rdT 2 rfl) (.inl ⟨rfl, fun _ hC => t_addr1 b.toNat (T := tyLR) rfl Try.underlying77 sz22 rfl rfl hC (by omega) (by omega) ⟨rfl, rfl⟩⟩) ?_
    refine WD.loud hok1 16 rfl (⟨_, [], rfl, rfl, rfl, rfl, rfl, rfl, t_store1 b.toNat ⟨a2_1, (((ms.getD b.toNat lr0).xs).filter (fun x => !(fun x => decide ((getM gm x).getD 0 = 1)) x)).length, c2_1, ((ms.getD b.toNat lr0).xs).filter (fun x => !(fun x => decide ((getM gm x).getD 0 = 1)) x)⟩ (T := tyLR) (e := 22) rfl sz22 rfl rfl rfl (H9.ownT 2 rfl) (by omega) fun w9 u7 => ?_⟩)
    have H10 : UpG w [blk g #[.slice fa fn fc, .slice ba bn bc, .slice ma mn mc, .slice ta td.length tc, .slice wa wn wc] 117, rowT (tyI .i64) (.slice ba bn bc) 3 bl, rowT tyLR (.slice ma mn mc) 22 ms, manyF (inLR (tyI .i64) 3).row ms, rowT tyTk (.slice ta td.length tc) 119 td, rowT tyLR (.slice wa wn wc) 23 wt, manyF (inLR tyB 4).row wt, rowT (tyI .i64) (.slice oa on oc) 3 out] w9 [[blk g #[.slice fa fn fc, .slice ba bn bc, .slice ma mn mc, .slice ta td.length tc, .slice wa wn wc] 117], [rowT (tyI .i64) (.slice ba bn bc) 3 bl], [rowT tyLR (.slice ma mn mc) 22 (ms.set b.toNat ⟨a2_1, (((ms.getD b.toNat lr0).xs).filter (fun x => !(fun x => decide ((getM gm x).getD 0 = 1)) x)).length, c2_1, ((ms.getD b.toNat lr0).xs).filter (fun x => !(fun x => decide ((getM gm x).getD 0 = 1)) x)⟩)], [manyF (inLR (tyI .i64) 3).row (ms.eraseIdx b.toNat)], [rowT tyTk (.slice ta td.length tc) 119 td], [rowT tyLR (.slice wa wn wc) 23 wt], [manyF (inLR tyB 4).row wt], [rowT (tyI .i64) (.slice oa on oc) 3 out], [mapC (fun a : Int => .int .i64 a) (fun a : Int => .int .i64 a) w.heap.size gm], [blk w1.heap.size #[.map (some w.heap.size)] 135], [rowT (tyI .i64) (.slice ((ms.getD b.toNat lr0).a) ((ms.getD b.toNat lr0).n) ((ms.getD b.toNat lr0).c)) 3 ((ms.getD b.toNat lr0).xs)], [rowT (tyI .i64) (.slice a2_1 ((((ms.getD b.toNat lr0).xs).filter (fun x => !(fun x => decide ((getM gm x).getD 0 = 1)) x)).length) c2_1) 3 (((ms.getD b.toNat lr0).xs).filter (fun x => !(fun x => decide ((getM gm x).getD 0 = 1)) x))]] := H9.on 2 rfl u7
    have H11 : UpG w [blk g #[.slice fa fn fc, .slice ba bn bc, .slice ma mn mc, .slice ta td.length tc, .slice wa wn wc] 117, rowT (tyI .i64) (.slice ba bn bc) 3 bl, rowT tyLR (.slice ma mn mc) 22 ms, manyF (inLR (tyI .i64) 3).row ms, rowT tyTk (.slice ta td.length tc) 119 td, rowT tyLR (.slice wa wn wc) 23 wt, manyF (inLR tyB 4).row wt, rowT (tyI .i64) (.slice oa on oc) 3 out] w9 [[blk g #[.slice fa fn fc, .slice ba bn bc, .slice ma mn mc, .slice ta td.length tc, .slice wa wn wc] 117], [rowT (tyI .i64) (.slice ba bn bc) 3 bl], [rowT tyLR (.slice ma mn mc) 22 (ms.set b.toNat ⟨a2_1, (((ms.getD b.toNat lr0).xs).filter (fun x => !(fun x => decide ((getM gm x).getD 0 = 1)) x)).length, c2_1, ((ms.getD b.toNat lr0).xs).filter (fun x => !(fun x => decide ((getM gm x).getD 0 = 1)) x)⟩)], [manyF (inLR (tyI .i64) 3).row (ms.set b.toNat ⟨a2_1, (((ms.getD b.toNat lr0).xs).filter (fun x => !(fun x => decide ((getM gm x).getD 0 = 1)) x)).length, c2_1, ((ms.getD b.toNat lr0).xs).filter (fun x => !(fun x => decide ((getM gm x).getD 0 = 1)) x)⟩)], [rowT tyTk (.slice ta td.length tc) 119 td], [rowT tyLR (.slice wa wn wc) 23 wt], [manyF (inLR tyB 4).row wt], [rowT (tyI .i64) (.slice oa on oc) 3 out], [mapC (fun a : Int => .int .i64 a) (fun a : Int => .int .i64 a) w.heap.size gm], [blk w1.heap.size #[.map (some w.heap.size)] 135], [rowT (tyI .i64) (.slice ((ms.getD b.toNat lr0).a) ((ms.getD b.toNat lr0).n) ((ms.getD b.toNat lr0).c)) 3 ((ms.getD b.toNat lr0).xs)], []] := (H10.putBack (f := (inLR (tyI .i64) 3).row) ⟨a2_1, (((ms.getD b.toNat lr0).xs).filter (fun x => !(fun x => decide ((getM gm x).getD 0 = 1)) x)).length, c2_1, ((ms.getD b.toNat lr0).xs).filter (fun x => !(fun x => decide ((getM gm x).getD 0 = 1)) x)⟩ 3 11 b.toNat rfl rfl rfl (by omega)).re rfl
    refine ⟨trivial, ?_⟩
    refine WD.done hok1 rfl (X.then_code ?_)
    refine W.seq ?_
    refine W.region ?_
    refine WL.op rfl (d_move rfl ?_)
    refine WL.op rfl (d_move rfl ?_)
    have H12 : UpG w [blk g #[.slice fa fn fc, .slice ba bn bc, .slice ma mn mc, .slice ta td.length tc, .slice wa wn wc] 117, rowT (tyI .i64) (.slice ba bn bc) 3 bl, rowT tyLR (.slice ma mn mc) 22 ms, manyF (inLR (tyI .i64) 3).row ms, rowT tyTk (.slice ta td.length tc) 119 td, rowT tyLR (.slice wa wn wc) 23 wt, manyF (inLR tyB 4).row wt, rowT (tyI .i64) (.slice oa on oc) 3 out] w9 [[blk g #[.slice fa fn fc, .slice ba bn bc, .slice ma mn mc, .slice ta td.length tc, .slice wa wn wc] 117, rowT (tyI .i64) (.slice ba bn bc) 3 bl, rowT tyLR (.slice ma mn mc) 22 (ms.set b.toNat ⟨a2_1, (((ms.getD b.toNat lr0).xs).filter (fun x => !(fun x => decide ((getM gm x).getD 0 = 1)) x)).length, c2_1, ((ms.getD b.toNat lr0).xs).filter (fun x => !(fun x => decide ((getM gm x).getD 0 = 1)) x)⟩), manyF (inLR (tyI .i64) 3).row (ms.set b.toNat ⟨a2_1, (((ms.getD b.toNat lr0).xs).filter (fun x => !(fun x => decide ((getM gm x).getD 0 = 1)) x)).length, c2_1, ((ms.getD b.toNat lr0).xs).filter (fun x => !(fun x => decide ((getM gm x).getD 0 = 1)) x)⟩), rowT tyLR (.slice wa wn wc) 23 wt, manyF (inLR tyB 4).row wt], [rowT tyTk (.slice ta td.length tc) 119 td], [rowT (tyI .i64) (.slice oa on oc) 3 out], [mapC (fun a : Int => .int .i64 a) (fun a : Int => .int .i64 a) w.heap.size gm], [blk w1.heap.size #[.map (some w.heap.size)] 135], [rowT (tyI .i64) (.slice ((ms.getD b.toNat lr0).a) ((ms.getD b.toNat lr0).n) ((ms.getD b.toNat lr0).c)) 3 ((ms.getD b.toNat lr0).xs)], []] := UpG.of (Upd.sel H11 (l := [0, 1, 2, 3, 5, 6, 4, 7, 8, 9, 10]) rfl rfl) rfl
    refine WL.op rfl (d_call ok97 rfl (Ret.calls (hadd_any g oa out oc on fa fc fn ba bl bc bn ma (ms.set b.toNat ⟨a2_1, (((ms.getD b.toNat lr0).xs).filter (fun x => !(fun x => decide ((getM gm x).getD 0 = 1)) x)).length, c2_1, ((ms.getD b.toNat lr0).xs).filter (fun x => !(fun x => decide ((getM gm x).getD 0 = 1)) x)⟩) mc mn (.slice ta td.length tc) wa wt wc wn w9 (H12.hp2 0 2 rfl rfl rfl)  hin (by simp only [List.length_set]; omega) (by omega) (by omega)) fun _ w10 p3 => ?_))
    obtain ⟨bl2_1, ma2_1, mc2_1, wa2_1, wt2_1, wc2_1, rfl, u8, q1⟩ := p3
    have H13 : UpG w [blk g #[.slice fa fn fc, .slice ba bn bc, .slice ma mn mc, .slice ta td.length tc, .slice wa wn wc] 117, rowT (tyI .i64) (.slice ba bn bc) 3 bl, rowT tyLR (.slice ma mn mc) 22 ms, manyF (inLR (tyI .i64) 3).row ms, rowT tyTk (.slice ta td.length tc) 119 td, rowT tyLR (.slice wa wn wc) 23 wt, manyF (inLR tyB 4).row wt, rowT (tyI .i64) (.slice oa on oc) 3 out] w10 [[blk g #[.slice fa fn fc, .slice ba bn bc, .slice ma2_1 (((ms.set b.toNat ⟨a2_1, (((ms.getD b.toNat lr0).xs).filter (fun x => !(fun x => decide ((getM gm x).getD 0 = 1)) x)).length, c2_1, ((ms.getD b.toNat lr0).xs).filter (fun x => !(fun x => decide ((getM gm x).getD 0 = 1)) x)⟩) ++ ([⟨oa, on, oc, out⟩] : List (LR Int))).length) mc2_1, (.slice ta td.length tc), .slice wa2_1 wt2_1.length wc2_1] 117, rowT (tyI .i64) (.slice ba bn bc) 3 bl2_1, rowT tyLR (.slice ma2_1 (((ms.set b.toNat ⟨a2_1, (((ms.getD b.toNat lr0).xs).filter (fun x => !(fun x => decide ((getM gm x).getD 0 = 1)) x)).length, c2_1, ((ms.getD b.toNat lr0).xs).filter (fun x => !(fun x => decide ((getM gm x).getD 0 = 1)) x)⟩) ++ ([⟨oa, on, oc, out⟩] : List (LR Int))).length) mc2_1) 22 ((ms.set b.toNat ⟨a2_1, (((ms.getD b.toNat lr0).xs).filter (fun x => !(fun x => decide ((getM gm x).getD 0 = 1)) x)).length, c2_1, ((ms.getD b.toNat lr0).xs).filter (fun x => !(fun x => decide ((getM gm x).getD 0 = 1)) x)⟩) ++ ([⟨oa, on, oc, out⟩] : List (LR Int))), manyF (inLR (tyI .i64) 3).row ((ms.set b.toNat ⟨a2_1, (((ms.getD b.toNat lr0).xs).filter (fun x => !(fun x => decide ((getM gm x).getD 0 = 1)) x)).length, c2_1, ((ms.getD b.toNat lr0).xs).filter (fun x => !(fun x => decide ((getM gm x).getD 0 = 1)) x)⟩) ++ ([⟨oa, on, oc, out⟩] : List (LR Int))), rowT tyLR (.slice wa2_1 wt2_1.length wc2_1) 23 wt2_1, manyF (inLR tyB 4).row wt2_1], [rowT tyTk (.slice ta td.length tc) 119 td], [], [mapC (fun a : Int => .int .i64 a) (fun a : Int => .int .i64 a) w.heap.size gm], [blk w1.heap.size #[.map (some w.heap.size)] 135], [rowT (tyI .i64) (.slice ((ms.getD b.toNat lr0).a) ((ms.getD b.toNat lr0).n) ((ms.getD b.toNat lr0).c)) 3 ((ms.getD b.toNat lr0).xs)], []] := (H12.on2 (A' := [blk g #[.slice fa fn fc, .slice ba bn bc, .slice ma2_1 (((ms.set b.toNat ⟨a2_1, (((ms.getD b.toNat lr0).xs).filter (fun x => !(fun x => decide ((getM gm x).getD 0 = 1)) x)).length, c2_1, ((ms.getD b.toNat lr0).xs).filter (fun x => !(fun x => decide ((getM gm x).getD 0 = 1)) x)⟩) ++ ([⟨oa, on, oc, out⟩] : List (LR Int))).length) mc2_1, (.slice ta td.length tc), .slice wa2_1 wt2_1.length wc2_1] 117, rowT (tyI .i64) (.slice ba bn bc) 3 bl2_1, rowT tyLR (.slice ma2_1 (((ms.set b.toNat ⟨a2_1, (((ms.getD b.toNat lr0).xs).filter (fun x => !(fun x => decide ((getM gm x).getD 0 = 1)) x)).length, c2_1, ((ms.getD b.toNat lr0).xs).filter (fun x => !(fun x => decide ((getM gm x).getD 0 = 1)) x)⟩) ++ ([⟨oa, on, oc, out⟩] : List (LR Int))).length) mc2_1) 22 ((ms.set b.toNat ⟨a2_1, (((ms.getD b.toNat lr0).xs).filter (fun x => !(fun x => decide ((getM gm x).getD 0 = 1)) x)).length, c2_1, ((ms.getD b.toNat lr0).xs).filter (fun x => !(fun x => decide ((getM gm x).getD 0 = 1)) x)⟩) ++ ([⟨oa, on, oc, out⟩] : List (LR Int))), manyF (inLR (tyI .i64) 3).row ((ms.set b.toNat ⟨a2_1, (((ms.getD b.toNat lr0).xs).filter (fun x => !(fun x => decide ((getM gm x).getD 0 = 1)) x)).length, c2_1, ((ms.getD b.toNat lr0).xs).filter (fun x => !(fun x => decide ((getM gm x).getD 0 = 1)) x)⟩) ++ ([⟨oa, on, oc, out⟩] : List (LR Int))), rowT tyLR (.slice wa2_1 wt2_1.length wc2_1) 23 wt2_1, manyF (inLR tyB 4).row wt2_1]) (B' := []) (C := []) 0 2 rfl rfl rfl u8).re rfl
    refine WL.op rfl (d_assign rfl ?_)
    refine WL.done (X.then_code ?_)
    refine W.seq ?_
    refine W.region ?_
    refine WL.op rfl (d_move rfl ?_)
    refine WL.op rfl (d_nilCheck rfl ?_)
    refine WL.op rfl (d_fieldAddrB fld117_0 rfl rfl ?_)
    refine WL.op rfl (d_loadB Try.underlying114 rfl rfl ((H13.hpOf 0 rfl).blk (List.mem_of_getElem? (i := 0) rfl)) rfl ?_)
    refine WL.op rfl (d_lenS Try.underlying114 rfl ?_)
    refine WL.op rfl (d_move rfl ?_)
    refine WL.done (X.then_code ?_)
    refine W.pick [47, 46, 9, 0, 1] (Γ' := [(47, .int .i64 0), (46, .int .i64 ((fn : Nat) : Int)), (9, .int .i64 (((ms.set b.toNat ⟨a2_1, (((ms.getD b.toNat lr0).xs).filter (fun x => !(fun x => decide ((getM gm x).getD 0 = 1)) x)).length, c2_1, ((ms.getD b.toNat lr0).xs).filter (fun x => !(fun x => decide ((getM gm x).getD 0 = 1)) x)⟩).length : Nat) : Int)), (0, .pointer (some ⟨g, 0, none⟩)), (1, .int .i64 b)]) rfl ?_
    refine W.block ?_
    have H14 : UpG w [blk g #[.slice fa fn fc, .slice ba bn bc, .slice ma mn mc, .slice ta td.length tc, .slice wa wn wc] 117, rowT (tyI .i64) (.slice ba bn bc) 3 bl, rowT tyLR (.slice ma mn mc) 22 ms, manyF (inLR (tyI .i64) 3).row ms, rowT tyTk (.slice ta td.length tc) 119 td, rowT tyLR (.slice wa wn wc) 23 wt, manyF (inLR tyB 4).row wt, rowT (tyI .i64) (.slice oa on oc) 3 out] w10 [[blk g #[.slice fa fn fc, .slice ba bn bc, .slice ma2_1 (((ms.set b.toNat ⟨a2_1, (((ms.getD b.toNat lr0).xs).filter (fun x => !(fun x => decide ((getM gm x).getD 0 = 1)) x)).length, c2_1, ((ms.getD b.toNat lr0).xs).filter (fun x => !(fun x => decide ((getM gm x).getD 0 = 1)) x)⟩) ++ ([⟨oa, on, oc, out⟩] : List (LR Int))).length) mc2_1, (.slice ta td.length tc), .slice wa2_1 wt2_1.length wc2_1] 117], [rowT (tyI .i64) (.slice ba bn bc) 3 bl2_1], [rowT tyLR (.slice ma2_1 (((ms.set b.toNat ⟨a2_1, (((ms.getD b.toNat lr0).xs).filter (fun x => !(fun x => decide ((getM gm x).getD 0 = 1)) x)).length, c2_1, ((ms.getD b.toNat lr0).xs).filter (fun x => !(fun x => decide ((getM gm x).getD 0 = 1)) x)⟩) ++ ([⟨oa, on, oc, out⟩] : List (LR Int))).length) mc2_1) 22 ((ms.set b.toNat ⟨a2_1, (((ms.getD b.toNat lr0).xs).filter (fun x => !(fun x => decide ((getM gm x).getD 0 = 1)) x)).length, c2_1, ((ms.getD b.toNat lr0).xs).filter (fun x => !(fun x => decide ((getM gm x).getD 0 = 1)) x)⟩) ++ ([⟨oa, on, oc, out⟩] : List (LR Int)))], [manyF (inLR (tyI .i64) 3).row ((ms.set b.toNat ⟨a2_1, (((ms.getD b.toNat lr0).xs).filter (fun x => !(fun x => decide ((getM gm x).getD 0 = 1)) x)).length, c2_1, ((ms.getD b.toNat lr0).xs).filter (fun x => !(fun x => decide ((getM gm x).getD 0 = 1)) x)⟩) ++ ([⟨oa, on, oc, out⟩] : List (LR Int)))], [rowT tyLR (.slice wa2_1 wt2_1.length wc2_1) 23 wt2_1], [manyF (inLR tyB 4).row wt2_1], [rowT tyTk (.slice ta td.length tc) 119 td], [], [mapC (fun a : Int => .int .i64 a) (fun a : Int => .int .i64 a) w.heap.size gm], [blk w1.heap.size #[.map (some w.heap.size)] 135], [rowT (tyI .i64) (.slice ((ms.getD b.toNat lr0).a) ((ms.getD b.toNat lr0).n) ((ms.getD b.toNat lr0).c)) 3 ((ms.getD b.toNat lr0).xs)], []] := H13.re rfl
    refine W.pick [47, 46, 9, 0, 1] (Γ' := [(47, .int .i64 0), (46, .int .i64 ((fn : Nat) : Int)), (9, .int .i64 (((ms.set b.toNat ⟨a2_1, (((ms.getD b.toNat lr0).xs).filter (fun x => !(fun x => decide ((getM gm x).getD 0 = 1)) x)).length, c2_1, ((ms.getD b.toNat lr0).xs).filter (fun x => !(fun x => decide ((getM gm x).getD 0 = 1)) x)⟩).length : Nat) : Int)), (0, .pointer (some ⟨g, 0, none⟩)), (1, .int .i64 b)]) rfl ?_
    refine W.loop (fun m Γ' w' => ∃ c : Nat, ∃ tq : List (Int × Int), ∃ tqa : Option Addr, ∃ tqc : Nat, ∃ wq : List (LR Bool), Γ' = [(47, .int .i64 ((c : Nat) : Int)), (46, .int .i64 ((fn : Nat) : Int)), (9, .int .i64 (((ms.set b.toNat ⟨a2_1, (((ms.getD b.toNat lr0).xs).filter (fun x => !(fun x => decide ((getM gm x).getD 0 = 1)) x)).length, c2_1, ((ms.getD b.toNat lr0).xs).filter (fun x => !(fun x => decide ((getM gm x).getD 0 = 1)) x)⟩).length : Nat) : Int)), (0, .pointer (some ⟨g, 0, none⟩)), (1, .int .i64 b)] ∧ UpG w [blk g #[.slice fa fn fc, .slice ba bn bc, .slice ma mn mc, .slice ta td.length tc, .slice wa wn wc] 117, rowT (tyI .i64) (.slice ba bn bc) 3 bl, rowT tyLR (.slice ma mn mc) 22 ms, manyF (inLR (tyI .i64) 3).row ms, rowT tyTk (.slice ta td.length tc) 119 td, rowT tyLR (.slice wa wn wc) 23 wt, manyF (inLR tyB 4).row wt, rowT (tyI .i64) (.slice oa on oc) 3 out] w' [[blk g #[.slice fa fn fc, .slice ba bn bc, .slice ma2_1 (((ms.set b.toNat ⟨a2_1, (((ms.getD b.toNat lr0).xs).filter (fun x => !(fun x => decide ((getM gm x).getD 0 = 1)) x)).length, c2_1, ((ms.getD b.toNat lr0).xs).filter (fun x => !(fun x => decide ((getM gm x).getD 0 = 1)) x)⟩) ++ ([⟨oa, on, oc, out⟩] : List (LR Int))).length) mc2_1, .slice tqa tq.length tqc, .slice wa2_1 wt2_1.length wc2_1] 117], [rowT (tyI .i64) (.slice ba bn bc) 3 bl2_1], [rowT tyLR (.slice ma2_1 (((ms.set b.toNat ⟨a2_1, (((ms.getD b.toNat lr0).xs).filter (fun x => !(fun x => decide ((getM gm x).getD 0 = 1)) x)).length, c2_1, ((ms.getD b.toNat lr0).xs).filter (fun x => !(fun x => decide ((getM gm x).getD 0 = 1)) x)⟩) ++ ([⟨oa, on, oc, out⟩] : List (LR Int))).length) mc2_1) 22 ((ms.set b.toNat ⟨a2_1, (((ms.getD b.toNat lr0).xs).filter (fun x => !(fun x => decide ((getM gm x).getD 0 = 1)) x)).length, c2_1, ((ms.getD b.toNat lr0).xs).filter (fun x => !(fun x => decide ((getM gm x).getD 0 = 1)) x)⟩) ++ ([⟨oa, on, oc, out⟩] : List (LR Int)))], [manyF (inLR (tyI .i64) 3).row ((ms.set b.toNat ⟨a2_1, (((ms.getD b.toNat lr0).xs).filter (fun x => !(fun x => decide ((getM gm x).getD 0 = 1)) x)).length, c2_1, ((ms.getD b.toNat lr0).xs).filter (fun x => !(fun x => decide ((getM gm x).getD 0 = 1)) x)⟩) ++ ([⟨oa, on, oc, out⟩] : List (LR Int)))], [rowT tyLR (.slice wa2_1 wt2_1.length wc2_1) 23 wq], [manyF (inLR tyB 4).row wq], [rowT tyTk (.slice tqa tq.length tqc) 119 tq], [], [mapC (fun a : Int => .int .i64 a) (fun a : Int => .int .i64 a) w.heap.size gm], [blk w1.heap.size #[.map (some w.heap.size)] 135], [rowT (tyI .i64) (.slice ((ms.getD b.toNat lr0).a) ((ms.getD b.toNat lr0).n) ((ms.getD b.toNat lr0).c)) 3 ((ms.getD b.toNat lr0).xs)], []] ∧ (c ≤ fn) ∧ (SlI b.toNat fn wt td wq tq c) ∧ m = fn - c) (fn - 0) ⟨0, td, ta, tc, wt2_1, rfl, (H14.re rfl), (by first | assumption | omega | simp), (by exact SlI.start hrow hbw q1.wl q1.wo q1.wn), rfl⟩ ?_
    rintro m2 Γ2 w11 ⟨c, tq, tqa, tqc, wq, rfl, H15, hc, hq, rfl⟩
    refine W.seq ?_
    refine W.region ?_
    refine WL.op rfl (d_cmp (decide (((c : Nat) : Int) < ((fn : Nat) : Int))) rfl rfl rfl ?_)
    refine WL.done (X.then_code ?_)
    refine W.seq ?_
    refine W.ite (p := ((c : Nat) : Int) < ((fn : Nat) : Int)) rfl (fun c97 => ?_) (fun c97 => ?_)
    · skip
      refine W.skip (X.then_code ?_)
      refine W.seq ?_
      refine W.block ?_
      refine W.seq ?_
      refine W.region ?_
      refine WL.op rfl (d_move rfl ?_)
      refine WL.op rfl (d_assign rfl ?_)
      refine WL.done (X.then_code ?_)
      refine W.seq ?_
      have hqb := hq.wr b.toNat (by omega)
      have hqn := hq.wr wt.length (by omega)
      have hql := hq.wl
      have hqt := hq.tl
      have hun := hq.un c (Nat.le_refl _) (by omega)
      refine W.region ?_
      refine WL.op rfl (d_move rfl ?_)
      refine WL.op rfl (d_nilCheck rfl ?_)
      refine WL.op rfl (d_fieldAddrB fld117_4 rfl rfl ?_)
      refine WL.op rfl (d_loadB Try.underlying29 rfl rfl (H15.blk 0 rfl) rfl ?_)
      refine WL.op rfl (d_move rfl ?_)
      refine WL.op rfl (t_addr1 b.toNat (T := tyLR) rfl Try.underlying29 sz23 rfl rfl (H15.rdT 4 rfl) (by omega) (by omega) ?_)
      refine WL.op rfl (t_load1 b.toNat lr0 (T := tyLR) rfl Try.underlying23 rfl rfl (H15.rdT 4 rfl) (by omega) rfl ?_)
      refine WL.op rfl (d_move rfl ?_)
      refine WL.op rfl (t_addr1 c (T := tyB) rfl Try.underlying23 sz4 rfl rfl (show RdT tyB w11 (.slice ((wq.getD b.toNat lr0).a) ((wq.getD b.toNat lr0).n) ((wq.getD b.toNat lr0).c)) ((wq.getD b.toNat lr0).xs) from (Inn.own (H15.hpOf 5 rfl)).get lr0 b.toNat (by omega)) rfl (by omega) ?_)
      refine WL.op rfl (t_load1 c false (T := tyB) rfl Try.underlying4 rfl rfl (show RdT tyB w11 (.slice ((wq.getD b.toNat lr0).a) ((wq.getD b.toNat lr0).n) ((wq.getD b.toNat lr0).c)) ((wq.getD b.toNat lr0).xs) from (Inn.own (H15.hpOf 5 rfl)).get lr0 b.toNat (by omega)) (by omega) rfl ?_)
      refine WL.done (X.then_code ?_)
      refine W.iteB (b := ((wq.getD b.toNat lr0).xs).getD c false) rfl (fun c98 => ?_) (fun c98 => ?_)
      · skip
        refine W.region ?_
        refine WL.op rfl (d_move rfl ?_)
        refine WL.op rfl (d_move rfl ?_)
        refine WL.op rfl (d_move rfl ?_)
        refine WL.op rfl (d_build (cs := #[.int .i64 (((ms.set b.toNat ⟨a2_1, (((ms.getD b.toNat lr0).xs).filter (fun x => !(fun x => decide ((getM gm x).getD 0 = 1)) x)).length, c2_1, ((ms.getD b.toNat lr0).xs).filter (fun x => !(fun x => decide ((getM gm x).getD 0 = 1)) x)⟩).length : Nat) : Int), .int .i64 ((c : Nat) : Int)]) rfl (by kernel_rfl) ?_)
        have H16 : UpG w [blk g #[.slice fa fn fc, .slice ba bn bc, .slice ma mn mc, .slice ta td.length tc, .slice wa wn wc] 117, rowT (tyI .i64) (.slice ba bn bc) 3 bl, rowT tyLR (.slice ma mn mc) 22 ms, manyF (inLR (tyI .i64) 3).row ms, rowT tyTk (.slice ta td.length tc) 119 td, rowT tyLR (.slice wa wn wc) 23 wt, manyF (inLR tyB 4).row wt, rowT (tyI .i64) (.slice oa on oc) 3 out] w11 [[blk g #[.slice fa fn fc, .slice ba bn bc, .slice ma2_1 (((ms.set b.toNat ⟨a2_1, (((ms.getD b.toNat lr0).xs).filter (fun x => !(fun x => decide ((getM gm x).getD 0 = 1)) x)).length, c2_1, ((ms.getD b.toNat lr0).xs).filter (fun x => !(fun x => decide ((getM gm x).getD 0 = 1)) x)⟩) ++ ([⟨oa, on, oc, out⟩] : List (LR Int))).length) mc2_1, .slice tqa tq.length tqc, .slice wa2_1 wt2_1.length wc2_1] 117, rowT tyTk (.slice tqa tq.length tqc) 119 tq, rowT tyLR (.slice wa2_1 wt2_1.length wc2_1) 23 wq, manyF (inLR tyB 4).row wq], [rowT (tyI .i64) (.slice ba bn bc) 3 bl2_1], [rowT tyLR (.slice ma2_1 (((ms.set b.toNat ⟨a2_1, (((ms.getD b.toNat lr0).xs).filter (fun x => !(fun x => decide ((getM gm x).getD 0 = 1)) x)).length, c2_1, ((ms.getD b.toNat lr0).xs).filter (fun x => !(fun x => decide ((getM gm x).getD 0 = 1)) x)⟩) ++ ([⟨oa, on, oc, out⟩] : List (LR Int))).length) mc2_1) 22 ((ms.set b.toNat ⟨a2_1, (((ms.getD b.toNat lr0).xs).filter (fun x => !(fun x => decide ((getM gm x).getD 0 = 1)) x)).length, c2_1, ((ms.getD b.toNat lr0).xs).filter (fun x => !(fun x => decide ((getM gm x).getD 0 = 1)) x)⟩) ++ ([⟨oa, on, oc, out⟩] : List (LR Int)))], [manyF (inLR (tyI .i64) 3).row ((ms.set b.toNat ⟨a2_1, (((ms.getD b.toNat lr0).xs).filter (fun x => !(fun x => decide ((getM gm x).getD 0 = 1)) x)).length, c2_1, ((ms.getD b.toNat lr0).xs).filter (fun x => !(fun x => decide ((getM gm x).getD 0 = 1)) x)⟩) ++ ([⟨oa, on, oc, out⟩] : List (LR Int)))], [], [mapC (fun a : Int => .int .i64 a) (fun a : Int => .int .i64 a) w.heap.size gm], [blk w1.heap.size #[.map (some w.heap.size)] 135], [rowT (tyI .i64) (.slice ((ms.getD b.toNat lr0).a) ((ms.getD b.toNat lr0).n) ((ms.getD b.toNat lr0).c)) 3 ((ms.getD b.toNat lr0).xs)], []] := UpG.of (Upd.sel H15 (l := [0, 6, 4, 5, 1, 2, 3, 7, 8, 9]) rfl rfl) rfl
        refine WL.op rfl (d_call ok104 rfl (Ret.calls (hput_any g (((ms.set b.toNat ⟨a2_1, (((ms.getD b.toNat lr0).xs).filter (fun x => !(fun x => decide ((getM gm x).getD 0 = 1)) x)).length, c2_1, ((ms.getD b.toNat lr0).xs).filter (fun x => !(fun x => decide ((getM gm x).getD 0 = 1)) x)⟩).length : Nat) : Int) ((c : Nat) : Int) (.slice fa fn fc) (.slice ba bn bc) (.slice ma2_1 (((ms.set b.toNat ⟨a2_1, (((ms.getD b.toNat lr0).xs).filter (fun x => !(fun x => decide ((getM gm x).getD 0 = 1)) x)).length, c2_1, ((ms.getD b.toNat lr0).xs).filter (fun x => !(fun x => decide ((getM gm x).getD 0 = 1)) x)⟩) ++ ([⟨oa, on, oc, out⟩] : List (LR Int))).length) mc2_1) tqa tq tqc wa2_1 wq wc2_1 wt2_1.length w11 (H16.hpOf 0 rfl)  (by simp only [List.length_set]; omega) (by simp only [List.length_set, Int.toNat_natCast]; rw [← hwm]; omega) (by omega)) fun _ w12 p4 => ?_))
        obtain ⟨ta2_1, tc2_1, wt2_2, rfl, u9, q2⟩ := p4
        have H17 : UpG w [blk g #[.slice fa fn fc, .slice ba bn bc, .slice ma mn mc, .slice ta td.length tc, .slice wa wn wc] 117, rowT (tyI .i64) (.slice ba bn bc) 3 bl, rowT tyLR (.slice ma mn mc) 22 ms, manyF (inLR (tyI .i64) 3).row ms, rowT tyTk (.slice ta td.length tc) 119 td, rowT tyLR (.slice wa wn wc) 23 wt, manyF (inLR tyB 4).row wt, rowT (tyI .i64) (.slice oa on oc) 3 out] w12 [[blk g #[(.slice fa fn fc), (.slice ba bn bc), (.slice ma2_1 (((ms.set b.toNat ⟨a2_1, (((ms.getD b.toNat lr0).xs).filter (fun x => !(fun x => decide ((getM gm x).getD 0 = 1)) x)).length, c2_1, ((ms.getD b.toNat lr0).xs).filter (fun x => !(fun x => decide ((getM gm x).getD 0 = 1)) x)⟩) ++ ([⟨oa, on, oc, out⟩] : List (LR Int))).length) mc2_1), .slice ta2_1 ((tq ++ [((((ms.set b.toNat ⟨a2_1, (((ms.getD b.toNat lr0).xs).filter (fun x => !(fun x => decide ((getM gm x).getD 0 = 1)) x)).length, c2_1, ((ms.getD b.toNat lr0).xs).filter (fun x => !(fun x => decide ((getM gm x).getD 0 = 1)) x)⟩).length : Nat) : Int), ((c : Nat) : Int))]).length) tc2_1, .slice wa2_1 wt2_1.length wc2_1] 117, rowT tyTk (.slice ta2_1 ((tq ++ [((((ms.set b.toNat ⟨a2_1, (((ms.getD b.toNat lr0).xs).filter (fun x => !(fun x => decide ((getM gm x).getD 0 = 1)) x)).length, c2_1, ((ms.getD b.toNat lr0).xs).filter (fun x => !(fun x => decide ((getM gm x).getD 0 = 1)) x)⟩).length : Nat) : Int), ((c : Nat) : Int))]).length) tc2_1) 119 (tq ++ [((((ms.set b.toNat ⟨a2_1, (((ms.getD b.toNat lr0).xs).filter (fun x => !(fun x => decide ((getM gm x).getD 0 = 1)) x)).length, c2_1, ((ms.getD b.toNat lr0).xs).filter (fun x => !(fun x => decide ((getM gm x).getD 0 = 1)) x)⟩).length : Nat) : Int), ((c : Nat) : Int))]), rowT tyLR (.slice wa2_1 wt2_1.length wc2_1) 23 wt2_2, manyF (inLR tyB 4).row wt2_2], [rowT (tyI .i64) (.slice ba bn bc) 3 bl2_1], [rowT tyLR (.slice ma2_1 (((ms.set b.toNat ⟨a2_1, (((ms.getD b.toNat lr0).xs).filter (fun x => !(fun x => decide ((getM gm x).getD 0 = 1)) x)).length, c2_1, ((ms.getD b.toNat lr0).xs).filter (fun x => !(fun x => decide ((getM gm x).getD 0 = 1)) x)⟩) ++ ([⟨oa, on, oc, out⟩] : List (LR Int))).length) mc2_1) 22 ((ms.set b.toNat ⟨a2_1, (((ms.getD b.toNat lr0).xs).filter (fun x => !(fun x => decide ((getM gm x).getD 0 = 1)) x)).length, c2_1, ((ms.getD b.toNat lr0).xs).filter (fun x => !(fun x => decide ((getM gm x).getD 0 = 1)) x)⟩) ++ ([⟨oa, on, oc, out⟩] : List (LR Int)))], [manyF (inLR (tyI .i64) 3).row ((ms.set b.toNat ⟨a2_1, (((ms.getD b.toNat lr0).xs).filter (fun x => !(fun x => decide ((getM gm x).getD 0 = 1)) x)).length, c2_1, ((ms.getD b.toNat lr0).xs).filter (fun x => !(fun x => decide ((getM gm x).getD 0 = 1)) x)⟩) ++ ([⟨oa, on, oc, out⟩] : List (LR Int)))], [], [mapC (fun a : Int => .int .i64 a) (fun a : Int => .int .i64 a) w.heap.size gm], [blk w1.heap.size #[.map (some w.heap.size)] 135], [rowT (tyI .i64) (.slice ((ms.getD b.toNat lr0).a) ((ms.getD b.toNat lr0).n) ((ms.getD b.toNat lr0).c)) 3 ((ms.getD b.toNat lr0).xs)], []] := H16.on 0 rfl u9
        refine WL.done (X.block_normal (X.then_code ?_))
        refine W.region ?_
        refine WL.op rfl (d_add rfl rfl (by omega) (by omega) ?_)
        refine WL.op rfl (d_move rfl ?_)
        refine WL.done ?_
        have H18 : UpG w [blk g #[.slice fa fn fc, .slice ba bn bc, .slice ma mn mc, .slice ta td.length tc, .slice wa wn wc] 117, rowT (tyI .i64) (.slice ba bn bc) 3 bl, rowT tyLR (.slice ma mn mc) 22 ms, manyF (inLR (tyI .i64) 3).row ms, rowT tyTk (.slice ta td.length tc) 119 td, rowT tyLR (.slice wa wn wc) 23 wt, manyF (inLR tyB 4).row wt, rowT (tyI .i64) (.slice oa on oc) 3 out] w12 [[blk g #[(.slice fa fn fc), (.slice ba bn bc), (.slice ma2_1 (((ms.set b.toNat ⟨a2_1, (((ms.getD b.toNat lr0).xs).filter (fun x => !(fun x => decide ((getM gm x).getD 0 = 1)) x)).length, c2_1, ((ms.getD b.toNat lr0).xs).filter (fun x => !(fun x => decide ((getM gm x).getD 0 = 1)) x)⟩) ++ ([⟨oa, on, oc, out⟩] : List (LR Int))).length) mc2_1), .slice ta2_1 ((tq ++ [((((ms.set b.toNat ⟨a2_1, (((ms.getD b.toNat lr0).xs).filter (fun x => !(fun x => decide ((getM gm x).getD 0 = 1)) x)).length, c2_1, ((ms.getD b.toNat lr0).xs).filter (fun x => !(fun x => decide ((getM gm x).getD 0 = 1)) x)⟩).length : Nat) : Int), ((c : Nat) : Int))]).length) tc2_1, .slice wa2_1 wt2_1.length wc2_1] 117], [rowT tyTk (.slice ta2_1 ((tq ++ [((((ms.set b.toNat ⟨a2_1, (((ms.getD b.toNat lr0).xs).filter (fun x => !(fun x => decide ((getM gm x).getD 0 = 1)) x)).length, c2_1, ((ms.getD b.toNat lr0).xs).filter (fun x => !(fun x => decide ((getM gm x).getD 0 = 1)) x)⟩).length : Nat) : Int), ((c : Nat) : Int))]).length) tc2_1) 119 (tq ++ [((((ms.set b.toNat ⟨a2_1, (((ms.getD b.toNat lr0).xs).filter (fun x => !(fun x => decide ((getM gm x).getD 0 = 1)) x)).length, c2_1, ((ms.getD b.toNat lr0).xs).filter (fun x => !(fun x => decide ((getM gm x).getD 0 = 1)) x)⟩).length : Nat) : Int), ((c : Nat) : Int))])], [rowT tyLR (.slice wa2_1 wt2_1.length wc2_1) 23 wt2_2], [manyF (inLR tyB 4).row wt2_2], [rowT (tyI .i64) (.slice ba bn bc) 3 bl2_1], [rowT tyLR (.slice ma2_1 (((ms.set b.toNat ⟨a2_1, (((ms.getD b.toNat lr0).xs).filter (fun x => !(fun x => decide ((getM gm x).getD 0 = 1)) x)).length, c2_1, ((ms.getD b.toNat lr0).xs).filter (fun x => !(fun x => decide ((getM gm x).getD 0 = 1)) x)⟩) ++ ([⟨oa, on, oc, out⟩] : List (LR Int))).length) mc2_1) 22 ((ms.set b.toNat ⟨a2_1, (((ms.getD b.toNat lr0).xs).filter (fun x => !(fun x => decide ((getM gm x).getD 0 = 1)) x)).length, c2_1, ((ms.getD b.toNat lr0).xs).filter (fun x => !(fun x => decide ((getM gm x).getD 0 = 1)) x)⟩) ++ ([⟨oa, on, oc, out⟩] : List (LR Int)))], [manyF (inLR (tyI .i64) 3).row ((ms.set b.toNat ⟨a2_1, (((ms.getD b.toNat lr0).xs).filter (fun x => !(fun x => decide ((getM gm x).getD 0 = 1)) x)).length, c2_1, ((ms.getD b.toNat lr0).xs).filter (fun x => !(fun x => decide ((getM gm x).getD 0 = 1)) x)⟩) ++ ([⟨oa, on, oc, out⟩] : List (LR Int)))], [], [mapC (fun a : Int => .int .i64 a) (fun a : Int => .int .i64 a) w.heap.size gm], [blk w1.heap.size #[.map (some w.heap.size)] 135], [rowT (tyI .i64) (.slice ((ms.getD b.toNat lr0).a) ((ms.getD b.toNat lr0).n) ((ms.getD b.toNat lr0).c)) 3 ((ms.getD b.toNat lr0).xs)], []] := H17.re rfl
        exact X.next [47, 46, 9, 0, 1] (Γ' := [(47, .int .i64 (((c + 1) : Nat) : Int)), (46, .int .i64 ((fn : Nat) : Int)), (9, .int .i64 (((ms.set b.toNat ⟨a2_1, (((ms.getD b.toNat lr0).xs).filter (fun x => !(fun x => decide ((getM gm x).getD 0 = 1)) x)).length, c2_1, ((ms.getD b.toNat lr0).xs).filter (fun x => !(fun x => decide ((getM gm x).getD 0 = 1)) x)⟩).length : Nat) : Int)), (0, .pointer (some ⟨g, 0, none⟩)), (1, .int .i64 b)]) rfl (fn - (c + 1)) (by omega) ⟨c + 1, tq ++ [((((ms.set b.toNat ⟨a2_1, (((ms.getD b.toNat lr0).xs).filter (fun x => !(fun x => decide ((getM gm x).getD 0 = 1)) x)).length, c2_1, ((ms.getD b.toNat lr0).xs).filter (fun x => !(fun x => decide ((getM gm x).getD 0 = 1)) x)⟩).length : Nat) : Int), ((c : Nat) : Int))], ta2_1, tc2_1, wt2_2, rfl, (UpG.of (G := [[blk g #[.slice fa fn fc, .slice ba bn bc, .slice ma2_1 (((ms.set b.toNat ⟨a2_1, (((ms.getD b.toNat lr0).xs).filter (fun x => !(fun x => decide ((getM gm x).getD 0 = 1)) x)).length, c2_1, ((ms.getD b.toNat lr0).xs).filter (fun x => !(fun x => decide ((getM gm x).getD 0 = 1)) x)⟩) ++ ([⟨oa, on, oc, out⟩] : List (LR Int))).length) mc2_1, .slice ta2_1 ((tq ++ [((((ms.set b.toNat ⟨a2_1, (((ms.getD b.toNat lr0).xs).filter (fun x => !(fun x => decide ((getM gm x).getD 0 = 1)) x)).length, c2_1, ((ms.getD b.toNat lr0).xs).filter (fun x => !(fun x => decide ((getM gm x).getD 0 = 1)) x)⟩).length : Nat) : Int), ((c : Nat) : Int))]).length) tc2_1, .slice wa2_1 wt2_1.length wc2_1] 117], [rowT (tyI .i64) (.slice ba bn bc) 3 bl2_1], [rowT tyLR (.slice ma2_1 (((ms.set b.toNat ⟨a2_1, (((ms.getD b.toNat lr0).xs).filter (fun x => !(fun x => decide ((getM gm x).getD 0 = 1)) x)).length, c2_1, ((ms.getD b.toNat lr0).xs).filter (fun x => !(fun x => decide ((getM gm x).getD 0 = 1)) x)⟩) ++ ([⟨oa, on, oc, out⟩] : List (LR Int))).length) mc2_1) 22 ((ms.set b.toNat ⟨a2_1, (((ms.getD b.toNat lr0).xs).filter (fun x => !(fun x => decide ((getM gm x).getD 0 = 1)) x)).length, c2_1, ((ms.getD b.toNat lr0).xs).filter (fun x => !(fun x => decide ((getM gm x).getD 0 = 1)) x)⟩) ++ ([⟨oa, on, oc, out⟩] : List (LR Int)))], [manyF (inLR (tyI .i64) 3).row ((ms.set b.toNat ⟨a2_1, (((ms.getD b.toNat lr0).xs).filter (fun x => !(fun x => decide ((getM gm x).getD 0 = 1)) x)).length, c2_1, ((ms.getD b.toNat lr0).xs).filter (fun x => !(fun x => decide ((getM gm x).getD 0 = 1)) x)⟩) ++ ([⟨oa, on, oc, out⟩] : List (LR Int)))], [rowT tyLR (.slice wa2_1 wt2_1.length wc2_1) 23 wt2_2], [manyF (inLR tyB 4).row wt2_2], [rowT tyTk (.slice ta2_1 ((tq ++ [((((ms.set b.toNat ⟨a2_1, (((ms.getD b.toNat lr0).xs).filter (fun x => !(fun x => decide ((getM gm x).getD 0 = 1)) x)).length, c2_1, ((ms.getD b.toNat lr0).xs).filter (fun x => !(fun x => decide ((getM gm x).getD 0 = 1)) x)⟩).length : Nat) : Int), ((c : Nat) : Int))]).length) tc2_1) 119 (tq ++ [((((ms.set b.toNat ⟨a2_1, (((ms.getD b.toNat lr0).xs).filter (fun x => !(fun x => decide ((getM gm x).getD 0 = 1)) x)).length, c2_1, ((ms.getD b.toNat lr0).xs).filter (fun x => !(fun x => decide ((getM gm x).getD 0 = 1)) x)⟩).length : Nat) : Int), ((c : Nat) : Int))])], [], [mapC (fun a : Int => .int .i64 a) (fun a : Int => .int .i64 a) w.heap.size gm], [blk w1.heap.size #[.map (some w.heap.size)] 135], [rowT (tyI .i64) (.slice ((ms.getD b.toNat lr0).a) ((ms.getD b.toNat lr0).n) ((ms.getD b.toNat lr0).c)) 3 ((ms.getD b.toNat lr0).xs)], []]) (Upd.sel H18 (M := [blk g #[.slice fa fn fc, .slice ba bn bc, .slice ma2_1 (((ms.set b.toNat ⟨a2_1, (((ms.getD b.toNat lr0).xs).filter (fun x => !(fun x => decide ((getM gm x).getD 0 = 1)) x)).length, c2_1, ((ms.getD b.toNat lr0).xs).filter (fun x => !(fun x => decide ((getM gm x).getD 0 = 1)) x)⟩) ++ ([⟨oa, on, oc, out⟩] : List (LR Int))).length) mc2_1, .slice ta2_1 ((tq ++ [((((ms.set b.toNat ⟨a2_1, (((ms.getD b.toNat lr0).xs).filter (fun x => !(fun x => decide ((getM gm x).getD 0 = 1)) x)).length, c2_1, ((ms.getD b.toNat lr0).xs).filter (fun x => !(fun x => decide ((getM gm x).getD 0 = 1)) x)⟩).length : Nat) : Int), ((c : Nat) : Int))]).length) tc2_1, .slice wa2_1 wt2_1.length wc2_1] 117, rowT (tyI .i64) (.slice ba bn bc) 3 bl2_1, rowT tyLR (.slice ma2_1 (((ms.set b.toNat ⟨a2_1, (((ms.getD b.toNat lr0).xs).filter (fun x => !(fun x => decide ((getM gm x).getD 0 = 1)) x)).length, c2_1, ((ms.getD b.toNat lr0).xs).filter (fun x => !(fun x => decide ((getM gm x).getD 0 = 1)) x)⟩) ++ ([⟨oa, on, oc, out⟩] : List (LR Int))).length) mc2_1) 22 ((ms.set b.toNat ⟨a2_1, (((ms.getD b.toNat lr0).xs).filter (fun x => !(fun x => decide ((getM gm x).getD 0 = 1)) x)).length, c2_1, ((ms.getD b.toNat lr0).xs).filter (fun x => !(fun x => decide ((getM gm x).getD 0 = 1)) x)⟩) ++ ([⟨oa, on, oc, out⟩] : List (LR Int))), manyF (inLR (tyI .i64) 3).row ((ms.set b.toNat ⟨a2_1, (((ms.getD b.toNat lr0).xs).filter (fun x => !(fun x => decide ((getM gm x).getD 0 = 1)) x)).length, c2_1, ((ms.getD b.toNat lr0).xs).filter (fun x => !(fun x => decide ((getM gm x).getD 0 = 1)) x)⟩) ++ ([⟨oa, on, oc, out⟩] : List (LR Int))), rowT tyLR (.slice wa2_1 wt2_1.length wc2_1) 23 wt2_2, manyF (inLR tyB 4).row wt2_2, rowT tyTk (.slice ta2_1 ((tq ++ [((((ms.set b.toNat ⟨a2_1, (((ms.getD b.toNat lr0).xs).filter (fun x => !(fun x => decide ((getM gm x).getD 0 = 1)) x)).length, c2_1, ((ms.getD b.toNat lr0).xs).filter (fun x => !(fun x => decide ((getM gm x).getD 0 = 1)) x)⟩).length : Nat) : Int), ((c : Nat) : Int))]).length) tc2_1) 119 (tq ++ [((((ms.set b.toNat ⟨a2_1, (((ms.getD b.toNat lr0).xs).filter (fun x => !(fun x => decide ((getM gm x).getD 0 = 1)) x)).length, c2_1, ((ms.getD b.toNat lr0).xs).filter (fun x => !(fun x => decide ((getM gm x).getD 0 = 1)) x)⟩).length : Nat) : Int), ((c : Nat) : Int))]), mapC (fun a : Int => .int .i64 a) (fun a : Int => .int .i64 a) w.heap.size gm, blk w1.heap.size #[.map (some w.heap.size)] 135, rowT (tyI .i64) (.slice ((ms.getD b.toNat lr0).a) ((ms.getD b.toNat lr0).n) ((ms.getD b.toNat lr0).c)) 3 ((ms.getD b.toNat lr0).xs)]) (l := [0, 4, 5, 6, 2, 3, 1, 7, 8, 9]) rfl rfl) rfl), (by first | assumption | omega | simp), (by first | (simp only [List.length_set, Int.toNat_natCast] at q2 ⊢; rw [← hwm] at q2 ⊢; exact hq.put hbw (by omega) (.inr rfl) (fun _ => rfl) q2) | (simp only [List.length_set] at q3; rw [← hwm] at q3; have e8 : x_1 = ((x_1.toNat : Nat) : Int) := (by omega); have h7 := hq.put hbw (by omega) (by omega) (fun h9 => by have h8 := hun.trans h9; unfold cellB at h8; exact absurd h8 c98) q4; rw [← e8] at h7; exact h7)), rfl⟩
      · skip
        refine W.region ?_
        refine WL.op rfl (d_move rfl ?_)
        refine WL.op rfl (d_move rfl ?_)
        refine WL.op rfl (d_move rfl ?_)
        refine WL.op rfl (d_move rfl ?_)
        have H19 : UpG w [blk g #[.slice fa fn fc, .slice ba bn bc, .slice ma mn mc, .slice ta td.length tc, .slice wa wn wc] 117, rowT (tyI .i64) (.slice ba bn bc) 3 bl, rowT tyLR (.slice ma mn mc) 22 ms, manyF (inLR (tyI .i64) 3).row ms, rowT tyTk (.slice ta td.length tc) 119 td, rowT tyLR (.slice wa wn wc) 23 wt, manyF (inLR tyB 4).row wt, rowT (tyI .i64) (.slice oa on oc) 3 out] w11 [[blk g #[.slice fa fn fc, .slice ba bn bc, .slice ma2_1 (((ms.set b.toNat ⟨a2_1, (((ms.getD b.toNat lr0).xs).filter (fun x => !(fun x => decide ((getM gm x).getD 0 = 1)) x)).length, c2_1, ((ms.getD b.toNat lr0).xs).filter (fun x => !(fun x => decide ((getM gm x).getD 0 = 1)) x)⟩) ++ ([⟨oa, on, oc, out⟩] : List (LR Int))).length) mc2_1, .slice tqa tq.length tqc, .slice wa2_1 wt2_1.length wc2_1] 117, rowT tyLR (.slice ma2_1 (((ms.set b.toNat ⟨a2_1, (((ms.getD b.toNat lr0).xs).filter (fun x => !(fun x => decide ((getM gm x).getD 0 = 1)) x)).length, c2_1, ((ms.getD b.toNat lr0).xs).filter (fun x => !(fun x => decide ((getM gm x).getD 0 = 1)) x)⟩) ++ ([⟨oa, on, oc, out⟩] : List (LR Int))).length) mc2_1) 22 ((ms.set b.toNat ⟨a2_1, (((ms.getD b.toNat lr0).xs).filter (fun x => !(fun x => decide ((getM gm x).getD 0 = 1)) x)).length, c2_1, ((ms.getD b.toNat lr0).xs).filter (fun x => !(fun x => decide ((getM gm x).getD 0 = 1)) x)⟩) ++ ([⟨oa, on, oc, out⟩] : List (LR Int))), rowT tyTk (.slice tqa tq.length tqc) 119 tq, rowT tyLR (.slice wa2_1 wt2_1.length wc2_1) 23 wq, manyF (inLR tyB 4).row wq], [rowT (tyI .i64) (.slice ba bn bc) 3 bl2_1], [manyF (inLR (tyI .i64) 3).row ((ms.set b.toNat ⟨a2_1, (((ms.getD b.toNat lr0).xs).filter (fun x => !(fun x => decide ((getM gm x).getD 0 = 1)) x)).length, c2_1, ((ms.getD b.toNat lr0).xs).filter (fun x => !(fun x => decide ((getM gm x).getD 0 = 1)) x)⟩) ++ ([⟨oa, on, oc, out⟩] : List (LR Int)))], [], [mapC (fun a : Int => .int .i64 a) (fun a : Int => .int .i64 a) w.heap.size gm], [blk w1.heap.size #[.map (some w.heap.size)] 135], [rowT (tyI .i64) (.slice ((ms.getD b.toNat lr0).a) ((ms.getD b.toNat lr0).n) ((ms.getD b.toNat lr0).c)) 3 ((ms.getD b.toNat lr0).xs)], []] := UpG.of (Upd.sel H15 (l := [0, 2, 6, 4, 5, 1, 3, 7, 8, 9]) rfl rfl) rfl
        refine WL.op rfl (d_call ok98 rfl (Ret.calls (hwait_any g ((c : Nat) : Int) b (((ms.set b.toNat ⟨a2_1, (((ms.getD b.toNat lr0).xs).filter (fun x => !(fun x => decide ((getM gm x).getD 0 = 1)) x)).length, c2_1, ((ms.getD b.toNat lr0).xs).filter (fun x => !(fun x => decide ((getM gm x).getD 0 = 1)) x)⟩).length : Nat) : Int) (.slice fa fn fc) (.slice ba bn bc) ma2_1 ((ms.set b.toNat ⟨a2_1, (((ms.getD b.toNat lr0).xs).filter (fun x => !(fun x => decide ((getM gm x).getD 0 = 1)) x)).length, c2_1, ((ms.getD b.toNat lr0).xs).filter (fun x => !(fun x => decide ((getM gm x).getD 0 = 1)) x)⟩) ++ ([⟨oa, on, oc, out⟩] : List (LR Int))) mc2_1 (((ms.set b.toNat ⟨a2_1, (((ms.getD b.toNat lr0).xs).filter (fun x => !(fun x => decide ((getM gm x).getD 0 = 1)) x)).length, c2_1, ((ms.getD b.toNat lr0).xs).filter (fun x => !(fun x => decide ((getM gm x).getD 0 = 1)) x)⟩) ++ ([⟨oa, on, oc, out⟩] : List (LR Int))).length) tqa tq tqc wa2_1 wq wc2_1 wt2_1.length w11 (H19.hpOf 0 rfl)  (by simp only [List.length_set, List.length_append, List.length_singleton]; omega) (by simp only [List.length_set, List.length_append, List.length_singleton]; omega) (by simp only [List.length_set, Int.toNat_natCast]; rw [← hwm]; omega) (by omega)) fun _ w13 p5 => ?_))
        obtain ⟨ta2_2, tc2_2, wt2_3, x_1, rfl, u10, q3, q4⟩ := p5
        have H20 : UpG w [blk g #[.slice fa fn fc, .slice ba bn bc, .slice ma mn mc, .slice ta td.length tc, .slice wa wn wc] 117, rowT (tyI .i64) (.slice ba bn bc) 3 bl, rowT tyLR (.slice ma mn mc) 22 ms, manyF (inLR (tyI .i64) 3).row ms, rowT tyTk (.slice ta td.length tc) 119 td, rowT tyLR (.slice wa wn wc) 23 wt, manyF (inLR tyB 4).row wt, rowT (tyI .i64) (.slice oa on oc) 3 out] w13 [[blk g #[(.slice fa fn fc), (.slice ba bn bc), .slice ma2_1 (((ms.set b.toNat ⟨a2_1, (((ms.getD b.toNat lr0).xs).filter (fun x => !(fun x => decide ((getM gm x).getD 0 = 1)) x)).length, c2_1, ((ms.getD b.toNat lr0).xs).filter (fun x => !(fun x => decide ((getM gm x).getD 0 = 1)) x)⟩) ++ ([⟨oa, on, oc, out⟩] : List (LR Int))).length) mc2_1, .slice ta2_2 ((tq ++ [(x_1, ((c : Nat) : Int))]).length) tc2_2, .slice wa2_1 wt2_1.length wc2_1] 117, rowT tyLR (.slice ma2_1 (((ms.set b.toNat ⟨a2_1, (((ms.getD b.toNat lr0).xs).filter (fun x => !(fun x => decide ((getM gm x).getD 0 = 1)) x)).length, c2_1, ((ms.getD b.toNat lr0).xs).filter (fun x => !(fun x => decide ((getM gm x).getD 0 = 1)) x)⟩) ++ ([⟨oa, on, oc, out⟩] : List (LR Int))).length) mc2_1) 22 ((ms.set b.toNat ⟨a2_1, (((ms.getD b.toNat lr0).xs).filter (fun x => !(fun x => decide ((getM gm x).getD 0 = 1)) x)).length, c2_1, ((ms.getD b.toNat lr0).xs).filter (fun x => !(fun x => decide ((getM gm x).getD 0 = 1)) x)⟩) ++ ([⟨oa, on, oc, out⟩] : List (LR Int))), rowT tyTk (.slice ta2_2 ((tq ++ [(x_1, ((c : Nat) : Int))]).length) tc2_2) 119 (tq ++ [(x_1, ((c : Nat) : Int))]), rowT tyLR (.slice wa2_1 wt2_1.length wc2_1) 23 wt2_3, manyF (inLR tyB 4).row wt2_3], [rowT (tyI .i64) (.slice ba bn bc) 3 bl2_1], [manyF (inLR (tyI .i64) 3).row ((ms.set b.toNat ⟨a2_1, (((ms.getD b.toNat lr0).xs).filter (fun x => !(fun x => decide ((getM gm x).getD 0 = 1)) x)).length, c2_1, ((ms.getD b.toNat lr0).xs).filter (fun x => !(fun x => decide ((getM gm x).getD 0 = 1)) x)⟩) ++ ([⟨oa, on, oc, out⟩] : List (LR Int)))], [], [mapC (fun a : Int => .int .i64 a) (fun a : Int => .int .i64 a) w.heap.size gm], [blk w1.heap.size #[.map (some w.heap.size)] 135], [rowT (tyI .i64) (.slice ((ms.getD b.toNat lr0).a) ((ms.getD b.toNat lr0).n) ((ms.getD b.toNat lr0).c)) 3 ((ms.getD b.toNat lr0).xs)], []] := H19.on 0 rfl u10
        refine WL.done (X.block_normal (X.then_code ?_))
        refine W.region ?_
        refine WL.op rfl (d_add rfl rfl (by omega) (by omega) ?_)
        refine WL.op rfl (d_move rfl ?_)
        refine WL.done ?_
        have H21 : UpG w [blk g #[.slice fa fn fc, .slice ba bn bc, .slice ma mn mc, .slice ta td.length tc, .slice wa wn wc] 117, rowT (tyI .i64) (.slice ba bn bc) 3 bl, rowT tyLR (.slice ma mn mc) 22 ms, manyF (inLR (tyI .i64) 3).row ms, rowT tyTk (.slice ta td.length tc) 119 td, rowT tyLR (.slice wa wn wc) 23 wt, manyF (inLR tyB 4).row wt, rowT (tyI .i64) (.slice oa on oc) 3 out] w13 [[blk g #[(.slice fa fn fc), (.slice ba bn bc), .slice ma2_1 (((ms.set b.toNat ⟨a2_1, (((ms.getD b.toNat lr0).xs).filter (fun x => !(fun x => decide ((getM gm x).getD 0 = 1)) x)).length, c2_1, ((ms.getD b.toNat lr0).xs).filter (fun x => !(fun x => decide ((getM gm x).getD 0 = 1)) x)⟩) ++ ([⟨oa, on, oc, out⟩] : List (LR Int))).length) mc2_1, .slice ta2_2 ((tq ++ [(x_1, ((c : Nat) : Int))]).length) tc2_2, .slice wa2_1 wt2_1.length wc2_1] 117], [rowT tyLR (.slice ma2_1 (((ms.set b.toNat ⟨a2_1, (((ms.getD b.toNat lr0).xs).filter (fun x => !(fun x => decide ((getM gm x).getD 0 = 1)) x)).length, c2_1, ((ms.getD b.toNat lr0).xs).filter (fun x => !(fun x => decide ((getM gm x).getD 0 = 1)) x)⟩) ++ ([⟨oa, on, oc, out⟩] : List (LR Int))).length) mc2_1) 22 ((ms.set b.toNat ⟨a2_1, (((ms.getD b.toNat lr0).xs).filter (fun x => !(fun x => decide ((getM gm x).getD 0 = 1)) x)).length, c2_1, ((ms.getD b.toNat lr0).xs).filter (fun x => !(fun x => decide ((getM gm x).getD 0 = 1)) x)⟩) ++ ([⟨oa, on, oc, out⟩] : List (LR Int)))], [rowT tyTk (.slice ta2_2 ((tq ++ [(x_1, ((c : Nat) : Int))]).length) tc2_2) 119 (tq ++ [(x_1, ((c : Nat) : Int))])], [rowT tyLR (.slice wa2_1 wt2_1.length wc2_1) 23 wt2_3], [manyF (inLR tyB 4).row wt2_3], [rowT (tyI .i64) (.slice ba bn bc) 3 bl2_1], [manyF (inLR (tyI .i64) 3).row ((ms.set b.toNat ⟨a2_1, (((ms.getD b.toNat lr0).xs).filter (fun x => !(fun x => decide ((getM gm x).getD 0 = 1)) x)).length, c2_1, ((ms.getD b.toNat lr0).xs).filter (fun x => !(fun x => decide ((getM gm x).getD 0 = 1)) x)⟩) ++ ([⟨oa, on, oc, out⟩] : List (LR Int)))], [], [mapC (fun a : Int => .int .i64 a) (fun a : Int => .int .i64 a) w.heap.size gm], [blk w1.heap.size #[.map (some w.heap.size)] 135], [rowT (tyI .i64) (.slice ((ms.getD b.toNat lr0).a) ((ms.getD b.toNat lr0).n) ((ms.getD b.toNat lr0).c)) 3 ((ms.getD b.toNat lr0).xs)], []] := H20.re rfl
        exact X.next [47, 46, 9, 0, 1] (Γ' := [(47, .int .i64 (((c + 1) : Nat) : Int)), (46, .int .i64 ((fn : Nat) : Int)), (9, .int .i64 (((ms.set b.toNat ⟨a2_1, (((ms.getD b.toNat lr0).xs).filter (fun x => !(fun x => decide ((getM gm x).getD 0 = 1)) x)).length, c2_1, ((ms.getD b.toNat lr0).xs).filter (fun x => !(fun x => decide ((getM gm x).getD 0 = 1)) x)⟩).length : Nat) : Int)), (0, .pointer (some ⟨g, 0, none⟩)), (1, .int .i64 b)]) rfl (fn - (c + 1)) (by omega) ⟨c + 1, tq ++ [(x_1, ((c : Nat) : Int))], ta2_2, tc2_2, wt2_3, rfl, (UpG.of (G := [[blk g #[.slice fa fn fc, .slice ba bn bc, .slice ma2_1 (((ms.set b.toNat ⟨a2_1, (((ms.getD b.toNat lr0).xs).filter (fun x => !(fun x => decide ((getM gm x).getD 0 = 1)) x)).length, c2_1, ((ms.getD b.toNat lr0).xs).filter (fun x => !(fun x => decide ((getM gm x).getD 0 = 1)) x)⟩) ++ ([⟨oa, on, oc, out⟩] : List (LR Int))).length) mc2_1, .slice ta2_2 ((tq ++ [(x_1, ((c : Nat) : Int))]).length) tc2_2, .slice wa2_1 wt2_1.length wc2_1] 117], [rowT (tyI .i64) (.slice ba bn bc) 3 bl2_1], [rowT tyLR (.slice ma2_1 (((ms.set b.toNat ⟨a2_1, (((ms.getD b.toNat lr0).xs).filter (fun x => !(fun x => decide ((getM gm x).getD 0 = 1)) x)).length, c2_1, ((ms.getD b.toNat lr0).xs).filter (fun x => !(fun x => decide ((getM gm x).getD 0 = 1)) x)⟩) ++ ([⟨oa, on, oc, out⟩] : List (LR Int))).length) mc2_1) 22 ((ms.set b.toNat ⟨a2_1, (((ms.getD b.toNat lr0).xs).filter (fun x => !(fun x => decide ((getM gm x).getD 0 = 1)) x)).length, c2_1, ((ms.getD b.toNat lr0).xs).filter (fun x => !(fun x => decide ((getM gm x).getD 0 = 1)) x)⟩) ++ ([⟨oa, on, oc, out⟩] : List (LR Int)))], [manyF (inLR (tyI .i64) 3).row ((ms.set b.toNat ⟨a2_1, (((ms.getD b.toNat lr0).xs).filter (fun x => !(fun x => decide ((getM gm x).getD 0 = 1)) x)).length, c2_1, ((ms.getD b.toNat lr0).xs).filter (fun x => !(fun x => decide ((getM gm x).getD 0 = 1)) x)⟩) ++ ([⟨oa, on, oc, out⟩] : List (LR Int)))], [rowT tyLR (.slice wa2_1 wt2_1.length wc2_1) 23 wt2_3], [manyF (inLR tyB 4).row wt2_3], [rowT tyTk (.slice ta2_2 ((tq ++ [(x_1, ((c : Nat) : Int))]).length) tc2_2) 119 (tq ++ [(x_1, ((c : Nat) : Int))])], [], [mapC (fun a : Int => .int .i64 a) (fun a : Int => .int .i64 a) w.heap.size gm], [blk w1.heap.size #[.map (some w.heap.size)] 135], [rowT (tyI .i64) (.slice ((ms.getD b.toNat lr0).a) ((ms.getD b.toNat lr0).n) ((ms.getD b.toNat lr0).c)) 3 ((ms.getD b.toNat lr0).xs)], []]) (Upd.sel H21 (M := [blk g #[.slice fa fn fc, .slice ba bn bc, .slice ma2_1 (((ms.set b.toNat ⟨a2_1, (((ms.getD b.toNat lr0).xs).filter (fun x => !(fun x => decide ((getM gm x).getD 0 = 1)) x)).length, c2_1, ((ms.getD b.toNat lr0).xs).filter (fun x => !(fun x => decide ((getM gm x).getD 0 = 1)) x)⟩) ++ ([⟨oa, on, oc, out⟩] : List (LR Int))).length) mc2_1, .slice ta2_2 ((tq ++ [(x_1, ((c : Nat) : Int))]).length) tc2_2, .slice wa2_1 wt2_1.length wc2_1] 117, rowT (tyI .i64) (.slice ba bn bc) 3 bl2_1, rowT tyLR (.slice ma2_1 (((ms.set b.toNat ⟨a2_1, (((ms.getD b.toNat lr0).xs).filter (fun x => !(fun x => decide ((getM gm x).getD 0 = 1)) x)).length, c2_1, ((ms.getD b.toNat lr0).xs).filter (fun x => !(fun x => decide ((getM gm x).getD 0 = 1)) x)⟩) ++ ([⟨oa, on, oc, out⟩] : List (LR Int))).length) mc2_1) 22 ((ms.set b.toNat ⟨a2_1, (((ms.getD b.toNat lr0).xs).filter (fun x => !(fun x => decide ((getM gm x).getD 0 = 1)) x)).length, c2_1, ((ms.getD b.toNat lr0).xs).filter (fun x => !(fun x => decide ((getM gm x).getD 0 = 1)) x)⟩) ++ ([⟨oa, on, oc, out⟩] : List (LR Int))), manyF (inLR (tyI .i64) 3).row ((ms.set b.toNat ⟨a2_1, (((ms.getD b.toNat lr0).xs).filter (fun x => !(fun x => decide ((getM gm x).getD 0 = 1)) x)).length, c2_1, ((ms.getD b.toNat lr0).xs).filter (fun x => !(fun x => decide ((getM gm x).getD 0 = 1)) x)⟩) ++ ([⟨oa, on, oc, out⟩] : List (LR Int))), rowT tyLR (.slice wa2_1 wt2_1.length wc2_1) 23 wt2_3, manyF (inLR tyB 4).row wt2_3, rowT tyTk (.slice ta2_2 ((tq ++ [(x_1, ((c : Nat) : Int))]).length) tc2_2) 119 (tq ++ [(x_1, ((c : Nat) : Int))]), mapC (fun a : Int => .int .i64 a) (fun a : Int => .int .i64 a) w.heap.size gm, blk w1.heap.size #[.map (some w.heap.size)] 135, rowT (tyI .i64) (.slice ((ms.getD b.toNat lr0).a) ((ms.getD b.toNat lr0).n) ((ms.getD b.toNat lr0).c)) 3 ((ms.getD b.toNat lr0).xs)]) (l := [0, 5, 1, 6, 3, 4, 2, 7, 8, 9]) rfl rfl) rfl), (by first | assumption | omega | simp), (by first | (simp only [List.length_set, Int.toNat_natCast] at q2 ⊢; rw [← hwm] at q2 ⊢; exact hq.put hbw (by omega) (.inr rfl) (fun _ => rfl) q2) | (simp only [List.length_set] at q3; rw [← hwm] at q3; have e8 : x_1 = ((x_1.toNat : Nat) : Int) := (by omega); have h7 := hq.put hbw (by omega) (by omega) (fun h9 => by have h8 := hun.trans h9; unfold cellB at h8; exact absurd h8 c98) q4; rw [← e8] at h7; exact h7)), rfl⟩
    · skip
      refine W.exit (X.then_exit (X.then_exit (X.block_exit (X.end0 rfl ?_))))
      obtain ⟨m1, m2, m3, m4⟩ := spl_ms (a := a2_1) (n := ((ms.getD b.toNat lr0).xs.filter (fun x => !(fun x => decide ((getM gm x).getD 0 = 1)) x)).length) (c := c2_1) (oa := oa) (on := on) (oc := oc) (show b.toNat < ms.length by omega) hg (by omega)
      exact ⟨bl2_1, ma2_1, (ms.set b.toNat ⟨a2_1, (((ms.getD b.toNat lr0).xs).filter (fun x => !(fun x => decide ((getM gm x).getD 0 = 1)) x)).length, c2_1, ((ms.getD b.toNat lr0).xs).filter (fun x => !(fun x => decide ((getM gm x).getD 0 = 1)) x)⟩) ++ ([⟨oa, on, oc, out⟩] : List (LR Int)), mc2_1, tqa, tq, tqc, wa2_1, _, wc2_1, wt2_1.length, rfl, (Upd.sel H15 (l := [0, 1, 2, 3, 6, 4, 5]) rfl rfl), (SlI.fin hq (by omega) m1 m2 m3 m4 q1.bll (by have h9 := q1.bv; simpa only [List.length_set] using h9))⟩
end Go.Proofs.Ytoeockpkkmgieaa

