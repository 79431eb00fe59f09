/- The walks of functions, printed by wip/tools/gw.py. -/
import Derived.Test.YtkdcmklkggnblaaF1
import Derived.Test.YtkdcmklkggnblaaSx7
import Derived.Test.YtkdcmklkggnblaaT7
import Derived.Test.YtkdcmklkggnblaaTwin0
namespace Go.Proofs.Ytkdcmklkggnblaa
open Go Go.Sx
set_option linter.unusedVariables false
set_option linter.unusedSimpArgs false
set_option maxRecDepth 20000 in
theorem about_any (kind : Int) (w : World) :
    Calls Try.prog 54 #[.int .i64 kind] w (Ret fun v w' => v = .bool (aboutB kind) ∧ Upd w [] w' []) := by
  refine calls_of_W (args := [.int .i64 kind]) Try.func54 rfl rfl rfl ?_
  have H0 : UpG w [] w [] := UpG.nil w
  show W _ _ _ _ [(0, .int .i64 kind)] w
  refine W.seq ?_
  refine W.region ?_
  refine WL.op rfl (d_assign rfl ?_)
  refine WL.done (X.then_code ?_)
  refine W.seq ?_
  refine W.region ?_
  refine WL.op rfl (d_move rfl ?_)
  refine WL.op rfl (d_cmp (decide (kind = (23 : Int))) rfl rfl rfl ?_)
  refine WL.op rfl (d_move rfl ?_)
  refine WL.part 5 (p := kind = (23 : Int)) rfl (fun g13 => ?_) (fun g13 => ?_)
  · skip
    refine WL.opN rfl rfl rfl rfl ?_
    refine WL.opN rfl rfl rfl rfl ?_
    refine WL.op rfl (d_pick rfl rfl ?_)
    refine WL.op rfl (d_assign rfl ?_)
    refine WL.done (X.then_code ?_)
    refine W.ret (X.ret1 rfl rfl ?_)
    exact ⟨(by simp [aboutB]; omega), H0.noneL⟩
  · skip
    refine WL.opG rfl rfl rfl (d_move rfl ?_)
    refine WL.opG rfl rfl rfl (d_cmp (decide (kind = (24 : Int))) rfl rfl rfl ?_)
    refine WL.op rfl (d_pick rfl rfl ?_)
    refine WL.op rfl (d_assign rfl ?_)
    refine WL.done (X.then_code ?_)
    refine W.ret (X.ret1 rfl rfl ?_)
    exact ⟨(by simp [aboutB]; omega), H0.noneL⟩

set_option maxRecDepth 20000 in
theorem kept_any (r : RawD) (ra : Option Addr) (rc : Nat) (w : World) (rr : RdT (tyI .i64) w (.slice ra r.nums.length rc) r.nums) :
    Calls Try.prog 34 #[.agg #[.slice ra r.nums.length rc, .string r.text]] w (Ret fun v w' => v = .bool (keptB r) ∧ Upd w [] w' []) := by
  have le_rr := rr.le
  refine calls_of_W (args := [.agg #[.slice ra r.nums.length rc, .string r.text]]) Try.func34 rfl rfl rfl ?_
  have H0 : UpG w [] w [] := UpG.nil w
  show W _ _ _ _ [(0, .agg #[.slice ra r.nums.length rc, .string r.text])] w
  refine W.seq ?_
  refine W.region ?_
  refine WL.op rfl (d_box rfl fun w1 u1 => ?_)
  have H1 : UpG w [] w1 [[blk w.heap.size #[.slice ra r.nums.length rc, .string r.text] 53]] := H0.new' u1
  refine WL.op rfl (d_assign rfl ?_)
  refine WL.done (X.then_code ?_)
  refine W.seq ?_
  refine W.region ?_
  refine WL.op rfl (d_loadAB [.slice ra r.nums.length rc, .string r.text] Try.underlying53 rfl sz53 rfl (H1.blk 0 rfl) rfl rfl ?_)
  refine WL.op rfl (d_call ok25 rfl (Ret.calls (opOf_any r ra rc w1 (rr.at H1) ) fun _ w2 p1 => ?_))
  obtain ⟨rfl, u2⟩ := p1
  have H2 : UpG w [] w2 [[blk w.heap.size #[.slice ra r.nums.length rc, .string r.text] 53]] := H1.call u2
  refine WL.op rfl (d_move rfl ?_)
  refine WL.op rfl (d_extract rfl rfl ?_)
  refine WL.op rfl (d_extract rfl rfl ?_)
  refine WL.op rfl (d_alloc sz55 fun w3 u3 => ?_)
  have H3 : UpG w [] w3 [[blk w.heap.size #[.slice ra r.nums.length rc, .string r.text] 53], [blk w2.heap.size #[.int .i64 0, .int .i64 0, .int .i64 0, .int .i64 0, .string ⟨#[]⟩] 55]] := H2.new' u3
  refine WL.op0 (d_storeAB (us := [.int .i64 ((ofR r).1.kind), .int .i64 ((ofR r).1.slot), .int .i64 ((ofR r).1.at_), .int .i64 ((ofR r).1.len), .string ((ofR r).1.text)]) (cs' := #[.int .i64 ((ofR r).1.kind), .int .i64 ((ofR r).1.slot), .int .i64 ((ofR r).1.at_), .int .i64 ((ofR r).1.len), .string ((ofR r).1.text)]) sz55 rfl rfl rfl rfl (H3.blk 1 rfl) rfl rfl fun w4 u4 => ?_)
  have H4 : UpG w [] w4 [[blk w.heap.size #[.slice ra r.nums.length rc, .string r.text] 53], [blk w2.heap.size #[.int .i64 ((ofR r).1.kind), .int .i64 ((ofR r).1.slot), .int .i64 ((ofR r).1.at_), .int .i64 ((ofR r).1.len), .string ((ofR r).1.text)] 55]] := H3.on 1 rfl u4
  refine WL.op rfl (d_assign rfl ?_)
  refine WL.done (X.then_code ?_)
  refine W.seq ?_
  refine W.region ?_
  refine WL.op rfl (d_move rfl ?_)
  refine WL.op rfl (d_cmp (decide (((ofR r).2) = (0 : Int))) rfl rfl rfl ?_)
  refine WL.op rfl (d_move rfl ?_)
  refine WL.part 12 (p := ((ofR r).2) = (0 : Int)) rfl (fun g18 => ?_) (fun g18 => ?_)
  · skip
    refine WL.opG rfl rfl rfl (d_fieldAddrB fld55_0 rfl rfl ?_)
    refine WL.opG rfl rfl rfl (d_loadB Try.underlying3 rfl rfl (H4.blk 1 rfl) rfl ?_)
    refine WL.opG rfl rfl rfl (d_call ok54 rfl (Ret.calls (about_any ((ofR r).1.kind) w4  ) fun _ w5 p2 => ?_))
    obtain ⟨rfl, u5⟩ := p2
    have H5 : UpG w [] w5 [[blk w.heap.size #[.slice ra r.nums.length rc, .string r.text] 53], [blk w2.heap.size #[.int .i64 ((ofR r).1.kind), .int .i64 ((ofR r).1.slot), .int .i64 ((ofR r).1.at_), .int .i64 ((ofR r).1.len), .string ((ofR r).1.text)] 55]] := H4.call u5
    refine WL.op rfl (d_pick rfl rfl ?_)
    refine WL.op rfl (d_assign rfl ?_)
    refine WL.done (X.then_code ?_)
    refine W.pick [2] (Γ' := [(2, .bool (aboutB ((ofR r).1.kind)))]) rfl ?_
    refine W.ret (X.ret1 rfl rfl ?_)
    exact ⟨(by first | rw [keptB, decide_eq_true g18]; rfl | (rw [keptB, decide_eq_false g18]; rfl)), H5.noneL⟩
  · skip
    refine WL.opN rfl rfl rfl rfl ?_
    refine WL.opN rfl rfl rfl rfl ?_
    refine WL.opN rfl rfl rfl rfl ?_
    refine WL.op rfl (d_pick rfl rfl ?_)
    refine WL.op rfl (d_assign rfl ?_)
    refine WL.done (X.then_code ?_)
    refine W.pick [2] (Γ' := [(2, .bool false)]) rfl ?_
    refine W.ret (X.ret1 rfl rfl ?_)
    exact ⟨(by first | rw [keptB, decide_eq_true g18]; rfl | (rw [keptB, decide_eq_false g18]; rfl)), H4.noneL⟩

set_option maxRecDepth 20000 in
theorem cloneI_any (sa : Option Addr) (s : List Int) (sc : Nat) (w : World) (rs : RdT (tyI .i64) w (.slice sa s.length sc) s) (hl : s.length * 8 ≤ 140737488355328) :
    Calls Try.prog 55 #[.slice sa s.length sc] w (Ret fun v w' => ∃ a2 : Option Addr, ∃ c2 : Nat, v = .slice a2 s.length c2 ∧ Upd w [] w' [rowT (tyI .i64) (.slice a2 s.length c2) 3 s]) := by
  have le_rs := rs.le
  refine calls_of_W (args := [.slice sa s.length sc]) Try.func55 rfl rfl rfl ?_
  have H0 : UpG w [] w [] := UpG.nil w
  show W _ _ _ _ [(0, .slice sa s.length sc)] w
  refine W.seq ?_
  refine W.region ?_
  refine WL.op rfl (d_assign rfl ?_)
  refine WL.done (X.then_code ?_)
  refine W.seq ?_
  refine W.seq ?_
  refine W.region ?_
  refine WL.op rfl (d_move rfl ?_)
  refine WL.op rfl (d_slcnil Try.underlying51 rfl ?_)
  refine WL.done (X.then_code ?_)
  refine W.ite (p := sa = none) rfl (fun c357 => ?_) (fun c357 => ?_)
  · skip
    refine W.seq ?_
    refine W.region ?_
    refine WL.op rfl (d_assign rfl ?_)
    refine WL.done (X.then_code ?_)
    refine W.ret (X.then_ret (X.ret1 rfl rfl ?_))
    have e : s = [] := rs.nilOf c357
    subst e
    exact ⟨none, 0, (by rfl), nilOwn H0⟩
  · skip
    refine W.skip (X.then_code ?_)
    refine W.seq ?_
    refine W.region ?_
    refine WL.op rfl (t_buildSlice0 (T := (tyI .i64)) rfl Try.underlying51 sz3 fun w1 u1 => ?_)
    have H1 : UpG w [] w1 [[rowT (tyI .i64) (.slice (some ⟨w.heap.size, 0, none⟩) (([] : List Int).length) 0) 3 ([] : List Int)]] := H0.new' u1
    refine WL.op rfl (d_move rfl ?_)
    refine WL.op rfl (t_append (T := (tyI .i64)) (xs := ([] : List Int)) (ys := s) rfl Try.underlying51 sz3 rfl rfl rfl (H1.ownT 0 rfl) (rs.at H1) (by simp; omega) (by simp; omega) fun a1 c1 w2 u2 => ?_)
    have H2 : UpG w [] w2 [[rowT (tyI .i64) (.slice a1 ((([] : List Int) ++ s).length) c1) 3 (([] : List Int) ++ s)]] := H1.on 0 rfl u2
    refine WL.op rfl (d_assign rfl ?_)
    refine WL.done (X.then_code ?_)
    refine W.ret (X.ret1 rfl rfl ?_)
    exact ⟨a1, c1, (by rfl), (by have hh := H2.one 0 rfl; exact hh)⟩

set_option maxRecDepth 20000 in
theorem mix_any (la : Option Addr) (l : List RawP) (lc : Nat) (by_a : Option Addr) (by_ : List Int) (by_c : Nat) (w : World) (rl : RdT tyRawP w (.slice la l.length lc) l) (rby_ : RdT (tyI .i64) w (.slice by_a by_.length by_c) by_) (dl : inRaw.Rd w l) (hsz : ∀ p, p ∈ l → p.d.nums.length * 8 ≤ 140737488355328) (hll : l.length ≤ 1000) :
    Calls Try.prog 36 #[.slice la l.length lc, .slice by_a by_.length by_c] w (Ret fun v w' => ∃ a2 : Option Addr, ∃ qs : List RawP, ∃ c2 : Nat, v = .slice a2 qs.length c2 ∧ Upd w [] w' [rowT tyRawP (.slice a2 qs.length c2) 53 qs, manyF inRaw.row qs] ∧ (rdsOf qs = mixD (rdsOf l) by_ l.length)) := by
  have le_rl := rl.le
  have le_rby_ := rby_.le
  refine calls_of_W (args := [.slice la l.length lc, .slice by_a by_.length by_c]) Try.func36 rfl rfl rfl ?_
  have H0 : UpG w [] w [] := UpG.nil w
  show W _ _ _ _ [(0, .slice la l.length lc), (1, .slice by_a by_.length by_c)] w
  refine W.seq ?_
  refine W.region ?_
  refine WL.op rfl (d_assign rfl ?_)
  refine WL.done (X.then_code ?_)
  refine W.seq ?_
  refine W.region ?_
  refine WL.op rfl (d_assign rfl ?_)
  refine WL.done (X.then_code ?_)
  refine W.seq ?_
  refine W.seq ?_
  refine W.region ?_
  refine WL.op rfl (d_move rfl ?_)
  refine WL.op rfl (d_lenS Try.underlying70 rfl ?_)
  refine WL.op rfl (d_move rfl ?_)
  refine WL.done (X.then_code ?_)
  refine W.block ?_
  have H1 : UpG w [] w [[manyF inRaw.row ([] : List RawP)]] := H0.new' (Upd.manyNil inRaw.row w)
  have H2 : UpG w [] w [[manyF inRaw.row ([] : List RawP)], [rowT tyRawP (.slice none (([] : List RawP).length) 0) 53 ([] : List RawP)]] := H1.new' (Upd.nilRowT w tyRawP 53)
  refine W.pick [10, 9, 8, 5, 4, 1] (Γ' := [(10, .int .i64 0), (9, .int .i64 ((l.length : Nat) : Int)), (8, .slice la l.length lc), (5, .slice none (([] : List RawP).length) 0), (4, .slice none 0 0), (1, .slice by_a by_.length by_c)]) rfl ?_
  refine W.loop (fun m Γ' w' => ∃ k : Nat, ∃ qs : List RawP, ∃ qa : Option Addr, ∃ qc : Nat, Γ' = [(10, .int .i64 ((k : Nat) : Int)), (9, .int .i64 ((l.length : Nat) : Int)), (8, .slice la l.length lc), (5, .slice qa qs.length qc), (4, .slice none 0 0), (1, .slice by_a by_.length by_c)] ∧ UpG w [] w' [[manyF inRaw.row qs], [rowT tyRawP (.slice qa qs.length qc) 53 qs]] ∧ (k ≤ l.length) ∧ (rdsOf qs = mixD (rdsOf l) by_ k) ∧ (qs.length ≤ 2 * k) ∧ m = l.length - k) (l.length - 0) ⟨0, ([] : List RawP), none, 0, rfl, H2, (by first | assumption | omega | simp), (by rfl), (by simp), rfl⟩ ?_
  rintro m1 Γ1 w1 ⟨k, qs, qa, qc, rfl, H3, hk, hq, hql, rfl⟩
  refine W.seq ?_
  refine W.region ?_
  refine WL.op rfl (d_cmp (decide (((k : Nat) : Int) < ((l.length : Nat) : Int))) rfl rfl rfl ?_)
  refine WL.done (X.then_code ?_)
  refine W.seq ?_
  refine W.ite (p := ((k : Nat) : Int) < ((l.length : Nat) : Int)) rfl (fun c24 => ?_) (fun c24 => ?_)
  · skip
    refine W.skip (X.then_code ?_)
    refine W.seq ?_
    refine W.block ?_
    refine W.seq ?_
    refine W.region ?_
    refine WL.op rfl (d_move rfl ?_)
    refine WL.op rfl (t_addrN k (T := tyRawP) rfl Try.underlying70 sz53 rfl rfl (rl.at H3) rfl (by omega) ?_)
    refine WL.op rfl (t_loadN k rawP0 (T := tyRawP) (us := [.slice ((l.getD k rawP0).a) (((l.getD k rawP0).d.nums).length) ((l.getD k rawP0).c), .string ((l.getD k rawP0).d.text)]) rfl Try.underlying53 rfl sz53 rfl (rl.at H3) (by omega) rfl ?_)
    refine WL.op rfl (d_alloc sz53 fun w2 u1 => ?_)
    have H4 : UpG w [] w2 [[manyF inRaw.row qs], [rowT tyRawP (.slice qa qs.length qc) 53 qs], [blk w1.heap.size #[.slice none 0 0, .string ⟨#[]⟩] 53]] := H3.new' u1
    refine WL.op rfl (d_assign rfl ?_)
    refine WL.op0 (d_storeAB (us := [.slice ((l.getD k rawP0).a) (((l.getD k rawP0).d.nums).length) ((l.getD k rawP0).c), .string ((l.getD k rawP0).d.text)]) (cs' := #[.slice ((l.getD k rawP0).a) (((l.getD k rawP0).d.nums).length) ((l.getD k rawP0).c), .string ((l.getD k rawP0).d.text)]) sz53 rfl rfl rfl rfl (H4.blk 2 rfl) rfl rfl fun w3 u2 => ?_)
    have H5 : UpG w [] w3 [[manyF inRaw.row qs], [rowT tyRawP (.slice qa qs.length qc) 53 qs], [blk w1.heap.size #[.slice ((l.getD k rawP0).a) (((l.getD k rawP0).d.nums).length) ((l.getD k rawP0).c), .string ((l.getD k rawP0).d.text)] 53]] := H4.on 2 rfl u2
    refine WL.done (X.then_code ?_)
    refine W.seq ?_
    refine W.regionD mixed (by kernel_rfl) fun hok1 w4 k1 => ?_
    have H6 : UpG w [] w4 [[manyF inRaw.row qs], [rowT tyRawP (.slice qa qs.length qc) 53 qs], [blk w1.heap.size #[.slice ((l.getD k rawP0).a) (((l.getD k rawP0).d.nums).length) ((l.getD k rawP0).c), .string ((l.getD k rawP0).d.text)] 53]] := H5.kept k1
    refine WD.take hok1 0 (.slice qa qs.length qc) (fun _ => True) rfl rfl rfl rfl rfl trivial (.inl ⟨rfl, fun _ _ => d_move rfl ⟨rfl, rfl⟩⟩) ?_
    refine WD.take hok1 1 (.pointer (some ⟨w1.heap.size, 0, none⟩)) (fun _ => True) rfl rfl rfl rfl rfl trivial (.inl ⟨rfl, fun _ _ => d_fieldAddrB fld53_0 rfl rfl ⟨rfl, rfl⟩⟩) ?_
    refine WD.take hok1 2 (.slice ((l.getD k rawP0).a) (((l.getD k rawP0).d.nums).length) ((l.getD k rawP0).c)) (fun w' => w'.heap[w1.heap.size]? = some (.cells #[.slice ((l.getD k rawP0).a) (((l.getD k rawP0).d.nums).length) ((l.getD k rawP0).c), .string ((l.getD k rawP0).d.text)] 53 (0, 0))) rfl rfl rfl rfl rfl (H6.blk 2 rfl) (.inl ⟨rfl, fun _ hC => d_loadB Try.underlying51 rfl rfl hC rfl ⟨rfl, rfl⟩⟩) ?_
    refine WD.take hok1 4 (.pointer (some ⟨w1.heap.size, 1, none⟩)) (fun _ => True) rfl rfl rfl rfl rfl trivial (.inl ⟨rfl, fun _ _ => d_fieldAddrB fld53_1 rfl rfl ⟨rfl, rfl⟩⟩) ?_
    refine WD.take hok1 5 (.string ((l.getD k rawP0).d.text)) (fun w' => w'.heap[w1.heap.size]? = some (.cells #[.slice ((l.getD k rawP0).a) (((l.getD k rawP0).d.nums).length) ((l.getD k rawP0).c), .string ((l.getD k rawP0).d.text)] 53 (0, 0))) rfl rfl rfl rfl rfl (H6.blk 2 rfl) (.inl ⟨rfl, fun _ hC => d_loadB Try.underlying9 rfl rfl hC rfl ⟨rfl, rfl⟩⟩) ?_
    refine WD.loud hok1 3 rfl (⟨_, [⟨5, .string ((l.getD k rawP0).d.text), (fun w' => w'.heap[w1.heap.size]? = some (.cells #[.slice ((l.getD k rawP0).a) (((l.getD k rawP0).d.nums).length) ((l.getD k rawP0).c), .string ((l.getD k rawP0).d.text)] 53 (0, 0)))⟩, ⟨4, .pointer (some ⟨w1.heap.size, 1, none⟩), (fun _ => True)⟩, ⟨0, .slice qa qs.length qc, (fun _ => True)⟩], rfl, rfl, rfl, rfl, rfl, rfl, d_call ok55 rfl (Ret.calls (cloneI_any ((l.getD k rawP0).a) ((l.getD k rawP0).d.nums) ((l.getD k rawP0).c) w4 (show RdT (tyI .i64) w4 (.slice ((l.getD k rawP0).a) (((l.getD k rawP0).d.nums).length) ((l.getD k rawP0).c)) ((l.getD k rawP0).d.nums) from (dl.at H6).get rawP0 k (by omega)) (hsz _ (getD_mem' (by omega)))) fun _ w5 p1 => ?_)⟩)
    obtain ⟨a2_1, c2_1, rfl, u3⟩ := p1
    have H7 : UpG w [] w5 [[manyF inRaw.row qs], [rowT tyRawP (.slice qa qs.length qc) 53 qs], [blk w1.heap.size #[.slice ((l.getD k rawP0).a) (((l.getD k rawP0).d.nums).length) ((l.getD k rawP0).c), .string ((l.getD k rawP0).d.text)] 53], [rowT (tyI .i64) (.slice a2_1 (((l.getD k rawP0).d.nums).length) c2_1) 3 ((l.getD k rawP0).d.nums)]] := (H6.new' u3).re rfl
    refine ⟨⟨(H7.blk 2 rfl), trivial, trivial, trivial⟩, ?_⟩
    refine WD.take hok1 6 (.agg #[.slice a2_1 (((l.getD k rawP0).d.nums).length) c2_1, .string ((l.getD k rawP0).d.text)]) (fun _ => True) rfl rfl rfl rfl rfl trivial (.inl ⟨rfl, fun _ _ => d_build (cs := #[.slice a2_1 (((l.getD k rawP0).d.nums).length) c2_1, .string ((l.getD k rawP0).d.text)]) rfl (by kernel_rfl) ⟨rfl, rfl⟩⟩) ?_
    refine WD.loud hok1 7 rfl (⟨_, [⟨0, .slice qa qs.length qc, (fun _ => True)⟩], rfl, rfl, rfl, rfl, rfl, rfl, t_buildSlice (T := tyRawP) (xs := ([⟨a2_1, c2_1, ⟨(l.getD k rawP0).d.nums, (l.getD k rawP0).d.text⟩⟩] : List RawP)) (cs := #[.slice a2_1 (((l.getD k rawP0).d.nums).length) c2_1, .string ((l.getD k rawP0).d.text)]) rfl Try.underlying70 sz53 rfl rfl rfl rfl (by kernel_rfl) rfl rfl fun w6 u4 => ?_⟩)
    have H8 : UpG w [] w6 [[manyF inRaw.row qs], [rowT tyRawP (.slice qa qs.length qc) 53 qs], [blk w1.heap.size #[.slice ((l.getD k rawP0).a) (((l.getD k rawP0).d.nums).length) ((l.getD k rawP0).c), .string ((l.getD k rawP0).d.text)] 53], [rowT (tyI .i64) (.slice a2_1 (((l.getD k rawP0).d.nums).length) c2_1) 3 ((l.getD k rawP0).d.nums)], [rowT tyRawP (.slice (some ⟨w5.heap.size, 0, none⟩) (([⟨a2_1, c2_1, ⟨(l.getD k rawP0).d.nums, (l.getD k rawP0).d.text⟩⟩] : List RawP).length) (([⟨a2_1, c2_1, ⟨(l.getD k rawP0).d.nums, (l.getD k rawP0).d.text⟩⟩] : List RawP).length)) 53 ([⟨a2_1, c2_1, ⟨(l.getD k rawP0).d.nums, (l.getD k rawP0).d.text⟩⟩] : List RawP)]] := H7.new' u4
    refine ⟨⟨trivial, trivial⟩, ?_⟩
    refine WD.loud hok1 8 rfl (⟨_, [], rfl, rfl, rfl, rfl, rfl, rfl, t_append (T := tyRawP) (xs := qs) (ys := ([⟨a2_1, c2_1, ⟨(l.getD k rawP0).d.nums, (l.getD k rawP0).d.text⟩⟩] : List RawP)) rfl Try.underlying70 sz53 rfl rfl rfl (H8.ownT 1 rfl) (H8.rdT 4 rfl) (by simp; omega) (by simp; omega) fun a1 c1 w7 u5 => ?_⟩)
    have H9 : UpG w [] w7 [[manyF inRaw.row qs], [rowT tyRawP (.slice a1 ((qs ++ ([⟨a2_1, c2_1, ⟨(l.getD k rawP0).d.nums, (l.getD k rawP0).d.text⟩⟩] : List RawP)).length) c1) 53 (qs ++ ([⟨a2_1, c2_1, ⟨(l.getD k rawP0).d.nums, (l.getD k rawP0).d.text⟩⟩] : List RawP))], [blk w1.heap.size #[.slice ((l.getD k rawP0).a) (((l.getD k rawP0).d.nums).length) ((l.getD k rawP0).c), .string ((l.getD k rawP0).d.text)] 53], [rowT (tyI .i64) (.slice a2_1 (((l.getD k rawP0).d.nums).length) c2_1) 3 ((l.getD k rawP0).d.nums)], []] := (H8.on 1 rfl u5).drop 4
    have H10 : UpG w [] w7 [[manyF inRaw.row (qs ++ [⟨a2_1, c2_1, ⟨(l.getD k rawP0).d.nums, (l.getD k rawP0).d.text⟩⟩])], [rowT tyRawP (.slice a1 ((qs ++ ([⟨a2_1, c2_1, ⟨(l.getD k rawP0).d.nums, (l.getD k rawP0).d.text⟩⟩] : List RawP)).length) c1) 53 (qs ++ ([⟨a2_1, c2_1, ⟨(l.getD k rawP0).d.nums, (l.getD k rawP0).d.text⟩⟩] : List RawP))], [blk w1.heap.size #[.slice ((l.getD k rawP0).a) (((l.getD k rawP0).d.nums).length) ((l.getD k rawP0).c), .string ((l.getD k rawP0).d.text)] 53], [], []] := (UpG.absorb (f := inRaw.row) (⟨a2_1, c2_1, ⟨(l.getD k rawP0).d.nums, (l.getD k rawP0).d.text⟩⟩ : RawP) H9 0 3 rfl rfl rfl).re rfl
    refine ⟨trivial, ?_⟩
    refine WD.take hok1 9 (.slice a1 ((qs ++ ([⟨a2_1, c2_1, ⟨(l.getD k rawP0).d.nums, (l.getD k rawP0).d.text⟩⟩] : List RawP)).length) c1) (fun _ => True) rfl rfl rfl rfl rfl trivial (.inl ⟨rfl, fun _ _ => d_assign rfl ⟨rfl, rfl⟩⟩) ?_
    refine WD.done hok1 rfl (X.then_code ?_)
    refine W.pick [5, 23, 22, 21, 18, 20, 19, 17, 16, 15, 6, 7, 14, 13, 12, 11, 10, 9, 8, 4, 1] (Γ' := [(5, .slice a1 ((qs ++ ([⟨a2_1, c2_1, ⟨(l.getD k rawP0).d.nums, (l.getD k rawP0).d.text⟩⟩] : List RawP)).length) c1), (23, .slice a1 ((qs ++ ([⟨a2_1, c2_1, ⟨(l.getD k rawP0).d.nums, (l.getD k rawP0).d.text⟩⟩] : List RawP)).length) c1), (22, .slice (some ⟨w5.heap.size, 0, none⟩) (([⟨a2_1, c2_1, ⟨(l.getD k rawP0).d.nums, (l.getD k rawP0).d.text⟩⟩] : List RawP).length) (([⟨a2_1, c2_1, ⟨(l.getD k rawP0).d.nums, (l.getD k rawP0).d.text⟩⟩] : List RawP).length)), (21, .agg #[.slice a2_1 (((l.getD k rawP0).d.nums).length) c2_1, .string ((l.getD k rawP0).d.text)]), (18, .slice a2_1 (((l.getD k rawP0).d.nums).length) c2_1), (20, .string ((l.getD k rawP0).d.text)), (19, .pointer (some ⟨w1.heap.size, 1, none⟩)), (17, .slice ((l.getD k rawP0).a) (((l.getD k rawP0).d.nums).length) ((l.getD k rawP0).c)), (16, .pointer (some ⟨w1.heap.size, 0, none⟩)), (15, .slice qa qs.length qc), (6, .int .i64 ((k : Nat) : Int)), (7, .pointer (some ⟨w1.heap.size, 0, none⟩)), (14, .agg #[.slice ((l.getD k rawP0).a) (((l.getD k rawP0).d.nums).length) ((l.getD k rawP0).c), .string ((l.getD k rawP0).d.text)]), (13, elemPtr (.slice la l.length lc) (k * 2)), (12, .int .i64 ((k : Nat) : Int)), (11, .bool (decide (((k : Nat) : Int) < ((l.length : Nat) : Int)))), (10, .int .i64 ((k : Nat) : Int)), (9, .int .i64 ((l.length : Nat) : Int)), (8, .slice la l.length lc), (4, .slice none 0 0), (1, .slice by_a by_.length by_c)]) rfl ?_
    refine W.block ?_
    refine W.seq ?_
    refine W.region ?_
    refine WL.op rfl (d_move rfl ?_)
    refine WL.op rfl (d_move rfl ?_)
    refine WL.op rfl (d_lenS Try.underlying51 rfl ?_)
    refine WL.op rfl (d_cmp (decide (((k : Nat) : Int) ≥ ((by_.length : Nat) : Int))) rfl rfl rfl ?_)
    refine WL.op rfl (d_move rfl ?_)
    refine WL.part 34 (p := ((k : Nat) : Int) ≥ ((by_.length : Nat) : Int)) rfl (fun g27 => ?_) (fun g27 => ?_)
    · skip
      refine WL.opN rfl rfl rfl rfl ?_
      refine WL.opN rfl rfl rfl rfl ?_
      refine WL.opN rfl rfl rfl rfl ?_
      refine WL.opN rfl rfl rfl rfl ?_
      refine WL.opN rfl rfl rfl rfl ?_
      refine WL.op rfl (d_pick rfl rfl ?_)
      refine WL.op rfl (d_assign rfl ?_)
      refine WL.done (X.then_code ?_)
      refine W.pick [29, 40, 39, 38, 37, 36, 35, 34, 33, 32, 31, 30, 5, 23, 22, 21, 18, 20, 19, 17, 16, 15, 6, 7, 14, 13, 12, 11, 10, 9, 8, 4, 1] (Γ' := [(29, .bool true), (40, .bool true), (39, undef), (38, undef), (37, undef), (36, undef), (35, undef), (34, .bool true), (33, .bool (decide (((k : Nat) : Int) ≥ ((by_.length : Nat) : Int)))), (32, .int .i64 ((by_.length : Nat) : Int)), (31, .slice by_a by_.length by_c), (30, .int .i64 ((k : Nat) : Int)), (5, .slice a1 ((qs ++ ([⟨a2_1, c2_1, ⟨(l.getD k rawP0).d.nums, (l.getD k rawP0).d.text⟩⟩] : List RawP)).length) c1), (23, .slice a1 ((qs ++ ([⟨a2_1, c2_1, ⟨(l.getD k rawP0).d.nums, (l.getD k rawP0).d.text⟩⟩] : List RawP)).length) c1), (22, .slice (some ⟨w5.heap.size, 0, none⟩) (([⟨a2_1, c2_1, ⟨(l.getD k rawP0).d.nums, (l.getD k rawP0).d.text⟩⟩] : List RawP).length) (([⟨a2_1, c2_1, ⟨(l.getD k rawP0).d.nums, (l.getD k rawP0).d.text⟩⟩] : List RawP).length)), (21, .agg #[.slice a2_1 (((l.getD k rawP0).d.nums).length) c2_1, .string ((l.getD k rawP0).d.text)]), (18, .slice a2_1 (((l.getD k rawP0).d.nums).length) c2_1), (20, .string ((l.getD k rawP0).d.text)), (19, .pointer (some ⟨w1.heap.size, 1, none⟩)), (17, .slice ((l.getD k rawP0).a) (((l.getD k rawP0).d.nums).length) ((l.getD k rawP0).c)), (16, .pointer (some ⟨w1.heap.size, 0, none⟩)), (15, .slice qa qs.length qc), (6, .int .i64 ((k : Nat) : Int)), (7, .pointer (some ⟨w1.heap.size, 0, none⟩)), (14, .agg #[.slice ((l.getD k rawP0).a) (((l.getD k rawP0).d.nums).length) ((l.getD k rawP0).c), .string ((l.getD k rawP0).d.text)]), (13, elemPtr (.slice la l.length lc) (k * 2)), (12, .int .i64 ((k : Nat) : Int)), (11, .bool (decide (((k : Nat) : Int) < ((l.length : Nat) : Int)))), (10, .int .i64 ((k : Nat) : Int)), (9, .int .i64 ((l.length : Nat) : Int)), (8, .slice la l.length lc), (4, .slice none 0 0), (1, .slice by_a by_.length by_c)]) rfl ?_
      refine W.ift rfl ?_
      refine W.skip (X.block_normal (X.block_normal (X.then_code ?_)))
      refine W.pick [29, 40, 39, 38, 37, 36, 35, 34, 33, 32, 31, 30, 5, 23, 22, 21, 18, 20, 19, 17, 16, 15, 6, 7, 14, 13, 12, 11, 10, 9, 8, 4, 1] (Γ' := [(29, .bool true), (40, .bool true), (39, undef), (38, undef), (37, undef), (36, undef), (35, undef), (34, .bool true), (33, .bool (decide (((k : Nat) : Int) ≥ ((by_.length : Nat) : Int)))), (32, .int .i64 ((by_.length : Nat) : Int)), (31, .slice by_a by_.length by_c), (30, .int .i64 ((k : Nat) : Int)), (5, .slice a1 ((qs ++ ([⟨a2_1, c2_1, ⟨(l.getD k rawP0).d.nums, (l.getD k rawP0).d.text⟩⟩] : List RawP)).length) c1), (23, .slice a1 ((qs ++ ([⟨a2_1, c2_1, ⟨(l.getD k rawP0).d.nums, (l.getD k rawP0).d.text⟩⟩] : List RawP)).length) c1), (22, .slice (some ⟨w5.heap.size, 0, none⟩) (([⟨a2_1, c2_1, ⟨(l.getD k rawP0).d.nums, (l.getD k rawP0).d.text⟩⟩] : List RawP).length) (([⟨a2_1, c2_1, ⟨(l.getD k rawP0).d.nums, (l.getD k rawP0).d.text⟩⟩] : List RawP).length)), (21, .agg #[.slice a2_1 (((l.getD k rawP0).d.nums).length) c2_1, .string ((l.getD k rawP0).d.text)]), (18, .slice a2_1 (((l.getD k rawP0).d.nums).length) c2_1), (20, .string ((l.getD k rawP0).d.text)), (19, .pointer (some ⟨w1.heap.size, 1, none⟩)), (17, .slice ((l.getD k rawP0).a) (((l.getD k rawP0).d.nums).length) ((l.getD k rawP0).c)), (16, .pointer (some ⟨w1.heap.size, 0, none⟩)), (15, .slice qa qs.length qc), (6, .int .i64 ((k : Nat) : Int)), (7, .pointer (some ⟨w1.heap.size, 0, none⟩)), (14, .agg #[.slice ((l.getD k rawP0).a) (((l.getD k rawP0).d.nums).length) ((l.getD k rawP0).c), .string ((l.getD k rawP0).d.text)]), (13, elemPtr (.slice la l.length lc) (k * 2)), (12, .int .i64 ((k : Nat) : Int)), (11, .bool (decide (((k : Nat) : Int) < ((l.length : Nat) : Int)))), (10, .int .i64 ((k : Nat) : Int)), (9, .int .i64 ((l.length : Nat) : Int)), (8, .slice la l.length lc), (4, .slice none 0 0), (1, .slice by_a by_.length by_c)]) rfl ?_
      refine W.region ?_
      refine WL.op rfl (d_add rfl rfl (by omega) (by omega) ?_)
      refine WL.op rfl (d_move rfl ?_)
      refine WL.done ?_
      exact X.next [10, 9, 8, 5, 4, 1] (Γ' := [(10, .int .i64 (((k + 1) : Nat) : Int)), (9, .int .i64 ((l.length : Nat) : Int)), (8, .slice la l.length lc), (5, .slice a1 ((qs ++ ([⟨a2_1, c2_1, ⟨(l.getD k rawP0).d.nums, (l.getD k rawP0).d.text⟩⟩] : List RawP)).length) c1), (4, .slice none 0 0), (1, .slice by_a by_.length by_c)]) rfl (l.length - (k + 1)) (by omega) ⟨k + 1, qs ++ ([⟨a2_1, c2_1, ⟨(l.getD k rawP0).d.nums, (l.getD k rawP0).d.text⟩⟩] : List RawP), a1, c1, rfl, (UpG.of (G := [[manyF inRaw.row (qs ++ ([⟨a2_1, c2_1, ⟨(l.getD k rawP0).d.nums, (l.getD k rawP0).d.text⟩⟩] : List RawP))], [rowT tyRawP (.slice a1 ((qs ++ ([⟨a2_1, c2_1, ⟨(l.getD k rawP0).d.nums, (l.getD k rawP0).d.text⟩⟩] : List RawP)).length) c1) 53 (qs ++ ([⟨a2_1, c2_1, ⟨(l.getD k rawP0).d.nums, (l.getD k rawP0).d.text⟩⟩] : List RawP))]]) (Upd.sel H10 (M := [manyF inRaw.row (qs ++ ([⟨a2_1, c2_1, ⟨(l.getD k rawP0).d.nums, (l.getD k rawP0).d.text⟩⟩] : List RawP)), rowT tyRawP (.slice a1 ((qs ++ ([⟨a2_1, c2_1, ⟨(l.getD k rawP0).d.nums, (l.getD k rawP0).d.text⟩⟩] : List RawP)).length) c1) 53 (qs ++ ([⟨a2_1, c2_1, ⟨(l.getD k rawP0).d.nums, (l.getD k rawP0).d.text⟩⟩] : List RawP))]) (l := [0, 1]) rfl rfl) rfl), (by first | assumption | omega | simp), (by rw [mixD, ← hq, rds_get]; simp only [rds_app]; first | (rw [extraD, if_neg (by omega)]; simp [rdsOf]) | (rw [extraD, if_pos (by omega), if_neg (by omega), if_neg (by omega)]; simp [rdsOf]) | (rw [extraD, if_pos (by omega), if_pos (by omega)]; simp [rdsOf]) | (rw [extraD, if_pos (by omega), if_neg (by omega), if_pos (by omega)]; simp [rdsOf])), (by simp; omega), rfl⟩
    · skip
      refine WL.opG rfl rfl rfl (d_move rfl ?_)
      refine WL.opG rfl rfl rfl (d_move rfl ?_)
      refine WL.opG rfl rfl rfl (t_addr1 k (T := (tyI .i64)) rfl Try.underlying51 sz3 rfl rfl (rby_.at H10) rfl (by omega) ?_)
      refine WL.opG rfl rfl rfl (t_load1 k 0 (T := (tyI .i64)) rfl Try.underlying3 rfl rfl (rby_.at H10) (by omega) rfl ?_)
      refine WL.opG rfl rfl rfl (d_cmp (decide ((by_.getD k 0) = (0 : Int))) rfl rfl rfl ?_)
      refine WL.op rfl (d_pick rfl rfl ?_)
      refine WL.op rfl (d_assign rfl ?_)
      refine WL.done (X.then_code ?_)
      refine W.pick [29, 40, 39, 38, 37, 36, 35, 34, 33, 32, 31, 30, 5, 23, 22, 21, 18, 20, 19, 17, 16, 15, 6, 7, 14, 13, 12, 11, 10, 9, 8, 4, 1] (Γ' := [(29, .bool (decide ((by_.getD k 0) = (0 : Int)))), (40, .bool (decide ((by_.getD k 0) = (0 : Int)))), (39, .bool (decide ((by_.getD k 0) = (0 : Int)))), (38, .int .i64 (by_.getD k 0)), (37, elemPtr (.slice by_a by_.length by_c) k), (36, .int .i64 ((k : Nat) : Int)), (35, .slice by_a by_.length by_c), (34, .bool false), (33, .bool (decide (((k : Nat) : Int) ≥ ((by_.length : Nat) : Int)))), (32, .int .i64 ((by_.length : Nat) : Int)), (31, .slice by_a by_.length by_c), (30, .int .i64 ((k : Nat) : Int)), (5, .slice a1 ((qs ++ ([⟨a2_1, c2_1, ⟨(l.getD k rawP0).d.nums, (l.getD k rawP0).d.text⟩⟩] : List RawP)).length) c1), (23, .slice a1 ((qs ++ ([⟨a2_1, c2_1, ⟨(l.getD k rawP0).d.nums, (l.getD k rawP0).d.text⟩⟩] : List RawP)).length) c1), (22, .slice (some ⟨w5.heap.size, 0, none⟩) (([⟨a2_1, c2_1, ⟨(l.getD k rawP0).d.nums, (l.getD k rawP0).d.text⟩⟩] : List RawP).length) (([⟨a2_1, c2_1, ⟨(l.getD k rawP0).d.nums, (l.getD k rawP0).d.text⟩⟩] : List RawP).length)), (21, .agg #[.slice a2_1 (((l.getD k rawP0).d.nums).length) c2_1, .string ((l.getD k rawP0).d.text)]), (18, .slice a2_1 (((l.getD k rawP0).d.nums).length) c2_1), (20, .string ((l.getD k rawP0).d.text)), (19, .pointer (some ⟨w1.heap.size, 1, none⟩)), (17, .slice ((l.getD k rawP0).a) (((l.getD k rawP0).d.nums).length) ((l.getD k rawP0).c)), (16, .pointer (some ⟨w1.heap.size, 0, none⟩)), (15, .slice qa qs.length qc), (6, .int .i64 ((k : Nat) : Int)), (7, .pointer (some ⟨w1.heap.size, 0, none⟩)), (14, .agg #[.slice ((l.getD k rawP0).a) (((l.getD k rawP0).d.nums).length) ((l.getD k rawP0).c), .string ((l.getD k rawP0).d.text)]), (13, elemPtr (.slice la l.length lc) (k * 2)), (12, .int .i64 ((k : Nat) : Int)), (11, .bool (decide (((k : Nat) : Int) < ((l.length : Nat) : Int)))), (10, .int .i64 ((k : Nat) : Int)), (9, .int .i64 ((l.length : Nat) : Int)), (8, .slice la l.length lc), (4, .slice none 0 0), (1, .slice by_a by_.length by_c)]) rfl ?_
      refine W.ite (p := (by_.getD k 0) = (0 : Int)) rfl (fun c27 => ?_) (fun c27 => ?_)
      · skip
        refine W.skip (X.block_normal (X.block_normal (X.then_code ?_)))
        refine W.pick [29, 40, 39, 38, 37, 36, 35, 34, 33, 32, 31, 30, 5, 23, 22, 21, 18, 20, 19, 17, 16, 15, 6, 7, 14, 13, 12, 11, 10, 9, 8, 4, 1] (Γ' := [(29, .bool (decide ((by_.getD k 0) = (0 : Int)))), (40, .bool (decide ((by_.getD k 0) = (0 : Int)))), (39, .bool (decide ((by_.getD k 0) = (0 : Int)))), (38, .int .i64 (by_.getD k 0)), (37, elemPtr (.slice by_a by_.length by_c) k), (36, .int .i64 ((k : Nat) : Int)), (35, .slice by_a by_.length by_c), (34, .bool false), (33, .bool (decide (((k : Nat) : Int) ≥ ((by_.length : Nat) : Int)))), (32, .int .i64 ((by_.length : Nat) : Int)), (31, .slice by_a by_.length by_c), (30, .int .i64 ((k : Nat) : Int)), (5, .slice a1 ((qs ++ ([⟨a2_1, c2_1, ⟨(l.getD k rawP0).d.nums, (l.getD k rawP0).d.text⟩⟩] : List RawP)).length) c1), (23, .slice a1 ((qs ++ ([⟨a2_1, c2_1, ⟨(l.getD k rawP0).d.nums, (l.getD k rawP0).d.text⟩⟩] : List RawP)).length) c1), (22, .slice (some ⟨w5.heap.size, 0, none⟩) (([⟨a2_1, c2_1, ⟨(l.getD k rawP0).d.nums, (l.getD k rawP0).d.text⟩⟩] : List RawP).length) (([⟨a2_1, c2_1, ⟨(l.getD k rawP0).d.nums, (l.getD k rawP0).d.text⟩⟩] : List RawP).length)), (21, .agg #[.slice a2_1 (((l.getD k rawP0).d.nums).length) c2_1, .string ((l.getD k rawP0).d.text)]), (18, .slice a2_1 (((l.getD k rawP0).d.nums).length) c2_1), (20, .string ((l.getD k rawP0).d.text)), (19, .pointer (some ⟨w1.heap.size, 1, none⟩)), (17, .slice ((l.getD k rawP0).a) (((l.getD k rawP0).d.nums).length) ((l.getD k rawP0).c)), (16, .pointer (some ⟨w1.heap.size, 0, none⟩)), (15, .slice qa qs.length qc), (6, .int .i64 ((k : Nat) : Int)), (7, .pointer (some ⟨w1.heap.size, 0, none⟩)), (14, .agg #[.slice ((l.getD k rawP0).a) (((l.getD k rawP0).d.nums).length) ((l.getD k rawP0).c), .string ((l.getD k rawP0).d.text)]), (13, elemPtr (.slice la l.length lc) (k * 2)), (12, .int .i64 ((k : Nat) : Int)), (11, .bool (decide (((k : Nat) : Int) < ((l.length : Nat) : Int)))), (10, .int .i64 ((k : Nat) : Int)), (9, .int .i64 ((l.length : Nat) : Int)), (8, .slice la l.length lc), (4, .slice none 0 0), (1, .slice by_a by_.length by_c)]) rfl ?_
        refine W.region ?_
        refine WL.op rfl (d_add rfl rfl (by omega) (by omega) ?_)
        refine WL.op rfl (d_move rfl ?_)
        refine WL.done ?_
        exact X.next [10, 9, 8, 5, 4, 1] (Γ' := [(10, .int .i64 (((k + 1) : Nat) : Int)), (9, .int .i64 ((l.length : Nat) : Int)), (8, .slice la l.length lc), (5, .slice a1 ((qs ++ ([⟨a2_1, c2_1, ⟨(l.getD k rawP0).d.nums, (l.getD k rawP0).d.text⟩⟩] : List RawP)).length) c1), (4, .slice none 0 0), (1, .slice by_a by_.length by_c)]) rfl (l.length - (k + 1)) (by omega) ⟨k + 1, qs ++ ([⟨a2_1, c2_1, ⟨(l.getD k rawP0).d.nums, (l.getD k rawP0).d.text⟩⟩] : List RawP), a1, c1, rfl, (UpG.of (G := [[manyF inRaw.row (qs ++ ([⟨a2_1, c2_1, ⟨(l.getD k rawP0).d.nums, (l.getD k rawP0).d.text⟩⟩] : List RawP))], [rowT tyRawP (.slice a1 ((qs ++ ([⟨a2_1, c2_1, ⟨(l.getD k rawP0).d.nums, (l.getD k rawP0).d.text⟩⟩] : List RawP)).length) c1) 53 (qs ++ ([⟨a2_1, c2_1, ⟨(l.getD k rawP0).d.nums, (l.getD k rawP0).d.text⟩⟩] : List RawP))]]) (Upd.sel H10 (M := [manyF inRaw.row (qs ++ ([⟨a2_1, c2_1, ⟨(l.getD k rawP0).d.nums, (l.getD k rawP0).d.text⟩⟩] : List RawP)), rowT tyRawP (.slice a1 ((qs ++ ([⟨a2_1, c2_1, ⟨(l.getD k rawP0).d.nums, (l.getD k rawP0).d.text⟩⟩] : List RawP)).length) c1) 53 (qs ++ ([⟨a2_1, c2_1, ⟨(l.getD k rawP0).d.nums, (l.getD k rawP0).d.text⟩⟩] : List RawP))]) (l := [0, 1]) rfl rfl) rfl), (by first | assumption | omega | simp), (by rw [mixD, ← hq, rds_get]; simp only [rds_app]; first | (rw [extraD, if_neg (by omega)]; simp [rdsOf]) | (rw [extraD, if_pos (by omega), if_neg (by omega), if_neg (by omega)]; simp [rdsOf]) | (rw [extraD, if_pos (by omega), if_pos (by omega)]; simp [rdsOf]) | (rw [extraD, if_pos (by omega), if_neg (by omega), if_pos (by omega)]; simp [rdsOf])), (by simp; omega), rfl⟩
      · skip
        refine W.seq ?_
        refine W.region ?_
        refine WL.op rfl (d_move rfl ?_)
        refine WL.op rfl (d_move rfl ?_)
        refine WL.op rfl (t_addr1 k (T := (tyI .i64)) rfl Try.underlying51 sz3 rfl rfl (rby_.at H10) rfl (by omega) ?_)
        refine WL.op rfl (t_load1 k 0 (T := (tyI .i64)) rfl Try.underlying3 rfl rfl (rby_.at H10) (by omega) rfl ?_)
        refine WL.op rfl (d_cmp (decide ((by_.getD k 0) > (0 : Int))) rfl rfl rfl ?_)
        refine WL.op rfl (d_assign rfl ?_)
        refine WL.done (X.then_code ?_)
        refine W.pick [41, 46, 45, 44, 43, 42, 29, 40, 39, 38, 37, 36, 35, 34, 33, 32, 31, 30, 5, 23, 22, 21, 18, 20, 19, 17, 16, 15, 6, 7, 14, 13, 12, 11, 10, 9, 8, 4, 1] (Γ' := [(41, .bool (decide ((by_.getD k 0) > (0 : Int)))), (46, .bool (decide ((by_.getD k 0) > (0 : Int)))), (45, .int .i64 (by_.getD k 0)), (44, elemPtr (.slice by_a by_.length by_c) k), (43, .int .i64 ((k : Nat) : Int)), (42, .slice by_a by_.length by_c), (29, .bool (decide ((by_.getD k 0) = (0 : Int)))), (40, .bool (decide ((by_.getD k 0) = (0 : Int)))), (39, .bool (decide ((by_.getD k 0) = (0 : Int)))), (38, .int .i64 (by_.getD k 0)), (37, elemPtr (.slice by_a by_.length by_c) k), (36, .int .i64 ((k : Nat) : Int)), (35, .slice by_a by_.length by_c), (34, .bool false), (33, .bool (decide (((k : Nat) : Int) ≥ ((by_.length : Nat) : Int)))), (32, .int .i64 ((by_.length : Nat) : Int)), (31, .slice by_a by_.length by_c), (30, .int .i64 ((k : Nat) : Int)), (5, .slice a1 ((qs ++ ([⟨a2_1, c2_1, ⟨(l.getD k rawP0).d.nums, (l.getD k rawP0).d.text⟩⟩] : List RawP)).length) c1), (23, .slice a1 ((qs ++ ([⟨a2_1, c2_1, ⟨(l.getD k rawP0).d.nums, (l.getD k rawP0).d.text⟩⟩] : List RawP)).length) c1), (22, .slice (some ⟨w5.heap.size, 0, none⟩) (([⟨a2_1, c2_1, ⟨(l.getD k rawP0).d.nums, (l.getD k rawP0).d.text⟩⟩] : List RawP).length) (([⟨a2_1, c2_1, ⟨(l.getD k rawP0).d.nums, (l.getD k rawP0).d.text⟩⟩] : List RawP).length)), (21, .agg #[.slice a2_1 (((l.getD k rawP0).d.nums).length) c2_1, .string ((l.getD k rawP0).d.text)]), (18, .slice a2_1 (((l.getD k rawP0).d.nums).length) c2_1), (20, .string ((l.getD k rawP0).d.text)), (19, .pointer (some ⟨w1.heap.size, 1, none⟩)), (17, .slice ((l.getD k rawP0).a) (((l.getD k rawP0).d.nums).length) ((l.getD k rawP0).c)), (16, .pointer (some ⟨w1.heap.size, 0, none⟩)), (15, .slice qa qs.length qc), (6, .int .i64 ((k : Nat) : Int)), (7, .pointer (some ⟨w1.heap.size, 0, none⟩)), (14, .agg #[.slice ((l.getD k rawP0).a) (((l.getD k rawP0).d.nums).length) ((l.getD k rawP0).c), .string ((l.getD k rawP0).d.text)]), (13, elemPtr (.slice la l.length lc) (k * 2)), (12, .int .i64 ((k : Nat) : Int)), (11, .bool (decide (((k : Nat) : Int) < ((l.length : Nat) : Int)))), (10, .int .i64 ((k : Nat) : Int)), (9, .int .i64 ((l.length : Nat) : Int)), (8, .slice la l.length lc), (4, .slice none 0 0), (1, .slice by_a by_.length by_c)]) rfl ?_
        refine W.ite (p := (by_.getD k 0) > (0 : Int)) rfl (fun c28 => ?_) (fun c28 => ?_)
        · skip
          refine W.region ?_
          refine WL.op rfl (d_move rfl ?_)
          refine WL.op rfl (d_move rfl ?_)
          refine WL.op rfl (d_move rfl ?_)
          refine WL.op rfl (t_addr1 k (T := (tyI .i64)) rfl Try.underlying51 sz3 rfl rfl (rby_.at H10) rfl (by omega) ?_)
          refine WL.op rfl (t_load1 k 0 (T := (tyI .i64)) rfl Try.underlying3 rfl rfl (rby_.at H10) (by omega) rfl ?_)
          refine WL.op rfl (t_buildSlice (T := (tyI .i64)) (xs := [23, by_.getD k 0]) (cs := #[.int .i64 23, .int .i64 (by_.getD k 0)]) rfl Try.underlying51 sz3 rfl rfl rfl rfl (by kernel_rfl) rfl rfl fun w8 u6 => ?_)
          have H11 : UpG w [] w8 [[manyF inRaw.row (qs ++ [⟨a2_1, c2_1, ⟨(l.getD k rawP0).d.nums, (l.getD k rawP0).d.text⟩⟩])], [rowT tyRawP (.slice a1 ((qs ++ ([⟨a2_1, c2_1, ⟨(l.getD k rawP0).d.nums, (l.getD k rawP0).d.text⟩⟩] : List RawP)).length) c1) 53 (qs ++ ([⟨a2_1, c2_1, ⟨(l.getD k rawP0).d.nums, (l.getD k rawP0).d.text⟩⟩] : List RawP))], [blk w1.heap.size #[.slice ((l.getD k rawP0).a) (((l.getD k rawP0).d.nums).length) ((l.getD k rawP0).c), .string ((l.getD k rawP0).d.text)] 53], [], [], [rowT (tyI .i64) (.slice (some ⟨w7.heap.size, 0, none⟩) ([23, by_.getD k 0].length) ([23, by_.getD k 0].length)) 3 [23, by_.getD k 0]]] := H10.new' u6
          refine WL.op rfl (d_build (cs := #[.slice (some ⟨w7.heap.size, 0, none⟩) ([23, by_.getD k 0].length) ([23, by_.getD k 0].length), .string ⟨#[]⟩]) rfl (by kernel_rfl) ?_)
          refine WL.op rfl (t_buildSlice (T := tyRawP) (xs := ([⟨(some ⟨w7.heap.size, 0, none⟩), [23, by_.getD k 0].length, ⟨[23, by_.getD k 0], ⟨#[]⟩⟩⟩] : List RawP)) (cs := #[.slice (some ⟨w7.heap.size, 0, none⟩) ([23, by_.getD k 0].length) ([23, by_.getD k 0].length), .string ⟨#[]⟩]) rfl Try.underlying70 sz53 rfl rfl rfl rfl (by kernel_rfl) rfl rfl fun w9 u7 => ?_)
          have H12 : UpG w [] w9 [[manyF inRaw.row (qs ++ [⟨a2_1, c2_1, ⟨(l.getD k rawP0).d.nums, (l.getD k rawP0).d.text⟩⟩])], [rowT tyRawP (.slice a1 ((qs ++ ([⟨a2_1, c2_1, ⟨(l.getD k rawP0).d.nums, (l.getD k rawP0).d.text⟩⟩] : List RawP)).length) c1) 53 (qs ++ ([⟨a2_1, c2_1, ⟨(l.getD k rawP0).d.nums, (l.getD k rawP0).d.text⟩⟩] : List RawP))], [blk w1.heap.size #[.slice ((l.getD k rawP0).a) (((l.getD k rawP0).d.nums).length) ((l.getD k rawP0).c), .string ((l.getD k rawP0).d.text)] 53], [], [], [rowT (tyI .i64) (.slice (some ⟨w7.heap.size, 0, none⟩) ([23, by_.getD k 0].length) ([23, by_.getD k 0].length)) 3 [23, by_.getD k 0]], [rowT tyRawP (.slice (some ⟨w8.heap.size, 0, none⟩) (([⟨(some ⟨w7.heap.size, 0, none⟩), [23, by_.getD k 0].length, ⟨[23, by_.getD k 0], ⟨#[]⟩⟩⟩] : List RawP).length) (([⟨(some ⟨w7.heap.size, 0, none⟩), [23, by_.getD k 0].length, ⟨[23, by_.getD k 0], ⟨#[]⟩⟩⟩] : List RawP).length)) 53 ([⟨(some ⟨w7.heap.size, 0, none⟩), [23, by_.getD k 0].length, ⟨[23, by_.getD k 0], ⟨#[]⟩⟩⟩] : List RawP)]] := H11.new' u7
          refine WL.op rfl (t_append (T := tyRawP) (xs := (qs ++ ([⟨a2_1, c2_1, ⟨(l.getD k rawP0).d.nums, (l.getD k rawP0).d.text⟩⟩] : List RawP))) (ys := ([⟨(some ⟨w7.heap.size, 0, none⟩), [23, by_.getD k 0].length, ⟨[23, by_.getD k 0], ⟨#[]⟩⟩⟩] : List RawP)) rfl Try.underlying70 sz53 rfl rfl rfl (H12.ownT 1 rfl) (H12.rdT 6 rfl) (by simp; omega) (by simp; omega) fun a2 c2 w10 u8 => ?_)
          have H13 : UpG w [] w10 [[manyF inRaw.row (qs ++ [⟨a2_1, c2_1, ⟨(l.getD k rawP0).d.nums, (l.getD k rawP0).d.text⟩⟩])], [rowT tyRawP (.slice a2 (((qs ++ ([⟨a2_1, c2_1, ⟨(l.getD k rawP0).d.nums, (l.getD k rawP0).d.text⟩⟩] : List RawP)) ++ ([⟨(some ⟨w7.heap.size, 0, none⟩), [23, by_.getD k 0].length, ⟨[23, by_.getD k 0], ⟨#[]⟩⟩⟩] : List RawP)).length) c2) 53 ((qs ++ ([⟨a2_1, c2_1, ⟨(l.getD k rawP0).d.nums, (l.getD k rawP0).d.text⟩⟩] : List RawP)) ++ ([⟨(some ⟨w7.heap.size, 0, none⟩), [23, by_.getD k 0].length, ⟨[23, by_.getD k 0], ⟨#[]⟩⟩⟩] : List RawP))], [blk w1.heap.size #[.slice ((l.getD k rawP0).a) (((l.getD k rawP0).d.nums).length) ((l.getD k rawP0).c), .string ((l.getD k rawP0).d.text)] 53], [], [], [rowT (tyI .i64) (.slice (some ⟨w7.heap.size, 0, none⟩) ([23, by_.getD k 0].length) ([23, by_.getD k 0].length)) 3 [23, by_.getD k 0]], []] := (H12.on 1 rfl u8).drop 6
          have H14 : UpG w [] w10 [[manyF inRaw.row ((qs ++ [⟨a2_1, c2_1, ⟨(l.getD k rawP0).d.nums, (l.getD k rawP0).d.text⟩⟩]) ++ [⟨(some ⟨w7.heap.size, 0, none⟩), [23, by_.getD k 0].length, ⟨[23, by_.getD k 0], ⟨#[]⟩⟩⟩])], [rowT tyRawP (.slice a2 (((qs ++ ([⟨a2_1, c2_1, ⟨(l.getD k rawP0).d.nums, (l.getD k rawP0).d.text⟩⟩] : List RawP)) ++ ([⟨(some ⟨w7.heap.size, 0, none⟩), [23, by_.getD k 0].length, ⟨[23, by_.getD k 0], ⟨#[]⟩⟩⟩] : List RawP)).length) c2) 53 ((qs ++ ([⟨a2_1, c2_1, ⟨(l.getD k rawP0).d.nums, (l.getD k rawP0).d.text⟩⟩] : List RawP)) ++ ([⟨(some ⟨w7.heap.size, 0, none⟩), [23, by_.getD k 0].length, ⟨[23, by_.getD k 0], ⟨#[]⟩⟩⟩] : List RawP))], [blk w1.heap.size #[.slice ((l.getD k rawP0).a) (((l.getD k rawP0).d.nums).length) ((l.getD k rawP0).c), .string ((l.getD k rawP0).d.text)] 53], [], [], [], []] := (UpG.absorb (f := inRaw.row) (⟨(some ⟨w7.heap.size, 0, none⟩), [23, by_.getD k 0].length, ⟨[23, by_.getD k 0], ⟨#[]⟩⟩⟩ : RawP) H13 0 5 rfl rfl rfl).re rfl
          refine WL.op rfl (d_assign rfl ?_)
          refine WL.done (X.block_normal (X.block_normal (X.then_code ?_)))
          refine W.pick [5, 55, 54, 53, 52, 51, 50, 49, 48, 47, 41, 46, 45, 44, 43, 42, 29, 40, 39, 38, 37, 36, 35, 34, 33, 32, 31, 30, 23, 22, 21, 18, 20, 19, 17, 16, 15, 6, 7, 14, 13, 12, 11, 10, 9, 8, 4, 1] (Γ' := [(5, .slice a2 (((qs ++ ([⟨a2_1, c2_1, ⟨(l.getD k rawP0).d.nums, (l.getD k rawP0).d.text⟩⟩] : List RawP)) ++ ([⟨(some ⟨w7.heap.size, 0, none⟩), [23, by_.getD k 0].length, ⟨[23, by_.getD k 0], ⟨#[]⟩⟩⟩] : List RawP)).length) c2), (55, .slice a2 (((qs ++ ([⟨a2_1, c2_1, ⟨(l.getD k rawP0).d.nums, (l.getD k rawP0).d.text⟩⟩] : List RawP)) ++ ([⟨(some ⟨w7.heap.size, 0, none⟩), [23, by_.getD k 0].length, ⟨[23, by_.getD k 0], ⟨#[]⟩⟩⟩] : List RawP)).length) c2), (54, .slice (some ⟨w8.heap.size, 0, none⟩) (([⟨(some ⟨w7.heap.size, 0, none⟩), [23, by_.getD k 0].length, ⟨[23, by_.getD k 0], ⟨#[]⟩⟩⟩] : List RawP).length) (([⟨(some ⟨w7.heap.size, 0, none⟩), [23, by_.getD k 0].length, ⟨[23, by_.getD k 0], ⟨#[]⟩⟩⟩] : List RawP).length)), (53, .agg #[.slice (some ⟨w7.heap.size, 0, none⟩) ([23, by_.getD k 0].length) ([23, by_.getD k 0].length), .string ⟨#[]⟩]), (52, .slice (some ⟨w7.heap.size, 0, none⟩) ([23, by_.getD k 0].length) ([23, by_.getD k 0].length)), (51, .int .i64 (by_.getD k 0)), (50, elemPtr (.slice by_a by_.length by_c) k), (49, .int .i64 ((k : Nat) : Int)), (48, .slice by_a by_.length by_c), (47, .slice a1 ((qs ++ ([⟨a2_1, c2_1, ⟨(l.getD k rawP0).d.nums, (l.getD k rawP0).d.text⟩⟩] : List RawP)).length) c1), (41, .bool (decide ((by_.getD k 0) > (0 : Int)))), (46, .bool (decide ((by_.getD k 0) > (0 : Int)))), (45, .int .i64 (by_.getD k 0)), (44, elemPtr (.slice by_a by_.length by_c) k), (43, .int .i64 ((k : Nat) : Int)), (42, .slice by_a by_.length by_c), (29, .bool (decide ((by_.getD k 0) = (0 : Int)))), (40, .bool (decide ((by_.getD k 0) = (0 : Int)))), (39, .bool (decide ((by_.getD k 0) = (0 : Int)))), (38, .int .i64 (by_.getD k 0)), (37, elemPtr (.slice by_a by_.length by_c) k), (36, .int .i64 ((k : Nat) : Int)), (35, .slice by_a by_.length by_c), (34, .bool false), (33, .bool (decide (((k : Nat) : Int) ≥ ((by_.length : Nat) : Int)))), (32, .int .i64 ((by_.length : Nat) : Int)), (31, .slice by_a by_.length by_c), (30, .int .i64 ((k : Nat) : Int)), (23, .slice a1 ((qs ++ ([⟨a2_1, c2_1, ⟨(l.getD k rawP0).d.nums, (l.getD k rawP0).d.text⟩⟩] : List RawP)).length) c1), (22, .slice (some ⟨w5.heap.size, 0, none⟩) (([⟨a2_1, c2_1, ⟨(l.getD k rawP0).d.nums, (l.getD k rawP0).d.text⟩⟩] : List RawP).length) (([⟨a2_1, c2_1, ⟨(l.getD k rawP0).d.nums, (l.getD k rawP0).d.text⟩⟩] : List RawP).length)), (21, .agg #[.slice a2_1 (((l.getD k rawP0).d.nums).length) c2_1, .string ((l.getD k rawP0).d.text)]), (18, .slice a2_1 (((l.getD k rawP0).d.nums).length) c2_1), (20, .string ((l.getD k rawP0).d.text)), (19, .pointer (some ⟨w1.heap.size, 1, none⟩)), (17, .slice ((l.getD k rawP0).a) (((l.getD k rawP0).d.nums).length) ((l.getD k rawP0).c)), (16, .pointer (some ⟨w1.heap.size, 0, none⟩)), (15, .slice qa qs.length qc), (6, .int .i64 ((k : Nat) : Int)), (7, .pointer (some ⟨w1.heap.size, 0, none⟩)), (14, .agg #[.slice ((l.getD k rawP0).a) (((l.getD k rawP0).d.nums).length) ((l.getD k rawP0).c), .string ((l.getD k rawP0).d.text)]), (13, elemPtr (.slice la l.length lc) (k * 2)), (12, .int .i64 ((k : Nat) : Int)), (11, .bool (decide (((k : Nat) : Int) < ((l.length : Nat) : Int)))), (10, .int .i64 ((k : Nat) : Int)), (9, .int .i64 ((l.length : Nat) : Int)), (8, .slice la l.length lc), (4, .slice none 0 0), (1, .slice by_a by_.length by_c)]) rfl ?_
          refine W.region ?_
          refine WL.op rfl (d_add rfl rfl (by omega) (by omega) ?_)
          refine WL.op rfl (d_move rfl ?_)
          refine WL.done ?_
          exact X.next [10, 9, 8, 5, 4, 1] (Γ' := [(10, .int .i64 (((k + 1) : Nat) : Int)), (9, .int .i64 ((l.length : Nat) : Int)), (8, .slice la l.length lc), (5, .slice a2 (((qs ++ ([⟨a2_1, c2_1, ⟨(l.getD k rawP0).d.nums, (l.getD k rawP0).d.text⟩⟩] : List RawP)) ++ ([⟨(some ⟨w7.heap.size, 0, none⟩), [23, by_.getD k 0].length, ⟨[23, by_.getD k 0], ⟨#[]⟩⟩⟩] : List RawP)).length) c2), (4, .slice none 0 0), (1, .slice by_a by_.length by_c)]) rfl (l.length - (k + 1)) (by omega) ⟨k + 1, (qs ++ ([⟨a2_1, c2_1, ⟨(l.getD k rawP0).d.nums, (l.getD k rawP0).d.text⟩⟩] : List RawP)) ++ ([⟨(some ⟨w7.heap.size, 0, none⟩), [23, by_.getD k 0].length, ⟨[23, by_.getD k 0], ⟨#[]⟩⟩⟩] : List RawP), a2, c2, rfl, (UpG.of (G := [[manyF inRaw.row ((qs ++ ([⟨a2_1, c2_1, ⟨(l.getD k rawP0).d.nums, (l.getD k rawP0).d.text⟩⟩] : List RawP)) ++ ([⟨(some ⟨w7.heap.size, 0, none⟩), [23, by_.getD k 0].length, ⟨[23, by_.getD k 0], ⟨#[]⟩⟩⟩] : List RawP))], [rowT tyRawP (.slice a2 (((qs ++ ([⟨a2_1, c2_1, ⟨(l.getD k rawP0).d.nums, (l.getD k rawP0).d.text⟩⟩] : List RawP)) ++ ([⟨(some ⟨w7.heap.size, 0, none⟩), [23, by_.getD k 0].length, ⟨[23, by_.getD k 0], ⟨#[]⟩⟩⟩] : List RawP)).length) c2) 53 ((qs ++ ([⟨a2_1, c2_1, ⟨(l.getD k rawP0).d.nums, (l.getD k rawP0).d.text⟩⟩] : List RawP)) ++ ([⟨(some ⟨w7.heap.size, 0, none⟩), [23, by_.getD k 0].length, ⟨[23, by_.getD k 0], ⟨#[]⟩⟩⟩] : List RawP))]]) (Upd.sel H14 (M := [manyF inRaw.row ((qs ++ ([⟨a2_1, c2_1, ⟨(l.getD k rawP0).d.nums, (l.getD k rawP0).d.text⟩⟩] : List RawP)) ++ ([⟨(some ⟨w7.heap.size, 0, none⟩), [23, by_.getD k 0].length, ⟨[23, by_.getD k 0], ⟨#[]⟩⟩⟩] : List RawP)), rowT tyRawP (.slice a2 (((qs ++ ([⟨a2_1, c2_1, ⟨(l.getD k rawP0).d.nums, (l.getD k rawP0).d.text⟩⟩] : List RawP)) ++ ([⟨(some ⟨w7.heap.size, 0, none⟩), [23, by_.getD k 0].length, ⟨[23, by_.getD k 0], ⟨#[]⟩⟩⟩] : List RawP)).length) c2) 53 ((qs ++ ([⟨a2_1, c2_1, ⟨(l.getD k rawP0).d.nums, (l.getD k rawP0).d.text⟩⟩] : List RawP)) ++ ([⟨(some ⟨w7.heap.size, 0, none⟩), [23, by_.getD k 0].length, ⟨[23, by_.getD k 0], ⟨#[]⟩⟩⟩] : List RawP))]) (l := [0, 1]) rfl rfl) rfl), (by first | assumption | omega | simp), (by rw [mixD, ← hq, rds_get]; simp only [rds_app]; first | (rw [extraD, if_neg (by omega)]; simp [rdsOf]) | (rw [extraD, if_pos (by omega), if_neg (by omega), if_neg (by omega)]; simp [rdsOf]) | (rw [extraD, if_pos (by omega), if_pos (by omega)]; simp [rdsOf]) | (rw [extraD, if_pos (by omega), if_neg (by omega), if_pos (by omega)]; simp [rdsOf])), (by simp; omega), rfl⟩
        · skip
          refine W.region ?_
          refine WL.op rfl (d_move rfl ?_)
          refine WL.op rfl (t_buildSlice (T := (tyI .i64)) (xs := [24]) (cs := #[.int .i64 24]) rfl Try.underlying51 sz3 rfl rfl rfl rfl (by kernel_rfl) rfl rfl fun w11 u9 => ?_)
          have H15 : UpG w [] w11 [[manyF inRaw.row (qs ++ [⟨a2_1, c2_1, ⟨(l.getD k rawP0).d.nums, (l.getD k rawP0).d.text⟩⟩])], [rowT tyRawP (.slice a1 ((qs ++ ([⟨a2_1, c2_1, ⟨(l.getD k rawP0).d.nums, (l.getD k rawP0).d.text⟩⟩] : List RawP)).length) c1) 53 (qs ++ ([⟨a2_1, c2_1, ⟨(l.getD k rawP0).d.nums, (l.getD k rawP0).d.text⟩⟩] : List RawP))], [blk w1.heap.size #[.slice ((l.getD k rawP0).a) (((l.getD k rawP0).d.nums).length) ((l.getD k rawP0).c), .string ((l.getD k rawP0).d.text)] 53], [], [], [rowT (tyI .i64) (.slice (some ⟨w7.heap.size, 0, none⟩) ([24].length) ([24].length)) 3 [24]]] := H10.new' u9
          refine WL.op rfl (d_build (cs := #[.slice (some ⟨w7.heap.size, 0, none⟩) ([24].length) ([24].length), .string ⟨#[]⟩]) rfl (by kernel_rfl) ?_)
          refine WL.op rfl (t_buildSlice (T := tyRawP) (xs := ([⟨(some ⟨w7.heap.size, 0, none⟩), [24].length, ⟨[24], ⟨#[]⟩⟩⟩] : List RawP)) (cs := #[.slice (some ⟨w7.heap.size, 0, none⟩) ([24].length) ([24].length), .string ⟨#[]⟩]) rfl Try.underlying70 sz53 rfl rfl rfl rfl (by kernel_rfl) rfl rfl fun w12 u10 => ?_)
          have H16 : UpG w [] w12 [[manyF inRaw.row (qs ++ [⟨a2_1, c2_1, ⟨(l.getD k rawP0).d.nums, (l.getD k rawP0).d.text⟩⟩])], [rowT tyRawP (.slice a1 ((qs ++ ([⟨a2_1, c2_1, ⟨(l.getD k rawP0).d.nums, (l.getD k rawP0).d.text⟩⟩] : List RawP)).length) c1) 53 (qs ++ ([⟨a2_1, c2_1, ⟨(l.getD k rawP0).d.nums, (l.getD k rawP0).d.text⟩⟩] : List RawP))], [blk w1.heap.size #[.slice ((l.getD k rawP0).a) (((l.getD k rawP0).d.nums).length) ((l.getD k rawP0).c), .string ((l.getD k rawP0).d.text)] 53], [], [], [rowT (tyI .i64) (.slice (some ⟨w7.heap.size, 0, none⟩) ([24].length) ([24].length)) 3 [24]], [rowT tyRawP (.slice (some ⟨w11.heap.size, 0, none⟩) (([⟨(some ⟨w7.heap.size, 0, none⟩), [24].length, ⟨[24], ⟨#[]⟩⟩⟩] : List RawP).length) (([⟨(some ⟨w7.heap.size, 0, none⟩), [24].length, ⟨[24], ⟨#[]⟩⟩⟩] : List RawP).length)) 53 ([⟨(some ⟨w7.heap.size, 0, none⟩), [24].length, ⟨[24], ⟨#[]⟩⟩⟩] : List RawP)]] := H15.new' u10
          refine WL.op rfl (t_append (T := tyRawP) (xs := (qs ++ ([⟨a2_1, c2_1, ⟨(l.getD k rawP0).d.nums, (l.getD k rawP0).d.text⟩⟩] : List RawP))) (ys := ([⟨(some ⟨w7.heap.size, 0, none⟩), [24].length, ⟨[24], ⟨#[]⟩⟩⟩] : List RawP)) rfl Try.underlying70 sz53 rfl rfl rfl (H16.ownT 1 rfl) (H16.rdT 6 rfl) (by simp; omega) (by simp; omega) fun a3 c3 w13 u11 => ?_)
          have H17 : UpG w [] w13 [[manyF inRaw.row (qs ++ [⟨a2_1, c2_1, ⟨(l.getD k rawP0).d.nums, (l.getD k rawP0).d.text⟩⟩])], [rowT tyRawP (.slice a3 (((qs ++ ([⟨a2_1, c2_1, ⟨(l.getD k rawP0).d.nums, (l.getD k rawP0).d.text⟩⟩] : List RawP)) ++ ([⟨(some ⟨w7.heap.size, 0, none⟩), [24].length, ⟨[24], ⟨#[]⟩⟩⟩] : List RawP)).length) c3) 53 ((qs ++ ([⟨a2_1, c2_1, ⟨(l.getD k rawP0).d.nums, (l.getD k rawP0).d.text⟩⟩] : List RawP)) ++ ([⟨(some ⟨w7.heap.size, 0, none⟩), [24].length, ⟨[24], ⟨#[]⟩⟩⟩] : List RawP))], [blk w1.heap.size #[.slice ((l.getD k rawP0).a) (((l.getD k rawP0).d.nums).length) ((l.getD k rawP0).c), .string ((l.getD k rawP0).d.text)] 53], [], [], [rowT (tyI .i64) (.slice (some ⟨w7.heap.size, 0, none⟩) ([24].length) ([24].length)) 3 [24]], []] := (H16.on 1 rfl u11).drop 6
          have H18 : UpG w [] w13 [[manyF inRaw.row ((qs ++ [⟨a2_1, c2_1, ⟨(l.getD k rawP0).d.nums, (l.getD k rawP0).d.text⟩⟩]) ++ [⟨(some ⟨w7.heap.size, 0, none⟩), [24].length, ⟨[24], ⟨#[]⟩⟩⟩])], [rowT tyRawP (.slice a3 (((qs ++ ([⟨a2_1, c2_1, ⟨(l.getD k rawP0).d.nums, (l.getD k rawP0).d.text⟩⟩] : List RawP)) ++ ([⟨(some ⟨w7.heap.size, 0, none⟩), [24].length, ⟨[24], ⟨#[]⟩⟩⟩] : List RawP)).length) c3) 53 ((qs ++ ([⟨a2_1, c2_1, ⟨(l.getD k rawP0).d.nums, (l.getD k rawP0).d.text⟩⟩] : List RawP)) ++ ([⟨(some ⟨w7.heap.size, 0, none⟩), [24].length, ⟨[24], ⟨#[]⟩⟩⟩] : List RawP))], [blk w1.heap.size #[.slice ((l.getD k rawP0).a) (((l.getD k rawP0).d.nums).length) ((l.getD k rawP0).c), .string ((l.getD k rawP0).d.text)] 53], [], [], [], []] := (UpG.absorb (f := inRaw.row) (⟨(some ⟨w7.heap.size, 0, none⟩), [24].length, ⟨[24], ⟨#[]⟩⟩⟩ : RawP) H17 0 5 rfl rfl rfl).re rfl
          refine WL.op rfl (d_assign rfl ?_)
          refine WL.done (X.block_normal (X.block_normal (X.then_code ?_)))
          refine W.pick [5, 28, 27, 26, 25, 24, 41, 46, 45, 44, 43, 42, 29, 40, 39, 38, 37, 36, 35, 34, 33, 32, 31, 30, 23, 22, 21, 18, 20, 19, 17, 16, 15, 6, 7, 14, 13, 12, 11, 10, 9, 8, 4, 1] (Γ' := [(5, .slice a3 (((qs ++ ([⟨a2_1, c2_1, ⟨(l.getD k rawP0).d.nums, (l.getD k rawP0).d.text⟩⟩] : List RawP)) ++ ([⟨(some ⟨w7.heap.size, 0, none⟩), [24].length, ⟨[24], ⟨#[]⟩⟩⟩] : List RawP)).length) c3), (28, .slice a3 (((qs ++ ([⟨a2_1, c2_1, ⟨(l.getD k rawP0).d.nums, (l.getD k rawP0).d.text⟩⟩] : List RawP)) ++ ([⟨(some ⟨w7.heap.size, 0, none⟩), [24].length, ⟨[24], ⟨#[]⟩⟩⟩] : List RawP)).length) c3), (27, .slice (some ⟨w11.heap.size, 0, none⟩) (([⟨(some ⟨w7.heap.size, 0, none⟩), [24].length, ⟨[24], ⟨#[]⟩⟩⟩] : List RawP).length) (([⟨(some ⟨w7.heap.size, 0, none⟩), [24].length, ⟨[24], ⟨#[]⟩⟩⟩] : List RawP).length)), (26, .agg #[.slice (some ⟨w7.heap.size, 0, none⟩) ([24].length) ([24].length), .string ⟨#[]⟩]), (25, .slice (some ⟨w7.heap.size, 0, none⟩) ([24].length) ([24].length)), (24, .slice a1 ((qs ++ ([⟨a2_1, c2_1, ⟨(l.getD k rawP0).d.nums, (l.getD k rawP0).d.text⟩⟩] : List RawP)).length) c1), (41, .bool (decide ((by_.getD k 0) > (0 : Int)))), (46, .bool (decide ((by_.getD k 0) > (0 : Int)))), (45, .int .i64 (by_.getD k 0)), (44, elemPtr (.slice by_a by_.length by_c) k), (43, .int .i64 ((k : Nat) : Int)), (42, .slice by_a by_.length by_c), (29, .bool (decide ((by_.getD k 0) = (0 : Int)))), (40, .bool (decide ((by_.getD k 0) = (0 : Int)))), (39, .bool (decide ((by_.getD k 0) = (0 : Int)))), (38, .int .i64 (by_.getD k 0)), (37, elemPtr (.slice by_a by_.length by_c) k), (36, .int .i64 ((k : Nat) : Int)), (35, .slice by_a by_.length by_c), (34, .bool false), (33, .bool (decide (((k : Nat) : Int) ≥ ((by_.length : Nat) : Int)))), (32, .int .i64 ((by_.length : Nat) : Int)), (31, .slice by_a by_.length by_c), (30, .int .i64 ((k : Nat) : Int)), (23, .slice a1 ((qs ++ ([⟨a2_1, c2_1, ⟨(l.getD k rawP0).d.nums, (l.getD k rawP0).d.text⟩⟩] : List RawP)).length) c1), (22, .slice (some ⟨w5.heap.size, 0, none⟩) (([⟨a2_1, c2_1, ⟨(l.getD k rawP0).d.nums, (l.getD k rawP0).d.text⟩⟩] : List RawP).length) (([⟨a2_1, c2_1, ⟨(l.getD k rawP0).d.nums, (l.getD k rawP0).d.text⟩⟩] : List RawP).length)), (21, .agg #[.slice a2_1 (((l.getD k rawP0).d.nums).length) c2_1, .string ((l.getD k rawP0).d.text)]), (18, .slice a2_1 (((l.getD k rawP0).d.nums).length) c2_1), (20, .string ((l.getD k rawP0).d.text)), (19, .pointer (some ⟨w1.heap.size, 1, none⟩)), (17, .slice ((l.getD k rawP0).a) (((l.getD k rawP0).d.nums).length) ((l.getD k rawP0).c)), (16, .pointer (some ⟨w1.heap.size, 0, none⟩)), (15, .slice qa qs.length qc), (6, .int .i64 ((k : Nat) : Int)), (7, .pointer (some ⟨w1.heap.size, 0, none⟩)), (14, .agg #[.slice ((l.getD k rawP0).a) (((l.getD k rawP0).d.nums).length) ((l.getD k rawP0).c), .string ((l.getD k rawP0).d.text)]), (13, elemPtr (.slice la l.length lc) (k * 2)), (12, .int .i64 ((k : Nat) : Int)), (11, .bool (decide (((k : Nat) : Int) < ((l.length : Nat) : Int)))), (10, .int .i64 ((k : Nat) : Int)), (9, .int .i64 ((l.length : Nat) : Int)), (8, .slice la l.length lc), (4, .slice none 0 0), (1, .slice by_a by_.length by_c)]) rfl ?_
          refine W.region ?_
          refine WL.op rfl (d_add rfl rfl (by omega) (by omega) ?_)
          refine WL.op rfl (d_move rfl ?_)
          refine WL.done ?_
          exact X.next [10, 9, 8, 5, 4, 1] (Γ' := [(10, .int .i64 (((k + 1) : Nat) : Int)), (9, .int .i64 ((l.length : Nat) : Int)), (8, .slice la l.length lc), (5, .slice a3 (((qs ++ ([⟨a2_1, c2_1, ⟨(l.getD k rawP0).d.nums, (l.getD k rawP0).d.text⟩⟩] : List RawP)) ++ ([⟨(some ⟨w7.heap.size, 0, none⟩), [24].length, ⟨[24], ⟨#[]⟩⟩⟩] : List RawP)).length) c3), (4, .slice none 0 0), (1, .slice by_a by_.length by_c)]) rfl (l.length - (k + 1)) (by omega) ⟨k + 1, (qs ++ ([⟨a2_1, c2_1, ⟨(l.getD k rawP0).d.nums, (l.getD k rawP0).d.text⟩⟩] : List RawP)) ++ ([⟨(some ⟨w7.heap.size, 0, none⟩), [24].length, ⟨[24], ⟨#[]⟩⟩⟩] : List RawP), a3, c3, rfl, (UpG.of (G := [[manyF inRaw.row ((qs ++ ([⟨a2_1, c2_1, ⟨(l.getD k rawP0).d.nums, (l.getD k rawP0).d.text⟩⟩] : List RawP)) ++ ([⟨(some ⟨w7.heap.size, 0, none⟩), [24].length, ⟨[24], ⟨#[]⟩⟩⟩] : List RawP))], [rowT tyRawP (.slice a3 (((qs ++ ([⟨a2_1, c2_1, ⟨(l.getD k rawP0).d.nums, (l.getD k rawP0).d.text⟩⟩] : List RawP)) ++ ([⟨(some ⟨w7.heap.size, 0, none⟩), [24].length, ⟨[24], ⟨#[]⟩⟩⟩] : List RawP)).length) c3) 53 ((qs ++ ([⟨a2_1, c2_1, ⟨(l.getD k rawP0).d.nums, (l.getD k rawP0).d.text⟩⟩] : List RawP)) ++ ([⟨(some ⟨w7.heap.size, 0, none⟩), [24].length, ⟨[24], ⟨#[]⟩⟩⟩] : List RawP))]]) (Upd.sel H18 (M := [manyF inRaw.row ((qs ++ ([⟨a2_1, c2_1, ⟨(l.getD k rawP0).d.nums, (l.getD k rawP0).d.text⟩⟩] : List RawP)) ++ ([⟨(some ⟨w7.heap.size, 0, none⟩), [24].length, ⟨[24], ⟨#[]⟩⟩⟩] : List RawP)), rowT tyRawP (.slice a3 (((qs ++ ([⟨a2_1, c2_1, ⟨(l.getD k rawP0).d.nums, (l.getD k rawP0).d.text⟩⟩] : List RawP)) ++ ([⟨(some ⟨w7.heap.size, 0, none⟩), [24].length, ⟨[24], ⟨#[]⟩⟩⟩] : List RawP)).length) c3) 53 ((qs ++ ([⟨a2_1, c2_1, ⟨(l.getD k rawP0).d.nums, (l.getD k rawP0).d.text⟩⟩] : List RawP)) ++ ([⟨(some ⟨w7.heap.size, 0, none⟩), [24].length, ⟨[24], ⟨#[]⟩⟩⟩] : List RawP))]) (l := [0, 1]) rfl rfl) rfl), (by first | assumption | omega | simp), (by rw [mixD, ← hq, rds_get]; simp only [rds_app]; first | (rw [extraD, if_neg (by omega)]; simp [rdsOf]) | (rw [extraD, if_pos (by omega), if_neg (by omega), if_neg (by omega)]; simp [rdsOf]) | (rw [extraD, if_pos (by omega), if_pos (by omega)]; simp [rdsOf]) | (rw [extraD, if_pos (by omega), if_neg (by omega), if_pos (by omega)]; simp [rdsOf])), (by simp; omega), rfl⟩
  · skip
    refine W.exit (X.then_exit (X.then_exit (X.block_exit (X.then_code ?_))))
    refine W.seq ?_
    refine W.region ?_
    refine WL.op rfl (d_move rfl ?_)
    refine WL.op rfl (d_assign rfl ?_)
    refine WL.done (X.then_code ?_)
    refine W.ret (X.ret1 rfl rfl ?_)
    exact ⟨qa, qs, qc, rfl, (Upd.sel H3 (l := [1, 0]) rfl rfl), (by rw [hq, show k = l.length by omega])⟩

set_option maxRecDepth 20000 in
theorem refMix_any (la : Option Addr) (l : List RawP) (lc : Nat) (by_a : Option Addr) (by_ : List Int) (by_c : Nat) (w : World) (rl : RdT tyRawP w (.slice la l.length lc) l) (rby_ : RdT (tyI .i64) w (.slice by_a by_.length by_c) by_) (dl : inRaw.Rd w l) (hll : l.length ≤ 1000) :
    Calls Try.prog 37 #[.slice la l.length lc, .slice by_a by_.length by_c] w (Ret fun v w' => ∃ a2 : Option Addr, ∃ qs : List RawP, ∃ c2 : Nat, ∃ ns : List RawP, v = .slice a2 qs.length c2 ∧ Upd w [] w' [rowT tyRawP (.slice a2 qs.length c2) 53 qs, manyF inRaw.row ns] ∧ (rdsOf qs = mixD (rdsOf l) by_ l.length) ∧ (∀ q, q ∈ qs → q ∈ l ∨ q ∈ ns) ∧ (qs.length ≤ 2 * l.length)) := by
  have le_rl := rl.le
  have le_rby_ := rby_.le
  refine calls_of_W (args := [.slice la l.length lc, .slice by_a by_.length by_c]) Try.func37 rfl rfl rfl ?_
  have H0 : UpG w [] w [] := UpG.nil w
  show W _ _ _ _ [(0, .slice la l.length lc), (1, .slice by_a by_.length by_c)] w
  refine W.seq ?_
  refine W.region ?_
  refine WL.op rfl (d_assign rfl ?_)
  refine WL.done (X.then_code ?_)
  refine W.seq ?_
  refine W.region ?_
  refine WL.op rfl (d_assign rfl ?_)
  refine WL.done (X.then_code ?_)
  refine W.seq ?_
  refine W.seq ?_
  refine W.region ?_
  refine WL.op rfl (d_assign rfl ?_)
  refine WL.done (X.then_code ?_)
  refine W.block ?_
  have H1 : UpG w [] w [[manyF inRaw.row ([] : List RawP)]] := H0.new' (Upd.manyNil inRaw.row w)
  have H2 : UpG w [] w [[manyF inRaw.row ([] : List RawP)], [rowT tyRawP (.slice none (([] : List RawP).length) 0) 53 ([] : List RawP)]] := H1.new' (Upd.nilRowT w tyRawP 53)
  refine W.pick [6, 5, 4, 0, 1] (Γ' := [(6, .int .i64 0), (5, .slice none (([] : List RawP).length) 0), (4, .slice none 0 0), (0, .slice la l.length lc), (1, .slice by_a by_.length by_c)]) rfl ?_
  refine W.loop (fun m Γ' w' => ∃ k : Nat, ∃ qs : List RawP, ∃ qa : Option Addr, ∃ qc : Nat, ∃ ns : List RawP, Γ' = [(6, .int .i64 ((k : Nat) : Int)), (5, .slice qa qs.length qc), (4, .slice none 0 0), (0, .slice la l.length lc), (1, .slice by_a by_.length by_c)] ∧ UpG w [] w' [[manyF inRaw.row ns], [rowT tyRawP (.slice qa qs.length qc) 53 qs]] ∧ (k ≤ l.length) ∧ (rdsOf qs = mixD (rdsOf l) by_ k) ∧ (qs.length ≤ 2 * k) ∧ (∀ q, q ∈ qs → q ∈ l ∨ q ∈ ns) ∧ m = l.length - k) (l.length - 0) ⟨0, ([] : List RawP), none, 0, ([] : List RawP), rfl, H2, (by first | assumption | omega | simp), (by rfl), (by simp), (by intro q hq9; simp at hq9), rfl⟩ ?_
  rintro m1 Γ1 w1 ⟨k, qs, qa, qc, ns, rfl, H3, hk, hq, hql, hqm, rfl⟩
  refine W.seq ?_
  refine W.seq ?_
  refine W.region ?_
  refine WL.op rfl (d_move rfl ?_)
  refine WL.op rfl (d_move rfl ?_)
  refine WL.op rfl (d_lenS Try.underlying70 rfl ?_)
  refine WL.op rfl (d_cmp (decide (((k : Nat) : Int) < ((l.length : Nat) : Int))) rfl rfl rfl ?_)
  refine WL.done (X.then_code ?_)
  refine W.ite (p := ((k : Nat) : Int) < ((l.length : Nat) : Int)) rfl (fun c12 => ?_) (fun c12 => ?_)
  · skip
    refine W.skip (X.then_code ?_)
    refine W.seq ?_
    refine W.block ?_
    refine W.seq ?_
    refine W.region ?_
    refine WL.op rfl (d_move rfl ?_)
    refine WL.op rfl (d_move rfl ?_)
    refine WL.op rfl (d_move rfl ?_)
    refine WL.op rfl (t_addrN k (T := tyRawP) rfl Try.underlying70 sz53 rfl rfl (rl.at H3) rfl (by omega) ?_)
    refine WL.op rfl (t_loadN k rawP0 (T := tyRawP) (us := [.slice ((l.getD k rawP0).a) (((l.getD k rawP0).d.nums).length) ((l.getD k rawP0).c), .string ((l.getD k rawP0).d.text)]) rfl Try.underlying53 rfl sz53 rfl (rl.at H3) (by omega) rfl ?_)
    refine WL.op rfl (t_buildSlice (T := tyRawP) (xs := ([l.getD k rawP0] : List RawP)) (cs := #[.slice ((l.getD k rawP0).a) (((l.getD k rawP0).d.nums).length) ((l.getD k rawP0).c), .string ((l.getD k rawP0).d.text)]) rfl Try.underlying70 sz53 rfl rfl rfl rfl (by kernel_rfl) rfl rfl fun w2 u1 => ?_)
    have H4 : UpG w [] w2 [[manyF inRaw.row ns], [rowT tyRawP (.slice qa qs.length qc) 53 qs], [rowT tyRawP (.slice (some ⟨w1.heap.size, 0, none⟩) (([l.getD k rawP0] : List RawP).length) (([l.getD k rawP0] : List RawP).length)) 53 ([l.getD k rawP0] : List RawP)]] := H3.new' u1
    refine WL.op rfl (t_append (T := tyRawP) (xs := qs) (ys := ([l.getD k rawP0] : List RawP)) rfl Try.underlying70 sz53 rfl rfl rfl (H4.ownT 1 rfl) (H4.rdT 2 rfl) (by simp; omega) (by simp; omega) fun a1 c1 w3 u2 => ?_)
    have H5 : UpG w [] w3 [[manyF inRaw.row ns], [rowT tyRawP (.slice a1 ((qs ++ ([l.getD k rawP0] : List RawP)).length) c1) 53 (qs ++ ([l.getD k rawP0] : List RawP))], []] := (H4.on 1 rfl u2).drop 2
    refine WL.op rfl (d_assign rfl ?_)
    refine WL.done (X.then_code ?_)
    refine W.seq ?_
    refine W.seq ?_
    refine W.region ?_
    refine WL.op rfl (d_move rfl ?_)
    refine WL.op rfl (d_move rfl ?_)
    refine WL.op rfl (d_lenS Try.underlying51 rfl ?_)
    refine WL.op rfl (d_cmp (decide (((k : Nat) : Int) < ((by_.length : Nat) : Int))) rfl rfl rfl ?_)
    refine WL.op rfl (d_move rfl ?_)
    refine WL.part 24 (p := ((k : Nat) : Int) < ((by_.length : Nat) : Int)) rfl (fun g14 => ?_) (fun g14 => ?_)
    · skip
      refine WL.opG rfl rfl rfl (d_move rfl ?_)
      refine WL.opG rfl rfl rfl (d_move rfl ?_)
      refine WL.opG rfl rfl rfl (t_addr1 k (T := (tyI .i64)) rfl Try.underlying51 sz3 rfl rfl (rby_.at H5) rfl (by omega) ?_)
      refine WL.opG rfl rfl rfl (t_load1 k 0 (T := (tyI .i64)) rfl Try.underlying3 rfl rfl (rby_.at H5) (by omega) rfl ?_)
      refine WL.opG rfl rfl rfl (d_cmp (decide ((by_.getD k 0) > (0 : Int))) rfl rfl rfl ?_)
      refine WL.op rfl (d_pick rfl rfl ?_)
      refine WL.done (X.then_code ?_)
      refine W.pick [30, 29, 28, 27, 26, 25, 24, 23, 22, 21, 20, 5, 19, 18, 17, 16, 15, 14, 13, 10, 9, 8, 7, 6, 4, 0, 1] (Γ' := [(30, .bool (decide ((by_.getD k 0) > (0 : Int)))), (29, .bool (decide ((by_.getD k 0) > (0 : Int)))), (28, .int .i64 (by_.getD k 0)), (27, elemPtr (.slice by_a by_.length by_c) k), (26, .int .i64 ((k : Nat) : Int)), (25, .slice by_a by_.length by_c), (24, .bool true), (23, .bool (decide (((k : Nat) : Int) < ((by_.length : Nat) : Int)))), (22, .int .i64 ((by_.length : Nat) : Int)), (21, .slice by_a by_.length by_c), (20, .int .i64 ((k : Nat) : Int)), (5, .slice a1 ((qs ++ ([l.getD k rawP0] : List RawP)).length) c1), (19, .slice a1 ((qs ++ ([l.getD k rawP0] : List RawP)).length) c1), (18, .slice (some ⟨w1.heap.size, 0, none⟩) (([l.getD k rawP0] : List RawP).length) (([l.getD k rawP0] : List RawP).length)), (17, .agg #[.slice ((l.getD k rawP0).a) (((l.getD k rawP0).d.nums).length) ((l.getD k rawP0).c), .string ((l.getD k rawP0).d.text)]), (16, elemPtr (.slice la l.length lc) (k * 2)), (15, .int .i64 ((k : Nat) : Int)), (14, .slice la l.length lc), (13, .slice qa qs.length qc), (10, .bool (decide (((k : Nat) : Int) < ((l.length : Nat) : Int)))), (9, .int .i64 ((l.length : Nat) : Int)), (8, .slice la l.length lc), (7, .int .i64 ((k : Nat) : Int)), (6, .int .i64 ((k : Nat) : Int)), (4, .slice none 0 0), (0, .slice la l.length lc), (1, .slice by_a by_.length by_c)]) rfl ?_
      refine W.ite (p := (by_.getD k 0) > (0 : Int)) rfl (fun c14 => ?_) (fun c14 => ?_)
      · skip
        refine W.region ?_
        refine WL.op rfl (d_move rfl ?_)
        refine WL.op rfl (d_move rfl ?_)
        refine WL.op rfl (d_move rfl ?_)
        refine WL.op rfl (t_addr1 k (T := (tyI .i64)) rfl Try.underlying51 sz3 rfl rfl (rby_.at H5) rfl (by omega) ?_)
        refine WL.op rfl (t_load1 k 0 (T := (tyI .i64)) rfl Try.underlying3 rfl rfl (rby_.at H5) (by omega) rfl ?_)
        refine WL.op rfl (t_buildSlice (T := (tyI .i64)) (xs := [23, by_.getD k 0]) (cs := #[.int .i64 23, .int .i64 (by_.getD k 0)]) rfl Try.underlying51 sz3 rfl rfl rfl rfl (by kernel_rfl) rfl rfl fun w4 u3 => ?_)
        have H6 : UpG w [] w4 [[manyF inRaw.row ns], [rowT tyRawP (.slice a1 ((qs ++ ([l.getD k rawP0] : List RawP)).length) c1) 53 (qs ++ ([l.getD k rawP0] : List RawP))], [], [rowT (tyI .i64) (.slice (some ⟨w3.heap.size, 0, none⟩) ([23, by_.getD k 0].length) ([23, by_.getD k 0].length)) 3 [23, by_.getD k 0]]] := H5.new' u3
        refine WL.op rfl (d_build (cs := #[.slice (some ⟨w3.heap.size, 0, none⟩) ([23, by_.getD k 0].length) ([23, by_.getD k 0].length), .string ⟨#[]⟩]) rfl (by kernel_rfl) ?_)
        refine WL.op rfl (t_buildSlice (T := tyRawP) (xs := ([⟨(some ⟨w3.heap.size, 0, none⟩), [23, by_.getD k 0].length, ⟨[23, by_.getD k 0], ⟨#[]⟩⟩⟩] : List RawP)) (cs := #[.slice (some ⟨w3.heap.size, 0, none⟩) ([23, by_.getD k 0].length) ([23, by_.getD k 0].length), .string ⟨#[]⟩]) rfl Try.underlying70 sz53 rfl rfl rfl rfl (by kernel_rfl) rfl rfl fun w5 u4 => ?_)
        have H7 : UpG w [] w5 [[manyF inRaw.row ns], [rowT tyRawP (.slice a1 ((qs ++ ([l.getD k rawP0] : List RawP)).length) c1) 53 (qs ++ ([l.getD k rawP0] : List RawP))], [], [rowT (tyI .i64) (.slice (some ⟨w3.heap.size, 0, none⟩) ([23, by_.getD k 0].length) ([23, by_.getD k 0].length)) 3 [23, by_.getD k 0]], [rowT tyRawP (.slice (some ⟨w4.heap.size, 0, none⟩) (([⟨(some ⟨w3.heap.size, 0, none⟩), [23, by_.getD k 0].length, ⟨[23, by_.getD k 0], ⟨#[]⟩⟩⟩] : List RawP).length) (([⟨(some ⟨w3.heap.size, 0, none⟩), [23, by_.getD k 0].length, ⟨[23, by_.getD k 0], ⟨#[]⟩⟩⟩] : List RawP).length)) 53 ([⟨(some ⟨w3.heap.size, 0, none⟩), [23, by_.getD k 0].length, ⟨[23, by_.getD k 0], ⟨#[]⟩⟩⟩] : List RawP)]] := H6.new' u4
        refine WL.op rfl (t_append (T := tyRawP) (xs := (qs ++ ([l.getD k rawP0] : List RawP))) (ys := ([⟨(some ⟨w3.heap.size, 0, none⟩), [23, by_.getD k 0].length, ⟨[23, by_.getD k 0], ⟨#[]⟩⟩⟩] : List RawP)) rfl Try.underlying70 sz53 rfl rfl rfl (H7.ownT 1 rfl) (H7.rdT 4 rfl) (by simp; omega) (by simp; omega) fun a2 c2 w6 u5 => ?_)
        have H8 : UpG w [] w6 [[manyF inRaw.row ns], [rowT tyRawP (.slice a2 (((qs ++ ([l.getD k rawP0] : List RawP)) ++ ([⟨(some ⟨w3.heap.size, 0, none⟩), [23, by_.getD k 0].length, ⟨[23, by_.getD k 0], ⟨#[]⟩⟩⟩] : List RawP)).length) c2) 53 ((qs ++ ([l.getD k rawP0] : List RawP)) ++ ([⟨(some ⟨w3.heap.size, 0, none⟩), [23, by_.getD k 0].length, ⟨[23, by_.getD k 0], ⟨#[]⟩⟩⟩] : List RawP))], [], [rowT (tyI .i64) (.slice (some ⟨w3.heap.size, 0, none⟩) ([23, by_.getD k 0].length) ([23, by_.getD k 0].length)) 3 [23, by_.getD k 0]], []] := (H7.on 1 rfl u5).drop 4
        have H9 : UpG w [] w6 [[manyF inRaw.row (ns ++ [⟨(some ⟨w3.heap.size, 0, none⟩), [23, by_.getD k 0].length, ⟨[23, by_.getD k 0], ⟨#[]⟩⟩⟩])], [rowT tyRawP (.slice a2 (((qs ++ ([l.getD k rawP0] : List RawP)) ++ ([⟨(some ⟨w3.heap.size, 0, none⟩), [23, by_.getD k 0].length, ⟨[23, by_.getD k 0], ⟨#[]⟩⟩⟩] : List RawP)).length) c2) 53 ((qs ++ ([l.getD k rawP0] : List RawP)) ++ ([⟨(some ⟨w3.heap.size, 0, none⟩), [23, by_.getD k 0].length, ⟨[23, by_.getD k 0], ⟨#[]⟩⟩⟩] : List RawP))], [], [], []] := (UpG.absorb (f := inRaw.row) (⟨(some ⟨w3.heap.size, 0, none⟩), [23, by_.getD k 0].length, ⟨[23, by_.getD k 0], ⟨#[]⟩⟩⟩ : RawP) H8 0 3 rfl rfl rfl).re rfl
        refine WL.op rfl (d_assign rfl ?_)
        refine WL.done (X.then_code ?_)
        refine W.pick [5, 39, 38, 37, 36, 35, 34, 33, 32, 31, 30, 29, 28, 27, 26, 25, 24, 23, 22, 21, 20, 19, 18, 17, 16, 15, 14, 13, 10, 9, 8, 7, 6, 4, 0, 1] (Γ' := [(5, .slice a2 (((qs ++ ([l.getD k rawP0] : List RawP)) ++ ([⟨(some ⟨w3.heap.size, 0, none⟩), [23, by_.getD k 0].length, ⟨[23, by_.getD k 0], ⟨#[]⟩⟩⟩] : List RawP)).length) c2), (39, .slice a2 (((qs ++ ([l.getD k rawP0] : List RawP)) ++ ([⟨(some ⟨w3.heap.size, 0, none⟩), [23, by_.getD k 0].length, ⟨[23, by_.getD k 0], ⟨#[]⟩⟩⟩] : List RawP)).length) c2), (38, .slice (some ⟨w4.heap.size, 0, none⟩) (([⟨(some ⟨w3.heap.size, 0, none⟩), [23, by_.getD k 0].length, ⟨[23, by_.getD k 0], ⟨#[]⟩⟩⟩] : List RawP).length) (([⟨(some ⟨w3.heap.size, 0, none⟩), [23, by_.getD k 0].length, ⟨[23, by_.getD k 0], ⟨#[]⟩⟩⟩] : List RawP).length)), (37, .agg #[.slice (some ⟨w3.heap.size, 0, none⟩) ([23, by_.getD k 0].length) ([23, by_.getD k 0].length), .string ⟨#[]⟩]), (36, .slice (some ⟨w3.heap.size, 0, none⟩) ([23, by_.getD k 0].length) ([23, by_.getD k 0].length)), (35, .int .i64 (by_.getD k 0)), (34, elemPtr (.slice by_a by_.length by_c) k), (33, .int .i64 ((k : Nat) : Int)), (32, .slice by_a by_.length by_c), (31, .slice a1 ((qs ++ ([l.getD k rawP0] : List RawP)).length) c1), (30, .bool (decide ((by_.getD k 0) > (0 : Int)))), (29, .bool (decide ((by_.getD k 0) > (0 : Int)))), (28, .int .i64 (by_.getD k 0)), (27, elemPtr (.slice by_a by_.length by_c) k), (26, .int .i64 ((k : Nat) : Int)), (25, .slice by_a by_.length by_c), (24, .bool true), (23, .bool (decide (((k : Nat) : Int) < ((by_.length : Nat) : Int)))), (22, .int .i64 ((by_.length : Nat) : Int)), (21, .slice by_a by_.length by_c), (20, .int .i64 ((k : Nat) : Int)), (19, .slice a1 ((qs ++ ([l.getD k rawP0] : List RawP)).length) c1), (18, .slice (some ⟨w1.heap.size, 0, none⟩) (([l.getD k rawP0] : List RawP).length) (([l.getD k rawP0] : List RawP).length)), (17, .agg #[.slice ((l.getD k rawP0).a) (((l.getD k rawP0).d.nums).length) ((l.getD k rawP0).c), .string ((l.getD k rawP0).d.text)]), (16, elemPtr (.slice la l.length lc) (k * 2)), (15, .int .i64 ((k : Nat) : Int)), (14, .slice la l.length lc), (13, .slice qa qs.length qc), (10, .bool (decide (((k : Nat) : Int) < ((l.length : Nat) : Int)))), (9, .int .i64 ((l.length : Nat) : Int)), (8, .slice la l.length lc), (7, .int .i64 ((k : Nat) : Int)), (6, .int .i64 ((k : Nat) : Int)), (4, .slice none 0 0), (0, .slice la l.length lc), (1, .slice by_a by_.length by_c)]) rfl ?_
        refine W.seq ?_
        refine W.region ?_
        refine WL.op rfl (d_move rfl ?_)
        refine WL.op rfl (d_move rfl ?_)
        refine WL.op rfl (d_lenS Try.underlying51 rfl ?_)
        refine WL.op rfl (d_cmp (decide (((k : Nat) : Int) < ((by_.length : Nat) : Int))) rfl rfl rfl ?_)
        refine WL.op rfl (d_move rfl ?_)
        refine WL.part 44 (p := ((k : Nat) : Int) < ((by_.length : Nat) : Int)) rfl (fun g17 => ?_) (fun g17 => ?_)
        · skip
          refine WL.opG rfl rfl rfl (d_move rfl ?_)
          refine WL.opG rfl rfl rfl (d_move rfl ?_)
          refine WL.opG rfl rfl rfl (t_addr1 k (T := (tyI .i64)) rfl Try.underlying51 sz3 rfl rfl (rby_.at H9) rfl (by omega) ?_)
          refine WL.opG rfl rfl rfl (t_load1 k 0 (T := (tyI .i64)) rfl Try.underlying3 rfl rfl (rby_.at H9) (by omega) rfl ?_)
          refine WL.opG rfl rfl rfl (d_cmp (decide ((by_.getD k 0) < (0 : Int))) rfl rfl rfl ?_)
          refine WL.op rfl (d_pick rfl rfl ?_)
          refine WL.done (X.then_code ?_)
          refine W.pick [50, 49, 48, 47, 46, 45, 44, 43, 42, 41, 40, 5, 39, 38, 37, 36, 35, 34, 33, 32, 31, 30, 29, 28, 27, 26, 25, 24, 23, 22, 21, 20, 19, 18, 17, 16, 15, 14, 13, 10, 9, 8, 7, 6, 4, 0, 1] (Γ' := [(50, .bool (decide ((by_.getD k 0) < (0 : Int)))), (49, .bool (decide ((by_.getD k 0) < (0 : Int)))), (48, .int .i64 (by_.getD k 0)), (47, elemPtr (.slice by_a by_.length by_c) k), (46, .int .i64 ((k : Nat) : Int)), (45, .slice by_a by_.length by_c), (44, .bool true), (43, .bool (decide (((k : Nat) : Int) < ((by_.length : Nat) : Int)))), (42, .int .i64 ((by_.length : Nat) : Int)), (41, .slice by_a by_.length by_c), (40, .int .i64 ((k : Nat) : Int)), (5, .slice a2 (((qs ++ ([l.getD k rawP0] : List RawP)) ++ ([⟨(some ⟨w3.heap.size, 0, none⟩), [23, by_.getD k 0].length, ⟨[23, by_.getD k 0], ⟨#[]⟩⟩⟩] : List RawP)).length) c2), (39, .slice a2 (((qs ++ ([l.getD k rawP0] : List RawP)) ++ ([⟨(some ⟨w3.heap.size, 0, none⟩), [23, by_.getD k 0].length, ⟨[23, by_.getD k 0], ⟨#[]⟩⟩⟩] : List RawP)).length) c2), (38, .slice (some ⟨w4.heap.size, 0, none⟩) (([⟨(some ⟨w3.heap.size, 0, none⟩), [23, by_.getD k 0].length, ⟨[23, by_.getD k 0], ⟨#[]⟩⟩⟩] : List RawP).length) (([⟨(some ⟨w3.heap.size, 0, none⟩), [23, by_.getD k 0].length, ⟨[23, by_.getD k 0], ⟨#[]⟩⟩⟩] : List RawP).length)), (37, .agg #[.slice (some ⟨w3.heap.size, 0, none⟩) ([23, by_.getD k 0].length) ([23, by_.getD k 0].length), .string ⟨#[]⟩]), (36, .slice (some ⟨w3.heap.size, 0, none⟩) ([23, by_.getD k 0].length) ([23, by_.getD k 0].length)), (35, .int .i64 (by_.getD k 0)), (34, elemPtr (.slice by_a by_.length by_c) k), (33, .int .i64 ((k : Nat) : Int)), (32, .slice by_a by_.length by_c), (31, .slice a1 ((qs ++ ([l.getD k rawP0] : List RawP)).length) c1), (30, .bool (decide ((by_.getD k 0) > (0 : Int)))), (29, .bool (decide ((by_.getD k 0) > (0 : Int)))), (28, .int .i64 (by_.getD k 0)), (27, elemPtr (.slice by_a by_.length by_c) k), (26, .int .i64 ((k : Nat) : Int)), (25, .slice by_a by_.length by_c), (24, .bool true), (23, .bool (decide (((k : Nat) : Int) < ((by_.length : Nat) : Int)))), (22, .int .i64 ((by_.length : Nat) : Int)), (21, .slice by_a by_.length by_c), (20, .int .i64 ((k : Nat) : Int)), (19, .slice a1 ((qs ++ ([l.getD k rawP0] : List RawP)).length) c1), (18, .slice (some ⟨w1.heap.size, 0, none⟩) (([l.getD k rawP0] : List RawP).length) (([l.getD k rawP0] : List RawP).length)), (17, .agg #[.slice ((l.getD k rawP0).a) (((l.getD k rawP0).d.nums).length) ((l.getD k rawP0).c), .string ((l.getD k rawP0).d.text)]), (16, elemPtr (.slice la l.length lc) (k * 2)), (15, .int .i64 ((k : Nat) : Int)), (14, .slice la l.length lc), (13, .slice qa qs.length qc), (10, .bool (decide (((k : Nat) : Int) < ((l.length : Nat) : Int)))), (9, .int .i64 ((l.length : Nat) : Int)), (8, .slice la l.length lc), (7, .int .i64 ((k : Nat) : Int)), (6, .int .i64 ((k : Nat) : Int)), (4, .slice none 0 0), (0, .slice la l.length lc), (1, .slice by_a by_.length by_c)]) rfl ?_
          refine W.ite (p := (by_.getD k 0) < (0 : Int)) rfl (fun c17 => ?_) (fun c17 => ?_)
          · skip
            refine W.region ?_
            refine WL.op rfl (d_move rfl ?_)
            refine WL.op rfl (t_buildSlice (T := (tyI .i64)) (xs := [24]) (cs := #[.int .i64 24]) rfl Try.underlying51 sz3 rfl rfl rfl rfl (by kernel_rfl) rfl rfl fun w7 u6 => ?_)
            have H10 : UpG w [] w7 [[manyF inRaw.row (ns ++ [⟨(some ⟨w3.heap.size, 0, none⟩), [23, by_.getD k 0].length, ⟨[23, by_.getD k 0], ⟨#[]⟩⟩⟩])], [rowT tyRawP (.slice a2 (((qs ++ ([l.getD k rawP0] : List RawP)) ++ ([⟨(some ⟨w3.heap.size, 0, none⟩), [23, by_.getD k 0].length, ⟨[23, by_.getD k 0], ⟨#[]⟩⟩⟩] : List RawP)).length) c2) 53 ((qs ++ ([l.getD k rawP0] : List RawP)) ++ ([⟨(some ⟨w3.heap.size, 0, none⟩), [23, by_.getD k 0].length, ⟨[23, by_.getD k 0], ⟨#[]⟩⟩⟩] : List RawP))], [], [], [], [rowT (tyI .i64) (.slice (some ⟨w6.heap.size, 0, none⟩) ([24].length) ([24].length)) 3 [24]]] := H9.new' u6
            refine WL.op rfl (d_build (cs := #[.slice (some ⟨w6.heap.size, 0, none⟩) ([24].length) ([24].length), .string ⟨#[]⟩]) rfl (by kernel_rfl) ?_)
            refine WL.op rfl (t_buildSlice (T := tyRawP) (xs := ([⟨(some ⟨w6.heap.size, 0, none⟩), [24].length, ⟨[24], ⟨#[]⟩⟩⟩] : List RawP)) (cs := #[.slice (some ⟨w6.heap.size, 0, none⟩) ([24].length) ([24].length), .string ⟨#[]⟩]) rfl Try.underlying70 sz53 rfl rfl rfl rfl (by kernel_rfl) rfl rfl fun w8 u7 => ?_)
            have H11 : UpG w [] w8 [[manyF inRaw.row (ns ++ [⟨(some ⟨w3.heap.size, 0, none⟩), [23, by_.getD k 0].length, ⟨[23, by_.getD k 0], ⟨#[]⟩⟩⟩])], [rowT tyRawP (.slice a2 (((qs ++ ([l.getD k rawP0] : List RawP)) ++ ([⟨(some ⟨w3.heap.size, 0, none⟩), [23, by_.getD k 0].length, ⟨[23, by_.getD k 0], ⟨#[]⟩⟩⟩] : List RawP)).length) c2) 53 ((qs ++ ([l.getD k rawP0] : List RawP)) ++ ([⟨(some ⟨w3.heap.size, 0, none⟩), [23, by_.getD k 0].length, ⟨[23, by_.getD k 0], ⟨#[]⟩⟩⟩] : List RawP))], [], [], [], [rowT (tyI .i64) (.slice (some ⟨w6.heap.size, 0, none⟩) ([24].length) ([24].length)) 3 [24]], [rowT tyRawP (.slice (some ⟨w7.heap.size, 0, none⟩) (([⟨(some ⟨w6.heap.size, 0, none⟩), [24].length, ⟨[24], ⟨#[]⟩⟩⟩] : List RawP).length) (([⟨(some ⟨w6.heap.size, 0, none⟩), [24].length, ⟨[24], ⟨#[]⟩⟩⟩] : List RawP).length)) 53 ([⟨(some ⟨w6.heap.size, 0, none⟩), [24].length, ⟨[24], ⟨#[]⟩⟩⟩] : List RawP)]] := H10.new' u7
            refine WL.op rfl (t_append (T := tyRawP) (xs := ((qs ++ ([l.getD k rawP0] : List RawP)) ++ ([⟨(some ⟨w3.heap.size, 0, none⟩), [23, by_.getD k 0].length, ⟨[23, by_.getD k 0], ⟨#[]⟩⟩⟩] : List RawP))) (ys := ([⟨(some ⟨w6.heap.size, 0, none⟩), [24].length, ⟨[24], ⟨#[]⟩⟩⟩] : List RawP)) rfl Try.underlying70 sz53 rfl rfl rfl (H11.ownT 1 rfl) (H11.rdT 6 rfl) (by simp; omega) (by simp; omega) fun a3 c3 w9 u8 => ?_)
            have H12 : UpG w [] w9 [[manyF inRaw.row (ns ++ [⟨(some ⟨w3.heap.size, 0, none⟩), [23, by_.getD k 0].length, ⟨[23, by_.getD k 0], ⟨#[]⟩⟩⟩])], [rowT tyRawP (.slice a3 ((((qs ++ ([l.getD k rawP0] : List RawP)) ++ ([⟨(some ⟨w3.heap.size, 0, none⟩), [23, by_.getD k 0].length, ⟨[23, by_.getD k 0], ⟨#[]⟩⟩⟩] : List RawP)) ++ ([⟨(some ⟨w6.heap.size, 0, none⟩), [24].length, ⟨[24], ⟨#[]⟩⟩⟩] : List RawP)).length) c3) 53 (((qs ++ ([l.getD k rawP0] : List RawP)) ++ ([⟨(some ⟨w3.heap.size, 0, none⟩), [23, by_.getD k 0].length, ⟨[23, by_.getD k 0], ⟨#[]⟩⟩⟩] : List RawP)) ++ ([⟨(some ⟨w6.heap.size, 0, none⟩), [24].length, ⟨[24], ⟨#[]⟩⟩⟩] : List RawP))], [], [], [], [rowT (tyI .i64) (.slice (some ⟨w6.heap.size, 0, none⟩) ([24].length) ([24].length)) 3 [24]], []] := (H11.on 1 rfl u8).drop 6
            have H13 : UpG w [] w9 [[manyF inRaw.row ((ns ++ [⟨(some ⟨w3.heap.size, 0, none⟩), [23, by_.getD k 0].length, ⟨[23, by_.getD k 0], ⟨#[]⟩⟩⟩]) ++ [⟨(some ⟨w6.heap.size, 0, none⟩), [24].length, ⟨[24], ⟨#[]⟩⟩⟩])], [rowT tyRawP (.slice a3 ((((qs ++ ([l.getD k rawP0] : List RawP)) ++ ([⟨(some ⟨w3.heap.size, 0, none⟩), [23, by_.getD k 0].length, ⟨[23, by_.getD k 0], ⟨#[]⟩⟩⟩] : List RawP)) ++ ([⟨(some ⟨w6.heap.size, 0, none⟩), [24].length, ⟨[24], ⟨#[]⟩⟩⟩] : List RawP)).length) c3) 53 (((qs ++ ([l.getD k rawP0] : List RawP)) ++ ([⟨(some ⟨w3.heap.size, 0, none⟩), [23, by_.getD k 0].length, ⟨[23, by_.getD k 0], ⟨#[]⟩⟩⟩] : List RawP)) ++ ([⟨(some ⟨w6.heap.size, 0, none⟩), [24].length, ⟨[24], ⟨#[]⟩⟩⟩] : List RawP))], [], [], [], [], []] := (UpG.absorb (f := inRaw.row) (⟨(some ⟨w6.heap.size, 0, none⟩), [24].length, ⟨[24], ⟨#[]⟩⟩⟩ : RawP) H12 0 5 rfl rfl rfl).re rfl
            refine WL.op rfl (d_assign rfl ?_)
            refine WL.done (X.block_normal (X.then_code ?_))
            refine W.pick [5, 55, 54, 53, 52, 51, 50, 49, 48, 47, 46, 45, 44, 43, 42, 41, 40, 39, 38, 37, 36, 35, 34, 33, 32, 31, 30, 29, 28, 27, 26, 25, 24, 23, 22, 21, 20, 19, 18, 17, 16, 15, 14, 13, 10, 9, 8, 7, 6, 4, 0, 1] (Γ' := [(5, .slice a3 ((((qs ++ ([l.getD k rawP0] : List RawP)) ++ ([⟨(some ⟨w3.heap.size, 0, none⟩), [23, by_.getD k 0].length, ⟨[23, by_.getD k 0], ⟨#[]⟩⟩⟩] : List RawP)) ++ ([⟨(some ⟨w6.heap.size, 0, none⟩), [24].length, ⟨[24], ⟨#[]⟩⟩⟩] : List RawP)).length) c3), (55, .slice a3 ((((qs ++ ([l.getD k rawP0] : List RawP)) ++ ([⟨(some ⟨w3.heap.size, 0, none⟩), [23, by_.getD k 0].length, ⟨[23, by_.getD k 0], ⟨#[]⟩⟩⟩] : List RawP)) ++ ([⟨(some ⟨w6.heap.size, 0, none⟩), [24].length, ⟨[24], ⟨#[]⟩⟩⟩] : List RawP)).length) c3), (54, .slice (some ⟨w7.heap.size, 0, none⟩) (([⟨(some ⟨w6.heap.size, 0, none⟩), [24].length, ⟨[24], ⟨#[]⟩⟩⟩] : List RawP).length) (([⟨(some ⟨w6.heap.size, 0, none⟩), [24].length, ⟨[24], ⟨#[]⟩⟩⟩] : List RawP).length)), (53, .agg #[.slice (some ⟨w6.heap.size, 0, none⟩) ([24].length) ([24].length), .string ⟨#[]⟩]), (52, .slice (some ⟨w6.heap.size, 0, none⟩) ([24].length) ([24].length)), (51, .slice a2 (((qs ++ ([l.getD k rawP0] : List RawP)) ++ ([⟨(some ⟨w3.heap.size, 0, none⟩), [23, by_.getD k 0].length, ⟨[23, by_.getD k 0], ⟨#[]⟩⟩⟩] : List RawP)).length) c2), (50, .bool (decide ((by_.getD k 0) < (0 : Int)))), (49, .bool (decide ((by_.getD k 0) < (0 : Int)))), (48, .int .i64 (by_.getD k 0)), (47, elemPtr (.slice by_a by_.length by_c) k), (46, .int .i64 ((k : Nat) : Int)), (45, .slice by_a by_.length by_c), (44, .bool true), (43, .bool (decide (((k : Nat) : Int) < ((by_.length : Nat) : Int)))), (42, .int .i64 ((by_.length : Nat) : Int)), (41, .slice by_a by_.length by_c), (40, .int .i64 ((k : Nat) : Int)), (39, .slice a2 (((qs ++ ([l.getD k rawP0] : List RawP)) ++ ([⟨(some ⟨w3.heap.size, 0, none⟩), [23, by_.getD k 0].length, ⟨[23, by_.getD k 0], ⟨#[]⟩⟩⟩] : List RawP)).length) c2), (38, .slice (some ⟨w4.heap.size, 0, none⟩) (([⟨(some ⟨w3.heap.size, 0, none⟩), [23, by_.getD k 0].length, ⟨[23, by_.getD k 0], ⟨#[]⟩⟩⟩] : List RawP).length) (([⟨(some ⟨w3.heap.size, 0, none⟩), [23, by_.getD k 0].length, ⟨[23, by_.getD k 0], ⟨#[]⟩⟩⟩] : List RawP).length)), (37, .agg #[.slice (some ⟨w3.heap.size, 0, none⟩) ([23, by_.getD k 0].length) ([23, by_.getD k 0].length), .string ⟨#[]⟩]), (36, .slice (some ⟨w3.heap.size, 0, none⟩) ([23, by_.getD k 0].length) ([23, by_.getD k 0].length)), (35, .int .i64 (by_.getD k 0)), (34, elemPtr (.slice by_a by_.length by_c) k), (33, .int .i64 ((k : Nat) : Int)), (32, .slice by_a by_.length by_c), (31, .slice a1 ((qs ++ ([l.getD k rawP0] : List RawP)).length) c1), (30, .bool (decide ((by_.getD k 0) > (0 : Int)))), (29, .bool (decide ((by_.getD k 0) > (0 : Int)))), (28, .int .i64 (by_.getD k 0)), (27, elemPtr (.slice by_a by_.length by_c) k), (26, .int .i64 ((k : Nat) : Int)), (25, .slice by_a by_.length by_c), (24, .bool true), (23, .bool (decide (((k : Nat) : Int) < ((by_.length : Nat) : Int)))), (22, .int .i64 ((by_.length : Nat) : Int)), (21, .slice by_a by_.length by_c), (20, .int .i64 ((k : Nat) : Int)), (19, .slice a1 ((qs ++ ([l.getD k rawP0] : List RawP)).length) c1), (18, .slice (some ⟨w1.heap.size, 0, none⟩) (([l.getD k rawP0] : List RawP).length) (([l.getD k rawP0] : List RawP).length)), (17, .agg #[.slice ((l.getD k rawP0).a) (((l.getD k rawP0).d.nums).length) ((l.getD k rawP0).c), .string ((l.getD k rawP0).d.text)]), (16, elemPtr (.slice la l.length lc) (k * 2)), (15, .int .i64 ((k : Nat) : Int)), (14, .slice la l.length lc), (13, .slice qa qs.length qc), (10, .bool (decide (((k : Nat) : Int) < ((l.length : Nat) : Int)))), (9, .int .i64 ((l.length : Nat) : Int)), (8, .slice la l.length lc), (7, .int .i64 ((k : Nat) : Int)), (6, .int .i64 ((k : Nat) : Int)), (4, .slice none 0 0), (0, .slice la l.length lc), (1, .slice by_a by_.length by_c)]) rfl ?_
            refine W.region ?_
            refine WL.op rfl (d_move rfl ?_)
            refine WL.op rfl (d_add rfl rfl (by omega) (by omega) ?_)
            refine WL.op rfl (d_assign rfl ?_)
            refine WL.done ?_
            exact X.next [6, 5, 4, 0, 1] (Γ' := [(6, .int .i64 (((k + 1) : Nat) : Int)), (5, .slice a3 ((((qs ++ ([l.getD k rawP0] : List RawP)) ++ ([⟨(some ⟨w3.heap.size, 0, none⟩), [23, by_.getD k 0].length, ⟨[23, by_.getD k 0], ⟨#[]⟩⟩⟩] : List RawP)) ++ ([⟨(some ⟨w6.heap.size, 0, none⟩), [24].length, ⟨[24], ⟨#[]⟩⟩⟩] : List RawP)).length) c3), (4, .slice none 0 0), (0, .slice la l.length lc), (1, .slice by_a by_.length by_c)]) rfl (l.length - (k + 1)) (by omega) ⟨k + 1, ((qs ++ ([l.getD k rawP0] : List RawP)) ++ ([⟨(some ⟨w3.heap.size, 0, none⟩), [23, by_.getD k 0].length, ⟨[23, by_.getD k 0], ⟨#[]⟩⟩⟩] : List RawP)) ++ ([⟨(some ⟨w6.heap.size, 0, none⟩), [24].length, ⟨[24], ⟨#[]⟩⟩⟩] : List RawP), a3, c3, (ns ++ [⟨(some ⟨w3.heap.size, 0, none⟩), [23, by_.getD k 0].length, ⟨[23, by_.getD k 0], ⟨#[]⟩⟩⟩]) ++ [⟨(some ⟨w6.heap.size, 0, none⟩), [24].length, ⟨[24], ⟨#[]⟩⟩⟩], rfl, (H13.re rfl), (by first | assumption | omega | simp), (by first | (exfalso; omega) | skip; rw [mixD, ← hq, rds_get]; simp only [rds_app]; first | (rw [extraD, if_neg (by omega)]; simp [rdsOf]; done) | (rw [extraD, if_pos (by omega), if_neg (by omega), if_neg (by omega)]; simp [rdsOf]; done) | (rw [extraD, if_pos (by omega), if_pos (by omega)]; simp [rdsOf]; done) | (rw [extraD, if_pos (by omega), if_neg (by omega), if_pos (by omega)]; simp [rdsOf]; done)), (by simp; omega), (by first | (exfalso; omega) | skip; intro q hq9; simp only [List.mem_append, List.mem_singleton] at hq9 ⊢; first | (rcases hq9 with (h9 | rfl) | rfl; exact (hqm q h9).elim .inl (fun h => .inr (.inl h)); exact .inl (getD_mem' (by omega)); exact .inr (.inr rfl)) | (rcases hq9 with h9 | rfl; exact hqm q h9; exact .inl (getD_mem' (by omega)))), rfl⟩
          · skip
            refine W.skip (X.block_normal (X.then_code ?_))
            refine W.pick [50, 49, 48, 47, 46, 45, 44, 43, 42, 41, 40, 5, 39, 38, 37, 36, 35, 34, 33, 32, 31, 30, 29, 28, 27, 26, 25, 24, 23, 22, 21, 20, 19, 18, 17, 16, 15, 14, 13, 10, 9, 8, 7, 6, 4, 0, 1] (Γ' := [(50, .bool (decide ((by_.getD k 0) < (0 : Int)))), (49, .bool (decide ((by_.getD k 0) < (0 : Int)))), (48, .int .i64 (by_.getD k 0)), (47, elemPtr (.slice by_a by_.length by_c) k), (46, .int .i64 ((k : Nat) : Int)), (45, .slice by_a by_.length by_c), (44, .bool true), (43, .bool (decide (((k : Nat) : Int) < ((by_.length : Nat) : Int)))), (42, .int .i64 ((by_.length : Nat) : Int)), (41, .slice by_a by_.length by_c), (40, .int .i64 ((k : Nat) : Int)), (5, .slice a2 (((qs ++ ([l.getD k rawP0] : List RawP)) ++ ([⟨(some ⟨w3.heap.size, 0, none⟩), [23, by_.getD k 0].length, ⟨[23, by_.getD k 0], ⟨#[]⟩⟩⟩] : List RawP)).length) c2), (39, .slice a2 (((qs ++ ([l.getD k rawP0] : List RawP)) ++ ([⟨(some ⟨w3.heap.size, 0, none⟩), [23, by_.getD k 0].length, ⟨[23, by_.getD k 0], ⟨#[]⟩⟩⟩] : List RawP)).length) c2), (38, .slice (some ⟨w4.heap.size, 0, none⟩) (([⟨(some ⟨w3.heap.size, 0, none⟩), [23, by_.getD k 0].length, ⟨[23, by_.getD k 0], ⟨#[]⟩⟩⟩] : List RawP).length) (([⟨(some ⟨w3.heap.size, 0, none⟩), [23, by_.getD k 0].length, ⟨[23, by_.getD k 0], ⟨#[]⟩⟩⟩] : List RawP).length)), (37, .agg #[.slice (some ⟨w3.heap.size, 0, none⟩) ([23, by_.getD k 0].length) ([23, by_.getD k 0].length), .string ⟨#[]⟩]), (36, .slice (some ⟨w3.heap.size, 0, none⟩) ([23, by_.getD k 0].length) ([23, by_.getD k 0].length)), (35, .int .i64 (by_.getD k 0)), (34, elemPtr (.slice by_a by_.length by_c) k), (33, .int .i64 ((k : Nat) : Int)), (32, .slice by_a by_.length by_c), (31, .slice a1 ((qs ++ ([l.getD k rawP0] : List RawP)).length) c1), (30, .bool (decide ((by_.getD k 0) > (0 : Int)))), (29, .bool (decide ((by_.getD k 0) > (0 : Int)))), (28, .int .i64 (by_.getD k 0)), (27, elemPtr (.slice by_a by_.length by_c) k), (26, .int .i64 ((k : Nat) : Int)), (25, .slice by_a by_.length by_c), (24, .bool true), (23, .bool (decide (((k : Nat) : Int) < ((by_.length : Nat) : Int)))), (22, .int .i64 ((by_.length : Nat) : Int)), (21, .slice by_a by_.length by_c), (20, .int .i64 ((k : Nat) : Int)), (19, .slice a1 ((qs ++ ([l.getD k rawP0] : List RawP)).length) c1), (18, .slice (some ⟨w1.heap.size, 0, none⟩) (([l.getD k rawP0] : List RawP).length) (([l.getD k rawP0] : List RawP).length)), (17, .agg #[.slice ((l.getD k rawP0).a) (((l.getD k rawP0).d.nums).length) ((l.getD k rawP0).c), .string ((l.getD k rawP0).d.text)]), (16, elemPtr (.slice la l.length lc) (k * 2)), (15, .int .i64 ((k : Nat) : Int)), (14, .slice la l.length lc), (13, .slice qa qs.length qc), (10, .bool (decide (((k : Nat) : Int) < ((l.length : Nat) : Int)))), (9, .int .i64 ((l.length : Nat) : Int)), (8, .slice la l.length lc), (7, .int .i64 ((k : Nat) : Int)), (6, .int .i64 ((k : Nat) : Int)), (4, .slice none 0 0), (0, .slice la l.length lc), (1, .slice by_a by_.length by_c)]) rfl ?_
            refine W.region ?_
            refine WL.op rfl (d_move rfl ?_)
            refine WL.op rfl (d_add rfl rfl (by omega) (by omega) ?_)
            refine WL.op rfl (d_assign rfl ?_)
            refine WL.done ?_
            exact X.next [6, 5, 4, 0, 1] (Γ' := [(6, .int .i64 (((k + 1) : Nat) : Int)), (5, .slice a2 (((qs ++ ([l.getD k rawP0] : List RawP)) ++ ([⟨(some ⟨w3.heap.size, 0, none⟩), [23, by_.getD k 0].length, ⟨[23, by_.getD k 0], ⟨#[]⟩⟩⟩] : List RawP)).length) c2), (4, .slice none 0 0), (0, .slice la l.length lc), (1, .slice by_a by_.length by_c)]) rfl (l.length - (k + 1)) (by omega) ⟨k + 1, (qs ++ ([l.getD k rawP0] : List RawP)) ++ ([⟨(some ⟨w3.heap.size, 0, none⟩), [23, by_.getD k 0].length, ⟨[23, by_.getD k 0], ⟨#[]⟩⟩⟩] : List RawP), a2, c2, ns ++ [⟨(some ⟨w3.heap.size, 0, none⟩), [23, by_.getD k 0].length, ⟨[23, by_.getD k 0], ⟨#[]⟩⟩⟩], rfl, (H9.re rfl), (by first | assumption | omega | simp), (by first | (exfalso; omega) | skip; rw [mixD, ← hq, rds_get]; simp only [rds_app]; first | (rw [extraD, if_neg (by omega)]; simp [rdsOf]; done) | (rw [extraD, if_pos (by omega), if_neg (by omega), if_neg (by omega)]; simp [rdsOf]; done) | (rw [extraD, if_pos (by omega), if_pos (by omega)]; simp [rdsOf]; done) | (rw [extraD, if_pos (by omega), if_neg (by omega), if_pos (by omega)]; simp [rdsOf]; done)), (by simp; omega), (by first | (exfalso; omega) | skip; intro q hq9; simp only [List.mem_append, List.mem_singleton] at hq9 ⊢; first | (rcases hq9 with (h9 | rfl) | rfl; exact (hqm q h9).elim .inl (fun h => .inr (.inl h)); exact .inl (getD_mem' (by omega)); exact .inr (.inr rfl)) | (rcases hq9 with h9 | rfl; exact hqm q h9; exact .inl (getD_mem' (by omega)))), rfl⟩
        · skip
          refine WL.opN rfl rfl rfl rfl ?_
          refine WL.opN rfl rfl rfl rfl ?_
          refine WL.opN rfl rfl rfl rfl ?_
          refine WL.opN rfl rfl rfl rfl ?_
          refine WL.opN rfl rfl rfl rfl ?_
          refine WL.op rfl (d_pick rfl rfl ?_)
          refine WL.done (X.then_code ?_)
          refine W.pick [50, 49, 48, 47, 46, 45, 44, 43, 42, 41, 40, 5, 39, 38, 37, 36, 35, 34, 33, 32, 31, 30, 29, 28, 27, 26, 25, 24, 23, 22, 21, 20, 19, 18, 17, 16, 15, 14, 13, 10, 9, 8, 7, 6, 4, 0, 1] (Γ' := [(50, .bool false), (49, undef), (48, undef), (47, undef), (46, undef), (45, undef), (44, .bool false), (43, .bool (decide (((k : Nat) : Int) < ((by_.length : Nat) : Int)))), (42, .int .i64 ((by_.length : Nat) : Int)), (41, .slice by_a by_.length by_c), (40, .int .i64 ((k : Nat) : Int)), (5, .slice a2 (((qs ++ ([l.getD k rawP0] : List RawP)) ++ ([⟨(some ⟨w3.heap.size, 0, none⟩), [23, by_.getD k 0].length, ⟨[23, by_.getD k 0], ⟨#[]⟩⟩⟩] : List RawP)).length) c2), (39, .slice a2 (((qs ++ ([l.getD k rawP0] : List RawP)) ++ ([⟨(some ⟨w3.heap.size, 0, none⟩), [23, by_.getD k 0].length, ⟨[23, by_.getD k 0], ⟨#[]⟩⟩⟩] : List RawP)).length) c2), (38, .slice (some ⟨w4.heap.size, 0, none⟩) (([⟨(some ⟨w3.heap.size, 0, none⟩), [23, by_.getD k 0].length, ⟨[23, by_.getD k 0], ⟨#[]⟩⟩⟩] : List RawP).length) (([⟨(some ⟨w3.heap.size, 0, none⟩), [23, by_.getD k 0].length, ⟨[23, by_.getD k 0], ⟨#[]⟩⟩⟩] : List RawP).length)), (37, .agg #[.slice (some ⟨w3.heap.size, 0, none⟩) ([23, by_.getD k 0].length) ([23, by_.getD k 0].length), .string ⟨#[]⟩]), (36, .slice (some ⟨w3.heap.size, 0, none⟩) ([23, by_.getD k 0].length) ([23, by_.getD k 0].length)), (35, .int .i64 (by_.getD k 0)), (34, elemPtr (.slice by_a by_.length by_c) k), (33, .int .i64 ((k : Nat) : Int)), (32, .slice by_a by_.length by_c), (31, .slice a1 ((qs ++ ([l.getD k rawP0] : List RawP)).length) c1), (30, .bool (decide ((by_.getD k 0) > (0 : Int)))), (29, .bool (decide ((by_.getD k 0) > (0 : Int)))), (28, .int .i64 (by_.getD k 0)), (27, elemPtr (.slice by_a by_.length by_c) k), (26, .int .i64 ((k : Nat) : Int)), (25, .slice by_a by_.length by_c), (24, .bool true), (23, .bool (decide (((k : Nat) : Int) < ((by_.length : Nat) : Int)))), (22, .int .i64 ((by_.length : Nat) : Int)), (21, .slice by_a by_.length by_c), (20, .int .i64 ((k : Nat) : Int)), (19, .slice a1 ((qs ++ ([l.getD k rawP0] : List RawP)).length) c1), (18, .slice (some ⟨w1.heap.size, 0, none⟩) (([l.getD k rawP0] : List RawP).length) (([l.getD k rawP0] : List RawP).length)), (17, .agg #[.slice ((l.getD k rawP0).a) (((l.getD k rawP0).d.nums).length) ((l.getD k rawP0).c), .string ((l.getD k rawP0).d.text)]), (16, elemPtr (.slice la l.length lc) (k * 2)), (15, .int .i64 ((k : Nat) : Int)), (14, .slice la l.length lc), (13, .slice qa qs.length qc), (10, .bool (decide (((k : Nat) : Int) < ((l.length : Nat) : Int)))), (9, .int .i64 ((l.length : Nat) : Int)), (8, .slice la l.length lc), (7, .int .i64 ((k : Nat) : Int)), (6, .int .i64 ((k : Nat) : Int)), (4, .slice none 0 0), (0, .slice la l.length lc), (1, .slice by_a by_.length by_c)]) rfl ?_
          refine W.iff rfl ?_
          refine W.skip (X.block_normal (X.then_code ?_))
          refine W.pick [50, 49, 48, 47, 46, 45, 44, 43, 42, 41, 40, 5, 39, 38, 37, 36, 35, 34, 33, 32, 31, 30, 29, 28, 27, 26, 25, 24, 23, 22, 21, 20, 19, 18, 17, 16, 15, 14, 13, 10, 9, 8, 7, 6, 4, 0, 1] (Γ' := [(50, .bool false), (49, undef), (48, undef), (47, undef), (46, undef), (45, undef), (44, .bool false), (43, .bool (decide (((k : Nat) : Int) < ((by_.length : Nat) : Int)))), (42, .int .i64 ((by_.length : Nat) : Int)), (41, .slice by_a by_.length by_c), (40, .int .i64 ((k : Nat) : Int)), (5, .slice a2 (((qs ++ ([l.getD k rawP0] : List RawP)) ++ ([⟨(some ⟨w3.heap.size, 0, none⟩), [23, by_.getD k 0].length, ⟨[23, by_.getD k 0], ⟨#[]⟩⟩⟩] : List RawP)).length) c2), (39, .slice a2 (((qs ++ ([l.getD k rawP0] : List RawP)) ++ ([⟨(some ⟨w3.heap.size, 0, none⟩), [23, by_.getD k 0].length, ⟨[23, by_.getD k 0], ⟨#[]⟩⟩⟩] : List RawP)).length) c2), (38, .slice (some ⟨w4.heap.size, 0, none⟩) (([⟨(some ⟨w3.heap.size, 0, none⟩), [23, by_.getD k 0].length, ⟨[23, by_.getD k 0], ⟨#[]⟩⟩⟩] : List RawP).length) (([⟨(some ⟨w3.heap.size, 0, none⟩), [23, by_.getD k 0].length, ⟨[23, by_.getD k 0], ⟨#[]⟩⟩⟩] : List RawP).length)), (37, .agg #[.slice (some ⟨w3.heap.size, 0, none⟩) ([23, by_.getD k 0].length) ([23, by_.getD k 0].length), .string ⟨#[]⟩]), (36, .slice (some ⟨w3.heap.size, 0, none⟩) ([23, by_.getD k 0].length) ([23, by_.getD k 0].length)), (35, .int .i64 (by_.getD k 0)), (34, elemPtr (.slice by_a by_.length by_c) k), (33, .int .i64 ((k : Nat) : Int)), (32, .slice by_a by_.length by_c), (31, .slice a1 ((qs ++ ([l.getD k rawP0] : List RawP)).length) c1), (30, .bool (decide ((by_.getD k 0) > (0 : Int)))), (29, .bool (decide ((by_.getD k 0) > (0 : Int)))), (28, .int .i64 (by_.getD k 0)), (27, elemPtr (.slice by_a by_.length by_c) k), (26, .int .i64 ((k : Nat) : Int)), (25, .slice by_a by_.length by_c), (24, .bool true), (23, .bool (decide (((k : Nat) : Int) < ((by_.length : Nat) : Int)))), (22, .int .i64 ((by_.length : Nat) : Int)), (21, .slice by_a by_.length by_c), (20, .int .i64 ((k : Nat) : Int)), (19, .slice a1 ((qs ++ ([l.getD k rawP0] : List RawP)).length) c1), (18, .slice (some ⟨w1.heap.size, 0, none⟩) (([l.getD k rawP0] : List RawP).length) (([l.getD k rawP0] : List RawP).length)), (17, .agg #[.slice ((l.getD k rawP0).a) (((l.getD k rawP0).d.nums).length) ((l.getD k rawP0).c), .string ((l.getD k rawP0).d.text)]), (16, elemPtr (.slice la l.length lc) (k * 2)), (15, .int .i64 ((k : Nat) : Int)), (14, .slice la l.length lc), (13, .slice qa qs.length qc), (10, .bool (decide (((k : Nat) : Int) < ((l.length : Nat) : Int)))), (9, .int .i64 ((l.length : Nat) : Int)), (8, .slice la l.length lc), (7, .int .i64 ((k : Nat) : Int)), (6, .int .i64 ((k : Nat) : Int)), (4, .slice none 0 0), (0, .slice la l.length lc), (1, .slice by_a by_.length by_c)]) rfl ?_
          refine W.region ?_
          refine WL.op rfl (d_move rfl ?_)
          refine WL.op rfl (d_add rfl rfl (by omega) (by omega) ?_)
          refine WL.op rfl (d_assign rfl ?_)
          refine WL.done ?_
          exact X.next [6, 5, 4, 0, 1] (Γ' := [(6, .int .i64 (((k + 1) : Nat) : Int)), (5, .slice a2 (((qs ++ ([l.getD k rawP0] : List RawP)) ++ ([⟨(some ⟨w3.heap.size, 0, none⟩), [23, by_.getD k 0].length, ⟨[23, by_.getD k 0], ⟨#[]⟩⟩⟩] : List RawP)).length) c2), (4, .slice none 0 0), (0, .slice la l.length lc), (1, .slice by_a by_.length by_c)]) rfl (l.length - (k + 1)) (by omega) ⟨k + 1, (qs ++ ([l.getD k rawP0] : List RawP)) ++ ([⟨(some ⟨w3.heap.size, 0, none⟩), [23, by_.getD k 0].length, ⟨[23, by_.getD k 0], ⟨#[]⟩⟩⟩] : List RawP), a2, c2, ns ++ [⟨(some ⟨w3.heap.size, 0, none⟩), [23, by_.getD k 0].length, ⟨[23, by_.getD k 0], ⟨#[]⟩⟩⟩], rfl, (H9.re rfl), (by first | assumption | omega | simp), (by first | (exfalso; omega) | skip; rw [mixD, ← hq, rds_get]; simp only [rds_app]; first | (rw [extraD, if_neg (by omega)]; simp [rdsOf]; done) | (rw [extraD, if_pos (by omega), if_neg (by omega), if_neg (by omega)]; simp [rdsOf]; done) | (rw [extraD, if_pos (by omega), if_pos (by omega)]; simp [rdsOf]; done) | (rw [extraD, if_pos (by omega), if_neg (by omega), if_pos (by omega)]; simp [rdsOf]; done)), (by simp; omega), (by first | (exfalso; omega) | skip; intro q hq9; simp only [List.mem_append, List.mem_singleton] at hq9 ⊢; first | (rcases hq9 with (h9 | rfl) | rfl; exact (hqm q h9).elim .inl (fun h => .inr (.inl h)); exact .inl (getD_mem' (by omega)); exact .inr (.inr rfl)) | (rcases hq9 with h9 | rfl; exact hqm q h9; exact .inl (getD_mem' (by omega)))), rfl⟩
      · skip
        refine W.skip (X.then_code ?_)
        refine W.pick [30, 29, 28, 27, 26, 25, 24, 23, 22, 21, 20, 5, 19, 18, 17, 16, 15, 14, 13, 10, 9, 8, 7, 6, 4, 0, 1] (Γ' := [(30, .bool (decide ((by_.getD k 0) > (0 : Int)))), (29, .bool (decide ((by_.getD k 0) > (0 : Int)))), (28, .int .i64 (by_.getD k 0)), (27, elemPtr (.slice by_a by_.length by_c) k), (26, .int .i64 ((k : Nat) : Int)), (25, .slice by_a by_.length by_c), (24, .bool true), (23, .bool (decide (((k : Nat) : Int) < ((by_.length : Nat) : Int)))), (22, .int .i64 ((by_.length : Nat) : Int)), (21, .slice by_a by_.length by_c), (20, .int .i64 ((k : Nat) : Int)), (5, .slice a1 ((qs ++ ([l.getD k rawP0] : List RawP)).length) c1), (19, .slice a1 ((qs ++ ([l.getD k rawP0] : List RawP)).length) c1), (18, .slice (some ⟨w1.heap.size, 0, none⟩) (([l.getD k rawP0] : List RawP).length) (([l.getD k rawP0] : List RawP).length)), (17, .agg #[.slice ((l.getD k rawP0).a) (((l.getD k rawP0).d.nums).length) ((l.getD k rawP0).c), .string ((l.getD k rawP0).d.text)]), (16, elemPtr (.slice la l.length lc) (k * 2)), (15, .int .i64 ((k : Nat) : Int)), (14, .slice la l.length lc), (13, .slice qa qs.length qc), (10, .bool (decide (((k : Nat) : Int) < ((l.length : Nat) : Int)))), (9, .int .i64 ((l.length : Nat) : Int)), (8, .slice la l.length lc), (7, .int .i64 ((k : Nat) : Int)), (6, .int .i64 ((k : Nat) : Int)), (4, .slice none 0 0), (0, .slice la l.length lc), (1, .slice by_a by_.length by_c)]) rfl ?_
        refine W.seq ?_
        refine W.region ?_
        refine WL.op rfl (d_move rfl ?_)
        refine WL.op rfl (d_move rfl ?_)
        refine WL.op rfl (d_lenS Try.underlying51 rfl ?_)
        refine WL.op rfl (d_cmp (decide (((k : Nat) : Int) < ((by_.length : Nat) : Int))) rfl rfl rfl ?_)
        refine WL.op rfl (d_move rfl ?_)
        refine WL.part 44 (p := ((k : Nat) : Int) < ((by_.length : Nat) : Int)) rfl (fun g17 => ?_) (fun g17 => ?_)
        · skip
          refine WL.opG rfl rfl rfl (d_move rfl ?_)
          refine WL.opG rfl rfl rfl (d_move rfl ?_)
          refine WL.opG rfl rfl rfl (t_addr1 k (T := (tyI .i64)) rfl Try.underlying51 sz3 rfl rfl (rby_.at H5) rfl (by omega) ?_)
          refine WL.opG rfl rfl rfl (t_load1 k 0 (T := (tyI .i64)) rfl Try.underlying3 rfl rfl (rby_.at H5) (by omega) rfl ?_)
          refine WL.opG rfl rfl rfl (d_cmp (decide ((by_.getD k 0) < (0 : Int))) rfl rfl rfl ?_)
          refine WL.op rfl (d_pick rfl rfl ?_)
          refine WL.done (X.then_code ?_)
          refine W.pick [50, 49, 48, 47, 46, 45, 44, 43, 42, 41, 40, 30, 29, 28, 27, 26, 25, 24, 23, 22, 21, 20, 5, 19, 18, 17, 16, 15, 14, 13, 10, 9, 8, 7, 6, 4, 0, 1] (Γ' := [(50, .bool (decide ((by_.getD k 0) < (0 : Int)))), (49, .bool (decide ((by_.getD k 0) < (0 : Int)))), (48, .int .i64 (by_.getD k 0)), (47, elemPtr (.slice by_a by_.length by_c) k), (46, .int .i64 ((k : Nat) : Int)), (45, .slice by_a by_.length by_c), (44, .bool true), (43, .bool (decide (((k : Nat) : Int) < ((by_.length : Nat) : Int)))), (42, .int .i64 ((by_.length : Nat) : Int)), (41, .slice by_a by_.length by_c), (40, .int .i64 ((k : Nat) : Int)), (30, .bool (decide ((by_.getD k 0) > (0 : Int)))), (29, .bool (decide ((by_.getD k 0) > (0 : Int)))), (28, .int .i64 (by_.getD k 0)), (27, elemPtr (.slice by_a by_.length by_c) k), (26, .int .i64 ((k : Nat) : Int)), (25, .slice by_a by_.length by_c), (24, .bool true), (23, .bool (decide (((k : Nat) : Int) < ((by_.length : Nat) : Int)))), (22, .int .i64 ((by_.length : Nat) : Int)), (21, .slice by_a by_.length by_c), (20, .int .i64 ((k : Nat) : Int)), (5, .slice a1 ((qs ++ ([l.getD k rawP0] : List RawP)).length) c1), (19, .slice a1 ((qs ++ ([l.getD k rawP0] : List RawP)).length) c1), (18, .slice (some ⟨w1.heap.size, 0, none⟩) (([l.getD k rawP0] : List RawP).length) (([l.getD k rawP0] : List RawP).length)), (17, .agg #[.slice ((l.getD k rawP0).a) (((l.getD k rawP0).d.nums).length) ((l.getD k rawP0).c), .string ((l.getD k rawP0).d.text)]), (16, elemPtr (.slice la l.length lc) (k * 2)), (15, .int .i64 ((k : Nat) : Int)), (14, .slice la l.length lc), (13, .slice qa qs.length qc), (10, .bool (decide (((k : Nat) : Int) < ((l.length : Nat) : Int)))), (9, .int .i64 ((l.length : Nat) : Int)), (8, .slice la l.length lc), (7, .int .i64 ((k : Nat) : Int)), (6, .int .i64 ((k : Nat) : Int)), (4, .slice none 0 0), (0, .slice la l.length lc), (1, .slice by_a by_.length by_c)]) rfl ?_
          refine W.ite (p := (by_.getD k 0) < (0 : Int)) rfl (fun c17 => ?_) (fun c17 => ?_)
          · skip
            refine W.region ?_
            refine WL.op rfl (d_move rfl ?_)
            refine WL.op rfl (t_buildSlice (T := (tyI .i64)) (xs := [24]) (cs := #[.int .i64 24]) rfl Try.underlying51 sz3 rfl rfl rfl rfl (by kernel_rfl) rfl rfl fun w10 u9 => ?_)
            have H14 : UpG w [] w10 [[manyF inRaw.row ns], [rowT tyRawP (.slice a1 ((qs ++ ([l.getD k rawP0] : List RawP)).length) c1) 53 (qs ++ ([l.getD k rawP0] : List RawP))], [], [rowT (tyI .i64) (.slice (some ⟨w3.heap.size, 0, none⟩) ([24].length) ([24].length)) 3 [24]]] := H5.new' u9
            refine WL.op rfl (d_build (cs := #[.slice (some ⟨w3.heap.size, 0, none⟩) ([24].length) ([24].length), .string ⟨#[]⟩]) rfl (by kernel_rfl) ?_)
            refine WL.op rfl (t_buildSlice (T := tyRawP) (xs := ([⟨(some ⟨w3.heap.size, 0, none⟩), [24].length, ⟨[24], ⟨#[]⟩⟩⟩] : List RawP)) (cs := #[.slice (some ⟨w3.heap.size, 0, none⟩) ([24].length) ([24].length), .string ⟨#[]⟩]) rfl Try.underlying70 sz53 rfl rfl rfl rfl (by kernel_rfl) rfl rfl fun w11 u10 => ?_)
            have H15 : UpG w [] w11 [[manyF inRaw.row ns], [rowT tyRawP (.slice a1 ((qs ++ ([l.getD k rawP0] : List RawP)).length) c1) 53 (qs ++ ([l.getD k rawP0] : List RawP))], [], [rowT (tyI .i64) (.slice (some ⟨w3.heap.size, 0, none⟩) ([24].length) ([24].length)) 3 [24]], [rowT tyRawP (.slice (some ⟨w10.heap.size, 0, none⟩) (([⟨(some ⟨w3.heap.size, 0, none⟩), [24].length, ⟨[24], ⟨#[]⟩⟩⟩] : List RawP).length) (([⟨(some ⟨w3.heap.size, 0, none⟩), [24].length, ⟨[24], ⟨#[]⟩⟩⟩] : List RawP).length)) 53 ([⟨(some ⟨w3.heap.size, 0, none⟩), [24].length, ⟨[24], ⟨#[]⟩⟩⟩] : List RawP)]] := H14.new' u10
            refine WL.op rfl (t_append (T := tyRawP) (xs := (qs ++ ([l.getD k rawP0] : List RawP))) (ys := ([⟨(some ⟨w3.heap.size, 0, none⟩), [24].length, ⟨[24], ⟨#[]⟩⟩⟩] : List RawP)) rfl Try.underlying70 sz53 rfl rfl rfl (H15.ownT 1 rfl) (H15.rdT 4 rfl) (by simp; omega) (by simp; omega) fun a4 c4 w12 u11 => ?_)
            have H16 : UpG w [] w12 [[manyF inRaw.row ns], [rowT tyRawP (.slice a4 (((qs ++ ([l.getD k rawP0] : List RawP)) ++ ([⟨(some ⟨w3.heap.size, 0, none⟩), [24].length, ⟨[24], ⟨#[]⟩⟩⟩] : List RawP)).length) c4) 53 ((qs ++ ([l.getD k rawP0] : List RawP)) ++ ([⟨(some ⟨w3.heap.size, 0, none⟩), [24].length, ⟨[24], ⟨#[]⟩⟩⟩] : List RawP))], [], [rowT (tyI .i64) (.slice (some ⟨w3.heap.size, 0, none⟩) ([24].length) ([24].length)) 3 [24]], []] := (H15.on 1 rfl u11).drop 4
            have H17 : UpG w [] w12 [[manyF inRaw.row (ns ++ [⟨(some ⟨w3.heap.size, 0, none⟩), [24].length, ⟨[24], ⟨#[]⟩⟩⟩])], [rowT tyRawP (.slice a4 (((qs ++ ([l.getD k rawP0] : List RawP)) ++ ([⟨(some ⟨w3.heap.size, 0, none⟩), [24].length, ⟨[24], ⟨#[]⟩⟩⟩] : List RawP)).length) c4) 53 ((qs ++ ([l.getD k rawP0] : List RawP)) ++ ([⟨(some ⟨w3.heap.size, 0, none⟩), [24].length, ⟨[24], ⟨#[]⟩⟩⟩] : List RawP))], [], [], []] := (UpG.absorb (f := inRaw.row) (⟨(some ⟨w3.heap.size, 0, none⟩), [24].length, ⟨[24], ⟨#[]⟩⟩⟩ : RawP) H16 0 3 rfl rfl rfl).re rfl
            refine WL.op rfl (d_assign rfl ?_)
            refine WL.done (X.block_normal (X.then_code ?_))
            refine W.pick [5, 55, 54, 53, 52, 51, 50, 49, 48, 47, 46, 45, 44, 43, 42, 41, 40, 30, 29, 28, 27, 26, 25, 24, 23, 22, 21, 20, 19, 18, 17, 16, 15, 14, 13, 10, 9, 8, 7, 6, 4, 0, 1] (Γ' := [(5, .slice a4 (((qs ++ ([l.getD k rawP0] : List RawP)) ++ ([⟨(some ⟨w3.heap.size, 0, none⟩), [24].length, ⟨[24], ⟨#[]⟩⟩⟩] : List RawP)).length) c4), (55, .slice a4 (((qs ++ ([l.getD k rawP0] : List RawP)) ++ ([⟨(some ⟨w3.heap.size, 0, none⟩), [24].length, ⟨[24], ⟨#[]⟩⟩⟩] : List RawP)).length) c4), (54, .slice (some ⟨w10.heap.size, 0, none⟩) (([⟨(some ⟨w3.heap.size, 0, none⟩), [24].length, ⟨[24], ⟨#[]⟩⟩⟩] : List RawP).length) (([⟨(some ⟨w3.heap.size, 0, none⟩), [24].length, ⟨[24], ⟨#[]⟩⟩⟩] : List RawP).length)), (53, .agg #[.slice (some ⟨w3.heap.size, 0, none⟩) ([24].length) ([24].length), .string ⟨#[]⟩]), (52, .slice (some ⟨w3.heap.size, 0, none⟩) ([24].length) ([24].length)), (51, .slice a1 ((qs ++ ([l.getD k rawP0] : List RawP)).length) c1), (50, .bool (decide ((by_.getD k 0) < (0 : Int)))), (49, .bool (decide ((by_.getD k 0) < (0 : Int)))), (48, .int .i64 (by_.getD k 0)), (47, elemPtr (.slice by_a by_.length by_c) k), (46, .int .i64 ((k : Nat) : Int)), (45, .slice by_a by_.length by_c), (44, .bool true), (43, .bool (decide (((k : Nat) : Int) < ((by_.length : Nat) : Int)))), (42, .int .i64 ((by_.length : Nat) : Int)), (41, .slice by_a by_.length by_c), (40, .int .i64 ((k : Nat) : Int)), (30, .bool (decide ((by_.getD k 0) > (0 : Int)))), (29, .bool (decide ((by_.getD k 0) > (0 : Int)))), (28, .int .i64 (by_.getD k 0)), (27, elemPtr (.slice by_a by_.length by_c) k), (26, .int .i64 ((k : Nat) : Int)), (25, .slice by_a by_.length by_c), (24, .bool true), (23, .bool (decide (((k : Nat) : Int) < ((by_.length : Nat) : Int)))), (22, .int .i64 ((by_.length : Nat) : Int)), (21, .slice by_a by_.length by_c), (20, .int .i64 ((k : Nat) : Int)), (19, .slice a1 ((qs ++ ([l.getD k rawP0] : List RawP)).length) c1), (18, .slice (some ⟨w1.heap.size, 0, none⟩) (([l.getD k rawP0] : List RawP).length) (([l.getD k rawP0] : List RawP).length)), (17, .agg #[.slice ((l.getD k rawP0).a) (((l.getD k rawP0).d.nums).length) ((l.getD k rawP0).c), .string ((l.getD k rawP0).d.text)]), (16, elemPtr (.slice la l.length lc) (k * 2)), (15, .int .i64 ((k : Nat) : Int)), (14, .slice la l.length lc), (13, .slice qa qs.length qc), (10, .bool (decide (((k : Nat) : Int) < ((l.length : Nat) : Int)))), (9, .int .i64 ((l.length : Nat) : Int)), (8, .slice la l.length lc), (7, .int .i64 ((k : Nat) : Int)), (6, .int .i64 ((k : Nat) : Int)), (4, .slice none 0 0), (0, .slice la l.length lc), (1, .slice by_a by_.length by_c)]) rfl ?_
            refine W.region ?_
            refine WL.op rfl (d_move rfl ?_)
            refine WL.op rfl (d_add rfl rfl (by omega) (by omega) ?_)
            refine WL.op rfl (d_assign rfl ?_)
            refine WL.done ?_
            exact X.next [6, 5, 4, 0, 1] (Γ' := [(6, .int .i64 (((k + 1) : Nat) : Int)), (5, .slice a4 (((qs ++ ([l.getD k rawP0] : List RawP)) ++ ([⟨(some ⟨w3.heap.size, 0, none⟩), [24].length, ⟨[24], ⟨#[]⟩⟩⟩] : List RawP)).length) c4), (4, .slice none 0 0), (0, .slice la l.length lc), (1, .slice by_a by_.length by_c)]) rfl (l.length - (k + 1)) (by omega) ⟨k + 1, (qs ++ ([l.getD k rawP0] : List RawP)) ++ ([⟨(some ⟨w3.heap.size, 0, none⟩), [24].length, ⟨[24], ⟨#[]⟩⟩⟩] : List RawP), a4, c4, ns ++ [⟨(some ⟨w3.heap.size, 0, none⟩), [24].length, ⟨[24], ⟨#[]⟩⟩⟩], rfl, (H17.re rfl), (by first | assumption | omega | simp), (by first | (exfalso; omega) | skip; rw [mixD, ← hq, rds_get]; simp only [rds_app]; first | (rw [extraD, if_neg (by omega)]; simp [rdsOf]; done) | (rw [extraD, if_pos (by omega), if_neg (by omega), if_neg (by omega)]; simp [rdsOf]; done) | (rw [extraD, if_pos (by omega), if_pos (by omega)]; simp [rdsOf]; done) | (rw [extraD, if_pos (by omega), if_neg (by omega), if_pos (by omega)]; simp [rdsOf]; done)), (by simp; omega), (by first | (exfalso; omega) | skip; intro q hq9; simp only [List.mem_append, List.mem_singleton] at hq9 ⊢; first | (rcases hq9 with (h9 | rfl) | rfl; exact (hqm q h9).elim .inl (fun h => .inr (.inl h)); exact .inl (getD_mem' (by omega)); exact .inr (.inr rfl)) | (rcases hq9 with h9 | rfl; exact hqm q h9; exact .inl (getD_mem' (by omega)))), rfl⟩
          · skip
            refine W.skip (X.block_normal (X.then_code ?_))
            refine W.pick [50, 49, 48, 47, 46, 45, 44, 43, 42, 41, 40, 30, 29, 28, 27, 26, 25, 24, 23, 22, 21, 20, 5, 19, 18, 17, 16, 15, 14, 13, 10, 9, 8, 7, 6, 4, 0, 1] (Γ' := [(50, .bool (decide ((by_.getD k 0) < (0 : Int)))), (49, .bool (decide ((by_.getD k 0) < (0 : Int)))), (48, .int .i64 (by_.getD k 0)), (47, elemPtr (.slice by_a by_.length by_c) k), (46, .int .i64 ((k : Nat) : Int)), (45, .slice by_a by_.length by_c), (44, .bool true), (43, .bool (decide (((k : Nat) : Int) < ((by_.length : Nat) : Int)))), (42, .int .i64 ((by_.length : Nat) : Int)), (41, .slice by_a by_.length by_c), (40, .int .i64 ((k : Nat) : Int)), (30, .bool (decide ((by_.getD k 0) > (0 : Int)))), (29, .bool (decide ((by_.getD k 0) > (0 : Int)))), (28, .int .i64 (by_.getD k 0)), (27, elemPtr (.slice by_a by_.length by_c) k), (26, .int .i64 ((k : Nat) : Int)), (25, .slice by_a by_.length by_c), (24, .bool true), (23, .bool (decide (((k : Nat) : Int) < ((by_.length : Nat) : Int)))), (22, .int .i64 ((by_.length : Nat) : Int)), (21, .slice by_a by_.length by_c), (20, .int .i64 ((k : Nat) : Int)), (5, .slice a1 ((qs ++ ([l.getD k rawP0] : List RawP)).length) c1), (19, .slice a1 ((qs ++ ([l.getD k rawP0] : List RawP)).length) c1), (18, .slice (some ⟨w1.heap.size, 0, none⟩) (([l.getD k rawP0] : List RawP).length) (([l.getD k rawP0] : List RawP).length)), (17, .agg #[.slice ((l.getD k rawP0).a) (((l.getD k rawP0).d.nums).length) ((l.getD k rawP0).c), .string ((l.getD k rawP0).d.text)]), (16, elemPtr (.slice la l.length lc) (k * 2)), (15, .int .i64 ((k : Nat) : Int)), (14, .slice la l.length lc), (13, .slice qa qs.length qc), (10, .bool (decide (((k : Nat) : Int) < ((l.length : Nat) : Int)))), (9, .int .i64 ((l.length : Nat) : Int)), (8, .slice la l.length lc), (7, .int .i64 ((k : Nat) : Int)), (6, .int .i64 ((k : Nat) : Int)), (4, .slice none 0 0), (0, .slice la l.length lc), (1, .slice by_a by_.length by_c)]) rfl ?_
            refine W.region ?_
            refine WL.op rfl (d_move rfl ?_)
            refine WL.op rfl (d_add rfl rfl (by omega) (by omega) ?_)
            refine WL.op rfl (d_assign rfl ?_)
            refine WL.done ?_
            exact X.next [6, 5, 4, 0, 1] (Γ' := [(6, .int .i64 (((k + 1) : Nat) : Int)), (5, .slice a1 ((qs ++ ([l.getD k rawP0] : List RawP)).length) c1), (4, .slice none 0 0), (0, .slice la l.length lc), (1, .slice by_a by_.length by_c)]) rfl (l.length - (k + 1)) (by omega) ⟨k + 1, qs ++ ([l.getD k rawP0] : List RawP), a1, c1, ns, rfl, (H5.re rfl), (by first | assumption | omega | simp), (by first | (exfalso; omega) | skip; rw [mixD, ← hq, rds_get]; simp only [rds_app]; first | (rw [extraD, if_neg (by omega)]; simp [rdsOf]; done) | (rw [extraD, if_pos (by omega), if_neg (by omega), if_neg (by omega)]; simp [rdsOf]; done) | (rw [extraD, if_pos (by omega), if_pos (by omega)]; simp [rdsOf]; done) | (rw [extraD, if_pos (by omega), if_neg (by omega), if_pos (by omega)]; simp [rdsOf]; done)), (by simp; omega), (by first | (exfalso; omega) | skip; intro q hq9; simp only [List.mem_append, List.mem_singleton] at hq9 ⊢; first | (rcases hq9 with (h9 | rfl) | rfl; exact (hqm q h9).elim .inl (fun h => .inr (.inl h)); exact .inl (getD_mem' (by omega)); exact .inr (.inr rfl)) | (rcases hq9 with h9 | rfl; exact hqm q h9; exact .inl (getD_mem' (by omega)))), rfl⟩
        · skip
          refine WL.opN rfl rfl rfl rfl ?_
          refine WL.opN rfl rfl rfl rfl ?_
          refine WL.opN rfl rfl rfl rfl ?_
          refine WL.opN rfl rfl rfl rfl ?_
          refine WL.opN rfl rfl rfl rfl ?_
          refine WL.op rfl (d_pick rfl rfl ?_)
          refine WL.done (X.then_code ?_)
          refine W.pick [50, 49, 48, 47, 46, 45, 44, 43, 42, 41, 40, 30, 29, 28, 27, 26, 25, 24, 23, 22, 21, 20, 5, 19, 18, 17, 16, 15, 14, 13, 10, 9, 8, 7, 6, 4, 0, 1] (Γ' := [(50, .bool false), (49, undef), (48, undef), (47, undef), (46, undef), (45, undef), (44, .bool false), (43, .bool (decide (((k : Nat) : Int) < ((by_.length : Nat) : Int)))), (42, .int .i64 ((by_.length : Nat) : Int)), (41, .slice by_a by_.length by_c), (40, .int .i64 ((k : Nat) : Int)), (30, .bool (decide ((by_.getD k 0) > (0 : Int)))), (29, .bool (decide ((by_.getD k 0) > (0 : Int)))), (28, .int .i64 (by_.getD k 0)), (27, elemPtr (.slice by_a by_.length by_c) k), (26, .int .i64 ((k : Nat) : Int)), (25, .slice by_a by_.length by_c), (24, .bool true), (23, .bool (decide (((k : Nat) : Int) < ((by_.length : Nat) : Int)))), (22, .int .i64 ((by_.length : Nat) : Int)), (21, .slice by_a by_.length by_c), (20, .int .i64 ((k : Nat) : Int)), (5, .slice a1 ((qs ++ ([l.getD k rawP0] : List RawP)).length) c1), (19, .slice a1 ((qs ++ ([l.getD k rawP0] : List RawP)).length) c1), (18, .slice (some ⟨w1.heap.size, 0, none⟩) (([l.getD k rawP0] : List RawP).length) (([l.getD k rawP0] : List RawP).length)), (17, .agg #[.slice ((l.getD k rawP0).a) (((l.getD k rawP0).d.nums).length) ((l.getD k rawP0).c), .string ((l.getD k rawP0).d.text)]), (16, elemPtr (.slice la l.length lc) (k * 2)), (15, .int .i64 ((k : Nat) : Int)), (14, .slice la l.length lc), (13, .slice qa qs.length qc), (10, .bool (decide (((k : Nat) : Int) < ((l.length : Nat) : Int)))), (9, .int .i64 ((l.length : Nat) : Int)), (8, .slice la l.length lc), (7, .int .i64 ((k : Nat) : Int)), (6, .int .i64 ((k : Nat) : Int)), (4, .slice none 0 0), (0, .slice la l.length lc), (1, .slice by_a by_.length by_c)]) rfl ?_
          refine W.iff rfl ?_
          refine W.skip (X.block_normal (X.then_code ?_))
          refine W.pick [50, 49, 48, 47, 46, 45, 44, 43, 42, 41, 40, 30, 29, 28, 27, 26, 25, 24, 23, 22, 21, 20, 5, 19, 18, 17, 16, 15, 14, 13, 10, 9, 8, 7, 6, 4, 0, 1] (Γ' := [(50, .bool false), (49, undef), (48, undef), (47, undef), (46, undef), (45, undef), (44, .bool false), (43, .bool (decide (((k : Nat) : Int) < ((by_.length : Nat) : Int)))), (42, .int .i64 ((by_.length : Nat) : Int)), (41, .slice by_a by_.length by_c), (40, .int .i64 ((k : Nat) : Int)), (30, .bool (decide ((by_.getD k 0) > (0 : Int)))), (29, .bool (decide ((by_.getD k 0) > (0 : Int)))), (28, .int .i64 (by_.getD k 0)), (27, elemPtr (.slice by_a by_.length by_c) k), (26, .int .i64 ((k : Nat) : Int)), (25, .slice by_a by_.length by_c), (24, .bool true), (23, .bool (decide (((k : Nat) : Int) < ((by_.length : Nat) : Int)))), (22, .int .i64 ((by_.length : Nat) : Int)), (21, .slice by_a by_.length by_c), (20, .int .i64 ((k : Nat) : Int)), (5, .slice a1 ((qs ++ ([l.getD k rawP0] : List RawP)).length) c1), (19, .slice a1 ((qs ++ ([l.getD k rawP0] : List RawP)).length) c1), (18, .slice (some ⟨w1.heap.size, 0, none⟩) (([l.getD k rawP0] : List RawP).length) (([l.getD k rawP0] : List RawP).length)), (17, .agg #[.slice ((l.getD k rawP0).a) (((l.getD k rawP0).d.nums).length) ((l.getD k rawP0).c), .string ((l.getD k rawP0).d.text)]), (16, elemPtr (.slice la l.length lc) (k * 2)), (15, .int .i64 ((k : Nat) : Int)), (14, .slice la l.length lc), (13, .slice qa qs.length qc), (10, .bool (decide (((k : Nat) : Int) < ((l.length : Nat) : Int)))), (9, .int .i64 ((l.length : Nat) : Int)), (8, .slice la l.length lc), (7, .int .i64 ((k : Nat) : Int)), (6, .int .i64 ((k : Nat) : Int)), (4, .slice none 0 0), (0, .slice la l.length lc), (1, .slice by_a by_.length by_c)]) rfl ?_
          refine W.region ?_
          refine WL.op rfl (d_move rfl ?_)
          refine WL.op rfl (d_add rfl rfl (by omega) (by omega) ?_)
          refine WL.op rfl (d_assign rfl ?_)
          refine WL.done ?_
          exact X.next [6, 5, 4, 0, 1] (Γ' := [(6, .int .i64 (((k + 1) : Nat) : Int)), (5, .slice a1 ((qs ++ ([l.getD k rawP0] : List RawP)).length) c1), (4, .slice none 0 0), (0, .slice la l.length lc), (1, .slice by_a by_.length by_c)]) rfl (l.length - (k + 1)) (by omega) ⟨k + 1, qs ++ ([l.getD k rawP0] : List RawP), a1, c1, ns, rfl, (H5.re rfl), (by first | assumption | omega | simp), (by first | (exfalso; omega) | skip; rw [mixD, ← hq, rds_get]; simp only [rds_app]; first | (rw [extraD, if_neg (by omega)]; simp [rdsOf]; done) | (rw [extraD, if_pos (by omega), if_neg (by omega), if_neg (by omega)]; simp [rdsOf]; done) | (rw [extraD, if_pos (by omega), if_pos (by omega)]; simp [rdsOf]; done) | (rw [extraD, if_pos (by omega), if_neg (by omega), if_pos (by omega)]; simp [rdsOf]; done)), (by simp; omega), (by first | (exfalso; omega) | skip; intro q hq9; simp only [List.mem_append, List.mem_singleton] at hq9 ⊢; first | (rcases hq9 with (h9 | rfl) | rfl; exact (hqm q h9).elim .inl (fun h => .inr (.inl h)); exact .inl (getD_mem' (by omega)); exact .inr (.inr rfl)) | (rcases hq9 with h9 | rfl; exact hqm q h9; exact .inl (getD_mem' (by omega)))), rfl⟩
    · skip
      refine WL.opN rfl rfl rfl rfl ?_
      refine WL.opN rfl rfl rfl rfl ?_
      refine WL.opN rfl rfl rfl rfl ?_
      refine WL.opN rfl rfl rfl rfl ?_
      refine WL.opN rfl rfl rfl rfl ?_
      refine WL.op rfl (d_pick rfl rfl ?_)
      refine WL.done (X.then_code ?_)
      refine W.pick [30, 29, 28, 27, 26, 25, 24, 23, 22, 21, 20, 5, 19, 18, 17, 16, 15, 14, 13, 10, 9, 8, 7, 6, 4, 0, 1] (Γ' := [(30, .bool false), (29, undef), (28, undef), (27, undef), (26, undef), (25, undef), (24, .bool false), (23, .bool (decide (((k : Nat) : Int) < ((by_.length : Nat) : Int)))), (22, .int .i64 ((by_.length : Nat) : Int)), (21, .slice by_a by_.length by_c), (20, .int .i64 ((k : Nat) : Int)), (5, .slice a1 ((qs ++ ([l.getD k rawP0] : List RawP)).length) c1), (19, .slice a1 ((qs ++ ([l.getD k rawP0] : List RawP)).length) c1), (18, .slice (some ⟨w1.heap.size, 0, none⟩) (([l.getD k rawP0] : List RawP).length) (([l.getD k rawP0] : List RawP).length)), (17, .agg #[.slice ((l.getD k rawP0).a) (((l.getD k rawP0).d.nums).length) ((l.getD k rawP0).c), .string ((l.getD k rawP0).d.text)]), (16, elemPtr (.slice la l.length lc) (k * 2)), (15, .int .i64 ((k : Nat) : Int)), (14, .slice la l.length lc), (13, .slice qa qs.length qc), (10, .bool (decide (((k : Nat) : Int) < ((l.length : Nat) : Int)))), (9, .int .i64 ((l.length : Nat) : Int)), (8, .slice la l.length lc), (7, .int .i64 ((k : Nat) : Int)), (6, .int .i64 ((k : Nat) : Int)), (4, .slice none 0 0), (0, .slice la l.length lc), (1, .slice by_a by_.length by_c)]) rfl ?_
      refine W.iff rfl ?_
      refine W.skip (X.then_code ?_)
      refine W.pick [30, 29, 28, 27, 26, 25, 24, 23, 22, 21, 20, 5, 19, 18, 17, 16, 15, 14, 13, 10, 9, 8, 7, 6, 4, 0, 1] (Γ' := [(30, .bool false), (29, undef), (28, undef), (27, undef), (26, undef), (25, undef), (24, .bool false), (23, .bool (decide (((k : Nat) : Int) < ((by_.length : Nat) : Int)))), (22, .int .i64 ((by_.length : Nat) : Int)), (21, .slice by_a by_.length by_c), (20, .int .i64 ((k : Nat) : Int)), (5, .slice a1 ((qs ++ ([l.getD k rawP0] : List RawP)).length) c1), (19, .slice a1 ((qs ++ ([l.getD k rawP0] : List RawP)).length) c1), (18, .slice (some ⟨w1.heap.size, 0, none⟩) (([l.getD k rawP0] : List RawP).length) (([l.getD k rawP0] : List RawP).length)), (17, .agg #[.slice ((l.getD k rawP0).a) (((l.getD k rawP0).d.nums).length) ((l.getD k rawP0).c), .string ((l.getD k rawP0).d.text)]), (16, elemPtr (.slice la l.length lc) (k * 2)), (15, .int .i64 ((k : Nat) : Int)), (14, .slice la l.length lc), (13, .slice qa qs.length qc), (10, .bool (decide (((k : Nat) : Int) < ((l.length : Nat) : Int)))), (9, .int .i64 ((l.length : Nat) : Int)), (8, .slice la l.length lc), (7, .int .i64 ((k : Nat) : Int)), (6, .int .i64 ((k : Nat) : Int)), (4, .slice none 0 0), (0, .slice la l.length lc), (1, .slice by_a by_.length by_c)]) rfl ?_
      refine W.seq ?_
      refine W.region ?_
      refine WL.op rfl (d_move rfl ?_)
      refine WL.op rfl (d_move rfl ?_)
      refine WL.op rfl (d_lenS Try.underlying51 rfl ?_)
      refine WL.op rfl (d_cmp (decide (((k : Nat) : Int) < ((by_.length : Nat) : Int))) rfl rfl rfl ?_)
      refine WL.op rfl (d_move rfl ?_)
      refine WL.part 44 (p := ((k : Nat) : Int) < ((by_.length : Nat) : Int)) rfl (fun g17 => ?_) (fun g17 => ?_)
      · skip
        refine WL.opG rfl rfl rfl (d_move rfl ?_)
        refine WL.opG rfl rfl rfl (d_move rfl ?_)
        refine WL.opG rfl rfl rfl (t_addr1 k (T := (tyI .i64)) rfl Try.underlying51 sz3 rfl rfl (rby_.at H5) rfl (by omega) ?_)
        refine WL.opG rfl rfl rfl (t_load1 k 0 (T := (tyI .i64)) rfl Try.underlying3 rfl rfl (rby_.at H5) (by omega) rfl ?_)
        refine WL.opG rfl rfl rfl (d_cmp (decide ((by_.getD k 0) < (0 : Int))) rfl rfl rfl ?_)
        refine WL.op rfl (d_pick rfl rfl ?_)
        refine WL.done (X.then_code ?_)
        refine W.pick [50, 49, 48, 47, 46, 45, 44, 43, 42, 41, 40, 30, 29, 28, 27, 26, 25, 24, 23, 22, 21, 20, 5, 19, 18, 17, 16, 15, 14, 13, 10, 9, 8, 7, 6, 4, 0, 1] (Γ' := [(50, .bool (decide ((by_.getD k 0) < (0 : Int)))), (49, .bool (decide ((by_.getD k 0) < (0 : Int)))), (48, .int .i64 (by_.getD k 0)), (47, elemPtr (.slice by_a by_.length by_c) k), (46, .int .i64 ((k : Nat) : Int)), (45, .slice by_a by_.length by_c), (44, .bool true), (43, .bool (decide (((k : Nat) : Int) < ((by_.length : Nat) : Int)))), (42, .int .i64 ((by_.length : Nat) : Int)), (41, .slice by_a by_.length by_c), (40, .int .i64 ((k : Nat) : Int)), (30, .bool false), (29, undef), (28, undef), (27, undef), (26, undef), (25, undef), (24, .bool false), (23, .bool (decide (((k : Nat) : Int) < ((by_.length : Nat) : Int)))), (22, .int .i64 ((by_.length : Nat) : Int)), (21, .slice by_a by_.length by_c), (20, .int .i64 ((k : Nat) : Int)), (5, .slice a1 ((qs ++ ([l.getD k rawP0] : List RawP)).length) c1), (19, .slice a1 ((qs ++ ([l.getD k rawP0] : List RawP)).length) c1), (18, .slice (some ⟨w1.heap.size, 0, none⟩) (([l.getD k rawP0] : List RawP).length) (([l.getD k rawP0] : List RawP).length)), (17, .agg #[.slice ((l.getD k rawP0).a) (((l.getD k rawP0).d.nums).length) ((l.getD k rawP0).c), .string ((l.getD k rawP0).d.text)]), (16, elemPtr (.slice la l.length lc) (k * 2)), (15, .int .i64 ((k : Nat) : Int)), (14, .slice la l.length lc), (13, .slice qa qs.length qc), (10, .bool (decide (((k : Nat) : Int) < ((l.length : Nat) : Int)))), (9, .int .i64 ((l.length : Nat) : Int)), (8, .slice la l.length lc), (7, .int .i64 ((k : Nat) : Int)), (6, .int .i64 ((k : Nat) : Int)), (4, .slice none 0 0), (0, .slice la l.length lc), (1, .slice by_a by_.length by_c)]) rfl ?_
        refine W.ite (p := (by_.getD k 0) < (0 : Int)) rfl (fun c17 => ?_) (fun c17 => ?_)
        · skip
          refine W.region ?_
          refine WL.op rfl (d_move rfl ?_)
          refine WL.op rfl (t_buildSlice (T := (tyI .i64)) (xs := [24]) (cs := #[.int .i64 24]) rfl Try.underlying51 sz3 rfl rfl rfl rfl (by kernel_rfl) rfl rfl fun w13 u12 => ?_)
          have H18 : UpG w [] w13 [[manyF inRaw.row ns], [rowT tyRawP (.slice a1 ((qs ++ ([l.getD k rawP0] : List RawP)).length) c1) 53 (qs ++ ([l.getD k rawP0] : List RawP))], [], [rowT (tyI .i64) (.slice (some ⟨w3.heap.size, 0, none⟩) ([24].length) ([24].length)) 3 [24]]] := H5.new' u12
          refine WL.op rfl (d_build (cs := #[.slice (some ⟨w3.heap.size, 0, none⟩) ([24].length) ([24].length), .string ⟨#[]⟩]) rfl (by kernel_rfl) ?_)
          refine WL.op rfl (t_buildSlice (T := tyRawP) (xs := ([⟨(some ⟨w3.heap.size, 0, none⟩), [24].length, ⟨[24], ⟨#[]⟩⟩⟩] : List RawP)) (cs := #[.slice (some ⟨w3.heap.size, 0, none⟩) ([24].length) ([24].length), .string ⟨#[]⟩]) rfl Try.underlying70 sz53 rfl rfl rfl rfl (by kernel_rfl) rfl rfl fun w14 u13 => ?_)
          have H19 : UpG w [] w14 [[manyF inRaw.row ns], [rowT tyRawP (.slice a1 ((qs ++ ([l.getD k rawP0] : List RawP)).length) c1) 53 (qs ++ ([l.getD k rawP0] : List RawP))], [], [rowT (tyI .i64) (.slice (some ⟨w3.heap.size, 0, none⟩) ([24].length) ([24].length)) 3 [24]], [rowT tyRawP (.slice (some ⟨w13.heap.size, 0, none⟩) (([⟨(some ⟨w3.heap.size, 0, none⟩), [24].length, ⟨[24], ⟨#[]⟩⟩⟩] : List RawP).length) (([⟨(some ⟨w3.heap.size, 0, none⟩), [24].length, ⟨[24], ⟨#[]⟩⟩⟩] : List RawP).length)) 53 ([⟨(some ⟨w3.heap.size, 0, none⟩), [24].length, ⟨[24], ⟨#[]⟩⟩⟩] : List RawP)]] := H18.new' u13
          refine WL.op rfl (t_append (T := tyRawP) (xs := (qs ++ ([l.getD k rawP0] : List RawP))) (ys := ([⟨(some ⟨w3.heap.size, 0, none⟩), [24].length, ⟨[24], ⟨#[]⟩⟩⟩] : List RawP)) rfl Try.underlying70 sz53 rfl rfl rfl (H19.ownT 1 rfl) (H19.rdT 4 rfl) (by simp; omega) (by simp; omega) fun a5 c5 w15 u14 => ?_)
          have H20 : UpG w [] w15 [[manyF inRaw.row ns], [rowT tyRawP (.slice a5 (((qs ++ ([l.getD k rawP0] : List RawP)) ++ ([⟨(some ⟨w3.heap.size, 0, none⟩), [24].length, ⟨[24], ⟨#[]⟩⟩⟩] : List RawP)).length) c5) 53 ((qs ++ ([l.getD k rawP0] : List RawP)) ++ ([⟨(some ⟨w3.heap.size, 0, none⟩), [24].length, ⟨[24], ⟨#[]⟩⟩⟩] : List RawP))], [], [rowT (tyI .i64) (.slice (some ⟨w3.heap.size, 0, none⟩) ([24].length) ([24].length)) 3 [24]], []] := (H19.on 1 rfl u14).drop 4
          have H21 : UpG w [] w15 [[manyF inRaw.row (ns ++ [⟨(some ⟨w3.heap.size, 0, none⟩), [24].length, ⟨[24], ⟨#[]⟩⟩⟩])], [rowT tyRawP (.slice a5 (((qs ++ ([l.getD k rawP0] : List RawP)) ++ ([⟨(some ⟨w3.heap.size, 0, none⟩), [24].length, ⟨[24], ⟨#[]⟩⟩⟩] : List RawP)).length) c5) 53 ((qs ++ ([l.getD k rawP0] : List RawP)) ++ ([⟨(some ⟨w3.heap.size, 0, none⟩), [24].length, ⟨[24], ⟨#[]⟩⟩⟩] : List RawP))], [], [], []] := (UpG.absorb (f := inRaw.row) (⟨(some ⟨w3.heap.size, 0, none⟩), [24].length, ⟨[24], ⟨#[]⟩⟩⟩ : RawP) H20 0 3 rfl rfl rfl).re rfl
          refine WL.op rfl (d_assign rfl ?_)
          refine WL.done (X.block_normal (X.then_code ?_))
          refine W.pick [5, 55, 54, 53, 52, 51, 50, 49, 48, 47, 46, 45, 44, 43, 42, 41, 40, 30, 29, 28, 27, 26, 25, 24, 23, 22, 21, 20, 19, 18, 17, 16, 15, 14, 13, 10, 9, 8, 7, 6, 4, 0, 1] (Γ' := [(5, .slice a5 (((qs ++ ([l.getD k rawP0] : List RawP)) ++ ([⟨(some ⟨w3.heap.size, 0, none⟩), [24].length, ⟨[24], ⟨#[]⟩⟩⟩] : List RawP)).length) c5), (55, .slice a5 (((qs ++ ([l.getD k rawP0] : List RawP)) ++ ([⟨(some ⟨w3.heap.size, 0, none⟩), [24].length, ⟨[24], ⟨#[]⟩⟩⟩] : List RawP)).length) c5), (54, .slice (some ⟨w13.heap.size, 0, none⟩) (([⟨(some ⟨w3.heap.size, 0, none⟩), [24].length, ⟨[24], ⟨#[]⟩⟩⟩] : List RawP).length) (([⟨(some ⟨w3.heap.size, 0, none⟩), [24].length, ⟨[24], ⟨#[]⟩⟩⟩] : List RawP).length)), (53, .agg #[.slice (some ⟨w3.heap.size, 0, none⟩) ([24].length) ([24].length), .string ⟨#[]⟩]), (52, .slice (some ⟨w3.heap.size, 0, none⟩) ([24].length) ([24].length)), (51, .slice a1 ((qs ++ ([l.getD k rawP0] : List RawP)).length) c1), (50, .bool (decide ((by_.getD k 0) < (0 : Int)))), (49, .bool (decide ((by_.getD k 0) < (0 : Int)))), (48, .int .i64 (by_.getD k 0)), (47, elemPtr (.slice by_a by_.length by_c) k), (46, .int .i64 ((k : Nat) : Int)), (45, .slice by_a by_.length by_c), (44, .bool true), (43, .bool (decide (((k : Nat) : Int) < ((by_.length : Nat) : Int)))), (42, .int .i64 ((by_.length : Nat) : Int)), (41, .slice by_a by_.length by_c), (40, .int .i64 ((k : Nat) : Int)), (30, .bool false), (29, undef), (28, undef), (27, undef), (26, undef), (25, undef), (24, .bool false), (23, .bool (decide (((k : Nat) : Int) < ((by_.length : Nat) : Int)))), (22, .int .i64 ((by_.length : Nat) : Int)), (21, .slice by_a by_.length by_c), (20, .int .i64 ((k : Nat) : Int)), (19, .slice a1 ((qs ++ ([l.getD k rawP0] : List RawP)).length) c1), (18, .slice (some ⟨w1.heap.size, 0, none⟩) (([l.getD k rawP0] : List RawP).length) (([l.getD k rawP0] : List RawP).length)), (17, .agg #[.slice ((l.getD k rawP0).a) (((l.getD k rawP0).d.nums).length) ((l.getD k rawP0).c), .string ((l.getD k rawP0).d.text)]), (16, elemPtr (.slice la l.length lc) (k * 2)), (15, .int .i64 ((k : Nat) : Int)), (14, .slice la l.length lc), (13, .slice qa qs.length qc), (10, .bool (decide (((k : Nat) : Int) < ((l.length : Nat) : Int)))), (9, .int .i64 ((l.length : Nat) : Int)), (8, .slice la l.length lc), (7, .int .i64 ((k : Nat) : Int)), (6, .int .i64 ((k : Nat) : Int)), (4, .slice none 0 0), (0, .slice la l.length lc), (1, .slice by_a by_.length by_c)]) rfl ?_
          refine W.region ?_
          refine WL.op rfl (d_move rfl ?_)
          refine WL.op rfl (d_add rfl rfl (by omega) (by omega) ?_)
          refine WL.op rfl (d_assign rfl ?_)
          refine WL.done ?_
          exact X.next [6, 5, 4, 0, 1] (Γ' := [(6, .int .i64 (((k + 1) : Nat) : Int)), (5, .slice a5 (((qs ++ ([l.getD k rawP0] : List RawP)) ++ ([⟨(some ⟨w3.heap.size, 0, none⟩), [24].length, ⟨[24], ⟨#[]⟩⟩⟩] : List RawP)).length) c5), (4, .slice none 0 0), (0, .slice la l.length lc), (1, .slice by_a by_.length by_c)]) rfl (l.length - (k + 1)) (by omega) ⟨k + 1, (qs ++ ([l.getD k rawP0] : List RawP)) ++ ([⟨(some ⟨w3.heap.size, 0, none⟩), [24].length, ⟨[24], ⟨#[]⟩⟩⟩] : List RawP), a5, c5, ns ++ [⟨(some ⟨w3.heap.size, 0, none⟩), [24].length, ⟨[24], ⟨#[]⟩⟩⟩], rfl, (H21.re rfl), (by first | assumption | omega | simp), (by first | (exfalso; omega) | skip; rw [mixD, ← hq, rds_get]; simp only [rds_app]; first | (rw [extraD, if_neg (by omega)]; simp [rdsOf]; done) | (rw [extraD, if_pos (by omega), if_neg (by omega), if_neg (by omega)]; simp [rdsOf]; done) | (rw [extraD, if_pos (by omega), if_pos (by omega)]; simp [rdsOf]; done) | (rw [extraD, if_pos (by omega), if_neg (by omega), if_pos (by omega)]; simp [rdsOf]; done)), (by simp; omega), (by first | (exfalso; omega) | skip; intro q hq9; simp only [List.mem_append, List.mem_singleton] at hq9 ⊢; first | (rcases hq9 with (h9 | rfl) | rfl; exact (hqm q h9).elim .inl (fun h => .inr (.inl h)); exact .inl (getD_mem' (by omega)); exact .inr (.inr rfl)) | (rcases hq9 with h9 | rfl; exact hqm q h9; exact .inl (getD_mem' (by omega)))), rfl⟩
        · skip
          refine W.skip (X.block_normal (X.then_code ?_))
          refine W.pick [50, 49, 48, 47, 46, 45, 44, 43, 42, 41, 40, 30, 29, 28, 27, 26, 25, 24, 23, 22, 21, 20, 5, 19, 18, 17, 16, 15, 14, 13, 10, 9, 8, 7, 6, 4, 0, 1] (Γ' := [(50, .bool (decide ((by_.getD k 0) < (0 : Int)))), (49, .bool (decide ((by_.getD k 0) < (0 : Int)))), (48, .int .i64 (by_.getD k 0)), (47, elemPtr (.slice by_a by_.length by_c) k), (46, .int .i64 ((k : Nat) : Int)), (45, .slice by_a by_.length by_c), (44, .bool true), (43, .bool (decide (((k : Nat) : Int) < ((by_.length : Nat) : Int)))), (42, .int .i64 ((by_.length : Nat) : Int)), (41, .slice by_a by_.length by_c), (40, .int .i64 ((k : Nat) : Int)), (30, .bool false), (29, undef), (28, undef), (27, undef), (26, undef), (25, undef), (24, .bool false), (23, .bool (decide (((k : Nat) : Int) < ((by_.length : Nat) : Int)))), (22, .int .i64 ((by_.length : Nat) : Int)), (21, .slice by_a by_.length by_c), (20, .int .i64 ((k : Nat) : Int)), (5, .slice a1 ((qs ++ ([l.getD k rawP0] : List RawP)).length) c1), (19, .slice a1 ((qs ++ ([l.getD k rawP0] : List RawP)).length) c1), (18, .slice (some ⟨w1.heap.size, 0, none⟩) (([l.getD k rawP0] : List RawP).length) (([l.getD k rawP0] : List RawP).length)), (17, .agg #[.slice ((l.getD k rawP0).a) (((l.getD k rawP0).d.nums).length) ((l.getD k rawP0).c), .string ((l.getD k rawP0).d.text)]), (16, elemPtr (.slice la l.length lc) (k * 2)), (15, .int .i64 ((k : Nat) : Int)), (14, .slice la l.length lc), (13, .slice qa qs.length qc), (10, .bool (decide (((k : Nat) : Int) < ((l.length : Nat) : Int)))), (9, .int .i64 ((l.length : Nat) : Int)), (8, .slice la l.length lc), (7, .int .i64 ((k : Nat) : Int)), (6, .int .i64 ((k : Nat) : Int)), (4, .slice none 0 0), (0, .slice la l.length lc), (1, .slice by_a by_.length by_c)]) rfl ?_
          refine W.region ?_
          refine WL.op rfl (d_move rfl ?_)
          refine WL.op rfl (d_add rfl rfl (by omega) (by omega) ?_)
          refine WL.op rfl (d_assign rfl ?_)
          refine WL.done ?_
          exact X.next [6, 5, 4, 0, 1] (Γ' := [(6, .int .i64 (((k + 1) : Nat) : Int)), (5, .slice a1 ((qs ++ ([l.getD k rawP0] : List RawP)).length) c1), (4, .slice none 0 0), (0, .slice la l.length lc), (1, .slice by_a by_.length by_c)]) rfl (l.length - (k + 1)) (by omega) ⟨k + 1, qs ++ ([l.getD k rawP0] : List RawP), a1, c1, ns, rfl, (H5.re rfl), (by first | assumption | omega | simp), (by first | (exfalso; omega) | skip; rw [mixD, ← hq, rds_get]; simp only [rds_app]; first | (rw [extraD, if_neg (by omega)]; simp [rdsOf]; done) | (rw [extraD, if_pos (by omega), if_neg (by omega), if_neg (by omega)]; simp [rdsOf]; done) | (rw [extraD, if_pos (by omega), if_pos (by omega)]; simp [rdsOf]; done) | (rw [extraD, if_pos (by omega), if_neg (by omega), if_pos (by omega)]; simp [rdsOf]; done)), (by simp; omega), (by first | (exfalso; omega) | skip; intro q hq9; simp only [List.mem_append, List.mem_singleton] at hq9 ⊢; first | (rcases hq9 with (h9 | rfl) | rfl; exact (hqm q h9).elim .inl (fun h => .inr (.inl h)); exact .inl (getD_mem' (by omega)); exact .inr (.inr rfl)) | (rcases hq9 with h9 | rfl; exact hqm q h9; exact .inl (getD_mem' (by omega)))), rfl⟩
      · skip
        refine WL.opN rfl rfl rfl rfl ?_
        refine WL.opN rfl rfl rfl rfl ?_
        refine WL.opN rfl rfl rfl rfl ?_
        refine WL.opN rfl rfl rfl rfl ?_
        refine WL.opN rfl rfl rfl rfl ?_
        refine WL.op rfl (d_pick rfl rfl ?_)
        refine WL.done (X.then_code ?_)
        refine W.pick [50, 49, 48, 47, 46, 45, 44, 43, 42, 41, 40, 30, 29, 28, 27, 26, 25, 24, 23, 22, 21, 20, 5, 19, 18, 17, 16, 15, 14, 13, 10, 9, 8, 7, 6, 4, 0, 1] (Γ' := [(50, .bool false), (49, undef), (48, undef), (47, undef), (46, undef), (45, undef), (44, .bool false), (43, .bool (decide (((k : Nat) : Int) < ((by_.length : Nat) : Int)))), (42, .int .i64 ((by_.length : Nat) : Int)), (41, .slice by_a by_.length by_c), (40, .int .i64 ((k : Nat) : Int)), (30, .bool false), (29, undef), (28, undef), (27, undef), (26, undef), (25, undef), (24, .bool false), (23, .bool (decide (((k : Nat) : Int) < ((by_.length : Nat) : Int)))), (22, .int .i64 ((by_.length : Nat) : Int)), (21, .slice by_a by_.length by_c), (20, .int .i64 ((k : Nat) : Int)), (5, .slice a1 ((qs ++ ([l.getD k rawP0] : List RawP)).length) c1), (19, .slice a1 ((qs ++ ([l.getD k rawP0] : List RawP)).length) c1), (18, .slice (some ⟨w1.heap.size, 0, none⟩) (([l.getD k rawP0] : List RawP).length) (([l.getD k rawP0] : List RawP).length)), (17, .agg #[.slice ((l.getD k rawP0).a) (((l.getD k rawP0).d.nums).length) ((l.getD k rawP0).c), .string ((l.getD k rawP0).d.text)]), (16, elemPtr (.slice la l.length lc) (k * 2)), (15, .int .i64 ((k : Nat) : Int)), (14, .slice la l.length lc), (13, .slice qa qs.length qc), (10, .bool (decide (((k : Nat) : Int) < ((l.length : Nat) : Int)))), (9, .int .i64 ((l.length : Nat) : Int)), (8, .slice la l.length lc), (7, .int .i64 ((k : Nat) : Int)), (6, .int .i64 ((k : Nat) : Int)), (4, .slice none 0 0), (0, .slice la l.length lc), (1, .slice by_a by_.length by_c)]) rfl ?_
        refine W.iff rfl ?_
        refine W.skip (X.block_normal (X.then_code ?_))
        refine W.pick [50, 49, 48, 47, 46, 45, 44, 43, 42, 41, 40, 30, 29, 28, 27, 26, 25, 24, 23, 22, 21, 20, 5, 19, 18, 17, 16, 15, 14, 13, 10, 9, 8, 7, 6, 4, 0, 1] (Γ' := [(50, .bool false), (49, undef), (48, undef), (47, undef), (46, undef), (45, undef), (44, .bool false), (43, .bool (decide (((k : Nat) : Int) < ((by_.length : Nat) : Int)))), (42, .int .i64 ((by_.length : Nat) : Int)), (41, .slice by_a by_.length by_c), (40, .int .i64 ((k : Nat) : Int)), (30, .bool false), (29, undef), (28, undef), (27, undef), (26, undef), (25, undef), (24, .bool false), (23, .bool (decide (((k : Nat) : Int) < ((by_.length : Nat) : Int)))), (22, .int .i64 ((by_.length : Nat) : Int)), (21, .slice by_a by_.length by_c), (20, .int .i64 ((k : Nat) : Int)), (5, .slice a1 ((qs ++ ([l.getD k rawP0] : List RawP)).length) c1), (19, .slice a1 ((qs ++ ([l.getD k rawP0] : List RawP)).length) c1), (18, .slice (some ⟨w1.heap.size, 0, none⟩) (([l.getD k rawP0] : List RawP).length) (([l.getD k rawP0] : List RawP).length)), (17, .agg #[.slice ((l.getD k rawP0).a) (((l.getD k rawP0).d.nums).length) ((l.getD k rawP0).c), .string ((l.getD k rawP0).d.text)]), (16, elemPtr (.slice la l.length lc) (k * 2)), (15, .int .i64 ((k : Nat) : Int)), (14, .slice la l.length lc), (13, .slice qa qs.length qc), (10, .bool (decide (((k : Nat) : Int) < ((l.length : Nat) : Int)))), (9, .int .i64 ((l.length : Nat) : Int)), (8, .slice la l.length lc), (7, .int .i64 ((k : Nat) : Int)), (6, .int .i64 ((k : Nat) : Int)), (4, .slice none 0 0), (0, .slice la l.length lc), (1, .slice by_a by_.length by_c)]) rfl ?_
        refine W.region ?_
        refine WL.op rfl (d_move rfl ?_)
        refine WL.op rfl (d_add rfl rfl (by omega) (by omega) ?_)
        refine WL.op rfl (d_assign rfl ?_)
        refine WL.done ?_
        exact X.next [6, 5, 4, 0, 1] (Γ' := [(6, .int .i64 (((k + 1) : Nat) : Int)), (5, .slice a1 ((qs ++ ([l.getD k rawP0] : List RawP)).length) c1), (4, .slice none 0 0), (0, .slice la l.length lc), (1, .slice by_a by_.length by_c)]) rfl (l.length - (k + 1)) (by omega) ⟨k + 1, qs ++ ([l.getD k rawP0] : List RawP), a1, c1, ns, rfl, (H5.re rfl), (by first | assumption | omega | simp), (by first | (exfalso; omega) | skip; rw [mixD, ← hq, rds_get]; simp only [rds_app]; first | (rw [extraD, if_neg (by omega)]; simp [rdsOf]; done) | (rw [extraD, if_pos (by omega), if_neg (by omega), if_neg (by omega)]; simp [rdsOf]; done) | (rw [extraD, if_pos (by omega), if_pos (by omega)]; simp [rdsOf]; done) | (rw [extraD, if_pos (by omega), if_neg (by omega), if_pos (by omega)]; simp [rdsOf]; done)), (by simp; omega), (by first | (exfalso; omega) | skip; intro q hq9; simp only [List.mem_append, List.mem_singleton] at hq9 ⊢; first | (rcases hq9 with (h9 | rfl) | rfl; exact (hqm q h9).elim .inl (fun h => .inr (.inl h)); exact .inl (getD_mem' (by omega)); exact .inr (.inr rfl)) | (rcases hq9 with h9 | rfl; exact hqm q h9; exact .inl (getD_mem' (by omega)))), rfl⟩
  · skip
    refine W.exit (X.then_exit (X.then_exit (X.block_exit (X.then_code ?_))))
    refine W.seq ?_
    refine W.region ?_
    refine WL.op rfl (d_move rfl ?_)
    refine WL.op rfl (d_assign rfl ?_)
    refine WL.done (X.then_code ?_)
    refine W.ret (X.ret1 rfl rfl ?_)
    exact ⟨qa, qs, qc, _, rfl, (Upd.sel H3 (l := [1, 0]) rfl rfl), (by rw [hq, show k = l.length by omega]), hqm, (by omega)⟩

set_option maxRecDepth 20000 in
theorem rawsSame_any (aa : Option Addr) (a : List RawP) (ac : Nat) (ba : Option Addr) (b : List RawP) (bc : Nat) (w : World) (ra : RdT tyRawP w (.slice aa a.length ac) a) (rb : RdT tyRawP w (.slice ba b.length bc) b) (da : inRaw.Rd w a) (db : inRaw.Rd w b) :
    Calls Try.prog 35 #[.slice aa a.length ac, .slice ba b.length bc] w (Ret fun v w' => v = .bool (decide (rdsOf a = rdsOf b)) ∧ Upd w [] w' []) := by
  have le_ra := ra.le
  have le_rb := rb.le
  refine calls_of_W (args := [.slice aa a.length ac, .slice ba b.length bc]) Try.func35 rfl rfl rfl ?_
  have H0 : UpG w [] w [] := UpG.nil w
  show W _ _ _ _ [(0, .slice aa a.length ac), (1, .slice ba b.length bc)] w
  refine W.seq ?_
  refine W.region ?_
  refine WL.op rfl (d_assign rfl ?_)
  refine WL.done (X.then_code ?_)
  refine W.seq ?_
  refine W.seq ?_
  refine W.region ?_
  refine WL.op rfl (d_move rfl ?_)
  refine WL.op rfl (d_lenS Try.underlying70 rfl ?_)
  refine WL.op rfl (d_move rfl ?_)
  refine WL.op rfl (d_lenS Try.underlying70 rfl ?_)
  refine WL.op rfl (d_cmp (decide (((a.length : Nat) : Int) ≠ ((b.length : Nat) : Int))) rfl rfl rfl ?_)
  refine WL.done (X.then_code ?_)
  refine W.ite (p := ((a.length : Nat) : Int) ≠ ((b.length : Nat) : Int)) rfl (fun c81 => ?_) (fun c81 => ?_)
  · skip
    refine W.seq ?_
    refine W.region ?_
    refine WL.op rfl (d_assign rfl ?_)
    refine WL.done (X.then_code ?_)
    refine W.ret (X.then_ret (X.ret1 rfl rfl ?_))
    have hne : ¬ rdsOf a = rdsOf b := fun h => by have h9 := congrArg List.length h; rw [rds_len, rds_len] at h9; omega
    exact ⟨(by rw [decide_eq_false hne]), H0.noneL⟩
  · skip
    refine W.skip (X.then_code ?_)
    refine W.seq ?_
    refine W.seq ?_
    refine W.region ?_
    refine WL.op rfl (d_assign rfl ?_)
    refine WL.done (X.then_code ?_)
    refine W.block ?_
    refine W.pick [5, 4, 0, 1] (Γ' := [(5, .int .i64 0), (4, .bool false), (0, .slice aa a.length ac), (1, .slice ba b.length bc)]) rfl ?_
    refine W.loop (fun m Γ' w' => ∃ k : Nat, Γ' = [(5, .int .i64 ((k : Nat) : Int)), (4, .bool false), (0, .slice aa a.length ac), (1, .slice ba b.length bc)] ∧ UpG w [] w' [] ∧ (k ≤ a.length) ∧ ((rdsOf a).take k = (rdsOf b).take k) ∧ m = a.length - k) (a.length - 0) ⟨0, rfl, H0, (by first | assumption | omega | simp), (by simp), rfl⟩ ?_
    rintro m1 Γ1 w1 ⟨k, rfl, H1, hk, hs, rfl⟩
    refine W.seq ?_
    refine W.seq ?_
    refine W.region ?_
    refine WL.op rfl (d_move rfl ?_)
    refine WL.op rfl (d_move rfl ?_)
    refine WL.op rfl (d_lenS Try.underlying70 rfl ?_)
    refine WL.op rfl (d_cmp (decide (((k : Nat) : Int) < ((a.length : Nat) : Int))) rfl rfl rfl ?_)
    refine WL.done (X.then_code ?_)
    refine W.ite (p := ((k : Nat) : Int) < ((a.length : Nat) : Int)) rfl (fun c84 => ?_) (fun c84 => ?_)
    · skip
      refine W.skip (X.then_code ?_)
      refine W.seq ?_
      refine W.block ?_
      refine W.seq ?_
      refine W.regionD mixed (by kernel_rfl) fun hok1 w2 k1 => ?_
      have H2 : UpG w [] w2 [] := H1.kept k1
      refine WD.take hok1 0 (.slice aa a.length ac) (fun _ => True) rfl rfl rfl rfl rfl trivial (.inl ⟨rfl, fun _ _ => d_move rfl ⟨rfl, rfl⟩⟩) ?_
      refine WD.take hok1 1 (.int .i64 ((k : Nat) : Int)) (fun _ => True) rfl rfl rfl rfl rfl trivial (.inl ⟨rfl, fun _ _ => d_move rfl ⟨rfl, rfl⟩⟩) ?_
      refine WD.take hok1 2 (elemPtr (.slice aa a.length ac) (k * 2)) (fun w' => RdT tyRawP w' (.slice aa a.length ac) a) rfl rfl rfl rfl rfl (ra.at H2) (.inl ⟨rfl, fun _ hC => t_addrN k (T := tyRawP) rfl Try.underlying70 sz53 rfl rfl hC rfl (by omega) ⟨rfl, rfl⟩⟩) ?_
      refine WD.take hok1 3 (.agg #[.slice ((a.getD k rawP0).a) (((a.getD k rawP0).d.nums).length) ((a.getD k rawP0).c), .string ((a.getD k rawP0).d.text)]) (fun w' => RdT tyRawP w' (.slice aa a.length ac) a) rfl rfl rfl rfl rfl (ra.at H2) (.inl ⟨rfl, fun _ hC => t_loadN k rawP0 (T := tyRawP) (us := [.slice ((a.getD k rawP0).a) (((a.getD k rawP0).d.nums).length) ((a.getD k rawP0).c), .string ((a.getD k rawP0).d.text)]) rfl Try.underlying53 rfl sz53 rfl hC (by omega) rfl ⟨rfl, rfl⟩⟩) ?_
      refine WD.take hok1 4 (.slice ba b.length bc) (fun _ => True) rfl rfl rfl rfl rfl trivial (.inl ⟨rfl, fun _ _ => d_move rfl ⟨rfl, rfl⟩⟩) ?_
      refine WD.take hok1 5 (.int .i64 ((k : Nat) : Int)) (fun _ => True) rfl rfl rfl rfl rfl trivial (.inl ⟨rfl, fun _ _ => d_move rfl ⟨rfl, rfl⟩⟩) ?_
      refine WD.take hok1 6 (elemPtr (.slice ba b.length bc) (k * 2)) (fun w' => RdT tyRawP w' (.slice ba b.length bc) b) rfl rfl rfl rfl rfl (rb.at H2) (.inl ⟨rfl, fun _ hC => t_addrN k (T := tyRawP) rfl Try.underlying70 sz53 rfl rfl hC rfl (by omega) ⟨rfl, rfl⟩⟩) ?_
      refine WD.take hok1 7 (.agg #[.slice ((b.getD k rawP0).a) (((b.getD k rawP0).d.nums).length) ((b.getD k rawP0).c), .string ((b.getD k rawP0).d.text)]) (fun w' => RdT tyRawP w' (.slice ba b.length bc) b) rfl rfl rfl rfl rfl (rb.at H2) (.inl ⟨rfl, fun _ hC => t_loadN k rawP0 (T := tyRawP) (us := [.slice ((b.getD k rawP0).a) (((b.getD k rawP0).d.nums).length) ((b.getD k rawP0).c), .string ((b.getD k rawP0).d.text)]) rfl Try.underlying53 rfl sz53 rfl hC (by omega) rfl ⟨rfl, rfl⟩⟩) ?_
      refine WD.loud hok1 8 rfl (⟨_, [], rfl, rfl, rfl, rfl, rfl, rfl, d_call ok28 rfl (Ret.calls (rawSame_any ((a.getD k rawP0).d) ((a.getD k rawP0).a) ((a.getD k rawP0).c) ((b.getD k rawP0).d) ((b.getD k rawP0).a) ((b.getD k rawP0).c) w2 (show RdT (tyI .i64) w2 (.slice ((a.getD k rawP0).a) (((a.getD k rawP0).d.nums).length) ((a.getD k rawP0).c)) ((a.getD k rawP0).d.nums) from (da.at H2).get rawP0 k (by omega)) (show RdT (tyI .i64) w2 (.slice ((b.getD k rawP0).a) (((b.getD k rawP0).d.nums).length) ((b.getD k rawP0).c)) ((b.getD k rawP0).d.nums) from (db.at H2).get rawP0 k (by omega)) ) fun _ w3 p1 => ?_)⟩)
      obtain ⟨rfl, u1⟩ := p1
      have H3 : UpG w [] w3 [] := H2.call u1
      refine ⟨trivial, ?_⟩
      refine WD.take hok1 9 (.bool (!(decide (((a.getD k rawP0).d.nums) = ((b.getD k rawP0).d.nums) ∧ ((a.getD k rawP0).d.text) = ((b.getD k rawP0).d.text))))) (fun _ => True) rfl rfl rfl rfl rfl trivial (.inl ⟨rfl, fun _ _ => d_notB rfl ⟨rfl, rfl⟩⟩) ?_
      refine WD.done hok1 rfl (X.then_code ?_)
      refine W.pick [26, 25, 24, 23, 22, 21, 20, 19, 18, 17, 14, 13, 12, 11, 5, 4, 0, 1] (Γ' := [(26, .bool (!(decide (((a.getD k rawP0).d.nums) = ((b.getD k rawP0).d.nums) ∧ ((a.getD k rawP0).d.text) = ((b.getD k rawP0).d.text))))), (25, .bool (decide (((a.getD k rawP0).d.nums) = ((b.getD k rawP0).d.nums) ∧ ((a.getD k rawP0).d.text) = ((b.getD k rawP0).d.text)))), (24, .agg #[.slice ((b.getD k rawP0).a) (((b.getD k rawP0).d.nums).length) ((b.getD k rawP0).c), .string ((b.getD k rawP0).d.text)]), (23, elemPtr (.slice ba b.length bc) (k * 2)), (22, .int .i64 ((k : Nat) : Int)), (21, .slice ba b.length bc), (20, .agg #[.slice ((a.getD k rawP0).a) (((a.getD k rawP0).d.nums).length) ((a.getD k rawP0).c), .string ((a.getD k rawP0).d.text)]), (19, elemPtr (.slice aa a.length ac) (k * 2)), (18, .int .i64 ((k : Nat) : Int)), (17, .slice aa a.length ac), (14, .bool (decide (((k : Nat) : Int) < ((a.length : Nat) : Int)))), (13, .int .i64 ((a.length : Nat) : Int)), (12, .slice aa a.length ac), (11, .int .i64 ((k : Nat) : Int)), (5, .int .i64 ((k : Nat) : Int)), (4, .bool false), (0, .slice aa a.length ac), (1, .slice ba b.length bc)]) rfl ?_
      refine W.iteB (b := !(decide (((a.getD k rawP0).d.nums) = ((b.getD k rawP0).d.nums) ∧ ((a.getD k rawP0).d.text) = ((b.getD k rawP0).d.text)))) rfl (fun c85 => ?_) (fun c85 => ?_)
      · skip
        refine W.seq ?_
        refine W.region ?_
        refine WL.op rfl (d_assign rfl ?_)
        refine WL.done (X.then_code ?_)
        refine W.pick [4, 26, 25, 24, 23, 22, 21, 20, 19, 18, 17, 14, 13, 12, 11, 5, 0, 1] (Γ' := [(4, .bool false), (26, .bool (!(decide (((a.getD k rawP0).d.nums) = ((b.getD k rawP0).d.nums) ∧ ((a.getD k rawP0).d.text) = ((b.getD k rawP0).d.text))))), (25, .bool (decide (((a.getD k rawP0).d.nums) = ((b.getD k rawP0).d.nums) ∧ ((a.getD k rawP0).d.text) = ((b.getD k rawP0).d.text)))), (24, .agg #[.slice ((b.getD k rawP0).a) (((b.getD k rawP0).d.nums).length) ((b.getD k rawP0).c), .string ((b.getD k rawP0).d.text)]), (23, elemPtr (.slice ba b.length bc) (k * 2)), (22, .int .i64 ((k : Nat) : Int)), (21, .slice ba b.length bc), (20, .agg #[.slice ((a.getD k rawP0).a) (((a.getD k rawP0).d.nums).length) ((a.getD k rawP0).c), .string ((a.getD k rawP0).d.text)]), (19, elemPtr (.slice aa a.length ac) (k * 2)), (18, .int .i64 ((k : Nat) : Int)), (17, .slice aa a.length ac), (14, .bool (decide (((k : Nat) : Int) < ((a.length : Nat) : Int)))), (13, .int .i64 ((a.length : Nat) : Int)), (12, .slice aa a.length ac), (11, .int .i64 ((k : Nat) : Int)), (5, .int .i64 ((k : Nat) : Int)), (0, .slice aa a.length ac), (1, .slice ba b.length bc)]) rfl ?_
        refine W.ret (X.block_ret (X.then_ret (X.then_ret (X.block_ret (X.then_ret (X.ret1 rfl rfl ?_))))))
        have hne : ¬ rdsOf a = rdsOf b := fun h => by have h9 : (a.getD k rawP0).d = (b.getD k rawP0).d := by { rw [← rds_get, ← rds_get, h] }; rw [h9] at c85; simp at c85
        exact ⟨(by rw [decide_eq_false hne]), H3.noneL⟩
      · skip
        refine W.skip (X.block_normal (X.then_code ?_))
        refine W.pick [26, 25, 24, 23, 22, 21, 20, 19, 18, 17, 14, 13, 12, 11, 5, 4, 0, 1] (Γ' := [(26, .bool (!(decide (((a.getD k rawP0).d.nums) = ((b.getD k rawP0).d.nums) ∧ ((a.getD k rawP0).d.text) = ((b.getD k rawP0).d.text))))), (25, .bool (decide (((a.getD k rawP0).d.nums) = ((b.getD k rawP0).d.nums) ∧ ((a.getD k rawP0).d.text) = ((b.getD k rawP0).d.text)))), (24, .agg #[.slice ((b.getD k rawP0).a) (((b.getD k rawP0).d.nums).length) ((b.getD k rawP0).c), .string ((b.getD k rawP0).d.text)]), (23, elemPtr (.slice ba b.length bc) (k * 2)), (22, .int .i64 ((k : Nat) : Int)), (21, .slice ba b.length bc), (20, .agg #[.slice ((a.getD k rawP0).a) (((a.getD k rawP0).d.nums).length) ((a.getD k rawP0).c), .string ((a.getD k rawP0).d.text)]), (19, elemPtr (.slice aa a.length ac) (k * 2)), (18, .int .i64 ((k : Nat) : Int)), (17, .slice aa a.length ac), (14, .bool (decide (((k : Nat) : Int) < ((a.length : Nat) : Int)))), (13, .int .i64 ((a.length : Nat) : Int)), (12, .slice aa a.length ac), (11, .int .i64 ((k : Nat) : Int)), (5, .int .i64 ((k : Nat) : Int)), (4, .bool false), (0, .slice aa a.length ac), (1, .slice ba b.length bc)]) rfl ?_
        refine W.region ?_
        refine WL.op rfl (d_move rfl ?_)
        refine WL.op rfl (d_add rfl rfl (by omega) (by omega) ?_)
        refine WL.op rfl (d_assign rfl ?_)
        refine WL.done ?_
        exact X.next [5, 4, 0, 1] (Γ' := [(5, .int .i64 (((k + 1) : Nat) : Int)), (4, .bool false), (0, .slice aa a.length ac), (1, .slice ba b.length bc)]) rfl (a.length - (k + 1)) (by omega) ⟨k + 1, rfl, H3, (by first | assumption | omega | simp), (by exact take_sameR hs (by omega) (by omega) (by simpa using c85)), rfl⟩
    · skip
      refine W.exit (X.then_exit (X.then_exit (X.block_exit (X.then_code ?_))))
      refine W.seq ?_
      refine W.region ?_
      refine WL.op rfl (d_assign rfl ?_)
      refine WL.done (X.then_code ?_)
      refine W.ret (X.ret1 rfl rfl ?_)
      have he : rdsOf a = rdsOf b := same_takeR hs (by omega) (by omega)
      exact ⟨(by rw [decide_eq_true he]), H1.noneL⟩

set_option maxRecDepth 20000 in
theorem equalI_any (aa : Option Addr) (a : List Int) (ac : Nat) (ba : Option Addr) (b : List Int) (bc : Nat) (w : World) (ra : RdT (tyI .i64) w (.slice aa a.length ac) a) (rb : RdT (tyI .i64) w (.slice ba b.length bc) b) :
    Calls Try.prog 62 #[.slice aa a.length ac, .slice ba b.length bc] w (Ret fun v w' => v = .bool (decide (a = b)) ∧ Upd w [] w' []) := by
  have le_ra := ra.le
  have le_rb := rb.le
  refine calls_of_W (args := [.slice aa a.length ac, .slice ba b.length bc]) Try.func62 rfl rfl rfl ?_
  have H0 : UpG w [] w [] := UpG.nil w
  show W _ _ _ _ [(0, .slice aa a.length ac), (1, .slice ba b.length bc)] w
  refine W.seq ?_
  refine W.region ?_
  refine WL.op rfl (d_assign rfl ?_)
  refine WL.done (X.then_code ?_)
  refine W.seq ?_
  refine W.seq ?_
  refine W.region ?_
  refine WL.op rfl (d_move rfl ?_)
  refine WL.op rfl (d_lenS Try.underlying51 rfl ?_)
  refine WL.op rfl (d_move rfl ?_)
  refine WL.op rfl (d_lenS Try.underlying51 rfl ?_)
  refine WL.op rfl (d_cmp (decide (((a.length : Nat) : Int) ≠ ((b.length : Nat) : Int))) rfl rfl rfl ?_)
  refine WL.done (X.then_code ?_)
  refine W.ite (p := ((a.length : Nat) : Int) ≠ ((b.length : Nat) : Int)) rfl (fun c21 => ?_) (fun c21 => ?_)
  · skip
    refine W.seq ?_
    refine W.region ?_
    refine WL.op rfl (d_assign rfl ?_)
    refine WL.done (X.then_code ?_)
    refine W.ret (X.then_ret (X.ret1 rfl rfl ?_))
    have hne : ¬ a = b := fun h => by subst h; omega
    exact ⟨(by rw [decide_eq_false hne]), H0.noneL⟩
  · skip
    refine W.skip (X.then_code ?_)
    refine W.seq ?_
    refine W.seq ?_
    refine W.region ?_
    refine WL.op rfl (d_move rfl ?_)
    refine WL.op rfl (d_lenS Try.underlying51 rfl ?_)
    refine WL.op rfl (d_move rfl ?_)
    refine WL.done (X.then_code ?_)
    refine W.block ?_
    refine W.pick [13, 12, 4, 0, 1] (Γ' := [(13, .int .i64 0), (12, .int .i64 ((a.length : Nat) : Int)), (4, .bool false), (0, .slice aa a.length ac), (1, .slice ba b.length bc)]) rfl ?_
    refine W.loop (fun m Γ' w' => ∃ k : Nat, Γ' = [(13, .int .i64 ((k : Nat) : Int)), (12, .int .i64 ((a.length : Nat) : Int)), (4, .bool false), (0, .slice aa a.length ac), (1, .slice ba b.length bc)] ∧ UpG w [] w' [] ∧ (k ≤ a.length) ∧ (a.take k = b.take k) ∧ m = a.length - k) (a.length - 0) ⟨0, rfl, H0, (by first | assumption | omega | simp), (by simp), rfl⟩ ?_
    rintro m1 Γ1 w1 ⟨k, rfl, H1, hk, hs, rfl⟩
    refine W.seq ?_
    refine W.region ?_
    refine WL.op rfl (d_cmp (decide (((k : Nat) : Int) < ((a.length : Nat) : Int))) rfl rfl rfl ?_)
    refine WL.done (X.then_code ?_)
    refine W.seq ?_
    refine W.ite (p := ((k : Nat) : Int) < ((a.length : Nat) : Int)) rfl (fun c24 => ?_) (fun c24 => ?_)
    · skip
      refine W.skip (X.then_code ?_)
      refine W.seq ?_
      refine W.block ?_
      refine W.seq ?_
      refine W.region ?_
      refine WL.op rfl (d_move rfl ?_)
      refine WL.op rfl (d_assign rfl ?_)
      refine WL.done (X.then_code ?_)
      refine W.seq ?_
      refine W.regionD mixed (by kernel_rfl) fun hok1 w2 k1 => ?_
      have H2 : UpG w [] w2 [] := H1.kept k1
      refine WD.take hok1 0 (.slice aa a.length ac) (fun _ => True) rfl rfl rfl rfl rfl trivial (.inl ⟨rfl, fun _ _ => d_move rfl ⟨rfl, rfl⟩⟩) ?_
      refine WD.take hok1 1 (.int .i64 ((k : Nat) : Int)) (fun _ => True) rfl rfl rfl rfl rfl trivial (.inl ⟨rfl, fun _ _ => d_move rfl ⟨rfl, rfl⟩⟩) ?_
      refine WD.take hok1 2 (elemPtr (.slice aa a.length ac) k) (fun w' => RdT (tyI .i64) w' (.slice aa a.length ac) a) rfl rfl rfl rfl rfl (ra.at H2) (.inl ⟨rfl, fun _ hC => t_addr1 k (T := (tyI .i64)) rfl Try.underlying51 sz3 rfl rfl hC rfl (by omega) ⟨rfl, rfl⟩⟩) ?_
      refine WD.take hok1 3 (.int .i64 (a.getD k 0)) (fun w' => RdT (tyI .i64) w' (.slice aa a.length ac) a) rfl rfl rfl rfl rfl (ra.at H2) (.inl ⟨rfl, fun _ hC => t_load1 k 0 (T := (tyI .i64)) rfl Try.underlying3 rfl rfl hC (by omega) rfl ⟨rfl, rfl⟩⟩) ?_
      refine WD.take hok1 4 (.slice ba b.length bc) (fun _ => True) rfl rfl rfl rfl rfl trivial (.inl ⟨rfl, fun _ _ => d_move rfl ⟨rfl, rfl⟩⟩) ?_
      refine WD.take hok1 5 (.int .i64 ((k : Nat) : Int)) (fun _ => True) rfl rfl rfl rfl rfl trivial (.inl ⟨rfl, fun _ _ => d_move rfl ⟨rfl, rfl⟩⟩) ?_
      refine WD.take hok1 6 (elemPtr (.slice ba b.length bc) k) (fun w' => RdT (tyI .i64) w' (.slice ba b.length bc) b) rfl rfl rfl rfl rfl (rb.at H2) (.inl ⟨rfl, fun _ hC => t_addr1 k (T := (tyI .i64)) rfl Try.underlying51 sz3 rfl rfl hC rfl (by omega) ⟨rfl, rfl⟩⟩) ?_
      refine WD.take hok1 7 (.int .i64 (b.getD k 0)) (fun w' => RdT (tyI .i64) w' (.slice ba b.length bc) b) rfl rfl rfl rfl rfl (rb.at H2) (.inl ⟨rfl, fun _ hC => t_load1 k 0 (T := (tyI .i64)) rfl Try.underlying3 rfl rfl hC (by omega) rfl ⟨rfl, rfl⟩⟩) ?_
      refine WD.take hok1 8 (.bool (decide ((a.getD k 0) ≠ (b.getD k 0)))) (fun _ => True) rfl rfl rfl rfl rfl trivial (.inl ⟨rfl, fun _ _ => d_cmp (decide ((a.getD k 0) ≠ (b.getD k 0))) rfl rfl rfl ⟨rfl, rfl⟩⟩) ?_
      refine WD.done hok1 rfl (X.then_code ?_)
      refine W.pick [24, 23, 22, 21, 20, 19, 18, 17, 16, 5, 15, 14, 13, 12, 4, 0, 1] (Γ' := [(24, .bool (decide ((a.getD k 0) ≠ (b.getD k 0)))), (23, .int .i64 (b.getD k 0)), (22, elemPtr (.slice ba b.length bc) k), (21, .int .i64 ((k : Nat) : Int)), (20, .slice ba b.length bc), (19, .int .i64 (a.getD k 0)), (18, elemPtr (.slice aa a.length ac) k), (17, .int .i64 ((k : Nat) : Int)), (16, .slice aa a.length ac), (5, .int .i64 ((k : Nat) : Int)), (15, .int .i64 ((k : Nat) : Int)), (14, .bool (decide (((k : Nat) : Int) < ((a.length : Nat) : Int)))), (13, .int .i64 ((k : Nat) : Int)), (12, .int .i64 ((a.length : Nat) : Int)), (4, .bool false), (0, .slice aa a.length ac), (1, .slice ba b.length bc)]) rfl ?_
      refine W.ite (p := (a.getD k 0) ≠ (b.getD k 0)) rfl (fun c25 => ?_) (fun c25 => ?_)
      · skip
        refine W.seq ?_
        refine W.region ?_
        refine WL.op rfl (d_assign rfl ?_)
        refine WL.done (X.then_code ?_)
        refine W.pick [4, 24, 23, 22, 21, 20, 19, 18, 17, 16, 5, 15, 14, 13, 12, 0, 1] (Γ' := [(4, .bool false), (24, .bool (decide ((a.getD k 0) ≠ (b.getD k 0)))), (23, .int .i64 (b.getD k 0)), (22, elemPtr (.slice ba b.length bc) k), (21, .int .i64 ((k : Nat) : Int)), (20, .slice ba b.length bc), (19, .int .i64 (a.getD k 0)), (18, elemPtr (.slice aa a.length ac) k), (17, .int .i64 ((k : Nat) : Int)), (16, .slice aa a.length ac), (5, .int .i64 ((k : Nat) : Int)), (15, .int .i64 ((k : Nat) : Int)), (14, .bool (decide (((k : Nat) : Int) < ((a.length : Nat) : Int)))), (13, .int .i64 ((k : Nat) : Int)), (12, .int .i64 ((a.length : Nat) : Int)), (0, .slice aa a.length ac), (1, .slice ba b.length bc)]) rfl ?_
        refine W.ret (X.block_ret (X.then_ret (X.then_ret (X.block_ret (X.then_ret (X.ret1 rfl rfl ?_))))))
        have hne : ¬ a = b := fun h => by subst h; exact c25 rfl
        exact ⟨(by rw [decide_eq_false hne]), H2.noneL⟩
      · skip
        refine W.skip (X.block_normal (X.then_code ?_))
        refine W.pick [24, 23, 22, 21, 20, 19, 18, 17, 16, 5, 15, 14, 13, 12, 4, 0, 1] (Γ' := [(24, .bool (decide ((a.getD k 0) ≠ (b.getD k 0)))), (23, .int .i64 (b.getD k 0)), (22, elemPtr (.slice ba b.length bc) k), (21, .int .i64 ((k : Nat) : Int)), (20, .slice ba b.length bc), (19, .int .i64 (a.getD k 0)), (18, elemPtr (.slice aa a.length ac) k), (17, .int .i64 ((k : Nat) : Int)), (16, .slice aa a.length ac), (5, .int .i64 ((k : Nat) : Int)), (15, .int .i64 ((k : Nat) : Int)), (14, .bool (decide (((k : Nat) : Int) < ((a.length : Nat) : Int)))), (13, .int .i64 ((k : Nat) : Int)), (12, .int .i64 ((a.length : Nat) : Int)), (4, .bool false), (0, .slice aa a.length ac), (1, .slice ba b.length bc)]) rfl ?_
        refine W.region ?_
        refine WL.op rfl (d_add rfl rfl (by omega) (by omega) ?_)
        refine WL.op rfl (d_move rfl ?_)
        refine WL.done ?_
        exact X.next [13, 12, 4, 0, 1] (Γ' := [(13, .int .i64 (((k + 1) : Nat) : Int)), (12, .int .i64 ((a.length : Nat) : Int)), (4, .bool false), (0, .slice aa a.length ac), (1, .slice ba b.length bc)]) rfl (a.length - (k + 1)) (by omega) ⟨k + 1, rfl, H2, (by first | assumption | omega | simp), (by exact take_sameI hs (by omega) (by omega) (by simpa using c25)), rfl⟩
    · skip
      refine W.exit (X.then_exit (X.then_exit (X.block_exit (X.then_code ?_))))
      refine W.seq ?_
      refine W.region ?_
      refine WL.op rfl (d_assign rfl ?_)
      refine WL.done (X.then_code ?_)
      refine W.ret (X.ret1 rfl rfl ?_)
      have he : a = b := same_takeI hs (by omega) (by omega)
      exact ⟨(by rw [decide_eq_true he]), H1.noneL⟩

set_option maxRecDepth 20000 in
theorem ansSame_any (a : AnsD) (aa : Option Addr) (ac : Nat) (b : AnsD) (ba : Option Addr) (bc : Nat) (w : World) (ra : RdT (tyI .i64) w (.slice aa a.nums.length ac) a.nums) (rb : RdT (tyI .i64) w (.slice ba b.nums.length bc) b.nums) :
    Calls Try.prog 60 #[.agg #[.int .i64 a.kind, .int .i64 a.err, .slice aa a.nums.length ac, .string a.text], .agg #[.int .i64 b.kind, .int .i64 b.err, .slice ba b.nums.length bc, .string b.text]] w (Ret fun v w' => v = .bool (decide (a = b)) ∧ Upd w [] w' []) := by
  have le_ra := ra.le
  have le_rb := rb.le
  refine calls_of_W (args := [.agg #[.int .i64 a.kind, .int .i64 a.err, .slice aa a.nums.length ac, .string a.text], .agg #[.int .i64 b.kind, .int .i64 b.err, .slice ba b.nums.length bc, .string b.text]]) Try.func60 rfl rfl rfl ?_
  have H0 : UpG w [] w [] := UpG.nil w
  show W _ _ _ _ [(0, .agg #[.int .i64 a.kind, .int .i64 a.err, .slice aa a.nums.length ac, .string a.text]), (1, .agg #[.int .i64 b.kind, .int .i64 b.err, .slice ba b.nums.length bc, .string b.text])] w
  refine W.seq ?_
  refine W.region ?_
  refine WL.op rfl (d_box rfl fun w1 u1 => ?_)
  have H1 : UpG w [] w1 [[blk w.heap.size #[.int .i64 a.kind, .int .i64 a.err, .slice aa a.nums.length ac, .string a.text] 102]] := H0.new' u1
  refine WL.op rfl (d_box rfl fun w2 u2 => ?_)
  have H2 : UpG w [] w2 [[blk w.heap.size #[.int .i64 a.kind, .int .i64 a.err, .slice aa a.nums.length ac, .string a.text] 102], [blk w1.heap.size #[.int .i64 b.kind, .int .i64 b.err, .slice ba b.nums.length bc, .string b.text] 102]] := H1.new' u2
  refine WL.op rfl (d_assign rfl ?_)
  refine WL.done (X.then_code ?_)
  refine W.seq ?_
  refine W.region ?_
  refine WL.op rfl (d_fieldAddrB fld102_0 rfl rfl ?_)
  refine WL.op rfl (d_loadB Try.underlying3 rfl rfl (H2.blk 0 rfl) rfl ?_)
  refine WL.op rfl (d_fieldAddrB fld102_0 rfl rfl ?_)
  refine WL.op rfl (d_loadB Try.underlying3 rfl rfl (H2.blk 1 rfl) rfl ?_)
  refine WL.op rfl (d_cmp (decide (a.kind = b.kind)) rfl rfl rfl ?_)
  refine WL.op rfl (d_move rfl ?_)
  refine WL.part 10 (p := a.kind = b.kind) rfl (fun g90 => ?_) (fun g90 => ?_)
  · skip
    refine WL.opG rfl rfl rfl (d_fieldAddrB fld102_1 rfl rfl ?_)
    refine WL.opG rfl rfl rfl (d_loadB Try.underlying37 rfl rfl (H2.blk 0 rfl) rfl ?_)
    refine WL.opG rfl rfl rfl (d_fieldAddrB fld102_1 rfl rfl ?_)
    refine WL.opG rfl rfl rfl (d_loadB Try.underlying37 rfl rfl (H2.blk 1 rfl) rfl ?_)
    refine WL.opG rfl rfl rfl (d_cmp (decide (a.err = b.err)) rfl rfl rfl ?_)
    refine WL.op rfl (d_pick rfl rfl ?_)
    refine WL.op rfl (d_move rfl ?_)
    refine WL.part 17 (p := a.err = b.err) rfl (fun g90x => ?_) (fun g90x => ?_)
    · skip
      refine WL.opG rfl rfl rfl (d_fieldAddrB fld102_3 rfl rfl ?_)
      refine WL.opG rfl rfl rfl (d_loadB Try.underlying9 rfl rfl (H2.blk 0 rfl) rfl ?_)
      refine WL.opG rfl rfl rfl (d_fieldAddrB fld102_3 rfl rfl ?_)
      refine WL.opG rfl rfl rfl (d_loadB Try.underlying9 rfl rfl (H2.blk 1 rfl) rfl ?_)
      refine WL.opG rfl rfl rfl (d_streq rfl rfl ?_)
      refine WL.op rfl (d_pick rfl rfl ?_)
      refine WL.op rfl (d_move rfl ?_)
      refine WL.part 24 (p := a.text = b.text) rfl (fun g90xx => ?_) (fun g90xx => ?_)
      · skip
        refine WL.opG rfl rfl rfl (d_fieldAddrB fld102_2 rfl rfl ?_)
        refine WL.opG rfl rfl rfl (d_loadB Try.underlying51 rfl rfl (H2.blk 0 rfl) rfl ?_)
        refine WL.opG rfl rfl rfl (d_fieldAddrB fld102_2 rfl rfl ?_)
        refine WL.opG rfl rfl rfl (d_loadB Try.underlying51 rfl rfl (H2.blk 1 rfl) rfl ?_)
        refine WL.opG rfl rfl rfl (d_call ok62 rfl (Ret.calls (equalI_any aa a.nums ac ba b.nums bc w2 (ra.at H2) (rb.at H2) ) fun _ w3 p1 => ?_))
        obtain ⟨rfl, u3⟩ := p1
        have H3 : UpG w [] w3 [[blk w.heap.size #[.int .i64 a.kind, .int .i64 a.err, .slice aa a.nums.length ac, .string a.text] 102], [blk w1.heap.size #[.int .i64 b.kind, .int .i64 b.err, .slice ba b.nums.length bc, .string b.text] 102]] := H2.call u3
        refine WL.op rfl (d_pick rfl rfl ?_)
        refine WL.op rfl (d_assign rfl ?_)
        refine WL.done (X.then_code ?_)
        refine W.pick [4] (Γ' := [(4, .bool (decide (a.nums = b.nums)))]) rfl ?_
        refine W.ret (X.ret1 rfl rfl ?_)
        exact ⟨(by first | (rw [decide_eq_false (fun h : a = b => by rw [h] at g90; exact g90 rfl)]; done) | (rw [decide_eq_false (fun h : a = b => by rw [h] at g90x; exact g90x rfl)]; done) | (rw [decide_eq_false (fun h : a = b => by rw [h] at g90xx; exact g90xx rfl)]; done) | (congr 1; rw [decide_eq_decide]; exact ⟨fun h => ans_ext g90 g90x g90xx h, fun h => by rw [h]⟩)), H3.noneL⟩
      · skip
        refine WL.opN rfl rfl rfl rfl ?_
        refine WL.opN rfl rfl rfl rfl ?_
        refine WL.opN rfl rfl rfl rfl ?_
        refine WL.opN rfl rfl rfl rfl ?_
        refine WL.opN rfl rfl rfl rfl ?_
        refine WL.op rfl (d_pick rfl rfl ?_)
        refine WL.op rfl (d_assign rfl ?_)
        refine WL.done (X.then_code ?_)
        refine W.pick [4] (Γ' := [(4, .bool false)]) rfl ?_
        refine W.ret (X.ret1 rfl rfl ?_)
        exact ⟨(by first | (rw [decide_eq_false (fun h : a = b => by rw [h] at g90; exact g90 rfl)]; done) | (rw [decide_eq_false (fun h : a = b => by rw [h] at g90x; exact g90x rfl)]; done) | (rw [decide_eq_false (fun h : a = b => by rw [h] at g90xx; exact g90xx rfl)]; done) | (congr 1; rw [decide_eq_decide]; exact ⟨fun h => ans_ext g90 g90x g90xx h, fun h => by rw [h]⟩)), H2.noneL⟩
    · skip
      refine WL.opN rfl rfl rfl rfl ?_
      refine WL.opN rfl rfl rfl rfl ?_
      refine WL.opN rfl rfl rfl rfl ?_
      refine WL.opN rfl rfl rfl rfl ?_
      refine WL.opN rfl rfl rfl rfl ?_
      refine WL.op rfl (d_pick rfl rfl ?_)
      refine WL.op rfl (d_move rfl ?_)
      refine WL.opN rfl rfl rfl rfl ?_
      refine WL.opN rfl rfl rfl rfl ?_
      refine WL.opN rfl rfl rfl rfl ?_
      refine WL.opN rfl rfl rfl rfl ?_
      refine WL.opN rfl rfl rfl rfl ?_
      refine WL.op rfl (d_pick rfl rfl ?_)
      refine WL.op rfl (d_assign rfl ?_)
      refine WL.done (X.then_code ?_)
      refine W.pick [4] (Γ' := [(4, .bool false)]) rfl ?_
      refine W.ret (X.ret1 rfl rfl ?_)
      exact ⟨(by first | (rw [decide_eq_false (fun h : a = b => by rw [h] at g90; exact g90 rfl)]; done) | (rw [decide_eq_false (fun h : a = b => by rw [h] at g90x; exact g90x rfl)]; done) | (rw [decide_eq_false (fun h : a = b => by rw [h] at g90xx; exact g90xx rfl)]; done) | (congr 1; rw [decide_eq_decide]; exact ⟨fun h => ans_ext g90 g90x g90xx h, fun h => by rw [h]⟩)), H2.noneL⟩
  · skip
    refine WL.opN rfl rfl rfl rfl ?_
    refine WL.opN rfl rfl rfl rfl ?_
    refine WL.opN rfl rfl rfl rfl ?_
    refine WL.opN rfl rfl rfl rfl ?_
    refine WL.opN rfl rfl rfl rfl ?_
    refine WL.op rfl (d_pick rfl rfl ?_)
    refine WL.op rfl (d_move rfl ?_)
    refine WL.opN rfl rfl rfl rfl ?_
    refine WL.opN rfl rfl rfl rfl ?_
    refine WL.opN rfl rfl rfl rfl ?_
    refine WL.opN rfl rfl rfl rfl ?_
    refine WL.opN rfl rfl rfl rfl ?_
    refine WL.op rfl (d_pick rfl rfl ?_)
    refine WL.op rfl (d_move rfl ?_)
    refine WL.opN rfl rfl rfl rfl ?_
    refine WL.opN rfl rfl rfl rfl ?_
    refine WL.opN rfl rfl rfl rfl ?_
    refine WL.opN rfl rfl rfl rfl ?_
    refine WL.opN rfl rfl rfl rfl ?_
    refine WL.op rfl (d_pick rfl rfl ?_)
    refine WL.op rfl (d_assign rfl ?_)
    refine WL.done (X.then_code ?_)
    refine W.pick [4] (Γ' := [(4, .bool false)]) rfl ?_
    refine W.ret (X.ret1 rfl rfl ?_)
    exact ⟨(by first | (rw [decide_eq_false (fun h : a = b => by rw [h] at g90; exact g90 rfl)]; done) | (rw [decide_eq_false (fun h : a = b => by rw [h] at g90x; exact g90x rfl)]; done) | (rw [decide_eq_false (fun h : a = b => by rw [h] at g90xx; exact g90xx rfl)]; done) | (congr 1; rw [decide_eq_decide]; exact ⟨fun h => ans_ext g90 g90x g90xx h, fun h => by rw [h]⟩)), H2.noneL⟩

set_option maxRecDepth 20000 in
theorem refAnsSame_any (a : AnsD) (aa : Option Addr) (ac : Nat) (b : AnsD) (ba : Option Addr) (bc : Nat) (w : World) (ra : RdT (tyI .i64) w (.slice aa a.nums.length ac) a.nums) (rb : RdT (tyI .i64) w (.slice ba b.nums.length bc) b.nums) :
    Calls Try.prog 56 #[.agg #[.int .i64 a.kind, .int .i64 a.err, .slice aa a.nums.length ac, .string a.text], .agg #[.int .i64 b.kind, .int .i64 b.err, .slice ba b.nums.length bc, .string b.text]] w (Ret fun v w' => v = .bool (decide (a = b)) ∧ Upd w [] w' []) := by
  have le_ra := ra.le
  have le_rb := rb.le
  refine calls_of_W (args := [.agg #[.int .i64 a.kind, .int .i64 a.err, .slice aa a.nums.length ac, .string a.text], .agg #[.int .i64 b.kind, .int .i64 b.err, .slice ba b.nums.length bc, .string b.text]]) Try.func56 rfl rfl rfl ?_
  have H0 : UpG w [] w [] := UpG.nil w
  show W _ _ _ _ [(0, .agg #[.int .i64 a.kind, .int .i64 a.err, .slice aa a.nums.length ac, .string a.text]), (1, .agg #[.int .i64 b.kind, .int .i64 b.err, .slice ba b.nums.length bc, .string b.text])] w
  refine W.seq ?_
  refine W.region ?_
  refine WL.op rfl (d_box rfl fun w1 u1 => ?_)
  have H1 : UpG w [] w1 [[blk w.heap.size #[.int .i64 a.kind, .int .i64 a.err, .slice aa a.nums.length ac, .string a.text] 102]] := H0.new' u1
  refine WL.op rfl (d_box rfl fun w2 u2 => ?_)
  have H2 : UpG w [] w2 [[blk w.heap.size #[.int .i64 a.kind, .int .i64 a.err, .slice aa a.nums.length ac, .string a.text] 102], [blk w1.heap.size #[.int .i64 b.kind, .int .i64 b.err, .slice ba b.nums.length bc, .string b.text] 102]] := H1.new' u2
  refine WL.op rfl (d_assign rfl ?_)
  refine WL.done (X.then_code ?_)
  refine W.seq ?_
  refine W.seq ?_
  refine W.region ?_
  refine WL.op rfl (d_fieldAddrB fld102_0 rfl rfl ?_)
  refine WL.op rfl (d_loadB Try.underlying3 rfl rfl (H2.blk 0 rfl) rfl ?_)
  refine WL.op rfl (d_fieldAddrB fld102_0 rfl rfl ?_)
  refine WL.op rfl (d_loadB Try.underlying3 rfl rfl (H2.blk 1 rfl) rfl ?_)
  refine WL.op rfl (d_cmp (decide (a.kind ≠ b.kind)) rfl rfl rfl ?_)
  refine WL.op rfl (d_move rfl ?_)
  refine WL.part 11 (p := a.kind ≠ b.kind) rfl (fun g124 => ?_) (fun g124 => ?_)
  · skip
    refine WL.opN rfl rfl rfl rfl ?_
    refine WL.opN rfl rfl rfl rfl ?_
    refine WL.opN rfl rfl rfl rfl ?_
    refine WL.opN rfl rfl rfl rfl ?_
    refine WL.opN rfl rfl rfl rfl ?_
    refine WL.op rfl (d_pick rfl rfl ?_)
    refine WL.op rfl (d_move rfl ?_)
    refine WL.opN rfl rfl rfl rfl ?_
    refine WL.opN rfl rfl rfl rfl ?_
    refine WL.opN rfl rfl rfl rfl ?_
    refine WL.opN rfl rfl rfl rfl ?_
    refine WL.opN rfl rfl rfl rfl ?_
    refine WL.op rfl (d_pick rfl rfl ?_)
    refine WL.op rfl (d_move rfl ?_)
    refine WL.opN rfl rfl rfl rfl ?_
    refine WL.opN rfl rfl rfl rfl ?_
    refine WL.opN rfl rfl rfl rfl ?_
    refine WL.opN rfl rfl rfl rfl ?_
    refine WL.opN rfl rfl rfl rfl ?_
    refine WL.opN rfl rfl rfl rfl ?_
    refine WL.opN rfl rfl rfl rfl ?_
    refine WL.op rfl (d_pick rfl rfl ?_)
    refine WL.done (X.then_code ?_)
    refine W.pick [33, 4, 3, 2] (Γ' := [(33, .bool true), (4, .bool false), (3, .pointer (some ⟨w1.heap.size, 0, none⟩)), (2, .pointer (some ⟨w.heap.size, 0, none⟩))]) rfl ?_
    refine W.ift rfl ?_
    refine W.seq ?_
    refine W.region ?_
    refine WL.op rfl (d_assign rfl ?_)
    refine WL.done (X.then_code ?_)
    refine W.ret (X.then_ret (X.ret1 rfl rfl ?_))
    have hne : ¬ a = b := fun h => by first | (rw [h] at g124; exact g124 rfl) | (rw [h] at g124x; exact g124x rfl) | (rw [h] at g124xx; exact g124xx rfl) | (rw [h] at c124; exact c124 rfl)
    exact ⟨(by rw [decide_eq_false hne]), H2.noneL⟩
  · skip
    refine WL.opG rfl rfl rfl (d_fieldAddrB fld102_1 rfl rfl ?_)
    refine WL.opG rfl rfl rfl (d_loadB Try.underlying37 rfl rfl (H2.blk 0 rfl) rfl ?_)
    refine WL.opG rfl rfl rfl (d_fieldAddrB fld102_1 rfl rfl ?_)
    refine WL.opG rfl rfl rfl (d_loadB Try.underlying37 rfl rfl (H2.blk 1 rfl) rfl ?_)
    refine WL.opG rfl rfl rfl (d_cmp (decide (a.err ≠ b.err)) rfl rfl rfl ?_)
    refine WL.op rfl (d_pick rfl rfl ?_)
    refine WL.op rfl (d_move rfl ?_)
    refine WL.part 18 (p := a.err ≠ b.err) rfl (fun g124x => ?_) (fun g124x => ?_)
    · skip
      refine WL.opN rfl rfl rfl rfl ?_
      refine WL.opN rfl rfl rfl rfl ?_
      refine WL.opN rfl rfl rfl rfl ?_
      refine WL.opN rfl rfl rfl rfl ?_
      refine WL.opN rfl rfl rfl rfl ?_
      refine WL.op rfl (d_pick rfl rfl ?_)
      refine WL.op rfl (d_move rfl ?_)
      refine WL.opN rfl rfl rfl rfl ?_
      refine WL.opN rfl rfl rfl rfl ?_
      refine WL.opN rfl rfl rfl rfl ?_
      refine WL.opN rfl rfl rfl rfl ?_
      refine WL.opN rfl rfl rfl rfl ?_
      refine WL.opN rfl rfl rfl rfl ?_
      refine WL.opN rfl rfl rfl rfl ?_
      refine WL.op rfl (d_pick rfl rfl ?_)
      refine WL.done (X.then_code ?_)
      refine W.pick [33, 4, 3, 2] (Γ' := [(33, .bool true), (4, .bool false), (3, .pointer (some ⟨w1.heap.size, 0, none⟩)), (2, .pointer (some ⟨w.heap.size, 0, none⟩))]) rfl ?_
      refine W.ift rfl ?_
      refine W.seq ?_
      refine W.region ?_
      refine WL.op rfl (d_assign rfl ?_)
      refine WL.done (X.then_code ?_)
      refine W.ret (X.then_ret (X.ret1 rfl rfl ?_))
      have hne : ¬ a = b := fun h => by first | (rw [h] at g124; exact g124 rfl) | (rw [h] at g124x; exact g124x rfl) | (rw [h] at g124xx; exact g124xx rfl) | (rw [h] at c124; exact c124 rfl)
      exact ⟨(by rw [decide_eq_false hne]), H2.noneL⟩
    · skip
      refine WL.opG rfl rfl rfl (d_fieldAddrB fld102_3 rfl rfl ?_)
      refine WL.opG rfl rfl rfl (d_loadB Try.underlying9 rfl rfl (H2.blk 0 rfl) rfl ?_)
      refine WL.opG rfl rfl rfl (d_fieldAddrB fld102_3 rfl rfl ?_)
      refine WL.opG rfl rfl rfl (d_loadB Try.underlying9 rfl rfl (H2.blk 1 rfl) rfl ?_)
      refine WL.opG rfl rfl rfl (d_strne rfl rfl ?_)
      refine WL.op rfl (d_pick rfl rfl ?_)
      refine WL.op rfl (d_move rfl ?_)
      refine WL.part 25 (p := a.text ≠ b.text) rfl (fun g124xx => ?_) (fun g124xx => ?_)
      · skip
        refine WL.opN rfl rfl rfl rfl ?_
        refine WL.opN rfl rfl rfl rfl ?_
        refine WL.opN rfl rfl rfl rfl ?_
        refine WL.opN rfl rfl rfl rfl ?_
        refine WL.opN rfl rfl rfl rfl ?_
        refine WL.opN rfl rfl rfl rfl ?_
        refine WL.opN rfl rfl rfl rfl ?_
        refine WL.op rfl (d_pick rfl rfl ?_)
        refine WL.done (X.then_code ?_)
        refine W.pick [33, 4, 3, 2] (Γ' := [(33, .bool true), (4, .bool false), (3, .pointer (some ⟨w1.heap.size, 0, none⟩)), (2, .pointer (some ⟨w.heap.size, 0, none⟩))]) rfl ?_
        refine W.ift rfl ?_
        refine W.seq ?_
        refine W.region ?_
        refine WL.op rfl (d_assign rfl ?_)
        refine WL.done (X.then_code ?_)
        refine W.ret (X.then_ret (X.ret1 rfl rfl ?_))
        have hne : ¬ a = b := fun h => by first | (rw [h] at g124; exact g124 rfl) | (rw [h] at g124x; exact g124x rfl) | (rw [h] at g124xx; exact g124xx rfl) | (rw [h] at c124; exact c124 rfl)
        exact ⟨(by rw [decide_eq_false hne]), H2.noneL⟩
      · skip
        refine WL.opG rfl rfl rfl (d_fieldAddrB fld102_2 rfl rfl ?_)
        refine WL.opG rfl rfl rfl (d_loadB Try.underlying51 rfl rfl (H2.blk 0 rfl) rfl ?_)
        refine WL.opG rfl rfl rfl (d_lenS Try.underlying51 rfl ?_)
        refine WL.opG rfl rfl rfl (d_fieldAddrB fld102_2 rfl rfl ?_)
        refine WL.opG rfl rfl rfl (d_loadB Try.underlying51 rfl rfl (H2.blk 1 rfl) rfl ?_)
        refine WL.opG rfl rfl rfl (d_lenS Try.underlying51 rfl ?_)
        refine WL.opG rfl rfl rfl (d_cmp (decide (((a.nums.length : Nat) : Int) ≠ ((b.nums.length : Nat) : Int))) rfl rfl rfl ?_)
        refine WL.op rfl (d_pick rfl rfl ?_)
        refine WL.done (X.then_code ?_)
        refine W.pick [33, 4, 3, 2] (Γ' := [(33, .bool (decide (((a.nums.length : Nat) : Int) ≠ ((b.nums.length : Nat) : Int)))), (4, .bool false), (3, .pointer (some ⟨w1.heap.size, 0, none⟩)), (2, .pointer (some ⟨w.heap.size, 0, none⟩))]) rfl ?_
        refine W.ite (p := ((a.nums.length : Nat) : Int) ≠ ((b.nums.length : Nat) : Int)) rfl (fun c124 => ?_) (fun c124 => ?_)
        · skip
          refine W.seq ?_
          refine W.region ?_
          refine WL.op rfl (d_assign rfl ?_)
          refine WL.done (X.then_code ?_)
          refine W.ret (X.then_ret (X.ret1 rfl rfl ?_))
          have hne : ¬ a = b := fun h => by first | (rw [h] at g124; exact g124 rfl) | (rw [h] at g124x; exact g124x rfl) | (rw [h] at g124xx; exact g124xx rfl) | (rw [h] at c124; exact c124 rfl)
          exact ⟨(by rw [decide_eq_false hne]), H2.noneL⟩
        · skip
          refine W.skip (X.then_code ?_)
          refine W.seq ?_
          refine W.seq ?_
          refine W.region ?_
          refine WL.op rfl (d_assign rfl ?_)
          refine WL.done (X.then_code ?_)
          refine W.block ?_
          refine W.pick [5, 4, 3, 2] (Γ' := [(5, .int .i64 0), (4, .bool false), (3, .pointer (some ⟨w1.heap.size, 0, none⟩)), (2, .pointer (some ⟨w.heap.size, 0, none⟩))]) rfl ?_
          refine W.loop (fun m Γ' w' => ∃ k : Nat, Γ' = [(5, .int .i64 ((k : Nat) : Int)), (4, .bool false), (3, .pointer (some ⟨w1.heap.size, 0, none⟩)), (2, .pointer (some ⟨w.heap.size, 0, none⟩))] ∧ UpG w [] w' [[blk w.heap.size #[.int .i64 a.kind, .int .i64 a.err, .slice aa a.nums.length ac, .string a.text] 102], [blk w1.heap.size #[.int .i64 b.kind, .int .i64 b.err, .slice ba b.nums.length bc, .string b.text] 102]] ∧ (k ≤ a.nums.length) ∧ (a.nums.take k = b.nums.take k) ∧ m = a.nums.length - k) (a.nums.length - 0) ⟨0, rfl, H2, (by first | assumption | omega | simp), (by simp), rfl⟩ ?_
          rintro m1 Γ1 w3 ⟨k, rfl, H3, hk, hs, rfl⟩
          refine W.seq ?_
          refine W.seq ?_
          refine W.region ?_
          refine WL.op rfl (d_move rfl ?_)
          refine WL.op rfl (d_fieldAddrB fld102_2 rfl rfl ?_)
          refine WL.op rfl (d_loadB Try.underlying51 rfl rfl (H3.blk 0 rfl) rfl ?_)
          refine WL.op rfl (d_lenS Try.underlying51 rfl ?_)
          refine WL.op rfl (d_cmp (decide (((k : Nat) : Int) < ((a.nums.length : Nat) : Int))) rfl rfl rfl ?_)
          refine WL.done (X.then_code ?_)
          refine W.ite (p := ((k : Nat) : Int) < ((a.nums.length : Nat) : Int)) rfl (fun c127 => ?_) (fun c127 => ?_)
          · skip
            refine W.skip (X.then_code ?_)
            refine W.seq ?_
            refine W.block ?_
            refine W.seq ?_
            refine W.regionD mixed (by kernel_rfl) fun hok1 w4 k1 => ?_
            have H4 : UpG w [] w4 [[blk w.heap.size #[.int .i64 a.kind, .int .i64 a.err, .slice aa a.nums.length ac, .string a.text] 102], [blk w1.heap.size #[.int .i64 b.kind, .int .i64 b.err, .slice ba b.nums.length bc, .string b.text] 102]] := H3.kept k1
            refine WD.take hok1 0 (.pointer (some ⟨w.heap.size, 2, none⟩)) (fun _ => True) rfl rfl rfl rfl rfl trivial (.inl ⟨rfl, fun _ _ => d_fieldAddrB fld102_2 rfl rfl ⟨rfl, rfl⟩⟩) ?_
            refine WD.take hok1 1 (.slice aa a.nums.length ac) (fun w' => w'.heap[w.heap.size]? = some (.cells #[.int .i64 a.kind, .int .i64 a.err, .slice aa a.nums.length ac, .string a.text] 102 (0, 0))) rfl rfl rfl rfl rfl (H4.blk 0 rfl) (.inl ⟨rfl, fun _ hC => d_loadB Try.underlying51 rfl rfl hC rfl ⟨rfl, rfl⟩⟩) ?_
            refine WD.take hok1 2 (.int .i64 ((k : Nat) : Int)) (fun _ => True) rfl rfl rfl rfl rfl trivial (.inl ⟨rfl, fun _ _ => d_move rfl ⟨rfl, rfl⟩⟩) ?_
            refine WD.take hok1 3 (elemPtr (.slice aa a.nums.length ac) k) (fun w' => RdT (tyI .i64) w' (.slice aa a.nums.length ac) a.nums) rfl rfl rfl rfl rfl (ra.at H4) (.inl ⟨rfl, fun _ hC => t_addr1 k (T := (tyI .i64)) rfl Try.underlying51 sz3 rfl rfl hC rfl (by omega) ⟨rfl, rfl⟩⟩) ?_
            refine WD.take hok1 4 (.int .i64 (a.nums.getD k 0)) (fun w' => RdT (tyI .i64) w' (.slice aa a.nums.length ac) a.nums) rfl rfl rfl rfl rfl (ra.at H4) (.inl ⟨rfl, fun _ hC => t_load1 k 0 (T := (tyI .i64)) rfl Try.underlying3 rfl rfl hC (by omega) rfl ⟨rfl, rfl⟩⟩) ?_
            refine WD.take hok1 5 (.pointer (some ⟨w1.heap.size, 2, none⟩)) (fun _ => True) rfl rfl rfl rfl rfl trivial (.inl ⟨rfl, fun _ _ => d_fieldAddrB fld102_2 rfl rfl ⟨rfl, rfl⟩⟩) ?_
            refine WD.take hok1 6 (.slice ba b.nums.length bc) (fun w' => w'.heap[w1.heap.size]? = some (.cells #[.int .i64 b.kind, .int .i64 b.err, .slice ba b.nums.length bc, .string b.text] 102 (0, 0))) rfl rfl rfl rfl rfl (H4.blk 1 rfl) (.inl ⟨rfl, fun _ hC => d_loadB Try.underlying51 rfl rfl hC rfl ⟨rfl, rfl⟩⟩) ?_
            refine WD.take hok1 7 (.int .i64 ((k : Nat) : Int)) (fun _ => True) rfl rfl rfl rfl rfl trivial (.inl ⟨rfl, fun _ _ => d_move rfl ⟨rfl, rfl⟩⟩) ?_
            refine WD.take hok1 8 (elemPtr (.slice ba b.nums.length bc) k) (fun w' => RdT (tyI .i64) w' (.slice ba b.nums.length bc) b.nums) rfl rfl rfl rfl rfl (rb.at H4) (.inl ⟨rfl, fun _ hC => t_addr1 k (T := (tyI .i64)) rfl Try.underlying51 sz3 rfl rfl hC rfl (by omega) ⟨rfl, rfl⟩⟩) ?_
            refine WD.take hok1 9 (.int .i64 (b.nums.getD k 0)) (fun w' => RdT (tyI .i64) w' (.slice ba b.nums.length bc) b.nums) rfl rfl rfl rfl rfl (rb.at H4) (.inl ⟨rfl, fun _ hC => t_load1 k 0 (T := (tyI .i64)) rfl Try.underlying3 rfl rfl hC (by omega) rfl ⟨rfl, rfl⟩⟩) ?_
            refine WD.take hok1 10 (.bool (decide ((a.nums.getD k 0) ≠ (b.nums.getD k 0)))) (fun _ => True) rfl rfl rfl rfl rfl trivial (.inl ⟨rfl, fun _ _ => d_cmp (decide ((a.nums.getD k 0) ≠ (b.nums.getD k 0))) rfl rfl rfl ⟨rfl, rfl⟩⟩) ?_
            refine WD.done hok1 rfl (X.then_code ?_)
            refine W.pick [51, 50, 49, 48, 47, 46, 45, 44, 43, 42, 41, 38, 37, 36, 35, 34, 5, 4, 3, 2] (Γ' := [(51, .bool (decide ((a.nums.getD k 0) ≠ (b.nums.getD k 0)))), (50, .int .i64 (b.nums.getD k 0)), (49, elemPtr (.slice ba b.nums.length bc) k), (48, .int .i64 ((k : Nat) : Int)), (47, .slice ba b.nums.length bc), (46, .pointer (some ⟨w1.heap.size, 2, none⟩)), (45, .int .i64 (a.nums.getD k 0)), (44, elemPtr (.slice aa a.nums.length ac) k), (43, .int .i64 ((k : Nat) : Int)), (42, .slice aa a.nums.length ac), (41, .pointer (some ⟨w.heap.size, 2, none⟩)), (38, .bool (decide (((k : Nat) : Int) < ((a.nums.length : Nat) : Int)))), (37, .int .i64 ((a.nums.length : Nat) : Int)), (36, .slice aa a.nums.length ac), (35, .pointer (some ⟨w.heap.size, 2, none⟩)), (34, .int .i64 ((k : Nat) : Int)), (5, .int .i64 ((k : Nat) : Int)), (4, .bool false), (3, .pointer (some ⟨w1.heap.size, 0, none⟩)), (2, .pointer (some ⟨w.heap.size, 0, none⟩))]) rfl ?_
            refine W.ite (p := (a.nums.getD k 0) ≠ (b.nums.getD k 0)) rfl (fun c128 => ?_) (fun c128 => ?_)
            · skip
              refine W.seq ?_
              refine W.region ?_
              refine WL.op rfl (d_assign rfl ?_)
              refine WL.done (X.then_code ?_)
              refine W.pick [4, 51, 50, 49, 48, 47, 46, 45, 44, 43, 42, 41, 38, 37, 36, 35, 34, 5, 3, 2] (Γ' := [(4, .bool false), (51, .bool (decide ((a.nums.getD k 0) ≠ (b.nums.getD k 0)))), (50, .int .i64 (b.nums.getD k 0)), (49, elemPtr (.slice ba b.nums.length bc) k), (48, .int .i64 ((k : Nat) : Int)), (47, .slice ba b.nums.length bc), (46, .pointer (some ⟨w1.heap.size, 2, none⟩)), (45, .int .i64 (a.nums.getD k 0)), (44, elemPtr (.slice aa a.nums.length ac) k), (43, .int .i64 ((k : Nat) : Int)), (42, .slice aa a.nums.length ac), (41, .pointer (some ⟨w.heap.size, 2, none⟩)), (38, .bool (decide (((k : Nat) : Int) < ((a.nums.length : Nat) : Int)))), (37, .int .i64 ((a.nums.length : Nat) : Int)), (36, .slice aa a.nums.length ac), (35, .pointer (some ⟨w.heap.size, 2, none⟩)), (34, .int .i64 ((k : Nat) : Int)), (5, .int .i64 ((k : Nat) : Int)), (3, .pointer (some ⟨w1.heap.size, 0, none⟩)), (2, .pointer (some ⟨w.heap.size, 0, none⟩))]) rfl ?_
              refine W.ret (X.block_ret (X.then_ret (X.then_ret (X.block_ret (X.then_ret (X.ret1 rfl rfl ?_))))))
              have hne : ¬ a = b := fun h => by first | (rw [h] at c128; exact c128 rfl)
              exact ⟨(by rw [decide_eq_false hne]), H4.noneL⟩
            · skip
              refine W.skip (X.block_normal (X.then_code ?_))
              refine W.pick [51, 50, 49, 48, 47, 46, 45, 44, 43, 42, 41, 38, 37, 36, 35, 34, 5, 4, 3, 2] (Γ' := [(51, .bool (decide ((a.nums.getD k 0) ≠ (b.nums.getD k 0)))), (50, .int .i64 (b.nums.getD k 0)), (49, elemPtr (.slice ba b.nums.length bc) k), (48, .int .i64 ((k : Nat) : Int)), (47, .slice ba b.nums.length bc), (46, .pointer (some ⟨w1.heap.size, 2, none⟩)), (45, .int .i64 (a.nums.getD k 0)), (44, elemPtr (.slice aa a.nums.length ac) k), (43, .int .i64 ((k : Nat) : Int)), (42, .slice aa a.nums.length ac), (41, .pointer (some ⟨w.heap.size, 2, none⟩)), (38, .bool (decide (((k : Nat) : Int) < ((a.nums.length : Nat) : Int)))), (37, .int .i64 ((a.nums.length : Nat) : Int)), (36, .slice aa a.nums.length ac), (35, .pointer (some ⟨w.heap.size, 2, none⟩)), (34, .int .i64 ((k : Nat) : Int)), (5, .int .i64 ((k : Nat) : Int)), (4, .bool false), (3, .pointer (some ⟨w1.heap.size, 0, none⟩)), (2, .pointer (some ⟨w.heap.size, 0, none⟩))]) rfl ?_
              refine W.region ?_
              refine WL.op rfl (d_move rfl ?_)
              refine WL.op rfl (d_add rfl rfl (by omega) (by omega) ?_)
              refine WL.op rfl (d_assign rfl ?_)
              refine WL.done ?_
              exact X.next [5, 4, 3, 2] (Γ' := [(5, .int .i64 (((k + 1) : Nat) : Int)), (4, .bool false), (3, .pointer (some ⟨w1.heap.size, 0, none⟩)), (2, .pointer (some ⟨w.heap.size, 0, none⟩))]) rfl (a.nums.length - (k + 1)) (by omega) ⟨k + 1, rfl, H4, (by first | assumption | omega | simp), (by exact take_sameI hs (by omega) (by omega) (by simpa using c128)), rfl⟩
          · skip
            refine W.exit (X.then_exit (X.then_exit (X.block_exit (X.then_code ?_))))
            refine W.seq ?_
            refine W.region ?_
            refine WL.op rfl (d_assign rfl ?_)
            refine WL.done (X.then_code ?_)
            refine W.ret (X.ret1 rfl rfl ?_)
            have he : a = b := ans_ext (by omega) (by omega) (by simpa using g124xx) (same_takeI hs (by omega) (by omega))
            exact ⟨(by rw [decide_eq_true he]), H3.noneL⟩

set_option maxRecDepth 20000 in
theorem answersSame_any (aa : Option Addr) (a : List AnsP) (ac : Nat) (ba : Option Addr) (b : List AnsP) (bc : Nat) (w : World) (ra : RdT tyAnsP w (.slice aa a.length ac) a) (rb : RdT tyAnsP w (.slice ba b.length bc) b) (da : inAns.Rd w a) (db : inAns.Rd w b) :
    Calls Try.prog 38 #[.slice aa a.length ac, .slice ba b.length bc] w (Ret fun v w' => v = .bool (decide (adsOf a = adsOf b)) ∧ Upd w [] w' []) := by
  have le_ra := ra.le
  have le_rb := rb.le
  refine calls_of_W (args := [.slice aa a.length ac, .slice ba b.length bc]) Try.func38 rfl rfl rfl ?_
  have H0 : UpG w [] w [] := UpG.nil w
  show W _ _ _ _ [(0, .slice aa a.length ac), (1, .slice ba b.length bc)] w
  refine W.seq ?_
  refine W.region ?_
  refine WL.op rfl (d_assign rfl ?_)
  refine WL.done (X.then_code ?_)
  refine W.seq ?_
  refine W.seq ?_
  refine W.region ?_
  refine WL.op rfl (d_move rfl ?_)
  refine WL.op rfl (d_lenS Try.underlying74 rfl ?_)
  refine WL.op rfl (d_move rfl ?_)
  refine WL.op rfl (d_lenS Try.underlying74 rfl ?_)
  refine WL.op rfl (d_cmp (decide (((a.length : Nat) : Int) ≠ ((b.length : Nat) : Int))) rfl rfl rfl ?_)
  refine WL.done (X.then_code ?_)
  refine W.ite (p := ((a.length : Nat) : Int) ≠ ((b.length : Nat) : Int)) rfl (fun c179 => ?_) (fun c179 => ?_)
  · skip
    refine W.seq ?_
    refine W.region ?_
    refine WL.op rfl (d_assign rfl ?_)
    refine WL.done (X.then_code ?_)
    refine W.ret (X.then_ret (X.ret1 rfl rfl ?_))
    have hne : ¬ adsOf a = adsOf b := fun h => by have h9 := congrArg List.length h; rw [ads_len, ads_len] at h9; omega
    exact ⟨(by rw [decide_eq_false hne]), H0.noneL⟩
  · skip
    refine W.skip (X.then_code ?_)
    refine W.seq ?_
    refine W.seq ?_
    refine W.region ?_
    refine WL.op rfl (d_assign rfl ?_)
    refine WL.done (X.then_code ?_)
    refine W.block ?_
    refine W.pick [5, 4, 0, 1] (Γ' := [(5, .int .i64 0), (4, .bool false), (0, .slice aa a.length ac), (1, .slice ba b.length bc)]) rfl ?_
    refine W.loop (fun m Γ' w' => ∃ k : Nat, Γ' = [(5, .int .i64 ((k : Nat) : Int)), (4, .bool false), (0, .slice aa a.length ac), (1, .slice ba b.length bc)] ∧ UpG w [] w' [] ∧ (k ≤ a.length) ∧ ((adsOf a).take k = (adsOf b).take k) ∧ m = a.length - k) (a.length - 0) ⟨0, rfl, H0, (by first | assumption | omega | simp), (by simp), rfl⟩ ?_
    rintro m1 Γ1 w1 ⟨k, rfl, H1, hk, hs, rfl⟩
    refine W.seq ?_
    refine W.seq ?_
    refine W.region ?_
    refine WL.op rfl (d_move rfl ?_)
    refine WL.op rfl (d_move rfl ?_)
    refine WL.op rfl (d_lenS Try.underlying74 rfl ?_)
    refine WL.op rfl (d_cmp (decide (((k : Nat) : Int) < ((a.length : Nat) : Int))) rfl rfl rfl ?_)
    refine WL.done (X.then_code ?_)
    refine W.ite (p := ((k : Nat) : Int) < ((a.length : Nat) : Int)) rfl (fun c182 => ?_) (fun c182 => ?_)
    · skip
      refine W.skip (X.then_code ?_)
      refine W.seq ?_
      refine W.block ?_
      refine W.seq ?_
      refine W.regionD mixed (by kernel_rfl) fun hok1 w2 k1 => ?_
      have H2 : UpG w [] w2 [] := H1.kept k1
      refine WD.take hok1 0 (.slice aa a.length ac) (fun _ => True) rfl rfl rfl rfl rfl trivial (.inl ⟨rfl, fun _ _ => d_move rfl ⟨rfl, rfl⟩⟩) ?_
      refine WD.take hok1 1 (.int .i64 ((k : Nat) : Int)) (fun _ => True) rfl rfl rfl rfl rfl trivial (.inl ⟨rfl, fun _ _ => d_move rfl ⟨rfl, rfl⟩⟩) ?_
      refine WD.take hok1 2 (elemPtr (.slice aa a.length ac) (k * 4)) (fun w' => RdT tyAnsP w' (.slice aa a.length ac) a) rfl rfl rfl rfl rfl (ra.at H2) (.inl ⟨rfl, fun _ hC => t_addrN k (T := tyAnsP) rfl Try.underlying74 sz102 rfl rfl hC rfl (by omega) ⟨rfl, rfl⟩⟩) ?_
      refine WD.take hok1 3 (.agg #[.int .i64 ((a.getD k ansP0).d.kind), .int .i64 ((a.getD k ansP0).d.err), .slice ((a.getD k ansP0).a) (((a.getD k ansP0).d.nums).length) ((a.getD k ansP0).c), .string ((a.getD k ansP0).d.text)]) (fun w' => RdT tyAnsP w' (.slice aa a.length ac) a) rfl rfl rfl rfl rfl (ra.at H2) (.inl ⟨rfl, fun _ hC => t_loadN k ansP0 (T := tyAnsP) (us := [.int .i64 ((a.getD k ansP0).d.kind), .int .i64 ((a.getD k ansP0).d.err), .slice ((a.getD k ansP0).a) (((a.getD k ansP0).d.nums).length) ((a.getD k ansP0).c), .string ((a.getD k ansP0).d.text)]) rfl Try.underlying102 rfl sz102 rfl hC (by omega) rfl ⟨rfl, rfl⟩⟩) ?_
      refine WD.take hok1 4 (.slice ba b.length bc) (fun _ => True) rfl rfl rfl rfl rfl trivial (.inl ⟨rfl, fun _ _ => d_move rfl ⟨rfl, rfl⟩⟩) ?_
      refine WD.take hok1 5 (.int .i64 ((k : Nat) : Int)) (fun _ => True) rfl rfl rfl rfl rfl trivial (.inl ⟨rfl, fun _ _ => d_move rfl ⟨rfl, rfl⟩⟩) ?_
      refine WD.take hok1 6 (elemPtr (.slice ba b.length bc) (k * 4)) (fun w' => RdT tyAnsP w' (.slice ba b.length bc) b) rfl rfl rfl rfl rfl (rb.at H2) (.inl ⟨rfl, fun _ hC => t_addrN k (T := tyAnsP) rfl Try.underlying74 sz102 rfl rfl hC rfl (by omega) ⟨rfl, rfl⟩⟩) ?_
      refine WD.take hok1 7 (.agg #[.int .i64 ((b.getD k ansP0).d.kind), .int .i64 ((b.getD k ansP0).d.err), .slice ((b.getD k ansP0).a) (((b.getD k ansP0).d.nums).length) ((b.getD k ansP0).c), .string ((b.getD k ansP0).d.text)]) (fun w' => RdT tyAnsP w' (.slice ba b.length bc) b) rfl rfl rfl rfl rfl (rb.at H2) (.inl ⟨rfl, fun _ hC => t_loadN k ansP0 (T := tyAnsP) (us := [.int .i64 ((b.getD k ansP0).d.kind), .int .i64 ((b.getD k ansP0).d.err), .slice ((b.getD k ansP0).a) (((b.getD k ansP0).d.nums).length) ((b.getD k ansP0).c), .string ((b.getD k ansP0).d.text)]) rfl Try.underlying102 rfl sz102 rfl hC (by omega) rfl ⟨rfl, rfl⟩⟩) ?_
      refine WD.loud hok1 8 rfl (⟨_, [], rfl, rfl, rfl, rfl, rfl, rfl, d_call ok56 rfl (Ret.calls (refAnsSame_any ((a.getD k ansP0).d) ((a.getD k ansP0).a) ((a.getD k ansP0).c) ((b.getD k ansP0).d) ((b.getD k ansP0).a) ((b.getD k ansP0).c) w2 (show RdT (tyI .i64) w2 (.slice ((a.getD k ansP0).a) (((a.getD k ansP0).d.nums).length) ((a.getD k ansP0).c)) ((a.getD k ansP0).d.nums) from (da.at H2).get ansP0 k (by omega)) (show RdT (tyI .i64) w2 (.slice ((b.getD k ansP0).a) (((b.getD k ansP0).d.nums).length) ((b.getD k ansP0).c)) ((b.getD k ansP0).d.nums) from (db.at H2).get ansP0 k (by omega)) ) fun _ w3 p1 => ?_)⟩)
      obtain ⟨rfl, u1⟩ := p1
      have H3 : UpG w [] w3 [] := H2.call u1
      refine ⟨trivial, ?_⟩
      refine WD.take hok1 9 (.bool (!(decide (((a.getD k ansP0).d) = ((b.getD k ansP0).d))))) (fun _ => True) rfl rfl rfl rfl rfl trivial (.inl ⟨rfl, fun _ _ => d_notB rfl ⟨rfl, rfl⟩⟩) ?_
      refine WD.done hok1 rfl (X.then_code ?_)
      refine W.pick [26, 25, 24, 23, 22, 21, 20, 19, 18, 17, 14, 13, 12, 11, 5, 4, 0, 1] (Γ' := [(26, .bool (!(decide (((a.getD k ansP0).d) = ((b.getD k ansP0).d))))), (25, .bool (decide (((a.getD k ansP0).d) = ((b.getD k ansP0).d)))), (24, .agg #[.int .i64 ((b.getD k ansP0).d.kind), .int .i64 ((b.getD k ansP0).d.err), .slice ((b.getD k ansP0).a) (((b.getD k ansP0).d.nums).length) ((b.getD k ansP0).c), .string ((b.getD k ansP0).d.text)]), (23, elemPtr (.slice ba b.length bc) (k * 4)), (22, .int .i64 ((k : Nat) : Int)), (21, .slice ba b.length bc), (20, .agg #[.int .i64 ((a.getD k ansP0).d.kind), .int .i64 ((a.getD k ansP0).d.err), .slice ((a.getD k ansP0).a) (((a.getD k ansP0).d.nums).length) ((a.getD k ansP0).c), .string ((a.getD k ansP0).d.text)]), (19, elemPtr (.slice aa a.length ac) (k * 4)), (18, .int .i64 ((k : Nat) : Int)), (17, .slice aa a.length ac), (14, .bool (decide (((k : Nat) : Int) < ((a.length : Nat) : Int)))), (13, .int .i64 ((a.length : Nat) : Int)), (12, .slice aa a.length ac), (11, .int .i64 ((k : Nat) : Int)), (5, .int .i64 ((k : Nat) : Int)), (4, .bool false), (0, .slice aa a.length ac), (1, .slice ba b.length bc)]) rfl ?_
      refine W.iteB (b := !(decide (((a.getD k ansP0).d) = ((b.getD k ansP0).d)))) rfl (fun c183 => ?_) (fun c183 => ?_)
      · skip
        refine W.seq ?_
        refine W.region ?_
        refine WL.op rfl (d_assign rfl ?_)
        refine WL.done (X.then_code ?_)
        refine W.pick [4, 26, 25, 24, 23, 22, 21, 20, 19, 18, 17, 14, 13, 12, 11, 5, 0, 1] (Γ' := [(4, .bool false), (26, .bool (!(decide (((a.getD k ansP0).d) = ((b.getD k ansP0).d))))), (25, .bool (decide (((a.getD k ansP0).d) = ((b.getD k ansP0).d)))), (24, .agg #[.int .i64 ((b.getD k ansP0).d.kind), .int .i64 ((b.getD k ansP0).d.err), .slice ((b.getD k ansP0).a) (((b.getD k ansP0).d.nums).length) ((b.getD k ansP0).c), .string ((b.getD k ansP0).d.text)]), (23, elemPtr (.slice ba b.length bc) (k * 4)), (22, .int .i64 ((k : Nat) : Int)), (21, .slice ba b.length bc), (20, .agg #[.int .i64 ((a.getD k ansP0).d.kind), .int .i64 ((a.getD k ansP0).d.err), .slice ((a.getD k ansP0).a) (((a.getD k ansP0).d.nums).length) ((a.getD k ansP0).c), .string ((a.getD k ansP0).d.text)]), (19, elemPtr (.slice aa a.length ac) (k * 4)), (18, .int .i64 ((k : Nat) : Int)), (17, .slice aa a.length ac), (14, .bool (decide (((k : Nat) : Int) < ((a.length : Nat) : Int)))), (13, .int .i64 ((a.length : Nat) : Int)), (12, .slice aa a.length ac), (11, .int .i64 ((k : Nat) : Int)), (5, .int .i64 ((k : Nat) : Int)), (0, .slice aa a.length ac), (1, .slice ba b.length bc)]) rfl ?_
        refine W.ret (X.block_ret (X.then_ret (X.then_ret (X.block_ret (X.then_ret (X.ret1 rfl rfl ?_))))))
        have hne : ¬ adsOf a = adsOf b := fun h => by have h9 : (a.getD k ansP0).d = (b.getD k ansP0).d := by { rw [← ads_get, ← ads_get, h] }; rw [h9] at c183; simp at c183
        exact ⟨(by rw [decide_eq_false hne]), H3.noneL⟩
      · skip
        refine W.skip (X.block_normal (X.then_code ?_))
        refine W.pick [26, 25, 24, 23, 22, 21, 20, 19, 18, 17, 14, 13, 12, 11, 5, 4, 0, 1] (Γ' := [(26, .bool (!(decide (((a.getD k ansP0).d) = ((b.getD k ansP0).d))))), (25, .bool (decide (((a.getD k ansP0).d) = ((b.getD k ansP0).d)))), (24, .agg #[.int .i64 ((b.getD k ansP0).d.kind), .int .i64 ((b.getD k ansP0).d.err), .slice ((b.getD k ansP0).a) (((b.getD k ansP0).d.nums).length) ((b.getD k ansP0).c), .string ((b.getD k ansP0).d.text)]), (23, elemPtr (.slice ba b.length bc) (k * 4)), (22, .int .i64 ((k : Nat) : Int)), (21, .slice ba b.length bc), (20, .agg #[.int .i64 ((a.getD k ansP0).d.kind), .int .i64 ((a.getD k ansP0).d.err), .slice ((a.getD k ansP0).a) (((a.getD k ansP0).d.nums).length) ((a.getD k ansP0).c), .string ((a.getD k ansP0).d.text)]), (19, elemPtr (.slice aa a.length ac) (k * 4)), (18, .int .i64 ((k : Nat) : Int)), (17, .slice aa a.length ac), (14, .bool (decide (((k : Nat) : Int) < ((a.length : Nat) : Int)))), (13, .int .i64 ((a.length : Nat) : Int)), (12, .slice aa a.length ac), (11, .int .i64 ((k : Nat) : Int)), (5, .int .i64 ((k : Nat) : Int)), (4, .bool false), (0, .slice aa a.length ac), (1, .slice ba b.length bc)]) rfl ?_
        refine W.region ?_
        refine WL.op rfl (d_move rfl ?_)
        refine WL.op rfl (d_add rfl rfl (by omega) (by omega) ?_)
        refine WL.op rfl (d_assign rfl ?_)
        refine WL.done ?_
        exact X.next [5, 4, 0, 1] (Γ' := [(5, .int .i64 (((k + 1) : Nat) : Int)), (4, .bool false), (0, .slice aa a.length ac), (1, .slice ba b.length bc)]) rfl (a.length - (k + 1)) (by omega) ⟨k + 1, rfl, H3, (by first | assumption | omega | simp), (by exact take_sameA hs (by omega) (by omega) (by simpa using c183)), rfl⟩
    · skip
      refine W.exit (X.then_exit (X.then_exit (X.block_exit (X.then_code ?_))))
      refine W.seq ?_
      refine W.region ?_
      refine WL.op rfl (d_assign rfl ?_)
      refine WL.done (X.then_code ?_)
      refine W.ret (X.ret1 rfl rfl ?_)
      have he : adsOf a = adsOf b := same_takeA hs (by omega) (by omega)
      exact ⟨(by rw [decide_eq_true he]), H1.noneL⟩

set_option maxRecDepth 20000 in
theorem apart_any (aa : Option Addr) (a : List AnsP) (ac : Nat) (ba : Option Addr) (b : List AnsP) (bc : Nat) (w : World) (ra : RdT tyAnsP w (.slice aa a.length ac) a) (rb : RdT tyAnsP w (.slice ba b.length bc) b) (da : inAns.Rd w a) (db : inAns.Rd w b) :
    Calls Try.prog 41 #[.slice aa a.length ac, .slice ba b.length bc] w (Ret fun v w' => v = .int .i64 (apartL (adsOf a) (adsOf b) 0) ∧ Upd w [] w' []) := by
  have le_ra := ra.le
  have le_rb := rb.le
  refine calls_of_W (args := [.slice aa a.length ac, .slice ba b.length bc]) Try.func41 rfl rfl rfl ?_
  have H0 : UpG w [] w [] := UpG.nil w
  show W _ _ _ _ [(0, .slice aa a.length ac), (1, .slice ba b.length bc)] w
  refine W.seq ?_
  refine W.region ?_
  refine WL.op rfl (d_assign rfl ?_)
  refine WL.done (X.then_code ?_)
  refine W.seq ?_
  refine W.region ?_
  refine WL.op rfl (d_move rfl ?_)
  refine WL.op rfl (d_lenS Try.underlying74 rfl ?_)
  refine WL.op rfl (d_move rfl ?_)
  refine WL.op rfl (d_lenS Try.underlying74 rfl ?_)
  refine WL.op rfl (d_min rfl rfl ?_)
  refine WL.op rfl (d_assign rfl ?_)
  refine WL.done (X.then_code ?_)
  refine W.seq ?_
  refine W.seq ?_
  refine W.region ?_
  refine WL.op rfl (d_move rfl ?_)
  refine WL.op rfl (d_move rfl ?_)
  refine WL.done (X.then_code ?_)
  refine W.block ?_
  refine W.pick [13, 12, 5, 4, 0, 1] (Γ' := [(13, .int .i64 0), (12, .int .i64 (min ((a.length : Nat) : Int) ((b.length : Nat) : Int))), (5, .int .i64 (min ((a.length : Nat) : Int) ((b.length : Nat) : Int))), (4, .int .i64 0), (0, .slice aa a.length ac), (1, .slice ba b.length bc)]) rfl ?_
  refine W.loop (fun m Γ' w' => ∃ k : Nat, Γ' = [(13, .int .i64 ((k : Nat) : Int)), (12, .int .i64 (min ((a.length : Nat) : Int) ((b.length : Nat) : Int))), (5, .int .i64 (min ((a.length : Nat) : Int) ((b.length : Nat) : Int))), (4, .int .i64 0), (0, .slice aa a.length ac), (1, .slice ba b.length bc)] ∧ UpG w [] w' [] ∧ (k ≤ a.length ∧ k ≤ b.length) ∧ ((adsOf a).take k = (adsOf b).take k) ∧ m = a.length - k) (a.length - 0) ⟨0, rfl, H0, (by omega), (by simp), rfl⟩ ?_
  rintro m1 Γ1 w1 ⟨k, rfl, H1, hk, hs, rfl⟩
  refine W.seq ?_
  refine W.region ?_
  refine WL.op rfl (d_cmp (decide (((k : Nat) : Int) < (min ((a.length : Nat) : Int) ((b.length : Nat) : Int)))) rfl rfl rfl ?_)
  refine WL.done (X.then_code ?_)
  refine W.seq ?_
  refine W.ite (p := ((k : Nat) : Int) < (min ((a.length : Nat) : Int) ((b.length : Nat) : Int))) rfl (fun c45 => ?_) (fun c45 => ?_)
  · skip
    refine W.skip (X.then_code ?_)
    refine W.seq ?_
    refine W.block ?_
    refine W.seq ?_
    refine W.region ?_
    refine WL.op rfl (d_move rfl ?_)
    refine WL.op rfl (d_assign rfl ?_)
    refine WL.done (X.then_code ?_)
    refine W.seq ?_
    refine W.regionD mixed (by kernel_rfl) fun hok1 w2 k1 => ?_
    have H2 : UpG w [] w2 [] := H1.kept k1
    refine WD.take hok1 0 (.slice aa a.length ac) (fun _ => True) rfl rfl rfl rfl rfl trivial (.inl ⟨rfl, fun _ _ => d_move rfl ⟨rfl, rfl⟩⟩) ?_
    refine WD.take hok1 1 (.int .i64 ((k : Nat) : Int)) (fun _ => True) rfl rfl rfl rfl rfl trivial (.inl ⟨rfl, fun _ _ => d_move rfl ⟨rfl, rfl⟩⟩) ?_
    refine WD.take hok1 2 (elemPtr (.slice aa a.length ac) (k * 4)) (fun w' => RdT tyAnsP w' (.slice aa a.length ac) a) rfl rfl rfl rfl rfl (ra.at H2) (.inl ⟨rfl, fun _ hC => t_addrN k (T := tyAnsP) rfl Try.underlying74 sz102 rfl rfl hC rfl (by omega) ⟨rfl, rfl⟩⟩) ?_
    refine WD.take hok1 3 (.agg #[.int .i64 ((a.getD k ansP0).d.kind), .int .i64 ((a.getD k ansP0).d.err), .slice ((a.getD k ansP0).a) (((a.getD k ansP0).d.nums).length) ((a.getD k ansP0).c), .string ((a.getD k ansP0).d.text)]) (fun w' => RdT tyAnsP w' (.slice aa a.length ac) a) rfl rfl rfl rfl rfl (ra.at H2) (.inl ⟨rfl, fun _ hC => t_loadN k ansP0 (T := tyAnsP) (us := [.int .i64 ((a.getD k ansP0).d.kind), .int .i64 ((a.getD k ansP0).d.err), .slice ((a.getD k ansP0).a) (((a.getD k ansP0).d.nums).length) ((a.getD k ansP0).c), .string ((a.getD k ansP0).d.text)]) rfl Try.underlying102 rfl sz102 rfl hC (by omega) rfl ⟨rfl, rfl⟩⟩) ?_
    refine WD.take hok1 4 (.slice ba b.length bc) (fun _ => True) rfl rfl rfl rfl rfl trivial (.inl ⟨rfl, fun _ _ => d_move rfl ⟨rfl, rfl⟩⟩) ?_
    refine WD.take hok1 5 (.int .i64 ((k : Nat) : Int)) (fun _ => True) rfl rfl rfl rfl rfl trivial (.inl ⟨rfl, fun _ _ => d_move rfl ⟨rfl, rfl⟩⟩) ?_
    refine WD.take hok1 6 (elemPtr (.slice ba b.length bc) (k * 4)) (fun w' => RdT tyAnsP w' (.slice ba b.length bc) b) rfl rfl rfl rfl rfl (rb.at H2) (.inl ⟨rfl, fun _ hC => t_addrN k (T := tyAnsP) rfl Try.underlying74 sz102 rfl rfl hC rfl (by omega) ⟨rfl, rfl⟩⟩) ?_
    refine WD.take hok1 7 (.agg #[.int .i64 ((b.getD k ansP0).d.kind), .int .i64 ((b.getD k ansP0).d.err), .slice ((b.getD k ansP0).a) (((b.getD k ansP0).d.nums).length) ((b.getD k ansP0).c), .string ((b.getD k ansP0).d.text)]) (fun w' => RdT tyAnsP w' (.slice ba b.length bc) b) rfl rfl rfl rfl rfl (rb.at H2) (.inl ⟨rfl, fun _ hC => t_loadN k ansP0 (T := tyAnsP) (us := [.int .i64 ((b.getD k ansP0).d.kind), .int .i64 ((b.getD k ansP0).d.err), .slice ((b.getD k ansP0).a) (((b.getD k ansP0).d.nums).length) ((b.getD k ansP0).c), .string ((b.getD k ansP0).d.text)]) rfl Try.underlying102 rfl sz102 rfl hC (by omega) rfl ⟨rfl, rfl⟩⟩) ?_
    refine WD.loud hok1 8 rfl (⟨_, [], rfl, rfl, rfl, rfl, rfl, rfl, d_call ok60 rfl (Ret.calls (ansSame_any ((a.getD k ansP0).d) ((a.getD k ansP0).a) ((a.getD k ansP0).c) ((b.getD k ansP0).d) ((b.getD k ansP0).a) ((b.getD k ansP0).c) w2 (show RdT (tyI .i64) w2 (.slice ((a.getD k ansP0).a) (((a.getD k ansP0).d.nums).length) ((a.getD k ansP0).c)) ((a.getD k ansP0).d.nums) from (da.at H2).get ansP0 k (by omega)) (show RdT (tyI .i64) w2 (.slice ((b.getD k ansP0).a) (((b.getD k ansP0).d.nums).length) ((b.getD k ansP0).c)) ((b.getD k ansP0).d.nums) from (db.at H2).get ansP0 k (by omega)) ) fun _ w3 p1 => ?_)⟩)
    obtain ⟨rfl, u1⟩ := p1
    have H3 : UpG w [] w3 [] := H2.call u1
    refine ⟨trivial, ?_⟩
    refine WD.take hok1 9 (.bool (!(decide (((a.getD k ansP0).d) = ((b.getD k ansP0).d))))) (fun _ => True) rfl rfl rfl rfl rfl trivial (.inl ⟨rfl, fun _ _ => d_notB rfl ⟨rfl, rfl⟩⟩) ?_
    refine WD.done hok1 rfl (X.then_code ?_)
    refine W.pick [25, 24, 23, 22, 21, 20, 19, 18, 17, 16, 6, 15, 14, 13, 12, 5, 4, 0, 1] (Γ' := [(25, .bool (!(decide (((a.getD k ansP0).d) = ((b.getD k ansP0).d))))), (24, .bool (decide (((a.getD k ansP0).d) = ((b.getD k ansP0).d)))), (23, .agg #[.int .i64 ((b.getD k ansP0).d.kind), .int .i64 ((b.getD k ansP0).d.err), .slice ((b.getD k ansP0).a) (((b.getD k ansP0).d.nums).length) ((b.getD k ansP0).c), .string ((b.getD k ansP0).d.text)]), (22, elemPtr (.slice ba b.length bc) (k * 4)), (21, .int .i64 ((k : Nat) : Int)), (20, .slice ba b.length bc), (19, .agg #[.int .i64 ((a.getD k ansP0).d.kind), .int .i64 ((a.getD k ansP0).d.err), .slice ((a.getD k ansP0).a) (((a.getD k ansP0).d.nums).length) ((a.getD k ansP0).c), .string ((a.getD k ansP0).d.text)]), (18, elemPtr (.slice aa a.length ac) (k * 4)), (17, .int .i64 ((k : Nat) : Int)), (16, .slice aa a.length ac), (6, .int .i64 ((k : Nat) : Int)), (15, .int .i64 ((k : Nat) : Int)), (14, .bool (decide (((k : Nat) : Int) < (min ((a.length : Nat) : Int) ((b.length : Nat) : Int))))), (13, .int .i64 ((k : Nat) : Int)), (12, .int .i64 (min ((a.length : Nat) : Int) ((b.length : Nat) : Int))), (5, .int .i64 (min ((a.length : Nat) : Int) ((b.length : Nat) : Int))), (4, .int .i64 0), (0, .slice aa a.length ac), (1, .slice ba b.length bc)]) rfl ?_
    refine W.iteB (b := !(decide (((a.getD k ansP0).d) = ((b.getD k ansP0).d)))) rfl (fun c46 => ?_) (fun c46 => ?_)
    · skip
      refine W.seq ?_
      refine W.region ?_
      refine WL.op rfl (d_move rfl ?_)
      refine WL.op rfl (d_assign rfl ?_)
      refine WL.done (X.then_code ?_)
      refine W.pick [4, 26, 25, 24, 23, 22, 21, 20, 19, 18, 17, 16, 6, 15, 14, 13, 12, 5, 0, 1] (Γ' := [(4, .int .i64 ((k : Nat) : Int)), (26, .int .i64 ((k : Nat) : Int)), (25, .bool (!(decide (((a.getD k ansP0).d) = ((b.getD k ansP0).d))))), (24, .bool (decide (((a.getD k ansP0).d) = ((b.getD k ansP0).d)))), (23, .agg #[.int .i64 ((b.getD k ansP0).d.kind), .int .i64 ((b.getD k ansP0).d.err), .slice ((b.getD k ansP0).a) (((b.getD k ansP0).d.nums).length) ((b.getD k ansP0).c), .string ((b.getD k ansP0).d.text)]), (22, elemPtr (.slice ba b.length bc) (k * 4)), (21, .int .i64 ((k : Nat) : Int)), (20, .slice ba b.length bc), (19, .agg #[.int .i64 ((a.getD k ansP0).d.kind), .int .i64 ((a.getD k ansP0).d.err), .slice ((a.getD k ansP0).a) (((a.getD k ansP0).d.nums).length) ((a.getD k ansP0).c), .string ((a.getD k ansP0).d.text)]), (18, elemPtr (.slice aa a.length ac) (k * 4)), (17, .int .i64 ((k : Nat) : Int)), (16, .slice aa a.length ac), (6, .int .i64 ((k : Nat) : Int)), (15, .int .i64 ((k : Nat) : Int)), (14, .bool (decide (((k : Nat) : Int) < (min ((a.length : Nat) : Int) ((b.length : Nat) : Int))))), (13, .int .i64 ((k : Nat) : Int)), (12, .int .i64 (min ((a.length : Nat) : Int) ((b.length : Nat) : Int))), (5, .int .i64 (min ((a.length : Nat) : Int) ((b.length : Nat) : Int))), (0, .slice aa a.length ac), (1, .slice ba b.length bc)]) rfl ?_
      refine W.ret (X.block_ret (X.then_ret (X.then_ret (X.block_ret (X.then_ret (X.ret1 rfl rfl ?_))))))
      exact ⟨(by rw [apart_diff hs (by omega) (by omega) (by simpa using c46)]), H3.noneL⟩
    · skip
      refine W.skip (X.block_normal (X.then_code ?_))
      refine W.pick [25, 24, 23, 22, 21, 20, 19, 18, 17, 16, 6, 15, 14, 13, 12, 5, 4, 0, 1] (Γ' := [(25, .bool (!(decide (((a.getD k ansP0).d) = ((b.getD k ansP0).d))))), (24, .bool (decide (((a.getD k ansP0).d) = ((b.getD k ansP0).d)))), (23, .agg #[.int .i64 ((b.getD k ansP0).d.kind), .int .i64 ((b.getD k ansP0).d.err), .slice ((b.getD k ansP0).a) (((b.getD k ansP0).d.nums).length) ((b.getD k ansP0).c), .string ((b.getD k ansP0).d.text)]), (22, elemPtr (.slice ba b.length bc) (k * 4)), (21, .int .i64 ((k : Nat) : Int)), (20, .slice ba b.length bc), (19, .agg #[.int .i64 ((a.getD k ansP0).d.kind), .int .i64 ((a.getD k ansP0).d.err), .slice ((a.getD k ansP0).a) (((a.getD k ansP0).d.nums).length) ((a.getD k ansP0).c), .string ((a.getD k ansP0).d.text)]), (18, elemPtr (.slice aa a.length ac) (k * 4)), (17, .int .i64 ((k : Nat) : Int)), (16, .slice aa a.length ac), (6, .int .i64 ((k : Nat) : Int)), (15, .int .i64 ((k : Nat) : Int)), (14, .bool (decide (((k : Nat) : Int) < (min ((a.length : Nat) : Int) ((b.length : Nat) : Int))))), (13, .int .i64 ((k : Nat) : Int)), (12, .int .i64 (min ((a.length : Nat) : Int) ((b.length : Nat) : Int))), (5, .int .i64 (min ((a.length : Nat) : Int) ((b.length : Nat) : Int))), (4, .int .i64 0), (0, .slice aa a.length ac), (1, .slice ba b.length bc)]) rfl ?_
      refine W.region ?_
      refine WL.op rfl (d_add rfl rfl (by omega) (by omega) ?_)
      refine WL.op rfl (d_move rfl ?_)
      refine WL.done ?_
      exact X.next [13, 12, 5, 4, 0, 1] (Γ' := [(13, .int .i64 (((k + 1) : Nat) : Int)), (12, .int .i64 (min ((a.length : Nat) : Int) ((b.length : Nat) : Int))), (5, .int .i64 (min ((a.length : Nat) : Int) ((b.length : Nat) : Int))), (4, .int .i64 0), (0, .slice aa a.length ac), (1, .slice ba b.length bc)]) rfl (a.length - (k + 1)) (by omega) ⟨k + 1, rfl, H3, (by omega), (by exact take_sameA hs (by omega) (by omega) (by simpa using c46)), rfl⟩
  · skip
    refine W.exit (X.then_exit (X.then_exit (X.block_exit (X.then_code ?_))))
    refine W.seq ?_
    refine W.seq ?_
    refine W.region ?_
    refine WL.op rfl (d_move rfl ?_)
    refine WL.op rfl (d_lenS Try.underlying74 rfl ?_)
    refine WL.op rfl (d_move rfl ?_)
    refine WL.op rfl (d_lenS Try.underlying74 rfl ?_)
    refine WL.op rfl (d_cmp (decide (((a.length : Nat) : Int) ≠ ((b.length : Nat) : Int))) rfl rfl rfl ?_)
    refine WL.done (X.then_code ?_)
    refine W.ite (p := ((a.length : Nat) : Int) ≠ ((b.length : Nat) : Int)) rfl (fun c50 => ?_) (fun c50 => ?_)
    · skip
      refine W.seq ?_
      refine W.region ?_
      refine WL.op rfl (d_move rfl ?_)
      refine WL.op rfl (d_assign rfl ?_)
      refine WL.done (X.then_code ?_)
      refine W.ret (X.then_ret (X.ret1 rfl rfl ?_))
      exact ⟨(by rw [apart_end hs hk.1 hk.2 (by omega) (by omega)]; congr 1; omega), H1.noneL⟩
    · skip
      refine W.skip (X.then_code ?_)
      refine W.seq ?_
      refine W.region ?_
      refine WL.op rfl (d_assign rfl ?_)
      refine WL.done (X.then_code ?_)
      refine W.ret (X.ret1 rfl rfl ?_)
      exact ⟨(by rw [apart_none hs (by omega) (by omega)]), H1.noneL⟩
end Go.Proofs.Ytkdcmklkggnblaa
