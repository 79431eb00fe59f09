/- The walks of functions, printed by wip/tools/gw.py. -/
import Derived.Test.YtoeockpkkmgieaaF2
import Derived.Test.YtoeockpkkmgieaaSx7
import Derived.Test.YtoeockpkkmgieaaA4
import Derived.Test.YtoeockpkkmgieaaL2
import Derived.Test.YtoeockpkkmgieaaDfa3
namespace Go.Proofs.Ytoeockpkkmgieaa
open Go Go.Sx
set_option linter.unusedVariables false
set_option linter.unusedSimpArgs false
set_option maxRecDepth 20000 in
theorem reach1_any (s : Int) (lg : Nat) (la : Option Addr) (lc : Nat) (dg : Nat) (d : DfaD) (dca : Option Addr) (dcc : Nat) (dna : Option Addr) (dnc : Nat) (dba : Option Addr) (dbc : Nat) (w : World) (rl : RdT (tyI .i64) w (.slice la ((usedI d).length) lc) (usedI d)) (rn : RdT (tyI .i64) w (.slice dna d.next.length dnc) d.next) (blg : w.heap[lg]? = some (.cells #[.slice la ((usedI d).length) lc] 22 (0, 0))) (bdg : w.heap[dg]? = some (.cells #[.slice dca d.cls.length dcc, .int .i64 d.width, .int .i64 d.start, .slice dna d.next.length dnc, .slice dba d.acc.length dbc] 25 (0, 0))) (hrt : rightB d = true) (hs : 0 ≤ s ∧ s < (d.acc.length : Int)) :
    Calls Try.prog 60 #[.int .i64 s, .pointer (some ⟨lg, 0, none⟩), .pointer (some ⟨dg, 0, none⟩)] w (Ret fun v w' => ∃ a2 : Option Addr, ∃ c2 : Nat, v = .slice a2 ((nxR d s).length) c2 ∧ Upd w [] w' [rowT (tyI .i64) (.slice a2 ((nxR d s).length) c2) 3 (nxR d s)]) := by
  have hul := used_len d
  have hri := rightB_iff.1 hrt
  have le_rl := rl.le
  have le_rn := rn.le
  refine calls_of_W (args := [.int .i64 s, .pointer (some ⟨lg, 0, none⟩), .pointer (some ⟨dg, 0, none⟩)]) Try.func60 rfl rfl rfl ?_
  have H0 : UpG w [] w [] := UpG.nil w
  show W _ _ _ _ [(0, .int .i64 s), (1, .pointer (some ⟨lg, 0, none⟩)), (2, .pointer (some ⟨dg, 0, none⟩))] w
  refine W.seq ?_
  refine W.region ?_
  refine WL.op rfl (d_assign rfl ?_)
  refine WL.done (X.then_code ?_)
  refine W.seq ?_
  refine W.region ?_
  refine WL.op rfl (d_assign rfl ?_)
  refine WL.done (X.then_code ?_)
  refine W.seq ?_
  refine W.seq ?_
  refine W.region ?_
  refine WL.op rfl (d_loadB Try.underlying22 rfl rfl (H0.keep0.obj blg (by simp)) rfl ?_)
  refine WL.op rfl (d_lenS Try.underlying22 rfl ?_)
  refine WL.op rfl (d_move rfl ?_)
  refine WL.done (X.then_code ?_)
  refine W.block ?_
  have H1 : UpG w [] w [[rowT (tyI .i64) (.slice none (([] : List Int).length) 0) 3 ([] : List Int)]] := H0.new' (Upd.nilRowT w (tyI .i64) 3)
  refine W.pick [10, 9, 8, 5, 4, 0, 2] (Γ' := [(10, .int .i64 0), (9, .int .i64 (((usedI d).length : Nat) : Int)), (8, .slice la ((usedI d).length) lc), (5, .slice none (([] : List Int).length) 0), (4, .slice none 0 0), (0, .int .i64 s), (2, .pointer (some ⟨dg, 0, none⟩))]) rfl ?_
  refine W.loop (fun m Γ' w' => ∃ k : Nat, ∃ q : List Int, ∃ qa : Option Addr, ∃ qc : Nat, Γ' = [(10, .int .i64 ((k : Nat) : Int)), (9, .int .i64 (((usedI d).length : Nat) : Int)), (8, .slice la ((usedI d).length) lc), (5, .slice qa q.length qc), (4, .slice none 0 0), (0, .int .i64 s), (2, .pointer (some ⟨dg, 0, none⟩))] ∧ UpG w [] w' [[rowT (tyI .i64) (.slice qa q.length qc) 3 q]] ∧ (k ≤ (usedI d).length) ∧ (q = ((usedI d).take k).map (fun c => d.next.getD (s * d.width + c).toNat 0)) ∧ (q.length = k) ∧ m = (usedI d).length - k) ((usedI d).length - 0) ⟨0, ([] : List Int), none, 0, rfl, H1, (by first | assumption | omega | simp), (by rfl), (by rfl), rfl⟩ ?_
  rintro m1 Γ1 w1 ⟨k, q, qa, qc, rfl, H2, hk, hq, hql, rfl⟩
  refine W.seq ?_
  refine W.region ?_
  refine WL.op rfl (d_cmp (decide (((k : Nat) : Int) < (((usedI d).length : Nat) : Int))) rfl rfl rfl ?_)
  refine WL.done (X.then_code ?_)
  refine W.seq ?_
  refine W.ite (p := ((k : Nat) : Int) < (((usedI d).length : Nat) : Int)) rfl (fun c114 => ?_) (fun c114 => ?_)
  · skip
    refine W.skip (X.then_code ?_)
    refine W.seq ?_
    refine W.block ?_
    refine W.seq ?_
    refine W.region ?_
    refine WL.op rfl (t_addr1 k (T := (tyI .i64)) rfl Try.underlying22 sz3 rfl rfl (rl.at H2) rfl (by omega) ?_)
    refine WL.op rfl (t_load1 k 0 (T := (tyI .i64)) rfl Try.underlying3 rfl rfl (rl.at H2) (by omega) rfl ?_)
    refine WL.op rfl (d_assign rfl ?_)
    refine WL.done (X.then_code ?_)
    have hcx := used_bd hrt (x := (usedI d).getD k 0) (getD_mem' (by omega))
    have hix := right_idx hrt hs.1 hs.2 hcx.1 hcx.2
    refine W.region ?_
    refine WL.op rfl (d_move rfl ?_)
    refine WL.op rfl (d_fieldAddrB fld25_3 rfl rfl ?_)
    refine WL.op rfl (d_loadB Try.underlying22 rfl rfl (H2.keep0.obj bdg (by simp)) rfl ?_)
    refine WL.op rfl (d_move rfl ?_)
    refine WL.op rfl (d_fieldAddrB fld25_1 rfl rfl ?_)
    refine WL.op rfl (d_loadB Try.underlying3 rfl rfl (H2.keep0.obj bdg (by simp)) rfl ?_)
    refine WL.op rfl (d_mul rfl rfl (by omega) (by omega) ?_)
    refine WL.op rfl (d_move rfl ?_)
    refine WL.op rfl (d_add rfl rfl (by omega) (by omega) ?_)
    refine WL.op rfl (t_addr1 (((s * d.width) + ((usedI d).getD k 0)).toNat) (T := (tyI .i64)) rfl Try.underlying22 sz3 rfl rfl (rn.at H2) (by omega) (by omega) ?_)
    refine WL.op rfl (t_load1 (((s * d.width) + ((usedI d).getD k 0)).toNat) 0 (T := (tyI .i64)) rfl Try.underlying3 rfl rfl (rn.at H2) (by omega) rfl ?_)
    refine WL.op rfl (t_buildSlice (T := (tyI .i64)) (xs := [d.next.getD (((s * d.width) + ((usedI d).getD k 0)).toNat) 0]) (cs := #[.int .i64 (d.next.getD (((s * d.width) + ((usedI d).getD k 0)).toNat) 0)]) rfl Try.underlying22 sz3 rfl rfl rfl rfl (by kernel_rfl) rfl rfl fun w2 u1 => ?_)
    have H3 : UpG w [] w2 [[rowT (tyI .i64) (.slice qa q.length qc) 3 q], [rowT (tyI .i64) (.slice (some ⟨w1.heap.size, 0, none⟩) ([d.next.getD (((s * d.width) + ((usedI d).getD k 0)).toNat) 0].length) ([d.next.getD (((s * d.width) + ((usedI d).getD k 0)).toNat) 0].length)) 3 [d.next.getD (((s * d.width) + ((usedI d).getD k 0)).toNat) 0]]] := H2.new' u1
    refine WL.op rfl (t_append (T := (tyI .i64)) (xs := q) (ys := [d.next.getD (((s * d.width) + ((usedI d).getD k 0)).toNat) 0]) rfl Try.underlying22 sz3 rfl rfl rfl (H3.ownT 0 rfl) (H3.rdT 1 rfl) (by simp; omega) (by simp; omega) fun a1 c1 w3 u2 => ?_)
    have H4 : UpG w [] w3 [[rowT (tyI .i64) (.slice a1 ((q ++ [d.next.getD (((s * d.width) + ((usedI d).getD k 0)).toNat) 0]).length) c1) 3 (q ++ [d.next.getD (((s * d.width) + ((usedI d).getD k 0)).toNat) 0])], []] := (H3.on 0 rfl u2).drop 1
    refine WL.op rfl (d_assign rfl ?_)
    refine WL.done (X.block_normal (X.then_code ?_))
    refine W.pick [5, 26, 25, 24, 23, 22, 21, 20, 19, 18, 17, 16, 15, 14, 7, 13, 12, 11, 10, 9, 8, 4, 0, 2] (Γ' := [(5, .slice a1 ((q ++ [d.next.getD (((s * d.width) + ((usedI d).getD k 0)).toNat) 0]).length) c1), (26, .slice a1 ((q ++ [d.next.getD (((s * d.width) + ((usedI d).getD k 0)).toNat) 0]).length) c1), (25, .slice (some ⟨w1.heap.size, 0, none⟩) ([d.next.getD (((s * d.width) + ((usedI d).getD k 0)).toNat) 0].length) ([d.next.getD (((s * d.width) + ((usedI d).getD k 0)).toNat) 0].length)), (24, .int .i64 (d.next.getD (((s * d.width) + ((usedI d).getD k 0)).toNat) 0)), (23, elemPtr (.slice dna d.next.length dnc) (((s * d.width) + ((usedI d).getD k 0)).toNat)), (22, .int .i64 ((s * d.width) + ((usedI d).getD k 0))), (21, .int .i64 ((usedI d).getD k 0)), (20, .int .i64 (s * d.width)), (19, .int .i64 d.width), (18, .pointer (some ⟨dg, 1, none⟩)), (17, .int .i64 s), (16, .slice dna d.next.length dnc), (15, .pointer (some ⟨dg, 3, none⟩)), (14, .slice qa q.length qc), (7, .int .i64 ((usedI d).getD k 0)), (13, .int .i64 ((usedI d).getD k 0)), (12, elemPtr (.slice la ((usedI d).length) lc) k), (11, .bool (decide (((k : Nat) : Int) < (((usedI d).length : Nat) : Int)))), (10, .int .i64 ((k : Nat) : Int)), (9, .int .i64 (((usedI d).length : Nat) : Int)), (8, .slice la ((usedI d).length) lc), (4, .slice none 0 0), (0, .int .i64 s), (2, .pointer (some ⟨dg, 0, none⟩))]) rfl ?_
    refine W.region ?_
    refine WL.op rfl (d_add rfl rfl (by omega) (by omega) ?_)
    refine WL.op rfl (d_move rfl ?_)
    refine WL.done ?_
    exact X.next [10, 9, 8, 5, 4, 0, 2] (Γ' := [(10, .int .i64 (((k + 1) : Nat) : Int)), (9, .int .i64 (((usedI d).length : Nat) : Int)), (8, .slice la ((usedI d).length) lc), (5, .slice a1 ((q ++ [d.next.getD (((s * d.width) + ((usedI d).getD k 0)).toNat) 0]).length) c1), (4, .slice none 0 0), (0, .int .i64 s), (2, .pointer (some ⟨dg, 0, none⟩))]) rfl ((usedI d).length - (k + 1)) (by omega) ⟨k + 1, q ++ [d.next.getD (((s * d.width) + ((usedI d).getD k 0)).toNat) 0], a1, c1, rfl, (H4.re rfl), (by first | assumption | omega | simp), (by rw [hq]; exact nxR_step (by omega)), (by simp; omega), rfl⟩
  · skip
    refine W.exit (X.then_exit (X.then_exit (X.block_exit (X.then_code ?_))))
    refine W.seq ?_
    refine W.region ?_
    refine WL.op rfl (d_move rfl ?_)
    refine WL.op rfl (d_assign rfl ?_)
    refine WL.done (X.then_code ?_)
    refine W.ret (X.ret1 rfl rfl ?_)
    have e : nxR d s = q := by rw [hq, List.take_of_length_le (by omega)]; rfl
    rw [e]
    exact ⟨qa, qc, (by rfl), (by have hh := H2.one 0 rfl; exact hh)⟩

set_option maxRecDepth 20000 in
theorem reach_any (d : DfaD) (dca : Option Addr) (dna : Option Addr) (dba : Option Addr) (dcc : Nat) (dnc : Nat) (dbc : Nat) (w : World) (rcd : RdT (tyI .i64) w (.slice dca d.cls.length dcc) d.cls) (rnd : RdT (tyI .i64) w (.slice dna d.next.length dnc) d.next) (rbd : RdT tyB w (.slice dba d.acc.length dbc) d.acc) (hcl : d.cls.length ≤ 1000) :
    Calls Try.prog 19 #[.agg #[.slice dca d.cls.length dcc, .int .i64 d.width, .int .i64 d.start, .slice dna d.next.length dnc, .slice dba d.acc.length dbc]] w (Ret fun v w' => ∃ a2 : Option Addr, ∃ o2 : List Bool, ∃ c2 : Nat, v = .slice a2 o2.length c2 ∧ Upd w [] w' [rowT tyB (.slice a2 o2.length c2) 4 o2] ∧ (ReachP d o2)) := by
  have le_rcd := rcd.le
  have le_rnd := rnd.le
  have le_rbd := rbd.le
  refine calls_of_W (args := [.agg #[.slice dca d.cls.length dcc, .int .i64 d.width, .int .i64 d.start, .slice dna d.next.length dnc, .slice dba d.acc.length dbc]]) Try.func19 rfl rfl rfl ?_
  have H0 : UpG w [] w [] := UpG.nil w
  show W _ _ _ _ [(0, .agg #[.slice dca d.cls.length dcc, .int .i64 d.width, .int .i64 d.start, .slice dna d.next.length dnc, .slice dba d.acc.length dbc])] w
  refine W.seq ?_
  refine W.region ?_
  refine WL.op rfl (d_box rfl fun w1 u1 => ?_)
  have H1 : UpG w [] w1 [[blk w.heap.size #[.slice dca d.cls.length dcc, .int .i64 d.width, .int .i64 d.start, .slice dna d.next.length dnc, .slice dba d.acc.length dbc] 25]] := H0.new' u1
  refine WL.op rfl (d_assign rfl ?_)
  refine WL.done (X.then_code ?_)
  refine W.seq ?_
  refine W.seq ?_
  refine W.region ?_
  refine WL.op rfl (d_loadAB [.slice dca d.cls.length dcc, .int .i64 d.width, .int .i64 d.start, .slice dna d.next.length dnc, .slice dba d.acc.length dbc] Try.underlying25 rfl sz25 rfl (H1.blk 0 rfl) rfl rfl ?_)
  refine WL.op rfl (d_call ok24 rfl (Ret.calls (right_any d dca dna dba dcc dnc dbc w1 (rcd.at H1) (rnd.at H1) (rbd.at H1) ) fun _ w2 p1 => ?_))
  obtain ⟨rfl, u2⟩ := p1
  have H2 : UpG w [] w2 [[blk w.heap.size #[.slice dca d.cls.length dcc, .int .i64 d.width, .int .i64 d.start, .slice dna d.next.length dnc, .slice dba d.acc.length dbc] 25]] := H1.call u2
  refine WL.op rfl (d_notB rfl ?_)
  refine WL.done (X.then_code ?_)
  refine W.iteB (b := !(rightB d)) rfl (fun c108 => ?_) (fun c108 => ?_)
  · skip
    refine W.seq ?_
    refine W.region ?_
    refine WL.op rfl (d_assign rfl ?_)
    refine WL.done (X.then_code ?_)
    refine W.ret (X.then_ret (X.ret1 rfl rfl ?_))
    exact ⟨none, [], 0, (by rfl), nilOwn H2, ⟨fun _ => rfl, fun h => by rw [h] at c108; exact absurd c108 (by decide)⟩⟩
  · skip
    refine W.skip (X.then_code ?_)
    refine W.seq ?_
    have hrt : rightB d = true := by simpa using c108
    have hri := rightB_iff.1 hrt
    refine W.region ?_
    refine WL.op rfl (d_loadAB [.slice dca d.cls.length dcc, .int .i64 d.width, .int .i64 d.start, .slice dna d.next.length dnc, .slice dba d.acc.length dbc] Try.underlying25 rfl sz25 rfl (H2.blk 0 rfl) rfl rfl ?_)
    refine WL.op rfl (d_call ok57 rfl (Ret.calls (used_any d dca dna dba dcc dnc dbc w2 (rcd.at H2) (rnd.at H2) (rbd.at H2) (by omega)) fun _ w3 p2 => ?_))
    obtain ⟨a2_1, c2_1, rfl, u3⟩ := p2
    have H3 : UpG w [] w3 [[blk w.heap.size #[.slice dca d.cls.length dcc, .int .i64 d.width, .int .i64 d.start, .slice dna d.next.length dnc, .slice dba d.acc.length dbc] 25], [rowT (tyI .i64) (.slice a2_1 ((usedI d).length) c2_1) 3 (usedI d)]] := (H2.new' u3).re rfl
    refine WL.op rfl (d_alloc sz22 fun w4 u4 => ?_)
    have H4 : UpG w [] w4 [[blk w.heap.size #[.slice dca d.cls.length dcc, .int .i64 d.width, .int .i64 d.start, .slice dna d.next.length dnc, .slice dba d.acc.length dbc] 25], [rowT (tyI .i64) (.slice a2_1 ((usedI d).length) c2_1) 3 (usedI d)], [blk w3.heap.size #[.slice none 0 0] 22]] := H3.new' u4
    refine WL.op0 (d_storeB sz22 rfl rfl rfl (H4.blk 2 rfl) rfl fun w5 u5 => ?_)
    have H5 : UpG w [] w5 [[blk w.heap.size #[.slice dca d.cls.length dcc, .int .i64 d.width, .int .i64 d.start, .slice dna d.next.length dnc, .slice dba d.acc.length dbc] 25], [rowT (tyI .i64) (.slice a2_1 ((usedI d).length) c2_1) 3 (usedI d)], [blk w3.heap.size #[.slice a2_1 ((usedI d).length) c2_1] 22]] := H4.on 2 rfl u5
    refine WL.done (X.then_code ?_)
    refine W.seq ?_
    refine W.region ?_
    refine WL.op rfl (d_fieldAddrB fld25_2 rfl rfl ?_)
    refine WL.op rfl (d_loadB Try.underlying3 rfl rfl (H5.blk 0 rfl) rfl ?_)
    refine WL.op rfl (t_buildSlice (T := (tyI .i64)) (xs := [d.start]) (cs := #[.int .i64 d.start]) rfl Try.underlying22 sz3 rfl rfl rfl rfl (by kernel_rfl) rfl rfl fun w6 u6 => ?_)
    have H6 : UpG w [] w6 [[blk w.heap.size #[.slice dca d.cls.length dcc, .int .i64 d.width, .int .i64 d.start, .slice dna d.next.length dnc, .slice dba d.acc.length dbc] 25], [rowT (tyI .i64) (.slice a2_1 ((usedI d).length) c2_1) 3 (usedI d)], [blk w3.heap.size #[.slice a2_1 ((usedI d).length) c2_1] 22], [rowT (tyI .i64) (.slice (some ⟨w5.heap.size, 0, none⟩) ([d.start].length) ([d.start].length)) 3 [d.start]]] := H5.new' u6
    refine WL.op rfl (d_fieldAddrB fld25_4 rfl rfl ?_)
    refine WL.op rfl (d_loadB Try.underlying23 rfl rfl (H6.blk 0 rfl) rfl ?_)
    refine WL.op rfl (d_lenS Try.underlying23 rfl ?_)
    refine WL.op rfl (d_makeFunc rfl rfl ?_)
    refine WL.op rfl (d_call ok58 rfl (Ret.calls (spreadR_any (some ⟨w5.heap.size, 0, none⟩) [d.start] ([d.start].length) d.acc.length 60 [.pointer (some ⟨w3.heap.size, 0, none⟩), .pointer (some ⟨w.heap.size, 0, none⟩)] (nxR d) w6 (H6.hpOf 3 rfl)  (by simp; omega) (by intro t ht; simp only [List.mem_singleton] at ht; subst ht; omega) (fun s h0 h1 => ⟨by have := nxR_len d s; omega, fun t ht => nxR_bd hrt h0 h1 ht⟩) ok60 (fun w2 k2 x h0 h1 => reach1_any x _ _ _ _ d _ _ _ _ _ _ w2 (H6.rdT_keep 3 1 rfl rfl rfl k2) (rnd.kept (H6.keep_step 3 rfl k2)) (H6.blk_keep 3 2 rfl rfl rfl k2) (H6.blk_keep 3 0 rfl rfl rfl k2) hrt ⟨h0, h1⟩)) fun _ w7 p3 => ?_))
    obtain ⟨a2_2, o2_1, c2_2, rfl, u7, q1⟩ := p3
    have H7 : UpG w [] w7 [[blk w.heap.size #[.slice dca d.cls.length dcc, .int .i64 d.width, .int .i64 d.start, .slice dna d.next.length dnc, .slice dba d.acc.length dbc] 25], [rowT (tyI .i64) (.slice a2_1 ((usedI d).length) c2_1) 3 (usedI d)], [blk w3.heap.size #[.slice a2_1 ((usedI d).length) c2_1] 22], [rowT tyB (.slice a2_2 o2_1.length c2_2) 4 o2_1]] := H6.on 3 rfl u7
    refine WL.op rfl (d_assign rfl ?_)
    refine WL.done (X.then_code ?_)
    refine W.pick [2] (Γ' := [(2, .slice a2_2 o2_1.length c2_2)]) rfl ?_
    refine W.ret (X.ret1 rfl rfl ?_)
    exact ⟨a2_2, o2_1, c2_2, rfl, H7.one 3 rfl, reach_of hrt q1⟩
end Go.Proofs.Ytoeockpkkmgieaa
