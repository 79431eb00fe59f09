/- The walks of functions, printed by wip/tools/gw.py. -/
import Derived.Test.YtoeockpkkmgieaaF2
import Derived.Test.YtoeockpkkmgieaaSx7
import Derived.Test.YtoeockpkkmgieaaA6
import Derived.Test.YtoeockpkkmgieaaDfa3
namespace Go.Proofs.Ytoeockpkkmgieaa
open Go Go.Sx
set_option linter.unusedVariables false
set_option linter.unusedSimpArgs false
set_option maxRecDepth 20000 in
theorem live_any (d : DfaD) (dca : Option Addr) (dna : Option Addr) (dba : Option Addr) (dcc : Nat) (dnc : Nat) (dbc : Nat) (w : World) (rcd : RdT (tyI .i64) w (.slice dca d.cls.length dcc) d.cls) (rnd : RdT (tyI .i64) w (.slice dna d.next.length dnc) d.next) (rbd : RdT tyB w (.slice dba d.acc.length dbc) d.acc) (hcl : d.cls.length ≤ 1000) :
    Calls Try.prog 18 #[.agg #[.slice dca d.cls.length dcc, .int .i64 d.width, .int .i64 d.start, .slice dna d.next.length dnc, .slice dba d.acc.length dbc]] w (Ret fun v w' => ∃ a2 : Option Addr, ∃ o2 : List Bool, ∃ c2 : Nat, v = .slice a2 o2.length c2 ∧ Upd w [] w' [rowT tyB (.slice a2 o2.length c2) 4 o2] ∧ (LiveP d o2)) := by
  have le_rcd := rcd.le
  have le_rnd := rnd.le
  have le_rbd := rbd.le
  refine calls_of_W (args := [.agg #[.slice dca d.cls.length dcc, .int .i64 d.width, .int .i64 d.start, .slice dna d.next.length dnc, .slice dba d.acc.length dbc]]) Try.func18 rfl rfl rfl ?_
  have H0 : UpG w [] w [] := UpG.nil w
  show W _ _ _ _ [(0, .agg #[.slice dca d.cls.length dcc, .int .i64 d.width, .int .i64 d.start, .slice dna d.next.length dnc, .slice dba d.acc.length dbc])] w
  refine W.seq ?_
  refine W.region ?_
  refine WL.op rfl (d_box rfl fun w1 u1 => ?_)
  have H1 : UpG w [] w1 [[blk w.heap.size #[.slice dca d.cls.length dcc, .int .i64 d.width, .int .i64 d.start, .slice dna d.next.length dnc, .slice dba d.acc.length dbc] 25]] := H0.new' u1
  refine WL.op rfl (d_assign rfl ?_)
  refine WL.done (X.then_code ?_)
  refine W.seq ?_
  refine W.seq ?_
  refine W.region ?_
  refine WL.op rfl (d_loadAB [.slice dca d.cls.length dcc, .int .i64 d.width, .int .i64 d.start, .slice dna d.next.length dnc, .slice dba d.acc.length dbc] Try.underlying25 rfl sz25 rfl (H1.blk 0 rfl) rfl rfl ?_)
  refine WL.op rfl (d_call ok24 rfl (Ret.calls (right_any d dca dna dba dcc dnc dbc w1 (rcd.at H1) (rnd.at H1) (rbd.at H1) ) fun _ w2 p1 => ?_))
  obtain ⟨rfl, u2⟩ := p1
  have H2 : UpG w [] w2 [[blk w.heap.size #[.slice dca d.cls.length dcc, .int .i64 d.width, .int .i64 d.start, .slice dna d.next.length dnc, .slice dba d.acc.length dbc] 25]] := H1.call u2
  refine WL.op rfl (d_notB rfl ?_)
  refine WL.done (X.then_code ?_)
  refine W.iteB (b := !(rightB d)) rfl (fun c86 => ?_) (fun c86 => ?_)
  · skip
    refine W.seq ?_
    refine W.region ?_
    refine WL.op rfl (d_assign rfl ?_)
    refine WL.done (X.then_code ?_)
    refine W.ret (X.then_ret (X.ret1 rfl rfl ?_))
    exact ⟨none, [], 0, (by rfl), nilOwn H2, ⟨fun _ => rfl, fun h => by rw [h] at c86; exact absurd c86 (by decide)⟩⟩
  · skip
    refine W.skip (X.then_code ?_)
    refine W.seq ?_
    have hrt : rightB d = true := by simpa using c86
    have hri := rightB_iff.1 hrt
    have hul := used_len d
    refine W.region ?_
    refine WL.op rfl (d_loadAB [.slice dca d.cls.length dcc, .int .i64 d.width, .int .i64 d.start, .slice dna d.next.length dnc, .slice dba d.acc.length dbc] Try.underlying25 rfl sz25 rfl (H2.blk 0 rfl) rfl rfl ?_)
    refine WL.op rfl (d_call ok57 rfl (Ret.calls (used_any d dca dna dba dcc dnc dbc w2 (rcd.at H2) (rnd.at H2) (rbd.at H2) (by omega)) fun _ w3 p2 => ?_))
    obtain ⟨a2_1, c2_1, rfl, u3⟩ := p2
    have H3 : UpG w [] w3 [[blk w.heap.size #[.slice dca d.cls.length dcc, .int .i64 d.width, .int .i64 d.start, .slice dna d.next.length dnc, .slice dba d.acc.length dbc] 25], [rowT (tyI .i64) (.slice a2_1 ((usedI d).length) c2_1) 3 (usedI d)]] := (H2.new' u3).re rfl
    refine WL.op rfl (d_assign rfl ?_)
    refine WL.done (X.then_code ?_)
    refine W.seq ?_
    refine W.region ?_
    refine WL.op rfl (d_fieldAddrB fld25_4 rfl rfl ?_)
    refine WL.op rfl (d_loadB Try.underlying23 rfl rfl (H3.blk 0 rfl) rfl ?_)
    refine WL.op rfl (d_lenS Try.underlying23 rfl ?_)
    refine WL.op rfl (t_make d.acc.length (lr0 : LR Int) (T := tyLR) rfl Try.underlying77 sz22 rfl rfl rfl rfl (by omega) (by omega) fun w4 u4 => ?_)
    have H4 : UpG w [] w4 [[blk w.heap.size #[.slice dca d.cls.length dcc, .int .i64 d.width, .int .i64 d.start, .slice dna d.next.length dnc, .slice dba d.acc.length dbc] 25], [rowT (tyI .i64) (.slice a2_1 ((usedI d).length) c2_1) 3 (usedI d)], [rowT tyLR (.slice (some ⟨w3.heap.size, 0, none⟩) ((List.replicate d.acc.length (lr0 : LR Int)).length) d.acc.length) 22 (List.replicate d.acc.length (lr0 : LR Int))]] := H3.new' u4
    have H5 : UpG w [] w4 [[blk w.heap.size #[.slice dca d.cls.length dcc, .int .i64 d.width, .int .i64 d.start, .slice dna d.next.length dnc, .slice dba d.acc.length dbc] 25], [rowT (tyI .i64) (.slice a2_1 ((usedI d).length) c2_1) 3 (usedI d)], [rowT tyLR (.slice (some ⟨w3.heap.size, 0, none⟩) ((List.replicate d.acc.length (lr0 : LR Int)).length) d.acc.length) 22 (List.replicate d.acc.length (lr0 : LR Int))], [manyF (inLR (tyI .i64) 3).row (List.replicate d.acc.length (lr0 : LR Int))]] := H4.new' (Upd.manyRep (tyI .i64) 3 d.acc.length w4)
    refine WL.op rfl (d_alloc sz77 fun w5 u5 => ?_)
    have H6 : UpG w [] w5 [[blk w.heap.size #[.slice dca d.cls.length dcc, .int .i64 d.width, .int .i64 d.start, .slice dna d.next.length dnc, .slice dba d.acc.length dbc] 25], [rowT (tyI .i64) (.slice a2_1 ((usedI d).length) c2_1) 3 (usedI d)], [rowT tyLR (.slice (some ⟨w3.heap.size, 0, none⟩) ((List.replicate d.acc.length (lr0 : LR Int)).length) d.acc.length) 22 (List.replicate d.acc.length (lr0 : LR Int))], [manyF (inLR (tyI .i64) 3).row (List.replicate d.acc.length (lr0 : LR Int))], [blk w4.heap.size #[.slice none 0 0] 77]] := H5.new' u5
    refine WL.op0 (d_storeB sz77 rfl rfl rfl (H6.blk 4 rfl) rfl fun w6 u6 => ?_)
    have H7 : UpG w [] w6 [[blk w.heap.size #[.slice dca d.cls.length dcc, .int .i64 d.width, .int .i64 d.start, .slice dna d.next.length dnc, .slice dba d.acc.length dbc] 25], [rowT (tyI .i64) (.slice a2_1 ((usedI d).length) c2_1) 3 (usedI d)], [rowT tyLR (.slice (some ⟨w3.heap.size, 0, none⟩) ((List.replicate d.acc.length (lr0 : LR Int)).length) d.acc.length) 22 (List.replicate d.acc.length (lr0 : LR Int))], [manyF (inLR (tyI .i64) 3).row (List.replicate d.acc.length (lr0 : LR Int))], [blk w4.heap.size #[.slice (some ⟨w3.heap.size, 0, none⟩) ((List.replicate d.acc.length (lr0 : LR Int)).length) d.acc.length] 77]] := H6.on 4 rfl u6
    refine WL.done (X.then_code ?_)
    refine W.seq ?_
    refine W.seq ?_
    refine W.region ?_
    refine WL.op rfl (d_fieldAddrB fld25_4 rfl rfl ?_)
    refine WL.op rfl (d_loadB Try.underlying23 rfl rfl (H7.blk 0 rfl) rfl ?_)
    refine WL.op rfl (d_lenS Try.underlying23 rfl ?_)
    refine WL.op rfl (d_move rfl ?_)
    refine WL.done (X.then_code ?_)
    refine W.pick [24, 23, 4, 3, 2, 1] (Γ' := [(24, .int .i64 0), (23, .int .i64 ((d.acc.length : Nat) : Int)), (4, .pointer (some ⟨w4.heap.size, 0, none⟩)), (3, .slice a2_1 ((usedI d).length) c2_1), (2, .slice none 0 0), (1, .pointer (some ⟨w.heap.size, 0, none⟩))]) rfl ?_
    refine W.block ?_
    refine W.pick [24, 23, 4, 3, 2, 1] (Γ' := [(24, .int .i64 0), (23, .int .i64 ((d.acc.length : Nat) : Int)), (4, .pointer (some ⟨w4.heap.size, 0, none⟩)), (3, .slice a2_1 ((usedI d).length) c2_1), (2, .slice none 0 0), (1, .pointer (some ⟨w.heap.size, 0, none⟩))]) rfl ?_
    refine W.loop (fun m Γ' w' => ∃ k : Nat, ∃ ps : List (LR Int), Γ' = [(24, .int .i64 ((k : Nat) : Int)), (23, .int .i64 ((d.acc.length : Nat) : Int)), (4, .pointer (some ⟨w4.heap.size, 0, none⟩)), (3, .slice a2_1 ((usedI d).length) c2_1), (2, .slice none 0 0), (1, .pointer (some ⟨w.heap.size, 0, none⟩))] ∧ UpG w [] w' [[blk w.heap.size #[.slice dca d.cls.length dcc, .int .i64 d.width, .int .i64 d.start, .slice dna d.next.length dnc, .slice dba d.acc.length dbc] 25], [rowT (tyI .i64) (.slice a2_1 ((usedI d).length) c2_1) 3 (usedI d)], [rowT tyLR (.slice (some ⟨w3.heap.size, 0, none⟩) ((List.replicate d.acc.length (lr0 : LR Int)).length) d.acc.length) 22 ps], [manyF (inLR (tyI .i64) 3).row ps], [blk w4.heap.size #[.slice (some ⟨w3.heap.size, 0, none⟩) ((List.replicate d.acc.length (lr0 : LR Int)).length) d.acc.length] 77]] ∧ (k ≤ d.acc.length) ∧ (PrB d ps k 0) ∧ m = d.acc.length - k) (d.acc.length - 0) ⟨0, List.replicate d.acc.length (lr0 : LR Int), rfl, H7, (by first | assumption | omega | simp), (by exact PrB.start d), rfl⟩ ?_
    rintro m1 Γ1 w7 ⟨k, ps, rfl, H8, hk, ha, rfl⟩
    refine W.seq ?_
    refine W.region ?_
    refine WL.op rfl (d_cmp (decide (((k : Nat) : Int) < ((d.acc.length : Nat) : Int))) rfl rfl rfl ?_)
    refine WL.done (X.then_code ?_)
    refine W.seq ?_
    refine W.ite (p := ((k : Nat) : Int) < ((d.acc.length : Nat) : Int)) rfl (fun c91 => ?_) (fun c91 => ?_)
    · skip
      refine W.skip (X.then_code ?_)
      refine W.seq ?_
      refine W.block ?_
      refine W.seq ?_
      refine W.region ?_
      refine WL.op rfl (d_move rfl ?_)
      refine WL.op rfl (d_assign rfl ?_)
      refine WL.done (X.then_code ?_)
      refine W.seq ?_
      refine W.region ?_
      refine WL.op rfl (d_move rfl ?_)
      refine WL.op rfl (d_lenS Try.underlying22 rfl ?_)
      refine WL.op rfl (d_move rfl ?_)
      refine WL.done (X.then_code ?_)
      refine W.block ?_
      refine W.pick [29, 28, 27, 5, 26, 25, 24, 23, 4, 3, 2, 1] (Γ' := [(29, .int .i64 0), (28, .int .i64 (((usedI d).length : Nat) : Int)), (27, .slice a2_1 ((usedI d).length) c2_1), (5, .int .i64 ((k : Nat) : Int)), (26, .int .i64 ((k : Nat) : Int)), (25, .bool (decide (((k : Nat) : Int) < ((d.acc.length : Nat) : Int)))), (24, .int .i64 ((k : Nat) : Int)), (23, .int .i64 ((d.acc.length : Nat) : Int)), (4, .pointer (some ⟨w4.heap.size, 0, none⟩)), (3, .slice a2_1 ((usedI d).length) c2_1), (2, .slice none 0 0), (1, .pointer (some ⟨w.heap.size, 0, none⟩))]) rfl ?_
      refine W.loop (fun m Γ' w' => ∃ j : Nat, ∃ pj : List (LR Int), Γ' = [(29, .int .i64 ((j : Nat) : Int)), (28, .int .i64 (((usedI d).length : Nat) : Int)), (27, .slice a2_1 ((usedI d).length) c2_1), (5, .int .i64 ((k : Nat) : Int)), (26, .int .i64 ((k : Nat) : Int)), (25, .bool (decide (((k : Nat) : Int) < ((d.acc.length : Nat) : Int)))), (24, .int .i64 ((k : Nat) : Int)), (23, .int .i64 ((d.acc.length : Nat) : Int)), (4, .pointer (some ⟨w4.heap.size, 0, none⟩)), (3, .slice a2_1 ((usedI d).length) c2_1), (2, .slice none 0 0), (1, .pointer (some ⟨w.heap.size, 0, none⟩))] ∧ UpG w [] w' [[blk w.heap.size #[.slice dca d.cls.length dcc, .int .i64 d.width, .int .i64 d.start, .slice dna d.next.length dnc, .slice dba d.acc.length dbc] 25], [rowT (tyI .i64) (.slice a2_1 ((usedI d).length) c2_1) 3 (usedI d)], [rowT tyLR (.slice (some ⟨w3.heap.size, 0, none⟩) ((List.replicate d.acc.length (lr0 : LR Int)).length) d.acc.length) 22 pj], [manyF (inLR (tyI .i64) 3).row pj], [blk w4.heap.size #[.slice (some ⟨w3.heap.size, 0, none⟩) ((List.replicate d.acc.length (lr0 : LR Int)).length) d.acc.length] 77]] ∧ (j ≤ (usedI d).length) ∧ (PrB d pj k j) ∧ m = (usedI d).length - j) ((usedI d).length - 0) ⟨0, ps, rfl, H8, (by first | assumption | omega | simp), (by exact ha), rfl⟩ ?_
      rintro m2 Γ2 w8 ⟨j, pj, rfl, H9, hj, hb, rfl⟩
      refine W.seq ?_
      refine W.region ?_
      refine WL.op rfl (d_cmp (decide (((j : Nat) : Int) < (((usedI d).length : Nat) : Int))) rfl rfl rfl ?_)
      refine WL.done (X.then_code ?_)
      refine W.seq ?_
      refine W.ite (p := ((j : Nat) : Int) < (((usedI d).length : Nat) : Int)) rfl (fun c92 => ?_) (fun c92 => ?_)
      · skip
        refine W.skip (X.then_code ?_)
        refine W.seq ?_
        refine W.block ?_
        refine W.seq ?_
        refine W.region ?_
        refine WL.op rfl (t_addr1 j (T := (tyI .i64)) rfl Try.underlying22 sz3 rfl rfl (H9.rdT 1 rfl) rfl (by omega) ?_)
        refine WL.op rfl (t_load1 j 0 (T := (tyI .i64)) rfl Try.underlying3 rfl rfl (H9.rdT 1 rfl) (by omega) rfl ?_)
        refine WL.op rfl (d_assign rfl ?_)
        refine WL.done (X.then_code ?_)
        refine W.seq ?_
        have hcx := used_bd hrt (x := (usedI d).getD j 0) (getD_mem' (by omega))
        have hix := right_idx (q := (k : Int)) hrt (by omega) (by omega) hcx.1 hcx.2
        refine W.region ?_
        refine WL.op rfl (d_fieldAddrB fld25_3 rfl rfl ?_)
        refine WL.op rfl (d_loadB Try.underlying22 rfl rfl (H9.blk 0 rfl) rfl ?_)
        refine WL.op rfl (d_move rfl ?_)
        refine WL.op rfl (d_fieldAddrB fld25_1 rfl rfl ?_)
        refine WL.op rfl (d_loadB Try.underlying3 rfl rfl (H9.blk 0 rfl) rfl ?_)
        refine WL.op rfl (d_mul rfl rfl (by omega) (by omega) ?_)
        refine WL.op rfl (d_move rfl ?_)
        refine WL.op rfl (d_add rfl rfl (by omega) (by omega) ?_)
        refine WL.op rfl (t_addr1 (((((k : Nat) : Int) * d.width) + ((usedI d).getD j 0)).toNat) (T := (tyI .i64)) rfl Try.underlying22 sz3 rfl rfl (rnd.at H9) (by omega) (by omega) ?_)
        refine WL.op rfl (t_load1 (((((k : Nat) : Int) * d.width) + ((usedI d).getD j 0)).toNat) 0 (T := (tyI .i64)) rfl Try.underlying3 rfl rfl (rnd.at H9) (by omega) rfl ?_)
        refine WL.op rfl (d_assign rfl ?_)
        refine WL.done (X.then_code ?_)
        refine W.pick [8, 42, 41, 40, 39, 38, 37, 36, 35, 34, 33, 7, 32, 31, 30, 29, 28, 27, 5, 26, 25, 24, 23, 4, 3, 2, 1] (Γ' := [(8, .int .i64 (d.next.getD (((((k : Nat) : Int) * d.width) + ((usedI d).getD j 0)).toNat) 0)), (42, .int .i64 (d.next.getD (((((k : Nat) : Int) * d.width) + ((usedI d).getD j 0)).toNat) 0)), (41, elemPtr (.slice dna d.next.length dnc) (((((k : Nat) : Int) * d.width) + ((usedI d).getD j 0)).toNat)), (40, .int .i64 ((((k : Nat) : Int) * d.width) + ((usedI d).getD j 0))), (39, .int .i64 ((usedI d).getD j 0)), (38, .int .i64 (((k : Nat) : Int) * d.width)), (37, .int .i64 d.width), (36, .pointer (some ⟨w.heap.size, 1, none⟩)), (35, .int .i64 ((k : Nat) : Int)), (34, .slice dna d.next.length dnc), (33, .pointer (some ⟨w.heap.size, 3, none⟩)), (7, .int .i64 ((usedI d).getD j 0)), (32, .int .i64 ((usedI d).getD j 0)), (31, elemPtr (.slice a2_1 ((usedI d).length) c2_1) j), (30, .bool (decide (((j : Nat) : Int) < (((usedI d).length : Nat) : Int)))), (29, .int .i64 ((j : Nat) : Int)), (28, .int .i64 (((usedI d).length : Nat) : Int)), (27, .slice a2_1 ((usedI d).length) c2_1), (5, .int .i64 ((k : Nat) : Int)), (26, .int .i64 ((k : Nat) : Int)), (25, .bool (decide (((k : Nat) : Int) < ((d.acc.length : Nat) : Int)))), (24, .int .i64 ((k : Nat) : Int)), (23, .int .i64 ((d.acc.length : Nat) : Int)), (4, .pointer (some ⟨w4.heap.size, 0, none⟩)), (3, .slice a2_1 ((usedI d).length) c2_1), (2, .slice none 0 0), (1, .pointer (some ⟨w.heap.size, 0, none⟩))]) rfl ?_
        obtain ⟨q, hq, hqn⟩ : ∃ q : Nat, d.next.getD (((k : Nat) : Int) * d.width + (usedI d).getD j 0).toNat 0 = (q : Int) ∧ q < d.acc.length := (by have h9 := within_at hri.2.2 (((k : Nat) : Int) * d.width + (usedI d).getD j 0).toNat (by omega); exact ⟨(d.next.getD (((k : Nat) : Int) * d.width + (usedI d).getD j 0).toNat 0).toNat, by omega, by omega⟩)
        have hpl := hb.len
        have hsz := hb.size q
        have hkm : k * (usedI d).length ≤ 4096 * 259 := Nat.mul_le_mul (by omega) (by omega)
        refine W.regionD mixed (by kernel_rfl) fun hok1 w9 k1 => ?_
        have H10 : UpG w [] w9 [[blk w.heap.size #[.slice dca d.cls.length dcc, .int .i64 d.width, .int .i64 d.start, .slice dna d.next.length dnc, .slice dba d.acc.length dbc] 25], [rowT (tyI .i64) (.slice a2_1 ((usedI d).length) c2_1) 3 (usedI d)], [rowT tyLR (.slice (some ⟨w3.heap.size, 0, none⟩) ((List.replicate d.acc.length (lr0 : LR Int)).length) d.acc.length) 22 pj], [manyF (inLR (tyI .i64) 3).row pj], [blk w4.heap.size #[.slice (some ⟨w3.heap.size, 0, none⟩) ((List.replicate d.acc.length (lr0 : LR Int)).length) d.acc.length] 77]] := H9.kept k1
        refine WD.take hok1 0 (.slice (some ⟨w3.heap.size, 0, none⟩) ((List.replicate d.acc.length (lr0 : LR Int)).length) d.acc.length) (fun w' => w'.heap[w4.heap.size]? = some (.cells #[.slice (some ⟨w3.heap.size, 0, none⟩) ((List.replicate d.acc.length (lr0 : LR Int)).length) d.acc.length] 77 (0, 0))) rfl rfl rfl rfl rfl (H10.blk 4 rfl) (.inl ⟨rfl, fun _ hC => d_loadB Try.underlying77 rfl rfl hC rfl ⟨rfl, rfl⟩⟩) ?_
        refine WD.take hok1 1 (.int .i64 (d.next.getD (((((k : Nat) : Int) * d.width) + ((usedI d).getD j 0)).toNat) 0)) (fun _ => True) rfl rfl rfl rfl rfl trivial (.inl ⟨rfl, fun _ _ => d_move rfl ⟨rfl, rfl⟩⟩) ?_
        refine WD.take hok1 2 (.slice (some ⟨w3.heap.size, 0, none⟩) ((List.replicate d.acc.length (lr0 : LR Int)).length) d.acc.length) (fun w' => w'.heap[w4.heap.size]? = some (.cells #[.slice (some ⟨w3.heap.size, 0, none⟩) ((List.replicate d.acc.length (lr0 : LR Int)).length) d.acc.length] 77 (0, 0))) rfl rfl rfl rfl rfl (H10.blk 4 rfl) (.inl ⟨rfl, fun _ hC => d_loadB Try.underlying77 rfl rfl hC rfl ⟨rfl, rfl⟩⟩) ?_
        refine WD.take hok1 3 (.int .i64 (d.next.getD (((((k : Nat) : Int) * d.width) + ((usedI d).getD j 0)).toNat) 0)) (fun _ => True) rfl rfl rfl rfl rfl trivial (.inl ⟨rfl, fun _ _ => d_move rfl ⟨rfl, rfl⟩⟩) ?_
        refine WD.take hok1 4 (elemPtr (.slice (some ⟨w3.heap.size, 0, none⟩) ((List.replicate d.acc.length (lr0 : LR Int)).length) d.acc.length) q) (fun w' => RdT tyLR w' (.slice (some ⟨w3.heap.size, 0, none⟩) ((List.replicate d.acc.length (lr0 : LR Int)).length) d.acc.length) pj) rfl rfl rfl rfl rfl (H10.rdT 2 rfl) (.inl ⟨rfl, fun _ hC => t_addr1 q (T := tyLR) rfl Try.underlying77 sz22 rfl rfl hC (by omega) (by omega) ⟨rfl, rfl⟩⟩) ?_
        refine WD.take hok1 5 (.slice ((pj.getD q lr0).a) ((pj.getD q lr0).n) ((pj.getD q lr0).c)) (fun w' => RdT tyLR w' (.slice (some ⟨w3.heap.size, 0, none⟩) ((List.replicate d.acc.length (lr0 : LR Int)).length) d.acc.length) pj) rfl rfl rfl rfl rfl (H10.rdT 2 rfl) (.inl ⟨rfl, fun _ hC => t_load1 q lr0 (T := tyLR) rfl Try.underlying22 rfl rfl hC (by omega) rfl ⟨rfl, rfl⟩⟩) ?_
        refine WD.take hok1 6 (.int .i64 ((k : Nat) : Int)) (fun _ => True) rfl rfl rfl rfl rfl trivial (.inl ⟨rfl, fun _ _ => d_move rfl ⟨rfl, rfl⟩⟩) ?_
        refine WD.loud hok1 7 rfl (⟨_, [⟨5, .slice ((pj.getD q lr0).a) ((pj.getD q lr0).n) ((pj.getD q lr0).c), (fun w' => RdT tyLR w' (.slice (some ⟨w3.heap.size, 0, none⟩) ((List.replicate d.acc.length (lr0 : LR Int)).length) d.acc.length) pj)⟩, ⟨4, elemPtr (.slice (some ⟨w3.heap.size, 0, none⟩) ((List.replicate d.acc.length (lr0 : LR Int)).length) d.acc.length) q, (fun w' => RdT tyLR w' (.slice (some ⟨w3.heap.size, 0, none⟩) ((List.replicate d.acc.length (lr0 : LR Int)).length) d.acc.length) pj)⟩, ⟨3, .int .i64 (d.next.getD (((((k : Nat) : Int) * d.width) + ((usedI d).getD j 0)).toNat) 0), (fun _ => True)⟩, ⟨2, .slice (some ⟨w3.heap.size, 0, none⟩) ((List.replicate d.acc.length (lr0 : LR Int)).length) d.acc.length, (fun w' => w'.heap[w4.heap.size]? = some (.cells #[.slice (some ⟨w3.heap.size, 0, none⟩) ((List.replicate d.acc.length (lr0 : LR Int)).length) d.acc.length] 77 (0, 0)))⟩, ⟨1, .int .i64 (d.next.getD (((((k : Nat) : Int) * d.width) + ((usedI d).getD j 0)).toNat) 0), (fun _ => True)⟩, ⟨0, .slice (some ⟨w3.heap.size, 0, none⟩) ((List.replicate d.acc.length (lr0 : LR Int)).length) d.acc.length, (fun w' => w'.heap[w4.heap.size]? = some (.cells #[.slice (some ⟨w3.heap.size, 0, none⟩) ((List.replicate d.acc.length (lr0 : LR Int)).length) d.acc.length] 77 (0, 0)))⟩], rfl, rfl, rfl, rfl, rfl, rfl, t_buildSlice (T := (tyI .i64)) (xs := [((k : Nat) : Int)]) (cs := #[.int .i64 ((k : Nat) : Int)]) rfl Try.underlying22 sz3 rfl rfl rfl rfl (by kernel_rfl) rfl rfl fun w10 u7 => ?_⟩)
        have H11 : UpG w [] w10 [[blk w.heap.size #[.slice dca d.cls.length dcc, .int .i64 d.width, .int .i64 d.start, .slice dna d.next.length dnc, .slice dba d.acc.length dbc] 25], [rowT (tyI .i64) (.slice a2_1 ((usedI d).length) c2_1) 3 (usedI d)], [rowT tyLR (.slice (some ⟨w3.heap.size, 0, none⟩) ((List.replicate d.acc.length (lr0 : LR Int)).length) d.acc.length) 22 pj], [manyF (inLR (tyI .i64) 3).row pj], [blk w4.heap.size #[.slice (some ⟨w3.heap.size, 0, none⟩) ((List.replicate d.acc.length (lr0 : LR Int)).length) d.acc.length] 77], [rowT (tyI .i64) (.slice (some ⟨w9.heap.size, 0, none⟩) ([((k : Nat) : Int)].length) ([((k : Nat) : Int)].length)) 3 [((k : Nat) : Int)]]] := H10.new' u7
        refine ⟨⟨(H11.rdT 2 rfl), (H11.rdT 2 rfl), trivial, (H11.blk 4 rfl), trivial, (H11.blk 4 rfl), trivial⟩, ?_⟩
        have H12 : UpG w [] w10 [[blk w.heap.size #[.slice dca d.cls.length dcc, .int .i64 d.width, .int .i64 d.start, .slice dna d.next.length dnc, .slice dba d.acc.length dbc] 25], [rowT (tyI .i64) (.slice a2_1 ((usedI d).length) c2_1) 3 (usedI d)], [rowT tyLR (.slice (some ⟨w3.heap.size, 0, none⟩) ((List.replicate d.acc.length (lr0 : LR Int)).length) d.acc.length) 22 pj], [manyF (inLR (tyI .i64) 3).row (pj.eraseIdx q)], [blk w4.heap.size #[.slice (some ⟨w3.heap.size, 0, none⟩) ((List.replicate d.acc.length (lr0 : LR Int)).length) d.acc.length] 77], [rowT (tyI .i64) (.slice (some ⟨w9.heap.size, 0, none⟩) ([((k : Nat) : Int)].length) ([((k : Nat) : Int)].length)) 3 [((k : Nat) : Int)]], [rowT (tyI .i64) (.slice ((pj.getD q lr0).a) ((pj.getD q lr0).n) ((pj.getD q lr0).c)) 3 ((pj.getD q lr0).xs)]] := H11.takeOut (f := (inLR (tyI .i64) 3).row) lr0 3 q rfl (by omega)
        refine WD.loud hok1 8 rfl (⟨_, [⟨1, .int .i64 (d.next.getD (((((k : Nat) : Int) * d.width) + ((usedI d).getD j 0)).toNat) 0), (fun _ => True)⟩, ⟨0, .slice (some ⟨w3.heap.size, 0, none⟩) ((List.replicate d.acc.length (lr0 : LR Int)).length) d.acc.length, (fun w' => w'.heap[w4.heap.size]? = some (.cells #[.slice (some ⟨w3.heap.size, 0, none⟩) ((List.replicate d.acc.length (lr0 : LR Int)).length) d.acc.length] 77 (0, 0)))⟩], rfl, rfl, rfl, rfl, rfl, rfl, t_appendN (T := (tyI .i64)) (xs := ((pj.getD q lr0).xs)) (ys := [((k : Nat) : Int)]) rfl Try.underlying22 sz3 rfl rfl rfl (H12.rdT 6 rfl).len (H12.ownT 6 rfl) (H12.rdT 5 rfl) (by simp only [List.length_singleton]; omega) (by simp only [List.length_singleton]; omega) fun a1 c1 w11 u8 => ?_⟩)
        have H13 : UpG w [] w11 [[blk w.heap.size #[.slice dca d.cls.length dcc, .int .i64 d.width, .int .i64 d.start, .slice dna d.next.length dnc, .slice dba d.acc.length dbc] 25], [rowT (tyI .i64) (.slice a2_1 ((usedI d).length) c2_1) 3 (usedI d)], [rowT tyLR (.slice (some ⟨w3.heap.size, 0, none⟩) ((List.replicate d.acc.length (lr0 : LR Int)).length) d.acc.length) 22 pj], [manyF (inLR (tyI .i64) 3).row (pj.eraseIdx q)], [blk w4.heap.size #[.slice (some ⟨w3.heap.size, 0, none⟩) ((List.replicate d.acc.length (lr0 : LR Int)).length) d.acc.length] 77], [], [rowT (tyI .i64) (.slice a1 ((((pj.getD q lr0).xs) ++ [((k : Nat) : Int)]).length) c1) 3 (((pj.getD q lr0).xs) ++ [((k : Nat) : Int)])]] := (H12.on 6 rfl u8).drop 5
        refine ⟨⟨trivial, (H13.blk 4 rfl), trivial⟩, ?_⟩
        refine WD.take hok1 9 (elemPtr (.slice (some ⟨w3.heap.size, 0, none⟩) ((List.replicate d.acc.length (lr0 : LR Int)).length) d.acc.length) q) (fun w' => RdT tyLR w' (.slice (some ⟨w3.heap.size, 0, none⟩) ((List.replicate d.acc.length (lr0 : LR Int)).length) d.acc.length) pj) rfl rfl rfl rfl rfl (H13.rdT 2 rfl) (.inl ⟨rfl, fun _ hC => t_addr1 q (T := tyLR) rfl Try.underlying77 sz22 rfl rfl hC (by omega) (by omega) ⟨rfl, rfl⟩⟩) ?_
        refine WD.loud hok1 10 rfl (⟨_, [], rfl, rfl, rfl, rfl, rfl, rfl, t_store1 q ⟨a1, (((pj.getD q lr0).xs) ++ [((k : Nat) : Int)]).length, c1, ((pj.getD q lr0).xs) ++ [((k : Nat) : Int)]⟩ (T := tyLR) (e := 22) rfl sz22 rfl rfl rfl (H13.ownT 2 rfl) (by omega) fun w12 u9 => ?_⟩)
        have H14 : UpG w [] w12 [[blk w.heap.size #[.slice dca d.cls.length dcc, .int .i64 d.width, .int .i64 d.start, .slice dna d.next.length dnc, .slice dba d.acc.length dbc] 25], [rowT (tyI .i64) (.slice a2_1 ((usedI d).length) c2_1) 3 (usedI d)], [rowT tyLR (.slice (some ⟨w3.heap.size, 0, none⟩) ((List.replicate d.acc.length (lr0 : LR Int)).length) d.acc.length) 22 (pj.set q ⟨a1, (((pj.getD q lr0).xs) ++ [((k : Nat) : Int)]).length, c1, ((pj.getD q lr0).xs) ++ [((k : Nat) : Int)]⟩)], [manyF (inLR (tyI .i64) 3).row (pj.eraseIdx q)], [blk w4.heap.size #[.slice (some ⟨w3.heap.size, 0, none⟩) ((List.replicate d.acc.length (lr0 : LR Int)).length) d.acc.length] 77], [], [rowT (tyI .i64) (.slice a1 ((((pj.getD q lr0).xs) ++ [((k : Nat) : Int)]).length) c1) 3 (((pj.getD q lr0).xs) ++ [((k : Nat) : Int)])]] := H13.on 2 rfl u9
        have H15 : UpG w [] w12 [[blk w.heap.size #[.slice dca d.cls.length dcc, .int .i64 d.width, .int .i64 d.start, .slice dna d.next.length dnc, .slice dba d.acc.length dbc] 25], [rowT (tyI .i64) (.slice a2_1 ((usedI d).length) c2_1) 3 (usedI d)], [rowT tyLR (.slice (some ⟨w3.heap.size, 0, none⟩) ((List.replicate d.acc.length (lr0 : LR Int)).length) d.acc.length) 22 (pj.set q ⟨a1, (((pj.getD q lr0).xs) ++ [((k : Nat) : Int)]).length, c1, ((pj.getD q lr0).xs) ++ [((k : Nat) : Int)]⟩)], [manyF (inLR (tyI .i64) 3).row (pj.set q ⟨a1, (((pj.getD q lr0).xs) ++ [((k : Nat) : Int)]).length, c1, ((pj.getD q lr0).xs) ++ [((k : Nat) : Int)]⟩)], [blk w4.heap.size #[.slice (some ⟨w3.heap.size, 0, none⟩) ((List.replicate d.acc.length (lr0 : LR Int)).length) d.acc.length] 77], [], []] := (H14.putBack (f := (inLR (tyI .i64) 3).row) ⟨a1, (((pj.getD q lr0).xs) ++ [((k : Nat) : Int)]).length, c1, ((pj.getD q lr0).xs) ++ [((k : Nat) : Int)]⟩ 3 6 q rfl rfl rfl (by omega)).re rfl
        refine ⟨trivial, ?_⟩
        refine WD.done hok1 rfl (X.block_normal (X.then_code ?_))
        refine W.pick [52, 51, 50, 49, 48, 47, 46, 45, 44, 43, 8, 42, 41, 40, 39, 38, 37, 36, 35, 34, 33, 7, 32, 31, 30, 29, 28, 27, 5, 26, 25, 24, 23, 4, 3, 2, 1] (Γ' := [(52, elemPtr (.slice (some ⟨w3.heap.size, 0, none⟩) ((List.replicate d.acc.length (lr0 : LR Int)).length) d.acc.length) q), (51, .slice a1 ((((pj.getD q lr0).xs) ++ [((k : Nat) : Int)]).length) c1), (50, .slice (some ⟨w9.heap.size, 0, none⟩) ([((k : Nat) : Int)].length) ([((k : Nat) : Int)].length)), (49, .int .i64 ((k : Nat) : Int)), (48, .slice ((pj.getD q lr0).a) ((pj.getD q lr0).n) ((pj.getD q lr0).c)), (47, elemPtr (.slice (some ⟨w3.heap.size, 0, none⟩) ((List.replicate d.acc.length (lr0 : LR Int)).length) d.acc.length) q), (46, .int .i64 (d.next.getD (((((k : Nat) : Int) * d.width) + ((usedI d).getD j 0)).toNat) 0)), (45, .slice (some ⟨w3.heap.size, 0, none⟩) ((List.replicate d.acc.length (lr0 : LR Int)).length) d.acc.length), (44, .int .i64 (d.next.getD (((((k : Nat) : Int) * d.width) + ((usedI d).getD j 0)).toNat) 0)), (43, .slice (some ⟨w3.heap.size, 0, none⟩) ((List.replicate d.acc.length (lr0 : LR Int)).length) d.acc.length), (8, .int .i64 (d.next.getD (((((k : Nat) : Int) * d.width) + ((usedI d).getD j 0)).toNat) 0)), (42, .int .i64 (d.next.getD (((((k : Nat) : Int) * d.width) + ((usedI d).getD j 0)).toNat) 0)), (41, elemPtr (.slice dna d.next.length dnc) (((((k : Nat) : Int) * d.width) + ((usedI d).getD j 0)).toNat)), (40, .int .i64 ((((k : Nat) : Int) * d.width) + ((usedI d).getD j 0))), (39, .int .i64 ((usedI d).getD j 0)), (38, .int .i64 (((k : Nat) : Int) * d.width)), (37, .int .i64 d.width), (36, .pointer (some ⟨w.heap.size, 1, none⟩)), (35, .int .i64 ((k : Nat) : Int)), (34, .slice dna d.next.length dnc), (33, .pointer (some ⟨w.heap.size, 3, none⟩)), (7, .int .i64 ((usedI d).getD j 0)), (32, .int .i64 ((usedI d).getD j 0)), (31, elemPtr (.slice a2_1 ((usedI d).length) c2_1) j), (30, .bool (decide (((j : Nat) : Int) < (((usedI d).length : Nat) : Int)))), (29, .int .i64 ((j : Nat) : Int)), (28, .int .i64 (((usedI d).length : Nat) : Int)), (27, .slice a2_1 ((usedI d).length) c2_1), (5, .int .i64 ((k : Nat) : Int)), (26, .int .i64 ((k : Nat) : Int)), (25, .bool (decide (((k : Nat) : Int) < ((d.acc.length : Nat) : Int)))), (24, .int .i64 ((k : Nat) : Int)), (23, .int .i64 ((d.acc.length : Nat) : Int)), (4, .pointer (some ⟨w4.heap.size, 0, none⟩)), (3, .slice a2_1 ((usedI d).length) c2_1), (2, .slice none 0 0), (1, .pointer (some ⟨w.heap.size, 0, none⟩))]) rfl ?_
        refine W.region ?_
        refine WL.op rfl (d_add rfl rfl (by omega) (by omega) ?_)
        refine WL.op rfl (d_move rfl ?_)
        refine WL.done ?_
        exact X.next [29, 28, 27, 5, 26, 25, 24, 23, 4, 3, 2, 1] (Γ' := [(29, .int .i64 (((j + 1) : Nat) : Int)), (28, .int .i64 (((usedI d).length : Nat) : Int)), (27, .slice a2_1 ((usedI d).length) c2_1), (5, .int .i64 ((k : Nat) : Int)), (26, .int .i64 ((k : Nat) : Int)), (25, .bool (decide (((k : Nat) : Int) < ((d.acc.length : Nat) : Int)))), (24, .int .i64 ((k : Nat) : Int)), (23, .int .i64 ((d.acc.length : Nat) : Int)), (4, .pointer (some ⟨w4.heap.size, 0, none⟩)), (3, .slice a2_1 ((usedI d).length) c2_1), (2, .slice none 0 0), (1, .pointer (some ⟨w.heap.size, 0, none⟩))]) rfl ((usedI d).length - (j + 1)) (by omega) ⟨j + 1, pj.set q ⟨a1, (((pj.getD q lr0).xs) ++ [((k : Nat) : Int)]).length, c1, ((pj.getD q lr0).xs) ++ [((k : Nat) : Int)]⟩, rfl, (H15.re rfl), (by first | assumption | omega | simp), (by exact hb.step (by omega) hq hqn), rfl⟩
      · skip
        refine W.exit (X.then_exit (X.then_exit (X.block_exit (X.block_normal (X.then_code ?_)))))
        refine W.region ?_
        refine WL.op rfl (d_add rfl rfl (by omega) (by omega) ?_)
        refine WL.op rfl (d_move rfl ?_)
        refine WL.done ?_
        exact X.next [24, 23, 4, 3, 2, 1] (Γ' := [(24, .int .i64 (((k + 1) : Nat) : Int)), (23, .int .i64 ((d.acc.length : Nat) : Int)), (4, .pointer (some ⟨w4.heap.size, 0, none⟩)), (3, .slice a2_1 ((usedI d).length) c2_1), (2, .slice none 0 0), (1, .pointer (some ⟨w.heap.size, 0, none⟩))]) rfl (d.acc.length - (k + 1)) (by omega) ⟨k + 1, pj, rfl, H9, (by first | assumption | omega | simp), (by exact hb.next (by omega) hj), rfl⟩
    · skip
      refine W.exit (X.then_exit (X.then_exit (X.block_exit (X.then_code ?_))))
      refine W.seq ?_
      refine W.region ?_
      refine WL.op rfl (d_assign rfl ?_)
      refine WL.done (X.then_code ?_)
      refine W.seq ?_
      refine W.seq ?_
      refine W.region ?_
      refine WL.op rfl (d_fieldAddrB fld25_4 rfl rfl ?_)
      refine WL.op rfl (d_loadB Try.underlying23 rfl rfl (H8.blk 0 rfl) rfl ?_)
      refine WL.op rfl (d_lenS Try.underlying23 rfl ?_)
      refine WL.op rfl (d_move rfl ?_)
      refine WL.done (X.then_code ?_)
      refine W.block ?_
      have H16 : UpG w [] w7 [[blk w.heap.size #[.slice dca d.cls.length dcc, .int .i64 d.width, .int .i64 d.start, .slice dna d.next.length dnc, .slice dba d.acc.length dbc] 25], [rowT (tyI .i64) (.slice a2_1 ((usedI d).length) c2_1) 3 (usedI d)], [rowT tyLR (.slice (some ⟨w3.heap.size, 0, none⟩) ((List.replicate d.acc.length (lr0 : LR Int)).length) d.acc.length) 22 ps], [manyF (inLR (tyI .i64) 3).row ps], [blk w4.heap.size #[.slice (some ⟨w3.heap.size, 0, none⟩) ((List.replicate d.acc.length (lr0 : LR Int)).length) d.acc.length] 77], [rowT (tyI .i64) (.slice none (([] : List Int).length) 0) 3 ([] : List Int)]] := H8.new' (Upd.nilRowT w7 (tyI .i64) 3)
      refine W.pick [58, 57, 56, 9, 4, 2, 1] (Γ' := [(58, .int .i64 0), (57, .int .i64 ((d.acc.length : Nat) : Int)), (56, .slice dba d.acc.length dbc), (9, .slice none (([] : List Int).length) 0), (4, .pointer (some ⟨w4.heap.size, 0, none⟩)), (2, .slice none 0 0), (1, .pointer (some ⟨w.heap.size, 0, none⟩))]) rfl ?_
      refine W.loop (fun m Γ' w' => ∃ i : Nat, ∃ td : List Int, ∃ ta : Option Addr, ∃ tc : Nat, Γ' = [(58, .int .i64 ((i : Nat) : Int)), (57, .int .i64 ((d.acc.length : Nat) : Int)), (56, .slice dba d.acc.length dbc), (9, .slice ta td.length tc), (4, .pointer (some ⟨w4.heap.size, 0, none⟩)), (2, .slice none 0 0), (1, .pointer (some ⟨w.heap.size, 0, none⟩))] ∧ UpG w [] w' [[blk w.heap.size #[.slice dca d.cls.length dcc, .int .i64 d.width, .int .i64 d.start, .slice dna d.next.length dnc, .slice dba d.acc.length dbc] 25], [rowT (tyI .i64) (.slice a2_1 ((usedI d).length) c2_1) 3 (usedI d)], [rowT tyLR (.slice (some ⟨w3.heap.size, 0, none⟩) ((List.replicate d.acc.length (lr0 : LR Int)).length) d.acc.length) 22 ps], [manyF (inLR (tyI .i64) 3).row ps], [blk w4.heap.size #[.slice (some ⟨w3.heap.size, 0, none⟩) ((List.replicate d.acc.length (lr0 : LR Int)).length) d.acc.length] 77], [rowT (tyI .i64) (.slice ta td.length tc) 3 td]] ∧ (i ≤ d.acc.length) ∧ (td = accL d i) ∧ (td.length ≤ i) ∧ m = d.acc.length - i) (d.acc.length - 0) ⟨0, ([] : List Int), none, 0, rfl, H16, (by first | assumption | omega | simp), (by rfl), (by simp), rfl⟩ ?_
      rintro m3 Γ3 w13 ⟨i, td, ta, tc, rfl, H17, hi, htd, htl, rfl⟩
      refine W.seq ?_
      refine W.region ?_
      refine WL.op rfl (d_cmp (decide (((i : Nat) : Int) < ((d.acc.length : Nat) : Int))) rfl rfl rfl ?_)
      refine WL.done (X.then_code ?_)
      refine W.seq ?_
      refine W.ite (p := ((i : Nat) : Int) < ((d.acc.length : Nat) : Int)) rfl (fun c98 => ?_) (fun c98 => ?_)
      · skip
        refine W.skip (X.then_code ?_)
        refine W.seq ?_
        refine W.block ?_
        refine W.seq ?_
        refine W.region ?_
        refine WL.op rfl (d_move rfl ?_)
        refine WL.op rfl (t_addr1 i (T := tyB) rfl Try.underlying23 sz4 rfl rfl (rbd.at H17) rfl (by omega) ?_)
        refine WL.op rfl (t_load1 i false (T := tyB) rfl Try.underlying4 rfl rfl (rbd.at H17) (by omega) rfl ?_)
        refine WL.op rfl (d_assign rfl ?_)
        refine WL.op rfl (d_assign rfl ?_)
        refine WL.done (X.then_code ?_)
        refine W.seq ?_
        refine W.region ?_
        refine WL.op rfl (d_move rfl ?_)
        refine WL.done (X.then_code ?_)
        refine W.iteB (b := d.acc.getD i false) rfl (fun c99 => ?_) (fun c99 => ?_)
        · skip
          refine W.region ?_
          refine WL.op rfl (d_move rfl ?_)
          refine WL.op rfl (d_move rfl ?_)
          refine WL.op rfl (t_buildSlice (T := (tyI .i64)) (xs := [((i : Nat) : Int)]) (cs := #[.int .i64 ((i : Nat) : Int)]) rfl Try.underlying22 sz3 rfl rfl rfl rfl (by kernel_rfl) rfl rfl fun w14 u10 => ?_)
          have H18 : UpG w [] w14 [[blk w.heap.size #[.slice dca d.cls.length dcc, .int .i64 d.width, .int .i64 d.start, .slice dna d.next.length dnc, .slice dba d.acc.length dbc] 25], [rowT (tyI .i64) (.slice a2_1 ((usedI d).length) c2_1) 3 (usedI d)], [rowT tyLR (.slice (some ⟨w3.heap.size, 0, none⟩) ((List.replicate d.acc.length (lr0 : LR Int)).length) d.acc.length) 22 ps], [manyF (inLR (tyI .i64) 3).row ps], [blk w4.heap.size #[.slice (some ⟨w3.heap.size, 0, none⟩) ((List.replicate d.acc.length (lr0 : LR Int)).length) d.acc.length] 77], [rowT (tyI .i64) (.slice ta td.length tc) 3 td], [rowT (tyI .i64) (.slice (some ⟨w13.heap.size, 0, none⟩) ([((i : Nat) : Int)].length) ([((i : Nat) : Int)].length)) 3 [((i : Nat) : Int)]]] := H17.new' u10
          refine WL.op rfl (t_append (T := (tyI .i64)) (xs := td) (ys := [((i : Nat) : Int)]) rfl Try.underlying22 sz3 rfl rfl rfl (H18.ownT 5 rfl) (H18.rdT 6 rfl) (by first | omega | (simp; omega)) (by first | omega | (simp; omega)) fun a2 c2 w15 u11 => ?_)
          have H19 : UpG w [] w15 [[blk w.heap.size #[.slice dca d.cls.length dcc, .int .i64 d.width, .int .i64 d.start, .slice dna d.next.length dnc, .slice dba d.acc.length dbc] 25], [rowT (tyI .i64) (.slice a2_1 ((usedI d).length) c2_1) 3 (usedI d)], [rowT tyLR (.slice (some ⟨w3.heap.size, 0, none⟩) ((List.replicate d.acc.length (lr0 : LR Int)).length) d.acc.length) 22 ps], [manyF (inLR (tyI .i64) 3).row ps], [blk w4.heap.size #[.slice (some ⟨w3.heap.size, 0, none⟩) ((List.replicate d.acc.length (lr0 : LR Int)).length) d.acc.length] 77], [rowT (tyI .i64) (.slice a2 ((td ++ [((i : Nat) : Int)]).length) c2) 3 (td ++ [((i : Nat) : Int)])], []] := (H18.on 5 rfl u11).drop 6
          refine WL.op rfl (d_assign rfl ?_)
          refine WL.done (X.block_normal (X.then_code ?_))
          refine W.pick [9, 67, 66, 65, 64, 63, 11, 10, 62, 61, 60, 59, 58, 57, 56, 4, 2, 1] (Γ' := [(9, .slice a2 ((td ++ [((i : Nat) : Int)]).length) c2), (67, .slice a2 ((td ++ [((i : Nat) : Int)]).length) c2), (66, .slice (some ⟨w13.heap.size, 0, none⟩) ([((i : Nat) : Int)].length) ([((i : Nat) : Int)].length)), (65, .int .i64 ((i : Nat) : Int)), (64, .slice ta td.length tc), (63, .bool (d.acc.getD i false)), (11, .bool (d.acc.getD i false)), (10, .int .i64 ((i : Nat) : Int)), (62, .bool (d.acc.getD i false)), (61, elemPtr (.slice dba d.acc.length dbc) i), (60, .int .i64 ((i : Nat) : Int)), (59, .bool (decide (((i : Nat) : Int) < ((d.acc.length : Nat) : Int)))), (58, .int .i64 ((i : Nat) : Int)), (57, .int .i64 ((d.acc.length : Nat) : Int)), (56, .slice dba d.acc.length dbc), (4, .pointer (some ⟨w4.heap.size, 0, none⟩)), (2, .slice none 0 0), (1, .pointer (some ⟨w.heap.size, 0, none⟩))]) rfl ?_
          refine W.region ?_
          refine WL.op rfl (d_add rfl rfl (by omega) (by omega) ?_)
          refine WL.op rfl (d_move rfl ?_)
          refine WL.done ?_
          exact X.next [58, 57, 56, 9, 4, 2, 1] (Γ' := [(58, .int .i64 (((i + 1) : Nat) : Int)), (57, .int .i64 ((d.acc.length : Nat) : Int)), (56, .slice dba d.acc.length dbc), (9, .slice a2 ((td ++ [((i : Nat) : Int)]).length) c2), (4, .pointer (some ⟨w4.heap.size, 0, none⟩)), (2, .slice none 0 0), (1, .pointer (some ⟨w.heap.size, 0, none⟩))]) rfl (d.acc.length - (i + 1)) (by omega) ⟨i + 1, td ++ [((i : Nat) : Int)], a2, c2, rfl, (H19.re rfl), (by first | assumption | omega | simp), (by first | (rw [htd]; exact accL_no c99) | (rw [htd]; exact accL_yes c99)), (by first | omega | (simp; omega)), rfl⟩
        · skip
          refine W.skip (X.block_normal (X.then_code ?_))
          refine W.region ?_
          refine WL.op rfl (d_add rfl rfl (by omega) (by omega) ?_)
          refine WL.op rfl (d_move rfl ?_)
          refine WL.done ?_
          exact X.next [58, 57, 56, 9, 4, 2, 1] (Γ' := [(58, .int .i64 (((i + 1) : Nat) : Int)), (57, .int .i64 ((d.acc.length : Nat) : Int)), (56, .slice dba d.acc.length dbc), (9, .slice ta td.length tc), (4, .pointer (some ⟨w4.heap.size, 0, none⟩)), (2, .slice none 0 0), (1, .pointer (some ⟨w.heap.size, 0, none⟩))]) rfl (d.acc.length - (i + 1)) (by omega) ⟨i + 1, td, ta, tc, rfl, H17, (by first | assumption | omega | simp), (by first | (rw [htd]; exact accL_no c99) | (rw [htd]; exact accL_yes c99)), (by first | omega | (simp; omega)), rfl⟩
      · skip
        refine W.exit (X.then_exit (X.then_exit (X.block_exit (X.then_code ?_))))
        refine W.seq ?_
        have hpn := ha.len
        have hps := ha.size
        have hql := accL_len d i
        have hkm : d.acc.length * (usedI d).length ≤ 4096 * 259 := Nat.mul_le_mul (by omega) (by omega)
        have hkn : k = d.acc.length := by omega
        have hin : i = d.acc.length := by omega
        refine W.region ?_
        refine WL.op rfl (d_move rfl ?_)
        refine WL.op rfl (d_fieldAddrB fld25_4 rfl rfl ?_)
        refine WL.op rfl (d_loadB Try.underlying23 rfl rfl (H17.blk 0 rfl) rfl ?_)
        refine WL.op rfl (d_lenS Try.underlying23 rfl ?_)
        refine WL.op rfl (d_makeFunc rfl rfl ?_)
        refine WL.op rfl (d_call ok58 rfl (Ret.calls (spreadO_any ta td tc d.acc.length 59 [.pointer (some ⟨w4.heap.size, 0, none⟩)] (psN ps) w13 (H17.hpOf 5 rfl)  (by first | omega | (simp; omega)) (by rw [htd]; intro t ht; obtain ⟨f, h1, _, rfl⟩ := accL_mem.1 ht; omega) (fun x h0 h1 => ⟨by have h8 := hps x.toNat; rw [hkn] at h8; simp only [psN]; omega, fun t ht => by obtain ⟨x2, h2, rfl, h3⟩ := (ha.fin hkn x.toNat (by omega) t).1 ht; omega⟩) ok59 (closO_of (fun w2 k2 x h0 h1 => live1_any x _ _ ps _ _ w2 (H17.rdT_keep 5 2 rfl rfl rfl k2) (H17.blk_keep 5 4 rfl rfl rfl k2) ⟨h0, by omega⟩) (fun w4 k4 => manyRd_keep H17 5 3 rfl rfl rfl k4) (by omega))) fun _ w16 p3 => ?_))
        obtain ⟨a2_2, o2_1, c2_2, rfl, u12, q1⟩ := p3
        have H20 : UpG w [] w16 [[blk w.heap.size #[.slice dca d.cls.length dcc, .int .i64 d.width, .int .i64 d.start, .slice dna d.next.length dnc, .slice dba d.acc.length dbc] 25], [rowT (tyI .i64) (.slice a2_1 ((usedI d).length) c2_1) 3 (usedI d)], [rowT tyLR (.slice (some ⟨w3.heap.size, 0, none⟩) ((List.replicate d.acc.length (lr0 : LR Int)).length) d.acc.length) 22 ps], [manyF (inLR (tyI .i64) 3).row ps], [blk w4.heap.size #[.slice (some ⟨w3.heap.size, 0, none⟩) ((List.replicate d.acc.length (lr0 : LR Int)).length) d.acc.length] 77], [rowT tyB (.slice a2_2 o2_1.length c2_2) 4 o2_1]] := H17.on 5 rfl u12
        refine WL.op rfl (d_assign rfl ?_)
        refine WL.done (X.then_code ?_)
        refine W.ret (X.ret1 rfl rfl ?_)
        exact ⟨a2_2, o2_1, c2_2, rfl, H20.one 5 rfl, live_of hrt ha hkn (by have h9 := q1; rw [htd, hin] at h9; exact h9)⟩
end Go.Proofs.Ytoeockpkkmgieaa
