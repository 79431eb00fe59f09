/- The walks of functions, printed by wip/tools/gw.py. -/
import Derived.Test.YtoeockpkkmgieaaEqualLeastB1
import Derived.Test.YtoeockpkkmgieaaEqualLeastB6
import Derived.Test.YtoeockpkkmgieaaEqualLeastB2
namespace Go.Proofs.Ytoeockpkkmgieaa
open Go Go.Sx
set_option linter.unusedVariables false
set_option linter.unusedSimpArgs false
set_option maxRecDepth 20000 in
theorem live_any (d : DfaD) (dca : Option Addr) (dna : Option Addr) (dba : Option Addr) (dcc : Nat) (dnc : Nat) (dbc : Nat) (w : World) (rcd : RdT (tyI .i64) w (.slice dca d.cls.length dcc) d.cls) (rnd : RdT (tyI .i64) w (.slice dna d.next.length dnc) d.next) (rbd : RdT tyB w (.slice dba d.acc.length dbc) d.acc) (hcl : d.cls.length ≤ 1000) :
    Calls Try.prog 18 #[.agg #[.slice dca d.cls.length dcc, .int .i64 d.width, .int .i64 d.start, .slice dna d.next.length dnc, .slice dba d.acc.length dbc]] w (Ret fun v w' => ∃ a2 : Option Addr, ∃ o2 : List Bool, ∃ c2 : Nat, v = .slice a2 o2.length c2 ∧ Upd w [] w' [rowT tyB (.slice a2 o2.length c2) 4 o2] ∧ (LiveP d o2)) := by
  have le_rcd := rcd.le
  have le_rnd := rnd.le
  have le_rbd := rbd.le
  refine calls_of_W (args := [.agg #[.slice dca d.cls.length dcc, .int .i64 d.width, .int .i64 d.start, .slice dna d.next.length dnc, .slice dba d.acc.length dbc]]) Try.func18 rfl rfl rfl ?_
  have H0 : UpG w [] w [] := UpG.nil w
  show W _ _ _ _ [(0, .agg #[.slice dca d.cls.length dcc, .int .i64 d.width, .int .i64 d.start, .slice dna d.next.length dnc, .slice dba d.acc.length dbc])] w
  refine W.seq ?_
  refine W.region ?_
  refine WL.op rfl (d_box rfl fun w1 u1 => ?_)
  have H1 : UpG w [] w1 [[blk w.heap.size #[.slice dca d.cls.length dcc, .int .i64 d.width, .int .i64 d.start, .slice dna d.next.length dnc, .slice dba d.acc.length dbc] 25]] := H0.new' u1
  refine WL.op rfl (d_assign rfl ?_)
  refine WL.done (X.then_code ?_)
  refine W.seq ?_
  refine W.seq ?_
  refine W.region ?_
  refine WL.op rfl (d_loadAB [.slice dca d.cls.length dcc, .int .i64 d.width, .int .i64 d.start, .slice dna d.next.length dnc, .slice dba d.acc.length dbc] Try.underlying25 rfl sz25 rfl (H1.blk 0 rfl) rfl rfl ?_)
  refine WL.op rfl (d_call ok24 rfl (Ret.calls (right_any d dca dna dba dcc dnc dbc w1 (rcd.at H1) (rnd.at H1) (rbd.at H1) ) fun _ w2 p1 => ?_))
  obtain ⟨rfl, u2⟩ := p1
  have H2 : UpG w [] w2 [[blk w.heap.size #[.slice dca d.cls.length dcc, .int .i64 d.width, .int .i64 d.start, .slice dna d.next.length dnc, .slice dba d.acc.length dbc] 25]] := H1.call u2
  refine WL.op rfl (d_notB rfl ?_)
  refine WL.done (X.then_code ?_)
  refine W.iteB (b := !(rightB d)) rfl (fun c86 => ?_) (fun c86 => ?_)
  · skip
    refine W.seq ?_
    refine W.region ?_
    refine WL.op rfl (d_assign rfl ?_)
    refine WL.done (X.then_code ?_)
    refine W.ret (X.then_ret (X.ret1 rfl rfl ?_))
    exact ⟨none, [], 0, (by rfl), nilOwn H2, ⟨fun _ => rfl, fun h => by rw [h] at c86; exact absurd c86 (by decide)⟩⟩
  · skip
    refine W.skip (X.then_code ?_)
    refine W.seq ?_
    have hrt : rightB d = true := by simpa using c86
    have hri := rightB_iff.1 hrt
    have hul := used_len d
    refine W.region ?_
    refine WL.op rfl (d_loadAB [.slice dca d.cls.length dcc, .int .i64 d.width, .int .i64 d.start, .slice dna d.next.length dnc, .slice dba d.acc.length dbc] Try.underlying25 rfl sz25 rfl (H2.blk 0 rfl) rfl rfl ?_)
    refine WL.op rfl (d_call ok57 rfl (Ret.calls (used_any d dca dna dba dcc dnc dbc w2 (rcd.at H2) (rnd.at H2) (rbd.at H2) (by omega)) fun _ w3 p2 => ?_))
    obtain ⟨a2_1, c2_1, rfl, u3⟩ := p2
    have H3 : UpG w [] w3 [[blk w.heap.size #[.slice dca d.cls.length dcc, .int .i64 d.width, .int .i64 d.start, .slice dna d.next.length dnc, .slice dba d.acc.length dbc] 25], [rowT (tyI .i64) (.slice a2_1 ((usedI d).length) c2_1) 3 (usedI d)]] := (H2.new' u3).re rfl
    refine WL.op rfl (d_assign rfl ?_)
    refine WL.done (X.then_code ?_)
    refine W.seq ?_
    refine W.region ?_
    refine WL.op rfl (d_fieldAddrB fld25_4 rfl rfl ?_)
    refine WL.op rfl (d_loadB Try.underlying23 rfl rfl (H3.blk 0 rfl) rfl ?_)
    refine WL.op rfl (d_lenS Try.underlying23 rfl ?_)
    refine WL.op rfl (t_make d.acc.length (lr0 : LR Int) (T := tyLR) rfl Try.underlying77 sz22 rfl rfl rfl rfl (by omega) (by omega) fun w4 u4 => ?_)
    have H4 : UpG w [] w4 [[blk w.heap.size #[.slice dca d.cls.length dcc, .int .i64 d.width, .int .i64 d.start, .slice dna d.next.length dnc, .slice dba d.acc.length dbc] 25], [rowT (tyI .i64) (.slice a2_1 ((usedI d).length) c2_1) 3 (usedI d)], [rowT tyLR (.slice (some ⟨w3.heap.size, 0, none⟩) ((List.replicate d.acc.length (lr0 : LR Int)).length) d.acc.length) 22 (List.replicate d.acc.length (lr0 : LR Int))]] := H3.new' u4
    have H5 : UpG w [] w4 [[blk w.heap.size #[.slice dca d.cls.length dcc, .int .i64 d.width, .int .i64 d.start, .slice dna d.next.length dnc, .slice dba d.acc.length dbc] 25], [rowT (tyI .i64) (.slice a2_1 ((usedI d).length) c2_1) 3 (usedI d)], [rowT tyLR (.slice (some ⟨w3.heap.size, 0, none⟩) ((List.replicate d.acc.length (lr0 : LR Int)).length) d.acc.length) 22 (List.replicate d.acc.length (lr0 : LR Int))], [manyF (inLR (tyI .i64) 3).row (List.replicate d.acc.length (lr0 : LR Int))]] := H4.new' (Upd.manyRep (tyI .i64) 3 d.acc.length w4)
    refine WL.op rfl (d_alloc sz77 fun w5 u5 => ?_)
    have H6 : UpG w [] w5 [[blk w.heap.size #[.slice dca d.cls.length dcc, .int .i64 d.width, .int .i64 d.start, .slice dna d.next.length dnc, .slice dba d.acc.length dbc] 25], [rowT (tyI .i64) (.slice a2_1 ((usedI d).length) c2_1) 3 (usedI d)], [rowT tyLR (.slice (some ⟨w3.heap.size, 0, none⟩) ((List.replicate d.acc.length (lr0 : LR Int)).length) d.acc.length) 22 (List.replicate d.acc.length (lr0 : LR Int))], [manyF (inLR (tyI .i64) 3).row (List.replicate d.acc.length (lr0 : LR Int))], [blk w4.heap.size #[.slice none 0 0] 77]] := H5.new' u5
    refine WL.op0 (d_storeB sz77 rfl rfl rfl (H6.blk 4 rfl) rfl fun w6 u6 => ?_)
    have H7 : UpG w [] w6 [[blk w.heap.size #[.slice dca d.cls.length dcc, .int .i64 d.width, .int .i64 d.start, .slice dna d.next.length dnc, .slice dba d.acc.length dbc] 25], [rowT (tyI .i64) (.slice a2_1 ((usedI d).length) c2_1) 3 (usedI d)], [rowT tyLR (.slice (some ⟨w3.heap.size, 0, none⟩) ((List.replicate d.acc.length (lr0 : LR Int)).length) d.acc.length) 22 (List.replicate d.acc.length (lr0 : LR Int))], [manyF (inLR (tyI .i64) 3).row (List.replicate d.acc.length (lr0 : LR Int))], [blk w4.heap.size #[.slice (some ⟨w3.heap.size, 0, none⟩) ((List.replicate d.acc.length (lr0 : LR Int)).length) d.acc.length] 77]] := H6.on 4 rfl u6
    refine WL.done (X.then_code ?_)
    refine W.seq ?_
    refine W.seq ?_
    refine W.region ?_
    refine WL.op rfl (d_fieldAddrB fld25_4 rfl rfl ?_)
    refine WL.op rfl (d_loadB Try.underlying23 rfl rfl (H7.blk 0 rfl) rfl ?_)
    refine WL.op rfl (d_lenS Try.underlying23 rfl ?_)
    refine WL.op rfl (d_move rfl ?_)
    refine WL.done (X.then_code ?_)
    refine W.pick [24, 23, 4, 3, 2, 1] (Γ' := [(24, .int .i64 0), (23, .int .i64 ((d.acc.length : Nat) : Int)), (4, .pointer (some ⟨w4.heap.size, 0, none⟩)), (3, .slice a2_1 ((usedI d).length) c2_1), (2, .slice none 0 0), (1, .pointer (some ⟨w.heap.size, 0, none⟩))]) rfl ?_
    refine W.block ?_
    refine W.pick [24, 23, 4, 3, 2, 1] (Γ' := [(24, .int .i64 0), (23, .int .i64 ((d.acc.length : Nat) : Int)), (4, .pointer (some ⟨w4.heap.size, 0, none⟩)), (3, .slice a2_1 ((usedI d).length) c2_1), (2, .slice none 0 0), (1, .pointer (some ⟨w.heap.size, 0, none⟩))]) rfl ?_
    refine W.loop (fun m Γ' w' => ∃ k : Nat, ∃ ps : List (LR Int), Γ' = [(24, .int .i64 ((k : Nat) : Int)), (23, .int .i64 ((d.acc.length : Nat) : Int)), (4, .pointer (some ⟨w4.heap.size, 0, none⟩)), (3, .slice a2_1 ((usedI d).length) c2_1), (2, .slice none 0 0), (1, .pointer (some ⟨w.heap.size, 0, none⟩))] ∧ UpG w [] w' [[blk w.heap.size #[.slice dca d.cls.length dcc, .int .i64 d.width, .int .i64 d.start, .slice dna d.next.length dnc, .slice dba d.acc.length dbc] 25], [rowT (tyI .i64) (.slice a2_1 ((usedI d).length) c2_1) 3 (usedI d)], [rowT tyLR (.slice (some ⟨w3.heap.size, 0, none⟩) ((List.replicate d.acc.length (lr0 : LR Int)).length) d.acc.length) 22 ps], [manyF (inLR (tyI .i64) 3).row ps], [blk w4.heap.size #[.slice (some ⟨w3.heap.size, 0, none⟩) ((List.replicate d.acc.length (lr0 : LR Int)).length) d.acc.length] 77]] ∧ (k ≤ d.acc.length) ∧ (PrB d ps k 0) ∧ m = d.acc.length - k) (d.acc.length - 0) ⟨0, List.replicate d.acc.length (lr0 : LR Int), rfl, H7, (by first | assumption | omega | simp), (by exact PrB.start d), rfl⟩ ?_
    rintro m1 Γ1 w7 ⟨k, ps, rfl, H8, hk, ha, rfl⟩
    refine W.seq ?_
    refine W.region ?_
    refine WL.op rfl (d_cmp (decide (((k : Nat) : Int) < ((d.acc.length : Nat) : Int))) rfl rfl rfl ?_)
    refine WL.done (X.then_code ?_)
    refine W.seq ?_
    refine W.ite (p := ((k : Nat) : Int) < ((d.acc.length : Nat) : Int)) rfl (fun c91 => ?_) (fun c91 => ?_)
    · skip
      refine W.skip (X.then_code ?_)
      refine W.seq ?_
      refine W.block ?_
      refine W.seq ?_
      refine W.region ?_
      refine WL.op rfl (d_move rfl ?_)
      refine WL.op rfl (d_assign rfl ?_)
      refine WL.done (X.then_code ?_)
      refine W.seq ?_
      refine W.region ?_
      refine WL.op rfl (d_move rfl ?_)
      refine WL.op rfl (d_lenS Try.underlying22 rfl ?_)
      refine WL.op rfl (d_move rfl ?_)
      refine WL.done (X.then_code ?_)
      refine W.block ?_
      refine W.pick [29, 28, 27, 5, 26, 25, 24, 23, 4, 3, 2, 1] (Γ' := [(29, .int .i64 0), (28, .int .i64 (((usedI d).length : Nat) : Int)), (27, .slice a2_1 ((usedI d).length) c2_1), (5, .int .i64 ((k : Nat) : Int)), (26, .int .i64 ((k : Nat) : Int)), (25, .bool (decide (((k : Nat) : Int) < ((d.acc.length : Nat) : Int)))), (24, .int .i64 ((k : Nat) : Int)), (23, .int .i64 ((d.acc.length : Nat) : Int)), (4, .pointer (some ⟨w4.heap.size, 0, none⟩)), (3, .slice a2_1 ((usedI d).length) c2_1), (2, .slice none 0 0), (1, .pointer (some ⟨w.heap.size, 0, none⟩))]) rfl ?_
      refine W.loop (fun m Γ' w' => ∃ j : Nat, ∃ pj : List (LR Int), Γ' = [(29, .int .i64 ((j : Nat) : Int)), (28, .int .i64 (((usedI d).length : Nat) : Int)), (27, .slice a2_1 ((usedI d).length) c2_1), (5, .int .i64 ((k : Nat) : Int)), (26, .int .i64 ((k : Nat) : Int)), (25, .bool (decide (((k : Nat) : Int) < ((d.acc.length : Nat) : Int)))), (24, .int .i64 ((k : Nat) : Int)), (23, .int .i64 ((d.acc.length : Nat) : Int)), (4, .pointer (some ⟨w4.heap.size, 0, none⟩)), (3, .slice a2_1 ((usedI d).length) c2_1), (2, .slice none 0 0), (1, .pointer (some ⟨w.heap.size, 0, none⟩))] ∧ UpG w [] w' [[blk w.heap.size #[.slice dca d.cls.length dcc, .int .i64 d.width, .int .i64 d.start, .slice dna d.next.length dnc, .slice dba d.acc.length dbc] 25], [rowT (tyI .i64) (.slice a2_1 ((usedI d).length) c2_1) 3 (usedI d)], [rowT tyLR (.slice (some ⟨w3.heap.size, 0, none⟩) ((List.replicate d.acc.length (lr0 : LR Int)).length) d.acc.length) 22 pj], [manyF (inLR (tyI .i64) 3).row pj], [blk w4.heap.size #[.slice (some ⟨w3.heap.size, 0, none⟩) ((List.replicate d.acc.length (lr0 : LR Int)).length) d.acc.length] 77]] ∧ (j ≤ (usedI d).length) ∧ (PrB d pj k j) ∧ m = (usedI d).length - j) ((usedI d).length - 0) ⟨0, ps, rfl, H8, (by first | assumption | omega | simp), (by exact ha), rfl⟩ ?_
      rintro m2 Γ2 w8 ⟨j, pj, rfl, H9, hj, hb, rfl⟩
      refine W.seq ?_
      refine W.region ?_
      refine WL.op rfl (d_cmp (decide (((j : Nat) : Int) < (((usedI d).length : Nat) : Int))) rfl rfl rfl ?_)
      refine WL.done (X.then_code ?_)
      refine W.seq ?_
      refine W.ite (p := ((j : Nat) : Int) < (((usedI d).length : Nat) : Int)) rfl (fun c92 => ?_) (fun c92 => ?_)
      · skip
        refine W.skip (X.then_code ?_)
        refine W.seq ?_
        refine W.block ?_
        refine W.seq ?_
        refine W.region ?_
        refine WL.op rfl (t_addr1 j (T := (tyI .i64)) rfl Try.underlying22 sz3 rfl rfl (H9.rdT 1 rfl) rfl (by omega) ?_)
        refine WL.op rfl (t_load1 j 0 (T := (tyI .i64)) rfl Try.underlying3 rfl rfl (H9.rdT 1 rfl) (by omega) rfl ?_)
        refine WL.op rfl (d_assign rfl ?_)
        refine WL.done (X.then_code ?_)
        refine W.seq ?_
        have hcx := used_bd hrt (x := (usedI d).getD j 0) (getD_mem' (by omega))
        have hix := right_idx (q := (k : Int)) hrt (by omega) (by omega) hcx.1 hcx.2
        refine W.region ?_
        refine WL.op rfl (d_fieldAddrB fld25_3 rfl rfl ?_)
        refine WL.op rfl (d_loadB Try.underlying22 rfl rfl (H9.blk 0 rfl) rfl ?_)
        refine WL.op rfl (d_move rfl ?_)
        refine WL.op rfl (d_fieldAddrB fld25_1 rfl rfl ?_)
        refine WL.op rfl (d_loadB Try.underlying3 rfl rfl (H9.blk 0 rfl) rfl ?_)
        refine WL.op rfl (d_mul rfl rfl (by omega) (by omega) ?_)
        refine WL.op rfl (d_move rfl ?_)
        refine WL.op rfl (d_add rfl rfl (by omega) (by omega) ?_)
        refine WL.op rfl (t_addr1 (((((k : Nat) : Int) * d.width) + ((usedI d).getD j 0)).toNat) (T := (tyI .i64)) rfl Try.underlying22 sz3 rfl rfl (rnd.at H9) (by omega) (by omega) ?_)
        refine WL.op rfl (t_load1 (((((k : Nat) : Int) * d.width) + ((usedI d).getD j 0)).toNat) 0 (T := (tyI .i64)) rfl Try.underlying3 rfl rfl (rnd.at H9) (by omega) rfl ?_)
        refine WL.op rfl (d_assign rfl ?_)
        refine WL.done (X.then_code ?_)
        refine W.pick [8, 42, 41, 40, 39, 38, 37, 36, 35, 34, 33, 7, 32, 31, 30, 29, 28, 27, 5, 26, 25, 24, 23, 4, 3, 2, 1] (Γ' := [(8, .int .i64 (d.next.getD (((((k : Nat) : Int) * d.width) + ((usedI d).getD j 0)).toNat) 0)), (42, .int .i64 (d.next.getD (((((k : Nat) : Int) * d.width) + ((usedI d).getD j 0)).toNat) 0)), (41, elemPtr (.slice dna d.next.length dnc) (((((k : Nat) : Int) * d.width) + ((usedI d).getD j 0)).toNat)), (40, .int .i64 ((((k : Nat) : Int) * d.width) + ((usedI d).getD j 0))), (39, .int .i64 ((usedI d).getD j 0)), (38, .int .i64 (((k : Nat) : Int) * d.width)), (37, .int .i64 d.width), (36, .pointer (some ⟨w.heap.size, 1, none⟩)), (35, .int .i64 ((k : Nat) : Int)), (34, .slice dna d.next.length dnc), (33, .pointer (some ⟨w.heap.size, 3, none⟩)), (7, .int .i64 ((usedI d).getD j 0)), (32, .int .i64 ((usedI d).getD j 0)), (31, elemPtr (.slice a2_1 ((usedI d).length) c2_1) j), (30, .bool (decide (((j : Nat) : Int) < (((usedI d).length : Nat) : Int)))), (29, .int .i64 ((j : Nat) : Int)), (28, .int .i64 (((usedI d).length : Nat) : Int)), (27, .slice a2_1 ((usedI d).length) c2_1), (5, .int .i64 ((k : Nat) : Int)), (26, .int .i64 ((k : Nat) : Int)), (25, .bool (decide (((k : Nat) : Int) < ((d.acc.length : Nat) : Int)))), (24, .int .i64 ((k : Nat) : Int)), (23, .int .i64 ((d.acc.length : Nat) : Int)), (4, .pointer (some ⟨w4.heap.size, 0, none⟩)), (3, .slice a2_1 ((usedI d).length) c2_1), (2, .slice none 0 0), (1, .pointer (some ⟨w.heap.size, 0, none⟩))]) rfl ?_
        obtain ⟨q, hq, hqn⟩ : ∃ q : Nat, d.next.getD (((k : Nat) : Int) * d.width + (usedI d).getD j 0).toNat 0 = (q : Int) ∧ q < d.acc.length := (by have h9 := within_at hri.2.2 (((k : Nat) : Int) * d.width + (usedI d).getD j 0).toNat (by omega); exact ⟨(d.next.getD (((k : Nat) : Int) * d.width + (usedI d).getD j 0).toNat 0).toNat, by omega, by omega⟩)
        have hpl := hb.len
        have hsz := hb.size q
        have hkm : k * (usedI d).length ≤ 4096 * 259 := Nat.mul_le_mul (by omega) (by omega)
        refine W.regionD mixed (by kernel_rfl) fun hok1 w9 k1 => ?_
        have H10 : UpG w [] w9 [[blk w.heap.size #[.slice dca d.cls.length dcc, .int .i64 d.width, .int .i64 d.start, .slice dna d.next.length dnc, .slice dba d.acc.length dbc] 25], [rowT (tyI .i64) (.slice a2_1 ((usedI d).length) c2_1) 3 (usedI d)], [rowT tyLR (.slice (some ⟨w3.heap.size, 0, none⟩) ((List.replicate d.acc.length (lr0 : LR Int)).length) d.acc.length) 22 pj], [manyF (inLR (tyI .i64) 3).row pj], [blk w4.heap.size #[.slice (some ⟨w3.heap.size, 0, none⟩) ((List.replicate d.acc.length (lr0 : LR Int)).length) d.acc.length] 77]] := H9.kept k1
        refine WD.take hok1 0 (.slice (some ⟨w3.heap.size, 0, none⟩) ((List.replicate d.acc.length (lr0 : LR Int)).length) d.acc.length) (fun w' => w'.heap[w4.heap.size]? = some (.cells #[.slice (some ⟨w3.heap.size, 0, none⟩) ((List.replicate d.acc.length (lr0 : LR Int)).length) d.acc.length] 77 (0, 0))) rfl rfl rfl rfl rfl (H10.blk 4 rfl) (.inl ⟨rfl, fun _ hC => d_loadB Try.underlying77 rfl rfl hC rfl ⟨rfl, rfl⟩⟩) ?_
        refine WD.take hok1 1 (.int .i64 (d.next.getD (((((k : Nat) : Int) * d.width) + ((usedI d).getD j 0)).toNat) 0)) (fun _ => True) rfl rfl rfl rfl rfl trivial (.inl ⟨rfl, fun _ _ => d_move rfl ⟨rfl, rfl⟩⟩) ?_
        refine WD.take hok1 2 (.slice (some ⟨w3.heap.size, 0, none⟩) ((List.replicate d.acc.length (lr0 : LR Int)).length) d.acc.length) (fun w' => w'.heap[w4.heap.size]? = some (.cells #[.slice (some ⟨w3.heap.size, 0, none⟩) ((List.replicate d.acc.length (lr0 : LR Int)).length) d.acc.length] 77 (0, 0))) rfl rfl rfl rfl rfl (H10.blk 4 rfl) (.inl ⟨rfl, fun _ hC => d_loadB Try.underlying77 rfl rfl hC rfl ⟨rfl, rfl⟩⟩) ?_
        refine WD.take hok1 3 (.int .i64 (d.next.getD (((((k : Nat) : Int) * d.width) + ((usedI d).getD j 0)).toNat) 0)) (fun _ => True) rfl rfl rfl rfl rfl trivial (.inl ⟨rfl, fun _ _ => d_move rfl ⟨rfl, rfl⟩⟩) ?_
        refine WD.take hok1 4 (elemPtr (.slice (some ⟨w3.heap.size, 0, none⟩) ((List.replicate d.acc.length (lr0 : LR Int)).length) d.acc.length) q) (fun w' => RdT tyLR w' (.slice (some ⟨w3.heap.size, 0, none⟩) ((List.replicate d.acc.length (lr0 : LR Int)).length) d.acc.length) pj) rfl rfl rfl rfl rfl (H10.rdT 2 rfl) (.inl ⟨rfl, fun _ hC => t_addr1 q (T := tyLR) rfl Try.underlying77 sz22 rfl rfl hC (by omega) (by omega) ⟨rfl, rfl⟩⟩) ?_
        refine WD.take hok1 5 (.slice ((pj.getD q lr0).a) ((pj.getD q lr0).n) ((pj.getD q lr0).c)) (fun w' => RdT tyLR w' (.slice (some ⟨w3.heap.size, 0, none⟩) ((List.replicate d.acc.length (lr0 : LR Int)).length) d.acc.length) pj) rfl rfl rfl rfl rfl (H10.rdT 2 rfl) (.inl ⟨rfl, fun _ hC => t_load1 q lr0 (T := tyLR) rfl Try.underlying22 rfl rfl hC (by omega) rfl ⟨rfl, rfl⟩⟩) ?_
        refine WD.take hok1 6 (.int .i64 ((k : Nat) : Int)) (fun _ => True) rfl rfl rfl rfl rfl trivial (.inl ⟨rfl, fun _ _ => d_move rfl ⟨rfl, rfl⟩⟩) ?_
        refine WD.loud hok1 7 rfl (⟨_, [⟨5, .slice ((pj.getD q lr0).a) ((pj.getD q lr0).n) ((pj.getD q lr0).c), (fun w' => RdT tyLR w' (.slice (some ⟨w3.heap.size, 0, none⟩) ((List.replicate d.acc.length (lr0 : LR Int)).length) d.acc.length) pj)⟩, ⟨4, elemPtr (.slice (some ⟨w3.heap.size, 0, none⟩) ((List.replicate d.acc.length (lr0 : LR Int)).length) d.acc.length) q, (fun w' => RdT tyLR w' (.slice (some ⟨w3.heap.size, 0, none⟩) ((List.replicate d.acc.length (lr0 : LR Int)).length) d.acc.length) pj)⟩, ⟨3, .int .i64 (d.next.getD (((((k : Nat) : Int) * d.width) + ((usedI d).getD j 0)).toNat) 0), (fun _ => True)⟩, ⟨2, .slice (some ⟨w3.heap.size, 0, none⟩) ((List.replicate d.acc.length (lr0 : LR Int)).length) d.acc.length, (fun w' => w'.heap[w4.heap.size]? = some (.cells #[.slice (some ⟨w3.heap.size, 0, none⟩) ((List.replicate d.acc.length (lr0 : LR Int)).length) d.acc.length] 77 (0, 0)))⟩, ⟨1, .int .i64 (d.next.getD (((((k : Nat) : Int) * d.width) + ((usedI d).getD j 0)).toNat) 0), (fun _ => True)⟩, ⟨0, .slice (some ⟨w3.heap.size, 0, none⟩) ((List.replicate d.acc.length (lr0 : LR Int)).length) d.acc.length, (fun w' => w'.heap[w4.heap.size]? = some (.cells #[.slice (some ⟨w3.heap.size, 0, none⟩) ((List.replicate d.acc.length (lr0 : LR Int)).length) d.acc.length] 77 (0, 0)))⟩], rfl, rfl, rfl, rfl, rfl, rfl, t_buildSlice (T := (tyI .i64)) (xs := [((k : Nat) : Int)]) (cs := #[.int .i64 ((k : Nat) : Int)]) rfl Try.underlying22 sz3 rfl rfl rfl rfl (by kernel_rfl) rfl rfl fun w10 u7 => ?_⟩)
        have H11 : UpG w [] w10 [[blk w.heap.size #[.slice dca d.cls.length dcc, .int .i64 d.width, .int .i64 d.start, .slice dna d.next.length dnc, .slice dba d.acc.length dbc] 25], [rowT (tyI .i64) (.slice a2_1 ((usedI d).length) c2_1) 3 (usedI d)], [rowT tyLR (.slice (some ⟨w3.heap.size, 0, none⟩) ((List.replicate d.acc.length (lr0 : LR Int)).length) d.acc.length) 22 pj], [manyF (inLR (tyI .i64) 3).row pj], [blk w4.heap.size #[.slice (some ⟨w3.heap.size, 0, none⟩) ((List.replicate d.acc.length (lr0 : LR Int)).length) d.acc.length] 77], [rowT (tyI .i64) (.slice (some ⟨w9.heap.size, 0, none⟩) ([((k : Nat) : Int)].length) ([((k : Nat) : Int)].length)) 3 [((k : Nat) : Int)]]] := H10.new' u7
        refine ⟨⟨(H11.rdT 2 rfl), (H11.rdT 2 rfl), trivial, (H11.blk 4 rfl), trivial, (H11.blk 4 rfl), trivial⟩, ?_⟩
        have H12 : UpG w [] w10 [[blk w.heap.size #[.slice dca d.cls.length dcc, .int .i64 d.width, .int .i64 d.start, .slice dna d.next.length dnc, .slice dba d.acc.length dbc] 25], [rowT (tyI .i64) (.slice a2_1 ((usedI d).length) c2_1) 3 (usedI d)], [rowT tyLR (.slice (some ⟨w3.heap.size, 0, none⟩) ((List.replicate d.acc.length (lr0 : LR Int)).length) d.acc.length) 22 pj], [manyF (inLR (tyI .i64) 3).row (pj.eraseIdx q)], [blk w4.heap.size #[.slice (some ⟨w3.heap.size, 0, none⟩) ((List.replicate d.acc.length (lr0 : LR Int)).length) d.acc.length] 77], [rowT (tyI .i64) (.slice (some ⟨w9.heap.size, 0, none⟩) ([((k : Nat) : Int)].length) ([((k : Nat) : Int)].length)) 3 [((k : Nat) : Int)]], [rowT (tyI .i64) (.slice ((pj.getD q lr0).a) ((pj.getD q lr0).n) ((pj.getD q lr0).c)) 3 ((pj.getD q lr0).xs)]] := H11.takeOut (f := (inLR (tyI .i64) 3).row) lr0 3 q rfl (by omega)
        refine WD.loud hok1 8 rfl (⟨_, [⟨1, .int .i64 (d.next.getD (((((k : Nat) : Int) * d.width) + ((usedI d).getD j 0)).toNat) 0), (fun _ => True)⟩, ⟨0, .slice (some ⟨w3.heap.size, 0, none⟩) ((List.replicate d.acc.length (lr0 : LR Int)).length) d.acc.length, (fun w' => w'.heap[w4.heap.size]? = some (.cells #[.slice (some ⟨w3.heap.size, 0, none⟩) ((List.replicate d.acc.length (lr0 : LR Int)).length) d.acc.length] 77 (0, 0)))⟩], rfl, rfl, rfl, rfl, rfl, rfl, t_appendN (T := (tyI .i64)) (xs := ((pj.getD q lr0).xs)) (ys := [((k : Nat) : Int)]) rfl Try.underlying22 sz3 rfl rfl rfl (H12.rdT 6 rfl).len (H12.ownT 6 rfl) (H12.rdT 5 rfl) (by simp only [List.length_singleton]; omega) (by simp only [List.length_singleton]; omega) fun a1 c1 w11 u8 => ?_⟩)
        have H13 : UpG w [] w11 [[blk w.heap.size #[.slice dca d.cls.length dcc, .int .i64 d.width, .int .i64 d.start, .slice dna d.next.length dnc, .slice dba d.acc.length dbc] 25], [rowT (tyI .i64) (.slice a2_1 ((usedI d).length) c2_1) 3 (usedI d)], [rowT tyLR (.slice (some ⟨w3.heap.size, 0, none⟩) ((List.replicate d.acc.length (lr0 : LR Int)).length) d.acc.length) 22 pj], [manyF (inLR (tyI .i64) 3).row (pj.eraseIdx q)], [blk w4.heap.size #[.slice (some ⟨w3.heap.size, 0, none⟩) ((List.replicate d.acc.length (lr0 : LR Int)).length) d.acc.length] 77], [], [rowT (tyI .i64) (.slice a1 ((((pj.getD q lr0).xs) ++ [((k : Nat) : Int)]).length) c1) 3 (((pj.getD q lr0).xs) ++ [((k : Nat) : Int)])]] := (H12.on 6 rfl u8).drop 5
        refine ⟨⟨trivial, (H13.blk 4 rfl), trivial⟩, ?_⟩
        refine WD.take hok1 9 (elemPtr (.slice (some ⟨w3.heap.size, 0, none⟩) ((List.replicate d.acc.length (lr0 : LR Int)).length) d.acc.length) q) (fun w' => RdT tyLR w' (.slice (some ⟨w3.heap.size, 0, none⟩) ((List.replicate d.acc.length (lr0 : LR Int)).length) d.acc.length) pj) rfl rfl rfl rfl rfl (H13.rdT 2 rfl) (.inl ⟨rfl, fun _ hC => t_addr1 q (T := tyLR) rfl Try.underlying77 sz22 rfl rfl hC (by omega) (by omega) ⟨rfl, rfl⟩⟩) ?_
        refine WD.loud hok1 10 rfl (⟨_, [], rfl, rfl, rfl, rfl, rfl, rfl, t_store1 q ⟨a1, (((pj.getD q lr0).xs) ++ [((k : Nat) : Int)]).length, c1, ((pj.getD q lr0).xs) ++ [((k : Nat) : Int)]⟩ (T := tyLR) (e := 22) rfl sz22 rfl rfl rfl (H13.ownT 2 rfl) (by omega) fun w12 u9 => ?_⟩)
        have H14 : UpG w [] w12 [[blk w.heap.size #[.slice dca d.cls.length dcc, .int .i64 d.width, .int .i64 d.start, .slice dna d.next.length dnc, .slice dba d.acc.length dbc] 25], [rowT (tyI .i64) (.slice a2_1 ((usedI d).length) c2_1) 3 (usedI d)], [rowT tyLR (.slice (some ⟨w3.heap.size, 0, none⟩) ((List.replicate d.acc.length (lr0 : LR Int)).length) d.acc.length) 22 (pj.set q ⟨a1, (((pj.getD q lr0).xs) ++ [((k : Nat) : Int)]).length, c1, ((pj.getD q lr0).xs) ++ [((k : Nat) : Int)]⟩)], [manyF (inLR (tyI .i64) 3).row (pj.eraseIdx q)], [blk w4.heap.size #[.slice (some ⟨w3.heap.size, 0, none⟩) ((List.replicate d.acc.length (lr0 : LR Int)).length) d.acc.length] 77], [], [rowT (tyI .i64) (.slice a1 ((((pj.getD q lr0).xs) ++ [((k : Nat) : Int)]).length) c1) 3 (((pj.getD q lr0).xs) ++ [((k : Nat) : Int)])]] := H13.on 2 rfl u9
        have H15 : UpG w [] w12 [[blk w.heap.size #[.slice dca d.cls.length dcc, .int .i64 d.width, .int .i64 d.start, .slice dna d.next.length dnc, .slice dba d.acc.length dbc] 25], [rowT (tyI .i64) (.slice a2_1 ((usedI d).length) c2_1) 3 (usedI d)], [rowT tyLR (.slice (some ⟨w3.heap.size, 0, none⟩) ((List.replicate d.acc.length (lr0 : LR Int)).length) d.acc.length) 22 (pj.set q ⟨a1, (((pj.getD q lr0).xs) ++ [((k : Nat) : Int)]).length, c1, ((pj.getD q lr0).xs) ++ [((k : Nat) : Int)]⟩)], [manyF (inLR (tyI .i64) 3).row (pj.set q ⟨a1, (((pj.getD q lr0).xs) ++ [((k : Nat) : Int)]).length, c1, ((pj.getD q lr0).xs) ++ [((k : Nat) : Int)]⟩)], [blk w4.heap.size #[.slice (some ⟨w3.heap.size, 0, none⟩) ((List.replicate d.acc.length (lr0 : LR Int)).length) d.acc.length] 77], [], []] := (H14.putBack (f := (inLR (tyI .i64) 3).row) ⟨a1, (((pj.getD q lr0).xs) ++ [((k : Nat) : Int)]).length, c1, ((pj.getD q lr0).xs) ++ [((k : Nat) : Int)]⟩ 3 6 q rfl rfl rfl (by omega)).re rfl
        refine ⟨trivial, ?_⟩
        refine WD.done hok1 rfl (X.block_normal (X.then_code ?_))
        refine W.pick [52, 51, 50, 49, 48, 47, 46, 45, 44, 43, 8, 42, 41, 40, 39, 38, 37, 36, 35, 34, 33, 7, 32, 31, 30, 29, 28, 27, 5, 26, 25, 24, 23, 4, 3, 2, 1] (Γ' := [(52, elemPtr (.slice (some ⟨w3.heap.size, 0, none⟩) ((List.replicate d.acc.length (lr0 : LR Int)).length) d.acc.length) q), (51, .slice a1 ((((pj.getD q lr0).xs) ++ [((k : Nat) : Int)]).length) c1), (50, .slice (some ⟨w9.heap.size, 0, none⟩) ([((k : Nat) : Int)].length) ([((k : Nat) : Int)].length)), (49, .int .i64 ((k : Nat) : Int)), (48, .slice ((pj.getD q lr0).a) ((pj.getD q lr0).n) ((pj.getD q lr0).c)), (47, elemPtr (.slice (some ⟨w3.heap.size, 0, none⟩) ((List.replicate d.acc.length (lr0 : LR Int)).length) d.acc.length) q), (46, .int .i64 (d.next.getD (((((k : Nat) : Int) * d.width) + ((usedI d).getD j 0)).toNat) 0)), (45, .slice (some ⟨w3.heap.size, 0, none⟩) ((List.replicate d.acc.length (lr0 : LR Int)).length) d.acc.length), (44, .int .i64 (d.next.getD (((((k : Nat) : Int) * d.width) + ((usedI d).getD j 0)).toNat) 0)), (43, .slice (some ⟨w3.heap.size, 0, none⟩) ((List.replicate d.acc.length (lr0 : LR Int)).length) d.acc.length), (8, .int .i64 (d.next.getD (((((k : Nat) : Int) * d.width) + ((usedI d).getD j 0)).toNat) 0)), (42, .int .i64 (d.next.getD (((((k : Nat) : Int) * d.width) + ((usedI d).getD j 0)).toNat) 0)), (41, elemPtr (.slice dna d.next.length dnc) (((((k : Nat) : Int) * d.width) + ((usedI d).getD j 0)).toNat)), (40, .int .i64 ((((k : Nat) : Int) * d.width) + ((usedI d).getD j 0))), (39, .int .i64 ((usedI d).getD j 0)), (38, .int .i64 (((k : Nat) : Int) * d.width)), (37, .int .i64 d.width), (36, .pointer (some ⟨w.heap.size, 1, none⟩)), (35, .int .i64 ((k : Nat) : Int)), (34, .slice dna d.next.length dnc), (33, .pointer (some ⟨w.heap.size, 3, none⟩)), (7, .int .i64 ((usedI d).getD j 0)), (32, .int .i64 ((usedI d).getD j 0)), (31, elemPtr (.slice a2_1 ((usedI d).length) c2_1) j), (30, .bool (decide (((j : Nat) : Int) < (((usedI d).length : Nat) : Int)))), (29, .int .i64 ((j : Nat) : Int)), (28, .int .i64 (((usedI d).length : Nat) : Int)), (27, .slice a2_1 ((usedI d).length) c2_1), (5, .int .i64 ((k : Nat) : Int)), (26, .int .i64 ((k : Nat) : Int)), (25, .bool (decide (((k : Nat) : Int) < ((d.acc.length : Nat) : Int)))), (24, .int .i64 ((k : Nat) : Int)), (23, .int .i64 ((d.acc.length : Nat) : Int)), (4, .pointer (some ⟨w4.heap.size, 0, none⟩)), (3, .slice a2_1 ((usedI d).length) c2_1), (2, .slice none 0 0), (1, .pointer (some ⟨w.heap.size, 0, none⟩))]) rfl ?_
        refine W.region ?_
        refine WL.op rfl (d_add rfl rfl (by omega) (by omega) ?_)
        refine WL.op rfl (d_move rfl ?_)
        refine WL.done ?_
        exact X.next [29, 28, 27, 5, 26, 25, 24, 23, 4, 3, 2, 1] (Γ' := [(29, .int .i64 (((j + 1) : Nat) : Int)), (28, .int .i64 (((usedI d).length : Nat) : Int)), (27, .slice a2_1 ((usedI d).length) c2_1), (5, .int .i64 ((k : Nat) : Int)), (26, .int .i64 ((k : Nat) : Int)), (25, .bool (decide (((k : Nat) : Int) < ((d.acc.length : Nat) : Int)))), (24, .int .i64 ((k : Nat) : Int)), (23, .int .i64 ((d.acc.length : Nat) : Int)), (4, .pointer (some ⟨w4.heap.size, 0, none⟩)), (3, .slice a2_1 ((usedI d).length) c2_1), (2, .slice none 0 0), (1, .pointer (some ⟨w.heap.size, 0, none⟩))]) rfl ((usedI d).length - (j + 1)) (by omega) ⟨j + 1, pj.set q ⟨a1, (((pj.getD q lr0).xs) ++ [((k : Nat) : Int)]).length, c1, ((pj.getD q lr0).xs) ++ [((k : Nat) : Int)]⟩, rfl, (H15.re rfl), (by first | assumption | omega | simp), (by exact hb.step (by omega) hq hqn), rfl⟩
      · skip
        refine W.exit (X.then_exit (X.then_exit (X.block_exit (X.block_normal (X.then_code ?_)))))
        refine W.region ?_
        refine WL.op rfl (d_add rfl rfl (by omega) (by omega) ?_)
        refine WL.op rfl (d_move rfl ?_)
        refine WL.done ?_
        exact X.next [24, 23, 4, 3, 2, 1] (Γ' := [(24, .int .i64 (((k + 1) : Nat) : Int)), (23, .int .i64 ((d.acc.length : Nat) : Int)), (4, .pointer (some ⟨w4.heap.size, 0, none⟩)), (3, .slice a2_1 ((usedI d).length) c2_1), (2, .slice none 0 0), (1, .pointer (some ⟨w.heap.size, 0, none⟩))]) rfl (d.acc.length - (k + 1)) (by omega) ⟨k + 1, pj, rfl, H9, (by first | assumption | omega | simp), (by exact hb.next (by omega) hj), rfl⟩
    · skip
      refine W.exit (X.then_exit (X.then_exit (X.block_exit (X.then_code ?_))))
      refine W.seq ?_
      refine W.region ?_
      refine WL.op rfl (d_assign rfl ?_)
      refine WL.done (X.then_code ?_)
      refine W.seq ?_
      refine W.seq ?_
      refine W.region ?_
      refine WL.op rfl (d_fieldAddrB fld25_4 rfl rfl ?_)
      refine WL.op rfl (d_loadB Try.underlying23 rfl rfl (H8.blk 0 rfl) rfl ?_)
      refine WL.op rfl (d_lenS Try.underlying23 rfl ?_)
      refine WL.op rfl (d_move rfl ?_)
      refine WL.done (X.then_code ?_)
      refine W.block ?_
      have H16 : UpG w [] w7 [[blk w.heap.size #[.slice dca d.cls.length dcc, .int .i64 d.width, .int .i64 d.start, .slice dna d.next.length dnc, .slice dba d.acc.length dbc] 25], [rowT (tyI .i64) (.slice a2_1 ((usedI d).length) c2_1) 3 (usedI d)], [rowT tyLR (.slice (some ⟨w3.heap.size, 0, none⟩) ((List.replicate d.acc.length (lr0 : LR Int)).length) d.acc.length) 22 ps], [manyF (inLR (tyI .i64) 3).row ps], [blk w4.heap.size #[.slice (some ⟨w3.heap.size, 0, none⟩) ((List.replicate d.acc.length (lr0 : LR Int)).length) d.acc.length] 77], [rowT (tyI .i64) (.slice none (([] : List Int).length) 0) 3 ([] : List Int)]] := H8.new' (Upd.nilRowT w7 (tyI .i64) 3)
      refine W.pick [58, 57, 56, 9, 4, 2, 1] (Γ' := [(58, .int .i64 0), (57, .int .i64 ((d.acc.length : Nat) : Int)), (56, .slice dba d.acc.length dbc), (9, .slice none (([] : List Int).length) 0), (4, .pointer (some ⟨w4.heap.size, 0, none⟩)), (2, .slice none 0 0), (1, .pointer (some ⟨w.heap.size, 0, none⟩))]) rfl ?_
      refine W.loop (fun m Γ' w' => ∃ i : Nat, ∃ td : List Int, ∃ ta : Option Addr, ∃ tc : Nat, Γ' = [(58, .int .i64 ((i : Nat) : Int)), (57, .int .i64 ((d.acc.length : Nat) : Int)), (56, .slice dba d.acc.length dbc), (9, .slice ta td.length tc), (4, .pointer (some ⟨w4.heap.size, 0, none⟩)), (2, .slice none 0 0), (1, .pointer (some ⟨w.heap.size, 0, none⟩))] ∧ UpG w [] w' [[blk w.heap.size #[.slice dca d.cls.length dcc, .int .i64 d.width, .int .i64 d.start, .slice dna d.next.length dnc, .slice dba d.acc.length dbc] 25], [rowT (tyI .i64) (.slice a2_1 ((usedI d).length) c2_1) 3 (usedI d)], [rowT tyLR (.slice (some ⟨w3.heap.size, 0, none⟩) ((List.replicate d.acc.length (lr0 : LR Int)).length) d.acc.length) 22 ps], [manyF (inLR (tyI .i64) 3).row ps], [blk w4.heap.size #[.slice (some ⟨w3.heap.size, 0, none⟩) ((List.replicate d.acc.length (lr0 : LR Int)).length) d.acc.length] 77], [rowT (tyI .i64) (.slice ta td.length tc) 3 td]] ∧ (i ≤ d.acc.length) ∧ (td = accL d i) ∧ (td.length ≤ i) ∧ m = d.acc.length - i) (d.acc.length - 0) ⟨0, ([] : List Int), none, 0, rfl, H16, (by first | assumption | omega | simp), (by rfl), (by simp), rfl⟩ ?_
      rintro m3 Γ3 w13 ⟨i, td, ta, tc, rfl, H17, hi, htd, htl, rfl⟩
      refine W.seq ?_
      refine W.region ?_
      refine WL.op rfl (d_cmp (decide (((i : Nat) : Int) < ((d.acc.length : Nat) : Int))) rfl rfl rfl ?_)
      refine WL.done (X.then_code ?_)
      refine W.seq ?_
      refine W.ite (p := ((i : Nat) : Int) < ((d.acc.length : Nat) : Int)) rfl (fun c98 => ?_) (fun c98 => ?_)
      · skip
        refine W.skip (X.then_code ?_)
        refine W.seq ?_
        refine W.block ?_
        refine W.seq ?_
        refine W.region ?_
        refine WL.op rfl (d_move rfl ?_)
        refine WL.op rfl (t_addr1 i (T := tyB) rfl Try.underlying23 sz4 rfl rfl (rbd.at H17) rfl (by omega) ?_)
        refine WL.op rfl (t_load1 i false (T := tyB) rfl Try.underlying4 rfl rfl (rbd.at H17) (by omega) rfl ?_)
        refine WL.op rfl (d_assign rfl ?_)
        refine WL.op rfl (d_assign rfl ?_)
        refine WL.done (X.then_code ?_)
        refine W.seq ?_
        refine W.region ?_
        refine WL.op rfl (d_move rfl ?_)
        refine WL.done (X.then_code ?_)
        refine W.iteB (b := d.acc.getD i false) rfl (fun c99 => ?_) (fun c99 => ?_)
        · skip
          refine W.region ?_
          refine WL.op rfl (d_move rfl ?_)
          refine WL.op rfl (d_move rfl ?_)
          refine WL.op rfl (t_buildSlice (T := (tyI .i64)) (xs := [((i : Nat) : Int)]) (cs := #[.int .i64 ((i : Nat) : Int)]) rfl Try.underlying22 sz3 rfl rfl rfl rfl (by kernel_rfl) rfl rfl fun w14 u10 => ?_)
          have H18 : UpG w [] w14 [[blk w.heap.size #[.slice dca d.cls.length dcc, .int .i64 d.width, .int .i64 d.start, .slice dna d.next.length dnc, .slice dba d.acc.length dbc] 25], [rowT (tyI .i64) (.slice a2_1 ((usedI d).length) c2_1) 3 (usedI d)], [rowT tyLR (.slice (some ⟨w3.heap.size, 0, none⟩) ((List.replicate d.acc.length (lr0 : LR Int)).length) d.acc.length) 22 ps], [manyF (inLR (tyI .i64) 3).row ps], [blk w4.heap.size #[.slice (some ⟨w3.heap.size, 0, none⟩) ((List.replicate d.acc.length (lr0 : LR Int)).length) d.acc.length] 77], [rowT (tyI .i64) (.slice ta td.length tc) 3 td], [rowT (tyI .i64) (.slice (some ⟨w13.heap.size, 0, none⟩) ([((i : Nat) : Int)].length) ([((i : Nat) : Int)].length)) 3 [((i : Nat) : Int)]]] := H17.new' u10
          refine WL.op rfl (t_append (T := (tyI .i64)) (xs := td) (ys := [((i : Nat) : Int)]) rfl Try.underlying22 sz3 rfl rfl rfl (H18.ownT 5 rfl) (H18.rdT 6 rfl) (by first | omega | (simp; omega)) (by first | omega | (simp; omega)) fun a2 c2 w15 u11 => ?_)
          have H19 : UpG w [] w15 [[blk w.heap.size #[.slice dca d.cls.length dcc, .int .i64 d.width, .int .i64 d.start, .slice dna d.next.length dnc, .slice dba d.acc.length dbc] 25], [rowT (tyI .i64) (.slice a2_1 ((usedI d).length) c2_1) 3 (usedI d)], [rowT tyLR (.slice (some ⟨w3.heap.size, 0, none⟩) ((List.replicate d.acc.length (lr0 : LR Int)).length) d.acc.length) 22 ps], [manyF (inLR (tyI .i64) 3).row ps], [blk w4.heap.size #[.slice (some ⟨w3.heap.size, 0, none⟩) ((List.replicate d.acc.length (lr0 : LR Int)).length) d.acc.length] 77], [rowT (tyI .i64) (.slice a2 ((td ++ [((i : Nat) : Int)]).length) c2) 3 (td ++ [((i : Nat) : Int)])], []] := (H18.on 5 rfl u11).drop 6
          refine WL.op rfl (d_assign rfl ?_)
          refine WL.done (X.block_normal (X.then_code ?_))
          refine W.pick [9, 67, 66, 65, 64, 63, 11, 10, 62, 61, 60, 59, 58, 57, 56, 4, 2, 1] (Γ' := [(9, .slice a2 ((td ++ [((i : Nat) : Int)]).length) c2), (67, .slice a2 ((td ++ [((i : Nat) : Int)]).length) c2), (66, .slice (some ⟨w13.heap.size, 0, none⟩) ([((i : Nat) : Int)].length) ([((i : Nat) : Int)].length)), (65, .int .i64 ((i : Nat) : Int)), (64, .slice ta td.length tc), (63, .bool (d.acc.getD i false)), (11, .bool (d.acc.getD i false)), (10, .int .i64 ((i : Nat) : Int)), (62, .bool (d.acc.getD i false)), (61, elemPtr (.slice dba d.acc.length dbc) i), (60, .int .i64 ((i : Nat) : Int)), (59, .bool (decide (((i : Nat) : Int) < ((d.acc.length : Nat) : Int)))), (58, .int .i64 ((i : Nat) : Int)), (57, .int .i64 ((d.acc.length : Nat) : Int)), (56, .slice dba d.acc.length dbc), (4, .pointer (some ⟨w4.heap.size, 0, none⟩)), (2, .slice none 0 0), (1, .pointer (some ⟨w.heap.size, 0, none⟩))]) rfl ?_
          refine W.region ?_
          refine WL.op rfl (d_add rfl rfl (by omega) (by omega) ?_)
          refine WL.op rfl (d_move rfl ?_)
          refine WL.done ?_
          exact X.next [58, 57, 56, 9, 4, 2, 1] (Γ' := [(58, .int .i64 (((i + 1) : Nat) : Int)), (57, .int .i64 ((d.acc.length : Nat) : Int)), (56, .slice dba d.acc.length dbc), (9, .slice a2 ((td ++ [((i : Nat) : Int)]).length) c2), (4, .pointer (some ⟨w4.heap.size, 0, none⟩)), (2, .slice none 0 0), (1, .pointer (some ⟨w.heap.size, 0, none⟩))]) rfl (d.acc.length - (i + 1)) (by omega) ⟨i + 1, td ++ [((i : Nat) : Int)], a2, c2, rfl, (H19.re rfl), (by first | assumption | omega | simp), (by first | (rw [htd]; exact accL_no c99) | (rw [htd]; exact accL_yes c99)), (by first | omega | (simp; omega)), rfl⟩
        · skip
          refine W.skip (X.block_normal (X.then_code ?_))
          refine W.region ?_
          refine WL.op rfl (d_add rfl rfl (by omega) (by omega) ?_)
          refine WL.op rfl (d_move rfl ?_)
          refine WL.done ?_
          exact X.next [58, 57, 56, 9, 4, 2, 1] (Γ' := [(58, .int .i64 (((i + 1) : Nat) : Int)), (57, .int .i64 ((d.acc.length : Nat) : Int)), (56, .slice dba d.acc.length dbc), (9, .slice ta td.length tc), (4, .pointer (some ⟨w4.heap.size, 0, none⟩)), (2, .slice none 0 0), (1, .pointer (some ⟨w.heap.size, 0, none⟩))]) rfl (d.acc.length - (i + 1)) (by omega) ⟨i + 1, td, ta, tc, rfl, H17, (by first | assumption | omega | simp), (by first | (rw [htd]; exact accL_no c99) | (rw [htd]; exact accL_yes c99)), (by first | omega | (simp; omega)), rfl⟩
      · skip
        refine W.exit (X.then_exit (X.then_exit (X.block_exit (X.then_code ?_))))
        refine W.seq ?_
        have hpn := ha.len
        have hps := ha.size
        have hql := accL_len d i
        have hkm : d.acc.length * (usedI d).length ≤ 4096 * 259 := Nat.mul_le_mul (by omega) (by omega)
        have hkn : k = d.acc.length := by omega
        have hin : i = d.acc.length := by omega
        refine W.region ?_
        refine WL.op rfl (d_move rfl ?_)
        refine WL.op rfl (d_fieldAddrB fld25_4 rfl rfl ?_)
        refine WL.op rfl (d_loadB Try.underlying23 rfl rfl (H17.blk 0 rfl) rfl ?_)
        refine WL.op rfl (d_lenS Try.underlying23 rfl ?_)
        refine WL.op rfl (d_makeFunc rfl rfl ?_)
        refine WL.op rfl (d_call ok58 rfl (Ret.calls (spreadO_any ta td tc d.acc.length 59 [.pointer (some ⟨w4.heap.size, 0, none⟩)] (psN ps) w13 (H17.hpOf 5 rfl)  (by first | omega | (simp; omega)) (by rw [htd]; intro t ht; obtain ⟨f, h1, _, rfl⟩ := accL_mem.1 ht; omega) (fun x h0 h1 => ⟨by have h8 := hps x.toNat; rw [hkn] at h8; simp only [psN]; omega, fun t ht => by obtain ⟨x2, h2, rfl, h3⟩ := (ha.fin hkn x.toNat (by omega) t).1 ht; omega⟩) ok59 (closO_of (fun w2 k2 x h0 h1 => live1_any x _ _ ps _ _ w2 (H17.rdT_keep 5 2 rfl rfl rfl k2) (H17.blk_keep 5 4 rfl rfl rfl k2) ⟨h0, by omega⟩) (fun w4 k4 => manyRd_keep H17 5 3 rfl rfl rfl k4) (by omega))) fun _ w16 p3 => ?_))
        obtain ⟨a2_2, o2_1, c2_2, rfl, u12, q1⟩ := p3
        have H20 : UpG w [] w16 [[blk w.heap.size #[.slice dca d.cls.length dcc, .int .i64 d.width, .int .i64 d.start, .slice dna d.next.length dnc, .slice dba d.acc.length dbc] 25], [rowT (tyI .i64) (.slice a2_1 ((usedI d).length) c2_1) 3 (usedI d)], [rowT tyLR (.slice (some ⟨w3.heap.size, 0, none⟩) ((List.replicate d.acc.length (lr0 : LR Int)).length) d.acc.length) 22 ps], [manyF (inLR (tyI .i64) 3).row ps], [blk w4.heap.size #[.slice (some ⟨w3.heap.size, 0, none⟩) ((List.replicate d.acc.length (lr0 : LR Int)).length) d.acc.length] 77], [rowT tyB (.slice a2_2 o2_1.length c2_2) 4 o2_1]] := H17.on 5 rfl u12
        refine WL.op rfl (d_assign rfl ?_)
        refine WL.done (X.then_code ?_)
        refine W.ret (X.ret1 rfl rfl ?_)
        exact ⟨a2_2, o2_1, c2_2, rfl, H20.one 5 rfl, live_of hrt ha hkn (by have h9 := q1; rw [htd, hin] at h9; exact h9)⟩
end Go.Proofs.Ytoeockpkkmgieaa


/- The walks of functions, printed by wip/tools/gw.py. -/
namespace Go.Proofs.Ytoeockpkkmgieaa
open Go Go.Sx
set_option linter.unusedVariables false
set_option linter.unusedSimpArgs false
set_option maxRecDepth 20000 in
theorem put_any (g : Nat) (x : Int) (y : Int) (f : Int) (sym : Int) (v0 : Value) (v1 : Value) (v2 : Value) (v3 : Value) (v4 : Value) (v5 : Value) (v6 : Value) (v7 : Value) (v8 : Value) (v9 : Value) (sa : Option Addr) (ss : List St4) (sc : Nat) (mg : Nat) (mm : List ((Int × Int) × Int)) (w : World) (hp : Hp w [blk g #[v0, v1, v2, v3, v4, v5, v6, v7, v8, v9, .slice sa ss.length sc, .map (some mg)] 102, rowT tySt (.slice sa ss.length sc) 107 ss, mapC encP (fun a : Int => .int .i64 a) mg mm]) (hm : MapInv mm ss) (hl : ss.length ≤ 100000000) :
    Calls Try.prog 79 #[.pointer (some ⟨g, 0, none⟩), .agg #[.int .i64 x, .int .i64 y], .int .i64 f, .int .i64 sym] w (Ret fun v w' => ∃ a2 : Option Addr, ∃ c2 : Nat, ∃ mm2 : List ((Int × Int) × Int), v = .tuple #[] ∧ Upd w [blk g #[v0, v1, v2, v3, v4, v5, v6, v7, v8, v9, .slice sa ss.length sc, .map (some mg)] 102, rowT tySt (.slice sa ss.length sc) 107 ss, mapC encP (fun a : Int => .int .i64 a) mg mm] w' [blk g #[v0, v1, v2, v3, v4, v5, v6, v7, v8, v9, .slice a2 ((putS ss (x, y) f sym).length) c2, .map (some mg)] 102, rowT tySt (.slice a2 ((putS ss (x, y) f sym).length) c2) 107 (putS ss (x, y) f sym), mapC encP (fun a : Int => .int .i64 a) mg mm2] ∧ (MapInv mm2 (putS ss (x, y) f sym))) := by
  refine calls_of_W (args := [.pointer (some ⟨g, 0, none⟩), .agg #[.int .i64 x, .int .i64 y], .int .i64 f, .int .i64 sym]) Try.func79 rfl rfl rfl ?_
  have H0 : UpG w [blk g #[v0, v1, v2, v3, v4, v5, v6, v7, v8, v9, .slice sa ss.length sc, .map (some mg)] 102, rowT tySt (.slice sa ss.length sc) 107 ss, mapC encP (fun a : Int => .int .i64 a) mg mm] w [[blk g #[v0, v1, v2, v3, v4, v5, v6, v7, v8, v9, .slice sa ss.length sc, .map (some mg)] 102], [rowT tySt (.slice sa ss.length sc) 107 ss], [mapC encP (fun a : Int => .int .i64 a) mg mm]] := (UpG.refl hp).re rfl
  show W _ _ _ _ [(0, .pointer (some ⟨g, 0, none⟩)), (1, .agg #[.int .i64 x, .int .i64 y]), (2, .int .i64 f), (3, .int .i64 sym)] w
  refine W.seq ?_
  refine W.region ?_
  refine WL.op rfl (d_box rfl fun w1 u1 => ?_)
  have H1 : UpG w [blk g #[v0, v1, v2, v3, v4, v5, v6, v7, v8, v9, .slice sa ss.length sc, .map (some mg)] 102, rowT tySt (.slice sa ss.length sc) 107 ss, mapC encP (fun a : Int => .int .i64 a) mg mm] w1 [[blk g #[v0, v1, v2, v3, v4, v5, v6, v7, v8, v9, .slice sa ss.length sc, .map (some mg)] 102], [rowT tySt (.slice sa ss.length sc) 107 ss], [mapC encP (fun a : Int => .int .i64 a) mg mm], [blk w.heap.size #[.int .i64 x, .int .i64 y] 105]] := H0.new' u1
  refine WL.done (X.then_code ?_)
  refine W.seq ?_
  refine W.regionD mixed (by kernel_rfl) fun hok1 w2 k1 => ?_
  have H2 : UpG w [blk g #[v0, v1, v2, v3, v4, v5, v6, v7, v8, v9, .slice sa ss.length sc, .map (some mg)] 102, rowT tySt (.slice sa ss.length sc) 107 ss, mapC encP (fun a : Int => .int .i64 a) mg mm] w2 [[blk g #[v0, v1, v2, v3, v4, v5, v6, v7, v8, v9, .slice sa ss.length sc, .map (some mg)] 102], [rowT tySt (.slice sa ss.length sc) 107 ss], [mapC encP (fun a : Int => .int .i64 a) mg mm], [blk w.heap.size #[.int .i64 x, .int .i64 y] 105]] := H1.kept k1
  refine WD.take hok1 0 (.pointer (some ⟨g, 0, none⟩)) (fun _ => True) rfl rfl rfl rfl rfl trivial (.inl ⟨rfl, fun _ _ => d_move rfl ⟨rfl, rfl⟩⟩) ?_
  refine WD.take hok1 1 (.pointer (some ⟨g, 0, none⟩)) (fun _ => True) rfl rfl rfl rfl rfl trivial (.inl ⟨rfl, fun _ _ => d_nilCheck rfl ⟨rfl, rfl⟩⟩) ?_
  refine WD.take hok1 2 (.pointer (some ⟨g, 11, none⟩)) (fun _ => True) rfl rfl rfl rfl rfl trivial (.inl ⟨rfl, fun _ _ => d_fieldAddrB fld102_3 rfl rfl ⟨rfl, rfl⟩⟩) ?_
  refine WD.take hok1 3 (.map (some mg)) (fun w' => w'.heap[g]? = some (.cells #[v0, v1, v2, v3, v4, v5, v6, v7, v8, v9, .slice sa ss.length sc, .map (some mg)] 102 (0, 0))) rfl rfl rfl rfl rfl (H2.blk 0 rfl) (.inl ⟨rfl, fun _ hC => d_loadB Try.underlying99 rfl rfl hC rfl ⟨rfl, rfl⟩⟩) ?_
  refine WD.take hok1 4 (.agg #[.int .i64 x, .int .i64 y]) (fun w' => w'.heap[w.heap.size]? = some (.cells #[.int .i64 x, .int .i64 y] 105 (0, 0))) rfl rfl rfl rfl rfl (H2.blk 3 rfl) (.inl ⟨rfl, fun _ hC => d_loadAB [.int .i64 x, .int .i64 y] Try.underlying105 rfl sz105 rfl hC rfl rfl ⟨rfl, rfl⟩⟩) ?_
  refine WD.take hok1 5 (.tuple #[.int .i64 ((getM mm (x, y)).getD 0), .bool ((getM mm (x, y)).isSome)]) (fun w' => MapAt w' encP (fun a : Int => .int .i64 a) mg mm) rfl rfl rfl rfl rfl (H2.mapAt 2 rfl) (.inl ⟨rfl, fun _ hC => d_look2 (ek := encP) (evl := (fun a : Int => .int .i64 a)) (x, y) 0 key105 Try.underlying99 sz3 rfl rfl hC ⟨rfl, rfl⟩⟩) ?_
  refine WD.take hok1 6 (.tuple #[.int .i64 ((getM mm (x, y)).getD 0), .bool ((getM mm (x, y)).isSome)]) (fun _ => True) rfl rfl rfl rfl rfl trivial (.inl ⟨rfl, fun _ _ => d_move rfl ⟨rfl, rfl⟩⟩) ?_
  refine WD.take hok1 7 (.int .i64 ((getM mm (x, y)).getD 0)) (fun _ => True) rfl rfl rfl rfl rfl trivial (.inl ⟨rfl, fun _ _ => d_extract rfl rfl ⟨rfl, rfl⟩⟩) ?_
  refine WD.take hok1 8 (.bool ((getM mm (x, y)).isSome)) (fun _ => True) rfl rfl rfl rfl rfl trivial (.inl ⟨rfl, fun _ _ => d_extract rfl rfl ⟨rfl, rfl⟩⟩) ?_
  refine WD.take hok1 9 (.int .i64 ((getM mm (x, y)).getD 0)) (fun _ => True) rfl rfl rfl rfl rfl trivial (.inl ⟨rfl, fun _ _ => d_assign rfl ⟨rfl, rfl⟩⟩) ?_
  refine WD.take hok1 10 (.bool ((getM mm (x, y)).isSome)) (fun _ => True) rfl rfl rfl rfl rfl trivial (.inl ⟨rfl, fun _ _ => d_assign rfl ⟨rfl, rfl⟩⟩) ?_
  refine WD.done hok1 rfl (X.then_code ?_)
  refine W.seq ?_
  refine W.region ?_
  refine WL.op rfl (d_move rfl ?_)
  refine WL.op rfl (d_notB rfl ?_)
  refine WL.done (X.then_code ?_)
  refine W.pick [20, 5, 0, 2, 3] (Γ' := [(20, .bool (!((getM mm (x, y)).isSome))), (5, .pointer (some ⟨w.heap.size, 0, none⟩)), (0, .pointer (some ⟨g, 0, none⟩)), (2, .int .i64 f), (3, .int .i64 sym)]) rfl ?_
  refine W.iteB (b := !((getM mm (x, y)).isSome)) rfl (fun c30 => ?_) (fun c30 => ?_)
  · skip
    refine W.seq ?_
    refine W.regionD mixed (by kernel_rfl) fun hok2 w3 k2 => ?_
    have H3 : UpG w [blk g #[v0, v1, v2, v3, v4, v5, v6, v7, v8, v9, .slice sa ss.length sc, .map (some mg)] 102, rowT tySt (.slice sa ss.length sc) 107 ss, mapC encP (fun a : Int => .int .i64 a) mg mm] w3 [[blk g #[v0, v1, v2, v3, v4, v5, v6, v7, v8, v9, .slice sa ss.length sc, .map (some mg)] 102], [rowT tySt (.slice sa ss.length sc) 107 ss], [mapC encP (fun a : Int => .int .i64 a) mg mm], [blk w.heap.size #[.int .i64 x, .int .i64 y] 105]] := H2.kept k2
    refine WD.take hok2 0 (.pointer (some ⟨g, 0, none⟩)) (fun _ => True) rfl rfl rfl rfl rfl trivial (.inl ⟨rfl, fun _ _ => d_move rfl ⟨rfl, rfl⟩⟩) ?_
    refine WD.take hok2 1 (.pointer (some ⟨g, 0, none⟩)) (fun _ => True) rfl rfl rfl rfl rfl trivial (.inl ⟨rfl, fun _ _ => d_nilCheck rfl ⟨rfl, rfl⟩⟩) ?_
    refine WD.take hok2 2 (.pointer (some ⟨g, 11, none⟩)) (fun _ => True) rfl rfl rfl rfl rfl trivial (.inl ⟨rfl, fun _ _ => d_fieldAddrB fld102_3 rfl rfl ⟨rfl, rfl⟩⟩) ?_
    refine WD.take hok2 3 (.map (some mg)) (fun w' => w'.heap[g]? = some (.cells #[v0, v1, v2, v3, v4, v5, v6, v7, v8, v9, .slice sa ss.length sc, .map (some mg)] 102 (0, 0))) rfl rfl rfl rfl rfl (H3.blk 0 rfl) (.inl ⟨rfl, fun _ hC => d_loadB Try.underlying99 rfl rfl hC rfl ⟨rfl, rfl⟩⟩) ?_
    refine WD.take hok2 4 (.agg #[.int .i64 x, .int .i64 y]) (fun w' => w'.heap[w.heap.size]? = some (.cells #[.int .i64 x, .int .i64 y] 105 (0, 0))) rfl rfl rfl rfl rfl (H3.blk 3 rfl) (.inl ⟨rfl, fun _ hC => d_loadAB [.int .i64 x, .int .i64 y] Try.underlying105 rfl sz105 rfl hC rfl rfl ⟨rfl, rfl⟩⟩) ?_
    refine WD.take hok2 5 (.pointer (some ⟨g, 0, none⟩)) (fun _ => True) rfl rfl rfl rfl rfl trivial (.inl ⟨rfl, fun _ _ => d_move rfl ⟨rfl, rfl⟩⟩) ?_
    refine WD.take hok2 6 (.pointer (some ⟨g, 0, none⟩)) (fun _ => True) rfl rfl rfl rfl rfl trivial (.inl ⟨rfl, fun _ _ => d_nilCheck rfl ⟨rfl, rfl⟩⟩) ?_
    refine WD.take hok2 7 (.pointer (some ⟨g, 10, none⟩)) (fun _ => True) rfl rfl rfl rfl rfl trivial (.inl ⟨rfl, fun _ _ => d_fieldAddrB fld102_2 rfl rfl ⟨rfl, rfl⟩⟩) ?_
    refine WD.take hok2 8 (.slice sa ss.length sc) (fun w' => w'.heap[g]? = some (.cells #[v0, v1, v2, v3, v4, v5, v6, v7, v8, v9, .slice sa ss.length sc, .map (some mg)] 102 (0, 0))) rfl rfl rfl rfl rfl (H3.blk 0 rfl) (.inl ⟨rfl, fun _ hC => d_loadB Try.underlying100 rfl rfl hC rfl ⟨rfl, rfl⟩⟩) ?_
    refine WD.take hok2 9 (.int .i64 ((ss.length : Nat) : Int)) (fun _ => True) rfl rfl rfl rfl rfl trivial (.inl ⟨rfl, fun _ _ => d_lenS Try.underlying100 rfl ⟨rfl, rfl⟩⟩) ?_
    refine WD.loud hok2 10 rfl (⟨_, [], rfl, rfl, rfl, rfl, rfl, rfl, d_mapUpdate (ek := encP) (evl := (fun a : Int => .int .i64 a)) (x, y) ((ss.length : Nat) : Int) key105 Try.underlying99 rfl rfl rfl (H3.hpOf 2 rfl) fun w4 u2 => ?_⟩)
    have H4 : UpG w [blk g #[v0, v1, v2, v3, v4, v5, v6, v7, v8, v9, .slice sa ss.length sc, .map (some mg)] 102, rowT tySt (.slice sa ss.length sc) 107 ss, mapC encP (fun a : Int => .int .i64 a) mg mm] w4 [[blk g #[v0, v1, v2, v3, v4, v5, v6, v7, v8, v9, .slice sa ss.length sc, .map (some mg)] 102], [rowT tySt (.slice sa ss.length sc) 107 ss], [mapC encP (fun a : Int => .int .i64 a) mg (putM mm (x, y) ((ss.length : Nat) : Int))], [blk w.heap.size #[.int .i64 x, .int .i64 y] 105]] := H3.on 2 rfl u2
    refine ⟨trivial, ?_⟩
    refine WD.done hok2 rfl (X.then_code ?_)
    refine W.regionD mixed (by kernel_rfl) fun hok3 w5 k3 => ?_
    have H5 : UpG w [blk g #[v0, v1, v2, v3, v4, v5, v6, v7, v8, v9, .slice sa ss.length sc, .map (some mg)] 102, rowT tySt (.slice sa ss.length sc) 107 ss, mapC encP (fun a : Int => .int .i64 a) mg mm] w5 [[blk g #[v0, v1, v2, v3, v4, v5, v6, v7, v8, v9, .slice sa ss.length sc, .map (some mg)] 102], [rowT tySt (.slice sa ss.length sc) 107 ss], [mapC encP (fun a : Int => .int .i64 a) mg (putM mm (x, y) ((ss.length : Nat) : Int))], [blk w.heap.size #[.int .i64 x, .int .i64 y] 105]] := H4.kept k3
    refine WD.take hok3 0 (.pointer (some ⟨g, 0, none⟩)) (fun _ => True) rfl rfl rfl rfl rfl trivial (.inl ⟨rfl, fun _ _ => d_move rfl ⟨rfl, rfl⟩⟩) ?_
    refine WD.take hok3 1 (.pointer (some ⟨g, 0, none⟩)) (fun _ => True) rfl rfl rfl rfl rfl trivial (.inl ⟨rfl, fun _ _ => d_move rfl ⟨rfl, rfl⟩⟩) ?_
    refine WD.take hok3 2 (.pointer (some ⟨g, 0, none⟩)) (fun _ => True) rfl rfl rfl rfl rfl trivial (.inl ⟨rfl, fun _ _ => d_nilCheck rfl ⟨rfl, rfl⟩⟩) ?_
    refine WD.take hok3 3 (.pointer (some ⟨g, 10, none⟩)) (fun _ => True) rfl rfl rfl rfl rfl trivial (.inl ⟨rfl, fun _ _ => d_fieldAddrB fld102_2 rfl rfl ⟨rfl, rfl⟩⟩) ?_
    refine WD.take hok3 4 (.slice sa ss.length sc) (fun w' => w'.heap[g]? = some (.cells #[v0, v1, v2, v3, v4, v5, v6, v7, v8, v9, .slice sa ss.length sc, .map (some mg)] 102 (0, 0))) rfl rfl rfl rfl rfl (H5.blk 0 rfl) (.inl ⟨rfl, fun _ hC => d_loadB Try.underlying100 rfl rfl hC rfl ⟨rfl, rfl⟩⟩) ?_
    refine WD.take hok3 5 (.agg #[.int .i64 x, .int .i64 y]) (fun w' => w'.heap[w.heap.size]? = some (.cells #[.int .i64 x, .int .i64 y] 105 (0, 0))) rfl rfl rfl rfl rfl (H5.blk 3 rfl) (.inl ⟨rfl, fun _ hC => d_loadAB [.int .i64 x, .int .i64 y] Try.underlying105 rfl sz105 rfl hC rfl rfl ⟨rfl, rfl⟩⟩) ?_
    refine WD.take hok3 6 (.int .i64 f) (fun _ => True) rfl rfl rfl rfl rfl trivial (.inl ⟨rfl, fun _ _ => d_move rfl ⟨rfl, rfl⟩⟩) ?_
    refine WD.take hok3 7 (.int .i64 sym) (fun _ => True) rfl rfl rfl rfl rfl trivial (.inl ⟨rfl, fun _ _ => d_move rfl ⟨rfl, rfl⟩⟩) ?_
    refine WD.take hok3 8 (.agg #[.int .i64 x, .int .i64 y, .int .i64 f, .int .i64 sym]) (fun _ => True) rfl rfl rfl rfl rfl trivial (.inl ⟨rfl, fun _ _ => d_build (cs := #[.int .i64 x, .int .i64 y, .int .i64 f, .int .i64 sym]) rfl (by kernel_rfl) ⟨rfl, rfl⟩⟩) ?_
    refine WD.loud hok3 9 rfl (⟨_, [⟨4, .slice sa ss.length sc, (fun w' => w'.heap[g]? = some (.cells #[v0, v1, v2, v3, v4, v5, v6, v7, v8, v9, .slice sa ss.length sc, .map (some mg)] 102 (0, 0)))⟩, ⟨3, .pointer (some ⟨g, 10, none⟩), (fun _ => True)⟩, ⟨2, .pointer (some ⟨g, 0, none⟩), (fun _ => True)⟩, ⟨1, .pointer (some ⟨g, 0, none⟩), (fun _ => True)⟩, ⟨0, .pointer (some ⟨g, 0, none⟩), (fun _ => True)⟩], rfl, rfl, rfl, rfl, rfl, rfl, t_buildSlice (T := tySt) (xs := ([(⟨x, y, f, sym⟩ : St4)] : List St4)) (cs := #[.int .i64 x, .int .i64 y, .int .i64 f, .int .i64 sym]) rfl Try.underlying100 sz107 rfl rfl rfl rfl (by kernel_rfl) rfl rfl fun w6 u3 => ?_⟩)
    have H6 : UpG w [blk g #[v0, v1, v2, v3, v4, v5, v6, v7, v8, v9, .slice sa ss.length sc, .map (some mg)] 102, rowT tySt (.slice sa ss.length sc) 107 ss, mapC encP (fun a : Int => .int .i64 a) mg mm] w6 [[blk g #[v0, v1, v2, v3, v4, v5, v6, v7, v8, v9, .slice sa ss.length sc, .map (some mg)] 102], [rowT tySt (.slice sa ss.length sc) 107 ss], [mapC encP (fun a : Int => .int .i64 a) mg (putM mm (x, y) ((ss.length : Nat) : Int))], [blk w.heap.size #[.int .i64 x, .int .i64 y] 105], [rowT tySt (.slice (some ⟨w5.heap.size, 0, none⟩) (([(⟨x, y, f, sym⟩ : St4)] : List St4).length) (([(⟨x, y, f, sym⟩ : St4)] : List St4).length)) 107 ([(⟨x, y, f, sym⟩ : St4)] : List St4)]] := H5.new' u3
    refine ⟨⟨(H6.blk 0 rfl), trivial, trivial, trivial, trivial, trivial⟩, ?_⟩
    refine WD.loud hok3 10 rfl (⟨_, [⟨0, .pointer (some ⟨g, 0, none⟩), (fun _ => True)⟩], rfl, rfl, rfl, rfl, rfl, rfl, t_append (T := tySt) (xs := ss) (ys := ([(⟨x, y, f, sym⟩ : St4)] : List St4)) rfl Try.underlying100 sz107 rfl rfl rfl (H6.ownT 1 rfl) (H6.rdT 4 rfl) (by simp only [List.length_singleton]; omega) (by simp only [List.length_singleton]; omega) fun a1 c1 w7 u4 => ?_⟩)
    have H7 : UpG w [blk g #[v0, v1, v2, v3, v4, v5, v6, v7, v8, v9, .slice sa ss.length sc, .map (some mg)] 102, rowT tySt (.slice sa ss.length sc) 107 ss, mapC encP (fun a : Int => .int .i64 a) mg mm] w7 [[blk g #[v0, v1, v2, v3, v4, v5, v6, v7, v8, v9, .slice sa ss.length sc, .map (some mg)] 102], [rowT tySt (.slice a1 ((ss ++ ([(⟨x, y, f, sym⟩ : St4)] : List St4)).length) c1) 107 (ss ++ ([(⟨x, y, f, sym⟩ : St4)] : List St4))], [mapC encP (fun a : Int => .int .i64 a) mg (putM mm (x, y) ((ss.length : Nat) : Int))], [blk w.heap.size #[.int .i64 x, .int .i64 y] 105], []] := (H6.on 1 rfl u4).drop 4
    refine ⟨⟨trivial, trivial⟩, ?_⟩
    refine WD.take hok3 11 (.pointer (some ⟨g, 0, none⟩)) (fun _ => True) rfl rfl rfl rfl rfl trivial (.inl ⟨rfl, fun _ _ => d_nilCheck rfl ⟨rfl, rfl⟩⟩) ?_
    refine WD.take hok3 12 (.pointer (some ⟨g, 10, none⟩)) (fun _ => True) rfl rfl rfl rfl rfl trivial (.inl ⟨rfl, fun _ _ => d_fieldAddrB fld102_2 rfl rfl ⟨rfl, rfl⟩⟩) ?_
    refine WD.loud hok3 13 rfl (⟨_, [], rfl, rfl, rfl, rfl, rfl, rfl, d_storeB sz100 rfl rfl rfl (H7.blk 0 rfl) rfl fun w8 u5 => ?_⟩)
    have H8 : UpG w [blk g #[v0, v1, v2, v3, v4, v5, v6, v7, v8, v9, .slice sa ss.length sc, .map (some mg)] 102, rowT tySt (.slice sa ss.length sc) 107 ss, mapC encP (fun a : Int => .int .i64 a) mg mm] w8 [[blk g #[v0, v1, v2, v3, v4, v5, v6, v7, v8, v9, .slice a1 ((ss ++ ([(⟨x, y, f, sym⟩ : St4)] : List St4)).length) c1, .map (some mg)] 102], [rowT tySt (.slice a1 ((ss ++ ([(⟨x, y, f, sym⟩ : St4)] : List St4)).length) c1) 107 (ss ++ ([(⟨x, y, f, sym⟩ : St4)] : List St4))], [mapC encP (fun a : Int => .int .i64 a) mg (putM mm (x, y) ((ss.length : Nat) : Int))], [blk w.heap.size #[.int .i64 x, .int .i64 y] 105], []] := H7.on 0 rfl u5
    refine ⟨trivial, ?_⟩
    refine WD.done hok3 rfl (X.end0 rfl ?_)
    obtain ⟨e1, e2⟩ := hm.new (f := f) (sym := sym) (v := ((ss.length : Nat) : Int)) (bn_f c30)
    rw [e1]
    exact ⟨a1, c1, _, rfl, (Upd.sel H8 (l := [0, 1, 2]) rfl rfl), e2⟩
  · skip
    refine W.skip (X.end0 rfl ?_)
    have e : putS ss (x, y) f sym = ss := hm.old (bn_t c30)
    rw [e]
    exact ⟨sa, sc, mm, rfl, (Upd.sel H2 (l := [0, 1, 2]) rfl rfl), hm⟩

set_option maxRecDepth 20000 in
theorem word80_any (g : Nat) (v0 : Value) (v1 : Value) (v2 : Value) (v3 : Value) (v4 : Value) (v5 : Value) (v6 : Value) (v7 : Value) (v8 : Value) (v9 : Value) (sa : Option Addr) (ss : List St4) (sc : Nat) (mg : Nat) (at_ : Nat) (w : World) (rs : RdT tySt w (.slice sa ss.length sc) ss) (bg : w.heap[g]? = some (.cells #[v0, v1, v2, v3, v4, v5, v6, v7, v8, v9, .slice sa ss.length sc, .map (some mg)] 102 (0, 0))) (hat : at_ < ss.length) (hc : Chain ss) (hl : ss.length ≤ 100000000) :
    Calls Try.prog 80 #[.pointer (some ⟨g, 0, none⟩), .int .i64 ((at_ : Nat) : Int)] w (Ret fun v w' => ∃ a2 : Option Addr, ∃ c2 : Nat, v = .slice a2 ((wordS ss at_).length) c2 ∧ Upd w [] w' [rowT (tyI .i64) (.slice a2 ((wordS ss at_).length) c2) 3 (wordS ss at_)]) := by
  have le_rs := rs.le
  refine calls_of_W (args := [.pointer (some ⟨g, 0, none⟩), .int .i64 ((at_ : Nat) : Int)]) Try.func80 rfl rfl rfl ?_
  have H0 : UpG w [] w [] := UpG.nil w
  show W _ _ _ _ [(0, .pointer (some ⟨g, 0, none⟩)), (1, .int .i64 ((at_ : Nat) : Int))] w
  refine W.seq ?_
  refine W.region ?_
  refine WL.op rfl (d_assign rfl ?_)
  refine WL.done (X.then_code ?_)
  refine W.seq ?_
  refine W.region ?_
  refine WL.op rfl (d_assign rfl ?_)
  refine WL.done (X.then_code ?_)
  refine W.seq ?_
  refine W.seq ?_
  refine W.region ?_
  refine WL.op rfl (d_move rfl ?_)
  refine WL.op rfl (d_nilCheck rfl ?_)
  refine WL.op rfl (d_fieldAddrB fld102_2 rfl rfl ?_)
  refine WL.op rfl (d_loadB Try.underlying100 rfl rfl (H0.keep0.obj bg (by simp)) rfl ?_)
  refine WL.op rfl (d_move rfl ?_)
  refine WL.op rfl (t_addrN at_ (T := tySt) rfl Try.underlying100 sz107 rfl rfl (rs.at H0) rfl (by omega) ?_)
  refine WL.op rfl (t_loadN at_ st0 (T := tySt) (us := [.int .i64 ((ss.getD at_ st0).p), .int .i64 ((ss.getD at_ st0).q), .int .i64 ((ss.getD at_ st0).from_), .int .i64 ((ss.getD at_ st0).sym)]) rfl Try.underlying107 rfl sz107 rfl (rs.at H0) (by omega) rfl ?_)
  refine WL.op rfl (d_alloc sz107 fun w1 u1 => ?_)
  have H1 : UpG w [] w1 [[blk w.heap.size #[.int .i64 0, .int .i64 0, .int .i64 0, .int .i64 0] 107]] := H0.new' u1
  refine WL.op0 (d_storeAB (us := [.int .i64 ((ss.getD at_ st0).p), .int .i64 ((ss.getD at_ st0).q), .int .i64 ((ss.getD at_ st0).from_), .int .i64 ((ss.getD at_ st0).sym)]) (cs' := #[.int .i64 ((ss.getD at_ st0).p), .int .i64 ((ss.getD at_ st0).q), .int .i64 ((ss.getD at_ st0).from_), .int .i64 ((ss.getD at_ st0).sym)]) sz107 rfl rfl rfl rfl (H1.blk 0 rfl) rfl rfl fun w2 u2 => ?_)
  have H2 : UpG w [] w2 [[blk w.heap.size #[.int .i64 ((ss.getD at_ st0).p), .int .i64 ((ss.getD at_ st0).q), .int .i64 ((ss.getD at_ st0).from_), .int .i64 ((ss.getD at_ st0).sym)] 107]] := H1.on 0 rfl u2
  refine WL.done (X.then_code ?_)
  refine W.block ?_
  have H3 : UpG w [] w2 [[blk w.heap.size #[.int .i64 ((ss.getD at_ st0).p), .int .i64 ((ss.getD at_ st0).q), .int .i64 ((ss.getD at_ st0).from_), .int .i64 ((ss.getD at_ st0).sym)] 107], [rowT (tyI .i64) (.slice none (([] : List Int).length) 0) 3 ([] : List Int)]] := H2.new' (Upd.nilRowT w2 (tyI .i64) 3)
  refine W.pick [6, 5, 4, 0] (Γ' := [(6, .pointer (some ⟨w.heap.size, 0, none⟩)), (5, .slice none (([] : List Int).length) 0), (4, .slice none 0 0), (0, .pointer (some ⟨g, 0, none⟩))]) rfl ?_
  refine W.loop (fun m Γ' w' => ∃ i : Nat, ∃ q : List Int, ∃ qa : Option Addr, ∃ qc : Nat, ∃ xg : Nat, Γ' = [(6, .pointer (some ⟨xg, 0, none⟩)), (5, .slice qa q.length qc), (4, .slice none 0 0), (0, .pointer (some ⟨g, 0, none⟩))] ∧ UpG w [] w' [[blk xg #[.int .i64 ((ss.getD i st0).p), .int .i64 ((ss.getD i st0).q), .int .i64 ((ss.getD i st0).from_), .int .i64 ((ss.getD i st0).sym)] 107], [rowT (tyI .i64) (.slice qa q.length qc) 3 q]] ∧ (i < ss.length) ∧ (q ++ revW ss (i + 1) i = revW ss (at_ + 1) at_) ∧ (q.length + i ≤ at_) ∧ m = i + 1) (at_ + 1) ⟨at_, ([] : List Int), none, 0, w.heap.size, rfl, H3, (by exact hat), (by rfl), (by simp), rfl⟩ ?_
  rintro m1 Γ1 w3 ⟨i, q, qa, qc, xg, rfl, H4, hi, hq, hql, rfl⟩
  have hci := hc i hi
  refine W.seq ?_
  refine W.seq ?_
  refine W.region ?_
  refine WL.op rfl (d_fieldAddrB fld107_1 rfl rfl ?_)
  refine WL.op rfl (d_loadB Try.underlying3 rfl rfl (H4.blk 0 rfl) rfl ?_)
  refine WL.op rfl (d_cmp (decide (((ss.getD i st0).from_) ≥ (0 : Int))) rfl rfl rfl ?_)
  refine WL.done (X.then_code ?_)
  refine W.ite (p := ((ss.getD i st0).from_) ≥ (0 : Int)) rfl (fun c39 => ?_) (fun c39 => ?_)
  · skip
    refine W.skip (X.then_code ?_)
    refine W.seq ?_
    refine W.block ?_
    refine W.region ?_
    refine WL.op rfl (d_move rfl ?_)
    refine WL.op rfl (d_fieldAddrB fld107_2 rfl rfl ?_)
    refine WL.op rfl (d_loadB Try.underlying3 rfl rfl (H4.blk 0 rfl) rfl ?_)
    refine WL.op rfl (t_buildSlice (T := (tyI .i64)) (xs := [(ss.getD i st0).sym]) (cs := #[.int .i64 ((ss.getD i st0).sym)]) rfl Try.underlying22 sz3 rfl rfl rfl rfl (by kernel_rfl) rfl rfl fun w4 u3 => ?_)
    have H5 : UpG w [] w4 [[blk xg #[.int .i64 ((ss.getD i st0).p), .int .i64 ((ss.getD i st0).q), .int .i64 ((ss.getD i st0).from_), .int .i64 ((ss.getD i st0).sym)] 107], [rowT (tyI .i64) (.slice qa q.length qc) 3 q], [rowT (tyI .i64) (.slice (some ⟨w3.heap.size, 0, none⟩) ([(ss.getD i st0).sym].length) ([(ss.getD i st0).sym].length)) 3 [(ss.getD i st0).sym]]] := H4.new' u3
    refine WL.op rfl (t_append (T := (tyI .i64)) (xs := q) (ys := [(ss.getD i st0).sym]) rfl Try.underlying22 sz3 rfl rfl rfl (H5.ownT 1 rfl) (H5.rdT 2 rfl) (by simp only [List.length_singleton]; omega) (by simp only [List.length_singleton]; omega) fun a1 c1 w5 u4 => ?_)
    have H6 : UpG w [] w5 [[blk xg #[.int .i64 ((ss.getD i st0).p), .int .i64 ((ss.getD i st0).q), .int .i64 ((ss.getD i st0).from_), .int .i64 ((ss.getD i st0).sym)] 107], [rowT (tyI .i64) (.slice a1 ((q ++ [(ss.getD i st0).sym]).length) c1) 3 (q ++ [(ss.getD i st0).sym])], []] := (H5.on 1 rfl u4).drop 2
    refine WL.op rfl (d_assign rfl ?_)
    refine WL.done (X.block_normal (X.then_code ?_))
    refine W.seq ?_
    refine W.seq ?_
    refine W.region ?_
    refine WL.op rfl (d_loadAB [.int .i64 ((ss.getD i st0).p), .int .i64 ((ss.getD i st0).q), .int .i64 ((ss.getD i st0).from_), .int .i64 ((ss.getD i st0).sym)] Try.underlying107 rfl sz107 rfl (H6.blk 0 rfl) rfl rfl ?_)
    refine WL.done (X.then_code ?_)
    refine W.region ?_
    refine WL.op rfl (d_alloc sz107 fun w6 u5 => ?_)
    have H7 : UpG w [] w6 [[blk xg #[.int .i64 ((ss.getD i st0).p), .int .i64 ((ss.getD i st0).q), .int .i64 ((ss.getD i st0).from_), .int .i64 ((ss.getD i st0).sym)] 107], [rowT (tyI .i64) (.slice a1 ((q ++ [(ss.getD i st0).sym]).length) c1) 3 (q ++ [(ss.getD i st0).sym])], [], [blk w5.heap.size #[.int .i64 0, .int .i64 0, .int .i64 0, .int .i64 0] 107]] := H6.new' u5
    refine WL.op0 (d_storeAB (us := [.int .i64 ((ss.getD i st0).p), .int .i64 ((ss.getD i st0).q), .int .i64 ((ss.getD i st0).from_), .int .i64 ((ss.getD i st0).sym)]) (cs' := #[.int .i64 ((ss.getD i st0).p), .int .i64 ((ss.getD i st0).q), .int .i64 ((ss.getD i st0).from_), .int .i64 ((ss.getD i st0).sym)]) sz107 rfl rfl rfl rfl (H7.blk 3 rfl) rfl rfl fun w7 u6 => ?_)
    have H8 : UpG w [] w7 [[blk xg #[.int .i64 ((ss.getD i st0).p), .int .i64 ((ss.getD i st0).q), .int .i64 ((ss.getD i st0).from_), .int .i64 ((ss.getD i st0).sym)] 107], [rowT (tyI .i64) (.slice a1 ((q ++ [(ss.getD i st0).sym]).length) c1) 3 (q ++ [(ss.getD i st0).sym])], [], [blk w5.heap.size #[.int .i64 ((ss.getD i st0).p), .int .i64 ((ss.getD i st0).q), .int .i64 ((ss.getD i st0).from_), .int .i64 ((ss.getD i st0).sym)] 107]] := H7.on 3 rfl u6
    refine WL.done (X.then_code ?_)
    refine W.regionD mixed (by kernel_rfl) fun hok1 w8 k1 => ?_
    have H9 : UpG w [] w8 [[blk xg #[.int .i64 ((ss.getD i st0).p), .int .i64 ((ss.getD i st0).q), .int .i64 ((ss.getD i st0).from_), .int .i64 ((ss.getD i st0).sym)] 107], [rowT (tyI .i64) (.slice a1 ((q ++ [(ss.getD i st0).sym]).length) c1) 3 (q ++ [(ss.getD i st0).sym])], [], [blk w5.heap.size #[.int .i64 ((ss.getD i st0).p), .int .i64 ((ss.getD i st0).q), .int .i64 ((ss.getD i st0).from_), .int .i64 ((ss.getD i st0).sym)] 107]] := H8.kept k1
    refine WD.take hok1 0 (.pointer (some ⟨g, 0, none⟩)) (fun _ => True) rfl rfl rfl rfl rfl trivial (.inl ⟨rfl, fun _ _ => d_move rfl ⟨rfl, rfl⟩⟩) ?_
    refine WD.take hok1 1 (.pointer (some ⟨g, 0, none⟩)) (fun _ => True) rfl rfl rfl rfl rfl trivial (.inl ⟨rfl, fun _ _ => d_nilCheck rfl ⟨rfl, rfl⟩⟩) ?_
    refine WD.take hok1 2 (.pointer (some ⟨g, 10, none⟩)) (fun _ => True) rfl rfl rfl rfl rfl trivial (.inl ⟨rfl, fun _ _ => d_fieldAddrB fld102_2 rfl rfl ⟨rfl, rfl⟩⟩) ?_
    refine WD.take hok1 3 (.slice sa ss.length sc) (fun w' => w'.heap[g]? = some (.cells #[v0, v1, v2, v3, v4, v5, v6, v7, v8, v9, .slice sa ss.length sc, .map (some mg)] 102 (0, 0))) rfl rfl rfl rfl rfl (H9.keep0.obj bg (by simp)) (.inl ⟨rfl, fun _ hC => d_loadB Try.underlying100 rfl rfl hC rfl ⟨rfl, rfl⟩⟩) ?_
    refine WD.take hok1 4 (.pointer (some ⟨w5.heap.size, 2, none⟩)) (fun _ => True) rfl rfl rfl rfl rfl trivial (.inl ⟨rfl, fun _ _ => d_fieldAddrB fld107_1 rfl rfl ⟨rfl, rfl⟩⟩) ?_
    refine WD.take hok1 5 (.int .i64 ((ss.getD i st0).from_)) (fun w' => w'.heap[w5.heap.size]? = some (.cells #[.int .i64 ((ss.getD i st0).p), .int .i64 ((ss.getD i st0).q), .int .i64 ((ss.getD i st0).from_), .int .i64 ((ss.getD i st0).sym)] 107 (0, 0))) rfl rfl rfl rfl rfl (H9.blk 3 rfl) (.inl ⟨rfl, fun _ hC => d_loadB Try.underlying3 rfl rfl hC rfl ⟨rfl, rfl⟩⟩) ?_
    refine WD.take hok1 6 (elemPtr (.slice sa ss.length sc) ((((ss.getD i st0).from_).toNat) * 4)) (fun w' => RdT tySt w' (.slice sa ss.length sc) ss) rfl rfl rfl rfl rfl (rs.at H9) (.inl ⟨rfl, fun _ hC => t_addrN (((ss.getD i st0).from_).toNat) (T := tySt) rfl Try.underlying100 sz107 rfl rfl hC (by omega) (by omega) ⟨rfl, rfl⟩⟩) ?_
    refine WD.take hok1 7 (.agg #[.int .i64 ((ss.getD (((ss.getD i st0).from_).toNat) st0).p), .int .i64 ((ss.getD (((ss.getD i st0).from_).toNat) st0).q), .int .i64 ((ss.getD (((ss.getD i st0).from_).toNat) st0).from_), .int .i64 ((ss.getD (((ss.getD i st0).from_).toNat) st0).sym)]) (fun w' => RdT tySt w' (.slice sa ss.length sc) ss) rfl rfl rfl rfl rfl (rs.at H9) (.inl ⟨rfl, fun _ hC => t_loadN (((ss.getD i st0).from_).toNat) st0 (T := tySt) (us := [.int .i64 ((ss.getD (((ss.getD i st0).from_).toNat) st0).p), .int .i64 ((ss.getD (((ss.getD i st0).from_).toNat) st0).q), .int .i64 ((ss.getD (((ss.getD i st0).from_).toNat) st0).from_), .int .i64 ((ss.getD (((ss.getD i st0).from_).toNat) st0).sym)]) rfl Try.underlying107 rfl sz107 rfl hC (by omega) rfl ⟨rfl, rfl⟩⟩) ?_
    refine WD.loud hok1 8 rfl (⟨_, [], rfl, rfl, rfl, rfl, rfl, rfl, d_storeAB (us := [.int .i64 ((ss.getD (((ss.getD i st0).from_).toNat) st0).p), .int .i64 ((ss.getD (((ss.getD i st0).from_).toNat) st0).q), .int .i64 ((ss.getD (((ss.getD i st0).from_).toNat) st0).from_), .int .i64 ((ss.getD (((ss.getD i st0).from_).toNat) st0).sym)]) (cs' := #[.int .i64 ((ss.getD (((ss.getD i st0).from_).toNat) st0).p), .int .i64 ((ss.getD (((ss.getD i st0).from_).toNat) st0).q), .int .i64 ((ss.getD (((ss.getD i st0).from_).toNat) st0).from_), .int .i64 ((ss.getD (((ss.getD i st0).from_).toNat) st0).sym)]) sz107 rfl rfl rfl rfl (H9.blk 3 rfl) rfl rfl fun w9 u7 => ?_⟩)
    have H10 : UpG w [] w9 [[blk xg #[.int .i64 ((ss.getD i st0).p), .int .i64 ((ss.getD i st0).q), .int .i64 ((ss.getD i st0).from_), .int .i64 ((ss.getD i st0).sym)] 107], [rowT (tyI .i64) (.slice a1 ((q ++ [(ss.getD i st0).sym]).length) c1) 3 (q ++ [(ss.getD i st0).sym])], [], [blk w5.heap.size #[.int .i64 ((ss.getD (((ss.getD i st0).from_).toNat) st0).p), .int .i64 ((ss.getD (((ss.getD i st0).from_).toNat) st0).q), .int .i64 ((ss.getD (((ss.getD i st0).from_).toNat) st0).from_), .int .i64 ((ss.getD (((ss.getD i st0).from_).toNat) st0).sym)] 107]] := H9.on 3 rfl u7
    refine ⟨trivial, ?_⟩
    refine WD.done hok1 rfl ?_
    exact X.next [6, 5, 4, 0] (Γ' := [(6, .pointer (some ⟨w5.heap.size, 0, none⟩)), (5, .slice a1 ((q ++ [(ss.getD i st0).sym]).length) c1), (4, .slice none 0 0), (0, .pointer (some ⟨g, 0, none⟩))]) rfl (((ss.getD i st0).from_.toNat) + 1) (by omega) ⟨(ss.getD i st0).from_.toNat, q ++ [(ss.getD i st0).sym], a1, c1, w5.heap.size, rfl, (UpG.of (G := [[blk w5.heap.size #[.int .i64 ((ss.getD ((ss.getD i st0).from_.toNat) st0).p), .int .i64 ((ss.getD ((ss.getD i st0).from_.toNat) st0).q), .int .i64 ((ss.getD ((ss.getD i st0).from_.toNat) st0).from_), .int .i64 ((ss.getD ((ss.getD i st0).from_.toNat) st0).sym)] 107], [rowT (tyI .i64) (.slice a1 ((q ++ [(ss.getD i st0).sym]).length) c1) 3 (q ++ [(ss.getD i st0).sym])]]) (Upd.sel H10 (M := [blk w5.heap.size #[.int .i64 ((ss.getD ((ss.getD i st0).from_.toNat) st0).p), .int .i64 ((ss.getD ((ss.getD i st0).from_.toNat) st0).q), .int .i64 ((ss.getD ((ss.getD i st0).from_.toNat) st0).from_), .int .i64 ((ss.getD ((ss.getD i st0).from_.toNat) st0).sym)] 107, rowT (tyI .i64) (.slice a1 ((q ++ [(ss.getD i st0).sym]).length) c1) 3 (q ++ [(ss.getD i st0).sym])]) (l := [2, 1]) rfl rfl) rfl), (by omega), (by rw [List.append_assoc, List.singleton_append, ← revW_step hc hi (by omega)]; exact hq), (by simp only [List.length_append, List.length_singleton]; omega), rfl⟩
  · skip
    refine W.exit (X.then_exit (X.then_exit (X.block_exit (X.then_code ?_))))
    refine W.seq ?_
    refine W.region ?_
    refine WL.op rfl (d_move rfl ?_)
    refine WL.op rfl (d_call ok95 rfl (Ret.calls (reverse_any qa q qc q.length w3 (H4.hpOf 1 rfl)  rfl (by omega)) fun _ w10 p1 => ?_))
    obtain ⟨rfl, u8⟩ := p1
    have H11 : UpG w [] w10 [[blk xg #[.int .i64 ((ss.getD i st0).p), .int .i64 ((ss.getD i st0).q), .int .i64 ((ss.getD i st0).from_), .int .i64 ((ss.getD i st0).sym)] 107], [rowT (tyI .i64) (.slice qa q.length qc) 3 q.reverse]] := H4.on 1 rfl u8
    refine WL.done (X.then_code ?_)
    refine W.seq ?_
    refine W.region ?_
    refine WL.op rfl (d_move rfl ?_)
    refine WL.op rfl (d_assign rfl ?_)
    refine WL.done (X.then_code ?_)
    refine W.ret (X.ret1 rfl rfl ?_)
    have e : wordS ss at_ = q.reverse := by rw [wordS, ← hq, revW_end (by omega), List.append_nil]
    rw [e]
    exact ⟨qa, qc, (by rw [List.length_reverse]), (by have h9 := H11.one 1 rfl; rw [← List.length_reverse] at h9; exact h9)⟩

set_option maxRecDepth 20000 in
theorem small14_any (d : DfaD) (dca : Option Addr) (dna : Option Addr) (dba : Option Addr) (dcc : Nat) (dnc : Nat) (dbc : Nat) (w : World) (rcd : RdT (tyI .i64) w (.slice dca d.cls.length dcc) d.cls) (rnd : RdT (tyI .i64) w (.slice dna d.next.length dnc) d.next) (rbd : RdT tyB w (.slice dba d.acc.length dbc) d.acc) :
    Calls Try.prog 44 #[.agg #[.slice dca d.cls.length dcc, .int .i64 d.width, .int .i64 d.start, .slice dna d.next.length dnc, .slice dba d.acc.length dbc]] w (Ret fun v w' => v = .bool (decide (d.acc.length ≤ 10 ∧ d.next.length ≤ 3000 ∧ d.cls.length ≤ 300)) ∧ Upd w [] w' []) := by
  have le_rcd := rcd.le
  have le_rnd := rnd.le
  have le_rbd := rbd.le
  refine calls_of_W (args := [.agg #[.slice dca d.cls.length dcc, .int .i64 d.width, .int .i64 d.start, .slice dna d.next.length dnc, .slice dba d.acc.length dbc]]) Try.func44 rfl rfl rfl ?_
  have H0 : UpG w [] w [] := UpG.nil w
  show W _ _ _ _ [(0, .agg #[.slice dca d.cls.length dcc, .int .i64 d.width, .int .i64 d.start, .slice dna d.next.length dnc, .slice dba d.acc.length dbc])] w
  refine W.seq ?_
  refine W.region ?_
  refine WL.op rfl (d_box rfl fun w1 u1 => ?_)
  have H1 : UpG w [] w1 [[blk w.heap.size #[.slice dca d.cls.length dcc, .int .i64 d.width, .int .i64 d.start, .slice dna d.next.length dnc, .slice dba d.acc.length dbc] 25]] := H0.new' u1
  refine WL.op rfl (d_assign rfl ?_)
  refine WL.done (X.then_code ?_)
  refine W.seq ?_
  refine W.region ?_
  refine WL.op rfl (d_fieldAddrB fld25_4 rfl rfl ?_)
  refine WL.op rfl (d_loadB Try.underlying23 rfl rfl (H1.blk 0 rfl) rfl ?_)
  refine WL.op rfl (d_lenS Try.underlying23 rfl ?_)
  refine WL.op rfl (d_cmp (decide (((d.acc.length : Nat) : Int) ≤ (10 : Int))) rfl rfl rfl ?_)
  refine WL.op rfl (d_move rfl ?_)
  refine WL.part 7 (p := ((d.acc.length : Nat) : Int) ≤ (10 : Int)) rfl (fun g27 => ?_) (fun g27 => ?_)
  · skip
    refine WL.opG rfl rfl rfl (d_fieldAddrB fld25_3 rfl rfl ?_)
    refine WL.opG rfl rfl rfl (d_loadB Try.underlying22 rfl rfl (H1.blk 0 rfl) rfl ?_)
    refine WL.opG rfl rfl rfl (d_lenS Try.underlying22 rfl ?_)
    refine WL.opG rfl rfl rfl (d_cmp (decide (((d.next.length : Nat) : Int) ≤ (3000 : Int))) rfl rfl rfl ?_)
    refine WL.op rfl (d_pick rfl rfl ?_)
    refine WL.op rfl (d_move rfl ?_)
    refine WL.part 13 (p := ((d.next.length : Nat) : Int) ≤ (3000 : Int)) rfl (fun g27x => ?_) (fun g27x => ?_)
    · skip
      refine WL.opG rfl rfl rfl (d_fieldAddrB fld25_0 rfl rfl ?_)
      refine WL.opG rfl rfl rfl (d_loadB Try.underlying22 rfl rfl (H1.blk 0 rfl) rfl ?_)
      refine WL.opG rfl rfl rfl (d_lenS Try.underlying22 rfl ?_)
      refine WL.opG rfl rfl rfl (d_cmp (decide (((d.cls.length : Nat) : Int) ≤ (300 : Int))) rfl rfl rfl ?_)
      refine WL.op rfl (d_pick rfl rfl ?_)
      refine WL.op rfl (d_assign rfl ?_)
      refine WL.done (X.then_code ?_)
      refine W.pick [2] (Γ' := [(2, .bool (decide (((d.cls.length : Nat) : Int) ≤ (300 : Int))))]) rfl ?_
      refine W.ret (X.ret1 rfl rfl ?_)
      exact ⟨(by first | exact congrArg Value.bool (decide_eq_decide.2 (by omega)) | exact congrArg Value.bool (Eq.symm (decide_eq_false (by omega)))), H1.noneL⟩
    · skip
      refine WL.opN rfl rfl rfl rfl ?_
      refine WL.opN rfl rfl rfl rfl ?_
      refine WL.opN rfl rfl rfl rfl ?_
      refine WL.opN rfl rfl rfl rfl ?_
      refine WL.op rfl (d_pick rfl rfl ?_)
      refine WL.op rfl (d_assign rfl ?_)
      refine WL.done (X.then_code ?_)
      refine W.pick [2] (Γ' := [(2, .bool false)]) rfl ?_
      refine W.ret (X.ret1 rfl rfl ?_)
      exact ⟨(by first | exact congrArg Value.bool (decide_eq_decide.2 (by omega)) | exact congrArg Value.bool (Eq.symm (decide_eq_false (by omega)))), H1.noneL⟩
  · skip
    refine WL.opN rfl rfl rfl rfl ?_
    refine WL.opN rfl rfl rfl rfl ?_
    refine WL.opN rfl rfl rfl rfl ?_
    refine WL.opN rfl rfl rfl rfl ?_
    refine WL.op rfl (d_pick rfl rfl ?_)
    refine WL.op rfl (d_move rfl ?_)
    refine WL.opN rfl rfl rfl rfl ?_
    refine WL.opN rfl rfl rfl rfl ?_
    refine WL.opN rfl rfl rfl rfl ?_
    refine WL.opN rfl rfl rfl rfl ?_
    refine WL.op rfl (d_pick rfl rfl ?_)
    refine WL.op rfl (d_assign rfl ?_)
    refine WL.done (X.then_code ?_)
    refine W.pick [2] (Γ' := [(2, .bool false)]) rfl ?_
    refine W.ret (X.ret1 rfl rfl ?_)
    exact ⟨(by first | exact congrArg Value.bool (decide_eq_decide.2 (by omega)) | exact congrArg Value.bool (Eq.symm (decide_eq_false (by omega)))), H1.noneL⟩

set_option maxRecDepth 20000 in
theorem apart_any (a : DfaD) (aca : Option Addr) (ana : Option Addr) (aba : Option Addr) (acc : Nat) (anc : Nat) (abc : Nat) (b : DfaD) (bca : Option Addr) (bna : Option Addr) (bba : Option Addr) (bcc : Nat) (bnc : Nat) (bbc : Nat) (w : World) (rca : RdT (tyI .i64) w (.slice aca a.cls.length acc) a.cls) (rna : RdT (tyI .i64) w (.slice ana a.next.length anc) a.next) (rba : RdT tyB w (.slice aba a.acc.length abc) a.acc) (rcb : RdT (tyI .i64) w (.slice bca b.cls.length bcc) b.cls) (rnb : RdT (tyI .i64) w (.slice bna b.next.length bnc) b.next) (rbb : RdT tyB w (.slice bba b.acc.length bbc) b.acc) (hca : a.cls.length ≤ 100000 ∧ b.cls.length ≤ 100000) :
    Calls Try.prog 45 #[.agg #[.slice aca a.cls.length acc, .int .i64 a.width, .int .i64 a.start, .slice ana a.next.length anc, .slice aba a.acc.length abc], .agg #[.slice bca b.cls.length bcc, .int .i64 b.width, .int .i64 b.start, .slice bna b.next.length bnc, .slice bba b.acc.length bbc]] w (Ret fun v w' => ∃ a2 : Option Addr, ∃ c2 : Nat, v = .tuple #[.slice a2 ((apartW a b).length) c2, .bool (apartI a b), .int .i64 (apartE a b)] ∧ Upd w [] w' [rowT (tyI .i64) (.slice a2 ((apartW a b).length) c2) 3 (apartW a b)]) := by
  have le_rca := rca.le
  have le_rna := rna.le
  have le_rba := rba.le
  have le_rcb := rcb.le
  have le_rnb := rnb.le
  have le_rbb := rbb.le
  refine calls_of_W (args := [.agg #[.slice aca a.cls.length acc, .int .i64 a.width, .int .i64 a.start, .slice ana a.next.length anc, .slice aba a.acc.length abc], .agg #[.slice bca b.cls.length bcc, .int .i64 b.width, .int .i64 b.start, .slice bna b.next.length bnc, .slice bba b.acc.length bbc]]) Try.func45 rfl rfl rfl ?_
  have H0 : UpG w [] w [] := UpG.nil w
  show W _ _ _ _ [(0, .agg #[.slice aca a.cls.length acc, .int .i64 a.width, .int .i64 a.start, .slice ana a.next.length anc, .slice aba a.acc.length abc]), (1, .agg #[.slice bca b.cls.length bcc, .int .i64 b.width, .int .i64 b.start, .slice bna b.next.length bnc, .slice bba b.acc.length bbc])] w
  refine W.seq ?_
  refine W.region ?_
  refine WL.op rfl (d_box rfl fun w1 u1 => ?_)
  have H1 : UpG w [] w1 [[blk w.heap.size #[.slice aca a.cls.length acc, .int .i64 a.width, .int .i64 a.start, .slice ana a.next.length anc, .slice aba a.acc.length abc] 25]] := H0.new' u1
  refine WL.op rfl (d_box rfl fun w2 u2 => ?_)
  have H2 : UpG w [] w2 [[blk w.heap.size #[.slice aca a.cls.length acc, .int .i64 a.width, .int .i64 a.start, .slice ana a.next.length anc, .slice aba a.acc.length abc] 25], [blk w1.heap.size #[.slice bca b.cls.length bcc, .int .i64 b.width, .int .i64 b.start, .slice bna b.next.length bnc, .slice bba b.acc.length bbc] 25]] := H1.new' u2
  refine WL.op rfl (d_assign rfl ?_)
  refine WL.op rfl (d_assign rfl ?_)
  refine WL.op rfl (d_assign rfl ?_)
  refine WL.done (X.then_code ?_)
  refine W.seq ?_
  refine W.seq ?_
  refine W.region ?_
  refine WL.op rfl (d_loadAB [.slice aca a.cls.length acc, .int .i64 a.width, .int .i64 a.start, .slice ana a.next.length anc, .slice aba a.acc.length abc] Try.underlying25 rfl sz25 rfl (H2.blk 0 rfl) rfl rfl ?_)
  refine WL.op rfl (d_call ok24 rfl (Ret.calls (right_any a aca ana aba acc anc abc w2 (rca.at H2) (rna.at H2) (rba.at H2) ) fun _ w3 p1 => ?_))
  obtain ⟨rfl, u3⟩ := p1
  have H3 : UpG w [] w3 [[blk w.heap.size #[.slice aca a.cls.length acc, .int .i64 a.width, .int .i64 a.start, .slice ana a.next.length anc, .slice aba a.acc.length abc] 25], [blk w1.heap.size #[.slice bca b.cls.length bcc, .int .i64 b.width, .int .i64 b.start, .slice bna b.next.length bnc, .slice bba b.acc.length bbc] 25]] := H2.call u3
  refine WL.op rfl (d_notB rfl ?_)
  refine WL.op rfl (d_move rfl ?_)
  refine WL.partB 18 (b := !(rightB a)) rfl (fun g48 => ?_) (fun g48 => ?_)
  · skip
    refine WL.opN rfl rfl rfl rfl ?_
    refine WL.opN rfl rfl rfl rfl ?_
    refine WL.opN rfl rfl rfl rfl ?_
    refine WL.op rfl (d_pick rfl rfl ?_)
    refine WL.done (X.then_code ?_)
    refine W.ift rfl ?_
    refine W.seq ?_
    refine W.region ?_
    refine WL.op rfl (d_assign rfl ?_)
    refine WL.op rfl (d_assign rfl ?_)
    refine WL.op rfl (d_assign rfl ?_)
    refine WL.done (X.then_code ?_)
    refine W.ret (X.then_ret (X.ret3 rfl rfl rfl rfl ?_))
    have hno : ¬ (rightB a = true ∧ rightB b = true) := by simp_all
    have e1 : apartW a b = [] := by rw [apartW, if_neg hno]
    have e2 : apartI a b = false := by rw [apartI, if_neg hno]
    have e3 : apartE a b = 3 := by rw [apartE, if_neg hno]
    rw [e1, e2, e3]
    exact ⟨none, 0, (by rfl), nilOwn H3⟩
  · skip
    refine WL.opG rfl rfl rfl (d_loadAB [.slice bca b.cls.length bcc, .int .i64 b.width, .int .i64 b.start, .slice bna b.next.length bnc, .slice bba b.acc.length bbc] Try.underlying25 rfl sz25 rfl (H3.blk 1 rfl) rfl rfl ?_)
    refine WL.opG rfl rfl rfl (d_call ok24 rfl (Ret.calls (right_any b bca bna bba bcc bnc bbc w3 (rcb.at H3) (rnb.at H3) (rbb.at H3) ) fun _ w4 p2 => ?_))
    obtain ⟨rfl, u4⟩ := p2
    have H4 : UpG w [] w4 [[blk w.heap.size #[.slice aca a.cls.length acc, .int .i64 a.width, .int .i64 a.start, .slice ana a.next.length anc, .slice aba a.acc.length abc] 25], [blk w1.heap.size #[.slice bca b.cls.length bcc, .int .i64 b.width, .int .i64 b.start, .slice bna b.next.length bnc, .slice bba b.acc.length bbc] 25]] := H3.call u4
    refine WL.opG rfl rfl rfl (d_notB rfl ?_)
    refine WL.op rfl (d_pick rfl rfl ?_)
    refine WL.done (X.then_code ?_)
    refine W.iteB (b := !(rightB b)) rfl (fun c48 => ?_) (fun c48 => ?_)
    · skip
      refine W.seq ?_
      refine W.region ?_
      refine WL.op rfl (d_assign rfl ?_)
      refine WL.op rfl (d_assign rfl ?_)
      refine WL.op rfl (d_assign rfl ?_)
      refine WL.done (X.then_code ?_)
      refine W.ret (X.then_ret (X.ret3 rfl rfl rfl rfl ?_))
      have hno : ¬ (rightB a = true ∧ rightB b = true) := by simp_all
      have e1 : apartW a b = [] := by rw [apartW, if_neg hno]
      have e2 : apartI a b = false := by rw [apartI, if_neg hno]
      have e3 : apartE a b = 3 := by rw [apartE, if_neg hno]
      rw [e1, e2, e3]
      exact ⟨none, 0, (by rfl), nilOwn H4⟩
    · skip
      refine W.skip (X.then_code ?_)
      refine W.seq ?_
      have hra : rightB a = true := by simpa using g48
      have hrb : rightB b = true := by simpa using c48
      have hia := rightB_iff.1 hra
      have hib := rightB_iff.1 hrb
      have hfs := firstsAB_bd hra hrb
      refine W.region ?_
      refine WL.op rfl (d_fieldAddrB fld25_0 rfl rfl ?_)
      refine WL.op rfl (d_loadB Try.underlying22 rfl rfl (H4.blk 0 rfl) rfl ?_)
      refine WL.op rfl (d_fieldAddrB fld25_0 rfl rfl ?_)
      refine WL.op rfl (d_loadB Try.underlying22 rfl rfl (H4.blk 1 rfl) rfl ?_)
      refine WL.op rfl (d_call ok77 rfl (Ret.calls (join_any aca a.cls acc bca b.cls bcc w4 (rca.at H4) (rcb.at H4) (by omega)) fun _ w5 p3 => ?_))
      obtain ⟨a2_1, c2_1, rfl, u5⟩ := p3
      have H5 : UpG w [] w5 [[blk w.heap.size #[.slice aca a.cls.length acc, .int .i64 a.width, .int .i64 a.start, .slice ana a.next.length anc, .slice aba a.acc.length abc] 25], [blk w1.heap.size #[.slice bca b.cls.length bcc, .int .i64 b.width, .int .i64 b.start, .slice bna b.next.length bnc, .slice bba b.acc.length bbc] 25], [rowT (tyI .i64) (.slice a2_1 ((joinL a.cls b.cls).length) c2_1) 3 (joinL a.cls b.cls)]] := (H4.new' u5).re rfl
      refine WL.op rfl (d_move rfl ?_)
      refine WL.op rfl (d_extract rfl rfl ?_)
      refine WL.op rfl (d_extract rfl rfl ?_)
      refine WL.op rfl (d_assign rfl ?_)
      refine WL.op rfl (d_assign rfl ?_)
      refine WL.done (X.then_code ?_)
      refine W.pick [8, 7, 6, 5, 4, 3, 2] (Γ' := [(8, .int .i64 (joinN a.cls b.cls)), (7, .slice a2_1 ((joinL a.cls b.cls).length) c2_1), (6, .int .i64 0), (5, .bool false), (4, .slice none 0 0), (3, .pointer (some ⟨w1.heap.size, 0, none⟩)), (2, .pointer (some ⟨w.heap.size, 0, none⟩))]) rfl ?_
      refine W.seq ?_
      refine W.region ?_
      refine WL.op rfl (d_move rfl ?_)
      refine WL.op rfl (d_move rfl ?_)
      refine WL.op rfl (d_call ok78 rfl (Ret.calls (firsts_any a2_1 (joinL a.cls b.cls) c2_1 (joinN a.cls b.cls) w5 (H5.rdT 2 rfl) ) fun _ w6 p4 => ?_))
      obtain ⟨a2_2, c2_2, rfl, u6⟩ := p4
      have H6 : UpG w [] w6 [[blk w.heap.size #[.slice aca a.cls.length acc, .int .i64 a.width, .int .i64 a.start, .slice ana a.next.length anc, .slice aba a.acc.length abc] 25], [blk w1.heap.size #[.slice bca b.cls.length bcc, .int .i64 b.width, .int .i64 b.start, .slice bna b.next.length bnc, .slice bba b.acc.length bbc] 25], [rowT (tyI .i64) (.slice a2_1 ((joinL a.cls b.cls).length) c2_1) 3 (joinL a.cls b.cls)], [rowT (tyI .i64) (.slice a2_2 ((firstsI (joinL a.cls b.cls) (joinN a.cls b.cls)).length) c2_2) 3 (firstsI (joinL a.cls b.cls) (joinN a.cls b.cls))]] := (H5.new' u6).re rfl
      refine WL.op rfl (d_assign rfl ?_)
      refine WL.done (X.then_code ?_)
      refine W.seq ?_
      refine W.region ?_
      refine WL.op rfl (d_loadAB [.slice aca a.cls.length acc, .int .i64 a.width, .int .i64 a.start, .slice ana a.next.length anc, .slice aba a.acc.length abc] Try.underlying25 rfl sz25 rfl (H6.blk 0 rfl) rfl rfl ?_)
      refine WL.op rfl (d_loadAB [.slice bca b.cls.length bcc, .int .i64 b.width, .int .i64 b.start, .slice bna b.next.length bnc, .slice bba b.acc.length bbc] Try.underlying25 rfl sz25 rfl (H6.blk 1 rfl) rfl rfl ?_)
      refine WL.op rfl (d_makeMap encP (fun a : Int => .int .i64 a) fun w7 u7 => ?_)
      have H7 : UpG w [] w7 [[blk w.heap.size #[.slice aca a.cls.length acc, .int .i64 a.width, .int .i64 a.start, .slice ana a.next.length anc, .slice aba a.acc.length abc] 25], [blk w1.heap.size #[.slice bca b.cls.length bcc, .int .i64 b.width, .int .i64 b.start, .slice bna b.next.length bnc, .slice bba b.acc.length bbc] 25], [rowT (tyI .i64) (.slice a2_1 ((joinL a.cls b.cls).length) c2_1) 3 (joinL a.cls b.cls)], [rowT (tyI .i64) (.slice a2_2 ((firstsI (joinL a.cls b.cls) (joinN a.cls b.cls)).length) c2_2) 3 (firstsI (joinL a.cls b.cls) (joinN a.cls b.cls))], [mapC encP (fun a : Int => .int .i64 a) w6.heap.size ([] : List ((Int × Int) × Int))]] := H6.new' u7
      refine WL.op rfl (d_build (cs := #[.slice aca a.cls.length acc, .int .i64 a.width, .int .i64 a.start, .slice ana a.next.length anc, .slice aba a.acc.length abc, .slice bca b.cls.length bcc, .int .i64 b.width, .int .i64 b.start, .slice bna b.next.length bnc, .slice bba b.acc.length bbc, .slice none 0 0, .map (some w6.heap.size)]) rfl (by kernel_rfl) ?_)
      refine WL.op rfl (d_box rfl fun w8 u8 => ?_)
      have H8 : UpG w [] w8 [[blk w.heap.size #[.slice aca a.cls.length acc, .int .i64 a.width, .int .i64 a.start, .slice ana a.next.length anc, .slice aba a.acc.length abc] 25], [blk w1.heap.size #[.slice bca b.cls.length bcc, .int .i64 b.width, .int .i64 b.start, .slice bna b.next.length bnc, .slice bba b.acc.length bbc] 25], [rowT (tyI .i64) (.slice a2_1 ((joinL a.cls b.cls).length) c2_1) 3 (joinL a.cls b.cls)], [rowT (tyI .i64) (.slice a2_2 ((firstsI (joinL a.cls b.cls) (joinN a.cls b.cls)).length) c2_2) 3 (firstsI (joinL a.cls b.cls) (joinN a.cls b.cls))], [mapC encP (fun a : Int => .int .i64 a) w6.heap.size ([] : List ((Int × Int) × Int))], [blk w7.heap.size #[.slice aca a.cls.length acc, .int .i64 a.width, .int .i64 a.start, .slice ana a.next.length anc, .slice aba a.acc.length abc, .slice bca b.cls.length bcc, .int .i64 b.width, .int .i64 b.start, .slice bna b.next.length bnc, .slice bba b.acc.length bbc, .slice none 0 0, .map (some w6.heap.size)] 102]] := H7.new' u8
      refine WL.op rfl (d_assign rfl ?_)
      refine WL.done (X.then_code ?_)
      refine W.pick [10, 9, 6, 5, 4, 3, 2] (Γ' := [(10, .pointer (some ⟨w7.heap.size, 0, none⟩)), (9, .slice a2_2 ((firstsI (joinL a.cls b.cls) (joinN a.cls b.cls)).length) c2_2), (6, .int .i64 0), (5, .bool false), (4, .slice none 0 0), (3, .pointer (some ⟨w1.heap.size, 0, none⟩)), (2, .pointer (some ⟨w.heap.size, 0, none⟩))]) rfl ?_
      refine W.seq ?_
      refine W.region ?_
      refine WL.op rfl (d_move rfl ?_)
      refine WL.op rfl (d_fieldAddrB fld25_2 rfl rfl ?_)
      refine WL.op rfl (d_loadB Try.underlying3 rfl rfl (H8.blk 0 rfl) rfl ?_)
      refine WL.op rfl (d_fieldAddrB fld25_2 rfl rfl ?_)
      refine WL.op rfl (d_loadB Try.underlying3 rfl rfl (H8.blk 1 rfl) rfl ?_)
      refine WL.op rfl (d_build (cs := #[.int .i64 a.start, .int .i64 b.start]) rfl (by kernel_rfl) ?_)
      have H9 : UpG w [] w8 [[blk w.heap.size #[.slice aca a.cls.length acc, .int .i64 a.width, .int .i64 a.start, .slice ana a.next.length anc, .slice aba a.acc.length abc] 25], [blk w1.heap.size #[.slice bca b.cls.length bcc, .int .i64 b.width, .int .i64 b.start, .slice bna b.next.length bnc, .slice bba b.acc.length bbc] 25], [rowT (tyI .i64) (.slice a2_1 ((joinL a.cls b.cls).length) c2_1) 3 (joinL a.cls b.cls)], [rowT (tyI .i64) (.slice a2_2 ((firstsI (joinL a.cls b.cls) (joinN a.cls b.cls)).length) c2_2) 3 (firstsI (joinL a.cls b.cls) (joinN a.cls b.cls))], [mapC encP (fun a : Int => .int .i64 a) w6.heap.size ([] : List ((Int × Int) × Int))], [blk w7.heap.size #[.slice aca a.cls.length acc, .int .i64 a.width, .int .i64 a.start, .slice ana a.next.length anc, .slice aba a.acc.length abc, .slice bca b.cls.length bcc, .int .i64 b.width, .int .i64 b.start, .slice bna b.next.length bnc, .slice bba b.acc.length bbc, .slice none 0 0, .map (some w6.heap.size)] 102], [rowT tySt (.slice none (([] : List St4).length) 0) 107 ([] : List St4)]] := H8.new' (Upd.nilRowT w8 tySt 107)
      have H10 : UpG w [] w8 [[blk w7.heap.size #[.slice aca a.cls.length acc, .int .i64 a.width, .int .i64 a.start, .slice ana a.next.length anc, .slice aba a.acc.length abc, .slice bca b.cls.length bcc, .int .i64 b.width, .int .i64 b.start, .slice bna b.next.length bnc, .slice bba b.acc.length bbc, .slice none (([] : List St4).length) 0, .map (some w6.heap.size)] 102, rowT tySt (.slice none (([] : List St4).length) 0) 107 ([] : List St4), mapC encP (fun a : Int => .int .i64 a) w6.heap.size ([] : List ((Int × Int) × Int))], [blk w.heap.size #[.slice aca a.cls.length acc, .int .i64 a.width, .int .i64 a.start, .slice ana a.next.length anc, .slice aba a.acc.length abc] 25], [blk w1.heap.size #[.slice bca b.cls.length bcc, .int .i64 b.width, .int .i64 b.start, .slice bna b.next.length bnc, .slice bba b.acc.length bbc] 25], [rowT (tyI .i64) (.slice a2_1 ((joinL a.cls b.cls).length) c2_1) 3 (joinL a.cls b.cls)], [rowT (tyI .i64) (.slice a2_2 ((firstsI (joinL a.cls b.cls) (joinN a.cls b.cls)).length) c2_2) 3 (firstsI (joinL a.cls b.cls) (joinN a.cls b.cls))]] := UpG.of (Upd.sel H9 (l := [5, 6, 4, 0, 1, 2, 3]) rfl rfl) rfl
      refine WL.op rfl (d_call ok79 rfl (Ret.calls (put_any w7.heap.size a.start b.start (-1) 0 (.slice aca a.cls.length acc) (.int .i64 a.width) (.int .i64 a.start) (.slice ana a.next.length anc) (.slice aba a.acc.length abc) (.slice bca b.cls.length bcc) (.int .i64 b.width) (.int .i64 b.start) (.slice bna b.next.length bnc) (.slice bba b.acc.length bbc) none ([] : List St4) 0 w6.heap.size ([] : List ((Int × Int) × Int)) w8 (H10.hpOf 0 rfl)  (by first | exact MapInv.nil | exact hMj) (by first | omega | simp)) fun _ w9 p5 => ?_))
      obtain ⟨a2_3, c2_3, mm2_1, rfl, u9, q1⟩ := p5
      have H11 : UpG w [] w9 [[blk w7.heap.size #[(.slice aca a.cls.length acc), (.int .i64 a.width), (.int .i64 a.start), (.slice ana a.next.length anc), (.slice aba a.acc.length abc), (.slice bca b.cls.length bcc), (.int .i64 b.width), (.int .i64 b.start), (.slice bna b.next.length bnc), (.slice bba b.acc.length bbc), .slice a2_3 ((putS ([] : List St4) (a.start, b.start) (-1) 0).length) c2_3, .map (some w6.heap.size)] 102, rowT tySt (.slice a2_3 ((putS ([] : List St4) (a.start, b.start) (-1) 0).length) c2_3) 107 (putS ([] : List St4) (a.start, b.start) (-1) 0), mapC encP (fun a : Int => .int .i64 a) w6.heap.size mm2_1], [blk w.heap.size #[.slice aca a.cls.length acc, .int .i64 a.width, .int .i64 a.start, .slice ana a.next.length anc, .slice aba a.acc.length abc] 25], [blk w1.heap.size #[.slice bca b.cls.length bcc, .int .i64 b.width, .int .i64 b.start, .slice bna b.next.length bnc, .slice bba b.acc.length bbc] 25], [rowT (tyI .i64) (.slice a2_1 ((joinL a.cls b.cls).length) c2_1) 3 (joinL a.cls b.cls)], [rowT (tyI .i64) (.slice a2_2 ((firstsI (joinL a.cls b.cls) (joinN a.cls b.cls)).length) c2_2) 3 (firstsI (joinL a.cls b.cls) (joinN a.cls b.cls))]] := H10.on 0 rfl u9
      refine WL.done (X.then_code ?_)
      refine W.seq ?_
      refine W.seq ?_
      refine W.region ?_
      refine WL.op rfl (d_assign rfl ?_)
      refine WL.done (X.then_code ?_)
      refine W.block ?_
      refine W.pick [11, 10, 9, 6, 5, 4, 3, 2] (Γ' := [(11, .int .i64 0), (10, .pointer (some ⟨w7.heap.size, 0, none⟩)), (9, .slice a2_2 ((firstsI (joinL a.cls b.cls) (joinN a.cls b.cls)).length) c2_2), (6, .int .i64 0), (5, .bool false), (4, .slice none 0 0), (3, .pointer (some ⟨w1.heap.size, 0, none⟩)), (2, .pointer (some ⟨w.heap.size, 0, none⟩))]) rfl ?_
      refine W.loop (fun m Γ' w' => ∃ k : Nat, ∃ ss : List St4, ∃ sa : Option Addr, ∃ sc : Nat, ∃ mm : List ((Int × Int) × Int), Γ' = [(11, .int .i64 ((k : Nat) : Int)), (10, .pointer (some ⟨w7.heap.size, 0, none⟩)), (9, .slice a2_2 ((firstsI (joinL a.cls b.cls) (joinN a.cls b.cls)).length) c2_2), (6, .int .i64 0), (5, .bool false), (4, .slice none 0 0), (3, .pointer (some ⟨w1.heap.size, 0, none⟩)), (2, .pointer (some ⟨w.heap.size, 0, none⟩))] ∧ UpG w [] w' [[blk w7.heap.size #[(.slice aca a.cls.length acc), (.int .i64 a.width), (.int .i64 a.start), (.slice ana a.next.length anc), (.slice aba a.acc.length abc), (.slice bca b.cls.length bcc), (.int .i64 b.width), (.int .i64 b.start), (.slice bna b.next.length bnc), (.slice bba b.acc.length bbc), .slice sa ss.length sc, .map (some w6.heap.size)] 102, rowT tySt (.slice sa ss.length sc) 107 ss, mapC encP (fun a : Int => .int .i64 a) w6.heap.size mm], [blk w.heap.size #[.slice aca a.cls.length acc, .int .i64 a.width, .int .i64 a.start, .slice ana a.next.length anc, .slice aba a.acc.length abc] 25], [blk w1.heap.size #[.slice bca b.cls.length bcc, .int .i64 b.width, .int .i64 b.start, .slice bna b.next.length bnc, .slice bba b.acc.length bbc] 25], [rowT (tyI .i64) (.slice a2_1 ((joinL a.cls b.cls).length) c2_1) 3 (joinL a.cls b.cls)], [rowT (tyI .i64) (.slice a2_2 ((firstsI (joinL a.cls b.cls) (joinN a.cls b.cls)).length) c2_2) 3 (firstsI (joinL a.cls b.cls) (joinN a.cls b.cls))]] ∧ (k < (a.acc.length * b.acc.length + 1)) ∧ (StI a b ss k) ∧ (MapInv mm ss) ∧ (apartO a b = apLoop a b (firstsAB a b) ((a.acc.length * b.acc.length + 1) - k) k ss) ∧ m = (a.acc.length * b.acc.length + 1) - k) ((a.acc.length * b.acc.length + 1) - 0) ⟨0, putS ([] : List St4) (a.start, b.start) (-1) 0, a2_3, c2_3, mm2_1, rfl, H11, (by omega), (by exact StI.start hra hrb), (by exact q1), (by rfl), rfl⟩ ?_
      rintro m1 Γ1 w10 ⟨k, ss, sa, sc, mm, rfl, H12, hk, hI, hM, hR, rfl⟩
      have hub : ss.length ≤ 4096 * 4096 := Nat.le_trans hI.bound (Nat.mul_le_mul (by omega) (by omega))
      have hbd := hI.bound
      refine W.seq ?_
      refine W.seq ?_
      refine W.region ?_
      refine WL.op rfl (d_move rfl ?_)
      refine WL.op rfl (d_move rfl ?_)
      refine WL.op rfl (d_nilCheck rfl ?_)
      refine WL.op rfl (d_fieldAddrB fld102_2 rfl rfl ?_)
      refine WL.op rfl (d_loadB Try.underlying100 rfl rfl ((H12.hpOf 0 rfl).blk (List.mem_of_getElem? (i := 0) rfl)) rfl ?_)
      refine WL.op rfl (d_lenS Try.underlying100 rfl ?_)
      refine WL.op rfl (d_cmp (decide (((k : Nat) : Int) < ((ss.length : Nat) : Int))) rfl rfl rfl ?_)
      refine WL.done (X.then_code ?_)
      refine W.ite (p := ((k : Nat) : Int) < ((ss.length : Nat) : Int)) rfl (fun c55 => ?_) (fun c55 => ?_)
      · skip
        refine W.skip (X.then_code ?_)
        refine W.seq ?_
        refine W.block ?_
        refine W.seq ?_
        refine W.region ?_
        refine WL.op rfl (d_move rfl ?_)
        refine WL.op rfl (d_nilCheck rfl ?_)
        refine WL.op rfl (d_fieldAddrB fld102_2 rfl rfl ?_)
        refine WL.op rfl (d_loadB Try.underlying100 rfl rfl ((H12.hpOf 0 rfl).blk (List.mem_of_getElem? (i := 0) rfl)) rfl ?_)
        refine WL.op rfl (d_move rfl ?_)
        refine WL.op rfl (t_addrN k (T := tySt) rfl Try.underlying100 sz107 rfl rfl (hp_rdT (H12.hpOf 0 rfl) (List.mem_of_getElem? (i := 1) rfl)) rfl (by omega) ?_)
        refine WL.op rfl (t_fld k st0 (T := tySt) rfl fld107_0 rfl rfl (hp_rdT (H12.hpOf 0 rfl) (List.mem_of_getElem? (i := 1) rfl)) (by omega) ?_)
        refine WL.op rfl (t_loadFN k st0 (T := tySt) (us := [.int .i64 ((ss.getD k st0).p), .int .i64 ((ss.getD k st0).q)]) rfl rfl rfl Try.underlying105 rfl sz105 rfl (hp_rdT (H12.hpOf 0 rfl) (List.mem_of_getElem? (i := 1) rfl)) (by omega) rfl ?_)
        refine WL.op rfl (d_alloc sz105 fun w11 u10 => ?_)
        have H13 : UpG w [] w11 [[blk w7.heap.size #[(.slice aca a.cls.length acc), (.int .i64 a.width), (.int .i64 a.start), (.slice ana a.next.length anc), (.slice aba a.acc.length abc), (.slice bca b.cls.length bcc), (.int .i64 b.width), (.int .i64 b.start), (.slice bna b.next.length bnc), (.slice bba b.acc.length bbc), .slice sa ss.length sc, .map (some w6.heap.size)] 102, rowT tySt (.slice sa ss.length sc) 107 ss, mapC encP (fun a : Int => .int .i64 a) w6.heap.size mm], [blk w.heap.size #[.slice aca a.cls.length acc, .int .i64 a.width, .int .i64 a.start, .slice ana a.next.length anc, .slice aba a.acc.length abc] 25], [blk w1.heap.size #[.slice bca b.cls.length bcc, .int .i64 b.width, .int .i64 b.start, .slice bna b.next.length bnc, .slice bba b.acc.length bbc] 25], [rowT (tyI .i64) (.slice a2_1 ((joinL a.cls b.cls).length) c2_1) 3 (joinL a.cls b.cls)], [rowT (tyI .i64) (.slice a2_2 ((firstsI (joinL a.cls b.cls) (joinN a.cls b.cls)).length) c2_2) 3 (firstsI (joinL a.cls b.cls) (joinN a.cls b.cls))], [blk w10.heap.size #[.int .i64 0, .int .i64 0] 105]] := H12.new' u10
        refine WL.op0 (d_storeAB (us := [.int .i64 ((ss.getD k st0).p), .int .i64 ((ss.getD k st0).q)]) (cs' := #[.int .i64 ((ss.getD k st0).p), .int .i64 ((ss.getD k st0).q)]) sz105 rfl rfl rfl rfl (H13.blk 5 rfl) rfl rfl fun w12 u11 => ?_)
        have H14 : UpG w [] w12 [[blk w7.heap.size #[(.slice aca a.cls.length acc), (.int .i64 a.width), (.int .i64 a.start), (.slice ana a.next.length anc), (.slice aba a.acc.length abc), (.slice bca b.cls.length bcc), (.int .i64 b.width), (.int .i64 b.start), (.slice bna b.next.length bnc), (.slice bba b.acc.length bbc), .slice sa ss.length sc, .map (some w6.heap.size)] 102, rowT tySt (.slice sa ss.length sc) 107 ss, mapC encP (fun a : Int => .int .i64 a) w6.heap.size mm], [blk w.heap.size #[.slice aca a.cls.length acc, .int .i64 a.width, .int .i64 a.start, .slice ana a.next.length anc, .slice aba a.acc.length abc] 25], [blk w1.heap.size #[.slice bca b.cls.length bcc, .int .i64 b.width, .int .i64 b.start, .slice bna b.next.length bnc, .slice bba b.acc.length bbc] 25], [rowT (tyI .i64) (.slice a2_1 ((joinL a.cls b.cls).length) c2_1) 3 (joinL a.cls b.cls)], [rowT (tyI .i64) (.slice a2_2 ((firstsI (joinL a.cls b.cls) (joinN a.cls b.cls)).length) c2_2) 3 (firstsI (joinL a.cls b.cls) (joinN a.cls b.cls))], [blk w10.heap.size #[.int .i64 ((ss.getD k st0).p), .int .i64 ((ss.getD k st0).q)] 105]] := H13.on 5 rfl u11
        refine WL.done (X.then_code ?_)
        refine W.pick [12, 62, 61, 60, 59, 58, 57, 56, 55, 52, 51, 50, 49, 48, 47, 46, 11, 10, 9, 6, 5, 4, 3, 2] (Γ' := [(12, .pointer (some ⟨w10.heap.size, 0, none⟩)), (62, .agg #[.int .i64 ((ss.getD k st0).p), .int .i64 ((ss.getD k st0).q)]), (61, elemPtr (.slice sa ss.length sc) (k * 4 + 0)), (60, elemPtr (.slice sa ss.length sc) (k * 4)), (59, .int .i64 ((k : Nat) : Int)), (58, .slice sa ss.length sc), (57, .pointer (some ⟨w7.heap.size, 10, none⟩)), (56, .pointer (some ⟨w7.heap.size, 0, none⟩)), (55, .pointer (some ⟨w7.heap.size, 0, none⟩)), (52, .bool (decide (((k : Nat) : Int) < ((ss.length : Nat) : Int)))), (51, .int .i64 ((ss.length : Nat) : Int)), (50, .slice sa ss.length sc), (49, .pointer (some ⟨w7.heap.size, 10, none⟩)), (48, .pointer (some ⟨w7.heap.size, 0, none⟩)), (47, .pointer (some ⟨w7.heap.size, 0, none⟩)), (46, .int .i64 ((k : Nat) : Int)), (11, .int .i64 ((k : Nat) : Int)), (10, .pointer (some ⟨w7.heap.size, 0, none⟩)), (9, .slice a2_2 ((firstsI (joinL a.cls b.cls) (joinN a.cls b.cls)).length) c2_2), (6, .int .i64 0), (5, .bool false), (4, .slice none 0 0), (3, .pointer (some ⟨w1.heap.size, 0, none⟩)), (2, .pointer (some ⟨w.heap.size, 0, none⟩))]) rfl ?_
        refine W.seq ?_
        refine W.seq ?_
        have hrk := hI.rng k (by omega)
        have hra1 := hrk.1
        have hrb1 := hrk.2
        refine W.regionD mixed (by kernel_rfl) fun hok1 w13 k1 => ?_
        have H15 : UpG w [] w13 [[blk w7.heap.size #[(.slice aca a.cls.length acc), (.int .i64 a.width), (.int .i64 a.start), (.slice ana a.next.length anc), (.slice aba a.acc.length abc), (.slice bca b.cls.length bcc), (.int .i64 b.width), (.int .i64 b.start), (.slice bna b.next.length bnc), (.slice bba b.acc.length bbc), .slice sa ss.length sc, .map (some w6.heap.size)] 102, rowT tySt (.slice sa ss.length sc) 107 ss, mapC encP (fun a : Int => .int .i64 a) w6.heap.size mm], [blk w.heap.size #[.slice aca a.cls.length acc, .int .i64 a.width, .int .i64 a.start, .slice ana a.next.length anc, .slice aba a.acc.length abc] 25], [blk w1.heap.size #[.slice bca b.cls.length bcc, .int .i64 b.width, .int .i64 b.start, .slice bna b.next.length bnc, .slice bba b.acc.length bbc] 25], [rowT (tyI .i64) (.slice a2_1 ((joinL a.cls b.cls).length) c2_1) 3 (joinL a.cls b.cls)], [rowT (tyI .i64) (.slice a2_2 ((firstsI (joinL a.cls b.cls) (joinN a.cls b.cls)).length) c2_2) 3 (firstsI (joinL a.cls b.cls) (joinN a.cls b.cls))], [blk w10.heap.size #[.int .i64 ((ss.getD k st0).p), .int .i64 ((ss.getD k st0).q)] 105]] := H14.kept k1
        refine WD.take hok1 0 (.pointer (some ⟨w.heap.size, 4, none⟩)) (fun _ => True) rfl rfl rfl rfl rfl trivial (.inl ⟨rfl, fun _ _ => d_fieldAddrB fld25_4 rfl rfl ⟨rfl, rfl⟩⟩) ?_
        refine WD.take hok1 1 (.slice aba a.acc.length abc) (fun w' => w'.heap[w.heap.size]? = some (.cells #[.slice aca a.cls.length acc, .int .i64 a.width, .int .i64 a.start, .slice ana a.next.length anc, .slice aba a.acc.length abc] 25 (0, 0))) rfl rfl rfl rfl rfl (H15.blk 1 rfl) (.inl ⟨rfl, fun _ hC => d_loadB Try.underlying23 rfl rfl hC rfl ⟨rfl, rfl⟩⟩) ?_
        refine WD.take hok1 2 (.pointer (some ⟨w10.heap.size, 0, none⟩)) (fun _ => True) rfl rfl rfl rfl rfl trivial (.inl ⟨rfl, fun _ _ => d_fieldAddrB fld105_0 rfl rfl ⟨rfl, rfl⟩⟩) ?_
        refine WD.take hok1 3 (.int .i64 ((ss.getD k st0).p)) (fun w' => w'.heap[w10.heap.size]? = some (.cells #[.int .i64 ((ss.getD k st0).p), .int .i64 ((ss.getD k st0).q)] 105 (0, 0))) rfl rfl rfl rfl rfl (H15.blk 5 rfl) (.inl ⟨rfl, fun _ hC => d_loadB Try.underlying3 rfl rfl hC rfl ⟨rfl, rfl⟩⟩) ?_
        refine WD.take hok1 4 (elemPtr (.slice aba a.acc.length abc) (((ss.getD k st0).p).toNat)) (fun w' => RdT tyB w' (.slice aba a.acc.length abc) a.acc) rfl rfl rfl rfl rfl (rba.at H15) (.inl ⟨rfl, fun _ hC => t_addr1 (((ss.getD k st0).p).toNat) (T := tyB) rfl Try.underlying23 sz4 rfl rfl hC (by omega) (by omega) ⟨rfl, rfl⟩⟩) ?_
        refine WD.take hok1 5 (.bool (a.acc.getD (((ss.getD k st0).p).toNat) false)) (fun w' => RdT tyB w' (.slice aba a.acc.length abc) a.acc) rfl rfl rfl rfl rfl (rba.at H15) (.inl ⟨rfl, fun _ hC => t_load1 (((ss.getD k st0).p).toNat) false (T := tyB) rfl Try.underlying4 rfl rfl hC (by omega) rfl ⟨rfl, rfl⟩⟩) ?_
        refine WD.take hok1 6 (.pointer (some ⟨w1.heap.size, 4, none⟩)) (fun _ => True) rfl rfl rfl rfl rfl trivial (.inl ⟨rfl, fun _ _ => d_fieldAddrB fld25_4 rfl rfl ⟨rfl, rfl⟩⟩) ?_
        refine WD.take hok1 7 (.slice bba b.acc.length bbc) (fun w' => w'.heap[w1.heap.size]? = some (.cells #[.slice bca b.cls.length bcc, .int .i64 b.width, .int .i64 b.start, .slice bna b.next.length bnc, .slice bba b.acc.length bbc] 25 (0, 0))) rfl rfl rfl rfl rfl (H15.blk 2 rfl) (.inl ⟨rfl, fun _ hC => d_loadB Try.underlying23 rfl rfl hC rfl ⟨rfl, rfl⟩⟩) ?_
        refine WD.take hok1 8 (.pointer (some ⟨w10.heap.size, 1, none⟩)) (fun _ => True) rfl rfl rfl rfl rfl trivial (.inl ⟨rfl, fun _ _ => d_fieldAddrB fld105_1 rfl rfl ⟨rfl, rfl⟩⟩) ?_
        refine WD.take hok1 9 (.int .i64 ((ss.getD k st0).q)) (fun w' => w'.heap[w10.heap.size]? = some (.cells #[.int .i64 ((ss.getD k st0).p), .int .i64 ((ss.getD k st0).q)] 105 (0, 0))) rfl rfl rfl rfl rfl (H15.blk 5 rfl) (.inl ⟨rfl, fun _ hC => d_loadB Try.underlying3 rfl rfl hC rfl ⟨rfl, rfl⟩⟩) ?_
        refine WD.take hok1 10 (elemPtr (.slice bba b.acc.length bbc) (((ss.getD k st0).q).toNat)) (fun w' => RdT tyB w' (.slice bba b.acc.length bbc) b.acc) rfl rfl rfl rfl rfl (rbb.at H15) (.inl ⟨rfl, fun _ hC => t_addr1 (((ss.getD k st0).q).toNat) (T := tyB) rfl Try.underlying23 sz4 rfl rfl hC (by omega) (by omega) ⟨rfl, rfl⟩⟩) ?_
        refine WD.take hok1 11 (.bool (b.acc.getD (((ss.getD k st0).q).toNat) false)) (fun w' => RdT tyB w' (.slice bba b.acc.length bbc) b.acc) rfl rfl rfl rfl rfl (rbb.at H15) (.inl ⟨rfl, fun _ hC => t_load1 (((ss.getD k st0).q).toNat) false (T := tyB) rfl Try.underlying4 rfl rfl hC (by omega) rfl ⟨rfl, rfl⟩⟩) ?_
        refine WD.take hok1 12 (.bool (decide ((a.acc.getD (((ss.getD k st0).p).toNat) false) ≠ (b.acc.getD (((ss.getD k st0).q).toNat) false)))) (fun _ => True) rfl rfl rfl rfl rfl trivial (.inl ⟨rfl, fun _ _ => d_boolne Try.underlying4 rfl rfl ⟨rfl, rfl⟩⟩) ?_
        refine WD.done hok1 rfl (X.then_code ?_)
        refine W.pick [75, 74, 73, 72, 71, 70, 69, 68, 67, 66, 65, 64, 63, 12, 62, 61, 60, 59, 58, 57, 56, 55, 52, 51, 50, 49, 48, 47, 46, 11, 10, 9, 6, 5, 4, 3, 2] (Γ' := [(75, .bool (decide ((a.acc.getD (((ss.getD k st0).p).toNat) false) ≠ (b.acc.getD (((ss.getD k st0).q).toNat) false)))), (74, .bool (b.acc.getD (((ss.getD k st0).q).toNat) false)), (73, elemPtr (.slice bba b.acc.length bbc) (((ss.getD k st0).q).toNat)), (72, .int .i64 ((ss.getD k st0).q)), (71, .pointer (some ⟨w10.heap.size, 1, none⟩)), (70, .slice bba b.acc.length bbc), (69, .pointer (some ⟨w1.heap.size, 4, none⟩)), (68, .bool (a.acc.getD (((ss.getD k st0).p).toNat) false)), (67, elemPtr (.slice aba a.acc.length abc) (((ss.getD k st0).p).toNat)), (66, .int .i64 ((ss.getD k st0).p)), (65, .pointer (some ⟨w10.heap.size, 0, none⟩)), (64, .slice aba a.acc.length abc), (63, .pointer (some ⟨w.heap.size, 4, none⟩)), (12, .pointer (some ⟨w10.heap.size, 0, none⟩)), (62, .agg #[.int .i64 ((ss.getD k st0).p), .int .i64 ((ss.getD k st0).q)]), (61, elemPtr (.slice sa ss.length sc) (k * 4 + 0)), (60, elemPtr (.slice sa ss.length sc) (k * 4)), (59, .int .i64 ((k : Nat) : Int)), (58, .slice sa ss.length sc), (57, .pointer (some ⟨w7.heap.size, 10, none⟩)), (56, .pointer (some ⟨w7.heap.size, 0, none⟩)), (55, .pointer (some ⟨w7.heap.size, 0, none⟩)), (52, .bool (decide (((k : Nat) : Int) < ((ss.length : Nat) : Int)))), (51, .int .i64 ((ss.length : Nat) : Int)), (50, .slice sa ss.length sc), (49, .pointer (some ⟨w7.heap.size, 10, none⟩)), (48, .pointer (some ⟨w7.heap.size, 0, none⟩)), (47, .pointer (some ⟨w7.heap.size, 0, none⟩)), (46, .int .i64 ((k : Nat) : Int)), (11, .int .i64 ((k : Nat) : Int)), (10, .pointer (some ⟨w7.heap.size, 0, none⟩)), (9, .slice a2_2 ((firstsI (joinL a.cls b.cls) (joinN a.cls b.cls)).length) c2_2), (6, .int .i64 0), (5, .bool false), (4, .slice none 0 0), (3, .pointer (some ⟨w1.heap.size, 0, none⟩)), (2, .pointer (some ⟨w.heap.size, 0, none⟩))]) rfl ?_
        refine W.ite (p := (a.acc.getD (((ss.getD k st0).p).toNat) false) ≠ (b.acc.getD (((ss.getD k st0).q).toNat) false)) rfl (fun c57 => ?_) (fun c57 => ?_)
        · skip
          refine W.seq ?_
          refine W.region ?_
          refine WL.op rfl (d_move rfl ?_)
          refine WL.op rfl (d_move rfl ?_)
          refine WL.op rfl (d_call ok80 rfl (Ret.calls (word80_any w7.heap.size (.slice aca a.cls.length acc) (.int .i64 a.width) (.int .i64 a.start) (.slice ana a.next.length anc) (.slice aba a.acc.length abc) (.slice bca b.cls.length bcc) (.int .i64 b.width) (.int .i64 b.start) (.slice bna b.next.length bnc) (.slice bba b.acc.length bbc) sa ss sc w6.heap.size k w13 (hp_rdT (H15.hpOf 0 rfl) (List.mem_of_getElem? (i := 1) rfl)) ((H15.hpOf 0 rfl).blk (List.mem_of_getElem? (i := 0) rfl)) (by omega) hI.ch (by omega)) fun _ w14 p6 => ?_))
          obtain ⟨a2_4, c2_4, rfl, u12⟩ := p6
          have H16 : UpG w [] w14 [[blk w7.heap.size #[(.slice aca a.cls.length acc), (.int .i64 a.width), (.int .i64 a.start), (.slice ana a.next.length anc), (.slice aba a.acc.length abc), (.slice bca b.cls.length bcc), (.int .i64 b.width), (.int .i64 b.start), (.slice bna b.next.length bnc), (.slice bba b.acc.length bbc), .slice sa ss.length sc, .map (some w6.heap.size)] 102, rowT tySt (.slice sa ss.length sc) 107 ss, mapC encP (fun a : Int => .int .i64 a) w6.heap.size mm], [blk w.heap.size #[.slice aca a.cls.length acc, .int .i64 a.width, .int .i64 a.start, .slice ana a.next.length anc, .slice aba a.acc.length abc] 25], [blk w1.heap.size #[.slice bca b.cls.length bcc, .int .i64 b.width, .int .i64 b.start, .slice bna b.next.length bnc, .slice bba b.acc.length bbc] 25], [rowT (tyI .i64) (.slice a2_1 ((joinL a.cls b.cls).length) c2_1) 3 (joinL a.cls b.cls)], [rowT (tyI .i64) (.slice a2_2 ((firstsI (joinL a.cls b.cls) (joinN a.cls b.cls)).length) c2_2) 3 (firstsI (joinL a.cls b.cls) (joinN a.cls b.cls))], [blk w10.heap.size #[.int .i64 ((ss.getD k st0).p), .int .i64 ((ss.getD k st0).q)] 105], [rowT (tyI .i64) (.slice a2_4 ((wordS ss k).length) c2_4) 3 (wordS ss k)]] := (H15.new' u12).re rfl
          refine WL.op rfl (d_assign rfl ?_)
          refine WL.op rfl (d_assign rfl ?_)
          refine WL.op rfl (d_assign rfl ?_)
          refine WL.done (X.then_code ?_)
          refine W.pick [6, 5, 4, 78, 77, 76, 75, 74, 73, 72, 71, 70, 69, 68, 67, 66, 65, 64, 63, 12, 62, 61, 60, 59, 58, 57, 56, 55, 52, 51, 50, 49, 48, 47, 46, 11, 10, 9, 3, 2] (Γ' := [(6, .int .i64 0), (5, .bool true), (4, .slice a2_4 ((wordS ss k).length) c2_4), (78, .slice a2_4 ((wordS ss k).length) c2_4), (77, .int .i64 ((k : Nat) : Int)), (76, .pointer (some ⟨w7.heap.size, 0, none⟩)), (75, .bool (decide ((a.acc.getD (((ss.getD k st0).p).toNat) false) ≠ (b.acc.getD (((ss.getD k st0).q).toNat) false)))), (74, .bool (b.acc.getD (((ss.getD k st0).q).toNat) false)), (73, elemPtr (.slice bba b.acc.length bbc) (((ss.getD k st0).q).toNat)), (72, .int .i64 ((ss.getD k st0).q)), (71, .pointer (some ⟨w10.heap.size, 1, none⟩)), (70, .slice bba b.acc.length bbc), (69, .pointer (some ⟨w1.heap.size, 4, none⟩)), (68, .bool (a.acc.getD (((ss.getD k st0).p).toNat) false)), (67, elemPtr (.slice aba a.acc.length abc) (((ss.getD k st0).p).toNat)), (66, .int .i64 ((ss.getD k st0).p)), (65, .pointer (some ⟨w10.heap.size, 0, none⟩)), (64, .slice aba a.acc.length abc), (63, .pointer (some ⟨w.heap.size, 4, none⟩)), (12, .pointer (some ⟨w10.heap.size, 0, none⟩)), (62, .agg #[.int .i64 ((ss.getD k st0).p), .int .i64 ((ss.getD k st0).q)]), (61, elemPtr (.slice sa ss.length sc) (k * 4 + 0)), (60, elemPtr (.slice sa ss.length sc) (k * 4)), (59, .int .i64 ((k : Nat) : Int)), (58, .slice sa ss.length sc), (57, .pointer (some ⟨w7.heap.size, 10, none⟩)), (56, .pointer (some ⟨w7.heap.size, 0, none⟩)), (55, .pointer (some ⟨w7.heap.size, 0, none⟩)), (52, .bool (decide (((k : Nat) : Int) < ((ss.length : Nat) : Int)))), (51, .int .i64 ((ss.length : Nat) : Int)), (50, .slice sa ss.length sc), (49, .pointer (some ⟨w7.heap.size, 10, none⟩)), (48, .pointer (some ⟨w7.heap.size, 0, none⟩)), (47, .pointer (some ⟨w7.heap.size, 0, none⟩)), (46, .int .i64 ((k : Nat) : Int)), (11, .int .i64 ((k : Nat) : Int)), (10, .pointer (some ⟨w7.heap.size, 0, none⟩)), (9, .slice a2_2 ((firstsI (joinL a.cls b.cls) (joinN a.cls b.cls)).length) c2_2), (3, .pointer (some ⟨w1.heap.size, 0, none⟩)), (2, .pointer (some ⟨w.heap.size, 0, none⟩))]) rfl ?_
          refine W.ret (X.then_ret (X.block_ret (X.then_ret (X.then_ret (X.block_ret (X.then_ret (X.ret3 rfl rfl rfl rfl ?_)))))))
          have ho : apartO a b = some (wordS ss k) := by rw [hR]; exact apLoop_hit hk (by omega) (by simpa using c57)
          have e1 : apartW a b = wordS ss k := by rw [apartW, if_pos ⟨hra, hrb⟩, ho]; rfl
          have e2 : apartI a b = true := by rw [apartI, if_pos ⟨hra, hrb⟩, ho]; rfl
          have e3 : apartE a b = 0 := by rw [apartE, if_pos ⟨hra, hrb⟩]
          rw [e1, e2, e3]
          exact ⟨a2_4, c2_4, (by rfl), (by have hh := H16.one 6 rfl; exact hh)⟩
        · skip
          refine W.skip (X.then_code ?_)
          refine W.pick [75, 74, 73, 72, 71, 70, 69, 68, 67, 66, 65, 64, 63, 12, 62, 61, 60, 59, 58, 57, 56, 55, 52, 51, 50, 49, 48, 47, 46, 11, 10, 9, 6, 5, 4, 3, 2] (Γ' := [(75, .bool (decide ((a.acc.getD (((ss.getD k st0).p).toNat) false) ≠ (b.acc.getD (((ss.getD k st0).q).toNat) false)))), (74, .bool (b.acc.getD (((ss.getD k st0).q).toNat) false)), (73, elemPtr (.slice bba b.acc.length bbc) (((ss.getD k st0).q).toNat)), (72, .int .i64 ((ss.getD k st0).q)), (71, .pointer (some ⟨w10.heap.size, 1, none⟩)), (70, .slice bba b.acc.length bbc), (69, .pointer (some ⟨w1.heap.size, 4, none⟩)), (68, .bool (a.acc.getD (((ss.getD k st0).p).toNat) false)), (67, elemPtr (.slice aba a.acc.length abc) (((ss.getD k st0).p).toNat)), (66, .int .i64 ((ss.getD k st0).p)), (65, .pointer (some ⟨w10.heap.size, 0, none⟩)), (64, .slice aba a.acc.length abc), (63, .pointer (some ⟨w.heap.size, 4, none⟩)), (12, .pointer (some ⟨w10.heap.size, 0, none⟩)), (62, .agg #[.int .i64 ((ss.getD k st0).p), .int .i64 ((ss.getD k st0).q)]), (61, elemPtr (.slice sa ss.length sc) (k * 4 + 0)), (60, elemPtr (.slice sa ss.length sc) (k * 4)), (59, .int .i64 ((k : Nat) : Int)), (58, .slice sa ss.length sc), (57, .pointer (some ⟨w7.heap.size, 10, none⟩)), (56, .pointer (some ⟨w7.heap.size, 0, none⟩)), (55, .pointer (some ⟨w7.heap.size, 0, none⟩)), (52, .bool (decide (((k : Nat) : Int) < ((ss.length : Nat) : Int)))), (51, .int .i64 ((ss.length : Nat) : Int)), (50, .slice sa ss.length sc), (49, .pointer (some ⟨w7.heap.size, 10, none⟩)), (48, .pointer (some ⟨w7.heap.size, 0, none⟩)), (47, .pointer (some ⟨w7.heap.size, 0, none⟩)), (46, .int .i64 ((k : Nat) : Int)), (11, .int .i64 ((k : Nat) : Int)), (10, .pointer (some ⟨w7.heap.size, 0, none⟩)), (9, .slice a2_2 ((firstsI (joinL a.cls b.cls) (joinN a.cls b.cls)).length) c2_2), (6, .int .i64 0), (5, .bool false), (4, .slice none 0 0), (3, .pointer (some ⟨w1.heap.size, 0, none⟩)), (2, .pointer (some ⟨w.heap.size, 0, none⟩))]) rfl ?_
          refine W.seq ?_
          refine W.region ?_
          refine WL.op rfl (d_move rfl ?_)
          refine WL.op rfl (d_lenS Try.underlying22 rfl ?_)
          refine WL.op rfl (d_move rfl ?_)
          refine WL.done (X.then_code ?_)
          refine W.pick [81, 80, 79, 75, 74, 73, 72, 71, 70, 69, 68, 67, 66, 65, 64, 63, 12, 62, 61, 60, 59, 58, 57, 56, 55, 52, 51, 50, 49, 48, 47, 46, 11, 10, 9, 6, 5, 4, 3, 2] (Γ' := [(81, .int .i64 0), (80, .int .i64 (((firstsI (joinL a.cls b.cls) (joinN a.cls b.cls)).length : Nat) : Int)), (79, .slice a2_2 ((firstsI (joinL a.cls b.cls) (joinN a.cls b.cls)).length) c2_2), (75, .bool (decide ((a.acc.getD (((ss.getD k st0).p).toNat) false) ≠ (b.acc.getD (((ss.getD k st0).q).toNat) false)))), (74, .bool (b.acc.getD (((ss.getD k st0).q).toNat) false)), (73, elemPtr (.slice bba b.acc.length bbc) (((ss.getD k st0).q).toNat)), (72, .int .i64 ((ss.getD k st0).q)), (71, .pointer (some ⟨w10.heap.size, 1, none⟩)), (70, .slice bba b.acc.length bbc), (69, .pointer (some ⟨w1.heap.size, 4, none⟩)), (68, .bool (a.acc.getD (((ss.getD k st0).p).toNat) false)), (67, elemPtr (.slice aba a.acc.length abc) (((ss.getD k st0).p).toNat)), (66, .int .i64 ((ss.getD k st0).p)), (65, .pointer (some ⟨w10.heap.size, 0, none⟩)), (64, .slice aba a.acc.length abc), (63, .pointer (some ⟨w.heap.size, 4, none⟩)), (12, .pointer (some ⟨w10.heap.size, 0, none⟩)), (62, .agg #[.int .i64 ((ss.getD k st0).p), .int .i64 ((ss.getD k st0).q)]), (61, elemPtr (.slice sa ss.length sc) (k * 4 + 0)), (60, elemPtr (.slice sa ss.length sc) (k * 4)), (59, .int .i64 ((k : Nat) : Int)), (58, .slice sa ss.length sc), (57, .pointer (some ⟨w7.heap.size, 10, none⟩)), (56, .pointer (some ⟨w7.heap.size, 0, none⟩)), (55, .pointer (some ⟨w7.heap.size, 0, none⟩)), (52, .bool (decide (((k : Nat) : Int) < ((ss.length : Nat) : Int)))), (51, .int .i64 ((ss.length : Nat) : Int)), (50, .slice sa ss.length sc), (49, .pointer (some ⟨w7.heap.size, 10, none⟩)), (48, .pointer (some ⟨w7.heap.size, 0, none⟩)), (47, .pointer (some ⟨w7.heap.size, 0, none⟩)), (46, .int .i64 ((k : Nat) : Int)), (11, .int .i64 ((k : Nat) : Int)), (10, .pointer (some ⟨w7.heap.size, 0, none⟩)), (9, .slice a2_2 ((firstsI (joinL a.cls b.cls) (joinN a.cls b.cls)).length) c2_2), (6, .int .i64 0), (5, .bool false), (4, .slice none 0 0), (3, .pointer (some ⟨w1.heap.size, 0, none⟩)), (2, .pointer (some ⟨w.heap.size, 0, none⟩))]) rfl ?_
          refine W.block ?_
          have hfl := firstsI_len (joinL a.cls b.cls) (joinN a.cls b.cls)
          have hkl : k < ss.length := by omega
          have htest : a.acc.getD (ss.getD k st0).p.toNat false = b.acc.getD (ss.getD k st0).q.toNat false := by simpa using c57
          refine W.pick [81, 80, 79, 75, 74, 73, 72, 71, 70, 69, 68, 67, 66, 65, 64, 63, 12, 62, 61, 60, 59, 58, 57, 56, 55, 52, 51, 50, 49, 48, 47, 46, 11, 10, 9, 6, 5, 4, 3, 2] (Γ' := [(81, .int .i64 0), (80, .int .i64 (((firstsI (joinL a.cls b.cls) (joinN a.cls b.cls)).length : Nat) : Int)), (79, .slice a2_2 ((firstsI (joinL a.cls b.cls) (joinN a.cls b.cls)).length) c2_2), (75, .bool (decide ((a.acc.getD (((ss.getD k st0).p).toNat) false) ≠ (b.acc.getD (((ss.getD k st0).q).toNat) false)))), (74, .bool (b.acc.getD (((ss.getD k st0).q).toNat) false)), (73, elemPtr (.slice bba b.acc.length bbc) (((ss.getD k st0).q).toNat)), (72, .int .i64 ((ss.getD k st0).q)), (71, .pointer (some ⟨w10.heap.size, 1, none⟩)), (70, .slice bba b.acc.length bbc), (69, .pointer (some ⟨w1.heap.size, 4, none⟩)), (68, .bool (a.acc.getD (((ss.getD k st0).p).toNat) false)), (67, elemPtr (.slice aba a.acc.length abc) (((ss.getD k st0).p).toNat)), (66, .int .i64 ((ss.getD k st0).p)), (65, .pointer (some ⟨w10.heap.size, 0, none⟩)), (64, .slice aba a.acc.length abc), (63, .pointer (some ⟨w.heap.size, 4, none⟩)), (12, .pointer (some ⟨w10.heap.size, 0, none⟩)), (62, .agg #[.int .i64 ((ss.getD k st0).p), .int .i64 ((ss.getD k st0).q)]), (61, elemPtr (.slice sa ss.length sc) (k * 4 + 0)), (60, elemPtr (.slice sa ss.length sc) (k * 4)), (59, .int .i64 ((k : Nat) : Int)), (58, .slice sa ss.length sc), (57, .pointer (some ⟨w7.heap.size, 10, none⟩)), (56, .pointer (some ⟨w7.heap.size, 0, none⟩)), (55, .pointer (some ⟨w7.heap.size, 0, none⟩)), (52, .bool (decide (((k : Nat) : Int) < ((ss.length : Nat) : Int)))), (51, .int .i64 ((ss.length : Nat) : Int)), (50, .slice sa ss.length sc), (49, .pointer (some ⟨w7.heap.size, 10, none⟩)), (48, .pointer (some ⟨w7.heap.size, 0, none⟩)), (47, .pointer (some ⟨w7.heap.size, 0, none⟩)), (46, .int .i64 ((k : Nat) : Int)), (11, .int .i64 ((k : Nat) : Int)), (10, .pointer (some ⟨w7.heap.size, 0, none⟩)), (9, .slice a2_2 ((firstsI (joinL a.cls b.cls) (joinN a.cls b.cls)).length) c2_2), (6, .int .i64 0), (5, .bool false), (4, .slice none 0 0), (3, .pointer (some ⟨w1.heap.size, 0, none⟩)), (2, .pointer (some ⟨w.heap.size, 0, none⟩))]) rfl ?_
          refine W.loop (fun m Γ' w' => ∃ j : Nat, ∃ tt : List St4, ∃ ta : Option Addr, ∃ tc : Nat, ∃ mj : List ((Int × Int) × Int), Γ' = [(81, .int .i64 ((j : Nat) : Int)), (80, .int .i64 (((firstsI (joinL a.cls b.cls) (joinN a.cls b.cls)).length : Nat) : Int)), (79, .slice a2_2 ((firstsI (joinL a.cls b.cls) (joinN a.cls b.cls)).length) c2_2), (75, .bool (decide ((a.acc.getD (((ss.getD k st0).p).toNat) false) ≠ (b.acc.getD (((ss.getD k st0).q).toNat) false)))), (74, .bool (b.acc.getD (((ss.getD k st0).q).toNat) false)), (73, elemPtr (.slice bba b.acc.length bbc) (((ss.getD k st0).q).toNat)), (72, .int .i64 ((ss.getD k st0).q)), (71, .pointer (some ⟨w10.heap.size, 1, none⟩)), (70, .slice bba b.acc.length bbc), (69, .pointer (some ⟨w1.heap.size, 4, none⟩)), (68, .bool (a.acc.getD (((ss.getD k st0).p).toNat) false)), (67, elemPtr (.slice aba a.acc.length abc) (((ss.getD k st0).p).toNat)), (66, .int .i64 ((ss.getD k st0).p)), (65, .pointer (some ⟨w10.heap.size, 0, none⟩)), (64, .slice aba a.acc.length abc), (63, .pointer (some ⟨w.heap.size, 4, none⟩)), (12, .pointer (some ⟨w10.heap.size, 0, none⟩)), (62, .agg #[.int .i64 ((ss.getD k st0).p), .int .i64 ((ss.getD k st0).q)]), (61, elemPtr (.slice sa ss.length sc) (k * 4 + 0)), (60, elemPtr (.slice sa ss.length sc) (k * 4)), (59, .int .i64 ((k : Nat) : Int)), (58, .slice sa ss.length sc), (57, .pointer (some ⟨w7.heap.size, 10, none⟩)), (56, .pointer (some ⟨w7.heap.size, 0, none⟩)), (55, .pointer (some ⟨w7.heap.size, 0, none⟩)), (52, .bool (decide (((k : Nat) : Int) < ((ss.length : Nat) : Int)))), (51, .int .i64 ((ss.length : Nat) : Int)), (50, .slice sa ss.length sc), (49, .pointer (some ⟨w7.heap.size, 10, none⟩)), (48, .pointer (some ⟨w7.heap.size, 0, none⟩)), (47, .pointer (some ⟨w7.heap.size, 0, none⟩)), (46, .int .i64 ((k : Nat) : Int)), (11, .int .i64 ((k : Nat) : Int)), (10, .pointer (some ⟨w7.heap.size, 0, none⟩)), (9, .slice a2_2 ((firstsI (joinL a.cls b.cls) (joinN a.cls b.cls)).length) c2_2), (6, .int .i64 0), (5, .bool false), (4, .slice none 0 0), (3, .pointer (some ⟨w1.heap.size, 0, none⟩)), (2, .pointer (some ⟨w.heap.size, 0, none⟩))] ∧ UpG w [] w' [[blk w7.heap.size #[(.slice aca a.cls.length acc), (.int .i64 a.width), (.int .i64 a.start), (.slice ana a.next.length anc), (.slice aba a.acc.length abc), (.slice bca b.cls.length bcc), (.int .i64 b.width), (.int .i64 b.start), (.slice bna b.next.length bnc), (.slice bba b.acc.length bbc), .slice ta tt.length tc, .map (some w6.heap.size)] 102, rowT tySt (.slice ta tt.length tc) 107 tt, mapC encP (fun a : Int => .int .i64 a) w6.heap.size mj], [blk w.heap.size #[.slice aca a.cls.length acc, .int .i64 a.width, .int .i64 a.start, .slice ana a.next.length anc, .slice aba a.acc.length abc] 25], [blk w1.heap.size #[.slice bca b.cls.length bcc, .int .i64 b.width, .int .i64 b.start, .slice bna b.next.length bnc, .slice bba b.acc.length bbc] 25], [rowT (tyI .i64) (.slice a2_1 ((joinL a.cls b.cls).length) c2_1) 3 (joinL a.cls b.cls)], [rowT (tyI .i64) (.slice a2_2 ((firstsI (joinL a.cls b.cls) (joinN a.cls b.cls)).length) c2_2) 3 (firstsI (joinL a.cls b.cls) (joinN a.cls b.cls))], [blk w10.heap.size #[.int .i64 ((ss.getD k st0).p), .int .i64 ((ss.getD k st0).q)] 105]] ∧ (j ≤ (firstsI (joinL a.cls b.cls) (joinN a.cls b.cls)).length) ∧ (tt = ((firstsAB a b).take j).foldl (addS a b (ss.getD k st0) k) ss) ∧ (StI a b tt k) ∧ (MapInv mj tt) ∧ m = (firstsI (joinL a.cls b.cls) (joinN a.cls b.cls)).length - j) ((firstsI (joinL a.cls b.cls) (joinN a.cls b.cls)).length - 0) ⟨0, ss, sa, sc, mm, rfl, H15, (by first | assumption | omega | simp), (by rfl), (by exact hI), (by exact hM), rfl⟩ ?_
          rintro m2 Γ2 w15 ⟨j, tt, ta, tc, mj, rfl, H17, hj, hF, hJ, hMj, rfl⟩
          refine W.seq ?_
          refine W.region ?_
          refine WL.op rfl (d_cmp (decide (((j : Nat) : Int) < (((firstsI (joinL a.cls b.cls) (joinN a.cls b.cls)).length : Nat) : Int))) rfl rfl rfl ?_)
          refine WL.done (X.then_code ?_)
          refine W.pick [82, 81, 80, 79, 75, 74, 73, 72, 71, 70, 69, 68, 67, 66, 65, 64, 63, 12, 62, 61, 60, 59, 58, 57, 56, 55, 52, 51, 50, 49, 48, 47, 46, 11, 10, 9, 6, 5, 4, 3, 2] (Γ' := [(82, .bool (decide (((j : Nat) : Int) < (((firstsI (joinL a.cls b.cls) (joinN a.cls b.cls)).length : Nat) : Int)))), (81, .int .i64 ((j : Nat) : Int)), (80, .int .i64 (((firstsI (joinL a.cls b.cls) (joinN a.cls b.cls)).length : Nat) : Int)), (79, .slice a2_2 ((firstsI (joinL a.cls b.cls) (joinN a.cls b.cls)).length) c2_2), (75, .bool (decide ((a.acc.getD (((ss.getD k st0).p).toNat) false) ≠ (b.acc.getD (((ss.getD k st0).q).toNat) false)))), (74, .bool (b.acc.getD (((ss.getD k st0).q).toNat) false)), (73, elemPtr (.slice bba b.acc.length bbc) (((ss.getD k st0).q).toNat)), (72, .int .i64 ((ss.getD k st0).q)), (71, .pointer (some ⟨w10.heap.size, 1, none⟩)), (70, .slice bba b.acc.length bbc), (69, .pointer (some ⟨w1.heap.size, 4, none⟩)), (68, .bool (a.acc.getD (((ss.getD k st0).p).toNat) false)), (67, elemPtr (.slice aba a.acc.length abc) (((ss.getD k st0).p).toNat)), (66, .int .i64 ((ss.getD k st0).p)), (65, .pointer (some ⟨w10.heap.size, 0, none⟩)), (64, .slice aba a.acc.length abc), (63, .pointer (some ⟨w.heap.size, 4, none⟩)), (12, .pointer (some ⟨w10.heap.size, 0, none⟩)), (62, .agg #[.int .i64 ((ss.getD k st0).p), .int .i64 ((ss.getD k st0).q)]), (61, elemPtr (.slice sa ss.length sc) (k * 4 + 0)), (60, elemPtr (.slice sa ss.length sc) (k * 4)), (59, .int .i64 ((k : Nat) : Int)), (58, .slice sa ss.length sc), (57, .pointer (some ⟨w7.heap.size, 10, none⟩)), (56, .pointer (some ⟨w7.heap.size, 0, none⟩)), (55, .pointer (some ⟨w7.heap.size, 0, none⟩)), (52, .bool (decide (((k : Nat) : Int) < ((ss.length : Nat) : Int)))), (51, .int .i64 ((ss.length : Nat) : Int)), (50, .slice sa ss.length sc), (49, .pointer (some ⟨w7.heap.size, 10, none⟩)), (48, .pointer (some ⟨w7.heap.size, 0, none⟩)), (47, .pointer (some ⟨w7.heap.size, 0, none⟩)), (46, .int .i64 ((k : Nat) : Int)), (11, .int .i64 ((k : Nat) : Int)), (10, .pointer (some ⟨w7.heap.size, 0, none⟩)), (9, .slice a2_2 ((firstsI (joinL a.cls b.cls) (joinN a.cls b.cls)).length) c2_2), (6, .int .i64 0), (5, .bool false), (4, .slice none 0 0), (3, .pointer (some ⟨w1.heap.size, 0, none⟩)), (2, .pointer (some ⟨w.heap.size, 0, none⟩))]) rfl ?_
          refine W.seq ?_
          refine W.ite (p := ((j : Nat) : Int) < (((firstsI (joinL a.cls b.cls) (joinN a.cls b.cls)).length : Nat) : Int)) rfl (fun c60 => ?_) (fun c60 => ?_)
          · skip
            refine W.skip (X.then_code ?_)
            refine W.pick [82, 81, 80, 79, 75, 74, 73, 72, 71, 70, 69, 68, 67, 66, 65, 64, 63, 12, 62, 61, 60, 59, 58, 57, 56, 55, 52, 51, 50, 49, 48, 47, 46, 11, 10, 9, 6, 5, 4, 3, 2] (Γ' := [(82, .bool (decide (((j : Nat) : Int) < (((firstsI (joinL a.cls b.cls) (joinN a.cls b.cls)).length : Nat) : Int)))), (81, .int .i64 ((j : Nat) : Int)), (80, .int .i64 (((firstsI (joinL a.cls b.cls) (joinN a.cls b.cls)).length : Nat) : Int)), (79, .slice a2_2 ((firstsI (joinL a.cls b.cls) (joinN a.cls b.cls)).length) c2_2), (75, .bool (decide ((a.acc.getD (((ss.getD k st0).p).toNat) false) ≠ (b.acc.getD (((ss.getD k st0).q).toNat) false)))), (74, .bool (b.acc.getD (((ss.getD k st0).q).toNat) false)), (73, elemPtr (.slice bba b.acc.length bbc) (((ss.getD k st0).q).toNat)), (72, .int .i64 ((ss.getD k st0).q)), (71, .pointer (some ⟨w10.heap.size, 1, none⟩)), (70, .slice bba b.acc.length bbc), (69, .pointer (some ⟨w1.heap.size, 4, none⟩)), (68, .bool (a.acc.getD (((ss.getD k st0).p).toNat) false)), (67, elemPtr (.slice aba a.acc.length abc) (((ss.getD k st0).p).toNat)), (66, .int .i64 ((ss.getD k st0).p)), (65, .pointer (some ⟨w10.heap.size, 0, none⟩)), (64, .slice aba a.acc.length abc), (63, .pointer (some ⟨w.heap.size, 4, none⟩)), (12, .pointer (some ⟨w10.heap.size, 0, none⟩)), (62, .agg #[.int .i64 ((ss.getD k st0).p), .int .i64 ((ss.getD k st0).q)]), (61, elemPtr (.slice sa ss.length sc) (k * 4 + 0)), (60, elemPtr (.slice sa ss.length sc) (k * 4)), (59, .int .i64 ((k : Nat) : Int)), (58, .slice sa ss.length sc), (57, .pointer (some ⟨w7.heap.size, 10, none⟩)), (56, .pointer (some ⟨w7.heap.size, 0, none⟩)), (55, .pointer (some ⟨w7.heap.size, 0, none⟩)), (52, .bool (decide (((k : Nat) : Int) < ((ss.length : Nat) : Int)))), (51, .int .i64 ((ss.length : Nat) : Int)), (50, .slice sa ss.length sc), (49, .pointer (some ⟨w7.heap.size, 10, none⟩)), (48, .pointer (some ⟨w7.heap.size, 0, none⟩)), (47, .pointer (some ⟨w7.heap.size, 0, none⟩)), (46, .int .i64 ((k : Nat) : Int)), (11, .int .i64 ((k : Nat) : Int)), (10, .pointer (some ⟨w7.heap.size, 0, none⟩)), (9, .slice a2_2 ((firstsI (joinL a.cls b.cls) (joinN a.cls b.cls)).length) c2_2), (6, .int .i64 0), (5, .bool false), (4, .slice none 0 0), (3, .pointer (some ⟨w1.heap.size, 0, none⟩)), (2, .pointer (some ⟨w.heap.size, 0, none⟩))]) rfl ?_
            refine W.seq ?_
            refine W.block ?_
            refine W.seq ?_
            refine W.region ?_
            refine WL.op rfl (t_addr1 j (T := (tyI .i64)) rfl Try.underlying22 sz3 rfl rfl (H17.rdT 4 rfl) rfl (by omega) ?_)
            refine WL.op rfl (t_load1 j 0 (T := (tyI .i64)) rfl Try.underlying3 rfl rfl (H17.rdT 4 rfl) (by omega) rfl ?_)
            refine WL.op rfl (d_assign rfl ?_)
            refine WL.done (X.then_code ?_)
            refine W.pick [14, 84, 83, 82, 81, 80, 79, 75, 74, 73, 72, 71, 70, 69, 68, 67, 66, 65, 64, 63, 12, 62, 61, 60, 59, 58, 57, 56, 55, 52, 51, 50, 49, 48, 47, 46, 11, 10, 9, 6, 5, 4, 3, 2] (Γ' := [(14, .int .i64 ((firstsI (joinL a.cls b.cls) (joinN a.cls b.cls)).getD j 0)), (84, .int .i64 ((firstsI (joinL a.cls b.cls) (joinN a.cls b.cls)).getD j 0)), (83, elemPtr (.slice a2_2 ((firstsI (joinL a.cls b.cls) (joinN a.cls b.cls)).length) c2_2) j), (82, .bool (decide (((j : Nat) : Int) < (((firstsI (joinL a.cls b.cls) (joinN a.cls b.cls)).length : Nat) : Int)))), (81, .int .i64 ((j : Nat) : Int)), (80, .int .i64 (((firstsI (joinL a.cls b.cls) (joinN a.cls b.cls)).length : Nat) : Int)), (79, .slice a2_2 ((firstsI (joinL a.cls b.cls) (joinN a.cls b.cls)).length) c2_2), (75, .bool (decide ((a.acc.getD (((ss.getD k st0).p).toNat) false) ≠ (b.acc.getD (((ss.getD k st0).q).toNat) false)))), (74, .bool (b.acc.getD (((ss.getD k st0).q).toNat) false)), (73, elemPtr (.slice bba b.acc.length bbc) (((ss.getD k st0).q).toNat)), (72, .int .i64 ((ss.getD k st0).q)), (71, .pointer (some ⟨w10.heap.size, 1, none⟩)), (70, .slice bba b.acc.length bbc), (69, .pointer (some ⟨w1.heap.size, 4, none⟩)), (68, .bool (a.acc.getD (((ss.getD k st0).p).toNat) false)), (67, elemPtr (.slice aba a.acc.length abc) (((ss.getD k st0).p).toNat)), (66, .int .i64 ((ss.getD k st0).p)), (65, .pointer (some ⟨w10.heap.size, 0, none⟩)), (64, .slice aba a.acc.length abc), (63, .pointer (some ⟨w.heap.size, 4, none⟩)), (12, .pointer (some ⟨w10.heap.size, 0, none⟩)), (62, .agg #[.int .i64 ((ss.getD k st0).p), .int .i64 ((ss.getD k st0).q)]), (61, elemPtr (.slice sa ss.length sc) (k * 4 + 0)), (60, elemPtr (.slice sa ss.length sc) (k * 4)), (59, .int .i64 ((k : Nat) : Int)), (58, .slice sa ss.length sc), (57, .pointer (some ⟨w7.heap.size, 10, none⟩)), (56, .pointer (some ⟨w7.heap.size, 0, none⟩)), (55, .pointer (some ⟨w7.heap.size, 0, none⟩)), (52, .bool (decide (((k : Nat) : Int) < ((ss.length : Nat) : Int)))), (51, .int .i64 ((ss.length : Nat) : Int)), (50, .slice sa ss.length sc), (49, .pointer (some ⟨w7.heap.size, 10, none⟩)), (48, .pointer (some ⟨w7.heap.size, 0, none⟩)), (47, .pointer (some ⟨w7.heap.size, 0, none⟩)), (46, .int .i64 ((k : Nat) : Int)), (11, .int .i64 ((k : Nat) : Int)), (10, .pointer (some ⟨w7.heap.size, 0, none⟩)), (9, .slice a2_2 ((firstsI (joinL a.cls b.cls) (joinN a.cls b.cls)).length) c2_2), (6, .int .i64 0), (5, .bool false), (4, .slice none 0 0), (3, .pointer (some ⟨w1.heap.size, 0, none⟩)), (2, .pointer (some ⟨w.heap.size, 0, none⟩))]) rfl ?_
            have hsy : 0 ≤ (firstsAB a b).getD j 0 ∧ (firstsAB a b).getD j 0 < 259 := hfs _ (getD_mem' (by unfold firstsAB; omega))
            have hsy2 : 0 ≤ (firstsI (joinL a.cls b.cls) (joinN a.cls b.cls)).getD j 0 ∧ (firstsI (joinL a.cls b.cls) (joinN a.cls b.cls)).getD j 0 < 259 := hsy
            have sa1 := right_sym hra hsy2.1 hsy2.2
            have sb1 := right_sym hrb hsy2.1 hsy2.2
            have ia1 := right_idx hra hra1.1 hra1.2 sa1.2.1 sa1.2.2.1
            have ib1 := right_idx hrb hrb1.1 hrb1.2 sb1.2.1 sb1.2.2.1
            have hub : tt.length ≤ 4096 * 4096 := Nat.le_trans hJ.bound (Nat.mul_le_mul (by omega) (by omega))
            refine W.regionD mixed (by kernel_rfl) fun hok2 w16 k2 => ?_
            have H18 : UpG w [] w16 [[blk w7.heap.size #[(.slice aca a.cls.length acc), (.int .i64 a.width), (.int .i64 a.start), (.slice ana a.next.length anc), (.slice aba a.acc.length abc), (.slice bca b.cls.length bcc), (.int .i64 b.width), (.int .i64 b.start), (.slice bna b.next.length bnc), (.slice bba b.acc.length bbc), .slice ta tt.length tc, .map (some w6.heap.size)] 102, rowT tySt (.slice ta tt.length tc) 107 tt, mapC encP (fun a : Int => .int .i64 a) w6.heap.size mj], [blk w.heap.size #[.slice aca a.cls.length acc, .int .i64 a.width, .int .i64 a.start, .slice ana a.next.length anc, .slice aba a.acc.length abc] 25], [blk w1.heap.size #[.slice bca b.cls.length bcc, .int .i64 b.width, .int .i64 b.start, .slice bna b.next.length bnc, .slice bba b.acc.length bbc] 25], [rowT (tyI .i64) (.slice a2_1 ((joinL a.cls b.cls).length) c2_1) 3 (joinL a.cls b.cls)], [rowT (tyI .i64) (.slice a2_2 ((firstsI (joinL a.cls b.cls) (joinN a.cls b.cls)).length) c2_2) 3 (firstsI (joinL a.cls b.cls) (joinN a.cls b.cls))], [blk w10.heap.size #[.int .i64 ((ss.getD k st0).p), .int .i64 ((ss.getD k st0).q)] 105]] := H17.kept k2
            refine WD.take hok2 0 (.pointer (some ⟨w7.heap.size, 0, none⟩)) (fun _ => True) rfl rfl rfl rfl rfl trivial (.inl ⟨rfl, fun _ _ => d_move rfl ⟨rfl, rfl⟩⟩) ?_
            refine WD.take hok2 1 (.pointer (some ⟨w.heap.size, 3, none⟩)) (fun _ => True) rfl rfl rfl rfl rfl trivial (.inl ⟨rfl, fun _ _ => d_fieldAddrB fld25_3 rfl rfl ⟨rfl, rfl⟩⟩) ?_
            refine WD.take hok2 2 (.slice ana a.next.length anc) (fun w' => w'.heap[w.heap.size]? = some (.cells #[.slice aca a.cls.length acc, .int .i64 a.width, .int .i64 a.start, .slice ana a.next.length anc, .slice aba a.acc.length abc] 25 (0, 0))) rfl rfl rfl rfl rfl (H18.blk 1 rfl) (.inl ⟨rfl, fun _ hC => d_loadB Try.underlying22 rfl rfl hC rfl ⟨rfl, rfl⟩⟩) ?_
            refine WD.take hok2 3 (.pointer (some ⟨w10.heap.size, 0, none⟩)) (fun _ => True) rfl rfl rfl rfl rfl trivial (.inl ⟨rfl, fun _ _ => d_fieldAddrB fld105_0 rfl rfl ⟨rfl, rfl⟩⟩) ?_
            refine WD.take hok2 4 (.int .i64 ((ss.getD k st0).p)) (fun w' => w'.heap[w10.heap.size]? = some (.cells #[.int .i64 ((ss.getD k st0).p), .int .i64 ((ss.getD k st0).q)] 105 (0, 0))) rfl rfl rfl rfl rfl (H18.blk 5 rfl) (.inl ⟨rfl, fun _ hC => d_loadB Try.underlying3 rfl rfl hC rfl ⟨rfl, rfl⟩⟩) ?_
            refine WD.take hok2 5 (.pointer (some ⟨w.heap.size, 1, none⟩)) (fun _ => True) rfl rfl rfl rfl rfl trivial (.inl ⟨rfl, fun _ _ => d_fieldAddrB fld25_1 rfl rfl ⟨rfl, rfl⟩⟩) ?_
            refine WD.take hok2 6 (.int .i64 a.width) (fun w' => w'.heap[w.heap.size]? = some (.cells #[.slice aca a.cls.length acc, .int .i64 a.width, .int .i64 a.start, .slice ana a.next.length anc, .slice aba a.acc.length abc] 25 (0, 0))) rfl rfl rfl rfl rfl (H18.blk 1 rfl) (.inl ⟨rfl, fun _ hC => d_loadB Try.underlying3 rfl rfl hC rfl ⟨rfl, rfl⟩⟩) ?_
            refine WD.take hok2 7 (.int .i64 (((ss.getD k st0).p) * a.width)) (fun _ => True) rfl rfl rfl rfl rfl trivial (.inl ⟨rfl, fun _ _ => d_mul rfl rfl (by omega) (by omega) ⟨rfl, rfl⟩⟩) ?_
            refine WD.take hok2 8 (.pointer (some ⟨w.heap.size, 0, none⟩)) (fun _ => True) rfl rfl rfl rfl rfl trivial (.inl ⟨rfl, fun _ _ => d_fieldAddrB fld25_0 rfl rfl ⟨rfl, rfl⟩⟩) ?_
            refine WD.take hok2 9 (.slice aca a.cls.length acc) (fun w' => w'.heap[w.heap.size]? = some (.cells #[.slice aca a.cls.length acc, .int .i64 a.width, .int .i64 a.start, .slice ana a.next.length anc, .slice aba a.acc.length abc] 25 (0, 0))) rfl rfl rfl rfl rfl (H18.blk 1 rfl) (.inl ⟨rfl, fun _ hC => d_loadB Try.underlying22 rfl rfl hC rfl ⟨rfl, rfl⟩⟩) ?_
            refine WD.take hok2 10 (.int .i64 ((firstsI (joinL a.cls b.cls) (joinN a.cls b.cls)).getD j 0)) (fun _ => True) rfl rfl rfl rfl rfl trivial (.inl ⟨rfl, fun _ _ => d_move rfl ⟨rfl, rfl⟩⟩) ?_
            refine WD.take hok2 11 (elemPtr (.slice aca a.cls.length acc) (((firstsI (joinL a.cls b.cls) (joinN a.cls b.cls)).getD j 0).toNat)) (fun w' => RdT (tyI .i64) w' (.slice aca a.cls.length acc) a.cls) rfl rfl rfl rfl rfl (rca.at H18) (.inl ⟨rfl, fun _ hC => t_addr1 (((firstsI (joinL a.cls b.cls) (joinN a.cls b.cls)).getD j 0).toNat) (T := (tyI .i64)) rfl Try.underlying22 sz3 rfl rfl hC (by omega) (by omega) ⟨rfl, rfl⟩⟩) ?_
            refine WD.take hok2 12 (.int .i64 (a.cls.getD (((firstsI (joinL a.cls b.cls) (joinN a.cls b.cls)).getD j 0).toNat) 0)) (fun w' => RdT (tyI .i64) w' (.slice aca a.cls.length acc) a.cls) rfl rfl rfl rfl rfl (rca.at H18) (.inl ⟨rfl, fun _ hC => t_load1 (((firstsI (joinL a.cls b.cls) (joinN a.cls b.cls)).getD j 0).toNat) 0 (T := (tyI .i64)) rfl Try.underlying3 rfl rfl hC (by omega) rfl ⟨rfl, rfl⟩⟩) ?_
            refine WD.take hok2 13 (.int .i64 ((((ss.getD k st0).p) * a.width) + (a.cls.getD (((firstsI (joinL a.cls b.cls) (joinN a.cls b.cls)).getD j 0).toNat) 0))) (fun _ => True) rfl rfl rfl rfl rfl trivial (.inl ⟨rfl, fun _ _ => d_add rfl rfl (by omega) (by omega) ⟨rfl, rfl⟩⟩) ?_
            refine WD.take hok2 14 (elemPtr (.slice ana a.next.length anc) (((((ss.getD k st0).p) * a.width) + (a.cls.getD (((firstsI (joinL a.cls b.cls) (joinN a.cls b.cls)).getD j 0).toNat) 0)).toNat)) (fun w' => RdT (tyI .i64) w' (.slice ana a.next.length anc) a.next) rfl rfl rfl rfl rfl (rna.at H18) (.inl ⟨rfl, fun _ hC => t_addr1 (((((ss.getD k st0).p) * a.width) + (a.cls.getD (((firstsI (joinL a.cls b.cls) (joinN a.cls b.cls)).getD j 0).toNat) 0)).toNat) (T := (tyI .i64)) rfl Try.underlying22 sz3 rfl rfl hC (by omega) (by omega) ⟨rfl, rfl⟩⟩) ?_
            refine WD.take hok2 15 (.int .i64 (a.next.getD (((((ss.getD k st0).p) * a.width) + (a.cls.getD (((firstsI (joinL a.cls b.cls) (joinN a.cls b.cls)).getD j 0).toNat) 0)).toNat) 0)) (fun w' => RdT (tyI .i64) w' (.slice ana a.next.length anc) a.next) rfl rfl rfl rfl rfl (rna.at H18) (.inl ⟨rfl, fun _ hC => t_load1 (((((ss.getD k st0).p) * a.width) + (a.cls.getD (((firstsI (joinL a.cls b.cls) (joinN a.cls b.cls)).getD j 0).toNat) 0)).toNat) 0 (T := (tyI .i64)) rfl Try.underlying3 rfl rfl hC (by omega) rfl ⟨rfl, rfl⟩⟩) ?_
            refine WD.take hok2 16 (.pointer (some ⟨w1.heap.size, 3, none⟩)) (fun _ => True) rfl rfl rfl rfl rfl trivial (.inl ⟨rfl, fun _ _ => d_fieldAddrB fld25_3 rfl rfl ⟨rfl, rfl⟩⟩) ?_
            refine WD.take hok2 17 (.slice bna b.next.length bnc) (fun w' => w'.heap[w1.heap.size]? = some (.cells #[.slice bca b.cls.length bcc, .int .i64 b.width, .int .i64 b.start, .slice bna b.next.length bnc, .slice bba b.acc.length bbc] 25 (0, 0))) rfl rfl rfl rfl rfl (H18.blk 2 rfl) (.inl ⟨rfl, fun _ hC => d_loadB Try.underlying22 rfl rfl hC rfl ⟨rfl, rfl⟩⟩) ?_
            refine WD.take hok2 18 (.pointer (some ⟨w10.heap.size, 1, none⟩)) (fun _ => True) rfl rfl rfl rfl rfl trivial (.inl ⟨rfl, fun _ _ => d_fieldAddrB fld105_1 rfl rfl ⟨rfl, rfl⟩⟩) ?_
            refine WD.take hok2 19 (.int .i64 ((ss.getD k st0).q)) (fun w' => w'.heap[w10.heap.size]? = some (.cells #[.int .i64 ((ss.getD k st0).p), .int .i64 ((ss.getD k st0).q)] 105 (0, 0))) rfl rfl rfl rfl rfl (H18.blk 5 rfl) (.inl ⟨rfl, fun _ hC => d_loadB Try.underlying3 rfl rfl hC rfl ⟨rfl, rfl⟩⟩) ?_
            refine WD.take hok2 20 (.pointer (some ⟨w1.heap.size, 1, none⟩)) (fun _ => True) rfl rfl rfl rfl rfl trivial (.inl ⟨rfl, fun _ _ => d_fieldAddrB fld25_1 rfl rfl ⟨rfl, rfl⟩⟩) ?_
            refine WD.take hok2 21 (.int .i64 b.width) (fun w' => w'.heap[w1.heap.size]? = some (.cells #[.slice bca b.cls.length bcc, .int .i64 b.width, .int .i64 b.start, .slice bna b.next.length bnc, .slice bba b.acc.length bbc] 25 (0, 0))) rfl rfl rfl rfl rfl (H18.blk 2 rfl) (.inl ⟨rfl, fun _ hC => d_loadB Try.underlying3 rfl rfl hC rfl ⟨rfl, rfl⟩⟩) ?_
            refine WD.take hok2 22 (.int .i64 (((ss.getD k st0).q) * b.width)) (fun _ => True) rfl rfl rfl rfl rfl trivial (.inl ⟨rfl, fun _ _ => d_mul rfl rfl (by omega) (by omega) ⟨rfl, rfl⟩⟩) ?_
            refine WD.take hok2 23 (.pointer (some ⟨w1.heap.size, 0, none⟩)) (fun _ => True) rfl rfl rfl rfl rfl trivial (.inl ⟨rfl, fun _ _ => d_fieldAddrB fld25_0 rfl rfl ⟨rfl, rfl⟩⟩) ?_
            refine WD.take hok2 24 (.slice bca b.cls.length bcc) (fun w' => w'.heap[w1.heap.size]? = some (.cells #[.slice bca b.cls.length bcc, .int .i64 b.width, .int .i64 b.start, .slice bna b.next.length bnc, .slice bba b.acc.length bbc] 25 (0, 0))) rfl rfl rfl rfl rfl (H18.blk 2 rfl) (.inl ⟨rfl, fun _ hC => d_loadB Try.underlying22 rfl rfl hC rfl ⟨rfl, rfl⟩⟩) ?_
            refine WD.take hok2 25 (.int .i64 ((firstsI (joinL a.cls b.cls) (joinN a.cls b.cls)).getD j 0)) (fun _ => True) rfl rfl rfl rfl rfl trivial (.inl ⟨rfl, fun _ _ => d_move rfl ⟨rfl, rfl⟩⟩) ?_
            refine WD.take hok2 26 (elemPtr (.slice bca b.cls.length bcc) (((firstsI (joinL a.cls b.cls) (joinN a.cls b.cls)).getD j 0).toNat)) (fun w' => RdT (tyI .i64) w' (.slice bca b.cls.length bcc) b.cls) rfl rfl rfl rfl rfl (rcb.at H18) (.inl ⟨rfl, fun _ hC => t_addr1 (((firstsI (joinL a.cls b.cls) (joinN a.cls b.cls)).getD j 0).toNat) (T := (tyI .i64)) rfl Try.underlying22 sz3 rfl rfl hC (by omega) (by omega) ⟨rfl, rfl⟩⟩) ?_
            refine WD.take hok2 27 (.int .i64 (b.cls.getD (((firstsI (joinL a.cls b.cls) (joinN a.cls b.cls)).getD j 0).toNat) 0)) (fun w' => RdT (tyI .i64) w' (.slice bca b.cls.length bcc) b.cls) rfl rfl rfl rfl rfl (rcb.at H18) (.inl ⟨rfl, fun _ hC => t_load1 (((firstsI (joinL a.cls b.cls) (joinN a.cls b.cls)).getD j 0).toNat) 0 (T := (tyI .i64)) rfl Try.underlying3 rfl rfl hC (by omega) rfl ⟨rfl, rfl⟩⟩) ?_
            refine WD.take hok2 28 (.int .i64 ((((ss.getD k st0).q) * b.width) + (b.cls.getD (((firstsI (joinL a.cls b.cls) (joinN a.cls b.cls)).getD j 0).toNat) 0))) (fun _ => True) rfl rfl rfl rfl rfl trivial (.inl ⟨rfl, fun _ _ => d_add rfl rfl (by omega) (by omega) ⟨rfl, rfl⟩⟩) ?_
            refine WD.take hok2 29 (elemPtr (.slice bna b.next.length bnc) (((((ss.getD k st0).q) * b.width) + (b.cls.getD (((firstsI (joinL a.cls b.cls) (joinN a.cls b.cls)).getD j 0).toNat) 0)).toNat)) (fun w' => RdT (tyI .i64) w' (.slice bna b.next.length bnc) b.next) rfl rfl rfl rfl rfl (rnb.at H18) (.inl ⟨rfl, fun _ hC => t_addr1 (((((ss.getD k st0).q) * b.width) + (b.cls.getD (((firstsI (joinL a.cls b.cls) (joinN a.cls b.cls)).getD j 0).toNat) 0)).toNat) (T := (tyI .i64)) rfl Try.underlying22 sz3 rfl rfl hC (by omega) (by omega) ⟨rfl, rfl⟩⟩) ?_
            refine WD.take hok2 30 (.int .i64 (b.next.getD (((((ss.getD k st0).q) * b.width) + (b.cls.getD (((firstsI (joinL a.cls b.cls) (joinN a.cls b.cls)).getD j 0).toNat) 0)).toNat) 0)) (fun w' => RdT (tyI .i64) w' (.slice bna b.next.length bnc) b.next) rfl rfl rfl rfl rfl (rnb.at H18) (.inl ⟨rfl, fun _ hC => t_load1 (((((ss.getD k st0).q) * b.width) + (b.cls.getD (((firstsI (joinL a.cls b.cls) (joinN a.cls b.cls)).getD j 0).toNat) 0)).toNat) 0 (T := (tyI .i64)) rfl Try.underlying3 rfl rfl hC (by omega) rfl ⟨rfl, rfl⟩⟩) ?_
            refine WD.take hok2 31 (.agg #[.int .i64 (a.next.getD (((((ss.getD k st0).p) * a.width) + (a.cls.getD (((firstsI (joinL a.cls b.cls) (joinN a.cls b.cls)).getD j 0).toNat) 0)).toNat) 0), .int .i64 (b.next.getD (((((ss.getD k st0).q) * b.width) + (b.cls.getD (((firstsI (joinL a.cls b.cls) (joinN a.cls b.cls)).getD j 0).toNat) 0)).toNat) 0)]) (fun _ => True) rfl rfl rfl rfl rfl trivial (.inl ⟨rfl, fun _ _ => d_build (cs := #[.int .i64 (a.next.getD (((((ss.getD k st0).p) * a.width) + (a.cls.getD (((firstsI (joinL a.cls b.cls) (joinN a.cls b.cls)).getD j 0).toNat) 0)).toNat) 0), .int .i64 (b.next.getD (((((ss.getD k st0).q) * b.width) + (b.cls.getD (((firstsI (joinL a.cls b.cls) (joinN a.cls b.cls)).getD j 0).toNat) 0)).toNat) 0)]) rfl (by kernel_rfl) ⟨rfl, rfl⟩⟩) ?_
            refine WD.take hok2 32 (.int .i64 ((k : Nat) : Int)) (fun _ => True) rfl rfl rfl rfl rfl trivial (.inl ⟨rfl, fun _ _ => d_move rfl ⟨rfl, rfl⟩⟩) ?_
            refine WD.take hok2 33 (.int .i64 ((firstsI (joinL a.cls b.cls) (joinN a.cls b.cls)).getD j 0)) (fun _ => True) rfl rfl rfl rfl rfl trivial (.inl ⟨rfl, fun _ _ => d_move rfl ⟨rfl, rfl⟩⟩) ?_
            refine WD.loud hok2 34 rfl (⟨_, [], rfl, rfl, rfl, rfl, rfl, rfl, d_call ok79 rfl (Ret.calls (put_any w7.heap.size (a.next.getD (((((ss.getD k st0).p) * a.width) + (a.cls.getD (((firstsI (joinL a.cls b.cls) (joinN a.cls b.cls)).getD j 0).toNat) 0)).toNat) 0) (b.next.getD (((((ss.getD k st0).q) * b.width) + (b.cls.getD (((firstsI (joinL a.cls b.cls) (joinN a.cls b.cls)).getD j 0).toNat) 0)).toNat) 0) ((k : Nat) : Int) ((firstsI (joinL a.cls b.cls) (joinN a.cls b.cls)).getD j 0) (.slice aca a.cls.length acc) (.int .i64 a.width) (.int .i64 a.start) (.slice ana a.next.length anc) (.slice aba a.acc.length abc) (.slice bca b.cls.length bcc) (.int .i64 b.width) (.int .i64 b.start) (.slice bna b.next.length bnc) (.slice bba b.acc.length bbc) ta tt tc w6.heap.size mj w16 (H18.hpOf 0 rfl)  (by first | exact MapInv.nil | exact hMj) (by first | omega | simp)) fun _ w17 p7 => ?_)⟩)
            obtain ⟨a2_5, c2_5, mm2_2, rfl, u13, q2⟩ := p7
            have H19 : UpG w [] w17 [[blk w7.heap.size #[(.slice aca a.cls.length acc), (.int .i64 a.width), (.int .i64 a.start), (.slice ana a.next.length anc), (.slice aba a.acc.length abc), (.slice bca b.cls.length bcc), (.int .i64 b.width), (.int .i64 b.start), (.slice bna b.next.length bnc), (.slice bba b.acc.length bbc), .slice a2_5 ((putS tt ((a.next.getD (((((ss.getD k st0).p) * a.width) + (a.cls.getD (((firstsI (joinL a.cls b.cls) (joinN a.cls b.cls)).getD j 0).toNat) 0)).toNat) 0), (b.next.getD (((((ss.getD k st0).q) * b.width) + (b.cls.getD (((firstsI (joinL a.cls b.cls) (joinN a.cls b.cls)).getD j 0).toNat) 0)).toNat) 0)) ((k : Nat) : Int) ((firstsI (joinL a.cls b.cls) (joinN a.cls b.cls)).getD j 0)).length) c2_5, .map (some w6.heap.size)] 102, rowT tySt (.slice a2_5 ((putS tt ((a.next.getD (((((ss.getD k st0).p) * a.width) + (a.cls.getD (((firstsI (joinL a.cls b.cls) (joinN a.cls b.cls)).getD j 0).toNat) 0)).toNat) 0), (b.next.getD (((((ss.getD k st0).q) * b.width) + (b.cls.getD (((firstsI (joinL a.cls b.cls) (joinN a.cls b.cls)).getD j 0).toNat) 0)).toNat) 0)) ((k : Nat) : Int) ((firstsI (joinL a.cls b.cls) (joinN a.cls b.cls)).getD j 0)).length) c2_5) 107 (putS tt ((a.next.getD (((((ss.getD k st0).p) * a.width) + (a.cls.getD (((firstsI (joinL a.cls b.cls) (joinN a.cls b.cls)).getD j 0).toNat) 0)).toNat) 0), (b.next.getD (((((ss.getD k st0).q) * b.width) + (b.cls.getD (((firstsI (joinL a.cls b.cls) (joinN a.cls b.cls)).getD j 0).toNat) 0)).toNat) 0)) ((k : Nat) : Int) ((firstsI (joinL a.cls b.cls) (joinN a.cls b.cls)).getD j 0)), mapC encP (fun a : Int => .int .i64 a) w6.heap.size mm2_2], [blk w.heap.size #[.slice aca a.cls.length acc, .int .i64 a.width, .int .i64 a.start, .slice ana a.next.length anc, .slice aba a.acc.length abc] 25], [blk w1.heap.size #[.slice bca b.cls.length bcc, .int .i64 b.width, .int .i64 b.start, .slice bna b.next.length bnc, .slice bba b.acc.length bbc] 25], [rowT (tyI .i64) (.slice a2_1 ((joinL a.cls b.cls).length) c2_1) 3 (joinL a.cls b.cls)], [rowT (tyI .i64) (.slice a2_2 ((firstsI (joinL a.cls b.cls) (joinN a.cls b.cls)).length) c2_2) 3 (firstsI (joinL a.cls b.cls) (joinN a.cls b.cls))], [blk w10.heap.size #[.int .i64 ((ss.getD k st0).p), .int .i64 ((ss.getD k st0).q)] 105]] := H18.on 0 rfl u13
            refine ⟨trivial, ?_⟩
            refine WD.done hok2 rfl (X.block_normal (X.then_code ?_))
            refine W.pick [118, 117, 116, 115, 114, 113, 112, 111, 110, 109, 108, 107, 106, 105, 104, 103, 102, 101, 100, 99, 98, 97, 96, 95, 94, 93, 92, 91, 90, 89, 88, 87, 86, 85, 14, 84, 83, 82, 81, 80, 79, 75, 74, 73, 72, 71, 70, 69, 68, 67, 66, 65, 64, 63, 12, 62, 61, 60, 59, 58, 57, 56, 55, 52, 51, 50, 49, 48, 47, 46, 11, 10, 9, 6, 5, 4, 3, 2] (Γ' := [(118, .int .i64 ((firstsI (joinL a.cls b.cls) (joinN a.cls b.cls)).getD j 0)), (117, .int .i64 ((k : Nat) : Int)), (116, .agg #[.int .i64 (a.next.getD (((((ss.getD k st0).p) * a.width) + (a.cls.getD (((firstsI (joinL a.cls b.cls) (joinN a.cls b.cls)).getD j 0).toNat) 0)).toNat) 0), .int .i64 (b.next.getD (((((ss.getD k st0).q) * b.width) + (b.cls.getD (((firstsI (joinL a.cls b.cls) (joinN a.cls b.cls)).getD j 0).toNat) 0)).toNat) 0)]), (115, .int .i64 (b.next.getD (((((ss.getD k st0).q) * b.width) + (b.cls.getD (((firstsI (joinL a.cls b.cls) (joinN a.cls b.cls)).getD j 0).toNat) 0)).toNat) 0)), (114, elemPtr (.slice bna b.next.length bnc) (((((ss.getD k st0).q) * b.width) + (b.cls.getD (((firstsI (joinL a.cls b.cls) (joinN a.cls b.cls)).getD j 0).toNat) 0)).toNat)), (113, .int .i64 ((((ss.getD k st0).q) * b.width) + (b.cls.getD (((firstsI (joinL a.cls b.cls) (joinN a.cls b.cls)).getD j 0).toNat) 0))), (112, .int .i64 (b.cls.getD (((firstsI (joinL a.cls b.cls) (joinN a.cls b.cls)).getD j 0).toNat) 0)), (111, elemPtr (.slice bca b.cls.length bcc) (((firstsI (joinL a.cls b.cls) (joinN a.cls b.cls)).getD j 0).toNat)), (110, .int .i64 ((firstsI (joinL a.cls b.cls) (joinN a.cls b.cls)).getD j 0)), (109, .slice bca b.cls.length bcc), (108, .pointer (some ⟨w1.heap.size, 0, none⟩)), (107, .int .i64 (((ss.getD k st0).q) * b.width)), (106, .int .i64 b.width), (105, .pointer (some ⟨w1.heap.size, 1, none⟩)), (104, .int .i64 ((ss.getD k st0).q)), (103, .pointer (some ⟨w10.heap.size, 1, none⟩)), (102, .slice bna b.next.length bnc), (101, .pointer (some ⟨w1.heap.size, 3, none⟩)), (100, .int .i64 (a.next.getD (((((ss.getD k st0).p) * a.width) + (a.cls.getD (((firstsI (joinL a.cls b.cls) (joinN a.cls b.cls)).getD j 0).toNat) 0)).toNat) 0)), (99, elemPtr (.slice ana a.next.length anc) (((((ss.getD k st0).p) * a.width) + (a.cls.getD (((firstsI (joinL a.cls b.cls) (joinN a.cls b.cls)).getD j 0).toNat) 0)).toNat)), (98, .int .i64 ((((ss.getD k st0).p) * a.width) + (a.cls.getD (((firstsI (joinL a.cls b.cls) (joinN a.cls b.cls)).getD j 0).toNat) 0))), (97, .int .i64 (a.cls.getD (((firstsI (joinL a.cls b.cls) (joinN a.cls b.cls)).getD j 0).toNat) 0)), (96, elemPtr (.slice aca a.cls.length acc) (((firstsI (joinL a.cls b.cls) (joinN a.cls b.cls)).getD j 0).toNat)), (95, .int .i64 ((firstsI (joinL a.cls b.cls) (joinN a.cls b.cls)).getD j 0)), (94, .slice aca a.cls.length acc), (93, .pointer (some ⟨w.heap.size, 0, none⟩)), (92, .int .i64 (((ss.getD k st0).p) * a.width)), (91, .int .i64 a.width), (90, .pointer (some ⟨w.heap.size, 1, none⟩)), (89, .int .i64 ((ss.getD k st0).p)), (88, .pointer (some ⟨w10.heap.size, 0, none⟩)), (87, .slice ana a.next.length anc), (86, .pointer (some ⟨w.heap.size, 3, none⟩)), (85, .pointer (some ⟨w7.heap.size, 0, none⟩)), (14, .int .i64 ((firstsI (joinL a.cls b.cls) (joinN a.cls b.cls)).getD j 0)), (84, .int .i64 ((firstsI (joinL a.cls b.cls) (joinN a.cls b.cls)).getD j 0)), (83, elemPtr (.slice a2_2 ((firstsI (joinL a.cls b.cls) (joinN a.cls b.cls)).length) c2_2) j), (82, .bool (decide (((j : Nat) : Int) < (((firstsI (joinL a.cls b.cls) (joinN a.cls b.cls)).length : Nat) : Int)))), (81, .int .i64 ((j : Nat) : Int)), (80, .int .i64 (((firstsI (joinL a.cls b.cls) (joinN a.cls b.cls)).length : Nat) : Int)), (79, .slice a2_2 ((firstsI (joinL a.cls b.cls) (joinN a.cls b.cls)).length) c2_2), (75, .bool (decide ((a.acc.getD (((ss.getD k st0).p).toNat) false) ≠ (b.acc.getD (((ss.getD k st0).q).toNat) false)))), (74, .bool (b.acc.getD (((ss.getD k st0).q).toNat) false)), (73, elemPtr (.slice bba b.acc.length bbc) (((ss.getD k st0).q).toNat)), (72, .int .i64 ((ss.getD k st0).q)), (71, .pointer (some ⟨w10.heap.size, 1, none⟩)), (70, .slice bba b.acc.length bbc), (69, .pointer (some ⟨w1.heap.size, 4, none⟩)), (68, .bool (a.acc.getD (((ss.getD k st0).p).toNat) false)), (67, elemPtr (.slice aba a.acc.length abc) (((ss.getD k st0).p).toNat)), (66, .int .i64 ((ss.getD k st0).p)), (65, .pointer (some ⟨w10.heap.size, 0, none⟩)), (64, .slice aba a.acc.length abc), (63, .pointer (some ⟨w.heap.size, 4, none⟩)), (12, .pointer (some ⟨w10.heap.size, 0, none⟩)), (62, .agg #[.int .i64 ((ss.getD k st0).p), .int .i64 ((ss.getD k st0).q)]), (61, elemPtr (.slice sa ss.length sc) (k * 4 + 0)), (60, elemPtr (.slice sa ss.length sc) (k * 4)), (59, .int .i64 ((k : Nat) : Int)), (58, .slice sa ss.length sc), (57, .pointer (some ⟨w7.heap.size, 10, none⟩)), (56, .pointer (some ⟨w7.heap.size, 0, none⟩)), (55, .pointer (some ⟨w7.heap.size, 0, none⟩)), (52, .bool (decide (((k : Nat) : Int) < ((ss.length : Nat) : Int)))), (51, .int .i64 ((ss.length : Nat) : Int)), (50, .slice sa ss.length sc), (49, .pointer (some ⟨w7.heap.size, 10, none⟩)), (48, .pointer (some ⟨w7.heap.size, 0, none⟩)), (47, .pointer (some ⟨w7.heap.size, 0, none⟩)), (46, .int .i64 ((k : Nat) : Int)), (11, .int .i64 ((k : Nat) : Int)), (10, .pointer (some ⟨w7.heap.size, 0, none⟩)), (9, .slice a2_2 ((firstsI (joinL a.cls b.cls) (joinN a.cls b.cls)).length) c2_2), (6, .int .i64 0), (5, .bool false), (4, .slice none 0 0), (3, .pointer (some ⟨w1.heap.size, 0, none⟩)), (2, .pointer (some ⟨w.heap.size, 0, none⟩))]) rfl ?_
            refine W.region ?_
            refine WL.op rfl (d_add rfl rfl (by omega) (by omega) ?_)
            refine WL.op rfl (d_move rfl ?_)
            refine WL.done ?_
            exact X.next [81, 80, 79, 75, 74, 73, 72, 71, 70, 69, 68, 67, 66, 65, 64, 63, 12, 62, 61, 60, 59, 58, 57, 56, 55, 52, 51, 50, 49, 48, 47, 46, 11, 10, 9, 6, 5, 4, 3, 2] (Γ' := [(81, .int .i64 (((j + 1) : Nat) : Int)), (80, .int .i64 (((firstsI (joinL a.cls b.cls) (joinN a.cls b.cls)).length : Nat) : Int)), (79, .slice a2_2 ((firstsI (joinL a.cls b.cls) (joinN a.cls b.cls)).length) c2_2), (75, .bool (decide ((a.acc.getD (((ss.getD k st0).p).toNat) false) ≠ (b.acc.getD (((ss.getD k st0).q).toNat) false)))), (74, .bool (b.acc.getD (((ss.getD k st0).q).toNat) false)), (73, elemPtr (.slice bba b.acc.length bbc) (((ss.getD k st0).q).toNat)), (72, .int .i64 ((ss.getD k st0).q)), (71, .pointer (some ⟨w10.heap.size, 1, none⟩)), (70, .slice bba b.acc.length bbc), (69, .pointer (some ⟨w1.heap.size, 4, none⟩)), (68, .bool (a.acc.getD (((ss.getD k st0).p).toNat) false)), (67, elemPtr (.slice aba a.acc.length abc) (((ss.getD k st0).p).toNat)), (66, .int .i64 ((ss.getD k st0).p)), (65, .pointer (some ⟨w10.heap.size, 0, none⟩)), (64, .slice aba a.acc.length abc), (63, .pointer (some ⟨w.heap.size, 4, none⟩)), (12, .pointer (some ⟨w10.heap.size, 0, none⟩)), (62, .agg #[.int .i64 ((ss.getD k st0).p), .int .i64 ((ss.getD k st0).q)]), (61, elemPtr (.slice sa ss.length sc) (k * 4 + 0)), (60, elemPtr (.slice sa ss.length sc) (k * 4)), (59, .int .i64 ((k : Nat) : Int)), (58, .slice sa ss.length sc), (57, .pointer (some ⟨w7.heap.size, 10, none⟩)), (56, .pointer (some ⟨w7.heap.size, 0, none⟩)), (55, .pointer (some ⟨w7.heap.size, 0, none⟩)), (52, .bool (decide (((k : Nat) : Int) < ((ss.length : Nat) : Int)))), (51, .int .i64 ((ss.length : Nat) : Int)), (50, .slice sa ss.length sc), (49, .pointer (some ⟨w7.heap.size, 10, none⟩)), (48, .pointer (some ⟨w7.heap.size, 0, none⟩)), (47, .pointer (some ⟨w7.heap.size, 0, none⟩)), (46, .int .i64 ((k : Nat) : Int)), (11, .int .i64 ((k : Nat) : Int)), (10, .pointer (some ⟨w7.heap.size, 0, none⟩)), (9, .slice a2_2 ((firstsI (joinL a.cls b.cls) (joinN a.cls b.cls)).length) c2_2), (6, .int .i64 0), (5, .bool false), (4, .slice none 0 0), (3, .pointer (some ⟨w1.heap.size, 0, none⟩)), (2, .pointer (some ⟨w.heap.size, 0, none⟩))]) rfl ((firstsI (joinL a.cls b.cls) (joinN a.cls b.cls)).length - (j + 1)) (by omega) ⟨j + 1, putS tt ((a.next.getD (((((ss.getD k st0).p) * a.width) + (a.cls.getD (((firstsI (joinL a.cls b.cls) (joinN a.cls b.cls)).getD j 0).toNat) 0)).toNat) 0), (b.next.getD (((((ss.getD k st0).q) * b.width) + (b.cls.getD (((firstsI (joinL a.cls b.cls) (joinN a.cls b.cls)).getD j 0).toNat) 0)).toNat) 0)) ((k : Nat) : Int) ((firstsI (joinL a.cls b.cls) (joinN a.cls b.cls)).getD j 0), a2_5, c2_5, mm2_2, rfl, H19, (by first | assumption | omega | simp), (by rw [hF]; exact foldAddS_step (by unfold firstsAB; omega)), (by exact hJ.put hra hrb (by rw [hF]; exact foldAddS_lt hkl) hsy (by rw [hF]; exact (foldAddS_get hkl).symm)), (by assumption), rfl⟩
          · skip
            refine W.exit (X.then_exit (X.then_exit (X.block_exit (X.block_normal (X.then_code ?_)))))
            refine W.pick [82, 81, 80, 79, 75, 74, 73, 72, 71, 70, 69, 68, 67, 66, 65, 64, 63, 12, 62, 61, 60, 59, 58, 57, 56, 55, 52, 51, 50, 49, 48, 47, 46, 11, 10, 9, 6, 5, 4, 3, 2] (Γ' := [(82, .bool (decide (((j : Nat) : Int) < (((firstsI (joinL a.cls b.cls) (joinN a.cls b.cls)).length : Nat) : Int)))), (81, .int .i64 ((j : Nat) : Int)), (80, .int .i64 (((firstsI (joinL a.cls b.cls) (joinN a.cls b.cls)).length : Nat) : Int)), (79, .slice a2_2 ((firstsI (joinL a.cls b.cls) (joinN a.cls b.cls)).length) c2_2), (75, .bool (decide ((a.acc.getD (((ss.getD k st0).p).toNat) false) ≠ (b.acc.getD (((ss.getD k st0).q).toNat) false)))), (74, .bool (b.acc.getD (((ss.getD k st0).q).toNat) false)), (73, elemPtr (.slice bba b.acc.length bbc) (((ss.getD k st0).q).toNat)), (72, .int .i64 ((ss.getD k st0).q)), (71, .pointer (some ⟨w10.heap.size, 1, none⟩)), (70, .slice bba b.acc.length bbc), (69, .pointer (some ⟨w1.heap.size, 4, none⟩)), (68, .bool (a.acc.getD (((ss.getD k st0).p).toNat) false)), (67, elemPtr (.slice aba a.acc.length abc) (((ss.getD k st0).p).toNat)), (66, .int .i64 ((ss.getD k st0).p)), (65, .pointer (some ⟨w10.heap.size, 0, none⟩)), (64, .slice aba a.acc.length abc), (63, .pointer (some ⟨w.heap.size, 4, none⟩)), (12, .pointer (some ⟨w10.heap.size, 0, none⟩)), (62, .agg #[.int .i64 ((ss.getD k st0).p), .int .i64 ((ss.getD k st0).q)]), (61, elemPtr (.slice sa ss.length sc) (k * 4 + 0)), (60, elemPtr (.slice sa ss.length sc) (k * 4)), (59, .int .i64 ((k : Nat) : Int)), (58, .slice sa ss.length sc), (57, .pointer (some ⟨w7.heap.size, 10, none⟩)), (56, .pointer (some ⟨w7.heap.size, 0, none⟩)), (55, .pointer (some ⟨w7.heap.size, 0, none⟩)), (52, .bool (decide (((k : Nat) : Int) < ((ss.length : Nat) : Int)))), (51, .int .i64 ((ss.length : Nat) : Int)), (50, .slice sa ss.length sc), (49, .pointer (some ⟨w7.heap.size, 10, none⟩)), (48, .pointer (some ⟨w7.heap.size, 0, none⟩)), (47, .pointer (some ⟨w7.heap.size, 0, none⟩)), (46, .int .i64 ((k : Nat) : Int)), (11, .int .i64 ((k : Nat) : Int)), (10, .pointer (some ⟨w7.heap.size, 0, none⟩)), (9, .slice a2_2 ((firstsI (joinL a.cls b.cls) (joinN a.cls b.cls)).length) c2_2), (6, .int .i64 0), (5, .bool false), (4, .slice none 0 0), (3, .pointer (some ⟨w1.heap.size, 0, none⟩)), (2, .pointer (some ⟨w.heap.size, 0, none⟩))]) rfl ?_
            refine W.region ?_
            refine WL.op rfl (d_move rfl ?_)
            refine WL.op rfl (d_add rfl rfl (by omega) (by omega) ?_)
            refine WL.op rfl (d_assign rfl ?_)
            refine WL.done ?_
            have hj2 : (firstsAB a b).take j = firstsAB a b := List.take_of_length_le (by unfold firstsAB; omega)
            exact X.next [11, 10, 9, 6, 5, 4, 3, 2] (Γ' := [(11, .int .i64 (((k + 1) : Nat) : Int)), (10, .pointer (some ⟨w7.heap.size, 0, none⟩)), (9, .slice a2_2 ((firstsI (joinL a.cls b.cls) (joinN a.cls b.cls)).length) c2_2), (6, .int .i64 0), (5, .bool false), (4, .slice none 0 0), (3, .pointer (some ⟨w1.heap.size, 0, none⟩)), (2, .pointer (some ⟨w.heap.size, 0, none⟩))]) rfl ((a.acc.length * b.acc.length + 1) - (k + 1)) (by omega) ⟨k + 1, tt, ta, tc, mj, rfl, (UpG.of (G := [[blk w7.heap.size #[(.slice aca a.cls.length acc), (.int .i64 a.width), (.int .i64 a.start), (.slice ana a.next.length anc), (.slice aba a.acc.length abc), (.slice bca b.cls.length bcc), (.int .i64 b.width), (.int .i64 b.start), (.slice bna b.next.length bnc), (.slice bba b.acc.length bbc), .slice ta tt.length tc, .map (some w6.heap.size)] 102, rowT tySt (.slice ta tt.length tc) 107 tt, mapC encP (fun a : Int => .int .i64 a) w6.heap.size mj], [blk w.heap.size #[.slice aca a.cls.length acc, .int .i64 a.width, .int .i64 a.start, .slice ana a.next.length anc, .slice aba a.acc.length abc] 25], [blk w1.heap.size #[.slice bca b.cls.length bcc, .int .i64 b.width, .int .i64 b.start, .slice bna b.next.length bnc, .slice bba b.acc.length bbc] 25], [rowT (tyI .i64) (.slice a2_1 ((joinL a.cls b.cls).length) c2_1) 3 (joinL a.cls b.cls)], [rowT (tyI .i64) (.slice a2_2 ((firstsI (joinL a.cls b.cls) (joinN a.cls b.cls)).length) c2_2) 3 (firstsI (joinL a.cls b.cls) (joinN a.cls b.cls))]]) (Upd.sel H17 (M := [blk w7.heap.size #[(.slice aca a.cls.length acc), (.int .i64 a.width), (.int .i64 a.start), (.slice ana a.next.length anc), (.slice aba a.acc.length abc), (.slice bca b.cls.length bcc), (.int .i64 b.width), (.int .i64 b.start), (.slice bna b.next.length bnc), (.slice bba b.acc.length bbc), .slice ta tt.length tc, .map (some w6.heap.size)] 102, rowT tySt (.slice ta tt.length tc) 107 tt, mapC encP (fun a : Int => .int .i64 a) w6.heap.size mj, blk w.heap.size #[.slice aca a.cls.length acc, .int .i64 a.width, .int .i64 a.start, .slice ana a.next.length anc, .slice aba a.acc.length abc] 25, blk w1.heap.size #[.slice bca b.cls.length bcc, .int .i64 b.width, .int .i64 b.start, .slice bna b.next.length bnc, .slice bba b.acc.length bbc] 25, rowT (tyI .i64) (.slice a2_1 ((joinL a.cls b.cls).length) c2_1) 3 (joinL a.cls b.cls), rowT (tyI .i64) (.slice a2_2 ((firstsI (joinL a.cls b.cls) (joinN a.cls b.cls)).length) c2_2) 3 (firstsI (joinL a.cls b.cls) (joinN a.cls b.cls))]) (l := [0, 1, 2, 3, 4, 5, 6]) rfl rfl) rfl), (by omega), (by exact hJ.test (by rw [hF, foldAddS_get hkl]; exact htest)), (by exact hMj), (by rw [hR, apLoop_go hk hkl htest, hF, hj2]), rfl⟩
      · skip
        refine W.exit (X.then_exit (X.then_exit (X.block_exit (X.then_code ?_))))
        refine W.seq ?_
        refine W.region ?_
        refine WL.op rfl (d_assign rfl ?_)
        refine WL.op rfl (d_assign rfl ?_)
        refine WL.op rfl (d_assign rfl ?_)
        refine WL.done (X.then_code ?_)
        refine W.ret (X.ret3 rfl rfl rfl rfl ?_)
        have ho : apartO a b = none := by rw [hR]; exact apLoop_end (by omega)
        have e1 : apartW a b = [] := by rw [apartW, if_pos ⟨hra, hrb⟩, ho]; rfl
        have e2 : apartI a b = false := by rw [apartI, if_pos ⟨hra, hrb⟩, ho]; rfl
        have e3 : apartE a b = 0 := by rw [apartE, if_pos ⟨hra, hrb⟩]
        rw [e1, e2, e3]
        exact ⟨none, 0, (by rfl), nilOwn H12⟩

set_option maxRecDepth 20000 in
theorem flat_any (is : Bool) (w : World) :
    Calls Try.prog 76 #[.bool is] w (Ret fun v w' => ∃ ca : Option Addr, ∃ cc : Nat, ∃ na : Option Addr, ∃ nc : Nat, ∃ ba : Option Addr, ∃ bc : Nat, v = .agg #[.slice ca ((List.replicate 259 (0 : Int)).length) cc, .int .i64 1, .int .i64 0, .slice na ([(0 : Int)].length) nc, .slice ba ([is].length) bc] ∧ Upd w [] w' [rowT (tyI .i64) (.slice ca ((List.replicate 259 (0 : Int)).length) cc) 3 (List.replicate 259 (0 : Int)), rowT (tyI .i64) (.slice na ([(0 : Int)].length) nc) 3 [(0 : Int)], rowT tyB (.slice ba ([is].length) bc) 4 [is]]) := by
  refine calls_of_W (args := [.bool is]) Try.func76 rfl rfl rfl ?_
  have H0 : UpG w [] w [] := UpG.nil w
  show W _ _ _ _ [(0, .bool is)] w
  refine W.seq ?_
  refine W.region ?_
  refine WL.op rfl (d_alloc sz25 fun w1 u1 => ?_)
  have H1 : UpG w [] w1 [[blk w.heap.size #[.slice none 0 0, .int .i64 0, .int .i64 0, .slice none 0 0, .slice none 0 0] 25]] := H0.new' u1
  refine WL.done (X.then_code ?_)
  refine W.seq ?_
  refine W.region ?_
  refine WL.op rfl (t_make 259 (0 : Int) (T := (tyI .i64)) rfl Try.underlying22 sz3 rfl rfl rfl rfl (by omega) (by omega) fun w2 u2 => ?_)
  have H2 : UpG w [] w2 [[blk w.heap.size #[.slice none 0 0, .int .i64 0, .int .i64 0, .slice none 0 0, .slice none 0 0] 25], [rowT (tyI .i64) (.slice (some ⟨w1.heap.size, 0, none⟩) ((List.replicate 259 (0 : Int)).length) 259) 3 (List.replicate 259 (0 : Int))]] := H1.new' u2
  refine WL.op rfl (t_buildSlice (T := (tyI .i64)) (xs := [0]) (cs := #[.int .i64 0]) rfl Try.underlying22 sz3 rfl rfl rfl rfl (by kernel_rfl) rfl rfl fun w3 u3 => ?_)
  have H3 : UpG w [] w3 [[blk w.heap.size #[.slice none 0 0, .int .i64 0, .int .i64 0, .slice none 0 0, .slice none 0 0] 25], [rowT (tyI .i64) (.slice (some ⟨w1.heap.size, 0, none⟩) ((List.replicate 259 (0 : Int)).length) 259) 3 (List.replicate 259 (0 : Int))], [rowT (tyI .i64) (.slice (some ⟨w2.heap.size, 0, none⟩) ([0].length) ([0].length)) 3 [0]]] := H2.new' u3
  refine WL.op rfl (d_move rfl ?_)
  refine WL.op rfl (t_buildSlice (T := tyB) (xs := [is]) (cs := #[.bool is]) rfl Try.underlying23 sz4 rfl rfl rfl rfl (by kernel_rfl) rfl rfl fun w4 u4 => ?_)
  have H4 : UpG w [] w4 [[blk w.heap.size #[.slice none 0 0, .int .i64 0, .int .i64 0, .slice none 0 0, .slice none 0 0] 25], [rowT (tyI .i64) (.slice (some ⟨w1.heap.size, 0, none⟩) ((List.replicate 259 (0 : Int)).length) 259) 3 (List.replicate 259 (0 : Int))], [rowT (tyI .i64) (.slice (some ⟨w2.heap.size, 0, none⟩) ([0].length) ([0].length)) 3 [0]], [rowT tyB (.slice (some ⟨w3.heap.size, 0, none⟩) ([is].length) ([is].length)) 4 [is]]] := H3.new' u4
  refine WL.op rfl (d_build (cs := #[.slice (some ⟨w1.heap.size, 0, none⟩) ((List.replicate 259 (0 : Int)).length) 259, .int .i64 1, .int .i64 0, .slice (some ⟨w2.heap.size, 0, none⟩) ([0].length) ([0].length), .slice (some ⟨w3.heap.size, 0, none⟩) ([is].length) ([is].length)]) rfl (by kernel_rfl) ?_)
  refine WL.op0 (d_storeAB (us := [.slice (some ⟨w1.heap.size, 0, none⟩) ((List.replicate 259 (0 : Int)).length) 259, .int .i64 1, .int .i64 0, .slice (some ⟨w2.heap.size, 0, none⟩) ([0].length) ([0].length), .slice (some ⟨w3.heap.size, 0, none⟩) ([is].length) ([is].length)]) (cs' := #[.slice (some ⟨w1.heap.size, 0, none⟩) ((List.replicate 259 (0 : Int)).length) 259, .int .i64 1, .int .i64 0, .slice (some ⟨w2.heap.size, 0, none⟩) ([0].length) ([0].length), .slice (some ⟨w3.heap.size, 0, none⟩) ([is].length) ([is].length)]) sz25 rfl rfl rfl rfl (H4.blk 0 rfl) rfl rfl fun w5 u5 => ?_)
  have H5 : UpG w [] w5 [[blk w.heap.size #[.slice (some ⟨w1.heap.size, 0, none⟩) ((List.replicate 259 (0 : Int)).length) 259, .int .i64 1, .int .i64 0, .slice (some ⟨w2.heap.size, 0, none⟩) ([0].length) ([0].length), .slice (some ⟨w3.heap.size, 0, none⟩) ([is].length) ([is].length)] 25], [rowT (tyI .i64) (.slice (some ⟨w1.heap.size, 0, none⟩) ((List.replicate 259 (0 : Int)).length) 259) 3 (List.replicate 259 (0 : Int))], [rowT (tyI .i64) (.slice (some ⟨w2.heap.size, 0, none⟩) ([0].length) ([0].length)) 3 [0]], [rowT tyB (.slice (some ⟨w3.heap.size, 0, none⟩) ([is].length) ([is].length)) 4 [is]]] := H4.on 0 rfl u5
  refine WL.done (X.then_code ?_)
  refine W.ret (X.retR1 rfl (rv_cellA [.slice (some ⟨w1.heap.size, 0, none⟩) ((List.replicate 259 (0 : Int)).length) 259, .int .i64 1, .int .i64 0, .slice (some ⟨w2.heap.size, 0, none⟩) ([0].length) ([0].length), .slice (some ⟨w3.heap.size, 0, none⟩) ([is].length) ([is].length)] Try.underlying25 rfl sz25 rfl (H5.blk 0 rfl) rfl rfl) ?_)
  exact ⟨(some ⟨w1.heap.size, 0, none⟩), 259, (some ⟨w2.heap.size, 0, none⟩), [0].length, (some ⟨w3.heap.size, 0, none⟩), [is].length, (by rfl), (Upd.sel H5 (l := [1, 2, 3]) rfl rfl)⟩

set_option maxRecDepth 20000 in
theorem empty_any (a : DfaD) (aca : Option Addr) (ana : Option Addr) (aba : Option Addr) (acc : Nat) (anc : Nat) (abc : Nat) (w : World) (rca : RdT (tyI .i64) w (.slice aca a.cls.length acc) a.cls) (rna : RdT (tyI .i64) w (.slice ana a.next.length anc) a.next) (rba : RdT tyB w (.slice aba a.acc.length abc) a.acc) (hca : a.cls.length ≤ 1000) :
    Calls Try.prog 46 #[.agg #[.slice aca a.cls.length acc, .int .i64 a.width, .int .i64 a.start, .slice ana a.next.length anc, .slice aba a.acc.length abc]] w (Ret fun v w' => v = .tuple #[.bool (emptyB a), .int .i64 (emptyE a)] ∧ Upd w [] w' []) := by
  have le_rca := rca.le
  have le_rna := rna.le
  have le_rba := rba.le
  refine calls_of_W (args := [.agg #[.slice aca a.cls.length acc, .int .i64 a.width, .int .i64 a.start, .slice ana a.next.length anc, .slice aba a.acc.length abc]]) Try.func46 rfl rfl rfl ?_
  have H0 : UpG w [] w [] := UpG.nil w
  show W _ _ _ _ [(0, .agg #[.slice aca a.cls.length acc, .int .i64 a.width, .int .i64 a.start, .slice ana a.next.length anc, .slice aba a.acc.length abc])] w
  refine W.seq ?_
  refine W.region ?_
  refine WL.op rfl (d_box rfl fun w1 u1 => ?_)
  have H1 : UpG w [] w1 [[blk w.heap.size #[.slice aca a.cls.length acc, .int .i64 a.width, .int .i64 a.start, .slice ana a.next.length anc, .slice aba a.acc.length abc] 25]] := H0.new' u1
  refine WL.op rfl (d_assign rfl ?_)
  refine WL.op rfl (d_assign rfl ?_)
  refine WL.done (X.then_code ?_)
  refine W.seq ?_
  refine W.seq ?_
  refine W.region ?_
  refine WL.op rfl (d_loadAB [.slice aca a.cls.length acc, .int .i64 a.width, .int .i64 a.start, .slice ana a.next.length anc, .slice aba a.acc.length abc] Try.underlying25 rfl sz25 rfl (H1.blk 0 rfl) rfl rfl ?_)
  refine WL.op rfl (d_call ok24 rfl (Ret.calls (right_any a aca ana aba acc anc abc w1 (rca.at H1) (rna.at H1) (rba.at H1) ) fun _ w2 p1 => ?_))
  obtain ⟨rfl, u2⟩ := p1
  have H2 : UpG w [] w2 [[blk w.heap.size #[.slice aca a.cls.length acc, .int .i64 a.width, .int .i64 a.start, .slice ana a.next.length anc, .slice aba a.acc.length abc] 25]] := H1.call u2
  refine WL.op rfl (d_notB rfl ?_)
  refine WL.done (X.then_code ?_)
  refine W.iteB (b := !(rightB a)) rfl (fun c69 => ?_) (fun c69 => ?_)
  · skip
    refine W.seq ?_
    refine W.region ?_
    refine WL.op rfl (d_assign rfl ?_)
    refine WL.op rfl (d_assign rfl ?_)
    refine WL.done (X.then_code ?_)
    refine W.ret (X.then_ret (X.ret2 rfl rfl rfl ?_))
    have hno : rightB a = false := by simpa using c69
    have e1 : emptyB a = false := by rw [emptyB, hno]; rfl
    have e2 : emptyE a = 3 := by rw [emptyE, hno]; rfl
    rw [e1, e2]
    exact ⟨(by rfl), H2.noneL⟩
  · skip
    refine W.skip (X.then_code ?_)
    refine W.seq ?_
    have hra : rightB a = true := by simpa using c69
    have hia := rightB_iff.1 hra
    refine W.regionD mixed (by kernel_rfl) fun hok1 w3 k1 => ?_
    have H3 : UpG w [] w3 [[blk w.heap.size #[.slice aca a.cls.length acc, .int .i64 a.width, .int .i64 a.start, .slice ana a.next.length anc, .slice aba a.acc.length abc] 25]] := H2.kept k1
    refine WD.take hok1 0 (.agg #[.slice aca a.cls.length acc, .int .i64 a.width, .int .i64 a.start, .slice ana a.next.length anc, .slice aba a.acc.length abc]) (fun w' => w'.heap[w.heap.size]? = some (.cells #[.slice aca a.cls.length acc, .int .i64 a.width, .int .i64 a.start, .slice ana a.next.length anc, .slice aba a.acc.length abc] 25 (0, 0))) rfl rfl rfl rfl rfl (H3.blk 0 rfl) (.inl ⟨rfl, fun _ hC => d_loadAB [.slice aca a.cls.length acc, .int .i64 a.width, .int .i64 a.start, .slice ana a.next.length anc, .slice aba a.acc.length abc] Try.underlying25 rfl sz25 rfl hC rfl rfl ⟨rfl, rfl⟩⟩) ?_
    refine WD.take hok1 2 (.pointer (some ⟨w.heap.size, 2, none⟩)) (fun _ => True) rfl rfl rfl rfl rfl trivial (.inl ⟨rfl, fun _ _ => d_fieldAddrB fld25_2 rfl rfl ⟨rfl, rfl⟩⟩) ?_
    refine WD.take hok1 3 (.int .i64 a.start) (fun w' => w'.heap[w.heap.size]? = some (.cells #[.slice aca a.cls.length acc, .int .i64 a.width, .int .i64 a.start, .slice ana a.next.length anc, .slice aba a.acc.length abc] 25 (0, 0))) rfl rfl rfl rfl rfl (H3.blk 0 rfl) (.inl ⟨rfl, fun _ hC => d_loadB Try.underlying3 rfl rfl hC rfl ⟨rfl, rfl⟩⟩) ?_
    refine WD.loud hok1 1 rfl (⟨_, [⟨3, .int .i64 a.start, (fun w' => w'.heap[w.heap.size]? = some (.cells #[.slice aca a.cls.length acc, .int .i64 a.width, .int .i64 a.start, .slice ana a.next.length anc, .slice aba a.acc.length abc] 25 (0, 0)))⟩, ⟨2, .pointer (some ⟨w.heap.size, 2, none⟩), (fun _ => True)⟩], rfl, rfl, rfl, rfl, rfl, rfl, d_call ok18 rfl (Ret.calls (live_any a aca ana aba acc anc abc w3 (rca.at H3) (rna.at H3) (rba.at H3) (by omega)) fun _ w4 p2 => ?_)⟩)
    obtain ⟨a2_1, o2_1, c2_1, rfl, u3, q1⟩ := p2
    have H4 : UpG w [] w4 [[blk w.heap.size #[.slice aca a.cls.length acc, .int .i64 a.width, .int .i64 a.start, .slice ana a.next.length anc, .slice aba a.acc.length abc] 25], [rowT tyB (.slice a2_1 o2_1.length c2_1) 4 o2_1]] := (H3.new' u3).re rfl
    refine ⟨⟨(H4.blk 0 rfl), trivial, trivial⟩, ?_⟩
    refine WD.take hok1 4 (elemPtr (.slice a2_1 o2_1.length c2_1) a.start.toNat) (fun w' => RdT tyB w' (.slice a2_1 o2_1.length c2_1) o2_1) rfl rfl rfl rfl rfl (H4.rdT 1 rfl) (.inl ⟨rfl, fun _ hC => t_addr1 a.start.toNat (T := tyB) rfl Try.underlying23 sz4 rfl rfl hC (by have := (q1.2 hra).1; omega) (by have := (q1.2 hra).1; omega) ⟨rfl, rfl⟩⟩) ?_
    refine WD.take hok1 5 (.bool (o2_1.getD a.start.toNat false)) (fun w' => RdT tyB w' (.slice a2_1 o2_1.length c2_1) o2_1) rfl rfl rfl rfl rfl (H4.rdT 1 rfl) (.inl ⟨rfl, fun _ hC => t_load1 a.start.toNat false (T := tyB) rfl Try.underlying4 rfl rfl hC (by have := (q1.2 hra).1; omega) rfl ⟨rfl, rfl⟩⟩) ?_
    refine WD.take hok1 6 (.bool (!(o2_1.getD a.start.toNat false))) (fun _ => True) rfl rfl rfl rfl rfl trivial (.inl ⟨rfl, fun _ _ => d_notB rfl ⟨rfl, rfl⟩⟩) ?_
    refine WD.take hok1 7 (.bool (!(o2_1.getD a.start.toNat false))) (fun _ => True) rfl rfl rfl rfl rfl trivial (.inl ⟨rfl, fun _ _ => d_assign rfl ⟨rfl, rfl⟩⟩) ?_
    refine WD.take hok1 8 (.int .i64 0) (fun _ => True) rfl rfl rfl rfl rfl trivial (.inl ⟨rfl, fun _ _ => d_assign rfl ⟨rfl, rfl⟩⟩) ?_
    refine WD.done hok1 rfl (X.then_code ?_)
    refine W.ret (X.ret2 rfl rfl rfl ?_)
    have e1 := empty_of hra q1
    have e2 : emptyE a = 0 := by rw [emptyE, hra]; rfl
    rw [← e1, e2]
    exact ⟨(by rfl), H4.noneL⟩

set_option maxRecDepth 20000 in
theorem awake14_any  (w : World) :
    Calls Try.prog 43 #[] w (Ret fun v w' => v = .bool true ∧ Upd w [] w' []) := by
  refine calls_of_W (args := []) Try.func43 rfl rfl rfl ?_
  have H0 : UpG w [] w [] := UpG.nil w
  show W _ _ _ _ [] w
  refine W.seq ?_
  refine W.region ?_
  refine WL.op rfl (d_assign rfl ?_)
  refine WL.done (X.then_code ?_)
  refine W.seq ?_
  refine W.region ?_
  refine WL.op rfl (d_call ok76 rfl (Ret.calls (flat_any true w  ) fun _ w1 p1 => ?_))
  obtain ⟨ca_1, cc_1, na_1, nc_1, ba_1, bc_1, rfl, u1⟩ := p1
  have H1 : UpG w [] w1 [[rowT (tyI .i64) (.slice ca_1 ((List.replicate 259 (0 : Int)).length) cc_1) 3 (List.replicate 259 (0 : Int))], [rowT (tyI .i64) (.slice na_1 ([(0 : Int)].length) nc_1) 3 [(0 : Int)]], [rowT tyB (.slice ba_1 ([true].length) bc_1) 4 [true]]] := (H0.new' u1).re rfl
  refine WL.op rfl (d_call ok76 rfl (Ret.calls (flat_any false w1  ) fun _ w2 p2 => ?_))
  obtain ⟨ca_2, cc_2, na_2, nc_2, ba_2, bc_2, rfl, u2⟩ := p2
  have H2 : UpG w [] w2 [[rowT (tyI .i64) (.slice ca_1 ((List.replicate 259 (0 : Int)).length) cc_1) 3 (List.replicate 259 (0 : Int))], [rowT (tyI .i64) (.slice na_1 ([(0 : Int)].length) nc_1) 3 [(0 : Int)]], [rowT tyB (.slice ba_1 ([true].length) bc_1) 4 [true]], [rowT (tyI .i64) (.slice ca_2 ((List.replicate 259 (0 : Int)).length) cc_2) 3 (List.replicate 259 (0 : Int))], [rowT (tyI .i64) (.slice na_2 ([(0 : Int)].length) nc_2) 3 [(0 : Int)]], [rowT tyB (.slice ba_2 ([false].length) bc_2) 4 [false]]] := (H1.new' u2).re rfl
  refine WL.op rfl (d_call ok45 rfl (Ret.calls (apart_any (⟨List.replicate 259 (0 : Int), 1, 0, [(0 : Int)], [true]⟩ : DfaD) ca_1 na_1 ba_1 cc_1 nc_1 bc_1 (⟨List.replicate 259 (0 : Int), 1, 0, [(0 : Int)], [false]⟩ : DfaD) ca_2 na_2 ba_2 cc_2 nc_2 bc_2 w2 (H2.rdT 0 rfl) (H2.rdT 1 rfl) (H2.rdT 2 rfl) (H2.rdT 3 rfl) (H2.rdT 4 rfl) (H2.rdT 5 rfl) (by simp)) fun _ w3 p3 => ?_))
  obtain ⟨a2_1, c2_1, rfl, u3⟩ := p3
  have H3 : UpG w [] w3 [[rowT (tyI .i64) (.slice ca_1 ((List.replicate 259 (0 : Int)).length) cc_1) 3 (List.replicate 259 (0 : Int))], [rowT (tyI .i64) (.slice na_1 ([(0 : Int)].length) nc_1) 3 [(0 : Int)]], [rowT tyB (.slice ba_1 ([true].length) bc_1) 4 [true]], [rowT (tyI .i64) (.slice ca_2 ((List.replicate 259 (0 : Int)).length) cc_2) 3 (List.replicate 259 (0 : Int))], [rowT (tyI .i64) (.slice na_2 ([(0 : Int)].length) nc_2) 3 [(0 : Int)]], [rowT tyB (.slice ba_2 ([false].length) bc_2) 4 [false]], [rowT (tyI .i64) (.slice a2_1 ((apartW (⟨List.replicate 259 (0 : Int), 1, 0, [(0 : Int)], [true]⟩ : DfaD) (⟨List.replicate 259 (0 : Int), 1, 0, [(0 : Int)], [false]⟩ : DfaD)).length) c2_1) 3 (apartW (⟨List.replicate 259 (0 : Int), 1, 0, [(0 : Int)], [true]⟩ : DfaD) (⟨List.replicate 259 (0 : Int), 1, 0, [(0 : Int)], [false]⟩ : DfaD))]] := (H2.new' u3).re rfl
  refine WL.op rfl (d_move rfl ?_)
  refine WL.op rfl (d_extract rfl rfl ?_)
  refine WL.op rfl (d_extract rfl rfl ?_)
  refine WL.op rfl (d_extract rfl rfl ?_)
  refine WL.op rfl (d_assign rfl ?_)
  refine WL.op rfl (d_assign rfl ?_)
  refine WL.op rfl (d_assign rfl ?_)
  refine WL.done (X.then_code ?_)
  refine W.seq ?_
  refine W.region ?_
  refine WL.op rfl (d_call ok76 rfl (Ret.calls (flat_any false w3  ) fun _ w4 p4 => ?_))
  obtain ⟨ca_3, cc_3, na_3, nc_3, ba_3, bc_3, rfl, u4⟩ := p4
  have H4 : UpG w [] w4 [[rowT (tyI .i64) (.slice ca_1 ((List.replicate 259 (0 : Int)).length) cc_1) 3 (List.replicate 259 (0 : Int))], [rowT (tyI .i64) (.slice na_1 ([(0 : Int)].length) nc_1) 3 [(0 : Int)]], [rowT tyB (.slice ba_1 ([true].length) bc_1) 4 [true]], [rowT (tyI .i64) (.slice ca_2 ((List.replicate 259 (0 : Int)).length) cc_2) 3 (List.replicate 259 (0 : Int))], [rowT (tyI .i64) (.slice na_2 ([(0 : Int)].length) nc_2) 3 [(0 : Int)]], [rowT tyB (.slice ba_2 ([false].length) bc_2) 4 [false]], [rowT (tyI .i64) (.slice a2_1 ((apartW (⟨List.replicate 259 (0 : Int), 1, 0, [(0 : Int)], [true]⟩ : DfaD) (⟨List.replicate 259 (0 : Int), 1, 0, [(0 : Int)], [false]⟩ : DfaD)).length) c2_1) 3 (apartW (⟨List.replicate 259 (0 : Int), 1, 0, [(0 : Int)], [true]⟩ : DfaD) (⟨List.replicate 259 (0 : Int), 1, 0, [(0 : Int)], [false]⟩ : DfaD))], [rowT (tyI .i64) (.slice ca_3 ((List.replicate 259 (0 : Int)).length) cc_3) 3 (List.replicate 259 (0 : Int))], [rowT (tyI .i64) (.slice na_3 ([(0 : Int)].length) nc_3) 3 [(0 : Int)]], [rowT tyB (.slice ba_3 ([false].length) bc_3) 4 [false]]] := (H3.new' u4).re rfl
  refine WL.op rfl (d_call ok46 rfl (Ret.calls (empty_any (⟨List.replicate 259 (0 : Int), 1, 0, [(0 : Int)], [false]⟩ : DfaD) ca_3 na_3 ba_3 cc_3 nc_3 bc_3 w4 (H4.rdT 7 rfl) (H4.rdT 8 rfl) (H4.rdT 9 rfl) (by simp)) fun _ w5 p5 => ?_))
  obtain ⟨rfl, u5⟩ := p5
  have H5 : UpG w [] w5 [[rowT (tyI .i64) (.slice ca_1 ((List.replicate 259 (0 : Int)).length) cc_1) 3 (List.replicate 259 (0 : Int))], [rowT (tyI .i64) (.slice na_1 ([(0 : Int)].length) nc_1) 3 [(0 : Int)]], [rowT tyB (.slice ba_1 ([true].length) bc_1) 4 [true]], [rowT (tyI .i64) (.slice ca_2 ((List.replicate 259 (0 : Int)).length) cc_2) 3 (List.replicate 259 (0 : Int))], [rowT (tyI .i64) (.slice na_2 ([(0 : Int)].length) nc_2) 3 [(0 : Int)]], [rowT tyB (.slice ba_2 ([false].length) bc_2) 4 [false]], [rowT (tyI .i64) (.slice a2_1 ((apartW (⟨List.replicate 259 (0 : Int), 1, 0, [(0 : Int)], [true]⟩ : DfaD) (⟨List.replicate 259 (0 : Int), 1, 0, [(0 : Int)], [false]⟩ : DfaD)).length) c2_1) 3 (apartW (⟨List.replicate 259 (0 : Int), 1, 0, [(0 : Int)], [true]⟩ : DfaD) (⟨List.replicate 259 (0 : Int), 1, 0, [(0 : Int)], [false]⟩ : DfaD))], [rowT (tyI .i64) (.slice ca_3 ((List.replicate 259 (0 : Int)).length) cc_3) 3 (List.replicate 259 (0 : Int))], [rowT (tyI .i64) (.slice na_3 ([(0 : Int)].length) nc_3) 3 [(0 : Int)]], [rowT tyB (.slice ba_3 ([false].length) bc_3) 4 [false]]] := H4.call u5
  refine WL.op rfl (d_move rfl ?_)
  refine WL.op rfl (d_extract rfl rfl ?_)
  refine WL.op rfl (d_extract rfl rfl ?_)
  refine WL.op rfl (d_assign rfl ?_)
  refine WL.op rfl (d_assign rfl ?_)
  refine WL.done (X.then_code ?_)
  refine W.pick [5, 4, 3, 2, 1, 0] (Γ' := [(5, .int .i64 (emptyE (⟨List.replicate 259 (0 : Int), 1, 0, [(0 : Int)], [false]⟩ : DfaD))), (4, .bool (emptyB (⟨List.replicate 259 (0 : Int), 1, 0, [(0 : Int)], [false]⟩ : DfaD))), (3, .int .i64 (apartE (⟨List.replicate 259 (0 : Int), 1, 0, [(0 : Int)], [true]⟩ : DfaD) (⟨List.replicate 259 (0 : Int), 1, 0, [(0 : Int)], [false]⟩ : DfaD))), (2, .bool (apartI (⟨List.replicate 259 (0 : Int), 1, 0, [(0 : Int)], [true]⟩ : DfaD) (⟨List.replicate 259 (0 : Int), 1, 0, [(0 : Int)], [false]⟩ : DfaD))), (1, .slice a2_1 ((apartW (⟨List.replicate 259 (0 : Int), 1, 0, [(0 : Int)], [true]⟩ : DfaD) (⟨List.replicate 259 (0 : Int), 1, 0, [(0 : Int)], [false]⟩ : DfaD)).length) c2_1), (0, .bool false)]) rfl ?_
  refine W.seq ?_
  refine W.region ?_
  refine WL.op rfl (d_move rfl ?_)
  refine WL.op rfl (d_move rfl ?_)
  refine WL.partB 19 (b := apartI (⟨List.replicate 259 (0 : Int), 1, 0, [(0 : Int)], [true]⟩ : DfaD) (⟨List.replicate 259 (0 : Int), 1, 0, [(0 : Int)], [false]⟩ : DfaD)) rfl (fun g23 => ?_) (fun g23 => ?_)
  · skip
    refine WL.opG rfl rfl rfl (d_move rfl ?_)
    refine WL.opG rfl rfl rfl (d_lenS Try.underlying22 rfl ?_)
    refine WL.opG rfl rfl rfl (d_cmp (decide ((((apartW (⟨List.replicate 259 (0 : Int), 1, 0, [(0 : Int)], [true]⟩ : DfaD) (⟨List.replicate 259 (0 : Int), 1, 0, [(0 : Int)], [false]⟩ : DfaD)).length : Nat) : Int) = (0 : Int))) rfl rfl rfl ?_)
    refine WL.op rfl (d_pick rfl rfl ?_)
    refine WL.op rfl (d_move rfl ?_)
    refine WL.part 24 (p := (((apartW (⟨List.replicate 259 (0 : Int), 1, 0, [(0 : Int)], [true]⟩ : DfaD) (⟨List.replicate 259 (0 : Int), 1, 0, [(0 : Int)], [false]⟩ : DfaD)).length : Nat) : Int) = (0 : Int)) rfl (fun g23x => ?_) (fun g23x => ?_)
    · skip
      refine WL.opG rfl rfl rfl (d_move rfl ?_)
      refine WL.opG rfl rfl rfl (d_cmp (decide ((apartE (⟨List.replicate 259 (0 : Int), 1, 0, [(0 : Int)], [true]⟩ : DfaD) (⟨List.replicate 259 (0 : Int), 1, 0, [(0 : Int)], [false]⟩ : DfaD)) = (0 : Int))) rfl rfl rfl ?_)
      refine WL.op rfl (d_pick rfl rfl ?_)
      refine WL.op rfl (d_move rfl ?_)
      refine WL.part 28 (p := (apartE (⟨List.replicate 259 (0 : Int), 1, 0, [(0 : Int)], [true]⟩ : DfaD) (⟨List.replicate 259 (0 : Int), 1, 0, [(0 : Int)], [false]⟩ : DfaD)) = (0 : Int)) rfl (fun g23xx => ?_) (fun g23xx => ?_)
      · skip
        refine WL.opG rfl rfl rfl (d_move rfl ?_)
        refine WL.op rfl (d_pick rfl rfl ?_)
        refine WL.op rfl (d_move rfl ?_)
        refine WL.partB 31 (b := emptyB (⟨List.replicate 259 (0 : Int), 1, 0, [(0 : Int)], [false]⟩ : DfaD)) rfl (fun g23xxx => ?_) (fun g23xxx => ?_)
        · skip
          refine WL.opG rfl rfl rfl (d_move rfl ?_)
          refine WL.opG rfl rfl rfl (d_cmp (decide ((emptyE (⟨List.replicate 259 (0 : Int), 1, 0, [(0 : Int)], [false]⟩ : DfaD)) = (0 : Int))) rfl rfl rfl ?_)
          refine WL.op rfl (d_pick rfl rfl ?_)
          refine WL.op rfl (d_assign rfl ?_)
          refine WL.done (X.then_code ?_)
          refine W.pick [0] (Γ' := [(0, .bool (decide ((emptyE (⟨List.replicate 259 (0 : Int), 1, 0, [(0 : Int)], [false]⟩ : DfaD)) = (0 : Int))))]) rfl ?_
          refine W.ret (X.ret1 rfl rfl ?_)
          exact ⟨(by exact congrArg Value.bool (decide_eq_true flat_empty.2)), H5.noneL⟩
        · skip
          exact absurd flat_empty.1 g23xxx
      · skip
        exact absurd flat_apart.2.2 g23xx
    · skip
      exact absurd (show ((apartW (flatD true) (flatD false)).length : Int) = 0 by rw [flat_apart.1]; rfl) g23x
  · skip
    exact absurd flat_apart.2.1 g23

end Go.Proofs.Ytoeockpkkmgieaa


/- The walks of functions, printed by wip/tools/gw.py. -/
namespace Go.Proofs.Ytoeockpkkmgieaa
open Go Go.Sx
set_option linter.unusedVariables false
set_option linter.unusedSimpArgs false
set_option maxRecDepth 20000 in
theorem equalLeast_any (a : DfaD) (aca : Option Addr) (ana : Option Addr) (aba : Option Addr) (acc : Nat) (anc : Nat) (abc : Nat) (b : DfaD) (bca : Option Addr) (bna : Option Addr) (bba : Option Addr) (bcc : Nat) (bnc : Nat) (bbc : Nat) (worda : Option Addr) (word : List Int) (wordc : Nat) (w : World) (rca : RdT (tyI .i64) w (.slice aca a.cls.length acc) a.cls) (rna : RdT (tyI .i64) w (.slice ana a.next.length anc) a.next) (rba : RdT tyB w (.slice aba a.acc.length abc) a.acc) (rcb : RdT (tyI .i64) w (.slice bca b.cls.length bcc) b.cls) (rnb : RdT (tyI .i64) w (.slice bna b.next.length bnc) b.next) (rbb : RdT tyB w (.slice bba b.acc.length bbc) b.acc) (rword : RdT (tyI .i64) w (.slice worda word.length wordc) word) (hcw : word.length ≤ wordc) :
    Calls Try.prog 15 #[.agg #[.slice aca a.cls.length acc, .int .i64 a.width, .int .i64 a.start, .slice ana a.next.length anc, .slice aba a.acc.length abc], .agg #[.slice bca b.cls.length bcc, .int .i64 b.width, .int .i64 b.start, .slice bna b.next.length bnc, .slice bba b.acc.length bbc], .slice worda word.length wordc] w (Ret fun v w' => v = .bool true ∧ Upd w [] w' []) := by
  have le_rca := rca.le
  have le_rna := rna.le
  have le_rba := rba.le
  have le_rcb := rcb.le
  have le_rnb := rnb.le
  have le_rbb := rbb.le
  have le_rword := rword.le
  refine calls_of_W (args := [.agg #[.slice aca a.cls.length acc, .int .i64 a.width, .int .i64 a.start, .slice ana a.next.length anc, .slice aba a.acc.length abc], .agg #[.slice bca b.cls.length bcc, .int .i64 b.width, .int .i64 b.start, .slice bna b.next.length bnc, .slice bba b.acc.length bbc], .slice worda word.length wordc]) Try.func15 rfl rfl rfl ?_
  have H0 : UpG w [] w [] := UpG.nil w
  show W _ _ _ _ [(0, .agg #[.slice aca a.cls.length acc, .int .i64 a.width, .int .i64 a.start, .slice ana a.next.length anc, .slice aba a.acc.length abc]), (1, .agg #[.slice bca b.cls.length bcc, .int .i64 b.width, .int .i64 b.start, .slice bna b.next.length bnc, .slice bba b.acc.length bbc]), (2, .slice worda word.length wordc)] w
  refine W.seq ?_
  refine W.region ?_
  refine WL.op rfl (d_box rfl fun w1 u1 => ?_)
  have H1 : UpG w [] w1 [[blk w.heap.size #[.slice aca a.cls.length acc, .int .i64 a.width, .int .i64 a.start, .slice ana a.next.length anc, .slice aba a.acc.length abc] 25]] := H0.new' u1
  refine WL.op rfl (d_box rfl fun w2 u2 => ?_)
  have H2 : UpG w [] w2 [[blk w.heap.size #[.slice aca a.cls.length acc, .int .i64 a.width, .int .i64 a.start, .slice ana a.next.length anc, .slice aba a.acc.length abc] 25], [blk w1.heap.size #[.slice bca b.cls.length bcc, .int .i64 b.width, .int .i64 b.start, .slice bna b.next.length bnc, .slice bba b.acc.length bbc] 25]] := H1.new' u2
  refine WL.op rfl (d_assign rfl ?_)
  refine WL.done (X.then_code ?_)
  refine W.seq ?_
  refine W.seq ?_
  refine W.region ?_
  refine WL.op rfl (d_call ok43 rfl (Ret.calls (awake14_any  w2  ) fun _ w3 p1 => ?_))
  obtain ⟨rfl, u3⟩ := p1
  have H3 : UpG w [] w3 [[blk w.heap.size #[.slice aca a.cls.length acc, .int .i64 a.width, .int .i64 a.start, .slice ana a.next.length anc, .slice aba a.acc.length abc] 25], [blk w1.heap.size #[.slice bca b.cls.length bcc, .int .i64 b.width, .int .i64 b.start, .slice bna b.next.length bnc, .slice bba b.acc.length bbc] 25]] := H2.call u3
  refine WL.op rfl (d_notB rfl ?_)
  refine WL.done (X.then_code ?_)
  refine W.iff rfl ?_
  refine W.skip (X.then_code ?_)
  refine W.seq ?_
  refine W.region ?_
  refine WL.op rfl (d_move rfl ?_)
  refine WL.op rfl (d_move rfl ?_)
  refine WL.op rfl (d_lenS Try.underlying22 rfl ?_)
  refine WL.op rfl (d_min rfl rfl ?_)
  have rs1 := RdT.take rword (min word.length 30) (by omega)
  refine WL.op rfl (t_take (min ((word.length : Nat) : Int) 30) (min word.length 30) (T := (tyI .i64)) (xs := word) rfl Try.underlying22 sz3 rfl rfl (by omega) (by omega) (by omega) ?_)
  refine WL.op rfl (d_assign rfl ?_)
  refine WL.done (X.then_code ?_)
  refine W.seq ?_
  refine W.seq ?_
  refine W.region ?_
  refine WL.op rfl (d_loadAB [.slice aca a.cls.length acc, .int .i64 a.width, .int .i64 a.start, .slice ana a.next.length anc, .slice aba a.acc.length abc] Try.underlying25 rfl sz25 rfl (H3.blk 0 rfl) rfl rfl ?_)
  refine WL.op rfl (d_call ok44 rfl (Ret.calls (small14_any a aca ana aba acc anc abc w3 (rca.at H3) (rna.at H3) (rba.at H3) ) fun _ w4 p2 => ?_))
  obtain ⟨rfl, u4⟩ := p2
  have H4 : UpG w [] w4 [[blk w.heap.size #[.slice aca a.cls.length acc, .int .i64 a.width, .int .i64 a.start, .slice ana a.next.length anc, .slice aba a.acc.length abc] 25], [blk w1.heap.size #[.slice bca b.cls.length bcc, .int .i64 b.width, .int .i64 b.start, .slice bna b.next.length bnc, .slice bba b.acc.length bbc] 25]] := H3.call u4
  refine WL.op rfl (d_notB rfl ?_)
  refine WL.op rfl (d_move rfl ?_)
  refine WL.partB 24 (b := !(decide (a.acc.length ≤ 10 ∧ a.next.length ≤ 3000 ∧ a.cls.length ≤ 300))) rfl (fun g79 => ?_) (fun g79 => ?_)
  · skip
    refine WL.opN rfl rfl rfl rfl ?_
    refine WL.opN rfl rfl rfl rfl ?_
    refine WL.opN rfl rfl rfl rfl ?_
    refine WL.op rfl (d_pick rfl rfl ?_)
    refine WL.done (X.then_code ?_)
    refine W.ift rfl ?_
    refine W.seq ?_
    refine W.region ?_
    refine WL.op rfl (d_assign rfl ?_)
    refine WL.done (X.then_code ?_)
    refine W.ret (X.then_ret (X.ret1 rfl rfl ?_))
    exact ⟨rfl, H4.noneL⟩
  · skip
    refine WL.opG rfl rfl rfl (d_loadAB [.slice bca b.cls.length bcc, .int .i64 b.width, .int .i64 b.start, .slice bna b.next.length bnc, .slice bba b.acc.length bbc] Try.underlying25 rfl sz25 rfl (H4.blk 1 rfl) rfl rfl ?_)
    refine WL.opG rfl rfl rfl (d_call ok44 rfl (Ret.calls (small14_any b bca bna bba bcc bnc bbc w4 (rcb.at H4) (rnb.at H4) (rbb.at H4) ) fun _ w5 p3 => ?_))
    obtain ⟨rfl, u5⟩ := p3
    have H5 : UpG w [] w5 [[blk w.heap.size #[.slice aca a.cls.length acc, .int .i64 a.width, .int .i64 a.start, .slice ana a.next.length anc, .slice aba a.acc.length abc] 25], [blk w1.heap.size #[.slice bca b.cls.length bcc, .int .i64 b.width, .int .i64 b.start, .slice bna b.next.length bnc, .slice bba b.acc.length bbc] 25]] := H4.call u5
    refine WL.opG rfl rfl rfl (d_notB rfl ?_)
    refine WL.op rfl (d_pick rfl rfl ?_)
    refine WL.done (X.then_code ?_)
    refine W.iteB (b := !(decide (b.acc.length ≤ 10 ∧ b.next.length ≤ 3000 ∧ b.cls.length ≤ 300))) rfl (fun c79 => ?_) (fun c79 => ?_)
    · skip
      refine W.seq ?_
      refine W.region ?_
      refine WL.op rfl (d_assign rfl ?_)
      refine WL.done (X.then_code ?_)
      refine W.ret (X.then_ret (X.ret1 rfl rfl ?_))
      exact ⟨rfl, H5.noneL⟩
    · skip
      refine W.skip (X.then_code ?_)
      refine W.seq ?_
      have hsa : a.acc.length ≤ 10 ∧ a.next.length ≤ 3000 ∧ a.cls.length ≤ 300 := by simpa using g79
      have hsb : b.acc.length ≤ 10 ∧ b.next.length ≤ 3000 ∧ b.cls.length ≤ 300 := by simpa using c79
      refine W.region ?_
      refine WL.op rfl (d_loadAB [.slice aca a.cls.length acc, .int .i64 a.width, .int .i64 a.start, .slice ana a.next.length anc, .slice aba a.acc.length abc] Try.underlying25 rfl sz25 rfl (H5.blk 0 rfl) rfl rfl ?_)
      refine WL.op rfl (d_loadAB [.slice bca b.cls.length bcc, .int .i64 b.width, .int .i64 b.start, .slice bna b.next.length bnc, .slice bba b.acc.length bbc] Try.underlying25 rfl sz25 rfl (H5.blk 1 rfl) rfl rfl ?_)
      refine WL.op rfl (d_call ok45 rfl (Ret.calls (apart_any a aca ana aba acc anc abc b bca bna bba bcc bnc bbc w5 (rca.at H5) (rna.at H5) (rba.at H5) (rcb.at H5) (rnb.at H5) (rbb.at H5) (by omega)) fun _ w6 p4 => ?_))
      obtain ⟨a2_1, c2_1, rfl, u6⟩ := p4
      have H6 : UpG w [] w6 [[blk w.heap.size #[.slice aca a.cls.length acc, .int .i64 a.width, .int .i64 a.start, .slice ana a.next.length anc, .slice aba a.acc.length abc] 25], [blk w1.heap.size #[.slice bca b.cls.length bcc, .int .i64 b.width, .int .i64 b.start, .slice bna b.next.length bnc, .slice bba b.acc.length bbc] 25], [rowT (tyI .i64) (.slice a2_1 ((apartW a b).length) c2_1) 3 (apartW a b)]] := (H5.new' u6).re rfl
      refine WL.op rfl (d_move rfl ?_)
      refine WL.op rfl (d_extract rfl rfl ?_)
      refine WL.op rfl (d_extract rfl rfl ?_)
      refine WL.op rfl (d_extract rfl rfl ?_)
      refine WL.op rfl (d_assign rfl ?_)
      refine WL.op rfl (d_assign rfl ?_)
      refine WL.op rfl (d_assign rfl ?_)
      refine WL.done (X.then_code ?_)
      refine W.pick [9, 8, 2, 6, 4, 3] (Γ' := [(9, .int .i64 (apartE a b)), (8, .bool (apartI a b)), (2, .slice worda ((word.take (min word.length 30)).length) wordc), (6, .bool false), (4, .pointer (some ⟨w1.heap.size, 0, none⟩)), (3, .pointer (some ⟨w.heap.size, 0, none⟩))]) rfl ?_
      refine W.seq ?_
      refine W.region ?_
      refine WL.op rfl (d_loadAB [.slice aca a.cls.length acc, .int .i64 a.width, .int .i64 a.start, .slice ana a.next.length anc, .slice aba a.acc.length abc] Try.underlying25 rfl sz25 rfl (H6.blk 0 rfl) rfl rfl ?_)
      refine WL.op rfl (d_call ok52 rfl (Ret.calls (miniOf_any a aca ana aba acc anc abc w6 (rca.at H6) (rna.at H6) (rba.at H6) (by omega)) fun _ w7 p5 => ?_))
      obtain ⟨ca_1, cc_1, na_1, nc_1, ba_1, bc_1, rfl, u7⟩ := p5
      have H7 : UpG w [] w7 [[blk w.heap.size #[.slice aca a.cls.length acc, .int .i64 a.width, .int .i64 a.start, .slice ana a.next.length anc, .slice aba a.acc.length abc] 25], [blk w1.heap.size #[.slice bca b.cls.length bcc, .int .i64 b.width, .int .i64 b.start, .slice bna b.next.length bnc, .slice bba b.acc.length bbc] 25], [rowT (tyI .i64) (.slice a2_1 ((apartW a b).length) c2_1) 3 (apartW a b)], [rowT (tyI .i64) (.slice ca_1 (((leastO a).cls).length) cc_1) 3 ((leastO a).cls)], [rowT (tyI .i64) (.slice na_1 (((leastO a).next).length) nc_1) 3 ((leastO a).next)], [rowT tyB (.slice ba_1 (((leastO a).acc).length) bc_1) 4 ((leastO a).acc)]] := (H6.new' u7).re rfl
      refine WL.op rfl (d_move rfl ?_)
      refine WL.op rfl (d_extract rfl rfl ?_)
      refine WL.op rfl (d_extract rfl rfl ?_)
      refine WL.op rfl (d_alloc sz25 fun w8 u8 => ?_)
      have H8 : UpG w [] w8 [[blk w.heap.size #[.slice aca a.cls.length acc, .int .i64 a.width, .int .i64 a.start, .slice ana a.next.length anc, .slice aba a.acc.length abc] 25], [blk w1.heap.size #[.slice bca b.cls.length bcc, .int .i64 b.width, .int .i64 b.start, .slice bna b.next.length bnc, .slice bba b.acc.length bbc] 25], [rowT (tyI .i64) (.slice a2_1 ((apartW a b).length) c2_1) 3 (apartW a b)], [rowT (tyI .i64) (.slice ca_1 (((leastO a).cls).length) cc_1) 3 ((leastO a).cls)], [rowT (tyI .i64) (.slice na_1 (((leastO a).next).length) nc_1) 3 ((leastO a).next)], [rowT tyB (.slice ba_1 (((leastO a).acc).length) bc_1) 4 ((leastO a).acc)], [blk w7.heap.size #[.slice none 0 0, .int .i64 0, .int .i64 0, .slice none 0 0, .slice none 0 0] 25]] := H7.new' u8
      refine WL.op0 (d_storeAB (us := [.slice ca_1 (((leastO a).cls).length) cc_1, .int .i64 ((leastO a).width), .int .i64 ((leastO a).start), .slice na_1 (((leastO a).next).length) nc_1, .slice ba_1 (((leastO a).acc).length) bc_1]) (cs' := #[.slice ca_1 (((leastO a).cls).length) cc_1, .int .i64 ((leastO a).width), .int .i64 ((leastO a).start), .slice na_1 (((leastO a).next).length) nc_1, .slice ba_1 (((leastO a).acc).length) bc_1]) sz25 rfl rfl rfl rfl (H8.blk 6 rfl) rfl rfl fun w9 u9 => ?_)
      have H9 : UpG w [] w9 [[blk w.heap.size #[.slice aca a.cls.length acc, .int .i64 a.width, .int .i64 a.start, .slice ana a.next.length anc, .slice aba a.acc.length abc] 25], [blk w1.heap.size #[.slice bca b.cls.length bcc, .int .i64 b.width, .int .i64 b.start, .slice bna b.next.length bnc, .slice bba b.acc.length bbc] 25], [rowT (tyI .i64) (.slice a2_1 ((apartW a b).length) c2_1) 3 (apartW a b)], [rowT (tyI .i64) (.slice ca_1 (((leastO a).cls).length) cc_1) 3 ((leastO a).cls)], [rowT (tyI .i64) (.slice na_1 (((leastO a).next).length) nc_1) 3 ((leastO a).next)], [rowT tyB (.slice ba_1 (((leastO a).acc).length) bc_1) 4 ((leastO a).acc)], [blk w7.heap.size #[.slice ca_1 (((leastO a).cls).length) cc_1, .int .i64 ((leastO a).width), .int .i64 ((leastO a).start), .slice na_1 (((leastO a).next).length) nc_1, .slice ba_1 (((leastO a).acc).length) bc_1] 25]] := H8.on 6 rfl u9
      refine WL.op rfl (d_assign rfl ?_)
      refine WL.done (X.then_code ?_)
      refine W.seq ?_
      refine W.region ?_
      refine WL.op rfl (d_loadAB [.slice bca b.cls.length bcc, .int .i64 b.width, .int .i64 b.start, .slice bna b.next.length bnc, .slice bba b.acc.length bbc] Try.underlying25 rfl sz25 rfl (H9.blk 1 rfl) rfl rfl ?_)
      refine WL.op rfl (d_call ok52 rfl (Ret.calls (miniOf_any b bca bna bba bcc bnc bbc w9 (rcb.at H9) (rnb.at H9) (rbb.at H9) (by omega)) fun _ w10 p6 => ?_))
      obtain ⟨ca_2, cc_2, na_2, nc_2, ba_2, bc_2, rfl, u10⟩ := p6
      have H10 : UpG w [] w10 [[blk w.heap.size #[.slice aca a.cls.length acc, .int .i64 a.width, .int .i64 a.start, .slice ana a.next.length anc, .slice aba a.acc.length abc] 25], [blk w1.heap.size #[.slice bca b.cls.length bcc, .int .i64 b.width, .int .i64 b.start, .slice bna b.next.length bnc, .slice bba b.acc.length bbc] 25], [rowT (tyI .i64) (.slice a2_1 ((apartW a b).length) c2_1) 3 (apartW a b)], [rowT (tyI .i64) (.slice ca_1 (((leastO a).cls).length) cc_1) 3 ((leastO a).cls)], [rowT (tyI .i64) (.slice na_1 (((leastO a).next).length) nc_1) 3 ((leastO a).next)], [rowT tyB (.slice ba_1 (((leastO a).acc).length) bc_1) 4 ((leastO a).acc)], [blk w7.heap.size #[.slice ca_1 (((leastO a).cls).length) cc_1, .int .i64 ((leastO a).width), .int .i64 ((leastO a).start), .slice na_1 (((leastO a).next).length) nc_1, .slice ba_1 (((leastO a).acc).length) bc_1] 25], [rowT (tyI .i64) (.slice ca_2 (((leastO b).cls).length) cc_2) 3 ((leastO b).cls)], [rowT (tyI .i64) (.slice na_2 (((leastO b).next).length) nc_2) 3 ((leastO b).next)], [rowT tyB (.slice ba_2 (((leastO b).acc).length) bc_2) 4 ((leastO b).acc)]] := (H9.new' u10).re rfl
      refine WL.op rfl (d_move rfl ?_)
      refine WL.op rfl (d_extract rfl rfl ?_)
      refine WL.op rfl (d_extract rfl rfl ?_)
      refine WL.op rfl (d_alloc sz25 fun w11 u11 => ?_)
      have H11 : UpG w [] w11 [[blk w.heap.size #[.slice aca a.cls.length acc, .int .i64 a.width, .int .i64 a.start, .slice ana a.next.length anc, .slice aba a.acc.length abc] 25], [blk w1.heap.size #[.slice bca b.cls.length bcc, .int .i64 b.width, .int .i64 b.start, .slice bna b.next.length bnc, .slice bba b.acc.length bbc] 25], [rowT (tyI .i64) (.slice a2_1 ((apartW a b).length) c2_1) 3 (apartW a b)], [rowT (tyI .i64) (.slice ca_1 (((leastO a).cls).length) cc_1) 3 ((leastO a).cls)], [rowT (tyI .i64) (.slice na_1 (((leastO a).next).length) nc_1) 3 ((leastO a).next)], [rowT tyB (.slice ba_1 (((leastO a).acc).length) bc_1) 4 ((leastO a).acc)], [blk w7.heap.size #[.slice ca_1 (((leastO a).cls).length) cc_1, .int .i64 ((leastO a).width), .int .i64 ((leastO a).start), .slice na_1 (((leastO a).next).length) nc_1, .slice ba_1 (((leastO a).acc).length) bc_1] 25], [rowT (tyI .i64) (.slice ca_2 (((leastO b).cls).length) cc_2) 3 ((leastO b).cls)], [rowT (tyI .i64) (.slice na_2 (((leastO b).next).length) nc_2) 3 ((leastO b).next)], [rowT tyB (.slice ba_2 (((leastO b).acc).length) bc_2) 4 ((leastO b).acc)], [blk w10.heap.size #[.slice none 0 0, .int .i64 0, .int .i64 0, .slice none 0 0, .slice none 0 0] 25]] := H10.new' u11
      refine WL.op0 (d_storeAB (us := [.slice ca_2 (((leastO b).cls).length) cc_2, .int .i64 ((leastO b).width), .int .i64 ((leastO b).start), .slice na_2 (((leastO b).next).length) nc_2, .slice ba_2 (((leastO b).acc).length) bc_2]) (cs' := #[.slice ca_2 (((leastO b).cls).length) cc_2, .int .i64 ((leastO b).width), .int .i64 ((leastO b).start), .slice na_2 (((leastO b).next).length) nc_2, .slice ba_2 (((leastO b).acc).length) bc_2]) sz25 rfl rfl rfl rfl (H11.blk 10 rfl) rfl rfl fun w12 u12 => ?_)
      have H12 : UpG w [] w12 [[blk w.heap.size #[.slice aca a.cls.length acc, .int .i64 a.width, .int .i64 a.start, .slice ana a.next.length anc, .slice aba a.acc.length abc] 25], [blk w1.heap.size #[.slice bca b.cls.length bcc, .int .i64 b.width, .int .i64 b.start, .slice bna b.next.length bnc, .slice bba b.acc.length bbc] 25], [rowT (tyI .i64) (.slice a2_1 ((apartW a b).length) c2_1) 3 (apartW a b)], [rowT (tyI .i64) (.slice ca_1 (((leastO a).cls).length) cc_1) 3 ((leastO a).cls)], [rowT (tyI .i64) (.slice na_1 (((leastO a).next).length) nc_1) 3 ((leastO a).next)], [rowT tyB (.slice ba_1 (((leastO a).acc).length) bc_1) 4 ((leastO a).acc)], [blk w7.heap.size #[.slice ca_1 (((leastO a).cls).length) cc_1, .int .i64 ((leastO a).width), .int .i64 ((leastO a).start), .slice na_1 (((leastO a).next).length) nc_1, .slice ba_1 (((leastO a).acc).length) bc_1] 25], [rowT (tyI .i64) (.slice ca_2 (((leastO b).cls).length) cc_2) 3 ((leastO b).cls)], [rowT (tyI .i64) (.slice na_2 (((leastO b).next).length) nc_2) 3 ((leastO b).next)], [rowT tyB (.slice ba_2 (((leastO b).acc).length) bc_2) 4 ((leastO b).acc)], [blk w10.heap.size #[.slice ca_2 (((leastO b).cls).length) cc_2, .int .i64 ((leastO b).width), .int .i64 ((leastO b).start), .slice na_2 (((leastO b).next).length) nc_2, .slice ba_2 (((leastO b).acc).length) bc_2] 25]] := H11.on 10 rfl u12
      refine WL.op rfl (d_assign rfl ?_)
      refine WL.done (X.then_code ?_)
      refine W.seq ?_
      refine W.seq ?_
      refine W.region ?_
      refine WL.op rfl (d_move rfl ?_)
      refine WL.op rfl (d_cmp (decide ((apartE a b) ≠ (0 : Int))) rfl rfl rfl ?_)
      refine WL.done (X.then_code ?_)
      refine W.ite (p := (apartE a b) ≠ (0 : Int)) rfl (fun c85 => ?_) (fun c85 => ?_)
      · skip
        refine W.seq ?_
        refine W.region ?_
        refine WL.op rfl (d_move rfl ?_)
        refine WL.op rfl (d_cmp (decide ((leastE a) ≠ (0 : Int))) rfl rfl rfl ?_)
        refine WL.op rfl (d_move rfl ?_)
        refine WL.part 50 (p := (leastE a) ≠ (0 : Int)) rfl (fun g86 => ?_) (fun g86 => ?_)
        · skip
          refine WL.opN rfl rfl rfl rfl ?_
          refine WL.opN rfl rfl rfl rfl ?_
          refine WL.op rfl (d_pick rfl rfl ?_)
          refine WL.op rfl (d_assign rfl ?_)
          refine WL.done (X.then_code ?_)
          refine W.ret (X.then_ret (X.ret1 rfl rfl ?_))
          exact ⟨rfl, H12.noneL⟩
        · skip
          refine WL.opG rfl rfl rfl (d_move rfl ?_)
          refine WL.opG rfl rfl rfl (d_cmp (decide ((leastE b) ≠ (0 : Int))) rfl rfl rfl ?_)
          refine WL.op rfl (d_pick rfl rfl ?_)
          refine WL.op rfl (d_assign rfl ?_)
          refine WL.done (X.then_code ?_)
          refine W.ret (X.then_ret (X.ret1 rfl rfl ?_))
          exact ⟨(by first | rfl | exact congrArg Value.bool (decide_eq_true (fun h9 => c85 (by have h8 : rightB a = true := Classical.byContradiction (fun h7 => g86 (by rw [leastE, if_neg h7]; decide)); have h6 : rightB b = true := Classical.byContradiction (fun h7 => by rw [leastE, if_neg h7] at h9; exact absurd h9 (by decide)); rw [apartE, if_pos ⟨h8, h6⟩])))), H12.noneL⟩
      · skip
        refine W.skip (X.then_code ?_)
        refine W.seq ?_
        refine W.seq ?_
        have hrab := apartE_ok (a := a) (b := b) (by omega)
        have hra := hrab.1
        have hrb := hrab.2
        refine W.region ?_
        refine WL.op rfl (d_move rfl ?_)
        refine WL.op rfl (d_cmp (decide ((leastE a) ≠ (0 : Int))) rfl rfl rfl ?_)
        refine WL.op rfl (d_move rfl ?_)
        refine WL.part 56 (p := (leastE a) ≠ (0 : Int)) rfl (fun g88 => ?_) (fun g88 => ?_)
        · skip
          exact absurd (leastO_right hra).2 g88
        · skip
          refine WL.opG rfl rfl rfl (d_move rfl ?_)
          refine WL.opG rfl rfl rfl (d_cmp (decide ((leastE b) ≠ (0 : Int))) rfl rfl rfl ?_)
          refine WL.op rfl (d_pick rfl rfl ?_)
          refine WL.op rfl (d_move rfl ?_)
          refine WL.part 60 (p := (leastE b) ≠ (0 : Int)) rfl (fun g88x => ?_) (fun g88x => ?_)
          · skip
            exact absurd (leastO_right hrb).2 g88x
          · skip
            refine WL.opG rfl rfl rfl (d_move rfl ?_)
            refine WL.opG rfl rfl rfl (d_loadAB [.slice ca_1 (((leastO a).cls).length) cc_1, .int .i64 ((leastO a).width), .int .i64 ((leastO a).start), .slice na_1 (((leastO a).next).length) nc_1, .slice ba_1 (((leastO a).acc).length) bc_1] Try.underlying25 rfl sz25 rfl (H12.blk 6 rfl) rfl rfl ?_)
            refine WL.opG rfl rfl rfl (d_loadAB [.slice ca_2 (((leastO b).cls).length) cc_2, .int .i64 ((leastO b).width), .int .i64 ((leastO b).start), .slice na_2 (((leastO b).next).length) nc_2, .slice ba_2 (((leastO b).acc).length) bc_2] Try.underlying25 rfl sz25 rfl (H12.blk 10 rfl) rfl rfl ?_)
            refine WL.opG rfl rfl rfl (d_call ok40 rfl (Ret.calls (sameM_any (leastO a) ca_1 na_1 ba_1 cc_1 nc_1 bc_1 (leastO b) ca_2 na_2 ba_2 cc_2 nc_2 bc_2 w12 (H12.rdT 3 rfl) (H12.rdT 4 rfl) (H12.rdT 5 rfl) (H12.rdT 7 rfl) (H12.rdT 8 rfl) (H12.rdT 9 rfl) ) fun _ w13 p7 => ?_))
            obtain ⟨rfl, u13⟩ := p7
            have H13 : UpG w [] w13 [[blk w.heap.size #[.slice aca a.cls.length acc, .int .i64 a.width, .int .i64 a.start, .slice ana a.next.length anc, .slice aba a.acc.length abc] 25], [blk w1.heap.size #[.slice bca b.cls.length bcc, .int .i64 b.width, .int .i64 b.start, .slice bna b.next.length bnc, .slice bba b.acc.length bbc] 25], [rowT (tyI .i64) (.slice a2_1 ((apartW a b).length) c2_1) 3 (apartW a b)], [rowT (tyI .i64) (.slice ca_1 (((leastO a).cls).length) cc_1) 3 ((leastO a).cls)], [rowT (tyI .i64) (.slice na_1 (((leastO a).next).length) nc_1) 3 ((leastO a).next)], [rowT tyB (.slice ba_1 (((leastO a).acc).length) bc_1) 4 ((leastO a).acc)], [blk w7.heap.size #[.slice ca_1 (((leastO a).cls).length) cc_1, .int .i64 ((leastO a).width), .int .i64 ((leastO a).start), .slice na_1 (((leastO a).next).length) nc_1, .slice ba_1 (((leastO a).acc).length) bc_1] 25], [rowT (tyI .i64) (.slice ca_2 (((leastO b).cls).length) cc_2) 3 ((leastO b).cls)], [rowT (tyI .i64) (.slice na_2 (((leastO b).next).length) nc_2) 3 ((leastO b).next)], [rowT tyB (.slice ba_2 (((leastO b).acc).length) bc_2) 4 ((leastO b).acc)], [blk w10.heap.size #[.slice ca_2 (((leastO b).cls).length) cc_2, .int .i64 ((leastO b).width), .int .i64 ((leastO b).start), .slice na_2 (((leastO b).next).length) nc_2, .slice ba_2 (((leastO b).acc).length) bc_2] 25]] := H12.call u13
            refine WL.opG rfl rfl rfl (d_booleq Try.underlying4 rfl rfl ?_)
            refine WL.op rfl (d_pick rfl rfl ?_)
            refine WL.done (X.then_code ?_)
            refine W.pick [66, 8, 2, 6, 4, 3] (Γ' := [(66, .bool (decide ((apartI a b) = (sameD (leastO a) (leastO b))))), (8, .bool (apartI a b)), (2, .slice worda ((word.take (min word.length 30)).length) wordc), (6, .bool false), (4, .pointer (some ⟨w1.heap.size, 0, none⟩)), (3, .pointer (some ⟨w.heap.size, 0, none⟩))]) rfl ?_
            refine W.ite (p := (apartI a b) = (sameD (leastO a) (leastO b))) rfl (fun c88 => ?_) (fun c88 => ?_)
            · skip
              exfalso; rw [apart_least hra hrb, (leastO_right hra).1, (leastO_right hrb).1] at c88; cases h9 : sameD (leastD a) (leastD b) <;> rw [h9] at c88 <;> cases c88
            · skip
              refine W.skip (X.then_code ?_)
              refine W.seq ?_
              refine W.regionD mixed (by kernel_rfl) fun hok1 w14 k1 => ?_
              have H14 : UpG w [] w14 [[blk w.heap.size #[.slice aca a.cls.length acc, .int .i64 a.width, .int .i64 a.start, .slice ana a.next.length anc, .slice aba a.acc.length abc] 25], [blk w1.heap.size #[.slice bca b.cls.length bcc, .int .i64 b.width, .int .i64 b.start, .slice bna b.next.length bnc, .slice bba b.acc.length bbc] 25], [rowT (tyI .i64) (.slice a2_1 ((apartW a b).length) c2_1) 3 (apartW a b)], [rowT (tyI .i64) (.slice ca_1 (((leastO a).cls).length) cc_1) 3 ((leastO a).cls)], [rowT (tyI .i64) (.slice na_1 (((leastO a).next).length) nc_1) 3 ((leastO a).next)], [rowT tyB (.slice ba_1 (((leastO a).acc).length) bc_1) 4 ((leastO a).acc)], [blk w7.heap.size #[.slice ca_1 (((leastO a).cls).length) cc_1, .int .i64 ((leastO a).width), .int .i64 ((leastO a).start), .slice na_1 (((leastO a).next).length) nc_1, .slice ba_1 (((leastO a).acc).length) bc_1] 25], [rowT (tyI .i64) (.slice ca_2 (((leastO b).cls).length) cc_2) 3 ((leastO b).cls)], [rowT (tyI .i64) (.slice na_2 (((leastO b).next).length) nc_2) 3 ((leastO b).next)], [rowT tyB (.slice ba_2 (((leastO b).acc).length) bc_2) 4 ((leastO b).acc)], [blk w10.heap.size #[.slice ca_2 (((leastO b).cls).length) cc_2, .int .i64 ((leastO b).width), .int .i64 ((leastO b).start), .slice na_2 (((leastO b).next).length) nc_2, .slice ba_2 (((leastO b).acc).length) bc_2] 25]] := H13.kept k1
              refine WD.take hok1 0 (.bool (apartI a b)) (fun _ => True) rfl rfl rfl rfl rfl trivial (.inl ⟨rfl, fun _ _ => d_move rfl ⟨rfl, rfl⟩⟩) ?_
              refine WD.take hok1 1 (.bool (apartI a b)) (fun _ => True) rfl rfl rfl rfl rfl trivial (.inl ⟨rfl, fun _ _ => d_move rfl ⟨rfl, rfl⟩⟩) ?_
              refine WD.partB 68 (b := apartI a b) rfl (fun g91 => ?_) (fun g91 => ?_)
              · skip
                refine WD.take hok1 2 undef (fun _ => True) rfl rfl rfl rfl rfl trivial (.inr ⟨rfl, rfl⟩) ?_
                refine WD.take hok1 3 undef (fun _ => True) rfl rfl rfl rfl rfl trivial (.inr ⟨rfl, rfl⟩) ?_
                refine WD.take hok1 4 undef (fun _ => True) rfl rfl rfl rfl rfl trivial (.inr ⟨rfl, rfl⟩) ?_
                refine WD.take hok1 5 undef (fun _ => True) rfl rfl rfl rfl rfl trivial (.inr ⟨rfl, rfl⟩) ?_
                refine WD.take hok1 6 undef (fun _ => True) rfl rfl rfl rfl rfl trivial (.inr ⟨rfl, rfl⟩) ?_
                refine WD.take hok1 7 undef (fun _ => True) rfl rfl rfl rfl rfl trivial (.inr ⟨rfl, rfl⟩) ?_
                refine WD.take hok1 8 undef (fun _ => True) rfl rfl rfl rfl rfl trivial (.inr ⟨rfl, rfl⟩) ?_
                refine WD.take hok1 9 (.bool true) (fun _ => True) rfl rfl rfl rfl rfl trivial (.inl ⟨rfl, fun _ _ => d_pick rfl rfl ⟨rfl, rfl⟩⟩) ?_
                refine WD.take hok1 10 (.bool true) (fun _ => True) rfl rfl rfl rfl rfl trivial (.inl ⟨rfl, fun _ _ => d_assign rfl ⟨rfl, rfl⟩⟩) ?_
                refine WD.done hok1 rfl (X.then_code ?_)
                refine W.ret (X.ret1 rfl rfl ?_)
                exact ⟨rfl, H14.noneL⟩
              · skip
                refine WD.take hok1 2 (.agg #[.slice aca a.cls.length acc, .int .i64 a.width, .int .i64 a.start, .slice ana a.next.length anc, .slice aba a.acc.length abc]) (fun w' => w'.heap[w.heap.size]? = some (.cells #[.slice aca a.cls.length acc, .int .i64 a.width, .int .i64 a.start, .slice ana a.next.length anc, .slice aba a.acc.length abc] 25 (0, 0))) rfl rfl rfl rfl rfl (H14.blk 0 rfl) (.inl ⟨rfl, fun _ hC => d_loadAB [.slice aca a.cls.length acc, .int .i64 a.width, .int .i64 a.start, .slice ana a.next.length anc, .slice aba a.acc.length abc] Try.underlying25 rfl sz25 rfl hC rfl rfl ⟨rfl, rfl⟩⟩) ?_
                refine WD.take hok1 3 (.slice worda ((word.take (min word.length 30)).length) wordc) (fun _ => True) rfl rfl rfl rfl rfl trivial (.inl ⟨rfl, fun _ _ => d_move rfl ⟨rfl, rfl⟩⟩) ?_
                refine WD.take hok1 5 (.agg #[.slice bca b.cls.length bcc, .int .i64 b.width, .int .i64 b.start, .slice bna b.next.length bnc, .slice bba b.acc.length bbc]) (fun w' => w'.heap[w1.heap.size]? = some (.cells #[.slice bca b.cls.length bcc, .int .i64 b.width, .int .i64 b.start, .slice bna b.next.length bnc, .slice bba b.acc.length bbc] 25 (0, 0))) rfl rfl rfl rfl rfl (H14.blk 1 rfl) (.inl ⟨rfl, fun _ hC => d_loadAB [.slice bca b.cls.length bcc, .int .i64 b.width, .int .i64 b.start, .slice bna b.next.length bnc, .slice bba b.acc.length bbc] Try.underlying25 rfl sz25 rfl hC rfl rfl ⟨rfl, rfl⟩⟩) ?_
                refine WD.take hok1 6 (.slice worda ((word.take (min word.length 30)).length) wordc) (fun _ => True) rfl rfl rfl rfl rfl trivial (.inl ⟨rfl, fun _ _ => d_move rfl ⟨rfl, rfl⟩⟩) ?_
                refine WD.loud hok1 4 rfl (⟨_, [⟨6, .slice worda ((word.take (min word.length 30)).length) wordc, (fun _ => True)⟩, ⟨5, .agg #[.slice bca b.cls.length bcc, .int .i64 b.width, .int .i64 b.start, .slice bna b.next.length bnc, .slice bba b.acc.length bbc], (fun w' => w'.heap[w1.heap.size]? = some (.cells #[.slice bca b.cls.length bcc, .int .i64 b.width, .int .i64 b.start, .slice bna b.next.length bnc, .slice bba b.acc.length bbc] 25 (0, 0)))⟩], rfl, rfl, rfl, rfl, rfl, rfl, d_call ok26 rfl (Ret.calls (accepts_any a aca ana aba acc anc abc worda (word.take (min word.length 30)) wordc w14 (rca.at H14) (rna.at H14) (rba.at H14) (rs1.at H14) ) fun _ w15 p8 => ?_)⟩)
                obtain ⟨rfl, u14⟩ := p8
                have H15 : UpG w [] w15 [[blk w.heap.size #[.slice aca a.cls.length acc, .int .i64 a.width, .int .i64 a.start, .slice ana a.next.length anc, .slice aba a.acc.length abc] 25], [blk w1.heap.size #[.slice bca b.cls.length bcc, .int .i64 b.width, .int .i64 b.start, .slice bna b.next.length bnc, .slice bba b.acc.length bbc] 25], [rowT (tyI .i64) (.slice a2_1 ((apartW a b).length) c2_1) 3 (apartW a b)], [rowT (tyI .i64) (.slice ca_1 (((leastO a).cls).length) cc_1) 3 ((leastO a).cls)], [rowT (tyI .i64) (.slice na_1 (((leastO a).next).length) nc_1) 3 ((leastO a).next)], [rowT tyB (.slice ba_1 (((leastO a).acc).length) bc_1) 4 ((leastO a).acc)], [blk w7.heap.size #[.slice ca_1 (((leastO a).cls).length) cc_1, .int .i64 ((leastO a).width), .int .i64 ((leastO a).start), .slice na_1 (((leastO a).next).length) nc_1, .slice ba_1 (((leastO a).acc).length) bc_1] 25], [rowT (tyI .i64) (.slice ca_2 (((leastO b).cls).length) cc_2) 3 ((leastO b).cls)], [rowT (tyI .i64) (.slice na_2 (((leastO b).next).length) nc_2) 3 ((leastO b).next)], [rowT tyB (.slice ba_2 (((leastO b).acc).length) bc_2) 4 ((leastO b).acc)], [blk w10.heap.size #[.slice ca_2 (((leastO b).cls).length) cc_2, .int .i64 ((leastO b).width), .int .i64 ((leastO b).start), .slice na_2 (((leastO b).next).length) nc_2, .slice ba_2 (((leastO b).acc).length) bc_2] 25]] := H14.call u14
                refine ⟨⟨trivial, (H15.blk 1 rfl), trivial⟩, ?_⟩
                refine WD.loud hok1 7 rfl (⟨_, [], rfl, rfl, rfl, rfl, rfl, rfl, d_call ok26 rfl (Ret.calls (accepts_any b bca bna bba bcc bnc bbc worda (word.take (min word.length 30)) wordc w15 (rcb.at H15) (rnb.at H15) (rbb.at H15) (rs1.at H15) ) fun _ w16 p9 => ?_)⟩)
                obtain ⟨rfl, u15⟩ := p9
                have H16 : UpG w [] w16 [[blk w.heap.size #[.slice aca a.cls.length acc, .int .i64 a.width, .int .i64 a.start, .slice ana a.next.length anc, .slice aba a.acc.length abc] 25], [blk w1.heap.size #[.slice bca b.cls.length bcc, .int .i64 b.width, .int .i64 b.start, .slice bna b.next.length bnc, .slice bba b.acc.length bbc] 25], [rowT (tyI .i64) (.slice a2_1 ((apartW a b).length) c2_1) 3 (apartW a b)], [rowT (tyI .i64) (.slice ca_1 (((leastO a).cls).length) cc_1) 3 ((leastO a).cls)], [rowT (tyI .i64) (.slice na_1 (((leastO a).next).length) nc_1) 3 ((leastO a).next)], [rowT tyB (.slice ba_1 (((leastO a).acc).length) bc_1) 4 ((leastO a).acc)], [blk w7.heap.size #[.slice ca_1 (((leastO a).cls).length) cc_1, .int .i64 ((leastO a).width), .int .i64 ((leastO a).start), .slice na_1 (((leastO a).next).length) nc_1, .slice ba_1 (((leastO a).acc).length) bc_1] 25], [rowT (tyI .i64) (.slice ca_2 (((leastO b).cls).length) cc_2) 3 ((leastO b).cls)], [rowT (tyI .i64) (.slice na_2 (((leastO b).next).length) nc_2) 3 ((leastO b).next)], [rowT tyB (.slice ba_2 (((leastO b).acc).length) bc_2) 4 ((leastO b).acc)], [blk w10.heap.size #[.slice ca_2 (((leastO b).cls).length) cc_2, .int .i64 ((leastO b).width), .int .i64 ((leastO b).start), .slice na_2 (((leastO b).next).length) nc_2, .slice ba_2 (((leastO b).acc).length) bc_2] 25]] := H15.call u15
                refine ⟨trivial, ?_⟩
                refine WD.take hok1 8 (.bool (decide ((acceptsB a (word.take (min word.length 30))) = (acceptsB b (word.take (min word.length 30)))))) (fun _ => True) rfl rfl rfl rfl rfl trivial (.inl ⟨rfl, fun _ _ => d_booleq Try.underlying4 rfl rfl ⟨rfl, rfl⟩⟩) ?_
                refine WD.take hok1 9 (.bool (decide ((acceptsB a (word.take (min word.length 30))) = (acceptsB b (word.take (min word.length 30)))))) (fun _ => True) rfl rfl rfl rfl rfl trivial (.inl ⟨rfl, fun _ _ => d_pick rfl rfl ⟨rfl, rfl⟩⟩) ?_
                refine WD.take hok1 10 (.bool (decide ((acceptsB a (word.take (min word.length 30))) = (acceptsB b (word.take (min word.length 30)))))) (fun _ => True) rfl rfl rfl rfl rfl trivial (.inl ⟨rfl, fun _ _ => d_assign rfl ⟨rfl, rfl⟩⟩) ?_
                refine WD.done hok1 rfl (X.then_code ?_)
                refine W.ret (X.ret1 rfl rfl ?_)
                exact ⟨(by first | rfl | rw [decide_eq_true (apart_not hra hrb g91 _)]), H16.noneL⟩
end Go.Proofs.Ytoeockpkkmgieaa

