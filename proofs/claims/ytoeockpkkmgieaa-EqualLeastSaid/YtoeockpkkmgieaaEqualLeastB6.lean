/- The walks of functions, printed by wip/tools/gw.py. -/
import Derived.Test.YtoeockpkkmgieaaEqualLeastB1
import Derived.Test.YtoeockpkkmgieaaEqualLeastB5
import Derived.Test.YtoeockpkkmgieaaEqualLeastB2
import Derived.Test.YtoeockpkkmgieaaEqualLeastB3
namespace Go.Proofs.Ytoeockpkkmgieaa
open Go Go.Sx
set_option linter.unusedVariables false
set_option linter.unusedSimpArgs false
set_option maxRecDepth 20000 in
theorem mused_any (d : DfaD) (dca : Option Addr) (dna : Option Addr) (dba : Option Addr) (dcc : Nat) (dnc : Nat) (dbc : Nat) (w : World) (rcd : RdT (tyI .i64) w (.slice dca d.cls.length dcc) d.cls) (rnd : RdT (tyI .i64) w (.slice dna d.next.length dnc) d.next) (rbd : RdT tyB w (.slice dba d.acc.length dbc) d.acc) (hl : d.cls.length ≤ 1000) :
    Calls Try.prog 96 #[.agg #[.slice dca d.cls.length dcc, .int .i64 d.width, .int .i64 d.start, .slice dna d.next.length dnc, .slice dba d.acc.length dbc]] w (Ret fun v w' => ∃ a2 : Option Addr, ∃ c2 : Nat, v = .slice a2 ((usedI d).length) c2 ∧ Upd w [] w' [rowT (tyI .i64) (.slice a2 ((usedI d).length) c2) 3 (usedI d)]) := by
  have le_rcd := rcd.le
  have le_rnd := rnd.le
  have le_rbd := rbd.le
  refine calls_of_W (args := [.agg #[.slice dca d.cls.length dcc, .int .i64 d.width, .int .i64 d.start, .slice dna d.next.length dnc, .slice dba d.acc.length dbc]]) Try.func96 rfl rfl rfl ?_
  have H0 : UpG w [] w [] := UpG.nil w
  show W _ _ _ _ [(0, .agg #[.slice dca d.cls.length dcc, .int .i64 d.width, .int .i64 d.start, .slice dna d.next.length dnc, .slice dba d.acc.length dbc])] w
  refine W.seq ?_
  refine W.region ?_
  refine WL.op rfl (d_box rfl fun w1 u1 => ?_)
  have H1 : UpG w [] w1 [[blk w.heap.size #[.slice dca d.cls.length dcc, .int .i64 d.width, .int .i64 d.start, .slice dna d.next.length dnc, .slice dba d.acc.length dbc] 25]] := H0.new' u1
  refine WL.op rfl (d_assign rfl ?_)
  refine WL.done (X.then_code ?_)
  refine W.seq ?_
  refine W.region ?_
  refine WL.op rfl (d_fieldAddrB fld25_0 rfl rfl ?_)
  refine WL.op rfl (d_loadB Try.underlying22 rfl rfl (H1.blk 0 rfl) rfl ?_)
  refine WL.op rfl (d_call ok66 rfl (Ret.calls (cloneI_any dca d.cls dcc d.cls.length w1 (rcd.at H1) (by omega)) fun _ w2 p1 => ?_))
  obtain ⟨a2_1, c2_1, rfl, u2⟩ := p1
  have H2 : UpG w [] w2 [[blk w.heap.size #[.slice dca d.cls.length dcc, .int .i64 d.width, .int .i64 d.start, .slice dna d.next.length dnc, .slice dba d.acc.length dbc] 25], [rowT (tyI .i64) (.slice a2_1 d.cls.length c2_1) 3 d.cls]] := (H1.new' u2).re rfl
  refine WL.op rfl (d_assign rfl ?_)
  refine WL.done (X.then_code ?_)
  refine W.seq ?_
  refine W.region ?_
  refine WL.op rfl (d_move rfl ?_)
  refine WL.op rfl (d_call ok90 rfl (Ret.calls (sort_any a2_1 d.cls c2_1 d.cls.length w2 (H2.hpOf 1 rfl)  rfl (by omega)) fun _ w3 p2 => ?_))
  obtain ⟨rfl, u3⟩ := p2
  have H3 : UpG w [] w3 [[blk w.heap.size #[.slice dca d.cls.length dcc, .int .i64 d.width, .int .i64 d.start, .slice dna d.next.length dnc, .slice dba d.acc.length dbc] 25], [rowT (tyI .i64) (.slice a2_1 d.cls.length c2_1) 3 (sortI d.cls)]] := H2.on 1 rfl u3
  refine WL.done (X.then_code ?_)
  refine W.seq ?_
  refine W.region ?_
  refine WL.op rfl (d_move rfl ?_)
  refine WL.op rfl (d_call ok91 rfl (Ret.calls (compact_any a2_1 (sortI d.cls) c2_1 d.cls.length w3 (H3.hpOf 1 rfl)  ((sortI_len _).symm) (by rw [sortI_len]; omega)) fun _ w4 p3 => ?_))
  obtain ⟨rfl, u4⟩ := p3
  have H4 : UpG w [] w4 [[blk w.heap.size #[.slice dca d.cls.length dcc, .int .i64 d.width, .int .i64 d.start, .slice dna d.next.length dnc, .slice dba d.acc.length dbc] 25], [rowT (tyI .i64) (.slice a2_1 ((Lib.compact (sortI d.cls)).length) c2_1) 3 (Lib.compact (sortI d.cls))]] := H3.on 1 rfl u4
  refine WL.op rfl (d_assign rfl ?_)
  refine WL.done (X.then_code ?_)
  refine W.ret (X.ret1 rfl rfl ?_)
  exact ⟨a2_1, c2_1, (by rfl), (by have hh := H4.one 1 rfl; exact hh)⟩

set_option maxRecDepth 20000 in
theorem prepare_any (d : DfaD) (dca : Option Addr) (dna : Option Addr) (dba : Option Addr) (dcc : Nat) (dnc : Nat) (dbc : Nat) (w : World) (rcd : RdT (tyI .i64) w (.slice dca d.cls.length dcc) d.cls) (rnd : RdT (tyI .i64) w (.slice dna d.next.length dnc) d.next) (rbd : RdT tyB w (.slice dba d.acc.length dbc) d.acc) (hrt : rightB d = true) :
    Calls Try.prog 83 #[.agg #[.slice dca d.cls.length dcc, .int .i64 d.width, .int .i64 d.start, .slice dna d.next.length dnc, .slice dba d.acc.length dbc]] w (Ret fun v w' => ∃ g : Nat, ∃ fa : Option Addr, ∃ F : List (LR (LR Int)), ∃ fc : Nat, ∃ ba : Option Addr, ∃ bl : List Int, ∃ bc : Nat, ∃ bn : Nat, ∃ ma : Option Addr, ∃ ms : List (LR Int), ∃ mc : Nat, ∃ mn : Nat, ∃ ta : Option Addr, ∃ td : List (Int × Int), ∃ tc : Nat, ∃ wa : Option Addr, ∃ wt : List (LR Bool), ∃ wc : Nat, ∃ wn : Nat, v = .pointer (some ⟨g, 0, none⟩) ∧ Upd w [] w' [blk g #[.slice fa F.length fc, .slice ba bn bc, .slice ma mn mc, .slice ta td.length tc, .slice wa wn wc] 117, fromC fa F.length fc F, rowT (tyI .i64) (.slice ba bn bc) 3 bl, rowT tyLR (.slice ma mn mc) 22 ms, manyF (inLR (tyI .i64) 3).row ms, rowT tyTk (.slice ta td.length tc) 119 td, rowT tyLR (.slice wa wn wc) 23 wt, manyF (inLR tyB 4).row wt] ∧ (FromP d F) ∧ (HopI d bl ms td wt (fun _ _ _ => False)) ∧ (td.length ≤ (usedI d).length)) := by
  have hri := rightB_iff.1 hrt
  have hul := used_len d
  have le_rcd := rcd.le
  have le_rnd := rnd.le
  have le_rbd := rbd.le
  refine calls_of_W (args := [.agg #[.slice dca d.cls.length dcc, .int .i64 d.width, .int .i64 d.start, .slice dna d.next.length dnc, .slice dba d.acc.length dbc]]) Try.func83 rfl rfl rfl ?_
  have H0 : UpG w [] w [] := UpG.nil w
  show W _ _ _ _ [(0, .agg #[.slice dca d.cls.length dcc, .int .i64 d.width, .int .i64 d.start, .slice dna d.next.length dnc, .slice dba d.acc.length dbc])] w
  refine W.seq ?_
  refine W.region ?_
  refine WL.op rfl (d_box rfl fun w1 u1 => ?_)
  have H1 : UpG w [] w1 [[blk w.heap.size #[.slice dca d.cls.length dcc, .int .i64 d.width, .int .i64 d.start, .slice dna d.next.length dnc, .slice dba d.acc.length dbc] 25]] := H0.new' u1
  refine WL.op rfl (d_assign rfl ?_)
  refine WL.done (X.then_code ?_)
  refine W.seq ?_
  refine W.region ?_
  refine WL.op rfl (d_fieldAddrB fld25_4 rfl rfl ?_)
  refine WL.op rfl (d_loadB Try.underlying23 rfl rfl (H1.blk 0 rfl) rfl ?_)
  refine WL.op rfl (d_lenS Try.underlying23 rfl ?_)
  refine WL.op rfl (d_assign rfl ?_)
  refine WL.done (X.then_code ?_)
  refine W.seq ?_
  refine W.region ?_
  refine WL.op rfl (d_move rfl ?_)
  refine WL.op rfl (t_make d.acc.length (0 : Int) (T := (tyI .i64)) rfl Try.underlying22 sz3 rfl rfl rfl rfl (by omega) (by omega) fun w2 u2 => ?_)
  have H2 : UpG w [] w2 [[blk w.heap.size #[.slice dca d.cls.length dcc, .int .i64 d.width, .int .i64 d.start, .slice dna d.next.length dnc, .slice dba d.acc.length dbc] 25], [rowT (tyI .i64) (.slice (some ⟨w1.heap.size, 0, none⟩) ((List.replicate d.acc.length (0 : Int)).length) d.acc.length) 3 (List.replicate d.acc.length (0 : Int))]] := H1.new' u2
  refine WL.op rfl (d_build (cs := #[.slice none 0 0, .slice (some ⟨w1.heap.size, 0, none⟩) ((List.replicate d.acc.length (0 : Int)).length) d.acc.length, .slice none 0 0, .slice none 0 0, .slice none 0 0]) rfl (by kernel_rfl) ?_)
  refine WL.op rfl (d_box rfl fun w3 u3 => ?_)
  have H3 : UpG w [] w3 [[blk w.heap.size #[.slice dca d.cls.length dcc, .int .i64 d.width, .int .i64 d.start, .slice dna d.next.length dnc, .slice dba d.acc.length dbc] 25], [rowT (tyI .i64) (.slice (some ⟨w1.heap.size, 0, none⟩) ((List.replicate d.acc.length (0 : Int)).length) d.acc.length) 3 (List.replicate d.acc.length (0 : Int))], [blk w2.heap.size #[.slice none 0 0, .slice (some ⟨w1.heap.size, 0, none⟩) ((List.replicate d.acc.length (0 : Int)).length) d.acc.length, .slice none 0 0, .slice none 0 0, .slice none 0 0] 117]] := H2.new' u3
  refine WL.op rfl (d_assign rfl ?_)
  refine WL.done (X.then_code ?_)
  refine W.seq ?_
  refine W.seq ?_
  refine W.region ?_
  refine WL.op rfl (d_loadAB [.slice dca d.cls.length dcc, .int .i64 d.width, .int .i64 d.start, .slice dna d.next.length dnc, .slice dba d.acc.length dbc] Try.underlying25 rfl sz25 rfl (H3.blk 0 rfl) rfl rfl ?_)
  refine WL.op rfl (d_call ok96 rfl (Ret.calls (mused_any d dca dna dba dcc dnc dbc w3 (rcd.at H3) (rnd.at H3) (rbd.at H3) (by omega)) fun _ w4 p1 => ?_))
  obtain ⟨a2_1, c2_1, rfl, u4⟩ := p1
  have H4 : UpG w [] w4 [[blk w.heap.size #[.slice dca d.cls.length dcc, .int .i64 d.width, .int .i64 d.start, .slice dna d.next.length dnc, .slice dba d.acc.length dbc] 25], [rowT (tyI .i64) (.slice (some ⟨w1.heap.size, 0, none⟩) ((List.replicate d.acc.length (0 : Int)).length) d.acc.length) 3 (List.replicate d.acc.length (0 : Int))], [blk w2.heap.size #[.slice none 0 0, .slice (some ⟨w1.heap.size, 0, none⟩) ((List.replicate d.acc.length (0 : Int)).length) d.acc.length, .slice none 0 0, .slice none 0 0, .slice none 0 0] 117], [rowT (tyI .i64) (.slice a2_1 ((usedI d).length) c2_1) 3 (usedI d)]] := (H3.new' u4).re rfl
  refine WL.op rfl (d_lenS Try.underlying22 rfl ?_)
  refine WL.op rfl (d_move rfl ?_)
  refine WL.done (X.then_code ?_)
  refine W.block ?_
  have H5 : UpG w [] w4 [[blk w.heap.size #[.slice dca d.cls.length dcc, .int .i64 d.width, .int .i64 d.start, .slice dna d.next.length dnc, .slice dba d.acc.length dbc] 25], [rowT (tyI .i64) (.slice (some ⟨w1.heap.size, 0, none⟩) ((List.replicate d.acc.length (0 : Int)).length) d.acc.length) 3 (List.replicate d.acc.length (0 : Int))], [blk w2.heap.size #[.slice none 0 0, .slice (some ⟨w1.heap.size, 0, none⟩) ((List.replicate d.acc.length (0 : Int)).length) d.acc.length, .slice none 0 0, .slice none 0 0, .slice none 0 0] 117], [rowT (tyI .i64) (.slice a2_1 ((usedI d).length) c2_1) 3 (usedI d)], [rowT tyLR (.slice none (([] : List (LR (LR Int))).length) 0) 77 ([] : List (LR (LR Int)))]] := H4.new' (Upd.nilRowT w4 tyLR 77)
  have H6 : UpG w [] w4 [[blk w.heap.size #[.slice dca d.cls.length dcc, .int .i64 d.width, .int .i64 d.start, .slice dna d.next.length dnc, .slice dba d.acc.length dbc] 25], [rowT (tyI .i64) (.slice (some ⟨w1.heap.size, 0, none⟩) ((List.replicate d.acc.length (0 : Int)).length) d.acc.length) 3 (List.replicate d.acc.length (0 : Int))], [blk w2.heap.size #[.slice none (([] : List (LR (LR Int))).length) 0, .slice (some ⟨w1.heap.size, 0, none⟩) ((List.replicate d.acc.length (0 : Int)).length) d.acc.length, .slice none 0 0, .slice none 0 0, .slice none 0 0] 117], [rowT (tyI .i64) (.slice a2_1 ((usedI d).length) c2_1) 3 (usedI d)], [rowT tyLR (.slice none (([] : List (LR (LR Int))).length) 0) 77 ([] : List (LR (LR Int)))]] := H5.re rfl
  have H7 : UpG w [] w4 [[blk w.heap.size #[.slice dca d.cls.length dcc, .int .i64 d.width, .int .i64 d.start, .slice dna d.next.length dnc, .slice dba d.acc.length dbc] 25], [rowT (tyI .i64) (.slice (some ⟨w1.heap.size, 0, none⟩) ((List.replicate d.acc.length (0 : Int)).length) d.acc.length) 3 (List.replicate d.acc.length (0 : Int))], [blk w2.heap.size #[.slice none (([] : List (LR (LR Int))).length) 0, .slice (some ⟨w1.heap.size, 0, none⟩) ((List.replicate d.acc.length (0 : Int)).length) d.acc.length, .slice none 0 0, .slice none 0 0, .slice none 0 0] 117], [rowT (tyI .i64) (.slice a2_1 ((usedI d).length) c2_1) 3 (usedI d)], [rowT tyLR (.slice none (([] : List (LR (LR Int))).length) 0) 77 ([] : List (LR (LR Int)))], [manyF (inLR tyLR 22).row ([] : List (LR (LR Int)))]] := H6.new' (Upd.manyNil (inLR tyLR 22).row w4)
  have H8 : UpG w [] w4 [[blk w.heap.size #[.slice dca d.cls.length dcc, .int .i64 d.width, .int .i64 d.start, .slice dna d.next.length dnc, .slice dba d.acc.length dbc] 25], [rowT (tyI .i64) (.slice (some ⟨w1.heap.size, 0, none⟩) ((List.replicate d.acc.length (0 : Int)).length) d.acc.length) 3 (List.replicate d.acc.length (0 : Int))], [blk w2.heap.size #[.slice none (([] : List (LR (LR Int))).length) 0, .slice (some ⟨w1.heap.size, 0, none⟩) ((List.replicate d.acc.length (0 : Int)).length) d.acc.length, .slice none 0 0, .slice none 0 0, .slice none 0 0] 117], [rowT (tyI .i64) (.slice a2_1 ((usedI d).length) c2_1) 3 (usedI d)], [rowT tyLR (.slice none (([] : List (LR (LR Int))).length) 0) 77 ([] : List (LR (LR Int)))], [manyF (inLR tyLR 22).row ([] : List (LR (LR Int)))], [manyF innF.row (([] : List (LR (LR Int))).flatMap LR.xs)]] := H7.new' (Upd.manyNil innF.row w4)
  refine W.pick [27, 26, 25, 4, 3, 2, 1] (Γ' := [(27, .int .i64 0), (26, .int .i64 (((usedI d).length : Nat) : Int)), (25, .slice a2_1 ((usedI d).length) c2_1), (4, .pointer (some ⟨w2.heap.size, 0, none⟩)), (3, .int .i64 ((d.acc.length : Nat) : Int)), (2, .pointer none), (1, .pointer (some ⟨w.heap.size, 0, none⟩))]) rfl ?_
  refine W.loop (fun m Γ' w' => ∃ k : Nat, ∃ Fq : List (LR (LR Int)), ∃ fqa : Option Addr, ∃ fqc : Nat, Γ' = [(27, .int .i64 ((k : Nat) : Int)), (26, .int .i64 (((usedI d).length : Nat) : Int)), (25, .slice a2_1 ((usedI d).length) c2_1), (4, .pointer (some ⟨w2.heap.size, 0, none⟩)), (3, .int .i64 ((d.acc.length : Nat) : Int)), (2, .pointer none), (1, .pointer (some ⟨w.heap.size, 0, none⟩))] ∧ UpG w [] w' [[blk w.heap.size #[.slice dca d.cls.length dcc, .int .i64 d.width, .int .i64 d.start, .slice dna d.next.length dnc, .slice dba d.acc.length dbc] 25], [rowT (tyI .i64) (.slice (some ⟨w1.heap.size, 0, none⟩) ((List.replicate d.acc.length (0 : Int)).length) d.acc.length) 3 (List.replicate d.acc.length (0 : Int))], [blk w2.heap.size #[.slice fqa Fq.length fqc, .slice (some ⟨w1.heap.size, 0, none⟩) ((List.replicate d.acc.length (0 : Int)).length) d.acc.length, .slice none 0 0, .slice none 0 0, .slice none 0 0] 117], [rowT (tyI .i64) (.slice a2_1 ((usedI d).length) c2_1) 3 (usedI d)], [rowT tyLR (.slice fqa Fq.length fqc) 77 Fq], [manyF (inLR tyLR 22).row Fq], [manyF innF.row (Fq.flatMap LR.xs)]] ∧ (k ≤ (usedI d).length) ∧ (FromK d Fq k) ∧ m = (usedI d).length - k) ((usedI d).length - 0) ⟨0, ([] : List (LR (LR Int))), none, 0, rfl, H8, (by first | assumption | omega | simp), (by exact FromK.start d), rfl⟩ ?_
  rintro m1 Γ1 w5 ⟨k, Fq, fqa, fqc, rfl, H9, hk, hf, rfl⟩
  refine W.seq ?_
  refine W.region ?_
  refine WL.op rfl (d_cmp (decide (((k : Nat) : Int) < (((usedI d).length : Nat) : Int))) rfl rfl rfl ?_)
  refine WL.done (X.then_code ?_)
  refine W.seq ?_
  refine W.ite (p := ((k : Nat) : Int) < (((usedI d).length : Nat) : Int)) rfl (fun c35 => ?_) (fun c35 => ?_)
  · skip
    refine W.skip (X.then_code ?_)
    refine W.seq ?_
    refine W.block ?_
    refine W.seq ?_
    refine W.region ?_
    refine WL.op rfl (t_addr1 k (T := (tyI .i64)) rfl Try.underlying22 sz3 rfl rfl (H9.rdT 3 rfl) rfl (by omega) ?_)
    refine WL.op rfl (t_load1 k 0 (T := (tyI .i64)) rfl Try.underlying3 rfl rfl (H9.rdT 3 rfl) (by omega) rfl ?_)
    refine WL.op rfl (d_assign rfl ?_)
    refine WL.done (X.then_code ?_)
    refine W.seq ?_
    refine W.region ?_
    refine WL.op rfl (d_move rfl ?_)
    refine WL.op rfl (t_make d.acc.length (lr0 : LR Int) (T := tyLR) rfl Try.underlying77 sz22 rfl rfl rfl rfl (by omega) (by omega) fun w6 u5 => ?_)
    have H10 : UpG w [] w6 [[blk w.heap.size #[.slice dca d.cls.length dcc, .int .i64 d.width, .int .i64 d.start, .slice dna d.next.length dnc, .slice dba d.acc.length dbc] 25], [rowT (tyI .i64) (.slice (some ⟨w1.heap.size, 0, none⟩) ((List.replicate d.acc.length (0 : Int)).length) d.acc.length) 3 (List.replicate d.acc.length (0 : Int))], [blk w2.heap.size #[.slice fqa Fq.length fqc, .slice (some ⟨w1.heap.size, 0, none⟩) ((List.replicate d.acc.length (0 : Int)).length) d.acc.length, .slice none 0 0, .slice none 0 0, .slice none 0 0] 117], [rowT (tyI .i64) (.slice a2_1 ((usedI d).length) c2_1) 3 (usedI d)], [rowT tyLR (.slice fqa Fq.length fqc) 77 Fq], [manyF (inLR tyLR 22).row Fq], [manyF innF.row (Fq.flatMap LR.xs)], [rowT tyLR (.slice (some ⟨w5.heap.size, 0, none⟩) ((List.replicate d.acc.length (lr0 : LR Int)).length) d.acc.length) 22 (List.replicate d.acc.length (lr0 : LR Int))]] := H9.new' u5
    have H11 : UpG w [] w6 [[blk w.heap.size #[.slice dca d.cls.length dcc, .int .i64 d.width, .int .i64 d.start, .slice dna d.next.length dnc, .slice dba d.acc.length dbc] 25], [rowT (tyI .i64) (.slice (some ⟨w1.heap.size, 0, none⟩) ((List.replicate d.acc.length (0 : Int)).length) d.acc.length) 3 (List.replicate d.acc.length (0 : Int))], [blk w2.heap.size #[.slice fqa Fq.length fqc, .slice (some ⟨w1.heap.size, 0, none⟩) ((List.replicate d.acc.length (0 : Int)).length) d.acc.length, .slice none 0 0, .slice none 0 0, .slice none 0 0] 117], [rowT (tyI .i64) (.slice a2_1 ((usedI d).length) c2_1) 3 (usedI d)], [rowT tyLR (.slice fqa Fq.length fqc) 77 Fq], [manyF (inLR tyLR 22).row Fq], [manyF innF.row (Fq.flatMap LR.xs)], [rowT tyLR (.slice (some ⟨w5.heap.size, 0, none⟩) ((List.replicate d.acc.length (lr0 : LR Int)).length) d.acc.length) 22 (List.replicate d.acc.length (lr0 : LR Int))], [manyF (inLR (tyI .i64) 3).row (List.replicate d.acc.length (lr0 : LR Int))]] := H10.new' (Upd.manyRep (tyI .i64) 3 d.acc.length w6)
    refine WL.op rfl (d_assign rfl ?_)
    refine WL.done (X.then_code ?_)
    refine W.seq ?_
    refine W.seq ?_
    refine W.region ?_
    refine WL.op rfl (d_move rfl ?_)
    refine WL.op rfl (d_move rfl ?_)
    refine WL.done (X.then_code ?_)
    refine W.block ?_
    refine W.pick [34, 33, 7, 6, 27, 26, 25, 4, 3, 2, 1] (Γ' := [(34, .int .i64 0), (33, .int .i64 ((d.acc.length : Nat) : Int)), (7, .slice (some ⟨w5.heap.size, 0, none⟩) ((List.replicate d.acc.length (lr0 : LR Int)).length) d.acc.length), (6, .int .i64 ((usedI d).getD k 0)), (27, .int .i64 ((k : Nat) : Int)), (26, .int .i64 (((usedI d).length : Nat) : Int)), (25, .slice a2_1 ((usedI d).length) c2_1), (4, .pointer (some ⟨w2.heap.size, 0, none⟩)), (3, .int .i64 ((d.acc.length : Nat) : Int)), (2, .pointer none), (1, .pointer (some ⟨w.heap.size, 0, none⟩))]) rfl ?_
    refine W.loop (fun m Γ' w' => ∃ i : Nat, ∃ ps : List (LR Int), Γ' = [(34, .int .i64 ((i : Nat) : Int)), (33, .int .i64 ((d.acc.length : Nat) : Int)), (7, .slice (some ⟨w5.heap.size, 0, none⟩) ((List.replicate d.acc.length (lr0 : LR Int)).length) d.acc.length), (6, .int .i64 ((usedI d).getD k 0)), (27, .int .i64 ((k : Nat) : Int)), (26, .int .i64 (((usedI d).length : Nat) : Int)), (25, .slice a2_1 ((usedI d).length) c2_1), (4, .pointer (some ⟨w2.heap.size, 0, none⟩)), (3, .int .i64 ((d.acc.length : Nat) : Int)), (2, .pointer none), (1, .pointer (some ⟨w.heap.size, 0, none⟩))] ∧ UpG w [] w' [[blk w.heap.size #[.slice dca d.cls.length dcc, .int .i64 d.width, .int .i64 d.start, .slice dna d.next.length dnc, .slice dba d.acc.length dbc] 25], [rowT (tyI .i64) (.slice (some ⟨w1.heap.size, 0, none⟩) ((List.replicate d.acc.length (0 : Int)).length) d.acc.length) 3 (List.replicate d.acc.length (0 : Int))], [blk w2.heap.size #[.slice fqa Fq.length fqc, .slice (some ⟨w1.heap.size, 0, none⟩) ((List.replicate d.acc.length (0 : Int)).length) d.acc.length, .slice none 0 0, .slice none 0 0, .slice none 0 0] 117], [rowT (tyI .i64) (.slice a2_1 ((usedI d).length) c2_1) 3 (usedI d)], [rowT tyLR (.slice fqa Fq.length fqc) 77 Fq], [manyF (inLR tyLR 22).row Fq], [manyF innF.row (Fq.flatMap LR.xs)], [rowT tyLR (.slice (some ⟨w5.heap.size, 0, none⟩) ((List.replicate d.acc.length (lr0 : LR Int)).length) d.acc.length) 22 ps], [manyF (inLR (tyI .i64) 3).row ps]] ∧ (i ≤ d.acc.length) ∧ (PrK d k ps i) ∧ m = d.acc.length - i) (d.acc.length - 0) ⟨0, List.replicate d.acc.length (lr0 : LR Int), rfl, H11, (by first | assumption | omega | simp), (by exact PrK.start d k), rfl⟩ ?_
    rintro m2 Γ2 w7 ⟨i, ps, rfl, H12, hi, hp, rfl⟩
    refine W.seq ?_
    refine W.region ?_
    refine WL.op rfl (d_cmp (decide (((i : Nat) : Int) < ((d.acc.length : Nat) : Int))) rfl rfl rfl ?_)
    refine WL.done (X.then_code ?_)
    refine W.seq ?_
    refine W.ite (p := ((i : Nat) : Int) < ((d.acc.length : Nat) : Int)) rfl (fun c37 => ?_) (fun c37 => ?_)
    · skip
      refine W.skip (X.then_code ?_)
      refine W.seq ?_
      refine W.block ?_
      refine W.seq ?_
      refine W.region ?_
      refine WL.op rfl (d_move rfl ?_)
      refine WL.op rfl (d_assign rfl ?_)
      refine WL.done (X.then_code ?_)
      refine W.seq ?_
      have hcx := used_bd hrt (x := (usedI d).getD k 0) (getD_mem' (by omega))
      have hix := right_idx (q := (i : Int)) hrt (by omega) (by omega) hcx.1 hcx.2
      refine W.region ?_
      refine WL.op rfl (d_fieldAddrB fld25_3 rfl rfl ?_)
      refine WL.op rfl (d_loadB Try.underlying22 rfl rfl (H12.blk 0 rfl) rfl ?_)
      refine WL.op rfl (d_move rfl ?_)
      refine WL.op rfl (d_fieldAddrB fld25_1 rfl rfl ?_)
      refine WL.op rfl (d_loadB Try.underlying3 rfl rfl (H12.blk 0 rfl) rfl ?_)
      refine WL.op rfl (d_mul rfl rfl (by omega) (by omega) ?_)
      refine WL.op rfl (d_move rfl ?_)
      refine WL.op rfl (d_add rfl rfl (by omega) (by omega) ?_)
      refine WL.op rfl (t_addr1 (((((i : Nat) : Int) * d.width) + ((usedI d).getD k 0)).toNat) (T := (tyI .i64)) rfl Try.underlying22 sz3 rfl rfl (rnd.at H12) (by omega) (by omega) ?_)
      refine WL.op rfl (t_load1 (((((i : Nat) : Int) * d.width) + ((usedI d).getD k 0)).toNat) 0 (T := (tyI .i64)) rfl Try.underlying3 rfl rfl (rnd.at H12) (by omega) rfl ?_)
      refine WL.op rfl (d_assign rfl ?_)
      refine WL.done (X.then_code ?_)
      have hdl := dl_lt hrt (k := k) (i := i) (by omega) (by omega)
      have hdl1 := hdl.1
      have hdl2 := hdl.2
      have hpl := hp.len
      have hsz := hp.size (dl d k i) hdl1
      refine W.region ?_
      refine WL.op rfl (d_move rfl ?_)
      refine WL.op rfl (d_move rfl ?_)
      refine WL.op rfl (d_move rfl ?_)
      refine WL.op rfl (d_move rfl ?_)
      refine WL.op rfl (t_addr1 (dl d k i) (T := tyLR) rfl Try.underlying77 sz22 rfl rfl (H12.rdT 7 rfl) (by omega) (by omega) ?_)
      refine WL.op rfl (t_load1 (dl d k i) lr0 (T := tyLR) rfl Try.underlying22 rfl rfl (H12.rdT 7 rfl) (by omega) rfl ?_)
      refine WL.op rfl (d_move rfl ?_)
      refine WL.op rfl (t_buildSlice (T := (tyI .i64)) (xs := [((i : Nat) : Int)]) (cs := #[.int .i64 ((i : Nat) : Int)]) rfl Try.underlying22 sz3 rfl rfl rfl rfl (by kernel_rfl) rfl rfl fun w8 u6 => ?_)
      have H13 : UpG w [] w8 [[blk w.heap.size #[.slice dca d.cls.length dcc, .int .i64 d.width, .int .i64 d.start, .slice dna d.next.length dnc, .slice dba d.acc.length dbc] 25], [rowT (tyI .i64) (.slice (some ⟨w1.heap.size, 0, none⟩) ((List.replicate d.acc.length (0 : Int)).length) d.acc.length) 3 (List.replicate d.acc.length (0 : Int))], [blk w2.heap.size #[.slice fqa Fq.length fqc, .slice (some ⟨w1.heap.size, 0, none⟩) ((List.replicate d.acc.length (0 : Int)).length) d.acc.length, .slice none 0 0, .slice none 0 0, .slice none 0 0] 117], [rowT (tyI .i64) (.slice a2_1 ((usedI d).length) c2_1) 3 (usedI d)], [rowT tyLR (.slice fqa Fq.length fqc) 77 Fq], [manyF (inLR tyLR 22).row Fq], [manyF innF.row (Fq.flatMap LR.xs)], [rowT tyLR (.slice (some ⟨w5.heap.size, 0, none⟩) ((List.replicate d.acc.length (lr0 : LR Int)).length) d.acc.length) 22 ps], [manyF (inLR (tyI .i64) 3).row ps], [rowT (tyI .i64) (.slice (some ⟨w7.heap.size, 0, none⟩) ([((i : Nat) : Int)].length) ([((i : Nat) : Int)].length)) 3 [((i : Nat) : Int)]]] := H12.new' u6
      have H14 : UpG w [] w8 [[blk w.heap.size #[.slice dca d.cls.length dcc, .int .i64 d.width, .int .i64 d.start, .slice dna d.next.length dnc, .slice dba d.acc.length dbc] 25], [rowT (tyI .i64) (.slice (some ⟨w1.heap.size, 0, none⟩) ((List.replicate d.acc.length (0 : Int)).length) d.acc.length) 3 (List.replicate d.acc.length (0 : Int))], [blk w2.heap.size #[.slice fqa Fq.length fqc, .slice (some ⟨w1.heap.size, 0, none⟩) ((List.replicate d.acc.length (0 : Int)).length) d.acc.length, .slice none 0 0, .slice none 0 0, .slice none 0 0] 117], [rowT (tyI .i64) (.slice a2_1 ((usedI d).length) c2_1) 3 (usedI d)], [rowT tyLR (.slice fqa Fq.length fqc) 77 Fq], [manyF (inLR tyLR 22).row Fq], [manyF innF.row (Fq.flatMap LR.xs)], [rowT tyLR (.slice (some ⟨w5.heap.size, 0, none⟩) ((List.replicate d.acc.length (lr0 : LR Int)).length) d.acc.length) 22 ps], [manyF (inLR (tyI .i64) 3).row (ps.eraseIdx (dl d k i))], [rowT (tyI .i64) (.slice (some ⟨w7.heap.size, 0, none⟩) ([((i : Nat) : Int)].length) ([((i : Nat) : Int)].length)) 3 [((i : Nat) : Int)]], [rowT (tyI .i64) (.slice ((ps.getD (dl d k i) lr0).a) ((ps.getD (dl d k i) lr0).n) ((ps.getD (dl d k i) lr0).c)) 3 ((ps.getD (dl d k i) lr0).xs)]] := H13.takeOut (f := (inLR (tyI .i64) 3).row) lr0 8 (dl d k i) rfl (by omega)
      refine WL.op rfl (t_appendN (T := (tyI .i64)) (xs := ((ps.getD (dl d k i) lr0).xs)) (ys := [((i : Nat) : Int)]) rfl Try.underlying22 sz3 rfl rfl rfl (H14.rdT 10 rfl).len (H14.ownT 10 rfl) (H14.rdT 9 rfl) (by simp only [List.length_singleton]; omega) (by simp only [List.length_singleton]; omega) fun a1 c1 w9 u7 => ?_)
      have H15 : UpG w [] w9 [[blk w.heap.size #[.slice dca d.cls.length dcc, .int .i64 d.width, .int .i64 d.start, .slice dna d.next.length dnc, .slice dba d.acc.length dbc] 25], [rowT (tyI .i64) (.slice (some ⟨w1.heap.size, 0, none⟩) ((List.replicate d.acc.length (0 : Int)).length) d.acc.length) 3 (List.replicate d.acc.length (0 : Int))], [blk w2.heap.size #[.slice fqa Fq.length fqc, .slice (some ⟨w1.heap.size, 0, none⟩) ((List.replicate d.acc.length (0 : Int)).length) d.acc.length, .slice none 0 0, .slice none 0 0, .slice none 0 0] 117], [rowT (tyI .i64) (.slice a2_1 ((usedI d).length) c2_1) 3 (usedI d)], [rowT tyLR (.slice fqa Fq.length fqc) 77 Fq], [manyF (inLR tyLR 22).row Fq], [manyF innF.row (Fq.flatMap LR.xs)], [rowT tyLR (.slice (some ⟨w5.heap.size, 0, none⟩) ((List.replicate d.acc.length (lr0 : LR Int)).length) d.acc.length) 22 ps], [manyF (inLR (tyI .i64) 3).row (ps.eraseIdx (dl d k i))], [], [rowT (tyI .i64) (.slice a1 ((((ps.getD (dl d k i) lr0).xs) ++ [((i : Nat) : Int)]).length) c1) 3 (((ps.getD (dl d k i) lr0).xs) ++ [((i : Nat) : Int)])]] := (H14.on 10 rfl u7).drop 9
      refine WL.op rfl (t_addr1 (dl d k i) (T := tyLR) rfl Try.underlying77 sz22 rfl rfl (H15.rdT 7 rfl) (by omega) (by omega) ?_)
      refine WL.op0 (t_store1 (dl d k i) ⟨a1, (((ps.getD (dl d k i) lr0).xs) ++ [((i : Nat) : Int)]).length, c1, ((ps.getD (dl d k i) lr0).xs) ++ [((i : Nat) : Int)]⟩ (T := tyLR) (e := 22) rfl sz22 rfl rfl rfl (H15.ownT 7 rfl) (by omega) fun w10 u8 => ?_)
      have H16 : UpG w [] w10 [[blk w.heap.size #[.slice dca d.cls.length dcc, .int .i64 d.width, .int .i64 d.start, .slice dna d.next.length dnc, .slice dba d.acc.length dbc] 25], [rowT (tyI .i64) (.slice (some ⟨w1.heap.size, 0, none⟩) ((List.replicate d.acc.length (0 : Int)).length) d.acc.length) 3 (List.replicate d.acc.length (0 : Int))], [blk w2.heap.size #[.slice fqa Fq.length fqc, .slice (some ⟨w1.heap.size, 0, none⟩) ((List.replicate d.acc.length (0 : Int)).length) d.acc.length, .slice none 0 0, .slice none 0 0, .slice none 0 0] 117], [rowT (tyI .i64) (.slice a2_1 ((usedI d).length) c2_1) 3 (usedI d)], [rowT tyLR (.slice fqa Fq.length fqc) 77 Fq], [manyF (inLR tyLR 22).row Fq], [manyF innF.row (Fq.flatMap LR.xs)], [rowT tyLR (.slice (some ⟨w5.heap.size, 0, none⟩) ((List.replicate d.acc.length (lr0 : LR Int)).length) d.acc.length) 22 (ps.set (dl d k i) ⟨a1, (((ps.getD (dl d k i) lr0).xs) ++ [((i : Nat) : Int)]).length, c1, ((ps.getD (dl d k i) lr0).xs) ++ [((i : Nat) : Int)]⟩)], [manyF (inLR (tyI .i64) 3).row (ps.eraseIdx (dl d k i))], [], [rowT (tyI .i64) (.slice a1 ((((ps.getD (dl d k i) lr0).xs) ++ [((i : Nat) : Int)]).length) c1) 3 (((ps.getD (dl d k i) lr0).xs) ++ [((i : Nat) : Int)])]] := H15.on 7 rfl u8
      have H17 : UpG w [] w10 [[blk w.heap.size #[.slice dca d.cls.length dcc, .int .i64 d.width, .int .i64 d.start, .slice dna d.next.length dnc, .slice dba d.acc.length dbc] 25], [rowT (tyI .i64) (.slice (some ⟨w1.heap.size, 0, none⟩) ((List.replicate d.acc.length (0 : Int)).length) d.acc.length) 3 (List.replicate d.acc.length (0 : Int))], [blk w2.heap.size #[.slice fqa Fq.length fqc, .slice (some ⟨w1.heap.size, 0, none⟩) ((List.replicate d.acc.length (0 : Int)).length) d.acc.length, .slice none 0 0, .slice none 0 0, .slice none 0 0] 117], [rowT (tyI .i64) (.slice a2_1 ((usedI d).length) c2_1) 3 (usedI d)], [rowT tyLR (.slice fqa Fq.length fqc) 77 Fq], [manyF (inLR tyLR 22).row Fq], [manyF innF.row (Fq.flatMap LR.xs)], [rowT tyLR (.slice (some ⟨w5.heap.size, 0, none⟩) ((List.replicate d.acc.length (lr0 : LR Int)).length) d.acc.length) 22 (ps.set (dl d k i) ⟨a1, (((ps.getD (dl d k i) lr0).xs) ++ [((i : Nat) : Int)]).length, c1, ((ps.getD (dl d k i) lr0).xs) ++ [((i : Nat) : Int)]⟩)], [manyF (inLR (tyI .i64) 3).row (ps.set (dl d k i) ⟨a1, (((ps.getD (dl d k i) lr0).xs) ++ [((i : Nat) : Int)]).length, c1, ((ps.getD (dl d k i) lr0).xs) ++ [((i : Nat) : Int)]⟩)], [], []] := (H16.putBack (f := (inLR (tyI .i64) 3).row) ⟨a1, (((ps.getD (dl d k i) lr0).xs) ++ [((i : Nat) : Int)]).length, c1, ((ps.getD (dl d k i) lr0).xs) ++ [((i : Nat) : Int)]⟩ 8 10 (dl d k i) rfl rfl rfl (by omega)).re rfl
      refine WL.done (X.block_normal (X.then_code ?_))
      refine W.pick [34, 33, 7, 6, 27, 26, 25, 4, 3, 2, 1] (Γ' := [(34, .int .i64 ((i : Nat) : Int)), (33, .int .i64 ((d.acc.length : Nat) : Int)), (7, .slice (some ⟨w5.heap.size, 0, none⟩) ((List.replicate d.acc.length (lr0 : LR Int)).length) d.acc.length), (6, .int .i64 ((usedI d).getD k 0)), (27, .int .i64 ((k : Nat) : Int)), (26, .int .i64 (((usedI d).length : Nat) : Int)), (25, .slice a2_1 ((usedI d).length) c2_1), (4, .pointer (some ⟨w2.heap.size, 0, none⟩)), (3, .int .i64 ((d.acc.length : Nat) : Int)), (2, .pointer none), (1, .pointer (some ⟨w.heap.size, 0, none⟩))]) rfl ?_
      refine W.region ?_
      refine WL.op rfl (d_add rfl rfl (by omega) (by omega) ?_)
      refine WL.op rfl (d_move rfl ?_)
      refine WL.done ?_
      exact X.next [34, 33, 7, 6, 27, 26, 25, 4, 3, 2, 1] (Γ' := [(34, .int .i64 (((i + 1) : Nat) : Int)), (33, .int .i64 ((d.acc.length : Nat) : Int)), (7, .slice (some ⟨w5.heap.size, 0, none⟩) ((List.replicate d.acc.length (lr0 : LR Int)).length) d.acc.length), (6, .int .i64 ((usedI d).getD k 0)), (27, .int .i64 ((k : Nat) : Int)), (26, .int .i64 (((usedI d).length : Nat) : Int)), (25, .slice a2_1 ((usedI d).length) c2_1), (4, .pointer (some ⟨w2.heap.size, 0, none⟩)), (3, .int .i64 ((d.acc.length : Nat) : Int)), (2, .pointer none), (1, .pointer (some ⟨w.heap.size, 0, none⟩))]) rfl (d.acc.length - (i + 1)) (by omega) ⟨i + 1, ps.set (dl d k i) ⟨a1, (((ps.getD (dl d k i) lr0).xs) ++ [((i : Nat) : Int)]).length, c1, ((ps.getD (dl d k i) lr0).xs) ++ [((i : Nat) : Int)]⟩, rfl, (H17.re rfl), (by first | assumption | omega | simp), (by exact hp.step rfl hdl1), rfl⟩
    · skip
      refine W.exit (X.then_exit (X.then_exit (X.block_exit (X.then_code ?_))))
      have hfl := hf.len
      refine W.region ?_
      refine WL.op rfl (d_move rfl ?_)
      refine WL.op rfl (d_move rfl ?_)
      refine WL.op rfl (d_nilCheck rfl ?_)
      refine WL.op rfl (d_fieldAddrB fld117_0 rfl rfl ?_)
      refine WL.op rfl (d_loadB Try.underlying114 rfl rfl (H12.blk 2 rfl) rfl ?_)
      refine WL.op rfl (d_move rfl ?_)
      refine WL.op rfl (t_buildSlice (T := tyLR) (xs := ([⟨(some ⟨w5.heap.size, 0, none⟩), (List.replicate d.acc.length (lr0 : LR Int)).length, d.acc.length, ps⟩] : List (LR (LR Int)))) (cs := #[.slice (some ⟨w5.heap.size, 0, none⟩) ((List.replicate d.acc.length (lr0 : LR Int)).length) d.acc.length]) rfl Try.underlying114 sz77 rfl rfl rfl rfl (by kernel_rfl) rfl rfl fun w11 u9 => ?_)
      have H18 : UpG w [] w11 [[blk w.heap.size #[.slice dca d.cls.length dcc, .int .i64 d.width, .int .i64 d.start, .slice dna d.next.length dnc, .slice dba d.acc.length dbc] 25], [rowT (tyI .i64) (.slice (some ⟨w1.heap.size, 0, none⟩) ((List.replicate d.acc.length (0 : Int)).length) d.acc.length) 3 (List.replicate d.acc.length (0 : Int))], [blk w2.heap.size #[.slice fqa Fq.length fqc, .slice (some ⟨w1.heap.size, 0, none⟩) ((List.replicate d.acc.length (0 : Int)).length) d.acc.length, .slice none 0 0, .slice none 0 0, .slice none 0 0] 117], [rowT (tyI .i64) (.slice a2_1 ((usedI d).length) c2_1) 3 (usedI d)], [rowT tyLR (.slice fqa Fq.length fqc) 77 Fq], [manyF (inLR tyLR 22).row Fq], [manyF innF.row (Fq.flatMap LR.xs)], [rowT tyLR (.slice (some ⟨w5.heap.size, 0, none⟩) ((List.replicate d.acc.length (lr0 : LR Int)).length) d.acc.length) 22 ps], [manyF (inLR (tyI .i64) 3).row ps], [rowT tyLR (.slice (some ⟨w7.heap.size, 0, none⟩) (([⟨(some ⟨w5.heap.size, 0, none⟩), (List.replicate d.acc.length (lr0 : LR Int)).length, d.acc.length, ps⟩] : List (LR (LR Int))).length) (([⟨(some ⟨w5.heap.size, 0, none⟩), (List.replicate d.acc.length (lr0 : LR Int)).length, d.acc.length, ps⟩] : List (LR (LR Int))).length)) 77 ([⟨(some ⟨w5.heap.size, 0, none⟩), (List.replicate d.acc.length (lr0 : LR Int)).length, d.acc.length, ps⟩] : List (LR (LR Int)))]] := H12.new' u9
      refine WL.op rfl (t_append (T := tyLR) (xs := Fq) (ys := ([⟨(some ⟨w5.heap.size, 0, none⟩), (List.replicate d.acc.length (lr0 : LR Int)).length, d.acc.length, ps⟩] : List (LR (LR Int)))) rfl Try.underlying114 sz77 rfl rfl rfl (H18.ownT 4 rfl) (H18.rdT 9 rfl) (by simp only [List.length_singleton]; omega) (by simp only [List.length_singleton]; omega) fun a2 c2 w12 u10 => ?_)
      have H19 : UpG w [] w12 [[blk w.heap.size #[.slice dca d.cls.length dcc, .int .i64 d.width, .int .i64 d.start, .slice dna d.next.length dnc, .slice dba d.acc.length dbc] 25], [rowT (tyI .i64) (.slice (some ⟨w1.heap.size, 0, none⟩) ((List.replicate d.acc.length (0 : Int)).length) d.acc.length) 3 (List.replicate d.acc.length (0 : Int))], [blk w2.heap.size #[.slice fqa Fq.length fqc, .slice (some ⟨w1.heap.size, 0, none⟩) ((List.replicate d.acc.length (0 : Int)).length) d.acc.length, .slice none 0 0, .slice none 0 0, .slice none 0 0] 117], [rowT (tyI .i64) (.slice a2_1 ((usedI d).length) c2_1) 3 (usedI d)], [rowT tyLR (.slice a2 ((Fq ++ ([⟨(some ⟨w5.heap.size, 0, none⟩), (List.replicate d.acc.length (lr0 : LR Int)).length, d.acc.length, ps⟩] : List (LR (LR Int)))).length) c2) 77 (Fq ++ ([⟨(some ⟨w5.heap.size, 0, none⟩), (List.replicate d.acc.length (lr0 : LR Int)).length, d.acc.length, ps⟩] : List (LR (LR Int))))], [manyF (inLR tyLR 22).row Fq], [manyF innF.row (Fq.flatMap LR.xs)], [rowT tyLR (.slice (some ⟨w5.heap.size, 0, none⟩) ((List.replicate d.acc.length (lr0 : LR Int)).length) d.acc.length) 22 ps], [manyF (inLR (tyI .i64) 3).row ps], []] := (H18.on 4 rfl u10).drop 9
      have H20 : UpG w [] w12 [[blk w.heap.size #[.slice dca d.cls.length dcc, .int .i64 d.width, .int .i64 d.start, .slice dna d.next.length dnc, .slice dba d.acc.length dbc] 25], [rowT (tyI .i64) (.slice (some ⟨w1.heap.size, 0, none⟩) ((List.replicate d.acc.length (0 : Int)).length) d.acc.length) 3 (List.replicate d.acc.length (0 : Int))], [blk w2.heap.size #[.slice fqa Fq.length fqc, .slice (some ⟨w1.heap.size, 0, none⟩) ((List.replicate d.acc.length (0 : Int)).length) d.acc.length, .slice none 0 0, .slice none 0 0, .slice none 0 0] 117], [rowT (tyI .i64) (.slice a2_1 ((usedI d).length) c2_1) 3 (usedI d)], [rowT tyLR (.slice a2 ((Fq ++ ([⟨(some ⟨w5.heap.size, 0, none⟩), (List.replicate d.acc.length (lr0 : LR Int)).length, d.acc.length, ps⟩] : List (LR (LR Int)))).length) c2) 77 (Fq ++ ([⟨(some ⟨w5.heap.size, 0, none⟩), (List.replicate d.acc.length (lr0 : LR Int)).length, d.acc.length, ps⟩] : List (LR (LR Int))))], [manyF (inLR tyLR 22).row (Fq ++ [⟨(some ⟨w5.heap.size, 0, none⟩), (List.replicate d.acc.length (lr0 : LR Int)).length, d.acc.length, ps⟩])], [manyF innF.row (Fq.flatMap LR.xs)], [], [manyF (inLR (tyI .i64) 3).row ps], []] := (UpG.absorb (f := (inLR tyLR 22).row) (⟨(some ⟨w5.heap.size, 0, none⟩), (List.replicate d.acc.length (lr0 : LR Int)).length, d.acc.length, ps⟩ : (LR (LR Int))) H19 5 7 rfl rfl rfl).re rfl
      refine WL.op rfl (d_nilCheck rfl ?_)
      refine WL.op rfl (d_fieldAddrB fld117_0 rfl rfl ?_)
      refine WL.op0 (d_storeB sz114 rfl rfl rfl (H20.blk 2 rfl) rfl fun w13 u11 => ?_)
      have H21 : UpG w [] w13 [[blk w.heap.size #[.slice dca d.cls.length dcc, .int .i64 d.width, .int .i64 d.start, .slice dna d.next.length dnc, .slice dba d.acc.length dbc] 25], [rowT (tyI .i64) (.slice (some ⟨w1.heap.size, 0, none⟩) ((List.replicate d.acc.length (0 : Int)).length) d.acc.length) 3 (List.replicate d.acc.length (0 : Int))], [blk w2.heap.size #[.slice a2 ((Fq ++ ([⟨(some ⟨w5.heap.size, 0, none⟩), (List.replicate d.acc.length (lr0 : LR Int)).length, d.acc.length, ps⟩] : List (LR (LR Int)))).length) c2, .slice (some ⟨w1.heap.size, 0, none⟩) ((List.replicate d.acc.length (0 : Int)).length) d.acc.length, .slice none 0 0, .slice none 0 0, .slice none 0 0] 117], [rowT (tyI .i64) (.slice a2_1 ((usedI d).length) c2_1) 3 (usedI d)], [rowT tyLR (.slice a2 ((Fq ++ ([⟨(some ⟨w5.heap.size, 0, none⟩), (List.replicate d.acc.length (lr0 : LR Int)).length, d.acc.length, ps⟩] : List (LR (LR Int)))).length) c2) 77 (Fq ++ ([⟨(some ⟨w5.heap.size, 0, none⟩), (List.replicate d.acc.length (lr0 : LR Int)).length, d.acc.length, ps⟩] : List (LR (LR Int))))], [manyF (inLR tyLR 22).row (Fq ++ [⟨(some ⟨w5.heap.size, 0, none⟩), (List.replicate d.acc.length (lr0 : LR Int)).length, d.acc.length, ps⟩])], [manyF innF.row (Fq.flatMap LR.xs)], [], [manyF (inLR (tyI .i64) 3).row ps], []] := H20.on 2 rfl u11
      refine WL.done (X.block_normal (X.then_code ?_))
      refine W.region ?_
      refine WL.op rfl (d_add rfl rfl (by omega) (by omega) ?_)
      refine WL.op rfl (d_move rfl ?_)
      refine WL.done ?_
      have H22 : UpG w [] w13 [[blk w.heap.size #[.slice dca d.cls.length dcc, .int .i64 d.width, .int .i64 d.start, .slice dna d.next.length dnc, .slice dba d.acc.length dbc] 25], [rowT (tyI .i64) (.slice (some ⟨w1.heap.size, 0, none⟩) ((List.replicate d.acc.length (0 : Int)).length) d.acc.length) 3 (List.replicate d.acc.length (0 : Int))], [blk w2.heap.size #[.slice a2 ((Fq ++ ([⟨(some ⟨w5.heap.size, 0, none⟩), (List.replicate d.acc.length (lr0 : LR Int)).length, d.acc.length, ps⟩] : List (LR (LR Int)))).length) c2, .slice (some ⟨w1.heap.size, 0, none⟩) ((List.replicate d.acc.length (0 : Int)).length) d.acc.length, .slice none 0 0, .slice none 0 0, .slice none 0 0] 117], [rowT (tyI .i64) (.slice a2_1 ((usedI d).length) c2_1) 3 (usedI d)], [rowT tyLR (.slice a2 ((Fq ++ ([⟨(some ⟨w5.heap.size, 0, none⟩), (List.replicate d.acc.length (lr0 : LR Int)).length, d.acc.length, ps⟩] : List (LR (LR Int)))).length) c2) 77 (Fq ++ ([⟨(some ⟨w5.heap.size, 0, none⟩), (List.replicate d.acc.length (lr0 : LR Int)).length, d.acc.length, ps⟩] : List (LR (LR Int))))], [manyF (inLR tyLR 22).row (Fq ++ [⟨(some ⟨w5.heap.size, 0, none⟩), (List.replicate d.acc.length (lr0 : LR Int)).length, d.acc.length, ps⟩])], [manyF innF.row ((Fq ++ ([⟨(some ⟨w5.heap.size, 0, none⟩), (List.replicate d.acc.length (lr0 : LR Int)).length, d.acc.length, ps⟩] : List (LR (LR Int)))).flatMap LR.xs)], [], [], []] := (H21.joinFlat (f := innF.row) (⟨(some ⟨w5.heap.size, 0, none⟩), (List.replicate d.acc.length (lr0 : LR Int)).length, d.acc.length, ps⟩ : LR (LR Int)) 6 8 rfl rfl rfl).re rfl
      exact X.next [27, 26, 25, 4, 3, 2, 1] (Γ' := [(27, .int .i64 (((k + 1) : Nat) : Int)), (26, .int .i64 (((usedI d).length : Nat) : Int)), (25, .slice a2_1 ((usedI d).length) c2_1), (4, .pointer (some ⟨w2.heap.size, 0, none⟩)), (3, .int .i64 ((d.acc.length : Nat) : Int)), (2, .pointer none), (1, .pointer (some ⟨w.heap.size, 0, none⟩))]) rfl ((usedI d).length - (k + 1)) (by omega) ⟨k + 1, Fq ++ ([⟨(some ⟨w5.heap.size, 0, none⟩), (List.replicate d.acc.length (lr0 : LR Int)).length, d.acc.length, ps⟩] : List (LR (LR Int))), a2, c2, rfl, (H22.re rfl), (by first | assumption | omega | simp), (by exact hf.step hp (by omega)), rfl⟩
  · skip
    refine W.exit (X.then_exit (X.then_exit (X.block_exit (X.then_code ?_))))
    refine W.seq ?_
    have H23 : UpG w [] w5 [[blk w.heap.size #[.slice dca d.cls.length dcc, .int .i64 d.width, .int .i64 d.start, .slice dna d.next.length dnc, .slice dba d.acc.length dbc] 25], [rowT (tyI .i64) (.slice (some ⟨w1.heap.size, 0, none⟩) ((List.replicate d.acc.length (0 : Int)).length) d.acc.length) 3 (List.replicate d.acc.length (0 : Int))], [blk w2.heap.size #[.slice fqa Fq.length fqc, .slice (some ⟨w1.heap.size, 0, none⟩) ((List.replicate d.acc.length (0 : Int)).length) d.acc.length, .slice none 0 0, .slice none 0 0, .slice none 0 0] 117], [rowT (tyI .i64) (.slice a2_1 ((usedI d).length) c2_1) 3 (usedI d)], [rowT tyLR (.slice fqa Fq.length fqc) 77 Fq], [manyF (inLR tyLR 22).row Fq], [manyF innF.row (Fq.flatMap LR.xs)]] := H9.re rfl
    have H24 : UpG w [] w5 [[rowT tyLR (.slice fqa Fq.length fqc) 77 Fq, manyF (inLR tyLR 22).row Fq, manyF innF.row (Fq.flatMap LR.xs)], [blk w.heap.size #[.slice dca d.cls.length dcc, .int .i64 d.width, .int .i64 d.start, .slice dna d.next.length dnc, .slice dba d.acc.length dbc] 25], [rowT (tyI .i64) (.slice (some ⟨w1.heap.size, 0, none⟩) ((List.replicate d.acc.length (0 : Int)).length) d.acc.length) 3 (List.replicate d.acc.length (0 : Int))], [blk w2.heap.size #[.slice fqa Fq.length fqc, .slice (some ⟨w1.heap.size, 0, none⟩) ((List.replicate d.acc.length (0 : Int)).length) d.acc.length, .slice none 0 0, .slice none 0 0, .slice none 0 0] 117], [rowT (tyI .i64) (.slice a2_1 ((usedI d).length) c2_1) 3 (usedI d)]] := UpG.of (Upd.sel H23 (l := [4, 5, 6, 0, 1, 2, 3]) rfl rfl) rfl
    have H25 : UpG w [] w5 [[fromC fqa Fq.length fqc Fq], [blk w.heap.size #[.slice dca d.cls.length dcc, .int .i64 d.width, .int .i64 d.start, .slice dna d.next.length dnc, .slice dba d.acc.length dbc] 25], [rowT (tyI .i64) (.slice (some ⟨w1.heap.size, 0, none⟩) ((List.replicate d.acc.length (0 : Int)).length) d.acc.length) 3 (List.replicate d.acc.length (0 : Int))], [blk w2.heap.size #[.slice fqa Fq.length fqc, .slice (some ⟨w1.heap.size, 0, none⟩) ((List.replicate d.acc.length (0 : Int)).length) d.acc.length, .slice none 0 0, .slice none 0 0, .slice none 0 0] 117], [rowT (tyI .i64) (.slice a2_1 ((usedI d).length) c2_1) 3 (usedI d)]] := H24.packFrom 0 rfl
    have hfl := hf.len
    have hFP := hf.fin (by omega)
    refine W.region ?_
    refine WL.op rfl (d_assign rfl ?_)
    refine WL.op rfl (d_assign rfl ?_)
    refine WL.done (X.then_code ?_)
    refine W.seq ?_
    refine W.seq ?_
    refine W.region ?_
    refine WL.op rfl (d_fieldAddrB fld25_4 rfl rfl ?_)
    refine WL.op rfl (d_loadB Try.underlying23 rfl rfl (H25.blk 1 rfl) rfl ?_)
    refine WL.op rfl (d_lenS Try.underlying23 rfl ?_)
    refine WL.op rfl (d_move rfl ?_)
    refine WL.done (X.then_code ?_)
    refine W.block ?_
    have H26 : UpG w [] w5 [[fromC fqa Fq.length fqc Fq], [blk w.heap.size #[.slice dca d.cls.length dcc, .int .i64 d.width, .int .i64 d.start, .slice dna d.next.length dnc, .slice dba d.acc.length dbc] 25], [rowT (tyI .i64) (.slice (some ⟨w1.heap.size, 0, none⟩) ((List.replicate d.acc.length (0 : Int)).length) d.acc.length) 3 (List.replicate d.acc.length (0 : Int))], [blk w2.heap.size #[.slice fqa Fq.length fqc, .slice (some ⟨w1.heap.size, 0, none⟩) ((List.replicate d.acc.length (0 : Int)).length) d.acc.length, .slice none 0 0, .slice none 0 0, .slice none 0 0] 117], [rowT (tyI .i64) (.slice a2_1 ((usedI d).length) c2_1) 3 (usedI d)], [rowT (tyI .i64) (.slice none (([] : List Int).length) 0) 3 ([] : List Int)]] := H25.new' (Upd.nilRowT w5 (tyI .i64) 3)
    have H27 : UpG w [] w5 [[fromC fqa Fq.length fqc Fq], [blk w.heap.size #[.slice dca d.cls.length dcc, .int .i64 d.width, .int .i64 d.start, .slice dna d.next.length dnc, .slice dba d.acc.length dbc] 25], [rowT (tyI .i64) (.slice (some ⟨w1.heap.size, 0, none⟩) ((List.replicate d.acc.length (0 : Int)).length) d.acc.length) 3 (List.replicate d.acc.length (0 : Int))], [blk w2.heap.size #[.slice fqa Fq.length fqc, .slice (some ⟨w1.heap.size, 0, none⟩) ((List.replicate d.acc.length (0 : Int)).length) d.acc.length, .slice none 0 0, .slice none 0 0, .slice none 0 0] 117], [rowT (tyI .i64) (.slice a2_1 ((usedI d).length) c2_1) 3 (usedI d)], [rowT (tyI .i64) (.slice none (([] : List Int).length) 0) 3 ([] : List Int)], [rowT (tyI .i64) (.slice none (([] : List Int).length) 0) 3 ([] : List Int)]] := H26.new' (Upd.nilRowT w5 (tyI .i64) 3)
    refine W.pick [72, 71, 70, 11, 10, 4, 2] (Γ' := [(72, .int .i64 0), (71, .int .i64 ((d.acc.length : Nat) : Int)), (70, .slice dba d.acc.length dbc), (11, .slice none (([] : List Int).length) 0), (10, .slice none (([] : List Int).length) 0), (4, .pointer (some ⟨w2.heap.size, 0, none⟩)), (2, .pointer none)]) rfl ?_
    refine W.loop (fun m Γ' w' => ∃ i : Nat, ∃ ys : List Int, ∃ ya : Option Addr, ∃ yc : Nat, ∃ ns : List Int, ∃ na : Option Addr, ∃ nc : Nat, Γ' = [(72, .int .i64 ((i : Nat) : Int)), (71, .int .i64 ((d.acc.length : Nat) : Int)), (70, .slice dba d.acc.length dbc), (11, .slice na ns.length nc), (10, .slice ya ys.length yc), (4, .pointer (some ⟨w2.heap.size, 0, none⟩)), (2, .pointer none)] ∧ UpG w [] w' [[fromC fqa Fq.length fqc Fq], [blk w.heap.size #[.slice dca d.cls.length dcc, .int .i64 d.width, .int .i64 d.start, .slice dna d.next.length dnc, .slice dba d.acc.length dbc] 25], [rowT (tyI .i64) (.slice (some ⟨w1.heap.size, 0, none⟩) ((List.replicate d.acc.length (0 : Int)).length) d.acc.length) 3 (List.replicate d.acc.length (0 : Int))], [blk w2.heap.size #[.slice fqa Fq.length fqc, .slice (some ⟨w1.heap.size, 0, none⟩) ((List.replicate d.acc.length (0 : Int)).length) d.acc.length, .slice none 0 0, .slice none 0 0, .slice none 0 0] 117], [rowT (tyI .i64) (.slice a2_1 ((usedI d).length) c2_1) 3 (usedI d)], [rowT (tyI .i64) (.slice ya ys.length yc) 3 ys], [rowT (tyI .i64) (.slice na ns.length nc) 3 ns]] ∧ (i ≤ d.acc.length) ∧ (ys = splL d true i) ∧ (ns = splL d false i) ∧ m = d.acc.length - i) (d.acc.length - 0) ⟨0, ([] : List Int), none, 0, ([] : List Int), none, 0, rfl, H27, (by first | assumption | omega | simp), (by rfl), (by rfl), rfl⟩ ?_
    rintro m3 Γ3 w14 ⟨i_1, ys, ya, yc, ns, na, nc, rfl, H28, hi, hys, hns, rfl⟩
    have hyl : ys.length ≤ i_1 := by rw [hys]; exact splL_len d true i_1
    have hnl : ns.length ≤ i_1 := by rw [hns]; exact splL_len d false i_1
    refine W.seq ?_
    refine W.region ?_
    refine WL.op rfl (d_cmp (decide (((i_1 : Nat) : Int) < ((d.acc.length : Nat) : Int))) rfl rfl rfl ?_)
    refine WL.done (X.then_code ?_)
    refine W.seq ?_
    refine W.ite (p := ((i_1 : Nat) : Int) < ((d.acc.length : Nat) : Int)) rfl (fun c44 => ?_) (fun c44 => ?_)
    · skip
      refine W.skip (X.then_code ?_)
      refine W.seq ?_
      refine W.block ?_
      refine W.seq ?_
      refine W.region ?_
      refine WL.op rfl (d_move rfl ?_)
      refine WL.op rfl (t_addr1 i_1 (T := tyB) rfl Try.underlying23 sz4 rfl rfl (rbd.at H28) rfl (by omega) ?_)
      refine WL.op rfl (t_load1 i_1 false (T := tyB) rfl Try.underlying4 rfl rfl (rbd.at H28) (by omega) rfl ?_)
      refine WL.op rfl (d_assign rfl ?_)
      refine WL.op rfl (d_assign rfl ?_)
      refine WL.done (X.then_code ?_)
      refine W.seq ?_
      refine W.region ?_
      refine WL.op rfl (d_move rfl ?_)
      refine WL.done (X.then_code ?_)
      refine W.iteB (b := d.acc.getD i_1 false) rfl (fun c45 => ?_) (fun c45 => ?_)
      · skip
        have hyl := splL_len d true i_1
        refine W.region ?_
        refine WL.op rfl (d_move rfl ?_)
        refine WL.op rfl (d_move rfl ?_)
        refine WL.op rfl (t_buildSlice (T := (tyI .i64)) (xs := [((i_1 : Nat) : Int)]) (cs := #[.int .i64 ((i_1 : Nat) : Int)]) rfl Try.underlying22 sz3 rfl rfl rfl rfl (by kernel_rfl) rfl rfl fun w15 u12 => ?_)
        have H29 : UpG w [] w15 [[fromC fqa Fq.length fqc Fq], [blk w.heap.size #[.slice dca d.cls.length dcc, .int .i64 d.width, .int .i64 d.start, .slice dna d.next.length dnc, .slice dba d.acc.length dbc] 25], [rowT (tyI .i64) (.slice (some ⟨w1.heap.size, 0, none⟩) ((List.replicate d.acc.length (0 : Int)).length) d.acc.length) 3 (List.replicate d.acc.length (0 : Int))], [blk w2.heap.size #[.slice fqa Fq.length fqc, .slice (some ⟨w1.heap.size, 0, none⟩) ((List.replicate d.acc.length (0 : Int)).length) d.acc.length, .slice none 0 0, .slice none 0 0, .slice none 0 0] 117], [rowT (tyI .i64) (.slice a2_1 ((usedI d).length) c2_1) 3 (usedI d)], [rowT (tyI .i64) (.slice ya ys.length yc) 3 ys], [rowT (tyI .i64) (.slice na ns.length nc) 3 ns], [rowT (tyI .i64) (.slice (some ⟨w14.heap.size, 0, none⟩) ([((i_1 : Nat) : Int)].length) ([((i_1 : Nat) : Int)].length)) 3 [((i_1 : Nat) : Int)]]] := H28.new' u12
        refine WL.op rfl (t_append (T := (tyI .i64)) (xs := ys) (ys := [((i_1 : Nat) : Int)]) rfl Try.underlying22 sz3 rfl rfl rfl (H29.ownT 5 rfl) (H29.rdT 7 rfl) (by simp only [List.length_singleton]; omega) (by simp only [List.length_singleton]; omega) fun a3 c3 w16 u13 => ?_)
        have H30 : UpG w [] w16 [[fromC fqa Fq.length fqc Fq], [blk w.heap.size #[.slice dca d.cls.length dcc, .int .i64 d.width, .int .i64 d.start, .slice dna d.next.length dnc, .slice dba d.acc.length dbc] 25], [rowT (tyI .i64) (.slice (some ⟨w1.heap.size, 0, none⟩) ((List.replicate d.acc.length (0 : Int)).length) d.acc.length) 3 (List.replicate d.acc.length (0 : Int))], [blk w2.heap.size #[.slice fqa Fq.length fqc, .slice (some ⟨w1.heap.size, 0, none⟩) ((List.replicate d.acc.length (0 : Int)).length) d.acc.length, .slice none 0 0, .slice none 0 0, .slice none 0 0] 117], [rowT (tyI .i64) (.slice a2_1 ((usedI d).length) c2_1) 3 (usedI d)], [rowT (tyI .i64) (.slice a3 ((ys ++ [((i_1 : Nat) : Int)]).length) c3) 3 (ys ++ [((i_1 : Nat) : Int)])], [rowT (tyI .i64) (.slice na ns.length nc) 3 ns], []] := (H29.on 5 rfl u13).drop 7
        refine WL.op rfl (d_assign rfl ?_)
        refine WL.done (X.block_normal (X.then_code ?_))
        refine W.region ?_
        refine WL.op rfl (d_add rfl rfl (by omega) (by omega) ?_)
        refine WL.op rfl (d_move rfl ?_)
        refine WL.done ?_
        exact X.next [72, 71, 70, 11, 10, 4, 2] (Γ' := [(72, .int .i64 (((i_1 + 1) : Nat) : Int)), (71, .int .i64 ((d.acc.length : Nat) : Int)), (70, .slice dba d.acc.length dbc), (11, .slice na ns.length nc), (10, .slice a3 ((ys ++ [((i_1 : Nat) : Int)]).length) c3), (4, .pointer (some ⟨w2.heap.size, 0, none⟩)), (2, .pointer none)]) rfl (d.acc.length - (i_1 + 1)) (by omega) ⟨i_1 + 1, ys ++ [((i_1 : Nat) : Int)], a3, c3, ns, na, nc, rfl, (H30.re rfl), (by first | assumption | omega | simp), (by first | (rw [hys]; exact splL_yes c45) | (rw [hys]; exact splL_no c45)), (by first | (rw [hns]; exact splL_yes (by simpa using c45)) | (rw [hns]; exact splL_no (by rw [c45]; decide))), rfl⟩
      · skip
        have hnl := splL_len d false i_1
        refine W.region ?_
        refine WL.op rfl (d_move rfl ?_)
        refine WL.op rfl (d_move rfl ?_)
        refine WL.op rfl (t_buildSlice (T := (tyI .i64)) (xs := [((i_1 : Nat) : Int)]) (cs := #[.int .i64 ((i_1 : Nat) : Int)]) rfl Try.underlying22 sz3 rfl rfl rfl rfl (by kernel_rfl) rfl rfl fun w17 u14 => ?_)
        have H31 : UpG w [] w17 [[fromC fqa Fq.length fqc Fq], [blk w.heap.size #[.slice dca d.cls.length dcc, .int .i64 d.width, .int .i64 d.start, .slice dna d.next.length dnc, .slice dba d.acc.length dbc] 25], [rowT (tyI .i64) (.slice (some ⟨w1.heap.size, 0, none⟩) ((List.replicate d.acc.length (0 : Int)).length) d.acc.length) 3 (List.replicate d.acc.length (0 : Int))], [blk w2.heap.size #[.slice fqa Fq.length fqc, .slice (some ⟨w1.heap.size, 0, none⟩) ((List.replicate d.acc.length (0 : Int)).length) d.acc.length, .slice none 0 0, .slice none 0 0, .slice none 0 0] 117], [rowT (tyI .i64) (.slice a2_1 ((usedI d).length) c2_1) 3 (usedI d)], [rowT (tyI .i64) (.slice ya ys.length yc) 3 ys], [rowT (tyI .i64) (.slice na ns.length nc) 3 ns], [rowT (tyI .i64) (.slice (some ⟨w14.heap.size, 0, none⟩) ([((i_1 : Nat) : Int)].length) ([((i_1 : Nat) : Int)].length)) 3 [((i_1 : Nat) : Int)]]] := H28.new' u14
        refine WL.op rfl (t_append (T := (tyI .i64)) (xs := ns) (ys := [((i_1 : Nat) : Int)]) rfl Try.underlying22 sz3 rfl rfl rfl (H31.ownT 6 rfl) (H31.rdT 7 rfl) (by simp only [List.length_singleton]; omega) (by simp only [List.length_singleton]; omega) fun a4 c4 w18 u15 => ?_)
        have H32 : UpG w [] w18 [[fromC fqa Fq.length fqc Fq], [blk w.heap.size #[.slice dca d.cls.length dcc, .int .i64 d.width, .int .i64 d.start, .slice dna d.next.length dnc, .slice dba d.acc.length dbc] 25], [rowT (tyI .i64) (.slice (some ⟨w1.heap.size, 0, none⟩) ((List.replicate d.acc.length (0 : Int)).length) d.acc.length) 3 (List.replicate d.acc.length (0 : Int))], [blk w2.heap.size #[.slice fqa Fq.length fqc, .slice (some ⟨w1.heap.size, 0, none⟩) ((List.replicate d.acc.length (0 : Int)).length) d.acc.length, .slice none 0 0, .slice none 0 0, .slice none 0 0] 117], [rowT (tyI .i64) (.slice a2_1 ((usedI d).length) c2_1) 3 (usedI d)], [rowT (tyI .i64) (.slice ya ys.length yc) 3 ys], [rowT (tyI .i64) (.slice a4 ((ns ++ [((i_1 : Nat) : Int)]).length) c4) 3 (ns ++ [((i_1 : Nat) : Int)])], []] := (H31.on 6 rfl u15).drop 7
        refine WL.op rfl (d_assign rfl ?_)
        refine WL.done (X.block_normal (X.then_code ?_))
        refine W.region ?_
        refine WL.op rfl (d_add rfl rfl (by omega) (by omega) ?_)
        refine WL.op rfl (d_move rfl ?_)
        refine WL.done ?_
        exact X.next [72, 71, 70, 11, 10, 4, 2] (Γ' := [(72, .int .i64 (((i_1 + 1) : Nat) : Int)), (71, .int .i64 ((d.acc.length : Nat) : Int)), (70, .slice dba d.acc.length dbc), (11, .slice a4 ((ns ++ [((i_1 : Nat) : Int)]).length) c4), (10, .slice ya ys.length yc), (4, .pointer (some ⟨w2.heap.size, 0, none⟩)), (2, .pointer none)]) rfl (d.acc.length - (i_1 + 1)) (by omega) ⟨i_1 + 1, ys, ya, yc, ns ++ [((i_1 : Nat) : Int)], a4, c4, rfl, (H32.re rfl), (by first | assumption | omega | simp), (by first | (rw [hys]; exact splL_yes c45) | (rw [hys]; exact splL_no c45)), (by first | (rw [hns]; exact splL_yes (by simpa using c45)) | (rw [hns]; exact splL_no (by rw [c45]; decide))), rfl⟩
    · skip
      refine W.exit (X.then_exit (X.then_exit (X.block_exit (X.then_code ?_))))
      refine W.seq ?_
      refine W.seq ?_
      refine W.region ?_
      refine WL.op rfl (d_move rfl ?_)
      refine WL.op rfl (d_move rfl ?_)
      refine WL.op rfl (t_buildSlice (T := tyLR) (xs := ([⟨na, ns.length, nc, ns⟩, ⟨ya, ys.length, yc, ys⟩] : List (LR Int))) (cs := #[.slice na ns.length nc, .slice ya ys.length yc]) rfl Try.underlying77 sz22 rfl rfl rfl rfl (by kernel_rfl) rfl rfl fun w19 u16 => ?_)
      have H33 : UpG w [] w19 [[fromC fqa Fq.length fqc Fq], [blk w.heap.size #[.slice dca d.cls.length dcc, .int .i64 d.width, .int .i64 d.start, .slice dna d.next.length dnc, .slice dba d.acc.length dbc] 25], [rowT (tyI .i64) (.slice (some ⟨w1.heap.size, 0, none⟩) ((List.replicate d.acc.length (0 : Int)).length) d.acc.length) 3 (List.replicate d.acc.length (0 : Int))], [blk w2.heap.size #[.slice fqa Fq.length fqc, .slice (some ⟨w1.heap.size, 0, none⟩) ((List.replicate d.acc.length (0 : Int)).length) d.acc.length, .slice none 0 0, .slice none 0 0, .slice none 0 0] 117], [rowT (tyI .i64) (.slice a2_1 ((usedI d).length) c2_1) 3 (usedI d)], [rowT (tyI .i64) (.slice ya ys.length yc) 3 ys], [rowT (tyI .i64) (.slice na ns.length nc) 3 ns], [rowT tyLR (.slice (some ⟨w14.heap.size, 0, none⟩) (([⟨na, ns.length, nc, ns⟩, ⟨ya, ys.length, yc, ys⟩] : List (LR Int)).length) (([⟨na, ns.length, nc, ns⟩, ⟨ya, ys.length, yc, ys⟩] : List (LR Int)).length)) 22 ([⟨na, ns.length, nc, ns⟩, ⟨ya, ys.length, yc, ys⟩] : List (LR Int))]] := H28.new' u16
      refine WL.op rfl (d_lenS Try.underlying77 rfl ?_)
      refine WL.op rfl (d_move rfl ?_)
      refine WL.done (X.then_code ?_)
      refine W.block ?_
      have H34 : UpG w [] w19 [[fromC fqa Fq.length fqc Fq], [blk w.heap.size #[.slice dca d.cls.length dcc, .int .i64 d.width, .int .i64 d.start, .slice dna d.next.length dnc, .slice dba d.acc.length dbc] 25], [rowT (tyI .i64) (.slice (some ⟨w1.heap.size, 0, none⟩) ((List.replicate d.acc.length (0 : Int)).length) d.acc.length) 3 (List.replicate d.acc.length (0 : Int))], [blk w2.heap.size #[.slice fqa Fq.length fqc, .slice (some ⟨w1.heap.size, 0, none⟩) ((List.replicate d.acc.length (0 : Int)).length) d.acc.length, .slice none 0 0, .slice none 0 0, .slice none 0 0] 117], [rowT (tyI .i64) (.slice a2_1 ((usedI d).length) c2_1) 3 (usedI d)], [rowT (tyI .i64) (.slice ya ys.length yc) 3 ys], [rowT (tyI .i64) (.slice na ns.length nc) 3 ns], [rowT tyLR (.slice (some ⟨w14.heap.size, 0, none⟩) (([⟨na, ns.length, nc, ns⟩, ⟨ya, ys.length, yc, ys⟩] : List (LR Int)).length) (([⟨na, ns.length, nc, ns⟩, ⟨ya, ys.length, yc, ys⟩] : List (LR Int)).length)) 22 ([⟨na, ns.length, nc, ns⟩, ⟨ya, ys.length, yc, ys⟩] : List (LR Int))], [rowT tyLR (.slice none (([] : List (LR Int)).length) 0) 22 ([] : List (LR Int))]] := H33.new' (Upd.nilRowT w19 tyLR 22)
      have H35 : UpG w [] w19 [[fromC fqa Fq.length fqc Fq], [blk w.heap.size #[.slice dca d.cls.length dcc, .int .i64 d.width, .int .i64 d.start, .slice dna d.next.length dnc, .slice dba d.acc.length dbc] 25], [rowT (tyI .i64) (.slice (some ⟨w1.heap.size, 0, none⟩) ((List.replicate d.acc.length (0 : Int)).length) d.acc.length) 3 (List.replicate d.acc.length (0 : Int))], [blk w2.heap.size #[.slice fqa Fq.length fqc, .slice (some ⟨w1.heap.size, 0, none⟩) ((List.replicate d.acc.length (0 : Int)).length) d.acc.length, .slice none 0 0, .slice none 0 0, .slice none 0 0] 117], [rowT (tyI .i64) (.slice a2_1 ((usedI d).length) c2_1) 3 (usedI d)], [rowT (tyI .i64) (.slice ya ys.length yc) 3 ys], [rowT (tyI .i64) (.slice na ns.length nc) 3 ns], [rowT tyLR (.slice (some ⟨w14.heap.size, 0, none⟩) (([⟨na, ns.length, nc, ns⟩, ⟨ya, ys.length, yc, ys⟩] : List (LR Int)).length) (([⟨na, ns.length, nc, ns⟩, ⟨ya, ys.length, yc, ys⟩] : List (LR Int)).length)) 22 ([⟨na, ns.length, nc, ns⟩, ⟨ya, ys.length, yc, ys⟩] : List (LR Int))], [rowT tyLR (.slice none (([] : List (LR Int)).length) 0) 22 ([] : List (LR Int))], [rowT tyTk (.slice none (([] : List (Int × Int)).length) 0) 119 ([] : List (Int × Int))]] := H34.new' (Upd.nilRowT w19 tyTk 119)
      have H36 : UpG w [] w19 [[fromC fqa Fq.length fqc Fq], [blk w.heap.size #[.slice dca d.cls.length dcc, .int .i64 d.width, .int .i64 d.start, .slice dna d.next.length dnc, .slice dba d.acc.length dbc] 25], [rowT (tyI .i64) (.slice (some ⟨w1.heap.size, 0, none⟩) ((List.replicate d.acc.length (0 : Int)).length) d.acc.length) 3 (List.replicate d.acc.length (0 : Int))], [blk w2.heap.size #[.slice fqa Fq.length fqc, .slice (some ⟨w1.heap.size, 0, none⟩) ((List.replicate d.acc.length (0 : Int)).length) d.acc.length, .slice none 0 0, .slice none 0 0, .slice none 0 0] 117], [rowT (tyI .i64) (.slice a2_1 ((usedI d).length) c2_1) 3 (usedI d)], [rowT (tyI .i64) (.slice ya ys.length yc) 3 ys], [rowT (tyI .i64) (.slice na ns.length nc) 3 ns], [rowT tyLR (.slice (some ⟨w14.heap.size, 0, none⟩) (([⟨na, ns.length, nc, ns⟩, ⟨ya, ys.length, yc, ys⟩] : List (LR Int)).length) (([⟨na, ns.length, nc, ns⟩, ⟨ya, ys.length, yc, ys⟩] : List (LR Int)).length)) 22 ([⟨na, ns.length, nc, ns⟩, ⟨ya, ys.length, yc, ys⟩] : List (LR Int))], [rowT tyLR (.slice none (([] : List (LR Int)).length) 0) 22 ([] : List (LR Int))], [rowT tyTk (.slice none (([] : List (Int × Int)).length) 0) 119 ([] : List (Int × Int))], [rowT tyLR (.slice none (([] : List (LR Bool)).length) 0) 23 ([] : List (LR Bool))]] := H35.new' (Upd.nilRowT w19 tyLR 23)
      have H37 : UpG w [] w19 [[fromC fqa Fq.length fqc Fq], [blk w.heap.size #[.slice dca d.cls.length dcc, .int .i64 d.width, .int .i64 d.start, .slice dna d.next.length dnc, .slice dba d.acc.length dbc] 25], [rowT (tyI .i64) (.slice (some ⟨w1.heap.size, 0, none⟩) ((List.replicate d.acc.length (0 : Int)).length) d.acc.length) 3 (List.replicate d.acc.length (0 : Int))], [blk w2.heap.size #[.slice fqa Fq.length fqc, .slice (some ⟨w1.heap.size, 0, none⟩) ((List.replicate d.acc.length (0 : Int)).length) d.acc.length, .slice none (([] : List (LR Int)).length) 0, .slice none (([] : List (Int × Int)).length) 0, .slice none (([] : List (LR Bool)).length) 0] 117], [rowT (tyI .i64) (.slice a2_1 ((usedI d).length) c2_1) 3 (usedI d)], [rowT (tyI .i64) (.slice ya ys.length yc) 3 ys], [rowT (tyI .i64) (.slice na ns.length nc) 3 ns], [rowT tyLR (.slice (some ⟨w14.heap.size, 0, none⟩) (([⟨na, ns.length, nc, ns⟩, ⟨ya, ys.length, yc, ys⟩] : List (LR Int)).length) (([⟨na, ns.length, nc, ns⟩, ⟨ya, ys.length, yc, ys⟩] : List (LR Int)).length)) 22 ([⟨na, ns.length, nc, ns⟩, ⟨ya, ys.length, yc, ys⟩] : List (LR Int))], [rowT tyLR (.slice none (([] : List (LR Int)).length) 0) 22 ([] : List (LR Int))], [rowT tyTk (.slice none (([] : List (Int × Int)).length) 0) 119 ([] : List (Int × Int))], [rowT tyLR (.slice none (([] : List (LR Bool)).length) 0) 23 ([] : List (LR Bool))]] := H36.re rfl
      have H38 : UpG w [] w19 [[fromC fqa Fq.length fqc Fq], [blk w.heap.size #[.slice dca d.cls.length dcc, .int .i64 d.width, .int .i64 d.start, .slice dna d.next.length dnc, .slice dba d.acc.length dbc] 25], [rowT (tyI .i64) (.slice (some ⟨w1.heap.size, 0, none⟩) ((List.replicate d.acc.length (0 : Int)).length) d.acc.length) 3 (List.replicate d.acc.length (0 : Int))], [blk w2.heap.size #[.slice fqa Fq.length fqc, .slice (some ⟨w1.heap.size, 0, none⟩) ((List.replicate d.acc.length (0 : Int)).length) d.acc.length, .slice none (([] : List (LR Int)).length) 0, .slice none (([] : List (Int × Int)).length) 0, .slice none (([] : List (LR Bool)).length) 0] 117], [rowT (tyI .i64) (.slice a2_1 ((usedI d).length) c2_1) 3 (usedI d)], [rowT (tyI .i64) (.slice ya ys.length yc) 3 ys], [rowT (tyI .i64) (.slice na ns.length nc) 3 ns], [rowT tyLR (.slice (some ⟨w14.heap.size, 0, none⟩) (([⟨na, ns.length, nc, ns⟩, ⟨ya, ys.length, yc, ys⟩] : List (LR Int)).length) (([⟨na, ns.length, nc, ns⟩, ⟨ya, ys.length, yc, ys⟩] : List (LR Int)).length)) 22 ([⟨na, ns.length, nc, ns⟩, ⟨ya, ys.length, yc, ys⟩] : List (LR Int))], [rowT tyLR (.slice none (([] : List (LR Int)).length) 0) 22 ([] : List (LR Int))], [rowT tyTk (.slice none (([] : List (Int × Int)).length) 0) 119 ([] : List (Int × Int))], [rowT tyLR (.slice none (([] : List (LR Bool)).length) 0) 23 ([] : List (LR Bool))], [manyF (inLR (tyI .i64) 3).row ([] : List (LR Int))]] := H37.new' (Upd.manyNil (inLR (tyI .i64) 3).row w19)
      have H39 : UpG w [] w19 [[fromC fqa Fq.length fqc Fq], [blk w.heap.size #[.slice dca d.cls.length dcc, .int .i64 d.width, .int .i64 d.start, .slice dna d.next.length dnc, .slice dba d.acc.length dbc] 25], [rowT (tyI .i64) (.slice (some ⟨w1.heap.size, 0, none⟩) ((List.replicate d.acc.length (0 : Int)).length) d.acc.length) 3 (List.replicate d.acc.length (0 : Int))], [blk w2.heap.size #[.slice fqa Fq.length fqc, .slice (some ⟨w1.heap.size, 0, none⟩) ((List.replicate d.acc.length (0 : Int)).length) d.acc.length, .slice none (([] : List (LR Int)).length) 0, .slice none (([] : List (Int × Int)).length) 0, .slice none (([] : List (LR Bool)).length) 0] 117], [rowT (tyI .i64) (.slice a2_1 ((usedI d).length) c2_1) 3 (usedI d)], [rowT (tyI .i64) (.slice ya ys.length yc) 3 ys], [rowT (tyI .i64) (.slice na ns.length nc) 3 ns], [rowT tyLR (.slice (some ⟨w14.heap.size, 0, none⟩) (([⟨na, ns.length, nc, ns⟩, ⟨ya, ys.length, yc, ys⟩] : List (LR Int)).length) (([⟨na, ns.length, nc, ns⟩, ⟨ya, ys.length, yc, ys⟩] : List (LR Int)).length)) 22 ([⟨na, ns.length, nc, ns⟩, ⟨ya, ys.length, yc, ys⟩] : List (LR Int))], [rowT tyLR (.slice none (([] : List (LR Int)).length) 0) 22 ([] : List (LR Int))], [rowT tyTk (.slice none (([] : List (Int × Int)).length) 0) 119 ([] : List (Int × Int))], [rowT tyLR (.slice none (([] : List (LR Bool)).length) 0) 23 ([] : List (LR Bool))], [manyF (inLR (tyI .i64) 3).row ([] : List (LR Int))], [manyF (inLR tyB 4).row ([] : List (LR Bool))]] := H38.new' (Upd.manyNil (inLR tyB 4).row w19)
      have H40 : UpG w [] w19 [[fromC fqa Fq.length fqc Fq], [blk w.heap.size #[.slice dca d.cls.length dcc, .int .i64 d.width, .int .i64 d.start, .slice dna d.next.length dnc, .slice dba d.acc.length dbc] 25], [rowT (tyI .i64) (.slice (some ⟨w1.heap.size, 0, none⟩) ((List.replicate d.acc.length (0 : Int)).length) d.acc.length) 3 (List.replicate d.acc.length (0 : Int))], [blk w2.heap.size #[.slice fqa Fq.length fqc, .slice (some ⟨w1.heap.size, 0, none⟩) ((List.replicate d.acc.length (0 : Int)).length) d.acc.length, .slice none (([] : List (LR Int)).length) 0, .slice none (([] : List (Int × Int)).length) 0, .slice none (([] : List (LR Bool)).length) 0] 117], [rowT (tyI .i64) (.slice a2_1 ((usedI d).length) c2_1) 3 (usedI d)], [rowT (tyI .i64) (.slice ya ys.length yc) 3 ys], [rowT (tyI .i64) (.slice na ns.length nc) 3 ns], [rowT tyLR (.slice (some ⟨w14.heap.size, 0, none⟩) (([⟨na, ns.length, nc, ns⟩, ⟨ya, ys.length, yc, ys⟩] : List (LR Int)).length) (([⟨na, ns.length, nc, ns⟩, ⟨ya, ys.length, yc, ys⟩] : List (LR Int)).length)) 22 ([⟨na, ns.length, nc, ns⟩, ⟨ya, ys.length, yc, ys⟩] : List (LR Int))], [rowT tyLR (.slice none (([] : List (LR Int)).length) 0) 22 ([] : List (LR Int))], [rowT tyTk (.slice none (([] : List (Int × Int)).length) 0) 119 ([] : List (Int × Int))], [rowT tyLR (.slice none (([] : List (LR Bool)).length) 0) 23 ([] : List (LR Bool))], [manyF (inLR (tyI .i64) 3).row ([] : List (LR Int))], [manyF (inLR tyB 4).row ([] : List (LR Bool))], [manyF innZ.row ([] : List (LR Int))]] := H39.new' (Upd.manyNil innZ.row w19)
      have H41 : UpG w [] w19 [[fromC fqa Fq.length fqc Fq], [blk w.heap.size #[.slice dca d.cls.length dcc, .int .i64 d.width, .int .i64 d.start, .slice dna d.next.length dnc, .slice dba d.acc.length dbc] 25], [rowT (tyI .i64) (.slice (some ⟨w1.heap.size, 0, none⟩) ((List.replicate d.acc.length (0 : Int)).length) d.acc.length) 3 (List.replicate d.acc.length (0 : Int))], [blk w2.heap.size #[.slice fqa Fq.length fqc, .slice (some ⟨w1.heap.size, 0, none⟩) ((List.replicate d.acc.length (0 : Int)).length) d.acc.length, .slice none (([] : List (LR Int)).length) 0, .slice none (([] : List (Int × Int)).length) 0, .slice none (([] : List (LR Bool)).length) 0] 117], [rowT (tyI .i64) (.slice a2_1 ((usedI d).length) c2_1) 3 (usedI d)], [rowT (tyI .i64) (.slice ya ys.length yc) 3 ys], [], [rowT tyLR (.slice (some ⟨w14.heap.size, 0, none⟩) (([⟨na, ns.length, nc, ns⟩, ⟨ya, ys.length, yc, ys⟩] : List (LR Int)).length) (([⟨na, ns.length, nc, ns⟩, ⟨ya, ys.length, yc, ys⟩] : List (LR Int)).length)) 22 ([⟨na, ns.length, nc, ns⟩, ⟨ya, ys.length, yc, ys⟩] : List (LR Int))], [rowT tyLR (.slice none (([] : List (LR Int)).length) 0) 22 ([] : List (LR Int))], [rowT tyTk (.slice none (([] : List (Int × Int)).length) 0) 119 ([] : List (Int × Int))], [rowT tyLR (.slice none (([] : List (LR Bool)).length) 0) 23 ([] : List (LR Bool))], [manyF (inLR (tyI .i64) 3).row ([] : List (LR Int))], [manyF (inLR tyB 4).row ([] : List (LR Bool))], [manyF innZ.row (([] : List (LR Int)) ++ [⟨na, ns.length, nc, ns⟩])]] := (UpG.absorb (f := innZ.row) (⟨na, ns.length, nc, ns⟩ : LR Int) H40 13 6 rfl rfl rfl).re rfl
      have H42 : UpG w [] w19 [[fromC fqa Fq.length fqc Fq], [blk w.heap.size #[.slice dca d.cls.length dcc, .int .i64 d.width, .int .i64 d.start, .slice dna d.next.length dnc, .slice dba d.acc.length dbc] 25], [rowT (tyI .i64) (.slice (some ⟨w1.heap.size, 0, none⟩) ((List.replicate d.acc.length (0 : Int)).length) d.acc.length) 3 (List.replicate d.acc.length (0 : Int))], [blk w2.heap.size #[.slice fqa Fq.length fqc, .slice (some ⟨w1.heap.size, 0, none⟩) ((List.replicate d.acc.length (0 : Int)).length) d.acc.length, .slice none (([] : List (LR Int)).length) 0, .slice none (([] : List (Int × Int)).length) 0, .slice none (([] : List (LR Bool)).length) 0] 117], [rowT (tyI .i64) (.slice a2_1 ((usedI d).length) c2_1) 3 (usedI d)], [], [], [rowT tyLR (.slice (some ⟨w14.heap.size, 0, none⟩) (([⟨na, ns.length, nc, ns⟩, ⟨ya, ys.length, yc, ys⟩] : List (LR Int)).length) (([⟨na, ns.length, nc, ns⟩, ⟨ya, ys.length, yc, ys⟩] : List (LR Int)).length)) 22 ([⟨na, ns.length, nc, ns⟩, ⟨ya, ys.length, yc, ys⟩] : List (LR Int))], [rowT tyLR (.slice none (([] : List (LR Int)).length) 0) 22 ([] : List (LR Int))], [rowT tyTk (.slice none (([] : List (Int × Int)).length) 0) 119 ([] : List (Int × Int))], [rowT tyLR (.slice none (([] : List (LR Bool)).length) 0) 23 ([] : List (LR Bool))], [manyF (inLR (tyI .i64) 3).row ([] : List (LR Int))], [manyF (inLR tyB 4).row ([] : List (LR Bool))], [manyF innZ.row ((([] : List (LR Int)) ++ [⟨na, ns.length, nc, ns⟩]) ++ [⟨ya, ys.length, yc, ys⟩])]] := (UpG.absorb (f := innZ.row) (⟨ya, ys.length, yc, ys⟩ : LR Int) H41 13 5 rfl rfl rfl).re rfl
      have H43 : UpG w [] w19 [[fromC fqa Fq.length fqc Fq], [blk w.heap.size #[.slice dca d.cls.length dcc, .int .i64 d.width, .int .i64 d.start, .slice dna d.next.length dnc, .slice dba d.acc.length dbc] 25], [rowT (tyI .i64) (.slice (some ⟨w1.heap.size, 0, none⟩) ((List.replicate d.acc.length (0 : Int)).length) d.acc.length) 3 (List.replicate d.acc.length (0 : Int))], [blk w2.heap.size #[.slice fqa Fq.length fqc, .slice (some ⟨w1.heap.size, 0, none⟩) ((List.replicate d.acc.length (0 : Int)).length) d.acc.length, .slice none (([] : List (LR Int)).length) 0, .slice none (([] : List (Int × Int)).length) 0, .slice none (([] : List (LR Bool)).length) 0] 117], [rowT (tyI .i64) (.slice a2_1 ((usedI d).length) c2_1) 3 (usedI d)], [], [], [rowT tyLR (.slice (some ⟨w14.heap.size, 0, none⟩) (([⟨na, ns.length, nc, ns⟩, ⟨ya, ys.length, yc, ys⟩] : List (LR Int)).length) (([⟨na, ns.length, nc, ns⟩, ⟨ya, ys.length, yc, ys⟩] : List (LR Int)).length)) 22 ([⟨na, ns.length, nc, ns⟩, ⟨ya, ys.length, yc, ys⟩] : List (LR Int))], [rowT tyLR (.slice none (([] : List (LR Int)).length) 0) 22 ([] : List (LR Int))], [rowT tyTk (.slice none (([] : List (Int × Int)).length) 0) 119 ([] : List (Int × Int))], [rowT tyLR (.slice none (([] : List (LR Bool)).length) 0) 23 ([] : List (LR Bool))], [manyF (inLR (tyI .i64) 3).row ([] : List (LR Int))], [manyF (inLR tyB 4).row ([] : List (LR Bool))], [manyF innZ.row ([⟨na, ns.length, nc, ns⟩, ⟨ya, ys.length, yc, ys⟩] : List (LR Int))]] := H42.re rfl
      refine W.pick [91, 90, 89, 4, 2] (Γ' := [(91, .int .i64 0), (90, .int .i64 ((([⟨na, ns.length, nc, ns⟩, ⟨ya, ys.length, yc, ys⟩] : List (LR Int)).length : Nat) : Int)), (89, .slice (some ⟨w14.heap.size, 0, none⟩) (([⟨na, ns.length, nc, ns⟩, ⟨ya, ys.length, yc, ys⟩] : List (LR Int)).length) (([⟨na, ns.length, nc, ns⟩, ⟨ya, ys.length, yc, ys⟩] : List (LR Int)).length)), (4, .pointer (some ⟨w2.heap.size, 0, none⟩)), (2, .pointer none)]) rfl ?_
      refine W.loop (fun m Γ' w' => ∃ kz : Nat, ∃ zq : List (LR Int), ∃ bq : List Int, ∃ mqa : Option Addr, ∃ mq : List (LR Int), ∃ mqc : Nat, ∃ mqn : Nat, ∃ wqa : Option Addr, ∃ wq : List (LR Bool), ∃ wqc : Nat, ∃ wqn : Nat, Γ' = [(91, .int .i64 ((kz : Nat) : Int)), (90, .int .i64 ((([⟨na, ns.length, nc, ns⟩, ⟨ya, ys.length, yc, ys⟩] : List (LR Int)).length : Nat) : Int)), (89, .slice (some ⟨w14.heap.size, 0, none⟩) (([⟨na, ns.length, nc, ns⟩, ⟨ya, ys.length, yc, ys⟩] : List (LR Int)).length) (([⟨na, ns.length, nc, ns⟩, ⟨ya, ys.length, yc, ys⟩] : List (LR Int)).length)), (4, .pointer (some ⟨w2.heap.size, 0, none⟩)), (2, .pointer none)] ∧ UpG w [] w' [[fromC fqa Fq.length fqc Fq], [blk w.heap.size #[.slice dca d.cls.length dcc, .int .i64 d.width, .int .i64 d.start, .slice dna d.next.length dnc, .slice dba d.acc.length dbc] 25], [rowT (tyI .i64) (.slice (some ⟨w1.heap.size, 0, none⟩) ((List.replicate d.acc.length (0 : Int)).length) d.acc.length) 3 bq], [blk w2.heap.size #[.slice fqa Fq.length fqc, .slice (some ⟨w1.heap.size, 0, none⟩) ((List.replicate d.acc.length (0 : Int)).length) d.acc.length, .slice mqa mqn mqc, .slice none (([] : List (Int × Int)).length) 0, .slice wqa wqn wqc] 117], [rowT (tyI .i64) (.slice a2_1 ((usedI d).length) c2_1) 3 (usedI d)], [], [], [rowT tyLR (.slice (some ⟨w14.heap.size, 0, none⟩) (([⟨na, ns.length, nc, ns⟩, ⟨ya, ys.length, yc, ys⟩] : List (LR Int)).length) (([⟨na, ns.length, nc, ns⟩, ⟨ya, ys.length, yc, ys⟩] : List (LR Int)).length)) 22 ([⟨na, ns.length, nc, ns⟩, ⟨ya, ys.length, yc, ys⟩] : List (LR Int))], [rowT tyLR (.slice mqa mqn mqc) 22 mq], [rowT tyTk (.slice none (([] : List (Int × Int)).length) 0) 119 ([] : List (Int × Int))], [rowT tyLR (.slice wqa wqn wqc) 23 wq], [manyF (inLR (tyI .i64) 3).row mq], [manyF (inLR tyB 4).row wq], [manyF innZ.row zq]] ∧ (kz ≤ 2) ∧ (zq.length = 2 ∧ ∀ j, kz ≤ j → j < 2 → zq.getD j lr0 = ([⟨na, ns.length, nc, ns⟩, ⟨ya, ys.length, yc, ys⟩] : List (LR Int)).getD j lr0) ∧ (PreI d (usedI d).length bq mq wq kz) ∧ m = 2 - kz) (2 - 0) ⟨0, ([⟨na, ns.length, nc, ns⟩, ⟨ya, ys.length, yc, ys⟩] : List (LR Int)), List.replicate d.acc.length (0 : Int), none, ([] : List (LR Int)), 0, ([] : List (LR Int)).length, none, ([] : List (LR Bool)), 0, ([] : List (LR Bool)).length, rfl, H43, (by omega), (by exact ⟨rfl, fun j _ _ => rfl⟩), (by exact PreI.start rfl), rfl⟩ ?_
      rintro m4 Γ4 w20 ⟨kz, zq, bq, mqa, mq, mqc, mqn, wqa, wq, wqc, wqn, rfl, H44, hkz, hzq, hD, rfl⟩
      refine W.seq ?_
      refine W.region ?_
      refine WL.op rfl (d_cmp (decide (((kz : Nat) : Int) < ((([⟨na, ns.length, nc, ns⟩, ⟨ya, ys.length, yc, ys⟩] : List (LR Int)).length : Nat) : Int))) rfl rfl rfl ?_)
      refine WL.done (X.then_code ?_)
      refine W.seq ?_
      refine W.ite (p := ((kz : Nat) : Int) < ((([⟨na, ns.length, nc, ns⟩, ⟨ya, ys.length, yc, ys⟩] : List (LR Int)).length : Nat) : Int)) rfl (fun c51 => ?_) (fun c51 => ?_)
      · skip
        refine W.skip (X.then_code ?_)
        refine W.seq ?_
        refine W.block ?_
        refine W.seq ?_
        refine W.region ?_
        refine WL.op rfl (t_addr1 kz (T := tyLR) rfl Try.underlying77 sz22 rfl rfl (H44.rdT 7 rfl) rfl (by omega) ?_)
        refine WL.op rfl (t_load1 kz lr0 (T := tyLR) rfl Try.underlying22 rfl rfl (H44.rdT 7 rfl) (by omega) rfl ?_)
        refine WL.op rfl (d_assign rfl ?_)
        refine WL.done (X.then_code ?_)
        refine W.seq ?_
        have hZ2 : ([⟨na, ns.length, nc, ns⟩, ⟨ya, ys.length, yc, ys⟩] : List (LR Int)).length = 2 := rfl
        rw [show ([⟨na, ns.length, nc, ns⟩, ⟨ya, ys.length, yc, ys⟩] : List (LR Int)).getD kz lr0 = zq.getD kz lr0 from (hzq.2 kz (Nat.le_refl _) (by omega)).symm]
        have hzn := RdT.len (show RdT (tyI .i64) w20 (.slice ((zq.getD kz lr0).a) ((zq.getD kz lr0).n) ((zq.getD kz lr0).c)) ((zq.getD kz lr0).xs) from (Inn.own (H44.hpOf 13 rfl)).get lr0 kz (by omega))
        have hk2 : kz < 2 := by omega
        have hlk : (zq.getD kz lr0).xs = splL d (decide (kz = 1)) d.acc.length := by rw [hzq.2 kz (Nat.le_refl _) hk2]; rcases (by omega : kz = 0 ∨ kz = 1) with rfl | rfl; (show ns = _; rw [hns, show i_1 = d.acc.length by omega]; rfl); (show ys = _; rw [hys, show i_1 = d.acc.length by omega]; rfl)
        have hzl := hzq.1
        have hDl := hD.wl
        have hDm := hD.mlen
        refine W.region ?_
        refine WL.op rfl (d_move rfl ?_)
        refine WL.op rfl (d_lenS Try.underlying22 rfl ?_)
        refine WL.op rfl (d_cmp (decide ((((zq.getD kz lr0).n : Nat) : Int) > (0 : Int))) rfl rfl rfl ?_)
        refine WL.done (X.then_code ?_)
        refine W.ite (p := (((zq.getD kz lr0).n : Nat) : Int) > (0 : Int)) rfl (fun c52 => ?_) (fun c52 => ?_)
        · skip
          have H45 : UpG w [] w20 [[fromC fqa Fq.length fqc Fq], [blk w.heap.size #[.slice dca d.cls.length dcc, .int .i64 d.width, .int .i64 d.start, .slice dna d.next.length dnc, .slice dba d.acc.length dbc] 25], [rowT (tyI .i64) (.slice (some ⟨w1.heap.size, 0, none⟩) ((List.replicate d.acc.length (0 : Int)).length) d.acc.length) 3 bq], [blk w2.heap.size #[.slice fqa Fq.length fqc, .slice (some ⟨w1.heap.size, 0, none⟩) ((List.replicate d.acc.length (0 : Int)).length) d.acc.length, .slice mqa mqn mqc, .slice none (([] : List (Int × Int)).length) 0, .slice wqa wqn wqc] 117], [rowT (tyI .i64) (.slice a2_1 ((usedI d).length) c2_1) 3 (usedI d)], [], [], [rowT tyLR (.slice (some ⟨w14.heap.size, 0, none⟩) (([⟨na, ns.length, nc, ns⟩, ⟨ya, ys.length, yc, ys⟩] : List (LR Int)).length) (([⟨na, ns.length, nc, ns⟩, ⟨ya, ys.length, yc, ys⟩] : List (LR Int)).length)) 22 ([⟨na, ns.length, nc, ns⟩, ⟨ya, ys.length, yc, ys⟩] : List (LR Int))], [rowT tyLR (.slice mqa mqn mqc) 22 mq], [rowT tyTk (.slice none (([] : List (Int × Int)).length) 0) 119 ([] : List (Int × Int))], [rowT tyLR (.slice wqa wqn wqc) 23 wq], [manyF (inLR (tyI .i64) 3).row mq], [manyF (inLR tyB 4).row wq], [manyF innZ.row (zq.eraseIdx kz)], [rowT (tyI .i64) (.slice ((zq.getD kz lr0).a) ((zq.getD kz lr0).n) ((zq.getD kz lr0).c)) 3 ((zq.getD kz lr0).xs)]] := H44.takeOut (f := innZ.row) lr0 13 kz rfl (by omega)
          refine W.region ?_
          refine WL.op rfl (d_move rfl ?_)
          refine WL.op rfl (d_move rfl ?_)
          have H46 : UpG w [] w20 [[blk w2.heap.size #[.slice fqa Fq.length fqc, .slice (some ⟨w1.heap.size, 0, none⟩) ((List.replicate d.acc.length (0 : Int)).length) d.acc.length, .slice mqa mqn mqc, .slice none (([] : List (Int × Int)).length) 0, .slice wqa wqn wqc] 117, rowT (tyI .i64) (.slice (some ⟨w1.heap.size, 0, none⟩) ((List.replicate d.acc.length (0 : Int)).length) d.acc.length) 3 bq, rowT tyLR (.slice mqa mqn mqc) 22 mq, manyF (inLR (tyI .i64) 3).row mq, rowT tyLR (.slice wqa wqn wqc) 23 wq, manyF (inLR tyB 4).row wq], [fromC fqa Fq.length fqc Fq], [blk w.heap.size #[.slice dca d.cls.length dcc, .int .i64 d.width, .int .i64 d.start, .slice dna d.next.length dnc, .slice dba d.acc.length dbc] 25], [rowT (tyI .i64) (.slice a2_1 ((usedI d).length) c2_1) 3 (usedI d)], [], [], [rowT tyLR (.slice (some ⟨w14.heap.size, 0, none⟩) (([⟨na, ns.length, nc, ns⟩, ⟨ya, ys.length, yc, ys⟩] : List (LR Int)).length) (([⟨na, ns.length, nc, ns⟩, ⟨ya, ys.length, yc, ys⟩] : List (LR Int)).length)) 22 ([⟨na, ns.length, nc, ns⟩, ⟨ya, ys.length, yc, ys⟩] : List (LR Int))], [rowT tyTk (.slice none (([] : List (Int × Int)).length) 0) 119 ([] : List (Int × Int))], [manyF innZ.row (zq.eraseIdx kz)], [rowT (tyI .i64) (.slice ((zq.getD kz lr0).a) ((zq.getD kz lr0).n) ((zq.getD kz lr0).c)) 3 ((zq.getD kz lr0).xs)]] := UpG.of (Upd.sel H45 (l := [3, 2, 6, 9, 8, 10, 0, 1, 4, 5, 7, 11, 12]) rfl rfl) rfl
          refine WL.op rfl (d_call ok97 rfl (Ret.calls (hadd_any w2.heap.size ((zq.getD kz lr0).a) ((zq.getD kz lr0).xs) ((zq.getD kz lr0).c) ((zq.getD kz lr0).n) fqa fqc Fq.length (some ⟨w1.heap.size, 0, none⟩) bq d.acc.length ((List.replicate d.acc.length (0 : Int)).length) mqa mq mqc mqn (.slice none (([] : List (Int × Int)).length) 0) wqa wq wqc wqn w20 (H46.hp2 0 9 rfl rfl rfl)  (fun x hx => by rw [hlk] at hx; obtain ⟨i, hi, e, _⟩ := splL_mem.1 hx; have h9 := hD.bl; omega) (by omega) (by omega) (by omega)) fun _ w21 p2 => ?_))
          obtain ⟨bl2_1, ma2_1, mc2_1, wa2_1, wt2_1, wc2_1, rfl, u17, q1⟩ := p2
          have H47 : UpG w [] w21 [[blk w2.heap.size #[.slice fqa Fq.length fqc, .slice (some ⟨w1.heap.size, 0, none⟩) ((List.replicate d.acc.length (0 : Int)).length) d.acc.length, .slice ma2_1 ((mq ++ ([⟨((zq.getD kz lr0).a), ((zq.getD kz lr0).n), ((zq.getD kz lr0).c), ((zq.getD kz lr0).xs)⟩] : List (LR Int))).length) mc2_1, (.slice none (([] : List (Int × Int)).length) 0), .slice wa2_1 wt2_1.length wc2_1] 117, rowT (tyI .i64) (.slice (some ⟨w1.heap.size, 0, none⟩) ((List.replicate d.acc.length (0 : Int)).length) d.acc.length) 3 bl2_1, rowT tyLR (.slice ma2_1 ((mq ++ ([⟨((zq.getD kz lr0).a), ((zq.getD kz lr0).n), ((zq.getD kz lr0).c), ((zq.getD kz lr0).xs)⟩] : List (LR Int))).length) mc2_1) 22 (mq ++ ([⟨((zq.getD kz lr0).a), ((zq.getD kz lr0).n), ((zq.getD kz lr0).c), ((zq.getD kz lr0).xs)⟩] : List (LR Int))), manyF (inLR (tyI .i64) 3).row (mq ++ ([⟨((zq.getD kz lr0).a), ((zq.getD kz lr0).n), ((zq.getD kz lr0).c), ((zq.getD kz lr0).xs)⟩] : List (LR Int))), rowT tyLR (.slice wa2_1 wt2_1.length wc2_1) 23 wt2_1, manyF (inLR tyB 4).row wt2_1], [fromC fqa Fq.length fqc Fq], [blk w.heap.size #[.slice dca d.cls.length dcc, .int .i64 d.width, .int .i64 d.start, .slice dna d.next.length dnc, .slice dba d.acc.length dbc] 25], [rowT (tyI .i64) (.slice a2_1 ((usedI d).length) c2_1) 3 (usedI d)], [], [], [rowT tyLR (.slice (some ⟨w14.heap.size, 0, none⟩) (([⟨na, ns.length, nc, ns⟩, ⟨ya, ys.length, yc, ys⟩] : List (LR Int)).length) (([⟨na, ns.length, nc, ns⟩, ⟨ya, ys.length, yc, ys⟩] : List (LR Int)).length)) 22 ([⟨na, ns.length, nc, ns⟩, ⟨ya, ys.length, yc, ys⟩] : List (LR Int))], [rowT tyTk (.slice none (([] : List (Int × Int)).length) 0) 119 ([] : List (Int × Int))], [manyF innZ.row (zq.eraseIdx kz)], []] := (H46.on2 (A' := [blk w2.heap.size #[.slice fqa Fq.length fqc, .slice (some ⟨w1.heap.size, 0, none⟩) ((List.replicate d.acc.length (0 : Int)).length) d.acc.length, .slice ma2_1 ((mq ++ ([⟨((zq.getD kz lr0).a), ((zq.getD kz lr0).n), ((zq.getD kz lr0).c), ((zq.getD kz lr0).xs)⟩] : List (LR Int))).length) mc2_1, (.slice none (([] : List (Int × Int)).length) 0), .slice wa2_1 wt2_1.length wc2_1] 117, rowT (tyI .i64) (.slice (some ⟨w1.heap.size, 0, none⟩) ((List.replicate d.acc.length (0 : Int)).length) d.acc.length) 3 bl2_1, rowT tyLR (.slice ma2_1 ((mq ++ ([⟨((zq.getD kz lr0).a), ((zq.getD kz lr0).n), ((zq.getD kz lr0).c), ((zq.getD kz lr0).xs)⟩] : List (LR Int))).length) mc2_1) 22 (mq ++ ([⟨((zq.getD kz lr0).a), ((zq.getD kz lr0).n), ((zq.getD kz lr0).c), ((zq.getD kz lr0).xs)⟩] : List (LR Int))), manyF (inLR (tyI .i64) 3).row (mq ++ ([⟨((zq.getD kz lr0).a), ((zq.getD kz lr0).n), ((zq.getD kz lr0).c), ((zq.getD kz lr0).xs)⟩] : List (LR Int))), rowT tyLR (.slice wa2_1 wt2_1.length wc2_1) 23 wt2_1, manyF (inLR tyB 4).row wt2_1]) (B' := []) (C := []) 0 9 rfl rfl rfl u17).re rfl
          refine WL.done (X.block_normal (X.then_code ?_))
          refine W.region ?_
          refine WL.op rfl (d_add rfl rfl (by omega) (by omega) ?_)
          refine WL.op rfl (d_move rfl ?_)
          refine WL.done ?_
          have H48 : UpG w [] w21 [[blk w2.heap.size #[.slice fqa Fq.length fqc, .slice (some ⟨w1.heap.size, 0, none⟩) ((List.replicate d.acc.length (0 : Int)).length) d.acc.length, .slice ma2_1 ((mq ++ ([⟨((zq.getD kz lr0).a), ((zq.getD kz lr0).n), ((zq.getD kz lr0).c), ((zq.getD kz lr0).xs)⟩] : List (LR Int))).length) mc2_1, (.slice none (([] : List (Int × Int)).length) 0), .slice wa2_1 wt2_1.length wc2_1] 117, rowT (tyI .i64) (.slice (some ⟨w1.heap.size, 0, none⟩) ((List.replicate d.acc.length (0 : Int)).length) d.acc.length) 3 bl2_1, rowT tyLR (.slice ma2_1 ((mq ++ ([⟨((zq.getD kz lr0).a), ((zq.getD kz lr0).n), ((zq.getD kz lr0).c), ((zq.getD kz lr0).xs)⟩] : List (LR Int))).length) mc2_1) 22 (mq ++ ([⟨((zq.getD kz lr0).a), ((zq.getD kz lr0).n), ((zq.getD kz lr0).c), ((zq.getD kz lr0).xs)⟩] : List (LR Int))), manyF (inLR (tyI .i64) 3).row (mq ++ ([⟨((zq.getD kz lr0).a), ((zq.getD kz lr0).n), ((zq.getD kz lr0).c), ((zq.getD kz lr0).xs)⟩] : List (LR Int))), rowT tyLR (.slice wa2_1 wt2_1.length wc2_1) 23 wt2_1, manyF (inLR tyB 4).row wt2_1], [fromC fqa Fq.length fqc Fq], [blk w.heap.size #[.slice dca d.cls.length dcc, .int .i64 d.width, .int .i64 d.start, .slice dna d.next.length dnc, .slice dba d.acc.length dbc] 25], [rowT (tyI .i64) (.slice a2_1 ((usedI d).length) c2_1) 3 (usedI d)], [], [], [rowT tyLR (.slice (some ⟨w14.heap.size, 0, none⟩) (([⟨na, ns.length, nc, ns⟩, ⟨ya, ys.length, yc, ys⟩] : List (LR Int)).length) (([⟨na, ns.length, nc, ns⟩, ⟨ya, ys.length, yc, ys⟩] : List (LR Int)).length)) 22 ([⟨na, ns.length, nc, ns⟩, ⟨ya, ys.length, yc, ys⟩] : List (LR Int))], [rowT tyTk (.slice none (([] : List (Int × Int)).length) 0) 119 ([] : List (Int × Int))], [manyF innZ.row (zq.eraseIdx kz)], [], [rowT (tyI .i64) (.slice none (([] : List Int).length) 0) 3 ([] : List Int)]] := H47.new' (Upd.nilRowT w21 (tyI .i64) 3)
          have H49 : UpG w [] w21 [[blk w2.heap.size #[.slice fqa Fq.length fqc, .slice (some ⟨w1.heap.size, 0, none⟩) ((List.replicate d.acc.length (0 : Int)).length) d.acc.length, .slice ma2_1 ((mq ++ ([⟨((zq.getD kz lr0).a), ((zq.getD kz lr0).n), ((zq.getD kz lr0).c), ((zq.getD kz lr0).xs)⟩] : List (LR Int))).length) mc2_1, (.slice none (([] : List (Int × Int)).length) 0), .slice wa2_1 wt2_1.length wc2_1] 117, rowT (tyI .i64) (.slice (some ⟨w1.heap.size, 0, none⟩) ((List.replicate d.acc.length (0 : Int)).length) d.acc.length) 3 bl2_1, rowT tyLR (.slice ma2_1 ((mq ++ ([⟨((zq.getD kz lr0).a), ((zq.getD kz lr0).n), ((zq.getD kz lr0).c), ((zq.getD kz lr0).xs)⟩] : List (LR Int))).length) mc2_1) 22 (mq ++ ([⟨((zq.getD kz lr0).a), ((zq.getD kz lr0).n), ((zq.getD kz lr0).c), ((zq.getD kz lr0).xs)⟩] : List (LR Int))), manyF (inLR (tyI .i64) 3).row (mq ++ ([⟨((zq.getD kz lr0).a), ((zq.getD kz lr0).n), ((zq.getD kz lr0).c), ((zq.getD kz lr0).xs)⟩] : List (LR Int))), rowT tyLR (.slice wa2_1 wt2_1.length wc2_1) 23 wt2_1, manyF (inLR tyB 4).row wt2_1], [fromC fqa Fq.length fqc Fq], [blk w.heap.size #[.slice dca d.cls.length dcc, .int .i64 d.width, .int .i64 d.start, .slice dna d.next.length dnc, .slice dba d.acc.length dbc] 25], [rowT (tyI .i64) (.slice a2_1 ((usedI d).length) c2_1) 3 (usedI d)], [], [], [rowT tyLR (.slice (some ⟨w14.heap.size, 0, none⟩) (([⟨na, ns.length, nc, ns⟩, ⟨ya, ys.length, yc, ys⟩] : List (LR Int)).length) (([⟨na, ns.length, nc, ns⟩, ⟨ya, ys.length, yc, ys⟩] : List (LR Int)).length)) 22 ([⟨na, ns.length, nc, ns⟩, ⟨ya, ys.length, yc, ys⟩] : List (LR Int))], [rowT tyTk (.slice none (([] : List (Int × Int)).length) 0) 119 ([] : List (Int × Int))], [manyF innZ.row (zq.set kz lr0)], [], []] := (H48.putBack (f := innZ.row) (lr0 : LR Int) 8 10 kz rfl rfl rfl (by omega)).re rfl
          have H50 : UpG w [] w21 [[blk w2.heap.size #[.slice fqa Fq.length fqc, .slice (some ⟨w1.heap.size, 0, none⟩) ((List.replicate d.acc.length (0 : Int)).length) d.acc.length, .slice ma2_1 ((mq ++ ([⟨((zq.getD kz lr0).a), ((zq.getD kz lr0).n), ((zq.getD kz lr0).c), ((zq.getD kz lr0).xs)⟩] : List (LR Int))).length) mc2_1, (.slice none (([] : List (Int × Int)).length) 0), .slice wa2_1 wt2_1.length wc2_1] 117], [rowT (tyI .i64) (.slice (some ⟨w1.heap.size, 0, none⟩) ((List.replicate d.acc.length (0 : Int)).length) d.acc.length) 3 bl2_1], [rowT tyLR (.slice ma2_1 ((mq ++ ([⟨((zq.getD kz lr0).a), ((zq.getD kz lr0).n), ((zq.getD kz lr0).c), ((zq.getD kz lr0).xs)⟩] : List (LR Int))).length) mc2_1) 22 (mq ++ ([⟨((zq.getD kz lr0).a), ((zq.getD kz lr0).n), ((zq.getD kz lr0).c), ((zq.getD kz lr0).xs)⟩] : List (LR Int)))], [manyF (inLR (tyI .i64) 3).row (mq ++ ([⟨((zq.getD kz lr0).a), ((zq.getD kz lr0).n), ((zq.getD kz lr0).c), ((zq.getD kz lr0).xs)⟩] : List (LR Int)))], [rowT tyLR (.slice wa2_1 wt2_1.length wc2_1) 23 wt2_1], [manyF (inLR tyB 4).row wt2_1], [fromC fqa Fq.length fqc Fq], [blk w.heap.size #[.slice dca d.cls.length dcc, .int .i64 d.width, .int .i64 d.start, .slice dna d.next.length dnc, .slice dba d.acc.length dbc] 25], [rowT (tyI .i64) (.slice a2_1 ((usedI d).length) c2_1) 3 (usedI d)], [], [], [rowT tyLR (.slice (some ⟨w14.heap.size, 0, none⟩) (([⟨na, ns.length, nc, ns⟩, ⟨ya, ys.length, yc, ys⟩] : List (LR Int)).length) (([⟨na, ns.length, nc, ns⟩, ⟨ya, ys.length, yc, ys⟩] : List (LR Int)).length)) 22 ([⟨na, ns.length, nc, ns⟩, ⟨ya, ys.length, yc, ys⟩] : List (LR Int))], [rowT tyTk (.slice none (([] : List (Int × Int)).length) 0) 119 ([] : List (Int × Int))], [manyF innZ.row (zq.set kz lr0)], [], []] := H49.re rfl
          exact X.next [91, 90, 89, 4, 2] (Γ' := [(91, .int .i64 (((kz + 1) : Nat) : Int)), (90, .int .i64 ((([⟨na, ns.length, nc, ns⟩, ⟨ya, ys.length, yc, ys⟩] : List (LR Int)).length : Nat) : Int)), (89, .slice (some ⟨w14.heap.size, 0, none⟩) (([⟨na, ns.length, nc, ns⟩, ⟨ya, ys.length, yc, ys⟩] : List (LR Int)).length) (([⟨na, ns.length, nc, ns⟩, ⟨ya, ys.length, yc, ys⟩] : List (LR Int)).length)), (4, .pointer (some ⟨w2.heap.size, 0, none⟩)), (2, .pointer none)]) rfl (2 - (kz + 1)) (by omega) ⟨kz + 1, zq.set kz lr0, bl2_1, ma2_1, mq ++ ([⟨((zq.getD kz lr0).a), ((zq.getD kz lr0).n), ((zq.getD kz lr0).c), ((zq.getD kz lr0).xs)⟩] : List (LR Int)), mc2_1, (mq ++ ([⟨((zq.getD kz lr0).a), ((zq.getD kz lr0).n), ((zq.getD kz lr0).c), ((zq.getD kz lr0).xs)⟩] : List (LR Int))).length, wa2_1, wt2_1, wc2_1, wt2_1.length, rfl, (UpG.of (G := [[fromC fqa Fq.length fqc Fq], [blk w.heap.size #[.slice dca d.cls.length dcc, .int .i64 d.width, .int .i64 d.start, .slice dna d.next.length dnc, .slice dba d.acc.length dbc] 25], [rowT (tyI .i64) (.slice (some ⟨w1.heap.size, 0, none⟩) ((List.replicate d.acc.length (0 : Int)).length) d.acc.length) 3 bl2_1], [blk w2.heap.size #[.slice fqa Fq.length fqc, .slice (some ⟨w1.heap.size, 0, none⟩) ((List.replicate d.acc.length (0 : Int)).length) d.acc.length, .slice ma2_1 ((mq ++ ([⟨((zq.getD kz lr0).a), ((zq.getD kz lr0).n), ((zq.getD kz lr0).c), ((zq.getD kz lr0).xs)⟩] : List (LR Int))).length) mc2_1, .slice none (([] : List (Int × Int)).length) 0, .slice wa2_1 wt2_1.length wc2_1] 117], [rowT (tyI .i64) (.slice a2_1 ((usedI d).length) c2_1) 3 (usedI d)], [], [], [rowT tyLR (.slice (some ⟨w14.heap.size, 0, none⟩) (([⟨na, ns.length, nc, ns⟩, ⟨ya, ys.length, yc, ys⟩] : List (LR Int)).length) (([⟨na, ns.length, nc, ns⟩, ⟨ya, ys.length, yc, ys⟩] : List (LR Int)).length)) 22 ([⟨na, ns.length, nc, ns⟩, ⟨ya, ys.length, yc, ys⟩] : List (LR Int))], [rowT tyLR (.slice ma2_1 ((mq ++ ([⟨((zq.getD kz lr0).a), ((zq.getD kz lr0).n), ((zq.getD kz lr0).c), ((zq.getD kz lr0).xs)⟩] : List (LR Int))).length) mc2_1) 22 (mq ++ ([⟨((zq.getD kz lr0).a), ((zq.getD kz lr0).n), ((zq.getD kz lr0).c), ((zq.getD kz lr0).xs)⟩] : List (LR Int)))], [rowT tyTk (.slice none (([] : List (Int × Int)).length) 0) 119 ([] : List (Int × Int))], [rowT tyLR (.slice wa2_1 wt2_1.length wc2_1) 23 wt2_1], [manyF (inLR (tyI .i64) 3).row (mq ++ ([⟨((zq.getD kz lr0).a), ((zq.getD kz lr0).n), ((zq.getD kz lr0).c), ((zq.getD kz lr0).xs)⟩] : List (LR Int)))], [manyF (inLR tyB 4).row wt2_1], [manyF innZ.row (zq.set kz lr0)]]) (Upd.sel H50 (M := [fromC fqa Fq.length fqc Fq, blk w.heap.size #[.slice dca d.cls.length dcc, .int .i64 d.width, .int .i64 d.start, .slice dna d.next.length dnc, .slice dba d.acc.length dbc] 25, rowT (tyI .i64) (.slice (some ⟨w1.heap.size, 0, none⟩) ((List.replicate d.acc.length (0 : Int)).length) d.acc.length) 3 bl2_1, blk w2.heap.size #[.slice fqa Fq.length fqc, .slice (some ⟨w1.heap.size, 0, none⟩) ((List.replicate d.acc.length (0 : Int)).length) d.acc.length, .slice ma2_1 ((mq ++ ([⟨((zq.getD kz lr0).a), ((zq.getD kz lr0).n), ((zq.getD kz lr0).c), ((zq.getD kz lr0).xs)⟩] : List (LR Int))).length) mc2_1, .slice none (([] : List (Int × Int)).length) 0, .slice wa2_1 wt2_1.length wc2_1] 117, rowT (tyI .i64) (.slice a2_1 ((usedI d).length) c2_1) 3 (usedI d), rowT tyLR (.slice (some ⟨w14.heap.size, 0, none⟩) (([⟨na, ns.length, nc, ns⟩, ⟨ya, ys.length, yc, ys⟩] : List (LR Int)).length) (([⟨na, ns.length, nc, ns⟩, ⟨ya, ys.length, yc, ys⟩] : List (LR Int)).length)) 22 ([⟨na, ns.length, nc, ns⟩, ⟨ya, ys.length, yc, ys⟩] : List (LR Int)), rowT tyLR (.slice ma2_1 ((mq ++ ([⟨((zq.getD kz lr0).a), ((zq.getD kz lr0).n), ((zq.getD kz lr0).c), ((zq.getD kz lr0).xs)⟩] : List (LR Int))).length) mc2_1) 22 (mq ++ ([⟨((zq.getD kz lr0).a), ((zq.getD kz lr0).n), ((zq.getD kz lr0).c), ((zq.getD kz lr0).xs)⟩] : List (LR Int))), rowT tyTk (.slice none (([] : List (Int × Int)).length) 0) 119 ([] : List (Int × Int)), rowT tyLR (.slice wa2_1 wt2_1.length wc2_1) 23 wt2_1, manyF (inLR (tyI .i64) 3).row (mq ++ ([⟨((zq.getD kz lr0).a), ((zq.getD kz lr0).n), ((zq.getD kz lr0).c), ((zq.getD kz lr0).xs)⟩] : List (LR Int))), manyF (inLR tyB 4).row wt2_1, manyF innZ.row (zq.set kz lr0)]) (l := [6, 7, 1, 0, 8, 9, 2, 10, 4, 3, 5, 11]) rfl rfl) rfl), (by omega), (by first | exact ⟨by rw [List.length_set]; exact hzq.1, fun j h1 h2 => by rw [getD_setLP (by rw [hzq.1]; omega), if_neg (by omega)]; exact hzq.2 j (by omega) h2⟩ | exact ⟨hzq.1, fun j h1 h2 => hzq.2 j (by omega) h2⟩), (by first | (rw [show Fq.length = (usedI d).length by omega] at q1; exact hD.add hk2 hlk (fun e => by have h7 := congrArg List.length e; simp only [List.length_nil] at h7; omega) q1) | exact hD.skip hk2 (by rw [← hlk]; exact List.length_eq_zero_iff.1 (by omega))), rfl⟩
        · skip
          refine W.skip (X.block_normal (X.then_code ?_))
          refine W.region ?_
          refine WL.op rfl (d_add rfl rfl (by omega) (by omega) ?_)
          refine WL.op rfl (d_move rfl ?_)
          refine WL.done ?_
          have H51 : UpG w [] w20 [[fromC fqa Fq.length fqc Fq], [blk w.heap.size #[.slice dca d.cls.length dcc, .int .i64 d.width, .int .i64 d.start, .slice dna d.next.length dnc, .slice dba d.acc.length dbc] 25], [rowT (tyI .i64) (.slice (some ⟨w1.heap.size, 0, none⟩) ((List.replicate d.acc.length (0 : Int)).length) d.acc.length) 3 bq], [blk w2.heap.size #[.slice fqa Fq.length fqc, .slice (some ⟨w1.heap.size, 0, none⟩) ((List.replicate d.acc.length (0 : Int)).length) d.acc.length, .slice mqa mqn mqc, .slice none (([] : List (Int × Int)).length) 0, .slice wqa wqn wqc] 117], [rowT (tyI .i64) (.slice a2_1 ((usedI d).length) c2_1) 3 (usedI d)], [], [], [rowT tyLR (.slice (some ⟨w14.heap.size, 0, none⟩) (([⟨na, ns.length, nc, ns⟩, ⟨ya, ys.length, yc, ys⟩] : List (LR Int)).length) (([⟨na, ns.length, nc, ns⟩, ⟨ya, ys.length, yc, ys⟩] : List (LR Int)).length)) 22 ([⟨na, ns.length, nc, ns⟩, ⟨ya, ys.length, yc, ys⟩] : List (LR Int))], [rowT tyLR (.slice mqa mqn mqc) 22 mq], [rowT tyTk (.slice none (([] : List (Int × Int)).length) 0) 119 ([] : List (Int × Int))], [rowT tyLR (.slice wqa wqn wqc) 23 wq], [manyF (inLR (tyI .i64) 3).row mq], [manyF (inLR tyB 4).row wq], [manyF innZ.row zq]] := H44.re rfl
          exact X.next [91, 90, 89, 4, 2] (Γ' := [(91, .int .i64 (((kz + 1) : Nat) : Int)), (90, .int .i64 ((([⟨na, ns.length, nc, ns⟩, ⟨ya, ys.length, yc, ys⟩] : List (LR Int)).length : Nat) : Int)), (89, .slice (some ⟨w14.heap.size, 0, none⟩) (([⟨na, ns.length, nc, ns⟩, ⟨ya, ys.length, yc, ys⟩] : List (LR Int)).length) (([⟨na, ns.length, nc, ns⟩, ⟨ya, ys.length, yc, ys⟩] : List (LR Int)).length)), (4, .pointer (some ⟨w2.heap.size, 0, none⟩)), (2, .pointer none)]) rfl (2 - (kz + 1)) (by omega) ⟨kz + 1, zq, bq, mqa, mq, mqc, mqn, wqa, wq, wqc, wqn, rfl, H51, (by omega), (by first | exact ⟨by rw [List.length_set]; exact hzq.1, fun j h1 h2 => by rw [getD_setLP (by rw [hzq.1]; omega), if_neg (by omega)]; exact hzq.2 j (by omega) h2⟩ | exact ⟨hzq.1, fun j h1 h2 => hzq.2 j (by omega) h2⟩), (by first | (rw [show Fq.length = (usedI d).length by omega] at q1; exact hD.add hk2 hlk (fun e => by have h7 := congrArg List.length e; simp only [List.length_nil] at h7; omega) q1) | exact hD.skip hk2 (by rw [← hlk]; exact List.length_eq_zero_iff.1 (by omega))), rfl⟩
      · skip
        refine W.exit (X.then_exit (X.then_exit (X.block_exit (X.then_code ?_))))
        refine W.seq ?_
        refine W.seq ?_
        have hZ2 : ([⟨na, ns.length, nc, ns⟩, ⟨ya, ys.length, yc, ys⟩] : List (LR Int)).length = 2 := rfl
        have hmqn := RdT.len (H44.rdT 8 rfl)
        have hD2 : PreI d (usedI d).length bq mq wq 2 := by have e9 : kz = 2 := (by omega); rw [← e9]; exact hD
        have hDl2 := hD2.wl
        have hFl := hFP.len
        refine W.region ?_
        refine WL.op rfl (d_move rfl ?_)
        refine WL.op rfl (d_nilCheck rfl ?_)
        refine WL.op rfl (d_fieldAddrB fld117_2 rfl rfl ?_)
        refine WL.op rfl (d_loadB Try.underlying77 rfl rfl (H44.blk 3 rfl) rfl ?_)
        refine WL.op rfl (d_lenS Try.underlying77 rfl ?_)
        refine WL.op rfl (d_cmp (decide (((mqn : Nat) : Int) = (2 : Int))) rfl rfl rfl ?_)
        refine WL.done (X.then_code ?_)
        refine W.ite (p := ((mqn : Nat) : Int) = (2 : Int)) rfl (fun c56 => ?_) (fun c56 => ?_)
        · skip
          refine W.seq ?_
          refine W.region ?_
          refine WL.op rfl (d_move rfl ?_)
          refine WL.op rfl (d_nilCheck rfl ?_)
          refine WL.op rfl (d_fieldAddrB fld117_0 rfl rfl ?_)
          refine WL.op rfl (d_loadB Try.underlying114 rfl rfl (H44.blk 3 rfl) rfl ?_)
          refine WL.op rfl (d_lenS Try.underlying114 rfl ?_)
          refine WL.op rfl (d_move rfl ?_)
          refine WL.done (X.then_code ?_)
          refine W.block ?_
          have H52 : UpG w [] w20 [[fromC fqa Fq.length fqc Fq], [blk w.heap.size #[.slice dca d.cls.length dcc, .int .i64 d.width, .int .i64 d.start, .slice dna d.next.length dnc, .slice dba d.acc.length dbc] 25], [rowT (tyI .i64) (.slice (some ⟨w1.heap.size, 0, none⟩) ((List.replicate d.acc.length (0 : Int)).length) d.acc.length) 3 bq], [blk w2.heap.size #[.slice fqa Fq.length fqc, .slice (some ⟨w1.heap.size, 0, none⟩) ((List.replicate d.acc.length (0 : Int)).length) d.acc.length, .slice mqa mqn mqc, .slice none (([] : List (Int × Int)).length) 0, .slice wqa wqn wqc] 117], [rowT (tyI .i64) (.slice a2_1 ((usedI d).length) c2_1) 3 (usedI d)], [], [], [rowT tyLR (.slice (some ⟨w14.heap.size, 0, none⟩) (([⟨na, ns.length, nc, ns⟩, ⟨ya, ys.length, yc, ys⟩] : List (LR Int)).length) (([⟨na, ns.length, nc, ns⟩, ⟨ya, ys.length, yc, ys⟩] : List (LR Int)).length)) 22 ([⟨na, ns.length, nc, ns⟩, ⟨ya, ys.length, yc, ys⟩] : List (LR Int))], [rowT tyLR (.slice mqa mqn mqc) 22 mq], [rowT tyTk (.slice none (([] : List (Int × Int)).length) 0) 119 ([] : List (Int × Int))], [rowT tyLR (.slice wqa wqn wqc) 23 wq], [manyF (inLR (tyI .i64) 3).row mq], [manyF (inLR tyB 4).row wq], [manyF innZ.row zq]] := H44.re rfl
          refine W.pick [113, 112, 4, 2] (Γ' := [(113, .int .i64 0), (112, .int .i64 ((Fq.length : Nat) : Int)), (4, .pointer (some ⟨w2.heap.size, 0, none⟩)), (2, .pointer none)]) rfl ?_
          refine W.loop (fun m Γ' w' => ∃ c : Nat, ∃ tqa : Option Addr, ∃ tq : List (Int × Int), ∃ tqc : Nat, ∃ wz : List (LR Bool), Γ' = [(113, .int .i64 ((c : Nat) : Int)), (112, .int .i64 ((Fq.length : Nat) : Int)), (4, .pointer (some ⟨w2.heap.size, 0, none⟩)), (2, .pointer none)] ∧ UpG w [] w' [[fromC fqa Fq.length fqc Fq], [blk w.heap.size #[.slice dca d.cls.length dcc, .int .i64 d.width, .int .i64 d.start, .slice dna d.next.length dnc, .slice dba d.acc.length dbc] 25], [rowT (tyI .i64) (.slice (some ⟨w1.heap.size, 0, none⟩) ((List.replicate d.acc.length (0 : Int)).length) d.acc.length) 3 bq], [blk w2.heap.size #[.slice fqa Fq.length fqc, .slice (some ⟨w1.heap.size, 0, none⟩) ((List.replicate d.acc.length (0 : Int)).length) d.acc.length, .slice mqa mqn mqc, .slice tqa tq.length tqc, .slice wqa wqn wqc] 117], [rowT (tyI .i64) (.slice a2_1 ((usedI d).length) c2_1) 3 (usedI d)], [], [], [rowT tyLR (.slice (some ⟨w14.heap.size, 0, none⟩) (([⟨na, ns.length, nc, ns⟩, ⟨ya, ys.length, yc, ys⟩] : List (LR Int)).length) (([⟨na, ns.length, nc, ns⟩, ⟨ya, ys.length, yc, ys⟩] : List (LR Int)).length)) 22 ([⟨na, ns.length, nc, ns⟩, ⟨ya, ys.length, yc, ys⟩] : List (LR Int))], [rowT tyLR (.slice mqa mqn mqc) 22 mq], [rowT tyTk (.slice tqa tq.length tqc) 119 tq], [rowT tyLR (.slice wqa wqn wqc) 23 wz], [manyF (inLR (tyI .i64) 3).row mq], [manyF (inLR tyB 4).row wz], [manyF innZ.row zq]] ∧ (c ≤ Fq.length) ∧ (WpI (usedI d).length wz tq c) ∧ m = Fq.length - c) (Fq.length - 0) ⟨0, none, [], 0, wq, rfl, (H52.re rfl), (by first | assumption | omega | simp), (by exact WpI.start hD2 (by omega)), rfl⟩ ?_
          rintro m5 Γ5 w22 ⟨c, tqa, tq, tqc, wz, rfl, H53, hc, hW, rfl⟩
          refine W.seq ?_
          refine W.region ?_
          refine WL.op rfl (d_cmp (decide (((c : Nat) : Int) < ((Fq.length : Nat) : Int))) rfl rfl rfl ?_)
          refine WL.done (X.then_code ?_)
          refine W.seq ?_
          refine W.ite (p := ((c : Nat) : Int) < ((Fq.length : Nat) : Int)) rfl (fun c57 => ?_) (fun c57 => ?_)
          · skip
            refine W.skip (X.then_code ?_)
            refine W.seq ?_
            refine W.block ?_
            refine W.seq ?_
            refine W.region ?_
            refine WL.op rfl (d_move rfl ?_)
            refine WL.op rfl (d_assign rfl ?_)
            refine WL.done (X.then_code ?_)
            have hwz := hW.len
            have hwr0 := hW.row 0 (by omega)
            have hwr1 := hW.row 1 (by omega)
            have hwt := hW.tl
            refine W.region ?_
            refine WL.op rfl (d_move rfl ?_)
            refine WL.op rfl (d_move rfl ?_)
            have H54 : UpG w [] w22 [[blk w2.heap.size #[.slice fqa Fq.length fqc, .slice (some ⟨w1.heap.size, 0, none⟩) ((List.replicate d.acc.length (0 : Int)).length) d.acc.length, .slice mqa mqn mqc, .slice tqa tq.length tqc, .slice wqa wqn wqc] 117, rowT tyLR (.slice mqa mqn mqc) 22 mq, rowT tyTk (.slice tqa tq.length tqc) 119 tq, rowT tyLR (.slice wqa wqn wqc) 23 wz, manyF (inLR tyB 4).row wz], [fromC fqa Fq.length fqc Fq], [blk w.heap.size #[.slice dca d.cls.length dcc, .int .i64 d.width, .int .i64 d.start, .slice dna d.next.length dnc, .slice dba d.acc.length dbc] 25], [rowT (tyI .i64) (.slice (some ⟨w1.heap.size, 0, none⟩) ((List.replicate d.acc.length (0 : Int)).length) d.acc.length) 3 bq], [rowT (tyI .i64) (.slice a2_1 ((usedI d).length) c2_1) 3 (usedI d)], [], [], [rowT tyLR (.slice (some ⟨w14.heap.size, 0, none⟩) (([⟨na, ns.length, nc, ns⟩, ⟨ya, ys.length, yc, ys⟩] : List (LR Int)).length) (([⟨na, ns.length, nc, ns⟩, ⟨ya, ys.length, yc, ys⟩] : List (LR Int)).length)) 22 ([⟨na, ns.length, nc, ns⟩, ⟨ya, ys.length, yc, ys⟩] : List (LR Int))], [manyF (inLR (tyI .i64) 3).row mq], [manyF innZ.row zq]] := UpG.of (Upd.sel H53 (l := [3, 6, 7, 8, 10, 0, 1, 2, 4, 5, 9, 11]) rfl rfl) rfl
            refine WL.op rfl (d_call ok98 rfl (Ret.calls (hwait_any w2.heap.size ((c : Nat) : Int) 0 1 (.slice fqa Fq.length fqc) (.slice (some ⟨w1.heap.size, 0, none⟩) ((List.replicate d.acc.length (0 : Int)).length) d.acc.length) mqa mq mqc mqn tqa tq tqc wqa wz wqc wqn w22 (H54.hpOf 0 rfl)  (by omega) (by omega) (by show 0 ≤ ((c : Nat) : Int) ∧ ((c : Nat) : Int) < ((wz.getD 0 lr0).xs.length : Int) ∧ ((c : Nat) : Int) < ((wz.getD 1 lr0).xs.length : Int); omega) (by omega)) fun _ w23 p3 => ?_))
            obtain ⟨ta2_1, tc2_1, wt2_2, x_1, rfl, u18, q2, q3⟩ := p3
            have H55 : UpG w [] w23 [[blk w2.heap.size #[(.slice fqa Fq.length fqc), (.slice (some ⟨w1.heap.size, 0, none⟩) ((List.replicate d.acc.length (0 : Int)).length) d.acc.length), .slice mqa mqn mqc, .slice ta2_1 ((tq ++ [(x_1, ((c : Nat) : Int))]).length) tc2_1, .slice wqa wqn wqc] 117, rowT tyLR (.slice mqa mqn mqc) 22 mq, rowT tyTk (.slice ta2_1 ((tq ++ [(x_1, ((c : Nat) : Int))]).length) tc2_1) 119 (tq ++ [(x_1, ((c : Nat) : Int))]), rowT tyLR (.slice wqa wqn wqc) 23 wt2_2, manyF (inLR tyB 4).row wt2_2], [fromC fqa Fq.length fqc Fq], [blk w.heap.size #[.slice dca d.cls.length dcc, .int .i64 d.width, .int .i64 d.start, .slice dna d.next.length dnc, .slice dba d.acc.length dbc] 25], [rowT (tyI .i64) (.slice (some ⟨w1.heap.size, 0, none⟩) ((List.replicate d.acc.length (0 : Int)).length) d.acc.length) 3 bq], [rowT (tyI .i64) (.slice a2_1 ((usedI d).length) c2_1) 3 (usedI d)], [], [], [rowT tyLR (.slice (some ⟨w14.heap.size, 0, none⟩) (([⟨na, ns.length, nc, ns⟩, ⟨ya, ys.length, yc, ys⟩] : List (LR Int)).length) (([⟨na, ns.length, nc, ns⟩, ⟨ya, ys.length, yc, ys⟩] : List (LR Int)).length)) 22 ([⟨na, ns.length, nc, ns⟩, ⟨ya, ys.length, yc, ys⟩] : List (LR Int))], [manyF (inLR (tyI .i64) 3).row mq], [manyF innZ.row zq]] := H54.on 0 rfl u18
            refine WL.done (X.block_normal (X.then_code ?_))
            refine W.region ?_
            refine WL.op rfl (d_add rfl rfl (by omega) (by omega) ?_)
            refine WL.op rfl (d_move rfl ?_)
            refine WL.done ?_
            have H56 : UpG w [] w23 [[blk w2.heap.size #[(.slice fqa Fq.length fqc), (.slice (some ⟨w1.heap.size, 0, none⟩) ((List.replicate d.acc.length (0 : Int)).length) d.acc.length), .slice mqa mqn mqc, .slice ta2_1 ((tq ++ [(x_1, ((c : Nat) : Int))]).length) tc2_1, .slice wqa wqn wqc] 117], [rowT tyLR (.slice mqa mqn mqc) 22 mq], [rowT tyTk (.slice ta2_1 ((tq ++ [(x_1, ((c : Nat) : Int))]).length) tc2_1) 119 (tq ++ [(x_1, ((c : Nat) : Int))])], [rowT tyLR (.slice wqa wqn wqc) 23 wt2_2], [manyF (inLR tyB 4).row wt2_2], [fromC fqa Fq.length fqc Fq], [blk w.heap.size #[.slice dca d.cls.length dcc, .int .i64 d.width, .int .i64 d.start, .slice dna d.next.length dnc, .slice dba d.acc.length dbc] 25], [rowT (tyI .i64) (.slice (some ⟨w1.heap.size, 0, none⟩) ((List.replicate d.acc.length (0 : Int)).length) d.acc.length) 3 bq], [rowT (tyI .i64) (.slice a2_1 ((usedI d).length) c2_1) 3 (usedI d)], [], [], [rowT tyLR (.slice (some ⟨w14.heap.size, 0, none⟩) (([⟨na, ns.length, nc, ns⟩, ⟨ya, ys.length, yc, ys⟩] : List (LR Int)).length) (([⟨na, ns.length, nc, ns⟩, ⟨ya, ys.length, yc, ys⟩] : List (LR Int)).length)) 22 ([⟨na, ns.length, nc, ns⟩, ⟨ya, ys.length, yc, ys⟩] : List (LR Int))], [manyF (inLR (tyI .i64) 3).row mq], [manyF innZ.row zq]] := H55.re rfl
            exact X.next [113, 112, 4, 2] (Γ' := [(113, .int .i64 (((c + 1) : Nat) : Int)), (112, .int .i64 ((Fq.length : Nat) : Int)), (4, .pointer (some ⟨w2.heap.size, 0, none⟩)), (2, .pointer none)]) rfl (Fq.length - (c + 1)) (by omega) ⟨c + 1, ta2_1, tq ++ [(x_1, ((c : Nat) : Int))], tc2_1, wt2_2, rfl, (UpG.of (G := [[fromC fqa Fq.length fqc Fq], [blk w.heap.size #[.slice dca d.cls.length dcc, .int .i64 d.width, .int .i64 d.start, .slice dna d.next.length dnc, .slice dba d.acc.length dbc] 25], [rowT (tyI .i64) (.slice (some ⟨w1.heap.size, 0, none⟩) ((List.replicate d.acc.length (0 : Int)).length) d.acc.length) 3 bq], [blk w2.heap.size #[.slice fqa Fq.length fqc, .slice (some ⟨w1.heap.size, 0, none⟩) ((List.replicate d.acc.length (0 : Int)).length) d.acc.length, .slice mqa mqn mqc, .slice ta2_1 ((tq ++ [(x_1, ((c : Nat) : Int))]).length) tc2_1, .slice wqa wqn wqc] 117], [rowT (tyI .i64) (.slice a2_1 ((usedI d).length) c2_1) 3 (usedI d)], [], [], [rowT tyLR (.slice (some ⟨w14.heap.size, 0, none⟩) (([⟨na, ns.length, nc, ns⟩, ⟨ya, ys.length, yc, ys⟩] : List (LR Int)).length) (([⟨na, ns.length, nc, ns⟩, ⟨ya, ys.length, yc, ys⟩] : List (LR Int)).length)) 22 ([⟨na, ns.length, nc, ns⟩, ⟨ya, ys.length, yc, ys⟩] : List (LR Int))], [rowT tyLR (.slice mqa mqn mqc) 22 mq], [rowT tyTk (.slice ta2_1 ((tq ++ [(x_1, ((c : Nat) : Int))]).length) tc2_1) 119 (tq ++ [(x_1, ((c : Nat) : Int))])], [rowT tyLR (.slice wqa wqn wqc) 23 wt2_2], [manyF (inLR (tyI .i64) 3).row mq], [manyF (inLR tyB 4).row wt2_2], [manyF innZ.row zq]]) (Upd.sel H56 (M := [fromC fqa Fq.length fqc Fq, blk w.heap.size #[.slice dca d.cls.length dcc, .int .i64 d.width, .int .i64 d.start, .slice dna d.next.length dnc, .slice dba d.acc.length dbc] 25, rowT (tyI .i64) (.slice (some ⟨w1.heap.size, 0, none⟩) ((List.replicate d.acc.length (0 : Int)).length) d.acc.length) 3 bq, blk w2.heap.size #[.slice fqa Fq.length fqc, .slice (some ⟨w1.heap.size, 0, none⟩) ((List.replicate d.acc.length (0 : Int)).length) d.acc.length, .slice mqa mqn mqc, .slice ta2_1 ((tq ++ [(x_1, ((c : Nat) : Int))]).length) tc2_1, .slice wqa wqn wqc] 117, rowT (tyI .i64) (.slice a2_1 ((usedI d).length) c2_1) 3 (usedI d), rowT tyLR (.slice (some ⟨w14.heap.size, 0, none⟩) (([⟨na, ns.length, nc, ns⟩, ⟨ya, ys.length, yc, ys⟩] : List (LR Int)).length) (([⟨na, ns.length, nc, ns⟩, ⟨ya, ys.length, yc, ys⟩] : List (LR Int)).length)) 22 ([⟨na, ns.length, nc, ns⟩, ⟨ya, ys.length, yc, ys⟩] : List (LR Int)), rowT tyLR (.slice mqa mqn mqc) 22 mq, rowT tyTk (.slice ta2_1 ((tq ++ [(x_1, ((c : Nat) : Int))]).length) tc2_1) 119 (tq ++ [(x_1, ((c : Nat) : Int))]), rowT tyLR (.slice wqa wqn wqc) 23 wt2_2, manyF (inLR (tyI .i64) 3).row mq, manyF (inLR tyB 4).row wt2_2, manyF innZ.row zq]) (l := [5, 6, 7, 0, 8, 9, 1, 2, 3, 10, 4, 11]) rfl rfl) rfl), (by first | assumption | omega | simp), (by (simp only [Int.toNat_natCast] at q3; exact hW.step (by omega) q2 q3)), rfl⟩
          · skip
            refine W.exit (X.then_exit (X.then_exit (X.block_exit (X.then_code ?_))))
            refine W.seq ?_
            refine W.region ?_
            refine WL.op rfl (d_move rfl ?_)
            refine WL.op rfl (d_assign rfl ?_)
            refine WL.done (X.then_code ?_)
            refine W.ret (X.ret1 rfl rfl ?_)
            exact ⟨w2.heap.size, fqa, Fq, fqc, (some ⟨w1.heap.size, 0, none⟩), _, d.acc.length, (List.replicate d.acc.length (0 : Int)).length, mqa, mq, mqc, mqn, tqa, tq, tqc, wqa, _, wqc, wqn, rfl, (Upd.sel H53 (l := [3, 0, 2, 6, 9, 7, 8, 10]) rfl rfl), hFP, (hD2.fin2 hrt (by omega) hW (by omega)), (by have h9 := hW.tl; omega)⟩
        · skip
          refine W.skip (X.then_code ?_)
          refine W.seq ?_
          refine W.region ?_
          refine WL.op rfl (d_move rfl ?_)
          refine WL.op rfl (d_assign rfl ?_)
          refine WL.done (X.then_code ?_)
          refine W.ret (X.ret1 rfl rfl ?_)
          exact ⟨w2.heap.size, fqa, Fq, fqc, (some ⟨w1.heap.size, 0, none⟩), _, d.acc.length, (List.replicate d.acc.length (0 : Int)).length, mqa, mq, mqc, mqn, none, ([] : List (Int × Int)), 0, wqa, _, wqc, wqn, rfl, (Upd.sel H44 (l := [3, 0, 2, 6, 9, 7, 8, 10]) rfl rfl), hFP, (hD2.fin1 hrt (by omega)), (by simp)⟩

set_option maxRecDepth 20000 in
theorem blocks_any (d : DfaD) (dca : Option Addr) (dna : Option Addr) (dba : Option Addr) (dcc : Nat) (dnc : Nat) (dbc : Nat) (w : World) (rcd : RdT (tyI .i64) w (.slice dca d.cls.length dcc) d.cls) (rnd : RdT (tyI .i64) w (.slice dna d.next.length dnc) d.next) (rbd : RdT tyB w (.slice dba d.acc.length dbc) d.acc) :
    Calls Try.prog 51 #[.agg #[.slice dca d.cls.length dcc, .int .i64 d.width, .int .i64 d.start, .slice dna d.next.length dnc, .slice dba d.acc.length dbc]] w (Ret fun v w' => ∃ a2 : Option Addr, ∃ c2 : Nat, v = .tuple #[.slice a2 ((blocksL d).length) c2, .int .i64 (blocksN d)] ∧ Upd w [] w' [rowT (tyI .i64) (.slice a2 ((blocksL d).length) c2) 3 (blocksL d)] ∧ (rightB d = false → a2 = none)) := by
  have le_rcd := rcd.le
  have le_rnd := rnd.le
  have le_rbd := rbd.le
  refine calls_of_W (args := [.agg #[.slice dca d.cls.length dcc, .int .i64 d.width, .int .i64 d.start, .slice dna d.next.length dnc, .slice dba d.acc.length dbc]]) Try.func51 rfl rfl rfl ?_
  have H0 : UpG w [] w [] := UpG.nil w
  show W _ _ _ _ [(0, .agg #[.slice dca d.cls.length dcc, .int .i64 d.width, .int .i64 d.start, .slice dna d.next.length dnc, .slice dba d.acc.length dbc])] w
  refine W.seq ?_
  refine W.region ?_
  refine WL.op rfl (d_box rfl fun w1 u1 => ?_)
  have H1 : UpG w [] w1 [[blk w.heap.size #[.slice dca d.cls.length dcc, .int .i64 d.width, .int .i64 d.start, .slice dna d.next.length dnc, .slice dba d.acc.length dbc] 25]] := H0.new' u1
  refine WL.op rfl (d_assign rfl ?_)
  refine WL.op rfl (d_assign rfl ?_)
  refine WL.done (X.then_code ?_)
  refine W.seq ?_
  refine W.seq ?_
  refine W.region ?_
  refine WL.op rfl (d_loadAB [.slice dca d.cls.length dcc, .int .i64 d.width, .int .i64 d.start, .slice dna d.next.length dnc, .slice dba d.acc.length dbc] Try.underlying25 rfl sz25 rfl (H1.blk 0 rfl) rfl rfl ?_)
  refine WL.op rfl (d_call ok24 rfl (Ret.calls (right_any d dca dna dba dcc dnc dbc w1 (rcd.at H1) (rnd.at H1) (rbd.at H1) ) fun _ w2 p1 => ?_))
  obtain ⟨rfl, u2⟩ := p1
  have H2 : UpG w [] w2 [[blk w.heap.size #[.slice dca d.cls.length dcc, .int .i64 d.width, .int .i64 d.start, .slice dna d.next.length dnc, .slice dba d.acc.length dbc] 25]] := H1.call u2
  refine WL.op rfl (d_notB rfl ?_)
  refine WL.done (X.then_code ?_)
  refine W.iteB (b := !(rightB d)) rfl (fun c129 => ?_) (fun c129 => ?_)
  · skip
    refine W.seq ?_
    refine W.region ?_
    refine WL.op rfl (d_assign rfl ?_)
    refine WL.op rfl (d_assign rfl ?_)
    refine WL.done (X.then_code ?_)
    refine W.ret (X.then_ret (X.ret2 rfl rfl rfl ?_))
    have hno : rightB d = false := by simpa using c129
    have e1 : blocksL d = [] := by rw [blocksL, if_neg (by rw [hno]; decide)]
    have e2 : blocksN d = 0 := by rw [blocksN, if_neg (by rw [hno]; decide)]
    rw [e1, e2]
    exact ⟨none, 0, (by rfl), nilOwn H2, (fun _ => rfl)⟩
  · skip
    refine W.skip (X.then_code ?_)
    refine W.seq ?_
    have hrt : rightB d = true := by simpa using c129
    have hri := rightB_iff.1 hrt
    have hul := used_len d
    refine W.region ?_
    refine WL.op rfl (d_loadAB [.slice dca d.cls.length dcc, .int .i64 d.width, .int .i64 d.start, .slice dna d.next.length dnc, .slice dba d.acc.length dbc] Try.underlying25 rfl sz25 rfl (H2.blk 0 rfl) rfl rfl ?_)
    refine WL.op rfl (d_call ok83 rfl (Ret.calls (prepare_any d dca dna dba dcc dnc dbc w2 (rcd.at H2) (rnd.at H2) (rbd.at H2) hrt) fun _ w3 p2 => ?_))
    obtain ⟨g_1, fa_1, F_1, fc_1, ba_1, bl_1, bc_1, bn_1, ma_1, ms_1, mc_1, mn_1, ta_1, td_1, tc_1, wa_1, wt_1, wc_1, wn_1, rfl, u3, q1, q2, q3⟩ := p2
    have H3 : UpG w [] w3 [[blk w.heap.size #[.slice dca d.cls.length dcc, .int .i64 d.width, .int .i64 d.start, .slice dna d.next.length dnc, .slice dba d.acc.length dbc] 25], [blk g_1 #[.slice fa_1 F_1.length fc_1, .slice ba_1 bn_1 bc_1, .slice ma_1 mn_1 mc_1, .slice ta_1 td_1.length tc_1, .slice wa_1 wn_1 wc_1] 117, fromC fa_1 F_1.length fc_1 F_1, rowT (tyI .i64) (.slice ba_1 bn_1 bc_1) 3 bl_1, rowT tyLR (.slice ma_1 mn_1 mc_1) 22 ms_1, manyF (inLR (tyI .i64) 3).row ms_1, rowT tyTk (.slice ta_1 td_1.length tc_1) 119 td_1, rowT tyLR (.slice wa_1 wn_1 wc_1) 23 wt_1, manyF (inLR tyB 4).row wt_1]] := (H2.new' u3).re rfl
    refine WL.op rfl (d_assign rfl ?_)
    refine WL.done (X.then_code ?_)
    refine W.seq ?_
    refine W.block ?_
    have H4 : UpG w [] w3 [[blk w.heap.size #[.slice dca d.cls.length dcc, .int .i64 d.width, .int .i64 d.start, .slice dna d.next.length dnc, .slice dba d.acc.length dbc] 25], [blk g_1 #[.slice fa_1 F_1.length fc_1, .slice ba_1 bn_1 bc_1, .slice ma_1 mn_1 mc_1, .slice ta_1 td_1.length tc_1, .slice wa_1 wn_1 wc_1] 117], [fromC fa_1 F_1.length fc_1 F_1], [rowT (tyI .i64) (.slice ba_1 bn_1 bc_1) 3 bl_1], [rowT tyLR (.slice ma_1 mn_1 mc_1) 22 ms_1], [manyF (inLR (tyI .i64) 3).row ms_1], [rowT tyTk (.slice ta_1 td_1.length tc_1) 119 td_1], [rowT tyLR (.slice wa_1 wn_1 wc_1) 23 wt_1], [manyF (inLR tyB 4).row wt_1]] := H3.re rfl
    refine W.pick [4, 3, 2] (Γ' := [(4, .pointer (some ⟨g_1, 0, none⟩)), (3, .int .i64 0), (2, .slice none 0 0)]) rfl ?_
    refine W.loop (fun m Γ' w' => ∃ blq : List Int, ∃ mqa : Option Addr, ∃ mq : List (LR Int), ∃ mqc : Nat, ∃ mqn : Nat, ∃ tqa : Option Addr, ∃ tdq : List (Int × Int), ∃ tqc : Nat, ∃ wqa : Option Addr, ∃ wq : List (LR Bool), ∃ wqc : Nat, ∃ wqn : Nat, Γ' = [(4, .pointer (some ⟨g_1, 0, none⟩)), (3, .int .i64 0), (2, .slice none 0 0)] ∧ UpG w [] w' [[blk w.heap.size #[.slice dca d.cls.length dcc, .int .i64 d.width, .int .i64 d.start, .slice dna d.next.length dnc, .slice dba d.acc.length dbc] 25], [blk g_1 #[.slice fa_1 F_1.length fc_1, .slice ba_1 bn_1 bc_1, .slice mqa mqn mqc, .slice tqa tdq.length tqc, .slice wqa wqn wqc] 117], [fromC fa_1 F_1.length fc_1 F_1], [rowT (tyI .i64) (.slice ba_1 bn_1 bc_1) 3 blq], [rowT tyLR (.slice mqa mqn mqc) 22 mq], [manyF (inLR (tyI .i64) 3).row mq], [rowT tyTk (.slice tqa tdq.length tqc) 119 tdq], [rowT tyLR (.slice wqa wqn wqc) 23 wq], [manyF (inLR tyB 4).row wq]] ∧ (HopI d blq mq tdq wq (fun _ _ _ => False)) ∧ ((d.acc.length - mq.length) * (usedI d).length + tdq.length ≤ 4096 * 259 + 259) ∧ m = (d.acc.length - mq.length) * (usedI d).length + tdq.length) ((d.acc.length - ms_1.length) * (usedI d).length + td_1.length) ⟨bl_1, ma_1, ms_1, mc_1, mn_1, ta_1, td_1, tc_1, wa_1, wt_1, wc_1, wn_1, rfl, H4, (by exact q2), (by (have hz1 := Nat.mul_le_mul (show d.acc.length - ms_1.length ≤ 4096 by omega) (show (usedI d).length ≤ 259 by omega)); omega), rfl⟩ ?_
    rintro m1 Γ1 w4 ⟨blq, mqa, mq, mqc, mqn, tqa, tdq, tqc, wqa, wq, wqc, wqn, rfl, H5, hH, hB, rfl⟩
    refine W.seq ?_
    refine W.seq ?_
    refine W.region ?_
    refine WL.op rfl (d_move rfl ?_)
    refine WL.op rfl (d_nilCheck rfl ?_)
    refine WL.op rfl (d_fieldAddrB fld117_3 rfl rfl ?_)
    refine WL.op rfl (d_loadB Try.underlying115 rfl rfl (H5.blk 1 rfl) rfl ?_)
    refine WL.op rfl (d_lenS Try.underlying115 rfl ?_)
    refine WL.op rfl (d_cmp (decide (((tdq.length : Nat) : Int) > (0 : Int))) rfl rfl rfl ?_)
    refine WL.done (X.then_code ?_)
    refine W.ite (p := ((tdq.length : Nat) : Int) > (0 : Int)) rfl (fun c133 => ?_) (fun c133 => ?_)
    · skip
      refine W.skip (X.then_code ?_)
      refine W.block ?_
      refine W.seq ?_
      obtain ⟨htl, ht1, ht2⟩ := td_last hH.wait (by omega)
      refine W.regionD mixed (by kernel_rfl) fun hok1 w5 k1 => ?_
      have H6 : UpG w [] w5 [[blk w.heap.size #[.slice dca d.cls.length dcc, .int .i64 d.width, .int .i64 d.start, .slice dna d.next.length dnc, .slice dba d.acc.length dbc] 25], [blk g_1 #[.slice fa_1 F_1.length fc_1, .slice ba_1 bn_1 bc_1, .slice mqa mqn mqc, .slice tqa tdq.length tqc, .slice wqa wqn wqc] 117], [fromC fa_1 F_1.length fc_1 F_1], [rowT (tyI .i64) (.slice ba_1 bn_1 bc_1) 3 blq], [rowT tyLR (.slice mqa mqn mqc) 22 mq], [manyF (inLR (tyI .i64) 3).row mq], [rowT tyTk (.slice tqa tdq.length tqc) 119 tdq], [rowT tyLR (.slice wqa wqn wqc) 23 wq], [manyF (inLR tyB 4).row wq]] := H5.kept k1
      refine WD.take hok1 0 (.pointer (some ⟨g_1, 0, none⟩)) (fun _ => True) rfl rfl rfl rfl rfl trivial (.inl ⟨rfl, fun _ _ => d_move rfl ⟨rfl, rfl⟩⟩) ?_
      refine WD.take hok1 1 (.pointer (some ⟨g_1, 0, none⟩)) (fun _ => True) rfl rfl rfl rfl rfl trivial (.inl ⟨rfl, fun _ _ => d_nilCheck rfl ⟨rfl, rfl⟩⟩) ?_
      refine WD.take hok1 2 (.pointer (some ⟨g_1, 3, none⟩)) (fun _ => True) rfl rfl rfl rfl rfl trivial (.inl ⟨rfl, fun _ _ => d_fieldAddrB fld117_3 rfl rfl ⟨rfl, rfl⟩⟩) ?_
      refine WD.take hok1 3 (.slice tqa tdq.length tqc) (fun w' => w'.heap[g_1]? = some (.cells #[.slice fa_1 F_1.length fc_1, .slice ba_1 bn_1 bc_1, .slice mqa mqn mqc, .slice tqa tdq.length tqc, .slice wqa wqn wqc] 117 (0, 0))) rfl rfl rfl rfl rfl (H6.blk 1 rfl) (.inl ⟨rfl, fun _ hC => d_loadB Try.underlying115 rfl rfl hC rfl ⟨rfl, rfl⟩⟩) ?_
      refine WD.take hok1 4 (.pointer (some ⟨g_1, 0, none⟩)) (fun _ => True) rfl rfl rfl rfl rfl trivial (.inl ⟨rfl, fun _ _ => d_move rfl ⟨rfl, rfl⟩⟩) ?_
      refine WD.take hok1 5 (.pointer (some ⟨g_1, 0, none⟩)) (fun _ => True) rfl rfl rfl rfl rfl trivial (.inl ⟨rfl, fun _ _ => d_nilCheck rfl ⟨rfl, rfl⟩⟩) ?_
      refine WD.take hok1 6 (.pointer (some ⟨g_1, 3, none⟩)) (fun _ => True) rfl rfl rfl rfl rfl trivial (.inl ⟨rfl, fun _ _ => d_fieldAddrB fld117_3 rfl rfl ⟨rfl, rfl⟩⟩) ?_
      refine WD.take hok1 7 (.slice tqa tdq.length tqc) (fun w' => w'.heap[g_1]? = some (.cells #[.slice fa_1 F_1.length fc_1, .slice ba_1 bn_1 bc_1, .slice mqa mqn mqc, .slice tqa tdq.length tqc, .slice wqa wqn wqc] 117 (0, 0))) rfl rfl rfl rfl rfl (H6.blk 1 rfl) (.inl ⟨rfl, fun _ hC => d_loadB Try.underlying115 rfl rfl hC rfl ⟨rfl, rfl⟩⟩) ?_
      refine WD.take hok1 8 (.int .i64 ((tdq.length : Nat) : Int)) (fun _ => True) rfl rfl rfl rfl rfl trivial (.inl ⟨rfl, fun _ _ => d_lenS Try.underlying115 rfl ⟨rfl, rfl⟩⟩) ?_
      refine WD.take hok1 9 (.int .i64 (((tdq.length : Nat) : Int) - 1)) (fun _ => True) rfl rfl rfl rfl rfl trivial (.inl ⟨rfl, fun _ _ => d_sub rfl rfl (by omega) (by omega) ⟨rfl, rfl⟩⟩) ?_
      refine WD.take hok1 10 (elemPtr (.slice tqa tdq.length tqc) ((tdq.length - 1) * 2)) (fun w' => RdT tyTk w' (.slice tqa tdq.length tqc) tdq) rfl rfl rfl rfl rfl (H6.rdT 6 rfl) (.inl ⟨rfl, fun _ hC => t_addrN (tdq.length - 1) (T := tyTk) rfl Try.underlying115 sz119 rfl rfl hC (by omega) (by omega) ⟨rfl, rfl⟩⟩) ?_
      refine WD.take hok1 11 (.agg #[.int .i64 ((tdq.getD (tdq.length - 1) (0, 0)).1), .int .i64 ((tdq.getD (tdq.length - 1) (0, 0)).2)]) (fun w' => RdT tyTk w' (.slice tqa tdq.length tqc) tdq) rfl rfl rfl rfl rfl (H6.rdT 6 rfl) (.inl ⟨rfl, fun _ hC => t_loadN (tdq.length - 1) (0, 0) (T := tyTk) (us := [.int .i64 ((tdq.getD (tdq.length - 1) (0, 0)).1), .int .i64 ((tdq.getD (tdq.length - 1) (0, 0)).2)]) rfl Try.underlying119 rfl sz119 rfl hC (by omega) rfl ⟨rfl, rfl⟩⟩) ?_
      refine WD.loud hok1 12 rfl (⟨_, [⟨11, .agg #[.int .i64 ((tdq.getD (tdq.length - 1) (0, 0)).1), .int .i64 ((tdq.getD (tdq.length - 1) (0, 0)).2)], (fun w' => RdT tyTk w' (.slice tqa tdq.length tqc) tdq)⟩, ⟨10, elemPtr (.slice tqa tdq.length tqc) ((tdq.length - 1) * 2), (fun w' => RdT tyTk w' (.slice tqa tdq.length tqc) tdq)⟩, ⟨9, .int .i64 (((tdq.length : Nat) : Int) - 1), (fun _ => True)⟩, ⟨8, .int .i64 ((tdq.length : Nat) : Int), (fun _ => True)⟩, ⟨7, .slice tqa tdq.length tqc, (fun w' => w'.heap[g_1]? = some (.cells #[.slice fa_1 F_1.length fc_1, .slice ba_1 bn_1 bc_1, .slice mqa mqn mqc, .slice tqa tdq.length tqc, .slice wqa wqn wqc] 117 (0, 0)))⟩, ⟨6, .pointer (some ⟨g_1, 3, none⟩), (fun _ => True)⟩, ⟨5, .pointer (some ⟨g_1, 0, none⟩), (fun _ => True)⟩, ⟨4, .pointer (some ⟨g_1, 0, none⟩), (fun _ => True)⟩, ⟨3, .slice tqa tdq.length tqc, (fun w' => w'.heap[g_1]? = some (.cells #[.slice fa_1 F_1.length fc_1, .slice ba_1 bn_1 bc_1, .slice mqa mqn mqc, .slice tqa tdq.length tqc, .slice wqa wqn wqc] 117 (0, 0)))⟩, ⟨2, .pointer (some ⟨g_1, 3, none⟩), (fun _ => True)⟩, ⟨1, .pointer (some ⟨g_1, 0, none⟩), (fun _ => True)⟩, ⟨0, .pointer (some ⟨g_1, 0, none⟩), (fun _ => True)⟩], rfl, rfl, rfl, rfl, rfl, rfl, d_alloc sz119 fun w6 u4 => ?_⟩)
      have H7 : UpG w [] w6 [[blk w.heap.size #[.slice dca d.cls.length dcc, .int .i64 d.width, .int .i64 d.start, .slice dna d.next.length dnc, .slice dba d.acc.length dbc] 25], [blk g_1 #[.slice fa_1 F_1.length fc_1, .slice ba_1 bn_1 bc_1, .slice mqa mqn mqc, .slice tqa tdq.length tqc, .slice wqa wqn wqc] 117], [fromC fa_1 F_1.length fc_1 F_1], [rowT (tyI .i64) (.slice ba_1 bn_1 bc_1) 3 blq], [rowT tyLR (.slice mqa mqn mqc) 22 mq], [manyF (inLR (tyI .i64) 3).row mq], [rowT tyTk (.slice tqa tdq.length tqc) 119 tdq], [rowT tyLR (.slice wqa wqn wqc) 23 wq], [manyF (inLR tyB 4).row wq], [blk w5.heap.size #[.int .i64 0, .int .i64 0] 119]] := H6.new' u4
      refine ⟨⟨(H7.rdT 6 rfl), (H7.rdT 6 rfl), trivial, trivial, (H7.blk 1 rfl), trivial, trivial, trivial, (H7.blk 1 rfl), trivial, trivial, trivial, trivial⟩, ?_⟩
      refine WD.loud hok1 13 rfl (⟨_, [], rfl, rfl, rfl, rfl, rfl, rfl, d_storeAB (us := [.int .i64 ((tdq.getD (tdq.length - 1) (0, 0)).1), .int .i64 ((tdq.getD (tdq.length - 1) (0, 0)).2)]) (cs' := #[.int .i64 ((tdq.getD (tdq.length - 1) (0, 0)).1), .int .i64 ((tdq.getD (tdq.length - 1) (0, 0)).2)]) sz119 rfl rfl rfl rfl (H7.blk 9 rfl) rfl rfl fun w7 u5 => ?_⟩)
      have H8 : UpG w [] w7 [[blk w.heap.size #[.slice dca d.cls.length dcc, .int .i64 d.width, .int .i64 d.start, .slice dna d.next.length dnc, .slice dba d.acc.length dbc] 25], [blk g_1 #[.slice fa_1 F_1.length fc_1, .slice ba_1 bn_1 bc_1, .slice mqa mqn mqc, .slice tqa tdq.length tqc, .slice wqa wqn wqc] 117], [fromC fa_1 F_1.length fc_1 F_1], [rowT (tyI .i64) (.slice ba_1 bn_1 bc_1) 3 blq], [rowT tyLR (.slice mqa mqn mqc) 22 mq], [manyF (inLR (tyI .i64) 3).row mq], [rowT tyTk (.slice tqa tdq.length tqc) 119 tdq], [rowT tyLR (.slice wqa wqn wqc) 23 wq], [manyF (inLR tyB 4).row wq], [blk w5.heap.size #[.int .i64 ((tdq.getD (tdq.length - 1) (0, 0)).1), .int .i64 ((tdq.getD (tdq.length - 1) (0, 0)).2)] 119]] := H7.on 9 rfl u5
      refine ⟨trivial, ?_⟩
      refine WD.done hok1 rfl (X.then_code ?_)
      refine W.seq ?_
      refine W.regionD mixed (by kernel_rfl) fun hok2 w8 k2 => ?_
      have H9 : UpG w [] w8 [[blk w.heap.size #[.slice dca d.cls.length dcc, .int .i64 d.width, .int .i64 d.start, .slice dna d.next.length dnc, .slice dba d.acc.length dbc] 25], [blk g_1 #[.slice fa_1 F_1.length fc_1, .slice ba_1 bn_1 bc_1, .slice mqa mqn mqc, .slice tqa tdq.length tqc, .slice wqa wqn wqc] 117], [fromC fa_1 F_1.length fc_1 F_1], [rowT (tyI .i64) (.slice ba_1 bn_1 bc_1) 3 blq], [rowT tyLR (.slice mqa mqn mqc) 22 mq], [manyF (inLR (tyI .i64) 3).row mq], [rowT tyTk (.slice tqa tdq.length tqc) 119 tdq], [rowT tyLR (.slice wqa wqn wqc) 23 wq], [manyF (inLR tyB 4).row wq], [blk w5.heap.size #[.int .i64 ((tdq.getD (tdq.length - 1) (0, 0)).1), .int .i64 ((tdq.getD (tdq.length - 1) (0, 0)).2)] 119]] := H8.kept k2
      refine WD.take hok2 0 (.pointer (some ⟨g_1, 0, none⟩)) (fun _ => True) rfl rfl rfl rfl rfl trivial (.inl ⟨rfl, fun _ _ => d_move rfl ⟨rfl, rfl⟩⟩) ?_
      refine WD.take hok2 1 (.pointer (some ⟨g_1, 0, none⟩)) (fun _ => True) rfl rfl rfl rfl rfl trivial (.inl ⟨rfl, fun _ _ => d_move rfl ⟨rfl, rfl⟩⟩) ?_
      refine WD.take hok2 2 (.pointer (some ⟨g_1, 0, none⟩)) (fun _ => True) rfl rfl rfl rfl rfl trivial (.inl ⟨rfl, fun _ _ => d_nilCheck rfl ⟨rfl, rfl⟩⟩) ?_
      refine WD.take hok2 3 (.pointer (some ⟨g_1, 3, none⟩)) (fun _ => True) rfl rfl rfl rfl rfl trivial (.inl ⟨rfl, fun _ _ => d_fieldAddrB fld117_3 rfl rfl ⟨rfl, rfl⟩⟩) ?_
      refine WD.take hok2 4 (.slice tqa tdq.length tqc) (fun w' => w'.heap[g_1]? = some (.cells #[.slice fa_1 F_1.length fc_1, .slice ba_1 bn_1 bc_1, .slice mqa mqn mqc, .slice tqa tdq.length tqc, .slice wqa wqn wqc] 117 (0, 0))) rfl rfl rfl rfl rfl (H9.blk 1 rfl) (.inl ⟨rfl, fun _ hC => d_loadB Try.underlying115 rfl rfl hC rfl ⟨rfl, rfl⟩⟩) ?_
      refine WD.take hok2 5 (.pointer (some ⟨g_1, 0, none⟩)) (fun _ => True) rfl rfl rfl rfl rfl trivial (.inl ⟨rfl, fun _ _ => d_move rfl ⟨rfl, rfl⟩⟩) ?_
      refine WD.take hok2 6 (.pointer (some ⟨g_1, 0, none⟩)) (fun _ => True) rfl rfl rfl rfl rfl trivial (.inl ⟨rfl, fun _ _ => d_nilCheck rfl ⟨rfl, rfl⟩⟩) ?_
      refine WD.take hok2 7 (.pointer (some ⟨g_1, 3, none⟩)) (fun _ => True) rfl rfl rfl rfl rfl trivial (.inl ⟨rfl, fun _ _ => d_fieldAddrB fld117_3 rfl rfl ⟨rfl, rfl⟩⟩) ?_
      refine WD.take hok2 8 (.slice tqa tdq.length tqc) (fun w' => w'.heap[g_1]? = some (.cells #[.slice fa_1 F_1.length fc_1, .slice ba_1 bn_1 bc_1, .slice mqa mqn mqc, .slice tqa tdq.length tqc, .slice wqa wqn wqc] 117 (0, 0))) rfl rfl rfl rfl rfl (H9.blk 1 rfl) (.inl ⟨rfl, fun _ hC => d_loadB Try.underlying115 rfl rfl hC rfl ⟨rfl, rfl⟩⟩) ?_
      refine WD.take hok2 9 (.int .i64 ((tdq.length : Nat) : Int)) (fun _ => True) rfl rfl rfl rfl rfl trivial (.inl ⟨rfl, fun _ _ => d_lenS Try.underlying115 rfl ⟨rfl, rfl⟩⟩) ?_
      refine WD.take hok2 10 (.int .i64 (((tdq.length : Nat) : Int) - 1)) (fun _ => True) rfl rfl rfl rfl rfl trivial (.inl ⟨rfl, fun _ _ => d_sub rfl rfl (by omega) (by omega) ⟨rfl, rfl⟩⟩) ?_
      refine WD.loud hok2 11 rfl (⟨_, [⟨0, .pointer (some ⟨g_1, 0, none⟩), (fun _ => True)⟩], rfl, rfl, rfl, rfl, rfl, rfl, t_pop (((tdq.length : Nat) : Int) - 1) (tdq.length - 1) (T := tyTk) (e := 119) (xs := tdq) rfl Try.underlying115 sz119 rfl rfl (H9.ownT 6 rfl) (by omega) (by omega) fun w9 u6 => ?_⟩)
      have H10 : UpG w [] w9 [[blk w.heap.size #[.slice dca d.cls.length dcc, .int .i64 d.width, .int .i64 d.start, .slice dna d.next.length dnc, .slice dba d.acc.length dbc] 25], [blk g_1 #[.slice fa_1 F_1.length fc_1, .slice ba_1 bn_1 bc_1, .slice mqa mqn mqc, .slice tqa tdq.length tqc, .slice wqa wqn wqc] 117], [fromC fa_1 F_1.length fc_1 F_1], [rowT (tyI .i64) (.slice ba_1 bn_1 bc_1) 3 blq], [rowT tyLR (.slice mqa mqn mqc) 22 mq], [manyF (inLR (tyI .i64) 3).row mq], [rowT tyTk (.slice tqa ((tdq.take (tdq.length - 1)).length) tqc) 119 (tdq.take (tdq.length - 1))], [rowT tyLR (.slice wqa wqn wqc) 23 wq], [manyF (inLR tyB 4).row wq], [blk w5.heap.size #[.int .i64 ((tdq.getD (tdq.length - 1) (0, 0)).1), .int .i64 ((tdq.getD (tdq.length - 1) (0, 0)).2)] 119]] := H9.on 6 rfl u6
      refine ⟨⟨trivial, trivial⟩, ?_⟩
      refine WD.take hok2 12 (.pointer (some ⟨g_1, 0, none⟩)) (fun _ => True) rfl rfl rfl rfl rfl trivial (.inl ⟨rfl, fun _ _ => d_nilCheck rfl ⟨rfl, rfl⟩⟩) ?_
      refine WD.take hok2 13 (.pointer (some ⟨g_1, 3, none⟩)) (fun _ => True) rfl rfl rfl rfl rfl trivial (.inl ⟨rfl, fun _ _ => d_fieldAddrB fld117_3 rfl rfl ⟨rfl, rfl⟩⟩) ?_
      refine WD.loud hok2 14 rfl (⟨_, [], rfl, rfl, rfl, rfl, rfl, rfl, d_storeB sz115 rfl rfl rfl (H10.blk 1 rfl) rfl fun w10 u7 => ?_⟩)
      have H11 : UpG w [] w10 [[blk w.heap.size #[.slice dca d.cls.length dcc, .int .i64 d.width, .int .i64 d.start, .slice dna d.next.length dnc, .slice dba d.acc.length dbc] 25], [blk g_1 #[.slice fa_1 F_1.length fc_1, .slice ba_1 bn_1 bc_1, .slice mqa mqn mqc, .slice tqa ((tdq.take (tdq.length - 1)).length) tqc, .slice wqa wqn wqc] 117], [fromC fa_1 F_1.length fc_1 F_1], [rowT (tyI .i64) (.slice ba_1 bn_1 bc_1) 3 blq], [rowT tyLR (.slice mqa mqn mqc) 22 mq], [manyF (inLR (tyI .i64) 3).row mq], [rowT tyTk (.slice tqa ((tdq.take (tdq.length - 1)).length) tqc) 119 (tdq.take (tdq.length - 1))], [rowT tyLR (.slice wqa wqn wqc) 23 wq], [manyF (inLR tyB 4).row wq], [blk w5.heap.size #[.int .i64 ((tdq.getD (tdq.length - 1) (0, 0)).1), .int .i64 ((tdq.getD (tdq.length - 1) (0, 0)).2)] 119]] := H10.on 1 rfl u7
      refine ⟨trivial, ?_⟩
      refine WD.done hok2 rfl (X.then_code ?_)
      refine W.pick [5, 4, 3, 2] (Γ' := [(5, .pointer (some ⟨w5.heap.size, 0, none⟩)), (4, .pointer (some ⟨g_1, 0, none⟩)), (3, .int .i64 0), (2, .slice none 0 0)]) rfl ?_
      refine W.region ?_
      refine WL.op rfl (d_move rfl ?_)
      refine WL.op rfl (d_loadAB [.int .i64 ((tdq.getD (tdq.length - 1) (0, 0)).1), .int .i64 ((tdq.getD (tdq.length - 1) (0, 0)).2)] Try.underlying119 rfl sz119 rfl (H11.blk 9 rfl) rfl rfl ?_)
      have H12 : UpG w [] w10 [[blk g_1 #[.slice fa_1 F_1.length fc_1, .slice ba_1 bn_1 bc_1, .slice mqa mqn mqc, .slice tqa ((tdq.take (tdq.length - 1)).length) tqc, .slice wqa wqn wqc] 117, fromC fa_1 F_1.length fc_1 F_1, rowT (tyI .i64) (.slice ba_1 bn_1 bc_1) 3 blq, rowT tyLR (.slice mqa mqn mqc) 22 mq, manyF (inLR (tyI .i64) 3).row mq, rowT tyTk (.slice tqa ((tdq.take (tdq.length - 1)).length) tqc) 119 (tdq.take (tdq.length - 1)), rowT tyLR (.slice wqa wqn wqc) 23 wq, manyF (inLR tyB 4).row wq], [blk w.heap.size #[.slice dca d.cls.length dcc, .int .i64 d.width, .int .i64 d.start, .slice dna d.next.length dnc, .slice dba d.acc.length dbc] 25], [blk w5.heap.size #[.int .i64 ((tdq.getD (tdq.length - 1) (0, 0)).1), .int .i64 ((tdq.getD (tdq.length - 1) (0, 0)).2)] 119]] := UpG.of (Upd.sel H11 (l := [1, 2, 3, 4, 5, 6, 7, 8, 0, 9]) rfl rfl) rfl
      refine WL.op rfl (d_call ok84 rfl (Ret.calls (hstep_any g_1 ((tdq.getD (tdq.length - 1) (0, 0)).1) ((tdq.getD (tdq.length - 1) (0, 0)).2) d fa_1 F_1 fc_1 F_1.length ba_1 blq bc_1 bn_1 mqa mq mqc mqn tqa (tdq.take (tdq.length - 1)) tqc wqa wq wqc wqn w10 (H12.hpOf 0 rfl)  hrt q1 ⟨ht1, ht2⟩ (htl ▸ hH) (by simp; omega)) fun _ w11 p3 => ?_))
      obtain ⟨bl2_1, ma2_1, ms2_1, mc2_1, mn2_1, ta2_1, td2_1, tc2_1, wa2_1, wt2_1, wc2_1, wn2_1, rfl, u8, q4, q5⟩ := p3
      have H13 : UpG w [] w11 [[blk g_1 #[.slice fa_1 F_1.length fc_1, .slice ba_1 bn_1 bc_1, .slice ma2_1 mn2_1 mc2_1, .slice ta2_1 td2_1.length tc2_1, .slice wa2_1 wn2_1 wc2_1] 117, fromC fa_1 F_1.length fc_1 F_1, rowT (tyI .i64) (.slice ba_1 bn_1 bc_1) 3 bl2_1, rowT tyLR (.slice ma2_1 mn2_1 mc2_1) 22 ms2_1, manyF (inLR (tyI .i64) 3).row ms2_1, rowT tyTk (.slice ta2_1 td2_1.length tc2_1) 119 td2_1, rowT tyLR (.slice wa2_1 wn2_1 wc2_1) 23 wt2_1, manyF (inLR tyB 4).row wt2_1], [blk w.heap.size #[.slice dca d.cls.length dcc, .int .i64 d.width, .int .i64 d.start, .slice dna d.next.length dnc, .slice dba d.acc.length dbc] 25], [blk w5.heap.size #[.int .i64 ((tdq.getD (tdq.length - 1) (0, 0)).1), .int .i64 ((tdq.getD (tdq.length - 1) (0, 0)).2)] 119]] := H12.on 0 rfl u8
      refine WL.done (X.block_normal ?_)
      have H14 : UpG w [] w11 [[blk g_1 #[.slice fa_1 F_1.length fc_1, .slice ba_1 bn_1 bc_1, .slice ma2_1 mn2_1 mc2_1, .slice ta2_1 td2_1.length tc2_1, .slice wa2_1 wn2_1 wc2_1] 117], [fromC fa_1 F_1.length fc_1 F_1], [rowT (tyI .i64) (.slice ba_1 bn_1 bc_1) 3 bl2_1], [rowT tyLR (.slice ma2_1 mn2_1 mc2_1) 22 ms2_1], [manyF (inLR (tyI .i64) 3).row ms2_1], [rowT tyTk (.slice ta2_1 td2_1.length tc2_1) 119 td2_1], [rowT tyLR (.slice wa2_1 wn2_1 wc2_1) 23 wt2_1], [manyF (inLR tyB 4).row wt2_1], [blk w.heap.size #[.slice dca d.cls.length dcc, .int .i64 d.width, .int .i64 d.start, .slice dna d.next.length dnc, .slice dba d.acc.length dbc] 25], [blk w5.heap.size #[.int .i64 ((tdq.getD (tdq.length - 1) (0, 0)).1), .int .i64 ((tdq.getD (tdq.length - 1) (0, 0)).2)] 119]] := H13.re rfl
      have hmea := mea_eq (n := d.acc.length) (K := (usedI d).length) q5.1 q4.part.bound q5.2
      rw [List.length_take] at hmea
      exact X.next [4, 3, 2] (Γ' := [(4, .pointer (some ⟨g_1, 0, none⟩)), (3, .int .i64 0), (2, .slice none 0 0)]) rfl ((d.acc.length - ms2_1.length) * (usedI d).length + td2_1.length) (by omega) ⟨bl2_1, ma2_1, ms2_1, mc2_1, mn2_1, ta2_1, td2_1, tc2_1, wa2_1, wt2_1, wc2_1, wn2_1, rfl, (UpG.of (G := [[blk w.heap.size #[.slice dca d.cls.length dcc, .int .i64 d.width, .int .i64 d.start, .slice dna d.next.length dnc, .slice dba d.acc.length dbc] 25], [blk g_1 #[.slice fa_1 F_1.length fc_1, .slice ba_1 bn_1 bc_1, .slice ma2_1 mn2_1 mc2_1, .slice ta2_1 td2_1.length tc2_1, .slice wa2_1 wn2_1 wc2_1] 117], [fromC fa_1 F_1.length fc_1 F_1], [rowT (tyI .i64) (.slice ba_1 bn_1 bc_1) 3 bl2_1], [rowT tyLR (.slice ma2_1 mn2_1 mc2_1) 22 ms2_1], [manyF (inLR (tyI .i64) 3).row ms2_1], [rowT tyTk (.slice ta2_1 td2_1.length tc2_1) 119 td2_1], [rowT tyLR (.slice wa2_1 wn2_1 wc2_1) 23 wt2_1], [manyF (inLR tyB 4).row wt2_1]]) (Upd.sel H14 (M := [blk w.heap.size #[.slice dca d.cls.length dcc, .int .i64 d.width, .int .i64 d.start, .slice dna d.next.length dnc, .slice dba d.acc.length dbc] 25, blk g_1 #[.slice fa_1 F_1.length fc_1, .slice ba_1 bn_1 bc_1, .slice ma2_1 mn2_1 mc2_1, .slice ta2_1 td2_1.length tc2_1, .slice wa2_1 wn2_1 wc2_1] 117, fromC fa_1 F_1.length fc_1 F_1, rowT (tyI .i64) (.slice ba_1 bn_1 bc_1) 3 bl2_1, rowT tyLR (.slice ma2_1 mn2_1 mc2_1) 22 ms2_1, manyF (inLR (tyI .i64) 3).row ms2_1, rowT tyTk (.slice ta2_1 td2_1.length tc2_1) 119 td2_1, rowT tyLR (.slice wa2_1 wn2_1 wc2_1) 23 wt2_1, manyF (inLR tyB 4).row wt2_1]) (l := [8, 0, 1, 2, 3, 4, 5, 6, 7]) rfl rfl) rfl), (by exact q4), (by omega), rfl⟩
    · skip
      refine W.exit (X.then_exit (X.then_exit (X.block_exit (X.then_code ?_))))
      refine W.seq ?_
      obtain rfl : bn_1 = blq.length := RdT.len (H5.rdT 3 rfl)
      have hbln := hH.part.len
      obtain ⟨hj1, hj2⟩ := hH.blocks hrt (by omega)
      have hbL : blocksL d = blkD d := by rw [blocksL, if_pos hrt]
      have hbN : blocksN d = ((dd (blkF d)).length : Int) := by rw [blocksN, if_pos hrt]
      refine W.regionD mixed (by kernel_rfl) fun hok3 w12 k3 => ?_
      have H15 : UpG w [] w12 [[blk w.heap.size #[.slice dca d.cls.length dcc, .int .i64 d.width, .int .i64 d.start, .slice dna d.next.length dnc, .slice dba d.acc.length dbc] 25], [blk g_1 #[.slice fa_1 F_1.length fc_1, .slice ba_1 blq.length bc_1, .slice mqa mqn mqc, .slice tqa tdq.length tqc, .slice wqa wqn wqc] 117], [fromC fa_1 F_1.length fc_1 F_1], [rowT (tyI .i64) (.slice ba_1 blq.length bc_1) 3 blq], [rowT tyLR (.slice mqa mqn mqc) 22 mq], [manyF (inLR (tyI .i64) 3).row mq], [rowT tyTk (.slice tqa tdq.length tqc) 119 tdq], [rowT tyLR (.slice wqa wqn wqc) 23 wq], [manyF (inLR tyB 4).row wq]] := H5.kept k3
      refine WD.take hok3 0 (.pointer (some ⟨g_1, 0, none⟩)) (fun _ => True) rfl rfl rfl rfl rfl trivial (.inl ⟨rfl, fun _ _ => d_move rfl ⟨rfl, rfl⟩⟩) ?_
      refine WD.take hok3 1 (.pointer (some ⟨g_1, 0, none⟩)) (fun _ => True) rfl rfl rfl rfl rfl trivial (.inl ⟨rfl, fun _ _ => d_nilCheck rfl ⟨rfl, rfl⟩⟩) ?_
      refine WD.take hok3 2 (.pointer (some ⟨g_1, 1, none⟩)) (fun _ => True) rfl rfl rfl rfl rfl trivial (.inl ⟨rfl, fun _ _ => d_fieldAddrB fld117_1 rfl rfl ⟨rfl, rfl⟩⟩) ?_
      refine WD.take hok3 3 (.slice ba_1 blq.length bc_1) (fun w' => w'.heap[g_1]? = some (.cells #[.slice fa_1 F_1.length fc_1, .slice ba_1 blq.length bc_1, .slice mqa mqn mqc, .slice tqa tdq.length tqc, .slice wqa wqn wqc] 117 (0, 0))) rfl rfl rfl rfl rfl (H15.blk 1 rfl) (.inl ⟨rfl, fun _ hC => d_loadB Try.underlying22 rfl rfl hC rfl ⟨rfl, rfl⟩⟩) ?_
      refine WD.take hok3 4 (.pointer (some ⟨g_1, 0, none⟩)) (fun _ => True) rfl rfl rfl rfl rfl trivial (.inl ⟨rfl, fun _ _ => d_move rfl ⟨rfl, rfl⟩⟩) ?_
      refine WD.take hok3 5 (.pointer (some ⟨g_1, 0, none⟩)) (fun _ => True) rfl rfl rfl rfl rfl trivial (.inl ⟨rfl, fun _ _ => d_nilCheck rfl ⟨rfl, rfl⟩⟩) ?_
      refine WD.take hok3 6 (.pointer (some ⟨g_1, 1, none⟩)) (fun _ => True) rfl rfl rfl rfl rfl trivial (.inl ⟨rfl, fun _ _ => d_fieldAddrB fld117_1 rfl rfl ⟨rfl, rfl⟩⟩) ?_
      refine WD.take hok3 7 (.slice ba_1 blq.length bc_1) (fun w' => w'.heap[g_1]? = some (.cells #[.slice fa_1 F_1.length fc_1, .slice ba_1 blq.length bc_1, .slice mqa mqn mqc, .slice tqa tdq.length tqc, .slice wqa wqn wqc] 117 (0, 0))) rfl rfl rfl rfl rfl (H15.blk 1 rfl) (.inl ⟨rfl, fun _ hC => d_loadB Try.underlying22 rfl rfl hC rfl ⟨rfl, rfl⟩⟩) ?_
      refine WD.loud hok3 8 rfl (⟨_, [], rfl, rfl, rfl, rfl, rfl, rfl, d_call ok77 rfl (Ret.calls (join_any ba_1 blq bc_1 ba_1 blq bc_1 w12 (H15.rdT 3 rfl) (H15.rdT 3 rfl) (by omega)) fun _ w13 p4 => ?_)⟩)
      obtain ⟨a2_1, c2_1, rfl, u9⟩ := p4
      have H16 : UpG w [] w13 [[blk w.heap.size #[.slice dca d.cls.length dcc, .int .i64 d.width, .int .i64 d.start, .slice dna d.next.length dnc, .slice dba d.acc.length dbc] 25], [blk g_1 #[.slice fa_1 F_1.length fc_1, .slice ba_1 blq.length bc_1, .slice mqa mqn mqc, .slice tqa tdq.length tqc, .slice wqa wqn wqc] 117], [fromC fa_1 F_1.length fc_1 F_1], [rowT (tyI .i64) (.slice ba_1 blq.length bc_1) 3 blq], [rowT tyLR (.slice mqa mqn mqc) 22 mq], [manyF (inLR (tyI .i64) 3).row mq], [rowT tyTk (.slice tqa tdq.length tqc) 119 tdq], [rowT tyLR (.slice wqa wqn wqc) 23 wq], [manyF (inLR tyB 4).row wq], [rowT (tyI .i64) (.slice a2_1 ((joinL blq blq).length) c2_1) 3 (joinL blq blq)]] := (H15.new' u9).re rfl
      refine ⟨trivial, ?_⟩
      refine WD.take hok3 9 (.slice a2_1 ((joinL blq blq).length) c2_1) (fun _ => True) rfl rfl rfl rfl rfl trivial (.inl ⟨rfl, fun _ _ => d_extract rfl rfl ⟨rfl, rfl⟩⟩) ?_
      refine WD.take hok3 10 (.int .i64 (joinN blq blq)) (fun _ => True) rfl rfl rfl rfl rfl trivial (.inl ⟨rfl, fun _ _ => d_extract rfl rfl ⟨rfl, rfl⟩⟩) ?_
      refine WD.take hok3 11 (.slice a2_1 ((joinL blq blq).length) c2_1) (fun _ => True) rfl rfl rfl rfl rfl trivial (.inl ⟨rfl, fun _ _ => d_assign rfl ⟨rfl, rfl⟩⟩) ?_
      refine WD.take hok3 12 (.int .i64 (joinN blq blq)) (fun _ => True) rfl rfl rfl rfl rfl trivial (.inl ⟨rfl, fun _ _ => d_assign rfl ⟨rfl, rfl⟩⟩) ?_
      refine WD.done hok3 rfl (X.then_code ?_)
      refine W.ret (X.ret2 rfl rfl rfl ?_)
      rw [hbL, hbN, ← hj1, ← hj2]
      exact ⟨a2_1, c2_1, (by rfl), (by have hh := H16.one 9 rfl; exact hh), (fun h9 => by rw [hrt] at h9; cases h9)⟩
end Go.Proofs.Ytoeockpkkmgieaa


/- The classes of symbols as the program finds them, state by state; the least automaton as it is told. Conditions: those of each theorem. -/
namespace Go.Proofs.Ytoeockpkkmgieaa
open Go Go.Sx
set_option linter.unusedVariables false
set_option linter.unusedSimpArgs false
theorem rep_get {n i : Nat} {a : Int} (hi : i < n) : (List.replicate n a).getD i 0 = a := by rw [List.getD_eq_getElem?_getD, List.getElem?_replicate, if_pos hi]; rfl
structure ToI (d : DfaD) (bl : List Int) (s : Nat) (to : List Int) (k : Nat) : Prop where
  len : to.length = 259
  val : ∀ i, i < k → to.getD i 0 = blAt bl (stepD d (s : Int) (i : Int))
theorem ToI.start (d : DfaD) (bl : List Int) (s : Nat) : ToI d bl s (List.replicate 259 0) 0 := ⟨List.length_replicate, fun i hi => by omega⟩
theorem ToI.step {d : DfaD} {bl to : List Int} {s k : Nat} {v : Int} (h : ToI d bl s to k) (hk : k < 259) (hv : v = blAt bl (stepD d (s : Int) (k : Int))) : ToI d bl s (to.set k v) (k + 1) := by
  refine ⟨by simp [h.len], fun i hi => ?_⟩
  rw [getD_setI (by rw [h.len]; exact hk)]
  split
  · rename_i e; subst e; exact hv
  · exact h.val i (by omega)
structure ClI (d : DfaD) (bl cl : List Int) (w : Int) (k : Nat) : Prop where
  len : cl.length = 259
  ker : ∀ i j, i < 259 → j < 259 → (cl.getD i 0 = cl.getD j 0 ↔ ∀ s : Nat, s < k → To d d.start (s : Int) → blAt bl (stepD d (s : Int) (i : Int)) = blAt bl (stepD d (s : Int) (j : Int)))
  num : (∃ s : Nat, s < k ∧ To d d.start (s : Int)) → ∃ z : List (Int × Int), z.length = 259 ∧ cl = numL z ∧ w = ((dd z).length : Int)
theorem ClI.start (d : DfaD) (bl : List Int) : ClI d bl (List.replicate 259 0) 0 0 := ⟨List.length_replicate, fun i j hi hj => ⟨fun _ s hs => by omega, fun _ => by rw [rep_get hi, rep_get hj]⟩, fun ⟨s, hs, _⟩ => by omega⟩
theorem ClI.skip {d : DfaD} {bl cl : List Int} {w : Int} {k : Nat} (h : ClI d bl cl w k) (hn : ¬ To d d.start (k : Int)) : ClI d bl cl w (k + 1) := by
  have key : ∀ s : Nat, s < k + 1 → To d d.start (s : Int) → s < k := fun s hs ht => by
    by_cases e : s = k
    · subst e; exact absurd ht hn
    · omega
  refine ⟨h.len, fun i j hi hj => ?_, fun ⟨s, hs, ht⟩ => h.num ⟨s, key s hs ht, ht⟩⟩
  rw [h.ker i j hi hj]
  exact ⟨fun h9 s hs ht => h9 s (key s hs ht) ht, fun h9 s hs ht => h9 s (by omega) ht⟩
theorem ClI.join {d : DfaD} {bl cl to : List Int} {w : Int} {k j : Nat} (h : ClI d bl cl w k) (ht : To d d.start (k : Int)) (hto : ToI d bl k to j) (hj : j = 259) : ClI d bl (joinL cl to) (joinN cl to) (k + 1) := by
  subst hj
  have hcl := h.len
  have htl := hto.len
  have hl : cl.length = to.length := by omega
  have hz : (cl.zip to).length = 259 := by simp [hcl, htl]
  have hjl : (joinL cl to).length = 259 := by rw [joinL_len hl, hcl]
  have e1 : joinL cl to = numL (cl.zip to) := by unfold joinL; rw [if_pos hl]
  refine ⟨hjl, fun i j hi hj => ?_, fun _ => ⟨cl.zip to, hz, e1, by unfold joinN; rw [if_pos hl]⟩⟩
  have h1 := numG_kernel (l := cl.zip to) (i := i) (k := j) (by omega) (by omega)
  have gz : ∀ i, i < 259 → (cl.zip to)[i]? = some (cl.getD i 0, to.getD i 0) := fun i hi => by
    rw [List.getElem?_eq_getElem (by omega), List.getElem_zip]
    simp [List.getD_eq_getElem?_getD, List.getElem?_eq_getElem (show i < cl.length by omega), List.getElem?_eq_getElem (show i < to.length by omega)]
  have gn : ∀ i, i < 259 → (numL (cl.zip to))[i]? = some ((joinL cl to).getD i 0) := fun i hi => by
    rw [e1]
    simp [List.getD_eq_getElem?_getD, List.getElem?_eq_getElem (show i < (numL (cl.zip to)).length by rw [← e1, hjl]; exact hi)]
  rw [gn i hi, gn j hj, gz i hi, gz j hj] at h1
  simp only [Option.some.injEq, Prod.mk.injEq] at h1
  rw [h1, h.ker i j hi hj, hto.val i hi, hto.val j hj]
  constructor
  · rintro ⟨a, b⟩ s hs hts
    by_cases e : s = k
    · subst e; exact b
    · exact a s (by omega) hts
  · intro a
    exact ⟨fun s hs hts => a s (by omega) hts, a k (by omega) ht⟩
theorem ClI.fin {d : DfaD} (hr : rightB d = true) {bl cl : List Int} {w : Int} {k : Nat} (hb : BlkK d bl) (h : ClI d bl cl w k) (hk : k = d.acc.length) : cl = numL (symF d) ∧ w = ((dd (symF d)).length : Int) := by
  subst hk
  have hs := (rightB_iff.1 hr).1.2.2.2.2.2.2
  obtain ⟨z, hz, e1, e2⟩ := h.num ⟨d.start.toNat, by omega, by rw [Int.toNat_of_nonneg hs.1]; exact .refl _⟩
  have hfl := (symF_q d).len
  have hk : ∀ i j, i < 259 → j < 259 → (z[i]? = z[j]? ↔ (symF d)[i]? = (symF d)[j]?) := fun i j hi hj => by
    have h1 := numG_kernel (l := z) (i := i) (k := j) (by omega) (by omega)
    rw [← e1] at h1
    have gc : ∀ i, i < 259 → cl[i]? = some (cl.getD i 0) := fun i hi => by
      simp [List.getD_eq_getElem?_getD, List.getElem?_eq_getElem (show i < cl.length by rw [h.len]; exact hi)]
    have gf : ∀ i, i < 259 → (symF d)[i]? = some ((symF d).getD i 0) := fun i hi => by
      simp [List.getD_eq_getElem?_getD, List.getElem?_eq_getElem (show i < (symF d).length by omega)]
    rw [← h1, gc i hi, gc j hj, gf i hi, gf j hj]
    simp only [Option.some.injEq]
    rw [h.ker i j hi hj, (symF_q d).kernel (symR_eq d 259) hi hj]
    have key : ∀ s : Nat, s < d.acc.length → (blAt bl (stepD d (s : Int) (i : Int)) = blAt bl (stepD d (s : Int) (j : Int)) ↔ LEq d (stepD d (s : Int) (i : Int)) d (stepD d (s : Int) (j : Int))) := fun s hs =>
      hb _ _ (stepD_bd' hr (by omega) (by omega) (by omega)) (stepD_bd' hr (by omega) (by omega) (by omega))
    exact ⟨fun a s hs ht => (key s hs).1 (a s hs ht), fun a s hs ht => (key s hs).2 (a s hs ht)⟩
  have h9 := num_kernel 259 z (symF d) hz hfl hk
  exact ⟨by rw [e1, h9.1], by rw [e2, h9.2]⟩
/-- The least automaton as it is told; and 0 or 3. -/
noncomputable def leastO (d : DfaD) : DfaD := if rightB d = true then leastD d else ⟨[], 0, 0, [], []⟩
def leastE (d : DfaD) : Int := if rightB d = true then 0 else 3
theorem leastO_right {d : DfaD} (hr : rightB d = true) : leastO d = leastD d ∧ leastE d = 0 := ⟨by rw [leastO, if_pos hr], by rw [leastE, if_pos hr]⟩
theorem leastO_no {d : DfaD} (hr : ¬ rightB d = true) : leastO d = ⟨[], 0, 0, [], []⟩ ∧ leastE d = 3 := ⟨by rw [leastO, if_neg hr], by rw [leastE, if_neg hr]⟩
end Go.Proofs.Ytoeockpkkmgieaa


/- Proved here: what alpha.Join of two slices tells, however their lengths are spelt; conditions: those of the theorem. -/
namespace Go.Proofs.Ytoeockpkkmgieaa
open Go Go.Sx
theorem join2_any (xsa : Option Addr) (xs : List Int) (xsc xsn : Nat) (ysa : Option Addr) (ys : List Int) (ysc ysn : Nat) (w : World) (rxs : RdT (tyI .i64) w (.slice xsa xsn xsc) xs) (rys : RdT (tyI .i64) w (.slice ysa ysn ysc) ys) (hl : xs.length ≤ 1000000) :
    Calls Try.prog 77 #[.slice xsa xsn xsc, .slice ysa ysn ysc] w (Ret fun v w' => ∃ a2 : Option Addr, ∃ c2 : Nat, v = .tuple #[.slice a2 ((joinL xs ys).length) c2, .int .i64 (joinN xs ys)] ∧ Upd w [] w' [rowT (tyI .i64) (.slice a2 ((joinL xs ys).length) c2) 3 (joinL xs ys)]) := by
  obtain rfl : xsn = xs.length := rxs.len
  obtain rfl : ysn = ys.length := rys.len
  exact join_any xsa xs xsc ysa ys ysc w rxs rys hl
end Go.Proofs.Ytoeockpkkmgieaa


/- The walks of functions, printed by wip/tools/gw.py. -/
namespace Go.Proofs.Ytoeockpkkmgieaa
open Go Go.Sx
set_option linter.unusedVariables false
set_option linter.unusedSimpArgs false
set_option maxRecDepth 20000 in
theorem miniOf_any (d : DfaD) (dca : Option Addr) (dna : Option Addr) (dba : Option Addr) (dcc : Nat) (dnc : Nat) (dbc : Nat) (w : World) (rcd : RdT (tyI .i64) w (.slice dca d.cls.length dcc) d.cls) (rnd : RdT (tyI .i64) w (.slice dna d.next.length dnc) d.next) (rbd : RdT tyB w (.slice dba d.acc.length dbc) d.acc) (hcl : d.cls.length ≤ 100000) :
    Calls Try.prog 52 #[.agg #[.slice dca d.cls.length dcc, .int .i64 d.width, .int .i64 d.start, .slice dna d.next.length dnc, .slice dba d.acc.length dbc]] w (Ret fun v w' => ∃ ca : Option Addr, ∃ cc : Nat, ∃ na : Option Addr, ∃ nc : Nat, ∃ ba : Option Addr, ∃ bc : Nat, v = .tuple #[.agg #[.slice ca (((leastO d).cls).length) cc, .int .i64 ((leastO d).width), .int .i64 ((leastO d).start), .slice na (((leastO d).next).length) nc, .slice ba (((leastO d).acc).length) bc], .int .i64 (leastE d)] ∧ Upd w [] w' [rowT (tyI .i64) (.slice ca (((leastO d).cls).length) cc) 3 ((leastO d).cls), rowT (tyI .i64) (.slice na (((leastO d).next).length) nc) 3 ((leastO d).next), rowT tyB (.slice ba (((leastO d).acc).length) bc) 4 ((leastO d).acc)]) := by
  have le_rcd := rcd.le
  have le_rnd := rnd.le
  have le_rbd := rbd.le
  refine calls_of_W (args := [.agg #[.slice dca d.cls.length dcc, .int .i64 d.width, .int .i64 d.start, .slice dna d.next.length dnc, .slice dba d.acc.length dbc]]) Try.func52 rfl rfl rfl ?_
  have H0 : UpG w [] w [] := UpG.nil w
  show W _ _ _ _ [(0, .agg #[.slice dca d.cls.length dcc, .int .i64 d.width, .int .i64 d.start, .slice dna d.next.length dnc, .slice dba d.acc.length dbc])] w
  refine W.seq ?_
  refine W.region ?_
  refine WL.op rfl (d_box rfl fun w1 u1 => ?_)
  have H1 : UpG w [] w1 [[blk w.heap.size #[.slice dca d.cls.length dcc, .int .i64 d.width, .int .i64 d.start, .slice dna d.next.length dnc, .slice dba d.acc.length dbc] 25]] := H0.new' u1
  refine WL.op rfl (d_alloc sz25 fun w2 u2 => ?_)
  have H2 : UpG w [] w2 [[blk w.heap.size #[.slice dca d.cls.length dcc, .int .i64 d.width, .int .i64 d.start, .slice dna d.next.length dnc, .slice dba d.acc.length dbc] 25], [blk w1.heap.size #[.slice none 0 0, .int .i64 0, .int .i64 0, .slice none 0 0, .slice none 0 0] 25]] := H1.new' u2
  refine WL.op rfl (d_assign rfl ?_)
  refine WL.done (X.then_code ?_)
  refine W.seq ?_
  refine W.region ?_
  refine WL.op rfl (d_loadAB [.slice dca d.cls.length dcc, .int .i64 d.width, .int .i64 d.start, .slice dna d.next.length dnc, .slice dba d.acc.length dbc] Try.underlying25 rfl sz25 rfl (H2.blk 0 rfl) rfl rfl ?_)
  refine WL.op rfl (d_call ok51 rfl (Ret.calls (blocks_any d dca dna dba dcc dnc dbc w2 (rcd.at H2) (rnd.at H2) (rbd.at H2) ) fun _ w3 p1 => ?_))
  obtain ⟨a2_1, c2_1, rfl, u3, q1⟩ := p1
  have H3 : UpG w [] w3 [[blk w.heap.size #[.slice dca d.cls.length dcc, .int .i64 d.width, .int .i64 d.start, .slice dna d.next.length dnc, .slice dba d.acc.length dbc] 25], [blk w1.heap.size #[.slice none 0 0, .int .i64 0, .int .i64 0, .slice none 0 0, .slice none 0 0] 25], [rowT (tyI .i64) (.slice a2_1 ((blocksL d).length) c2_1) 3 (blocksL d)]] := (H2.new' u3).re rfl
  refine WL.op rfl (d_move rfl ?_)
  refine WL.op rfl (d_extract rfl rfl ?_)
  refine WL.op rfl (d_extract rfl rfl ?_)
  refine WL.op rfl (d_assign rfl ?_)
  refine WL.op rfl (d_assign rfl ?_)
  refine WL.done (X.then_code ?_)
  refine W.seq ?_
  refine W.seq ?_
  have hnil := fun e => RdT.nilOf (H3.rdT 2 rfl) e
  refine W.region ?_
  refine WL.op rfl (d_move rfl ?_)
  refine WL.op rfl (d_slcnil Try.underlying22 rfl ?_)
  refine WL.done (X.then_code ?_)
  refine W.ite (p := a2_1 = none) rfl (fun c144 => ?_) (fun c144 => ?_)
  · skip
    refine W.seq ?_
    refine W.region ?_
    refine WL.op rfl (d_build (cs := #[.slice none 0 0, .int .i64 0, .int .i64 0, .slice none 0 0, .slice none 0 0]) rfl (by kernel_rfl) ?_)
    refine WL.op0 (d_storeAB (us := [.slice none 0 0, .int .i64 0, .int .i64 0, .slice none 0 0, .slice none 0 0]) (cs' := #[.slice none 0 0, .int .i64 0, .int .i64 0, .slice none 0 0, .slice none 0 0]) sz25 rfl rfl rfl rfl (H3.blk 1 rfl) rfl rfl fun w4 u4 => ?_)
    have H4 : UpG w [] w4 [[blk w.heap.size #[.slice dca d.cls.length dcc, .int .i64 d.width, .int .i64 d.start, .slice dna d.next.length dnc, .slice dba d.acc.length dbc] 25], [blk w1.heap.size #[.slice none 0 0, .int .i64 0, .int .i64 0, .slice none 0 0, .slice none 0 0] 25], [rowT (tyI .i64) (.slice a2_1 ((blocksL d).length) c2_1) 3 (blocksL d)]] := H3.on 1 rfl u4
    refine WL.op rfl (d_assign rfl ?_)
    refine WL.done (X.then_code ?_)
    refine W.ret (X.then_ret (X.retR2 rfl (rv_cellA [.slice none 0 0, .int .i64 0, .int .i64 0, .slice none 0 0, .slice none 0 0] Try.underlying25 rfl sz25 rfl (H4.blk 1 rfl) rfl rfl) (rv_tmp rfl) ?_))
    have hno : ¬ rightB d = true := fun h9 => by have h8 := hnil c144; have h7 := blkD_len d; rw [blocksL, if_pos h9] at h8; rw [h8] at h7; have h6 := (rightB_iff.1 h9).1; simp only [List.length_nil] at h7; omega
    obtain ⟨e1, e2⟩ := leastO_no hno
    rw [e1, e2]
    have H5 : UpG w [] w4 [[blk w.heap.size #[.slice dca d.cls.length dcc, .int .i64 d.width, .int .i64 d.start, .slice dna d.next.length dnc, .slice dba d.acc.length dbc] 25], [blk w1.heap.size #[.slice none 0 0, .int .i64 0, .int .i64 0, .slice none 0 0, .slice none 0 0] 25], [rowT (tyI .i64) (.slice a2_1 ((blocksL d).length) c2_1) 3 (blocksL d)], [rowT (tyI .i64) (.slice none (([] : List Int).length) 0) 3 ([] : List Int)]] := H4.new' (Upd.nilRowT w4 (tyI .i64) 3)
    have H6 : UpG w [] w4 [[blk w.heap.size #[.slice dca d.cls.length dcc, .int .i64 d.width, .int .i64 d.start, .slice dna d.next.length dnc, .slice dba d.acc.length dbc] 25], [blk w1.heap.size #[.slice none 0 0, .int .i64 0, .int .i64 0, .slice none 0 0, .slice none 0 0] 25], [rowT (tyI .i64) (.slice a2_1 ((blocksL d).length) c2_1) 3 (blocksL d)], [rowT (tyI .i64) (.slice none (([] : List Int).length) 0) 3 ([] : List Int)], [rowT (tyI .i64) (.slice none (([] : List Int).length) 0) 3 ([] : List Int)]] := H5.new' (Upd.nilRowT w4 (tyI .i64) 3)
    have H7 : UpG w [] w4 [[blk w.heap.size #[.slice dca d.cls.length dcc, .int .i64 d.width, .int .i64 d.start, .slice dna d.next.length dnc, .slice dba d.acc.length dbc] 25], [blk w1.heap.size #[.slice none 0 0, .int .i64 0, .int .i64 0, .slice none 0 0, .slice none 0 0] 25], [rowT (tyI .i64) (.slice a2_1 ((blocksL d).length) c2_1) 3 (blocksL d)], [rowT (tyI .i64) (.slice none (([] : List Int).length) 0) 3 ([] : List Int)], [rowT (tyI .i64) (.slice none (([] : List Int).length) 0) 3 ([] : List Int)], [rowT tyB (.slice none (([] : List Bool).length) 0) 4 ([] : List Bool)]] := H6.new' (Upd.nilRowT w4 tyB 4)
    exact ⟨none, 0, none, 0, none, 0, (by rfl), (Upd.sel H7 (l := [3, 4, 5]) rfl rfl)⟩
  · skip
    refine W.skip (X.then_code ?_)
    refine W.seq ?_
    have hrt : rightB d = true := Classical.byContradiction fun h9 => c144 (q1 (by simpa using h9))
    have hri := rightB_iff.1 hrt
    have hbL : blocksL d = blkD d := by rw [blocksL, if_pos hrt]
    have hbl : (blocksL d).length = d.acc.length := by rw [hbL]; exact blkD_len d
    have hbk : BlkK d (blocksL d) := by rw [hbL]; exact blkD_k d
    refine W.region ?_
    refine WL.op rfl (t_make 259 (0 : Int) (T := (tyI .i64)) rfl Try.underlying22 sz3 rfl rfl rfl rfl (by omega) (by omega) fun w5 u5 => ?_)
    have H8 : UpG w [] w5 [[blk w.heap.size #[.slice dca d.cls.length dcc, .int .i64 d.width, .int .i64 d.start, .slice dna d.next.length dnc, .slice dba d.acc.length dbc] 25], [blk w1.heap.size #[.slice none 0 0, .int .i64 0, .int .i64 0, .slice none 0 0, .slice none 0 0] 25], [rowT (tyI .i64) (.slice a2_1 ((blocksL d).length) c2_1) 3 (blocksL d)], [rowT (tyI .i64) (.slice (some ⟨w3.heap.size, 0, none⟩) ((List.replicate 259 (0 : Int)).length) 259) 3 (List.replicate 259 (0 : Int))]] := H3.new' u5
    refine WL.op rfl (d_assign rfl ?_)
    refine WL.op rfl (d_assign rfl ?_)
    refine WL.done (X.then_code ?_)
    refine W.seq ?_
    refine W.seq ?_
    refine W.region ?_
    refine WL.op rfl (d_loadAB [.slice dca d.cls.length dcc, .int .i64 d.width, .int .i64 d.start, .slice dna d.next.length dnc, .slice dba d.acc.length dbc] Try.underlying25 rfl sz25 rfl (H8.blk 0 rfl) rfl rfl ?_)
    refine WL.op rfl (d_call ok19 rfl (Ret.calls (reach_any d dca dna dba dcc dnc dbc w5 (rcd.at H8) (rnd.at H8) (rbd.at H8) (by omega)) fun _ w6 p2 => ?_))
    obtain ⟨a2_2, o2_1, c2_2, rfl, u6, q2⟩ := p2
    have H9 : UpG w [] w6 [[blk w.heap.size #[.slice dca d.cls.length dcc, .int .i64 d.width, .int .i64 d.start, .slice dna d.next.length dnc, .slice dba d.acc.length dbc] 25], [blk w1.heap.size #[.slice none 0 0, .int .i64 0, .int .i64 0, .slice none 0 0, .slice none 0 0] 25], [rowT (tyI .i64) (.slice a2_1 ((blocksL d).length) c2_1) 3 (blocksL d)], [rowT (tyI .i64) (.slice (some ⟨w3.heap.size, 0, none⟩) ((List.replicate 259 (0 : Int)).length) 259) 3 (List.replicate 259 (0 : Int))], [rowT tyB (.slice a2_2 o2_1.length c2_2) 4 o2_1]] := (H8.new' u6).re rfl
    refine WL.op rfl (d_lenS Try.underlying23 rfl ?_)
    refine WL.op rfl (d_move rfl ?_)
    refine WL.done (X.then_code ?_)
    refine W.block ?_
    have hol := (q2.2 hrt).1
    refine W.pick [25, 24, 23, 7, 6, 4, 3, 2, 1] (Γ' := [(25, .int .i64 0), (24, .int .i64 ((o2_1.length : Nat) : Int)), (23, .slice a2_2 o2_1.length c2_2), (7, .int .i64 0), (6, .slice (some ⟨w3.heap.size, 0, none⟩) ((List.replicate 259 (0 : Int)).length) 259), (4, .slice a2_1 ((blocksL d).length) c2_1), (3, .int .i64 0), (2, .pointer (some ⟨w1.heap.size, 0, none⟩)), (1, .pointer (some ⟨w.heap.size, 0, none⟩))]) rfl ?_
    refine W.loop (fun m Γ' w' => ∃ k : Nat, ∃ cl : List Int, ∃ cla : Option Addr, ∃ clc : Nat, ∃ cw : Int, Γ' = [(25, .int .i64 ((k : Nat) : Int)), (24, .int .i64 ((o2_1.length : Nat) : Int)), (23, .slice a2_2 o2_1.length c2_2), (7, .int .i64 cw), (6, .slice cla cl.length clc), (4, .slice a2_1 ((blocksL d).length) c2_1), (3, .int .i64 0), (2, .pointer (some ⟨w1.heap.size, 0, none⟩)), (1, .pointer (some ⟨w.heap.size, 0, none⟩))] ∧ UpG w [] w' [[blk w.heap.size #[.slice dca d.cls.length dcc, .int .i64 d.width, .int .i64 d.start, .slice dna d.next.length dnc, .slice dba d.acc.length dbc] 25], [blk w1.heap.size #[.slice none 0 0, .int .i64 0, .int .i64 0, .slice none 0 0, .slice none 0 0] 25], [rowT (tyI .i64) (.slice a2_1 ((blocksL d).length) c2_1) 3 (blocksL d)], [rowT (tyI .i64) (.slice cla cl.length clc) 3 cl], [rowT tyB (.slice a2_2 o2_1.length c2_2) 4 o2_1]] ∧ (k ≤ o2_1.length) ∧ (ClI d (blocksL d) cl cw k) ∧ m = o2_1.length - k) (o2_1.length - 0) ⟨0, List.replicate 259 (0 : Int), (some ⟨w3.heap.size, 0, none⟩), 259, 0, rfl, H9, (by first | assumption | omega | simp), (by exact ClI.start d _), rfl⟩ ?_
    rintro m1 Γ1 w7 ⟨k, cl, cla, clc, cw, rfl, H10, hk, hC, rfl⟩
    have hcl2 := hC.len
    refine W.seq ?_
    refine W.region ?_
    refine WL.op rfl (d_cmp (decide (((k : Nat) : Int) < ((o2_1.length : Nat) : Int))) rfl rfl rfl ?_)
    refine WL.done (X.then_code ?_)
    refine W.seq ?_
    refine W.ite (p := ((k : Nat) : Int) < ((o2_1.length : Nat) : Int)) rfl (fun c148 => ?_) (fun c148 => ?_)
    · skip
      refine W.skip (X.then_code ?_)
      refine W.seq ?_
      refine W.block ?_
      refine W.seq ?_
      refine W.region ?_
      refine WL.op rfl (d_move rfl ?_)
      refine WL.op rfl (t_addr1 k (T := tyB) rfl Try.underlying23 sz4 rfl rfl (H10.rdT 4 rfl) rfl (by omega) ?_)
      refine WL.op rfl (t_load1 k false (T := tyB) rfl Try.underlying4 rfl rfl (H10.rdT 4 rfl) (by omega) rfl ?_)
      refine WL.op rfl (d_assign rfl ?_)
      refine WL.op rfl (d_assign rfl ?_)
      refine WL.done (X.then_code ?_)
      refine W.seq ?_
      refine W.seq ?_
      have hrs := (q2.2 hrt).2 k (by omega)
      refine W.region ?_
      refine WL.op rfl (d_move rfl ?_)
      refine WL.op rfl (d_notB rfl ?_)
      refine WL.done (X.then_code ?_)
      refine W.iteB (b := !(o2_1.getD k false)) rfl (fun c149 => ?_) (fun c149 => ?_)
      · skip
        refine W.exit (X.then_exit (X.block_exit (X.then_code ?_)))
        refine W.region ?_
        refine WL.op rfl (d_add rfl rfl (by omega) (by omega) ?_)
        refine WL.op rfl (d_move rfl ?_)
        refine WL.done ?_
        exact X.next [25, 24, 23, 7, 6, 4, 3, 2, 1] (Γ' := [(25, .int .i64 (((k + 1) : Nat) : Int)), (24, .int .i64 ((o2_1.length : Nat) : Int)), (23, .slice a2_2 o2_1.length c2_2), (7, .int .i64 cw), (6, .slice cla cl.length clc), (4, .slice a2_1 ((blocksL d).length) c2_1), (3, .int .i64 0), (2, .pointer (some ⟨w1.heap.size, 0, none⟩)), (1, .pointer (some ⟨w.heap.size, 0, none⟩))]) rfl (o2_1.length - (k + 1)) (by omega) ⟨k + 1, cl, cla, clc, cw, rfl, H10, (by first | assumption | omega | simp), (by first | exact hC.join hto hI (by omega) | exact hC.skip (fun h9 => by have h8 := hrs.2 h9; rw [h8] at c149; exact absurd c149 (by decide))), rfl⟩
      · skip
        refine W.skip (X.then_code ?_)
        refine W.seq ?_
        have hto : To d d.start ((k : Nat) : Int) := hrs.1 (bn_t c149)
        refine W.region ?_
        refine WL.op rfl (t_make 259 (0 : Int) (T := (tyI .i64)) rfl Try.underlying22 sz3 rfl rfl rfl rfl (by omega) (by omega) fun w8 u7 => ?_)
        have H11 : UpG w [] w8 [[blk w.heap.size #[.slice dca d.cls.length dcc, .int .i64 d.width, .int .i64 d.start, .slice dna d.next.length dnc, .slice dba d.acc.length dbc] 25], [blk w1.heap.size #[.slice none 0 0, .int .i64 0, .int .i64 0, .slice none 0 0, .slice none 0 0] 25], [rowT (tyI .i64) (.slice a2_1 ((blocksL d).length) c2_1) 3 (blocksL d)], [rowT (tyI .i64) (.slice cla cl.length clc) 3 cl], [rowT tyB (.slice a2_2 o2_1.length c2_2) 4 o2_1], [rowT (tyI .i64) (.slice (some ⟨w7.heap.size, 0, none⟩) ((List.replicate 259 (0 : Int)).length) 259) 3 (List.replicate 259 (0 : Int))]] := H10.new' u7
        refine WL.op rfl (d_assign rfl ?_)
        refine WL.done (X.then_code ?_)
        refine W.seq ?_
        refine W.seq ?_
        refine W.region ?_
        refine WL.op rfl (d_fieldAddrB fld25_0 rfl rfl ?_)
        refine WL.op rfl (d_loadB Try.underlying22 rfl rfl (H11.blk 0 rfl) rfl ?_)
        refine WL.op rfl (d_lenS Try.underlying22 rfl ?_)
        refine WL.op rfl (d_move rfl ?_)
        refine WL.done (X.then_code ?_)
        refine W.block ?_
        refine W.pick [36, 35, 34, 10, 8, 25, 24, 23, 6, 4, 3, 2, 1] (Γ' := [(36, .int .i64 0), (35, .int .i64 ((d.cls.length : Nat) : Int)), (34, .slice dca d.cls.length dcc), (10, .slice (some ⟨w7.heap.size, 0, none⟩) ((List.replicate 259 (0 : Int)).length) 259), (8, .int .i64 ((k : Nat) : Int)), (25, .int .i64 ((k : Nat) : Int)), (24, .int .i64 ((o2_1.length : Nat) : Int)), (23, .slice a2_2 o2_1.length c2_2), (6, .slice cla cl.length clc), (4, .slice a2_1 ((blocksL d).length) c2_1), (3, .int .i64 0), (2, .pointer (some ⟨w1.heap.size, 0, none⟩)), (1, .pointer (some ⟨w.heap.size, 0, none⟩))]) rfl ?_
        refine W.loop (fun m Γ' w' => ∃ y : Nat, ∃ to : List Int, Γ' = [(36, .int .i64 ((y : Nat) : Int)), (35, .int .i64 ((d.cls.length : Nat) : Int)), (34, .slice dca d.cls.length dcc), (10, .slice (some ⟨w7.heap.size, 0, none⟩) ((List.replicate 259 (0 : Int)).length) 259), (8, .int .i64 ((k : Nat) : Int)), (25, .int .i64 ((k : Nat) : Int)), (24, .int .i64 ((o2_1.length : Nat) : Int)), (23, .slice a2_2 o2_1.length c2_2), (6, .slice cla cl.length clc), (4, .slice a2_1 ((blocksL d).length) c2_1), (3, .int .i64 0), (2, .pointer (some ⟨w1.heap.size, 0, none⟩)), (1, .pointer (some ⟨w.heap.size, 0, none⟩))] ∧ UpG w [] w' [[blk w.heap.size #[.slice dca d.cls.length dcc, .int .i64 d.width, .int .i64 d.start, .slice dna d.next.length dnc, .slice dba d.acc.length dbc] 25], [blk w1.heap.size #[.slice none 0 0, .int .i64 0, .int .i64 0, .slice none 0 0, .slice none 0 0] 25], [rowT (tyI .i64) (.slice a2_1 ((blocksL d).length) c2_1) 3 (blocksL d)], [rowT (tyI .i64) (.slice cla cl.length clc) 3 cl], [rowT tyB (.slice a2_2 o2_1.length c2_2) 4 o2_1], [rowT (tyI .i64) (.slice (some ⟨w7.heap.size, 0, none⟩) ((List.replicate 259 (0 : Int)).length) 259) 3 to]] ∧ (y ≤ d.cls.length) ∧ (ToI d (blocksL d) k to y) ∧ m = d.cls.length - y) (d.cls.length - 0) ⟨0, List.replicate 259 (0 : Int), rfl, H11, (by first | assumption | omega | simp), (by exact ToI.start d _ k), rfl⟩ ?_
        rintro m2 Γ2 w9 ⟨y, to, rfl, H12, hy, hI, rfl⟩
        refine W.seq ?_
        refine W.region ?_
        refine WL.op rfl (d_cmp (decide (((y : Nat) : Int) < ((d.cls.length : Nat) : Int))) rfl rfl rfl ?_)
        refine WL.done (X.then_code ?_)
        refine W.seq ?_
        refine W.ite (p := ((y : Nat) : Int) < ((d.cls.length : Nat) : Int)) rfl (fun c153 => ?_) (fun c153 => ?_)
        · skip
          refine W.skip (X.then_code ?_)
          refine W.seq ?_
          refine W.block ?_
          refine W.seq ?_
          refine W.region ?_
          refine WL.op rfl (d_move rfl ?_)
          refine WL.op rfl (t_addr1 y (T := (tyI .i64)) rfl Try.underlying22 sz3 rfl rfl (rcd.at H12) rfl (by omega) ?_)
          refine WL.op rfl (t_load1 y 0 (T := (tyI .i64)) rfl Try.underlying3 rfl rfl (rcd.at H12) (by omega) rfl ?_)
          refine WL.op rfl (d_assign rfl ?_)
          refine WL.op rfl (d_assign rfl ?_)
          refine WL.done (X.then_code ?_)
          have hcx := within_at hri.2.1 y (by omega)
          have hix := right_idx (q := ((k : Nat) : Int)) hrt (by omega) (by omega) hcx.1 hcx.2
          have htl := hI.len
          refine W.region ?_
          refine WL.op rfl (d_move rfl ?_)
          refine WL.op rfl (d_move rfl ?_)
          refine WL.op rfl (d_move rfl ?_)
          refine WL.op rfl (d_fieldAddrB fld25_3 rfl rfl ?_)
          refine WL.op rfl (d_loadB Try.underlying22 rfl rfl (H12.blk 0 rfl) rfl ?_)
          refine WL.op rfl (d_move rfl ?_)
          refine WL.op rfl (d_fieldAddrB fld25_1 rfl rfl ?_)
          refine WL.op rfl (d_loadB Try.underlying3 rfl rfl (H12.blk 0 rfl) rfl ?_)
          refine WL.op rfl (d_mul rfl rfl (by omega) (by omega) ?_)
          refine WL.op rfl (d_move rfl ?_)
          refine WL.op rfl (d_add rfl rfl (by omega) (by omega) ?_)
          refine WL.op rfl (t_addr1 (((((k : Nat) : Int) * d.width) + (d.cls.getD y 0)).toNat) (T := (tyI .i64)) rfl Try.underlying22 sz3 rfl rfl (rnd.at H12) (by omega) (by omega) ?_)
          refine WL.op rfl (t_load1 (((((k : Nat) : Int) * d.width) + (d.cls.getD y 0)).toNat) 0 (T := (tyI .i64)) rfl Try.underlying3 rfl rfl (rnd.at H12) (by omega) rfl ?_)
          refine WL.op rfl (t_addr1 ((d.next.getD (((((k : Nat) : Int) * d.width) + (d.cls.getD y 0)).toNat) 0).toNat) (T := (tyI .i64)) rfl Try.underlying22 sz3 rfl rfl (H12.rdT 2 rfl) (by omega) (by omega) ?_)
          refine WL.op rfl (t_load1 ((d.next.getD (((((k : Nat) : Int) * d.width) + (d.cls.getD y 0)).toNat) 0).toNat) 0 (T := (tyI .i64)) rfl Try.underlying3 rfl rfl (H12.rdT 2 rfl) (by omega) rfl ?_)
          refine WL.op rfl (t_addr1 y (T := (tyI .i64)) rfl Try.underlying22 sz3 rfl rfl (H12.rdT 5 rfl) rfl (by omega) ?_)
          refine WL.op0 (t_store1 y ((blocksL d).getD ((d.next.getD (((((k : Nat) : Int) * d.width) + (d.cls.getD y 0)).toNat) 0).toNat) 0) (T := (tyI .i64)) (e := 3) rfl sz3 rfl rfl rfl (H12.ownT 5 rfl) (by omega) fun w10 u8 => ?_)
          have H13 : UpG w [] w10 [[blk w.heap.size #[.slice dca d.cls.length dcc, .int .i64 d.width, .int .i64 d.start, .slice dna d.next.length dnc, .slice dba d.acc.length dbc] 25], [blk w1.heap.size #[.slice none 0 0, .int .i64 0, .int .i64 0, .slice none 0 0, .slice none 0 0] 25], [rowT (tyI .i64) (.slice a2_1 ((blocksL d).length) c2_1) 3 (blocksL d)], [rowT (tyI .i64) (.slice cla cl.length clc) 3 cl], [rowT tyB (.slice a2_2 o2_1.length c2_2) 4 o2_1], [rowT (tyI .i64) (.slice (some ⟨w7.heap.size, 0, none⟩) ((List.replicate 259 (0 : Int)).length) 259) 3 (to.set y ((blocksL d).getD ((d.next.getD (((((k : Nat) : Int) * d.width) + (d.cls.getD y 0)).toNat) 0).toNat) 0))]] := H12.on 5 rfl u8
          refine WL.done (X.block_normal (X.then_code ?_))
          refine W.pick [36, 35, 34, 10, 8, 25, 24, 23, 6, 4, 3, 2, 1] (Γ' := [(36, .int .i64 ((y : Nat) : Int)), (35, .int .i64 ((d.cls.length : Nat) : Int)), (34, .slice dca d.cls.length dcc), (10, .slice (some ⟨w7.heap.size, 0, none⟩) ((List.replicate 259 (0 : Int)).length) 259), (8, .int .i64 ((k : Nat) : Int)), (25, .int .i64 ((k : Nat) : Int)), (24, .int .i64 ((o2_1.length : Nat) : Int)), (23, .slice a2_2 o2_1.length c2_2), (6, .slice cla cl.length clc), (4, .slice a2_1 ((blocksL d).length) c2_1), (3, .int .i64 0), (2, .pointer (some ⟨w1.heap.size, 0, none⟩)), (1, .pointer (some ⟨w.heap.size, 0, none⟩))]) rfl ?_
          refine W.region ?_
          refine WL.op rfl (d_add rfl rfl (by omega) (by omega) ?_)
          refine WL.op rfl (d_move rfl ?_)
          refine WL.done ?_
          exact X.next [36, 35, 34, 10, 8, 25, 24, 23, 6, 4, 3, 2, 1] (Γ' := [(36, .int .i64 (((y + 1) : Nat) : Int)), (35, .int .i64 ((d.cls.length : Nat) : Int)), (34, .slice dca d.cls.length dcc), (10, .slice (some ⟨w7.heap.size, 0, none⟩) ((List.replicate 259 (0 : Int)).length) 259), (8, .int .i64 ((k : Nat) : Int)), (25, .int .i64 ((k : Nat) : Int)), (24, .int .i64 ((o2_1.length : Nat) : Int)), (23, .slice a2_2 o2_1.length c2_2), (6, .slice cla cl.length clc), (4, .slice a2_1 ((blocksL d).length) c2_1), (3, .int .i64 0), (2, .pointer (some ⟨w1.heap.size, 0, none⟩)), (1, .pointer (some ⟨w.heap.size, 0, none⟩))]) rfl (d.cls.length - (y + 1)) (by omega) ⟨y + 1, to.set y ((blocksL d).getD ((d.next.getD (((((k : Nat) : Int) * d.width) + (d.cls.getD y 0)).toNat) 0).toNat) 0), rfl, H13, (by first | assumption | omega | simp), (by exact hI.step (by omega) rfl), rfl⟩
        · skip
          refine W.exit (X.then_exit (X.then_exit (X.block_exit (X.then_code ?_))))
          have htl2 := hI.len
          refine W.region ?_
          refine WL.op rfl (d_move rfl ?_)
          refine WL.op rfl (d_move rfl ?_)
          refine WL.op rfl (d_call ok77 rfl (Ret.calls (join2_any cla cl clc cl.length (some ⟨w7.heap.size, 0, none⟩) to 259 ((List.replicate 259 (0 : Int)).length) w9 (H12.rdT 3 rfl) (H12.rdT 5 rfl) (by omega)) fun _ w11 p3 => ?_))
          obtain ⟨a2_3, c2_3, rfl, u9⟩ := p3
          have H14 : UpG w [] w11 [[blk w.heap.size #[.slice dca d.cls.length dcc, .int .i64 d.width, .int .i64 d.start, .slice dna d.next.length dnc, .slice dba d.acc.length dbc] 25], [blk w1.heap.size #[.slice none 0 0, .int .i64 0, .int .i64 0, .slice none 0 0, .slice none 0 0] 25], [rowT (tyI .i64) (.slice a2_1 ((blocksL d).length) c2_1) 3 (blocksL d)], [rowT (tyI .i64) (.slice cla cl.length clc) 3 cl], [rowT tyB (.slice a2_2 o2_1.length c2_2) 4 o2_1], [rowT (tyI .i64) (.slice (some ⟨w7.heap.size, 0, none⟩) ((List.replicate 259 (0 : Int)).length) 259) 3 to], [rowT (tyI .i64) (.slice a2_3 ((joinL cl to).length) c2_3) 3 (joinL cl to)]] := (H12.new' u9).re rfl
          refine WL.op rfl (d_move rfl ?_)
          refine WL.op rfl (d_extract rfl rfl ?_)
          refine WL.op rfl (d_extract rfl rfl ?_)
          refine WL.op rfl (d_assign rfl ?_)
          refine WL.op rfl (d_assign rfl ?_)
          refine WL.done (X.block_normal (X.then_code ?_))
          refine W.region ?_
          refine WL.op rfl (d_add rfl rfl (by omega) (by omega) ?_)
          refine WL.op rfl (d_move rfl ?_)
          refine WL.done ?_
          exact X.next [25, 24, 23, 7, 6, 4, 3, 2, 1] (Γ' := [(25, .int .i64 (((k + 1) : Nat) : Int)), (24, .int .i64 ((o2_1.length : Nat) : Int)), (23, .slice a2_2 o2_1.length c2_2), (7, .int .i64 (joinN cl to)), (6, .slice a2_3 ((joinL cl to).length) c2_3), (4, .slice a2_1 ((blocksL d).length) c2_1), (3, .int .i64 0), (2, .pointer (some ⟨w1.heap.size, 0, none⟩)), (1, .pointer (some ⟨w.heap.size, 0, none⟩))]) rfl (o2_1.length - (k + 1)) (by omega) ⟨k + 1, joinL cl to, a2_3, c2_3, joinN cl to, rfl, (UpG.of (G := [[blk w.heap.size #[.slice dca d.cls.length dcc, .int .i64 d.width, .int .i64 d.start, .slice dna d.next.length dnc, .slice dba d.acc.length dbc] 25], [blk w1.heap.size #[.slice none 0 0, .int .i64 0, .int .i64 0, .slice none 0 0, .slice none 0 0] 25], [rowT (tyI .i64) (.slice a2_1 ((blocksL d).length) c2_1) 3 (blocksL d)], [rowT (tyI .i64) (.slice a2_3 ((joinL cl to).length) c2_3) 3 (joinL cl to)], [rowT tyB (.slice a2_2 o2_1.length c2_2) 4 o2_1]]) (Upd.sel H14 (M := [blk w.heap.size #[.slice dca d.cls.length dcc, .int .i64 d.width, .int .i64 d.start, .slice dna d.next.length dnc, .slice dba d.acc.length dbc] 25, blk w1.heap.size #[.slice none 0 0, .int .i64 0, .int .i64 0, .slice none 0 0, .slice none 0 0] 25, rowT (tyI .i64) (.slice a2_1 ((blocksL d).length) c2_1) 3 (blocksL d), rowT (tyI .i64) (.slice a2_3 ((joinL cl to).length) c2_3) 3 (joinL cl to), rowT tyB (.slice a2_2 o2_1.length c2_2) 4 o2_1]) (l := [0, 1, 2, 6, 4]) rfl rfl) rfl), (by first | assumption | omega | simp), (by first | exact hC.join hto hI (by omega) | exact hC.skip (fun h9 => by have h8 := hrs.2 h9; rw [h8] at c149; exact absurd c149 (by decide))), rfl⟩
    · skip
      refine W.exit (X.then_exit (X.then_exit (X.block_exit (X.then_code ?_))))
      refine W.seq ?_
      obtain ⟨hc1, hc2⟩ := hC.fin hrt hbk (by omega)
      have hhd := heads_of (symF_q d)
      rw [← hc1, ← hc2] at hhd
      refine W.region ?_
      refine WL.op rfl (d_loadAB [.slice dca d.cls.length dcc, .int .i64 d.width, .int .i64 d.start, .slice dna d.next.length dnc, .slice dba d.acc.length dbc] Try.underlying25 rfl sz25 rfl (H10.blk 0 rfl) rfl rfl ?_)
      refine WL.op rfl (d_move rfl ?_)
      refine WL.op rfl (d_move rfl ?_)
      refine WL.op rfl (d_move rfl ?_)
      refine WL.op rfl (d_call ok85 rfl (Ret.calls (miniNumber_any d dca dna dba dcc dnc dbc a2_1 (blocksL d) c2_1 cla cl clc cw w7 (rcd.at H10) (rnd.at H10) (rbd.at H10) (H10.rdT 2 rfl) (H10.rdT 3 rfl) hrt hbk hbl hhd.1 hhd.2) fun _ w12 p4 => ?_))
      obtain ⟨na_1, nc_1, ba_1, bc_1, rfl, u10⟩ := p4
      have H15 : UpG w [] w12 [[blk w.heap.size #[.slice dca d.cls.length dcc, .int .i64 d.width, .int .i64 d.start, .slice dna d.next.length dnc, .slice dba d.acc.length dbc] 25], [blk w1.heap.size #[.slice none 0 0, .int .i64 0, .int .i64 0, .slice none 0 0, .slice none 0 0] 25], [rowT (tyI .i64) (.slice a2_1 ((blocksL d).length) c2_1) 3 (blocksL d)], [rowT (tyI .i64) (.slice cla cl.length clc) 3 cl], [rowT tyB (.slice a2_2 o2_1.length c2_2) 4 o2_1], [rowT (tyI .i64) (.slice na_1 (((numLoop d (blocksL d) (firstsI cl cw) 4097 0 ([d.start], [])).2).length) nc_1) 3 ((numLoop d (blocksL d) (firstsI cl cw) 4097 0 ([d.start], [])).2)], [rowT tyB (.slice ba_1 (((numLoop d (blocksL d) (firstsI cl cw) 4097 0 ([d.start], [])).1.map (accF d)).length) bc_1) 4 ((numLoop d (blocksL d) (firstsI cl cw) 4097 0 ([d.start], [])).1.map (accF d))]] := (H10.new' u10).re rfl
      refine WL.op0 (d_storeAB (us := [.slice cla cl.length clc, .int .i64 cw, .int .i64 0, .slice na_1 (((numLoop d (blocksL d) (firstsI cl cw) 4097 0 ([d.start], [])).2).length) nc_1, .slice ba_1 (((numLoop d (blocksL d) (firstsI cl cw) 4097 0 ([d.start], [])).1.map (accF d)).length) bc_1]) (cs' := #[.slice cla cl.length clc, .int .i64 cw, .int .i64 0, .slice na_1 (((numLoop d (blocksL d) (firstsI cl cw) 4097 0 ([d.start], [])).2).length) nc_1, .slice ba_1 (((numLoop d (blocksL d) (firstsI cl cw) 4097 0 ([d.start], [])).1.map (accF d)).length) bc_1]) sz25 rfl rfl rfl rfl (H15.blk 1 rfl) rfl rfl fun w13 u11 => ?_)
      have H16 : UpG w [] w13 [[blk w.heap.size #[.slice dca d.cls.length dcc, .int .i64 d.width, .int .i64 d.start, .slice dna d.next.length dnc, .slice dba d.acc.length dbc] 25], [blk w1.heap.size #[.slice cla cl.length clc, .int .i64 cw, .int .i64 0, .slice na_1 (((numLoop d (blocksL d) (firstsI cl cw) 4097 0 ([d.start], [])).2).length) nc_1, .slice ba_1 (((numLoop d (blocksL d) (firstsI cl cw) 4097 0 ([d.start], [])).1.map (accF d)).length) bc_1] 25], [rowT (tyI .i64) (.slice a2_1 ((blocksL d).length) c2_1) 3 (blocksL d)], [rowT (tyI .i64) (.slice cla cl.length clc) 3 cl], [rowT tyB (.slice a2_2 o2_1.length c2_2) 4 o2_1], [rowT (tyI .i64) (.slice na_1 (((numLoop d (blocksL d) (firstsI cl cw) 4097 0 ([d.start], [])).2).length) nc_1) 3 ((numLoop d (blocksL d) (firstsI cl cw) 4097 0 ([d.start], [])).2)], [rowT tyB (.slice ba_1 (((numLoop d (blocksL d) (firstsI cl cw) 4097 0 ([d.start], [])).1.map (accF d)).length) bc_1) 4 ((numLoop d (blocksL d) (firstsI cl cw) 4097 0 ([d.start], [])).1.map (accF d))]] := H15.on 1 rfl u11
      refine WL.op rfl (d_assign rfl ?_)
      refine WL.done (X.then_code ?_)
      refine W.ret (X.retR2 rfl (rv_cellA [.slice cla cl.length clc, .int .i64 cw, .int .i64 0, .slice na_1 (((numLoop d (blocksL d) (firstsI cl cw) 4097 0 ([d.start], [])).2).length) nc_1, .slice ba_1 (((numLoop d (blocksL d) (firstsI cl cw) 4097 0 ([d.start], [])).1.map (accF d)).length) bc_1] Try.underlying25 rfl sz25 rfl (H16.blk 1 rfl) rfl rfl) (rv_tmp rfl) ?_)
      obtain ⟨e1, e2⟩ := leastO_right hrt
      rw [e1, e2]
      rw [hbL, hc1, hc2] at *
      exact ⟨cla, clc, na_1, nc_1, ba_1, bc_1, (by rfl), (Upd.sel H16 (l := [3, 5, 6]) rfl rfl)⟩
end Go.Proofs.Ytoeockpkkmgieaa


/- The walks of functions, printed by wip/tools/gw.py. -/
namespace Go.Proofs.Ytoeockpkkmgieaa
open Go Go.Sx
set_option linter.unusedVariables false
set_option linter.unusedSimpArgs false
set_option maxRecDepth 20000 in
theorem sameM_any (a : DfaD) (aca : Option Addr) (ana : Option Addr) (aba : Option Addr) (acc : Nat) (anc : Nat) (abc : Nat) (b : DfaD) (bca : Option Addr) (bna : Option Addr) (bba : Option Addr) (bcc : Nat) (bnc : Nat) (bbc : Nat) (w : World) (rca : RdT (tyI .i64) w (.slice aca a.cls.length acc) a.cls) (rna : RdT (tyI .i64) w (.slice ana a.next.length anc) a.next) (rba : RdT tyB w (.slice aba a.acc.length abc) a.acc) (rcb : RdT (tyI .i64) w (.slice bca b.cls.length bcc) b.cls) (rnb : RdT (tyI .i64) w (.slice bna b.next.length bnc) b.next) (rbb : RdT tyB w (.slice bba b.acc.length bbc) b.acc) :
    Calls Try.prog 40 #[.agg #[.slice aca a.cls.length acc, .int .i64 a.width, .int .i64 a.start, .slice ana a.next.length anc, .slice aba a.acc.length abc], .agg #[.slice bca b.cls.length bcc, .int .i64 b.width, .int .i64 b.start, .slice bna b.next.length bnc, .slice bba b.acc.length bbc]] w (Ret fun v w' => v = .bool (sameD a b) ∧ Upd w [] w' []) := by
  have le_rca := rca.le
  have le_rna := rna.le
  have le_rba := rba.le
  have le_rcb := rcb.le
  have le_rnb := rnb.le
  have le_rbb := rbb.le
  refine calls_of_W (args := [.agg #[.slice aca a.cls.length acc, .int .i64 a.width, .int .i64 a.start, .slice ana a.next.length anc, .slice aba a.acc.length abc], .agg #[.slice bca b.cls.length bcc, .int .i64 b.width, .int .i64 b.start, .slice bna b.next.length bnc, .slice bba b.acc.length bbc]]) Try.func40 rfl rfl rfl ?_
  have H0 : UpG w [] w [] := UpG.nil w
  show W _ _ _ _ [(0, .agg #[.slice aca a.cls.length acc, .int .i64 a.width, .int .i64 a.start, .slice ana a.next.length anc, .slice aba a.acc.length abc]), (1, .agg #[.slice bca b.cls.length bcc, .int .i64 b.width, .int .i64 b.start, .slice bna b.next.length bnc, .slice bba b.acc.length bbc])] w
  refine W.seq ?_
  refine W.region ?_
  refine WL.op rfl (d_box rfl fun w1 u1 => ?_)
  have H1 : UpG w [] w1 [[blk w.heap.size #[.slice aca a.cls.length acc, .int .i64 a.width, .int .i64 a.start, .slice ana a.next.length anc, .slice aba a.acc.length abc] 25]] := H0.new' u1
  refine WL.op rfl (d_box rfl fun w2 u2 => ?_)
  have H2 : UpG w [] w2 [[blk w.heap.size #[.slice aca a.cls.length acc, .int .i64 a.width, .int .i64 a.start, .slice ana a.next.length anc, .slice aba a.acc.length abc] 25], [blk w1.heap.size #[.slice bca b.cls.length bcc, .int .i64 b.width, .int .i64 b.start, .slice bna b.next.length bnc, .slice bba b.acc.length bbc] 25]] := H1.new' u2
  refine WL.op rfl (d_assign rfl ?_)
  refine WL.done (X.then_code ?_)
  refine W.seq ?_
  refine W.region ?_
  refine WL.op rfl (d_fieldAddrB fld25_1 rfl rfl ?_)
  refine WL.op rfl (d_loadB Try.underlying3 rfl rfl (H2.blk 0 rfl) rfl ?_)
  refine WL.op rfl (d_fieldAddrB fld25_1 rfl rfl ?_)
  refine WL.op rfl (d_loadB Try.underlying3 rfl rfl (H2.blk 1 rfl) rfl ?_)
  refine WL.op rfl (d_cmp (decide (a.width = b.width)) rfl rfl rfl ?_)
  refine WL.op rfl (d_move rfl ?_)
  refine WL.part 10 (p := a.width = b.width) rfl (fun g142 => ?_) (fun g142 => ?_)
  · skip
    refine WL.opG rfl rfl rfl (d_fieldAddrB fld25_2 rfl rfl ?_)
    refine WL.opG rfl rfl rfl (d_loadB Try.underlying3 rfl rfl (H2.blk 0 rfl) rfl ?_)
    refine WL.opG rfl rfl rfl (d_fieldAddrB fld25_2 rfl rfl ?_)
    refine WL.opG rfl rfl rfl (d_loadB Try.underlying3 rfl rfl (H2.blk 1 rfl) rfl ?_)
    refine WL.opG rfl rfl rfl (d_cmp (decide (a.start = b.start)) rfl rfl rfl ?_)
    refine WL.op rfl (d_pick rfl rfl ?_)
    refine WL.op rfl (d_move rfl ?_)
    refine WL.part 17 (p := a.start = b.start) rfl (fun g142x => ?_) (fun g142x => ?_)
    · skip
      refine WL.opG rfl rfl rfl (d_fieldAddrB fld25_0 rfl rfl ?_)
      refine WL.opG rfl rfl rfl (d_loadB Try.underlying22 rfl rfl (H2.blk 0 rfl) rfl ?_)
      refine WL.opG rfl rfl rfl (d_fieldAddrB fld25_0 rfl rfl ?_)
      refine WL.opG rfl rfl rfl (d_loadB Try.underlying22 rfl rfl (H2.blk 1 rfl) rfl ?_)
      refine WL.opG rfl rfl rfl (d_call ok72 rfl (Ret.calls (equalI_any aca a.cls acc a.cls.length bca b.cls bcc b.cls.length w2 (rca.at H2) (rcb.at H2) ) fun _ w3 p1 => ?_))
      obtain ⟨rfl, u3⟩ := p1
      have H3 : UpG w [] w3 [[blk w.heap.size #[.slice aca a.cls.length acc, .int .i64 a.width, .int .i64 a.start, .slice ana a.next.length anc, .slice aba a.acc.length abc] 25], [blk w1.heap.size #[.slice bca b.cls.length bcc, .int .i64 b.width, .int .i64 b.start, .slice bna b.next.length bnc, .slice bba b.acc.length bbc] 25]] := H2.call u3
      refine WL.op rfl (d_pick rfl rfl ?_)
      refine WL.op rfl (d_move rfl ?_)
      refine WL.part 24 (p := a.cls = b.cls) rfl (fun g142xx => ?_) (fun g142xx => ?_)
      · skip
        refine WL.opG rfl rfl rfl (d_fieldAddrB fld25_3 rfl rfl ?_)
        refine WL.opG rfl rfl rfl (d_loadB Try.underlying22 rfl rfl (H3.blk 0 rfl) rfl ?_)
        refine WL.opG rfl rfl rfl (d_fieldAddrB fld25_3 rfl rfl ?_)
        refine WL.opG rfl rfl rfl (d_loadB Try.underlying22 rfl rfl (H3.blk 1 rfl) rfl ?_)
        refine WL.opG rfl rfl rfl (d_call ok72 rfl (Ret.calls (equalI_any ana a.next anc a.next.length bna b.next bnc b.next.length w3 (rna.at H3) (rnb.at H3) ) fun _ w4 p2 => ?_))
        obtain ⟨rfl, u4⟩ := p2
        have H4 : UpG w [] w4 [[blk w.heap.size #[.slice aca a.cls.length acc, .int .i64 a.width, .int .i64 a.start, .slice ana a.next.length anc, .slice aba a.acc.length abc] 25], [blk w1.heap.size #[.slice bca b.cls.length bcc, .int .i64 b.width, .int .i64 b.start, .slice bna b.next.length bnc, .slice bba b.acc.length bbc] 25]] := H3.call u4
        refine WL.op rfl (d_pick rfl rfl ?_)
        refine WL.op rfl (d_move rfl ?_)
        refine WL.part 31 (p := a.next = b.next) rfl (fun g142xxx => ?_) (fun g142xxx => ?_)
        · skip
          refine WL.opG rfl rfl rfl (d_fieldAddrB fld25_4 rfl rfl ?_)
          refine WL.opG rfl rfl rfl (d_loadB Try.underlying23 rfl rfl (H4.blk 0 rfl) rfl ?_)
          refine WL.opG rfl rfl rfl (d_fieldAddrB fld25_4 rfl rfl ?_)
          refine WL.opG rfl rfl rfl (d_loadB Try.underlying23 rfl rfl (H4.blk 1 rfl) rfl ?_)
          refine WL.opG rfl rfl rfl (d_call ok75 rfl (Ret.calls (equalB_any aba a.acc abc a.acc.length bba b.acc bbc b.acc.length w4 (rba.at H4) (rbb.at H4) ) fun _ w5 p3 => ?_))
          obtain ⟨rfl, u5⟩ := p3
          have H5 : UpG w [] w5 [[blk w.heap.size #[.slice aca a.cls.length acc, .int .i64 a.width, .int .i64 a.start, .slice ana a.next.length anc, .slice aba a.acc.length abc] 25], [blk w1.heap.size #[.slice bca b.cls.length bcc, .int .i64 b.width, .int .i64 b.start, .slice bna b.next.length bnc, .slice bba b.acc.length bbc] 25]] := H4.call u5
          refine WL.op rfl (d_pick rfl rfl ?_)
          refine WL.op rfl (d_assign rfl ?_)
          refine WL.done (X.then_code ?_)
          refine W.pick [4] (Γ' := [(4, .bool (decide (a.acc = b.acc)))]) rfl ?_
          refine W.ret (X.ret1 rfl rfl ?_)
          exact ⟨(by simp_all [sameD]), H5.noneL⟩
        · skip
          refine WL.opN rfl rfl rfl rfl ?_
          refine WL.opN rfl rfl rfl rfl ?_
          refine WL.opN rfl rfl rfl rfl ?_
          refine WL.opN rfl rfl rfl rfl ?_
          refine WL.opN rfl rfl rfl rfl ?_
          refine WL.op rfl (d_pick rfl rfl ?_)
          refine WL.op rfl (d_assign rfl ?_)
          refine WL.done (X.then_code ?_)
          refine W.pick [4] (Γ' := [(4, .bool false)]) rfl ?_
          refine W.ret (X.ret1 rfl rfl ?_)
          exact ⟨(by simp_all [sameD]), H4.noneL⟩
      · skip
        refine WL.opN rfl rfl rfl rfl ?_
        refine WL.opN rfl rfl rfl rfl ?_
        refine WL.opN rfl rfl rfl rfl ?_
        refine WL.opN rfl rfl rfl rfl ?_
        refine WL.opN rfl rfl rfl rfl ?_
        refine WL.op rfl (d_pick rfl rfl ?_)
        refine WL.op rfl (d_move rfl ?_)
        refine WL.opN rfl rfl rfl rfl ?_
        refine WL.opN rfl rfl rfl rfl ?_
        refine WL.opN rfl rfl rfl rfl ?_
        refine WL.opN rfl rfl rfl rfl ?_
        refine WL.opN rfl rfl rfl rfl ?_
        refine WL.op rfl (d_pick rfl rfl ?_)
        refine WL.op rfl (d_assign rfl ?_)
        refine WL.done (X.then_code ?_)
        refine W.pick [4] (Γ' := [(4, .bool false)]) rfl ?_
        refine W.ret (X.ret1 rfl rfl ?_)
        exact ⟨(by simp_all [sameD]), H3.noneL⟩
    · skip
      refine WL.opN rfl rfl rfl rfl ?_
      refine WL.opN rfl rfl rfl rfl ?_
      refine WL.opN rfl rfl rfl rfl ?_
      refine WL.opN rfl rfl rfl rfl ?_
      refine WL.opN rfl rfl rfl rfl ?_
      refine WL.op rfl (d_pick rfl rfl ?_)
      refine WL.op rfl (d_move rfl ?_)
      refine WL.opN rfl rfl rfl rfl ?_
      refine WL.opN rfl rfl rfl rfl ?_
      refine WL.opN rfl rfl rfl rfl ?_
      refine WL.opN rfl rfl rfl rfl ?_
      refine WL.opN rfl rfl rfl rfl ?_
      refine WL.op rfl (d_pick rfl rfl ?_)
      refine WL.op rfl (d_move rfl ?_)
      refine WL.opN rfl rfl rfl rfl ?_
      refine WL.opN rfl rfl rfl rfl ?_
      refine WL.opN rfl rfl rfl rfl ?_
      refine WL.opN rfl rfl rfl rfl ?_
      refine WL.opN rfl rfl rfl rfl ?_
      refine WL.op rfl (d_pick rfl rfl ?_)
      refine WL.op rfl (d_assign rfl ?_)
      refine WL.done (X.then_code ?_)
      refine W.pick [4] (Γ' := [(4, .bool false)]) rfl ?_
      refine W.ret (X.ret1 rfl rfl ?_)
      exact ⟨(by simp_all [sameD]), H2.noneL⟩
  · skip
    refine WL.opN rfl rfl rfl rfl ?_
    refine WL.opN rfl rfl rfl rfl ?_
    refine WL.opN rfl rfl rfl rfl ?_
    refine WL.opN rfl rfl rfl rfl ?_
    refine WL.opN rfl rfl rfl rfl ?_
    refine WL.op rfl (d_pick rfl rfl ?_)
    refine WL.op rfl (d_move rfl ?_)
    refine WL.opN rfl rfl rfl rfl ?_
    refine WL.opN rfl rfl rfl rfl ?_
    refine WL.opN rfl rfl rfl rfl ?_
    refine WL.opN rfl rfl rfl rfl ?_
    refine WL.opN rfl rfl rfl rfl ?_
    refine WL.op rfl (d_pick rfl rfl ?_)
    refine WL.op rfl (d_move rfl ?_)
    refine WL.opN rfl rfl rfl rfl ?_
    refine WL.opN rfl rfl rfl rfl ?_
    refine WL.opN rfl rfl rfl rfl ?_
    refine WL.opN rfl rfl rfl rfl ?_
    refine WL.opN rfl rfl rfl rfl ?_
    refine WL.op rfl (d_pick rfl rfl ?_)
    refine WL.op rfl (d_move rfl ?_)
    refine WL.opN rfl rfl rfl rfl ?_
    refine WL.opN rfl rfl rfl rfl ?_
    refine WL.opN rfl rfl rfl rfl ?_
    refine WL.opN rfl rfl rfl rfl ?_
    refine WL.opN rfl rfl rfl rfl ?_
    refine WL.op rfl (d_pick rfl rfl ?_)
    refine WL.op rfl (d_assign rfl ?_)
    refine WL.done (X.then_code ?_)
    refine W.pick [4] (Γ' := [(4, .bool false)]) rfl ?_
    refine W.ret (X.ret1 rfl rfl ?_)
    exact ⟨(by simp_all [sameD]), H2.noneL⟩

end Go.Proofs.Ytoeockpkkmgieaa


/- Proved here: when an automaton accepts nothing, as the program says it; the law's own two small automata. Conditions: those of each theorem. -/
namespace Go.Proofs.Ytoeockpkkmgieaa
open Go Go.Sx
set_option linter.unusedVariables false
def someB (d : DfaD) : Prop := ∃ f : Nat, f < d.acc.length ∧ d.acc.getD f false = true ∧ To d d.start f
noncomputable def emptyB (d : DfaD) : Bool := if rightB d = true then @decide (¬ someB d) (Classical.propDecidable _) else false
def emptyE (d : DfaD) : Int := if rightB d = true then 0 else 3
theorem empty_of {d : DfaD} {o : List Bool} (hr : rightB d = true) (h : LiveP d o) : (!(o.getD d.start.toNat false)) = emptyB d := by
  have hs := (rightB_iff.1 hr).1.2.2.2.2.2.2
  have h2 := (h.2 hr).2 d.start.toNat (by omega)
  rw [Int.toNat_of_nonneg hs.1] at h2
  rw [emptyB, if_pos hr]
  by_cases e : o.getD d.start.toNat false = true
  · rw [e]
    exact (@decide_eq_false _ (Classical.propDecidable _) (fun hn => hn (h2.1 e))).symm
  · rw [Bool.eq_false_iff.2 e]
    exact (@decide_eq_true _ (Classical.propDecidable _) (fun hn => e (h2.2 hn))).symm
theorem apartE_ok {a b : DfaD} (h : ¬ apartE a b ≠ 0) : rightB a = true ∧ rightB b = true := by
  unfold apartE at h
  split at h
  · assumption
  · exact absurd (by decide : (3 : Int) ≠ 0) h
def flatD (is : Bool) : DfaD := ⟨List.replicate 259 0, 1, 0, [0], [is]⟩
theorem flat_apart : apartW (flatD true) (flatD false) = [] ∧ apartI (flatD true) (flatD false) = true ∧ apartE (flatD true) (flatD false) = 0 := by
  have h1 : rightB (flatD true) = true := by decide +kernel
  have h2 : rightB (flatD false) = true := by decide +kernel
  have h3 : apartO (flatD true) (flatD false) = some [] := by
    unfold apartO
    rw [apLoop, if_pos (by decide), if_pos (by decide)]
    rfl
  refine ⟨?_, ?_, ?_⟩
  · rw [apartW, if_pos ⟨h1, h2⟩, h3]; rfl
  · rw [apartI, if_pos ⟨h1, h2⟩, h3]; rfl
  · rw [apartE, if_pos ⟨h1, h2⟩]
theorem flat_empty : emptyB (flatD false) = true ∧ emptyE (flatD false) = 0 := by
  have h2 : rightB (flatD false) = true := by decide +kernel
  constructor
  · rw [emptyB, if_pos h2]
    refine @decide_eq_true _ (Classical.propDecidable _) ?_
    rintro ⟨f, hf, ha, _⟩
    have : f = 0 := by have h3 : f < 1 := hf
                       omega
    subst this
    exact absurd ha (by decide)
  · rw [emptyE, if_pos h2]
end Go.Proofs.Ytoeockpkkmgieaa


/- Proved here: where the search finds nothing, two automata accept the same; two automata are told apart just if their least ones part. Conditions: those of each theorem. -/
namespace Go.Proofs.Ytoeockpkkmgieaa
open Go Go.Sx
set_option linter.unusedVariables false
set_option linter.unusedSimpArgs false
theorem foldAddS_mem {a b : DfaD} {s : St4} {at_ : Nat} {p : Int × Int} : ∀ (fs : List Int) {l : List St4}, p ∈ prs l → p ∈ prs (fs.foldl (addS a b s at_) l)
  | [], _, h => h
  | c :: fs, l, h => foldAddS_mem fs (putS_keep h)
theorem apLoop_none {a b : DfaD} (ha : rightB a = true) (hb : rightB b = true) : ∀ (f at_ : Nat) (l : List St4), StI a b l at_ → (∀ i, i < at_ → i < l.length → ∀ k : Nat, k < 259 → nxP a b (l.getD i st0) (k : Int) ∈ prs l) → at_ ≤ l.length → a.acc.length * b.acc.length < f + at_ → apLoop a b (symsN 259) f at_ l = none →
    ∃ l', StI a b l' l'.length ∧ (∀ i, i < l'.length → ∀ k : Nat, k < 259 → nxP a b (l'.getD i st0) (k : Int) ∈ prs l') ∧ (∀ p, p ∈ prs l → p ∈ prs l')
  | 0, at_, l, hI, hc, h1, h2, _ => by have := hI.bound; omega
  | f + 1, at_, l, hI, hc, h1, h2, h => by
    rw [apLoop] at h
    split at h
    · rename_i hat
      split at h
      · cases h
      · rename_i hne
        have he := Classical.not_not.1 hne
        have hbd : ∀ c, c ∈ symsN 259 → 0 ≤ c ∧ c < 259 := fun c hc => by
          simp only [symsN, List.mem_map, List.mem_range] at hc
          obtain ⟨i, hi, rfl⟩ := hc; omega
        have hI2 := hI.fold ha hb (symsN 259) hat rfl hbd
        obtain ⟨r, hr, _⟩ := foldAddS_pre a b (l.getD at_ st0) at_ (symsN 259) l
        have hg : ∀ i, i < l.length → ((symsN 259).foldl (addS a b (l.getD at_ st0) at_) l).getD i st0 = l.getD i st0 := fun i hi => by rw [hr, getD_preS hi]
        obtain ⟨l', h3, h4, h5⟩ := apLoop_none ha hb f (at_ + 1) _ (hI2.test (by rw [hg at_ hat]; exact he)) (fun i hi hil k hk => by
          by_cases e : i = at_
          · subst e
            rw [hg i hat]
            exact (fold_all (a := a) (b := b) (s := l.getD i st0) (at_ := i) (l := l) (fun _ => true) (fun n hn => by cases hn) 259).2 k hk
          · rw [hg i (by omega)]
            exact foldAddS_mem _ (hc i (by omega) (by omega) k hk)) (by rw [hr, List.length_append]; omega) (by omega) h
        exact ⟨l', h3, h4, fun p hp => h5 p (foldAddS_mem _ hp)⟩
    · rename_i hat
      have : at_ = l.length := by omega
      subst this
      exact ⟨l, hI, fun i hi k hk => hc i hi hi k hk, fun p hp => hp⟩
theorem apart_none {a b : DfaD} (ha : rightB a = true) (hb : rightB b = true) (h : apartO a b = none) : LEq a a.start b b.start := by
  unfold apartO at h
  rw [← apLoop_all ha hb] at h
  obtain ⟨l, hI, hc, hp⟩ := apLoop_none ha hb _ 0 (startS a b) (StI.start ha hb) (fun i hi => by omega) (by simp) (by omega) h
  have key : ∀ (w : List Int) (p : Int × Int), p ∈ prs l → okW w → accAt a p.1 w = accAt b p.2 w := by
    intro w
    induction w with
    | nil =>
      intro p hp _
      obtain ⟨s, hs, rfl⟩ := List.mem_map.1 hp
      obtain ⟨i, hi, rfl⟩ := List.mem_iff_getElem.1 hs
      have h1 := hI.old i hi hi
      simp only [List.getD_eq_getElem?_getD, List.getElem?_eq_getElem hi, Option.getD_some] at h1
      show a.acc.getD (l[i].p).toNat false = b.acc.getD (l[i].q).toNat false
      simp only [List.getD_eq_getElem?_getD]; exact h1
    | cons c w ih =>
      intro p hp hw
      obtain ⟨hcs, hw⟩ := hw.tail
      obtain ⟨s, hs, rfl⟩ := List.mem_map.1 hp
      obtain ⟨i, hi, rfl⟩ := List.mem_iff_getElem.1 hs
      have h1 := hc i hi c.toNat (by omega)
      rw [Int.toNat_of_nonneg hcs.1] at h1
      have e : l.getD i st0 = l[i] := by simp [List.getD_eq_getElem?_getD, List.getElem?_eq_getElem hi]
      rw [e] at h1
      exact ih _ h1 hw
  intro w hw
  exact key w (a.start, b.start) (hp _ (by simp [startS, prs, St4.pr])) hw
theorem apart_least {a b : DfaD} (ha : rightB a = true) (hb : rightB b = true) : apartI a b = !sameD (leastD a) (leastD b) := by
  have h1 := apart_tells ha hb (firstsAB_bd ha hb)
  have e2 : apartI a b = (apartO a b).isSome := by rw [apartI, if_pos ⟨ha, hb⟩]
  by_cases hL : LEq a a.start b b.start
  · have h2 : sameD (leastD a) (leastD b) = true := sameD_iff.2 (leastD_congr ha hb hL)
    rw [h1.2, h2, leq_accepts ha hb hL]; simp
  · have h2 : sameD (leastD a) (leastD b) = false := Bool.eq_false_iff.2 fun h9 => hL ((leastD_iff ha hb).1 (sameD_iff.1 h9))
    rw [h2, e2]
    cases ho : apartO a b with
    | none => exact absurd (apart_none ha hb ho) hL
    | some w => rfl
theorem apart_not {a b : DfaD} (ha : rightB a = true) (hb : rightB b = true) (h : ¬ apartI a b = true) (w : List Int) : acceptsB a w = acceptsB b w := by
  refine leq_accepts ha hb ?_ w
  rw [apart_least ha hb] at h
  have h2 : sameD (leastD a) (leastD b) = true := by simpa using h
  exact (leastD_iff ha hb).1 (sameD_iff.1 h2)
end Go.Proofs.Ytoeockpkkmgieaa


/- Proved here: what slices.Reverse of whole numbers does to a row of one's own; conditions: those of the theorem. -/
namespace Go.Proofs.Ytoeockpkkmgieaa
open Go Go.Sx
set_option linter.unusedVariables false
set_option linter.unusedSimpArgs false
theorem reverse_any (a : Option Addr) (xs : List Int) (c : Nat) (n : Nat) (w : World) (hp : Hp w [rowT (tyI .i64) (.slice a n c) 3 xs]) (hn : n = xs.length) (hsz : xs.length ≤ 1000000000) :
    Calls Try.prog 95 #[.slice a n c] w (Ret fun v w' => v = .tuple #[] ∧ Upd w [rowT (tyI .i64) (.slice a n c) 3 xs] w' [rowT (tyI .i64) (.slice a n c) 3 xs.reverse]) := by
  subst hn
  have ho := row_own (hp.holds _ (List.mem_singleton.2 rfl))
  cases a with
  | none =>
    have h0 : xs = [] := by
      rcases ho.2 with ⟨_, h⟩ | ⟨g, cap, cur, h, _⟩
      · exact List.length_eq_zero_iff.1 h
      · cases h
    subst h0
    refine (Try.slices_Reverse_int_empty none c w).mono ?_
    rintro e w' ⟨rfl, rfl⟩
    exact ⟨_, rfl, rfl, Upd.refl hp⟩
  | some ad =>
    obtain ⟨g, hg⟩ : ∃ g, ad = ⟨g, 0, none⟩ := by
      rcases ho.2 with ⟨h, _⟩ | ⟨g, cap, cur, h, _⟩
      · cases h
      · cases h; exact ⟨g, rfl⟩
    subst hg
    obtain ⟨hh, hlt⟩ := holds_own ho
    refine (Try.slices_Reverse_int g 0 c xs w hh (by omega)).mono ?_
    rintro e w' ⟨rfl, q, rfl⟩
    have hu := upd_put (q := q) (os := #[]) (ys := xs.reverse) ho (by simp)
    rw [Go.Sort.grow_empty] at hu
    exact ⟨_, rfl, rfl, hu⟩
end Go.Proofs.Ytoeockpkkmgieaa


/- The walks of functions, printed by wip/tools/gw.py. -/
namespace Go.Proofs.Ytoeockpkkmgieaa
open Go Go.Sx
set_option linter.unusedVariables false
set_option linter.unusedSimpArgs false
set_option maxRecDepth 20000 in
theorem live1_any (s : Int) (fg : Nat) (fa : Option Addr) (ps : List (LR Int)) (fc : Nat) (fn : Nat) (w : World) (rps : RdT tyLR w (.slice fa fn fc) ps) (bfg : w.heap[fg]? = some (.cells #[.slice fa fn fc] 77 (0, 0))) (hs : 0 ≤ s ∧ s < (ps.length : Int)) :
    Calls Try.prog 59 #[.int .i64 s, .pointer (some ⟨fg, 0, none⟩)] w (Ret fun v w' => v = .slice ((ps.getD s.toNat lr0).a) ((ps.getD s.toNat lr0).n) ((ps.getD s.toNat lr0).c) ∧ Upd w [] w' []) := by
  have le_rps := rps.le
  refine calls_of_W (args := [.int .i64 s, .pointer (some ⟨fg, 0, none⟩)]) Try.func59 rfl rfl rfl ?_
  have H0 : UpG w [] w [] := UpG.nil w
  show W _ _ _ _ [(0, .int .i64 s), (1, .pointer (some ⟨fg, 0, none⟩))] w
  refine W.seq ?_
  refine W.region ?_
  refine WL.op rfl (d_assign rfl ?_)
  refine WL.done (X.then_code ?_)
  refine W.seq ?_
  refine W.region ?_
  refine WL.op rfl (d_loadB Try.underlying77 rfl rfl (H0.keep0.obj bfg (by simp)) rfl ?_)
  refine WL.op rfl (d_move rfl ?_)
  refine WL.op rfl (t_addr1 s.toNat (T := tyLR) rfl Try.underlying77 sz22 rfl rfl (rps.at H0) (by omega) (by omega) ?_)
  refine WL.op rfl (t_load1 s.toNat lr0 (T := tyLR) rfl Try.underlying22 rfl rfl (rps.at H0) (by omega) rfl ?_)
  refine WL.op rfl (d_assign rfl ?_)
  refine WL.done (X.then_code ?_)
  refine W.ret (X.ret1 rfl rfl ?_)
  exact ⟨rfl, H0.noneL⟩
end Go.Proofs.Ytoeockpkkmgieaa

