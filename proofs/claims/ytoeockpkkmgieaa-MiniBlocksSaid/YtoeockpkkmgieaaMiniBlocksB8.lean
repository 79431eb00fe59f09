/- The walks of functions, printed by wip/tools/gw.py. -/
import Derived.Test.YtoeockpkkmgieaaMiniBlocksB1
import Derived.Test.YtoeockpkkmgieaaMiniBlocksB3
import Derived.Test.YtoeockpkkmgieaaMiniBlocksB7
import Derived.Test.YtoeockpkkmgieaaMiniBlocksB2
import Derived.Test.YtoeockpkkmgieaaMiniBlocksB6
import Derived.Test.YtoeockpkkmgieaaMiniBlocksB5
namespace Go.Proofs.Ytoeockpkkmgieaa
open Go Go.Sx
set_option linter.unusedVariables false
set_option linter.unusedSimpArgs false
set_option maxRecDepth 20000 in
theorem refOf_any (d : DfaD) (dca : Option Addr) (dna : Option Addr) (dba : Option Addr) (dcc : Nat) (dnc : Nat) (dbc : Nat) (w : World) (rcd : RdT (tyI .i64) w (.slice dca d.cls.length dcc) d.cls) (rnd : RdT (tyI .i64) w (.slice dna d.next.length dnc) d.next) (rbd : RdT tyB w (.slice dba d.acc.length dbc) d.acc) (hrt : rightB d = true) :
    Calls Try.prog 54 #[.agg #[.slice dca d.cls.length dcc, .int .i64 d.width, .int .i64 d.start, .slice dna d.next.length dnc, .slice dba d.acc.length dbc]] w (Ret fun v w' => ∃ ca : Option Addr, ∃ cc : Nat, ∃ na : Option Addr, ∃ nc : Nat, ∃ ba : Option Addr, ∃ bc : Nat, v = .agg #[.slice ca (((leastD d).cls).length) cc, .int .i64 ((leastD d).width), .int .i64 ((leastD d).start), .slice na (((leastD d).next).length) nc, .slice ba (((leastD d).acc).length) bc] ∧ Upd w [] w' [rowT (tyI .i64) (.slice ca (((leastD d).cls).length) cc) 3 ((leastD d).cls), rowT (tyI .i64) (.slice na (((leastD d).next).length) nc) 3 ((leastD d).next), rowT tyB (.slice ba (((leastD d).acc).length) bc) 4 ((leastD d).acc)]) := by
  have hri := rightB_iff.1 hrt
  have le_rcd := rcd.le
  have le_rnd := rnd.le
  have le_rbd := rbd.le
  refine calls_of_W (args := [.agg #[.slice dca d.cls.length dcc, .int .i64 d.width, .int .i64 d.start, .slice dna d.next.length dnc, .slice dba d.acc.length dbc]]) Try.func54 rfl rfl rfl ?_
  have H0 : UpG w [] w [] := UpG.nil w
  show W _ _ _ _ [(0, .agg #[.slice dca d.cls.length dcc, .int .i64 d.width, .int .i64 d.start, .slice dna d.next.length dnc, .slice dba d.acc.length dbc])] w
  refine W.seq ?_
  refine W.region ?_
  refine WL.op rfl (d_box rfl fun w1 u1 => ?_)
  have H1 : UpG w [] w1 [[blk w.heap.size #[.slice dca d.cls.length dcc, .int .i64 d.width, .int .i64 d.start, .slice dna d.next.length dnc, .slice dba d.acc.length dbc] 25]] := H0.new' u1
  refine WL.op rfl (d_alloc sz25 fun w2 u2 => ?_)
  have H2 : UpG w [] w2 [[blk w.heap.size #[.slice dca d.cls.length dcc, .int .i64 d.width, .int .i64 d.start, .slice dna d.next.length dnc, .slice dba d.acc.length dbc] 25], [blk w1.heap.size #[.slice none 0 0, .int .i64 0, .int .i64 0, .slice none 0 0, .slice none 0 0] 25]] := H1.new' u2
  refine WL.done (X.then_code ?_)
  refine W.seq ?_
  refine W.region ?_
  refine WL.op rfl (d_loadAB [.slice dca d.cls.length dcc, .int .i64 d.width, .int .i64 d.start, .slice dna d.next.length dnc, .slice dba d.acc.length dbc] Try.underlying25 rfl sz25 rfl (H2.blk 0 rfl) rfl rfl ?_)
  refine WL.op rfl (d_call ok53 rfl (Ret.calls (blocks13_any d dca dna dba dcc dnc dbc w2 (rcd.at H2) (rnd.at H2) (rbd.at H2) (by omega)) fun _ w3 p1 => ?_))
  obtain ⟨a2_1, bl_1, c2_1, bn_1, rfl, u3, q1⟩ := p1
  have H3 : UpG w [] w3 [[blk w.heap.size #[.slice dca d.cls.length dcc, .int .i64 d.width, .int .i64 d.start, .slice dna d.next.length dnc, .slice dba d.acc.length dbc] 25], [blk w1.heap.size #[.slice none 0 0, .int .i64 0, .int .i64 0, .slice none 0 0, .slice none 0 0] 25], [rowT (tyI .i64) (.slice a2_1 bl_1.length c2_1) 3 bl_1]] := (H2.new' u3).re rfl
  refine WL.op rfl (d_move rfl ?_)
  refine WL.op rfl (d_extract rfl rfl ?_)
  refine WL.op rfl (d_extract rfl rfl ?_)
  refine WL.op rfl (d_assign rfl ?_)
  refine WL.op rfl (d_assign rfl ?_)
  refine WL.done (X.then_code ?_)
  refine W.seq ?_
  obtain ⟨f9, hf9, hb9, _⟩ := q1
  have hbe : bl_1 = blkD d := by rw [hb9, hf9.eq hrt]; rfl
  have hbk : BlkK d bl_1 := by rw [hbe]; exact blkD_k d
  have hbl : bl_1.length = d.acc.length := by rw [hbe]; exact blkD_len d
  refine W.region ?_
  refine WL.op rfl (d_loadAB [.slice dca d.cls.length dcc, .int .i64 d.width, .int .i64 d.start, .slice dna d.next.length dnc, .slice dba d.acc.length dbc] Try.underlying25 rfl sz25 rfl (H3.blk 0 rfl) rfl rfl ?_)
  refine WL.op rfl (d_call ok21 rfl (Ret.calls (comes_any d dca dna dba dcc dnc dbc w3 (rcd.at H3) (rnd.at H3) (rbd.at H3) (by omega)) fun _ w4 p2 => ?_))
  obtain ⟨a2_2, Xs_1, n2_1, c2_2, rfl, u4, q2, q3⟩ := p2
  have H4 : UpG w [] w4 [[blk w.heap.size #[.slice dca d.cls.length dcc, .int .i64 d.width, .int .i64 d.start, .slice dna d.next.length dnc, .slice dba d.acc.length dbc] 25], [blk w1.heap.size #[.slice none 0 0, .int .i64 0, .int .i64 0, .slice none 0 0, .slice none 0 0] 25], [rowT (tyI .i64) (.slice a2_1 bl_1.length c2_1) 3 bl_1], [rowT tyLR (.slice a2_2 n2_1 c2_2) 23 Xs_1], [manyF (inLR tyB 4).row Xs_1]] := (H3.new' u4).re rfl
  refine WL.op rfl (d_assign rfl ?_)
  refine WL.done (X.then_code ?_)
  refine W.seq ?_
  refine W.region ?_
  refine WL.op rfl (d_assign rfl ?_)
  refine WL.done (X.then_code ?_)
  refine W.seq ?_
  refine W.seq ?_
  refine W.region ?_
  refine WL.op rfl (d_assign rfl ?_)
  refine WL.done (X.then_code ?_)
  refine W.block ?_
  have H5 : UpG w [] w4 [[blk w.heap.size #[.slice dca d.cls.length dcc, .int .i64 d.width, .int .i64 d.start, .slice dna d.next.length dnc, .slice dba d.acc.length dbc] 25], [blk w1.heap.size #[.slice none 0 0, .int .i64 0, .int .i64 0, .slice none 0 0, .slice none 0 0] 25], [rowT (tyI .i64) (.slice a2_1 bl_1.length c2_1) 3 bl_1], [rowT tyLR (.slice a2_2 n2_1 c2_2) 23 Xs_1], [manyF (inLR tyB 4).row Xs_1], [rowT (tyI .i64) (.slice none (([] : List Int).length) 0) 3 ([] : List Int)]] := H4.new' (Upd.nilRowT w4 (tyI .i64) 3)
  refine W.pick [7, 6, 5, 3, 2, 1] (Γ' := [(7, .int .i64 0), (6, .slice none (([] : List Int).length) 0), (5, .slice a2_2 n2_1 c2_2), (3, .slice a2_1 bl_1.length c2_1), (2, .pointer (some ⟨w1.heap.size, 0, none⟩)), (1, .pointer (some ⟨w.heap.size, 0, none⟩))]) rfl ?_
  refine W.loop (fun m Γ' w' => ∃ s : Nat, ∃ q : List Int, ∃ qa : Option Addr, ∃ qc : Nat, Γ' = [(7, .int .i64 ((s : Nat) : Int)), (6, .slice qa q.length qc), (5, .slice a2_2 n2_1 c2_2), (3, .slice a2_1 bl_1.length c2_1), (2, .pointer (some ⟨w1.heap.size, 0, none⟩)), (1, .pointer (some ⟨w.heap.size, 0, none⟩))] ∧ UpG w [] w' [[blk w.heap.size #[.slice dca d.cls.length dcc, .int .i64 d.width, .int .i64 d.start, .slice dna d.next.length dnc, .slice dba d.acc.length dbc] 25], [blk w1.heap.size #[.slice none 0 0, .int .i64 0, .int .i64 0, .slice none 0 0, .slice none 0 0] 25], [rowT (tyI .i64) (.slice a2_1 bl_1.length c2_1) 3 bl_1], [rowT tyLR (.slice a2_2 n2_1 c2_2) 23 Xs_1], [manyF (inLR tyB 4).row Xs_1], [rowT (tyI .i64) (.slice qa q.length qc) 3 q]] ∧ (s ≤ 259) ∧ (FrQ (SymR d) q s) ∧ m = 259 - s) (259 - 0) ⟨0, ([] : List Int), none, 0, rfl, H5, (by first | assumption | omega | simp), (by exact FrQ.start _), rfl⟩ ?_
  rintro m1 Γ1 w5 ⟨s, q, qa, qc, rfl, H6, hs, hq, rfl⟩
  have hql := hq.len
  refine W.seq ?_
  refine W.seq ?_
  refine W.region ?_
  refine WL.op rfl (d_move rfl ?_)
  refine WL.op rfl (d_cmp (decide (((s : Nat) : Int) < (259 : Int))) rfl rfl rfl ?_)
  refine WL.done (X.then_code ?_)
  refine W.ite (p := ((s : Nat) : Int) < (259 : Int)) rfl (fun c81 => ?_) (fun c81 => ?_)
  · skip
    refine W.skip (X.then_code ?_)
    refine W.seq ?_
    refine W.block ?_
    refine W.seq ?_
    refine W.region ?_
    refine WL.op rfl (d_move rfl ?_)
    refine WL.op rfl (d_assign rfl ?_)
    refine WL.done (X.then_code ?_)
    refine W.seq ?_
    refine W.seq ?_
    refine W.region ?_
    refine WL.op rfl (d_move rfl ?_)
    refine WL.op rfl (d_sub rfl rfl (by omega) (by omega) ?_)
    refine WL.op rfl (d_assign rfl ?_)
    refine WL.done (X.then_code ?_)
    refine W.block ?_
    refine W.pick [9, 8, 7, 6, 5, 3, 2, 1] (Γ' := [(9, .int .i64 (((s : Nat) : Int) - 1)), (8, .int .i64 ((s : Nat) : Int)), (7, .int .i64 ((s : Nat) : Int)), (6, .slice qa q.length qc), (5, .slice a2_2 n2_1 c2_2), (3, .slice a2_1 bl_1.length c2_1), (2, .pointer (some ⟨w1.heap.size, 0, none⟩)), (1, .pointer (some ⟨w.heap.size, 0, none⟩))]) rfl ?_
    refine W.loop (fun m Γ' w' => ∃ y : Int, ∃ aa : Int, Γ' = [(9, .int .i64 y), (8, .int .i64 aa), (7, .int .i64 ((s : Nat) : Int)), (6, .slice qa q.length qc), (5, .slice a2_2 n2_1 c2_2), (3, .slice a2_1 bl_1.length c2_1), (2, .pointer (some ⟨w1.heap.size, 0, none⟩)), (1, .pointer (some ⟨w.heap.size, 0, none⟩))] ∧ UpG w [] w' [[blk w.heap.size #[.slice dca d.cls.length dcc, .int .i64 d.width, .int .i64 d.start, .slice dna d.next.length dnc, .slice dba d.acc.length dbc] 25], [blk w1.heap.size #[.slice none 0 0, .int .i64 0, .int .i64 0, .slice none 0 0, .slice none 0 0] 25], [rowT (tyI .i64) (.slice a2_1 bl_1.length c2_1) 3 bl_1], [rowT tyLR (.slice a2_2 n2_1 c2_2) 23 Xs_1], [manyF (inLR tyB 4).row Xs_1], [rowT (tyI .i64) (.slice qa q.length qc) 3 q]] ∧ (-1 ≤ y ∧ y < ((s : Nat) : Int)) ∧ (FsP (SymR d) q s aa y) ∧ m = (y + 1).toNat) (((((s : Nat) : Int) - 1) + 1).toNat) ⟨((s : Nat) : Int) - 1, ((s : Nat) : Int), rfl, H6, (by omega), (by exact FsP.start (fun i s _ _ => LEq.refl d _) q s), rfl⟩ ?_
    rintro m2 Γ2 w6 ⟨y, aa, rfl, H7, hy, hat, rfl⟩
    refine W.seq ?_
    refine W.seq ?_
    refine W.region ?_
    refine WL.op rfl (d_move rfl ?_)
    refine WL.op rfl (d_cmp (decide (y ≥ (0 : Int))) rfl rfl rfl ?_)
    refine WL.done (X.then_code ?_)
    refine W.ite (p := y ≥ (0 : Int)) rfl (fun c83 => ?_) (fun c83 => ?_)
    · skip
      refine W.skip (X.then_code ?_)
      refine W.seq ?_
      refine W.block ?_
      refine W.seq ?_
      refine W.seq ?_
      refine W.region ?_
      refine WL.op rfl (d_move rfl ?_)
      refine WL.op rfl (d_move rfl ?_)
      refine WL.op rfl (t_addr1 y.toNat (T := (tyI .i64)) rfl Try.underlying22 sz3 rfl rfl (H7.rdT 5 rfl) (by omega) (by omega) ?_)
      refine WL.op rfl (t_load1 y.toNat 0 (T := (tyI .i64)) rfl Try.underlying3 rfl rfl (H7.rdT 5 rfl) (by omega) rfl ?_)
      refine WL.op rfl (d_move rfl ?_)
      refine WL.op rfl (d_cmp (decide ((q.getD y.toNat 0) ≠ y)) rfl rfl rfl ?_)
      refine WL.done (X.then_code ?_)
      refine W.ite (p := (q.getD y.toNat 0) ≠ y) rfl (fun c84 => ?_) (fun c84 => ?_)
      · skip
        refine W.exit (X.then_exit (X.block_exit (X.then_code ?_)))
        refine W.region ?_
        refine WL.op rfl (d_move rfl ?_)
        refine WL.op rfl (d_sub rfl rfl (by omega) (by omega) ?_)
        refine WL.op rfl (d_assign rfl ?_)
        refine WL.done ?_
        exact X.next [9, 8, 7, 6, 5, 3, 2, 1] (Γ' := [(9, .int .i64 (y - 1)), (8, .int .i64 aa), (7, .int .i64 ((s : Nat) : Int)), (6, .slice qa q.length qc), (5, .slice a2_2 n2_1 c2_2), (3, .slice a2_1 bl_1.length c2_1), (2, .pointer (some ⟨w1.heap.size, 0, none⟩)), (1, .pointer (some ⟨w.heap.size, 0, none⟩))]) rfl (((y - 1) + 1).toNat) (by omega) ⟨y - 1, aa, rfl, H7, (by omega), (by first | exact hat.hit (by omega) (hsm.1 c91) | exact hat.pass (by omega) (.inr (fun h9 => c91 (hsm.2 h9))) | exact hat.pass (by omega) (.inl c84)), rfl⟩
      · skip
        refine W.skip (X.then_code ?_)
        refine W.seq ?_
        refine W.region ?_
        refine WL.op rfl (d_assign rfl ?_)
        refine WL.done (X.then_code ?_)
        refine W.seq ?_
        refine W.seq ?_
        refine W.region ?_
        refine WL.op rfl (d_assign rfl ?_)
        refine WL.done (X.then_code ?_)
        refine W.block ?_
        refine W.pick [11, 10, 9, 8, 7, 6, 5, 3, 2, 1] (Γ' := [(11, .int .i64 0), (10, .bool true), (9, .int .i64 y), (8, .int .i64 aa), (7, .int .i64 ((s : Nat) : Int)), (6, .slice qa q.length qc), (5, .slice a2_2 n2_1 c2_2), (3, .slice a2_1 bl_1.length c2_1), (2, .pointer (some ⟨w1.heap.size, 0, none⟩)), (1, .pointer (some ⟨w.heap.size, 0, none⟩))]) rfl ?_
        refine W.loop (fun m Γ' w' => ∃ j : Nat, ∃ b : Bool, Γ' = [(11, .int .i64 ((j : Nat) : Int)), (10, .bool b), (9, .int .i64 y), (8, .int .i64 aa), (7, .int .i64 ((s : Nat) : Int)), (6, .slice qa q.length qc), (5, .slice a2_2 n2_1 c2_2), (3, .slice a2_1 bl_1.length c2_1), (2, .pointer (some ⟨w1.heap.size, 0, none⟩)), (1, .pointer (some ⟨w.heap.size, 0, none⟩))] ∧ UpG w [] w' [[blk w.heap.size #[.slice dca d.cls.length dcc, .int .i64 d.width, .int .i64 d.start, .slice dna d.next.length dnc, .slice dba d.acc.length dbc] 25], [blk w1.heap.size #[.slice none 0 0, .int .i64 0, .int .i64 0, .slice none 0 0, .slice none 0 0] 25], [rowT (tyI .i64) (.slice a2_1 bl_1.length c2_1) 3 bl_1], [rowT tyLR (.slice a2_2 n2_1 c2_2) 23 Xs_1], [manyF (inLR tyB 4).row Xs_1], [rowT (tyI .i64) (.slice qa q.length qc) 3 q]] ∧ (j ≤ bl_1.length) ∧ (SmP d bl_1 y.toNat s j b) ∧ m = bl_1.length - j) (bl_1.length - 0) ⟨0, true, rfl, H7, (by first | assumption | omega | simp), (by exact SmP.start d _ _ _), rfl⟩ ?_
        rintro m3 Γ3 w7 ⟨j, b, rfl, H8, hj, hb, rfl⟩
        refine W.seq ?_
        refine W.seq ?_
        refine W.region ?_
        refine WL.op rfl (d_move rfl ?_)
        refine WL.op rfl (d_move rfl ?_)
        refine WL.op rfl (d_lenS Try.underlying22 rfl ?_)
        refine WL.op rfl (d_cmp (decide (((j : Nat) : Int) < ((bl_1.length : Nat) : Int))) rfl rfl rfl ?_)
        refine WL.op rfl (d_move rfl ?_)
        refine WL.part 50 (p := ((j : Nat) : Int) < ((bl_1.length : Nat) : Int)) rfl (fun g88 => ?_) (fun g88 => ?_)
        · skip
          refine WL.opG rfl rfl rfl (d_move rfl ?_)
          refine WL.op rfl (d_pick rfl rfl ?_)
          refine WL.done (X.then_code ?_)
          refine W.iteB (b := b) rfl (fun c88 => ?_) (fun c88 => ?_)
          · skip
            refine W.skip (X.then_code ?_)
            refine W.seq ?_
            refine W.block ?_
            have hcr := q2.row d.start.toNat (by omega)
            have hcl := q2.len
            have hcv := q2.val d.start.toNat j (by omega) (by omega)
            rw [Int.toNat_of_nonneg hri.1.2.2.2.2.2.2.1] at hcv
            have hb9 : SmP d bl_1 y.toNat s j true := c88 ▸ hb
            have hp1 : blAt bl_1 (stepD d ((j : Nat) : Int) ((y.toNat : Nat) : Int)) = bl_1.getD (dN d j y) 0 := by rw [Int.toNat_of_nonneg (by omega), ← dN_int hrt (by omega) (by omega)]; unfold blAt; rw [Int.toNat_natCast]
            have hp2 : blAt bl_1 (stepD d ((j : Nat) : Int) ((s : Nat) : Int)) = bl_1.getD (dN d j ((s : Nat) : Int)) 0 := by rw [← dN_int hrt (by omega) (by omega)]; unfold blAt; rw [Int.toNat_natCast]
            have hdl1 := dN_lt hrt (i := j) (by omega) (c := y) (by omega)
            have hdl2 := dN_lt hrt (i := j) (by omega) (c := ((s : Nat) : Int)) (by omega)
            refine W.regionD mixed (by kernel_rfl) fun hok1 w8 k1 => ?_
            have H9 : UpG w [] w8 [[blk w.heap.size #[.slice dca d.cls.length dcc, .int .i64 d.width, .int .i64 d.start, .slice dna d.next.length dnc, .slice dba d.acc.length dbc] 25], [blk w1.heap.size #[.slice none 0 0, .int .i64 0, .int .i64 0, .slice none 0 0, .slice none 0 0] 25], [rowT (tyI .i64) (.slice a2_1 bl_1.length c2_1) 3 bl_1], [rowT tyLR (.slice a2_2 n2_1 c2_2) 23 Xs_1], [manyF (inLR tyB 4).row Xs_1], [rowT (tyI .i64) (.slice qa q.length qc) 3 q]] := H8.kept k1
            refine WD.take hok1 0 (.slice a2_2 n2_1 c2_2) (fun _ => True) rfl rfl rfl rfl rfl trivial (.inl ⟨rfl, fun _ _ => d_move rfl ⟨rfl, rfl⟩⟩) ?_
            refine WD.take hok1 1 (.pointer (some ⟨w.heap.size, 2, none⟩)) (fun _ => True) rfl rfl rfl rfl rfl trivial (.inl ⟨rfl, fun _ _ => d_fieldAddrB fld25_2 rfl rfl ⟨rfl, rfl⟩⟩) ?_
            refine WD.take hok1 2 (.int .i64 d.start) (fun w' => w'.heap[w.heap.size]? = some (.cells #[.slice dca d.cls.length dcc, .int .i64 d.width, .int .i64 d.start, .slice dna d.next.length dnc, .slice dba d.acc.length dbc] 25 (0, 0))) rfl rfl rfl rfl rfl (H9.blk 0 rfl) (.inl ⟨rfl, fun _ hC => d_loadB Try.underlying3 rfl rfl hC rfl ⟨rfl, rfl⟩⟩) ?_
            refine WD.take hok1 3 (elemPtr (.slice a2_2 n2_1 c2_2) d.start.toNat) (fun w' => RdT tyLR w' (.slice a2_2 n2_1 c2_2) Xs_1) rfl rfl rfl rfl rfl (H9.rdT 3 rfl) (.inl ⟨rfl, fun _ hC => t_addr1 d.start.toNat (T := tyLR) rfl Try.underlying29 sz23 rfl rfl hC (by omega) (by omega) ⟨rfl, rfl⟩⟩) ?_
            refine WD.take hok1 4 (.slice ((Xs_1.getD d.start.toNat lr0).a) ((Xs_1.getD d.start.toNat lr0).n) ((Xs_1.getD d.start.toNat lr0).c)) (fun w' => RdT tyLR w' (.slice a2_2 n2_1 c2_2) Xs_1) rfl rfl rfl rfl rfl (H9.rdT 3 rfl) (.inl ⟨rfl, fun _ hC => t_load1 d.start.toNat lr0 (T := tyLR) rfl Try.underlying23 rfl rfl hC (by omega) rfl ⟨rfl, rfl⟩⟩) ?_
            refine WD.take hok1 5 (.int .i64 ((j : Nat) : Int)) (fun _ => True) rfl rfl rfl rfl rfl trivial (.inl ⟨rfl, fun _ _ => d_move rfl ⟨rfl, rfl⟩⟩) ?_
            refine WD.take hok1 6 (elemPtr (.slice ((Xs_1.getD d.start.toNat lr0).a) ((Xs_1.getD d.start.toNat lr0).n) ((Xs_1.getD d.start.toNat lr0).c)) j) (fun w' => RdT tyB w' (.slice ((Xs_1.getD d.start.toNat lr0).a) ((Xs_1.getD d.start.toNat lr0).n) ((Xs_1.getD d.start.toNat lr0).c)) ((Xs_1.getD d.start.toNat lr0).xs)) rfl rfl rfl rfl rfl (show RdT tyB w8 (.slice ((Xs_1.getD d.start.toNat lr0).a) ((Xs_1.getD d.start.toNat lr0).n) ((Xs_1.getD d.start.toNat lr0).c)) ((Xs_1.getD d.start.toNat lr0).xs) from (Inn.own (H9.hpOf 4 rfl)).get lr0 d.start.toNat (by omega)) (.inl ⟨rfl, fun _ hC => t_addr1 j (T := tyB) rfl Try.underlying23 sz4 rfl rfl hC rfl (by omega) ⟨rfl, rfl⟩⟩) ?_
            refine WD.take hok1 7 (.bool (((Xs_1.getD d.start.toNat lr0).xs).getD j false)) (fun w' => RdT tyB w' (.slice ((Xs_1.getD d.start.toNat lr0).a) ((Xs_1.getD d.start.toNat lr0).n) ((Xs_1.getD d.start.toNat lr0).c)) ((Xs_1.getD d.start.toNat lr0).xs)) rfl rfl rfl rfl rfl (show RdT tyB w8 (.slice ((Xs_1.getD d.start.toNat lr0).a) ((Xs_1.getD d.start.toNat lr0).n) ((Xs_1.getD d.start.toNat lr0).c)) ((Xs_1.getD d.start.toNat lr0).xs) from (Inn.own (H9.hpOf 4 rfl)).get lr0 d.start.toNat (by omega)) (.inl ⟨rfl, fun _ hC => t_load1 j false (T := tyB) rfl Try.underlying4 rfl rfl hC (by omega) rfl ⟨rfl, rfl⟩⟩) ?_
            refine WD.take hok1 8 (.bool (!(((Xs_1.getD d.start.toNat lr0).xs).getD j false))) (fun _ => True) rfl rfl rfl rfl rfl trivial (.inl ⟨rfl, fun _ _ => d_notB rfl ⟨rfl, rfl⟩⟩) ?_
            refine WD.take hok1 9 (.bool (!(((Xs_1.getD d.start.toNat lr0).xs).getD j false))) (fun _ => True) rfl rfl rfl rfl rfl trivial (.inl ⟨rfl, fun _ _ => d_move rfl ⟨rfl, rfl⟩⟩) ?_
            refine WD.partB 64 (b := !(((Xs_1.getD d.start.toNat lr0).xs).getD j false)) rfl (fun g89 => ?_) (fun g89 => ?_)
            · skip
              refine WD.take hok1 10 undef (fun _ => True) rfl rfl rfl rfl rfl trivial (.inr ⟨rfl, rfl⟩) ?_
              refine WD.take hok1 11 undef (fun _ => True) rfl rfl rfl rfl rfl trivial (.inr ⟨rfl, rfl⟩) ?_
              refine WD.take hok1 12 undef (fun _ => True) rfl rfl rfl rfl rfl trivial (.inr ⟨rfl, rfl⟩) ?_
              refine WD.take hok1 13 undef (fun _ => True) rfl rfl rfl rfl rfl trivial (.inr ⟨rfl, rfl⟩) ?_
              refine WD.take hok1 14 undef (fun _ => True) rfl rfl rfl rfl rfl trivial (.inr ⟨rfl, rfl⟩) ?_
              refine WD.take hok1 15 undef (fun _ => True) rfl rfl rfl rfl rfl trivial (.inr ⟨rfl, rfl⟩) ?_
              refine WD.take hok1 16 undef (fun _ => True) rfl rfl rfl rfl rfl trivial (.inr ⟨rfl, rfl⟩) ?_
              refine WD.take hok1 17 undef (fun _ => True) rfl rfl rfl rfl rfl trivial (.inr ⟨rfl, rfl⟩) ?_
              refine WD.take hok1 18 undef (fun _ => True) rfl rfl rfl rfl rfl trivial (.inr ⟨rfl, rfl⟩) ?_
              refine WD.take hok1 19 undef (fun _ => True) rfl rfl rfl rfl rfl trivial (.inr ⟨rfl, rfl⟩) ?_
              refine WD.take hok1 20 undef (fun _ => True) rfl rfl rfl rfl rfl trivial (.inr ⟨rfl, rfl⟩) ?_
              refine WD.take hok1 21 undef (fun _ => True) rfl rfl rfl rfl rfl trivial (.inr ⟨rfl, rfl⟩) ?_
              refine WD.take hok1 22 undef (fun _ => True) rfl rfl rfl rfl rfl trivial (.inr ⟨rfl, rfl⟩) ?_
              refine WD.take hok1 23 undef (fun _ => True) rfl rfl rfl rfl rfl trivial (.inr ⟨rfl, rfl⟩) ?_
              refine WD.take hok1 24 undef (fun _ => True) rfl rfl rfl rfl rfl trivial (.inr ⟨rfl, rfl⟩) ?_
              refine WD.take hok1 25 (.bool true) (fun _ => True) rfl rfl rfl rfl rfl trivial (.inl ⟨rfl, fun _ _ => d_pick rfl rfl ⟨rfl, rfl⟩⟩) ?_
              refine WD.take hok1 26 (.bool true) (fun _ => True) rfl rfl rfl rfl rfl trivial (.inl ⟨rfl, fun _ _ => d_assign rfl ⟨rfl, rfl⟩⟩) ?_
              refine WD.done hok1 rfl (X.block_normal (X.then_code ?_))
              refine W.pick [10, 79, 78, 77, 76, 75, 74, 73, 72, 71, 70, 69, 68, 67, 66, 65, 51, 11, 9, 8, 7, 6, 5, 3, 2, 1] (Γ' := [(10, .bool true), (79, undef), (78, undef), (77, undef), (76, undef), (75, undef), (74, undef), (73, undef), (72, undef), (71, undef), (70, undef), (69, undef), (68, undef), (67, undef), (66, undef), (65, undef), (51, .bool b), (11, .int .i64 ((j : Nat) : Int)), (9, .int .i64 y), (8, .int .i64 aa), (7, .int .i64 ((s : Nat) : Int)), (6, .slice qa q.length qc), (5, .slice a2_2 n2_1 c2_2), (3, .slice a2_1 bl_1.length c2_1), (2, .pointer (some ⟨w1.heap.size, 0, none⟩)), (1, .pointer (some ⟨w.heap.size, 0, none⟩))]) rfl ?_
              refine W.region ?_
              refine WL.op rfl (d_move rfl ?_)
              refine WL.op rfl (d_add rfl rfl (by omega) (by omega) ?_)
              refine WL.op rfl (d_assign rfl ?_)
              refine WL.done ?_
              exact X.next [11, 10, 9, 8, 7, 6, 5, 3, 2, 1] (Γ' := [(11, .int .i64 (((j + 1) : Nat) : Int)), (10, .bool true), (9, .int .i64 y), (8, .int .i64 aa), (7, .int .i64 ((s : Nat) : Int)), (6, .slice qa q.length qc), (5, .slice a2_2 n2_1 c2_2), (3, .slice a2_1 bl_1.length c2_1), (2, .pointer (some ⟨w1.heap.size, 0, none⟩)), (1, .pointer (some ⟨w.heap.size, 0, none⟩))]) rfl (bl_1.length - (j + 1)) (by omega) ⟨j + 1, true, rfl, H9, (by first | assumption | omega | simp), (by first | exact hb9.skip (fun ht => by have h9 := hcv.2 ht; unfold cellB at h9; rw [h9] at g89; exact absurd g89 (by decide)) | exact hb9.step (hcv.1 (by unfold cellB; exact bn_t g89)) (by rw [hp1, hp2])), rfl⟩
            · skip
              refine WD.take hok1 10 (.slice a2_1 bl_1.length c2_1) (fun _ => True) rfl rfl rfl rfl rfl trivial (.inl ⟨rfl, fun _ _ => d_move rfl ⟨rfl, rfl⟩⟩) ?_
              refine WD.take hok1 11 (.agg #[.slice dca d.cls.length dcc, .int .i64 d.width, .int .i64 d.start, .slice dna d.next.length dnc, .slice dba d.acc.length dbc]) (fun w' => w'.heap[w.heap.size]? = some (.cells #[.slice dca d.cls.length dcc, .int .i64 d.width, .int .i64 d.start, .slice dna d.next.length dnc, .slice dba d.acc.length dbc] 25 (0, 0))) rfl rfl rfl rfl rfl (H9.blk 0 rfl) (.inl ⟨rfl, fun _ hC => d_loadAB [.slice dca d.cls.length dcc, .int .i64 d.width, .int .i64 d.start, .slice dna d.next.length dnc, .slice dba d.acc.length dbc] Try.underlying25 rfl sz25 rfl hC rfl rfl ⟨rfl, rfl⟩⟩) ?_
              refine WD.take hok1 12 (.int .i64 ((j : Nat) : Int)) (fun _ => True) rfl rfl rfl rfl rfl trivial (.inl ⟨rfl, fun _ _ => d_move rfl ⟨rfl, rfl⟩⟩) ?_
              refine WD.take hok1 13 (.int .i64 y) (fun _ => True) rfl rfl rfl rfl rfl trivial (.inl ⟨rfl, fun _ _ => d_move rfl ⟨rfl, rfl⟩⟩) ?_
              refine WD.take hok1 17 (.slice a2_1 bl_1.length c2_1) (fun _ => True) rfl rfl rfl rfl rfl trivial (.inl ⟨rfl, fun _ _ => d_move rfl ⟨rfl, rfl⟩⟩) ?_
              refine WD.take hok1 18 (.agg #[.slice dca d.cls.length dcc, .int .i64 d.width, .int .i64 d.start, .slice dna d.next.length dnc, .slice dba d.acc.length dbc]) (fun w' => w'.heap[w.heap.size]? = some (.cells #[.slice dca d.cls.length dcc, .int .i64 d.width, .int .i64 d.start, .slice dna d.next.length dnc, .slice dba d.acc.length dbc] 25 (0, 0))) rfl rfl rfl rfl rfl (H9.blk 0 rfl) (.inl ⟨rfl, fun _ hC => d_loadAB [.slice dca d.cls.length dcc, .int .i64 d.width, .int .i64 d.start, .slice dna d.next.length dnc, .slice dba d.acc.length dbc] Try.underlying25 rfl sz25 rfl hC rfl rfl ⟨rfl, rfl⟩⟩) ?_
              refine WD.take hok1 19 (.int .i64 ((j : Nat) : Int)) (fun _ => True) rfl rfl rfl rfl rfl trivial (.inl ⟨rfl, fun _ _ => d_move rfl ⟨rfl, rfl⟩⟩) ?_
              refine WD.take hok1 20 (.int .i64 ((s : Nat) : Int)) (fun _ => True) rfl rfl rfl rfl rfl trivial (.inl ⟨rfl, fun _ _ => d_move rfl ⟨rfl, rfl⟩⟩) ?_
              refine WD.loud hok1 14 rfl (⟨_, [⟨20, .int .i64 ((s : Nat) : Int), (fun _ => True)⟩, ⟨19, .int .i64 ((j : Nat) : Int), (fun _ => True)⟩, ⟨18, .agg #[.slice dca d.cls.length dcc, .int .i64 d.width, .int .i64 d.start, .slice dna d.next.length dnc, .slice dba d.acc.length dbc], (fun w' => w'.heap[w.heap.size]? = some (.cells #[.slice dca d.cls.length dcc, .int .i64 d.width, .int .i64 d.start, .slice dna d.next.length dnc, .slice dba d.acc.length dbc] 25 (0, 0)))⟩, ⟨17, .slice a2_1 bl_1.length c2_1, (fun _ => True)⟩, ⟨10, .slice a2_1 bl_1.length c2_1, (fun _ => True)⟩], rfl, rfl, rfl, rfl, rfl, rfl, d_call ok81 rfl (Ret.calls (go11_any d dca dna dba dcc dnc dbc ((j : Nat) : Int) j y w8 (rcd.at H9) (rnd.at H9) (rbd.at H9) (by omega) hrt (by omega) (by omega)) fun _ w9 p3 => ?_)⟩)
              obtain ⟨rfl, u5⟩ := p3
              have H10 : UpG w [] w9 [[blk w.heap.size #[.slice dca d.cls.length dcc, .int .i64 d.width, .int .i64 d.start, .slice dna d.next.length dnc, .slice dba d.acc.length dbc] 25], [blk w1.heap.size #[.slice none 0 0, .int .i64 0, .int .i64 0, .slice none 0 0, .slice none 0 0] 25], [rowT (tyI .i64) (.slice a2_1 bl_1.length c2_1) 3 bl_1], [rowT tyLR (.slice a2_2 n2_1 c2_2) 23 Xs_1], [manyF (inLR tyB 4).row Xs_1], [rowT (tyI .i64) (.slice qa q.length qc) 3 q]] := H9.call u5
              refine ⟨⟨trivial, trivial, (H10.blk 0 rfl), trivial, trivial, trivial⟩, ?_⟩
              refine WD.take hok1 15 (elemPtr (.slice a2_1 bl_1.length c2_1) (dN d j y)) (fun w' => RdT (tyI .i64) w' (.slice a2_1 bl_1.length c2_1) bl_1) rfl rfl rfl rfl rfl (H10.rdT 2 rfl) (.inl ⟨rfl, fun _ hC => t_addr1 (dN d j y) (T := (tyI .i64)) rfl Try.underlying22 sz3 rfl rfl hC rfl (by omega) ⟨rfl, rfl⟩⟩) ?_
              refine WD.take hok1 16 (.int .i64 (bl_1.getD (dN d j y) 0)) (fun w' => RdT (tyI .i64) w' (.slice a2_1 bl_1.length c2_1) bl_1) rfl rfl rfl rfl rfl (H10.rdT 2 rfl) (.inl ⟨rfl, fun _ hC => t_load1 (dN d j y) 0 (T := (tyI .i64)) rfl Try.underlying3 rfl rfl hC (by omega) rfl ⟨rfl, rfl⟩⟩) ?_
              refine WD.loud hok1 21 rfl (⟨_, [⟨16, .int .i64 (bl_1.getD (dN d j y) 0), (fun w' => RdT (tyI .i64) w' (.slice a2_1 bl_1.length c2_1) bl_1)⟩, ⟨15, elemPtr (.slice a2_1 bl_1.length c2_1) (dN d j y), (fun w' => RdT (tyI .i64) w' (.slice a2_1 bl_1.length c2_1) bl_1)⟩, ⟨17, .slice a2_1 bl_1.length c2_1, (fun _ => True)⟩, ⟨10, .slice a2_1 bl_1.length c2_1, (fun _ => True)⟩], rfl, rfl, rfl, rfl, rfl, rfl, d_call ok81 rfl (Ret.calls (go11_any d dca dna dba dcc dnc dbc ((j : Nat) : Int) j ((s : Nat) : Int) w9 (rcd.at H10) (rnd.at H10) (rbd.at H10) (by omega) hrt (by omega) (by omega)) fun _ w10 p4 => ?_)⟩)
              obtain ⟨rfl, u6⟩ := p4
              have H11 : UpG w [] w10 [[blk w.heap.size #[.slice dca d.cls.length dcc, .int .i64 d.width, .int .i64 d.start, .slice dna d.next.length dnc, .slice dba d.acc.length dbc] 25], [blk w1.heap.size #[.slice none 0 0, .int .i64 0, .int .i64 0, .slice none 0 0, .slice none 0 0] 25], [rowT (tyI .i64) (.slice a2_1 bl_1.length c2_1) 3 bl_1], [rowT tyLR (.slice a2_2 n2_1 c2_2) 23 Xs_1], [manyF (inLR tyB 4).row Xs_1], [rowT (tyI .i64) (.slice qa q.length qc) 3 q]] := H10.call u6
              refine ⟨⟨(H11.rdT 2 rfl), (H11.rdT 2 rfl), trivial, trivial, trivial⟩, ?_⟩
              refine WD.take hok1 22 (elemPtr (.slice a2_1 bl_1.length c2_1) (dN d j ((s : Nat) : Int))) (fun w' => RdT (tyI .i64) w' (.slice a2_1 bl_1.length c2_1) bl_1) rfl rfl rfl rfl rfl (H11.rdT 2 rfl) (.inl ⟨rfl, fun _ hC => t_addr1 (dN d j ((s : Nat) : Int)) (T := (tyI .i64)) rfl Try.underlying22 sz3 rfl rfl hC rfl (by omega) ⟨rfl, rfl⟩⟩) ?_
              refine WD.take hok1 23 (.int .i64 (bl_1.getD (dN d j ((s : Nat) : Int)) 0)) (fun w' => RdT (tyI .i64) w' (.slice a2_1 bl_1.length c2_1) bl_1) rfl rfl rfl rfl rfl (H11.rdT 2 rfl) (.inl ⟨rfl, fun _ hC => t_load1 (dN d j ((s : Nat) : Int)) 0 (T := (tyI .i64)) rfl Try.underlying3 rfl rfl hC (by omega) rfl ⟨rfl, rfl⟩⟩) ?_
              refine WD.take hok1 24 (.bool (decide ((bl_1.getD (dN d j y) 0) = (bl_1.getD (dN d j ((s : Nat) : Int)) 0)))) (fun _ => True) rfl rfl rfl rfl rfl trivial (.inl ⟨rfl, fun _ _ => d_cmp (decide ((bl_1.getD (dN d j y) 0) = (bl_1.getD (dN d j ((s : Nat) : Int)) 0))) rfl rfl rfl ⟨rfl, rfl⟩⟩) ?_
              refine WD.take hok1 25 (.bool (decide ((bl_1.getD (dN d j y) 0) = (bl_1.getD (dN d j ((s : Nat) : Int)) 0)))) (fun _ => True) rfl rfl rfl rfl rfl trivial (.inl ⟨rfl, fun _ _ => d_pick rfl rfl ⟨rfl, rfl⟩⟩) ?_
              refine WD.take hok1 26 (.bool (decide ((bl_1.getD (dN d j y) 0) = (bl_1.getD (dN d j ((s : Nat) : Int)) 0)))) (fun _ => True) rfl rfl rfl rfl rfl trivial (.inl ⟨rfl, fun _ _ => d_assign rfl ⟨rfl, rfl⟩⟩) ?_
              refine WD.done hok1 rfl (X.block_normal (X.then_code ?_))
              refine W.pick [10, 79, 78, 77, 76, 71, 70, 69, 75, 74, 73, 72, 68, 67, 66, 65, 51, 11, 9, 8, 7, 6, 5, 3, 2, 1] (Γ' := [(10, .bool (decide ((bl_1.getD (dN d j y) 0) = (bl_1.getD (dN d j ((s : Nat) : Int)) 0)))), (79, .bool (decide ((bl_1.getD (dN d j y) 0) = (bl_1.getD (dN d j ((s : Nat) : Int)) 0)))), (78, .int .i64 (bl_1.getD (dN d j ((s : Nat) : Int)) 0)), (77, elemPtr (.slice a2_1 bl_1.length c2_1) (dN d j ((s : Nat) : Int))), (76, .int .i64 (((dN d j ((s : Nat) : Int)) : Nat) : Int)), (71, .int .i64 (bl_1.getD (dN d j y) 0)), (70, elemPtr (.slice a2_1 bl_1.length c2_1) (dN d j y)), (69, .int .i64 (((dN d j y) : Nat) : Int)), (75, .int .i64 ((s : Nat) : Int)), (74, .int .i64 ((j : Nat) : Int)), (73, .agg #[.slice dca d.cls.length dcc, .int .i64 d.width, .int .i64 d.start, .slice dna d.next.length dnc, .slice dba d.acc.length dbc]), (72, .slice a2_1 bl_1.length c2_1), (68, .int .i64 y), (67, .int .i64 ((j : Nat) : Int)), (66, .agg #[.slice dca d.cls.length dcc, .int .i64 d.width, .int .i64 d.start, .slice dna d.next.length dnc, .slice dba d.acc.length dbc]), (65, .slice a2_1 bl_1.length c2_1), (51, .bool b), (11, .int .i64 ((j : Nat) : Int)), (9, .int .i64 y), (8, .int .i64 aa), (7, .int .i64 ((s : Nat) : Int)), (6, .slice qa q.length qc), (5, .slice a2_2 n2_1 c2_2), (3, .slice a2_1 bl_1.length c2_1), (2, .pointer (some ⟨w1.heap.size, 0, none⟩)), (1, .pointer (some ⟨w.heap.size, 0, none⟩))]) rfl ?_
              refine W.region ?_
              refine WL.op rfl (d_move rfl ?_)
              refine WL.op rfl (d_add rfl rfl (by omega) (by omega) ?_)
              refine WL.op rfl (d_assign rfl ?_)
              refine WL.done ?_
              exact X.next [11, 10, 9, 8, 7, 6, 5, 3, 2, 1] (Γ' := [(11, .int .i64 (((j + 1) : Nat) : Int)), (10, .bool (decide ((bl_1.getD (dN d j y) 0) = (bl_1.getD (dN d j ((s : Nat) : Int)) 0)))), (9, .int .i64 y), (8, .int .i64 aa), (7, .int .i64 ((s : Nat) : Int)), (6, .slice qa q.length qc), (5, .slice a2_2 n2_1 c2_2), (3, .slice a2_1 bl_1.length c2_1), (2, .pointer (some ⟨w1.heap.size, 0, none⟩)), (1, .pointer (some ⟨w.heap.size, 0, none⟩))]) rfl (bl_1.length - (j + 1)) (by omega) ⟨j + 1, decide ((bl_1.getD (dN d j y) 0) = (bl_1.getD (dN d j ((s : Nat) : Int)) 0)), rfl, H11, (by first | assumption | omega | simp), (by first | exact hb9.skip (fun ht => by have h9 := hcv.2 ht; unfold cellB at h9; rw [h9] at g89; exact absurd g89 (by decide)) | exact hb9.step (hcv.1 (by unfold cellB; exact bn_t g89)) (by rw [hp1, hp2])), rfl⟩
          · skip
            refine W.exit (X.then_exit (X.then_exit (X.block_exit (X.then_code ?_))))
            refine W.seq ?_
            have hsm := SmP.fin hrt hbk hb (k := y.toNat) (sym := s) (by omega) (by omega) hbl (by first | (left; omega) | (right; simpa using c88)) hj
            refine W.region ?_
            refine WL.op rfl (d_move rfl ?_)
            refine WL.done (X.then_code ?_)
            refine W.iteB (b := b) rfl (fun c91 => ?_) (fun c91 => ?_)
            · skip
              exact absurd c91 c88
            · skip
              refine W.skip (X.block_normal (X.then_code ?_))
              refine W.region ?_
              refine WL.op rfl (d_move rfl ?_)
              refine WL.op rfl (d_sub rfl rfl (by omega) (by omega) ?_)
              refine WL.op rfl (d_assign rfl ?_)
              refine WL.done ?_
              exact X.next [9, 8, 7, 6, 5, 3, 2, 1] (Γ' := [(9, .int .i64 (y - 1)), (8, .int .i64 aa), (7, .int .i64 ((s : Nat) : Int)), (6, .slice qa q.length qc), (5, .slice a2_2 n2_1 c2_2), (3, .slice a2_1 bl_1.length c2_1), (2, .pointer (some ⟨w1.heap.size, 0, none⟩)), (1, .pointer (some ⟨w.heap.size, 0, none⟩))]) rfl (((y - 1) + 1).toNat) (by omega) ⟨y - 1, aa, rfl, H8, (by omega), (by first | exact hat.hit (by omega) (hsm.1 c91) | exact hat.pass (by omega) (.inr (fun h9 => c91 (hsm.2 h9))) | exact hat.pass (by omega) (.inl c84)), rfl⟩
        · skip
          refine WL.opN rfl rfl rfl rfl ?_
          refine WL.op rfl (d_pick rfl rfl ?_)
          refine WL.done (X.then_code ?_)
          refine W.iff rfl ?_
          refine W.exit (X.then_exit (X.then_exit (X.block_exit (X.then_code ?_))))
          refine W.seq ?_
          have hsm := SmP.fin hrt hbk hb (k := y.toNat) (sym := s) (by omega) (by omega) hbl (by first | (left; omega) | (right; simpa using c88)) hj
          refine W.region ?_
          refine WL.op rfl (d_move rfl ?_)
          refine WL.done (X.then_code ?_)
          refine W.iteB (b := b) rfl (fun c91 => ?_) (fun c91 => ?_)
          · skip
            refine W.region ?_
            refine WL.op rfl (d_move rfl ?_)
            refine WL.op rfl (d_assign rfl ?_)
            refine WL.done (X.block_normal (X.then_code ?_))
            refine W.region ?_
            refine WL.op rfl (d_move rfl ?_)
            refine WL.op rfl (d_sub rfl rfl (by omega) (by omega) ?_)
            refine WL.op rfl (d_assign rfl ?_)
            refine WL.done ?_
            exact X.next [9, 8, 7, 6, 5, 3, 2, 1] (Γ' := [(9, .int .i64 (y - 1)), (8, .int .i64 y), (7, .int .i64 ((s : Nat) : Int)), (6, .slice qa q.length qc), (5, .slice a2_2 n2_1 c2_2), (3, .slice a2_1 bl_1.length c2_1), (2, .pointer (some ⟨w1.heap.size, 0, none⟩)), (1, .pointer (some ⟨w.heap.size, 0, none⟩))]) rfl (((y - 1) + 1).toNat) (by omega) ⟨y - 1, y, rfl, H8, (by omega), (by first | exact hat.hit (by omega) (hsm.1 c91) | exact hat.pass (by omega) (.inr (fun h9 => c91 (hsm.2 h9))) | exact hat.pass (by omega) (.inl c84)), rfl⟩
          · skip
            refine W.skip (X.block_normal (X.then_code ?_))
            refine W.region ?_
            refine WL.op rfl (d_move rfl ?_)
            refine WL.op rfl (d_sub rfl rfl (by omega) (by omega) ?_)
            refine WL.op rfl (d_assign rfl ?_)
            refine WL.done ?_
            exact X.next [9, 8, 7, 6, 5, 3, 2, 1] (Γ' := [(9, .int .i64 (y - 1)), (8, .int .i64 aa), (7, .int .i64 ((s : Nat) : Int)), (6, .slice qa q.length qc), (5, .slice a2_2 n2_1 c2_2), (3, .slice a2_1 bl_1.length c2_1), (2, .pointer (some ⟨w1.heap.size, 0, none⟩)), (1, .pointer (some ⟨w.heap.size, 0, none⟩))]) rfl (((y - 1) + 1).toNat) (by omega) ⟨y - 1, aa, rfl, H8, (by omega), (by first | exact hat.hit (by omega) (hsm.1 c91) | exact hat.pass (by omega) (.inr (fun h9 => c91 (hsm.2 h9))) | exact hat.pass (by omega) (.inl c84)), rfl⟩
    · skip
      refine W.exit (X.then_exit (X.then_exit (X.block_exit (X.then_code ?_))))
      refine W.region ?_
      refine WL.op rfl (d_move rfl ?_)
      refine WL.op rfl (d_move rfl ?_)
      refine WL.op rfl (t_buildSlice (T := (tyI .i64)) (xs := [aa]) (cs := #[.int .i64 aa]) rfl Try.underlying22 sz3 rfl rfl rfl rfl (by kernel_rfl) rfl rfl fun w11 u7 => ?_)
      have H12 : UpG w [] w11 [[blk w.heap.size #[.slice dca d.cls.length dcc, .int .i64 d.width, .int .i64 d.start, .slice dna d.next.length dnc, .slice dba d.acc.length dbc] 25], [blk w1.heap.size #[.slice none 0 0, .int .i64 0, .int .i64 0, .slice none 0 0, .slice none 0 0] 25], [rowT (tyI .i64) (.slice a2_1 bl_1.length c2_1) 3 bl_1], [rowT tyLR (.slice a2_2 n2_1 c2_2) 23 Xs_1], [manyF (inLR tyB 4).row Xs_1], [rowT (tyI .i64) (.slice qa q.length qc) 3 q], [rowT (tyI .i64) (.slice (some ⟨w6.heap.size, 0, none⟩) ([aa].length) ([aa].length)) 3 [aa]]] := H7.new' u7
      refine WL.op rfl (t_append (T := (tyI .i64)) (xs := q) (ys := [aa]) rfl Try.underlying22 sz3 rfl rfl rfl (H12.ownT 5 rfl) (H12.rdT 6 rfl) (by simp only [List.length_singleton]; omega) (by simp only [List.length_singleton]; omega) fun a1 c1 w12 u8 => ?_)
      have H13 : UpG w [] w12 [[blk w.heap.size #[.slice dca d.cls.length dcc, .int .i64 d.width, .int .i64 d.start, .slice dna d.next.length dnc, .slice dba d.acc.length dbc] 25], [blk w1.heap.size #[.slice none 0 0, .int .i64 0, .int .i64 0, .slice none 0 0, .slice none 0 0] 25], [rowT (tyI .i64) (.slice a2_1 bl_1.length c2_1) 3 bl_1], [rowT tyLR (.slice a2_2 n2_1 c2_2) 23 Xs_1], [manyF (inLR tyB 4).row Xs_1], [rowT (tyI .i64) (.slice a1 ((q ++ [aa]).length) c1) 3 (q ++ [aa])], []] := (H12.on 5 rfl u8).drop 6
      refine WL.op rfl (d_assign rfl ?_)
      refine WL.done (X.block_normal (X.then_code ?_))
      refine W.region ?_
      refine WL.op rfl (d_move rfl ?_)
      refine WL.op rfl (d_add rfl rfl (by omega) (by omega) ?_)
      refine WL.op rfl (d_assign rfl ?_)
      refine WL.done ?_
      exact X.next [7, 6, 5, 3, 2, 1] (Γ' := [(7, .int .i64 (((s + 1) : Nat) : Int)), (6, .slice a1 ((q ++ [aa]).length) c1), (5, .slice a2_2 n2_1 c2_2), (3, .slice a2_1 bl_1.length c2_1), (2, .pointer (some ⟨w1.heap.size, 0, none⟩)), (1, .pointer (some ⟨w.heap.size, 0, none⟩))]) rfl (259 - (s + 1)) (by omega) ⟨s + 1, q ++ [aa], a1, c1, rfl, (H13.re rfl), (by first | assumption | omega | simp), (by exact hat.fin (symR_eq d 259) (by omega) hq (by omega) (by omega)), rfl⟩
  · skip
    refine W.exit (X.then_exit (X.then_exit (X.block_exit (X.then_code ?_))))
    refine W.seq ?_
    have e9 : s = 259 := by omega
    subst e9
    refine W.region ?_
    refine WL.op rfl (d_alloc sz25 fun w13 u9 => ?_)
    have H14 : UpG w [] w13 [[blk w.heap.size #[.slice dca d.cls.length dcc, .int .i64 d.width, .int .i64 d.start, .slice dna d.next.length dnc, .slice dba d.acc.length dbc] 25], [blk w1.heap.size #[.slice none 0 0, .int .i64 0, .int .i64 0, .slice none 0 0, .slice none 0 0] 25], [rowT (tyI .i64) (.slice a2_1 bl_1.length c2_1) 3 bl_1], [rowT tyLR (.slice a2_2 n2_1 c2_2) 23 Xs_1], [manyF (inLR tyB 4).row Xs_1], [rowT (tyI .i64) (.slice qa q.length qc) 3 q], [blk w5.heap.size #[.slice none 0 0, .int .i64 0, .int .i64 0, .slice none 0 0, .slice none 0 0] 25]] := H6.new' u9
    refine WL.done (X.then_code ?_)
    refine W.seq ?_
    refine W.region ?_
    refine WL.op rfl (d_move rfl ?_)
    refine WL.op rfl (d_call ok86 rfl (Ret.calls (number_any qa q qc w13 (H14.rdT 5 rfl) (hq.first (symR_eq d 259)) (by omega)) fun _ w14 p5 => ?_))
    obtain ⟨a2_3, c2_3, rfl, u10⟩ := p5
    have H15 : UpG w [] w14 [[blk w.heap.size #[.slice dca d.cls.length dcc, .int .i64 d.width, .int .i64 d.start, .slice dna d.next.length dnc, .slice dba d.acc.length dbc] 25], [blk w1.heap.size #[.slice none 0 0, .int .i64 0, .int .i64 0, .slice none 0 0, .slice none 0 0] 25], [rowT (tyI .i64) (.slice a2_1 bl_1.length c2_1) 3 bl_1], [rowT tyLR (.slice a2_2 n2_1 c2_2) 23 Xs_1], [manyF (inLR tyB 4).row Xs_1], [rowT (tyI .i64) (.slice qa q.length qc) 3 q], [blk w5.heap.size #[.slice none 0 0, .int .i64 0, .int .i64 0, .slice none 0 0, .slice none 0 0] 25], [rowT (tyI .i64) (.slice a2_3 ((numL q).length) c2_3) 3 (numL q)]] := (H14.new' u10).re rfl
    refine WL.op rfl (d_move rfl ?_)
    refine WL.op rfl (d_extract rfl rfl ?_)
    refine WL.op rfl (d_extract rfl rfl ?_)
    refine WL.op rfl (d_assign rfl ?_)
    refine WL.op rfl (d_assign rfl ?_)
    refine WL.done (X.then_code ?_)
    refine W.seq ?_
    refine W.region ?_
    refine WL.op rfl (d_move rfl ?_)
    refine WL.op rfl (d_fieldAddrB fld25_0 rfl rfl ?_)
    refine WL.op0 (d_storeB sz22 rfl rfl rfl (H15.blk 6 rfl) rfl fun w15 u11 => ?_)
    have H16 : UpG w [] w15 [[blk w.heap.size #[.slice dca d.cls.length dcc, .int .i64 d.width, .int .i64 d.start, .slice dna d.next.length dnc, .slice dba d.acc.length dbc] 25], [blk w1.heap.size #[.slice none 0 0, .int .i64 0, .int .i64 0, .slice none 0 0, .slice none 0 0] 25], [rowT (tyI .i64) (.slice a2_1 bl_1.length c2_1) 3 bl_1], [rowT tyLR (.slice a2_2 n2_1 c2_2) 23 Xs_1], [manyF (inLR tyB 4).row Xs_1], [rowT (tyI .i64) (.slice qa q.length qc) 3 q], [blk w5.heap.size #[.slice a2_3 ((numL q).length) c2_3, .int .i64 0, .int .i64 0, .slice none 0 0, .slice none 0 0] 25], [rowT (tyI .i64) (.slice a2_3 ((numL q).length) c2_3) 3 (numL q)]] := H15.on 6 rfl u11
    refine WL.done (X.then_code ?_)
    refine W.seq ?_
    refine W.region ?_
    refine WL.op rfl (d_move rfl ?_)
    refine WL.op rfl (d_fieldAddrB fld25_1 rfl rfl ?_)
    refine WL.op0 (d_storeB sz3 rfl rfl rfl (H16.blk 6 rfl) rfl fun w16 u12 => ?_)
    have H17 : UpG w [] w16 [[blk w.heap.size #[.slice dca d.cls.length dcc, .int .i64 d.width, .int .i64 d.start, .slice dna d.next.length dnc, .slice dba d.acc.length dbc] 25], [blk w1.heap.size #[.slice none 0 0, .int .i64 0, .int .i64 0, .slice none 0 0, .slice none 0 0] 25], [rowT (tyI .i64) (.slice a2_1 bl_1.length c2_1) 3 bl_1], [rowT tyLR (.slice a2_2 n2_1 c2_2) 23 Xs_1], [manyF (inLR tyB 4).row Xs_1], [rowT (tyI .i64) (.slice qa q.length qc) 3 q], [blk w5.heap.size #[.slice a2_3 ((numL q).length) c2_3, .int .i64 (((dd q).length : Nat) : Int), .int .i64 0, .slice none 0 0, .slice none 0 0] 25], [rowT (tyI .i64) (.slice a2_3 ((numL q).length) c2_3) 3 (numL q)]] := H16.on 6 rfl u12
    refine WL.done (X.then_code ?_)
    refine W.seq ?_
    refine W.region ?_
    refine WL.op rfl (d_fieldAddrB fld25_0 rfl rfl ?_)
    refine WL.op rfl (d_loadB Try.underlying22 rfl rfl (H17.blk 6 rfl) rfl ?_)
    refine WL.op rfl (d_fieldAddrB fld25_1 rfl rfl ?_)
    refine WL.op rfl (d_loadB Try.underlying3 rfl rfl (H17.blk 6 rfl) rfl ?_)
    refine WL.op rfl (d_call ok87 rfl (Ret.calls (firsts10_any a2_3 (numL q) c2_3 (((dd q).length : Nat) : Int) w16 (H17.rdT 7 rfl) ) fun _ w17 p6 => ?_))
    obtain ⟨a2_4, c2_4, rfl, u13⟩ := p6
    have H18 : UpG w [] w17 [[blk w.heap.size #[.slice dca d.cls.length dcc, .int .i64 d.width, .int .i64 d.start, .slice dna d.next.length dnc, .slice dba d.acc.length dbc] 25], [blk w1.heap.size #[.slice none 0 0, .int .i64 0, .int .i64 0, .slice none 0 0, .slice none 0 0] 25], [rowT (tyI .i64) (.slice a2_1 bl_1.length c2_1) 3 bl_1], [rowT tyLR (.slice a2_2 n2_1 c2_2) 23 Xs_1], [manyF (inLR tyB 4).row Xs_1], [rowT (tyI .i64) (.slice qa q.length qc) 3 q], [blk w5.heap.size #[.slice a2_3 ((numL q).length) c2_3, .int .i64 (((dd q).length : Nat) : Int), .int .i64 0, .slice none 0 0, .slice none 0 0] 25], [rowT (tyI .i64) (.slice a2_3 ((numL q).length) c2_3) 3 (numL q)], [rowT (tyI .i64) (.slice a2_4 ((firstsI (numL q) (((dd q).length : Nat) : Int)).length) c2_4) 3 (firstsI (numL q) (((dd q).length : Nat) : Int))]] := (H17.new' u13).re rfl
    refine WL.op rfl (d_assign rfl ?_)
    refine WL.done (X.then_code ?_)
    refine W.seq ?_
    have hhd := heads_of hq
    have hfs := hhd.1
    have hfw := hhd.2
    refine W.region ?_
    refine WL.op rfl (d_move rfl ?_)
    refine WL.op rfl (d_fieldAddrB fld25_2 rfl rfl ?_)
    refine WL.op rfl (d_loadB Try.underlying3 rfl rfl (H18.blk 0 rfl) rfl ?_)
    refine WL.op rfl (t_addr1 d.start.toNat (T := (tyI .i64)) rfl Try.underlying22 sz3 rfl rfl (H18.rdT 2 rfl) (by omega) (by omega) ?_)
    refine WL.op rfl (t_load1 d.start.toNat 0 (T := (tyI .i64)) rfl Try.underlying3 rfl rfl (H18.rdT 2 rfl) (by omega) rfl ?_)
    refine WL.op rfl (t_buildSlice (T := (tyI .i64)) (xs := [bl_1.getD d.start.toNat 0]) (cs := #[.int .i64 (bl_1.getD d.start.toNat 0)]) rfl Try.underlying22 sz3 rfl rfl rfl rfl (by kernel_rfl) rfl rfl fun w18 u14 => ?_)
    have H19 : UpG w [] w18 [[blk w.heap.size #[.slice dca d.cls.length dcc, .int .i64 d.width, .int .i64 d.start, .slice dna d.next.length dnc, .slice dba d.acc.length dbc] 25], [blk w1.heap.size #[.slice none 0 0, .int .i64 0, .int .i64 0, .slice none 0 0, .slice none 0 0] 25], [rowT (tyI .i64) (.slice a2_1 bl_1.length c2_1) 3 bl_1], [rowT tyLR (.slice a2_2 n2_1 c2_2) 23 Xs_1], [manyF (inLR tyB 4).row Xs_1], [rowT (tyI .i64) (.slice qa q.length qc) 3 q], [blk w5.heap.size #[.slice a2_3 ((numL q).length) c2_3, .int .i64 (((dd q).length : Nat) : Int), .int .i64 0, .slice none 0 0, .slice none 0 0] 25], [rowT (tyI .i64) (.slice a2_3 ((numL q).length) c2_3) 3 (numL q)], [rowT (tyI .i64) (.slice a2_4 ((firstsI (numL q) (((dd q).length : Nat) : Int)).length) c2_4) 3 (firstsI (numL q) (((dd q).length : Nat) : Int))], [rowT (tyI .i64) (.slice (some ⟨w17.heap.size, 0, none⟩) ([bl_1.getD d.start.toNat 0].length) ([bl_1.getD d.start.toNat 0].length)) 3 [bl_1.getD d.start.toNat 0]]] := H18.new' u14
    refine WL.op rfl (d_assign rfl ?_)
    refine WL.done (X.then_code ?_)
    refine W.pick [16, 15, 12, 3, 2, 1] (Γ' := [(16, .slice (some ⟨w17.heap.size, 0, none⟩) ([bl_1.getD d.start.toNat 0].length) ([bl_1.getD d.start.toNat 0].length)), (15, .slice a2_4 ((firstsI (numL q) (((dd q).length : Nat) : Int)).length) c2_4), (12, .pointer (some ⟨w5.heap.size, 0, none⟩)), (3, .slice a2_1 bl_1.length c2_1), (2, .pointer (some ⟨w1.heap.size, 0, none⟩)), (1, .pointer (some ⟨w.heap.size, 0, none⟩))]) rfl ?_
    refine W.seq ?_
    refine W.region ?_
    refine WL.op rfl (d_fieldAddrB fld25_2 rfl rfl ?_)
    refine WL.op rfl (d_loadB Try.underlying3 rfl rfl (H19.blk 0 rfl) rfl ?_)
    refine WL.op rfl (t_buildSlice (T := (tyI .i64)) (xs := [d.start]) (cs := #[.int .i64 d.start]) rfl Try.underlying22 sz3 rfl rfl rfl rfl (by kernel_rfl) rfl rfl fun w19 u15 => ?_)
    have H20 : UpG w [] w19 [[blk w.heap.size #[.slice dca d.cls.length dcc, .int .i64 d.width, .int .i64 d.start, .slice dna d.next.length dnc, .slice dba d.acc.length dbc] 25], [blk w1.heap.size #[.slice none 0 0, .int .i64 0, .int .i64 0, .slice none 0 0, .slice none 0 0] 25], [rowT (tyI .i64) (.slice a2_1 bl_1.length c2_1) 3 bl_1], [rowT tyLR (.slice a2_2 n2_1 c2_2) 23 Xs_1], [manyF (inLR tyB 4).row Xs_1], [rowT (tyI .i64) (.slice qa q.length qc) 3 q], [blk w5.heap.size #[.slice a2_3 ((numL q).length) c2_3, .int .i64 (((dd q).length : Nat) : Int), .int .i64 0, .slice none 0 0, .slice none 0 0] 25], [rowT (tyI .i64) (.slice a2_3 ((numL q).length) c2_3) 3 (numL q)], [rowT (tyI .i64) (.slice a2_4 ((firstsI (numL q) (((dd q).length : Nat) : Int)).length) c2_4) 3 (firstsI (numL q) (((dd q).length : Nat) : Int))], [rowT (tyI .i64) (.slice (some ⟨w17.heap.size, 0, none⟩) ([bl_1.getD d.start.toNat 0].length) ([bl_1.getD d.start.toNat 0].length)) 3 [bl_1.getD d.start.toNat 0]], [rowT (tyI .i64) (.slice (some ⟨w18.heap.size, 0, none⟩) ([d.start].length) ([d.start].length)) 3 [d.start]]] := H19.new' u15
    refine WL.op rfl (d_assign rfl ?_)
    refine WL.done (X.then_code ?_)
    refine W.seq ?_
    refine W.seq ?_
    refine W.region ?_
    refine WL.op rfl (d_assign rfl ?_)
    refine WL.done (X.then_code ?_)
    refine W.block ?_
    have H21 : UpG w [] w19 [[blk w.heap.size #[.slice dca d.cls.length dcc, .int .i64 d.width, .int .i64 d.start, .slice dna d.next.length dnc, .slice dba d.acc.length dbc] 25], [blk w1.heap.size #[.slice none 0 0, .int .i64 0, .int .i64 0, .slice none 0 0, .slice none 0 0] 25], [rowT (tyI .i64) (.slice a2_1 bl_1.length c2_1) 3 bl_1], [rowT tyLR (.slice a2_2 n2_1 c2_2) 23 Xs_1], [manyF (inLR tyB 4).row Xs_1], [rowT (tyI .i64) (.slice qa q.length qc) 3 q], [blk w5.heap.size #[.slice a2_3 ((numL q).length) c2_3, .int .i64 (((dd q).length : Nat) : Int), .int .i64 0, .slice none 0 0, .slice none 0 0] 25], [rowT (tyI .i64) (.slice a2_3 ((numL q).length) c2_3) 3 (numL q)], [rowT (tyI .i64) (.slice a2_4 ((firstsI (numL q) (((dd q).length : Nat) : Int)).length) c2_4) 3 (firstsI (numL q) (((dd q).length : Nat) : Int))], [rowT (tyI .i64) (.slice (some ⟨w17.heap.size, 0, none⟩) ([bl_1.getD d.start.toNat 0].length) ([bl_1.getD d.start.toNat 0].length)) 3 [bl_1.getD d.start.toNat 0]], [rowT (tyI .i64) (.slice (some ⟨w18.heap.size, 0, none⟩) ([d.start].length) ([d.start].length)) 3 [d.start]], [rowT (tyI .i64) (.slice none (([] : List Int).length) 0) 3 ([] : List Int)]] := H20.new' (Upd.nilRowT w19 (tyI .i64) 3)
    have H22 : UpG w [] w19 [[blk w.heap.size #[.slice dca d.cls.length dcc, .int .i64 d.width, .int .i64 d.start, .slice dna d.next.length dnc, .slice dba d.acc.length dbc] 25], [blk w1.heap.size #[.slice none 0 0, .int .i64 0, .int .i64 0, .slice none 0 0, .slice none 0 0] 25], [rowT (tyI .i64) (.slice a2_1 bl_1.length c2_1) 3 bl_1], [rowT tyLR (.slice a2_2 n2_1 c2_2) 23 Xs_1], [manyF (inLR tyB 4).row Xs_1], [rowT (tyI .i64) (.slice qa q.length qc) 3 q], [blk w5.heap.size #[.slice a2_3 ((numL q).length) c2_3, .int .i64 (((dd q).length : Nat) : Int), .int .i64 0, .slice none 0 0, .slice none 0 0] 25], [rowT (tyI .i64) (.slice a2_3 ((numL q).length) c2_3) 3 (numL q)], [rowT (tyI .i64) (.slice a2_4 ((firstsI (numL q) (((dd q).length : Nat) : Int)).length) c2_4) 3 (firstsI (numL q) (((dd q).length : Nat) : Int))], [rowT (tyI .i64) (.slice (some ⟨w17.heap.size, 0, none⟩) ([bl_1.getD d.start.toNat 0].length) ([bl_1.getD d.start.toNat 0].length)) 3 [bl_1.getD d.start.toNat 0]], [rowT (tyI .i64) (.slice (some ⟨w18.heap.size, 0, none⟩) ([d.start].length) ([d.start].length)) 3 [d.start]], [rowT (tyI .i64) (.slice none (([] : List Int).length) 0) 3 ([] : List Int)], [rowT tyB (.slice none (([] : List Bool).length) 0) 4 ([] : List Bool)]] := H21.new' (Upd.nilRowT w19 tyB 4)
    have H23 : UpG w [] w19 [[blk w.heap.size #[.slice dca d.cls.length dcc, .int .i64 d.width, .int .i64 d.start, .slice dna d.next.length dnc, .slice dba d.acc.length dbc] 25], [blk w1.heap.size #[.slice none 0 0, .int .i64 0, .int .i64 0, .slice none 0 0, .slice none 0 0] 25], [rowT (tyI .i64) (.slice a2_1 bl_1.length c2_1) 3 bl_1], [rowT tyLR (.slice a2_2 n2_1 c2_2) 23 Xs_1], [manyF (inLR tyB 4).row Xs_1], [rowT (tyI .i64) (.slice qa q.length qc) 3 q], [blk w5.heap.size #[.slice a2_3 ((numL q).length) c2_3, .int .i64 (((dd q).length : Nat) : Int), .int .i64 0, .slice none (([] : List Int).length) 0, .slice none (([] : List Bool).length) 0] 25], [rowT (tyI .i64) (.slice a2_3 ((numL q).length) c2_3) 3 (numL q)], [rowT (tyI .i64) (.slice a2_4 ((firstsI (numL q) (((dd q).length : Nat) : Int)).length) c2_4) 3 (firstsI (numL q) (((dd q).length : Nat) : Int))], [rowT (tyI .i64) (.slice (some ⟨w17.heap.size, 0, none⟩) ([bl_1.getD d.start.toNat 0].length) ([bl_1.getD d.start.toNat 0].length)) 3 [bl_1.getD d.start.toNat 0]], [rowT (tyI .i64) (.slice (some ⟨w18.heap.size, 0, none⟩) ([d.start].length) ([d.start].length)) 3 [d.start]], [rowT (tyI .i64) (.slice none (([] : List Int).length) 0) 3 ([] : List Int)], [rowT tyB (.slice none (([] : List Bool).length) 0) 4 ([] : List Bool)]] := H22.re rfl
    refine W.pick [18, 17, 16, 15, 12, 3, 2, 1] (Γ' := [(18, .int .i64 0), (17, .slice (some ⟨w18.heap.size, 0, none⟩) ([d.start].length) ([d.start].length)), (16, .slice (some ⟨w17.heap.size, 0, none⟩) ([bl_1.getD d.start.toNat 0].length) ([bl_1.getD d.start.toNat 0].length)), (15, .slice a2_4 ((firstsI (numL q) (((dd q).length : Nat) : Int)).length) c2_4), (12, .pointer (some ⟨w5.heap.size, 0, none⟩)), (3, .slice a2_1 bl_1.length c2_1), (2, .pointer (some ⟨w1.heap.size, 0, none⟩)), (1, .pointer (some ⟨w.heap.size, 0, none⟩))]) rfl ?_
    refine W.loop (fun m Γ' w' => ∃ k : Nat, ∃ hs : List Int, ∃ ha : Option Addr, ∃ hc : Nat, ∃ nx : List Int, ∃ na : Option Addr, ∃ nc : Nat, ∃ ac : List Bool, ∃ ba : Option Addr, ∃ bc : Nat, ∃ mt : List Int, ∃ mta : Option Addr, ∃ mtc : Nat, Γ' = [(18, .int .i64 ((k : Nat) : Int)), (17, .slice ha hs.length hc), (16, .slice mta mt.length mtc), (15, .slice a2_4 ((firstsI (numL q) (((dd q).length : Nat) : Int)).length) c2_4), (12, .pointer (some ⟨w5.heap.size, 0, none⟩)), (3, .slice a2_1 bl_1.length c2_1), (2, .pointer (some ⟨w1.heap.size, 0, none⟩)), (1, .pointer (some ⟨w.heap.size, 0, none⟩))] ∧ UpG w [] w' [[blk w.heap.size #[.slice dca d.cls.length dcc, .int .i64 d.width, .int .i64 d.start, .slice dna d.next.length dnc, .slice dba d.acc.length dbc] 25], [blk w1.heap.size #[.slice none 0 0, .int .i64 0, .int .i64 0, .slice none 0 0, .slice none 0 0] 25], [rowT (tyI .i64) (.slice a2_1 bl_1.length c2_1) 3 bl_1], [rowT tyLR (.slice a2_2 n2_1 c2_2) 23 Xs_1], [manyF (inLR tyB 4).row Xs_1], [rowT (tyI .i64) (.slice qa q.length qc) 3 q], [blk w5.heap.size #[.slice a2_3 ((numL q).length) c2_3, .int .i64 (((dd q).length : Nat) : Int), .int .i64 0, .slice na nx.length nc, .slice ba ac.length bc] 25], [rowT (tyI .i64) (.slice a2_3 ((numL q).length) c2_3) 3 (numL q)], [rowT (tyI .i64) (.slice a2_4 ((firstsI (numL q) (((dd q).length : Nat) : Int)).length) c2_4) 3 (firstsI (numL q) (((dd q).length : Nat) : Int))], [rowT (tyI .i64) (.slice mta mt.length mtc) 3 mt], [rowT (tyI .i64) (.slice ha hs.length hc) 3 hs], [rowT (tyI .i64) (.slice na nx.length nc) 3 nx], [rowT tyB (.slice ba ac.length bc) 4 ac]] ∧ (k ≤ hs.length) ∧ (NuI d (firstsI (numL q) ((dd q).length : Int)) (hs, nx) k 0) ∧ (mt = hs.map (blAt bl_1)) ∧ (ac = (hs.take k).map (accF d)) ∧ ((numLoop d bl_1 (firstsI (numL q) ((dd q).length : Int)) 4097 0 ([d.start], [])) = numLoop d bl_1 (firstsI (numL q) ((dd q).length : Int)) (4097 - k) k (hs, nx)) ∧ m = 4097 - k) (4097 - 0) ⟨0, [d.start], (some ⟨w18.heap.size, 0, none⟩), [d.start].length, [], none, 0, [], none, 0, [bl_1.getD d.start.toNat 0], (some ⟨w17.heap.size, 0, none⟩), [bl_1.getD d.start.toNat 0].length, rfl, (H23.re rfl), (by simp), (by exact NuI.start hrt _), (by rfl), (by rfl), (by rfl), rfl⟩ ?_
    rintro m4 Γ4 w20 ⟨k, hs, ha, hc, nx, na, nc, ac, ba, bc, mt, mta, mtc, rfl, H24, hk, hN, hM, hA, hR, rfl⟩
    have hbd : hs.length ≤ d.acc.length := hN.bound
    have hal : ac.length = k := by rw [hA]; simp; omega
    have hml : mt.length = hs.length := by rw [hM]; simp
    refine W.seq ?_
    refine W.seq ?_
    refine W.region ?_
    refine WL.op rfl (d_move rfl ?_)
    refine WL.op rfl (d_move rfl ?_)
    refine WL.op rfl (d_lenS Try.underlying22 rfl ?_)
    refine WL.op rfl (d_cmp (decide (((k : Nat) : Int) < ((mt.length : Nat) : Int))) rfl rfl rfl ?_)
    refine WL.done (X.then_code ?_)
    refine W.ite (p := ((k : Nat) : Int) < ((mt.length : Nat) : Int)) rfl (fun c104 => ?_) (fun c104 => ?_)
    · skip
      refine W.skip (X.then_code ?_)
      refine W.seq ?_
      refine W.block ?_
      refine W.seq ?_
      have hkh : k < hs.length := by omega
      have hrk := (hN.rng k hkh).1
      have hrk1 : 0 ≤ hs.getD k 0 := hrk.1
      have hrk2 : hs.getD k 0 < (d.acc.length : Int) := hrk.2
      have hnl := hN.nlen
      have hnb : nx.length ≤ 4096 * 259 := by have h8 : nx.length = k * (firstsI (numL q) ((dd q).length : Int)).length + 0 := hnl; have h9 := Nat.mul_le_mul (show k ≤ 4096 by omega) hfw; omega
      refine W.regionD mixed (by kernel_rfl) fun hok2 w21 k2 => ?_
      have H25 : UpG w [] w21 [[blk w.heap.size #[.slice dca d.cls.length dcc, .int .i64 d.width, .int .i64 d.start, .slice dna d.next.length dnc, .slice dba d.acc.length dbc] 25], [blk w1.heap.size #[.slice none 0 0, .int .i64 0, .int .i64 0, .slice none 0 0, .slice none 0 0] 25], [rowT (tyI .i64) (.slice a2_1 bl_1.length c2_1) 3 bl_1], [rowT tyLR (.slice a2_2 n2_1 c2_2) 23 Xs_1], [manyF (inLR tyB 4).row Xs_1], [rowT (tyI .i64) (.slice qa q.length qc) 3 q], [blk w5.heap.size #[.slice a2_3 ((numL q).length) c2_3, .int .i64 (((dd q).length : Nat) : Int), .int .i64 0, .slice na nx.length nc, .slice ba ac.length bc] 25], [rowT (tyI .i64) (.slice a2_3 ((numL q).length) c2_3) 3 (numL q)], [rowT (tyI .i64) (.slice a2_4 ((firstsI (numL q) (((dd q).length : Nat) : Int)).length) c2_4) 3 (firstsI (numL q) (((dd q).length : Nat) : Int))], [rowT (tyI .i64) (.slice mta mt.length mtc) 3 mt], [rowT (tyI .i64) (.slice ha hs.length hc) 3 hs], [rowT (tyI .i64) (.slice na nx.length nc) 3 nx], [rowT tyB (.slice ba ac.length bc) 4 ac]] := H24.kept k2
      refine WD.take hok2 0 (.pointer (some ⟨w5.heap.size, 4, none⟩)) (fun _ => True) rfl rfl rfl rfl rfl trivial (.inl ⟨rfl, fun _ _ => d_fieldAddrB fld25_4 rfl rfl ⟨rfl, rfl⟩⟩) ?_
      refine WD.take hok2 1 (.slice ba ac.length bc) (fun w' => w'.heap[w5.heap.size]? = some (.cells #[.slice a2_3 ((numL q).length) c2_3, .int .i64 (((dd q).length : Nat) : Int), .int .i64 0, .slice na nx.length nc, .slice ba ac.length bc] 25 (0, 0))) rfl rfl rfl rfl rfl (H25.blk 6 rfl) (.inl ⟨rfl, fun _ hC => d_loadB Try.underlying23 rfl rfl hC rfl ⟨rfl, rfl⟩⟩) ?_
      refine WD.take hok2 2 (.pointer (some ⟨w.heap.size, 4, none⟩)) (fun _ => True) rfl rfl rfl rfl rfl trivial (.inl ⟨rfl, fun _ _ => d_fieldAddrB fld25_4 rfl rfl ⟨rfl, rfl⟩⟩) ?_
      refine WD.take hok2 3 (.slice dba d.acc.length dbc) (fun w' => w'.heap[w.heap.size]? = some (.cells #[.slice dca d.cls.length dcc, .int .i64 d.width, .int .i64 d.start, .slice dna d.next.length dnc, .slice dba d.acc.length dbc] 25 (0, 0))) rfl rfl rfl rfl rfl (H25.blk 0 rfl) (.inl ⟨rfl, fun _ hC => d_loadB Try.underlying23 rfl rfl hC rfl ⟨rfl, rfl⟩⟩) ?_
      refine WD.take hok2 4 (.slice ha hs.length hc) (fun _ => True) rfl rfl rfl rfl rfl trivial (.inl ⟨rfl, fun _ _ => d_move rfl ⟨rfl, rfl⟩⟩) ?_
      refine WD.take hok2 5 (.int .i64 ((k : Nat) : Int)) (fun _ => True) rfl rfl rfl rfl rfl trivial (.inl ⟨rfl, fun _ _ => d_move rfl ⟨rfl, rfl⟩⟩) ?_
      refine WD.take hok2 6 (elemPtr (.slice ha hs.length hc) k) (fun w' => RdT (tyI .i64) w' (.slice ha hs.length hc) hs) rfl rfl rfl rfl rfl (H25.rdT 10 rfl) (.inl ⟨rfl, fun _ hC => t_addr1 k (T := (tyI .i64)) rfl Try.underlying22 sz3 rfl rfl hC rfl (by omega) ⟨rfl, rfl⟩⟩) ?_
      refine WD.take hok2 7 (.int .i64 (hs.getD k 0)) (fun w' => RdT (tyI .i64) w' (.slice ha hs.length hc) hs) rfl rfl rfl rfl rfl (H25.rdT 10 rfl) (.inl ⟨rfl, fun _ hC => t_load1 k 0 (T := (tyI .i64)) rfl Try.underlying3 rfl rfl hC (by omega) rfl ⟨rfl, rfl⟩⟩) ?_
      refine WD.take hok2 8 (elemPtr (.slice dba d.acc.length dbc) ((hs.getD k 0).toNat)) (fun w' => RdT tyB w' (.slice dba d.acc.length dbc) d.acc) rfl rfl rfl rfl rfl (rbd.at H25) (.inl ⟨rfl, fun _ hC => t_addr1 ((hs.getD k 0).toNat) (T := tyB) rfl Try.underlying23 sz4 rfl rfl hC (by omega) (by omega) ⟨rfl, rfl⟩⟩) ?_
      refine WD.take hok2 9 (.bool (d.acc.getD ((hs.getD k 0).toNat) false)) (fun w' => RdT tyB w' (.slice dba d.acc.length dbc) d.acc) rfl rfl rfl rfl rfl (rbd.at H25) (.inl ⟨rfl, fun _ hC => t_load1 ((hs.getD k 0).toNat) false (T := tyB) rfl Try.underlying4 rfl rfl hC (by omega) rfl ⟨rfl, rfl⟩⟩) ?_
      refine WD.loud hok2 10 rfl (⟨_, [⟨1, .slice ba ac.length bc, (fun w' => w'.heap[w5.heap.size]? = some (.cells #[.slice a2_3 ((numL q).length) c2_3, .int .i64 (((dd q).length : Nat) : Int), .int .i64 0, .slice na nx.length nc, .slice ba ac.length bc] 25 (0, 0)))⟩, ⟨0, .pointer (some ⟨w5.heap.size, 4, none⟩), (fun _ => True)⟩], rfl, rfl, rfl, rfl, rfl, rfl, t_buildSlice (T := tyB) (xs := [d.acc.getD ((hs.getD k 0).toNat) false]) (cs := #[.bool (d.acc.getD ((hs.getD k 0).toNat) false)]) rfl Try.underlying23 sz4 rfl rfl rfl rfl (by kernel_rfl) rfl rfl fun w22 u16 => ?_⟩)
      have H26 : UpG w [] w22 [[blk w.heap.size #[.slice dca d.cls.length dcc, .int .i64 d.width, .int .i64 d.start, .slice dna d.next.length dnc, .slice dba d.acc.length dbc] 25], [blk w1.heap.size #[.slice none 0 0, .int .i64 0, .int .i64 0, .slice none 0 0, .slice none 0 0] 25], [rowT (tyI .i64) (.slice a2_1 bl_1.length c2_1) 3 bl_1], [rowT tyLR (.slice a2_2 n2_1 c2_2) 23 Xs_1], [manyF (inLR tyB 4).row Xs_1], [rowT (tyI .i64) (.slice qa q.length qc) 3 q], [blk w5.heap.size #[.slice a2_3 ((numL q).length) c2_3, .int .i64 (((dd q).length : Nat) : Int), .int .i64 0, .slice na nx.length nc, .slice ba ac.length bc] 25], [rowT (tyI .i64) (.slice a2_3 ((numL q).length) c2_3) 3 (numL q)], [rowT (tyI .i64) (.slice a2_4 ((firstsI (numL q) (((dd q).length : Nat) : Int)).length) c2_4) 3 (firstsI (numL q) (((dd q).length : Nat) : Int))], [rowT (tyI .i64) (.slice mta mt.length mtc) 3 mt], [rowT (tyI .i64) (.slice ha hs.length hc) 3 hs], [rowT (tyI .i64) (.slice na nx.length nc) 3 nx], [rowT tyB (.slice ba ac.length bc) 4 ac], [rowT tyB (.slice (some ⟨w21.heap.size, 0, none⟩) ([d.acc.getD ((hs.getD k 0).toNat) false].length) ([d.acc.getD ((hs.getD k 0).toNat) false].length)) 4 [d.acc.getD ((hs.getD k 0).toNat) false]]] := H25.new' u16
      refine ⟨⟨(H26.blk 6 rfl), trivial, trivial⟩, ?_⟩
      refine WD.loud hok2 11 rfl (⟨_, [], rfl, rfl, rfl, rfl, rfl, rfl, t_append (T := tyB) (xs := ac) (ys := [d.acc.getD ((hs.getD k 0).toNat) false]) rfl Try.underlying23 sz4 rfl rfl rfl (H26.ownT 12 rfl) (H26.rdT 13 rfl) (by simp only [List.length_singleton]; omega) (by simp only [List.length_singleton]; omega) fun a2 c2 w23 u17 => ?_⟩)
      have H27 : UpG w [] w23 [[blk w.heap.size #[.slice dca d.cls.length dcc, .int .i64 d.width, .int .i64 d.start, .slice dna d.next.length dnc, .slice dba d.acc.length dbc] 25], [blk w1.heap.size #[.slice none 0 0, .int .i64 0, .int .i64 0, .slice none 0 0, .slice none 0 0] 25], [rowT (tyI .i64) (.slice a2_1 bl_1.length c2_1) 3 bl_1], [rowT tyLR (.slice a2_2 n2_1 c2_2) 23 Xs_1], [manyF (inLR tyB 4).row Xs_1], [rowT (tyI .i64) (.slice qa q.length qc) 3 q], [blk w5.heap.size #[.slice a2_3 ((numL q).length) c2_3, .int .i64 (((dd q).length : Nat) : Int), .int .i64 0, .slice na nx.length nc, .slice ba ac.length bc] 25], [rowT (tyI .i64) (.slice a2_3 ((numL q).length) c2_3) 3 (numL q)], [rowT (tyI .i64) (.slice a2_4 ((firstsI (numL q) (((dd q).length : Nat) : Int)).length) c2_4) 3 (firstsI (numL q) (((dd q).length : Nat) : Int))], [rowT (tyI .i64) (.slice mta mt.length mtc) 3 mt], [rowT (tyI .i64) (.slice ha hs.length hc) 3 hs], [rowT (tyI .i64) (.slice na nx.length nc) 3 nx], [rowT tyB (.slice a2 ((ac ++ [d.acc.getD ((hs.getD k 0).toNat) false]).length) c2) 4 (ac ++ [d.acc.getD ((hs.getD k 0).toNat) false])], []] := (H26.on 12 rfl u17).drop 13
      refine ⟨trivial, ?_⟩
      refine WD.take hok2 12 (.pointer (some ⟨w5.heap.size, 4, none⟩)) (fun _ => True) rfl rfl rfl rfl rfl trivial (.inl ⟨rfl, fun _ _ => d_fieldAddrB fld25_4 rfl rfl ⟨rfl, rfl⟩⟩) ?_
      refine WD.loud hok2 13 rfl (⟨_, [], rfl, rfl, rfl, rfl, rfl, rfl, d_storeB sz23 rfl rfl rfl (H27.blk 6 rfl) rfl fun w24 u18 => ?_⟩)
      have H28 : UpG w [] w24 [[blk w.heap.size #[.slice dca d.cls.length dcc, .int .i64 d.width, .int .i64 d.start, .slice dna d.next.length dnc, .slice dba d.acc.length dbc] 25], [blk w1.heap.size #[.slice none 0 0, .int .i64 0, .int .i64 0, .slice none 0 0, .slice none 0 0] 25], [rowT (tyI .i64) (.slice a2_1 bl_1.length c2_1) 3 bl_1], [rowT tyLR (.slice a2_2 n2_1 c2_2) 23 Xs_1], [manyF (inLR tyB 4).row Xs_1], [rowT (tyI .i64) (.slice qa q.length qc) 3 q], [blk w5.heap.size #[.slice a2_3 ((numL q).length) c2_3, .int .i64 (((dd q).length : Nat) : Int), .int .i64 0, .slice na nx.length nc, .slice a2 ((ac ++ [d.acc.getD ((hs.getD k 0).toNat) false]).length) c2] 25], [rowT (tyI .i64) (.slice a2_3 ((numL q).length) c2_3) 3 (numL q)], [rowT (tyI .i64) (.slice a2_4 ((firstsI (numL q) (((dd q).length : Nat) : Int)).length) c2_4) 3 (firstsI (numL q) (((dd q).length : Nat) : Int))], [rowT (tyI .i64) (.slice mta mt.length mtc) 3 mt], [rowT (tyI .i64) (.slice ha hs.length hc) 3 hs], [rowT (tyI .i64) (.slice na nx.length nc) 3 nx], [rowT tyB (.slice a2 ((ac ++ [d.acc.getD ((hs.getD k 0).toNat) false]).length) c2) 4 (ac ++ [d.acc.getD ((hs.getD k 0).toNat) false])], []] := H27.on 6 rfl u18
      refine ⟨trivial, ?_⟩
      refine WD.done hok2 rfl (X.then_code ?_)
      refine W.seq ?_
      refine W.region ?_
      refine WL.op rfl (d_assign rfl ?_)
      refine WL.done (X.then_code ?_)
      refine W.block ?_
      refine W.pick [19, 18, 17, 16, 15, 12, 3, 2, 1] (Γ' := [(19, .int .i64 0), (18, .int .i64 ((k : Nat) : Int)), (17, .slice ha hs.length hc), (16, .slice mta mt.length mtc), (15, .slice a2_4 ((firstsI (numL q) (((dd q).length : Nat) : Int)).length) c2_4), (12, .pointer (some ⟨w5.heap.size, 0, none⟩)), (3, .slice a2_1 bl_1.length c2_1), (2, .pointer (some ⟨w1.heap.size, 0, none⟩)), (1, .pointer (some ⟨w.heap.size, 0, none⟩))]) rfl ?_
      refine W.loop (fun m Γ' w' => ∃ jj : Nat, ∃ tt : List Int, ∃ ta : Option Addr, ∃ tc : Nat, ∃ mx : List Int, ∃ ma : Option Addr, ∃ mc : Nat, ∃ mu : List Int, ∃ mua : Option Addr, ∃ muc : Nat, Γ' = [(19, .int .i64 ((jj : Nat) : Int)), (18, .int .i64 ((k : Nat) : Int)), (17, .slice ta tt.length tc), (16, .slice mua mu.length muc), (15, .slice a2_4 ((firstsI (numL q) (((dd q).length : Nat) : Int)).length) c2_4), (12, .pointer (some ⟨w5.heap.size, 0, none⟩)), (3, .slice a2_1 bl_1.length c2_1), (2, .pointer (some ⟨w1.heap.size, 0, none⟩)), (1, .pointer (some ⟨w.heap.size, 0, none⟩))] ∧ UpG w [] w' [[blk w.heap.size #[.slice dca d.cls.length dcc, .int .i64 d.width, .int .i64 d.start, .slice dna d.next.length dnc, .slice dba d.acc.length dbc] 25], [blk w1.heap.size #[.slice none 0 0, .int .i64 0, .int .i64 0, .slice none 0 0, .slice none 0 0] 25], [rowT (tyI .i64) (.slice a2_1 bl_1.length c2_1) 3 bl_1], [rowT tyLR (.slice a2_2 n2_1 c2_2) 23 Xs_1], [manyF (inLR tyB 4).row Xs_1], [rowT (tyI .i64) (.slice qa q.length qc) 3 q], [blk w5.heap.size #[.slice a2_3 ((numL q).length) c2_3, .int .i64 (((dd q).length : Nat) : Int), .int .i64 0, .slice ma mx.length mc, .slice a2 ((ac ++ [d.acc.getD ((hs.getD k 0).toNat) false]).length) c2] 25], [rowT (tyI .i64) (.slice a2_3 ((numL q).length) c2_3) 3 (numL q)], [rowT (tyI .i64) (.slice a2_4 ((firstsI (numL q) (((dd q).length : Nat) : Int)).length) c2_4) 3 (firstsI (numL q) (((dd q).length : Nat) : Int))], [rowT (tyI .i64) (.slice mua mu.length muc) 3 mu], [rowT (tyI .i64) (.slice ta tt.length tc) 3 tt], [rowT (tyI .i64) (.slice ma mx.length mc) 3 mx], [rowT tyB (.slice a2 ((ac ++ [d.acc.getD ((hs.getD k 0).toNat) false]).length) c2) 4 (ac ++ [d.acc.getD ((hs.getD k 0).toNat) false])], []] ∧ (jj ≤ (firstsI (numL q) ((dd q).length : Int)).length) ∧ ((tt, mx) = ((firstsI (numL q) ((dd q).length : Int)).take jj).foldl (meetD d bl_1 (hs.getD k 0)) (hs, nx)) ∧ (mu = tt.map (blAt bl_1)) ∧ m = (firstsI (numL q) ((dd q).length : Int)).length - jj) ((firstsI (numL q) ((dd q).length : Int)).length - 0) ⟨0, hs, ha, hc, nx, na, nc, mt, mta, mtc, rfl, H28, (by omega), (by rfl), (by exact hM), rfl⟩ ?_
      rintro m5 Γ5 w25 ⟨jj, tt, ta, tc, mx, ma, mc, mu, mua, muc, rfl, H29, hjj, hF, hMj, rfl⟩
      have hul : mu.length = tt.length := by rw [hMj]; simp
      refine W.seq ?_
      refine W.seq ?_
      refine W.region ?_
      refine WL.op rfl (d_move rfl ?_)
      refine WL.op rfl (d_move rfl ?_)
      refine WL.op rfl (d_lenS Try.underlying22 rfl ?_)
      refine WL.op rfl (d_cmp (decide (((jj : Nat) : Int) < (((firstsI (numL q) (((dd q).length : Nat) : Int)).length : Nat) : Int))) rfl rfl rfl ?_)
      refine WL.done (X.then_code ?_)
      refine W.ite (p := ((jj : Nat) : Int) < (((firstsI (numL q) (((dd q).length : Nat) : Int)).length : Nat) : Int)) rfl (fun c106 => ?_) (fun c106 => ?_)
      · skip
        refine W.skip (X.then_code ?_)
        refine W.seq ?_
        refine W.block ?_
        refine W.seq ?_
        have hsy := hfs jj (by omega)
        have hNj := (NuI.at' hrt hbk hfs hN hkh hjj hF).1
        obtain ⟨r9, hr9⟩ := (NuI.at' hrt hbk hfs hN hkh hjj hF).2
        have htk : tt.getD k 0 = hs.getD k 0 := by rw [hr9]; exact getD_pre hkh
        have htk2 : k < tt.length := by rw [hr9, List.length_append]; omega
        have hdl := dN_lt hrt (i := (tt.getD k 0).toNat) (by omega) hsy
        have hde : ((dN d ((tt.getD k 0).toNat) ((firstsI (numL q) ((dd q).length : Int)).getD jj 0) : Nat) : Int) = stepD d (hs.getD k 0) ((firstsI (numL q) ((dd q).length : Int)).getD jj 0) := by rw [dN_int hrt (by omega) hsy, htk, Int.toNat_of_nonneg hrk1]
        have hdb : bl_1.getD (dN d ((tt.getD k 0).toNat) ((firstsI (numL q) ((dd q).length : Int)).getD jj 0)) 0 = blAt bl_1 (stepD d (hs.getD k 0) ((firstsI (numL q) ((dd q).length : Int)).getD jj 0)) := by rw [← hde]; unfold blAt; rw [Int.toNat_natCast]
        have hbj := hNj.bound
        have hmxl : mx.length = k * (firstsI (numL q) ((dd q).length : Int)).length + jj := hNj.nlen
        have hmxb : mx.length ≤ 4096 * 259 + 259 := by have h9 := Nat.mul_le_mul (show k ≤ 4096 by omega) hfw; omega
        have htb : tt.length ≤ d.acc.length := hbj
        refine W.regionD mixed (by kernel_rfl) fun hok3 w26 k3 => ?_
        have H30 : UpG w [] w26 [[blk w.heap.size #[.slice dca d.cls.length dcc, .int .i64 d.width, .int .i64 d.start, .slice dna d.next.length dnc, .slice dba d.acc.length dbc] 25], [blk w1.heap.size #[.slice none 0 0, .int .i64 0, .int .i64 0, .slice none 0 0, .slice none 0 0] 25], [rowT (tyI .i64) (.slice a2_1 bl_1.length c2_1) 3 bl_1], [rowT tyLR (.slice a2_2 n2_1 c2_2) 23 Xs_1], [manyF (inLR tyB 4).row Xs_1], [rowT (tyI .i64) (.slice qa q.length qc) 3 q], [blk w5.heap.size #[.slice a2_3 ((numL q).length) c2_3, .int .i64 (((dd q).length : Nat) : Int), .int .i64 0, .slice ma mx.length mc, .slice a2 ((ac ++ [d.acc.getD ((hs.getD k 0).toNat) false]).length) c2] 25], [rowT (tyI .i64) (.slice a2_3 ((numL q).length) c2_3) 3 (numL q)], [rowT (tyI .i64) (.slice a2_4 ((firstsI (numL q) (((dd q).length : Nat) : Int)).length) c2_4) 3 (firstsI (numL q) (((dd q).length : Nat) : Int))], [rowT (tyI .i64) (.slice mua mu.length muc) 3 mu], [rowT (tyI .i64) (.slice ta tt.length tc) 3 tt], [rowT (tyI .i64) (.slice ma mx.length mc) 3 mx], [rowT tyB (.slice a2 ((ac ++ [d.acc.getD ((hs.getD k 0).toNat) false]).length) c2) 4 (ac ++ [d.acc.getD ((hs.getD k 0).toNat) false])], []] := H29.kept k3
        refine WD.take hok3 0 (.agg #[.slice dca d.cls.length dcc, .int .i64 d.width, .int .i64 d.start, .slice dna d.next.length dnc, .slice dba d.acc.length dbc]) (fun w' => w'.heap[w.heap.size]? = some (.cells #[.slice dca d.cls.length dcc, .int .i64 d.width, .int .i64 d.start, .slice dna d.next.length dnc, .slice dba d.acc.length dbc] 25 (0, 0))) rfl rfl rfl rfl rfl (H30.blk 0 rfl) (.inl ⟨rfl, fun _ hC => d_loadAB [.slice dca d.cls.length dcc, .int .i64 d.width, .int .i64 d.start, .slice dna d.next.length dnc, .slice dba d.acc.length dbc] Try.underlying25 rfl sz25 rfl hC rfl rfl ⟨rfl, rfl⟩⟩) ?_
        refine WD.take hok3 1 (.slice ta tt.length tc) (fun _ => True) rfl rfl rfl rfl rfl trivial (.inl ⟨rfl, fun _ _ => d_move rfl ⟨rfl, rfl⟩⟩) ?_
        refine WD.take hok3 2 (.int .i64 ((k : Nat) : Int)) (fun _ => True) rfl rfl rfl rfl rfl trivial (.inl ⟨rfl, fun _ _ => d_move rfl ⟨rfl, rfl⟩⟩) ?_
        refine WD.take hok3 3 (elemPtr (.slice ta tt.length tc) k) (fun w' => RdT (tyI .i64) w' (.slice ta tt.length tc) tt) rfl rfl rfl rfl rfl (H30.rdT 10 rfl) (.inl ⟨rfl, fun _ hC => t_addr1 k (T := (tyI .i64)) rfl Try.underlying22 sz3 rfl rfl hC rfl (by omega) ⟨rfl, rfl⟩⟩) ?_
        refine WD.take hok3 4 (.int .i64 (tt.getD k 0)) (fun w' => RdT (tyI .i64) w' (.slice ta tt.length tc) tt) rfl rfl rfl rfl rfl (H30.rdT 10 rfl) (.inl ⟨rfl, fun _ hC => t_load1 k 0 (T := (tyI .i64)) rfl Try.underlying3 rfl rfl hC (by omega) rfl ⟨rfl, rfl⟩⟩) ?_
        refine WD.take hok3 5 (.slice a2_4 ((firstsI (numL q) (((dd q).length : Nat) : Int)).length) c2_4) (fun _ => True) rfl rfl rfl rfl rfl trivial (.inl ⟨rfl, fun _ _ => d_move rfl ⟨rfl, rfl⟩⟩) ?_
        refine WD.take hok3 6 (.int .i64 ((jj : Nat) : Int)) (fun _ => True) rfl rfl rfl rfl rfl trivial (.inl ⟨rfl, fun _ _ => d_move rfl ⟨rfl, rfl⟩⟩) ?_
        refine WD.take hok3 7 (elemPtr (.slice a2_4 ((firstsI (numL q) (((dd q).length : Nat) : Int)).length) c2_4) jj) (fun w' => RdT (tyI .i64) w' (.slice a2_4 ((firstsI (numL q) (((dd q).length : Nat) : Int)).length) c2_4) (firstsI (numL q) (((dd q).length : Nat) : Int))) rfl rfl rfl rfl rfl (H30.rdT 8 rfl) (.inl ⟨rfl, fun _ hC => t_addr1 jj (T := (tyI .i64)) rfl Try.underlying22 sz3 rfl rfl hC rfl (by omega) ⟨rfl, rfl⟩⟩) ?_
        refine WD.take hok3 8 (.int .i64 ((firstsI (numL q) (((dd q).length : Nat) : Int)).getD jj 0)) (fun w' => RdT (tyI .i64) w' (.slice a2_4 ((firstsI (numL q) (((dd q).length : Nat) : Int)).length) c2_4) (firstsI (numL q) (((dd q).length : Nat) : Int))) rfl rfl rfl rfl rfl (H30.rdT 8 rfl) (.inl ⟨rfl, fun _ hC => t_load1 jj 0 (T := (tyI .i64)) rfl Try.underlying3 rfl rfl hC (by omega) rfl ⟨rfl, rfl⟩⟩) ?_
        refine WD.loud hok3 9 rfl (⟨_, [], rfl, rfl, rfl, rfl, rfl, rfl, d_call ok81 rfl (Ret.calls (go11_any d dca dna dba dcc dnc dbc (tt.getD k 0) ((tt.getD k 0).toNat) ((firstsI (numL q) (((dd q).length : Nat) : Int)).getD jj 0) w26 (rcd.at H30) (rnd.at H30) (rbd.at H30) (by omega) hrt (by omega) (by omega)) fun _ w27 p7 => ?_)⟩)
        obtain ⟨rfl, u19⟩ := p7
        have H31 : UpG w [] w27 [[blk w.heap.size #[.slice dca d.cls.length dcc, .int .i64 d.width, .int .i64 d.start, .slice dna d.next.length dnc, .slice dba d.acc.length dbc] 25], [blk w1.heap.size #[.slice none 0 0, .int .i64 0, .int .i64 0, .slice none 0 0, .slice none 0 0] 25], [rowT (tyI .i64) (.slice a2_1 bl_1.length c2_1) 3 bl_1], [rowT tyLR (.slice a2_2 n2_1 c2_2) 23 Xs_1], [manyF (inLR tyB 4).row Xs_1], [rowT (tyI .i64) (.slice qa q.length qc) 3 q], [blk w5.heap.size #[.slice a2_3 ((numL q).length) c2_3, .int .i64 (((dd q).length : Nat) : Int), .int .i64 0, .slice ma mx.length mc, .slice a2 ((ac ++ [d.acc.getD ((hs.getD k 0).toNat) false]).length) c2] 25], [rowT (tyI .i64) (.slice a2_3 ((numL q).length) c2_3) 3 (numL q)], [rowT (tyI .i64) (.slice a2_4 ((firstsI (numL q) (((dd q).length : Nat) : Int)).length) c2_4) 3 (firstsI (numL q) (((dd q).length : Nat) : Int))], [rowT (tyI .i64) (.slice mua mu.length muc) 3 mu], [rowT (tyI .i64) (.slice ta tt.length tc) 3 tt], [rowT (tyI .i64) (.slice ma mx.length mc) 3 mx], [rowT tyB (.slice a2 ((ac ++ [d.acc.getD ((hs.getD k 0).toNat) false]).length) c2) 4 (ac ++ [d.acc.getD ((hs.getD k 0).toNat) false])], []] := H30.call u19
        refine ⟨trivial, ?_⟩
        refine WD.take hok3 10 (.int .i64 (((dN d ((tt.getD k 0).toNat) ((firstsI (numL q) (((dd q).length : Nat) : Int)).getD jj 0)) : Nat) : Int)) (fun _ => True) rfl rfl rfl rfl rfl trivial (.inl ⟨rfl, fun _ _ => d_assign rfl ⟨rfl, rfl⟩⟩) ?_
        refine WD.done hok3 rfl (X.then_code ?_)
        refine W.seq ?_
        refine W.region ?_
        refine WL.op rfl (d_move rfl ?_)
        refine WL.op rfl (d_move rfl ?_)
        refine WL.op rfl (d_move rfl ?_)
        refine WL.op rfl (t_addr1 (dN d ((tt.getD k 0).toNat) ((firstsI (numL q) (((dd q).length : Nat) : Int)).getD jj 0)) (T := (tyI .i64)) rfl Try.underlying22 sz3 rfl rfl (H31.rdT 2 rfl) rfl (by omega) ?_)
        refine WL.op rfl (t_load1 (dN d ((tt.getD k 0).toNat) ((firstsI (numL q) (((dd q).length : Nat) : Int)).getD jj 0)) 0 (T := (tyI .i64)) rfl Try.underlying3 rfl rfl (H31.rdT 2 rfl) (by omega) rfl ?_)
        refine WL.op rfl (d_call ok88 rfl (Ret.calls (find13_any mua mu muc (bl_1.getD (dN d ((tt.getD k 0).toNat) ((firstsI (numL q) (((dd q).length : Nat) : Int)).getD jj 0)) 0) w27 (H31.rdT 9 rfl) ) fun _ w28 p8 => ?_))
        obtain ⟨rfl, u20⟩ := p8
        have H32 : UpG w [] w28 [[blk w.heap.size #[.slice dca d.cls.length dcc, .int .i64 d.width, .int .i64 d.start, .slice dna d.next.length dnc, .slice dba d.acc.length dbc] 25], [blk w1.heap.size #[.slice none 0 0, .int .i64 0, .int .i64 0, .slice none 0 0, .slice none 0 0] 25], [rowT (tyI .i64) (.slice a2_1 bl_1.length c2_1) 3 bl_1], [rowT tyLR (.slice a2_2 n2_1 c2_2) 23 Xs_1], [manyF (inLR tyB 4).row Xs_1], [rowT (tyI .i64) (.slice qa q.length qc) 3 q], [blk w5.heap.size #[.slice a2_3 ((numL q).length) c2_3, .int .i64 (((dd q).length : Nat) : Int), .int .i64 0, .slice ma mx.length mc, .slice a2 ((ac ++ [d.acc.getD ((hs.getD k 0).toNat) false]).length) c2] 25], [rowT (tyI .i64) (.slice a2_3 ((numL q).length) c2_3) 3 (numL q)], [rowT (tyI .i64) (.slice a2_4 ((firstsI (numL q) (((dd q).length : Nat) : Int)).length) c2_4) 3 (firstsI (numL q) (((dd q).length : Nat) : Int))], [rowT (tyI .i64) (.slice mua mu.length muc) 3 mu], [rowT (tyI .i64) (.slice ta tt.length tc) 3 tt], [rowT (tyI .i64) (.slice ma mx.length mc) 3 mx], [rowT tyB (.slice a2 ((ac ++ [d.acc.getD ((hs.getD k 0).toNat) false]).length) c2) 4 (ac ++ [d.acc.getD ((hs.getD k 0).toNat) false])], []] := H31.call u20
        refine WL.op rfl (d_assign rfl ?_)
        refine WL.done (X.then_code ?_)
        refine W.pick [21, 20, 19, 18, 17, 16, 15, 12, 3, 2, 1] (Γ' := [(21, .int .i64 (firstI (bl_1.getD (dN d ((tt.getD k 0).toNat) ((firstsI (numL q) (((dd q).length : Nat) : Int)).getD jj 0)) 0) mu)), (20, .int .i64 (((dN d ((tt.getD k 0).toNat) ((firstsI (numL q) (((dd q).length : Nat) : Int)).getD jj 0)) : Nat) : Int)), (19, .int .i64 ((jj : Nat) : Int)), (18, .int .i64 ((k : Nat) : Int)), (17, .slice ta tt.length tc), (16, .slice mua mu.length muc), (15, .slice a2_4 ((firstsI (numL q) (((dd q).length : Nat) : Int)).length) c2_4), (12, .pointer (some ⟨w5.heap.size, 0, none⟩)), (3, .slice a2_1 bl_1.length c2_1), (2, .pointer (some ⟨w1.heap.size, 0, none⟩)), (1, .pointer (some ⟨w.heap.size, 0, none⟩))]) rfl ?_
        refine W.seq ?_
        refine W.seq ?_
        refine W.region ?_
        refine WL.op rfl (d_move rfl ?_)
        refine WL.op rfl (d_cmp (decide ((firstI (bl_1.getD (dN d ((tt.getD k 0).toNat) ((firstsI (numL q) (((dd q).length : Nat) : Int)).getD jj 0)) 0) mu) < (0 : Int))) rfl rfl rfl ?_)
        refine WL.done (X.then_code ?_)
        refine W.ite (p := (firstI (bl_1.getD (dN d ((tt.getD k 0).toNat) ((firstsI (numL q) (((dd q).length : Nat) : Int)).getD jj 0)) 0) mu) < (0 : Int)) rfl (fun c109 => ?_) (fun c109 => ?_)
        · skip
          refine W.seq ?_
          refine W.region ?_
          refine WL.op rfl (d_move rfl ?_)
          refine WL.op rfl (d_lenS Try.underlying22 rfl ?_)
          refine WL.op rfl (d_assign rfl ?_)
          refine WL.done (X.then_code ?_)
          refine W.seq ?_
          refine W.region ?_
          refine WL.op rfl (d_move rfl ?_)
          refine WL.op rfl (d_move rfl ?_)
          refine WL.op rfl (d_move rfl ?_)
          refine WL.op rfl (t_addr1 (dN d ((tt.getD k 0).toNat) ((firstsI (numL q) (((dd q).length : Nat) : Int)).getD jj 0)) (T := (tyI .i64)) rfl Try.underlying22 sz3 rfl rfl (H32.rdT 2 rfl) rfl (by omega) ?_)
          refine WL.op rfl (t_load1 (dN d ((tt.getD k 0).toNat) ((firstsI (numL q) (((dd q).length : Nat) : Int)).getD jj 0)) 0 (T := (tyI .i64)) rfl Try.underlying3 rfl rfl (H32.rdT 2 rfl) (by omega) rfl ?_)
          refine WL.op rfl (t_buildSlice (T := (tyI .i64)) (xs := [bl_1.getD (dN d ((tt.getD k 0).toNat) ((firstsI (numL q) (((dd q).length : Nat) : Int)).getD jj 0)) 0]) (cs := #[.int .i64 (bl_1.getD (dN d ((tt.getD k 0).toNat) ((firstsI (numL q) (((dd q).length : Nat) : Int)).getD jj 0)) 0)]) rfl Try.underlying22 sz3 rfl rfl rfl rfl (by kernel_rfl) rfl rfl fun w29 u21 => ?_)
          have H33 : UpG w [] w29 [[blk w.heap.size #[.slice dca d.cls.length dcc, .int .i64 d.width, .int .i64 d.start, .slice dna d.next.length dnc, .slice dba d.acc.length dbc] 25], [blk w1.heap.size #[.slice none 0 0, .int .i64 0, .int .i64 0, .slice none 0 0, .slice none 0 0] 25], [rowT (tyI .i64) (.slice a2_1 bl_1.length c2_1) 3 bl_1], [rowT tyLR (.slice a2_2 n2_1 c2_2) 23 Xs_1], [manyF (inLR tyB 4).row Xs_1], [rowT (tyI .i64) (.slice qa q.length qc) 3 q], [blk w5.heap.size #[.slice a2_3 ((numL q).length) c2_3, .int .i64 (((dd q).length : Nat) : Int), .int .i64 0, .slice ma mx.length mc, .slice a2 ((ac ++ [d.acc.getD ((hs.getD k 0).toNat) false]).length) c2] 25], [rowT (tyI .i64) (.slice a2_3 ((numL q).length) c2_3) 3 (numL q)], [rowT (tyI .i64) (.slice a2_4 ((firstsI (numL q) (((dd q).length : Nat) : Int)).length) c2_4) 3 (firstsI (numL q) (((dd q).length : Nat) : Int))], [rowT (tyI .i64) (.slice mua mu.length muc) 3 mu], [rowT (tyI .i64) (.slice ta tt.length tc) 3 tt], [rowT (tyI .i64) (.slice ma mx.length mc) 3 mx], [rowT tyB (.slice a2 ((ac ++ [d.acc.getD ((hs.getD k 0).toNat) false]).length) c2) 4 (ac ++ [d.acc.getD ((hs.getD k 0).toNat) false])], [], [rowT (tyI .i64) (.slice (some ⟨w28.heap.size, 0, none⟩) ([bl_1.getD (dN d ((tt.getD k 0).toNat) ((firstsI (numL q) (((dd q).length : Nat) : Int)).getD jj 0)) 0].length) ([bl_1.getD (dN d ((tt.getD k 0).toNat) ((firstsI (numL q) (((dd q).length : Nat) : Int)).getD jj 0)) 0].length)) 3 [bl_1.getD (dN d ((tt.getD k 0).toNat) ((firstsI (numL q) (((dd q).length : Nat) : Int)).getD jj 0)) 0]]] := H32.new' u21
          refine WL.op rfl (t_append (T := (tyI .i64)) (xs := mu) (ys := [bl_1.getD (dN d ((tt.getD k 0).toNat) ((firstsI (numL q) (((dd q).length : Nat) : Int)).getD jj 0)) 0]) rfl Try.underlying22 sz3 rfl rfl rfl (H33.ownT 9 rfl) (H33.rdT 14 rfl) (by simp only [List.length_singleton]; omega) (by simp only [List.length_singleton]; omega) fun a3 c3 w30 u22 => ?_)
          have H34 : UpG w [] w30 [[blk w.heap.size #[.slice dca d.cls.length dcc, .int .i64 d.width, .int .i64 d.start, .slice dna d.next.length dnc, .slice dba d.acc.length dbc] 25], [blk w1.heap.size #[.slice none 0 0, .int .i64 0, .int .i64 0, .slice none 0 0, .slice none 0 0] 25], [rowT (tyI .i64) (.slice a2_1 bl_1.length c2_1) 3 bl_1], [rowT tyLR (.slice a2_2 n2_1 c2_2) 23 Xs_1], [manyF (inLR tyB 4).row Xs_1], [rowT (tyI .i64) (.slice qa q.length qc) 3 q], [blk w5.heap.size #[.slice a2_3 ((numL q).length) c2_3, .int .i64 (((dd q).length : Nat) : Int), .int .i64 0, .slice ma mx.length mc, .slice a2 ((ac ++ [d.acc.getD ((hs.getD k 0).toNat) false]).length) c2] 25], [rowT (tyI .i64) (.slice a2_3 ((numL q).length) c2_3) 3 (numL q)], [rowT (tyI .i64) (.slice a2_4 ((firstsI (numL q) (((dd q).length : Nat) : Int)).length) c2_4) 3 (firstsI (numL q) (((dd q).length : Nat) : Int))], [rowT (tyI .i64) (.slice a3 ((mu ++ [bl_1.getD (dN d ((tt.getD k 0).toNat) ((firstsI (numL q) (((dd q).length : Nat) : Int)).getD jj 0)) 0]).length) c3) 3 (mu ++ [bl_1.getD (dN d ((tt.getD k 0).toNat) ((firstsI (numL q) (((dd q).length : Nat) : Int)).getD jj 0)) 0])], [rowT (tyI .i64) (.slice ta tt.length tc) 3 tt], [rowT (tyI .i64) (.slice ma mx.length mc) 3 mx], [rowT tyB (.slice a2 ((ac ++ [d.acc.getD ((hs.getD k 0).toNat) false]).length) c2) 4 (ac ++ [d.acc.getD ((hs.getD k 0).toNat) false])], [], []] := (H33.on 9 rfl u22).drop 14
          refine WL.op rfl (d_assign rfl ?_)
          refine WL.done (X.then_code ?_)
          refine W.region ?_
          refine WL.op rfl (d_move rfl ?_)
          refine WL.op rfl (d_move rfl ?_)
          refine WL.op rfl (t_buildSlice (T := (tyI .i64)) (xs := [(((dN d ((tt.getD k 0).toNat) ((firstsI (numL q) (((dd q).length : Nat) : Int)).getD jj 0)) : Nat) : Int)]) (cs := #[.int .i64 (((dN d ((tt.getD k 0).toNat) ((firstsI (numL q) (((dd q).length : Nat) : Int)).getD jj 0)) : Nat) : Int)]) rfl Try.underlying22 sz3 rfl rfl rfl rfl (by kernel_rfl) rfl rfl fun w31 u23 => ?_)
          have H35 : UpG w [] w31 [[blk w.heap.size #[.slice dca d.cls.length dcc, .int .i64 d.width, .int .i64 d.start, .slice dna d.next.length dnc, .slice dba d.acc.length dbc] 25], [blk w1.heap.size #[.slice none 0 0, .int .i64 0, .int .i64 0, .slice none 0 0, .slice none 0 0] 25], [rowT (tyI .i64) (.slice a2_1 bl_1.length c2_1) 3 bl_1], [rowT tyLR (.slice a2_2 n2_1 c2_2) 23 Xs_1], [manyF (inLR tyB 4).row Xs_1], [rowT (tyI .i64) (.slice qa q.length qc) 3 q], [blk w5.heap.size #[.slice a2_3 ((numL q).length) c2_3, .int .i64 (((dd q).length : Nat) : Int), .int .i64 0, .slice ma mx.length mc, .slice a2 ((ac ++ [d.acc.getD ((hs.getD k 0).toNat) false]).length) c2] 25], [rowT (tyI .i64) (.slice a2_3 ((numL q).length) c2_3) 3 (numL q)], [rowT (tyI .i64) (.slice a2_4 ((firstsI (numL q) (((dd q).length : Nat) : Int)).length) c2_4) 3 (firstsI (numL q) (((dd q).length : Nat) : Int))], [rowT (tyI .i64) (.slice a3 ((mu ++ [bl_1.getD (dN d ((tt.getD k 0).toNat) ((firstsI (numL q) (((dd q).length : Nat) : Int)).getD jj 0)) 0]).length) c3) 3 (mu ++ [bl_1.getD (dN d ((tt.getD k 0).toNat) ((firstsI (numL q) (((dd q).length : Nat) : Int)).getD jj 0)) 0])], [rowT (tyI .i64) (.slice ta tt.length tc) 3 tt], [rowT (tyI .i64) (.slice ma mx.length mc) 3 mx], [rowT tyB (.slice a2 ((ac ++ [d.acc.getD ((hs.getD k 0).toNat) false]).length) c2) 4 (ac ++ [d.acc.getD ((hs.getD k 0).toNat) false])], [], [], [rowT (tyI .i64) (.slice (some ⟨w30.heap.size, 0, none⟩) ([(((dN d ((tt.getD k 0).toNat) ((firstsI (numL q) (((dd q).length : Nat) : Int)).getD jj 0)) : Nat) : Int)].length) ([(((dN d ((tt.getD k 0).toNat) ((firstsI (numL q) (((dd q).length : Nat) : Int)).getD jj 0)) : Nat) : Int)].length)) 3 [(((dN d ((tt.getD k 0).toNat) ((firstsI (numL q) (((dd q).length : Nat) : Int)).getD jj 0)) : Nat) : Int)]]] := H34.new' u23
          refine WL.op rfl (t_append (T := (tyI .i64)) (xs := tt) (ys := [(((dN d ((tt.getD k 0).toNat) ((firstsI (numL q) (((dd q).length : Nat) : Int)).getD jj 0)) : Nat) : Int)]) rfl Try.underlying22 sz3 rfl rfl rfl (H35.ownT 10 rfl) (H35.rdT 15 rfl) (by simp only [List.length_singleton]; omega) (by simp only [List.length_singleton]; omega) fun a4 c4 w32 u24 => ?_)
          have H36 : UpG w [] w32 [[blk w.heap.size #[.slice dca d.cls.length dcc, .int .i64 d.width, .int .i64 d.start, .slice dna d.next.length dnc, .slice dba d.acc.length dbc] 25], [blk w1.heap.size #[.slice none 0 0, .int .i64 0, .int .i64 0, .slice none 0 0, .slice none 0 0] 25], [rowT (tyI .i64) (.slice a2_1 bl_1.length c2_1) 3 bl_1], [rowT tyLR (.slice a2_2 n2_1 c2_2) 23 Xs_1], [manyF (inLR tyB 4).row Xs_1], [rowT (tyI .i64) (.slice qa q.length qc) 3 q], [blk w5.heap.size #[.slice a2_3 ((numL q).length) c2_3, .int .i64 (((dd q).length : Nat) : Int), .int .i64 0, .slice ma mx.length mc, .slice a2 ((ac ++ [d.acc.getD ((hs.getD k 0).toNat) false]).length) c2] 25], [rowT (tyI .i64) (.slice a2_3 ((numL q).length) c2_3) 3 (numL q)], [rowT (tyI .i64) (.slice a2_4 ((firstsI (numL q) (((dd q).length : Nat) : Int)).length) c2_4) 3 (firstsI (numL q) (((dd q).length : Nat) : Int))], [rowT (tyI .i64) (.slice a3 ((mu ++ [bl_1.getD (dN d ((tt.getD k 0).toNat) ((firstsI (numL q) (((dd q).length : Nat) : Int)).getD jj 0)) 0]).length) c3) 3 (mu ++ [bl_1.getD (dN d ((tt.getD k 0).toNat) ((firstsI (numL q) (((dd q).length : Nat) : Int)).getD jj 0)) 0])], [rowT (tyI .i64) (.slice a4 ((tt ++ [(((dN d ((tt.getD k 0).toNat) ((firstsI (numL q) (((dd q).length : Nat) : Int)).getD jj 0)) : Nat) : Int)]).length) c4) 3 (tt ++ [(((dN d ((tt.getD k 0).toNat) ((firstsI (numL q) (((dd q).length : Nat) : Int)).getD jj 0)) : Nat) : Int)])], [rowT (tyI .i64) (.slice ma mx.length mc) 3 mx], [rowT tyB (.slice a2 ((ac ++ [d.acc.getD ((hs.getD k 0).toNat) false]).length) c2) 4 (ac ++ [d.acc.getD ((hs.getD k 0).toNat) false])], [], [], []] := (H35.on 10 rfl u24).drop 15
          refine WL.op rfl (d_assign rfl ?_)
          refine WL.done (X.then_code ?_)
          refine W.region ?_
          refine WL.op rfl (d_fieldAddrB fld25_3 rfl rfl ?_)
          refine WL.op rfl (d_loadB Try.underlying22 rfl rfl (H36.blk 6 rfl) rfl ?_)
          refine WL.op rfl (d_move rfl ?_)
          refine WL.op rfl (t_buildSlice (T := (tyI .i64)) (xs := [((mu.length : Nat) : Int)]) (cs := #[.int .i64 ((mu.length : Nat) : Int)]) rfl Try.underlying22 sz3 rfl rfl rfl rfl (by kernel_rfl) rfl rfl fun w33 u25 => ?_)
          have H37 : UpG w [] w33 [[blk w.heap.size #[.slice dca d.cls.length dcc, .int .i64 d.width, .int .i64 d.start, .slice dna d.next.length dnc, .slice dba d.acc.length dbc] 25], [blk w1.heap.size #[.slice none 0 0, .int .i64 0, .int .i64 0, .slice none 0 0, .slice none 0 0] 25], [rowT (tyI .i64) (.slice a2_1 bl_1.length c2_1) 3 bl_1], [rowT tyLR (.slice a2_2 n2_1 c2_2) 23 Xs_1], [manyF (inLR tyB 4).row Xs_1], [rowT (tyI .i64) (.slice qa q.length qc) 3 q], [blk w5.heap.size #[.slice a2_3 ((numL q).length) c2_3, .int .i64 (((dd q).length : Nat) : Int), .int .i64 0, .slice ma mx.length mc, .slice a2 ((ac ++ [d.acc.getD ((hs.getD k 0).toNat) false]).length) c2] 25], [rowT (tyI .i64) (.slice a2_3 ((numL q).length) c2_3) 3 (numL q)], [rowT (tyI .i64) (.slice a2_4 ((firstsI (numL q) (((dd q).length : Nat) : Int)).length) c2_4) 3 (firstsI (numL q) (((dd q).length : Nat) : Int))], [rowT (tyI .i64) (.slice a3 ((mu ++ [bl_1.getD (dN d ((tt.getD k 0).toNat) ((firstsI (numL q) (((dd q).length : Nat) : Int)).getD jj 0)) 0]).length) c3) 3 (mu ++ [bl_1.getD (dN d ((tt.getD k 0).toNat) ((firstsI (numL q) (((dd q).length : Nat) : Int)).getD jj 0)) 0])], [rowT (tyI .i64) (.slice a4 ((tt ++ [(((dN d ((tt.getD k 0).toNat) ((firstsI (numL q) (((dd q).length : Nat) : Int)).getD jj 0)) : Nat) : Int)]).length) c4) 3 (tt ++ [(((dN d ((tt.getD k 0).toNat) ((firstsI (numL q) (((dd q).length : Nat) : Int)).getD jj 0)) : Nat) : Int)])], [rowT (tyI .i64) (.slice ma mx.length mc) 3 mx], [rowT tyB (.slice a2 ((ac ++ [d.acc.getD ((hs.getD k 0).toNat) false]).length) c2) 4 (ac ++ [d.acc.getD ((hs.getD k 0).toNat) false])], [], [], [], [rowT (tyI .i64) (.slice (some ⟨w32.heap.size, 0, none⟩) ([((mu.length : Nat) : Int)].length) ([((mu.length : Nat) : Int)].length)) 3 [((mu.length : Nat) : Int)]]] := H36.new' u25
          refine WL.op rfl (t_append (T := (tyI .i64)) (xs := mx) (ys := [((mu.length : Nat) : Int)]) rfl Try.underlying22 sz3 rfl rfl rfl (H37.ownT 11 rfl) (H37.rdT 16 rfl) (by simp only [List.length_singleton]; omega) (by simp only [List.length_singleton]; omega) fun a5 c5 w34 u26 => ?_)
          have H38 : UpG w [] w34 [[blk w.heap.size #[.slice dca d.cls.length dcc, .int .i64 d.width, .int .i64 d.start, .slice dna d.next.length dnc, .slice dba d.acc.length dbc] 25], [blk w1.heap.size #[.slice none 0 0, .int .i64 0, .int .i64 0, .slice none 0 0, .slice none 0 0] 25], [rowT (tyI .i64) (.slice a2_1 bl_1.length c2_1) 3 bl_1], [rowT tyLR (.slice a2_2 n2_1 c2_2) 23 Xs_1], [manyF (inLR tyB 4).row Xs_1], [rowT (tyI .i64) (.slice qa q.length qc) 3 q], [blk w5.heap.size #[.slice a2_3 ((numL q).length) c2_3, .int .i64 (((dd q).length : Nat) : Int), .int .i64 0, .slice ma mx.length mc, .slice a2 ((ac ++ [d.acc.getD ((hs.getD k 0).toNat) false]).length) c2] 25], [rowT (tyI .i64) (.slice a2_3 ((numL q).length) c2_3) 3 (numL q)], [rowT (tyI .i64) (.slice a2_4 ((firstsI (numL q) (((dd q).length : Nat) : Int)).length) c2_4) 3 (firstsI (numL q) (((dd q).length : Nat) : Int))], [rowT (tyI .i64) (.slice a3 ((mu ++ [bl_1.getD (dN d ((tt.getD k 0).toNat) ((firstsI (numL q) (((dd q).length : Nat) : Int)).getD jj 0)) 0]).length) c3) 3 (mu ++ [bl_1.getD (dN d ((tt.getD k 0).toNat) ((firstsI (numL q) (((dd q).length : Nat) : Int)).getD jj 0)) 0])], [rowT (tyI .i64) (.slice a4 ((tt ++ [(((dN d ((tt.getD k 0).toNat) ((firstsI (numL q) (((dd q).length : Nat) : Int)).getD jj 0)) : Nat) : Int)]).length) c4) 3 (tt ++ [(((dN d ((tt.getD k 0).toNat) ((firstsI (numL q) (((dd q).length : Nat) : Int)).getD jj 0)) : Nat) : Int)])], [rowT (tyI .i64) (.slice a5 ((mx ++ [((mu.length : Nat) : Int)]).length) c5) 3 (mx ++ [((mu.length : Nat) : Int)])], [rowT tyB (.slice a2 ((ac ++ [d.acc.getD ((hs.getD k 0).toNat) false]).length) c2) 4 (ac ++ [d.acc.getD ((hs.getD k 0).toNat) false])], [], [], [], []] := (H37.on 11 rfl u26).drop 16
          refine WL.op rfl (d_fieldAddrB fld25_3 rfl rfl ?_)
          refine WL.op0 (d_storeB sz22 rfl rfl rfl (H38.blk 6 rfl) rfl fun w35 u27 => ?_)
          have H39 : UpG w [] w35 [[blk w.heap.size #[.slice dca d.cls.length dcc, .int .i64 d.width, .int .i64 d.start, .slice dna d.next.length dnc, .slice dba d.acc.length dbc] 25], [blk w1.heap.size #[.slice none 0 0, .int .i64 0, .int .i64 0, .slice none 0 0, .slice none 0 0] 25], [rowT (tyI .i64) (.slice a2_1 bl_1.length c2_1) 3 bl_1], [rowT tyLR (.slice a2_2 n2_1 c2_2) 23 Xs_1], [manyF (inLR tyB 4).row Xs_1], [rowT (tyI .i64) (.slice qa q.length qc) 3 q], [blk w5.heap.size #[.slice a2_3 ((numL q).length) c2_3, .int .i64 (((dd q).length : Nat) : Int), .int .i64 0, .slice a5 ((mx ++ [((mu.length : Nat) : Int)]).length) c5, .slice a2 ((ac ++ [d.acc.getD ((hs.getD k 0).toNat) false]).length) c2] 25], [rowT (tyI .i64) (.slice a2_3 ((numL q).length) c2_3) 3 (numL q)], [rowT (tyI .i64) (.slice a2_4 ((firstsI (numL q) (((dd q).length : Nat) : Int)).length) c2_4) 3 (firstsI (numL q) (((dd q).length : Nat) : Int))], [rowT (tyI .i64) (.slice a3 ((mu ++ [bl_1.getD (dN d ((tt.getD k 0).toNat) ((firstsI (numL q) (((dd q).length : Nat) : Int)).getD jj 0)) 0]).length) c3) 3 (mu ++ [bl_1.getD (dN d ((tt.getD k 0).toNat) ((firstsI (numL q) (((dd q).length : Nat) : Int)).getD jj 0)) 0])], [rowT (tyI .i64) (.slice a4 ((tt ++ [(((dN d ((tt.getD k 0).toNat) ((firstsI (numL q) (((dd q).length : Nat) : Int)).getD jj 0)) : Nat) : Int)]).length) c4) 3 (tt ++ [(((dN d ((tt.getD k 0).toNat) ((firstsI (numL q) (((dd q).length : Nat) : Int)).getD jj 0)) : Nat) : Int)])], [rowT (tyI .i64) (.slice a5 ((mx ++ [((mu.length : Nat) : Int)]).length) c5) 3 (mx ++ [((mu.length : Nat) : Int)])], [rowT tyB (.slice a2 ((ac ++ [d.acc.getD ((hs.getD k 0).toNat) false]).length) c2) 4 (ac ++ [d.acc.getD ((hs.getD k 0).toNat) false])], [], [], [], []] := H38.on 6 rfl u27
          refine WL.done (X.block_normal (X.then_code ?_))
          refine W.pick [17, 16, 19, 18, 15, 12, 3, 2, 1] (Γ' := [(17, .slice a4 ((tt ++ [(((dN d ((tt.getD k 0).toNat) ((firstsI (numL q) (((dd q).length : Nat) : Int)).getD jj 0)) : Nat) : Int)]).length) c4), (16, .slice a3 ((mu ++ [bl_1.getD (dN d ((tt.getD k 0).toNat) ((firstsI (numL q) (((dd q).length : Nat) : Int)).getD jj 0)) 0]).length) c3), (19, .int .i64 ((jj : Nat) : Int)), (18, .int .i64 ((k : Nat) : Int)), (15, .slice a2_4 ((firstsI (numL q) (((dd q).length : Nat) : Int)).length) c2_4), (12, .pointer (some ⟨w5.heap.size, 0, none⟩)), (3, .slice a2_1 bl_1.length c2_1), (2, .pointer (some ⟨w1.heap.size, 0, none⟩)), (1, .pointer (some ⟨w.heap.size, 0, none⟩))]) rfl ?_
          refine W.region ?_
          refine WL.op rfl (d_move rfl ?_)
          refine WL.op rfl (d_add rfl rfl (by omega) (by omega) ?_)
          refine WL.op rfl (d_assign rfl ?_)
          refine WL.done ?_
          exact X.next [19, 18, 17, 16, 15, 12, 3, 2, 1] (Γ' := [(19, .int .i64 (((jj + 1) : Nat) : Int)), (18, .int .i64 ((k : Nat) : Int)), (17, .slice a4 ((tt ++ [(((dN d ((tt.getD k 0).toNat) ((firstsI (numL q) (((dd q).length : Nat) : Int)).getD jj 0)) : Nat) : Int)]).length) c4), (16, .slice a3 ((mu ++ [bl_1.getD (dN d ((tt.getD k 0).toNat) ((firstsI (numL q) (((dd q).length : Nat) : Int)).getD jj 0)) 0]).length) c3), (15, .slice a2_4 ((firstsI (numL q) (((dd q).length : Nat) : Int)).length) c2_4), (12, .pointer (some ⟨w5.heap.size, 0, none⟩)), (3, .slice a2_1 bl_1.length c2_1), (2, .pointer (some ⟨w1.heap.size, 0, none⟩)), (1, .pointer (some ⟨w.heap.size, 0, none⟩))]) rfl ((firstsI (numL q) ((dd q).length : Int)).length - (jj + 1)) (by omega) ⟨jj + 1, tt ++ [(((dN d ((tt.getD k 0).toNat) ((firstsI (numL q) (((dd q).length : Nat) : Int)).getD jj 0)) : Nat) : Int)], a4, c4, mx ++ [((mu.length : Nat) : Int)], a5, c5, mu ++ [bl_1.getD (dN d ((tt.getD k 0).toNat) ((firstsI (numL q) (((dd q).length : Nat) : Int)).getD jj 0)) 0], a3, c3, rfl, (H39.re rfl), (by omega), (by first | (rw [hde, show ((mu.length : Nat) : Int) = ((tt.length : Nat) : Int) by omega]; exact nu_new' hF (by omega) (by rw [← hMj, ← hdb]; exact c109)) | (rw [hdb, hMj]; exact nu_old' hF (by omega) (by rw [← hMj, ← hdb]; exact c109))), (by first | exact hMj | (rw [hde, hdb, hMj, List.map_append]; rfl)), rfl⟩
        · skip
          refine W.skip (X.then_code ?_)
          refine W.region ?_
          refine WL.op rfl (d_fieldAddrB fld25_3 rfl rfl ?_)
          refine WL.op rfl (d_loadB Try.underlying22 rfl rfl (H32.blk 6 rfl) rfl ?_)
          refine WL.op rfl (d_move rfl ?_)
          refine WL.op rfl (t_buildSlice (T := (tyI .i64)) (xs := [firstI (bl_1.getD (dN d ((tt.getD k 0).toNat) ((firstsI (numL q) (((dd q).length : Nat) : Int)).getD jj 0)) 0) mu]) (cs := #[.int .i64 (firstI (bl_1.getD (dN d ((tt.getD k 0).toNat) ((firstsI (numL q) (((dd q).length : Nat) : Int)).getD jj 0)) 0) mu)]) rfl Try.underlying22 sz3 rfl rfl rfl rfl (by kernel_rfl) rfl rfl fun w36 u28 => ?_)
          have H40 : UpG w [] w36 [[blk w.heap.size #[.slice dca d.cls.length dcc, .int .i64 d.width, .int .i64 d.start, .slice dna d.next.length dnc, .slice dba d.acc.length dbc] 25], [blk w1.heap.size #[.slice none 0 0, .int .i64 0, .int .i64 0, .slice none 0 0, .slice none 0 0] 25], [rowT (tyI .i64) (.slice a2_1 bl_1.length c2_1) 3 bl_1], [rowT tyLR (.slice a2_2 n2_1 c2_2) 23 Xs_1], [manyF (inLR tyB 4).row Xs_1], [rowT (tyI .i64) (.slice qa q.length qc) 3 q], [blk w5.heap.size #[.slice a2_3 ((numL q).length) c2_3, .int .i64 (((dd q).length : Nat) : Int), .int .i64 0, .slice ma mx.length mc, .slice a2 ((ac ++ [d.acc.getD ((hs.getD k 0).toNat) false]).length) c2] 25], [rowT (tyI .i64) (.slice a2_3 ((numL q).length) c2_3) 3 (numL q)], [rowT (tyI .i64) (.slice a2_4 ((firstsI (numL q) (((dd q).length : Nat) : Int)).length) c2_4) 3 (firstsI (numL q) (((dd q).length : Nat) : Int))], [rowT (tyI .i64) (.slice mua mu.length muc) 3 mu], [rowT (tyI .i64) (.slice ta tt.length tc) 3 tt], [rowT (tyI .i64) (.slice ma mx.length mc) 3 mx], [rowT tyB (.slice a2 ((ac ++ [d.acc.getD ((hs.getD k 0).toNat) false]).length) c2) 4 (ac ++ [d.acc.getD ((hs.getD k 0).toNat) false])], [], [rowT (tyI .i64) (.slice (some ⟨w28.heap.size, 0, none⟩) ([firstI (bl_1.getD (dN d ((tt.getD k 0).toNat) ((firstsI (numL q) (((dd q).length : Nat) : Int)).getD jj 0)) 0) mu].length) ([firstI (bl_1.getD (dN d ((tt.getD k 0).toNat) ((firstsI (numL q) (((dd q).length : Nat) : Int)).getD jj 0)) 0) mu].length)) 3 [firstI (bl_1.getD (dN d ((tt.getD k 0).toNat) ((firstsI (numL q) (((dd q).length : Nat) : Int)).getD jj 0)) 0) mu]]] := H32.new' u28
          refine WL.op rfl (t_append (T := (tyI .i64)) (xs := mx) (ys := [firstI (bl_1.getD (dN d ((tt.getD k 0).toNat) ((firstsI (numL q) (((dd q).length : Nat) : Int)).getD jj 0)) 0) mu]) rfl Try.underlying22 sz3 rfl rfl rfl (H40.ownT 11 rfl) (H40.rdT 14 rfl) (by simp only [List.length_singleton]; omega) (by simp only [List.length_singleton]; omega) fun a6 c6 w37 u29 => ?_)
          have H41 : UpG w [] w37 [[blk w.heap.size #[.slice dca d.cls.length dcc, .int .i64 d.width, .int .i64 d.start, .slice dna d.next.length dnc, .slice dba d.acc.length dbc] 25], [blk w1.heap.size #[.slice none 0 0, .int .i64 0, .int .i64 0, .slice none 0 0, .slice none 0 0] 25], [rowT (tyI .i64) (.slice a2_1 bl_1.length c2_1) 3 bl_1], [rowT tyLR (.slice a2_2 n2_1 c2_2) 23 Xs_1], [manyF (inLR tyB 4).row Xs_1], [rowT (tyI .i64) (.slice qa q.length qc) 3 q], [blk w5.heap.size #[.slice a2_3 ((numL q).length) c2_3, .int .i64 (((dd q).length : Nat) : Int), .int .i64 0, .slice ma mx.length mc, .slice a2 ((ac ++ [d.acc.getD ((hs.getD k 0).toNat) false]).length) c2] 25], [rowT (tyI .i64) (.slice a2_3 ((numL q).length) c2_3) 3 (numL q)], [rowT (tyI .i64) (.slice a2_4 ((firstsI (numL q) (((dd q).length : Nat) : Int)).length) c2_4) 3 (firstsI (numL q) (((dd q).length : Nat) : Int))], [rowT (tyI .i64) (.slice mua mu.length muc) 3 mu], [rowT (tyI .i64) (.slice ta tt.length tc) 3 tt], [rowT (tyI .i64) (.slice a6 ((mx ++ [firstI (bl_1.getD (dN d ((tt.getD k 0).toNat) ((firstsI (numL q) (((dd q).length : Nat) : Int)).getD jj 0)) 0) mu]).length) c6) 3 (mx ++ [firstI (bl_1.getD (dN d ((tt.getD k 0).toNat) ((firstsI (numL q) (((dd q).length : Nat) : Int)).getD jj 0)) 0) mu])], [rowT tyB (.slice a2 ((ac ++ [d.acc.getD ((hs.getD k 0).toNat) false]).length) c2) 4 (ac ++ [d.acc.getD ((hs.getD k 0).toNat) false])], [], []] := (H40.on 11 rfl u29).drop 14
          refine WL.op rfl (d_fieldAddrB fld25_3 rfl rfl ?_)
          refine WL.op0 (d_storeB sz22 rfl rfl rfl (H41.blk 6 rfl) rfl fun w38 u30 => ?_)
          have H42 : UpG w [] w38 [[blk w.heap.size #[.slice dca d.cls.length dcc, .int .i64 d.width, .int .i64 d.start, .slice dna d.next.length dnc, .slice dba d.acc.length dbc] 25], [blk w1.heap.size #[.slice none 0 0, .int .i64 0, .int .i64 0, .slice none 0 0, .slice none 0 0] 25], [rowT (tyI .i64) (.slice a2_1 bl_1.length c2_1) 3 bl_1], [rowT tyLR (.slice a2_2 n2_1 c2_2) 23 Xs_1], [manyF (inLR tyB 4).row Xs_1], [rowT (tyI .i64) (.slice qa q.length qc) 3 q], [blk w5.heap.size #[.slice a2_3 ((numL q).length) c2_3, .int .i64 (((dd q).length : Nat) : Int), .int .i64 0, .slice a6 ((mx ++ [firstI (bl_1.getD (dN d ((tt.getD k 0).toNat) ((firstsI (numL q) (((dd q).length : Nat) : Int)).getD jj 0)) 0) mu]).length) c6, .slice a2 ((ac ++ [d.acc.getD ((hs.getD k 0).toNat) false]).length) c2] 25], [rowT (tyI .i64) (.slice a2_3 ((numL q).length) c2_3) 3 (numL q)], [rowT (tyI .i64) (.slice a2_4 ((firstsI (numL q) (((dd q).length : Nat) : Int)).length) c2_4) 3 (firstsI (numL q) (((dd q).length : Nat) : Int))], [rowT (tyI .i64) (.slice mua mu.length muc) 3 mu], [rowT (tyI .i64) (.slice ta tt.length tc) 3 tt], [rowT (tyI .i64) (.slice a6 ((mx ++ [firstI (bl_1.getD (dN d ((tt.getD k 0).toNat) ((firstsI (numL q) (((dd q).length : Nat) : Int)).getD jj 0)) 0) mu]).length) c6) 3 (mx ++ [firstI (bl_1.getD (dN d ((tt.getD k 0).toNat) ((firstsI (numL q) (((dd q).length : Nat) : Int)).getD jj 0)) 0) mu])], [rowT tyB (.slice a2 ((ac ++ [d.acc.getD ((hs.getD k 0).toNat) false]).length) c2) 4 (ac ++ [d.acc.getD ((hs.getD k 0).toNat) false])], [], []] := H41.on 6 rfl u30
          refine WL.done (X.block_normal (X.then_code ?_))
          refine W.region ?_
          refine WL.op rfl (d_move rfl ?_)
          refine WL.op rfl (d_add rfl rfl (by omega) (by omega) ?_)
          refine WL.op rfl (d_assign rfl ?_)
          refine WL.done ?_
          exact X.next [19, 18, 17, 16, 15, 12, 3, 2, 1] (Γ' := [(19, .int .i64 (((jj + 1) : Nat) : Int)), (18, .int .i64 ((k : Nat) : Int)), (17, .slice ta tt.length tc), (16, .slice mua mu.length muc), (15, .slice a2_4 ((firstsI (numL q) (((dd q).length : Nat) : Int)).length) c2_4), (12, .pointer (some ⟨w5.heap.size, 0, none⟩)), (3, .slice a2_1 bl_1.length c2_1), (2, .pointer (some ⟨w1.heap.size, 0, none⟩)), (1, .pointer (some ⟨w.heap.size, 0, none⟩))]) rfl ((firstsI (numL q) ((dd q).length : Int)).length - (jj + 1)) (by omega) ⟨jj + 1, tt, ta, tc, mx ++ [firstI (bl_1.getD (dN d ((tt.getD k 0).toNat) ((firstsI (numL q) (((dd q).length : Nat) : Int)).getD jj 0)) 0) mu], a6, c6, mu, mua, muc, rfl, (H42.re rfl), (by omega), (by first | (rw [hde, show ((mu.length : Nat) : Int) = ((tt.length : Nat) : Int) by omega]; exact nu_new' hF (by omega) (by rw [← hMj, ← hdb]; exact c109)) | (rw [hdb, hMj]; exact nu_old' hF (by omega) (by rw [← hMj, ← hdb]; exact c109))), (by first | exact hMj | (rw [hde, hdb, hMj, List.map_append]; rfl)), rfl⟩
      · skip
        refine W.exit (X.then_exit (X.then_exit (X.block_exit (X.block_normal (X.then_code ?_)))))
        refine W.region ?_
        refine WL.op rfl (d_move rfl ?_)
        refine WL.op rfl (d_add rfl rfl (by omega) (by omega) ?_)
        refine WL.op rfl (d_assign rfl ?_)
        refine WL.done ?_
        obtain ⟨rr, hrr⟩ := (NuI.at' hrt hbk hfs hN hkh hjj hF).2
        have hkt : k + 1 ≤ tt.length := by rw [hrr]; simp; omega
        exact X.next [18, 17, 16, 15, 12, 3, 2, 1] (Γ' := [(18, .int .i64 (((k + 1) : Nat) : Int)), (17, .slice ta tt.length tc), (16, .slice mua mu.length muc), (15, .slice a2_4 ((firstsI (numL q) (((dd q).length : Nat) : Int)).length) c2_4), (12, .pointer (some ⟨w5.heap.size, 0, none⟩)), (3, .slice a2_1 bl_1.length c2_1), (2, .pointer (some ⟨w1.heap.size, 0, none⟩)), (1, .pointer (some ⟨w.heap.size, 0, none⟩))]) rfl (4097 - (k + 1)) (by omega) ⟨k + 1, tt, ta, tc, mx, ma, mc, ac ++ [d.acc.getD ((hs.getD k 0).toNat) false], a2, c2, mu, mua, muc, rfl, (H29.re rfl), (by omega), (by exact (NuI.at' hrt hbk hfs hN hkh hjj hF).1.next (by omega)), (by exact hMj), (by rw [hA]; exact acc_step hkh hrr), (by exact numLoop_next hR hkh (by omega) (by omega) hF), rfl⟩
    · skip
      refine W.exit (X.then_exit (X.then_exit (X.block_exit (X.then_code ?_))))
      refine W.seq ?_
      refine W.region ?_
      refine WL.op rfl (d_loadAB [.slice a2_3 ((numL q).length) c2_3, .int .i64 (((dd q).length : Nat) : Int), .int .i64 0, .slice na nx.length nc, .slice ba ac.length bc] Try.underlying25 rfl sz25 rfl (H24.blk 6 rfl) rfl rfl ?_)
      refine WL.op0 (d_storeAB (us := [.slice a2_3 ((numL q).length) c2_3, .int .i64 (((dd q).length : Nat) : Int), .int .i64 0, .slice na nx.length nc, .slice ba ac.length bc]) (cs' := #[.slice a2_3 ((numL q).length) c2_3, .int .i64 (((dd q).length : Nat) : Int), .int .i64 0, .slice na nx.length nc, .slice ba ac.length bc]) sz25 rfl rfl rfl rfl (H24.blk 1 rfl) rfl rfl fun w39 u31 => ?_)
      have H43 : UpG w [] w39 [[blk w.heap.size #[.slice dca d.cls.length dcc, .int .i64 d.width, .int .i64 d.start, .slice dna d.next.length dnc, .slice dba d.acc.length dbc] 25], [blk w1.heap.size #[.slice a2_3 ((numL q).length) c2_3, .int .i64 (((dd q).length : Nat) : Int), .int .i64 0, .slice na nx.length nc, .slice ba ac.length bc] 25], [rowT (tyI .i64) (.slice a2_1 bl_1.length c2_1) 3 bl_1], [rowT tyLR (.slice a2_2 n2_1 c2_2) 23 Xs_1], [manyF (inLR tyB 4).row Xs_1], [rowT (tyI .i64) (.slice qa q.length qc) 3 q], [blk w5.heap.size #[.slice a2_3 ((numL q).length) c2_3, .int .i64 (((dd q).length : Nat) : Int), .int .i64 0, .slice na nx.length nc, .slice ba ac.length bc] 25], [rowT (tyI .i64) (.slice a2_3 ((numL q).length) c2_3) 3 (numL q)], [rowT (tyI .i64) (.slice a2_4 ((firstsI (numL q) (((dd q).length : Nat) : Int)).length) c2_4) 3 (firstsI (numL q) (((dd q).length : Nat) : Int))], [rowT (tyI .i64) (.slice mta mt.length mtc) 3 mt], [rowT (tyI .i64) (.slice ha hs.length hc) 3 hs], [rowT (tyI .i64) (.slice na nx.length nc) 3 nx], [rowT tyB (.slice ba ac.length bc) 4 ac]] := H24.on 1 rfl u31
      refine WL.done (X.then_code ?_)
      refine W.ret (X.retR1 rfl (rv_cellA [.slice a2_3 ((numL q).length) c2_3, .int .i64 (((dd q).length : Nat) : Int), .int .i64 0, .slice na nx.length nc, .slice ba ac.length bc] Try.underlying25 rfl sz25 rfl (H43.blk 1 rfl) rfl rfl) ?_)
      obtain ⟨hn1, hn2⟩ := numLoop_done hR (by omega)
      rw [hbe] at hn1 hn2
      obtain ⟨e1, e2, e3, e4, e5⟩ := leastD_fields hq hn1 hn2
      have e6 : ac = hs.map (accF d) := by rw [hA, List.take_of_length_le (by omega)]
      rw [e1, e2, e3, e4, e5, ← e6]
      exact ⟨a2_3, c2_3, na, nc, ba, bc, (by rfl), (Upd.sel H43 (l := [7, 11, 12]) rfl rfl)⟩
end Go.Proofs.Ytoeockpkkmgieaa


/- The walks of functions, printed by wip/tools/gw.py. -/
namespace Go.Proofs.Ytoeockpkkmgieaa
open Go Go.Sx
set_option linter.unusedVariables false
set_option linter.unusedSimpArgs false
set_option maxRecDepth 20000 in
theorem sameM11_any (a : DfaD) (aca : Option Addr) (ana : Option Addr) (aba : Option Addr) (acc : Nat) (anc : Nat) (abc : Nat) (b : DfaD) (bca : Option Addr) (bna : Option Addr) (bba : Option Addr) (bcc : Nat) (bnc : Nat) (bbc : Nat) (w : World) (rca : RdT (tyI .i64) w (.slice aca a.cls.length acc) a.cls) (rna : RdT (tyI .i64) w (.slice ana a.next.length anc) a.next) (rba : RdT tyB w (.slice aba a.acc.length abc) a.acc) (rcb : RdT (tyI .i64) w (.slice bca b.cls.length bcc) b.cls) (rnb : RdT (tyI .i64) w (.slice bna b.next.length bnc) b.next) (rbb : RdT tyB w (.slice bba b.acc.length bbc) b.acc) :
    Calls Try.prog 41 #[.agg #[.slice aca a.cls.length acc, .int .i64 a.width, .int .i64 a.start, .slice ana a.next.length anc, .slice aba a.acc.length abc], .agg #[.slice bca b.cls.length bcc, .int .i64 b.width, .int .i64 b.start, .slice bna b.next.length bnc, .slice bba b.acc.length bbc]] w (Ret fun v w' => v = .bool (sameD a b) ∧ Upd w [] w' []) := by
  have le_rca := rca.le
  have le_rna := rna.le
  have le_rba := rba.le
  have le_rcb := rcb.le
  have le_rnb := rnb.le
  have le_rbb := rbb.le
  refine calls_of_W (args := [.agg #[.slice aca a.cls.length acc, .int .i64 a.width, .int .i64 a.start, .slice ana a.next.length anc, .slice aba a.acc.length abc], .agg #[.slice bca b.cls.length bcc, .int .i64 b.width, .int .i64 b.start, .slice bna b.next.length bnc, .slice bba b.acc.length bbc]]) Try.func41 rfl rfl rfl ?_
  have H0 : UpG w [] w [] := UpG.nil w
  show W _ _ _ _ [(0, .agg #[.slice aca a.cls.length acc, .int .i64 a.width, .int .i64 a.start, .slice ana a.next.length anc, .slice aba a.acc.length abc]), (1, .agg #[.slice bca b.cls.length bcc, .int .i64 b.width, .int .i64 b.start, .slice bna b.next.length bnc, .slice bba b.acc.length bbc])] w
  refine W.seq ?_
  refine W.region ?_
  refine WL.op rfl (d_box rfl fun w1 u1 => ?_)
  have H1 : UpG w [] w1 [[blk w.heap.size #[.slice aca a.cls.length acc, .int .i64 a.width, .int .i64 a.start, .slice ana a.next.length anc, .slice aba a.acc.length abc] 25]] := H0.new' u1
  refine WL.op rfl (d_box rfl fun w2 u2 => ?_)
  have H2 : UpG w [] w2 [[blk w.heap.size #[.slice aca a.cls.length acc, .int .i64 a.width, .int .i64 a.start, .slice ana a.next.length anc, .slice aba a.acc.length abc] 25], [blk w1.heap.size #[.slice bca b.cls.length bcc, .int .i64 b.width, .int .i64 b.start, .slice bna b.next.length bnc, .slice bba b.acc.length bbc] 25]] := H1.new' u2
  refine WL.op rfl (d_assign rfl ?_)
  refine WL.done (X.then_code ?_)
  refine W.seq ?_
  refine W.seq ?_
  refine W.region ?_
  refine WL.op rfl (d_fieldAddrB fld25_0 rfl rfl ?_)
  refine WL.op rfl (d_loadB Try.underlying22 rfl rfl (H2.blk 0 rfl) rfl ?_)
  refine WL.op rfl (d_fieldAddrB fld25_0 rfl rfl ?_)
  refine WL.op rfl (d_loadB Try.underlying22 rfl rfl (H2.blk 1 rfl) rfl ?_)
  refine WL.op rfl (d_call ok32 rfl (Ret.calls (same10_any aca a.cls acc a.cls.length bca b.cls bcc b.cls.length w2 (rca.at H2) (rcb.at H2) ) fun _ w3 p1 => ?_))
  obtain ⟨rfl, u3⟩ := p1
  have H3 : UpG w [] w3 [[blk w.heap.size #[.slice aca a.cls.length acc, .int .i64 a.width, .int .i64 a.start, .slice ana a.next.length anc, .slice aba a.acc.length abc] 25], [blk w1.heap.size #[.slice bca b.cls.length bcc, .int .i64 b.width, .int .i64 b.start, .slice bna b.next.length bnc, .slice bba b.acc.length bbc] 25]] := H2.call u3
  refine WL.op rfl (d_not (p := a.cls = b.cls) rfl ?_)
  refine WL.op rfl (d_move rfl ?_)
  refine WL.part 12 (p := ¬ (a.cls = b.cls)) rfl (fun g58 => ?_) (fun g58 => ?_)
  · skip
    refine WL.opN rfl rfl rfl rfl ?_
    refine WL.opN rfl rfl rfl rfl ?_
    refine WL.opN rfl rfl rfl rfl ?_
    refine WL.opN rfl rfl rfl rfl ?_
    refine WL.opN rfl rfl rfl rfl ?_
    refine WL.opN rfl rfl rfl rfl ?_
    refine WL.op rfl (d_pick rfl rfl ?_)
    refine WL.op rfl (d_move rfl ?_)
    refine WL.opN rfl rfl rfl rfl ?_
    refine WL.opN rfl rfl rfl rfl ?_
    refine WL.opN rfl rfl rfl rfl ?_
    refine WL.opN rfl rfl rfl rfl ?_
    refine WL.opN rfl rfl rfl rfl ?_
    refine WL.op rfl (d_pick rfl rfl ?_)
    refine WL.op rfl (d_move rfl ?_)
    refine WL.opN rfl rfl rfl rfl ?_
    refine WL.opN rfl rfl rfl rfl ?_
    refine WL.opN rfl rfl rfl rfl ?_
    refine WL.opN rfl rfl rfl rfl ?_
    refine WL.opN rfl rfl rfl rfl ?_
    refine WL.op rfl (d_pick rfl rfl ?_)
    refine WL.op rfl (d_move rfl ?_)
    refine WL.opN rfl rfl rfl rfl ?_
    refine WL.opN rfl rfl rfl rfl ?_
    refine WL.opN rfl rfl rfl rfl ?_
    refine WL.opN rfl rfl rfl rfl ?_
    refine WL.opN rfl rfl rfl rfl ?_
    refine WL.opN rfl rfl rfl rfl ?_
    refine WL.opN rfl rfl rfl rfl ?_
    refine WL.op rfl (d_pick rfl rfl ?_)
    refine WL.done (X.then_code ?_)
    refine W.pick [42, 4, 3, 2] (Γ' := [(42, .bool true), (4, .bool false), (3, .pointer (some ⟨w1.heap.size, 0, none⟩)), (2, .pointer (some ⟨w.heap.size, 0, none⟩))]) rfl ?_
    refine W.ift rfl ?_
    refine W.seq ?_
    refine W.region ?_
    refine WL.op rfl (d_assign rfl ?_)
    refine WL.done (X.then_code ?_)
    refine W.ret (X.then_ret (X.ret1 rfl rfl ?_))
    exact ⟨(by first | (simp_all [sameD]; done) | (rw [sameD, decide_eq_false (by rintro ⟨_, _, _, _, h9⟩; rw [h9] at c58; exact c58 rfl)])), H3.noneL⟩
  · skip
    refine WL.opG rfl rfl rfl (d_fieldAddrB fld25_3 rfl rfl ?_)
    refine WL.opG rfl rfl rfl (d_loadB Try.underlying22 rfl rfl (H3.blk 0 rfl) rfl ?_)
    refine WL.opG rfl rfl rfl (d_fieldAddrB fld25_3 rfl rfl ?_)
    refine WL.opG rfl rfl rfl (d_loadB Try.underlying22 rfl rfl (H3.blk 1 rfl) rfl ?_)
    refine WL.opG rfl rfl rfl (d_call ok32 rfl (Ret.calls (same10_any ana a.next anc a.next.length bna b.next bnc b.next.length w3 (rna.at H3) (rnb.at H3) ) fun _ w4 p2 => ?_))
    obtain ⟨rfl, u4⟩ := p2
    have H4 : UpG w [] w4 [[blk w.heap.size #[.slice aca a.cls.length acc, .int .i64 a.width, .int .i64 a.start, .slice ana a.next.length anc, .slice aba a.acc.length abc] 25], [blk w1.heap.size #[.slice bca b.cls.length bcc, .int .i64 b.width, .int .i64 b.start, .slice bna b.next.length bnc, .slice bba b.acc.length bbc] 25]] := H3.call u4
    refine WL.opG rfl rfl rfl (d_not (p := a.next = b.next) rfl ?_)
    refine WL.op rfl (d_pick rfl rfl ?_)
    refine WL.op rfl (d_move rfl ?_)
    refine WL.part 20 (p := ¬ (a.next = b.next)) rfl (fun g58x => ?_) (fun g58x => ?_)
    · skip
      refine WL.opN rfl rfl rfl rfl ?_
      refine WL.opN rfl rfl rfl rfl ?_
      refine WL.opN rfl rfl rfl rfl ?_
      refine WL.opN rfl rfl rfl rfl ?_
      refine WL.opN rfl rfl rfl rfl ?_
      refine WL.op rfl (d_pick rfl rfl ?_)
      refine WL.op rfl (d_move rfl ?_)
      refine WL.opN rfl rfl rfl rfl ?_
      refine WL.opN rfl rfl rfl rfl ?_
      refine WL.opN rfl rfl rfl rfl ?_
      refine WL.opN rfl rfl rfl rfl ?_
      refine WL.opN rfl rfl rfl rfl ?_
      refine WL.op rfl (d_pick rfl rfl ?_)
      refine WL.op rfl (d_move rfl ?_)
      refine WL.opN rfl rfl rfl rfl ?_
      refine WL.opN rfl rfl rfl rfl ?_
      refine WL.opN rfl rfl rfl rfl ?_
      refine WL.opN rfl rfl rfl rfl ?_
      refine WL.opN rfl rfl rfl rfl ?_
      refine WL.opN rfl rfl rfl rfl ?_
      refine WL.opN rfl rfl rfl rfl ?_
      refine WL.op rfl (d_pick rfl rfl ?_)
      refine WL.done (X.then_code ?_)
      refine W.pick [42, 4, 3, 2] (Γ' := [(42, .bool true), (4, .bool false), (3, .pointer (some ⟨w1.heap.size, 0, none⟩)), (2, .pointer (some ⟨w.heap.size, 0, none⟩))]) rfl ?_
      refine W.ift rfl ?_
      refine W.seq ?_
      refine W.region ?_
      refine WL.op rfl (d_assign rfl ?_)
      refine WL.done (X.then_code ?_)
      refine W.ret (X.then_ret (X.ret1 rfl rfl ?_))
      exact ⟨(by first | (simp_all [sameD]; done) | (rw [sameD, decide_eq_false (by rintro ⟨_, _, _, _, h9⟩; rw [h9] at c58; exact c58 rfl)])), H4.noneL⟩
    · skip
      refine WL.opG rfl rfl rfl (d_fieldAddrB fld25_1 rfl rfl ?_)
      refine WL.opG rfl rfl rfl (d_loadB Try.underlying3 rfl rfl (H4.blk 0 rfl) rfl ?_)
      refine WL.opG rfl rfl rfl (d_fieldAddrB fld25_1 rfl rfl ?_)
      refine WL.opG rfl rfl rfl (d_loadB Try.underlying3 rfl rfl (H4.blk 1 rfl) rfl ?_)
      refine WL.opG rfl rfl rfl (d_cmp (decide (a.width ≠ b.width)) rfl rfl rfl ?_)
      refine WL.op rfl (d_pick rfl rfl ?_)
      refine WL.op rfl (d_move rfl ?_)
      refine WL.part 27 (p := a.width ≠ b.width) rfl (fun g58xx => ?_) (fun g58xx => ?_)
      · skip
        refine WL.opN rfl rfl rfl rfl ?_
        refine WL.opN rfl rfl rfl rfl ?_
        refine WL.opN rfl rfl rfl rfl ?_
        refine WL.opN rfl rfl rfl rfl ?_
        refine WL.opN rfl rfl rfl rfl ?_
        refine WL.op rfl (d_pick rfl rfl ?_)
        refine WL.op rfl (d_move rfl ?_)
        refine WL.opN rfl rfl rfl rfl ?_
        refine WL.opN rfl rfl rfl rfl ?_
        refine WL.opN rfl rfl rfl rfl ?_
        refine WL.opN rfl rfl rfl rfl ?_
        refine WL.opN rfl rfl rfl rfl ?_
        refine WL.opN rfl rfl rfl rfl ?_
        refine WL.opN rfl rfl rfl rfl ?_
        refine WL.op rfl (d_pick rfl rfl ?_)
        refine WL.done (X.then_code ?_)
        refine W.pick [42, 4, 3, 2] (Γ' := [(42, .bool true), (4, .bool false), (3, .pointer (some ⟨w1.heap.size, 0, none⟩)), (2, .pointer (some ⟨w.heap.size, 0, none⟩))]) rfl ?_
        refine W.ift rfl ?_
        refine W.seq ?_
        refine W.region ?_
        refine WL.op rfl (d_assign rfl ?_)
        refine WL.done (X.then_code ?_)
        refine W.ret (X.then_ret (X.ret1 rfl rfl ?_))
        exact ⟨(by first | (simp_all [sameD]; done) | (rw [sameD, decide_eq_false (by rintro ⟨_, _, _, _, h9⟩; rw [h9] at c58; exact c58 rfl)])), H4.noneL⟩
      · skip
        refine WL.opG rfl rfl rfl (d_fieldAddrB fld25_2 rfl rfl ?_)
        refine WL.opG rfl rfl rfl (d_loadB Try.underlying3 rfl rfl (H4.blk 0 rfl) rfl ?_)
        refine WL.opG rfl rfl rfl (d_fieldAddrB fld25_2 rfl rfl ?_)
        refine WL.opG rfl rfl rfl (d_loadB Try.underlying3 rfl rfl (H4.blk 1 rfl) rfl ?_)
        refine WL.opG rfl rfl rfl (d_cmp (decide (a.start ≠ b.start)) rfl rfl rfl ?_)
        refine WL.op rfl (d_pick rfl rfl ?_)
        refine WL.op rfl (d_move rfl ?_)
        refine WL.part 34 (p := a.start ≠ b.start) rfl (fun g58xxx => ?_) (fun g58xxx => ?_)
        · skip
          refine WL.opN rfl rfl rfl rfl ?_
          refine WL.opN rfl rfl rfl rfl ?_
          refine WL.opN rfl rfl rfl rfl ?_
          refine WL.opN rfl rfl rfl rfl ?_
          refine WL.opN rfl rfl rfl rfl ?_
          refine WL.opN rfl rfl rfl rfl ?_
          refine WL.opN rfl rfl rfl rfl ?_
          refine WL.op rfl (d_pick rfl rfl ?_)
          refine WL.done (X.then_code ?_)
          refine W.pick [42, 4, 3, 2] (Γ' := [(42, .bool true), (4, .bool false), (3, .pointer (some ⟨w1.heap.size, 0, none⟩)), (2, .pointer (some ⟨w.heap.size, 0, none⟩))]) rfl ?_
          refine W.ift rfl ?_
          refine W.seq ?_
          refine W.region ?_
          refine WL.op rfl (d_assign rfl ?_)
          refine WL.done (X.then_code ?_)
          refine W.ret (X.then_ret (X.ret1 rfl rfl ?_))
          exact ⟨(by first | (simp_all [sameD]; done) | (rw [sameD, decide_eq_false (by rintro ⟨_, _, _, _, h9⟩; rw [h9] at c58; exact c58 rfl)])), H4.noneL⟩
        · skip
          refine WL.opG rfl rfl rfl (d_fieldAddrB fld25_4 rfl rfl ?_)
          refine WL.opG rfl rfl rfl (d_loadB Try.underlying23 rfl rfl (H4.blk 0 rfl) rfl ?_)
          refine WL.opG rfl rfl rfl (d_lenS Try.underlying23 rfl ?_)
          refine WL.opG rfl rfl rfl (d_fieldAddrB fld25_4 rfl rfl ?_)
          refine WL.opG rfl rfl rfl (d_loadB Try.underlying23 rfl rfl (H4.blk 1 rfl) rfl ?_)
          refine WL.opG rfl rfl rfl (d_lenS Try.underlying23 rfl ?_)
          refine WL.opG rfl rfl rfl (d_cmp (decide (((a.acc.length : Nat) : Int) ≠ ((b.acc.length : Nat) : Int))) rfl rfl rfl ?_)
          refine WL.op rfl (d_pick rfl rfl ?_)
          refine WL.done (X.then_code ?_)
          refine W.pick [42, 4, 3, 2] (Γ' := [(42, .bool (decide (((a.acc.length : Nat) : Int) ≠ ((b.acc.length : Nat) : Int)))), (4, .bool false), (3, .pointer (some ⟨w1.heap.size, 0, none⟩)), (2, .pointer (some ⟨w.heap.size, 0, none⟩))]) rfl ?_
          refine W.ite (p := ((a.acc.length : Nat) : Int) ≠ ((b.acc.length : Nat) : Int)) rfl (fun c58 => ?_) (fun c58 => ?_)
          · skip
            refine W.seq ?_
            refine W.region ?_
            refine WL.op rfl (d_assign rfl ?_)
            refine WL.done (X.then_code ?_)
            refine W.ret (X.then_ret (X.ret1 rfl rfl ?_))
            exact ⟨(by first | (simp_all [sameD]; done) | (rw [sameD, decide_eq_false (by rintro ⟨_, _, _, _, h9⟩; rw [h9] at c58; exact c58 rfl)])), H4.noneL⟩
          · skip
            refine W.skip (X.then_code ?_)
            refine W.seq ?_
            refine W.seq ?_
            refine W.region ?_
            refine WL.op rfl (d_assign rfl ?_)
            refine WL.done (X.then_code ?_)
            refine W.block ?_
            have hlen : a.acc.length = b.acc.length := by omega
            refine W.pick [5, 4, 3, 2] (Γ' := [(5, .int .i64 0), (4, .bool false), (3, .pointer (some ⟨w1.heap.size, 0, none⟩)), (2, .pointer (some ⟨w.heap.size, 0, none⟩))]) rfl ?_
            refine W.loop (fun m Γ' w' => ∃ k : Nat, Γ' = [(5, .int .i64 ((k : Nat) : Int)), (4, .bool false), (3, .pointer (some ⟨w1.heap.size, 0, none⟩)), (2, .pointer (some ⟨w.heap.size, 0, none⟩))] ∧ UpG w [] w' [[blk w.heap.size #[.slice aca a.cls.length acc, .int .i64 a.width, .int .i64 a.start, .slice ana a.next.length anc, .slice aba a.acc.length abc] 25], [blk w1.heap.size #[.slice bca b.cls.length bcc, .int .i64 b.width, .int .i64 b.start, .slice bna b.next.length bnc, .slice bba b.acc.length bbc] 25]] ∧ (k ≤ a.acc.length) ∧ (∀ i, i < k → a.acc.getD i false = b.acc.getD i false) ∧ m = a.acc.length - k) (a.acc.length - 0) ⟨0, rfl, H4, (by first | assumption | omega | simp), (by intro i hi; omega), rfl⟩ ?_
            rintro m1 Γ1 w5 ⟨k, rfl, H5, hk, he, rfl⟩
            refine W.seq ?_
            refine W.seq ?_
            refine W.region ?_
            refine WL.op rfl (d_move rfl ?_)
            refine WL.op rfl (d_fieldAddrB fld25_4 rfl rfl ?_)
            refine WL.op rfl (d_loadB Try.underlying23 rfl rfl (H5.blk 0 rfl) rfl ?_)
            refine WL.op rfl (d_lenS Try.underlying23 rfl ?_)
            refine WL.op rfl (d_cmp (decide (((k : Nat) : Int) < ((a.acc.length : Nat) : Int))) rfl rfl rfl ?_)
            refine WL.done (X.then_code ?_)
            refine W.ite (p := ((k : Nat) : Int) < ((a.acc.length : Nat) : Int)) rfl (fun c61 => ?_) (fun c61 => ?_)
            · skip
              refine W.skip (X.then_code ?_)
              refine W.seq ?_
              refine W.block ?_
              refine W.seq ?_
              refine W.regionD mixed (by kernel_rfl) fun hok1 w6 k1 => ?_
              have H6 : UpG w [] w6 [[blk w.heap.size #[.slice aca a.cls.length acc, .int .i64 a.width, .int .i64 a.start, .slice ana a.next.length anc, .slice aba a.acc.length abc] 25], [blk w1.heap.size #[.slice bca b.cls.length bcc, .int .i64 b.width, .int .i64 b.start, .slice bna b.next.length bnc, .slice bba b.acc.length bbc] 25]] := H5.kept k1
              refine WD.take hok1 0 (.pointer (some ⟨w.heap.size, 4, none⟩)) (fun _ => True) rfl rfl rfl rfl rfl trivial (.inl ⟨rfl, fun _ _ => d_fieldAddrB fld25_4 rfl rfl ⟨rfl, rfl⟩⟩) ?_
              refine WD.take hok1 1 (.slice aba a.acc.length abc) (fun w' => w'.heap[w.heap.size]? = some (.cells #[.slice aca a.cls.length acc, .int .i64 a.width, .int .i64 a.start, .slice ana a.next.length anc, .slice aba a.acc.length abc] 25 (0, 0))) rfl rfl rfl rfl rfl (H6.blk 0 rfl) (.inl ⟨rfl, fun _ hC => d_loadB Try.underlying23 rfl rfl hC rfl ⟨rfl, rfl⟩⟩) ?_
              refine WD.take hok1 2 (.int .i64 ((k : Nat) : Int)) (fun _ => True) rfl rfl rfl rfl rfl trivial (.inl ⟨rfl, fun _ _ => d_move rfl ⟨rfl, rfl⟩⟩) ?_
              refine WD.take hok1 3 (elemPtr (.slice aba a.acc.length abc) k) (fun w' => RdT tyB w' (.slice aba a.acc.length abc) a.acc) rfl rfl rfl rfl rfl (rba.at H6) (.inl ⟨rfl, fun _ hC => t_addr1 k (T := tyB) rfl Try.underlying23 sz4 rfl rfl hC rfl (by omega) ⟨rfl, rfl⟩⟩) ?_
              refine WD.take hok1 4 (.bool (a.acc.getD k false)) (fun w' => RdT tyB w' (.slice aba a.acc.length abc) a.acc) rfl rfl rfl rfl rfl (rba.at H6) (.inl ⟨rfl, fun _ hC => t_load1 k false (T := tyB) rfl Try.underlying4 rfl rfl hC (by omega) rfl ⟨rfl, rfl⟩⟩) ?_
              refine WD.take hok1 5 (.pointer (some ⟨w1.heap.size, 4, none⟩)) (fun _ => True) rfl rfl rfl rfl rfl trivial (.inl ⟨rfl, fun _ _ => d_fieldAddrB fld25_4 rfl rfl ⟨rfl, rfl⟩⟩) ?_
              refine WD.take hok1 6 (.slice bba b.acc.length bbc) (fun w' => w'.heap[w1.heap.size]? = some (.cells #[.slice bca b.cls.length bcc, .int .i64 b.width, .int .i64 b.start, .slice bna b.next.length bnc, .slice bba b.acc.length bbc] 25 (0, 0))) rfl rfl rfl rfl rfl (H6.blk 1 rfl) (.inl ⟨rfl, fun _ hC => d_loadB Try.underlying23 rfl rfl hC rfl ⟨rfl, rfl⟩⟩) ?_
              refine WD.take hok1 7 (.int .i64 ((k : Nat) : Int)) (fun _ => True) rfl rfl rfl rfl rfl trivial (.inl ⟨rfl, fun _ _ => d_move rfl ⟨rfl, rfl⟩⟩) ?_
              refine WD.take hok1 8 (elemPtr (.slice bba b.acc.length bbc) k) (fun w' => RdT tyB w' (.slice bba b.acc.length bbc) b.acc) rfl rfl rfl rfl rfl (rbb.at H6) (.inl ⟨rfl, fun _ hC => t_addr1 k (T := tyB) rfl Try.underlying23 sz4 rfl rfl hC rfl (by omega) ⟨rfl, rfl⟩⟩) ?_
              refine WD.take hok1 9 (.bool (b.acc.getD k false)) (fun w' => RdT tyB w' (.slice bba b.acc.length bbc) b.acc) rfl rfl rfl rfl rfl (rbb.at H6) (.inl ⟨rfl, fun _ hC => t_load1 k false (T := tyB) rfl Try.underlying4 rfl rfl hC (by omega) rfl ⟨rfl, rfl⟩⟩) ?_
              refine WD.take hok1 10 (.bool (decide ((a.acc.getD k false) ≠ (b.acc.getD k false)))) (fun _ => True) rfl rfl rfl rfl rfl trivial (.inl ⟨rfl, fun _ _ => d_boolne Try.underlying4 rfl rfl ⟨rfl, rfl⟩⟩) ?_
              refine WD.done hok1 rfl (X.then_code ?_)
              refine W.ite (p := (a.acc.getD k false) ≠ (b.acc.getD k false)) rfl (fun c62 => ?_) (fun c62 => ?_)
              · skip
                refine W.seq ?_
                refine W.region ?_
                refine WL.op rfl (d_assign rfl ?_)
                refine WL.done (X.then_code ?_)
                refine W.ret (X.block_ret (X.then_ret (X.then_ret (X.block_ret (X.then_ret (X.ret1 rfl rfl ?_))))))
                exact ⟨(by rw [sameD, decide_eq_false (by rintro ⟨_, _, _, _, h9⟩; rw [h9] at c62; exact c62 rfl)]), H6.noneL⟩
              · skip
                refine W.skip (X.block_normal (X.then_code ?_))
                refine W.region ?_
                refine WL.op rfl (d_move rfl ?_)
                refine WL.op rfl (d_add rfl rfl (by omega) (by omega) ?_)
                refine WL.op rfl (d_assign rfl ?_)
                refine WL.done ?_
                exact X.next [5, 4, 3, 2] (Γ' := [(5, .int .i64 (((k + 1) : Nat) : Int)), (4, .bool false), (3, .pointer (some ⟨w1.heap.size, 0, none⟩)), (2, .pointer (some ⟨w.heap.size, 0, none⟩))]) rfl (a.acc.length - (k + 1)) (by omega) ⟨k + 1, rfl, H6, (by first | assumption | omega | simp), (by exact all_step he (by rcases h1 : a.acc.getD k false with _ | _ <;> rcases h2 : b.acc.getD k false with _ | _ <;> simp_all)), rfl⟩
            · skip
              refine W.exit (X.then_exit (X.then_exit (X.block_exit (X.then_code ?_))))
              refine W.seq ?_
              refine W.region ?_
              refine WL.op rfl (d_assign rfl ?_)
              refine WL.done (X.then_code ?_)
              refine W.ret (X.ret1 rfl rfl ?_)
              exact ⟨(by rw [sameD, decide_eq_true ⟨by simpa using g58, by omega, by omega, by simpa using g58x, list_eq_of (d := false) (by omega) (fun i hi => he i (by omega))⟩]), H5.noneL⟩
end Go.Proofs.Ytoeockpkkmgieaa


/- What the laws of least automata ask: the law's own automaton; one whose states are numbered otherwise. Conditions: those of each theorem. -/
namespace Go.Proofs.Ytoeockpkkmgieaa
open Go Go.Sx
set_option linter.unusedVariables false
set_option linter.unusedSimpArgs false
def twoD : DfaD := ⟨List.replicate 259 0, 1, 0, [1, 0], [true, true]⟩
theorem two_right : rightB twoD = true := by decide +kernel
theorem two_all {s : Int} (hs : 0 ≤ s ∧ s < (twoD.acc.length : Int)) (w : List Int) (hw : okW w) : accAt twoD s w = true := by
  have h := fold_rng two_right w s hs hw
  have hl : twoD.acc.length = 2 := rfl
  unfold accAt
  rcases (by omega : (w.foldl (stepD twoD) s).toNat = 0 ∨ (w.foldl (stepD twoD) s).toNat = 1) with e | e <;> rw [e] <;> rfl
theorem two_leq {s t : Int} (hs : 0 ≤ s ∧ s < (twoD.acc.length : Int)) (ht : 0 ≤ t ∧ t < (twoD.acc.length : Int)) : LEq twoD s twoD t := fun w hw => by rw [two_all hs w hw, two_all ht w hw]
theorem two_least : leastE twoD = 0 ∧ (leastO twoD).acc.length = 1 ∧ (leastO twoD).acc.getD 0 false = true ∧ (leastO twoD).width = 1 ∧ (leastO twoD).cls.length = 259 := by
  have hr := two_right
  obtain ⟨e1, e2⟩ := leastO_right hr
  have hI := numD_I hr
  have hl := leastD_len hr
  rw [e1]
  have h1 : (leastD twoD).acc.length = 1 := by
    refine Classical.byContradiction fun hn => ?_
    have h2 : 1 < (numD twoD).1.length := by rw [← hl.1]; omega
    exact hI.nd 0 1 (by omega) h2 (two_leq (hI.rng 0 (by omega)).1 (hI.rng 1 h2).1)
  have hs : symF twoD = List.replicate 259 0 := by
    have hq := symF_q twoD
    have hsl := hq.len
    refine list_eq_of (d := 0) (by rw [hq.len, List.length_replicate]) fun i hi => ?_
    rw [hq.len] at hi
    have h2 := hq.val i hi
    rw [rep_get hi]
    refine Classical.byContradiction fun hn => h2.2.2.2 0 (by omega) fun s hs ht => ?_
    exact two_leq (stepD_bd' hr (by omega) (by omega) (by omega)) (stepD_bd' hr (by omega) (by omega) (by omega))
  refine ⟨e2, h1, ?_, ?_, ?_⟩
  · have h2 := leastD_accAt hr [] 0 (by rw [← hl.1]; omega) (fun c hc => by simp at hc)
    have h3 : (leastD twoD).acc.getD ((0 : Nat) : Int).toNat false = accAt twoD ((numD twoD).1.getD 0 0) [] := h2
    rw [two_all (hI.rng 0 (by omega)).1 [] (fun c hc => by simp at hc)] at h3
    exact h3
  · show ((dd (symF twoD)).length : Int) = 1
    rw [hs]; decide +kernel
  · show (numL (symF twoD)).length = 259
    rw [numL_len, (symF_q twoD).len]
/-! ### Numbers turned -/
def atN (s : Nat) (turn : Int) (n : Nat) : Nat := (s + turn.toNat) % n
def baN (q : Nat) (turn : Int) (n : Nat) : Nat := (q + (n - turn.toNat % n)) % n
theorem atN_lt {s n : Nat} {turn : Int} (hn : 0 < n) : atN s turn n < n := Nat.mod_lt _ hn
theorem turn_mod {q t n : Nat} (hq : q < n) : (q + (n - t % n) + t) % n = q := by
  have h1 := Nat.div_add_mod t n
  have h2 := Nat.mod_lt t (show 0 < n by omega)
  have e : q + (n - t % n) + t = q + n * (t / n + 1) := by rw [Nat.mul_add, Nat.mul_one]; omega
  rw [e, Nat.add_mul_mod_self_left, Nat.mod_eq_of_lt hq]
theorem ba_at {s n : Nat} {turn : Int} (hs : s < n) : baN (atN s turn n) turn n = s := by
  unfold baN atN
  rw [Nat.mod_add_mod, show s + turn.toNat + (n - turn.toNat % n) = s + (n - turn.toNat % n) + turn.toNat by omega, turn_mod hs]
theorem at_inj {i j n : Nat} {turn : Int} (hi : i < n) (hj : j < n) (h : atN i turn n = atN j turn n) : i = j := by rw [← ba_at (turn := turn) hi, h, ba_at hj]
/-- Behind s states, and c classes of the next one; a: its own word is there. -/
structure TnI (d : DfaD) (turn : Int) (ta : List Bool) (tn : List Int) (a s c : Nat) : Prop where
  la : ta.length = d.acc.length
  ln : tn.length = d.next.length
  va : ∀ i, i < a → ta.getD (atN i turn d.acc.length) false = d.acc.getD i false
  vn : ∀ i k, i < d.acc.length → k < d.width.toNat → (i < s ∨ i = s ∧ k < c) → tn.getD (atN i turn d.acc.length * d.width.toNat + k) 0 = ((atN (d.next.getD (i * d.width.toNat + k) 0).toNat turn d.acc.length : Nat) : Int)
theorem TnI.start {d : DfaD} {turn : Int} {n m : Nat} (hn : n = d.acc.length) (hm : m = d.next.length) : TnI d turn (List.replicate n false) (List.replicate m 0) 0 0 0 := ⟨by simp [hn], by simp [hm], fun i hi => by omega, fun i k _ _ h => by omega⟩
theorem TnI.acc {d : DfaD} {turn : Int} {ta : List Bool} {tn : List Int} {s : Nat} {v : Bool} (h : TnI d turn ta tn s s 0) (hs : s < d.acc.length) (hv : v = d.acc.getD s false) : TnI d turn (ta.set (atN s turn d.acc.length) v) tn (s + 1) s 0 := by
  refine ⟨by simp [h.la], h.ln, fun i hi => ?_, h.vn⟩
  rw [getD_setB (by rw [h.la]; exact atN_lt (by omega))]
  by_cases e : i = s
  · subst e; rw [if_pos rfl]; exact hv
  · rw [if_neg (fun e2 => e (at_inj (by omega) hs e2.symm))]; exact h.va i (by omega)
theorem TnI.nx {d : DfaD} (hr : rightB d = true) {turn : Int} {ta : List Bool} {tn : List Int} {s c : Nat} {v : Int} (h : TnI d turn ta tn (s + 1) s c) (hs : s < d.acc.length) (hc : c < d.width.toNat) (hv : v = ((atN (d.next.getD (s * d.width.toNat + c) 0).toNat turn d.acc.length : Nat) : Int)) :
    TnI d turn ta (tn.set (atN s turn d.acc.length * d.width.toNat + c) v) (s + 1) s (c + 1) := by
  have hat := atN_lt (s := s) (turn := turn) (show 0 < d.acc.length by omega)
  have hlen : atN s turn d.acc.length * d.width.toNat + c < tn.length := by
    have h1 := (rightB_iff.1 hr).1
    have h2 : d.next.length = d.acc.length * d.width.toNat := by
      have h3 := h1.2.2.2.2.2.1
      have h4 : ((d.width.toNat : Nat) : Int) = d.width := Int.toNat_of_nonneg (by omega)
      rw [← h4, ← Int.natCast_mul] at h3
      omega
    have h5 := Nat.mul_le_mul_right d.width.toNat (show atN s turn d.acc.length + 1 ≤ d.acc.length by omega)
    rw [Nat.add_mul, Nat.one_mul] at h5
    rw [h.ln]; omega
  refine ⟨h.la, by simp [h.ln], h.va, fun i k hi hk hik => ?_⟩
  rw [getD_setI hlen]
  by_cases e : atN s turn d.acc.length * d.width.toNat + c = atN i turn d.acc.length * d.width.toNat + k
  · have e1 := divW (a := atN s turn d.acc.length) hc
    have e2 := divW (a := atN i turn d.acc.length) hk
    rw [e, e2.1, e2.2] at e1
    have e3 := at_inj hi hs e1.1
    have e4 := e1.2
    subst e3; subst e4
    rw [if_pos e]; exact hv
  · rw [if_neg e]
    refine h.vn i k hi hk ?_
    rcases hik with h9 | ⟨h9, h8⟩
    · exact .inl h9
    · subst h9
      by_cases e5 : k = c
      · subst e5; exact absurd rfl e
      · exact .inr ⟨rfl, by omega⟩
theorem TnI.next {d : DfaD} {turn : Int} {ta : List Bool} {tn : List Int} {s c : Nat} (h : TnI d turn ta tn (s + 1) s c) (hc : ¬ ((c : Nat) : Int) < d.width) : TnI d turn ta tn (s + 1) (s + 1) 0 :=
  ⟨h.la, h.ln, h.va, fun i k hi hk hik => h.vn i k hi hk (by omega)⟩
end Go.Proofs.Ytoeockpkkmgieaa


/- The walks of functions, printed by wip/tools/gw.py. -/
namespace Go.Proofs.Ytoeockpkkmgieaa
open Go Go.Sx
set_option linter.unusedVariables false
set_option linter.unusedSimpArgs false
set_option maxRecDepth 20000 in
theorem small13_any (d : DfaD) (dca : Option Addr) (dna : Option Addr) (dba : Option Addr) (dcc : Nat) (dnc : Nat) (dbc : Nat) (w : World) (rcd : RdT (tyI .i64) w (.slice dca d.cls.length dcc) d.cls) (rnd : RdT (tyI .i64) w (.slice dna d.next.length dnc) d.next) (rbd : RdT tyB w (.slice dba d.acc.length dbc) d.acc) :
    Calls Try.prog 50 #[.agg #[.slice dca d.cls.length dcc, .int .i64 d.width, .int .i64 d.start, .slice dna d.next.length dnc, .slice dba d.acc.length dbc]] w (Ret fun v w' => v = .bool (decide (d.acc.length ≤ 12 ∧ d.next.length ≤ 4000 ∧ d.cls.length ≤ 300)) ∧ Upd w [] w' []) := by
  have le_rcd := rcd.le
  have le_rnd := rnd.le
  have le_rbd := rbd.le
  refine calls_of_W (args := [.agg #[.slice dca d.cls.length dcc, .int .i64 d.width, .int .i64 d.start, .slice dna d.next.length dnc, .slice dba d.acc.length dbc]]) Try.func50 rfl rfl rfl ?_
  have H0 : UpG w [] w [] := UpG.nil w
  show W _ _ _ _ [(0, .agg #[.slice dca d.cls.length dcc, .int .i64 d.width, .int .i64 d.start, .slice dna d.next.length dnc, .slice dba d.acc.length dbc])] w
  refine W.seq ?_
  refine W.region ?_
  refine WL.op rfl (d_box rfl fun w1 u1 => ?_)
  have H1 : UpG w [] w1 [[blk w.heap.size #[.slice dca d.cls.length dcc, .int .i64 d.width, .int .i64 d.start, .slice dna d.next.length dnc, .slice dba d.acc.length dbc] 25]] := H0.new' u1
  refine WL.op rfl (d_assign rfl ?_)
  refine WL.done (X.then_code ?_)
  refine W.seq ?_
  refine W.region ?_
  refine WL.op rfl (d_fieldAddrB fld25_4 rfl rfl ?_)
  refine WL.op rfl (d_loadB Try.underlying23 rfl rfl (H1.blk 0 rfl) rfl ?_)
  refine WL.op rfl (d_lenS Try.underlying23 rfl ?_)
  refine WL.op rfl (d_cmp (decide (((d.acc.length : Nat) : Int) ≤ (12 : Int))) rfl rfl rfl ?_)
  refine WL.op rfl (d_move rfl ?_)
  refine WL.part 7 (p := ((d.acc.length : Nat) : Int) ≤ (12 : Int)) rfl (fun g21 => ?_) (fun g21 => ?_)
  · skip
    refine WL.opG rfl rfl rfl (d_fieldAddrB fld25_3 rfl rfl ?_)
    refine WL.opG rfl rfl rfl (d_loadB Try.underlying22 rfl rfl (H1.blk 0 rfl) rfl ?_)
    refine WL.opG rfl rfl rfl (d_lenS Try.underlying22 rfl ?_)
    refine WL.opG rfl rfl rfl (d_cmp (decide (((d.next.length : Nat) : Int) ≤ (4000 : Int))) rfl rfl rfl ?_)
    refine WL.op rfl (d_pick rfl rfl ?_)
    refine WL.op rfl (d_move rfl ?_)
    refine WL.part 13 (p := ((d.next.length : Nat) : Int) ≤ (4000 : Int)) rfl (fun g21x => ?_) (fun g21x => ?_)
    · skip
      refine WL.opG rfl rfl rfl (d_fieldAddrB fld25_0 rfl rfl ?_)
      refine WL.opG rfl rfl rfl (d_loadB Try.underlying22 rfl rfl (H1.blk 0 rfl) rfl ?_)
      refine WL.opG rfl rfl rfl (d_lenS Try.underlying22 rfl ?_)
      refine WL.opG rfl rfl rfl (d_cmp (decide (((d.cls.length : Nat) : Int) ≤ (300 : Int))) rfl rfl rfl ?_)
      refine WL.op rfl (d_pick rfl rfl ?_)
      refine WL.op rfl (d_assign rfl ?_)
      refine WL.done (X.then_code ?_)
      refine W.ret (X.ret1 rfl rfl ?_)
      exact ⟨(by first | exact congrArg Value.bool (decide_eq_decide.2 (by omega)) | exact congrArg Value.bool (Eq.symm (decide_eq_false (by omega)))), H1.noneL⟩
    · skip
      refine WL.opN rfl rfl rfl rfl ?_
      refine WL.opN rfl rfl rfl rfl ?_
      refine WL.opN rfl rfl rfl rfl ?_
      refine WL.opN rfl rfl rfl rfl ?_
      refine WL.op rfl (d_pick rfl rfl ?_)
      refine WL.op rfl (d_assign rfl ?_)
      refine WL.done (X.then_code ?_)
      refine W.ret (X.ret1 rfl rfl ?_)
      exact ⟨(by first | exact congrArg Value.bool (decide_eq_decide.2 (by omega)) | exact congrArg Value.bool (Eq.symm (decide_eq_false (by omega)))), H1.noneL⟩
  · skip
    refine WL.opN rfl rfl rfl rfl ?_
    refine WL.opN rfl rfl rfl rfl ?_
    refine WL.opN rfl rfl rfl rfl ?_
    refine WL.opN rfl rfl rfl rfl ?_
    refine WL.op rfl (d_pick rfl rfl ?_)
    refine WL.op rfl (d_move rfl ?_)
    refine WL.opN rfl rfl rfl rfl ?_
    refine WL.opN rfl rfl rfl rfl ?_
    refine WL.opN rfl rfl rfl rfl ?_
    refine WL.opN rfl rfl rfl rfl ?_
    refine WL.op rfl (d_pick rfl rfl ?_)
    refine WL.op rfl (d_assign rfl ?_)
    refine WL.done (X.then_code ?_)
    refine W.ret (X.ret1 rfl rfl ?_)
    exact ⟨(by first | exact congrArg Value.bool (decide_eq_decide.2 (by omega)) | exact congrArg Value.bool (Eq.symm (decide_eq_false (by omega)))), H1.noneL⟩

set_option maxRecDepth 20000 in
theorem awake13_any  (w : World) :
    Calls Try.prog 49 #[] w (Ret fun v w' => v = .bool true ∧ Upd w [] w' []) := by
  refine calls_of_W (args := []) Try.func49 rfl rfl rfl ?_
  have H0 : UpG w [] w [] := UpG.nil w
  show W _ _ _ _ [] w
  refine W.seq ?_
  refine W.region ?_
  refine WL.op rfl (d_assign rfl ?_)
  refine WL.done (X.then_code ?_)
  refine W.seq ?_
  refine W.region ?_
  refine WL.op rfl (t_make 259 (0 : Int) (T := (tyI .i64)) rfl Try.underlying22 sz3 rfl rfl rfl rfl (by omega) (by omega) fun w1 u1 => ?_)
  have H1 : UpG w [] w1 [[rowT (tyI .i64) (.slice (some ⟨w.heap.size, 0, none⟩) ((List.replicate 259 (0 : Int)).length) 259) 3 (List.replicate 259 (0 : Int))]] := H0.new' u1
  refine WL.op rfl (t_buildSlice (T := (tyI .i64)) (xs := [1, 0]) (cs := #[.int .i64 1, .int .i64 0]) rfl Try.underlying22 sz3 rfl rfl rfl rfl (by kernel_rfl) rfl rfl fun w2 u2 => ?_)
  have H2 : UpG w [] w2 [[rowT (tyI .i64) (.slice (some ⟨w.heap.size, 0, none⟩) ((List.replicate 259 (0 : Int)).length) 259) 3 (List.replicate 259 (0 : Int))], [rowT (tyI .i64) (.slice (some ⟨w1.heap.size, 0, none⟩) ([1, 0].length) ([1, 0].length)) 3 [1, 0]]] := H1.new' u2
  refine WL.op rfl (t_buildSlice (T := tyB) (xs := [true, true]) (cs := #[.bool true, .bool true]) rfl Try.underlying23 sz4 rfl rfl rfl rfl (by kernel_rfl) rfl rfl fun w3 u3 => ?_)
  have H3 : UpG w [] w3 [[rowT (tyI .i64) (.slice (some ⟨w.heap.size, 0, none⟩) ((List.replicate 259 (0 : Int)).length) 259) 3 (List.replicate 259 (0 : Int))], [rowT (tyI .i64) (.slice (some ⟨w1.heap.size, 0, none⟩) ([1, 0].length) ([1, 0].length)) 3 [1, 0]], [rowT tyB (.slice (some ⟨w2.heap.size, 0, none⟩) ([true, true].length) ([true, true].length)) 4 [true, true]]] := H2.new' u3
  refine WL.op rfl (d_build (cs := #[.slice (some ⟨w.heap.size, 0, none⟩) ((List.replicate 259 (0 : Int)).length) 259, .int .i64 1, .int .i64 0, .slice (some ⟨w1.heap.size, 0, none⟩) ([1, 0].length) ([1, 0].length), .slice (some ⟨w2.heap.size, 0, none⟩) ([true, true].length) ([true, true].length)]) rfl (by kernel_rfl) ?_)
  refine WL.op rfl (d_call ok52 rfl (Ret.calls (miniOf_any (⟨List.replicate 259 (0 : Int), 1, 0, [1, 0], [true, true]⟩ : DfaD) (some ⟨w.heap.size, 0, none⟩) (some ⟨w1.heap.size, 0, none⟩) (some ⟨w2.heap.size, 0, none⟩) 259 ([1, 0].length) ([true, true].length) w3 (H3.rdT 0 rfl) (H3.rdT 1 rfl) (H3.rdT 2 rfl) (by rw [List.length_replicate]; decide)) fun _ w4 p1 => ?_))
  obtain ⟨ca_1, cc_1, na_1, nc_1, ba_1, bc_1, rfl, u4⟩ := p1
  have H4 : UpG w [] w4 [[rowT (tyI .i64) (.slice (some ⟨w.heap.size, 0, none⟩) ((List.replicate 259 (0 : Int)).length) 259) 3 (List.replicate 259 (0 : Int))], [rowT (tyI .i64) (.slice (some ⟨w1.heap.size, 0, none⟩) ([1, 0].length) ([1, 0].length)) 3 [1, 0]], [rowT tyB (.slice (some ⟨w2.heap.size, 0, none⟩) ([true, true].length) ([true, true].length)) 4 [true, true]], [rowT (tyI .i64) (.slice ca_1 (((leastO (⟨List.replicate 259 (0 : Int), 1, 0, [1, 0], [true, true]⟩ : DfaD)).cls).length) cc_1) 3 ((leastO (⟨List.replicate 259 (0 : Int), 1, 0, [1, 0], [true, true]⟩ : DfaD)).cls)], [rowT (tyI .i64) (.slice na_1 (((leastO (⟨List.replicate 259 (0 : Int), 1, 0, [1, 0], [true, true]⟩ : DfaD)).next).length) nc_1) 3 ((leastO (⟨List.replicate 259 (0 : Int), 1, 0, [1, 0], [true, true]⟩ : DfaD)).next)], [rowT tyB (.slice ba_1 (((leastO (⟨List.replicate 259 (0 : Int), 1, 0, [1, 0], [true, true]⟩ : DfaD)).acc).length) bc_1) 4 ((leastO (⟨List.replicate 259 (0 : Int), 1, 0, [1, 0], [true, true]⟩ : DfaD)).acc)]] := (H3.new' u4).re rfl
  refine WL.op rfl (d_move rfl ?_)
  refine WL.op rfl (d_extract rfl rfl ?_)
  refine WL.op rfl (d_extract rfl rfl ?_)
  refine WL.op rfl (d_alloc sz25 fun w5 u5 => ?_)
  have H5 : UpG w [] w5 [[rowT (tyI .i64) (.slice (some ⟨w.heap.size, 0, none⟩) ((List.replicate 259 (0 : Int)).length) 259) 3 (List.replicate 259 (0 : Int))], [rowT (tyI .i64) (.slice (some ⟨w1.heap.size, 0, none⟩) ([1, 0].length) ([1, 0].length)) 3 [1, 0]], [rowT tyB (.slice (some ⟨w2.heap.size, 0, none⟩) ([true, true].length) ([true, true].length)) 4 [true, true]], [rowT (tyI .i64) (.slice ca_1 (((leastO (⟨List.replicate 259 (0 : Int), 1, 0, [1, 0], [true, true]⟩ : DfaD)).cls).length) cc_1) 3 ((leastO (⟨List.replicate 259 (0 : Int), 1, 0, [1, 0], [true, true]⟩ : DfaD)).cls)], [rowT (tyI .i64) (.slice na_1 (((leastO (⟨List.replicate 259 (0 : Int), 1, 0, [1, 0], [true, true]⟩ : DfaD)).next).length) nc_1) 3 ((leastO (⟨List.replicate 259 (0 : Int), 1, 0, [1, 0], [true, true]⟩ : DfaD)).next)], [rowT tyB (.slice ba_1 (((leastO (⟨List.replicate 259 (0 : Int), 1, 0, [1, 0], [true, true]⟩ : DfaD)).acc).length) bc_1) 4 ((leastO (⟨List.replicate 259 (0 : Int), 1, 0, [1, 0], [true, true]⟩ : DfaD)).acc)], [blk w4.heap.size #[.slice none 0 0, .int .i64 0, .int .i64 0, .slice none 0 0, .slice none 0 0] 25]] := H4.new' u5
  refine WL.op0 (d_storeAB (us := [.slice ca_1 (((leastO (⟨List.replicate 259 (0 : Int), 1, 0, [1, 0], [true, true]⟩ : DfaD)).cls).length) cc_1, .int .i64 ((leastO (⟨List.replicate 259 (0 : Int), 1, 0, [1, 0], [true, true]⟩ : DfaD)).width), .int .i64 ((leastO (⟨List.replicate 259 (0 : Int), 1, 0, [1, 0], [true, true]⟩ : DfaD)).start), .slice na_1 (((leastO (⟨List.replicate 259 (0 : Int), 1, 0, [1, 0], [true, true]⟩ : DfaD)).next).length) nc_1, .slice ba_1 (((leastO (⟨List.replicate 259 (0 : Int), 1, 0, [1, 0], [true, true]⟩ : DfaD)).acc).length) bc_1]) (cs' := #[.slice ca_1 (((leastO (⟨List.replicate 259 (0 : Int), 1, 0, [1, 0], [true, true]⟩ : DfaD)).cls).length) cc_1, .int .i64 ((leastO (⟨List.replicate 259 (0 : Int), 1, 0, [1, 0], [true, true]⟩ : DfaD)).width), .int .i64 ((leastO (⟨List.replicate 259 (0 : Int), 1, 0, [1, 0], [true, true]⟩ : DfaD)).start), .slice na_1 (((leastO (⟨List.replicate 259 (0 : Int), 1, 0, [1, 0], [true, true]⟩ : DfaD)).next).length) nc_1, .slice ba_1 (((leastO (⟨List.replicate 259 (0 : Int), 1, 0, [1, 0], [true, true]⟩ : DfaD)).acc).length) bc_1]) sz25 rfl rfl rfl rfl (H5.blk 6 rfl) rfl rfl fun w6 u6 => ?_)
  have H6 : UpG w [] w6 [[rowT (tyI .i64) (.slice (some ⟨w.heap.size, 0, none⟩) ((List.replicate 259 (0 : Int)).length) 259) 3 (List.replicate 259 (0 : Int))], [rowT (tyI .i64) (.slice (some ⟨w1.heap.size, 0, none⟩) ([1, 0].length) ([1, 0].length)) 3 [1, 0]], [rowT tyB (.slice (some ⟨w2.heap.size, 0, none⟩) ([true, true].length) ([true, true].length)) 4 [true, true]], [rowT (tyI .i64) (.slice ca_1 (((leastO (⟨List.replicate 259 (0 : Int), 1, 0, [1, 0], [true, true]⟩ : DfaD)).cls).length) cc_1) 3 ((leastO (⟨List.replicate 259 (0 : Int), 1, 0, [1, 0], [true, true]⟩ : DfaD)).cls)], [rowT (tyI .i64) (.slice na_1 (((leastO (⟨List.replicate 259 (0 : Int), 1, 0, [1, 0], [true, true]⟩ : DfaD)).next).length) nc_1) 3 ((leastO (⟨List.replicate 259 (0 : Int), 1, 0, [1, 0], [true, true]⟩ : DfaD)).next)], [rowT tyB (.slice ba_1 (((leastO (⟨List.replicate 259 (0 : Int), 1, 0, [1, 0], [true, true]⟩ : DfaD)).acc).length) bc_1) 4 ((leastO (⟨List.replicate 259 (0 : Int), 1, 0, [1, 0], [true, true]⟩ : DfaD)).acc)], [blk w4.heap.size #[.slice ca_1 (((leastO (⟨List.replicate 259 (0 : Int), 1, 0, [1, 0], [true, true]⟩ : DfaD)).cls).length) cc_1, .int .i64 ((leastO (⟨List.replicate 259 (0 : Int), 1, 0, [1, 0], [true, true]⟩ : DfaD)).width), .int .i64 ((leastO (⟨List.replicate 259 (0 : Int), 1, 0, [1, 0], [true, true]⟩ : DfaD)).start), .slice na_1 (((leastO (⟨List.replicate 259 (0 : Int), 1, 0, [1, 0], [true, true]⟩ : DfaD)).next).length) nc_1, .slice ba_1 (((leastO (⟨List.replicate 259 (0 : Int), 1, 0, [1, 0], [true, true]⟩ : DfaD)).acc).length) bc_1] 25]] := H5.on 6 rfl u6
  refine WL.op rfl (d_assign rfl ?_)
  refine WL.done (X.then_code ?_)
  refine W.seq ?_
  refine W.region ?_
  refine WL.op rfl (d_move rfl ?_)
  refine WL.op rfl (d_cmp (decide ((leastE (⟨List.replicate 259 (0 : Int), 1, 0, [1, 0], [true, true]⟩ : DfaD)) = (0 : Int))) rfl rfl rfl ?_)
  refine WL.op rfl (d_move rfl ?_)
  refine WL.part 13 (p := (leastE (⟨List.replicate 259 (0 : Int), 1, 0, [1, 0], [true, true]⟩ : DfaD)) = (0 : Int)) rfl (fun g17 => ?_) (fun g17 => ?_)
  · skip
    refine WL.opG rfl rfl rfl (d_fieldAddrB fld25_4 rfl rfl ?_)
    refine WL.opG rfl rfl rfl (d_loadB Try.underlying23 rfl rfl (H6.blk 6 rfl) rfl ?_)
    refine WL.opG rfl rfl rfl (d_lenS Try.underlying23 rfl ?_)
    refine WL.opG rfl rfl rfl (d_cmp (decide (((((leastO (⟨List.replicate 259 (0 : Int), 1, 0, [1, 0], [true, true]⟩ : DfaD)).acc).length : Nat) : Int) = (1 : Int))) rfl rfl rfl ?_)
    refine WL.op rfl (d_pick rfl rfl ?_)
    refine WL.op rfl (d_move rfl ?_)
    refine WL.part 19 (p := ((((leastO (⟨List.replicate 259 (0 : Int), 1, 0, [1, 0], [true, true]⟩ : DfaD)).acc).length : Nat) : Int) = (1 : Int)) rfl (fun g17x => ?_) (fun g17x => ?_)
    · skip
      refine WL.opG rfl rfl rfl (d_fieldAddrB fld25_4 rfl rfl ?_)
      refine WL.opG rfl rfl rfl (d_loadB Try.underlying23 rfl rfl (H6.blk 6 rfl) rfl ?_)
      refine WL.opG rfl rfl rfl (t_addr1 0 (T := tyB) rfl Try.underlying23 sz4 rfl rfl (H6.rdT 5 rfl) rfl (by show 0 < (leastO twoD).acc.length; rw [two_least.2.1]; decide) ?_)
      refine WL.opG rfl rfl rfl (t_load1 0 false (T := tyB) rfl Try.underlying4 rfl rfl (H6.rdT 5 rfl) (by show 0 < (leastO twoD).acc.length; rw [two_least.2.1]; decide) rfl ?_)
      refine WL.op rfl (d_pick rfl rfl ?_)
      refine WL.op rfl (d_move rfl ?_)
      refine WL.partB 25 (b := ((leastO (⟨List.replicate 259 (0 : Int), 1, 0, [1, 0], [true, true]⟩ : DfaD)).acc).getD 0 false) rfl (fun g17xx => ?_) (fun g17xx => ?_)
      · skip
        refine WL.opG rfl rfl rfl (d_fieldAddrB fld25_1 rfl rfl ?_)
        refine WL.opG rfl rfl rfl (d_loadB Try.underlying3 rfl rfl (H6.blk 6 rfl) rfl ?_)
        refine WL.opG rfl rfl rfl (d_cmp (decide (((leastO (⟨List.replicate 259 (0 : Int), 1, 0, [1, 0], [true, true]⟩ : DfaD)).width) = (1 : Int))) rfl rfl rfl ?_)
        refine WL.op rfl (d_pick rfl rfl ?_)
        refine WL.op rfl (d_move rfl ?_)
        refine WL.part 30 (p := ((leastO (⟨List.replicate 259 (0 : Int), 1, 0, [1, 0], [true, true]⟩ : DfaD)).width) = (1 : Int)) rfl (fun g17xxx => ?_) (fun g17xxx => ?_)
        · skip
          refine WL.opG rfl rfl rfl (d_fieldAddrB fld25_0 rfl rfl ?_)
          refine WL.opG rfl rfl rfl (d_loadB Try.underlying22 rfl rfl (H6.blk 6 rfl) rfl ?_)
          refine WL.opG rfl rfl rfl (d_lenS Try.underlying22 rfl ?_)
          refine WL.opG rfl rfl rfl (d_cmp (decide (((((leastO (⟨List.replicate 259 (0 : Int), 1, 0, [1, 0], [true, true]⟩ : DfaD)).cls).length : Nat) : Int) = (259 : Int))) rfl rfl rfl ?_)
          refine WL.op rfl (d_pick rfl rfl ?_)
          refine WL.op rfl (d_assign rfl ?_)
          refine WL.done (X.then_code ?_)
          refine W.pick [0] (Γ' := [(0, .bool (decide (((((leastO (⟨List.replicate 259 (0 : Int), 1, 0, [1, 0], [true, true]⟩ : DfaD)).cls).length : Nat) : Int) = (259 : Int))))]) rfl ?_
          refine W.ret (X.ret1 rfl rfl ?_)
          exact ⟨(by exact congrArg Value.bool (decide_eq_true (show (((leastO twoD).cls.length : Nat) : Int) = 259 by rw [two_least.2.2.2.2]; rfl))), H6.noneL⟩
        · skip
          exact absurd two_least.2.2.2.1 g17xxx
      · skip
        exact absurd two_least.2.2.1 g17xx
    · skip
      exact absurd (show (((leastO twoD).acc.length : Nat) : Int) = 1 by rw [two_least.2.1]; rfl) g17x
  · skip
    exact absurd two_least.1 g17

set_option maxRecDepth 20000 in
theorem miniBlocks_any (d : DfaD) (dca : Option Addr) (dna : Option Addr) (dba : Option Addr) (dcc : Nat) (dnc : Nat) (dbc : Nat) (w : World) (rcd : RdT (tyI .i64) w (.slice dca d.cls.length dcc) d.cls) (rnd : RdT (tyI .i64) w (.slice dna d.next.length dnc) d.next) (rbd : RdT tyB w (.slice dba d.acc.length dbc) d.acc) :
    Calls Try.prog 12 #[.agg #[.slice dca d.cls.length dcc, .int .i64 d.width, .int .i64 d.start, .slice dna d.next.length dnc, .slice dba d.acc.length dbc]] w (Ret fun v w' => v = .bool true ∧ Upd w [] w' []) := by
  have le_rcd := rcd.le
  have le_rnd := rnd.le
  have le_rbd := rbd.le
  refine calls_of_W (args := [.agg #[.slice dca d.cls.length dcc, .int .i64 d.width, .int .i64 d.start, .slice dna d.next.length dnc, .slice dba d.acc.length dbc]]) Try.func12 rfl rfl rfl ?_
  have H0 : UpG w [] w [] := UpG.nil w
  show W _ _ _ _ [(0, .agg #[.slice dca d.cls.length dcc, .int .i64 d.width, .int .i64 d.start, .slice dna d.next.length dnc, .slice dba d.acc.length dbc])] w
  refine W.seq ?_
  refine W.region ?_
  refine WL.op rfl (d_box rfl fun w1 u1 => ?_)
  have H1 : UpG w [] w1 [[blk w.heap.size #[.slice dca d.cls.length dcc, .int .i64 d.width, .int .i64 d.start, .slice dna d.next.length dnc, .slice dba d.acc.length dbc] 25]] := H0.new' u1
  refine WL.op rfl (d_assign rfl ?_)
  refine WL.done (X.then_code ?_)
  refine W.seq ?_
  refine W.seq ?_
  refine W.region ?_
  refine WL.op rfl (d_call ok49 rfl (Ret.calls (awake13_any  w1  ) fun _ w2 p1 => ?_))
  obtain ⟨rfl, u2⟩ := p1
  have H2 : UpG w [] w2 [[blk w.heap.size #[.slice dca d.cls.length dcc, .int .i64 d.width, .int .i64 d.start, .slice dna d.next.length dnc, .slice dba d.acc.length dbc] 25]] := H1.call u2
  refine WL.op rfl (d_notB rfl ?_)
  refine WL.done (X.then_code ?_)
  refine W.iff rfl ?_
  refine W.skip (X.then_code ?_)
  refine W.seq ?_
  refine W.seq ?_
  refine W.region ?_
  refine WL.op rfl (d_loadAB [.slice dca d.cls.length dcc, .int .i64 d.width, .int .i64 d.start, .slice dna d.next.length dnc, .slice dba d.acc.length dbc] Try.underlying25 rfl sz25 rfl (H2.blk 0 rfl) rfl rfl ?_)
  refine WL.op rfl (d_call ok50 rfl (Ret.calls (small13_any d dca dna dba dcc dnc dbc w2 (rcd.at H2) (rnd.at H2) (rbd.at H2) ) fun _ w3 p2 => ?_))
  obtain ⟨rfl, u3⟩ := p2
  have H3 : UpG w [] w3 [[blk w.heap.size #[.slice dca d.cls.length dcc, .int .i64 d.width, .int .i64 d.start, .slice dna d.next.length dnc, .slice dba d.acc.length dbc] 25]] := H2.call u3
  refine WL.op rfl (d_notB rfl ?_)
  refine WL.done (X.then_code ?_)
  refine W.iteB (b := !(decide (d.acc.length ≤ 12 ∧ d.next.length ≤ 4000 ∧ d.cls.length ≤ 300))) rfl (fun c28 => ?_) (fun c28 => ?_)
  · skip
    refine W.seq ?_
    refine W.region ?_
    refine WL.op rfl (d_assign rfl ?_)
    refine WL.done (X.then_code ?_)
    refine W.ret (X.then_ret (X.ret1 rfl rfl ?_))
    exact ⟨rfl, H3.noneL⟩
  · skip
    refine W.skip (X.then_code ?_)
    refine W.seq ?_
    have hsm : d.acc.length ≤ 12 ∧ d.next.length ≤ 4000 ∧ d.cls.length ≤ 300 := by simpa using c28
    refine W.region ?_
    refine WL.op rfl (d_loadAB [.slice dca d.cls.length dcc, .int .i64 d.width, .int .i64 d.start, .slice dna d.next.length dnc, .slice dba d.acc.length dbc] Try.underlying25 rfl sz25 rfl (H3.blk 0 rfl) rfl rfl ?_)
    refine WL.op rfl (d_call ok51 rfl (Ret.calls (blocks_any d dca dna dba dcc dnc dbc w3 (rcd.at H3) (rnd.at H3) (rbd.at H3) ) fun _ w4 p3 => ?_))
    obtain ⟨a2_1, c2_1, rfl, u4, q1⟩ := p3
    have H4 : UpG w [] w4 [[blk w.heap.size #[.slice dca d.cls.length dcc, .int .i64 d.width, .int .i64 d.start, .slice dna d.next.length dnc, .slice dba d.acc.length dbc] 25], [rowT (tyI .i64) (.slice a2_1 ((blocksL d).length) c2_1) 3 (blocksL d)]] := (H3.new' u4).re rfl
    refine WL.op rfl (d_move rfl ?_)
    refine WL.op rfl (d_extract rfl rfl ?_)
    refine WL.op rfl (d_extract rfl rfl ?_)
    refine WL.op rfl (d_assign rfl ?_)
    refine WL.op rfl (d_assign rfl ?_)
    refine WL.done (X.then_code ?_)
    refine W.seq ?_
    refine W.region ?_
    refine WL.op rfl (d_loadAB [.slice dca d.cls.length dcc, .int .i64 d.width, .int .i64 d.start, .slice dna d.next.length dnc, .slice dba d.acc.length dbc] Try.underlying25 rfl sz25 rfl (H4.blk 0 rfl) rfl rfl ?_)
    refine WL.op rfl (d_call ok52 rfl (Ret.calls (miniOf_any d dca dna dba dcc dnc dbc w4 (rcd.at H4) (rnd.at H4) (rbd.at H4) (by omega)) fun _ w5 p4 => ?_))
    obtain ⟨ca_1, cc_1, na_1, nc_1, ba_1, bc_1, rfl, u5⟩ := p4
    have H5 : UpG w [] w5 [[blk w.heap.size #[.slice dca d.cls.length dcc, .int .i64 d.width, .int .i64 d.start, .slice dna d.next.length dnc, .slice dba d.acc.length dbc] 25], [rowT (tyI .i64) (.slice a2_1 ((blocksL d).length) c2_1) 3 (blocksL d)], [rowT (tyI .i64) (.slice ca_1 (((leastO d).cls).length) cc_1) 3 ((leastO d).cls)], [rowT (tyI .i64) (.slice na_1 (((leastO d).next).length) nc_1) 3 ((leastO d).next)], [rowT tyB (.slice ba_1 (((leastO d).acc).length) bc_1) 4 ((leastO d).acc)]] := (H4.new' u5).re rfl
    refine WL.op rfl (d_move rfl ?_)
    refine WL.op rfl (d_extract rfl rfl ?_)
    refine WL.op rfl (d_extract rfl rfl ?_)
    refine WL.op rfl (d_alloc sz25 fun w6 u6 => ?_)
    have H6 : UpG w [] w6 [[blk w.heap.size #[.slice dca d.cls.length dcc, .int .i64 d.width, .int .i64 d.start, .slice dna d.next.length dnc, .slice dba d.acc.length dbc] 25], [rowT (tyI .i64) (.slice a2_1 ((blocksL d).length) c2_1) 3 (blocksL d)], [rowT (tyI .i64) (.slice ca_1 (((leastO d).cls).length) cc_1) 3 ((leastO d).cls)], [rowT (tyI .i64) (.slice na_1 (((leastO d).next).length) nc_1) 3 ((leastO d).next)], [rowT tyB (.slice ba_1 (((leastO d).acc).length) bc_1) 4 ((leastO d).acc)], [blk w5.heap.size #[.slice none 0 0, .int .i64 0, .int .i64 0, .slice none 0 0, .slice none 0 0] 25]] := H5.new' u6
    refine WL.op0 (d_storeAB (us := [.slice ca_1 (((leastO d).cls).length) cc_1, .int .i64 ((leastO d).width), .int .i64 ((leastO d).start), .slice na_1 (((leastO d).next).length) nc_1, .slice ba_1 (((leastO d).acc).length) bc_1]) (cs' := #[.slice ca_1 (((leastO d).cls).length) cc_1, .int .i64 ((leastO d).width), .int .i64 ((leastO d).start), .slice na_1 (((leastO d).next).length) nc_1, .slice ba_1 (((leastO d).acc).length) bc_1]) sz25 rfl rfl rfl rfl (H6.blk 5 rfl) rfl rfl fun w7 u7 => ?_)
    have H7 : UpG w [] w7 [[blk w.heap.size #[.slice dca d.cls.length dcc, .int .i64 d.width, .int .i64 d.start, .slice dna d.next.length dnc, .slice dba d.acc.length dbc] 25], [rowT (tyI .i64) (.slice a2_1 ((blocksL d).length) c2_1) 3 (blocksL d)], [rowT (tyI .i64) (.slice ca_1 (((leastO d).cls).length) cc_1) 3 ((leastO d).cls)], [rowT (tyI .i64) (.slice na_1 (((leastO d).next).length) nc_1) 3 ((leastO d).next)], [rowT tyB (.slice ba_1 (((leastO d).acc).length) bc_1) 4 ((leastO d).acc)], [blk w5.heap.size #[.slice ca_1 (((leastO d).cls).length) cc_1, .int .i64 ((leastO d).width), .int .i64 ((leastO d).start), .slice na_1 (((leastO d).next).length) nc_1, .slice ba_1 (((leastO d).acc).length) bc_1] 25]] := H6.on 5 rfl u7
    refine WL.op rfl (d_assign rfl ?_)
    refine WL.done (X.then_code ?_)
    refine W.seq ?_
    refine W.seq ?_
    refine W.region ?_
    refine WL.op rfl (d_loadAB [.slice dca d.cls.length dcc, .int .i64 d.width, .int .i64 d.start, .slice dna d.next.length dnc, .slice dba d.acc.length dbc] Try.underlying25 rfl sz25 rfl (H7.blk 0 rfl) rfl rfl ?_)
    refine WL.op rfl (d_call ok20 rfl (Ret.calls (refRight_any d dca dna dba dcc dnc dbc w7 (rcd.at H7) (rnd.at H7) (rbd.at H7) ) fun _ w8 p5 => ?_))
    obtain ⟨rfl, u8⟩ := p5
    have H8 : UpG w [] w8 [[blk w.heap.size #[.slice dca d.cls.length dcc, .int .i64 d.width, .int .i64 d.start, .slice dna d.next.length dnc, .slice dba d.acc.length dbc] 25], [rowT (tyI .i64) (.slice a2_1 ((blocksL d).length) c2_1) 3 (blocksL d)], [rowT (tyI .i64) (.slice ca_1 (((leastO d).cls).length) cc_1) 3 ((leastO d).cls)], [rowT (tyI .i64) (.slice na_1 (((leastO d).next).length) nc_1) 3 ((leastO d).next)], [rowT tyB (.slice ba_1 (((leastO d).acc).length) bc_1) 4 ((leastO d).acc)], [blk w5.heap.size #[.slice ca_1 (((leastO d).cls).length) cc_1, .int .i64 ((leastO d).width), .int .i64 ((leastO d).start), .slice na_1 (((leastO d).next).length) nc_1, .slice ba_1 (((leastO d).acc).length) bc_1] 25]] := H7.call u8
    refine WL.op rfl (d_notB rfl ?_)
    refine WL.done (X.then_code ?_)
    refine W.iteB (b := !(rightB d)) rfl (fun c33 => ?_) (fun c33 => ?_)
    · skip
      refine W.seq ?_
      have hno : ¬ rightB d = true := by simpa using c33
      obtain ⟨e1, e2⟩ := leastO_no hno
      have hb0 : (((blocksL d).length : Nat) : Int) = 0 := by rw [blocksL, if_neg hno]; rfl
      have hn0 : blocksN d = 0 := by rw [blocksN, if_neg hno]
      refine W.region ?_
      refine WL.op rfl (d_move rfl ?_)
      refine WL.op rfl (d_lenS Try.underlying22 rfl ?_)
      refine WL.op rfl (d_cmp (decide ((((blocksL d).length : Nat) : Int) = (0 : Int))) rfl rfl rfl ?_)
      refine WL.op rfl (d_move rfl ?_)
      refine WL.part 30 (p := (((blocksL d).length : Nat) : Int) = (0 : Int)) rfl (fun g34 => ?_) (fun g34 => ?_)
      · skip
        refine WL.opG rfl rfl rfl (d_move rfl ?_)
        refine WL.opG rfl rfl rfl (d_cmp (decide ((blocksN d) = (0 : Int))) rfl rfl rfl ?_)
        refine WL.op rfl (d_pick rfl rfl ?_)
        refine WL.op rfl (d_move rfl ?_)
        refine WL.part 34 (p := (blocksN d) = (0 : Int)) rfl (fun g34x => ?_) (fun g34x => ?_)
        · skip
          refine WL.opG rfl rfl rfl (d_move rfl ?_)
          refine WL.opG rfl rfl rfl (d_cmp (decide ((leastE d) = (3 : Int))) rfl rfl rfl ?_)
          refine WL.op rfl (d_pick rfl rfl ?_)
          refine WL.op rfl (d_move rfl ?_)
          refine WL.part 38 (p := (leastE d) = (3 : Int)) rfl (fun g34xx => ?_) (fun g34xx => ?_)
          · skip
            refine WL.opG rfl rfl rfl (d_fieldAddrB fld25_3 rfl rfl ?_)
            refine WL.opG rfl rfl rfl (d_loadB Try.underlying22 rfl rfl (H8.blk 5 rfl) rfl ?_)
            refine WL.opG rfl rfl rfl (d_lenS Try.underlying22 rfl ?_)
            refine WL.opG rfl rfl rfl (d_cmp (decide (((((leastO d).next).length : Nat) : Int) = (0 : Int))) rfl rfl rfl ?_)
            refine WL.op rfl (d_pick rfl rfl ?_)
            refine WL.op rfl (d_assign rfl ?_)
            refine WL.done (X.then_code ?_)
            refine W.pick [2] (Γ' := [(2, .bool (decide (((((leastO d).next).length : Nat) : Int) = (0 : Int))))]) rfl ?_
            refine W.ret (X.then_ret (X.ret1 rfl rfl ?_))
            exact ⟨(by exact congrArg Value.bool (decide_eq_true (by rw [e1]; rfl))), H8.noneL⟩
          · skip
            exact absurd e2 g34xx
        · skip
          exact absurd hn0 g34x
      · skip
        exact absurd hb0 g34
    · skip
      refine W.skip (X.then_code ?_)
      refine W.seq ?_
      have hrt : rightB d = true := by simpa using c33
      obtain ⟨e1, e2⟩ := leastO_right hrt
      refine W.region ?_
      refine WL.op rfl (d_loadAB [.slice dca d.cls.length dcc, .int .i64 d.width, .int .i64 d.start, .slice dna d.next.length dnc, .slice dba d.acc.length dbc] Try.underlying25 rfl sz25 rfl (H8.blk 0 rfl) rfl rfl ?_)
      refine WL.op rfl (d_call ok53 rfl (Ret.calls (blocks13_any d dca dna dba dcc dnc dbc w8 (rcd.at H8) (rnd.at H8) (rbd.at H8) hrt) fun _ w9 p6 => ?_))
      obtain ⟨a2_2, bl_1, c2_2, bn_1, rfl, u9, q2⟩ := p6
      have H9 : UpG w [] w9 [[blk w.heap.size #[.slice dca d.cls.length dcc, .int .i64 d.width, .int .i64 d.start, .slice dna d.next.length dnc, .slice dba d.acc.length dbc] 25], [rowT (tyI .i64) (.slice a2_1 ((blocksL d).length) c2_1) 3 (blocksL d)], [rowT (tyI .i64) (.slice ca_1 (((leastO d).cls).length) cc_1) 3 ((leastO d).cls)], [rowT (tyI .i64) (.slice na_1 (((leastO d).next).length) nc_1) 3 ((leastO d).next)], [rowT tyB (.slice ba_1 (((leastO d).acc).length) bc_1) 4 ((leastO d).acc)], [blk w5.heap.size #[.slice ca_1 (((leastO d).cls).length) cc_1, .int .i64 ((leastO d).width), .int .i64 ((leastO d).start), .slice na_1 (((leastO d).next).length) nc_1, .slice ba_1 (((leastO d).acc).length) bc_1] 25], [rowT (tyI .i64) (.slice a2_2 bl_1.length c2_2) 3 bl_1]] := (H8.new' u9).re rfl
      refine WL.op rfl (d_move rfl ?_)
      refine WL.op rfl (d_extract rfl rfl ?_)
      refine WL.op rfl (d_extract rfl rfl ?_)
      refine WL.op rfl (d_assign rfl ?_)
      refine WL.op rfl (d_assign rfl ?_)
      refine WL.done (X.then_code ?_)
      refine W.pick [8, 7, 6, 5, 4, 3, 2, 1] (Γ' := [(8, .int .i64 bn_1), (7, .slice a2_2 bl_1.length c2_2), (6, .int .i64 (leastE d)), (5, .pointer (some ⟨w5.heap.size, 0, none⟩)), (4, .int .i64 (blocksN d)), (3, .slice a2_1 ((blocksL d).length) c2_1), (2, .bool false), (1, .pointer (some ⟨w.heap.size, 0, none⟩))]) rfl ?_
      refine W.seq ?_
      obtain ⟨f9, hf9, hb9, hn9⟩ := q2
      have hfe := hf9.eq hrt
      have hB : blocksL d = bl_1 := by rw [blocksL, if_pos hrt, hb9, hfe]; rfl
      have hN : blocksN d = bn_1 := by rw [blocksN, if_pos hrt, hn9, hfe]
      refine W.regionD mixed (by kernel_rfl) fun hok1 w10 k1 => ?_
      have H10 : UpG w [] w10 [[blk w.heap.size #[.slice dca d.cls.length dcc, .int .i64 d.width, .int .i64 d.start, .slice dna d.next.length dnc, .slice dba d.acc.length dbc] 25], [rowT (tyI .i64) (.slice a2_1 ((blocksL d).length) c2_1) 3 (blocksL d)], [rowT (tyI .i64) (.slice ca_1 (((leastO d).cls).length) cc_1) 3 ((leastO d).cls)], [rowT (tyI .i64) (.slice na_1 (((leastO d).next).length) nc_1) 3 ((leastO d).next)], [rowT tyB (.slice ba_1 (((leastO d).acc).length) bc_1) 4 ((leastO d).acc)], [blk w5.heap.size #[.slice ca_1 (((leastO d).cls).length) cc_1, .int .i64 ((leastO d).width), .int .i64 ((leastO d).start), .slice na_1 (((leastO d).next).length) nc_1, .slice ba_1 (((leastO d).acc).length) bc_1] 25], [rowT (tyI .i64) (.slice a2_2 bl_1.length c2_2) 3 bl_1]] := H9.kept k1
      refine WD.take hok1 0 (.slice a2_1 ((blocksL d).length) c2_1) (fun _ => True) rfl rfl rfl rfl rfl trivial (.inl ⟨rfl, fun _ _ => d_move rfl ⟨rfl, rfl⟩⟩) ?_
      refine WD.take hok1 1 (.slice a2_2 bl_1.length c2_2) (fun _ => True) rfl rfl rfl rfl rfl trivial (.inl ⟨rfl, fun _ _ => d_move rfl ⟨rfl, rfl⟩⟩) ?_
      refine WD.loud hok1 2 rfl (⟨_, [], rfl, rfl, rfl, rfl, rfl, rfl, d_call ok32 rfl (Ret.calls (same10_any a2_1 (blocksL d) c2_1 ((blocksL d).length) a2_2 bl_1 c2_2 bl_1.length w10 (H10.rdT 1 rfl) (H10.rdT 6 rfl) ) fun _ w11 p7 => ?_)⟩)
      obtain ⟨rfl, u10⟩ := p7
      have H11 : UpG w [] w11 [[blk w.heap.size #[.slice dca d.cls.length dcc, .int .i64 d.width, .int .i64 d.start, .slice dna d.next.length dnc, .slice dba d.acc.length dbc] 25], [rowT (tyI .i64) (.slice a2_1 ((blocksL d).length) c2_1) 3 (blocksL d)], [rowT (tyI .i64) (.slice ca_1 (((leastO d).cls).length) cc_1) 3 ((leastO d).cls)], [rowT (tyI .i64) (.slice na_1 (((leastO d).next).length) nc_1) 3 ((leastO d).next)], [rowT tyB (.slice ba_1 (((leastO d).acc).length) bc_1) 4 ((leastO d).acc)], [blk w5.heap.size #[.slice ca_1 (((leastO d).cls).length) cc_1, .int .i64 ((leastO d).width), .int .i64 ((leastO d).start), .slice na_1 (((leastO d).next).length) nc_1, .slice ba_1 (((leastO d).acc).length) bc_1] 25], [rowT (tyI .i64) (.slice a2_2 bl_1.length c2_2) 3 bl_1]] := H10.call u10
      refine ⟨trivial, ?_⟩
      refine WD.take hok1 3 (.bool (decide ((blocksL d) = bl_1))) (fun _ => True) rfl rfl rfl rfl rfl trivial (.inl ⟨rfl, fun _ _ => d_move rfl ⟨rfl, rfl⟩⟩) ?_
      refine WD.part 52 (p := (blocksL d) = bl_1) rfl (fun g37 => ?_) (fun g37 => ?_)
      · skip
        refine WD.take hok1 4 (.int .i64 (blocksN d)) (fun _ => True) rfl rfl rfl rfl rfl trivial (.inl ⟨rfl, fun _ _ => d_move rfl ⟨rfl, rfl⟩⟩) ?_
        refine WD.take hok1 5 (.int .i64 bn_1) (fun _ => True) rfl rfl rfl rfl rfl trivial (.inl ⟨rfl, fun _ _ => d_move rfl ⟨rfl, rfl⟩⟩) ?_
        refine WD.take hok1 6 (.bool (decide ((blocksN d) = bn_1))) (fun _ => True) rfl rfl rfl rfl rfl trivial (.inl ⟨rfl, fun _ _ => d_cmp (decide ((blocksN d) = bn_1)) rfl rfl rfl ⟨rfl, rfl⟩⟩) ?_
        refine WD.take hok1 7 (.bool (decide ((blocksN d) = bn_1))) (fun _ => True) rfl rfl rfl rfl rfl trivial (.inl ⟨rfl, fun _ _ => d_pick rfl rfl ⟨rfl, rfl⟩⟩) ?_
        refine WD.take hok1 8 (.bool (decide ((blocksN d) = bn_1))) (fun _ => True) rfl rfl rfl rfl rfl trivial (.inl ⟨rfl, fun _ _ => d_move rfl ⟨rfl, rfl⟩⟩) ?_
        refine WD.part 57 (p := (blocksN d) = bn_1) rfl (fun g37x => ?_) (fun g37x => ?_)
        · skip
          refine WD.take hok1 9 (.int .i64 (leastE d)) (fun _ => True) rfl rfl rfl rfl rfl trivial (.inl ⟨rfl, fun _ _ => d_move rfl ⟨rfl, rfl⟩⟩) ?_
          refine WD.take hok1 10 (.bool (decide ((leastE d) = (0 : Int)))) (fun _ => True) rfl rfl rfl rfl rfl trivial (.inl ⟨rfl, fun _ _ => d_cmp (decide ((leastE d) = (0 : Int))) rfl rfl rfl ⟨rfl, rfl⟩⟩) ?_
          refine WD.take hok1 11 (.bool (decide ((leastE d) = (0 : Int)))) (fun _ => True) rfl rfl rfl rfl rfl trivial (.inl ⟨rfl, fun _ _ => d_pick rfl rfl ⟨rfl, rfl⟩⟩) ?_
          refine WD.take hok1 12 (.bool (decide ((leastE d) = (0 : Int)))) (fun _ => True) rfl rfl rfl rfl rfl trivial (.inl ⟨rfl, fun _ _ => d_move rfl ⟨rfl, rfl⟩⟩) ?_
          refine WD.part 61 (p := (leastE d) = (0 : Int)) rfl (fun g37xx => ?_) (fun g37xx => ?_)
          · skip
            refine WD.take hok1 13 (.agg #[.slice ca_1 (((leastO d).cls).length) cc_1, .int .i64 ((leastO d).width), .int .i64 ((leastO d).start), .slice na_1 (((leastO d).next).length) nc_1, .slice ba_1 (((leastO d).acc).length) bc_1]) (fun w' => w'.heap[w5.heap.size]? = some (.cells #[.slice ca_1 (((leastO d).cls).length) cc_1, .int .i64 ((leastO d).width), .int .i64 ((leastO d).start), .slice na_1 (((leastO d).next).length) nc_1, .slice ba_1 (((leastO d).acc).length) bc_1] 25 (0, 0))) rfl rfl rfl rfl rfl (H11.blk 5 rfl) (.inl ⟨rfl, fun _ hC => d_loadAB [.slice ca_1 (((leastO d).cls).length) cc_1, .int .i64 ((leastO d).width), .int .i64 ((leastO d).start), .slice na_1 (((leastO d).next).length) nc_1, .slice ba_1 (((leastO d).acc).length) bc_1] Try.underlying25 rfl sz25 rfl hC rfl rfl ⟨rfl, rfl⟩⟩) ?_
            refine WD.take hok1 14 (.agg #[.slice dca d.cls.length dcc, .int .i64 d.width, .int .i64 d.start, .slice dna d.next.length dnc, .slice dba d.acc.length dbc]) (fun w' => w'.heap[w.heap.size]? = some (.cells #[.slice dca d.cls.length dcc, .int .i64 d.width, .int .i64 d.start, .slice dna d.next.length dnc, .slice dba d.acc.length dbc] 25 (0, 0))) rfl rfl rfl rfl rfl (H11.blk 0 rfl) (.inl ⟨rfl, fun _ hC => d_loadAB [.slice dca d.cls.length dcc, .int .i64 d.width, .int .i64 d.start, .slice dna d.next.length dnc, .slice dba d.acc.length dbc] Try.underlying25 rfl sz25 rfl hC rfl rfl ⟨rfl, rfl⟩⟩) ?_
            refine WD.loud hok1 15 rfl (⟨_, [⟨13, .agg #[.slice ca_1 (((leastO d).cls).length) cc_1, .int .i64 ((leastO d).width), .int .i64 ((leastO d).start), .slice na_1 (((leastO d).next).length) nc_1, .slice ba_1 (((leastO d).acc).length) bc_1], (fun w' => w'.heap[w5.heap.size]? = some (.cells #[.slice ca_1 (((leastO d).cls).length) cc_1, .int .i64 ((leastO d).width), .int .i64 ((leastO d).start), .slice na_1 (((leastO d).next).length) nc_1, .slice ba_1 (((leastO d).acc).length) bc_1] 25 (0, 0)))⟩], rfl, rfl, rfl, rfl, rfl, rfl, d_call ok54 rfl (Ret.calls (refOf_any d dca dna dba dcc dnc dbc w11 (rcd.at H11) (rnd.at H11) (rbd.at H11) hrt) fun _ w12 p8 => ?_)⟩)
            obtain ⟨ca_2, cc_2, na_2, nc_2, ba_2, bc_2, rfl, u11⟩ := p8
            have H12 : UpG w [] w12 [[blk w.heap.size #[.slice dca d.cls.length dcc, .int .i64 d.width, .int .i64 d.start, .slice dna d.next.length dnc, .slice dba d.acc.length dbc] 25], [rowT (tyI .i64) (.slice a2_1 ((blocksL d).length) c2_1) 3 (blocksL d)], [rowT (tyI .i64) (.slice ca_1 (((leastO d).cls).length) cc_1) 3 ((leastO d).cls)], [rowT (tyI .i64) (.slice na_1 (((leastO d).next).length) nc_1) 3 ((leastO d).next)], [rowT tyB (.slice ba_1 (((leastO d).acc).length) bc_1) 4 ((leastO d).acc)], [blk w5.heap.size #[.slice ca_1 (((leastO d).cls).length) cc_1, .int .i64 ((leastO d).width), .int .i64 ((leastO d).start), .slice na_1 (((leastO d).next).length) nc_1, .slice ba_1 (((leastO d).acc).length) bc_1] 25], [rowT (tyI .i64) (.slice a2_2 bl_1.length c2_2) 3 bl_1], [rowT (tyI .i64) (.slice ca_2 (((leastD d).cls).length) cc_2) 3 ((leastD d).cls)], [rowT (tyI .i64) (.slice na_2 (((leastD d).next).length) nc_2) 3 ((leastD d).next)], [rowT tyB (.slice ba_2 (((leastD d).acc).length) bc_2) 4 ((leastD d).acc)]] := (H11.new' u11).re rfl
            refine ⟨⟨(H12.blk 5 rfl), trivial⟩, ?_⟩
            refine WD.loud hok1 16 rfl (⟨_, [], rfl, rfl, rfl, rfl, rfl, rfl, d_call ok41 rfl (Ret.calls (sameM11_any (leastO d) ca_1 na_1 ba_1 cc_1 nc_1 bc_1 (leastD d) ca_2 na_2 ba_2 cc_2 nc_2 bc_2 w12 (H12.rdT 2 rfl) (H12.rdT 3 rfl) (H12.rdT 4 rfl) (H12.rdT 7 rfl) (H12.rdT 8 rfl) (H12.rdT 9 rfl) ) fun _ w13 p9 => ?_)⟩)
            obtain ⟨rfl, u12⟩ := p9
            have H13 : UpG w [] w13 [[blk w.heap.size #[.slice dca d.cls.length dcc, .int .i64 d.width, .int .i64 d.start, .slice dna d.next.length dnc, .slice dba d.acc.length dbc] 25], [rowT (tyI .i64) (.slice a2_1 ((blocksL d).length) c2_1) 3 (blocksL d)], [rowT (tyI .i64) (.slice ca_1 (((leastO d).cls).length) cc_1) 3 ((leastO d).cls)], [rowT (tyI .i64) (.slice na_1 (((leastO d).next).length) nc_1) 3 ((leastO d).next)], [rowT tyB (.slice ba_1 (((leastO d).acc).length) bc_1) 4 ((leastO d).acc)], [blk w5.heap.size #[.slice ca_1 (((leastO d).cls).length) cc_1, .int .i64 ((leastO d).width), .int .i64 ((leastO d).start), .slice na_1 (((leastO d).next).length) nc_1, .slice ba_1 (((leastO d).acc).length) bc_1] 25], [rowT (tyI .i64) (.slice a2_2 bl_1.length c2_2) 3 bl_1], [rowT (tyI .i64) (.slice ca_2 (((leastD d).cls).length) cc_2) 3 ((leastD d).cls)], [rowT (tyI .i64) (.slice na_2 (((leastD d).next).length) nc_2) 3 ((leastD d).next)], [rowT tyB (.slice ba_2 (((leastD d).acc).length) bc_2) 4 ((leastD d).acc)]] := H12.call u12
            refine ⟨trivial, ?_⟩
            refine WD.take hok1 17 (.bool (sameD (leastO d) (leastD d))) (fun _ => True) rfl rfl rfl rfl rfl trivial (.inl ⟨rfl, fun _ _ => d_pick rfl rfl ⟨rfl, rfl⟩⟩) ?_
            refine WD.take hok1 18 (.bool (sameD (leastO d) (leastD d))) (fun _ => True) rfl rfl rfl rfl rfl trivial (.inl ⟨rfl, fun _ _ => d_assign rfl ⟨rfl, rfl⟩⟩) ?_
            refine WD.done hok1 rfl (X.then_code ?_)
            refine W.ret (X.ret1 rfl rfl ?_)
            exact ⟨(by rw [e1, sameD_self]), H13.noneL⟩
          · skip
            exact absurd e2 g37xx
        · skip
          exact absurd hN g37x
      · skip
        exact absurd hB g37

end Go.Proofs.Ytoeockpkkmgieaa

