/- The walks of functions, printed by wip/tools/gw.py. -/
import Derived.Test.YtoeockpkkmgieaaEqualApartB1
import Derived.Test.YtoeockpkkmgieaaEqualApartB3
import Derived.Test.YtoeockpkkmgieaaEqualApartB4
import Derived.Test.YtoeockpkkmgieaaEqualApartB2
namespace Go.Proofs.Ytoeockpkkmgieaa
open Go Go.Sx
set_option linter.unusedVariables false
set_option linter.unusedSimpArgs false
set_option maxRecDepth 20000 in
theorem refOf_any (d : DfaD) (dca : Option Addr) (dna : Option Addr) (dba : Option Addr) (dcc : Nat) (dnc : Nat) (dbc : Nat) (w : World) (rcd : RdT (tyI .i64) w (.slice dca d.cls.length dcc) d.cls) (rnd : RdT (tyI .i64) w (.slice dna d.next.length dnc) d.next) (rbd : RdT tyB w (.slice dba d.acc.length dbc) d.acc) (hrt : rightB d = true) :
    Calls Try.prog 54 #[.agg #[.slice dca d.cls.length dcc, .int .i64 d.width, .int .i64 d.start, .slice dna d.next.length dnc, .slice dba d.acc.length dbc]] w (Ret fun v w' => ∃ ca : Option Addr, ∃ cc : Nat, ∃ na : Option Addr, ∃ nc : Nat, ∃ ba : Option Addr, ∃ bc : Nat, v = .agg #[.slice ca (((leastD d).cls).length) cc, .int .i64 ((leastD d).width), .int .i64 ((leastD d).start), .slice na (((leastD d).next).length) nc, .slice ba (((leastD d).acc).length) bc] ∧ Upd w [] w' [rowT (tyI .i64) (.slice ca (((leastD d).cls).length) cc) 3 ((leastD d).cls), rowT (tyI .i64) (.slice na (((leastD d).next).length) nc) 3 ((leastD d).next), rowT tyB (.slice ba (((leastD d).acc).length) bc) 4 ((leastD d).acc)]) := by
  have hri := rightB_iff.1 hrt
  have le_rcd := rcd.le
  have le_rnd := rnd.le
  have le_rbd := rbd.le
  refine calls_of_W (args := [.agg #[.slice dca d.cls.length dcc, .int .i64 d.width, .int .i64 d.start, .slice dna d.next.length dnc, .slice dba d.acc.length dbc]]) Try.func54 rfl rfl rfl ?_
  have H0 : UpG w [] w [] := UpG.nil w
  show W _ _ _ _ [(0, .agg #[.slice dca d.cls.length dcc, .int .i64 d.width, .int .i64 d.start, .slice dna d.next.length dnc, .slice dba d.acc.length dbc])] w
  refine W.seq ?_
  refine W.region ?_
  refine WL.op rfl (d_box rfl fun w1 u1 => ?_)
  have H1 : UpG w [] w1 [[blk w.heap.size #[.slice dca d.cls.length dcc, .int .i64 d.width, .int .i64 d.start, .slice dna d.next.length dnc, .slice dba d.acc.length dbc] 25]] := H0.new' u1
  refine WL.op rfl (d_alloc sz25 fun w2 u2 => ?_)
  have H2 : UpG w [] w2 [[blk w.heap.size #[.slice dca d.cls.length dcc, .int .i64 d.width, .int .i64 d.start, .slice dna d.next.length dnc, .slice dba d.acc.length dbc] 25], [blk w1.heap.size #[.slice none 0 0, .int .i64 0, .int .i64 0, .slice none 0 0, .slice none 0 0] 25]] := H1.new' u2
  refine WL.done (X.then_code ?_)
  refine W.seq ?_
  refine W.region ?_
  refine WL.op rfl (d_loadAB [.slice dca d.cls.length dcc, .int .i64 d.width, .int .i64 d.start, .slice dna d.next.length dnc, .slice dba d.acc.length dbc] Try.underlying25 rfl sz25 rfl (H2.blk 0 rfl) rfl rfl ?_)
  refine WL.op rfl (d_call ok53 rfl (Ret.calls (blocks13_any d dca dna dba dcc dnc dbc w2 (rcd.at H2) (rnd.at H2) (rbd.at H2) (by omega)) fun _ w3 p1 => ?_))
  obtain ⟨a2_1, bl_1, c2_1, bn_1, rfl, u3, q1⟩ := p1
  have H3 : UpG w [] w3 [[blk w.heap.size #[.slice dca d.cls.length dcc, .int .i64 d.width, .int .i64 d.start, .slice dna d.next.length dnc, .slice dba d.acc.length dbc] 25], [blk w1.heap.size #[.slice none 0 0, .int .i64 0, .int .i64 0, .slice none 0 0, .slice none 0 0] 25], [rowT (tyI .i64) (.slice a2_1 bl_1.length c2_1) 3 bl_1]] := (H2.new' u3).re rfl
  refine WL.op rfl (d_move rfl ?_)
  refine WL.op rfl (d_extract rfl rfl ?_)
  refine WL.op rfl (d_extract rfl rfl ?_)
  refine WL.op rfl (d_assign rfl ?_)
  refine WL.op rfl (d_assign rfl ?_)
  refine WL.done (X.then_code ?_)
  refine W.seq ?_
  obtain ⟨f9, hf9, hb9, _⟩ := q1
  have hbe : bl_1 = blkD d := by rw [hb9, hf9.eq hrt]; rfl
  have hbk : BlkK d bl_1 := by rw [hbe]; exact blkD_k d
  have hbl : bl_1.length = d.acc.length := by rw [hbe]; exact blkD_len d
  refine W.region ?_
  refine WL.op rfl (d_loadAB [.slice dca d.cls.length dcc, .int .i64 d.width, .int .i64 d.start, .slice dna d.next.length dnc, .slice dba d.acc.length dbc] Try.underlying25 rfl sz25 rfl (H3.blk 0 rfl) rfl rfl ?_)
  refine WL.op rfl (d_call ok21 rfl (Ret.calls (comes_any d dca dna dba dcc dnc dbc w3 (rcd.at H3) (rnd.at H3) (rbd.at H3) (by omega)) fun _ w4 p2 => ?_))
  obtain ⟨a2_2, Xs_1, n2_1, c2_2, rfl, u4, q2, q3⟩ := p2
  have H4 : UpG w [] w4 [[blk w.heap.size #[.slice dca d.cls.length dcc, .int .i64 d.width, .int .i64 d.start, .slice dna d.next.length dnc, .slice dba d.acc.length dbc] 25], [blk w1.heap.size #[.slice none 0 0, .int .i64 0, .int .i64 0, .slice none 0 0, .slice none 0 0] 25], [rowT (tyI .i64) (.slice a2_1 bl_1.length c2_1) 3 bl_1], [rowT tyLR (.slice a2_2 n2_1 c2_2) 23 Xs_1], [manyF (inLR tyB 4).row Xs_1]] := (H3.new' u4).re rfl
  refine WL.op rfl (d_assign rfl ?_)
  refine WL.done (X.then_code ?_)
  refine W.seq ?_
  refine W.region ?_
  refine WL.op rfl (d_assign rfl ?_)
  refine WL.done (X.then_code ?_)
  refine W.seq ?_
  refine W.seq ?_
  refine W.region ?_
  refine WL.op rfl (d_assign rfl ?_)
  refine WL.done (X.then_code ?_)
  refine W.block ?_
  have H5 : UpG w [] w4 [[blk w.heap.size #[.slice dca d.cls.length dcc, .int .i64 d.width, .int .i64 d.start, .slice dna d.next.length dnc, .slice dba d.acc.length dbc] 25], [blk w1.heap.size #[.slice none 0 0, .int .i64 0, .int .i64 0, .slice none 0 0, .slice none 0 0] 25], [rowT (tyI .i64) (.slice a2_1 bl_1.length c2_1) 3 bl_1], [rowT tyLR (.slice a2_2 n2_1 c2_2) 23 Xs_1], [manyF (inLR tyB 4).row Xs_1], [rowT (tyI .i64) (.slice none (([] : List Int).length) 0) 3 ([] : List Int)]] := H4.new' (Upd.nilRowT w4 (tyI .i64) 3)
  refine W.pick [7, 6, 5, 3, 2, 1] (Γ' := [(7, .int .i64 0), (6, .slice none (([] : List Int).length) 0), (5, .slice a2_2 n2_1 c2_2), (3, .slice a2_1 bl_1.length c2_1), (2, .pointer (some ⟨w1.heap.size, 0, none⟩)), (1, .pointer (some ⟨w.heap.size, 0, none⟩))]) rfl ?_
  refine W.loop (fun m Γ' w' => ∃ s : Nat, ∃ q : List Int, ∃ qa : Option Addr, ∃ qc : Nat, Γ' = [(7, .int .i64 ((s : Nat) : Int)), (6, .slice qa q.length qc), (5, .slice a2_2 n2_1 c2_2), (3, .slice a2_1 bl_1.length c2_1), (2, .pointer (some ⟨w1.heap.size, 0, none⟩)), (1, .pointer (some ⟨w.heap.size, 0, none⟩))] ∧ UpG w [] w' [[blk w.heap.size #[.slice dca d.cls.length dcc, .int .i64 d.width, .int .i64 d.start, .slice dna d.next.length dnc, .slice dba d.acc.length dbc] 25], [blk w1.heap.size #[.slice none 0 0, .int .i64 0, .int .i64 0, .slice none 0 0, .slice none 0 0] 25], [rowT (tyI .i64) (.slice a2_1 bl_1.length c2_1) 3 bl_1], [rowT tyLR (.slice a2_2 n2_1 c2_2) 23 Xs_1], [manyF (inLR tyB 4).row Xs_1], [rowT (tyI .i64) (.slice qa q.length qc) 3 q]] ∧ (s ≤ 259) ∧ (FrQ (SymR d) q s) ∧ m = 259 - s) (259 - 0) ⟨0, ([] : List Int), none, 0, rfl, H5, (by first | assumption | omega | simp), (by exact FrQ.start _), rfl⟩ ?_
  rintro m1 Γ1 w5 ⟨s, q, qa, qc, rfl, H6, hs, hq, rfl⟩
  have hql := hq.len
  refine W.seq ?_
  refine W.seq ?_
  refine W.region ?_
  refine WL.op rfl (d_move rfl ?_)
  refine WL.op rfl (d_cmp (decide (((s : Nat) : Int) < (259 : Int))) rfl rfl rfl ?_)
  refine WL.done (X.then_code ?_)
  refine W.ite (p := ((s : Nat) : Int) < (259 : Int)) rfl (fun c81 => ?_) (fun c81 => ?_)
  · skip
    refine W.skip (X.then_code ?_)
    refine W.seq ?_
    refine W.block ?_
    refine W.seq ?_
    refine W.region ?_
    refine WL.op rfl (d_move rfl ?_)
    refine WL.op rfl (d_assign rfl ?_)
    refine WL.done (X.then_code ?_)
    refine W.seq ?_
    refine W.seq ?_
    refine W.region ?_
    refine WL.op rfl (d_move rfl ?_)
    refine WL.op rfl (d_sub rfl rfl (by omega) (by omega) ?_)
    refine WL.op rfl (d_assign rfl ?_)
    refine WL.done (X.then_code ?_)
    refine W.block ?_
    refine W.pick [9, 8, 7, 6, 5, 3, 2, 1] (Γ' := [(9, .int .i64 (((s : Nat) : Int) - 1)), (8, .int .i64 ((s : Nat) : Int)), (7, .int .i64 ((s : Nat) : Int)), (6, .slice qa q.length qc), (5, .slice a2_2 n2_1 c2_2), (3, .slice a2_1 bl_1.length c2_1), (2, .pointer (some ⟨w1.heap.size, 0, none⟩)), (1, .pointer (some ⟨w.heap.size, 0, none⟩))]) rfl ?_
    refine W.loop (fun m Γ' w' => ∃ y : Int, ∃ aa : Int, Γ' = [(9, .int .i64 y), (8, .int .i64 aa), (7, .int .i64 ((s : Nat) : Int)), (6, .slice qa q.length qc), (5, .slice a2_2 n2_1 c2_2), (3, .slice a2_1 bl_1.length c2_1), (2, .pointer (some ⟨w1.heap.size, 0, none⟩)), (1, .pointer (some ⟨w.heap.size, 0, none⟩))] ∧ UpG w [] w' [[blk w.heap.size #[.slice dca d.cls.length dcc, .int .i64 d.width, .int .i64 d.start, .slice dna d.next.length dnc, .slice dba d.acc.length dbc] 25], [blk w1.heap.size #[.slice none 0 0, .int .i64 0, .int .i64 0, .slice none 0 0, .slice none 0 0] 25], [rowT (tyI .i64) (.slice a2_1 bl_1.length c2_1) 3 bl_1], [rowT tyLR (.slice a2_2 n2_1 c2_2) 23 Xs_1], [manyF (inLR tyB 4).row Xs_1], [rowT (tyI .i64) (.slice qa q.length qc) 3 q]] ∧ (-1 ≤ y ∧ y < ((s : Nat) : Int)) ∧ (FsP (SymR d) q s aa y) ∧ m = (y + 1).toNat) (((((s : Nat) : Int) - 1) + 1).toNat) ⟨((s : Nat) : Int) - 1, ((s : Nat) : Int), rfl, H6, (by omega), (by exact FsP.start (fun i s _ _ => LEq.refl d _) q s), rfl⟩ ?_
    rintro m2 Γ2 w6 ⟨y, aa, rfl, H7, hy, hat, rfl⟩
    refine W.seq ?_
    refine W.seq ?_
    refine W.region ?_
    refine WL.op rfl (d_move rfl ?_)
    refine WL.op rfl (d_cmp (decide (y ≥ (0 : Int))) rfl rfl rfl ?_)
    refine WL.done (X.then_code ?_)
    refine W.ite (p := y ≥ (0 : Int)) rfl (fun c83 => ?_) (fun c83 => ?_)
    · skip
      refine W.skip (X.then_code ?_)
      refine W.seq ?_
      refine W.block ?_
      refine W.seq ?_
      refine W.seq ?_
      refine W.region ?_
      refine WL.op rfl (d_move rfl ?_)
      refine WL.op rfl (d_move rfl ?_)
      refine WL.op rfl (t_addr1 y.toNat (T := (tyI .i64)) rfl Try.underlying22 sz3 rfl rfl (H7.rdT 5 rfl) (by omega) (by omega) ?_)
      refine WL.op rfl (t_load1 y.toNat 0 (T := (tyI .i64)) rfl Try.underlying3 rfl rfl (H7.rdT 5 rfl) (by omega) rfl ?_)
      refine WL.op rfl (d_move rfl ?_)
      refine WL.op rfl (d_cmp (decide ((q.getD y.toNat 0) ≠ y)) rfl rfl rfl ?_)
      refine WL.done (X.then_code ?_)
      refine W.ite (p := (q.getD y.toNat 0) ≠ y) rfl (fun c84 => ?_) (fun c84 => ?_)
      · skip
        refine W.exit (X.then_exit (X.block_exit (X.then_code ?_)))
        refine W.region ?_
        refine WL.op rfl (d_move rfl ?_)
        refine WL.op rfl (d_sub rfl rfl (by omega) (by omega) ?_)
        refine WL.op rfl (d_assign rfl ?_)
        refine WL.done ?_
        exact X.next [9, 8, 7, 6, 5, 3, 2, 1] (Γ' := [(9, .int .i64 (y - 1)), (8, .int .i64 aa), (7, .int .i64 ((s : Nat) : Int)), (6, .slice qa q.length qc), (5, .slice a2_2 n2_1 c2_2), (3, .slice a2_1 bl_1.length c2_1), (2, .pointer (some ⟨w1.heap.size, 0, none⟩)), (1, .pointer (some ⟨w.heap.size, 0, none⟩))]) rfl (((y - 1) + 1).toNat) (by omega) ⟨y - 1, aa, rfl, H7, (by omega), (by first | exact hat.hit (by omega) (hsm.1 c91) | exact hat.pass (by omega) (.inr (fun h9 => c91 (hsm.2 h9))) | exact hat.pass (by omega) (.inl c84)), rfl⟩
      · skip
        refine W.skip (X.then_code ?_)
        refine W.seq ?_
        refine W.region ?_
        refine WL.op rfl (d_assign rfl ?_)
        refine WL.done (X.then_code ?_)
        refine W.seq ?_
        refine W.seq ?_
        refine W.region ?_
        refine WL.op rfl (d_assign rfl ?_)
        refine WL.done (X.then_code ?_)
        refine W.block ?_
        refine W.pick [11, 10, 9, 8, 7, 6, 5, 3, 2, 1] (Γ' := [(11, .int .i64 0), (10, .bool true), (9, .int .i64 y), (8, .int .i64 aa), (7, .int .i64 ((s : Nat) : Int)), (6, .slice qa q.length qc), (5, .slice a2_2 n2_1 c2_2), (3, .slice a2_1 bl_1.length c2_1), (2, .pointer (some ⟨w1.heap.size, 0, none⟩)), (1, .pointer (some ⟨w.heap.size, 0, none⟩))]) rfl ?_
        refine W.loop (fun m Γ' w' => ∃ j : Nat, ∃ b : Bool, Γ' = [(11, .int .i64 ((j : Nat) : Int)), (10, .bool b), (9, .int .i64 y), (8, .int .i64 aa), (7, .int .i64 ((s : Nat) : Int)), (6, .slice qa q.length qc), (5, .slice a2_2 n2_1 c2_2), (3, .slice a2_1 bl_1.length c2_1), (2, .pointer (some ⟨w1.heap.size, 0, none⟩)), (1, .pointer (some ⟨w.heap.size, 0, none⟩))] ∧ UpG w [] w' [[blk w.heap.size #[.slice dca d.cls.length dcc, .int .i64 d.width, .int .i64 d.start, .slice dna d.next.length dnc, .slice dba d.acc.length dbc] 25], [blk w1.heap.size #[.slice none 0 0, .int .i64 0, .int .i64 0, .slice none 0 0, .slice none 0 0] 25], [rowT (tyI .i64) (.slice a2_1 bl_1.length c2_1) 3 bl_1], [rowT tyLR (.slice a2_2 n2_1 c2_2) 23 Xs_1], [manyF (inLR tyB 4).row Xs_1], [rowT (tyI .i64) (.slice qa q.length qc) 3 q]] ∧ (j ≤ bl_1.length) ∧ (SmP d bl_1 y.toNat s j b) ∧ m = bl_1.length - j) (bl_1.length - 0) ⟨0, true, rfl, H7, (by first | assumption | omega | simp), (by exact SmP.start d _ _ _), rfl⟩ ?_
        rintro m3 Γ3 w7 ⟨j, b, rfl, H8, hj, hb, rfl⟩
        refine W.seq ?_
        refine W.seq ?_
        refine W.region ?_
        refine WL.op rfl (d_move rfl ?_)
        refine WL.op rfl (d_move rfl ?_)
        refine WL.op rfl (d_lenS Try.underlying22 rfl ?_)
        refine WL.op rfl (d_cmp (decide (((j : Nat) : Int) < ((bl_1.length : Nat) : Int))) rfl rfl rfl ?_)
        refine WL.op rfl (d_move rfl ?_)
        refine WL.part 50 (p := ((j : Nat) : Int) < ((bl_1.length : Nat) : Int)) rfl (fun g88 => ?_) (fun g88 => ?_)
        · skip
          refine WL.opG rfl rfl rfl (d_move rfl ?_)
          refine WL.op rfl (d_pick rfl rfl ?_)
          refine WL.done (X.then_code ?_)
          refine W.iteB (b := b) rfl (fun c88 => ?_) (fun c88 => ?_)
          · skip
            refine W.skip (X.then_code ?_)
            refine W.seq ?_
            refine W.block ?_
            have hcr := q2.row d.start.toNat (by omega)
            have hcl := q2.len
            have hcv := q2.val d.start.toNat j (by omega) (by omega)
            rw [Int.toNat_of_nonneg hri.1.2.2.2.2.2.2.1] at hcv
            have hb9 : SmP d bl_1 y.toNat s j true := c88 ▸ hb
            have hp1 : blAt bl_1 (stepD d ((j : Nat) : Int) ((y.toNat : Nat) : Int)) = bl_1.getD (dN d j y) 0 := by rw [Int.toNat_of_nonneg (by omega), ← dN_int hrt (by omega) (by omega)]; unfold blAt; rw [Int.toNat_natCast]
            have hp2 : blAt bl_1 (stepD d ((j : Nat) : Int) ((s : Nat) : Int)) = bl_1.getD (dN d j ((s : Nat) : Int)) 0 := by rw [← dN_int hrt (by omega) (by omega)]; unfold blAt; rw [Int.toNat_natCast]
            have hdl1 := dN_lt hrt (i := j) (by omega) (c := y) (by omega)
            have hdl2 := dN_lt hrt (i := j) (by omega) (c := ((s : Nat) : Int)) (by omega)
            refine W.regionD mixed (by kernel_rfl) fun hok1 w8 k1 => ?_
            have H9 : UpG w [] w8 [[blk w.heap.size #[.slice dca d.cls.length dcc, .int .i64 d.width, .int .i64 d.start, .slice dna d.next.length dnc, .slice dba d.acc.length dbc] 25], [blk w1.heap.size #[.slice none 0 0, .int .i64 0, .int .i64 0, .slice none 0 0, .slice none 0 0] 25], [rowT (tyI .i64) (.slice a2_1 bl_1.length c2_1) 3 bl_1], [rowT tyLR (.slice a2_2 n2_1 c2_2) 23 Xs_1], [manyF (inLR tyB 4).row Xs_1], [rowT (tyI .i64) (.slice qa q.length qc) 3 q]] := H8.kept k1
            refine WD.take hok1 0 (.slice a2_2 n2_1 c2_2) (fun _ => True) rfl rfl rfl rfl rfl trivial (.inl ⟨rfl, fun _ _ => d_move rfl ⟨rfl, rfl⟩⟩) ?_
            refine WD.take hok1 1 (.pointer (some ⟨w.heap.size, 2, none⟩)) (fun _ => True) rfl rfl rfl rfl rfl trivial (.inl ⟨rfl, fun _ _ => d_fieldAddrB fld25_2 rfl rfl ⟨rfl, rfl⟩⟩) ?_
            refine WD.take hok1 2 (.int .i64 d.start) (fun w' => w'.heap[w.heap.size]? = some (.cells #[.slice dca d.cls.length dcc, .int .i64 d.width, .int .i64 d.start, .slice dna d.next.length dnc, .slice dba d.acc.length dbc] 25 (0, 0))) rfl rfl rfl rfl rfl (H9.blk 0 rfl) (.inl ⟨rfl, fun _ hC => d_loadB Try.underlying3 rfl rfl hC rfl ⟨rfl, rfl⟩⟩) ?_
            refine WD.take hok1 3 (elemPtr (.slice a2_2 n2_1 c2_2) d.start.toNat) (fun w' => RdT tyLR w' (.slice a2_2 n2_1 c2_2) Xs_1) rfl rfl rfl rfl rfl (H9.rdT 3 rfl) (.inl ⟨rfl, fun _ hC => t_addr1 d.start.toNat (T := tyLR) rfl Try.underlying29 sz23 rfl rfl hC (by omega) (by omega) ⟨rfl, rfl⟩⟩) ?_
            refine WD.take hok1 4 (.slice ((Xs_1.getD d.start.toNat lr0).a) ((Xs_1.getD d.start.toNat lr0).n) ((Xs_1.getD d.start.toNat lr0).c)) (fun w' => RdT tyLR w' (.slice a2_2 n2_1 c2_2) Xs_1) rfl rfl rfl rfl rfl (H9.rdT 3 rfl) (.inl ⟨rfl, fun _ hC => t_load1 d.start.toNat lr0 (T := tyLR) rfl Try.underlying23 rfl rfl hC (by omega) rfl ⟨rfl, rfl⟩⟩) ?_
            refine WD.take hok1 5 (.int .i64 ((j : Nat) : Int)) (fun _ => True) rfl rfl rfl rfl rfl trivial (.inl ⟨rfl, fun _ _ => d_move rfl ⟨rfl, rfl⟩⟩) ?_
            refine WD.take hok1 6 (elemPtr (.slice ((Xs_1.getD d.start.toNat lr0).a) ((Xs_1.getD d.start.toNat lr0).n) ((Xs_1.getD d.start.toNat lr0).c)) j) (fun w' => RdT tyB w' (.slice ((Xs_1.getD d.start.toNat lr0).a) ((Xs_1.getD d.start.toNat lr0).n) ((Xs_1.getD d.start.toNat lr0).c)) ((Xs_1.getD d.start.toNat lr0).xs)) rfl rfl rfl rfl rfl (show RdT tyB w8 (.slice ((Xs_1.getD d.start.toNat lr0).a) ((Xs_1.getD d.start.toNat lr0).n) ((Xs_1.getD d.start.toNat lr0).c)) ((Xs_1.getD d.start.toNat lr0).xs) from (Inn.own (H9.hpOf 4 rfl)).get lr0 d.start.toNat (by omega)) (.inl ⟨rfl, fun _ hC => t_addr1 j (T := tyB) rfl Try.underlying23 sz4 rfl rfl hC rfl (by omega) ⟨rfl, rfl⟩⟩) ?_
            refine WD.take hok1 7 (.bool (((Xs_1.getD d.start.toNat lr0).xs).getD j false)) (fun w' => RdT tyB w' (.slice ((Xs_1.getD d.start.toNat lr0).a) ((Xs_1.getD d.start.toNat lr0).n) ((Xs_1.getD d.start.toNat lr0).c)) ((Xs_1.getD d.start.toNat lr0).xs)) rfl rfl rfl rfl rfl (show RdT tyB w8 (.slice ((Xs_1.getD d.start.toNat lr0).a) ((Xs_1.getD d.start.toNat lr0).n) ((Xs_1.getD d.start.toNat lr0).c)) ((Xs_1.getD d.start.toNat lr0).xs) from (Inn.own (H9.hpOf 4 rfl)).get lr0 d.start.toNat (by omega)) (.inl ⟨rfl, fun _ hC => t_load1 j false (T := tyB) rfl Try.underlying4 rfl rfl hC (by omega) rfl ⟨rfl, rfl⟩⟩) ?_
            refine WD.take hok1 8 (.bool (!(((Xs_1.getD d.start.toNat lr0).xs).getD j false))) (fun _ => True) rfl rfl rfl rfl rfl trivial (.inl ⟨rfl, fun _ _ => d_notB rfl ⟨rfl, rfl⟩⟩) ?_
            refine WD.take hok1 9 (.bool (!(((Xs_1.getD d.start.toNat lr0).xs).getD j false))) (fun _ => True) rfl rfl rfl rfl rfl trivial (.inl ⟨rfl, fun _ _ => d_move rfl ⟨rfl, rfl⟩⟩) ?_
            refine WD.partB 64 (b := !(((Xs_1.getD d.start.toNat lr0).xs).getD j false)) rfl (fun g89 => ?_) (fun g89 => ?_)
            · skip
              refine WD.take hok1 10 undef (fun _ => True) rfl rfl rfl rfl rfl trivial (.inr ⟨rfl, rfl⟩) ?_
              refine WD.take hok1 11 undef (fun _ => True) rfl rfl rfl rfl rfl trivial (.inr ⟨rfl, rfl⟩) ?_
              refine WD.take hok1 12 undef (fun _ => True) rfl rfl rfl rfl rfl trivial (.inr ⟨rfl, rfl⟩) ?_
              refine WD.take hok1 13 undef (fun _ => True) rfl rfl rfl rfl rfl trivial (.inr ⟨rfl, rfl⟩) ?_
              refine WD.take hok1 14 undef (fun _ => True) rfl rfl rfl rfl rfl trivial (.inr ⟨rfl, rfl⟩) ?_
              refine WD.take hok1 15 undef (fun _ => True) rfl rfl rfl rfl rfl trivial (.inr ⟨rfl, rfl⟩) ?_
              refine WD.take hok1 16 undef (fun _ => True) rfl rfl rfl rfl rfl trivial (.inr ⟨rfl, rfl⟩) ?_
              refine WD.take hok1 17 undef (fun _ => True) rfl rfl rfl rfl rfl trivial (.inr ⟨rfl, rfl⟩) ?_
              refine WD.take hok1 18 undef (fun _ => True) rfl rfl rfl rfl rfl trivial (.inr ⟨rfl, rfl⟩) ?_
              refine WD.take hok1 19 undef (fun _ => True) rfl rfl rfl rfl rfl trivial (.inr ⟨rfl, rfl⟩) ?_
              refine WD.take hok1 20 undef (fun _ => True) rfl rfl rfl rfl rfl trivial (.inr ⟨rfl, rfl⟩) ?_
              refine WD.take hok1 21 undef (fun _ => True) rfl rfl rfl rfl rfl trivial (.inr ⟨rfl, rfl⟩) ?_
              refine WD.take hok1 22 undef (fun _ => True) rfl rfl rfl rfl rfl trivial (.inr ⟨rfl, rfl⟩) ?_
              refine WD.take hok1 23 undef (fun _ => True) rfl rfl rfl rfl rfl trivial (.inr ⟨rfl, rfl⟩) ?_
              refine WD.take hok1 24 undef (fun _ => True) rfl rfl rfl rfl rfl trivial (.inr ⟨rfl, rfl⟩) ?_
              refine WD.take hok1 25 (.bool true) (fun _ => True) rfl rfl rfl rfl rfl trivial (.inl ⟨rfl, fun _ _ => d_pick rfl rfl ⟨rfl, rfl⟩⟩) ?_
              refine WD.take hok1 26 (.bool true) (fun _ => True) rfl rfl rfl rfl rfl trivial (.inl ⟨rfl, fun _ _ => d_assign rfl ⟨rfl, rfl⟩⟩) ?_
              refine WD.done hok1 rfl (X.block_normal (X.then_code ?_))
              refine W.pick [10, 79, 78, 77, 76, 75, 74, 73, 72, 71, 70, 69, 68, 67, 66, 65, 51, 11, 9, 8, 7, 6, 5, 3, 2, 1] (Γ' := [(10, .bool true), (79, undef), (78, undef), (77, undef), (76, undef), (75, undef), (74, undef), (73, undef), (72, undef), (71, undef), (70, undef), (69, undef), (68, undef), (67, undef), (66, undef), (65, undef), (51, .bool b), (11, .int .i64 ((j : Nat) : Int)), (9, .int .i64 y), (8, .int .i64 aa), (7, .int .i64 ((s : Nat) : Int)), (6, .slice qa q.length qc), (5, .slice a2_2 n2_1 c2_2), (3, .slice a2_1 bl_1.length c2_1), (2, .pointer (some ⟨w1.heap.size, 0, none⟩)), (1, .pointer (some ⟨w.heap.size, 0, none⟩))]) rfl ?_
              refine W.region ?_
              refine WL.op rfl (d_move rfl ?_)
              refine WL.op rfl (d_add rfl rfl (by omega) (by omega) ?_)
              refine WL.op rfl (d_assign rfl ?_)
              refine WL.done ?_
              exact X.next [11, 10, 9, 8, 7, 6, 5, 3, 2, 1] (Γ' := [(11, .int .i64 (((j + 1) : Nat) : Int)), (10, .bool true), (9, .int .i64 y), (8, .int .i64 aa), (7, .int .i64 ((s : Nat) : Int)), (6, .slice qa q.length qc), (5, .slice a2_2 n2_1 c2_2), (3, .slice a2_1 bl_1.length c2_1), (2, .pointer (some ⟨w1.heap.size, 0, none⟩)), (1, .pointer (some ⟨w.heap.size, 0, none⟩))]) rfl (bl_1.length - (j + 1)) (by omega) ⟨j + 1, true, rfl, H9, (by first | assumption | omega | simp), (by first | exact hb9.skip (fun ht => by have h9 := hcv.2 ht; unfold cellB at h9; rw [h9] at g89; exact absurd g89 (by decide)) | exact hb9.step (hcv.1 (by unfold cellB; exact bn_t g89)) (by rw [hp1, hp2])), rfl⟩
            · skip
              refine WD.take hok1 10 (.slice a2_1 bl_1.length c2_1) (fun _ => True) rfl rfl rfl rfl rfl trivial (.inl ⟨rfl, fun _ _ => d_move rfl ⟨rfl, rfl⟩⟩) ?_
              refine WD.take hok1 11 (.agg #[.slice dca d.cls.length dcc, .int .i64 d.width, .int .i64 d.start, .slice dna d.next.length dnc, .slice dba d.acc.length dbc]) (fun w' => w'.heap[w.heap.size]? = some (.cells #[.slice dca d.cls.length dcc, .int .i64 d.width, .int .i64 d.start, .slice dna d.next.length dnc, .slice dba d.acc.length dbc] 25 (0, 0))) rfl rfl rfl rfl rfl (H9.blk 0 rfl) (.inl ⟨rfl, fun _ hC => d_loadAB [.slice dca d.cls.length dcc, .int .i64 d.width, .int .i64 d.start, .slice dna d.next.length dnc, .slice dba d.acc.length dbc] Try.underlying25 rfl sz25 rfl hC rfl rfl ⟨rfl, rfl⟩⟩) ?_
              refine WD.take hok1 12 (.int .i64 ((j : Nat) : Int)) (fun _ => True) rfl rfl rfl rfl rfl trivial (.inl ⟨rfl, fun _ _ => d_move rfl ⟨rfl, rfl⟩⟩) ?_
              refine WD.take hok1 13 (.int .i64 y) (fun _ => True) rfl rfl rfl rfl rfl trivial (.inl ⟨rfl, fun _ _ => d_move rfl ⟨rfl, rfl⟩⟩) ?_
              refine WD.take hok1 17 (.slice a2_1 bl_1.length c2_1) (fun _ => True) rfl rfl rfl rfl rfl trivial (.inl ⟨rfl, fun _ _ => d_move rfl ⟨rfl, rfl⟩⟩) ?_
              refine WD.take hok1 18 (.agg #[.slice dca d.cls.length dcc, .int .i64 d.width, .int .i64 d.start, .slice dna d.next.length dnc, .slice dba d.acc.length dbc]) (fun w' => w'.heap[w.heap.size]? = some (.cells #[.slice dca d.cls.length dcc, .int .i64 d.width, .int .i64 d.start, .slice dna d.next.length dnc, .slice dba d.acc.length dbc] 25 (0, 0))) rfl rfl rfl rfl rfl (H9.blk 0 rfl) (.inl ⟨rfl, fun _ hC => d_loadAB [.slice dca d.cls.length dcc, .int .i64 d.width, .int .i64 d.start, .slice dna d.next.length dnc, .slice dba d.acc.length dbc] Try.underlying25 rfl sz25 rfl hC rfl rfl ⟨rfl, rfl⟩⟩) ?_
              refine WD.take hok1 19 (.int .i64 ((j : Nat) : Int)) (fun _ => True) rfl rfl rfl rfl rfl trivial (.inl ⟨rfl, fun _ _ => d_move rfl ⟨rfl, rfl⟩⟩) ?_
              refine WD.take hok1 20 (.int .i64 ((s : Nat) : Int)) (fun _ => True) rfl rfl rfl rfl rfl trivial (.inl ⟨rfl, fun _ _ => d_move rfl ⟨rfl, rfl⟩⟩) ?_
              refine WD.loud hok1 14 rfl (⟨_, [⟨20, .int .i64 ((s : Nat) : Int), (fun _ => True)⟩, ⟨19, .int .i64 ((j : Nat) : Int), (fun _ => True)⟩, ⟨18, .agg #[.slice dca d.cls.length dcc, .int .i64 d.width, .int .i64 d.start, .slice dna d.next.length dnc, .slice dba d.acc.length dbc], (fun w' => w'.heap[w.heap.size]? = some (.cells #[.slice dca d.cls.length dcc, .int .i64 d.width, .int .i64 d.start, .slice dna d.next.length dnc, .slice dba d.acc.length dbc] 25 (0, 0)))⟩, ⟨17, .slice a2_1 bl_1.length c2_1, (fun _ => True)⟩, ⟨10, .slice a2_1 bl_1.length c2_1, (fun _ => True)⟩], rfl, rfl, rfl, rfl, rfl, rfl, d_call ok81 rfl (Ret.calls (go11_any d dca dna dba dcc dnc dbc ((j : Nat) : Int) j y w8 (rcd.at H9) (rnd.at H9) (rbd.at H9) (by omega) hrt (by omega) (by omega)) fun _ w9 p3 => ?_)⟩)
              obtain ⟨rfl, u5⟩ := p3
              have H10 : UpG w [] w9 [[blk w.heap.size #[.slice dca d.cls.length dcc, .int .i64 d.width, .int .i64 d.start, .slice dna d.next.length dnc, .slice dba d.acc.length dbc] 25], [blk w1.heap.size #[.slice none 0 0, .int .i64 0, .int .i64 0, .slice none 0 0, .slice none 0 0] 25], [rowT (tyI .i64) (.slice a2_1 bl_1.length c2_1) 3 bl_1], [rowT tyLR (.slice a2_2 n2_1 c2_2) 23 Xs_1], [manyF (inLR tyB 4).row Xs_1], [rowT (tyI .i64) (.slice qa q.length qc) 3 q]] := H9.call u5
              refine ⟨⟨trivial, trivial, (H10.blk 0 rfl), trivial, trivial, trivial⟩, ?_⟩
              refine WD.take hok1 15 (elemPtr (.slice a2_1 bl_1.length c2_1) (dN d j y)) (fun w' => RdT (tyI .i64) w' (.slice a2_1 bl_1.length c2_1) bl_1) rfl rfl rfl rfl rfl (H10.rdT 2 rfl) (.inl ⟨rfl, fun _ hC => t_addr1 (dN d j y) (T := (tyI .i64)) rfl Try.underlying22 sz3 rfl rfl hC rfl (by omega) ⟨rfl, rfl⟩⟩) ?_
              refine WD.take hok1 16 (.int .i64 (bl_1.getD (dN d j y) 0)) (fun w' => RdT (tyI .i64) w' (.slice a2_1 bl_1.length c2_1) bl_1) rfl rfl rfl rfl rfl (H10.rdT 2 rfl) (.inl ⟨rfl, fun _ hC => t_load1 (dN d j y) 0 (T := (tyI .i64)) rfl Try.underlying3 rfl rfl hC (by omega) rfl ⟨rfl, rfl⟩⟩) ?_
              refine WD.loud hok1 21 rfl (⟨_, [⟨16, .int .i64 (bl_1.getD (dN d j y) 0), (fun w' => RdT (tyI .i64) w' (.slice a2_1 bl_1.length c2_1) bl_1)⟩, ⟨15, elemPtr (.slice a2_1 bl_1.length c2_1) (dN d j y), (fun w' => RdT (tyI .i64) w' (.slice a2_1 bl_1.length c2_1) bl_1)⟩, ⟨17, .slice a2_1 bl_1.length c2_1, (fun _ => True)⟩, ⟨10, .slice a2_1 bl_1.length c2_1, (fun _ => True)⟩], rfl, rfl, rfl, rfl, rfl, rfl, d_call ok81 rfl (Ret.calls (go11_any d dca dna dba dcc dnc dbc ((j : Nat) : Int) j ((s : Nat) : Int) w9 (rcd.at H10) (rnd.at H10) (rbd.at H10) (by omega) hrt (by omega) (by omega)) fun _ w10 p4 => ?_)⟩)
              obtain ⟨rfl, u6⟩ := p4
              have H11 : UpG w [] w10 [[blk w.heap.size #[.slice dca d.cls.length dcc, .int .i64 d.width, .int .i64 d.start, .slice dna d.next.length dnc, .slice dba d.acc.length dbc] 25], [blk w1.heap.size #[.slice none 0 0, .int .i64 0, .int .i64 0, .slice none 0 0, .slice none 0 0] 25], [rowT (tyI .i64) (.slice a2_1 bl_1.length c2_1) 3 bl_1], [rowT tyLR (.slice a2_2 n2_1 c2_2) 23 Xs_1], [manyF (inLR tyB 4).row Xs_1], [rowT (tyI .i64) (.slice qa q.length qc) 3 q]] := H10.call u6
              refine ⟨⟨(H11.rdT 2 rfl), (H11.rdT 2 rfl), trivial, trivial, trivial⟩, ?_⟩
              refine WD.take hok1 22 (elemPtr (.slice a2_1 bl_1.length c2_1) (dN d j ((s : Nat) : Int))) (fun w' => RdT (tyI .i64) w' (.slice a2_1 bl_1.length c2_1) bl_1) rfl rfl rfl rfl rfl (H11.rdT 2 rfl) (.inl ⟨rfl, fun _ hC => t_addr1 (dN d j ((s : Nat) : Int)) (T := (tyI .i64)) rfl Try.underlying22 sz3 rfl rfl hC rfl (by omega) ⟨rfl, rfl⟩⟩) ?_
              refine WD.take hok1 23 (.int .i64 (bl_1.getD (dN d j ((s : Nat) : Int)) 0)) (fun w' => RdT (tyI .i64) w' (.slice a2_1 bl_1.length c2_1) bl_1) rfl rfl rfl rfl rfl (H11.rdT 2 rfl) (.inl ⟨rfl, fun _ hC => t_load1 (dN d j ((s : Nat) : Int)) 0 (T := (tyI .i64)) rfl Try.underlying3 rfl rfl hC (by omega) rfl ⟨rfl, rfl⟩⟩) ?_
              refine WD.take hok1 24 (.bool (decide ((bl_1.getD (dN d j y) 0) = (bl_1.getD (dN d j ((s : Nat) : Int)) 0)))) (fun _ => True) rfl rfl rfl rfl rfl trivial (.inl ⟨rfl, fun _ _ => d_cmp (decide ((bl_1.getD (dN d j y) 0) = (bl_1.getD (dN d j ((s : Nat) : Int)) 0))) rfl rfl rfl ⟨rfl, rfl⟩⟩) ?_
              refine WD.take hok1 25 (.bool (decide ((bl_1.getD (dN d j y) 0) = (bl_1.getD (dN d j ((s : Nat) : Int)) 0)))) (fun _ => True) rfl rfl rfl rfl rfl trivial (.inl ⟨rfl, fun _ _ => d_pick rfl rfl ⟨rfl, rfl⟩⟩) ?_
              refine WD.take hok1 26 (.bool (decide ((bl_1.getD (dN d j y) 0) = (bl_1.getD (dN d j ((s : Nat) : Int)) 0)))) (fun _ => True) rfl rfl rfl rfl rfl trivial (.inl ⟨rfl, fun _ _ => d_assign rfl ⟨rfl, rfl⟩⟩) ?_
              refine WD.done hok1 rfl (X.block_normal (X.then_code ?_))
              refine W.pick [10, 79, 78, 77, 76, 71, 70, 69, 75, 74, 73, 72, 68, 67, 66, 65, 51, 11, 9, 8, 7, 6, 5, 3, 2, 1] (Γ' := [(10, .bool (decide ((bl_1.getD (dN d j y) 0) = (bl_1.getD (dN d j ((s : Nat) : Int)) 0)))), (79, .bool (decide ((bl_1.getD (dN d j y) 0) = (bl_1.getD (dN d j ((s : Nat) : Int)) 0)))), (78, .int .i64 (bl_1.getD (dN d j ((s : Nat) : Int)) 0)), (77, elemPtr (.slice a2_1 bl_1.length c2_1) (dN d j ((s : Nat) : Int))), (76, .int .i64 (((dN d j ((s : Nat) : Int)) : Nat) : Int)), (71, .int .i64 (bl_1.getD (dN d j y) 0)), (70, elemPtr (.slice a2_1 bl_1.length c2_1) (dN d j y)), (69, .int .i64 (((dN d j y) : Nat) : Int)), (75, .int .i64 ((s : Nat) : Int)), (74, .int .i64 ((j : Nat) : Int)), (73, .agg #[.slice dca d.cls.length dcc, .int .i64 d.width, .int .i64 d.start, .slice dna d.next.length dnc, .slice dba d.acc.length dbc]), (72, .slice a2_1 bl_1.length c2_1), (68, .int .i64 y), (67, .int .i64 ((j : Nat) : Int)), (66, .agg #[.slice dca d.cls.length dcc, .int .i64 d.width, .int .i64 d.start, .slice dna d.next.length dnc, .slice dba d.acc.length dbc]), (65, .slice a2_1 bl_1.length c2_1), (51, .bool b), (11, .int .i64 ((j : Nat) : Int)), (9, .int .i64 y), (8, .int .i64 aa), (7, .int .i64 ((s : Nat) : Int)), (6, .slice qa q.length qc), (5, .slice a2_2 n2_1 c2_2), (3, .slice a2_1 bl_1.length c2_1), (2, .pointer (some ⟨w1.heap.size, 0, none⟩)), (1, .pointer (some ⟨w.heap.size, 0, none⟩))]) rfl ?_
              refine W.region ?_
              refine WL.op rfl (d_move rfl ?_)
              refine WL.op rfl (d_add rfl rfl (by omega) (by omega) ?_)
              refine WL.op rfl (d_assign rfl ?_)
              refine WL.done ?_
              exact X.next [11, 10, 9, 8, 7, 6, 5, 3, 2, 1] (Γ' := [(11, .int .i64 (((j + 1) : Nat) : Int)), (10, .bool (decide ((bl_1.getD (dN d j y) 0) = (bl_1.getD (dN d j ((s : Nat) : Int)) 0)))), (9, .int .i64 y), (8, .int .i64 aa), (7, .int .i64 ((s : Nat) : Int)), (6, .slice qa q.length qc), (5, .slice a2_2 n2_1 c2_2), (3, .slice a2_1 bl_1.length c2_1), (2, .pointer (some ⟨w1.heap.size, 0, none⟩)), (1, .pointer (some ⟨w.heap.size, 0, none⟩))]) rfl (bl_1.length - (j + 1)) (by omega) ⟨j + 1, decide ((bl_1.getD (dN d j y) 0) = (bl_1.getD (dN d j ((s : Nat) : Int)) 0)), rfl, H11, (by first | assumption | omega | simp), (by first | exact hb9.skip (fun ht => by have h9 := hcv.2 ht; unfold cellB at h9; rw [h9] at g89; exact absurd g89 (by decide)) | exact hb9.step (hcv.1 (by unfold cellB; exact bn_t g89)) (by rw [hp1, hp2])), rfl⟩
          · skip
            refine W.exit (X.then_exit (X.then_exit (X.block_exit (X.then_code ?_))))
            refine W.seq ?_
            have hsm := SmP.fin hrt hbk hb (k := y.toNat) (sym := s) (by omega) (by omega) hbl (by first | (left; omega) | (right; simpa using c88)) hj
            refine W.region ?_
            refine WL.op rfl (d_move rfl ?_)
            refine WL.done (X.then_code ?_)
            refine W.iteB (b := b) rfl (fun c91 => ?_) (fun c91 => ?_)
            · skip
              exact absurd c91 c88
            · skip
              refine W.skip (X.block_normal (X.then_code ?_))
              refine W.region ?_
              refine WL.op rfl (d_move rfl ?_)
              refine WL.op rfl (d_sub rfl rfl (by omega) (by omega) ?_)
              refine WL.op rfl (d_assign rfl ?_)
              refine WL.done ?_
              exact X.next [9, 8, 7, 6, 5, 3, 2, 1] (Γ' := [(9, .int .i64 (y - 1)), (8, .int .i64 aa), (7, .int .i64 ((s : Nat) : Int)), (6, .slice qa q.length qc), (5, .slice a2_2 n2_1 c2_2), (3, .slice a2_1 bl_1.length c2_1), (2, .pointer (some ⟨w1.heap.size, 0, none⟩)), (1, .pointer (some ⟨w.heap.size, 0, none⟩))]) rfl (((y - 1) + 1).toNat) (by omega) ⟨y - 1, aa, rfl, H8, (by omega), (by first | exact hat.hit (by omega) (hsm.1 c91) | exact hat.pass (by omega) (.inr (fun h9 => c91 (hsm.2 h9))) | exact hat.pass (by omega) (.inl c84)), rfl⟩
        · skip
          refine WL.opN rfl rfl rfl rfl ?_
          refine WL.op rfl (d_pick rfl rfl ?_)
          refine WL.done (X.then_code ?_)
          refine W.iff rfl ?_
          refine W.exit (X.then_exit (X.then_exit (X.block_exit (X.then_code ?_))))
          refine W.seq ?_
          have hsm := SmP.fin hrt hbk hb (k := y.toNat) (sym := s) (by omega) (by omega) hbl (by first | (left; omega) | (right; simpa using c88)) hj
          refine W.region ?_
          refine WL.op rfl (d_move rfl ?_)
          refine WL.done (X.then_code ?_)
          refine W.iteB (b := b) rfl (fun c91 => ?_) (fun c91 => ?_)
          · skip
            refine W.region ?_
            refine WL.op rfl (d_move rfl ?_)
            refine WL.op rfl (d_assign rfl ?_)
            refine WL.done (X.block_normal (X.then_code ?_))
            refine W.region ?_
            refine WL.op rfl (d_move rfl ?_)
            refine WL.op rfl (d_sub rfl rfl (by omega) (by omega) ?_)
            refine WL.op rfl (d_assign rfl ?_)
            refine WL.done ?_
            exact X.next [9, 8, 7, 6, 5, 3, 2, 1] (Γ' := [(9, .int .i64 (y - 1)), (8, .int .i64 y), (7, .int .i64 ((s : Nat) : Int)), (6, .slice qa q.length qc), (5, .slice a2_2 n2_1 c2_2), (3, .slice a2_1 bl_1.length c2_1), (2, .pointer (some ⟨w1.heap.size, 0, none⟩)), (1, .pointer (some ⟨w.heap.size, 0, none⟩))]) rfl (((y - 1) + 1).toNat) (by omega) ⟨y - 1, y, rfl, H8, (by omega), (by first | exact hat.hit (by omega) (hsm.1 c91) | exact hat.pass (by omega) (.inr (fun h9 => c91 (hsm.2 h9))) | exact hat.pass (by omega) (.inl c84)), rfl⟩
          · skip
            refine W.skip (X.block_normal (X.then_code ?_))
            refine W.region ?_
            refine WL.op rfl (d_move rfl ?_)
            refine WL.op rfl (d_sub rfl rfl (by omega) (by omega) ?_)
            refine WL.op rfl (d_assign rfl ?_)
            refine WL.done ?_
            exact X.next [9, 8, 7, 6, 5, 3, 2, 1] (Γ' := [(9, .int .i64 (y - 1)), (8, .int .i64 aa), (7, .int .i64 ((s : Nat) : Int)), (6, .slice qa q.length qc), (5, .slice a2_2 n2_1 c2_2), (3, .slice a2_1 bl_1.length c2_1), (2, .pointer (some ⟨w1.heap.size, 0, none⟩)), (1, .pointer (some ⟨w.heap.size, 0, none⟩))]) rfl (((y - 1) + 1).toNat) (by omega) ⟨y - 1, aa, rfl, H8, (by omega), (by first | exact hat.hit (by omega) (hsm.1 c91) | exact hat.pass (by omega) (.inr (fun h9 => c91 (hsm.2 h9))) | exact hat.pass (by omega) (.inl c84)), rfl⟩
    · skip
      refine W.exit (X.then_exit (X.then_exit (X.block_exit (X.then_code ?_))))
      refine W.region ?_
      refine WL.op rfl (d_move rfl ?_)
      refine WL.op rfl (d_move rfl ?_)
      refine WL.op rfl (t_buildSlice (T := (tyI .i64)) (xs := [aa]) (cs := #[.int .i64 aa]) rfl Try.underlying22 sz3 rfl rfl rfl rfl (by kernel_rfl) rfl rfl fun w11 u7 => ?_)
      have H12 : UpG w [] w11 [[blk w.heap.size #[.slice dca d.cls.length dcc, .int .i64 d.width, .int .i64 d.start, .slice dna d.next.length dnc, .slice dba d.acc.length dbc] 25], [blk w1.heap.size #[.slice none 0 0, .int .i64 0, .int .i64 0, .slice none 0 0, .slice none 0 0] 25], [rowT (tyI .i64) (.slice a2_1 bl_1.length c2_1) 3 bl_1], [rowT tyLR (.slice a2_2 n2_1 c2_2) 23 Xs_1], [manyF (inLR tyB 4).row Xs_1], [rowT (tyI .i64) (.slice qa q.length qc) 3 q], [rowT (tyI .i64) (.slice (some ⟨w6.heap.size, 0, none⟩) ([aa].length) ([aa].length)) 3 [aa]]] := H7.new' u7
      refine WL.op rfl (t_append (T := (tyI .i64)) (xs := q) (ys := [aa]) rfl Try.underlying22 sz3 rfl rfl rfl (H12.ownT 5 rfl) (H12.rdT 6 rfl) (by simp only [List.length_singleton]; omega) (by simp only [List.length_singleton]; omega) fun a1 c1 w12 u8 => ?_)
      have H13 : UpG w [] w12 [[blk w.heap.size #[.slice dca d.cls.length dcc, .int .i64 d.width, .int .i64 d.start, .slice dna d.next.length dnc, .slice dba d.acc.length dbc] 25], [blk w1.heap.size #[.slice none 0 0, .int .i64 0, .int .i64 0, .slice none 0 0, .slice none 0 0] 25], [rowT (tyI .i64) (.slice a2_1 bl_1.length c2_1) 3 bl_1], [rowT tyLR (.slice a2_2 n2_1 c2_2) 23 Xs_1], [manyF (inLR tyB 4).row Xs_1], [rowT (tyI .i64) (.slice a1 ((q ++ [aa]).length) c1) 3 (q ++ [aa])], []] := (H12.on 5 rfl u8).drop 6
      refine WL.op rfl (d_assign rfl ?_)
      refine WL.done (X.block_normal (X.then_code ?_))
      refine W.region ?_
      refine WL.op rfl (d_move rfl ?_)
      refine WL.op rfl (d_add rfl rfl (by omega) (by omega) ?_)
      refine WL.op rfl (d_assign rfl ?_)
      refine WL.done ?_
      exact X.next [7, 6, 5, 3, 2, 1] (Γ' := [(7, .int .i64 (((s + 1) : Nat) : Int)), (6, .slice a1 ((q ++ [aa]).length) c1), (5, .slice a2_2 n2_1 c2_2), (3, .slice a2_1 bl_1.length c2_1), (2, .pointer (some ⟨w1.heap.size, 0, none⟩)), (1, .pointer (some ⟨w.heap.size, 0, none⟩))]) rfl (259 - (s + 1)) (by omega) ⟨s + 1, q ++ [aa], a1, c1, rfl, (H13.re rfl), (by first | assumption | omega | simp), (by exact hat.fin (symR_eq d 259) (by omega) hq (by omega) (by omega)), rfl⟩
  · skip
    refine W.exit (X.then_exit (X.then_exit (X.block_exit (X.then_code ?_))))
    refine W.seq ?_
    have e9 : s = 259 := by omega
    subst e9
    refine W.region ?_
    refine WL.op rfl (d_alloc sz25 fun w13 u9 => ?_)
    have H14 : UpG w [] w13 [[blk w.heap.size #[.slice dca d.cls.length dcc, .int .i64 d.width, .int .i64 d.start, .slice dna d.next.length dnc, .slice dba d.acc.length dbc] 25], [blk w1.heap.size #[.slice none 0 0, .int .i64 0, .int .i64 0, .slice none 0 0, .slice none 0 0] 25], [rowT (tyI .i64) (.slice a2_1 bl_1.length c2_1) 3 bl_1], [rowT tyLR (.slice a2_2 n2_1 c2_2) 23 Xs_1], [manyF (inLR tyB 4).row Xs_1], [rowT (tyI .i64) (.slice qa q.length qc) 3 q], [blk w5.heap.size #[.slice none 0 0, .int .i64 0, .int .i64 0, .slice none 0 0, .slice none 0 0] 25]] := H6.new' u9
    refine WL.done (X.then_code ?_)
    refine W.seq ?_
    refine W.region ?_
    refine WL.op rfl (d_move rfl ?_)
    refine WL.op rfl (d_call ok86 rfl (Ret.calls (number_any qa q qc w13 (H14.rdT 5 rfl) (hq.first (symR_eq d 259)) (by omega)) fun _ w14 p5 => ?_))
    obtain ⟨a2_3, c2_3, rfl, u10⟩ := p5
    have H15 : UpG w [] w14 [[blk w.heap.size #[.slice dca d.cls.length dcc, .int .i64 d.width, .int .i64 d.start, .slice dna d.next.length dnc, .slice dba d.acc.length dbc] 25], [blk w1.heap.size #[.slice none 0 0, .int .i64 0, .int .i64 0, .slice none 0 0, .slice none 0 0] 25], [rowT (tyI .i64) (.slice a2_1 bl_1.length c2_1) 3 bl_1], [rowT tyLR (.slice a2_2 n2_1 c2_2) 23 Xs_1], [manyF (inLR tyB 4).row Xs_1], [rowT (tyI .i64) (.slice qa q.length qc) 3 q], [blk w5.heap.size #[.slice none 0 0, .int .i64 0, .int .i64 0, .slice none 0 0, .slice none 0 0] 25], [rowT (tyI .i64) (.slice a2_3 ((numL q).length) c2_3) 3 (numL q)]] := (H14.new' u10).re rfl
    refine WL.op rfl (d_move rfl ?_)
    refine WL.op rfl (d_extract rfl rfl ?_)
    refine WL.op rfl (d_extract rfl rfl ?_)
    refine WL.op rfl (d_assign rfl ?_)
    refine WL.op rfl (d_assign rfl ?_)
    refine WL.done (X.then_code ?_)
    refine W.seq ?_
    refine W.region ?_
    refine WL.op rfl (d_move rfl ?_)
    refine WL.op rfl (d_fieldAddrB fld25_0 rfl rfl ?_)
    refine WL.op0 (d_storeB sz22 rfl rfl rfl (H15.blk 6 rfl) rfl fun w15 u11 => ?_)
    have H16 : UpG w [] w15 [[blk w.heap.size #[.slice dca d.cls.length dcc, .int .i64 d.width, .int .i64 d.start, .slice dna d.next.length dnc, .slice dba d.acc.length dbc] 25], [blk w1.heap.size #[.slice none 0 0, .int .i64 0, .int .i64 0, .slice none 0 0, .slice none 0 0] 25], [rowT (tyI .i64) (.slice a2_1 bl_1.length c2_1) 3 bl_1], [rowT tyLR (.slice a2_2 n2_1 c2_2) 23 Xs_1], [manyF (inLR tyB 4).row Xs_1], [rowT (tyI .i64) (.slice qa q.length qc) 3 q], [blk w5.heap.size #[.slice a2_3 ((numL q).length) c2_3, .int .i64 0, .int .i64 0, .slice none 0 0, .slice none 0 0] 25], [rowT (tyI .i64) (.slice a2_3 ((numL q).length) c2_3) 3 (numL q)]] := H15.on 6 rfl u11
    refine WL.done (X.then_code ?_)
    refine W.seq ?_
    refine W.region ?_
    refine WL.op rfl (d_move rfl ?_)
    refine WL.op rfl (d_fieldAddrB fld25_1 rfl rfl ?_)
    refine WL.op0 (d_storeB sz3 rfl rfl rfl (H16.blk 6 rfl) rfl fun w16 u12 => ?_)
    have H17 : UpG w [] w16 [[blk w.heap.size #[.slice dca d.cls.length dcc, .int .i64 d.width, .int .i64 d.start, .slice dna d.next.length dnc, .slice dba d.acc.length dbc] 25], [blk w1.heap.size #[.slice none 0 0, .int .i64 0, .int .i64 0, .slice none 0 0, .slice none 0 0] 25], [rowT (tyI .i64) (.slice a2_1 bl_1.length c2_1) 3 bl_1], [rowT tyLR (.slice a2_2 n2_1 c2_2) 23 Xs_1], [manyF (inLR tyB 4).row Xs_1], [rowT (tyI .i64) (.slice qa q.length qc) 3 q], [blk w5.heap.size #[.slice a2_3 ((numL q).length) c2_3, .int .i64 (((dd q).length : Nat) : Int), .int .i64 0, .slice none 0 0, .slice none 0 0] 25], [rowT (tyI .i64) (.slice a2_3 ((numL q).length) c2_3) 3 (numL q)]] := H16.on 6 rfl u12
    refine WL.done (X.then_code ?_)
    refine W.seq ?_
    refine W.region ?_
    refine WL.op rfl (d_fieldAddrB fld25_0 rfl rfl ?_)
    refine WL.op rfl (d_loadB Try.underlying22 rfl rfl (H17.blk 6 rfl) rfl ?_)
    refine WL.op rfl (d_fieldAddrB fld25_1 rfl rfl ?_)
    refine WL.op rfl (d_loadB Try.underlying3 rfl rfl (H17.blk 6 rfl) rfl ?_)
    refine WL.op rfl (d_call ok87 rfl (Ret.calls (firsts10_any a2_3 (numL q) c2_3 (((dd q).length : Nat) : Int) w16 (H17.rdT 7 rfl) ) fun _ w17 p6 => ?_))
    obtain ⟨a2_4, c2_4, rfl, u13⟩ := p6
    have H18 : UpG w [] w17 [[blk w.heap.size #[.slice dca d.cls.length dcc, .int .i64 d.width, .int .i64 d.start, .slice dna d.next.length dnc, .slice dba d.acc.length dbc] 25], [blk w1.heap.size #[.slice none 0 0, .int .i64 0, .int .i64 0, .slice none 0 0, .slice none 0 0] 25], [rowT (tyI .i64) (.slice a2_1 bl_1.length c2_1) 3 bl_1], [rowT tyLR (.slice a2_2 n2_1 c2_2) 23 Xs_1], [manyF (inLR tyB 4).row Xs_1], [rowT (tyI .i64) (.slice qa q.length qc) 3 q], [blk w5.heap.size #[.slice a2_3 ((numL q).length) c2_3, .int .i64 (((dd q).length : Nat) : Int), .int .i64 0, .slice none 0 0, .slice none 0 0] 25], [rowT (tyI .i64) (.slice a2_3 ((numL q).length) c2_3) 3 (numL q)], [rowT (tyI .i64) (.slice a2_4 ((firstsI (numL q) (((dd q).length : Nat) : Int)).length) c2_4) 3 (firstsI (numL q) (((dd q).length : Nat) : Int))]] := (H17.new' u13).re rfl
    refine WL.op rfl (d_assign rfl ?_)
    refine WL.done (X.then_code ?_)
    refine W.seq ?_
    have hhd := heads_of hq
    have hfs := hhd.1
    have hfw := hhd.2
    refine W.region ?_
    refine WL.op rfl (d_move rfl ?_)
    refine WL.op rfl (d_fieldAddrB fld25_2 rfl rfl ?_)
    refine WL.op rfl (d_loadB Try.underlying3 rfl rfl (H18.blk 0 rfl) rfl ?_)
    refine WL.op rfl (t_addr1 d.start.toNat (T := (tyI .i64)) rfl Try.underlying22 sz3 rfl rfl (H18.rdT 2 rfl) (by omega) (by omega) ?_)
    refine WL.op rfl (t_load1 d.start.toNat 0 (T := (tyI .i64)) rfl Try.underlying3 rfl rfl (H18.rdT 2 rfl) (by omega) rfl ?_)
    refine WL.op rfl (t_buildSlice (T := (tyI .i64)) (xs := [bl_1.getD d.start.toNat 0]) (cs := #[.int .i64 (bl_1.getD d.start.toNat 0)]) rfl Try.underlying22 sz3 rfl rfl rfl rfl (by kernel_rfl) rfl rfl fun w18 u14 => ?_)
    have H19 : UpG w [] w18 [[blk w.heap.size #[.slice dca d.cls.length dcc, .int .i64 d.width, .int .i64 d.start, .slice dna d.next.length dnc, .slice dba d.acc.length dbc] 25], [blk w1.heap.size #[.slice none 0 0, .int .i64 0, .int .i64 0, .slice none 0 0, .slice none 0 0] 25], [rowT (tyI .i64) (.slice a2_1 bl_1.length c2_1) 3 bl_1], [rowT tyLR (.slice a2_2 n2_1 c2_2) 23 Xs_1], [manyF (inLR tyB 4).row Xs_1], [rowT (tyI .i64) (.slice qa q.length qc) 3 q], [blk w5.heap.size #[.slice a2_3 ((numL q).length) c2_3, .int .i64 (((dd q).length : Nat) : Int), .int .i64 0, .slice none 0 0, .slice none 0 0] 25], [rowT (tyI .i64) (.slice a2_3 ((numL q).length) c2_3) 3 (numL q)], [rowT (tyI .i64) (.slice a2_4 ((firstsI (numL q) (((dd q).length : Nat) : Int)).length) c2_4) 3 (firstsI (numL q) (((dd q).length : Nat) : Int))], [rowT (tyI .i64) (.slice (some ⟨w17.heap.size, 0, none⟩) ([bl_1.getD d.start.toNat 0].length) ([bl_1.getD d.start.toNat 0].length)) 3 [bl_1.getD d.start.toNat 0]]] := H18.new' u14
    refine WL.op rfl (d_assign rfl ?_)
    refine WL.done (X.then_code ?_)
    refine W.pick [16, 15, 12, 3, 2, 1] (Γ' := [(16, .slice (some ⟨w17.heap.size, 0, none⟩) ([bl_1.getD d.start.toNat 0].length) ([bl_1.getD d.start.toNat 0].length)), (15, .slice a2_4 ((firstsI (numL q) (((dd q).length : Nat) : Int)).length) c2_4), (12, .pointer (some ⟨w5.heap.size, 0, none⟩)), (3, .slice a2_1 bl_1.length c2_1), (2, .pointer (some ⟨w1.heap.size, 0, none⟩)), (1, .pointer (some ⟨w.heap.size, 0, none⟩))]) rfl ?_
    refine W.seq ?_
    refine W.region ?_
    refine WL.op rfl (d_fieldAddrB fld25_2 rfl rfl ?_)
    refine WL.op rfl (d_loadB Try.underlying3 rfl rfl (H19.blk 0 rfl) rfl ?_)
    refine WL.op rfl (t_buildSlice (T := (tyI .i64)) (xs := [d.start]) (cs := #[.int .i64 d.start]) rfl Try.underlying22 sz3 rfl rfl rfl rfl (by kernel_rfl) rfl rfl fun w19 u15 => ?_)
    have H20 : UpG w [] w19 [[blk w.heap.size #[.slice dca d.cls.length dcc, .int .i64 d.width, .int .i64 d.start, .slice dna d.next.length dnc, .slice dba d.acc.length dbc] 25], [blk w1.heap.size #[.slice none 0 0, .int .i64 0, .int .i64 0, .slice none 0 0, .slice none 0 0] 25], [rowT (tyI .i64) (.slice a2_1 bl_1.length c2_1) 3 bl_1], [rowT tyLR (.slice a2_2 n2_1 c2_2) 23 Xs_1], [manyF (inLR tyB 4).row Xs_1], [rowT (tyI .i64) (.slice qa q.length qc) 3 q], [blk w5.heap.size #[.slice a2_3 ((numL q).length) c2_3, .int .i64 (((dd q).length : Nat) : Int), .int .i64 0, .slice none 0 0, .slice none 0 0] 25], [rowT (tyI .i64) (.slice a2_3 ((numL q).length) c2_3) 3 (numL q)], [rowT (tyI .i64) (.slice a2_4 ((firstsI (numL q) (((dd q).length : Nat) : Int)).length) c2_4) 3 (firstsI (numL q) (((dd q).length : Nat) : Int))], [rowT (tyI .i64) (.slice (some ⟨w17.heap.size, 0, none⟩) ([bl_1.getD d.start.toNat 0].length) ([bl_1.getD d.start.toNat 0].length)) 3 [bl_1.getD d.start.toNat 0]], [rowT (tyI .i64) (.slice (some ⟨w18.heap.size, 0, none⟩) ([d.start].length) ([d.start].length)) 3 [d.start]]] := H19.new' u15
    refine WL.op rfl (d_assign rfl ?_)
    refine WL.done (X.then_code ?_)
    refine W.seq ?_
    refine W.seq ?_
    refine W.region ?_
    refine WL.op rfl (d_assign rfl ?_)
    refine WL.done (X.then_code ?_)
    refine W.block ?_
    have H21 : UpG w [] w19 [[blk w.heap.size #[.slice dca d.cls.length dcc, .int .i64 d.width, .int .i64 d.start, .slice dna d.next.length dnc, .slice dba d.acc.length dbc] 25], [blk w1.heap.size #[.slice none 0 0, .int .i64 0, .int .i64 0, .slice none 0 0, .slice none 0 0] 25], [rowT (tyI .i64) (.slice a2_1 bl_1.length c2_1) 3 bl_1], [rowT tyLR (.slice a2_2 n2_1 c2_2) 23 Xs_1], [manyF (inLR tyB 4).row Xs_1], [rowT (tyI .i64) (.slice qa q.length qc) 3 q], [blk w5.heap.size #[.slice a2_3 ((numL q).length) c2_3, .int .i64 (((dd q).length : Nat) : Int), .int .i64 0, .slice none 0 0, .slice none 0 0] 25], [rowT (tyI .i64) (.slice a2_3 ((numL q).length) c2_3) 3 (numL q)], [rowT (tyI .i64) (.slice a2_4 ((firstsI (numL q) (((dd q).length : Nat) : Int)).length) c2_4) 3 (firstsI (numL q) (((dd q).length : Nat) : Int))], [rowT (tyI .i64) (.slice (some ⟨w17.heap.size, 0, none⟩) ([bl_1.getD d.start.toNat 0].length) ([bl_1.getD d.start.toNat 0].length)) 3 [bl_1.getD d.start.toNat 0]], [rowT (tyI .i64) (.slice (some ⟨w18.heap.size, 0, none⟩) ([d.start].length) ([d.start].length)) 3 [d.start]], [rowT (tyI .i64) (.slice none (([] : List Int).length) 0) 3 ([] : List Int)]] := H20.new' (Upd.nilRowT w19 (tyI .i64) 3)
    have H22 : UpG w [] w19 [[blk w.heap.size #[.slice dca d.cls.length dcc, .int .i64 d.width, .int .i64 d.start, .slice dna d.next.length dnc, .slice dba d.acc.length dbc] 25], [blk w1.heap.size #[.slice none 0 0, .int .i64 0, .int .i64 0, .slice none 0 0, .slice none 0 0] 25], [rowT (tyI .i64) (.slice a2_1 bl_1.length c2_1) 3 bl_1], [rowT tyLR (.slice a2_2 n2_1 c2_2) 23 Xs_1], [manyF (inLR tyB 4).row Xs_1], [rowT (tyI .i64) (.slice qa q.length qc) 3 q], [blk w5.heap.size #[.slice a2_3 ((numL q).length) c2_3, .int .i64 (((dd q).length : Nat) : Int), .int .i64 0, .slice none 0 0, .slice none 0 0] 25], [rowT (tyI .i64) (.slice a2_3 ((numL q).length) c2_3) 3 (numL q)], [rowT (tyI .i64) (.slice a2_4 ((firstsI (numL q) (((dd q).length : Nat) : Int)).length) c2_4) 3 (firstsI (numL q) (((dd q).length : Nat) : Int))], [rowT (tyI .i64) (.slice (some ⟨w17.heap.size, 0, none⟩) ([bl_1.getD d.start.toNat 0].length) ([bl_1.getD d.start.toNat 0].length)) 3 [bl_1.getD d.start.toNat 0]], [rowT (tyI .i64) (.slice (some ⟨w18.heap.size, 0, none⟩) ([d.start].length) ([d.start].length)) 3 [d.start]], [rowT (tyI .i64) (.slice none (([] : List Int).length) 0) 3 ([] : List Int)], [rowT tyB (.slice none (([] : List Bool).length) 0) 4 ([] : List Bool)]] := H21.new' (Upd.nilRowT w19 tyB 4)
    have H23 : UpG w [] w19 [[blk w.heap.size #[.slice dca d.cls.length dcc, .int .i64 d.width, .int .i64 d.start, .slice dna d.next.length dnc, .slice dba d.acc.length dbc] 25], [blk w1.heap.size #[.slice none 0 0, .int .i64 0, .int .i64 0, .slice none 0 0, .slice none 0 0] 25], [rowT (tyI .i64) (.slice a2_1 bl_1.length c2_1) 3 bl_1], [rowT tyLR (.slice a2_2 n2_1 c2_2) 23 Xs_1], [manyF (inLR tyB 4).row Xs_1], [rowT (tyI .i64) (.slice qa q.length qc) 3 q], [blk w5.heap.size #[.slice a2_3 ((numL q).length) c2_3, .int .i64 (((dd q).length : Nat) : Int), .int .i64 0, .slice none (([] : List Int).length) 0, .slice none (([] : List Bool).length) 0] 25], [rowT (tyI .i64) (.slice a2_3 ((numL q).length) c2_3) 3 (numL q)], [rowT (tyI .i64) (.slice a2_4 ((firstsI (numL q) (((dd q).length : Nat) : Int)).length) c2_4) 3 (firstsI (numL q) (((dd q).length : Nat) : Int))], [rowT (tyI .i64) (.slice (some ⟨w17.heap.size, 0, none⟩) ([bl_1.getD d.start.toNat 0].length) ([bl_1.getD d.start.toNat 0].length)) 3 [bl_1.getD d.start.toNat 0]], [rowT (tyI .i64) (.slice (some ⟨w18.heap.size, 0, none⟩) ([d.start].length) ([d.start].length)) 3 [d.start]], [rowT (tyI .i64) (.slice none (([] : List Int).length) 0) 3 ([] : List Int)], [rowT tyB (.slice none (([] : List Bool).length) 0) 4 ([] : List Bool)]] := H22.re rfl
    refine W.pick [18, 17, 16, 15, 12, 3, 2, 1] (Γ' := [(18, .int .i64 0), (17, .slice (some ⟨w18.heap.size, 0, none⟩) ([d.start].length) ([d.start].length)), (16, .slice (some ⟨w17.heap.size, 0, none⟩) ([bl_1.getD d.start.toNat 0].length) ([bl_1.getD d.start.toNat 0].length)), (15, .slice a2_4 ((firstsI (numL q) (((dd q).length : Nat) : Int)).length) c2_4), (12, .pointer (some ⟨w5.heap.size, 0, none⟩)), (3, .slice a2_1 bl_1.length c2_1), (2, .pointer (some ⟨w1.heap.size, 0, none⟩)), (1, .pointer (some ⟨w.heap.size, 0, none⟩))]) rfl ?_
    refine W.loop (fun m Γ' w' => ∃ k : Nat, ∃ hs : List Int, ∃ ha : Option Addr, ∃ hc : Nat, ∃ nx : List Int, ∃ na : Option Addr, ∃ nc : Nat, ∃ ac : List Bool, ∃ ba : Option Addr, ∃ bc : Nat, ∃ mt : List Int, ∃ mta : Option Addr, ∃ mtc : Nat, Γ' = [(18, .int .i64 ((k : Nat) : Int)), (17, .slice ha hs.length hc), (16, .slice mta mt.length mtc), (15, .slice a2_4 ((firstsI (numL q) (((dd q).length : Nat) : Int)).length) c2_4), (12, .pointer (some ⟨w5.heap.size, 0, none⟩)), (3, .slice a2_1 bl_1.length c2_1), (2, .pointer (some ⟨w1.heap.size, 0, none⟩)), (1, .pointer (some ⟨w.heap.size, 0, none⟩))] ∧ UpG w [] w' [[blk w.heap.size #[.slice dca d.cls.length dcc, .int .i64 d.width, .int .i64 d.start, .slice dna d.next.length dnc, .slice dba d.acc.length dbc] 25], [blk w1.heap.size #[.slice none 0 0, .int .i64 0, .int .i64 0, .slice none 0 0, .slice none 0 0] 25], [rowT (tyI .i64) (.slice a2_1 bl_1.length c2_1) 3 bl_1], [rowT tyLR (.slice a2_2 n2_1 c2_2) 23 Xs_1], [manyF (inLR tyB 4).row Xs_1], [rowT (tyI .i64) (.slice qa q.length qc) 3 q], [blk w5.heap.size #[.slice a2_3 ((numL q).length) c2_3, .int .i64 (((dd q).length : Nat) : Int), .int .i64 0, .slice na nx.length nc, .slice ba ac.length bc] 25], [rowT (tyI .i64) (.slice a2_3 ((numL q).length) c2_3) 3 (numL q)], [rowT (tyI .i64) (.slice a2_4 ((firstsI (numL q) (((dd q).length : Nat) : Int)).length) c2_4) 3 (firstsI (numL q) (((dd q).length : Nat) : Int))], [rowT (tyI .i64) (.slice mta mt.length mtc) 3 mt], [rowT (tyI .i64) (.slice ha hs.length hc) 3 hs], [rowT (tyI .i64) (.slice na nx.length nc) 3 nx], [rowT tyB (.slice ba ac.length bc) 4 ac]] ∧ (k ≤ hs.length) ∧ (NuI d (firstsI (numL q) ((dd q).length : Int)) (hs, nx) k 0) ∧ (mt = hs.map (blAt bl_1)) ∧ (ac = (hs.take k).map (accF d)) ∧ ((numLoop d bl_1 (firstsI (numL q) ((dd q).length : Int)) 4097 0 ([d.start], [])) = numLoop d bl_1 (firstsI (numL q) ((dd q).length : Int)) (4097 - k) k (hs, nx)) ∧ m = 4097 - k) (4097 - 0) ⟨0, [d.start], (some ⟨w18.heap.size, 0, none⟩), [d.start].length, [], none, 0, [], none, 0, [bl_1.getD d.start.toNat 0], (some ⟨w17.heap.size, 0, none⟩), [bl_1.getD d.start.toNat 0].length, rfl, (H23.re rfl), (by simp), (by exact NuI.start hrt _), (by rfl), (by rfl), (by rfl), rfl⟩ ?_
    rintro m4 Γ4 w20 ⟨k, hs, ha, hc, nx, na, nc, ac, ba, bc, mt, mta, mtc, rfl, H24, hk, hN, hM, hA, hR, rfl⟩
    have hbd : hs.length ≤ d.acc.length := hN.bound
    have hal : ac.length = k := by rw [hA]; simp; omega
    have hml : mt.length = hs.length := by rw [hM]; simp
    refine W.seq ?_
    refine W.seq ?_
    refine W.region ?_
    refine WL.op rfl (d_move rfl ?_)
    refine WL.op rfl (d_move rfl ?_)
    refine WL.op rfl (d_lenS Try.underlying22 rfl ?_)
    refine WL.op rfl (d_cmp (decide (((k : Nat) : Int) < ((mt.length : Nat) : Int))) rfl rfl rfl ?_)
    refine WL.done (X.then_code ?_)
    refine W.ite (p := ((k : Nat) : Int) < ((mt.length : Nat) : Int)) rfl (fun c104 => ?_) (fun c104 => ?_)
    · skip
      refine W.skip (X.then_code ?_)
      refine W.seq ?_
      refine W.block ?_
      refine W.seq ?_
      have hkh : k < hs.length := by omega
      have hrk := (hN.rng k hkh).1
      have hrk1 : 0 ≤ hs.getD k 0 := hrk.1
      have hrk2 : hs.getD k 0 < (d.acc.length : Int) := hrk.2
      have hnl := hN.nlen
      have hnb : nx.length ≤ 4096 * 259 := by have h8 : nx.length = k * (firstsI (numL q) ((dd q).length : Int)).length + 0 := hnl; have h9 := Nat.mul_le_mul (show k ≤ 4096 by omega) hfw; omega
      refine W.regionD mixed (by kernel_rfl) fun hok2 w21 k2 => ?_
      have H25 : UpG w [] w21 [[blk w.heap.size #[.slice dca d.cls.length dcc, .int .i64 d.width, .int .i64 d.start, .slice dna d.next.length dnc, .slice dba d.acc.length dbc] 25], [blk w1.heap.size #[.slice none 0 0, .int .i64 0, .int .i64 0, .slice none 0 0, .slice none 0 0] 25], [rowT (tyI .i64) (.slice a2_1 bl_1.length c2_1) 3 bl_1], [rowT tyLR (.slice a2_2 n2_1 c2_2) 23 Xs_1], [manyF (inLR tyB 4).row Xs_1], [rowT (tyI .i64) (.slice qa q.length qc) 3 q], [blk w5.heap.size #[.slice a2_3 ((numL q).length) c2_3, .int .i64 (((dd q).length : Nat) : Int), .int .i64 0, .slice na nx.length nc, .slice ba ac.length bc] 25], [rowT (tyI .i64) (.slice a2_3 ((numL q).length) c2_3) 3 (numL q)], [rowT (tyI .i64) (.slice a2_4 ((firstsI (numL q) (((dd q).length : Nat) : Int)).length) c2_4) 3 (firstsI (numL q) (((dd q).length : Nat) : Int))], [rowT (tyI .i64) (.slice mta mt.length mtc) 3 mt], [rowT (tyI .i64) (.slice ha hs.length hc) 3 hs], [rowT (tyI .i64) (.slice na nx.length nc) 3 nx], [rowT tyB (.slice ba ac.length bc) 4 ac]] := H24.kept k2
      refine WD.take hok2 0 (.pointer (some ⟨w5.heap.size, 4, none⟩)) (fun _ => True) rfl rfl rfl rfl rfl trivial (.inl ⟨rfl, fun _ _ => d_fieldAddrB fld25_4 rfl rfl ⟨rfl, rfl⟩⟩) ?_
      refine WD.take hok2 1 (.slice ba ac.length bc) (fun w' => w'.heap[w5.heap.size]? = some (.cells #[.slice a2_3 ((numL q).length) c2_3, .int .i64 (((dd q).length : Nat) : Int), .int .i64 0, .slice na nx.length nc, .slice ba ac.length bc] 25 (0, 0))) rfl rfl rfl rfl rfl (H25.blk 6 rfl) (.inl ⟨rfl, fun _ hC => d_loadB Try.underlying23 rfl rfl hC rfl ⟨rfl, rfl⟩⟩) ?_
      refine WD.take hok2 2 (.pointer (some ⟨w.heap.size, 4, none⟩)) (fun _ => True) rfl rfl rfl rfl rfl trivial (.inl ⟨rfl, fun _ _ => d_fieldAddrB fld25_4 rfl rfl ⟨rfl, rfl⟩⟩) ?_
      refine WD.take hok2 3 (.slice dba d.acc.length dbc) (fun w' => w'.heap[w.heap.size]? = some (.cells #[.slice dca d.cls.length dcc, .int .i64 d.width, .int .i64 d.start, .slice dna d.next.length dnc, .slice dba d.acc.length dbc] 25 (0, 0))) rfl rfl rfl rfl rfl (H25.blk 0 rfl) (.inl ⟨rfl, fun _ hC => d_loadB Try.underlying23 rfl rfl hC rfl ⟨rfl, rfl⟩⟩) ?_
      refine WD.take hok2 4 (.slice ha hs.length hc) (fun _ => True) rfl rfl rfl rfl rfl trivial (.inl ⟨rfl, fun _ _ => d_move rfl ⟨rfl, rfl⟩⟩) ?_
      refine WD.take hok2 5 (.int .i64 ((k : Nat) : Int)) (fun _ => True) rfl rfl rfl rfl rfl trivial (.inl ⟨rfl, fun _ _ => d_move rfl ⟨rfl, rfl⟩⟩) ?_
      refine WD.take hok2 6 (elemPtr (.slice ha hs.length hc) k) (fun w' => RdT (tyI .i64) w' (.slice ha hs.length hc) hs) rfl rfl rfl rfl rfl (H25.rdT 10 rfl) (.inl ⟨rfl, fun _ hC => t_addr1 k (T := (tyI .i64)) rfl Try.underlying22 sz3 rfl rfl hC rfl (by omega) ⟨rfl, rfl⟩⟩) ?_
      refine WD.take hok2 7 (.int .i64 (hs.getD k 0)) (fun w' => RdT (tyI .i64) w' (.slice ha hs.length hc) hs) rfl rfl rfl rfl rfl (H25.rdT 10 rfl) (.inl ⟨rfl, fun _ hC => t_load1 k 0 (T := (tyI .i64)) rfl Try.underlying3 rfl rfl hC (by omega) rfl ⟨rfl, rfl⟩⟩) ?_
      refine WD.take hok2 8 (elemPtr (.slice dba d.acc.length dbc) ((hs.getD k 0).toNat)) (fun w' => RdT tyB w' (.slice dba d.acc.length dbc) d.acc) rfl rfl rfl rfl rfl (rbd.at H25) (.inl ⟨rfl, fun _ hC => t_addr1 ((hs.getD k 0).toNat) (T := tyB) rfl Try.underlying23 sz4 rfl rfl hC (by omega) (by omega) ⟨rfl, rfl⟩⟩) ?_
      refine WD.take hok2 9 (.bool (d.acc.getD ((hs.getD k 0).toNat) false)) (fun w' => RdT tyB w' (.slice dba d.acc.length dbc) d.acc) rfl rfl rfl rfl rfl (rbd.at H25) (.inl ⟨rfl, fun _ hC => t_load1 ((hs.getD k 0).toNat) false (T := tyB) rfl Try.underlying4 rfl rfl hC (by omega) rfl ⟨rfl, rfl⟩⟩) ?_
      refine WD.loud hok2 10 rfl (⟨_, [⟨1, .slice ba ac.length bc, (fun w' => w'.heap[w5.heap.size]? = some (.cells #[.slice a2_3 ((numL q).length) c2_3, .int .i64 (((dd q).length : Nat) : Int), .int .i64 0, .slice na nx.length nc, .slice ba ac.length bc] 25 (0, 0)))⟩, ⟨0, .pointer (some ⟨w5.heap.size, 4, none⟩), (fun _ => True)⟩], rfl, rfl, rfl, rfl, rfl, rfl, t_buildSlice (T := tyB) (xs := [d.acc.getD ((hs.getD k 0).toNat) false]) (cs := #[.bool (d.acc.getD ((hs.getD k 0).toNat) false)]) rfl Try.underlying23 sz4 rfl rfl rfl rfl (by kernel_rfl) rfl rfl fun w22 u16 => ?_⟩)
      have H26 : UpG w [] w22 [[blk w.heap.size #[.slice dca d.cls.length dcc, .int .i64 d.width, .int .i64 d.start, .slice dna d.next.length dnc, .slice dba d.acc.length dbc] 25], [blk w1.heap.size #[.slice none 0 0, .int .i64 0, .int .i64 0, .slice none 0 0, .slice none 0 0] 25], [rowT (tyI .i64) (.slice a2_1 bl_1.length c2_1) 3 bl_1], [rowT tyLR (.slice a2_2 n2_1 c2_2) 23 Xs_1], [manyF (inLR tyB 4).row Xs_1], [rowT (tyI .i64) (.slice qa q.length qc) 3 q], [blk w5.heap.size #[.slice a2_3 ((numL q).length) c2_3, .int .i64 (((dd q).length : Nat) : Int), .int .i64 0, .slice na nx.length nc, .slice ba ac.length bc] 25], [rowT (tyI .i64) (.slice a2_3 ((numL q).length) c2_3) 3 (numL q)], [rowT (tyI .i64) (.slice a2_4 ((firstsI (numL q) (((dd q).length : Nat) : Int)).length) c2_4) 3 (firstsI (numL q) (((dd q).length : Nat) : Int))], [rowT (tyI .i64) (.slice mta mt.length mtc) 3 mt], [rowT (tyI .i64) (.slice ha hs.length hc) 3 hs], [rowT (tyI .i64) (.slice na nx.length nc) 3 nx], [rowT tyB (.slice ba ac.length bc) 4 ac], [rowT tyB (.slice (some ⟨w21.heap.size, 0, none⟩) ([d.acc.getD ((hs.getD k 0).toNat) false].length) ([d.acc.getD ((hs.getD k 0).toNat) false].length)) 4 [d.acc.getD ((hs.getD k 0).toNat) false]]] := H25.new' u16
      refine ⟨⟨(H26.blk 6 rfl), trivial, trivial⟩, ?_⟩
      refine WD.loud hok2 11 rfl (⟨_, [], rfl, rfl, rfl, rfl, rfl, rfl, t_append (T := tyB) (xs := ac) (ys := [d.acc.getD ((hs.getD k 0).toNat) false]) rfl Try.underlying23 sz4 rfl rfl rfl (H26.ownT 12 rfl) (H26.rdT 13 rfl) (by simp only [List.length_singleton]; omega) (by simp only [List.length_singleton]; omega) fun a2 c2 w23 u17 => ?_⟩)
      have H27 : UpG w [] w23 [[blk w.heap.size #[.slice dca d.cls.length dcc, .int .i64 d.width, .int .i64 d.start, .slice dna d.next.length dnc, .slice dba d.acc.length dbc] 25], [blk w1.heap.size #[.slice none 0 0, .int .i64 0, .int .i64 0, .slice none 0 0, .slice none 0 0] 25], [rowT (tyI .i64) (.slice a2_1 bl_1.length c2_1) 3 bl_1], [rowT tyLR (.slice a2_2 n2_1 c2_2) 23 Xs_1], [manyF (inLR tyB 4).row Xs_1], [rowT (tyI .i64) (.slice qa q.length qc) 3 q], [blk w5.heap.size #[.slice a2_3 ((numL q).length) c2_3, .int .i64 (((dd q).length : Nat) : Int), .int .i64 0, .slice na nx.length nc, .slice ba ac.length bc] 25], [rowT (tyI .i64) (.slice a2_3 ((numL q).length) c2_3) 3 (numL q)], [rowT (tyI .i64) (.slice a2_4 ((firstsI (numL q) (((dd q).length : Nat) : Int)).length) c2_4) 3 (firstsI (numL q) (((dd q).length : Nat) : Int))], [rowT (tyI .i64) (.slice mta mt.length mtc) 3 mt], [rowT (tyI .i64) (.slice ha hs.length hc) 3 hs], [rowT (tyI .i64) (.slice na nx.length nc) 3 nx], [rowT tyB (.slice a2 ((ac ++ [d.acc.getD ((hs.getD k 0).toNat) false]).length) c2) 4 (ac ++ [d.acc.getD ((hs.getD k 0).toNat) false])], []] := (H26.on 12 rfl u17).drop 13
      refine ⟨trivial, ?_⟩
      refine WD.take hok2 12 (.pointer (some ⟨w5.heap.size, 4, none⟩)) (fun _ => True) rfl rfl rfl rfl rfl trivial (.inl ⟨rfl, fun _ _ => d_fieldAddrB fld25_4 rfl rfl ⟨rfl, rfl⟩⟩) ?_
      refine WD.loud hok2 13 rfl (⟨_, [], rfl, rfl, rfl, rfl, rfl, rfl, d_storeB sz23 rfl rfl rfl (H27.blk 6 rfl) rfl fun w24 u18 => ?_⟩)
      have H28 : UpG w [] w24 [[blk w.heap.size #[.slice dca d.cls.length dcc, .int .i64 d.width, .int .i64 d.start, .slice dna d.next.length dnc, .slice dba d.acc.length dbc] 25], [blk w1.heap.size #[.slice none 0 0, .int .i64 0, .int .i64 0, .slice none 0 0, .slice none 0 0] 25], [rowT (tyI .i64) (.slice a2_1 bl_1.length c2_1) 3 bl_1], [rowT tyLR (.slice a2_2 n2_1 c2_2) 23 Xs_1], [manyF (inLR tyB 4).row Xs_1], [rowT (tyI .i64) (.slice qa q.length qc) 3 q], [blk w5.heap.size #[.slice a2_3 ((numL q).length) c2_3, .int .i64 (((dd q).length : Nat) : Int), .int .i64 0, .slice na nx.length nc, .slice a2 ((ac ++ [d.acc.getD ((hs.getD k 0).toNat) false]).length) c2] 25], [rowT (tyI .i64) (.slice a2_3 ((numL q).length) c2_3) 3 (numL q)], [rowT (tyI .i64) (.slice a2_4 ((firstsI (numL q) (((dd q).length : Nat) : Int)).length) c2_4) 3 (firstsI (numL q) (((dd q).length : Nat) : Int))], [rowT (tyI .i64) (.slice mta mt.length mtc) 3 mt], [rowT (tyI .i64) (.slice ha hs.length hc) 3 hs], [rowT (tyI .i64) (.slice na nx.length nc) 3 nx], [rowT tyB (.slice a2 ((ac ++ [d.acc.getD ((hs.getD k 0).toNat) false]).length) c2) 4 (ac ++ [d.acc.getD ((hs.getD k 0).toNat) false])], []] := H27.on 6 rfl u18
      refine ⟨trivial, ?_⟩
      refine WD.done hok2 rfl (X.then_code ?_)
      refine W.seq ?_
      refine W.region ?_
      refine WL.op rfl (d_assign rfl ?_)
      refine WL.done (X.then_code ?_)
      refine W.block ?_
      refine W.pick [19, 18, 17, 16, 15, 12, 3, 2, 1] (Γ' := [(19, .int .i64 0), (18, .int .i64 ((k : Nat) : Int)), (17, .slice ha hs.length hc), (16, .slice mta mt.length mtc), (15, .slice a2_4 ((firstsI (numL q) (((dd q).length : Nat) : Int)).length) c2_4), (12, .pointer (some ⟨w5.heap.size, 0, none⟩)), (3, .slice a2_1 bl_1.length c2_1), (2, .pointer (some ⟨w1.heap.size, 0, none⟩)), (1, .pointer (some ⟨w.heap.size, 0, none⟩))]) rfl ?_
      refine W.loop (fun m Γ' w' => ∃ jj : Nat, ∃ tt : List Int, ∃ ta : Option Addr, ∃ tc : Nat, ∃ mx : List Int, ∃ ma : Option Addr, ∃ mc : Nat, ∃ mu : List Int, ∃ mua : Option Addr, ∃ muc : Nat, Γ' = [(19, .int .i64 ((jj : Nat) : Int)), (18, .int .i64 ((k : Nat) : Int)), (17, .slice ta tt.length tc), (16, .slice mua mu.length muc), (15, .slice a2_4 ((firstsI (numL q) (((dd q).length : Nat) : Int)).length) c2_4), (12, .pointer (some ⟨w5.heap.size, 0, none⟩)), (3, .slice a2_1 bl_1.length c2_1), (2, .pointer (some ⟨w1.heap.size, 0, none⟩)), (1, .pointer (some ⟨w.heap.size, 0, none⟩))] ∧ UpG w [] w' [[blk w.heap.size #[.slice dca d.cls.length dcc, .int .i64 d.width, .int .i64 d.start, .slice dna d.next.length dnc, .slice dba d.acc.length dbc] 25], [blk w1.heap.size #[.slice none 0 0, .int .i64 0, .int .i64 0, .slice none 0 0, .slice none 0 0] 25], [rowT (tyI .i64) (.slice a2_1 bl_1.length c2_1) 3 bl_1], [rowT tyLR (.slice a2_2 n2_1 c2_2) 23 Xs_1], [manyF (inLR tyB 4).row Xs_1], [rowT (tyI .i64) (.slice qa q.length qc) 3 q], [blk w5.heap.size #[.slice a2_3 ((numL q).length) c2_3, .int .i64 (((dd q).length : Nat) : Int), .int .i64 0, .slice ma mx.length mc, .slice a2 ((ac ++ [d.acc.getD ((hs.getD k 0).toNat) false]).length) c2] 25], [rowT (tyI .i64) (.slice a2_3 ((numL q).length) c2_3) 3 (numL q)], [rowT (tyI .i64) (.slice a2_4 ((firstsI (numL q) (((dd q).length : Nat) : Int)).length) c2_4) 3 (firstsI (numL q) (((dd q).length : Nat) : Int))], [rowT (tyI .i64) (.slice mua mu.length muc) 3 mu], [rowT (tyI .i64) (.slice ta tt.length tc) 3 tt], [rowT (tyI .i64) (.slice ma mx.length mc) 3 mx], [rowT tyB (.slice a2 ((ac ++ [d.acc.getD ((hs.getD k 0).toNat) false]).length) c2) 4 (ac ++ [d.acc.getD ((hs.getD k 0).toNat) false])], []] ∧ (jj ≤ (firstsI (numL q) ((dd q).length : Int)).length) ∧ ((tt, mx) = ((firstsI (numL q) ((dd q).length : Int)).take jj).foldl (meetD d bl_1 (hs.getD k 0)) (hs, nx)) ∧ (mu = tt.map (blAt bl_1)) ∧ m = (firstsI (numL q) ((dd q).length : Int)).length - jj) ((firstsI (numL q) ((dd q).length : Int)).length - 0) ⟨0, hs, ha, hc, nx, na, nc, mt, mta, mtc, rfl, H28, (by omega), (by rfl), (by exact hM), rfl⟩ ?_
      rintro m5 Γ5 w25 ⟨jj, tt, ta, tc, mx, ma, mc, mu, mua, muc, rfl, H29, hjj, hF, hMj, rfl⟩
      have hul : mu.length = tt.length := by rw [hMj]; simp
      refine W.seq ?_
      refine W.seq ?_
      refine W.region ?_
      refine WL.op rfl (d_move rfl ?_)
      refine WL.op rfl (d_move rfl ?_)
      refine WL.op rfl (d_lenS Try.underlying22 rfl ?_)
      refine WL.op rfl (d_cmp (decide (((jj : Nat) : Int) < (((firstsI (numL q) (((dd q).length : Nat) : Int)).length : Nat) : Int))) rfl rfl rfl ?_)
      refine WL.done (X.then_code ?_)
      refine W.ite (p := ((jj : Nat) : Int) < (((firstsI (numL q) (((dd q).length : Nat) : Int)).length : Nat) : Int)) rfl (fun c106 => ?_) (fun c106 => ?_)
      · skip
        refine W.skip (X.then_code ?_)
        refine W.seq ?_
        refine W.block ?_
        refine W.seq ?_
        have hsy := hfs jj (by omega)
        have hNj := (NuI.at' hrt hbk hfs hN hkh hjj hF).1
        obtain ⟨r9, hr9⟩ := (NuI.at' hrt hbk hfs hN hkh hjj hF).2
        have htk : tt.getD k 0 = hs.getD k 0 := by rw [hr9]; exact getD_pre hkh
        have htk2 : k < tt.length := by rw [hr9, List.length_append]; omega
        have hdl := dN_lt hrt (i := (tt.getD k 0).toNat) (by omega) hsy
        have hde : ((dN d ((tt.getD k 0).toNat) ((firstsI (numL q) ((dd q).length : Int)).getD jj 0) : Nat) : Int) = stepD d (hs.getD k 0) ((firstsI (numL q) ((dd q).length : Int)).getD jj 0) := by rw [dN_int hrt (by omega) hsy, htk, Int.toNat_of_nonneg hrk1]
        have hdb : bl_1.getD (dN d ((tt.getD k 0).toNat) ((firstsI (numL q) ((dd q).length : Int)).getD jj 0)) 0 = blAt bl_1 (stepD d (hs.getD k 0) ((firstsI (numL q) ((dd q).length : Int)).getD jj 0)) := by rw [← hde]; unfold blAt; rw [Int.toNat_natCast]
        have hbj := hNj.bound
        have hmxl : mx.length = k * (firstsI (numL q) ((dd q).length : Int)).length + jj := hNj.nlen
        have hmxb : mx.length ≤ 4096 * 259 + 259 := by have h9 := Nat.mul_le_mul (show k ≤ 4096 by omega) hfw; omega
        have htb : tt.length ≤ d.acc.length := hbj
        refine W.regionD mixed (by kernel_rfl) fun hok3 w26 k3 => ?_
        have H30 : UpG w [] w26 [[blk w.heap.size #[.slice dca d.cls.length dcc, .int .i64 d.width, .int .i64 d.start, .slice dna d.next.length dnc, .slice dba d.acc.length dbc] 25], [blk w1.heap.size #[.slice none 0 0, .int .i64 0, .int .i64 0, .slice none 0 0, .slice none 0 0] 25], [rowT (tyI .i64) (.slice a2_1 bl_1.length c2_1) 3 bl_1], [rowT tyLR (.slice a2_2 n2_1 c2_2) 23 Xs_1], [manyF (inLR tyB 4).row Xs_1], [rowT (tyI .i64) (.slice qa q.length qc) 3 q], [blk w5.heap.size #[.slice a2_3 ((numL q).length) c2_3, .int .i64 (((dd q).length : Nat) : Int), .int .i64 0, .slice ma mx.length mc, .slice a2 ((ac ++ [d.acc.getD ((hs.getD k 0).toNat) false]).length) c2] 25], [rowT (tyI .i64) (.slice a2_3 ((numL q).length) c2_3) 3 (numL q)], [rowT (tyI .i64) (.slice a2_4 ((firstsI (numL q) (((dd q).length : Nat) : Int)).length) c2_4) 3 (firstsI (numL q) (((dd q).length : Nat) : Int))], [rowT (tyI .i64) (.slice mua mu.length muc) 3 mu], [rowT (tyI .i64) (.slice ta tt.length tc) 3 tt], [rowT (tyI .i64) (.slice ma mx.length mc) 3 mx], [rowT tyB (.slice a2 ((ac ++ [d.acc.getD ((hs.getD k 0).toNat) false]).length) c2) 4 (ac ++ [d.acc.getD ((hs.getD k 0).toNat) false])], []] := H29.kept k3
        refine WD.take hok3 0 (.agg #[.slice dca d.cls.length dcc, .int .i64 d.width, .int .i64 d.start, .slice dna d.next.length dnc, .slice dba d.acc.length dbc]) (fun w' => w'.heap[w.heap.size]? = some (.cells #[.slice dca d.cls.length dcc, .int .i64 d.width, .int .i64 d.start, .slice dna d.next.length dnc, .slice dba d.acc.length dbc] 25 (0, 0))) rfl rfl rfl rfl rfl (H30.blk 0 rfl) (.inl ⟨rfl, fun _ hC => d_loadAB [.slice dca d.cls.length dcc, .int .i64 d.width, .int .i64 d.start, .slice dna d.next.length dnc, .slice dba d.acc.length dbc] Try.underlying25 rfl sz25 rfl hC rfl rfl ⟨rfl, rfl⟩⟩) ?_
        refine WD.take hok3 1 (.slice ta tt.length tc) (fun _ => True) rfl rfl rfl rfl rfl trivial (.inl ⟨rfl, fun _ _ => d_move rfl ⟨rfl, rfl⟩⟩) ?_
        refine WD.take hok3 2 (.int .i64 ((k : Nat) : Int)) (fun _ => True) rfl rfl rfl rfl rfl trivial (.inl ⟨rfl, fun _ _ => d_move rfl ⟨rfl, rfl⟩⟩) ?_
        refine WD.take hok3 3 (elemPtr (.slice ta tt.length tc) k) (fun w' => RdT (tyI .i64) w' (.slice ta tt.length tc) tt) rfl rfl rfl rfl rfl (H30.rdT 10 rfl) (.inl ⟨rfl, fun _ hC => t_addr1 k (T := (tyI .i64)) rfl Try.underlying22 sz3 rfl rfl hC rfl (by omega) ⟨rfl, rfl⟩⟩) ?_
        refine WD.take hok3 4 (.int .i64 (tt.getD k 0)) (fun w' => RdT (tyI .i64) w' (.slice ta tt.length tc) tt) rfl rfl rfl rfl rfl (H30.rdT 10 rfl) (.inl ⟨rfl, fun _ hC => t_load1 k 0 (T := (tyI .i64)) rfl Try.underlying3 rfl rfl hC (by omega) rfl ⟨rfl, rfl⟩⟩) ?_
        refine WD.take hok3 5 (.slice a2_4 ((firstsI (numL q) (((dd q).length : Nat) : Int)).length) c2_4) (fun _ => True) rfl rfl rfl rfl rfl trivial (.inl ⟨rfl, fun _ _ => d_move rfl ⟨rfl, rfl⟩⟩) ?_
        refine WD.take hok3 6 (.int .i64 ((jj : Nat) : Int)) (fun _ => True) rfl rfl rfl rfl rfl trivial (.inl ⟨rfl, fun _ _ => d_move rfl ⟨rfl, rfl⟩⟩) ?_
        refine WD.take hok3 7 (elemPtr (.slice a2_4 ((firstsI (numL q) (((dd q).length : Nat) : Int)).length) c2_4) jj) (fun w' => RdT (tyI .i64) w' (.slice a2_4 ((firstsI (numL q) (((dd q).length : Nat) : Int)).length) c2_4) (firstsI (numL q) (((dd q).length : Nat) : Int))) rfl rfl rfl rfl rfl (H30.rdT 8 rfl) (.inl ⟨rfl, fun _ hC => t_addr1 jj (T := (tyI .i64)) rfl Try.underlying22 sz3 rfl rfl hC rfl (by omega) ⟨rfl, rfl⟩⟩) ?_
        refine WD.take hok3 8 (.int .i64 ((firstsI (numL q) (((dd q).length : Nat) : Int)).getD jj 0)) (fun w' => RdT (tyI .i64) w' (.slice a2_4 ((firstsI (numL q) (((dd q).length : Nat) : Int)).length) c2_4) (firstsI (numL q) (((dd q).length : Nat) : Int))) rfl rfl rfl rfl rfl (H30.rdT 8 rfl) (.inl ⟨rfl, fun _ hC => t_load1 jj 0 (T := (tyI .i64)) rfl Try.underlying3 rfl rfl hC (by omega) rfl ⟨rfl, rfl⟩⟩) ?_
        refine WD.loud hok3 9 rfl (⟨_, [], rfl, rfl, rfl, rfl, rfl, rfl, d_call ok81 rfl (Ret.calls (go11_any d dca dna dba dcc dnc dbc (tt.getD k 0) ((tt.getD k 0).toNat) ((firstsI (numL q) (((dd q).length : Nat) : Int)).getD jj 0) w26 (rcd.at H30) (rnd.at H30) (rbd.at H30) (by omega) hrt (by omega) (by omega)) fun _ w27 p7 => ?_)⟩)
        obtain ⟨rfl, u19⟩ := p7
        have H31 : UpG w [] w27 [[blk w.heap.size #[.slice dca d.cls.length dcc, .int .i64 d.width, .int .i64 d.start, .slice dna d.next.length dnc, .slice dba d.acc.length dbc] 25], [blk w1.heap.size #[.slice none 0 0, .int .i64 0, .int .i64 0, .slice none 0 0, .slice none 0 0] 25], [rowT (tyI .i64) (.slice a2_1 bl_1.length c2_1) 3 bl_1], [rowT tyLR (.slice a2_2 n2_1 c2_2) 23 Xs_1], [manyF (inLR tyB 4).row Xs_1], [rowT (tyI .i64) (.slice qa q.length qc) 3 q], [blk w5.heap.size #[.slice a2_3 ((numL q).length) c2_3, .int .i64 (((dd q).length : Nat) : Int), .int .i64 0, .slice ma mx.length mc, .slice a2 ((ac ++ [d.acc.getD ((hs.getD k 0).toNat) false]).length) c2] 25], [rowT (tyI .i64) (.slice a2_3 ((numL q).length) c2_3) 3 (numL q)], [rowT (tyI .i64) (.slice a2_4 ((firstsI (numL q) (((dd q).length : Nat) : Int)).length) c2_4) 3 (firstsI (numL q) (((dd q).length : Nat) : Int))], [rowT (tyI .i64) (.slice mua mu.length muc) 3 mu], [rowT (tyI .i64) (.slice ta tt.length tc) 3 tt], [rowT (tyI .i64) (.slice ma mx.length mc) 3 mx], [rowT tyB (.slice a2 ((ac ++ [d.acc.getD ((hs.getD k 0).toNat) false]).length) c2) 4 (ac ++ [d.acc.getD ((hs.getD k 0).toNat) false])], []] := H30.call u19
        refine ⟨trivial, ?_⟩
        refine WD.take hok3 10 (.int .i64 (((dN d ((tt.getD k 0).toNat) ((firstsI (numL q) (((dd q).length : Nat) : Int)).getD jj 0)) : Nat) : Int)) (fun _ => True) rfl rfl rfl rfl rfl trivial (.inl ⟨rfl, fun _ _ => d_assign rfl ⟨rfl, rfl⟩⟩) ?_
        refine WD.done hok3 rfl (X.then_code ?_)
        refine W.seq ?_
        refine W.region ?_
        refine WL.op rfl (d_move rfl ?_)
        refine WL.op rfl (d_move rfl ?_)
        refine WL.op rfl (d_move rfl ?_)
        refine WL.op rfl (t_addr1 (dN d ((tt.getD k 0).toNat) ((firstsI (numL q) (((dd q).length : Nat) : Int)).getD jj 0)) (T := (tyI .i64)) rfl Try.underlying22 sz3 rfl rfl (H31.rdT 2 rfl) rfl (by omega) ?_)
        refine WL.op rfl (t_load1 (dN d ((tt.getD k 0).toNat) ((firstsI (numL q) (((dd q).length : Nat) : Int)).getD jj 0)) 0 (T := (tyI .i64)) rfl Try.underlying3 rfl rfl (H31.rdT 2 rfl) (by omega) rfl ?_)
        refine WL.op rfl (d_call ok88 rfl (Ret.calls (find13_any mua mu muc (bl_1.getD (dN d ((tt.getD k 0).toNat) ((firstsI (numL q) (((dd q).length : Nat) : Int)).getD jj 0)) 0) w27 (H31.rdT 9 rfl) ) fun _ w28 p8 => ?_))
        obtain ⟨rfl, u20⟩ := p8
        have H32 : UpG w [] w28 [[blk w.heap.size #[.slice dca d.cls.length dcc, .int .i64 d.width, .int .i64 d.start, .slice dna d.next.length dnc, .slice dba d.acc.length dbc] 25], [blk w1.heap.size #[.slice none 0 0, .int .i64 0, .int .i64 0, .slice none 0 0, .slice none 0 0] 25], [rowT (tyI .i64) (.slice a2_1 bl_1.length c2_1) 3 bl_1], [rowT tyLR (.slice a2_2 n2_1 c2_2) 23 Xs_1], [manyF (inLR tyB 4).row Xs_1], [rowT (tyI .i64) (.slice qa q.length qc) 3 q], [blk w5.heap.size #[.slice a2_3 ((numL q).length) c2_3, .int .i64 (((dd q).length : Nat) : Int), .int .i64 0, .slice ma mx.length mc, .slice a2 ((ac ++ [d.acc.getD ((hs.getD k 0).toNat) false]).length) c2] 25], [rowT (tyI .i64) (.slice a2_3 ((numL q).length) c2_3) 3 (numL q)], [rowT (tyI .i64) (.slice a2_4 ((firstsI (numL q) (((dd q).length : Nat) : Int)).length) c2_4) 3 (firstsI (numL q) (((dd q).length : Nat) : Int))], [rowT (tyI .i64) (.slice mua mu.length muc) 3 mu], [rowT (tyI .i64) (.slice ta tt.length tc) 3 tt], [rowT (tyI .i64) (.slice ma mx.length mc) 3 mx], [rowT tyB (.slice a2 ((ac ++ [d.acc.getD ((hs.getD k 0).toNat) false]).length) c2) 4 (ac ++ [d.acc.getD ((hs.getD k 0).toNat) false])], []] := H31.call u20
        refine WL.op rfl (d_assign rfl ?_)
        refine WL.done (X.then_code ?_)
        refine W.pick [21, 20, 19, 18, 17, 16, 15, 12, 3, 2, 1] (Γ' := [(21, .int .i64 (firstI (bl_1.getD (dN d ((tt.getD k 0).toNat) ((firstsI (numL q) (((dd q).length : Nat) : Int)).getD jj 0)) 0) mu)), (20, .int .i64 (((dN d ((tt.getD k 0).toNat) ((firstsI (numL q) (((dd q).length : Nat) : Int)).getD jj 0)) : Nat) : Int)), (19, .int .i64 ((jj : Nat) : Int)), (18, .int .i64 ((k : Nat) : Int)), (17, .slice ta tt.length tc), (16, .slice mua mu.length muc), (15, .slice a2_4 ((firstsI (numL q) (((dd q).length : Nat) : Int)).length) c2_4), (12, .pointer (some ⟨w5.heap.size, 0, none⟩)), (3, .slice a2_1 bl_1.length c2_1), (2, .pointer (some ⟨w1.heap.size, 0, none⟩)), (1, .pointer (some ⟨w.heap.size, 0, none⟩))]) rfl ?_
        refine W.seq ?_
        refine W.seq ?_
        refine W.region ?_
        refine WL.op rfl (d_move rfl ?_)
        refine WL.op rfl (d_cmp (decide ((firstI (bl_1.getD (dN d ((tt.getD k 0).toNat) ((firstsI (numL q) (((dd q).length : Nat) : Int)).getD jj 0)) 0) mu) < (0 : Int))) rfl rfl rfl ?_)
        refine WL.done (X.then_code ?_)
        refine W.ite (p := (firstI (bl_1.getD (dN d ((tt.getD k 0).toNat) ((firstsI (numL q) (((dd q).length : Nat) : Int)).getD jj 0)) 0) mu) < (0 : Int)) rfl (fun c109 => ?_) (fun c109 => ?_)
        · skip
          refine W.seq ?_
          refine W.region ?_
          refine WL.op rfl (d_move rfl ?_)
          refine WL.op rfl (d_lenS Try.underlying22 rfl ?_)
          refine WL.op rfl (d_assign rfl ?_)
          refine WL.done (X.then_code ?_)
          refine W.seq ?_
          refine W.region ?_
          refine WL.op rfl (d_move rfl ?_)
          refine WL.op rfl (d_move rfl ?_)
          refine WL.op rfl (d_move rfl ?_)
          refine WL.op rfl (t_addr1 (dN d ((tt.getD k 0).toNat) ((firstsI (numL q) (((dd q).length : Nat) : Int)).getD jj 0)) (T := (tyI .i64)) rfl Try.underlying22 sz3 rfl rfl (H32.rdT 2 rfl) rfl (by omega) ?_)
          refine WL.op rfl (t_load1 (dN d ((tt.getD k 0).toNat) ((firstsI (numL q) (((dd q).length : Nat) : Int)).getD jj 0)) 0 (T := (tyI .i64)) rfl Try.underlying3 rfl rfl (H32.rdT 2 rfl) (by omega) rfl ?_)
          refine WL.op rfl (t_buildSlice (T := (tyI .i64)) (xs := [bl_1.getD (dN d ((tt.getD k 0).toNat) ((firstsI (numL q) (((dd q).length : Nat) : Int)).getD jj 0)) 0]) (cs := #[.int .i64 (bl_1.getD (dN d ((tt.getD k 0).toNat) ((firstsI (numL q) (((dd q).length : Nat) : Int)).getD jj 0)) 0)]) rfl Try.underlying22 sz3 rfl rfl rfl rfl (by kernel_rfl) rfl rfl fun w29 u21 => ?_)
          have H33 : UpG w [] w29 [[blk w.heap.size #[.slice dca d.cls.length dcc, .int .i64 d.width, .int .i64 d.start, .slice dna d.next.length dnc, .slice dba d.acc.length dbc] 25], [blk w1.heap.size #[.slice none 0 0, .int .i64 0, .int .i64 0, .slice none 0 0, .slice none 0 0] 25], [rowT (tyI .i64) (.slice a2_1 bl_1.length c2_1) 3 bl_1], [rowT tyLR (.slice a2_2 n2_1 c2_2) 23 Xs_1], [manyF (inLR tyB 4).row Xs_1], [rowT (tyI .i64) (.slice qa q.length qc) 3 q], [blk w5.heap.size #[.slice a2_3 ((numL q).length) c2_3, .int .i64 (((dd q).length : Nat) : Int), .int .i64 0, .slice ma mx.length mc, .slice a2 ((ac ++ [d.acc.getD ((hs.getD k 0).toNat) false]).length) c2] 25], [rowT (tyI .i64) (.slice a2_3 ((numL q).length) c2_3) 3 (numL q)], [rowT (tyI .i64) (.slice a2_4 ((firstsI (numL q) (((dd q).length : Nat) : Int)).length) c2_4) 3 (firstsI (numL q) (((dd q).length : Nat) : Int))], [rowT (tyI .i64) (.slice mua mu.length muc) 3 mu], [rowT (tyI .i64) (.slice ta tt.length tc) 3 tt], [rowT (tyI .i64) (.slice ma mx.length mc) 3 mx], [rowT tyB (.slice a2 ((ac ++ [d.acc.getD ((hs.getD k 0).toNat) false]).length) c2) 4 (ac ++ [d.acc.getD ((hs.getD k 0).toNat) false])], [], [rowT (tyI .i64) (.slice (some ⟨w28.heap.size, 0, none⟩) ([bl_1.getD (dN d ((tt.getD k 0).toNat) ((firstsI (numL q) (((dd q).length : Nat) : Int)).getD jj 0)) 0].length) ([bl_1.getD (dN d ((tt.getD k 0).toNat) ((firstsI (numL q) (((dd q).length : Nat) : Int)).getD jj 0)) 0].length)) 3 [bl_1.getD (dN d ((tt.getD k 0).toNat) ((firstsI (numL q) (((dd q).length : Nat) : Int)).getD jj 0)) 0]]] := H32.new' u21
          refine WL.op rfl (t_append (T := (tyI .i64)) (xs := mu) (ys := [bl_1.getD (dN d ((tt.getD k 0).toNat) ((firstsI (numL q) (((dd q).length : Nat) : Int)).getD jj 0)) 0]) rfl Try.underlying22 sz3 rfl rfl rfl (H33.ownT 9 rfl) (H33.rdT 14 rfl) (by simp only [List.length_singleton]; omega) (by simp only [List.length_singleton]; omega) fun a3 c3 w30 u22 => ?_)
          have H34 : UpG w [] w30 [[blk w.heap.size #[.slice dca d.cls.length dcc, .int .i64 d.width, .int .i64 d.start, .slice dna d.next.length dnc, .slice dba d.acc.length dbc] 25], [blk w1.heap.size #[.slice none 0 0, .int .i64 0, .int .i64 0, .slice none 0 0, .slice none 0 0] 25], [rowT (tyI .i64) (.slice a2_1 bl_1.length c2_1) 3 bl_1], [rowT tyLR (.slice a2_2 n2_1 c2_2) 23 Xs_1], [manyF (inLR tyB 4).row Xs_1], [rowT (tyI .i64) (.slice qa q.length qc) 3 q], [blk w5.heap.size #[.slice a2_3 ((numL q).length) c2_3, .int .i64 (((dd q).length : Nat) : Int), .int .i64 0, .slice ma mx.length mc, .slice a2 ((ac ++ [d.acc.getD ((hs.getD k 0).toNat) false]).length) c2] 25], [rowT (tyI .i64) (.slice a2_3 ((numL q).length) c2_3) 3 (numL q)], [rowT (tyI .i64) (.slice a2_4 ((firstsI (numL q) (((dd q).length : Nat) : Int)).length) c2_4) 3 (firstsI (numL q) (((dd q).length : Nat) : Int))], [rowT (tyI .i64) (.slice a3 ((mu ++ [bl_1.getD (dN d ((tt.getD k 0).toNat) ((firstsI (numL q) (((dd q).length : Nat) : Int)).getD jj 0)) 0]).length) c3) 3 (mu ++ [bl_1.getD (dN d ((tt.getD k 0).toNat) ((firstsI (numL q) (((dd q).length : Nat) : Int)).getD jj 0)) 0])], [rowT (tyI .i64) (.slice ta tt.length tc) 3 tt], [rowT (tyI .i64) (.slice ma mx.length mc) 3 mx], [rowT tyB (.slice a2 ((ac ++ [d.acc.getD ((hs.getD k 0).toNat) false]).length) c2) 4 (ac ++ [d.acc.getD ((hs.getD k 0).toNat) false])], [], []] := (H33.on 9 rfl u22).drop 14
          refine WL.op rfl (d_assign rfl ?_)
          refine WL.done (X.then_code ?_)
          refine W.region ?_
          refine WL.op rfl (d_move rfl ?_)
          refine WL.op rfl (d_move rfl ?_)
          refine WL.op rfl (t_buildSlice (T := (tyI .i64)) (xs := [(((dN d ((tt.getD k 0).toNat) ((firstsI (numL q) (((dd q).length : Nat) : Int)).getD jj 0)) : Nat) : Int)]) (cs := #[.int .i64 (((dN d ((tt.getD k 0).toNat) ((firstsI (numL q) (((dd q).length : Nat) : Int)).getD jj 0)) : Nat) : Int)]) rfl Try.underlying22 sz3 rfl rfl rfl rfl (by kernel_rfl) rfl rfl fun w31 u23 => ?_)
          have H35 : UpG w [] w31 [[blk w.heap.size #[.slice dca d.cls.length dcc, .int .i64 d.width, .int .i64 d.start, .slice dna d.next.length dnc, .slice dba d.acc.length dbc] 25], [blk w1.heap.size #[.slice none 0 0, .int .i64 0, .int .i64 0, .slice none 0 0, .slice none 0 0] 25], [rowT (tyI .i64) (.slice a2_1 bl_1.length c2_1) 3 bl_1], [rowT tyLR (.slice a2_2 n2_1 c2_2) 23 Xs_1], [manyF (inLR tyB 4).row Xs_1], [rowT (tyI .i64) (.slice qa q.length qc) 3 q], [blk w5.heap.size #[.slice a2_3 ((numL q).length) c2_3, .int .i64 (((dd q).length : Nat) : Int), .int .i64 0, .slice ma mx.length mc, .slice a2 ((ac ++ [d.acc.getD ((hs.getD k 0).toNat) false]).length) c2] 25], [rowT (tyI .i64) (.slice a2_3 ((numL q).length) c2_3) 3 (numL q)], [rowT (tyI .i64) (.slice a2_4 ((firstsI (numL q) (((dd q).length : Nat) : Int)).length) c2_4) 3 (firstsI (numL q) (((dd q).length : Nat) : Int))], [rowT (tyI .i64) (.slice a3 ((mu ++ [bl_1.getD (dN d ((tt.getD k 0).toNat) ((firstsI (numL q) (((dd q).length : Nat) : Int)).getD jj 0)) 0]).length) c3) 3 (mu ++ [bl_1.getD (dN d ((tt.getD k 0).toNat) ((firstsI (numL q) (((dd q).length : Nat) : Int)).getD jj 0)) 0])], [rowT (tyI .i64) (.slice ta tt.length tc) 3 tt], [rowT (tyI .i64) (.slice ma mx.length mc) 3 mx], [rowT tyB (.slice a2 ((ac ++ [d.acc.getD ((hs.getD k 0).toNat) false]).length) c2) 4 (ac ++ [d.acc.getD ((hs.getD k 0).toNat) false])], [], [], [rowT (tyI .i64) (.slice (some ⟨w30.heap.size, 0, none⟩) ([(((dN d ((tt.getD k 0).toNat) ((firstsI (numL q) (((dd q).length : Nat) : Int)).getD jj 0)) : Nat) : Int)].length) ([(((dN d ((tt.getD k 0).toNat) ((firstsI (numL q) (((dd q).length : Nat) : Int)).getD jj 0)) : Nat) : Int)].length)) 3 [(((dN d ((tt.getD k 0).toNat) ((firstsI (numL q) (((dd q).length : Nat) : Int)).getD jj 0)) : Nat) : Int)]]] := H34.new' u23
          refine WL.op rfl (t_append (T := (tyI .i64)) (xs := tt) (ys := [(((dN d ((tt.getD k 0).toNat) ((firstsI (numL q) (((dd q).length : Nat) : Int)).getD jj 0)) : Nat) : Int)]) rfl Try.underlying22 sz3 rfl rfl rfl (H35.ownT 10 rfl) (H35.rdT 15 rfl) (by simp only [List.length_singleton]; omega) (by simp only [List.length_singleton]; omega) fun a4 c4 w32 u24 => ?_)
          have H36 : UpG w [] w32 [[blk w.heap.size #[.slice dca d.cls.length dcc, .int .i64 d.width, .int .i64 d.start, .slice dna d.next.length dnc, .slice dba d.acc.length dbc] 25], [blk w1.heap.size #[.slice none 0 0, .int .i64 0, .int .i64 0, .slice none 0 0, .slice none 0 0] 25], [rowT (tyI .i64) (.slice a2_1 bl_1.length c2_1) 3 bl_1], [rowT tyLR (.slice a2_2 n2_1 c2_2) 23 Xs_1], [manyF (inLR tyB 4).row Xs_1], [rowT (tyI .i64) (.slice qa q.length qc) 3 q], [blk w5.heap.size #[.slice a2_3 ((numL q).length) c2_3, .int .i64 (((dd q).length : Nat) : Int), .int .i64 0, .slice ma mx.length mc, .slice a2 ((ac ++ [d.acc.getD ((hs.getD k 0).toNat) false]).length) c2] 25], [rowT (tyI .i64) (.slice a2_3 ((numL q).length) c2_3) 3 (numL q)], [rowT (tyI .i64) (.slice a2_4 ((firstsI (numL q) (((dd q).length : Nat) : Int)).length) c2_4) 3 (firstsI (numL q) (((dd q).length : Nat) : Int))], [rowT (tyI .i64) (.slice a3 ((mu ++ [bl_1.getD (dN d ((tt.getD k 0).toNat) ((firstsI (numL q) (((dd q).length : Nat) : Int)).getD jj 0)) 0]).length) c3) 3 (mu ++ [bl_1.getD (dN d ((tt.getD k 0).toNat) ((firstsI (numL q) (((dd q).length : Nat) : Int)).getD jj 0)) 0])], [rowT (tyI .i64) (.slice a4 ((tt ++ [(((dN d ((tt.getD k 0).toNat) ((firstsI (numL q) (((dd q).length : Nat) : Int)).getD jj 0)) : Nat) : Int)]).length) c4) 3 (tt ++ [(((dN d ((tt.getD k 0).toNat) ((firstsI (numL q) (((dd q).length : Nat) : Int)).getD jj 0)) : Nat) : Int)])], [rowT (tyI .i64) (.slice ma mx.length mc) 3 mx], [rowT tyB (.slice a2 ((ac ++ [d.acc.getD ((hs.getD k 0).toNat) false]).length) c2) 4 (ac ++ [d.acc.getD ((hs.getD k 0).toNat) false])], [], [], []] := (H35.on 10 rfl u24).drop 15
          refine WL.op rfl (d_assign rfl ?_)
          refine WL.done (X.then_code ?_)
          refine W.region ?_
          refine WL.op rfl (d_fieldAddrB fld25_3 rfl rfl ?_)
          refine WL.op rfl (d_loadB Try.underlying22 rfl rfl (H36.blk 6 rfl) rfl ?_)
          refine WL.op rfl (d_move rfl ?_)
          refine WL.op rfl (t_buildSlice (T := (tyI .i64)) (xs := [((mu.length : Nat) : Int)]) (cs := #[.int .i64 ((mu.length : Nat) : Int)]) rfl Try.underlying22 sz3 rfl rfl rfl rfl (by kernel_rfl) rfl rfl fun w33 u25 => ?_)
          have H37 : UpG w [] w33 [[blk w.heap.size #[.slice dca d.cls.length dcc, .int .i64 d.width, .int .i64 d.start, .slice dna d.next.length dnc, .slice dba d.acc.length dbc] 25], [blk w1.heap.size #[.slice none 0 0, .int .i64 0, .int .i64 0, .slice none 0 0, .slice none 0 0] 25], [rowT (tyI .i64) (.slice a2_1 bl_1.length c2_1) 3 bl_1], [rowT tyLR (.slice a2_2 n2_1 c2_2) 23 Xs_1], [manyF (inLR tyB 4).row Xs_1], [rowT (tyI .i64) (.slice qa q.length qc) 3 q], [blk w5.heap.size #[.slice a2_3 ((numL q).length) c2_3, .int .i64 (((dd q).length : Nat) : Int), .int .i64 0, .slice ma mx.length mc, .slice a2 ((ac ++ [d.acc.getD ((hs.getD k 0).toNat) false]).length) c2] 25], [rowT (tyI .i64) (.slice a2_3 ((numL q).length) c2_3) 3 (numL q)], [rowT (tyI .i64) (.slice a2_4 ((firstsI (numL q) (((dd q).length : Nat) : Int)).length) c2_4) 3 (firstsI (numL q) (((dd q).length : Nat) : Int))], [rowT (tyI .i64) (.slice a3 ((mu ++ [bl_1.getD (dN d ((tt.getD k 0).toNat) ((firstsI (numL q) (((dd q).length : Nat) : Int)).getD jj 0)) 0]).length) c3) 3 (mu ++ [bl_1.getD (dN d ((tt.getD k 0).toNat) ((firstsI (numL q) (((dd q).length : Nat) : Int)).getD jj 0)) 0])], [rowT (tyI .i64) (.slice a4 ((tt ++ [(((dN d ((tt.getD k 0).toNat) ((firstsI (numL q) (((dd q).length : Nat) : Int)).getD jj 0)) : Nat) : Int)]).length) c4) 3 (tt ++ [(((dN d ((tt.getD k 0).toNat) ((firstsI (numL q) (((dd q).length : Nat) : Int)).getD jj 0)) : Nat) : Int)])], [rowT (tyI .i64) (.slice ma mx.length mc) 3 mx], [rowT tyB (.slice a2 ((ac ++ [d.acc.getD ((hs.getD k 0).toNat) false]).length) c2) 4 (ac ++ [d.acc.getD ((hs.getD k 0).toNat) false])], [], [], [], [rowT (tyI .i64) (.slice (some ⟨w32.heap.size, 0, none⟩) ([((mu.length : Nat) : Int)].length) ([((mu.length : Nat) : Int)].length)) 3 [((mu.length : Nat) : Int)]]] := H36.new' u25
          refine WL.op rfl (t_append (T := (tyI .i64)) (xs := mx) (ys := [((mu.length : Nat) : Int)]) rfl Try.underlying22 sz3 rfl rfl rfl (H37.ownT 11 rfl) (H37.rdT 16 rfl) (by simp only [List.length_singleton]; omega) (by simp only [List.length_singleton]; omega) fun a5 c5 w34 u26 => ?_)
          have H38 : UpG w [] w34 [[blk w.heap.size #[.slice dca d.cls.length dcc, .int .i64 d.width, .int .i64 d.start, .slice dna d.next.length dnc, .slice dba d.acc.length dbc] 25], [blk w1.heap.size #[.slice none 0 0, .int .i64 0, .int .i64 0, .slice none 0 0, .slice none 0 0] 25], [rowT (tyI .i64) (.slice a2_1 bl_1.length c2_1) 3 bl_1], [rowT tyLR (.slice a2_2 n2_1 c2_2) 23 Xs_1], [manyF (inLR tyB 4).row Xs_1], [rowT (tyI .i64) (.slice qa q.length qc) 3 q], [blk w5.heap.size #[.slice a2_3 ((numL q).length) c2_3, .int .i64 (((dd q).length : Nat) : Int), .int .i64 0, .slice ma mx.length mc, .slice a2 ((ac ++ [d.acc.getD ((hs.getD k 0).toNat) false]).length) c2] 25], [rowT (tyI .i64) (.slice a2_3 ((numL q).length) c2_3) 3 (numL q)], [rowT (tyI .i64) (.slice a2_4 ((firstsI (numL q) (((dd q).length : Nat) : Int)).length) c2_4) 3 (firstsI (numL q) (((dd q).length : Nat) : Int))], [rowT (tyI .i64) (.slice a3 ((mu ++ [bl_1.getD (dN d ((tt.getD k 0).toNat) ((firstsI (numL q) (((dd q).length : Nat) : Int)).getD jj 0)) 0]).length) c3) 3 (mu ++ [bl_1.getD (dN d ((tt.getD k 0).toNat) ((firstsI (numL q) (((dd q).length : Nat) : Int)).getD jj 0)) 0])], [rowT (tyI .i64) (.slice a4 ((tt ++ [(((dN d ((tt.getD k 0).toNat) ((firstsI (numL q) (((dd q).length : Nat) : Int)).getD jj 0)) : Nat) : Int)]).length) c4) 3 (tt ++ [(((dN d ((tt.getD k 0).toNat) ((firstsI (numL q) (((dd q).length : Nat) : Int)).getD jj 0)) : Nat) : Int)])], [rowT (tyI .i64) (.slice a5 ((mx ++ [((mu.length : Nat) : Int)]).length) c5) 3 (mx ++ [((mu.length : Nat) : Int)])], [rowT tyB (.slice a2 ((ac ++ [d.acc.getD ((hs.getD k 0).toNat) false]).length) c2) 4 (ac ++ [d.acc.getD ((hs.getD k 0).toNat) false])], [], [], [], []] := (H37.on 11 rfl u26).drop 16
          refine WL.op rfl (d_fieldAddrB fld25_3 rfl rfl ?_)
          refine WL.op0 (d_storeB sz22 rfl rfl rfl (H38.blk 6 rfl) rfl fun w35 u27 => ?_)
          have H39 : UpG w [] w35 [[blk w.heap.size #[.slice dca d.cls.length dcc, .int .i64 d.width, .int .i64 d.start, .slice dna d.next.length dnc, .slice dba d.acc.length dbc] 25], [blk w1.heap.size #[.slice none 0 0, .int .i64 0, .int .i64 0, .slice none 0 0, .slice none 0 0] 25], [rowT (tyI .i64) (.slice a2_1 bl_1.length c2_1) 3 bl_1], [rowT tyLR (.slice a2_2 n2_1 c2_2) 23 Xs_1], [manyF (inLR tyB 4).row Xs_1], [rowT (tyI .i64) (.slice qa q.length qc) 3 q], [blk w5.heap.size #[.slice a2_3 ((numL q).length) c2_3, .int .i64 (((dd q).length : Nat) : Int), .int .i64 0, .slice a5 ((mx ++ [((mu.length : Nat) : Int)]).length) c5, .slice a2 ((ac ++ [d.acc.getD ((hs.getD k 0).toNat) false]).length) c2] 25], [rowT (tyI .i64) (.slice a2_3 ((numL q).length) c2_3) 3 (numL q)], [rowT (tyI .i64) (.slice a2_4 ((firstsI (numL q) (((dd q).length : Nat) : Int)).length) c2_4) 3 (firstsI (numL q) (((dd q).length : Nat) : Int))], [rowT (tyI .i64) (.slice a3 ((mu ++ [bl_1.getD (dN d ((tt.getD k 0).toNat) ((firstsI (numL q) (((dd q).length : Nat) : Int)).getD jj 0)) 0]).length) c3) 3 (mu ++ [bl_1.getD (dN d ((tt.getD k 0).toNat) ((firstsI (numL q) (((dd q).length : Nat) : Int)).getD jj 0)) 0])], [rowT (tyI .i64) (.slice a4 ((tt ++ [(((dN d ((tt.getD k 0).toNat) ((firstsI (numL q) (((dd q).length : Nat) : Int)).getD jj 0)) : Nat) : Int)]).length) c4) 3 (tt ++ [(((dN d ((tt.getD k 0).toNat) ((firstsI (numL q) (((dd q).length : Nat) : Int)).getD jj 0)) : Nat) : Int)])], [rowT (tyI .i64) (.slice a5 ((mx ++ [((mu.length : Nat) : Int)]).length) c5) 3 (mx ++ [((mu.length : Nat) : Int)])], [rowT tyB (.slice a2 ((ac ++ [d.acc.getD ((hs.getD k 0).toNat) false]).length) c2) 4 (ac ++ [d.acc.getD ((hs.getD k 0).toNat) false])], [], [], [], []] := H38.on 6 rfl u27
          refine WL.done (X.block_normal (X.then_code ?_))
          refine W.pick [17, 16, 19, 18, 15, 12, 3, 2, 1] (Γ' := [(17, .slice a4 ((tt ++ [(((dN d ((tt.getD k 0).toNat) ((firstsI (numL q) (((dd q).length : Nat) : Int)).getD jj 0)) : Nat) : Int)]).length) c4), (16, .slice a3 ((mu ++ [bl_1.getD (dN d ((tt.getD k 0).toNat) ((firstsI (numL q) (((dd q).length : Nat) : Int)).getD jj 0)) 0]).length) c3), (19, .int .i64 ((jj : Nat) : Int)), (18, .int .i64 ((k : Nat) : Int)), (15, .slice a2_4 ((firstsI (numL q) (((dd q).length : Nat) : Int)).length) c2_4), (12, .pointer (some ⟨w5.heap.size, 0, none⟩)), (3, .slice a2_1 bl_1.length c2_1), (2, .pointer (some ⟨w1.heap.size, 0, none⟩)), (1, .pointer (some ⟨w.heap.size, 0, none⟩))]) rfl ?_
          refine W.region ?_
          refine WL.op rfl (d_move rfl ?_)
          refine WL.op rfl (d_add rfl rfl (by omega) (by omega) ?_)
          refine WL.op rfl (d_assign rfl ?_)
          refine WL.done ?_
          exact X.next [19, 18, 17, 16, 15, 12, 3, 2, 1] (Γ' := [(19, .int .i64 (((jj + 1) : Nat) : Int)), (18, .int .i64 ((k : Nat) : Int)), (17, .slice a4 ((tt ++ [(((dN d ((tt.getD k 0).toNat) ((firstsI (numL q) (((dd q).length : Nat) : Int)).getD jj 0)) : Nat) : Int)]).length) c4), (16, .slice a3 ((mu ++ [bl_1.getD (dN d ((tt.getD k 0).toNat) ((firstsI (numL q) (((dd q).length : Nat) : Int)).getD jj 0)) 0]).length) c3), (15, .slice a2_4 ((firstsI (numL q) (((dd q).length : Nat) : Int)).length) c2_4), (12, .pointer (some ⟨w5.heap.size, 0, none⟩)), (3, .slice a2_1 bl_1.length c2_1), (2, .pointer (some ⟨w1.heap.size, 0, none⟩)), (1, .pointer (some ⟨w.heap.size, 0, none⟩))]) rfl ((firstsI (numL q) ((dd q).length : Int)).length - (jj + 1)) (by omega) ⟨jj + 1, tt ++ [(((dN d ((tt.getD k 0).toNat) ((firstsI (numL q) (((dd q).length : Nat) : Int)).getD jj 0)) : Nat) : Int)], a4, c4, mx ++ [((mu.length : Nat) : Int)], a5, c5, mu ++ [bl_1.getD (dN d ((tt.getD k 0).toNat) ((firstsI (numL q) (((dd q).length : Nat) : Int)).getD jj 0)) 0], a3, c3, rfl, (H39.re rfl), (by omega), (by first | (rw [hde, show ((mu.length : Nat) : Int) = ((tt.length : Nat) : Int) by omega]; exact nu_new' hF (by omega) (by rw [← hMj, ← hdb]; exact c109)) | (rw [hdb, hMj]; exact nu_old' hF (by omega) (by rw [← hMj, ← hdb]; exact c109))), (by first | exact hMj | (rw [hde, hdb, hMj, List.map_append]; rfl)), rfl⟩
        · skip
          refine W.skip (X.then_code ?_)
          refine W.region ?_
          refine WL.op rfl (d_fieldAddrB fld25_3 rfl rfl ?_)
          refine WL.op rfl (d_loadB Try.underlying22 rfl rfl (H32.blk 6 rfl) rfl ?_)
          refine WL.op rfl (d_move rfl ?_)
          refine WL.op rfl (t_buildSlice (T := (tyI .i64)) (xs := [firstI (bl_1.getD (dN d ((tt.getD k 0).toNat) ((firstsI (numL q) (((dd q).length : Nat) : Int)).getD jj 0)) 0) mu]) (cs := #[.int .i64 (firstI (bl_1.getD (dN d ((tt.getD k 0).toNat) ((firstsI (numL q) (((dd q).length : Nat) : Int)).getD jj 0)) 0) mu)]) rfl Try.underlying22 sz3 rfl rfl rfl rfl (by kernel_rfl) rfl rfl fun w36 u28 => ?_)
          have H40 : UpG w [] w36 [[blk w.heap.size #[.slice dca d.cls.length dcc, .int .i64 d.width, .int .i64 d.start, .slice dna d.next.length dnc, .slice dba d.acc.length dbc] 25], [blk w1.heap.size #[.slice none 0 0, .int .i64 0, .int .i64 0, .slice none 0 0, .slice none 0 0] 25], [rowT (tyI .i64) (.slice a2_1 bl_1.length c2_1) 3 bl_1], [rowT tyLR (.slice a2_2 n2_1 c2_2) 23 Xs_1], [manyF (inLR tyB 4).row Xs_1], [rowT (tyI .i64) (.slice qa q.length qc) 3 q], [blk w5.heap.size #[.slice a2_3 ((numL q).length) c2_3, .int .i64 (((dd q).length : Nat) : Int), .int .i64 0, .slice ma mx.length mc, .slice a2 ((ac ++ [d.acc.getD ((hs.getD k 0).toNat) false]).length) c2] 25], [rowT (tyI .i64) (.slice a2_3 ((numL q).length) c2_3) 3 (numL q)], [rowT (tyI .i64) (.slice a2_4 ((firstsI (numL q) (((dd q).length : Nat) : Int)).length) c2_4) 3 (firstsI (numL q) (((dd q).length : Nat) : Int))], [rowT (tyI .i64) (.slice mua mu.length muc) 3 mu], [rowT (tyI .i64) (.slice ta tt.length tc) 3 tt], [rowT (tyI .i64) (.slice ma mx.length mc) 3 mx], [rowT tyB (.slice a2 ((ac ++ [d.acc.getD ((hs.getD k 0).toNat) false]).length) c2) 4 (ac ++ [d.acc.getD ((hs.getD k 0).toNat) false])], [], [rowT (tyI .i64) (.slice (some ⟨w28.heap.size, 0, none⟩) ([firstI (bl_1.getD (dN d ((tt.getD k 0).toNat) ((firstsI (numL q) (((dd q).length : Nat) : Int)).getD jj 0)) 0) mu].length) ([firstI (bl_1.getD (dN d ((tt.getD k 0).toNat) ((firstsI (numL q) (((dd q).length : Nat) : Int)).getD jj 0)) 0) mu].length)) 3 [firstI (bl_1.getD (dN d ((tt.getD k 0).toNat) ((firstsI (numL q) (((dd q).length : Nat) : Int)).getD jj 0)) 0) mu]]] := H32.new' u28
          refine WL.op rfl (t_append (T := (tyI .i64)) (xs := mx) (ys := [firstI (bl_1.getD (dN d ((tt.getD k 0).toNat) ((firstsI (numL q) (((dd q).length : Nat) : Int)).getD jj 0)) 0) mu]) rfl Try.underlying22 sz3 rfl rfl rfl (H40.ownT 11 rfl) (H40.rdT 14 rfl) (by simp only [List.length_singleton]; omega) (by simp only [List.length_singleton]; omega) fun a6 c6 w37 u29 => ?_)
          have H41 : UpG w [] w37 [[blk w.heap.size #[.slice dca d.cls.length dcc, .int .i64 d.width, .int .i64 d.start, .slice dna d.next.length dnc, .slice dba d.acc.length dbc] 25], [blk w1.heap.size #[.slice none 0 0, .int .i64 0, .int .i64 0, .slice none 0 0, .slice none 0 0] 25], [rowT (tyI .i64) (.slice a2_1 bl_1.length c2_1) 3 bl_1], [rowT tyLR (.slice a2_2 n2_1 c2_2) 23 Xs_1], [manyF (inLR tyB 4).row Xs_1], [rowT (tyI .i64) (.slice qa q.length qc) 3 q], [blk w5.heap.size #[.slice a2_3 ((numL q).length) c2_3, .int .i64 (((dd q).length : Nat) : Int), .int .i64 0, .slice ma mx.length mc, .slice a2 ((ac ++ [d.acc.getD ((hs.getD k 0).toNat) false]).length) c2] 25], [rowT (tyI .i64) (.slice a2_3 ((numL q).length) c2_3) 3 (numL q)], [rowT (tyI .i64) (.slice a2_4 ((firstsI (numL q) (((dd q).length : Nat) : Int)).length) c2_4) 3 (firstsI (numL q) (((dd q).length : Nat) : Int))], [rowT (tyI .i64) (.slice mua mu.length muc) 3 mu], [rowT (tyI .i64) (.slice ta tt.length tc) 3 tt], [rowT (tyI .i64) (.slice a6 ((mx ++ [firstI (bl_1.getD (dN d ((tt.getD k 0).toNat) ((firstsI (numL q) (((dd q).length : Nat) : Int)).getD jj 0)) 0) mu]).length) c6) 3 (mx ++ [firstI (bl_1.getD (dN d ((tt.getD k 0).toNat) ((firstsI (numL q) (((dd q).length : Nat) : Int)).getD jj 0)) 0) mu])], [rowT tyB (.slice a2 ((ac ++ [d.acc.getD ((hs.getD k 0).toNat) false]).length) c2) 4 (ac ++ [d.acc.getD ((hs.getD k 0).toNat) false])], [], []] := (H40.on 11 rfl u29).drop 14
          refine WL.op rfl (d_fieldAddrB fld25_3 rfl rfl ?_)
          refine WL.op0 (d_storeB sz22 rfl rfl rfl (H41.blk 6 rfl) rfl fun w38 u30 => ?_)
          have H42 : UpG w [] w38 [[blk w.heap.size #[.slice dca d.cls.length dcc, .int .i64 d.width, .int .i64 d.start, .slice dna d.next.length dnc, .slice dba d.acc.length dbc] 25], [blk w1.heap.size #[.slice none 0 0, .int .i64 0, .int .i64 0, .slice none 0 0, .slice none 0 0] 25], [rowT (tyI .i64) (.slice a2_1 bl_1.length c2_1) 3 bl_1], [rowT tyLR (.slice a2_2 n2_1 c2_2) 23 Xs_1], [manyF (inLR tyB 4).row Xs_1], [rowT (tyI .i64) (.slice qa q.length qc) 3 q], [blk w5.heap.size #[.slice a2_3 ((numL q).length) c2_3, .int .i64 (((dd q).length : Nat) : Int), .int .i64 0, .slice a6 ((mx ++ [firstI (bl_1.getD (dN d ((tt.getD k 0).toNat) ((firstsI (numL q) (((dd q).length : Nat) : Int)).getD jj 0)) 0) mu]).length) c6, .slice a2 ((ac ++ [d.acc.getD ((hs.getD k 0).toNat) false]).length) c2] 25], [rowT (tyI .i64) (.slice a2_3 ((numL q).length) c2_3) 3 (numL q)], [rowT (tyI .i64) (.slice a2_4 ((firstsI (numL q) (((dd q).length : Nat) : Int)).length) c2_4) 3 (firstsI (numL q) (((dd q).length : Nat) : Int))], [rowT (tyI .i64) (.slice mua mu.length muc) 3 mu], [rowT (tyI .i64) (.slice ta tt.length tc) 3 tt], [rowT (tyI .i64) (.slice a6 ((mx ++ [firstI (bl_1.getD (dN d ((tt.getD k 0).toNat) ((firstsI (numL q) (((dd q).length : Nat) : Int)).getD jj 0)) 0) mu]).length) c6) 3 (mx ++ [firstI (bl_1.getD (dN d ((tt.getD k 0).toNat) ((firstsI (numL q) (((dd q).length : Nat) : Int)).getD jj 0)) 0) mu])], [rowT tyB (.slice a2 ((ac ++ [d.acc.getD ((hs.getD k 0).toNat) false]).length) c2) 4 (ac ++ [d.acc.getD ((hs.getD k 0).toNat) false])], [], []] := H41.on 6 rfl u30
          refine WL.done (X.block_normal (X.then_code ?_))
          refine W.region ?_
          refine WL.op rfl (d_move rfl ?_)
          refine WL.op rfl (d_add rfl rfl (by omega) (by omega) ?_)
          refine WL.op rfl (d_assign rfl ?_)
          refine WL.done ?_
          exact X.next [19, 18, 17, 16, 15, 12, 3, 2, 1] (Γ' := [(19, .int .i64 (((jj + 1) : Nat) : Int)), (18, .int .i64 ((k : Nat) : Int)), (17, .slice ta tt.length tc), (16, .slice mua mu.length muc), (15, .slice a2_4 ((firstsI (numL q) (((dd q).length : Nat) : Int)).length) c2_4), (12, .pointer (some ⟨w5.heap.size, 0, none⟩)), (3, .slice a2_1 bl_1.length c2_1), (2, .pointer (some ⟨w1.heap.size, 0, none⟩)), (1, .pointer (some ⟨w.heap.size, 0, none⟩))]) rfl ((firstsI (numL q) ((dd q).length : Int)).length - (jj + 1)) (by omega) ⟨jj + 1, tt, ta, tc, mx ++ [firstI (bl_1.getD (dN d ((tt.getD k 0).toNat) ((firstsI (numL q) (((dd q).length : Nat) : Int)).getD jj 0)) 0) mu], a6, c6, mu, mua, muc, rfl, (H42.re rfl), (by omega), (by first | (rw [hde, show ((mu.length : Nat) : Int) = ((tt.length : Nat) : Int) by omega]; exact nu_new' hF (by omega) (by rw [← hMj, ← hdb]; exact c109)) | (rw [hdb, hMj]; exact nu_old' hF (by omega) (by rw [← hMj, ← hdb]; exact c109))), (by first | exact hMj | (rw [hde, hdb, hMj, List.map_append]; rfl)), rfl⟩
      · skip
        refine W.exit (X.then_exit (X.then_exit (X.block_exit (X.block_normal (X.then_code ?_)))))
        refine W.region ?_
        refine WL.op rfl (d_move rfl ?_)
        refine WL.op rfl (d_add rfl rfl (by omega) (by omega) ?_)
        refine WL.op rfl (d_assign rfl ?_)
        refine WL.done ?_
        obtain ⟨rr, hrr⟩ := (NuI.at' hrt hbk hfs hN hkh hjj hF).2
        have hkt : k + 1 ≤ tt.length := by rw [hrr]; simp; omega
        exact X.next [18, 17, 16, 15, 12, 3, 2, 1] (Γ' := [(18, .int .i64 (((k + 1) : Nat) : Int)), (17, .slice ta tt.length tc), (16, .slice mua mu.length muc), (15, .slice a2_4 ((firstsI (numL q) (((dd q).length : Nat) : Int)).length) c2_4), (12, .pointer (some ⟨w5.heap.size, 0, none⟩)), (3, .slice a2_1 bl_1.length c2_1), (2, .pointer (some ⟨w1.heap.size, 0, none⟩)), (1, .pointer (some ⟨w.heap.size, 0, none⟩))]) rfl (4097 - (k + 1)) (by omega) ⟨k + 1, tt, ta, tc, mx, ma, mc, ac ++ [d.acc.getD ((hs.getD k 0).toNat) false], a2, c2, mu, mua, muc, rfl, (H29.re rfl), (by omega), (by exact (NuI.at' hrt hbk hfs hN hkh hjj hF).1.next (by omega)), (by exact hMj), (by rw [hA]; exact acc_step hkh hrr), (by exact numLoop_next hR hkh (by omega) (by omega) hF), rfl⟩
    · skip
      refine W.exit (X.then_exit (X.then_exit (X.block_exit (X.then_code ?_))))
      refine W.seq ?_
      refine W.region ?_
      refine WL.op rfl (d_loadAB [.slice a2_3 ((numL q).length) c2_3, .int .i64 (((dd q).length : Nat) : Int), .int .i64 0, .slice na nx.length nc, .slice ba ac.length bc] Try.underlying25 rfl sz25 rfl (H24.blk 6 rfl) rfl rfl ?_)
      refine WL.op0 (d_storeAB (us := [.slice a2_3 ((numL q).length) c2_3, .int .i64 (((dd q).length : Nat) : Int), .int .i64 0, .slice na nx.length nc, .slice ba ac.length bc]) (cs' := #[.slice a2_3 ((numL q).length) c2_3, .int .i64 (((dd q).length : Nat) : Int), .int .i64 0, .slice na nx.length nc, .slice ba ac.length bc]) sz25 rfl rfl rfl rfl (H24.blk 1 rfl) rfl rfl fun w39 u31 => ?_)
      have H43 : UpG w [] w39 [[blk w.heap.size #[.slice dca d.cls.length dcc, .int .i64 d.width, .int .i64 d.start, .slice dna d.next.length dnc, .slice dba d.acc.length dbc] 25], [blk w1.heap.size #[.slice a2_3 ((numL q).length) c2_3, .int .i64 (((dd q).length : Nat) : Int), .int .i64 0, .slice na nx.length nc, .slice ba ac.length bc] 25], [rowT (tyI .i64) (.slice a2_1 bl_1.length c2_1) 3 bl_1], [rowT tyLR (.slice a2_2 n2_1 c2_2) 23 Xs_1], [manyF (inLR tyB 4).row Xs_1], [rowT (tyI .i64) (.slice qa q.length qc) 3 q], [blk w5.heap.size #[.slice a2_3 ((numL q).length) c2_3, .int .i64 (((dd q).length : Nat) : Int), .int .i64 0, .slice na nx.length nc, .slice ba ac.length bc] 25], [rowT (tyI .i64) (.slice a2_3 ((numL q).length) c2_3) 3 (numL q)], [rowT (tyI .i64) (.slice a2_4 ((firstsI (numL q) (((dd q).length : Nat) : Int)).length) c2_4) 3 (firstsI (numL q) (((dd q).length : Nat) : Int))], [rowT (tyI .i64) (.slice mta mt.length mtc) 3 mt], [rowT (tyI .i64) (.slice ha hs.length hc) 3 hs], [rowT (tyI .i64) (.slice na nx.length nc) 3 nx], [rowT tyB (.slice ba ac.length bc) 4 ac]] := H24.on 1 rfl u31
      refine WL.done (X.then_code ?_)
      refine W.ret (X.retR1 rfl (rv_cellA [.slice a2_3 ((numL q).length) c2_3, .int .i64 (((dd q).length : Nat) : Int), .int .i64 0, .slice na nx.length nc, .slice ba ac.length bc] Try.underlying25 rfl sz25 rfl (H43.blk 1 rfl) rfl rfl) ?_)
      obtain ⟨hn1, hn2⟩ := numLoop_done hR (by omega)
      rw [hbe] at hn1 hn2
      obtain ⟨e1, e2, e3, e4, e5⟩ := leastD_fields hq hn1 hn2
      have e6 : ac = hs.map (accF d) := by rw [hA, List.take_of_length_le (by omega)]
      rw [e1, e2, e3, e4, e5, ← e6]
      exact ⟨a2_3, c2_3, na, nc, ba, bc, (by rfl), (Upd.sel H43 (l := [7, 11, 12]) rfl rfl)⟩
end Go.Proofs.Ytoeockpkkmgieaa

/- The document's ways: two states and the symbols by which one came there. Conditions: those of each theorem. -/
namespace Go.Sx
set_option linter.unusedVariables false
set_option linter.unusedSimpArgs false
structure WyD where
  p : Int
  q : Int
  a : Option Addr
  n : Nat
  c : Nat
  w : List Int
def wy0 : WyD := ⟨0, 0, none, 0, 0, []⟩
def tyWy : Ty WyD := ⟨3, fun x => [.int .i64 x.p, .int .i64 x.q, .slice x.a x.n x.c], fun _ => rfl, fun x u h => by
  simp only [List.mem_cons, List.not_mem_nil, or_false] at h; rcases h with rfl | rfl | rfl <;> rfl, by omega⟩
def inWy : Inn WyD Int := ⟨tyI .i64, 3, WyD.a, WyD.c, WyD.w, WyD.n⟩
def WyD.pr (x : WyD) : Int × Int := (x.p, x.q)
def amongB (l : List WyD) (p q : Int) : Bool := decide ((p, q) ∈ l.map WyD.pr)
theorem among_yes {l : List WyD} {p q : Int} {k : Nat} (hk : k < l.length) (h1 : (l.getD k wy0).p = p) (h2 : (l.getD k wy0).q = q) : amongB l p q = true :=
  decide_eq_true (List.mem_map.2 ⟨_, getD_mem' hk, by rw [WyD.pr, h1, h2]⟩)
theorem among_no {l : List WyD} {p q : Int} (h : ∀ i, i < l.length → ¬ ((l.getD i wy0).p = p ∧ (l.getD i wy0).q = q)) : amongB l p q = false :=
  decide_eq_false fun h9 => by
    obtain ⟨x, hx, e⟩ := List.mem_map.1 h9
    obtain ⟨i, hi, rfl⟩ := List.mem_iff_getElem.1 hx
    refine h i hi ?_
    have e2 : l.getD i wy0 = l[i] := by simp [List.getD_eq_getElem?_getD, List.getElem?_eq_getElem hi]
    rw [e2]
    simp only [WyD.pr, Prod.mk.injEq] at e
    exact e
theorem revW_pre {l r : List St4} (h : Chain l) : ∀ (n i : Nat), i < l.length → revW (l ++ r) n i = revW l n i
  | 0, _, _ => rfl
  | n + 1, i, hi => by
    have hc := h i hi
    simp only [revW, getD_preS (r := r) hi]
    split
    · rfl
    · rename_i h0
      rw [revW_pre h n _ (by omega)]
theorem wordS_pre {l r : List St4} (h : Chain l) {i : Nat} (hi : i < l.length) : wordS (l ++ r) i = wordS l i := by rw [wordS, revW_pre h _ _ hi]; rfl
structure WyI (l : List St4) (ws : List WyD) : Prop where
  len : ws.length = l.length
  val : ∀ i, i < l.length → (ws.getD i wy0).p = (l.getD i st0).p ∧ (ws.getD i wy0).q = (l.getD i st0).q ∧ (ws.getD i wy0).w = wordS l i
theorem WyI.start (a b : DfaD) : WyI (startS a b) [⟨a.start, b.start, none, 0, 0, []⟩] := ⟨rfl, fun i hi => by
  have : i = 0 := by simp [startS] at hi; omega
  subst this
  exact ⟨rfl, rfl, (wordS_end (by show (-1 : Int) < 0; omega)).symm⟩⟩
theorem WyI.among {l : List St4} {ws : List WyD} (h : WyI l ws) (p q : Int) : amongB ws p q = decide ((p, q) ∈ prs l) := by
  unfold amongB
  rw [decide_eq_decide]
  have e : ws.map WyD.pr = prs l := by
    refine List.ext_getElem (by simp [prs, h.len]) fun i h1 h2 => ?_
    have hi : i < l.length := by simpa [prs] using h2
    have hw : i < ws.length := by rw [h.len]; exact hi
    have h9 := h.val i hi
    simp only [List.getD_eq_getElem?_getD, List.getElem?_eq_getElem hi, List.getElem?_eq_getElem hw, Option.getD_some] at h9
    simp only [prs, List.getElem_map, WyD.pr, St4.pr, h9.1, h9.2.1]
  rw [e]
theorem WyI.old {l : List St4} {ws : List WyD} (h : WyI l ws) {p : Int × Int} {f sym : Int} (hm : amongB ws p.1 p.2 = true) : putS l p f sym = l := by
  rw [h.among] at hm
  rw [putS, if_pos (of_decide_eq_true hm)]
theorem WyI.new {l : List St4} {ws : List WyD} (h : WyI l ws) (hc : Chain l) {k : Nat} (hk : k < l.length) {p : Int × Int} {sym : Int} {a : Option Addr} {n c : Nat} (hm : amongB ws p.1 p.2 = false) (hc2 : Chain (putS l p (k : Int) sym)) :
    WyI (putS l p (k : Int) sym) (ws ++ [⟨p.1, p.2, a, n, c, (ws.getD k wy0).w ++ [sym]⟩]) := by
  have e : putS l p (k : Int) sym = l ++ [⟨p.1, p.2, (k : Int), sym⟩] := by rw [h.among] at hm; rw [putS, if_neg (of_decide_eq_false hm)]
  rw [e] at hc2 ⊢
  refine ⟨by simp [h.len], fun i hi => ?_⟩
  by_cases hil : i < l.length
  · have e1 : (ws ++ [(⟨p.1, p.2, a, n, c, (ws.getD k wy0).w ++ [sym]⟩ : WyD)]).getD i wy0 = ws.getD i wy0 := by
      simp only [List.getD_eq_getElem?_getD, List.getElem?_append_left (show i < ws.length by rw [h.len]; exact hil)]
    rw [e1, getD_preS hil, wordS_pre hc hil]
    exact h.val i hil
  · have ei : i = l.length := by simp at hi; omega
    subst ei
    have e1 : (ws ++ [(⟨p.1, p.2, a, n, c, (ws.getD k wy0).w ++ [sym]⟩ : WyD)]).getD l.length wy0 = ⟨p.1, p.2, a, n, c, (ws.getD k wy0).w ++ [sym]⟩ := by
      rw [← h.len]; simp [List.getD_eq_getElem?_getD]
    have e2 : (l ++ [(⟨p.1, p.2, (k : Int), sym⟩ : St4)]).getD l.length st0 = ⟨p.1, p.2, (k : Int), sym⟩ := by simp [List.getD_eq_getElem?_getD]
    rw [e1, e2]
    refine ⟨rfl, rfl, ?_⟩
    have h0 : 0 ≤ ((l ++ [(⟨p.1, p.2, (k : Int), sym⟩ : St4)]).getD l.length st0).from_ := by rw [e2]; show (0 : Int) ≤ (k : Int); omega
    rw [wordS_step hc2 (by simp) h0, e2]
    show _ = wordS _ ((k : Int)).toNat ++ [sym]
    rw [Int.toNat_natCast, wordS_pre hc hk, (h.val k hk).2.2]
end Go.Sx

/- The walks of functions, printed by wip/tools/gw.py. -/
namespace Go.Proofs.Ytoeockpkkmgieaa
open Go Go.Sx
set_option linter.unusedVariables false
set_option linter.unusedSimpArgs false
set_option maxRecDepth 20000 in
theorem among_any (la : Option Addr) (l : List WyD) (lc : Nat) (x : Int) (y : Int) (w : World) (rl : RdT tyWy w (.slice la l.length lc) l) (dl : inWy.Rd w l) :
    Calls Try.prog 82 #[.slice la l.length lc, .int .i64 x, .int .i64 y] w (Ret fun v w' => v = .bool (amongB l x y) ∧ Upd w [] w' []) := by
  have le_rl := rl.le
  refine calls_of_W (args := [.slice la l.length lc, .int .i64 x, .int .i64 y]) Try.func82 rfl rfl rfl ?_
  have H0 : UpG w [] w [] := UpG.nil w
  show W _ _ _ _ [(0, .slice la l.length lc), (1, .int .i64 x), (2, .int .i64 y)] w
  refine W.seq ?_
  refine W.region ?_
  refine WL.op rfl (d_assign rfl ?_)
  refine WL.done (X.then_code ?_)
  refine W.seq ?_
  refine W.seq ?_
  refine W.region ?_
  refine WL.op rfl (d_assign rfl ?_)
  refine WL.done (X.then_code ?_)
  refine W.block ?_
  refine W.pick [7, 6, 0, 1, 2] (Γ' := [(7, .int .i64 0), (6, .bool false), (0, .slice la l.length lc), (1, .int .i64 x), (2, .int .i64 y)]) rfl ?_
  refine W.loop (fun m Γ' w' => ∃ k : Nat, Γ' = [(7, .int .i64 ((k : Nat) : Int)), (6, .bool false), (0, .slice la l.length lc), (1, .int .i64 x), (2, .int .i64 y)] ∧ UpG w [] w' [] ∧ (k ≤ l.length) ∧ (∀ i, i < k → ¬ ((l.getD i wy0).p = x ∧ (l.getD i wy0).q = y)) ∧ m = l.length - k) (l.length - 0) ⟨0, rfl, H0, (by first | assumption | omega | simp), (by intro i hi; omega), rfl⟩ ?_
  rintro m1 Γ1 w1 ⟨k, rfl, H1, hk, hno, rfl⟩
  refine W.seq ?_
  refine W.seq ?_
  refine W.region ?_
  refine WL.op rfl (d_move rfl ?_)
  refine WL.op rfl (d_move rfl ?_)
  refine WL.op rfl (d_lenS Try.underlying110 rfl ?_)
  refine WL.op rfl (d_cmp (decide (((k : Nat) : Int) < ((l.length : Nat) : Int))) rfl rfl rfl ?_)
  refine WL.done (X.then_code ?_)
  refine W.ite (p := ((k : Nat) : Int) < ((l.length : Nat) : Int)) rfl (fun c19 => ?_) (fun c19 => ?_)
  · skip
    refine W.skip (X.then_code ?_)
    refine W.seq ?_
    refine W.block ?_
    refine W.seq ?_
    refine W.region ?_
    refine WL.op rfl (d_move rfl ?_)
    refine WL.op rfl (d_move rfl ?_)
    refine WL.op rfl (t_addrN k (T := tyWy) rfl Try.underlying110 sz109 rfl rfl (rl.at H1) rfl (by omega) ?_)
    refine WL.op rfl (t_fld k wy0 (T := tyWy) rfl fld109_0 rfl rfl (rl.at H1) (by omega) ?_)
    refine WL.op rfl (t_loadF k wy0 (T := tyWy) rfl rfl Try.underlying3 rfl rfl (rl.at H1) (by omega) rfl ?_)
    refine WL.op rfl (d_move rfl ?_)
    refine WL.op rfl (d_cmp (decide (((l.getD k wy0).p) = x)) rfl rfl rfl ?_)
    refine WL.op rfl (d_move rfl ?_)
    refine WL.part 21 (p := ((l.getD k wy0).p) = x) rfl (fun g20 => ?_) (fun g20 => ?_)
    · skip
      refine WL.opG rfl rfl rfl (d_move rfl ?_)
      refine WL.opG rfl rfl rfl (d_move rfl ?_)
      refine WL.opG rfl rfl rfl (t_addrN k (T := tyWy) rfl Try.underlying110 sz109 rfl rfl (rl.at H1) rfl (by omega) ?_)
      refine WL.opG rfl rfl rfl (t_fld k wy0 (T := tyWy) rfl fld109_1 rfl rfl (rl.at H1) (by omega) ?_)
      refine WL.opG rfl rfl rfl (t_loadF k wy0 (T := tyWy) rfl rfl Try.underlying3 rfl rfl (rl.at H1) (by omega) rfl ?_)
      refine WL.opG rfl rfl rfl (d_move rfl ?_)
      refine WL.opG rfl rfl rfl (d_cmp (decide (((l.getD k wy0).q) = y)) rfl rfl rfl ?_)
      refine WL.op rfl (d_pick rfl rfl ?_)
      refine WL.done (X.then_code ?_)
      refine W.ite (p := ((l.getD k wy0).q) = y) rfl (fun c20 => ?_) (fun c20 => ?_)
      · skip
        refine W.seq ?_
        refine W.region ?_
        refine WL.op rfl (d_assign rfl ?_)
        refine WL.done (X.then_code ?_)
        refine W.ret (X.block_ret (X.then_ret (X.then_ret (X.block_ret (X.then_ret (X.ret1 rfl rfl ?_))))))
        exact ⟨(by rw [among_yes (by omega) g20 c20]), H1.noneL⟩
      · skip
        refine W.skip (X.block_normal (X.then_code ?_))
        refine W.region ?_
        refine WL.op rfl (d_move rfl ?_)
        refine WL.op rfl (d_add rfl rfl (by omega) (by omega) ?_)
        refine WL.op rfl (d_assign rfl ?_)
        refine WL.done ?_
        exact X.next [7, 6, 0, 1, 2] (Γ' := [(7, .int .i64 (((k + 1) : Nat) : Int)), (6, .bool false), (0, .slice la l.length lc), (1, .int .i64 x), (2, .int .i64 y)]) rfl (l.length - (k + 1)) (by omega) ⟨k + 1, rfl, H1, (by first | assumption | omega | simp), (by first | exact all_step hno (fun h9 => c20 h9.2) | exact all_step hno (fun h9 => g20 h9.1)), rfl⟩
    · skip
      refine WL.opN rfl rfl rfl rfl ?_
      refine WL.opN rfl rfl rfl rfl ?_
      refine WL.opN rfl rfl rfl rfl ?_
      refine WL.opN rfl rfl rfl rfl ?_
      refine WL.opN rfl rfl rfl rfl ?_
      refine WL.opN rfl rfl rfl rfl ?_
      refine WL.opN rfl rfl rfl rfl ?_
      refine WL.op rfl (d_pick rfl rfl ?_)
      refine WL.done (X.then_code ?_)
      refine W.iff rfl ?_
      refine W.skip (X.block_normal (X.then_code ?_))
      refine W.region ?_
      refine WL.op rfl (d_move rfl ?_)
      refine WL.op rfl (d_add rfl rfl (by omega) (by omega) ?_)
      refine WL.op rfl (d_assign rfl ?_)
      refine WL.done ?_
      exact X.next [7, 6, 0, 1, 2] (Γ' := [(7, .int .i64 (((k + 1) : Nat) : Int)), (6, .bool false), (0, .slice la l.length lc), (1, .int .i64 x), (2, .int .i64 y)]) rfl (l.length - (k + 1)) (by omega) ⟨k + 1, rfl, H1, (by first | assumption | omega | simp), (by first | exact all_step hno (fun h9 => c20 h9.2) | exact all_step hno (fun h9 => g20 h9.1)), rfl⟩
  · skip
    refine W.exit (X.then_exit (X.then_exit (X.block_exit (X.then_code ?_))))
    refine W.seq ?_
    refine W.region ?_
    refine WL.op rfl (d_assign rfl ?_)
    refine WL.done (X.then_code ?_)
    refine W.ret (X.ret1 rfl rfl ?_)
    exact ⟨(by rw [among_no (fun i hi => hno i (by omega))]), H1.noneL⟩
end Go.Proofs.Ytoeockpkkmgieaa

/- The document's search for what tells two automata apart: a round, in the program's words. Conditions: those of each theorem. -/
namespace Go.Proofs.Ytoeockpkkmgieaa
open Go Go.Sx
set_option linter.unusedVariables false
set_option linter.unusedSimpArgs false
theorem wy_nx {a b : DfaD} (ha : rightB a = true) (hb : rightB b = true) {ls : List St4} {ws : List WyD} {k : Nat} (hI : StI a b ls k) (hk : k < ls.length) (hW : WyI ls ws) {c : Int} (hc : 0 ≤ c ∧ c < 259) :
    ((dN a ((ws.getD k wy0).p).toNat c : Nat) : Int) = (nxP a b (ls.getD k st0) c).1 ∧ ((dN b ((ws.getD k wy0).q).toNat c : Nat) : Int) = (nxP a b (ls.getD k st0) c).2 := by
  have h1 := hI.rng k hk
  have h2 := hW.val k hk
  rw [h2.1, h2.2.1, dN_int ha (by omega) hc, dN_int hb (by omega) hc, Int.toNat_of_nonneg h1.1.1, Int.toNat_of_nonneg h1.2.1]
  exact ⟨rfl, rfl⟩
theorem wy_fold_len {a b : DfaD} {ls : List St4} {k : Nat} (hk : k < ls.length) (fs : List Int) : k < (fs.foldl (addS a b (ls.getD k st0) k) ls).length := foldAddS_lt hk
theorem wy_old {a b : DfaD} (ha : rightB a = true) (hb : rightB b = true) {ls : List St4} {ws ot : List WyD} {k j : Nat} (hI : StI a b ls k) (hk : k < ls.length) (hW : WyI ls ws) (hj : j < 259)
    (hV : WyI ((symsN j).foldl (addS a b (ls.getD k st0) k) ls) ot) (hc : ¬ (!amongB ot ((dN a ((ws.getD k wy0).p).toNat ((j : Nat) : Int) : Nat) : Int) ((dN b ((ws.getD k wy0).q).toNat ((j : Nat) : Int) : Nat) : Int)) = true) :
    (symsN (j + 1)).foldl (addS a b (ls.getD k st0) k) ls = (symsN j).foldl (addS a b (ls.getD k st0) k) ls := by
  obtain ⟨e1, e2⟩ := wy_nx ha hb hI hk hW (c := (j : Int)) (by omega)
  rw [e1, e2] at hc
  rw [symsN_succ, List.foldl_append]
  exact hV.old (f := (k : Int)) (sym := (j : Int)) (bn_t hc)
theorem wy_new {a b : DfaD} (ha : rightB a = true) (hb : rightB b = true) {ls : List St4} {ws ot : List WyD} {k j : Nat} {a2 : Option Addr} {n c2 : Nat} (hI : StI a b ls k) (hk : k < ls.length) (hW : WyI ls ws) (hj : j < 259)
    (hV : WyI ((symsN j).foldl (addS a b (ls.getD k st0) k) ls) ot) (hJ : StI a b ((symsN j).foldl (addS a b (ls.getD k st0) k) ls) k)
    (hc : (!amongB ot ((dN a ((ws.getD k wy0).p).toNat ((j : Nat) : Int) : Nat) : Int) ((dN b ((ws.getD k wy0).q).toNat ((j : Nat) : Int) : Nat) : Int)) = true) :
    WyI ((symsN (j + 1)).foldl (addS a b (ls.getD k st0) k) ls) (ot ++ [(⟨((dN a ((ws.getD k wy0).p).toNat ((j : Nat) : Int) : Nat) : Int), ((dN b ((ws.getD k wy0).q).toNat ((j : Nat) : Int) : Nat) : Int), a2, n, c2, (([] : List Int) ++ (ws.getD k wy0).w) ++ [((j : Nat) : Int)]⟩ : WyD)]) := by
  obtain ⟨e1, e2⟩ := wy_nx ha hb hI hk hW (c := (j : Int)) (by omega)
  rw [e1, e2] at hc ⊢
  rw [symsN_succ, List.foldl_append]
  have hkl := wy_fold_len (a := a) (b := b) hk (symsN j)
  have hp := hJ.put ha hb hkl (sym := (j : Int)) (by omega) (s := ls.getD k st0) (foldAddS_get hk).symm
  have hm : amongB ot (nxP a b (ls.getD k st0) (j : Int)).1 (nxP a b (ls.getD k st0) (j : Int)).2 = false := by simpa using hc
  have h9 := hV.new hJ.ch (k := k) hkl (p := nxP a b (ls.getD k st0) (j : Int)) (sym := (j : Int)) (a := a2) (n := n) (c := c2) hm hp.ch
  have hww : (ot.getD k wy0).w = (ws.getD k wy0).w := by
    obtain ⟨r, hr, _⟩ := foldAddS_pre a b (ls.getD k st0) k (symsN j) ls
    rw [(hV.val k hkl).2.2, (hW.val k hk).2.2, hr, wordS_pre hI.ch hk]
  rw [hww] at h9
  exact h9
theorem wy_step {a b : DfaD} (ha : rightB a = true) (hb : rightB b = true) {ls : List St4} {k j : Nat} (hk : k < ls.length) (hj : j < 259) (hJ : StI a b ((symsN j).foldl (addS a b (ls.getD k st0) k) ls) k) : StI a b ((symsN (j + 1)).foldl (addS a b (ls.getD k st0) k) ls) k := by
  rw [symsN_succ, List.foldl_append]
  exact hJ.put ha hb (wy_fold_len hk _) (by omega) (foldAddS_get hk).symm
theorem wy_next {a b : DfaD} {ls : List St4} {k j : Nat} (hk : k < ls.length) (hj : j = 259) (hJ : StI a b ((symsN j).foldl (addS a b (ls.getD k st0) k) ls) k) (ht : a.acc.getD (ls.getD k st0).p.toNat false = b.acc.getD (ls.getD k st0).q.toNat false) :
    StI a b ((symsN 259).foldl (addS a b (ls.getD k st0) k) ls) (k + 1) := by
  subst hj
  exact hJ.test (by rw [foldAddS_get hk]; exact ht)
theorem wy_hit {a b : DfaD} (ha : rightB a = true) (hb : rightB b = true) {ls : List St4} {k : Nat} (hR : apLoop a b (symsN 259) (a.acc.length * b.acc.length + 1) 0 (startS a b) = apLoop a b (symsN 259) (a.acc.length * b.acc.length + 1 - k) k ls)
    (hk : k < a.acc.length * b.acc.length + 1) (hl : k < ls.length) (hn : a.acc.getD (ls.getD k st0).p.toNat false ≠ b.acc.getD (ls.getD k st0).q.toNat false) : apartO a b = some (wordS ls k) := by
  unfold apartO
  rw [← apLoop_all ha hb, hR]
  exact apLoop_hit hk hl hn
theorem wy_end {a b : DfaD} (ha : rightB a = true) (hb : rightB b = true) {ls : List St4} {k : Nat} (hR : apLoop a b (symsN 259) (a.acc.length * b.acc.length + 1) 0 (startS a b) = apLoop a b (symsN 259) (a.acc.length * b.acc.length + 1 - k) k ls)
    (hl : ¬ k < ls.length) : apartO a b = none := by
  unfold apartO
  rw [← apLoop_all ha hb, hR]
  exact apLoop_end hl
end Go.Proofs.Ytoeockpkkmgieaa

/- The walks of functions, printed by wip/tools/gw.py. -/
namespace Go.Proofs.Ytoeockpkkmgieaa
open Go Go.Sx
set_option linter.unusedVariables false
set_option linter.unusedSimpArgs false
set_option maxRecDepth 20000 in
theorem refApart_any (a : DfaD) (aca : Option Addr) (ana : Option Addr) (aba : Option Addr) (acc : Nat) (anc : Nat) (abc : Nat) (b : DfaD) (bca : Option Addr) (bna : Option Addr) (bba : Option Addr) (bcc : Nat) (bnc : Nat) (bbc : Nat) (w : World) (rca : RdT (tyI .i64) w (.slice aca a.cls.length acc) a.cls) (rna : RdT (tyI .i64) w (.slice ana a.next.length anc) a.next) (rba : RdT tyB w (.slice aba a.acc.length abc) a.acc) (rcb : RdT (tyI .i64) w (.slice bca b.cls.length bcc) b.cls) (rnb : RdT (tyI .i64) w (.slice bna b.next.length bnc) b.next) (rbb : RdT tyB w (.slice bba b.acc.length bbc) b.acc) (hra : rightB a = true) (hrb : rightB b = true) :
    Calls Try.prog 48 #[.agg #[.slice aca a.cls.length acc, .int .i64 a.width, .int .i64 a.start, .slice ana a.next.length anc, .slice aba a.acc.length abc], .agg #[.slice bca b.cls.length bcc, .int .i64 b.width, .int .i64 b.start, .slice bna b.next.length bnc, .slice bba b.acc.length bbc]] w (Ret fun v w' => ∃ a2 : Option Addr, ∃ vw : List Int, ∃ c2 : Nat, ∃ ok : Bool, v = .tuple #[.slice a2 vw.length c2, .bool ok] ∧ Upd w [] w' [rowT (tyI .i64) (.slice a2 vw.length c2) 3 vw] ∧ (vw = (apartO a b).getD []) ∧ (ok = (apartO a b).isSome)) := by
  have hia := rightB_iff.1 hra
  have hib := rightB_iff.1 hrb
  have le_rca := rca.le
  have le_rna := rna.le
  have le_rba := rba.le
  have le_rcb := rcb.le
  have le_rnb := rnb.le
  have le_rbb := rbb.le
  refine calls_of_W (args := [.agg #[.slice aca a.cls.length acc, .int .i64 a.width, .int .i64 a.start, .slice ana a.next.length anc, .slice aba a.acc.length abc], .agg #[.slice bca b.cls.length bcc, .int .i64 b.width, .int .i64 b.start, .slice bna b.next.length bnc, .slice bba b.acc.length bbc]]) Try.func48 rfl rfl rfl ?_
  have H0 : UpG w [] w [] := UpG.nil w
  show W _ _ _ _ [(0, .agg #[.slice aca a.cls.length acc, .int .i64 a.width, .int .i64 a.start, .slice ana a.next.length anc, .slice aba a.acc.length abc]), (1, .agg #[.slice bca b.cls.length bcc, .int .i64 b.width, .int .i64 b.start, .slice bna b.next.length bnc, .slice bba b.acc.length bbc])] w
  refine W.seq ?_
  refine W.region ?_
  refine WL.op rfl (d_box rfl fun w1 u1 => ?_)
  have H1 : UpG w [] w1 [[blk w.heap.size #[.slice aca a.cls.length acc, .int .i64 a.width, .int .i64 a.start, .slice ana a.next.length anc, .slice aba a.acc.length abc] 25]] := H0.new' u1
  refine WL.op rfl (d_box rfl fun w2 u2 => ?_)
  have H2 : UpG w [] w2 [[blk w.heap.size #[.slice aca a.cls.length acc, .int .i64 a.width, .int .i64 a.start, .slice ana a.next.length anc, .slice aba a.acc.length abc] 25], [blk w1.heap.size #[.slice bca b.cls.length bcc, .int .i64 b.width, .int .i64 b.start, .slice bna b.next.length bnc, .slice bba b.acc.length bbc] 25]] := H1.new' u2
  refine WL.op rfl (d_assign rfl ?_)
  refine WL.op rfl (d_assign rfl ?_)
  refine WL.done (X.then_code ?_)
  refine W.seq ?_
  refine W.region ?_
  refine WL.op rfl (d_fieldAddrB fld25_2 rfl rfl ?_)
  refine WL.op rfl (d_loadB Try.underlying3 rfl rfl (H2.blk 0 rfl) rfl ?_)
  refine WL.op rfl (d_fieldAddrB fld25_2 rfl rfl ?_)
  refine WL.op rfl (d_loadB Try.underlying3 rfl rfl (H2.blk 1 rfl) rfl ?_)
  refine WL.op rfl (d_build (cs := #[.int .i64 a.start, .int .i64 b.start, .slice none 0 0]) rfl (by kernel_rfl) ?_)
  refine WL.op rfl (t_buildSlice (T := tyWy) (xs := ([(⟨a.start, b.start, none, 0, 0, []⟩ : WyD)] : List WyD)) (cs := #[.int .i64 a.start, .int .i64 b.start, .slice none 0 0]) rfl Try.underlying110 sz109 rfl rfl rfl rfl (by kernel_rfl) rfl rfl fun w3 u3 => ?_)
  have H3 : UpG w [] w3 [[blk w.heap.size #[.slice aca a.cls.length acc, .int .i64 a.width, .int .i64 a.start, .slice ana a.next.length anc, .slice aba a.acc.length abc] 25], [blk w1.heap.size #[.slice bca b.cls.length bcc, .int .i64 b.width, .int .i64 b.start, .slice bna b.next.length bnc, .slice bba b.acc.length bbc] 25], [rowT tyWy (.slice (some ⟨w2.heap.size, 0, none⟩) (([(⟨a.start, b.start, none, 0, 0, []⟩ : WyD)] : List WyD).length) (([(⟨a.start, b.start, none, 0, 0, []⟩ : WyD)] : List WyD).length)) 109 ([(⟨a.start, b.start, none, 0, 0, []⟩ : WyD)] : List WyD)]] := H2.new' u3
  refine WL.op rfl (d_assign rfl ?_)
  refine WL.done (X.then_code ?_)
  refine W.seq ?_
  refine W.seq ?_
  refine W.region ?_
  refine WL.op rfl (d_assign rfl ?_)
  refine WL.done (X.then_code ?_)
  refine W.block ?_
  have H4 : UpG w [] w3 [[blk w.heap.size #[.slice aca a.cls.length acc, .int .i64 a.width, .int .i64 a.start, .slice ana a.next.length anc, .slice aba a.acc.length abc] 25], [blk w1.heap.size #[.slice bca b.cls.length bcc, .int .i64 b.width, .int .i64 b.start, .slice bna b.next.length bnc, .slice bba b.acc.length bbc] 25], [rowT tyWy (.slice (some ⟨w2.heap.size, 0, none⟩) (([(⟨a.start, b.start, none, 0, 0, []⟩ : WyD)] : List WyD).length) (([(⟨a.start, b.start, none, 0, 0, []⟩ : WyD)] : List WyD).length)) 109 ([(⟨a.start, b.start, none, 0, 0, []⟩ : WyD)] : List WyD)], [manyF inWy.row ([] : List WyD)]] := H3.new' (Upd.manyNil inWy.row w3)
  have H5 : UpG w [] w3 [[blk w.heap.size #[.slice aca a.cls.length acc, .int .i64 a.width, .int .i64 a.start, .slice ana a.next.length anc, .slice aba a.acc.length abc] 25], [blk w1.heap.size #[.slice bca b.cls.length bcc, .int .i64 b.width, .int .i64 b.start, .slice bna b.next.length bnc, .slice bba b.acc.length bbc] 25], [rowT tyWy (.slice (some ⟨w2.heap.size, 0, none⟩) (([(⟨a.start, b.start, none, 0, 0, []⟩ : WyD)] : List WyD).length) (([(⟨a.start, b.start, none, 0, 0, []⟩ : WyD)] : List WyD).length)) 109 ([(⟨a.start, b.start, none, 0, 0, []⟩ : WyD)] : List WyD)], [manyF inWy.row ([] : List WyD)], [rowT (tyI .i64) (.slice none (([] : List Int).length) 0) 3 ([] : List Int)]] := H4.new' (Upd.nilRowT w3 (tyI .i64) 3)
  have H6 : UpG w [] w3 [[blk w.heap.size #[.slice aca a.cls.length acc, .int .i64 a.width, .int .i64 a.start, .slice ana a.next.length anc, .slice aba a.acc.length abc] 25], [blk w1.heap.size #[.slice bca b.cls.length bcc, .int .i64 b.width, .int .i64 b.start, .slice bna b.next.length bnc, .slice bba b.acc.length bbc] 25], [rowT tyWy (.slice (some ⟨w2.heap.size, 0, none⟩) (([(⟨a.start, b.start, none, 0, 0, []⟩ : WyD)] : List WyD).length) (([(⟨a.start, b.start, none, 0, 0, []⟩ : WyD)] : List WyD).length)) 109 ([(⟨a.start, b.start, none, 0, 0, []⟩ : WyD)] : List WyD)], [manyF inWy.row (([] : List WyD) ++ [(⟨a.start, b.start, none, 0, 0, []⟩ : WyD)])], []] := (UpG.absorb (f := inWy.row) ((⟨a.start, b.start, none, 0, 0, []⟩ : WyD) : WyD) H5 3 4 rfl rfl rfl).re rfl
  refine W.pick [7, 6, 5, 4, 3, 2] (Γ' := [(7, .int .i64 0), (6, .slice (some ⟨w2.heap.size, 0, none⟩) (([(⟨a.start, b.start, none, 0, 0, []⟩ : WyD)] : List WyD).length) (([(⟨a.start, b.start, none, 0, 0, []⟩ : WyD)] : List WyD).length)), (5, .bool false), (4, .slice none 0 0), (3, .pointer (some ⟨w1.heap.size, 0, none⟩)), (2, .pointer (some ⟨w.heap.size, 0, none⟩))]) rfl ?_
  refine W.loop (fun m Γ' w' => ∃ k : Nat, ∃ ls : List St4, ∃ ws : List WyD, ∃ wa : Option Addr, ∃ wc : Nat, Γ' = [(7, .int .i64 ((k : Nat) : Int)), (6, .slice wa ws.length wc), (5, .bool false), (4, .slice none 0 0), (3, .pointer (some ⟨w1.heap.size, 0, none⟩)), (2, .pointer (some ⟨w.heap.size, 0, none⟩))] ∧ UpG w [] w' [[blk w.heap.size #[.slice aca a.cls.length acc, .int .i64 a.width, .int .i64 a.start, .slice ana a.next.length anc, .slice aba a.acc.length abc] 25], [blk w1.heap.size #[.slice bca b.cls.length bcc, .int .i64 b.width, .int .i64 b.start, .slice bna b.next.length bnc, .slice bba b.acc.length bbc] 25], [rowT tyWy (.slice wa ws.length wc) 109 ws], [manyF inWy.row ws], []] ∧ (k < (a.acc.length * b.acc.length + 1)) ∧ (StI a b ls k) ∧ (WyI ls ws) ∧ (apLoop a b (symsN 259) (a.acc.length * b.acc.length + 1) 0 (startS a b) = apLoop a b (symsN 259) ((a.acc.length * b.acc.length + 1) - k) k ls) ∧ m = (a.acc.length * b.acc.length + 1) - k) ((a.acc.length * b.acc.length + 1) - 0) ⟨0, startS a b, ([(⟨a.start, b.start, none, 0, 0, []⟩ : WyD)] : List WyD), (some ⟨w2.heap.size, 0, none⟩), ([(⟨a.start, b.start, none, 0, 0, []⟩ : WyD)] : List WyD).length, rfl, (H6.re rfl), (by omega), (by exact StI.start hra hrb), (by exact WyI.start a b), (by rfl), rfl⟩ ?_
  rintro m1 Γ1 w4 ⟨k, ls, ws, wa, wc, rfl, H7, hk, hI, hW, hR, rfl⟩
  have hbd := hI.bound
  have hwl := hW.len
  refine W.seq ?_
  refine W.seq ?_
  refine W.region ?_
  refine WL.op rfl (d_move rfl ?_)
  refine WL.op rfl (d_move rfl ?_)
  refine WL.op rfl (d_lenS Try.underlying110 rfl ?_)
  refine WL.op rfl (d_cmp (decide (((k : Nat) : Int) < ((ws.length : Nat) : Int))) rfl rfl rfl ?_)
  refine WL.done (X.then_code ?_)
  refine W.ite (p := ((k : Nat) : Int) < ((ws.length : Nat) : Int)) rfl (fun c30 => ?_) (fun c30 => ?_)
  · skip
    refine W.skip (X.then_code ?_)
    refine W.seq ?_
    refine W.block ?_
    refine W.seq ?_
    refine W.region ?_
    refine WL.op rfl (d_move rfl ?_)
    refine WL.op rfl (d_move rfl ?_)
    refine WL.op rfl (t_addrN k (T := tyWy) rfl Try.underlying110 sz109 rfl rfl (H7.rdT 2 rfl) rfl (by omega) ?_)
    refine WL.op rfl (t_loadN k wy0 (T := tyWy) (us := [.int .i64 ((ws.getD k wy0).p), .int .i64 ((ws.getD k wy0).q), .slice ((ws.getD k wy0).a) ((ws.getD k wy0).n) ((ws.getD k wy0).c)]) rfl Try.underlying109 rfl sz109 rfl (H7.rdT 2 rfl) (by omega) rfl ?_)
    refine WL.op rfl (d_alloc sz109 fun w5 u4 => ?_)
    have H8 : UpG w [] w5 [[blk w.heap.size #[.slice aca a.cls.length acc, .int .i64 a.width, .int .i64 a.start, .slice ana a.next.length anc, .slice aba a.acc.length abc] 25], [blk w1.heap.size #[.slice bca b.cls.length bcc, .int .i64 b.width, .int .i64 b.start, .slice bna b.next.length bnc, .slice bba b.acc.length bbc] 25], [rowT tyWy (.slice wa ws.length wc) 109 ws], [manyF inWy.row ws], [], [blk w4.heap.size #[.int .i64 0, .int .i64 0, .slice none 0 0] 109]] := H7.new' u4
    refine WL.op0 (d_storeAB (us := [.int .i64 ((ws.getD k wy0).p), .int .i64 ((ws.getD k wy0).q), .slice ((ws.getD k wy0).a) ((ws.getD k wy0).n) ((ws.getD k wy0).c)]) (cs' := #[.int .i64 ((ws.getD k wy0).p), .int .i64 ((ws.getD k wy0).q), .slice ((ws.getD k wy0).a) ((ws.getD k wy0).n) ((ws.getD k wy0).c)]) sz109 rfl rfl rfl rfl (H8.blk 5 rfl) rfl rfl fun w6 u5 => ?_)
    have H9 : UpG w [] w6 [[blk w.heap.size #[.slice aca a.cls.length acc, .int .i64 a.width, .int .i64 a.start, .slice ana a.next.length anc, .slice aba a.acc.length abc] 25], [blk w1.heap.size #[.slice bca b.cls.length bcc, .int .i64 b.width, .int .i64 b.start, .slice bna b.next.length bnc, .slice bba b.acc.length bbc] 25], [rowT tyWy (.slice wa ws.length wc) 109 ws], [manyF inWy.row ws], [], [blk w4.heap.size #[.int .i64 ((ws.getD k wy0).p), .int .i64 ((ws.getD k wy0).q), .slice ((ws.getD k wy0).a) ((ws.getD k wy0).n) ((ws.getD k wy0).c)] 109]] := H8.on 5 rfl u5
    refine WL.done (X.then_code ?_)
    refine W.seq ?_
    refine W.seq ?_
    have hkl : k < ls.length := by omega
    have hrk := hI.rng k (by omega)
    have hwk := hW.val k (by omega)
    have hwn : (ws.getD k wy0).n = (ws.getD k wy0).w.length := RdT.len (Inn.Rd.get (Inn.own (H9.hpOf 3 rfl)) wy0 k (by omega))
    have hwb : (ws.getD k wy0).w.length ≤ k + 1 := by rw [hwk.2.2, wordS, List.length_reverse]; exact revW_len _ _ _
    have hub := Nat.mul_le_mul hia.1.2.2.2.2.1 hib.1.2.2.2.2.1
    have hlu : ls.length ≤ 4096 * 4096 := Nat.le_trans hI.bound hub
    refine W.regionD mixed (by kernel_rfl) fun hok1 w7 k1 => ?_
    have H10 : UpG w [] w7 [[blk w.heap.size #[.slice aca a.cls.length acc, .int .i64 a.width, .int .i64 a.start, .slice ana a.next.length anc, .slice aba a.acc.length abc] 25], [blk w1.heap.size #[.slice bca b.cls.length bcc, .int .i64 b.width, .int .i64 b.start, .slice bna b.next.length bnc, .slice bba b.acc.length bbc] 25], [rowT tyWy (.slice wa ws.length wc) 109 ws], [manyF inWy.row ws], [], [blk w4.heap.size #[.int .i64 ((ws.getD k wy0).p), .int .i64 ((ws.getD k wy0).q), .slice ((ws.getD k wy0).a) ((ws.getD k wy0).n) ((ws.getD k wy0).c)] 109]] := H9.kept k1
    refine WD.take hok1 0 (.pointer (some ⟨w.heap.size, 4, none⟩)) (fun _ => True) rfl rfl rfl rfl rfl trivial (.inl ⟨rfl, fun _ _ => d_fieldAddrB fld25_4 rfl rfl ⟨rfl, rfl⟩⟩) ?_
    refine WD.take hok1 1 (.slice aba a.acc.length abc) (fun w' => w'.heap[w.heap.size]? = some (.cells #[.slice aca a.cls.length acc, .int .i64 a.width, .int .i64 a.start, .slice ana a.next.length anc, .slice aba a.acc.length abc] 25 (0, 0))) rfl rfl rfl rfl rfl (H10.blk 0 rfl) (.inl ⟨rfl, fun _ hC => d_loadB Try.underlying23 rfl rfl hC rfl ⟨rfl, rfl⟩⟩) ?_
    refine WD.take hok1 2 (.pointer (some ⟨w4.heap.size, 0, none⟩)) (fun _ => True) rfl rfl rfl rfl rfl trivial (.inl ⟨rfl, fun _ _ => d_fieldAddrB fld109_0 rfl rfl ⟨rfl, rfl⟩⟩) ?_
    refine WD.take hok1 3 (.int .i64 ((ws.getD k wy0).p)) (fun w' => w'.heap[w4.heap.size]? = some (.cells #[.int .i64 ((ws.getD k wy0).p), .int .i64 ((ws.getD k wy0).q), .slice ((ws.getD k wy0).a) ((ws.getD k wy0).n) ((ws.getD k wy0).c)] 109 (0, 0))) rfl rfl rfl rfl rfl (H10.blk 5 rfl) (.inl ⟨rfl, fun _ hC => d_loadB Try.underlying3 rfl rfl hC rfl ⟨rfl, rfl⟩⟩) ?_
    refine WD.take hok1 4 (elemPtr (.slice aba a.acc.length abc) (((ws.getD k wy0).p).toNat)) (fun w' => RdT tyB w' (.slice aba a.acc.length abc) a.acc) rfl rfl rfl rfl rfl (rba.at H10) (.inl ⟨rfl, fun _ hC => t_addr1 (((ws.getD k wy0).p).toNat) (T := tyB) rfl Try.underlying23 sz4 rfl rfl hC (by omega) (by omega) ⟨rfl, rfl⟩⟩) ?_
    refine WD.take hok1 5 (.bool (a.acc.getD (((ws.getD k wy0).p).toNat) false)) (fun w' => RdT tyB w' (.slice aba a.acc.length abc) a.acc) rfl rfl rfl rfl rfl (rba.at H10) (.inl ⟨rfl, fun _ hC => t_load1 (((ws.getD k wy0).p).toNat) false (T := tyB) rfl Try.underlying4 rfl rfl hC (by omega) rfl ⟨rfl, rfl⟩⟩) ?_
    refine WD.take hok1 6 (.pointer (some ⟨w1.heap.size, 4, none⟩)) (fun _ => True) rfl rfl rfl rfl rfl trivial (.inl ⟨rfl, fun _ _ => d_fieldAddrB fld25_4 rfl rfl ⟨rfl, rfl⟩⟩) ?_
    refine WD.take hok1 7 (.slice bba b.acc.length bbc) (fun w' => w'.heap[w1.heap.size]? = some (.cells #[.slice bca b.cls.length bcc, .int .i64 b.width, .int .i64 b.start, .slice bna b.next.length bnc, .slice bba b.acc.length bbc] 25 (0, 0))) rfl rfl rfl rfl rfl (H10.blk 1 rfl) (.inl ⟨rfl, fun _ hC => d_loadB Try.underlying23 rfl rfl hC rfl ⟨rfl, rfl⟩⟩) ?_
    refine WD.take hok1 8 (.pointer (some ⟨w4.heap.size, 1, none⟩)) (fun _ => True) rfl rfl rfl rfl rfl trivial (.inl ⟨rfl, fun _ _ => d_fieldAddrB fld109_1 rfl rfl ⟨rfl, rfl⟩⟩) ?_
    refine WD.take hok1 9 (.int .i64 ((ws.getD k wy0).q)) (fun w' => w'.heap[w4.heap.size]? = some (.cells #[.int .i64 ((ws.getD k wy0).p), .int .i64 ((ws.getD k wy0).q), .slice ((ws.getD k wy0).a) ((ws.getD k wy0).n) ((ws.getD k wy0).c)] 109 (0, 0))) rfl rfl rfl rfl rfl (H10.blk 5 rfl) (.inl ⟨rfl, fun _ hC => d_loadB Try.underlying3 rfl rfl hC rfl ⟨rfl, rfl⟩⟩) ?_
    refine WD.take hok1 10 (elemPtr (.slice bba b.acc.length bbc) (((ws.getD k wy0).q).toNat)) (fun w' => RdT tyB w' (.slice bba b.acc.length bbc) b.acc) rfl rfl rfl rfl rfl (rbb.at H10) (.inl ⟨rfl, fun _ hC => t_addr1 (((ws.getD k wy0).q).toNat) (T := tyB) rfl Try.underlying23 sz4 rfl rfl hC (by omega) (by omega) ⟨rfl, rfl⟩⟩) ?_
    refine WD.take hok1 11 (.bool (b.acc.getD (((ws.getD k wy0).q).toNat) false)) (fun w' => RdT tyB w' (.slice bba b.acc.length bbc) b.acc) rfl rfl rfl rfl rfl (rbb.at H10) (.inl ⟨rfl, fun _ hC => t_load1 (((ws.getD k wy0).q).toNat) false (T := tyB) rfl Try.underlying4 rfl rfl hC (by omega) rfl ⟨rfl, rfl⟩⟩) ?_
    refine WD.take hok1 12 (.bool (decide ((a.acc.getD (((ws.getD k wy0).p).toNat) false) ≠ (b.acc.getD (((ws.getD k wy0).q).toNat) false)))) (fun _ => True) rfl rfl rfl rfl rfl trivial (.inl ⟨rfl, fun _ _ => d_boolne Try.underlying4 rfl rfl ⟨rfl, rfl⟩⟩) ?_
    refine WD.done hok1 rfl (X.then_code ?_)
    refine W.ite (p := (a.acc.getD (((ws.getD k wy0).p).toNat) false) ≠ (b.acc.getD (((ws.getD k wy0).q).toNat) false)) rfl (fun c32 => ?_) (fun c32 => ?_)
    · skip
      refine W.seq ?_
      refine W.region ?_
      refine WL.op rfl (d_fieldAddrB fld109_2 rfl rfl ?_)
      refine WL.op rfl (d_loadB Try.underlying22 rfl rfl (H10.blk 5 rfl) rfl ?_)
      refine WL.op rfl (d_assign rfl ?_)
      refine WL.op rfl (d_assign rfl ?_)
      refine WL.done (X.then_code ?_)
      refine W.ret (X.then_ret (X.block_ret (X.then_ret (X.then_ret (X.block_ret (X.then_ret (X.ret2 rfl rfl rfl ?_)))))))
      have ho := wy_hit hra hrb hR hk hkl (by rw [← hwk.1, ← hwk.2.1]; exact c32)
      have hv : (ws.getD k wy0).w = (apartO a b).getD [] := by rw [ho, hwk.2.2]; rfl
      have hok : true = (apartO a b).isSome := by rw [ho]; rfl
      have ht9 := H10.takeOut (f := inWy.row) wy0 3 k rfl (by omega)
      have ho9 : Upd w [] w7 [rowT (tyI .i64) (.slice (ws.getD k wy0).a (ws.getD k wy0).n (ws.getD k wy0).c) 3 (ws.getD k wy0).w] := ht9.one 6 rfl
      rw [hwn] at ho9
      exact ⟨(ws.getD k wy0).a, (ws.getD k wy0).w, (ws.getD k wy0).c, true, (by show Value.tuple #[Value.slice (ws.getD k wy0).a (ws.getD k wy0).n (ws.getD k wy0).c, Value.bool true] = _; rw [hwn]), ho9, hv, hok⟩
    · skip
      refine W.skip (X.then_code ?_)
      refine W.seq ?_
      refine W.region ?_
      refine WL.op rfl (d_assign rfl ?_)
      refine WL.done (X.then_code ?_)
      refine W.block ?_
      refine W.pick [9, 8, 7, 6, 5, 4, 3, 2] (Γ' := [(9, .int .i64 0), (8, .pointer (some ⟨w4.heap.size, 0, none⟩)), (7, .int .i64 ((k : Nat) : Int)), (6, .slice wa ws.length wc), (5, .bool false), (4, .slice none 0 0), (3, .pointer (some ⟨w1.heap.size, 0, none⟩)), (2, .pointer (some ⟨w.heap.size, 0, none⟩))]) rfl ?_
      refine W.loop (fun m Γ' w' => ∃ j : Nat, ∃ ot : List WyD, ∃ ta : Option Addr, ∃ tc : Nat, Γ' = [(9, .int .i64 ((j : Nat) : Int)), (8, .pointer (some ⟨w4.heap.size, 0, none⟩)), (7, .int .i64 ((k : Nat) : Int)), (6, .slice ta ot.length tc), (5, .bool false), (4, .slice none 0 0), (3, .pointer (some ⟨w1.heap.size, 0, none⟩)), (2, .pointer (some ⟨w.heap.size, 0, none⟩))] ∧ UpG w [] w' [[blk w.heap.size #[.slice aca a.cls.length acc, .int .i64 a.width, .int .i64 a.start, .slice ana a.next.length anc, .slice aba a.acc.length abc] 25], [blk w1.heap.size #[.slice bca b.cls.length bcc, .int .i64 b.width, .int .i64 b.start, .slice bna b.next.length bnc, .slice bba b.acc.length bbc] 25], [rowT tyWy (.slice ta ot.length tc) 109 ot], [manyF inWy.row ot], [], [blk w4.heap.size #[.int .i64 ((ws.getD k wy0).p), .int .i64 ((ws.getD k wy0).q), .slice ((ws.getD k wy0).a) ((ws.getD k wy0).n) ((ws.getD k wy0).c)] 109]] ∧ (j ≤ 259) ∧ (WyI ((symsN j).foldl (addS a b (ls.getD k st0) k) ls) ot) ∧ (StI a b ((symsN j).foldl (addS a b (ls.getD k st0) k) ls) k) ∧ (∀ p, p ∈ ws → p ∈ ot) ∧ m = 259 - j) (259 - 0) ⟨0, ws, wa, wc, rfl, H10, (by first | assumption | omega | simp), (by exact hW), (by exact hI), (by exact fun p hp => hp), rfl⟩ ?_
      rintro m2 Γ2 w8 ⟨j, ot, ta, tc, rfl, H11, hj, hV, hJ, hsub, rfl⟩
      have hvl := hV.len
      refine W.seq ?_
      refine W.seq ?_
      refine W.region ?_
      refine WL.op rfl (d_move rfl ?_)
      refine WL.op rfl (d_cmp (decide (((j : Nat) : Int) < (259 : Int))) rfl rfl rfl ?_)
      refine WL.done (X.then_code ?_)
      refine W.ite (p := ((j : Nat) : Int) < (259 : Int)) rfl (fun c35 => ?_) (fun c35 => ?_)
      · skip
        refine W.skip (X.then_code ?_)
        refine W.seq ?_
        refine W.block ?_
        refine W.seq ?_
        have hju := Nat.le_trans hJ.bound hub
        have hol := hV.len
        refine W.regionD mixed (by kernel_rfl) fun hok2 w9 k2 => ?_
        have H12 : UpG w [] w9 [[blk w.heap.size #[.slice aca a.cls.length acc, .int .i64 a.width, .int .i64 a.start, .slice ana a.next.length anc, .slice aba a.acc.length abc] 25], [blk w1.heap.size #[.slice bca b.cls.length bcc, .int .i64 b.width, .int .i64 b.start, .slice bna b.next.length bnc, .slice bba b.acc.length bbc] 25], [rowT tyWy (.slice ta ot.length tc) 109 ot], [manyF inWy.row ot], [], [blk w4.heap.size #[.int .i64 ((ws.getD k wy0).p), .int .i64 ((ws.getD k wy0).q), .slice ((ws.getD k wy0).a) ((ws.getD k wy0).n) ((ws.getD k wy0).c)] 109]] := H11.kept k2
        refine WD.take hok2 0 (.agg #[.slice aca a.cls.length acc, .int .i64 a.width, .int .i64 a.start, .slice ana a.next.length anc, .slice aba a.acc.length abc]) (fun w' => w'.heap[w.heap.size]? = some (.cells #[.slice aca a.cls.length acc, .int .i64 a.width, .int .i64 a.start, .slice ana a.next.length anc, .slice aba a.acc.length abc] 25 (0, 0))) rfl rfl rfl rfl rfl (H12.blk 0 rfl) (.inl ⟨rfl, fun _ hC => d_loadAB [.slice aca a.cls.length acc, .int .i64 a.width, .int .i64 a.start, .slice ana a.next.length anc, .slice aba a.acc.length abc] Try.underlying25 rfl sz25 rfl hC rfl rfl ⟨rfl, rfl⟩⟩) ?_
        refine WD.take hok2 1 (.pointer (some ⟨w4.heap.size, 0, none⟩)) (fun _ => True) rfl rfl rfl rfl rfl trivial (.inl ⟨rfl, fun _ _ => d_fieldAddrB fld109_0 rfl rfl ⟨rfl, rfl⟩⟩) ?_
        refine WD.take hok2 2 (.int .i64 ((ws.getD k wy0).p)) (fun w' => w'.heap[w4.heap.size]? = some (.cells #[.int .i64 ((ws.getD k wy0).p), .int .i64 ((ws.getD k wy0).q), .slice ((ws.getD k wy0).a) ((ws.getD k wy0).n) ((ws.getD k wy0).c)] 109 (0, 0))) rfl rfl rfl rfl rfl (H12.blk 5 rfl) (.inl ⟨rfl, fun _ hC => d_loadB Try.underlying3 rfl rfl hC rfl ⟨rfl, rfl⟩⟩) ?_
        refine WD.take hok2 3 (.int .i64 ((j : Nat) : Int)) (fun _ => True) rfl rfl rfl rfl rfl trivial (.inl ⟨rfl, fun _ _ => d_move rfl ⟨rfl, rfl⟩⟩) ?_
        refine WD.take hok2 5 (.agg #[.slice bca b.cls.length bcc, .int .i64 b.width, .int .i64 b.start, .slice bna b.next.length bnc, .slice bba b.acc.length bbc]) (fun w' => w'.heap[w1.heap.size]? = some (.cells #[.slice bca b.cls.length bcc, .int .i64 b.width, .int .i64 b.start, .slice bna b.next.length bnc, .slice bba b.acc.length bbc] 25 (0, 0))) rfl rfl rfl rfl rfl (H12.blk 1 rfl) (.inl ⟨rfl, fun _ hC => d_loadAB [.slice bca b.cls.length bcc, .int .i64 b.width, .int .i64 b.start, .slice bna b.next.length bnc, .slice bba b.acc.length bbc] Try.underlying25 rfl sz25 rfl hC rfl rfl ⟨rfl, rfl⟩⟩) ?_
        refine WD.take hok2 6 (.pointer (some ⟨w4.heap.size, 1, none⟩)) (fun _ => True) rfl rfl rfl rfl rfl trivial (.inl ⟨rfl, fun _ _ => d_fieldAddrB fld109_1 rfl rfl ⟨rfl, rfl⟩⟩) ?_
        refine WD.take hok2 7 (.int .i64 ((ws.getD k wy0).q)) (fun w' => w'.heap[w4.heap.size]? = some (.cells #[.int .i64 ((ws.getD k wy0).p), .int .i64 ((ws.getD k wy0).q), .slice ((ws.getD k wy0).a) ((ws.getD k wy0).n) ((ws.getD k wy0).c)] 109 (0, 0))) rfl rfl rfl rfl rfl (H12.blk 5 rfl) (.inl ⟨rfl, fun _ hC => d_loadB Try.underlying3 rfl rfl hC rfl ⟨rfl, rfl⟩⟩) ?_
        refine WD.take hok2 8 (.int .i64 ((j : Nat) : Int)) (fun _ => True) rfl rfl rfl rfl rfl trivial (.inl ⟨rfl, fun _ _ => d_move rfl ⟨rfl, rfl⟩⟩) ?_
        refine WD.loud hok2 4 rfl (⟨_, [⟨8, .int .i64 ((j : Nat) : Int), (fun _ => True)⟩, ⟨7, .int .i64 ((ws.getD k wy0).q), (fun w' => w'.heap[w4.heap.size]? = some (.cells #[.int .i64 ((ws.getD k wy0).p), .int .i64 ((ws.getD k wy0).q), .slice ((ws.getD k wy0).a) ((ws.getD k wy0).n) ((ws.getD k wy0).c)] 109 (0, 0)))⟩, ⟨6, .pointer (some ⟨w4.heap.size, 1, none⟩), (fun _ => True)⟩, ⟨5, .agg #[.slice bca b.cls.length bcc, .int .i64 b.width, .int .i64 b.start, .slice bna b.next.length bnc, .slice bba b.acc.length bbc], (fun w' => w'.heap[w1.heap.size]? = some (.cells #[.slice bca b.cls.length bcc, .int .i64 b.width, .int .i64 b.start, .slice bna b.next.length bnc, .slice bba b.acc.length bbc] 25 (0, 0)))⟩], rfl, rfl, rfl, rfl, rfl, rfl, d_call ok81 rfl (Ret.calls (go11_any a aca ana aba acc anc abc ((ws.getD k wy0).p) (((ws.getD k wy0).p).toNat) ((j : Nat) : Int) w9 (rca.at H12) (rna.at H12) (rba.at H12) (by omega) (by first | exact hra | exact hrb) (by omega) (by omega)) fun _ w10 p1 => ?_)⟩)
        obtain ⟨rfl, u6⟩ := p1
        have H13 : UpG w [] w10 [[blk w.heap.size #[.slice aca a.cls.length acc, .int .i64 a.width, .int .i64 a.start, .slice ana a.next.length anc, .slice aba a.acc.length abc] 25], [blk w1.heap.size #[.slice bca b.cls.length bcc, .int .i64 b.width, .int .i64 b.start, .slice bna b.next.length bnc, .slice bba b.acc.length bbc] 25], [rowT tyWy (.slice ta ot.length tc) 109 ot], [manyF inWy.row ot], [], [blk w4.heap.size #[.int .i64 ((ws.getD k wy0).p), .int .i64 ((ws.getD k wy0).q), .slice ((ws.getD k wy0).a) ((ws.getD k wy0).n) ((ws.getD k wy0).c)] 109]] := H12.call u6
        refine ⟨⟨trivial, (H13.blk 5 rfl), trivial, (H13.blk 1 rfl), trivial⟩, ?_⟩
        refine WD.loud hok2 9 rfl (⟨_, [], rfl, rfl, rfl, rfl, rfl, rfl, d_call ok81 rfl (Ret.calls (go11_any b bca bna bba bcc bnc bbc ((ws.getD k wy0).q) (((ws.getD k wy0).q).toNat) ((j : Nat) : Int) w10 (rcb.at H13) (rnb.at H13) (rbb.at H13) (by omega) (by first | exact hra | exact hrb) (by omega) (by omega)) fun _ w11 p2 => ?_)⟩)
        obtain ⟨rfl, u7⟩ := p2
        have H14 : UpG w [] w11 [[blk w.heap.size #[.slice aca a.cls.length acc, .int .i64 a.width, .int .i64 a.start, .slice ana a.next.length anc, .slice aba a.acc.length abc] 25], [blk w1.heap.size #[.slice bca b.cls.length bcc, .int .i64 b.width, .int .i64 b.start, .slice bna b.next.length bnc, .slice bba b.acc.length bbc] 25], [rowT tyWy (.slice ta ot.length tc) 109 ot], [manyF inWy.row ot], [], [blk w4.heap.size #[.int .i64 ((ws.getD k wy0).p), .int .i64 ((ws.getD k wy0).q), .slice ((ws.getD k wy0).a) ((ws.getD k wy0).n) ((ws.getD k wy0).c)] 109]] := H13.call u7
        refine ⟨trivial, ?_⟩
        refine WD.take hok2 10 (.int .i64 (((dN a (((ws.getD k wy0).p).toNat) ((j : Nat) : Int)) : Nat) : Int)) (fun _ => True) rfl rfl rfl rfl rfl trivial (.inl ⟨rfl, fun _ _ => d_assign rfl ⟨rfl, rfl⟩⟩) ?_
        refine WD.take hok2 11 (.int .i64 (((dN b (((ws.getD k wy0).q).toNat) ((j : Nat) : Int)) : Nat) : Int)) (fun _ => True) rfl rfl rfl rfl rfl trivial (.inl ⟨rfl, fun _ _ => d_assign rfl ⟨rfl, rfl⟩⟩) ?_
        refine WD.done hok2 rfl (X.then_code ?_)
        refine W.seq ?_
        refine W.region ?_
        refine WL.op rfl (d_move rfl ?_)
        refine WL.op rfl (d_move rfl ?_)
        refine WL.op rfl (d_move rfl ?_)
        refine WL.op rfl (d_call ok82 rfl (Ret.calls (among_any ta ot tc (((dN a (((ws.getD k wy0).p).toNat) ((j : Nat) : Int)) : Nat) : Int) (((dN b (((ws.getD k wy0).q).toNat) ((j : Nat) : Int)) : Nat) : Int) w11 (H14.rdT 2 rfl) (Inn.own (H14.hpOf 3 rfl)) ) fun _ w12 p3 => ?_))
        obtain ⟨rfl, u8⟩ := p3
        have H15 : UpG w [] w12 [[blk w.heap.size #[.slice aca a.cls.length acc, .int .i64 a.width, .int .i64 a.start, .slice ana a.next.length anc, .slice aba a.acc.length abc] 25], [blk w1.heap.size #[.slice bca b.cls.length bcc, .int .i64 b.width, .int .i64 b.start, .slice bna b.next.length bnc, .slice bba b.acc.length bbc] 25], [rowT tyWy (.slice ta ot.length tc) 109 ot], [manyF inWy.row ot], [], [blk w4.heap.size #[.int .i64 ((ws.getD k wy0).p), .int .i64 ((ws.getD k wy0).q), .slice ((ws.getD k wy0).a) ((ws.getD k wy0).n) ((ws.getD k wy0).c)] 109]] := H14.call u8
        refine WL.op rfl (d_notB rfl ?_)
        refine WL.done (X.then_code ?_)
        refine W.iteB (b := !(amongB ot (((dN a (((ws.getD k wy0).p).toNat) ((j : Nat) : Int)) : Nat) : Int) (((dN b (((ws.getD k wy0).q).toNat) ((j : Nat) : Int)) : Nat) : Int))) rfl (fun c37 => ?_) (fun c37 => ?_)
        · skip
          refine W.region ?_
          refine WL.op rfl (d_move rfl ?_)
          refine WL.op rfl (d_move rfl ?_)
          refine WL.op rfl (d_move rfl ?_)
          refine WL.op rfl (t_buildSlice0 (T := (tyI .i64)) rfl Try.underlying22 sz3 fun w13 u9 => ?_)
          have H16 : UpG w [] w13 [[blk w.heap.size #[.slice aca a.cls.length acc, .int .i64 a.width, .int .i64 a.start, .slice ana a.next.length anc, .slice aba a.acc.length abc] 25], [blk w1.heap.size #[.slice bca b.cls.length bcc, .int .i64 b.width, .int .i64 b.start, .slice bna b.next.length bnc, .slice bba b.acc.length bbc] 25], [rowT tyWy (.slice ta ot.length tc) 109 ot], [manyF inWy.row ot], [], [blk w4.heap.size #[.int .i64 ((ws.getD k wy0).p), .int .i64 ((ws.getD k wy0).q), .slice ((ws.getD k wy0).a) ((ws.getD k wy0).n) ((ws.getD k wy0).c)] 109], [rowT (tyI .i64) (.slice (some ⟨w12.heap.size, 0, none⟩) (([] : List Int).length) 0) 3 ([] : List Int)]] := H15.new' u9
          refine WL.op rfl (d_fieldAddrB fld109_2 rfl rfl ?_)
          refine WL.op rfl (d_loadB Try.underlying22 rfl rfl (H16.blk 5 rfl) rfl ?_)
          refine WL.op rfl (t_appendN (T := (tyI .i64)) (xs := ([] : List Int)) (ys := ((ws.getD k wy0).w)) rfl Try.underlying22 sz3 rfl rfl rfl rfl (H16.ownT 6 rfl) (show RdT (tyI .i64) w13 (.slice ((ws.getD k wy0).a) ((ws.getD k wy0).n) ((ws.getD k wy0).c)) ((ws.getD k wy0).w) from (show inWy.Rd w13 ws from fun p hp => (by first | exact Inn.own (H16.hpOf 3 rfl) p (hsub p hp) | exact Inn.own (H16.hpOf 2 rfl) p (hsub p hp) | exact Inn.own (H16.hpOf 4 rfl) p (hsub p hp))).get wy0 k (by omega)) (by simp only [List.length_nil, List.nil_append, List.length_append, List.length_cons, List.length_singleton, Nat.zero_add]; omega) (by simp only [List.length_nil, List.nil_append, List.length_append, List.length_cons, List.length_singleton, Nat.zero_add]; omega) fun a1 c1 w14 u10 => ?_)
          have H17 : UpG w [] w14 [[blk w.heap.size #[.slice aca a.cls.length acc, .int .i64 a.width, .int .i64 a.start, .slice ana a.next.length anc, .slice aba a.acc.length abc] 25], [blk w1.heap.size #[.slice bca b.cls.length bcc, .int .i64 b.width, .int .i64 b.start, .slice bna b.next.length bnc, .slice bba b.acc.length bbc] 25], [rowT tyWy (.slice ta ot.length tc) 109 ot], [manyF inWy.row ot], [], [blk w4.heap.size #[.int .i64 ((ws.getD k wy0).p), .int .i64 ((ws.getD k wy0).q), .slice ((ws.getD k wy0).a) ((ws.getD k wy0).n) ((ws.getD k wy0).c)] 109], [rowT (tyI .i64) (.slice a1 ((([] : List Int) ++ ((ws.getD k wy0).w)).length) c1) 3 (([] : List Int) ++ ((ws.getD k wy0).w))]] := H16.on 6 rfl u10
          refine WL.op rfl (d_move rfl ?_)
          refine WL.op rfl (t_buildSlice (T := (tyI .i64)) (xs := [((j : Nat) : Int)]) (cs := #[.int .i64 ((j : Nat) : Int)]) rfl Try.underlying22 sz3 rfl rfl rfl rfl (by kernel_rfl) rfl rfl fun w15 u11 => ?_)
          have H18 : UpG w [] w15 [[blk w.heap.size #[.slice aca a.cls.length acc, .int .i64 a.width, .int .i64 a.start, .slice ana a.next.length anc, .slice aba a.acc.length abc] 25], [blk w1.heap.size #[.slice bca b.cls.length bcc, .int .i64 b.width, .int .i64 b.start, .slice bna b.next.length bnc, .slice bba b.acc.length bbc] 25], [rowT tyWy (.slice ta ot.length tc) 109 ot], [manyF inWy.row ot], [], [blk w4.heap.size #[.int .i64 ((ws.getD k wy0).p), .int .i64 ((ws.getD k wy0).q), .slice ((ws.getD k wy0).a) ((ws.getD k wy0).n) ((ws.getD k wy0).c)] 109], [rowT (tyI .i64) (.slice a1 ((([] : List Int) ++ ((ws.getD k wy0).w)).length) c1) 3 (([] : List Int) ++ ((ws.getD k wy0).w))], [rowT (tyI .i64) (.slice (some ⟨w14.heap.size, 0, none⟩) ([((j : Nat) : Int)].length) ([((j : Nat) : Int)].length)) 3 [((j : Nat) : Int)]]] := H17.new' u11
          refine WL.op rfl (t_append (T := (tyI .i64)) (xs := (([] : List Int) ++ ((ws.getD k wy0).w))) (ys := [((j : Nat) : Int)]) rfl Try.underlying22 sz3 rfl rfl rfl (H18.ownT 6 rfl) (H18.rdT 7 rfl) (by simp only [List.length_nil, List.nil_append, List.length_append, List.length_cons, List.length_singleton, Nat.zero_add]; omega) (by simp only [List.length_nil, List.nil_append, List.length_append, List.length_cons, List.length_singleton, Nat.zero_add]; omega) fun a2 c2 w16 u12 => ?_)
          have H19 : UpG w [] w16 [[blk w.heap.size #[.slice aca a.cls.length acc, .int .i64 a.width, .int .i64 a.start, .slice ana a.next.length anc, .slice aba a.acc.length abc] 25], [blk w1.heap.size #[.slice bca b.cls.length bcc, .int .i64 b.width, .int .i64 b.start, .slice bna b.next.length bnc, .slice bba b.acc.length bbc] 25], [rowT tyWy (.slice ta ot.length tc) 109 ot], [manyF inWy.row ot], [], [blk w4.heap.size #[.int .i64 ((ws.getD k wy0).p), .int .i64 ((ws.getD k wy0).q), .slice ((ws.getD k wy0).a) ((ws.getD k wy0).n) ((ws.getD k wy0).c)] 109], [rowT (tyI .i64) (.slice a2 (((([] : List Int) ++ ((ws.getD k wy0).w)) ++ [((j : Nat) : Int)]).length) c2) 3 ((([] : List Int) ++ ((ws.getD k wy0).w)) ++ [((j : Nat) : Int)])], []] := (H18.on 6 rfl u12).drop 7
          refine WL.op rfl (d_build (cs := #[.int .i64 (((dN a (((ws.getD k wy0).p).toNat) ((j : Nat) : Int)) : Nat) : Int), .int .i64 (((dN b (((ws.getD k wy0).q).toNat) ((j : Nat) : Int)) : Nat) : Int), .slice a2 (((([] : List Int) ++ ((ws.getD k wy0).w)) ++ [((j : Nat) : Int)]).length) c2]) rfl (by kernel_rfl) ?_)
          refine WL.op rfl (t_buildSlice (T := tyWy) (xs := ([(⟨(((dN a (((ws.getD k wy0).p).toNat) ((j : Nat) : Int)) : Nat) : Int), (((dN b (((ws.getD k wy0).q).toNat) ((j : Nat) : Int)) : Nat) : Int), a2, ((([] : List Int) ++ ((ws.getD k wy0).w)) ++ [((j : Nat) : Int)]).length, c2, (([] : List Int) ++ ((ws.getD k wy0).w)) ++ [((j : Nat) : Int)]⟩ : WyD)] : List WyD)) (cs := #[.int .i64 (((dN a (((ws.getD k wy0).p).toNat) ((j : Nat) : Int)) : Nat) : Int), .int .i64 (((dN b (((ws.getD k wy0).q).toNat) ((j : Nat) : Int)) : Nat) : Int), .slice a2 (((([] : List Int) ++ ((ws.getD k wy0).w)) ++ [((j : Nat) : Int)]).length) c2]) rfl Try.underlying110 sz109 rfl rfl rfl rfl (by kernel_rfl) rfl rfl fun w17 u13 => ?_)
          have H20 : UpG w [] w17 [[blk w.heap.size #[.slice aca a.cls.length acc, .int .i64 a.width, .int .i64 a.start, .slice ana a.next.length anc, .slice aba a.acc.length abc] 25], [blk w1.heap.size #[.slice bca b.cls.length bcc, .int .i64 b.width, .int .i64 b.start, .slice bna b.next.length bnc, .slice bba b.acc.length bbc] 25], [rowT tyWy (.slice ta ot.length tc) 109 ot], [manyF inWy.row ot], [], [blk w4.heap.size #[.int .i64 ((ws.getD k wy0).p), .int .i64 ((ws.getD k wy0).q), .slice ((ws.getD k wy0).a) ((ws.getD k wy0).n) ((ws.getD k wy0).c)] 109], [rowT (tyI .i64) (.slice a2 (((([] : List Int) ++ ((ws.getD k wy0).w)) ++ [((j : Nat) : Int)]).length) c2) 3 ((([] : List Int) ++ ((ws.getD k wy0).w)) ++ [((j : Nat) : Int)])], [], [rowT tyWy (.slice (some ⟨w16.heap.size, 0, none⟩) (([(⟨(((dN a (((ws.getD k wy0).p).toNat) ((j : Nat) : Int)) : Nat) : Int), (((dN b (((ws.getD k wy0).q).toNat) ((j : Nat) : Int)) : Nat) : Int), a2, ((([] : List Int) ++ ((ws.getD k wy0).w)) ++ [((j : Nat) : Int)]).length, c2, (([] : List Int) ++ ((ws.getD k wy0).w)) ++ [((j : Nat) : Int)]⟩ : WyD)] : List WyD).length) (([(⟨(((dN a (((ws.getD k wy0).p).toNat) ((j : Nat) : Int)) : Nat) : Int), (((dN b (((ws.getD k wy0).q).toNat) ((j : Nat) : Int)) : Nat) : Int), a2, ((([] : List Int) ++ ((ws.getD k wy0).w)) ++ [((j : Nat) : Int)]).length, c2, (([] : List Int) ++ ((ws.getD k wy0).w)) ++ [((j : Nat) : Int)]⟩ : WyD)] : List WyD).length)) 109 ([(⟨(((dN a (((ws.getD k wy0).p).toNat) ((j : Nat) : Int)) : Nat) : Int), (((dN b (((ws.getD k wy0).q).toNat) ((j : Nat) : Int)) : Nat) : Int), a2, ((([] : List Int) ++ ((ws.getD k wy0).w)) ++ [((j : Nat) : Int)]).length, c2, (([] : List Int) ++ ((ws.getD k wy0).w)) ++ [((j : Nat) : Int)]⟩ : WyD)] : List WyD)]] := H19.new' u13
          refine WL.op rfl (t_append (T := tyWy) (xs := ot) (ys := ([(⟨(((dN a (((ws.getD k wy0).p).toNat) ((j : Nat) : Int)) : Nat) : Int), (((dN b (((ws.getD k wy0).q).toNat) ((j : Nat) : Int)) : Nat) : Int), a2, ((([] : List Int) ++ ((ws.getD k wy0).w)) ++ [((j : Nat) : Int)]).length, c2, (([] : List Int) ++ ((ws.getD k wy0).w)) ++ [((j : Nat) : Int)]⟩ : WyD)] : List WyD)) rfl Try.underlying110 sz109 rfl rfl rfl (H20.ownT 2 rfl) (H20.rdT 8 rfl) (by simp only [List.length_nil, List.nil_append, List.length_append, List.length_cons, List.length_singleton, Nat.zero_add]; omega) (by simp only [List.length_nil, List.nil_append, List.length_append, List.length_cons, List.length_singleton, Nat.zero_add]; omega) fun a3 c3 w18 u14 => ?_)
          have H21 : UpG w [] w18 [[blk w.heap.size #[.slice aca a.cls.length acc, .int .i64 a.width, .int .i64 a.start, .slice ana a.next.length anc, .slice aba a.acc.length abc] 25], [blk w1.heap.size #[.slice bca b.cls.length bcc, .int .i64 b.width, .int .i64 b.start, .slice bna b.next.length bnc, .slice bba b.acc.length bbc] 25], [rowT tyWy (.slice a3 ((ot ++ ([(⟨(((dN a (((ws.getD k wy0).p).toNat) ((j : Nat) : Int)) : Nat) : Int), (((dN b (((ws.getD k wy0).q).toNat) ((j : Nat) : Int)) : Nat) : Int), a2, ((([] : List Int) ++ ((ws.getD k wy0).w)) ++ [((j : Nat) : Int)]).length, c2, (([] : List Int) ++ ((ws.getD k wy0).w)) ++ [((j : Nat) : Int)]⟩ : WyD)] : List WyD)).length) c3) 109 (ot ++ ([(⟨(((dN a (((ws.getD k wy0).p).toNat) ((j : Nat) : Int)) : Nat) : Int), (((dN b (((ws.getD k wy0).q).toNat) ((j : Nat) : Int)) : Nat) : Int), a2, ((([] : List Int) ++ ((ws.getD k wy0).w)) ++ [((j : Nat) : Int)]).length, c2, (([] : List Int) ++ ((ws.getD k wy0).w)) ++ [((j : Nat) : Int)]⟩ : WyD)] : List WyD))], [manyF inWy.row ot], [], [blk w4.heap.size #[.int .i64 ((ws.getD k wy0).p), .int .i64 ((ws.getD k wy0).q), .slice ((ws.getD k wy0).a) ((ws.getD k wy0).n) ((ws.getD k wy0).c)] 109], [rowT (tyI .i64) (.slice a2 (((([] : List Int) ++ ((ws.getD k wy0).w)) ++ [((j : Nat) : Int)]).length) c2) 3 ((([] : List Int) ++ ((ws.getD k wy0).w)) ++ [((j : Nat) : Int)])], [], []] := (H20.on 2 rfl u14).drop 8
          have H22 : UpG w [] w18 [[blk w.heap.size #[.slice aca a.cls.length acc, .int .i64 a.width, .int .i64 a.start, .slice ana a.next.length anc, .slice aba a.acc.length abc] 25], [blk w1.heap.size #[.slice bca b.cls.length bcc, .int .i64 b.width, .int .i64 b.start, .slice bna b.next.length bnc, .slice bba b.acc.length bbc] 25], [rowT tyWy (.slice a3 ((ot ++ ([(⟨(((dN a (((ws.getD k wy0).p).toNat) ((j : Nat) : Int)) : Nat) : Int), (((dN b (((ws.getD k wy0).q).toNat) ((j : Nat) : Int)) : Nat) : Int), a2, ((([] : List Int) ++ ((ws.getD k wy0).w)) ++ [((j : Nat) : Int)]).length, c2, (([] : List Int) ++ ((ws.getD k wy0).w)) ++ [((j : Nat) : Int)]⟩ : WyD)] : List WyD)).length) c3) 109 (ot ++ ([(⟨(((dN a (((ws.getD k wy0).p).toNat) ((j : Nat) : Int)) : Nat) : Int), (((dN b (((ws.getD k wy0).q).toNat) ((j : Nat) : Int)) : Nat) : Int), a2, ((([] : List Int) ++ ((ws.getD k wy0).w)) ++ [((j : Nat) : Int)]).length, c2, (([] : List Int) ++ ((ws.getD k wy0).w)) ++ [((j : Nat) : Int)]⟩ : WyD)] : List WyD))], [manyF inWy.row (ot ++ [(⟨(((dN a (((ws.getD k wy0).p).toNat) ((j : Nat) : Int)) : Nat) : Int), (((dN b (((ws.getD k wy0).q).toNat) ((j : Nat) : Int)) : Nat) : Int), a2, ((([] : List Int) ++ ((ws.getD k wy0).w)) ++ [((j : Nat) : Int)]).length, c2, (([] : List Int) ++ ((ws.getD k wy0).w)) ++ [((j : Nat) : Int)]⟩ : WyD)])], [], [blk w4.heap.size #[.int .i64 ((ws.getD k wy0).p), .int .i64 ((ws.getD k wy0).q), .slice ((ws.getD k wy0).a) ((ws.getD k wy0).n) ((ws.getD k wy0).c)] 109], [], [], []] := (UpG.absorb (f := inWy.row) ((⟨(((dN a (((ws.getD k wy0).p).toNat) ((j : Nat) : Int)) : Nat) : Int), (((dN b (((ws.getD k wy0).q).toNat) ((j : Nat) : Int)) : Nat) : Int), a2, ((([] : List Int) ++ ((ws.getD k wy0).w)) ++ [((j : Nat) : Int)]).length, c2, (([] : List Int) ++ ((ws.getD k wy0).w)) ++ [((j : Nat) : Int)]⟩ : WyD) : WyD) H21 3 6 rfl rfl rfl).re rfl
          refine WL.op rfl (d_assign rfl ?_)
          refine WL.done (X.block_normal (X.then_code ?_))
          refine W.pick [6, 9, 8, 7, 5, 4, 3, 2] (Γ' := [(6, .slice a3 ((ot ++ ([(⟨(((dN a (((ws.getD k wy0).p).toNat) ((j : Nat) : Int)) : Nat) : Int), (((dN b (((ws.getD k wy0).q).toNat) ((j : Nat) : Int)) : Nat) : Int), a2, ((([] : List Int) ++ ((ws.getD k wy0).w)) ++ [((j : Nat) : Int)]).length, c2, (([] : List Int) ++ ((ws.getD k wy0).w)) ++ [((j : Nat) : Int)]⟩ : WyD)] : List WyD)).length) c3), (9, .int .i64 ((j : Nat) : Int)), (8, .pointer (some ⟨w4.heap.size, 0, none⟩)), (7, .int .i64 ((k : Nat) : Int)), (5, .bool false), (4, .slice none 0 0), (3, .pointer (some ⟨w1.heap.size, 0, none⟩)), (2, .pointer (some ⟨w.heap.size, 0, none⟩))]) rfl ?_
          refine W.region ?_
          refine WL.op rfl (d_move rfl ?_)
          refine WL.op rfl (d_add rfl rfl (by omega) (by omega) ?_)
          refine WL.op rfl (d_assign rfl ?_)
          refine WL.done ?_
          exact X.next [9, 8, 7, 6, 5, 4, 3, 2] (Γ' := [(9, .int .i64 (((j + 1) : Nat) : Int)), (8, .pointer (some ⟨w4.heap.size, 0, none⟩)), (7, .int .i64 ((k : Nat) : Int)), (6, .slice a3 ((ot ++ ([(⟨(((dN a (((ws.getD k wy0).p).toNat) ((j : Nat) : Int)) : Nat) : Int), (((dN b (((ws.getD k wy0).q).toNat) ((j : Nat) : Int)) : Nat) : Int), a2, ((([] : List Int) ++ ((ws.getD k wy0).w)) ++ [((j : Nat) : Int)]).length, c2, (([] : List Int) ++ ((ws.getD k wy0).w)) ++ [((j : Nat) : Int)]⟩ : WyD)] : List WyD)).length) c3), (5, .bool false), (4, .slice none 0 0), (3, .pointer (some ⟨w1.heap.size, 0, none⟩)), (2, .pointer (some ⟨w.heap.size, 0, none⟩))]) rfl (259 - (j + 1)) (by omega) ⟨j + 1, ot ++ ([(⟨(((dN a (((ws.getD k wy0).p).toNat) ((j : Nat) : Int)) : Nat) : Int), (((dN b (((ws.getD k wy0).q).toNat) ((j : Nat) : Int)) : Nat) : Int), a2, ((([] : List Int) ++ ((ws.getD k wy0).w)) ++ [((j : Nat) : Int)]).length, c2, (([] : List Int) ++ ((ws.getD k wy0).w)) ++ [((j : Nat) : Int)]⟩ : WyD)] : List WyD), a3, c3, rfl, (H22.re rfl), (by first | assumption | omega | simp), (by first | exact wy_new hra hrb hI hkl hW (by omega) hV hJ c37 | (rw [wy_old hra hrb hI hkl hW (by omega) hV c37]; exact hV)), (by exact wy_step hra hrb hkl (by omega) hJ), (by first | exact hsub | exact fun p hp => List.mem_append_left _ (hsub p hp)), rfl⟩
        · skip
          refine W.skip (X.block_normal (X.then_code ?_))
          refine W.region ?_
          refine WL.op rfl (d_move rfl ?_)
          refine WL.op rfl (d_add rfl rfl (by omega) (by omega) ?_)
          refine WL.op rfl (d_assign rfl ?_)
          refine WL.done ?_
          exact X.next [9, 8, 7, 6, 5, 4, 3, 2] (Γ' := [(9, .int .i64 (((j + 1) : Nat) : Int)), (8, .pointer (some ⟨w4.heap.size, 0, none⟩)), (7, .int .i64 ((k : Nat) : Int)), (6, .slice ta ot.length tc), (5, .bool false), (4, .slice none 0 0), (3, .pointer (some ⟨w1.heap.size, 0, none⟩)), (2, .pointer (some ⟨w.heap.size, 0, none⟩))]) rfl (259 - (j + 1)) (by omega) ⟨j + 1, ot, ta, tc, rfl, H15, (by first | assumption | omega | simp), (by first | exact wy_new hra hrb hI hkl hW (by omega) hV hJ c37 | (rw [wy_old hra hrb hI hkl hW (by omega) hV c37]; exact hV)), (by exact wy_step hra hrb hkl (by omega) hJ), (by first | exact hsub | exact fun p hp => List.mem_append_left _ (hsub p hp)), rfl⟩
      · skip
        refine W.exit (X.then_exit (X.then_exit (X.block_exit (X.block_normal (X.then_code ?_)))))
        refine W.region ?_
        refine WL.op rfl (d_move rfl ?_)
        refine WL.op rfl (d_add rfl rfl (by omega) (by omega) ?_)
        refine WL.op rfl (d_assign rfl ?_)
        refine WL.done ?_
        have htest : a.acc.getD (ls.getD k st0).p.toNat false = b.acc.getD (ls.getD k st0).q.toNat false := by rw [← hwk.1, ← hwk.2.1]; exact Classical.not_not.1 c32
        exact X.next [7, 6, 5, 4, 3, 2] (Γ' := [(7, .int .i64 (((k + 1) : Nat) : Int)), (6, .slice ta ot.length tc), (5, .bool false), (4, .slice none 0 0), (3, .pointer (some ⟨w1.heap.size, 0, none⟩)), (2, .pointer (some ⟨w.heap.size, 0, none⟩))]) rfl ((a.acc.length * b.acc.length + 1) - (k + 1)) (by omega) ⟨k + 1, ((symsN 259).foldl (addS a b (ls.getD k st0) k) ls), ot, ta, tc, rfl, (UpG.of (G := [[blk w.heap.size #[.slice aca a.cls.length acc, .int .i64 a.width, .int .i64 a.start, .slice ana a.next.length anc, .slice aba a.acc.length abc] 25], [blk w1.heap.size #[.slice bca b.cls.length bcc, .int .i64 b.width, .int .i64 b.start, .slice bna b.next.length bnc, .slice bba b.acc.length bbc] 25], [rowT tyWy (.slice ta ot.length tc) 109 ot], [manyF inWy.row ot], []]) (Upd.sel H11 (M := [blk w.heap.size #[.slice aca a.cls.length acc, .int .i64 a.width, .int .i64 a.start, .slice ana a.next.length anc, .slice aba a.acc.length abc] 25, blk w1.heap.size #[.slice bca b.cls.length bcc, .int .i64 b.width, .int .i64 b.start, .slice bna b.next.length bnc, .slice bba b.acc.length bbc] 25, rowT tyWy (.slice ta ot.length tc) 109 ot, manyF inWy.row ot]) (l := [0, 1, 2, 3]) rfl rfl) rfl), (by omega), (by exact wy_next hkl (by omega) hJ htest), (by (have e9 : j = 259 := by omega); subst e9; exact hV), (by exact hR.trans (apLoop_go (by omega) (by omega) htest)), rfl⟩
  · skip
    refine W.exit (X.then_exit (X.then_exit (X.block_exit (X.then_code ?_))))
    refine W.seq ?_
    refine W.region ?_
    refine WL.op rfl (d_assign rfl ?_)
    refine WL.op rfl (d_assign rfl ?_)
    refine WL.done (X.then_code ?_)
    refine W.ret (X.ret2 rfl rfl rfl ?_)
    have ho := wy_end hra hrb hR (by omega)
    have hv : ([] : List Int) = (apartO a b).getD [] := by rw [ho]; rfl
    have hok : false = (apartO a b).isSome := by rw [ho]; rfl
    exact ⟨none, [], 0, false, (by rfl), nilOwn H7, hv, hok⟩
end Go.Proofs.Ytoeockpkkmgieaa

/- Proved here: what slices.Reverse of whole numbers does to a row of one's own; conditions: those of the theorem. -/
namespace Go.Proofs.Ytoeockpkkmgieaa
open Go Go.Sx
set_option linter.unusedVariables false
set_option linter.unusedSimpArgs false
theorem reverse_any (a : Option Addr) (xs : List Int) (c : Nat) (n : Nat) (w : World) (hp : Hp w [rowT (tyI .i64) (.slice a n c) 3 xs]) (hn : n = xs.length) (hsz : xs.length ≤ 1000000000) :
    Calls Try.prog 95 #[.slice a n c] w (Ret fun v w' => v = .tuple #[] ∧ Upd w [rowT (tyI .i64) (.slice a n c) 3 xs] w' [rowT (tyI .i64) (.slice a n c) 3 xs.reverse]) := by
  subst hn
  have ho := row_own (hp.holds _ (List.mem_singleton.2 rfl))
  cases a with
  | none =>
    have h0 : xs = [] := by
      rcases ho.2 with ⟨_, h⟩ | ⟨g, cap, cur, h, _⟩
      · exact List.length_eq_zero_iff.1 h
      · cases h
    subst h0
    refine (Try.slices_Reverse_int_empty none c w).mono ?_
    rintro e w' ⟨rfl, rfl⟩
    exact ⟨_, rfl, rfl, Upd.refl hp⟩
  | some ad =>
    obtain ⟨g, hg⟩ : ∃ g, ad = ⟨g, 0, none⟩ := by
      rcases ho.2 with ⟨h, _⟩ | ⟨g, cap, cur, h, _⟩
      · cases h
      · cases h; exact ⟨g, rfl⟩
    subst hg
    obtain ⟨hh, hlt⟩ := holds_own ho
    refine (Try.slices_Reverse_int g 0 c xs w hh (by omega)).mono ?_
    rintro e w' ⟨rfl, q, rfl⟩
    have hu := upd_put (q := q) (os := #[]) (ys := xs.reverse) ho (by simp)
    rw [Go.Sort.grow_empty] at hu
    exact ⟨_, rfl, rfl, hu⟩
end Go.Proofs.Ytoeockpkkmgieaa

/- Proved here: when an automaton accepts nothing, as the program says it; the law's own two small automata. Conditions: those of each theorem. -/
namespace Go.Proofs.Ytoeockpkkmgieaa
open Go Go.Sx
set_option linter.unusedVariables false
def someB (d : DfaD) : Prop := ∃ f : Nat, f < d.acc.length ∧ d.acc.getD f false = true ∧ To d d.start f
noncomputable def emptyB (d : DfaD) : Bool := if rightB d = true then @decide (¬ someB d) (Classical.propDecidable _) else false
def emptyE (d : DfaD) : Int := if rightB d = true then 0 else 3
theorem empty_of {d : DfaD} {o : List Bool} (hr : rightB d = true) (h : LiveP d o) : (!(o.getD d.start.toNat false)) = emptyB d := by
  have hs := (rightB_iff.1 hr).1.2.2.2.2.2.2
  have h2 := (h.2 hr).2 d.start.toNat (by omega)
  rw [Int.toNat_of_nonneg hs.1] at h2
  rw [emptyB, if_pos hr]
  by_cases e : o.getD d.start.toNat false = true
  · rw [e]
    exact (@decide_eq_false _ (Classical.propDecidable _) (fun hn => hn (h2.1 e))).symm
  · rw [Bool.eq_false_iff.2 e]
    exact (@decide_eq_true _ (Classical.propDecidable _) (fun hn => e (h2.2 hn))).symm
theorem apartE_ok {a b : DfaD} (h : ¬ apartE a b ≠ 0) : rightB a = true ∧ rightB b = true := by
  unfold apartE at h
  split at h
  · assumption
  · exact absurd (by decide : (3 : Int) ≠ 0) h
def flatD (is : Bool) : DfaD := ⟨List.replicate 259 0, 1, 0, [0], [is]⟩
theorem flat_apart : apartW (flatD true) (flatD false) = [] ∧ apartI (flatD true) (flatD false) = true ∧ apartE (flatD true) (flatD false) = 0 := by
  have h1 : rightB (flatD true) = true := by decide +kernel
  have h2 : rightB (flatD false) = true := by decide +kernel
  have h3 : apartO (flatD true) (flatD false) = some [] := by
    unfold apartO
    rw [apLoop, if_pos (by decide), if_pos (by decide)]
    rfl
  refine ⟨?_, ?_, ?_⟩
  · rw [apartW, if_pos ⟨h1, h2⟩, h3]; rfl
  · rw [apartI, if_pos ⟨h1, h2⟩, h3]; rfl
  · rw [apartE, if_pos ⟨h1, h2⟩]
theorem flat_empty : emptyB (flatD false) = true ∧ emptyE (flatD false) = 0 := by
  have h2 : rightB (flatD false) = true := by decide +kernel
  constructor
  · rw [emptyB, if_pos h2]
    refine @decide_eq_true _ (Classical.propDecidable _) ?_
    rintro ⟨f, hf, ha, _⟩
    have : f = 0 := by have h3 : f < 1 := hf
                       omega
    subst this
    exact absurd ha (by decide)
  · rw [emptyE, if_pos h2]
end Go.Proofs.Ytoeockpkkmgieaa
