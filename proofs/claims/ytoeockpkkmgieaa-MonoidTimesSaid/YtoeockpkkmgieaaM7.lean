/- The walks of functions, printed by wip/tools/gw.py. -/
import Derived.Test.YtoeockpkkmgieaaF2
import Derived.Test.YtoeockpkkmgieaaSx7
import Derived.Test.YtoeockpkkmgieaaM4
import Derived.Test.YtoeockpkkmgieaaMon6
namespace Go.Proofs.Ytoeockpkkmgieaa
open Go Go.Sx
set_option linter.unusedVariables false
set_option linter.unusedSimpArgs false
set_option maxRecDepth 20000 in
theorem monoidTimes_any (d : DfaD) (dca : Option Addr) (dna : Option Addr) (dba : Option Addr) (dcc : Nat) (dnc : Nat) (dbc : Nat) (x : Int) (y : Int) (k : Int) (w : World) (rcd : RdT (tyI .i64) w (.slice dca d.cls.length dcc) d.cls) (rnd : RdT (tyI .i64) w (.slice dna d.next.length dnc) d.next) (rbd : RdT tyB w (.slice dba d.acc.length dbc) d.acc) :
    Calls Try.prog 7 #[.agg #[.slice dca d.cls.length dcc, .int .i64 d.width, .int .i64 d.start, .slice dna d.next.length dnc, .slice dba d.acc.length dbc], .agg #[.int .i64 x, .int .i64 y], .int .i64 k] w (Ret fun v w' => v = .bool true ∧ Upd w [] w' []) := by
  have le_rcd := rcd.le
  have le_rnd := rnd.le
  have le_rbd := rbd.le
  refine calls_of_W (args := [.agg #[.slice dca d.cls.length dcc, .int .i64 d.width, .int .i64 d.start, .slice dna d.next.length dnc, .slice dba d.acc.length dbc], .agg #[.int .i64 x, .int .i64 y], .int .i64 k]) Try.func7 rfl rfl rfl ?_
  have H0 : UpG w [] w [] := UpG.nil w
  show W _ _ _ _ [(0, .agg #[.slice dca d.cls.length dcc, .int .i64 d.width, .int .i64 d.start, .slice dna d.next.length dnc, .slice dba d.acc.length dbc]), (1, .agg #[.int .i64 x, .int .i64 y]), (2, .int .i64 k)] w
  refine W.seq ?_
  refine W.region ?_
  refine WL.op rfl (d_box rfl fun w1 u1 => ?_)
  have H1 : UpG w [] w1 [[blk w.heap.size #[.slice dca d.cls.length dcc, .int .i64 d.width, .int .i64 d.start, .slice dna d.next.length dnc, .slice dba d.acc.length dbc] 25]] := H0.new' u1
  refine WL.op rfl (d_box rfl fun w2 u2 => ?_)
  have H2 : UpG w [] w2 [[blk w.heap.size #[.slice dca d.cls.length dcc, .int .i64 d.width, .int .i64 d.start, .slice dna d.next.length dnc, .slice dba d.acc.length dbc] 25], [blk w1.heap.size #[.int .i64 x, .int .i64 y] 54]] := H1.new' u2
  refine WL.op rfl (d_assign rfl ?_)
  refine WL.done (X.then_code ?_)
  refine W.seq ?_
  refine W.seq ?_
  refine W.region ?_
  refine WL.op rfl (d_call ok27 rfl (Ret.calls (awake18_any  w2  ) fun _ w3 p1 => ?_))
  obtain ⟨rfl, u3⟩ := p1
  have H3 : UpG w [] w3 [[blk w.heap.size #[.slice dca d.cls.length dcc, .int .i64 d.width, .int .i64 d.start, .slice dna d.next.length dnc, .slice dba d.acc.length dbc] 25], [blk w1.heap.size #[.int .i64 x, .int .i64 y] 54]] := H2.call u3
  refine WL.op rfl (d_notB rfl ?_)
  refine WL.done (X.then_code ?_)
  refine W.iff rfl ?_
  refine W.skip (X.then_code ?_)
  refine W.seq ?_
  refine W.seq ?_
  refine W.region ?_
  refine WL.op rfl (d_loadAB [.slice dca d.cls.length dcc, .int .i64 d.width, .int .i64 d.start, .slice dna d.next.length dnc, .slice dba d.acc.length dbc] Try.underlying25 rfl sz25 rfl (H3.blk 0 rfl) rfl rfl ?_)
  refine WL.op rfl (d_call ok28 rfl (Ret.calls (small18_any d dca dna dba dcc dnc dbc w3 (rcd.at H3) (rnd.at H3) (rbd.at H3) ) fun _ w4 p2 => ?_))
  obtain ⟨rfl, u4⟩ := p2
  have H4 : UpG w [] w4 [[blk w.heap.size #[.slice dca d.cls.length dcc, .int .i64 d.width, .int .i64 d.start, .slice dna d.next.length dnc, .slice dba d.acc.length dbc] 25], [blk w1.heap.size #[.int .i64 x, .int .i64 y] 54]] := H3.call u4
  refine WL.op rfl (d_notB rfl ?_)
  refine WL.done (X.then_code ?_)
  refine W.iteB (b := !(decide (d.acc.length ≤ 6 ∧ d.next.length ≤ 2000 ∧ d.cls.length ≤ 300))) rfl (fun c96 => ?_) (fun c96 => ?_)
  · skip
    refine W.seq ?_
    refine W.region ?_
    refine WL.op rfl (d_assign rfl ?_)
    refine WL.done (X.then_code ?_)
    refine W.ret (X.then_ret (X.ret1 rfl rfl ?_))
    exact ⟨rfl, H4.noneL⟩
  · skip
    refine W.skip (X.then_code ?_)
    refine W.seq ?_
    refine W.region ?_
    refine WL.op rfl (d_loadAB [.slice dca d.cls.length dcc, .int .i64 d.width, .int .i64 d.start, .slice dna d.next.length dnc, .slice dba d.acc.length dbc] Try.underlying25 rfl sz25 rfl (H4.blk 0 rfl) rfl rfl ?_)
    refine WL.op rfl (d_call ok29 rfl (Ret.calls (elements_any d dca dna dba dcc dnc dbc 60 w4 (rcd.at H4) (rnd.at H4) (rbd.at H4) (by decide)) fun _ w5 p3 => ?_))
    obtain ⟨a2_1, xs_1, c2_1, ec_1, rfl, u5, q1⟩ := p3
    have H5 : UpG w [] w5 [[blk w.heap.size #[.slice dca d.cls.length dcc, .int .i64 d.width, .int .i64 d.start, .slice dna d.next.length dnc, .slice dba d.acc.length dbc] 25], [blk w1.heap.size #[.int .i64 x, .int .i64 y] 54], [rowT tyEL (.slice a2_1 xs_1.length c2_1) 45 xs_1], [manyF inEL.row xs_1]] := (H4.new' u5).re rfl
    refine WL.op rfl (d_move rfl ?_)
    refine WL.op rfl (d_extract rfl rfl ?_)
    refine WL.op rfl (d_extract rfl rfl ?_)
    refine WL.op rfl (d_assign rfl ?_)
    refine WL.op rfl (d_assign rfl ?_)
    refine WL.done (X.then_code ?_)
    refine W.seq ?_
    refine W.seq ?_
    refine W.region ?_
    refine WL.op rfl (d_move rfl ?_)
    refine WL.op rfl (d_cmp (decide (ec_1 ≠ (0 : Int))) rfl rfl rfl ?_)
    refine WL.done (X.then_code ?_)
    refine W.ite (p := ec_1 ≠ (0 : Int)) rfl (fun c100 => ?_) (fun c100 => ?_)
    · skip
      refine W.seq ?_
      have hx0 : xs_1 = [] := q1.nil c100
      refine W.region ?_
      refine WL.op rfl (d_move rfl ?_)
      refine WL.op rfl (d_call ok37 rfl (Ret.calls (times_any a2_1 xs_1 c2_1 0 0 w5 (H5.rdT 2 rfl) (Inn.own (H5.hpOf 3 rfl)) (fun z hz => by first | (have h9 := hg.2.2.2.to_len hz; omega) | (rw [hx0] at hz; simp at hz))) fun _ w6 p4 => ?_))
      obtain ⟨rfl, u6⟩ := p4
      have H6 : UpG w [] w6 [[blk w.heap.size #[.slice dca d.cls.length dcc, .int .i64 d.width, .int .i64 d.start, .slice dna d.next.length dnc, .slice dba d.acc.length dbc] 25], [blk w1.heap.size #[.int .i64 x, .int .i64 y] 54], [rowT tyEL (.slice a2_1 xs_1.length c2_1) 45 xs_1], [manyF inEL.row xs_1]] := H5.call u6
      refine WL.op rfl (d_cmp (decide ((timesT (xs_1.map EL.to) 0 0) = (-1 : Int))) rfl rfl rfl ?_)
      refine WL.op rfl (d_assign rfl ?_)
      refine WL.done (X.then_code ?_)
      refine W.ret (X.then_ret (X.ret1 rfl rfl ?_))
      exact ⟨(by exact congrArg Value.bool (decide_eq_true (timesT_out (by rw [hx0]; simp)))), H6.noneL⟩
    · skip
      refine W.skip (X.then_code ?_)
      refine W.seq ?_
      have hg := q1.good (by omega)
      have hrt := hg.1
      have hT := ElT.of hg.2.1 hg.2.2.1 hg.2.2.2
      have hnp := hT.pos
      have hxl : xs_1.length ≤ 60 := by have h9 := els_len hg.2.2.1; have h8 := hg.2.1; omega
      have hri := rightB_iff.1 hrt
      have hb1 := tmod_wrap (x := x) (n := ((xs_1.length : Nat) : Int)) (by omega)
      have hb2 := tmod_wrap (x := y) (n := ((xs_1.length : Nat) : Int)) (by omega)
      refine W.region ?_
      refine WL.op rfl (d_move rfl ?_)
      refine WL.op rfl (d_lenS Try.underlying35 rfl ?_)
      refine WL.op rfl (d_assign rfl ?_)
      refine WL.done (X.then_code ?_)
      refine W.cut (fun Γ' w' => ∃ i : Int, ∃ j : Int, Γ' = [(9, .int .i64 ((xs_1.length : Nat) : Int)), (7, .slice a2_1 xs_1.length c2_1), (6, .bool false), (3, .pointer (some ⟨w.heap.size, 0, none⟩)), (2, .int .i64 k), (10, .int .i64 i), (11, .int .i64 j)] ∧ UpG w [] w' [[blk w.heap.size #[.slice dca d.cls.length dcc, .int .i64 d.width, .int .i64 d.start, .slice dna d.next.length dnc, .slice dba d.acc.length dbc] 25], [blk w1.heap.size #[.int .i64 x, .int .i64 y] 54], [rowT tyEL (.slice a2_1 xs_1.length c2_1) 45 xs_1], [manyF inEL.row xs_1]] ∧ ((0 ≤ i ∧ i < ((xs_1.length : Nat) : Int)) ∧ (0 ≤ j ∧ j < ((xs_1.length : Nat) : Int)))) ?_ ?_
      · skip
        refine W.regionD mixed (by kernel_rfl) fun hok1 w7 k1 => ?_
        have H7 : UpG w [] w7 [[blk w.heap.size #[.slice dca d.cls.length dcc, .int .i64 d.width, .int .i64 d.start, .slice dna d.next.length dnc, .slice dba d.acc.length dbc] 25], [blk w1.heap.size #[.int .i64 x, .int .i64 y] 54], [rowT tyEL (.slice a2_1 xs_1.length c2_1) 45 xs_1], [manyF inEL.row xs_1]] := H5.kept k1
        refine WD.take hok1 0 (.pointer (some ⟨w1.heap.size, 0, none⟩)) (fun _ => True) rfl rfl rfl rfl rfl trivial (.inl ⟨rfl, fun _ _ => d_idxAddrArr Try.underlying54 sz3 rfl rfl (by omega) (by omega) ⟨rfl, rfl⟩⟩) ?_
        refine WD.take hok1 1 (.int .i64 x) (fun w' => w'.heap[w1.heap.size]? = some (.cells #[.int .i64 x, .int .i64 y] 54 (0, 0))) rfl rfl rfl rfl rfl (H7.blk 1 rfl) (.inl ⟨rfl, fun _ hC => d_loadB Try.underlying3 rfl rfl hC rfl ⟨rfl, rfl⟩⟩) ?_
        refine WD.take hok1 2 (.int .i64 ((xs_1.length : Nat) : Int)) (fun _ => True) rfl rfl rfl rfl rfl trivial (.inl ⟨rfl, fun _ _ => d_move rfl ⟨rfl, rfl⟩⟩) ?_
        refine WD.take hok1 3 (.int .i64 (x.tmod ((xs_1.length : Nat) : Int))) (fun _ => True) rfl rfl rfl rfl rfl trivial (.inl ⟨rfl, fun _ _ => d_rem rfl rfl (by omega) ⟨rfl, rfl⟩⟩) ?_
        refine WD.take hok1 4 (.int .i64 ((xs_1.length : Nat) : Int)) (fun _ => True) rfl rfl rfl rfl rfl trivial (.inl ⟨rfl, fun _ _ => d_move rfl ⟨rfl, rfl⟩⟩) ?_
        refine WD.take hok1 5 (.int .i64 ((x.tmod ((xs_1.length : Nat) : Int)) + ((xs_1.length : Nat) : Int))) (fun _ => True) rfl rfl rfl rfl rfl trivial (.inl ⟨rfl, fun _ _ => d_add rfl rfl (by omega) (by omega) ⟨rfl, rfl⟩⟩) ?_
        refine WD.take hok1 6 (.int .i64 ((xs_1.length : Nat) : Int)) (fun _ => True) rfl rfl rfl rfl rfl trivial (.inl ⟨rfl, fun _ _ => d_move rfl ⟨rfl, rfl⟩⟩) ?_
        refine WD.take hok1 7 (.int .i64 (((x.tmod ((xs_1.length : Nat) : Int)) + ((xs_1.length : Nat) : Int)).tmod ((xs_1.length : Nat) : Int))) (fun _ => True) rfl rfl rfl rfl rfl trivial (.inl ⟨rfl, fun _ _ => d_rem rfl rfl (by omega) ⟨rfl, rfl⟩⟩) ?_
        refine WD.take hok1 8 (.pointer (some ⟨w1.heap.size, 1, none⟩)) (fun _ => True) rfl rfl rfl rfl rfl trivial (.inl ⟨rfl, fun _ _ => d_idxAddrArr Try.underlying54 sz3 rfl rfl (by omega) (by omega) ⟨rfl, rfl⟩⟩) ?_
        refine WD.take hok1 9 (.int .i64 y) (fun w' => w'.heap[w1.heap.size]? = some (.cells #[.int .i64 x, .int .i64 y] 54 (0, 0))) rfl rfl rfl rfl rfl (H7.blk 1 rfl) (.inl ⟨rfl, fun _ hC => d_loadB Try.underlying3 rfl rfl hC rfl ⟨rfl, rfl⟩⟩) ?_
        refine WD.take hok1 10 (.int .i64 ((xs_1.length : Nat) : Int)) (fun _ => True) rfl rfl rfl rfl rfl trivial (.inl ⟨rfl, fun _ _ => d_move rfl ⟨rfl, rfl⟩⟩) ?_
        refine WD.take hok1 11 (.int .i64 (y.tmod ((xs_1.length : Nat) : Int))) (fun _ => True) rfl rfl rfl rfl rfl trivial (.inl ⟨rfl, fun _ _ => d_rem rfl rfl (by omega) ⟨rfl, rfl⟩⟩) ?_
        refine WD.take hok1 12 (.int .i64 ((xs_1.length : Nat) : Int)) (fun _ => True) rfl rfl rfl rfl rfl trivial (.inl ⟨rfl, fun _ _ => d_move rfl ⟨rfl, rfl⟩⟩) ?_
        refine WD.take hok1 13 (.int .i64 ((y.tmod ((xs_1.length : Nat) : Int)) + ((xs_1.length : Nat) : Int))) (fun _ => True) rfl rfl rfl rfl rfl trivial (.inl ⟨rfl, fun _ _ => d_add rfl rfl (by omega) (by omega) ⟨rfl, rfl⟩⟩) ?_
        refine WD.take hok1 14 (.int .i64 ((xs_1.length : Nat) : Int)) (fun _ => True) rfl rfl rfl rfl rfl trivial (.inl ⟨rfl, fun _ _ => d_move rfl ⟨rfl, rfl⟩⟩) ?_
        refine WD.take hok1 15 (.int .i64 (((y.tmod ((xs_1.length : Nat) : Int)) + ((xs_1.length : Nat) : Int)).tmod ((xs_1.length : Nat) : Int))) (fun _ => True) rfl rfl rfl rfl rfl trivial (.inl ⟨rfl, fun _ _ => d_rem rfl rfl (by omega) ⟨rfl, rfl⟩⟩) ?_
        refine WD.take hok1 16 (.int .i64 (((x.tmod ((xs_1.length : Nat) : Int)) + ((xs_1.length : Nat) : Int)).tmod ((xs_1.length : Nat) : Int))) (fun _ => True) rfl rfl rfl rfl rfl trivial (.inl ⟨rfl, fun _ _ => d_assign rfl ⟨rfl, rfl⟩⟩) ?_
        refine WD.take hok1 17 (.int .i64 (((y.tmod ((xs_1.length : Nat) : Int)) + ((xs_1.length : Nat) : Int)).tmod ((xs_1.length : Nat) : Int))) (fun _ => True) rfl rfl rfl rfl rfl trivial (.inl ⟨rfl, fun _ _ => d_assign rfl ⟨rfl, rfl⟩⟩) ?_
        refine WD.done hok1 rfl ?_
        exact X.cut [9, 7, 6, 3, 2, 10, 11] (Γ' := [(9, .int .i64 ((xs_1.length : Nat) : Int)), (7, .slice a2_1 xs_1.length c2_1), (6, .bool false), (3, .pointer (some ⟨w.heap.size, 0, none⟩)), (2, .int .i64 k), (10, .int .i64 (((x.tmod ((xs_1.length : Nat) : Int)) + ((xs_1.length : Nat) : Int)).tmod ((xs_1.length : Nat) : Int))), (11, .int .i64 (((y.tmod ((xs_1.length : Nat) : Int)) + ((xs_1.length : Nat) : Int)).tmod ((xs_1.length : Nat) : Int)))]) rfl ⟨((x.tmod ((xs_1.length : Nat) : Int)) + ((xs_1.length : Nat) : Int)).tmod ((xs_1.length : Nat) : Int), ((y.tmod ((xs_1.length : Nat) : Int)) + ((xs_1.length : Nat) : Int)).tmod ((xs_1.length : Nat) : Int), rfl, H7, (by exact ⟨hb1.2, hb2.2⟩)⟩
      rintro Γ1 w8 ⟨i, j, rfl, H8, hij⟩
      refine W.seq ?_
      refine W.region ?_
      refine WL.op rfl (d_move rfl ?_)
      refine WL.op rfl (d_move rfl ?_)
      refine WL.op rfl (d_move rfl ?_)
      refine WL.op rfl (d_call ok37 rfl (Ret.calls (times_any a2_1 xs_1 c2_1 i j w8 (H8.rdT 2 rfl) (Inn.own (H8.hpOf 3 rfl)) (fun z hz => by first | (have h9 := hg.2.2.2.to_len hz; omega) | (rw [hx0] at hz; simp at hz))) fun _ w9 p5 => ?_))
      obtain ⟨rfl, u7⟩ := p5
      have H9 : UpG w [] w9 [[blk w.heap.size #[.slice dca d.cls.length dcc, .int .i64 d.width, .int .i64 d.start, .slice dna d.next.length dnc, .slice dba d.acc.length dbc] 25], [blk w1.heap.size #[.int .i64 x, .int .i64 y] 54], [rowT tyEL (.slice a2_1 xs_1.length c2_1) 45 xs_1], [manyF inEL.row xs_1]] := H8.call u7
      refine WL.op rfl (d_assign rfl ?_)
      refine WL.done (X.then_code ?_)
      refine W.seq ?_
      refine W.seq ?_
      have hti := hT.times hrt hij.1 hij.2
      have hs1 := hg.2.2.2.sz i.toNat (by omega)
      have hs2 := hg.2.2.2.sz j.toNat (by omega)
      have ht0 := hti.1
      have ht1 := hti.2.1
      refine W.regionD mixed (by kernel_rfl) fun hok2 w10 k2 => ?_
      have H10 : UpG w [] w10 [[blk w.heap.size #[.slice dca d.cls.length dcc, .int .i64 d.width, .int .i64 d.start, .slice dna d.next.length dnc, .slice dba d.acc.length dbc] 25], [blk w1.heap.size #[.int .i64 x, .int .i64 y] 54], [rowT tyEL (.slice a2_1 xs_1.length c2_1) 45 xs_1], [manyF inEL.row xs_1]] := H9.kept k2
      refine WD.take hok2 0 (.int .i64 (timesT (xs_1.map EL.to) i j)) (fun _ => True) rfl rfl rfl rfl rfl trivial (.inl ⟨rfl, fun _ _ => d_move rfl ⟨rfl, rfl⟩⟩) ?_
      refine WD.take hok2 1 (.bool (decide ((timesT (xs_1.map EL.to) i j) < (0 : Int)))) (fun _ => True) rfl rfl rfl rfl rfl trivial (.inl ⟨rfl, fun _ _ => d_cmp (decide ((timesT (xs_1.map EL.to) i j) < (0 : Int))) rfl rfl rfl ⟨rfl, rfl⟩⟩) ?_
      refine WD.take hok2 2 (.bool (decide ((timesT (xs_1.map EL.to) i j) < (0 : Int)))) (fun _ => True) rfl rfl rfl rfl rfl trivial (.inl ⟨rfl, fun _ _ => d_move rfl ⟨rfl, rfl⟩⟩) ?_
      refine WD.part 52 (p := (timesT (xs_1.map EL.to) i j) < (0 : Int)) rfl (fun g106 => ?_) (fun g106 => ?_)
      · skip
        omega
      · skip
        refine WD.take hok2 3 (.slice a2_1 xs_1.length c2_1) (fun _ => True) rfl rfl rfl rfl rfl trivial (.inl ⟨rfl, fun _ _ => d_move rfl ⟨rfl, rfl⟩⟩) ?_
        refine WD.take hok2 4 (.int .i64 (timesT (xs_1.map EL.to) i j)) (fun _ => True) rfl rfl rfl rfl rfl trivial (.inl ⟨rfl, fun _ _ => d_move rfl ⟨rfl, rfl⟩⟩) ?_
        refine WD.take hok2 5 (elemPtr (.slice a2_1 xs_1.length c2_1) (((timesT (xs_1.map EL.to) i j).toNat) * 2)) (fun w' => RdT tyEL w' (.slice a2_1 xs_1.length c2_1) xs_1) rfl rfl rfl rfl rfl (H10.rdT 2 rfl) (.inl ⟨rfl, fun _ hC => t_addrN ((timesT (xs_1.map EL.to) i j).toNat) (T := tyEL) rfl Try.underlying35 sz45 rfl rfl hC (by omega) (by omega) ⟨rfl, rfl⟩⟩) ?_
        refine WD.take hok2 6 (elemPtr (.slice a2_1 xs_1.length c2_1) (((timesT (xs_1.map EL.to) i j).toNat) * 2 + 0)) (fun w' => RdT tyEL w' (.slice a2_1 xs_1.length c2_1) xs_1) rfl rfl rfl rfl rfl (H10.rdT 2 rfl) (.inl ⟨rfl, fun _ hC => t_fld ((timesT (xs_1.map EL.to) i j).toNat) el0 (T := tyEL) rfl fld45_0 rfl rfl hC (by omega) ⟨rfl, rfl⟩⟩) ?_
        refine WD.take hok2 7 (.slice ((xs_1.getD ((timesT (xs_1.map EL.to) i j).toNat) el0).a) ((xs_1.getD ((timesT (xs_1.map EL.to) i j).toNat) el0).n) ((xs_1.getD ((timesT (xs_1.map EL.to) i j).toNat) el0).c)) (fun w' => RdT tyEL w' (.slice a2_1 xs_1.length c2_1) xs_1) rfl rfl rfl rfl rfl (H10.rdT 2 rfl) (.inl ⟨rfl, fun _ hC => t_loadF ((timesT (xs_1.map EL.to) i j).toNat) el0 (T := tyEL) rfl rfl Try.underlying22 rfl rfl hC (by omega) rfl ⟨rfl, rfl⟩⟩) ?_
        refine WD.take hok2 8 (.agg #[.slice dca d.cls.length dcc, .int .i64 d.width, .int .i64 d.start, .slice dna d.next.length dnc, .slice dba d.acc.length dbc]) (fun w' => w'.heap[w.heap.size]? = some (.cells #[.slice dca d.cls.length dcc, .int .i64 d.width, .int .i64 d.start, .slice dna d.next.length dnc, .slice dba d.acc.length dbc] 25 (0, 0))) rfl rfl rfl rfl rfl (H10.blk 0 rfl) (.inl ⟨rfl, fun _ hC => d_loadAB [.slice dca d.cls.length dcc, .int .i64 d.width, .int .i64 d.start, .slice dna d.next.length dnc, .slice dba d.acc.length dbc] Try.underlying25 rfl sz25 rfl hC rfl rfl ⟨rfl, rfl⟩⟩) ?_
        refine WD.take hok2 9 (.slice a2_1 xs_1.length c2_1) (fun _ => True) rfl rfl rfl rfl rfl trivial (.inl ⟨rfl, fun _ _ => d_move rfl ⟨rfl, rfl⟩⟩) ?_
        refine WD.take hok2 10 (.int .i64 i) (fun _ => True) rfl rfl rfl rfl rfl trivial (.inl ⟨rfl, fun _ _ => d_move rfl ⟨rfl, rfl⟩⟩) ?_
        refine WD.take hok2 11 (elemPtr (.slice a2_1 xs_1.length c2_1) (i.toNat * 2)) (fun w' => RdT tyEL w' (.slice a2_1 xs_1.length c2_1) xs_1) rfl rfl rfl rfl rfl (H10.rdT 2 rfl) (.inl ⟨rfl, fun _ hC => t_addrN i.toNat (T := tyEL) rfl Try.underlying35 sz45 rfl rfl hC (by omega) (by omega) ⟨rfl, rfl⟩⟩) ?_
        refine WD.take hok2 12 (elemPtr (.slice a2_1 xs_1.length c2_1) (i.toNat * 2 + 1)) (fun w' => RdT tyEL w' (.slice a2_1 xs_1.length c2_1) xs_1) rfl rfl rfl rfl rfl (H10.rdT 2 rfl) (.inl ⟨rfl, fun _ hC => t_fld i.toNat el0 (T := tyEL) rfl fld45_1 rfl rfl hC (by omega) ⟨rfl, rfl⟩⟩) ?_
        refine WD.take hok2 13 (.string ((xs_1.getD i.toNat el0).text)) (fun w' => RdT tyEL w' (.slice a2_1 xs_1.length c2_1) xs_1) rfl rfl rfl rfl rfl (H10.rdT 2 rfl) (.inl ⟨rfl, fun _ hC => t_loadF i.toNat el0 (T := tyEL) rfl rfl Try.underlying9 rfl rfl hC (by omega) rfl ⟨rfl, rfl⟩⟩) ?_
        refine WD.take hok2 14 (.slice a2_1 xs_1.length c2_1) (fun _ => True) rfl rfl rfl rfl rfl trivial (.inl ⟨rfl, fun _ _ => d_move rfl ⟨rfl, rfl⟩⟩) ?_
        refine WD.take hok2 15 (.int .i64 j) (fun _ => True) rfl rfl rfl rfl rfl trivial (.inl ⟨rfl, fun _ _ => d_move rfl ⟨rfl, rfl⟩⟩) ?_
        refine WD.take hok2 16 (elemPtr (.slice a2_1 xs_1.length c2_1) (j.toNat * 2)) (fun w' => RdT tyEL w' (.slice a2_1 xs_1.length c2_1) xs_1) rfl rfl rfl rfl rfl (H10.rdT 2 rfl) (.inl ⟨rfl, fun _ hC => t_addrN j.toNat (T := tyEL) rfl Try.underlying35 sz45 rfl rfl hC (by omega) (by omega) ⟨rfl, rfl⟩⟩) ?_
        refine WD.take hok2 17 (elemPtr (.slice a2_1 xs_1.length c2_1) (j.toNat * 2 + 1)) (fun w' => RdT tyEL w' (.slice a2_1 xs_1.length c2_1) xs_1) rfl rfl rfl rfl rfl (H10.rdT 2 rfl) (.inl ⟨rfl, fun _ hC => t_fld j.toNat el0 (T := tyEL) rfl fld45_1 rfl rfl hC (by omega) ⟨rfl, rfl⟩⟩) ?_
        refine WD.take hok2 18 (.string ((xs_1.getD j.toNat el0).text)) (fun w' => RdT tyEL w' (.slice a2_1 xs_1.length c2_1) xs_1) rfl rfl rfl rfl rfl (H10.rdT 2 rfl) (.inl ⟨rfl, fun _ hC => t_loadF j.toNat el0 (T := tyEL) rfl rfl Try.underlying9 rfl rfl hC (by omega) rfl ⟨rfl, rfl⟩⟩) ?_
        refine WD.take hok2 19 (.string (((xs_1.getD i.toNat el0).text) ++ ((xs_1.getD j.toNat el0).text))) (fun _ => True) rfl rfl rfl rfl rfl trivial (.inl ⟨rfl, fun _ _ => d_concat rfl rfl (by omega) ⟨rfl, rfl⟩⟩) ?_
        refine WD.loud hok2 20 rfl (⟨_, [⟨7, .slice ((xs_1.getD ((timesT (xs_1.map EL.to) i j).toNat) el0).a) ((xs_1.getD ((timesT (xs_1.map EL.to) i j).toNat) el0).n) ((xs_1.getD ((timesT (xs_1.map EL.to) i j).toNat) el0).c), (fun w' => RdT tyEL w' (.slice a2_1 xs_1.length c2_1) xs_1)⟩, ⟨6, elemPtr (.slice a2_1 xs_1.length c2_1) (((timesT (xs_1.map EL.to) i j).toNat) * 2 + 0), (fun w' => RdT tyEL w' (.slice a2_1 xs_1.length c2_1) xs_1)⟩, ⟨5, elemPtr (.slice a2_1 xs_1.length c2_1) (((timesT (xs_1.map EL.to) i j).toNat) * 2), (fun w' => RdT tyEL w' (.slice a2_1 xs_1.length c2_1) xs_1)⟩, ⟨4, .int .i64 (timesT (xs_1.map EL.to) i j), (fun _ => True)⟩, ⟨3, .slice a2_1 xs_1.length c2_1, (fun _ => True)⟩], rfl, rfl, rfl, rfl, rfl, rfl, d_call ok36 rfl (Ret.calls (goR_any d dca dna dba dcc dnc dbc (((xs_1.getD i.toNat el0).text) ++ ((xs_1.getD j.toNat el0).text)) w10 (rcd.at H10) (rnd.at H10) (rbd.at H10) hrt (by rw [ByteArray.size_append]; omega)) fun _ w11 p6 => ?_)⟩)
        obtain ⟨a2_2, c2_2, rfl, u8⟩ := p6
        have H11 : UpG w [] w11 [[blk w.heap.size #[.slice dca d.cls.length dcc, .int .i64 d.width, .int .i64 d.start, .slice dna d.next.length dnc, .slice dba d.acc.length dbc] 25], [blk w1.heap.size #[.int .i64 x, .int .i64 y] 54], [rowT tyEL (.slice a2_1 xs_1.length c2_1) 45 xs_1], [manyF inEL.row xs_1], [rowT (tyI .i64) (.slice a2_2 ((goL d (((xs_1.getD i.toNat el0).text) ++ ((xs_1.getD j.toNat el0).text))).length) c2_2) 3 (goL d (((xs_1.getD i.toNat el0).text) ++ ((xs_1.getD j.toNat el0).text)))]] := (H10.new' u8).re rfl
        refine ⟨⟨(H11.rdT 2 rfl), (H11.rdT 2 rfl), (H11.rdT 2 rfl), trivial, trivial, trivial⟩, ?_⟩
        refine WD.loud hok2 21 rfl (⟨_, [], rfl, rfl, rfl, rfl, rfl, rfl, d_call ok32 rfl (Ret.calls (same10_any ((xs_1.getD ((timesT (xs_1.map EL.to) i j).toNat) el0).a) ((xs_1.getD ((timesT (xs_1.map EL.to) i j).toNat) el0).to) ((xs_1.getD ((timesT (xs_1.map EL.to) i j).toNat) el0).c) ((xs_1.getD ((timesT (xs_1.map EL.to) i j).toNat) el0).n) a2_2 (goL d (((xs_1.getD i.toNat el0).text) ++ ((xs_1.getD j.toNat el0).text))) c2_2 ((goL d (((xs_1.getD i.toNat el0).text) ++ ((xs_1.getD j.toNat el0).text))).length) w11 (show RdT (tyI .i64) w11 (.slice ((xs_1.getD ((timesT (xs_1.map EL.to) i j).toNat) el0).a) ((xs_1.getD ((timesT (xs_1.map EL.to) i j).toNat) el0).n) ((xs_1.getD ((timesT (xs_1.map EL.to) i j).toNat) el0).c)) ((xs_1.getD ((timesT (xs_1.map EL.to) i j).toNat) el0).to) from (Inn.own (H11.hpOf 3 rfl)).get el0 ((timesT (xs_1.map EL.to) i j).toNat) (by omega)) (H11.rdT 4 rfl) ) fun _ w12 p7 => ?_)⟩)
        obtain ⟨rfl, u9⟩ := p7
        have H12 : UpG w [] w12 [[blk w.heap.size #[.slice dca d.cls.length dcc, .int .i64 d.width, .int .i64 d.start, .slice dna d.next.length dnc, .slice dba d.acc.length dbc] 25], [blk w1.heap.size #[.int .i64 x, .int .i64 y] 54], [rowT tyEL (.slice a2_1 xs_1.length c2_1) 45 xs_1], [manyF inEL.row xs_1], [rowT (tyI .i64) (.slice a2_2 ((goL d (((xs_1.getD i.toNat el0).text) ++ ((xs_1.getD j.toNat el0).text))).length) c2_2) 3 (goL d (((xs_1.getD i.toNat el0).text) ++ ((xs_1.getD j.toNat el0).text)))]] := H11.call u9
        refine ⟨trivial, ?_⟩
        refine WD.take hok2 22 (.bool (decide (¬ (((xs_1.getD ((timesT (xs_1.map EL.to) i j).toNat) el0).to) = (goL d (((xs_1.getD i.toNat el0).text) ++ ((xs_1.getD j.toNat el0).text))))))) (fun _ => True) rfl rfl rfl rfl rfl trivial (.inl ⟨rfl, fun _ _ => d_not (p := ((xs_1.getD ((timesT (xs_1.map EL.to) i j).toNat) el0).to) = (goL d (((xs_1.getD i.toNat el0).text) ++ ((xs_1.getD j.toNat el0).text)))) rfl ⟨rfl, rfl⟩⟩) ?_
        refine WD.take hok2 23 (.bool (decide (¬ (((xs_1.getD ((timesT (xs_1.map EL.to) i j).toNat) el0).to) = (goL d (((xs_1.getD i.toNat el0).text) ++ ((xs_1.getD j.toNat el0).text))))))) (fun _ => True) rfl rfl rfl rfl rfl trivial (.inl ⟨rfl, fun _ _ => d_pick rfl rfl ⟨rfl, rfl⟩⟩) ?_
        refine WD.done hok2 rfl (X.then_code ?_)
        refine W.pick [73, 9, 7, 6, 2, 10, 11] (Γ' := [(73, .bool (decide (¬ (((xs_1.getD ((timesT (xs_1.map EL.to) i j).toNat) el0).to) = (goL d (((xs_1.getD i.toNat el0).text) ++ ((xs_1.getD j.toNat el0).text))))))), (9, .int .i64 ((xs_1.length : Nat) : Int)), (7, .slice a2_1 xs_1.length c2_1), (6, .bool false), (2, .int .i64 k), (10, .int .i64 i), (11, .int .i64 j)]) rfl ?_
        refine W.ite (p := ¬ (((xs_1.getD ((timesT (xs_1.map EL.to) i j).toNat) el0).to) = (goL d (((xs_1.getD i.toNat el0).text) ++ ((xs_1.getD j.toNat el0).text))))) rfl (fun c106 => ?_) (fun c106 => ?_)
        · skip
          exfalso; exact c106 hti.2.2
        · skip
          refine W.skip (X.then_code ?_)
          refine W.seq ?_
          refine W.region ?_
          refine WL.op rfl (d_move rfl ?_)
          refine WL.op rfl (d_move rfl ?_)
          refine WL.op rfl (d_call ok37 rfl (Ret.calls (times_any a2_1 xs_1 c2_1 0 j w12 (H12.rdT 2 rfl) (Inn.own (H12.hpOf 3 rfl)) (fun z hz => by first | (have h9 := hg.2.2.2.to_len hz; omega) | (rw [hx0] at hz; simp at hz))) fun _ w13 p8 => ?_))
          obtain ⟨rfl, u10⟩ := p8
          have H13 : UpG w [] w13 [[blk w.heap.size #[.slice dca d.cls.length dcc, .int .i64 d.width, .int .i64 d.start, .slice dna d.next.length dnc, .slice dba d.acc.length dbc] 25], [blk w1.heap.size #[.int .i64 x, .int .i64 y] 54], [rowT tyEL (.slice a2_1 xs_1.length c2_1) 45 xs_1], [manyF inEL.row xs_1], [rowT (tyI .i64) (.slice a2_2 ((goL d (((xs_1.getD i.toNat el0).text) ++ ((xs_1.getD j.toNat el0).text))).length) c2_2) 3 (goL d (((xs_1.getD i.toNat el0).text) ++ ((xs_1.getD j.toNat el0).text)))]] := H12.call u10
          refine WL.op rfl (d_move rfl ?_)
          refine WL.op rfl (d_cmp (decide ((timesT (xs_1.map EL.to) 0 j) = j)) rfl rfl rfl ?_)
          refine WL.op rfl (d_move rfl ?_)
          refine WL.part 79 (p := (timesT (xs_1.map EL.to) 0 j) = j) rfl (fun g109 => ?_) (fun g109 => ?_)
          · skip
            refine WL.opG rfl rfl rfl (d_move rfl ?_)
            refine WL.opG rfl rfl rfl (d_move rfl ?_)
            refine WL.opG rfl rfl rfl (d_call ok37 rfl (Ret.calls (times_any a2_1 xs_1 c2_1 i 0 w13 (H13.rdT 2 rfl) (Inn.own (H13.hpOf 3 rfl)) (fun z hz => by first | (have h9 := hg.2.2.2.to_len hz; omega) | (rw [hx0] at hz; simp at hz))) fun _ w14 p9 => ?_))
            obtain ⟨rfl, u11⟩ := p9
            have H14 : UpG w [] w14 [[blk w.heap.size #[.slice dca d.cls.length dcc, .int .i64 d.width, .int .i64 d.start, .slice dna d.next.length dnc, .slice dba d.acc.length dbc] 25], [blk w1.heap.size #[.int .i64 x, .int .i64 y] 54], [rowT tyEL (.slice a2_1 xs_1.length c2_1) 45 xs_1], [manyF inEL.row xs_1], [rowT (tyI .i64) (.slice a2_2 ((goL d (((xs_1.getD i.toNat el0).text) ++ ((xs_1.getD j.toNat el0).text))).length) c2_2) 3 (goL d (((xs_1.getD i.toNat el0).text) ++ ((xs_1.getD j.toNat el0).text)))]] := H13.call u11
            refine WL.opG rfl rfl rfl (d_move rfl ?_)
            refine WL.opG rfl rfl rfl (d_cmp (decide ((timesT (xs_1.map EL.to) i 0) = i)) rfl rfl rfl ?_)
            refine WL.op rfl (d_pick rfl rfl ?_)
            refine WL.op rfl (d_move rfl ?_)
            refine WL.part 86 (p := (timesT (xs_1.map EL.to) i 0) = i) rfl (fun g109x => ?_) (fun g109x => ?_)
            · skip
              refine WL.opG rfl rfl rfl (d_move rfl ?_)
              refine WL.opG rfl rfl rfl (d_cmp (decide (k ≥ (0 : Int))) rfl rfl rfl ?_)
              refine WL.opG rfl rfl rfl (d_move rfl ?_)
              refine WL.part 89 (p := k ≥ (0 : Int)) rfl (fun g109xx => ?_) (fun g109xx => ?_)
              · skip
                refine WL.opG rfl rfl rfl (d_move rfl ?_)
                refine WL.opG rfl rfl rfl (d_move rfl ?_)
                refine WL.opG rfl rfl rfl (d_cmp (decide (k < ((xs_1.length : Nat) : Int))) rfl rfl rfl ?_)
                refine WL.opG rfl rfl rfl (d_pick rfl rfl ?_)
                refine WL.opG rfl rfl rfl (d_move rfl ?_)
                refine WL.part 94 (p := k < ((xs_1.length : Nat) : Int)) rfl (fun g109xxx => ?_) (fun g109xxx => ?_)
                · skip
                  refine WL.opN rfl rfl rfl rfl ?_
                  refine WL.opN rfl rfl rfl rfl ?_
                  refine WL.opN rfl rfl rfl rfl ?_
                  refine WL.opN rfl rfl rfl rfl ?_
                  refine WL.opN rfl rfl rfl rfl ?_
                  refine WL.opN rfl rfl rfl rfl ?_
                  refine WL.opU rfl rfl rfl ?_
                  refine WL.opU rfl rfl rfl ?_
                  refine WL.opU rfl rfl rfl ?_
                  refine WL.opU rfl rfl rfl ?_
                  refine WL.opU rfl rfl rfl ?_
                  refine WL.opN rfl rfl rfl rfl ?_
                  refine WL.opG rfl rfl rfl (d_pick rfl rfl ?_)
                  refine WL.op rfl (d_pick rfl rfl ?_)
                  refine WL.op rfl (d_assign rfl ?_)
                  refine WL.done (X.then_code ?_)
                  refine W.pick [6] (Γ' := [(6, .bool true)]) rfl ?_
                  refine W.ret (X.ret1 rfl rfl ?_)
                  exact ⟨rfl, H14.noneL⟩
                · skip
                  refine WL.opG rfl rfl rfl (d_move rfl ?_)
                  refine WL.opG rfl rfl rfl (d_move rfl ?_)
                  refine WL.opG rfl rfl rfl (d_move rfl ?_)
                  refine WL.opG rfl rfl rfl (d_call ok37 rfl (Ret.calls (times_any a2_1 xs_1 c2_1 i k w14 (H14.rdT 2 rfl) (Inn.own (H14.hpOf 3 rfl)) (fun z hz => by first | (have h9 := hg.2.2.2.to_len hz; omega) | (rw [hx0] at hz; simp at hz))) fun _ w15 p10 => ?_))
                  obtain ⟨rfl, u12⟩ := p10
                  have H15 : UpG w [] w15 [[blk w.heap.size #[.slice dca d.cls.length dcc, .int .i64 d.width, .int .i64 d.start, .slice dna d.next.length dnc, .slice dba d.acc.length dbc] 25], [blk w1.heap.size #[.int .i64 x, .int .i64 y] 54], [rowT tyEL (.slice a2_1 xs_1.length c2_1) 45 xs_1], [manyF inEL.row xs_1], [rowT (tyI .i64) (.slice a2_2 ((goL d (((xs_1.getD i.toNat el0).text) ++ ((xs_1.getD j.toNat el0).text))).length) c2_2) 3 (goL d (((xs_1.getD i.toNat el0).text) ++ ((xs_1.getD j.toNat el0).text)))]] := H14.call u12
                  refine WL.opG rfl rfl rfl (d_cmp (decide ((timesT (xs_1.map EL.to) i k) = (-1 : Int))) rfl rfl rfl ?_)
                  refine WL.opG rfl rfl rfl (d_move rfl ?_)
                  refine WL.part 100 (p := (timesT (xs_1.map EL.to) i k) = (-1 : Int)) rfl (fun g109xxxx => ?_) (fun g109xxxx => ?_)
                  · skip
                    refine WL.opG rfl rfl rfl (d_move rfl ?_)
                    refine WL.opG rfl rfl rfl (d_move rfl ?_)
                    refine WL.opG rfl rfl rfl (d_move rfl ?_)
                    refine WL.opG rfl rfl rfl (d_call ok37 rfl (Ret.calls (times_any a2_1 xs_1 c2_1 k i w15 (H15.rdT 2 rfl) (Inn.own (H15.hpOf 3 rfl)) (fun z hz => by first | (have h9 := hg.2.2.2.to_len hz; omega) | (rw [hx0] at hz; simp at hz))) fun _ w16 p11 => ?_))
                    obtain ⟨rfl, u13⟩ := p11
                    have H16 : UpG w [] w16 [[blk w.heap.size #[.slice dca d.cls.length dcc, .int .i64 d.width, .int .i64 d.start, .slice dna d.next.length dnc, .slice dba d.acc.length dbc] 25], [blk w1.heap.size #[.int .i64 x, .int .i64 y] 54], [rowT tyEL (.slice a2_1 xs_1.length c2_1) 45 xs_1], [manyF inEL.row xs_1], [rowT (tyI .i64) (.slice a2_2 ((goL d (((xs_1.getD i.toNat el0).text) ++ ((xs_1.getD j.toNat el0).text))).length) c2_2) 3 (goL d (((xs_1.getD i.toNat el0).text) ++ ((xs_1.getD j.toNat el0).text)))]] := H15.call u13
                    refine WL.opG rfl rfl rfl (d_cmp (decide ((timesT (xs_1.map EL.to) k i) = (-1 : Int))) rfl rfl rfl ?_)
                    refine WL.opG rfl rfl rfl (d_pick rfl rfl ?_)
                    refine WL.opG rfl rfl rfl (d_pick rfl rfl ?_)
                    refine WL.op rfl (d_pick rfl rfl ?_)
                    refine WL.op rfl (d_assign rfl ?_)
                    refine WL.done (X.then_code ?_)
                    refine W.pick [6] (Γ' := [(6, .bool (decide ((timesT (xs_1.map EL.to) k i) = (-1 : Int))))]) rfl ?_
                    refine W.ret (X.ret1 rfl rfl ?_)
                    exact ⟨(by first | rfl | exact congrArg Value.bool (decide_eq_true (timesT_out (by omega))) | exact absurd (timesT_out (by omega)) g109xxx), H16.noneL⟩
                  · skip
                    exact absurd (timesT_out (by omega)) g109xxxx
              · skip
                refine WL.opN rfl rfl rfl rfl ?_
                refine WL.opN rfl rfl rfl rfl ?_
                refine WL.opN rfl rfl rfl rfl ?_
                refine WL.opG rfl rfl rfl (d_pick rfl rfl ?_)
                refine WL.opG rfl rfl rfl (d_move rfl ?_)
                refine WL.opG rfl rfl rfl (d_move rfl ?_)
                refine WL.opG rfl rfl rfl (d_move rfl ?_)
                refine WL.opG rfl rfl rfl (d_move rfl ?_)
                refine WL.opG rfl rfl rfl (d_call ok37 rfl (Ret.calls (times_any a2_1 xs_1 c2_1 i k w14 (H14.rdT 2 rfl) (Inn.own (H14.hpOf 3 rfl)) (fun z hz => by first | (have h9 := hg.2.2.2.to_len hz; omega) | (rw [hx0] at hz; simp at hz))) fun _ w17 p12 => ?_))
                obtain ⟨rfl, u14⟩ := p12
                have H17 : UpG w [] w17 [[blk w.heap.size #[.slice dca d.cls.length dcc, .int .i64 d.width, .int .i64 d.start, .slice dna d.next.length dnc, .slice dba d.acc.length dbc] 25], [blk w1.heap.size #[.int .i64 x, .int .i64 y] 54], [rowT tyEL (.slice a2_1 xs_1.length c2_1) 45 xs_1], [manyF inEL.row xs_1], [rowT (tyI .i64) (.slice a2_2 ((goL d (((xs_1.getD i.toNat el0).text) ++ ((xs_1.getD j.toNat el0).text))).length) c2_2) 3 (goL d (((xs_1.getD i.toNat el0).text) ++ ((xs_1.getD j.toNat el0).text)))]] := H14.call u14
                refine WL.opG rfl rfl rfl (d_cmp (decide ((timesT (xs_1.map EL.to) i k) = (-1 : Int))) rfl rfl rfl ?_)
                refine WL.opG rfl rfl rfl (d_move rfl ?_)
                refine WL.part 100 (p := (timesT (xs_1.map EL.to) i k) = (-1 : Int)) rfl (fun g109xxx => ?_) (fun g109xxx => ?_)
                · skip
                  refine WL.opG rfl rfl rfl (d_move rfl ?_)
                  refine WL.opG rfl rfl rfl (d_move rfl ?_)
                  refine WL.opG rfl rfl rfl (d_move rfl ?_)
                  refine WL.opG rfl rfl rfl (d_call ok37 rfl (Ret.calls (times_any a2_1 xs_1 c2_1 k i w17 (H17.rdT 2 rfl) (Inn.own (H17.hpOf 3 rfl)) (fun z hz => by first | (have h9 := hg.2.2.2.to_len hz; omega) | (rw [hx0] at hz; simp at hz))) fun _ w18 p13 => ?_))
                  obtain ⟨rfl, u15⟩ := p13
                  have H18 : UpG w [] w18 [[blk w.heap.size #[.slice dca d.cls.length dcc, .int .i64 d.width, .int .i64 d.start, .slice dna d.next.length dnc, .slice dba d.acc.length dbc] 25], [blk w1.heap.size #[.int .i64 x, .int .i64 y] 54], [rowT tyEL (.slice a2_1 xs_1.length c2_1) 45 xs_1], [manyF inEL.row xs_1], [rowT (tyI .i64) (.slice a2_2 ((goL d (((xs_1.getD i.toNat el0).text) ++ ((xs_1.getD j.toNat el0).text))).length) c2_2) 3 (goL d (((xs_1.getD i.toNat el0).text) ++ ((xs_1.getD j.toNat el0).text)))]] := H17.call u15
                  refine WL.opG rfl rfl rfl (d_cmp (decide ((timesT (xs_1.map EL.to) k i) = (-1 : Int))) rfl rfl rfl ?_)
                  refine WL.opG rfl rfl rfl (d_pick rfl rfl ?_)
                  refine WL.opG rfl rfl rfl (d_pick rfl rfl ?_)
                  refine WL.op rfl (d_pick rfl rfl ?_)
                  refine WL.op rfl (d_assign rfl ?_)
                  refine WL.done (X.then_code ?_)
                  refine W.pick [6] (Γ' := [(6, .bool (decide ((timesT (xs_1.map EL.to) k i) = (-1 : Int))))]) rfl ?_
                  refine W.ret (X.ret1 rfl rfl ?_)
                  exact ⟨(by first | rfl | exact congrArg Value.bool (decide_eq_true (timesT_out (by omega))) | exact absurd (timesT_out (by omega)) g109xxx), H18.noneL⟩
                · skip
                  refine WL.opN rfl rfl rfl rfl ?_
                  refine WL.opN rfl rfl rfl rfl ?_
                  refine WL.opN rfl rfl rfl rfl ?_
                  refine WL.opN rfl rfl rfl rfl ?_
                  refine WL.opN rfl rfl rfl rfl ?_
                  refine WL.opG rfl rfl rfl (d_pick rfl rfl ?_)
                  refine WL.opG rfl rfl rfl (d_pick rfl rfl ?_)
                  refine WL.op rfl (d_pick rfl rfl ?_)
                  refine WL.op rfl (d_assign rfl ?_)
                  refine WL.done (X.then_code ?_)
                  refine W.pick [6] (Γ' := [(6, .bool false)]) rfl ?_
                  refine W.ret (X.ret1 rfl rfl ?_)
                  exact ⟨(by first | rfl | exact congrArg Value.bool (decide_eq_true (timesT_out (by omega))) | exact absurd (timesT_out (by omega)) g109xxx), H17.noneL⟩
            · skip
              exact absurd (hT.right hrt hij.1) g109x
          · skip
            exact absurd (hT.left hrt hij.2) g109
end Go.Proofs.Ytoeockpkkmgieaa
