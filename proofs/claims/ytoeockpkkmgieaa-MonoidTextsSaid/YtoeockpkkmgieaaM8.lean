/- The walks of functions, printed by wip/tools/gw.py. -/
import Derived.Test.YtoeockpkkmgieaaF2
import Derived.Test.YtoeockpkkmgieaaSx7
import Derived.Test.YtoeockpkkmgieaaM4
import Derived.Test.YtoeockpkkmgieaaRR
import Derived.Test.YtoeockpkkmgieaaMon7
namespace Go.Proofs.Ytoeockpkkmgieaa
open Go Go.Sx
set_option linter.unusedVariables false
set_option linter.unusedSimpArgs false
set_option maxRecDepth 20000 in
theorem monoidTexts_any (d : DfaD) (dca : Option Addr) (dna : Option Addr) (dba : Option Addr) (dcc : Nat) (dnc : Nat) (dbc : Nat) (text : ByteArray) (w : World) (rcd : RdT (tyI .i64) w (.slice dca d.cls.length dcc) d.cls) (rnd : RdT (tyI .i64) w (.slice dna d.next.length dnc) d.next) (rbd : RdT tyB w (.slice dba d.acc.length dbc) d.acc) :
    Calls Try.prog 6 #[.agg #[.slice dca d.cls.length dcc, .int .i64 d.width, .int .i64 d.start, .slice dna d.next.length dnc, .slice dba d.acc.length dbc], .string text] w (Ret fun v w' => v = .bool true ∧ Upd w [] w' []) := by
  have le_rcd := rcd.le
  have le_rnd := rnd.le
  have le_rbd := rbd.le
  refine calls_of_W (args := [.agg #[.slice dca d.cls.length dcc, .int .i64 d.width, .int .i64 d.start, .slice dna d.next.length dnc, .slice dba d.acc.length dbc], .string text]) Try.func6 rfl rfl rfl ?_
  have H0 : UpG w [] w [] := UpG.nil w
  show W _ _ _ _ [(0, .agg #[.slice dca d.cls.length dcc, .int .i64 d.width, .int .i64 d.start, .slice dna d.next.length dnc, .slice dba d.acc.length dbc]), (1, .string text)] w
  refine W.seq ?_
  refine W.region ?_
  refine WL.op rfl (d_box rfl fun w1 u1 => ?_)
  have H1 : UpG w [] w1 [[blk w.heap.size #[.slice dca d.cls.length dcc, .int .i64 d.width, .int .i64 d.start, .slice dna d.next.length dnc, .slice dba d.acc.length dbc] 25]] := H0.new' u1
  refine WL.op rfl (d_assign rfl ?_)
  refine WL.done (X.then_code ?_)
  refine W.seq ?_
  refine W.seq ?_
  refine W.region ?_
  refine WL.op rfl (d_call ok27 rfl (Ret.calls (awake18_any  w1  ) fun _ w2 p1 => ?_))
  obtain ⟨rfl, u2⟩ := p1
  have H2 : UpG w [] w2 [[blk w.heap.size #[.slice dca d.cls.length dcc, .int .i64 d.width, .int .i64 d.start, .slice dna d.next.length dnc, .slice dba d.acc.length dbc] 25]] := H1.call u2
  refine WL.op rfl (d_notB rfl ?_)
  refine WL.done (X.then_code ?_)
  refine W.iff rfl ?_
  refine W.skip (X.then_code ?_)
  refine W.seq ?_
  refine W.region ?_
  refine WL.op rfl (d_move rfl ?_)
  refine WL.op rfl (d_move rfl ?_)
  refine WL.op rfl (d_lenStr Try.underlying9 rfl ?_)
  refine WL.op rfl (d_min rfl rfl ?_)
  refine WL.op rfl (d_substrN 0 (min ((text.size : Nat) : Int) 30) 0 ((min ((text.size : Nat) : Int) 30).toNat) Try.underlying9 rfl rfl rfl (.inl ⟨rfl, rfl⟩) (.inr ⟨_, rfl⟩) (by omega) (by omega) ⟨by omega, by omega, by omega⟩ ?_)
  refine WL.op rfl (d_assign rfl ?_)
  refine WL.done (X.then_code ?_)
  refine W.seq ?_
  refine W.seq ?_
  refine W.region ?_
  refine WL.op rfl (d_loadAB [.slice dca d.cls.length dcc, .int .i64 d.width, .int .i64 d.start, .slice dna d.next.length dnc, .slice dba d.acc.length dbc] Try.underlying25 rfl sz25 rfl (H2.blk 0 rfl) rfl rfl ?_)
  refine WL.op rfl (d_call ok28 rfl (Ret.calls (small18_any d dca dna dba dcc dnc dbc w2 (rcd.at H2) (rnd.at H2) (rbd.at H2) ) fun _ w3 p2 => ?_))
  obtain ⟨rfl, u3⟩ := p2
  have H3 : UpG w [] w3 [[blk w.heap.size #[.slice dca d.cls.length dcc, .int .i64 d.width, .int .i64 d.start, .slice dna d.next.length dnc, .slice dba d.acc.length dbc] 25]] := H2.call u3
  refine WL.op rfl (d_notB rfl ?_)
  refine WL.done (X.then_code ?_)
  refine W.iteB (b := !(decide (d.acc.length ≤ 6 ∧ d.next.length ≤ 2000 ∧ d.cls.length ≤ 300))) rfl (fun c70 => ?_) (fun c70 => ?_)
  · skip
    refine W.seq ?_
    refine W.region ?_
    refine WL.op rfl (d_assign rfl ?_)
    refine WL.done (X.then_code ?_)
    refine W.ret (X.then_ret (X.ret1 rfl rfl ?_))
    exact ⟨rfl, H3.noneL⟩
  · skip
    refine W.skip (X.then_code ?_)
    refine W.seq ?_
    refine W.region ?_
    refine WL.op rfl (d_loadAB [.slice dca d.cls.length dcc, .int .i64 d.width, .int .i64 d.start, .slice dna d.next.length dnc, .slice dba d.acc.length dbc] Try.underlying25 rfl sz25 rfl (H3.blk 0 rfl) rfl rfl ?_)
    refine WL.op rfl (d_call ok29 rfl (Ret.calls (elements_any d dca dna dba dcc dnc dbc 60 w3 (rcd.at H3) (rnd.at H3) (rbd.at H3) (by decide)) fun _ w4 p3 => ?_))
    obtain ⟨a2_1, xs_1, c2_1, ec_1, rfl, u4, q1⟩ := p3
    have H4 : UpG w [] w4 [[blk w.heap.size #[.slice dca d.cls.length dcc, .int .i64 d.width, .int .i64 d.start, .slice dna d.next.length dnc, .slice dba d.acc.length dbc] 25], [rowT tyEL (.slice a2_1 xs_1.length c2_1) 45 xs_1], [manyF inEL.row xs_1]] := (H3.new' u4).re rfl
    refine WL.op rfl (d_move rfl ?_)
    refine WL.op rfl (d_extract rfl rfl ?_)
    refine WL.op rfl (d_extract rfl rfl ?_)
    refine WL.op rfl (d_assign rfl ?_)
    refine WL.op rfl (d_assign rfl ?_)
    refine WL.done (X.then_code ?_)
    refine W.seq ?_
    refine W.seq ?_
    refine W.region ?_
    refine WL.op rfl (d_move rfl ?_)
    refine WL.op rfl (d_cmp (decide (ec_1 ≠ (0 : Int))) rfl rfl rfl ?_)
    refine WL.done (X.then_code ?_)
    refine W.ite (p := ec_1 ≠ (0 : Int)) rfl (fun c74 => ?_) (fun c74 => ?_)
    · skip
      refine W.seq ?_
      have hx0 : xs_1 = [] := q1.nil c74
      refine W.region ?_
      refine WL.op rfl (d_move rfl ?_)
      refine WL.op rfl (d_lenS Try.underlying35 rfl ?_)
      refine WL.op rfl (d_cmp (decide (((xs_1.length : Nat) : Int) = (0 : Int))) rfl rfl rfl ?_)
      refine WL.op rfl (d_move rfl ?_)
      refine WL.part 30 (p := ((xs_1.length : Nat) : Int) = (0 : Int)) rfl (fun g75 => ?_) (fun g75 => ?_)
      · skip
        refine WL.opG rfl rfl rfl (d_move rfl ?_)
        refine WL.opG rfl rfl rfl (d_cmp (decide (ec_1 = (5 : Int))) rfl rfl rfl ?_)
        refine WL.opG rfl rfl rfl (d_move rfl ?_)
        refine WL.part 33 (p := ec_1 = (5 : Int)) rfl (fun g75x => ?_) (fun g75x => ?_)
        · skip
          refine WL.opN rfl rfl rfl rfl ?_
          refine WL.opN rfl rfl rfl rfl ?_
          refine WL.opN rfl rfl rfl rfl ?_
          refine WL.opG rfl rfl rfl (d_pick rfl rfl ?_)
          refine WL.op rfl (d_pick rfl rfl ?_)
          refine WL.op rfl (d_assign rfl ?_)
          refine WL.done (X.then_code ?_)
          refine W.pick [4] (Γ' := [(4, .bool true)]) rfl ?_
          refine W.ret (X.then_ret (X.ret1 rfl rfl ?_))
          exact ⟨rfl, H4.noneL⟩
        · skip
          refine WL.opG rfl rfl rfl (d_loadAB [.slice dca d.cls.length dcc, .int .i64 d.width, .int .i64 d.start, .slice dna d.next.length dnc, .slice dba d.acc.length dbc] Try.underlying25 rfl sz25 rfl (H4.blk 0 rfl) rfl rfl ?_)
          refine WL.opG rfl rfl rfl (d_call ok20 rfl (Ret.calls (refRight_any d dca dna dba dcc dnc dbc w4 (rcd.at H4) (rnd.at H4) (rbd.at H4) ) fun _ w5 p4 => ?_))
          obtain ⟨rfl, u5⟩ := p4
          have H5 : UpG w [] w5 [[blk w.heap.size #[.slice dca d.cls.length dcc, .int .i64 d.width, .int .i64 d.start, .slice dna d.next.length dnc, .slice dba d.acc.length dbc] 25], [rowT tyEL (.slice a2_1 xs_1.length c2_1) 45 xs_1], [manyF inEL.row xs_1]] := H4.call u5
          refine WL.opG rfl rfl rfl (d_notB rfl ?_)
          refine WL.opG rfl rfl rfl (d_pick rfl rfl ?_)
          refine WL.op rfl (d_pick rfl rfl ?_)
          refine WL.op rfl (d_assign rfl ?_)
          refine WL.done (X.then_code ?_)
          refine W.pick [4] (Γ' := [(4, .bool (!(rightB d)))]) rfl ?_
          refine W.ret (X.then_ret (X.ret1 rfl rfl ?_))
          exact ⟨(by first | rfl | exact congrArg Value.bool (by rw [q1.wrong c74 g75x]; rfl)), H5.noneL⟩
      · skip
        exact absurd (by rw [hx0]; rfl) g75
    · skip
      refine W.skip (X.then_code ?_)
      refine W.seq ?_
      have hg := q1.good (by omega)
      have hrt := hg.1
      have hT := ElT.of hg.2.1 hg.2.2.1 hg.2.2.2
      have hxl : xs_1.length ≤ 60 := by have h9 := els_len hg.2.2.1; have h8 := hg.2.1; omega
      have hri := rightB_iff.1 hrt
      have htz : (text.extract 0 (min ((text.size : Nat) : Int) 30).toNat).size ≤ 30 := by simp; omega
      refine W.region ?_
      refine WL.op rfl (d_loadAB [.slice dca d.cls.length dcc, .int .i64 d.width, .int .i64 d.start, .slice dna d.next.length dnc, .slice dba d.acc.length dbc] Try.underlying25 rfl sz25 rfl (H4.blk 0 rfl) rfl rfl ?_)
      refine WL.op rfl (d_move rfl ?_)
      refine WL.op rfl (d_call ok36 rfl (Ret.calls (goR_any d dca dna dba dcc dnc dbc (text.extract 0 ((min ((text.size : Nat) : Int) 30).toNat)) w4 (rcd.at H4) (rnd.at H4) (rbd.at H4) hrt (by omega)) fun _ w6 p5 => ?_))
      obtain ⟨a2_2, c2_2, rfl, u6⟩ := p5
      have H6 : UpG w [] w6 [[blk w.heap.size #[.slice dca d.cls.length dcc, .int .i64 d.width, .int .i64 d.start, .slice dna d.next.length dnc, .slice dba d.acc.length dbc] 25], [rowT tyEL (.slice a2_1 xs_1.length c2_1) 45 xs_1], [manyF inEL.row xs_1], [rowT (tyI .i64) (.slice a2_2 ((goL d (text.extract 0 ((min ((text.size : Nat) : Int) 30).toNat))).length) c2_2) 3 (goL d (text.extract 0 ((min ((text.size : Nat) : Int) 30).toNat)))]] := (H4.new' u6).re rfl
      refine WL.op rfl (d_assign rfl ?_)
      refine WL.done (X.then_code ?_)
      refine W.seq ?_
      refine W.region ?_
      refine WL.op rfl (d_assign rfl ?_)
      refine WL.done (X.then_code ?_)
      refine W.seq ?_
      refine W.seq ?_
      refine W.region ?_
      refine WL.op rfl (d_assign rfl ?_)
      refine WL.done (X.then_code ?_)
      refine W.block ?_
      refine W.pick [9, 8, 7, 5, 1, 4, 2] (Γ' := [(9, .int .i64 0), (8, .int .i64 0), (7, .slice a2_2 ((goL d (text.extract 0 ((min ((text.size : Nat) : Int) 30).toNat))).length) c2_2), (5, .slice a2_1 xs_1.length c2_1), (1, .string (text.extract 0 ((min ((text.size : Nat) : Int) 30).toNat))), (4, .bool false), (2, .pointer (some ⟨w.heap.size, 0, none⟩))]) rfl ?_
      refine W.loop (fun m Γ' w' => ∃ k : Nat, ∃ ct : Int, Γ' = [(9, .int .i64 ((k : Nat) : Int)), (8, .int .i64 ct), (7, .slice a2_2 ((goL d (text.extract 0 ((min ((text.size : Nat) : Int) 30).toNat))).length) c2_2), (5, .slice a2_1 xs_1.length c2_1), (1, .string (text.extract 0 ((min ((text.size : Nat) : Int) 30).toNat))), (4, .bool false), (2, .pointer (some ⟨w.heap.size, 0, none⟩))] ∧ UpG w [] w' [[blk w.heap.size #[.slice dca d.cls.length dcc, .int .i64 d.width, .int .i64 d.start, .slice dna d.next.length dnc, .slice dba d.acc.length dbc] 25], [rowT tyEL (.slice a2_1 xs_1.length c2_1) 45 xs_1], [manyF inEL.row xs_1], [rowT (tyI .i64) (.slice a2_2 ((goL d (text.extract 0 ((min ((text.size : Nat) : Int) 30).toNat))).length) c2_2) 3 (goL d (text.extract 0 ((min ((text.size : Nat) : Int) 30).toNat)))]] ∧ (k ≤ xs_1.length) ∧ (ct = cntW (xs_1.map EL.to) (goL d (text.extract 0 (min ((text.size : Nat) : Int) 30).toNat)) k) ∧ m = xs_1.length - k) (xs_1.length - 0) ⟨0, 0, rfl, H6, (by first | assumption | omega | simp), (by exact (cntW_zero _ _).symm), rfl⟩ ?_
      rintro m1 Γ1 w7 ⟨k, ct, rfl, H7, hk, hct, rfl⟩
      refine W.seq ?_
      refine W.seq ?_
      refine W.region ?_
      refine WL.op rfl (d_move rfl ?_)
      refine WL.op rfl (d_move rfl ?_)
      refine WL.op rfl (d_lenS Try.underlying35 rfl ?_)
      refine WL.op rfl (d_cmp (decide (((k : Nat) : Int) < ((xs_1.length : Nat) : Int))) rfl rfl rfl ?_)
      refine WL.done (X.then_code ?_)
      refine W.ite (p := ((k : Nat) : Int) < ((xs_1.length : Nat) : Int)) rfl (fun c79 => ?_) (fun c79 => ?_)
      · skip
        refine W.skip (X.then_code ?_)
        refine W.seq ?_
        refine W.block ?_
        refine W.seq ?_
        refine W.seq ?_
        refine W.region ?_
        refine WL.op rfl (d_move rfl ?_)
        refine WL.op rfl (d_move rfl ?_)
        refine WL.op rfl (t_addrN k (T := tyEL) rfl Try.underlying35 sz45 rfl rfl (H7.rdT 1 rfl) rfl (by omega) ?_)
        refine WL.op rfl (t_fld k el0 (T := tyEL) rfl fld45_0 rfl rfl (H7.rdT 1 rfl) (by omega) ?_)
        refine WL.op rfl (t_loadF k el0 (T := tyEL) rfl rfl Try.underlying22 rfl rfl (H7.rdT 1 rfl) (by omega) rfl ?_)
        refine WL.op rfl (d_move rfl ?_)
        refine WL.op rfl (d_call ok32 rfl (Ret.calls (same10_any ((xs_1.getD k el0).a) ((xs_1.getD k el0).to) ((xs_1.getD k el0).c) ((xs_1.getD k el0).n) a2_2 (goL d (text.extract 0 ((min ((text.size : Nat) : Int) 30).toNat))) c2_2 ((goL d (text.extract 0 ((min ((text.size : Nat) : Int) 30).toNat))).length) w7 (show RdT (tyI .i64) w7 (.slice ((xs_1.getD k el0).a) ((xs_1.getD k el0).n) ((xs_1.getD k el0).c)) ((xs_1.getD k el0).to) from (Inn.own (H7.hpOf 2 rfl)).get el0 k (by omega)) (H7.rdT 3 rfl) ) fun _ w8 p6 => ?_))
        obtain ⟨rfl, u7⟩ := p6
        have H8 : UpG w [] w8 [[blk w.heap.size #[.slice dca d.cls.length dcc, .int .i64 d.width, .int .i64 d.start, .slice dna d.next.length dnc, .slice dba d.acc.length dbc] 25], [rowT tyEL (.slice a2_1 xs_1.length c2_1) 45 xs_1], [manyF inEL.row xs_1], [rowT (tyI .i64) (.slice a2_2 ((goL d (text.extract 0 ((min ((text.size : Nat) : Int) 30).toNat))).length) c2_2) 3 (goL d (text.extract 0 ((min ((text.size : Nat) : Int) 30).toNat)))]] := H7.call u7
        refine WL.op rfl (d_not (p := ((xs_1.getD k el0).to) = (goL d (text.extract 0 ((min ((text.size : Nat) : Int) 30).toNat)))) rfl ?_)
        refine WL.done (X.then_code ?_)
        refine W.ite (p := ¬ (((xs_1.getD k el0).to) = (goL d (text.extract 0 ((min ((text.size : Nat) : Int) 30).toNat))))) rfl (fun c80 => ?_) (fun c80 => ?_)
        · skip
          refine W.exit (X.then_exit (X.block_exit (X.then_code ?_)))
          refine W.region ?_
          refine WL.op rfl (d_move rfl ?_)
          refine WL.op rfl (d_add rfl rfl (by omega) (by omega) ?_)
          refine WL.op rfl (d_assign rfl ?_)
          refine WL.done ?_
          exact X.next [9, 8, 7, 5, 1, 4, 2] (Γ' := [(9, .int .i64 (((k + 1) : Nat) : Int)), (8, .int .i64 ct), (7, .slice a2_2 ((goL d (text.extract 0 ((min ((text.size : Nat) : Int) 30).toNat))).length) c2_2), (5, .slice a2_1 xs_1.length c2_1), (1, .string (text.extract 0 ((min ((text.size : Nat) : Int) 30).toNat))), (4, .bool false), (2, .pointer (some ⟨w.heap.size, 0, none⟩))]) rfl (xs_1.length - (k + 1)) (by omega) ⟨k + 1, ct, rfl, H8, (by first | assumption | omega | simp), (by first | (rw [hct]; exact cntW_yes hT.nd (by omega) (Classical.not_not.1 c80)) | (rw [hct]; exact cntW_no (by omega) (hT.all _) c80)), rfl⟩
        · skip
          refine W.skip (X.then_code ?_)
          refine W.seq ?_
          have hcb := cntW_bd (xs_1.map EL.to) (goL d (text.extract 0 (min ((text.size : Nat) : Int) 30).toNat)) k
          rw [← hct] at hcb
          have hto : (xs_1.getD k el0).to = goL d (text.extract 0 (min ((text.size : Nat) : Int) 30).toNat) := Classical.not_not.1 c80
          have hls := ElT.least hg.2.1 hg.2.2.1 hT (i := k) (by omega) hto
          have hsd := sle_said hls
          have hsd1 := hsd.1
          have hks := hg.2.2.2.sz k (by omega)
          refine W.region ?_
          refine WL.op rfl (d_move rfl ?_)
          refine WL.op rfl (d_add rfl rfl (by omega) (by omega) ?_)
          refine WL.op rfl (d_assign rfl ?_)
          refine WL.done (X.then_code ?_)
          refine W.seq ?_
          refine W.regionD mixed (by kernel_rfl) fun hok1 w9 k1 => ?_
          have H9 : UpG w [] w9 [[blk w.heap.size #[.slice dca d.cls.length dcc, .int .i64 d.width, .int .i64 d.start, .slice dna d.next.length dnc, .slice dba d.acc.length dbc] 25], [rowT tyEL (.slice a2_1 xs_1.length c2_1) 45 xs_1], [manyF inEL.row xs_1], [rowT (tyI .i64) (.slice a2_2 ((goL d (text.extract 0 ((min ((text.size : Nat) : Int) 30).toNat))).length) c2_2) 3 (goL d (text.extract 0 ((min ((text.size : Nat) : Int) 30).toNat)))]] := H8.kept k1
          refine WD.take hok1 0 (.slice a2_1 xs_1.length c2_1) (fun _ => True) rfl rfl rfl rfl rfl trivial (.inl ⟨rfl, fun _ _ => d_move rfl ⟨rfl, rfl⟩⟩) ?_
          refine WD.take hok1 1 (.int .i64 ((k : Nat) : Int)) (fun _ => True) rfl rfl rfl rfl rfl trivial (.inl ⟨rfl, fun _ _ => d_move rfl ⟨rfl, rfl⟩⟩) ?_
          refine WD.take hok1 2 (elemPtr (.slice a2_1 xs_1.length c2_1) (k * 2)) (fun w' => RdT tyEL w' (.slice a2_1 xs_1.length c2_1) xs_1) rfl rfl rfl rfl rfl (H9.rdT 1 rfl) (.inl ⟨rfl, fun _ hC => t_addrN k (T := tyEL) rfl Try.underlying35 sz45 rfl rfl hC rfl (by omega) ⟨rfl, rfl⟩⟩) ?_
          refine WD.take hok1 3 (elemPtr (.slice a2_1 xs_1.length c2_1) (k * 2 + 1)) (fun w' => RdT tyEL w' (.slice a2_1 xs_1.length c2_1) xs_1) rfl rfl rfl rfl rfl (H9.rdT 1 rfl) (.inl ⟨rfl, fun _ hC => t_fld k el0 (T := tyEL) rfl fld45_1 rfl rfl hC (by omega) ⟨rfl, rfl⟩⟩) ?_
          refine WD.take hok1 4 (.string ((xs_1.getD k el0).text)) (fun w' => RdT tyEL w' (.slice a2_1 xs_1.length c2_1) xs_1) rfl rfl rfl rfl rfl (H9.rdT 1 rfl) (.inl ⟨rfl, fun _ hC => t_loadF k el0 (T := tyEL) rfl rfl Try.underlying9 rfl rfl hC (by omega) rfl ⟨rfl, rfl⟩⟩) ?_
          refine WD.take hok1 5 (.int .i64 ((((xs_1.getD k el0).text).size : Nat) : Int)) (fun _ => True) rfl rfl rfl rfl rfl trivial (.inl ⟨rfl, fun _ _ => d_lenStr Try.underlying9 rfl ⟨rfl, rfl⟩⟩) ?_
          refine WD.take hok1 6 (.string (text.extract 0 ((min ((text.size : Nat) : Int) 30).toNat))) (fun _ => True) rfl rfl rfl rfl rfl trivial (.inl ⟨rfl, fun _ _ => d_move rfl ⟨rfl, rfl⟩⟩) ?_
          refine WD.take hok1 7 (.int .i64 (((text.extract 0 ((min ((text.size : Nat) : Int) 30).toNat)).size : Nat) : Int)) (fun _ => True) rfl rfl rfl rfl rfl trivial (.inl ⟨rfl, fun _ _ => d_lenStr Try.underlying9 rfl ⟨rfl, rfl⟩⟩) ?_
          refine WD.take hok1 8 (.bool (decide (((((xs_1.getD k el0).text).size : Nat) : Int) > (((text.extract 0 ((min ((text.size : Nat) : Int) 30).toNat)).size : Nat) : Int)))) (fun _ => True) rfl rfl rfl rfl rfl trivial (.inl ⟨rfl, fun _ _ => d_cmp (decide (((((xs_1.getD k el0).text).size : Nat) : Int) > (((text.extract 0 ((min ((text.size : Nat) : Int) 30).toNat)).size : Nat) : Int))) rfl rfl rfl ⟨rfl, rfl⟩⟩) ?_
          refine WD.take hok1 9 (.bool (decide (((((xs_1.getD k el0).text).size : Nat) : Int) > (((text.extract 0 ((min ((text.size : Nat) : Int) 30).toNat)).size : Nat) : Int)))) (fun _ => True) rfl rfl rfl rfl rfl trivial (.inl ⟨rfl, fun _ _ => d_move rfl ⟨rfl, rfl⟩⟩) ?_
          refine WD.part 67 (p := ((((xs_1.getD k el0).text).size : Nat) : Int) > (((text.extract 0 ((min ((text.size : Nat) : Int) 30).toNat)).size : Nat) : Int)) rfl (fun g84 => ?_) (fun g84 => ?_)
          · skip
            omega
          · skip
            refine WD.take hok1 10 (.slice a2_1 xs_1.length c2_1) (fun _ => True) rfl rfl rfl rfl rfl trivial (.inl ⟨rfl, fun _ _ => d_move rfl ⟨rfl, rfl⟩⟩) ?_
            refine WD.take hok1 11 (.int .i64 ((k : Nat) : Int)) (fun _ => True) rfl rfl rfl rfl rfl trivial (.inl ⟨rfl, fun _ _ => d_move rfl ⟨rfl, rfl⟩⟩) ?_
            refine WD.take hok1 12 (elemPtr (.slice a2_1 xs_1.length c2_1) (k * 2)) (fun w' => RdT tyEL w' (.slice a2_1 xs_1.length c2_1) xs_1) rfl rfl rfl rfl rfl (H9.rdT 1 rfl) (.inl ⟨rfl, fun _ hC => t_addrN k (T := tyEL) rfl Try.underlying35 sz45 rfl rfl hC rfl (by omega) ⟨rfl, rfl⟩⟩) ?_
            refine WD.take hok1 13 (elemPtr (.slice a2_1 xs_1.length c2_1) (k * 2 + 1)) (fun w' => RdT tyEL w' (.slice a2_1 xs_1.length c2_1) xs_1) rfl rfl rfl rfl rfl (H9.rdT 1 rfl) (.inl ⟨rfl, fun _ hC => t_fld k el0 (T := tyEL) rfl fld45_1 rfl rfl hC (by omega) ⟨rfl, rfl⟩⟩) ?_
            refine WD.take hok1 14 (.string ((xs_1.getD k el0).text)) (fun w' => RdT tyEL w' (.slice a2_1 xs_1.length c2_1) xs_1) rfl rfl rfl rfl rfl (H9.rdT 1 rfl) (.inl ⟨rfl, fun _ hC => t_loadF k el0 (T := tyEL) rfl rfl Try.underlying9 rfl rfl hC (by omega) rfl ⟨rfl, rfl⟩⟩) ?_
            refine WD.take hok1 15 (.int .i64 ((((xs_1.getD k el0).text).size : Nat) : Int)) (fun _ => True) rfl rfl rfl rfl rfl trivial (.inl ⟨rfl, fun _ _ => d_lenStr Try.underlying9 rfl ⟨rfl, rfl⟩⟩) ?_
            refine WD.take hok1 16 (.string (text.extract 0 ((min ((text.size : Nat) : Int) 30).toNat))) (fun _ => True) rfl rfl rfl rfl rfl trivial (.inl ⟨rfl, fun _ _ => d_move rfl ⟨rfl, rfl⟩⟩) ?_
            refine WD.take hok1 17 (.int .i64 (((text.extract 0 ((min ((text.size : Nat) : Int) 30).toNat)).size : Nat) : Int)) (fun _ => True) rfl rfl rfl rfl rfl trivial (.inl ⟨rfl, fun _ _ => d_lenStr Try.underlying9 rfl ⟨rfl, rfl⟩⟩) ?_
            refine WD.take hok1 18 (.bool (decide (((((xs_1.getD k el0).text).size : Nat) : Int) = (((text.extract 0 ((min ((text.size : Nat) : Int) 30).toNat)).size : Nat) : Int)))) (fun _ => True) rfl rfl rfl rfl rfl trivial (.inl ⟨rfl, fun _ _ => d_cmp (decide (((((xs_1.getD k el0).text).size : Nat) : Int) = (((text.extract 0 ((min ((text.size : Nat) : Int) 30).toNat)).size : Nat) : Int))) rfl rfl rfl ⟨rfl, rfl⟩⟩) ?_
            refine WD.take hok1 19 (.bool (decide (((((xs_1.getD k el0).text).size : Nat) : Int) = (((text.extract 0 ((min ((text.size : Nat) : Int) 30).toNat)).size : Nat) : Int)))) (fun _ => True) rfl rfl rfl rfl rfl trivial (.inl ⟨rfl, fun _ _ => d_move rfl ⟨rfl, rfl⟩⟩) ?_
            refine WD.part 77 (p := ((((xs_1.getD k el0).text).size : Nat) : Int) = (((text.extract 0 ((min ((text.size : Nat) : Int) 30).toNat)).size : Nat) : Int)) rfl (fun g84x => ?_) (fun g84x => ?_)
            · skip
              refine WD.take hok1 20 (.slice a2_1 xs_1.length c2_1) (fun _ => True) rfl rfl rfl rfl rfl trivial (.inl ⟨rfl, fun _ _ => d_move rfl ⟨rfl, rfl⟩⟩) ?_
              refine WD.take hok1 21 (.int .i64 ((k : Nat) : Int)) (fun _ => True) rfl rfl rfl rfl rfl trivial (.inl ⟨rfl, fun _ _ => d_move rfl ⟨rfl, rfl⟩⟩) ?_
              refine WD.take hok1 22 (elemPtr (.slice a2_1 xs_1.length c2_1) (k * 2)) (fun w' => RdT tyEL w' (.slice a2_1 xs_1.length c2_1) xs_1) rfl rfl rfl rfl rfl (H9.rdT 1 rfl) (.inl ⟨rfl, fun _ hC => t_addrN k (T := tyEL) rfl Try.underlying35 sz45 rfl rfl hC rfl (by omega) ⟨rfl, rfl⟩⟩) ?_
              refine WD.take hok1 23 (elemPtr (.slice a2_1 xs_1.length c2_1) (k * 2 + 1)) (fun w' => RdT tyEL w' (.slice a2_1 xs_1.length c2_1) xs_1) rfl rfl rfl rfl rfl (H9.rdT 1 rfl) (.inl ⟨rfl, fun _ hC => t_fld k el0 (T := tyEL) rfl fld45_1 rfl rfl hC (by omega) ⟨rfl, rfl⟩⟩) ?_
              refine WD.take hok1 24 (.string ((xs_1.getD k el0).text)) (fun w' => RdT tyEL w' (.slice a2_1 xs_1.length c2_1) xs_1) rfl rfl rfl rfl rfl (H9.rdT 1 rfl) (.inl ⟨rfl, fun _ hC => t_loadF k el0 (T := tyEL) rfl rfl Try.underlying9 rfl rfl hC (by omega) rfl ⟨rfl, rfl⟩⟩) ?_
              refine WD.take hok1 25 (.string (text.extract 0 ((min ((text.size : Nat) : Int) 30).toNat))) (fun _ => True) rfl rfl rfl rfl rfl trivial (.inl ⟨rfl, fun _ _ => d_move rfl ⟨rfl, rfl⟩⟩) ?_
              refine WD.take hok1 26 (.bool (strCmp .gtr ((xs_1.getD k el0).text) (text.extract 0 ((min ((text.size : Nat) : Int) 30).toNat)))) (fun _ => True) rfl rfl rfl rfl rfl trivial (.inl ⟨rfl, fun _ _ => d_strcmp rfl rfl rfl ⟨rfl, rfl⟩⟩) ?_
              refine WD.take hok1 27 (.bool (strCmp .gtr ((xs_1.getD k el0).text) (text.extract 0 ((min ((text.size : Nat) : Int) 30).toNat)))) (fun _ => True) rfl rfl rfl rfl rfl trivial (.inl ⟨rfl, fun _ _ => d_pick rfl rfl ⟨rfl, rfl⟩⟩) ?_
              refine WD.take hok1 28 (.bool (strCmp .gtr ((xs_1.getD k el0).text) (text.extract 0 ((min ((text.size : Nat) : Int) 30).toNat)))) (fun _ => True) rfl rfl rfl rfl rfl trivial (.inl ⟨rfl, fun _ _ => d_pick rfl rfl ⟨rfl, rfl⟩⟩) ?_
              refine WD.take hok1 29 (.bool (strCmp .gtr ((xs_1.getD k el0).text) (text.extract 0 ((min ((text.size : Nat) : Int) 30).toNat)))) (fun _ => True) rfl rfl rfl rfl rfl trivial (.inl ⟨rfl, fun _ _ => d_move rfl ⟨rfl, rfl⟩⟩) ?_
              refine WD.partB 87 (b := strCmp .gtr ((xs_1.getD k el0).text) (text.extract 0 ((min ((text.size : Nat) : Int) 30).toNat))) rfl (fun g84xx => ?_) (fun g84xx => ?_)
              · skip
                exact absurd (hsd.2 (by omega)) (by rw [g84xx]; decide)
              · skip
                refine WD.take hok1 30 (.agg #[.slice dca d.cls.length dcc, .int .i64 d.width, .int .i64 d.start, .slice dna d.next.length dnc, .slice dba d.acc.length dbc]) (fun w' => w'.heap[w.heap.size]? = some (.cells #[.slice dca d.cls.length dcc, .int .i64 d.width, .int .i64 d.start, .slice dna d.next.length dnc, .slice dba d.acc.length dbc] 25 (0, 0))) rfl rfl rfl rfl rfl (H9.blk 0 rfl) (.inl ⟨rfl, fun _ hC => d_loadAB [.slice dca d.cls.length dcc, .int .i64 d.width, .int .i64 d.start, .slice dna d.next.length dnc, .slice dba d.acc.length dbc] Try.underlying25 rfl sz25 rfl hC rfl rfl ⟨rfl, rfl⟩⟩) ?_
                refine WD.take hok1 31 (.slice a2_1 xs_1.length c2_1) (fun _ => True) rfl rfl rfl rfl rfl trivial (.inl ⟨rfl, fun _ _ => d_move rfl ⟨rfl, rfl⟩⟩) ?_
                refine WD.take hok1 32 (.int .i64 ((k : Nat) : Int)) (fun _ => True) rfl rfl rfl rfl rfl trivial (.inl ⟨rfl, fun _ _ => d_move rfl ⟨rfl, rfl⟩⟩) ?_
                refine WD.take hok1 33 (elemPtr (.slice a2_1 xs_1.length c2_1) (k * 2)) (fun w' => RdT tyEL w' (.slice a2_1 xs_1.length c2_1) xs_1) rfl rfl rfl rfl rfl (H9.rdT 1 rfl) (.inl ⟨rfl, fun _ hC => t_addrN k (T := tyEL) rfl Try.underlying35 sz45 rfl rfl hC rfl (by omega) ⟨rfl, rfl⟩⟩) ?_
                refine WD.take hok1 34 (elemPtr (.slice a2_1 xs_1.length c2_1) (k * 2 + 1)) (fun w' => RdT tyEL w' (.slice a2_1 xs_1.length c2_1) xs_1) rfl rfl rfl rfl rfl (H9.rdT 1 rfl) (.inl ⟨rfl, fun _ hC => t_fld k el0 (T := tyEL) rfl fld45_1 rfl rfl hC (by omega) ⟨rfl, rfl⟩⟩) ?_
                refine WD.take hok1 35 (.string ((xs_1.getD k el0).text)) (fun w' => RdT tyEL w' (.slice a2_1 xs_1.length c2_1) xs_1) rfl rfl rfl rfl rfl (H9.rdT 1 rfl) (.inl ⟨rfl, fun _ hC => t_loadF k el0 (T := tyEL) rfl rfl Try.underlying9 rfl rfl hC (by omega) rfl ⟨rfl, rfl⟩⟩) ?_
                refine WD.take hok1 37 (.slice a2_2 ((goL d (text.extract 0 ((min ((text.size : Nat) : Int) 30).toNat))).length) c2_2) (fun _ => True) rfl rfl rfl rfl rfl trivial (.inl ⟨rfl, fun _ _ => d_move rfl ⟨rfl, rfl⟩⟩) ?_
                refine WD.loud hok1 36 rfl (⟨_, [⟨37, .slice a2_2 ((goL d (text.extract 0 ((min ((text.size : Nat) : Int) 30).toNat))).length) c2_2, (fun _ => True)⟩], rfl, rfl, rfl, rfl, rfl, rfl, d_call ok36 rfl (Ret.calls (goR_any d dca dna dba dcc dnc dbc ((xs_1.getD k el0).text) w9 (rcd.at H9) (rnd.at H9) (rbd.at H9) hrt (by omega)) fun _ w10 p7 => ?_)⟩)
                obtain ⟨a2_3, c2_3, rfl, u8⟩ := p7
                have H10 : UpG w [] w10 [[blk w.heap.size #[.slice dca d.cls.length dcc, .int .i64 d.width, .int .i64 d.start, .slice dna d.next.length dnc, .slice dba d.acc.length dbc] 25], [rowT tyEL (.slice a2_1 xs_1.length c2_1) 45 xs_1], [manyF inEL.row xs_1], [rowT (tyI .i64) (.slice a2_2 ((goL d (text.extract 0 ((min ((text.size : Nat) : Int) 30).toNat))).length) c2_2) 3 (goL d (text.extract 0 ((min ((text.size : Nat) : Int) 30).toNat)))], [rowT (tyI .i64) (.slice a2_3 ((goL d ((xs_1.getD k el0).text)).length) c2_3) 3 (goL d ((xs_1.getD k el0).text))]] := (H9.new' u8).re rfl
                refine ⟨⟨trivial, trivial⟩, ?_⟩
                refine WD.loud hok1 38 rfl (⟨_, [], rfl, rfl, rfl, rfl, rfl, rfl, d_call ok32 rfl (Ret.calls (same10_any a2_3 (goL d ((xs_1.getD k el0).text)) c2_3 ((goL d ((xs_1.getD k el0).text)).length) a2_2 (goL d (text.extract 0 ((min ((text.size : Nat) : Int) 30).toNat))) c2_2 ((goL d (text.extract 0 ((min ((text.size : Nat) : Int) 30).toNat))).length) w10 (H10.rdT 4 rfl) (H10.rdT 3 rfl) ) fun _ w11 p8 => ?_)⟩)
                obtain ⟨rfl, u9⟩ := p8
                have H11 : UpG w [] w11 [[blk w.heap.size #[.slice dca d.cls.length dcc, .int .i64 d.width, .int .i64 d.start, .slice dna d.next.length dnc, .slice dba d.acc.length dbc] 25], [rowT tyEL (.slice a2_1 xs_1.length c2_1) 45 xs_1], [manyF inEL.row xs_1], [rowT (tyI .i64) (.slice a2_2 ((goL d (text.extract 0 ((min ((text.size : Nat) : Int) 30).toNat))).length) c2_2) 3 (goL d (text.extract 0 ((min ((text.size : Nat) : Int) 30).toNat)))], [rowT (tyI .i64) (.slice a2_3 ((goL d ((xs_1.getD k el0).text)).length) c2_3) 3 (goL d ((xs_1.getD k el0).text))]] := H10.call u9
                refine ⟨trivial, ?_⟩
                refine WD.take hok1 39 (.bool (decide (¬ ((goL d ((xs_1.getD k el0).text)) = (goL d (text.extract 0 ((min ((text.size : Nat) : Int) 30).toNat))))))) (fun _ => True) rfl rfl rfl rfl rfl trivial (.inl ⟨rfl, fun _ _ => d_not (p := (goL d ((xs_1.getD k el0).text)) = (goL d (text.extract 0 ((min ((text.size : Nat) : Int) 30).toNat)))) rfl ⟨rfl, rfl⟩⟩) ?_
                refine WD.take hok1 40 (.bool (decide (¬ ((goL d ((xs_1.getD k el0).text)) = (goL d (text.extract 0 ((min ((text.size : Nat) : Int) 30).toNat))))))) (fun _ => True) rfl rfl rfl rfl rfl trivial (.inl ⟨rfl, fun _ _ => d_pick rfl rfl ⟨rfl, rfl⟩⟩) ?_
                refine WD.done hok1 rfl (X.then_code ?_)
                refine W.pick [98, 97, 96, 94, 95, 93, 92, 91, 90, 89, 88, 85, 84, 83, 82, 81, 80, 79, 78, 77, 76, 75, 74, 73, 72, 71, 70, 69, 68, 8, 9, 7, 5, 1, 4, 2] (Γ' := [(98, .bool (decide (¬ ((goL d ((xs_1.getD k el0).text)) = (goL d (text.extract 0 ((min ((text.size : Nat) : Int) 30).toNat))))))), (97, .bool (decide (¬ ((goL d ((xs_1.getD k el0).text)) = (goL d (text.extract 0 ((min ((text.size : Nat) : Int) 30).toNat))))))), (96, .bool (decide ((goL d ((xs_1.getD k el0).text)) = (goL d (text.extract 0 ((min ((text.size : Nat) : Int) 30).toNat)))))), (94, .slice a2_3 ((goL d ((xs_1.getD k el0).text)).length) c2_3), (95, .slice a2_2 ((goL d (text.extract 0 ((min ((text.size : Nat) : Int) 30).toNat))).length) c2_2), (93, .string ((xs_1.getD k el0).text)), (92, elemPtr (.slice a2_1 xs_1.length c2_1) (k * 2 + 1)), (91, elemPtr (.slice a2_1 xs_1.length c2_1) (k * 2)), (90, .int .i64 ((k : Nat) : Int)), (89, .slice a2_1 xs_1.length c2_1), (88, .agg #[.slice dca d.cls.length dcc, .int .i64 d.width, .int .i64 d.start, .slice dna d.next.length dnc, .slice dba d.acc.length dbc]), (85, .bool (strCmp .gtr ((xs_1.getD k el0).text) (text.extract 0 ((min ((text.size : Nat) : Int) 30).toNat)))), (84, .bool (strCmp .gtr ((xs_1.getD k el0).text) (text.extract 0 ((min ((text.size : Nat) : Int) 30).toNat)))), (83, .string (text.extract 0 ((min ((text.size : Nat) : Int) 30).toNat))), (82, .string ((xs_1.getD k el0).text)), (81, elemPtr (.slice a2_1 xs_1.length c2_1) (k * 2 + 1)), (80, elemPtr (.slice a2_1 xs_1.length c2_1) (k * 2)), (79, .int .i64 ((k : Nat) : Int)), (78, .slice a2_1 xs_1.length c2_1), (77, .bool true), (76, .bool (decide (((((xs_1.getD k el0).text).size : Nat) : Int) = (((text.extract 0 ((min ((text.size : Nat) : Int) 30).toNat)).size : Nat) : Int)))), (75, .int .i64 (((text.extract 0 ((min ((text.size : Nat) : Int) 30).toNat)).size : Nat) : Int)), (74, .string (text.extract 0 ((min ((text.size : Nat) : Int) 30).toNat))), (73, .int .i64 ((((xs_1.getD k el0).text).size : Nat) : Int)), (72, .string ((xs_1.getD k el0).text)), (71, elemPtr (.slice a2_1 xs_1.length c2_1) (k * 2 + 1)), (70, elemPtr (.slice a2_1 xs_1.length c2_1) (k * 2)), (69, .int .i64 ((k : Nat) : Int)), (68, .slice a2_1 xs_1.length c2_1), (8, .int .i64 (ct + 1)), (9, .int .i64 ((k : Nat) : Int)), (7, .slice a2_2 ((goL d (text.extract 0 ((min ((text.size : Nat) : Int) 30).toNat))).length) c2_2), (5, .slice a2_1 xs_1.length c2_1), (1, .string (text.extract 0 ((min ((text.size : Nat) : Int) 30).toNat))), (4, .bool false), (2, .pointer (some ⟨w.heap.size, 0, none⟩))]) rfl ?_
                refine W.ite (p := ¬ ((goL d ((xs_1.getD k el0).text)) = (goL d (text.extract 0 ((min ((text.size : Nat) : Int) 30).toNat))))) rfl (fun c84 => ?_) (fun c84 => ?_)
                · skip
                  exfalso; exact c84 (by rw [← hT.to k (by omega)]; exact hto)
                · skip
                  refine W.skip (X.block_normal (X.then_code ?_))
                  refine W.pick [97, 96, 94, 95, 93, 92, 91, 90, 89, 88, 85, 84, 83, 82, 81, 80, 79, 78, 77, 76, 75, 74, 73, 72, 71, 70, 69, 68, 8, 9, 7, 5, 1, 4, 2] (Γ' := [(97, .bool (decide (¬ ((goL d ((xs_1.getD k el0).text)) = (goL d (text.extract 0 ((min ((text.size : Nat) : Int) 30).toNat))))))), (96, .bool (decide ((goL d ((xs_1.getD k el0).text)) = (goL d (text.extract 0 ((min ((text.size : Nat) : Int) 30).toNat)))))), (94, .slice a2_3 ((goL d ((xs_1.getD k el0).text)).length) c2_3), (95, .slice a2_2 ((goL d (text.extract 0 ((min ((text.size : Nat) : Int) 30).toNat))).length) c2_2), (93, .string ((xs_1.getD k el0).text)), (92, elemPtr (.slice a2_1 xs_1.length c2_1) (k * 2 + 1)), (91, elemPtr (.slice a2_1 xs_1.length c2_1) (k * 2)), (90, .int .i64 ((k : Nat) : Int)), (89, .slice a2_1 xs_1.length c2_1), (88, .agg #[.slice dca d.cls.length dcc, .int .i64 d.width, .int .i64 d.start, .slice dna d.next.length dnc, .slice dba d.acc.length dbc]), (85, .bool (strCmp .gtr ((xs_1.getD k el0).text) (text.extract 0 ((min ((text.size : Nat) : Int) 30).toNat)))), (84, .bool (strCmp .gtr ((xs_1.getD k el0).text) (text.extract 0 ((min ((text.size : Nat) : Int) 30).toNat)))), (83, .string (text.extract 0 ((min ((text.size : Nat) : Int) 30).toNat))), (82, .string ((xs_1.getD k el0).text)), (81, elemPtr (.slice a2_1 xs_1.length c2_1) (k * 2 + 1)), (80, elemPtr (.slice a2_1 xs_1.length c2_1) (k * 2)), (79, .int .i64 ((k : Nat) : Int)), (78, .slice a2_1 xs_1.length c2_1), (77, .bool true), (76, .bool (decide (((((xs_1.getD k el0).text).size : Nat) : Int) = (((text.extract 0 ((min ((text.size : Nat) : Int) 30).toNat)).size : Nat) : Int)))), (75, .int .i64 (((text.extract 0 ((min ((text.size : Nat) : Int) 30).toNat)).size : Nat) : Int)), (74, .string (text.extract 0 ((min ((text.size : Nat) : Int) 30).toNat))), (73, .int .i64 ((((xs_1.getD k el0).text).size : Nat) : Int)), (72, .string ((xs_1.getD k el0).text)), (71, elemPtr (.slice a2_1 xs_1.length c2_1) (k * 2 + 1)), (70, elemPtr (.slice a2_1 xs_1.length c2_1) (k * 2)), (69, .int .i64 ((k : Nat) : Int)), (68, .slice a2_1 xs_1.length c2_1), (8, .int .i64 (ct + 1)), (9, .int .i64 ((k : Nat) : Int)), (7, .slice a2_2 ((goL d (text.extract 0 ((min ((text.size : Nat) : Int) 30).toNat))).length) c2_2), (5, .slice a2_1 xs_1.length c2_1), (1, .string (text.extract 0 ((min ((text.size : Nat) : Int) 30).toNat))), (4, .bool false), (2, .pointer (some ⟨w.heap.size, 0, none⟩))]) rfl ?_
                  refine W.region ?_
                  refine WL.op rfl (d_move rfl ?_)
                  refine WL.op rfl (d_add rfl rfl (by omega) (by omega) ?_)
                  refine WL.op rfl (d_assign rfl ?_)
                  refine WL.done ?_
                  exact X.next [9, 8, 7, 5, 1, 4, 2] (Γ' := [(9, .int .i64 (((k + 1) : Nat) : Int)), (8, .int .i64 (ct + 1)), (7, .slice a2_2 ((goL d (text.extract 0 ((min ((text.size : Nat) : Int) 30).toNat))).length) c2_2), (5, .slice a2_1 xs_1.length c2_1), (1, .string (text.extract 0 ((min ((text.size : Nat) : Int) 30).toNat))), (4, .bool false), (2, .pointer (some ⟨w.heap.size, 0, none⟩))]) rfl (xs_1.length - (k + 1)) (by omega) ⟨k + 1, ct + 1, rfl, (UpG.of (G := [[blk w.heap.size #[.slice dca d.cls.length dcc, .int .i64 d.width, .int .i64 d.start, .slice dna d.next.length dnc, .slice dba d.acc.length dbc] 25], [rowT tyEL (.slice a2_1 xs_1.length c2_1) 45 xs_1], [manyF inEL.row xs_1], [rowT (tyI .i64) (.slice a2_2 ((goL d (text.extract 0 ((min ((text.size : Nat) : Int) 30).toNat))).length) c2_2) 3 (goL d (text.extract 0 ((min ((text.size : Nat) : Int) 30).toNat)))]]) (Upd.sel H11 (M := [blk w.heap.size #[.slice dca d.cls.length dcc, .int .i64 d.width, .int .i64 d.start, .slice dna d.next.length dnc, .slice dba d.acc.length dbc] 25, rowT tyEL (.slice a2_1 xs_1.length c2_1) 45 xs_1, manyF inEL.row xs_1, rowT (tyI .i64) (.slice a2_2 ((goL d (text.extract 0 ((min ((text.size : Nat) : Int) 30).toNat))).length) c2_2) 3 (goL d (text.extract 0 ((min ((text.size : Nat) : Int) 30).toNat)))]) (l := [0, 1, 2, 3]) rfl rfl) rfl), (by first | assumption | omega | simp), (by first | (rw [hct]; exact cntW_yes hT.nd (by omega) (Classical.not_not.1 c80)) | (rw [hct]; exact cntW_no (by omega) (hT.all _) c80)), rfl⟩
            · skip
              refine WD.take hok1 20 undef (fun _ => True) rfl rfl rfl rfl rfl trivial (.inr ⟨rfl, rfl⟩) ?_
              refine WD.take hok1 21 undef (fun _ => True) rfl rfl rfl rfl rfl trivial (.inr ⟨rfl, rfl⟩) ?_
              refine WD.take hok1 22 undef (fun _ => True) rfl rfl rfl rfl rfl trivial (.inr ⟨rfl, rfl⟩) ?_
              refine WD.take hok1 23 undef (fun _ => True) rfl rfl rfl rfl rfl trivial (.inr ⟨rfl, rfl⟩) ?_
              refine WD.take hok1 24 undef (fun _ => True) rfl rfl rfl rfl rfl trivial (.inr ⟨rfl, rfl⟩) ?_
              refine WD.take hok1 25 undef (fun _ => True) rfl rfl rfl rfl rfl trivial (.inr ⟨rfl, rfl⟩) ?_
              refine WD.take hok1 26 undef (fun _ => True) rfl rfl rfl rfl rfl trivial (.inr ⟨rfl, rfl⟩) ?_
              refine WD.take hok1 27 (.bool false) (fun _ => True) rfl rfl rfl rfl rfl trivial (.inl ⟨rfl, fun _ _ => d_pick rfl rfl ⟨rfl, rfl⟩⟩) ?_
              refine WD.take hok1 28 (.bool false) (fun _ => True) rfl rfl rfl rfl rfl trivial (.inl ⟨rfl, fun _ _ => d_pick rfl rfl ⟨rfl, rfl⟩⟩) ?_
              refine WD.take hok1 29 (.bool false) (fun _ => True) rfl rfl rfl rfl rfl trivial (.inl ⟨rfl, fun _ _ => d_move rfl ⟨rfl, rfl⟩⟩) ?_
              refine WD.take hok1 30 (.agg #[.slice dca d.cls.length dcc, .int .i64 d.width, .int .i64 d.start, .slice dna d.next.length dnc, .slice dba d.acc.length dbc]) (fun w' => w'.heap[w.heap.size]? = some (.cells #[.slice dca d.cls.length dcc, .int .i64 d.width, .int .i64 d.start, .slice dna d.next.length dnc, .slice dba d.acc.length dbc] 25 (0, 0))) rfl rfl rfl rfl rfl (H9.blk 0 rfl) (.inl ⟨rfl, fun _ hC => d_loadAB [.slice dca d.cls.length dcc, .int .i64 d.width, .int .i64 d.start, .slice dna d.next.length dnc, .slice dba d.acc.length dbc] Try.underlying25 rfl sz25 rfl hC rfl rfl ⟨rfl, rfl⟩⟩) ?_
              refine WD.take hok1 31 (.slice a2_1 xs_1.length c2_1) (fun _ => True) rfl rfl rfl rfl rfl trivial (.inl ⟨rfl, fun _ _ => d_move rfl ⟨rfl, rfl⟩⟩) ?_
              refine WD.take hok1 32 (.int .i64 ((k : Nat) : Int)) (fun _ => True) rfl rfl rfl rfl rfl trivial (.inl ⟨rfl, fun _ _ => d_move rfl ⟨rfl, rfl⟩⟩) ?_
              refine WD.take hok1 33 (elemPtr (.slice a2_1 xs_1.length c2_1) (k * 2)) (fun w' => RdT tyEL w' (.slice a2_1 xs_1.length c2_1) xs_1) rfl rfl rfl rfl rfl (H9.rdT 1 rfl) (.inl ⟨rfl, fun _ hC => t_addrN k (T := tyEL) rfl Try.underlying35 sz45 rfl rfl hC rfl (by omega) ⟨rfl, rfl⟩⟩) ?_
              refine WD.take hok1 34 (elemPtr (.slice a2_1 xs_1.length c2_1) (k * 2 + 1)) (fun w' => RdT tyEL w' (.slice a2_1 xs_1.length c2_1) xs_1) rfl rfl rfl rfl rfl (H9.rdT 1 rfl) (.inl ⟨rfl, fun _ hC => t_fld k el0 (T := tyEL) rfl fld45_1 rfl rfl hC (by omega) ⟨rfl, rfl⟩⟩) ?_
              refine WD.take hok1 35 (.string ((xs_1.getD k el0).text)) (fun w' => RdT tyEL w' (.slice a2_1 xs_1.length c2_1) xs_1) rfl rfl rfl rfl rfl (H9.rdT 1 rfl) (.inl ⟨rfl, fun _ hC => t_loadF k el0 (T := tyEL) rfl rfl Try.underlying9 rfl rfl hC (by omega) rfl ⟨rfl, rfl⟩⟩) ?_
              refine WD.take hok1 37 (.slice a2_2 ((goL d (text.extract 0 ((min ((text.size : Nat) : Int) 30).toNat))).length) c2_2) (fun _ => True) rfl rfl rfl rfl rfl trivial (.inl ⟨rfl, fun _ _ => d_move rfl ⟨rfl, rfl⟩⟩) ?_
              refine WD.loud hok1 36 rfl (⟨_, [⟨37, .slice a2_2 ((goL d (text.extract 0 ((min ((text.size : Nat) : Int) 30).toNat))).length) c2_2, (fun _ => True)⟩], rfl, rfl, rfl, rfl, rfl, rfl, d_call ok36 rfl (Ret.calls (goR_any d dca dna dba dcc dnc dbc ((xs_1.getD k el0).text) w9 (rcd.at H9) (rnd.at H9) (rbd.at H9) hrt (by omega)) fun _ w12 p9 => ?_)⟩)
              obtain ⟨a2_4, c2_4, rfl, u10⟩ := p9
              have H12 : UpG w [] w12 [[blk w.heap.size #[.slice dca d.cls.length dcc, .int .i64 d.width, .int .i64 d.start, .slice dna d.next.length dnc, .slice dba d.acc.length dbc] 25], [rowT tyEL (.slice a2_1 xs_1.length c2_1) 45 xs_1], [manyF inEL.row xs_1], [rowT (tyI .i64) (.slice a2_2 ((goL d (text.extract 0 ((min ((text.size : Nat) : Int) 30).toNat))).length) c2_2) 3 (goL d (text.extract 0 ((min ((text.size : Nat) : Int) 30).toNat)))], [rowT (tyI .i64) (.slice a2_4 ((goL d ((xs_1.getD k el0).text)).length) c2_4) 3 (goL d ((xs_1.getD k el0).text))]] := (H9.new' u10).re rfl
              refine ⟨⟨trivial, trivial⟩, ?_⟩
              refine WD.loud hok1 38 rfl (⟨_, [], rfl, rfl, rfl, rfl, rfl, rfl, d_call ok32 rfl (Ret.calls (same10_any a2_4 (goL d ((xs_1.getD k el0).text)) c2_4 ((goL d ((xs_1.getD k el0).text)).length) a2_2 (goL d (text.extract 0 ((min ((text.size : Nat) : Int) 30).toNat))) c2_2 ((goL d (text.extract 0 ((min ((text.size : Nat) : Int) 30).toNat))).length) w12 (H12.rdT 4 rfl) (H12.rdT 3 rfl) ) fun _ w13 p10 => ?_)⟩)
              obtain ⟨rfl, u11⟩ := p10
              have H13 : UpG w [] w13 [[blk w.heap.size #[.slice dca d.cls.length dcc, .int .i64 d.width, .int .i64 d.start, .slice dna d.next.length dnc, .slice dba d.acc.length dbc] 25], [rowT tyEL (.slice a2_1 xs_1.length c2_1) 45 xs_1], [manyF inEL.row xs_1], [rowT (tyI .i64) (.slice a2_2 ((goL d (text.extract 0 ((min ((text.size : Nat) : Int) 30).toNat))).length) c2_2) 3 (goL d (text.extract 0 ((min ((text.size : Nat) : Int) 30).toNat)))], [rowT (tyI .i64) (.slice a2_4 ((goL d ((xs_1.getD k el0).text)).length) c2_4) 3 (goL d ((xs_1.getD k el0).text))]] := H12.call u11
              refine ⟨trivial, ?_⟩
              refine WD.take hok1 39 (.bool (decide (¬ ((goL d ((xs_1.getD k el0).text)) = (goL d (text.extract 0 ((min ((text.size : Nat) : Int) 30).toNat))))))) (fun _ => True) rfl rfl rfl rfl rfl trivial (.inl ⟨rfl, fun _ _ => d_not (p := (goL d ((xs_1.getD k el0).text)) = (goL d (text.extract 0 ((min ((text.size : Nat) : Int) 30).toNat)))) rfl ⟨rfl, rfl⟩⟩) ?_
              refine WD.take hok1 40 (.bool (decide (¬ ((goL d ((xs_1.getD k el0).text)) = (goL d (text.extract 0 ((min ((text.size : Nat) : Int) 30).toNat))))))) (fun _ => True) rfl rfl rfl rfl rfl trivial (.inl ⟨rfl, fun _ _ => d_pick rfl rfl ⟨rfl, rfl⟩⟩) ?_
              refine WD.done hok1 rfl (X.then_code ?_)
              refine W.pick [98, 97, 96, 94, 95, 93, 92, 91, 90, 89, 88, 85, 84, 83, 82, 81, 80, 79, 78, 77, 76, 75, 74, 73, 72, 71, 70, 69, 68, 8, 9, 7, 5, 1, 4, 2] (Γ' := [(98, .bool (decide (¬ ((goL d ((xs_1.getD k el0).text)) = (goL d (text.extract 0 ((min ((text.size : Nat) : Int) 30).toNat))))))), (97, .bool (decide (¬ ((goL d ((xs_1.getD k el0).text)) = (goL d (text.extract 0 ((min ((text.size : Nat) : Int) 30).toNat))))))), (96, .bool (decide ((goL d ((xs_1.getD k el0).text)) = (goL d (text.extract 0 ((min ((text.size : Nat) : Int) 30).toNat)))))), (94, .slice a2_4 ((goL d ((xs_1.getD k el0).text)).length) c2_4), (95, .slice a2_2 ((goL d (text.extract 0 ((min ((text.size : Nat) : Int) 30).toNat))).length) c2_2), (93, .string ((xs_1.getD k el0).text)), (92, elemPtr (.slice a2_1 xs_1.length c2_1) (k * 2 + 1)), (91, elemPtr (.slice a2_1 xs_1.length c2_1) (k * 2)), (90, .int .i64 ((k : Nat) : Int)), (89, .slice a2_1 xs_1.length c2_1), (88, .agg #[.slice dca d.cls.length dcc, .int .i64 d.width, .int .i64 d.start, .slice dna d.next.length dnc, .slice dba d.acc.length dbc]), (85, .bool false), (84, undef), (83, undef), (82, undef), (81, undef), (80, undef), (79, undef), (78, undef), (77, .bool false), (76, .bool (decide (((((xs_1.getD k el0).text).size : Nat) : Int) = (((text.extract 0 ((min ((text.size : Nat) : Int) 30).toNat)).size : Nat) : Int)))), (75, .int .i64 (((text.extract 0 ((min ((text.size : Nat) : Int) 30).toNat)).size : Nat) : Int)), (74, .string (text.extract 0 ((min ((text.size : Nat) : Int) 30).toNat))), (73, .int .i64 ((((xs_1.getD k el0).text).size : Nat) : Int)), (72, .string ((xs_1.getD k el0).text)), (71, elemPtr (.slice a2_1 xs_1.length c2_1) (k * 2 + 1)), (70, elemPtr (.slice a2_1 xs_1.length c2_1) (k * 2)), (69, .int .i64 ((k : Nat) : Int)), (68, .slice a2_1 xs_1.length c2_1), (8, .int .i64 (ct + 1)), (9, .int .i64 ((k : Nat) : Int)), (7, .slice a2_2 ((goL d (text.extract 0 ((min ((text.size : Nat) : Int) 30).toNat))).length) c2_2), (5, .slice a2_1 xs_1.length c2_1), (1, .string (text.extract 0 ((min ((text.size : Nat) : Int) 30).toNat))), (4, .bool false), (2, .pointer (some ⟨w.heap.size, 0, none⟩))]) rfl ?_
              refine W.ite (p := ¬ ((goL d ((xs_1.getD k el0).text)) = (goL d (text.extract 0 ((min ((text.size : Nat) : Int) 30).toNat))))) rfl (fun c84 => ?_) (fun c84 => ?_)
              · skip
                exfalso; exact c84 (by rw [← hT.to k (by omega)]; exact hto)
              · skip
                refine W.skip (X.block_normal (X.then_code ?_))
                refine W.pick [97, 96, 94, 95, 93, 92, 91, 90, 89, 88, 85, 84, 83, 82, 81, 80, 79, 78, 77, 76, 75, 74, 73, 72, 71, 70, 69, 68, 8, 9, 7, 5, 1, 4, 2] (Γ' := [(97, .bool (decide (¬ ((goL d ((xs_1.getD k el0).text)) = (goL d (text.extract 0 ((min ((text.size : Nat) : Int) 30).toNat))))))), (96, .bool (decide ((goL d ((xs_1.getD k el0).text)) = (goL d (text.extract 0 ((min ((text.size : Nat) : Int) 30).toNat)))))), (94, .slice a2_4 ((goL d ((xs_1.getD k el0).text)).length) c2_4), (95, .slice a2_2 ((goL d (text.extract 0 ((min ((text.size : Nat) : Int) 30).toNat))).length) c2_2), (93, .string ((xs_1.getD k el0).text)), (92, elemPtr (.slice a2_1 xs_1.length c2_1) (k * 2 + 1)), (91, elemPtr (.slice a2_1 xs_1.length c2_1) (k * 2)), (90, .int .i64 ((k : Nat) : Int)), (89, .slice a2_1 xs_1.length c2_1), (88, .agg #[.slice dca d.cls.length dcc, .int .i64 d.width, .int .i64 d.start, .slice dna d.next.length dnc, .slice dba d.acc.length dbc]), (85, .bool false), (84, undef), (83, undef), (82, undef), (81, undef), (80, undef), (79, undef), (78, undef), (77, .bool false), (76, .bool (decide (((((xs_1.getD k el0).text).size : Nat) : Int) = (((text.extract 0 ((min ((text.size : Nat) : Int) 30).toNat)).size : Nat) : Int)))), (75, .int .i64 (((text.extract 0 ((min ((text.size : Nat) : Int) 30).toNat)).size : Nat) : Int)), (74, .string (text.extract 0 ((min ((text.size : Nat) : Int) 30).toNat))), (73, .int .i64 ((((xs_1.getD k el0).text).size : Nat) : Int)), (72, .string ((xs_1.getD k el0).text)), (71, elemPtr (.slice a2_1 xs_1.length c2_1) (k * 2 + 1)), (70, elemPtr (.slice a2_1 xs_1.length c2_1) (k * 2)), (69, .int .i64 ((k : Nat) : Int)), (68, .slice a2_1 xs_1.length c2_1), (8, .int .i64 (ct + 1)), (9, .int .i64 ((k : Nat) : Int)), (7, .slice a2_2 ((goL d (text.extract 0 ((min ((text.size : Nat) : Int) 30).toNat))).length) c2_2), (5, .slice a2_1 xs_1.length c2_1), (1, .string (text.extract 0 ((min ((text.size : Nat) : Int) 30).toNat))), (4, .bool false), (2, .pointer (some ⟨w.heap.size, 0, none⟩))]) rfl ?_
                refine W.region ?_
                refine WL.op rfl (d_move rfl ?_)
                refine WL.op rfl (d_add rfl rfl (by omega) (by omega) ?_)
                refine WL.op rfl (d_assign rfl ?_)
                refine WL.done ?_
                exact X.next [9, 8, 7, 5, 1, 4, 2] (Γ' := [(9, .int .i64 (((k + 1) : Nat) : Int)), (8, .int .i64 (ct + 1)), (7, .slice a2_2 ((goL d (text.extract 0 ((min ((text.size : Nat) : Int) 30).toNat))).length) c2_2), (5, .slice a2_1 xs_1.length c2_1), (1, .string (text.extract 0 ((min ((text.size : Nat) : Int) 30).toNat))), (4, .bool false), (2, .pointer (some ⟨w.heap.size, 0, none⟩))]) rfl (xs_1.length - (k + 1)) (by omega) ⟨k + 1, ct + 1, rfl, (UpG.of (G := [[blk w.heap.size #[.slice dca d.cls.length dcc, .int .i64 d.width, .int .i64 d.start, .slice dna d.next.length dnc, .slice dba d.acc.length dbc] 25], [rowT tyEL (.slice a2_1 xs_1.length c2_1) 45 xs_1], [manyF inEL.row xs_1], [rowT (tyI .i64) (.slice a2_2 ((goL d (text.extract 0 ((min ((text.size : Nat) : Int) 30).toNat))).length) c2_2) 3 (goL d (text.extract 0 ((min ((text.size : Nat) : Int) 30).toNat)))]]) (Upd.sel H13 (M := [blk w.heap.size #[.slice dca d.cls.length dcc, .int .i64 d.width, .int .i64 d.start, .slice dna d.next.length dnc, .slice dba d.acc.length dbc] 25, rowT tyEL (.slice a2_1 xs_1.length c2_1) 45 xs_1, manyF inEL.row xs_1, rowT (tyI .i64) (.slice a2_2 ((goL d (text.extract 0 ((min ((text.size : Nat) : Int) 30).toNat))).length) c2_2) 3 (goL d (text.extract 0 ((min ((text.size : Nat) : Int) 30).toNat)))]) (l := [0, 1, 2, 3]) rfl rfl) rfl), (by first | assumption | omega | simp), (by first | (rw [hct]; exact cntW_yes hT.nd (by omega) (Classical.not_not.1 c80)) | (rw [hct]; exact cntW_no (by omega) (hT.all _) c80)), rfl⟩
      · skip
        refine W.exit (X.then_exit (X.then_exit (X.block_exit (X.then_code ?_))))
        refine W.seq ?_
        refine W.region ?_
        refine WL.op rfl (d_move rfl ?_)
        refine WL.op rfl (d_cmp (decide (ct = (1 : Int))) rfl rfl rfl ?_)
        refine WL.op rfl (d_assign rfl ?_)
        refine WL.done (X.then_code ?_)
        refine W.ret (X.ret1 rfl rfl ?_)
        exact ⟨(by exact congrArg Value.bool (decide_eq_true (by rw [hct]; exact cntW_end (by omega) (hT.all _)))), H7.noneL⟩
end Go.Proofs.Ytoeockpkkmgieaa
