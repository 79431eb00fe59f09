/- The walks of functions, printed by wip/tools/gw.py. -/
import Derived.Test.YtoeockpkkmgieaaEqualApartB1
import Derived.Test.YtoeockpkkmgieaaEqualApartB5
import Derived.Test.YtoeockpkkmgieaaEqualApartB7
namespace Go.Proofs.Ytoeockpkkmgieaa
open Go Go.Sx
set_option linter.unusedVariables false
set_option linter.unusedSimpArgs false
set_option maxRecDepth 20000 in
theorem refEmpty_any (d : DfaD) (dca : Option Addr) (dna : Option Addr) (dba : Option Addr) (dcc : Nat) (dnc : Nat) (dbc : Nat) (w : World) (rcd : RdT (tyI .i64) w (.slice dca d.cls.length dcc) d.cls) (rnd : RdT (tyI .i64) w (.slice dna d.next.length dnc) d.next) (rbd : RdT tyB w (.slice dba d.acc.length dbc) d.acc) (hrt : rightB d = true) :
    Calls Try.prog 47 #[.agg #[.slice dca d.cls.length dcc, .int .i64 d.width, .int .i64 d.start, .slice dna d.next.length dnc, .slice dba d.acc.length dbc]] w (Ret fun v w' => v = .bool (emptyB d) ∧ Upd w [] w' []) := by
  have le_rcd := rcd.le
  have le_rnd := rnd.le
  have le_rbd := rbd.le
  refine calls_of_W (args := [.agg #[.slice dca d.cls.length dcc, .int .i64 d.width, .int .i64 d.start, .slice dna d.next.length dnc, .slice dba d.acc.length dbc]]) Try.func47 rfl rfl rfl ?_
  have H0 : UpG w [] w [] := UpG.nil w
  show W _ _ _ _ [(0, .agg #[.slice dca d.cls.length dcc, .int .i64 d.width, .int .i64 d.start, .slice dna d.next.length dnc, .slice dba d.acc.length dbc])] w
  refine W.seq ?_
  refine W.region ?_
  refine WL.op rfl (d_box rfl fun w1 u1 => ?_)
  have H1 : UpG w [] w1 [[blk w.heap.size #[.slice dca d.cls.length dcc, .int .i64 d.width, .int .i64 d.start, .slice dna d.next.length dnc, .slice dba d.acc.length dbc] 25]] := H0.new' u1
  refine WL.op rfl (d_assign rfl ?_)
  refine WL.done (X.then_code ?_)
  refine W.seq ?_
  refine W.region ?_
  refine WL.op rfl (d_loadAB [.slice dca d.cls.length dcc, .int .i64 d.width, .int .i64 d.start, .slice dna d.next.length dnc, .slice dba d.acc.length dbc] Try.underlying25 rfl sz25 rfl (H1.blk 0 rfl) rfl rfl ?_)
  refine WL.op rfl (d_call ok54 rfl (Ret.calls (refOf_any d dca dna dba dcc dnc dbc w1 (rcd.at H1) (rnd.at H1) (rbd.at H1) (by omega)) fun _ w2 p1 => ?_))
  obtain ⟨ca_1, cc_1, na_1, nc_1, ba_1, bc_1, rfl, u2⟩ := p1
  have H2 : UpG w [] w2 [[blk w.heap.size #[.slice dca d.cls.length dcc, .int .i64 d.width, .int .i64 d.start, .slice dna d.next.length dnc, .slice dba d.acc.length dbc] 25], [rowT (tyI .i64) (.slice ca_1 (((leastD d).cls).length) cc_1) 3 ((leastD d).cls)], [rowT (tyI .i64) (.slice na_1 (((leastD d).next).length) nc_1) 3 ((leastD d).next)], [rowT tyB (.slice ba_1 (((leastD d).acc).length) bc_1) 4 ((leastD d).acc)]] := (H1.new' u2).re rfl
  refine WL.op rfl (d_alloc sz25 fun w3 u3 => ?_)
  have H3 : UpG w [] w3 [[blk w.heap.size #[.slice dca d.cls.length dcc, .int .i64 d.width, .int .i64 d.start, .slice dna d.next.length dnc, .slice dba d.acc.length dbc] 25], [rowT (tyI .i64) (.slice ca_1 (((leastD d).cls).length) cc_1) 3 ((leastD d).cls)], [rowT (tyI .i64) (.slice na_1 (((leastD d).next).length) nc_1) 3 ((leastD d).next)], [rowT tyB (.slice ba_1 (((leastD d).acc).length) bc_1) 4 ((leastD d).acc)], [blk w2.heap.size #[.slice none 0 0, .int .i64 0, .int .i64 0, .slice none 0 0, .slice none 0 0] 25]] := H2.new' u3
  refine WL.op0 (d_storeAB (us := [.slice ca_1 (((leastD d).cls).length) cc_1, .int .i64 ((leastD d).width), .int .i64 ((leastD d).start), .slice na_1 (((leastD d).next).length) nc_1, .slice ba_1 (((leastD d).acc).length) bc_1]) (cs' := #[.slice ca_1 (((leastD d).cls).length) cc_1, .int .i64 ((leastD d).width), .int .i64 ((leastD d).start), .slice na_1 (((leastD d).next).length) nc_1, .slice ba_1 (((leastD d).acc).length) bc_1]) sz25 rfl rfl rfl rfl (H3.blk 4 rfl) rfl rfl fun w4 u4 => ?_)
  have H4 : UpG w [] w4 [[blk w.heap.size #[.slice dca d.cls.length dcc, .int .i64 d.width, .int .i64 d.start, .slice dna d.next.length dnc, .slice dba d.acc.length dbc] 25], [rowT (tyI .i64) (.slice ca_1 (((leastD d).cls).length) cc_1) 3 ((leastD d).cls)], [rowT (tyI .i64) (.slice na_1 (((leastD d).next).length) nc_1) 3 ((leastD d).next)], [rowT tyB (.slice ba_1 (((leastD d).acc).length) bc_1) 4 ((leastD d).acc)], [blk w2.heap.size #[.slice ca_1 (((leastD d).cls).length) cc_1, .int .i64 ((leastD d).width), .int .i64 ((leastD d).start), .slice na_1 (((leastD d).next).length) nc_1, .slice ba_1 (((leastD d).acc).length) bc_1] 25]] := H3.on 4 rfl u4
  refine WL.done (X.then_code ?_)
  refine W.seq ?_
  refine W.seq ?_
  refine W.region ?_
  refine WL.op rfl (d_assign rfl ?_)
  refine WL.done (X.then_code ?_)
  refine W.block ?_
  have hll := (leastD_len hrt).2.1
  have hal := (rightB_iff.1 hrt).1.2.2.2.2.1
  refine W.pick [4, 3, 2] (Γ' := [(4, .int .i64 0), (3, .pointer (some ⟨w2.heap.size, 0, none⟩)), (2, .bool false)]) rfl ?_
  refine W.loop (fun m Γ' w' => ∃ k : Nat, Γ' = [(4, .int .i64 ((k : Nat) : Int)), (3, .pointer (some ⟨w2.heap.size, 0, none⟩)), (2, .bool false)] ∧ UpG w [] w' [[blk w.heap.size #[.slice dca d.cls.length dcc, .int .i64 d.width, .int .i64 d.start, .slice dna d.next.length dnc, .slice dba d.acc.length dbc] 25], [rowT (tyI .i64) (.slice ca_1 (((leastD d).cls).length) cc_1) 3 ((leastD d).cls)], [rowT (tyI .i64) (.slice na_1 (((leastD d).next).length) nc_1) 3 ((leastD d).next)], [rowT tyB (.slice ba_1 (((leastD d).acc).length) bc_1) 4 ((leastD d).acc)], [blk w2.heap.size #[.slice ca_1 (((leastD d).cls).length) cc_1, .int .i64 ((leastD d).width), .int .i64 ((leastD d).start), .slice na_1 (((leastD d).next).length) nc_1, .slice ba_1 (((leastD d).acc).length) bc_1] 25]] ∧ (k ≤ (leastD d).acc.length) ∧ (∀ i, i < k → ¬ (leastD d).acc.getD i false = true) ∧ m = (leastD d).acc.length - k) ((leastD d).acc.length - 0) ⟨0, rfl, H4, (by first | assumption | omega | simp), (by intro i hi; omega), rfl⟩ ?_
  rintro m1 Γ1 w5 ⟨k, rfl, H5, hk, hn, rfl⟩
  refine W.seq ?_
  refine W.seq ?_
  refine W.region ?_
  refine WL.op rfl (d_move rfl ?_)
  refine WL.op rfl (d_fieldAddrB fld25_4 rfl rfl ?_)
  refine WL.op rfl (d_loadB Try.underlying23 rfl rfl (H5.blk 4 rfl) rfl ?_)
  refine WL.op rfl (d_lenS Try.underlying23 rfl ?_)
  refine WL.op rfl (d_cmp (decide (((k : Nat) : Int) < ((((leastD d).acc).length : Nat) : Int))) rfl rfl rfl ?_)
  refine WL.done (X.then_code ?_)
  refine W.ite (p := ((k : Nat) : Int) < ((((leastD d).acc).length : Nat) : Int)) rfl (fun c48 => ?_) (fun c48 => ?_)
  · skip
    refine W.skip (X.then_code ?_)
    refine W.seq ?_
    refine W.block ?_
    refine W.seq ?_
    refine W.region ?_
    refine WL.op rfl (d_fieldAddrB fld25_4 rfl rfl ?_)
    refine WL.op rfl (d_loadB Try.underlying23 rfl rfl (H5.blk 4 rfl) rfl ?_)
    refine WL.op rfl (d_move rfl ?_)
    refine WL.op rfl (t_addr1 k (T := tyB) rfl Try.underlying23 sz4 rfl rfl (H5.rdT 3 rfl) rfl (by omega) ?_)
    refine WL.op rfl (t_load1 k false (T := tyB) rfl Try.underlying4 rfl rfl (H5.rdT 3 rfl) (by omega) rfl ?_)
    refine WL.done (X.then_code ?_)
    refine W.iteB (b := ((leastD d).acc).getD k false) rfl (fun c49 => ?_) (fun c49 => ?_)
    · skip
      refine W.seq ?_
      refine W.region ?_
      refine WL.op rfl (d_assign rfl ?_)
      refine WL.done (X.then_code ?_)
      refine W.ret (X.block_ret (X.then_ret (X.then_ret (X.block_ret (X.then_ret (X.ret1 rfl rfl ?_))))))
      exact ⟨(by rw [empty_no hrt (by omega) c49]), H5.noneL⟩
    · skip
      refine W.skip (X.block_normal (X.then_code ?_))
      refine W.region ?_
      refine WL.op rfl (d_move rfl ?_)
      refine WL.op rfl (d_add rfl rfl (by omega) (by omega) ?_)
      refine WL.op rfl (d_assign rfl ?_)
      refine WL.done ?_
      exact X.next [4, 3, 2] (Γ' := [(4, .int .i64 (((k + 1) : Nat) : Int)), (3, .pointer (some ⟨w2.heap.size, 0, none⟩)), (2, .bool false)]) rfl ((leastD d).acc.length - (k + 1)) (by omega) ⟨k + 1, rfl, H5, (by first | assumption | omega | simp), (by exact all_step hn c49), rfl⟩
  · skip
    refine W.exit (X.then_exit (X.then_exit (X.block_exit (X.then_code ?_))))
    refine W.seq ?_
    refine W.region ?_
    refine WL.op rfl (d_assign rfl ?_)
    refine WL.done (X.then_code ?_)
    refine W.ret (X.ret1 rfl rfl ?_)
    exact ⟨(by rw [empty_yes hrt hn (by omega)]), H5.noneL⟩

set_option maxRecDepth 20000 in
theorem equalApart_any (a : DfaD) (aca : Option Addr) (ana : Option Addr) (aba : Option Addr) (acc : Nat) (anc : Nat) (abc : Nat) (b : DfaD) (bca : Option Addr) (bna : Option Addr) (bba : Option Addr) (bcc : Nat) (bnc : Nat) (bbc : Nat) (w : World) (rca : RdT (tyI .i64) w (.slice aca a.cls.length acc) a.cls) (rna : RdT (tyI .i64) w (.slice ana a.next.length anc) a.next) (rba : RdT tyB w (.slice aba a.acc.length abc) a.acc) (rcb : RdT (tyI .i64) w (.slice bca b.cls.length bcc) b.cls) (rnb : RdT (tyI .i64) w (.slice bna b.next.length bnc) b.next) (rbb : RdT tyB w (.slice bba b.acc.length bbc) b.acc) :
    Calls Try.prog 10 #[.agg #[.slice aca a.cls.length acc, .int .i64 a.width, .int .i64 a.start, .slice ana a.next.length anc, .slice aba a.acc.length abc], .agg #[.slice bca b.cls.length bcc, .int .i64 b.width, .int .i64 b.start, .slice bna b.next.length bnc, .slice bba b.acc.length bbc]] w (Ret fun v w' => v = .bool true ∧ Upd w [] w' []) := by
  have le_rca := rca.le
  have le_rna := rna.le
  have le_rba := rba.le
  have le_rcb := rcb.le
  have le_rnb := rnb.le
  have le_rbb := rbb.le
  refine calls_of_W (args := [.agg #[.slice aca a.cls.length acc, .int .i64 a.width, .int .i64 a.start, .slice ana a.next.length anc, .slice aba a.acc.length abc], .agg #[.slice bca b.cls.length bcc, .int .i64 b.width, .int .i64 b.start, .slice bna b.next.length bnc, .slice bba b.acc.length bbc]]) Try.func10 rfl rfl rfl ?_
  have H0 : UpG w [] w [] := UpG.nil w
  show W _ _ _ _ [(0, .agg #[.slice aca a.cls.length acc, .int .i64 a.width, .int .i64 a.start, .slice ana a.next.length anc, .slice aba a.acc.length abc]), (1, .agg #[.slice bca b.cls.length bcc, .int .i64 b.width, .int .i64 b.start, .slice bna b.next.length bnc, .slice bba b.acc.length bbc])] w
  refine W.seq ?_
  refine W.region ?_
  refine WL.op rfl (d_box rfl fun w1 u1 => ?_)
  have H1 : UpG w [] w1 [[blk w.heap.size #[.slice aca a.cls.length acc, .int .i64 a.width, .int .i64 a.start, .slice ana a.next.length anc, .slice aba a.acc.length abc] 25]] := H0.new' u1
  refine WL.op rfl (d_box rfl fun w2 u2 => ?_)
  have H2 : UpG w [] w2 [[blk w.heap.size #[.slice aca a.cls.length acc, .int .i64 a.width, .int .i64 a.start, .slice ana a.next.length anc, .slice aba a.acc.length abc] 25], [blk w1.heap.size #[.slice bca b.cls.length bcc, .int .i64 b.width, .int .i64 b.start, .slice bna b.next.length bnc, .slice bba b.acc.length bbc] 25]] := H1.new' u2
  refine WL.op rfl (d_assign rfl ?_)
  refine WL.done (X.then_code ?_)
  refine W.seq ?_
  refine W.seq ?_
  refine W.region ?_
  refine WL.op rfl (d_call ok43 rfl (Ret.calls (awake14_any  w2  ) fun _ w3 p1 => ?_))
  obtain ⟨rfl, u3⟩ := p1
  have H3 : UpG w [] w3 [[blk w.heap.size #[.slice aca a.cls.length acc, .int .i64 a.width, .int .i64 a.start, .slice ana a.next.length anc, .slice aba a.acc.length abc] 25], [blk w1.heap.size #[.slice bca b.cls.length bcc, .int .i64 b.width, .int .i64 b.start, .slice bna b.next.length bnc, .slice bba b.acc.length bbc] 25]] := H2.call u3
  refine WL.op rfl (d_notB rfl ?_)
  refine WL.done (X.then_code ?_)
  refine W.iff rfl ?_
  refine W.skip (X.then_code ?_)
  refine W.seq ?_
  refine W.seq ?_
  refine W.region ?_
  refine WL.op rfl (d_loadAB [.slice aca a.cls.length acc, .int .i64 a.width, .int .i64 a.start, .slice ana a.next.length anc, .slice aba a.acc.length abc] Try.underlying25 rfl sz25 rfl (H3.blk 0 rfl) rfl rfl ?_)
  refine WL.op rfl (d_call ok44 rfl (Ret.calls (small14_any a aca ana aba acc anc abc w3 (rca.at H3) (rna.at H3) (rba.at H3) ) fun _ w4 p2 => ?_))
  obtain ⟨rfl, u4⟩ := p2
  have H4 : UpG w [] w4 [[blk w.heap.size #[.slice aca a.cls.length acc, .int .i64 a.width, .int .i64 a.start, .slice ana a.next.length anc, .slice aba a.acc.length abc] 25], [blk w1.heap.size #[.slice bca b.cls.length bcc, .int .i64 b.width, .int .i64 b.start, .slice bna b.next.length bnc, .slice bba b.acc.length bbc] 25]] := H3.call u4
  refine WL.op rfl (d_notB rfl ?_)
  refine WL.op rfl (d_move rfl ?_)
  refine WL.partB 17 (b := !(decide (a.acc.length ≤ 10 ∧ a.next.length ≤ 3000 ∧ a.cls.length ≤ 300))) rfl (fun g34 => ?_) (fun g34 => ?_)
  · skip
    refine WL.opN rfl rfl rfl rfl ?_
    refine WL.opN rfl rfl rfl rfl ?_
    refine WL.opN rfl rfl rfl rfl ?_
    refine WL.op rfl (d_pick rfl rfl ?_)
    refine WL.done (X.then_code ?_)
    refine W.ift rfl ?_
    refine W.seq ?_
    refine W.region ?_
    refine WL.op rfl (d_assign rfl ?_)
    refine WL.done (X.then_code ?_)
    refine W.ret (X.then_ret (X.ret1 rfl rfl ?_))
    exact ⟨rfl, H4.noneL⟩
  · skip
    refine WL.opG rfl rfl rfl (d_loadAB [.slice bca b.cls.length bcc, .int .i64 b.width, .int .i64 b.start, .slice bna b.next.length bnc, .slice bba b.acc.length bbc] Try.underlying25 rfl sz25 rfl (H4.blk 1 rfl) rfl rfl ?_)
    refine WL.opG rfl rfl rfl (d_call ok44 rfl (Ret.calls (small14_any b bca bna bba bcc bnc bbc w4 (rcb.at H4) (rnb.at H4) (rbb.at H4) ) fun _ w5 p3 => ?_))
    obtain ⟨rfl, u5⟩ := p3
    have H5 : UpG w [] w5 [[blk w.heap.size #[.slice aca a.cls.length acc, .int .i64 a.width, .int .i64 a.start, .slice ana a.next.length anc, .slice aba a.acc.length abc] 25], [blk w1.heap.size #[.slice bca b.cls.length bcc, .int .i64 b.width, .int .i64 b.start, .slice bna b.next.length bnc, .slice bba b.acc.length bbc] 25]] := H4.call u5
    refine WL.opG rfl rfl rfl (d_notB rfl ?_)
    refine WL.op rfl (d_pick rfl rfl ?_)
    refine WL.done (X.then_code ?_)
    refine W.iteB (b := !(decide (b.acc.length ≤ 10 ∧ b.next.length ≤ 3000 ∧ b.cls.length ≤ 300))) rfl (fun c34 => ?_) (fun c34 => ?_)
    · skip
      refine W.seq ?_
      refine W.region ?_
      refine WL.op rfl (d_assign rfl ?_)
      refine WL.done (X.then_code ?_)
      refine W.ret (X.then_ret (X.ret1 rfl rfl ?_))
      exact ⟨rfl, H5.noneL⟩
    · skip
      refine W.skip (X.then_code ?_)
      refine W.seq ?_
      have hsa : a.acc.length ≤ 10 ∧ a.next.length ≤ 3000 ∧ a.cls.length ≤ 300 := by simpa using g34
      have hsb : b.acc.length ≤ 10 ∧ b.next.length ≤ 3000 ∧ b.cls.length ≤ 300 := by simpa using c34
      refine W.region ?_
      refine WL.op rfl (d_loadAB [.slice aca a.cls.length acc, .int .i64 a.width, .int .i64 a.start, .slice ana a.next.length anc, .slice aba a.acc.length abc] Try.underlying25 rfl sz25 rfl (H5.blk 0 rfl) rfl rfl ?_)
      refine WL.op rfl (d_loadAB [.slice bca b.cls.length bcc, .int .i64 b.width, .int .i64 b.start, .slice bna b.next.length bnc, .slice bba b.acc.length bbc] Try.underlying25 rfl sz25 rfl (H5.blk 1 rfl) rfl rfl ?_)
      refine WL.op rfl (d_call ok45 rfl (Ret.calls (apart_any a aca ana aba acc anc abc b bca bna bba bcc bnc bbc w5 (rca.at H5) (rna.at H5) (rba.at H5) (rcb.at H5) (rnb.at H5) (rbb.at H5) (by omega)) fun _ w6 p4 => ?_))
      obtain ⟨a2_1, c2_1, rfl, u6⟩ := p4
      have H6 : UpG w [] w6 [[blk w.heap.size #[.slice aca a.cls.length acc, .int .i64 a.width, .int .i64 a.start, .slice ana a.next.length anc, .slice aba a.acc.length abc] 25], [blk w1.heap.size #[.slice bca b.cls.length bcc, .int .i64 b.width, .int .i64 b.start, .slice bna b.next.length bnc, .slice bba b.acc.length bbc] 25], [rowT (tyI .i64) (.slice a2_1 ((apartW a b).length) c2_1) 3 (apartW a b)]] := (H5.new' u6).re rfl
      refine WL.op rfl (d_move rfl ?_)
      refine WL.op rfl (d_extract rfl rfl ?_)
      refine WL.op rfl (d_extract rfl rfl ?_)
      refine WL.op rfl (d_extract rfl rfl ?_)
      refine WL.op rfl (d_assign rfl ?_)
      refine WL.op rfl (d_assign rfl ?_)
      refine WL.op rfl (d_assign rfl ?_)
      refine WL.done (X.then_code ?_)
      refine W.seq ?_
      refine W.region ?_
      refine WL.op rfl (d_loadAB [.slice aca a.cls.length acc, .int .i64 a.width, .int .i64 a.start, .slice ana a.next.length anc, .slice aba a.acc.length abc] Try.underlying25 rfl sz25 rfl (H6.blk 0 rfl) rfl rfl ?_)
      refine WL.op rfl (d_call ok46 rfl (Ret.calls (empty_any a aca ana aba acc anc abc w6 (rca.at H6) (rna.at H6) (rba.at H6) (by omega)) fun _ w7 p5 => ?_))
      obtain ⟨rfl, u7⟩ := p5
      have H7 : UpG w [] w7 [[blk w.heap.size #[.slice aca a.cls.length acc, .int .i64 a.width, .int .i64 a.start, .slice ana a.next.length anc, .slice aba a.acc.length abc] 25], [blk w1.heap.size #[.slice bca b.cls.length bcc, .int .i64 b.width, .int .i64 b.start, .slice bna b.next.length bnc, .slice bba b.acc.length bbc] 25], [rowT (tyI .i64) (.slice a2_1 ((apartW a b).length) c2_1) 3 (apartW a b)]] := H6.call u7
      refine WL.op rfl (d_move rfl ?_)
      refine WL.op rfl (d_extract rfl rfl ?_)
      refine WL.op rfl (d_extract rfl rfl ?_)
      refine WL.op rfl (d_assign rfl ?_)
      refine WL.op rfl (d_assign rfl ?_)
      refine WL.done (X.then_code ?_)
      refine W.pick [9, 8, 7, 6, 5, 4, 3, 2] (Γ' := [(9, .int .i64 (emptyE a)), (8, .bool (emptyB a)), (7, .int .i64 (apartE a b)), (6, .bool (apartI a b)), (5, .slice a2_1 ((apartW a b).length) c2_1), (4, .bool false), (3, .pointer (some ⟨w1.heap.size, 0, none⟩)), (2, .pointer (some ⟨w.heap.size, 0, none⟩))]) rfl ?_
      refine W.seq ?_
      refine W.seq ?_
      refine W.region ?_
      refine WL.op rfl (d_loadAB [.slice aca a.cls.length acc, .int .i64 a.width, .int .i64 a.start, .slice ana a.next.length anc, .slice aba a.acc.length abc] Try.underlying25 rfl sz25 rfl (H7.blk 0 rfl) rfl rfl ?_)
      refine WL.op rfl (d_call ok20 rfl (Ret.calls (refRight_any a aca ana aba acc anc abc w7 (rca.at H7) (rna.at H7) (rba.at H7) ) fun _ w8 p6 => ?_))
      obtain ⟨rfl, u8⟩ := p6
      have H8 : UpG w [] w8 [[blk w.heap.size #[.slice aca a.cls.length acc, .int .i64 a.width, .int .i64 a.start, .slice ana a.next.length anc, .slice aba a.acc.length abc] 25], [blk w1.heap.size #[.slice bca b.cls.length bcc, .int .i64 b.width, .int .i64 b.start, .slice bna b.next.length bnc, .slice bba b.acc.length bbc] 25], [rowT (tyI .i64) (.slice a2_1 ((apartW a b).length) c2_1) 3 (apartW a b)]] := H7.call u8
      refine WL.op rfl (d_notB rfl ?_)
      refine WL.done (X.then_code ?_)
      refine W.iteB (b := !(rightB a)) rfl (fun c39 => ?_) (fun c39 => ?_)
      · skip
        refine W.seq ?_
        have hno : ¬ (rightB a = true ∧ rightB b = true) := by simp_all
        have hw0 : (((apartW a b).length : Nat) : Int) = 0 := by rw [apartW, if_neg hno]; rfl
        have hi0 : apartI a b = false := by rw [apartI, if_neg hno]
        have he3 : apartE a b = 3 := by rw [apartE, if_neg hno]
        have hn0 : emptyB a = false := by rw [emptyB, if_neg (by simp_all)]
        have hf3 : emptyE a = 3 := by rw [emptyE, if_neg (by simp_all)]
        refine W.region ?_
        refine WL.op rfl (d_move rfl ?_)
        refine WL.op rfl (d_lenS Try.underlying22 rfl ?_)
        refine WL.op rfl (d_cmp (decide ((((apartW a b).length : Nat) : Int) = (0 : Int))) rfl rfl rfl ?_)
        refine WL.op rfl (d_move rfl ?_)
        refine WL.part 40 (p := (((apartW a b).length : Nat) : Int) = (0 : Int)) rfl (fun g40 => ?_) (fun g40 => ?_)
        · skip
          refine WL.opG rfl rfl rfl (d_move rfl ?_)
          refine WL.opG rfl rfl rfl (d_notB rfl ?_)
          refine WL.op rfl (d_pick rfl rfl ?_)
          refine WL.op rfl (d_move rfl ?_)
          refine WL.partB 44 (b := !(apartI a b)) rfl (fun g40x => ?_) (fun g40x => ?_)
          · skip
            refine WL.opG rfl rfl rfl (d_move rfl ?_)
            refine WL.opG rfl rfl rfl (d_cmp (decide ((apartE a b) = (3 : Int))) rfl rfl rfl ?_)
            refine WL.op rfl (d_pick rfl rfl ?_)
            refine WL.op rfl (d_move rfl ?_)
            refine WL.part 48 (p := (apartE a b) = (3 : Int)) rfl (fun g40xx => ?_) (fun g40xx => ?_)
            · skip
              refine WL.opG rfl rfl rfl (d_move rfl ?_)
              refine WL.opG rfl rfl rfl (d_notB rfl ?_)
              refine WL.op rfl (d_pick rfl rfl ?_)
              refine WL.op rfl (d_move rfl ?_)
              refine WL.partB 52 (b := !(emptyB a)) rfl (fun g40xxx => ?_) (fun g40xxx => ?_)
              · skip
                refine WL.opG rfl rfl rfl (d_move rfl ?_)
                refine WL.opG rfl rfl rfl (d_cmp (decide ((emptyE a) = (3 : Int))) rfl rfl rfl ?_)
                refine WL.op rfl (d_pick rfl rfl ?_)
                refine WL.op rfl (d_assign rfl ?_)
                refine WL.done (X.then_code ?_)
                refine W.ret (X.then_ret (X.ret1 rfl rfl ?_))
                exact ⟨(by rw [decide_eq_true hf3]), H8.noneL⟩
              · skip
                exact absurd (by rw [hn0]; rfl) g40xxx
            · skip
              exact absurd he3 g40xx
          · skip
            exact absurd (by rw [hi0]; rfl) g40x
        · skip
          exact absurd hw0 g40
      · skip
        refine W.skip (X.then_code ?_)
        refine W.seq ?_
        refine W.seq ?_
        have hra : rightB a = true := by simpa using c39
        refine W.region ?_
        refine WL.op rfl (d_move rfl ?_)
        refine WL.op rfl (d_cmp (decide ((emptyE a) ≠ (0 : Int))) rfl rfl rfl ?_)
        refine WL.op rfl (d_move rfl ?_)
        refine WL.part 58 (p := (emptyE a) ≠ (0 : Int)) rfl (fun g42 => ?_) (fun g42 => ?_)
        · skip
          exact absurd (by rw [emptyE, if_pos hra]) g42
        · skip
          refine WL.opG rfl rfl rfl (d_move rfl ?_)
          refine WL.opG rfl rfl rfl (d_loadAB [.slice aca a.cls.length acc, .int .i64 a.width, .int .i64 a.start, .slice ana a.next.length anc, .slice aba a.acc.length abc] Try.underlying25 rfl sz25 rfl (H8.blk 0 rfl) rfl rfl ?_)
          refine WL.opG rfl rfl rfl (d_call ok47 rfl (Ret.calls (refEmpty_any a aca ana aba acc anc abc w8 (rca.at H8) (rna.at H8) (rba.at H8) hra) fun _ w9 p7 => ?_))
          obtain ⟨rfl, u9⟩ := p7
          have H9 : UpG w [] w9 [[blk w.heap.size #[.slice aca a.cls.length acc, .int .i64 a.width, .int .i64 a.start, .slice ana a.next.length anc, .slice aba a.acc.length abc] 25], [blk w1.heap.size #[.slice bca b.cls.length bcc, .int .i64 b.width, .int .i64 b.start, .slice bna b.next.length bnc, .slice bba b.acc.length bbc] 25], [rowT (tyI .i64) (.slice a2_1 ((apartW a b).length) c2_1) 3 (apartW a b)]] := H8.call u9
          refine WL.opG rfl rfl rfl (d_boolne Try.underlying4 rfl rfl ?_)
          refine WL.op rfl (d_pick rfl rfl ?_)
          refine WL.done (X.then_code ?_)
          refine W.ite (p := (emptyB a) ≠ (emptyB a)) rfl (fun c42 => ?_) (fun c42 => ?_)
          · skip
            exfalso; exact c42 rfl
          · skip
            refine W.skip (X.then_code ?_)
            refine W.seq ?_
            refine W.seq ?_
            refine W.region ?_
            refine WL.op rfl (d_loadAB [.slice bca b.cls.length bcc, .int .i64 b.width, .int .i64 b.start, .slice bna b.next.length bnc, .slice bba b.acc.length bbc] Try.underlying25 rfl sz25 rfl (H9.blk 1 rfl) rfl rfl ?_)
            refine WL.op rfl (d_call ok20 rfl (Ret.calls (refRight_any b bca bna bba bcc bnc bbc w9 (rcb.at H9) (rnb.at H9) (rbb.at H9) ) fun _ w10 p8 => ?_))
            obtain ⟨rfl, u10⟩ := p8
            have H10 : UpG w [] w10 [[blk w.heap.size #[.slice aca a.cls.length acc, .int .i64 a.width, .int .i64 a.start, .slice ana a.next.length anc, .slice aba a.acc.length abc] 25], [blk w1.heap.size #[.slice bca b.cls.length bcc, .int .i64 b.width, .int .i64 b.start, .slice bna b.next.length bnc, .slice bba b.acc.length bbc] 25], [rowT (tyI .i64) (.slice a2_1 ((apartW a b).length) c2_1) 3 (apartW a b)]] := H9.call u10
            refine WL.op rfl (d_notB rfl ?_)
            refine WL.done (X.then_code ?_)
            refine W.iteB (b := !(rightB b)) rfl (fun c45 => ?_) (fun c45 => ?_)
            · skip
              refine W.seq ?_
              have hno : ¬ (rightB a = true ∧ rightB b = true) := by simp_all
              have hw0 : (((apartW a b).length : Nat) : Int) = 0 := by rw [apartW, if_neg hno]; rfl
              have hi0 : apartI a b = false := by rw [apartI, if_neg hno]
              have he3 : apartE a b = 3 := by rw [apartE, if_neg hno]
              refine W.region ?_
              refine WL.op rfl (d_move rfl ?_)
              refine WL.op rfl (d_lenS Try.underlying22 rfl ?_)
              refine WL.op rfl (d_cmp (decide ((((apartW a b).length : Nat) : Int) = (0 : Int))) rfl rfl rfl ?_)
              refine WL.op rfl (d_move rfl ?_)
              refine WL.part 70 (p := (((apartW a b).length : Nat) : Int) = (0 : Int)) rfl (fun g46 => ?_) (fun g46 => ?_)
              · skip
                refine WL.opG rfl rfl rfl (d_move rfl ?_)
                refine WL.opG rfl rfl rfl (d_notB rfl ?_)
                refine WL.op rfl (d_pick rfl rfl ?_)
                refine WL.op rfl (d_move rfl ?_)
                refine WL.partB 74 (b := !(apartI a b)) rfl (fun g46x => ?_) (fun g46x => ?_)
                · skip
                  refine WL.opG rfl rfl rfl (d_move rfl ?_)
                  refine WL.opG rfl rfl rfl (d_cmp (decide ((apartE a b) = (3 : Int))) rfl rfl rfl ?_)
                  refine WL.op rfl (d_pick rfl rfl ?_)
                  refine WL.op rfl (d_assign rfl ?_)
                  refine WL.done (X.then_code ?_)
                  refine W.pick [4] (Γ' := [(4, .bool (decide ((apartE a b) = (3 : Int))))]) rfl ?_
                  refine W.ret (X.then_ret (X.ret1 rfl rfl ?_))
                  exact ⟨(by rw [decide_eq_true he3]), H10.noneL⟩
                · skip
                  exact absurd (by rw [hi0]; rfl) g46x
              · skip
                exact absurd hw0 g46
            · skip
              refine W.skip (X.then_code ?_)
              refine W.seq ?_
              have hrb : rightB b = true := by simpa using c45
              refine W.region ?_
              refine WL.op rfl (d_loadAB [.slice aca a.cls.length acc, .int .i64 a.width, .int .i64 a.start, .slice ana a.next.length anc, .slice aba a.acc.length abc] Try.underlying25 rfl sz25 rfl (H10.blk 0 rfl) rfl rfl ?_)
              refine WL.op rfl (d_loadAB [.slice bca b.cls.length bcc, .int .i64 b.width, .int .i64 b.start, .slice bna b.next.length bnc, .slice bba b.acc.length bbc] Try.underlying25 rfl sz25 rfl (H10.blk 1 rfl) rfl rfl ?_)
              refine WL.op rfl (d_call ok48 rfl (Ret.calls (refApart_any a aca ana aba acc anc abc b bca bna bba bcc bnc bbc w10 (rca.at H10) (rna.at H10) (rba.at H10) (rcb.at H10) (rnb.at H10) (rbb.at H10) hra hrb) fun _ w11 p9 => ?_))
              obtain ⟨a2_2, vw_1, c2_2, ok_1, rfl, u11, q1, q2⟩ := p9
              have H11 : UpG w [] w11 [[blk w.heap.size #[.slice aca a.cls.length acc, .int .i64 a.width, .int .i64 a.start, .slice ana a.next.length anc, .slice aba a.acc.length abc] 25], [blk w1.heap.size #[.slice bca b.cls.length bcc, .int .i64 b.width, .int .i64 b.start, .slice bna b.next.length bnc, .slice bba b.acc.length bbc] 25], [rowT (tyI .i64) (.slice a2_1 ((apartW a b).length) c2_1) 3 (apartW a b)], [rowT (tyI .i64) (.slice a2_2 vw_1.length c2_2) 3 vw_1]] := (H10.new' u11).re rfl
              refine WL.op rfl (d_move rfl ?_)
              refine WL.op rfl (d_extract rfl rfl ?_)
              refine WL.op rfl (d_extract rfl rfl ?_)
              refine WL.op rfl (d_assign rfl ?_)
              refine WL.op rfl (d_assign rfl ?_)
              refine WL.done (X.then_code ?_)
              refine W.seq ?_
              refine W.region ?_
              refine WL.op rfl (d_move rfl ?_)
              refine WL.op rfl (d_cmp (decide ((apartE a b) = (0 : Int))) rfl rfl rfl ?_)
              refine WL.op rfl (d_move rfl ?_)
              refine WL.part 86 (p := (apartE a b) = (0 : Int)) rfl (fun g49 => ?_) (fun g49 => ?_)
              · skip
                refine WL.opG rfl rfl rfl (d_move rfl ?_)
                refine WL.opG rfl rfl rfl (d_move rfl ?_)
                refine WL.opG rfl rfl rfl (d_booleq Try.underlying4 rfl rfl ?_)
                refine WL.op rfl (d_pick rfl rfl ?_)
                refine WL.op rfl (d_move rfl ?_)
                refine WL.part 91 (p := (apartI a b) = ok_1) rfl (fun g49x => ?_) (fun g49x => ?_)
                · skip
                  refine WL.opG rfl rfl rfl (d_move rfl ?_)
                  refine WL.opG rfl rfl rfl (d_move rfl ?_)
                  refine WL.opG rfl rfl rfl (d_call ok32 rfl (Ret.calls (same10_any a2_1 (apartW a b) c2_1 ((apartW a b).length) a2_2 vw_1 c2_2 vw_1.length w11 (H11.rdT 2 rfl) (H11.rdT 3 rfl) ) fun _ w12 p10 => ?_))
                  obtain ⟨rfl, u12⟩ := p10
                  have H12 : UpG w [] w12 [[blk w.heap.size #[.slice aca a.cls.length acc, .int .i64 a.width, .int .i64 a.start, .slice ana a.next.length anc, .slice aba a.acc.length abc] 25], [blk w1.heap.size #[.slice bca b.cls.length bcc, .int .i64 b.width, .int .i64 b.start, .slice bna b.next.length bnc, .slice bba b.acc.length bbc] 25], [rowT (tyI .i64) (.slice a2_1 ((apartW a b).length) c2_1) 3 (apartW a b)], [rowT (tyI .i64) (.slice a2_2 vw_1.length c2_2) 3 vw_1]] := H11.call u12
                  refine WL.op rfl (d_pick rfl rfl ?_)
                  refine WL.op rfl (d_assign rfl ?_)
                  refine WL.done (X.then_code ?_)
                  refine W.pick [4] (Γ' := [(4, .bool (decide ((apartW a b) = vw_1)))]) rfl ?_
                  refine W.ret (X.ret1 rfl rfl ?_)
                  exact ⟨(by rw [decide_eq_true (show apartW a b = vw_1 by rw [apartW, if_pos ⟨hra, hrb⟩, q1])]), H12.noneL⟩
                · skip
                  exact absurd (by rw [apartI, if_pos ⟨hra, hrb⟩, q2]) g49x
              · skip
                exact absurd (by rw [apartE, if_pos ⟨hra, hrb⟩]) g49
end Go.Proofs.Ytoeockpkkmgieaa
