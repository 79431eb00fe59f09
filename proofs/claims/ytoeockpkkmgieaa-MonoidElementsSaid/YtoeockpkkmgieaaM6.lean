/- The walks of functions, printed by wip/tools/gw.py. -/
import Derived.Test.YtoeockpkkmgieaaF2
import Derived.Test.YtoeockpkkmgieaaSx7
import Derived.Test.YtoeockpkkmgieaaM4
import Derived.Test.YtoeockpkkmgieaaRR
import Derived.Test.YtoeockpkkmgieaaMon5
namespace Go.Proofs.Ytoeockpkkmgieaa
open Go Go.Sx
set_option linter.unusedVariables false
set_option linter.unusedSimpArgs false
set_option maxRecDepth 20000 in
theorem monoidElements_any (d : DfaD) (dca : Option Addr) (dna : Option Addr) (dba : Option Addr) (dcc : Nat) (dnc : Nat) (dbc : Nat) (most : Int) (w : World) (rcd : RdT (tyI .i64) w (.slice dca d.cls.length dcc) d.cls) (rnd : RdT (tyI .i64) w (.slice dna d.next.length dnc) d.next) (rbd : RdT tyB w (.slice dba d.acc.length dbc) d.acc) :
    Calls Try.prog 5 #[.agg #[.slice dca d.cls.length dcc, .int .i64 d.width, .int .i64 d.start, .slice dna d.next.length dnc, .slice dba d.acc.length dbc], .int .i64 most] w (Ret fun v w' => v = .bool true ∧ Upd w [] w' []) := by
  have le_rcd := rcd.le
  have le_rnd := rnd.le
  have le_rbd := rbd.le
  refine calls_of_W (args := [.agg #[.slice dca d.cls.length dcc, .int .i64 d.width, .int .i64 d.start, .slice dna d.next.length dnc, .slice dba d.acc.length dbc], .int .i64 most]) Try.func5 rfl rfl rfl ?_
  have H0 : UpG w [] w [] := UpG.nil w
  show W _ _ _ _ [(0, .agg #[.slice dca d.cls.length dcc, .int .i64 d.width, .int .i64 d.start, .slice dna d.next.length dnc, .slice dba d.acc.length dbc]), (1, .int .i64 most)] w
  refine W.seq ?_
  refine W.region ?_
  refine WL.op rfl (d_box rfl fun w1 u1 => ?_)
  have H1 : UpG w [] w1 [[blk w.heap.size #[.slice dca d.cls.length dcc, .int .i64 d.width, .int .i64 d.start, .slice dna d.next.length dnc, .slice dba d.acc.length dbc] 25]] := H0.new' u1
  refine WL.op rfl (d_assign rfl ?_)
  refine WL.done (X.then_code ?_)
  refine W.seq ?_
  refine W.seq ?_
  refine W.region ?_
  refine WL.op rfl (d_call ok27 rfl (Ret.calls (awake18_any  w1  ) fun _ w2 p1 => ?_))
  obtain ⟨rfl, u2⟩ := p1
  have H2 : UpG w [] w2 [[blk w.heap.size #[.slice dca d.cls.length dcc, .int .i64 d.width, .int .i64 d.start, .slice dna d.next.length dnc, .slice dba d.acc.length dbc] 25]] := H1.call u2
  refine WL.op rfl (d_notB rfl ?_)
  refine WL.done (X.then_code ?_)
  refine W.iff rfl ?_
  refine W.skip (X.then_code ?_)
  refine W.seq ?_
  refine W.seq ?_
  refine W.region ?_
  refine WL.op rfl (d_loadAB [.slice dca d.cls.length dcc, .int .i64 d.width, .int .i64 d.start, .slice dna d.next.length dnc, .slice dba d.acc.length dbc] Try.underlying25 rfl sz25 rfl (H2.blk 0 rfl) rfl rfl ?_)
  refine WL.op rfl (d_call ok28 rfl (Ret.calls (small18_any d dca dna dba dcc dnc dbc w2 (rcd.at H2) (rnd.at H2) (rbd.at H2) ) fun _ w3 p2 => ?_))
  obtain ⟨rfl, u3⟩ := p2
  have H3 : UpG w [] w3 [[blk w.heap.size #[.slice dca d.cls.length dcc, .int .i64 d.width, .int .i64 d.start, .slice dna d.next.length dnc, .slice dba d.acc.length dbc] 25]] := H2.call u3
  refine WL.op rfl (d_notB rfl ?_)
  refine WL.op rfl (d_move rfl ?_)
  refine WL.partB 19 (b := !(decide (d.acc.length ≤ 6 ∧ d.next.length ≤ 2000 ∧ d.cls.length ≤ 300))) rfl (fun g32 => ?_) (fun g32 => ?_)
  · skip
    refine WL.opN rfl rfl rfl rfl ?_
    refine WL.opN rfl rfl rfl rfl ?_
    refine WL.op rfl (d_pick rfl rfl ?_)
    refine WL.done (X.then_code ?_)
    refine W.ift rfl ?_
    refine W.seq ?_
    refine W.region ?_
    refine WL.op rfl (d_assign rfl ?_)
    refine WL.done (X.then_code ?_)
    refine W.ret (X.then_ret (X.ret1 rfl rfl ?_))
    exact ⟨rfl, H3.noneL⟩
  · skip
    refine WL.opG rfl rfl rfl (d_move rfl ?_)
    refine WL.opG rfl rfl rfl (d_cmp (decide (most > (40 : Int))) rfl rfl rfl ?_)
    refine WL.op rfl (d_pick rfl rfl ?_)
    refine WL.done (X.then_code ?_)
    refine W.ite (p := most > (40 : Int)) rfl (fun c32 => ?_) (fun c32 => ?_)
    · skip
      refine W.seq ?_
      refine W.region ?_
      refine WL.op rfl (d_assign rfl ?_)
      refine WL.done (X.then_code ?_)
      refine W.ret (X.then_ret (X.ret1 rfl rfl ?_))
      exact ⟨rfl, H3.noneL⟩
    · skip
      refine W.skip (X.then_code ?_)
      refine W.seq ?_
      refine W.region ?_
      refine WL.op rfl (d_loadAB [.slice dca d.cls.length dcc, .int .i64 d.width, .int .i64 d.start, .slice dna d.next.length dnc, .slice dba d.acc.length dbc] Try.underlying25 rfl sz25 rfl (H3.blk 0 rfl) rfl rfl ?_)
      refine WL.op rfl (d_move rfl ?_)
      refine WL.op rfl (d_call ok29 rfl (Ret.calls (elements_any d dca dna dba dcc dnc dbc most w3 (rcd.at H3) (rnd.at H3) (rbd.at H3) (by omega)) fun _ w4 p3 => ?_))
      obtain ⟨a2_1, xs_1, c2_1, ec_1, rfl, u4, q1⟩ := p3
      have H4 : UpG w [] w4 [[blk w.heap.size #[.slice dca d.cls.length dcc, .int .i64 d.width, .int .i64 d.start, .slice dna d.next.length dnc, .slice dba d.acc.length dbc] 25], [rowT tyEL (.slice a2_1 xs_1.length c2_1) 45 xs_1], [manyF inEL.row xs_1]] := (H3.new' u4).re rfl
      refine WL.op rfl (d_move rfl ?_)
      refine WL.op rfl (d_extract rfl rfl ?_)
      refine WL.op rfl (d_extract rfl rfl ?_)
      refine WL.op rfl (d_assign rfl ?_)
      refine WL.op rfl (d_assign rfl ?_)
      refine WL.done (X.then_code ?_)
      refine W.seq ?_
      refine W.region ?_
      refine WL.op rfl (d_loadAB [.slice dca d.cls.length dcc, .int .i64 d.width, .int .i64 d.start, .slice dna d.next.length dnc, .slice dba d.acc.length dbc] Try.underlying25 rfl sz25 rfl (H4.blk 0 rfl) rfl rfl ?_)
      refine WL.op rfl (d_move rfl ?_)
      refine WL.op rfl (d_call ok30 rfl (Ret.calls (aperiodic_any d dca dna dba dcc dnc dbc most w4 (rcd.at H4) (rnd.at H4) (rbd.at H4) (by omega)) fun _ w5 p4 => ?_))
      obtain ⟨rfl, u5⟩ := p4
      have H5 : UpG w [] w5 [[blk w.heap.size #[.slice dca d.cls.length dcc, .int .i64 d.width, .int .i64 d.start, .slice dna d.next.length dnc, .slice dba d.acc.length dbc] 25], [rowT tyEL (.slice a2_1 xs_1.length c2_1) 45 xs_1], [manyF inEL.row xs_1]] := H4.call u5
      refine WL.op rfl (d_move rfl ?_)
      refine WL.op rfl (d_extract rfl rfl ?_)
      refine WL.op rfl (d_extract rfl rfl ?_)
      refine WL.op rfl (d_assign rfl ?_)
      refine WL.op rfl (d_assign rfl ?_)
      refine WL.done (X.then_code ?_)
      refine W.seq ?_
      refine W.seq ?_
      have he := q1.err
      refine W.region ?_
      refine WL.op rfl (d_move rfl ?_)
      refine WL.op rfl (d_move rfl ?_)
      refine WL.op rfl (d_cmp (decide (ec_1 ≠ (aperE d most))) rfl rfl rfl ?_)
      refine WL.done (X.then_code ?_)
      refine W.pick [37, 7, 6, 5, 4, 2, 1] (Γ' := [(37, .bool (decide (ec_1 ≠ (aperE d most)))), (7, .bool (aperB d most)), (6, .int .i64 ec_1), (5, .slice a2_1 xs_1.length c2_1), (4, .bool false), (2, .pointer (some ⟨w.heap.size, 0, none⟩)), (1, .int .i64 most)]) rfl ?_
      refine W.ite (p := ec_1 ≠ (aperE d most)) rfl (fun c37 => ?_) (fun c37 => ?_)
      · skip
        exfalso; exact c37 he
      · skip
        refine W.skip (X.then_code ?_)
        refine W.seq ?_
        refine W.seq ?_
        refine W.region ?_
        refine WL.op rfl (d_loadAB [.slice dca d.cls.length dcc, .int .i64 d.width, .int .i64 d.start, .slice dna d.next.length dnc, .slice dba d.acc.length dbc] Try.underlying25 rfl sz25 rfl (H5.blk 0 rfl) rfl rfl ?_)
        refine WL.op rfl (d_call ok20 rfl (Ret.calls (refRight_any d dca dna dba dcc dnc dbc w5 (rcd.at H5) (rnd.at H5) (rbd.at H5) ) fun _ w6 p5 => ?_))
        obtain ⟨rfl, u6⟩ := p5
        have H6 : UpG w [] w6 [[blk w.heap.size #[.slice dca d.cls.length dcc, .int .i64 d.width, .int .i64 d.start, .slice dna d.next.length dnc, .slice dba d.acc.length dbc] 25], [rowT tyEL (.slice a2_1 xs_1.length c2_1) 45 xs_1], [manyF inEL.row xs_1]] := H5.call u6
        refine WL.op rfl (d_notB rfl ?_)
        refine WL.done (X.then_code ?_)
        refine W.iteB (b := !(rightB d)) rfl (fun c40 => ?_) (fun c40 => ?_)
        · skip
          refine W.seq ?_
          have hno : ¬ rightB d = true := by simpa using c40
          obtain ⟨hx0, he3⟩ := q1.1 (Bool.eq_false_iff.2 hno)
          have hap := aper_wrong (most := most) hno
          refine W.region ?_
          refine WL.op rfl (d_move rfl ?_)
          refine WL.op rfl (d_cmp (decide (ec_1 = (3 : Int))) rfl rfl rfl ?_)
          refine WL.op rfl (d_move rfl ?_)
          refine WL.part 43 (p := ec_1 = (3 : Int)) rfl (fun g41 => ?_) (fun g41 => ?_)
          · skip
            refine WL.opG rfl rfl rfl (d_move rfl ?_)
            refine WL.opG rfl rfl rfl (d_lenS Try.underlying35 rfl ?_)
            refine WL.opG rfl rfl rfl (d_cmp (decide (((xs_1.length : Nat) : Int) = (0 : Int))) rfl rfl rfl ?_)
            refine WL.op rfl (d_pick rfl rfl ?_)
            refine WL.op rfl (d_move rfl ?_)
            refine WL.part 48 (p := ((xs_1.length : Nat) : Int) = (0 : Int)) rfl (fun g41x => ?_) (fun g41x => ?_)
            · skip
              refine WL.opG rfl rfl rfl (d_move rfl ?_)
              refine WL.opG rfl rfl rfl (d_notB rfl ?_)
              refine WL.op rfl (d_pick rfl rfl ?_)
              refine WL.op rfl (d_assign rfl ?_)
              refine WL.done (X.then_code ?_)
              refine W.ret (X.then_ret (X.ret1 rfl rfl ?_))
              exact ⟨(by rw [hap.1]; rfl), H6.noneL⟩
            · skip
              exact absurd (by rw [hx0]; rfl) g41x
          · skip
            exact absurd he3 g41
        · skip
          refine W.skip (X.then_code ?_)
          refine W.seq ?_
          have hrt : rightB d = true := by simpa using c40
          have hri := rightB_iff.1 hrt
          refine W.region ?_
          refine WL.op rfl (d_loadAB [.slice dca d.cls.length dcc, .int .i64 d.width, .int .i64 d.start, .slice dna d.next.length dnc, .slice dba d.acc.length dbc] Try.underlying25 rfl sz25 rfl (H6.blk 0 rfl) rfl rfl ?_)
          refine WL.op rfl (d_move rfl ?_)
          refine WL.op rfl (d_call ok31 rfl (Ret.calls (elementsR_any d dca dna dba dcc dnc dbc most w6 (rcd.at H6) (rnd.at H6) (rbd.at H6) hrt (by omega)) fun _ w7 p6 => ?_))
          obtain ⟨a2_2, xs_2, c2_2, rfl, u7, q2, q3⟩ := p6
          have H7 : UpG w [] w7 [[blk w.heap.size #[.slice dca d.cls.length dcc, .int .i64 d.width, .int .i64 d.start, .slice dna d.next.length dnc, .slice dba d.acc.length dbc] 25], [rowT tyEL (.slice a2_1 xs_1.length c2_1) 45 xs_1], [manyF inEL.row xs_1], [rowT tyEL (.slice a2_2 xs_2.length c2_2) 46 xs_2], [manyF inEL.row xs_2]] := (H6.new' u7).re rfl
          refine WL.op rfl (d_move rfl ?_)
          refine WL.op rfl (d_extract rfl rfl ?_)
          refine WL.op rfl (d_extract rfl rfl ?_)
          refine WL.op rfl (d_assign rfl ?_)
          refine WL.op rfl (d_assign rfl ?_)
          refine WL.done (X.then_code ?_)
          refine W.seq ?_
          refine W.seq ?_
          refine W.region ?_
          refine WL.op rfl (d_move rfl ?_)
          refine WL.op rfl (d_notB rfl ?_)
          refine WL.done (X.then_code ?_)
          refine W.iteB (b := !(decide (((elsOut d (lettersB d) most).length : Int) ≤ most))) rfl (fun c44 => ?_) (fun c44 => ?_)
          · skip
            refine W.seq ?_
            have hbig : ¬ ((elsOut d (lettersB d) most).length : Int) ≤ most := by simpa using c44
            obtain ⟨he5, hx0⟩ := q1.2.2 hrt hbig
            have hap := aper_many hrt hbig
            refine W.region ?_
            refine WL.op rfl (d_move rfl ?_)
            refine WL.op rfl (d_cmp (decide (ec_1 = (5 : Int))) rfl rfl rfl ?_)
            refine WL.op rfl (d_move rfl ?_)
            refine WL.part 62 (p := ec_1 = (5 : Int)) rfl (fun g45 => ?_) (fun g45 => ?_)
            · skip
              refine WL.opG rfl rfl rfl (d_move rfl ?_)
              refine WL.opG rfl rfl rfl (d_lenS Try.underlying35 rfl ?_)
              refine WL.opG rfl rfl rfl (d_cmp (decide (((xs_1.length : Nat) : Int) = (0 : Int))) rfl rfl rfl ?_)
              refine WL.op rfl (d_pick rfl rfl ?_)
              refine WL.op rfl (d_move rfl ?_)
              refine WL.part 67 (p := ((xs_1.length : Nat) : Int) = (0 : Int)) rfl (fun g45x => ?_) (fun g45x => ?_)
              · skip
                refine WL.opG rfl rfl rfl (d_move rfl ?_)
                refine WL.opG rfl rfl rfl (d_notB rfl ?_)
                refine WL.op rfl (d_pick rfl rfl ?_)
                refine WL.op rfl (d_assign rfl ?_)
                refine WL.done (X.then_code ?_)
                refine W.pick [4] (Γ' := [(4, .bool (!(aperB d most)))]) rfl ?_
                refine W.ret (X.then_ret (X.ret1 rfl rfl ?_))
                exact ⟨(by rw [hap.1]; rfl), H7.noneL⟩
              · skip
                exact absurd (by rw [hx0]; rfl) g45x
            · skip
              exact absurd he5 g45
          · skip
            refine W.skip (X.then_code ?_)
            refine W.seq ?_
            refine W.seq ?_
            have hfew : ((elsOut d (lettersB d) most).length : Int) ≤ most := by simpa using c44
            obtain ⟨he0, hxd, hxI⟩ := q1.2.1 hrt hfew
            have hll : xs_1.length = xs_2.length := by rw [els_len hxd, els_len q2]
            have hxl : xs_1.length ≤ 40 := by have h9 := els_len hxd; omega
            refine W.region ?_
            refine WL.op rfl (d_move rfl ?_)
            refine WL.op rfl (d_cmp (decide (ec_1 ≠ (0 : Int))) rfl rfl rfl ?_)
            refine WL.op rfl (d_move rfl ?_)
            refine WL.part 73 (p := ec_1 ≠ (0 : Int)) rfl (fun g47 => ?_) (fun g47 => ?_)
            · skip
              exact absurd he0 g47
            · skip
              refine WL.opG rfl rfl rfl (d_move rfl ?_)
              refine WL.opG rfl rfl rfl (d_lenS Try.underlying35 rfl ?_)
              refine WL.opG rfl rfl rfl (d_move rfl ?_)
              refine WL.opG rfl rfl rfl (d_lenS Try.underlying41 rfl ?_)
              refine WL.opG rfl rfl rfl (d_cmp (decide (((xs_1.length : Nat) : Int) ≠ ((xs_2.length : Nat) : Int))) rfl rfl rfl ?_)
              refine WL.op rfl (d_pick rfl rfl ?_)
              refine WL.done (X.then_code ?_)
              refine W.ite (p := ((xs_1.length : Nat) : Int) ≠ ((xs_2.length : Nat) : Int)) rfl (fun c47 => ?_) (fun c47 => ?_)
              · skip
                exfalso; exact c47 (by rw [hll])
              · skip
                refine W.skip (X.then_code ?_)
                refine W.seq ?_
                refine W.region ?_
                refine WL.op rfl (d_assign rfl ?_)
                refine WL.done (X.then_code ?_)
                refine W.seq ?_
                refine W.region ?_
                refine WL.op rfl (d_assign rfl ?_)
                refine WL.done (X.then_code ?_)
                refine W.pick [12, 11, 9, 7, 5, 4] (Γ' := [(12, .slice none 0 0), (11, .bool true), (9, .slice a2_2 xs_2.length c2_2), (7, .bool (aperB d most)), (5, .slice a2_1 xs_1.length c2_1), (4, .bool false)]) rfl ?_
                refine W.seq ?_
                refine W.seq ?_
                refine W.region ?_
                refine WL.op rfl (d_assign rfl ?_)
                refine WL.done (X.then_code ?_)
                refine W.block ?_
                have H8 : UpG w [] w7 [[blk w.heap.size #[.slice dca d.cls.length dcc, .int .i64 d.width, .int .i64 d.start, .slice dna d.next.length dnc, .slice dba d.acc.length dbc] 25], [rowT tyEL (.slice a2_1 xs_1.length c2_1) 45 xs_1], [manyF inEL.row xs_1], [rowT tyEL (.slice a2_2 xs_2.length c2_2) 46 xs_2], [manyF inEL.row xs_2], [rowT (tyI .i64) (.slice none (([] : List Int).length) 0) 3 ([] : List Int)]] := H7.new' (Upd.nilRowT w7 (tyI .i64) 3)
                refine W.pick [13, 12, 11, 9, 7, 5, 4] (Γ' := [(13, .int .i64 0), (12, .slice none (([] : List Int).length) 0), (11, .bool true), (9, .slice a2_2 xs_2.length c2_2), (7, .bool (aperB d most)), (5, .slice a2_1 xs_1.length c2_1), (4, .bool false)]) rfl ?_
                refine W.loop (fun m Γ' w' => ∃ k : Nat, ∃ al : Bool, ∃ q : List Int, ∃ qa : Option Addr, ∃ qc : Nat, Γ' = [(13, .int .i64 ((k : Nat) : Int)), (12, .slice qa q.length qc), (11, .bool al), (9, .slice a2_2 xs_2.length c2_2), (7, .bool (aperB d most)), (5, .slice a2_1 xs_1.length c2_1), (4, .bool false)] ∧ UpG w [] w' [[blk w.heap.size #[.slice dca d.cls.length dcc, .int .i64 d.width, .int .i64 d.start, .slice dna d.next.length dnc, .slice dba d.acc.length dbc] 25], [rowT tyEL (.slice a2_1 xs_1.length c2_1) 45 xs_1], [manyF inEL.row xs_1], [rowT tyEL (.slice a2_2 xs_2.length c2_2) 46 xs_2], [manyF inEL.row xs_2], [rowT (tyI .i64) (.slice qa q.length qc) 3 q]] ∧ (k ≤ xs_1.length) ∧ (al = allTo xs_2 k) ∧ (q = idemK (xs_2.map EL.to) k) ∧ m = xs_1.length - k) (xs_1.length - 0) ⟨0, true, ([] : List Int), none, 0, rfl, H8, (by first | assumption | omega | simp), (by rfl), (by rfl), rfl⟩ ?_
                rintro m1 Γ1 w8 ⟨k, al, q, qa, qc, rfl, H9, hk, hal, hq, rfl⟩
                have hql : q.length ≤ k := (by rw [hq]; exact idemK_len _ _)
                refine W.seq ?_
                refine W.seq ?_
                refine W.region ?_
                refine WL.op rfl (d_move rfl ?_)
                refine WL.op rfl (d_move rfl ?_)
                refine WL.op rfl (d_lenS Try.underlying35 rfl ?_)
                refine WL.op rfl (d_cmp (decide (((k : Nat) : Int) < ((xs_1.length : Nat) : Int))) rfl rfl rfl ?_)
                refine WL.done (X.then_code ?_)
                refine W.ite (p := ((k : Nat) : Int) < ((xs_1.length : Nat) : Int)) rfl (fun c52 => ?_) (fun c52 => ?_)
                · skip
                  refine W.skip (X.then_code ?_)
                  refine W.seq ?_
                  refine W.block ?_
                  refine W.seq ?_
                  refine W.seq ?_
                  have hat := els_at hxd q2 (k := k) (by omega)
                  have hyl : (xs_2.getD k el0).to.length = d.acc.length := q3.to_len (getD_mem' (by omega))
                  have hth : thenB (xs_2.getD k el0).to (xs_2.getD k el0).to = true := q3.then_ok hrt (getD_mem' (by omega)) (getD_mem' (by omega))
                  refine W.regionD mixed (by kernel_rfl) fun hok1 w9 k1 => ?_
                  have H10 : UpG w [] w9 [[blk w.heap.size #[.slice dca d.cls.length dcc, .int .i64 d.width, .int .i64 d.start, .slice dna d.next.length dnc, .slice dba d.acc.length dbc] 25], [rowT tyEL (.slice a2_1 xs_1.length c2_1) 45 xs_1], [manyF inEL.row xs_1], [rowT tyEL (.slice a2_2 xs_2.length c2_2) 46 xs_2], [manyF inEL.row xs_2], [rowT (tyI .i64) (.slice qa q.length qc) 3 q]] := H9.kept k1
                  refine WD.take hok1 0 (.slice a2_1 xs_1.length c2_1) (fun _ => True) rfl rfl rfl rfl rfl trivial (.inl ⟨rfl, fun _ _ => d_move rfl ⟨rfl, rfl⟩⟩) ?_
                  refine WD.take hok1 1 (.int .i64 ((k : Nat) : Int)) (fun _ => True) rfl rfl rfl rfl rfl trivial (.inl ⟨rfl, fun _ _ => d_move rfl ⟨rfl, rfl⟩⟩) ?_
                  refine WD.take hok1 2 (elemPtr (.slice a2_1 xs_1.length c2_1) (k * 2)) (fun w' => RdT tyEL w' (.slice a2_1 xs_1.length c2_1) xs_1) rfl rfl rfl rfl rfl (H10.rdT 1 rfl) (.inl ⟨rfl, fun _ hC => t_addrN k (T := tyEL) rfl Try.underlying35 sz45 rfl rfl hC rfl (by omega) ⟨rfl, rfl⟩⟩) ?_
                  refine WD.take hok1 3 (elemPtr (.slice a2_1 xs_1.length c2_1) (k * 2 + 1)) (fun w' => RdT tyEL w' (.slice a2_1 xs_1.length c2_1) xs_1) rfl rfl rfl rfl rfl (H10.rdT 1 rfl) (.inl ⟨rfl, fun _ hC => t_fld k el0 (T := tyEL) rfl fld45_1 rfl rfl hC (by omega) ⟨rfl, rfl⟩⟩) ?_
                  refine WD.take hok1 4 (.string ((xs_1.getD k el0).text)) (fun w' => RdT tyEL w' (.slice a2_1 xs_1.length c2_1) xs_1) rfl rfl rfl rfl rfl (H10.rdT 1 rfl) (.inl ⟨rfl, fun _ hC => t_loadF k el0 (T := tyEL) rfl rfl Try.underlying9 rfl rfl hC (by omega) rfl ⟨rfl, rfl⟩⟩) ?_
                  refine WD.take hok1 5 (.slice a2_2 xs_2.length c2_2) (fun _ => True) rfl rfl rfl rfl rfl trivial (.inl ⟨rfl, fun _ _ => d_move rfl ⟨rfl, rfl⟩⟩) ?_
                  refine WD.take hok1 6 (.int .i64 ((k : Nat) : Int)) (fun _ => True) rfl rfl rfl rfl rfl trivial (.inl ⟨rfl, fun _ _ => d_move rfl ⟨rfl, rfl⟩⟩) ?_
                  refine WD.take hok1 7 (elemPtr (.slice a2_2 xs_2.length c2_2) (k * 2)) (fun w' => RdT tyEL w' (.slice a2_2 xs_2.length c2_2) xs_2) rfl rfl rfl rfl rfl (H10.rdT 3 rfl) (.inl ⟨rfl, fun _ hC => t_addrN k (T := tyEL) rfl Try.underlying41 sz46 rfl rfl hC rfl (by omega) ⟨rfl, rfl⟩⟩) ?_
                  refine WD.take hok1 8 (elemPtr (.slice a2_2 xs_2.length c2_2) (k * 2 + 1)) (fun w' => RdT tyEL w' (.slice a2_2 xs_2.length c2_2) xs_2) rfl rfl rfl rfl rfl (H10.rdT 3 rfl) (.inl ⟨rfl, fun _ hC => t_fld k el0 (T := tyEL) rfl fld46_1 rfl rfl hC (by omega) ⟨rfl, rfl⟩⟩) ?_
                  refine WD.take hok1 9 (.string ((xs_2.getD k el0).text)) (fun w' => RdT tyEL w' (.slice a2_2 xs_2.length c2_2) xs_2) rfl rfl rfl rfl rfl (H10.rdT 3 rfl) (.inl ⟨rfl, fun _ hC => t_loadF k el0 (T := tyEL) rfl rfl Try.underlying9 rfl rfl hC (by omega) rfl ⟨rfl, rfl⟩⟩) ?_
                  refine WD.take hok1 10 (.bool (decide (((xs_1.getD k el0).text) ≠ ((xs_2.getD k el0).text)))) (fun _ => True) rfl rfl rfl rfl rfl trivial (.inl ⟨rfl, fun _ _ => d_strne rfl rfl ⟨rfl, rfl⟩⟩) ?_
                  refine WD.take hok1 11 (.bool (decide (((xs_1.getD k el0).text) ≠ ((xs_2.getD k el0).text)))) (fun _ => True) rfl rfl rfl rfl rfl trivial (.inl ⟨rfl, fun _ _ => d_move rfl ⟨rfl, rfl⟩⟩) ?_
                  refine WD.part 97 (p := ((xs_1.getD k el0).text) ≠ ((xs_2.getD k el0).text)) rfl (fun g53 => ?_) (fun g53 => ?_)
                  · skip
                    exact absurd hat.1 g53
                  · skip
                    refine WD.take hok1 12 (.slice a2_1 xs_1.length c2_1) (fun _ => True) rfl rfl rfl rfl rfl trivial (.inl ⟨rfl, fun _ _ => d_move rfl ⟨rfl, rfl⟩⟩) ?_
                    refine WD.take hok1 13 (.int .i64 ((k : Nat) : Int)) (fun _ => True) rfl rfl rfl rfl rfl trivial (.inl ⟨rfl, fun _ _ => d_move rfl ⟨rfl, rfl⟩⟩) ?_
                    refine WD.take hok1 14 (elemPtr (.slice a2_1 xs_1.length c2_1) (k * 2)) (fun w' => RdT tyEL w' (.slice a2_1 xs_1.length c2_1) xs_1) rfl rfl rfl rfl rfl (H10.rdT 1 rfl) (.inl ⟨rfl, fun _ hC => t_addrN k (T := tyEL) rfl Try.underlying35 sz45 rfl rfl hC rfl (by omega) ⟨rfl, rfl⟩⟩) ?_
                    refine WD.take hok1 15 (elemPtr (.slice a2_1 xs_1.length c2_1) (k * 2 + 0)) (fun w' => RdT tyEL w' (.slice a2_1 xs_1.length c2_1) xs_1) rfl rfl rfl rfl rfl (H10.rdT 1 rfl) (.inl ⟨rfl, fun _ hC => t_fld k el0 (T := tyEL) rfl fld45_0 rfl rfl hC (by omega) ⟨rfl, rfl⟩⟩) ?_
                    refine WD.take hok1 16 (.slice ((xs_1.getD k el0).a) ((xs_1.getD k el0).n) ((xs_1.getD k el0).c)) (fun w' => RdT tyEL w' (.slice a2_1 xs_1.length c2_1) xs_1) rfl rfl rfl rfl rfl (H10.rdT 1 rfl) (.inl ⟨rfl, fun _ hC => t_loadF k el0 (T := tyEL) rfl rfl Try.underlying22 rfl rfl hC (by omega) rfl ⟨rfl, rfl⟩⟩) ?_
                    refine WD.take hok1 17 (.slice a2_2 xs_2.length c2_2) (fun _ => True) rfl rfl rfl rfl rfl trivial (.inl ⟨rfl, fun _ _ => d_move rfl ⟨rfl, rfl⟩⟩) ?_
                    refine WD.take hok1 18 (.int .i64 ((k : Nat) : Int)) (fun _ => True) rfl rfl rfl rfl rfl trivial (.inl ⟨rfl, fun _ _ => d_move rfl ⟨rfl, rfl⟩⟩) ?_
                    refine WD.take hok1 19 (elemPtr (.slice a2_2 xs_2.length c2_2) (k * 2)) (fun w' => RdT tyEL w' (.slice a2_2 xs_2.length c2_2) xs_2) rfl rfl rfl rfl rfl (H10.rdT 3 rfl) (.inl ⟨rfl, fun _ hC => t_addrN k (T := tyEL) rfl Try.underlying41 sz46 rfl rfl hC rfl (by omega) ⟨rfl, rfl⟩⟩) ?_
                    refine WD.take hok1 20 (elemPtr (.slice a2_2 xs_2.length c2_2) (k * 2 + 0)) (fun w' => RdT tyEL w' (.slice a2_2 xs_2.length c2_2) xs_2) rfl rfl rfl rfl rfl (H10.rdT 3 rfl) (.inl ⟨rfl, fun _ hC => t_fld k el0 (T := tyEL) rfl fld46_0 rfl rfl hC (by omega) ⟨rfl, rfl⟩⟩) ?_
                    refine WD.take hok1 21 (.slice ((xs_2.getD k el0).a) ((xs_2.getD k el0).n) ((xs_2.getD k el0).c)) (fun w' => RdT tyEL w' (.slice a2_2 xs_2.length c2_2) xs_2) rfl rfl rfl rfl rfl (H10.rdT 3 rfl) (.inl ⟨rfl, fun _ hC => t_loadF k el0 (T := tyEL) rfl rfl Try.underlying22 rfl rfl hC (by omega) rfl ⟨rfl, rfl⟩⟩) ?_
                    refine WD.loud hok1 22 rfl (⟨_, [], rfl, rfl, rfl, rfl, rfl, rfl, d_call ok32 rfl (Ret.calls (same10_any ((xs_1.getD k el0).a) ((xs_1.getD k el0).to) ((xs_1.getD k el0).c) ((xs_1.getD k el0).n) ((xs_2.getD k el0).a) ((xs_2.getD k el0).to) ((xs_2.getD k el0).c) ((xs_2.getD k el0).n) w9 (show RdT (tyI .i64) w9 (.slice ((xs_1.getD k el0).a) ((xs_1.getD k el0).n) ((xs_1.getD k el0).c)) ((xs_1.getD k el0).to) from (Inn.own (H10.hpOf 2 rfl)).get el0 k (by omega)) (show RdT (tyI .i64) w9 (.slice ((xs_2.getD k el0).a) ((xs_2.getD k el0).n) ((xs_2.getD k el0).c)) ((xs_2.getD k el0).to) from (Inn.own (H10.hpOf 4 rfl)).get el0 k (by omega)) ) fun _ w10 p7 => ?_)⟩)
                    obtain ⟨rfl, u8⟩ := p7
                    have H11 : UpG w [] w10 [[blk w.heap.size #[.slice dca d.cls.length dcc, .int .i64 d.width, .int .i64 d.start, .slice dna d.next.length dnc, .slice dba d.acc.length dbc] 25], [rowT tyEL (.slice a2_1 xs_1.length c2_1) 45 xs_1], [manyF inEL.row xs_1], [rowT tyEL (.slice a2_2 xs_2.length c2_2) 46 xs_2], [manyF inEL.row xs_2], [rowT (tyI .i64) (.slice qa q.length qc) 3 q]] := H10.call u8
                    refine ⟨trivial, ?_⟩
                    refine WD.take hok1 23 (.bool (decide (¬ (((xs_1.getD k el0).to) = ((xs_2.getD k el0).to))))) (fun _ => True) rfl rfl rfl rfl rfl trivial (.inl ⟨rfl, fun _ _ => d_not (p := ((xs_1.getD k el0).to) = ((xs_2.getD k el0).to)) rfl ⟨rfl, rfl⟩⟩) ?_
                    refine WD.take hok1 24 (.bool (decide (¬ (((xs_1.getD k el0).to) = ((xs_2.getD k el0).to))))) (fun _ => True) rfl rfl rfl rfl rfl trivial (.inl ⟨rfl, fun _ _ => d_pick rfl rfl ⟨rfl, rfl⟩⟩) ?_
                    refine WD.done hok1 rfl (X.then_code ?_)
                    refine W.pick [110, 109, 108, 107, 106, 105, 104, 103, 102, 101, 100, 99, 98, 13, 12, 11, 9, 7, 5, 4] (Γ' := [(110, .bool (decide (¬ (((xs_1.getD k el0).to) = ((xs_2.getD k el0).to))))), (109, .bool (decide (¬ (((xs_1.getD k el0).to) = ((xs_2.getD k el0).to))))), (108, .bool (decide (((xs_1.getD k el0).to) = ((xs_2.getD k el0).to)))), (107, .slice ((xs_2.getD k el0).a) ((xs_2.getD k el0).n) ((xs_2.getD k el0).c)), (106, elemPtr (.slice a2_2 xs_2.length c2_2) (k * 2 + 0)), (105, elemPtr (.slice a2_2 xs_2.length c2_2) (k * 2)), (104, .int .i64 ((k : Nat) : Int)), (103, .slice a2_2 xs_2.length c2_2), (102, .slice ((xs_1.getD k el0).a) ((xs_1.getD k el0).n) ((xs_1.getD k el0).c)), (101, elemPtr (.slice a2_1 xs_1.length c2_1) (k * 2 + 0)), (100, elemPtr (.slice a2_1 xs_1.length c2_1) (k * 2)), (99, .int .i64 ((k : Nat) : Int)), (98, .slice a2_1 xs_1.length c2_1), (13, .int .i64 ((k : Nat) : Int)), (12, .slice qa q.length qc), (11, .bool al), (9, .slice a2_2 xs_2.length c2_2), (7, .bool (aperB d most)), (5, .slice a2_1 xs_1.length c2_1), (4, .bool false)]) rfl ?_
                    refine W.ite (p := ¬ (((xs_1.getD k el0).to) = ((xs_2.getD k el0).to))) rfl (fun c53 => ?_) (fun c53 => ?_)
                    · skip
                      exfalso; exact c53 hat.2
                    · skip
                      refine W.skip (X.then_code ?_)
                      refine W.seq ?_
                      refine W.region ?_
                      refine WL.op rfl (d_move rfl ?_)
                      refine WL.op rfl (d_move rfl ?_)
                      refine WL.partB 112 (b := al) rfl (fun g56 => ?_) (fun g56 => ?_)
                      · skip
                        refine WL.opG rfl rfl rfl (d_move rfl ?_)
                        refine WL.opG rfl rfl rfl (d_move rfl ?_)
                        refine WL.opG rfl rfl rfl (t_addrN k (T := tyEL) rfl Try.underlying41 sz46 rfl rfl (H11.rdT 3 rfl) rfl (by omega) ?_)
                        refine WL.opG rfl rfl rfl (t_fld k el0 (T := tyEL) rfl fld46_0 rfl rfl (H11.rdT 3 rfl) (by omega) ?_)
                        refine WL.opG rfl rfl rfl (t_loadF k el0 (T := tyEL) rfl rfl Try.underlying22 rfl rfl (H11.rdT 3 rfl) (by omega) rfl ?_)
                        refine WL.opG rfl rfl rfl (d_call ok33 rfl (Ret.calls (settlesR_any ((xs_2.getD k el0).a) ((xs_2.getD k el0).to) ((xs_2.getD k el0).c) ((xs_2.getD k el0).n) w10 (show RdT (tyI .i64) w10 (.slice ((xs_2.getD k el0).a) ((xs_2.getD k el0).n) ((xs_2.getD k el0).c)) ((xs_2.getD k el0).to) from (Inn.own (H11.hpOf 4 rfl)).get el0 k (by omega)) (by omega) hth) fun _ w11 p8 => ?_))
                        obtain ⟨rfl, u9⟩ := p8
                        have H12 : UpG w [] w11 [[blk w.heap.size #[.slice dca d.cls.length dcc, .int .i64 d.width, .int .i64 d.start, .slice dna d.next.length dnc, .slice dba d.acc.length dbc] 25], [rowT tyEL (.slice a2_1 xs_1.length c2_1) 45 xs_1], [manyF inEL.row xs_1], [rowT tyEL (.slice a2_2 xs_2.length c2_2) 46 xs_2], [manyF inEL.row xs_2], [rowT (tyI .i64) (.slice qa q.length qc) 3 q]] := H11.call u9
                        refine WL.op rfl (d_pick rfl rfl ?_)
                        refine WL.op rfl (d_assign rfl ?_)
                        refine WL.done (X.then_code ?_)
                        refine W.seq ?_
                        refine W.regionD mixed (by kernel_rfl) fun hok2 w12 k2 => ?_
                        have H13 : UpG w [] w12 [[blk w.heap.size #[.slice dca d.cls.length dcc, .int .i64 d.width, .int .i64 d.start, .slice dna d.next.length dnc, .slice dba d.acc.length dbc] 25], [rowT tyEL (.slice a2_1 xs_1.length c2_1) 45 xs_1], [manyF inEL.row xs_1], [rowT tyEL (.slice a2_2 xs_2.length c2_2) 46 xs_2], [manyF inEL.row xs_2], [rowT (tyI .i64) (.slice qa q.length qc) 3 q]] := H12.kept k2
                        refine WD.take hok2 0 (.slice a2_2 xs_2.length c2_2) (fun _ => True) rfl rfl rfl rfl rfl trivial (.inl ⟨rfl, fun _ _ => d_move rfl ⟨rfl, rfl⟩⟩) ?_
                        refine WD.take hok2 1 (.int .i64 ((k : Nat) : Int)) (fun _ => True) rfl rfl rfl rfl rfl trivial (.inl ⟨rfl, fun _ _ => d_move rfl ⟨rfl, rfl⟩⟩) ?_
                        refine WD.take hok2 2 (elemPtr (.slice a2_2 xs_2.length c2_2) (k * 2)) (fun w' => RdT tyEL w' (.slice a2_2 xs_2.length c2_2) xs_2) rfl rfl rfl rfl rfl (H13.rdT 3 rfl) (.inl ⟨rfl, fun _ hC => t_addrN k (T := tyEL) rfl Try.underlying41 sz46 rfl rfl hC rfl (by omega) ⟨rfl, rfl⟩⟩) ?_
                        refine WD.take hok2 3 (elemPtr (.slice a2_2 xs_2.length c2_2) (k * 2 + 0)) (fun w' => RdT tyEL w' (.slice a2_2 xs_2.length c2_2) xs_2) rfl rfl rfl rfl rfl (H13.rdT 3 rfl) (.inl ⟨rfl, fun _ hC => t_fld k el0 (T := tyEL) rfl fld46_0 rfl rfl hC (by omega) ⟨rfl, rfl⟩⟩) ?_
                        refine WD.take hok2 4 (.slice ((xs_2.getD k el0).a) ((xs_2.getD k el0).n) ((xs_2.getD k el0).c)) (fun w' => RdT tyEL w' (.slice a2_2 xs_2.length c2_2) xs_2) rfl rfl rfl rfl rfl (H13.rdT 3 rfl) (.inl ⟨rfl, fun _ hC => t_loadF k el0 (T := tyEL) rfl rfl Try.underlying22 rfl rfl hC (by omega) rfl ⟨rfl, rfl⟩⟩) ?_
                        refine WD.take hok2 5 (.slice a2_2 xs_2.length c2_2) (fun _ => True) rfl rfl rfl rfl rfl trivial (.inl ⟨rfl, fun _ _ => d_move rfl ⟨rfl, rfl⟩⟩) ?_
                        refine WD.take hok2 6 (.int .i64 ((k : Nat) : Int)) (fun _ => True) rfl rfl rfl rfl rfl trivial (.inl ⟨rfl, fun _ _ => d_move rfl ⟨rfl, rfl⟩⟩) ?_
                        refine WD.take hok2 7 (elemPtr (.slice a2_2 xs_2.length c2_2) (k * 2)) (fun w' => RdT tyEL w' (.slice a2_2 xs_2.length c2_2) xs_2) rfl rfl rfl rfl rfl (H13.rdT 3 rfl) (.inl ⟨rfl, fun _ hC => t_addrN k (T := tyEL) rfl Try.underlying41 sz46 rfl rfl hC rfl (by omega) ⟨rfl, rfl⟩⟩) ?_
                        refine WD.take hok2 8 (elemPtr (.slice a2_2 xs_2.length c2_2) (k * 2 + 0)) (fun w' => RdT tyEL w' (.slice a2_2 xs_2.length c2_2) xs_2) rfl rfl rfl rfl rfl (H13.rdT 3 rfl) (.inl ⟨rfl, fun _ hC => t_fld k el0 (T := tyEL) rfl fld46_0 rfl rfl hC (by omega) ⟨rfl, rfl⟩⟩) ?_
                        refine WD.take hok2 9 (.slice ((xs_2.getD k el0).a) ((xs_2.getD k el0).n) ((xs_2.getD k el0).c)) (fun w' => RdT tyEL w' (.slice a2_2 xs_2.length c2_2) xs_2) rfl rfl rfl rfl rfl (H13.rdT 3 rfl) (.inl ⟨rfl, fun _ hC => t_loadF k el0 (T := tyEL) rfl rfl Try.underlying22 rfl rfl hC (by omega) rfl ⟨rfl, rfl⟩⟩) ?_
                        refine WD.take hok2 11 (.slice a2_2 xs_2.length c2_2) (fun _ => True) rfl rfl rfl rfl rfl trivial (.inl ⟨rfl, fun _ _ => d_move rfl ⟨rfl, rfl⟩⟩) ?_
                        refine WD.take hok2 12 (.int .i64 ((k : Nat) : Int)) (fun _ => True) rfl rfl rfl rfl rfl trivial (.inl ⟨rfl, fun _ _ => d_move rfl ⟨rfl, rfl⟩⟩) ?_
                        refine WD.take hok2 13 (elemPtr (.slice a2_2 xs_2.length c2_2) (k * 2)) (fun w' => RdT tyEL w' (.slice a2_2 xs_2.length c2_2) xs_2) rfl rfl rfl rfl rfl (H13.rdT 3 rfl) (.inl ⟨rfl, fun _ hC => t_addrN k (T := tyEL) rfl Try.underlying41 sz46 rfl rfl hC rfl (by omega) ⟨rfl, rfl⟩⟩) ?_
                        refine WD.take hok2 14 (elemPtr (.slice a2_2 xs_2.length c2_2) (k * 2 + 0)) (fun w' => RdT tyEL w' (.slice a2_2 xs_2.length c2_2) xs_2) rfl rfl rfl rfl rfl (H13.rdT 3 rfl) (.inl ⟨rfl, fun _ hC => t_fld k el0 (T := tyEL) rfl fld46_0 rfl rfl hC (by omega) ⟨rfl, rfl⟩⟩) ?_
                        refine WD.take hok2 15 (.slice ((xs_2.getD k el0).a) ((xs_2.getD k el0).n) ((xs_2.getD k el0).c)) (fun w' => RdT tyEL w' (.slice a2_2 xs_2.length c2_2) xs_2) rfl rfl rfl rfl rfl (H13.rdT 3 rfl) (.inl ⟨rfl, fun _ hC => t_loadF k el0 (T := tyEL) rfl rfl Try.underlying22 rfl rfl hC (by omega) rfl ⟨rfl, rfl⟩⟩) ?_
                        refine WD.loud hok2 10 rfl (⟨_, [⟨15, .slice ((xs_2.getD k el0).a) ((xs_2.getD k el0).n) ((xs_2.getD k el0).c), (fun w' => RdT tyEL w' (.slice a2_2 xs_2.length c2_2) xs_2)⟩, ⟨14, elemPtr (.slice a2_2 xs_2.length c2_2) (k * 2 + 0), (fun w' => RdT tyEL w' (.slice a2_2 xs_2.length c2_2) xs_2)⟩, ⟨13, elemPtr (.slice a2_2 xs_2.length c2_2) (k * 2), (fun w' => RdT tyEL w' (.slice a2_2 xs_2.length c2_2) xs_2)⟩, ⟨12, .int .i64 ((k : Nat) : Int), (fun _ => True)⟩, ⟨11, .slice a2_2 xs_2.length c2_2, (fun _ => True)⟩], rfl, rfl, rfl, rfl, rfl, rfl, d_call ok34 rfl (Ret.calls (thenR_any ((xs_2.getD k el0).a) ((xs_2.getD k el0).to) ((xs_2.getD k el0).c) ((xs_2.getD k el0).n) ((xs_2.getD k el0).a) ((xs_2.getD k el0).to) ((xs_2.getD k el0).c) ((xs_2.getD k el0).n) w12 (show RdT (tyI .i64) w12 (.slice ((xs_2.getD k el0).a) ((xs_2.getD k el0).n) ((xs_2.getD k el0).c)) ((xs_2.getD k el0).to) from (Inn.own (H13.hpOf 4 rfl)).get el0 k (by omega)) (show RdT (tyI .i64) w12 (.slice ((xs_2.getD k el0).a) ((xs_2.getD k el0).n) ((xs_2.getD k el0).c)) ((xs_2.getD k el0).to) from (Inn.own (H13.hpOf 4 rfl)).get el0 k (by omega)) (by omega) hth) fun _ w13 p9 => ?_)⟩)
                        obtain ⟨a2_3, c2_3, rfl, u10⟩ := p9
                        have H14 : UpG w [] w13 [[blk w.heap.size #[.slice dca d.cls.length dcc, .int .i64 d.width, .int .i64 d.start, .slice dna d.next.length dnc, .slice dba d.acc.length dbc] 25], [rowT tyEL (.slice a2_1 xs_1.length c2_1) 45 xs_1], [manyF inEL.row xs_1], [rowT tyEL (.slice a2_2 xs_2.length c2_2) 46 xs_2], [manyF inEL.row xs_2], [rowT (tyI .i64) (.slice qa q.length qc) 3 q], [rowT (tyI .i64) (.slice a2_3 ((thenL ((xs_2.getD k el0).to) ((xs_2.getD k el0).to)).length) c2_3) 3 (thenL ((xs_2.getD k el0).to) ((xs_2.getD k el0).to))]] := (H13.new' u10).re rfl
                        refine ⟨⟨(H14.rdT 3 rfl), (H14.rdT 3 rfl), (H14.rdT 3 rfl), trivial, trivial, trivial⟩, ?_⟩
                        refine WD.loud hok2 16 rfl (⟨_, [], rfl, rfl, rfl, rfl, rfl, rfl, d_call ok32 rfl (Ret.calls (same10_any a2_3 (thenL ((xs_2.getD k el0).to) ((xs_2.getD k el0).to)) c2_3 ((thenL ((xs_2.getD k el0).to) ((xs_2.getD k el0).to)).length) ((xs_2.getD k el0).a) ((xs_2.getD k el0).to) ((xs_2.getD k el0).c) ((xs_2.getD k el0).n) w13 (H14.rdT 6 rfl) (show RdT (tyI .i64) w13 (.slice ((xs_2.getD k el0).a) ((xs_2.getD k el0).n) ((xs_2.getD k el0).c)) ((xs_2.getD k el0).to) from (Inn.own (H14.hpOf 4 rfl)).get el0 k (by omega)) ) fun _ w14 p10 => ?_)⟩)
                        obtain ⟨rfl, u11⟩ := p10
                        have H15 : UpG w [] w14 [[blk w.heap.size #[.slice dca d.cls.length dcc, .int .i64 d.width, .int .i64 d.start, .slice dna d.next.length dnc, .slice dba d.acc.length dbc] 25], [rowT tyEL (.slice a2_1 xs_1.length c2_1) 45 xs_1], [manyF inEL.row xs_1], [rowT tyEL (.slice a2_2 xs_2.length c2_2) 46 xs_2], [manyF inEL.row xs_2], [rowT (tyI .i64) (.slice qa q.length qc) 3 q], [rowT (tyI .i64) (.slice a2_3 ((thenL ((xs_2.getD k el0).to) ((xs_2.getD k el0).to)).length) c2_3) 3 (thenL ((xs_2.getD k el0).to) ((xs_2.getD k el0).to))]] := H14.call u11
                        refine ⟨trivial, ?_⟩
                        refine WD.done hok2 rfl (X.then_code ?_)
                        refine W.pick [136, 11, 118, 117, 116, 115, 114, 113, 109, 108, 107, 106, 105, 104, 103, 102, 101, 100, 99, 98, 13, 12, 9, 7, 5, 4] (Γ' := [(136, .bool (decide ((thenL ((xs_2.getD k el0).to) ((xs_2.getD k el0).to)) = ((xs_2.getD k el0).to)))), (11, .bool (settlesB ((xs_2.getD k el0).to))), (118, .bool (settlesB ((xs_2.getD k el0).to))), (117, .slice ((xs_2.getD k el0).a) ((xs_2.getD k el0).n) ((xs_2.getD k el0).c)), (116, elemPtr (.slice a2_2 xs_2.length c2_2) (k * 2 + 0)), (115, elemPtr (.slice a2_2 xs_2.length c2_2) (k * 2)), (114, .int .i64 ((k : Nat) : Int)), (113, .slice a2_2 xs_2.length c2_2), (109, .bool (decide (¬ (((xs_1.getD k el0).to) = ((xs_2.getD k el0).to))))), (108, .bool (decide (((xs_1.getD k el0).to) = ((xs_2.getD k el0).to)))), (107, .slice ((xs_2.getD k el0).a) ((xs_2.getD k el0).n) ((xs_2.getD k el0).c)), (106, elemPtr (.slice a2_2 xs_2.length c2_2) (k * 2 + 0)), (105, elemPtr (.slice a2_2 xs_2.length c2_2) (k * 2)), (104, .int .i64 ((k : Nat) : Int)), (103, .slice a2_2 xs_2.length c2_2), (102, .slice ((xs_1.getD k el0).a) ((xs_1.getD k el0).n) ((xs_1.getD k el0).c)), (101, elemPtr (.slice a2_1 xs_1.length c2_1) (k * 2 + 0)), (100, elemPtr (.slice a2_1 xs_1.length c2_1) (k * 2)), (99, .int .i64 ((k : Nat) : Int)), (98, .slice a2_1 xs_1.length c2_1), (13, .int .i64 ((k : Nat) : Int)), (12, .slice qa q.length qc), (9, .slice a2_2 xs_2.length c2_2), (7, .bool (aperB d most)), (5, .slice a2_1 xs_1.length c2_1), (4, .bool false)]) rfl ?_
                        refine W.ite (p := (thenL ((xs_2.getD k el0).to) ((xs_2.getD k el0).to)) = ((xs_2.getD k el0).to)) rfl (fun c57 => ?_) (fun c57 => ?_)
                        · skip
                          refine W.region ?_
                          refine WL.op rfl (d_move rfl ?_)
                          refine WL.op rfl (d_move rfl ?_)
                          refine WL.op rfl (t_buildSlice (T := (tyI .i64)) (xs := [((k : Nat) : Int)]) (cs := #[.int .i64 ((k : Nat) : Int)]) rfl Try.underlying22 sz3 rfl rfl rfl rfl (by kernel_rfl) rfl rfl fun w15 u12 => ?_)
                          have H16 : UpG w [] w15 [[blk w.heap.size #[.slice dca d.cls.length dcc, .int .i64 d.width, .int .i64 d.start, .slice dna d.next.length dnc, .slice dba d.acc.length dbc] 25], [rowT tyEL (.slice a2_1 xs_1.length c2_1) 45 xs_1], [manyF inEL.row xs_1], [rowT tyEL (.slice a2_2 xs_2.length c2_2) 46 xs_2], [manyF inEL.row xs_2], [rowT (tyI .i64) (.slice qa q.length qc) 3 q], [rowT (tyI .i64) (.slice a2_3 ((thenL ((xs_2.getD k el0).to) ((xs_2.getD k el0).to)).length) c2_3) 3 (thenL ((xs_2.getD k el0).to) ((xs_2.getD k el0).to))], [rowT (tyI .i64) (.slice (some ⟨w14.heap.size, 0, none⟩) ([((k : Nat) : Int)].length) ([((k : Nat) : Int)].length)) 3 [((k : Nat) : Int)]]] := H15.new' u12
                          refine WL.op rfl (t_append (T := (tyI .i64)) (xs := q) (ys := [((k : Nat) : Int)]) rfl Try.underlying22 sz3 rfl rfl rfl (H16.ownT 5 rfl) (H16.rdT 7 rfl) (by simp; omega) (by simp; omega) fun a1 c1 w16 u13 => ?_)
                          have H17 : UpG w [] w16 [[blk w.heap.size #[.slice dca d.cls.length dcc, .int .i64 d.width, .int .i64 d.start, .slice dna d.next.length dnc, .slice dba d.acc.length dbc] 25], [rowT tyEL (.slice a2_1 xs_1.length c2_1) 45 xs_1], [manyF inEL.row xs_1], [rowT tyEL (.slice a2_2 xs_2.length c2_2) 46 xs_2], [manyF inEL.row xs_2], [rowT (tyI .i64) (.slice a1 ((q ++ [((k : Nat) : Int)]).length) c1) 3 (q ++ [((k : Nat) : Int)])], [rowT (tyI .i64) (.slice a2_3 ((thenL ((xs_2.getD k el0).to) ((xs_2.getD k el0).to)).length) c2_3) 3 (thenL ((xs_2.getD k el0).to) ((xs_2.getD k el0).to))], []] := (H16.on 5 rfl u13).drop 7
                          refine WL.op rfl (d_assign rfl ?_)
                          refine WL.done (X.block_normal (X.then_code ?_))
                          refine W.region ?_
                          refine WL.op rfl (d_move rfl ?_)
                          refine WL.op rfl (d_add rfl rfl (by omega) (by omega) ?_)
                          refine WL.op rfl (d_assign rfl ?_)
                          refine WL.done ?_
                          exact X.next [13, 12, 11, 9, 7, 5, 4] (Γ' := [(13, .int .i64 (((k + 1) : Nat) : Int)), (12, .slice a1 ((q ++ [((k : Nat) : Int)]).length) c1), (11, .bool (settlesB ((xs_2.getD k el0).to))), (9, .slice a2_2 xs_2.length c2_2), (7, .bool (aperB d most)), (5, .slice a2_1 xs_1.length c2_1), (4, .bool false)]) rfl (xs_1.length - (k + 1)) (by omega) ⟨k + 1, settlesB ((xs_2.getD k el0).to), q ++ [((k : Nat) : Int)], a1, c1, rfl, (UpG.of (G := [[blk w.heap.size #[.slice dca d.cls.length dcc, .int .i64 d.width, .int .i64 d.start, .slice dna d.next.length dnc, .slice dba d.acc.length dbc] 25], [rowT tyEL (.slice a2_1 xs_1.length c2_1) 45 xs_1], [manyF inEL.row xs_1], [rowT tyEL (.slice a2_2 xs_2.length c2_2) 46 xs_2], [manyF inEL.row xs_2], [rowT (tyI .i64) (.slice a1 ((q ++ [((k : Nat) : Int)]).length) c1) 3 (q ++ [((k : Nat) : Int)])]]) (Upd.sel H17 (M := [blk w.heap.size #[.slice dca d.cls.length dcc, .int .i64 d.width, .int .i64 d.start, .slice dna d.next.length dnc, .slice dba d.acc.length dbc] 25, rowT tyEL (.slice a2_1 xs_1.length c2_1) 45 xs_1, manyF inEL.row xs_1, rowT tyEL (.slice a2_2 xs_2.length c2_2) 46 xs_2, manyF inEL.row xs_2, rowT (tyI .i64) (.slice a1 ((q ++ [((k : Nat) : Int)]).length) c1) 3 (q ++ [((k : Nat) : Int)])]) (l := [0, 1, 2, 3, 4, 5]) rfl rfl) rfl), (by first | assumption | omega | simp), (by first | (rw [allTo_step (by omega), ← hal, g56]; rfl) | (rw [allTo_step (by omega), ← hal, Bool.eq_false_iff.2 g56]; rfl)), (by first | (rw [hq]; exact idemK_yes (by rw [mapTo_getD]; exact idem_yes3 hth c57)) | (rw [hq]; exact idemK_no (by rw [mapTo_getD]; exact idem_no3 hth c57))), rfl⟩
                        · skip
                          refine W.skip (X.block_normal (X.then_code ?_))
                          refine W.region ?_
                          refine WL.op rfl (d_move rfl ?_)
                          refine WL.op rfl (d_add rfl rfl (by omega) (by omega) ?_)
                          refine WL.op rfl (d_assign rfl ?_)
                          refine WL.done ?_
                          exact X.next [13, 12, 11, 9, 7, 5, 4] (Γ' := [(13, .int .i64 (((k + 1) : Nat) : Int)), (12, .slice qa q.length qc), (11, .bool (settlesB ((xs_2.getD k el0).to))), (9, .slice a2_2 xs_2.length c2_2), (7, .bool (aperB d most)), (5, .slice a2_1 xs_1.length c2_1), (4, .bool false)]) rfl (xs_1.length - (k + 1)) (by omega) ⟨k + 1, settlesB ((xs_2.getD k el0).to), q, qa, qc, rfl, (UpG.of (G := [[blk w.heap.size #[.slice dca d.cls.length dcc, .int .i64 d.width, .int .i64 d.start, .slice dna d.next.length dnc, .slice dba d.acc.length dbc] 25], [rowT tyEL (.slice a2_1 xs_1.length c2_1) 45 xs_1], [manyF inEL.row xs_1], [rowT tyEL (.slice a2_2 xs_2.length c2_2) 46 xs_2], [manyF inEL.row xs_2], [rowT (tyI .i64) (.slice qa q.length qc) 3 q]]) (Upd.sel H15 (M := [blk w.heap.size #[.slice dca d.cls.length dcc, .int .i64 d.width, .int .i64 d.start, .slice dna d.next.length dnc, .slice dba d.acc.length dbc] 25, rowT tyEL (.slice a2_1 xs_1.length c2_1) 45 xs_1, manyF inEL.row xs_1, rowT tyEL (.slice a2_2 xs_2.length c2_2) 46 xs_2, manyF inEL.row xs_2, rowT (tyI .i64) (.slice qa q.length qc) 3 q]) (l := [0, 1, 2, 3, 4, 5]) rfl rfl) rfl), (by first | assumption | omega | simp), (by first | (rw [allTo_step (by omega), ← hal, g56]; rfl) | (rw [allTo_step (by omega), ← hal, Bool.eq_false_iff.2 g56]; rfl)), (by first | (rw [hq]; exact idemK_yes (by rw [mapTo_getD]; exact idem_yes3 hth c57)) | (rw [hq]; exact idemK_no (by rw [mapTo_getD]; exact idem_no3 hth c57))), rfl⟩
                      · skip
                        refine WL.opN rfl rfl rfl rfl ?_
                        refine WL.opN rfl rfl rfl rfl ?_
                        refine WL.opN rfl rfl rfl rfl ?_
                        refine WL.opN rfl rfl rfl rfl ?_
                        refine WL.opN rfl rfl rfl rfl ?_
                        refine WL.opN rfl rfl rfl rfl ?_
                        refine WL.op rfl (d_pick rfl rfl ?_)
                        refine WL.op rfl (d_assign rfl ?_)
                        refine WL.done (X.then_code ?_)
                        refine W.seq ?_
                        refine W.regionD mixed (by kernel_rfl) fun hok3 w17 k3 => ?_
                        have H18 : UpG w [] w17 [[blk w.heap.size #[.slice dca d.cls.length dcc, .int .i64 d.width, .int .i64 d.start, .slice dna d.next.length dnc, .slice dba d.acc.length dbc] 25], [rowT tyEL (.slice a2_1 xs_1.length c2_1) 45 xs_1], [manyF inEL.row xs_1], [rowT tyEL (.slice a2_2 xs_2.length c2_2) 46 xs_2], [manyF inEL.row xs_2], [rowT (tyI .i64) (.slice qa q.length qc) 3 q]] := H11.kept k3
                        refine WD.take hok3 0 (.slice a2_2 xs_2.length c2_2) (fun _ => True) rfl rfl rfl rfl rfl trivial (.inl ⟨rfl, fun _ _ => d_move rfl ⟨rfl, rfl⟩⟩) ?_
                        refine WD.take hok3 1 (.int .i64 ((k : Nat) : Int)) (fun _ => True) rfl rfl rfl rfl rfl trivial (.inl ⟨rfl, fun _ _ => d_move rfl ⟨rfl, rfl⟩⟩) ?_
                        refine WD.take hok3 2 (elemPtr (.slice a2_2 xs_2.length c2_2) (k * 2)) (fun w' => RdT tyEL w' (.slice a2_2 xs_2.length c2_2) xs_2) rfl rfl rfl rfl rfl (H18.rdT 3 rfl) (.inl ⟨rfl, fun _ hC => t_addrN k (T := tyEL) rfl Try.underlying41 sz46 rfl rfl hC rfl (by omega) ⟨rfl, rfl⟩⟩) ?_
                        refine WD.take hok3 3 (elemPtr (.slice a2_2 xs_2.length c2_2) (k * 2 + 0)) (fun w' => RdT tyEL w' (.slice a2_2 xs_2.length c2_2) xs_2) rfl rfl rfl rfl rfl (H18.rdT 3 rfl) (.inl ⟨rfl, fun _ hC => t_fld k el0 (T := tyEL) rfl fld46_0 rfl rfl hC (by omega) ⟨rfl, rfl⟩⟩) ?_
                        refine WD.take hok3 4 (.slice ((xs_2.getD k el0).a) ((xs_2.getD k el0).n) ((xs_2.getD k el0).c)) (fun w' => RdT tyEL w' (.slice a2_2 xs_2.length c2_2) xs_2) rfl rfl rfl rfl rfl (H18.rdT 3 rfl) (.inl ⟨rfl, fun _ hC => t_loadF k el0 (T := tyEL) rfl rfl Try.underlying22 rfl rfl hC (by omega) rfl ⟨rfl, rfl⟩⟩) ?_
                        refine WD.take hok3 5 (.slice a2_2 xs_2.length c2_2) (fun _ => True) rfl rfl rfl rfl rfl trivial (.inl ⟨rfl, fun _ _ => d_move rfl ⟨rfl, rfl⟩⟩) ?_
                        refine WD.take hok3 6 (.int .i64 ((k : Nat) : Int)) (fun _ => True) rfl rfl rfl rfl rfl trivial (.inl ⟨rfl, fun _ _ => d_move rfl ⟨rfl, rfl⟩⟩) ?_
                        refine WD.take hok3 7 (elemPtr (.slice a2_2 xs_2.length c2_2) (k * 2)) (fun w' => RdT tyEL w' (.slice a2_2 xs_2.length c2_2) xs_2) rfl rfl rfl rfl rfl (H18.rdT 3 rfl) (.inl ⟨rfl, fun _ hC => t_addrN k (T := tyEL) rfl Try.underlying41 sz46 rfl rfl hC rfl (by omega) ⟨rfl, rfl⟩⟩) ?_
                        refine WD.take hok3 8 (elemPtr (.slice a2_2 xs_2.length c2_2) (k * 2 + 0)) (fun w' => RdT tyEL w' (.slice a2_2 xs_2.length c2_2) xs_2) rfl rfl rfl rfl rfl (H18.rdT 3 rfl) (.inl ⟨rfl, fun _ hC => t_fld k el0 (T := tyEL) rfl fld46_0 rfl rfl hC (by omega) ⟨rfl, rfl⟩⟩) ?_
                        refine WD.take hok3 9 (.slice ((xs_2.getD k el0).a) ((xs_2.getD k el0).n) ((xs_2.getD k el0).c)) (fun w' => RdT tyEL w' (.slice a2_2 xs_2.length c2_2) xs_2) rfl rfl rfl rfl rfl (H18.rdT 3 rfl) (.inl ⟨rfl, fun _ hC => t_loadF k el0 (T := tyEL) rfl rfl Try.underlying22 rfl rfl hC (by omega) rfl ⟨rfl, rfl⟩⟩) ?_
                        refine WD.take hok3 11 (.slice a2_2 xs_2.length c2_2) (fun _ => True) rfl rfl rfl rfl rfl trivial (.inl ⟨rfl, fun _ _ => d_move rfl ⟨rfl, rfl⟩⟩) ?_
                        refine WD.take hok3 12 (.int .i64 ((k : Nat) : Int)) (fun _ => True) rfl rfl rfl rfl rfl trivial (.inl ⟨rfl, fun _ _ => d_move rfl ⟨rfl, rfl⟩⟩) ?_
                        refine WD.take hok3 13 (elemPtr (.slice a2_2 xs_2.length c2_2) (k * 2)) (fun w' => RdT tyEL w' (.slice a2_2 xs_2.length c2_2) xs_2) rfl rfl rfl rfl rfl (H18.rdT 3 rfl) (.inl ⟨rfl, fun _ hC => t_addrN k (T := tyEL) rfl Try.underlying41 sz46 rfl rfl hC rfl (by omega) ⟨rfl, rfl⟩⟩) ?_
                        refine WD.take hok3 14 (elemPtr (.slice a2_2 xs_2.length c2_2) (k * 2 + 0)) (fun w' => RdT tyEL w' (.slice a2_2 xs_2.length c2_2) xs_2) rfl rfl rfl rfl rfl (H18.rdT 3 rfl) (.inl ⟨rfl, fun _ hC => t_fld k el0 (T := tyEL) rfl fld46_0 rfl rfl hC (by omega) ⟨rfl, rfl⟩⟩) ?_
                        refine WD.take hok3 15 (.slice ((xs_2.getD k el0).a) ((xs_2.getD k el0).n) ((xs_2.getD k el0).c)) (fun w' => RdT tyEL w' (.slice a2_2 xs_2.length c2_2) xs_2) rfl rfl rfl rfl rfl (H18.rdT 3 rfl) (.inl ⟨rfl, fun _ hC => t_loadF k el0 (T := tyEL) rfl rfl Try.underlying22 rfl rfl hC (by omega) rfl ⟨rfl, rfl⟩⟩) ?_
                        refine WD.loud hok3 10 rfl (⟨_, [⟨15, .slice ((xs_2.getD k el0).a) ((xs_2.getD k el0).n) ((xs_2.getD k el0).c), (fun w' => RdT tyEL w' (.slice a2_2 xs_2.length c2_2) xs_2)⟩, ⟨14, elemPtr (.slice a2_2 xs_2.length c2_2) (k * 2 + 0), (fun w' => RdT tyEL w' (.slice a2_2 xs_2.length c2_2) xs_2)⟩, ⟨13, elemPtr (.slice a2_2 xs_2.length c2_2) (k * 2), (fun w' => RdT tyEL w' (.slice a2_2 xs_2.length c2_2) xs_2)⟩, ⟨12, .int .i64 ((k : Nat) : Int), (fun _ => True)⟩, ⟨11, .slice a2_2 xs_2.length c2_2, (fun _ => True)⟩], rfl, rfl, rfl, rfl, rfl, rfl, d_call ok34 rfl (Ret.calls (thenR_any ((xs_2.getD k el0).a) ((xs_2.getD k el0).to) ((xs_2.getD k el0).c) ((xs_2.getD k el0).n) ((xs_2.getD k el0).a) ((xs_2.getD k el0).to) ((xs_2.getD k el0).c) ((xs_2.getD k el0).n) w17 (show RdT (tyI .i64) w17 (.slice ((xs_2.getD k el0).a) ((xs_2.getD k el0).n) ((xs_2.getD k el0).c)) ((xs_2.getD k el0).to) from (Inn.own (H18.hpOf 4 rfl)).get el0 k (by omega)) (show RdT (tyI .i64) w17 (.slice ((xs_2.getD k el0).a) ((xs_2.getD k el0).n) ((xs_2.getD k el0).c)) ((xs_2.getD k el0).to) from (Inn.own (H18.hpOf 4 rfl)).get el0 k (by omega)) (by omega) hth) fun _ w18 p11 => ?_)⟩)
                        obtain ⟨a2_4, c2_4, rfl, u14⟩ := p11
                        have H19 : UpG w [] w18 [[blk w.heap.size #[.slice dca d.cls.length dcc, .int .i64 d.width, .int .i64 d.start, .slice dna d.next.length dnc, .slice dba d.acc.length dbc] 25], [rowT tyEL (.slice a2_1 xs_1.length c2_1) 45 xs_1], [manyF inEL.row xs_1], [rowT tyEL (.slice a2_2 xs_2.length c2_2) 46 xs_2], [manyF inEL.row xs_2], [rowT (tyI .i64) (.slice qa q.length qc) 3 q], [rowT (tyI .i64) (.slice a2_4 ((thenL ((xs_2.getD k el0).to) ((xs_2.getD k el0).to)).length) c2_4) 3 (thenL ((xs_2.getD k el0).to) ((xs_2.getD k el0).to))]] := (H18.new' u14).re rfl
                        refine ⟨⟨(H19.rdT 3 rfl), (H19.rdT 3 rfl), (H19.rdT 3 rfl), trivial, trivial, trivial⟩, ?_⟩
                        refine WD.loud hok3 16 rfl (⟨_, [], rfl, rfl, rfl, rfl, rfl, rfl, d_call ok32 rfl (Ret.calls (same10_any a2_4 (thenL ((xs_2.getD k el0).to) ((xs_2.getD k el0).to)) c2_4 ((thenL ((xs_2.getD k el0).to) ((xs_2.getD k el0).to)).length) ((xs_2.getD k el0).a) ((xs_2.getD k el0).to) ((xs_2.getD k el0).c) ((xs_2.getD k el0).n) w18 (H19.rdT 6 rfl) (show RdT (tyI .i64) w18 (.slice ((xs_2.getD k el0).a) ((xs_2.getD k el0).n) ((xs_2.getD k el0).c)) ((xs_2.getD k el0).to) from (Inn.own (H19.hpOf 4 rfl)).get el0 k (by omega)) ) fun _ w19 p12 => ?_)⟩)
                        obtain ⟨rfl, u15⟩ := p12
                        have H20 : UpG w [] w19 [[blk w.heap.size #[.slice dca d.cls.length dcc, .int .i64 d.width, .int .i64 d.start, .slice dna d.next.length dnc, .slice dba d.acc.length dbc] 25], [rowT tyEL (.slice a2_1 xs_1.length c2_1) 45 xs_1], [manyF inEL.row xs_1], [rowT tyEL (.slice a2_2 xs_2.length c2_2) 46 xs_2], [manyF inEL.row xs_2], [rowT (tyI .i64) (.slice qa q.length qc) 3 q], [rowT (tyI .i64) (.slice a2_4 ((thenL ((xs_2.getD k el0).to) ((xs_2.getD k el0).to)).length) c2_4) 3 (thenL ((xs_2.getD k el0).to) ((xs_2.getD k el0).to))]] := H19.call u15
                        refine ⟨trivial, ?_⟩
                        refine WD.done hok3 rfl (X.then_code ?_)
                        refine W.pick [136, 11, 118, 117, 116, 115, 114, 113, 109, 108, 107, 106, 105, 104, 103, 102, 101, 100, 99, 98, 13, 12, 9, 7, 5, 4] (Γ' := [(136, .bool (decide ((thenL ((xs_2.getD k el0).to) ((xs_2.getD k el0).to)) = ((xs_2.getD k el0).to)))), (11, .bool false), (118, undef), (117, undef), (116, undef), (115, undef), (114, undef), (113, undef), (109, .bool (decide (¬ (((xs_1.getD k el0).to) = ((xs_2.getD k el0).to))))), (108, .bool (decide (((xs_1.getD k el0).to) = ((xs_2.getD k el0).to)))), (107, .slice ((xs_2.getD k el0).a) ((xs_2.getD k el0).n) ((xs_2.getD k el0).c)), (106, elemPtr (.slice a2_2 xs_2.length c2_2) (k * 2 + 0)), (105, elemPtr (.slice a2_2 xs_2.length c2_2) (k * 2)), (104, .int .i64 ((k : Nat) : Int)), (103, .slice a2_2 xs_2.length c2_2), (102, .slice ((xs_1.getD k el0).a) ((xs_1.getD k el0).n) ((xs_1.getD k el0).c)), (101, elemPtr (.slice a2_1 xs_1.length c2_1) (k * 2 + 0)), (100, elemPtr (.slice a2_1 xs_1.length c2_1) (k * 2)), (99, .int .i64 ((k : Nat) : Int)), (98, .slice a2_1 xs_1.length c2_1), (13, .int .i64 ((k : Nat) : Int)), (12, .slice qa q.length qc), (9, .slice a2_2 xs_2.length c2_2), (7, .bool (aperB d most)), (5, .slice a2_1 xs_1.length c2_1), (4, .bool false)]) rfl ?_
                        refine W.ite (p := (thenL ((xs_2.getD k el0).to) ((xs_2.getD k el0).to)) = ((xs_2.getD k el0).to)) rfl (fun c57 => ?_) (fun c57 => ?_)
                        · skip
                          refine W.region ?_
                          refine WL.op rfl (d_move rfl ?_)
                          refine WL.op rfl (d_move rfl ?_)
                          refine WL.op rfl (t_buildSlice (T := (tyI .i64)) (xs := [((k : Nat) : Int)]) (cs := #[.int .i64 ((k : Nat) : Int)]) rfl Try.underlying22 sz3 rfl rfl rfl rfl (by kernel_rfl) rfl rfl fun w20 u16 => ?_)
                          have H21 : UpG w [] w20 [[blk w.heap.size #[.slice dca d.cls.length dcc, .int .i64 d.width, .int .i64 d.start, .slice dna d.next.length dnc, .slice dba d.acc.length dbc] 25], [rowT tyEL (.slice a2_1 xs_1.length c2_1) 45 xs_1], [manyF inEL.row xs_1], [rowT tyEL (.slice a2_2 xs_2.length c2_2) 46 xs_2], [manyF inEL.row xs_2], [rowT (tyI .i64) (.slice qa q.length qc) 3 q], [rowT (tyI .i64) (.slice a2_4 ((thenL ((xs_2.getD k el0).to) ((xs_2.getD k el0).to)).length) c2_4) 3 (thenL ((xs_2.getD k el0).to) ((xs_2.getD k el0).to))], [rowT (tyI .i64) (.slice (some ⟨w19.heap.size, 0, none⟩) ([((k : Nat) : Int)].length) ([((k : Nat) : Int)].length)) 3 [((k : Nat) : Int)]]] := H20.new' u16
                          refine WL.op rfl (t_append (T := (tyI .i64)) (xs := q) (ys := [((k : Nat) : Int)]) rfl Try.underlying22 sz3 rfl rfl rfl (H21.ownT 5 rfl) (H21.rdT 7 rfl) (by simp; omega) (by simp; omega) fun a2 c2 w21 u17 => ?_)
                          have H22 : UpG w [] w21 [[blk w.heap.size #[.slice dca d.cls.length dcc, .int .i64 d.width, .int .i64 d.start, .slice dna d.next.length dnc, .slice dba d.acc.length dbc] 25], [rowT tyEL (.slice a2_1 xs_1.length c2_1) 45 xs_1], [manyF inEL.row xs_1], [rowT tyEL (.slice a2_2 xs_2.length c2_2) 46 xs_2], [manyF inEL.row xs_2], [rowT (tyI .i64) (.slice a2 ((q ++ [((k : Nat) : Int)]).length) c2) 3 (q ++ [((k : Nat) : Int)])], [rowT (tyI .i64) (.slice a2_4 ((thenL ((xs_2.getD k el0).to) ((xs_2.getD k el0).to)).length) c2_4) 3 (thenL ((xs_2.getD k el0).to) ((xs_2.getD k el0).to))], []] := (H21.on 5 rfl u17).drop 7
                          refine WL.op rfl (d_assign rfl ?_)
                          refine WL.done (X.block_normal (X.then_code ?_))
                          refine W.region ?_
                          refine WL.op rfl (d_move rfl ?_)
                          refine WL.op rfl (d_add rfl rfl (by omega) (by omega) ?_)
                          refine WL.op rfl (d_assign rfl ?_)
                          refine WL.done ?_
                          exact X.next [13, 12, 11, 9, 7, 5, 4] (Γ' := [(13, .int .i64 (((k + 1) : Nat) : Int)), (12, .slice a2 ((q ++ [((k : Nat) : Int)]).length) c2), (11, .bool false), (9, .slice a2_2 xs_2.length c2_2), (7, .bool (aperB d most)), (5, .slice a2_1 xs_1.length c2_1), (4, .bool false)]) rfl (xs_1.length - (k + 1)) (by omega) ⟨k + 1, false, q ++ [((k : Nat) : Int)], a2, c2, rfl, (UpG.of (G := [[blk w.heap.size #[.slice dca d.cls.length dcc, .int .i64 d.width, .int .i64 d.start, .slice dna d.next.length dnc, .slice dba d.acc.length dbc] 25], [rowT tyEL (.slice a2_1 xs_1.length c2_1) 45 xs_1], [manyF inEL.row xs_1], [rowT tyEL (.slice a2_2 xs_2.length c2_2) 46 xs_2], [manyF inEL.row xs_2], [rowT (tyI .i64) (.slice a2 ((q ++ [((k : Nat) : Int)]).length) c2) 3 (q ++ [((k : Nat) : Int)])]]) (Upd.sel H22 (M := [blk w.heap.size #[.slice dca d.cls.length dcc, .int .i64 d.width, .int .i64 d.start, .slice dna d.next.length dnc, .slice dba d.acc.length dbc] 25, rowT tyEL (.slice a2_1 xs_1.length c2_1) 45 xs_1, manyF inEL.row xs_1, rowT tyEL (.slice a2_2 xs_2.length c2_2) 46 xs_2, manyF inEL.row xs_2, rowT (tyI .i64) (.slice a2 ((q ++ [((k : Nat) : Int)]).length) c2) 3 (q ++ [((k : Nat) : Int)])]) (l := [0, 1, 2, 3, 4, 5]) rfl rfl) rfl), (by first | assumption | omega | simp), (by first | (rw [allTo_step (by omega), ← hal, g56]; rfl) | (rw [allTo_step (by omega), ← hal, Bool.eq_false_iff.2 g56]; rfl)), (by first | (rw [hq]; exact idemK_yes (by rw [mapTo_getD]; exact idem_yes3 hth c57)) | (rw [hq]; exact idemK_no (by rw [mapTo_getD]; exact idem_no3 hth c57))), rfl⟩
                        · skip
                          refine W.skip (X.block_normal (X.then_code ?_))
                          refine W.region ?_
                          refine WL.op rfl (d_move rfl ?_)
                          refine WL.op rfl (d_add rfl rfl (by omega) (by omega) ?_)
                          refine WL.op rfl (d_assign rfl ?_)
                          refine WL.done ?_
                          exact X.next [13, 12, 11, 9, 7, 5, 4] (Γ' := [(13, .int .i64 (((k + 1) : Nat) : Int)), (12, .slice qa q.length qc), (11, .bool false), (9, .slice a2_2 xs_2.length c2_2), (7, .bool (aperB d most)), (5, .slice a2_1 xs_1.length c2_1), (4, .bool false)]) rfl (xs_1.length - (k + 1)) (by omega) ⟨k + 1, false, q, qa, qc, rfl, (UpG.of (G := [[blk w.heap.size #[.slice dca d.cls.length dcc, .int .i64 d.width, .int .i64 d.start, .slice dna d.next.length dnc, .slice dba d.acc.length dbc] 25], [rowT tyEL (.slice a2_1 xs_1.length c2_1) 45 xs_1], [manyF inEL.row xs_1], [rowT tyEL (.slice a2_2 xs_2.length c2_2) 46 xs_2], [manyF inEL.row xs_2], [rowT (tyI .i64) (.slice qa q.length qc) 3 q]]) (Upd.sel H20 (M := [blk w.heap.size #[.slice dca d.cls.length dcc, .int .i64 d.width, .int .i64 d.start, .slice dna d.next.length dnc, .slice dba d.acc.length dbc] 25, rowT tyEL (.slice a2_1 xs_1.length c2_1) 45 xs_1, manyF inEL.row xs_1, rowT tyEL (.slice a2_2 xs_2.length c2_2) 46 xs_2, manyF inEL.row xs_2, rowT (tyI .i64) (.slice qa q.length qc) 3 q]) (l := [0, 1, 2, 3, 4, 5]) rfl rfl) rfl), (by first | assumption | omega | simp), (by first | (rw [allTo_step (by omega), ← hal, g56]; rfl) | (rw [allTo_step (by omega), ← hal, Bool.eq_false_iff.2 g56]; rfl)), (by first | (rw [hq]; exact idemK_yes (by rw [mapTo_getD]; exact idem_yes3 hth c57)) | (rw [hq]; exact idemK_no (by rw [mapTo_getD]; exact idem_no3 hth c57))), rfl⟩
                · skip
                  refine W.exit (X.then_exit (X.then_exit (X.block_exit (X.then_code ?_))))
                  refine W.seq ?_
                  have hfin : aperB d most = al := by rw [aper_all hrt hfew q2, hal, show k = xs_2.length by omega]
                  refine W.region ?_
                  refine WL.op rfl (d_move rfl ?_)
                  refine WL.op rfl (d_move rfl ?_)
                  refine WL.op rfl (d_booleq Try.underlying4 rfl rfl ?_)
                  refine WL.op rfl (d_move rfl ?_)
                  refine WL.part 144 (p := (aperB d most) = al) rfl (fun g61 => ?_) (fun g61 => ?_)
                  · skip
                    refine WL.opG rfl rfl rfl (d_move rfl ?_)
                    refine WL.opG rfl rfl rfl (d_call ok35 rfl (Ret.calls (idempotents_any a2_1 xs_1 c2_1 w8 (H9.rdT 1 rfl) (Inn.own (H9.hpOf 2 rfl)) (fun x hx => by have h9 := hxI.to_len hx; omega) (by omega)) fun _ w22 p13 => ?_))
                    obtain ⟨a2_5, c2_5, rfl, u18⟩ := p13
                    have H23 : UpG w [] w22 [[blk w.heap.size #[.slice dca d.cls.length dcc, .int .i64 d.width, .int .i64 d.start, .slice dna d.next.length dnc, .slice dba d.acc.length dbc] 25], [rowT tyEL (.slice a2_1 xs_1.length c2_1) 45 xs_1], [manyF inEL.row xs_1], [rowT tyEL (.slice a2_2 xs_2.length c2_2) 46 xs_2], [manyF inEL.row xs_2], [rowT (tyI .i64) (.slice qa q.length qc) 3 q], [rowT (tyI .i64) (.slice a2_5 ((idemT (xs_1.map EL.to)).length) c2_5) 3 (idemT (xs_1.map EL.to))]] := (H9.new' u18).re rfl
                    refine WL.opG rfl rfl rfl (d_move rfl ?_)
                    refine WL.opG rfl rfl rfl (d_call ok32 rfl (Ret.calls (same10_any a2_5 (idemT (xs_1.map EL.to)) c2_5 ((idemT (xs_1.map EL.to)).length) qa q qc q.length w22 (H23.rdT 6 rfl) (H23.rdT 5 rfl) ) fun _ w23 p14 => ?_))
                    obtain ⟨rfl, u19⟩ := p14
                    have H24 : UpG w [] w23 [[blk w.heap.size #[.slice dca d.cls.length dcc, .int .i64 d.width, .int .i64 d.start, .slice dna d.next.length dnc, .slice dba d.acc.length dbc] 25], [rowT tyEL (.slice a2_1 xs_1.length c2_1) 45 xs_1], [manyF inEL.row xs_1], [rowT tyEL (.slice a2_2 xs_2.length c2_2) 46 xs_2], [manyF inEL.row xs_2], [rowT (tyI .i64) (.slice qa q.length qc) 3 q], [rowT (tyI .i64) (.slice a2_5 ((idemT (xs_1.map EL.to)).length) c2_5) 3 (idemT (xs_1.map EL.to))]] := H23.call u19
                    refine WL.op rfl (d_pick rfl rfl ?_)
                    refine WL.op rfl (d_assign rfl ?_)
                    refine WL.done (X.then_code ?_)
                    refine W.ret (X.ret1 rfl rfl ?_)
                    exact ⟨(by exact congrArg Value.bool (decide_eq_true (by rw [hq, idemT, els_same hxd q2, List.length_map, show k = xs_2.length by omega]))), H24.noneL⟩
                  · skip
                    exact absurd hfin g61
end Go.Proofs.Ytoeockpkkmgieaa
