/- The walks of functions, printed by wip/tools/gw.py. -/
import Derived.Test.YtoeockpkkmgieaaF2
import Derived.Test.YtoeockpkkmgieaaSx7
import Derived.Test.YtoeockpkkmgieaaM3
import Derived.Test.YtoeockpkkmgieaaMon4
namespace Go.Proofs.Ytoeockpkkmgieaa
open Go Go.Sx
set_option linter.unusedVariables false
set_option linter.unusedSimpArgs false
set_option maxRecDepth 20000 in
theorem swap_any  (w : World) :
    Calls Try.prog 63 #[] w (Ret fun v w' => ∃ ca : Option Addr, ∃ cc : Nat, ∃ na : Option Addr, ∃ nc : Nat, ∃ ba : Option Addr, ∃ bc : Nat, v = .agg #[.slice ca ((List.replicate 259 (0 : Int)).length) cc, .int .i64 1, .int .i64 0, .slice na ([(1 : Int), 0].length) nc, .slice ba ([true, false].length) bc] ∧ Upd w [] w' [rowT (tyI .i64) (.slice ca ((List.replicate 259 (0 : Int)).length) cc) 3 (List.replicate 259 (0 : Int)), rowT (tyI .i64) (.slice na ([(1 : Int), 0].length) nc) 3 [(1 : Int), 0], rowT tyB (.slice ba ([true, false].length) bc) 4 [true, false]]) := by
  refine calls_of_W (args := []) Try.func63 rfl rfl rfl ?_
  have H0 : UpG w [] w [] := UpG.nil w
  show W _ _ _ _ [] w
  refine W.seq ?_
  refine W.region ?_
  refine WL.op rfl (d_alloc sz25 fun w1 u1 => ?_)
  have H1 : UpG w [] w1 [[blk w.heap.size #[.slice none 0 0, .int .i64 0, .int .i64 0, .slice none 0 0, .slice none 0 0] 25]] := H0.new' u1
  refine WL.done (X.then_code ?_)
  refine W.seq ?_
  refine W.region ?_
  refine WL.op rfl (t_make 259 (0 : Int) (T := (tyI .i64)) rfl Try.underlying22 sz3 rfl rfl rfl rfl (by omega) (by omega) fun w2 u2 => ?_)
  have H2 : UpG w [] w2 [[blk w.heap.size #[.slice none 0 0, .int .i64 0, .int .i64 0, .slice none 0 0, .slice none 0 0] 25], [rowT (tyI .i64) (.slice (some ⟨w1.heap.size, 0, none⟩) ((List.replicate 259 (0 : Int)).length) 259) 3 (List.replicate 259 (0 : Int))]] := H1.new' u2
  refine WL.op rfl (t_buildSlice (T := (tyI .i64)) (xs := [1, 0]) (cs := #[.int .i64 1, .int .i64 0]) rfl Try.underlying22 sz3 rfl rfl rfl rfl (by kernel_rfl) rfl rfl fun w3 u3 => ?_)
  have H3 : UpG w [] w3 [[blk w.heap.size #[.slice none 0 0, .int .i64 0, .int .i64 0, .slice none 0 0, .slice none 0 0] 25], [rowT (tyI .i64) (.slice (some ⟨w1.heap.size, 0, none⟩) ((List.replicate 259 (0 : Int)).length) 259) 3 (List.replicate 259 (0 : Int))], [rowT (tyI .i64) (.slice (some ⟨w2.heap.size, 0, none⟩) ([1, 0].length) ([1, 0].length)) 3 [1, 0]]] := H2.new' u3
  refine WL.op rfl (t_buildSlice (T := tyB) (xs := [true, false]) (cs := #[.bool true, .bool false]) rfl Try.underlying23 sz4 rfl rfl rfl rfl (by kernel_rfl) rfl rfl fun w4 u4 => ?_)
  have H4 : UpG w [] w4 [[blk w.heap.size #[.slice none 0 0, .int .i64 0, .int .i64 0, .slice none 0 0, .slice none 0 0] 25], [rowT (tyI .i64) (.slice (some ⟨w1.heap.size, 0, none⟩) ((List.replicate 259 (0 : Int)).length) 259) 3 (List.replicate 259 (0 : Int))], [rowT (tyI .i64) (.slice (some ⟨w2.heap.size, 0, none⟩) ([1, 0].length) ([1, 0].length)) 3 [1, 0]], [rowT tyB (.slice (some ⟨w3.heap.size, 0, none⟩) ([true, false].length) ([true, false].length)) 4 [true, false]]] := H3.new' u4
  refine WL.op rfl (d_build (cs := #[.slice (some ⟨w1.heap.size, 0, none⟩) ((List.replicate 259 (0 : Int)).length) 259, .int .i64 1, .int .i64 0, .slice (some ⟨w2.heap.size, 0, none⟩) ([1, 0].length) ([1, 0].length), .slice (some ⟨w3.heap.size, 0, none⟩) ([true, false].length) ([true, false].length)]) rfl (by kernel_rfl) ?_)
  refine WL.op0 (d_storeAB (us := [.slice (some ⟨w1.heap.size, 0, none⟩) ((List.replicate 259 (0 : Int)).length) 259, .int .i64 1, .int .i64 0, .slice (some ⟨w2.heap.size, 0, none⟩) ([1, 0].length) ([1, 0].length), .slice (some ⟨w3.heap.size, 0, none⟩) ([true, false].length) ([true, false].length)]) (cs' := #[.slice (some ⟨w1.heap.size, 0, none⟩) ((List.replicate 259 (0 : Int)).length) 259, .int .i64 1, .int .i64 0, .slice (some ⟨w2.heap.size, 0, none⟩) ([1, 0].length) ([1, 0].length), .slice (some ⟨w3.heap.size, 0, none⟩) ([true, false].length) ([true, false].length)]) sz25 rfl rfl rfl rfl (H4.blk 0 rfl) rfl rfl fun w5 u5 => ?_)
  have H5 : UpG w [] w5 [[blk w.heap.size #[.slice (some ⟨w1.heap.size, 0, none⟩) ((List.replicate 259 (0 : Int)).length) 259, .int .i64 1, .int .i64 0, .slice (some ⟨w2.heap.size, 0, none⟩) ([1, 0].length) ([1, 0].length), .slice (some ⟨w3.heap.size, 0, none⟩) ([true, false].length) ([true, false].length)] 25], [rowT (tyI .i64) (.slice (some ⟨w1.heap.size, 0, none⟩) ((List.replicate 259 (0 : Int)).length) 259) 3 (List.replicate 259 (0 : Int))], [rowT (tyI .i64) (.slice (some ⟨w2.heap.size, 0, none⟩) ([1, 0].length) ([1, 0].length)) 3 [1, 0]], [rowT tyB (.slice (some ⟨w3.heap.size, 0, none⟩) ([true, false].length) ([true, false].length)) 4 [true, false]]] := H4.on 0 rfl u5
  refine WL.done (X.then_code ?_)
  refine W.ret (X.retR1 rfl (rv_cellA [.slice (some ⟨w1.heap.size, 0, none⟩) ((List.replicate 259 (0 : Int)).length) 259, .int .i64 1, .int .i64 0, .slice (some ⟨w2.heap.size, 0, none⟩) ([1, 0].length) ([1, 0].length), .slice (some ⟨w3.heap.size, 0, none⟩) ([true, false].length) ([true, false].length)] Try.underlying25 rfl sz25 rfl (H5.blk 0 rfl) rfl rfl) ?_)
  exact ⟨(some ⟨w1.heap.size, 0, none⟩), 259, (some ⟨w2.heap.size, 0, none⟩), [1, 0].length, (some ⟨w3.heap.size, 0, none⟩), [true, false].length, (by rfl), (Upd.sel H5 (l := [1, 2, 3]) rfl rfl)⟩

set_option maxRecDepth 20000 in
theorem small18_any (d : DfaD) (dca : Option Addr) (dna : Option Addr) (dba : Option Addr) (dcc : Nat) (dnc : Nat) (dbc : Nat) (w : World) (rcd : RdT (tyI .i64) w (.slice dca d.cls.length dcc) d.cls) (rnd : RdT (tyI .i64) w (.slice dna d.next.length dnc) d.next) (rbd : RdT tyB w (.slice dba d.acc.length dbc) d.acc) :
    Calls Try.prog 28 #[.agg #[.slice dca d.cls.length dcc, .int .i64 d.width, .int .i64 d.start, .slice dna d.next.length dnc, .slice dba d.acc.length dbc]] w (Ret fun v w' => v = .bool (decide (d.acc.length ≤ 6 ∧ d.next.length ≤ 2000 ∧ d.cls.length ≤ 300)) ∧ Upd w [] w' []) := by
  have le_rcd := rcd.le
  have le_rnd := rnd.le
  have le_rbd := rbd.le
  refine calls_of_W (args := [.agg #[.slice dca d.cls.length dcc, .int .i64 d.width, .int .i64 d.start, .slice dna d.next.length dnc, .slice dba d.acc.length dbc]]) Try.func28 rfl rfl rfl ?_
  have H0 : UpG w [] w [] := UpG.nil w
  show W _ _ _ _ [(0, .agg #[.slice dca d.cls.length dcc, .int .i64 d.width, .int .i64 d.start, .slice dna d.next.length dnc, .slice dba d.acc.length dbc])] w
  refine W.seq ?_
  refine W.region ?_
  refine WL.op rfl (d_box rfl fun w1 u1 => ?_)
  have H1 : UpG w [] w1 [[blk w.heap.size #[.slice dca d.cls.length dcc, .int .i64 d.width, .int .i64 d.start, .slice dna d.next.length dnc, .slice dba d.acc.length dbc] 25]] := H0.new' u1
  refine WL.op rfl (d_assign rfl ?_)
  refine WL.done (X.then_code ?_)
  refine W.seq ?_
  refine W.region ?_
  refine WL.op rfl (d_fieldAddrB fld25_4 rfl rfl ?_)
  refine WL.op rfl (d_loadB Try.underlying23 rfl rfl (H1.blk 0 rfl) rfl ?_)
  refine WL.op rfl (d_lenS Try.underlying23 rfl ?_)
  refine WL.op rfl (d_cmp (decide (((d.acc.length : Nat) : Int) ≤ (6 : Int))) rfl rfl rfl ?_)
  refine WL.op rfl (d_move rfl ?_)
  refine WL.part 7 (p := ((d.acc.length : Nat) : Int) ≤ (6 : Int)) rfl (fun g25 => ?_) (fun g25 => ?_)
  · skip
    refine WL.opG rfl rfl rfl (d_fieldAddrB fld25_3 rfl rfl ?_)
    refine WL.opG rfl rfl rfl (d_loadB Try.underlying22 rfl rfl (H1.blk 0 rfl) rfl ?_)
    refine WL.opG rfl rfl rfl (d_lenS Try.underlying22 rfl ?_)
    refine WL.opG rfl rfl rfl (d_cmp (decide (((d.next.length : Nat) : Int) ≤ (2000 : Int))) rfl rfl rfl ?_)
    refine WL.op rfl (d_pick rfl rfl ?_)
    refine WL.op rfl (d_move rfl ?_)
    refine WL.part 13 (p := ((d.next.length : Nat) : Int) ≤ (2000 : Int)) rfl (fun g25x => ?_) (fun g25x => ?_)
    · skip
      refine WL.opG rfl rfl rfl (d_fieldAddrB fld25_0 rfl rfl ?_)
      refine WL.opG rfl rfl rfl (d_loadB Try.underlying22 rfl rfl (H1.blk 0 rfl) rfl ?_)
      refine WL.opG rfl rfl rfl (d_lenS Try.underlying22 rfl ?_)
      refine WL.opG rfl rfl rfl (d_cmp (decide (((d.cls.length : Nat) : Int) ≤ (300 : Int))) rfl rfl rfl ?_)
      refine WL.op rfl (d_pick rfl rfl ?_)
      refine WL.op rfl (d_assign rfl ?_)
      refine WL.done (X.then_code ?_)
      refine W.ret (X.ret1 rfl rfl ?_)
      exact ⟨(by first | exact congrArg Value.bool (decide_eq_decide.2 (by omega)) | exact congrArg Value.bool (Eq.symm (decide_eq_false (by omega)))), H1.noneL⟩
    · skip
      refine WL.opN rfl rfl rfl rfl ?_
      refine WL.opN rfl rfl rfl rfl ?_
      refine WL.opN rfl rfl rfl rfl ?_
      refine WL.opN rfl rfl rfl rfl ?_
      refine WL.op rfl (d_pick rfl rfl ?_)
      refine WL.op rfl (d_assign rfl ?_)
      refine WL.done (X.then_code ?_)
      refine W.ret (X.ret1 rfl rfl ?_)
      exact ⟨(by first | exact congrArg Value.bool (decide_eq_decide.2 (by omega)) | exact congrArg Value.bool (Eq.symm (decide_eq_false (by omega)))), H1.noneL⟩
  · skip
    refine WL.opN rfl rfl rfl rfl ?_
    refine WL.opN rfl rfl rfl rfl ?_
    refine WL.opN rfl rfl rfl rfl ?_
    refine WL.opN rfl rfl rfl rfl ?_
    refine WL.op rfl (d_pick rfl rfl ?_)
    refine WL.op rfl (d_move rfl ?_)
    refine WL.opN rfl rfl rfl rfl ?_
    refine WL.opN rfl rfl rfl rfl ?_
    refine WL.opN rfl rfl rfl rfl ?_
    refine WL.opN rfl rfl rfl rfl ?_
    refine WL.op rfl (d_pick rfl rfl ?_)
    refine WL.op rfl (d_assign rfl ?_)
    refine WL.done (X.then_code ?_)
    refine W.ret (X.ret1 rfl rfl ?_)
    exact ⟨(by first | exact congrArg Value.bool (decide_eq_decide.2 (by omega)) | exact congrArg Value.bool (Eq.symm (decide_eq_false (by omega)))), H1.noneL⟩

set_option maxRecDepth 20000 in
theorem fits_any (xsa : Option Addr) (xs : List Int) (xsc : Nat) (xsn : Nat) (ysa : Option Addr) (ys : List Int) (ysc : Nat) (ysn : Nat) (w : World) (rxs : RdT (tyI .i64) w (.slice xsa xsn xsc) xs) (rys : RdT (tyI .i64) w (.slice ysa ysn ysc) ys) :
    Calls Try.prog 38 #[.slice xsa xsn xsc, .slice ysa ysn ysc] w (Ret fun v w' => v = .bool (thenB xs ys) ∧ Upd w [] w' []) := by
  obtain rfl : xsn = xs.length := rxs.len
  obtain rfl : ysn = ys.length := rys.len
  have le_rxs := rxs.le
  have le_rys := rys.le
  refine calls_of_W (args := [.slice xsa xs.length xsc, .slice ysa ys.length ysc]) Try.func38 rfl rfl rfl ?_
  have H0 : UpG w [] w [] := UpG.nil w
  show W _ _ _ _ [(0, .slice xsa xs.length xsc), (1, .slice ysa ys.length ysc)] w
  refine W.seq ?_
  refine W.region ?_
  refine WL.op rfl (d_assign rfl ?_)
  refine WL.done (X.then_code ?_)
  refine W.seq ?_
  refine W.seq ?_
  refine W.region ?_
  refine WL.op rfl (d_assign rfl ?_)
  refine WL.done (X.then_code ?_)
  refine W.block ?_
  refine W.pick [5, 4, 0, 1] (Γ' := [(5, .int .i64 0), (4, .bool false), (0, .slice xsa xs.length xsc), (1, .slice ysa ys.length ysc)]) rfl ?_
  refine W.loop (fun m Γ' w' => ∃ k : Nat, Γ' = [(5, .int .i64 ((k : Nat) : Int)), (4, .bool false), (0, .slice xsa xs.length xsc), (1, .slice ysa ys.length ysc)] ∧ UpG w [] w' [] ∧ (k ≤ xs.length) ∧ (∀ i, i < k → 0 ≤ xs.getD i 0 ∧ xs.getD i 0 < (ys.length : Int)) ∧ m = xs.length - k) (xs.length - 0) ⟨0, rfl, H0, (by first | assumption | omega | simp), (by intro i hi; omega), rfl⟩ ?_
  rintro m1 Γ1 w1 ⟨k, rfl, H1, hk, hno, rfl⟩
  refine W.seq ?_
  refine W.seq ?_
  refine W.region ?_
  refine WL.op rfl (d_move rfl ?_)
  refine WL.op rfl (d_move rfl ?_)
  refine WL.op rfl (d_lenS Try.underlying22 rfl ?_)
  refine WL.op rfl (d_cmp (decide (((k : Nat) : Int) < ((xs.length : Nat) : Int))) rfl rfl rfl ?_)
  refine WL.done (X.then_code ?_)
  refine W.ite (p := ((k : Nat) : Int) < ((xs.length : Nat) : Int)) rfl (fun c143 => ?_) (fun c143 => ?_)
  · skip
    refine W.skip (X.then_code ?_)
    refine W.seq ?_
    refine W.block ?_
    refine W.seq ?_
    refine W.region ?_
    refine WL.op rfl (d_move rfl ?_)
    refine WL.op rfl (d_move rfl ?_)
    refine WL.op rfl (t_addr1 k (T := (tyI .i64)) rfl Try.underlying22 sz3 rfl rfl (rxs.at H1) rfl (by omega) ?_)
    refine WL.op rfl (t_load1 k 0 (T := (tyI .i64)) rfl Try.underlying3 rfl rfl (rxs.at H1) (by omega) rfl ?_)
    refine WL.op rfl (d_cmp (decide ((xs.getD k 0) < (0 : Int))) rfl rfl rfl ?_)
    refine WL.op rfl (d_move rfl ?_)
    refine WL.part 17 (p := (xs.getD k 0) < (0 : Int)) rfl (fun g144 => ?_) (fun g144 => ?_)
    · skip
      refine WL.opN rfl rfl rfl rfl ?_
      refine WL.opN rfl rfl rfl rfl ?_
      refine WL.opN rfl rfl rfl rfl ?_
      refine WL.opN rfl rfl rfl rfl ?_
      refine WL.opN rfl rfl rfl rfl ?_
      refine WL.opN rfl rfl rfl rfl ?_
      refine WL.opN rfl rfl rfl rfl ?_
      refine WL.op rfl (d_pick rfl rfl ?_)
      refine WL.done (X.then_code ?_)
      refine W.ift rfl ?_
      refine W.seq ?_
      refine W.region ?_
      refine WL.op rfl (d_assign rfl ?_)
      refine WL.done (X.then_code ?_)
      refine W.ret (X.block_ret (X.then_ret (X.then_ret (X.block_ret (X.then_ret (X.ret1 rfl rfl ?_))))))
      exact ⟨(by rw [thenB_no (k := k) (by omega) (by omega)]), H1.noneL⟩
    · skip
      refine WL.opG rfl rfl rfl (d_move rfl ?_)
      refine WL.opG rfl rfl rfl (d_move rfl ?_)
      refine WL.opG rfl rfl rfl (t_addr1 k (T := (tyI .i64)) rfl Try.underlying22 sz3 rfl rfl (rxs.at H1) rfl (by omega) ?_)
      refine WL.opG rfl rfl rfl (t_load1 k 0 (T := (tyI .i64)) rfl Try.underlying3 rfl rfl (rxs.at H1) (by omega) rfl ?_)
      refine WL.opG rfl rfl rfl (d_move rfl ?_)
      refine WL.opG rfl rfl rfl (d_lenS Try.underlying22 rfl ?_)
      refine WL.opG rfl rfl rfl (d_cmp (decide ((xs.getD k 0) ≥ ((ys.length : Nat) : Int))) rfl rfl rfl ?_)
      refine WL.op rfl (d_pick rfl rfl ?_)
      refine WL.done (X.then_code ?_)
      refine W.ite (p := (xs.getD k 0) ≥ ((ys.length : Nat) : Int)) rfl (fun c144 => ?_) (fun c144 => ?_)
      · skip
        refine W.seq ?_
        refine W.region ?_
        refine WL.op rfl (d_assign rfl ?_)
        refine WL.done (X.then_code ?_)
        refine W.ret (X.block_ret (X.then_ret (X.then_ret (X.block_ret (X.then_ret (X.ret1 rfl rfl ?_))))))
        exact ⟨(by rw [thenB_no (k := k) (by omega) (by omega)]), H1.noneL⟩
      · skip
        refine W.skip (X.block_normal (X.then_code ?_))
        refine W.region ?_
        refine WL.op rfl (d_move rfl ?_)
        refine WL.op rfl (d_add rfl rfl (by omega) (by omega) ?_)
        refine WL.op rfl (d_assign rfl ?_)
        refine WL.done ?_
        exact X.next [5, 4, 0, 1] (Γ' := [(5, .int .i64 (((k + 1) : Nat) : Int)), (4, .bool false), (0, .slice xsa xs.length xsc), (1, .slice ysa ys.length ysc)]) rfl (xs.length - (k + 1)) (by omega) ⟨k + 1, rfl, H1, (by first | assumption | omega | simp), (by exact all_step hno (by omega)), rfl⟩
  · skip
    refine W.exit (X.then_exit (X.then_exit (X.block_exit (X.then_code ?_))))
    refine W.seq ?_
    refine W.region ?_
    refine WL.op rfl (d_assign rfl ?_)
    refine WL.done (X.then_code ?_)
    refine W.ret (X.ret1 rfl rfl ?_)
    exact ⟨(by rw [thenB_of (fun i hi => hno i (by omega))]), H1.noneL⟩

set_option maxRecDepth 20000 in
theorem timesLit_any (xa : Option Addr) (x : List Int) (xc : Nat) (xn : Nat) (xt : ByteArray) (g : Nat) (ta : Option Addr) (to : List Int) (tc : Nat) (tn : Nat) (w : World) (rx : RdT (tyI .i64) w (.slice xa xn xc) x) (rt : RdT (tyI .i64) w (.slice ta tn tc) to) (bg : w.heap[g]? = some (.cells #[.slice ta tn tc] 22 (0, 0))) :
    Calls Try.prog 74 #[.agg #[.slice xa xn xc, .string xt], .pointer (some ⟨g, 0, none⟩)] w (Ret fun v w' => v = .bool (decide (x = to)) ∧ Upd w [] w' []) := by
  have le_rx := rx.le
  have le_rt := rt.le
  refine calls_of_W (args := [.agg #[.slice xa xn xc, .string xt], .pointer (some ⟨g, 0, none⟩)]) Try.func74 rfl rfl rfl ?_
  have H0 : UpG w [] w [] := UpG.nil w
  show W _ _ _ _ [(0, .agg #[.slice xa xn xc, .string xt]), (1, .pointer (some ⟨g, 0, none⟩))] w
  refine W.seq ?_
  refine W.region ?_
  refine WL.op rfl (d_box rfl fun w1 u1 => ?_)
  have H1 : UpG w [] w1 [[blk w.heap.size #[.slice xa xn xc, .string xt] 45]] := H0.new' u1
  refine WL.op rfl (d_assign rfl ?_)
  refine WL.done (X.then_code ?_)
  refine W.seq ?_
  refine W.region ?_
  refine WL.op rfl (d_fieldAddrB fld45_0 rfl rfl ?_)
  refine WL.op rfl (d_loadB Try.underlying22 rfl rfl (H1.blk 0 rfl) rfl ?_)
  refine WL.op rfl (d_loadB Try.underlying22 rfl rfl (H1.keep0.obj bg (by simp)) rfl ?_)
  refine WL.op rfl (d_call ok72 rfl (Ret.calls (equalI_any xa x xc xn ta to tc tn w1 (rx.at H1) (rt.at H1) ) fun _ w2 p1 => ?_))
  obtain ⟨rfl, u2⟩ := p1
  have H2 : UpG w [] w2 [[blk w.heap.size #[.slice xa xn xc, .string xt] 45]] := H1.call u2
  refine WL.op rfl (d_assign rfl ?_)
  refine WL.done (X.then_code ?_)
  refine W.ret (X.ret1 rfl rfl ?_)
  exact ⟨rfl, H2.noneL⟩

set_option maxRecDepth 20000 in
theorem aperLit_any (xa : Option Addr) (x : List Int) (xc : Nat) (xn : Nat) (xt : ByteArray) (w : World) (rx : RdT (tyI .i64) w (.slice xa xn xc) x) (hl : x.length ≤ 1000000) (ht : thenB x x = true) :
    Calls Try.prog 68 #[.agg #[.slice xa xn xc, .string xt]] w (Ret fun v w' => v = .bool (!settlesB x) ∧ Upd w [] w' []) := by
  have le_rx := rx.le
  refine calls_of_W (args := [.agg #[.slice xa xn xc, .string xt]]) Try.func68 rfl rfl rfl ?_
  have H0 : UpG w [] w [] := UpG.nil w
  show W _ _ _ _ [(0, .agg #[.slice xa xn xc, .string xt])] w
  refine W.seq ?_
  refine W.region ?_
  refine WL.op rfl (d_box rfl fun w1 u1 => ?_)
  have H1 : UpG w [] w1 [[blk w.heap.size #[.slice xa xn xc, .string xt] 45]] := H0.new' u1
  refine WL.op rfl (d_assign rfl ?_)
  refine WL.done (X.then_code ?_)
  refine W.seq ?_
  refine W.region ?_
  refine WL.op rfl (d_fieldAddrB fld45_0 rfl rfl ?_)
  refine WL.op rfl (d_loadB Try.underlying22 rfl rfl (H1.blk 0 rfl) rfl ?_)
  refine WL.op rfl (d_call ok69 rfl (Ret.calls (settles_any xa x xc xn w1 (rx.at H1) (by omega) (by omega)) fun _ w2 p1 => ?_))
  obtain ⟨rfl, u2⟩ := p1
  have H2 : UpG w [] w2 [[blk w.heap.size #[.slice xa xn xc, .string xt] 45]] := H1.call u2
  refine WL.op rfl (d_notB rfl ?_)
  refine WL.op rfl (d_assign rfl ?_)
  refine WL.done (X.then_code ?_)
  refine W.ret (X.ret1 rfl rfl ?_)
  exact ⟨(by rfl), H2.noneL⟩

set_option maxRecDepth 20000 in
theorem indexEL_any (la : Option Addr) (l : List EL) (lc : Nat) (f : FuncId) (fc : List Value) (p : EL → Bool) (w : World) (rl : RdT tyEL w (.slice la l.length lc) l) (dl : inEL.Rd w l) (hok : CallOk Try.prog f) (hf : ClosE Try.prog f fc p l w) :
    Calls Try.prog 73 #[.slice la l.length lc, .func (.func f) #[] fc.toArray] w (Ret fun v w' => v = .int .i64 (findI p l) ∧ Upd w [] w' []) := by
  have le_rl := rl.le
  refine calls_of_W (args := [.slice la l.length lc, .func (.func f) #[] fc.toArray]) Try.func73 rfl rfl rfl ?_
  have H0 : UpG w [] w [] := UpG.nil w
  show W _ _ _ _ [(0, .slice la l.length lc), (1, .func (.func f) #[] fc.toArray)] w
  refine W.seq ?_
  refine W.region ?_
  refine WL.op rfl (d_assign rfl ?_)
  refine WL.done (X.then_code ?_)
  refine W.seq ?_
  refine W.seq ?_
  refine W.region ?_
  refine WL.op rfl (d_move rfl ?_)
  refine WL.op rfl (d_lenS Try.underlying35 rfl ?_)
  refine WL.op rfl (d_move rfl ?_)
  refine WL.done (X.then_code ?_)
  refine W.block ?_
  refine W.pick [8, 7, 4, 0, 1] (Γ' := [(8, .int .i64 0), (7, .int .i64 ((l.length : Nat) : Int)), (4, .int .i64 0), (0, .slice la l.length lc), (1, .func (.func f) #[] fc.toArray)]) rfl ?_
  refine W.loop (fun m Γ' w' => ∃ k : Nat, Γ' = [(8, .int .i64 ((k : Nat) : Int)), (7, .int .i64 ((l.length : Nat) : Int)), (4, .int .i64 0), (0, .slice la l.length lc), (1, .func (.func f) #[] fc.toArray)] ∧ UpG w [] w' [] ∧ (k ≤ l.length) ∧ (findI p l = findFrom p l k) ∧ m = l.length - k) (l.length - 0) ⟨0, rfl, H0, (by first | assumption | omega | simp), (by rfl), rfl⟩ ?_
  rintro m1 Γ1 w1 ⟨k, rfl, H1, hk, hn, rfl⟩
  refine W.seq ?_
  refine W.region ?_
  refine WL.op rfl (d_cmp (decide (((k : Nat) : Int) < ((l.length : Nat) : Int))) rfl rfl rfl ?_)
  refine WL.done (X.then_code ?_)
  refine W.seq ?_
  refine W.ite (p := ((k : Nat) : Int) < ((l.length : Nat) : Int)) rfl (fun c108 => ?_) (fun c108 => ?_)
  · skip
    refine W.skip (X.then_code ?_)
    refine W.seq ?_
    refine W.block ?_
    refine W.seq ?_
    refine W.region ?_
    refine WL.op rfl (d_move rfl ?_)
    refine WL.op rfl (d_assign rfl ?_)
    refine WL.done (X.then_code ?_)
    refine W.seq ?_
    refine W.region ?_
    refine WL.op rfl (d_move rfl ?_)
    refine WL.op rfl (d_move rfl ?_)
    refine WL.op rfl (d_move rfl ?_)
    refine WL.op rfl (t_addrN k (T := tyEL) rfl Try.underlying35 sz45 rfl rfl (rl.at H1) rfl (by omega) ?_)
    refine WL.op rfl (t_loadN k el0 (T := tyEL) (us := [.slice ((l.getD k el0).a) ((l.getD k el0).n) ((l.getD k el0).c), .string ((l.getD k el0).text)]) rfl Try.underlying45 rfl sz45 rfl (rl.at H1) (by omega) rfl ?_)
    refine WL.op rfl (d_callv hok rfl rfl (Ret.calls (hf w1 H1.keep0 (l.getD k el0) (getD_mem' (by omega))) fun _ w2 p1 => ?_))
    obtain ⟨rfl, u1⟩ := p1
    have H2 : UpG w [] w2 [] := H1.call u1
    refine WL.done (X.then_code ?_)
    refine W.iteB (b := p (l.getD k el0)) rfl (fun c109 => ?_) (fun c109 => ?_)
    · skip
      refine W.seq ?_
      refine W.region ?_
      refine WL.op rfl (d_move rfl ?_)
      refine WL.op rfl (d_assign rfl ?_)
      refine WL.done (X.then_code ?_)
      refine W.ret (X.block_ret (X.then_ret (X.then_ret (X.block_ret (X.then_ret (X.ret1 rfl rfl ?_))))))
      have e := findFrom_yes (d := el0) p l k (by omega) (by simpa using c109)
      exact ⟨(by rw [hn, e]), H2.noneL⟩
    · skip
      refine W.skip (X.block_normal (X.then_code ?_))
      refine W.region ?_
      refine WL.op rfl (d_add rfl rfl (by omega) (by omega) ?_)
      refine WL.op rfl (d_move rfl ?_)
      refine WL.done ?_
      exact X.next [8, 7, 4, 0, 1] (Γ' := [(8, .int .i64 (((k + 1) : Nat) : Int)), (7, .int .i64 ((l.length : Nat) : Int)), (4, .int .i64 0), (0, .slice la l.length lc), (1, .func (.func f) #[] fc.toArray)]) rfl (l.length - (k + 1)) (by omega) ⟨k + 1, rfl, H2, (by first | assumption | omega | simp), (by rw [hn, findFrom_no (d := el0) _ _ _ (by omega) (by simpa using c109)]), rfl⟩
  · skip
    refine W.exit (X.then_exit (X.then_exit (X.block_exit (X.then_code ?_))))
    refine W.seq ?_
    refine W.region ?_
    refine WL.op rfl (d_assign rfl ?_)
    refine WL.done (X.then_code ?_)
    refine W.ret (X.ret1 rfl rfl ?_)
    have e := findFrom_end p l k (by omega)
    exact ⟨(by rw [hn, e]), H1.noneL⟩

set_option maxRecDepth 20000 in
theorem containsEL_any (la : Option Addr) (l : List EL) (lc : Nat) (f : FuncId) (fc : List Value) (p : EL → Bool) (w : World) (rl : RdT tyEL w (.slice la l.length lc) l) (dl : inEL.Rd w l) (hok : CallOk Try.prog f) (hf : ClosE Try.prog f fc p l w) :
    Calls Try.prog 67 #[.slice la l.length lc, .func (.func f) #[] fc.toArray] w (Ret fun v w' => v = .bool (l.any p) ∧ Upd w [] w' []) := by
  have le_rl := rl.le
  refine calls_of_W (args := [.slice la l.length lc, .func (.func f) #[] fc.toArray]) Try.func67 rfl rfl rfl ?_
  have H0 : UpG w [] w [] := UpG.nil w
  show W _ _ _ _ [(0, .slice la l.length lc), (1, .func (.func f) #[] fc.toArray)] w
  refine W.seq ?_
  refine W.region ?_
  refine WL.op rfl (d_assign rfl ?_)
  refine WL.done (X.then_code ?_)
  refine W.seq ?_
  refine W.region ?_
  refine WL.op rfl (d_move rfl ?_)
  refine WL.op rfl (d_move rfl ?_)
  refine WL.op rfl (d_call ok73 rfl (Ret.calls (indexEL_any la l lc f fc p w (rl.at H0) (dl.at H0) hok (hf.keep H0.keep0)) fun _ w1 p1 => ?_))
  obtain ⟨rfl, u1⟩ := p1
  have H1 : UpG w [] w1 [] := H0.call u1
  refine WL.op rfl (d_cmp (decide ((findI p l) ≥ (0 : Int))) rfl rfl rfl ?_)
  refine WL.op rfl (d_assign rfl ?_)
  refine WL.done (X.then_code ?_)
  refine W.ret (X.ret1 rfl rfl ?_)
  exact ⟨(by rw [← findI_any]), H1.noneL⟩

set_option maxRecDepth 20000 in
theorem times_any (la : Option Addr) (l : List EL) (lc : Nat) (i : Int) (j : Int) (w : World) (rl : RdT tyEL w (.slice la l.length lc) l) (dl : inEL.Rd w l) (hE : ∀ x : EL, x ∈ l → x.to.length * 8 ≤ 140737488355328) :
    Calls Try.prog 37 #[.slice la l.length lc, .int .i64 i, .int .i64 j] w (Ret fun v w' => v = .int .i64 (timesT (l.map EL.to) i j) ∧ Upd w [] w' []) := by
  have le_rl := rl.le
  refine calls_of_W (args := [.slice la l.length lc, .int .i64 i, .int .i64 j]) Try.func37 rfl rfl rfl ?_
  have H0 : UpG w [] w [] := UpG.nil w
  show W _ _ _ _ [(0, .slice la l.length lc), (1, .int .i64 i), (2, .int .i64 j)] w
  refine W.seq ?_
  refine W.region ?_
  refine WL.op rfl (d_assign rfl ?_)
  refine WL.done (X.then_code ?_)
  refine W.seq ?_
  refine W.seq ?_
  refine W.region ?_
  refine WL.op rfl (d_move rfl ?_)
  refine WL.op rfl (d_cmp (decide (i < (0 : Int))) rfl rfl rfl ?_)
  refine WL.op rfl (d_move rfl ?_)
  refine WL.part 11 (p := i < (0 : Int)) rfl (fun g84 => ?_) (fun g84 => ?_)
  · skip
    refine WL.opN rfl rfl rfl rfl ?_
    refine WL.opN rfl rfl rfl rfl ?_
    refine WL.opN rfl rfl rfl rfl ?_
    refine WL.opN rfl rfl rfl rfl ?_
    refine WL.op rfl (d_pick rfl rfl ?_)
    refine WL.op rfl (d_move rfl ?_)
    refine WL.opN rfl rfl rfl rfl ?_
    refine WL.opN rfl rfl rfl rfl ?_
    refine WL.op rfl (d_pick rfl rfl ?_)
    refine WL.op rfl (d_move rfl ?_)
    refine WL.opN rfl rfl rfl rfl ?_
    refine WL.opN rfl rfl rfl rfl ?_
    refine WL.opN rfl rfl rfl rfl ?_
    refine WL.opN rfl rfl rfl rfl ?_
    refine WL.op rfl (d_pick rfl rfl ?_)
    refine WL.done (X.then_code ?_)
    refine W.ift rfl ?_
    refine W.seq ?_
    refine W.region ?_
    refine WL.op rfl (d_assign rfl ?_)
    refine WL.done (X.then_code ?_)
    refine W.ret (X.then_ret (X.ret1 rfl rfl ?_))
    exact ⟨(by rw [timesT_out (by omega)]), H0.noneL⟩
  · skip
    refine WL.opG rfl rfl rfl (d_move rfl ?_)
    refine WL.opG rfl rfl rfl (d_move rfl ?_)
    refine WL.opG rfl rfl rfl (d_lenS Try.underlying35 rfl ?_)
    refine WL.opG rfl rfl rfl (d_cmp (decide (i ≥ ((l.length : Nat) : Int))) rfl rfl rfl ?_)
    refine WL.op rfl (d_pick rfl rfl ?_)
    refine WL.op rfl (d_move rfl ?_)
    refine WL.part 17 (p := i ≥ ((l.length : Nat) : Int)) rfl (fun g84x => ?_) (fun g84x => ?_)
    · skip
      refine WL.opN rfl rfl rfl rfl ?_
      refine WL.opN rfl rfl rfl rfl ?_
      refine WL.op rfl (d_pick rfl rfl ?_)
      refine WL.op rfl (d_move rfl ?_)
      refine WL.opN rfl rfl rfl rfl ?_
      refine WL.opN rfl rfl rfl rfl ?_
      refine WL.opN rfl rfl rfl rfl ?_
      refine WL.opN rfl rfl rfl rfl ?_
      refine WL.op rfl (d_pick rfl rfl ?_)
      refine WL.done (X.then_code ?_)
      refine W.ift rfl ?_
      refine W.seq ?_
      refine W.region ?_
      refine WL.op rfl (d_assign rfl ?_)
      refine WL.done (X.then_code ?_)
      refine W.ret (X.then_ret (X.ret1 rfl rfl ?_))
      exact ⟨(by rw [timesT_out (by omega)]), H0.noneL⟩
    · skip
      refine WL.opG rfl rfl rfl (d_move rfl ?_)
      refine WL.opG rfl rfl rfl (d_cmp (decide (j < (0 : Int))) rfl rfl rfl ?_)
      refine WL.op rfl (d_pick rfl rfl ?_)
      refine WL.op rfl (d_move rfl ?_)
      refine WL.part 21 (p := j < (0 : Int)) rfl (fun g84xx => ?_) (fun g84xx => ?_)
      · skip
        refine WL.opN rfl rfl rfl rfl ?_
        refine WL.opN rfl rfl rfl rfl ?_
        refine WL.opN rfl rfl rfl rfl ?_
        refine WL.opN rfl rfl rfl rfl ?_
        refine WL.op rfl (d_pick rfl rfl ?_)
        refine WL.done (X.then_code ?_)
        refine W.ift rfl ?_
        refine W.seq ?_
        refine W.region ?_
        refine WL.op rfl (d_assign rfl ?_)
        refine WL.done (X.then_code ?_)
        refine W.ret (X.then_ret (X.ret1 rfl rfl ?_))
        exact ⟨(by rw [timesT_out (by omega)]), H0.noneL⟩
      · skip
        refine WL.opG rfl rfl rfl (d_move rfl ?_)
        refine WL.opG rfl rfl rfl (d_move rfl ?_)
        refine WL.opG rfl rfl rfl (d_lenS Try.underlying35 rfl ?_)
        refine WL.opG rfl rfl rfl (d_cmp (decide (j ≥ ((l.length : Nat) : Int))) rfl rfl rfl ?_)
        refine WL.op rfl (d_pick rfl rfl ?_)
        refine WL.done (X.then_code ?_)
        refine W.ite (p := j ≥ ((l.length : Nat) : Int)) rfl (fun c84 => ?_) (fun c84 => ?_)
        · skip
          refine W.seq ?_
          refine W.region ?_
          refine WL.op rfl (d_assign rfl ?_)
          refine WL.done (X.then_code ?_)
          refine W.ret (X.then_ret (X.ret1 rfl rfl ?_))
          exact ⟨(by rw [timesT_out (by omega)]), H0.noneL⟩
        · skip
          refine W.skip (X.then_code ?_)
          refine W.seq ?_
          refine W.regionD mixed (by kernel_rfl) fun hok1 w1 k1 => ?_
          have H1 : UpG w [] w1 [] := H0.kept k1
          refine WD.take hok1 0 (.slice la l.length lc) (fun _ => True) rfl rfl rfl rfl rfl trivial (.inl ⟨rfl, fun _ _ => d_move rfl ⟨rfl, rfl⟩⟩) ?_
          refine WD.take hok1 1 (.int .i64 i) (fun _ => True) rfl rfl rfl rfl rfl trivial (.inl ⟨rfl, fun _ _ => d_move rfl ⟨rfl, rfl⟩⟩) ?_
          refine WD.take hok1 2 (elemPtr (.slice la l.length lc) (i.toNat * 2)) (fun w' => RdT tyEL w' (.slice la l.length lc) l) rfl rfl rfl rfl rfl (rl.at H1) (.inl ⟨rfl, fun _ hC => t_addrN i.toNat (T := tyEL) rfl Try.underlying35 sz45 rfl rfl hC (by omega) (by omega) ⟨rfl, rfl⟩⟩) ?_
          refine WD.take hok1 3 (elemPtr (.slice la l.length lc) (i.toNat * 2 + 0)) (fun w' => RdT tyEL w' (.slice la l.length lc) l) rfl rfl rfl rfl rfl (rl.at H1) (.inl ⟨rfl, fun _ hC => t_fld i.toNat el0 (T := tyEL) rfl fld45_0 rfl rfl hC (by omega) ⟨rfl, rfl⟩⟩) ?_
          refine WD.take hok1 4 (.slice ((l.getD i.toNat el0).a) ((l.getD i.toNat el0).n) ((l.getD i.toNat el0).c)) (fun w' => RdT tyEL w' (.slice la l.length lc) l) rfl rfl rfl rfl rfl (rl.at H1) (.inl ⟨rfl, fun _ hC => t_loadF i.toNat el0 (T := tyEL) rfl rfl Try.underlying22 rfl rfl hC (by omega) rfl ⟨rfl, rfl⟩⟩) ?_
          refine WD.take hok1 5 (.slice la l.length lc) (fun _ => True) rfl rfl rfl rfl rfl trivial (.inl ⟨rfl, fun _ _ => d_move rfl ⟨rfl, rfl⟩⟩) ?_
          refine WD.take hok1 6 (.int .i64 j) (fun _ => True) rfl rfl rfl rfl rfl trivial (.inl ⟨rfl, fun _ _ => d_move rfl ⟨rfl, rfl⟩⟩) ?_
          refine WD.take hok1 7 (elemPtr (.slice la l.length lc) (j.toNat * 2)) (fun w' => RdT tyEL w' (.slice la l.length lc) l) rfl rfl rfl rfl rfl (rl.at H1) (.inl ⟨rfl, fun _ hC => t_addrN j.toNat (T := tyEL) rfl Try.underlying35 sz45 rfl rfl hC (by omega) (by omega) ⟨rfl, rfl⟩⟩) ?_
          refine WD.take hok1 8 (elemPtr (.slice la l.length lc) (j.toNat * 2 + 0)) (fun w' => RdT tyEL w' (.slice la l.length lc) l) rfl rfl rfl rfl rfl (rl.at H1) (.inl ⟨rfl, fun _ hC => t_fld j.toNat el0 (T := tyEL) rfl fld45_0 rfl rfl hC (by omega) ⟨rfl, rfl⟩⟩) ?_
          refine WD.take hok1 9 (.slice ((l.getD j.toNat el0).a) ((l.getD j.toNat el0).n) ((l.getD j.toNat el0).c)) (fun w' => RdT tyEL w' (.slice la l.length lc) l) rfl rfl rfl rfl rfl (rl.at H1) (.inl ⟨rfl, fun _ hC => t_loadF j.toNat el0 (T := tyEL) rfl rfl Try.underlying22 rfl rfl hC (by omega) rfl ⟨rfl, rfl⟩⟩) ?_
          refine WD.louds hok1 [10, 14] rfl rfl (allOf2 ?_ ?_ )
          · skip
            refine ⟨_, [], rfl, rfl, rfl, rfl, rfl, rfl, d_call ok71 rfl (Ret.calls (then_any ((l.getD i.toNat el0).a) ((l.getD i.toNat el0).to) ((l.getD i.toNat el0).c) ((l.getD i.toNat el0).n) ((l.getD j.toNat el0).a) ((l.getD j.toNat el0).to) ((l.getD j.toNat el0).c) ((l.getD j.toNat el0).n) w1 (show RdT (tyI .i64) w1 (.slice ((l.getD i.toNat el0).a) ((l.getD i.toNat el0).n) ((l.getD i.toNat el0).c)) ((l.getD i.toNat el0).to) from (dl.at H1).get el0 i.toNat (by omega)) (show RdT (tyI .i64) w1 (.slice ((l.getD j.toNat el0).a) ((l.getD j.toNat el0).n) ((l.getD j.toNat el0).c)) ((l.getD j.toNat el0).to) from (dl.at H1).get el0 j.toNat (by omega)) (hE _ (getD_mem' (by omega)))) fun _ w2 p1 => ?_)⟩
            obtain ⟨a2_1, c2_1, rfl, u1⟩ := p1
            have H2 : UpG w [] w2 [[rowT (tyI .i64) (.slice a2_1 ((thenX ((l.getD i.toNat el0).to) ((l.getD j.toNat el0).to)).length) c2_1) 3 (thenX ((l.getD i.toNat el0).to) ((l.getD j.toNat el0).to))]] := (H1.new' u1).re rfl
            refine ⟨trivial, ?_⟩
            refine WD.take hok1 11 (.tuple #[.slice a2_1 ((thenX ((l.getD i.toNat el0).to) ((l.getD j.toNat el0).to)).length) c2_1, .bool (thenB ((l.getD i.toNat el0).to) ((l.getD j.toNat el0).to))]) (fun _ => True) rfl rfl rfl rfl rfl trivial (.inl ⟨rfl, fun _ _ => d_move rfl ⟨rfl, rfl⟩⟩) ?_
            refine WD.take hok1 12 (.slice a2_1 ((thenX ((l.getD i.toNat el0).to) ((l.getD j.toNat el0).to)).length) c2_1) (fun _ => True) rfl rfl rfl rfl rfl trivial (.inl ⟨rfl, fun _ _ => d_extract rfl rfl ⟨rfl, rfl⟩⟩) ?_
            refine WD.take hok1 13 (.bool (thenB ((l.getD i.toNat el0).to) ((l.getD j.toNat el0).to))) (fun _ => True) rfl rfl rfl rfl rfl trivial (.inl ⟨rfl, fun _ _ => d_extract rfl rfl ⟨rfl, rfl⟩⟩) ?_
            refine WD.loud hok1 14 rfl (⟨_, [⟨13, .bool (thenB ((l.getD i.toNat el0).to) ((l.getD j.toNat el0).to)), (fun _ => True)⟩, ⟨12, .slice a2_1 ((thenX ((l.getD i.toNat el0).to) ((l.getD j.toNat el0).to)).length) c2_1, (fun _ => True)⟩, ⟨11, .tuple #[.slice a2_1 ((thenX ((l.getD i.toNat el0).to) ((l.getD j.toNat el0).to)).length) c2_1, .bool (thenB ((l.getD i.toNat el0).to) ((l.getD j.toNat el0).to))], (fun _ => True)⟩], rfl, rfl, rfl, rfl, rfl, rfl, d_alloc sz22 fun w3 u2 => ?_⟩)
            have H3 : UpG w [] w3 [[rowT (tyI .i64) (.slice a2_1 ((thenX ((l.getD i.toNat el0).to) ((l.getD j.toNat el0).to)).length) c2_1) 3 (thenX ((l.getD i.toNat el0).to) ((l.getD j.toNat el0).to))], [blk w2.heap.size #[.slice none 0 0] 22]] := H2.new' u2
            refine ⟨⟨trivial, trivial, trivial, trivial⟩, ?_⟩
            refine WD.loud hok1 15 rfl (⟨_, [⟨13, .bool (thenB ((l.getD i.toNat el0).to) ((l.getD j.toNat el0).to)), (fun _ => True)⟩], rfl, rfl, rfl, rfl, rfl, rfl, d_storeB sz22 rfl rfl rfl (H3.blk 1 rfl) rfl fun w4 u3 => ?_⟩)
            have H4 : UpG w [] w4 [[rowT (tyI .i64) (.slice a2_1 ((thenX ((l.getD i.toNat el0).to) ((l.getD j.toNat el0).to)).length) c2_1) 3 (thenX ((l.getD i.toNat el0).to) ((l.getD j.toNat el0).to))], [blk w2.heap.size #[.slice a2_1 ((thenX ((l.getD i.toNat el0).to) ((l.getD j.toNat el0).to)).length) c2_1] 22]] := H3.on 1 rfl u3
            refine ⟨⟨trivial, trivial⟩, ?_⟩
            refine WD.take hok1 16 (.bool (thenB ((l.getD i.toNat el0).to) ((l.getD j.toNat el0).to))) (fun _ => True) rfl rfl rfl rfl rfl trivial (.inl ⟨rfl, fun _ _ => d_assign rfl ⟨rfl, rfl⟩⟩) ?_
            refine WD.done hok1 rfl (X.then_code ?_)
            refine W.pick [8, 7, 6, 0] (Γ' := [(8, .bool (thenB ((l.getD i.toNat el0).to) ((l.getD j.toNat el0).to))), (7, .pointer (some ⟨w2.heap.size, 0, none⟩)), (6, .int .i64 0), (0, .slice la l.length lc)]) rfl ?_
            refine W.seq ?_
            refine W.seq ?_
            refine W.region ?_
            refine WL.op rfl (d_move rfl ?_)
            refine WL.op rfl (d_notB rfl ?_)
            refine WL.done (X.then_code ?_)
            refine W.iteB (b := !(thenB ((l.getD i.toNat el0).to) ((l.getD j.toNat el0).to))) rfl (fun c88 => ?_) (fun c88 => ?_)
            · skip
              refine W.seq ?_
              refine W.region ?_
              refine WL.op rfl (d_assign rfl ?_)
              refine WL.done (X.then_code ?_)
              refine W.ret (X.then_ret (X.ret1 rfl rfl ?_))
              exact ⟨(by rw [timesT_unfit (by simpa using c88)]), H4.noneL⟩
            · skip
              refine W.skip (X.then_code ?_)
              refine W.seq ?_
              have ht88 : thenB (l.getD i.toNat el0).to (l.getD j.toNat el0).to = true := by simpa using c88
              refine W.region ?_
              refine WL.op rfl (d_move rfl ?_)
              refine WL.op rfl (d_makeFunc rfl rfl ?_)
              refine WL.op rfl (d_call ok73 rfl (Ret.calls (indexEL_any la l lc 74 [.pointer (some ⟨w2.heap.size, 0, none⟩)] (fun x => decide (x.to = thenX (l.getD i.toNat el0).to (l.getD j.toNat el0).to)) w4 (rl.at H4) (dl.at H4) ok74 (fun w' hk x hx => timesLit_any _ _ _ _ _ _ _ _ _ _ w' (((dl x hx).at H4).kept hk) ((by first | exact H4.rdT 0 rfl | exact H4.rdT 1 rfl : RdT (tyI .i64) w4 (.slice _ _ _) _).kept hk) (by first | exact hk.obj (H4.blk 1 rfl) (by simp) | exact hk.obj (H4.blk 0 rfl) (by simp)))) fun _ w5 p2 => ?_))
              obtain ⟨rfl, u4⟩ := p2
              have H5 : UpG w [] w5 [[rowT (tyI .i64) (.slice a2_1 ((thenX ((l.getD i.toNat el0).to) ((l.getD j.toNat el0).to)).length) c2_1) 3 (thenX ((l.getD i.toNat el0).to) ((l.getD j.toNat el0).to))], [blk w2.heap.size #[.slice a2_1 ((thenX ((l.getD i.toNat el0).to) ((l.getD j.toNat el0).to)).length) c2_1] 22]] := H4.call u4
              refine WL.op rfl (d_assign rfl ?_)
              refine WL.done (X.then_code ?_)
              refine W.ret (X.ret1 rfl rfl ?_)
              have e1 := timesT_in (l := l) (i := i) (j := j) (by omega) (by omega) ht88
              rw [thenX_yes ht88, findI_to, e1]
              exact ⟨(by rfl), H5.noneL⟩
          · skip
            refine ⟨_, [⟨9, .slice ((l.getD j.toNat el0).a) ((l.getD j.toNat el0).n) ((l.getD j.toNat el0).c), (fun w' => RdT tyEL w' (.slice la l.length lc) l)⟩, ⟨8, elemPtr (.slice la l.length lc) (j.toNat * 2 + 0), (fun w' => RdT tyEL w' (.slice la l.length lc) l)⟩, ⟨7, elemPtr (.slice la l.length lc) (j.toNat * 2), (fun w' => RdT tyEL w' (.slice la l.length lc) l)⟩, ⟨6, .int .i64 j, (fun _ => True)⟩, ⟨5, .slice la l.length lc, (fun _ => True)⟩, ⟨4, .slice ((l.getD i.toNat el0).a) ((l.getD i.toNat el0).n) ((l.getD i.toNat el0).c), (fun w' => RdT tyEL w' (.slice la l.length lc) l)⟩, ⟨3, elemPtr (.slice la l.length lc) (i.toNat * 2 + 0), (fun w' => RdT tyEL w' (.slice la l.length lc) l)⟩, ⟨2, elemPtr (.slice la l.length lc) (i.toNat * 2), (fun w' => RdT tyEL w' (.slice la l.length lc) l)⟩, ⟨1, .int .i64 i, (fun _ => True)⟩, ⟨0, .slice la l.length lc, (fun _ => True)⟩], rfl, rfl, rfl, rfl, rfl, rfl, d_alloc sz22 fun w6 u5 => ?_⟩
            have H6 : UpG w [] w6 [[blk w1.heap.size #[.slice none 0 0] 22]] := H1.new' u5
            refine ⟨⟨(rl.at H6), (rl.at H6), (rl.at H6), trivial, trivial, (rl.at H6), (rl.at H6), (rl.at H6), trivial, trivial, trivial⟩, ?_⟩
            refine WD.loud hok1 10 rfl (⟨_, [], rfl, rfl, rfl, rfl, rfl, rfl, d_call ok71 rfl (Ret.calls (then_any ((l.getD i.toNat el0).a) ((l.getD i.toNat el0).to) ((l.getD i.toNat el0).c) ((l.getD i.toNat el0).n) ((l.getD j.toNat el0).a) ((l.getD j.toNat el0).to) ((l.getD j.toNat el0).c) ((l.getD j.toNat el0).n) w6 (show RdT (tyI .i64) w6 (.slice ((l.getD i.toNat el0).a) ((l.getD i.toNat el0).n) ((l.getD i.toNat el0).c)) ((l.getD i.toNat el0).to) from (dl.at H6).get el0 i.toNat (by omega)) (show RdT (tyI .i64) w6 (.slice ((l.getD j.toNat el0).a) ((l.getD j.toNat el0).n) ((l.getD j.toNat el0).c)) ((l.getD j.toNat el0).to) from (dl.at H6).get el0 j.toNat (by omega)) (hE _ (getD_mem' (by omega)))) fun _ w7 p3 => ?_)⟩)
            obtain ⟨a2_2, c2_2, rfl, u6⟩ := p3
            have H7 : UpG w [] w7 [[blk w1.heap.size #[.slice none 0 0] 22], [rowT (tyI .i64) (.slice a2_2 ((thenX ((l.getD i.toNat el0).to) ((l.getD j.toNat el0).to)).length) c2_2) 3 (thenX ((l.getD i.toNat el0).to) ((l.getD j.toNat el0).to))]] := (H6.new' u6).re rfl
            refine ⟨trivial, ?_⟩
            refine WD.take hok1 11 (.tuple #[.slice a2_2 ((thenX ((l.getD i.toNat el0).to) ((l.getD j.toNat el0).to)).length) c2_2, .bool (thenB ((l.getD i.toNat el0).to) ((l.getD j.toNat el0).to))]) (fun _ => True) rfl rfl rfl rfl rfl trivial (.inl ⟨rfl, fun _ _ => d_move rfl ⟨rfl, rfl⟩⟩) ?_
            refine WD.take hok1 12 (.slice a2_2 ((thenX ((l.getD i.toNat el0).to) ((l.getD j.toNat el0).to)).length) c2_2) (fun _ => True) rfl rfl rfl rfl rfl trivial (.inl ⟨rfl, fun _ _ => d_extract rfl rfl ⟨rfl, rfl⟩⟩) ?_
            refine WD.take hok1 13 (.bool (thenB ((l.getD i.toNat el0).to) ((l.getD j.toNat el0).to))) (fun _ => True) rfl rfl rfl rfl rfl trivial (.inl ⟨rfl, fun _ _ => d_extract rfl rfl ⟨rfl, rfl⟩⟩) ?_
            refine WD.loud hok1 15 rfl (⟨_, [⟨13, .bool (thenB ((l.getD i.toNat el0).to) ((l.getD j.toNat el0).to)), (fun _ => True)⟩], rfl, rfl, rfl, rfl, rfl, rfl, d_storeB sz22 rfl rfl rfl (H7.blk 0 rfl) rfl fun w8 u7 => ?_⟩)
            have H8 : UpG w [] w8 [[blk w1.heap.size #[.slice a2_2 ((thenX ((l.getD i.toNat el0).to) ((l.getD j.toNat el0).to)).length) c2_2] 22], [rowT (tyI .i64) (.slice a2_2 ((thenX ((l.getD i.toNat el0).to) ((l.getD j.toNat el0).to)).length) c2_2) 3 (thenX ((l.getD i.toNat el0).to) ((l.getD j.toNat el0).to))]] := H7.on 0 rfl u7
            refine ⟨⟨trivial, trivial⟩, ?_⟩
            refine WD.take hok1 16 (.bool (thenB ((l.getD i.toNat el0).to) ((l.getD j.toNat el0).to))) (fun _ => True) rfl rfl rfl rfl rfl trivial (.inl ⟨rfl, fun _ _ => d_assign rfl ⟨rfl, rfl⟩⟩) ?_
            refine WD.done hok1 rfl (X.then_code ?_)
            refine W.pick [8, 7, 6, 0] (Γ' := [(8, .bool (thenB ((l.getD i.toNat el0).to) ((l.getD j.toNat el0).to))), (7, .pointer (some ⟨w1.heap.size, 0, none⟩)), (6, .int .i64 0), (0, .slice la l.length lc)]) rfl ?_
            refine W.seq ?_
            refine W.seq ?_
            refine W.region ?_
            refine WL.op rfl (d_move rfl ?_)
            refine WL.op rfl (d_notB rfl ?_)
            refine WL.done (X.then_code ?_)
            refine W.iteB (b := !(thenB ((l.getD i.toNat el0).to) ((l.getD j.toNat el0).to))) rfl (fun c88 => ?_) (fun c88 => ?_)
            · skip
              refine W.seq ?_
              refine W.region ?_
              refine WL.op rfl (d_assign rfl ?_)
              refine WL.done (X.then_code ?_)
              refine W.ret (X.then_ret (X.ret1 rfl rfl ?_))
              exact ⟨(by rw [timesT_unfit (by simpa using c88)]), H8.noneL⟩
            · skip
              refine W.skip (X.then_code ?_)
              refine W.seq ?_
              have ht88 : thenB (l.getD i.toNat el0).to (l.getD j.toNat el0).to = true := by simpa using c88
              refine W.region ?_
              refine WL.op rfl (d_move rfl ?_)
              refine WL.op rfl (d_makeFunc rfl rfl ?_)
              refine WL.op rfl (d_call ok73 rfl (Ret.calls (indexEL_any la l lc 74 [.pointer (some ⟨w1.heap.size, 0, none⟩)] (fun x => decide (x.to = thenX (l.getD i.toNat el0).to (l.getD j.toNat el0).to)) w8 (rl.at H8) (dl.at H8) ok74 (fun w' hk x hx => timesLit_any _ _ _ _ _ _ _ _ _ _ w' (((dl x hx).at H8).kept hk) ((by first | exact H8.rdT 0 rfl | exact H8.rdT 1 rfl : RdT (tyI .i64) w8 (.slice _ _ _) _).kept hk) (by first | exact hk.obj (H8.blk 1 rfl) (by simp) | exact hk.obj (H8.blk 0 rfl) (by simp)))) fun _ w9 p4 => ?_))
              obtain ⟨rfl, u8⟩ := p4
              have H9 : UpG w [] w9 [[blk w1.heap.size #[.slice a2_2 ((thenX ((l.getD i.toNat el0).to) ((l.getD j.toNat el0).to)).length) c2_2] 22], [rowT (tyI .i64) (.slice a2_2 ((thenX ((l.getD i.toNat el0).to) ((l.getD j.toNat el0).to)).length) c2_2) 3 (thenX ((l.getD i.toNat el0).to) ((l.getD j.toNat el0).to))]] := H8.call u8
              refine WL.op rfl (d_assign rfl ?_)
              refine WL.done (X.then_code ?_)
              refine W.ret (X.ret1 rfl rfl ?_)
              have e1 := timesT_in (l := l) (i := i) (j := j) (by omega) (by omega) ht88
              rw [thenX_yes ht88, findI_to, e1]
              exact ⟨(by rfl), H9.noneL⟩

set_option maxRecDepth 20000 in
theorem idempotents_any (la : Option Addr) (l : List EL) (lc : Nat) (w : World) (rl : RdT tyEL w (.slice la l.length lc) l) (dl : inEL.Rd w l) (hE : ∀ x : EL, x ∈ l → x.to.length * 8 ≤ 140737488355328) (hl : l.length ≤ 1000000) :
    Calls Try.prog 35 #[.slice la l.length lc] w (Ret fun v w' => ∃ a2 : Option Addr, ∃ c2 : Nat, v = .slice a2 ((idemT (l.map EL.to)).length) c2 ∧ Upd w [] w' [rowT (tyI .i64) (.slice a2 ((idemT (l.map EL.to)).length) c2) 3 (idemT (l.map EL.to))]) := by
  have le_rl := rl.le
  refine calls_of_W (args := [.slice la l.length lc]) Try.func35 rfl rfl rfl ?_
  have H0 : UpG w [] w [] := UpG.nil w
  show W _ _ _ _ [(0, .slice la l.length lc)] w
  refine W.seq ?_
  refine W.region ?_
  refine WL.op rfl (d_assign rfl ?_)
  refine WL.done (X.then_code ?_)
  refine W.seq ?_
  refine W.region ?_
  refine WL.op rfl (d_assign rfl ?_)
  refine WL.done (X.then_code ?_)
  refine W.seq ?_
  refine W.seq ?_
  refine W.region ?_
  refine WL.op rfl (d_move rfl ?_)
  refine WL.op rfl (d_lenS Try.underlying35 rfl ?_)
  refine WL.op rfl (d_move rfl ?_)
  refine WL.done (X.then_code ?_)
  refine W.block ?_
  have H1 : UpG w [] w [[rowT (tyI .i64) (.slice none (([] : List Int).length) 0) 3 ([] : List Int)]] := H0.new' (Upd.nilRowT w (tyI .i64) 3)
  refine W.pick [10, 9, 8, 3, 2] (Γ' := [(10, .int .i64 0), (9, .int .i64 ((l.length : Nat) : Int)), (8, .slice la l.length lc), (3, .slice none (([] : List Int).length) 0), (2, .slice none 0 0)]) rfl ?_
  refine W.loop (fun m Γ' w' => ∃ k : Nat, ∃ q : List Int, ∃ qa : Option Addr, ∃ qc : Nat, Γ' = [(10, .int .i64 ((k : Nat) : Int)), (9, .int .i64 ((l.length : Nat) : Int)), (8, .slice la l.length lc), (3, .slice qa q.length qc), (2, .slice none 0 0)] ∧ UpG w [] w' [[rowT (tyI .i64) (.slice qa q.length qc) 3 q]] ∧ (k ≤ l.length) ∧ (q = idemK (l.map EL.to) k) ∧ m = l.length - k) (l.length - 0) ⟨0, ([] : List Int), none, 0, rfl, H1, (by first | assumption | omega | simp), (by rfl), rfl⟩ ?_
  rintro m1 Γ1 w1 ⟨k, q, qa, qc, rfl, H2, hk, hq, rfl⟩
  have hql : q.length ≤ k := (by rw [hq]; exact idemK_len _ _)
  refine W.seq ?_
  refine W.region ?_
  refine WL.op rfl (d_cmp (decide (((k : Nat) : Int) < ((l.length : Nat) : Int))) rfl rfl rfl ?_)
  refine WL.done (X.then_code ?_)
  refine W.seq ?_
  refine W.ite (p := ((k : Nat) : Int) < ((l.length : Nat) : Int)) rfl (fun c97 => ?_) (fun c97 => ?_)
  · skip
    refine W.skip (X.then_code ?_)
    refine W.seq ?_
    refine W.block ?_
    refine W.seq ?_
    refine W.region ?_
    refine WL.op rfl (d_move rfl ?_)
    refine WL.op rfl (t_addrN k (T := tyEL) rfl Try.underlying35 sz45 rfl rfl (rl.at H2) rfl (by omega) ?_)
    refine WL.op rfl (t_loadN k el0 (T := tyEL) (us := [.slice ((l.getD k el0).a) ((l.getD k el0).n) ((l.getD k el0).c), .string ((l.getD k el0).text)]) rfl Try.underlying45 rfl sz45 rfl (rl.at H2) (by omega) rfl ?_)
    refine WL.op rfl (d_alloc sz45 fun w2 u1 => ?_)
    have H3 : UpG w [] w2 [[rowT (tyI .i64) (.slice qa q.length qc) 3 q], [blk w1.heap.size #[.slice none 0 0, .string ⟨#[]⟩] 45]] := H2.new' u1
    refine WL.op rfl (d_assign rfl ?_)
    refine WL.op0 (d_storeAB (us := [.slice ((l.getD k el0).a) ((l.getD k el0).n) ((l.getD k el0).c), .string ((l.getD k el0).text)]) (cs' := #[.slice ((l.getD k el0).a) ((l.getD k el0).n) ((l.getD k el0).c), .string ((l.getD k el0).text)]) sz45 rfl rfl rfl rfl (H3.blk 1 rfl) rfl rfl fun w3 u2 => ?_)
    have H4 : UpG w [] w3 [[rowT (tyI .i64) (.slice qa q.length qc) 3 q], [blk w1.heap.size #[.slice ((l.getD k el0).a) ((l.getD k el0).n) ((l.getD k el0).c), .string ((l.getD k el0).text)] 45]] := H3.on 1 rfl u2
    refine WL.done (X.then_code ?_)
    refine W.seq ?_
    refine W.region ?_
    refine WL.op rfl (d_fieldAddrB fld45_0 rfl rfl ?_)
    refine WL.op rfl (d_loadB Try.underlying22 rfl rfl (H4.blk 1 rfl) rfl ?_)
    refine WL.op rfl (d_fieldAddrB fld45_0 rfl rfl ?_)
    refine WL.op rfl (d_loadB Try.underlying22 rfl rfl (H4.blk 1 rfl) rfl ?_)
    refine WL.op rfl (d_call ok71 rfl (Ret.calls (then_any ((l.getD k el0).a) ((l.getD k el0).to) ((l.getD k el0).c) ((l.getD k el0).n) ((l.getD k el0).a) ((l.getD k el0).to) ((l.getD k el0).c) ((l.getD k el0).n) w3 (show RdT (tyI .i64) w3 (.slice ((l.getD k el0).a) ((l.getD k el0).n) ((l.getD k el0).c)) ((l.getD k el0).to) from (dl.at H4).get el0 k (by omega)) (show RdT (tyI .i64) w3 (.slice ((l.getD k el0).a) ((l.getD k el0).n) ((l.getD k el0).c)) ((l.getD k el0).to) from (dl.at H4).get el0 k (by omega)) (hE _ (getD_mem' (by omega)))) fun _ w4 p1 => ?_))
    obtain ⟨a2_1, c2_1, rfl, u3⟩ := p1
    have H5 : UpG w [] w4 [[rowT (tyI .i64) (.slice qa q.length qc) 3 q], [blk w1.heap.size #[.slice ((l.getD k el0).a) ((l.getD k el0).n) ((l.getD k el0).c), .string ((l.getD k el0).text)] 45], [rowT (tyI .i64) (.slice a2_1 ((thenX ((l.getD k el0).to) ((l.getD k el0).to)).length) c2_1) 3 (thenX ((l.getD k el0).to) ((l.getD k el0).to))]] := (H4.new' u3).re rfl
    refine WL.op rfl (d_move rfl ?_)
    refine WL.op rfl (d_extract rfl rfl ?_)
    refine WL.op rfl (d_extract rfl rfl ?_)
    refine WL.op rfl (d_assign rfl ?_)
    refine WL.op rfl (d_assign rfl ?_)
    refine WL.done (X.then_code ?_)
    refine W.seq ?_
    refine W.region ?_
    refine WL.op rfl (d_move rfl ?_)
    refine WL.op rfl (d_move rfl ?_)
    refine WL.partB 24 (b := thenB ((l.getD k el0).to) ((l.getD k el0).to)) rfl (fun g98 => ?_) (fun g98 => ?_)
    · skip
      refine WL.opG rfl rfl rfl (d_move rfl ?_)
      refine WL.opG rfl rfl rfl (d_fieldAddrB fld45_0 rfl rfl ?_)
      refine WL.opG rfl rfl rfl (d_loadB Try.underlying22 rfl rfl (H5.blk 1 rfl) rfl ?_)
      refine WL.opG rfl rfl rfl (d_call ok72 rfl (Ret.calls (equalI_any a2_1 (thenX ((l.getD k el0).to) ((l.getD k el0).to)) c2_1 ((thenX ((l.getD k el0).to) ((l.getD k el0).to)).length) ((l.getD k el0).a) ((l.getD k el0).to) ((l.getD k el0).c) ((l.getD k el0).n) w4 (H5.rdT 2 rfl) (show RdT (tyI .i64) w4 (.slice ((l.getD k el0).a) ((l.getD k el0).n) ((l.getD k el0).c)) ((l.getD k el0).to) from (dl.at H5).get el0 k (by omega)) ) fun _ w5 p2 => ?_))
      obtain ⟨rfl, u4⟩ := p2
      have H6 : UpG w [] w5 [[rowT (tyI .i64) (.slice qa q.length qc) 3 q], [blk w1.heap.size #[.slice ((l.getD k el0).a) ((l.getD k el0).n) ((l.getD k el0).c), .string ((l.getD k el0).text)] 45], [rowT (tyI .i64) (.slice a2_1 ((thenX ((l.getD k el0).to) ((l.getD k el0).to)).length) c2_1) 3 (thenX ((l.getD k el0).to) ((l.getD k el0).to))]] := H5.call u4
      refine WL.op rfl (d_pick rfl rfl ?_)
      refine WL.done (X.then_code ?_)
      refine W.ite (p := (thenX ((l.getD k el0).to) ((l.getD k el0).to)) = ((l.getD k el0).to)) rfl (fun c98 => ?_) (fun c98 => ?_)
      · skip
        refine W.region ?_
        refine WL.op rfl (d_move rfl ?_)
        refine WL.op rfl (d_move rfl ?_)
        refine WL.op rfl (t_buildSlice (T := (tyI .i64)) (xs := [((k : Nat) : Int)]) (cs := #[.int .i64 ((k : Nat) : Int)]) rfl Try.underlying22 sz3 rfl rfl rfl rfl (by kernel_rfl) rfl rfl fun w6 u5 => ?_)
        have H7 : UpG w [] w6 [[rowT (tyI .i64) (.slice qa q.length qc) 3 q], [blk w1.heap.size #[.slice ((l.getD k el0).a) ((l.getD k el0).n) ((l.getD k el0).c), .string ((l.getD k el0).text)] 45], [rowT (tyI .i64) (.slice a2_1 ((thenX ((l.getD k el0).to) ((l.getD k el0).to)).length) c2_1) 3 (thenX ((l.getD k el0).to) ((l.getD k el0).to))], [rowT (tyI .i64) (.slice (some ⟨w5.heap.size, 0, none⟩) ([((k : Nat) : Int)].length) ([((k : Nat) : Int)].length)) 3 [((k : Nat) : Int)]]] := H6.new' u5
        refine WL.op rfl (t_append (T := (tyI .i64)) (xs := q) (ys := [((k : Nat) : Int)]) rfl Try.underlying22 sz3 rfl rfl rfl (H7.ownT 0 rfl) (H7.rdT 3 rfl) (by simp; omega) (by simp; omega) fun a1 c1 w7 u6 => ?_)
        have H8 : UpG w [] w7 [[rowT (tyI .i64) (.slice a1 ((q ++ [((k : Nat) : Int)]).length) c1) 3 (q ++ [((k : Nat) : Int)])], [blk w1.heap.size #[.slice ((l.getD k el0).a) ((l.getD k el0).n) ((l.getD k el0).c), .string ((l.getD k el0).text)] 45], [rowT (tyI .i64) (.slice a2_1 ((thenX ((l.getD k el0).to) ((l.getD k el0).to)).length) c2_1) 3 (thenX ((l.getD k el0).to) ((l.getD k el0).to))], []] := (H7.on 0 rfl u6).drop 3
        refine WL.op rfl (d_assign rfl ?_)
        refine WL.done (X.block_normal (X.then_code ?_))
        refine W.pick [3, 28, 27, 26, 25, 10, 9, 8, 2] (Γ' := [(3, .slice a1 ((q ++ [((k : Nat) : Int)]).length) c1), (28, .bool (decide ((thenX ((l.getD k el0).to) ((l.getD k el0).to)) = ((l.getD k el0).to)))), (27, .slice ((l.getD k el0).a) ((l.getD k el0).n) ((l.getD k el0).c)), (26, .pointer (some ⟨w1.heap.size, 0, none⟩)), (25, .slice a2_1 ((thenX ((l.getD k el0).to) ((l.getD k el0).to)).length) c2_1), (10, .int .i64 ((k : Nat) : Int)), (9, .int .i64 ((l.length : Nat) : Int)), (8, .slice la l.length lc), (2, .slice none 0 0)]) rfl ?_
        refine W.region ?_
        refine WL.op rfl (d_add rfl rfl (by omega) (by omega) ?_)
        refine WL.op rfl (d_move rfl ?_)
        refine WL.done ?_
        exact X.next [10, 9, 8, 3, 2] (Γ' := [(10, .int .i64 (((k + 1) : Nat) : Int)), (9, .int .i64 ((l.length : Nat) : Int)), (8, .slice la l.length lc), (3, .slice a1 ((q ++ [((k : Nat) : Int)]).length) c1), (2, .slice none 0 0)]) rfl (l.length - (k + 1)) (by omega) ⟨k + 1, q ++ [((k : Nat) : Int)], a1, c1, rfl, (UpG.of (G := [[rowT (tyI .i64) (.slice a1 ((q ++ [((k : Nat) : Int)]).length) c1) 3 (q ++ [((k : Nat) : Int)])]]) (Upd.sel H8 (M := [rowT (tyI .i64) (.slice a1 ((q ++ [((k : Nat) : Int)]).length) c1) 3 (q ++ [((k : Nat) : Int)])]) (l := [0]) rfl rfl) rfl), (by first | assumption | omega | simp), (by first | (rw [hq]; exact idemK_yes (by rw [mapTo_getD]; exact idem_yes g98 c98)) | (rw [hq]; exact idemK_no (by rw [mapTo_getD]; exact idem_no2 g98 c98)) | (rw [hq]; exact idemK_no (by rw [mapTo_getD]; exact idem_no1 g98))), rfl⟩
      · skip
        refine W.skip (X.block_normal (X.then_code ?_))
        refine W.region ?_
        refine WL.op rfl (d_add rfl rfl (by omega) (by omega) ?_)
        refine WL.op rfl (d_move rfl ?_)
        refine WL.done ?_
        exact X.next [10, 9, 8, 3, 2] (Γ' := [(10, .int .i64 (((k + 1) : Nat) : Int)), (9, .int .i64 ((l.length : Nat) : Int)), (8, .slice la l.length lc), (3, .slice qa q.length qc), (2, .slice none 0 0)]) rfl (l.length - (k + 1)) (by omega) ⟨k + 1, q, qa, qc, rfl, (UpG.of (G := [[rowT (tyI .i64) (.slice qa q.length qc) 3 q]]) (Upd.sel H6 (M := [rowT (tyI .i64) (.slice qa q.length qc) 3 q]) (l := [0]) rfl rfl) rfl), (by first | assumption | omega | simp), (by first | (rw [hq]; exact idemK_yes (by rw [mapTo_getD]; exact idem_yes g98 c98)) | (rw [hq]; exact idemK_no (by rw [mapTo_getD]; exact idem_no2 g98 c98)) | (rw [hq]; exact idemK_no (by rw [mapTo_getD]; exact idem_no1 g98))), rfl⟩
    · skip
      refine WL.opN rfl rfl rfl rfl ?_
      refine WL.opN rfl rfl rfl rfl ?_
      refine WL.opN rfl rfl rfl rfl ?_
      refine WL.opN rfl rfl rfl rfl ?_
      refine WL.op rfl (d_pick rfl rfl ?_)
      refine WL.done (X.then_code ?_)
      refine W.iff rfl ?_
      refine W.skip (X.block_normal (X.then_code ?_))
      refine W.region ?_
      refine WL.op rfl (d_add rfl rfl (by omega) (by omega) ?_)
      refine WL.op rfl (d_move rfl ?_)
      refine WL.done ?_
      exact X.next [10, 9, 8, 3, 2] (Γ' := [(10, .int .i64 (((k + 1) : Nat) : Int)), (9, .int .i64 ((l.length : Nat) : Int)), (8, .slice la l.length lc), (3, .slice qa q.length qc), (2, .slice none 0 0)]) rfl (l.length - (k + 1)) (by omega) ⟨k + 1, q, qa, qc, rfl, (UpG.of (G := [[rowT (tyI .i64) (.slice qa q.length qc) 3 q]]) (Upd.sel H5 (M := [rowT (tyI .i64) (.slice qa q.length qc) 3 q]) (l := [0]) rfl rfl) rfl), (by first | assumption | omega | simp), (by first | (rw [hq]; exact idemK_yes (by rw [mapTo_getD]; exact idem_yes g98 c98)) | (rw [hq]; exact idemK_no (by rw [mapTo_getD]; exact idem_no2 g98 c98)) | (rw [hq]; exact idemK_no (by rw [mapTo_getD]; exact idem_no1 g98))), rfl⟩
  · skip
    refine W.exit (X.then_exit (X.then_exit (X.block_exit (X.then_code ?_))))
    refine W.seq ?_
    refine W.region ?_
    refine WL.op rfl (d_move rfl ?_)
    refine WL.op rfl (d_assign rfl ?_)
    refine WL.done (X.then_code ?_)
    refine W.ret (X.ret1 rfl rfl ?_)
    have e1 : idemT (l.map EL.to) = q := by rw [hq, idemT, List.length_map, show k = l.length by omega]
    rw [e1]
    exact ⟨qa, qc, (by rfl), (by have hh := H2.one 0 rfl; exact hh)⟩

set_option maxRecDepth 20000 in
theorem aperiodic_any (d : DfaD) (dca : Option Addr) (dna : Option Addr) (dba : Option Addr) (dcc : Nat) (dnc : Nat) (dbc : Nat) (most : Int) (w : World) (rcd : RdT (tyI .i64) w (.slice dca d.cls.length dcc) d.cls) (rnd : RdT (tyI .i64) w (.slice dna d.next.length dnc) d.next) (rbd : RdT tyB w (.slice dba d.acc.length dbc) d.acc) (hm : most ≤ 1000) :
    Calls Try.prog 30 #[.agg #[.slice dca d.cls.length dcc, .int .i64 d.width, .int .i64 d.start, .slice dna d.next.length dnc, .slice dba d.acc.length dbc], .int .i64 most] w (Ret fun v w' => v = .tuple #[.bool (aperB d most), .int .i64 (aperE d most)] ∧ Upd w [] w' []) := by
  have le_rcd := rcd.le
  have le_rnd := rnd.le
  have le_rbd := rbd.le
  refine calls_of_W (args := [.agg #[.slice dca d.cls.length dcc, .int .i64 d.width, .int .i64 d.start, .slice dna d.next.length dnc, .slice dba d.acc.length dbc], .int .i64 most]) Try.func30 rfl rfl rfl ?_
  have H0 : UpG w [] w [] := UpG.nil w
  show W _ _ _ _ [(0, .agg #[.slice dca d.cls.length dcc, .int .i64 d.width, .int .i64 d.start, .slice dna d.next.length dnc, .slice dba d.acc.length dbc]), (1, .int .i64 most)] w
  refine W.seq ?_
  refine W.region ?_
  refine WL.op rfl (d_box rfl fun w1 u1 => ?_)
  have H1 : UpG w [] w1 [[blk w.heap.size #[.slice dca d.cls.length dcc, .int .i64 d.width, .int .i64 d.start, .slice dna d.next.length dnc, .slice dba d.acc.length dbc] 25]] := H0.new' u1
  refine WL.op rfl (d_assign rfl ?_)
  refine WL.op rfl (d_assign rfl ?_)
  refine WL.done (X.then_code ?_)
  refine W.seq ?_
  refine W.region ?_
  refine WL.op rfl (d_loadAB [.slice dca d.cls.length dcc, .int .i64 d.width, .int .i64 d.start, .slice dna d.next.length dnc, .slice dba d.acc.length dbc] Try.underlying25 rfl sz25 rfl (H1.blk 0 rfl) rfl rfl ?_)
  refine WL.op rfl (d_move rfl ?_)
  refine WL.op rfl (d_call ok29 rfl (Ret.calls (elements_any d dca dna dba dcc dnc dbc most w1 (rcd.at H1) (rnd.at H1) (rbd.at H1) (by omega)) fun _ w2 p1 => ?_))
  obtain ⟨a2_1, xs_1, c2_1, ec_1, rfl, u2, q1⟩ := p1
  have H2 : UpG w [] w2 [[blk w.heap.size #[.slice dca d.cls.length dcc, .int .i64 d.width, .int .i64 d.start, .slice dna d.next.length dnc, .slice dba d.acc.length dbc] 25], [rowT tyEL (.slice a2_1 xs_1.length c2_1) 45 xs_1], [manyF inEL.row xs_1]] := (H1.new' u2).re rfl
  refine WL.op rfl (d_move rfl ?_)
  refine WL.op rfl (d_extract rfl rfl ?_)
  refine WL.op rfl (d_extract rfl rfl ?_)
  refine WL.op rfl (d_assign rfl ?_)
  refine WL.op rfl (d_assign rfl ?_)
  refine WL.done (X.then_code ?_)
  refine W.seq ?_
  refine W.seq ?_
  refine W.region ?_
  refine WL.op rfl (d_move rfl ?_)
  refine WL.op rfl (d_cmp (decide (ec_1 ≠ (0 : Int))) rfl rfl rfl ?_)
  refine WL.done (X.then_code ?_)
  refine W.ite (p := ec_1 ≠ (0 : Int)) rfl (fun c118 => ?_) (fun c118 => ?_)
  · skip
    refine W.seq ?_
    refine W.region ?_
    refine WL.op rfl (d_move rfl ?_)
    refine WL.op rfl (d_assign rfl ?_)
    refine WL.op rfl (d_assign rfl ?_)
    refine WL.done (X.then_code ?_)
    refine W.ret (X.then_ret (X.ret2 rfl rfl rfl ?_))
    have e1 := q1.err
    have e2 := aper_bad (d := d) (most := most) (by rw [← e1]; assumption)
    rw [e2, ← e1]
    exact ⟨(by rfl), H2.noneL⟩
  · skip
    refine W.skip (X.then_code ?_)
    refine W.seq ?_
    have hg := q1.good (by omega)
    refine W.region ?_
    refine WL.op rfl (d_move rfl ?_)
    refine WL.op rfl (d_call ok67 rfl (Ret.calls (containsEL_any a2_1 xs_1 c2_1 68 [] (fun x => !settlesB x.to) w2 (H2.rdT 1 rfl) (Inn.own (H2.hpOf 2 rfl)) ok68 (fun w' hk x hx => aperLit_any _ _ _ _ _ w' ((inEL.own (H2.hpOf 2 rfl) x hx).kept hk) (by have h9 := hg.2.2.2.to_len hx; have := rightB_iff.1 hg.1; omega) (hg.2.2.2.then_ok hg.1 hx hx))) fun _ w3 p2 => ?_))
    obtain ⟨rfl, u3⟩ := p2
    have H3 : UpG w [] w3 [[blk w.heap.size #[.slice dca d.cls.length dcc, .int .i64 d.width, .int .i64 d.start, .slice dna d.next.length dnc, .slice dba d.acc.length dbc] 25], [rowT tyEL (.slice a2_1 xs_1.length c2_1) 45 xs_1], [manyF inEL.row xs_1]] := H2.call u3
    refine WL.op rfl (d_notB rfl ?_)
    refine WL.op rfl (d_assign rfl ?_)
    refine WL.op rfl (d_assign rfl ?_)
    refine WL.done (X.then_code ?_)
    refine W.ret (X.ret2 rfl rfl rfl ?_)
    have e1 := q1.err
    have e2 := aper_good hg.1 hg.2.1 hg.2.2.1
    rw [e2, show aperE d most = 0 by rw [← e1]; omega]
    exact ⟨(by rfl), H3.noneL⟩

set_option maxRecDepth 20000 in
theorem awake18_any  (w : World) :
    Calls Try.prog 27 #[] w (Ret fun v w' => v = .bool true ∧ Upd w [] w' []) := by
  refine calls_of_W (args := []) Try.func27 rfl rfl rfl ?_
  have H0 : UpG w [] w [] := UpG.nil w
  show W _ _ _ _ [] w
  refine W.seq ?_
  refine W.region ?_
  refine WL.op rfl (d_assign rfl ?_)
  refine WL.done (X.then_code ?_)
  refine W.seq ?_
  refine W.region ?_
  refine WL.op rfl (d_call ok63 rfl (Ret.calls (swap_any  w  ) fun _ w1 p1 => ?_))
  obtain ⟨ca_1, cc_1, na_1, nc_1, ba_1, bc_1, rfl, u1⟩ := p1
  have H1 : UpG w [] w1 [[rowT (tyI .i64) (.slice ca_1 ((List.replicate 259 (0 : Int)).length) cc_1) 3 (List.replicate 259 (0 : Int))], [rowT (tyI .i64) (.slice na_1 ([(1 : Int), 0].length) nc_1) 3 [(1 : Int), 0]], [rowT tyB (.slice ba_1 ([true, false].length) bc_1) 4 [true, false]]] := (H0.new' u1).re rfl
  refine WL.op rfl (d_call ok29 rfl (Ret.calls (elements_any (⟨List.replicate 259 (0 : Int), 1, 0, [(1 : Int), 0], [true, false]⟩ : DfaD) ca_1 na_1 ba_1 cc_1 nc_1 bc_1 2 w1 (H1.rdT 0 rfl) (H1.rdT 1 rfl) (H1.rdT 2 rfl) (by decide)) fun _ w2 p2 => ?_))
  obtain ⟨a2_1, xs_1, c2_1, ec_1, rfl, u2, q1⟩ := p2
  have H2 : UpG w [] w2 [[rowT (tyI .i64) (.slice ca_1 ((List.replicate 259 (0 : Int)).length) cc_1) 3 (List.replicate 259 (0 : Int))], [rowT (tyI .i64) (.slice na_1 ([(1 : Int), 0].length) nc_1) 3 [(1 : Int), 0]], [rowT tyB (.slice ba_1 ([true, false].length) bc_1) 4 [true, false]], [rowT tyEL (.slice a2_1 xs_1.length c2_1) 45 xs_1], [manyF inEL.row xs_1]] := (H1.new' u2).re rfl
  refine WL.op rfl (d_move rfl ?_)
  refine WL.op rfl (d_extract rfl rfl ?_)
  refine WL.op rfl (d_extract rfl rfl ?_)
  refine WL.op rfl (d_assign rfl ?_)
  refine WL.op rfl (d_assign rfl ?_)
  refine WL.done (X.then_code ?_)
  refine W.seq ?_
  refine W.region ?_
  refine WL.op rfl (d_call ok63 rfl (Ret.calls (swap_any  w2  ) fun _ w3 p3 => ?_))
  obtain ⟨ca_2, cc_2, na_2, nc_2, ba_2, bc_2, rfl, u3⟩ := p3
  have H3 : UpG w [] w3 [[rowT (tyI .i64) (.slice ca_1 ((List.replicate 259 (0 : Int)).length) cc_1) 3 (List.replicate 259 (0 : Int))], [rowT (tyI .i64) (.slice na_1 ([(1 : Int), 0].length) nc_1) 3 [(1 : Int), 0]], [rowT tyB (.slice ba_1 ([true, false].length) bc_1) 4 [true, false]], [rowT tyEL (.slice a2_1 xs_1.length c2_1) 45 xs_1], [manyF inEL.row xs_1], [rowT (tyI .i64) (.slice ca_2 ((List.replicate 259 (0 : Int)).length) cc_2) 3 (List.replicate 259 (0 : Int))], [rowT (tyI .i64) (.slice na_2 ([(1 : Int), 0].length) nc_2) 3 [(1 : Int), 0]], [rowT tyB (.slice ba_2 ([true, false].length) bc_2) 4 [true, false]]] := (H2.new' u3).re rfl
  refine WL.op rfl (d_call ok30 rfl (Ret.calls (aperiodic_any (⟨List.replicate 259 (0 : Int), 1, 0, [(1 : Int), 0], [true, false]⟩ : DfaD) ca_2 na_2 ba_2 cc_2 nc_2 bc_2 2 w3 (H3.rdT 5 rfl) (H3.rdT 6 rfl) (H3.rdT 7 rfl) (by decide)) fun _ w4 p4 => ?_))
  obtain ⟨rfl, u4⟩ := p4
  have H4 : UpG w [] w4 [[rowT (tyI .i64) (.slice ca_1 ((List.replicate 259 (0 : Int)).length) cc_1) 3 (List.replicate 259 (0 : Int))], [rowT (tyI .i64) (.slice na_1 ([(1 : Int), 0].length) nc_1) 3 [(1 : Int), 0]], [rowT tyB (.slice ba_1 ([true, false].length) bc_1) 4 [true, false]], [rowT tyEL (.slice a2_1 xs_1.length c2_1) 45 xs_1], [manyF inEL.row xs_1], [rowT (tyI .i64) (.slice ca_2 ((List.replicate 259 (0 : Int)).length) cc_2) 3 (List.replicate 259 (0 : Int))], [rowT (tyI .i64) (.slice na_2 ([(1 : Int), 0].length) nc_2) 3 [(1 : Int), 0]], [rowT tyB (.slice ba_2 ([true, false].length) bc_2) 4 [true, false]]] := H3.call u4
  refine WL.op rfl (d_move rfl ?_)
  refine WL.op rfl (d_extract rfl rfl ?_)
  refine WL.op rfl (d_extract rfl rfl ?_)
  refine WL.op rfl (d_assign rfl ?_)
  refine WL.op rfl (d_assign rfl ?_)
  refine WL.done (X.then_code ?_)
  refine W.seq ?_
  have hsg := swap_get q1
  have hl2 := hsg.2.1
  have ht2 : (xs_1.getD 1 el0).to.length = 2 := by rw [hsg.2.2.2.1]; rfl
  have hE2 : ∀ x : EL, x ∈ xs_1 → x.to.length = 2 := fun x hx => (ElsP.good q1 hsg.1).2.2.2.to_len hx
  have hn2 : (xs_1.getD 1 el0).n = 2 := (RdT.len (show RdT (tyI .i64) _ (.slice (xs_1.getD 1 el0).a _ (xs_1.getD 1 el0).c) (xs_1.getD 1 el0).to from (Inn.own (H4.hpOf 4 rfl)).get el0 1 (by omega))).trans ht2
  refine W.region ?_
  refine WL.op rfl (d_move rfl ?_)
  refine WL.op rfl (d_cmp (decide (ec_1 = (0 : Int))) rfl rfl rfl ?_)
  refine WL.op rfl (d_move rfl ?_)
  refine WL.part 17 (p := ec_1 = (0 : Int)) rfl (fun g21 => ?_) (fun g21 => ?_)
  · skip
    refine WL.opG rfl rfl rfl (d_move rfl ?_)
    refine WL.opG rfl rfl rfl (d_lenS Try.underlying35 rfl ?_)
    refine WL.opG rfl rfl rfl (d_cmp (decide (((xs_1.length : Nat) : Int) = (2 : Int))) rfl rfl rfl ?_)
    refine WL.op rfl (d_pick rfl rfl ?_)
    refine WL.op rfl (d_move rfl ?_)
    refine WL.part 22 (p := ((xs_1.length : Nat) : Int) = (2 : Int)) rfl (fun g21x => ?_) (fun g21x => ?_)
    · skip
      refine WL.opG rfl rfl rfl (d_move rfl ?_)
      refine WL.opG rfl rfl rfl (t_addrN 1 (T := tyEL) rfl Try.underlying35 sz45 rfl rfl (H4.rdT 3 rfl) rfl (by omega) ?_)
      refine WL.opG rfl rfl rfl (t_fld 1 el0 (T := tyEL) rfl fld45_1 rfl rfl (H4.rdT 3 rfl) (by omega) ?_)
      refine WL.opG rfl rfl rfl (t_loadF 1 el0 (T := tyEL) rfl rfl Try.underlying9 rfl rfl (H4.rdT 3 rfl) (by omega) rfl ?_)
      refine WL.opG rfl rfl rfl (d_streq rfl rfl ?_)
      refine WL.op rfl (d_pick rfl rfl ?_)
      refine WL.op rfl (d_move rfl ?_)
      refine WL.part 29 (p := ((xs_1.getD 1 el0).text) = ⟨#[0]⟩) rfl (fun g21xx => ?_) (fun g21xx => ?_)
      · skip
        refine WL.opG rfl rfl rfl (d_move rfl ?_)
        refine WL.opG rfl rfl rfl (t_addrN 1 (T := tyEL) rfl Try.underlying35 sz45 rfl rfl (H4.rdT 3 rfl) rfl (by omega) ?_)
        refine WL.opG rfl rfl rfl (t_fld 1 el0 (T := tyEL) rfl fld45_0 rfl rfl (H4.rdT 3 rfl) (by omega) ?_)
        refine WL.opG rfl rfl rfl (t_loadF 1 el0 (T := tyEL) rfl rfl Try.underlying22 rfl rfl (H4.rdT 3 rfl) (by omega) rfl ?_)
        refine WL.opG rfl rfl rfl (d_lenS Try.underlying22 rfl ?_)
        refine WL.opG rfl rfl rfl (d_cmp (decide ((((xs_1.getD 1 el0).n : Nat) : Int) = (2 : Int))) rfl rfl rfl ?_)
        refine WL.op rfl (d_pick rfl rfl ?_)
        refine WL.op rfl (d_move rfl ?_)
        refine WL.part 37 (p := (((xs_1.getD 1 el0).n : Nat) : Int) = (2 : Int)) rfl (fun g21xxx => ?_) (fun g21xxx => ?_)
        · skip
          refine WL.opG rfl rfl rfl (d_move rfl ?_)
          refine WL.opG rfl rfl rfl (t_addrN 1 (T := tyEL) rfl Try.underlying35 sz45 rfl rfl (H4.rdT 3 rfl) rfl (by omega) ?_)
          refine WL.opG rfl rfl rfl (t_fld 1 el0 (T := tyEL) rfl fld45_0 rfl rfl (H4.rdT 3 rfl) (by omega) ?_)
          refine WL.opG rfl rfl rfl (t_loadF 1 el0 (T := tyEL) rfl rfl Try.underlying22 rfl rfl (H4.rdT 3 rfl) (by omega) rfl ?_)
          refine WL.opG rfl rfl rfl (t_addr1 0 (T := (tyI .i64)) rfl Try.underlying22 sz3 rfl rfl (show RdT (tyI .i64) w4 (.slice ((xs_1.getD 1 el0).a) ((xs_1.getD 1 el0).n) ((xs_1.getD 1 el0).c)) ((xs_1.getD 1 el0).to) from (Inn.own (H4.hpOf 4 rfl)).get el0 1 (by omega)) rfl (by omega) ?_)
          refine WL.opG rfl rfl rfl (t_load1 0 0 (T := (tyI .i64)) rfl Try.underlying3 rfl rfl (show RdT (tyI .i64) w4 (.slice ((xs_1.getD 1 el0).a) ((xs_1.getD 1 el0).n) ((xs_1.getD 1 el0).c)) ((xs_1.getD 1 el0).to) from (Inn.own (H4.hpOf 4 rfl)).get el0 1 (by omega)) (by omega) rfl ?_)
          refine WL.opG rfl rfl rfl (d_cmp (decide ((((xs_1.getD 1 el0).to).getD 0 0) = (1 : Int))) rfl rfl rfl ?_)
          refine WL.op rfl (d_pick rfl rfl ?_)
          refine WL.op rfl (d_move rfl ?_)
          refine WL.part 46 (p := (((xs_1.getD 1 el0).to).getD 0 0) = (1 : Int)) rfl (fun g21xxxx => ?_) (fun g21xxxx => ?_)
          · skip
            refine WL.opG rfl rfl rfl (d_move rfl ?_)
            refine WL.opG rfl rfl rfl (d_call ok37 rfl (Ret.calls (times_any a2_1 xs_1 c2_1 1 1 w4 (H4.rdT 3 rfl) (Inn.own (H4.hpOf 4 rfl)) (fun x hx => by rw [hE2 x hx]; decide)) fun _ w5 p5 => ?_))
            obtain ⟨rfl, u5⟩ := p5
            have H5 : UpG w [] w5 [[rowT (tyI .i64) (.slice ca_1 ((List.replicate 259 (0 : Int)).length) cc_1) 3 (List.replicate 259 (0 : Int))], [rowT (tyI .i64) (.slice na_1 ([(1 : Int), 0].length) nc_1) 3 [(1 : Int), 0]], [rowT tyB (.slice ba_1 ([true, false].length) bc_1) 4 [true, false]], [rowT tyEL (.slice a2_1 xs_1.length c2_1) 45 xs_1], [manyF inEL.row xs_1], [rowT (tyI .i64) (.slice ca_2 ((List.replicate 259 (0 : Int)).length) cc_2) 3 (List.replicate 259 (0 : Int))], [rowT (tyI .i64) (.slice na_2 ([(1 : Int), 0].length) nc_2) 3 [(1 : Int), 0]], [rowT tyB (.slice ba_2 ([true, false].length) bc_2) 4 [true, false]]] := H4.call u5
            refine WL.opG rfl rfl rfl (d_cmp (decide ((timesT (xs_1.map EL.to) 1 1) = (0 : Int))) rfl rfl rfl ?_)
            refine WL.op rfl (d_pick rfl rfl ?_)
            refine WL.op rfl (d_move rfl ?_)
            refine WL.part 51 (p := (timesT (xs_1.map EL.to) 1 1) = (0 : Int)) rfl (fun g21xxxxx => ?_) (fun g21xxxxx => ?_)
            · skip
              refine WL.opG rfl rfl rfl (d_move rfl ?_)
              refine WL.opG rfl rfl rfl (d_call ok35 rfl (Ret.calls (idempotents_any a2_1 xs_1 c2_1 w5 (H5.rdT 3 rfl) (Inn.own (H5.hpOf 4 rfl)) (fun x hx => by rw [hE2 x hx]; decide) (by omega)) fun _ w6 p6 => ?_))
              obtain ⟨a2_2, c2_2, rfl, u6⟩ := p6
              have H6 : UpG w [] w6 [[rowT (tyI .i64) (.slice ca_1 ((List.replicate 259 (0 : Int)).length) cc_1) 3 (List.replicate 259 (0 : Int))], [rowT (tyI .i64) (.slice na_1 ([(1 : Int), 0].length) nc_1) 3 [(1 : Int), 0]], [rowT tyB (.slice ba_1 ([true, false].length) bc_1) 4 [true, false]], [rowT tyEL (.slice a2_1 xs_1.length c2_1) 45 xs_1], [manyF inEL.row xs_1], [rowT (tyI .i64) (.slice ca_2 ((List.replicate 259 (0 : Int)).length) cc_2) 3 (List.replicate 259 (0 : Int))], [rowT (tyI .i64) (.slice na_2 ([(1 : Int), 0].length) nc_2) 3 [(1 : Int), 0]], [rowT tyB (.slice ba_2 ([true, false].length) bc_2) 4 [true, false]], [rowT (tyI .i64) (.slice a2_2 ((idemT (xs_1.map EL.to)).length) c2_2) 3 (idemT (xs_1.map EL.to))]] := (H5.new' u6).re rfl
              refine WL.opG rfl rfl rfl (d_lenS Try.underlying22 rfl ?_)
              refine WL.opG rfl rfl rfl (d_cmp (decide ((((idemT (xs_1.map EL.to)).length : Nat) : Int) = (1 : Int))) rfl rfl rfl ?_)
              refine WL.op rfl (d_pick rfl rfl ?_)
              refine WL.op rfl (d_move rfl ?_)
              refine WL.part 57 (p := (((idemT (xs_1.map EL.to)).length : Nat) : Int) = (1 : Int)) rfl (fun g21xxxxxx => ?_) (fun g21xxxxxx => ?_)
              · skip
                refine WL.opG rfl rfl rfl (d_move rfl ?_)
                refine WL.opG rfl rfl rfl (d_notB rfl ?_)
                refine WL.op rfl (d_pick rfl rfl ?_)
                refine WL.op rfl (d_move rfl ?_)
                refine WL.partB 61 (b := !(aperB (⟨List.replicate 259 (0 : Int), 1, 0, [(1 : Int), 0], [true, false]⟩ : DfaD) 2)) rfl (fun g21xxxxxxx => ?_) (fun g21xxxxxxx => ?_)
                · skip
                  refine WL.opG rfl rfl rfl (d_move rfl ?_)
                  refine WL.opG rfl rfl rfl (d_cmp (decide ((aperE (⟨List.replicate 259 (0 : Int), 1, 0, [(1 : Int), 0], [true, false]⟩ : DfaD) 2) = (0 : Int))) rfl rfl rfl ?_)
                  refine WL.op rfl (d_pick rfl rfl ?_)
                  refine WL.op rfl (d_assign rfl ?_)
                  refine WL.done (X.then_code ?_)
                  refine W.pick [0] (Γ' := [(0, .bool (decide ((aperE (⟨List.replicate 259 (0 : Int), 1, 0, [(1 : Int), 0], [true, false]⟩ : DfaD) 2) = (0 : Int))))]) rfl ?_
                  refine W.ret (X.ret1 rfl rfl ?_)
                  exact ⟨(by exact congrArg Value.bool (decide_eq_true swap_aper2)), H6.noneL⟩
                · skip
                  exact absurd (by rw [swap_aper1]; rfl) g21xxxxxxx
              · skip
                exact absurd (by rw [hsg.2.2.2.2]; exact congrArg Nat.cast swap_idem) g21xxxxxx
            · skip
              exact absurd (by rw [hsg.2.2.2.2]; exact swap_times) g21xxxxx
          · skip
            exact absurd (by rw [hsg.2.2.2.1]; rfl) g21xxxx
        · skip
          exact absurd (by omega) g21xxx
      · skip
        exact absurd hsg.2.2.1 g21xx
    · skip
      exact absurd (by omega) g21x
  · skip
    exact absurd hsg.1 g21
end Go.Proofs.Ytoeockpkkmgieaa
