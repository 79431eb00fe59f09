/- The walks of functions, printed by wip/tools/gw.py. -/
import Derived.Test.YtoeockpkkmgieaaF2
import Derived.Test.YtoeockpkkmgieaaSx7
import Derived.Test.YtoeockpkkmgieaaT1
import Derived.Test.YtoeockpkkmgieaaL2
namespace Go.Proofs.Ytoeockpkkmgieaa
open Go Go.Sx
set_option linter.unusedVariables false
set_option linter.unusedSimpArgs false
set_option maxRecDepth 20000 in
theorem small_any (d : DfaD) (dca : Option Addr) (dna : Option Addr) (dba : Option Addr) (dcc : Nat) (dnc : Nat) (dbc : Nat) (w : World) (rcd : RdT (tyI .i64) w (.slice dca d.cls.length dcc) d.cls) (rnd : RdT (tyI .i64) w (.slice dna d.next.length dnc) d.next) (rbd : RdT tyB w (.slice dba d.acc.length dbc) d.acc) :
    Calls Try.prog 17 #[.agg #[.slice dca d.cls.length dcc, .int .i64 d.width, .int .i64 d.start, .slice dna d.next.length dnc, .slice dba d.acc.length dbc]] w (Ret fun v w' => v = .bool (smallB d) ∧ Upd w [] w' []) := by
  have le_rcd := rcd.le
  have le_rnd := rnd.le
  have le_rbd := rbd.le
  refine calls_of_W (args := [.agg #[.slice dca d.cls.length dcc, .int .i64 d.width, .int .i64 d.start, .slice dna d.next.length dnc, .slice dba d.acc.length dbc]]) Try.func17 rfl rfl rfl ?_
  have H0 : UpG w [] w [] := UpG.nil w
  show W _ _ _ _ [(0, .agg #[.slice dca d.cls.length dcc, .int .i64 d.width, .int .i64 d.start, .slice dna d.next.length dnc, .slice dba d.acc.length dbc])] w
  refine W.seq ?_
  refine W.region ?_
  refine WL.op rfl (d_box rfl fun w1 u1 => ?_)
  have H1 : UpG w [] w1 [[blk w.heap.size #[.slice dca d.cls.length dcc, .int .i64 d.width, .int .i64 d.start, .slice dna d.next.length dnc, .slice dba d.acc.length dbc] 25]] := H0.new' u1
  refine WL.op rfl (d_assign rfl ?_)
  refine WL.done (X.then_code ?_)
  refine W.seq ?_
  refine W.region ?_
  refine WL.op rfl (d_fieldAddrB fld25_4 rfl rfl ?_)
  refine WL.op rfl (d_loadB Try.underlying23 rfl rfl (H1.blk 0 rfl) rfl ?_)
  refine WL.op rfl (d_lenS Try.underlying23 rfl ?_)
  refine WL.op rfl (d_cmp (decide (((d.acc.length : Nat) : Int) ≤ (12 : Int))) rfl rfl rfl ?_)
  refine WL.op rfl (d_move rfl ?_)
  refine WL.part 7 (p := ((d.acc.length : Nat) : Int) ≤ (12 : Int)) rfl (fun g21 => ?_) (fun g21 => ?_)
  · skip
    refine WL.opG rfl rfl rfl (d_fieldAddrB fld25_3 rfl rfl ?_)
    refine WL.opG rfl rfl rfl (d_loadB Try.underlying22 rfl rfl (H1.blk 0 rfl) rfl ?_)
    refine WL.opG rfl rfl rfl (d_lenS Try.underlying22 rfl ?_)
    refine WL.opG rfl rfl rfl (d_cmp (decide (((d.next.length : Nat) : Int) ≤ (4000 : Int))) rfl rfl rfl ?_)
    refine WL.op rfl (d_pick rfl rfl ?_)
    refine WL.op rfl (d_move rfl ?_)
    refine WL.part 13 (p := ((d.next.length : Nat) : Int) ≤ (4000 : Int)) rfl (fun g21x => ?_) (fun g21x => ?_)
    · skip
      refine WL.opG rfl rfl rfl (d_fieldAddrB fld25_0 rfl rfl ?_)
      refine WL.opG rfl rfl rfl (d_loadB Try.underlying22 rfl rfl (H1.blk 0 rfl) rfl ?_)
      refine WL.opG rfl rfl rfl (d_lenS Try.underlying22 rfl ?_)
      refine WL.opG rfl rfl rfl (d_cmp (decide (((d.cls.length : Nat) : Int) ≤ (300 : Int))) rfl rfl rfl ?_)
      refine WL.op rfl (d_pick rfl rfl ?_)
      refine WL.op rfl (d_assign rfl ?_)
      refine WL.done (X.then_code ?_)
      refine W.pick [2] (Γ' := [(2, .bool (decide (((d.cls.length : Nat) : Int) ≤ (300 : Int))))]) rfl ?_
      refine W.ret (X.ret1 rfl rfl ?_)
      exact ⟨(by first | exact congrArg Value.bool (decide_eq_decide.2 (by omega)) | exact congrArg Value.bool (Eq.symm (decide_eq_false (by omega)))), H1.noneL⟩
    · skip
      refine WL.opN rfl rfl rfl rfl ?_
      refine WL.opN rfl rfl rfl rfl ?_
      refine WL.opN rfl rfl rfl rfl ?_
      refine WL.opN rfl rfl rfl rfl ?_
      refine WL.op rfl (d_pick rfl rfl ?_)
      refine WL.op rfl (d_assign rfl ?_)
      refine WL.done (X.then_code ?_)
      refine W.pick [2] (Γ' := [(2, .bool false)]) rfl ?_
      refine W.ret (X.ret1 rfl rfl ?_)
      exact ⟨(by first | exact congrArg Value.bool (decide_eq_decide.2 (by omega)) | exact congrArg Value.bool (Eq.symm (decide_eq_false (by omega)))), H1.noneL⟩
  · skip
    refine WL.opN rfl rfl rfl rfl ?_
    refine WL.opN rfl rfl rfl rfl ?_
    refine WL.opN rfl rfl rfl rfl ?_
    refine WL.opN rfl rfl rfl rfl ?_
    refine WL.op rfl (d_pick rfl rfl ?_)
    refine WL.op rfl (d_move rfl ?_)
    refine WL.opN rfl rfl rfl rfl ?_
    refine WL.opN rfl rfl rfl rfl ?_
    refine WL.opN rfl rfl rfl rfl ?_
    refine WL.opN rfl rfl rfl rfl ?_
    refine WL.op rfl (d_pick rfl rfl ?_)
    refine WL.op rfl (d_assign rfl ?_)
    refine WL.done (X.then_code ?_)
    refine W.pick [2] (Γ' := [(2, .bool false)]) rfl ?_
    refine W.ret (X.ret1 rfl rfl ?_)
    exact ⟨(by first | exact congrArg Value.bool (decide_eq_decide.2 (by omega)) | exact congrArg Value.bool (Eq.symm (decide_eq_false (by omega)))), H1.noneL⟩

set_option maxRecDepth 20000 in
theorem refRight_any (d : DfaD) (dca : Option Addr) (dna : Option Addr) (dba : Option Addr) (dcc : Nat) (dnc : Nat) (dbc : Nat) (w : World) (rcd : RdT (tyI .i64) w (.slice dca d.cls.length dcc) d.cls) (rnd : RdT (tyI .i64) w (.slice dna d.next.length dnc) d.next) (rbd : RdT tyB w (.slice dba d.acc.length dbc) d.acc) :
    Calls Try.prog 20 #[.agg #[.slice dca d.cls.length dcc, .int .i64 d.width, .int .i64 d.start, .slice dna d.next.length dnc, .slice dba d.acc.length dbc]] w (Ret fun v w' => v = .bool (rightB d) ∧ Upd w [] w' []) := by
  have le_rcd := rcd.le
  have le_rnd := rnd.le
  have le_rbd := rbd.le
  refine calls_of_W (args := [.agg #[.slice dca d.cls.length dcc, .int .i64 d.width, .int .i64 d.start, .slice dna d.next.length dnc, .slice dba d.acc.length dbc]]) Try.func20 rfl rfl rfl ?_
  have H0 : UpG w [] w [] := UpG.nil w
  show W _ _ _ _ [(0, .agg #[.slice dca d.cls.length dcc, .int .i64 d.width, .int .i64 d.start, .slice dna d.next.length dnc, .slice dba d.acc.length dbc])] w
  refine W.seq ?_
  refine W.region ?_
  refine WL.op rfl (d_box rfl fun w1 u1 => ?_)
  have H1 : UpG w [] w1 [[blk w.heap.size #[.slice dca d.cls.length dcc, .int .i64 d.width, .int .i64 d.start, .slice dna d.next.length dnc, .slice dba d.acc.length dbc] 25]] := H0.new' u1
  refine WL.op rfl (d_assign rfl ?_)
  refine WL.done (X.then_code ?_)
  refine W.seq ?_
  refine W.region ?_
  refine WL.op rfl (d_fieldAddrB fld25_4 rfl rfl ?_)
  refine WL.op rfl (d_loadB Try.underlying23 rfl rfl (H1.blk 0 rfl) rfl ?_)
  refine WL.op rfl (d_lenS Try.underlying23 rfl ?_)
  refine WL.op rfl (d_assign rfl ?_)
  refine WL.done (X.then_code ?_)
  refine W.seq ?_
  refine W.seq ?_
  refine W.region ?_
  refine WL.op rfl (d_fieldAddrB fld25_0 rfl rfl ?_)
  refine WL.op rfl (d_loadB Try.underlying22 rfl rfl (H1.blk 0 rfl) rfl ?_)
  refine WL.op rfl (d_lenS Try.underlying22 rfl ?_)
  refine WL.op rfl (d_cmp (decide (((d.cls.length : Nat) : Int) ≠ (259 : Int))) rfl rfl rfl ?_)
  refine WL.op rfl (d_move rfl ?_)
  refine WL.part 13 (p := ((d.cls.length : Nat) : Int) ≠ (259 : Int)) rfl (fun g9 => ?_) (fun g9 => ?_)
  · skip
    refine WL.opN rfl rfl rfl rfl ?_
    refine WL.opN rfl rfl rfl rfl ?_
    refine WL.opN rfl rfl rfl rfl ?_
    refine WL.op rfl (d_pick rfl rfl ?_)
    refine WL.op rfl (d_move rfl ?_)
    refine WL.opN rfl rfl rfl rfl ?_
    refine WL.opN rfl rfl rfl rfl ?_
    refine WL.opN rfl rfl rfl rfl ?_
    refine WL.op rfl (d_pick rfl rfl ?_)
    refine WL.op rfl (d_move rfl ?_)
    refine WL.opN rfl rfl rfl rfl ?_
    refine WL.opN rfl rfl rfl rfl ?_
    refine WL.op rfl (d_pick rfl rfl ?_)
    refine WL.op rfl (d_move rfl ?_)
    refine WL.opN rfl rfl rfl rfl ?_
    refine WL.opN rfl rfl rfl rfl ?_
    refine WL.op rfl (d_pick rfl rfl ?_)
    refine WL.op rfl (d_move rfl ?_)
    refine WL.opN rfl rfl rfl rfl ?_
    refine WL.opN rfl rfl rfl rfl ?_
    refine WL.opN rfl rfl rfl rfl ?_
    refine WL.opN rfl rfl rfl rfl ?_
    refine WL.opN rfl rfl rfl rfl ?_
    refine WL.opN rfl rfl rfl rfl ?_
    refine WL.opN rfl rfl rfl rfl ?_
    refine WL.opN rfl rfl rfl rfl ?_
    refine WL.op rfl (d_pick rfl rfl ?_)
    refine WL.op rfl (d_move rfl ?_)
    refine WL.opN rfl rfl rfl rfl ?_
    refine WL.opN rfl rfl rfl rfl ?_
    refine WL.opN rfl rfl rfl rfl ?_
    refine WL.op rfl (d_pick rfl rfl ?_)
    refine WL.op rfl (d_move rfl ?_)
    refine WL.opN rfl rfl rfl rfl ?_
    refine WL.opN rfl rfl rfl rfl ?_
    refine WL.opN rfl rfl rfl rfl ?_
    refine WL.opN rfl rfl rfl rfl ?_
    refine WL.op rfl (d_pick rfl rfl ?_)
    refine WL.done (X.then_code ?_)
    refine W.pick [51, 3, 2, 1] (Γ' := [(51, .bool true), (3, .int .i64 ((d.acc.length : Nat) : Int)), (2, .bool false), (1, .pointer (some ⟨w.heap.size, 0, none⟩))]) rfl ?_
    refine W.ift rfl ?_
    refine W.seq ?_
    refine W.region ?_
    refine WL.op rfl (d_assign rfl ?_)
    refine WL.done (X.then_code ?_)
    refine W.ret (X.then_ret (X.ret1 rfl rfl ?_))
    have h : rightB d = false := (Bool.eq_false_iff).2 (fun hb => by have h9 := rightB_iff.1 hb; omega)
    exact ⟨(by rw [h]), H1.noneL⟩
  · skip
    refine WL.opG rfl rfl rfl (d_fieldAddrB fld25_1 rfl rfl ?_)
    refine WL.opG rfl rfl rfl (d_loadB Try.underlying3 rfl rfl (H1.blk 0 rfl) rfl ?_)
    refine WL.opG rfl rfl rfl (d_cmp (decide (d.width < (1 : Int))) rfl rfl rfl ?_)
    refine WL.op rfl (d_pick rfl rfl ?_)
    refine WL.op rfl (d_move rfl ?_)
    refine WL.part 18 (p := d.width < (1 : Int)) rfl (fun g9x => ?_) (fun g9x => ?_)
    · skip
      refine WL.opN rfl rfl rfl rfl ?_
      refine WL.opN rfl rfl rfl rfl ?_
      refine WL.opN rfl rfl rfl rfl ?_
      refine WL.op rfl (d_pick rfl rfl ?_)
      refine WL.op rfl (d_move rfl ?_)
      refine WL.opN rfl rfl rfl rfl ?_
      refine WL.opN rfl rfl rfl rfl ?_
      refine WL.op rfl (d_pick rfl rfl ?_)
      refine WL.op rfl (d_move rfl ?_)
      refine WL.opN rfl rfl rfl rfl ?_
      refine WL.opN rfl rfl rfl rfl ?_
      refine WL.op rfl (d_pick rfl rfl ?_)
      refine WL.op rfl (d_move rfl ?_)
      refine WL.opN rfl rfl rfl rfl ?_
      refine WL.opN rfl rfl rfl rfl ?_
      refine WL.opN rfl rfl rfl rfl ?_
      refine WL.opN rfl rfl rfl rfl ?_
      refine WL.opN rfl rfl rfl rfl ?_
      refine WL.opN rfl rfl rfl rfl ?_
      refine WL.opN rfl rfl rfl rfl ?_
      refine WL.opN rfl rfl rfl rfl ?_
      refine WL.op rfl (d_pick rfl rfl ?_)
      refine WL.op rfl (d_move rfl ?_)
      refine WL.opN rfl rfl rfl rfl ?_
      refine WL.opN rfl rfl rfl rfl ?_
      refine WL.opN rfl rfl rfl rfl ?_
      refine WL.op rfl (d_pick rfl rfl ?_)
      refine WL.op rfl (d_move rfl ?_)
      refine WL.opN rfl rfl rfl rfl ?_
      refine WL.opN rfl rfl rfl rfl ?_
      refine WL.opN rfl rfl rfl rfl ?_
      refine WL.opN rfl rfl rfl rfl ?_
      refine WL.op rfl (d_pick rfl rfl ?_)
      refine WL.done (X.then_code ?_)
      refine W.pick [51, 3, 2, 1] (Γ' := [(51, .bool true), (3, .int .i64 ((d.acc.length : Nat) : Int)), (2, .bool false), (1, .pointer (some ⟨w.heap.size, 0, none⟩))]) rfl ?_
      refine W.ift rfl ?_
      refine W.seq ?_
      refine W.region ?_
      refine WL.op rfl (d_assign rfl ?_)
      refine WL.done (X.then_code ?_)
      refine W.ret (X.then_ret (X.ret1 rfl rfl ?_))
      have h : rightB d = false := (Bool.eq_false_iff).2 (fun hb => by have h9 := rightB_iff.1 hb; omega)
      exact ⟨(by rw [h]), H1.noneL⟩
    · skip
      refine WL.opG rfl rfl rfl (d_fieldAddrB fld25_1 rfl rfl ?_)
      refine WL.opG rfl rfl rfl (d_loadB Try.underlying3 rfl rfl (H1.blk 0 rfl) rfl ?_)
      refine WL.opG rfl rfl rfl (d_cmp (decide (d.width > (259 : Int))) rfl rfl rfl ?_)
      refine WL.op rfl (d_pick rfl rfl ?_)
      refine WL.op rfl (d_move rfl ?_)
      refine WL.part 23 (p := d.width > (259 : Int)) rfl (fun g9xx => ?_) (fun g9xx => ?_)
      · skip
        refine WL.opN rfl rfl rfl rfl ?_
        refine WL.opN rfl rfl rfl rfl ?_
        refine WL.op rfl (d_pick rfl rfl ?_)
        refine WL.op rfl (d_move rfl ?_)
        refine WL.opN rfl rfl rfl rfl ?_
        refine WL.opN rfl rfl rfl rfl ?_
        refine WL.op rfl (d_pick rfl rfl ?_)
        refine WL.op rfl (d_move rfl ?_)
        refine WL.opN rfl rfl rfl rfl ?_
        refine WL.opN rfl rfl rfl rfl ?_
        refine WL.opN rfl rfl rfl rfl ?_
        refine WL.opN rfl rfl rfl rfl ?_
        refine WL.opN rfl rfl rfl rfl ?_
        refine WL.opN rfl rfl rfl rfl ?_
        refine WL.opN rfl rfl rfl rfl ?_
        refine WL.opN rfl rfl rfl rfl ?_
        refine WL.op rfl (d_pick rfl rfl ?_)
        refine WL.op rfl (d_move rfl ?_)
        refine WL.opN rfl rfl rfl rfl ?_
        refine WL.opN rfl rfl rfl rfl ?_
        refine WL.opN rfl rfl rfl rfl ?_
        refine WL.op rfl (d_pick rfl rfl ?_)
        refine WL.op rfl (d_move rfl ?_)
        refine WL.opN rfl rfl rfl rfl ?_
        refine WL.opN rfl rfl rfl rfl ?_
        refine WL.opN rfl rfl rfl rfl ?_
        refine WL.opN rfl rfl rfl rfl ?_
        refine WL.op rfl (d_pick rfl rfl ?_)
        refine WL.done (X.then_code ?_)
        refine W.pick [51, 3, 2, 1] (Γ' := [(51, .bool true), (3, .int .i64 ((d.acc.length : Nat) : Int)), (2, .bool false), (1, .pointer (some ⟨w.heap.size, 0, none⟩))]) rfl ?_
        refine W.ift rfl ?_
        refine W.seq ?_
        refine W.region ?_
        refine WL.op rfl (d_assign rfl ?_)
        refine WL.done (X.then_code ?_)
        refine W.ret (X.then_ret (X.ret1 rfl rfl ?_))
        have h : rightB d = false := (Bool.eq_false_iff).2 (fun hb => by have h9 := rightB_iff.1 hb; omega)
        exact ⟨(by rw [h]), H1.noneL⟩
      · skip
        refine WL.opG rfl rfl rfl (d_move rfl ?_)
        refine WL.opG rfl rfl rfl (d_cmp (decide (((d.acc.length : Nat) : Int) < (1 : Int))) rfl rfl rfl ?_)
        refine WL.op rfl (d_pick rfl rfl ?_)
        refine WL.op rfl (d_move rfl ?_)
        refine WL.part 27 (p := ((d.acc.length : Nat) : Int) < (1 : Int)) rfl (fun g9xxx => ?_) (fun g9xxx => ?_)
        · skip
          refine WL.opN rfl rfl rfl rfl ?_
          refine WL.opN rfl rfl rfl rfl ?_
          refine WL.op rfl (d_pick rfl rfl ?_)
          refine WL.op rfl (d_move rfl ?_)
          refine WL.opN rfl rfl rfl rfl ?_
          refine WL.opN rfl rfl rfl rfl ?_
          refine WL.opN rfl rfl rfl rfl ?_
          refine WL.opN rfl rfl rfl rfl ?_
          refine WL.opN rfl rfl rfl rfl ?_
          refine WL.opN rfl rfl rfl rfl ?_
          refine WL.opN rfl rfl rfl rfl ?_
          refine WL.opN rfl rfl rfl rfl ?_
          refine WL.op rfl (d_pick rfl rfl ?_)
          refine WL.op rfl (d_move rfl ?_)
          refine WL.opN rfl rfl rfl rfl ?_
          refine WL.opN rfl rfl rfl rfl ?_
          refine WL.opN rfl rfl rfl rfl ?_
          refine WL.op rfl (d_pick rfl rfl ?_)
          refine WL.op rfl (d_move rfl ?_)
          refine WL.opN rfl rfl rfl rfl ?_
          refine WL.opN rfl rfl rfl rfl ?_
          refine WL.opN rfl rfl rfl rfl ?_
          refine WL.opN rfl rfl rfl rfl ?_
          refine WL.op rfl (d_pick rfl rfl ?_)
          refine WL.done (X.then_code ?_)
          refine W.pick [51, 3, 2, 1] (Γ' := [(51, .bool true), (3, .int .i64 ((d.acc.length : Nat) : Int)), (2, .bool false), (1, .pointer (some ⟨w.heap.size, 0, none⟩))]) rfl ?_
          refine W.ift rfl ?_
          refine W.seq ?_
          refine W.region ?_
          refine WL.op rfl (d_assign rfl ?_)
          refine WL.done (X.then_code ?_)
          refine W.ret (X.then_ret (X.ret1 rfl rfl ?_))
          have h : rightB d = false := (Bool.eq_false_iff).2 (fun hb => by have h9 := rightB_iff.1 hb; omega)
          exact ⟨(by rw [h]), H1.noneL⟩
        · skip
          refine WL.opG rfl rfl rfl (d_move rfl ?_)
          refine WL.opG rfl rfl rfl (d_cmp (decide (((d.acc.length : Nat) : Int) > (4096 : Int))) rfl rfl rfl ?_)
          refine WL.op rfl (d_pick rfl rfl ?_)
          refine WL.op rfl (d_move rfl ?_)
          refine WL.part 31 (p := ((d.acc.length : Nat) : Int) > (4096 : Int)) rfl (fun g9xxxx => ?_) (fun g9xxxx => ?_)
          · skip
            refine WL.opN rfl rfl rfl rfl ?_
            refine WL.opN rfl rfl rfl rfl ?_
            refine WL.opN rfl rfl rfl rfl ?_
            refine WL.opN rfl rfl rfl rfl ?_
            refine WL.opN rfl rfl rfl rfl ?_
            refine WL.opN rfl rfl rfl rfl ?_
            refine WL.opN rfl rfl rfl rfl ?_
            refine WL.opN rfl rfl rfl rfl ?_
            refine WL.op rfl (d_pick rfl rfl ?_)
            refine WL.op rfl (d_move rfl ?_)
            refine WL.opN rfl rfl rfl rfl ?_
            refine WL.opN rfl rfl rfl rfl ?_
            refine WL.opN rfl rfl rfl rfl ?_
            refine WL.op rfl (d_pick rfl rfl ?_)
            refine WL.op rfl (d_move rfl ?_)
            refine WL.opN rfl rfl rfl rfl ?_
            refine WL.opN rfl rfl rfl rfl ?_
            refine WL.opN rfl rfl rfl rfl ?_
            refine WL.opN rfl rfl rfl rfl ?_
            refine WL.op rfl (d_pick rfl rfl ?_)
            refine WL.done (X.then_code ?_)
            refine W.pick [51, 3, 2, 1] (Γ' := [(51, .bool true), (3, .int .i64 ((d.acc.length : Nat) : Int)), (2, .bool false), (1, .pointer (some ⟨w.heap.size, 0, none⟩))]) rfl ?_
            refine W.ift rfl ?_
            refine W.seq ?_
            refine W.region ?_
            refine WL.op rfl (d_assign rfl ?_)
            refine WL.done (X.then_code ?_)
            refine W.ret (X.then_ret (X.ret1 rfl rfl ?_))
            have h : rightB d = false := (Bool.eq_false_iff).2 (fun hb => by have h9 := rightB_iff.1 hb; omega)
            exact ⟨(by rw [h]), H1.noneL⟩
          · skip
            refine WL.opG rfl rfl rfl (d_fieldAddrB fld25_3 rfl rfl ?_)
            refine WL.opG rfl rfl rfl (d_loadB Try.underlying22 rfl rfl (H1.blk 0 rfl) rfl ?_)
            refine WL.opG rfl rfl rfl (d_lenS Try.underlying22 rfl ?_)
            refine WL.opG rfl rfl rfl (d_move rfl ?_)
            refine WL.opG rfl rfl rfl (d_fieldAddrB fld25_1 rfl rfl ?_)
            refine WL.opG rfl rfl rfl (d_loadB Try.underlying3 rfl rfl (H1.blk 0 rfl) rfl ?_)
            refine WL.opG rfl rfl rfl (d_mul rfl rfl (by have := mul_bd (a := (d.acc.length : Int)) (b := d.width) (A := 4096) (B := 259) (by omega) (by omega) (by omega) (by omega); omega) (by have := mul_bd (a := (d.acc.length : Int)) (b := d.width) (A := 4096) (B := 259) (by omega) (by omega) (by omega) (by omega); omega) ?_)
            refine WL.opG rfl rfl rfl (d_cmp (decide (((d.next.length : Nat) : Int) ≠ (((d.acc.length : Nat) : Int) * d.width))) rfl rfl rfl ?_)
            refine WL.op rfl (d_pick rfl rfl ?_)
            refine WL.op rfl (d_move rfl ?_)
            refine WL.part 41 (p := ((d.next.length : Nat) : Int) ≠ (((d.acc.length : Nat) : Int) * d.width)) rfl (fun g9xxxxx => ?_) (fun g9xxxxx => ?_)
            · skip
              refine WL.opN rfl rfl rfl rfl ?_
              refine WL.opN rfl rfl rfl rfl ?_
              refine WL.opN rfl rfl rfl rfl ?_
              refine WL.op rfl (d_pick rfl rfl ?_)
              refine WL.op rfl (d_move rfl ?_)
              refine WL.opN rfl rfl rfl rfl ?_
              refine WL.opN rfl rfl rfl rfl ?_
              refine WL.opN rfl rfl rfl rfl ?_
              refine WL.opN rfl rfl rfl rfl ?_
              refine WL.op rfl (d_pick rfl rfl ?_)
              refine WL.done (X.then_code ?_)
              refine W.pick [51, 3, 2, 1] (Γ' := [(51, .bool true), (3, .int .i64 ((d.acc.length : Nat) : Int)), (2, .bool false), (1, .pointer (some ⟨w.heap.size, 0, none⟩))]) rfl ?_
              refine W.ift rfl ?_
              refine W.seq ?_
              refine W.region ?_
              refine WL.op rfl (d_assign rfl ?_)
              refine WL.done (X.then_code ?_)
              refine W.ret (X.then_ret (X.ret1 rfl rfl ?_))
              have h : rightB d = false := (Bool.eq_false_iff).2 (fun hb => by have h9 := rightB_iff.1 hb; omega)
              exact ⟨(by rw [h]), H1.noneL⟩
            · skip
              refine WL.opG rfl rfl rfl (d_fieldAddrB fld25_2 rfl rfl ?_)
              refine WL.opG rfl rfl rfl (d_loadB Try.underlying3 rfl rfl (H1.blk 0 rfl) rfl ?_)
              refine WL.opG rfl rfl rfl (d_cmp (decide (d.start < (0 : Int))) rfl rfl rfl ?_)
              refine WL.op rfl (d_pick rfl rfl ?_)
              refine WL.op rfl (d_move rfl ?_)
              refine WL.part 46 (p := d.start < (0 : Int)) rfl (fun g9xxxxxx => ?_) (fun g9xxxxxx => ?_)
              · skip
                refine WL.opN rfl rfl rfl rfl ?_
                refine WL.opN rfl rfl rfl rfl ?_
                refine WL.opN rfl rfl rfl rfl ?_
                refine WL.opN rfl rfl rfl rfl ?_
                refine WL.op rfl (d_pick rfl rfl ?_)
                refine WL.done (X.then_code ?_)
                refine W.pick [51, 3, 2, 1] (Γ' := [(51, .bool true), (3, .int .i64 ((d.acc.length : Nat) : Int)), (2, .bool false), (1, .pointer (some ⟨w.heap.size, 0, none⟩))]) rfl ?_
                refine W.ift rfl ?_
                refine W.seq ?_
                refine W.region ?_
                refine WL.op rfl (d_assign rfl ?_)
                refine WL.done (X.then_code ?_)
                refine W.ret (X.then_ret (X.ret1 rfl rfl ?_))
                have h : rightB d = false := (Bool.eq_false_iff).2 (fun hb => by have h9 := rightB_iff.1 hb; omega)
                exact ⟨(by rw [h]), H1.noneL⟩
              · skip
                refine WL.opG rfl rfl rfl (d_fieldAddrB fld25_2 rfl rfl ?_)
                refine WL.opG rfl rfl rfl (d_loadB Try.underlying3 rfl rfl (H1.blk 0 rfl) rfl ?_)
                refine WL.opG rfl rfl rfl (d_move rfl ?_)
                refine WL.opG rfl rfl rfl (d_cmp (decide (d.start ≥ ((d.acc.length : Nat) : Int))) rfl rfl rfl ?_)
                refine WL.op rfl (d_pick rfl rfl ?_)
                refine WL.done (X.then_code ?_)
                refine W.pick [51, 3, 2, 1] (Γ' := [(51, .bool (decide (d.start ≥ ((d.acc.length : Nat) : Int)))), (3, .int .i64 ((d.acc.length : Nat) : Int)), (2, .bool false), (1, .pointer (some ⟨w.heap.size, 0, none⟩))]) rfl ?_
                refine W.ite (p := d.start ≥ ((d.acc.length : Nat) : Int)) rfl (fun c9 => ?_) (fun c9 => ?_)
                · skip
                  refine W.seq ?_
                  refine W.region ?_
                  refine WL.op rfl (d_assign rfl ?_)
                  refine WL.done (X.then_code ?_)
                  refine W.ret (X.then_ret (X.ret1 rfl rfl ?_))
                  have h : rightB d = false := (Bool.eq_false_iff).2 (fun hb => by have h9 := rightB_iff.1 hb; omega)
                  exact ⟨(by rw [h]), H1.noneL⟩
                · skip
                  refine W.skip (X.then_code ?_)
                  refine W.seq ?_
                  refine W.seq ?_
                  refine W.region ?_
                  refine WL.op rfl (d_assign rfl ?_)
                  refine WL.done (X.then_code ?_)
                  refine W.block ?_
                  refine W.pick [4, 3, 2, 1] (Γ' := [(4, .int .i64 0), (3, .int .i64 ((d.acc.length : Nat) : Int)), (2, .bool false), (1, .pointer (some ⟨w.heap.size, 0, none⟩))]) rfl ?_
                  refine W.loop (fun m Γ' w' => ∃ k : Nat, Γ' = [(4, .int .i64 ((k : Nat) : Int)), (3, .int .i64 ((d.acc.length : Nat) : Int)), (2, .bool false), (1, .pointer (some ⟨w.heap.size, 0, none⟩))] ∧ UpG w [] w' [[blk w.heap.size #[.slice dca d.cls.length dcc, .int .i64 d.width, .int .i64 d.start, .slice dna d.next.length dnc, .slice dba d.acc.length dbc] 25]] ∧ (k ≤ d.cls.length) ∧ (∀ i, i < k → 0 ≤ d.cls.getD i 0 ∧ d.cls.getD i 0 < d.width) ∧ m = d.cls.length - k) (d.cls.length - 0) ⟨0, rfl, H1, (by first | assumption | omega | simp), (by intro i hi; omega), rfl⟩ ?_
                  rintro m1 Γ1 w2 ⟨k, rfl, H2, hk, hc, rfl⟩
                  refine W.seq ?_
                  refine W.seq ?_
                  refine W.region ?_
                  refine WL.op rfl (d_move rfl ?_)
                  refine WL.op rfl (d_fieldAddrB fld25_0 rfl rfl ?_)
                  refine WL.op rfl (d_loadB Try.underlying22 rfl rfl (H2.blk 0 rfl) rfl ?_)
                  refine WL.op rfl (d_lenS Try.underlying22 rfl ?_)
                  refine WL.op rfl (d_cmp (decide (((k : Nat) : Int) < ((d.cls.length : Nat) : Int))) rfl rfl rfl ?_)
                  refine WL.done (X.then_code ?_)
                  refine W.ite (p := ((k : Nat) : Int) < ((d.cls.length : Nat) : Int)) rfl (fun c12 => ?_) (fun c12 => ?_)
                  · skip
                    refine W.skip (X.then_code ?_)
                    refine W.seq ?_
                    refine W.block ?_
                    refine W.seq ?_
                    refine W.regionD mixed (by kernel_rfl) fun hok1 w3 k1 => ?_
                    have H3 : UpG w [] w3 [[blk w.heap.size #[.slice dca d.cls.length dcc, .int .i64 d.width, .int .i64 d.start, .slice dna d.next.length dnc, .slice dba d.acc.length dbc] 25]] := H2.kept k1
                    refine WD.take hok1 0 (.pointer (some ⟨w.heap.size, 0, none⟩)) (fun _ => True) rfl rfl rfl rfl rfl trivial (.inl ⟨rfl, fun _ _ => d_fieldAddrB fld25_0 rfl rfl ⟨rfl, rfl⟩⟩) ?_
                    refine WD.take hok1 1 (.slice dca d.cls.length dcc) (fun w' => w'.heap[w.heap.size]? = some (.cells #[.slice dca d.cls.length dcc, .int .i64 d.width, .int .i64 d.start, .slice dna d.next.length dnc, .slice dba d.acc.length dbc] 25 (0, 0))) rfl rfl rfl rfl rfl (H3.blk 0 rfl) (.inl ⟨rfl, fun _ hC => d_loadB Try.underlying22 rfl rfl hC rfl ⟨rfl, rfl⟩⟩) ?_
                    refine WD.take hok1 2 (.int .i64 ((k : Nat) : Int)) (fun _ => True) rfl rfl rfl rfl rfl trivial (.inl ⟨rfl, fun _ _ => d_move rfl ⟨rfl, rfl⟩⟩) ?_
                    refine WD.take hok1 3 (elemPtr (.slice dca d.cls.length dcc) k) (fun w' => RdT (tyI .i64) w' (.slice dca d.cls.length dcc) d.cls) rfl rfl rfl rfl rfl (rcd.at H3) (.inl ⟨rfl, fun _ hC => t_addr1 k (T := (tyI .i64)) rfl Try.underlying22 sz3 rfl rfl hC rfl (by omega) ⟨rfl, rfl⟩⟩) ?_
                    refine WD.take hok1 4 (.int .i64 (d.cls.getD k 0)) (fun w' => RdT (tyI .i64) w' (.slice dca d.cls.length dcc) d.cls) rfl rfl rfl rfl rfl (rcd.at H3) (.inl ⟨rfl, fun _ hC => t_load1 k 0 (T := (tyI .i64)) rfl Try.underlying3 rfl rfl hC (by omega) rfl ⟨rfl, rfl⟩⟩) ?_
                    refine WD.take hok1 5 (.bool (decide ((d.cls.getD k 0) < (0 : Int)))) (fun _ => True) rfl rfl rfl rfl rfl trivial (.inl ⟨rfl, fun _ _ => d_cmp (decide ((d.cls.getD k 0) < (0 : Int))) rfl rfl rfl ⟨rfl, rfl⟩⟩) ?_
                    refine WD.take hok1 6 (.bool (decide ((d.cls.getD k 0) < (0 : Int)))) (fun _ => True) rfl rfl rfl rfl rfl trivial (.inl ⟨rfl, fun _ _ => d_move rfl ⟨rfl, rfl⟩⟩) ?_
                    refine WD.part 65 (p := (d.cls.getD k 0) < (0 : Int)) rfl (fun g13 => ?_) (fun g13 => ?_)
                    · skip
                      refine WD.take hok1 7 undef (fun _ => True) rfl rfl rfl rfl rfl trivial (.inr ⟨rfl, rfl⟩) ?_
                      refine WD.take hok1 8 undef (fun _ => True) rfl rfl rfl rfl rfl trivial (.inr ⟨rfl, rfl⟩) ?_
                      refine WD.take hok1 9 undef (fun _ => True) rfl rfl rfl rfl rfl trivial (.inr ⟨rfl, rfl⟩) ?_
                      refine WD.take hok1 10 undef (fun _ => True) rfl rfl rfl rfl rfl trivial (.inr ⟨rfl, rfl⟩) ?_
                      refine WD.take hok1 11 undef (fun _ => True) rfl rfl rfl rfl rfl trivial (.inr ⟨rfl, rfl⟩) ?_
                      refine WD.take hok1 12 undef (fun _ => True) rfl rfl rfl rfl rfl trivial (.inr ⟨rfl, rfl⟩) ?_
                      refine WD.take hok1 13 undef (fun _ => True) rfl rfl rfl rfl rfl trivial (.inr ⟨rfl, rfl⟩) ?_
                      refine WD.take hok1 14 undef (fun _ => True) rfl rfl rfl rfl rfl trivial (.inr ⟨rfl, rfl⟩) ?_
                      refine WD.take hok1 15 (.bool true) (fun _ => True) rfl rfl rfl rfl rfl trivial (.inl ⟨rfl, fun _ _ => d_pick rfl rfl ⟨rfl, rfl⟩⟩) ?_
                      refine WD.done hok1 rfl (X.then_code ?_)
                      refine W.pick [74, 73, 72, 71, 70, 69, 68, 67, 66, 65, 64, 63, 62, 61, 60, 59, 56, 55, 54, 53, 52, 4, 3, 2, 1] (Γ' := [(74, .bool true), (73, undef), (72, undef), (71, undef), (70, undef), (69, undef), (68, undef), (67, undef), (66, undef), (65, .bool true), (64, .bool (decide ((d.cls.getD k 0) < (0 : Int)))), (63, .int .i64 (d.cls.getD k 0)), (62, elemPtr (.slice dca d.cls.length dcc) k), (61, .int .i64 ((k : Nat) : Int)), (60, .slice dca d.cls.length dcc), (59, .pointer (some ⟨w.heap.size, 0, none⟩)), (56, .bool (decide (((k : Nat) : Int) < ((d.cls.length : Nat) : Int)))), (55, .int .i64 ((d.cls.length : Nat) : Int)), (54, .slice dca d.cls.length dcc), (53, .pointer (some ⟨w.heap.size, 0, none⟩)), (52, .int .i64 ((k : Nat) : Int)), (4, .int .i64 ((k : Nat) : Int)), (3, .int .i64 ((d.acc.length : Nat) : Int)), (2, .bool false), (1, .pointer (some ⟨w.heap.size, 0, none⟩))]) rfl ?_
                      refine W.ift rfl ?_
                      refine W.seq ?_
                      refine W.region ?_
                      refine WL.op rfl (d_assign rfl ?_)
                      refine WL.done (X.then_code ?_)
                      refine W.pick [2, 74, 73, 72, 71, 70, 69, 68, 67, 66, 65, 64, 63, 62, 61, 60, 59, 56, 55, 54, 53, 52, 4, 3, 1] (Γ' := [(2, .bool false), (74, .bool true), (73, undef), (72, undef), (71, undef), (70, undef), (69, undef), (68, undef), (67, undef), (66, undef), (65, .bool true), (64, .bool (decide ((d.cls.getD k 0) < (0 : Int)))), (63, .int .i64 (d.cls.getD k 0)), (62, elemPtr (.slice dca d.cls.length dcc) k), (61, .int .i64 ((k : Nat) : Int)), (60, .slice dca d.cls.length dcc), (59, .pointer (some ⟨w.heap.size, 0, none⟩)), (56, .bool (decide (((k : Nat) : Int) < ((d.cls.length : Nat) : Int)))), (55, .int .i64 ((d.cls.length : Nat) : Int)), (54, .slice dca d.cls.length dcc), (53, .pointer (some ⟨w.heap.size, 0, none⟩)), (52, .int .i64 ((k : Nat) : Int)), (4, .int .i64 ((k : Nat) : Int)), (3, .int .i64 ((d.acc.length : Nat) : Int)), (1, .pointer (some ⟨w.heap.size, 0, none⟩))]) rfl ?_
                      refine W.ret (X.block_ret (X.then_ret (X.then_ret (X.block_ret (X.then_ret (X.ret1 rfl rfl ?_))))))
                      have h : rightB d = false := (Bool.eq_false_iff).2 (fun hb => by have h9 := rightB_iff.1 hb; have := within_at h9.2.1 k (by omega); omega)
                      exact ⟨(by rw [h]), H3.noneL⟩
                    · skip
                      refine WD.take hok1 7 (.pointer (some ⟨w.heap.size, 0, none⟩)) (fun _ => True) rfl rfl rfl rfl rfl trivial (.inl ⟨rfl, fun _ _ => d_fieldAddrB fld25_0 rfl rfl ⟨rfl, rfl⟩⟩) ?_
                      refine WD.take hok1 8 (.slice dca d.cls.length dcc) (fun w' => w'.heap[w.heap.size]? = some (.cells #[.slice dca d.cls.length dcc, .int .i64 d.width, .int .i64 d.start, .slice dna d.next.length dnc, .slice dba d.acc.length dbc] 25 (0, 0))) rfl rfl rfl rfl rfl (H3.blk 0 rfl) (.inl ⟨rfl, fun _ hC => d_loadB Try.underlying22 rfl rfl hC rfl ⟨rfl, rfl⟩⟩) ?_
                      refine WD.take hok1 9 (.int .i64 ((k : Nat) : Int)) (fun _ => True) rfl rfl rfl rfl rfl trivial (.inl ⟨rfl, fun _ _ => d_move rfl ⟨rfl, rfl⟩⟩) ?_
                      refine WD.take hok1 10 (elemPtr (.slice dca d.cls.length dcc) k) (fun w' => RdT (tyI .i64) w' (.slice dca d.cls.length dcc) d.cls) rfl rfl rfl rfl rfl (rcd.at H3) (.inl ⟨rfl, fun _ hC => t_addr1 k (T := (tyI .i64)) rfl Try.underlying22 sz3 rfl rfl hC rfl (by omega) ⟨rfl, rfl⟩⟩) ?_
                      refine WD.take hok1 11 (.int .i64 (d.cls.getD k 0)) (fun w' => RdT (tyI .i64) w' (.slice dca d.cls.length dcc) d.cls) rfl rfl rfl rfl rfl (rcd.at H3) (.inl ⟨rfl, fun _ hC => t_load1 k 0 (T := (tyI .i64)) rfl Try.underlying3 rfl rfl hC (by omega) rfl ⟨rfl, rfl⟩⟩) ?_
                      refine WD.take hok1 12 (.pointer (some ⟨w.heap.size, 1, none⟩)) (fun _ => True) rfl rfl rfl rfl rfl trivial (.inl ⟨rfl, fun _ _ => d_fieldAddrB fld25_1 rfl rfl ⟨rfl, rfl⟩⟩) ?_
                      refine WD.take hok1 13 (.int .i64 d.width) (fun w' => w'.heap[w.heap.size]? = some (.cells #[.slice dca d.cls.length dcc, .int .i64 d.width, .int .i64 d.start, .slice dna d.next.length dnc, .slice dba d.acc.length dbc] 25 (0, 0))) rfl rfl rfl rfl rfl (H3.blk 0 rfl) (.inl ⟨rfl, fun _ hC => d_loadB Try.underlying3 rfl rfl hC rfl ⟨rfl, rfl⟩⟩) ?_
                      refine WD.take hok1 14 (.bool (decide ((d.cls.getD k 0) ≥ d.width))) (fun _ => True) rfl rfl rfl rfl rfl trivial (.inl ⟨rfl, fun _ _ => d_cmp (decide ((d.cls.getD k 0) ≥ d.width)) rfl rfl rfl ⟨rfl, rfl⟩⟩) ?_
                      refine WD.take hok1 15 (.bool (decide ((d.cls.getD k 0) ≥ d.width))) (fun _ => True) rfl rfl rfl rfl rfl trivial (.inl ⟨rfl, fun _ _ => d_pick rfl rfl ⟨rfl, rfl⟩⟩) ?_
                      refine WD.done hok1 rfl (X.then_code ?_)
                      refine W.pick [74, 73, 72, 71, 70, 69, 68, 67, 66, 65, 64, 63, 62, 61, 60, 59, 56, 55, 54, 53, 52, 4, 3, 2, 1] (Γ' := [(74, .bool (decide ((d.cls.getD k 0) ≥ d.width))), (73, .bool (decide ((d.cls.getD k 0) ≥ d.width))), (72, .int .i64 d.width), (71, .pointer (some ⟨w.heap.size, 1, none⟩)), (70, .int .i64 (d.cls.getD k 0)), (69, elemPtr (.slice dca d.cls.length dcc) k), (68, .int .i64 ((k : Nat) : Int)), (67, .slice dca d.cls.length dcc), (66, .pointer (some ⟨w.heap.size, 0, none⟩)), (65, .bool false), (64, .bool (decide ((d.cls.getD k 0) < (0 : Int)))), (63, .int .i64 (d.cls.getD k 0)), (62, elemPtr (.slice dca d.cls.length dcc) k), (61, .int .i64 ((k : Nat) : Int)), (60, .slice dca d.cls.length dcc), (59, .pointer (some ⟨w.heap.size, 0, none⟩)), (56, .bool (decide (((k : Nat) : Int) < ((d.cls.length : Nat) : Int)))), (55, .int .i64 ((d.cls.length : Nat) : Int)), (54, .slice dca d.cls.length dcc), (53, .pointer (some ⟨w.heap.size, 0, none⟩)), (52, .int .i64 ((k : Nat) : Int)), (4, .int .i64 ((k : Nat) : Int)), (3, .int .i64 ((d.acc.length : Nat) : Int)), (2, .bool false), (1, .pointer (some ⟨w.heap.size, 0, none⟩))]) rfl ?_
                      refine W.ite (p := (d.cls.getD k 0) ≥ d.width) rfl (fun c13 => ?_) (fun c13 => ?_)
                      · skip
                        refine W.seq ?_
                        refine W.region ?_
                        refine WL.op rfl (d_assign rfl ?_)
                        refine WL.done (X.then_code ?_)
                        refine W.pick [2, 74, 73, 72, 71, 70, 69, 68, 67, 66, 65, 64, 63, 62, 61, 60, 59, 56, 55, 54, 53, 52, 4, 3, 1] (Γ' := [(2, .bool false), (74, .bool (decide ((d.cls.getD k 0) ≥ d.width))), (73, .bool (decide ((d.cls.getD k 0) ≥ d.width))), (72, .int .i64 d.width), (71, .pointer (some ⟨w.heap.size, 1, none⟩)), (70, .int .i64 (d.cls.getD k 0)), (69, elemPtr (.slice dca d.cls.length dcc) k), (68, .int .i64 ((k : Nat) : Int)), (67, .slice dca d.cls.length dcc), (66, .pointer (some ⟨w.heap.size, 0, none⟩)), (65, .bool false), (64, .bool (decide ((d.cls.getD k 0) < (0 : Int)))), (63, .int .i64 (d.cls.getD k 0)), (62, elemPtr (.slice dca d.cls.length dcc) k), (61, .int .i64 ((k : Nat) : Int)), (60, .slice dca d.cls.length dcc), (59, .pointer (some ⟨w.heap.size, 0, none⟩)), (56, .bool (decide (((k : Nat) : Int) < ((d.cls.length : Nat) : Int)))), (55, .int .i64 ((d.cls.length : Nat) : Int)), (54, .slice dca d.cls.length dcc), (53, .pointer (some ⟨w.heap.size, 0, none⟩)), (52, .int .i64 ((k : Nat) : Int)), (4, .int .i64 ((k : Nat) : Int)), (3, .int .i64 ((d.acc.length : Nat) : Int)), (1, .pointer (some ⟨w.heap.size, 0, none⟩))]) rfl ?_
                        refine W.ret (X.block_ret (X.then_ret (X.then_ret (X.block_ret (X.then_ret (X.ret1 rfl rfl ?_))))))
                        have h : rightB d = false := (Bool.eq_false_iff).2 (fun hb => by have h9 := rightB_iff.1 hb; have := within_at h9.2.1 k (by omega); omega)
                        exact ⟨(by rw [h]), H3.noneL⟩
                      · skip
                        refine W.skip (X.block_normal (X.then_code ?_))
                        refine W.pick [74, 73, 72, 71, 70, 69, 68, 67, 66, 65, 64, 63, 62, 61, 60, 59, 56, 55, 54, 53, 52, 4, 3, 2, 1] (Γ' := [(74, .bool (decide ((d.cls.getD k 0) ≥ d.width))), (73, .bool (decide ((d.cls.getD k 0) ≥ d.width))), (72, .int .i64 d.width), (71, .pointer (some ⟨w.heap.size, 1, none⟩)), (70, .int .i64 (d.cls.getD k 0)), (69, elemPtr (.slice dca d.cls.length dcc) k), (68, .int .i64 ((k : Nat) : Int)), (67, .slice dca d.cls.length dcc), (66, .pointer (some ⟨w.heap.size, 0, none⟩)), (65, .bool false), (64, .bool (decide ((d.cls.getD k 0) < (0 : Int)))), (63, .int .i64 (d.cls.getD k 0)), (62, elemPtr (.slice dca d.cls.length dcc) k), (61, .int .i64 ((k : Nat) : Int)), (60, .slice dca d.cls.length dcc), (59, .pointer (some ⟨w.heap.size, 0, none⟩)), (56, .bool (decide (((k : Nat) : Int) < ((d.cls.length : Nat) : Int)))), (55, .int .i64 ((d.cls.length : Nat) : Int)), (54, .slice dca d.cls.length dcc), (53, .pointer (some ⟨w.heap.size, 0, none⟩)), (52, .int .i64 ((k : Nat) : Int)), (4, .int .i64 ((k : Nat) : Int)), (3, .int .i64 ((d.acc.length : Nat) : Int)), (2, .bool false), (1, .pointer (some ⟨w.heap.size, 0, none⟩))]) rfl ?_
                        refine W.region ?_
                        refine WL.op rfl (d_move rfl ?_)
                        refine WL.op rfl (d_add rfl rfl (by omega) (by omega) ?_)
                        refine WL.op rfl (d_assign rfl ?_)
                        refine WL.done ?_
                        exact X.next [4, 3, 2, 1] (Γ' := [(4, .int .i64 (((k + 1) : Nat) : Int)), (3, .int .i64 ((d.acc.length : Nat) : Int)), (2, .bool false), (1, .pointer (some ⟨w.heap.size, 0, none⟩))]) rfl (d.cls.length - (k + 1)) (by omega) ⟨k + 1, rfl, H3, (by first | assumption | omega | simp), (by exact all_step hc (by omega)), rfl⟩
                  · skip
                    refine W.exit (X.then_exit (X.then_exit (X.block_exit (X.then_code ?_))))
                    refine W.seq ?_
                    refine W.seq ?_
                    refine W.region ?_
                    refine WL.op rfl (d_assign rfl ?_)
                    refine WL.done (X.then_code ?_)
                    refine W.block ?_
                    refine W.pick [5, 3, 2, 1] (Γ' := [(5, .int .i64 0), (3, .int .i64 ((d.acc.length : Nat) : Int)), (2, .bool false), (1, .pointer (some ⟨w.heap.size, 0, none⟩))]) rfl ?_
                    refine W.loop (fun m Γ' w' => ∃ j : Nat, Γ' = [(5, .int .i64 ((j : Nat) : Int)), (3, .int .i64 ((d.acc.length : Nat) : Int)), (2, .bool false), (1, .pointer (some ⟨w.heap.size, 0, none⟩))] ∧ UpG w [] w' [[blk w.heap.size #[.slice dca d.cls.length dcc, .int .i64 d.width, .int .i64 d.start, .slice dna d.next.length dnc, .slice dba d.acc.length dbc] 25]] ∧ (j ≤ d.next.length) ∧ (∀ i, i < j → 0 ≤ d.next.getD i 0 ∧ d.next.getD i 0 < (d.acc.length : Int)) ∧ m = d.next.length - j) (d.next.length - 0) ⟨0, rfl, H2, (by first | assumption | omega | simp), (by intro i hi; omega), rfl⟩ ?_
                    rintro m2 Γ2 w4 ⟨j, rfl, H4, hj, hn, rfl⟩
                    refine W.seq ?_
                    refine W.seq ?_
                    refine W.region ?_
                    refine WL.op rfl (d_move rfl ?_)
                    refine WL.op rfl (d_fieldAddrB fld25_3 rfl rfl ?_)
                    refine WL.op rfl (d_loadB Try.underlying22 rfl rfl (H4.blk 0 rfl) rfl ?_)
                    refine WL.op rfl (d_lenS Try.underlying22 rfl ?_)
                    refine WL.op rfl (d_cmp (decide (((j : Nat) : Int) < ((d.next.length : Nat) : Int))) rfl rfl rfl ?_)
                    refine WL.done (X.then_code ?_)
                    refine W.ite (p := ((j : Nat) : Int) < ((d.next.length : Nat) : Int)) rfl (fun c17 => ?_) (fun c17 => ?_)
                    · skip
                      refine W.skip (X.then_code ?_)
                      refine W.seq ?_
                      refine W.block ?_
                      refine W.seq ?_
                      refine W.region ?_
                      refine WL.op rfl (d_fieldAddrB fld25_3 rfl rfl ?_)
                      refine WL.op rfl (d_loadB Try.underlying22 rfl rfl (H4.blk 0 rfl) rfl ?_)
                      refine WL.op rfl (d_move rfl ?_)
                      refine WL.op rfl (t_addr1 j (T := (tyI .i64)) rfl Try.underlying22 sz3 rfl rfl (rnd.at H4) rfl (by omega) ?_)
                      refine WL.op rfl (t_load1 j 0 (T := (tyI .i64)) rfl Try.underlying3 rfl rfl (rnd.at H4) (by omega) rfl ?_)
                      refine WL.op rfl (d_cmp (decide ((d.next.getD j 0) < (0 : Int))) rfl rfl rfl ?_)
                      refine WL.op rfl (d_move rfl ?_)
                      refine WL.part 88 (p := (d.next.getD j 0) < (0 : Int)) rfl (fun g18 => ?_) (fun g18 => ?_)
                      · skip
                        refine WL.opN rfl rfl rfl rfl ?_
                        refine WL.opN rfl rfl rfl rfl ?_
                        refine WL.opN rfl rfl rfl rfl ?_
                        refine WL.opN rfl rfl rfl rfl ?_
                        refine WL.opN rfl rfl rfl rfl ?_
                        refine WL.opN rfl rfl rfl rfl ?_
                        refine WL.opN rfl rfl rfl rfl ?_
                        refine WL.op rfl (d_pick rfl rfl ?_)
                        refine WL.done (X.then_code ?_)
                        refine W.pick [96, 95, 94, 93, 92, 91, 90, 89, 88, 87, 86, 85, 84, 83, 82, 79, 78, 77, 76, 75, 5, 3, 2, 1] (Γ' := [(96, .bool true), (95, undef), (94, undef), (93, undef), (92, undef), (91, undef), (90, undef), (89, undef), (88, .bool true), (87, .bool (decide ((d.next.getD j 0) < (0 : Int)))), (86, .int .i64 (d.next.getD j 0)), (85, elemPtr (.slice dna d.next.length dnc) j), (84, .int .i64 ((j : Nat) : Int)), (83, .slice dna d.next.length dnc), (82, .pointer (some ⟨w.heap.size, 3, none⟩)), (79, .bool (decide (((j : Nat) : Int) < ((d.next.length : Nat) : Int)))), (78, .int .i64 ((d.next.length : Nat) : Int)), (77, .slice dna d.next.length dnc), (76, .pointer (some ⟨w.heap.size, 3, none⟩)), (75, .int .i64 ((j : Nat) : Int)), (5, .int .i64 ((j : Nat) : Int)), (3, .int .i64 ((d.acc.length : Nat) : Int)), (2, .bool false), (1, .pointer (some ⟨w.heap.size, 0, none⟩))]) rfl ?_
                        refine W.ift rfl ?_
                        refine W.seq ?_
                        refine W.region ?_
                        refine WL.op rfl (d_assign rfl ?_)
                        refine WL.done (X.then_code ?_)
                        refine W.pick [2, 96, 95, 94, 93, 92, 91, 90, 89, 88, 87, 86, 85, 84, 83, 82, 79, 78, 77, 76, 75, 5, 3, 1] (Γ' := [(2, .bool false), (96, .bool true), (95, undef), (94, undef), (93, undef), (92, undef), (91, undef), (90, undef), (89, undef), (88, .bool true), (87, .bool (decide ((d.next.getD j 0) < (0 : Int)))), (86, .int .i64 (d.next.getD j 0)), (85, elemPtr (.slice dna d.next.length dnc) j), (84, .int .i64 ((j : Nat) : Int)), (83, .slice dna d.next.length dnc), (82, .pointer (some ⟨w.heap.size, 3, none⟩)), (79, .bool (decide (((j : Nat) : Int) < ((d.next.length : Nat) : Int)))), (78, .int .i64 ((d.next.length : Nat) : Int)), (77, .slice dna d.next.length dnc), (76, .pointer (some ⟨w.heap.size, 3, none⟩)), (75, .int .i64 ((j : Nat) : Int)), (5, .int .i64 ((j : Nat) : Int)), (3, .int .i64 ((d.acc.length : Nat) : Int)), (1, .pointer (some ⟨w.heap.size, 0, none⟩))]) rfl ?_
                        refine W.ret (X.block_ret (X.then_ret (X.then_ret (X.block_ret (X.then_ret (X.ret1 rfl rfl ?_))))))
                        have h : rightB d = false := (Bool.eq_false_iff).2 (fun hb => by have h9 := rightB_iff.1 hb; have := within_at h9.2.2 j (by omega); omega)
                        exact ⟨(by rw [h]), H4.noneL⟩
                      · skip
                        refine WL.opG rfl rfl rfl (d_fieldAddrB fld25_3 rfl rfl ?_)
                        refine WL.opG rfl rfl rfl (d_loadB Try.underlying22 rfl rfl (H4.blk 0 rfl) rfl ?_)
                        refine WL.opG rfl rfl rfl (d_move rfl ?_)
                        refine WL.opG rfl rfl rfl (t_addr1 j (T := (tyI .i64)) rfl Try.underlying22 sz3 rfl rfl (rnd.at H4) rfl (by omega) ?_)
                        refine WL.opG rfl rfl rfl (t_load1 j 0 (T := (tyI .i64)) rfl Try.underlying3 rfl rfl (rnd.at H4) (by omega) rfl ?_)
                        refine WL.opG rfl rfl rfl (d_move rfl ?_)
                        refine WL.opG rfl rfl rfl (d_cmp (decide ((d.next.getD j 0) ≥ ((d.acc.length : Nat) : Int))) rfl rfl rfl ?_)
                        refine WL.op rfl (d_pick rfl rfl ?_)
                        refine WL.done (X.then_code ?_)
                        refine W.pick [96, 95, 94, 93, 92, 91, 90, 89, 88, 87, 86, 85, 84, 83, 82, 79, 78, 77, 76, 75, 5, 3, 2, 1] (Γ' := [(96, .bool (decide ((d.next.getD j 0) ≥ ((d.acc.length : Nat) : Int)))), (95, .bool (decide ((d.next.getD j 0) ≥ ((d.acc.length : Nat) : Int)))), (94, .int .i64 ((d.acc.length : Nat) : Int)), (93, .int .i64 (d.next.getD j 0)), (92, elemPtr (.slice dna d.next.length dnc) j), (91, .int .i64 ((j : Nat) : Int)), (90, .slice dna d.next.length dnc), (89, .pointer (some ⟨w.heap.size, 3, none⟩)), (88, .bool false), (87, .bool (decide ((d.next.getD j 0) < (0 : Int)))), (86, .int .i64 (d.next.getD j 0)), (85, elemPtr (.slice dna d.next.length dnc) j), (84, .int .i64 ((j : Nat) : Int)), (83, .slice dna d.next.length dnc), (82, .pointer (some ⟨w.heap.size, 3, none⟩)), (79, .bool (decide (((j : Nat) : Int) < ((d.next.length : Nat) : Int)))), (78, .int .i64 ((d.next.length : Nat) : Int)), (77, .slice dna d.next.length dnc), (76, .pointer (some ⟨w.heap.size, 3, none⟩)), (75, .int .i64 ((j : Nat) : Int)), (5, .int .i64 ((j : Nat) : Int)), (3, .int .i64 ((d.acc.length : Nat) : Int)), (2, .bool false), (1, .pointer (some ⟨w.heap.size, 0, none⟩))]) rfl ?_
                        refine W.ite (p := (d.next.getD j 0) ≥ ((d.acc.length : Nat) : Int)) rfl (fun c18 => ?_) (fun c18 => ?_)
                        · skip
                          refine W.seq ?_
                          refine W.region ?_
                          refine WL.op rfl (d_assign rfl ?_)
                          refine WL.done (X.then_code ?_)
                          refine W.pick [2, 96, 95, 94, 93, 92, 91, 90, 89, 88, 87, 86, 85, 84, 83, 82, 79, 78, 77, 76, 75, 5, 3, 1] (Γ' := [(2, .bool false), (96, .bool (decide ((d.next.getD j 0) ≥ ((d.acc.length : Nat) : Int)))), (95, .bool (decide ((d.next.getD j 0) ≥ ((d.acc.length : Nat) : Int)))), (94, .int .i64 ((d.acc.length : Nat) : Int)), (93, .int .i64 (d.next.getD j 0)), (92, elemPtr (.slice dna d.next.length dnc) j), (91, .int .i64 ((j : Nat) : Int)), (90, .slice dna d.next.length dnc), (89, .pointer (some ⟨w.heap.size, 3, none⟩)), (88, .bool false), (87, .bool (decide ((d.next.getD j 0) < (0 : Int)))), (86, .int .i64 (d.next.getD j 0)), (85, elemPtr (.slice dna d.next.length dnc) j), (84, .int .i64 ((j : Nat) : Int)), (83, .slice dna d.next.length dnc), (82, .pointer (some ⟨w.heap.size, 3, none⟩)), (79, .bool (decide (((j : Nat) : Int) < ((d.next.length : Nat) : Int)))), (78, .int .i64 ((d.next.length : Nat) : Int)), (77, .slice dna d.next.length dnc), (76, .pointer (some ⟨w.heap.size, 3, none⟩)), (75, .int .i64 ((j : Nat) : Int)), (5, .int .i64 ((j : Nat) : Int)), (3, .int .i64 ((d.acc.length : Nat) : Int)), (1, .pointer (some ⟨w.heap.size, 0, none⟩))]) rfl ?_
                          refine W.ret (X.block_ret (X.then_ret (X.then_ret (X.block_ret (X.then_ret (X.ret1 rfl rfl ?_))))))
                          have h : rightB d = false := (Bool.eq_false_iff).2 (fun hb => by have h9 := rightB_iff.1 hb; have := within_at h9.2.2 j (by omega); omega)
                          exact ⟨(by rw [h]), H4.noneL⟩
                        · skip
                          refine W.skip (X.block_normal (X.then_code ?_))
                          refine W.pick [96, 95, 94, 93, 92, 91, 90, 89, 88, 87, 86, 85, 84, 83, 82, 79, 78, 77, 76, 75, 5, 3, 2, 1] (Γ' := [(96, .bool (decide ((d.next.getD j 0) ≥ ((d.acc.length : Nat) : Int)))), (95, .bool (decide ((d.next.getD j 0) ≥ ((d.acc.length : Nat) : Int)))), (94, .int .i64 ((d.acc.length : Nat) : Int)), (93, .int .i64 (d.next.getD j 0)), (92, elemPtr (.slice dna d.next.length dnc) j), (91, .int .i64 ((j : Nat) : Int)), (90, .slice dna d.next.length dnc), (89, .pointer (some ⟨w.heap.size, 3, none⟩)), (88, .bool false), (87, .bool (decide ((d.next.getD j 0) < (0 : Int)))), (86, .int .i64 (d.next.getD j 0)), (85, elemPtr (.slice dna d.next.length dnc) j), (84, .int .i64 ((j : Nat) : Int)), (83, .slice dna d.next.length dnc), (82, .pointer (some ⟨w.heap.size, 3, none⟩)), (79, .bool (decide (((j : Nat) : Int) < ((d.next.length : Nat) : Int)))), (78, .int .i64 ((d.next.length : Nat) : Int)), (77, .slice dna d.next.length dnc), (76, .pointer (some ⟨w.heap.size, 3, none⟩)), (75, .int .i64 ((j : Nat) : Int)), (5, .int .i64 ((j : Nat) : Int)), (3, .int .i64 ((d.acc.length : Nat) : Int)), (2, .bool false), (1, .pointer (some ⟨w.heap.size, 0, none⟩))]) rfl ?_
                          refine W.region ?_
                          refine WL.op rfl (d_move rfl ?_)
                          refine WL.op rfl (d_add rfl rfl (by omega) (by omega) ?_)
                          refine WL.op rfl (d_assign rfl ?_)
                          refine WL.done ?_
                          exact X.next [5, 3, 2, 1] (Γ' := [(5, .int .i64 (((j + 1) : Nat) : Int)), (3, .int .i64 ((d.acc.length : Nat) : Int)), (2, .bool false), (1, .pointer (some ⟨w.heap.size, 0, none⟩))]) rfl (d.next.length - (j + 1)) (by omega) ⟨j + 1, rfl, H4, (by first | assumption | omega | simp), (by exact all_step hn (by omega)), rfl⟩
                    · skip
                      refine W.exit (X.then_exit (X.then_exit (X.block_exit (X.then_code ?_))))
                      refine W.seq ?_
                      refine W.region ?_
                      refine WL.op rfl (d_assign rfl ?_)
                      refine WL.done (X.then_code ?_)
                      refine W.ret (X.ret1 rfl rfl ?_)
                      have h : rightB d = true := rightB_iff.2 ⟨by omega, within_of (fun i hi => hc i (by omega)), within_of (fun i hi => hn i (by omega))⟩
                      exact ⟨(by rw [h]), H4.noneL⟩

set_option maxRecDepth 20000 in
theorem refRun_any (d : DfaD) (dca : Option Addr) (dna : Option Addr) (dba : Option Addr) (dcc : Nat) (dnc : Nat) (dbc : Nat) (s : Int) (worda : Option Addr) (word : List Int) (wordc : Nat) (w : World) (rcd : RdT (tyI .i64) w (.slice dca d.cls.length dcc) d.cls) (rnd : RdT (tyI .i64) w (.slice dna d.next.length dnc) d.next) (rbd : RdT tyB w (.slice dba d.acc.length dbc) d.acc) (rword : RdT (tyI .i64) w (.slice worda word.length wordc) word) :
    Calls Try.prog 22 #[.agg #[.slice dca d.cls.length dcc, .int .i64 d.width, .int .i64 d.start, .slice dna d.next.length dnc, .slice dba d.acc.length dbc], .int .i64 s, .slice worda word.length wordc] w (Ret fun v w' => v = .int .i64 (runF d s word) ∧ Upd w [] w' []) := by
  have le_rcd := rcd.le
  have le_rnd := rnd.le
  have le_rbd := rbd.le
  have le_rword := rword.le
  refine calls_of_W (args := [.agg #[.slice dca d.cls.length dcc, .int .i64 d.width, .int .i64 d.start, .slice dna d.next.length dnc, .slice dba d.acc.length dbc], .int .i64 s, .slice worda word.length wordc]) Try.func22 rfl rfl rfl ?_
  have H0 : UpG w [] w [] := UpG.nil w
  show W _ _ _ _ [(0, .agg #[.slice dca d.cls.length dcc, .int .i64 d.width, .int .i64 d.start, .slice dna d.next.length dnc, .slice dba d.acc.length dbc]), (1, .int .i64 s), (2, .slice worda word.length wordc)] w
  refine W.seq ?_
  refine W.region ?_
  refine WL.op rfl (d_box rfl fun w1 u1 => ?_)
  have H1 : UpG w [] w1 [[blk w.heap.size #[.slice dca d.cls.length dcc, .int .i64 d.width, .int .i64 d.start, .slice dna d.next.length dnc, .slice dba d.acc.length dbc] 25]] := H0.new' u1
  refine WL.op rfl (d_assign rfl ?_)
  refine WL.done (X.then_code ?_)
  refine W.seq ?_
  refine W.seq ?_
  refine W.region ?_
  refine WL.op rfl (d_loadAB [.slice dca d.cls.length dcc, .int .i64 d.width, .int .i64 d.start, .slice dna d.next.length dnc, .slice dba d.acc.length dbc] Try.underlying25 rfl sz25 rfl (H1.blk 0 rfl) rfl rfl ?_)
  refine WL.op rfl (d_call ok20 rfl (Ret.calls (refRight_any d dca dna dba dcc dnc dbc w1 (rcd.at H1) (rnd.at H1) (rbd.at H1) ) fun _ w2 p1 => ?_))
  obtain ⟨rfl, u2⟩ := p1
  have H2 : UpG w [] w2 [[blk w.heap.size #[.slice dca d.cls.length dcc, .int .i64 d.width, .int .i64 d.start, .slice dna d.next.length dnc, .slice dba d.acc.length dbc] 25]] := H1.call u2
  refine WL.op rfl (d_notB rfl ?_)
  refine WL.op rfl (d_move rfl ?_)
  refine WL.partB 11 (b := !(rightB d)) rfl (fun g27 => ?_) (fun g27 => ?_)
  · skip
    refine WL.opN rfl rfl rfl rfl ?_
    refine WL.opN rfl rfl rfl rfl ?_
    refine WL.op rfl (d_pick rfl rfl ?_)
    refine WL.op rfl (d_move rfl ?_)
    refine WL.opN rfl rfl rfl rfl ?_
    refine WL.opN rfl rfl rfl rfl ?_
    refine WL.opN rfl rfl rfl rfl ?_
    refine WL.opN rfl rfl rfl rfl ?_
    refine WL.opN rfl rfl rfl rfl ?_
    refine WL.op rfl (d_pick rfl rfl ?_)
    refine WL.done (X.then_code ?_)
    refine W.pick [21, 6, 3, 1, 2] (Γ' := [(21, .bool true), (6, .int .i64 0), (3, .pointer (some ⟨w.heap.size, 0, none⟩)), (1, .int .i64 s), (2, .slice worda word.length wordc)]) rfl ?_
    refine W.ift rfl ?_
    refine W.seq ?_
    refine W.region ?_
    refine WL.op rfl (d_assign rfl ?_)
    refine WL.done (X.then_code ?_)
    refine W.ret (X.then_ret (X.ret1 rfl rfl ?_))
    exact ⟨(by first | rw [runF_no (.inl g27)] | rw [runF_no (.inr (by omega))]), H2.noneL⟩
  · skip
    refine WL.opG rfl rfl rfl (d_move rfl ?_)
    refine WL.opG rfl rfl rfl (d_cmp (decide (s < (0 : Int))) rfl rfl rfl ?_)
    refine WL.op rfl (d_pick rfl rfl ?_)
    refine WL.op rfl (d_move rfl ?_)
    refine WL.part 15 (p := s < (0 : Int)) rfl (fun g27x => ?_) (fun g27x => ?_)
    · skip
      refine WL.opN rfl rfl rfl rfl ?_
      refine WL.opN rfl rfl rfl rfl ?_
      refine WL.opN rfl rfl rfl rfl ?_
      refine WL.opN rfl rfl rfl rfl ?_
      refine WL.opN rfl rfl rfl rfl ?_
      refine WL.op rfl (d_pick rfl rfl ?_)
      refine WL.done (X.then_code ?_)
      refine W.pick [21, 6, 3, 1, 2] (Γ' := [(21, .bool true), (6, .int .i64 0), (3, .pointer (some ⟨w.heap.size, 0, none⟩)), (1, .int .i64 s), (2, .slice worda word.length wordc)]) rfl ?_
      refine W.ift rfl ?_
      refine W.seq ?_
      refine W.region ?_
      refine WL.op rfl (d_assign rfl ?_)
      refine WL.done (X.then_code ?_)
      refine W.ret (X.then_ret (X.ret1 rfl rfl ?_))
      exact ⟨(by first | rw [runF_no (.inl g27)] | rw [runF_no (.inr (by omega))]), H2.noneL⟩
    · skip
      refine WL.opG rfl rfl rfl (d_move rfl ?_)
      refine WL.opG rfl rfl rfl (d_fieldAddrB fld25_4 rfl rfl ?_)
      refine WL.opG rfl rfl rfl (d_loadB Try.underlying23 rfl rfl (H2.blk 0 rfl) rfl ?_)
      refine WL.opG rfl rfl rfl (d_lenS Try.underlying23 rfl ?_)
      refine WL.opG rfl rfl rfl (d_cmp (decide (s ≥ ((d.acc.length : Nat) : Int))) rfl rfl rfl ?_)
      refine WL.op rfl (d_pick rfl rfl ?_)
      refine WL.done (X.then_code ?_)
      refine W.pick [21, 6, 3, 1, 2] (Γ' := [(21, .bool (decide (s ≥ ((d.acc.length : Nat) : Int)))), (6, .int .i64 0), (3, .pointer (some ⟨w.heap.size, 0, none⟩)), (1, .int .i64 s), (2, .slice worda word.length wordc)]) rfl ?_
      refine W.ite (p := s ≥ ((d.acc.length : Nat) : Int)) rfl (fun c27 => ?_) (fun c27 => ?_)
      · skip
        refine W.seq ?_
        refine W.region ?_
        refine WL.op rfl (d_assign rfl ?_)
        refine WL.done (X.then_code ?_)
        refine W.ret (X.then_ret (X.ret1 rfl rfl ?_))
        exact ⟨(by first | rw [runF_no (.inl g27)] | rw [runF_no (.inr (by omega))]), H2.noneL⟩
      · skip
        refine W.skip (X.then_code ?_)
        refine W.seq ?_
        refine W.seq ?_
        refine W.region ?_
        refine WL.op rfl (d_assign rfl ?_)
        refine WL.done (X.then_code ?_)
        refine W.block ?_
        refine W.pick [7, 6, 3, 1, 2] (Γ' := [(7, .int .i64 0), (6, .int .i64 0), (3, .pointer (some ⟨w.heap.size, 0, none⟩)), (1, .int .i64 s), (2, .slice worda word.length wordc)]) rfl ?_
        refine W.loop (fun m Γ' w' => ∃ k : Nat, ∃ q : Int, Γ' = [(7, .int .i64 ((k : Nat) : Int)), (6, .int .i64 0), (3, .pointer (some ⟨w.heap.size, 0, none⟩)), (1, .int .i64 q), (2, .slice worda word.length wordc)] ∧ UpG w [] w' [[blk w.heap.size #[.slice dca d.cls.length dcc, .int .i64 d.width, .int .i64 d.start, .slice dna d.next.length dnc, .slice dba d.acc.length dbc] 25]] ∧ (k ≤ word.length) ∧ (0 ≤ q ∧ q < (d.acc.length : Int)) ∧ (runF d s word = runFrom d word k q) ∧ m = word.length - k) (word.length - 0) ⟨0, s, rfl, H2, (by first | assumption | omega | simp), (by omega), (by exact runF_go g27 (by omega) (by omega)), rfl⟩ ?_
        rintro m1 Γ1 w3 ⟨k, q, rfl, H3, hk, hq, hr, rfl⟩
        refine W.seq ?_
        refine W.seq ?_
        refine W.region ?_
        refine WL.op rfl (d_move rfl ?_)
        refine WL.op rfl (d_move rfl ?_)
        refine WL.op rfl (d_lenS Try.underlying22 rfl ?_)
        refine WL.op rfl (d_cmp (decide (((k : Nat) : Int) < ((word.length : Nat) : Int))) rfl rfl rfl ?_)
        refine WL.done (X.then_code ?_)
        refine W.ite (p := ((k : Nat) : Int) < ((word.length : Nat) : Int)) rfl (fun c30 => ?_) (fun c30 => ?_)
        · skip
          refine W.skip (X.then_code ?_)
          refine W.seq ?_
          refine W.block ?_
          refine W.seq ?_
          refine W.seq ?_
          refine W.region ?_
          refine WL.op rfl (d_move rfl ?_)
          refine WL.op rfl (d_move rfl ?_)
          refine WL.op rfl (t_addr1 k (T := (tyI .i64)) rfl Try.underlying22 sz3 rfl rfl (rword.at H3) rfl (by omega) ?_)
          refine WL.op rfl (t_load1 k 0 (T := (tyI .i64)) rfl Try.underlying3 rfl rfl (rword.at H3) (by omega) rfl ?_)
          refine WL.op rfl (d_cmp (decide ((word.getD k 0) < (0 : Int))) rfl rfl rfl ?_)
          refine WL.op rfl (d_move rfl ?_)
          refine WL.part 33 (p := (word.getD k 0) < (0 : Int)) rfl (fun g31 => ?_) (fun g31 => ?_)
          · skip
            refine WL.opN rfl rfl rfl rfl ?_
            refine WL.opN rfl rfl rfl rfl ?_
            refine WL.opN rfl rfl rfl rfl ?_
            refine WL.opN rfl rfl rfl rfl ?_
            refine WL.opN rfl rfl rfl rfl ?_
            refine WL.op rfl (d_pick rfl rfl ?_)
            refine WL.done (X.then_code ?_)
            refine W.pick [39, 38, 37, 36, 35, 34, 33, 32, 31, 30, 29, 28, 25, 24, 23, 22, 7, 6, 3, 1, 2] (Γ' := [(39, .bool true), (38, undef), (37, undef), (36, undef), (35, undef), (34, undef), (33, .bool true), (32, .bool (decide ((word.getD k 0) < (0 : Int)))), (31, .int .i64 (word.getD k 0)), (30, elemPtr (.slice worda word.length wordc) k), (29, .int .i64 ((k : Nat) : Int)), (28, .slice worda word.length wordc), (25, .bool (decide (((k : Nat) : Int) < ((word.length : Nat) : Int)))), (24, .int .i64 ((word.length : Nat) : Int)), (23, .slice worda word.length wordc), (22, .int .i64 ((k : Nat) : Int)), (7, .int .i64 ((k : Nat) : Int)), (6, .int .i64 0), (3, .pointer (some ⟨w.heap.size, 0, none⟩)), (1, .int .i64 q), (2, .slice worda word.length wordc)]) rfl ?_
            refine W.ift rfl ?_
            refine W.seq ?_
            refine W.region ?_
            refine WL.op rfl (d_assign rfl ?_)
            refine WL.done (X.then_code ?_)
            refine W.pick [6, 39, 38, 37, 36, 35, 34, 33, 32, 31, 30, 29, 28, 25, 24, 23, 22, 7, 3, 1, 2] (Γ' := [(6, .int .i64 (-1)), (39, .bool true), (38, undef), (37, undef), (36, undef), (35, undef), (34, undef), (33, .bool true), (32, .bool (decide ((word.getD k 0) < (0 : Int)))), (31, .int .i64 (word.getD k 0)), (30, elemPtr (.slice worda word.length wordc) k), (29, .int .i64 ((k : Nat) : Int)), (28, .slice worda word.length wordc), (25, .bool (decide (((k : Nat) : Int) < ((word.length : Nat) : Int)))), (24, .int .i64 ((word.length : Nat) : Int)), (23, .slice worda word.length wordc), (22, .int .i64 ((k : Nat) : Int)), (7, .int .i64 ((k : Nat) : Int)), (3, .pointer (some ⟨w.heap.size, 0, none⟩)), (1, .int .i64 q), (2, .slice worda word.length wordc)]) rfl ?_
            refine W.ret (X.then_ret (X.block_ret (X.then_ret (X.then_ret (X.block_ret (X.then_ret (X.ret1 rfl rfl ?_)))))))
            exact ⟨(by rw [hr, runFrom_bad (by omega) (by omega)]), H3.noneL⟩
          · skip
            refine WL.opG rfl rfl rfl (d_move rfl ?_)
            refine WL.opG rfl rfl rfl (d_move rfl ?_)
            refine WL.opG rfl rfl rfl (t_addr1 k (T := (tyI .i64)) rfl Try.underlying22 sz3 rfl rfl (rword.at H3) rfl (by omega) ?_)
            refine WL.opG rfl rfl rfl (t_load1 k 0 (T := (tyI .i64)) rfl Try.underlying3 rfl rfl (rword.at H3) (by omega) rfl ?_)
            refine WL.opG rfl rfl rfl (d_cmp (decide ((word.getD k 0) > (258 : Int))) rfl rfl rfl ?_)
            refine WL.op rfl (d_pick rfl rfl ?_)
            refine WL.done (X.then_code ?_)
            refine W.pick [39, 38, 37, 36, 35, 34, 33, 32, 31, 30, 29, 28, 25, 24, 23, 22, 7, 6, 3, 1, 2] (Γ' := [(39, .bool (decide ((word.getD k 0) > (258 : Int)))), (38, .bool (decide ((word.getD k 0) > (258 : Int)))), (37, .int .i64 (word.getD k 0)), (36, elemPtr (.slice worda word.length wordc) k), (35, .int .i64 ((k : Nat) : Int)), (34, .slice worda word.length wordc), (33, .bool false), (32, .bool (decide ((word.getD k 0) < (0 : Int)))), (31, .int .i64 (word.getD k 0)), (30, elemPtr (.slice worda word.length wordc) k), (29, .int .i64 ((k : Nat) : Int)), (28, .slice worda word.length wordc), (25, .bool (decide (((k : Nat) : Int) < ((word.length : Nat) : Int)))), (24, .int .i64 ((word.length : Nat) : Int)), (23, .slice worda word.length wordc), (22, .int .i64 ((k : Nat) : Int)), (7, .int .i64 ((k : Nat) : Int)), (6, .int .i64 0), (3, .pointer (some ⟨w.heap.size, 0, none⟩)), (1, .int .i64 q), (2, .slice worda word.length wordc)]) rfl ?_
            refine W.ite (p := (word.getD k 0) > (258 : Int)) rfl (fun c31 => ?_) (fun c31 => ?_)
            · skip
              refine W.seq ?_
              refine W.region ?_
              refine WL.op rfl (d_assign rfl ?_)
              refine WL.done (X.then_code ?_)
              refine W.pick [6, 39, 38, 37, 36, 35, 34, 33, 32, 31, 30, 29, 28, 25, 24, 23, 22, 7, 3, 1, 2] (Γ' := [(6, .int .i64 (-1)), (39, .bool (decide ((word.getD k 0) > (258 : Int)))), (38, .bool (decide ((word.getD k 0) > (258 : Int)))), (37, .int .i64 (word.getD k 0)), (36, elemPtr (.slice worda word.length wordc) k), (35, .int .i64 ((k : Nat) : Int)), (34, .slice worda word.length wordc), (33, .bool false), (32, .bool (decide ((word.getD k 0) < (0 : Int)))), (31, .int .i64 (word.getD k 0)), (30, elemPtr (.slice worda word.length wordc) k), (29, .int .i64 ((k : Nat) : Int)), (28, .slice worda word.length wordc), (25, .bool (decide (((k : Nat) : Int) < ((word.length : Nat) : Int)))), (24, .int .i64 ((word.length : Nat) : Int)), (23, .slice worda word.length wordc), (22, .int .i64 ((k : Nat) : Int)), (7, .int .i64 ((k : Nat) : Int)), (3, .pointer (some ⟨w.heap.size, 0, none⟩)), (1, .int .i64 q), (2, .slice worda word.length wordc)]) rfl ?_
              refine W.ret (X.then_ret (X.block_ret (X.then_ret (X.then_ret (X.block_ret (X.then_ret (X.ret1 rfl rfl ?_)))))))
              exact ⟨(by rw [hr, runFrom_bad (by omega) (by omega)]), H3.noneL⟩
            · skip
              refine W.skip (X.then_code ?_)
              refine W.pick [39, 38, 37, 36, 35, 34, 33, 32, 31, 30, 29, 28, 25, 24, 23, 22, 7, 6, 3, 1, 2] (Γ' := [(39, .bool (decide ((word.getD k 0) > (258 : Int)))), (38, .bool (decide ((word.getD k 0) > (258 : Int)))), (37, .int .i64 (word.getD k 0)), (36, elemPtr (.slice worda word.length wordc) k), (35, .int .i64 ((k : Nat) : Int)), (34, .slice worda word.length wordc), (33, .bool false), (32, .bool (decide ((word.getD k 0) < (0 : Int)))), (31, .int .i64 (word.getD k 0)), (30, elemPtr (.slice worda word.length wordc) k), (29, .int .i64 ((k : Nat) : Int)), (28, .slice worda word.length wordc), (25, .bool (decide (((k : Nat) : Int) < ((word.length : Nat) : Int)))), (24, .int .i64 ((word.length : Nat) : Int)), (23, .slice worda word.length wordc), (22, .int .i64 ((k : Nat) : Int)), (7, .int .i64 ((k : Nat) : Int)), (6, .int .i64 0), (3, .pointer (some ⟨w.heap.size, 0, none⟩)), (1, .int .i64 q), (2, .slice worda word.length wordc)]) rfl ?_
              have hrt : rightB d = true := by simpa using g27
              have hcx := right_sym (c := word.getD k 0) hrt (by omega) (by omega)
              have hix := right_idx hrt hq.1 hq.2 hcx.2.1 hcx.2.2.1
              refine W.regionD mixed (by kernel_rfl) fun hok1 w4 k1 => ?_
              have H4 : UpG w [] w4 [[blk w.heap.size #[.slice dca d.cls.length dcc, .int .i64 d.width, .int .i64 d.start, .slice dna d.next.length dnc, .slice dba d.acc.length dbc] 25]] := H3.kept k1
              refine WD.take hok1 0 (.pointer (some ⟨w.heap.size, 3, none⟩)) (fun _ => True) rfl rfl rfl rfl rfl trivial (.inl ⟨rfl, fun _ _ => d_fieldAddrB fld25_3 rfl rfl ⟨rfl, rfl⟩⟩) ?_
              refine WD.take hok1 1 (.slice dna d.next.length dnc) (fun w' => w'.heap[w.heap.size]? = some (.cells #[.slice dca d.cls.length dcc, .int .i64 d.width, .int .i64 d.start, .slice dna d.next.length dnc, .slice dba d.acc.length dbc] 25 (0, 0))) rfl rfl rfl rfl rfl (H4.blk 0 rfl) (.inl ⟨rfl, fun _ hC => d_loadB Try.underlying22 rfl rfl hC rfl ⟨rfl, rfl⟩⟩) ?_
              refine WD.take hok1 2 (.int .i64 q) (fun _ => True) rfl rfl rfl rfl rfl trivial (.inl ⟨rfl, fun _ _ => d_move rfl ⟨rfl, rfl⟩⟩) ?_
              refine WD.take hok1 3 (.pointer (some ⟨w.heap.size, 1, none⟩)) (fun _ => True) rfl rfl rfl rfl rfl trivial (.inl ⟨rfl, fun _ _ => d_fieldAddrB fld25_1 rfl rfl ⟨rfl, rfl⟩⟩) ?_
              refine WD.take hok1 4 (.int .i64 d.width) (fun w' => w'.heap[w.heap.size]? = some (.cells #[.slice dca d.cls.length dcc, .int .i64 d.width, .int .i64 d.start, .slice dna d.next.length dnc, .slice dba d.acc.length dbc] 25 (0, 0))) rfl rfl rfl rfl rfl (H4.blk 0 rfl) (.inl ⟨rfl, fun _ hC => d_loadB Try.underlying3 rfl rfl hC rfl ⟨rfl, rfl⟩⟩) ?_
              refine WD.take hok1 5 (.int .i64 (q * d.width)) (fun _ => True) rfl rfl rfl rfl rfl trivial (.inl ⟨rfl, fun _ _ => d_mul rfl rfl (by omega) (by omega) ⟨rfl, rfl⟩⟩) ?_
              refine WD.take hok1 6 (.pointer (some ⟨w.heap.size, 0, none⟩)) (fun _ => True) rfl rfl rfl rfl rfl trivial (.inl ⟨rfl, fun _ _ => d_fieldAddrB fld25_0 rfl rfl ⟨rfl, rfl⟩⟩) ?_
              refine WD.take hok1 7 (.slice dca d.cls.length dcc) (fun w' => w'.heap[w.heap.size]? = some (.cells #[.slice dca d.cls.length dcc, .int .i64 d.width, .int .i64 d.start, .slice dna d.next.length dnc, .slice dba d.acc.length dbc] 25 (0, 0))) rfl rfl rfl rfl rfl (H4.blk 0 rfl) (.inl ⟨rfl, fun _ hC => d_loadB Try.underlying22 rfl rfl hC rfl ⟨rfl, rfl⟩⟩) ?_
              refine WD.take hok1 8 (.slice worda word.length wordc) (fun _ => True) rfl rfl rfl rfl rfl trivial (.inl ⟨rfl, fun _ _ => d_move rfl ⟨rfl, rfl⟩⟩) ?_
              refine WD.take hok1 9 (.int .i64 ((k : Nat) : Int)) (fun _ => True) rfl rfl rfl rfl rfl trivial (.inl ⟨rfl, fun _ _ => d_move rfl ⟨rfl, rfl⟩⟩) ?_
              refine WD.take hok1 10 (elemPtr (.slice worda word.length wordc) k) (fun w' => RdT (tyI .i64) w' (.slice worda word.length wordc) word) rfl rfl rfl rfl rfl (rword.at H4) (.inl ⟨rfl, fun _ hC => t_addr1 k (T := (tyI .i64)) rfl Try.underlying22 sz3 rfl rfl hC rfl (by omega) ⟨rfl, rfl⟩⟩) ?_
              refine WD.take hok1 11 (.int .i64 (word.getD k 0)) (fun w' => RdT (tyI .i64) w' (.slice worda word.length wordc) word) rfl rfl rfl rfl rfl (rword.at H4) (.inl ⟨rfl, fun _ hC => t_load1 k 0 (T := (tyI .i64)) rfl Try.underlying3 rfl rfl hC (by omega) rfl ⟨rfl, rfl⟩⟩) ?_
              refine WD.take hok1 12 (elemPtr (.slice dca d.cls.length dcc) ((word.getD k 0).toNat)) (fun w' => RdT (tyI .i64) w' (.slice dca d.cls.length dcc) d.cls) rfl rfl rfl rfl rfl (rcd.at H4) (.inl ⟨rfl, fun _ hC => t_addr1 ((word.getD k 0).toNat) (T := (tyI .i64)) rfl Try.underlying22 sz3 rfl rfl hC (by omega) (by omega) ⟨rfl, rfl⟩⟩) ?_
              refine WD.take hok1 13 (.int .i64 (d.cls.getD ((word.getD k 0).toNat) 0)) (fun w' => RdT (tyI .i64) w' (.slice dca d.cls.length dcc) d.cls) rfl rfl rfl rfl rfl (rcd.at H4) (.inl ⟨rfl, fun _ hC => t_load1 ((word.getD k 0).toNat) 0 (T := (tyI .i64)) rfl Try.underlying3 rfl rfl hC (by omega) rfl ⟨rfl, rfl⟩⟩) ?_
              refine WD.take hok1 14 (.int .i64 ((q * d.width) + (d.cls.getD ((word.getD k 0).toNat) 0))) (fun _ => True) rfl rfl rfl rfl rfl trivial (.inl ⟨rfl, fun _ _ => d_add rfl rfl (by omega) (by omega) ⟨rfl, rfl⟩⟩) ?_
              refine WD.take hok1 15 (elemPtr (.slice dna d.next.length dnc) (((q * d.width) + (d.cls.getD ((word.getD k 0).toNat) 0)).toNat)) (fun w' => RdT (tyI .i64) w' (.slice dna d.next.length dnc) d.next) rfl rfl rfl rfl rfl (rnd.at H4) (.inl ⟨rfl, fun _ hC => t_addr1 (((q * d.width) + (d.cls.getD ((word.getD k 0).toNat) 0)).toNat) (T := (tyI .i64)) rfl Try.underlying22 sz3 rfl rfl hC (by omega) (by omega) ⟨rfl, rfl⟩⟩) ?_
              refine WD.take hok1 16 (.int .i64 (d.next.getD (((q * d.width) + (d.cls.getD ((word.getD k 0).toNat) 0)).toNat) 0)) (fun w' => RdT (tyI .i64) w' (.slice dna d.next.length dnc) d.next) rfl rfl rfl rfl rfl (rnd.at H4) (.inl ⟨rfl, fun _ hC => t_load1 (((q * d.width) + (d.cls.getD ((word.getD k 0).toNat) 0)).toNat) 0 (T := (tyI .i64)) rfl Try.underlying3 rfl rfl hC (by omega) rfl ⟨rfl, rfl⟩⟩) ?_
              refine WD.take hok1 17 (.int .i64 (d.next.getD (((q * d.width) + (d.cls.getD ((word.getD k 0).toNat) 0)).toNat) 0)) (fun _ => True) rfl rfl rfl rfl rfl trivial (.inl ⟨rfl, fun _ _ => d_assign rfl ⟨rfl, rfl⟩⟩) ?_
              refine WD.done hok1 rfl (X.block_normal (X.then_code ?_))
              refine W.pick [1, 56, 55, 54, 53, 52, 51, 50, 49, 48, 47, 46, 45, 44, 43, 42, 41, 40, 39, 38, 37, 36, 35, 34, 33, 32, 31, 30, 29, 28, 25, 24, 23, 22, 7, 6, 3, 2] (Γ' := [(1, .int .i64 (d.next.getD (((q * d.width) + (d.cls.getD ((word.getD k 0).toNat) 0)).toNat) 0)), (56, .int .i64 (d.next.getD (((q * d.width) + (d.cls.getD ((word.getD k 0).toNat) 0)).toNat) 0)), (55, elemPtr (.slice dna d.next.length dnc) (((q * d.width) + (d.cls.getD ((word.getD k 0).toNat) 0)).toNat)), (54, .int .i64 ((q * d.width) + (d.cls.getD ((word.getD k 0).toNat) 0))), (53, .int .i64 (d.cls.getD ((word.getD k 0).toNat) 0)), (52, elemPtr (.slice dca d.cls.length dcc) ((word.getD k 0).toNat)), (51, .int .i64 (word.getD k 0)), (50, elemPtr (.slice worda word.length wordc) k), (49, .int .i64 ((k : Nat) : Int)), (48, .slice worda word.length wordc), (47, .slice dca d.cls.length dcc), (46, .pointer (some ⟨w.heap.size, 0, none⟩)), (45, .int .i64 (q * d.width)), (44, .int .i64 d.width), (43, .pointer (some ⟨w.heap.size, 1, none⟩)), (42, .int .i64 q), (41, .slice dna d.next.length dnc), (40, .pointer (some ⟨w.heap.size, 3, none⟩)), (39, .bool (decide ((word.getD k 0) > (258 : Int)))), (38, .bool (decide ((word.getD k 0) > (258 : Int)))), (37, .int .i64 (word.getD k 0)), (36, elemPtr (.slice worda word.length wordc) k), (35, .int .i64 ((k : Nat) : Int)), (34, .slice worda word.length wordc), (33, .bool false), (32, .bool (decide ((word.getD k 0) < (0 : Int)))), (31, .int .i64 (word.getD k 0)), (30, elemPtr (.slice worda word.length wordc) k), (29, .int .i64 ((k : Nat) : Int)), (28, .slice worda word.length wordc), (25, .bool (decide (((k : Nat) : Int) < ((word.length : Nat) : Int)))), (24, .int .i64 ((word.length : Nat) : Int)), (23, .slice worda word.length wordc), (22, .int .i64 ((k : Nat) : Int)), (7, .int .i64 ((k : Nat) : Int)), (6, .int .i64 0), (3, .pointer (some ⟨w.heap.size, 0, none⟩)), (2, .slice worda word.length wordc)]) rfl ?_
              refine W.region ?_
              refine WL.op rfl (d_move rfl ?_)
              refine WL.op rfl (d_add rfl rfl (by omega) (by omega) ?_)
              refine WL.op rfl (d_assign rfl ?_)
              refine WL.done ?_
              exact X.next [7, 6, 3, 1, 2] (Γ' := [(7, .int .i64 (((k + 1) : Nat) : Int)), (6, .int .i64 0), (3, .pointer (some ⟨w.heap.size, 0, none⟩)), (1, .int .i64 (d.next.getD (((q * d.width) + (d.cls.getD ((word.getD k 0).toNat) 0)).toNat) 0)), (2, .slice worda word.length wordc)]) rfl (word.length - (k + 1)) (by omega) ⟨k + 1, d.next.getD (((q * d.width) + (d.cls.getD ((word.getD k 0).toNat) 0)).toNat) 0, rfl, H4, (by first | assumption | omega | simp), (by omega), (by rw [hr]; exact runFrom_step (by omega) (by omega) (by omega)), rfl⟩
        · skip
          refine W.exit (X.then_exit (X.then_exit (X.block_exit (X.then_code ?_))))
          refine W.seq ?_
          refine W.region ?_
          refine WL.op rfl (d_move rfl ?_)
          refine WL.op rfl (d_assign rfl ?_)
          refine WL.done (X.then_code ?_)
          refine W.ret (X.ret1 rfl rfl ?_)
          exact ⟨(by rw [hr, runFrom_end (by omega)]), H3.noneL⟩

set_option maxRecDepth 20000 in
theorem cloneI_any (sa : Option Addr) (s : List Int) (sc : Nat) (w : World) (rs : RdT (tyI .i64) w (.slice sa s.length sc) s) (hl : s.length * 8 ≤ 140737488355328) :
    Calls Try.prog 66 #[.slice sa s.length sc] w (Ret fun v w' => ∃ a2 : Option Addr, ∃ c2 : Nat, v = .slice a2 s.length c2 ∧ Upd w [] w' [rowT (tyI .i64) (.slice a2 s.length c2) 3 s]) := by
  have le_rs := rs.le
  refine calls_of_W (args := [.slice sa s.length sc]) Try.func66 rfl rfl rfl ?_
  have H0 : UpG w [] w [] := UpG.nil w
  show W _ _ _ _ [(0, .slice sa s.length sc)] w
  refine W.seq ?_
  refine W.region ?_
  refine WL.op rfl (d_assign rfl ?_)
  refine WL.done (X.then_code ?_)
  refine W.seq ?_
  refine W.seq ?_
  refine W.region ?_
  refine WL.op rfl (d_move rfl ?_)
  refine WL.op rfl (d_slcnil Try.underlying22 rfl ?_)
  refine WL.done (X.then_code ?_)
  refine W.ite (p := sa = none) rfl (fun c357 => ?_) (fun c357 => ?_)
  · skip
    refine W.seq ?_
    refine W.region ?_
    refine WL.op rfl (d_assign rfl ?_)
    refine WL.done (X.then_code ?_)
    refine W.ret (X.then_ret (X.ret1 rfl rfl ?_))
    have e : s = [] := rs.nilOf c357
    subst e
    exact ⟨none, 0, (by rfl), nilOwn H0⟩
  · skip
    refine W.skip (X.then_code ?_)
    refine W.seq ?_
    refine W.region ?_
    refine WL.op rfl (t_buildSlice0 (T := (tyI .i64)) rfl Try.underlying22 sz3 fun w1 u1 => ?_)
    have H1 : UpG w [] w1 [[rowT (tyI .i64) (.slice (some ⟨w.heap.size, 0, none⟩) (([] : List Int).length) 0) 3 ([] : List Int)]] := H0.new' u1
    refine WL.op rfl (d_move rfl ?_)
    refine WL.op rfl (t_append (T := (tyI .i64)) (xs := ([] : List Int)) (ys := s) rfl Try.underlying22 sz3 rfl rfl rfl (H1.ownT 0 rfl) (rs.at H1) (by simp; omega) (by simp; omega) fun a1 c1 w2 u2 => ?_)
    have H2 : UpG w [] w2 [[rowT (tyI .i64) (.slice a1 ((([] : List Int) ++ s).length) c1) 3 (([] : List Int) ++ s)]] := H1.on 0 rfl u2
    refine WL.op rfl (d_assign rfl ?_)
    refine WL.done (X.then_code ?_)
    refine W.ret (X.ret1 rfl rfl ?_)
    exact ⟨a1, c1, (by rfl), (by have hh := H2.one 0 rfl; exact hh)⟩

set_option maxRecDepth 20000 in
theorem used_any (d : DfaD) (dca : Option Addr) (dna : Option Addr) (dba : Option Addr) (dcc : Nat) (dnc : Nat) (dbc : Nat) (w : World) (rcd : RdT (tyI .i64) w (.slice dca d.cls.length dcc) d.cls) (rnd : RdT (tyI .i64) w (.slice dna d.next.length dnc) d.next) (rbd : RdT tyB w (.slice dba d.acc.length dbc) d.acc) (hl : d.cls.length ≤ 1000) :
    Calls Try.prog 57 #[.agg #[.slice dca d.cls.length dcc, .int .i64 d.width, .int .i64 d.start, .slice dna d.next.length dnc, .slice dba d.acc.length dbc]] w (Ret fun v w' => ∃ a2 : Option Addr, ∃ c2 : Nat, v = .slice a2 ((usedI d).length) c2 ∧ Upd w [] w' [rowT (tyI .i64) (.slice a2 ((usedI d).length) c2) 3 (usedI d)]) := by
  have le_rcd := rcd.le
  have le_rnd := rnd.le
  have le_rbd := rbd.le
  refine calls_of_W (args := [.agg #[.slice dca d.cls.length dcc, .int .i64 d.width, .int .i64 d.start, .slice dna d.next.length dnc, .slice dba d.acc.length dbc]]) Try.func57 rfl rfl rfl ?_
  have H0 : UpG w [] w [] := UpG.nil w
  show W _ _ _ _ [(0, .agg #[.slice dca d.cls.length dcc, .int .i64 d.width, .int .i64 d.start, .slice dna d.next.length dnc, .slice dba d.acc.length dbc])] w
  refine W.seq ?_
  refine W.region ?_
  refine WL.op rfl (d_box rfl fun w1 u1 => ?_)
  have H1 : UpG w [] w1 [[blk w.heap.size #[.slice dca d.cls.length dcc, .int .i64 d.width, .int .i64 d.start, .slice dna d.next.length dnc, .slice dba d.acc.length dbc] 25]] := H0.new' u1
  refine WL.op rfl (d_assign rfl ?_)
  refine WL.done (X.then_code ?_)
  refine W.seq ?_
  refine W.region ?_
  refine WL.op rfl (d_fieldAddrB fld25_0 rfl rfl ?_)
  refine WL.op rfl (d_loadB Try.underlying22 rfl rfl (H1.blk 0 rfl) rfl ?_)
  refine WL.op rfl (d_call ok66 rfl (Ret.calls (cloneI_any dca d.cls dcc w1 (rcd.at H1) (by omega)) fun _ w2 p1 => ?_))
  obtain ⟨a2_1, c2_1, rfl, u2⟩ := p1
  have H2 : UpG w [] w2 [[blk w.heap.size #[.slice dca d.cls.length dcc, .int .i64 d.width, .int .i64 d.start, .slice dna d.next.length dnc, .slice dba d.acc.length dbc] 25], [rowT (tyI .i64) (.slice a2_1 d.cls.length c2_1) 3 d.cls]] := (H1.new' u2).re rfl
  refine WL.op rfl (d_assign rfl ?_)
  refine WL.done (X.then_code ?_)
  refine W.seq ?_
  refine W.region ?_
  refine WL.op rfl (d_move rfl ?_)
  refine WL.op rfl (d_call ok90 rfl (Ret.calls (sort_any a2_1 d.cls c2_1 d.cls.length w2 (H2.hpOf 1 rfl)  rfl (by omega)) fun _ w3 p2 => ?_))
  obtain ⟨rfl, u3⟩ := p2
  have H3 : UpG w [] w3 [[blk w.heap.size #[.slice dca d.cls.length dcc, .int .i64 d.width, .int .i64 d.start, .slice dna d.next.length dnc, .slice dba d.acc.length dbc] 25], [rowT (tyI .i64) (.slice a2_1 d.cls.length c2_1) 3 (sortI d.cls)]] := H2.on 1 rfl u3
  refine WL.done (X.then_code ?_)
  refine W.seq ?_
  refine W.region ?_
  refine WL.op rfl (d_move rfl ?_)
  refine WL.op rfl (d_call ok91 rfl (Ret.calls (compact_any a2_1 (sortI d.cls) c2_1 d.cls.length w3 (H3.hpOf 1 rfl)  ((sortI_len _).symm) (by rw [sortI_len]; omega)) fun _ w4 p3 => ?_))
  obtain ⟨rfl, u4⟩ := p3
  have H4 : UpG w [] w4 [[blk w.heap.size #[.slice dca d.cls.length dcc, .int .i64 d.width, .int .i64 d.start, .slice dna d.next.length dnc, .slice dba d.acc.length dbc] 25], [rowT (tyI .i64) (.slice a2_1 ((Lib.compact (sortI d.cls)).length) c2_1) 3 (Lib.compact (sortI d.cls))]] := H3.on 1 rfl u4
  refine WL.op rfl (d_assign rfl ?_)
  refine WL.done (X.then_code ?_)
  refine W.ret (X.ret1 rfl rfl ?_)
  exact ⟨a2_1, c2_1, (by rfl), (by have hh := H4.one 1 rfl; exact hh)⟩
end Go.Proofs.Ytoeockpkkmgieaa
