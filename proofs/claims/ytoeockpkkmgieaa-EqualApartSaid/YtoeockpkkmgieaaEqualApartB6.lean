/- The walks of functions, printed by wip/tools/gw.py. -/
import Derived.Test.YtoeockpkkmgieaaEqualApartB1
import Derived.Test.YtoeockpkkmgieaaEqualApartB2
namespace Go.Proofs.Ytoeockpkkmgieaa
open Go Go.Sx
set_option linter.unusedVariables false
set_option linter.unusedSimpArgs false
set_option maxRecDepth 20000 in
theorem small_any (d : DfaD) (dca : Option Addr) (dna : Option Addr) (dba : Option Addr) (dcc : Nat) (dnc : Nat) (dbc : Nat) (w : World) (rcd : RdT (tyI .i64) w (.slice dca d.cls.length dcc) d.cls) (rnd : RdT (tyI .i64) w (.slice dna d.next.length dnc) d.next) (rbd : RdT tyB w (.slice dba d.acc.length dbc) d.acc) :
    Calls Try.prog 17 #[.agg #[.slice dca d.cls.length dcc, .int .i64 d.width, .int .i64 d.start, .slice dna d.next.length dnc, .slice dba d.acc.length dbc]] w (Ret fun v w' => v = .bool (smallB d) ∧ Upd w [] w' []) := by
  have le_rcd := rcd.le
  have le_rnd := rnd.le
  have le_rbd := rbd.le
  refine calls_of_W (args := [.agg #[.slice dca d.cls.length dcc, .int .i64 d.width, .int .i64 d.start, .slice dna d.next.length dnc, .slice dba d.acc.length dbc]]) Try.func17 rfl rfl rfl ?_
  have H0 : UpG w [] w [] := UpG.nil w
  show W _ _ _ _ [(0, .agg #[.slice dca d.cls.length dcc, .int .i64 d.width, .int .i64 d.start, .slice dna d.next.length dnc, .slice dba d.acc.length dbc])] w
  refine W.seq ?_
  refine W.region ?_
  refine WL.op rfl (d_box rfl fun w1 u1 => ?_)
  have H1 : UpG w [] w1 [[blk w.heap.size #[.slice dca d.cls.length dcc, .int .i64 d.width, .int .i64 d.start, .slice dna d.next.length dnc, .slice dba d.acc.length dbc] 25]] := H0.new' u1
  refine WL.op rfl (d_assign rfl ?_)
  refine WL.done (X.then_code ?_)
  refine W.seq ?_
  refine W.region ?_
  refine WL.op rfl (d_fieldAddrB fld25_4 rfl rfl ?_)
  refine WL.op rfl (d_loadB Try.underlying23 rfl rfl (H1.blk 0 rfl) rfl ?_)
  refine WL.op rfl (d_lenS Try.underlying23 rfl ?_)
  refine WL.op rfl (d_cmp (decide (((d.acc.length : Nat) : Int) ≤ (12 : Int))) rfl rfl rfl ?_)
  refine WL.op rfl (d_move rfl ?_)
  refine WL.part 7 (p := ((d.acc.length : Nat) : Int) ≤ (12 : Int)) rfl (fun g21 => ?_) (fun g21 => ?_)
  · skip
    refine WL.opG rfl rfl rfl (d_fieldAddrB fld25_3 rfl rfl ?_)
    refine WL.opG rfl rfl rfl (d_loadB Try.underlying22 rfl rfl (H1.blk 0 rfl) rfl ?_)
    refine WL.opG rfl rfl rfl (d_lenS Try.underlying22 rfl ?_)
    refine WL.opG rfl rfl rfl (d_cmp (decide (((d.next.length : Nat) : Int) ≤ (4000 : Int))) rfl rfl rfl ?_)
    refine WL.op rfl (d_pick rfl rfl ?_)
    refine WL.op rfl (d_move rfl ?_)
    refine WL.part 13 (p := ((d.next.length : Nat) : Int) ≤ (4000 : Int)) rfl (fun g21x => ?_) (fun g21x => ?_)
    · skip
      refine WL.opG rfl rfl rfl (d_fieldAddrB fld25_0 rfl rfl ?_)
      refine WL.opG rfl rfl rfl (d_loadB Try.underlying22 rfl rfl (H1.blk 0 rfl) rfl ?_)
      refine WL.opG rfl rfl rfl (d_lenS Try.underlying22 rfl ?_)
      refine WL.opG rfl rfl rfl (d_cmp (decide (((d.cls.length : Nat) : Int) ≤ (300 : Int))) rfl rfl rfl ?_)
      refine WL.op rfl (d_pick rfl rfl ?_)
      refine WL.op rfl (d_assign rfl ?_)
      refine WL.done (X.then_code ?_)
      refine W.pick [2] (Γ' := [(2, .bool (decide (((d.cls.length : Nat) : Int) ≤ (300 : Int))))]) rfl ?_
      refine W.ret (X.ret1 rfl rfl ?_)
      exact ⟨(by first | exact congrArg Value.bool (decide_eq_decide.2 (by omega)) | exact congrArg Value.bool (Eq.symm (decide_eq_false (by omega)))), H1.noneL⟩
    · skip
      refine WL.opN rfl rfl rfl rfl ?_
      refine WL.opN rfl rfl rfl rfl ?_
      refine WL.opN rfl rfl rfl rfl ?_
      refine WL.opN rfl rfl rfl rfl ?_
      refine WL.op rfl (d_pick rfl rfl ?_)
      refine WL.op rfl (d_assign rfl ?_)
      refine WL.done (X.then_code ?_)
      refine W.pick [2] (Γ' := [(2, .bool false)]) rfl ?_
      refine W.ret (X.ret1 rfl rfl ?_)
      exact ⟨(by first | exact congrArg Value.bool (decide_eq_decide.2 (by omega)) | exact congrArg Value.bool (Eq.symm (decide_eq_false (by omega)))), H1.noneL⟩
  · skip
    refine WL.opN rfl rfl rfl rfl ?_
    refine WL.opN rfl rfl rfl rfl ?_
    refine WL.opN rfl rfl rfl rfl ?_
    refine WL.opN rfl rfl rfl rfl ?_
    refine WL.op rfl (d_pick rfl rfl ?_)
    refine WL.op rfl (d_move rfl ?_)
    refine WL.opN rfl rfl rfl rfl ?_
    refine WL.opN rfl rfl rfl rfl ?_
    refine WL.opN rfl rfl rfl rfl ?_
    refine WL.opN rfl rfl rfl rfl ?_
    refine WL.op rfl (d_pick rfl rfl ?_)
    refine WL.op rfl (d_assign rfl ?_)
    refine WL.done (X.then_code ?_)
    refine W.pick [2] (Γ' := [(2, .bool false)]) rfl ?_
    refine W.ret (X.ret1 rfl rfl ?_)
    exact ⟨(by first | exact congrArg Value.bool (decide_eq_decide.2 (by omega)) | exact congrArg Value.bool (Eq.symm (decide_eq_false (by omega)))), H1.noneL⟩

set_option maxRecDepth 20000 in
theorem refRight_any (d : DfaD) (dca : Option Addr) (dna : Option Addr) (dba : Option Addr) (dcc : Nat) (dnc : Nat) (dbc : Nat) (w : World) (rcd : RdT (tyI .i64) w (.slice dca d.cls.length dcc) d.cls) (rnd : RdT (tyI .i64) w (.slice dna d.next.length dnc) d.next) (rbd : RdT tyB w (.slice dba d.acc.length dbc) d.acc) :
    Calls Try.prog 20 #[.agg #[.slice dca d.cls.length dcc, .int .i64 d.width, .int .i64 d.start, .slice dna d.next.length dnc, .slice dba d.acc.length dbc]] w (Ret fun v w' => v = .bool (rightB d) ∧ Upd w [] w' []) := by
  have le_rcd := rcd.le
  have le_rnd := rnd.le
  have le_rbd := rbd.le
  refine calls_of_W (args := [.agg #[.slice dca d.cls.length dcc, .int .i64 d.width, .int .i64 d.start, .slice dna d.next.length dnc, .slice dba d.acc.length dbc]]) Try.func20 rfl rfl rfl ?_
  have H0 : UpG w [] w [] := UpG.nil w
  show W _ _ _ _ [(0, .agg #[.slice dca d.cls.length dcc, .int .i64 d.width, .int .i64 d.start, .slice dna d.next.length dnc, .slice dba d.acc.length dbc])] w
  refine W.seq ?_
  refine W.region ?_
  refine WL.op rfl (d_box rfl fun w1 u1 => ?_)
  have H1 : UpG w [] w1 [[blk w.heap.size #[.slice dca d.cls.length dcc, .int .i64 d.width, .int .i64 d.start, .slice dna d.next.length dnc, .slice dba d.acc.length dbc] 25]] := H0.new' u1
  refine WL.op rfl (d_assign rfl ?_)
  refine WL.done (X.then_code ?_)
  refine W.seq ?_
  refine W.region ?_
  refine WL.op rfl (d_fieldAddrB fld25_4 rfl rfl ?_)
  refine WL.op rfl (d_loadB Try.underlying23 rfl rfl (H1.blk 0 rfl) rfl ?_)
  refine WL.op rfl (d_lenS Try.underlying23 rfl ?_)
  refine WL.op rfl (d_assign rfl ?_)
  refine WL.done (X.then_code ?_)
  refine W.seq ?_
  refine W.seq ?_
  refine W.region ?_
  refine WL.op rfl (d_fieldAddrB fld25_0 rfl rfl ?_)
  refine WL.op rfl (d_loadB Try.underlying22 rfl rfl (H1.blk 0 rfl) rfl ?_)
  refine WL.op rfl (d_lenS Try.underlying22 rfl ?_)
  refine WL.op rfl (d_cmp (decide (((d.cls.length : Nat) : Int) ≠ (259 : Int))) rfl rfl rfl ?_)
  refine WL.op rfl (d_move rfl ?_)
  refine WL.part 13 (p := ((d.cls.length : Nat) : Int) ≠ (259 : Int)) rfl (fun g9 => ?_) (fun g9 => ?_)
  · skip
    refine WL.opN rfl rfl rfl rfl ?_
    refine WL.opN rfl rfl rfl rfl ?_
    refine WL.opN rfl rfl rfl rfl ?_
    refine WL.op rfl (d_pick rfl rfl ?_)
    refine WL.op rfl (d_move rfl ?_)
    refine WL.opN rfl rfl rfl rfl ?_
    refine WL.opN rfl rfl rfl rfl ?_
    refine WL.opN rfl rfl rfl rfl ?_
    refine WL.op rfl (d_pick rfl rfl ?_)
    refine WL.op rfl (d_move rfl ?_)
    refine WL.opN rfl rfl rfl rfl ?_
    refine WL.opN rfl rfl rfl rfl ?_
    refine WL.op rfl (d_pick rfl rfl ?_)
    refine WL.op rfl (d_move rfl ?_)
    refine WL.opN rfl rfl rfl rfl ?_
    refine WL.opN rfl rfl rfl rfl ?_
    refine WL.op rfl (d_pick rfl rfl ?_)
    refine WL.op rfl (d_move rfl ?_)
    refine WL.opN rfl rfl rfl rfl ?_
    refine WL.opN rfl rfl rfl rfl ?_
    refine WL.opN rfl rfl rfl rfl ?_
    refine WL.opN rfl rfl rfl rfl ?_
    refine WL.opN rfl rfl rfl rfl ?_
    refine WL.opN rfl rfl rfl rfl ?_
    refine WL.opN rfl rfl rfl rfl ?_
    refine WL.opN rfl rfl rfl rfl ?_
    refine WL.op rfl (d_pick rfl rfl ?_)
    refine WL.op rfl (d_move rfl ?_)
    refine WL.opN rfl rfl rfl rfl ?_
    refine WL.opN rfl rfl rfl rfl ?_
    refine WL.opN rfl rfl rfl rfl ?_
    refine WL.op rfl (d_pick rfl rfl ?_)
    refine WL.op rfl (d_move rfl ?_)
    refine WL.opN rfl rfl rfl rfl ?_
    refine WL.opN rfl rfl rfl rfl ?_
    refine WL.opN rfl rfl rfl rfl ?_
    refine WL.opN rfl rfl rfl rfl ?_
    refine WL.op rfl (d_pick rfl rfl ?_)
    refine WL.done (X.then_code ?_)
    refine W.pick [51, 3, 2, 1] (Γ' := [(51, .bool true), (3, .int .i64 ((d.acc.length : Nat) : Int)), (2, .bool false), (1, .pointer (some ⟨w.heap.size, 0, none⟩))]) rfl ?_
    refine W.ift rfl ?_
    refine W.seq ?_
    refine W.region ?_
    refine WL.op rfl (d_assign rfl ?_)
    refine WL.done (X.then_code ?_)
    refine W.ret (X.then_ret (X.ret1 rfl rfl ?_))
    have h : rightB d = false := (Bool.eq_false_iff).2 (fun hb => by have h9 := rightB_iff.1 hb; omega)
    exact ⟨(by rw [h]), H1.noneL⟩
  · skip
    refine WL.opG rfl rfl rfl (d_fieldAddrB fld25_1 rfl rfl ?_)
    refine WL.opG rfl rfl rfl (d_loadB Try.underlying3 rfl rfl (H1.blk 0 rfl) rfl ?_)
    refine WL.opG rfl rfl rfl (d_cmp (decide (d.width < (1 : Int))) rfl rfl rfl ?_)
    refine WL.op rfl (d_pick rfl rfl ?_)
    refine WL.op rfl (d_move rfl ?_)
    refine WL.part 18 (p := d.width < (1 : Int)) rfl (fun g9x => ?_) (fun g9x => ?_)
    · skip
      refine WL.opN rfl rfl rfl rfl ?_
      refine WL.opN rfl rfl rfl rfl ?_
      refine WL.opN rfl rfl rfl rfl ?_
      refine WL.op rfl (d_pick rfl rfl ?_)
      refine WL.op rfl (d_move rfl ?_)
      refine WL.opN rfl rfl rfl rfl ?_
      refine WL.opN rfl rfl rfl rfl ?_
      refine WL.op rfl (d_pick rfl rfl ?_)
      refine WL.op rfl (d_move rfl ?_)
      refine WL.opN rfl rfl rfl rfl ?_
      refine WL.opN rfl rfl rfl rfl ?_
      refine WL.op rfl (d_pick rfl rfl ?_)
      refine WL.op rfl (d_move rfl ?_)
      refine WL.opN rfl rfl rfl rfl ?_
      refine WL.opN rfl rfl rfl rfl ?_
      refine WL.opN rfl rfl rfl rfl ?_
      refine WL.opN rfl rfl rfl rfl ?_
      refine WL.opN rfl rfl rfl rfl ?_
      refine WL.opN rfl rfl rfl rfl ?_
      refine WL.opN rfl rfl rfl rfl ?_
      refine WL.opN rfl rfl rfl rfl ?_
      refine WL.op rfl (d_pick rfl rfl ?_)
      refine WL.op rfl (d_move rfl ?_)
      refine WL.opN rfl rfl rfl rfl ?_
      refine WL.opN rfl rfl rfl rfl ?_
      refine WL.opN rfl rfl rfl rfl ?_
      refine WL.op rfl (d_pick rfl rfl ?_)
      refine WL.op rfl (d_move rfl ?_)
      refine WL.opN rfl rfl rfl rfl ?_
      refine WL.opN rfl rfl rfl rfl ?_
      refine WL.opN rfl rfl rfl rfl ?_
      refine WL.opN rfl rfl rfl rfl ?_
      refine WL.op rfl (d_pick rfl rfl ?_)
      refine WL.done (X.then_code ?_)
      refine W.pick [51, 3, 2, 1] (Γ' := [(51, .bool true), (3, .int .i64 ((d.acc.length : Nat) : Int)), (2, .bool false), (1, .pointer (some ⟨w.heap.size, 0, none⟩))]) rfl ?_
      refine W.ift rfl ?_
      refine W.seq ?_
      refine W.region ?_
      refine WL.op rfl (d_assign rfl ?_)
      refine WL.done (X.then_code ?_)
      refine W.ret (X.then_ret (X.ret1 rfl rfl ?_))
      have h : rightB d = false := (Bool.eq_false_iff).2 (fun hb => by have h9 := rightB_iff.1 hb; omega)
      exact ⟨(by rw [h]), H1.noneL⟩
    · skip
      refine WL.opG rfl rfl rfl (d_fieldAddrB fld25_1 rfl rfl ?_)
      refine WL.opG rfl rfl rfl (d_loadB Try.underlying3 rfl rfl (H1.blk 0 rfl) rfl ?_)
      refine WL.opG rfl rfl rfl (d_cmp (decide (d.width > (259 : Int))) rfl rfl rfl ?_)
      refine WL.op rfl (d_pick rfl rfl ?_)
      refine WL.op rfl (d_move rfl ?_)
      refine WL.part 23 (p := d.width > (259 : Int)) rfl (fun g9xx => ?_) (fun g9xx => ?_)
      · skip
        refine WL.opN rfl rfl rfl rfl ?_
        refine WL.opN rfl rfl rfl rfl ?_
        refine WL.op rfl (d_pick rfl rfl ?_)
        refine WL.op rfl (d_move rfl ?_)
        refine WL.opN rfl rfl rfl rfl ?_
        refine WL.opN rfl rfl rfl rfl ?_
        refine WL.op rfl (d_pick rfl rfl ?_)
        refine WL.op rfl (d_move rfl ?_)
        refine WL.opN rfl rfl rfl rfl ?_
        refine WL.opN rfl rfl rfl rfl ?_
        refine WL.opN rfl rfl rfl rfl ?_
        refine WL.opN rfl rfl rfl rfl ?_
        refine WL.opN rfl rfl rfl rfl ?_
        refine WL.opN rfl rfl rfl rfl ?_
        refine WL.opN rfl rfl rfl rfl ?_
        refine WL.opN rfl rfl rfl rfl ?_
        refine WL.op rfl (d_pick rfl rfl ?_)
        refine WL.op rfl (d_move rfl ?_)
        refine WL.opN rfl rfl rfl rfl ?_
        refine WL.opN rfl rfl rfl rfl ?_
        refine WL.opN rfl rfl rfl rfl ?_
        refine WL.op rfl (d_pick rfl rfl ?_)
        refine WL.op rfl (d_move rfl ?_)
        refine WL.opN rfl rfl rfl rfl ?_
        refine WL.opN rfl rfl rfl rfl ?_
        refine WL.opN rfl rfl rfl rfl ?_
        refine WL.opN rfl rfl rfl rfl ?_
        refine WL.op rfl (d_pick rfl rfl ?_)
        refine WL.done (X.then_code ?_)
        refine W.pick [51, 3, 2, 1] (Γ' := [(51, .bool true), (3, .int .i64 ((d.acc.length : Nat) : Int)), (2, .bool false), (1, .pointer (some ⟨w.heap.size, 0, none⟩))]) rfl ?_
        refine W.ift rfl ?_
        refine W.seq ?_
        refine W.region ?_
        refine WL.op rfl (d_assign rfl ?_)
        refine WL.done (X.then_code ?_)
        refine W.ret (X.then_ret (X.ret1 rfl rfl ?_))
        have h : rightB d = false := (Bool.eq_false_iff).2 (fun hb => by have h9 := rightB_iff.1 hb; omega)
        exact ⟨(by rw [h]), H1.noneL⟩
      · skip
        refine WL.opG rfl rfl rfl (d_move rfl ?_)
        refine WL.opG rfl rfl rfl (d_cmp (decide (((d.acc.length : Nat) : Int) < (1 : Int))) rfl rfl rfl ?_)
        refine WL.op rfl (d_pick rfl rfl ?_)
        refine WL.op rfl (d_move rfl ?_)
        refine WL.part 27 (p := ((d.acc.length : Nat) : Int) < (1 : Int)) rfl (fun g9xxx => ?_) (fun g9xxx => ?_)
        · skip
          refine WL.opN rfl rfl rfl rfl ?_
          refine WL.opN rfl rfl rfl rfl ?_
          refine WL.op rfl (d_pick rfl rfl ?_)
          refine WL.op rfl (d_move rfl ?_)
          refine WL.opN rfl rfl rfl rfl ?_
          refine WL.opN rfl rfl rfl rfl ?_
          refine WL.opN rfl rfl rfl rfl ?_
          refine WL.opN rfl rfl rfl rfl ?_
          refine WL.opN rfl rfl rfl rfl ?_
          refine WL.opN rfl rfl rfl rfl ?_
          refine WL.opN rfl rfl rfl rfl ?_
          refine WL.opN rfl rfl rfl rfl ?_
          refine WL.op rfl (d_pick rfl rfl ?_)
          refine WL.op rfl (d_move rfl ?_)
          refine WL.opN rfl rfl rfl rfl ?_
          refine WL.opN rfl rfl rfl rfl ?_
          refine WL.opN rfl rfl rfl rfl ?_
          refine WL.op rfl (d_pick rfl rfl ?_)
          refine WL.op rfl (d_move rfl ?_)
          refine WL.opN rfl rfl rfl rfl ?_
          refine WL.opN rfl rfl rfl rfl ?_
          refine WL.opN rfl rfl rfl rfl ?_
          refine WL.opN rfl rfl rfl rfl ?_
          refine WL.op rfl (d_pick rfl rfl ?_)
          refine WL.done (X.then_code ?_)
          refine W.pick [51, 3, 2, 1] (Γ' := [(51, .bool true), (3, .int .i64 ((d.acc.length : Nat) : Int)), (2, .bool false), (1, .pointer (some ⟨w.heap.size, 0, none⟩))]) rfl ?_
          refine W.ift rfl ?_
          refine W.seq ?_
          refine W.region ?_
          refine WL.op rfl (d_assign rfl ?_)
          refine WL.done (X.then_code ?_)
          refine W.ret (X.then_ret (X.ret1 rfl rfl ?_))
          have h : rightB d = false := (Bool.eq_false_iff).2 (fun hb => by have h9 := rightB_iff.1 hb; omega)
          exact ⟨(by rw [h]), H1.noneL⟩
        · skip
          refine WL.opG rfl rfl rfl (d_move rfl ?_)
          refine WL.opG rfl rfl rfl (d_cmp (decide (((d.acc.length : Nat) : Int) > (4096 : Int))) rfl rfl rfl ?_)
          refine WL.op rfl (d_pick rfl rfl ?_)
          refine WL.op rfl (d_move rfl ?_)
          refine WL.part 31 (p := ((d.acc.length : Nat) : Int) > (4096 : Int)) rfl (fun g9xxxx => ?_) (fun g9xxxx => ?_)
          · skip
            refine WL.opN rfl rfl rfl rfl ?_
            refine WL.opN rfl rfl rfl rfl ?_
            refine WL.opN rfl rfl rfl rfl ?_
            refine WL.opN rfl rfl rfl rfl ?_
            refine WL.opN rfl rfl rfl rfl ?_
            refine WL.opN rfl rfl rfl rfl ?_
            refine WL.opN rfl rfl rfl rfl ?_
            refine WL.opN rfl rfl rfl rfl ?_
            refine WL.op rfl (d_pick rfl rfl ?_)
            refine WL.op rfl (d_move rfl ?_)
            refine WL.opN rfl rfl rfl rfl ?_
            refine WL.opN rfl rfl rfl rfl ?_
            refine WL.opN rfl rfl rfl rfl ?_
            refine WL.op rfl (d_pick rfl rfl ?_)
            refine WL.op rfl (d_move rfl ?_)
            refine WL.opN rfl rfl rfl rfl ?_
            refine WL.opN rfl rfl rfl rfl ?_
            refine WL.opN rfl rfl rfl rfl ?_
            refine WL.opN rfl rfl rfl rfl ?_
            refine WL.op rfl (d_pick rfl rfl ?_)
            refine WL.done (X.then_code ?_)
            refine W.pick [51, 3, 2, 1] (Γ' := [(51, .bool true), (3, .int .i64 ((d.acc.length : Nat) : Int)), (2, .bool false), (1, .pointer (some ⟨w.heap.size, 0, none⟩))]) rfl ?_
            refine W.ift rfl ?_
            refine W.seq ?_
            refine W.region ?_
            refine WL.op rfl (d_assign rfl ?_)
            refine WL.done (X.then_code ?_)
            refine W.ret (X.then_ret (X.ret1 rfl rfl ?_))
            have h : rightB d = false := (Bool.eq_false_iff).2 (fun hb => by have h9 := rightB_iff.1 hb; omega)
            exact ⟨(by rw [h]), H1.noneL⟩
          · skip
            refine WL.opG rfl rfl rfl (d_fieldAddrB fld25_3 rfl rfl ?_)
            refine WL.opG rfl rfl rfl (d_loadB Try.underlying22 rfl rfl (H1.blk 0 rfl) rfl ?_)
            refine WL.opG rfl rfl rfl (d_lenS Try.underlying22 rfl ?_)
            refine WL.opG rfl rfl rfl (d_move rfl ?_)
            refine WL.opG rfl rfl rfl (d_fieldAddrB fld25_1 rfl rfl ?_)
            refine WL.opG rfl rfl rfl (d_loadB Try.underlying3 rfl rfl (H1.blk 0 rfl) rfl ?_)
            refine WL.opG rfl rfl rfl (d_mul rfl rfl (by have := mul_bd (a := (d.acc.length : Int)) (b := d.width) (A := 4096) (B := 259) (by omega) (by omega) (by omega) (by omega); omega) (by have := mul_bd (a := (d.acc.length : Int)) (b := d.width) (A := 4096) (B := 259) (by omega) (by omega) (by omega) (by omega); omega) ?_)
            refine WL.opG rfl rfl rfl (d_cmp (decide (((d.next.length : Nat) : Int) ≠ (((d.acc.length : Nat) : Int) * d.width))) rfl rfl rfl ?_)
            refine WL.op rfl (d_pick rfl rfl ?_)
            refine WL.op rfl (d_move rfl ?_)
            refine WL.part 41 (p := ((d.next.length : Nat) : Int) ≠ (((d.acc.length : Nat) : Int) * d.width)) rfl (fun g9xxxxx => ?_) (fun g9xxxxx => ?_)
            · skip
              refine WL.opN rfl rfl rfl rfl ?_
              refine WL.opN rfl rfl rfl rfl ?_
              refine WL.opN rfl rfl rfl rfl ?_
              refine WL.op rfl (d_pick rfl rfl ?_)
              refine WL.op rfl (d_move rfl ?_)
              refine WL.opN rfl rfl rfl rfl ?_
              refine WL.opN rfl rfl rfl rfl ?_
              refine WL.opN rfl rfl rfl rfl ?_
              refine WL.opN rfl rfl rfl rfl ?_
              refine WL.op rfl (d_pick rfl rfl ?_)
              refine WL.done (X.then_code ?_)
              refine W.pick [51, 3, 2, 1] (Γ' := [(51, .bool true), (3, .int .i64 ((d.acc.length : Nat) : Int)), (2, .bool false), (1, .pointer (some ⟨w.heap.size, 0, none⟩))]) rfl ?_
              refine W.ift rfl ?_
              refine W.seq ?_
              refine W.region ?_
              refine WL.op rfl (d_assign rfl ?_)
              refine WL.done (X.then_code ?_)
              refine W.ret (X.then_ret (X.ret1 rfl rfl ?_))
              have h : rightB d = false := (Bool.eq_false_iff).2 (fun hb => by have h9 := rightB_iff.1 hb; omega)
              exact ⟨(by rw [h]), H1.noneL⟩
            · skip
              refine WL.opG rfl rfl rfl (d_fieldAddrB fld25_2 rfl rfl ?_)
              refine WL.opG rfl rfl rfl (d_loadB Try.underlying3 rfl rfl (H1.blk 0 rfl) rfl ?_)
              refine WL.opG rfl rfl rfl (d_cmp (decide (d.start < (0 : Int))) rfl rfl rfl ?_)
              refine WL.op rfl (d_pick rfl rfl ?_)
              refine WL.op rfl (d_move rfl ?_)
              refine WL.part 46 (p := d.start < (0 : Int)) rfl (fun g9xxxxxx => ?_) (fun g9xxxxxx => ?_)
              · skip
                refine WL.opN rfl rfl rfl rfl ?_
                refine WL.opN rfl rfl rfl rfl ?_
                refine WL.opN rfl rfl rfl rfl ?_
                refine WL.opN rfl rfl rfl rfl ?_
                refine WL.op rfl (d_pick rfl rfl ?_)
                refine WL.done (X.then_code ?_)
                refine W.pick [51, 3, 2, 1] (Γ' := [(51, .bool true), (3, .int .i64 ((d.acc.length : Nat) : Int)), (2, .bool false), (1, .pointer (some ⟨w.heap.size, 0, none⟩))]) rfl ?_
                refine W.ift rfl ?_
                refine W.seq ?_
                refine W.region ?_
                refine WL.op rfl (d_assign rfl ?_)
                refine WL.done (X.then_code ?_)
                refine W.ret (X.then_ret (X.ret1 rfl rfl ?_))
                have h : rightB d = false := (Bool.eq_false_iff).2 (fun hb => by have h9 := rightB_iff.1 hb; omega)
                exact ⟨(by rw [h]), H1.noneL⟩
              · skip
                refine WL.opG rfl rfl rfl (d_fieldAddrB fld25_2 rfl rfl ?_)
                refine WL.opG rfl rfl rfl (d_loadB Try.underlying3 rfl rfl (H1.blk 0 rfl) rfl ?_)
                refine WL.opG rfl rfl rfl (d_move rfl ?_)
                refine WL.opG rfl rfl rfl (d_cmp (decide (d.start ≥ ((d.acc.length : Nat) : Int))) rfl rfl rfl ?_)
                refine WL.op rfl (d_pick rfl rfl ?_)
                refine WL.done (X.then_code ?_)
                refine W.pick [51, 3, 2, 1] (Γ' := [(51, .bool (decide (d.start ≥ ((d.acc.length : Nat) : Int)))), (3, .int .i64 ((d.acc.length : Nat) : Int)), (2, .bool false), (1, .pointer (some ⟨w.heap.size, 0, none⟩))]) rfl ?_
                refine W.ite (p := d.start ≥ ((d.acc.length : Nat) : Int)) rfl (fun c9 => ?_) (fun c9 => ?_)
                · skip
                  refine W.seq ?_
                  refine W.region ?_
                  refine WL.op rfl (d_assign rfl ?_)
                  refine WL.done (X.then_code ?_)
                  refine W.ret (X.then_ret (X.ret1 rfl rfl ?_))
                  have h : rightB d = false := (Bool.eq_false_iff).2 (fun hb => by have h9 := rightB_iff.1 hb; omega)
                  exact ⟨(by rw [h]), H1.noneL⟩
                · skip
                  refine W.skip (X.then_code ?_)
                  refine W.seq ?_
                  refine W.seq ?_
                  refine W.region ?_
                  refine WL.op rfl (d_assign rfl ?_)
                  refine WL.done (X.then_code ?_)
                  refine W.block ?_
                  refine W.pick [4, 3, 2, 1] (Γ' := [(4, .int .i64 0), (3, .int .i64 ((d.acc.length : Nat) : Int)), (2, .bool false), (1, .pointer (some ⟨w.heap.size, 0, none⟩))]) rfl ?_
                  refine W.loop (fun m Γ' w' => ∃ k : Nat, Γ' = [(4, .int .i64 ((k : Nat) : Int)), (3, .int .i64 ((d.acc.length : Nat) : Int)), (2, .bool false), (1, .pointer (some ⟨w.heap.size, 0, none⟩))] ∧ UpG w [] w' [[blk w.heap.size #[.slice dca d.cls.length dcc, .int .i64 d.width, .int .i64 d.start, .slice dna d.next.length dnc, .slice dba d.acc.length dbc] 25]] ∧ (k ≤ d.cls.length) ∧ (∀ i, i < k → 0 ≤ d.cls.getD i 0 ∧ d.cls.getD i 0 < d.width) ∧ m = d.cls.length - k) (d.cls.length - 0) ⟨0, rfl, H1, (by first | assumption | omega | simp), (by intro i hi; omega), rfl⟩ ?_
                  rintro m1 Γ1 w2 ⟨k, rfl, H2, hk, hc, rfl⟩
                  refine W.seq ?_
                  refine W.seq ?_
                  refine W.region ?_
                  refine WL.op rfl (d_move rfl ?_)
                  refine WL.op rfl (d_fieldAddrB fld25_0 rfl rfl ?_)
                  refine WL.op rfl (d_loadB Try.underlying22 rfl rfl (H2.blk 0 rfl) rfl ?_)
                  refine WL.op rfl (d_lenS Try.underlying22 rfl ?_)
                  refine WL.op rfl (d_cmp (decide (((k : Nat) : Int) < ((d.cls.length : Nat) : Int))) rfl rfl rfl ?_)
                  refine WL.done (X.then_code ?_)
                  refine W.ite (p := ((k : Nat) : Int) < ((d.cls.length : Nat) : Int)) rfl (fun c12 => ?_) (fun c12 => ?_)
                  · skip
                    refine W.skip (X.then_code ?_)
                    refine W.seq ?_
                    refine W.block ?_
                    refine W.seq ?_
                    refine W.regionD mixed (by kernel_rfl) fun hok1 w3 k1 => ?_
                    have H3 : UpG w [] w3 [[blk w.heap.size #[.slice dca d.cls.length dcc, .int .i64 d.width, .int .i64 d.start, .slice dna d.next.length dnc, .slice dba d.acc.length dbc] 25]] := H2.kept k1
                    refine WD.take hok1 0 (.pointer (some ⟨w.heap.size, 0, none⟩)) (fun _ => True) rfl rfl rfl rfl rfl trivial (.inl ⟨rfl, fun _ _ => d_fieldAddrB fld25_0 rfl rfl ⟨rfl, rfl⟩⟩) ?_
                    refine WD.take hok1 1 (.slice dca d.cls.length dcc) (fun w' => w'.heap[w.heap.size]? = some (.cells #[.slice dca d.cls.length dcc, .int .i64 d.width, .int .i64 d.start, .slice dna d.next.length dnc, .slice dba d.acc.length dbc] 25 (0, 0))) rfl rfl rfl rfl rfl (H3.blk 0 rfl) (.inl ⟨rfl, fun _ hC => d_loadB Try.underlying22 rfl rfl hC rfl ⟨rfl, rfl⟩⟩) ?_
                    refine WD.take hok1 2 (.int .i64 ((k : Nat) : Int)) (fun _ => True) rfl rfl rfl rfl rfl trivial (.inl ⟨rfl, fun _ _ => d_move rfl ⟨rfl, rfl⟩⟩) ?_
                    refine WD.take hok1 3 (elemPtr (.slice dca d.cls.length dcc) k) (fun w' => RdT (tyI .i64) w' (.slice dca d.cls.length dcc) d.cls) rfl rfl rfl rfl rfl (rcd.at H3) (.inl ⟨rfl, fun _ hC => t_addr1 k (T := (tyI .i64)) rfl Try.underlying22 sz3 rfl rfl hC rfl (by omega) ⟨rfl, rfl⟩⟩) ?_
                    refine WD.take hok1 4 (.int .i64 (d.cls.getD k 0)) (fun w' => RdT (tyI .i64) w' (.slice dca d.cls.length dcc) d.cls) rfl rfl rfl rfl rfl (rcd.at H3) (.inl ⟨rfl, fun _ hC => t_load1 k 0 (T := (tyI .i64)) rfl Try.underlying3 rfl rfl hC (by omega) rfl ⟨rfl, rfl⟩⟩) ?_
                    refine WD.take hok1 5 (.bool (decide ((d.cls.getD k 0) < (0 : Int)))) (fun _ => True) rfl rfl rfl rfl rfl trivial (.inl ⟨rfl, fun _ _ => d_cmp (decide ((d.cls.getD k 0) < (0 : Int))) rfl rfl rfl ⟨rfl, rfl⟩⟩) ?_
                    refine WD.take hok1 6 (.bool (decide ((d.cls.getD k 0) < (0 : Int)))) (fun _ => True) rfl rfl rfl rfl rfl trivial (.inl ⟨rfl, fun _ _ => d_move rfl ⟨rfl, rfl⟩⟩) ?_
                    refine WD.part 65 (p := (d.cls.getD k 0) < (0 : Int)) rfl (fun g13 => ?_) (fun g13 => ?_)
                    · skip
                      refine WD.take hok1 7 undef (fun _ => True) rfl rfl rfl rfl rfl trivial (.inr ⟨rfl, rfl⟩) ?_
                      refine WD.take hok1 8 undef (fun _ => True) rfl rfl rfl rfl rfl trivial (.inr ⟨rfl, rfl⟩) ?_
                      refine WD.take hok1 9 undef (fun _ => True) rfl rfl rfl rfl rfl trivial (.inr ⟨rfl, rfl⟩) ?_
                      refine WD.take hok1 10 undef (fun _ => True) rfl rfl rfl rfl rfl trivial (.inr ⟨rfl, rfl⟩) ?_
                      refine WD.take hok1 11 undef (fun _ => True) rfl rfl rfl rfl rfl trivial (.inr ⟨rfl, rfl⟩) ?_
                      refine WD.take hok1 12 undef (fun _ => True) rfl rfl rfl rfl rfl trivial (.inr ⟨rfl, rfl⟩) ?_
                      refine WD.take hok1 13 undef (fun _ => True) rfl rfl rfl rfl rfl trivial (.inr ⟨rfl, rfl⟩) ?_
                      refine WD.take hok1 14 undef (fun _ => True) rfl rfl rfl rfl rfl trivial (.inr ⟨rfl, rfl⟩) ?_
                      refine WD.take hok1 15 (.bool true) (fun _ => True) rfl rfl rfl rfl rfl trivial (.inl ⟨rfl, fun _ _ => d_pick rfl rfl ⟨rfl, rfl⟩⟩) ?_
                      refine WD.done hok1 rfl (X.then_code ?_)
                      refine W.pick [74, 73, 72, 71, 70, 69, 68, 67, 66, 65, 64, 63, 62, 61, 60, 59, 56, 55, 54, 53, 52, 4, 3, 2, 1] (Γ' := [(74, .bool true), (73, undef), (72, undef), (71, undef), (70, undef), (69, undef), (68, undef), (67, undef), (66, undef), (65, .bool true), (64, .bool (decide ((d.cls.getD k 0) < (0 : Int)))), (63, .int .i64 (d.cls.getD k 0)), (62, elemPtr (.slice dca d.cls.length dcc) k), (61, .int .i64 ((k : Nat) : Int)), (60, .slice dca d.cls.length dcc), (59, .pointer (some ⟨w.heap.size, 0, none⟩)), (56, .bool (decide (((k : Nat) : Int) < ((d.cls.length : Nat) : Int)))), (55, .int .i64 ((d.cls.length : Nat) : Int)), (54, .slice dca d.cls.length dcc), (53, .pointer (some ⟨w.heap.size, 0, none⟩)), (52, .int .i64 ((k : Nat) : Int)), (4, .int .i64 ((k : Nat) : Int)), (3, .int .i64 ((d.acc.length : Nat) : Int)), (2, .bool false), (1, .pointer (some ⟨w.heap.size, 0, none⟩))]) rfl ?_
                      refine W.ift rfl ?_
                      refine W.seq ?_
                      refine W.region ?_
                      refine WL.op rfl (d_assign rfl ?_)
                      refine WL.done (X.then_code ?_)
                      refine W.pick [2, 74, 73, 72, 71, 70, 69, 68, 67, 66, 65, 64, 63, 62, 61, 60, 59, 56, 55, 54, 53, 52, 4, 3, 1] (Γ' := [(2, .bool false), (74, .bool true), (73, undef), (72, undef), (71, undef), (70, undef), (69, undef), (68, undef), (67, undef), (66, undef), (65, .bool true), (64, .bool (decide ((d.cls.getD k 0) < (0 : Int)))), (63, .int .i64 (d.cls.getD k 0)), (62, elemPtr (.slice dca d.cls.length dcc) k), (61, .int .i64 ((k : Nat) : Int)), (60, .slice dca d.cls.length dcc), (59, .pointer (some ⟨w.heap.size, 0, none⟩)), (56, .bool (decide (((k : Nat) : Int) < ((d.cls.length : Nat) : Int)))), (55, .int .i64 ((d.cls.length : Nat) : Int)), (54, .slice dca d.cls.length dcc), (53, .pointer (some ⟨w.heap.size, 0, none⟩)), (52, .int .i64 ((k : Nat) : Int)), (4, .int .i64 ((k : Nat) : Int)), (3, .int .i64 ((d.acc.length : Nat) : Int)), (1, .pointer (some ⟨w.heap.size, 0, none⟩))]) rfl ?_
                      refine W.ret (X.block_ret (X.then_ret (X.then_ret (X.block_ret (X.then_ret (X.ret1 rfl rfl ?_))))))
                      have h : rightB d = false := (Bool.eq_false_iff).2 (fun hb => by have h9 := rightB_iff.1 hb; have := within_at h9.2.1 k (by omega); omega)
                      exact ⟨(by rw [h]), H3.noneL⟩
                    · skip
                      refine WD.take hok1 7 (.pointer (some ⟨w.heap.size, 0, none⟩)) (fun _ => True) rfl rfl rfl rfl rfl trivial (.inl ⟨rfl, fun _ _ => d_fieldAddrB fld25_0 rfl rfl ⟨rfl, rfl⟩⟩) ?_
                      refine WD.take hok1 8 (.slice dca d.cls.length dcc) (fun w' => w'.heap[w.heap.size]? = some (.cells #[.slice dca d.cls.length dcc, .int .i64 d.width, .int .i64 d.start, .slice dna d.next.length dnc, .slice dba d.acc.length dbc] 25 (0, 0))) rfl rfl rfl rfl rfl (H3.blk 0 rfl) (.inl ⟨rfl, fun _ hC => d_loadB Try.underlying22 rfl rfl hC rfl ⟨rfl, rfl⟩⟩) ?_
                      refine WD.take hok1 9 (.int .i64 ((k : Nat) : Int)) (fun _ => True) rfl rfl rfl rfl rfl trivial (.inl ⟨rfl, fun _ _ => d_move rfl ⟨rfl, rfl⟩⟩) ?_
                      refine WD.take hok1 10 (elemPtr (.slice dca d.cls.length dcc) k) (fun w' => RdT (tyI .i64) w' (.slice dca d.cls.length dcc) d.cls) rfl rfl rfl rfl rfl (rcd.at H3) (.inl ⟨rfl, fun _ hC => t_addr1 k (T := (tyI .i64)) rfl Try.underlying22 sz3 rfl rfl hC rfl (by omega) ⟨rfl, rfl⟩⟩) ?_
                      refine WD.take hok1 11 (.int .i64 (d.cls.getD k 0)) (fun w' => RdT (tyI .i64) w' (.slice dca d.cls.length dcc) d.cls) rfl rfl rfl rfl rfl (rcd.at H3) (.inl ⟨rfl, fun _ hC => t_load1 k 0 (T := (tyI .i64)) rfl Try.underlying3 rfl rfl hC (by omega) rfl ⟨rfl, rfl⟩⟩) ?_
                      refine WD.take hok1 12 (.pointer (some ⟨w.heap.size, 1, none⟩)) (fun _ => True) rfl rfl rfl rfl rfl trivial (.inl ⟨rfl, fun _ _ => d_fieldAddrB fld25_1 rfl rfl ⟨rfl, rfl⟩⟩) ?_
                      refine WD.take hok1 13 (.int .i64 d.width) (fun w' => w'.heap[w.heap.size]? = some (.cells #[.slice dca d.cls.length dcc, .int .i64 d.width, .int .i64 d.start, .slice dna d.next.length dnc, .slice dba d.acc.length dbc] 25 (0, 0))) rfl rfl rfl rfl rfl (H3.blk 0 rfl) (.inl ⟨rfl, fun _ hC => d_loadB Try.underlying3 rfl rfl hC rfl ⟨rfl, rfl⟩⟩) ?_
                      refine WD.take hok1 14 (.bool (decide ((d.cls.getD k 0) ≥ d.width))) (fun _ => True) rfl rfl rfl rfl rfl trivial (.inl ⟨rfl, fun _ _ => d_cmp (decide ((d.cls.getD k 0) ≥ d.width)) rfl rfl rfl ⟨rfl, rfl⟩⟩) ?_
                      refine WD.take hok1 15 (.bool (decide ((d.cls.getD k 0) ≥ d.width))) (fun _ => True) rfl rfl rfl rfl rfl trivial (.inl ⟨rfl, fun _ _ => d_pick rfl rfl ⟨rfl, rfl⟩⟩) ?_
                      refine WD.done hok1 rfl (X.then_code ?_)
                      refine W.pick [74, 73, 72, 71, 70, 69, 68, 67, 66, 65, 64, 63, 62, 61, 60, 59, 56, 55, 54, 53, 52, 4, 3, 2, 1] (Γ' := [(74, .bool (decide ((d.cls.getD k 0) ≥ d.width))), (73, .bool (decide ((d.cls.getD k 0) ≥ d.width))), (72, .int .i64 d.width), (71, .pointer (some ⟨w.heap.size, 1, none⟩)), (70, .int .i64 (d.cls.getD k 0)), (69, elemPtr (.slice dca d.cls.length dcc) k), (68, .int .i64 ((k : Nat) : Int)), (67, .slice dca d.cls.length dcc), (66, .pointer (some ⟨w.heap.size, 0, none⟩)), (65, .bool false), (64, .bool (decide ((d.cls.getD k 0) < (0 : Int)))), (63, .int .i64 (d.cls.getD k 0)), (62, elemPtr (.slice dca d.cls.length dcc) k), (61, .int .i64 ((k : Nat) : Int)), (60, .slice dca d.cls.length dcc), (59, .pointer (some ⟨w.heap.size, 0, none⟩)), (56, .bool (decide (((k : Nat) : Int) < ((d.cls.length : Nat) : Int)))), (55, .int .i64 ((d.cls.length : Nat) : Int)), (54, .slice dca d.cls.length dcc), (53, .pointer (some ⟨w.heap.size, 0, none⟩)), (52, .int .i64 ((k : Nat) : Int)), (4, .int .i64 ((k : Nat) : Int)), (3, .int .i64 ((d.acc.length : Nat) : Int)), (2, .bool false), (1, .pointer (some ⟨w.heap.size, 0, none⟩))]) rfl ?_
                      refine W.ite (p := (d.cls.getD k 0) ≥ d.width) rfl (fun c13 => ?_) (fun c13 => ?_)
                      · skip
                        refine W.seq ?_
                        refine W.region ?_
                        refine WL.op rfl (d_assign rfl ?_)
                        refine WL.done (X.then_code ?_)
                        refine W.pick [2, 74, 73, 72, 71, 70, 69, 68, 67, 66, 65, 64, 63, 62, 61, 60, 59, 56, 55, 54, 53, 52, 4, 3, 1] (Γ' := [(2, .bool false), (74, .bool (decide ((d.cls.getD k 0) ≥ d.width))), (73, .bool (decide ((d.cls.getD k 0) ≥ d.width))), (72, .int .i64 d.width), (71, .pointer (some ⟨w.heap.size, 1, none⟩)), (70, .int .i64 (d.cls.getD k 0)), (69, elemPtr (.slice dca d.cls.length dcc) k), (68, .int .i64 ((k : Nat) : Int)), (67, .slice dca d.cls.length dcc), (66, .pointer (some ⟨w.heap.size, 0, none⟩)), (65, .bool false), (64, .bool (decide ((d.cls.getD k 0) < (0 : Int)))), (63, .int .i64 (d.cls.getD k 0)), (62, elemPtr (.slice dca d.cls.length dcc) k), (61, .int .i64 ((k : Nat) : Int)), (60, .slice dca d.cls.length dcc), (59, .pointer (some ⟨w.heap.size, 0, none⟩)), (56, .bool (decide (((k : Nat) : Int) < ((d.cls.length : Nat) : Int)))), (55, .int .i64 ((d.cls.length : Nat) : Int)), (54, .slice dca d.cls.length dcc), (53, .pointer (some ⟨w.heap.size, 0, none⟩)), (52, .int .i64 ((k : Nat) : Int)), (4, .int .i64 ((k : Nat) : Int)), (3, .int .i64 ((d.acc.length : Nat) : Int)), (1, .pointer (some ⟨w.heap.size, 0, none⟩))]) rfl ?_
                        refine W.ret (X.block_ret (X.then_ret (X.then_ret (X.block_ret (X.then_ret (X.ret1 rfl rfl ?_))))))
                        have h : rightB d = false := (Bool.eq_false_iff).2 (fun hb => by have h9 := rightB_iff.1 hb; have := within_at h9.2.1 k (by omega); omega)
                        exact ⟨(by rw [h]), H3.noneL⟩
                      · skip
                        refine W.skip (X.block_normal (X.then_code ?_))
                        refine W.pick [74, 73, 72, 71, 70, 69, 68, 67, 66, 65, 64, 63, 62, 61, 60, 59, 56, 55, 54, 53, 52, 4, 3, 2, 1] (Γ' := [(74, .bool (decide ((d.cls.getD k 0) ≥ d.width))), (73, .bool (decide ((d.cls.getD k 0) ≥ d.width))), (72, .int .i64 d.width), (71, .pointer (some ⟨w.heap.size, 1, none⟩)), (70, .int .i64 (d.cls.getD k 0)), (69, elemPtr (.slice dca d.cls.length dcc) k), (68, .int .i64 ((k : Nat) : Int)), (67, .slice dca d.cls.length dcc), (66, .pointer (some ⟨w.heap.size, 0, none⟩)), (65, .bool false), (64, .bool (decide ((d.cls.getD k 0) < (0 : Int)))), (63, .int .i64 (d.cls.getD k 0)), (62, elemPtr (.slice dca d.cls.length dcc) k), (61, .int .i64 ((k : Nat) : Int)), (60, .slice dca d.cls.length dcc), (59, .pointer (some ⟨w.heap.size, 0, none⟩)), (56, .bool (decide (((k : Nat) : Int) < ((d.cls.length : Nat) : Int)))), (55, .int .i64 ((d.cls.length : Nat) : Int)), (54, .slice dca d.cls.length dcc), (53, .pointer (some ⟨w.heap.size, 0, none⟩)), (52, .int .i64 ((k : Nat) : Int)), (4, .int .i64 ((k : Nat) : Int)), (3, .int .i64 ((d.acc.length : Nat) : Int)), (2, .bool false), (1, .pointer (some ⟨w.heap.size, 0, none⟩))]) rfl ?_
                        refine W.region ?_
                        refine WL.op rfl (d_move rfl ?_)
                        refine WL.op rfl (d_add rfl rfl (by omega) (by omega) ?_)
                        refine WL.op rfl (d_assign rfl ?_)
                        refine WL.done ?_
                        exact X.next [4, 3, 2, 1] (Γ' := [(4, .int .i64 (((k + 1) : Nat) : Int)), (3, .int .i64 ((d.acc.length : Nat) : Int)), (2, .bool false), (1, .pointer (some ⟨w.heap.size, 0, none⟩))]) rfl (d.cls.length - (k + 1)) (by omega) ⟨k + 1, rfl, H3, (by first | assumption | omega | simp), (by exact all_step hc (by omega)), rfl⟩
                  · skip
                    refine W.exit (X.then_exit (X.then_exit (X.block_exit (X.then_code ?_))))
                    refine W.seq ?_
                    refine W.seq ?_
                    refine W.region ?_
                    refine WL.op rfl (d_assign rfl ?_)
                    refine WL.done (X.then_code ?_)
                    refine W.block ?_
                    refine W.pick [5, 3, 2, 1] (Γ' := [(5, .int .i64 0), (3, .int .i64 ((d.acc.length : Nat) : Int)), (2, .bool false), (1, .pointer (some ⟨w.heap.size, 0, none⟩))]) rfl ?_
                    refine W.loop (fun m Γ' w' => ∃ j : Nat, Γ' = [(5, .int .i64 ((j : Nat) : Int)), (3, .int .i64 ((d.acc.length : Nat) : Int)), (2, .bool false), (1, .pointer (some ⟨w.heap.size, 0, none⟩))] ∧ UpG w [] w' [[blk w.heap.size #[.slice dca d.cls.length dcc, .int .i64 d.width, .int .i64 d.start, .slice dna d.next.length dnc, .slice dba d.acc.length dbc] 25]] ∧ (j ≤ d.next.length) ∧ (∀ i, i < j → 0 ≤ d.next.getD i 0 ∧ d.next.getD i 0 < (d.acc.length : Int)) ∧ m = d.next.length - j) (d.next.length - 0) ⟨0, rfl, H2, (by first | assumption | omega | simp), (by intro i hi; omega), rfl⟩ ?_
                    rintro m2 Γ2 w4 ⟨j, rfl, H4, hj, hn, rfl⟩
                    refine W.seq ?_
                    refine W.seq ?_
                    refine W.region ?_
                    refine WL.op rfl (d_move rfl ?_)
                    refine WL.op rfl (d_fieldAddrB fld25_3 rfl rfl ?_)
                    refine WL.op rfl (d_loadB Try.underlying22 rfl rfl (H4.blk 0 rfl) rfl ?_)
                    refine WL.op rfl (d_lenS Try.underlying22 rfl ?_)
                    refine WL.op rfl (d_cmp (decide (((j : Nat) : Int) < ((d.next.length : Nat) : Int))) rfl rfl rfl ?_)
                    refine WL.done (X.then_code ?_)
                    refine W.ite (p := ((j : Nat) : Int) < ((d.next.length : Nat) : Int)) rfl (fun c17 => ?_) (fun c17 => ?_)
                    · skip
                      refine W.skip (X.then_code ?_)
                      refine W.seq ?_
                      refine W.block ?_
                      refine W.seq ?_
                      refine W.region ?_
                      refine WL.op rfl (d_fieldAddrB fld25_3 rfl rfl ?_)
                      refine WL.op rfl (d_loadB Try.underlying22 rfl rfl (H4.blk 0 rfl) rfl ?_)
                      refine WL.op rfl (d_move rfl ?_)
                      refine WL.op rfl (t_addr1 j (T := (tyI .i64)) rfl Try.underlying22 sz3 rfl rfl (rnd.at H4) rfl (by omega) ?_)
                      refine WL.op rfl (t_load1 j 0 (T := (tyI .i64)) rfl Try.underlying3 rfl rfl (rnd.at H4) (by omega) rfl ?_)
                      refine WL.op rfl (d_cmp (decide ((d.next.getD j 0) < (0 : Int))) rfl rfl rfl ?_)
                      refine WL.op rfl (d_move rfl ?_)
                      refine WL.part 88 (p := (d.next.getD j 0) < (0 : Int)) rfl (fun g18 => ?_) (fun g18 => ?_)
                      · skip
                        refine WL.opN rfl rfl rfl rfl ?_
                        refine WL.opN rfl rfl rfl rfl ?_
                        refine WL.opN rfl rfl rfl rfl ?_
                        refine WL.opN rfl rfl rfl rfl ?_
                        refine WL.opN rfl rfl rfl rfl ?_
                        refine WL.opN rfl rfl rfl rfl ?_
                        refine WL.opN rfl rfl rfl rfl ?_
                        refine WL.op rfl (d_pick rfl rfl ?_)
                        refine WL.done (X.then_code ?_)
                        refine W.pick [96, 95, 94, 93, 92, 91, 90, 89, 88, 87, 86, 85, 84, 83, 82, 79, 78, 77, 76, 75, 5, 3, 2, 1] (Γ' := [(96, .bool true), (95, undef), (94, undef), (93, undef), (92, undef), (91, undef), (90, undef), (89, undef), (88, .bool true), (87, .bool (decide ((d.next.getD j 0) < (0 : Int)))), (86, .int .i64 (d.next.getD j 0)), (85, elemPtr (.slice dna d.next.length dnc) j), (84, .int .i64 ((j : Nat) : Int)), (83, .slice dna d.next.length dnc), (82, .pointer (some ⟨w.heap.size, 3, none⟩)), (79, .bool (decide (((j : Nat) : Int) < ((d.next.length : Nat) : Int)))), (78, .int .i64 ((d.next.length : Nat) : Int)), (77, .slice dna d.next.length dnc), (76, .pointer (some ⟨w.heap.size, 3, none⟩)), (75, .int .i64 ((j : Nat) : Int)), (5, .int .i64 ((j : Nat) : Int)), (3, .int .i64 ((d.acc.length : Nat) : Int)), (2, .bool false), (1, .pointer (some ⟨w.heap.size, 0, none⟩))]) rfl ?_
                        refine W.ift rfl ?_
                        refine W.seq ?_
                        refine W.region ?_
                        refine WL.op rfl (d_assign rfl ?_)
                        refine WL.done (X.then_code ?_)
                        refine W.pick [2, 96, 95, 94, 93, 92, 91, 90, 89, 88, 87, 86, 85, 84, 83, 82, 79, 78, 77, 76, 75, 5, 3, 1] (Γ' := [(2, .bool false), (96, .bool true), (95, undef), (94, undef), (93, undef), (92, undef), (91, undef), (90, undef), (89, undef), (88, .bool true), (87, .bool (decide ((d.next.getD j 0) < (0 : Int)))), (86, .int .i64 (d.next.getD j 0)), (85, elemPtr (.slice dna d.next.length dnc) j), (84, .int .i64 ((j : Nat) : Int)), (83, .slice dna d.next.length dnc), (82, .pointer (some ⟨w.heap.size, 3, none⟩)), (79, .bool (decide (((j : Nat) : Int) < ((d.next.length : Nat) : Int)))), (78, .int .i64 ((d.next.length : Nat) : Int)), (77, .slice dna d.next.length dnc), (76, .pointer (some ⟨w.heap.size, 3, none⟩)), (75, .int .i64 ((j : Nat) : Int)), (5, .int .i64 ((j : Nat) : Int)), (3, .int .i64 ((d.acc.length : Nat) : Int)), (1, .pointer (some ⟨w.heap.size, 0, none⟩))]) rfl ?_
                        refine W.ret (X.block_ret (X.then_ret (X.then_ret (X.block_ret (X.then_ret (X.ret1 rfl rfl ?_))))))
                        have h : rightB d = false := (Bool.eq_false_iff).2 (fun hb => by have h9 := rightB_iff.1 hb; have := within_at h9.2.2 j (by omega); omega)
                        exact ⟨(by rw [h]), H4.noneL⟩
                      · skip
                        refine WL.opG rfl rfl rfl (d_fieldAddrB fld25_3 rfl rfl ?_)
                        refine WL.opG rfl rfl rfl (d_loadB Try.underlying22 rfl rfl (H4.blk 0 rfl) rfl ?_)
                        refine WL.opG rfl rfl rfl (d_move rfl ?_)
                        refine WL.opG rfl rfl rfl (t_addr1 j (T := (tyI .i64)) rfl Try.underlying22 sz3 rfl rfl (rnd.at H4) rfl (by omega) ?_)
                        refine WL.opG rfl rfl rfl (t_load1 j 0 (T := (tyI .i64)) rfl Try.underlying3 rfl rfl (rnd.at H4) (by omega) rfl ?_)
                        refine WL.opG rfl rfl rfl (d_move rfl ?_)
                        refine WL.opG rfl rfl rfl (d_cmp (decide ((d.next.getD j 0) ≥ ((d.acc.length : Nat) : Int))) rfl rfl rfl ?_)
                        refine WL.op rfl (d_pick rfl rfl ?_)
                        refine WL.done (X.then_code ?_)
                        refine W.pick [96, 95, 94, 93, 92, 91, 90, 89, 88, 87, 86, 85, 84, 83, 82, 79, 78, 77, 76, 75, 5, 3, 2, 1] (Γ' := [(96, .bool (decide ((d.next.getD j 0) ≥ ((d.acc.length : Nat) : Int)))), (95, .bool (decide ((d.next.getD j 0) ≥ ((d.acc.length : Nat) : Int)))), (94, .int .i64 ((d.acc.length : Nat) : Int)), (93, .int .i64 (d.next.getD j 0)), (92, elemPtr (.slice dna d.next.length dnc) j), (91, .int .i64 ((j : Nat) : Int)), (90, .slice dna d.next.length dnc), (89, .pointer (some ⟨w.heap.size, 3, none⟩)), (88, .bool false), (87, .bool (decide ((d.next.getD j 0) < (0 : Int)))), (86, .int .i64 (d.next.getD j 0)), (85, elemPtr (.slice dna d.next.length dnc) j), (84, .int .i64 ((j : Nat) : Int)), (83, .slice dna d.next.length dnc), (82, .pointer (some ⟨w.heap.size, 3, none⟩)), (79, .bool (decide (((j : Nat) : Int) < ((d.next.length : Nat) : Int)))), (78, .int .i64 ((d.next.length : Nat) : Int)), (77, .slice dna d.next.length dnc), (76, .pointer (some ⟨w.heap.size, 3, none⟩)), (75, .int .i64 ((j : Nat) : Int)), (5, .int .i64 ((j : Nat) : Int)), (3, .int .i64 ((d.acc.length : Nat) : Int)), (2, .bool false), (1, .pointer (some ⟨w.heap.size, 0, none⟩))]) rfl ?_
                        refine W.ite (p := (d.next.getD j 0) ≥ ((d.acc.length : Nat) : Int)) rfl (fun c18 => ?_) (fun c18 => ?_)
                        · skip
                          refine W.seq ?_
                          refine W.region ?_
                          refine WL.op rfl (d_assign rfl ?_)
                          refine WL.done (X.then_code ?_)
                          refine W.pick [2, 96, 95, 94, 93, 92, 91, 90, 89, 88, 87, 86, 85, 84, 83, 82, 79, 78, 77, 76, 75, 5, 3, 1] (Γ' := [(2, .bool false), (96, .bool (decide ((d.next.getD j 0) ≥ ((d.acc.length : Nat) : Int)))), (95, .bool (decide ((d.next.getD j 0) ≥ ((d.acc.length : Nat) : Int)))), (94, .int .i64 ((d.acc.length : Nat) : Int)), (93, .int .i64 (d.next.getD j 0)), (92, elemPtr (.slice dna d.next.length dnc) j), (91, .int .i64 ((j : Nat) : Int)), (90, .slice dna d.next.length dnc), (89, .pointer (some ⟨w.heap.size, 3, none⟩)), (88, .bool false), (87, .bool (decide ((d.next.getD j 0) < (0 : Int)))), (86, .int .i64 (d.next.getD j 0)), (85, elemPtr (.slice dna d.next.length dnc) j), (84, .int .i64 ((j : Nat) : Int)), (83, .slice dna d.next.length dnc), (82, .pointer (some ⟨w.heap.size, 3, none⟩)), (79, .bool (decide (((j : Nat) : Int) < ((d.next.length : Nat) : Int)))), (78, .int .i64 ((d.next.length : Nat) : Int)), (77, .slice dna d.next.length dnc), (76, .pointer (some ⟨w.heap.size, 3, none⟩)), (75, .int .i64 ((j : Nat) : Int)), (5, .int .i64 ((j : Nat) : Int)), (3, .int .i64 ((d.acc.length : Nat) : Int)), (1, .pointer (some ⟨w.heap.size, 0, none⟩))]) rfl ?_
                          refine W.ret (X.block_ret (X.then_ret (X.then_ret (X.block_ret (X.then_ret (X.ret1 rfl rfl ?_))))))
                          have h : rightB d = false := (Bool.eq_false_iff).2 (fun hb => by have h9 := rightB_iff.1 hb; have := within_at h9.2.2 j (by omega); omega)
                          exact ⟨(by rw [h]), H4.noneL⟩
                        · skip
                          refine W.skip (X.block_normal (X.then_code ?_))
                          refine W.pick [96, 95, 94, 93, 92, 91, 90, 89, 88, 87, 86, 85, 84, 83, 82, 79, 78, 77, 76, 75, 5, 3, 2, 1] (Γ' := [(96, .bool (decide ((d.next.getD j 0) ≥ ((d.acc.length : Nat) : Int)))), (95, .bool (decide ((d.next.getD j 0) ≥ ((d.acc.length : Nat) : Int)))), (94, .int .i64 ((d.acc.length : Nat) : Int)), (93, .int .i64 (d.next.getD j 0)), (92, elemPtr (.slice dna d.next.length dnc) j), (91, .int .i64 ((j : Nat) : Int)), (90, .slice dna d.next.length dnc), (89, .pointer (some ⟨w.heap.size, 3, none⟩)), (88, .bool false), (87, .bool (decide ((d.next.getD j 0) < (0 : Int)))), (86, .int .i64 (d.next.getD j 0)), (85, elemPtr (.slice dna d.next.length dnc) j), (84, .int .i64 ((j : Nat) : Int)), (83, .slice dna d.next.length dnc), (82, .pointer (some ⟨w.heap.size, 3, none⟩)), (79, .bool (decide (((j : Nat) : Int) < ((d.next.length : Nat) : Int)))), (78, .int .i64 ((d.next.length : Nat) : Int)), (77, .slice dna d.next.length dnc), (76, .pointer (some ⟨w.heap.size, 3, none⟩)), (75, .int .i64 ((j : Nat) : Int)), (5, .int .i64 ((j : Nat) : Int)), (3, .int .i64 ((d.acc.length : Nat) : Int)), (2, .bool false), (1, .pointer (some ⟨w.heap.size, 0, none⟩))]) rfl ?_
                          refine W.region ?_
                          refine WL.op rfl (d_move rfl ?_)
                          refine WL.op rfl (d_add rfl rfl (by omega) (by omega) ?_)
                          refine WL.op rfl (d_assign rfl ?_)
                          refine WL.done ?_
                          exact X.next [5, 3, 2, 1] (Γ' := [(5, .int .i64 (((j + 1) : Nat) : Int)), (3, .int .i64 ((d.acc.length : Nat) : Int)), (2, .bool false), (1, .pointer (some ⟨w.heap.size, 0, none⟩))]) rfl (d.next.length - (j + 1)) (by omega) ⟨j + 1, rfl, H4, (by first | assumption | omega | simp), (by exact all_step hn (by omega)), rfl⟩
                    · skip
                      refine W.exit (X.then_exit (X.then_exit (X.block_exit (X.then_code ?_))))
                      refine W.seq ?_
                      refine W.region ?_
                      refine WL.op rfl (d_assign rfl ?_)
                      refine WL.done (X.then_code ?_)
                      refine W.ret (X.ret1 rfl rfl ?_)
                      have h : rightB d = true := rightB_iff.2 ⟨by omega, within_of (fun i hi => hc i (by omega)), within_of (fun i hi => hn i (by omega))⟩
                      exact ⟨(by rw [h]), H4.noneL⟩

set_option maxRecDepth 20000 in
theorem refRun_any (d : DfaD) (dca : Option Addr) (dna : Option Addr) (dba : Option Addr) (dcc : Nat) (dnc : Nat) (dbc : Nat) (s : Int) (worda : Option Addr) (word : List Int) (wordc : Nat) (w : World) (rcd : RdT (tyI .i64) w (.slice dca d.cls.length dcc) d.cls) (rnd : RdT (tyI .i64) w (.slice dna d.next.length dnc) d.next) (rbd : RdT tyB w (.slice dba d.acc.length dbc) d.acc) (rword : RdT (tyI .i64) w (.slice worda word.length wordc) word) :
    Calls Try.prog 22 #[.agg #[.slice dca d.cls.length dcc, .int .i64 d.width, .int .i64 d.start, .slice dna d.next.length dnc, .slice dba d.acc.length dbc], .int .i64 s, .slice worda word.length wordc] w (Ret fun v w' => v = .int .i64 (runF d s word) ∧ Upd w [] w' []) := by
  have le_rcd := rcd.le
  have le_rnd := rnd.le
  have le_rbd := rbd.le
  have le_rword := rword.le
  refine calls_of_W (args := [.agg #[.slice dca d.cls.length dcc, .int .i64 d.width, .int .i64 d.start, .slice dna d.next.length dnc, .slice dba d.acc.length dbc], .int .i64 s, .slice worda word.length wordc]) Try.func22 rfl rfl rfl ?_
  have H0 : UpG w [] w [] := UpG.nil w
  show W _ _ _ _ [(0, .agg #[.slice dca d.cls.length dcc, .int .i64 d.width, .int .i64 d.start, .slice dna d.next.length dnc, .slice dba d.acc.length dbc]), (1, .int .i64 s), (2, .slice worda word.length wordc)] w
  refine W.seq ?_
  refine W.region ?_
  refine WL.op rfl (d_box rfl fun w1 u1 => ?_)
  have H1 : UpG w [] w1 [[blk w.heap.size #[.slice dca d.cls.length dcc, .int .i64 d.width, .int .i64 d.start, .slice dna d.next.length dnc, .slice dba d.acc.length dbc] 25]] := H0.new' u1
  refine WL.op rfl (d_assign rfl ?_)
  refine WL.done (X.then_code ?_)
  refine W.seq ?_
  refine W.seq ?_
  refine W.region ?_
  refine WL.op rfl (d_loadAB [.slice dca d.cls.length dcc, .int .i64 d.width, .int .i64 d.start, .slice dna d.next.length dnc, .slice dba d.acc.length dbc] Try.underlying25 rfl sz25 rfl (H1.blk 0 rfl) rfl rfl ?_)
  refine WL.op rfl (d_call ok20 rfl (Ret.calls (refRight_any d dca dna dba dcc dnc dbc w1 (rcd.at H1) (rnd.at H1) (rbd.at H1) ) fun _ w2 p1 => ?_))
  obtain ⟨rfl, u2⟩ := p1
  have H2 : UpG w [] w2 [[blk w.heap.size #[.slice dca d.cls.length dcc, .int .i64 d.width, .int .i64 d.start, .slice dna d.next.length dnc, .slice dba d.acc.length dbc] 25]] := H1.call u2
  refine WL.op rfl (d_notB rfl ?_)
  refine WL.op rfl (d_move rfl ?_)
  refine WL.partB 11 (b := !(rightB d)) rfl (fun g27 => ?_) (fun g27 => ?_)
  · skip
    refine WL.opN rfl rfl rfl rfl ?_
    refine WL.opN rfl rfl rfl rfl ?_
    refine WL.op rfl (d_pick rfl rfl ?_)
    refine WL.op rfl (d_move rfl ?_)
    refine WL.opN rfl rfl rfl rfl ?_
    refine WL.opN rfl rfl rfl rfl ?_
    refine WL.opN rfl rfl rfl rfl ?_
    refine WL.opN rfl rfl rfl rfl ?_
    refine WL.opN rfl rfl rfl rfl ?_
    refine WL.op rfl (d_pick rfl rfl ?_)
    refine WL.done (X.then_code ?_)
    refine W.pick [21, 6, 3, 1, 2] (Γ' := [(21, .bool true), (6, .int .i64 0), (3, .pointer (some ⟨w.heap.size, 0, none⟩)), (1, .int .i64 s), (2, .slice worda word.length wordc)]) rfl ?_
    refine W.ift rfl ?_
    refine W.seq ?_
    refine W.region ?_
    refine WL.op rfl (d_assign rfl ?_)
    refine WL.done (X.then_code ?_)
    refine W.ret (X.then_ret (X.ret1 rfl rfl ?_))
    exact ⟨(by first | rw [runF_no (.inl g27)] | rw [runF_no (.inr (by omega))]), H2.noneL⟩
  · skip
    refine WL.opG rfl rfl rfl (d_move rfl ?_)
    refine WL.opG rfl rfl rfl (d_cmp (decide (s < (0 : Int))) rfl rfl rfl ?_)
    refine WL.op rfl (d_pick rfl rfl ?_)
    refine WL.op rfl (d_move rfl ?_)
    refine WL.part 15 (p := s < (0 : Int)) rfl (fun g27x => ?_) (fun g27x => ?_)
    · skip
      refine WL.opN rfl rfl rfl rfl ?_
      refine WL.opN rfl rfl rfl rfl ?_
      refine WL.opN rfl rfl rfl rfl ?_
      refine WL.opN rfl rfl rfl rfl ?_
      refine WL.opN rfl rfl rfl rfl ?_
      refine WL.op rfl (d_pick rfl rfl ?_)
      refine WL.done (X.then_code ?_)
      refine W.pick [21, 6, 3, 1, 2] (Γ' := [(21, .bool true), (6, .int .i64 0), (3, .pointer (some ⟨w.heap.size, 0, none⟩)), (1, .int .i64 s), (2, .slice worda word.length wordc)]) rfl ?_
      refine W.ift rfl ?_
      refine W.seq ?_
      refine W.region ?_
      refine WL.op rfl (d_assign rfl ?_)
      refine WL.done (X.then_code ?_)
      refine W.ret (X.then_ret (X.ret1 rfl rfl ?_))
      exact ⟨(by first | rw [runF_no (.inl g27)] | rw [runF_no (.inr (by omega))]), H2.noneL⟩
    · skip
      refine WL.opG rfl rfl rfl (d_move rfl ?_)
      refine WL.opG rfl rfl rfl (d_fieldAddrB fld25_4 rfl rfl ?_)
      refine WL.opG rfl rfl rfl (d_loadB Try.underlying23 rfl rfl (H2.blk 0 rfl) rfl ?_)
      refine WL.opG rfl rfl rfl (d_lenS Try.underlying23 rfl ?_)
      refine WL.opG rfl rfl rfl (d_cmp (decide (s ≥ ((d.acc.length : Nat) : Int))) rfl rfl rfl ?_)
      refine WL.op rfl (d_pick rfl rfl ?_)
      refine WL.done (X.then_code ?_)
      refine W.pick [21, 6, 3, 1, 2] (Γ' := [(21, .bool (decide (s ≥ ((d.acc.length : Nat) : Int)))), (6, .int .i64 0), (3, .pointer (some ⟨w.heap.size, 0, none⟩)), (1, .int .i64 s), (2, .slice worda word.length wordc)]) rfl ?_
      refine W.ite (p := s ≥ ((d.acc.length : Nat) : Int)) rfl (fun c27 => ?_) (fun c27 => ?_)
      · skip
        refine W.seq ?_
        refine W.region ?_
        refine WL.op rfl (d_assign rfl ?_)
        refine WL.done (X.then_code ?_)
        refine W.ret (X.then_ret (X.ret1 rfl rfl ?_))
        exact ⟨(by first | rw [runF_no (.inl g27)] | rw [runF_no (.inr (by omega))]), H2.noneL⟩
      · skip
        refine W.skip (X.then_code ?_)
        refine W.seq ?_
        refine W.seq ?_
        refine W.region ?_
        refine WL.op rfl (d_assign rfl ?_)
        refine WL.done (X.then_code ?_)
        refine W.block ?_
        refine W.pick [7, 6, 3, 1, 2] (Γ' := [(7, .int .i64 0), (6, .int .i64 0), (3, .pointer (some ⟨w.heap.size, 0, none⟩)), (1, .int .i64 s), (2, .slice worda word.length wordc)]) rfl ?_
        refine W.loop (fun m Γ' w' => ∃ k : Nat, ∃ q : Int, Γ' = [(7, .int .i64 ((k : Nat) : Int)), (6, .int .i64 0), (3, .pointer (some ⟨w.heap.size, 0, none⟩)), (1, .int .i64 q), (2, .slice worda word.length wordc)] ∧ UpG w [] w' [[blk w.heap.size #[.slice dca d.cls.length dcc, .int .i64 d.width, .int .i64 d.start, .slice dna d.next.length dnc, .slice dba d.acc.length dbc] 25]] ∧ (k ≤ word.length) ∧ (0 ≤ q ∧ q < (d.acc.length : Int)) ∧ (runF d s word = runFrom d word k q) ∧ m = word.length - k) (word.length - 0) ⟨0, s, rfl, H2, (by first | assumption | omega | simp), (by omega), (by exact runF_go g27 (by omega) (by omega)), rfl⟩ ?_
        rintro m1 Γ1 w3 ⟨k, q, rfl, H3, hk, hq, hr, rfl⟩
        refine W.seq ?_
        refine W.seq ?_
        refine W.region ?_
        refine WL.op rfl (d_move rfl ?_)
        refine WL.op rfl (d_move rfl ?_)
        refine WL.op rfl (d_lenS Try.underlying22 rfl ?_)
        refine WL.op rfl (d_cmp (decide (((k : Nat) : Int) < ((word.length : Nat) : Int))) rfl rfl rfl ?_)
        refine WL.done (X.then_code ?_)
        refine W.ite (p := ((k : Nat) : Int) < ((word.length : Nat) : Int)) rfl (fun c30 => ?_) (fun c30 => ?_)
        · skip
          refine W.skip (X.then_code ?_)
          refine W.seq ?_
          refine W.block ?_
          refine W.seq ?_
          refine W.seq ?_
          refine W.region ?_
          refine WL.op rfl (d_move rfl ?_)
          refine WL.op rfl (d_move rfl ?_)
          refine WL.op rfl (t_addr1 k (T := (tyI .i64)) rfl Try.underlying22 sz3 rfl rfl (rword.at H3) rfl (by omega) ?_)
          refine WL.op rfl (t_load1 k 0 (T := (tyI .i64)) rfl Try.underlying3 rfl rfl (rword.at H3) (by omega) rfl ?_)
          refine WL.op rfl (d_cmp (decide ((word.getD k 0) < (0 : Int))) rfl rfl rfl ?_)
          refine WL.op rfl (d_move rfl ?_)
          refine WL.part 33 (p := (word.getD k 0) < (0 : Int)) rfl (fun g31 => ?_) (fun g31 => ?_)
          · skip
            refine WL.opN rfl rfl rfl rfl ?_
            refine WL.opN rfl rfl rfl rfl ?_
            refine WL.opN rfl rfl rfl rfl ?_
            refine WL.opN rfl rfl rfl rfl ?_
            refine WL.opN rfl rfl rfl rfl ?_
            refine WL.op rfl (d_pick rfl rfl ?_)
            refine WL.done (X.then_code ?_)
            refine W.pick [39, 38, 37, 36, 35, 34, 33, 32, 31, 30, 29, 28, 25, 24, 23, 22, 7, 6, 3, 1, 2] (Γ' := [(39, .bool true), (38, undef), (37, undef), (36, undef), (35, undef), (34, undef), (33, .bool true), (32, .bool (decide ((word.getD k 0) < (0 : Int)))), (31, .int .i64 (word.getD k 0)), (30, elemPtr (.slice worda word.length wordc) k), (29, .int .i64 ((k : Nat) : Int)), (28, .slice worda word.length wordc), (25, .bool (decide (((k : Nat) : Int) < ((word.length : Nat) : Int)))), (24, .int .i64 ((word.length : Nat) : Int)), (23, .slice worda word.length wordc), (22, .int .i64 ((k : Nat) : Int)), (7, .int .i64 ((k : Nat) : Int)), (6, .int .i64 0), (3, .pointer (some ⟨w.heap.size, 0, none⟩)), (1, .int .i64 q), (2, .slice worda word.length wordc)]) rfl ?_
            refine W.ift rfl ?_
            refine W.seq ?_
            refine W.region ?_
            refine WL.op rfl (d_assign rfl ?_)
            refine WL.done (X.then_code ?_)
            refine W.pick [6, 39, 38, 37, 36, 35, 34, 33, 32, 31, 30, 29, 28, 25, 24, 23, 22, 7, 3, 1, 2] (Γ' := [(6, .int .i64 (-1)), (39, .bool true), (38, undef), (37, undef), (36, undef), (35, undef), (34, undef), (33, .bool true), (32, .bool (decide ((word.getD k 0) < (0 : Int)))), (31, .int .i64 (word.getD k 0)), (30, elemPtr (.slice worda word.length wordc) k), (29, .int .i64 ((k : Nat) : Int)), (28, .slice worda word.length wordc), (25, .bool (decide (((k : Nat) : Int) < ((word.length : Nat) : Int)))), (24, .int .i64 ((word.length : Nat) : Int)), (23, .slice worda word.length wordc), (22, .int .i64 ((k : Nat) : Int)), (7, .int .i64 ((k : Nat) : Int)), (3, .pointer (some ⟨w.heap.size, 0, none⟩)), (1, .int .i64 q), (2, .slice worda word.length wordc)]) rfl ?_
            refine W.ret (X.then_ret (X.block_ret (X.then_ret (X.then_ret (X.block_ret (X.then_ret (X.ret1 rfl rfl ?_)))))))
            exact ⟨(by rw [hr, runFrom_bad (by omega) (by omega)]), H3.noneL⟩
          · skip
            refine WL.opG rfl rfl rfl (d_move rfl ?_)
            refine WL.opG rfl rfl rfl (d_move rfl ?_)
            refine WL.opG rfl rfl rfl (t_addr1 k (T := (tyI .i64)) rfl Try.underlying22 sz3 rfl rfl (rword.at H3) rfl (by omega) ?_)
            refine WL.opG rfl rfl rfl (t_load1 k 0 (T := (tyI .i64)) rfl Try.underlying3 rfl rfl (rword.at H3) (by omega) rfl ?_)
            refine WL.opG rfl rfl rfl (d_cmp (decide ((word.getD k 0) > (258 : Int))) rfl rfl rfl ?_)
            refine WL.op rfl (d_pick rfl rfl ?_)
            refine WL.done (X.then_code ?_)
            refine W.pick [39, 38, 37, 36, 35, 34, 33, 32, 31, 30, 29, 28, 25, 24, 23, 22, 7, 6, 3, 1, 2] (Γ' := [(39, .bool (decide ((word.getD k 0) > (258 : Int)))), (38, .bool (decide ((word.getD k 0) > (258 : Int)))), (37, .int .i64 (word.getD k 0)), (36, elemPtr (.slice worda word.length wordc) k), (35, .int .i64 ((k : Nat) : Int)), (34, .slice worda word.length wordc), (33, .bool false), (32, .bool (decide ((word.getD k 0) < (0 : Int)))), (31, .int .i64 (word.getD k 0)), (30, elemPtr (.slice worda word.length wordc) k), (29, .int .i64 ((k : Nat) : Int)), (28, .slice worda word.length wordc), (25, .bool (decide (((k : Nat) : Int) < ((word.length : Nat) : Int)))), (24, .int .i64 ((word.length : Nat) : Int)), (23, .slice worda word.length wordc), (22, .int .i64 ((k : Nat) : Int)), (7, .int .i64 ((k : Nat) : Int)), (6, .int .i64 0), (3, .pointer (some ⟨w.heap.size, 0, none⟩)), (1, .int .i64 q), (2, .slice worda word.length wordc)]) rfl ?_
            refine W.ite (p := (word.getD k 0) > (258 : Int)) rfl (fun c31 => ?_) (fun c31 => ?_)
            · skip
              refine W.seq ?_
              refine W.region ?_
              refine WL.op rfl (d_assign rfl ?_)
              refine WL.done (X.then_code ?_)
              refine W.pick [6, 39, 38, 37, 36, 35, 34, 33, 32, 31, 30, 29, 28, 25, 24, 23, 22, 7, 3, 1, 2] (Γ' := [(6, .int .i64 (-1)), (39, .bool (decide ((word.getD k 0) > (258 : Int)))), (38, .bool (decide ((word.getD k 0) > (258 : Int)))), (37, .int .i64 (word.getD k 0)), (36, elemPtr (.slice worda word.length wordc) k), (35, .int .i64 ((k : Nat) : Int)), (34, .slice worda word.length wordc), (33, .bool false), (32, .bool (decide ((word.getD k 0) < (0 : Int)))), (31, .int .i64 (word.getD k 0)), (30, elemPtr (.slice worda word.length wordc) k), (29, .int .i64 ((k : Nat) : Int)), (28, .slice worda word.length wordc), (25, .bool (decide (((k : Nat) : Int) < ((word.length : Nat) : Int)))), (24, .int .i64 ((word.length : Nat) : Int)), (23, .slice worda word.length wordc), (22, .int .i64 ((k : Nat) : Int)), (7, .int .i64 ((k : Nat) : Int)), (3, .pointer (some ⟨w.heap.size, 0, none⟩)), (1, .int .i64 q), (2, .slice worda word.length wordc)]) rfl ?_
              refine W.ret (X.then_ret (X.block_ret (X.then_ret (X.then_ret (X.block_ret (X.then_ret (X.ret1 rfl rfl ?_)))))))
              exact ⟨(by rw [hr, runFrom_bad (by omega) (by omega)]), H3.noneL⟩
            · skip
              refine W.skip (X.then_code ?_)
              refine W.pick [39, 38, 37, 36, 35, 34, 33, 32, 31, 30, 29, 28, 25, 24, 23, 22, 7, 6, 3, 1, 2] (Γ' := [(39, .bool (decide ((word.getD k 0) > (258 : Int)))), (38, .bool (decide ((word.getD k 0) > (258 : Int)))), (37, .int .i64 (word.getD k 0)), (36, elemPtr (.slice worda word.length wordc) k), (35, .int .i64 ((k : Nat) : Int)), (34, .slice worda word.length wordc), (33, .bool false), (32, .bool (decide ((word.getD k 0) < (0 : Int)))), (31, .int .i64 (word.getD k 0)), (30, elemPtr (.slice worda word.length wordc) k), (29, .int .i64 ((k : Nat) : Int)), (28, .slice worda word.length wordc), (25, .bool (decide (((k : Nat) : Int) < ((word.length : Nat) : Int)))), (24, .int .i64 ((word.length : Nat) : Int)), (23, .slice worda word.length wordc), (22, .int .i64 ((k : Nat) : Int)), (7, .int .i64 ((k : Nat) : Int)), (6, .int .i64 0), (3, .pointer (some ⟨w.heap.size, 0, none⟩)), (1, .int .i64 q), (2, .slice worda word.length wordc)]) rfl ?_
              have hrt : rightB d = true := by simpa using g27
              have hcx := right_sym (c := word.getD k 0) hrt (by omega) (by omega)
              have hix := right_idx hrt hq.1 hq.2 hcx.2.1 hcx.2.2.1
              refine W.regionD mixed (by kernel_rfl) fun hok1 w4 k1 => ?_
              have H4 : UpG w [] w4 [[blk w.heap.size #[.slice dca d.cls.length dcc, .int .i64 d.width, .int .i64 d.start, .slice dna d.next.length dnc, .slice dba d.acc.length dbc] 25]] := H3.kept k1
              refine WD.take hok1 0 (.pointer (some ⟨w.heap.size, 3, none⟩)) (fun _ => True) rfl rfl rfl rfl rfl trivial (.inl ⟨rfl, fun _ _ => d_fieldAddrB fld25_3 rfl rfl ⟨rfl, rfl⟩⟩) ?_
              refine WD.take hok1 1 (.slice dna d.next.length dnc) (fun w' => w'.heap[w.heap.size]? = some (.cells #[.slice dca d.cls.length dcc, .int .i64 d.width, .int .i64 d.start, .slice dna d.next.length dnc, .slice dba d.acc.length dbc] 25 (0, 0))) rfl rfl rfl rfl rfl (H4.blk 0 rfl) (.inl ⟨rfl, fun _ hC => d_loadB Try.underlying22 rfl rfl hC rfl ⟨rfl, rfl⟩⟩) ?_
              refine WD.take hok1 2 (.int .i64 q) (fun _ => True) rfl rfl rfl rfl rfl trivial (.inl ⟨rfl, fun _ _ => d_move rfl ⟨rfl, rfl⟩⟩) ?_
              refine WD.take hok1 3 (.pointer (some ⟨w.heap.size, 1, none⟩)) (fun _ => True) rfl rfl rfl rfl rfl trivial (.inl ⟨rfl, fun _ _ => d_fieldAddrB fld25_1 rfl rfl ⟨rfl, rfl⟩⟩) ?_
              refine WD.take hok1 4 (.int .i64 d.width) (fun w' => w'.heap[w.heap.size]? = some (.cells #[.slice dca d.cls.length dcc, .int .i64 d.width, .int .i64 d.start, .slice dna d.next.length dnc, .slice dba d.acc.length dbc] 25 (0, 0))) rfl rfl rfl rfl rfl (H4.blk 0 rfl) (.inl ⟨rfl, fun _ hC => d_loadB Try.underlying3 rfl rfl hC rfl ⟨rfl, rfl⟩⟩) ?_
              refine WD.take hok1 5 (.int .i64 (q * d.width)) (fun _ => True) rfl rfl rfl rfl rfl trivial (.inl ⟨rfl, fun _ _ => d_mul rfl rfl (by omega) (by omega) ⟨rfl, rfl⟩⟩) ?_
              refine WD.take hok1 6 (.pointer (some ⟨w.heap.size, 0, none⟩)) (fun _ => True) rfl rfl rfl rfl rfl trivial (.inl ⟨rfl, fun _ _ => d_fieldAddrB fld25_0 rfl rfl ⟨rfl, rfl⟩⟩) ?_
              refine WD.take hok1 7 (.slice dca d.cls.length dcc) (fun w' => w'.heap[w.heap.size]? = some (.cells #[.slice dca d.cls.length dcc, .int .i64 d.width, .int .i64 d.start, .slice dna d.next.length dnc, .slice dba d.acc.length dbc] 25 (0, 0))) rfl rfl rfl rfl rfl (H4.blk 0 rfl) (.inl ⟨rfl, fun _ hC => d_loadB Try.underlying22 rfl rfl hC rfl ⟨rfl, rfl⟩⟩) ?_
              refine WD.take hok1 8 (.slice worda word.length wordc) (fun _ => True) rfl rfl rfl rfl rfl trivial (.inl ⟨rfl, fun _ _ => d_move rfl ⟨rfl, rfl⟩⟩) ?_
              refine WD.take hok1 9 (.int .i64 ((k : Nat) : Int)) (fun _ => True) rfl rfl rfl rfl rfl trivial (.inl ⟨rfl, fun _ _ => d_move rfl ⟨rfl, rfl⟩⟩) ?_
              refine WD.take hok1 10 (elemPtr (.slice worda word.length wordc) k) (fun w' => RdT (tyI .i64) w' (.slice worda word.length wordc) word) rfl rfl rfl rfl rfl (rword.at H4) (.inl ⟨rfl, fun _ hC => t_addr1 k (T := (tyI .i64)) rfl Try.underlying22 sz3 rfl rfl hC rfl (by omega) ⟨rfl, rfl⟩⟩) ?_
              refine WD.take hok1 11 (.int .i64 (word.getD k 0)) (fun w' => RdT (tyI .i64) w' (.slice worda word.length wordc) word) rfl rfl rfl rfl rfl (rword.at H4) (.inl ⟨rfl, fun _ hC => t_load1 k 0 (T := (tyI .i64)) rfl Try.underlying3 rfl rfl hC (by omega) rfl ⟨rfl, rfl⟩⟩) ?_
              refine WD.take hok1 12 (elemPtr (.slice dca d.cls.length dcc) ((word.getD k 0).toNat)) (fun w' => RdT (tyI .i64) w' (.slice dca d.cls.length dcc) d.cls) rfl rfl rfl rfl rfl (rcd.at H4) (.inl ⟨rfl, fun _ hC => t_addr1 ((word.getD k 0).toNat) (T := (tyI .i64)) rfl Try.underlying22 sz3 rfl rfl hC (by omega) (by omega) ⟨rfl, rfl⟩⟩) ?_
              refine WD.take hok1 13 (.int .i64 (d.cls.getD ((word.getD k 0).toNat) 0)) (fun w' => RdT (tyI .i64) w' (.slice dca d.cls.length dcc) d.cls) rfl rfl rfl rfl rfl (rcd.at H4) (.inl ⟨rfl, fun _ hC => t_load1 ((word.getD k 0).toNat) 0 (T := (tyI .i64)) rfl Try.underlying3 rfl rfl hC (by omega) rfl ⟨rfl, rfl⟩⟩) ?_
              refine WD.take hok1 14 (.int .i64 ((q * d.width) + (d.cls.getD ((word.getD k 0).toNat) 0))) (fun _ => True) rfl rfl rfl rfl rfl trivial (.inl ⟨rfl, fun _ _ => d_add rfl rfl (by omega) (by omega) ⟨rfl, rfl⟩⟩) ?_
              refine WD.take hok1 15 (elemPtr (.slice dna d.next.length dnc) (((q * d.width) + (d.cls.getD ((word.getD k 0).toNat) 0)).toNat)) (fun w' => RdT (tyI .i64) w' (.slice dna d.next.length dnc) d.next) rfl rfl rfl rfl rfl (rnd.at H4) (.inl ⟨rfl, fun _ hC => t_addr1 (((q * d.width) + (d.cls.getD ((word.getD k 0).toNat) 0)).toNat) (T := (tyI .i64)) rfl Try.underlying22 sz3 rfl rfl hC (by omega) (by omega) ⟨rfl, rfl⟩⟩) ?_
              refine WD.take hok1 16 (.int .i64 (d.next.getD (((q * d.width) + (d.cls.getD ((word.getD k 0).toNat) 0)).toNat) 0)) (fun w' => RdT (tyI .i64) w' (.slice dna d.next.length dnc) d.next) rfl rfl rfl rfl rfl (rnd.at H4) (.inl ⟨rfl, fun _ hC => t_load1 (((q * d.width) + (d.cls.getD ((word.getD k 0).toNat) 0)).toNat) 0 (T := (tyI .i64)) rfl Try.underlying3 rfl rfl hC (by omega) rfl ⟨rfl, rfl⟩⟩) ?_
              refine WD.take hok1 17 (.int .i64 (d.next.getD (((q * d.width) + (d.cls.getD ((word.getD k 0).toNat) 0)).toNat) 0)) (fun _ => True) rfl rfl rfl rfl rfl trivial (.inl ⟨rfl, fun _ _ => d_assign rfl ⟨rfl, rfl⟩⟩) ?_
              refine WD.done hok1 rfl (X.block_normal (X.then_code ?_))
              refine W.pick [1, 56, 55, 54, 53, 52, 51, 50, 49, 48, 47, 46, 45, 44, 43, 42, 41, 40, 39, 38, 37, 36, 35, 34, 33, 32, 31, 30, 29, 28, 25, 24, 23, 22, 7, 6, 3, 2] (Γ' := [(1, .int .i64 (d.next.getD (((q * d.width) + (d.cls.getD ((word.getD k 0).toNat) 0)).toNat) 0)), (56, .int .i64 (d.next.getD (((q * d.width) + (d.cls.getD ((word.getD k 0).toNat) 0)).toNat) 0)), (55, elemPtr (.slice dna d.next.length dnc) (((q * d.width) + (d.cls.getD ((word.getD k 0).toNat) 0)).toNat)), (54, .int .i64 ((q * d.width) + (d.cls.getD ((word.getD k 0).toNat) 0))), (53, .int .i64 (d.cls.getD ((word.getD k 0).toNat) 0)), (52, elemPtr (.slice dca d.cls.length dcc) ((word.getD k 0).toNat)), (51, .int .i64 (word.getD k 0)), (50, elemPtr (.slice worda word.length wordc) k), (49, .int .i64 ((k : Nat) : Int)), (48, .slice worda word.length wordc), (47, .slice dca d.cls.length dcc), (46, .pointer (some ⟨w.heap.size, 0, none⟩)), (45, .int .i64 (q * d.width)), (44, .int .i64 d.width), (43, .pointer (some ⟨w.heap.size, 1, none⟩)), (42, .int .i64 q), (41, .slice dna d.next.length dnc), (40, .pointer (some ⟨w.heap.size, 3, none⟩)), (39, .bool (decide ((word.getD k 0) > (258 : Int)))), (38, .bool (decide ((word.getD k 0) > (258 : Int)))), (37, .int .i64 (word.getD k 0)), (36, elemPtr (.slice worda word.length wordc) k), (35, .int .i64 ((k : Nat) : Int)), (34, .slice worda word.length wordc), (33, .bool false), (32, .bool (decide ((word.getD k 0) < (0 : Int)))), (31, .int .i64 (word.getD k 0)), (30, elemPtr (.slice worda word.length wordc) k), (29, .int .i64 ((k : Nat) : Int)), (28, .slice worda word.length wordc), (25, .bool (decide (((k : Nat) : Int) < ((word.length : Nat) : Int)))), (24, .int .i64 ((word.length : Nat) : Int)), (23, .slice worda word.length wordc), (22, .int .i64 ((k : Nat) : Int)), (7, .int .i64 ((k : Nat) : Int)), (6, .int .i64 0), (3, .pointer (some ⟨w.heap.size, 0, none⟩)), (2, .slice worda word.length wordc)]) rfl ?_
              refine W.region ?_
              refine WL.op rfl (d_move rfl ?_)
              refine WL.op rfl (d_add rfl rfl (by omega) (by omega) ?_)
              refine WL.op rfl (d_assign rfl ?_)
              refine WL.done ?_
              exact X.next [7, 6, 3, 1, 2] (Γ' := [(7, .int .i64 (((k + 1) : Nat) : Int)), (6, .int .i64 0), (3, .pointer (some ⟨w.heap.size, 0, none⟩)), (1, .int .i64 (d.next.getD (((q * d.width) + (d.cls.getD ((word.getD k 0).toNat) 0)).toNat) 0)), (2, .slice worda word.length wordc)]) rfl (word.length - (k + 1)) (by omega) ⟨k + 1, d.next.getD (((q * d.width) + (d.cls.getD ((word.getD k 0).toNat) 0)).toNat) 0, rfl, H4, (by first | assumption | omega | simp), (by omega), (by rw [hr]; exact runFrom_step (by omega) (by omega) (by omega)), rfl⟩
        · skip
          refine W.exit (X.then_exit (X.then_exit (X.block_exit (X.then_code ?_))))
          refine W.seq ?_
          refine W.region ?_
          refine WL.op rfl (d_move rfl ?_)
          refine WL.op rfl (d_assign rfl ?_)
          refine WL.done (X.then_code ?_)
          refine W.ret (X.ret1 rfl rfl ?_)
          exact ⟨(by rw [hr, runFrom_end (by omega)]), H3.noneL⟩

set_option maxRecDepth 20000 in
theorem used_any (d : DfaD) (dca : Option Addr) (dna : Option Addr) (dba : Option Addr) (dcc : Nat) (dnc : Nat) (dbc : Nat) (w : World) (rcd : RdT (tyI .i64) w (.slice dca d.cls.length dcc) d.cls) (rnd : RdT (tyI .i64) w (.slice dna d.next.length dnc) d.next) (rbd : RdT tyB w (.slice dba d.acc.length dbc) d.acc) (hl : d.cls.length ≤ 1000) :
    Calls Try.prog 57 #[.agg #[.slice dca d.cls.length dcc, .int .i64 d.width, .int .i64 d.start, .slice dna d.next.length dnc, .slice dba d.acc.length dbc]] w (Ret fun v w' => ∃ a2 : Option Addr, ∃ c2 : Nat, v = .slice a2 ((usedI d).length) c2 ∧ Upd w [] w' [rowT (tyI .i64) (.slice a2 ((usedI d).length) c2) 3 (usedI d)]) := by
  have le_rcd := rcd.le
  have le_rnd := rnd.le
  have le_rbd := rbd.le
  refine calls_of_W (args := [.agg #[.slice dca d.cls.length dcc, .int .i64 d.width, .int .i64 d.start, .slice dna d.next.length dnc, .slice dba d.acc.length dbc]]) Try.func57 rfl rfl rfl ?_
  have H0 : UpG w [] w [] := UpG.nil w
  show W _ _ _ _ [(0, .agg #[.slice dca d.cls.length dcc, .int .i64 d.width, .int .i64 d.start, .slice dna d.next.length dnc, .slice dba d.acc.length dbc])] w
  refine W.seq ?_
  refine W.region ?_
  refine WL.op rfl (d_box rfl fun w1 u1 => ?_)
  have H1 : UpG w [] w1 [[blk w.heap.size #[.slice dca d.cls.length dcc, .int .i64 d.width, .int .i64 d.start, .slice dna d.next.length dnc, .slice dba d.acc.length dbc] 25]] := H0.new' u1
  refine WL.op rfl (d_assign rfl ?_)
  refine WL.done (X.then_code ?_)
  refine W.seq ?_
  refine W.region ?_
  refine WL.op rfl (d_fieldAddrB fld25_0 rfl rfl ?_)
  refine WL.op rfl (d_loadB Try.underlying22 rfl rfl (H1.blk 0 rfl) rfl ?_)
  refine WL.op rfl (d_call ok66 rfl (Ret.calls (cloneI_any dca d.cls dcc d.cls.length w1 (rcd.at H1) (by omega)) fun _ w2 p1 => ?_))
  obtain ⟨a2_1, c2_1, rfl, u2⟩ := p1
  have H2 : UpG w [] w2 [[blk w.heap.size #[.slice dca d.cls.length dcc, .int .i64 d.width, .int .i64 d.start, .slice dna d.next.length dnc, .slice dba d.acc.length dbc] 25], [rowT (tyI .i64) (.slice a2_1 d.cls.length c2_1) 3 d.cls]] := (H1.new' u2).re rfl
  refine WL.op rfl (d_assign rfl ?_)
  refine WL.done (X.then_code ?_)
  refine W.seq ?_
  refine W.region ?_
  refine WL.op rfl (d_move rfl ?_)
  refine WL.op rfl (d_call ok90 rfl (Ret.calls (sort_any a2_1 d.cls c2_1 d.cls.length w2 (H2.hpOf 1 rfl)  rfl (by omega)) fun _ w3 p2 => ?_))
  obtain ⟨rfl, u3⟩ := p2
  have H3 : UpG w [] w3 [[blk w.heap.size #[.slice dca d.cls.length dcc, .int .i64 d.width, .int .i64 d.start, .slice dna d.next.length dnc, .slice dba d.acc.length dbc] 25], [rowT (tyI .i64) (.slice a2_1 d.cls.length c2_1) 3 (sortI d.cls)]] := H2.on 1 rfl u3
  refine WL.done (X.then_code ?_)
  refine W.seq ?_
  refine W.region ?_
  refine WL.op rfl (d_move rfl ?_)
  refine WL.op rfl (d_call ok91 rfl (Ret.calls (compact_any a2_1 (sortI d.cls) c2_1 d.cls.length w3 (H3.hpOf 1 rfl)  ((sortI_len _).symm) (by rw [sortI_len]; omega)) fun _ w4 p3 => ?_))
  obtain ⟨rfl, u4⟩ := p3
  have H4 : UpG w [] w4 [[blk w.heap.size #[.slice dca d.cls.length dcc, .int .i64 d.width, .int .i64 d.start, .slice dna d.next.length dnc, .slice dba d.acc.length dbc] 25], [rowT (tyI .i64) (.slice a2_1 ((Lib.compact (sortI d.cls)).length) c2_1) 3 (Lib.compact (sortI d.cls))]] := H3.on 1 rfl u4
  refine WL.op rfl (d_assign rfl ?_)
  refine WL.done (X.then_code ?_)
  refine W.ret (X.ret1 rfl rfl ?_)
  exact ⟨a2_1, c2_1, (by rfl), (by have hh := H4.one 1 rfl; exact hh)⟩
end Go.Proofs.Ytoeockpkkmgieaa

/- The walks of functions, printed by wip/tools/gw.py. -/
namespace Go.Proofs.Ytoeockpkkmgieaa
open Go Go.Sx
set_option linter.unusedVariables false
set_option linter.unusedSimpArgs false
set_option maxRecDepth 20000 in
theorem word_any (text : ByteArray) (i : Int) (j : Int) (w : World) (hl : text.size ≤ 1000000) :
    Calls Try.prog 39 #[.string text, .int .i64 i, .int .i64 j] w (Ret fun v w' => ∃ a2 : Option Addr, ∃ c2 : Nat, v = .tuple #[.slice a2 ((wordD text i j).length) c2, .bool (wordOk text i j)] ∧ Upd w [] w' [rowT (tyI .i64) (.slice a2 ((wordD text i j).length) c2) 3 (wordD text i j)]) := by
  refine calls_of_W (args := [.string text, .int .i64 i, .int .i64 j]) Try.func39 rfl rfl rfl ?_
  have H0 : UpG w [] w [] := UpG.nil w
  show W _ _ _ _ [(0, .string text), (1, .int .i64 i), (2, .int .i64 j)] w
  refine W.seq ?_
  refine W.region ?_
  refine WL.op rfl (d_assign rfl ?_)
  refine WL.op rfl (d_assign rfl ?_)
  refine WL.done (X.then_code ?_)
  refine W.seq ?_
  refine W.block ?_
  refine W.seq ?_
  refine W.region ?_
  refine WL.op rfl (d_move rfl ?_)
  refine WL.op rfl (d_cmp (decide (i < (0 : Int))) rfl rfl rfl ?_)
  refine WL.op rfl (d_move rfl ?_)
  refine WL.part 14 (p := i < (0 : Int)) rfl (fun g59 => ?_) (fun g59 => ?_)
  · skip
    refine WL.opN rfl rfl rfl rfl ?_
    refine WL.opN rfl rfl rfl rfl ?_
    refine WL.opN rfl rfl rfl rfl ?_
    refine WL.op rfl (d_pick rfl rfl ?_)
    refine WL.op rfl (d_move rfl ?_)
    refine WL.opN rfl rfl rfl rfl ?_
    refine WL.opN rfl rfl rfl rfl ?_
    refine WL.opN rfl rfl rfl rfl ?_
    refine WL.opN rfl rfl rfl rfl ?_
    refine WL.op rfl (d_pick rfl rfl ?_)
    refine WL.op rfl (d_assign rfl ?_)
    refine WL.done (X.then_code ?_)
    refine W.pick [11, 7, 6, 0, 1, 2] (Γ' := [(11, .bool true), (7, .bool false), (6, .slice none 0 0), (0, .string text), (1, .int .i64 i), (2, .int .i64 j)]) rfl ?_
    refine W.ift rfl ?_
    refine W.seq ?_
    refine W.region ?_
    refine WL.op rfl (d_assign rfl ?_)
    refine WL.op rfl (d_assign rfl ?_)
    refine WL.done (X.then_code ?_)
    refine W.ret (X.block_ret (X.then_ret (X.ret2 rfl rfl rfl ?_)))
    obtain ⟨e1, e2⟩ := wordD_no (s := text) (i := i) (j := j) (by omega)
    rw [e1, e2]
    exact ⟨none, 0, (by rfl), nilOwn H0⟩
  · skip
    refine WL.opG rfl rfl rfl (d_move rfl ?_)
    refine WL.opG rfl rfl rfl (d_move rfl ?_)
    refine WL.opG rfl rfl rfl (d_cmp (decide (j < i)) rfl rfl rfl ?_)
    refine WL.op rfl (d_pick rfl rfl ?_)
    refine WL.op rfl (d_move rfl ?_)
    refine WL.part 19 (p := j < i) rfl (fun g59x => ?_) (fun g59x => ?_)
    · skip
      refine WL.opN rfl rfl rfl rfl ?_
      refine WL.opN rfl rfl rfl rfl ?_
      refine WL.opN rfl rfl rfl rfl ?_
      refine WL.opN rfl rfl rfl rfl ?_
      refine WL.op rfl (d_pick rfl rfl ?_)
      refine WL.op rfl (d_assign rfl ?_)
      refine WL.done (X.then_code ?_)
      refine W.pick [11, 7, 6, 0, 1, 2] (Γ' := [(11, .bool true), (7, .bool false), (6, .slice none 0 0), (0, .string text), (1, .int .i64 i), (2, .int .i64 j)]) rfl ?_
      refine W.ift rfl ?_
      refine W.seq ?_
      refine W.region ?_
      refine WL.op rfl (d_assign rfl ?_)
      refine WL.op rfl (d_assign rfl ?_)
      refine WL.done (X.then_code ?_)
      refine W.ret (X.block_ret (X.then_ret (X.ret2 rfl rfl rfl ?_)))
      obtain ⟨e1, e2⟩ := wordD_no (s := text) (i := i) (j := j) (by omega)
      rw [e1, e2]
      exact ⟨none, 0, (by rfl), nilOwn H0⟩
    · skip
      refine WL.opG rfl rfl rfl (d_move rfl ?_)
      refine WL.opG rfl rfl rfl (d_move rfl ?_)
      refine WL.opG rfl rfl rfl (d_lenStr Try.underlying9 rfl ?_)
      refine WL.opG rfl rfl rfl (d_cmp (decide (j > ((text.size : Nat) : Int))) rfl rfl rfl ?_)
      refine WL.op rfl (d_pick rfl rfl ?_)
      refine WL.op rfl (d_assign rfl ?_)
      refine WL.done (X.then_code ?_)
      refine W.pick [11, 7, 6, 0, 1, 2] (Γ' := [(11, .bool (decide (j > ((text.size : Nat) : Int)))), (7, .bool false), (6, .slice none 0 0), (0, .string text), (1, .int .i64 i), (2, .int .i64 j)]) rfl ?_
      refine W.ite (p := j > ((text.size : Nat) : Int)) rfl (fun c59 => ?_) (fun c59 => ?_)
      · skip
        refine W.seq ?_
        refine W.region ?_
        refine WL.op rfl (d_assign rfl ?_)
        refine WL.op rfl (d_assign rfl ?_)
        refine WL.done (X.then_code ?_)
        refine W.ret (X.block_ret (X.then_ret (X.ret2 rfl rfl rfl ?_)))
        obtain ⟨e1, e2⟩ := wordD_no (s := text) (i := i) (j := j) (by omega)
        rw [e1, e2]
        exact ⟨none, 0, (by rfl), nilOwn H0⟩
      · skip
        refine W.seq ?_
        refine W.region ?_
        refine WL.op rfl (d_move rfl ?_)
        refine WL.op rfl (d_streq rfl rfl ?_)
        refine WL.op rfl (d_assign rfl ?_)
        refine WL.done (X.then_code ?_)
        refine W.ite (p := text = ⟨#[]⟩) rfl (fun c61 => ?_) (fun c61 => ?_)
        · skip
          refine W.seq ?_
          refine W.region ?_
          refine WL.op rfl (t_buildSlice (T := (tyI .i64)) (xs := [258]) (cs := #[.int .i64 258]) rfl Try.underlying22 sz3 rfl rfl rfl rfl (by kernel_rfl) rfl rfl fun w1 u1 => ?_)
          have H1 : UpG w [] w1 [[rowT (tyI .i64) (.slice (some ⟨w.heap.size, 0, none⟩) ([258].length) ([258].length)) 3 [258]]] := H0.new' u1
          refine WL.op rfl (d_assign rfl ?_)
          refine WL.op rfl (d_assign rfl ?_)
          refine WL.done (X.then_code ?_)
          refine W.ret (X.block_ret (X.then_ret (X.ret2 rfl rfl rfl ?_)))
          have e2 := wordD_yes (s := text) (i := i) (j := j) (by omega)
          have e1 : wordD text i j = [258] := by rw [wordD, if_neg (by rw [e2]; simp), if_pos c61]
          rw [e1, e2]
          exact ⟨(some ⟨w.heap.size, 0, none⟩), [258].length, (by rfl), (by have hh := H1.one 0 rfl; exact hh)⟩
        · skip
          refine W.skip (X.block_normal (X.then_code ?_))
          refine W.seq ?_
          refine W.region ?_
          refine WL.op rfl (d_assign rfl ?_)
          refine WL.done (X.then_code ?_)
          have H2 : UpG w [] w [[rowT (tyI .i64) (.slice none (([] : List Int).length) 0) 3 ([] : List Int)]] := H0.new' (Upd.nilRowT w (tyI .i64) 3)
          refine W.cut (fun Γ' w' => ∃ o : List Int, ∃ oa : Option Addr, ∃ oc : Nat, Γ' = [(8, .slice oa o.length oc), (7, .bool false), (6, .slice none 0 0), (0, .string text), (1, .int .i64 i), (2, .int .i64 j)] ∧ UpG w [] w' [[rowT (tyI .i64) (.slice oa o.length oc) 3 o]] ∧ (o = (if i = 0 then ([256] : List Int) else [])) ∧ (o.length ≤ 1)) ?_ ?_
          · skip
            refine W.seq ?_
            refine W.region ?_
            refine WL.op rfl (d_move rfl ?_)
            refine WL.op rfl (d_cmp (decide (i = (0 : Int))) rfl rfl rfl ?_)
            refine WL.done (X.then_code ?_)
            refine W.ite (p := i = (0 : Int)) rfl (fun c65 => ?_) (fun c65 => ?_)
            · skip
              refine W.region ?_
              refine WL.op rfl (d_move rfl ?_)
              refine WL.op rfl (t_buildSlice (T := (tyI .i64)) (xs := [256]) (cs := #[.int .i64 256]) rfl Try.underlying22 sz3 rfl rfl rfl rfl (by kernel_rfl) rfl rfl fun w2 u2 => ?_)
              have H3 : UpG w [] w2 [[rowT (tyI .i64) (.slice none (([] : List Int).length) 0) 3 ([] : List Int)], [rowT (tyI .i64) (.slice (some ⟨w.heap.size, 0, none⟩) ([256].length) ([256].length)) 3 [256]]] := H2.new' u2
              refine WL.op rfl (t_append (T := (tyI .i64)) (xs := ([] : List Int)) (ys := [256]) rfl Try.underlying22 sz3 rfl rfl rfl (H3.ownT 0 rfl) (H3.rdT 1 rfl) (by simp) (by simp) fun a1 c1 w3 u3 => ?_)
              have H4 : UpG w [] w3 [[rowT (tyI .i64) (.slice a1 ((([] : List Int) ++ [256]).length) c1) 3 (([] : List Int) ++ [256])], []] := (H3.on 0 rfl u3).drop 1
              refine WL.op rfl (d_assign rfl ?_)
              refine WL.done ?_
              exact X.cut [8, 7, 6, 0, 1, 2] (Γ' := [(8, .slice a1 ((([] : List Int) ++ [256]).length) c1), (7, .bool false), (6, .slice none 0 0), (0, .string text), (1, .int .i64 i), (2, .int .i64 j)]) rfl ⟨([] : List Int) ++ [256], a1, c1, rfl, (H4.re rfl), (by first | (rw [if_pos c65]; rfl) | (rw [if_neg c65])), (by simp)⟩
            · skip
              refine W.skip ?_
              exact X.cut [8, 7, 6, 0, 1, 2] (Γ' := [(8, .slice none (([] : List Int).length) 0), (7, .bool false), (6, .slice none 0 0), (0, .string text), (1, .int .i64 i), (2, .int .i64 j)]) rfl ⟨([] : List Int), none, 0, rfl, H2, (by first | (rw [if_pos c65]; rfl) | (rw [if_neg c65])), (by simp)⟩
          rintro Γ1 w4 ⟨o, oa, oc, rfl, H5, ho, hol⟩
          refine W.seq ?_
          refine W.seq ?_
          have hbl := bytesL_len (text.extract i.toNat j.toNat)
          have hxs : (text.extract i.toNat j.toNat).size ≤ text.size := by simp; omega
          refine W.region ?_
          refine WL.op rfl (d_move rfl ?_)
          refine WL.op rfl (d_move rfl ?_)
          refine WL.op rfl (d_move rfl ?_)
          refine WL.op rfl (d_substrN i j i.toNat j.toNat Try.underlying9 rfl rfl rfl (.inr ⟨_, rfl⟩) (.inr ⟨_, rfl⟩) (by omega) (by omega) ⟨by omega, by omega, by omega⟩ ?_)
          refine WL.op rfl (d_strBytes Try.underlying9 Try.underlying85 Try.underlying5 rfl (by omega) fun c2 w5 u4 => ?_)
          have H6 : UpG w [] w5 [[rowT (tyI .i64) (.slice oa o.length oc) 3 o], [rdC (tyI .u8) (.slice (some ⟨w4.heap.size, 0, none⟩) ((bytesL (text.extract i.toNat j.toNat)).length) c2) (bytesL (text.extract i.toNat j.toNat))]] := H5.new' u4
          refine WL.op rfl (d_lenS Try.underlying85 rfl ?_)
          refine WL.op rfl (d_move rfl ?_)
          refine WL.done (X.then_code ?_)
          refine W.block ?_
          refine W.pick [40, 39, 38, 8, 7, 6, 0, 2] (Γ' := [(40, .int .i64 0), (39, .int .i64 (((bytesL (text.extract i.toNat j.toNat)).length : Nat) : Int)), (38, .slice (some ⟨w4.heap.size, 0, none⟩) ((bytesL (text.extract i.toNat j.toNat)).length) c2), (8, .slice oa o.length oc), (7, .bool false), (6, .slice none 0 0), (0, .string text), (2, .int .i64 j)]) rfl ?_
          refine W.loop (fun m Γ' w' => ∃ k : Nat, ∃ q : List Int, ∃ qa : Option Addr, ∃ qc : Nat, Γ' = [(40, .int .i64 ((k : Nat) : Int)), (39, .int .i64 (((bytesL (text.extract i.toNat j.toNat)).length : Nat) : Int)), (38, .slice (some ⟨w4.heap.size, 0, none⟩) ((bytesL (text.extract i.toNat j.toNat)).length) c2), (8, .slice qa q.length qc), (7, .bool false), (6, .slice none 0 0), (0, .string text), (2, .int .i64 j)] ∧ UpG w [] w' [[rowT (tyI .i64) (.slice qa q.length qc) 3 q], [rdC (tyI .u8) (.slice (some ⟨w4.heap.size, 0, none⟩) ((bytesL (text.extract i.toNat j.toNat)).length) c2) (bytesL (text.extract i.toNat j.toNat))]] ∧ (k ≤ (bytesL (text.extract i.toNat j.toNat)).length) ∧ (q = (if i = 0 then ([256] : List Int) else []) ++ (bytesL (text.extract i.toNat j.toNat)).take k) ∧ (q.length ≤ 1 + k) ∧ m = (bytesL (text.extract i.toNat j.toNat)).length - k) ((bytesL (text.extract i.toNat j.toNat)).length - 0) ⟨0, o, oa, oc, rfl, H6, (by first | assumption | omega | simp), (by simp [ho]), (by omega), rfl⟩ ?_
          rintro m1 Γ2 w6 ⟨k, q, qa, qc, rfl, H7, hk, hq, hql, rfl⟩
          refine W.seq ?_
          have hbl := bytesL_len (text.extract i.toNat j.toNat)
          have hxs : (text.extract i.toNat j.toNat).size ≤ text.size := by simp; omega
          refine W.region ?_
          refine WL.op rfl (d_cmp (decide (((k : Nat) : Int) < (((bytesL (text.extract i.toNat j.toNat)).length : Nat) : Int))) rfl rfl rfl ?_)
          refine WL.done (X.then_code ?_)
          refine W.seq ?_
          refine W.ite (p := ((k : Nat) : Int) < (((bytesL (text.extract i.toNat j.toNat)).length : Nat) : Int)) rfl (fun c68 => ?_) (fun c68 => ?_)
          · skip
            refine W.skip (X.then_code ?_)
            refine W.seq ?_
            refine W.block ?_
            refine W.seq ?_
            have hbl := bytesL_len (text.extract i.toNat j.toNat)
            have hxs : (text.extract i.toNat j.toNat).size ≤ text.size := by simp; omega
            refine W.region ?_
            refine WL.op rfl (t_addr1 k (T := (tyI .u8)) rfl Try.underlying85 sz5 rfl rfl (H7.rdC 1 rfl) rfl (by omega) ?_)
            refine WL.op rfl (t_load1 k 0 (T := (tyI .u8)) rfl Try.underlying5 rfl rfl (H7.rdC 1 rfl) (by omega) rfl ?_)
            refine WL.op rfl (d_assign rfl ?_)
            refine WL.done (X.then_code ?_)
            refine W.region ?_
            refine WL.op rfl (d_move rfl ?_)
            refine WL.op rfl (d_move rfl ?_)
            refine WL.op rfl (d_convI (kd := .i64) Try.underlying5 Try.underlying3 rfl (by have := bt_range (text.extract i.toNat j.toNat) k; rw [bytesL_get _ _ (by omega)]; simp [IntKind.signed, IntKind.bits, IntKind.max]; omega) ?_)
            refine WL.op rfl (t_buildSlice (T := (tyI .i64)) (xs := [(bytesL (text.extract i.toNat j.toNat)).getD k 0]) (cs := #[.int .i64 ((bytesL (text.extract i.toNat j.toNat)).getD k 0)]) rfl Try.underlying22 sz3 rfl rfl rfl rfl (by kernel_rfl) rfl rfl fun w7 u5 => ?_)
            have H8 : UpG w [] w7 [[rowT (tyI .i64) (.slice qa q.length qc) 3 q], [rdC (tyI .u8) (.slice (some ⟨w4.heap.size, 0, none⟩) ((bytesL (text.extract i.toNat j.toNat)).length) c2) (bytesL (text.extract i.toNat j.toNat))], [rowT (tyI .i64) (.slice (some ⟨w6.heap.size, 0, none⟩) ([(bytesL (text.extract i.toNat j.toNat)).getD k 0].length) ([(bytesL (text.extract i.toNat j.toNat)).getD k 0].length)) 3 [(bytesL (text.extract i.toNat j.toNat)).getD k 0]]] := H7.new' u5
            refine WL.op rfl (t_append (T := (tyI .i64)) (xs := q) (ys := [(bytesL (text.extract i.toNat j.toNat)).getD k 0]) rfl Try.underlying22 sz3 rfl rfl rfl (H8.ownT 0 rfl) (H8.rdT 2 rfl) (by simp; omega) (by simp; omega) fun a2 c3 w8 u6 => ?_)
            have H9 : UpG w [] w8 [[rowT (tyI .i64) (.slice a2 ((q ++ [(bytesL (text.extract i.toNat j.toNat)).getD k 0]).length) c3) 3 (q ++ [(bytesL (text.extract i.toNat j.toNat)).getD k 0])], [rdC (tyI .u8) (.slice (some ⟨w4.heap.size, 0, none⟩) ((bytesL (text.extract i.toNat j.toNat)).length) c2) (bytesL (text.extract i.toNat j.toNat))], []] := (H8.on 0 rfl u6).drop 2
            refine WL.op rfl (d_assign rfl ?_)
            refine WL.done (X.block_normal (X.then_code ?_))
            refine W.pick [8, 48, 47, 46, 45, 44, 10, 43, 42, 41, 40, 39, 38, 7, 6, 0, 2] (Γ' := [(8, .slice a2 ((q ++ [(bytesL (text.extract i.toNat j.toNat)).getD k 0]).length) c3), (48, .slice a2 ((q ++ [(bytesL (text.extract i.toNat j.toNat)).getD k 0]).length) c3), (47, .slice (some ⟨w6.heap.size, 0, none⟩) ([(bytesL (text.extract i.toNat j.toNat)).getD k 0].length) ([(bytesL (text.extract i.toNat j.toNat)).getD k 0].length)), (46, .int .i64 ((bytesL (text.extract i.toNat j.toNat)).getD k 0)), (45, .int .u8 ((bytesL (text.extract i.toNat j.toNat)).getD k 0)), (44, .slice qa q.length qc), (10, .int .u8 ((bytesL (text.extract i.toNat j.toNat)).getD k 0)), (43, .int .u8 ((bytesL (text.extract i.toNat j.toNat)).getD k 0)), (42, elemPtr (.slice (some ⟨w4.heap.size, 0, none⟩) ((bytesL (text.extract i.toNat j.toNat)).length) c2) k), (41, .bool (decide (((k : Nat) : Int) < (((bytesL (text.extract i.toNat j.toNat)).length : Nat) : Int)))), (40, .int .i64 ((k : Nat) : Int)), (39, .int .i64 (((bytesL (text.extract i.toNat j.toNat)).length : Nat) : Int)), (38, .slice (some ⟨w4.heap.size, 0, none⟩) ((bytesL (text.extract i.toNat j.toNat)).length) c2), (7, .bool false), (6, .slice none 0 0), (0, .string text), (2, .int .i64 j)]) rfl ?_
            have hbl := bytesL_len (text.extract i.toNat j.toNat)
            have hxs : (text.extract i.toNat j.toNat).size ≤ text.size := by simp; omega
            refine W.region ?_
            refine WL.op rfl (d_add rfl rfl (by omega) (by omega) ?_)
            refine WL.op rfl (d_move rfl ?_)
            refine WL.done ?_
            exact X.next [40, 39, 38, 8, 7, 6, 0, 2] (Γ' := [(40, .int .i64 (((k + 1) : Nat) : Int)), (39, .int .i64 (((bytesL (text.extract i.toNat j.toNat)).length : Nat) : Int)), (38, .slice (some ⟨w4.heap.size, 0, none⟩) ((bytesL (text.extract i.toNat j.toNat)).length) c2), (8, .slice a2 ((q ++ [(bytesL (text.extract i.toNat j.toNat)).getD k 0]).length) c3), (7, .bool false), (6, .slice none 0 0), (0, .string text), (2, .int .i64 j)]) rfl ((bytesL (text.extract i.toNat j.toNat)).length - (k + 1)) (by omega) ⟨k + 1, q ++ [(bytesL (text.extract i.toNat j.toNat)).getD k 0], a2, c3, rfl, (H9.re rfl), (by first | assumption | omega | simp), (by rw [hq, List.append_assoc, take_getD_step (by omega)]), (by simp; omega), rfl⟩
          · skip
            refine W.exit (X.then_exit (X.then_exit (X.block_exit (X.then_code ?_))))
            refine W.seq ?_
            refine W.seq ?_
            refine W.region ?_
            refine WL.op rfl (d_move rfl ?_)
            refine WL.op rfl (d_move rfl ?_)
            refine WL.op rfl (d_lenStr Try.underlying9 rfl ?_)
            refine WL.op rfl (d_cmp (decide (j = ((text.size : Nat) : Int))) rfl rfl rfl ?_)
            refine WL.done (X.then_code ?_)
            refine W.ite (p := j = ((text.size : Nat) : Int)) rfl (fun c71 => ?_) (fun c71 => ?_)
            · skip
              refine W.region ?_
              refine WL.op rfl (d_move rfl ?_)
              refine WL.op rfl (t_buildSlice (T := (tyI .i64)) (xs := [257]) (cs := #[.int .i64 257]) rfl Try.underlying22 sz3 rfl rfl rfl rfl (by kernel_rfl) rfl rfl fun w9 u7 => ?_)
              have H10 : UpG w [] w9 [[rowT (tyI .i64) (.slice qa q.length qc) 3 q], [rdC (tyI .u8) (.slice (some ⟨w4.heap.size, 0, none⟩) ((bytesL (text.extract i.toNat j.toNat)).length) c2) (bytesL (text.extract i.toNat j.toNat))], [rowT (tyI .i64) (.slice (some ⟨w6.heap.size, 0, none⟩) ([257].length) ([257].length)) 3 [257]]] := H7.new' u7
              refine WL.op rfl (t_append (T := (tyI .i64)) (xs := q) (ys := [257]) rfl Try.underlying22 sz3 rfl rfl rfl (H10.ownT 0 rfl) (H10.rdT 2 rfl) (by simp; omega) (by simp; omega) fun a3 c4 w10 u8 => ?_)
              have H11 : UpG w [] w10 [[rowT (tyI .i64) (.slice a3 ((q ++ [257]).length) c4) 3 (q ++ [257])], [rdC (tyI .u8) (.slice (some ⟨w4.heap.size, 0, none⟩) ((bytesL (text.extract i.toNat j.toNat)).length) c2) (bytesL (text.extract i.toNat j.toNat))], []] := (H10.on 0 rfl u8).drop 2
              refine WL.op rfl (d_assign rfl ?_)
              refine WL.done (X.then_code ?_)
              refine W.seq ?_
              refine W.region ?_
              refine WL.op rfl (d_move rfl ?_)
              refine WL.op rfl (d_assign rfl ?_)
              refine WL.op rfl (d_assign rfl ?_)
              refine WL.done (X.then_code ?_)
              refine W.pick [7, 6] (Γ' := [(7, .bool true), (6, .slice a3 ((q ++ [257]).length) c4)]) rfl ?_
              refine W.ret (X.ret2 rfl rfl rfl ?_)
              have e2 := wordD_yes (s := text) (i := i) (j := j) (by omega)
              rw [List.take_of_length_le (by omega)] at hq
              have e1 : wordD text i j = (if i = 0 then ([256] : List Int) else []) ++ bytesL (text.extract i.toNat j.toNat) ++ (if j = (text.size : Int) then [257] else []) := by rw [wordD, if_neg (by rw [e2]; simp), if_neg c61]
              rw [e1, e2, ← hq]
              first | rw [if_pos c71] | (rw [if_neg c71, List.append_nil])
              exact ⟨a3, c4, (by rfl), (by have hh := H11.one 0 rfl; exact hh)⟩
            · skip
              refine W.skip (X.then_code ?_)
              refine W.seq ?_
              refine W.region ?_
              refine WL.op rfl (d_move rfl ?_)
              refine WL.op rfl (d_assign rfl ?_)
              refine WL.op rfl (d_assign rfl ?_)
              refine WL.done (X.then_code ?_)
              refine W.ret (X.ret2 rfl rfl rfl ?_)
              have e2 := wordD_yes (s := text) (i := i) (j := j) (by omega)
              rw [List.take_of_length_le (by omega)] at hq
              have e1 : wordD text i j = (if i = 0 then ([256] : List Int) else []) ++ bytesL (text.extract i.toNat j.toNat) ++ (if j = (text.size : Int) then [257] else []) := by rw [wordD, if_neg (by rw [e2]; simp), if_neg c61]
              rw [e1, e2, ← hq]
              first | rw [if_pos c71] | (rw [if_neg c71, List.append_nil])
              exact ⟨qa, qc, (by rfl), (by have hh := H7.one 0 rfl; exact hh)⟩
end Go.Proofs.Ytoeockpkkmgieaa

/- The walks of functions, printed by wip/tools/gw.py. -/
namespace Go.Proofs.Ytoeockpkkmgieaa
open Go Go.Sx
set_option linter.unusedVariables false
set_option linter.unusedSimpArgs false
set_option maxRecDepth 20000 in
theorem spreadR_any (todoa : Option Addr) (todo : List Int) (todoc : Nat) (n : Nat) (next : FuncId) (nextc : List Value) (nx : Int → List Int) (w : World) (hp : Hp w [rowT (tyI .i64) (.slice todoa todo.length todoc) 3 todo]) (hn : n ≤ 5000 ∧ todo.length ≤ 5000) (hr : ∀ t, t ∈ todo → 0 ≤ t ∧ t < (n : Int)) (hnx : ∀ s, 0 ≤ s → s < (n : Int) → (nx s).length ≤ 2000000 ∧ ∀ t, t ∈ nx s → 0 ≤ t ∧ t < (n : Int)) (hok : CallOk Try.prog next) (hf : ClosR Try.prog next nextc nx n (ats [rowT (tyI .i64) (.slice todoa todo.length todoc) 3 todo]) w) :
    Calls Try.prog 58 #[.slice todoa todo.length todoc, .int .i64 ((n : Nat) : Int), .func (.func next) #[] nextc.toArray] w (Ret fun v w' => ∃ a2 : Option Addr, ∃ o2 : List Bool, ∃ c2 : Nat, v = .slice a2 o2.length c2 ∧ Upd w [rowT (tyI .i64) (.slice todoa todo.length todoc) 3 todo] w' [rowT tyB (.slice a2 o2.length c2) 4 o2] ∧ (SprF nx n todo o2)) := by
  refine calls_of_W (args := [.slice todoa todo.length todoc, .int .i64 ((n : Nat) : Int), .func (.func next) #[] nextc.toArray]) Try.func58 rfl rfl rfl ?_
  have H0 : UpG w [rowT (tyI .i64) (.slice todoa todo.length todoc) 3 todo] w [[rowT (tyI .i64) (.slice todoa todo.length todoc) 3 todo]] := (UpG.refl hp).re rfl
  show W _ _ _ _ [(0, .slice todoa todo.length todoc), (1, .int .i64 ((n : Nat) : Int)), (2, .func (.func next) #[] nextc.toArray)] w
  refine W.seq ?_
  refine W.region ?_
  refine WL.op rfl (d_assign rfl ?_)
  refine WL.done (X.then_code ?_)
  refine W.seq ?_
  refine W.region ?_
  refine WL.op rfl (d_move rfl ?_)
  refine WL.op rfl (t_make n false (T := tyB) rfl Try.underlying23 sz4 rfl rfl rfl rfl (by omega) (by omega) fun w1 u1 => ?_)
  have H1 : UpG w [rowT (tyI .i64) (.slice todoa todo.length todoc) 3 todo] w1 [[rowT (tyI .i64) (.slice todoa todo.length todoc) 3 todo], [rowT tyB (.slice (some ⟨w.heap.size, 0, none⟩) ((List.replicate n false).length) n) 4 (List.replicate n false)]] := H0.new' u1
  refine WL.op rfl (d_assign rfl ?_)
  refine WL.done (X.then_code ?_)
  refine W.seq ?_
  refine W.seq ?_
  refine W.region ?_
  refine WL.op rfl (d_move rfl ?_)
  refine WL.op rfl (d_lenS Try.underlying22 rfl ?_)
  refine WL.op rfl (d_move rfl ?_)
  refine WL.done (X.then_code ?_)
  refine W.block ?_
  refine W.pick [17, 16, 15, 7, 6, 0, 2] (Γ' := [(17, .int .i64 0), (16, .int .i64 ((todo.length : Nat) : Int)), (15, .slice todoa todo.length todoc), (7, .slice (some ⟨w.heap.size, 0, none⟩) ((List.replicate n false).length) n), (6, .slice none 0 0), (0, .slice todoa todo.length todoc), (2, .func (.func next) #[] nextc.toArray)]) rfl ?_
  refine W.loop (fun m Γ' w' => ∃ k : Nat, ∃ o : List Bool, Γ' = [(17, .int .i64 ((k : Nat) : Int)), (16, .int .i64 ((todo.length : Nat) : Int)), (15, .slice todoa todo.length todoc), (7, .slice (some ⟨w.heap.size, 0, none⟩) ((List.replicate n false).length) n), (6, .slice none 0 0), (0, .slice todoa todo.length todoc), (2, .func (.func next) #[] nextc.toArray)] ∧ UpG w [rowT (tyI .i64) (.slice todoa todo.length todoc) 3 todo] w' [[rowT (tyI .i64) (.slice todoa todo.length todoc) 3 todo], [rowT tyB (.slice (some ⟨w.heap.size, 0, none⟩) ((List.replicate n false).length) n) 4 o]] ∧ (k ≤ todo.length) ∧ (SprA n todo o k) ∧ m = todo.length - k) (todo.length - 0) ⟨0, List.replicate n false, rfl, H1, (by first | assumption | omega | simp), (by exact SprA.start n todo), rfl⟩ ?_
  rintro m1 Γ1 w2 ⟨k, o, rfl, H2, hk, ha, rfl⟩
  have hol := ha.len
  refine W.seq ?_
  refine W.region ?_
  refine WL.op rfl (d_cmp (decide (((k : Nat) : Int) < ((todo.length : Nat) : Int))) rfl rfl rfl ?_)
  refine WL.done (X.then_code ?_)
  refine W.seq ?_
  refine W.ite (p := ((k : Nat) : Int) < ((todo.length : Nat) : Int)) rfl (fun c124 => ?_) (fun c124 => ?_)
  · skip
    refine W.skip (X.then_code ?_)
    refine W.seq ?_
    refine W.block ?_
    refine W.seq ?_
    refine W.region ?_
    refine WL.op rfl (t_addr1 k (T := (tyI .i64)) rfl Try.underlying22 sz3 rfl rfl (H2.rdT 0 rfl) rfl (by omega) ?_)
    refine WL.op rfl (t_load1 k 0 (T := (tyI .i64)) rfl Try.underlying3 rfl rfl (H2.rdT 0 rfl) (by omega) rfl ?_)
    refine WL.op rfl (d_assign rfl ?_)
    refine WL.done (X.then_code ?_)
    have hb := hr (todo.getD k 0) (getD_mem' (by omega))
    refine W.region ?_
    refine WL.op rfl (d_move rfl ?_)
    refine WL.op rfl (d_move rfl ?_)
    refine WL.op rfl (t_addr1 ((todo.getD k 0).toNat) (T := tyB) rfl Try.underlying23 sz4 rfl rfl (H2.rdT 1 rfl) (by omega) (by omega) ?_)
    refine WL.op0 (t_store1 ((todo.getD k 0).toNat) true (T := tyB) (e := 4) rfl sz4 rfl rfl rfl (H2.ownT 1 rfl) (by omega) fun w3 u2 => ?_)
    have H3 : UpG w [rowT (tyI .i64) (.slice todoa todo.length todoc) 3 todo] w3 [[rowT (tyI .i64) (.slice todoa todo.length todoc) 3 todo], [rowT tyB (.slice (some ⟨w.heap.size, 0, none⟩) ((List.replicate n false).length) n) 4 (o.set ((todo.getD k 0).toNat) true)]] := H2.on 1 rfl u2
    refine WL.done (X.block_normal (X.then_code ?_))
    refine W.region ?_
    refine WL.op rfl (d_add rfl rfl (by omega) (by omega) ?_)
    refine WL.op rfl (d_move rfl ?_)
    refine WL.done ?_
    exact X.next [17, 16, 15, 7, 6, 0, 2] (Γ' := [(17, .int .i64 (((k + 1) : Nat) : Int)), (16, .int .i64 ((todo.length : Nat) : Int)), (15, .slice todoa todo.length todoc), (7, .slice (some ⟨w.heap.size, 0, none⟩) ((List.replicate n false).length) n), (6, .slice none 0 0), (0, .slice todoa todo.length todoc), (2, .func (.func next) #[] nextc.toArray)]) rfl (todo.length - (k + 1)) (by omega) ⟨k + 1, o.set ((todo.getD k 0).toNat) true, rfl, H3, (by first | assumption | omega | simp), (by exact ha.step (by omega) hr), rfl⟩
  · skip
    refine W.exit (X.then_exit (X.then_exit (X.block_exit (X.then_code ?_))))
    refine W.seq ?_
    refine W.block ?_
    have hcf := cf_le o
    refine W.pick [7, 6, 0, 2] (Γ' := [(7, .slice (some ⟨w.heap.size, 0, none⟩) ((List.replicate n false).length) n), (6, .slice none 0 0), (0, .slice todoa todo.length todoc), (2, .func (.func next) #[] nextc.toArray)]) rfl ?_
    refine W.loop (fun m Γ' w' => ∃ o : List Bool, ∃ td : List Int, ∃ ta : Option Addr, ∃ tc : Nat, Γ' = [(7, .slice (some ⟨w.heap.size, 0, none⟩) ((List.replicate n false).length) n), (6, .slice none 0 0), (0, .slice ta td.length tc), (2, .func (.func next) #[] nextc.toArray)] ∧ UpG w [rowT (tyI .i64) (.slice todoa todo.length todoc) 3 todo] w' [[rowT (tyI .i64) (.slice ta td.length tc) 3 td], [rowT tyB (.slice (some ⟨w.heap.size, 0, none⟩) ((List.replicate n false).length) n) 4 o]] ∧ (SprI nx n todo o td) ∧ (2 * cf o + td.length ≤ 20000) ∧ m = 2 * cf o + td.length) (2 * cf o + todo.length) ⟨o, todo, todoa, todoc, rfl, H2, (by exact ha.done (by omega) hr), (by omega), rfl⟩ ?_
    rintro m2 Γ2 w4 ⟨o_1, td, ta, tc, rfl, H4, hi, hB, rfl⟩
    have hol2 := hi.len
    refine W.seq ?_
    refine W.seq ?_
    refine W.region ?_
    refine WL.op rfl (d_move rfl ?_)
    refine WL.op rfl (d_lenS Try.underlying22 rfl ?_)
    refine WL.op rfl (d_cmp (decide (((td.length : Nat) : Int) > (0 : Int))) rfl rfl rfl ?_)
    refine WL.done (X.then_code ?_)
    refine W.ite (p := ((td.length : Nat) : Int) > (0 : Int)) rfl (fun c127 => ?_) (fun c127 => ?_)
    · skip
      refine W.skip (X.then_code ?_)
      refine W.block ?_
      refine W.seq ?_
      refine W.region ?_
      refine WL.op rfl (d_move rfl ?_)
      refine WL.op rfl (d_move rfl ?_)
      refine WL.op rfl (d_lenS Try.underlying22 rfl ?_)
      refine WL.op rfl (d_sub rfl rfl (by omega) (by omega) ?_)
      refine WL.op rfl (t_addr1 (td.length - 1) (T := (tyI .i64)) rfl Try.underlying22 sz3 rfl rfl (H4.rdT 0 rfl) (by omega) (by omega) ?_)
      refine WL.op rfl (t_load1 (td.length - 1) 0 (T := (tyI .i64)) rfl Try.underlying3 rfl rfl (H4.rdT 0 rfl) (by omega) rfl ?_)
      refine WL.op rfl (d_assign rfl ?_)
      refine WL.done (X.then_code ?_)
      refine W.seq ?_
      refine W.region ?_
      refine WL.op rfl (d_move rfl ?_)
      refine WL.op rfl (d_move rfl ?_)
      refine WL.op rfl (d_lenS Try.underlying22 rfl ?_)
      refine WL.op rfl (d_sub rfl rfl (by omega) (by omega) ?_)
      refine WL.op rfl (t_pop (((td.length : Nat) : Int) - 1) (td.length - 1) (T := (tyI .i64)) (e := 3) (xs := td) rfl Try.underlying22 sz3 rfl rfl (H4.ownT 0 rfl) (by omega) (by omega) fun w5 u3 => ?_)
      have H5 : UpG w [rowT (tyI .i64) (.slice todoa todo.length todoc) 3 todo] w5 [[rowT (tyI .i64) (.slice ta ((td.take (td.length - 1)).length) tc) 3 (td.take (td.length - 1))], [rowT tyB (.slice (some ⟨w.heap.size, 0, none⟩) ((List.replicate n false).length) n) 4 o_1]] := H4.on 0 rfl u3
      refine WL.op rfl (d_assign rfl ?_)
      refine WL.done (X.then_code ?_)
      refine W.pick [0, 38, 37, 36, 35, 34, 10, 33, 32, 31, 30, 29, 28, 27, 26, 25, 7, 6, 2] (Γ' := [(0, .slice ta ((td.take (td.length - 1)).length) tc), (38, .slice ta ((td.take (td.length - 1)).length) tc), (37, .int .i64 (((td.length : Nat) : Int) - 1)), (36, .int .i64 ((td.length : Nat) : Int)), (35, .slice ta td.length tc), (34, .slice ta td.length tc), (10, .int .i64 (td.getD (td.length - 1) 0)), (33, .int .i64 (td.getD (td.length - 1) 0)), (32, elemPtr (.slice ta td.length tc) (td.length - 1)), (31, .int .i64 (((td.length : Nat) : Int) - 1)), (30, .int .i64 ((td.length : Nat) : Int)), (29, .slice ta td.length tc), (28, .slice ta td.length tc), (27, .bool (decide (((td.length : Nat) : Int) > (0 : Int)))), (26, .int .i64 ((td.length : Nat) : Int)), (25, .slice ta td.length tc), (7, .slice (some ⟨w.heap.size, 0, none⟩) ((List.replicate n false).length) n), (6, .slice none 0 0), (2, .func (.func next) #[] nextc.toArray)]) rfl ?_
      refine W.seq ?_
      have hst := (hi.inT (td.getD (td.length - 1) 0) (getD_mem' (by omega))).1
      have hns := hnx _ hst.1 hst.2
      refine W.region ?_
      refine WL.op rfl (d_move rfl ?_)
      refine WL.op rfl (d_move rfl ?_)
      refine WL.op rfl (d_callv hok rfl rfl (Ret.calls (hf w5 H5.keep (td.getD (td.length - 1) 0) (by omega) (by omega)) fun _ w6 p1 => ?_))
      obtain ⟨na1, nc1, rfl, u4⟩ := p1
      have H6 : UpG w [rowT (tyI .i64) (.slice todoa todo.length todoc) 3 todo] w6 [[rowT (tyI .i64) (.slice ta ((td.take (td.length - 1)).length) tc) 3 (td.take (td.length - 1))], [rowT tyB (.slice (some ⟨w.heap.size, 0, none⟩) ((List.replicate n false).length) n) 4 o_1], [rowT (tyI .i64) (.slice na1 ((nx (td.getD (td.length - 1) 0)).length) nc1) 3 (nx (td.getD (td.length - 1) 0))]] := H5.new' u4
      refine WL.op rfl (d_lenS Try.underlying22 rfl ?_)
      refine WL.op rfl (d_move rfl ?_)
      refine WL.done (X.then_code ?_)
      refine W.pick [43, 42, 41, 40, 39, 0, 38, 37, 36, 35, 34, 10, 33, 32, 31, 30, 29, 28, 27, 26, 25, 7, 6, 2] (Γ' := [(43, .int .i64 0), (42, .int .i64 (((nx (td.getD (td.length - 1) 0)).length : Nat) : Int)), (41, .slice na1 ((nx (td.getD (td.length - 1) 0)).length) nc1), (40, .int .i64 (td.getD (td.length - 1) 0)), (39, .func (.func next) #[] nextc.toArray), (0, .slice ta ((td.take (td.length - 1)).length) tc), (38, .slice ta ((td.take (td.length - 1)).length) tc), (37, .int .i64 (((td.length : Nat) : Int) - 1)), (36, .int .i64 ((td.length : Nat) : Int)), (35, .slice ta td.length tc), (34, .slice ta td.length tc), (10, .int .i64 (td.getD (td.length - 1) 0)), (33, .int .i64 (td.getD (td.length - 1) 0)), (32, elemPtr (.slice ta td.length tc) (td.length - 1)), (31, .int .i64 (((td.length : Nat) : Int) - 1)), (30, .int .i64 ((td.length : Nat) : Int)), (29, .slice ta td.length tc), (28, .slice ta td.length tc), (27, .bool (decide (((td.length : Nat) : Int) > (0 : Int)))), (26, .int .i64 ((td.length : Nat) : Int)), (25, .slice ta td.length tc), (7, .slice (some ⟨w.heap.size, 0, none⟩) ((List.replicate n false).length) n), (6, .slice none 0 0), (2, .func (.func next) #[] nextc.toArray)]) rfl ?_
      refine W.block ?_
      refine W.pick [43, 42, 41, 40, 39, 0, 38, 37, 36, 35, 34, 10, 33, 32, 31, 30, 29, 28, 27, 26, 25, 7, 6, 2] (Γ' := [(43, .int .i64 0), (42, .int .i64 (((nx (td.getD (td.length - 1) 0)).length : Nat) : Int)), (41, .slice na1 ((nx (td.getD (td.length - 1) 0)).length) nc1), (40, .int .i64 (td.getD (td.length - 1) 0)), (39, .func (.func next) #[] nextc.toArray), (0, .slice ta ((td.take (td.length - 1)).length) tc), (38, .slice ta ((td.take (td.length - 1)).length) tc), (37, .int .i64 (((td.length : Nat) : Int) - 1)), (36, .int .i64 ((td.length : Nat) : Int)), (35, .slice ta td.length tc), (34, .slice ta td.length tc), (10, .int .i64 (td.getD (td.length - 1) 0)), (33, .int .i64 (td.getD (td.length - 1) 0)), (32, elemPtr (.slice ta td.length tc) (td.length - 1)), (31, .int .i64 (((td.length : Nat) : Int) - 1)), (30, .int .i64 ((td.length : Nat) : Int)), (29, .slice ta td.length tc), (28, .slice ta td.length tc), (27, .bool (decide (((td.length : Nat) : Int) > (0 : Int)))), (26, .int .i64 ((td.length : Nat) : Int)), (25, .slice ta td.length tc), (7, .slice (some ⟨w.heap.size, 0, none⟩) ((List.replicate n false).length) n), (6, .slice none 0 0), (2, .func (.func next) #[] nextc.toArray)]) rfl ?_
      refine W.loop (fun m Γ' w' => ∃ j : Nat, ∃ o3 : List Bool, ∃ tj : List Int, ∃ ua : Option Addr, ∃ uc : Nat, Γ' = [(43, .int .i64 ((j : Nat) : Int)), (42, .int .i64 (((nx (td.getD (td.length - 1) 0)).length : Nat) : Int)), (41, .slice na1 ((nx (td.getD (td.length - 1) 0)).length) nc1), (40, .int .i64 (td.getD (td.length - 1) 0)), (39, .func (.func next) #[] nextc.toArray), (0, .slice ua tj.length uc), (38, .slice ta ((td.take (td.length - 1)).length) tc), (37, .int .i64 (((td.length : Nat) : Int) - 1)), (36, .int .i64 ((td.length : Nat) : Int)), (35, .slice ta td.length tc), (34, .slice ta td.length tc), (10, .int .i64 (td.getD (td.length - 1) 0)), (33, .int .i64 (td.getD (td.length - 1) 0)), (32, elemPtr (.slice ta td.length tc) (td.length - 1)), (31, .int .i64 (((td.length : Nat) : Int) - 1)), (30, .int .i64 ((td.length : Nat) : Int)), (29, .slice ta td.length tc), (28, .slice ta td.length tc), (27, .bool (decide (((td.length : Nat) : Int) > (0 : Int)))), (26, .int .i64 ((td.length : Nat) : Int)), (25, .slice ta td.length tc), (7, .slice (some ⟨w.heap.size, 0, none⟩) ((List.replicate n false).length) n), (6, .slice none 0 0), (2, .func (.func next) #[] nextc.toArray)] ∧ UpG w [rowT (tyI .i64) (.slice todoa todo.length todoc) 3 todo] w' [[rowT (tyI .i64) (.slice ua tj.length uc) 3 tj], [rowT tyB (.slice (some ⟨w.heap.size, 0, none⟩) ((List.replicate n false).length) n) 4 o3], [rowT (tyI .i64) (.slice na1 ((nx (td.getD (td.length - 1) 0)).length) nc1) 3 (nx (td.getD (td.length - 1) 0))]] ∧ (SprJ nx n todo o3 tj (td.getD (td.length - 1) 0) j) ∧ (j ≤ (nx (td.getD (td.length - 1) 0)).length) ∧ (2 * cf o3 + tj.length + 1 ≤ 2 * cf o_1 + td.length) ∧ m = (nx (td.getD (td.length - 1) 0)).length - j) ((nx (td.getD (td.length - 1) 0)).length - 0) ⟨0, o_1, td.take (td.length - 1), ta, tc, rfl, H6, (by exact hi.pop (by omega)), (by first | assumption | omega | simp), (by simp; omega), rfl⟩ ?_
      rintro m3 Γ3 w7 ⟨j, o3, tj, ua, uc, rfl, H7, hj, hjl, hm, rfl⟩
      have hol3 := hj.len
      refine W.seq ?_
      have hst := (hi.inT (td.getD (td.length - 1) 0) (getD_mem' (by omega))).1
      have hns := hnx _ hst.1 hst.2
      refine W.region ?_
      refine WL.op rfl (d_cmp (decide (((j : Nat) : Int) < (((nx (td.getD (td.length - 1) 0)).length : Nat) : Int))) rfl rfl rfl ?_)
      refine WL.done (X.then_code ?_)
      refine W.pick [44, 43, 42, 41, 40, 39, 0, 38, 37, 36, 35, 34, 10, 33, 32, 31, 30, 29, 28, 27, 26, 25, 7, 6, 2] (Γ' := [(44, .bool (decide (((j : Nat) : Int) < (((nx (td.getD (td.length - 1) 0)).length : Nat) : Int)))), (43, .int .i64 ((j : Nat) : Int)), (42, .int .i64 (((nx (td.getD (td.length - 1) 0)).length : Nat) : Int)), (41, .slice na1 ((nx (td.getD (td.length - 1) 0)).length) nc1), (40, .int .i64 (td.getD (td.length - 1) 0)), (39, .func (.func next) #[] nextc.toArray), (0, .slice ua tj.length uc), (38, .slice ta ((td.take (td.length - 1)).length) tc), (37, .int .i64 (((td.length : Nat) : Int) - 1)), (36, .int .i64 ((td.length : Nat) : Int)), (35, .slice ta td.length tc), (34, .slice ta td.length tc), (10, .int .i64 (td.getD (td.length - 1) 0)), (33, .int .i64 (td.getD (td.length - 1) 0)), (32, elemPtr (.slice ta td.length tc) (td.length - 1)), (31, .int .i64 (((td.length : Nat) : Int) - 1)), (30, .int .i64 ((td.length : Nat) : Int)), (29, .slice ta td.length tc), (28, .slice ta td.length tc), (27, .bool (decide (((td.length : Nat) : Int) > (0 : Int)))), (26, .int .i64 ((td.length : Nat) : Int)), (25, .slice ta td.length tc), (7, .slice (some ⟨w.heap.size, 0, none⟩) ((List.replicate n false).length) n), (6, .slice none 0 0), (2, .func (.func next) #[] nextc.toArray)]) rfl ?_
      refine W.seq ?_
      refine W.ite (p := ((j : Nat) : Int) < (((nx (td.getD (td.length - 1) 0)).length : Nat) : Int)) rfl (fun c130 => ?_) (fun c130 => ?_)
      · skip
        refine W.skip (X.then_code ?_)
        refine W.pick [44, 43, 42, 41, 40, 39, 0, 38, 37, 36, 35, 34, 10, 33, 32, 31, 30, 29, 28, 27, 26, 25, 7, 6, 2] (Γ' := [(44, .bool (decide (((j : Nat) : Int) < (((nx (td.getD (td.length - 1) 0)).length : Nat) : Int)))), (43, .int .i64 ((j : Nat) : Int)), (42, .int .i64 (((nx (td.getD (td.length - 1) 0)).length : Nat) : Int)), (41, .slice na1 ((nx (td.getD (td.length - 1) 0)).length) nc1), (40, .int .i64 (td.getD (td.length - 1) 0)), (39, .func (.func next) #[] nextc.toArray), (0, .slice ua tj.length uc), (38, .slice ta ((td.take (td.length - 1)).length) tc), (37, .int .i64 (((td.length : Nat) : Int) - 1)), (36, .int .i64 ((td.length : Nat) : Int)), (35, .slice ta td.length tc), (34, .slice ta td.length tc), (10, .int .i64 (td.getD (td.length - 1) 0)), (33, .int .i64 (td.getD (td.length - 1) 0)), (32, elemPtr (.slice ta td.length tc) (td.length - 1)), (31, .int .i64 (((td.length : Nat) : Int) - 1)), (30, .int .i64 ((td.length : Nat) : Int)), (29, .slice ta td.length tc), (28, .slice ta td.length tc), (27, .bool (decide (((td.length : Nat) : Int) > (0 : Int)))), (26, .int .i64 ((td.length : Nat) : Int)), (25, .slice ta td.length tc), (7, .slice (some ⟨w.heap.size, 0, none⟩) ((List.replicate n false).length) n), (6, .slice none 0 0), (2, .func (.func next) #[] nextc.toArray)]) rfl ?_
        refine W.seq ?_
        refine W.block ?_
        refine W.seq ?_
        have hst := (hi.inT (td.getD (td.length - 1) 0) (getD_mem' (by omega))).1
        have hns := hnx _ hst.1 hst.2
        refine W.region ?_
        refine WL.op rfl (t_addr1 j (T := (tyI .i64)) rfl Try.underlying22 sz3 rfl rfl (H7.rdT 2 rfl) rfl (by omega) ?_)
        refine WL.op rfl (t_load1 j 0 (T := (tyI .i64)) rfl Try.underlying3 rfl rfl (H7.rdT 2 rfl) (by omega) rfl ?_)
        refine WL.op rfl (d_assign rfl ?_)
        refine WL.done (X.then_code ?_)
        refine W.pick [12, 46, 45, 44, 43, 42, 41, 40, 39, 0, 38, 37, 36, 35, 34, 10, 33, 32, 31, 30, 29, 28, 27, 26, 25, 7, 6, 2] (Γ' := [(12, .int .i64 ((nx (td.getD (td.length - 1) 0)).getD j 0)), (46, .int .i64 ((nx (td.getD (td.length - 1) 0)).getD j 0)), (45, elemPtr (.slice na1 ((nx (td.getD (td.length - 1) 0)).length) nc1) j), (44, .bool (decide (((j : Nat) : Int) < (((nx (td.getD (td.length - 1) 0)).length : Nat) : Int)))), (43, .int .i64 ((j : Nat) : Int)), (42, .int .i64 (((nx (td.getD (td.length - 1) 0)).length : Nat) : Int)), (41, .slice na1 ((nx (td.getD (td.length - 1) 0)).length) nc1), (40, .int .i64 (td.getD (td.length - 1) 0)), (39, .func (.func next) #[] nextc.toArray), (0, .slice ua tj.length uc), (38, .slice ta ((td.take (td.length - 1)).length) tc), (37, .int .i64 (((td.length : Nat) : Int) - 1)), (36, .int .i64 ((td.length : Nat) : Int)), (35, .slice ta td.length tc), (34, .slice ta td.length tc), (10, .int .i64 (td.getD (td.length - 1) 0)), (33, .int .i64 (td.getD (td.length - 1) 0)), (32, elemPtr (.slice ta td.length tc) (td.length - 1)), (31, .int .i64 (((td.length : Nat) : Int) - 1)), (30, .int .i64 ((td.length : Nat) : Int)), (29, .slice ta td.length tc), (28, .slice ta td.length tc), (27, .bool (decide (((td.length : Nat) : Int) > (0 : Int)))), (26, .int .i64 ((td.length : Nat) : Int)), (25, .slice ta td.length tc), (7, .slice (some ⟨w.heap.size, 0, none⟩) ((List.replicate n false).length) n), (6, .slice none 0 0), (2, .func (.func next) #[] nextc.toArray)]) rfl ?_
        refine W.seq ?_
        have hb := hns.2 ((nx (td.getD (td.length - 1) 0)).getD j 0) (getD_mem' (by omega))
        refine W.region ?_
        refine WL.op rfl (d_move rfl ?_)
        refine WL.op rfl (d_move rfl ?_)
        refine WL.op rfl (t_addr1 (((nx (td.getD (td.length - 1) 0)).getD j 0).toNat) (T := tyB) rfl Try.underlying23 sz4 rfl rfl (H7.rdT 1 rfl) (by omega) (by omega) ?_)
        refine WL.op rfl (t_load1 (((nx (td.getD (td.length - 1) 0)).getD j 0).toNat) false (T := tyB) rfl Try.underlying4 rfl rfl (H7.rdT 1 rfl) (by omega) rfl ?_)
        refine WL.op rfl (d_notB rfl ?_)
        refine WL.done (X.then_code ?_)
        refine W.pick [51, 50, 49, 48, 47, 12, 46, 45, 44, 43, 42, 41, 40, 39, 0, 38, 37, 36, 35, 34, 10, 33, 32, 31, 30, 29, 28, 27, 26, 25, 7, 6, 2] (Γ' := [(51, .bool (!(o3.getD (((nx (td.getD (td.length - 1) 0)).getD j 0).toNat) false))), (50, .bool (o3.getD (((nx (td.getD (td.length - 1) 0)).getD j 0).toNat) false)), (49, elemPtr (.slice (some ⟨w.heap.size, 0, none⟩) ((List.replicate n false).length) n) (((nx (td.getD (td.length - 1) 0)).getD j 0).toNat)), (48, .int .i64 ((nx (td.getD (td.length - 1) 0)).getD j 0)), (47, .slice (some ⟨w.heap.size, 0, none⟩) ((List.replicate n false).length) n), (12, .int .i64 ((nx (td.getD (td.length - 1) 0)).getD j 0)), (46, .int .i64 ((nx (td.getD (td.length - 1) 0)).getD j 0)), (45, elemPtr (.slice na1 ((nx (td.getD (td.length - 1) 0)).length) nc1) j), (44, .bool (decide (((j : Nat) : Int) < (((nx (td.getD (td.length - 1) 0)).length : Nat) : Int)))), (43, .int .i64 ((j : Nat) : Int)), (42, .int .i64 (((nx (td.getD (td.length - 1) 0)).length : Nat) : Int)), (41, .slice na1 ((nx (td.getD (td.length - 1) 0)).length) nc1), (40, .int .i64 (td.getD (td.length - 1) 0)), (39, .func (.func next) #[] nextc.toArray), (0, .slice ua tj.length uc), (38, .slice ta ((td.take (td.length - 1)).length) tc), (37, .int .i64 (((td.length : Nat) : Int) - 1)), (36, .int .i64 ((td.length : Nat) : Int)), (35, .slice ta td.length tc), (34, .slice ta td.length tc), (10, .int .i64 (td.getD (td.length - 1) 0)), (33, .int .i64 (td.getD (td.length - 1) 0)), (32, elemPtr (.slice ta td.length tc) (td.length - 1)), (31, .int .i64 (((td.length : Nat) : Int) - 1)), (30, .int .i64 ((td.length : Nat) : Int)), (29, .slice ta td.length tc), (28, .slice ta td.length tc), (27, .bool (decide (((td.length : Nat) : Int) > (0 : Int)))), (26, .int .i64 ((td.length : Nat) : Int)), (25, .slice ta td.length tc), (7, .slice (some ⟨w.heap.size, 0, none⟩) ((List.replicate n false).length) n), (6, .slice none 0 0), (2, .func (.func next) #[] nextc.toArray)]) rfl ?_
        refine W.iteB (b := !(o3.getD (((nx (td.getD (td.length - 1) 0)).getD j 0).toNat) false)) rfl (fun c131 => ?_) (fun c131 => ?_)
        · skip
          refine W.seq ?_
          refine W.region ?_
          refine WL.op rfl (d_move rfl ?_)
          refine WL.op rfl (d_move rfl ?_)
          refine WL.op rfl (t_addr1 (((nx (td.getD (td.length - 1) 0)).getD j 0).toNat) (T := tyB) rfl Try.underlying23 sz4 rfl rfl (H7.rdT 1 rfl) (by omega) (by omega) ?_)
          refine WL.op0 (t_store1 (((nx (td.getD (td.length - 1) 0)).getD j 0).toNat) true (T := tyB) (e := 4) rfl sz4 rfl rfl rfl (H7.ownT 1 rfl) (by omega) fun w8 u5 => ?_)
          have H8 : UpG w [rowT (tyI .i64) (.slice todoa todo.length todoc) 3 todo] w8 [[rowT (tyI .i64) (.slice ua tj.length uc) 3 tj], [rowT tyB (.slice (some ⟨w.heap.size, 0, none⟩) ((List.replicate n false).length) n) 4 (o3.set (((nx (td.getD (td.length - 1) 0)).getD j 0).toNat) true)], [rowT (tyI .i64) (.slice na1 ((nx (td.getD (td.length - 1) 0)).length) nc1) 3 (nx (td.getD (td.length - 1) 0))]] := H7.on 1 rfl u5
          refine WL.done (X.then_code ?_)
          refine W.pick [54, 53, 52, 51, 50, 49, 48, 47, 12, 46, 45, 44, 43, 42, 41, 40, 39, 0, 38, 37, 36, 35, 34, 10, 33, 32, 31, 30, 29, 28, 27, 26, 25, 7, 6, 2] (Γ' := [(54, elemPtr (.slice (some ⟨w.heap.size, 0, none⟩) ((List.replicate n false).length) n) (((nx (td.getD (td.length - 1) 0)).getD j 0).toNat)), (53, .int .i64 ((nx (td.getD (td.length - 1) 0)).getD j 0)), (52, .slice (some ⟨w.heap.size, 0, none⟩) ((List.replicate n false).length) n), (51, .bool (!(o3.getD (((nx (td.getD (td.length - 1) 0)).getD j 0).toNat) false))), (50, .bool (o3.getD (((nx (td.getD (td.length - 1) 0)).getD j 0).toNat) false)), (49, elemPtr (.slice (some ⟨w.heap.size, 0, none⟩) ((List.replicate n false).length) n) (((nx (td.getD (td.length - 1) 0)).getD j 0).toNat)), (48, .int .i64 ((nx (td.getD (td.length - 1) 0)).getD j 0)), (47, .slice (some ⟨w.heap.size, 0, none⟩) ((List.replicate n false).length) n), (12, .int .i64 ((nx (td.getD (td.length - 1) 0)).getD j 0)), (46, .int .i64 ((nx (td.getD (td.length - 1) 0)).getD j 0)), (45, elemPtr (.slice na1 ((nx (td.getD (td.length - 1) 0)).length) nc1) j), (44, .bool (decide (((j : Nat) : Int) < (((nx (td.getD (td.length - 1) 0)).length : Nat) : Int)))), (43, .int .i64 ((j : Nat) : Int)), (42, .int .i64 (((nx (td.getD (td.length - 1) 0)).length : Nat) : Int)), (41, .slice na1 ((nx (td.getD (td.length - 1) 0)).length) nc1), (40, .int .i64 (td.getD (td.length - 1) 0)), (39, .func (.func next) #[] nextc.toArray), (0, .slice ua tj.length uc), (38, .slice ta ((td.take (td.length - 1)).length) tc), (37, .int .i64 (((td.length : Nat) : Int) - 1)), (36, .int .i64 ((td.length : Nat) : Int)), (35, .slice ta td.length tc), (34, .slice ta td.length tc), (10, .int .i64 (td.getD (td.length - 1) 0)), (33, .int .i64 (td.getD (td.length - 1) 0)), (32, elemPtr (.slice ta td.length tc) (td.length - 1)), (31, .int .i64 (((td.length : Nat) : Int) - 1)), (30, .int .i64 ((td.length : Nat) : Int)), (29, .slice ta td.length tc), (28, .slice ta td.length tc), (27, .bool (decide (((td.length : Nat) : Int) > (0 : Int)))), (26, .int .i64 ((td.length : Nat) : Int)), (25, .slice ta td.length tc), (7, .slice (some ⟨w.heap.size, 0, none⟩) ((List.replicate n false).length) n), (6, .slice none 0 0), (2, .func (.func next) #[] nextc.toArray)]) rfl ?_
          refine W.region ?_
          refine WL.op rfl (d_move rfl ?_)
          refine WL.op rfl (d_move rfl ?_)
          refine WL.op rfl (t_buildSlice (T := (tyI .i64)) (xs := [(nx (td.getD (td.length - 1) 0)).getD j 0]) (cs := #[.int .i64 ((nx (td.getD (td.length - 1) 0)).getD j 0)]) rfl Try.underlying22 sz3 rfl rfl rfl rfl (by kernel_rfl) rfl rfl fun w9 u6 => ?_)
          have H9 : UpG w [rowT (tyI .i64) (.slice todoa todo.length todoc) 3 todo] w9 [[rowT (tyI .i64) (.slice ua tj.length uc) 3 tj], [rowT tyB (.slice (some ⟨w.heap.size, 0, none⟩) ((List.replicate n false).length) n) 4 (o3.set (((nx (td.getD (td.length - 1) 0)).getD j 0).toNat) true)], [rowT (tyI .i64) (.slice na1 ((nx (td.getD (td.length - 1) 0)).length) nc1) 3 (nx (td.getD (td.length - 1) 0))], [rowT (tyI .i64) (.slice (some ⟨w8.heap.size, 0, none⟩) ([(nx (td.getD (td.length - 1) 0)).getD j 0].length) ([(nx (td.getD (td.length - 1) 0)).getD j 0].length)) 3 [(nx (td.getD (td.length - 1) 0)).getD j 0]]] := H8.new' u6
          refine WL.op rfl (t_append (T := (tyI .i64)) (xs := tj) (ys := [(nx (td.getD (td.length - 1) 0)).getD j 0]) rfl Try.underlying22 sz3 rfl rfl rfl (H9.ownT 0 rfl) (H9.rdT 3 rfl) (by simp; omega) (by simp; omega) fun a1 c1 w10 u7 => ?_)
          have H10 : UpG w [rowT (tyI .i64) (.slice todoa todo.length todoc) 3 todo] w10 [[rowT (tyI .i64) (.slice a1 ((tj ++ [(nx (td.getD (td.length - 1) 0)).getD j 0]).length) c1) 3 (tj ++ [(nx (td.getD (td.length - 1) 0)).getD j 0])], [rowT tyB (.slice (some ⟨w.heap.size, 0, none⟩) ((List.replicate n false).length) n) 4 (o3.set (((nx (td.getD (td.length - 1) 0)).getD j 0).toNat) true)], [rowT (tyI .i64) (.slice na1 ((nx (td.getD (td.length - 1) 0)).length) nc1) 3 (nx (td.getD (td.length - 1) 0))], []] := (H9.on 0 rfl u7).drop 3
          refine WL.op rfl (d_assign rfl ?_)
          refine WL.done (X.block_normal (X.then_code ?_))
          refine W.pick [0, 58, 57, 56, 55, 54, 53, 52, 51, 50, 49, 48, 47, 12, 46, 45, 44, 43, 42, 41, 40, 39, 38, 37, 36, 35, 34, 10, 33, 32, 31, 30, 29, 28, 27, 26, 25, 7, 6, 2] (Γ' := [(0, .slice a1 ((tj ++ [(nx (td.getD (td.length - 1) 0)).getD j 0]).length) c1), (58, .slice a1 ((tj ++ [(nx (td.getD (td.length - 1) 0)).getD j 0]).length) c1), (57, .slice (some ⟨w8.heap.size, 0, none⟩) ([(nx (td.getD (td.length - 1) 0)).getD j 0].length) ([(nx (td.getD (td.length - 1) 0)).getD j 0].length)), (56, .int .i64 ((nx (td.getD (td.length - 1) 0)).getD j 0)), (55, .slice ua tj.length uc), (54, elemPtr (.slice (some ⟨w.heap.size, 0, none⟩) ((List.replicate n false).length) n) (((nx (td.getD (td.length - 1) 0)).getD j 0).toNat)), (53, .int .i64 ((nx (td.getD (td.length - 1) 0)).getD j 0)), (52, .slice (some ⟨w.heap.size, 0, none⟩) ((List.replicate n false).length) n), (51, .bool (!(o3.getD (((nx (td.getD (td.length - 1) 0)).getD j 0).toNat) false))), (50, .bool (o3.getD (((nx (td.getD (td.length - 1) 0)).getD j 0).toNat) false)), (49, elemPtr (.slice (some ⟨w.heap.size, 0, none⟩) ((List.replicate n false).length) n) (((nx (td.getD (td.length - 1) 0)).getD j 0).toNat)), (48, .int .i64 ((nx (td.getD (td.length - 1) 0)).getD j 0)), (47, .slice (some ⟨w.heap.size, 0, none⟩) ((List.replicate n false).length) n), (12, .int .i64 ((nx (td.getD (td.length - 1) 0)).getD j 0)), (46, .int .i64 ((nx (td.getD (td.length - 1) 0)).getD j 0)), (45, elemPtr (.slice na1 ((nx (td.getD (td.length - 1) 0)).length) nc1) j), (44, .bool (decide (((j : Nat) : Int) < (((nx (td.getD (td.length - 1) 0)).length : Nat) : Int)))), (43, .int .i64 ((j : Nat) : Int)), (42, .int .i64 (((nx (td.getD (td.length - 1) 0)).length : Nat) : Int)), (41, .slice na1 ((nx (td.getD (td.length - 1) 0)).length) nc1), (40, .int .i64 (td.getD (td.length - 1) 0)), (39, .func (.func next) #[] nextc.toArray), (38, .slice ta ((td.take (td.length - 1)).length) tc), (37, .int .i64 (((td.length : Nat) : Int) - 1)), (36, .int .i64 ((td.length : Nat) : Int)), (35, .slice ta td.length tc), (34, .slice ta td.length tc), (10, .int .i64 (td.getD (td.length - 1) 0)), (33, .int .i64 (td.getD (td.length - 1) 0)), (32, elemPtr (.slice ta td.length tc) (td.length - 1)), (31, .int .i64 (((td.length : Nat) : Int) - 1)), (30, .int .i64 ((td.length : Nat) : Int)), (29, .slice ta td.length tc), (28, .slice ta td.length tc), (27, .bool (decide (((td.length : Nat) : Int) > (0 : Int)))), (26, .int .i64 ((td.length : Nat) : Int)), (25, .slice ta td.length tc), (7, .slice (some ⟨w.heap.size, 0, none⟩) ((List.replicate n false).length) n), (6, .slice none 0 0), (2, .func (.func next) #[] nextc.toArray)]) rfl ?_
          have hst := (hi.inT (td.getD (td.length - 1) 0) (getD_mem' (by omega))).1
          have hns := hnx _ hst.1 hst.2
          refine W.region ?_
          refine WL.op rfl (d_add rfl rfl (by omega) (by omega) ?_)
          refine WL.op rfl (d_move rfl ?_)
          refine WL.done ?_
          exact X.next [43, 42, 41, 40, 39, 0, 38, 37, 36, 35, 34, 10, 33, 32, 31, 30, 29, 28, 27, 26, 25, 7, 6, 2] (Γ' := [(43, .int .i64 (((j + 1) : Nat) : Int)), (42, .int .i64 (((nx (td.getD (td.length - 1) 0)).length : Nat) : Int)), (41, .slice na1 ((nx (td.getD (td.length - 1) 0)).length) nc1), (40, .int .i64 (td.getD (td.length - 1) 0)), (39, .func (.func next) #[] nextc.toArray), (0, .slice a1 ((tj ++ [(nx (td.getD (td.length - 1) 0)).getD j 0]).length) c1), (38, .slice ta ((td.take (td.length - 1)).length) tc), (37, .int .i64 (((td.length : Nat) : Int) - 1)), (36, .int .i64 ((td.length : Nat) : Int)), (35, .slice ta td.length tc), (34, .slice ta td.length tc), (10, .int .i64 (td.getD (td.length - 1) 0)), (33, .int .i64 (td.getD (td.length - 1) 0)), (32, elemPtr (.slice ta td.length tc) (td.length - 1)), (31, .int .i64 (((td.length : Nat) : Int) - 1)), (30, .int .i64 ((td.length : Nat) : Int)), (29, .slice ta td.length tc), (28, .slice ta td.length tc), (27, .bool (decide (((td.length : Nat) : Int) > (0 : Int)))), (26, .int .i64 ((td.length : Nat) : Int)), (25, .slice ta td.length tc), (7, .slice (some ⟨w.heap.size, 0, none⟩) ((List.replicate n false).length) n), (6, .slice none 0 0), (2, .func (.func next) #[] nextc.toArray)]) rfl ((nx (td.getD (td.length - 1) 0)).length - (j + 1)) (by omega) ⟨j + 1, o3.set (((nx (td.getD (td.length - 1) 0)).getD j 0).toNat) true, tj ++ [(nx (td.getD (td.length - 1) 0)).getD j 0], a1, c1, rfl, (H10.re rfl), (by first | exact hj.new (by omega) hb | exact hj.old (by omega) (by simpa using c131)), (by first | assumption | omega | simp), (by first | omega | (have h9 := cf_set o3 ((nx (td.getD (td.length - 1) 0)).getD j 0).toNat (by omega) (by simpa using c131); rw [List.length_append, List.length_singleton]; omega)), rfl⟩
        · skip
          refine W.skip (X.block_normal (X.then_code ?_))
          refine W.pick [51, 50, 49, 48, 47, 12, 46, 45, 44, 43, 42, 41, 40, 39, 0, 38, 37, 36, 35, 34, 10, 33, 32, 31, 30, 29, 28, 27, 26, 25, 7, 6, 2] (Γ' := [(51, .bool (!(o3.getD (((nx (td.getD (td.length - 1) 0)).getD j 0).toNat) false))), (50, .bool (o3.getD (((nx (td.getD (td.length - 1) 0)).getD j 0).toNat) false)), (49, elemPtr (.slice (some ⟨w.heap.size, 0, none⟩) ((List.replicate n false).length) n) (((nx (td.getD (td.length - 1) 0)).getD j 0).toNat)), (48, .int .i64 ((nx (td.getD (td.length - 1) 0)).getD j 0)), (47, .slice (some ⟨w.heap.size, 0, none⟩) ((List.replicate n false).length) n), (12, .int .i64 ((nx (td.getD (td.length - 1) 0)).getD j 0)), (46, .int .i64 ((nx (td.getD (td.length - 1) 0)).getD j 0)), (45, elemPtr (.slice na1 ((nx (td.getD (td.length - 1) 0)).length) nc1) j), (44, .bool (decide (((j : Nat) : Int) < (((nx (td.getD (td.length - 1) 0)).length : Nat) : Int)))), (43, .int .i64 ((j : Nat) : Int)), (42, .int .i64 (((nx (td.getD (td.length - 1) 0)).length : Nat) : Int)), (41, .slice na1 ((nx (td.getD (td.length - 1) 0)).length) nc1), (40, .int .i64 (td.getD (td.length - 1) 0)), (39, .func (.func next) #[] nextc.toArray), (0, .slice ua tj.length uc), (38, .slice ta ((td.take (td.length - 1)).length) tc), (37, .int .i64 (((td.length : Nat) : Int) - 1)), (36, .int .i64 ((td.length : Nat) : Int)), (35, .slice ta td.length tc), (34, .slice ta td.length tc), (10, .int .i64 (td.getD (td.length - 1) 0)), (33, .int .i64 (td.getD (td.length - 1) 0)), (32, elemPtr (.slice ta td.length tc) (td.length - 1)), (31, .int .i64 (((td.length : Nat) : Int) - 1)), (30, .int .i64 ((td.length : Nat) : Int)), (29, .slice ta td.length tc), (28, .slice ta td.length tc), (27, .bool (decide (((td.length : Nat) : Int) > (0 : Int)))), (26, .int .i64 ((td.length : Nat) : Int)), (25, .slice ta td.length tc), (7, .slice (some ⟨w.heap.size, 0, none⟩) ((List.replicate n false).length) n), (6, .slice none 0 0), (2, .func (.func next) #[] nextc.toArray)]) rfl ?_
          have hst := (hi.inT (td.getD (td.length - 1) 0) (getD_mem' (by omega))).1
          have hns := hnx _ hst.1 hst.2
          refine W.region ?_
          refine WL.op rfl (d_add rfl rfl (by omega) (by omega) ?_)
          refine WL.op rfl (d_move rfl ?_)
          refine WL.done ?_
          exact X.next [43, 42, 41, 40, 39, 0, 38, 37, 36, 35, 34, 10, 33, 32, 31, 30, 29, 28, 27, 26, 25, 7, 6, 2] (Γ' := [(43, .int .i64 (((j + 1) : Nat) : Int)), (42, .int .i64 (((nx (td.getD (td.length - 1) 0)).length : Nat) : Int)), (41, .slice na1 ((nx (td.getD (td.length - 1) 0)).length) nc1), (40, .int .i64 (td.getD (td.length - 1) 0)), (39, .func (.func next) #[] nextc.toArray), (0, .slice ua tj.length uc), (38, .slice ta ((td.take (td.length - 1)).length) tc), (37, .int .i64 (((td.length : Nat) : Int) - 1)), (36, .int .i64 ((td.length : Nat) : Int)), (35, .slice ta td.length tc), (34, .slice ta td.length tc), (10, .int .i64 (td.getD (td.length - 1) 0)), (33, .int .i64 (td.getD (td.length - 1) 0)), (32, elemPtr (.slice ta td.length tc) (td.length - 1)), (31, .int .i64 (((td.length : Nat) : Int) - 1)), (30, .int .i64 ((td.length : Nat) : Int)), (29, .slice ta td.length tc), (28, .slice ta td.length tc), (27, .bool (decide (((td.length : Nat) : Int) > (0 : Int)))), (26, .int .i64 ((td.length : Nat) : Int)), (25, .slice ta td.length tc), (7, .slice (some ⟨w.heap.size, 0, none⟩) ((List.replicate n false).length) n), (6, .slice none 0 0), (2, .func (.func next) #[] nextc.toArray)]) rfl ((nx (td.getD (td.length - 1) 0)).length - (j + 1)) (by omega) ⟨j + 1, o3, tj, ua, uc, rfl, H7, (by first | exact hj.new (by omega) hb | exact hj.old (by omega) (by simpa using c131)), (by first | assumption | omega | simp), (by first | omega | (have h9 := cf_set o3 ((nx (td.getD (td.length - 1) 0)).getD j 0).toNat (by omega) (by simpa using c131); rw [List.length_append, List.length_singleton]; omega)), rfl⟩
      · skip
        refine W.exit (X.then_exit (X.then_exit (X.block_exit (X.block_normal ?_))))
        exact X.next [7, 6, 0, 2] (Γ' := [(7, .slice (some ⟨w.heap.size, 0, none⟩) ((List.replicate n false).length) n), (6, .slice none 0 0), (0, .slice ua tj.length uc), (2, .func (.func next) #[] nextc.toArray)]) rfl (2 * cf o3 + tj.length) (by omega) ⟨o3, tj, ua, uc, rfl, (UpG.of (G := [[rowT (tyI .i64) (.slice ua tj.length uc) 3 tj], [rowT tyB (.slice (some ⟨w.heap.size, 0, none⟩) ((List.replicate n false).length) n) 4 o3]]) (Upd.sel H7 (M := [rowT (tyI .i64) (.slice ua tj.length uc) 3 tj, rowT tyB (.slice (some ⟨w.heap.size, 0, none⟩) ((List.replicate n false).length) n) 4 o3]) (l := [0, 1]) rfl rfl) rfl), (by exact hj.done (by omega)), (by omega), rfl⟩
    · skip
      refine W.exit (X.then_exit (X.then_exit (X.block_exit (X.then_code ?_))))
      refine W.seq ?_
      refine W.region ?_
      refine WL.op rfl (d_move rfl ?_)
      refine WL.op rfl (d_assign rfl ?_)
      refine WL.done (X.then_code ?_)
      refine W.ret (X.ret1 rfl rfl ?_)
      have hfin := hi.fin (by omega)
      exact ⟨(some ⟨w.heap.size, 0, none⟩), o_1, n, (by rw [hol2, List.length_replicate]), (by have h9 := H4.one 1 rfl; rw [List.length_replicate] at h9; rw [hol2]; exact h9), hfin⟩

set_option maxRecDepth 20000 in
theorem spreadO_any (todoa : Option Addr) (todo : List Int) (todoc : Nat) (n : Nat) (next : FuncId) (nextc : List Value) (nx : Int → List Int) (w : World) (hp : Hp w [rowT (tyI .i64) (.slice todoa todo.length todoc) 3 todo]) (hn : n ≤ 5000 ∧ todo.length ≤ 5000) (hr : ∀ t, t ∈ todo → 0 ≤ t ∧ t < (n : Int)) (hnx : ∀ s, 0 ≤ s → s < (n : Int) → (nx s).length ≤ 2000000 ∧ ∀ t, t ∈ nx s → 0 ≤ t ∧ t < (n : Int)) (hok : CallOk Try.prog next) (hf : ClosO Try.prog next nextc nx n (ats [rowT (tyI .i64) (.slice todoa todo.length todoc) 3 todo]) w) :
    Calls Try.prog 58 #[.slice todoa todo.length todoc, .int .i64 ((n : Nat) : Int), .func (.func next) #[] nextc.toArray] w (Ret fun v w' => ∃ a2 : Option Addr, ∃ o2 : List Bool, ∃ c2 : Nat, v = .slice a2 o2.length c2 ∧ Upd w [rowT (tyI .i64) (.slice todoa todo.length todoc) 3 todo] w' [rowT tyB (.slice a2 o2.length c2) 4 o2] ∧ (SprF nx n todo o2)) := by
  refine calls_of_W (args := [.slice todoa todo.length todoc, .int .i64 ((n : Nat) : Int), .func (.func next) #[] nextc.toArray]) Try.func58 rfl rfl rfl ?_
  have H0 : UpG w [rowT (tyI .i64) (.slice todoa todo.length todoc) 3 todo] w [[rowT (tyI .i64) (.slice todoa todo.length todoc) 3 todo]] := (UpG.refl hp).re rfl
  show W _ _ _ _ [(0, .slice todoa todo.length todoc), (1, .int .i64 ((n : Nat) : Int)), (2, .func (.func next) #[] nextc.toArray)] w
  refine W.seq ?_
  refine W.region ?_
  refine WL.op rfl (d_assign rfl ?_)
  refine WL.done (X.then_code ?_)
  refine W.seq ?_
  refine W.region ?_
  refine WL.op rfl (d_move rfl ?_)
  refine WL.op rfl (t_make n false (T := tyB) rfl Try.underlying23 sz4 rfl rfl rfl rfl (by omega) (by omega) fun w1 u1 => ?_)
  have H1 : UpG w [rowT (tyI .i64) (.slice todoa todo.length todoc) 3 todo] w1 [[rowT (tyI .i64) (.slice todoa todo.length todoc) 3 todo], [rowT tyB (.slice (some ⟨w.heap.size, 0, none⟩) ((List.replicate n false).length) n) 4 (List.replicate n false)]] := H0.new' u1
  refine WL.op rfl (d_assign rfl ?_)
  refine WL.done (X.then_code ?_)
  refine W.seq ?_
  refine W.seq ?_
  refine W.region ?_
  refine WL.op rfl (d_move rfl ?_)
  refine WL.op rfl (d_lenS Try.underlying22 rfl ?_)
  refine WL.op rfl (d_move rfl ?_)
  refine WL.done (X.then_code ?_)
  refine W.block ?_
  refine W.pick [17, 16, 15, 7, 6, 0, 2] (Γ' := [(17, .int .i64 0), (16, .int .i64 ((todo.length : Nat) : Int)), (15, .slice todoa todo.length todoc), (7, .slice (some ⟨w.heap.size, 0, none⟩) ((List.replicate n false).length) n), (6, .slice none 0 0), (0, .slice todoa todo.length todoc), (2, .func (.func next) #[] nextc.toArray)]) rfl ?_
  refine W.loop (fun m Γ' w' => ∃ k : Nat, ∃ o : List Bool, Γ' = [(17, .int .i64 ((k : Nat) : Int)), (16, .int .i64 ((todo.length : Nat) : Int)), (15, .slice todoa todo.length todoc), (7, .slice (some ⟨w.heap.size, 0, none⟩) ((List.replicate n false).length) n), (6, .slice none 0 0), (0, .slice todoa todo.length todoc), (2, .func (.func next) #[] nextc.toArray)] ∧ UpG w [rowT (tyI .i64) (.slice todoa todo.length todoc) 3 todo] w' [[rowT (tyI .i64) (.slice todoa todo.length todoc) 3 todo], [rowT tyB (.slice (some ⟨w.heap.size, 0, none⟩) ((List.replicate n false).length) n) 4 o]] ∧ (k ≤ todo.length) ∧ (SprA n todo o k) ∧ m = todo.length - k) (todo.length - 0) ⟨0, List.replicate n false, rfl, H1, (by first | assumption | omega | simp), (by exact SprA.start n todo), rfl⟩ ?_
  rintro m1 Γ1 w2 ⟨k, o, rfl, H2, hk, ha, rfl⟩
  have hol := ha.len
  refine W.seq ?_
  refine W.region ?_
  refine WL.op rfl (d_cmp (decide (((k : Nat) : Int) < ((todo.length : Nat) : Int))) rfl rfl rfl ?_)
  refine WL.done (X.then_code ?_)
  refine W.seq ?_
  refine W.ite (p := ((k : Nat) : Int) < ((todo.length : Nat) : Int)) rfl (fun c124 => ?_) (fun c124 => ?_)
  · skip
    refine W.skip (X.then_code ?_)
    refine W.seq ?_
    refine W.block ?_
    refine W.seq ?_
    refine W.region ?_
    refine WL.op rfl (t_addr1 k (T := (tyI .i64)) rfl Try.underlying22 sz3 rfl rfl (H2.rdT 0 rfl) rfl (by omega) ?_)
    refine WL.op rfl (t_load1 k 0 (T := (tyI .i64)) rfl Try.underlying3 rfl rfl (H2.rdT 0 rfl) (by omega) rfl ?_)
    refine WL.op rfl (d_assign rfl ?_)
    refine WL.done (X.then_code ?_)
    have hb := hr (todo.getD k 0) (getD_mem' (by omega))
    refine W.region ?_
    refine WL.op rfl (d_move rfl ?_)
    refine WL.op rfl (d_move rfl ?_)
    refine WL.op rfl (t_addr1 ((todo.getD k 0).toNat) (T := tyB) rfl Try.underlying23 sz4 rfl rfl (H2.rdT 1 rfl) (by omega) (by omega) ?_)
    refine WL.op0 (t_store1 ((todo.getD k 0).toNat) true (T := tyB) (e := 4) rfl sz4 rfl rfl rfl (H2.ownT 1 rfl) (by omega) fun w3 u2 => ?_)
    have H3 : UpG w [rowT (tyI .i64) (.slice todoa todo.length todoc) 3 todo] w3 [[rowT (tyI .i64) (.slice todoa todo.length todoc) 3 todo], [rowT tyB (.slice (some ⟨w.heap.size, 0, none⟩) ((List.replicate n false).length) n) 4 (o.set ((todo.getD k 0).toNat) true)]] := H2.on 1 rfl u2
    refine WL.done (X.block_normal (X.then_code ?_))
    refine W.region ?_
    refine WL.op rfl (d_add rfl rfl (by omega) (by omega) ?_)
    refine WL.op rfl (d_move rfl ?_)
    refine WL.done ?_
    exact X.next [17, 16, 15, 7, 6, 0, 2] (Γ' := [(17, .int .i64 (((k + 1) : Nat) : Int)), (16, .int .i64 ((todo.length : Nat) : Int)), (15, .slice todoa todo.length todoc), (7, .slice (some ⟨w.heap.size, 0, none⟩) ((List.replicate n false).length) n), (6, .slice none 0 0), (0, .slice todoa todo.length todoc), (2, .func (.func next) #[] nextc.toArray)]) rfl (todo.length - (k + 1)) (by omega) ⟨k + 1, o.set ((todo.getD k 0).toNat) true, rfl, H3, (by first | assumption | omega | simp), (by exact ha.step (by omega) hr), rfl⟩
  · skip
    refine W.exit (X.then_exit (X.then_exit (X.block_exit (X.then_code ?_))))
    refine W.seq ?_
    refine W.block ?_
    have hcf := cf_le o
    refine W.pick [7, 6, 0, 2] (Γ' := [(7, .slice (some ⟨w.heap.size, 0, none⟩) ((List.replicate n false).length) n), (6, .slice none 0 0), (0, .slice todoa todo.length todoc), (2, .func (.func next) #[] nextc.toArray)]) rfl ?_
    refine W.loop (fun m Γ' w' => ∃ o : List Bool, ∃ td : List Int, ∃ ta : Option Addr, ∃ tc : Nat, Γ' = [(7, .slice (some ⟨w.heap.size, 0, none⟩) ((List.replicate n false).length) n), (6, .slice none 0 0), (0, .slice ta td.length tc), (2, .func (.func next) #[] nextc.toArray)] ∧ UpG w [rowT (tyI .i64) (.slice todoa todo.length todoc) 3 todo] w' [[rowT (tyI .i64) (.slice ta td.length tc) 3 td], [rowT tyB (.slice (some ⟨w.heap.size, 0, none⟩) ((List.replicate n false).length) n) 4 o]] ∧ (SprI nx n todo o td) ∧ (2 * cf o + td.length ≤ 20000) ∧ m = 2 * cf o + td.length) (2 * cf o + todo.length) ⟨o, todo, todoa, todoc, rfl, H2, (by exact ha.done (by omega) hr), (by omega), rfl⟩ ?_
    rintro m2 Γ2 w4 ⟨o_1, td, ta, tc, rfl, H4, hi, hB, rfl⟩
    have hol2 := hi.len
    refine W.seq ?_
    refine W.seq ?_
    refine W.region ?_
    refine WL.op rfl (d_move rfl ?_)
    refine WL.op rfl (d_lenS Try.underlying22 rfl ?_)
    refine WL.op rfl (d_cmp (decide (((td.length : Nat) : Int) > (0 : Int))) rfl rfl rfl ?_)
    refine WL.done (X.then_code ?_)
    refine W.ite (p := ((td.length : Nat) : Int) > (0 : Int)) rfl (fun c127 => ?_) (fun c127 => ?_)
    · skip
      refine W.skip (X.then_code ?_)
      refine W.block ?_
      refine W.seq ?_
      refine W.region ?_
      refine WL.op rfl (d_move rfl ?_)
      refine WL.op rfl (d_move rfl ?_)
      refine WL.op rfl (d_lenS Try.underlying22 rfl ?_)
      refine WL.op rfl (d_sub rfl rfl (by omega) (by omega) ?_)
      refine WL.op rfl (t_addr1 (td.length - 1) (T := (tyI .i64)) rfl Try.underlying22 sz3 rfl rfl (H4.rdT 0 rfl) (by omega) (by omega) ?_)
      refine WL.op rfl (t_load1 (td.length - 1) 0 (T := (tyI .i64)) rfl Try.underlying3 rfl rfl (H4.rdT 0 rfl) (by omega) rfl ?_)
      refine WL.op rfl (d_assign rfl ?_)
      refine WL.done (X.then_code ?_)
      refine W.seq ?_
      refine W.region ?_
      refine WL.op rfl (d_move rfl ?_)
      refine WL.op rfl (d_move rfl ?_)
      refine WL.op rfl (d_lenS Try.underlying22 rfl ?_)
      refine WL.op rfl (d_sub rfl rfl (by omega) (by omega) ?_)
      refine WL.op rfl (t_pop (((td.length : Nat) : Int) - 1) (td.length - 1) (T := (tyI .i64)) (e := 3) (xs := td) rfl Try.underlying22 sz3 rfl rfl (H4.ownT 0 rfl) (by omega) (by omega) fun w5 u3 => ?_)
      have H5 : UpG w [rowT (tyI .i64) (.slice todoa todo.length todoc) 3 todo] w5 [[rowT (tyI .i64) (.slice ta ((td.take (td.length - 1)).length) tc) 3 (td.take (td.length - 1))], [rowT tyB (.slice (some ⟨w.heap.size, 0, none⟩) ((List.replicate n false).length) n) 4 o_1]] := H4.on 0 rfl u3
      refine WL.op rfl (d_assign rfl ?_)
      refine WL.done (X.then_code ?_)
      refine W.pick [0, 38, 37, 36, 35, 34, 10, 33, 32, 31, 30, 29, 28, 27, 26, 25, 7, 6, 2] (Γ' := [(0, .slice ta ((td.take (td.length - 1)).length) tc), (38, .slice ta ((td.take (td.length - 1)).length) tc), (37, .int .i64 (((td.length : Nat) : Int) - 1)), (36, .int .i64 ((td.length : Nat) : Int)), (35, .slice ta td.length tc), (34, .slice ta td.length tc), (10, .int .i64 (td.getD (td.length - 1) 0)), (33, .int .i64 (td.getD (td.length - 1) 0)), (32, elemPtr (.slice ta td.length tc) (td.length - 1)), (31, .int .i64 (((td.length : Nat) : Int) - 1)), (30, .int .i64 ((td.length : Nat) : Int)), (29, .slice ta td.length tc), (28, .slice ta td.length tc), (27, .bool (decide (((td.length : Nat) : Int) > (0 : Int)))), (26, .int .i64 ((td.length : Nat) : Int)), (25, .slice ta td.length tc), (7, .slice (some ⟨w.heap.size, 0, none⟩) ((List.replicate n false).length) n), (6, .slice none 0 0), (2, .func (.func next) #[] nextc.toArray)]) rfl ?_
      refine W.seq ?_
      have hst := (hi.inT (td.getD (td.length - 1) 0) (getD_mem' (by omega))).1
      have hns := hnx _ hst.1 hst.2
      refine W.region ?_
      refine WL.op rfl (d_move rfl ?_)
      refine WL.op rfl (d_move rfl ?_)
      refine WL.op rfl (d_callv hok rfl rfl (Ret.calls (hf w5 H5.keep (td.getD (td.length - 1) 0) (by omega) (by omega)) fun _ w6 p1 => ?_))
      obtain ⟨na1, nc1, rfl, u4, rdn1⟩ := p1
      have H6 : UpG w [rowT (tyI .i64) (.slice todoa todo.length todoc) 3 todo] w6 [[rowT (tyI .i64) (.slice ta ((td.take (td.length - 1)).length) tc) 3 (td.take (td.length - 1))], [rowT tyB (.slice (some ⟨w.heap.size, 0, none⟩) ((List.replicate n false).length) n) 4 o_1]] := H5.call u4
      refine WL.op rfl (d_lenS Try.underlying22 rfl ?_)
      refine WL.op rfl (d_move rfl ?_)
      refine WL.done (X.then_code ?_)
      refine W.pick [43, 42, 41, 40, 39, 0, 38, 37, 36, 35, 34, 10, 33, 32, 31, 30, 29, 28, 27, 26, 25, 7, 6, 2] (Γ' := [(43, .int .i64 0), (42, .int .i64 (((nx (td.getD (td.length - 1) 0)).length : Nat) : Int)), (41, .slice na1 ((nx (td.getD (td.length - 1) 0)).length) nc1), (40, .int .i64 (td.getD (td.length - 1) 0)), (39, .func (.func next) #[] nextc.toArray), (0, .slice ta ((td.take (td.length - 1)).length) tc), (38, .slice ta ((td.take (td.length - 1)).length) tc), (37, .int .i64 (((td.length : Nat) : Int) - 1)), (36, .int .i64 ((td.length : Nat) : Int)), (35, .slice ta td.length tc), (34, .slice ta td.length tc), (10, .int .i64 (td.getD (td.length - 1) 0)), (33, .int .i64 (td.getD (td.length - 1) 0)), (32, elemPtr (.slice ta td.length tc) (td.length - 1)), (31, .int .i64 (((td.length : Nat) : Int) - 1)), (30, .int .i64 ((td.length : Nat) : Int)), (29, .slice ta td.length tc), (28, .slice ta td.length tc), (27, .bool (decide (((td.length : Nat) : Int) > (0 : Int)))), (26, .int .i64 ((td.length : Nat) : Int)), (25, .slice ta td.length tc), (7, .slice (some ⟨w.heap.size, 0, none⟩) ((List.replicate n false).length) n), (6, .slice none 0 0), (2, .func (.func next) #[] nextc.toArray)]) rfl ?_
      refine W.block ?_
      refine W.pick [43, 42, 41, 40, 39, 0, 38, 37, 36, 35, 34, 10, 33, 32, 31, 30, 29, 28, 27, 26, 25, 7, 6, 2] (Γ' := [(43, .int .i64 0), (42, .int .i64 (((nx (td.getD (td.length - 1) 0)).length : Nat) : Int)), (41, .slice na1 ((nx (td.getD (td.length - 1) 0)).length) nc1), (40, .int .i64 (td.getD (td.length - 1) 0)), (39, .func (.func next) #[] nextc.toArray), (0, .slice ta ((td.take (td.length - 1)).length) tc), (38, .slice ta ((td.take (td.length - 1)).length) tc), (37, .int .i64 (((td.length : Nat) : Int) - 1)), (36, .int .i64 ((td.length : Nat) : Int)), (35, .slice ta td.length tc), (34, .slice ta td.length tc), (10, .int .i64 (td.getD (td.length - 1) 0)), (33, .int .i64 (td.getD (td.length - 1) 0)), (32, elemPtr (.slice ta td.length tc) (td.length - 1)), (31, .int .i64 (((td.length : Nat) : Int) - 1)), (30, .int .i64 ((td.length : Nat) : Int)), (29, .slice ta td.length tc), (28, .slice ta td.length tc), (27, .bool (decide (((td.length : Nat) : Int) > (0 : Int)))), (26, .int .i64 ((td.length : Nat) : Int)), (25, .slice ta td.length tc), (7, .slice (some ⟨w.heap.size, 0, none⟩) ((List.replicate n false).length) n), (6, .slice none 0 0), (2, .func (.func next) #[] nextc.toArray)]) rfl ?_
      refine W.loop (fun m Γ' w' => ∃ j : Nat, ∃ o3 : List Bool, ∃ tj : List Int, ∃ ua : Option Addr, ∃ uc : Nat, Γ' = [(43, .int .i64 ((j : Nat) : Int)), (42, .int .i64 (((nx (td.getD (td.length - 1) 0)).length : Nat) : Int)), (41, .slice na1 ((nx (td.getD (td.length - 1) 0)).length) nc1), (40, .int .i64 (td.getD (td.length - 1) 0)), (39, .func (.func next) #[] nextc.toArray), (0, .slice ua tj.length uc), (38, .slice ta ((td.take (td.length - 1)).length) tc), (37, .int .i64 (((td.length : Nat) : Int) - 1)), (36, .int .i64 ((td.length : Nat) : Int)), (35, .slice ta td.length tc), (34, .slice ta td.length tc), (10, .int .i64 (td.getD (td.length - 1) 0)), (33, .int .i64 (td.getD (td.length - 1) 0)), (32, elemPtr (.slice ta td.length tc) (td.length - 1)), (31, .int .i64 (((td.length : Nat) : Int) - 1)), (30, .int .i64 ((td.length : Nat) : Int)), (29, .slice ta td.length tc), (28, .slice ta td.length tc), (27, .bool (decide (((td.length : Nat) : Int) > (0 : Int)))), (26, .int .i64 ((td.length : Nat) : Int)), (25, .slice ta td.length tc), (7, .slice (some ⟨w.heap.size, 0, none⟩) ((List.replicate n false).length) n), (6, .slice none 0 0), (2, .func (.func next) #[] nextc.toArray)] ∧ UpG w [rowT (tyI .i64) (.slice todoa todo.length todoc) 3 todo] w' [[rowT (tyI .i64) (.slice ua tj.length uc) 3 tj], [rowT tyB (.slice (some ⟨w.heap.size, 0, none⟩) ((List.replicate n false).length) n) 4 o3]] ∧ (SprJ nx n todo o3 tj (td.getD (td.length - 1) 0) j) ∧ (j ≤ (nx (td.getD (td.length - 1) 0)).length) ∧ (2 * cf o3 + tj.length + 1 ≤ 2 * cf o_1 + td.length) ∧ m = (nx (td.getD (td.length - 1) 0)).length - j) ((nx (td.getD (td.length - 1) 0)).length - 0) ⟨0, o_1, td.take (td.length - 1), ta, tc, rfl, H6, (by exact hi.pop (by omega)), (by first | assumption | omega | simp), (by simp; omega), rfl⟩ ?_
      rintro m3 Γ3 w7 ⟨j, o3, tj, ua, uc, rfl, H7, hj, hjl, hm, rfl⟩
      have hol3 := hj.len
      refine W.seq ?_
      have hst := (hi.inT (td.getD (td.length - 1) 0) (getD_mem' (by omega))).1
      have hns := hnx _ hst.1 hst.2
      refine W.region ?_
      refine WL.op rfl (d_cmp (decide (((j : Nat) : Int) < (((nx (td.getD (td.length - 1) 0)).length : Nat) : Int))) rfl rfl rfl ?_)
      refine WL.done (X.then_code ?_)
      refine W.pick [44, 43, 42, 41, 40, 39, 0, 38, 37, 36, 35, 34, 10, 33, 32, 31, 30, 29, 28, 27, 26, 25, 7, 6, 2] (Γ' := [(44, .bool (decide (((j : Nat) : Int) < (((nx (td.getD (td.length - 1) 0)).length : Nat) : Int)))), (43, .int .i64 ((j : Nat) : Int)), (42, .int .i64 (((nx (td.getD (td.length - 1) 0)).length : Nat) : Int)), (41, .slice na1 ((nx (td.getD (td.length - 1) 0)).length) nc1), (40, .int .i64 (td.getD (td.length - 1) 0)), (39, .func (.func next) #[] nextc.toArray), (0, .slice ua tj.length uc), (38, .slice ta ((td.take (td.length - 1)).length) tc), (37, .int .i64 (((td.length : Nat) : Int) - 1)), (36, .int .i64 ((td.length : Nat) : Int)), (35, .slice ta td.length tc), (34, .slice ta td.length tc), (10, .int .i64 (td.getD (td.length - 1) 0)), (33, .int .i64 (td.getD (td.length - 1) 0)), (32, elemPtr (.slice ta td.length tc) (td.length - 1)), (31, .int .i64 (((td.length : Nat) : Int) - 1)), (30, .int .i64 ((td.length : Nat) : Int)), (29, .slice ta td.length tc), (28, .slice ta td.length tc), (27, .bool (decide (((td.length : Nat) : Int) > (0 : Int)))), (26, .int .i64 ((td.length : Nat) : Int)), (25, .slice ta td.length tc), (7, .slice (some ⟨w.heap.size, 0, none⟩) ((List.replicate n false).length) n), (6, .slice none 0 0), (2, .func (.func next) #[] nextc.toArray)]) rfl ?_
      refine W.seq ?_
      refine W.ite (p := ((j : Nat) : Int) < (((nx (td.getD (td.length - 1) 0)).length : Nat) : Int)) rfl (fun c130 => ?_) (fun c130 => ?_)
      · skip
        refine W.skip (X.then_code ?_)
        refine W.pick [44, 43, 42, 41, 40, 39, 0, 38, 37, 36, 35, 34, 10, 33, 32, 31, 30, 29, 28, 27, 26, 25, 7, 6, 2] (Γ' := [(44, .bool (decide (((j : Nat) : Int) < (((nx (td.getD (td.length - 1) 0)).length : Nat) : Int)))), (43, .int .i64 ((j : Nat) : Int)), (42, .int .i64 (((nx (td.getD (td.length - 1) 0)).length : Nat) : Int)), (41, .slice na1 ((nx (td.getD (td.length - 1) 0)).length) nc1), (40, .int .i64 (td.getD (td.length - 1) 0)), (39, .func (.func next) #[] nextc.toArray), (0, .slice ua tj.length uc), (38, .slice ta ((td.take (td.length - 1)).length) tc), (37, .int .i64 (((td.length : Nat) : Int) - 1)), (36, .int .i64 ((td.length : Nat) : Int)), (35, .slice ta td.length tc), (34, .slice ta td.length tc), (10, .int .i64 (td.getD (td.length - 1) 0)), (33, .int .i64 (td.getD (td.length - 1) 0)), (32, elemPtr (.slice ta td.length tc) (td.length - 1)), (31, .int .i64 (((td.length : Nat) : Int) - 1)), (30, .int .i64 ((td.length : Nat) : Int)), (29, .slice ta td.length tc), (28, .slice ta td.length tc), (27, .bool (decide (((td.length : Nat) : Int) > (0 : Int)))), (26, .int .i64 ((td.length : Nat) : Int)), (25, .slice ta td.length tc), (7, .slice (some ⟨w.heap.size, 0, none⟩) ((List.replicate n false).length) n), (6, .slice none 0 0), (2, .func (.func next) #[] nextc.toArray)]) rfl ?_
        refine W.seq ?_
        refine W.block ?_
        refine W.seq ?_
        have hst := (hi.inT (td.getD (td.length - 1) 0) (getD_mem' (by omega))).1
        have hns := hnx _ hst.1 hst.2
        refine W.region ?_
        refine WL.op rfl (t_addr1 j (T := (tyI .i64)) rfl Try.underlying22 sz3 rfl rfl (rdn1 w7 H7.keep) rfl (by omega) ?_)
        refine WL.op rfl (t_load1 j 0 (T := (tyI .i64)) rfl Try.underlying3 rfl rfl (rdn1 w7 H7.keep) (by omega) rfl ?_)
        refine WL.op rfl (d_assign rfl ?_)
        refine WL.done (X.then_code ?_)
        refine W.pick [12, 46, 45, 44, 43, 42, 41, 40, 39, 0, 38, 37, 36, 35, 34, 10, 33, 32, 31, 30, 29, 28, 27, 26, 25, 7, 6, 2] (Γ' := [(12, .int .i64 ((nx (td.getD (td.length - 1) 0)).getD j 0)), (46, .int .i64 ((nx (td.getD (td.length - 1) 0)).getD j 0)), (45, elemPtr (.slice na1 ((nx (td.getD (td.length - 1) 0)).length) nc1) j), (44, .bool (decide (((j : Nat) : Int) < (((nx (td.getD (td.length - 1) 0)).length : Nat) : Int)))), (43, .int .i64 ((j : Nat) : Int)), (42, .int .i64 (((nx (td.getD (td.length - 1) 0)).length : Nat) : Int)), (41, .slice na1 ((nx (td.getD (td.length - 1) 0)).length) nc1), (40, .int .i64 (td.getD (td.length - 1) 0)), (39, .func (.func next) #[] nextc.toArray), (0, .slice ua tj.length uc), (38, .slice ta ((td.take (td.length - 1)).length) tc), (37, .int .i64 (((td.length : Nat) : Int) - 1)), (36, .int .i64 ((td.length : Nat) : Int)), (35, .slice ta td.length tc), (34, .slice ta td.length tc), (10, .int .i64 (td.getD (td.length - 1) 0)), (33, .int .i64 (td.getD (td.length - 1) 0)), (32, elemPtr (.slice ta td.length tc) (td.length - 1)), (31, .int .i64 (((td.length : Nat) : Int) - 1)), (30, .int .i64 ((td.length : Nat) : Int)), (29, .slice ta td.length tc), (28, .slice ta td.length tc), (27, .bool (decide (((td.length : Nat) : Int) > (0 : Int)))), (26, .int .i64 ((td.length : Nat) : Int)), (25, .slice ta td.length tc), (7, .slice (some ⟨w.heap.size, 0, none⟩) ((List.replicate n false).length) n), (6, .slice none 0 0), (2, .func (.func next) #[] nextc.toArray)]) rfl ?_
        refine W.seq ?_
        have hb := hns.2 ((nx (td.getD (td.length - 1) 0)).getD j 0) (getD_mem' (by omega))
        refine W.region ?_
        refine WL.op rfl (d_move rfl ?_)
        refine WL.op rfl (d_move rfl ?_)
        refine WL.op rfl (t_addr1 (((nx (td.getD (td.length - 1) 0)).getD j 0).toNat) (T := tyB) rfl Try.underlying23 sz4 rfl rfl (H7.rdT 1 rfl) (by omega) (by omega) ?_)
        refine WL.op rfl (t_load1 (((nx (td.getD (td.length - 1) 0)).getD j 0).toNat) false (T := tyB) rfl Try.underlying4 rfl rfl (H7.rdT 1 rfl) (by omega) rfl ?_)
        refine WL.op rfl (d_notB rfl ?_)
        refine WL.done (X.then_code ?_)
        refine W.pick [51, 50, 49, 48, 47, 12, 46, 45, 44, 43, 42, 41, 40, 39, 0, 38, 37, 36, 35, 34, 10, 33, 32, 31, 30, 29, 28, 27, 26, 25, 7, 6, 2] (Γ' := [(51, .bool (!(o3.getD (((nx (td.getD (td.length - 1) 0)).getD j 0).toNat) false))), (50, .bool (o3.getD (((nx (td.getD (td.length - 1) 0)).getD j 0).toNat) false)), (49, elemPtr (.slice (some ⟨w.heap.size, 0, none⟩) ((List.replicate n false).length) n) (((nx (td.getD (td.length - 1) 0)).getD j 0).toNat)), (48, .int .i64 ((nx (td.getD (td.length - 1) 0)).getD j 0)), (47, .slice (some ⟨w.heap.size, 0, none⟩) ((List.replicate n false).length) n), (12, .int .i64 ((nx (td.getD (td.length - 1) 0)).getD j 0)), (46, .int .i64 ((nx (td.getD (td.length - 1) 0)).getD j 0)), (45, elemPtr (.slice na1 ((nx (td.getD (td.length - 1) 0)).length) nc1) j), (44, .bool (decide (((j : Nat) : Int) < (((nx (td.getD (td.length - 1) 0)).length : Nat) : Int)))), (43, .int .i64 ((j : Nat) : Int)), (42, .int .i64 (((nx (td.getD (td.length - 1) 0)).length : Nat) : Int)), (41, .slice na1 ((nx (td.getD (td.length - 1) 0)).length) nc1), (40, .int .i64 (td.getD (td.length - 1) 0)), (39, .func (.func next) #[] nextc.toArray), (0, .slice ua tj.length uc), (38, .slice ta ((td.take (td.length - 1)).length) tc), (37, .int .i64 (((td.length : Nat) : Int) - 1)), (36, .int .i64 ((td.length : Nat) : Int)), (35, .slice ta td.length tc), (34, .slice ta td.length tc), (10, .int .i64 (td.getD (td.length - 1) 0)), (33, .int .i64 (td.getD (td.length - 1) 0)), (32, elemPtr (.slice ta td.length tc) (td.length - 1)), (31, .int .i64 (((td.length : Nat) : Int) - 1)), (30, .int .i64 ((td.length : Nat) : Int)), (29, .slice ta td.length tc), (28, .slice ta td.length tc), (27, .bool (decide (((td.length : Nat) : Int) > (0 : Int)))), (26, .int .i64 ((td.length : Nat) : Int)), (25, .slice ta td.length tc), (7, .slice (some ⟨w.heap.size, 0, none⟩) ((List.replicate n false).length) n), (6, .slice none 0 0), (2, .func (.func next) #[] nextc.toArray)]) rfl ?_
        refine W.iteB (b := !(o3.getD (((nx (td.getD (td.length - 1) 0)).getD j 0).toNat) false)) rfl (fun c131 => ?_) (fun c131 => ?_)
        · skip
          refine W.seq ?_
          refine W.region ?_
          refine WL.op rfl (d_move rfl ?_)
          refine WL.op rfl (d_move rfl ?_)
          refine WL.op rfl (t_addr1 (((nx (td.getD (td.length - 1) 0)).getD j 0).toNat) (T := tyB) rfl Try.underlying23 sz4 rfl rfl (H7.rdT 1 rfl) (by omega) (by omega) ?_)
          refine WL.op0 (t_store1 (((nx (td.getD (td.length - 1) 0)).getD j 0).toNat) true (T := tyB) (e := 4) rfl sz4 rfl rfl rfl (H7.ownT 1 rfl) (by omega) fun w8 u5 => ?_)
          have H8 : UpG w [rowT (tyI .i64) (.slice todoa todo.length todoc) 3 todo] w8 [[rowT (tyI .i64) (.slice ua tj.length uc) 3 tj], [rowT tyB (.slice (some ⟨w.heap.size, 0, none⟩) ((List.replicate n false).length) n) 4 (o3.set (((nx (td.getD (td.length - 1) 0)).getD j 0).toNat) true)]] := H7.on 1 rfl u5
          refine WL.done (X.then_code ?_)
          refine W.pick [54, 53, 52, 51, 50, 49, 48, 47, 12, 46, 45, 44, 43, 42, 41, 40, 39, 0, 38, 37, 36, 35, 34, 10, 33, 32, 31, 30, 29, 28, 27, 26, 25, 7, 6, 2] (Γ' := [(54, elemPtr (.slice (some ⟨w.heap.size, 0, none⟩) ((List.replicate n false).length) n) (((nx (td.getD (td.length - 1) 0)).getD j 0).toNat)), (53, .int .i64 ((nx (td.getD (td.length - 1) 0)).getD j 0)), (52, .slice (some ⟨w.heap.size, 0, none⟩) ((List.replicate n false).length) n), (51, .bool (!(o3.getD (((nx (td.getD (td.length - 1) 0)).getD j 0).toNat) false))), (50, .bool (o3.getD (((nx (td.getD (td.length - 1) 0)).getD j 0).toNat) false)), (49, elemPtr (.slice (some ⟨w.heap.size, 0, none⟩) ((List.replicate n false).length) n) (((nx (td.getD (td.length - 1) 0)).getD j 0).toNat)), (48, .int .i64 ((nx (td.getD (td.length - 1) 0)).getD j 0)), (47, .slice (some ⟨w.heap.size, 0, none⟩) ((List.replicate n false).length) n), (12, .int .i64 ((nx (td.getD (td.length - 1) 0)).getD j 0)), (46, .int .i64 ((nx (td.getD (td.length - 1) 0)).getD j 0)), (45, elemPtr (.slice na1 ((nx (td.getD (td.length - 1) 0)).length) nc1) j), (44, .bool (decide (((j : Nat) : Int) < (((nx (td.getD (td.length - 1) 0)).length : Nat) : Int)))), (43, .int .i64 ((j : Nat) : Int)), (42, .int .i64 (((nx (td.getD (td.length - 1) 0)).length : Nat) : Int)), (41, .slice na1 ((nx (td.getD (td.length - 1) 0)).length) nc1), (40, .int .i64 (td.getD (td.length - 1) 0)), (39, .func (.func next) #[] nextc.toArray), (0, .slice ua tj.length uc), (38, .slice ta ((td.take (td.length - 1)).length) tc), (37, .int .i64 (((td.length : Nat) : Int) - 1)), (36, .int .i64 ((td.length : Nat) : Int)), (35, .slice ta td.length tc), (34, .slice ta td.length tc), (10, .int .i64 (td.getD (td.length - 1) 0)), (33, .int .i64 (td.getD (td.length - 1) 0)), (32, elemPtr (.slice ta td.length tc) (td.length - 1)), (31, .int .i64 (((td.length : Nat) : Int) - 1)), (30, .int .i64 ((td.length : Nat) : Int)), (29, .slice ta td.length tc), (28, .slice ta td.length tc), (27, .bool (decide (((td.length : Nat) : Int) > (0 : Int)))), (26, .int .i64 ((td.length : Nat) : Int)), (25, .slice ta td.length tc), (7, .slice (some ⟨w.heap.size, 0, none⟩) ((List.replicate n false).length) n), (6, .slice none 0 0), (2, .func (.func next) #[] nextc.toArray)]) rfl ?_
          refine W.region ?_
          refine WL.op rfl (d_move rfl ?_)
          refine WL.op rfl (d_move rfl ?_)
          refine WL.op rfl (t_buildSlice (T := (tyI .i64)) (xs := [(nx (td.getD (td.length - 1) 0)).getD j 0]) (cs := #[.int .i64 ((nx (td.getD (td.length - 1) 0)).getD j 0)]) rfl Try.underlying22 sz3 rfl rfl rfl rfl (by kernel_rfl) rfl rfl fun w9 u6 => ?_)
          have H9 : UpG w [rowT (tyI .i64) (.slice todoa todo.length todoc) 3 todo] w9 [[rowT (tyI .i64) (.slice ua tj.length uc) 3 tj], [rowT tyB (.slice (some ⟨w.heap.size, 0, none⟩) ((List.replicate n false).length) n) 4 (o3.set (((nx (td.getD (td.length - 1) 0)).getD j 0).toNat) true)], [rowT (tyI .i64) (.slice (some ⟨w8.heap.size, 0, none⟩) ([(nx (td.getD (td.length - 1) 0)).getD j 0].length) ([(nx (td.getD (td.length - 1) 0)).getD j 0].length)) 3 [(nx (td.getD (td.length - 1) 0)).getD j 0]]] := H8.new' u6
          refine WL.op rfl (t_append (T := (tyI .i64)) (xs := tj) (ys := [(nx (td.getD (td.length - 1) 0)).getD j 0]) rfl Try.underlying22 sz3 rfl rfl rfl (H9.ownT 0 rfl) (H9.rdT 2 rfl) (by simp; omega) (by simp; omega) fun a1 c1 w10 u7 => ?_)
          have H10 : UpG w [rowT (tyI .i64) (.slice todoa todo.length todoc) 3 todo] w10 [[rowT (tyI .i64) (.slice a1 ((tj ++ [(nx (td.getD (td.length - 1) 0)).getD j 0]).length) c1) 3 (tj ++ [(nx (td.getD (td.length - 1) 0)).getD j 0])], [rowT tyB (.slice (some ⟨w.heap.size, 0, none⟩) ((List.replicate n false).length) n) 4 (o3.set (((nx (td.getD (td.length - 1) 0)).getD j 0).toNat) true)], []] := (H9.on 0 rfl u7).drop 2
          refine WL.op rfl (d_assign rfl ?_)
          refine WL.done (X.block_normal (X.then_code ?_))
          refine W.pick [0, 58, 57, 56, 55, 54, 53, 52, 51, 50, 49, 48, 47, 12, 46, 45, 44, 43, 42, 41, 40, 39, 38, 37, 36, 35, 34, 10, 33, 32, 31, 30, 29, 28, 27, 26, 25, 7, 6, 2] (Γ' := [(0, .slice a1 ((tj ++ [(nx (td.getD (td.length - 1) 0)).getD j 0]).length) c1), (58, .slice a1 ((tj ++ [(nx (td.getD (td.length - 1) 0)).getD j 0]).length) c1), (57, .slice (some ⟨w8.heap.size, 0, none⟩) ([(nx (td.getD (td.length - 1) 0)).getD j 0].length) ([(nx (td.getD (td.length - 1) 0)).getD j 0].length)), (56, .int .i64 ((nx (td.getD (td.length - 1) 0)).getD j 0)), (55, .slice ua tj.length uc), (54, elemPtr (.slice (some ⟨w.heap.size, 0, none⟩) ((List.replicate n false).length) n) (((nx (td.getD (td.length - 1) 0)).getD j 0).toNat)), (53, .int .i64 ((nx (td.getD (td.length - 1) 0)).getD j 0)), (52, .slice (some ⟨w.heap.size, 0, none⟩) ((List.replicate n false).length) n), (51, .bool (!(o3.getD (((nx (td.getD (td.length - 1) 0)).getD j 0).toNat) false))), (50, .bool (o3.getD (((nx (td.getD (td.length - 1) 0)).getD j 0).toNat) false)), (49, elemPtr (.slice (some ⟨w.heap.size, 0, none⟩) ((List.replicate n false).length) n) (((nx (td.getD (td.length - 1) 0)).getD j 0).toNat)), (48, .int .i64 ((nx (td.getD (td.length - 1) 0)).getD j 0)), (47, .slice (some ⟨w.heap.size, 0, none⟩) ((List.replicate n false).length) n), (12, .int .i64 ((nx (td.getD (td.length - 1) 0)).getD j 0)), (46, .int .i64 ((nx (td.getD (td.length - 1) 0)).getD j 0)), (45, elemPtr (.slice na1 ((nx (td.getD (td.length - 1) 0)).length) nc1) j), (44, .bool (decide (((j : Nat) : Int) < (((nx (td.getD (td.length - 1) 0)).length : Nat) : Int)))), (43, .int .i64 ((j : Nat) : Int)), (42, .int .i64 (((nx (td.getD (td.length - 1) 0)).length : Nat) : Int)), (41, .slice na1 ((nx (td.getD (td.length - 1) 0)).length) nc1), (40, .int .i64 (td.getD (td.length - 1) 0)), (39, .func (.func next) #[] nextc.toArray), (38, .slice ta ((td.take (td.length - 1)).length) tc), (37, .int .i64 (((td.length : Nat) : Int) - 1)), (36, .int .i64 ((td.length : Nat) : Int)), (35, .slice ta td.length tc), (34, .slice ta td.length tc), (10, .int .i64 (td.getD (td.length - 1) 0)), (33, .int .i64 (td.getD (td.length - 1) 0)), (32, elemPtr (.slice ta td.length tc) (td.length - 1)), (31, .int .i64 (((td.length : Nat) : Int) - 1)), (30, .int .i64 ((td.length : Nat) : Int)), (29, .slice ta td.length tc), (28, .slice ta td.length tc), (27, .bool (decide (((td.length : Nat) : Int) > (0 : Int)))), (26, .int .i64 ((td.length : Nat) : Int)), (25, .slice ta td.length tc), (7, .slice (some ⟨w.heap.size, 0, none⟩) ((List.replicate n false).length) n), (6, .slice none 0 0), (2, .func (.func next) #[] nextc.toArray)]) rfl ?_
          have hst := (hi.inT (td.getD (td.length - 1) 0) (getD_mem' (by omega))).1
          have hns := hnx _ hst.1 hst.2
          refine W.region ?_
          refine WL.op rfl (d_add rfl rfl (by omega) (by omega) ?_)
          refine WL.op rfl (d_move rfl ?_)
          refine WL.done ?_
          exact X.next [43, 42, 41, 40, 39, 0, 38, 37, 36, 35, 34, 10, 33, 32, 31, 30, 29, 28, 27, 26, 25, 7, 6, 2] (Γ' := [(43, .int .i64 (((j + 1) : Nat) : Int)), (42, .int .i64 (((nx (td.getD (td.length - 1) 0)).length : Nat) : Int)), (41, .slice na1 ((nx (td.getD (td.length - 1) 0)).length) nc1), (40, .int .i64 (td.getD (td.length - 1) 0)), (39, .func (.func next) #[] nextc.toArray), (0, .slice a1 ((tj ++ [(nx (td.getD (td.length - 1) 0)).getD j 0]).length) c1), (38, .slice ta ((td.take (td.length - 1)).length) tc), (37, .int .i64 (((td.length : Nat) : Int) - 1)), (36, .int .i64 ((td.length : Nat) : Int)), (35, .slice ta td.length tc), (34, .slice ta td.length tc), (10, .int .i64 (td.getD (td.length - 1) 0)), (33, .int .i64 (td.getD (td.length - 1) 0)), (32, elemPtr (.slice ta td.length tc) (td.length - 1)), (31, .int .i64 (((td.length : Nat) : Int) - 1)), (30, .int .i64 ((td.length : Nat) : Int)), (29, .slice ta td.length tc), (28, .slice ta td.length tc), (27, .bool (decide (((td.length : Nat) : Int) > (0 : Int)))), (26, .int .i64 ((td.length : Nat) : Int)), (25, .slice ta td.length tc), (7, .slice (some ⟨w.heap.size, 0, none⟩) ((List.replicate n false).length) n), (6, .slice none 0 0), (2, .func (.func next) #[] nextc.toArray)]) rfl ((nx (td.getD (td.length - 1) 0)).length - (j + 1)) (by omega) ⟨j + 1, o3.set (((nx (td.getD (td.length - 1) 0)).getD j 0).toNat) true, tj ++ [(nx (td.getD (td.length - 1) 0)).getD j 0], a1, c1, rfl, (H10.re rfl), (by first | exact hj.new (by omega) hb | exact hj.old (by omega) (by simpa using c131)), (by first | assumption | omega | simp), (by first | omega | (have h9 := cf_set o3 ((nx (td.getD (td.length - 1) 0)).getD j 0).toNat (by omega) (by simpa using c131); rw [List.length_append, List.length_singleton]; omega)), rfl⟩
        · skip
          refine W.skip (X.block_normal (X.then_code ?_))
          refine W.pick [51, 50, 49, 48, 47, 12, 46, 45, 44, 43, 42, 41, 40, 39, 0, 38, 37, 36, 35, 34, 10, 33, 32, 31, 30, 29, 28, 27, 26, 25, 7, 6, 2] (Γ' := [(51, .bool (!(o3.getD (((nx (td.getD (td.length - 1) 0)).getD j 0).toNat) false))), (50, .bool (o3.getD (((nx (td.getD (td.length - 1) 0)).getD j 0).toNat) false)), (49, elemPtr (.slice (some ⟨w.heap.size, 0, none⟩) ((List.replicate n false).length) n) (((nx (td.getD (td.length - 1) 0)).getD j 0).toNat)), (48, .int .i64 ((nx (td.getD (td.length - 1) 0)).getD j 0)), (47, .slice (some ⟨w.heap.size, 0, none⟩) ((List.replicate n false).length) n), (12, .int .i64 ((nx (td.getD (td.length - 1) 0)).getD j 0)), (46, .int .i64 ((nx (td.getD (td.length - 1) 0)).getD j 0)), (45, elemPtr (.slice na1 ((nx (td.getD (td.length - 1) 0)).length) nc1) j), (44, .bool (decide (((j : Nat) : Int) < (((nx (td.getD (td.length - 1) 0)).length : Nat) : Int)))), (43, .int .i64 ((j : Nat) : Int)), (42, .int .i64 (((nx (td.getD (td.length - 1) 0)).length : Nat) : Int)), (41, .slice na1 ((nx (td.getD (td.length - 1) 0)).length) nc1), (40, .int .i64 (td.getD (td.length - 1) 0)), (39, .func (.func next) #[] nextc.toArray), (0, .slice ua tj.length uc), (38, .slice ta ((td.take (td.length - 1)).length) tc), (37, .int .i64 (((td.length : Nat) : Int) - 1)), (36, .int .i64 ((td.length : Nat) : Int)), (35, .slice ta td.length tc), (34, .slice ta td.length tc), (10, .int .i64 (td.getD (td.length - 1) 0)), (33, .int .i64 (td.getD (td.length - 1) 0)), (32, elemPtr (.slice ta td.length tc) (td.length - 1)), (31, .int .i64 (((td.length : Nat) : Int) - 1)), (30, .int .i64 ((td.length : Nat) : Int)), (29, .slice ta td.length tc), (28, .slice ta td.length tc), (27, .bool (decide (((td.length : Nat) : Int) > (0 : Int)))), (26, .int .i64 ((td.length : Nat) : Int)), (25, .slice ta td.length tc), (7, .slice (some ⟨w.heap.size, 0, none⟩) ((List.replicate n false).length) n), (6, .slice none 0 0), (2, .func (.func next) #[] nextc.toArray)]) rfl ?_
          have hst := (hi.inT (td.getD (td.length - 1) 0) (getD_mem' (by omega))).1
          have hns := hnx _ hst.1 hst.2
          refine W.region ?_
          refine WL.op rfl (d_add rfl rfl (by omega) (by omega) ?_)
          refine WL.op rfl (d_move rfl ?_)
          refine WL.done ?_
          exact X.next [43, 42, 41, 40, 39, 0, 38, 37, 36, 35, 34, 10, 33, 32, 31, 30, 29, 28, 27, 26, 25, 7, 6, 2] (Γ' := [(43, .int .i64 (((j + 1) : Nat) : Int)), (42, .int .i64 (((nx (td.getD (td.length - 1) 0)).length : Nat) : Int)), (41, .slice na1 ((nx (td.getD (td.length - 1) 0)).length) nc1), (40, .int .i64 (td.getD (td.length - 1) 0)), (39, .func (.func next) #[] nextc.toArray), (0, .slice ua tj.length uc), (38, .slice ta ((td.take (td.length - 1)).length) tc), (37, .int .i64 (((td.length : Nat) : Int) - 1)), (36, .int .i64 ((td.length : Nat) : Int)), (35, .slice ta td.length tc), (34, .slice ta td.length tc), (10, .int .i64 (td.getD (td.length - 1) 0)), (33, .int .i64 (td.getD (td.length - 1) 0)), (32, elemPtr (.slice ta td.length tc) (td.length - 1)), (31, .int .i64 (((td.length : Nat) : Int) - 1)), (30, .int .i64 ((td.length : Nat) : Int)), (29, .slice ta td.length tc), (28, .slice ta td.length tc), (27, .bool (decide (((td.length : Nat) : Int) > (0 : Int)))), (26, .int .i64 ((td.length : Nat) : Int)), (25, .slice ta td.length tc), (7, .slice (some ⟨w.heap.size, 0, none⟩) ((List.replicate n false).length) n), (6, .slice none 0 0), (2, .func (.func next) #[] nextc.toArray)]) rfl ((nx (td.getD (td.length - 1) 0)).length - (j + 1)) (by omega) ⟨j + 1, o3, tj, ua, uc, rfl, H7, (by first | exact hj.new (by omega) hb | exact hj.old (by omega) (by simpa using c131)), (by first | assumption | omega | simp), (by first | omega | (have h9 := cf_set o3 ((nx (td.getD (td.length - 1) 0)).getD j 0).toNat (by omega) (by simpa using c131); rw [List.length_append, List.length_singleton]; omega)), rfl⟩
      · skip
        refine W.exit (X.then_exit (X.then_exit (X.block_exit (X.block_normal ?_))))
        exact X.next [7, 6, 0, 2] (Γ' := [(7, .slice (some ⟨w.heap.size, 0, none⟩) ((List.replicate n false).length) n), (6, .slice none 0 0), (0, .slice ua tj.length uc), (2, .func (.func next) #[] nextc.toArray)]) rfl (2 * cf o3 + tj.length) (by omega) ⟨o3, tj, ua, uc, rfl, H7, (by exact hj.done (by omega)), (by omega), rfl⟩
    · skip
      refine W.exit (X.then_exit (X.then_exit (X.block_exit (X.then_code ?_))))
      refine W.seq ?_
      refine W.region ?_
      refine WL.op rfl (d_move rfl ?_)
      refine WL.op rfl (d_assign rfl ?_)
      refine WL.done (X.then_code ?_)
      refine W.ret (X.ret1 rfl rfl ?_)
      have hfin := hi.fin (by omega)
      exact ⟨(some ⟨w.heap.size, 0, none⟩), o_1, n, (by rw [hol2, List.length_replicate]), (by have h9 := H4.one 1 rfl; rw [List.length_replicate] at h9; rw [hol2]; exact h9), hfin⟩
end Go.Proofs.Ytoeockpkkmgieaa

/- The walks of functions, printed by wip/tools/gw.py. -/
namespace Go.Proofs.Ytoeockpkkmgieaa
open Go Go.Sx
set_option linter.unusedVariables false
set_option linter.unusedSimpArgs false
set_option maxRecDepth 20000 in
theorem reach1_any (s : Int) (lg : Nat) (la : Option Addr) (lc : Nat) (dg : Nat) (d : DfaD) (dca : Option Addr) (dcc : Nat) (dna : Option Addr) (dnc : Nat) (dba : Option Addr) (dbc : Nat) (w : World) (rl : RdT (tyI .i64) w (.slice la ((usedI d).length) lc) (usedI d)) (rn : RdT (tyI .i64) w (.slice dna d.next.length dnc) d.next) (blg : w.heap[lg]? = some (.cells #[.slice la ((usedI d).length) lc] 22 (0, 0))) (bdg : w.heap[dg]? = some (.cells #[.slice dca d.cls.length dcc, .int .i64 d.width, .int .i64 d.start, .slice dna d.next.length dnc, .slice dba d.acc.length dbc] 25 (0, 0))) (hrt : rightB d = true) (hs : 0 ≤ s ∧ s < (d.acc.length : Int)) :
    Calls Try.prog 60 #[.int .i64 s, .pointer (some ⟨lg, 0, none⟩), .pointer (some ⟨dg, 0, none⟩)] w (Ret fun v w' => ∃ a2 : Option Addr, ∃ c2 : Nat, v = .slice a2 ((nxR d s).length) c2 ∧ Upd w [] w' [rowT (tyI .i64) (.slice a2 ((nxR d s).length) c2) 3 (nxR d s)]) := by
  have hul := used_len d
  have hri := rightB_iff.1 hrt
  have le_rl := rl.le
  have le_rn := rn.le
  refine calls_of_W (args := [.int .i64 s, .pointer (some ⟨lg, 0, none⟩), .pointer (some ⟨dg, 0, none⟩)]) Try.func60 rfl rfl rfl ?_
  have H0 : UpG w [] w [] := UpG.nil w
  show W _ _ _ _ [(0, .int .i64 s), (1, .pointer (some ⟨lg, 0, none⟩)), (2, .pointer (some ⟨dg, 0, none⟩))] w
  refine W.seq ?_
  refine W.region ?_
  refine WL.op rfl (d_assign rfl ?_)
  refine WL.done (X.then_code ?_)
  refine W.seq ?_
  refine W.region ?_
  refine WL.op rfl (d_assign rfl ?_)
  refine WL.done (X.then_code ?_)
  refine W.seq ?_
  refine W.seq ?_
  refine W.region ?_
  refine WL.op rfl (d_loadB Try.underlying22 rfl rfl (H0.keep0.obj blg (by simp)) rfl ?_)
  refine WL.op rfl (d_lenS Try.underlying22 rfl ?_)
  refine WL.op rfl (d_move rfl ?_)
  refine WL.done (X.then_code ?_)
  refine W.block ?_
  have H1 : UpG w [] w [[rowT (tyI .i64) (.slice none (([] : List Int).length) 0) 3 ([] : List Int)]] := H0.new' (Upd.nilRowT w (tyI .i64) 3)
  refine W.pick [10, 9, 8, 5, 4, 0, 2] (Γ' := [(10, .int .i64 0), (9, .int .i64 (((usedI d).length : Nat) : Int)), (8, .slice la ((usedI d).length) lc), (5, .slice none (([] : List Int).length) 0), (4, .slice none 0 0), (0, .int .i64 s), (2, .pointer (some ⟨dg, 0, none⟩))]) rfl ?_
  refine W.loop (fun m Γ' w' => ∃ k : Nat, ∃ q : List Int, ∃ qa : Option Addr, ∃ qc : Nat, Γ' = [(10, .int .i64 ((k : Nat) : Int)), (9, .int .i64 (((usedI d).length : Nat) : Int)), (8, .slice la ((usedI d).length) lc), (5, .slice qa q.length qc), (4, .slice none 0 0), (0, .int .i64 s), (2, .pointer (some ⟨dg, 0, none⟩))] ∧ UpG w [] w' [[rowT (tyI .i64) (.slice qa q.length qc) 3 q]] ∧ (k ≤ (usedI d).length) ∧ (q = ((usedI d).take k).map (fun c => d.next.getD (s * d.width + c).toNat 0)) ∧ (q.length = k) ∧ m = (usedI d).length - k) ((usedI d).length - 0) ⟨0, ([] : List Int), none, 0, rfl, H1, (by first | assumption | omega | simp), (by rfl), (by rfl), rfl⟩ ?_
  rintro m1 Γ1 w1 ⟨k, q, qa, qc, rfl, H2, hk, hq, hql, rfl⟩
  refine W.seq ?_
  refine W.region ?_
  refine WL.op rfl (d_cmp (decide (((k : Nat) : Int) < (((usedI d).length : Nat) : Int))) rfl rfl rfl ?_)
  refine WL.done (X.then_code ?_)
  refine W.seq ?_
  refine W.ite (p := ((k : Nat) : Int) < (((usedI d).length : Nat) : Int)) rfl (fun c114 => ?_) (fun c114 => ?_)
  · skip
    refine W.skip (X.then_code ?_)
    refine W.seq ?_
    refine W.block ?_
    refine W.seq ?_
    refine W.region ?_
    refine WL.op rfl (t_addr1 k (T := (tyI .i64)) rfl Try.underlying22 sz3 rfl rfl (rl.at H2) rfl (by omega) ?_)
    refine WL.op rfl (t_load1 k 0 (T := (tyI .i64)) rfl Try.underlying3 rfl rfl (rl.at H2) (by omega) rfl ?_)
    refine WL.op rfl (d_assign rfl ?_)
    refine WL.done (X.then_code ?_)
    have hcx := used_bd hrt (x := (usedI d).getD k 0) (getD_mem' (by omega))
    have hix := right_idx hrt hs.1 hs.2 hcx.1 hcx.2
    refine W.region ?_
    refine WL.op rfl (d_move rfl ?_)
    refine WL.op rfl (d_fieldAddrB fld25_3 rfl rfl ?_)
    refine WL.op rfl (d_loadB Try.underlying22 rfl rfl (H2.keep0.obj bdg (by simp)) rfl ?_)
    refine WL.op rfl (d_move rfl ?_)
    refine WL.op rfl (d_fieldAddrB fld25_1 rfl rfl ?_)
    refine WL.op rfl (d_loadB Try.underlying3 rfl rfl (H2.keep0.obj bdg (by simp)) rfl ?_)
    refine WL.op rfl (d_mul rfl rfl (by omega) (by omega) ?_)
    refine WL.op rfl (d_move rfl ?_)
    refine WL.op rfl (d_add rfl rfl (by omega) (by omega) ?_)
    refine WL.op rfl (t_addr1 (((s * d.width) + ((usedI d).getD k 0)).toNat) (T := (tyI .i64)) rfl Try.underlying22 sz3 rfl rfl (rn.at H2) (by omega) (by omega) ?_)
    refine WL.op rfl (t_load1 (((s * d.width) + ((usedI d).getD k 0)).toNat) 0 (T := (tyI .i64)) rfl Try.underlying3 rfl rfl (rn.at H2) (by omega) rfl ?_)
    refine WL.op rfl (t_buildSlice (T := (tyI .i64)) (xs := [d.next.getD (((s * d.width) + ((usedI d).getD k 0)).toNat) 0]) (cs := #[.int .i64 (d.next.getD (((s * d.width) + ((usedI d).getD k 0)).toNat) 0)]) rfl Try.underlying22 sz3 rfl rfl rfl rfl (by kernel_rfl) rfl rfl fun w2 u1 => ?_)
    have H3 : UpG w [] w2 [[rowT (tyI .i64) (.slice qa q.length qc) 3 q], [rowT (tyI .i64) (.slice (some ⟨w1.heap.size, 0, none⟩) ([d.next.getD (((s * d.width) + ((usedI d).getD k 0)).toNat) 0].length) ([d.next.getD (((s * d.width) + ((usedI d).getD k 0)).toNat) 0].length)) 3 [d.next.getD (((s * d.width) + ((usedI d).getD k 0)).toNat) 0]]] := H2.new' u1
    refine WL.op rfl (t_append (T := (tyI .i64)) (xs := q) (ys := [d.next.getD (((s * d.width) + ((usedI d).getD k 0)).toNat) 0]) rfl Try.underlying22 sz3 rfl rfl rfl (H3.ownT 0 rfl) (H3.rdT 1 rfl) (by simp; omega) (by simp; omega) fun a1 c1 w3 u2 => ?_)
    have H4 : UpG w [] w3 [[rowT (tyI .i64) (.slice a1 ((q ++ [d.next.getD (((s * d.width) + ((usedI d).getD k 0)).toNat) 0]).length) c1) 3 (q ++ [d.next.getD (((s * d.width) + ((usedI d).getD k 0)).toNat) 0])], []] := (H3.on 0 rfl u2).drop 1
    refine WL.op rfl (d_assign rfl ?_)
    refine WL.done (X.block_normal (X.then_code ?_))
    refine W.pick [5, 26, 25, 24, 23, 22, 21, 20, 19, 18, 17, 16, 15, 14, 7, 13, 12, 11, 10, 9, 8, 4, 0, 2] (Γ' := [(5, .slice a1 ((q ++ [d.next.getD (((s * d.width) + ((usedI d).getD k 0)).toNat) 0]).length) c1), (26, .slice a1 ((q ++ [d.next.getD (((s * d.width) + ((usedI d).getD k 0)).toNat) 0]).length) c1), (25, .slice (some ⟨w1.heap.size, 0, none⟩) ([d.next.getD (((s * d.width) + ((usedI d).getD k 0)).toNat) 0].length) ([d.next.getD (((s * d.width) + ((usedI d).getD k 0)).toNat) 0].length)), (24, .int .i64 (d.next.getD (((s * d.width) + ((usedI d).getD k 0)).toNat) 0)), (23, elemPtr (.slice dna d.next.length dnc) (((s * d.width) + ((usedI d).getD k 0)).toNat)), (22, .int .i64 ((s * d.width) + ((usedI d).getD k 0))), (21, .int .i64 ((usedI d).getD k 0)), (20, .int .i64 (s * d.width)), (19, .int .i64 d.width), (18, .pointer (some ⟨dg, 1, none⟩)), (17, .int .i64 s), (16, .slice dna d.next.length dnc), (15, .pointer (some ⟨dg, 3, none⟩)), (14, .slice qa q.length qc), (7, .int .i64 ((usedI d).getD k 0)), (13, .int .i64 ((usedI d).getD k 0)), (12, elemPtr (.slice la ((usedI d).length) lc) k), (11, .bool (decide (((k : Nat) : Int) < (((usedI d).length : Nat) : Int)))), (10, .int .i64 ((k : Nat) : Int)), (9, .int .i64 (((usedI d).length : Nat) : Int)), (8, .slice la ((usedI d).length) lc), (4, .slice none 0 0), (0, .int .i64 s), (2, .pointer (some ⟨dg, 0, none⟩))]) rfl ?_
    refine W.region ?_
    refine WL.op rfl (d_add rfl rfl (by omega) (by omega) ?_)
    refine WL.op rfl (d_move rfl ?_)
    refine WL.done ?_
    exact X.next [10, 9, 8, 5, 4, 0, 2] (Γ' := [(10, .int .i64 (((k + 1) : Nat) : Int)), (9, .int .i64 (((usedI d).length : Nat) : Int)), (8, .slice la ((usedI d).length) lc), (5, .slice a1 ((q ++ [d.next.getD (((s * d.width) + ((usedI d).getD k 0)).toNat) 0]).length) c1), (4, .slice none 0 0), (0, .int .i64 s), (2, .pointer (some ⟨dg, 0, none⟩))]) rfl ((usedI d).length - (k + 1)) (by omega) ⟨k + 1, q ++ [d.next.getD (((s * d.width) + ((usedI d).getD k 0)).toNat) 0], a1, c1, rfl, (H4.re rfl), (by first | assumption | omega | simp), (by rw [hq]; exact nxR_step (by omega)), (by simp; omega), rfl⟩
  · skip
    refine W.exit (X.then_exit (X.then_exit (X.block_exit (X.then_code ?_))))
    refine W.seq ?_
    refine W.region ?_
    refine WL.op rfl (d_move rfl ?_)
    refine WL.op rfl (d_assign rfl ?_)
    refine WL.done (X.then_code ?_)
    refine W.ret (X.ret1 rfl rfl ?_)
    have e : nxR d s = q := by rw [hq, List.take_of_length_le (by omega)]; rfl
    rw [e]
    exact ⟨qa, qc, (by rfl), (by have hh := H2.one 0 rfl; exact hh)⟩

set_option maxRecDepth 20000 in
theorem reach_any (d : DfaD) (dca : Option Addr) (dna : Option Addr) (dba : Option Addr) (dcc : Nat) (dnc : Nat) (dbc : Nat) (w : World) (rcd : RdT (tyI .i64) w (.slice dca d.cls.length dcc) d.cls) (rnd : RdT (tyI .i64) w (.slice dna d.next.length dnc) d.next) (rbd : RdT tyB w (.slice dba d.acc.length dbc) d.acc) (hcl : d.cls.length ≤ 1000) :
    Calls Try.prog 19 #[.agg #[.slice dca d.cls.length dcc, .int .i64 d.width, .int .i64 d.start, .slice dna d.next.length dnc, .slice dba d.acc.length dbc]] w (Ret fun v w' => ∃ a2 : Option Addr, ∃ o2 : List Bool, ∃ c2 : Nat, v = .slice a2 o2.length c2 ∧ Upd w [] w' [rowT tyB (.slice a2 o2.length c2) 4 o2] ∧ (ReachP d o2)) := by
  have le_rcd := rcd.le
  have le_rnd := rnd.le
  have le_rbd := rbd.le
  refine calls_of_W (args := [.agg #[.slice dca d.cls.length dcc, .int .i64 d.width, .int .i64 d.start, .slice dna d.next.length dnc, .slice dba d.acc.length dbc]]) Try.func19 rfl rfl rfl ?_
  have H0 : UpG w [] w [] := UpG.nil w
  show W _ _ _ _ [(0, .agg #[.slice dca d.cls.length dcc, .int .i64 d.width, .int .i64 d.start, .slice dna d.next.length dnc, .slice dba d.acc.length dbc])] w
  refine W.seq ?_
  refine W.region ?_
  refine WL.op rfl (d_box rfl fun w1 u1 => ?_)
  have H1 : UpG w [] w1 [[blk w.heap.size #[.slice dca d.cls.length dcc, .int .i64 d.width, .int .i64 d.start, .slice dna d.next.length dnc, .slice dba d.acc.length dbc] 25]] := H0.new' u1
  refine WL.op rfl (d_assign rfl ?_)
  refine WL.done (X.then_code ?_)
  refine W.seq ?_
  refine W.seq ?_
  refine W.region ?_
  refine WL.op rfl (d_loadAB [.slice dca d.cls.length dcc, .int .i64 d.width, .int .i64 d.start, .slice dna d.next.length dnc, .slice dba d.acc.length dbc] Try.underlying25 rfl sz25 rfl (H1.blk 0 rfl) rfl rfl ?_)
  refine WL.op rfl (d_call ok24 rfl (Ret.calls (right_any d dca dna dba dcc dnc dbc w1 (rcd.at H1) (rnd.at H1) (rbd.at H1) ) fun _ w2 p1 => ?_))
  obtain ⟨rfl, u2⟩ := p1
  have H2 : UpG w [] w2 [[blk w.heap.size #[.slice dca d.cls.length dcc, .int .i64 d.width, .int .i64 d.start, .slice dna d.next.length dnc, .slice dba d.acc.length dbc] 25]] := H1.call u2
  refine WL.op rfl (d_notB rfl ?_)
  refine WL.done (X.then_code ?_)
  refine W.iteB (b := !(rightB d)) rfl (fun c108 => ?_) (fun c108 => ?_)
  · skip
    refine W.seq ?_
    refine W.region ?_
    refine WL.op rfl (d_assign rfl ?_)
    refine WL.done (X.then_code ?_)
    refine W.ret (X.then_ret (X.ret1 rfl rfl ?_))
    exact ⟨none, [], 0, (by rfl), nilOwn H2, ⟨fun _ => rfl, fun h => by rw [h] at c108; exact absurd c108 (by decide)⟩⟩
  · skip
    refine W.skip (X.then_code ?_)
    refine W.seq ?_
    have hrt : rightB d = true := by simpa using c108
    have hri := rightB_iff.1 hrt
    refine W.region ?_
    refine WL.op rfl (d_loadAB [.slice dca d.cls.length dcc, .int .i64 d.width, .int .i64 d.start, .slice dna d.next.length dnc, .slice dba d.acc.length dbc] Try.underlying25 rfl sz25 rfl (H2.blk 0 rfl) rfl rfl ?_)
    refine WL.op rfl (d_call ok57 rfl (Ret.calls (used_any d dca dna dba dcc dnc dbc w2 (rcd.at H2) (rnd.at H2) (rbd.at H2) (by omega)) fun _ w3 p2 => ?_))
    obtain ⟨a2_1, c2_1, rfl, u3⟩ := p2
    have H3 : UpG w [] w3 [[blk w.heap.size #[.slice dca d.cls.length dcc, .int .i64 d.width, .int .i64 d.start, .slice dna d.next.length dnc, .slice dba d.acc.length dbc] 25], [rowT (tyI .i64) (.slice a2_1 ((usedI d).length) c2_1) 3 (usedI d)]] := (H2.new' u3).re rfl
    refine WL.op rfl (d_alloc sz22 fun w4 u4 => ?_)
    have H4 : UpG w [] w4 [[blk w.heap.size #[.slice dca d.cls.length dcc, .int .i64 d.width, .int .i64 d.start, .slice dna d.next.length dnc, .slice dba d.acc.length dbc] 25], [rowT (tyI .i64) (.slice a2_1 ((usedI d).length) c2_1) 3 (usedI d)], [blk w3.heap.size #[.slice none 0 0] 22]] := H3.new' u4
    refine WL.op0 (d_storeB sz22 rfl rfl rfl (H4.blk 2 rfl) rfl fun w5 u5 => ?_)
    have H5 : UpG w [] w5 [[blk w.heap.size #[.slice dca d.cls.length dcc, .int .i64 d.width, .int .i64 d.start, .slice dna d.next.length dnc, .slice dba d.acc.length dbc] 25], [rowT (tyI .i64) (.slice a2_1 ((usedI d).length) c2_1) 3 (usedI d)], [blk w3.heap.size #[.slice a2_1 ((usedI d).length) c2_1] 22]] := H4.on 2 rfl u5
    refine WL.done (X.then_code ?_)
    refine W.seq ?_
    refine W.region ?_
    refine WL.op rfl (d_fieldAddrB fld25_2 rfl rfl ?_)
    refine WL.op rfl (d_loadB Try.underlying3 rfl rfl (H5.blk 0 rfl) rfl ?_)
    refine WL.op rfl (t_buildSlice (T := (tyI .i64)) (xs := [d.start]) (cs := #[.int .i64 d.start]) rfl Try.underlying22 sz3 rfl rfl rfl rfl (by kernel_rfl) rfl rfl fun w6 u6 => ?_)
    have H6 : UpG w [] w6 [[blk w.heap.size #[.slice dca d.cls.length dcc, .int .i64 d.width, .int .i64 d.start, .slice dna d.next.length dnc, .slice dba d.acc.length dbc] 25], [rowT (tyI .i64) (.slice a2_1 ((usedI d).length) c2_1) 3 (usedI d)], [blk w3.heap.size #[.slice a2_1 ((usedI d).length) c2_1] 22], [rowT (tyI .i64) (.slice (some ⟨w5.heap.size, 0, none⟩) ([d.start].length) ([d.start].length)) 3 [d.start]]] := H5.new' u6
    refine WL.op rfl (d_fieldAddrB fld25_4 rfl rfl ?_)
    refine WL.op rfl (d_loadB Try.underlying23 rfl rfl (H6.blk 0 rfl) rfl ?_)
    refine WL.op rfl (d_lenS Try.underlying23 rfl ?_)
    refine WL.op rfl (d_makeFunc rfl rfl ?_)
    refine WL.op rfl (d_call ok58 rfl (Ret.calls (spreadR_any (some ⟨w5.heap.size, 0, none⟩) [d.start] ([d.start].length) d.acc.length 60 [.pointer (some ⟨w3.heap.size, 0, none⟩), .pointer (some ⟨w.heap.size, 0, none⟩)] (nxR d) w6 (H6.hpOf 3 rfl)  (by simp; omega) (by intro t ht; simp only [List.mem_singleton] at ht; subst ht; omega) (fun s h0 h1 => ⟨by have := nxR_len d s; omega, fun t ht => nxR_bd hrt h0 h1 ht⟩) ok60 (fun w2 k2 x h0 h1 => reach1_any x _ _ _ _ d _ _ _ _ _ _ w2 (H6.rdT_keep 3 1 rfl rfl rfl k2) (rnd.kept (H6.keep_step 3 rfl k2)) (H6.blk_keep 3 2 rfl rfl rfl k2) (H6.blk_keep 3 0 rfl rfl rfl k2) hrt ⟨h0, h1⟩)) fun _ w7 p3 => ?_))
    obtain ⟨a2_2, o2_1, c2_2, rfl, u7, q1⟩ := p3
    have H7 : UpG w [] w7 [[blk w.heap.size #[.slice dca d.cls.length dcc, .int .i64 d.width, .int .i64 d.start, .slice dna d.next.length dnc, .slice dba d.acc.length dbc] 25], [rowT (tyI .i64) (.slice a2_1 ((usedI d).length) c2_1) 3 (usedI d)], [blk w3.heap.size #[.slice a2_1 ((usedI d).length) c2_1] 22], [rowT tyB (.slice a2_2 o2_1.length c2_2) 4 o2_1]] := H6.on 3 rfl u7
    refine WL.op rfl (d_assign rfl ?_)
    refine WL.done (X.then_code ?_)
    refine W.pick [2] (Γ' := [(2, .slice a2_2 o2_1.length c2_2)]) rfl ?_
    refine W.ret (X.ret1 rfl rfl ?_)
    exact ⟨a2_2, o2_1, c2_2, rfl, H7.one 3 rfl, reach_of hrt q1⟩
end Go.Proofs.Ytoeockpkkmgieaa

/- The walks of functions, printed by wip/tools/gw.py. -/
namespace Go.Proofs.Ytoeockpkkmgieaa
open Go Go.Sx
set_option linter.unusedVariables false
set_option linter.unusedSimpArgs false
set_option maxRecDepth 20000 in
theorem live1_any (s : Int) (fg : Nat) (fa : Option Addr) (ps : List (LR Int)) (fc : Nat) (fn : Nat) (w : World) (rps : RdT tyLR w (.slice fa fn fc) ps) (bfg : w.heap[fg]? = some (.cells #[.slice fa fn fc] 77 (0, 0))) (hs : 0 ≤ s ∧ s < (ps.length : Int)) :
    Calls Try.prog 59 #[.int .i64 s, .pointer (some ⟨fg, 0, none⟩)] w (Ret fun v w' => v = .slice ((ps.getD s.toNat lr0).a) ((ps.getD s.toNat lr0).n) ((ps.getD s.toNat lr0).c) ∧ Upd w [] w' []) := by
  have le_rps := rps.le
  refine calls_of_W (args := [.int .i64 s, .pointer (some ⟨fg, 0, none⟩)]) Try.func59 rfl rfl rfl ?_
  have H0 : UpG w [] w [] := UpG.nil w
  show W _ _ _ _ [(0, .int .i64 s), (1, .pointer (some ⟨fg, 0, none⟩))] w
  refine W.seq ?_
  refine W.region ?_
  refine WL.op rfl (d_assign rfl ?_)
  refine WL.done (X.then_code ?_)
  refine W.seq ?_
  refine W.region ?_
  refine WL.op rfl (d_loadB Try.underlying77 rfl rfl (H0.keep0.obj bfg (by simp)) rfl ?_)
  refine WL.op rfl (d_move rfl ?_)
  refine WL.op rfl (t_addr1 s.toNat (T := tyLR) rfl Try.underlying77 sz22 rfl rfl (rps.at H0) (by omega) (by omega) ?_)
  refine WL.op rfl (t_load1 s.toNat lr0 (T := tyLR) rfl Try.underlying22 rfl rfl (rps.at H0) (by omega) rfl ?_)
  refine WL.op rfl (d_assign rfl ?_)
  refine WL.done (X.then_code ?_)
  refine W.ret (X.ret1 rfl rfl ?_)
  exact ⟨rfl, H0.noneL⟩
end Go.Proofs.Ytoeockpkkmgieaa
