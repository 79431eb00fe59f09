/- The walks of functions, printed by wip/tools/gw.py. -/
import Derived.Test.YtoeockpkkmgieaaF2
import Derived.Test.YtoeockpkkmgieaaSx7
import Derived.Test.YtoeockpkkmgieaaDfa0
namespace Go.Proofs.Ytoeockpkkmgieaa
open Go Go.Sx
set_option linter.unusedVariables false
set_option linter.unusedSimpArgs false
set_option maxRecDepth 20000 in
theorem in_any (sym : Int) (w : World) :
    Calls Try.prog 62 #[.int .i64 sym] w (Ret fun v w' => v = .bool (decide (0 ≤ sym ∧ sym < 259)) ∧ Upd w [] w' []) := by
  refine calls_of_W (args := [.int .i64 sym]) Try.func62 rfl rfl rfl ?_
  have H0 : UpG w [] w [] := UpG.nil w
  show W _ _ _ _ [(0, .int .i64 sym)] w
  refine W.seq ?_
  refine W.region ?_
  refine WL.op rfl (d_assign rfl ?_)
  refine WL.done (X.then_code ?_)
  refine W.seq ?_
  refine W.region ?_
  refine WL.op rfl (d_move rfl ?_)
  refine WL.op rfl (d_cmp (decide (sym ≥ (0 : Int))) rfl rfl rfl ?_)
  refine WL.op rfl (d_move rfl ?_)
  refine WL.part 5 (p := sym ≥ (0 : Int)) rfl (fun g31 => ?_) (fun g31 => ?_)
  · skip
    refine WL.opG rfl rfl rfl (d_move rfl ?_)
    refine WL.opG rfl rfl rfl (d_cmp (decide (sym < (259 : Int))) rfl rfl rfl ?_)
    refine WL.op rfl (d_pick rfl rfl ?_)
    refine WL.op rfl (d_assign rfl ?_)
    refine WL.done (X.then_code ?_)
    refine W.ret (X.ret1 rfl rfl ?_)
    exact ⟨(by simp; omega), H0.noneL⟩
  · skip
    refine WL.opN rfl rfl rfl rfl ?_
    refine WL.opN rfl rfl rfl rfl ?_
    refine WL.op rfl (d_pick rfl rfl ?_)
    refine WL.op rfl (d_assign rfl ?_)
    refine WL.done (X.then_code ?_)
    refine W.ret (X.ret1 rfl rfl ?_)
    exact ⟨(by simp; omega), H0.noneL⟩

set_option maxRecDepth 20000 in
theorem within1_any (x : Int) (g : Nat) (n : Int) (w : World) (bg : w.heap[g]? = some (.cells #[.int .i64 n] 3 (0, 0))) :
    Calls Try.prog 93 #[.int .i64 x, .pointer (some ⟨g, 0, none⟩)] w (Ret fun v w' => v = .bool (decide (x < 0 ∨ n ≤ x)) ∧ Upd w [] w' []) := by
  refine calls_of_W (args := [.int .i64 x, .pointer (some ⟨g, 0, none⟩)]) Try.func93 rfl rfl rfl ?_
  have H0 : UpG w [] w [] := UpG.nil w
  show W _ _ _ _ [(0, .int .i64 x), (1, .pointer (some ⟨g, 0, none⟩))] w
  refine W.seq ?_
  refine W.region ?_
  refine WL.op rfl (d_assign rfl ?_)
  refine WL.done (X.then_code ?_)
  refine W.seq ?_
  refine W.region ?_
  refine WL.op rfl (d_move rfl ?_)
  refine WL.op rfl (d_cmp (decide (x < (0 : Int))) rfl rfl rfl ?_)
  refine WL.op rfl (d_move rfl ?_)
  refine WL.part 6 (p := x < (0 : Int)) rfl (fun g15 => ?_) (fun g15 => ?_)
  · skip
    refine WL.opN rfl rfl rfl rfl ?_
    refine WL.opN rfl rfl rfl rfl ?_
    refine WL.opN rfl rfl rfl rfl ?_
    refine WL.op rfl (d_pick rfl rfl ?_)
    refine WL.op rfl (d_assign rfl ?_)
    refine WL.done (X.then_code ?_)
    refine W.ret (X.ret1 rfl rfl ?_)
    exact ⟨(by simp; omega), H0.noneL⟩
  · skip
    refine WL.opG rfl rfl rfl (d_move rfl ?_)
    refine WL.opG rfl rfl rfl (d_loadB Try.underlying3 rfl rfl (H0.keep0.obj bg (by simp)) rfl ?_)
    refine WL.opG rfl rfl rfl (d_cmp (decide (x ≥ n)) rfl rfl rfl ?_)
    refine WL.op rfl (d_pick rfl rfl ?_)
    refine WL.op rfl (d_assign rfl ?_)
    refine WL.done (X.then_code ?_)
    refine W.ret (X.ret1 rfl rfl ?_)
    exact ⟨(by simp; omega), H0.noneL⟩

set_option maxRecDepth 20000 in
theorem indexFunc_any (sa : Option Addr) (s : List Int) (sc : Nat) (f : FuncId) (fc : List Value) (p : Int → Bool) (w : World) (rs : RdT (tyI .i64) w (.slice sa s.length sc) s) (hok : CallOk Try.prog f) (hf : ClosB Try.prog f fc p w) :
    Calls Try.prog 102 #[.slice sa s.length sc, .func (.func f) #[] fc.toArray] w (Ret fun v w' => v = .int .i64 (findI p s) ∧ Upd w [] w' []) := by
  have le_rs := rs.le
  refine calls_of_W (args := [.slice sa s.length sc, .func (.func f) #[] fc.toArray]) Try.func102 rfl rfl rfl ?_
  have H0 : UpG w [] w [] := UpG.nil w
  show W _ _ _ _ [(0, .slice sa s.length sc), (1, .func (.func f) #[] fc.toArray)] w
  refine W.seq ?_
  refine W.region ?_
  refine WL.op rfl (d_assign rfl ?_)
  refine WL.done (X.then_code ?_)
  refine W.seq ?_
  refine W.seq ?_
  refine W.region ?_
  refine WL.op rfl (d_move rfl ?_)
  refine WL.op rfl (d_lenS Try.underlying22 rfl ?_)
  refine WL.op rfl (d_move rfl ?_)
  refine WL.done (X.then_code ?_)
  refine W.block ?_
  refine W.pick [8, 7, 4, 0, 1] (Γ' := [(8, .int .i64 0), (7, .int .i64 ((s.length : Nat) : Int)), (4, .int .i64 0), (0, .slice sa s.length sc), (1, .func (.func f) #[] fc.toArray)]) rfl ?_
  refine W.loop (fun m Γ' w' => ∃ k : Nat, Γ' = [(8, .int .i64 ((k : Nat) : Int)), (7, .int .i64 ((s.length : Nat) : Int)), (4, .int .i64 0), (0, .slice sa s.length sc), (1, .func (.func f) #[] fc.toArray)] ∧ UpG w [] w' [] ∧ (k ≤ s.length) ∧ (findI p s = findFrom p s k) ∧ m = s.length - k) (s.length - 0) ⟨0, rfl, H0, (by first | assumption | omega | simp), (by rfl), rfl⟩ ?_
  rintro m1 Γ1 w1 ⟨k, rfl, H1, hk, hn, rfl⟩
  refine W.seq ?_
  refine W.region ?_
  refine WL.op rfl (d_cmp (decide (((k : Nat) : Int) < ((s.length : Nat) : Int))) rfl rfl rfl ?_)
  refine WL.done (X.then_code ?_)
  refine W.seq ?_
  refine W.ite (p := ((k : Nat) : Int) < ((s.length : Nat) : Int)) rfl (fun c108 => ?_) (fun c108 => ?_)
  · skip
    refine W.skip (X.then_code ?_)
    refine W.seq ?_
    refine W.block ?_
    refine W.seq ?_
    refine W.region ?_
    refine WL.op rfl (d_move rfl ?_)
    refine WL.op rfl (d_assign rfl ?_)
    refine WL.done (X.then_code ?_)
    refine W.seq ?_
    refine W.region ?_
    refine WL.op rfl (d_move rfl ?_)
    refine WL.op rfl (d_move rfl ?_)
    refine WL.op rfl (d_move rfl ?_)
    refine WL.op rfl (t_addr1 k (T := (tyI .i64)) rfl Try.underlying22 sz3 rfl rfl (rs.at H1) rfl (by omega) ?_)
    refine WL.op rfl (t_load1 k 0 (T := (tyI .i64)) rfl Try.underlying3 rfl rfl (rs.at H1) (by omega) rfl ?_)
    refine WL.op rfl (d_callv hok rfl rfl (Ret.calls (hf w1 H1.keep0 (s.getD k 0)) fun _ w2 p1 => ?_))
    obtain ⟨rfl, u1⟩ := p1
    have H2 : UpG w [] w2 [] := H1.call u1
    refine WL.done (X.then_code ?_)
    refine W.iteB (b := p (s.getD k 0)) rfl (fun c109 => ?_) (fun c109 => ?_)
    · skip
      refine W.seq ?_
      refine W.region ?_
      refine WL.op rfl (d_move rfl ?_)
      refine WL.op rfl (d_assign rfl ?_)
      refine WL.done (X.then_code ?_)
      refine W.ret (X.block_ret (X.then_ret (X.then_ret (X.block_ret (X.then_ret (X.ret1 rfl rfl ?_))))))
      have e := findFrom_yes p s k (by omega) (by simpa using c109)
      exact ⟨(by rw [hn, e]), H2.noneL⟩
    · skip
      refine W.skip (X.block_normal (X.then_code ?_))
      refine W.region ?_
      refine WL.op rfl (d_add rfl rfl (by omega) (by omega) ?_)
      refine WL.op rfl (d_move rfl ?_)
      refine WL.done ?_
      exact X.next [8, 7, 4, 0, 1] (Γ' := [(8, .int .i64 (((k + 1) : Nat) : Int)), (7, .int .i64 ((s.length : Nat) : Int)), (4, .int .i64 0), (0, .slice sa s.length sc), (1, .func (.func f) #[] fc.toArray)]) rfl (s.length - (k + 1)) (by omega) ⟨k + 1, rfl, H2, (by first | assumption | omega | simp), (by rw [hn, findFrom_no _ _ _ (by omega) (by simpa using c109)]), rfl⟩
  · skip
    refine W.exit (X.then_exit (X.then_exit (X.block_exit (X.then_code ?_))))
    refine W.seq ?_
    refine W.region ?_
    refine WL.op rfl (d_assign rfl ?_)
    refine WL.done (X.then_code ?_)
    refine W.ret (X.ret1 rfl rfl ?_)
    have e := findFrom_end p s k (by omega)
    exact ⟨(by rw [hn, e]), H1.noneL⟩

set_option maxRecDepth 20000 in
theorem containsFunc_any (sa : Option Addr) (s : List Int) (sc : Nat) (f : FuncId) (fc : List Value) (p : Int → Bool) (w : World) (rs : RdT (tyI .i64) w (.slice sa s.length sc) s) (hok : CallOk Try.prog f) (hf : ClosB Try.prog f fc p w) :
    Calls Try.prog 92 #[.slice sa s.length sc, .func (.func f) #[] fc.toArray] w (Ret fun v w' => v = .bool (s.any p) ∧ Upd w [] w' []) := by
  have le_rs := rs.le
  refine calls_of_W (args := [.slice sa s.length sc, .func (.func f) #[] fc.toArray]) Try.func92 rfl rfl rfl ?_
  have H0 : UpG w [] w [] := UpG.nil w
  show W _ _ _ _ [(0, .slice sa s.length sc), (1, .func (.func f) #[] fc.toArray)] w
  refine W.seq ?_
  refine W.region ?_
  refine WL.op rfl (d_assign rfl ?_)
  refine WL.done (X.then_code ?_)
  refine W.seq ?_
  refine W.region ?_
  refine WL.op rfl (d_move rfl ?_)
  refine WL.op rfl (d_move rfl ?_)
  refine WL.op rfl (d_call ok102 rfl (Ret.calls (indexFunc_any sa s sc f fc p w (rs.at H0) hok (hf.keep H0.keep0)) fun _ w1 p1 => ?_))
  obtain ⟨rfl, u1⟩ := p1
  have H1 : UpG w [] w1 [] := H0.call u1
  refine WL.op rfl (d_cmp (decide ((findI p s) ≥ (0 : Int))) rfl rfl rfl ?_)
  refine WL.op rfl (d_assign rfl ?_)
  refine WL.done (X.then_code ?_)
  refine W.ret (X.ret1 rfl rfl ?_)
  exact ⟨(by rw [← findI_any]), H1.noneL⟩

set_option maxRecDepth 20000 in
theorem within_any (la : Option Addr) (l : List Int) (lc : Nat) (n : Int) (w : World) (rl : RdT (tyI .i64) w (.slice la l.length lc) l) :
    Calls Try.prog 61 #[.slice la l.length lc, .int .i64 n] w (Ret fun v w' => v = .bool (withinB l n) ∧ Upd w [] w' []) := by
  have le_rl := rl.le
  refine calls_of_W (args := [.slice la l.length lc, .int .i64 n]) Try.func61 rfl rfl rfl ?_
  have H0 : UpG w [] w [] := UpG.nil w
  show W _ _ _ _ [(0, .slice la l.length lc), (1, .int .i64 n)] w
  refine W.seq ?_
  refine W.region ?_
  refine WL.op rfl (d_box rfl fun w1 u1 => ?_)
  have H1 : UpG w [] w1 [[blk w.heap.size #[.int .i64 n] 3]] := H0.new' u1
  refine WL.op rfl (d_assign rfl ?_)
  refine WL.done (X.then_code ?_)
  refine W.seq ?_
  refine W.region ?_
  refine WL.op rfl (d_move rfl ?_)
  refine WL.op rfl (d_makeFunc rfl rfl ?_)
  refine WL.op rfl (d_call ok92 rfl (Ret.calls (containsFunc_any la l lc 93 [.pointer (some ⟨w.heap.size, 0, none⟩)] (fun x => decide (x < 0 ∨ n ≤ x)) w1 (rl.at H1) ok93 (fun w' hk x => within1_any x _ n w' (hk.obj (H1.blk 0 rfl) (by simp)))) fun _ w2 p1 => ?_))
  obtain ⟨rfl, u2⟩ := p1
  have H2 : UpG w [] w2 [[blk w.heap.size #[.int .i64 n] 3]] := H1.call u2
  refine WL.op rfl (d_notB rfl ?_)
  refine WL.op rfl (d_assign rfl ?_)
  refine WL.done (X.then_code ?_)
  refine W.ret (X.ret1 rfl rfl ?_)
  exact ⟨(by rw [← within_eq]), H2.noneL⟩

set_option maxRecDepth 20000 in
theorem right_any (d : DfaD) (dca : Option Addr) (dna : Option Addr) (dba : Option Addr) (dcc : Nat) (dnc : Nat) (dbc : Nat) (w : World) (rcd : RdT (tyI .i64) w (.slice dca d.cls.length dcc) d.cls) (rnd : RdT (tyI .i64) w (.slice dna d.next.length dnc) d.next) (rbd : RdT tyB w (.slice dba d.acc.length dbc) d.acc) :
    Calls Try.prog 24 #[.agg #[.slice dca d.cls.length dcc, .int .i64 d.width, .int .i64 d.start, .slice dna d.next.length dnc, .slice dba d.acc.length dbc]] w (Ret fun v w' => v = .bool (rightB d) ∧ Upd w [] w' []) := by
  have le_rcd := rcd.le
  have le_rnd := rnd.le
  have le_rbd := rbd.le
  refine calls_of_W (args := [.agg #[.slice dca d.cls.length dcc, .int .i64 d.width, .int .i64 d.start, .slice dna d.next.length dnc, .slice dba d.acc.length dbc]]) Try.func24 rfl rfl rfl ?_
  have H0 : UpG w [] w [] := UpG.nil w
  show W _ _ _ _ [(0, .agg #[.slice dca d.cls.length dcc, .int .i64 d.width, .int .i64 d.start, .slice dna d.next.length dnc, .slice dba d.acc.length dbc])] w
  refine W.seq ?_
  refine W.region ?_
  refine WL.op rfl (d_box rfl fun w1 u1 => ?_)
  have H1 : UpG w [] w1 [[blk w.heap.size #[.slice dca d.cls.length dcc, .int .i64 d.width, .int .i64 d.start, .slice dna d.next.length dnc, .slice dba d.acc.length dbc] 25]] := H0.new' u1
  refine WL.op rfl (d_assign rfl ?_)
  refine WL.done (X.then_code ?_)
  refine W.seq ?_
  refine W.region ?_
  refine WL.op rfl (d_fieldAddrB fld25_4 rfl rfl ?_)
  refine WL.op rfl (d_loadB Try.underlying23 rfl rfl (H1.blk 0 rfl) rfl ?_)
  refine WL.op rfl (d_lenS Try.underlying23 rfl ?_)
  refine WL.op rfl (d_assign rfl ?_)
  refine WL.done (X.then_code ?_)
  refine W.seq ?_
  refine W.block ?_
  refine W.seq ?_
  refine W.region ?_
  refine WL.op rfl (d_fieldAddrB fld25_0 rfl rfl ?_)
  refine WL.op rfl (d_loadB Try.underlying22 rfl rfl (H1.blk 0 rfl) rfl ?_)
  refine WL.op rfl (d_lenS Try.underlying22 rfl ?_)
  refine WL.op rfl (d_cmp (decide (((d.cls.length : Nat) : Int) ≠ (259 : Int))) rfl rfl rfl ?_)
  refine WL.op rfl (d_move rfl ?_)
  refine WL.part 12 (p := ((d.cls.length : Nat) : Int) ≠ (259 : Int)) rfl (fun g22 => ?_) (fun g22 => ?_)
  · skip
    refine WL.opN rfl rfl rfl rfl ?_
    refine WL.opN rfl rfl rfl rfl ?_
    refine WL.opN rfl rfl rfl rfl ?_
    refine WL.op rfl (d_pick rfl rfl ?_)
    refine WL.op rfl (d_move rfl ?_)
    refine WL.opN rfl rfl rfl rfl ?_
    refine WL.opN rfl rfl rfl rfl ?_
    refine WL.opN rfl rfl rfl rfl ?_
    refine WL.op rfl (d_pick rfl rfl ?_)
    refine WL.op rfl (d_move rfl ?_)
    refine WL.opN rfl rfl rfl rfl ?_
    refine WL.opN rfl rfl rfl rfl ?_
    refine WL.op rfl (d_pick rfl rfl ?_)
    refine WL.op rfl (d_move rfl ?_)
    refine WL.opN rfl rfl rfl rfl ?_
    refine WL.opN rfl rfl rfl rfl ?_
    refine WL.op rfl (d_pick rfl rfl ?_)
    refine WL.op rfl (d_assign rfl ?_)
    refine WL.done (X.then_code ?_)
    refine W.ift rfl ?_
    refine W.seq ?_
    refine W.region ?_
    refine WL.op rfl (d_assign rfl ?_)
    refine WL.done (X.then_code ?_)
    refine W.ret (X.block_ret (X.then_ret (X.ret1 rfl rfl ?_)))
    exact ⟨(by simp [rightB]; omega), H1.noneL⟩
  · skip
    refine WL.opG rfl rfl rfl (d_fieldAddrB fld25_1 rfl rfl ?_)
    refine WL.opG rfl rfl rfl (d_loadB Try.underlying3 rfl rfl (H1.blk 0 rfl) rfl ?_)
    refine WL.opG rfl rfl rfl (d_cmp (decide (d.width < (1 : Int))) rfl rfl rfl ?_)
    refine WL.op rfl (d_pick rfl rfl ?_)
    refine WL.op rfl (d_move rfl ?_)
    refine WL.part 17 (p := d.width < (1 : Int)) rfl (fun g22x => ?_) (fun g22x => ?_)
    · skip
      refine WL.opN rfl rfl rfl rfl ?_
      refine WL.opN rfl rfl rfl rfl ?_
      refine WL.opN rfl rfl rfl rfl ?_
      refine WL.op rfl (d_pick rfl rfl ?_)
      refine WL.op rfl (d_move rfl ?_)
      refine WL.opN rfl rfl rfl rfl ?_
      refine WL.opN rfl rfl rfl rfl ?_
      refine WL.op rfl (d_pick rfl rfl ?_)
      refine WL.op rfl (d_move rfl ?_)
      refine WL.opN rfl rfl rfl rfl ?_
      refine WL.opN rfl rfl rfl rfl ?_
      refine WL.op rfl (d_pick rfl rfl ?_)
      refine WL.op rfl (d_assign rfl ?_)
      refine WL.done (X.then_code ?_)
      refine W.ift rfl ?_
      refine W.seq ?_
      refine W.region ?_
      refine WL.op rfl (d_assign rfl ?_)
      refine WL.done (X.then_code ?_)
      refine W.ret (X.block_ret (X.then_ret (X.ret1 rfl rfl ?_)))
      exact ⟨(by simp [rightB]; omega), H1.noneL⟩
    · skip
      refine WL.opG rfl rfl rfl (d_fieldAddrB fld25_1 rfl rfl ?_)
      refine WL.opG rfl rfl rfl (d_loadB Try.underlying3 rfl rfl (H1.blk 0 rfl) rfl ?_)
      refine WL.opG rfl rfl rfl (d_cmp (decide (d.width > (259 : Int))) rfl rfl rfl ?_)
      refine WL.op rfl (d_pick rfl rfl ?_)
      refine WL.op rfl (d_move rfl ?_)
      refine WL.part 22 (p := d.width > (259 : Int)) rfl (fun g22xx => ?_) (fun g22xx => ?_)
      · skip
        refine WL.opN rfl rfl rfl rfl ?_
        refine WL.opN rfl rfl rfl rfl ?_
        refine WL.op rfl (d_pick rfl rfl ?_)
        refine WL.op rfl (d_move rfl ?_)
        refine WL.opN rfl rfl rfl rfl ?_
        refine WL.opN rfl rfl rfl rfl ?_
        refine WL.op rfl (d_pick rfl rfl ?_)
        refine WL.op rfl (d_assign rfl ?_)
        refine WL.done (X.then_code ?_)
        refine W.ift rfl ?_
        refine W.seq ?_
        refine W.region ?_
        refine WL.op rfl (d_assign rfl ?_)
        refine WL.done (X.then_code ?_)
        refine W.ret (X.block_ret (X.then_ret (X.ret1 rfl rfl ?_)))
        exact ⟨(by simp [rightB]; omega), H1.noneL⟩
      · skip
        refine WL.opG rfl rfl rfl (d_move rfl ?_)
        refine WL.opG rfl rfl rfl (d_cmp (decide (((d.acc.length : Nat) : Int) < (1 : Int))) rfl rfl rfl ?_)
        refine WL.op rfl (d_pick rfl rfl ?_)
        refine WL.op rfl (d_move rfl ?_)
        refine WL.part 26 (p := ((d.acc.length : Nat) : Int) < (1 : Int)) rfl (fun g22xxx => ?_) (fun g22xxx => ?_)
        · skip
          refine WL.opN rfl rfl rfl rfl ?_
          refine WL.opN rfl rfl rfl rfl ?_
          refine WL.op rfl (d_pick rfl rfl ?_)
          refine WL.op rfl (d_assign rfl ?_)
          refine WL.done (X.then_code ?_)
          refine W.ift rfl ?_
          refine W.seq ?_
          refine W.region ?_
          refine WL.op rfl (d_assign rfl ?_)
          refine WL.done (X.then_code ?_)
          refine W.ret (X.block_ret (X.then_ret (X.ret1 rfl rfl ?_)))
          exact ⟨(by simp [rightB]; omega), H1.noneL⟩
        · skip
          refine WL.opG rfl rfl rfl (d_move rfl ?_)
          refine WL.opG rfl rfl rfl (d_cmp (decide (((d.acc.length : Nat) : Int) > (4096 : Int))) rfl rfl rfl ?_)
          refine WL.op rfl (d_pick rfl rfl ?_)
          refine WL.op rfl (d_assign rfl ?_)
          refine WL.done (X.then_code ?_)
          refine W.ite (p := ((d.acc.length : Nat) : Int) > (4096 : Int)) rfl (fun c22 => ?_) (fun c22 => ?_)
          · skip
            refine W.seq ?_
            refine W.region ?_
            refine WL.op rfl (d_assign rfl ?_)
            refine WL.done (X.then_code ?_)
            refine W.ret (X.block_ret (X.then_ret (X.ret1 rfl rfl ?_)))
            exact ⟨(by simp [rightB]; omega), H1.noneL⟩
          · skip
            refine W.seq ?_
            have hb := mul_bd (a := (d.acc.length : Int)) (b := d.width) (A := 4096) (B := 259) (by omega) (by omega) (by omega) (by omega)
            refine W.region ?_
            refine WL.op rfl (d_fieldAddrB fld25_3 rfl rfl ?_)
            refine WL.op rfl (d_loadB Try.underlying22 rfl rfl (H1.blk 0 rfl) rfl ?_)
            refine WL.op rfl (d_lenS Try.underlying22 rfl ?_)
            refine WL.op rfl (d_move rfl ?_)
            refine WL.op rfl (d_fieldAddrB fld25_1 rfl rfl ?_)
            refine WL.op rfl (d_loadB Try.underlying3 rfl rfl (H1.blk 0 rfl) rfl ?_)
            refine WL.op rfl (d_mul rfl rfl (by omega) (by omega) ?_)
            refine WL.op rfl (d_cmp (decide (((d.next.length : Nat) : Int) ≠ (((d.acc.length : Nat) : Int) * d.width))) rfl rfl rfl ?_)
            refine WL.op rfl (d_move rfl ?_)
            refine WL.part 39 (p := ((d.next.length : Nat) : Int) ≠ (((d.acc.length : Nat) : Int) * d.width)) rfl (fun g24 => ?_) (fun g24 => ?_)
            · skip
              refine WL.opN rfl rfl rfl rfl ?_
              refine WL.opN rfl rfl rfl rfl ?_
              refine WL.opN rfl rfl rfl rfl ?_
              refine WL.op rfl (d_pick rfl rfl ?_)
              refine WL.op rfl (d_move rfl ?_)
              refine WL.opN rfl rfl rfl rfl ?_
              refine WL.opN rfl rfl rfl rfl ?_
              refine WL.opN rfl rfl rfl rfl ?_
              refine WL.opN rfl rfl rfl rfl ?_
              refine WL.op rfl (d_pick rfl rfl ?_)
              refine WL.op rfl (d_assign rfl ?_)
              refine WL.done (X.then_code ?_)
              refine W.pick [30, 3, 2, 1] (Γ' := [(30, .bool true), (3, .int .i64 ((d.acc.length : Nat) : Int)), (2, .bool false), (1, .pointer (some ⟨w.heap.size, 0, none⟩))]) rfl ?_
              refine W.ift rfl ?_
              refine W.seq ?_
              refine W.region ?_
              refine WL.op rfl (d_assign rfl ?_)
              refine WL.done (X.then_code ?_)
              refine W.ret (X.block_ret (X.then_ret (X.ret1 rfl rfl ?_)))
              exact ⟨(by simp [rightB]; omega), H1.noneL⟩
            · skip
              refine WL.opG rfl rfl rfl (d_fieldAddrB fld25_2 rfl rfl ?_)
              refine WL.opG rfl rfl rfl (d_loadB Try.underlying3 rfl rfl (H1.blk 0 rfl) rfl ?_)
              refine WL.opG rfl rfl rfl (d_cmp (decide (d.start < (0 : Int))) rfl rfl rfl ?_)
              refine WL.op rfl (d_pick rfl rfl ?_)
              refine WL.op rfl (d_move rfl ?_)
              refine WL.part 44 (p := d.start < (0 : Int)) rfl (fun g24x => ?_) (fun g24x => ?_)
              · skip
                refine WL.opN rfl rfl rfl rfl ?_
                refine WL.opN rfl rfl rfl rfl ?_
                refine WL.opN rfl rfl rfl rfl ?_
                refine WL.opN rfl rfl rfl rfl ?_
                refine WL.op rfl (d_pick rfl rfl ?_)
                refine WL.op rfl (d_assign rfl ?_)
                refine WL.done (X.then_code ?_)
                refine W.pick [30, 3, 2, 1] (Γ' := [(30, .bool true), (3, .int .i64 ((d.acc.length : Nat) : Int)), (2, .bool false), (1, .pointer (some ⟨w.heap.size, 0, none⟩))]) rfl ?_
                refine W.ift rfl ?_
                refine W.seq ?_
                refine W.region ?_
                refine WL.op rfl (d_assign rfl ?_)
                refine WL.done (X.then_code ?_)
                refine W.ret (X.block_ret (X.then_ret (X.ret1 rfl rfl ?_)))
                exact ⟨(by simp [rightB]; omega), H1.noneL⟩
              · skip
                refine WL.opG rfl rfl rfl (d_fieldAddrB fld25_2 rfl rfl ?_)
                refine WL.opG rfl rfl rfl (d_loadB Try.underlying3 rfl rfl (H1.blk 0 rfl) rfl ?_)
                refine WL.opG rfl rfl rfl (d_move rfl ?_)
                refine WL.opG rfl rfl rfl (d_cmp (decide (d.start ≥ ((d.acc.length : Nat) : Int))) rfl rfl rfl ?_)
                refine WL.op rfl (d_pick rfl rfl ?_)
                refine WL.op rfl (d_assign rfl ?_)
                refine WL.done (X.then_code ?_)
                refine W.pick [30, 3, 2, 1] (Γ' := [(30, .bool (decide (d.start ≥ ((d.acc.length : Nat) : Int)))), (3, .int .i64 ((d.acc.length : Nat) : Int)), (2, .bool false), (1, .pointer (some ⟨w.heap.size, 0, none⟩))]) rfl ?_
                refine W.ite (p := d.start ≥ ((d.acc.length : Nat) : Int)) rfl (fun c24 => ?_) (fun c24 => ?_)
                · skip
                  refine W.seq ?_
                  refine W.region ?_
                  refine WL.op rfl (d_assign rfl ?_)
                  refine WL.done (X.then_code ?_)
                  refine W.ret (X.block_ret (X.then_ret (X.ret1 rfl rfl ?_)))
                  exact ⟨(by simp [rightB]; omega), H1.noneL⟩
                · skip
                  refine W.skip (X.block_normal (X.then_code ?_))
                  refine W.seq ?_
                  refine W.region ?_
                  refine WL.op rfl (d_fieldAddrB fld25_0 rfl rfl ?_)
                  refine WL.op rfl (d_loadB Try.underlying22 rfl rfl (H1.blk 0 rfl) rfl ?_)
                  refine WL.op rfl (d_fieldAddrB fld25_1 rfl rfl ?_)
                  refine WL.op rfl (d_loadB Try.underlying3 rfl rfl (H1.blk 0 rfl) rfl ?_)
                  refine WL.op rfl (d_call ok61 rfl (Ret.calls (within_any dca d.cls dcc d.width w1 (rcd.at H1) ) fun _ w2 p1 => ?_))
                  obtain ⟨rfl, u2⟩ := p1
                  have H2 : UpG w [] w2 [[blk w.heap.size #[.slice dca d.cls.length dcc, .int .i64 d.width, .int .i64 d.start, .slice dna d.next.length dnc, .slice dba d.acc.length dbc] 25]] := H1.call u2
                  refine WL.op rfl (d_move rfl ?_)
                  refine WL.partB 55 (b := withinB d.cls d.width) rfl (fun g27 => ?_) (fun g27 => ?_)
                  · skip
                    refine WL.opG rfl rfl rfl (d_fieldAddrB fld25_3 rfl rfl ?_)
                    refine WL.opG rfl rfl rfl (d_loadB Try.underlying22 rfl rfl (H2.blk 0 rfl) rfl ?_)
                    refine WL.opG rfl rfl rfl (d_move rfl ?_)
                    refine WL.opG rfl rfl rfl (d_call ok61 rfl (Ret.calls (within_any dna d.next dnc ((d.acc.length : Nat) : Int) w2 (rnd.at H2) ) fun _ w3 p2 => ?_))
                    obtain ⟨rfl, u3⟩ := p2
                    have H3 : UpG w [] w3 [[blk w.heap.size #[.slice dca d.cls.length dcc, .int .i64 d.width, .int .i64 d.start, .slice dna d.next.length dnc, .slice dba d.acc.length dbc] 25]] := H2.call u3
                    refine WL.op rfl (d_pick rfl rfl ?_)
                    refine WL.op rfl (d_assign rfl ?_)
                    refine WL.done (X.then_code ?_)
                    refine W.ret (X.ret1 rfl rfl ?_)
                    exact ⟨(by rw [rightB, decide_eq_true (by omega)]; simp [g27]), H3.noneL⟩
                  · skip
                    refine WL.opN rfl rfl rfl rfl ?_
                    refine WL.opN rfl rfl rfl rfl ?_
                    refine WL.opN rfl rfl rfl rfl ?_
                    refine WL.opN rfl rfl rfl rfl ?_
                    refine WL.op rfl (d_pick rfl rfl ?_)
                    refine WL.op rfl (d_assign rfl ?_)
                    refine WL.done (X.then_code ?_)
                    refine W.ret (X.ret1 rfl rfl ?_)
                    exact ⟨(by rw [rightB, decide_eq_true (by omega)]; simp [g27]), H2.noneL⟩

set_option maxRecDepth 20000 in
theorem run_any (d : DfaD) (dca : Option Addr) (dna : Option Addr) (dba : Option Addr) (dcc : Nat) (dnc : Nat) (dbc : Nat) (s : Int) (worda : Option Addr) (word : List Int) (wordc : Nat) (w : World) (rcd : RdT (tyI .i64) w (.slice dca d.cls.length dcc) d.cls) (rnd : RdT (tyI .i64) w (.slice dna d.next.length dnc) d.next) (rbd : RdT tyB w (.slice dba d.acc.length dbc) d.acc) (rword : RdT (tyI .i64) w (.slice worda word.length wordc) word) :
    Calls Try.prog 25 #[.agg #[.slice dca d.cls.length dcc, .int .i64 d.width, .int .i64 d.start, .slice dna d.next.length dnc, .slice dba d.acc.length dbc], .int .i64 s, .slice worda word.length wordc] w (Ret fun v w' => v = .int .i64 (runF d s word) ∧ Upd w [] w' []) := by
  have le_rcd := rcd.le
  have le_rnd := rnd.le
  have le_rbd := rbd.le
  have le_rword := rword.le
  refine calls_of_W (args := [.agg #[.slice dca d.cls.length dcc, .int .i64 d.width, .int .i64 d.start, .slice dna d.next.length dnc, .slice dba d.acc.length dbc], .int .i64 s, .slice worda word.length wordc]) Try.func25 rfl rfl rfl ?_
  have H0 : UpG w [] w [] := UpG.nil w
  show W _ _ _ _ [(0, .agg #[.slice dca d.cls.length dcc, .int .i64 d.width, .int .i64 d.start, .slice dna d.next.length dnc, .slice dba d.acc.length dbc]), (1, .int .i64 s), (2, .slice worda word.length wordc)] w
  refine W.seq ?_
  refine W.region ?_
  refine WL.op rfl (d_box rfl fun w1 u1 => ?_)
  have H1 : UpG w [] w1 [[blk w.heap.size #[.slice dca d.cls.length dcc, .int .i64 d.width, .int .i64 d.start, .slice dna d.next.length dnc, .slice dba d.acc.length dbc] 25]] := H0.new' u1
  refine WL.op rfl (d_assign rfl ?_)
  refine WL.done (X.then_code ?_)
  refine W.seq ?_
  refine W.seq ?_
  refine W.region ?_
  refine WL.op rfl (d_loadAB [.slice dca d.cls.length dcc, .int .i64 d.width, .int .i64 d.start, .slice dna d.next.length dnc, .slice dba d.acc.length dbc] Try.underlying25 rfl sz25 rfl (H1.blk 0 rfl) rfl rfl ?_)
  refine WL.op rfl (d_call ok24 rfl (Ret.calls (right_any d dca dna dba dcc dnc dbc w1 (rcd.at H1) (rnd.at H1) (rbd.at H1) ) fun _ w2 p1 => ?_))
  obtain ⟨rfl, u2⟩ := p1
  have H2 : UpG w [] w2 [[blk w.heap.size #[.slice dca d.cls.length dcc, .int .i64 d.width, .int .i64 d.start, .slice dna d.next.length dnc, .slice dba d.acc.length dbc] 25]] := H1.call u2
  refine WL.op rfl (d_notB rfl ?_)
  refine WL.op rfl (d_move rfl ?_)
  refine WL.partB 12 (b := !(rightB d)) rfl (fun g38 => ?_) (fun g38 => ?_)
  · skip
    refine WL.opN rfl rfl rfl rfl ?_
    refine WL.opN rfl rfl rfl rfl ?_
    refine WL.op rfl (d_pick rfl rfl ?_)
    refine WL.op rfl (d_move rfl ?_)
    refine WL.opN rfl rfl rfl rfl ?_
    refine WL.opN rfl rfl rfl rfl ?_
    refine WL.opN rfl rfl rfl rfl ?_
    refine WL.opN rfl rfl rfl rfl ?_
    refine WL.opN rfl rfl rfl rfl ?_
    refine WL.op rfl (d_pick rfl rfl ?_)
    refine WL.done (X.then_code ?_)
    refine W.ift rfl ?_
    refine W.seq ?_
    refine W.region ?_
    refine WL.op rfl (d_assign rfl ?_)
    refine WL.done (X.then_code ?_)
    refine W.ret (X.then_ret (X.ret1 rfl rfl ?_))
    exact ⟨(by first | rw [runF_no (.inl g38)] | rw [runF_no (.inr (by omega))]), H2.noneL⟩
  · skip
    refine WL.opG rfl rfl rfl (d_move rfl ?_)
    refine WL.opG rfl rfl rfl (d_cmp (decide (s < (0 : Int))) rfl rfl rfl ?_)
    refine WL.op rfl (d_pick rfl rfl ?_)
    refine WL.op rfl (d_move rfl ?_)
    refine WL.part 16 (p := s < (0 : Int)) rfl (fun g38x => ?_) (fun g38x => ?_)
    · skip
      refine WL.opN rfl rfl rfl rfl ?_
      refine WL.opN rfl rfl rfl rfl ?_
      refine WL.opN rfl rfl rfl rfl ?_
      refine WL.opN rfl rfl rfl rfl ?_
      refine WL.opN rfl rfl rfl rfl ?_
      refine WL.op rfl (d_pick rfl rfl ?_)
      refine WL.done (X.then_code ?_)
      refine W.ift rfl ?_
      refine W.seq ?_
      refine W.region ?_
      refine WL.op rfl (d_assign rfl ?_)
      refine WL.done (X.then_code ?_)
      refine W.ret (X.then_ret (X.ret1 rfl rfl ?_))
      exact ⟨(by first | rw [runF_no (.inl g38)] | rw [runF_no (.inr (by omega))]), H2.noneL⟩
    · skip
      refine WL.opG rfl rfl rfl (d_move rfl ?_)
      refine WL.opG rfl rfl rfl (d_fieldAddrB fld25_4 rfl rfl ?_)
      refine WL.opG rfl rfl rfl (d_loadB Try.underlying23 rfl rfl (H2.blk 0 rfl) rfl ?_)
      refine WL.opG rfl rfl rfl (d_lenS Try.underlying23 rfl ?_)
      refine WL.opG rfl rfl rfl (d_cmp (decide (s ≥ ((d.acc.length : Nat) : Int))) rfl rfl rfl ?_)
      refine WL.op rfl (d_pick rfl rfl ?_)
      refine WL.done (X.then_code ?_)
      refine W.ite (p := s ≥ ((d.acc.length : Nat) : Int)) rfl (fun c38 => ?_) (fun c38 => ?_)
      · skip
        refine W.seq ?_
        refine W.region ?_
        refine WL.op rfl (d_assign rfl ?_)
        refine WL.done (X.then_code ?_)
        refine W.ret (X.then_ret (X.ret1 rfl rfl ?_))
        exact ⟨(by first | rw [runF_no (.inl g38)] | rw [runF_no (.inr (by omega))]), H2.noneL⟩
      · skip
        refine W.skip (X.then_code ?_)
        refine W.seq ?_
        refine W.seq ?_
        refine W.region ?_
        refine WL.op rfl (d_move rfl ?_)
        refine WL.op rfl (d_lenS Try.underlying22 rfl ?_)
        refine WL.op rfl (d_move rfl ?_)
        refine WL.done (X.then_code ?_)
        refine W.block ?_
        refine W.pick [25, 24, 23, 6, 3, 1] (Γ' := [(25, .int .i64 0), (24, .int .i64 ((word.length : Nat) : Int)), (23, .slice worda word.length wordc), (6, .int .i64 0), (3, .pointer (some ⟨w.heap.size, 0, none⟩)), (1, .int .i64 s)]) rfl ?_
        refine W.loop (fun m Γ' w' => ∃ k : Nat, ∃ q : Int, Γ' = [(25, .int .i64 ((k : Nat) : Int)), (24, .int .i64 ((word.length : Nat) : Int)), (23, .slice worda word.length wordc), (6, .int .i64 0), (3, .pointer (some ⟨w.heap.size, 0, none⟩)), (1, .int .i64 q)] ∧ UpG w [] w' [[blk w.heap.size #[.slice dca d.cls.length dcc, .int .i64 d.width, .int .i64 d.start, .slice dna d.next.length dnc, .slice dba d.acc.length dbc] 25]] ∧ (k ≤ word.length) ∧ (0 ≤ q ∧ q < (d.acc.length : Int)) ∧ (runF d s word = runFrom d word k q) ∧ m = word.length - k) (word.length - 0) ⟨0, s, rfl, H2, (by first | assumption | omega | simp), (by omega), (by exact runF_go g38 (by omega) (by omega)), rfl⟩ ?_
        rintro m1 Γ1 w3 ⟨k, q, rfl, H3, hk, hq, hr, rfl⟩
        refine W.seq ?_
        refine W.region ?_
        refine WL.op rfl (d_cmp (decide (((k : Nat) : Int) < ((word.length : Nat) : Int))) rfl rfl rfl ?_)
        refine WL.done (X.then_code ?_)
        refine W.seq ?_
        refine W.ite (p := ((k : Nat) : Int) < ((word.length : Nat) : Int)) rfl (fun c41 => ?_) (fun c41 => ?_)
        · skip
          refine W.skip (X.then_code ?_)
          refine W.seq ?_
          refine W.block ?_
          refine W.seq ?_
          refine W.region ?_
          refine WL.op rfl (t_addr1 k (T := (tyI .i64)) rfl Try.underlying22 sz3 rfl rfl (rword.at H3) rfl (by omega) ?_)
          refine WL.op rfl (t_load1 k 0 (T := (tyI .i64)) rfl Try.underlying3 rfl rfl (rword.at H3) (by omega) rfl ?_)
          refine WL.op rfl (d_assign rfl ?_)
          refine WL.done (X.then_code ?_)
          refine W.seq ?_
          refine W.seq ?_
          refine W.region ?_
          refine WL.op rfl (d_move rfl ?_)
          refine WL.op rfl (d_call ok62 rfl (Ret.calls (in_any (word.getD k 0) w3  ) fun _ w4 p2 => ?_))
          obtain ⟨rfl, u3⟩ := p2
          have H4 : UpG w [] w4 [[blk w.heap.size #[.slice dca d.cls.length dcc, .int .i64 d.width, .int .i64 d.start, .slice dna d.next.length dnc, .slice dba d.acc.length dbc] 25]] := H3.call u3
          refine WL.op rfl (d_notB rfl ?_)
          refine WL.done (X.then_code ?_)
          refine W.iteB (b := !(decide (0 ≤ (word.getD k 0) ∧ (word.getD k 0) < 259))) rfl (fun c42 => ?_) (fun c42 => ?_)
          · skip
            refine W.seq ?_
            refine W.region ?_
            refine WL.op rfl (d_assign rfl ?_)
            refine WL.done (X.then_code ?_)
            refine W.ret (X.then_ret (X.block_ret (X.then_ret (X.then_ret (X.block_ret (X.then_ret (X.ret1 rfl rfl ?_)))))))
            exact ⟨(by rw [hr, runFrom_bad (by omega) (by intro hh; rw [decide_eq_true hh] at c42; exact absurd c42 (by decide))]), H4.noneL⟩
          · skip
            refine W.skip (X.then_code ?_)
            have hsy : 0 ≤ word.getD k 0 ∧ word.getD k 0 < 259 := by simpa using c42
            have hrt : rightB d = true := by simpa using g38
            have hcx := right_sym hrt hsy.1 hsy.2
            have hix := right_idx hrt hq.1 hq.2 hcx.2.1 hcx.2.2.1
            refine W.regionD mixed (by kernel_rfl) fun hok1 w5 k1 => ?_
            have H5 : UpG w [] w5 [[blk w.heap.size #[.slice dca d.cls.length dcc, .int .i64 d.width, .int .i64 d.start, .slice dna d.next.length dnc, .slice dba d.acc.length dbc] 25]] := H4.kept k1
            refine WD.take hok1 0 (.pointer (some ⟨w.heap.size, 3, none⟩)) (fun _ => True) rfl rfl rfl rfl rfl trivial (.inl ⟨rfl, fun _ _ => d_fieldAddrB fld25_3 rfl rfl ⟨rfl, rfl⟩⟩) ?_
            refine WD.take hok1 1 (.slice dna d.next.length dnc) (fun w' => w'.heap[w.heap.size]? = some (.cells #[.slice dca d.cls.length dcc, .int .i64 d.width, .int .i64 d.start, .slice dna d.next.length dnc, .slice dba d.acc.length dbc] 25 (0, 0))) rfl rfl rfl rfl rfl (H5.blk 0 rfl) (.inl ⟨rfl, fun _ hC => d_loadB Try.underlying22 rfl rfl hC rfl ⟨rfl, rfl⟩⟩) ?_
            refine WD.take hok1 2 (.int .i64 q) (fun _ => True) rfl rfl rfl rfl rfl trivial (.inl ⟨rfl, fun _ _ => d_move rfl ⟨rfl, rfl⟩⟩) ?_
            refine WD.take hok1 3 (.pointer (some ⟨w.heap.size, 1, none⟩)) (fun _ => True) rfl rfl rfl rfl rfl trivial (.inl ⟨rfl, fun _ _ => d_fieldAddrB fld25_1 rfl rfl ⟨rfl, rfl⟩⟩) ?_
            refine WD.take hok1 4 (.int .i64 d.width) (fun w' => w'.heap[w.heap.size]? = some (.cells #[.slice dca d.cls.length dcc, .int .i64 d.width, .int .i64 d.start, .slice dna d.next.length dnc, .slice dba d.acc.length dbc] 25 (0, 0))) rfl rfl rfl rfl rfl (H5.blk 0 rfl) (.inl ⟨rfl, fun _ hC => d_loadB Try.underlying3 rfl rfl hC rfl ⟨rfl, rfl⟩⟩) ?_
            refine WD.take hok1 5 (.int .i64 (q * d.width)) (fun _ => True) rfl rfl rfl rfl rfl trivial (.inl ⟨rfl, fun _ _ => d_mul rfl rfl (by omega) (by omega) ⟨rfl, rfl⟩⟩) ?_
            refine WD.take hok1 6 (.pointer (some ⟨w.heap.size, 0, none⟩)) (fun _ => True) rfl rfl rfl rfl rfl trivial (.inl ⟨rfl, fun _ _ => d_fieldAddrB fld25_0 rfl rfl ⟨rfl, rfl⟩⟩) ?_
            refine WD.take hok1 7 (.slice dca d.cls.length dcc) (fun w' => w'.heap[w.heap.size]? = some (.cells #[.slice dca d.cls.length dcc, .int .i64 d.width, .int .i64 d.start, .slice dna d.next.length dnc, .slice dba d.acc.length dbc] 25 (0, 0))) rfl rfl rfl rfl rfl (H5.blk 0 rfl) (.inl ⟨rfl, fun _ hC => d_loadB Try.underlying22 rfl rfl hC rfl ⟨rfl, rfl⟩⟩) ?_
            refine WD.take hok1 8 (.int .i64 (word.getD k 0)) (fun _ => True) rfl rfl rfl rfl rfl trivial (.inl ⟨rfl, fun _ _ => d_move rfl ⟨rfl, rfl⟩⟩) ?_
            refine WD.take hok1 9 (elemPtr (.slice dca d.cls.length dcc) ((word.getD k 0).toNat)) (fun w' => RdT (tyI .i64) w' (.slice dca d.cls.length dcc) d.cls) rfl rfl rfl rfl rfl (rcd.at H5) (.inl ⟨rfl, fun _ hC => t_addr1 ((word.getD k 0).toNat) (T := (tyI .i64)) rfl Try.underlying22 sz3 rfl rfl hC (by omega) (by omega) ⟨rfl, rfl⟩⟩) ?_
            refine WD.take hok1 10 (.int .i64 (d.cls.getD ((word.getD k 0).toNat) 0)) (fun w' => RdT (tyI .i64) w' (.slice dca d.cls.length dcc) d.cls) rfl rfl rfl rfl rfl (rcd.at H5) (.inl ⟨rfl, fun _ hC => t_load1 ((word.getD k 0).toNat) 0 (T := (tyI .i64)) rfl Try.underlying3 rfl rfl hC (by omega) rfl ⟨rfl, rfl⟩⟩) ?_
            refine WD.take hok1 11 (.int .i64 ((q * d.width) + (d.cls.getD ((word.getD k 0).toNat) 0))) (fun _ => True) rfl rfl rfl rfl rfl trivial (.inl ⟨rfl, fun _ _ => d_add rfl rfl (by omega) (by omega) ⟨rfl, rfl⟩⟩) ?_
            refine WD.take hok1 12 (elemPtr (.slice dna d.next.length dnc) (((q * d.width) + (d.cls.getD ((word.getD k 0).toNat) 0)).toNat)) (fun w' => RdT (tyI .i64) w' (.slice dna d.next.length dnc) d.next) rfl rfl rfl rfl rfl (rnd.at H5) (.inl ⟨rfl, fun _ hC => t_addr1 (((q * d.width) + (d.cls.getD ((word.getD k 0).toNat) 0)).toNat) (T := (tyI .i64)) rfl Try.underlying22 sz3 rfl rfl hC (by omega) (by omega) ⟨rfl, rfl⟩⟩) ?_
            refine WD.take hok1 13 (.int .i64 (d.next.getD (((q * d.width) + (d.cls.getD ((word.getD k 0).toNat) 0)).toNat) 0)) (fun w' => RdT (tyI .i64) w' (.slice dna d.next.length dnc) d.next) rfl rfl rfl rfl rfl (rnd.at H5) (.inl ⟨rfl, fun _ hC => t_load1 (((q * d.width) + (d.cls.getD ((word.getD k 0).toNat) 0)).toNat) 0 (T := (tyI .i64)) rfl Try.underlying3 rfl rfl hC (by omega) rfl ⟨rfl, rfl⟩⟩) ?_
            refine WD.take hok1 14 (.int .i64 (d.next.getD (((q * d.width) + (d.cls.getD ((word.getD k 0).toNat) 0)).toNat) 0)) (fun _ => True) rfl rfl rfl rfl rfl trivial (.inl ⟨rfl, fun _ _ => d_assign rfl ⟨rfl, rfl⟩⟩) ?_
            refine WD.done hok1 rfl (X.block_normal (X.then_code ?_))
            refine W.region ?_
            refine WL.op rfl (d_add rfl rfl (by omega) (by omega) ?_)
            refine WL.op rfl (d_move rfl ?_)
            refine WL.done ?_
            exact X.next [25, 24, 23, 6, 3, 1] (Γ' := [(25, .int .i64 (((k + 1) : Nat) : Int)), (24, .int .i64 ((word.length : Nat) : Int)), (23, .slice worda word.length wordc), (6, .int .i64 0), (3, .pointer (some ⟨w.heap.size, 0, none⟩)), (1, .int .i64 (d.next.getD (((q * d.width) + (d.cls.getD ((word.getD k 0).toNat) 0)).toNat) 0))]) rfl (word.length - (k + 1)) (by omega) ⟨k + 1, d.next.getD (((q * d.width) + (d.cls.getD ((word.getD k 0).toNat) 0)).toNat) 0, rfl, H5, (by first | assumption | omega | simp), (by omega), (by rw [hr]; exact runFrom_step (by omega) hsy.1 hsy.2), rfl⟩
        · skip
          refine W.exit (X.then_exit (X.then_exit (X.block_exit (X.then_code ?_))))
          refine W.seq ?_
          refine W.region ?_
          refine WL.op rfl (d_move rfl ?_)
          refine WL.op rfl (d_assign rfl ?_)
          refine WL.done (X.then_code ?_)
          refine W.ret (X.ret1 rfl rfl ?_)
          exact ⟨(by rw [hr, runFrom_end (by omega)]), H3.noneL⟩

set_option maxRecDepth 20000 in
theorem go_any (d : DfaD) (dca : Option Addr) (dna : Option Addr) (dba : Option Addr) (dcc : Nat) (dnc : Nat) (dbc : Nat) (s : Int) (sym : Int) (w : World) (rcd : RdT (tyI .i64) w (.slice dca d.cls.length dcc) d.cls) (rnd : RdT (tyI .i64) w (.slice dna d.next.length dnc) d.next) (rbd : RdT tyB w (.slice dba d.acc.length dbc) d.acc) :
    Calls Try.prog 23 #[.agg #[.slice dca d.cls.length dcc, .int .i64 d.width, .int .i64 d.start, .slice dna d.next.length dnc, .slice dba d.acc.length dbc], .int .i64 s, .int .i64 sym] w (Ret fun v w' => v = .int .i64 (runF d s [sym]) ∧ Upd w [] w' []) := by
  have le_rcd := rcd.le
  have le_rnd := rnd.le
  have le_rbd := rbd.le
  refine calls_of_W (args := [.agg #[.slice dca d.cls.length dcc, .int .i64 d.width, .int .i64 d.start, .slice dna d.next.length dnc, .slice dba d.acc.length dbc], .int .i64 s, .int .i64 sym]) Try.func23 rfl rfl rfl ?_
  have H0 : UpG w [] w [] := UpG.nil w
  show W _ _ _ _ [(0, .agg #[.slice dca d.cls.length dcc, .int .i64 d.width, .int .i64 d.start, .slice dna d.next.length dnc, .slice dba d.acc.length dbc]), (1, .int .i64 s), (2, .int .i64 sym)] w
  refine W.seq ?_
  refine W.region ?_
  refine WL.op rfl (d_box rfl fun w1 u1 => ?_)
  have H1 : UpG w [] w1 [[blk w.heap.size #[.slice dca d.cls.length dcc, .int .i64 d.width, .int .i64 d.start, .slice dna d.next.length dnc, .slice dba d.acc.length dbc] 25]] := H0.new' u1
  refine WL.op rfl (d_assign rfl ?_)
  refine WL.done (X.then_code ?_)
  refine W.seq ?_
  refine W.region ?_
  refine WL.op rfl (d_loadAB [.slice dca d.cls.length dcc, .int .i64 d.width, .int .i64 d.start, .slice dna d.next.length dnc, .slice dba d.acc.length dbc] Try.underlying25 rfl sz25 rfl (H1.blk 0 rfl) rfl rfl ?_)
  refine WL.op rfl (d_move rfl ?_)
  refine WL.op rfl (d_move rfl ?_)
  refine WL.op rfl (t_buildSlice (T := (tyI .i64)) (xs := [sym]) (cs := #[.int .i64 sym]) rfl Try.underlying22 sz3 rfl rfl rfl rfl (by kernel_rfl) rfl rfl fun w2 u2 => ?_)
  have H2 : UpG w [] w2 [[blk w.heap.size #[.slice dca d.cls.length dcc, .int .i64 d.width, .int .i64 d.start, .slice dna d.next.length dnc, .slice dba d.acc.length dbc] 25], [rowT (tyI .i64) (.slice (some ⟨w1.heap.size, 0, none⟩) ([sym].length) ([sym].length)) 3 [sym]]] := H1.new' u2
  refine WL.op rfl (d_call ok25 rfl (Ret.calls (run_any d dca dna dba dcc dnc dbc s (some ⟨w1.heap.size, 0, none⟩) [sym] ([sym].length) w2 (rcd.at H2) (rnd.at H2) (rbd.at H2) (H2.rdT 1 rfl) ) fun _ w3 p1 => ?_))
  obtain ⟨rfl, u3⟩ := p1
  have H3 : UpG w [] w3 [[blk w.heap.size #[.slice dca d.cls.length dcc, .int .i64 d.width, .int .i64 d.start, .slice dna d.next.length dnc, .slice dba d.acc.length dbc] 25], [rowT (tyI .i64) (.slice (some ⟨w1.heap.size, 0, none⟩) ([sym].length) ([sym].length)) 3 [sym]]] := H2.call u3
  refine WL.op rfl (d_assign rfl ?_)
  refine WL.done (X.then_code ?_)
  refine W.ret (X.ret1 rfl rfl ?_)
  exact ⟨rfl, H3.noneL⟩

set_option maxRecDepth 20000 in
theorem accepts_any (d : DfaD) (dca : Option Addr) (dna : Option Addr) (dba : Option Addr) (dcc : Nat) (dnc : Nat) (dbc : Nat) (worda : Option Addr) (word : List Int) (wordc : Nat) (w : World) (rcd : RdT (tyI .i64) w (.slice dca d.cls.length dcc) d.cls) (rnd : RdT (tyI .i64) w (.slice dna d.next.length dnc) d.next) (rbd : RdT tyB w (.slice dba d.acc.length dbc) d.acc) (rword : RdT (tyI .i64) w (.slice worda word.length wordc) word) :
    Calls Try.prog 26 #[.agg #[.slice dca d.cls.length dcc, .int .i64 d.width, .int .i64 d.start, .slice dna d.next.length dnc, .slice dba d.acc.length dbc], .slice worda word.length wordc] w (Ret fun v w' => v = .bool (acceptsB d word) ∧ Upd w [] w' []) := by
  have le_rcd := rcd.le
  have le_rnd := rnd.le
  have le_rbd := rbd.le
  have le_rword := rword.le
  refine calls_of_W (args := [.agg #[.slice dca d.cls.length dcc, .int .i64 d.width, .int .i64 d.start, .slice dna d.next.length dnc, .slice dba d.acc.length dbc], .slice worda word.length wordc]) Try.func26 rfl rfl rfl ?_
  have H0 : UpG w [] w [] := UpG.nil w
  show W _ _ _ _ [(0, .agg #[.slice dca d.cls.length dcc, .int .i64 d.width, .int .i64 d.start, .slice dna d.next.length dnc, .slice dba d.acc.length dbc]), (1, .slice worda word.length wordc)] w
  refine W.seq ?_
  refine W.region ?_
  refine WL.op rfl (d_box rfl fun w1 u1 => ?_)
  have H1 : UpG w [] w1 [[blk w.heap.size #[.slice dca d.cls.length dcc, .int .i64 d.width, .int .i64 d.start, .slice dna d.next.length dnc, .slice dba d.acc.length dbc] 25]] := H0.new' u1
  refine WL.op rfl (d_assign rfl ?_)
  refine WL.done (X.then_code ?_)
  refine W.seq ?_
  refine W.region ?_
  refine WL.op rfl (d_loadAB [.slice dca d.cls.length dcc, .int .i64 d.width, .int .i64 d.start, .slice dna d.next.length dnc, .slice dba d.acc.length dbc] Try.underlying25 rfl sz25 rfl (H1.blk 0 rfl) rfl rfl ?_)
  refine WL.op rfl (d_fieldAddrB fld25_2 rfl rfl ?_)
  refine WL.op rfl (d_loadB Try.underlying3 rfl rfl (H1.blk 0 rfl) rfl ?_)
  refine WL.op rfl (d_move rfl ?_)
  refine WL.op rfl (d_call ok25 rfl (Ret.calls (run_any d dca dna dba dcc dnc dbc d.start worda word wordc w1 (rcd.at H1) (rnd.at H1) (rbd.at H1) (rword.at H1) ) fun _ w2 p1 => ?_))
  obtain ⟨rfl, u2⟩ := p1
  have H2 : UpG w [] w2 [[blk w.heap.size #[.slice dca d.cls.length dcc, .int .i64 d.width, .int .i64 d.start, .slice dna d.next.length dnc, .slice dba d.acc.length dbc] 25]] := H1.call u2
  refine WL.op rfl (d_assign rfl ?_)
  refine WL.done (X.then_code ?_)
  refine W.seq ?_
  have hlt := runF_lt d d.start word
  refine W.region ?_
  refine WL.op rfl (d_move rfl ?_)
  refine WL.op rfl (d_cmp (decide ((runF d d.start word) ≥ (0 : Int))) rfl rfl rfl ?_)
  refine WL.op rfl (d_move rfl ?_)
  refine WL.part 13 (p := (runF d d.start word) ≥ (0 : Int)) rfl (fun g53 => ?_) (fun g53 => ?_)
  · skip
    refine WL.opG rfl rfl rfl (d_fieldAddrB fld25_4 rfl rfl ?_)
    refine WL.opG rfl rfl rfl (d_loadB Try.underlying23 rfl rfl (H2.blk 0 rfl) rfl ?_)
    refine WL.opG rfl rfl rfl (d_move rfl ?_)
    refine WL.opG rfl rfl rfl (t_addr1 ((runF d d.start word).toNat) (T := tyB) rfl Try.underlying23 sz4 rfl rfl (rbd.at H2) (by omega) (by omega) ?_)
    refine WL.opG rfl rfl rfl (t_load1 ((runF d d.start word).toNat) false (T := tyB) rfl Try.underlying4 rfl rfl (rbd.at H2) (by omega) rfl ?_)
    refine WL.op rfl (d_pick rfl rfl ?_)
    refine WL.op rfl (d_assign rfl ?_)
    refine WL.done (X.then_code ?_)
    refine W.ret (X.ret1 rfl rfl ?_)
    exact ⟨(by first | rw [acceptsB_no (by omega)] | rw [acceptsB_yes (by omega)]), H2.noneL⟩
  · skip
    refine WL.opN rfl rfl rfl rfl ?_
    refine WL.opN rfl rfl rfl rfl ?_
    refine WL.opN rfl rfl rfl rfl ?_
    refine WL.opN rfl rfl rfl rfl ?_
    refine WL.opN rfl rfl rfl rfl ?_
    refine WL.op rfl (d_pick rfl rfl ?_)
    refine WL.op rfl (d_assign rfl ?_)
    refine WL.done (X.then_code ?_)
    refine W.ret (X.ret1 rfl rfl ?_)
    exact ⟨(by first | rw [acceptsB_no (by omega)] | rw [acceptsB_yes (by omega)]), H2.noneL⟩
end Go.Proofs.Ytoeockpkkmgieaa
