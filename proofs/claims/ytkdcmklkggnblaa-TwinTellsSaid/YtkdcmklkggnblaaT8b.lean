/- The walks of functions, printed by wip/tools/gw.py. -/
import Derived.Test.YtkdcmklkggnblaaF1
import Derived.Test.YtkdcmklkggnblaaSx7
import Derived.Test.YtkdcmklkggnblaaT7
import Derived.Test.YtkdcmklkggnblaaTwin0
import Derived.Test.YtkdcmklkggnblaaT8
namespace Go.Proofs.Ytkdcmklkggnblaa
open Go Go.Sx
set_option linter.unusedVariables false
set_option linter.unusedSimpArgs false
set_option maxRecDepth 20000 in
theorem refApart_any (aa : Option Addr) (a : List AnsP) (ac : Nat) (ba : Option Addr) (b : List AnsP) (bc : Nat) (w : World) (ra : RdT tyAnsP w (.slice aa a.length ac) a) (rb : RdT tyAnsP w (.slice ba b.length bc) b) (da : inAns.Rd w a) (db : inAns.Rd w b) :
    Calls Try.prog 42 #[.slice aa a.length ac, .slice ba b.length bc] w (Ret fun v w' => v = .int .i64 (apartL (adsOf a) (adsOf b) 0) ∧ Upd w [] w' []) := by
  have le_ra := ra.le
  have le_rb := rb.le
  refine calls_of_W (args := [.slice aa a.length ac, .slice ba b.length bc]) Try.func42 rfl rfl rfl ?_
  have H0 : UpG w [] w [] := UpG.nil w
  show W _ _ _ _ [(0, .slice aa a.length ac), (1, .slice ba b.length bc)] w
  refine W.seq ?_
  refine W.region ?_
  refine WL.op rfl (d_assign rfl ?_)
  refine WL.done (X.then_code ?_)
  refine W.seq ?_
  refine W.seq ?_
  refine W.region ?_
  refine WL.op rfl (d_assign rfl ?_)
  refine WL.done (X.then_code ?_)
  refine W.block ?_
  refine W.pick [5, 4, 0, 1] (Γ' := [(5, .int .i64 0), (4, .int .i64 0), (0, .slice aa a.length ac), (1, .slice ba b.length bc)]) rfl ?_
  refine W.loop (fun m Γ' w' => ∃ k : Nat, Γ' = [(5, .int .i64 ((k : Nat) : Int)), (4, .int .i64 0), (0, .slice aa a.length ac), (1, .slice ba b.length bc)] ∧ UpG w [] w' [] ∧ (k ≤ a.length ∧ k ≤ b.length) ∧ ((adsOf a).take k = (adsOf b).take k) ∧ m = a.length + b.length - k) (a.length + b.length - 0) ⟨0, rfl, H0, (by omega), (by simp), rfl⟩ ?_
  rintro m1 Γ1 w1 ⟨k, rfl, H1, hk, hs, rfl⟩
  refine W.seq ?_
  refine W.seq ?_
  refine W.region ?_
  refine WL.op rfl (d_move rfl ?_)
  refine WL.op rfl (d_move rfl ?_)
  refine WL.op rfl (d_lenS Try.underlying74 rfl ?_)
  refine WL.op rfl (d_cmp (decide (((k : Nat) : Int) < ((a.length : Nat) : Int))) rfl rfl rfl ?_)
  refine WL.op rfl (d_move rfl ?_)
  refine WL.part 10 (p := ((k : Nat) : Int) < ((a.length : Nat) : Int)) rfl (fun g37 => ?_) (fun g37 => ?_)
  · skip
    refine WL.opN rfl rfl rfl rfl ?_
    refine WL.opN rfl rfl rfl rfl ?_
    refine WL.opN rfl rfl rfl rfl ?_
    refine WL.opN rfl rfl rfl rfl ?_
    refine WL.op rfl (d_pick rfl rfl ?_)
    refine WL.done (X.then_code ?_)
    refine W.ift rfl ?_
    refine W.skip (X.then_code ?_)
    refine W.seq ?_
    refine W.block ?_
    refine W.seq ?_
    refine W.regionD mixed (by kernel_rfl) fun hok1 w2 k1 => ?_
    have H2 : UpG w [] w2 [] := H1.kept k1
    refine WD.take hok1 0 (.int .i64 ((k : Nat) : Int)) (fun _ => True) rfl rfl rfl rfl rfl trivial (.inl ⟨rfl, fun _ _ => d_move rfl ⟨rfl, rfl⟩⟩) ?_
    refine WD.take hok1 1 (.slice aa a.length ac) (fun _ => True) rfl rfl rfl rfl rfl trivial (.inl ⟨rfl, fun _ _ => d_move rfl ⟨rfl, rfl⟩⟩) ?_
    refine WD.take hok1 2 (.int .i64 ((a.length : Nat) : Int)) (fun _ => True) rfl rfl rfl rfl rfl trivial (.inl ⟨rfl, fun _ _ => d_lenS Try.underlying74 rfl ⟨rfl, rfl⟩⟩) ?_
    refine WD.take hok1 3 (.bool (decide (((k : Nat) : Int) ≥ ((a.length : Nat) : Int)))) (fun _ => True) rfl rfl rfl rfl rfl trivial (.inl ⟨rfl, fun _ _ => d_cmp (decide (((k : Nat) : Int) ≥ ((a.length : Nat) : Int))) rfl rfl rfl ⟨rfl, rfl⟩⟩) ?_
    refine WD.take hok1 4 (.bool (decide (((k : Nat) : Int) ≥ ((a.length : Nat) : Int)))) (fun _ => True) rfl rfl rfl rfl rfl trivial (.inl ⟨rfl, fun _ _ => d_move rfl ⟨rfl, rfl⟩⟩) ?_
    refine WD.part 22 (p := ((k : Nat) : Int) ≥ ((a.length : Nat) : Int)) rfl (fun g38 => ?_) (fun g38 => ?_)
    · skip
      refine WD.take hok1 5 undef (fun _ => True) rfl rfl rfl rfl rfl trivial (.inr ⟨rfl, rfl⟩) ?_
      refine WD.take hok1 6 undef (fun _ => True) rfl rfl rfl rfl rfl trivial (.inr ⟨rfl, rfl⟩) ?_
      refine WD.take hok1 7 undef (fun _ => True) rfl rfl rfl rfl rfl trivial (.inr ⟨rfl, rfl⟩) ?_
      refine WD.take hok1 8 undef (fun _ => True) rfl rfl rfl rfl rfl trivial (.inr ⟨rfl, rfl⟩) ?_
      refine WD.take hok1 9 (.bool true) (fun _ => True) rfl rfl rfl rfl rfl trivial (.inl ⟨rfl, fun _ _ => d_pick rfl rfl ⟨rfl, rfl⟩⟩) ?_
      refine WD.take hok1 10 (.bool true) (fun _ => True) rfl rfl rfl rfl rfl trivial (.inl ⟨rfl, fun _ _ => d_move rfl ⟨rfl, rfl⟩⟩) ?_
      refine WD.take hok1 11 undef (fun _ => True) rfl rfl rfl rfl rfl trivial (.inr ⟨rfl, rfl⟩) ?_
      refine WD.take hok1 12 undef (fun _ => True) rfl rfl rfl rfl rfl trivial (.inr ⟨rfl, rfl⟩) ?_
      refine WD.take hok1 13 undef (fun _ => True) rfl rfl rfl rfl rfl trivial (.inr ⟨rfl, rfl⟩) ?_
      refine WD.take hok1 14 undef (fun _ => True) rfl rfl rfl rfl rfl trivial (.inr ⟨rfl, rfl⟩) ?_
      refine WD.take hok1 15 undef (fun _ => True) rfl rfl rfl rfl rfl trivial (.inr ⟨rfl, rfl⟩) ?_
      refine WD.take hok1 16 undef (fun _ => True) rfl rfl rfl rfl rfl trivial (.inr ⟨rfl, rfl⟩) ?_
      refine WD.take hok1 17 undef (fun _ => True) rfl rfl rfl rfl rfl trivial (.inr ⟨rfl, rfl⟩) ?_
      refine WD.take hok1 18 undef (fun _ => True) rfl rfl rfl rfl rfl trivial (.inr ⟨rfl, rfl⟩) ?_
      refine WD.take hok1 19 undef (fun _ => True) rfl rfl rfl rfl rfl trivial (.inr ⟨rfl, rfl⟩) ?_
      refine WD.take hok1 20 undef (fun _ => True) rfl rfl rfl rfl rfl trivial (.inr ⟨rfl, rfl⟩) ?_
      refine WD.take hok1 21 (.bool true) (fun _ => True) rfl rfl rfl rfl rfl trivial (.inl ⟨rfl, fun _ _ => d_pick rfl rfl ⟨rfl, rfl⟩⟩) ?_
      refine WD.done hok1 rfl (X.then_code ?_)
      refine W.pick [39, 38, 37, 36, 35, 34, 33, 32, 31, 30, 29, 28, 27, 26, 25, 24, 23, 22, 21, 20, 19, 18, 15, 14, 13, 12, 11, 10, 9, 8, 7, 6, 5, 4, 0, 1] (Γ' := [(39, .bool true), (38, undef), (37, undef), (36, undef), (35, undef), (34, undef), (33, undef), (32, undef), (31, undef), (30, undef), (29, undef), (28, .bool true), (27, .bool true), (26, undef), (25, undef), (24, undef), (23, undef), (22, .bool true), (21, .bool (decide (((k : Nat) : Int) ≥ ((a.length : Nat) : Int)))), (20, .int .i64 ((a.length : Nat) : Int)), (19, .slice aa a.length ac), (18, .int .i64 ((k : Nat) : Int)), (15, .bool true), (14, undef), (13, undef), (12, undef), (11, undef), (10, .bool true), (9, .bool (decide (((k : Nat) : Int) < ((a.length : Nat) : Int)))), (8, .int .i64 ((a.length : Nat) : Int)), (7, .slice aa a.length ac), (6, .int .i64 ((k : Nat) : Int)), (5, .int .i64 ((k : Nat) : Int)), (4, .int .i64 0), (0, .slice aa a.length ac), (1, .slice ba b.length bc)]) rfl ?_
      refine W.ift rfl ?_
      refine W.seq ?_
      refine W.region ?_
      refine WL.op rfl (d_move rfl ?_)
      refine WL.op rfl (d_assign rfl ?_)
      refine WL.done (X.then_code ?_)
      refine W.pick [4, 40, 39, 38, 37, 36, 35, 34, 33, 32, 31, 30, 29, 28, 27, 26, 25, 24, 23, 22, 21, 20, 19, 18, 15, 14, 13, 12, 11, 10, 9, 8, 7, 6, 5, 0, 1] (Γ' := [(4, .int .i64 ((k : Nat) : Int)), (40, .int .i64 ((k : Nat) : Int)), (39, .bool true), (38, undef), (37, undef), (36, undef), (35, undef), (34, undef), (33, undef), (32, undef), (31, undef), (30, undef), (29, undef), (28, .bool true), (27, .bool true), (26, undef), (25, undef), (24, undef), (23, undef), (22, .bool true), (21, .bool (decide (((k : Nat) : Int) ≥ ((a.length : Nat) : Int)))), (20, .int .i64 ((a.length : Nat) : Int)), (19, .slice aa a.length ac), (18, .int .i64 ((k : Nat) : Int)), (15, .bool true), (14, undef), (13, undef), (12, undef), (11, undef), (10, .bool true), (9, .bool (decide (((k : Nat) : Int) < ((a.length : Nat) : Int)))), (8, .int .i64 ((a.length : Nat) : Int)), (7, .slice aa a.length ac), (6, .int .i64 ((k : Nat) : Int)), (5, .int .i64 ((k : Nat) : Int)), (0, .slice aa a.length ac), (1, .slice ba b.length bc)]) rfl ?_
      refine W.ret (X.block_ret (X.then_ret (X.then_ret (X.block_ret (X.then_ret (X.ret1 rfl rfl ?_))))))
      exact ⟨(by first | rw [apart_diff hs (by omega) (by omega) (by simpa using c38)] | rw [apart_end hs hk.1 hk.2 (by omega) (by omega)]), H2.noneL⟩
    · skip
      refine WD.take hok1 5 (.int .i64 ((k : Nat) : Int)) (fun _ => True) rfl rfl rfl rfl rfl trivial (.inl ⟨rfl, fun _ _ => d_move rfl ⟨rfl, rfl⟩⟩) ?_
      refine WD.take hok1 6 (.slice ba b.length bc) (fun _ => True) rfl rfl rfl rfl rfl trivial (.inl ⟨rfl, fun _ _ => d_move rfl ⟨rfl, rfl⟩⟩) ?_
      refine WD.take hok1 7 (.int .i64 ((b.length : Nat) : Int)) (fun _ => True) rfl rfl rfl rfl rfl trivial (.inl ⟨rfl, fun _ _ => d_lenS Try.underlying74 rfl ⟨rfl, rfl⟩⟩) ?_
      refine WD.take hok1 8 (.bool (decide (((k : Nat) : Int) ≥ ((b.length : Nat) : Int)))) (fun _ => True) rfl rfl rfl rfl rfl trivial (.inl ⟨rfl, fun _ _ => d_cmp (decide (((k : Nat) : Int) ≥ ((b.length : Nat) : Int))) rfl rfl rfl ⟨rfl, rfl⟩⟩) ?_
      refine WD.take hok1 9 (.bool (decide (((k : Nat) : Int) ≥ ((b.length : Nat) : Int)))) (fun _ => True) rfl rfl rfl rfl rfl trivial (.inl ⟨rfl, fun _ _ => d_pick rfl rfl ⟨rfl, rfl⟩⟩) ?_
      refine WD.take hok1 10 (.bool (decide (((k : Nat) : Int) ≥ ((b.length : Nat) : Int)))) (fun _ => True) rfl rfl rfl rfl rfl trivial (.inl ⟨rfl, fun _ _ => d_move rfl ⟨rfl, rfl⟩⟩) ?_
      refine WD.part 28 (p := ((k : Nat) : Int) ≥ ((b.length : Nat) : Int)) rfl (fun g38x => ?_) (fun g38x => ?_)
      · skip
        refine WD.take hok1 11 undef (fun _ => True) rfl rfl rfl rfl rfl trivial (.inr ⟨rfl, rfl⟩) ?_
        refine WD.take hok1 12 undef (fun _ => True) rfl rfl rfl rfl rfl trivial (.inr ⟨rfl, rfl⟩) ?_
        refine WD.take hok1 13 undef (fun _ => True) rfl rfl rfl rfl rfl trivial (.inr ⟨rfl, rfl⟩) ?_
        refine WD.take hok1 14 undef (fun _ => True) rfl rfl rfl rfl rfl trivial (.inr ⟨rfl, rfl⟩) ?_
        refine WD.take hok1 15 undef (fun _ => True) rfl rfl rfl rfl rfl trivial (.inr ⟨rfl, rfl⟩) ?_
        refine WD.take hok1 16 undef (fun _ => True) rfl rfl rfl rfl rfl trivial (.inr ⟨rfl, rfl⟩) ?_
        refine WD.take hok1 17 undef (fun _ => True) rfl rfl rfl rfl rfl trivial (.inr ⟨rfl, rfl⟩) ?_
        refine WD.take hok1 18 undef (fun _ => True) rfl rfl rfl rfl rfl trivial (.inr ⟨rfl, rfl⟩) ?_
        refine WD.take hok1 19 undef (fun _ => True) rfl rfl rfl rfl rfl trivial (.inr ⟨rfl, rfl⟩) ?_
        refine WD.take hok1 20 undef (fun _ => True) rfl rfl rfl rfl rfl trivial (.inr ⟨rfl, rfl⟩) ?_
        refine WD.take hok1 21 (.bool true) (fun _ => True) rfl rfl rfl rfl rfl trivial (.inl ⟨rfl, fun _ _ => d_pick rfl rfl ⟨rfl, rfl⟩⟩) ?_
        refine WD.done hok1 rfl (X.then_code ?_)
        refine W.pick [39, 38, 37, 36, 35, 34, 33, 32, 31, 30, 29, 28, 27, 26, 25, 24, 23, 22, 21, 20, 19, 18, 15, 14, 13, 12, 11, 10, 9, 8, 7, 6, 5, 4, 0, 1] (Γ' := [(39, .bool true), (38, undef), (37, undef), (36, undef), (35, undef), (34, undef), (33, undef), (32, undef), (31, undef), (30, undef), (29, undef), (28, .bool true), (27, .bool (decide (((k : Nat) : Int) ≥ ((b.length : Nat) : Int)))), (26, .bool (decide (((k : Nat) : Int) ≥ ((b.length : Nat) : Int)))), (25, .int .i64 ((b.length : Nat) : Int)), (24, .slice ba b.length bc), (23, .int .i64 ((k : Nat) : Int)), (22, .bool false), (21, .bool (decide (((k : Nat) : Int) ≥ ((a.length : Nat) : Int)))), (20, .int .i64 ((a.length : Nat) : Int)), (19, .slice aa a.length ac), (18, .int .i64 ((k : Nat) : Int)), (15, .bool true), (14, undef), (13, undef), (12, undef), (11, undef), (10, .bool true), (9, .bool (decide (((k : Nat) : Int) < ((a.length : Nat) : Int)))), (8, .int .i64 ((a.length : Nat) : Int)), (7, .slice aa a.length ac), (6, .int .i64 ((k : Nat) : Int)), (5, .int .i64 ((k : Nat) : Int)), (4, .int .i64 0), (0, .slice aa a.length ac), (1, .slice ba b.length bc)]) rfl ?_
        refine W.ift rfl ?_
        refine W.seq ?_
        refine W.region ?_
        refine WL.op rfl (d_move rfl ?_)
        refine WL.op rfl (d_assign rfl ?_)
        refine WL.done (X.then_code ?_)
        refine W.pick [4, 40, 39, 38, 37, 36, 35, 34, 33, 32, 31, 30, 29, 28, 27, 26, 25, 24, 23, 22, 21, 20, 19, 18, 15, 14, 13, 12, 11, 10, 9, 8, 7, 6, 5, 0, 1] (Γ' := [(4, .int .i64 ((k : Nat) : Int)), (40, .int .i64 ((k : Nat) : Int)), (39, .bool true), (38, undef), (37, undef), (36, undef), (35, undef), (34, undef), (33, undef), (32, undef), (31, undef), (30, undef), (29, undef), (28, .bool true), (27, .bool (decide (((k : Nat) : Int) ≥ ((b.length : Nat) : Int)))), (26, .bool (decide (((k : Nat) : Int) ≥ ((b.length : Nat) : Int)))), (25, .int .i64 ((b.length : Nat) : Int)), (24, .slice ba b.length bc), (23, .int .i64 ((k : Nat) : Int)), (22, .bool false), (21, .bool (decide (((k : Nat) : Int) ≥ ((a.length : Nat) : Int)))), (20, .int .i64 ((a.length : Nat) : Int)), (19, .slice aa a.length ac), (18, .int .i64 ((k : Nat) : Int)), (15, .bool true), (14, undef), (13, undef), (12, undef), (11, undef), (10, .bool true), (9, .bool (decide (((k : Nat) : Int) < ((a.length : Nat) : Int)))), (8, .int .i64 ((a.length : Nat) : Int)), (7, .slice aa a.length ac), (6, .int .i64 ((k : Nat) : Int)), (5, .int .i64 ((k : Nat) : Int)), (0, .slice aa a.length ac), (1, .slice ba b.length bc)]) rfl ?_
        refine W.ret (X.block_ret (X.then_ret (X.then_ret (X.block_ret (X.then_ret (X.ret1 rfl rfl ?_))))))
        exact ⟨(by first | rw [apart_diff hs (by omega) (by omega) (by simpa using c38)] | rw [apart_end hs hk.1 hk.2 (by omega) (by omega)]), H2.noneL⟩
      · skip
        refine WD.take hok1 11 (.slice aa a.length ac) (fun _ => True) rfl rfl rfl rfl rfl trivial (.inl ⟨rfl, fun _ _ => d_move rfl ⟨rfl, rfl⟩⟩) ?_
        refine WD.take hok1 12 (.int .i64 ((k : Nat) : Int)) (fun _ => True) rfl rfl rfl rfl rfl trivial (.inl ⟨rfl, fun _ _ => d_move rfl ⟨rfl, rfl⟩⟩) ?_
        refine WD.take hok1 13 (elemPtr (.slice aa a.length ac) (k * 4)) (fun w' => RdT tyAnsP w' (.slice aa a.length ac) a) rfl rfl rfl rfl rfl (ra.at H2) (.inl ⟨rfl, fun _ hC => t_addrN k (T := tyAnsP) rfl Try.underlying74 sz102 rfl rfl hC rfl (by omega) ⟨rfl, rfl⟩⟩) ?_
        refine WD.take hok1 14 (.agg #[.int .i64 ((a.getD k ansP0).d.kind), .int .i64 ((a.getD k ansP0).d.err), .slice ((a.getD k ansP0).a) (((a.getD k ansP0).d.nums).length) ((a.getD k ansP0).c), .string ((a.getD k ansP0).d.text)]) (fun w' => RdT tyAnsP w' (.slice aa a.length ac) a) rfl rfl rfl rfl rfl (ra.at H2) (.inl ⟨rfl, fun _ hC => t_loadN k ansP0 (T := tyAnsP) (us := [.int .i64 ((a.getD k ansP0).d.kind), .int .i64 ((a.getD k ansP0).d.err), .slice ((a.getD k ansP0).a) (((a.getD k ansP0).d.nums).length) ((a.getD k ansP0).c), .string ((a.getD k ansP0).d.text)]) rfl Try.underlying102 rfl sz102 rfl hC (by omega) rfl ⟨rfl, rfl⟩⟩) ?_
        refine WD.take hok1 15 (.slice ba b.length bc) (fun _ => True) rfl rfl rfl rfl rfl trivial (.inl ⟨rfl, fun _ _ => d_move rfl ⟨rfl, rfl⟩⟩) ?_
        refine WD.take hok1 16 (.int .i64 ((k : Nat) : Int)) (fun _ => True) rfl rfl rfl rfl rfl trivial (.inl ⟨rfl, fun _ _ => d_move rfl ⟨rfl, rfl⟩⟩) ?_
        refine WD.take hok1 17 (elemPtr (.slice ba b.length bc) (k * 4)) (fun w' => RdT tyAnsP w' (.slice ba b.length bc) b) rfl rfl rfl rfl rfl (rb.at H2) (.inl ⟨rfl, fun _ hC => t_addrN k (T := tyAnsP) rfl Try.underlying74 sz102 rfl rfl hC rfl (by omega) ⟨rfl, rfl⟩⟩) ?_
        refine WD.take hok1 18 (.agg #[.int .i64 ((b.getD k ansP0).d.kind), .int .i64 ((b.getD k ansP0).d.err), .slice ((b.getD k ansP0).a) (((b.getD k ansP0).d.nums).length) ((b.getD k ansP0).c), .string ((b.getD k ansP0).d.text)]) (fun w' => RdT tyAnsP w' (.slice ba b.length bc) b) rfl rfl rfl rfl rfl (rb.at H2) (.inl ⟨rfl, fun _ hC => t_loadN k ansP0 (T := tyAnsP) (us := [.int .i64 ((b.getD k ansP0).d.kind), .int .i64 ((b.getD k ansP0).d.err), .slice ((b.getD k ansP0).a) (((b.getD k ansP0).d.nums).length) ((b.getD k ansP0).c), .string ((b.getD k ansP0).d.text)]) rfl Try.underlying102 rfl sz102 rfl hC (by omega) rfl ⟨rfl, rfl⟩⟩) ?_
        refine WD.loud hok1 19 rfl (⟨_, [], rfl, rfl, rfl, rfl, rfl, rfl, d_call ok56 rfl (Ret.calls (refAnsSame_any ((a.getD k ansP0).d) ((a.getD k ansP0).a) ((a.getD k ansP0).c) ((b.getD k ansP0).d) ((b.getD k ansP0).a) ((b.getD k ansP0).c) w2 (show RdT (tyI .i64) w2 (.slice ((a.getD k ansP0).a) (((a.getD k ansP0).d.nums).length) ((a.getD k ansP0).c)) ((a.getD k ansP0).d.nums) from (da.at H2).get ansP0 k (by omega)) (show RdT (tyI .i64) w2 (.slice ((b.getD k ansP0).a) (((b.getD k ansP0).d.nums).length) ((b.getD k ansP0).c)) ((b.getD k ansP0).d.nums) from (db.at H2).get ansP0 k (by omega)) ) fun _ w3 p1 => ?_)⟩)
        obtain ⟨rfl, u1⟩ := p1
        have H3 : UpG w [] w3 [] := H2.call u1
        refine ⟨trivial, ?_⟩
        refine WD.take hok1 20 (.bool (!(decide (((a.getD k ansP0).d) = ((b.getD k ansP0).d))))) (fun _ => True) rfl rfl rfl rfl rfl trivial (.inl ⟨rfl, fun _ _ => d_notB rfl ⟨rfl, rfl⟩⟩) ?_
        refine WD.take hok1 21 (.bool (!(decide (((a.getD k ansP0).d) = ((b.getD k ansP0).d))))) (fun _ => True) rfl rfl rfl rfl rfl trivial (.inl ⟨rfl, fun _ _ => d_pick rfl rfl ⟨rfl, rfl⟩⟩) ?_
        refine WD.done hok1 rfl (X.then_code ?_)
        refine W.pick [39, 38, 37, 36, 35, 34, 33, 32, 31, 30, 29, 28, 27, 26, 25, 24, 23, 22, 21, 20, 19, 18, 15, 14, 13, 12, 11, 10, 9, 8, 7, 6, 5, 4, 0, 1] (Γ' := [(39, .bool (!(decide (((a.getD k ansP0).d) = ((b.getD k ansP0).d))))), (38, .bool (!(decide (((a.getD k ansP0).d) = ((b.getD k ansP0).d))))), (37, .bool (decide (((a.getD k ansP0).d) = ((b.getD k ansP0).d)))), (36, .agg #[.int .i64 ((b.getD k ansP0).d.kind), .int .i64 ((b.getD k ansP0).d.err), .slice ((b.getD k ansP0).a) (((b.getD k ansP0).d.nums).length) ((b.getD k ansP0).c), .string ((b.getD k ansP0).d.text)]), (35, elemPtr (.slice ba b.length bc) (k * 4)), (34, .int .i64 ((k : Nat) : Int)), (33, .slice ba b.length bc), (32, .agg #[.int .i64 ((a.getD k ansP0).d.kind), .int .i64 ((a.getD k ansP0).d.err), .slice ((a.getD k ansP0).a) (((a.getD k ansP0).d.nums).length) ((a.getD k ansP0).c), .string ((a.getD k ansP0).d.text)]), (31, elemPtr (.slice aa a.length ac) (k * 4)), (30, .int .i64 ((k : Nat) : Int)), (29, .slice aa a.length ac), (28, .bool false), (27, .bool (decide (((k : Nat) : Int) ≥ ((b.length : Nat) : Int)))), (26, .bool (decide (((k : Nat) : Int) ≥ ((b.length : Nat) : Int)))), (25, .int .i64 ((b.length : Nat) : Int)), (24, .slice ba b.length bc), (23, .int .i64 ((k : Nat) : Int)), (22, .bool false), (21, .bool (decide (((k : Nat) : Int) ≥ ((a.length : Nat) : Int)))), (20, .int .i64 ((a.length : Nat) : Int)), (19, .slice aa a.length ac), (18, .int .i64 ((k : Nat) : Int)), (15, .bool true), (14, undef), (13, undef), (12, undef), (11, undef), (10, .bool true), (9, .bool (decide (((k : Nat) : Int) < ((a.length : Nat) : Int)))), (8, .int .i64 ((a.length : Nat) : Int)), (7, .slice aa a.length ac), (6, .int .i64 ((k : Nat) : Int)), (5, .int .i64 ((k : Nat) : Int)), (4, .int .i64 0), (0, .slice aa a.length ac), (1, .slice ba b.length bc)]) rfl ?_
        refine W.iteB (b := !(decide (((a.getD k ansP0).d) = ((b.getD k ansP0).d)))) rfl (fun c38 => ?_) (fun c38 => ?_)
        · skip
          refine W.seq ?_
          refine W.region ?_
          refine WL.op rfl (d_move rfl ?_)
          refine WL.op rfl (d_assign rfl ?_)
          refine WL.done (X.then_code ?_)
          refine W.pick [4, 40, 39, 38, 37, 36, 35, 34, 33, 32, 31, 30, 29, 28, 27, 26, 25, 24, 23, 22, 21, 20, 19, 18, 15, 14, 13, 12, 11, 10, 9, 8, 7, 6, 5, 0, 1] (Γ' := [(4, .int .i64 ((k : Nat) : Int)), (40, .int .i64 ((k : Nat) : Int)), (39, .bool (!(decide (((a.getD k ansP0).d) = ((b.getD k ansP0).d))))), (38, .bool (!(decide (((a.getD k ansP0).d) = ((b.getD k ansP0).d))))), (37, .bool (decide (((a.getD k ansP0).d) = ((b.getD k ansP0).d)))), (36, .agg #[.int .i64 ((b.getD k ansP0).d.kind), .int .i64 ((b.getD k ansP0).d.err), .slice ((b.getD k ansP0).a) (((b.getD k ansP0).d.nums).length) ((b.getD k ansP0).c), .string ((b.getD k ansP0).d.text)]), (35, elemPtr (.slice ba b.length bc) (k * 4)), (34, .int .i64 ((k : Nat) : Int)), (33, .slice ba b.length bc), (32, .agg #[.int .i64 ((a.getD k ansP0).d.kind), .int .i64 ((a.getD k ansP0).d.err), .slice ((a.getD k ansP0).a) (((a.getD k ansP0).d.nums).length) ((a.getD k ansP0).c), .string ((a.getD k ansP0).d.text)]), (31, elemPtr (.slice aa a.length ac) (k * 4)), (30, .int .i64 ((k : Nat) : Int)), (29, .slice aa a.length ac), (28, .bool false), (27, .bool (decide (((k : Nat) : Int) ≥ ((b.length : Nat) : Int)))), (26, .bool (decide (((k : Nat) : Int) ≥ ((b.length : Nat) : Int)))), (25, .int .i64 ((b.length : Nat) : Int)), (24, .slice ba b.length bc), (23, .int .i64 ((k : Nat) : Int)), (22, .bool false), (21, .bool (decide (((k : Nat) : Int) ≥ ((a.length : Nat) : Int)))), (20, .int .i64 ((a.length : Nat) : Int)), (19, .slice aa a.length ac), (18, .int .i64 ((k : Nat) : Int)), (15, .bool true), (14, undef), (13, undef), (12, undef), (11, undef), (10, .bool true), (9, .bool (decide (((k : Nat) : Int) < ((a.length : Nat) : Int)))), (8, .int .i64 ((a.length : Nat) : Int)), (7, .slice aa a.length ac), (6, .int .i64 ((k : Nat) : Int)), (5, .int .i64 ((k : Nat) : Int)), (0, .slice aa a.length ac), (1, .slice ba b.length bc)]) rfl ?_
          refine W.ret (X.block_ret (X.then_ret (X.then_ret (X.block_ret (X.then_ret (X.ret1 rfl rfl ?_))))))
          exact ⟨(by first | rw [apart_diff hs (by omega) (by omega) (by simpa using c38)] | rw [apart_end hs hk.1 hk.2 (by omega) (by omega)]), H3.noneL⟩
        · skip
          refine W.skip (X.block_normal (X.then_code ?_))
          refine W.pick [39, 38, 37, 36, 35, 34, 33, 32, 31, 30, 29, 28, 27, 26, 25, 24, 23, 22, 21, 20, 19, 18, 15, 14, 13, 12, 11, 10, 9, 8, 7, 6, 5, 4, 0, 1] (Γ' := [(39, .bool (!(decide (((a.getD k ansP0).d) = ((b.getD k ansP0).d))))), (38, .bool (!(decide (((a.getD k ansP0).d) = ((b.getD k ansP0).d))))), (37, .bool (decide (((a.getD k ansP0).d) = ((b.getD k ansP0).d)))), (36, .agg #[.int .i64 ((b.getD k ansP0).d.kind), .int .i64 ((b.getD k ansP0).d.err), .slice ((b.getD k ansP0).a) (((b.getD k ansP0).d.nums).length) ((b.getD k ansP0).c), .string ((b.getD k ansP0).d.text)]), (35, elemPtr (.slice ba b.length bc) (k * 4)), (34, .int .i64 ((k : Nat) : Int)), (33, .slice ba b.length bc), (32, .agg #[.int .i64 ((a.getD k ansP0).d.kind), .int .i64 ((a.getD k ansP0).d.err), .slice ((a.getD k ansP0).a) (((a.getD k ansP0).d.nums).length) ((a.getD k ansP0).c), .string ((a.getD k ansP0).d.text)]), (31, elemPtr (.slice aa a.length ac) (k * 4)), (30, .int .i64 ((k : Nat) : Int)), (29, .slice aa a.length ac), (28, .bool false), (27, .bool (decide (((k : Nat) : Int) ≥ ((b.length : Nat) : Int)))), (26, .bool (decide (((k : Nat) : Int) ≥ ((b.length : Nat) : Int)))), (25, .int .i64 ((b.length : Nat) : Int)), (24, .slice ba b.length bc), (23, .int .i64 ((k : Nat) : Int)), (22, .bool false), (21, .bool (decide (((k : Nat) : Int) ≥ ((a.length : Nat) : Int)))), (20, .int .i64 ((a.length : Nat) : Int)), (19, .slice aa a.length ac), (18, .int .i64 ((k : Nat) : Int)), (15, .bool true), (14, undef), (13, undef), (12, undef), (11, undef), (10, .bool true), (9, .bool (decide (((k : Nat) : Int) < ((a.length : Nat) : Int)))), (8, .int .i64 ((a.length : Nat) : Int)), (7, .slice aa a.length ac), (6, .int .i64 ((k : Nat) : Int)), (5, .int .i64 ((k : Nat) : Int)), (4, .int .i64 0), (0, .slice aa a.length ac), (1, .slice ba b.length bc)]) rfl ?_
          refine W.region ?_
          refine WL.op rfl (d_move rfl ?_)
          refine WL.op rfl (d_add rfl rfl (by omega) (by omega) ?_)
          refine WL.op rfl (d_assign rfl ?_)
          refine WL.done ?_
          exact X.next [5, 4, 0, 1] (Γ' := [(5, .int .i64 (((k + 1) : Nat) : Int)), (4, .int .i64 0), (0, .slice aa a.length ac), (1, .slice ba b.length bc)]) rfl (a.length + b.length - (k + 1)) (by omega) ⟨k + 1, rfl, H3, (by omega), (by exact take_sameA hs (by omega) (by omega) (by simpa using c38)), rfl⟩
  · skip
    refine WL.opG rfl rfl rfl (d_move rfl ?_)
    refine WL.opG rfl rfl rfl (d_move rfl ?_)
    refine WL.opG rfl rfl rfl (d_lenS Try.underlying74 rfl ?_)
    refine WL.opG rfl rfl rfl (d_cmp (decide (((k : Nat) : Int) < ((b.length : Nat) : Int))) rfl rfl rfl ?_)
    refine WL.op rfl (d_pick rfl rfl ?_)
    refine WL.done (X.then_code ?_)
    refine W.ite (p := ((k : Nat) : Int) < ((b.length : Nat) : Int)) rfl (fun c37 => ?_) (fun c37 => ?_)
    · skip
      refine W.skip (X.then_code ?_)
      refine W.seq ?_
      refine W.block ?_
      refine W.seq ?_
      refine W.regionD mixed (by kernel_rfl) fun hok2 w4 k2 => ?_
      have H4 : UpG w [] w4 [] := H1.kept k2
      refine WD.take hok2 0 (.int .i64 ((k : Nat) : Int)) (fun _ => True) rfl rfl rfl rfl rfl trivial (.inl ⟨rfl, fun _ _ => d_move rfl ⟨rfl, rfl⟩⟩) ?_
      refine WD.take hok2 1 (.slice aa a.length ac) (fun _ => True) rfl rfl rfl rfl rfl trivial (.inl ⟨rfl, fun _ _ => d_move rfl ⟨rfl, rfl⟩⟩) ?_
      refine WD.take hok2 2 (.int .i64 ((a.length : Nat) : Int)) (fun _ => True) rfl rfl rfl rfl rfl trivial (.inl ⟨rfl, fun _ _ => d_lenS Try.underlying74 rfl ⟨rfl, rfl⟩⟩) ?_
      refine WD.take hok2 3 (.bool (decide (((k : Nat) : Int) ≥ ((a.length : Nat) : Int)))) (fun _ => True) rfl rfl rfl rfl rfl trivial (.inl ⟨rfl, fun _ _ => d_cmp (decide (((k : Nat) : Int) ≥ ((a.length : Nat) : Int))) rfl rfl rfl ⟨rfl, rfl⟩⟩) ?_
      refine WD.take hok2 4 (.bool (decide (((k : Nat) : Int) ≥ ((a.length : Nat) : Int)))) (fun _ => True) rfl rfl rfl rfl rfl trivial (.inl ⟨rfl, fun _ _ => d_move rfl ⟨rfl, rfl⟩⟩) ?_
      refine WD.part 22 (p := ((k : Nat) : Int) ≥ ((a.length : Nat) : Int)) rfl (fun g38 => ?_) (fun g38 => ?_)
      · skip
        refine WD.take hok2 5 undef (fun _ => True) rfl rfl rfl rfl rfl trivial (.inr ⟨rfl, rfl⟩) ?_
        refine WD.take hok2 6 undef (fun _ => True) rfl rfl rfl rfl rfl trivial (.inr ⟨rfl, rfl⟩) ?_
        refine WD.take hok2 7 undef (fun _ => True) rfl rfl rfl rfl rfl trivial (.inr ⟨rfl, rfl⟩) ?_
        refine WD.take hok2 8 undef (fun _ => True) rfl rfl rfl rfl rfl trivial (.inr ⟨rfl, rfl⟩) ?_
        refine WD.take hok2 9 (.bool true) (fun _ => True) rfl rfl rfl rfl rfl trivial (.inl ⟨rfl, fun _ _ => d_pick rfl rfl ⟨rfl, rfl⟩⟩) ?_
        refine WD.take hok2 10 (.bool true) (fun _ => True) rfl rfl rfl rfl rfl trivial (.inl ⟨rfl, fun _ _ => d_move rfl ⟨rfl, rfl⟩⟩) ?_
        refine WD.take hok2 11 undef (fun _ => True) rfl rfl rfl rfl rfl trivial (.inr ⟨rfl, rfl⟩) ?_
        refine WD.take hok2 12 undef (fun _ => True) rfl rfl rfl rfl rfl trivial (.inr ⟨rfl, rfl⟩) ?_
        refine WD.take hok2 13 undef (fun _ => True) rfl rfl rfl rfl rfl trivial (.inr ⟨rfl, rfl⟩) ?_
        refine WD.take hok2 14 undef (fun _ => True) rfl rfl rfl rfl rfl trivial (.inr ⟨rfl, rfl⟩) ?_
        refine WD.take hok2 15 undef (fun _ => True) rfl rfl rfl rfl rfl trivial (.inr ⟨rfl, rfl⟩) ?_
        refine WD.take hok2 16 undef (fun _ => True) rfl rfl rfl rfl rfl trivial (.inr ⟨rfl, rfl⟩) ?_
        refine WD.take hok2 17 undef (fun _ => True) rfl rfl rfl rfl rfl trivial (.inr ⟨rfl, rfl⟩) ?_
        refine WD.take hok2 18 undef (fun _ => True) rfl rfl rfl rfl rfl trivial (.inr ⟨rfl, rfl⟩) ?_
        refine WD.take hok2 19 undef (fun _ => True) rfl rfl rfl rfl rfl trivial (.inr ⟨rfl, rfl⟩) ?_
        refine WD.take hok2 20 undef (fun _ => True) rfl rfl rfl rfl rfl trivial (.inr ⟨rfl, rfl⟩) ?_
        refine WD.take hok2 21 (.bool true) (fun _ => True) rfl rfl rfl rfl rfl trivial (.inl ⟨rfl, fun _ _ => d_pick rfl rfl ⟨rfl, rfl⟩⟩) ?_
        refine WD.done hok2 rfl (X.then_code ?_)
        refine W.pick [39, 38, 37, 36, 35, 34, 33, 32, 31, 30, 29, 28, 27, 26, 25, 24, 23, 22, 21, 20, 19, 18, 15, 14, 13, 12, 11, 10, 9, 8, 7, 6, 5, 4, 0, 1] (Γ' := [(39, .bool true), (38, undef), (37, undef), (36, undef), (35, undef), (34, undef), (33, undef), (32, undef), (31, undef), (30, undef), (29, undef), (28, .bool true), (27, .bool true), (26, undef), (25, undef), (24, undef), (23, undef), (22, .bool true), (21, .bool (decide (((k : Nat) : Int) ≥ ((a.length : Nat) : Int)))), (20, .int .i64 ((a.length : Nat) : Int)), (19, .slice aa a.length ac), (18, .int .i64 ((k : Nat) : Int)), (15, .bool (decide (((k : Nat) : Int) < ((b.length : Nat) : Int)))), (14, .bool (decide (((k : Nat) : Int) < ((b.length : Nat) : Int)))), (13, .int .i64 ((b.length : Nat) : Int)), (12, .slice ba b.length bc), (11, .int .i64 ((k : Nat) : Int)), (10, .bool false), (9, .bool (decide (((k : Nat) : Int) < ((a.length : Nat) : Int)))), (8, .int .i64 ((a.length : Nat) : Int)), (7, .slice aa a.length ac), (6, .int .i64 ((k : Nat) : Int)), (5, .int .i64 ((k : Nat) : Int)), (4, .int .i64 0), (0, .slice aa a.length ac), (1, .slice ba b.length bc)]) rfl ?_
        refine W.ift rfl ?_
        refine W.seq ?_
        refine W.region ?_
        refine WL.op rfl (d_move rfl ?_)
        refine WL.op rfl (d_assign rfl ?_)
        refine WL.done (X.then_code ?_)
        refine W.pick [4, 40, 39, 38, 37, 36, 35, 34, 33, 32, 31, 30, 29, 28, 27, 26, 25, 24, 23, 22, 21, 20, 19, 18, 15, 14, 13, 12, 11, 10, 9, 8, 7, 6, 5, 0, 1] (Γ' := [(4, .int .i64 ((k : Nat) : Int)), (40, .int .i64 ((k : Nat) : Int)), (39, .bool true), (38, undef), (37, undef), (36, undef), (35, undef), (34, undef), (33, undef), (32, undef), (31, undef), (30, undef), (29, undef), (28, .bool true), (27, .bool true), (26, undef), (25, undef), (24, undef), (23, undef), (22, .bool true), (21, .bool (decide (((k : Nat) : Int) ≥ ((a.length : Nat) : Int)))), (20, .int .i64 ((a.length : Nat) : Int)), (19, .slice aa a.length ac), (18, .int .i64 ((k : Nat) : Int)), (15, .bool (decide (((k : Nat) : Int) < ((b.length : Nat) : Int)))), (14, .bool (decide (((k : Nat) : Int) < ((b.length : Nat) : Int)))), (13, .int .i64 ((b.length : Nat) : Int)), (12, .slice ba b.length bc), (11, .int .i64 ((k : Nat) : Int)), (10, .bool false), (9, .bool (decide (((k : Nat) : Int) < ((a.length : Nat) : Int)))), (8, .int .i64 ((a.length : Nat) : Int)), (7, .slice aa a.length ac), (6, .int .i64 ((k : Nat) : Int)), (5, .int .i64 ((k : Nat) : Int)), (0, .slice aa a.length ac), (1, .slice ba b.length bc)]) rfl ?_
        refine W.ret (X.block_ret (X.then_ret (X.then_ret (X.block_ret (X.then_ret (X.ret1 rfl rfl ?_))))))
        exact ⟨(by first | rw [apart_diff hs (by omega) (by omega) (by simpa using c38)] | rw [apart_end hs hk.1 hk.2 (by omega) (by omega)]), H4.noneL⟩
      · skip
        refine WD.take hok2 5 (.int .i64 ((k : Nat) : Int)) (fun _ => True) rfl rfl rfl rfl rfl trivial (.inl ⟨rfl, fun _ _ => d_move rfl ⟨rfl, rfl⟩⟩) ?_
        refine WD.take hok2 6 (.slice ba b.length bc) (fun _ => True) rfl rfl rfl rfl rfl trivial (.inl ⟨rfl, fun _ _ => d_move rfl ⟨rfl, rfl⟩⟩) ?_
        refine WD.take hok2 7 (.int .i64 ((b.length : Nat) : Int)) (fun _ => True) rfl rfl rfl rfl rfl trivial (.inl ⟨rfl, fun _ _ => d_lenS Try.underlying74 rfl ⟨rfl, rfl⟩⟩) ?_
        refine WD.take hok2 8 (.bool (decide (((k : Nat) : Int) ≥ ((b.length : Nat) : Int)))) (fun _ => True) rfl rfl rfl rfl rfl trivial (.inl ⟨rfl, fun _ _ => d_cmp (decide (((k : Nat) : Int) ≥ ((b.length : Nat) : Int))) rfl rfl rfl ⟨rfl, rfl⟩⟩) ?_
        refine WD.take hok2 9 (.bool (decide (((k : Nat) : Int) ≥ ((b.length : Nat) : Int)))) (fun _ => True) rfl rfl rfl rfl rfl trivial (.inl ⟨rfl, fun _ _ => d_pick rfl rfl ⟨rfl, rfl⟩⟩) ?_
        refine WD.take hok2 10 (.bool (decide (((k : Nat) : Int) ≥ ((b.length : Nat) : Int)))) (fun _ => True) rfl rfl rfl rfl rfl trivial (.inl ⟨rfl, fun _ _ => d_move rfl ⟨rfl, rfl⟩⟩) ?_
        refine WD.part 28 (p := ((k : Nat) : Int) ≥ ((b.length : Nat) : Int)) rfl (fun g38x => ?_) (fun g38x => ?_)
        · skip
          refine WD.take hok2 11 undef (fun _ => True) rfl rfl rfl rfl rfl trivial (.inr ⟨rfl, rfl⟩) ?_
          refine WD.take hok2 12 undef (fun _ => True) rfl rfl rfl rfl rfl trivial (.inr ⟨rfl, rfl⟩) ?_
          refine WD.take hok2 13 undef (fun _ => True) rfl rfl rfl rfl rfl trivial (.inr ⟨rfl, rfl⟩) ?_
          refine WD.take hok2 14 undef (fun _ => True) rfl rfl rfl rfl rfl trivial (.inr ⟨rfl, rfl⟩) ?_
          refine WD.take hok2 15 undef (fun _ => True) rfl rfl rfl rfl rfl trivial (.inr ⟨rfl, rfl⟩) ?_
          refine WD.take hok2 16 undef (fun _ => True) rfl rfl rfl rfl rfl trivial (.inr ⟨rfl, rfl⟩) ?_
          refine WD.take hok2 17 undef (fun _ => True) rfl rfl rfl rfl rfl trivial (.inr ⟨rfl, rfl⟩) ?_
          refine WD.take hok2 18 undef (fun _ => True) rfl rfl rfl rfl rfl trivial (.inr ⟨rfl, rfl⟩) ?_
          refine WD.take hok2 19 undef (fun _ => True) rfl rfl rfl rfl rfl trivial (.inr ⟨rfl, rfl⟩) ?_
          refine WD.take hok2 20 undef (fun _ => True) rfl rfl rfl rfl rfl trivial (.inr ⟨rfl, rfl⟩) ?_
          refine WD.take hok2 21 (.bool true) (fun _ => True) rfl rfl rfl rfl rfl trivial (.inl ⟨rfl, fun _ _ => d_pick rfl rfl ⟨rfl, rfl⟩⟩) ?_
          refine WD.done hok2 rfl (X.then_code ?_)
          refine W.pick [39, 38, 37, 36, 35, 34, 33, 32, 31, 30, 29, 28, 27, 26, 25, 24, 23, 22, 21, 20, 19, 18, 15, 14, 13, 12, 11, 10, 9, 8, 7, 6, 5, 4, 0, 1] (Γ' := [(39, .bool true), (38, undef), (37, undef), (36, undef), (35, undef), (34, undef), (33, undef), (32, undef), (31, undef), (30, undef), (29, undef), (28, .bool true), (27, .bool (decide (((k : Nat) : Int) ≥ ((b.length : Nat) : Int)))), (26, .bool (decide (((k : Nat) : Int) ≥ ((b.length : Nat) : Int)))), (25, .int .i64 ((b.length : Nat) : Int)), (24, .slice ba b.length bc), (23, .int .i64 ((k : Nat) : Int)), (22, .bool false), (21, .bool (decide (((k : Nat) : Int) ≥ ((a.length : Nat) : Int)))), (20, .int .i64 ((a.length : Nat) : Int)), (19, .slice aa a.length ac), (18, .int .i64 ((k : Nat) : Int)), (15, .bool (decide (((k : Nat) : Int) < ((b.length : Nat) : Int)))), (14, .bool (decide (((k : Nat) : Int) < ((b.length : Nat) : Int)))), (13, .int .i64 ((b.length : Nat) : Int)), (12, .slice ba b.length bc), (11, .int .i64 ((k : Nat) : Int)), (10, .bool false), (9, .bool (decide (((k : Nat) : Int) < ((a.length : Nat) : Int)))), (8, .int .i64 ((a.length : Nat) : Int)), (7, .slice aa a.length ac), (6, .int .i64 ((k : Nat) : Int)), (5, .int .i64 ((k : Nat) : Int)), (4, .int .i64 0), (0, .slice aa a.length ac), (1, .slice ba b.length bc)]) rfl ?_
          refine W.ift rfl ?_
          refine W.seq ?_
          refine W.region ?_
          refine WL.op rfl (d_move rfl ?_)
          refine WL.op rfl (d_assign rfl ?_)
          refine WL.done (X.then_code ?_)
          refine W.pick [4, 40, 39, 38, 37, 36, 35, 34, 33, 32, 31, 30, 29, 28, 27, 26, 25, 24, 23, 22, 21, 20, 19, 18, 15, 14, 13, 12, 11, 10, 9, 8, 7, 6, 5, 0, 1] (Γ' := [(4, .int .i64 ((k : Nat) : Int)), (40, .int .i64 ((k : Nat) : Int)), (39, .bool true), (38, undef), (37, undef), (36, undef), (35, undef), (34, undef), (33, undef), (32, undef), (31, undef), (30, undef), (29, undef), (28, .bool true), (27, .bool (decide (((k : Nat) : Int) ≥ ((b.length : Nat) : Int)))), (26, .bool (decide (((k : Nat) : Int) ≥ ((b.length : Nat) : Int)))), (25, .int .i64 ((b.length : Nat) : Int)), (24, .slice ba b.length bc), (23, .int .i64 ((k : Nat) : Int)), (22, .bool false), (21, .bool (decide (((k : Nat) : Int) ≥ ((a.length : Nat) : Int)))), (20, .int .i64 ((a.length : Nat) : Int)), (19, .slice aa a.length ac), (18, .int .i64 ((k : Nat) : Int)), (15, .bool (decide (((k : Nat) : Int) < ((b.length : Nat) : Int)))), (14, .bool (decide (((k : Nat) : Int) < ((b.length : Nat) : Int)))), (13, .int .i64 ((b.length : Nat) : Int)), (12, .slice ba b.length bc), (11, .int .i64 ((k : Nat) : Int)), (10, .bool false), (9, .bool (decide (((k : Nat) : Int) < ((a.length : Nat) : Int)))), (8, .int .i64 ((a.length : Nat) : Int)), (7, .slice aa a.length ac), (6, .int .i64 ((k : Nat) : Int)), (5, .int .i64 ((k : Nat) : Int)), (0, .slice aa a.length ac), (1, .slice ba b.length bc)]) rfl ?_
          refine W.ret (X.block_ret (X.then_ret (X.then_ret (X.block_ret (X.then_ret (X.ret1 rfl rfl ?_))))))
          exact ⟨(by first | rw [apart_diff hs (by omega) (by omega) (by simpa using c38)] | rw [apart_end hs hk.1 hk.2 (by omega) (by omega)]), H4.noneL⟩
        · skip
          refine WD.take hok2 11 (.slice aa a.length ac) (fun _ => True) rfl rfl rfl rfl rfl trivial (.inl ⟨rfl, fun _ _ => d_move rfl ⟨rfl, rfl⟩⟩) ?_
          refine WD.take hok2 12 (.int .i64 ((k : Nat) : Int)) (fun _ => True) rfl rfl rfl rfl rfl trivial (.inl ⟨rfl, fun _ _ => d_move rfl ⟨rfl, rfl⟩⟩) ?_
          refine WD.take hok2 13 (elemPtr (.slice aa a.length ac) (k * 4)) (fun w' => RdT tyAnsP w' (.slice aa a.length ac) a) rfl rfl rfl rfl rfl (ra.at H4) (.inl ⟨rfl, fun _ hC => t_addrN k (T := tyAnsP) rfl Try.underlying74 sz102 rfl rfl hC rfl (by omega) ⟨rfl, rfl⟩⟩) ?_
          refine WD.take hok2 14 (.agg #[.int .i64 ((a.getD k ansP0).d.kind), .int .i64 ((a.getD k ansP0).d.err), .slice ((a.getD k ansP0).a) (((a.getD k ansP0).d.nums).length) ((a.getD k ansP0).c), .string ((a.getD k ansP0).d.text)]) (fun w' => RdT tyAnsP w' (.slice aa a.length ac) a) rfl rfl rfl rfl rfl (ra.at H4) (.inl ⟨rfl, fun _ hC => t_loadN k ansP0 (T := tyAnsP) (us := [.int .i64 ((a.getD k ansP0).d.kind), .int .i64 ((a.getD k ansP0).d.err), .slice ((a.getD k ansP0).a) (((a.getD k ansP0).d.nums).length) ((a.getD k ansP0).c), .string ((a.getD k ansP0).d.text)]) rfl Try.underlying102 rfl sz102 rfl hC (by omega) rfl ⟨rfl, rfl⟩⟩) ?_
          refine WD.take hok2 15 (.slice ba b.length bc) (fun _ => True) rfl rfl rfl rfl rfl trivial (.inl ⟨rfl, fun _ _ => d_move rfl ⟨rfl, rfl⟩⟩) ?_
          refine WD.take hok2 16 (.int .i64 ((k : Nat) : Int)) (fun _ => True) rfl rfl rfl rfl rfl trivial (.inl ⟨rfl, fun _ _ => d_move rfl ⟨rfl, rfl⟩⟩) ?_
          refine WD.take hok2 17 (elemPtr (.slice ba b.length bc) (k * 4)) (fun w' => RdT tyAnsP w' (.slice ba b.length bc) b) rfl rfl rfl rfl rfl (rb.at H4) (.inl ⟨rfl, fun _ hC => t_addrN k (T := tyAnsP) rfl Try.underlying74 sz102 rfl rfl hC rfl (by omega) ⟨rfl, rfl⟩⟩) ?_
          refine WD.take hok2 18 (.agg #[.int .i64 ((b.getD k ansP0).d.kind), .int .i64 ((b.getD k ansP0).d.err), .slice ((b.getD k ansP0).a) (((b.getD k ansP0).d.nums).length) ((b.getD k ansP0).c), .string ((b.getD k ansP0).d.text)]) (fun w' => RdT tyAnsP w' (.slice ba b.length bc) b) rfl rfl rfl rfl rfl (rb.at H4) (.inl ⟨rfl, fun _ hC => t_loadN k ansP0 (T := tyAnsP) (us := [.int .i64 ((b.getD k ansP0).d.kind), .int .i64 ((b.getD k ansP0).d.err), .slice ((b.getD k ansP0).a) (((b.getD k ansP0).d.nums).length) ((b.getD k ansP0).c), .string ((b.getD k ansP0).d.text)]) rfl Try.underlying102 rfl sz102 rfl hC (by omega) rfl ⟨rfl, rfl⟩⟩) ?_
          refine WD.loud hok2 19 rfl (⟨_, [], rfl, rfl, rfl, rfl, rfl, rfl, d_call ok56 rfl (Ret.calls (refAnsSame_any ((a.getD k ansP0).d) ((a.getD k ansP0).a) ((a.getD k ansP0).c) ((b.getD k ansP0).d) ((b.getD k ansP0).a) ((b.getD k ansP0).c) w4 (show RdT (tyI .i64) w4 (.slice ((a.getD k ansP0).a) (((a.getD k ansP0).d.nums).length) ((a.getD k ansP0).c)) ((a.getD k ansP0).d.nums) from (da.at H4).get ansP0 k (by omega)) (show RdT (tyI .i64) w4 (.slice ((b.getD k ansP0).a) (((b.getD k ansP0).d.nums).length) ((b.getD k ansP0).c)) ((b.getD k ansP0).d.nums) from (db.at H4).get ansP0 k (by omega)) ) fun _ w5 p2 => ?_)⟩)
          obtain ⟨rfl, u2⟩ := p2
          have H5 : UpG w [] w5 [] := H4.call u2
          refine ⟨trivial, ?_⟩
          refine WD.take hok2 20 (.bool (!(decide (((a.getD k ansP0).d) = ((b.getD k ansP0).d))))) (fun _ => True) rfl rfl rfl rfl rfl trivial (.inl ⟨rfl, fun _ _ => d_notB rfl ⟨rfl, rfl⟩⟩) ?_
          refine WD.take hok2 21 (.bool (!(decide (((a.getD k ansP0).d) = ((b.getD k ansP0).d))))) (fun _ => True) rfl rfl rfl rfl rfl trivial (.inl ⟨rfl, fun _ _ => d_pick rfl rfl ⟨rfl, rfl⟩⟩) ?_
          refine WD.done hok2 rfl (X.then_code ?_)
          refine W.pick [39, 38, 37, 36, 35, 34, 33, 32, 31, 30, 29, 28, 27, 26, 25, 24, 23, 22, 21, 20, 19, 18, 15, 14, 13, 12, 11, 10, 9, 8, 7, 6, 5, 4, 0, 1] (Γ' := [(39, .bool (!(decide (((a.getD k ansP0).d) = ((b.getD k ansP0).d))))), (38, .bool (!(decide (((a.getD k ansP0).d) = ((b.getD k ansP0).d))))), (37, .bool (decide (((a.getD k ansP0).d) = ((b.getD k ansP0).d)))), (36, .agg #[.int .i64 ((b.getD k ansP0).d.kind), .int .i64 ((b.getD k ansP0).d.err), .slice ((b.getD k ansP0).a) (((b.getD k ansP0).d.nums).length) ((b.getD k ansP0).c), .string ((b.getD k ansP0).d.text)]), (35, elemPtr (.slice ba b.length bc) (k * 4)), (34, .int .i64 ((k : Nat) : Int)), (33, .slice ba b.length bc), (32, .agg #[.int .i64 ((a.getD k ansP0).d.kind), .int .i64 ((a.getD k ansP0).d.err), .slice ((a.getD k ansP0).a) (((a.getD k ansP0).d.nums).length) ((a.getD k ansP0).c), .string ((a.getD k ansP0).d.text)]), (31, elemPtr (.slice aa a.length ac) (k * 4)), (30, .int .i64 ((k : Nat) : Int)), (29, .slice aa a.length ac), (28, .bool false), (27, .bool (decide (((k : Nat) : Int) ≥ ((b.length : Nat) : Int)))), (26, .bool (decide (((k : Nat) : Int) ≥ ((b.length : Nat) : Int)))), (25, .int .i64 ((b.length : Nat) : Int)), (24, .slice ba b.length bc), (23, .int .i64 ((k : Nat) : Int)), (22, .bool false), (21, .bool (decide (((k : Nat) : Int) ≥ ((a.length : Nat) : Int)))), (20, .int .i64 ((a.length : Nat) : Int)), (19, .slice aa a.length ac), (18, .int .i64 ((k : Nat) : Int)), (15, .bool (decide (((k : Nat) : Int) < ((b.length : Nat) : Int)))), (14, .bool (decide (((k : Nat) : Int) < ((b.length : Nat) : Int)))), (13, .int .i64 ((b.length : Nat) : Int)), (12, .slice ba b.length bc), (11, .int .i64 ((k : Nat) : Int)), (10, .bool false), (9, .bool (decide (((k : Nat) : Int) < ((a.length : Nat) : Int)))), (8, .int .i64 ((a.length : Nat) : Int)), (7, .slice aa a.length ac), (6, .int .i64 ((k : Nat) : Int)), (5, .int .i64 ((k : Nat) : Int)), (4, .int .i64 0), (0, .slice aa a.length ac), (1, .slice ba b.length bc)]) rfl ?_
          refine W.iteB (b := !(decide (((a.getD k ansP0).d) = ((b.getD k ansP0).d)))) rfl (fun c38 => ?_) (fun c38 => ?_)
          · skip
            refine W.seq ?_
            refine W.region ?_
            refine WL.op rfl (d_move rfl ?_)
            refine WL.op rfl (d_assign rfl ?_)
            refine WL.done (X.then_code ?_)
            refine W.pick [4, 40, 39, 38, 37, 36, 35, 34, 33, 32, 31, 30, 29, 28, 27, 26, 25, 24, 23, 22, 21, 20, 19, 18, 15, 14, 13, 12, 11, 10, 9, 8, 7, 6, 5, 0, 1] (Γ' := [(4, .int .i64 ((k : Nat) : Int)), (40, .int .i64 ((k : Nat) : Int)), (39, .bool (!(decide (((a.getD k ansP0).d) = ((b.getD k ansP0).d))))), (38, .bool (!(decide (((a.getD k ansP0).d) = ((b.getD k ansP0).d))))), (37, .bool (decide (((a.getD k ansP0).d) = ((b.getD k ansP0).d)))), (36, .agg #[.int .i64 ((b.getD k ansP0).d.kind), .int .i64 ((b.getD k ansP0).d.err), .slice ((b.getD k ansP0).a) (((b.getD k ansP0).d.nums).length) ((b.getD k ansP0).c), .string ((b.getD k ansP0).d.text)]), (35, elemPtr (.slice ba b.length bc) (k * 4)), (34, .int .i64 ((k : Nat) : Int)), (33, .slice ba b.length bc), (32, .agg #[.int .i64 ((a.getD k ansP0).d.kind), .int .i64 ((a.getD k ansP0).d.err), .slice ((a.getD k ansP0).a) (((a.getD k ansP0).d.nums).length) ((a.getD k ansP0).c), .string ((a.getD k ansP0).d.text)]), (31, elemPtr (.slice aa a.length ac) (k * 4)), (30, .int .i64 ((k : Nat) : Int)), (29, .slice aa a.length ac), (28, .bool false), (27, .bool (decide (((k : Nat) : Int) ≥ ((b.length : Nat) : Int)))), (26, .bool (decide (((k : Nat) : Int) ≥ ((b.length : Nat) : Int)))), (25, .int .i64 ((b.length : Nat) : Int)), (24, .slice ba b.length bc), (23, .int .i64 ((k : Nat) : Int)), (22, .bool false), (21, .bool (decide (((k : Nat) : Int) ≥ ((a.length : Nat) : Int)))), (20, .int .i64 ((a.length : Nat) : Int)), (19, .slice aa a.length ac), (18, .int .i64 ((k : Nat) : Int)), (15, .bool (decide (((k : Nat) : Int) < ((b.length : Nat) : Int)))), (14, .bool (decide (((k : Nat) : Int) < ((b.length : Nat) : Int)))), (13, .int .i64 ((b.length : Nat) : Int)), (12, .slice ba b.length bc), (11, .int .i64 ((k : Nat) : Int)), (10, .bool false), (9, .bool (decide (((k : Nat) : Int) < ((a.length : Nat) : Int)))), (8, .int .i64 ((a.length : Nat) : Int)), (7, .slice aa a.length ac), (6, .int .i64 ((k : Nat) : Int)), (5, .int .i64 ((k : Nat) : Int)), (0, .slice aa a.length ac), (1, .slice ba b.length bc)]) rfl ?_
            refine W.ret (X.block_ret (X.then_ret (X.then_ret (X.block_ret (X.then_ret (X.ret1 rfl rfl ?_))))))
            exact ⟨(by first | rw [apart_diff hs (by omega) (by omega) (by simpa using c38)] | rw [apart_end hs hk.1 hk.2 (by omega) (by omega)]), H5.noneL⟩
          · skip
            refine W.skip (X.block_normal (X.then_code ?_))
            refine W.pick [39, 38, 37, 36, 35, 34, 33, 32, 31, 30, 29, 28, 27, 26, 25, 24, 23, 22, 21, 20, 19, 18, 15, 14, 13, 12, 11, 10, 9, 8, 7, 6, 5, 4, 0, 1] (Γ' := [(39, .bool (!(decide (((a.getD k ansP0).d) = ((b.getD k ansP0).d))))), (38, .bool (!(decide (((a.getD k ansP0).d) = ((b.getD k ansP0).d))))), (37, .bool (decide (((a.getD k ansP0).d) = ((b.getD k ansP0).d)))), (36, .agg #[.int .i64 ((b.getD k ansP0).d.kind), .int .i64 ((b.getD k ansP0).d.err), .slice ((b.getD k ansP0).a) (((b.getD k ansP0).d.nums).length) ((b.getD k ansP0).c), .string ((b.getD k ansP0).d.text)]), (35, elemPtr (.slice ba b.length bc) (k * 4)), (34, .int .i64 ((k : Nat) : Int)), (33, .slice ba b.length bc), (32, .agg #[.int .i64 ((a.getD k ansP0).d.kind), .int .i64 ((a.getD k ansP0).d.err), .slice ((a.getD k ansP0).a) (((a.getD k ansP0).d.nums).length) ((a.getD k ansP0).c), .string ((a.getD k ansP0).d.text)]), (31, elemPtr (.slice aa a.length ac) (k * 4)), (30, .int .i64 ((k : Nat) : Int)), (29, .slice aa a.length ac), (28, .bool false), (27, .bool (decide (((k : Nat) : Int) ≥ ((b.length : Nat) : Int)))), (26, .bool (decide (((k : Nat) : Int) ≥ ((b.length : Nat) : Int)))), (25, .int .i64 ((b.length : Nat) : Int)), (24, .slice ba b.length bc), (23, .int .i64 ((k : Nat) : Int)), (22, .bool false), (21, .bool (decide (((k : Nat) : Int) ≥ ((a.length : Nat) : Int)))), (20, .int .i64 ((a.length : Nat) : Int)), (19, .slice aa a.length ac), (18, .int .i64 ((k : Nat) : Int)), (15, .bool (decide (((k : Nat) : Int) < ((b.length : Nat) : Int)))), (14, .bool (decide (((k : Nat) : Int) < ((b.length : Nat) : Int)))), (13, .int .i64 ((b.length : Nat) : Int)), (12, .slice ba b.length bc), (11, .int .i64 ((k : Nat) : Int)), (10, .bool false), (9, .bool (decide (((k : Nat) : Int) < ((a.length : Nat) : Int)))), (8, .int .i64 ((a.length : Nat) : Int)), (7, .slice aa a.length ac), (6, .int .i64 ((k : Nat) : Int)), (5, .int .i64 ((k : Nat) : Int)), (4, .int .i64 0), (0, .slice aa a.length ac), (1, .slice ba b.length bc)]) rfl ?_
            refine W.region ?_
            refine WL.op rfl (d_move rfl ?_)
            refine WL.op rfl (d_add rfl rfl (by omega) (by omega) ?_)
            refine WL.op rfl (d_assign rfl ?_)
            refine WL.done ?_
            exact X.next [5, 4, 0, 1] (Γ' := [(5, .int .i64 (((k + 1) : Nat) : Int)), (4, .int .i64 0), (0, .slice aa a.length ac), (1, .slice ba b.length bc)]) rfl (a.length + b.length - (k + 1)) (by omega) ⟨k + 1, rfl, H5, (by omega), (by exact take_sameA hs (by omega) (by omega) (by simpa using c38)), rfl⟩
    · skip
      refine W.exit (X.then_exit (X.then_exit (X.block_exit (X.then_code ?_))))
      refine W.seq ?_
      refine W.region ?_
      refine WL.op rfl (d_assign rfl ?_)
      refine WL.done (X.then_code ?_)
      refine W.ret (X.ret1 rfl rfl ?_)
      exact ⟨(by rw [apart_none hs (by omega) (by omega)]), H1.noneL⟩

set_option maxRecDepth 20000 in
theorem tawake_any  (w : World) :
    Calls Try.prog 33 #[] w (Ret fun v w' => v = .bool true ∧ Upd w [] w' []) := by
  refine calls_of_W (args := []) Try.func33 rfl rfl rfl ?_
  have H0 : UpG w [] w [] := UpG.nil w
  show W _ _ _ _ [] w
  refine W.seq ?_
  refine W.region ?_
  refine WL.op rfl (d_assign rfl ?_)
  refine WL.done (X.then_code ?_)
  refine W.seq ?_
  refine W.region ?_
  refine WL.op rfl (t_buildSlice (T := (tyI .i64)) (xs := [4]) (cs := #[.int .i64 4]) rfl Try.underlying51 sz3 rfl rfl rfl rfl (by kernel_rfl) rfl rfl fun w1 u1 => ?_)
  have H1 : UpG w [] w1 [[rowT (tyI .i64) (.slice (some ⟨w.heap.size, 0, none⟩) ([4].length) ([4].length)) 3 [4]]] := H0.new' u1
  refine WL.op rfl (d_build (cs := #[.slice (some ⟨w.heap.size, 0, none⟩) ([4].length) ([4].length), .string ⟨#[]⟩]) rfl (by kernel_rfl) ?_)
  refine WL.op rfl (t_buildSlice (T := (tyI .i64)) (xs := [5]) (cs := #[.int .i64 5]) rfl Try.underlying51 sz3 rfl rfl rfl rfl (by kernel_rfl) rfl rfl fun w2 u2 => ?_)
  have H2 : UpG w [] w2 [[rowT (tyI .i64) (.slice (some ⟨w.heap.size, 0, none⟩) ([4].length) ([4].length)) 3 [4]], [rowT (tyI .i64) (.slice (some ⟨w1.heap.size, 0, none⟩) ([5].length) ([5].length)) 3 [5]]] := H1.new' u2
  refine WL.op rfl (d_build (cs := #[.slice (some ⟨w1.heap.size, 0, none⟩) ([5].length) ([5].length), .string ⟨#[]⟩]) rfl (by kernel_rfl) ?_)
  refine WL.op rfl (t_buildSlice (T := tyRawP) (xs := ([⟨(some ⟨w.heap.size, 0, none⟩), [4].length, ⟨[4], ⟨#[]⟩⟩⟩, ⟨(some ⟨w1.heap.size, 0, none⟩), [5].length, ⟨[5], ⟨#[]⟩⟩⟩] : List RawP)) (cs := #[.slice (some ⟨w.heap.size, 0, none⟩) ([4].length) ([4].length), .string ⟨#[]⟩, .slice (some ⟨w1.heap.size, 0, none⟩) ([5].length) ([5].length), .string ⟨#[]⟩]) rfl Try.underlying70 sz53 rfl rfl rfl rfl (by kernel_rfl) rfl rfl fun w3 u3 => ?_)
  have H3 : UpG w [] w3 [[rowT (tyI .i64) (.slice (some ⟨w.heap.size, 0, none⟩) ([4].length) ([4].length)) 3 [4]], [rowT (tyI .i64) (.slice (some ⟨w1.heap.size, 0, none⟩) ([5].length) ([5].length)) 3 [5]], [rowT tyRawP (.slice (some ⟨w2.heap.size, 0, none⟩) (([⟨(some ⟨w.heap.size, 0, none⟩), [4].length, ⟨[4], ⟨#[]⟩⟩⟩, ⟨(some ⟨w1.heap.size, 0, none⟩), [5].length, ⟨[5], ⟨#[]⟩⟩⟩] : List RawP).length) (([⟨(some ⟨w.heap.size, 0, none⟩), [4].length, ⟨[4], ⟨#[]⟩⟩⟩, ⟨(some ⟨w1.heap.size, 0, none⟩), [5].length, ⟨[5], ⟨#[]⟩⟩⟩] : List RawP).length)) 53 ([⟨(some ⟨w.heap.size, 0, none⟩), [4].length, ⟨[4], ⟨#[]⟩⟩⟩, ⟨(some ⟨w1.heap.size, 0, none⟩), [5].length, ⟨[5], ⟨#[]⟩⟩⟩] : List RawP)]] := H2.new' u3
  refine WL.op rfl (t_buildSlice (T := (tyI .i64)) (xs := [0, -1]) (cs := #[.int .i64 0, .int .i64 (-1)]) rfl Try.underlying51 sz3 rfl rfl rfl rfl (by kernel_rfl) rfl rfl fun w4 u4 => ?_)
  have H4 : UpG w [] w4 [[rowT (tyI .i64) (.slice (some ⟨w.heap.size, 0, none⟩) ([4].length) ([4].length)) 3 [4]], [rowT (tyI .i64) (.slice (some ⟨w1.heap.size, 0, none⟩) ([5].length) ([5].length)) 3 [5]], [rowT tyRawP (.slice (some ⟨w2.heap.size, 0, none⟩) (([⟨(some ⟨w.heap.size, 0, none⟩), [4].length, ⟨[4], ⟨#[]⟩⟩⟩, ⟨(some ⟨w1.heap.size, 0, none⟩), [5].length, ⟨[5], ⟨#[]⟩⟩⟩] : List RawP).length) (([⟨(some ⟨w.heap.size, 0, none⟩), [4].length, ⟨[4], ⟨#[]⟩⟩⟩, ⟨(some ⟨w1.heap.size, 0, none⟩), [5].length, ⟨[5], ⟨#[]⟩⟩⟩] : List RawP).length)) 53 ([⟨(some ⟨w.heap.size, 0, none⟩), [4].length, ⟨[4], ⟨#[]⟩⟩⟩, ⟨(some ⟨w1.heap.size, 0, none⟩), [5].length, ⟨[5], ⟨#[]⟩⟩⟩] : List RawP)], [rowT (tyI .i64) (.slice (some ⟨w3.heap.size, 0, none⟩) ([0, -1].length) ([0, -1].length)) 3 [0, -1]]] := H3.new' u4
  refine WL.op rfl (d_call ok36 rfl (Ret.calls (mix_any (some ⟨w2.heap.size, 0, none⟩) ([⟨(some ⟨w.heap.size, 0, none⟩), [4].length, ⟨[4], ⟨#[]⟩⟩⟩, ⟨(some ⟨w1.heap.size, 0, none⟩), [5].length, ⟨[5], ⟨#[]⟩⟩⟩] : List RawP) (([⟨(some ⟨w.heap.size, 0, none⟩), [4].length, ⟨[4], ⟨#[]⟩⟩⟩, ⟨(some ⟨w1.heap.size, 0, none⟩), [5].length, ⟨[5], ⟨#[]⟩⟩⟩] : List RawP).length) (some ⟨w3.heap.size, 0, none⟩) [0, -1] ([0, -1].length) w4 (H4.rdT 2 rfl) (H4.rdT 3 rfl) (Inn.Rd.cons (p := (⟨(some ⟨w.heap.size, 0, none⟩), [4].length, ⟨[4], ⟨#[]⟩⟩⟩ : RawP)) (H4.rdT 0 rfl) (Inn.Rd.cons (p := (⟨(some ⟨w1.heap.size, 0, none⟩), [5].length, ⟨[5], ⟨#[]⟩⟩⟩ : RawP)) (H4.rdT 1 rfl) (Inn.Rd.nil _ w4))) (by intro p hp; simp only [List.mem_cons, List.not_mem_nil, or_false] at hp; rcases hp with rfl | rfl <;> simp) (by simp)) fun _ w5 p1 => ?_))
  obtain ⟨a2_1, qs_1, c2_1, rfl, u5, q1⟩ := p1
  have H5 : UpG w [] w5 [[rowT (tyI .i64) (.slice (some ⟨w.heap.size, 0, none⟩) ([4].length) ([4].length)) 3 [4]], [rowT (tyI .i64) (.slice (some ⟨w1.heap.size, 0, none⟩) ([5].length) ([5].length)) 3 [5]], [rowT tyRawP (.slice (some ⟨w2.heap.size, 0, none⟩) (([⟨(some ⟨w.heap.size, 0, none⟩), [4].length, ⟨[4], ⟨#[]⟩⟩⟩, ⟨(some ⟨w1.heap.size, 0, none⟩), [5].length, ⟨[5], ⟨#[]⟩⟩⟩] : List RawP).length) (([⟨(some ⟨w.heap.size, 0, none⟩), [4].length, ⟨[4], ⟨#[]⟩⟩⟩, ⟨(some ⟨w1.heap.size, 0, none⟩), [5].length, ⟨[5], ⟨#[]⟩⟩⟩] : List RawP).length)) 53 ([⟨(some ⟨w.heap.size, 0, none⟩), [4].length, ⟨[4], ⟨#[]⟩⟩⟩, ⟨(some ⟨w1.heap.size, 0, none⟩), [5].length, ⟨[5], ⟨#[]⟩⟩⟩] : List RawP)], [rowT (tyI .i64) (.slice (some ⟨w3.heap.size, 0, none⟩) ([0, -1].length) ([0, -1].length)) 3 [0, -1]], [rowT tyRawP (.slice a2_1 qs_1.length c2_1) 53 qs_1], [manyF inRaw.row qs_1]] := (H4.new' u5).re rfl
  refine WL.op rfl (d_assign rfl ?_)
  refine WL.done (X.then_code ?_)
  refine W.seq ?_
  have hr : rdsOf qs_1 = [⟨[4], ⟨#[]⟩⟩, ⟨[5], ⟨#[]⟩⟩, ⟨[24], ⟨#[]⟩⟩] := by rw [q1]; rfl
  have hlen : qs_1.length = 3 := by rw [← rds_len, hr]; rfl
  have h2 : (qs_1.getD 2 rawP0).d = ⟨[24], ⟨#[]⟩⟩ := by rw [← rds_get, hr]; rfl
  have h0 : (qs_1.getD 0 rawP0).d = ⟨[4], ⟨#[]⟩⟩ := by rw [← rds_get, hr]; rfl
  refine W.region ?_
  refine WL.op rfl (d_move rfl ?_)
  refine WL.op rfl (d_lenS Try.underlying70 rfl ?_)
  refine WL.op rfl (d_cmp (decide (((qs_1.length : Nat) : Int) = (3 : Int))) rfl rfl rfl ?_)
  refine WL.op rfl (d_move rfl ?_)
  refine WL.part 12 (p := ((qs_1.length : Nat) : Int) = (3 : Int)) rfl (fun g19 => ?_) (fun g19 => ?_)
  · skip
    refine WL.opG rfl rfl rfl (d_move rfl ?_)
    refine WL.opG rfl rfl rfl (t_addrN 2 (T := tyRawP) rfl Try.underlying70 sz53 rfl rfl (H5.rdT 4 rfl) rfl (by first | omega | (rw [h2]; decide)) ?_)
    refine WL.opG rfl rfl rfl (t_fld 2 rawP0 (T := tyRawP) rfl fld53_0 rfl rfl (H5.rdT 4 rfl) (by first | omega | (rw [h2]; decide)) ?_)
    refine WL.opG rfl rfl rfl (t_loadF 2 rawP0 (T := tyRawP) rfl rfl Try.underlying51 rfl rfl (H5.rdT 4 rfl) (by first | omega | (rw [h2]; decide)) rfl ?_)
    refine WL.opG rfl rfl rfl (d_lenS Try.underlying51 rfl ?_)
    refine WL.opG rfl rfl rfl (d_cmp (decide (((((qs_1.getD 2 rawP0).d.nums).length : Nat) : Int) = (1 : Int))) rfl rfl rfl ?_)
    refine WL.op rfl (d_pick rfl rfl ?_)
    refine WL.op rfl (d_move rfl ?_)
    refine WL.part 20 (p := ((((qs_1.getD 2 rawP0).d.nums).length : Nat) : Int) = (1 : Int)) rfl (fun g19x => ?_) (fun g19x => ?_)
    · skip
      refine WL.opG rfl rfl rfl (d_move rfl ?_)
      refine WL.opG rfl rfl rfl (t_addrN 2 (T := tyRawP) rfl Try.underlying70 sz53 rfl rfl (H5.rdT 4 rfl) rfl (by first | omega | (rw [h2]; decide)) ?_)
      refine WL.opG rfl rfl rfl (t_fld 2 rawP0 (T := tyRawP) rfl fld53_0 rfl rfl (H5.rdT 4 rfl) (by first | omega | (rw [h2]; decide)) ?_)
      refine WL.opG rfl rfl rfl (t_loadF 2 rawP0 (T := tyRawP) rfl rfl Try.underlying51 rfl rfl (H5.rdT 4 rfl) (by first | omega | (rw [h2]; decide)) rfl ?_)
      refine WL.opG rfl rfl rfl (t_addr1 0 (T := (tyI .i64)) rfl Try.underlying51 sz3 rfl rfl (show RdT (tyI .i64) w5 (.slice ((qs_1.getD 2 rawP0).a) (((qs_1.getD 2 rawP0).d.nums).length) ((qs_1.getD 2 rawP0).c)) ((qs_1.getD 2 rawP0).d.nums) from (Inn.own (H5.hpOf 5 rfl)).get rawP0 2 (by omega)) rfl (by first | omega | (rw [h2]; decide)) ?_)
      refine WL.opG rfl rfl rfl (t_load1 0 0 (T := (tyI .i64)) rfl Try.underlying3 rfl rfl (show RdT (tyI .i64) w5 (.slice ((qs_1.getD 2 rawP0).a) (((qs_1.getD 2 rawP0).d.nums).length) ((qs_1.getD 2 rawP0).c)) ((qs_1.getD 2 rawP0).d.nums) from (Inn.own (H5.hpOf 5 rfl)).get rawP0 2 (by omega)) (by first | omega | (rw [h2]; decide)) rfl ?_)
      refine WL.opG rfl rfl rfl (d_cmp (decide ((((qs_1.getD 2 rawP0).d.nums).getD 0 0) = (24 : Int))) rfl rfl rfl ?_)
      refine WL.op rfl (d_pick rfl rfl ?_)
      refine WL.op rfl (d_move rfl ?_)
      refine WL.part 29 (p := (((qs_1.getD 2 rawP0).d.nums).getD 0 0) = (24 : Int)) rfl (fun g19xx => ?_) (fun g19xx => ?_)
      · skip
        refine WL.opG rfl rfl rfl (d_move rfl ?_)
        refine WL.opG rfl rfl rfl (t_addrN 2 (T := tyRawP) rfl Try.underlying70 sz53 rfl rfl (H5.rdT 4 rfl) rfl (by first | omega | (rw [h2]; decide)) ?_)
        refine WL.opG rfl rfl rfl (t_loadN 2 rawP0 (T := tyRawP) (us := [.slice ((qs_1.getD 2 rawP0).a) (((qs_1.getD 2 rawP0).d.nums).length) ((qs_1.getD 2 rawP0).c), .string ((qs_1.getD 2 rawP0).d.text)]) rfl Try.underlying53 rfl sz53 rfl (H5.rdT 4 rfl) (by first | omega | (rw [h2]; decide)) rfl ?_)
        refine WL.opG rfl rfl rfl (d_call ok34 rfl (Ret.calls (kept_any ((qs_1.getD 2 rawP0).d) ((qs_1.getD 2 rawP0).a) ((qs_1.getD 2 rawP0).c) w5 (show RdT (tyI .i64) w5 (.slice ((qs_1.getD 2 rawP0).a) (((qs_1.getD 2 rawP0).d.nums).length) ((qs_1.getD 2 rawP0).c)) ((qs_1.getD 2 rawP0).d.nums) from (Inn.own (H5.hpOf 5 rfl)).get rawP0 2 (by omega)) ) fun _ w6 p2 => ?_))
        obtain ⟨rfl, u6⟩ := p2
        have H6 : UpG w [] w6 [[rowT (tyI .i64) (.slice (some ⟨w.heap.size, 0, none⟩) ([4].length) ([4].length)) 3 [4]], [rowT (tyI .i64) (.slice (some ⟨w1.heap.size, 0, none⟩) ([5].length) ([5].length)) 3 [5]], [rowT tyRawP (.slice (some ⟨w2.heap.size, 0, none⟩) (([⟨(some ⟨w.heap.size, 0, none⟩), [4].length, ⟨[4], ⟨#[]⟩⟩⟩, ⟨(some ⟨w1.heap.size, 0, none⟩), [5].length, ⟨[5], ⟨#[]⟩⟩⟩] : List RawP).length) (([⟨(some ⟨w.heap.size, 0, none⟩), [4].length, ⟨[4], ⟨#[]⟩⟩⟩, ⟨(some ⟨w1.heap.size, 0, none⟩), [5].length, ⟨[5], ⟨#[]⟩⟩⟩] : List RawP).length)) 53 ([⟨(some ⟨w.heap.size, 0, none⟩), [4].length, ⟨[4], ⟨#[]⟩⟩⟩, ⟨(some ⟨w1.heap.size, 0, none⟩), [5].length, ⟨[5], ⟨#[]⟩⟩⟩] : List RawP)], [rowT (tyI .i64) (.slice (some ⟨w3.heap.size, 0, none⟩) ([0, -1].length) ([0, -1].length)) 3 [0, -1]], [rowT tyRawP (.slice a2_1 qs_1.length c2_1) 53 qs_1], [manyF inRaw.row qs_1]] := H5.call u6
        refine WL.op rfl (d_pick rfl rfl ?_)
        refine WL.op rfl (d_move rfl ?_)
        refine WL.partB 35 (b := keptB ((qs_1.getD 2 rawP0).d)) rfl (fun g19xxx => ?_) (fun g19xxx => ?_)
        · skip
          refine WL.opG rfl rfl rfl (d_move rfl ?_)
          refine WL.opG rfl rfl rfl (t_addrN 0 (T := tyRawP) rfl Try.underlying70 sz53 rfl rfl (H6.rdT 4 rfl) rfl (by first | omega | (rw [h2]; decide)) ?_)
          refine WL.opG rfl rfl rfl (t_loadN 0 rawP0 (T := tyRawP) (us := [.slice ((qs_1.getD 0 rawP0).a) (((qs_1.getD 0 rawP0).d.nums).length) ((qs_1.getD 0 rawP0).c), .string ((qs_1.getD 0 rawP0).d.text)]) rfl Try.underlying53 rfl sz53 rfl (H6.rdT 4 rfl) (by first | omega | (rw [h2]; decide)) rfl ?_)
          refine WL.opG rfl rfl rfl (d_call ok34 rfl (Ret.calls (kept_any ((qs_1.getD 0 rawP0).d) ((qs_1.getD 0 rawP0).a) ((qs_1.getD 0 rawP0).c) w6 (show RdT (tyI .i64) w6 (.slice ((qs_1.getD 0 rawP0).a) (((qs_1.getD 0 rawP0).d.nums).length) ((qs_1.getD 0 rawP0).c)) ((qs_1.getD 0 rawP0).d.nums) from (Inn.own (H6.hpOf 5 rfl)).get rawP0 0 (by omega)) ) fun _ w7 p3 => ?_))
          obtain ⟨rfl, u7⟩ := p3
          have H7 : UpG w [] w7 [[rowT (tyI .i64) (.slice (some ⟨w.heap.size, 0, none⟩) ([4].length) ([4].length)) 3 [4]], [rowT (tyI .i64) (.slice (some ⟨w1.heap.size, 0, none⟩) ([5].length) ([5].length)) 3 [5]], [rowT tyRawP (.slice (some ⟨w2.heap.size, 0, none⟩) (([⟨(some ⟨w.heap.size, 0, none⟩), [4].length, ⟨[4], ⟨#[]⟩⟩⟩, ⟨(some ⟨w1.heap.size, 0, none⟩), [5].length, ⟨[5], ⟨#[]⟩⟩⟩] : List RawP).length) (([⟨(some ⟨w.heap.size, 0, none⟩), [4].length, ⟨[4], ⟨#[]⟩⟩⟩, ⟨(some ⟨w1.heap.size, 0, none⟩), [5].length, ⟨[5], ⟨#[]⟩⟩⟩] : List RawP).length)) 53 ([⟨(some ⟨w.heap.size, 0, none⟩), [4].length, ⟨[4], ⟨#[]⟩⟩⟩, ⟨(some ⟨w1.heap.size, 0, none⟩), [5].length, ⟨[5], ⟨#[]⟩⟩⟩] : List RawP)], [rowT (tyI .i64) (.slice (some ⟨w3.heap.size, 0, none⟩) ([0, -1].length) ([0, -1].length)) 3 [0, -1]], [rowT tyRawP (.slice a2_1 qs_1.length c2_1) 53 qs_1], [manyF inRaw.row qs_1]] := H6.call u7
          refine WL.opG rfl rfl rfl (d_notB rfl ?_)
          refine WL.op rfl (d_pick rfl rfl ?_)
          refine WL.op rfl (d_move rfl ?_)
          refine WL.partB 42 (b := !(keptB ((qs_1.getD 0 rawP0).d))) rfl (fun g19xxxx => ?_) (fun g19xxxx => ?_)
          · skip
            refine WL.opG rfl rfl rfl (d_call ok41 rfl (Ret.calls (apart_any none ([] : List AnsP) 0 none ([] : List AnsP) 0 w7 (RdT.nil w7 none 0) (RdT.nil w7 none 0) (Inn.Rd.nil _ w7) (Inn.Rd.nil _ w7) ) fun _ w8 p4 => ?_))
            obtain ⟨rfl, u8⟩ := p4
            have H8 : UpG w [] w8 [[rowT (tyI .i64) (.slice (some ⟨w.heap.size, 0, none⟩) ([4].length) ([4].length)) 3 [4]], [rowT (tyI .i64) (.slice (some ⟨w1.heap.size, 0, none⟩) ([5].length) ([5].length)) 3 [5]], [rowT tyRawP (.slice (some ⟨w2.heap.size, 0, none⟩) (([⟨(some ⟨w.heap.size, 0, none⟩), [4].length, ⟨[4], ⟨#[]⟩⟩⟩, ⟨(some ⟨w1.heap.size, 0, none⟩), [5].length, ⟨[5], ⟨#[]⟩⟩⟩] : List RawP).length) (([⟨(some ⟨w.heap.size, 0, none⟩), [4].length, ⟨[4], ⟨#[]⟩⟩⟩, ⟨(some ⟨w1.heap.size, 0, none⟩), [5].length, ⟨[5], ⟨#[]⟩⟩⟩] : List RawP).length)) 53 ([⟨(some ⟨w.heap.size, 0, none⟩), [4].length, ⟨[4], ⟨#[]⟩⟩⟩, ⟨(some ⟨w1.heap.size, 0, none⟩), [5].length, ⟨[5], ⟨#[]⟩⟩⟩] : List RawP)], [rowT (tyI .i64) (.slice (some ⟨w3.heap.size, 0, none⟩) ([0, -1].length) ([0, -1].length)) 3 [0, -1]], [rowT tyRawP (.slice a2_1 qs_1.length c2_1) 53 qs_1], [manyF inRaw.row qs_1]] := H7.call u8
            refine WL.opG rfl rfl rfl (d_cmp (decide ((apartL (adsOf ([] : List AnsP)) (adsOf ([] : List AnsP)) 0) = (-1 : Int))) rfl rfl rfl ?_)
            refine WL.op rfl (d_pick rfl rfl ?_)
            refine WL.op rfl (d_assign rfl ?_)
            refine WL.done (X.then_code ?_)
            refine W.pick [0] (Γ' := [(0, .bool (decide ((apartL (adsOf ([] : List AnsP)) (adsOf ([] : List AnsP)) 0) = (-1 : Int))))]) rfl ?_
            refine W.ret (X.ret1 rfl rfl ?_)
            exact ⟨(by rw [decide_eq_true (by decide)]), H8.noneL⟩
          · skip
            exact absurd (by rw [h0]; decide) g19xxxx
        · skip
          exact absurd (by rw [h2]; decide) g19xxx
      · skip
        exact absurd (by rw [h2]; rfl) g19xx
    · skip
      exact absurd (by rw [h2]; rfl) g19x
  · skip
    exfalso; omega

set_option maxRecDepth 20000 in
theorem twinMixes_any (la : Option Addr) (l : List RawP) (lc : Nat) (by_a : Option Addr) (by_ : List Int) (by_c : Nat) (w : World) (rl : RdT tyRawP w (.slice la l.length lc) l) (rby_ : RdT (tyI .i64) w (.slice by_a by_.length by_c) by_) (dl : inRaw.Rd w l) (hcl : l.length ≤ lc) (hcb : by_.length ≤ by_c) (hsz : ∀ p, p ∈ l → p.d.nums.length * 8 ≤ 140737488355328) :
    Calls Try.prog 9 #[.slice la l.length lc, .slice by_a by_.length by_c] w (Ret fun v w' => v = .bool true ∧ Upd w [] w' []) := by
  have le_rl := rl.le
  have le_rby_ := rby_.le
  refine calls_of_W (args := [.slice la l.length lc, .slice by_a by_.length by_c]) Try.func9 rfl rfl rfl ?_
  have H0 : UpG w [] w [] := UpG.nil w
  show W _ _ _ _ [(0, .slice la l.length lc), (1, .slice by_a by_.length by_c)] w
  refine W.seq ?_
  refine W.region ?_
  refine WL.op rfl (d_assign rfl ?_)
  refine WL.done (X.then_code ?_)
  refine W.seq ?_
  refine W.seq ?_
  refine W.region ?_
  refine WL.op rfl (d_call ok33 rfl (Ret.calls (tawake_any  w  ) fun _ w1 p1 => ?_))
  obtain ⟨rfl, u1⟩ := p1
  have H1 : UpG w [] w1 [] := H0.call u1
  refine WL.op rfl (d_notB rfl ?_)
  refine WL.done (X.then_code ?_)
  refine W.iff rfl ?_
  refine W.skip (X.then_code ?_)
  refine W.seq ?_
  refine W.regionD mixed (by kernel_rfl) fun hok1 w2 k1 => ?_
  have H2 : UpG w [] w2 [] := H1.kept k1
  refine WD.take hok1 0 (.slice la l.length lc) (fun _ => True) rfl rfl rfl rfl rfl trivial (.inl ⟨rfl, fun _ _ => d_move rfl ⟨rfl, rfl⟩⟩) ?_
  refine WD.take hok1 1 (.slice la l.length lc) (fun _ => True) rfl rfl rfl rfl rfl trivial (.inl ⟨rfl, fun _ _ => d_move rfl ⟨rfl, rfl⟩⟩) ?_
  refine WD.take hok1 2 (.int .i64 ((l.length : Nat) : Int)) (fun _ => True) rfl rfl rfl rfl rfl trivial (.inl ⟨rfl, fun _ _ => d_lenS Try.underlying70 rfl ⟨rfl, rfl⟩⟩) ?_
  refine WD.take hok1 3 (.int .i64 (min ((l.length : Nat) : Int) 20)) (fun _ => True) rfl rfl rfl rfl rfl trivial (.inl ⟨rfl, fun _ _ => d_min rfl rfl ⟨rfl, rfl⟩⟩) ?_
  have rs1 := RdT.take rl ((min ((l.length : Nat) : Int) 20).toNat) (by omega)
  refine WD.take hok1 4 (.slice la ((l.take ((min ((l.length : Nat) : Int) 20).toNat)).length) lc) (fun _ => True) rfl rfl rfl rfl rfl trivial (.inl ⟨rfl, fun _ _ => t_take (min ((l.length : Nat) : Int) 20) ((min ((l.length : Nat) : Int) 20).toNat) (T := tyRawP) (xs := l) rfl Try.underlying70 sz53 rfl rfl (by omega) (by omega) (by omega) ⟨rfl, rfl⟩⟩) ?_
  refine WD.take hok1 5 (.slice by_a by_.length by_c) (fun _ => True) rfl rfl rfl rfl rfl trivial (.inl ⟨rfl, fun _ _ => d_move rfl ⟨rfl, rfl⟩⟩) ?_
  refine WD.take hok1 6 (.slice by_a by_.length by_c) (fun _ => True) rfl rfl rfl rfl rfl trivial (.inl ⟨rfl, fun _ _ => d_move rfl ⟨rfl, rfl⟩⟩) ?_
  refine WD.take hok1 7 (.int .i64 ((by_.length : Nat) : Int)) (fun _ => True) rfl rfl rfl rfl rfl trivial (.inl ⟨rfl, fun _ _ => d_lenS Try.underlying51 rfl ⟨rfl, rfl⟩⟩) ?_
  refine WD.take hok1 8 (.int .i64 (min ((by_.length : Nat) : Int) 25)) (fun _ => True) rfl rfl rfl rfl rfl trivial (.inl ⟨rfl, fun _ _ => d_min rfl rfl ⟨rfl, rfl⟩⟩) ?_
  have rs2 := RdT.take rby_ ((min ((by_.length : Nat) : Int) 25).toNat) (by omega)
  refine WD.take hok1 9 (.slice by_a ((by_.take ((min ((by_.length : Nat) : Int) 25).toNat)).length) by_c) (fun _ => True) rfl rfl rfl rfl rfl trivial (.inl ⟨rfl, fun _ _ => t_take (min ((by_.length : Nat) : Int) 25) ((min ((by_.length : Nat) : Int) 25).toNat) (T := (tyI .i64)) (xs := by_) rfl Try.underlying51 sz3 rfl rfl (by omega) (by omega) (by omega) ⟨rfl, rfl⟩⟩) ?_
  refine WD.take hok1 10 (.slice la ((l.take ((min ((l.length : Nat) : Int) 20).toNat)).length) lc) (fun _ => True) rfl rfl rfl rfl rfl trivial (.inl ⟨rfl, fun _ _ => d_assign rfl ⟨rfl, rfl⟩⟩) ?_
  refine WD.take hok1 11 (.slice by_a ((by_.take ((min ((by_.length : Nat) : Int) 25).toNat)).length) by_c) (fun _ => True) rfl rfl rfl rfl rfl trivial (.inl ⟨rfl, fun _ _ => d_assign rfl ⟨rfl, rfl⟩⟩) ?_
  refine WD.done hok1 rfl (X.then_code ?_)
  refine W.seq ?_
  refine W.seq ?_
  refine W.region ?_
  refine WL.op rfl (d_assign rfl ?_)
  refine WL.done (X.then_code ?_)
  refine W.block ?_
  refine W.pick [5, 1, 0, 4] (Γ' := [(5, .int .i64 0), (1, .slice by_a ((by_.take ((min ((by_.length : Nat) : Int) 25).toNat)).length) by_c), (0, .slice la ((l.take ((min ((l.length : Nat) : Int) 20).toNat)).length) lc), (4, .bool false)]) rfl ?_
  refine W.loop (fun m Γ' w' => ∃ k : Nat, Γ' = [(5, .int .i64 ((k : Nat) : Int)), (1, .slice by_a ((by_.take ((min ((by_.length : Nat) : Int) 25).toNat)).length) by_c), (0, .slice la ((l.take ((min ((l.length : Nat) : Int) 20).toNat)).length) lc), (4, .bool false)] ∧ UpG w [] w' [] ∧ (k ≤ 20) ∧ m = 20 - k) (20 - 0) ⟨0, rfl, H2, (by first | assumption | omega | simp), rfl⟩ ?_
  rintro m1 Γ1 w3 ⟨k, rfl, H3, hk, rfl⟩
  refine W.seq ?_
  refine W.seq ?_
  refine W.region ?_
  refine WL.op rfl (d_move rfl ?_)
  refine WL.op rfl (d_move rfl ?_)
  refine WL.op rfl (d_lenS Try.underlying70 rfl ?_)
  refine WL.op rfl (d_cmp (decide (((k : Nat) : Int) < (((l.take ((min ((l.length : Nat) : Int) 20).toNat)).length : Nat) : Int))) rfl rfl rfl ?_)
  refine WL.done (X.then_code ?_)
  refine W.ite (p := ((k : Nat) : Int) < (((l.take ((min ((l.length : Nat) : Int) 20).toNat)).length : Nat) : Int)) rfl (fun c28 => ?_) (fun c28 => ?_)
  · skip
    refine W.skip (X.then_code ?_)
    refine W.seq ?_
    refine W.block ?_
    refine W.seq ?_
    have hkl : (l.take (min ((l.length : Nat) : Int) 20).toNat).length ≤ 20 := by simp; omega
    refine W.region ?_
    refine WL.op rfl (d_move rfl ?_)
    refine WL.op rfl (d_move rfl ?_)
    refine WL.op rfl (t_addrN k (T := tyRawP) rfl Try.underlying70 sz53 rfl rfl (rs1.at H3) rfl (by omega) ?_)
    refine WL.op rfl (t_loadN k rawP0 (T := tyRawP) (us := [.slice (((l.take ((min ((l.length : Nat) : Int) 20).toNat)).getD k rawP0).a) ((((l.take ((min ((l.length : Nat) : Int) 20).toNat)).getD k rawP0).d.nums).length) (((l.take ((min ((l.length : Nat) : Int) 20).toNat)).getD k rawP0).c), .string (((l.take ((min ((l.length : Nat) : Int) 20).toNat)).getD k rawP0).d.text)]) rfl Try.underlying53 rfl sz53 rfl (rs1.at H3) (by omega) rfl ?_)
    refine WL.op rfl (d_call ok26 rfl (Ret.calls (refOf_any (((l.take ((min ((l.length : Nat) : Int) 20).toNat)).getD k rawP0).d) (((l.take ((min ((l.length : Nat) : Int) 20).toNat)).getD k rawP0).a) (((l.take ((min ((l.length : Nat) : Int) 20).toNat)).getD k rawP0).c) w3 (show RdT (tyI .i64) w3 (.slice (((l.take ((min ((l.length : Nat) : Int) 20).toNat)).getD k rawP0).a) ((((l.take ((min ((l.length : Nat) : Int) 20).toNat)).getD k rawP0).d.nums).length) (((l.take ((min ((l.length : Nat) : Int) 20).toNat)).getD k rawP0).c)) (((l.take ((min ((l.length : Nat) : Int) 20).toNat)).getD k rawP0).d.nums) from ((dl.at H3).take ((min ((l.length : Nat) : Int) 20).toNat)).get rawP0 k (by omega)) ) fun _ w4 p2 => ?_))
    obtain ⟨rfl, u2⟩ := p2
    have H4 : UpG w [] w4 [] := H3.call u2
    refine WL.op rfl (d_move rfl ?_)
    refine WL.op rfl (d_extract rfl rfl ?_)
    refine WL.op rfl (d_extract rfl rfl ?_)
    refine WL.op rfl (d_alloc sz55 fun w5 u3 => ?_)
    have H5 : UpG w [] w5 [[blk w4.heap.size #[.int .i64 0, .int .i64 0, .int .i64 0, .int .i64 0, .string ⟨#[]⟩] 55]] := H4.new' u3
    refine WL.op0 (d_storeAB (us := [.int .i64 ((ofR (((l.take ((min ((l.length : Nat) : Int) 20).toNat)).getD k rawP0).d)).1.kind), .int .i64 ((ofR (((l.take ((min ((l.length : Nat) : Int) 20).toNat)).getD k rawP0).d)).1.slot), .int .i64 ((ofR (((l.take ((min ((l.length : Nat) : Int) 20).toNat)).getD k rawP0).d)).1.at_), .int .i64 ((ofR (((l.take ((min ((l.length : Nat) : Int) 20).toNat)).getD k rawP0).d)).1.len), .string ((ofR (((l.take ((min ((l.length : Nat) : Int) 20).toNat)).getD k rawP0).d)).1.text)]) (cs' := #[.int .i64 ((ofR (((l.take ((min ((l.length : Nat) : Int) 20).toNat)).getD k rawP0).d)).1.kind), .int .i64 ((ofR (((l.take ((min ((l.length : Nat) : Int) 20).toNat)).getD k rawP0).d)).1.slot), .int .i64 ((ofR (((l.take ((min ((l.length : Nat) : Int) 20).toNat)).getD k rawP0).d)).1.at_), .int .i64 ((ofR (((l.take ((min ((l.length : Nat) : Int) 20).toNat)).getD k rawP0).d)).1.len), .string ((ofR (((l.take ((min ((l.length : Nat) : Int) 20).toNat)).getD k rawP0).d)).1.text)]) sz55 rfl rfl rfl rfl (H5.blk 0 rfl) rfl rfl fun w6 u4 => ?_)
    have H6 : UpG w [] w6 [[blk w4.heap.size #[.int .i64 ((ofR (((l.take ((min ((l.length : Nat) : Int) 20).toNat)).getD k rawP0).d)).1.kind), .int .i64 ((ofR (((l.take ((min ((l.length : Nat) : Int) 20).toNat)).getD k rawP0).d)).1.slot), .int .i64 ((ofR (((l.take ((min ((l.length : Nat) : Int) 20).toNat)).getD k rawP0).d)).1.at_), .int .i64 ((ofR (((l.take ((min ((l.length : Nat) : Int) 20).toNat)).getD k rawP0).d)).1.len), .string ((ofR (((l.take ((min ((l.length : Nat) : Int) 20).toNat)).getD k rawP0).d)).1.text)] 55]] := H5.on 0 rfl u4
    refine WL.op rfl (d_assign rfl ?_)
    refine WL.done (X.then_code ?_)
    refine W.pick [7, 6, 33, 32, 26, 31, 30, 29, 28, 27, 23, 22, 21, 20, 5, 1, 0, 4] (Γ' := [(7, .int .i64 ((ofR (((l.take ((min ((l.length : Nat) : Int) 20).toNat)).getD k rawP0).d)).2)), (6, .pointer (some ⟨w4.heap.size, 0, none⟩)), (33, .int .i64 ((ofR (((l.take ((min ((l.length : Nat) : Int) 20).toNat)).getD k rawP0).d)).2)), (32, .agg #[.int .i64 ((ofR (((l.take ((min ((l.length : Nat) : Int) 20).toNat)).getD k rawP0).d)).1.kind), .int .i64 ((ofR (((l.take ((min ((l.length : Nat) : Int) 20).toNat)).getD k rawP0).d)).1.slot), .int .i64 ((ofR (((l.take ((min ((l.length : Nat) : Int) 20).toNat)).getD k rawP0).d)).1.at_), .int .i64 ((ofR (((l.take ((min ((l.length : Nat) : Int) 20).toNat)).getD k rawP0).d)).1.len), .string ((ofR (((l.take ((min ((l.length : Nat) : Int) 20).toNat)).getD k rawP0).d)).1.text)]), (26, .tuple #[.agg #[.int .i64 ((ofR (((l.take ((min ((l.length : Nat) : Int) 20).toNat)).getD k rawP0).d)).1.kind), .int .i64 ((ofR (((l.take ((min ((l.length : Nat) : Int) 20).toNat)).getD k rawP0).d)).1.slot), .int .i64 ((ofR (((l.take ((min ((l.length : Nat) : Int) 20).toNat)).getD k rawP0).d)).1.at_), .int .i64 ((ofR (((l.take ((min ((l.length : Nat) : Int) 20).toNat)).getD k rawP0).d)).1.len), .string ((ofR (((l.take ((min ((l.length : Nat) : Int) 20).toNat)).getD k rawP0).d)).1.text)], .int .i64 ((ofR (((l.take ((min ((l.length : Nat) : Int) 20).toNat)).getD k rawP0).d)).2)]), (31, .tuple #[.agg #[.int .i64 ((ofR (((l.take ((min ((l.length : Nat) : Int) 20).toNat)).getD k rawP0).d)).1.kind), .int .i64 ((ofR (((l.take ((min ((l.length : Nat) : Int) 20).toNat)).getD k rawP0).d)).1.slot), .int .i64 ((ofR (((l.take ((min ((l.length : Nat) : Int) 20).toNat)).getD k rawP0).d)).1.at_), .int .i64 ((ofR (((l.take ((min ((l.length : Nat) : Int) 20).toNat)).getD k rawP0).d)).1.len), .string ((ofR (((l.take ((min ((l.length : Nat) : Int) 20).toNat)).getD k rawP0).d)).1.text)], .int .i64 ((ofR (((l.take ((min ((l.length : Nat) : Int) 20).toNat)).getD k rawP0).d)).2)]), (30, .agg #[.slice (((l.take ((min ((l.length : Nat) : Int) 20).toNat)).getD k rawP0).a) ((((l.take ((min ((l.length : Nat) : Int) 20).toNat)).getD k rawP0).d.nums).length) (((l.take ((min ((l.length : Nat) : Int) 20).toNat)).getD k rawP0).c), .string (((l.take ((min ((l.length : Nat) : Int) 20).toNat)).getD k rawP0).d.text)]), (29, elemPtr (.slice la ((l.take ((min ((l.length : Nat) : Int) 20).toNat)).length) lc) (k * 2)), (28, .int .i64 ((k : Nat) : Int)), (27, .slice la ((l.take ((min ((l.length : Nat) : Int) 20).toNat)).length) lc), (23, .bool (decide (((k : Nat) : Int) < (((l.take ((min ((l.length : Nat) : Int) 20).toNat)).length : Nat) : Int)))), (22, .int .i64 (((l.take ((min ((l.length : Nat) : Int) 20).toNat)).length : Nat) : Int)), (21, .slice la ((l.take ((min ((l.length : Nat) : Int) 20).toNat)).length) lc), (20, .int .i64 ((k : Nat) : Int)), (5, .int .i64 ((k : Nat) : Int)), (1, .slice by_a ((by_.take ((min ((by_.length : Nat) : Int) 25).toNat)).length) by_c), (0, .slice la ((l.take ((min ((l.length : Nat) : Int) 20).toNat)).length) lc), (4, .bool false)]) rfl ?_
    refine W.seq ?_
    refine W.region ?_
    refine WL.op rfl (d_move rfl ?_)
    refine WL.op rfl (d_move rfl ?_)
    refine WL.op rfl (t_addrN k (T := tyRawP) rfl Try.underlying70 sz53 rfl rfl (rs1.at H6) rfl (by omega) ?_)
    refine WL.op rfl (t_loadN k rawP0 (T := tyRawP) (us := [.slice (((l.take ((min ((l.length : Nat) : Int) 20).toNat)).getD k rawP0).a) ((((l.take ((min ((l.length : Nat) : Int) 20).toNat)).getD k rawP0).d.nums).length) (((l.take ((min ((l.length : Nat) : Int) 20).toNat)).getD k rawP0).c), .string (((l.take ((min ((l.length : Nat) : Int) 20).toNat)).getD k rawP0).d.text)]) rfl Try.underlying53 rfl sz53 rfl (rs1.at H6) (by omega) rfl ?_)
    refine WL.op rfl (d_call ok34 rfl (Ret.calls (kept_any (((l.take ((min ((l.length : Nat) : Int) 20).toNat)).getD k rawP0).d) (((l.take ((min ((l.length : Nat) : Int) 20).toNat)).getD k rawP0).a) (((l.take ((min ((l.length : Nat) : Int) 20).toNat)).getD k rawP0).c) w6 (show RdT (tyI .i64) w6 (.slice (((l.take ((min ((l.length : Nat) : Int) 20).toNat)).getD k rawP0).a) ((((l.take ((min ((l.length : Nat) : Int) 20).toNat)).getD k rawP0).d.nums).length) (((l.take ((min ((l.length : Nat) : Int) 20).toNat)).getD k rawP0).c)) (((l.take ((min ((l.length : Nat) : Int) 20).toNat)).getD k rawP0).d.nums) from ((dl.at H6).take ((min ((l.length : Nat) : Int) 20).toNat)).get rawP0 k (by omega)) ) fun _ w7 p3 => ?_))
    obtain ⟨rfl, u5⟩ := p3
    have H7 : UpG w [] w7 [[blk w4.heap.size #[.int .i64 ((ofR (((l.take ((min ((l.length : Nat) : Int) 20).toNat)).getD k rawP0).d)).1.kind), .int .i64 ((ofR (((l.take ((min ((l.length : Nat) : Int) 20).toNat)).getD k rawP0).d)).1.slot), .int .i64 ((ofR (((l.take ((min ((l.length : Nat) : Int) 20).toNat)).getD k rawP0).d)).1.at_), .int .i64 ((ofR (((l.take ((min ((l.length : Nat) : Int) 20).toNat)).getD k rawP0).d)).1.len), .string ((ofR (((l.take ((min ((l.length : Nat) : Int) 20).toNat)).getD k rawP0).d)).1.text)] 55]] := H6.call u5
    refine WL.op rfl (d_move rfl ?_)
    refine WL.op rfl (d_cmp (decide (((ofR (((l.take ((min ((l.length : Nat) : Int) 20).toNat)).getD k rawP0).d)).2) = (0 : Int))) rfl rfl rfl ?_)
    refine WL.op rfl (d_move rfl ?_)
    refine WL.part 41 (p := ((ofR (((l.take ((min ((l.length : Nat) : Int) 20).toNat)).getD k rawP0).d)).2) = (0 : Int)) rfl (fun g30 => ?_) (fun g30 => ?_)
    · skip
      refine WL.opG rfl rfl rfl (d_fieldAddrB fld55_0 rfl rfl ?_)
      refine WL.opG rfl rfl rfl (d_loadB Try.underlying3 rfl rfl (H7.blk 0 rfl) rfl ?_)
      refine WL.opG rfl rfl rfl (d_cmp (decide (((ofR (((l.take ((min ((l.length : Nat) : Int) 20).toNat)).getD k rawP0).d)).1.kind) = (23 : Int))) rfl rfl rfl ?_)
      refine WL.opG rfl rfl rfl (d_move rfl ?_)
      refine WL.part 45 (p := ((ofR (((l.take ((min ((l.length : Nat) : Int) 20).toNat)).getD k rawP0).d)).1.kind) = (23 : Int)) rfl (fun g30x => ?_) (fun g30x => ?_)
      · skip
        refine WL.opN rfl rfl rfl rfl ?_
        refine WL.opN rfl rfl rfl rfl ?_
        refine WL.opN rfl rfl rfl rfl ?_
        refine WL.opG rfl rfl rfl (d_pick rfl rfl ?_)
        refine WL.op rfl (d_pick rfl rfl ?_)
        refine WL.op rfl (d_boolne Try.underlying4 rfl rfl ?_)
        refine WL.done (X.then_code ?_)
        refine W.pick [51, 50, 49, 48, 47, 46, 45, 44, 43, 42, 41, 40, 39, 38, 37, 36, 35, 34, 7, 6, 33, 32, 26, 31, 30, 29, 28, 27, 23, 22, 21, 20, 5, 1, 0, 4] (Γ' := [(51, .bool (decide ((keptB (((l.take ((min ((l.length : Nat) : Int) 20).toNat)).getD k rawP0).d)) ≠ true))), (50, .bool true), (49, .bool true), (48, undef), (47, undef), (46, undef), (45, .bool true), (44, .bool (decide (((ofR (((l.take ((min ((l.length : Nat) : Int) 20).toNat)).getD k rawP0).d)).1.kind) = (23 : Int)))), (43, .int .i64 ((ofR (((l.take ((min ((l.length : Nat) : Int) 20).toNat)).getD k rawP0).d)).1.kind)), (42, .pointer (some ⟨w4.heap.size, 0, none⟩)), (41, .bool true), (40, .bool (decide (((ofR (((l.take ((min ((l.length : Nat) : Int) 20).toNat)).getD k rawP0).d)).2) = (0 : Int)))), (39, .int .i64 ((ofR (((l.take ((min ((l.length : Nat) : Int) 20).toNat)).getD k rawP0).d)).2)), (38, .bool (keptB (((l.take ((min ((l.length : Nat) : Int) 20).toNat)).getD k rawP0).d))), (37, .agg #[.slice (((l.take ((min ((l.length : Nat) : Int) 20).toNat)).getD k rawP0).a) ((((l.take ((min ((l.length : Nat) : Int) 20).toNat)).getD k rawP0).d.nums).length) (((l.take ((min ((l.length : Nat) : Int) 20).toNat)).getD k rawP0).c), .string (((l.take ((min ((l.length : Nat) : Int) 20).toNat)).getD k rawP0).d.text)]), (36, elemPtr (.slice la ((l.take ((min ((l.length : Nat) : Int) 20).toNat)).length) lc) (k * 2)), (35, .int .i64 ((k : Nat) : Int)), (34, .slice la ((l.take ((min ((l.length : Nat) : Int) 20).toNat)).length) lc), (7, .int .i64 ((ofR (((l.take ((min ((l.length : Nat) : Int) 20).toNat)).getD k rawP0).d)).2)), (6, .pointer (some ⟨w4.heap.size, 0, none⟩)), (33, .int .i64 ((ofR (((l.take ((min ((l.length : Nat) : Int) 20).toNat)).getD k rawP0).d)).2)), (32, .agg #[.int .i64 ((ofR (((l.take ((min ((l.length : Nat) : Int) 20).toNat)).getD k rawP0).d)).1.kind), .int .i64 ((ofR (((l.take ((min ((l.length : Nat) : Int) 20).toNat)).getD k rawP0).d)).1.slot), .int .i64 ((ofR (((l.take ((min ((l.length : Nat) : Int) 20).toNat)).getD k rawP0).d)).1.at_), .int .i64 ((ofR (((l.take ((min ((l.length : Nat) : Int) 20).toNat)).getD k rawP0).d)).1.len), .string ((ofR (((l.take ((min ((l.length : Nat) : Int) 20).toNat)).getD k rawP0).d)).1.text)]), (26, .tuple #[.agg #[.int .i64 ((ofR (((l.take ((min ((l.length : Nat) : Int) 20).toNat)).getD k rawP0).d)).1.kind), .int .i64 ((ofR (((l.take ((min ((l.length : Nat) : Int) 20).toNat)).getD k rawP0).d)).1.slot), .int .i64 ((ofR (((l.take ((min ((l.length : Nat) : Int) 20).toNat)).getD k rawP0).d)).1.at_), .int .i64 ((ofR (((l.take ((min ((l.length : Nat) : Int) 20).toNat)).getD k rawP0).d)).1.len), .string ((ofR (((l.take ((min ((l.length : Nat) : Int) 20).toNat)).getD k rawP0).d)).1.text)], .int .i64 ((ofR (((l.take ((min ((l.length : Nat) : Int) 20).toNat)).getD k rawP0).d)).2)]), (31, .tuple #[.agg #[.int .i64 ((ofR (((l.take ((min ((l.length : Nat) : Int) 20).toNat)).getD k rawP0).d)).1.kind), .int .i64 ((ofR (((l.take ((min ((l.length : Nat) : Int) 20).toNat)).getD k rawP0).d)).1.slot), .int .i64 ((ofR (((l.take ((min ((l.length : Nat) : Int) 20).toNat)).getD k rawP0).d)).1.at_), .int .i64 ((ofR (((l.take ((min ((l.length : Nat) : Int) 20).toNat)).getD k rawP0).d)).1.len), .string ((ofR (((l.take ((min ((l.length : Nat) : Int) 20).toNat)).getD k rawP0).d)).1.text)], .int .i64 ((ofR (((l.take ((min ((l.length : Nat) : Int) 20).toNat)).getD k rawP0).d)).2)]), (30, .agg #[.slice (((l.take ((min ((l.length : Nat) : Int) 20).toNat)).getD k rawP0).a) ((((l.take ((min ((l.length : Nat) : Int) 20).toNat)).getD k rawP0).d.nums).length) (((l.take ((min ((l.length : Nat) : Int) 20).toNat)).getD k rawP0).c), .string (((l.take ((min ((l.length : Nat) : Int) 20).toNat)).getD k rawP0).d.text)]), (29, elemPtr (.slice la ((l.take ((min ((l.length : Nat) : Int) 20).toNat)).length) lc) (k * 2)), (28, .int .i64 ((k : Nat) : Int)), (27, .slice la ((l.take ((min ((l.length : Nat) : Int) 20).toNat)).length) lc), (23, .bool (decide (((k : Nat) : Int) < (((l.take ((min ((l.length : Nat) : Int) 20).toNat)).length : Nat) : Int)))), (22, .int .i64 (((l.take ((min ((l.length : Nat) : Int) 20).toNat)).length : Nat) : Int)), (21, .slice la ((l.take ((min ((l.length : Nat) : Int) 20).toNat)).length) lc), (20, .int .i64 ((k : Nat) : Int)), (5, .int .i64 ((k : Nat) : Int)), (1, .slice by_a ((by_.take ((min ((by_.length : Nat) : Int) 25).toNat)).length) by_c), (0, .slice la ((l.take ((min ((l.length : Nat) : Int) 20).toNat)).length) lc), (4, .bool false)]) rfl ?_
        refine W.ite (p := (keptB (((l.take ((min ((l.length : Nat) : Int) 20).toNat)).getD k rawP0).d)) ≠ true) rfl (fun c30 => ?_) (fun c30 => ?_)
        · skip
          exfalso; exact c30 (by first | exact keptB_t g30 g30x | exact keptB_m g30 g30x | exact keptB_f g30)
        · skip
          refine W.skip (X.block_normal (X.then_code ?_))
          refine W.pick [51, 50, 49, 48, 47, 46, 45, 44, 43, 42, 41, 40, 39, 38, 37, 36, 35, 34, 7, 6, 33, 32, 26, 31, 30, 29, 28, 27, 23, 22, 21, 20, 5, 1, 0, 4] (Γ' := [(51, .bool (decide ((keptB (((l.take ((min ((l.length : Nat) : Int) 20).toNat)).getD k rawP0).d)) ≠ true))), (50, .bool true), (49, .bool true), (48, undef), (47, undef), (46, undef), (45, .bool true), (44, .bool (decide (((ofR (((l.take ((min ((l.length : Nat) : Int) 20).toNat)).getD k rawP0).d)).1.kind) = (23 : Int)))), (43, .int .i64 ((ofR (((l.take ((min ((l.length : Nat) : Int) 20).toNat)).getD k rawP0).d)).1.kind)), (42, .pointer (some ⟨w4.heap.size, 0, none⟩)), (41, .bool true), (40, .bool (decide (((ofR (((l.take ((min ((l.length : Nat) : Int) 20).toNat)).getD k rawP0).d)).2) = (0 : Int)))), (39, .int .i64 ((ofR (((l.take ((min ((l.length : Nat) : Int) 20).toNat)).getD k rawP0).d)).2)), (38, .bool (keptB (((l.take ((min ((l.length : Nat) : Int) 20).toNat)).getD k rawP0).d))), (37, .agg #[.slice (((l.take ((min ((l.length : Nat) : Int) 20).toNat)).getD k rawP0).a) ((((l.take ((min ((l.length : Nat) : Int) 20).toNat)).getD k rawP0).d.nums).length) (((l.take ((min ((l.length : Nat) : Int) 20).toNat)).getD k rawP0).c), .string (((l.take ((min ((l.length : Nat) : Int) 20).toNat)).getD k rawP0).d.text)]), (36, elemPtr (.slice la ((l.take ((min ((l.length : Nat) : Int) 20).toNat)).length) lc) (k * 2)), (35, .int .i64 ((k : Nat) : Int)), (34, .slice la ((l.take ((min ((l.length : Nat) : Int) 20).toNat)).length) lc), (7, .int .i64 ((ofR (((l.take ((min ((l.length : Nat) : Int) 20).toNat)).getD k rawP0).d)).2)), (6, .pointer (some ⟨w4.heap.size, 0, none⟩)), (33, .int .i64 ((ofR (((l.take ((min ((l.length : Nat) : Int) 20).toNat)).getD k rawP0).d)).2)), (32, .agg #[.int .i64 ((ofR (((l.take ((min ((l.length : Nat) : Int) 20).toNat)).getD k rawP0).d)).1.kind), .int .i64 ((ofR (((l.take ((min ((l.length : Nat) : Int) 20).toNat)).getD k rawP0).d)).1.slot), .int .i64 ((ofR (((l.take ((min ((l.length : Nat) : Int) 20).toNat)).getD k rawP0).d)).1.at_), .int .i64 ((ofR (((l.take ((min ((l.length : Nat) : Int) 20).toNat)).getD k rawP0).d)).1.len), .string ((ofR (((l.take ((min ((l.length : Nat) : Int) 20).toNat)).getD k rawP0).d)).1.text)]), (26, .tuple #[.agg #[.int .i64 ((ofR (((l.take ((min ((l.length : Nat) : Int) 20).toNat)).getD k rawP0).d)).1.kind), .int .i64 ((ofR (((l.take ((min ((l.length : Nat) : Int) 20).toNat)).getD k rawP0).d)).1.slot), .int .i64 ((ofR (((l.take ((min ((l.length : Nat) : Int) 20).toNat)).getD k rawP0).d)).1.at_), .int .i64 ((ofR (((l.take ((min ((l.length : Nat) : Int) 20).toNat)).getD k rawP0).d)).1.len), .string ((ofR (((l.take ((min ((l.length : Nat) : Int) 20).toNat)).getD k rawP0).d)).1.text)], .int .i64 ((ofR (((l.take ((min ((l.length : Nat) : Int) 20).toNat)).getD k rawP0).d)).2)]), (31, .tuple #[.agg #[.int .i64 ((ofR (((l.take ((min ((l.length : Nat) : Int) 20).toNat)).getD k rawP0).d)).1.kind), .int .i64 ((ofR (((l.take ((min ((l.length : Nat) : Int) 20).toNat)).getD k rawP0).d)).1.slot), .int .i64 ((ofR (((l.take ((min ((l.length : Nat) : Int) 20).toNat)).getD k rawP0).d)).1.at_), .int .i64 ((ofR (((l.take ((min ((l.length : Nat) : Int) 20).toNat)).getD k rawP0).d)).1.len), .string ((ofR (((l.take ((min ((l.length : Nat) : Int) 20).toNat)).getD k rawP0).d)).1.text)], .int .i64 ((ofR (((l.take ((min ((l.length : Nat) : Int) 20).toNat)).getD k rawP0).d)).2)]), (30, .agg #[.slice (((l.take ((min ((l.length : Nat) : Int) 20).toNat)).getD k rawP0).a) ((((l.take ((min ((l.length : Nat) : Int) 20).toNat)).getD k rawP0).d.nums).length) (((l.take ((min ((l.length : Nat) : Int) 20).toNat)).getD k rawP0).c), .string (((l.take ((min ((l.length : Nat) : Int) 20).toNat)).getD k rawP0).d.text)]), (29, elemPtr (.slice la ((l.take ((min ((l.length : Nat) : Int) 20).toNat)).length) lc) (k * 2)), (28, .int .i64 ((k : Nat) : Int)), (27, .slice la ((l.take ((min ((l.length : Nat) : Int) 20).toNat)).length) lc), (23, .bool (decide (((k : Nat) : Int) < (((l.take ((min ((l.length : Nat) : Int) 20).toNat)).length : Nat) : Int)))), (22, .int .i64 (((l.take ((min ((l.length : Nat) : Int) 20).toNat)).length : Nat) : Int)), (21, .slice la ((l.take ((min ((l.length : Nat) : Int) 20).toNat)).length) lc), (20, .int .i64 ((k : Nat) : Int)), (5, .int .i64 ((k : Nat) : Int)), (1, .slice by_a ((by_.take ((min ((by_.length : Nat) : Int) 25).toNat)).length) by_c), (0, .slice la ((l.take ((min ((l.length : Nat) : Int) 20).toNat)).length) lc), (4, .bool false)]) rfl ?_
          refine W.region ?_
          refine WL.op rfl (d_move rfl ?_)
          refine WL.op rfl (d_add rfl rfl (by omega) (by omega) ?_)
          refine WL.op rfl (d_assign rfl ?_)
          refine WL.done ?_
          exact X.next [5, 1, 0, 4] (Γ' := [(5, .int .i64 (((k + 1) : Nat) : Int)), (1, .slice by_a ((by_.take ((min ((by_.length : Nat) : Int) 25).toNat)).length) by_c), (0, .slice la ((l.take ((min ((l.length : Nat) : Int) 20).toNat)).length) lc), (4, .bool false)]) rfl (20 - (k + 1)) (by omega) ⟨k + 1, rfl, (UpG.of (G := []) (Upd.sel H7 (M := []) (l := []) rfl rfl) rfl), (by first | assumption | omega | simp), rfl⟩
      · skip
        refine WL.opG rfl rfl rfl (d_fieldAddrB fld55_0 rfl rfl ?_)
        refine WL.opG rfl rfl rfl (d_loadB Try.underlying3 rfl rfl (H7.blk 0 rfl) rfl ?_)
        refine WL.opG rfl rfl rfl (d_cmp (decide (((ofR (((l.take ((min ((l.length : Nat) : Int) 20).toNat)).getD k rawP0).d)).1.kind) = (24 : Int))) rfl rfl rfl ?_)
        refine WL.opG rfl rfl rfl (d_pick rfl rfl ?_)
        refine WL.op rfl (d_pick rfl rfl ?_)
        refine WL.op rfl (d_boolne Try.underlying4 rfl rfl ?_)
        refine WL.done (X.then_code ?_)
        refine W.pick [51, 50, 49, 48, 47, 46, 45, 44, 43, 42, 41, 40, 39, 38, 37, 36, 35, 34, 7, 6, 33, 32, 26, 31, 30, 29, 28, 27, 23, 22, 21, 20, 5, 1, 0, 4] (Γ' := [(51, .bool (decide ((keptB (((l.take ((min ((l.length : Nat) : Int) 20).toNat)).getD k rawP0).d)) ≠ (decide (((ofR (((l.take ((min ((l.length : Nat) : Int) 20).toNat)).getD k rawP0).d)).1.kind) = (24 : Int)))))), (50, .bool (decide (((ofR (((l.take ((min ((l.length : Nat) : Int) 20).toNat)).getD k rawP0).d)).1.kind) = (24 : Int)))), (49, .bool (decide (((ofR (((l.take ((min ((l.length : Nat) : Int) 20).toNat)).getD k rawP0).d)).1.kind) = (24 : Int)))), (48, .bool (decide (((ofR (((l.take ((min ((l.length : Nat) : Int) 20).toNat)).getD k rawP0).d)).1.kind) = (24 : Int)))), (47, .int .i64 ((ofR (((l.take ((min ((l.length : Nat) : Int) 20).toNat)).getD k rawP0).d)).1.kind)), (46, .pointer (some ⟨w4.heap.size, 0, none⟩)), (45, .bool false), (44, .bool (decide (((ofR (((l.take ((min ((l.length : Nat) : Int) 20).toNat)).getD k rawP0).d)).1.kind) = (23 : Int)))), (43, .int .i64 ((ofR (((l.take ((min ((l.length : Nat) : Int) 20).toNat)).getD k rawP0).d)).1.kind)), (42, .pointer (some ⟨w4.heap.size, 0, none⟩)), (41, .bool true), (40, .bool (decide (((ofR (((l.take ((min ((l.length : Nat) : Int) 20).toNat)).getD k rawP0).d)).2) = (0 : Int)))), (39, .int .i64 ((ofR (((l.take ((min ((l.length : Nat) : Int) 20).toNat)).getD k rawP0).d)).2)), (38, .bool (keptB (((l.take ((min ((l.length : Nat) : Int) 20).toNat)).getD k rawP0).d))), (37, .agg #[.slice (((l.take ((min ((l.length : Nat) : Int) 20).toNat)).getD k rawP0).a) ((((l.take ((min ((l.length : Nat) : Int) 20).toNat)).getD k rawP0).d.nums).length) (((l.take ((min ((l.length : Nat) : Int) 20).toNat)).getD k rawP0).c), .string (((l.take ((min ((l.length : Nat) : Int) 20).toNat)).getD k rawP0).d.text)]), (36, elemPtr (.slice la ((l.take ((min ((l.length : Nat) : Int) 20).toNat)).length) lc) (k * 2)), (35, .int .i64 ((k : Nat) : Int)), (34, .slice la ((l.take ((min ((l.length : Nat) : Int) 20).toNat)).length) lc), (7, .int .i64 ((ofR (((l.take ((min ((l.length : Nat) : Int) 20).toNat)).getD k rawP0).d)).2)), (6, .pointer (some ⟨w4.heap.size, 0, none⟩)), (33, .int .i64 ((ofR (((l.take ((min ((l.length : Nat) : Int) 20).toNat)).getD k rawP0).d)).2)), (32, .agg #[.int .i64 ((ofR (((l.take ((min ((l.length : Nat) : Int) 20).toNat)).getD k rawP0).d)).1.kind), .int .i64 ((ofR (((l.take ((min ((l.length : Nat) : Int) 20).toNat)).getD k rawP0).d)).1.slot), .int .i64 ((ofR (((l.take ((min ((l.length : Nat) : Int) 20).toNat)).getD k rawP0).d)).1.at_), .int .i64 ((ofR (((l.take ((min ((l.length : Nat) : Int) 20).toNat)).getD k rawP0).d)).1.len), .string ((ofR (((l.take ((min ((l.length : Nat) : Int) 20).toNat)).getD k rawP0).d)).1.text)]), (26, .tuple #[.agg #[.int .i64 ((ofR (((l.take ((min ((l.length : Nat) : Int) 20).toNat)).getD k rawP0).d)).1.kind), .int .i64 ((ofR (((l.take ((min ((l.length : Nat) : Int) 20).toNat)).getD k rawP0).d)).1.slot), .int .i64 ((ofR (((l.take ((min ((l.length : Nat) : Int) 20).toNat)).getD k rawP0).d)).1.at_), .int .i64 ((ofR (((l.take ((min ((l.length : Nat) : Int) 20).toNat)).getD k rawP0).d)).1.len), .string ((ofR (((l.take ((min ((l.length : Nat) : Int) 20).toNat)).getD k rawP0).d)).1.text)], .int .i64 ((ofR (((l.take ((min ((l.length : Nat) : Int) 20).toNat)).getD k rawP0).d)).2)]), (31, .tuple #[.agg #[.int .i64 ((ofR (((l.take ((min ((l.length : Nat) : Int) 20).toNat)).getD k rawP0).d)).1.kind), .int .i64 ((ofR (((l.take ((min ((l.length : Nat) : Int) 20).toNat)).getD k rawP0).d)).1.slot), .int .i64 ((ofR (((l.take ((min ((l.length : Nat) : Int) 20).toNat)).getD k rawP0).d)).1.at_), .int .i64 ((ofR (((l.take ((min ((l.length : Nat) : Int) 20).toNat)).getD k rawP0).d)).1.len), .string ((ofR (((l.take ((min ((l.length : Nat) : Int) 20).toNat)).getD k rawP0).d)).1.text)], .int .i64 ((ofR (((l.take ((min ((l.length : Nat) : Int) 20).toNat)).getD k rawP0).d)).2)]), (30, .agg #[.slice (((l.take ((min ((l.length : Nat) : Int) 20).toNat)).getD k rawP0).a) ((((l.take ((min ((l.length : Nat) : Int) 20).toNat)).getD k rawP0).d.nums).length) (((l.take ((min ((l.length : Nat) : Int) 20).toNat)).getD k rawP0).c), .string (((l.take ((min ((l.length : Nat) : Int) 20).toNat)).getD k rawP0).d.text)]), (29, elemPtr (.slice la ((l.take ((min ((l.length : Nat) : Int) 20).toNat)).length) lc) (k * 2)), (28, .int .i64 ((k : Nat) : Int)), (27, .slice la ((l.take ((min ((l.length : Nat) : Int) 20).toNat)).length) lc), (23, .bool (decide (((k : Nat) : Int) < (((l.take ((min ((l.length : Nat) : Int) 20).toNat)).length : Nat) : Int)))), (22, .int .i64 (((l.take ((min ((l.length : Nat) : Int) 20).toNat)).length : Nat) : Int)), (21, .slice la ((l.take ((min ((l.length : Nat) : Int) 20).toNat)).length) lc), (20, .int .i64 ((k : Nat) : Int)), (5, .int .i64 ((k : Nat) : Int)), (1, .slice by_a ((by_.take ((min ((by_.length : Nat) : Int) 25).toNat)).length) by_c), (0, .slice la ((l.take ((min ((l.length : Nat) : Int) 20).toNat)).length) lc), (4, .bool false)]) rfl ?_
        refine W.ite (p := (keptB (((l.take ((min ((l.length : Nat) : Int) 20).toNat)).getD k rawP0).d)) ≠ (decide (((ofR (((l.take ((min ((l.length : Nat) : Int) 20).toNat)).getD k rawP0).d)).1.kind) = (24 : Int)))) rfl (fun c30 => ?_) (fun c30 => ?_)
        · skip
          exfalso; exact c30 (by first | exact keptB_t g30 g30x | exact keptB_m g30 g30x | exact keptB_f g30)
        · skip
          refine W.skip (X.block_normal (X.then_code ?_))
          refine W.pick [51, 50, 49, 48, 47, 46, 45, 44, 43, 42, 41, 40, 39, 38, 37, 36, 35, 34, 7, 6, 33, 32, 26, 31, 30, 29, 28, 27, 23, 22, 21, 20, 5, 1, 0, 4] (Γ' := [(51, .bool (decide ((keptB (((l.take ((min ((l.length : Nat) : Int) 20).toNat)).getD k rawP0).d)) ≠ (decide (((ofR (((l.take ((min ((l.length : Nat) : Int) 20).toNat)).getD k rawP0).d)).1.kind) = (24 : Int)))))), (50, .bool (decide (((ofR (((l.take ((min ((l.length : Nat) : Int) 20).toNat)).getD k rawP0).d)).1.kind) = (24 : Int)))), (49, .bool (decide (((ofR (((l.take ((min ((l.length : Nat) : Int) 20).toNat)).getD k rawP0).d)).1.kind) = (24 : Int)))), (48, .bool (decide (((ofR (((l.take ((min ((l.length : Nat) : Int) 20).toNat)).getD k rawP0).d)).1.kind) = (24 : Int)))), (47, .int .i64 ((ofR (((l.take ((min ((l.length : Nat) : Int) 20).toNat)).getD k rawP0).d)).1.kind)), (46, .pointer (some ⟨w4.heap.size, 0, none⟩)), (45, .bool false), (44, .bool (decide (((ofR (((l.take ((min ((l.length : Nat) : Int) 20).toNat)).getD k rawP0).d)).1.kind) = (23 : Int)))), (43, .int .i64 ((ofR (((l.take ((min ((l.length : Nat) : Int) 20).toNat)).getD k rawP0).d)).1.kind)), (42, .pointer (some ⟨w4.heap.size, 0, none⟩)), (41, .bool true), (40, .bool (decide (((ofR (((l.take ((min ((l.length : Nat) : Int) 20).toNat)).getD k rawP0).d)).2) = (0 : Int)))), (39, .int .i64 ((ofR (((l.take ((min ((l.length : Nat) : Int) 20).toNat)).getD k rawP0).d)).2)), (38, .bool (keptB (((l.take ((min ((l.length : Nat) : Int) 20).toNat)).getD k rawP0).d))), (37, .agg #[.slice (((l.take ((min ((l.length : Nat) : Int) 20).toNat)).getD k rawP0).a) ((((l.take ((min ((l.length : Nat) : Int) 20).toNat)).getD k rawP0).d.nums).length) (((l.take ((min ((l.length : Nat) : Int) 20).toNat)).getD k rawP0).c), .string (((l.take ((min ((l.length : Nat) : Int) 20).toNat)).getD k rawP0).d.text)]), (36, elemPtr (.slice la ((l.take ((min ((l.length : Nat) : Int) 20).toNat)).length) lc) (k * 2)), (35, .int .i64 ((k : Nat) : Int)), (34, .slice la ((l.take ((min ((l.length : Nat) : Int) 20).toNat)).length) lc), (7, .int .i64 ((ofR (((l.take ((min ((l.length : Nat) : Int) 20).toNat)).getD k rawP0).d)).2)), (6, .pointer (some ⟨w4.heap.size, 0, none⟩)), (33, .int .i64 ((ofR (((l.take ((min ((l.length : Nat) : Int) 20).toNat)).getD k rawP0).d)).2)), (32, .agg #[.int .i64 ((ofR (((l.take ((min ((l.length : Nat) : Int) 20).toNat)).getD k rawP0).d)).1.kind), .int .i64 ((ofR (((l.take ((min ((l.length : Nat) : Int) 20).toNat)).getD k rawP0).d)).1.slot), .int .i64 ((ofR (((l.take ((min ((l.length : Nat) : Int) 20).toNat)).getD k rawP0).d)).1.at_), .int .i64 ((ofR (((l.take ((min ((l.length : Nat) : Int) 20).toNat)).getD k rawP0).d)).1.len), .string ((ofR (((l.take ((min ((l.length : Nat) : Int) 20).toNat)).getD k rawP0).d)).1.text)]), (26, .tuple #[.agg #[.int .i64 ((ofR (((l.take ((min ((l.length : Nat) : Int) 20).toNat)).getD k rawP0).d)).1.kind), .int .i64 ((ofR (((l.take ((min ((l.length : Nat) : Int) 20).toNat)).getD k rawP0).d)).1.slot), .int .i64 ((ofR (((l.take ((min ((l.length : Nat) : Int) 20).toNat)).getD k rawP0).d)).1.at_), .int .i64 ((ofR (((l.take ((min ((l.length : Nat) : Int) 20).toNat)).getD k rawP0).d)).1.len), .string ((ofR (((l.take ((min ((l.length : Nat) : Int) 20).toNat)).getD k rawP0).d)).1.text)], .int .i64 ((ofR (((l.take ((min ((l.length : Nat) : Int) 20).toNat)).getD k rawP0).d)).2)]), (31, .tuple #[.agg #[.int .i64 ((ofR (((l.take ((min ((l.length : Nat) : Int) 20).toNat)).getD k rawP0).d)).1.kind), .int .i64 ((ofR (((l.take ((min ((l.length : Nat) : Int) 20).toNat)).getD k rawP0).d)).1.slot), .int .i64 ((ofR (((l.take ((min ((l.length : Nat) : Int) 20).toNat)).getD k rawP0).d)).1.at_), .int .i64 ((ofR (((l.take ((min ((l.length : Nat) : Int) 20).toNat)).getD k rawP0).d)).1.len), .string ((ofR (((l.take ((min ((l.length : Nat) : Int) 20).toNat)).getD k rawP0).d)).1.text)], .int .i64 ((ofR (((l.take ((min ((l.length : Nat) : Int) 20).toNat)).getD k rawP0).d)).2)]), (30, .agg #[.slice (((l.take ((min ((l.length : Nat) : Int) 20).toNat)).getD k rawP0).a) ((((l.take ((min ((l.length : Nat) : Int) 20).toNat)).getD k rawP0).d.nums).length) (((l.take ((min ((l.length : Nat) : Int) 20).toNat)).getD k rawP0).c), .string (((l.take ((min ((l.length : Nat) : Int) 20).toNat)).getD k rawP0).d.text)]), (29, elemPtr (.slice la ((l.take ((min ((l.length : Nat) : Int) 20).toNat)).length) lc) (k * 2)), (28, .int .i64 ((k : Nat) : Int)), (27, .slice la ((l.take ((min ((l.length : Nat) : Int) 20).toNat)).length) lc), (23, .bool (decide (((k : Nat) : Int) < (((l.take ((min ((l.length : Nat) : Int) 20).toNat)).length : Nat) : Int)))), (22, .int .i64 (((l.take ((min ((l.length : Nat) : Int) 20).toNat)).length : Nat) : Int)), (21, .slice la ((l.take ((min ((l.length : Nat) : Int) 20).toNat)).length) lc), (20, .int .i64 ((k : Nat) : Int)), (5, .int .i64 ((k : Nat) : Int)), (1, .slice by_a ((by_.take ((min ((by_.length : Nat) : Int) 25).toNat)).length) by_c), (0, .slice la ((l.take ((min ((l.length : Nat) : Int) 20).toNat)).length) lc), (4, .bool false)]) rfl ?_
          refine W.region ?_
          refine WL.op rfl (d_move rfl ?_)
          refine WL.op rfl (d_add rfl rfl (by omega) (by omega) ?_)
          refine WL.op rfl (d_assign rfl ?_)
          refine WL.done ?_
          exact X.next [5, 1, 0, 4] (Γ' := [(5, .int .i64 (((k + 1) : Nat) : Int)), (1, .slice by_a ((by_.take ((min ((by_.length : Nat) : Int) 25).toNat)).length) by_c), (0, .slice la ((l.take ((min ((l.length : Nat) : Int) 20).toNat)).length) lc), (4, .bool false)]) rfl (20 - (k + 1)) (by omega) ⟨k + 1, rfl, (UpG.of (G := []) (Upd.sel H7 (M := []) (l := []) rfl rfl) rfl), (by first | assumption | omega | simp), rfl⟩
    · skip
      refine WL.opN rfl rfl rfl rfl ?_
      refine WL.opN rfl rfl rfl rfl ?_
      refine WL.opN rfl rfl rfl rfl ?_
      refine WL.opN rfl rfl rfl rfl ?_
      refine WL.opU rfl rfl rfl ?_
      refine WL.opU rfl rfl rfl ?_
      refine WL.opU rfl rfl rfl ?_
      refine WL.opN rfl rfl rfl rfl ?_
      refine WL.op rfl (d_pick rfl rfl ?_)
      refine WL.op rfl (d_boolne Try.underlying4 rfl rfl ?_)
      refine WL.done (X.then_code ?_)
      refine W.pick [51, 50, 49, 48, 47, 46, 45, 44, 43, 42, 41, 40, 39, 38, 37, 36, 35, 34, 7, 6, 33, 32, 26, 31, 30, 29, 28, 27, 23, 22, 21, 20, 5, 1, 0, 4] (Γ' := [(51, .bool (decide ((keptB (((l.take ((min ((l.length : Nat) : Int) 20).toNat)).getD k rawP0).d)) ≠ false))), (50, .bool false), (49, undef), (48, undef), (47, undef), (46, undef), (45, undef), (44, undef), (43, undef), (42, undef), (41, .bool false), (40, .bool (decide (((ofR (((l.take ((min ((l.length : Nat) : Int) 20).toNat)).getD k rawP0).d)).2) = (0 : Int)))), (39, .int .i64 ((ofR (((l.take ((min ((l.length : Nat) : Int) 20).toNat)).getD k rawP0).d)).2)), (38, .bool (keptB (((l.take ((min ((l.length : Nat) : Int) 20).toNat)).getD k rawP0).d))), (37, .agg #[.slice (((l.take ((min ((l.length : Nat) : Int) 20).toNat)).getD k rawP0).a) ((((l.take ((min ((l.length : Nat) : Int) 20).toNat)).getD k rawP0).d.nums).length) (((l.take ((min ((l.length : Nat) : Int) 20).toNat)).getD k rawP0).c), .string (((l.take ((min ((l.length : Nat) : Int) 20).toNat)).getD k rawP0).d.text)]), (36, elemPtr (.slice la ((l.take ((min ((l.length : Nat) : Int) 20).toNat)).length) lc) (k * 2)), (35, .int .i64 ((k : Nat) : Int)), (34, .slice la ((l.take ((min ((l.length : Nat) : Int) 20).toNat)).length) lc), (7, .int .i64 ((ofR (((l.take ((min ((l.length : Nat) : Int) 20).toNat)).getD k rawP0).d)).2)), (6, .pointer (some ⟨w4.heap.size, 0, none⟩)), (33, .int .i64 ((ofR (((l.take ((min ((l.length : Nat) : Int) 20).toNat)).getD k rawP0).d)).2)), (32, .agg #[.int .i64 ((ofR (((l.take ((min ((l.length : Nat) : Int) 20).toNat)).getD k rawP0).d)).1.kind), .int .i64 ((ofR (((l.take ((min ((l.length : Nat) : Int) 20).toNat)).getD k rawP0).d)).1.slot), .int .i64 ((ofR (((l.take ((min ((l.length : Nat) : Int) 20).toNat)).getD k rawP0).d)).1.at_), .int .i64 ((ofR (((l.take ((min ((l.length : Nat) : Int) 20).toNat)).getD k rawP0).d)).1.len), .string ((ofR (((l.take ((min ((l.length : Nat) : Int) 20).toNat)).getD k rawP0).d)).1.text)]), (26, .tuple #[.agg #[.int .i64 ((ofR (((l.take ((min ((l.length : Nat) : Int) 20).toNat)).getD k rawP0).d)).1.kind), .int .i64 ((ofR (((l.take ((min ((l.length : Nat) : Int) 20).toNat)).getD k rawP0).d)).1.slot), .int .i64 ((ofR (((l.take ((min ((l.length : Nat) : Int) 20).toNat)).getD k rawP0).d)).1.at_), .int .i64 ((ofR (((l.take ((min ((l.length : Nat) : Int) 20).toNat)).getD k rawP0).d)).1.len), .string ((ofR (((l.take ((min ((l.length : Nat) : Int) 20).toNat)).getD k rawP0).d)).1.text)], .int .i64 ((ofR (((l.take ((min ((l.length : Nat) : Int) 20).toNat)).getD k rawP0).d)).2)]), (31, .tuple #[.agg #[.int .i64 ((ofR (((l.take ((min ((l.length : Nat) : Int) 20).toNat)).getD k rawP0).d)).1.kind), .int .i64 ((ofR (((l.take ((min ((l.length : Nat) : Int) 20).toNat)).getD k rawP0).d)).1.slot), .int .i64 ((ofR (((l.take ((min ((l.length : Nat) : Int) 20).toNat)).getD k rawP0).d)).1.at_), .int .i64 ((ofR (((l.take ((min ((l.length : Nat) : Int) 20).toNat)).getD k rawP0).d)).1.len), .string ((ofR (((l.take ((min ((l.length : Nat) : Int) 20).toNat)).getD k rawP0).d)).1.text)], .int .i64 ((ofR (((l.take ((min ((l.length : Nat) : Int) 20).toNat)).getD k rawP0).d)).2)]), (30, .agg #[.slice (((l.take ((min ((l.length : Nat) : Int) 20).toNat)).getD k rawP0).a) ((((l.take ((min ((l.length : Nat) : Int) 20).toNat)).getD k rawP0).d.nums).length) (((l.take ((min ((l.length : Nat) : Int) 20).toNat)).getD k rawP0).c), .string (((l.take ((min ((l.length : Nat) : Int) 20).toNat)).getD k rawP0).d.text)]), (29, elemPtr (.slice la ((l.take ((min ((l.length : Nat) : Int) 20).toNat)).length) lc) (k * 2)), (28, .int .i64 ((k : Nat) : Int)), (27, .slice la ((l.take ((min ((l.length : Nat) : Int) 20).toNat)).length) lc), (23, .bool (decide (((k : Nat) : Int) < (((l.take ((min ((l.length : Nat) : Int) 20).toNat)).length : Nat) : Int)))), (22, .int .i64 (((l.take ((min ((l.length : Nat) : Int) 20).toNat)).length : Nat) : Int)), (21, .slice la ((l.take ((min ((l.length : Nat) : Int) 20).toNat)).length) lc), (20, .int .i64 ((k : Nat) : Int)), (5, .int .i64 ((k : Nat) : Int)), (1, .slice by_a ((by_.take ((min ((by_.length : Nat) : Int) 25).toNat)).length) by_c), (0, .slice la ((l.take ((min ((l.length : Nat) : Int) 20).toNat)).length) lc), (4, .bool false)]) rfl ?_
      refine W.ite (p := (keptB (((l.take ((min ((l.length : Nat) : Int) 20).toNat)).getD k rawP0).d)) ≠ false) rfl (fun c30 => ?_) (fun c30 => ?_)
      · skip
        exfalso; exact c30 (by first | exact keptB_t g30 g30x | exact keptB_m g30 g30x | exact keptB_f g30)
      · skip
        refine W.skip (X.block_normal (X.then_code ?_))
        refine W.pick [51, 50, 49, 48, 47, 46, 45, 44, 43, 42, 41, 40, 39, 38, 37, 36, 35, 34, 7, 6, 33, 32, 26, 31, 30, 29, 28, 27, 23, 22, 21, 20, 5, 1, 0, 4] (Γ' := [(51, .bool (decide ((keptB (((l.take ((min ((l.length : Nat) : Int) 20).toNat)).getD k rawP0).d)) ≠ false))), (50, .bool false), (49, undef), (48, undef), (47, undef), (46, undef), (45, undef), (44, undef), (43, undef), (42, undef), (41, .bool false), (40, .bool (decide (((ofR (((l.take ((min ((l.length : Nat) : Int) 20).toNat)).getD k rawP0).d)).2) = (0 : Int)))), (39, .int .i64 ((ofR (((l.take ((min ((l.length : Nat) : Int) 20).toNat)).getD k rawP0).d)).2)), (38, .bool (keptB (((l.take ((min ((l.length : Nat) : Int) 20).toNat)).getD k rawP0).d))), (37, .agg #[.slice (((l.take ((min ((l.length : Nat) : Int) 20).toNat)).getD k rawP0).a) ((((l.take ((min ((l.length : Nat) : Int) 20).toNat)).getD k rawP0).d.nums).length) (((l.take ((min ((l.length : Nat) : Int) 20).toNat)).getD k rawP0).c), .string (((l.take ((min ((l.length : Nat) : Int) 20).toNat)).getD k rawP0).d.text)]), (36, elemPtr (.slice la ((l.take ((min ((l.length : Nat) : Int) 20).toNat)).length) lc) (k * 2)), (35, .int .i64 ((k : Nat) : Int)), (34, .slice la ((l.take ((min ((l.length : Nat) : Int) 20).toNat)).length) lc), (7, .int .i64 ((ofR (((l.take ((min ((l.length : Nat) : Int) 20).toNat)).getD k rawP0).d)).2)), (6, .pointer (some ⟨w4.heap.size, 0, none⟩)), (33, .int .i64 ((ofR (((l.take ((min ((l.length : Nat) : Int) 20).toNat)).getD k rawP0).d)).2)), (32, .agg #[.int .i64 ((ofR (((l.take ((min ((l.length : Nat) : Int) 20).toNat)).getD k rawP0).d)).1.kind), .int .i64 ((ofR (((l.take ((min ((l.length : Nat) : Int) 20).toNat)).getD k rawP0).d)).1.slot), .int .i64 ((ofR (((l.take ((min ((l.length : Nat) : Int) 20).toNat)).getD k rawP0).d)).1.at_), .int .i64 ((ofR (((l.take ((min ((l.length : Nat) : Int) 20).toNat)).getD k rawP0).d)).1.len), .string ((ofR (((l.take ((min ((l.length : Nat) : Int) 20).toNat)).getD k rawP0).d)).1.text)]), (26, .tuple #[.agg #[.int .i64 ((ofR (((l.take ((min ((l.length : Nat) : Int) 20).toNat)).getD k rawP0).d)).1.kind), .int .i64 ((ofR (((l.take ((min ((l.length : Nat) : Int) 20).toNat)).getD k rawP0).d)).1.slot), .int .i64 ((ofR (((l.take ((min ((l.length : Nat) : Int) 20).toNat)).getD k rawP0).d)).1.at_), .int .i64 ((ofR (((l.take ((min ((l.length : Nat) : Int) 20).toNat)).getD k rawP0).d)).1.len), .string ((ofR (((l.take ((min ((l.length : Nat) : Int) 20).toNat)).getD k rawP0).d)).1.text)], .int .i64 ((ofR (((l.take ((min ((l.length : Nat) : Int) 20).toNat)).getD k rawP0).d)).2)]), (31, .tuple #[.agg #[.int .i64 ((ofR (((l.take ((min ((l.length : Nat) : Int) 20).toNat)).getD k rawP0).d)).1.kind), .int .i64 ((ofR (((l.take ((min ((l.length : Nat) : Int) 20).toNat)).getD k rawP0).d)).1.slot), .int .i64 ((ofR (((l.take ((min ((l.length : Nat) : Int) 20).toNat)).getD k rawP0).d)).1.at_), .int .i64 ((ofR (((l.take ((min ((l.length : Nat) : Int) 20).toNat)).getD k rawP0).d)).1.len), .string ((ofR (((l.take ((min ((l.length : Nat) : Int) 20).toNat)).getD k rawP0).d)).1.text)], .int .i64 ((ofR (((l.take ((min ((l.length : Nat) : Int) 20).toNat)).getD k rawP0).d)).2)]), (30, .agg #[.slice (((l.take ((min ((l.length : Nat) : Int) 20).toNat)).getD k rawP0).a) ((((l.take ((min ((l.length : Nat) : Int) 20).toNat)).getD k rawP0).d.nums).length) (((l.take ((min ((l.length : Nat) : Int) 20).toNat)).getD k rawP0).c), .string (((l.take ((min ((l.length : Nat) : Int) 20).toNat)).getD k rawP0).d.text)]), (29, elemPtr (.slice la ((l.take ((min ((l.length : Nat) : Int) 20).toNat)).length) lc) (k * 2)), (28, .int .i64 ((k : Nat) : Int)), (27, .slice la ((l.take ((min ((l.length : Nat) : Int) 20).toNat)).length) lc), (23, .bool (decide (((k : Nat) : Int) < (((l.take ((min ((l.length : Nat) : Int) 20).toNat)).length : Nat) : Int)))), (22, .int .i64 (((l.take ((min ((l.length : Nat) : Int) 20).toNat)).length : Nat) : Int)), (21, .slice la ((l.take ((min ((l.length : Nat) : Int) 20).toNat)).length) lc), (20, .int .i64 ((k : Nat) : Int)), (5, .int .i64 ((k : Nat) : Int)), (1, .slice by_a ((by_.take ((min ((by_.length : Nat) : Int) 25).toNat)).length) by_c), (0, .slice la ((l.take ((min ((l.length : Nat) : Int) 20).toNat)).length) lc), (4, .bool false)]) rfl ?_
        refine W.region ?_
        refine WL.op rfl (d_move rfl ?_)
        refine WL.op rfl (d_add rfl rfl (by omega) (by omega) ?_)
        refine WL.op rfl (d_assign rfl ?_)
        refine WL.done ?_
        exact X.next [5, 1, 0, 4] (Γ' := [(5, .int .i64 (((k + 1) : Nat) : Int)), (1, .slice by_a ((by_.take ((min ((by_.length : Nat) : Int) 25).toNat)).length) by_c), (0, .slice la ((l.take ((min ((l.length : Nat) : Int) 20).toNat)).length) lc), (4, .bool false)]) rfl (20 - (k + 1)) (by omega) ⟨k + 1, rfl, (UpG.of (G := []) (Upd.sel H7 (M := []) (l := []) rfl rfl) rfl), (by first | assumption | omega | simp), rfl⟩
  · skip
    refine W.exit (X.then_exit (X.then_exit (X.block_exit (X.then_code ?_))))
    refine W.seq ?_
    refine W.region ?_
    refine WL.op rfl (d_move rfl ?_)
    refine WL.op rfl (d_move rfl ?_)
    refine WL.op rfl (d_call ok36 rfl (Ret.calls (mix_any la (l.take ((min ((l.length : Nat) : Int) 20).toNat)) lc by_a (by_.take ((min ((by_.length : Nat) : Int) 25).toNat)) by_c w3 (rs1.at H3) (rs2.at H3) ((dl.at H3).take ((min ((l.length : Nat) : Int) 20).toNat)) (fun p hp => hsz p (List.mem_of_mem_take hp)) (by simp; omega)) fun _ w8 p4 => ?_))
    obtain ⟨a2_1, qs_1, c2_1, rfl, u6, q1⟩ := p4
    have H8 : UpG w [] w8 [[rowT tyRawP (.slice a2_1 qs_1.length c2_1) 53 qs_1], [manyF inRaw.row qs_1]] := (H3.new' u6).re rfl
    refine WL.op rfl (d_move rfl ?_)
    refine WL.op rfl (d_move rfl ?_)
    refine WL.op rfl (d_call ok37 rfl (Ret.calls (refMix_any la (l.take ((min ((l.length : Nat) : Int) 20).toNat)) lc by_a (by_.take ((min ((by_.length : Nat) : Int) 25).toNat)) by_c w8 (rs1.at H8) (rs2.at H8) ((dl.at H8).take ((min ((l.length : Nat) : Int) 20).toNat)) (by simp; omega)) fun _ w9 p5 => ?_))
    obtain ⟨a2_2, qs_2, c2_2, ns_1, rfl, u7, q2, q3, q4⟩ := p5
    have H9 : UpG w [] w9 [[rowT tyRawP (.slice a2_1 qs_1.length c2_1) 53 qs_1], [manyF inRaw.row qs_1], [rowT tyRawP (.slice a2_2 qs_2.length c2_2) 53 qs_2], [manyF inRaw.row ns_1]] := (H8.new' u7).re rfl
    refine WL.op rfl (d_call ok35 rfl (Ret.calls (rawsSame_any a2_1 qs_1 c2_1 a2_2 qs_2 c2_2 w9 (H9.rdT 0 rfl) (H9.rdT 2 rfl) (Inn.own (H9.hpOf 1 rfl)) (Inn.Rd.of_mem ((dl.at H9).take ((min ((l.length : Nat) : Int) 20).toNat)) (Inn.own (H9.hpOf 3 rfl)) q3) ) fun _ w10 p6 => ?_))
    obtain ⟨rfl, u8⟩ := p6
    have H10 : UpG w [] w10 [[rowT tyRawP (.slice a2_1 qs_1.length c2_1) 53 qs_1], [manyF inRaw.row qs_1], [rowT tyRawP (.slice a2_2 qs_2.length c2_2) 53 qs_2], [manyF inRaw.row ns_1]] := H9.call u8
    refine WL.op rfl (d_assign rfl ?_)
    refine WL.done (X.then_code ?_)
    refine W.ret (X.ret1 rfl rfl ?_)
    exact ⟨(by rw [decide_eq_true (q1.trans q2.symm)]), H10.noneL⟩
end Go.Proofs.Ytkdcmklkggnblaa
