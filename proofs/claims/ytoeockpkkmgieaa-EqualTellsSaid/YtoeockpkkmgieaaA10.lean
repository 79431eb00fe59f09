/- The walks of functions, printed by wip/tools/gw.py. -/
import Derived.Test.YtoeockpkkmgieaaF2
import Derived.Test.YtoeockpkkmgieaaSx7
import Derived.Test.YtoeockpkkmgieaaA8
import Derived.Test.YtoeockpkkmgieaaDfa5
namespace Go.Proofs.Ytoeockpkkmgieaa
open Go Go.Sx
set_option linter.unusedVariables false
set_option linter.unusedSimpArgs false
set_option maxRecDepth 20000 in
theorem equalI_any (xsa : Option Addr) (xs : List Int) (xsc : Nat) (ysa : Option Addr) (ys : List Int) (ysc : Nat) (w : World) (rxs : RdT (tyI .i64) w (.slice xsa xs.length xsc) xs) (rys : RdT (tyI .i64) w (.slice ysa ys.length ysc) ys) :
    Calls Try.prog 72 #[.slice xsa xs.length xsc, .slice ysa ys.length ysc] w (Ret fun v w' => v = .bool (decide (xs = ys)) ∧ Upd w [] w' []) := by
  have le_rxs := rxs.le
  have le_rys := rys.le
  refine calls_of_W (args := [.slice xsa xs.length xsc, .slice ysa ys.length ysc]) Try.func72 rfl rfl rfl ?_
  have H0 : UpG w [] w [] := UpG.nil w
  show W _ _ _ _ [(0, .slice xsa xs.length xsc), (1, .slice ysa ys.length ysc)] w
  refine W.seq ?_
  refine W.region ?_
  refine WL.op rfl (d_assign rfl ?_)
  refine WL.done (X.then_code ?_)
  refine W.seq ?_
  refine W.seq ?_
  refine W.region ?_
  refine WL.op rfl (d_move rfl ?_)
  refine WL.op rfl (d_lenS Try.underlying22 rfl ?_)
  refine WL.op rfl (d_move rfl ?_)
  refine WL.op rfl (d_lenS Try.underlying22 rfl ?_)
  refine WL.op rfl (d_cmp (decide (((xs.length : Nat) : Int) ≠ ((ys.length : Nat) : Int))) rfl rfl rfl ?_)
  refine WL.done (X.then_code ?_)
  refine W.ite (p := ((xs.length : Nat) : Int) ≠ ((ys.length : Nat) : Int)) rfl (fun c21 => ?_) (fun c21 => ?_)
  · skip
    refine W.seq ?_
    refine W.region ?_
    refine WL.op rfl (d_assign rfl ?_)
    refine WL.done (X.then_code ?_)
    refine W.ret (X.then_ret (X.ret1 rfl rfl ?_))
    exact ⟨(by rw [decide_eq_false (by rintro rfl; omega)]), H0.noneL⟩
  · skip
    refine W.skip (X.then_code ?_)
    refine W.seq ?_
    refine W.seq ?_
    refine W.region ?_
    refine WL.op rfl (d_move rfl ?_)
    refine WL.op rfl (d_lenS Try.underlying22 rfl ?_)
    refine WL.op rfl (d_move rfl ?_)
    refine WL.done (X.then_code ?_)
    refine W.block ?_
    refine W.pick [13, 12, 4, 0, 1] (Γ' := [(13, .int .i64 0), (12, .int .i64 ((xs.length : Nat) : Int)), (4, .bool false), (0, .slice xsa xs.length xsc), (1, .slice ysa ys.length ysc)]) rfl ?_
    refine W.loop (fun m Γ' w' => ∃ k : Nat, Γ' = [(13, .int .i64 ((k : Nat) : Int)), (12, .int .i64 ((xs.length : Nat) : Int)), (4, .bool false), (0, .slice xsa xs.length xsc), (1, .slice ysa ys.length ysc)] ∧ UpG w [] w' [] ∧ (k ≤ xs.length) ∧ (∀ i, i < k → xs.getD i 0 = ys.getD i 0) ∧ m = xs.length - k) (xs.length - 0) ⟨0, rfl, H0, (by first | assumption | omega | simp), (by intro i hi; omega), rfl⟩ ?_
    rintro m1 Γ1 w1 ⟨k, rfl, H1, hk, he, rfl⟩
    refine W.seq ?_
    refine W.region ?_
    refine WL.op rfl (d_cmp (decide (((k : Nat) : Int) < ((xs.length : Nat) : Int))) rfl rfl rfl ?_)
    refine WL.done (X.then_code ?_)
    refine W.seq ?_
    refine W.ite (p := ((k : Nat) : Int) < ((xs.length : Nat) : Int)) rfl (fun c24 => ?_) (fun c24 => ?_)
    · skip
      refine W.skip (X.then_code ?_)
      refine W.seq ?_
      refine W.block ?_
      refine W.seq ?_
      refine W.region ?_
      refine WL.op rfl (d_move rfl ?_)
      refine WL.op rfl (d_assign rfl ?_)
      refine WL.done (X.then_code ?_)
      refine W.seq ?_
      refine W.regionD mixed (by kernel_rfl) fun hok1 w2 k1 => ?_
      have H2 : UpG w [] w2 [] := H1.kept k1
      refine WD.take hok1 0 (.slice xsa xs.length xsc) (fun _ => True) rfl rfl rfl rfl rfl trivial (.inl ⟨rfl, fun _ _ => d_move rfl ⟨rfl, rfl⟩⟩) ?_
      refine WD.take hok1 1 (.int .i64 ((k : Nat) : Int)) (fun _ => True) rfl rfl rfl rfl rfl trivial (.inl ⟨rfl, fun _ _ => d_move rfl ⟨rfl, rfl⟩⟩) ?_
      refine WD.take hok1 2 (elemPtr (.slice xsa xs.length xsc) k) (fun w' => RdT (tyI .i64) w' (.slice xsa xs.length xsc) xs) rfl rfl rfl rfl rfl (rxs.at H2) (.inl ⟨rfl, fun _ hC => t_addr1 k (T := (tyI .i64)) rfl Try.underlying22 sz3 rfl rfl hC rfl (by omega) ⟨rfl, rfl⟩⟩) ?_
      refine WD.take hok1 3 (.int .i64 (xs.getD k 0)) (fun w' => RdT (tyI .i64) w' (.slice xsa xs.length xsc) xs) rfl rfl rfl rfl rfl (rxs.at H2) (.inl ⟨rfl, fun _ hC => t_load1 k 0 (T := (tyI .i64)) rfl Try.underlying3 rfl rfl hC (by omega) rfl ⟨rfl, rfl⟩⟩) ?_
      refine WD.take hok1 4 (.slice ysa ys.length ysc) (fun _ => True) rfl rfl rfl rfl rfl trivial (.inl ⟨rfl, fun _ _ => d_move rfl ⟨rfl, rfl⟩⟩) ?_
      refine WD.take hok1 5 (.int .i64 ((k : Nat) : Int)) (fun _ => True) rfl rfl rfl rfl rfl trivial (.inl ⟨rfl, fun _ _ => d_move rfl ⟨rfl, rfl⟩⟩) ?_
      refine WD.take hok1 6 (elemPtr (.slice ysa ys.length ysc) k) (fun w' => RdT (tyI .i64) w' (.slice ysa ys.length ysc) ys) rfl rfl rfl rfl rfl (rys.at H2) (.inl ⟨rfl, fun _ hC => t_addr1 k (T := (tyI .i64)) rfl Try.underlying22 sz3 rfl rfl hC rfl (by omega) ⟨rfl, rfl⟩⟩) ?_
      refine WD.take hok1 7 (.int .i64 (ys.getD k 0)) (fun w' => RdT (tyI .i64) w' (.slice ysa ys.length ysc) ys) rfl rfl rfl rfl rfl (rys.at H2) (.inl ⟨rfl, fun _ hC => t_load1 k 0 (T := (tyI .i64)) rfl Try.underlying3 rfl rfl hC (by omega) rfl ⟨rfl, rfl⟩⟩) ?_
      refine WD.take hok1 8 (.bool (decide ((xs.getD k 0) ≠ (ys.getD k 0)))) (fun _ => True) rfl rfl rfl rfl rfl trivial (.inl ⟨rfl, fun _ _ => d_cmp (decide ((xs.getD k 0) ≠ (ys.getD k 0))) rfl rfl rfl ⟨rfl, rfl⟩⟩) ?_
      refine WD.done hok1 rfl (X.then_code ?_)
      refine W.pick [24, 23, 22, 21, 20, 19, 18, 17, 16, 5, 15, 14, 13, 12, 4, 0, 1] (Γ' := [(24, .bool (decide ((xs.getD k 0) ≠ (ys.getD k 0)))), (23, .int .i64 (ys.getD k 0)), (22, elemPtr (.slice ysa ys.length ysc) k), (21, .int .i64 ((k : Nat) : Int)), (20, .slice ysa ys.length ysc), (19, .int .i64 (xs.getD k 0)), (18, elemPtr (.slice xsa xs.length xsc) k), (17, .int .i64 ((k : Nat) : Int)), (16, .slice xsa xs.length xsc), (5, .int .i64 ((k : Nat) : Int)), (15, .int .i64 ((k : Nat) : Int)), (14, .bool (decide (((k : Nat) : Int) < ((xs.length : Nat) : Int)))), (13, .int .i64 ((k : Nat) : Int)), (12, .int .i64 ((xs.length : Nat) : Int)), (4, .bool false), (0, .slice xsa xs.length xsc), (1, .slice ysa ys.length ysc)]) rfl ?_
      refine W.ite (p := (xs.getD k 0) ≠ (ys.getD k 0)) rfl (fun c25 => ?_) (fun c25 => ?_)
      · skip
        refine W.seq ?_
        refine W.region ?_
        refine WL.op rfl (d_assign rfl ?_)
        refine WL.done (X.then_code ?_)
        refine W.pick [4, 24, 23, 22, 21, 20, 19, 18, 17, 16, 5, 15, 14, 13, 12, 0, 1] (Γ' := [(4, .bool false), (24, .bool (decide ((xs.getD k 0) ≠ (ys.getD k 0)))), (23, .int .i64 (ys.getD k 0)), (22, elemPtr (.slice ysa ys.length ysc) k), (21, .int .i64 ((k : Nat) : Int)), (20, .slice ysa ys.length ysc), (19, .int .i64 (xs.getD k 0)), (18, elemPtr (.slice xsa xs.length xsc) k), (17, .int .i64 ((k : Nat) : Int)), (16, .slice xsa xs.length xsc), (5, .int .i64 ((k : Nat) : Int)), (15, .int .i64 ((k : Nat) : Int)), (14, .bool (decide (((k : Nat) : Int) < ((xs.length : Nat) : Int)))), (13, .int .i64 ((k : Nat) : Int)), (12, .int .i64 ((xs.length : Nat) : Int)), (0, .slice xsa xs.length xsc), (1, .slice ysa ys.length ysc)]) rfl ?_
        refine W.ret (X.block_ret (X.then_ret (X.then_ret (X.block_ret (X.then_ret (X.ret1 rfl rfl ?_))))))
        exact ⟨(by rw [decide_eq_false (by rintro rfl; exact c25 rfl)]), H2.noneL⟩
      · skip
        refine W.skip (X.block_normal (X.then_code ?_))
        refine W.pick [24, 23, 22, 21, 20, 19, 18, 17, 16, 5, 15, 14, 13, 12, 4, 0, 1] (Γ' := [(24, .bool (decide ((xs.getD k 0) ≠ (ys.getD k 0)))), (23, .int .i64 (ys.getD k 0)), (22, elemPtr (.slice ysa ys.length ysc) k), (21, .int .i64 ((k : Nat) : Int)), (20, .slice ysa ys.length ysc), (19, .int .i64 (xs.getD k 0)), (18, elemPtr (.slice xsa xs.length xsc) k), (17, .int .i64 ((k : Nat) : Int)), (16, .slice xsa xs.length xsc), (5, .int .i64 ((k : Nat) : Int)), (15, .int .i64 ((k : Nat) : Int)), (14, .bool (decide (((k : Nat) : Int) < ((xs.length : Nat) : Int)))), (13, .int .i64 ((k : Nat) : Int)), (12, .int .i64 ((xs.length : Nat) : Int)), (4, .bool false), (0, .slice xsa xs.length xsc), (1, .slice ysa ys.length ysc)]) rfl ?_
        refine W.region ?_
        refine WL.op rfl (d_add rfl rfl (by omega) (by omega) ?_)
        refine WL.op rfl (d_move rfl ?_)
        refine WL.done ?_
        exact X.next [13, 12, 4, 0, 1] (Γ' := [(13, .int .i64 (((k + 1) : Nat) : Int)), (12, .int .i64 ((xs.length : Nat) : Int)), (4, .bool false), (0, .slice xsa xs.length xsc), (1, .slice ysa ys.length ysc)]) rfl (xs.length - (k + 1)) (by omega) ⟨k + 1, rfl, H2, (by first | assumption | omega | simp), (by exact all_step he (by first | omega | (rcases h1 : xs.getD k 0 with _ | _ <;> rcases h2 : ys.getD k 0 with _ | _ <;> simp_all))), rfl⟩
    · skip
      refine W.exit (X.then_exit (X.then_exit (X.block_exit (X.then_code ?_))))
      refine W.seq ?_
      refine W.region ?_
      refine WL.op rfl (d_assign rfl ?_)
      refine WL.done (X.then_code ?_)
      refine W.ret (X.ret1 rfl rfl ?_)
      exact ⟨(by rw [decide_eq_true (list_eq_of (d := 0) (by omega) (fun i hi => he i (by omega)))]), H1.noneL⟩

set_option maxRecDepth 20000 in
theorem equalB_any (xsa : Option Addr) (xs : List Bool) (xsc : Nat) (ysa : Option Addr) (ys : List Bool) (ysc : Nat) (w : World) (rxs : RdT tyB w (.slice xsa xs.length xsc) xs) (rys : RdT tyB w (.slice ysa ys.length ysc) ys) :
    Calls Try.prog 75 #[.slice xsa xs.length xsc, .slice ysa ys.length ysc] w (Ret fun v w' => v = .bool (decide (xs = ys)) ∧ Upd w [] w' []) := by
  have le_rxs := rxs.le
  have le_rys := rys.le
  refine calls_of_W (args := [.slice xsa xs.length xsc, .slice ysa ys.length ysc]) Try.func75 rfl rfl rfl ?_
  have H0 : UpG w [] w [] := UpG.nil w
  show W _ _ _ _ [(0, .slice xsa xs.length xsc), (1, .slice ysa ys.length ysc)] w
  refine W.seq ?_
  refine W.region ?_
  refine WL.op rfl (d_assign rfl ?_)
  refine WL.done (X.then_code ?_)
  refine W.seq ?_
  refine W.seq ?_
  refine W.region ?_
  refine WL.op rfl (d_move rfl ?_)
  refine WL.op rfl (d_lenS Try.underlying23 rfl ?_)
  refine WL.op rfl (d_move rfl ?_)
  refine WL.op rfl (d_lenS Try.underlying23 rfl ?_)
  refine WL.op rfl (d_cmp (decide (((xs.length : Nat) : Int) ≠ ((ys.length : Nat) : Int))) rfl rfl rfl ?_)
  refine WL.done (X.then_code ?_)
  refine W.ite (p := ((xs.length : Nat) : Int) ≠ ((ys.length : Nat) : Int)) rfl (fun c21 => ?_) (fun c21 => ?_)
  · skip
    refine W.seq ?_
    refine W.region ?_
    refine WL.op rfl (d_assign rfl ?_)
    refine WL.done (X.then_code ?_)
    refine W.ret (X.then_ret (X.ret1 rfl rfl ?_))
    exact ⟨(by rw [decide_eq_false (by rintro rfl; omega)]), H0.noneL⟩
  · skip
    refine W.skip (X.then_code ?_)
    refine W.seq ?_
    refine W.seq ?_
    refine W.region ?_
    refine WL.op rfl (d_move rfl ?_)
    refine WL.op rfl (d_lenS Try.underlying23 rfl ?_)
    refine WL.op rfl (d_move rfl ?_)
    refine WL.done (X.then_code ?_)
    refine W.block ?_
    refine W.pick [13, 12, 4, 0, 1] (Γ' := [(13, .int .i64 0), (12, .int .i64 ((xs.length : Nat) : Int)), (4, .bool false), (0, .slice xsa xs.length xsc), (1, .slice ysa ys.length ysc)]) rfl ?_
    refine W.loop (fun m Γ' w' => ∃ k : Nat, Γ' = [(13, .int .i64 ((k : Nat) : Int)), (12, .int .i64 ((xs.length : Nat) : Int)), (4, .bool false), (0, .slice xsa xs.length xsc), (1, .slice ysa ys.length ysc)] ∧ UpG w [] w' [] ∧ (k ≤ xs.length) ∧ (∀ i, i < k → xs.getD i false = ys.getD i false) ∧ m = xs.length - k) (xs.length - 0) ⟨0, rfl, H0, (by first | assumption | omega | simp), (by intro i hi; omega), rfl⟩ ?_
    rintro m1 Γ1 w1 ⟨k, rfl, H1, hk, he, rfl⟩
    refine W.seq ?_
    refine W.region ?_
    refine WL.op rfl (d_cmp (decide (((k : Nat) : Int) < ((xs.length : Nat) : Int))) rfl rfl rfl ?_)
    refine WL.done (X.then_code ?_)
    refine W.seq ?_
    refine W.ite (p := ((k : Nat) : Int) < ((xs.length : Nat) : Int)) rfl (fun c24 => ?_) (fun c24 => ?_)
    · skip
      refine W.skip (X.then_code ?_)
      refine W.seq ?_
      refine W.block ?_
      refine W.seq ?_
      refine W.region ?_
      refine WL.op rfl (d_move rfl ?_)
      refine WL.op rfl (d_assign rfl ?_)
      refine WL.done (X.then_code ?_)
      refine W.seq ?_
      refine W.regionD mixed (by kernel_rfl) fun hok1 w2 k1 => ?_
      have H2 : UpG w [] w2 [] := H1.kept k1
      refine WD.take hok1 0 (.slice xsa xs.length xsc) (fun _ => True) rfl rfl rfl rfl rfl trivial (.inl ⟨rfl, fun _ _ => d_move rfl ⟨rfl, rfl⟩⟩) ?_
      refine WD.take hok1 1 (.int .i64 ((k : Nat) : Int)) (fun _ => True) rfl rfl rfl rfl rfl trivial (.inl ⟨rfl, fun _ _ => d_move rfl ⟨rfl, rfl⟩⟩) ?_
      refine WD.take hok1 2 (elemPtr (.slice xsa xs.length xsc) k) (fun w' => RdT tyB w' (.slice xsa xs.length xsc) xs) rfl rfl rfl rfl rfl (rxs.at H2) (.inl ⟨rfl, fun _ hC => t_addr1 k (T := tyB) rfl Try.underlying23 sz4 rfl rfl hC rfl (by omega) ⟨rfl, rfl⟩⟩) ?_
      refine WD.take hok1 3 (.bool (xs.getD k false)) (fun w' => RdT tyB w' (.slice xsa xs.length xsc) xs) rfl rfl rfl rfl rfl (rxs.at H2) (.inl ⟨rfl, fun _ hC => t_load1 k false (T := tyB) rfl Try.underlying4 rfl rfl hC (by omega) rfl ⟨rfl, rfl⟩⟩) ?_
      refine WD.take hok1 4 (.slice ysa ys.length ysc) (fun _ => True) rfl rfl rfl rfl rfl trivial (.inl ⟨rfl, fun _ _ => d_move rfl ⟨rfl, rfl⟩⟩) ?_
      refine WD.take hok1 5 (.int .i64 ((k : Nat) : Int)) (fun _ => True) rfl rfl rfl rfl rfl trivial (.inl ⟨rfl, fun _ _ => d_move rfl ⟨rfl, rfl⟩⟩) ?_
      refine WD.take hok1 6 (elemPtr (.slice ysa ys.length ysc) k) (fun w' => RdT tyB w' (.slice ysa ys.length ysc) ys) rfl rfl rfl rfl rfl (rys.at H2) (.inl ⟨rfl, fun _ hC => t_addr1 k (T := tyB) rfl Try.underlying23 sz4 rfl rfl hC rfl (by omega) ⟨rfl, rfl⟩⟩) ?_
      refine WD.take hok1 7 (.bool (ys.getD k false)) (fun w' => RdT tyB w' (.slice ysa ys.length ysc) ys) rfl rfl rfl rfl rfl (rys.at H2) (.inl ⟨rfl, fun _ hC => t_load1 k false (T := tyB) rfl Try.underlying4 rfl rfl hC (by omega) rfl ⟨rfl, rfl⟩⟩) ?_
      refine WD.take hok1 8 (.bool (decide ((xs.getD k false) ≠ (ys.getD k false)))) (fun _ => True) rfl rfl rfl rfl rfl trivial (.inl ⟨rfl, fun _ _ => d_boolne Try.underlying4 rfl rfl ⟨rfl, rfl⟩⟩) ?_
      refine WD.done hok1 rfl (X.then_code ?_)
      refine W.pick [24, 23, 22, 21, 20, 19, 18, 17, 16, 5, 15, 14, 13, 12, 4, 0, 1] (Γ' := [(24, .bool (decide ((xs.getD k false) ≠ (ys.getD k false)))), (23, .bool (ys.getD k false)), (22, elemPtr (.slice ysa ys.length ysc) k), (21, .int .i64 ((k : Nat) : Int)), (20, .slice ysa ys.length ysc), (19, .bool (xs.getD k false)), (18, elemPtr (.slice xsa xs.length xsc) k), (17, .int .i64 ((k : Nat) : Int)), (16, .slice xsa xs.length xsc), (5, .int .i64 ((k : Nat) : Int)), (15, .int .i64 ((k : Nat) : Int)), (14, .bool (decide (((k : Nat) : Int) < ((xs.length : Nat) : Int)))), (13, .int .i64 ((k : Nat) : Int)), (12, .int .i64 ((xs.length : Nat) : Int)), (4, .bool false), (0, .slice xsa xs.length xsc), (1, .slice ysa ys.length ysc)]) rfl ?_
      refine W.ite (p := (xs.getD k false) ≠ (ys.getD k false)) rfl (fun c25 => ?_) (fun c25 => ?_)
      · skip
        refine W.seq ?_
        refine W.region ?_
        refine WL.op rfl (d_assign rfl ?_)
        refine WL.done (X.then_code ?_)
        refine W.pick [4, 24, 23, 22, 21, 20, 19, 18, 17, 16, 5, 15, 14, 13, 12, 0, 1] (Γ' := [(4, .bool false), (24, .bool (decide ((xs.getD k false) ≠ (ys.getD k false)))), (23, .bool (ys.getD k false)), (22, elemPtr (.slice ysa ys.length ysc) k), (21, .int .i64 ((k : Nat) : Int)), (20, .slice ysa ys.length ysc), (19, .bool (xs.getD k false)), (18, elemPtr (.slice xsa xs.length xsc) k), (17, .int .i64 ((k : Nat) : Int)), (16, .slice xsa xs.length xsc), (5, .int .i64 ((k : Nat) : Int)), (15, .int .i64 ((k : Nat) : Int)), (14, .bool (decide (((k : Nat) : Int) < ((xs.length : Nat) : Int)))), (13, .int .i64 ((k : Nat) : Int)), (12, .int .i64 ((xs.length : Nat) : Int)), (0, .slice xsa xs.length xsc), (1, .slice ysa ys.length ysc)]) rfl ?_
        refine W.ret (X.block_ret (X.then_ret (X.then_ret (X.block_ret (X.then_ret (X.ret1 rfl rfl ?_))))))
        exact ⟨(by rw [decide_eq_false (by rintro rfl; exact c25 rfl)]), H2.noneL⟩
      · skip
        refine W.skip (X.block_normal (X.then_code ?_))
        refine W.pick [24, 23, 22, 21, 20, 19, 18, 17, 16, 5, 15, 14, 13, 12, 4, 0, 1] (Γ' := [(24, .bool (decide ((xs.getD k false) ≠ (ys.getD k false)))), (23, .bool (ys.getD k false)), (22, elemPtr (.slice ysa ys.length ysc) k), (21, .int .i64 ((k : Nat) : Int)), (20, .slice ysa ys.length ysc), (19, .bool (xs.getD k false)), (18, elemPtr (.slice xsa xs.length xsc) k), (17, .int .i64 ((k : Nat) : Int)), (16, .slice xsa xs.length xsc), (5, .int .i64 ((k : Nat) : Int)), (15, .int .i64 ((k : Nat) : Int)), (14, .bool (decide (((k : Nat) : Int) < ((xs.length : Nat) : Int)))), (13, .int .i64 ((k : Nat) : Int)), (12, .int .i64 ((xs.length : Nat) : Int)), (4, .bool false), (0, .slice xsa xs.length xsc), (1, .slice ysa ys.length ysc)]) rfl ?_
        refine W.region ?_
        refine WL.op rfl (d_add rfl rfl (by omega) (by omega) ?_)
        refine WL.op rfl (d_move rfl ?_)
        refine WL.done ?_
        exact X.next [13, 12, 4, 0, 1] (Γ' := [(13, .int .i64 (((k + 1) : Nat) : Int)), (12, .int .i64 ((xs.length : Nat) : Int)), (4, .bool false), (0, .slice xsa xs.length xsc), (1, .slice ysa ys.length ysc)]) rfl (xs.length - (k + 1)) (by omega) ⟨k + 1, rfl, H2, (by first | assumption | omega | simp), (by exact all_step he (by first | omega | (rcases h1 : xs.getD k false with _ | _ <;> rcases h2 : ys.getD k false with _ | _ <;> simp_all))), rfl⟩
    · skip
      refine W.exit (X.then_exit (X.then_exit (X.block_exit (X.then_code ?_))))
      refine W.seq ?_
      refine W.region ?_
      refine WL.op rfl (d_assign rfl ?_)
      refine WL.done (X.then_code ?_)
      refine W.ret (X.ret1 rfl rfl ?_)
      exact ⟨(by rw [decide_eq_true (list_eq_of (d := false) (by omega) (fun i hi => he i (by omega)))]), H1.noneL⟩

set_option maxRecDepth 20000 in
theorem same10_any (xsa : Option Addr) (xs : List Int) (xsc : Nat) (ysa : Option Addr) (ys : List Int) (ysc : Nat) (w : World) (rxs : RdT (tyI .i64) w (.slice xsa xs.length xsc) xs) (rys : RdT (tyI .i64) w (.slice ysa ys.length ysc) ys) :
    Calls Try.prog 32 #[.slice xsa xs.length xsc, .slice ysa ys.length ysc] w (Ret fun v w' => v = .bool (decide (xs = ys)) ∧ Upd w [] w' []) := by
  have le_rxs := rxs.le
  have le_rys := rys.le
  refine calls_of_W (args := [.slice xsa xs.length xsc, .slice ysa ys.length ysc]) Try.func32 rfl rfl rfl ?_
  have H0 : UpG w [] w [] := UpG.nil w
  show W _ _ _ _ [(0, .slice xsa xs.length xsc), (1, .slice ysa ys.length ysc)] w
  refine W.seq ?_
  refine W.region ?_
  refine WL.op rfl (d_assign rfl ?_)
  refine WL.done (X.then_code ?_)
  refine W.seq ?_
  refine W.seq ?_
  refine W.region ?_
  refine WL.op rfl (d_move rfl ?_)
  refine WL.op rfl (d_lenS Try.underlying22 rfl ?_)
  refine WL.op rfl (d_move rfl ?_)
  refine WL.op rfl (d_lenS Try.underlying22 rfl ?_)
  refine WL.op rfl (d_cmp (decide (((xs.length : Nat) : Int) ≠ ((ys.length : Nat) : Int))) rfl rfl rfl ?_)
  refine WL.done (X.then_code ?_)
  refine W.ite (p := ((xs.length : Nat) : Int) ≠ ((ys.length : Nat) : Int)) rfl (fun c92 => ?_) (fun c92 => ?_)
  · skip
    refine W.seq ?_
    refine W.region ?_
    refine WL.op rfl (d_assign rfl ?_)
    refine WL.done (X.then_code ?_)
    refine W.ret (X.then_ret (X.ret1 rfl rfl ?_))
    exact ⟨(by rw [decide_eq_false (by rintro rfl; omega)]), H0.noneL⟩
  · skip
    refine W.skip (X.then_code ?_)
    refine W.seq ?_
    refine W.seq ?_
    refine W.region ?_
    refine WL.op rfl (d_assign rfl ?_)
    refine WL.done (X.then_code ?_)
    refine W.block ?_
    refine W.pick [5, 4, 0, 1] (Γ' := [(5, .int .i64 0), (4, .bool false), (0, .slice xsa xs.length xsc), (1, .slice ysa ys.length ysc)]) rfl ?_
    refine W.loop (fun m Γ' w' => ∃ k : Nat, Γ' = [(5, .int .i64 ((k : Nat) : Int)), (4, .bool false), (0, .slice xsa xs.length xsc), (1, .slice ysa ys.length ysc)] ∧ UpG w [] w' [] ∧ (k ≤ xs.length) ∧ (∀ i, i < k → xs.getD i 0 = ys.getD i 0) ∧ m = xs.length - k) (xs.length - 0) ⟨0, rfl, H0, (by first | assumption | omega | simp), (by intro i hi; omega), rfl⟩ ?_
    rintro m1 Γ1 w1 ⟨k, rfl, H1, hk, he, rfl⟩
    refine W.seq ?_
    refine W.seq ?_
    refine W.region ?_
    refine WL.op rfl (d_move rfl ?_)
    refine WL.op rfl (d_move rfl ?_)
    refine WL.op rfl (d_lenS Try.underlying22 rfl ?_)
    refine WL.op rfl (d_cmp (decide (((k : Nat) : Int) < ((xs.length : Nat) : Int))) rfl rfl rfl ?_)
    refine WL.done (X.then_code ?_)
    refine W.ite (p := ((k : Nat) : Int) < ((xs.length : Nat) : Int)) rfl (fun c95 => ?_) (fun c95 => ?_)
    · skip
      refine W.skip (X.then_code ?_)
      refine W.seq ?_
      refine W.block ?_
      refine W.seq ?_
      refine W.regionD mixed (by kernel_rfl) fun hok1 w2 k1 => ?_
      have H2 : UpG w [] w2 [] := H1.kept k1
      refine WD.take hok1 0 (.slice xsa xs.length xsc) (fun _ => True) rfl rfl rfl rfl rfl trivial (.inl ⟨rfl, fun _ _ => d_move rfl ⟨rfl, rfl⟩⟩) ?_
      refine WD.take hok1 1 (.int .i64 ((k : Nat) : Int)) (fun _ => True) rfl rfl rfl rfl rfl trivial (.inl ⟨rfl, fun _ _ => d_move rfl ⟨rfl, rfl⟩⟩) ?_
      refine WD.take hok1 2 (elemPtr (.slice xsa xs.length xsc) k) (fun w' => RdT (tyI .i64) w' (.slice xsa xs.length xsc) xs) rfl rfl rfl rfl rfl (rxs.at H2) (.inl ⟨rfl, fun _ hC => t_addr1 k (T := (tyI .i64)) rfl Try.underlying22 sz3 rfl rfl hC rfl (by omega) ⟨rfl, rfl⟩⟩) ?_
      refine WD.take hok1 3 (.int .i64 (xs.getD k 0)) (fun w' => RdT (tyI .i64) w' (.slice xsa xs.length xsc) xs) rfl rfl rfl rfl rfl (rxs.at H2) (.inl ⟨rfl, fun _ hC => t_load1 k 0 (T := (tyI .i64)) rfl Try.underlying3 rfl rfl hC (by omega) rfl ⟨rfl, rfl⟩⟩) ?_
      refine WD.take hok1 4 (.slice ysa ys.length ysc) (fun _ => True) rfl rfl rfl rfl rfl trivial (.inl ⟨rfl, fun _ _ => d_move rfl ⟨rfl, rfl⟩⟩) ?_
      refine WD.take hok1 5 (.int .i64 ((k : Nat) : Int)) (fun _ => True) rfl rfl rfl rfl rfl trivial (.inl ⟨rfl, fun _ _ => d_move rfl ⟨rfl, rfl⟩⟩) ?_
      refine WD.take hok1 6 (elemPtr (.slice ysa ys.length ysc) k) (fun w' => RdT (tyI .i64) w' (.slice ysa ys.length ysc) ys) rfl rfl rfl rfl rfl (rys.at H2) (.inl ⟨rfl, fun _ hC => t_addr1 k (T := (tyI .i64)) rfl Try.underlying22 sz3 rfl rfl hC rfl (by omega) ⟨rfl, rfl⟩⟩) ?_
      refine WD.take hok1 7 (.int .i64 (ys.getD k 0)) (fun w' => RdT (tyI .i64) w' (.slice ysa ys.length ysc) ys) rfl rfl rfl rfl rfl (rys.at H2) (.inl ⟨rfl, fun _ hC => t_load1 k 0 (T := (tyI .i64)) rfl Try.underlying3 rfl rfl hC (by omega) rfl ⟨rfl, rfl⟩⟩) ?_
      refine WD.take hok1 8 (.bool (decide ((xs.getD k 0) ≠ (ys.getD k 0)))) (fun _ => True) rfl rfl rfl rfl rfl trivial (.inl ⟨rfl, fun _ _ => d_cmp (decide ((xs.getD k 0) ≠ (ys.getD k 0))) rfl rfl rfl ⟨rfl, rfl⟩⟩) ?_
      refine WD.done hok1 rfl (X.then_code ?_)
      refine W.pick [25, 24, 23, 22, 21, 20, 19, 18, 17, 14, 13, 12, 11, 5, 4, 0, 1] (Γ' := [(25, .bool (decide ((xs.getD k 0) ≠ (ys.getD k 0)))), (24, .int .i64 (ys.getD k 0)), (23, elemPtr (.slice ysa ys.length ysc) k), (22, .int .i64 ((k : Nat) : Int)), (21, .slice ysa ys.length ysc), (20, .int .i64 (xs.getD k 0)), (19, elemPtr (.slice xsa xs.length xsc) k), (18, .int .i64 ((k : Nat) : Int)), (17, .slice xsa xs.length xsc), (14, .bool (decide (((k : Nat) : Int) < ((xs.length : Nat) : Int)))), (13, .int .i64 ((xs.length : Nat) : Int)), (12, .slice xsa xs.length xsc), (11, .int .i64 ((k : Nat) : Int)), (5, .int .i64 ((k : Nat) : Int)), (4, .bool false), (0, .slice xsa xs.length xsc), (1, .slice ysa ys.length ysc)]) rfl ?_
      refine W.ite (p := (xs.getD k 0) ≠ (ys.getD k 0)) rfl (fun c96 => ?_) (fun c96 => ?_)
      · skip
        refine W.seq ?_
        refine W.region ?_
        refine WL.op rfl (d_assign rfl ?_)
        refine WL.done (X.then_code ?_)
        refine W.pick [4, 25, 24, 23, 22, 21, 20, 19, 18, 17, 14, 13, 12, 11, 5, 0, 1] (Γ' := [(4, .bool false), (25, .bool (decide ((xs.getD k 0) ≠ (ys.getD k 0)))), (24, .int .i64 (ys.getD k 0)), (23, elemPtr (.slice ysa ys.length ysc) k), (22, .int .i64 ((k : Nat) : Int)), (21, .slice ysa ys.length ysc), (20, .int .i64 (xs.getD k 0)), (19, elemPtr (.slice xsa xs.length xsc) k), (18, .int .i64 ((k : Nat) : Int)), (17, .slice xsa xs.length xsc), (14, .bool (decide (((k : Nat) : Int) < ((xs.length : Nat) : Int)))), (13, .int .i64 ((xs.length : Nat) : Int)), (12, .slice xsa xs.length xsc), (11, .int .i64 ((k : Nat) : Int)), (5, .int .i64 ((k : Nat) : Int)), (0, .slice xsa xs.length xsc), (1, .slice ysa ys.length ysc)]) rfl ?_
        refine W.ret (X.block_ret (X.then_ret (X.then_ret (X.block_ret (X.then_ret (X.ret1 rfl rfl ?_))))))
        exact ⟨(by rw [decide_eq_false (by rintro rfl; exact c96 rfl)]), H2.noneL⟩
      · skip
        refine W.skip (X.block_normal (X.then_code ?_))
        refine W.pick [25, 24, 23, 22, 21, 20, 19, 18, 17, 14, 13, 12, 11, 5, 4, 0, 1] (Γ' := [(25, .bool (decide ((xs.getD k 0) ≠ (ys.getD k 0)))), (24, .int .i64 (ys.getD k 0)), (23, elemPtr (.slice ysa ys.length ysc) k), (22, .int .i64 ((k : Nat) : Int)), (21, .slice ysa ys.length ysc), (20, .int .i64 (xs.getD k 0)), (19, elemPtr (.slice xsa xs.length xsc) k), (18, .int .i64 ((k : Nat) : Int)), (17, .slice xsa xs.length xsc), (14, .bool (decide (((k : Nat) : Int) < ((xs.length : Nat) : Int)))), (13, .int .i64 ((xs.length : Nat) : Int)), (12, .slice xsa xs.length xsc), (11, .int .i64 ((k : Nat) : Int)), (5, .int .i64 ((k : Nat) : Int)), (4, .bool false), (0, .slice xsa xs.length xsc), (1, .slice ysa ys.length ysc)]) rfl ?_
        refine W.region ?_
        refine WL.op rfl (d_move rfl ?_)
        refine WL.op rfl (d_add rfl rfl (by omega) (by omega) ?_)
        refine WL.op rfl (d_assign rfl ?_)
        refine WL.done ?_
        exact X.next [5, 4, 0, 1] (Γ' := [(5, .int .i64 (((k + 1) : Nat) : Int)), (4, .bool false), (0, .slice xsa xs.length xsc), (1, .slice ysa ys.length ysc)]) rfl (xs.length - (k + 1)) (by omega) ⟨k + 1, rfl, H2, (by first | assumption | omega | simp), (by exact all_step he (by omega)), rfl⟩
    · skip
      refine W.exit (X.then_exit (X.then_exit (X.block_exit (X.then_code ?_))))
      refine W.seq ?_
      refine W.region ?_
      refine WL.op rfl (d_assign rfl ?_)
      refine WL.done (X.then_code ?_)
      refine W.ret (X.ret1 rfl rfl ?_)
      exact ⟨(by rw [decide_eq_true (list_eq_of (d := 0) (by omega) (fun i hi => he i (by omega)))]), H1.noneL⟩

set_option maxRecDepth 20000 in
theorem same_any (a : DfaD) (aca : Option Addr) (ana : Option Addr) (aba : Option Addr) (acc : Nat) (anc : Nat) (abc : Nat) (b : DfaD) (bca : Option Addr) (bna : Option Addr) (bba : Option Addr) (bcc : Nat) (bnc : Nat) (bbc : Nat) (w : World) (rca : RdT (tyI .i64) w (.slice aca a.cls.length acc) a.cls) (rna : RdT (tyI .i64) w (.slice ana a.next.length anc) a.next) (rba : RdT tyB w (.slice aba a.acc.length abc) a.acc) (rcb : RdT (tyI .i64) w (.slice bca b.cls.length bcc) b.cls) (rnb : RdT (tyI .i64) w (.slice bna b.next.length bnc) b.next) (rbb : RdT tyB w (.slice bba b.acc.length bbc) b.acc) :
    Calls Try.prog 40 #[.agg #[.slice aca a.cls.length acc, .int .i64 a.width, .int .i64 a.start, .slice ana a.next.length anc, .slice aba a.acc.length abc], .agg #[.slice bca b.cls.length bcc, .int .i64 b.width, .int .i64 b.start, .slice bna b.next.length bnc, .slice bba b.acc.length bbc]] w (Ret fun v w' => v = .bool (sameD a b) ∧ Upd w [] w' []) := by
  have le_rca := rca.le
  have le_rna := rna.le
  have le_rba := rba.le
  have le_rcb := rcb.le
  have le_rnb := rnb.le
  have le_rbb := rbb.le
  refine calls_of_W (args := [.agg #[.slice aca a.cls.length acc, .int .i64 a.width, .int .i64 a.start, .slice ana a.next.length anc, .slice aba a.acc.length abc], .agg #[.slice bca b.cls.length bcc, .int .i64 b.width, .int .i64 b.start, .slice bna b.next.length bnc, .slice bba b.acc.length bbc]]) Try.func40 rfl rfl rfl ?_
  have H0 : UpG w [] w [] := UpG.nil w
  show W _ _ _ _ [(0, .agg #[.slice aca a.cls.length acc, .int .i64 a.width, .int .i64 a.start, .slice ana a.next.length anc, .slice aba a.acc.length abc]), (1, .agg #[.slice bca b.cls.length bcc, .int .i64 b.width, .int .i64 b.start, .slice bna b.next.length bnc, .slice bba b.acc.length bbc])] w
  refine W.seq ?_
  refine W.region ?_
  refine WL.op rfl (d_box rfl fun w1 u1 => ?_)
  have H1 : UpG w [] w1 [[blk w.heap.size #[.slice aca a.cls.length acc, .int .i64 a.width, .int .i64 a.start, .slice ana a.next.length anc, .slice aba a.acc.length abc] 25]] := H0.new' u1
  refine WL.op rfl (d_box rfl fun w2 u2 => ?_)
  have H2 : UpG w [] w2 [[blk w.heap.size #[.slice aca a.cls.length acc, .int .i64 a.width, .int .i64 a.start, .slice ana a.next.length anc, .slice aba a.acc.length abc] 25], [blk w1.heap.size #[.slice bca b.cls.length bcc, .int .i64 b.width, .int .i64 b.start, .slice bna b.next.length bnc, .slice bba b.acc.length bbc] 25]] := H1.new' u2
  refine WL.op rfl (d_assign rfl ?_)
  refine WL.done (X.then_code ?_)
  refine W.seq ?_
  refine W.region ?_
  refine WL.op rfl (d_fieldAddrB fld25_1 rfl rfl ?_)
  refine WL.op rfl (d_loadB Try.underlying3 rfl rfl (H2.blk 0 rfl) rfl ?_)
  refine WL.op rfl (d_fieldAddrB fld25_1 rfl rfl ?_)
  refine WL.op rfl (d_loadB Try.underlying3 rfl rfl (H2.blk 1 rfl) rfl ?_)
  refine WL.op rfl (d_cmp (decide (a.width = b.width)) rfl rfl rfl ?_)
  refine WL.op rfl (d_move rfl ?_)
  refine WL.part 10 (p := a.width = b.width) rfl (fun g142 => ?_) (fun g142 => ?_)
  · skip
    refine WL.opG rfl rfl rfl (d_fieldAddrB fld25_2 rfl rfl ?_)
    refine WL.opG rfl rfl rfl (d_loadB Try.underlying3 rfl rfl (H2.blk 0 rfl) rfl ?_)
    refine WL.opG rfl rfl rfl (d_fieldAddrB fld25_2 rfl rfl ?_)
    refine WL.opG rfl rfl rfl (d_loadB Try.underlying3 rfl rfl (H2.blk 1 rfl) rfl ?_)
    refine WL.opG rfl rfl rfl (d_cmp (decide (a.start = b.start)) rfl rfl rfl ?_)
    refine WL.op rfl (d_pick rfl rfl ?_)
    refine WL.op rfl (d_move rfl ?_)
    refine WL.part 17 (p := a.start = b.start) rfl (fun g142x => ?_) (fun g142x => ?_)
    · skip
      refine WL.opG rfl rfl rfl (d_fieldAddrB fld25_0 rfl rfl ?_)
      refine WL.opG rfl rfl rfl (d_loadB Try.underlying22 rfl rfl (H2.blk 0 rfl) rfl ?_)
      refine WL.opG rfl rfl rfl (d_fieldAddrB fld25_0 rfl rfl ?_)
      refine WL.opG rfl rfl rfl (d_loadB Try.underlying22 rfl rfl (H2.blk 1 rfl) rfl ?_)
      refine WL.opG rfl rfl rfl (d_call ok72 rfl (Ret.calls (equalI_any aca a.cls acc bca b.cls bcc w2 (rca.at H2) (rcb.at H2) ) fun _ w3 p1 => ?_))
      obtain ⟨rfl, u3⟩ := p1
      have H3 : UpG w [] w3 [[blk w.heap.size #[.slice aca a.cls.length acc, .int .i64 a.width, .int .i64 a.start, .slice ana a.next.length anc, .slice aba a.acc.length abc] 25], [blk w1.heap.size #[.slice bca b.cls.length bcc, .int .i64 b.width, .int .i64 b.start, .slice bna b.next.length bnc, .slice bba b.acc.length bbc] 25]] := H2.call u3
      refine WL.op rfl (d_pick rfl rfl ?_)
      refine WL.op rfl (d_move rfl ?_)
      refine WL.part 24 (p := a.cls = b.cls) rfl (fun g142xx => ?_) (fun g142xx => ?_)
      · skip
        refine WL.opG rfl rfl rfl (d_fieldAddrB fld25_3 rfl rfl ?_)
        refine WL.opG rfl rfl rfl (d_loadB Try.underlying22 rfl rfl (H3.blk 0 rfl) rfl ?_)
        refine WL.opG rfl rfl rfl (d_fieldAddrB fld25_3 rfl rfl ?_)
        refine WL.opG rfl rfl rfl (d_loadB Try.underlying22 rfl rfl (H3.blk 1 rfl) rfl ?_)
        refine WL.opG rfl rfl rfl (d_call ok72 rfl (Ret.calls (equalI_any ana a.next anc bna b.next bnc w3 (rna.at H3) (rnb.at H3) ) fun _ w4 p2 => ?_))
        obtain ⟨rfl, u4⟩ := p2
        have H4 : UpG w [] w4 [[blk w.heap.size #[.slice aca a.cls.length acc, .int .i64 a.width, .int .i64 a.start, .slice ana a.next.length anc, .slice aba a.acc.length abc] 25], [blk w1.heap.size #[.slice bca b.cls.length bcc, .int .i64 b.width, .int .i64 b.start, .slice bna b.next.length bnc, .slice bba b.acc.length bbc] 25]] := H3.call u4
        refine WL.op rfl (d_pick rfl rfl ?_)
        refine WL.op rfl (d_move rfl ?_)
        refine WL.part 31 (p := a.next = b.next) rfl (fun g142xxx => ?_) (fun g142xxx => ?_)
        · skip
          refine WL.opG rfl rfl rfl (d_fieldAddrB fld25_4 rfl rfl ?_)
          refine WL.opG rfl rfl rfl (d_loadB Try.underlying23 rfl rfl (H4.blk 0 rfl) rfl ?_)
          refine WL.opG rfl rfl rfl (d_fieldAddrB fld25_4 rfl rfl ?_)
          refine WL.opG rfl rfl rfl (d_loadB Try.underlying23 rfl rfl (H4.blk 1 rfl) rfl ?_)
          refine WL.opG rfl rfl rfl (d_call ok75 rfl (Ret.calls (equalB_any aba a.acc abc bba b.acc bbc w4 (rba.at H4) (rbb.at H4) ) fun _ w5 p3 => ?_))
          obtain ⟨rfl, u5⟩ := p3
          have H5 : UpG w [] w5 [[blk w.heap.size #[.slice aca a.cls.length acc, .int .i64 a.width, .int .i64 a.start, .slice ana a.next.length anc, .slice aba a.acc.length abc] 25], [blk w1.heap.size #[.slice bca b.cls.length bcc, .int .i64 b.width, .int .i64 b.start, .slice bna b.next.length bnc, .slice bba b.acc.length bbc] 25]] := H4.call u5
          refine WL.op rfl (d_pick rfl rfl ?_)
          refine WL.op rfl (d_assign rfl ?_)
          refine WL.done (X.then_code ?_)
          refine W.pick [4] (Γ' := [(4, .bool (decide (a.acc = b.acc)))]) rfl ?_
          refine W.ret (X.ret1 rfl rfl ?_)
          exact ⟨(by simp_all [sameD]), H5.noneL⟩
        · skip
          refine WL.opN rfl rfl rfl rfl ?_
          refine WL.opN rfl rfl rfl rfl ?_
          refine WL.opN rfl rfl rfl rfl ?_
          refine WL.opN rfl rfl rfl rfl ?_
          refine WL.opN rfl rfl rfl rfl ?_
          refine WL.op rfl (d_pick rfl rfl ?_)
          refine WL.op rfl (d_assign rfl ?_)
          refine WL.done (X.then_code ?_)
          refine W.pick [4] (Γ' := [(4, .bool false)]) rfl ?_
          refine W.ret (X.ret1 rfl rfl ?_)
          exact ⟨(by simp_all [sameD]), H4.noneL⟩
      · skip
        refine WL.opN rfl rfl rfl rfl ?_
        refine WL.opN rfl rfl rfl rfl ?_
        refine WL.opN rfl rfl rfl rfl ?_
        refine WL.opN rfl rfl rfl rfl ?_
        refine WL.opN rfl rfl rfl rfl ?_
        refine WL.op rfl (d_pick rfl rfl ?_)
        refine WL.op rfl (d_move rfl ?_)
        refine WL.opN rfl rfl rfl rfl ?_
        refine WL.opN rfl rfl rfl rfl ?_
        refine WL.opN rfl rfl rfl rfl ?_
        refine WL.opN rfl rfl rfl rfl ?_
        refine WL.opN rfl rfl rfl rfl ?_
        refine WL.op rfl (d_pick rfl rfl ?_)
        refine WL.op rfl (d_assign rfl ?_)
        refine WL.done (X.then_code ?_)
        refine W.pick [4] (Γ' := [(4, .bool false)]) rfl ?_
        refine W.ret (X.ret1 rfl rfl ?_)
        exact ⟨(by simp_all [sameD]), H3.noneL⟩
    · skip
      refine WL.opN rfl rfl rfl rfl ?_
      refine WL.opN rfl rfl rfl rfl ?_
      refine WL.opN rfl rfl rfl rfl ?_
      refine WL.opN rfl rfl rfl rfl ?_
      refine WL.opN rfl rfl rfl rfl ?_
      refine WL.op rfl (d_pick rfl rfl ?_)
      refine WL.op rfl (d_move rfl ?_)
      refine WL.opN rfl rfl rfl rfl ?_
      refine WL.opN rfl rfl rfl rfl ?_
      refine WL.opN rfl rfl rfl rfl ?_
      refine WL.opN rfl rfl rfl rfl ?_
      refine WL.opN rfl rfl rfl rfl ?_
      refine WL.op rfl (d_pick rfl rfl ?_)
      refine WL.op rfl (d_move rfl ?_)
      refine WL.opN rfl rfl rfl rfl ?_
      refine WL.opN rfl rfl rfl rfl ?_
      refine WL.opN rfl rfl rfl rfl ?_
      refine WL.opN rfl rfl rfl rfl ?_
      refine WL.opN rfl rfl rfl rfl ?_
      refine WL.op rfl (d_pick rfl rfl ?_)
      refine WL.op rfl (d_assign rfl ?_)
      refine WL.done (X.then_code ?_)
      refine W.pick [4] (Γ' := [(4, .bool false)]) rfl ?_
      refine W.ret (X.ret1 rfl rfl ?_)
      exact ⟨(by simp_all [sameD]), H2.noneL⟩
  · skip
    refine WL.opN rfl rfl rfl rfl ?_
    refine WL.opN rfl rfl rfl rfl ?_
    refine WL.opN rfl rfl rfl rfl ?_
    refine WL.opN rfl rfl rfl rfl ?_
    refine WL.opN rfl rfl rfl rfl ?_
    refine WL.op rfl (d_pick rfl rfl ?_)
    refine WL.op rfl (d_move rfl ?_)
    refine WL.opN rfl rfl rfl rfl ?_
    refine WL.opN rfl rfl rfl rfl ?_
    refine WL.opN rfl rfl rfl rfl ?_
    refine WL.opN rfl rfl rfl rfl ?_
    refine WL.opN rfl rfl rfl rfl ?_
    refine WL.op rfl (d_pick rfl rfl ?_)
    refine WL.op rfl (d_move rfl ?_)
    refine WL.opN rfl rfl rfl rfl ?_
    refine WL.opN rfl rfl rfl rfl ?_
    refine WL.opN rfl rfl rfl rfl ?_
    refine WL.opN rfl rfl rfl rfl ?_
    refine WL.opN rfl rfl rfl rfl ?_
    refine WL.op rfl (d_pick rfl rfl ?_)
    refine WL.op rfl (d_move rfl ?_)
    refine WL.opN rfl rfl rfl rfl ?_
    refine WL.opN rfl rfl rfl rfl ?_
    refine WL.opN rfl rfl rfl rfl ?_
    refine WL.opN rfl rfl rfl rfl ?_
    refine WL.opN rfl rfl rfl rfl ?_
    refine WL.op rfl (d_pick rfl rfl ?_)
    refine WL.op rfl (d_assign rfl ?_)
    refine WL.done (X.then_code ?_)
    refine W.pick [4] (Γ' := [(4, .bool false)]) rfl ?_
    refine W.ret (X.ret1 rfl rfl ?_)
    exact ⟨(by simp_all [sameD]), H2.noneL⟩

set_option maxRecDepth 20000 in
theorem same11_any (a : DfaD) (aca : Option Addr) (ana : Option Addr) (aba : Option Addr) (acc : Nat) (anc : Nat) (abc : Nat) (b : DfaD) (bca : Option Addr) (bna : Option Addr) (bba : Option Addr) (bcc : Nat) (bnc : Nat) (bbc : Nat) (w : World) (rca : RdT (tyI .i64) w (.slice aca a.cls.length acc) a.cls) (rna : RdT (tyI .i64) w (.slice ana a.next.length anc) a.next) (rba : RdT tyB w (.slice aba a.acc.length abc) a.acc) (rcb : RdT (tyI .i64) w (.slice bca b.cls.length bcc) b.cls) (rnb : RdT (tyI .i64) w (.slice bna b.next.length bnc) b.next) (rbb : RdT tyB w (.slice bba b.acc.length bbc) b.acc) :
    Calls Try.prog 41 #[.agg #[.slice aca a.cls.length acc, .int .i64 a.width, .int .i64 a.start, .slice ana a.next.length anc, .slice aba a.acc.length abc], .agg #[.slice bca b.cls.length bcc, .int .i64 b.width, .int .i64 b.start, .slice bna b.next.length bnc, .slice bba b.acc.length bbc]] w (Ret fun v w' => v = .bool (sameD a b) ∧ Upd w [] w' []) := by
  have le_rca := rca.le
  have le_rna := rna.le
  have le_rba := rba.le
  have le_rcb := rcb.le
  have le_rnb := rnb.le
  have le_rbb := rbb.le
  refine calls_of_W (args := [.agg #[.slice aca a.cls.length acc, .int .i64 a.width, .int .i64 a.start, .slice ana a.next.length anc, .slice aba a.acc.length abc], .agg #[.slice bca b.cls.length bcc, .int .i64 b.width, .int .i64 b.start, .slice bna b.next.length bnc, .slice bba b.acc.length bbc]]) Try.func41 rfl rfl rfl ?_
  have H0 : UpG w [] w [] := UpG.nil w
  show W _ _ _ _ [(0, .agg #[.slice aca a.cls.length acc, .int .i64 a.width, .int .i64 a.start, .slice ana a.next.length anc, .slice aba a.acc.length abc]), (1, .agg #[.slice bca b.cls.length bcc, .int .i64 b.width, .int .i64 b.start, .slice bna b.next.length bnc, .slice bba b.acc.length bbc])] w
  refine W.seq ?_
  refine W.region ?_
  refine WL.op rfl (d_box rfl fun w1 u1 => ?_)
  have H1 : UpG w [] w1 [[blk w.heap.size #[.slice aca a.cls.length acc, .int .i64 a.width, .int .i64 a.start, .slice ana a.next.length anc, .slice aba a.acc.length abc] 25]] := H0.new' u1
  refine WL.op rfl (d_box rfl fun w2 u2 => ?_)
  have H2 : UpG w [] w2 [[blk w.heap.size #[.slice aca a.cls.length acc, .int .i64 a.width, .int .i64 a.start, .slice ana a.next.length anc, .slice aba a.acc.length abc] 25], [blk w1.heap.size #[.slice bca b.cls.length bcc, .int .i64 b.width, .int .i64 b.start, .slice bna b.next.length bnc, .slice bba b.acc.length bbc] 25]] := H1.new' u2
  refine WL.op rfl (d_assign rfl ?_)
  refine WL.done (X.then_code ?_)
  refine W.seq ?_
  refine W.seq ?_
  refine W.region ?_
  refine WL.op rfl (d_fieldAddrB fld25_0 rfl rfl ?_)
  refine WL.op rfl (d_loadB Try.underlying22 rfl rfl (H2.blk 0 rfl) rfl ?_)
  refine WL.op rfl (d_fieldAddrB fld25_0 rfl rfl ?_)
  refine WL.op rfl (d_loadB Try.underlying22 rfl rfl (H2.blk 1 rfl) rfl ?_)
  refine WL.op rfl (d_call ok32 rfl (Ret.calls (same10_any aca a.cls acc bca b.cls bcc w2 (rca.at H2) (rcb.at H2) ) fun _ w3 p1 => ?_))
  obtain ⟨rfl, u3⟩ := p1
  have H3 : UpG w [] w3 [[blk w.heap.size #[.slice aca a.cls.length acc, .int .i64 a.width, .int .i64 a.start, .slice ana a.next.length anc, .slice aba a.acc.length abc] 25], [blk w1.heap.size #[.slice bca b.cls.length bcc, .int .i64 b.width, .int .i64 b.start, .slice bna b.next.length bnc, .slice bba b.acc.length bbc] 25]] := H2.call u3
  refine WL.op rfl (d_not (p := a.cls = b.cls) rfl ?_)
  refine WL.op rfl (d_move rfl ?_)
  refine WL.part 12 (p := ¬ (a.cls = b.cls)) rfl (fun g58 => ?_) (fun g58 => ?_)
  · skip
    refine WL.opN rfl rfl rfl rfl ?_
    refine WL.opN rfl rfl rfl rfl ?_
    refine WL.opN rfl rfl rfl rfl ?_
    refine WL.opN rfl rfl rfl rfl ?_
    refine WL.opN rfl rfl rfl rfl ?_
    refine WL.opN rfl rfl rfl rfl ?_
    refine WL.op rfl (d_pick rfl rfl ?_)
    refine WL.op rfl (d_move rfl ?_)
    refine WL.opN rfl rfl rfl rfl ?_
    refine WL.opN rfl rfl rfl rfl ?_
    refine WL.opN rfl rfl rfl rfl ?_
    refine WL.opN rfl rfl rfl rfl ?_
    refine WL.opN rfl rfl rfl rfl ?_
    refine WL.op rfl (d_pick rfl rfl ?_)
    refine WL.op rfl (d_move rfl ?_)
    refine WL.opN rfl rfl rfl rfl ?_
    refine WL.opN rfl rfl rfl rfl ?_
    refine WL.opN rfl rfl rfl rfl ?_
    refine WL.opN rfl rfl rfl rfl ?_
    refine WL.opN rfl rfl rfl rfl ?_
    refine WL.op rfl (d_pick rfl rfl ?_)
    refine WL.op rfl (d_move rfl ?_)
    refine WL.opN rfl rfl rfl rfl ?_
    refine WL.opN rfl rfl rfl rfl ?_
    refine WL.opN rfl rfl rfl rfl ?_
    refine WL.opN rfl rfl rfl rfl ?_
    refine WL.opN rfl rfl rfl rfl ?_
    refine WL.opN rfl rfl rfl rfl ?_
    refine WL.opN rfl rfl rfl rfl ?_
    refine WL.op rfl (d_pick rfl rfl ?_)
    refine WL.done (X.then_code ?_)
    refine W.pick [42, 4, 3, 2] (Γ' := [(42, .bool true), (4, .bool false), (3, .pointer (some ⟨w1.heap.size, 0, none⟩)), (2, .pointer (some ⟨w.heap.size, 0, none⟩))]) rfl ?_
    refine W.ift rfl ?_
    refine W.seq ?_
    refine W.region ?_
    refine WL.op rfl (d_assign rfl ?_)
    refine WL.done (X.then_code ?_)
    refine W.ret (X.then_ret (X.ret1 rfl rfl ?_))
    exact ⟨(by first | (simp_all [sameD]; done) | (rw [sameD, decide_eq_false (by rintro ⟨_, _, _, _, h9⟩; rw [h9] at c58; exact c58 rfl)])), H3.noneL⟩
  · skip
    refine WL.opG rfl rfl rfl (d_fieldAddrB fld25_3 rfl rfl ?_)
    refine WL.opG rfl rfl rfl (d_loadB Try.underlying22 rfl rfl (H3.blk 0 rfl) rfl ?_)
    refine WL.opG rfl rfl rfl (d_fieldAddrB fld25_3 rfl rfl ?_)
    refine WL.opG rfl rfl rfl (d_loadB Try.underlying22 rfl rfl (H3.blk 1 rfl) rfl ?_)
    refine WL.opG rfl rfl rfl (d_call ok32 rfl (Ret.calls (same10_any ana a.next anc bna b.next bnc w3 (rna.at H3) (rnb.at H3) ) fun _ w4 p2 => ?_))
    obtain ⟨rfl, u4⟩ := p2
    have H4 : UpG w [] w4 [[blk w.heap.size #[.slice aca a.cls.length acc, .int .i64 a.width, .int .i64 a.start, .slice ana a.next.length anc, .slice aba a.acc.length abc] 25], [blk w1.heap.size #[.slice bca b.cls.length bcc, .int .i64 b.width, .int .i64 b.start, .slice bna b.next.length bnc, .slice bba b.acc.length bbc] 25]] := H3.call u4
    refine WL.opG rfl rfl rfl (d_not (p := a.next = b.next) rfl ?_)
    refine WL.op rfl (d_pick rfl rfl ?_)
    refine WL.op rfl (d_move rfl ?_)
    refine WL.part 20 (p := ¬ (a.next = b.next)) rfl (fun g58x => ?_) (fun g58x => ?_)
    · skip
      refine WL.opN rfl rfl rfl rfl ?_
      refine WL.opN rfl rfl rfl rfl ?_
      refine WL.opN rfl rfl rfl rfl ?_
      refine WL.opN rfl rfl rfl rfl ?_
      refine WL.opN rfl rfl rfl rfl ?_
      refine WL.op rfl (d_pick rfl rfl ?_)
      refine WL.op rfl (d_move rfl ?_)
      refine WL.opN rfl rfl rfl rfl ?_
      refine WL.opN rfl rfl rfl rfl ?_
      refine WL.opN rfl rfl rfl rfl ?_
      refine WL.opN rfl rfl rfl rfl ?_
      refine WL.opN rfl rfl rfl rfl ?_
      refine WL.op rfl (d_pick rfl rfl ?_)
      refine WL.op rfl (d_move rfl ?_)
      refine WL.opN rfl rfl rfl rfl ?_
      refine WL.opN rfl rfl rfl rfl ?_
      refine WL.opN rfl rfl rfl rfl ?_
      refine WL.opN rfl rfl rfl rfl ?_
      refine WL.opN rfl rfl rfl rfl ?_
      refine WL.opN rfl rfl rfl rfl ?_
      refine WL.opN rfl rfl rfl rfl ?_
      refine WL.op rfl (d_pick rfl rfl ?_)
      refine WL.done (X.then_code ?_)
      refine W.pick [42, 4, 3, 2] (Γ' := [(42, .bool true), (4, .bool false), (3, .pointer (some ⟨w1.heap.size, 0, none⟩)), (2, .pointer (some ⟨w.heap.size, 0, none⟩))]) rfl ?_
      refine W.ift rfl ?_
      refine W.seq ?_
      refine W.region ?_
      refine WL.op rfl (d_assign rfl ?_)
      refine WL.done (X.then_code ?_)
      refine W.ret (X.then_ret (X.ret1 rfl rfl ?_))
      exact ⟨(by first | (simp_all [sameD]; done) | (rw [sameD, decide_eq_false (by rintro ⟨_, _, _, _, h9⟩; rw [h9] at c58; exact c58 rfl)])), H4.noneL⟩
    · skip
      refine WL.opG rfl rfl rfl (d_fieldAddrB fld25_1 rfl rfl ?_)
      refine WL.opG rfl rfl rfl (d_loadB Try.underlying3 rfl rfl (H4.blk 0 rfl) rfl ?_)
      refine WL.opG rfl rfl rfl (d_fieldAddrB fld25_1 rfl rfl ?_)
      refine WL.opG rfl rfl rfl (d_loadB Try.underlying3 rfl rfl (H4.blk 1 rfl) rfl ?_)
      refine WL.opG rfl rfl rfl (d_cmp (decide (a.width ≠ b.width)) rfl rfl rfl ?_)
      refine WL.op rfl (d_pick rfl rfl ?_)
      refine WL.op rfl (d_move rfl ?_)
      refine WL.part 27 (p := a.width ≠ b.width) rfl (fun g58xx => ?_) (fun g58xx => ?_)
      · skip
        refine WL.opN rfl rfl rfl rfl ?_
        refine WL.opN rfl rfl rfl rfl ?_
        refine WL.opN rfl rfl rfl rfl ?_
        refine WL.opN rfl rfl rfl rfl ?_
        refine WL.opN rfl rfl rfl rfl ?_
        refine WL.op rfl (d_pick rfl rfl ?_)
        refine WL.op rfl (d_move rfl ?_)
        refine WL.opN rfl rfl rfl rfl ?_
        refine WL.opN rfl rfl rfl rfl ?_
        refine WL.opN rfl rfl rfl rfl ?_
        refine WL.opN rfl rfl rfl rfl ?_
        refine WL.opN rfl rfl rfl rfl ?_
        refine WL.opN rfl rfl rfl rfl ?_
        refine WL.opN rfl rfl rfl rfl ?_
        refine WL.op rfl (d_pick rfl rfl ?_)
        refine WL.done (X.then_code ?_)
        refine W.pick [42, 4, 3, 2] (Γ' := [(42, .bool true), (4, .bool false), (3, .pointer (some ⟨w1.heap.size, 0, none⟩)), (2, .pointer (some ⟨w.heap.size, 0, none⟩))]) rfl ?_
        refine W.ift rfl ?_
        refine W.seq ?_
        refine W.region ?_
        refine WL.op rfl (d_assign rfl ?_)
        refine WL.done (X.then_code ?_)
        refine W.ret (X.then_ret (X.ret1 rfl rfl ?_))
        exact ⟨(by first | (simp_all [sameD]; done) | (rw [sameD, decide_eq_false (by rintro ⟨_, _, _, _, h9⟩; rw [h9] at c58; exact c58 rfl)])), H4.noneL⟩
      · skip
        refine WL.opG rfl rfl rfl (d_fieldAddrB fld25_2 rfl rfl ?_)
        refine WL.opG rfl rfl rfl (d_loadB Try.underlying3 rfl rfl (H4.blk 0 rfl) rfl ?_)
        refine WL.opG rfl rfl rfl (d_fieldAddrB fld25_2 rfl rfl ?_)
        refine WL.opG rfl rfl rfl (d_loadB Try.underlying3 rfl rfl (H4.blk 1 rfl) rfl ?_)
        refine WL.opG rfl rfl rfl (d_cmp (decide (a.start ≠ b.start)) rfl rfl rfl ?_)
        refine WL.op rfl (d_pick rfl rfl ?_)
        refine WL.op rfl (d_move rfl ?_)
        refine WL.part 34 (p := a.start ≠ b.start) rfl (fun g58xxx => ?_) (fun g58xxx => ?_)
        · skip
          refine WL.opN rfl rfl rfl rfl ?_
          refine WL.opN rfl rfl rfl rfl ?_
          refine WL.opN rfl rfl rfl rfl ?_
          refine WL.opN rfl rfl rfl rfl ?_
          refine WL.opN rfl rfl rfl rfl ?_
          refine WL.opN rfl rfl rfl rfl ?_
          refine WL.opN rfl rfl rfl rfl ?_
          refine WL.op rfl (d_pick rfl rfl ?_)
          refine WL.done (X.then_code ?_)
          refine W.pick [42, 4, 3, 2] (Γ' := [(42, .bool true), (4, .bool false), (3, .pointer (some ⟨w1.heap.size, 0, none⟩)), (2, .pointer (some ⟨w.heap.size, 0, none⟩))]) rfl ?_
          refine W.ift rfl ?_
          refine W.seq ?_
          refine W.region ?_
          refine WL.op rfl (d_assign rfl ?_)
          refine WL.done (X.then_code ?_)
          refine W.ret (X.then_ret (X.ret1 rfl rfl ?_))
          exact ⟨(by first | (simp_all [sameD]; done) | (rw [sameD, decide_eq_false (by rintro ⟨_, _, _, _, h9⟩; rw [h9] at c58; exact c58 rfl)])), H4.noneL⟩
        · skip
          refine WL.opG rfl rfl rfl (d_fieldAddrB fld25_4 rfl rfl ?_)
          refine WL.opG rfl rfl rfl (d_loadB Try.underlying23 rfl rfl (H4.blk 0 rfl) rfl ?_)
          refine WL.opG rfl rfl rfl (d_lenS Try.underlying23 rfl ?_)
          refine WL.opG rfl rfl rfl (d_fieldAddrB fld25_4 rfl rfl ?_)
          refine WL.opG rfl rfl rfl (d_loadB Try.underlying23 rfl rfl (H4.blk 1 rfl) rfl ?_)
          refine WL.opG rfl rfl rfl (d_lenS Try.underlying23 rfl ?_)
          refine WL.opG rfl rfl rfl (d_cmp (decide (((a.acc.length : Nat) : Int) ≠ ((b.acc.length : Nat) : Int))) rfl rfl rfl ?_)
          refine WL.op rfl (d_pick rfl rfl ?_)
          refine WL.done (X.then_code ?_)
          refine W.pick [42, 4, 3, 2] (Γ' := [(42, .bool (decide (((a.acc.length : Nat) : Int) ≠ ((b.acc.length : Nat) : Int)))), (4, .bool false), (3, .pointer (some ⟨w1.heap.size, 0, none⟩)), (2, .pointer (some ⟨w.heap.size, 0, none⟩))]) rfl ?_
          refine W.ite (p := ((a.acc.length : Nat) : Int) ≠ ((b.acc.length : Nat) : Int)) rfl (fun c58 => ?_) (fun c58 => ?_)
          · skip
            refine W.seq ?_
            refine W.region ?_
            refine WL.op rfl (d_assign rfl ?_)
            refine WL.done (X.then_code ?_)
            refine W.ret (X.then_ret (X.ret1 rfl rfl ?_))
            exact ⟨(by first | (simp_all [sameD]; done) | (rw [sameD, decide_eq_false (by rintro ⟨_, _, _, _, h9⟩; rw [h9] at c58; exact c58 rfl)])), H4.noneL⟩
          · skip
            refine W.skip (X.then_code ?_)
            refine W.seq ?_
            refine W.seq ?_
            refine W.region ?_
            refine WL.op rfl (d_assign rfl ?_)
            refine WL.done (X.then_code ?_)
            refine W.block ?_
            have hlen : a.acc.length = b.acc.length := by omega
            refine W.pick [5, 4, 3, 2] (Γ' := [(5, .int .i64 0), (4, .bool false), (3, .pointer (some ⟨w1.heap.size, 0, none⟩)), (2, .pointer (some ⟨w.heap.size, 0, none⟩))]) rfl ?_
            refine W.loop (fun m Γ' w' => ∃ k : Nat, Γ' = [(5, .int .i64 ((k : Nat) : Int)), (4, .bool false), (3, .pointer (some ⟨w1.heap.size, 0, none⟩)), (2, .pointer (some ⟨w.heap.size, 0, none⟩))] ∧ UpG w [] w' [[blk w.heap.size #[.slice aca a.cls.length acc, .int .i64 a.width, .int .i64 a.start, .slice ana a.next.length anc, .slice aba a.acc.length abc] 25], [blk w1.heap.size #[.slice bca b.cls.length bcc, .int .i64 b.width, .int .i64 b.start, .slice bna b.next.length bnc, .slice bba b.acc.length bbc] 25]] ∧ (k ≤ a.acc.length) ∧ (∀ i, i < k → a.acc.getD i false = b.acc.getD i false) ∧ m = a.acc.length - k) (a.acc.length - 0) ⟨0, rfl, H4, (by first | assumption | omega | simp), (by intro i hi; omega), rfl⟩ ?_
            rintro m1 Γ1 w5 ⟨k, rfl, H5, hk, he, rfl⟩
            refine W.seq ?_
            refine W.seq ?_
            refine W.region ?_
            refine WL.op rfl (d_move rfl ?_)
            refine WL.op rfl (d_fieldAddrB fld25_4 rfl rfl ?_)
            refine WL.op rfl (d_loadB Try.underlying23 rfl rfl (H5.blk 0 rfl) rfl ?_)
            refine WL.op rfl (d_lenS Try.underlying23 rfl ?_)
            refine WL.op rfl (d_cmp (decide (((k : Nat) : Int) < ((a.acc.length : Nat) : Int))) rfl rfl rfl ?_)
            refine WL.done (X.then_code ?_)
            refine W.ite (p := ((k : Nat) : Int) < ((a.acc.length : Nat) : Int)) rfl (fun c61 => ?_) (fun c61 => ?_)
            · skip
              refine W.skip (X.then_code ?_)
              refine W.seq ?_
              refine W.block ?_
              refine W.seq ?_
              refine W.regionD mixed (by kernel_rfl) fun hok1 w6 k1 => ?_
              have H6 : UpG w [] w6 [[blk w.heap.size #[.slice aca a.cls.length acc, .int .i64 a.width, .int .i64 a.start, .slice ana a.next.length anc, .slice aba a.acc.length abc] 25], [blk w1.heap.size #[.slice bca b.cls.length bcc, .int .i64 b.width, .int .i64 b.start, .slice bna b.next.length bnc, .slice bba b.acc.length bbc] 25]] := H5.kept k1
              refine WD.take hok1 0 (.pointer (some ⟨w.heap.size, 4, none⟩)) (fun _ => True) rfl rfl rfl rfl rfl trivial (.inl ⟨rfl, fun _ _ => d_fieldAddrB fld25_4 rfl rfl ⟨rfl, rfl⟩⟩) ?_
              refine WD.take hok1 1 (.slice aba a.acc.length abc) (fun w' => w'.heap[w.heap.size]? = some (.cells #[.slice aca a.cls.length acc, .int .i64 a.width, .int .i64 a.start, .slice ana a.next.length anc, .slice aba a.acc.length abc] 25 (0, 0))) rfl rfl rfl rfl rfl (H6.blk 0 rfl) (.inl ⟨rfl, fun _ hC => d_loadB Try.underlying23 rfl rfl hC rfl ⟨rfl, rfl⟩⟩) ?_
              refine WD.take hok1 2 (.int .i64 ((k : Nat) : Int)) (fun _ => True) rfl rfl rfl rfl rfl trivial (.inl ⟨rfl, fun _ _ => d_move rfl ⟨rfl, rfl⟩⟩) ?_
              refine WD.take hok1 3 (elemPtr (.slice aba a.acc.length abc) k) (fun w' => RdT tyB w' (.slice aba a.acc.length abc) a.acc) rfl rfl rfl rfl rfl (rba.at H6) (.inl ⟨rfl, fun _ hC => t_addr1 k (T := tyB) rfl Try.underlying23 sz4 rfl rfl hC rfl (by omega) ⟨rfl, rfl⟩⟩) ?_
              refine WD.take hok1 4 (.bool (a.acc.getD k false)) (fun w' => RdT tyB w' (.slice aba a.acc.length abc) a.acc) rfl rfl rfl rfl rfl (rba.at H6) (.inl ⟨rfl, fun _ hC => t_load1 k false (T := tyB) rfl Try.underlying4 rfl rfl hC (by omega) rfl ⟨rfl, rfl⟩⟩) ?_
              refine WD.take hok1 5 (.pointer (some ⟨w1.heap.size, 4, none⟩)) (fun _ => True) rfl rfl rfl rfl rfl trivial (.inl ⟨rfl, fun _ _ => d_fieldAddrB fld25_4 rfl rfl ⟨rfl, rfl⟩⟩) ?_
              refine WD.take hok1 6 (.slice bba b.acc.length bbc) (fun w' => w'.heap[w1.heap.size]? = some (.cells #[.slice bca b.cls.length bcc, .int .i64 b.width, .int .i64 b.start, .slice bna b.next.length bnc, .slice bba b.acc.length bbc] 25 (0, 0))) rfl rfl rfl rfl rfl (H6.blk 1 rfl) (.inl ⟨rfl, fun _ hC => d_loadB Try.underlying23 rfl rfl hC rfl ⟨rfl, rfl⟩⟩) ?_
              refine WD.take hok1 7 (.int .i64 ((k : Nat) : Int)) (fun _ => True) rfl rfl rfl rfl rfl trivial (.inl ⟨rfl, fun _ _ => d_move rfl ⟨rfl, rfl⟩⟩) ?_
              refine WD.take hok1 8 (elemPtr (.slice bba b.acc.length bbc) k) (fun w' => RdT tyB w' (.slice bba b.acc.length bbc) b.acc) rfl rfl rfl rfl rfl (rbb.at H6) (.inl ⟨rfl, fun _ hC => t_addr1 k (T := tyB) rfl Try.underlying23 sz4 rfl rfl hC rfl (by omega) ⟨rfl, rfl⟩⟩) ?_
              refine WD.take hok1 9 (.bool (b.acc.getD k false)) (fun w' => RdT tyB w' (.slice bba b.acc.length bbc) b.acc) rfl rfl rfl rfl rfl (rbb.at H6) (.inl ⟨rfl, fun _ hC => t_load1 k false (T := tyB) rfl Try.underlying4 rfl rfl hC (by omega) rfl ⟨rfl, rfl⟩⟩) ?_
              refine WD.take hok1 10 (.bool (decide ((a.acc.getD k false) ≠ (b.acc.getD k false)))) (fun _ => True) rfl rfl rfl rfl rfl trivial (.inl ⟨rfl, fun _ _ => d_boolne Try.underlying4 rfl rfl ⟨rfl, rfl⟩⟩) ?_
              refine WD.done hok1 rfl (X.then_code ?_)
              refine W.pick [60, 59, 58, 57, 56, 55, 54, 53, 52, 51, 50, 47, 46, 45, 44, 43, 5, 4, 3, 2] (Γ' := [(60, .bool (decide ((a.acc.getD k false) ≠ (b.acc.getD k false)))), (59, .bool (b.acc.getD k false)), (58, elemPtr (.slice bba b.acc.length bbc) k), (57, .int .i64 ((k : Nat) : Int)), (56, .slice bba b.acc.length bbc), (55, .pointer (some ⟨w1.heap.size, 4, none⟩)), (54, .bool (a.acc.getD k false)), (53, elemPtr (.slice aba a.acc.length abc) k), (52, .int .i64 ((k : Nat) : Int)), (51, .slice aba a.acc.length abc), (50, .pointer (some ⟨w.heap.size, 4, none⟩)), (47, .bool (decide (((k : Nat) : Int) < ((a.acc.length : Nat) : Int)))), (46, .int .i64 ((a.acc.length : Nat) : Int)), (45, .slice aba a.acc.length abc), (44, .pointer (some ⟨w.heap.size, 4, none⟩)), (43, .int .i64 ((k : Nat) : Int)), (5, .int .i64 ((k : Nat) : Int)), (4, .bool false), (3, .pointer (some ⟨w1.heap.size, 0, none⟩)), (2, .pointer (some ⟨w.heap.size, 0, none⟩))]) rfl ?_
              refine W.ite (p := (a.acc.getD k false) ≠ (b.acc.getD k false)) rfl (fun c62 => ?_) (fun c62 => ?_)
              · skip
                refine W.seq ?_
                refine W.region ?_
                refine WL.op rfl (d_assign rfl ?_)
                refine WL.done (X.then_code ?_)
                refine W.pick [4, 60, 59, 58, 57, 56, 55, 54, 53, 52, 51, 50, 47, 46, 45, 44, 43, 5, 3, 2] (Γ' := [(4, .bool false), (60, .bool (decide ((a.acc.getD k false) ≠ (b.acc.getD k false)))), (59, .bool (b.acc.getD k false)), (58, elemPtr (.slice bba b.acc.length bbc) k), (57, .int .i64 ((k : Nat) : Int)), (56, .slice bba b.acc.length bbc), (55, .pointer (some ⟨w1.heap.size, 4, none⟩)), (54, .bool (a.acc.getD k false)), (53, elemPtr (.slice aba a.acc.length abc) k), (52, .int .i64 ((k : Nat) : Int)), (51, .slice aba a.acc.length abc), (50, .pointer (some ⟨w.heap.size, 4, none⟩)), (47, .bool (decide (((k : Nat) : Int) < ((a.acc.length : Nat) : Int)))), (46, .int .i64 ((a.acc.length : Nat) : Int)), (45, .slice aba a.acc.length abc), (44, .pointer (some ⟨w.heap.size, 4, none⟩)), (43, .int .i64 ((k : Nat) : Int)), (5, .int .i64 ((k : Nat) : Int)), (3, .pointer (some ⟨w1.heap.size, 0, none⟩)), (2, .pointer (some ⟨w.heap.size, 0, none⟩))]) rfl ?_
                refine W.ret (X.block_ret (X.then_ret (X.then_ret (X.block_ret (X.then_ret (X.ret1 rfl rfl ?_))))))
                exact ⟨(by rw [sameD, decide_eq_false (by rintro ⟨_, _, _, _, h9⟩; rw [h9] at c62; exact c62 rfl)]), H6.noneL⟩
              · skip
                refine W.skip (X.block_normal (X.then_code ?_))
                refine W.pick [60, 59, 58, 57, 56, 55, 54, 53, 52, 51, 50, 47, 46, 45, 44, 43, 5, 4, 3, 2] (Γ' := [(60, .bool (decide ((a.acc.getD k false) ≠ (b.acc.getD k false)))), (59, .bool (b.acc.getD k false)), (58, elemPtr (.slice bba b.acc.length bbc) k), (57, .int .i64 ((k : Nat) : Int)), (56, .slice bba b.acc.length bbc), (55, .pointer (some ⟨w1.heap.size, 4, none⟩)), (54, .bool (a.acc.getD k false)), (53, elemPtr (.slice aba a.acc.length abc) k), (52, .int .i64 ((k : Nat) : Int)), (51, .slice aba a.acc.length abc), (50, .pointer (some ⟨w.heap.size, 4, none⟩)), (47, .bool (decide (((k : Nat) : Int) < ((a.acc.length : Nat) : Int)))), (46, .int .i64 ((a.acc.length : Nat) : Int)), (45, .slice aba a.acc.length abc), (44, .pointer (some ⟨w.heap.size, 4, none⟩)), (43, .int .i64 ((k : Nat) : Int)), (5, .int .i64 ((k : Nat) : Int)), (4, .bool false), (3, .pointer (some ⟨w1.heap.size, 0, none⟩)), (2, .pointer (some ⟨w.heap.size, 0, none⟩))]) rfl ?_
                refine W.region ?_
                refine WL.op rfl (d_move rfl ?_)
                refine WL.op rfl (d_add rfl rfl (by omega) (by omega) ?_)
                refine WL.op rfl (d_assign rfl ?_)
                refine WL.done ?_
                exact X.next [5, 4, 3, 2] (Γ' := [(5, .int .i64 (((k + 1) : Nat) : Int)), (4, .bool false), (3, .pointer (some ⟨w1.heap.size, 0, none⟩)), (2, .pointer (some ⟨w.heap.size, 0, none⟩))]) rfl (a.acc.length - (k + 1)) (by omega) ⟨k + 1, rfl, H6, (by first | assumption | omega | simp), (by exact all_step he (by rcases h1 : a.acc.getD k false with _ | _ <;> rcases h2 : b.acc.getD k false with _ | _ <;> simp_all)), rfl⟩
            · skip
              refine W.exit (X.then_exit (X.then_exit (X.block_exit (X.then_code ?_))))
              refine W.seq ?_
              refine W.region ?_
              refine WL.op rfl (d_assign rfl ?_)
              refine WL.done (X.then_code ?_)
              refine W.ret (X.ret1 rfl rfl ?_)
              exact ⟨(by rw [sameD, decide_eq_true ⟨by simpa using g58, by omega, by omega, by simpa using g58x, list_eq_of (d := false) (by omega) (fun i hi => he i (by omega))⟩]), H5.noneL⟩

set_option maxRecDepth 20000 in
theorem word11_any (text : ByteArray) (i : Int) (j : Int) (w : World) (hl : text.size ≤ 1000000) (hij : 0 ≤ i ∧ i ≤ j ∧ j ≤ (text.size : Int)) :
    Calls Try.prog 42 #[.string text, .int .i64 i, .int .i64 j] w (Ret fun v w' => ∃ a2 : Option Addr, ∃ c2 : Nat, v = .slice a2 ((wordD text i j).length) c2 ∧ Upd w [] w' [rowT (tyI .i64) (.slice a2 ((wordD text i j).length) c2) 3 (wordD text i j)]) := by
  have he2 := wordD_yes (s := text) (i := i) (j := j) hij
  refine calls_of_W (args := [.string text, .int .i64 i, .int .i64 j]) Try.func42 rfl rfl rfl ?_
  have H0 : UpG w [] w [] := UpG.nil w
  show W _ _ _ _ [(0, .string text), (1, .int .i64 i), (2, .int .i64 j)] w
  refine W.seq ?_
  refine W.region ?_
  refine WL.op rfl (d_assign rfl ?_)
  refine WL.done (X.then_code ?_)
  refine W.seq ?_
  refine W.region ?_
  refine WL.op rfl (d_assign rfl ?_)
  refine WL.done (X.then_code ?_)
  refine W.seq ?_
  refine W.seq ?_
  refine W.region ?_
  refine WL.op rfl (d_move rfl ?_)
  refine WL.op rfl (d_lenStr Try.underlying9 rfl ?_)
  refine WL.op rfl (d_cmp (decide (((text.size : Nat) : Int) = (0 : Int))) rfl rfl rfl ?_)
  refine WL.done (X.then_code ?_)
  refine W.ite (p := ((text.size : Nat) : Int) = (0 : Int)) rfl (fun c75 => ?_) (fun c75 => ?_)
  · skip
    refine W.seq ?_
    refine W.region ?_
    refine WL.op rfl (t_buildSlice (T := (tyI .i64)) (xs := [258]) (cs := #[.int .i64 258]) rfl Try.underlying22 sz3 rfl rfl rfl rfl (by kernel_rfl) rfl rfl fun w1 u1 => ?_)
    have H1 : UpG w [] w1 [[rowT (tyI .i64) (.slice (some ⟨w.heap.size, 0, none⟩) ([258].length) ([258].length)) 3 [258]]] := H0.new' u1
    refine WL.op rfl (d_assign rfl ?_)
    refine WL.done (X.then_code ?_)
    refine W.ret (X.then_ret (X.ret1 rfl rfl ?_))
    have e0 : text = ⟨#[]⟩ := size_nil (by omega)
    have e1 : wordD text i j = [258] := by rw [wordD, if_neg (by rw [he2]; simp), if_pos e0]
    rw [e1]
    exact ⟨(some ⟨w.heap.size, 0, none⟩), [258].length, (by rfl), (by have hh := H1.one 0 rfl; exact hh)⟩
  · skip
    refine W.skip (X.then_code ?_)
    have H2 : UpG w [] w [[rowT (tyI .i64) (.slice none (([] : List Int).length) 0) 3 ([] : List Int)]] := H0.new' (Upd.nilRowT w (tyI .i64) 3)
    refine W.cut (fun Γ' w' => ∃ o : List Int, ∃ oa : Option Addr, ∃ oc : Nat, Γ' = [(7, .slice oa o.length oc), (6, .slice none 0 0), (0, .string text), (1, .int .i64 i), (2, .int .i64 j)] ∧ UpG w [] w' [[rowT (tyI .i64) (.slice oa o.length oc) 3 o]] ∧ (o = (if i = 0 then ([256] : List Int) else [])) ∧ (o.length ≤ 1)) ?_ ?_
    · skip
      refine W.seq ?_
      refine W.region ?_
      refine WL.op rfl (d_move rfl ?_)
      refine WL.op rfl (d_cmp (decide (i = (0 : Int))) rfl rfl rfl ?_)
      refine WL.done (X.then_code ?_)
      refine W.ite (p := i = (0 : Int)) rfl (fun c78 => ?_) (fun c78 => ?_)
      · skip
        refine W.region ?_
        refine WL.op rfl (d_move rfl ?_)
        refine WL.op rfl (t_buildSlice (T := (tyI .i64)) (xs := [256]) (cs := #[.int .i64 256]) rfl Try.underlying22 sz3 rfl rfl rfl rfl (by kernel_rfl) rfl rfl fun w2 u2 => ?_)
        have H3 : UpG w [] w2 [[rowT (tyI .i64) (.slice none (([] : List Int).length) 0) 3 ([] : List Int)], [rowT (tyI .i64) (.slice (some ⟨w.heap.size, 0, none⟩) ([256].length) ([256].length)) 3 [256]]] := H2.new' u2
        refine WL.op rfl (t_append (T := (tyI .i64)) (xs := ([] : List Int)) (ys := [256]) rfl Try.underlying22 sz3 rfl rfl rfl (H3.ownT 0 rfl) (H3.rdT 1 rfl) (by simp) (by simp) fun a1 c1 w3 u3 => ?_)
        have H4 : UpG w [] w3 [[rowT (tyI .i64) (.slice a1 ((([] : List Int) ++ [256]).length) c1) 3 (([] : List Int) ++ [256])], []] := (H3.on 0 rfl u3).drop 1
        refine WL.op rfl (d_assign rfl ?_)
        refine WL.done ?_
        exact X.cut [7, 6, 0, 1, 2] (Γ' := [(7, .slice a1 ((([] : List Int) ++ [256]).length) c1), (6, .slice none 0 0), (0, .string text), (1, .int .i64 i), (2, .int .i64 j)]) rfl ⟨([] : List Int) ++ [256], a1, c1, rfl, (H4.re rfl), (by first | (rw [if_pos c78]; rfl) | (rw [if_neg c78])), (by simp)⟩
      · skip
        refine W.skip ?_
        exact X.cut [7, 6, 0, 1, 2] (Γ' := [(7, .slice none (([] : List Int).length) 0), (6, .slice none 0 0), (0, .string text), (1, .int .i64 i), (2, .int .i64 j)]) rfl ⟨([] : List Int), none, 0, rfl, H2, (by first | (rw [if_pos c78]; rfl) | (rw [if_neg c78])), (by simp)⟩
    rintro Γ1 w4 ⟨o, oa, oc, rfl, H5, ho, hol⟩
    refine W.seq ?_
    refine W.seq ?_
    refine W.region ?_
    refine WL.op rfl (d_move rfl ?_)
    refine WL.op rfl (d_assign rfl ?_)
    refine WL.done (X.then_code ?_)
    refine W.block ?_
    refine W.pick [8, 7, 6, 0, 2] (Γ' := [(8, .int .i64 i), (7, .slice oa o.length oc), (6, .slice none 0 0), (0, .string text), (2, .int .i64 j)]) rfl ?_
    refine W.loop (fun m Γ' w' => ∃ x : Int, ∃ q : List Int, ∃ qa : Option Addr, ∃ qc : Nat, Γ' = [(8, .int .i64 x), (7, .slice qa q.length qc), (6, .slice none 0 0), (0, .string text), (2, .int .i64 j)] ∧ UpG w [] w' [[rowT (tyI .i64) (.slice qa q.length qc) 3 q]] ∧ (i ≤ x ∧ x ≤ j) ∧ (q = (if i = 0 then ([256] : List Int) else []) ++ partL text i.toNat (x - i).toNat) ∧ (q.length ≤ 1 + (x - i).toNat) ∧ m = (j - x).toNat) ((j - i).toNat) ⟨i, o, oa, oc, rfl, H5, (by first | assumption | omega | simp), (by rw [ho, show (i - i).toNat = 0 by omega]; simp [partL]), (by omega), rfl⟩ ?_
    rintro m1 Γ2 w5 ⟨x, q, qa, qc, rfl, H6, hx, hq, hql, rfl⟩
    refine W.seq ?_
    refine W.seq ?_
    refine W.region ?_
    refine WL.op rfl (d_move rfl ?_)
    refine WL.op rfl (d_move rfl ?_)
    refine WL.op rfl (d_cmp (decide (x < j)) rfl rfl rfl ?_)
    refine WL.done (X.then_code ?_)
    refine W.ite (p := x < j) rfl (fun c81 => ?_) (fun c81 => ?_)
    · skip
      refine W.skip (X.then_code ?_)
      refine W.seq ?_
      refine W.block ?_
      refine W.region ?_
      refine WL.op rfl (d_move rfl ?_)
      refine WL.op rfl (d_move rfl ?_)
      refine WL.op rfl (d_move rfl ?_)
      refine WL.op rfl (d_idxStrN x.toNat Try.underlying9 rfl rfl (by omega) (by omega) ?_)
      refine WL.op rfl (d_convI (kd := .i64) Try.underlying5 Try.underlying3 rfl (by have := bt_range text x.toNat; simp [IntKind.signed, IntKind.bits, IntKind.max]; omega) ?_)
      refine WL.op rfl (t_buildSlice (T := (tyI .i64)) (xs := [bt text x.toNat]) (cs := #[.int .i64 (bt text x.toNat)]) rfl Try.underlying22 sz3 rfl rfl rfl rfl (by kernel_rfl) rfl rfl fun w6 u4 => ?_)
      have H7 : UpG w [] w6 [[rowT (tyI .i64) (.slice qa q.length qc) 3 q], [rowT (tyI .i64) (.slice (some ⟨w5.heap.size, 0, none⟩) ([bt text x.toNat].length) ([bt text x.toNat].length)) 3 [bt text x.toNat]]] := H6.new' u4
      refine WL.op rfl (t_append (T := (tyI .i64)) (xs := q) (ys := [bt text x.toNat]) rfl Try.underlying22 sz3 rfl rfl rfl (H7.ownT 0 rfl) (H7.rdT 1 rfl) (by simp; omega) (by simp; omega) fun a2 c2 w7 u5 => ?_)
      have H8 : UpG w [] w7 [[rowT (tyI .i64) (.slice a2 ((q ++ [bt text x.toNat]).length) c2) 3 (q ++ [bt text x.toNat])], []] := (H7.on 0 rfl u5).drop 1
      refine WL.op rfl (d_assign rfl ?_)
      refine WL.done (X.block_normal (X.then_code ?_))
      refine W.region ?_
      refine WL.op rfl (d_move rfl ?_)
      refine WL.op rfl (d_add rfl rfl (by omega) (by omega) ?_)
      refine WL.op rfl (d_assign rfl ?_)
      refine WL.done ?_
      exact X.next [8, 7, 6, 0, 2] (Γ' := [(8, .int .i64 (x + 1)), (7, .slice a2 ((q ++ [bt text x.toNat]).length) c2), (6, .slice none 0 0), (0, .string text), (2, .int .i64 j)]) rfl ((j - (x + 1)).toNat) (by omega) ⟨x + 1, q ++ [bt text x.toNat], a2, c2, rfl, (H8.re rfl), (by first | assumption | omega | simp), (by rw [hq, List.append_assoc, show (x + 1 - i).toNat = (x - i).toNat + 1 by omega, ← partL_step, show i.toNat + (x - i).toNat = x.toNat by omega]), (by simp; omega), rfl⟩
    · skip
      refine W.exit (X.then_exit (X.then_exit (X.block_exit (X.then_code ?_))))
      refine W.cut (fun Γ' w' => ∃ o2 : List Int, ∃ oa2 : Option Addr, ∃ oc2 : Nat, Γ' = [(7, .slice oa2 o2.length oc2), (6, .slice none 0 0)] ∧ UpG w [] w' [[rowT (tyI .i64) (.slice oa2 o2.length oc2) 3 o2]] ∧ (o2 = q ++ (if j = (text.size : Int) then [257] else []))) ?_ ?_
      · skip
        refine W.seq ?_
        refine W.region ?_
        refine WL.op rfl (d_move rfl ?_)
        refine WL.op rfl (d_move rfl ?_)
        refine WL.op rfl (d_lenStr Try.underlying9 rfl ?_)
        refine WL.op rfl (d_cmp (decide (j = ((text.size : Nat) : Int))) rfl rfl rfl ?_)
        refine WL.done (X.then_code ?_)
        refine W.ite (p := j = ((text.size : Nat) : Int)) rfl (fun c84 => ?_) (fun c84 => ?_)
        · skip
          refine W.region ?_
          refine WL.op rfl (d_move rfl ?_)
          refine WL.op rfl (t_buildSlice (T := (tyI .i64)) (xs := [257]) (cs := #[.int .i64 257]) rfl Try.underlying22 sz3 rfl rfl rfl rfl (by kernel_rfl) rfl rfl fun w8 u6 => ?_)
          have H9 : UpG w [] w8 [[rowT (tyI .i64) (.slice qa q.length qc) 3 q], [rowT (tyI .i64) (.slice (some ⟨w5.heap.size, 0, none⟩) ([257].length) ([257].length)) 3 [257]]] := H6.new' u6
          refine WL.op rfl (t_append (T := (tyI .i64)) (xs := q) (ys := [257]) rfl Try.underlying22 sz3 rfl rfl rfl (H9.ownT 0 rfl) (H9.rdT 1 rfl) (by simp; omega) (by simp; omega) fun a3 c3 w9 u7 => ?_)
          have H10 : UpG w [] w9 [[rowT (tyI .i64) (.slice a3 ((q ++ [257]).length) c3) 3 (q ++ [257])], []] := (H9.on 0 rfl u7).drop 1
          refine WL.op rfl (d_assign rfl ?_)
          refine WL.done ?_
          exact X.cut [7, 6] (Γ' := [(7, .slice a3 ((q ++ [257]).length) c3), (6, .slice none 0 0)]) rfl ⟨q ++ [257], a3, c3, rfl, (H10.re rfl), (by first | rw [if_pos c84] | (rw [if_neg c84, List.append_nil]))⟩
        · skip
          refine W.skip ?_
          exact X.cut [7, 6] (Γ' := [(7, .slice qa q.length qc), (6, .slice none 0 0)]) rfl ⟨q, qa, qc, rfl, H6, (by first | rw [if_pos c84] | (rw [if_neg c84, List.append_nil]))⟩
      rintro Γ3 w10 ⟨o2, oa2, oc2, rfl, H11, ho2⟩
      refine W.seq ?_
      refine W.region ?_
      refine WL.op rfl (d_move rfl ?_)
      refine WL.op rfl (d_assign rfl ?_)
      refine WL.done (X.then_code ?_)
      refine W.ret (X.ret1 rfl rfl ?_)
      have e1 : wordD text i j = o2 := by rw [wordD, if_neg (by rw [he2]; simp), if_neg (by intro h9; rw [h9] at c75; exact c75 rfl), ho2, hq, show (x - i).toNat = j.toNat - i.toNat by omega, bytesL_extract (by omega) (by omega)]
      rw [e1]
      exact ⟨oa2, oc2, (by rfl), (by have hh := H11.one 0 rfl; exact hh)⟩

set_option maxRecDepth 20000 in
theorem dfaWords_any (text : ByteArray) (i : Int) (j : Int) (a : DfaD) (aca : Option Addr) (ana : Option Addr) (aba : Option Addr) (acc : Nat) (anc : Nat) (abc : Nat) (b : DfaD) (bca : Option Addr) (bna : Option Addr) (bba : Option Addr) (bcc : Nat) (bnc : Nat) (bbc : Nat) (w : World) (rca : RdT (tyI .i64) w (.slice aca a.cls.length acc) a.cls) (rna : RdT (tyI .i64) w (.slice ana a.next.length anc) a.next) (rba : RdT tyB w (.slice aba a.acc.length abc) a.acc) (rcb : RdT (tyI .i64) w (.slice bca b.cls.length bcc) b.cls) (rnb : RdT (tyI .i64) w (.slice bna b.next.length bnc) b.next) (rbb : RdT tyB w (.slice bba b.acc.length bbc) b.acc) :
    Calls Try.prog 9 #[.string text, .agg #[.int .i64 i, .int .i64 j], .agg #[.slice aca a.cls.length acc, .int .i64 a.width, .int .i64 a.start, .slice ana a.next.length anc, .slice aba a.acc.length abc, .slice bca b.cls.length bcc, .int .i64 b.width, .int .i64 b.start, .slice bna b.next.length bnc, .slice bba b.acc.length bbc]] w (Ret fun v w' => v = .bool true ∧ Upd w [] w' []) := by
  have le_rca := rca.le
  have le_rna := rna.le
  have le_rba := rba.le
  have le_rcb := rcb.le
  have le_rnb := rnb.le
  have le_rbb := rbb.le
  refine calls_of_W (args := [.string text, .agg #[.int .i64 i, .int .i64 j], .agg #[.slice aca a.cls.length acc, .int .i64 a.width, .int .i64 a.start, .slice ana a.next.length anc, .slice aba a.acc.length abc, .slice bca b.cls.length bcc, .int .i64 b.width, .int .i64 b.start, .slice bna b.next.length bnc, .slice bba b.acc.length bbc]]) Try.func9 rfl rfl rfl ?_
  have H0 : UpG w [] w [] := UpG.nil w
  show W _ _ _ _ [(0, .string text), (1, .agg #[.int .i64 i, .int .i64 j]), (2, .agg #[.slice aca a.cls.length acc, .int .i64 a.width, .int .i64 a.start, .slice ana a.next.length anc, .slice aba a.acc.length abc, .slice bca b.cls.length bcc, .int .i64 b.width, .int .i64 b.start, .slice bna b.next.length bnc, .slice bba b.acc.length bbc])] w
  refine W.seq ?_
  refine W.region ?_
  refine WL.op rfl (d_box rfl fun w1 u1 => ?_)
  have H1 : UpG w [] w1 [[blk w.heap.size #[.int .i64 i, .int .i64 j] 54]] := H0.new' u1
  refine WL.op rfl (d_box rfl fun w2 u2 => ?_)
  have H2 : UpG w [] w2 [[blk w.heap.size #[.int .i64 i, .int .i64 j] 54], [blk w1.heap.size #[.slice aca a.cls.length acc, .int .i64 a.width, .int .i64 a.start, .slice ana a.next.length anc, .slice aba a.acc.length abc, .slice bca b.cls.length bcc, .int .i64 b.width, .int .i64 b.start, .slice bna b.next.length bnc, .slice bba b.acc.length bbc] 58]] := H1.new' u2
  refine WL.op rfl (d_assign rfl ?_)
  refine WL.done (X.then_code ?_)
  refine W.seq ?_
  refine W.seq ?_
  refine W.region ?_
  refine WL.op rfl (d_call ok16 rfl (Ret.calls (awake12_any  w2  ) fun _ w3 p1 => ?_))
  obtain ⟨rfl, u3⟩ := p1
  have H3 : UpG w [] w3 [[blk w.heap.size #[.int .i64 i, .int .i64 j] 54], [blk w1.heap.size #[.slice aca a.cls.length acc, .int .i64 a.width, .int .i64 a.start, .slice ana a.next.length anc, .slice aba a.acc.length abc, .slice bca b.cls.length bcc, .int .i64 b.width, .int .i64 b.start, .slice bna b.next.length bnc, .slice bba b.acc.length bbc] 58]] := H2.call u3
  refine WL.op rfl (d_notB rfl ?_)
  refine WL.done (X.then_code ?_)
  refine W.iff rfl ?_
  refine W.skip (X.then_code ?_)
  refine W.seq ?_
  refine W.region ?_
  refine WL.op rfl (d_move rfl ?_)
  refine WL.op rfl (d_move rfl ?_)
  refine WL.op rfl (d_lenStr Try.underlying9 rfl ?_)
  refine WL.op rfl (d_min rfl rfl ?_)
  refine WL.op rfl (d_substrN 0 (min ((text.size : Nat) : Int) 40) 0 ((min ((text.size : Nat) : Int) 40).toNat) Try.underlying9 rfl rfl rfl (.inl ⟨rfl, rfl⟩) (.inr ⟨_, rfl⟩) (by omega) (by omega) ⟨by omega, by omega, by omega⟩ ?_)
  refine WL.op rfl (d_assign rfl ?_)
  refine WL.done (X.then_code ?_)
  refine W.seq ?_
  refine W.regionD mixed (by kernel_rfl) fun hok1 w4 k1 => ?_
  have H4 : UpG w [] w4 [[blk w.heap.size #[.int .i64 i, .int .i64 j] 54], [blk w1.heap.size #[.slice aca a.cls.length acc, .int .i64 a.width, .int .i64 a.start, .slice ana a.next.length anc, .slice aba a.acc.length abc, .slice bca b.cls.length bcc, .int .i64 b.width, .int .i64 b.start, .slice bna b.next.length bnc, .slice bba b.acc.length bbc] 58]] := H3.kept k1
  refine WD.take hok1 0 (.pointer (some ⟨w.heap.size, 0, none⟩)) (fun _ => True) rfl rfl rfl rfl rfl trivial (.inl ⟨rfl, fun _ _ => d_idxAddrArr Try.underlying54 sz3 rfl rfl (by omega) (by omega) ⟨rfl, rfl⟩⟩) ?_
  refine WD.take hok1 1 (.int .i64 i) (fun w' => w'.heap[w.heap.size]? = some (.cells #[.int .i64 i, .int .i64 j] 54 (0, 0))) rfl rfl rfl rfl rfl (H4.blk 0 rfl) (.inl ⟨rfl, fun _ hC => d_loadB Try.underlying3 rfl rfl hC rfl ⟨rfl, rfl⟩⟩) ?_
  refine WD.take hok1 2 (.pointer (some ⟨w.heap.size, 1, none⟩)) (fun _ => True) rfl rfl rfl rfl rfl trivial (.inl ⟨rfl, fun _ _ => d_idxAddrArr Try.underlying54 sz3 rfl rfl (by omega) (by omega) ⟨rfl, rfl⟩⟩) ?_
  refine WD.take hok1 3 (.int .i64 j) (fun w' => w'.heap[w.heap.size]? = some (.cells #[.int .i64 i, .int .i64 j] 54 (0, 0))) rfl rfl rfl rfl rfl (H4.blk 0 rfl) (.inl ⟨rfl, fun _ hC => d_loadB Try.underlying3 rfl rfl hC rfl ⟨rfl, rfl⟩⟩) ?_
  refine WD.take hok1 4 (.int .i64 i) (fun _ => True) rfl rfl rfl rfl rfl trivial (.inl ⟨rfl, fun _ _ => d_assign rfl ⟨rfl, rfl⟩⟩) ?_
  refine WD.take hok1 5 (.int .i64 j) (fun _ => True) rfl rfl rfl rfl rfl trivial (.inl ⟨rfl, fun _ _ => d_assign rfl ⟨rfl, rfl⟩⟩) ?_
  refine WD.done hok1 rfl (X.then_code ?_)
  refine W.pick [8, 7, 0, 6, 5] (Γ' := [(8, .int .i64 j), (7, .int .i64 i), (0, .string (text.extract 0 ((min ((text.size : Nat) : Int) 40).toNat))), (6, .bool false), (5, .pointer (some ⟨w1.heap.size, 0, none⟩))]) rfl ?_
  refine W.cut (fun Γ' w' => ∃ ga : Nat, ∃ gb : Nat, Γ' = [(8, .int .i64 j), (7, .int .i64 i), (0, .string (text.extract 0 ((min ((text.size : Nat) : Int) 40).toNat))), (6, .bool false), (9, .pointer (some ⟨ga, 0, none⟩)), (10, .pointer (some ⟨gb, 0, none⟩))] ∧ UpG w [] w' [[blk w.heap.size #[.int .i64 i, .int .i64 j] 54], [blk w1.heap.size #[.slice aca a.cls.length acc, .int .i64 a.width, .int .i64 a.start, .slice ana a.next.length anc, .slice aba a.acc.length abc, .slice bca b.cls.length bcc, .int .i64 b.width, .int .i64 b.start, .slice bna b.next.length bnc, .slice bba b.acc.length bbc] 58], [blk ga #[.slice aca a.cls.length acc, .int .i64 a.width, .int .i64 a.start, .slice ana a.next.length anc, .slice aba a.acc.length abc] 25], [blk gb #[.slice bca b.cls.length bcc, .int .i64 b.width, .int .i64 b.start, .slice bna b.next.length bnc, .slice bba b.acc.length bbc] 25]]) ?_ ?_
  · skip
    refine W.regionD mixed (by kernel_rfl) fun hok2 w5 k2 => ?_
    have H5 : UpG w [] w5 [[blk w.heap.size #[.int .i64 i, .int .i64 j] 54], [blk w1.heap.size #[.slice aca a.cls.length acc, .int .i64 a.width, .int .i64 a.start, .slice ana a.next.length anc, .slice aba a.acc.length abc, .slice bca b.cls.length bcc, .int .i64 b.width, .int .i64 b.start, .slice bna b.next.length bnc, .slice bba b.acc.length bbc] 58]] := H4.kept k2
    refine WD.take hok2 0 (.pointer (some ⟨w1.heap.size, 0, none⟩)) (fun _ => True) rfl rfl rfl rfl rfl trivial (.inl ⟨rfl, fun _ _ => d_idxAddrArr Try.underlying58 sz25 rfl rfl (by omega) (by omega) ⟨rfl, rfl⟩⟩) ?_
    refine WD.take hok2 1 (.agg #[.slice aca a.cls.length acc, .int .i64 a.width, .int .i64 a.start, .slice ana a.next.length anc, .slice aba a.acc.length abc]) (fun w' => w'.heap[w1.heap.size]? = some (.cells #[.slice aca a.cls.length acc, .int .i64 a.width, .int .i64 a.start, .slice ana a.next.length anc, .slice aba a.acc.length abc, .slice bca b.cls.length bcc, .int .i64 b.width, .int .i64 b.start, .slice bna b.next.length bnc, .slice bba b.acc.length bbc] 58 (0, 0))) rfl rfl rfl rfl rfl (H5.blk 1 rfl) (.inl ⟨rfl, fun _ hC => d_loadAB [.slice aca a.cls.length acc, .int .i64 a.width, .int .i64 a.start, .slice ana a.next.length anc, .slice aba a.acc.length abc] Try.underlying25 rfl sz25 rfl hC rfl rfl ⟨rfl, rfl⟩⟩) ?_
    refine WD.take hok2 2 (.pointer (some ⟨w1.heap.size, 5, none⟩)) (fun _ => True) rfl rfl rfl rfl rfl trivial (.inl ⟨rfl, fun _ _ => d_idxAddrArr Try.underlying58 sz25 rfl rfl (by omega) (by omega) ⟨rfl, rfl⟩⟩) ?_
    refine WD.take hok2 3 (.agg #[.slice bca b.cls.length bcc, .int .i64 b.width, .int .i64 b.start, .slice bna b.next.length bnc, .slice bba b.acc.length bbc]) (fun w' => w'.heap[w1.heap.size]? = some (.cells #[.slice aca a.cls.length acc, .int .i64 a.width, .int .i64 a.start, .slice ana a.next.length anc, .slice aba a.acc.length abc, .slice bca b.cls.length bcc, .int .i64 b.width, .int .i64 b.start, .slice bna b.next.length bnc, .slice bba b.acc.length bbc] 58 (0, 0))) rfl rfl rfl rfl rfl (H5.blk 1 rfl) (.inl ⟨rfl, fun _ hC => d_loadAB [.slice bca b.cls.length bcc, .int .i64 b.width, .int .i64 b.start, .slice bna b.next.length bnc, .slice bba b.acc.length bbc] Try.underlying25 rfl sz25 rfl hC rfl rfl ⟨rfl, rfl⟩⟩) ?_
    refine WD.louds hok2 [4, 5] rfl rfl (allOf2 ?_ ?_ )
    · skip
      refine ⟨_, [⟨3, .agg #[.slice bca b.cls.length bcc, .int .i64 b.width, .int .i64 b.start, .slice bna b.next.length bnc, .slice bba b.acc.length bbc], (fun w' => w'.heap[w1.heap.size]? = some (.cells #[.slice aca a.cls.length acc, .int .i64 a.width, .int .i64 a.start, .slice ana a.next.length anc, .slice aba a.acc.length abc, .slice bca b.cls.length bcc, .int .i64 b.width, .int .i64 b.start, .slice bna b.next.length bnc, .slice bba b.acc.length bbc] 58 (0, 0)))⟩, ⟨2, .pointer (some ⟨w1.heap.size, 5, none⟩), (fun _ => True)⟩, ⟨1, .agg #[.slice aca a.cls.length acc, .int .i64 a.width, .int .i64 a.start, .slice ana a.next.length anc, .slice aba a.acc.length abc], (fun w' => w'.heap[w1.heap.size]? = some (.cells #[.slice aca a.cls.length acc, .int .i64 a.width, .int .i64 a.start, .slice ana a.next.length anc, .slice aba a.acc.length abc, .slice bca b.cls.length bcc, .int .i64 b.width, .int .i64 b.start, .slice bna b.next.length bnc, .slice bba b.acc.length bbc] 58 (0, 0)))⟩, ⟨0, .pointer (some ⟨w1.heap.size, 0, none⟩), (fun _ => True)⟩], rfl, rfl, rfl, rfl, rfl, rfl, d_alloc sz25 fun w6 u4 => ?_⟩
      have H6 : UpG w [] w6 [[blk w.heap.size #[.int .i64 i, .int .i64 j] 54], [blk w1.heap.size #[.slice aca a.cls.length acc, .int .i64 a.width, .int .i64 a.start, .slice ana a.next.length anc, .slice aba a.acc.length abc, .slice bca b.cls.length bcc, .int .i64 b.width, .int .i64 b.start, .slice bna b.next.length bnc, .slice bba b.acc.length bbc] 58], [blk w5.heap.size #[.slice none 0 0, .int .i64 0, .int .i64 0, .slice none 0 0, .slice none 0 0] 25]] := H5.new' u4
      refine ⟨⟨(H6.blk 1 rfl), trivial, (H6.blk 1 rfl), trivial, trivial⟩, ?_⟩
      refine WD.loud hok2 5 rfl (⟨_, [⟨3, .agg #[.slice bca b.cls.length bcc, .int .i64 b.width, .int .i64 b.start, .slice bna b.next.length bnc, .slice bba b.acc.length bbc], (fun w' => w'.heap[w1.heap.size]? = some (.cells #[.slice aca a.cls.length acc, .int .i64 a.width, .int .i64 a.start, .slice ana a.next.length anc, .slice aba a.acc.length abc, .slice bca b.cls.length bcc, .int .i64 b.width, .int .i64 b.start, .slice bna b.next.length bnc, .slice bba b.acc.length bbc] 58 (0, 0)))⟩, ⟨2, .pointer (some ⟨w1.heap.size, 5, none⟩), (fun _ => True)⟩, ⟨1, .agg #[.slice aca a.cls.length acc, .int .i64 a.width, .int .i64 a.start, .slice ana a.next.length anc, .slice aba a.acc.length abc], (fun w' => w'.heap[w1.heap.size]? = some (.cells #[.slice aca a.cls.length acc, .int .i64 a.width, .int .i64 a.start, .slice ana a.next.length anc, .slice aba a.acc.length abc, .slice bca b.cls.length bcc, .int .i64 b.width, .int .i64 b.start, .slice bna b.next.length bnc, .slice bba b.acc.length bbc] 58 (0, 0)))⟩, ⟨0, .pointer (some ⟨w1.heap.size, 0, none⟩), (fun _ => True)⟩], rfl, rfl, rfl, rfl, rfl, rfl, d_alloc sz25 fun w7 u5 => ?_⟩)
      have H7 : UpG w [] w7 [[blk w.heap.size #[.int .i64 i, .int .i64 j] 54], [blk w1.heap.size #[.slice aca a.cls.length acc, .int .i64 a.width, .int .i64 a.start, .slice ana a.next.length anc, .slice aba a.acc.length abc, .slice bca b.cls.length bcc, .int .i64 b.width, .int .i64 b.start, .slice bna b.next.length bnc, .slice bba b.acc.length bbc] 58], [blk w5.heap.size #[.slice none 0 0, .int .i64 0, .int .i64 0, .slice none 0 0, .slice none 0 0] 25], [blk w6.heap.size #[.slice none 0 0, .int .i64 0, .int .i64 0, .slice none 0 0, .slice none 0 0] 25]] := H6.new' u5
      refine ⟨⟨(H7.blk 1 rfl), trivial, (H7.blk 1 rfl), trivial, trivial⟩, ?_⟩
      refine WD.loud hok2 6 rfl (⟨_, [⟨3, .agg #[.slice bca b.cls.length bcc, .int .i64 b.width, .int .i64 b.start, .slice bna b.next.length bnc, .slice bba b.acc.length bbc], (fun w' => w'.heap[w1.heap.size]? = some (.cells #[.slice aca a.cls.length acc, .int .i64 a.width, .int .i64 a.start, .slice ana a.next.length anc, .slice aba a.acc.length abc, .slice bca b.cls.length bcc, .int .i64 b.width, .int .i64 b.start, .slice bna b.next.length bnc, .slice bba b.acc.length bbc] 58 (0, 0)))⟩, ⟨2, .pointer (some ⟨w1.heap.size, 5, none⟩), (fun _ => True)⟩], rfl, rfl, rfl, rfl, rfl, rfl, d_storeAB (us := [.slice aca a.cls.length acc, .int .i64 a.width, .int .i64 a.start, .slice ana a.next.length anc, .slice aba a.acc.length abc]) (cs' := #[.slice aca a.cls.length acc, .int .i64 a.width, .int .i64 a.start, .slice ana a.next.length anc, .slice aba a.acc.length abc]) sz25 rfl rfl rfl rfl (H7.blk 2 rfl) rfl rfl fun w8 u6 => ?_⟩)
      have H8 : UpG w [] w8 [[blk w.heap.size #[.int .i64 i, .int .i64 j] 54], [blk w1.heap.size #[.slice aca a.cls.length acc, .int .i64 a.width, .int .i64 a.start, .slice ana a.next.length anc, .slice aba a.acc.length abc, .slice bca b.cls.length bcc, .int .i64 b.width, .int .i64 b.start, .slice bna b.next.length bnc, .slice bba b.acc.length bbc] 58], [blk w5.heap.size #[.slice aca a.cls.length acc, .int .i64 a.width, .int .i64 a.start, .slice ana a.next.length anc, .slice aba a.acc.length abc] 25], [blk w6.heap.size #[.slice none 0 0, .int .i64 0, .int .i64 0, .slice none 0 0, .slice none 0 0] 25]] := H7.on 2 rfl u6
      refine ⟨⟨(H8.blk 1 rfl), trivial, trivial⟩, ?_⟩
      refine WD.loud hok2 7 rfl (⟨_, [], rfl, rfl, rfl, rfl, rfl, rfl, d_storeAB (us := [.slice bca b.cls.length bcc, .int .i64 b.width, .int .i64 b.start, .slice bna b.next.length bnc, .slice bba b.acc.length bbc]) (cs' := #[.slice bca b.cls.length bcc, .int .i64 b.width, .int .i64 b.start, .slice bna b.next.length bnc, .slice bba b.acc.length bbc]) sz25 rfl rfl rfl rfl (H8.blk 3 rfl) rfl rfl fun w9 u7 => ?_⟩)
      have H9 : UpG w [] w9 [[blk w.heap.size #[.int .i64 i, .int .i64 j] 54], [blk w1.heap.size #[.slice aca a.cls.length acc, .int .i64 a.width, .int .i64 a.start, .slice ana a.next.length anc, .slice aba a.acc.length abc, .slice bca b.cls.length bcc, .int .i64 b.width, .int .i64 b.start, .slice bna b.next.length bnc, .slice bba b.acc.length bbc] 58], [blk w5.heap.size #[.slice aca a.cls.length acc, .int .i64 a.width, .int .i64 a.start, .slice ana a.next.length anc, .slice aba a.acc.length abc] 25], [blk w6.heap.size #[.slice bca b.cls.length bcc, .int .i64 b.width, .int .i64 b.start, .slice bna b.next.length bnc, .slice bba b.acc.length bbc] 25]] := H8.on 3 rfl u7
      refine ⟨trivial, ?_⟩
      refine WD.done hok2 rfl ?_
      exact X.cut [8, 7, 0, 6, 9, 10] (Γ' := [(8, .int .i64 j), (7, .int .i64 i), (0, .string (text.extract 0 ((min ((text.size : Nat) : Int) 40).toNat))), (6, .bool false), (9, .pointer (some ⟨w5.heap.size, 0, none⟩)), (10, .pointer (some ⟨w6.heap.size, 0, none⟩))]) rfl ⟨w5.heap.size, w6.heap.size, rfl, H9⟩
    · skip
      refine ⟨_, [⟨3, .agg #[.slice bca b.cls.length bcc, .int .i64 b.width, .int .i64 b.start, .slice bna b.next.length bnc, .slice bba b.acc.length bbc], (fun w' => w'.heap[w1.heap.size]? = some (.cells #[.slice aca a.cls.length acc, .int .i64 a.width, .int .i64 a.start, .slice ana a.next.length anc, .slice aba a.acc.length abc, .slice bca b.cls.length bcc, .int .i64 b.width, .int .i64 b.start, .slice bna b.next.length bnc, .slice bba b.acc.length bbc] 58 (0, 0)))⟩, ⟨2, .pointer (some ⟨w1.heap.size, 5, none⟩), (fun _ => True)⟩, ⟨1, .agg #[.slice aca a.cls.length acc, .int .i64 a.width, .int .i64 a.start, .slice ana a.next.length anc, .slice aba a.acc.length abc], (fun w' => w'.heap[w1.heap.size]? = some (.cells #[.slice aca a.cls.length acc, .int .i64 a.width, .int .i64 a.start, .slice ana a.next.length anc, .slice aba a.acc.length abc, .slice bca b.cls.length bcc, .int .i64 b.width, .int .i64 b.start, .slice bna b.next.length bnc, .slice bba b.acc.length bbc] 58 (0, 0)))⟩, ⟨0, .pointer (some ⟨w1.heap.size, 0, none⟩), (fun _ => True)⟩], rfl, rfl, rfl, rfl, rfl, rfl, d_alloc sz25 fun w10 u8 => ?_⟩
      have H10 : UpG w [] w10 [[blk w.heap.size #[.int .i64 i, .int .i64 j] 54], [blk w1.heap.size #[.slice aca a.cls.length acc, .int .i64 a.width, .int .i64 a.start, .slice ana a.next.length anc, .slice aba a.acc.length abc, .slice bca b.cls.length bcc, .int .i64 b.width, .int .i64 b.start, .slice bna b.next.length bnc, .slice bba b.acc.length bbc] 58], [blk w5.heap.size #[.slice none 0 0, .int .i64 0, .int .i64 0, .slice none 0 0, .slice none 0 0] 25]] := H5.new' u8
      refine ⟨⟨(H10.blk 1 rfl), trivial, (H10.blk 1 rfl), trivial, trivial⟩, ?_⟩
      refine WD.loud hok2 4 rfl (⟨_, [⟨3, .agg #[.slice bca b.cls.length bcc, .int .i64 b.width, .int .i64 b.start, .slice bna b.next.length bnc, .slice bba b.acc.length bbc], (fun w' => w'.heap[w1.heap.size]? = some (.cells #[.slice aca a.cls.length acc, .int .i64 a.width, .int .i64 a.start, .slice ana a.next.length anc, .slice aba a.acc.length abc, .slice bca b.cls.length bcc, .int .i64 b.width, .int .i64 b.start, .slice bna b.next.length bnc, .slice bba b.acc.length bbc] 58 (0, 0)))⟩, ⟨2, .pointer (some ⟨w1.heap.size, 5, none⟩), (fun _ => True)⟩, ⟨1, .agg #[.slice aca a.cls.length acc, .int .i64 a.width, .int .i64 a.start, .slice ana a.next.length anc, .slice aba a.acc.length abc], (fun w' => w'.heap[w1.heap.size]? = some (.cells #[.slice aca a.cls.length acc, .int .i64 a.width, .int .i64 a.start, .slice ana a.next.length anc, .slice aba a.acc.length abc, .slice bca b.cls.length bcc, .int .i64 b.width, .int .i64 b.start, .slice bna b.next.length bnc, .slice bba b.acc.length bbc] 58 (0, 0)))⟩, ⟨0, .pointer (some ⟨w1.heap.size, 0, none⟩), (fun _ => True)⟩], rfl, rfl, rfl, rfl, rfl, rfl, d_alloc sz25 fun w11 u9 => ?_⟩)
      have H11 : UpG w [] w11 [[blk w.heap.size #[.int .i64 i, .int .i64 j] 54], [blk w1.heap.size #[.slice aca a.cls.length acc, .int .i64 a.width, .int .i64 a.start, .slice ana a.next.length anc, .slice aba a.acc.length abc, .slice bca b.cls.length bcc, .int .i64 b.width, .int .i64 b.start, .slice bna b.next.length bnc, .slice bba b.acc.length bbc] 58], [blk w5.heap.size #[.slice none 0 0, .int .i64 0, .int .i64 0, .slice none 0 0, .slice none 0 0] 25], [blk w10.heap.size #[.slice none 0 0, .int .i64 0, .int .i64 0, .slice none 0 0, .slice none 0 0] 25]] := H10.new' u9
      refine ⟨⟨(H11.blk 1 rfl), trivial, (H11.blk 1 rfl), trivial, trivial⟩, ?_⟩
      refine WD.loud hok2 6 rfl (⟨_, [⟨3, .agg #[.slice bca b.cls.length bcc, .int .i64 b.width, .int .i64 b.start, .slice bna b.next.length bnc, .slice bba b.acc.length bbc], (fun w' => w'.heap[w1.heap.size]? = some (.cells #[.slice aca a.cls.length acc, .int .i64 a.width, .int .i64 a.start, .slice ana a.next.length anc, .slice aba a.acc.length abc, .slice bca b.cls.length bcc, .int .i64 b.width, .int .i64 b.start, .slice bna b.next.length bnc, .slice bba b.acc.length bbc] 58 (0, 0)))⟩, ⟨2, .pointer (some ⟨w1.heap.size, 5, none⟩), (fun _ => True)⟩], rfl, rfl, rfl, rfl, rfl, rfl, d_storeAB (us := [.slice aca a.cls.length acc, .int .i64 a.width, .int .i64 a.start, .slice ana a.next.length anc, .slice aba a.acc.length abc]) (cs' := #[.slice aca a.cls.length acc, .int .i64 a.width, .int .i64 a.start, .slice ana a.next.length anc, .slice aba a.acc.length abc]) sz25 rfl rfl rfl rfl (H11.blk 3 rfl) rfl rfl fun w12 u10 => ?_⟩)
      have H12 : UpG w [] w12 [[blk w.heap.size #[.int .i64 i, .int .i64 j] 54], [blk w1.heap.size #[.slice aca a.cls.length acc, .int .i64 a.width, .int .i64 a.start, .slice ana a.next.length anc, .slice aba a.acc.length abc, .slice bca b.cls.length bcc, .int .i64 b.width, .int .i64 b.start, .slice bna b.next.length bnc, .slice bba b.acc.length bbc] 58], [blk w5.heap.size #[.slice none 0 0, .int .i64 0, .int .i64 0, .slice none 0 0, .slice none 0 0] 25], [blk w10.heap.size #[.slice aca a.cls.length acc, .int .i64 a.width, .int .i64 a.start, .slice ana a.next.length anc, .slice aba a.acc.length abc] 25]] := H11.on 3 rfl u10
      refine ⟨⟨(H12.blk 1 rfl), trivial, trivial⟩, ?_⟩
      refine WD.loud hok2 7 rfl (⟨_, [], rfl, rfl, rfl, rfl, rfl, rfl, d_storeAB (us := [.slice bca b.cls.length bcc, .int .i64 b.width, .int .i64 b.start, .slice bna b.next.length bnc, .slice bba b.acc.length bbc]) (cs' := #[.slice bca b.cls.length bcc, .int .i64 b.width, .int .i64 b.start, .slice bna b.next.length bnc, .slice bba b.acc.length bbc]) sz25 rfl rfl rfl rfl (H12.blk 2 rfl) rfl rfl fun w13 u11 => ?_⟩)
      have H13 : UpG w [] w13 [[blk w.heap.size #[.int .i64 i, .int .i64 j] 54], [blk w1.heap.size #[.slice aca a.cls.length acc, .int .i64 a.width, .int .i64 a.start, .slice ana a.next.length anc, .slice aba a.acc.length abc, .slice bca b.cls.length bcc, .int .i64 b.width, .int .i64 b.start, .slice bna b.next.length bnc, .slice bba b.acc.length bbc] 58], [blk w5.heap.size #[.slice bca b.cls.length bcc, .int .i64 b.width, .int .i64 b.start, .slice bna b.next.length bnc, .slice bba b.acc.length bbc] 25], [blk w10.heap.size #[.slice aca a.cls.length acc, .int .i64 a.width, .int .i64 a.start, .slice ana a.next.length anc, .slice aba a.acc.length abc] 25]] := H12.on 2 rfl u11
      refine ⟨trivial, ?_⟩
      refine WD.done hok2 rfl ?_
      exact X.cut [8, 7, 0, 6, 9, 10] (Γ' := [(8, .int .i64 j), (7, .int .i64 i), (0, .string (text.extract 0 ((min ((text.size : Nat) : Int) 40).toNat))), (6, .bool false), (9, .pointer (some ⟨w10.heap.size, 0, none⟩)), (10, .pointer (some ⟨w5.heap.size, 0, none⟩))]) rfl ⟨w10.heap.size, w5.heap.size, rfl, (UpG.of (G := [[blk w.heap.size #[.int .i64 i, .int .i64 j] 54], [blk w1.heap.size #[.slice aca a.cls.length acc, .int .i64 a.width, .int .i64 a.start, .slice ana a.next.length anc, .slice aba a.acc.length abc, .slice bca b.cls.length bcc, .int .i64 b.width, .int .i64 b.start, .slice bna b.next.length bnc, .slice bba b.acc.length bbc] 58], [blk w10.heap.size #[.slice aca a.cls.length acc, .int .i64 a.width, .int .i64 a.start, .slice ana a.next.length anc, .slice aba a.acc.length abc] 25], [blk w5.heap.size #[.slice bca b.cls.length bcc, .int .i64 b.width, .int .i64 b.start, .slice bna b.next.length bnc, .slice bba b.acc.length bbc] 25]]) (Upd.sel H13 (M := [blk w.heap.size #[.int .i64 i, .int .i64 j] 54, blk w1.heap.size #[.slice aca a.cls.length acc, .int .i64 a.width, .int .i64 a.start, .slice ana a.next.length anc, .slice aba a.acc.length abc, .slice bca b.cls.length bcc, .int .i64 b.width, .int .i64 b.start, .slice bna b.next.length bnc, .slice bba b.acc.length bbc] 58, blk w10.heap.size #[.slice aca a.cls.length acc, .int .i64 a.width, .int .i64 a.start, .slice ana a.next.length anc, .slice aba a.acc.length abc] 25, blk w5.heap.size #[.slice bca b.cls.length bcc, .int .i64 b.width, .int .i64 b.start, .slice bna b.next.length bnc, .slice bba b.acc.length bbc] 25]) (l := [0, 1, 3, 2]) rfl rfl) rfl)⟩
  rintro Γ1 w14 ⟨ga, gb, rfl, H14⟩
  refine W.seq ?_
  refine W.region ?_
  refine WL.op rfl (d_move rfl ?_)
  refine WL.op rfl (d_move rfl ?_)
  refine WL.op rfl (d_move rfl ?_)
  refine WL.op rfl (d_call ok39 rfl (Ret.calls (word_any (text.extract 0 ((min ((text.size : Nat) : Int) 40).toNat)) i j w14  (by simp; omega)) fun _ w15 p2 => ?_))
  obtain ⟨a2_1, c2_1, rfl, u12⟩ := p2
  have H15 : UpG w [] w15 [[blk w.heap.size #[.int .i64 i, .int .i64 j] 54], [blk w1.heap.size #[.slice aca a.cls.length acc, .int .i64 a.width, .int .i64 a.start, .slice ana a.next.length anc, .slice aba a.acc.length abc, .slice bca b.cls.length bcc, .int .i64 b.width, .int .i64 b.start, .slice bna b.next.length bnc, .slice bba b.acc.length bbc] 58], [blk ga #[.slice aca a.cls.length acc, .int .i64 a.width, .int .i64 a.start, .slice ana a.next.length anc, .slice aba a.acc.length abc] 25], [blk gb #[.slice bca b.cls.length bcc, .int .i64 b.width, .int .i64 b.start, .slice bna b.next.length bnc, .slice bba b.acc.length bbc] 25], [rowT (tyI .i64) (.slice a2_1 ((wordD (text.extract 0 ((min ((text.size : Nat) : Int) 40).toNat)) i j).length) c2_1) 3 (wordD (text.extract 0 ((min ((text.size : Nat) : Int) 40).toNat)) i j)]] := (H14.new' u12).re rfl
  refine WL.op rfl (d_move rfl ?_)
  refine WL.op rfl (d_extract rfl rfl ?_)
  refine WL.op rfl (d_extract rfl rfl ?_)
  refine WL.op rfl (d_assign rfl ?_)
  refine WL.op rfl (d_assign rfl ?_)
  refine WL.done (X.then_code ?_)
  refine W.seq ?_
  refine W.seq ?_
  refine W.regionD mixed (by kernel_rfl) fun hok3 w16 k3 => ?_
  have H16 : UpG w [] w16 [[blk w.heap.size #[.int .i64 i, .int .i64 j] 54], [blk w1.heap.size #[.slice aca a.cls.length acc, .int .i64 a.width, .int .i64 a.start, .slice ana a.next.length anc, .slice aba a.acc.length abc, .slice bca b.cls.length bcc, .int .i64 b.width, .int .i64 b.start, .slice bna b.next.length bnc, .slice bba b.acc.length bbc] 58], [blk ga #[.slice aca a.cls.length acc, .int .i64 a.width, .int .i64 a.start, .slice ana a.next.length anc, .slice aba a.acc.length abc] 25], [blk gb #[.slice bca b.cls.length bcc, .int .i64 b.width, .int .i64 b.start, .slice bna b.next.length bnc, .slice bba b.acc.length bbc] 25], [rowT (tyI .i64) (.slice a2_1 ((wordD (text.extract 0 ((min ((text.size : Nat) : Int) 40).toNat)) i j).length) c2_1) 3 (wordD (text.extract 0 ((min ((text.size : Nat) : Int) 40).toNat)) i j)]] := H15.kept k3
  refine WD.take hok3 0 (.agg #[.slice aca a.cls.length acc, .int .i64 a.width, .int .i64 a.start, .slice ana a.next.length anc, .slice aba a.acc.length abc]) (fun w' => w'.heap[ga]? = some (.cells #[.slice aca a.cls.length acc, .int .i64 a.width, .int .i64 a.start, .slice ana a.next.length anc, .slice aba a.acc.length abc] 25 (0, 0))) rfl rfl rfl rfl rfl (H16.blk 2 rfl) (.inl ⟨rfl, fun _ hC => d_loadAB [.slice aca a.cls.length acc, .int .i64 a.width, .int .i64 a.start, .slice ana a.next.length anc, .slice aba a.acc.length abc] Try.underlying25 rfl sz25 rfl hC rfl rfl ⟨rfl, rfl⟩⟩) ?_
  refine WD.take hok3 1 (.agg #[.slice bca b.cls.length bcc, .int .i64 b.width, .int .i64 b.start, .slice bna b.next.length bnc, .slice bba b.acc.length bbc]) (fun w' => w'.heap[gb]? = some (.cells #[.slice bca b.cls.length bcc, .int .i64 b.width, .int .i64 b.start, .slice bna b.next.length bnc, .slice bba b.acc.length bbc] 25 (0, 0))) rfl rfl rfl rfl rfl (H16.blk 3 rfl) (.inl ⟨rfl, fun _ hC => d_loadAB [.slice bca b.cls.length bcc, .int .i64 b.width, .int .i64 b.start, .slice bna b.next.length bnc, .slice bba b.acc.length bbc] Try.underlying25 rfl sz25 rfl hC rfl rfl ⟨rfl, rfl⟩⟩) ?_
  refine WD.take hok3 3 (.agg #[.slice aca a.cls.length acc, .int .i64 a.width, .int .i64 a.start, .slice ana a.next.length anc, .slice aba a.acc.length abc]) (fun w' => w'.heap[ga]? = some (.cells #[.slice aca a.cls.length acc, .int .i64 a.width, .int .i64 a.start, .slice ana a.next.length anc, .slice aba a.acc.length abc] 25 (0, 0))) rfl rfl rfl rfl rfl (H16.blk 2 rfl) (.inl ⟨rfl, fun _ hC => d_loadAB [.slice aca a.cls.length acc, .int .i64 a.width, .int .i64 a.start, .slice ana a.next.length anc, .slice aba a.acc.length abc] Try.underlying25 rfl sz25 rfl hC rfl rfl ⟨rfl, rfl⟩⟩) ?_
  refine WD.take hok3 4 (.agg #[.slice bca b.cls.length bcc, .int .i64 b.width, .int .i64 b.start, .slice bna b.next.length bnc, .slice bba b.acc.length bbc]) (fun w' => w'.heap[gb]? = some (.cells #[.slice bca b.cls.length bcc, .int .i64 b.width, .int .i64 b.start, .slice bna b.next.length bnc, .slice bba b.acc.length bbc] 25 (0, 0))) rfl rfl rfl rfl rfl (H16.blk 3 rfl) (.inl ⟨rfl, fun _ hC => d_loadAB [.slice bca b.cls.length bcc, .int .i64 b.width, .int .i64 b.start, .slice bna b.next.length bnc, .slice bba b.acc.length bbc] Try.underlying25 rfl sz25 rfl hC rfl rfl ⟨rfl, rfl⟩⟩) ?_
  refine WD.loud hok3 2 rfl (⟨_, [⟨4, .agg #[.slice bca b.cls.length bcc, .int .i64 b.width, .int .i64 b.start, .slice bna b.next.length bnc, .slice bba b.acc.length bbc], (fun w' => w'.heap[gb]? = some (.cells #[.slice bca b.cls.length bcc, .int .i64 b.width, .int .i64 b.start, .slice bna b.next.length bnc, .slice bba b.acc.length bbc] 25 (0, 0)))⟩, ⟨3, .agg #[.slice aca a.cls.length acc, .int .i64 a.width, .int .i64 a.start, .slice ana a.next.length anc, .slice aba a.acc.length abc], (fun w' => w'.heap[ga]? = some (.cells #[.slice aca a.cls.length acc, .int .i64 a.width, .int .i64 a.start, .slice ana a.next.length anc, .slice aba a.acc.length abc] 25 (0, 0)))⟩], rfl, rfl, rfl, rfl, rfl, rfl, d_call ok40 rfl (Ret.calls (same_any a aca ana aba acc anc abc b bca bna bba bcc bnc bbc w16 (rca.at H16) (rna.at H16) (rba.at H16) (rcb.at H16) (rnb.at H16) (rbb.at H16) ) fun _ w17 p3 => ?_)⟩)
  obtain ⟨rfl, u13⟩ := p3
  have H17 : UpG w [] w17 [[blk w.heap.size #[.int .i64 i, .int .i64 j] 54], [blk w1.heap.size #[.slice aca a.cls.length acc, .int .i64 a.width, .int .i64 a.start, .slice ana a.next.length anc, .slice aba a.acc.length abc, .slice bca b.cls.length bcc, .int .i64 b.width, .int .i64 b.start, .slice bna b.next.length bnc, .slice bba b.acc.length bbc] 58], [blk ga #[.slice aca a.cls.length acc, .int .i64 a.width, .int .i64 a.start, .slice ana a.next.length anc, .slice aba a.acc.length abc] 25], [blk gb #[.slice bca b.cls.length bcc, .int .i64 b.width, .int .i64 b.start, .slice bna b.next.length bnc, .slice bba b.acc.length bbc] 25], [rowT (tyI .i64) (.slice a2_1 ((wordD (text.extract 0 ((min ((text.size : Nat) : Int) 40).toNat)) i j).length) c2_1) 3 (wordD (text.extract 0 ((min ((text.size : Nat) : Int) 40).toNat)) i j)]] := H16.call u13
  refine ⟨⟨(H17.blk 3 rfl), (H17.blk 2 rfl), trivial⟩, ?_⟩
  refine WD.loud hok3 5 rfl (⟨_, [], rfl, rfl, rfl, rfl, rfl, rfl, d_call ok41 rfl (Ret.calls (same11_any a aca ana aba acc anc abc b bca bna bba bcc bnc bbc w17 (rca.at H17) (rna.at H17) (rba.at H17) (rcb.at H17) (rnb.at H17) (rbb.at H17) ) fun _ w18 p4 => ?_)⟩)
  obtain ⟨rfl, u14⟩ := p4
  have H18 : UpG w [] w18 [[blk w.heap.size #[.int .i64 i, .int .i64 j] 54], [blk w1.heap.size #[.slice aca a.cls.length acc, .int .i64 a.width, .int .i64 a.start, .slice ana a.next.length anc, .slice aba a.acc.length abc, .slice bca b.cls.length bcc, .int .i64 b.width, .int .i64 b.start, .slice bna b.next.length bnc, .slice bba b.acc.length bbc] 58], [blk ga #[.slice aca a.cls.length acc, .int .i64 a.width, .int .i64 a.start, .slice ana a.next.length anc, .slice aba a.acc.length abc] 25], [blk gb #[.slice bca b.cls.length bcc, .int .i64 b.width, .int .i64 b.start, .slice bna b.next.length bnc, .slice bba b.acc.length bbc] 25], [rowT (tyI .i64) (.slice a2_1 ((wordD (text.extract 0 ((min ((text.size : Nat) : Int) 40).toNat)) i j).length) c2_1) 3 (wordD (text.extract 0 ((min ((text.size : Nat) : Int) 40).toNat)) i j)]] := H17.call u14
  refine ⟨trivial, ?_⟩
  refine WD.take hok3 6 (.bool (decide ((sameD a b) ≠ (sameD a b)))) (fun _ => True) rfl rfl rfl rfl rfl trivial (.inl ⟨rfl, fun _ _ => d_boolne Try.underlying4 rfl rfl ⟨rfl, rfl⟩⟩) ?_
  refine WD.take hok3 7 (.bool (decide ((sameD a b) ≠ (sameD a b)))) (fun _ => True) rfl rfl rfl rfl rfl trivial (.inl ⟨rfl, fun _ _ => d_move rfl ⟨rfl, rfl⟩⟩) ?_
  refine WD.part 42 (p := (sameD a b) ≠ (sameD a b)) rfl (fun g80 => ?_) (fun g80 => ?_)
  · skip
    exact absurd rfl g80
  · skip
    refine WD.take hok3 8 (.agg #[.slice aca a.cls.length acc, .int .i64 a.width, .int .i64 a.start, .slice ana a.next.length anc, .slice aba a.acc.length abc]) (fun w' => w'.heap[ga]? = some (.cells #[.slice aca a.cls.length acc, .int .i64 a.width, .int .i64 a.start, .slice ana a.next.length anc, .slice aba a.acc.length abc] 25 (0, 0))) rfl rfl rfl rfl rfl (H18.blk 2 rfl) (.inl ⟨rfl, fun _ hC => d_loadAB [.slice aca a.cls.length acc, .int .i64 a.width, .int .i64 a.start, .slice ana a.next.length anc, .slice aba a.acc.length abc] Try.underlying25 rfl sz25 rfl hC rfl rfl ⟨rfl, rfl⟩⟩) ?_
    refine WD.take hok3 9 (.agg #[.slice aca a.cls.length acc, .int .i64 a.width, .int .i64 a.start, .slice ana a.next.length anc, .slice aba a.acc.length abc]) (fun w' => w'.heap[ga]? = some (.cells #[.slice aca a.cls.length acc, .int .i64 a.width, .int .i64 a.start, .slice ana a.next.length anc, .slice aba a.acc.length abc] 25 (0, 0))) rfl rfl rfl rfl rfl (H18.blk 2 rfl) (.inl ⟨rfl, fun _ hC => d_loadAB [.slice aca a.cls.length acc, .int .i64 a.width, .int .i64 a.start, .slice ana a.next.length anc, .slice aba a.acc.length abc] Try.underlying25 rfl sz25 rfl hC rfl rfl ⟨rfl, rfl⟩⟩) ?_
    refine WD.loud hok3 10 rfl (⟨_, [], rfl, rfl, rfl, rfl, rfl, rfl, d_call ok40 rfl (Ret.calls (same_any a aca ana aba acc anc abc a aca ana aba acc anc abc w18 (rca.at H18) (rna.at H18) (rba.at H18) (rca.at H18) (rna.at H18) (rba.at H18) ) fun _ w19 p5 => ?_)⟩)
    obtain ⟨rfl, u15⟩ := p5
    have H19 : UpG w [] w19 [[blk w.heap.size #[.int .i64 i, .int .i64 j] 54], [blk w1.heap.size #[.slice aca a.cls.length acc, .int .i64 a.width, .int .i64 a.start, .slice ana a.next.length anc, .slice aba a.acc.length abc, .slice bca b.cls.length bcc, .int .i64 b.width, .int .i64 b.start, .slice bna b.next.length bnc, .slice bba b.acc.length bbc] 58], [blk ga #[.slice aca a.cls.length acc, .int .i64 a.width, .int .i64 a.start, .slice ana a.next.length anc, .slice aba a.acc.length abc] 25], [blk gb #[.slice bca b.cls.length bcc, .int .i64 b.width, .int .i64 b.start, .slice bna b.next.length bnc, .slice bba b.acc.length bbc] 25], [rowT (tyI .i64) (.slice a2_1 ((wordD (text.extract 0 ((min ((text.size : Nat) : Int) 40).toNat)) i j).length) c2_1) 3 (wordD (text.extract 0 ((min ((text.size : Nat) : Int) 40).toNat)) i j)]] := H18.call u15
    refine ⟨trivial, ?_⟩
    refine WD.take hok3 11 (.bool (!(sameD a a))) (fun _ => True) rfl rfl rfl rfl rfl trivial (.inl ⟨rfl, fun _ _ => d_notB rfl ⟨rfl, rfl⟩⟩) ?_
    refine WD.take hok3 12 (.bool (!(sameD a a))) (fun _ => True) rfl rfl rfl rfl rfl trivial (.inl ⟨rfl, fun _ _ => d_pick rfl rfl ⟨rfl, rfl⟩⟩) ?_
    refine WD.done hok3 rfl (X.then_code ?_)
    refine W.pick [47, 12, 11, 8, 7, 0, 6] (Γ' := [(47, .bool (!(sameD a a))), (12, .bool (wordOk (text.extract 0 ((min ((text.size : Nat) : Int) 40).toNat)) i j)), (11, .slice a2_1 ((wordD (text.extract 0 ((min ((text.size : Nat) : Int) 40).toNat)) i j).length) c2_1), (8, .int .i64 j), (7, .int .i64 i), (0, .string (text.extract 0 ((min ((text.size : Nat) : Int) 40).toNat))), (6, .bool false)]) rfl ?_
    refine W.iteB (b := !(sameD a a)) rfl (fun c80 => ?_) (fun c80 => ?_)
    · skip
      exfalso; rw [sameD_self] at c80; simp at c80
    · skip
      refine W.skip (X.then_code ?_)
      refine W.seq ?_
      refine W.seq ?_
      refine W.region ?_
      refine WL.op rfl (d_move rfl ?_)
      refine WL.op rfl (d_cmp (decide (i < (0 : Int))) rfl rfl rfl ?_)
      refine WL.op rfl (d_move rfl ?_)
      refine WL.part 50 (p := i < (0 : Int)) rfl (fun g83 => ?_) (fun g83 => ?_)
      · skip
        refine WL.opN rfl rfl rfl rfl ?_
        refine WL.opN rfl rfl rfl rfl ?_
        refine WL.opN rfl rfl rfl rfl ?_
        refine WL.op rfl (d_pick rfl rfl ?_)
        refine WL.op rfl (d_move rfl ?_)
        refine WL.opN rfl rfl rfl rfl ?_
        refine WL.opN rfl rfl rfl rfl ?_
        refine WL.opN rfl rfl rfl rfl ?_
        refine WL.opN rfl rfl rfl rfl ?_
        refine WL.op rfl (d_pick rfl rfl ?_)
        refine WL.done (X.then_code ?_)
        refine W.pick [60, 12, 11, 8, 7, 0, 6] (Γ' := [(60, .bool true), (12, .bool (wordOk (text.extract 0 ((min ((text.size : Nat) : Int) 40).toNat)) i j)), (11, .slice a2_1 ((wordD (text.extract 0 ((min ((text.size : Nat) : Int) 40).toNat)) i j).length) c2_1), (8, .int .i64 j), (7, .int .i64 i), (0, .string (text.extract 0 ((min ((text.size : Nat) : Int) 40).toNat))), (6, .bool false)]) rfl ?_
        refine W.ift rfl ?_
        refine W.seq ?_
        have hno := wordD_no (s := text.extract 0 (min ((text.size : Nat) : Int) 40).toNat) (i := i) (j := j) (by omega)
        refine W.region ?_
        refine WL.op rfl (d_move rfl ?_)
        refine WL.op rfl (d_notB rfl ?_)
        refine WL.op rfl (d_move rfl ?_)
        refine WL.partB 63 (b := !(wordOk (text.extract 0 ((min ((text.size : Nat) : Int) 40).toNat)) i j)) rfl (fun g84 => ?_) (fun g84 => ?_)
        · skip
          refine WL.opG rfl rfl rfl (d_move rfl ?_)
          refine WL.opG rfl rfl rfl (d_lenS Try.underlying22 rfl ?_)
          refine WL.opG rfl rfl rfl (d_cmp (decide ((((wordD (text.extract 0 ((min ((text.size : Nat) : Int) 40).toNat)) i j).length : Nat) : Int) = (0 : Int))) rfl rfl rfl ?_)
          refine WL.op rfl (d_pick rfl rfl ?_)
          refine WL.op rfl (d_assign rfl ?_)
          refine WL.done (X.then_code ?_)
          refine W.ret (X.then_ret (X.ret1 rfl rfl ?_))
          exact ⟨(by rw [decide_eq_true (by rw [hno.1]; rfl)]), H19.noneL⟩
        · skip
          exact absurd (by rw [hno.2]; rfl) g84
      · skip
        refine WL.opG rfl rfl rfl (d_move rfl ?_)
        refine WL.opG rfl rfl rfl (d_move rfl ?_)
        refine WL.opG rfl rfl rfl (d_cmp (decide (j < i)) rfl rfl rfl ?_)
        refine WL.op rfl (d_pick rfl rfl ?_)
        refine WL.op rfl (d_move rfl ?_)
        refine WL.part 55 (p := j < i) rfl (fun g83x => ?_) (fun g83x => ?_)
        · skip
          refine WL.opN rfl rfl rfl rfl ?_
          refine WL.opN rfl rfl rfl rfl ?_
          refine WL.opN rfl rfl rfl rfl ?_
          refine WL.opN rfl rfl rfl rfl ?_
          refine WL.op rfl (d_pick rfl rfl ?_)
          refine WL.done (X.then_code ?_)
          refine W.pick [60, 12, 11, 8, 7, 0, 6] (Γ' := [(60, .bool true), (12, .bool (wordOk (text.extract 0 ((min ((text.size : Nat) : Int) 40).toNat)) i j)), (11, .slice a2_1 ((wordD (text.extract 0 ((min ((text.size : Nat) : Int) 40).toNat)) i j).length) c2_1), (8, .int .i64 j), (7, .int .i64 i), (0, .string (text.extract 0 ((min ((text.size : Nat) : Int) 40).toNat))), (6, .bool false)]) rfl ?_
          refine W.ift rfl ?_
          refine W.seq ?_
          have hno := wordD_no (s := text.extract 0 (min ((text.size : Nat) : Int) 40).toNat) (i := i) (j := j) (by omega)
          refine W.region ?_
          refine WL.op rfl (d_move rfl ?_)
          refine WL.op rfl (d_notB rfl ?_)
          refine WL.op rfl (d_move rfl ?_)
          refine WL.partB 63 (b := !(wordOk (text.extract 0 ((min ((text.size : Nat) : Int) 40).toNat)) i j)) rfl (fun g84 => ?_) (fun g84 => ?_)
          · skip
            refine WL.opG rfl rfl rfl (d_move rfl ?_)
            refine WL.opG rfl rfl rfl (d_lenS Try.underlying22 rfl ?_)
            refine WL.opG rfl rfl rfl (d_cmp (decide ((((wordD (text.extract 0 ((min ((text.size : Nat) : Int) 40).toNat)) i j).length : Nat) : Int) = (0 : Int))) rfl rfl rfl ?_)
            refine WL.op rfl (d_pick rfl rfl ?_)
            refine WL.op rfl (d_assign rfl ?_)
            refine WL.done (X.then_code ?_)
            refine W.ret (X.then_ret (X.ret1 rfl rfl ?_))
            exact ⟨(by rw [decide_eq_true (by rw [hno.1]; rfl)]), H19.noneL⟩
          · skip
            exact absurd (by rw [hno.2]; rfl) g84
        · skip
          refine WL.opG rfl rfl rfl (d_move rfl ?_)
          refine WL.opG rfl rfl rfl (d_move rfl ?_)
          refine WL.opG rfl rfl rfl (d_lenStr Try.underlying9 rfl ?_)
          refine WL.opG rfl rfl rfl (d_cmp (decide (j > (((text.extract 0 ((min ((text.size : Nat) : Int) 40).toNat)).size : Nat) : Int))) rfl rfl rfl ?_)
          refine WL.op rfl (d_pick rfl rfl ?_)
          refine WL.done (X.then_code ?_)
          refine W.pick [60, 12, 11, 8, 7, 0, 6] (Γ' := [(60, .bool (decide (j > (((text.extract 0 ((min ((text.size : Nat) : Int) 40).toNat)).size : Nat) : Int)))), (12, .bool (wordOk (text.extract 0 ((min ((text.size : Nat) : Int) 40).toNat)) i j)), (11, .slice a2_1 ((wordD (text.extract 0 ((min ((text.size : Nat) : Int) 40).toNat)) i j).length) c2_1), (8, .int .i64 j), (7, .int .i64 i), (0, .string (text.extract 0 ((min ((text.size : Nat) : Int) 40).toNat))), (6, .bool false)]) rfl ?_
          refine W.ite (p := j > (((text.extract 0 ((min ((text.size : Nat) : Int) 40).toNat)).size : Nat) : Int)) rfl (fun c83 => ?_) (fun c83 => ?_)
          · skip
            refine W.seq ?_
            have hno := wordD_no (s := text.extract 0 (min ((text.size : Nat) : Int) 40).toNat) (i := i) (j := j) (by omega)
            refine W.region ?_
            refine WL.op rfl (d_move rfl ?_)
            refine WL.op rfl (d_notB rfl ?_)
            refine WL.op rfl (d_move rfl ?_)
            refine WL.partB 63 (b := !(wordOk (text.extract 0 ((min ((text.size : Nat) : Int) 40).toNat)) i j)) rfl (fun g84 => ?_) (fun g84 => ?_)
            · skip
              refine WL.opG rfl rfl rfl (d_move rfl ?_)
              refine WL.opG rfl rfl rfl (d_lenS Try.underlying22 rfl ?_)
              refine WL.opG rfl rfl rfl (d_cmp (decide ((((wordD (text.extract 0 ((min ((text.size : Nat) : Int) 40).toNat)) i j).length : Nat) : Int) = (0 : Int))) rfl rfl rfl ?_)
              refine WL.op rfl (d_pick rfl rfl ?_)
              refine WL.op rfl (d_assign rfl ?_)
              refine WL.done (X.then_code ?_)
              refine W.ret (X.then_ret (X.ret1 rfl rfl ?_))
              exact ⟨(by rw [decide_eq_true (by rw [hno.1]; rfl)]), H19.noneL⟩
            · skip
              exact absurd (by rw [hno.2]; rfl) g84
          · skip
            refine W.skip (X.then_code ?_)
            refine W.seq ?_
            have hyes := wordD_yes (s := text.extract 0 (min ((text.size : Nat) : Int) 40).toNat) (i := i) (j := j) (by omega)
            refine W.region ?_
            refine WL.op rfl (d_move rfl ?_)
            refine WL.op rfl (d_move rfl ?_)
            refine WL.partB 69 (b := wordOk (text.extract 0 ((min ((text.size : Nat) : Int) 40).toNat)) i j) rfl (fun g86 => ?_) (fun g86 => ?_)
            · skip
              refine WL.opG rfl rfl rfl (d_move rfl ?_)
              refine WL.opG rfl rfl rfl (d_move rfl ?_)
              refine WL.opG rfl rfl rfl (d_move rfl ?_)
              refine WL.opG rfl rfl rfl (d_move rfl ?_)
              refine WL.opG rfl rfl rfl (d_call ok42 rfl (Ret.calls (word11_any (text.extract 0 ((min ((text.size : Nat) : Int) 40).toNat)) i j w19  (by simp; omega) (by omega)) fun _ w20 p6 => ?_))
              obtain ⟨a2_2, c2_2, rfl, u16⟩ := p6
              have H20 : UpG w [] w20 [[blk w.heap.size #[.int .i64 i, .int .i64 j] 54], [blk w1.heap.size #[.slice aca a.cls.length acc, .int .i64 a.width, .int .i64 a.start, .slice ana a.next.length anc, .slice aba a.acc.length abc, .slice bca b.cls.length bcc, .int .i64 b.width, .int .i64 b.start, .slice bna b.next.length bnc, .slice bba b.acc.length bbc] 58], [blk ga #[.slice aca a.cls.length acc, .int .i64 a.width, .int .i64 a.start, .slice ana a.next.length anc, .slice aba a.acc.length abc] 25], [blk gb #[.slice bca b.cls.length bcc, .int .i64 b.width, .int .i64 b.start, .slice bna b.next.length bnc, .slice bba b.acc.length bbc] 25], [rowT (tyI .i64) (.slice a2_1 ((wordD (text.extract 0 ((min ((text.size : Nat) : Int) 40).toNat)) i j).length) c2_1) 3 (wordD (text.extract 0 ((min ((text.size : Nat) : Int) 40).toNat)) i j)], [rowT (tyI .i64) (.slice a2_2 ((wordD (text.extract 0 ((min ((text.size : Nat) : Int) 40).toNat)) i j).length) c2_2) 3 (wordD (text.extract 0 ((min ((text.size : Nat) : Int) 40).toNat)) i j)]] := (H19.new' u16).re rfl
              refine WL.opG rfl rfl rfl (d_call ok32 rfl (Ret.calls (same10_any a2_1 (wordD (text.extract 0 ((min ((text.size : Nat) : Int) 40).toNat)) i j) c2_1 a2_2 (wordD (text.extract 0 ((min ((text.size : Nat) : Int) 40).toNat)) i j) c2_2 w20 (H20.rdT 4 rfl) (H20.rdT 5 rfl) ) fun _ w21 p7 => ?_))
              obtain ⟨rfl, u17⟩ := p7
              have H21 : UpG w [] w21 [[blk w.heap.size #[.int .i64 i, .int .i64 j] 54], [blk w1.heap.size #[.slice aca a.cls.length acc, .int .i64 a.width, .int .i64 a.start, .slice ana a.next.length anc, .slice aba a.acc.length abc, .slice bca b.cls.length bcc, .int .i64 b.width, .int .i64 b.start, .slice bna b.next.length bnc, .slice bba b.acc.length bbc] 58], [blk ga #[.slice aca a.cls.length acc, .int .i64 a.width, .int .i64 a.start, .slice ana a.next.length anc, .slice aba a.acc.length abc] 25], [blk gb #[.slice bca b.cls.length bcc, .int .i64 b.width, .int .i64 b.start, .slice bna b.next.length bnc, .slice bba b.acc.length bbc] 25], [rowT (tyI .i64) (.slice a2_1 ((wordD (text.extract 0 ((min ((text.size : Nat) : Int) 40).toNat)) i j).length) c2_1) 3 (wordD (text.extract 0 ((min ((text.size : Nat) : Int) 40).toNat)) i j)], [rowT (tyI .i64) (.slice a2_2 ((wordD (text.extract 0 ((min ((text.size : Nat) : Int) 40).toNat)) i j).length) c2_2) 3 (wordD (text.extract 0 ((min ((text.size : Nat) : Int) 40).toNat)) i j)]] := H20.call u17
              refine WL.op rfl (d_pick rfl rfl ?_)
              refine WL.op rfl (d_assign rfl ?_)
              refine WL.done (X.then_code ?_)
              refine W.ret (X.ret1 rfl rfl ?_)
              exact ⟨(by rw [decide_eq_true rfl]), H21.noneL⟩
            · skip
              exact absurd hyes g86
end Go.Proofs.Ytoeockpkkmgieaa
