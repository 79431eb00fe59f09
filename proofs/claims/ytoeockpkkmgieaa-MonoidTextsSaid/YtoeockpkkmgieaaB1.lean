/- The walks of functions, printed by wip/tools/gw.py. -/
import Derived.Test.YtoeockpkkmgieaaF2
import Derived.Test.YtoeockpkkmgieaaSx7
import Derived.Test.YtoeockpkkmgieaaSx15
namespace Go.Proofs.Ytoeockpkkmgieaa
open Go Go.Sx
set_option linter.unusedVariables false
set_option linter.unusedSimpArgs false
set_option maxRecDepth 20000 in
theorem equalI_any (xsa : Option Addr) (xs : List Int) (xsc : Nat) (xsn : Nat) (ysa : Option Addr) (ys : List Int) (ysc : Nat) (ysn : Nat) (w : World) (rxs : RdT (tyI .i64) w (.slice xsa xsn xsc) xs) (rys : RdT (tyI .i64) w (.slice ysa ysn ysc) ys) :
    Calls Try.prog 72 #[.slice xsa xsn xsc, .slice ysa ysn ysc] w (Ret fun v w' => v = .bool (decide (xs = ys)) ∧ Upd w [] w' []) := by
  obtain rfl : xsn = xs.length := rxs.len
  obtain rfl : ysn = ys.length := rys.len
  have le_rxs := rxs.le
  have le_rys := rys.le
  refine calls_of_W (args := [.slice xsa xs.length xsc, .slice ysa ys.length ysc]) Try.func72 rfl rfl rfl ?_
  have H0 : UpG w [] w [] := UpG.nil w
  show W _ _ _ _ [(0, .slice xsa xs.length xsc), (1, .slice ysa ys.length ysc)] w
  refine W.seq ?_
  refine W.region ?_
  refine WL.op rfl (d_assign rfl ?_)
  refine WL.done (X.then_code ?_)
  refine W.seq ?_
  refine W.seq ?_
  refine W.region ?_
  refine WL.op rfl (d_move rfl ?_)
  refine WL.op rfl (d_lenS Try.underlying22 rfl ?_)
  refine WL.op rfl (d_move rfl ?_)
  refine WL.op rfl (d_lenS Try.underlying22 rfl ?_)
  refine WL.op rfl (d_cmp (decide (((xs.length : Nat) : Int) ≠ ((ys.length : Nat) : Int))) rfl rfl rfl ?_)
  refine WL.done (X.then_code ?_)
  refine W.ite (p := ((xs.length : Nat) : Int) ≠ ((ys.length : Nat) : Int)) rfl (fun c21 => ?_) (fun c21 => ?_)
  · skip
    refine W.seq ?_
    refine W.region ?_
    refine WL.op rfl (d_assign rfl ?_)
    refine WL.done (X.then_code ?_)
    refine W.ret (X.then_ret (X.ret1 rfl rfl ?_))
    exact ⟨(by rw [decide_eq_false (by rintro rfl; omega)]), H0.noneL⟩
  · skip
    refine W.skip (X.then_code ?_)
    refine W.seq ?_
    refine W.seq ?_
    refine W.region ?_
    refine WL.op rfl (d_move rfl ?_)
    refine WL.op rfl (d_lenS Try.underlying22 rfl ?_)
    refine WL.op rfl (d_move rfl ?_)
    refine WL.done (X.then_code ?_)
    refine W.block ?_
    refine W.pick [13, 12, 4, 0, 1] (Γ' := [(13, .int .i64 0), (12, .int .i64 ((xs.length : Nat) : Int)), (4, .bool false), (0, .slice xsa xs.length xsc), (1, .slice ysa ys.length ysc)]) rfl ?_
    refine W.loop (fun m Γ' w' => ∃ k : Nat, Γ' = [(13, .int .i64 ((k : Nat) : Int)), (12, .int .i64 ((xs.length : Nat) : Int)), (4, .bool false), (0, .slice xsa xs.length xsc), (1, .slice ysa ys.length ysc)] ∧ UpG w [] w' [] ∧ (k ≤ xs.length) ∧ (∀ i, i < k → xs.getD i 0 = ys.getD i 0) ∧ m = xs.length - k) (xs.length - 0) ⟨0, rfl, H0, (by first | assumption | omega | simp), (by intro i hi; omega), rfl⟩ ?_
    rintro m1 Γ1 w1 ⟨k, rfl, H1, hk, he, rfl⟩
    refine W.seq ?_
    refine W.region ?_
    refine WL.op rfl (d_cmp (decide (((k : Nat) : Int) < ((xs.length : Nat) : Int))) rfl rfl rfl ?_)
    refine WL.done (X.then_code ?_)
    refine W.seq ?_
    refine W.ite (p := ((k : Nat) : Int) < ((xs.length : Nat) : Int)) rfl (fun c24 => ?_) (fun c24 => ?_)
    · skip
      refine W.skip (X.then_code ?_)
      refine W.seq ?_
      refine W.block ?_
      refine W.seq ?_
      refine W.region ?_
      refine WL.op rfl (d_move rfl ?_)
      refine WL.op rfl (d_assign rfl ?_)
      refine WL.done (X.then_code ?_)
      refine W.seq ?_
      refine W.regionD mixed (by kernel_rfl) fun hok1 w2 k1 => ?_
      have H2 : UpG w [] w2 [] := H1.kept k1
      refine WD.take hok1 0 (.slice xsa xs.length xsc) (fun _ => True) rfl rfl rfl rfl rfl trivial (.inl ⟨rfl, fun _ _ => d_move rfl ⟨rfl, rfl⟩⟩) ?_
      refine WD.take hok1 1 (.int .i64 ((k : Nat) : Int)) (fun _ => True) rfl rfl rfl rfl rfl trivial (.inl ⟨rfl, fun _ _ => d_move rfl ⟨rfl, rfl⟩⟩) ?_
      refine WD.take hok1 2 (elemPtr (.slice xsa xs.length xsc) k) (fun w' => RdT (tyI .i64) w' (.slice xsa xs.length xsc) xs) rfl rfl rfl rfl rfl (rxs.at H2) (.inl ⟨rfl, fun _ hC => t_addr1 k (T := (tyI .i64)) rfl Try.underlying22 sz3 rfl rfl hC rfl (by omega) ⟨rfl, rfl⟩⟩) ?_
      refine WD.take hok1 3 (.int .i64 (xs.getD k 0)) (fun w' => RdT (tyI .i64) w' (.slice xsa xs.length xsc) xs) rfl rfl rfl rfl rfl (rxs.at H2) (.inl ⟨rfl, fun _ hC => t_load1 k 0 (T := (tyI .i64)) rfl Try.underlying3 rfl rfl hC (by omega) rfl ⟨rfl, rfl⟩⟩) ?_
      refine WD.take hok1 4 (.slice ysa ys.length ysc) (fun _ => True) rfl rfl rfl rfl rfl trivial (.inl ⟨rfl, fun _ _ => d_move rfl ⟨rfl, rfl⟩⟩) ?_
      refine WD.take hok1 5 (.int .i64 ((k : Nat) : Int)) (fun _ => True) rfl rfl rfl rfl rfl trivial (.inl ⟨rfl, fun _ _ => d_move rfl ⟨rfl, rfl⟩⟩) ?_
      refine WD.take hok1 6 (elemPtr (.slice ysa ys.length ysc) k) (fun w' => RdT (tyI .i64) w' (.slice ysa ys.length ysc) ys) rfl rfl rfl rfl rfl (rys.at H2) (.inl ⟨rfl, fun _ hC => t_addr1 k (T := (tyI .i64)) rfl Try.underlying22 sz3 rfl rfl hC rfl (by omega) ⟨rfl, rfl⟩⟩) ?_
      refine WD.take hok1 7 (.int .i64 (ys.getD k 0)) (fun w' => RdT (tyI .i64) w' (.slice ysa ys.length ysc) ys) rfl rfl rfl rfl rfl (rys.at H2) (.inl ⟨rfl, fun _ hC => t_load1 k 0 (T := (tyI .i64)) rfl Try.underlying3 rfl rfl hC (by omega) rfl ⟨rfl, rfl⟩⟩) ?_
      refine WD.take hok1 8 (.bool (decide ((xs.getD k 0) ≠ (ys.getD k 0)))) (fun _ => True) rfl rfl rfl rfl rfl trivial (.inl ⟨rfl, fun _ _ => d_cmp (decide ((xs.getD k 0) ≠ (ys.getD k 0))) rfl rfl rfl ⟨rfl, rfl⟩⟩) ?_
      refine WD.done hok1 rfl (X.then_code ?_)
      refine W.ite (p := (xs.getD k 0) ≠ (ys.getD k 0)) rfl (fun c25 => ?_) (fun c25 => ?_)
      · skip
        refine W.seq ?_
        refine W.region ?_
        refine WL.op rfl (d_assign rfl ?_)
        refine WL.done (X.then_code ?_)
        refine W.ret (X.block_ret (X.then_ret (X.then_ret (X.block_ret (X.then_ret (X.ret1 rfl rfl ?_))))))
        exact ⟨(by rw [decide_eq_false (by rintro rfl; exact c25 rfl)]), H2.noneL⟩
      · skip
        refine W.skip (X.block_normal (X.then_code ?_))
        refine W.region ?_
        refine WL.op rfl (d_add rfl rfl (by omega) (by omega) ?_)
        refine WL.op rfl (d_move rfl ?_)
        refine WL.done ?_
        exact X.next [13, 12, 4, 0, 1] (Γ' := [(13, .int .i64 (((k + 1) : Nat) : Int)), (12, .int .i64 ((xs.length : Nat) : Int)), (4, .bool false), (0, .slice xsa xs.length xsc), (1, .slice ysa ys.length ysc)]) rfl (xs.length - (k + 1)) (by omega) ⟨k + 1, rfl, H2, (by first | assumption | omega | simp), (by exact all_step he (by first | omega | (rcases h1 : xs.getD k 0 with _ | _ <;> rcases h2 : ys.getD k 0 with _ | _ <;> simp_all))), rfl⟩
    · skip
      refine W.exit (X.then_exit (X.then_exit (X.block_exit (X.then_code ?_))))
      refine W.seq ?_
      refine W.region ?_
      refine WL.op rfl (d_assign rfl ?_)
      refine WL.done (X.then_code ?_)
      refine W.ret (X.ret1 rfl rfl ?_)
      exact ⟨(by rw [decide_eq_true (list_eq_of (d := 0) (by omega) (fun i hi => he i (by omega)))]), H1.noneL⟩

set_option maxRecDepth 20000 in
theorem equalB_any (xsa : Option Addr) (xs : List Bool) (xsc : Nat) (xsn : Nat) (ysa : Option Addr) (ys : List Bool) (ysc : Nat) (ysn : Nat) (w : World) (rxs : RdT tyB w (.slice xsa xsn xsc) xs) (rys : RdT tyB w (.slice ysa ysn ysc) ys) :
    Calls Try.prog 75 #[.slice xsa xsn xsc, .slice ysa ysn ysc] w (Ret fun v w' => v = .bool (decide (xs = ys)) ∧ Upd w [] w' []) := by
  obtain rfl : xsn = xs.length := rxs.len
  obtain rfl : ysn = ys.length := rys.len
  have le_rxs := rxs.le
  have le_rys := rys.le
  refine calls_of_W (args := [.slice xsa xs.length xsc, .slice ysa ys.length ysc]) Try.func75 rfl rfl rfl ?_
  have H0 : UpG w [] w [] := UpG.nil w
  show W _ _ _ _ [(0, .slice xsa xs.length xsc), (1, .slice ysa ys.length ysc)] w
  refine W.seq ?_
  refine W.region ?_
  refine WL.op rfl (d_assign rfl ?_)
  refine WL.done (X.then_code ?_)
  refine W.seq ?_
  refine W.seq ?_
  refine W.region ?_
  refine WL.op rfl (d_move rfl ?_)
  refine WL.op rfl (d_lenS Try.underlying23 rfl ?_)
  refine WL.op rfl (d_move rfl ?_)
  refine WL.op rfl (d_lenS Try.underlying23 rfl ?_)
  refine WL.op rfl (d_cmp (decide (((xs.length : Nat) : Int) ≠ ((ys.length : Nat) : Int))) rfl rfl rfl ?_)
  refine WL.done (X.then_code ?_)
  refine W.ite (p := ((xs.length : Nat) : Int) ≠ ((ys.length : Nat) : Int)) rfl (fun c21 => ?_) (fun c21 => ?_)
  · skip
    refine W.seq ?_
    refine W.region ?_
    refine WL.op rfl (d_assign rfl ?_)
    refine WL.done (X.then_code ?_)
    refine W.ret (X.then_ret (X.ret1 rfl rfl ?_))
    exact ⟨(by rw [decide_eq_false (by rintro rfl; omega)]), H0.noneL⟩
  · skip
    refine W.skip (X.then_code ?_)
    refine W.seq ?_
    refine W.seq ?_
    refine W.region ?_
    refine WL.op rfl (d_move rfl ?_)
    refine WL.op rfl (d_lenS Try.underlying23 rfl ?_)
    refine WL.op rfl (d_move rfl ?_)
    refine WL.done (X.then_code ?_)
    refine W.block ?_
    refine W.pick [13, 12, 4, 0, 1] (Γ' := [(13, .int .i64 0), (12, .int .i64 ((xs.length : Nat) : Int)), (4, .bool false), (0, .slice xsa xs.length xsc), (1, .slice ysa ys.length ysc)]) rfl ?_
    refine W.loop (fun m Γ' w' => ∃ k : Nat, Γ' = [(13, .int .i64 ((k : Nat) : Int)), (12, .int .i64 ((xs.length : Nat) : Int)), (4, .bool false), (0, .slice xsa xs.length xsc), (1, .slice ysa ys.length ysc)] ∧ UpG w [] w' [] ∧ (k ≤ xs.length) ∧ (∀ i, i < k → xs.getD i false = ys.getD i false) ∧ m = xs.length - k) (xs.length - 0) ⟨0, rfl, H0, (by first | assumption | omega | simp), (by intro i hi; omega), rfl⟩ ?_
    rintro m1 Γ1 w1 ⟨k, rfl, H1, hk, he, rfl⟩
    refine W.seq ?_
    refine W.region ?_
    refine WL.op rfl (d_cmp (decide (((k : Nat) : Int) < ((xs.length : Nat) : Int))) rfl rfl rfl ?_)
    refine WL.done (X.then_code ?_)
    refine W.seq ?_
    refine W.ite (p := ((k : Nat) : Int) < ((xs.length : Nat) : Int)) rfl (fun c24 => ?_) (fun c24 => ?_)
    · skip
      refine W.skip (X.then_code ?_)
      refine W.seq ?_
      refine W.block ?_
      refine W.seq ?_
      refine W.region ?_
      refine WL.op rfl (d_move rfl ?_)
      refine WL.op rfl (d_assign rfl ?_)
      refine WL.done (X.then_code ?_)
      refine W.seq ?_
      refine W.regionD mixed (by kernel_rfl) fun hok1 w2 k1 => ?_
      have H2 : UpG w [] w2 [] := H1.kept k1
      refine WD.take hok1 0 (.slice xsa xs.length xsc) (fun _ => True) rfl rfl rfl rfl rfl trivial (.inl ⟨rfl, fun _ _ => d_move rfl ⟨rfl, rfl⟩⟩) ?_
      refine WD.take hok1 1 (.int .i64 ((k : Nat) : Int)) (fun _ => True) rfl rfl rfl rfl rfl trivial (.inl ⟨rfl, fun _ _ => d_move rfl ⟨rfl, rfl⟩⟩) ?_
      refine WD.take hok1 2 (elemPtr (.slice xsa xs.length xsc) k) (fun w' => RdT tyB w' (.slice xsa xs.length xsc) xs) rfl rfl rfl rfl rfl (rxs.at H2) (.inl ⟨rfl, fun _ hC => t_addr1 k (T := tyB) rfl Try.underlying23 sz4 rfl rfl hC rfl (by omega) ⟨rfl, rfl⟩⟩) ?_
      refine WD.take hok1 3 (.bool (xs.getD k false)) (fun w' => RdT tyB w' (.slice xsa xs.length xsc) xs) rfl rfl rfl rfl rfl (rxs.at H2) (.inl ⟨rfl, fun _ hC => t_load1 k false (T := tyB) rfl Try.underlying4 rfl rfl hC (by omega) rfl ⟨rfl, rfl⟩⟩) ?_
      refine WD.take hok1 4 (.slice ysa ys.length ysc) (fun _ => True) rfl rfl rfl rfl rfl trivial (.inl ⟨rfl, fun _ _ => d_move rfl ⟨rfl, rfl⟩⟩) ?_
      refine WD.take hok1 5 (.int .i64 ((k : Nat) : Int)) (fun _ => True) rfl rfl rfl rfl rfl trivial (.inl ⟨rfl, fun _ _ => d_move rfl ⟨rfl, rfl⟩⟩) ?_
      refine WD.take hok1 6 (elemPtr (.slice ysa ys.length ysc) k) (fun w' => RdT tyB w' (.slice ysa ys.length ysc) ys) rfl rfl rfl rfl rfl (rys.at H2) (.inl ⟨rfl, fun _ hC => t_addr1 k (T := tyB) rfl Try.underlying23 sz4 rfl rfl hC rfl (by omega) ⟨rfl, rfl⟩⟩) ?_
      refine WD.take hok1 7 (.bool (ys.getD k false)) (fun w' => RdT tyB w' (.slice ysa ys.length ysc) ys) rfl rfl rfl rfl rfl (rys.at H2) (.inl ⟨rfl, fun _ hC => t_load1 k false (T := tyB) rfl Try.underlying4 rfl rfl hC (by omega) rfl ⟨rfl, rfl⟩⟩) ?_
      refine WD.take hok1 8 (.bool (decide ((xs.getD k false) ≠ (ys.getD k false)))) (fun _ => True) rfl rfl rfl rfl rfl trivial (.inl ⟨rfl, fun _ _ => d_boolne Try.underlying4 rfl rfl ⟨rfl, rfl⟩⟩) ?_
      refine WD.done hok1 rfl (X.then_code ?_)
      refine W.ite (p := (xs.getD k false) ≠ (ys.getD k false)) rfl (fun c25 => ?_) (fun c25 => ?_)
      · skip
        refine W.seq ?_
        refine W.region ?_
        refine WL.op rfl (d_assign rfl ?_)
        refine WL.done (X.then_code ?_)
        refine W.ret (X.block_ret (X.then_ret (X.then_ret (X.block_ret (X.then_ret (X.ret1 rfl rfl ?_))))))
        exact ⟨(by rw [decide_eq_false (by rintro rfl; exact c25 rfl)]), H2.noneL⟩
      · skip
        refine W.skip (X.block_normal (X.then_code ?_))
        refine W.region ?_
        refine WL.op rfl (d_add rfl rfl (by omega) (by omega) ?_)
        refine WL.op rfl (d_move rfl ?_)
        refine WL.done ?_
        exact X.next [13, 12, 4, 0, 1] (Γ' := [(13, .int .i64 (((k + 1) : Nat) : Int)), (12, .int .i64 ((xs.length : Nat) : Int)), (4, .bool false), (0, .slice xsa xs.length xsc), (1, .slice ysa ys.length ysc)]) rfl (xs.length - (k + 1)) (by omega) ⟨k + 1, rfl, H2, (by first | assumption | omega | simp), (by exact all_step he (by first | omega | (rcases h1 : xs.getD k false with _ | _ <;> rcases h2 : ys.getD k false with _ | _ <;> simp_all))), rfl⟩
    · skip
      refine W.exit (X.then_exit (X.then_exit (X.block_exit (X.then_code ?_))))
      refine W.seq ?_
      refine W.region ?_
      refine WL.op rfl (d_assign rfl ?_)
      refine WL.done (X.then_code ?_)
      refine W.ret (X.ret1 rfl rfl ?_)
      exact ⟨(by rw [decide_eq_true (list_eq_of (d := false) (by omega) (fun i hi => he i (by omega)))]), H1.noneL⟩

set_option maxRecDepth 20000 in
theorem same10_any (xsa : Option Addr) (xs : List Int) (xsc : Nat) (xsn : Nat) (ysa : Option Addr) (ys : List Int) (ysc : Nat) (ysn : Nat) (w : World) (rxs : RdT (tyI .i64) w (.slice xsa xsn xsc) xs) (rys : RdT (tyI .i64) w (.slice ysa ysn ysc) ys) :
    Calls Try.prog 32 #[.slice xsa xsn xsc, .slice ysa ysn ysc] w (Ret fun v w' => v = .bool (decide (xs = ys)) ∧ Upd w [] w' []) := by
  obtain rfl : xsn = xs.length := rxs.len
  obtain rfl : ysn = ys.length := rys.len
  have le_rxs := rxs.le
  have le_rys := rys.le
  refine calls_of_W (args := [.slice xsa xs.length xsc, .slice ysa ys.length ysc]) Try.func32 rfl rfl rfl ?_
  have H0 : UpG w [] w [] := UpG.nil w
  show W _ _ _ _ [(0, .slice xsa xs.length xsc), (1, .slice ysa ys.length ysc)] w
  refine W.seq ?_
  refine W.region ?_
  refine WL.op rfl (d_assign rfl ?_)
  refine WL.done (X.then_code ?_)
  refine W.seq ?_
  refine W.seq ?_
  refine W.region ?_
  refine WL.op rfl (d_move rfl ?_)
  refine WL.op rfl (d_lenS Try.underlying22 rfl ?_)
  refine WL.op rfl (d_move rfl ?_)
  refine WL.op rfl (d_lenS Try.underlying22 rfl ?_)
  refine WL.op rfl (d_cmp (decide (((xs.length : Nat) : Int) ≠ ((ys.length : Nat) : Int))) rfl rfl rfl ?_)
  refine WL.done (X.then_code ?_)
  refine W.ite (p := ((xs.length : Nat) : Int) ≠ ((ys.length : Nat) : Int)) rfl (fun c92 => ?_) (fun c92 => ?_)
  · skip
    refine W.seq ?_
    refine W.region ?_
    refine WL.op rfl (d_assign rfl ?_)
    refine WL.done (X.then_code ?_)
    refine W.ret (X.then_ret (X.ret1 rfl rfl ?_))
    exact ⟨(by rw [decide_eq_false (by rintro rfl; omega)]), H0.noneL⟩
  · skip
    refine W.skip (X.then_code ?_)
    refine W.seq ?_
    refine W.seq ?_
    refine W.region ?_
    refine WL.op rfl (d_assign rfl ?_)
    refine WL.done (X.then_code ?_)
    refine W.block ?_
    refine W.pick [5, 4, 0, 1] (Γ' := [(5, .int .i64 0), (4, .bool false), (0, .slice xsa xs.length xsc), (1, .slice ysa ys.length ysc)]) rfl ?_
    refine W.loop (fun m Γ' w' => ∃ k : Nat, Γ' = [(5, .int .i64 ((k : Nat) : Int)), (4, .bool false), (0, .slice xsa xs.length xsc), (1, .slice ysa ys.length ysc)] ∧ UpG w [] w' [] ∧ (k ≤ xs.length) ∧ (∀ i, i < k → xs.getD i 0 = ys.getD i 0) ∧ m = xs.length - k) (xs.length - 0) ⟨0, rfl, H0, (by first | assumption | omega | simp), (by intro i hi; omega), rfl⟩ ?_
    rintro m1 Γ1 w1 ⟨k, rfl, H1, hk, he, rfl⟩
    refine W.seq ?_
    refine W.seq ?_
    refine W.region ?_
    refine WL.op rfl (d_move rfl ?_)
    refine WL.op rfl (d_move rfl ?_)
    refine WL.op rfl (d_lenS Try.underlying22 rfl ?_)
    refine WL.op rfl (d_cmp (decide (((k : Nat) : Int) < ((xs.length : Nat) : Int))) rfl rfl rfl ?_)
    refine WL.done (X.then_code ?_)
    refine W.ite (p := ((k : Nat) : Int) < ((xs.length : Nat) : Int)) rfl (fun c95 => ?_) (fun c95 => ?_)
    · skip
      refine W.skip (X.then_code ?_)
      refine W.seq ?_
      refine W.block ?_
      refine W.seq ?_
      refine W.regionD mixed (by kernel_rfl) fun hok1 w2 k1 => ?_
      have H2 : UpG w [] w2 [] := H1.kept k1
      refine WD.take hok1 0 (.slice xsa xs.length xsc) (fun _ => True) rfl rfl rfl rfl rfl trivial (.inl ⟨rfl, fun _ _ => d_move rfl ⟨rfl, rfl⟩⟩) ?_
      refine WD.take hok1 1 (.int .i64 ((k : Nat) : Int)) (fun _ => True) rfl rfl rfl rfl rfl trivial (.inl ⟨rfl, fun _ _ => d_move rfl ⟨rfl, rfl⟩⟩) ?_
      refine WD.take hok1 2 (elemPtr (.slice xsa xs.length xsc) k) (fun w' => RdT (tyI .i64) w' (.slice xsa xs.length xsc) xs) rfl rfl rfl rfl rfl (rxs.at H2) (.inl ⟨rfl, fun _ hC => t_addr1 k (T := (tyI .i64)) rfl Try.underlying22 sz3 rfl rfl hC rfl (by omega) ⟨rfl, rfl⟩⟩) ?_
      refine WD.take hok1 3 (.int .i64 (xs.getD k 0)) (fun w' => RdT (tyI .i64) w' (.slice xsa xs.length xsc) xs) rfl rfl rfl rfl rfl (rxs.at H2) (.inl ⟨rfl, fun _ hC => t_load1 k 0 (T := (tyI .i64)) rfl Try.underlying3 rfl rfl hC (by omega) rfl ⟨rfl, rfl⟩⟩) ?_
      refine WD.take hok1 4 (.slice ysa ys.length ysc) (fun _ => True) rfl rfl rfl rfl rfl trivial (.inl ⟨rfl, fun _ _ => d_move rfl ⟨rfl, rfl⟩⟩) ?_
      refine WD.take hok1 5 (.int .i64 ((k : Nat) : Int)) (fun _ => True) rfl rfl rfl rfl rfl trivial (.inl ⟨rfl, fun _ _ => d_move rfl ⟨rfl, rfl⟩⟩) ?_
      refine WD.take hok1 6 (elemPtr (.slice ysa ys.length ysc) k) (fun w' => RdT (tyI .i64) w' (.slice ysa ys.length ysc) ys) rfl rfl rfl rfl rfl (rys.at H2) (.inl ⟨rfl, fun _ hC => t_addr1 k (T := (tyI .i64)) rfl Try.underlying22 sz3 rfl rfl hC rfl (by omega) ⟨rfl, rfl⟩⟩) ?_
      refine WD.take hok1 7 (.int .i64 (ys.getD k 0)) (fun w' => RdT (tyI .i64) w' (.slice ysa ys.length ysc) ys) rfl rfl rfl rfl rfl (rys.at H2) (.inl ⟨rfl, fun _ hC => t_load1 k 0 (T := (tyI .i64)) rfl Try.underlying3 rfl rfl hC (by omega) rfl ⟨rfl, rfl⟩⟩) ?_
      refine WD.take hok1 8 (.bool (decide ((xs.getD k 0) ≠ (ys.getD k 0)))) (fun _ => True) rfl rfl rfl rfl rfl trivial (.inl ⟨rfl, fun _ _ => d_cmp (decide ((xs.getD k 0) ≠ (ys.getD k 0))) rfl rfl rfl ⟨rfl, rfl⟩⟩) ?_
      refine WD.done hok1 rfl (X.then_code ?_)
      refine W.ite (p := (xs.getD k 0) ≠ (ys.getD k 0)) rfl (fun c96 => ?_) (fun c96 => ?_)
      · skip
        refine W.seq ?_
        refine W.region ?_
        refine WL.op rfl (d_assign rfl ?_)
        refine WL.done (X.then_code ?_)
        refine W.ret (X.block_ret (X.then_ret (X.then_ret (X.block_ret (X.then_ret (X.ret1 rfl rfl ?_))))))
        exact ⟨(by rw [decide_eq_false (by rintro rfl; exact c96 rfl)]), H2.noneL⟩
      · skip
        refine W.skip (X.block_normal (X.then_code ?_))
        refine W.region ?_
        refine WL.op rfl (d_move rfl ?_)
        refine WL.op rfl (d_add rfl rfl (by omega) (by omega) ?_)
        refine WL.op rfl (d_assign rfl ?_)
        refine WL.done ?_
        exact X.next [5, 4, 0, 1] (Γ' := [(5, .int .i64 (((k + 1) : Nat) : Int)), (4, .bool false), (0, .slice xsa xs.length xsc), (1, .slice ysa ys.length ysc)]) rfl (xs.length - (k + 1)) (by omega) ⟨k + 1, rfl, H2, (by first | assumption | omega | simp), (by exact all_step he (by omega)), rfl⟩
    · skip
      refine W.exit (X.then_exit (X.then_exit (X.block_exit (X.then_code ?_))))
      refine W.seq ?_
      refine W.region ?_
      refine WL.op rfl (d_assign rfl ?_)
      refine WL.done (X.then_code ?_)
      refine W.ret (X.ret1 rfl rfl ?_)
      exact ⟨(by rw [decide_eq_true (list_eq_of (d := 0) (by omega) (fun i hi => he i (by omega)))]), H1.noneL⟩

set_option maxRecDepth 20000 in
theorem cloneI_any (sa : Option Addr) (s : List Int) (sc : Nat) (sn : Nat) (w : World) (rs : RdT (tyI .i64) w (.slice sa sn sc) s) (hl : s.length * 8 ≤ 140737488355328) :
    Calls Try.prog 66 #[.slice sa sn sc] w (Ret fun v w' => ∃ a2 : Option Addr, ∃ c2 : Nat, v = .slice a2 s.length c2 ∧ Upd w [] w' [rowT (tyI .i64) (.slice a2 s.length c2) 3 s]) := by
  obtain rfl : sn = s.length := rs.len
  have le_rs := rs.le
  refine calls_of_W (args := [.slice sa s.length sc]) Try.func66 rfl rfl rfl ?_
  have H0 : UpG w [] w [] := UpG.nil w
  show W _ _ _ _ [(0, .slice sa s.length sc)] w
  refine W.seq ?_
  refine W.region ?_
  refine WL.op rfl (d_assign rfl ?_)
  refine WL.done (X.then_code ?_)
  refine W.seq ?_
  refine W.seq ?_
  refine W.region ?_
  refine WL.op rfl (d_move rfl ?_)
  refine WL.op rfl (d_slcnil Try.underlying22 rfl ?_)
  refine WL.done (X.then_code ?_)
  refine W.ite (p := sa = none) rfl (fun c357 => ?_) (fun c357 => ?_)
  · skip
    refine W.seq ?_
    refine W.region ?_
    refine WL.op rfl (d_assign rfl ?_)
    refine WL.done (X.then_code ?_)
    refine W.ret (X.then_ret (X.ret1 rfl rfl ?_))
    have e : s = [] := rs.nilOf c357
    subst e
    exact ⟨none, 0, (by rfl), nilOwn H0⟩
  · skip
    refine W.skip (X.then_code ?_)
    refine W.seq ?_
    refine W.region ?_
    refine WL.op rfl (t_buildSlice0 (T := (tyI .i64)) rfl Try.underlying22 sz3 fun w1 u1 => ?_)
    have H1 : UpG w [] w1 [[rowT (tyI .i64) (.slice (some ⟨w.heap.size, 0, none⟩) (([] : List Int).length) 0) 3 ([] : List Int)]] := H0.new' u1
    refine WL.op rfl (d_move rfl ?_)
    refine WL.op rfl (t_append (T := (tyI .i64)) (xs := ([] : List Int)) (ys := s) rfl Try.underlying22 sz3 rfl rfl rfl (H1.ownT 0 rfl) (rs.at H1) (by simp; omega) (by simp; omega) fun a1 c1 w2 u2 => ?_)
    have H2 : UpG w [] w2 [[rowT (tyI .i64) (.slice a1 ((([] : List Int) ++ s).length) c1) 3 (([] : List Int) ++ s)]] := H1.on 0 rfl u2
    refine WL.op rfl (d_assign rfl ?_)
    refine WL.done (X.then_code ?_)
    refine W.ret (X.ret1 rfl rfl ?_)
    exact ⟨a1, c1, (by rfl), (by have hh := H2.one 0 rfl; exact hh)⟩
end Go.Proofs.Ytoeockpkkmgieaa
