/- The walks of functions, printed by wip/tools/gw.py. -/
import Derived.Test.YtoeockpkkmgieaaEqualLeastB1
import Derived.Test.YtoeockpkkmgieaaShelf
namespace Go.Proofs.Ytoeockpkkmgieaa
open Go Go.Sx
set_option linter.unusedVariables false
set_option linter.unusedSimpArgs false
set_option maxRecDepth 20000 in
theorem equalI_any (xsa : Option Addr) (xs : List Int) (xsc : Nat) (xsn : Nat) (ysa : Option Addr) (ys : List Int) (ysc : Nat) (ysn : Nat) (w : World) (rxs : RdT (tyI .i64) w (.slice xsa xsn xsc) xs) (rys : RdT (tyI .i64) w (.slice ysa ysn ysc) ys) :
    Calls Try.prog 72 #[.slice xsa xsn xsc, .slice ysa ysn ysc] w (Ret fun v w' => v = .bool (decide (xs = ys)) ∧ Upd w [] w' []) := by
  obtain rfl : xsn = xs.length := rxs.len
  obtain rfl : ysn = ys.length := rys.len
  have le_rxs := rxs.le
  have le_rys := rys.le
  refine calls_of_W (args := [.slice xsa xs.length xsc, .slice ysa ys.length ysc]) Try.func72 rfl rfl rfl ?_
  have H0 : UpG w [] w [] := UpG.nil w
  show W _ _ _ _ [(0, .slice xsa xs.length xsc), (1, .slice ysa ys.length ysc)] w
  refine W.seq ?_
  refine W.region ?_
  refine WL.op rfl (d_assign rfl ?_)
  refine WL.done (X.then_code ?_)
  refine W.seq ?_
  refine W.seq ?_
  refine W.region ?_
  refine WL.op rfl (d_move rfl ?_)
  refine WL.op rfl (d_lenS Try.underlying22 rfl ?_)
  refine WL.op rfl (d_move rfl ?_)
  refine WL.op rfl (d_lenS Try.underlying22 rfl ?_)
  refine WL.op rfl (d_cmp (decide (((xs.length : Nat) : Int) ≠ ((ys.length : Nat) : Int))) rfl rfl rfl ?_)
  refine WL.done (X.then_code ?_)
  refine W.ite (p := ((xs.length : Nat) : Int) ≠ ((ys.length : Nat) : Int)) rfl (fun c21 => ?_) (fun c21 => ?_)
  · skip
    refine W.seq ?_
    refine W.region ?_
    refine WL.op rfl (d_assign rfl ?_)
    refine WL.done (X.then_code ?_)
    refine W.ret (X.then_ret (X.ret1 rfl rfl ?_))
    exact ⟨(by rw [decide_eq_false (by rintro rfl; omega)]), H0.noneL⟩
  · skip
    refine W.skip (X.then_code ?_)
    refine W.seq ?_
    refine W.seq ?_
    refine W.region ?_
    refine WL.op rfl (d_move rfl ?_)
    refine WL.op rfl (d_lenS Try.underlying22 rfl ?_)
    refine WL.op rfl (d_move rfl ?_)
    refine WL.done (X.then_code ?_)
    refine W.block ?_
    refine W.pick [13, 12, 4, 0, 1] (Γ' := [(13, .int .i64 0), (12, .int .i64 ((xs.length : Nat) : Int)), (4, .bool false), (0, .slice xsa xs.length xsc), (1, .slice ysa ys.length ysc)]) rfl ?_
    refine W.loop (fun m Γ' w' => ∃ k : Nat, Γ' = [(13, .int .i64 ((k : Nat) : Int)), (12, .int .i64 ((xs.length : Nat) : Int)), (4, .bool false), (0, .slice xsa xs.length xsc), (1, .slice ysa ys.length ysc)] ∧ UpG w [] w' [] ∧ (k ≤ xs.length) ∧ (∀ i, i < k → xs.getD i 0 = ys.getD i 0) ∧ m = xs.length - k) (xs.length - 0) ⟨0, rfl, H0, (by first | assumption | omega | simp), (by intro i hi; omega), rfl⟩ ?_
    rintro m1 Γ1 w1 ⟨k, rfl, H1, hk, he, rfl⟩
    refine W.seq ?_
    refine W.region ?_
    refine WL.op rfl (d_cmp (decide (((k : Nat) : Int) < ((xs.length : Nat) : Int))) rfl rfl rfl ?_)
    refine WL.done (X.then_code ?_)
    refine W.seq ?_
    refine W.ite (p := ((k : Nat) : Int) < ((xs.length : Nat) : Int)) rfl (fun c24 => ?_) (fun c24 => ?_)
    · skip
      refine W.skip (X.then_code ?_)
      refine W.seq ?_
      refine W.block ?_
      refine W.seq ?_
      refine W.region ?_
      refine WL.op rfl (d_move rfl ?_)
      refine WL.op rfl (d_assign rfl ?_)
      refine WL.done (X.then_code ?_)
      refine W.seq ?_
      refine W.regionD mixed (by kernel_rfl) fun hok1 w2 k1 => ?_
      have H2 : UpG w [] w2 [] := H1.kept k1
      refine WD.take hok1 0 (.slice xsa xs.length xsc) (fun _ => True) rfl rfl rfl rfl rfl trivial (.inl ⟨rfl, fun _ _ => d_move rfl ⟨rfl, rfl⟩⟩) ?_
      refine WD.take hok1 1 (.int .i64 ((k : Nat) : Int)) (fun _ => True) rfl rfl rfl rfl rfl trivial (.inl ⟨rfl, fun _ _ => d_move rfl ⟨rfl, rfl⟩⟩) ?_
      refine WD.take hok1 2 (elemPtr (.slice xsa xs.length xsc) k) (fun w' => RdT (tyI .i64) w' (.slice xsa xs.length xsc) xs) rfl rfl rfl rfl rfl (rxs.at H2) (.inl ⟨rfl, fun _ hC => t_addr1 k (T := (tyI .i64)) rfl Try.underlying22 sz3 rfl rfl hC rfl (by omega) ⟨rfl, rfl⟩⟩) ?_
      refine WD.take hok1 3 (.int .i64 (xs.getD k 0)) (fun w' => RdT (tyI .i64) w' (.slice xsa xs.length xsc) xs) rfl rfl rfl rfl rfl (rxs.at H2) (.inl ⟨rfl, fun _ hC => t_load1 k 0 (T := (tyI .i64)) rfl Try.underlying3 rfl rfl hC (by omega) rfl ⟨rfl, rfl⟩⟩) ?_
      refine WD.take hok1 4 (.slice ysa ys.length ysc) (fun _ => True) rfl rfl rfl rfl rfl trivial (.inl ⟨rfl, fun _ _ => d_move rfl ⟨rfl, rfl⟩⟩) ?_
      refine WD.take hok1 5 (.int .i64 ((k : Nat) : Int)) (fun _ => True) rfl rfl rfl rfl rfl trivial (.inl ⟨rfl, fun _ _ => d_move rfl ⟨rfl, rfl⟩⟩) ?_
      refine WD.take hok1 6 (elemPtr (.slice ysa ys.length ysc) k) (fun w' => RdT (tyI .i64) w' (.slice ysa ys.length ysc) ys) rfl rfl rfl rfl rfl (rys.at H2) (.inl ⟨rfl, fun _ hC => t_addr1 k (T := (tyI .i64)) rfl Try.underlying22 sz3 rfl rfl hC rfl (by omega) ⟨rfl, rfl⟩⟩) ?_
      refine WD.take hok1 7 (.int .i64 (ys.getD k 0)) (fun w' => RdT (tyI .i64) w' (.slice ysa ys.length ysc) ys) rfl rfl rfl rfl rfl (rys.at H2) (.inl ⟨rfl, fun _ hC => t_load1 k 0 (T := (tyI .i64)) rfl Try.underlying3 rfl rfl hC (by omega) rfl ⟨rfl, rfl⟩⟩) ?_
      refine WD.take hok1 8 (.bool (decide ((xs.getD k 0) ≠ (ys.getD k 0)))) (fun _ => True) rfl rfl rfl rfl rfl trivial (.inl ⟨rfl, fun _ _ => d_cmp (decide ((xs.getD k 0) ≠ (ys.getD k 0))) rfl rfl rfl ⟨rfl, rfl⟩⟩) ?_
      refine WD.done hok1 rfl (X.then_code ?_)
      refine W.ite (p := (xs.getD k 0) ≠ (ys.getD k 0)) rfl (fun c25 => ?_) (fun c25 => ?_)
      · skip
        refine W.seq ?_
        refine W.region ?_
        refine WL.op rfl (d_assign rfl ?_)
        refine WL.done (X.then_code ?_)
        refine W.ret (X.block_ret (X.then_ret (X.then_ret (X.block_ret (X.then_ret (X.ret1 rfl rfl ?_))))))
        exact ⟨(by rw [decide_eq_false (by rintro rfl; exact c25 rfl)]), H2.noneL⟩
      · skip
        refine W.skip (X.block_normal (X.then_code ?_))
        refine W.region ?_
        refine WL.op rfl (d_add rfl rfl (by omega) (by omega) ?_)
        refine WL.op rfl (d_move rfl ?_)
        refine WL.done ?_
        exact X.next [13, 12, 4, 0, 1] (Γ' := [(13, .int .i64 (((k + 1) : Nat) : Int)), (12, .int .i64 ((xs.length : Nat) : Int)), (4, .bool false), (0, .slice xsa xs.length xsc), (1, .slice ysa ys.length ysc)]) rfl (xs.length - (k + 1)) (by omega) ⟨k + 1, rfl, H2, (by first | assumption | omega | simp), (by exact all_step he (by first | omega | (rcases h1 : xs.getD k 0 with _ | _ <;> rcases h2 : ys.getD k 0 with _ | _ <;> simp_all))), rfl⟩
    · skip
      refine W.exit (X.then_exit (X.then_exit (X.block_exit (X.then_code ?_))))
      refine W.seq ?_
      refine W.region ?_
      refine WL.op rfl (d_assign rfl ?_)
      refine WL.done (X.then_code ?_)
      refine W.ret (X.ret1 rfl rfl ?_)
      exact ⟨(by rw [decide_eq_true (list_eq_of (d := 0) (by omega) (fun i hi => he i (by omega)))]), H1.noneL⟩

set_option maxRecDepth 20000 in
theorem equalB_any (xsa : Option Addr) (xs : List Bool) (xsc : Nat) (xsn : Nat) (ysa : Option Addr) (ys : List Bool) (ysc : Nat) (ysn : Nat) (w : World) (rxs : RdT tyB w (.slice xsa xsn xsc) xs) (rys : RdT tyB w (.slice ysa ysn ysc) ys) :
    Calls Try.prog 75 #[.slice xsa xsn xsc, .slice ysa ysn ysc] w (Ret fun v w' => v = .bool (decide (xs = ys)) ∧ Upd w [] w' []) := by
  obtain rfl : xsn = xs.length := rxs.len
  obtain rfl : ysn = ys.length := rys.len
  have le_rxs := rxs.le
  have le_rys := rys.le
  refine calls_of_W (args := [.slice xsa xs.length xsc, .slice ysa ys.length ysc]) Try.func75 rfl rfl rfl ?_
  have H0 : UpG w [] w [] := UpG.nil w
  show W _ _ _ _ [(0, .slice xsa xs.length xsc), (1, .slice ysa ys.length ysc)] w
  refine W.seq ?_
  refine W.region ?_
  refine WL.op rfl (d_assign rfl ?_)
  refine WL.done (X.then_code ?_)
  refine W.seq ?_
  refine W.seq ?_
  refine W.region ?_
  refine WL.op rfl (d_move rfl ?_)
  refine WL.op rfl (d_lenS Try.underlying23 rfl ?_)
  refine WL.op rfl (d_move rfl ?_)
  refine WL.op rfl (d_lenS Try.underlying23 rfl ?_)
  refine WL.op rfl (d_cmp (decide (((xs.length : Nat) : Int) ≠ ((ys.length : Nat) : Int))) rfl rfl rfl ?_)
  refine WL.done (X.then_code ?_)
  refine W.ite (p := ((xs.length : Nat) : Int) ≠ ((ys.length : Nat) : Int)) rfl (fun c21 => ?_) (fun c21 => ?_)
  · skip
    refine W.seq ?_
    refine W.region ?_
    refine WL.op rfl (d_assign rfl ?_)
    refine WL.done (X.then_code ?_)
    refine W.ret (X.then_ret (X.ret1 rfl rfl ?_))
    exact ⟨(by rw [decide_eq_false (by rintro rfl; omega)]), H0.noneL⟩
  · skip
    refine W.skip (X.then_code ?_)
    refine W.seq ?_
    refine W.seq ?_
    refine W.region ?_
    refine WL.op rfl (d_move rfl ?_)
    refine WL.op rfl (d_lenS Try.underlying23 rfl ?_)
    refine WL.op rfl (d_move rfl ?_)
    refine WL.done (X.then_code ?_)
    refine W.block ?_
    refine W.pick [13, 12, 4, 0, 1] (Γ' := [(13, .int .i64 0), (12, .int .i64 ((xs.length : Nat) : Int)), (4, .bool false), (0, .slice xsa xs.length xsc), (1, .slice ysa ys.length ysc)]) rfl ?_
    refine W.loop (fun m Γ' w' => ∃ k : Nat, Γ' = [(13, .int .i64 ((k : Nat) : Int)), (12, .int .i64 ((xs.length : Nat) : Int)), (4, .bool false), (0, .slice xsa xs.length xsc), (1, .slice ysa ys.length ysc)] ∧ UpG w [] w' [] ∧ (k ≤ xs.length) ∧ (∀ i, i < k → xs.getD i false = ys.getD i false) ∧ m = xs.length - k) (xs.length - 0) ⟨0, rfl, H0, (by first | assumption | omega | simp), (by intro i hi; omega), rfl⟩ ?_
    rintro m1 Γ1 w1 ⟨k, rfl, H1, hk, he, rfl⟩
    refine W.seq ?_
    refine W.region ?_
    refine WL.op rfl (d_cmp (decide (((k : Nat) : Int) < ((xs.length : Nat) : Int))) rfl rfl rfl ?_)
    refine WL.done (X.then_code ?_)
    refine W.seq ?_
    refine W.ite (p := ((k : Nat) : Int) < ((xs.length : Nat) : Int)) rfl (fun c24 => ?_) (fun c24 => ?_)
    · skip
      refine W.skip (X.then_code ?_)
      refine W.seq ?_
      refine W.block ?_
      refine W.seq ?_
      refine W.region ?_
      refine WL.op rfl (d_move rfl ?_)
      refine WL.op rfl (d_assign rfl ?_)
      refine WL.done (X.then_code ?_)
      refine W.seq ?_
      refine W.regionD mixed (by kernel_rfl) fun hok1 w2 k1 => ?_
      have H2 : UpG w [] w2 [] := H1.kept k1
      refine WD.take hok1 0 (.slice xsa xs.length xsc) (fun _ => True) rfl rfl rfl rfl rfl trivial (.inl ⟨rfl, fun _ _ => d_move rfl ⟨rfl, rfl⟩⟩) ?_
      refine WD.take hok1 1 (.int .i64 ((k : Nat) : Int)) (fun _ => True) rfl rfl rfl rfl rfl trivial (.inl ⟨rfl, fun _ _ => d_move rfl ⟨rfl, rfl⟩⟩) ?_
      refine WD.take hok1 2 (elemPtr (.slice xsa xs.length xsc) k) (fun w' => RdT tyB w' (.slice xsa xs.length xsc) xs) rfl rfl rfl rfl rfl (rxs.at H2) (.inl ⟨rfl, fun _ hC => t_addr1 k (T := tyB) rfl Try.underlying23 sz4 rfl rfl hC rfl (by omega) ⟨rfl, rfl⟩⟩) ?_
      refine WD.take hok1 3 (.bool (xs.getD k false)) (fun w' => RdT tyB w' (.slice xsa xs.length xsc) xs) rfl rfl rfl rfl rfl (rxs.at H2) (.inl ⟨rfl, fun _ hC => t_load1 k false (T := tyB) rfl Try.underlying4 rfl rfl hC (by omega) rfl ⟨rfl, rfl⟩⟩) ?_
      refine WD.take hok1 4 (.slice ysa ys.length ysc) (fun _ => True) rfl rfl rfl rfl rfl trivial (.inl ⟨rfl, fun _ _ => d_move rfl ⟨rfl, rfl⟩⟩) ?_
      refine WD.take hok1 5 (.int .i64 ((k : Nat) : Int)) (fun _ => True) rfl rfl rfl rfl rfl trivial (.inl ⟨rfl, fun _ _ => d_move rfl ⟨rfl, rfl⟩⟩) ?_
      refine WD.take hok1 6 (elemPtr (.slice ysa ys.length ysc) k) (fun w' => RdT tyB w' (.slice ysa ys.length ysc) ys) rfl rfl rfl rfl rfl (rys.at H2) (.inl ⟨rfl, fun _ hC => t_addr1 k (T := tyB) rfl Try.underlying23 sz4 rfl rfl hC rfl (by omega) ⟨rfl, rfl⟩⟩) ?_
      refine WD.take hok1 7 (.bool (ys.getD k false)) (fun w' => RdT tyB w' (.slice ysa ys.length ysc) ys) rfl rfl rfl rfl rfl (rys.at H2) (.inl ⟨rfl, fun _ hC => t_load1 k false (T := tyB) rfl Try.underlying4 rfl rfl hC (by omega) rfl ⟨rfl, rfl⟩⟩) ?_
      refine WD.take hok1 8 (.bool (decide ((xs.getD k false) ≠ (ys.getD k false)))) (fun _ => True) rfl rfl rfl rfl rfl trivial (.inl ⟨rfl, fun _ _ => d_boolne Try.underlying4 rfl rfl ⟨rfl, rfl⟩⟩) ?_
      refine WD.done hok1 rfl (X.then_code ?_)
      refine W.ite (p := (xs.getD k false) ≠ (ys.getD k false)) rfl (fun c25 => ?_) (fun c25 => ?_)
      · skip
        refine W.seq ?_
        refine W.region ?_
        refine WL.op rfl (d_assign rfl ?_)
        refine WL.done (X.then_code ?_)
        refine W.ret (X.block_ret (X.then_ret (X.then_ret (X.block_ret (X.then_ret (X.ret1 rfl rfl ?_))))))
        exact ⟨(by rw [decide_eq_false (by rintro rfl; exact c25 rfl)]), H2.noneL⟩
      · skip
        refine W.skip (X.block_normal (X.then_code ?_))
        refine W.region ?_
        refine WL.op rfl (d_add rfl rfl (by omega) (by omega) ?_)
        refine WL.op rfl (d_move rfl ?_)
        refine WL.done ?_
        exact X.next [13, 12, 4, 0, 1] (Γ' := [(13, .int .i64 (((k + 1) : Nat) : Int)), (12, .int .i64 ((xs.length : Nat) : Int)), (4, .bool false), (0, .slice xsa xs.length xsc), (1, .slice ysa ys.length ysc)]) rfl (xs.length - (k + 1)) (by omega) ⟨k + 1, rfl, H2, (by first | assumption | omega | simp), (by exact all_step he (by first | omega | (rcases h1 : xs.getD k false with _ | _ <;> rcases h2 : ys.getD k false with _ | _ <;> simp_all))), rfl⟩
    · skip
      refine W.exit (X.then_exit (X.then_exit (X.block_exit (X.then_code ?_))))
      refine W.seq ?_
      refine W.region ?_
      refine WL.op rfl (d_assign rfl ?_)
      refine WL.done (X.then_code ?_)
      refine W.ret (X.ret1 rfl rfl ?_)
      exact ⟨(by rw [decide_eq_true (list_eq_of (d := false) (by omega) (fun i hi => he i (by omega)))]), H1.noneL⟩

set_option maxRecDepth 20000 in
theorem cloneI_any (sa : Option Addr) (s : List Int) (sc : Nat) (sn : Nat) (w : World) (rs : RdT (tyI .i64) w (.slice sa sn sc) s) (hl : s.length * 8 ≤ 140737488355328) :
    Calls Try.prog 66 #[.slice sa sn sc] w (Ret fun v w' => ∃ a2 : Option Addr, ∃ c2 : Nat, v = .slice a2 s.length c2 ∧ Upd w [] w' [rowT (tyI .i64) (.slice a2 s.length c2) 3 s]) := by
  obtain rfl : sn = s.length := rs.len
  have le_rs := rs.le
  refine calls_of_W (args := [.slice sa s.length sc]) Try.func66 rfl rfl rfl ?_
  have H0 : UpG w [] w [] := UpG.nil w
  show W _ _ _ _ [(0, .slice sa s.length sc)] w
  refine W.seq ?_
  refine W.region ?_
  refine WL.op rfl (d_assign rfl ?_)
  refine WL.done (X.then_code ?_)
  refine W.seq ?_
  refine W.seq ?_
  refine W.region ?_
  refine WL.op rfl (d_move rfl ?_)
  refine WL.op rfl (d_slcnil Try.underlying22 rfl ?_)
  refine WL.done (X.then_code ?_)
  refine W.ite (p := sa = none) rfl (fun c357 => ?_) (fun c357 => ?_)
  · skip
    refine W.seq ?_
    refine W.region ?_
    refine WL.op rfl (d_assign rfl ?_)
    refine WL.done (X.then_code ?_)
    refine W.ret (X.then_ret (X.ret1 rfl rfl ?_))
    have e : s = [] := rs.nilOf c357
    subst e
    exact ⟨none, 0, (by rfl), nilOwn H0⟩
  · skip
    refine W.skip (X.then_code ?_)
    refine W.seq ?_
    refine W.region ?_
    refine WL.op rfl (t_buildSlice0 (T := (tyI .i64)) rfl Try.underlying22 sz3 fun w1 u1 => ?_)
    have H1 : UpG w [] w1 [[rowT (tyI .i64) (.slice (some ⟨w.heap.size, 0, none⟩) (([] : List Int).length) 0) 3 ([] : List Int)]] := H0.new' u1
    refine WL.op rfl (d_move rfl ?_)
    refine WL.op rfl (t_append (T := (tyI .i64)) (xs := ([] : List Int)) (ys := s) rfl Try.underlying22 sz3 rfl rfl rfl (H1.ownT 0 rfl) (rs.at H1) (by simp; omega) (by simp; omega) fun a1 c1 w2 u2 => ?_)
    have H2 : UpG w [] w2 [[rowT (tyI .i64) (.slice a1 ((([] : List Int) ++ s).length) c1) 3 (([] : List Int) ++ s)]] := H1.on 0 rfl u2
    refine WL.op rfl (d_assign rfl ?_)
    refine WL.done (X.then_code ?_)
    refine W.ret (X.ret1 rfl rfl ?_)
    exact ⟨a1, c1, (by rfl), (by have hh := H2.one 0 rfl; exact hh)⟩
end Go.Proofs.Ytoeockpkkmgieaa


/- The keys of the seat's maps. -/
namespace Go.Proofs.Ytoeockpkkmgieaa
open Go Go.Sx
theorem key3 : KeyS Try.prog 3 (fun a : Int => .int .i64 a) := keyI Try.underlying3
theorem key130 : KeyS Try.prog 130 encP := keyP (by kernel_rfl) (by kernel_rfl) (fun _ _ _ _ => by kernel_rfl)
theorem key105 : KeyS Try.prog 105 encP := keyP (by kernel_rfl) (by kernel_rfl) (fun _ _ _ _ => by kernel_rfl)
end Go.Proofs.Ytoeockpkkmgieaa


/- Classes of symbols: their first places, and two lists joined, as data. Conditions: those of each theorem. -/
namespace Go.Sx
set_option linter.unusedVariables false
set_option linter.unusedSimpArgs false
def firstI (c : Int) (l : List Int) : Int := if c ∈ l then ((ix c l : Nat) : Int) else -1
def firstsI (l : List Int) (width : Int) : List Int := List.map (fun c : Nat => firstI (c : Int) l) (List.range (min width 259).toNat)
theorem ix_snoc {α : Type} [DecidableEq α] {x : α} : ∀ {l : List α}, x ∉ l → ix x (l ++ [x]) = l.length
  | [], _ => by simp [ix]
  | y :: l, h => by
    simp only [List.mem_cons, not_or] at h
    simp only [List.cons_append, ix, if_neg h.1, ix_snoc h.2, List.length_cons]
theorem firstsI_len (l : List Int) (width : Int) : (firstsI l width).length = (min width 259).toNat := by simp [firstsI]
theorem firstI_snoc (c : Int) (l : List Int) (x : Int) : firstI c (l ++ [x]) = if c ∈ l then firstI c l else if x = c then (l.length : Int) else -1 := by
  unfold firstI
  by_cases h : c ∈ l
  · rw [if_pos (by simp [h]), if_pos h, if_pos h, ix_app _ h]
  · rw [if_neg h]
    by_cases e : x = c
    · subst e
      rw [if_pos (by simp), if_pos rfl]
      have := ix_snoc h
      rw [this]
    · rw [if_neg (by simp [h]; exact fun e' => e e'.symm), if_neg e]
theorem firstI_neg {c : Int} {l : List Int} : firstI c l < 0 ↔ c ∉ l := by
  unfold firstI; split <;> rename_i h <;> simp [h]
/-- Behind k places. -/
structure FsI (l : List Int) (n : Nat) (q : List Int) (k : Nat) : Prop where
  len : q.length = n
  val : ∀ c : Nat, c < n → q.getD c 0 = firstI (c : Int) (l.take k)
theorem FsI.start (l : List Int) (n : Nat) : FsI l n (List.replicate n (-1)) 0 := ⟨by simp, fun c hc => by simp [List.getD_eq_getElem?_getD, hc, firstI]⟩
theorem take_succ_getD {α : Type} {l : List α} {k : Nat} (d : α) (h : k < l.length) : l.take (k + 1) = l.take k ++ [l.getD k d] := by
  rw [List.take_add_one, List.getElem?_eq_getElem h]; simp [List.getD_eq_getElem?_getD, List.getElem?_eq_getElem h]
theorem getD_setI {q : List Int} {i j : Nat} {b : Int} (hi : i < q.length) : (q.set i b).getD j 0 = if i = j then b else q.getD j 0 := by
  simp only [List.getD_eq_getElem?_getD, List.getElem?_set]
  split
  · rename_i e; subst e; simp [hi]
  · rfl
theorem FsI.skip {l : List Int} {n : Nat} {q : List Int} {k : Nat} (h : FsI l n q k) (hk : k < l.length) (hc : ¬ (0 ≤ l.getD k 0 ∧ l.getD k 0 < (n : Int) ∧ q.getD (l.getD k 0).toNat 0 < 0)) : FsI l n q (k + 1) := by
  refine ⟨h.len, fun c hcn => ?_⟩
  rw [take_succ_getD 0 hk, firstI_snoc, h.val c hcn]
  split
  · rfl
  · rename_i hn
    rw [if_neg (fun e => hc ⟨by omega, by omega, ?_⟩)]
    · unfold firstI; rw [if_neg hn]
    · rw [e, Int.toNat_natCast, h.val c hcn, firstI_neg]; exact hn
theorem FsI.put {l : List Int} {n : Nat} {q : List Int} {k : Nat} (h : FsI l n q k) (hk : k < l.length) (h0 : 0 ≤ l.getD k 0) (h1 : l.getD k 0 < (n : Int)) (h2 : q.getD (l.getD k 0).toNat 0 < 0) : FsI l n (q.set (l.getD k 0).toNat (k : Int)) (k + 1) := by
  have hl : (l.getD k 0).toNat < q.length := by rw [h.len]; omega
  have hx : l.getD k 0 ∉ l.take k := by
    have := h.val (l.getD k 0).toNat (by omega)
    rw [this, Int.toNat_of_nonneg h0, firstI_neg] at h2; exact h2
  refine ⟨by simp [h.len], fun c hcn => ?_⟩
  rw [getD_setI hl, take_succ_getD 0 hk, firstI_snoc]
  split
  · rename_i e
    have e' : l.getD k 0 = (c : Int) := by omega
    rw [← e', if_neg hx, if_pos rfl, List.length_take]
    congr 1; omega
  · rename_i e
    rw [h.val c hcn]
    split
    · rfl
    · rename_i hn
      rw [if_neg (by omega)]
      unfold firstI; rw [if_neg hn]
theorem FsI.fin {l : List Int} {width : Int} {q : List Int} {k : Nat} (h : FsI l (min width 259).toNat q k) (hk : l.length ≤ k) : firstsI l width = q := by
  refine list_eq_of (d := 0) (by rw [firstsI_len, h.len]) fun i hi => ?_
  rw [firstsI_len] at hi
  rw [h.val i hi, List.take_of_length_le hk]
  simp [firstsI, List.getD_eq_getElem?_getD, hi]
theorem firstsI_get {l : List Int} {width : Int} {c : Nat} (h : c < (min width 259).toNat) : (firstsI l width).getD c 0 = firstI (c : Int) l := by simp [firstsI, List.getD_eq_getElem?_getD, h]

/-! ### Two lists joined -/
def joinL (a b : List Int) : List Int := if a.length = b.length then numL (a.zip b) else []
def joinN (a b : List Int) : Int := if a.length = b.length then (((dd (a.zip b)).length : Nat) : Int) else 0
theorem joinL_len {a b : List Int} (h : a.length = b.length) : (joinL a b).length = a.length := by rw [joinL, if_pos h]; simp [numL, h]
theorem zip_getD {a b : List Int} {k : Nat} (ha : k < a.length) (hb : k < b.length) : (a.zip b).getD k (0, 0) = (a.getD k 0, b.getD k 0) := by
  simp [List.getD_eq_getElem?_getD, ha, hb, List.getElem?_eq_getElem (show k < (a.zip b).length by simp; omega)]
structure JnI (z : List (Int × Int)) (q : List Int) (m : List ((Int × Int) × Int)) (k : Nat) : Prop where
  len : q.length = z.length
  val : ∀ j, j < k → q.getD j 0 = ((ix (z.getD j (0, 0)) (dd z) : Nat) : Int)
  map : m = nmap (z.take k)
theorem JnI.start (z : List (Int × Int)) : JnI z (List.replicate z.length 0) [] 0 := ⟨by simp, fun j h => by omega, by simp [nmap, dd]⟩
theorem mem_dd_take {z : List (Int × Int)} {k : Nat} {p : Int × Int} (h : p ∈ dd (z.take k)) : ix p (dd z) = ix p (dd (z.take k)) := by
  have := dd_idx (z.take k) (z.drop k) h
  rwa [List.take_append_drop] at this
theorem JnI.old {z : List (Int × Int)} {q : List Int} {m : List ((Int × Int) × Int)} {k : Nat} {p : Int × Int} (h : JnI z q m k) (hk : k < z.length) (hp : z.getD k (0, 0) = p) (hs : (getM m p).isSome = true) : JnI z (q.set k ((getM m p).getD 0)) m (k + 1) := by
  have hl : k < q.length := by rw [h.len]; exact hk
  rw [h.map, nmap_get] at hs
  have hm : p ∈ z.take k := by
    by_cases e : p ∈ z.take k
    · exact e
    · rw [if_neg e] at hs; cases hs
  refine ⟨by simp [h.len], fun j hj => ?_, ?_⟩
  · rw [getD_setI hl]
    split
    · rename_i e; subst e
      rw [h.map, nmap_get, if_pos hm, hp, mem_dd_take ((dd_mem _ _).2 hm)]; rfl
    · exact h.val j (by omega)
  · rw [take_succ_getD (0, 0) hk, hp, nmap_old hm, h.map]
theorem JnI.new {z : List (Int × Int)} {q : List Int} {m : List ((Int × Int) × Int)} {k : Nat} {p : Int × Int} (h : JnI z q m k) (hk : k < z.length) (hp : z.getD k (0, 0) = p) (hs : ¬ (getM m p).isSome = true) : JnI z (q.set k ((m.length : Nat) : Int)) (putM m p ((m.length : Nat) : Int)) (k + 1) := by
  have hl : k < q.length := by rw [h.len]; exact hk
  rw [h.map, nmap_get] at hs
  have hm : p ∉ z.take k := fun e => by rw [if_pos e] at hs; exact hs rfl
  have hmd : p ∉ dd (z.take k) := fun e => hm ((dd_mem _ _).1 e)
  refine ⟨by simp [h.len], fun j hj => ?_, ?_⟩
  · rw [getD_setI hl]
    split
    · rename_i e; subst e
      have e1 : dd (z.take (k + 1)) = dd (z.take k) ++ [p] := by rw [take_succ_getD (0, 0) hk, hp, dd_snoc, if_neg hmd]
      have e2 : p ∈ dd (z.take (k + 1)) := by rw [e1]; simp
      rw [hp, mem_dd_take e2, e1, h.map, nmap_len]
      rw [ix_snoc hmd]
    · exact h.val j (by omega)
  · rw [take_succ_getD (0, 0) hk, hp, h.map, nmap_new hm]
theorem JnI.fin {a b q : List Int} {m : List ((Int × Int) × Int)} {k : Nat} (h : JnI (a.zip b) q m k) (hab : a.length = b.length) (hk : k = a.length) : joinL a b = q ∧ joinN a b = ((m.length : Nat) : Int) := by
  have hzl : (a.zip b).length = a.length := by simp [hab]
  constructor
  · rw [joinL, if_pos hab]
    refine list_eq_of (d := 0) (by simp [numL, h.len]) fun i hi => ?_
    have hi' : i < (a.zip b).length := by simpa [numL] using hi
    rw [h.val i (by omega)]
    simp only [numL, List.getD_eq_getElem?_getD, List.getElem?_map, List.getElem?_eq_getElem hi', Option.map_some, Option.getD_some]
  · rw [joinN, if_pos hab, h.map, nmap_len, List.take_of_length_le (by omega)]
end Go.Sx


/- The walks of functions, printed by wip/tools/gw.py. -/
namespace Go.Proofs.Ytoeockpkkmgieaa
open Go Go.Sx
set_option linter.unusedVariables false
set_option linter.unusedSimpArgs false
set_option maxRecDepth 20000 in
theorem firsts_any (clsa : Option Addr) (cls : List Int) (clsc : Nat) (width : Int) (w : World) (rcls : RdT (tyI .i64) w (.slice clsa cls.length clsc) cls) :
    Calls Try.prog 78 #[.slice clsa cls.length clsc, .int .i64 width] w (Ret fun v w' => ∃ a2 : Option Addr, ∃ c2 : Nat, v = .slice a2 ((firstsI cls width).length) c2 ∧ Upd w [] w' [rowT (tyI .i64) (.slice a2 ((firstsI cls width).length) c2) 3 (firstsI cls width)]) := by
  have le_rcls := rcls.le
  refine calls_of_W (args := [.slice clsa cls.length clsc, .int .i64 width]) Try.func78 rfl rfl rfl ?_
  have H0 : UpG w [] w [] := UpG.nil w
  show W _ _ _ _ [(0, .slice clsa cls.length clsc), (1, .int .i64 width)] w
  refine W.seq ?_
  refine W.region ?_
  refine WL.op rfl (d_assign rfl ?_)
  refine WL.done (X.then_code ?_)
  refine W.seq ?_
  refine W.region ?_
  refine WL.op rfl (d_assign rfl ?_)
  refine WL.done (X.then_code ?_)
  refine W.seq ?_
  refine W.seq ?_
  refine W.region ?_
  refine WL.op rfl (d_move rfl ?_)
  refine WL.op rfl (d_min rfl rfl ?_)
  refine WL.op rfl (d_move rfl ?_)
  refine WL.done (X.then_code ?_)
  refine W.block ?_
  have H1 : UpG w [] w [[rowT (tyI .i64) (.slice none (([] : List Int).length) 0) 3 ([] : List Int)]] := H0.new' (Upd.nilRowT w (tyI .i64) 3)
  refine W.pick [10, 9, 5, 4, 0] (Γ' := [(10, .int .i64 0), (9, .int .i64 (min width 259)), (5, .slice none (([] : List Int).length) 0), (4, .slice none 0 0), (0, .slice clsa cls.length clsc)]) rfl ?_
  refine W.loop (fun m Γ' w' => ∃ k : Nat, ∃ q : List Int, ∃ qa : Option Addr, ∃ qc : Nat, Γ' = [(10, .int .i64 ((k : Nat) : Int)), (9, .int .i64 (min width 259)), (5, .slice qa q.length qc), (4, .slice none 0 0), (0, .slice clsa cls.length clsc)] ∧ UpG w [] w' [[rowT (tyI .i64) (.slice qa q.length qc) 3 q]] ∧ (k ≤ (min width 259).toNat) ∧ (q = List.replicate k (-1)) ∧ (q.length = k) ∧ m = (min width 259).toNat - k) ((min width 259).toNat - 0) ⟨0, ([] : List Int), none, 0, rfl, H1, (by first | assumption | omega | simp), (by rfl), (by rfl), rfl⟩ ?_
  rintro m1 Γ1 w1 ⟨k, q, qa, qc, rfl, H2, hk, hq, hql, rfl⟩
  refine W.seq ?_
  refine W.region ?_
  refine WL.op rfl (d_cmp (decide (((k : Nat) : Int) < (min width 259))) rfl rfl rfl ?_)
  refine WL.done (X.then_code ?_)
  refine W.seq ?_
  refine W.ite (p := ((k : Nat) : Int) < (min width 259)) rfl (fun c59 => ?_) (fun c59 => ?_)
  · skip
    refine W.skip (X.then_code ?_)
    refine W.seq ?_
    refine W.block ?_
    refine W.region ?_
    refine WL.op rfl (d_move rfl ?_)
    refine WL.op rfl (t_buildSlice (T := (tyI .i64)) (xs := [-1]) (cs := #[.int .i64 (-1)]) rfl Try.underlying22 sz3 rfl rfl rfl rfl (by kernel_rfl) rfl rfl fun w2 u1 => ?_)
    have H3 : UpG w [] w2 [[rowT (tyI .i64) (.slice qa q.length qc) 3 q], [rowT (tyI .i64) (.slice (some ⟨w1.heap.size, 0, none⟩) ([-1].length) ([-1].length)) 3 [-1]]] := H2.new' u1
    refine WL.op rfl (t_append (T := (tyI .i64)) (xs := q) (ys := [-1]) rfl Try.underlying22 sz3 rfl rfl rfl (H3.ownT 0 rfl) (H3.rdT 1 rfl) (by simp only [List.length_singleton]; omega) (by simp only [List.length_singleton]; omega) fun a1 c1 w3 u2 => ?_)
    have H4 : UpG w [] w3 [[rowT (tyI .i64) (.slice a1 ((q ++ [-1]).length) c1) 3 (q ++ [-1])], []] := (H3.on 0 rfl u2).drop 1
    refine WL.op rfl (d_assign rfl ?_)
    refine WL.done (X.block_normal (X.then_code ?_))
    refine W.region ?_
    refine WL.op rfl (d_add rfl rfl (by omega) (by omega) ?_)
    refine WL.op rfl (d_move rfl ?_)
    refine WL.done ?_
    exact X.next [10, 9, 5, 4, 0] (Γ' := [(10, .int .i64 (((k + 1) : Nat) : Int)), (9, .int .i64 (min width 259)), (5, .slice a1 ((q ++ [-1]).length) c1), (4, .slice none 0 0), (0, .slice clsa cls.length clsc)]) rfl ((min width 259).toNat - (k + 1)) (by omega) ⟨k + 1, q ++ [-1], a1, c1, rfl, (H4.re rfl), (by first | assumption | omega | simp), (by rw [hq]; exact (List.replicate_succ' ..).symm), (by simp; omega), rfl⟩
  · skip
    refine W.exit (X.then_exit (X.then_exit (X.block_exit (X.then_code ?_))))
    refine W.seq ?_
    refine W.seq ?_
    refine W.region ?_
    refine WL.op rfl (d_move rfl ?_)
    refine WL.op rfl (d_lenS Try.underlying22 rfl ?_)
    refine WL.op rfl (d_move rfl ?_)
    refine WL.done (X.then_code ?_)
    refine W.block ?_
    refine W.pick [18, 17, 16, 5, 4] (Γ' := [(18, .int .i64 0), (17, .int .i64 ((cls.length : Nat) : Int)), (16, .slice clsa cls.length clsc), (5, .slice qa q.length qc), (4, .slice none 0 0)]) rfl ?_
    refine W.loop (fun m Γ' w' => ∃ j : Nat, ∃ r : List Int, Γ' = [(18, .int .i64 ((j : Nat) : Int)), (17, .int .i64 ((cls.length : Nat) : Int)), (16, .slice clsa cls.length clsc), (5, .slice qa q.length qc), (4, .slice none 0 0)] ∧ UpG w [] w' [[rowT (tyI .i64) (.slice qa q.length qc) 3 r]] ∧ (j ≤ cls.length) ∧ (FsI cls (min width 259).toNat r j) ∧ m = cls.length - j) (cls.length - 0) ⟨0, q, rfl, H2, (by first | assumption | omega | simp), (by rw [hq, show k = (min width 259).toNat by omega]; exact FsI.start cls _), rfl⟩ ?_
    rintro m2 Γ2 w4 ⟨j, r, rfl, H5, hj, hr, rfl⟩
    have hrl := hr.len
    refine W.seq ?_
    refine W.region ?_
    refine WL.op rfl (d_cmp (decide (((j : Nat) : Int) < ((cls.length : Nat) : Int))) rfl rfl rfl ?_)
    refine WL.done (X.then_code ?_)
    refine W.seq ?_
    refine W.ite (p := ((j : Nat) : Int) < ((cls.length : Nat) : Int)) rfl (fun c62 => ?_) (fun c62 => ?_)
    · skip
      refine W.skip (X.then_code ?_)
      refine W.seq ?_
      refine W.block ?_
      refine W.seq ?_
      refine W.region ?_
      refine WL.op rfl (d_move rfl ?_)
      refine WL.op rfl (t_addr1 j (T := (tyI .i64)) rfl Try.underlying22 sz3 rfl rfl (rcls.at H5) rfl (by omega) ?_)
      refine WL.op rfl (t_load1 j 0 (T := (tyI .i64)) rfl Try.underlying3 rfl rfl (rcls.at H5) (by omega) rfl ?_)
      refine WL.op rfl (d_assign rfl ?_)
      refine WL.op rfl (d_assign rfl ?_)
      refine WL.done (X.then_code ?_)
      refine W.seq ?_
      refine W.region ?_
      refine WL.op rfl (d_move rfl ?_)
      refine WL.op rfl (d_cmp (decide ((cls.getD j 0) ≥ (0 : Int))) rfl rfl rfl ?_)
      refine WL.op rfl (d_move rfl ?_)
      refine WL.part 25 (p := (cls.getD j 0) ≥ (0 : Int)) rfl (fun g63 => ?_) (fun g63 => ?_)
      · skip
        refine WL.opG rfl rfl rfl (d_move rfl ?_)
        refine WL.opG rfl rfl rfl (d_move rfl ?_)
        refine WL.opG rfl rfl rfl (d_lenS Try.underlying22 rfl ?_)
        refine WL.opG rfl rfl rfl (d_cmp (decide ((cls.getD j 0) < ((q.length : Nat) : Int))) rfl rfl rfl ?_)
        refine WL.op rfl (d_pick rfl rfl ?_)
        refine WL.op rfl (d_move rfl ?_)
        refine WL.part 31 (p := (cls.getD j 0) < ((q.length : Nat) : Int)) rfl (fun g63x => ?_) (fun g63x => ?_)
        · skip
          refine WL.opG rfl rfl rfl (d_move rfl ?_)
          refine WL.opG rfl rfl rfl (d_move rfl ?_)
          refine WL.opG rfl rfl rfl (t_addr1 ((cls.getD j 0).toNat) (T := (tyI .i64)) rfl Try.underlying22 sz3 rfl rfl (H5.rdT 0 rfl) (by omega) (by omega) ?_)
          refine WL.opG rfl rfl rfl (t_load1 ((cls.getD j 0).toNat) 0 (T := (tyI .i64)) rfl Try.underlying3 rfl rfl (H5.rdT 0 rfl) (by omega) rfl ?_)
          refine WL.opG rfl rfl rfl (d_cmp (decide ((r.getD ((cls.getD j 0).toNat) 0) < (0 : Int))) rfl rfl rfl ?_)
          refine WL.op rfl (d_pick rfl rfl ?_)
          refine WL.done (X.then_code ?_)
          refine W.ite (p := (r.getD ((cls.getD j 0).toNat) 0) < (0 : Int)) rfl (fun c63 => ?_) (fun c63 => ?_)
          · skip
            refine W.region ?_
            refine WL.op rfl (d_move rfl ?_)
            refine WL.op rfl (d_move rfl ?_)
            refine WL.op rfl (d_move rfl ?_)
            refine WL.op rfl (t_addr1 ((cls.getD j 0).toNat) (T := (tyI .i64)) rfl Try.underlying22 sz3 rfl rfl (H5.rdT 0 rfl) (by omega) (by omega) ?_)
            refine WL.op0 (t_store1 ((cls.getD j 0).toNat) ((j : Nat) : Int) (T := (tyI .i64)) (e := 3) rfl sz3 rfl rfl rfl (H5.ownT 0 rfl) (by omega) fun w5 u3 => ?_)
            have H6 : UpG w [] w5 [[rowT (tyI .i64) (.slice qa q.length qc) 3 (r.set ((cls.getD j 0).toNat) ((j : Nat) : Int))]] := H5.on 0 rfl u3
            refine WL.done (X.block_normal (X.then_code ?_))
            refine W.region ?_
            refine WL.op rfl (d_add rfl rfl (by omega) (by omega) ?_)
            refine WL.op rfl (d_move rfl ?_)
            refine WL.done ?_
            exact X.next [18, 17, 16, 5, 4] (Γ' := [(18, .int .i64 (((j + 1) : Nat) : Int)), (17, .int .i64 ((cls.length : Nat) : Int)), (16, .slice clsa cls.length clsc), (5, .slice qa q.length qc), (4, .slice none 0 0)]) rfl (cls.length - (j + 1)) (by omega) ⟨j + 1, r.set ((cls.getD j 0).toNat) ((j : Nat) : Int), rfl, H6, (by first | assumption | omega | simp), (by first | exact hr.put (by omega) (by omega) (by omega) (by omega) | exact hr.skip (by omega) (by omega)), rfl⟩
          · skip
            refine W.skip (X.block_normal (X.then_code ?_))
            refine W.region ?_
            refine WL.op rfl (d_add rfl rfl (by omega) (by omega) ?_)
            refine WL.op rfl (d_move rfl ?_)
            refine WL.done ?_
            exact X.next [18, 17, 16, 5, 4] (Γ' := [(18, .int .i64 (((j + 1) : Nat) : Int)), (17, .int .i64 ((cls.length : Nat) : Int)), (16, .slice clsa cls.length clsc), (5, .slice qa q.length qc), (4, .slice none 0 0)]) rfl (cls.length - (j + 1)) (by omega) ⟨j + 1, r, rfl, H5, (by first | assumption | omega | simp), (by first | exact hr.put (by omega) (by omega) (by omega) (by omega) | exact hr.skip (by omega) (by omega)), rfl⟩
        · skip
          refine WL.opN rfl rfl rfl rfl ?_
          refine WL.opN rfl rfl rfl rfl ?_
          refine WL.opN rfl rfl rfl rfl ?_
          refine WL.opN rfl rfl rfl rfl ?_
          refine WL.opN rfl rfl rfl rfl ?_
          refine WL.op rfl (d_pick rfl rfl ?_)
          refine WL.done (X.then_code ?_)
          refine W.iff rfl ?_
          refine W.skip (X.block_normal (X.then_code ?_))
          refine W.region ?_
          refine WL.op rfl (d_add rfl rfl (by omega) (by omega) ?_)
          refine WL.op rfl (d_move rfl ?_)
          refine WL.done ?_
          exact X.next [18, 17, 16, 5, 4] (Γ' := [(18, .int .i64 (((j + 1) : Nat) : Int)), (17, .int .i64 ((cls.length : Nat) : Int)), (16, .slice clsa cls.length clsc), (5, .slice qa q.length qc), (4, .slice none 0 0)]) rfl (cls.length - (j + 1)) (by omega) ⟨j + 1, r, rfl, H5, (by first | assumption | omega | simp), (by first | exact hr.put (by omega) (by omega) (by omega) (by omega) | exact hr.skip (by omega) (by omega)), rfl⟩
      · skip
        refine WL.opN rfl rfl rfl rfl ?_
        refine WL.opN rfl rfl rfl rfl ?_
        refine WL.opN rfl rfl rfl rfl ?_
        refine WL.opN rfl rfl rfl rfl ?_
        refine WL.op rfl (d_pick rfl rfl ?_)
        refine WL.op rfl (d_move rfl ?_)
        refine WL.opN rfl rfl rfl rfl ?_
        refine WL.opN rfl rfl rfl rfl ?_
        refine WL.opN rfl rfl rfl rfl ?_
        refine WL.opN rfl rfl rfl rfl ?_
        refine WL.opN rfl rfl rfl rfl ?_
        refine WL.op rfl (d_pick rfl rfl ?_)
        refine WL.done (X.then_code ?_)
        refine W.iff rfl ?_
        refine W.skip (X.block_normal (X.then_code ?_))
        refine W.region ?_
        refine WL.op rfl (d_add rfl rfl (by omega) (by omega) ?_)
        refine WL.op rfl (d_move rfl ?_)
        refine WL.done ?_
        exact X.next [18, 17, 16, 5, 4] (Γ' := [(18, .int .i64 (((j + 1) : Nat) : Int)), (17, .int .i64 ((cls.length : Nat) : Int)), (16, .slice clsa cls.length clsc), (5, .slice qa q.length qc), (4, .slice none 0 0)]) rfl (cls.length - (j + 1)) (by omega) ⟨j + 1, r, rfl, H5, (by first | assumption | omega | simp), (by first | exact hr.put (by omega) (by omega) (by omega) (by omega) | exact hr.skip (by omega) (by omega)), rfl⟩
    · skip
      refine W.exit (X.then_exit (X.then_exit (X.block_exit (X.then_code ?_))))
      refine W.seq ?_
      refine W.region ?_
      refine WL.op rfl (d_move rfl ?_)
      refine WL.op rfl (d_assign rfl ?_)
      refine WL.done (X.then_code ?_)
      refine W.ret (X.ret1 rfl rfl ?_)
      have hf := hr.fin (by omega)
      rw [hf]
      exact ⟨qa, qc, (by rw [show r.length = q.length by omega]), (by have h9 := H5.one 0 rfl; rw [show q.length = r.length by omega] at h9; exact h9)⟩

set_option maxRecDepth 20000 in
theorem join_any (xsa : Option Addr) (xs : List Int) (xsc : Nat) (ysa : Option Addr) (ys : List Int) (ysc : Nat) (w : World) (rxs : RdT (tyI .i64) w (.slice xsa xs.length xsc) xs) (rys : RdT (tyI .i64) w (.slice ysa ys.length ysc) ys) (hl : xs.length ≤ 1000000) :
    Calls Try.prog 77 #[.slice xsa xs.length xsc, .slice ysa ys.length ysc] w (Ret fun v w' => ∃ a2 : Option Addr, ∃ c2 : Nat, v = .tuple #[.slice a2 ((joinL xs ys).length) c2, .int .i64 (joinN xs ys)] ∧ Upd w [] w' [rowT (tyI .i64) (.slice a2 ((joinL xs ys).length) c2) 3 (joinL xs ys)]) := by
  have le_rxs := rxs.le
  have le_rys := rys.le
  refine calls_of_W (args := [.slice xsa xs.length xsc, .slice ysa ys.length ysc]) Try.func77 rfl rfl rfl ?_
  have H0 : UpG w [] w [] := UpG.nil w
  show W _ _ _ _ [(0, .slice xsa xs.length xsc), (1, .slice ysa ys.length ysc)] w
  refine W.seq ?_
  refine W.region ?_
  refine WL.op rfl (d_assign rfl ?_)
  refine WL.op rfl (d_assign rfl ?_)
  refine WL.done (X.then_code ?_)
  refine W.seq ?_
  refine W.seq ?_
  refine W.region ?_
  refine WL.op rfl (d_move rfl ?_)
  refine WL.op rfl (d_lenS Try.underlying22 rfl ?_)
  refine WL.op rfl (d_move rfl ?_)
  refine WL.op rfl (d_lenS Try.underlying22 rfl ?_)
  refine WL.op rfl (d_cmp (decide (((xs.length : Nat) : Int) ≠ ((ys.length : Nat) : Int))) rfl rfl rfl ?_)
  refine WL.done (X.then_code ?_)
  refine W.ite (p := ((xs.length : Nat) : Int) ≠ ((ys.length : Nat) : Int)) rfl (fun c15 => ?_) (fun c15 => ?_)
  · skip
    refine W.seq ?_
    refine W.region ?_
    refine WL.op rfl (d_assign rfl ?_)
    refine WL.op rfl (d_assign rfl ?_)
    refine WL.done (X.then_code ?_)
    refine W.ret (X.then_ret (X.ret2 rfl rfl rfl ?_))
    have e1 : joinL xs ys = [] := by rw [joinL, if_neg (by omega)]
    have e2 : joinN xs ys = 0 := by rw [joinN, if_neg (by omega)]
    rw [e1, e2]
    exact ⟨none, 0, (by rfl), nilOwn H0⟩
  · skip
    refine W.skip (X.then_code ?_)
    refine W.seq ?_
    refine W.region ?_
    refine WL.op rfl (d_makeMap encP (fun a : Int => .int .i64 a) fun w1 u1 => ?_)
    have H1 : UpG w [] w1 [[mapC encP (fun a : Int => .int .i64 a) w.heap.size ([] : List ((Int × Int) × Int))]] := H0.new' u1
    refine WL.op rfl (d_assign rfl ?_)
    refine WL.done (X.then_code ?_)
    refine W.seq ?_
    refine W.region ?_
    refine WL.op rfl (d_move rfl ?_)
    refine WL.op rfl (d_lenS Try.underlying22 rfl ?_)
    refine WL.op rfl (t_make xs.length (0 : Int) (T := (tyI .i64)) rfl Try.underlying22 sz3 rfl rfl rfl rfl (by omega) (by omega) fun w2 u2 => ?_)
    have H2 : UpG w [] w2 [[mapC encP (fun a : Int => .int .i64 a) w.heap.size ([] : List ((Int × Int) × Int))], [rowT (tyI .i64) (.slice (some ⟨w1.heap.size, 0, none⟩) ((List.replicate xs.length (0 : Int)).length) xs.length) 3 (List.replicate xs.length (0 : Int))]] := H1.new' u2
    refine WL.op rfl (d_assign rfl ?_)
    refine WL.done (X.then_code ?_)
    refine W.seq ?_
    refine W.seq ?_
    refine W.region ?_
    refine WL.op rfl (d_move rfl ?_)
    refine WL.op rfl (d_lenS Try.underlying22 rfl ?_)
    refine WL.op rfl (d_move rfl ?_)
    refine WL.done (X.then_code ?_)
    refine W.block ?_
    refine W.pick [23, 22, 7, 6, 5, 4, 0, 1] (Γ' := [(23, .int .i64 0), (22, .int .i64 ((xs.length : Nat) : Int)), (7, .slice (some ⟨w1.heap.size, 0, none⟩) ((List.replicate xs.length (0 : Int)).length) xs.length), (6, .map (some w.heap.size)), (5, .int .i64 0), (4, .slice none 0 0), (0, .slice xsa xs.length xsc), (1, .slice ysa ys.length ysc)]) rfl ?_
    refine W.loop (fun m Γ' w' => ∃ k : Nat, ∃ q : List Int, ∃ mm : List ((Int × Int) × Int), Γ' = [(23, .int .i64 ((k : Nat) : Int)), (22, .int .i64 ((xs.length : Nat) : Int)), (7, .slice (some ⟨w1.heap.size, 0, none⟩) ((List.replicate xs.length (0 : Int)).length) xs.length), (6, .map (some w.heap.size)), (5, .int .i64 0), (4, .slice none 0 0), (0, .slice xsa xs.length xsc), (1, .slice ysa ys.length ysc)] ∧ UpG w [] w' [[mapC encP (fun a : Int => .int .i64 a) w.heap.size mm], [rowT (tyI .i64) (.slice (some ⟨w1.heap.size, 0, none⟩) ((List.replicate xs.length (0 : Int)).length) xs.length) 3 q]] ∧ (k ≤ xs.length) ∧ (JnI (xs.zip ys) q mm k) ∧ m = xs.length - k) (xs.length - 0) ⟨0, List.replicate xs.length (0 : Int), [], rfl, (H2.re rfl), (by first | assumption | omega | simp), (by rw [show xs.length = (xs.zip ys).length by simp; omega]; exact JnI.start _), rfl⟩ ?_
    rintro m1 Γ1 w3 ⟨k, q, mm, rfl, H3, hk, hq, rfl⟩
    have hql : q.length = xs.length := by rw [hq.len]; simp; omega
    refine W.seq ?_
    refine W.region ?_
    refine WL.op rfl (d_cmp (decide (((k : Nat) : Int) < ((xs.length : Nat) : Int))) rfl rfl rfl ?_)
    refine WL.done (X.then_code ?_)
    refine W.seq ?_
    refine W.ite (p := ((k : Nat) : Int) < ((xs.length : Nat) : Int)) rfl (fun c20 => ?_) (fun c20 => ?_)
    · skip
      refine W.skip (X.then_code ?_)
      refine W.seq ?_
      refine W.block ?_
      refine W.seq ?_
      refine W.region ?_
      refine WL.op rfl (d_move rfl ?_)
      refine WL.op rfl (d_assign rfl ?_)
      refine WL.done (X.then_code ?_)
      refine W.seq ?_
      refine W.regionD mixed (by kernel_rfl) fun hok1 w4 k1 => ?_
      have H4 : UpG w [] w4 [[mapC encP (fun a : Int => .int .i64 a) w.heap.size mm], [rowT (tyI .i64) (.slice (some ⟨w1.heap.size, 0, none⟩) ((List.replicate xs.length (0 : Int)).length) xs.length) 3 q]] := H3.kept k1
      refine WD.take hok1 0 (.slice xsa xs.length xsc) (fun _ => True) rfl rfl rfl rfl rfl trivial (.inl ⟨rfl, fun _ _ => d_move rfl ⟨rfl, rfl⟩⟩) ?_
      refine WD.take hok1 1 (.int .i64 ((k : Nat) : Int)) (fun _ => True) rfl rfl rfl rfl rfl trivial (.inl ⟨rfl, fun _ _ => d_move rfl ⟨rfl, rfl⟩⟩) ?_
      refine WD.take hok1 2 (elemPtr (.slice xsa xs.length xsc) k) (fun w' => RdT (tyI .i64) w' (.slice xsa xs.length xsc) xs) rfl rfl rfl rfl rfl (rxs.at H4) (.inl ⟨rfl, fun _ hC => t_addr1 k (T := (tyI .i64)) rfl Try.underlying22 sz3 rfl rfl hC rfl (by omega) ⟨rfl, rfl⟩⟩) ?_
      refine WD.take hok1 3 (.int .i64 (xs.getD k 0)) (fun w' => RdT (tyI .i64) w' (.slice xsa xs.length xsc) xs) rfl rfl rfl rfl rfl (rxs.at H4) (.inl ⟨rfl, fun _ hC => t_load1 k 0 (T := (tyI .i64)) rfl Try.underlying3 rfl rfl hC (by omega) rfl ⟨rfl, rfl⟩⟩) ?_
      refine WD.take hok1 4 (.slice ysa ys.length ysc) (fun _ => True) rfl rfl rfl rfl rfl trivial (.inl ⟨rfl, fun _ _ => d_move rfl ⟨rfl, rfl⟩⟩) ?_
      refine WD.take hok1 5 (.int .i64 ((k : Nat) : Int)) (fun _ => True) rfl rfl rfl rfl rfl trivial (.inl ⟨rfl, fun _ _ => d_move rfl ⟨rfl, rfl⟩⟩) ?_
      refine WD.take hok1 6 (elemPtr (.slice ysa ys.length ysc) k) (fun w' => RdT (tyI .i64) w' (.slice ysa ys.length ysc) ys) rfl rfl rfl rfl rfl (rys.at H4) (.inl ⟨rfl, fun _ hC => t_addr1 k (T := (tyI .i64)) rfl Try.underlying22 sz3 rfl rfl hC rfl (by omega) ⟨rfl, rfl⟩⟩) ?_
      refine WD.take hok1 7 (.int .i64 (ys.getD k 0)) (fun w' => RdT (tyI .i64) w' (.slice ysa ys.length ysc) ys) rfl rfl rfl rfl rfl (rys.at H4) (.inl ⟨rfl, fun _ hC => t_load1 k 0 (T := (tyI .i64)) rfl Try.underlying3 rfl rfl hC (by omega) rfl ⟨rfl, rfl⟩⟩) ?_
      refine WD.take hok1 8 (.agg #[.int .i64 (xs.getD k 0), .int .i64 (ys.getD k 0)]) (fun _ => True) rfl rfl rfl rfl rfl trivial (.inl ⟨rfl, fun _ _ => d_build (cs := #[.int .i64 (xs.getD k 0), .int .i64 (ys.getD k 0)]) rfl (by kernel_rfl) ⟨rfl, rfl⟩⟩) ?_
      refine WD.loud hok1 9 rfl (⟨_, [⟨8, .agg #[.int .i64 (xs.getD k 0), .int .i64 (ys.getD k 0)], (fun _ => True)⟩, ⟨7, .int .i64 (ys.getD k 0), (fun w' => RdT (tyI .i64) w' (.slice ysa ys.length ysc) ys)⟩, ⟨6, elemPtr (.slice ysa ys.length ysc) k, (fun w' => RdT (tyI .i64) w' (.slice ysa ys.length ysc) ys)⟩, ⟨5, .int .i64 ((k : Nat) : Int), (fun _ => True)⟩, ⟨4, .slice ysa ys.length ysc, (fun _ => True)⟩, ⟨3, .int .i64 (xs.getD k 0), (fun w' => RdT (tyI .i64) w' (.slice xsa xs.length xsc) xs)⟩, ⟨2, elemPtr (.slice xsa xs.length xsc) k, (fun w' => RdT (tyI .i64) w' (.slice xsa xs.length xsc) xs)⟩, ⟨1, .int .i64 ((k : Nat) : Int), (fun _ => True)⟩, ⟨0, .slice xsa xs.length xsc, (fun _ => True)⟩], rfl, rfl, rfl, rfl, rfl, rfl, d_alloc sz130 fun w5 u3 => ?_⟩)
      have H5 : UpG w [] w5 [[mapC encP (fun a : Int => .int .i64 a) w.heap.size mm], [rowT (tyI .i64) (.slice (some ⟨w1.heap.size, 0, none⟩) ((List.replicate xs.length (0 : Int)).length) xs.length) 3 q], [blk w4.heap.size #[.int .i64 0, .int .i64 0] 130]] := H4.new' u3
      refine ⟨⟨trivial, (rys.at H5), (rys.at H5), trivial, trivial, (rxs.at H5), (rxs.at H5), trivial, trivial, trivial⟩, ?_⟩
      refine WD.loud hok1 10 rfl (⟨_, [], rfl, rfl, rfl, rfl, rfl, rfl, d_storeAB (us := [.int .i64 (xs.getD k 0), .int .i64 (ys.getD k 0)]) (cs' := #[.int .i64 (xs.getD k 0), .int .i64 (ys.getD k 0)]) sz130 rfl rfl rfl rfl (H5.blk 2 rfl) rfl rfl fun w6 u4 => ?_⟩)
      have H6 : UpG w [] w6 [[mapC encP (fun a : Int => .int .i64 a) w.heap.size mm], [rowT (tyI .i64) (.slice (some ⟨w1.heap.size, 0, none⟩) ((List.replicate xs.length (0 : Int)).length) xs.length) 3 q], [blk w4.heap.size #[.int .i64 (xs.getD k 0), .int .i64 (ys.getD k 0)] 130]] := H5.on 2 rfl u4
      refine ⟨trivial, ?_⟩
      refine WD.done hok1 rfl (X.then_code ?_)
      refine W.seq ?_
      refine W.region ?_
      refine WL.op rfl (d_move rfl ?_)
      refine WL.op rfl (d_loadAB [.int .i64 (xs.getD k 0), .int .i64 (ys.getD k 0)] Try.underlying130 rfl sz130 rfl (H6.blk 2 rfl) rfl rfl ?_)
      refine WL.op rfl (d_look2 (ek := encP) (evl := (fun a : Int => .int .i64 a)) (xs.getD k 0, ys.getD k 0) 0 key130 Try.underlying128 sz3 rfl rfl (H6.mapAt 0 rfl) ?_)
      refine WL.op rfl (d_move rfl ?_)
      refine WL.op rfl (d_extract rfl rfl ?_)
      refine WL.op rfl (d_extract rfl rfl ?_)
      refine WL.op rfl (d_assign rfl ?_)
      refine WL.op rfl (d_assign rfl ?_)
      refine WL.done (X.then_code ?_)
      refine W.seq ?_
      refine W.seq ?_
      refine W.region ?_
      refine WL.op rfl (d_move rfl ?_)
      refine WL.op rfl (d_notB rfl ?_)
      refine WL.done (X.then_code ?_)
      refine W.pick [42, 10, 9, 8, 23, 22, 7, 6, 5, 4, 0, 1] (Γ' := [(42, .bool (!((getM mm (xs.getD k 0, ys.getD k 0)).isSome))), (10, .int .i64 ((getM mm (xs.getD k 0, ys.getD k 0)).getD 0)), (9, .pointer (some ⟨w4.heap.size, 0, none⟩)), (8, .int .i64 ((k : Nat) : Int)), (23, .int .i64 ((k : Nat) : Int)), (22, .int .i64 ((xs.length : Nat) : Int)), (7, .slice (some ⟨w1.heap.size, 0, none⟩) ((List.replicate xs.length (0 : Int)).length) xs.length), (6, .map (some w.heap.size)), (5, .int .i64 0), (4, .slice none 0 0), (0, .slice xsa xs.length xsc), (1, .slice ysa ys.length ysc)]) rfl ?_
      refine W.iteB (b := !((getM mm (xs.getD k 0, ys.getD k 0)).isSome)) rfl (fun c23 => ?_) (fun c23 => ?_)
      · skip
        refine W.seq ?_
        refine W.region ?_
        refine WL.op rfl (d_move rfl ?_)
        refine WL.op rfl (d_lenM (ek := encP) (evl := (fun a : Int => .int .i64 a)) Try.underlying128 rfl (H6.mapAt 0 rfl) ?_)
        refine WL.op rfl (d_assign rfl ?_)
        refine WL.done (X.then_code ?_)
        refine W.region ?_
        refine WL.op rfl (d_move rfl ?_)
        refine WL.op rfl (d_loadAB [.int .i64 (xs.getD k 0), .int .i64 (ys.getD k 0)] Try.underlying130 rfl sz130 rfl (H6.blk 2 rfl) rfl rfl ?_)
        refine WL.op rfl (d_move rfl ?_)
        refine WL.op0 (d_mapUpdate (ek := encP) (evl := (fun a : Int => .int .i64 a)) (xs.getD k 0, ys.getD k 0) ((mm.length : Nat) : Int) key130 Try.underlying128 rfl rfl rfl (H6.hpOf 0 rfl) fun w7 u5 => ?_)
        have H7 : UpG w [] w7 [[mapC encP (fun a : Int => .int .i64 a) w.heap.size (putM mm (xs.getD k 0, ys.getD k 0) ((mm.length : Nat) : Int))], [rowT (tyI .i64) (.slice (some ⟨w1.heap.size, 0, none⟩) ((List.replicate xs.length (0 : Int)).length) xs.length) 3 q], [blk w4.heap.size #[.int .i64 (xs.getD k 0), .int .i64 (ys.getD k 0)] 130]] := H6.on 0 rfl u5
        refine WL.done (X.then_code ?_)
        refine W.region ?_
        refine WL.op rfl (d_move rfl ?_)
        refine WL.op rfl (d_move rfl ?_)
        refine WL.op rfl (d_move rfl ?_)
        refine WL.op rfl (t_addr1 k (T := (tyI .i64)) rfl Try.underlying22 sz3 rfl rfl (H7.rdT 1 rfl) rfl (by omega) ?_)
        refine WL.op0 (t_store1 k ((mm.length : Nat) : Int) (T := (tyI .i64)) (e := 3) rfl sz3 rfl rfl rfl (H7.ownT 1 rfl) (by omega) fun w8 u6 => ?_)
        have H8 : UpG w [] w8 [[mapC encP (fun a : Int => .int .i64 a) w.heap.size (putM mm (xs.getD k 0, ys.getD k 0) ((mm.length : Nat) : Int))], [rowT (tyI .i64) (.slice (some ⟨w1.heap.size, 0, none⟩) ((List.replicate xs.length (0 : Int)).length) xs.length) 3 (q.set k ((mm.length : Nat) : Int))], [blk w4.heap.size #[.int .i64 (xs.getD k 0), .int .i64 (ys.getD k 0)] 130]] := H7.on 1 rfl u6
        refine WL.done (X.block_normal (X.then_code ?_))
        refine W.region ?_
        refine WL.op rfl (d_add rfl rfl (by omega) (by omega) ?_)
        refine WL.op rfl (d_move rfl ?_)
        refine WL.done ?_
        exact X.next [23, 22, 7, 6, 5, 4, 0, 1] (Γ' := [(23, .int .i64 (((k + 1) : Nat) : Int)), (22, .int .i64 ((xs.length : Nat) : Int)), (7, .slice (some ⟨w1.heap.size, 0, none⟩) ((List.replicate xs.length (0 : Int)).length) xs.length), (6, .map (some w.heap.size)), (5, .int .i64 0), (4, .slice none 0 0), (0, .slice xsa xs.length xsc), (1, .slice ysa ys.length ysc)]) rfl (xs.length - (k + 1)) (by omega) ⟨k + 1, q.set k ((mm.length : Nat) : Int), putM mm (xs.getD k 0, ys.getD k 0) ((mm.length : Nat) : Int), rfl, (UpG.of (G := [[mapC encP (fun a : Int => .int .i64 a) w.heap.size (putM mm (xs.getD k 0, ys.getD k 0) ((mm.length : Nat) : Int))], [rowT (tyI .i64) (.slice (some ⟨w1.heap.size, 0, none⟩) ((List.replicate xs.length (0 : Int)).length) xs.length) 3 (q.set k ((mm.length : Nat) : Int))]]) (Upd.sel H8 (M := [mapC encP (fun a : Int => .int .i64 a) w.heap.size (putM mm (xs.getD k 0, ys.getD k 0) ((mm.length : Nat) : Int)), rowT (tyI .i64) (.slice (some ⟨w1.heap.size, 0, none⟩) ((List.replicate xs.length (0 : Int)).length) xs.length) 3 (q.set k ((mm.length : Nat) : Int))]) (l := [0, 1]) rfl rfl) rfl), (by first | assumption | omega | simp), (by first | exact hq.old (by simp; omega) (zip_getD (by omega) (by omega)) (bn_t c23) | exact hq.new (by simp; omega) (zip_getD (by omega) (by omega)) (bn_f c23)), rfl⟩
      · skip
        refine W.skip (X.then_code ?_)
        refine W.region ?_
        refine WL.op rfl (d_move rfl ?_)
        refine WL.op rfl (d_move rfl ?_)
        refine WL.op rfl (d_move rfl ?_)
        refine WL.op rfl (t_addr1 k (T := (tyI .i64)) rfl Try.underlying22 sz3 rfl rfl (H6.rdT 1 rfl) rfl (by omega) ?_)
        refine WL.op0 (t_store1 k ((getM mm (xs.getD k 0, ys.getD k 0)).getD 0) (T := (tyI .i64)) (e := 3) rfl sz3 rfl rfl rfl (H6.ownT 1 rfl) (by omega) fun w9 u7 => ?_)
        have H9 : UpG w [] w9 [[mapC encP (fun a : Int => .int .i64 a) w.heap.size mm], [rowT (tyI .i64) (.slice (some ⟨w1.heap.size, 0, none⟩) ((List.replicate xs.length (0 : Int)).length) xs.length) 3 (q.set k ((getM mm (xs.getD k 0, ys.getD k 0)).getD 0))], [blk w4.heap.size #[.int .i64 (xs.getD k 0), .int .i64 (ys.getD k 0)] 130]] := H6.on 1 rfl u7
        refine WL.done (X.block_normal (X.then_code ?_))
        refine W.region ?_
        refine WL.op rfl (d_add rfl rfl (by omega) (by omega) ?_)
        refine WL.op rfl (d_move rfl ?_)
        refine WL.done ?_
        exact X.next [23, 22, 7, 6, 5, 4, 0, 1] (Γ' := [(23, .int .i64 (((k + 1) : Nat) : Int)), (22, .int .i64 ((xs.length : Nat) : Int)), (7, .slice (some ⟨w1.heap.size, 0, none⟩) ((List.replicate xs.length (0 : Int)).length) xs.length), (6, .map (some w.heap.size)), (5, .int .i64 0), (4, .slice none 0 0), (0, .slice xsa xs.length xsc), (1, .slice ysa ys.length ysc)]) rfl (xs.length - (k + 1)) (by omega) ⟨k + 1, q.set k ((getM mm (xs.getD k 0, ys.getD k 0)).getD 0), mm, rfl, (UpG.of (G := [[mapC encP (fun a : Int => .int .i64 a) w.heap.size mm], [rowT (tyI .i64) (.slice (some ⟨w1.heap.size, 0, none⟩) ((List.replicate xs.length (0 : Int)).length) xs.length) 3 (q.set k ((getM mm (xs.getD k 0, ys.getD k 0)).getD 0))]]) (Upd.sel H9 (M := [mapC encP (fun a : Int => .int .i64 a) w.heap.size mm, rowT (tyI .i64) (.slice (some ⟨w1.heap.size, 0, none⟩) ((List.replicate xs.length (0 : Int)).length) xs.length) 3 (q.set k ((getM mm (xs.getD k 0, ys.getD k 0)).getD 0))]) (l := [0, 1]) rfl rfl) rfl), (by first | assumption | omega | simp), (by first | exact hq.old (by simp; omega) (zip_getD (by omega) (by omega)) (bn_t c23) | exact hq.new (by simp; omega) (zip_getD (by omega) (by omega)) (bn_f c23)), rfl⟩
    · skip
      refine W.exit (X.then_exit (X.then_exit (X.block_exit (X.then_code ?_))))
      refine W.seq ?_
      refine W.region ?_
      refine WL.op rfl (d_move rfl ?_)
      refine WL.op rfl (d_move rfl ?_)
      refine WL.op rfl (d_lenM (ek := encP) (evl := (fun a : Int => .int .i64 a)) Try.underlying128 rfl (H3.mapAt 0 rfl) ?_)
      refine WL.op rfl (d_assign rfl ?_)
      refine WL.op rfl (d_assign rfl ?_)
      refine WL.done (X.then_code ?_)
      refine W.ret (X.ret2 rfl rfl rfl ?_)
      obtain ⟨e1, e2⟩ := hq.fin (by omega) (by omega)
      rw [e1, e2]
      exact ⟨(some ⟨w1.heap.size, 0, none⟩), xs.length, (by rw [show q.length = (List.replicate xs.length (0 : Int)).length by simp; omega]), (by have h9 := H3.one 1 rfl; rw [show (List.replicate xs.length (0 : Int)).length = q.length by simp; omega] at h9; exact h9)⟩
end Go.Proofs.Ytoeockpkkmgieaa


/- The walks of functions, printed by wip/tools/gw.py. -/
namespace Go.Proofs.Ytoeockpkkmgieaa
open Go Go.Sx
set_option linter.unusedVariables false
set_option linter.unusedSimpArgs false
set_option maxRecDepth 20000 in
theorem in_any (sym : Int) (w : World) :
    Calls Try.prog 62 #[.int .i64 sym] w (Ret fun v w' => v = .bool (decide (0 ≤ sym ∧ sym < 259)) ∧ Upd w [] w' []) := by
  refine calls_of_W (args := [.int .i64 sym]) Try.func62 rfl rfl rfl ?_
  have H0 : UpG w [] w [] := UpG.nil w
  show W _ _ _ _ [(0, .int .i64 sym)] w
  refine W.seq ?_
  refine W.region ?_
  refine WL.op rfl (d_assign rfl ?_)
  refine WL.done (X.then_code ?_)
  refine W.seq ?_
  refine W.region ?_
  refine WL.op rfl (d_move rfl ?_)
  refine WL.op rfl (d_cmp (decide (sym ≥ (0 : Int))) rfl rfl rfl ?_)
  refine WL.op rfl (d_move rfl ?_)
  refine WL.part 5 (p := sym ≥ (0 : Int)) rfl (fun g31 => ?_) (fun g31 => ?_)
  · skip
    refine WL.opG rfl rfl rfl (d_move rfl ?_)
    refine WL.opG rfl rfl rfl (d_cmp (decide (sym < (259 : Int))) rfl rfl rfl ?_)
    refine WL.op rfl (d_pick rfl rfl ?_)
    refine WL.op rfl (d_assign rfl ?_)
    refine WL.done (X.then_code ?_)
    refine W.ret (X.ret1 rfl rfl ?_)
    exact ⟨(by simp; omega), H0.noneL⟩
  · skip
    refine WL.opN rfl rfl rfl rfl ?_
    refine WL.opN rfl rfl rfl rfl ?_
    refine WL.op rfl (d_pick rfl rfl ?_)
    refine WL.op rfl (d_assign rfl ?_)
    refine WL.done (X.then_code ?_)
    refine W.ret (X.ret1 rfl rfl ?_)
    exact ⟨(by simp; omega), H0.noneL⟩

set_option maxRecDepth 20000 in
theorem within1_any (x : Int) (g : Nat) (n : Int) (w : World) (bg : w.heap[g]? = some (.cells #[.int .i64 n] 3 (0, 0))) :
    Calls Try.prog 93 #[.int .i64 x, .pointer (some ⟨g, 0, none⟩)] w (Ret fun v w' => v = .bool (decide (x < 0 ∨ n ≤ x)) ∧ Upd w [] w' []) := by
  refine calls_of_W (args := [.int .i64 x, .pointer (some ⟨g, 0, none⟩)]) Try.func93 rfl rfl rfl ?_
  have H0 : UpG w [] w [] := UpG.nil w
  show W _ _ _ _ [(0, .int .i64 x), (1, .pointer (some ⟨g, 0, none⟩))] w
  refine W.seq ?_
  refine W.region ?_
  refine WL.op rfl (d_assign rfl ?_)
  refine WL.done (X.then_code ?_)
  refine W.seq ?_
  refine W.region ?_
  refine WL.op rfl (d_move rfl ?_)
  refine WL.op rfl (d_cmp (decide (x < (0 : Int))) rfl rfl rfl ?_)
  refine WL.op rfl (d_move rfl ?_)
  refine WL.part 6 (p := x < (0 : Int)) rfl (fun g15 => ?_) (fun g15 => ?_)
  · skip
    refine WL.opN rfl rfl rfl rfl ?_
    refine WL.opN rfl rfl rfl rfl ?_
    refine WL.opN rfl rfl rfl rfl ?_
    refine WL.op rfl (d_pick rfl rfl ?_)
    refine WL.op rfl (d_assign rfl ?_)
    refine WL.done (X.then_code ?_)
    refine W.ret (X.ret1 rfl rfl ?_)
    exact ⟨(by simp; omega), H0.noneL⟩
  · skip
    refine WL.opG rfl rfl rfl (d_move rfl ?_)
    refine WL.opG rfl rfl rfl (d_loadB Try.underlying3 rfl rfl (H0.keep0.obj bg (by simp)) rfl ?_)
    refine WL.opG rfl rfl rfl (d_cmp (decide (x ≥ n)) rfl rfl rfl ?_)
    refine WL.op rfl (d_pick rfl rfl ?_)
    refine WL.op rfl (d_assign rfl ?_)
    refine WL.done (X.then_code ?_)
    refine W.ret (X.ret1 rfl rfl ?_)
    exact ⟨(by simp; omega), H0.noneL⟩

set_option maxRecDepth 20000 in
theorem indexFunc_any (sa : Option Addr) (s : List Int) (sc : Nat) (f : FuncId) (fc : List Value) (p : Int → Bool) (w : World) (rs : RdT (tyI .i64) w (.slice sa s.length sc) s) (hok : CallOk Try.prog f) (hf : ClosB Try.prog f fc p w) :
    Calls Try.prog 102 #[.slice sa s.length sc, .func (.func f) #[] fc.toArray] w (Ret fun v w' => v = .int .i64 (findI p s) ∧ Upd w [] w' []) := by
  have le_rs := rs.le
  refine calls_of_W (args := [.slice sa s.length sc, .func (.func f) #[] fc.toArray]) Try.func102 rfl rfl rfl ?_
  have H0 : UpG w [] w [] := UpG.nil w
  show W _ _ _ _ [(0, .slice sa s.length sc), (1, .func (.func f) #[] fc.toArray)] w
  refine W.seq ?_
  refine W.region ?_
  refine WL.op rfl (d_assign rfl ?_)
  refine WL.done (X.then_code ?_)
  refine W.seq ?_
  refine W.seq ?_
  refine W.region ?_
  refine WL.op rfl (d_move rfl ?_)
  refine WL.op rfl (d_lenS Try.underlying22 rfl ?_)
  refine WL.op rfl (d_move rfl ?_)
  refine WL.done (X.then_code ?_)
  refine W.block ?_
  refine W.pick [8, 7, 4, 0, 1] (Γ' := [(8, .int .i64 0), (7, .int .i64 ((s.length : Nat) : Int)), (4, .int .i64 0), (0, .slice sa s.length sc), (1, .func (.func f) #[] fc.toArray)]) rfl ?_
  refine W.loop (fun m Γ' w' => ∃ k : Nat, Γ' = [(8, .int .i64 ((k : Nat) : Int)), (7, .int .i64 ((s.length : Nat) : Int)), (4, .int .i64 0), (0, .slice sa s.length sc), (1, .func (.func f) #[] fc.toArray)] ∧ UpG w [] w' [] ∧ (k ≤ s.length) ∧ (findI p s = findFrom p s k) ∧ m = s.length - k) (s.length - 0) ⟨0, rfl, H0, (by first | assumption | omega | simp), (by rfl), rfl⟩ ?_
  rintro m1 Γ1 w1 ⟨k, rfl, H1, hk, hn, rfl⟩
  refine W.seq ?_
  refine W.region ?_
  refine WL.op rfl (d_cmp (decide (((k : Nat) : Int) < ((s.length : Nat) : Int))) rfl rfl rfl ?_)
  refine WL.done (X.then_code ?_)
  refine W.seq ?_
  refine W.ite (p := ((k : Nat) : Int) < ((s.length : Nat) : Int)) rfl (fun c108 => ?_) (fun c108 => ?_)
  · skip
    refine W.skip (X.then_code ?_)
    refine W.seq ?_
    refine W.block ?_
    refine W.seq ?_
    refine W.region ?_
    refine WL.op rfl (d_move rfl ?_)
    refine WL.op rfl (d_assign rfl ?_)
    refine WL.done (X.then_code ?_)
    refine W.seq ?_
    refine W.region ?_
    refine WL.op rfl (d_move rfl ?_)
    refine WL.op rfl (d_move rfl ?_)
    refine WL.op rfl (d_move rfl ?_)
    refine WL.op rfl (t_addr1 k (T := (tyI .i64)) rfl Try.underlying22 sz3 rfl rfl (rs.at H1) rfl (by omega) ?_)
    refine WL.op rfl (t_load1 k 0 (T := (tyI .i64)) rfl Try.underlying3 rfl rfl (rs.at H1) (by omega) rfl ?_)
    refine WL.op rfl (d_callv hok rfl rfl (Ret.calls (hf w1 H1.keep0 (s.getD k 0)) fun _ w2 p1 => ?_))
    obtain ⟨rfl, u1⟩ := p1
    have H2 : UpG w [] w2 [] := H1.call u1
    refine WL.done (X.then_code ?_)
    refine W.iteB (b := p (s.getD k 0)) rfl (fun c109 => ?_) (fun c109 => ?_)
    · skip
      refine W.seq ?_
      refine W.region ?_
      refine WL.op rfl (d_move rfl ?_)
      refine WL.op rfl (d_assign rfl ?_)
      refine WL.done (X.then_code ?_)
      refine W.ret (X.block_ret (X.then_ret (X.then_ret (X.block_ret (X.then_ret (X.ret1 rfl rfl ?_))))))
      have e := findFrom_yes p s k (by omega) (by simpa using c109)
      exact ⟨(by rw [hn, e]), H2.noneL⟩
    · skip
      refine W.skip (X.block_normal (X.then_code ?_))
      refine W.region ?_
      refine WL.op rfl (d_add rfl rfl (by omega) (by omega) ?_)
      refine WL.op rfl (d_move rfl ?_)
      refine WL.done ?_
      exact X.next [8, 7, 4, 0, 1] (Γ' := [(8, .int .i64 (((k + 1) : Nat) : Int)), (7, .int .i64 ((s.length : Nat) : Int)), (4, .int .i64 0), (0, .slice sa s.length sc), (1, .func (.func f) #[] fc.toArray)]) rfl (s.length - (k + 1)) (by omega) ⟨k + 1, rfl, H2, (by first | assumption | omega | simp), (by rw [hn, findFrom_no _ _ _ (by omega) (by simpa using c109)]), rfl⟩
  · skip
    refine W.exit (X.then_exit (X.then_exit (X.block_exit (X.then_code ?_))))
    refine W.seq ?_
    refine W.region ?_
    refine WL.op rfl (d_assign rfl ?_)
    refine WL.done (X.then_code ?_)
    refine W.ret (X.ret1 rfl rfl ?_)
    have e := findFrom_end p s k (by omega)
    exact ⟨(by rw [hn, e]), H1.noneL⟩

set_option maxRecDepth 20000 in
theorem containsFunc_any (sa : Option Addr) (s : List Int) (sc : Nat) (f : FuncId) (fc : List Value) (p : Int → Bool) (w : World) (rs : RdT (tyI .i64) w (.slice sa s.length sc) s) (hok : CallOk Try.prog f) (hf : ClosB Try.prog f fc p w) :
    Calls Try.prog 92 #[.slice sa s.length sc, .func (.func f) #[] fc.toArray] w (Ret fun v w' => v = .bool (s.any p) ∧ Upd w [] w' []) := by
  have le_rs := rs.le
  refine calls_of_W (args := [.slice sa s.length sc, .func (.func f) #[] fc.toArray]) Try.func92 rfl rfl rfl ?_
  have H0 : UpG w [] w [] := UpG.nil w
  show W _ _ _ _ [(0, .slice sa s.length sc), (1, .func (.func f) #[] fc.toArray)] w
  refine W.seq ?_
  refine W.region ?_
  refine WL.op rfl (d_assign rfl ?_)
  refine WL.done (X.then_code ?_)
  refine W.seq ?_
  refine W.region ?_
  refine WL.op rfl (d_move rfl ?_)
  refine WL.op rfl (d_move rfl ?_)
  refine WL.op rfl (d_call ok102 rfl (Ret.calls (indexFunc_any sa s sc f fc p w (rs.at H0) hok (hf.keep H0.keep0)) fun _ w1 p1 => ?_))
  obtain ⟨rfl, u1⟩ := p1
  have H1 : UpG w [] w1 [] := H0.call u1
  refine WL.op rfl (d_cmp (decide ((findI p s) ≥ (0 : Int))) rfl rfl rfl ?_)
  refine WL.op rfl (d_assign rfl ?_)
  refine WL.done (X.then_code ?_)
  refine W.ret (X.ret1 rfl rfl ?_)
  exact ⟨(by rw [← findI_any]), H1.noneL⟩

set_option maxRecDepth 20000 in
theorem within_any (la : Option Addr) (l : List Int) (lc : Nat) (n : Int) (w : World) (rl : RdT (tyI .i64) w (.slice la l.length lc) l) :
    Calls Try.prog 61 #[.slice la l.length lc, .int .i64 n] w (Ret fun v w' => v = .bool (withinB l n) ∧ Upd w [] w' []) := by
  have le_rl := rl.le
  refine calls_of_W (args := [.slice la l.length lc, .int .i64 n]) Try.func61 rfl rfl rfl ?_
  have H0 : UpG w [] w [] := UpG.nil w
  show W _ _ _ _ [(0, .slice la l.length lc), (1, .int .i64 n)] w
  refine W.seq ?_
  refine W.region ?_
  refine WL.op rfl (d_box rfl fun w1 u1 => ?_)
  have H1 : UpG w [] w1 [[blk w.heap.size #[.int .i64 n] 3]] := H0.new' u1
  refine WL.op rfl (d_assign rfl ?_)
  refine WL.done (X.then_code ?_)
  refine W.seq ?_
  refine W.region ?_
  refine WL.op rfl (d_move rfl ?_)
  refine WL.op rfl (d_makeFunc rfl rfl ?_)
  refine WL.op rfl (d_call ok92 rfl (Ret.calls (containsFunc_any la l lc 93 [.pointer (some ⟨w.heap.size, 0, none⟩)] (fun x => decide (x < 0 ∨ n ≤ x)) w1 (rl.at H1) ok93 (fun w' hk x => within1_any x _ n w' (hk.obj (H1.blk 0 rfl) (by simp)))) fun _ w2 p1 => ?_))
  obtain ⟨rfl, u2⟩ := p1
  have H2 : UpG w [] w2 [[blk w.heap.size #[.int .i64 n] 3]] := H1.call u2
  refine WL.op rfl (d_notB rfl ?_)
  refine WL.op rfl (d_assign rfl ?_)
  refine WL.done (X.then_code ?_)
  refine W.ret (X.ret1 rfl rfl ?_)
  exact ⟨(by rw [← within_eq]), H2.noneL⟩

set_option maxRecDepth 20000 in
theorem right_any (d : DfaD) (dca : Option Addr) (dna : Option Addr) (dba : Option Addr) (dcc : Nat) (dnc : Nat) (dbc : Nat) (w : World) (rcd : RdT (tyI .i64) w (.slice dca d.cls.length dcc) d.cls) (rnd : RdT (tyI .i64) w (.slice dna d.next.length dnc) d.next) (rbd : RdT tyB w (.slice dba d.acc.length dbc) d.acc) :
    Calls Try.prog 24 #[.agg #[.slice dca d.cls.length dcc, .int .i64 d.width, .int .i64 d.start, .slice dna d.next.length dnc, .slice dba d.acc.length dbc]] w (Ret fun v w' => v = .bool (rightB d) ∧ Upd w [] w' []) := by
  have le_rcd := rcd.le
  have le_rnd := rnd.le
  have le_rbd := rbd.le
  refine calls_of_W (args := [.agg #[.slice dca d.cls.length dcc, .int .i64 d.width, .int .i64 d.start, .slice dna d.next.length dnc, .slice dba d.acc.length dbc]]) Try.func24 rfl rfl rfl ?_
  have H0 : UpG w [] w [] := UpG.nil w
  show W _ _ _ _ [(0, .agg #[.slice dca d.cls.length dcc, .int .i64 d.width, .int .i64 d.start, .slice dna d.next.length dnc, .slice dba d.acc.length dbc])] w
  refine W.seq ?_
  refine W.region ?_
  refine WL.op rfl (d_box rfl fun w1 u1 => ?_)
  have H1 : UpG w [] w1 [[blk w.heap.size #[.slice dca d.cls.length dcc, .int .i64 d.width, .int .i64 d.start, .slice dna d.next.length dnc, .slice dba d.acc.length dbc] 25]] := H0.new' u1
  refine WL.op rfl (d_assign rfl ?_)
  refine WL.done (X.then_code ?_)
  refine W.seq ?_
  refine W.region ?_
  refine WL.op rfl (d_fieldAddrB fld25_4 rfl rfl ?_)
  refine WL.op rfl (d_loadB Try.underlying23 rfl rfl (H1.blk 0 rfl) rfl ?_)
  refine WL.op rfl (d_lenS Try.underlying23 rfl ?_)
  refine WL.op rfl (d_assign rfl ?_)
  refine WL.done (X.then_code ?_)
  refine W.seq ?_
  refine W.block ?_
  refine W.seq ?_
  refine W.region ?_
  refine WL.op rfl (d_fieldAddrB fld25_0 rfl rfl ?_)
  refine WL.op rfl (d_loadB Try.underlying22 rfl rfl (H1.blk 0 rfl) rfl ?_)
  refine WL.op rfl (d_lenS Try.underlying22 rfl ?_)
  refine WL.op rfl (d_cmp (decide (((d.cls.length : Nat) : Int) ≠ (259 : Int))) rfl rfl rfl ?_)
  refine WL.op rfl (d_move rfl ?_)
  refine WL.part 12 (p := ((d.cls.length : Nat) : Int) ≠ (259 : Int)) rfl (fun g22 => ?_) (fun g22 => ?_)
  · skip
    refine WL.opN rfl rfl rfl rfl ?_
    refine WL.opN rfl rfl rfl rfl ?_
    refine WL.opN rfl rfl rfl rfl ?_
    refine WL.op rfl (d_pick rfl rfl ?_)
    refine WL.op rfl (d_move rfl ?_)
    refine WL.opN rfl rfl rfl rfl ?_
    refine WL.opN rfl rfl rfl rfl ?_
    refine WL.opN rfl rfl rfl rfl ?_
    refine WL.op rfl (d_pick rfl rfl ?_)
    refine WL.op rfl (d_move rfl ?_)
    refine WL.opN rfl rfl rfl rfl ?_
    refine WL.opN rfl rfl rfl rfl ?_
    refine WL.op rfl (d_pick rfl rfl ?_)
    refine WL.op rfl (d_move rfl ?_)
    refine WL.opN rfl rfl rfl rfl ?_
    refine WL.opN rfl rfl rfl rfl ?_
    refine WL.op rfl (d_pick rfl rfl ?_)
    refine WL.op rfl (d_assign rfl ?_)
    refine WL.done (X.then_code ?_)
    refine W.ift rfl ?_
    refine W.seq ?_
    refine W.region ?_
    refine WL.op rfl (d_assign rfl ?_)
    refine WL.done (X.then_code ?_)
    refine W.ret (X.block_ret (X.then_ret (X.ret1 rfl rfl ?_)))
    exact ⟨(by simp [rightB]; omega), H1.noneL⟩
  · skip
    refine WL.opG rfl rfl rfl (d_fieldAddrB fld25_1 rfl rfl ?_)
    refine WL.opG rfl rfl rfl (d_loadB Try.underlying3 rfl rfl (H1.blk 0 rfl) rfl ?_)
    refine WL.opG rfl rfl rfl (d_cmp (decide (d.width < (1 : Int))) rfl rfl rfl ?_)
    refine WL.op rfl (d_pick rfl rfl ?_)
    refine WL.op rfl (d_move rfl ?_)
    refine WL.part 17 (p := d.width < (1 : Int)) rfl (fun g22x => ?_) (fun g22x => ?_)
    · skip
      refine WL.opN rfl rfl rfl rfl ?_
      refine WL.opN rfl rfl rfl rfl ?_
      refine WL.opN rfl rfl rfl rfl ?_
      refine WL.op rfl (d_pick rfl rfl ?_)
      refine WL.op rfl (d_move rfl ?_)
      refine WL.opN rfl rfl rfl rfl ?_
      refine WL.opN rfl rfl rfl rfl ?_
      refine WL.op rfl (d_pick rfl rfl ?_)
      refine WL.op rfl (d_move rfl ?_)
      refine WL.opN rfl rfl rfl rfl ?_
      refine WL.opN rfl rfl rfl rfl ?_
      refine WL.op rfl (d_pick rfl rfl ?_)
      refine WL.op rfl (d_assign rfl ?_)
      refine WL.done (X.then_code ?_)
      refine W.ift rfl ?_
      refine W.seq ?_
      refine W.region ?_
      refine WL.op rfl (d_assign rfl ?_)
      refine WL.done (X.then_code ?_)
      refine W.ret (X.block_ret (X.then_ret (X.ret1 rfl rfl ?_)))
      exact ⟨(by simp [rightB]; omega), H1.noneL⟩
    · skip
      refine WL.opG rfl rfl rfl (d_fieldAddrB fld25_1 rfl rfl ?_)
      refine WL.opG rfl rfl rfl (d_loadB Try.underlying3 rfl rfl (H1.blk 0 rfl) rfl ?_)
      refine WL.opG rfl rfl rfl (d_cmp (decide (d.width > (259 : Int))) rfl rfl rfl ?_)
      refine WL.op rfl (d_pick rfl rfl ?_)
      refine WL.op rfl (d_move rfl ?_)
      refine WL.part 22 (p := d.width > (259 : Int)) rfl (fun g22xx => ?_) (fun g22xx => ?_)
      · skip
        refine WL.opN rfl rfl rfl rfl ?_
        refine WL.opN rfl rfl rfl rfl ?_
        refine WL.op rfl (d_pick rfl rfl ?_)
        refine WL.op rfl (d_move rfl ?_)
        refine WL.opN rfl rfl rfl rfl ?_
        refine WL.opN rfl rfl rfl rfl ?_
        refine WL.op rfl (d_pick rfl rfl ?_)
        refine WL.op rfl (d_assign rfl ?_)
        refine WL.done (X.then_code ?_)
        refine W.ift rfl ?_
        refine W.seq ?_
        refine W.region ?_
        refine WL.op rfl (d_assign rfl ?_)
        refine WL.done (X.then_code ?_)
        refine W.ret (X.block_ret (X.then_ret (X.ret1 rfl rfl ?_)))
        exact ⟨(by simp [rightB]; omega), H1.noneL⟩
      · skip
        refine WL.opG rfl rfl rfl (d_move rfl ?_)
        refine WL.opG rfl rfl rfl (d_cmp (decide (((d.acc.length : Nat) : Int) < (1 : Int))) rfl rfl rfl ?_)
        refine WL.op rfl (d_pick rfl rfl ?_)
        refine WL.op rfl (d_move rfl ?_)
        refine WL.part 26 (p := ((d.acc.length : Nat) : Int) < (1 : Int)) rfl (fun g22xxx => ?_) (fun g22xxx => ?_)
        · skip
          refine WL.opN rfl rfl rfl rfl ?_
          refine WL.opN rfl rfl rfl rfl ?_
          refine WL.op rfl (d_pick rfl rfl ?_)
          refine WL.op rfl (d_assign rfl ?_)
          refine WL.done (X.then_code ?_)
          refine W.ift rfl ?_
          refine W.seq ?_
          refine W.region ?_
          refine WL.op rfl (d_assign rfl ?_)
          refine WL.done (X.then_code ?_)
          refine W.ret (X.block_ret (X.then_ret (X.ret1 rfl rfl ?_)))
          exact ⟨(by simp [rightB]; omega), H1.noneL⟩
        · skip
          refine WL.opG rfl rfl rfl (d_move rfl ?_)
          refine WL.opG rfl rfl rfl (d_cmp (decide (((d.acc.length : Nat) : Int) > (4096 : Int))) rfl rfl rfl ?_)
          refine WL.op rfl (d_pick rfl rfl ?_)
          refine WL.op rfl (d_assign rfl ?_)
          refine WL.done (X.then_code ?_)
          refine W.ite (p := ((d.acc.length : Nat) : Int) > (4096 : Int)) rfl (fun c22 => ?_) (fun c22 => ?_)
          · skip
            refine W.seq ?_
            refine W.region ?_
            refine WL.op rfl (d_assign rfl ?_)
            refine WL.done (X.then_code ?_)
            refine W.ret (X.block_ret (X.then_ret (X.ret1 rfl rfl ?_)))
            exact ⟨(by simp [rightB]; omega), H1.noneL⟩
          · skip
            refine W.seq ?_
            have hb := mul_bd (a := (d.acc.length : Int)) (b := d.width) (A := 4096) (B := 259) (by omega) (by omega) (by omega) (by omega)
            refine W.region ?_
            refine WL.op rfl (d_fieldAddrB fld25_3 rfl rfl ?_)
            refine WL.op rfl (d_loadB Try.underlying22 rfl rfl (H1.blk 0 rfl) rfl ?_)
            refine WL.op rfl (d_lenS Try.underlying22 rfl ?_)
            refine WL.op rfl (d_move rfl ?_)
            refine WL.op rfl (d_fieldAddrB fld25_1 rfl rfl ?_)
            refine WL.op rfl (d_loadB Try.underlying3 rfl rfl (H1.blk 0 rfl) rfl ?_)
            refine WL.op rfl (d_mul rfl rfl (by omega) (by omega) ?_)
            refine WL.op rfl (d_cmp (decide (((d.next.length : Nat) : Int) ≠ (((d.acc.length : Nat) : Int) * d.width))) rfl rfl rfl ?_)
            refine WL.op rfl (d_move rfl ?_)
            refine WL.part 39 (p := ((d.next.length : Nat) : Int) ≠ (((d.acc.length : Nat) : Int) * d.width)) rfl (fun g24 => ?_) (fun g24 => ?_)
            · skip
              refine WL.opN rfl rfl rfl rfl ?_
              refine WL.opN rfl rfl rfl rfl ?_
              refine WL.opN rfl rfl rfl rfl ?_
              refine WL.op rfl (d_pick rfl rfl ?_)
              refine WL.op rfl (d_move rfl ?_)
              refine WL.opN rfl rfl rfl rfl ?_
              refine WL.opN rfl rfl rfl rfl ?_
              refine WL.opN rfl rfl rfl rfl ?_
              refine WL.opN rfl rfl rfl rfl ?_
              refine WL.op rfl (d_pick rfl rfl ?_)
              refine WL.op rfl (d_assign rfl ?_)
              refine WL.done (X.then_code ?_)
              refine W.pick [30, 3, 2, 1] (Γ' := [(30, .bool true), (3, .int .i64 ((d.acc.length : Nat) : Int)), (2, .bool false), (1, .pointer (some ⟨w.heap.size, 0, none⟩))]) rfl ?_
              refine W.ift rfl ?_
              refine W.seq ?_
              refine W.region ?_
              refine WL.op rfl (d_assign rfl ?_)
              refine WL.done (X.then_code ?_)
              refine W.ret (X.block_ret (X.then_ret (X.ret1 rfl rfl ?_)))
              exact ⟨(by simp [rightB]; omega), H1.noneL⟩
            · skip
              refine WL.opG rfl rfl rfl (d_fieldAddrB fld25_2 rfl rfl ?_)
              refine WL.opG rfl rfl rfl (d_loadB Try.underlying3 rfl rfl (H1.blk 0 rfl) rfl ?_)
              refine WL.opG rfl rfl rfl (d_cmp (decide (d.start < (0 : Int))) rfl rfl rfl ?_)
              refine WL.op rfl (d_pick rfl rfl ?_)
              refine WL.op rfl (d_move rfl ?_)
              refine WL.part 44 (p := d.start < (0 : Int)) rfl (fun g24x => ?_) (fun g24x => ?_)
              · skip
                refine WL.opN rfl rfl rfl rfl ?_
                refine WL.opN rfl rfl rfl rfl ?_
                refine WL.opN rfl rfl rfl rfl ?_
                refine WL.opN rfl rfl rfl rfl ?_
                refine WL.op rfl (d_pick rfl rfl ?_)
                refine WL.op rfl (d_assign rfl ?_)
                refine WL.done (X.then_code ?_)
                refine W.pick [30, 3, 2, 1] (Γ' := [(30, .bool true), (3, .int .i64 ((d.acc.length : Nat) : Int)), (2, .bool false), (1, .pointer (some ⟨w.heap.size, 0, none⟩))]) rfl ?_
                refine W.ift rfl ?_
                refine W.seq ?_
                refine W.region ?_
                refine WL.op rfl (d_assign rfl ?_)
                refine WL.done (X.then_code ?_)
                refine W.ret (X.block_ret (X.then_ret (X.ret1 rfl rfl ?_)))
                exact ⟨(by simp [rightB]; omega), H1.noneL⟩
              · skip
                refine WL.opG rfl rfl rfl (d_fieldAddrB fld25_2 rfl rfl ?_)
                refine WL.opG rfl rfl rfl (d_loadB Try.underlying3 rfl rfl (H1.blk 0 rfl) rfl ?_)
                refine WL.opG rfl rfl rfl (d_move rfl ?_)
                refine WL.opG rfl rfl rfl (d_cmp (decide (d.start ≥ ((d.acc.length : Nat) : Int))) rfl rfl rfl ?_)
                refine WL.op rfl (d_pick rfl rfl ?_)
                refine WL.op rfl (d_assign rfl ?_)
                refine WL.done (X.then_code ?_)
                refine W.pick [30, 3, 2, 1] (Γ' := [(30, .bool (decide (d.start ≥ ((d.acc.length : Nat) : Int)))), (3, .int .i64 ((d.acc.length : Nat) : Int)), (2, .bool false), (1, .pointer (some ⟨w.heap.size, 0, none⟩))]) rfl ?_
                refine W.ite (p := d.start ≥ ((d.acc.length : Nat) : Int)) rfl (fun c24 => ?_) (fun c24 => ?_)
                · skip
                  refine W.seq ?_
                  refine W.region ?_
                  refine WL.op rfl (d_assign rfl ?_)
                  refine WL.done (X.then_code ?_)
                  refine W.ret (X.block_ret (X.then_ret (X.ret1 rfl rfl ?_)))
                  exact ⟨(by simp [rightB]; omega), H1.noneL⟩
                · skip
                  refine W.skip (X.block_normal (X.then_code ?_))
                  refine W.seq ?_
                  refine W.region ?_
                  refine WL.op rfl (d_fieldAddrB fld25_0 rfl rfl ?_)
                  refine WL.op rfl (d_loadB Try.underlying22 rfl rfl (H1.blk 0 rfl) rfl ?_)
                  refine WL.op rfl (d_fieldAddrB fld25_1 rfl rfl ?_)
                  refine WL.op rfl (d_loadB Try.underlying3 rfl rfl (H1.blk 0 rfl) rfl ?_)
                  refine WL.op rfl (d_call ok61 rfl (Ret.calls (within_any dca d.cls dcc d.width w1 (rcd.at H1) ) fun _ w2 p1 => ?_))
                  obtain ⟨rfl, u2⟩ := p1
                  have H2 : UpG w [] w2 [[blk w.heap.size #[.slice dca d.cls.length dcc, .int .i64 d.width, .int .i64 d.start, .slice dna d.next.length dnc, .slice dba d.acc.length dbc] 25]] := H1.call u2
                  refine WL.op rfl (d_move rfl ?_)
                  refine WL.partB 55 (b := withinB d.cls d.width) rfl (fun g27 => ?_) (fun g27 => ?_)
                  · skip
                    refine WL.opG rfl rfl rfl (d_fieldAddrB fld25_3 rfl rfl ?_)
                    refine WL.opG rfl rfl rfl (d_loadB Try.underlying22 rfl rfl (H2.blk 0 rfl) rfl ?_)
                    refine WL.opG rfl rfl rfl (d_move rfl ?_)
                    refine WL.opG rfl rfl rfl (d_call ok61 rfl (Ret.calls (within_any dna d.next dnc ((d.acc.length : Nat) : Int) w2 (rnd.at H2) ) fun _ w3 p2 => ?_))
                    obtain ⟨rfl, u3⟩ := p2
                    have H3 : UpG w [] w3 [[blk w.heap.size #[.slice dca d.cls.length dcc, .int .i64 d.width, .int .i64 d.start, .slice dna d.next.length dnc, .slice dba d.acc.length dbc] 25]] := H2.call u3
                    refine WL.op rfl (d_pick rfl rfl ?_)
                    refine WL.op rfl (d_assign rfl ?_)
                    refine WL.done (X.then_code ?_)
                    refine W.ret (X.ret1 rfl rfl ?_)
                    exact ⟨(by rw [rightB, decide_eq_true (by omega)]; simp [g27]), H3.noneL⟩
                  · skip
                    refine WL.opN rfl rfl rfl rfl ?_
                    refine WL.opN rfl rfl rfl rfl ?_
                    refine WL.opN rfl rfl rfl rfl ?_
                    refine WL.opN rfl rfl rfl rfl ?_
                    refine WL.op rfl (d_pick rfl rfl ?_)
                    refine WL.op rfl (d_assign rfl ?_)
                    refine WL.done (X.then_code ?_)
                    refine W.ret (X.ret1 rfl rfl ?_)
                    exact ⟨(by rw [rightB, decide_eq_true (by omega)]; simp [g27]), H2.noneL⟩

set_option maxRecDepth 20000 in
theorem run_any (d : DfaD) (dca : Option Addr) (dna : Option Addr) (dba : Option Addr) (dcc : Nat) (dnc : Nat) (dbc : Nat) (s : Int) (worda : Option Addr) (word : List Int) (wordc : Nat) (w : World) (rcd : RdT (tyI .i64) w (.slice dca d.cls.length dcc) d.cls) (rnd : RdT (tyI .i64) w (.slice dna d.next.length dnc) d.next) (rbd : RdT tyB w (.slice dba d.acc.length dbc) d.acc) (rword : RdT (tyI .i64) w (.slice worda word.length wordc) word) :
    Calls Try.prog 25 #[.agg #[.slice dca d.cls.length dcc, .int .i64 d.width, .int .i64 d.start, .slice dna d.next.length dnc, .slice dba d.acc.length dbc], .int .i64 s, .slice worda word.length wordc] w (Ret fun v w' => v = .int .i64 (runF d s word) ∧ Upd w [] w' []) := by
  have le_rcd := rcd.le
  have le_rnd := rnd.le
  have le_rbd := rbd.le
  have le_rword := rword.le
  refine calls_of_W (args := [.agg #[.slice dca d.cls.length dcc, .int .i64 d.width, .int .i64 d.start, .slice dna d.next.length dnc, .slice dba d.acc.length dbc], .int .i64 s, .slice worda word.length wordc]) Try.func25 rfl rfl rfl ?_
  have H0 : UpG w [] w [] := UpG.nil w
  show W _ _ _ _ [(0, .agg #[.slice dca d.cls.length dcc, .int .i64 d.width, .int .i64 d.start, .slice dna d.next.length dnc, .slice dba d.acc.length dbc]), (1, .int .i64 s), (2, .slice worda word.length wordc)] w
  refine W.seq ?_
  refine W.region ?_
  refine WL.op rfl (d_box rfl fun w1 u1 => ?_)
  have H1 : UpG w [] w1 [[blk w.heap.size #[.slice dca d.cls.length dcc, .int .i64 d.width, .int .i64 d.start, .slice dna d.next.length dnc, .slice dba d.acc.length dbc] 25]] := H0.new' u1
  refine WL.op rfl (d_assign rfl ?_)
  refine WL.done (X.then_code ?_)
  refine W.seq ?_
  refine W.seq ?_
  refine W.region ?_
  refine WL.op rfl (d_loadAB [.slice dca d.cls.length dcc, .int .i64 d.width, .int .i64 d.start, .slice dna d.next.length dnc, .slice dba d.acc.length dbc] Try.underlying25 rfl sz25 rfl (H1.blk 0 rfl) rfl rfl ?_)
  refine WL.op rfl (d_call ok24 rfl (Ret.calls (right_any d dca dna dba dcc dnc dbc w1 (rcd.at H1) (rnd.at H1) (rbd.at H1) ) fun _ w2 p1 => ?_))
  obtain ⟨rfl, u2⟩ := p1
  have H2 : UpG w [] w2 [[blk w.heap.size #[.slice dca d.cls.length dcc, .int .i64 d.width, .int .i64 d.start, .slice dna d.next.length dnc, .slice dba d.acc.length dbc] 25]] := H1.call u2
  refine WL.op rfl (d_notB rfl ?_)
  refine WL.op rfl (d_move rfl ?_)
  refine WL.partB 12 (b := !(rightB d)) rfl (fun g38 => ?_) (fun g38 => ?_)
  · skip
    refine WL.opN rfl rfl rfl rfl ?_
    refine WL.opN rfl rfl rfl rfl ?_
    refine WL.op rfl (d_pick rfl rfl ?_)
    refine WL.op rfl (d_move rfl ?_)
    refine WL.opN rfl rfl rfl rfl ?_
    refine WL.opN rfl rfl rfl rfl ?_
    refine WL.opN rfl rfl rfl rfl ?_
    refine WL.opN rfl rfl rfl rfl ?_
    refine WL.opN rfl rfl rfl rfl ?_
    refine WL.op rfl (d_pick rfl rfl ?_)
    refine WL.done (X.then_code ?_)
    refine W.ift rfl ?_
    refine W.seq ?_
    refine W.region ?_
    refine WL.op rfl (d_assign rfl ?_)
    refine WL.done (X.then_code ?_)
    refine W.ret (X.then_ret (X.ret1 rfl rfl ?_))
    exact ⟨(by first | rw [runF_no (.inl g38)] | rw [runF_no (.inr (by omega))]), H2.noneL⟩
  · skip
    refine WL.opG rfl rfl rfl (d_move rfl ?_)
    refine WL.opG rfl rfl rfl (d_cmp (decide (s < (0 : Int))) rfl rfl rfl ?_)
    refine WL.op rfl (d_pick rfl rfl ?_)
    refine WL.op rfl (d_move rfl ?_)
    refine WL.part 16 (p := s < (0 : Int)) rfl (fun g38x => ?_) (fun g38x => ?_)
    · skip
      refine WL.opN rfl rfl rfl rfl ?_
      refine WL.opN rfl rfl rfl rfl ?_
      refine WL.opN rfl rfl rfl rfl ?_
      refine WL.opN rfl rfl rfl rfl ?_
      refine WL.opN rfl rfl rfl rfl ?_
      refine WL.op rfl (d_pick rfl rfl ?_)
      refine WL.done (X.then_code ?_)
      refine W.ift rfl ?_
      refine W.seq ?_
      refine W.region ?_
      refine WL.op rfl (d_assign rfl ?_)
      refine WL.done (X.then_code ?_)
      refine W.ret (X.then_ret (X.ret1 rfl rfl ?_))
      exact ⟨(by first | rw [runF_no (.inl g38)] | rw [runF_no (.inr (by omega))]), H2.noneL⟩
    · skip
      refine WL.opG rfl rfl rfl (d_move rfl ?_)
      refine WL.opG rfl rfl rfl (d_fieldAddrB fld25_4 rfl rfl ?_)
      refine WL.opG rfl rfl rfl (d_loadB Try.underlying23 rfl rfl (H2.blk 0 rfl) rfl ?_)
      refine WL.opG rfl rfl rfl (d_lenS Try.underlying23 rfl ?_)
      refine WL.opG rfl rfl rfl (d_cmp (decide (s ≥ ((d.acc.length : Nat) : Int))) rfl rfl rfl ?_)
      refine WL.op rfl (d_pick rfl rfl ?_)
      refine WL.done (X.then_code ?_)
      refine W.ite (p := s ≥ ((d.acc.length : Nat) : Int)) rfl (fun c38 => ?_) (fun c38 => ?_)
      · skip
        refine W.seq ?_
        refine W.region ?_
        refine WL.op rfl (d_assign rfl ?_)
        refine WL.done (X.then_code ?_)
        refine W.ret (X.then_ret (X.ret1 rfl rfl ?_))
        exact ⟨(by first | rw [runF_no (.inl g38)] | rw [runF_no (.inr (by omega))]), H2.noneL⟩
      · skip
        refine W.skip (X.then_code ?_)
        refine W.seq ?_
        refine W.seq ?_
        refine W.region ?_
        refine WL.op rfl (d_move rfl ?_)
        refine WL.op rfl (d_lenS Try.underlying22 rfl ?_)
        refine WL.op rfl (d_move rfl ?_)
        refine WL.done (X.then_code ?_)
        refine W.block ?_
        refine W.pick [25, 24, 23, 6, 3, 1] (Γ' := [(25, .int .i64 0), (24, .int .i64 ((word.length : Nat) : Int)), (23, .slice worda word.length wordc), (6, .int .i64 0), (3, .pointer (some ⟨w.heap.size, 0, none⟩)), (1, .int .i64 s)]) rfl ?_
        refine W.loop (fun m Γ' w' => ∃ k : Nat, ∃ q : Int, Γ' = [(25, .int .i64 ((k : Nat) : Int)), (24, .int .i64 ((word.length : Nat) : Int)), (23, .slice worda word.length wordc), (6, .int .i64 0), (3, .pointer (some ⟨w.heap.size, 0, none⟩)), (1, .int .i64 q)] ∧ UpG w [] w' [[blk w.heap.size #[.slice dca d.cls.length dcc, .int .i64 d.width, .int .i64 d.start, .slice dna d.next.length dnc, .slice dba d.acc.length dbc] 25]] ∧ (k ≤ word.length) ∧ (0 ≤ q ∧ q < (d.acc.length : Int)) ∧ (runF d s word = runFrom d word k q) ∧ m = word.length - k) (word.length - 0) ⟨0, s, rfl, H2, (by first | assumption | omega | simp), (by omega), (by exact runF_go g38 (by omega) (by omega)), rfl⟩ ?_
        rintro m1 Γ1 w3 ⟨k, q, rfl, H3, hk, hq, hr, rfl⟩
        refine W.seq ?_
        refine W.region ?_
        refine WL.op rfl (d_cmp (decide (((k : Nat) : Int) < ((word.length : Nat) : Int))) rfl rfl rfl ?_)
        refine WL.done (X.then_code ?_)
        refine W.seq ?_
        refine W.ite (p := ((k : Nat) : Int) < ((word.length : Nat) : Int)) rfl (fun c41 => ?_) (fun c41 => ?_)
        · skip
          refine W.skip (X.then_code ?_)
          refine W.seq ?_
          refine W.block ?_
          refine W.seq ?_
          refine W.region ?_
          refine WL.op rfl (t_addr1 k (T := (tyI .i64)) rfl Try.underlying22 sz3 rfl rfl (rword.at H3) rfl (by omega) ?_)
          refine WL.op rfl (t_load1 k 0 (T := (tyI .i64)) rfl Try.underlying3 rfl rfl (rword.at H3) (by omega) rfl ?_)
          refine WL.op rfl (d_assign rfl ?_)
          refine WL.done (X.then_code ?_)
          refine W.seq ?_
          refine W.seq ?_
          refine W.region ?_
          refine WL.op rfl (d_move rfl ?_)
          refine WL.op rfl (d_call ok62 rfl (Ret.calls (in_any (word.getD k 0) w3  ) fun _ w4 p2 => ?_))
          obtain ⟨rfl, u3⟩ := p2
          have H4 : UpG w [] w4 [[blk w.heap.size #[.slice dca d.cls.length dcc, .int .i64 d.width, .int .i64 d.start, .slice dna d.next.length dnc, .slice dba d.acc.length dbc] 25]] := H3.call u3
          refine WL.op rfl (d_notB rfl ?_)
          refine WL.done (X.then_code ?_)
          refine W.iteB (b := !(decide (0 ≤ (word.getD k 0) ∧ (word.getD k 0) < 259))) rfl (fun c42 => ?_) (fun c42 => ?_)
          · skip
            refine W.seq ?_
            refine W.region ?_
            refine WL.op rfl (d_assign rfl ?_)
            refine WL.done (X.then_code ?_)
            refine W.ret (X.then_ret (X.block_ret (X.then_ret (X.then_ret (X.block_ret (X.then_ret (X.ret1 rfl rfl ?_)))))))
            exact ⟨(by rw [hr, runFrom_bad (by omega) (by intro hh; rw [decide_eq_true hh] at c42; exact absurd c42 (by decide))]), H4.noneL⟩
          · skip
            refine W.skip (X.then_code ?_)
            have hsy : 0 ≤ word.getD k 0 ∧ word.getD k 0 < 259 := by simpa using c42
            have hrt : rightB d = true := by simpa using g38
            have hcx := right_sym hrt hsy.1 hsy.2
            have hix := right_idx hrt hq.1 hq.2 hcx.2.1 hcx.2.2.1
            refine W.regionD mixed (by kernel_rfl) fun hok1 w5 k1 => ?_
            have H5 : UpG w [] w5 [[blk w.heap.size #[.slice dca d.cls.length dcc, .int .i64 d.width, .int .i64 d.start, .slice dna d.next.length dnc, .slice dba d.acc.length dbc] 25]] := H4.kept k1
            refine WD.take hok1 0 (.pointer (some ⟨w.heap.size, 3, none⟩)) (fun _ => True) rfl rfl rfl rfl rfl trivial (.inl ⟨rfl, fun _ _ => d_fieldAddrB fld25_3 rfl rfl ⟨rfl, rfl⟩⟩) ?_
            refine WD.take hok1 1 (.slice dna d.next.length dnc) (fun w' => w'.heap[w.heap.size]? = some (.cells #[.slice dca d.cls.length dcc, .int .i64 d.width, .int .i64 d.start, .slice dna d.next.length dnc, .slice dba d.acc.length dbc] 25 (0, 0))) rfl rfl rfl rfl rfl (H5.blk 0 rfl) (.inl ⟨rfl, fun _ hC => d_loadB Try.underlying22 rfl rfl hC rfl ⟨rfl, rfl⟩⟩) ?_
            refine WD.take hok1 2 (.int .i64 q) (fun _ => True) rfl rfl rfl rfl rfl trivial (.inl ⟨rfl, fun _ _ => d_move rfl ⟨rfl, rfl⟩⟩) ?_
            refine WD.take hok1 3 (.pointer (some ⟨w.heap.size, 1, none⟩)) (fun _ => True) rfl rfl rfl rfl rfl trivial (.inl ⟨rfl, fun _ _ => d_fieldAddrB fld25_1 rfl rfl ⟨rfl, rfl⟩⟩) ?_
            refine WD.take hok1 4 (.int .i64 d.width) (fun w' => w'.heap[w.heap.size]? = some (.cells #[.slice dca d.cls.length dcc, .int .i64 d.width, .int .i64 d.start, .slice dna d.next.length dnc, .slice dba d.acc.length dbc] 25 (0, 0))) rfl rfl rfl rfl rfl (H5.blk 0 rfl) (.inl ⟨rfl, fun _ hC => d_loadB Try.underlying3 rfl rfl hC rfl ⟨rfl, rfl⟩⟩) ?_
            refine WD.take hok1 5 (.int .i64 (q * d.width)) (fun _ => True) rfl rfl rfl rfl rfl trivial (.inl ⟨rfl, fun _ _ => d_mul rfl rfl (by omega) (by omega) ⟨rfl, rfl⟩⟩) ?_
            refine WD.take hok1 6 (.pointer (some ⟨w.heap.size, 0, none⟩)) (fun _ => True) rfl rfl rfl rfl rfl trivial (.inl ⟨rfl, fun _ _ => d_fieldAddrB fld25_0 rfl rfl ⟨rfl, rfl⟩⟩) ?_
            refine WD.take hok1 7 (.slice dca d.cls.length dcc) (fun w' => w'.heap[w.heap.size]? = some (.cells #[.slice dca d.cls.length dcc, .int .i64 d.width, .int .i64 d.start, .slice dna d.next.length dnc, .slice dba d.acc.length dbc] 25 (0, 0))) rfl rfl rfl rfl rfl (H5.blk 0 rfl) (.inl ⟨rfl, fun _ hC => d_loadB Try.underlying22 rfl rfl hC rfl ⟨rfl, rfl⟩⟩) ?_
            refine WD.take hok1 8 (.int .i64 (word.getD k 0)) (fun _ => True) rfl rfl rfl rfl rfl trivial (.inl ⟨rfl, fun _ _ => d_move rfl ⟨rfl, rfl⟩⟩) ?_
            refine WD.take hok1 9 (elemPtr (.slice dca d.cls.length dcc) ((word.getD k 0).toNat)) (fun w' => RdT (tyI .i64) w' (.slice dca d.cls.length dcc) d.cls) rfl rfl rfl rfl rfl (rcd.at H5) (.inl ⟨rfl, fun _ hC => t_addr1 ((word.getD k 0).toNat) (T := (tyI .i64)) rfl Try.underlying22 sz3 rfl rfl hC (by omega) (by omega) ⟨rfl, rfl⟩⟩) ?_
            refine WD.take hok1 10 (.int .i64 (d.cls.getD ((word.getD k 0).toNat) 0)) (fun w' => RdT (tyI .i64) w' (.slice dca d.cls.length dcc) d.cls) rfl rfl rfl rfl rfl (rcd.at H5) (.inl ⟨rfl, fun _ hC => t_load1 ((word.getD k 0).toNat) 0 (T := (tyI .i64)) rfl Try.underlying3 rfl rfl hC (by omega) rfl ⟨rfl, rfl⟩⟩) ?_
            refine WD.take hok1 11 (.int .i64 ((q * d.width) + (d.cls.getD ((word.getD k 0).toNat) 0))) (fun _ => True) rfl rfl rfl rfl rfl trivial (.inl ⟨rfl, fun _ _ => d_add rfl rfl (by omega) (by omega) ⟨rfl, rfl⟩⟩) ?_
            refine WD.take hok1 12 (elemPtr (.slice dna d.next.length dnc) (((q * d.width) + (d.cls.getD ((word.getD k 0).toNat) 0)).toNat)) (fun w' => RdT (tyI .i64) w' (.slice dna d.next.length dnc) d.next) rfl rfl rfl rfl rfl (rnd.at H5) (.inl ⟨rfl, fun _ hC => t_addr1 (((q * d.width) + (d.cls.getD ((word.getD k 0).toNat) 0)).toNat) (T := (tyI .i64)) rfl Try.underlying22 sz3 rfl rfl hC (by omega) (by omega) ⟨rfl, rfl⟩⟩) ?_
            refine WD.take hok1 13 (.int .i64 (d.next.getD (((q * d.width) + (d.cls.getD ((word.getD k 0).toNat) 0)).toNat) 0)) (fun w' => RdT (tyI .i64) w' (.slice dna d.next.length dnc) d.next) rfl rfl rfl rfl rfl (rnd.at H5) (.inl ⟨rfl, fun _ hC => t_load1 (((q * d.width) + (d.cls.getD ((word.getD k 0).toNat) 0)).toNat) 0 (T := (tyI .i64)) rfl Try.underlying3 rfl rfl hC (by omega) rfl ⟨rfl, rfl⟩⟩) ?_
            refine WD.take hok1 14 (.int .i64 (d.next.getD (((q * d.width) + (d.cls.getD ((word.getD k 0).toNat) 0)).toNat) 0)) (fun _ => True) rfl rfl rfl rfl rfl trivial (.inl ⟨rfl, fun _ _ => d_assign rfl ⟨rfl, rfl⟩⟩) ?_
            refine WD.done hok1 rfl (X.block_normal (X.then_code ?_))
            refine W.region ?_
            refine WL.op rfl (d_add rfl rfl (by omega) (by omega) ?_)
            refine WL.op rfl (d_move rfl ?_)
            refine WL.done ?_
            exact X.next [25, 24, 23, 6, 3, 1] (Γ' := [(25, .int .i64 (((k + 1) : Nat) : Int)), (24, .int .i64 ((word.length : Nat) : Int)), (23, .slice worda word.length wordc), (6, .int .i64 0), (3, .pointer (some ⟨w.heap.size, 0, none⟩)), (1, .int .i64 (d.next.getD (((q * d.width) + (d.cls.getD ((word.getD k 0).toNat) 0)).toNat) 0))]) rfl (word.length - (k + 1)) (by omega) ⟨k + 1, d.next.getD (((q * d.width) + (d.cls.getD ((word.getD k 0).toNat) 0)).toNat) 0, rfl, H5, (by first | assumption | omega | simp), (by omega), (by rw [hr]; exact runFrom_step (by omega) hsy.1 hsy.2), rfl⟩
        · skip
          refine W.exit (X.then_exit (X.then_exit (X.block_exit (X.then_code ?_))))
          refine W.seq ?_
          refine W.region ?_
          refine WL.op rfl (d_move rfl ?_)
          refine WL.op rfl (d_assign rfl ?_)
          refine WL.done (X.then_code ?_)
          refine W.ret (X.ret1 rfl rfl ?_)
          exact ⟨(by rw [hr, runFrom_end (by omega)]), H3.noneL⟩

set_option maxRecDepth 20000 in
theorem accepts_any (d : DfaD) (dca : Option Addr) (dna : Option Addr) (dba : Option Addr) (dcc : Nat) (dnc : Nat) (dbc : Nat) (worda : Option Addr) (word : List Int) (wordc : Nat) (w : World) (rcd : RdT (tyI .i64) w (.slice dca d.cls.length dcc) d.cls) (rnd : RdT (tyI .i64) w (.slice dna d.next.length dnc) d.next) (rbd : RdT tyB w (.slice dba d.acc.length dbc) d.acc) (rword : RdT (tyI .i64) w (.slice worda word.length wordc) word) :
    Calls Try.prog 26 #[.agg #[.slice dca d.cls.length dcc, .int .i64 d.width, .int .i64 d.start, .slice dna d.next.length dnc, .slice dba d.acc.length dbc], .slice worda word.length wordc] w (Ret fun v w' => v = .bool (acceptsB d word) ∧ Upd w [] w' []) := by
  have le_rcd := rcd.le
  have le_rnd := rnd.le
  have le_rbd := rbd.le
  have le_rword := rword.le
  refine calls_of_W (args := [.agg #[.slice dca d.cls.length dcc, .int .i64 d.width, .int .i64 d.start, .slice dna d.next.length dnc, .slice dba d.acc.length dbc], .slice worda word.length wordc]) Try.func26 rfl rfl rfl ?_
  have H0 : UpG w [] w [] := UpG.nil w
  show W _ _ _ _ [(0, .agg #[.slice dca d.cls.length dcc, .int .i64 d.width, .int .i64 d.start, .slice dna d.next.length dnc, .slice dba d.acc.length dbc]), (1, .slice worda word.length wordc)] w
  refine W.seq ?_
  refine W.region ?_
  refine WL.op rfl (d_box rfl fun w1 u1 => ?_)
  have H1 : UpG w [] w1 [[blk w.heap.size #[.slice dca d.cls.length dcc, .int .i64 d.width, .int .i64 d.start, .slice dna d.next.length dnc, .slice dba d.acc.length dbc] 25]] := H0.new' u1
  refine WL.op rfl (d_assign rfl ?_)
  refine WL.done (X.then_code ?_)
  refine W.seq ?_
  refine W.region ?_
  refine WL.op rfl (d_loadAB [.slice dca d.cls.length dcc, .int .i64 d.width, .int .i64 d.start, .slice dna d.next.length dnc, .slice dba d.acc.length dbc] Try.underlying25 rfl sz25 rfl (H1.blk 0 rfl) rfl rfl ?_)
  refine WL.op rfl (d_fieldAddrB fld25_2 rfl rfl ?_)
  refine WL.op rfl (d_loadB Try.underlying3 rfl rfl (H1.blk 0 rfl) rfl ?_)
  refine WL.op rfl (d_move rfl ?_)
  refine WL.op rfl (d_call ok25 rfl (Ret.calls (run_any d dca dna dba dcc dnc dbc d.start worda word wordc w1 (rcd.at H1) (rnd.at H1) (rbd.at H1) (rword.at H1) ) fun _ w2 p1 => ?_))
  obtain ⟨rfl, u2⟩ := p1
  have H2 : UpG w [] w2 [[blk w.heap.size #[.slice dca d.cls.length dcc, .int .i64 d.width, .int .i64 d.start, .slice dna d.next.length dnc, .slice dba d.acc.length dbc] 25]] := H1.call u2
  refine WL.op rfl (d_assign rfl ?_)
  refine WL.done (X.then_code ?_)
  refine W.seq ?_
  have hlt := runF_lt d d.start word
  refine W.region ?_
  refine WL.op rfl (d_move rfl ?_)
  refine WL.op rfl (d_cmp (decide ((runF d d.start word) ≥ (0 : Int))) rfl rfl rfl ?_)
  refine WL.op rfl (d_move rfl ?_)
  refine WL.part 13 (p := (runF d d.start word) ≥ (0 : Int)) rfl (fun g53 => ?_) (fun g53 => ?_)
  · skip
    refine WL.opG rfl rfl rfl (d_fieldAddrB fld25_4 rfl rfl ?_)
    refine WL.opG rfl rfl rfl (d_loadB Try.underlying23 rfl rfl (H2.blk 0 rfl) rfl ?_)
    refine WL.opG rfl rfl rfl (d_move rfl ?_)
    refine WL.opG rfl rfl rfl (t_addr1 ((runF d d.start word).toNat) (T := tyB) rfl Try.underlying23 sz4 rfl rfl (rbd.at H2) (by omega) (by omega) ?_)
    refine WL.opG rfl rfl rfl (t_load1 ((runF d d.start word).toNat) false (T := tyB) rfl Try.underlying4 rfl rfl (rbd.at H2) (by omega) rfl ?_)
    refine WL.op rfl (d_pick rfl rfl ?_)
    refine WL.op rfl (d_assign rfl ?_)
    refine WL.done (X.then_code ?_)
    refine W.ret (X.ret1 rfl rfl ?_)
    exact ⟨(by first | rw [acceptsB_no (by omega)] | rw [acceptsB_yes (by omega)]), H2.noneL⟩
  · skip
    refine WL.opN rfl rfl rfl rfl ?_
    refine WL.opN rfl rfl rfl rfl ?_
    refine WL.opN rfl rfl rfl rfl ?_
    refine WL.opN rfl rfl rfl rfl ?_
    refine WL.opN rfl rfl rfl rfl ?_
    refine WL.op rfl (d_pick rfl rfl ?_)
    refine WL.op rfl (d_assign rfl ?_)
    refine WL.done (X.then_code ?_)
    refine W.ret (X.ret1 rfl rfl ?_)
    exact ⟨(by first | rw [acceptsB_no (by omega)] | rw [acceptsB_yes (by omega)]), H2.noneL⟩
end Go.Proofs.Ytoeockpkkmgieaa


/- Spreading over states: plain data. -/
namespace Go.Sx
set_option linter.unusedVariables false
set_option linter.unusedSimpArgs false
def cf (o : List Bool) : Nat := (o.filter (!·)).length
theorem cf_set (o : List Bool) : ∀ (i : Nat), i < o.length → o.getD i false = false → cf (o.set i true) + 1 = cf o := by
  induction o with
  | nil => intro i h; simp at h
  | cons x xs ih =>
    intro i hi hx
    cases i with
    | zero => simp at hx; subst hx; simp [cf]
    | succ i =>
      have := ih i (by simpa using hi) (by simpa using hx)
      cases x <;> simp [cf] at * <;> omega
theorem getD_set_same {o : List Bool} {i : Nat} (h : i < o.length) : (o.set i true).getD i false = true := by simp [List.getD_eq_getElem?_getD, h]
theorem getD_set_keep {o : List Bool} {i j : Nat} (h : o.getD j false = true) : (o.set i true).getD j false = true := by
  by_cases e : i = j
  · subst e
    have : i < o.length := by
      rcases Nat.lt_or_ge i o.length with h1 | h1
      · exact h1
      · simp [List.getD_eq_getElem?_getD, List.getElem?_eq_none h1] at h
    exact getD_set_same this
  · simp [List.getD_eq_getElem?_getD, List.getElem?_set_ne e] at h ⊢; exact h
theorem getD_set_or {o : List Bool} {i j : Nat} (h : (o.set i true).getD j false = true) : i = j ∨ o.getD j false = true := by
  by_cases e : i = j
  · exact .inl e
  · simp [List.getD_eq_getElem?_getD, List.getElem?_set_ne e] at h ⊢; exact .inr h
/-- what is marked behind a spread -/
structure SprF (nx : Int → List Int) (n : Nat) (t0 : List Int) (o : List Bool) : Prop where
  len : o.length = n
  init : ∀ t, t ∈ t0 → o.getD t.toNat false = true
  clo : ∀ s : Nat, o.getD s false = true → ∀ t, t ∈ nx s → o.getD t.toNat false = true
  min : ∀ Q : Int → Prop, (∀ t, t ∈ t0 → Q t) → (∀ s, Q s → ∀ t, t ∈ nx s → Q t) → ∀ s : Nat, o.getD s false = true → Q s
/-- the first loop -/
structure SprA (n : Nat) (t0 : List Int) (o : List Bool) (k : Nat) : Prop where
  len : o.length = n
  init : ∀ i, i < k → o.getD (t0.getD i 0).toNat false = true
  only : ∀ s : Nat, o.getD s false = true → (s : Int) ∈ t0
/-- within: s is in hand, k of its next ones are done -/
structure SprJ (nx : Int → List Int) (n : Nat) (t0 : List Int) (o : List Bool) (todo : List Int) (s : Int) (k : Nat) : Prop where
  len : o.length = n
  init : ∀ t, t ∈ t0 → o.getD t.toNat false = true
  inT : ∀ t, t ∈ todo → (0 ≤ t ∧ t < (n : Int)) ∧ o.getD t.toNat false = true
  clo : ∀ r : Nat, o.getD r false = true → (r : Int) ∈ todo ∨ (r : Int) = s ∨ ∀ t, t ∈ nx r → o.getD t.toNat false = true
  now : 0 ≤ s ∧ s < (n : Int) ∧ o.getD s.toNat false = true
  part : ∀ i, i < k → o.getD ((nx s).getD i 0).toNat false = true
  min : ∀ Q : Int → Prop, (∀ t, t ∈ t0 → Q t) → (∀ s, Q s → ∀ t, t ∈ nx s → Q t) → ∀ s : Nat, o.getD s false = true → Q s
structure SprI (nx : Int → List Int) (n : Nat) (t0 : List Int) (o : List Bool) (todo : List Int) : Prop where
  len : o.length = n
  init : ∀ t, t ∈ t0 → o.getD t.toNat false = true
  inT : ∀ t, t ∈ todo → (0 ≤ t ∧ t < (n : Int)) ∧ o.getD t.toNat false = true
  clo : ∀ r : Nat, o.getD r false = true → (r : Int) ∈ todo ∨ ∀ t, t ∈ nx r → o.getD t.toNat false = true
  min : ∀ Q : Int → Prop, (∀ t, t ∈ t0 → Q t) → (∀ s, Q s → ∀ t, t ∈ nx s → Q t) → ∀ s : Nat, o.getD s false = true → Q s
section
variable {nx : Int → List Int} {n : Nat} {t0 todo : List Int} {o : List Bool} {s : Int} {k : Nat}
theorem SprA.start (n : Nat) (t0 : List Int) : SprA n t0 (List.replicate n false) 0 := ⟨by simp, fun i h => by omega, fun s h => by
  simp only [List.getD_eq_getElem?_getD, List.getElem?_replicate] at h
  split at h <;> simp at h⟩
theorem SprA.step (h : SprA n t0 o k) (hk : k < t0.length) (hr : ∀ t, t ∈ t0 → 0 ≤ t ∧ t < (n : Int)) : SprA n t0 (o.set (t0.getD k 0).toNat true) (k + 1) := by
  have hm : t0.getD k 0 ∈ t0 := by simp [List.getD_eq_getElem?_getD, hk]
  have hb := hr _ hm
  refine ⟨by simp [h.len], all_step (fun i hi => getD_set_keep (h.init i hi)) (getD_set_same (by rw [h.len]; omega)), fun r hr' => ?_⟩
  rcases getD_set_or hr' with e | e
  · rw [← e, Int.toNat_of_nonneg hb.1]; exact hm
  · exact h.only r e
theorem SprA.done (h : SprA n t0 o k) (hk : ¬ k < t0.length) (hr : ∀ t, t ∈ t0 → 0 ≤ t ∧ t < (n : Int)) : SprI nx n t0 o t0 := by
  have hi : ∀ t, t ∈ t0 → o.getD t.toNat false = true := fun t ht => by
    obtain ⟨i, hi, rfl⟩ := List.mem_iff_getElem.1 ht
    have := h.init i (by omega)
    simpa [List.getD_eq_getElem?_getD, hi] using this
  exact ⟨h.len, hi, fun t ht => ⟨hr t ht, hi t ht⟩, fun r hr' => .inl (h.only r hr'), fun Q hQ _ s hs => hQ _ (h.only s hs)⟩
theorem SprI.pop (h : SprI nx n t0 o todo) (ht : 0 < todo.length) : SprJ nx n t0 o (todo.take (todo.length - 1)) (todo.getD (todo.length - 1) 0) 0 := by
  have hl : todo.length - 1 < todo.length := by omega
  have hm : todo.getD (todo.length - 1) 0 ∈ todo := by simp [List.getD_eq_getElem?_getD, hl]
  obtain ⟨⟨b1, b2⟩, b3⟩ := h.inT _ hm
  refine ⟨h.len, h.init, fun t ht => h.inT t (List.mem_of_mem_take ht), fun r hr => ?_, ⟨b1, b2, b3⟩, fun i hi => by omega, h.min⟩
  rcases h.clo r hr with c | c
  · obtain ⟨i, hi, e⟩ := List.mem_iff_getElem.1 c
    by_cases hh : i = todo.length - 1
    · right; left; subst hh; rw [← e]; simp [List.getD_eq_getElem?_getD, hl]
    · left; rw [← e]; exact List.mem_iff_getElem.2 ⟨i, by simp; omega, by simp⟩
  · exact .inr (.inr c)
theorem SprJ.old (h : SprJ nx n t0 o todo s k) (hk : k < (nx s).length) (hm : o.getD ((nx s).getD k 0).toNat false = true) : SprJ nx n t0 o todo s (k + 1) :=
  ⟨h.len, h.init, h.inT, h.clo, h.now, all_step h.part hm, h.min⟩
theorem SprJ.new (h : SprJ nx n t0 o todo s k) (hk : k < (nx s).length) (hb : 0 ≤ (nx s).getD k 0 ∧ (nx s).getD k 0 < (n : Int)) : SprJ nx n t0 (o.set ((nx s).getD k 0).toNat true) (todo ++ [(nx s).getD k 0]) s (k + 1) := by
  have hin : (nx s).getD k 0 ∈ nx s := by simp [List.getD_eq_getElem?_getD, hk]
  have hsame := getD_set_same (o := o) (i := ((nx s).getD k 0).toNat) (by rw [h.len]; omega)
  refine ⟨by simp [h.len], fun t ht => getD_set_keep (h.init t ht), fun t ht => ?_, fun r hr => ?_, ⟨h.now.1, h.now.2.1, getD_set_keep h.now.2.2⟩, all_step (fun i hi => getD_set_keep (h.part i hi)) hsame, fun Q q1 q2 r hr => ?_⟩
  · rcases List.mem_append.1 ht with c | c
    · exact ⟨(h.inT t c).1, getD_set_keep (h.inT t c).2⟩
    · simp only [List.mem_singleton] at c; subst c; exact ⟨hb, hsame⟩
  · rcases getD_set_or hr with e | e
    · left; rw [← e, Int.toNat_of_nonneg hb.1]; simp
    · rcases h.clo r e with c | c | c
      · left; exact List.mem_append_left _ c
      · exact .inr (.inl c)
      · exact .inr (.inr fun t ht => getD_set_keep (c t ht))
  · rcases getD_set_or hr with e | e
    · rw [← e, Int.toNat_of_nonneg hb.1]
      have := h.min Q q1 q2 s.toNat h.now.2.2
      rw [Int.toNat_of_nonneg h.now.1] at this
      exact q2 s this _ hin
    · exact h.min Q q1 q2 r e
theorem SprJ.done (h : SprJ nx n t0 o todo s k) (hk : ¬ k < (nx s).length) : SprI nx n t0 o todo := by
  refine ⟨h.len, h.init, h.inT, fun r hr => ?_, h.min⟩
  rcases h.clo r hr with c | c | c
  · exact .inl c
  · right; intro t ht
    rw [c] at ht
    obtain ⟨i, hi, rfl⟩ := List.mem_iff_getElem.1 ht
    have := h.part i (by omega)
    simpa [List.getD_eq_getElem?_getD, hi] using this
  · exact .inr c
theorem SprI.fin (h : SprI nx n t0 o todo) (ht : ¬ 0 < todo.length) : SprF nx n t0 o :=
  ⟨h.len, h.init, fun r hr => (h.clo r hr).resolve_left (by
    have h0 : todo = [] := List.length_eq_zero_iff.1 (by omega)
    rw [h0]; simp), h.min⟩
end
theorem cf_le (o : List Bool) : cf o ≤ o.length := List.length_filter_le _ _
/-- A function value that gives a new row for a state. -/
def ClosR (P : Program) (f : FuncId) (fc : List Value) (nx : Int → List Int) (n : Nat) (S : List Nat) (w : World) : Prop :=
  ∀ w' : World, Keep S w w' → ∀ x : Int, 0 ≤ x → x < (n : Int) → Calls P f (#[.int .i64 x] ++ fc.toArray) w' (Ret fun v w'' => ∃ a c, v = .slice a (nx x).length c ∧ Upd w' [] w'' [rowT (tyI .i64) (.slice a (nx x).length c) 3 (nx x)])
/-- A function value that gives a row that is there for a state. -/
def ClosO (P : Program) (f : FuncId) (fc : List Value) (nx : Int → List Int) (n : Nat) (S : List Nat) (w : World) : Prop :=
  ∀ w' : World, Keep S w w' → ∀ x : Int, 0 ≤ x → x < (n : Int) → Calls P f (#[.int .i64 x] ++ fc.toArray) w' (Ret fun v w'' => ∃ a c, v = .slice a (nx x).length c ∧ Upd w' [] w'' [] ∧ ∀ w3, Keep S w w3 → RdT (tyI .i64) w3 (.slice a (nx x).length c) (nx x))
end Go.Sx


/- Proved here: what slices.Sort and slices.Compact of whole numbers do to a row of one's own; conditions: those of each theorem. -/
namespace Go.Proofs.Ytoeockpkkmgieaa
open Go Go.Sx
set_option linter.unusedVariables false
set_option linter.unusedSimpArgs false
def sortI (xs : List Int) : List Int := xs.mergeSort fun x y => decide (x ≤ y)
theorem sortI_mem (xs : List Int) (x : Int) : x ∈ sortI xs ↔ x ∈ xs := by simp [sortI]
theorem sortI_len (xs : List Int) : (sortI xs).length = xs.length := by simp [sortI]
theorem sort_any (a : Option Addr) (xs : List Int) (c : Nat) (n : Nat) (w : World) (hp : Hp w [rowT (tyI .i64) (.slice a n c) 3 xs]) (hn : n = xs.length) (hsz : xs.length ≤ 1000000000) :
    Calls Try.prog 90 #[.slice a n c] w (Ret fun v w' => v = .tuple #[] ∧ Upd w [rowT (tyI .i64) (.slice a n c) 3 xs] w' [rowT (tyI .i64) (.slice a n c) 3 (sortI xs)]) := by
  subst hn
  have ho := row_own (hp.holds _ (List.mem_singleton.2 rfl))
  cases a with
  | none =>
    have h0 : xs = [] := by
      rcases ho.2 with ⟨_, h⟩ | ⟨g, cap, cur, h, _⟩
      · exact List.length_eq_zero_iff.1 h
      · cases h
    subst h0
    refine (Try.slices_Sort_int_none none c w).mono ?_
    rintro e w' ⟨rfl, rfl⟩
    have e0 : sortI [] = [] := by simp [sortI]
    rw [e0]
    exact ⟨_, rfl, rfl, Upd.refl hp⟩
  | some ad =>
    obtain ⟨g, hg⟩ : ∃ g, ad = ⟨g, 0, none⟩ := by
      rcases ho.2 with ⟨h, _⟩ | ⟨g, cap, cur, h, _⟩
      · cases h
      · cases h; exact ⟨g, rfl⟩
    subst hg
    obtain ⟨hh, hlt⟩ := holds_own ho
    refine (Try.slices_Sort_int g 0 c xs w hh hlt (by omega)).mono ?_
    rintro e w' ⟨rfl, q, os, rfl⟩
    exact ⟨_, rfl, rfl, upd_put ho (sortI_len xs)⟩
theorem compact_le (xs : List Int) : (Lib.compact xs).length ≤ xs.length := by
  simp only [Lib.compact, Lib.compactUpTo, List.length_map]
  exact Nat.le_trans (List.length_filter_le _ _) (by simp)
theorem compact_any (a : Option Addr) (xs : List Int) (c : Nat) (n : Nat) (w : World) (hp : Hp w [rowT (tyI .i64) (.slice a n c) 3 xs]) (hn : n = xs.length) (hsz : xs.length ≤ 1000000000) :
    Calls Try.prog 91 #[.slice a n c] w (Ret fun v w' => v = .slice a (Lib.compact xs).length c ∧ Upd w [rowT (tyI .i64) (.slice a n c) 3 xs] w' [rowT (tyI .i64) (.slice a (Lib.compact xs).length c) 3 (Lib.compact xs)]) := by
  subst hn
  have ho := row_own (hp.holds _ (List.mem_singleton.2 rfl))
  cases a with
  | none =>
    have h0 : xs = [] := by
      rcases ho.2 with ⟨_, h⟩ | ⟨g, cap, cur, h, _⟩
      · exact List.length_eq_zero_iff.1 h
      · cases h
    subst h0
    refine (Try.slices_Compact_int_empty none c w).mono ?_
    rintro e w' ⟨rfl, rfl⟩
    have e0 : Lib.compact ([] : List Int) = [] := by simp [Lib.compact, Lib.compactUpTo]
    rw [e0]
    exact ⟨_, rfl, rfl, Upd.refl hp⟩
  | some ad =>
    obtain ⟨g, hg⟩ : ∃ g, ad = ⟨g, 0, none⟩ := by
      rcases ho.2 with ⟨h, _⟩ | ⟨g, cap, cur, h, _⟩
      · cases h
      · cases h; exact ⟨g, rfl⟩
    subst hg
    obtain ⟨hh, hlt⟩ := holds_own ho
    refine (Try.slices_Compact_int g 0 c xs w hh (by omega) (own_capN ho)).mono ?_
    rintro e w' ⟨rfl, q, rfl⟩
    have hle := compact_le xs
    have hu := upd_put (q := q) (os := #[]) (ys := Lib.compact xs ++ List.replicate (xs.length - (Lib.compact xs).length) 0) ho (by simp; omega)
    rw [Go.Sort.grow_empty] at hu
    exact ⟨_, rfl, rfl, upd_take (j := (Lib.compact xs).length) hu (by simp) (by simp)⟩
theorem compact_mem (l : List Int) (x : Int) : x ∈ Lib.compact l ↔ x ∈ l := by
  have hat : ∀ i (h : i < l.length), l.toArray[i]! = l[i] := fun i h => by simp [h]
  simp only [Lib.compact, Lib.compactUpTo, List.mem_map, List.mem_filter, List.mem_range]
  constructor
  · rintro ⟨i, ⟨hi, _⟩, rfl⟩
    rw [hat i hi]; exact List.getElem_mem hi
  · intro hx
    obtain ⟨i, hi, rfl⟩ := List.mem_iff_getElem.1 hx
    induction i with
    | zero => exact ⟨0, ⟨hi, by simp [Lib.keeps]⟩, hat 0 hi⟩
    | succ i ih =>
      by_cases hk : Lib.keeps l.toArray (i + 1) = true
      · exact ⟨i + 1, ⟨hi, hk⟩, hat (i + 1) hi⟩
      · have hi' : i < l.length := by omega
        have he : l[i + 1] = l[i] := by
          simp only [Lib.keeps, decide_eq_true_eq, not_or, ne_eq, Classical.not_not] at hk
          have h2 := hk.2
          rw [Nat.add_sub_cancel, hat (i + 1) hi, hat i hi'] at h2
          exact h2
        rw [he]
        exact ih hi' (List.getElem_mem hi')
def usedI (d : DfaD) : List Int := Lib.compact (sortI d.cls)
theorem used_mem (d : DfaD) (x : Int) : x ∈ usedI d ↔ x ∈ d.cls := by rw [usedI, compact_mem, sortI_mem]
theorem used_bd {d : DfaD} (h : rightB d = true) {x : Int} (hx : x ∈ usedI d) : 0 ≤ x ∧ x < d.width := by
  obtain ⟨i, hi, rfl⟩ := List.mem_iff_getElem.1 ((used_mem d x).1 hx)
  have := within_at (rightB_iff.1 h).2.1 i hi
  simpa [List.getD_eq_getElem?_getD, hi] using this
def nxR (d : DfaD) (s : Int) : List Int := (usedI d).map fun c => d.next.getD (s * d.width + c).toNat 0
theorem used_len (d : DfaD) : (usedI d).length ≤ d.cls.length := by have := compact_le (sortI d.cls); rw [sortI_len] at this; exact this
theorem nxR_step {d : DfaD} {s : Int} {k : Nat} (h : k < (usedI d).length) : ((usedI d).take k).map (fun c => d.next.getD (s * d.width + c).toNat 0) ++ [d.next.getD (s * d.width + (usedI d).getD k 0).toNat 0] = ((usedI d).take (k + 1)).map (fun c => d.next.getD (s * d.width + c).toNat 0) := by
  rw [List.take_add_one, List.getElem?_eq_getElem h, List.map_append]; simp [List.getD_eq_getElem?_getD, List.getElem?_eq_getElem h]
theorem nxR_bd {d : DfaD} (h : rightB d = true) {s t : Int} (h0 : 0 ≤ s) (h1 : s < (d.acc.length : Int)) (ht : t ∈ nxR d s) : 0 ≤ t ∧ t < (d.acc.length : Int) := by
  obtain ⟨c, hc, rfl⟩ := List.mem_map.1 ht
  have hb := used_bd h hc
  have hix := right_idx h h0 h1 hb.1 hb.2
  exact within_at (rightB_iff.1 h).2.2 _ (by omega)
theorem nxR_len (d : DfaD) (s : Int) : (nxR d s).length ≤ d.cls.length := by have := used_len d; simp [nxR]; omega
end Go.Proofs.Ytoeockpkkmgieaa


/- Proved here: which states lead where, as data; what the two spreads of an automaton mark. Conditions: those of each theorem. -/
namespace Go.Proofs.Ytoeockpkkmgieaa
open Go Go.Sx
set_option linter.unusedVariables false
set_option linter.unusedSimpArgs false
/-- One comes from a state to another one. -/
inductive To (d : DfaD) : Int → Int → Prop
  | refl (s : Int) : To d s s
  | step {s u t : Int} : u ∈ nxR d s → To d u t → To d s t
theorem To.trans {d : DfaD} {a b c : Int} (h : To d a b) (k : To d b c) : To d a c := by
  induction h with
  | refl s => exact k
  | step hu _ ih => exact .step hu (ih k)
theorem To.snoc {d : DfaD} {a b c : Int} (h : To d a b) (k : c ∈ nxR d b) : To d a c := h.trans (.step k (.refl c))
theorem To.bd {d : DfaD} (hr : rightB d = true) {a b : Int} (h : To d a b) (h0 : 0 ≤ a ∧ a < (d.acc.length : Int)) : 0 ≤ b ∧ b < (d.acc.length : Int) := by
  induction h with
  | refl s => exact h0
  | step hu _ ih => exact ih (nxR_bd hr h0.1 h0.2 hu)

/-- Behind k states and j classes of the next one: who comes where. -/
structure PrB (d : DfaD) (ps : List (LR Int)) (k j : Nat) : Prop where
  len : ps.length = d.acc.length
  mem : ∀ t : Nat, t < d.acc.length → ∀ x : Int, x ∈ (ps.getD t lr0).xs ↔ (∃ s : Nat, s < k ∧ x = (s : Int) ∧ (t : Int) ∈ nxR d s) ∨ (x = (k : Int) ∧ (t : Int) ∈ (nxR d k).take j)
  size : ∀ t : Nat, (ps.getD t lr0).xs.length ≤ k * (usedI d).length + j
theorem PrB.start (d : DfaD) : PrB d (List.replicate d.acc.length lr0) 0 0 := by
  have e : ∀ t : Nat, ((List.replicate d.acc.length (lr0 : LR Int)).getD t lr0).xs = [] := fun t => by
    simp only [List.getD_eq_getElem?_getD, List.getElem?_replicate]; split <;> rfl
  refine ⟨by simp, fun t ht x => ?_, fun t => by rw [e]; simp⟩
  rw [e]
  constructor
  · intro h; simp at h
  · rintro (⟨s, hs, _⟩ | ⟨_, h⟩)
    · omega
    · simp at h
theorem take_one_getD {l : List Int} {k : Nat} (h : k < l.length) : l.take (k + 1) = l.take k ++ [l.getD k 0] := by
  rw [List.take_add_one, List.getElem?_eq_getElem h]; simp [List.getD_eq_getElem?_getD, List.getElem?_eq_getElem h]
theorem getD_setLP {ps : List (LR Int)} {q t : Nat} {p : LR Int} (hq : q < ps.length) : (ps.set q p).getD t lr0 = if q = t then p else ps.getD t lr0 := by
  simp only [List.getD_eq_getElem?_getD, List.getElem?_set]
  split
  · rename_i e; subst e; simp [hq]
  · rfl
theorem PrB.step {d : DfaD} {ps : List (LR Int)} {k j q : Nat} {a : Option Addr} {c m : Nat} (h : PrB d ps k j) (hj : j < (usedI d).length) (hq : d.next.getD (((k : Nat) : Int) * d.width + (usedI d).getD j 0).toNat 0 = (q : Int)) (hqn : q < d.acc.length) :
    PrB d (ps.set q ⟨a, m, c, (ps.getD q lr0).xs ++ [(k : Int)]⟩) k (j + 1) := by
  have hlen : q < ps.length := by rw [h.len]; exact hqn
  have hnl : (nxR d k).length = (usedI d).length := by simp [nxR]
  have htk : (nxR d k).take (j + 1) = (nxR d k).take j ++ [(q : Int)] := by
    rw [take_one_getD (by omega)]
    have : (nxR d k).getD j 0 = (q : Int) := by
      rw [← hq]; simp [nxR, List.getD_eq_getElem?_getD, List.getElem?_eq_getElem hj]
    rw [this]
  refine ⟨by simp [h.len], fun t ht x => ?_, fun t => ?_⟩
  · rw [getD_setLP hlen, htk]
    by_cases e : q = t
    · subst e
      rw [if_pos rfl]
      simp only [List.mem_append, List.mem_singleton]
      rw [h.mem q ht x]
      constructor
      · rintro ((c | c) | c)
        · exact .inl c
        · exact .inr ⟨c.1, by simp⟩
        · exact .inr ⟨c, by simp⟩
      · rintro (c | c)
        · exact .inl (.inl c)
        · first | exact .inr c | exact .inr c.1
    · rw [if_neg e, h.mem t ht x]
      simp only [List.mem_append, List.mem_singleton]
      constructor
      · rintro (c | ⟨c, c2⟩)
        · exact .inl c
        · exact .inr ⟨c, .inl c2⟩
      · rintro (c | ⟨c, c2 | c2⟩)
        · exact .inl c
        · exact .inr ⟨c, c2⟩
        · exfalso; omega
  · rw [getD_setLP hlen]
    split
    · rename_i e; subst e; have := h.size q; show ((ps.getD q lr0).xs ++ [(k : Int)]).length ≤ _; rw [List.length_append, List.length_singleton]; omega
    · have := h.size t; omega
theorem PrB.next {d : DfaD} {ps : List (LR Int)} {k j : Nat} (h : PrB d ps k j) (hj : ¬ j < (usedI d).length) (hj2 : j ≤ (usedI d).length) : PrB d ps (k + 1) 0 := by
  have hnl : (nxR d k).length = (usedI d).length := by simp [nxR]
  refine ⟨h.len, fun t ht x => ?_, fun t => ?_⟩
  · rw [h.mem t ht x, List.take_of_length_le (l := nxR d k) (i := j) (by omega), List.take_zero]
    constructor
    · rintro (⟨s, h1, h2, h3⟩ | ⟨h1, h2⟩)
      · exact .inl ⟨s, by omega, h2, h3⟩
      · exact .inl ⟨k, by omega, h1, h2⟩
    · rintro (⟨s, h1, h2, h3⟩ | ⟨_, h⟩)
      · by_cases e : s = k
        · subst e; exact .inr ⟨h2, h3⟩
        · exact .inl ⟨s, by omega, h2, h3⟩
      · simp at h
  · have h1 := h.size t
    have h2 : (k + 1) * (usedI d).length = k * (usedI d).length + (usedI d).length := by rw [Nat.add_mul, Nat.one_mul]
    omega
theorem PrB.fin {d : DfaD} {ps : List (LR Int)} {k : Nat} (h : PrB d ps k 0) (hk : k = d.acc.length) (t : Nat) (ht : t < d.acc.length) (x : Int) :
    x ∈ (ps.getD t lr0).xs ↔ ∃ s : Nat, s < d.acc.length ∧ x = (s : Int) ∧ (t : Int) ∈ nxR d s := by
  subst hk
  rw [h.mem t ht x]; simp

/-- The states that accept, the first k of all. -/
def accL (d : DfaD) (k : Nat) : List Int := List.map (fun i : Nat => (i : Int)) (List.filter (fun i : Nat => d.acc.getD i false) (List.range k))
theorem accL_yes {d : DfaD} {k : Nat} (h : d.acc.getD k false = true) : accL d k ++ [(k : Int)] = accL d (k + 1) := by
  rw [List.getD_eq_getElem?_getD] at h; simp [accL, List.range_succ, List.filter_append, h]
theorem accL_no {d : DfaD} {k : Nat} (h : ¬ d.acc.getD k false = true) : accL d k = accL d (k + 1) := by
  rw [List.getD_eq_getElem?_getD] at h; simp [accL, List.range_succ, List.filter_append, h]
theorem accL_len (d : DfaD) (k : Nat) : (accL d k).length ≤ k := by
  have := List.length_filter_le (fun i => d.acc.getD i false) (List.range k)
  simp only [accL, List.length_map]; simpa using this
theorem accL_mem {d : DfaD} {k : Nat} {x : Int} : x ∈ accL d k ↔ ∃ f : Nat, f < k ∧ d.acc.getD f false = true ∧ x = (f : Int) := by
  simp only [accL, List.mem_map, List.mem_filter, List.mem_range]
  constructor
  · rintro ⟨a, ⟨h1, h2⟩, rfl⟩; exact ⟨a, h1, h2, rfl⟩
  · rintro ⟨a, h1, h2, rfl⟩; exact ⟨a, ⟨h1, h2⟩, rfl⟩
def psN (ps : List (LR Int)) (x : Int) : List Int := (ps.getD x.toNat lr0).xs
def LiveP (d : DfaD) (o : List Bool) : Prop := (rightB d = false → o = []) ∧ (rightB d = true → o.length = d.acc.length ∧ ∀ s : Nat, s < d.acc.length → (o.getD s false = true ↔ ∃ f : Nat, f < d.acc.length ∧ d.acc.getD f false = true ∧ To d s f))
def ReachP (d : DfaD) (o : List Bool) : Prop := (rightB d = false → o = []) ∧ (rightB d = true → o.length = d.acc.length ∧ ∀ s : Nat, s < d.acc.length → (o.getD s false = true ↔ To d d.start s))
theorem live_of {d : DfaD} {ps : List (LR Int)} {o : List Bool} {k : Nat} (hr : rightB d = true) (h : PrB d ps k 0) (hk : k = d.acc.length) (hs : SprF (psN ps) d.acc.length (accL d d.acc.length) o) : LiveP d o := by
  refine ⟨fun h => (by rw [hr] at h; cases h), fun _ => ⟨hs.len, fun s hsl => ⟨fun ho => ?_, ?_⟩⟩⟩
  · have := hs.min (fun x => ∃ s : Nat, x = (s : Int) ∧ s < d.acc.length ∧ ∃ f : Nat, f < d.acc.length ∧ d.acc.getD f false = true ∧ To d s f)
      (fun t ht => by obtain ⟨f, h1, h2, rfl⟩ := accL_mem.1 ht; exact ⟨f, rfl, h1, f, h1, h2, .refl _⟩)
      (fun x hx t ht => by
        obtain ⟨s, rfl, h1, f, h2, h3, h4⟩ := hx
        obtain ⟨s', h5, rfl, h6⟩ := (h.fin hk s h1 t).1 (by simpa [psN] using ht)
        exact ⟨s', rfl, h5, f, h2, h3, .step h6 h4⟩) s ho
    obtain ⟨s', e, _, f, h2, h3, h4⟩ := this
    exact ⟨f, h2, h3, by rw [e]; exact h4⟩
  · rintro ⟨f, h1, h2, h3⟩
    have key : ∀ a b : Int, To d a b → b = (f : Int) → 0 ≤ a ∧ a < (d.acc.length : Int) → o.getD a.toNat false = true := by
      intro a b hab
      induction hab with
      | refl s => intro e _; subst e; exact hs.init _ (accL_mem.2 ⟨f, h1, h2, rfl⟩)
      | @step a u t hu _ ih =>
        intro e ha
        have hub := nxR_bd hr ha.1 ha.2 hu
        have ho := ih e hub
        refine hs.clo u.toNat ho a ?_
        show a ∈ psN ps (u.toNat : Int)
        simp only [psN, Int.toNat_natCast]
        refine (h.fin hk u.toNat (by omega) a).2 ⟨a.toNat, by omega, by omega, ?_⟩
        rw [Int.toNat_of_nonneg ha.1, Int.toNat_of_nonneg hub.1]; exact hu
    have := key s f h3 rfl ⟨by omega, by omega⟩
    simpa using this
theorem reach_of {d : DfaD} {o : List Bool} (hr : rightB d = true) (hs : SprF (nxR d) d.acc.length [d.start] o) : ReachP d o := by
  have hri := rightB_iff.1 hr
  refine ⟨fun h => (by rw [hr] at h; cases h), fun _ => ⟨hs.len, fun s hsl => ⟨fun ho => ?_, fun ht => ?_⟩⟩⟩
  · exact hs.min (fun x => To d d.start x) (fun t ht => by simp only [List.mem_singleton] at ht; subst ht; exact .refl _) (fun x hx t ht => hx.snoc ht) s ho
  · have key : ∀ a b : Int, To d a b → 0 ≤ a ∧ a < (d.acc.length : Int) → o.getD a.toNat false = true → o.getD b.toNat false = true := by
      intro a b hab
      induction hab with
      | refl s => intro _ h; exact h
      | @step a u t hu _ ih =>
        intro ha h
        have hub := nxR_bd hr ha.1 ha.2 hu
        refine ih hub (hs.clo a.toNat h u ?_)
        rw [Int.toNat_of_nonneg ha.1]; exact hu
    have := key _ _ ht ⟨hri.1.2.2.2.2.2.2.1, hri.1.2.2.2.2.2.2.2⟩ (hs.init _ (by simp))
    simpa using this
def oneD : DfaD := ⟨List.replicate 259 0, 1, 0, [0], [true]⟩
theorem oneD_right : rightB oneD = true := by decide +kernel
theorem LiveP.one {o : List Bool} (h : LiveP oneD o) : o.length = 1 ∧ o.getD 0 false = true := by
  obtain ⟨h1, h2⟩ := h.2 oneD_right
  exact ⟨h1, (h2 0 (by decide)).2 ⟨0, by decide, rfl, .refl _⟩⟩
theorem ReachP.one {o : List Bool} (h : ReachP oneD o) : o.length = 1 ∧ o.getD 0 false = true := by
  obtain ⟨h1, h2⟩ := h.2 oneD_right
  exact ⟨h1, (h2 0 (by decide)).2 (.refl _)⟩
theorem manyRd_keep {w w' w'' : World} {L A : List Chunk} {G : List (List Chunk)} {σ α : Type} {I : Inn σ α} {ps : List σ} (h : UpG w L w' G) (i j : Nat) (hij : Nat.beq i j = false) (hi : G[i]? = some A) (hj : G[j]? = some [manyF I.row ps]) (k : Keep (ats A) w' w'') : I.Rd w'' ps := by
  have h2 := h.hp2 i j hij hi hj
  refine Inn.own (h2.right.keep k fun g hg hm => h2.apart hm hg)
theorem closO_of {P : Program} {f : FuncId} {fc : List Value} {ps : List (LR Int)} {n : Nat} {S : List Nat} {w : World}
    (hc : ∀ w', Keep S w w' → ∀ x : Int, 0 ≤ x → x < (n : Int) → Calls P f (#[.int .i64 x] ++ fc.toArray) w' (Ret fun v w'' => v = .slice (ps.getD x.toNat lr0).a (ps.getD x.toNat lr0).n (ps.getD x.toNat lr0).c ∧ Upd w' [] w'' []))
    (hr : ∀ w', Keep S w w' → (inLR (tyI .i64) 3).Rd w' ps) (hn : n ≤ ps.length) : ClosO P f fc (psN ps) n S w := fun w' k x h0 h1 => by
  refine (hc w' k x h0 h1).mono ?_
  rintro e w3 ⟨v, rfl, hv, hu⟩
  have rd : ∀ w', Keep S w w' → RdT (tyI .i64) w' (.slice (ps.getD x.toNat lr0).a (ps.getD x.toNat lr0).n (ps.getD x.toNat lr0).c) (ps.getD x.toNat lr0).xs := fun w' k' => (hr w' k').get lr0 x.toNat (by omega)
  have hl := (rd w' k).len
  refine ⟨_, rfl, (ps.getD x.toNat lr0).a, (ps.getD x.toNat lr0).c, ?_, hu, fun w4 k4 => ?_⟩
  · rw [hv, hl]; rfl
  · have h2 := rd w4 k4; rw [hl] at h2; exact h2
end Go.Proofs.Ytoeockpkkmgieaa


/- Proved here: the document's table of who comes where, as data: what its loops keep, and that it is 'one comes there'. Conditions: those of each theorem. -/
namespace Go.Proofs.Ytoeockpkkmgieaa
open Go Go.Sx
set_option linter.unusedVariables false
set_option linter.unusedSimpArgs false
def cellB (X : List (LR Bool)) (r c : Nat) : Bool := (X.getD r lr0).xs.getD c false
theorem nxR_mem {d : DfaD} {s t : Int} : t ∈ nxR d s ↔ ∃ i, i < d.cls.length ∧ d.next.getD (s * d.width + d.cls.getD i 0).toNat 0 = t := by
  simp only [nxR, List.mem_map, used_mem]
  constructor
  · rintro ⟨c, hc, rfl⟩
    obtain ⟨i, hi, rfl⟩ := List.mem_iff_getElem.1 hc
    exact ⟨i, hi, by simp [List.getD_eq_getElem?_getD, hi]⟩
  · rintro ⟨i, hi, rfl⟩
    exact ⟨d.cls.getD i 0, by simp [List.getD_eq_getElem?_getD, hi], rfl⟩
/-- One row, behind some symbols. -/
structure RwI (d : DfaD) (s : Nat) (q : List Bool) (k : Nat) : Prop where
  len : q.length = d.acc.length
  val : ∀ c : Nat, c < d.acc.length → (q.getD c false = true ↔ c = s ∨ ∃ i, i < k ∧ d.next.getD ((s : Int) * d.width + d.cls.getD i 0).toNat 0 = (c : Int))
theorem getD_setB {q : List Bool} {i j : Nat} {b : Bool} (hi : i < q.length) : (q.set i b).getD j false = if i = j then b else q.getD j false := by
  simp only [List.getD_eq_getElem?_getD, List.getElem?_set]
  split
  · rename_i e; subst e; simp [hi]
  · rfl
theorem RwI.start {d : DfaD} {s : Nat} (hs : s < d.acc.length) : RwI d s ((List.replicate d.acc.length false).set s true) 0 := by
  refine ⟨by simp, fun c hc => ?_⟩
  rw [getD_setB (by simpa using hs)]
  split
  · rename_i e; simp [e]
  · rename_i e
    have : (List.replicate d.acc.length false).getD c false = false := by simp [List.getD_eq_getElem?_getD, hc]
    rw [this]
    constructor
    · intro h; cases h
    · rintro (h | ⟨i, h, _⟩)
      · exact absurd h.symm e
      · omega
theorem RwI.step {d : DfaD} {s k x : Nat} {q : List Bool} (h : RwI d s q k) (hx : d.next.getD ((s : Int) * d.width + d.cls.getD k 0).toNat 0 = (x : Int)) (hxn : x < d.acc.length) : RwI d s (q.set x true) (k + 1) := by
  refine ⟨by simp [h.len], fun c hc => ?_⟩
  rw [getD_setB (by rw [h.len]; exact hxn)]
  split
  · rename_i e; subst e
    exact ⟨fun _ => .inr ⟨k, by omega, hx⟩, fun _ => rfl⟩
  · rename_i e
    rw [h.val c hc]
    constructor
    · rintro (h1 | ⟨i, h1, h2⟩)
      · exact .inl h1
      · exact .inr ⟨i, by omega, h2⟩
    · rintro (h1 | ⟨i, h1, h2⟩)
      · exact .inl h1
      · by_cases hi : i = k
        · subst hi; rw [hx] at h2; omega
        · exact .inr ⟨i, by omega, h2⟩
/-- Who comes where over states below m alone. -/
def WM (d : DfaD) : Nat → Nat → Nat → Prop
  | 0, i, k => k = i ∨ (k : Int) ∈ nxR d i
  | m + 1, i, k => WM d m i k ∨ (WM d m i m ∧ WM d m m k)
theorem WM.up {d : DfaD} {i k : Nat} : ∀ {m n : Nat}, m ≤ n → WM d m i k → WM d n i k
  | m, 0, h, w => by have : m = 0 := by omega
                     subst this; exact w
  | m, n + 1, h, w => by
    by_cases e : m = n + 1
    · subst e; exact w
    · exact .inl (WM.up (by omega) w)
theorem WM.to {d : DfaD} : ∀ {m i k : Nat}, WM d m i k → To d i k
  | 0, i, k, h => by
    rcases h with rfl | h
    · exact .refl _
    · exact .step h (.refl _)
  | m + 1, i, k, h => by
    rcases h with h | ⟨h1, h2⟩
    · exact WM.to h
    · exact (WM.to h1).trans (WM.to h2)
theorem WM.trans {d : DfaD} : ∀ {m i j k : Nat}, j < m → WM d m i j → WM d m j k → WM d m i k
  | m + 1, i, j, k, hj, h1, h2 => by
    by_cases e : j = m
    · subst e
      have a : WM d j i j := by rcases h1 with h | ⟨h, _⟩ <;> exact h
      have b : WM d j j k := by rcases h2 with h | ⟨_, h⟩ <;> exact h
      exact .inr ⟨a, b⟩
    · have hj' : j < m := by omega
      rcases h1 with a | ⟨a, a2⟩ <;> rcases h2 with b | ⟨b, b2⟩
      · exact .inl (WM.trans hj' a b)
      · exact .inr ⟨WM.trans hj' a b, b2⟩
      · exact .inr ⟨a, WM.trans hj' a2 b⟩
      · exact .inr ⟨a, b2⟩
theorem WM.iff {d : DfaD} (hr : rightB d = true) {i k : Nat} (hi : i < d.acc.length) : WM d d.acc.length i k ↔ To d i k := by
  refine ⟨WM.to, fun h => ?_⟩
  have key : ∀ a b : Int, To d a b → 0 ≤ a ∧ a < (d.acc.length : Int) → WM d d.acc.length a.toNat b.toNat := by
    intro a b hab
    induction hab with
    | refl s => intro _; exact WM.up (Nat.zero_le _) (.inl rfl)
    | @step a u t hu _ ih =>
      intro ha
      have hub := nxR_bd hr ha.1 ha.2 hu
      refine WM.trans (j := u.toNat) (by omega) (WM.up (Nat.zero_le _) (.inr ?_)) (ih hub)
      rw [Int.toNat_of_nonneg ha.1, Int.toNat_of_nonneg hub.1]; exact hu
  have := key _ _ h ⟨by omega, by omega⟩
  simpa using this
/-- The table's first form, the first s rows. -/
structure CmS (d : DfaD) (X : List (LR Bool)) (s : Nat) : Prop where
  len : X.length = s
  row : ∀ r, r < s → (X.getD r lr0).xs.length = d.acc.length
  val : ∀ r c, r < s → c < d.acc.length → (cellB X r c = true ↔ WM d 0 r c)
theorem CmS.start (d : DfaD) : CmS d [] 0 := ⟨rfl, fun r h => by omega, fun r c h => by omega⟩
theorem getD_append_LR {X : List (LR Bool)} {p : LR Bool} {r : Nat} : (X ++ [p]).getD r lr0 = if r < X.length then X.getD r lr0 else if r = X.length then p else lr0 := by
  simp only [List.getD_eq_getElem?_getD, List.getElem?_append]
  split
  · rfl
  · split
    · rename_i h1 h2; subst h2; simp
    · rename_i h1 h2; rw [List.getElem?_eq_none (by simp; omega)]; rfl
theorem CmS.step {d : DfaD} {X : List (LR Bool)} {s n c k : Nat} {a : Option Addr} {q : List Bool} (h : CmS d X s) (hq : RwI d s q k) (hk : k = d.cls.length) : CmS d (X ++ [⟨a, n, c, q⟩]) (s + 1) := by
  subst hk
  refine ⟨by simp [h.len], fun r hr => ?_, fun r c hr hc => ?_⟩
  · rw [getD_append_LR, h.len]
    split
    · rename_i h1; exact h.row r h1
    · rw [if_pos (by omega)]; exact hq.len
  · unfold cellB
    rw [getD_append_LR, h.len]
    split
    · rename_i h1; exact h.val r c h1 hc
    · have e : r = s := by omega
      subst e
      rw [if_pos rfl]
      show q.getD c false = true ↔ _
      rw [hq.val c hc]
      simp only [WM, nxR_mem]
/-- Within the table's turning. -/
structure CmI (d : DfaD) (X : List (LR Bool)) (m i k : Nat) : Prop where
  len : X.length = d.acc.length
  row : ∀ r, r < d.acc.length → (X.getD r lr0).xs.length = d.acc.length
  val : ∀ r c, r < d.acc.length → c < d.acc.length → (cellB X r c = true ↔ if r < i ∨ r = i ∧ c < k then WM d (m + 1) r c else WM d m r c)
  act : k = 0 ∨ WM d m i m
theorem CmS.done {d : DfaD} {X : List (LR Bool)} {s : Nat} (h : CmS d X s) (hs : s = d.acc.length) : CmI d X 0 0 0 := by
  subst hs
  exact ⟨h.len, h.row, fun r c hr hc => by rw [if_neg (by omega)]; exact h.val r c hr hc, .inl rfl⟩
theorem CmI.col {d : DfaD} {X : List (LR Bool)} {m i k : Nat} (h : CmI d X m i k) (hi : i < d.acc.length) (hm : m < d.acc.length) : cellB X i m = true ↔ WM d m i m := by
  rw [h.val i m hi hm]
  split
  · exact ⟨fun h => by rcases h with h | ⟨h, _⟩ <;> exact h, .inl⟩
  · rfl
theorem CmI.mid {d : DfaD} {X : List (LR Bool)} {m i k c : Nat} (h : CmI d X m i k) (hm : m < d.acc.length) (hc : c < d.acc.length) : cellB X m c = true ↔ WM d m m c := by
  rw [h.val m c hm hc]
  split
  · exact ⟨fun h => by rcases h with h | ⟨_, h⟩ <;> exact h, .inl⟩
  · rfl
theorem CmI.step {d : DfaD} {X : List (LR Bool)} {m i k : Nat} {b : Bool} (h : CmI d X m i k) (hm : m < d.acc.length) (hi : i < d.acc.length) (hk : k < d.acc.length) (ha : cellB X i m = true) (hb : b = (cellB X i k || cellB X m k)) :
    CmI d (X.set i ⟨(X.getD i lr0).a, (X.getD i lr0).n, (X.getD i lr0).c, (X.getD i lr0).xs.set k b⟩) m i (k + 1) := by
  have hil : i < X.length := by rw [h.len]; exact hi
  have hg : ∀ r, (X.set i ⟨(X.getD i lr0).a, (X.getD i lr0).n, (X.getD i lr0).c, (X.getD i lr0).xs.set k b⟩).getD r lr0 = if i = r then ⟨(X.getD i lr0).a, (X.getD i lr0).n, (X.getD i lr0).c, (X.getD i lr0).xs.set k b⟩ else X.getD r lr0 := fun r => by
    simp only [List.getD_eq_getElem?_getD, List.getElem?_set]
    split
    · rename_i e; subst e; simp [hil]
    · rfl
  have ha' := (h.col hi hm).1 ha
  refine ⟨by simp [h.len], fun r hr => ?_, fun r c hr hc => ?_, .inr ha'⟩
  · rw [hg]
    split
    · rename_i e; subst e; show ((X.getD i lr0).xs.set k b).length = _; rw [List.length_set]; exact h.row i hr
    · exact h.row r hr
  · unfold cellB
    rw [hg]
    split
    · rename_i e; subst e
      show ((X.getD i lr0).xs.set k b).getD c false = true ↔ _
      rw [getD_setB (by rw [h.row i hi]; exact hk)]
      have hv := h.val i c hi hc
      split
      · rename_i e; subst e
        rw [if_pos (by omega), hb, Bool.or_eq_true, h.mid hm hc, hv, if_neg (by omega)]
        show _ ↔ WM d m i k ∨ _ ∧ _
        constructor
        · rintro (h1 | h1)
          · exact .inl h1
          · exact .inr ⟨ha', h1⟩
        · rintro (h1 | ⟨_, h1⟩)
          · exact .inl h1
          · exact .inr h1
      · rename_i e
        show cellB X i c = true ↔ _
        rw [hv]
        by_cases hck : c < k
        · rw [if_pos (by omega), if_pos (by omega)]
        · rw [if_neg (by omega), if_neg (by omega)]
    · rename_i e
      show cellB X r c = true ↔ _
      rw [h.val r c hr hc]
      by_cases hck : r < i
      · rw [if_pos (by omega), if_pos (by omega)]
      · rw [if_neg (by omega), if_neg (by omega)]
/-- The table. -/
structure ComesP (d : DfaD) (X : List (LR Bool)) : Prop where
  len : X.length = d.acc.length
  row : ∀ r, r < d.acc.length → (X.getD r lr0).xs.length = d.acc.length
  val : ∀ r c, r < d.acc.length → c < d.acc.length → (cellB X r c = true ↔ To d r c)
theorem CmI.fin {d : DfaD} {X : List (LR Bool)} {m : Nat} (hr : rightB d = true) (h : CmI d X m 0 0) (hm : m = d.acc.length) : ComesP d X := by
  subst hm
  exact ⟨h.len, h.row, fun r c h1 h2 => by rw [h.val r c h1 h2, if_neg (by omega), WM.iff hr h1]⟩
end Go.Proofs.Ytoeockpkkmgieaa


/- When two states of an automaton are not alike: by words of any length, and by short ones. Conditions: those of each theorem. -/
namespace Go.Proofs.Ytoeockpkkmgieaa
open Go Go.Sx
set_option linter.unusedVariables false
set_option linter.unusedSimpArgs false
def dN (d : DfaD) (i : Nat) (c : Int) : Nat := (stepD d (i : Int) c).toNat
def disT (d : DfaD) : Nat → Nat → Nat → Prop
  | 0, i, k => d.acc.getD i false ≠ d.acc.getD k false
  | t + 1, i, k => disT d t i k ∨ ∃ c : Int, (0 ≤ c ∧ c < 259) ∧ disT d t (dN d i c) (dN d k c)
def Dis (d : DfaD) (i k : Nat) : Prop := ∃ t, disT d t i k
theorem disT_mono {d : DfaD} {i k s : Nat} : ∀ {t : Nat}, s ≤ t → disT d s i k → disT d t i k
  | 0, h, w => by have : s = 0 := by omega
                  subst this; exact w
  | t + 1, h, w => by
    by_cases e : s = t + 1
    · subst e; exact w
    · exact .inl (disT_mono (by omega) w)
theorem disT_symm {d : DfaD} : ∀ {t i k : Nat}, disT d t i k → disT d t k i
  | 0, _, _, h => Ne.symm h
  | t + 1, _, _, h => by
    rcases h with h | ⟨c, hc, h⟩
    · exact .inl (disT_symm h)
    · exact .inr ⟨c, hc, disT_symm h⟩
theorem disT_irr {d : DfaD} : ∀ {t i : Nat}, ¬ disT d t i i
  | 0, _, h => h rfl
  | t + 1, _, h => by
    rcases h with h | ⟨c, hc, h⟩
    · exact disT_irr h
    · exact disT_irr h
theorem disT_part {d : DfaD} : ∀ {t i k : Nat} (j : Nat), disT d t i k → disT d t i j ∨ disT d t j k
  | 0, i, k, j, h => by
    show d.acc.getD i false ≠ d.acc.getD j false ∨ d.acc.getD j false ≠ d.acc.getD k false
    by_cases e : d.acc.getD i false = d.acc.getD j false
    · exact .inr (fun e2 => h (e.trans e2))
    · exact .inl e
  | t + 1, i, k, j, h => by
    rcases h with h | ⟨c, hc, h⟩
    · rcases disT_part j h with h | h
      · exact .inl (.inl h)
      · exact .inr (.inl h)
    · rcases disT_part (dN d j c) h with h | h
      · exact .inl (.inr ⟨c, hc, h⟩)
      · exact .inr (.inr ⟨c, hc, h⟩)
theorem dN_lt {d : DfaD} (hr : rightB d = true) {i : Nat} (hi : i < d.acc.length) {c : Int} (hc : 0 ≤ c ∧ c < 259) : dN d i c < d.acc.length := by
  have hs := right_sym hr hc.1 hc.2
  have h9 := right_idx (q := (i : Int)) hr (by omega) (by omega) hs.2.1 hs.2.2.1
  have h1 : 0 ≤ stepD d (i : Int) c ∧ stepD d (i : Int) c < (d.acc.length : Int) := ⟨h9.2.2.2.1, h9.2.2.2.2⟩
  unfold dN; omega
theorem dN_int {d : DfaD} (hr : rightB d = true) {i : Nat} (hi : i < d.acc.length) {c : Int} (hc : 0 ≤ c ∧ c < 259) : ((dN d i c : Nat) : Int) = stepD d (i : Int) c := by
  have hs := right_sym hr hc.1 hc.2
  have h9 := right_idx (q := (i : Int)) hr (by omega) (by omega) hs.2.1 hs.2.2.1
  have h1 : 0 ≤ stepD d (i : Int) c ∧ stepD d (i : Int) c < (d.acc.length : Int) := ⟨h9.2.2.2.1, h9.2.2.2.2⟩
  unfold dN; omega
theorem dis_stable {d : DfaD} (hr : rightB d = true) {t : Nat} (h : ∀ i k, i < d.acc.length → k < d.acc.length → disT d (t + 1) i k → disT d t i k) : ∀ (s i k : Nat), i < d.acc.length → k < d.acc.length → disT d (t + s) i k → disT d t i k
  | 0, i, k, _, _, w => w
  | s + 1, i, k, hi, hk, w => by
    rcases w with w | ⟨c, hc, w⟩
    · exact dis_stable hr h s i k hi hk w
    · exact h i k hi hk (.inr ⟨c, hc, dis_stable hr h s _ _ (dN_lt hr hi hc) (dN_lt hr hk hc) w⟩)
theorem least_of (P : Nat → Prop) : ∀ j, P j → ∃ r, r ≤ j ∧ P r ∧ ∀ k, k < r → ¬ P k := by
  intro j
  induction j using Nat.strongRecOn with
  | _ j ih =>
    intro hj
    by_cases h : ∃ k, k < j ∧ P k
    · obtain ⟨k, hk, hp⟩ := h
      obtain ⟨r, h1, h2, h3⟩ := ih k hk hp
      exact ⟨r, by omega, h2, h3⟩
    · exact ⟨j, Nat.le_refl j, hj, fun k hk hp => h ⟨k, hk, hp⟩⟩
def repT (d : DfaD) (t i : Nat) : Prop := ∀ k, k < i → disT d t k i
theorem repT_mono {d : DfaD} {t i : Nat} (h : repT d t i) : repT d (t + 1) i := fun k hk => .inl (h k hk)
open Classical in
theorem filter_lt {p q : Nat → Prop} : ∀ (l : List Nat), (∀ x, p x → q x) → (∃ x, x ∈ l ∧ q x ∧ ¬ p x) → (l.filter fun x => decide (p x)).length < (l.filter fun x => decide (q x)).length := by
  have le : ∀ (l : List Nat), (∀ x, p x → q x) → (l.filter fun x => decide (p x)).length ≤ (l.filter fun x => decide (q x)).length := by
    intro l h
    induction l with
    | nil => exact Nat.le_refl _
    | cons a l ih =>
      by_cases hp : p a
      · rw [List.filter_cons_of_pos (by simpa using hp), List.filter_cons_of_pos (by simpa using h a hp)]
        simp only [List.length_cons]; omega
      · rw [List.filter_cons_of_neg (by simpa using hp)]
        by_cases hq : q a
        · rw [List.filter_cons_of_pos (by simpa using hq)]; simp only [List.length_cons]; omega
        · rw [List.filter_cons_of_neg (by simpa using hq)]; exact ih
  intro l h
  induction l with
  | nil => rintro ⟨x, hx, _⟩; simp at hx
  | cons a l ih =>
    rintro ⟨x, hx, hqx, hpx⟩
    by_cases hp : p a
    · rw [List.filter_cons_of_pos (by simpa using hp), List.filter_cons_of_pos (by simpa using h a hp)]
      rcases List.mem_cons.1 hx with rfl | hx
      · exact absurd hp hpx
      · have := ih ⟨x, hx, hqx, hpx⟩; simp only [List.length_cons]; omega
    · rw [List.filter_cons_of_neg (by simpa using hp)]
      by_cases hq : q a
      · rw [List.filter_cons_of_pos (by simpa using hq)]
        have := le l h; simp only [List.length_cons]; omega
      · rw [List.filter_cons_of_neg (by simpa using hq)]
        rcases List.mem_cons.1 hx with rfl | hx
        · exact absurd hqx hq
        · exact ih ⟨x, hx, hqx, hpx⟩
open Classical in
noncomputable def cntT (d : DfaD) (t : Nat) : Nat := ((List.range d.acc.length).filter fun i => decide (repT d t i)).length
theorem cntT_le (d : DfaD) (t : Nat) : cntT d t ≤ d.acc.length := by
  unfold cntT; exact Nat.le_trans (List.length_filter_le _ _) (by simp)
theorem cntT_lt {d : DfaD} {t i k : Nat} (hi : i < d.acc.length) (hk : k < d.acc.length) (h1 : disT d (t + 1) i k) (h0 : ¬ disT d t i k) : cntT d t < cntT d (t + 1) := by
  obtain ⟨m, hm1, hm2, hm3⟩ := least_of (fun x => ¬ disT d t x i) i disT_irr
  have hrm : repT d t m := fun x hx => by
    have h9 : disT d t x i := Classical.not_not.1 (hm3 x hx)
    rcases disT_part m h9 with h | h
    · exact h
    · exact absurd h hm2
  have key : ∀ j, j < d.acc.length → ¬ disT d t m j → disT d (t + 1) m j → ∃ x, x ∈ List.range d.acc.length ∧ repT d (t + 1) x ∧ ¬ repT d t x := by
    intro j hj hn hd
    obtain ⟨r, hr1, hr2, hr3⟩ := least_of (fun x => ¬ disT d (t + 1) x j) j disT_irr
    refine ⟨r, List.mem_range.2 (by omega), fun x hx => ?_, fun hrr => ?_⟩
    · have h9 : disT d (t + 1) x j := Classical.not_not.1 (hr3 x hx)
      rcases disT_part r h9 with h | h
      · exact h
      · exact absurd h hr2
    · have e1 : ¬ disT d t r j := fun h => hr2 (.inl h)
      have e2 : ¬ disT d t r m := fun h => by
        rcases disT_part j h with h | h
        · exact e1 h
        · exact hn (disT_symm h)
      rcases Nat.lt_trichotomy r m with h | h | h
      · exact e2 (hrm r h)
      · subst h; exact hr2 hd
      · exact e2 (disT_symm (hrr m h))
  unfold cntT
  refine filter_lt _ (fun x hx => repT_mono hx) ?_
  rcases disT_part m h1 with h | h
  · exact key i hi hm2 (disT_symm h)
  · refine key k hk (fun h9 => ?_) h
    rcases disT_part i h9 with h8 | h8
    · exact hm2 h8
    · exact h0 h8
theorem moore {d : DfaD} (hr : rightB d = true) {i k : Nat} (hi : i < d.acc.length) (hk : k < d.acc.length) (h : Dis d i k) : disT d d.acc.length i k := by
  have hst : ∃ t, t < d.acc.length ∧ ∀ i k, i < d.acc.length → k < d.acc.length → disT d (t + 1) i k → disT d t i k := by
    refine Classical.byContradiction fun hno => ?_
    have up : ∀ t, t ≤ d.acc.length → t + 1 ≤ cntT d t := by
      intro t
      induction t with
      | zero =>
        intro _
        have hm : 0 ∈ (List.range d.acc.length).filter (fun i => @decide (repT d 0 i) (Classical.propDecidable _)) := List.mem_filter.2 ⟨List.mem_range.2 (by omega), by simp only [decide_eq_true_eq]; intro k hk; omega⟩
        have := List.length_pos_of_mem hm
        unfold cntT; omega
      | succ t ih =>
        intro ht
        have h1 := ih (by omega)
        have h2 : ∃ i k, i < d.acc.length ∧ k < d.acc.length ∧ disT d (t + 1) i k ∧ ¬ disT d t i k := by
          refine Classical.byContradiction fun hn => hno ⟨t, by omega, fun i k hi hk hd => Classical.byContradiction fun h9 => hn ⟨i, k, hi, hk, hd, h9⟩⟩
        obtain ⟨i, k, hi, hk, hd, hn⟩ := h2
        have := cntT_lt hi hk hd hn
        omega
    have h1 := up d.acc.length (Nat.le_refl _)
    have h2 := cntT_le d d.acc.length
    omega
  obtain ⟨t, ht, hs⟩ := hst
  obtain ⟨s, hd⟩ := h
  have h9 := dis_stable hr hs s i k hi hk (disT_mono (by omega) hd)
  exact disT_mono (by omega) h9
/-! ### Heads of classes -/
structure HdI (d : DfaD) (q : List Int) (s : Nat) : Prop where
  bd : ∀ c, c ∈ q → 0 ≤ c ∧ c < (s : Int)
  all : ∀ k, k < s → ∃ c, c ∈ q ∧ d.cls.getD c.toNat 0 = d.cls.getD k 0
  len : q.length ≤ s
theorem HdI.start (d : DfaD) : HdI d [] 0 := ⟨fun c h => by simp at h, fun k h => by omega, by simp⟩
def isHd (d : DfaD) (q : List Int) (s k : Nat) : Bool := (q.take k).all fun c => decide (d.cls.getD c.toNat 0 ≠ d.cls.getD s 0)
theorem HdI.yes {d : DfaD} {q : List Int} {s : Nat} (h : HdI d q s) : HdI d (q ++ [(s : Int)]) (s + 1) := by
  refine ⟨fun c hc => ?_, fun k hk => ?_, by simp; exact h.len⟩
  · rcases List.mem_append.1 hc with hc | hc
    · have := h.bd c hc; omega
    · rw [List.mem_singleton.1 hc]; omega
  · by_cases e : k = s
    · subst e; exact ⟨(k : Int), by simp, by simp⟩
    · obtain ⟨c, hc, he⟩ := h.all k (by omega)
      exact ⟨c, List.mem_append_left _ hc, he⟩
theorem HdI.no {d : DfaD} {q : List Int} {s : Nat} (h : HdI d q s) (hb : isHd d q s q.length = false) : HdI d q (s + 1) := by
  refine ⟨fun c hc => by have := h.bd c hc; omega, fun k hk => ?_, by have := h.len; omega⟩
  by_cases e : k = s
  · subst e
    unfold isHd at hb
    rw [List.take_length] at hb
    obtain ⟨c, hc, he⟩ := List.all_eq_false.1 hb
    exact ⟨c, hc, by simpa using he⟩
  · exact h.all k (by omega)
/-! ### The table of states that are not alike -/
theorem dN_cls {d : DfaD} {i : Nat} {b c : Int} (h : d.cls.getD c.toNat 0 = d.cls.getD b.toNat 0) : dN d i b = dN d i c := by unfold dN stepD; rw [h]
structure UnI (d : DfaD) (X : List (LR Bool)) (t i k : Nat) : Prop where
  len : X.length = d.acc.length
  row : ∀ r, r < d.acc.length → (X.getD r lr0).xs.length = d.acc.length
  snd : ∀ r c, r < d.acc.length → c < d.acc.length → cellB X r c = true → Dis d r c
  cmp : ∀ r c, r < d.acc.length → c < d.acc.length → (if r < i ∨ r = i ∧ c < k then disT d (t + 1) r c else disT d t r c) → cellB X r c = true
theorem UnI.weak {d : DfaD} {X : List (LR Bool)} {t i k r c : Nat} (h : UnI d X t i k) (hr : r < d.acc.length) (hc : c < d.acc.length) (hd : disT d t r c) : cellB X r c = true := by
  refine h.cmp r c hr hc ?_
  split
  · exact .inl hd
  · exact hd
structure UnJ (d : DfaD) (h : List Int) (X : List (LR Bool)) (t i k j : Nat) : Prop where
  u : UnI d X t i k
  q : ∀ x, x < j → disT d t (dN d i (h.getD x 0)) (dN d k (h.getD x 0)) → cellB X i k = true
theorem UnJ.step {d : DfaD} {h : List Int} {X : List (LR Bool)} {t i k j : Nat} {b : Bool} (hr : rightB d = true) (u : UnJ d h X t i k j) (hi : i < d.acc.length) (hk : k < d.acc.length) (hj : 0 ≤ h.getD j 0 ∧ h.getD j 0 < 259) (hn : ¬ cellB X i k = true) (hb : b = cellB X (dN d i (h.getD j 0)) (dN d k (h.getD j 0))) :
    UnJ d h (X.set i ⟨(X.getD i lr0).a, (X.getD i lr0).n, (X.getD i lr0).c, (X.getD i lr0).xs.set k b⟩) t i k (j + 1) := by
  have hil : i < X.length := by rw [u.u.len]; exact hi
  have hg : ∀ r, (X.set i ⟨(X.getD i lr0).a, (X.getD i lr0).n, (X.getD i lr0).c, (X.getD i lr0).xs.set k b⟩).getD r lr0 = if i = r then ⟨(X.getD i lr0).a, (X.getD i lr0).n, (X.getD i lr0).c, (X.getD i lr0).xs.set k b⟩ else X.getD r lr0 := fun r => by
    simp only [List.getD_eq_getElem?_getD, List.getElem?_set]
    split
    · rename_i e; subst e; simp [hil]
    · rfl
  have hcell : ∀ r c, cellB (X.set i ⟨(X.getD i lr0).a, (X.getD i lr0).n, (X.getD i lr0).c, (X.getD i lr0).xs.set k b⟩) r c = if r = i ∧ c = k then b else cellB X r c := fun r c => by
    unfold cellB
    rw [hg]
    by_cases e : i = r
    · subst e
      rw [if_pos rfl]
      show ((X.getD i lr0).xs.set k b).getD c false = _
      rw [getD_setB (by rw [u.u.row i hi]; exact hk)]
      by_cases e2 : k = c
      · subst e2; simp
      · rw [if_neg (fun h => e2 h), if_neg (fun h => e2 h.2.symm)]
    · rw [if_neg e, if_neg (fun h => e h.1.symm)]
  have hlt1 := dN_lt hr hi hj
  have hlt2 := dN_lt hr hk hj
  refine ⟨⟨by rw [List.length_set]; exact u.u.len, fun r hr' => ?_, fun r c h1 h2 h3 => ?_, fun r c h1 h2 h3 => ?_⟩, fun x hx hd => ?_⟩
  · rw [hg]
    split
    · rename_i e; subst e; show ((X.getD i lr0).xs.set k b).length = _; rw [List.length_set]; exact u.u.row i hi
    · exact u.u.row r hr'
  · rw [hcell] at h3
    split at h3
    · rename_i e
      obtain ⟨rfl, rfl⟩ := e
      rw [hb] at h3
      obtain ⟨s, hs⟩ := u.u.snd _ _ hlt1 hlt2 h3
      exact ⟨s + 1, .inr ⟨_, hj, hs⟩⟩
    · exact u.u.snd r c h1 h2 h3
  · have h4 := u.u.cmp r c h1 h2 h3
    rw [hcell]
    split
    · rename_i e; obtain ⟨rfl, rfl⟩ := e; exact absurd h4 hn
    · exact h4
  · rw [hcell, if_pos ⟨rfl, rfl⟩]
    by_cases e : x = j
    · subst e; rw [hb]; exact u.u.weak hlt1 hlt2 hd
    · exact absurd (u.q x (by omega) hd) hn
theorem UnJ.next {d : DfaD} {h : List Int} {X : List (LR Bool)} {t i k j : Nat} (u : UnJ d h X t i k j) (hH : HdI d h 259) (hi : i < d.acc.length) (hk : k < d.acc.length) (he : ¬ j < h.length ∨ cellB X i k = true) : UnI d X t i (k + 1) := by
  refine ⟨u.u.len, u.u.row, u.u.snd, fun r c h1 h2 h3 => ?_⟩
  by_cases e : r = i ∧ c = k
  · obtain ⟨rfl, rfl⟩ := e
    rw [if_pos (.inr ⟨rfl, by omega⟩)] at h3
    rcases he with he | he
    · rcases h3 with h3 | ⟨b, hb, h3⟩
      · exact u.u.weak h1 h2 h3
      · obtain ⟨a, ha, hae⟩ := hH.all b.toNat (by omega)
        obtain ⟨x, hx, rfl⟩ := List.mem_iff_getElem.1 ha
        have hax : h.getD x 0 = h[x] := by simp [List.getD_eq_getElem?_getD, List.getElem?_eq_getElem hx]
        rw [← hax] at hae
        rw [dN_cls (i := r) hae, dN_cls (i := c) hae] at h3
        exact u.q x (by omega) h3
    · exact he
  · refine u.u.cmp r c h1 h2 ?_
    split at h3
    · rename_i h4; rw [if_pos (by omega)]; exact h3
    · rename_i h4; rw [if_neg (by omega)]; exact h3
/-- The table. -/
structure UnP (d : DfaD) (X : List (LR Bool)) : Prop where
  len : X.length = d.acc.length
  row : ∀ r, r < d.acc.length → (X.getD r lr0).xs.length = d.acc.length
  val : ∀ r c, r < d.acc.length → c < d.acc.length → (cellB X r c = true ↔ Dis d r c)
theorem UnI.fin {d : DfaD} {X : List (LR Bool)} {t : Nat} (hr : rightB d = true) (u : UnI d X t 0 0) (ht : t = d.acc.length) : UnP d X := by
  subst ht
  exact ⟨u.len, u.row, fun r c h1 h2 => ⟨u.snd r c h1 h2, fun h => u.weak h1 h2 (moore hr h1 h2 h)⟩⟩
/-- The first form: the first s rows; and one row's first k places. -/
structure UrI (d : DfaD) (i : Nat) (q : List Bool) (k : Nat) : Prop where
  len : q.length = d.acc.length
  val : ∀ c, c < k → q.getD c false = decide (d.acc.getD i false ≠ d.acc.getD c false)
theorem UrI.start {d : DfaD} {i n : Nat} (h : n = d.acc.length) : UrI d i (List.replicate n false) 0 := ⟨by simp [h], fun c hc => by omega⟩
theorem UrI.step {d : DfaD} {i k : Nat} {q : List Bool} {b : Bool} (h : UrI d i q k) (hk : k < d.acc.length) (hb : b = decide (d.acc.getD i false ≠ d.acc.getD k false)) : UrI d i (q.set k b) (k + 1) := by
  refine ⟨by rw [List.length_set]; exact h.len, fun c hc => ?_⟩
  rw [getD_setB (by rw [h.len]; exact hk)]
  split
  · rename_i e; subst e; exact hb
  · exact h.val c (by omega)
structure UnS (d : DfaD) (X : List (LR Bool)) (s : Nat) : Prop where
  len : X.length = s
  row : ∀ r, r < s → (X.getD r lr0).xs.length = d.acc.length
  val : ∀ r c, r < s → c < d.acc.length → cellB X r c = decide (d.acc.getD r false ≠ d.acc.getD c false)
theorem UnS.start (d : DfaD) : UnS d [] 0 := ⟨rfl, fun r h => by omega, fun r c h => by omega⟩
theorem UnS.step {d : DfaD} {X : List (LR Bool)} {s n c k : Nat} {a : Option Addr} {q : List Bool} (h : UnS d X s) (hq : UrI d s q k) (hk : k = d.acc.length) : UnS d (X ++ [⟨a, n, c, q⟩]) (s + 1) := by
  subst hk
  refine ⟨by simp [h.len], fun r hr => ?_, fun r c hr hc => ?_⟩
  · rw [getD_append_LR, h.len]
    split
    · rename_i h1; exact h.row r h1
    · rw [if_pos (by omega)]; exact hq.len
  · unfold cellB
    rw [getD_append_LR, h.len]
    split
    · rename_i h1; exact h.val r c h1 hc
    · have e : r = s := by omega
      subst e
      rw [if_pos rfl]
      exact hq.val c hc
theorem UnS.done {d : DfaD} {X : List (LR Bool)} {s : Nat} (h : UnS d X s) (hs : s = d.acc.length) : UnI d X 0 0 0 := by
  subst hs
  refine ⟨h.len, h.row, fun r c hr hc h1 => ⟨0, ?_⟩, fun r c hr hc h1 => ?_⟩
  · rw [h.val r c hr hc] at h1; show d.acc.getD r false ≠ d.acc.getD c false; exact of_decide_eq_true h1
  · rw [if_neg (by omega)] at h1
    rw [h.val r c hr hc]; have h2 : d.acc.getD r false ≠ d.acc.getD c false := h1; exact decide_eq_true h2
end Go.Proofs.Ytoeockpkkmgieaa


/- Numbers of what is told by its first place; blocks of states that are alike. Conditions: those of each theorem. -/
namespace Go.Proofs.Ytoeockpkkmgieaa
open Go Go.Sx
set_option linter.unusedVariables false
set_option linter.unusedSimpArgs false
/-- Told by its first place. -/
def FirstP (l : List Int) : Prop := ∀ i, i < l.length → 0 ≤ l.getD i 0 ∧ l.getD i 0 ≤ (i : Int) ∧ l.getD (l.getD i 0).toNat 0 = l.getD i 0
theorem getD_take {l : List Int} {i j : Nat} (h : j < i) : (l.take i).getD j 0 = l.getD j 0 := by
  simp [List.getD_eq_getElem?_getD, List.getElem?_take, h]
theorem numL_getD {l : List Int} {i : Nat} (h : i < l.length) : (numL l).getD i 0 = ((ix (l.getD i 0) (dd l) : Nat) : Int) := by
  unfold numL
  simp [List.getD_eq_getElem?_getD, List.getElem?_map, List.getElem?_eq_getElem h]
theorem FirstP.new {l : List Int} (h : FirstP l) {i : Nat} (hi : i < l.length) (he : l.getD i 0 = (i : Int)) : l.getD i 0 ∉ l.take i := fun hm => by
  obtain ⟨j, hj, e⟩ := List.mem_iff_getElem.1 hm
  have hj' : j < i := by simp at hj; omega
  have h1 := h j (by omega)
  have e2 : l.getD j 0 = l.getD i 0 := by rw [← e]; simp [List.getD_eq_getElem?_getD, show j < l.length by omega]
  omega
theorem FirstP.old {l : List Int} (h : FirstP l) {i : Nat} (hi : i < l.length) (he : l.getD i 0 ≠ (i : Int)) : l.getD i 0 ∈ l.take i ∧ (l.getD i 0).toNat < i ∧ (numL (l.take i)).getD (l.getD i 0).toNat 0 = ((ix (l.getD i 0) (dd (l.take i)) : Nat) : Int) := by
  have h1 := h i hi
  have hj : (l.getD i 0).toNat < i := by omega
  have e : (l.take i).getD (l.getD i 0).toNat 0 = l.getD i 0 := by rw [getD_take hj]; exact h1.2.2
  have hl : (l.getD i 0).toNat < (l.take i).length := by rw [List.length_take]; omega
  exact ⟨by have h9 := getD_mem' (l := l.take i) (d := 0) hl; rw [e] at h9; exact h9, hj, by rw [numL_getD hl, e]⟩
theorem numL_len (l : List Int) : (numL l).length = l.length := by simp [numL]
theorem ix_at' {x : Int} : ∀ {l : List Int} {k : Nat}, k < l.length → l.getD k 0 = x → (∀ i, i < k → l.getD i 0 ≠ x) → ix x l = k
  | y :: l, 0, _, h, _ => by simp at h; simp [ix, h]
  | y :: l, k + 1, hk, h, hn => by
    have h0 := hn 0 (by omega)
    simp at h0
    rw [ix, if_neg (fun e => h0 e.symm), ix_at' (by simpa using hk) (by simpa using h) (fun i hi => by simpa using hn (i + 1) (by omega))]
theorem firstI_at {l : List Int} {x : Int} {k : Nat} (hk : k < l.length) (h : l.getD k 0 = x) (hn : ∀ i, i < k → l.getD i 0 ≠ x) : firstI x l = (k : Int) := by
  have hm : x ∈ l := by rw [← h]; exact getD_mem' hk
  rw [firstI, if_pos hm, ix_at' hk h hn]
theorem firstI_none {l : List Int} {x : Int} (hn : ∀ i, i < l.length → l.getD i 0 ≠ x) : firstI x l = -1 := by
  rw [firstI, if_neg]
  intro h
  obtain ⟨i, hi, rfl⟩ := List.mem_iff_getElem.1 h
  exact hn i hi (by simp [List.getD_eq_getElem?_getD, List.getElem?_eq_getElem hi])
/-- Looking for the first place from behind. -/
def FyP (l : List Int) (c aa y : Int) : Prop := (aa = -1 ∨ (y < aa ∧ aa < (l.length : Int) ∧ l.getD aa.toNat 0 = c)) ∧ ∀ i : Nat, y < (i : Int) → i < l.length → (aa = -1 ∨ (i : Int) < aa) → l.getD i 0 ≠ c
theorem FyP.start (l : List Int) (c : Int) : FyP l c (-1) ((l.length : Int) - 1) := ⟨.inl rfl, fun i h1 h2 => by omega⟩
theorem FyP.fin {l : List Int} {c aa y : Int} (h : FyP l c aa y) (hy : y < 0) (h0 : -1 ≤ y) : aa = firstI c l := by
  rcases h.1 with h1 | ⟨h1, h2, h3⟩
  · rw [firstI_none (fun i hi => h.2 i (by omega) hi (.inl h1))]; exact h1
  · rw [firstI_at (k := aa.toNat) (by omega) h3 (fun i hi => h.2 i (by omega) (by omega) (.inr (by omega)))]; omega
/-! ### Blocks -/
/-- The first state that is like each one. -/
structure FrP (d : DfaD) (f : List Int) (n : Nat) : Prop where
  len : f.length = n
  val : ∀ i, i < n → 0 ≤ f.getD i 0 ∧ f.getD i 0 ≤ (i : Int) ∧ ¬ Dis d i (f.getD i 0).toNat ∧ ∀ k : Nat, (k : Int) < f.getD i 0 → Dis d i k
theorem dis_symm {d : DfaD} {i k : Nat} (h : Dis d i k) : Dis d k i := by obtain ⟨t, h⟩ := h; exact ⟨t, disT_symm h⟩
theorem dis_irr {d : DfaD} {i : Nat} : ¬ Dis d i i := fun ⟨_, h⟩ => disT_irr h
theorem dis_part {d : DfaD} {i k : Nat} (j : Nat) (h : Dis d i k) : Dis d i j ∨ Dis d j k := by
  obtain ⟨t, h⟩ := h
  rcases disT_part j h with h | h
  · exact .inl ⟨t, h⟩
  · exact .inr ⟨t, h⟩
theorem FrP.start (d : DfaD) : FrP d [] 0 := ⟨rfl, fun i h => by omega⟩
theorem FrP.first {d : DfaD} {f : List Int} {n : Nat} (h : FrP d f n) : FirstP f := fun i hi => by
  rw [h.len] at hi
  have h1 := h.val i hi
  refine ⟨h1.1, h1.2.1, ?_⟩
  have h2 := h.val (f.getD i 0).toNat (by omega)
  rcases Int.lt_trichotomy (f.getD (f.getD i 0).toNat 0) (f.getD i 0) with h3 | h3 | h3
  · exfalso
    have h4 := h1.2.2.2 (f.getD (f.getD i 0).toNat 0).toNat (by omega)
    rcases dis_part (f.getD i 0).toNat h4 with h5 | h5
    · exact h1.2.2.1 h5
    · exact h2.2.2.1 h5
  · exact h3
  · omega
/-- Within the look for it: the least place from k on that is like, or the state itself. -/
def FkP (d : DfaD) (i : Nat) (at_ : Int) (y : Int) : Prop := (y < at_ ∧ at_ ≤ (i : Int)) ∧ ¬ Dis d i at_.toNat ∧ ∀ k : Nat, y < (k : Int) → (k : Int) < at_ → Dis d i k
theorem FkP.start (d : DfaD) (i : Nat) : FkP d i (i : Int) ((i : Int) - 1) := ⟨by omega, by rw [Int.toNat_natCast]; exact dis_irr, fun k h1 h2 => by omega⟩
theorem FrP.step {d : DfaD} {f : List Int} {n : Nat} {at_ y : Int} (h : FrP d f n) (hk : FkP d n at_ y) (hy : y < 0) (hy2 : -1 ≤ y) : FrP d (f ++ [at_]) (n + 1) := by
  refine ⟨by simp [h.len], fun i hi => ?_⟩
  by_cases e : i = n
  · subst e
    have e2 : (f ++ [at_]).getD i 0 = at_ := by
      simp [List.getD_eq_getElem?_getD, List.getElem?_append, h.len]
    rw [e2]
    exact ⟨by have := hk.1; omega, hk.1.2, hk.2.1, fun k hk2 => hk.2.2 k (by omega) hk2⟩
  · have e2 : (f ++ [at_]).getD i 0 = f.getD i 0 := by
      simp only [List.getD_eq_getElem?_getD, List.getElem?_append, h.len]; rw [if_pos (by omega)]
    rw [e2]; exact h.val i (by omega)
/-- The blocks: two states have one number just if they are alike. -/
structure BlkP (d : DfaD) (b : List Int) : Prop where
  from_ : ∃ f, FrP d f d.acc.length ∧ b = numL f
theorem BlkP.len {d : DfaD} {b : List Int} (h : BlkP d b) : b.length = d.acc.length := by
  obtain ⟨f, hf, rfl⟩ := h.from_
  rw [numL_len, hf.len]
theorem BlkP.alike {d : DfaD} {b : List Int} (h : BlkP d b) {i k : Nat} (hi : i < d.acc.length) (hk : k < d.acc.length) : b.getD i 0 = b.getD k 0 ↔ ¬ Dis d i k := by
  obtain ⟨f, hf, rfl⟩ := h.from_
  have hil : i < f.length := by rw [hf.len]; exact hi
  have hkl : k < f.length := by rw [hf.len]; exact hk
  have h1 := hf.val i hi
  have h2 := hf.val k hk
  rw [numL_getD hil, numL_getD hkl]
  have key : f.getD i 0 = f.getD k 0 ↔ ¬ Dis d i k := by
    constructor
    · intro e hd
      rcases dis_part (f.getD i 0).toNat hd with h3 | h3
      · exact h1.2.2.1 h3
      · rw [e] at h3; exact h2.2.2.1 (dis_symm h3)
    · intro hn
      rcases Int.lt_trichotomy (f.getD i 0) (f.getD k 0) with h3 | h3 | h3
      · exfalso
        have h4 := h2.2.2.2 (f.getD i 0).toNat (by omega)
        rcases dis_part i h4 with h5 | h5
        · exact hn (dis_symm h5)
        · exact h1.2.2.1 h5
      · exact h3
      · exfalso
        have h4 := h1.2.2.2 (f.getD k 0).toNat (by omega)
        rcases dis_part k h4 with h5 | h5
        · exact hn h5
        · exact h2.2.2.1 h5
  rw [← key]
  constructor
  · intro e
    refine ix_inj ((dd_mem _ _).2 (getD_mem' hil)) ((dd_mem _ _).2 (getD_mem' hkl)) (by omega)
  · intro e; rw [e]
end Go.Proofs.Ytoeockpkkmgieaa


/- What tells two automata apart, as data: the search over pairs, nearest first. Conditions: those of each theorem. -/
namespace Go.Sx
set_option linter.unusedVariables false
set_option linter.unusedSimpArgs false
/-- A step of the search. -/
structure St4 where
  p : Int
  q : Int
  from_ : Int
  sym : Int
def st0 : St4 := ⟨0, 0, 0, 0⟩
def tySt : Ty St4 := ⟨4, fun x => [.int .i64 x.p, .int .i64 x.q, .int .i64 x.from_, .int .i64 x.sym], fun _ => rfl, fun x u h => by
  simp only [List.mem_cons, List.not_mem_nil, or_false] at h; rcases h with rfl | rfl | rfl | rfl <;> rfl, by omega⟩
def St4.pr (s : St4) : Int × Int := (s.p, s.q)
def prs (l : List St4) : List (Int × Int) := l.map St4.pr
def putS (l : List St4) (p : Int × Int) (f sym : Int) : List St4 := if p ∈ prs l then l else l ++ [⟨p.1, p.2, f, sym⟩]
def MapInv (m : List ((Int × Int) × Int)) (l : List St4) : Prop := ∀ p, (getM m p).isSome = decide (p ∈ prs l)
theorem MapInv.nil : MapInv [] [] := fun p => by simp [getM, prs]
theorem MapInv.old {m : List ((Int × Int) × Int)} {l : List St4} {p : Int × Int} {f sym : Int} (h : MapInv m l) (hp : (getM m p).isSome = true) : putS l p f sym = l := by
  rw [h p] at hp
  rw [putS, if_pos (of_decide_eq_true hp)]
theorem MapInv.new {m : List ((Int × Int) × Int)} {l : List St4} {p : Int × Int} {f sym v : Int} (h : MapInv m l) (hp : ¬ (getM m p).isSome = true) : putS l p f sym = l ++ [⟨p.1, p.2, f, sym⟩] ∧ MapInv (putM m p v) (l ++ [⟨p.1, p.2, f, sym⟩]) := by
  rw [h p] at hp
  have hn : p ∉ prs l := fun e => hp (decide_eq_true e)
  refine ⟨by rw [putS, if_neg hn], fun q => ?_⟩
  rw [getM_put]
  by_cases e : q = p
  · subst e; rw [if_pos rfl]; simp [prs, St4.pr]
  · rw [if_neg e, h q]
    have : q ∈ prs (l ++ [⟨p.1, p.2, f, sym⟩]) ↔ q ∈ prs l := by
      simp only [prs, List.map_append, List.map_cons, List.map_nil, List.mem_append, List.mem_singleton, St4.pr]
      exact ⟨fun h => h.resolve_right (fun e2 => e (by rw [e2])), .inl⟩
    simp only [this]
theorem putS_pre (l : List St4) (p : Int × Int) (f sym : Int) : ∃ r, putS l p f sym = l ++ r ∧ r.length ≤ 1 := by
  unfold putS; split
  · exact ⟨[], by simp, by simp⟩
  · exact ⟨_, rfl, by simp⟩
/-! ### The word of a step -/
def revW (l : List St4) : Nat → Nat → List Int
  | 0, _ => []
  | n + 1, i => if (l.getD i st0).from_ < 0 then [] else (l.getD i st0).sym :: revW l n (l.getD i st0).from_.toNat
def wordS (l : List St4) (i : Nat) : List Int := (revW l (i + 1) i).reverse
/-- Each step comes from an earlier one, or from none. -/
def Chain (l : List St4) : Prop := ∀ i, i < l.length → -1 ≤ (l.getD i st0).from_ ∧ (l.getD i st0).from_ < (i : Int)
theorem revW_fuel {l : List St4} (h : Chain l) : ∀ (n i : Nat), i < l.length → i < n → revW l n i = revW l (i + 1) i
  | 0, i, _, hn => by omega
  | n + 1, i, hi, hn => by
    have hc := h i hi
    simp only [revW]
    split
    · rfl
    · rename_i h0
      have hj : (l.getD i st0).from_.toNat < l.length := by omega
      rw [revW_fuel h n _ hj (by omega), revW_fuel h i _ hj (by omega)]
theorem revW_step {l : List St4} (h : Chain l) {i : Nat} (hi : i < l.length) (h0 : 0 ≤ (l.getD i st0).from_) :
    revW l (i + 1) i = (l.getD i st0).sym :: revW l ((l.getD i st0).from_.toNat + 1) (l.getD i st0).from_.toNat := by
  have hc := h i hi
  have hj : (l.getD i st0).from_.toNat < l.length := by omega
  rw [revW, if_neg (by omega), revW_fuel h i _ hj (by have := hc.2; omega)]
theorem revW_end {l : List St4} {i n : Nat} (h0 : (l.getD i st0).from_ < 0) : revW l n i = [] := by
  cases n with
  | zero => rfl
  | succ n => rw [revW, if_pos h0]
theorem wordS_step {l : List St4} (h : Chain l) {i : Nat} (hi : i < l.length) (h0 : 0 ≤ (l.getD i st0).from_) :
    wordS l i = wordS l (l.getD i st0).from_.toNat ++ [(l.getD i st0).sym] := by
  rw [wordS, revW_step h hi h0, List.reverse_cons]; rfl
theorem wordS_end {l : List St4} {i : Nat} (h0 : (l.getD i st0).from_ < 0) : wordS l i = [] := by rw [wordS, revW_end h0]; rfl
/-! ### The search -/
def nxP (a b : DfaD) (s : St4) (sym : Int) : Int × Int := (stepD a s.p sym, stepD b s.q sym)
def addS (a b : DfaD) (s : St4) (at_ : Nat) (l : List St4) (sym : Int) : List St4 := putS l (nxP a b s sym) (at_ : Int) sym
def apLoop (a b : DfaD) (fs : List Int) : Nat → Nat → List St4 → Option (List Int)
  | 0, _, _ => none
  | f + 1, at_, l => if at_ < l.length then
      (if a.acc.getD (l.getD at_ st0).p.toNat false ≠ b.acc.getD (l.getD at_ st0).q.toNat false then some (wordS l at_) else apLoop a b fs f (at_ + 1) (fs.foldl (addS a b (l.getD at_ st0) at_) l)) else none
def firstsAB (a b : DfaD) : List Int := firstsI (joinL a.cls b.cls) (joinN a.cls b.cls)
def startS (a b : DfaD) : List St4 := [⟨a.start, b.start, -1, 0⟩]
def apartO (a b : DfaD) : Option (List Int) := apLoop a b (firstsAB a b) (a.acc.length * b.acc.length + 1) 0 (startS a b)
/-- What the program answers: symbols, whether any, and 0 or 3. -/
def apartW (a b : DfaD) : List Int := if rightB a = true ∧ rightB b = true then (apartO a b).getD [] else []
def apartI (a b : DfaD) : Bool := if rightB a = true ∧ rightB b = true then (apartO a b).isSome else false
def apartE (a b : DfaD) : Int := if rightB a = true ∧ rightB b = true then 0 else 3
theorem foldAddS_pre (a b : DfaD) (s : St4) (at_ : Nat) : ∀ (fs : List Int) (l : List St4), ∃ r, fs.foldl (addS a b s at_) l = l ++ r ∧ r.length ≤ fs.length
  | [], l => ⟨[], by simp, by simp⟩
  | f :: fs, l => by
    obtain ⟨r, hr, hl⟩ := putS_pre l (nxP a b s f) (at_ : Int) f
    obtain ⟨r2, hr2, hl2⟩ := foldAddS_pre a b s at_ fs (addS a b s at_ l f)
    exact ⟨r ++ r2, by rw [List.foldl_cons, hr2]; show putS _ _ _ _ ++ r2 = _; rw [hr, List.append_assoc], by simp; omega⟩
theorem getD_preS {l r : List St4} {i : Nat} {x : St4} (h : i < l.length) : (l ++ r).getD i x = l.getD i x := by
  simp only [List.getD_eq_getElem?_getD, List.getElem?_append_left h]

/-- What all steps are. -/
structure StI (a b : DfaD) (l : List St4) (at_ : Nat) : Prop where
  pos : 0 < l.length
  rng : ∀ i, i < l.length → (0 ≤ (l.getD i st0).p ∧ (l.getD i st0).p < (a.acc.length : Int)) ∧ (0 ≤ (l.getD i st0).q ∧ (l.getD i st0).q < (b.acc.length : Int))
  chain : ∀ i, i < l.length → (i = 0 ∧ l.getD i st0 = ⟨a.start, b.start, -1, 0⟩) ∨ (0 ≤ (l.getD i st0).from_ ∧ (l.getD i st0).from_ < (i : Int) ∧ (0 ≤ (l.getD i st0).sym ∧ (l.getD i st0).sym < 259) ∧ (l.getD i st0).pr = nxP a b (l.getD (l.getD i st0).from_.toNat st0) (l.getD i st0).sym)
  nd : (prs l).Nodup
  old : ∀ i, i < at_ → i < l.length → a.acc.getD (l.getD i st0).p.toNat false = b.acc.getD (l.getD i st0).q.toNat false
theorem stepD_bd' {d : DfaD} (hr : rightB d = true) {q b : Int} (h0 : 0 ≤ q) (h1 : q < (d.acc.length : Int)) (hb : 0 ≤ b ∧ b < 259) : 0 ≤ stepD d q b ∧ stepD d q b < (d.acc.length : Int) := by
  have hs := right_sym hr hb.1 hb.2
  have hi := right_idx hr h0 h1 hs.2.1 hs.2.2.1
  exact ⟨hi.2.2.2.1, hi.2.2.2.2⟩
theorem StI.ch {a b : DfaD} {l : List St4} {at_ : Nat} (h : StI a b l at_) : Chain l := fun i hi => by
  rcases h.chain i hi with ⟨e, h1⟩ | ⟨h1, h2, _⟩
  · rw [h1]; simp; omega
  · omega
theorem nodup_le : ∀ (N : Nat) (l : List Nat), l.Nodup → (∀ x, x ∈ l → x < N) → l.length ≤ N
  | 0, l, _, hb => by
    cases l with
    | nil => simp
    | cons x l => exact absurd (hb x (by simp)) (by omega)
  | N + 1, l, hn, hb => by
    by_cases hN : N ∈ l
    · have h1 := nodup_le N (l.erase N) (hn.erase N) (fun x hx => by
        have h2 := (hn.mem_erase_iff).1 hx
        have h3 := hb x h2.2
        have h4 := h2.1
        omega)
      rw [List.length_erase_of_mem hN] at h1; omega
    · have h1 := nodup_le N l hn (fun x hx => by
        have h3 := hb x hx
        have h4 : x ≠ N := fun e => hN (e ▸ hx)
        omega)
      omega
theorem StI.bound {a b : DfaD} {l : List St4} {at_ : Nat} (h : StI a b l at_) : l.length ≤ a.acc.length * b.acc.length := by
  have key := nodup_le (a.acc.length * b.acc.length) ((prs l).map fun p => p.1.toNat * b.acc.length + p.2.toNat) ?_ ?_
  · simpa [prs] using key
  · rw [List.nodup_iff_pairwise_ne, List.pairwise_map]
    have hnd := h.nd
    rw [List.nodup_iff_pairwise_ne] at hnd
    refine hnd.imp_of_mem ?_
    intro x y hx hy hne e
    obtain ⟨s, hs, rfl⟩ := List.mem_map.1 hx
    obtain ⟨t, ht, rfl⟩ := List.mem_map.1 hy
    obtain ⟨i, hi, rfl⟩ := List.mem_iff_getElem.1 hs
    obtain ⟨j, hj, rfl⟩ := List.mem_iff_getElem.1 ht
    have r1 := h.rng i hi
    have r2 := h.rng j hj
    simp only [List.getD_eq_getElem?_getD, List.getElem?_eq_getElem hi, List.getElem?_eq_getElem hj, Option.getD_some] at r1 r2
    apply hne
    simp only [St4.pr] at e ⊢
    have hq1 : (l[i].q).toNat < b.acc.length := by omega
    have hq2 : (l[j].q).toNat < b.acc.length := by omega
    have hd := congrArg (· / b.acc.length) e
    have hm := congrArg (· % b.acc.length) e
    simp only [Nat.mul_comm _ b.acc.length, Nat.mul_add_div (show 0 < b.acc.length by omega), Nat.div_eq_of_lt hq1, Nat.div_eq_of_lt hq2, Nat.mul_add_mod, Nat.mod_eq_of_lt hq1, Nat.mod_eq_of_lt hq2] at hd hm
    have e1 : l[i].p = l[j].p := by omega
    have e2 : l[i].q = l[j].q := by omega
    rw [e1, e2]
  · intro x hx
    obtain ⟨p, hp, rfl⟩ := List.mem_map.1 hx
    obtain ⟨s, hs, rfl⟩ := List.mem_map.1 hp
    obtain ⟨i, hi, rfl⟩ := List.mem_iff_getElem.1 hs
    have r1 := h.rng i hi
    simp only [List.getD_eq_getElem?_getD, List.getElem?_eq_getElem hi, Option.getD_some] at r1
    simp only [St4.pr]
    have h1 : (l[i].p).toNat + 1 ≤ a.acc.length := by omega
    have h2 := Nat.mul_le_mul_right b.acc.length h1
    rw [Nat.add_mul, Nat.one_mul] at h2
    omega
theorem StI.start {a b : DfaD} (ha : rightB a = true) (hb : rightB b = true) : StI a b (startS a b) 0 := by
  have h1 := (rightB_iff.1 ha).1
  have h2 := (rightB_iff.1 hb).1
  refine ⟨by simp [startS], fun i hi => ?_, fun i hi => .inl ?_, by simp [startS, prs], fun i hi => by omega⟩
  · have : i = 0 := by simp [startS] at hi; exact hi
    subst this
    exact ⟨⟨h1.2.2.2.2.2.2.1, h1.2.2.2.2.2.2.2⟩, ⟨h2.2.2.2.2.2.2.1, h2.2.2.2.2.2.2.2⟩⟩
  · have : i = 0 := by simp [startS] at hi; exact hi
    subst this
    exact ⟨rfl, rfl⟩
theorem StI.put {a b : DfaD} (ha : rightB a = true) (hb : rightB b = true) {l : List St4} {at_ : Nat} (h : StI a b l at_) (hat : at_ < l.length) {sym : Int} (hs : 0 ≤ sym ∧ sym < 259) {s : St4} (hse : s = l.getD at_ st0) : StI a b (addS a b s at_ l sym) at_ := by
  subst hse
  unfold addS putS
  split
  · exact h
  · rename_i hn
    have r := h.rng at_ hat
    have s1 := stepD_bd' ha r.1.1 r.1.2 hs
    have s2 := stepD_bd' hb r.2.1 r.2.2 hs
    have hg : ∀ i, i < l.length → (l ++ [(⟨(nxP a b (l.getD at_ st0) sym).1, (nxP a b (l.getD at_ st0) sym).2, (at_ : Int), sym⟩ : St4)]).getD i st0 = l.getD i st0 := fun i hi => getD_preS hi
    have hl : (l ++ [(⟨(nxP a b (l.getD at_ st0) sym).1, (nxP a b (l.getD at_ st0) sym).2, (at_ : Int), sym⟩ : St4)]).getD l.length st0 = ⟨(nxP a b (l.getD at_ st0) sym).1, (nxP a b (l.getD at_ st0) sym).2, (at_ : Int), sym⟩ := by
      simp [List.getD_eq_getElem?_getD]
    refine ⟨by simp, fun i hi => ?_, fun i hi => ?_, ?_, fun i hi hi2 => ?_⟩
    · by_cases e : i < l.length
      · rw [hg i e]; exact h.rng i e
      · have : i = l.length := by simp at hi; omega
        subst this
        rw [hl]; exact ⟨s1, s2⟩
    · by_cases e : i < l.length
      · rw [hg i e]
        rcases h.chain i e with c | ⟨c1, c2, c3, c4⟩
        · exact .inl c
        · exact .inr ⟨c1, c2, c3, by rw [hg _ (by omega)]; exact c4⟩
      · have : i = l.length := by simp at hi; omega
        subst this
        rw [hl]
        refine .inr ⟨by simp, by simp; omega, hs, ?_⟩
        simp only [Int.toNat_natCast]
        rw [hg at_ hat]; rfl
    · simp only [prs, List.map_append, List.map_cons, List.map_nil]
      refine List.nodup_append.2 ⟨h.nd, by simp, fun x hx y hy e => ?_⟩
      simp at hy; subst hy; subst e; exact hn hx
    · have e : i < l.length := by omega
      rw [hg i e]; exact h.old i hi e
theorem StI.fold {a b : DfaD} (ha : rightB a = true) (hb : rightB b = true) {at_ : Nat} {s : St4} : ∀ (fs : List Int) {l : List St4}, StI a b l at_ → at_ < l.length → s = l.getD at_ st0 → (∀ c, c ∈ fs → 0 ≤ c ∧ c < 259) → StI a b (fs.foldl (addS a b s at_) l) at_
  | [], l, h, _, _, _ => h
  | c :: fs, l, h, hat, hs, hc => by
    have h1 := h.put ha hb hat (hc c (by simp)) hs
    obtain ⟨r, hr, _⟩ := putS_pre l (nxP a b s c) (at_ : Int) c
    have hr' : addS a b s at_ l c = l ++ r := hr
    exact StI.fold ha hb fs h1 (by rw [hr', List.length_append]; omega) (by rw [hr', getD_preS hat]; exact hs) (fun x hx => hc x (by simp [hx]))
theorem StI.test {a b : DfaD} {l : List St4} {at_ : Nat} (h : StI a b l at_) (he : a.acc.getD (l.getD at_ st0).p.toNat false = b.acc.getD (l.getD at_ st0).q.toNat false) : StI a b l (at_ + 1) :=
  ⟨h.pos, h.rng, h.chain, h.nd, fun i hi hi2 => by
    by_cases e : i = at_
    · subst e; exact he
    · exact h.old i (by omega) hi2⟩
theorem apLoop_go {a b : DfaD} {fs : List Int} {F at_ : Nat} {l : List St4} (hF : at_ < F) (h1 : at_ < l.length) (he : a.acc.getD (l.getD at_ st0).p.toNat false = b.acc.getD (l.getD at_ st0).q.toNat false) :
    apLoop a b fs (F - at_) at_ l = apLoop a b fs (F - (at_ + 1)) (at_ + 1) (fs.foldl (addS a b (l.getD at_ st0) at_) l) := by
  have e : F - at_ = (F - (at_ + 1)) + 1 := by omega
  rw [e, apLoop, if_pos h1, if_neg (by rw [he]; simp)]
theorem apLoop_hit {a b : DfaD} {fs : List Int} {F at_ : Nat} {l : List St4} (hF : at_ < F) (h1 : at_ < l.length) (he : a.acc.getD (l.getD at_ st0).p.toNat false ≠ b.acc.getD (l.getD at_ st0).q.toNat false) :
    apLoop a b fs (F - at_) at_ l = some (wordS l at_) := by
  have e : F - at_ = (F - (at_ + 1)) + 1 := by omega
  rw [e, apLoop, if_pos h1, if_pos he]
theorem apLoop_end {a b : DfaD} {fs : List Int} {F at_ : Nat} {l : List St4} (h1 : ¬ at_ < l.length) : apLoop a b fs F at_ l = none := by
  cases F with
  | zero => rfl
  | succ F => rw [apLoop, if_neg h1]
theorem apLoop_sound {a b : DfaD} (ha : rightB a = true) (hb : rightB b = true) {fs : List Int} (hfs : ∀ c, c ∈ fs → 0 ≤ c ∧ c < 259) : ∀ (f at_ : Nat) (l : List St4) (w : List Int), StI a b l at_ → apLoop a b fs f at_ l = some w →
    ∃ l' i, StI a b l' i ∧ i < l'.length ∧ w = wordS l' i ∧ a.acc.getD (l'.getD i st0).p.toNat false ≠ b.acc.getD (l'.getD i st0).q.toNat false
  | 0, at_, l, w, _, h => by cases h
  | f + 1, at_, l, w, hI, h => by
    rw [apLoop] at h
    split at h
    · rename_i hat
      split at h
      · rename_i hne
        cases h
        exact ⟨l, at_, hI, hat, rfl, hne⟩
      · rename_i hne
        refine apLoop_sound ha hb hfs f (at_ + 1) _ w ?_ h
        have hI2 := hI.fold ha hb fs hat rfl hfs
        obtain ⟨r, hr, _⟩ := foldAddS_pre a b (l.getD at_ st0) at_ fs l
        refine hI2.test ?_
        rw [hr, getD_preS hat]
        exact Classical.not_not.1 hne
    · cases h
/-- Where one comes by a word. -/
theorem runFrom_fold {d : DfaD} : ∀ (w : List Int) (k : Nat) (q : Int), (∀ c, c ∈ w → 0 ≤ c ∧ c < 259) → k ≤ w.length → runFrom d w k q = (w.drop k).foldl (stepD d) q := by
  intro w k q hw hk
  induction hm : w.length - k generalizing k q with
  | zero => rw [runFrom_end (by omega), List.drop_eq_nil_of_le (by omega)]; rfl
  | succ m ih =>
    have hlt : k < w.length := by omega
    have hc := hw (w.getD k 0) (getD_mem' hlt)
    have e : w.drop k = w[k] :: w.drop (k + 1) := List.drop_eq_getElem_cons hlt
    have e2 : w.getD k 0 = w[k] := by simp [List.getD_eq_getElem?_getD, List.getElem?_eq_getElem hlt]
    rw [runFrom_step hlt hc.1 hc.2, ih (k + 1) _ (by omega) (by omega), e, List.foldl_cons, ← e2]
    rfl
theorem runF_fold {d : DfaD} (hr : rightB d = true) {s : Int} (h0 : 0 ≤ s ∧ s < (d.acc.length : Int)) {w : List Int} (hw : ∀ c, c ∈ w → 0 ≤ c ∧ c < 259) : runF d s w = w.foldl (stepD d) s := by
  rw [runF_go (by rw [hr]; simp) h0.1 h0.2, runFrom_fold w 0 s hw (by omega)]; simp
theorem fold_rng {d : DfaD} (hr : rightB d = true) : ∀ (w : List Int) (s : Int), 0 ≤ s ∧ s < (d.acc.length : Int) → (∀ c, c ∈ w → 0 ≤ c ∧ c < 259) → 0 ≤ w.foldl (stepD d) s ∧ w.foldl (stepD d) s < (d.acc.length : Int)
  | [], s, h, _ => h
  | c :: w, s, h, hw => fold_rng hr w _ (stepD_bd' hr h.1 h.2 (hw c (by simp))) (fun x hx => hw x (by simp [hx]))
theorem accepts_fold {d : DfaD} (hr : rightB d = true) {w : List Int} (hw : ∀ c, c ∈ w → 0 ≤ c ∧ c < 259) : acceptsB d w = d.acc.getD (w.foldl (stepD d) d.start).toNat false := by
  have hs := (rightB_iff.1 hr).1.2.2.2.2.2.2
  have h1 := runF_fold hr hs hw
  have h2 := fold_rng hr w d.start hs hw
  rw [acceptsB_yes (by rw [h1]; omega), h1]
theorem wordS_run {a b : DfaD} {l : List St4} {at_ : Nat} (h : StI a b l at_) : ∀ (i : Nat), i < l.length → (∀ c, c ∈ wordS l i → 0 ≤ c ∧ c < 259) ∧ (wordS l i).foldl (stepD a) a.start = (l.getD i st0).p ∧ (wordS l i).foldl (stepD b) b.start = (l.getD i st0).q ∧
      ∀ k, k < (wordS l i).length → ∃ j, j < i ∧ wordS l j = (wordS l i).take k := by
  intro i
  induction i using Nat.strongRecOn with
  | _ i ih =>
    intro hi
    rcases h.chain i hi with ⟨e, h1⟩ | ⟨h1, h2, h3, h4⟩
    · have hw : wordS l i = [] := wordS_end (by rw [h1]; show (-1 : Int) < 0; omega)
      rw [hw, h1]
      exact ⟨fun c hc => by simp at hc, rfl, rfl, fun k hk => by simp at hk⟩
    · obtain ⟨i1, i2, i3, i4⟩ := ih (l.getD i st0).from_.toNat (by omega) (by omega)
      have hw := wordS_step h.ch hi h1
      rw [hw]
      simp only [St4.pr, nxP, Prod.mk.injEq] at h4
      refine ⟨fun c hc => ?_, ?_, ?_, fun k hk => ?_⟩
      · rcases List.mem_append.1 hc with c1 | c1
        · exact i1 c c1
        · simp at c1; subst c1; simpa using h3
      · rw [List.foldl_append, i2, h4.1]; rfl
      · rw [List.foldl_append, i3, h4.2]; rfl
      · simp only [List.length_append, List.length_singleton] at hk
        by_cases e : k = (wordS l (l.getD i st0).from_.toNat).length
        · exact ⟨(l.getD i st0).from_.toNat, by omega, by rw [e, List.take_left]⟩
        · obtain ⟨j, j1, j2⟩ := i4 k (by omega)
          exact ⟨j, by omega, by rw [List.take_append_of_le_length (by omega)]; exact j2⟩
/-- What the search finds tells both apart, and nothing ahead of it does. -/
theorem apart_tells {a b : DfaD} (ha : rightB a = true) (hb : rightB b = true) (hfs : ∀ c, c ∈ firstsAB a b → 0 ≤ c ∧ c < 259) :
    (∀ i, i < (apartW a b).length → acceptsB a ((apartW a b).take i) = acceptsB b ((apartW a b).take i)) ∧ apartI a b = decide (acceptsB a (apartW a b) ≠ acceptsB b (apartW a b)) := by
  have e1 : apartW a b = (apartO a b).getD [] := by rw [apartW, if_pos ⟨ha, hb⟩]
  have e2 : apartI a b = (apartO a b).isSome := by rw [apartI, if_pos ⟨ha, hb⟩]
  have hI := StI.start ha hb
  cases ho : apartO a b with
  | none =>
    rw [e1, e2, ho]
    have h0 : a.acc.getD a.start.toNat false = b.acc.getD b.start.toNat false := by
      unfold apartO at ho
      rw [apLoop, if_pos (by simp [startS])] at ho
      split at ho
      · cases ho
      · rename_i hne; exact Classical.not_not.1 hne
    refine ⟨fun i hi => by simp at hi, ?_⟩
    have a1 := accepts_fold ha (w := []) (fun c hc => by simp at hc)
    have b1 := accepts_fold hb (w := []) (fun c hc => by simp at hc)
    simp only [Option.getD_none, Option.isSome_none]
    exact (decide_eq_false (by rw [a1, b1]; exact fun h => h h0)).symm
  | some w =>
    obtain ⟨l, i, hl, hi, hw, hne⟩ := apLoop_sound ha hb hfs _ 0 (startS a b) w hI ho
    rw [e1, e2, ho]
    simp only [Option.getD_some, Option.isSome_some]
    obtain ⟨w1, w2, w3, w4⟩ := wordS_run hl i hi
    rw [hw]
    refine ⟨fun k hk => ?_, ?_⟩
    · obtain ⟨j, j1, j2⟩ := w4 k hk
      obtain ⟨v1, v2, v3, _⟩ := wordS_run hl j (by omega)
      rw [← j2, accepts_fold ha v1, accepts_fold hb v1, v2, v3]
      exact hl.old j j1 (by omega)
    · exact (decide_eq_true (by rw [accepts_fold ha w1, accepts_fold hb w1, w2, w3]; exact hne)).symm

theorem foldAddS_step {a b : DfaD} {s : St4} {at_ j : Nat} {fs : List Int} {l : List St4} (h : j < fs.length) : addS a b s at_ ((fs.take j).foldl (addS a b s at_) l) (fs.getD j 0) = (fs.take (j + 1)).foldl (addS a b s at_) l := by
  rw [take_succ_getD 0 h, List.foldl_append]; rfl
theorem foldAddS_lt {a b : DfaD} {s : St4} {at_ : Nat} {fs : List Int} {l : List St4} (h : at_ < l.length) : at_ < (fs.foldl (addS a b s at_) l).length := by
  obtain ⟨r, hr, _⟩ := foldAddS_pre a b s at_ fs l
  rw [hr, List.length_append]; omega
theorem foldAddS_get {a b : DfaD} {s : St4} {at_ : Nat} {fs : List Int} {l : List St4} (h : at_ < l.length) : (fs.foldl (addS a b s at_) l).getD at_ st0 = l.getD at_ st0 := by
  obtain ⟨r, hr, _⟩ := foldAddS_pre a b s at_ fs l
  rw [hr, getD_preS h]
/-! ### Turned -/
/-! ### The first symbols are symbols -/
theorem numL_surj {α : Type} [DecidableEq α] {l : List α} {c : Nat} (h : c < (dd l).length) : ∃ i, i < l.length ∧ (numL l).getD i 0 = (c : Int) := by
  have hm : (dd l)[c] ∈ l := (dd_mem l _).1 (List.getElem_mem h)
  obtain ⟨i, hi, e⟩ := List.mem_iff_getElem.1 hm
  refine ⟨i, hi, ?_⟩
  simp only [numL, List.getD_eq_getElem?_getD, List.getElem?_map, List.getElem?_eq_getElem hi, Option.map_some, Option.getD_some, e]
  congr 1
  have hnd := dd_nodup l
  have key : ∀ (m : List α) (c : Nat) (hc : c < m.length), m.Nodup → ix m[c] m = c := by
    intro m
    induction m with
    | nil => intro c hc; simp at hc
    | cons y m ih =>
      intro c hc hn
      cases c with
      | zero => simp [ix]
      | succ c =>
        have hc' : c < m.length := by simpa using hc
        have hn' := List.nodup_cons.1 hn
        simp only [List.getElem_cons_succ, ix]
        rw [if_neg (fun e => hn'.1 (by rw [← e]; exact List.getElem_mem hc')), ih c hc' hn'.2]
  exact key (dd l) c h hnd
theorem firstsAB_bd {a b : DfaD} (ha : rightB a = true) (hb : rightB b = true) : ∀ c, c ∈ firstsAB a b → 0 ≤ c ∧ c < 259 := by
  intro x hx
  have h1 := (rightB_iff.1 ha).1.1
  have h2 := (rightB_iff.1 hb).1.1
  have hab : a.cls.length = b.cls.length := by rw [h1, h2]
  have hz : (a.cls.zip b.cls).length = 259 := by simp [h1, h2]
  simp only [firstsAB, firstsI, joinL, joinN, if_pos hab, List.mem_map, List.mem_range] at hx
  obtain ⟨c, hc, rfl⟩ := hx
  obtain ⟨i, hi, e⟩ := numL_surj (l := a.cls.zip b.cls) (c := c) (by omega)
  have hl : (numL (a.cls.zip b.cls)).length = 259 := by simp [numL, h1, h2]
  have hm : ((c : Nat) : Int) ∈ numL (a.cls.zip b.cls) := by
    rw [← e]; exact getD_mem' (by rw [hl]; omega)
  rw [firstI, if_pos hm]
  have := ix_lt hm
  omega
end Go.Sx


/- The search over the first symbols of both classes is the search over all symbols. Conditions: those of each theorem. -/
namespace Go.Sx
set_option linter.unusedVariables false
set_option linter.unusedSimpArgs false
def keepZ (z : List (Int × Int)) (i : Nat) : Bool := decide (∀ k, k < i → z[k]? ≠ z[i]?)
theorem dd_places : ∀ (n : Nat) (z : List (Int × Int)), z.length = n → (dd z).map (fun x => ix x z) = (List.range n).filter (keepZ z) := by
  intro n
  induction n with
  | zero =>
    intro z hz
    obtain rfl := List.length_eq_zero_iff.1 hz
    rfl
  | succ n ih =>
    intro z hz
    obtain ⟨y, x, rfl⟩ : ∃ y x, z = y ++ [x] := ⟨z.dropLast, z.getLast (by intro h; rw [h] at hz; simp at hz), (List.dropLast_concat_getLast _).symm⟩
    have hy : y.length = n := by simpa using hz
    have h1 := ih y hy
    have e1 : ∀ i, i < n → keepZ (y ++ [x]) i = keepZ y i := fun i hi => by
      unfold keepZ
      rw [decide_eq_decide]
      have g : ∀ k, k ≤ i → (y ++ [x])[k]? = y[k]? := fun k hk => List.getElem?_append_left (by omega)
      constructor
      · intro h k hk; rw [← g k (by omega), ← g i (Nat.le_refl i)]; exact h k hk
      · intro h k hk; rw [g k (by omega), g i (Nat.le_refl i)]; exact h k hk
    have e2 : (List.range n).filter (keepZ (y ++ [x])) = (List.range n).filter (keepZ y) := List.filter_congr (fun i hi => e1 i (List.mem_range.1 hi))
    have ex : (y ++ [x])[n]? = some x := by rw [← hy]; simp
    rw [List.range_succ, List.filter_append, e2, ← h1, dd_snoc]
    by_cases hx : x ∈ dd y
    · rw [if_pos hx]
      have hk : keepZ (y ++ [x]) n = false := by
        unfold keepZ
        rw [decide_eq_false]
        intro h
        obtain ⟨k, hk, e⟩ := List.mem_iff_getElem.1 ((dd_mem y x).1 hx)
        refine h k (by omega) ?_
        rw [ex, List.getElem?_append_left hk, List.getElem?_eq_getElem hk, e]
      have e3 : List.filter (keepZ (y ++ [x])) [n] = [] := by simp [hk]
      rw [e3, List.append_nil]
      apply List.map_congr_left
      intro u hu
      exact ix_app [x] ((dd_mem y u).1 hu)
    · rw [if_neg hx, List.map_append]
      have hxy : x ∉ y := fun h => hx ((dd_mem y x).2 h)
      have hk : keepZ (y ++ [x]) n = true := by
        unfold keepZ
        rw [decide_eq_true]
        intro k hk e
        rw [ex, List.getElem?_append_left (by omega), List.getElem?_eq_getElem (by omega)] at e
        exact hxy (by have e9 := Option.some.inj e; rw [← e9]; exact List.getElem_mem _)
      have e3 : List.filter (keepZ (y ++ [x])) [n] = [n] := by simp [hk]
      rw [e3]
      congr 1
      · apply List.map_congr_left
        intro u hu
        exact ix_app [x] ((dd_mem y u).1 hu)
      · simp only [List.map_cons, List.map_nil]; rw [ix_snoc hxy, hy]
theorem ix_at'' : ∀ {l : List (Int × Int)} {i : Nat}, l.Nodup → (h : i < l.length) → ix l[i] l = i
  | y :: l, 0, _, _ => by simp [ix]
  | y :: l, i + 1, hn, h => by
    rw [List.nodup_cons] at hn
    have h9 : i < l.length := by simpa using h
    simp only [List.getElem_cons_succ, ix]
    rw [if_neg (fun e : l[i] = y => hn.1 (by rw [← e]; exact List.getElem_mem h9)), ix_at'' hn.2 h9]
theorem ix_dd {z : List (Int × Int)} : ∀ x, x ∈ z → ix ((ix x (dd z) : Nat) : Int) (numL z) = ix x z := by
  have key : ∀ (l : List (Int × Int)) (x : Int × Int), (∀ y, y ∈ l → y ∈ z) → x ∈ z → ix ((ix x (dd z) : Nat) : Int) (l.map fun y => ((ix y (dd z) : Nat) : Int)) = ix x l := by
    intro l
    induction l with
    | nil => intro x _ _; rfl
    | cons y l ih =>
      intro x hl hx
      simp only [List.map_cons, ix]
      by_cases e : x = y
      · subst e; simp
      · rw [if_neg e, if_neg (fun h => e (ix_inj ((dd_mem _ _).2 hx) ((dd_mem _ _).2 (hl y List.mem_cons_self)) (by omega))), ih x (fun u hu => hl u (List.mem_cons_of_mem _ hu)) hx]
  intro x hx
  exact key z x (fun y h => h) hx
theorem firsts_keep {z : List (Int × Int)} (hz : z.length ≤ 259) : firstsI (numL z) ((dd z).length : Int) = List.map (fun i : Nat => (i : Int)) ((List.range z.length).filter (keepZ z)) := by
  rw [← dd_places z.length z rfl, List.map_map]
  have hl := dd_len z
  have e0 : (min ((dd z).length : Int) 259).toNat = (dd z).length := by omega
  unfold firstsI
  rw [e0]
  refine List.ext_getElem (by simp) fun i h1 h2 => ?_
  simp only [List.length_map, List.length_range] at h1
  simp only [List.getElem_map, List.getElem_range, Function.comp]
  have hm : (dd z)[i] ∈ z := (dd_mem _ _).1 (List.getElem_mem h1)
  have hi : ix (dd z)[i] (dd z) = i := ix_at'' (dd_nodup z) h1
  have h3 := ix_dd (z := z) (dd z)[i] hm
  rw [hi] at h3
  have hin : ((i : Nat) : Int) ∈ numL z := by
    unfold numL
    exact List.mem_map.2 ⟨(dd z)[i], hm, by rw [hi]⟩
  rw [firstI, if_pos hin, h3]
def symsN (n : Nat) : List Int := List.map (fun i : Nat => (i : Int)) (List.range n)
theorem symsN_succ (n : Nat) : symsN (n + 1) = symsN n ++ [(n : Int)] := by simp [symsN, List.range_succ]
theorem putS_has (l : List St4) (p : Int × Int) (f sym : Int) : p ∈ prs (putS l p f sym) := by
  unfold putS; split
  · assumption
  · simp [prs, St4.pr]
theorem putS_keep {l : List St4} {p q : Int × Int} {f sym : Int} (h : q ∈ prs l) : q ∈ prs (putS l p f sym) := by
  unfold putS; split
  · exact h
  · rw [prs, List.map_append]; exact List.mem_append_left _ h
theorem fold_all {a b : DfaD} {s : St4} {at_ : Nat} {l : List St4} (keep : Nat → Bool) (hk : ∀ n, keep n = false → ∃ k, k < n ∧ nxP a b s (k : Int) = nxP a b s (n : Int)) : ∀ n, (symsN n).foldl (addS a b s at_) l = (List.map (fun i : Nat => (i : Int)) ((List.range n).filter keep)).foldl (addS a b s at_) l ∧ ∀ k, k < n → nxP a b s (k : Int) ∈ prs ((symsN n).foldl (addS a b s at_) l) := by
  intro n
  induction n with
  | zero => exact ⟨rfl, fun k h => by omega⟩
  | succ n ih =>
    obtain ⟨h1, h2⟩ := ih
    rw [symsN_succ, List.foldl_append, List.range_succ, List.filter_append, List.map_append, List.foldl_append, ← h1]
    simp only [List.foldl_cons, List.foldl_nil]
    refine ⟨?_, fun k hkn => ?_⟩
    · rcases hb : keep n with _ | _
      · obtain ⟨k, hkn, e⟩ := hk n hb
        have h3 := h2 k hkn
        rw [e] at h3
        have e3 : List.filter keep [n] = [] := by simp [hb]
        rw [e3]
        show putS _ _ _ _ = _
        rw [putS, if_pos h3]; rfl
      · have e3 : List.filter keep [n] = [n] := by simp [hb]
        rw [e3]; rfl
    · by_cases e : k = n
      · subst e; exact putS_has _ _ _ _
      · exact putS_keep (h2 k (by omega))
theorem firstsAB_keep {a b : DfaD} (ha : rightB a = true) (hb : rightB b = true) : firstsAB a b = List.map (fun i : Nat => (i : Int)) ((List.range 259).filter (keepZ (a.cls.zip b.cls))) := by
  have h1 := (rightB_iff.1 ha).1.1
  have h2 := (rightB_iff.1 hb).1.1
  have hl : (a.cls.zip b.cls).length = 259 := by rw [List.length_zip, h1, h2]; rfl
  unfold firstsAB joinL joinN
  rw [if_pos (by rw [h1, h2]), if_pos (by rw [h1, h2]), firsts_keep (by omega), hl]
theorem nx_same {a b : DfaD} {s : St4} {n : Nat} (ha : rightB a = true) (hb : rightB b = true) (hn : n < 259) (h : keepZ (a.cls.zip b.cls) n = false) : ∃ k, k < n ∧ nxP a b s (k : Int) = nxP a b s (n : Int) := by
  have h1 := (rightB_iff.1 ha).1.1
  have h2 := (rightB_iff.1 hb).1.1
  have h3 : ¬ ∀ k, k < n → (a.cls.zip b.cls)[k]? ≠ (a.cls.zip b.cls)[n]? := of_decide_eq_false h
  obtain ⟨k, hk⟩ := Classical.not_forall.1 h3
  obtain ⟨hkn, he⟩ := Classical.not_imp.1 hk
  have he := Classical.not_not.1 he
  have g : ∀ i, i < 259 → (a.cls.zip b.cls)[i]? = some (a.cls.getD i 0, b.cls.getD i 0) := fun i hi => by
    rw [List.getElem?_eq_getElem (by rw [List.length_zip]; omega), List.getElem_zip]
    simp [List.getD_eq_getElem?_getD, List.getElem?_eq_getElem (show i < a.cls.length by omega), List.getElem?_eq_getElem (show i < b.cls.length by omega)]
  rw [g k (by omega), g n hn] at he
  have he := Option.some.inj he
  simp only [Prod.mk.injEq] at he
  refine ⟨k, hkn, ?_⟩
  unfold nxP stepD
  simp only [Int.toNat_natCast, he.1, he.2]
theorem fold_firsts {a b : DfaD} {s : St4} {at_ : Nat} {l : List St4} (ha : rightB a = true) (hb : rightB b = true) : (symsN 259).foldl (addS a b s at_) l = (firstsAB a b).foldl (addS a b s at_) l := by
  have h := (fold_all (a := a) (b := b) (s := s) (at_ := at_) (l := l) (fun n => keepZ (a.cls.zip b.cls) n || decide (259 ≤ n)) (fun n hn => by
    simp only [Bool.or_eq_false_iff, decide_eq_false_iff_not] at hn
    exact nx_same ha hb (by omega) hn.1) 259).1
  have e : (List.range 259).filter (fun n => keepZ (a.cls.zip b.cls) n || decide (259 ≤ n)) = (List.range 259).filter (keepZ (a.cls.zip b.cls)) := List.filter_congr fun i hi => by
    have := List.mem_range.1 hi
    rw [decide_eq_false (by omega), Bool.or_false]
  rw [h, firstsAB_keep ha hb, e]
theorem apLoop_all {a b : DfaD} (ha : rightB a = true) (hb : rightB b = true) : ∀ (f at_ : Nat) (l : List St4), apLoop a b (symsN 259) f at_ l = apLoop a b (firstsAB a b) f at_ l
  | 0, _, _ => rfl
  | f + 1, at_, l => by
    simp only [apLoop, fold_firsts ha hb, apLoop_all ha hb f]
end Go.Sx


/- The least automaton as data; numbers that hang on what is alike alone. Conditions: those of each theorem. -/
namespace Go.Proofs.Ytoeockpkkmgieaa
open Go Go.Sx
set_option linter.unusedVariables false
set_option linter.unusedSimpArgs false
/-- Symbols. -/
def okW (w : List Int) : Prop := ∀ c, c ∈ w → 0 ≤ c ∧ c < 259
def accAt (d : DfaD) (s : Int) (w : List Int) : Bool := d.acc.getD (w.foldl (stepD d) s).toNat false
/-- Two states, of whatever automata, from which the same is accepted. -/
def LEq (d : DfaD) (s : Int) (e : DfaD) (t : Int) : Prop := ∀ w, okW w → accAt d s w = accAt e t w
theorem LEq.refl (d : DfaD) (s : Int) : LEq d s d s := fun _ _ => rfl
theorem LEq.symm {d e : DfaD} {s t : Int} (h : LEq d s e t) : LEq e t d s := fun w hw => (h w hw).symm
theorem LEq.trans {d e f : DfaD} {s t u : Int} (h : LEq d s e t) (k : LEq e t f u) : LEq d s f u := fun w hw => (h w hw).trans (k w hw)
theorem LEq.step {d e : DfaD} {s t c : Int} (h : LEq d s e t) (hc : 0 ≤ c ∧ c < 259) : LEq d (stepD d s c) e (stepD e t c) := fun w hw =>
  h (c :: w) (fun x hx => by rcases List.mem_cons.1 hx with rfl | hx; exact hc; exact hw x hx)
theorem okW.one {c : Int} (h : 0 ≤ c ∧ c < 259) : okW [c] := fun x hx => by rw [List.mem_singleton.1 hx]; exact h
theorem okW.tail {c : Int} {w : List Int} (h : okW (c :: w)) : (0 ≤ c ∧ c < 259) ∧ okW w := ⟨h c List.mem_cons_self, fun x hx => h x (List.mem_cons_of_mem _ hx)⟩
theorem LEq.acc {d e : DfaD} {s t : Int} (h : LEq d s e t) : d.acc.getD s.toNat false = e.acc.getD t.toNat false := h [] (fun c hc => by simp at hc)
theorem LEq.run {d e : DfaD} : ∀ (w : List Int) {s t : Int}, LEq d s e t → okW w → LEq d (w.foldl (stepD d) s) e (w.foldl (stepD e) t)
  | [], _, _, h, _ => h
  | c :: w, _, _, h, hw => LEq.run w (h.step hw.tail.1) hw.tail.2
/-- Not alike: told apart by symbols. -/
theorem dis_word {d : DfaD} (hr : rightB d = true) : ∀ {t i k : Nat}, i < d.acc.length → k < d.acc.length → disT d t i k → ∃ w, okW w ∧ accAt d i w ≠ accAt d k w
  | 0, i, k, hi, hk, h => ⟨[], fun c hc => by simp at hc, fun e => (show d.acc.getD i false ≠ d.acc.getD k false from h) (by simpa [accAt] using e)⟩
  | t + 1, i, k, hi, hk, h => by
    rcases h with h | ⟨c, hc, h⟩
    · exact dis_word hr hi hk h
    · obtain ⟨w, hw, hn⟩ := dis_word hr (dN_lt hr hi hc) (dN_lt hr hk hc) h
      rw [dN_int hr hi hc, dN_int hr hk hc] at hn
      exact ⟨c :: w, fun x hx => by rcases List.mem_cons.1 hx with rfl | hx; exact hc; exact hw x hx, hn⟩
theorem word_dis {d : DfaD} (hr : rightB d = true) : ∀ (w : List Int) {i k : Nat}, i < d.acc.length → k < d.acc.length → okW w → accAt d i w ≠ accAt d k w → Dis d i k
  | [], i, k, hi, hk, hw, h => ⟨0, by simpa [accAt, disT] using h⟩
  | c :: w, i, k, hi, hk, hw, h => by
    obtain ⟨hc, hw⟩ := hw.tail
    have h9 : accAt d ((dN d i c : Nat) : Int) w ≠ accAt d ((dN d k c : Nat) : Int) w := by rw [dN_int hr hi hc, dN_int hr hk hc]; exact h
    obtain ⟨t, ht⟩ := word_dis hr w (dN_lt hr hi hc) (dN_lt hr hk hc) hw h9
    exact ⟨t + 1, .inr ⟨c, hc, ht⟩⟩
theorem dis_iff {d : DfaD} (hr : rightB d = true) {i k : Nat} (hi : i < d.acc.length) (hk : k < d.acc.length) : ¬ Dis d i k ↔ LEq d i d k := by
  constructor
  · intro h w hw
    exact Classical.byContradiction fun hn => h (word_dis hr w hi hk hw hn)
  · rintro h ⟨t, ht⟩
    obtain ⟨w, hw, hn⟩ := dis_word hr hi hk ht
    exact hn (h w hw)
/-! ### The first that is like each one -/
structure FrQ (R : Nat → Nat → Prop) (f : List Int) (n : Nat) : Prop where
  len : f.length = n
  val : ∀ i, i < n → 0 ≤ f.getD i 0 ∧ f.getD i 0 ≤ (i : Int) ∧ R (f.getD i 0).toNat i ∧ ∀ k : Nat, (k : Int) < f.getD i 0 → ¬ R k i
theorem FrQ.uniq {R : Nat → Nat → Prop} {f g : List Int} {n : Nat} (h : FrQ R f n) (k : FrQ R g n) : f = g := by
  refine list_eq_of (d := 0) (by rw [h.len, k.len]) fun i hi => ?_
  rw [h.len] at hi
  have h1 := h.val i hi
  have h2 := k.val i hi
  rcases Int.lt_trichotomy (f.getD i 0) (g.getD i 0) with c | c | c
  · exact absurd h1.2.2.1 (h2.2.2.2 _ (by omega))
  · exact c
  · exact absurd h2.2.2.1 (h1.2.2.2 _ (by omega))
theorem FrQ.congr {R S : Nat → Nat → Prop} {f : List Int} {n : Nat} (h : FrQ R f n) (e : ∀ i k, i < n → k < n → (R i k ↔ S i k)) : FrQ S f n :=
  ⟨h.len, fun i hi => by
    have h1 := h.val i hi
    exact ⟨h1.1, h1.2.1, (e _ _ (by omega) hi).1 h1.2.2.1, fun k hk hs => h1.2.2.2 k hk ((e _ _ (by omega) hi).2 hs)⟩⟩
theorem FrQ.start (R : Nat → Nat → Prop) : FrQ R [] 0 := ⟨rfl, fun i h => by omega⟩
theorem FrQ.snoc {R : Nat → Nat → Prop} {f : List Int} {n : Nat} {x : Int} (h : FrQ R f n) (h0 : 0 ≤ x) (h1 : x ≤ (n : Int)) (h2 : R x.toNat n) (h3 : ∀ k : Nat, (k : Int) < x → ¬ R k n) : FrQ R (f ++ [x]) (n + 1) := by
  refine ⟨by simp [h.len], fun i hi => ?_⟩
  by_cases e : i = n
  · subst e
    have e2 : (f ++ [x]).getD i 0 = x := by simp [List.getD_eq_getElem?_getD, List.getElem?_append, h.len]
    rw [e2]; exact ⟨h0, h1, h2, h3⟩
  · have e2 : (f ++ [x]).getD i 0 = f.getD i 0 := by
      simp only [List.getD_eq_getElem?_getD, List.getElem?_append, h.len]; rw [if_pos (by omega)]
    rw [e2]; exact h.val i (by omega)
theorem FrQ.ex (R : Nat → Nat → Prop) (hr : ∀ i, R i i) : ∀ n, ∃ f, FrQ R f n
  | 0 => ⟨[], FrQ.start R⟩
  | n + 1 => by
    obtain ⟨f, hf⟩ := FrQ.ex R hr n
    obtain ⟨r, h1, h2, h3⟩ := least_of (fun k => R k n) n (hr n)
    exact ⟨f ++ [(r : Int)], hf.snoc (by omega) (by omega) (by simpa using h2) (fun k hk => h3 k (by omega))⟩
/-- Alike as such. -/
structure EqR (R : Nat → Nat → Prop) (n : Nat) : Prop where
  refl : ∀ i, i < n → R i i
  symm : ∀ i k, i < n → k < n → R i k → R k i
  trans : ∀ i j k, i < n → j < n → k < n → R i j → R j k → R i k
theorem FrQ.kernel {R : Nat → Nat → Prop} {f : List Int} {n : Nat} (h : FrQ R f n) (e : EqR R n) {i k : Nat} (hi : i < n) (hk : k < n) : f.getD i 0 = f.getD k 0 ↔ R i k := by
  have h1 := h.val i hi
  have h2 := h.val k hk
  constructor
  · intro c
    rw [← c] at h2
    exact e.trans _ _ _ hi (by omega) hk (e.symm _ _ (by omega) hi h1.2.2.1) h2.2.2.1
  · intro c
    rcases Int.lt_trichotomy (f.getD i 0) (f.getD k 0) with q | q | q
    · exact absurd (e.trans _ _ _ (by omega) hi hk h1.2.2.1 c) (h2.2.2.2 _ (by omega))
    · exact q
    · exact absurd (e.trans _ _ _ (by omega) hk hi h2.2.2.1 (e.symm _ _ hi hk c)) (h1.2.2.2 _ (by omega))
theorem FrQ.first {R : Nat → Nat → Prop} {f : List Int} {n : Nat} (h : FrQ R f n) (e : EqR R n) : FirstP f := fun i hi => by
  rw [h.len] at hi
  have h1 := h.val i hi
  exact ⟨h1.1, h1.2.1, (h.kernel e (by omega) hi).2 h1.2.2.1⟩
/-! ### Numbers hang on what is the same alone -/
section
variable {α β : Type} [DecidableEq α] [DecidableEq β]
theorem numG_old {l : List α} {x : α} (h : x ∈ l) : numL (l ++ [x]) = numL l ++ [((ix x (dd l) : Nat) : Int)] ∧ dd (l ++ [x]) = dd l := by
  have e : dd (l ++ [x]) = dd l := by rw [dd_snoc, if_pos ((dd_mem l x).2 h)]
  exact ⟨by unfold numL; rw [e, List.map_append]; rfl, e⟩
theorem ixG_snoc {x : α} : ∀ {l : List α}, x ∉ l → ix x (l ++ [x]) = l.length
  | [], _ => by simp [ix]
  | y :: l, h => by
    simp only [List.mem_cons, not_or] at h
    simp only [List.cons_append, ix, if_neg h.1, ixG_snoc h.2, List.length_cons]
theorem numG_new {l : List α} {x : α} (h : x ∉ l) : numL (l ++ [x]) = numL l ++ [((dd l).length : Int)] ∧ (dd (l ++ [x])).length = (dd l).length + 1 := by
  have hn : x ∉ dd l := fun h9 => h ((dd_mem l x).1 h9)
  have e : dd (l ++ [x]) = dd l ++ [x] := by rw [dd_snoc, if_neg hn]
  constructor
  · unfold numL; rw [e, List.map_append]
    congr 1
    · apply List.map_congr_left
      intro y hy
      rw [ix_app _ ((dd_mem l y).2 hy)]
    · simp only [List.map_cons, List.map_nil]; rw [ixG_snoc hn]
  · rw [e]; simp
theorem numG_get {l : List α} {i : Nat} {x : α} (h : l[i]? = some x) : (numL l)[i]? = some ((ix x (dd l) : Nat) : Int) := by
  unfold numL; rw [List.getElem?_map, h]; rfl
theorem num_kernel : ∀ (n : Nat) (l : List α) (m : List β), l.length = n → m.length = n → (∀ i k, i < n → k < n → (l[i]? = l[k]? ↔ m[i]? = m[k]?)) → numL l = numL m ∧ (dd l).length = (dd m).length := by
  intro n
  induction n with
  | zero =>
    intro l m hl hm _
    obtain rfl := List.length_eq_zero_iff.1 hl
    obtain rfl := List.length_eq_zero_iff.1 hm
    exact ⟨rfl, rfl⟩
  | succ n ih =>
    intro l m hl hm hk
    obtain ⟨l, x, rfl⟩ : ∃ y x, l = y ++ [x] := ⟨l.dropLast, l.getLast (by intro h; rw [h] at hl; simp at hl), (List.dropLast_concat_getLast _).symm⟩
    obtain ⟨m, y, rfl⟩ : ∃ y x, m = y ++ [x] := ⟨m.dropLast, m.getLast (by intro h; rw [h] at hm; simp at hm), (List.dropLast_concat_getLast _).symm⟩
    have hl' : l.length = n := by simpa using hl
    have hm' : m.length = n := by simpa using hm
    have gl : ∀ i, i < n → (l ++ [x])[i]? = l[i]? := fun i hi => List.getElem?_append_left (by omega)
    have gm : ∀ i, i < n → (m ++ [y])[i]? = m[i]? := fun i hi => List.getElem?_append_left (by omega)
    have el : (l ++ [x])[n]? = some x := by rw [← hl']; simp
    have em : (m ++ [y])[n]? = some y := by rw [← hm']; simp
    obtain ⟨h1, h2⟩ := ih l m hl' hm' (fun i k hi hk2 => by rw [← gl i hi, ← gl k hk2, ← gm i hi, ← gm k hk2]; exact hk i k (by omega) (by omega))
    have key : ∀ j, j < n → (l[j]? = some x ↔ m[j]? = some y) := fun j hj => by
      have := hk j n (by omega) (by omega)
      rwa [gl j hj, gm j hj, el, em] at this
    by_cases hx : x ∈ l
    · obtain ⟨j, hj, e⟩ := List.mem_iff_getElem.1 hx
      have e1 : l[j]? = some x := by rw [List.getElem?_eq_getElem hj, e]
      have e2 := (key j (by omega)).1 e1
      have hy : y ∈ m := List.mem_of_getElem? e2
      obtain ⟨a1, a2⟩ := numG_old hx
      obtain ⟨b1, b2⟩ := numG_old hy
      rw [a1, b1, a2, b2, h1]
      refine ⟨?_, h2⟩
      have c1 := numG_get e1
      have c2 := numG_get e2
      rw [h1, c2] at c1
      rw [Option.some.inj c1]
    · have hy : y ∉ m := fun h => by
        obtain ⟨j, hj, e⟩ := List.mem_iff_getElem.1 h
        exact hx (List.mem_of_getElem? ((key j (by omega)).2 (by rw [List.getElem?_eq_getElem hj, e])))
      obtain ⟨a1, a2⟩ := numG_new hx
      obtain ⟨b1, b2⟩ := numG_new hy
      rw [a1, b1, a2, b2, h1, h2]
      exact ⟨rfl, rfl⟩
theorem numG_kernel {l : List α} {i k : Nat} (hi : i < l.length) (hk : k < l.length) : (numL l)[i]? = (numL l)[k]? ↔ l[i]? = l[k]? := by
  rw [numG_get (List.getElem?_eq_getElem hi), numG_get (List.getElem?_eq_getElem hk), List.getElem?_eq_getElem hi, List.getElem?_eq_getElem hk]
  constructor
  · intro h
    have h1 := Option.some.inj h
    rw [ix_inj ((dd_mem _ _).2 (List.getElem_mem hi)) ((dd_mem _ _).2 (List.getElem_mem hk)) (by omega)]
  · intro h
    rw [Option.some.inj h]
theorem ix_congr : ∀ {l : List α} {m : List β} {x : α} {y : β}, l.length = m.length → (∀ i : Nat, i < l.length → (l[i]? = some x ↔ m[i]? = some y)) → ix x l = ix y m
  | [], [], _, _, _, _ => rfl
  | a :: l, b :: m, x, y, hl, h => by
    have h0 := h 0 (by simp)
    simp only [List.getElem?_cons_zero, Option.some.injEq] at h0
    simp only [ix]
    by_cases e : x = a
    · rw [if_pos e, if_pos (h0.1 e.symm).symm]
    · rw [if_neg e, if_neg (fun e2 => e (h0.2 e2.symm).symm), ix_congr (l := l) (m := m) (x := x) (y := y) (by simpa using hl) (fun i hi => by simpa using h (i + 1) (by simp; omega))]
  | [], _ :: _, _, _, hl, _ => by simp at hl
  | _ :: _, [], _, _, hl, _ => by simp at hl
end
end Go.Proofs.Ytoeockpkkmgieaa


/- Proved here: the least automaton, its states numbered as they are met: it is right, it accepts the same, its states are reached and no two of them alike, and it hangs on what is accepted alone. Conditions: those of each theorem. -/
namespace Go.Proofs.Ytoeockpkkmgieaa
open Go Go.Sx
set_option linter.unusedVariables false
set_option linter.unusedSimpArgs false
/-! ### One comes there by symbols -/
theorem nxR_by {d : DfaD} (hr : rightB d = true) {s t : Int} : t ∈ nxR d s ↔ ∃ c : Int, (0 ≤ c ∧ c < 259) ∧ stepD d s c = t := by
  have h1 := (rightB_iff.1 hr).1.1
  rw [nxR_mem, h1]
  constructor
  · rintro ⟨i, hi, e⟩; exact ⟨(i : Int), by omega, by unfold stepD; rw [Int.toNat_natCast]; exact e⟩
  · rintro ⟨c, hc, e⟩; exact ⟨c.toNat, by omega, e⟩
theorem to_word {d : DfaD} (hr : rightB d = true) {s t : Int} (h : To d s t) : ∃ w, okW w ∧ w.foldl (stepD d) s = t := by
  induction h with
  | refl s => exact ⟨[], fun c hc => by simp at hc, rfl⟩
  | step hu _ ih =>
    obtain ⟨w, hw, e⟩ := ih
    obtain ⟨c, hc, e2⟩ := (nxR_by hr).1 hu
    exact ⟨c :: w, fun x hx => by rcases List.mem_cons.1 hx with rfl | hx; exact hc; exact hw x hx, by rw [List.foldl_cons, e2]; exact e⟩
theorem word_to {d : DfaD} (hr : rightB d = true) : ∀ (w : List Int) (s : Int), okW w → To d s (w.foldl (stepD d) s)
  | [], s, _ => .refl s
  | c :: w, s, hw => .step ((nxR_by hr).2 ⟨c, hw.tail.1, rfl⟩) (word_to hr w _ hw.tail.2)
theorem To.sym {d : DfaD} (hr : rightB d = true) {s t c : Int} (h : To d s t) (hc : 0 ≤ c ∧ c < 259) : To d s (stepD d t c) := h.snoc ((nxR_by hr).2 ⟨c, hc, rfl⟩)
/-! ### Blocks of states, classes of symbols -/
def StR (d : DfaD) (k i : Nat) : Prop := LEq d (k : Int) d (i : Int)
def SymR (d : DfaD) (k sym : Nat) : Prop := ∀ s : Nat, s < d.acc.length → To d d.start (s : Int) → LEq d (stepD d (s : Int) (k : Int)) d (stepD d (s : Int) (sym : Int))
theorem stR_eq (d : DfaD) (n : Nat) : EqR (StR d) n := ⟨fun i _ => LEq.refl d i, fun i k _ _ h => LEq.symm h, fun i j k _ _ _ h1 h2 => LEq.trans h1 h2⟩
theorem symR_eq (d : DfaD) (n : Nat) : EqR (SymR d) n := ⟨fun i _ s _ _ => LEq.refl d _, fun i k _ _ h s h1 h2 => (h s h1 h2).symm, fun i j k _ _ _ h1 h2 s h3 h4 => (h1 s h3 h4).trans (h2 s h3 h4)⟩
noncomputable def blkF (d : DfaD) : List Int := Classical.choose (FrQ.ex (StR d) (fun i => LEq.refl d i) d.acc.length)
noncomputable def symF (d : DfaD) : List Int := Classical.choose (FrQ.ex (SymR d) (fun i s _ _ => LEq.refl d _) 259)
theorem blkF_q (d : DfaD) : FrQ (StR d) (blkF d) d.acc.length := Classical.choose_spec (FrQ.ex (StR d) (fun i => LEq.refl d i) d.acc.length)
theorem symF_q (d : DfaD) : FrQ (SymR d) (symF d) 259 := Classical.choose_spec (FrQ.ex (SymR d) (fun i s _ _ => LEq.refl d _) 259)
noncomputable def blkD (d : DfaD) : List Int := numL (blkF d)
theorem blkD_len (d : DfaD) : (blkD d).length = d.acc.length := by rw [blkD, numL_len, (blkF_q d).len]
theorem FrP.q {d : DfaD} (hr : rightB d = true) {f : List Int} (h : FrP d f d.acc.length) : FrQ (StR d) f d.acc.length :=
  ⟨h.len, fun i hi => by
    have h1 := h.val i hi
    refine ⟨h1.1, h1.2.1, (dis_iff hr (by omega) hi).1 (fun h9 => h1.2.2.1 (dis_symm h9)), fun k hk h9 => ?_⟩
    exact (dis_iff hr (by omega) hi).2 h9 (dis_symm (h1.2.2.2 k hk))⟩
def blAt (bl : List Int) (s : Int) : Int := bl.getD s.toNat 0
/-- Numbers of blocks, whichever. -/
def BlkK (d : DfaD) (bl : List Int) : Prop := ∀ s t : Int, 0 ≤ s ∧ s < (d.acc.length : Int) → 0 ≤ t ∧ t < (d.acc.length : Int) → (blAt bl s = blAt bl t ↔ LEq d s d t)
theorem blkD_k (d : DfaD) : BlkK d (blkD d) := fun s t hs ht => by
  have hl := (blkF_q d).len
  have h1 := numG_kernel (l := blkF d) (i := s.toNat) (k := t.toNat) (by omega) (by omega)
  have h2 := (blkF_q d).kernel (stR_eq d _) (i := s.toNat) (k := t.toNat) (by omega) (by omega)
  unfold StR at h2
  rw [Int.toNat_of_nonneg hs.1, Int.toNat_of_nonneg ht.1] at h2
  rw [← h2]
  have e1 : s.toNat < (numL (blkF d)).length := by rw [numL_len]; omega
  have e2 : t.toNat < (numL (blkF d)).length := by rw [numL_len]; omega
  unfold blAt blkD
  simp only [List.getD_eq_getElem?_getD, List.getElem?_eq_getElem e1, List.getElem?_eq_getElem e2, List.getElem?_eq_getElem (show s.toNat < (blkF d).length by omega), List.getElem?_eq_getElem (show t.toNat < (blkF d).length by omega), Option.getD_some, Option.some.injEq] at h1 ⊢
  exact h1
/-! ### States numbered as they are met -/
def meetD (d : DfaD) (bl : List Int) (s : Int) (p : List Int × List Int) (sym : Int) : List Int × List Int :=
  if blAt bl (stepD d s sym) ∈ p.1.map (blAt bl) then (p.1, p.2 ++ [((ix (blAt bl (stepD d s sym)) (p.1.map (blAt bl)) : Nat) : Int)])
  else (p.1 ++ [stepD d s sym], p.2 ++ [(p.1.length : Int)])
def numLoop (d : DfaD) (bl fs : List Int) : Nat → Nat → List Int × List Int → List Int × List Int
  | 0, _, p => p
  | f + 1, at_, p => if at_ < p.1.length then numLoop d bl fs f (at_ + 1) (fs.foldl (meetD d bl (p.1.getD at_ 0)) p) else p
theorem numLoop_go {d : DfaD} {bl fs : List Int} {F at_ : Nat} {p : List Int × List Int} (hF : at_ < F) (h : at_ < p.1.length) :
    numLoop d bl fs (F - at_) at_ p = numLoop d bl fs (F - (at_ + 1)) (at_ + 1) (fs.foldl (meetD d bl (p.1.getD at_ 0)) p) := by
  have e : F - at_ = (F - (at_ + 1)) + 1 := by omega
  rw [e, numLoop, if_pos h]
theorem numLoop_end {d : DfaD} {bl fs : List Int} {F at_ : Nat} {p : List Int × List Int} (h : ¬ at_ < p.1.length) : numLoop d bl fs F at_ p = p := by
  cases F with
  | zero => rfl
  | succ F => rw [numLoop, if_neg h]
theorem meet_pre (d : DfaD) (bl : List Int) (s : Int) (p : List Int × List Int) (c : Int) : ∃ r, (meetD d bl s p c).1 = p.1 ++ r := by
  unfold meetD; split
  · exact ⟨[], by simp⟩
  · exact ⟨_, rfl⟩
theorem getD_pre {l r : List Int} {i : Nat} (h : i < l.length) : (l ++ r).getD i 0 = l.getD i 0 := by
  simp only [List.getD_eq_getElem?_getD, List.getElem?_append_left h]
theorem getD_last {l : List Int} {x : Int} : (l ++ [x]).getD l.length 0 = x := by simp [List.getD_eq_getElem?_getD]
structure NuI (d : DfaD) (fs : List Int) (p : List Int × List Int) (at_ j : Nat) : Prop where
  pos : 0 < p.1.length
  head : p.1.getD 0 0 = d.start
  rng : ∀ i, i < p.1.length → (0 ≤ p.1.getD i 0 ∧ p.1.getD i 0 < (d.acc.length : Int)) ∧ To d d.start (p.1.getD i 0)
  nd : ∀ i k, i < k → k < p.1.length → ¬ LEq d (p.1.getD i 0) d (p.1.getD k 0)
  nlen : p.2.length = at_ * fs.length + j
  nx : ∀ m, m < p.2.length → (0 ≤ p.2.getD m 0 ∧ p.2.getD m 0 < (p.1.length : Int)) ∧ m / fs.length < p.1.length ∧ LEq d (p.1.getD (p.2.getD m 0).toNat 0) d (stepD d (p.1.getD (m / fs.length) 0) (fs.getD (m % fs.length) 0))
  met : ∀ i, 0 < i → i < p.1.length → ∃ m, m < p.2.length ∧ m / fs.length < i ∧ p.2.getD m 0 = (i : Int)
theorem NuI.start {d : DfaD} (hr : rightB d = true) (fs : List Int) : NuI d fs ([d.start], []) 0 0 := by
  have hs := (rightB_iff.1 hr).1.2.2.2.2.2.2
  refine ⟨by simp, rfl, fun i hi => ?_, fun i k h1 h2 => ?_, by simp, fun m hm => by simp at hm, fun i h1 h2 => ?_⟩
  · have : i = 0 := by simp at hi; exact hi
    subst this; exact ⟨hs, .refl _⟩
  · simp at h2; omega
  · simp at h2; omega
theorem NuI.bound {d : DfaD} {fs : List Int} {p : List Int × List Int} {at_ j : Nat} (h : NuI d fs p at_ j) : p.1.length ≤ d.acc.length := by
  have key := nodup_le d.acc.length (p.1.map Int.toNat) ?_ ?_
  · simpa using key
  · rw [List.nodup_iff_pairwise_ne, List.pairwise_iff_getElem]
    intro i k hi hk hik e
    simp only [List.length_map] at hi hk
    simp only [List.getElem_map] at e
    have r1 := (h.rng i hi).1
    have r2 := (h.rng k hk).1
    refine h.nd i k hik hk ?_
    have e1 : p.1.getD i 0 = p.1[i] := by simp [List.getD_eq_getElem?_getD, List.getElem?_eq_getElem hi]
    have e2 : p.1.getD k 0 = p.1[k] := by simp [List.getD_eq_getElem?_getD, List.getElem?_eq_getElem hk]
    rw [e1] at r1 ⊢
    rw [e2] at r2 ⊢
    have : p.1[i] = p.1[k] := by omega
    rw [this]; exact LEq.refl _ _
  · intro x hx
    obtain ⟨y, hy, rfl⟩ := List.mem_map.1 hx
    obtain ⟨i, hi, rfl⟩ := List.mem_iff_getElem.1 hy
    have r1 := (h.rng i hi).1
    have e1 : p.1.getD i 0 = p.1[i] := by simp [List.getD_eq_getElem?_getD, List.getElem?_eq_getElem hi]
    rw [e1] at r1; omega
theorem divW {a W j : Nat} (h : j < W) : (a * W + j) / W = a ∧ (a * W + j) % W = j := by
  constructor
  · rw [Nat.mul_comm, Nat.mul_add_div (by omega), Nat.div_eq_of_lt h]; omega
  · rw [Nat.mul_comm, Nat.mul_add_mod, Nat.mod_eq_of_lt h]
theorem mem_blAt {d : DfaD} {bl : List Int} (hb : BlkK d bl) {l : List Int} (hl : ∀ i, i < l.length → 0 ≤ l.getD i 0 ∧ l.getD i 0 < (d.acc.length : Int)) {t : Int} (ht : 0 ≤ t ∧ t < (d.acc.length : Int)) :
    (blAt bl t ∈ l.map (blAt bl) ↔ ∃ i, i < l.length ∧ LEq d t d (l.getD i 0)) ∧ ∀ i, i < l.length → ((l.map (blAt bl))[i]? = some (blAt bl t) ↔ LEq d (l.getD i 0) d t) := by
  have key : ∀ i, i < l.length → ((l.map (blAt bl))[i]? = some (blAt bl t) ↔ LEq d (l.getD i 0) d t) := fun i hi => by
    have e1 : l.getD i 0 = l[i] := by simp [List.getD_eq_getElem?_getD, List.getElem?_eq_getElem hi]
    have h1 := hl i hi
    rw [e1] at h1 ⊢
    rw [List.getElem?_map, List.getElem?_eq_getElem hi, Option.map_some, Option.some.injEq, hb _ _ h1 ht]
  refine ⟨⟨fun h => ?_, fun ⟨i, hi, h⟩ => ?_⟩, key⟩
  · obtain ⟨i, hi, e⟩ := List.mem_iff_getElem?.1 h |> fun ⟨i, e⟩ => (⟨i, by have := (List.getElem?_eq_some_iff.1 e).1; simpa using this, e⟩ : ∃ i, i < l.length ∧ (l.map (blAt bl))[i]? = some (blAt bl t))
    exact ⟨i, hi, ((key i hi).1 e).symm⟩
  · exact List.mem_of_getElem? ((key i hi).2 h.symm)
theorem NuI.step {d : DfaD} (hr : rightB d = true) {bl fs : List Int} (hb : BlkK d bl) {p : List Int × List Int} {at_ j : Nat} {s : Int} (h : NuI d fs p at_ j) (hat : at_ < p.1.length) (hj : j < fs.length) (hc : 0 ≤ fs.getD j 0 ∧ fs.getD j 0 < 259) (hs : s = p.1.getD at_ 0) :
    NuI d fs (meetD d bl s p (fs.getD j 0)) at_ (j + 1) := by
  subst hs
  have hsr := h.rng at_ hat
  have ht := stepD_bd' hr hsr.1.1 hsr.1.2 hc
  have hto := hsr.2.sym hr hc
  have hm := mem_blAt hb (l := p.1) (fun i hi => (h.rng i hi).1) ht
  have hdv := divW (a := at_) hj
  rw [← h.nlen] at hdv
  unfold meetD
  split
  · rename_i hin
    have hlt := ix_lt hin
    rw [List.length_map] at hlt
    have hget := ix_get (d := 0) hin
    have hL : LEq d (p.1.getD (ix (blAt bl (stepD d (p.1.getD at_ 0) (fs.getD j 0))) (p.1.map (blAt bl))) 0) d (stepD d (p.1.getD at_ 0) (fs.getD j 0)) := by
      refine (hm.2 _ hlt).1 ?_
      rw [List.getD_eq_getElem?_getD, List.getElem?_eq_getElem (by rw [List.length_map]; exact hlt), Option.getD_some] at hget
      rw [List.getElem?_eq_getElem (by rw [List.length_map]; exact hlt), hget]
    refine ⟨h.pos, h.head, h.rng, h.nd, by simp [h.nlen]; omega, fun m hm2 => ?_, fun i h1 h2 => ?_⟩
    · simp only [List.length_append, List.length_singleton] at hm2
      by_cases e : m < p.2.length
      · simp only [getD_pre e]; exact h.nx m e
      · have e2 : m = p.2.length := by omega
        subst e2
        simp only [getD_last, hdv.1, hdv.2]
        exact ⟨by omega, hat, by rw [Int.toNat_natCast]; exact hL⟩
    · obtain ⟨m, q1, q2, q3⟩ := h.met i h1 h2
      exact ⟨m, by simp; omega, q2, by simp only [getD_pre q1]; exact q3⟩
  · rename_i hin
    have hg : ∀ i, i < p.1.length → (p.1 ++ [stepD d (p.1.getD at_ 0) (fs.getD j 0)]).getD i 0 = p.1.getD i 0 := fun i hi => getD_pre hi
    have hgl : (p.1 ++ [stepD d (p.1.getD at_ 0) (fs.getD j 0)]).getD p.1.length 0 = stepD d (p.1.getD at_ 0) (fs.getD j 0) := getD_last
    refine ⟨by simp, by simp only [hg 0 h.pos]; exact h.head, fun i hi => ?_, fun i k h1 h2 => ?_, by simp [h.nlen]; omega, fun m hm2 => ?_, fun i h1 h2 => ?_⟩
    · simp only [List.length_append, List.length_singleton] at hi
      by_cases e : i < p.1.length
      · simp only [hg i e]; exact h.rng i e
      · have e2 : i = p.1.length := by omega
        subst e2
        simp only [hgl]; exact ⟨ht, hto⟩
    · simp only [List.length_append, List.length_singleton] at h2
      by_cases e : k < p.1.length
      · simp only [hg i (by omega), hg k e]; exact h.nd i k h1 e
      · have e2 : k = p.1.length := by omega
        subst e2
        simp only [hg i h1, hgl]
        exact fun h9 => hin (hm.1.2 ⟨i, h1, h9.symm⟩)
    · simp only [List.length_append, List.length_singleton] at hm2 ⊢
      by_cases e : m < p.2.length
      · have q := h.nx m e
        simp only [getD_pre e, hg _ q.2.1, hg _ (show (p.2.getD m 0).toNat < p.1.length by omega)]
        exact ⟨by omega, by omega, q.2.2⟩
      · have e2 : m = p.2.length := by omega
        subst e2
        simp only [getD_last, hdv.1, hdv.2, Int.toNat_natCast, hgl, hg at_ hat]
        exact ⟨by omega, by omega, LEq.refl _ _⟩
    · simp only [List.length_append, List.length_singleton] at h2 ⊢
      by_cases e : i < p.1.length
      · obtain ⟨m, q1, q2, q3⟩ := h.met i h1 e
        exact ⟨m, by omega, q2, by simp only [getD_pre q1]; exact q3⟩
      · have e2 : i = p.1.length := by omega
        subst e2
        exact ⟨p.2.length, by omega, by rw [hdv.1]; exact hat, getD_last⟩
theorem meetFold_step {d : DfaD} {bl fs : List Int} {s : Int} {p : List Int × List Int} {j : Nat} (h : j < fs.length) : meetD d bl s ((fs.take j).foldl (meetD d bl s) p) (fs.getD j 0) = (fs.take (j + 1)).foldl (meetD d bl s) p := by
  rw [take_succ_getD 0 h, List.foldl_append]; rfl
theorem meetFold_pre (d : DfaD) (bl : List Int) (s : Int) : ∀ (fs : List Int) (p : List Int × List Int), ∃ r, (fs.foldl (meetD d bl s) p).1 = p.1 ++ r
  | [], p => ⟨[], by simp⟩
  | c :: fs, p => by
    obtain ⟨r, h⟩ := meet_pre d bl s p c
    obtain ⟨r2, h2⟩ := meetFold_pre d bl s fs (meetD d bl s p c)
    exact ⟨r ++ r2, by rw [List.foldl_cons, h2, h, List.append_assoc]⟩
theorem NuI.upto {d : DfaD} (hr : rightB d = true) {bl fs : List Int} (hb : BlkK d bl) (hfs : ∀ j, j < fs.length → 0 ≤ fs.getD j 0 ∧ fs.getD j 0 < 259) {p : List Int × List Int} {at_ : Nat} (h : NuI d fs p at_ 0) (hat : at_ < p.1.length) :
    ∀ j, j ≤ fs.length → NuI d fs ((fs.take j).foldl (meetD d bl (p.1.getD at_ 0)) p) at_ j
  | 0, _ => h
  | j + 1, hj => by
    have ih := NuI.upto hr hb hfs h hat j (by omega)
    rw [← meetFold_step (by omega)]
    obtain ⟨r, e⟩ := meetFold_pre d bl (p.1.getD at_ 0) (fs.take j) p
    exact ih.step hr hb (by rw [e, List.length_append]; omega) (by omega) (hfs j (by omega)) (by rw [e, getD_pre hat])
theorem NuI.next {d : DfaD} {fs : List Int} {p : List Int × List Int} {at_ j : Nat} (h : NuI d fs p at_ j) (hj : j = fs.length) : NuI d fs p (at_ + 1) 0 :=
  ⟨h.pos, h.head, h.rng, h.nd, by rw [h.nlen, hj, Nat.add_mul, Nat.one_mul, Nat.add_zero], h.nx, h.met⟩
theorem NuI.fold {d : DfaD} (hr : rightB d = true) {bl fs : List Int} (hb : BlkK d bl) (hfs : ∀ j, j < fs.length → 0 ≤ fs.getD j 0 ∧ fs.getD j 0 < 259) {p : List Int × List Int} {at_ : Nat} (h : NuI d fs p at_ 0) (hat : at_ < p.1.length) :
    NuI d fs (fs.foldl (meetD d bl (p.1.getD at_ 0)) p) (at_ + 1) 0 := by
  have h1 := NuI.upto hr hb hfs h hat fs.length (Nat.le_refl _)
  rw [List.take_length] at h1
  exact h1.next rfl
theorem NuI.loop {d : DfaD} (hr : rightB d = true) {bl fs : List Int} (hb : BlkK d bl) (hfs : ∀ j, j < fs.length → 0 ≤ fs.getD j 0 ∧ fs.getD j 0 < 259) : ∀ (F at_ : Nat) (p : List Int × List Int), NuI d fs p at_ 0 → at_ ≤ p.1.length → d.acc.length < F + at_ →
    NuI d fs (numLoop d bl fs F at_ p) (numLoop d bl fs F at_ p).1.length 0
  | 0, at_, p, h, h1, h2 => by have := h.bound; omega
  | F + 1, at_, p, h, h1, h2 => by
    rw [numLoop]
    split
    · rename_i hat
      have h3 := h.fold hr hb hfs hat
      obtain ⟨r, e⟩ := meetFold_pre d bl (p.1.getD at_ 0) fs p
      exact NuI.loop hr hb hfs F (at_ + 1) _ h3 (by rw [e, List.length_append]; omega) (by omega)
    · rename_i hat
      have : at_ = p.1.length := by omega
      subst this; exact h
/-! ### Two automata, side by side -/
structure CoI (d e : DfaD) (p q : List Int × List Int) : Prop where
  len : p.1.length = q.1.length
  nx : p.2 = q.2
  eqs : ∀ i, i < p.1.length → LEq d (p.1.getD i 0) e (q.1.getD i 0)
  rd : ∀ i, i < p.1.length → 0 ≤ p.1.getD i 0 ∧ p.1.getD i 0 < (d.acc.length : Int)
  re : ∀ i, i < q.1.length → 0 ≤ q.1.getD i 0 ∧ q.1.getD i 0 < (e.acc.length : Int)
theorem CoI.step {d e : DfaD} (hd : rightB d = true) (he : rightB e = true) {bl bm : List Int} (hbd : BlkK d bl) (hbe : BlkK e bm) {p q : List Int × List Int} (h : CoI d e p q) {s t c : Int} (hs : 0 ≤ s ∧ s < (d.acc.length : Int)) (ht : 0 ≤ t ∧ t < (e.acc.length : Int)) (hst : LEq d s e t) (hc : 0 ≤ c ∧ c < 259) :
    CoI d e (meetD d bl s p c) (meetD e bm t q c) := by
  have hs2 := stepD_bd' hd hs.1 hs.2 hc
  have ht2 := stepD_bd' he ht.1 ht.2 hc
  have hst2 := hst.step hc
  have m1 := mem_blAt hbd (l := p.1) h.rd hs2
  have m2 := mem_blAt hbe (l := q.1) h.re ht2
  have key : ∀ i, i < p.1.length → (LEq d (p.1.getD i 0) d (stepD d s c) ↔ LEq e (q.1.getD i 0) e (stepD e t c)) := fun i hi =>
    ⟨fun h9 => ((h.eqs i hi).symm.trans h9).trans hst2, fun h9 => ((h.eqs i hi).trans h9).trans hst2.symm⟩
  have hmem : blAt bl (stepD d s c) ∈ p.1.map (blAt bl) ↔ blAt bm (stepD e t c) ∈ q.1.map (blAt bm) := by
    rw [m1.1, m2.1]
    constructor
    · rintro ⟨i, hi, h9⟩; exact ⟨i, by rw [← h.len]; exact hi, ((key i hi).1 h9.symm).symm⟩
    · rintro ⟨i, hi, h9⟩; exact ⟨i, by rw [h.len]; exact hi, ((key i (by rw [h.len]; exact hi)).2 h9.symm).symm⟩
  unfold meetD
  by_cases hin : blAt bl (stepD d s c) ∈ p.1.map (blAt bl)
  · rw [if_pos hin, if_pos (hmem.1 hin)]
    have hix : ix (blAt bl (stepD d s c)) (p.1.map (blAt bl)) = ix (blAt bm (stepD e t c)) (q.1.map (blAt bm)) := by
      refine ix_congr (by simp [h.len]) fun i hi => ?_
      rw [List.length_map] at hi
      rw [m1.2 i hi, m2.2 i (by rw [← h.len]; exact hi)]
      exact key i hi
    exact ⟨h.len, by simp only [hix, h.nx], h.eqs, h.rd, h.re⟩
  · rw [if_neg hin, if_neg (fun h9 => hin (hmem.2 h9))]
    refine ⟨by simp [h.len], by simp only [h.len, h.nx], fun i hi => ?_, fun i hi => ?_, fun i hi => ?_⟩
    · simp only [List.length_append, List.length_singleton] at hi
      by_cases e9 : i < p.1.length
      · simp only [getD_pre e9, getD_pre (show i < q.1.length by rw [← h.len]; exact e9)]; exact h.eqs i e9
      · have e2 : i = p.1.length := by omega
        subst e2
        simp only [getD_last]
        rw [h.len, getD_last]; exact hst2
    · simp only [List.length_append, List.length_singleton] at hi
      by_cases e9 : i < p.1.length
      · simp only [getD_pre e9]; exact h.rd i e9
      · have e2 : i = p.1.length := by omega
        subst e2
        simp only [getD_last]; exact hs2
    · simp only [List.length_append, List.length_singleton] at hi
      by_cases e9 : i < q.1.length
      · simp only [getD_pre e9]; exact h.re i e9
      · have e2 : i = q.1.length := by omega
        subst e2
        simp only [getD_last]; exact ht2
theorem CoI.fold {d e : DfaD} (hd : rightB d = true) (he : rightB e = true) {bl bm : List Int} (hbd : BlkK d bl) (hbe : BlkK e bm) {s t : Int} (hs : 0 ≤ s ∧ s < (d.acc.length : Int)) (ht : 0 ≤ t ∧ t < (e.acc.length : Int)) (hst : LEq d s e t) :
    ∀ (fs : List Int) (p q : List Int × List Int), okW fs → CoI d e p q → CoI d e (fs.foldl (meetD d bl s) p) (fs.foldl (meetD e bm t) q)
  | [], p, q, _, h => h
  | c :: fs, p, q, hf, h => CoI.fold hd he hbd hbe hs ht hst fs _ _ hf.tail.2 (h.step hd he hbd hbe hs ht hst hf.tail.1)
theorem CoI.loop {d e : DfaD} (hd : rightB d = true) (he : rightB e = true) {bl bm : List Int} (hbd : BlkK d bl) (hbe : BlkK e bm) {fs : List Int} (hf : okW fs) :
    ∀ (F at_ : Nat) (p q : List Int × List Int), CoI d e p q → CoI d e (numLoop d bl fs F at_ p) (numLoop e bm fs F at_ q)
  | 0, _, p, q, h => h
  | F + 1, at_, p, q, h => by
    rw [numLoop, numLoop]
    by_cases hat : at_ < p.1.length
    · rw [if_pos hat, if_pos (by rw [← h.len]; exact hat)]
      exact CoI.loop hd he hbd hbe hf F (at_ + 1) _ _ (CoI.fold hd he hbd hbe (h.rd at_ hat) (h.re at_ (by rw [← h.len]; exact hat)) (h.eqs at_ hat) fs p q hf h)
    · rw [if_neg hat, if_neg (by rw [← h.len]; exact hat)]; exact h
end Go.Proofs.Ytoeockpkkmgieaa

