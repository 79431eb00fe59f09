/- The walks of functions, printed by wip/tools/gw.py. -/
import Derived.Test.YtoeockpkkmgieaaF2
import Derived.Test.YtoeockpkkmgieaaSx7
import Derived.Test.YtoeockpkkmgieaaA5
import Derived.Test.YtoeockpkkmgieaaSx13
namespace Go.Proofs.Ytoeockpkkmgieaa
open Go Go.Sx
set_option linter.unusedVariables false
set_option linter.unusedSimpArgs false
set_option maxRecDepth 20000 in
theorem live1_any (s : Int) (fg : Nat) (fa : Option Addr) (ps : List (LR Int)) (fc : Nat) (fn : Nat) (w : World) (rps : RdT tyLR w (.slice fa fn fc) ps) (bfg : w.heap[fg]? = some (.cells #[.slice fa fn fc] 77 (0, 0))) (hs : 0 ≤ s ∧ s < (ps.length : Int)) :
    Calls Try.prog 59 #[.int .i64 s, .pointer (some ⟨fg, 0, none⟩)] w (Ret fun v w' => v = .slice ((ps.getD s.toNat lr0).a) ((ps.getD s.toNat lr0).n) ((ps.getD s.toNat lr0).c) ∧ Upd w [] w' []) := by
  have le_rps := rps.le
  refine calls_of_W (args := [.int .i64 s, .pointer (some ⟨fg, 0, none⟩)]) Try.func59 rfl rfl rfl ?_
  have H0 : UpG w [] w [] := UpG.nil w
  show W _ _ _ _ [(0, .int .i64 s), (1, .pointer (some ⟨fg, 0, none⟩))] w
  refine W.seq ?_
  refine W.region ?_
  refine WL.op rfl (d_assign rfl ?_)
  refine WL.done (X.then_code ?_)
  refine W.seq ?_
  refine W.region ?_
  refine WL.op rfl (d_loadB Try.underlying77 rfl rfl (H0.keep0.obj bfg (by simp)) rfl ?_)
  refine WL.op rfl (d_move rfl ?_)
  refine WL.op rfl (t_addr1 s.toNat (T := tyLR) rfl Try.underlying77 sz22 rfl rfl (rps.at H0) (by omega) (by omega) ?_)
  refine WL.op rfl (t_load1 s.toNat lr0 (T := tyLR) rfl Try.underlying22 rfl rfl (rps.at H0) (by omega) rfl ?_)
  refine WL.op rfl (d_assign rfl ?_)
  refine WL.done (X.then_code ?_)
  refine W.ret (X.ret1 rfl rfl ?_)
  exact ⟨rfl, H0.noneL⟩
end Go.Proofs.Ytoeockpkkmgieaa
