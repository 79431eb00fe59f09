/- The walks of functions, printed by wip/tools/gw.py. -/
import Derived.Test.YtoeockpkkmgieaaMiniLeastB1
import Derived.Test.YtoeockpkkmgieaaMiniLeastB2
import Derived.Test.YtoeockpkkmgieaaMiniLeastB6
import Derived.Test.YtoeockpkkmgieaaMiniLeastB5
import Derived.Test.YtoeockpkkmgieaaMiniLeastB3
namespace Go.Proofs.Ytoeockpkkmgieaa
open Go Go.Sx
set_option linter.unusedVariables false
set_option linter.unusedSimpArgs false
set_option maxRecDepth 20000 in
theorem go11_any (d : DfaD) (dca : Option Addr) (dna : Option Addr) (dba : Option Addr) (dcc : Nat) (dnc : Nat) (dbc : Nat) (iI : Int) (i : Nat) (c : Int) (w : World) (rcd : RdT (tyI .i64) w (.slice dca d.cls.length dcc) d.cls) (rnd : RdT (tyI .i64) w (.slice dna d.next.length dnc) d.next) (rbd : RdT tyB w (.slice dba d.acc.length dbc) d.acc) (e_i : iI = ((i : Nat) : Int)) (hrt : rightB d = true) (hi : i < d.acc.length) (hc : 0 ≤ c ∧ c < 259) :
    Calls Try.prog 81 #[.agg #[.slice dca d.cls.length dcc, .int .i64 d.width, .int .i64 d.start, .slice dna d.next.length dnc, .slice dba d.acc.length dbc], .int .i64 iI, .int .i64 c] w (Ret fun v w' => v = .int .i64 (((dN d i c) : Nat) : Int) ∧ Upd w [] w' []) := by
  subst e_i
  have hri := rightB_iff.1 hrt
  have hs1 := right_sym hrt hc.1 hc.2
  have hix := right_idx (q := (i : Int)) hrt (by omega) (by omega) hs1.2.1 hs1.2.2.1
  have le_rcd := rcd.le
  have le_rnd := rnd.le
  have le_rbd := rbd.le
  refine calls_of_W (args := [.agg #[.slice dca d.cls.length dcc, .int .i64 d.width, .int .i64 d.start, .slice dna d.next.length dnc, .slice dba d.acc.length dbc], .int .i64 ((i : Nat) : Int), .int .i64 c]) Try.func81 rfl rfl rfl ?_
  have H0 : UpG w [] w [] := UpG.nil w
  show W _ _ _ _ [(0, .agg #[.slice dca d.cls.length dcc, .int .i64 d.width, .int .i64 d.start, .slice dna d.next.length dnc, .slice dba d.acc.length dbc]), (1, .int .i64 ((i : Nat) : Int)), (2, .int .i64 c)] w
  refine W.seq ?_
  refine W.region ?_
  refine WL.op rfl (d_box rfl fun w1 u1 => ?_)
  have H1 : UpG w [] w1 [[blk w.heap.size #[.slice dca d.cls.length dcc, .int .i64 d.width, .int .i64 d.start, .slice dna d.next.length dnc, .slice dba d.acc.length dbc] 25]] := H0.new' u1
  refine WL.op rfl (d_assign rfl ?_)
  refine WL.done (X.then_code ?_)
  refine W.seq ?_
  refine W.regionD mixed (by kernel_rfl) fun hok1 w2 k1 => ?_
  have H2 : UpG w [] w2 [[blk w.heap.size #[.slice dca d.cls.length dcc, .int .i64 d.width, .int .i64 d.start, .slice dna d.next.length dnc, .slice dba d.acc.length dbc] 25]] := H1.kept k1
  refine WD.take hok1 0 (.pointer (some ⟨w.heap.size, 3, none⟩)) (fun _ => True) rfl rfl rfl rfl rfl trivial (.inl ⟨rfl, fun _ _ => d_fieldAddrB fld25_3 rfl rfl ⟨rfl, rfl⟩⟩) ?_
  refine WD.take hok1 1 (.slice dna d.next.length dnc) (fun w' => w'.heap[w.heap.size]? = some (.cells #[.slice dca d.cls.length dcc, .int .i64 d.width, .int .i64 d.start, .slice dna d.next.length dnc, .slice dba d.acc.length dbc] 25 (0, 0))) rfl rfl rfl rfl rfl (H2.blk 0 rfl) (.inl ⟨rfl, fun _ hC => d_loadB Try.underlying22 rfl rfl hC rfl ⟨rfl, rfl⟩⟩) ?_
  refine WD.take hok1 2 (.int .i64 ((i : Nat) : Int)) (fun _ => True) rfl rfl rfl rfl rfl trivial (.inl ⟨rfl, fun _ _ => d_move rfl ⟨rfl, rfl⟩⟩) ?_
  refine WD.take hok1 3 (.pointer (some ⟨w.heap.size, 1, none⟩)) (fun _ => True) rfl rfl rfl rfl rfl trivial (.inl ⟨rfl, fun _ _ => d_fieldAddrB fld25_1 rfl rfl ⟨rfl, rfl⟩⟩) ?_
  refine WD.take hok1 4 (.int .i64 d.width) (fun w' => w'.heap[w.heap.size]? = some (.cells #[.slice dca d.cls.length dcc, .int .i64 d.width, .int .i64 d.start, .slice dna d.next.length dnc, .slice dba d.acc.length dbc] 25 (0, 0))) rfl rfl rfl rfl rfl (H2.blk 0 rfl) (.inl ⟨rfl, fun _ hC => d_loadB Try.underlying3 rfl rfl hC rfl ⟨rfl, rfl⟩⟩) ?_
  refine WD.take hok1 5 (.int .i64 (((i : Nat) : Int) * d.width)) (fun _ => True) rfl rfl rfl rfl rfl trivial (.inl ⟨rfl, fun _ _ => d_mul rfl rfl (by omega) (by omega) ⟨rfl, rfl⟩⟩) ?_
  refine WD.take hok1 6 (.pointer (some ⟨w.heap.size, 0, none⟩)) (fun _ => True) rfl rfl rfl rfl rfl trivial (.inl ⟨rfl, fun _ _ => d_fieldAddrB fld25_0 rfl rfl ⟨rfl, rfl⟩⟩) ?_
  refine WD.take hok1 7 (.slice dca d.cls.length dcc) (fun w' => w'.heap[w.heap.size]? = some (.cells #[.slice dca d.cls.length dcc, .int .i64 d.width, .int .i64 d.start, .slice dna d.next.length dnc, .slice dba d.acc.length dbc] 25 (0, 0))) rfl rfl rfl rfl rfl (H2.blk 0 rfl) (.inl ⟨rfl, fun _ hC => d_loadB Try.underlying22 rfl rfl hC rfl ⟨rfl, rfl⟩⟩) ?_
  refine WD.take hok1 8 (.int .i64 c) (fun _ => True) rfl rfl rfl rfl rfl trivial (.inl ⟨rfl, fun _ _ => d_move rfl ⟨rfl, rfl⟩⟩) ?_
  refine WD.take hok1 9 (elemPtr (.slice dca d.cls.length dcc) c.toNat) (fun w' => RdT (tyI .i64) w' (.slice dca d.cls.length dcc) d.cls) rfl rfl rfl rfl rfl (rcd.at H2) (.inl ⟨rfl, fun _ hC => t_addr1 c.toNat (T := (tyI .i64)) rfl Try.underlying22 sz3 rfl rfl hC (by omega) (by omega) ⟨rfl, rfl⟩⟩) ?_
  refine WD.take hok1 10 (.int .i64 (d.cls.getD c.toNat 0)) (fun w' => RdT (tyI .i64) w' (.slice dca d.cls.length dcc) d.cls) rfl rfl rfl rfl rfl (rcd.at H2) (.inl ⟨rfl, fun _ hC => t_load1 c.toNat 0 (T := (tyI .i64)) rfl Try.underlying3 rfl rfl hC (by omega) rfl ⟨rfl, rfl⟩⟩) ?_
  refine WD.take hok1 11 (.int .i64 ((((i : Nat) : Int) * d.width) + (d.cls.getD c.toNat 0))) (fun _ => True) rfl rfl rfl rfl rfl trivial (.inl ⟨rfl, fun _ _ => d_add rfl rfl (by omega) (by omega) ⟨rfl, rfl⟩⟩) ?_
  refine WD.take hok1 12 (elemPtr (.slice dna d.next.length dnc) (((((i : Nat) : Int) * d.width) + (d.cls.getD c.toNat 0)).toNat)) (fun w' => RdT (tyI .i64) w' (.slice dna d.next.length dnc) d.next) rfl rfl rfl rfl rfl (rnd.at H2) (.inl ⟨rfl, fun _ hC => t_addr1 (((((i : Nat) : Int) * d.width) + (d.cls.getD c.toNat 0)).toNat) (T := (tyI .i64)) rfl Try.underlying22 sz3 rfl rfl hC (by omega) (by omega) ⟨rfl, rfl⟩⟩) ?_
  refine WD.take hok1 13 (.int .i64 (d.next.getD (((((i : Nat) : Int) * d.width) + (d.cls.getD c.toNat 0)).toNat) 0)) (fun w' => RdT (tyI .i64) w' (.slice dna d.next.length dnc) d.next) rfl rfl rfl rfl rfl (rnd.at H2) (.inl ⟨rfl, fun _ hC => t_load1 (((((i : Nat) : Int) * d.width) + (d.cls.getD c.toNat 0)).toNat) 0 (T := (tyI .i64)) rfl Try.underlying3 rfl rfl hC (by omega) rfl ⟨rfl, rfl⟩⟩) ?_
  refine WD.take hok1 14 (.int .i64 (d.next.getD (((((i : Nat) : Int) * d.width) + (d.cls.getD c.toNat 0)).toNat) 0)) (fun _ => True) rfl rfl rfl rfl rfl trivial (.inl ⟨rfl, fun _ _ => d_assign rfl ⟨rfl, rfl⟩⟩) ?_
  refine WD.done hok1 rfl (X.then_code ?_)
  refine W.ret (X.ret1 rfl rfl ?_)
  exact ⟨(by exact congrArg (Value.int .i64) (dN_int hrt hi hc).symm), H2.noneL⟩

set_option maxRecDepth 20000 in
theorem heads_any (d : DfaD) (dca : Option Addr) (dna : Option Addr) (dba : Option Addr) (dcc : Nat) (dnc : Nat) (dbc : Nat) (w : World) (rcd : RdT (tyI .i64) w (.slice dca d.cls.length dcc) d.cls) (rnd : RdT (tyI .i64) w (.slice dna d.next.length dnc) d.next) (rbd : RdT tyB w (.slice dba d.acc.length dbc) d.acc) (hrt : rightB d = true) :
    Calls Try.prog 89 #[.agg #[.slice dca d.cls.length dcc, .int .i64 d.width, .int .i64 d.start, .slice dna d.next.length dnc, .slice dba d.acc.length dbc]] w (Ret fun v w' => ∃ a2 : Option Addr, ∃ hs : List Int, ∃ c2 : Nat, v = .slice a2 hs.length c2 ∧ Upd w [] w' [rowT (tyI .i64) (.slice a2 hs.length c2) 3 hs] ∧ (HdI d hs 259)) := by
  have hri := rightB_iff.1 hrt
  have le_rcd := rcd.le
  have le_rnd := rnd.le
  have le_rbd := rbd.le
  refine calls_of_W (args := [.agg #[.slice dca d.cls.length dcc, .int .i64 d.width, .int .i64 d.start, .slice dna d.next.length dnc, .slice dba d.acc.length dbc]]) Try.func89 rfl rfl rfl ?_
  have H0 : UpG w [] w [] := UpG.nil w
  show W _ _ _ _ [(0, .agg #[.slice dca d.cls.length dcc, .int .i64 d.width, .int .i64 d.start, .slice dna d.next.length dnc, .slice dba d.acc.length dbc])] w
  refine W.seq ?_
  refine W.region ?_
  refine WL.op rfl (d_box rfl fun w1 u1 => ?_)
  have H1 : UpG w [] w1 [[blk w.heap.size #[.slice dca d.cls.length dcc, .int .i64 d.width, .int .i64 d.start, .slice dna d.next.length dnc, .slice dba d.acc.length dbc] 25]] := H0.new' u1
  refine WL.op rfl (d_assign rfl ?_)
  refine WL.done (X.then_code ?_)
  refine W.seq ?_
  refine W.region ?_
  refine WL.op rfl (d_assign rfl ?_)
  refine WL.done (X.then_code ?_)
  refine W.seq ?_
  refine W.seq ?_
  refine W.region ?_
  refine WL.op rfl (d_assign rfl ?_)
  refine WL.done (X.then_code ?_)
  refine W.block ?_
  have H2 : UpG w [] w1 [[blk w.heap.size #[.slice dca d.cls.length dcc, .int .i64 d.width, .int .i64 d.start, .slice dna d.next.length dnc, .slice dba d.acc.length dbc] 25], [rowT (tyI .i64) (.slice none (([] : List Int).length) 0) 3 ([] : List Int)]] := H1.new' (Upd.nilRowT w1 (tyI .i64) 3)
  refine W.pick [4, 3, 2, 1] (Γ' := [(4, .int .i64 0), (3, .slice none (([] : List Int).length) 0), (2, .slice none 0 0), (1, .pointer (some ⟨w.heap.size, 0, none⟩))]) rfl ?_
  refine W.loop (fun m Γ' w' => ∃ s : Nat, ∃ q : List Int, ∃ qa : Option Addr, ∃ qc : Nat, Γ' = [(4, .int .i64 ((s : Nat) : Int)), (3, .slice qa q.length qc), (2, .slice none 0 0), (1, .pointer (some ⟨w.heap.size, 0, none⟩))] ∧ UpG w [] w' [[blk w.heap.size #[.slice dca d.cls.length dcc, .int .i64 d.width, .int .i64 d.start, .slice dna d.next.length dnc, .slice dba d.acc.length dbc] 25], [rowT (tyI .i64) (.slice qa q.length qc) 3 q]] ∧ (s ≤ 259) ∧ (HdI d q s) ∧ m = 259 - s) (259 - 0) ⟨0, ([] : List Int), none, 0, rfl, H2, (by first | assumption | omega | simp), (by exact HdI.start d), rfl⟩ ?_
  rintro m1 Γ1 w2 ⟨s, q, qa, qc, rfl, H3, hs, hq, rfl⟩
  have hql := hq.len
  refine W.seq ?_
  refine W.seq ?_
  refine W.region ?_
  refine WL.op rfl (d_move rfl ?_)
  refine WL.op rfl (d_cmp (decide (((s : Nat) : Int) < (259 : Int))) rfl rfl rfl ?_)
  refine WL.done (X.then_code ?_)
  refine W.ite (p := ((s : Nat) : Int) < (259 : Int)) rfl (fun c14 => ?_) (fun c14 => ?_)
  · skip
    refine W.skip (X.then_code ?_)
    refine W.seq ?_
    refine W.block ?_
    refine W.seq ?_
    refine W.region ?_
    refine WL.op rfl (d_assign rfl ?_)
    refine WL.done (X.then_code ?_)
    refine W.seq ?_
    refine W.seq ?_
    refine W.region ?_
    refine WL.op rfl (d_assign rfl ?_)
    refine WL.done (X.then_code ?_)
    refine W.block ?_
    refine W.pick [6, 5, 4, 3, 2, 1] (Γ' := [(6, .int .i64 0), (5, .bool true), (4, .int .i64 ((s : Nat) : Int)), (3, .slice qa q.length qc), (2, .slice none 0 0), (1, .pointer (some ⟨w.heap.size, 0, none⟩))]) rfl ?_
    refine W.loop (fun m Γ' w' => ∃ k : Nat, ∃ b : Bool, Γ' = [(6, .int .i64 ((k : Nat) : Int)), (5, .bool b), (4, .int .i64 ((s : Nat) : Int)), (3, .slice qa q.length qc), (2, .slice none 0 0), (1, .pointer (some ⟨w.heap.size, 0, none⟩))] ∧ UpG w [] w' [[blk w.heap.size #[.slice dca d.cls.length dcc, .int .i64 d.width, .int .i64 d.start, .slice dna d.next.length dnc, .slice dba d.acc.length dbc] 25], [rowT (tyI .i64) (.slice qa q.length qc) 3 q]] ∧ (k ≤ q.length) ∧ (b = isHd d q s k) ∧ m = q.length - k) (q.length - 0) ⟨0, true, rfl, H3, (by first | assumption | omega | simp), (by rfl), rfl⟩ ?_
    rintro m2 Γ2 w3 ⟨k, b, rfl, H4, hk, hb, rfl⟩
    refine W.seq ?_
    refine W.seq ?_
    refine W.region ?_
    refine WL.op rfl (d_move rfl ?_)
    refine WL.op rfl (d_move rfl ?_)
    refine WL.op rfl (d_lenS Try.underlying22 rfl ?_)
    refine WL.op rfl (d_cmp (decide (((k : Nat) : Int) < ((q.length : Nat) : Int))) rfl rfl rfl ?_)
    refine WL.done (X.then_code ?_)
    refine W.ite (p := ((k : Nat) : Int) < ((q.length : Nat) : Int)) rfl (fun c16 => ?_) (fun c16 => ?_)
    · skip
      refine W.skip (X.then_code ?_)
      refine W.seq ?_
      refine W.block ?_
      have hqb := hq.bd (q.getD k 0) (getD_mem' (by omega))
      refine W.regionD mixed (by kernel_rfl) fun hok1 w4 k1 => ?_
      have H5 : UpG w [] w4 [[blk w.heap.size #[.slice dca d.cls.length dcc, .int .i64 d.width, .int .i64 d.start, .slice dna d.next.length dnc, .slice dba d.acc.length dbc] 25], [rowT (tyI .i64) (.slice qa q.length qc) 3 q]] := H4.kept k1
      refine WD.take hok1 0 (.bool b) (fun _ => True) rfl rfl rfl rfl rfl trivial (.inl ⟨rfl, fun _ _ => d_move rfl ⟨rfl, rfl⟩⟩) ?_
      refine WD.take hok1 1 (.bool b) (fun _ => True) rfl rfl rfl rfl rfl trivial (.inl ⟨rfl, fun _ _ => d_move rfl ⟨rfl, rfl⟩⟩) ?_
      refine WD.partB 18 (b := b) rfl (fun g17 => ?_) (fun g17 => ?_)
      · skip
        refine WD.take hok1 2 (.pointer (some ⟨w.heap.size, 0, none⟩)) (fun _ => True) rfl rfl rfl rfl rfl trivial (.inl ⟨rfl, fun _ _ => d_fieldAddrB fld25_0 rfl rfl ⟨rfl, rfl⟩⟩) ?_
        refine WD.take hok1 3 (.slice dca d.cls.length dcc) (fun w' => w'.heap[w.heap.size]? = some (.cells #[.slice dca d.cls.length dcc, .int .i64 d.width, .int .i64 d.start, .slice dna d.next.length dnc, .slice dba d.acc.length dbc] 25 (0, 0))) rfl rfl rfl rfl rfl (H5.blk 0 rfl) (.inl ⟨rfl, fun _ hC => d_loadB Try.underlying22 rfl rfl hC rfl ⟨rfl, rfl⟩⟩) ?_
        refine WD.take hok1 4 (.slice qa q.length qc) (fun _ => True) rfl rfl rfl rfl rfl trivial (.inl ⟨rfl, fun _ _ => d_move rfl ⟨rfl, rfl⟩⟩) ?_
        refine WD.take hok1 5 (.int .i64 ((k : Nat) : Int)) (fun _ => True) rfl rfl rfl rfl rfl trivial (.inl ⟨rfl, fun _ _ => d_move rfl ⟨rfl, rfl⟩⟩) ?_
        refine WD.take hok1 6 (elemPtr (.slice qa q.length qc) k) (fun w' => RdT (tyI .i64) w' (.slice qa q.length qc) q) rfl rfl rfl rfl rfl (H5.rdT 1 rfl) (.inl ⟨rfl, fun _ hC => t_addr1 k (T := (tyI .i64)) rfl Try.underlying22 sz3 rfl rfl hC rfl (by omega) ⟨rfl, rfl⟩⟩) ?_
        refine WD.take hok1 7 (.int .i64 (q.getD k 0)) (fun w' => RdT (tyI .i64) w' (.slice qa q.length qc) q) rfl rfl rfl rfl rfl (H5.rdT 1 rfl) (.inl ⟨rfl, fun _ hC => t_load1 k 0 (T := (tyI .i64)) rfl Try.underlying3 rfl rfl hC (by omega) rfl ⟨rfl, rfl⟩⟩) ?_
        refine WD.take hok1 8 (elemPtr (.slice dca d.cls.length dcc) ((q.getD k 0).toNat)) (fun w' => RdT (tyI .i64) w' (.slice dca d.cls.length dcc) d.cls) rfl rfl rfl rfl rfl (rcd.at H5) (.inl ⟨rfl, fun _ hC => t_addr1 ((q.getD k 0).toNat) (T := (tyI .i64)) rfl Try.underlying22 sz3 rfl rfl hC (by omega) (by omega) ⟨rfl, rfl⟩⟩) ?_
        refine WD.take hok1 9 (.int .i64 (d.cls.getD ((q.getD k 0).toNat) 0)) (fun w' => RdT (tyI .i64) w' (.slice dca d.cls.length dcc) d.cls) rfl rfl rfl rfl rfl (rcd.at H5) (.inl ⟨rfl, fun _ hC => t_load1 ((q.getD k 0).toNat) 0 (T := (tyI .i64)) rfl Try.underlying3 rfl rfl hC (by omega) rfl ⟨rfl, rfl⟩⟩) ?_
        refine WD.take hok1 10 (.pointer (some ⟨w.heap.size, 0, none⟩)) (fun _ => True) rfl rfl rfl rfl rfl trivial (.inl ⟨rfl, fun _ _ => d_fieldAddrB fld25_0 rfl rfl ⟨rfl, rfl⟩⟩) ?_
        refine WD.take hok1 11 (.slice dca d.cls.length dcc) (fun w' => w'.heap[w.heap.size]? = some (.cells #[.slice dca d.cls.length dcc, .int .i64 d.width, .int .i64 d.start, .slice dna d.next.length dnc, .slice dba d.acc.length dbc] 25 (0, 0))) rfl rfl rfl rfl rfl (H5.blk 0 rfl) (.inl ⟨rfl, fun _ hC => d_loadB Try.underlying22 rfl rfl hC rfl ⟨rfl, rfl⟩⟩) ?_
        refine WD.take hok1 12 (.int .i64 ((s : Nat) : Int)) (fun _ => True) rfl rfl rfl rfl rfl trivial (.inl ⟨rfl, fun _ _ => d_move rfl ⟨rfl, rfl⟩⟩) ?_
        refine WD.take hok1 13 (elemPtr (.slice dca d.cls.length dcc) s) (fun w' => RdT (tyI .i64) w' (.slice dca d.cls.length dcc) d.cls) rfl rfl rfl rfl rfl (rcd.at H5) (.inl ⟨rfl, fun _ hC => t_addr1 s (T := (tyI .i64)) rfl Try.underlying22 sz3 rfl rfl hC rfl (by omega) ⟨rfl, rfl⟩⟩) ?_
        refine WD.take hok1 14 (.int .i64 (d.cls.getD s 0)) (fun w' => RdT (tyI .i64) w' (.slice dca d.cls.length dcc) d.cls) rfl rfl rfl rfl rfl (rcd.at H5) (.inl ⟨rfl, fun _ hC => t_load1 s 0 (T := (tyI .i64)) rfl Try.underlying3 rfl rfl hC (by omega) rfl ⟨rfl, rfl⟩⟩) ?_
        refine WD.take hok1 15 (.bool (decide ((d.cls.getD ((q.getD k 0).toNat) 0) ≠ (d.cls.getD s 0)))) (fun _ => True) rfl rfl rfl rfl rfl trivial (.inl ⟨rfl, fun _ _ => d_cmp (decide ((d.cls.getD ((q.getD k 0).toNat) 0) ≠ (d.cls.getD s 0))) rfl rfl rfl ⟨rfl, rfl⟩⟩) ?_
        refine WD.take hok1 16 (.bool (decide ((d.cls.getD ((q.getD k 0).toNat) 0) ≠ (d.cls.getD s 0)))) (fun _ => True) rfl rfl rfl rfl rfl trivial (.inl ⟨rfl, fun _ _ => d_pick rfl rfl ⟨rfl, rfl⟩⟩) ?_
        refine WD.take hok1 17 (.bool (decide ((d.cls.getD ((q.getD k 0).toNat) 0) ≠ (d.cls.getD s 0)))) (fun _ => True) rfl rfl rfl rfl rfl trivial (.inl ⟨rfl, fun _ _ => d_assign rfl ⟨rfl, rfl⟩⟩) ?_
        refine WD.done hok1 rfl (X.block_normal (X.then_code ?_))
        refine W.region ?_
        refine WL.op rfl (d_move rfl ?_)
        refine WL.op rfl (d_add rfl rfl (by omega) (by omega) ?_)
        refine WL.op rfl (d_assign rfl ?_)
        refine WL.done ?_
        exact X.next [6, 5, 4, 3, 2, 1] (Γ' := [(6, .int .i64 (((k + 1) : Nat) : Int)), (5, .bool (decide ((d.cls.getD ((q.getD k 0).toNat) 0) ≠ (d.cls.getD s 0)))), (4, .int .i64 ((s : Nat) : Int)), (3, .slice qa q.length qc), (2, .slice none 0 0), (1, .pointer (some ⟨w.heap.size, 0, none⟩))]) rfl (q.length - (k + 1)) (by omega) ⟨k + 1, decide ((d.cls.getD ((q.getD k 0).toNat) 0) ≠ (d.cls.getD s 0)), rfl, H5, (by first | assumption | omega | simp), (by first | (rw [isHd_step (by omega), ← hb, g17]; rfl) | (rw [isHd_step (by omega), ← hb, Bool.eq_false_iff.2 g17]; rfl)), rfl⟩
      · skip
        refine WD.take hok1 2 undef (fun _ => True) rfl rfl rfl rfl rfl trivial (.inr ⟨rfl, rfl⟩) ?_
        refine WD.take hok1 3 undef (fun _ => True) rfl rfl rfl rfl rfl trivial (.inr ⟨rfl, rfl⟩) ?_
        refine WD.take hok1 4 undef (fun _ => True) rfl rfl rfl rfl rfl trivial (.inr ⟨rfl, rfl⟩) ?_
        refine WD.take hok1 5 undef (fun _ => True) rfl rfl rfl rfl rfl trivial (.inr ⟨rfl, rfl⟩) ?_
        refine WD.take hok1 6 undef (fun _ => True) rfl rfl rfl rfl rfl trivial (.inr ⟨rfl, rfl⟩) ?_
        refine WD.take hok1 7 undef (fun _ => True) rfl rfl rfl rfl rfl trivial (.inr ⟨rfl, rfl⟩) ?_
        refine WD.take hok1 8 undef (fun _ => True) rfl rfl rfl rfl rfl trivial (.inr ⟨rfl, rfl⟩) ?_
        refine WD.take hok1 9 undef (fun _ => True) rfl rfl rfl rfl rfl trivial (.inr ⟨rfl, rfl⟩) ?_
        refine WD.take hok1 10 undef (fun _ => True) rfl rfl rfl rfl rfl trivial (.inr ⟨rfl, rfl⟩) ?_
        refine WD.take hok1 11 undef (fun _ => True) rfl rfl rfl rfl rfl trivial (.inr ⟨rfl, rfl⟩) ?_
        refine WD.take hok1 12 undef (fun _ => True) rfl rfl rfl rfl rfl trivial (.inr ⟨rfl, rfl⟩) ?_
        refine WD.take hok1 13 undef (fun _ => True) rfl rfl rfl rfl rfl trivial (.inr ⟨rfl, rfl⟩) ?_
        refine WD.take hok1 14 undef (fun _ => True) rfl rfl rfl rfl rfl trivial (.inr ⟨rfl, rfl⟩) ?_
        refine WD.take hok1 15 undef (fun _ => True) rfl rfl rfl rfl rfl trivial (.inr ⟨rfl, rfl⟩) ?_
        refine WD.take hok1 16 (.bool false) (fun _ => True) rfl rfl rfl rfl rfl trivial (.inl ⟨rfl, fun _ _ => d_pick rfl rfl ⟨rfl, rfl⟩⟩) ?_
        refine WD.take hok1 17 (.bool false) (fun _ => True) rfl rfl rfl rfl rfl trivial (.inl ⟨rfl, fun _ _ => d_assign rfl ⟨rfl, rfl⟩⟩) ?_
        refine WD.done hok1 rfl (X.block_normal (X.then_code ?_))
        refine W.region ?_
        refine WL.op rfl (d_move rfl ?_)
        refine WL.op rfl (d_add rfl rfl (by omega) (by omega) ?_)
        refine WL.op rfl (d_assign rfl ?_)
        refine WL.done ?_
        exact X.next [6, 5, 4, 3, 2, 1] (Γ' := [(6, .int .i64 (((k + 1) : Nat) : Int)), (5, .bool false), (4, .int .i64 ((s : Nat) : Int)), (3, .slice qa q.length qc), (2, .slice none 0 0), (1, .pointer (some ⟨w.heap.size, 0, none⟩))]) rfl (q.length - (k + 1)) (by omega) ⟨k + 1, false, rfl, H5, (by first | assumption | omega | simp), (by first | (rw [isHd_step (by omega), ← hb, g17]; rfl) | (rw [isHd_step (by omega), ← hb, Bool.eq_false_iff.2 g17]; rfl)), rfl⟩
    · skip
      refine W.exit (X.then_exit (X.then_exit (X.block_exit (X.then_code ?_))))
      refine W.seq ?_
      refine W.region ?_
      refine WL.op rfl (d_move rfl ?_)
      refine WL.done (X.then_code ?_)
      refine W.iteB (b := b) rfl (fun c19 => ?_) (fun c19 => ?_)
      · skip
        refine W.region ?_
        refine WL.op rfl (d_move rfl ?_)
        refine WL.op rfl (d_move rfl ?_)
        refine WL.op rfl (t_buildSlice (T := (tyI .i64)) (xs := [((s : Nat) : Int)]) (cs := #[.int .i64 ((s : Nat) : Int)]) rfl Try.underlying22 sz3 rfl rfl rfl rfl (by kernel_rfl) rfl rfl fun w5 u2 => ?_)
        have H6 : UpG w [] w5 [[blk w.heap.size #[.slice dca d.cls.length dcc, .int .i64 d.width, .int .i64 d.start, .slice dna d.next.length dnc, .slice dba d.acc.length dbc] 25], [rowT (tyI .i64) (.slice qa q.length qc) 3 q], [rowT (tyI .i64) (.slice (some ⟨w3.heap.size, 0, none⟩) ([((s : Nat) : Int)].length) ([((s : Nat) : Int)].length)) 3 [((s : Nat) : Int)]]] := H4.new' u2
        refine WL.op rfl (t_append (T := (tyI .i64)) (xs := q) (ys := [((s : Nat) : Int)]) rfl Try.underlying22 sz3 rfl rfl rfl (H6.ownT 1 rfl) (H6.rdT 2 rfl) (by simp only [List.length_singleton]; omega) (by simp only [List.length_singleton]; omega) fun a1 c1 w6 u3 => ?_)
        have H7 : UpG w [] w6 [[blk w.heap.size #[.slice dca d.cls.length dcc, .int .i64 d.width, .int .i64 d.start, .slice dna d.next.length dnc, .slice dba d.acc.length dbc] 25], [rowT (tyI .i64) (.slice a1 ((q ++ [((s : Nat) : Int)]).length) c1) 3 (q ++ [((s : Nat) : Int)])], []] := (H6.on 1 rfl u3).drop 2
        refine WL.op rfl (d_assign rfl ?_)
        refine WL.done (X.block_normal (X.then_code ?_))
        refine W.region ?_
        refine WL.op rfl (d_move rfl ?_)
        refine WL.op rfl (d_add rfl rfl (by omega) (by omega) ?_)
        refine WL.op rfl (d_assign rfl ?_)
        refine WL.done ?_
        exact X.next [4, 3, 2, 1] (Γ' := [(4, .int .i64 (((s + 1) : Nat) : Int)), (3, .slice a1 ((q ++ [((s : Nat) : Int)]).length) c1), (2, .slice none 0 0), (1, .pointer (some ⟨w.heap.size, 0, none⟩))]) rfl (259 - (s + 1)) (by omega) ⟨s + 1, q ++ [((s : Nat) : Int)], a1, c1, rfl, (H7.re rfl), (by first | assumption | omega | simp), (by first | exact hq.yes | exact hq.no (by rw [← show k = q.length by omega, ← hb]; simpa using c19)), rfl⟩
      · skip
        refine W.skip (X.block_normal (X.then_code ?_))
        refine W.region ?_
        refine WL.op rfl (d_move rfl ?_)
        refine WL.op rfl (d_add rfl rfl (by omega) (by omega) ?_)
        refine WL.op rfl (d_assign rfl ?_)
        refine WL.done ?_
        exact X.next [4, 3, 2, 1] (Γ' := [(4, .int .i64 (((s + 1) : Nat) : Int)), (3, .slice qa q.length qc), (2, .slice none 0 0), (1, .pointer (some ⟨w.heap.size, 0, none⟩))]) rfl (259 - (s + 1)) (by omega) ⟨s + 1, q, qa, qc, rfl, H4, (by first | assumption | omega | simp), (by first | exact hq.yes | exact hq.no (by rw [← show k = q.length by omega, ← hb]; simpa using c19)), rfl⟩
  · skip
    refine W.exit (X.then_exit (X.then_exit (X.block_exit (X.then_code ?_))))
    refine W.seq ?_
    refine W.region ?_
    refine WL.op rfl (d_move rfl ?_)
    refine WL.op rfl (d_assign rfl ?_)
    refine WL.done (X.then_code ?_)
    refine W.ret (X.ret1 rfl rfl ?_)
    exact ⟨qa, q, qc, rfl, H3.one 1 rfl, (by have e : s = 259 := (by omega); subst e; exact hq)⟩

set_option maxRecDepth 20000 in
theorem unlike_any (d : DfaD) (dca : Option Addr) (dna : Option Addr) (dba : Option Addr) (dcc : Nat) (dnc : Nat) (dbc : Nat) (w : World) (rcd : RdT (tyI .i64) w (.slice dca d.cls.length dcc) d.cls) (rnd : RdT (tyI .i64) w (.slice dna d.next.length dnc) d.next) (rbd : RdT tyB w (.slice dba d.acc.length dbc) d.acc) (hrt : rightB d = true) :
    Calls Try.prog 56 #[.agg #[.slice dca d.cls.length dcc, .int .i64 d.width, .int .i64 d.start, .slice dna d.next.length dnc, .slice dba d.acc.length dbc]] w (Ret fun v w' => ∃ a2 : Option Addr, ∃ Xs : List (LR Bool), ∃ n2 : Nat, ∃ c2 : Nat, v = .slice a2 n2 c2 ∧ Upd w [] w' [rowT tyLR (.slice a2 n2 c2) 23 Xs, manyF (inLR tyB 4).row Xs] ∧ (UnP d Xs) ∧ (n2 = d.acc.length)) := by
  have hri := rightB_iff.1 hrt
  have le_rcd := rcd.le
  have le_rnd := rnd.le
  have le_rbd := rbd.le
  refine calls_of_W (args := [.agg #[.slice dca d.cls.length dcc, .int .i64 d.width, .int .i64 d.start, .slice dna d.next.length dnc, .slice dba d.acc.length dbc]]) Try.func56 rfl rfl rfl ?_
  have H0 : UpG w [] w [] := UpG.nil w
  show W _ _ _ _ [(0, .agg #[.slice dca d.cls.length dcc, .int .i64 d.width, .int .i64 d.start, .slice dna d.next.length dnc, .slice dba d.acc.length dbc])] w
  refine W.seq ?_
  refine W.region ?_
  refine WL.op rfl (d_box rfl fun w1 u1 => ?_)
  have H1 : UpG w [] w1 [[blk w.heap.size #[.slice dca d.cls.length dcc, .int .i64 d.width, .int .i64 d.start, .slice dna d.next.length dnc, .slice dba d.acc.length dbc] 25]] := H0.new' u1
  refine WL.op rfl (d_assign rfl ?_)
  refine WL.done (X.then_code ?_)
  refine W.seq ?_
  refine W.region ?_
  refine WL.op rfl (d_fieldAddrB fld25_4 rfl rfl ?_)
  refine WL.op rfl (d_loadB Try.underlying23 rfl rfl (H1.blk 0 rfl) rfl ?_)
  refine WL.op rfl (d_lenS Try.underlying23 rfl ?_)
  refine WL.op rfl (d_assign rfl ?_)
  refine WL.done (X.then_code ?_)
  refine W.seq ?_
  refine W.region ?_
  refine WL.op rfl (d_assign rfl ?_)
  refine WL.done (X.then_code ?_)
  refine W.seq ?_
  refine W.seq ?_
  refine W.region ?_
  refine WL.op rfl (d_assign rfl ?_)
  refine WL.done (X.then_code ?_)
  refine W.block ?_
  have H2 : UpG w [] w1 [[blk w.heap.size #[.slice dca d.cls.length dcc, .int .i64 d.width, .int .i64 d.start, .slice dna d.next.length dnc, .slice dba d.acc.length dbc] 25], [manyF (inLR tyB 4).row ([] : List (LR Bool))]] := H1.new' (Upd.manyNil (inLR tyB 4).row w1)
  have H3 : UpG w [] w1 [[blk w.heap.size #[.slice dca d.cls.length dcc, .int .i64 d.width, .int .i64 d.start, .slice dna d.next.length dnc, .slice dba d.acc.length dbc] 25], [manyF (inLR tyB 4).row ([] : List (LR Bool))], [rowT tyLR (.slice none (([] : List (LR Bool)).length) 0) 23 ([] : List (LR Bool))]] := H2.new' (Upd.nilRowT w1 tyLR 23)
  refine W.pick [5, 4, 3, 2, 1] (Γ' := [(5, .int .i64 0), (4, .slice none (([] : List (LR Bool)).length) 0), (3, .int .i64 ((d.acc.length : Nat) : Int)), (2, .slice none 0 0), (1, .pointer (some ⟨w.heap.size, 0, none⟩))]) rfl ?_
  refine W.loop (fun m Γ' w' => ∃ s : Nat, ∃ Xs : List (LR Bool), ∃ oa : Option Addr, ∃ oc : Nat, Γ' = [(5, .int .i64 ((s : Nat) : Int)), (4, .slice oa Xs.length oc), (3, .int .i64 ((d.acc.length : Nat) : Int)), (2, .slice none 0 0), (1, .pointer (some ⟨w.heap.size, 0, none⟩))] ∧ UpG w [] w' [[blk w.heap.size #[.slice dca d.cls.length dcc, .int .i64 d.width, .int .i64 d.start, .slice dna d.next.length dnc, .slice dba d.acc.length dbc] 25], [manyF (inLR tyB 4).row Xs], [rowT tyLR (.slice oa Xs.length oc) 23 Xs]] ∧ (s ≤ d.acc.length) ∧ (UnS d Xs s) ∧ m = d.acc.length - s) (d.acc.length - 0) ⟨0, ([] : List (LR Bool)), none, 0, rfl, H3, (by first | assumption | omega | simp), (by exact UnS.start d), rfl⟩ ?_
  rintro m1 Γ1 w2 ⟨s, Xs, oa, oc, rfl, H4, hs, hX, rfl⟩
  have hXl := hX.len
  refine W.seq ?_
  refine W.seq ?_
  refine W.region ?_
  refine WL.op rfl (d_move rfl ?_)
  refine WL.op rfl (d_move rfl ?_)
  refine WL.op rfl (d_cmp (decide (((s : Nat) : Int) < ((d.acc.length : Nat) : Int))) rfl rfl rfl ?_)
  refine WL.done (X.then_code ?_)
  refine W.ite (p := ((s : Nat) : Int) < ((d.acc.length : Nat) : Int)) rfl (fun c30 => ?_) (fun c30 => ?_)
  · skip
    refine W.skip (X.then_code ?_)
    refine W.seq ?_
    refine W.block ?_
    refine W.seq ?_
    refine W.region ?_
    refine WL.op rfl (d_move rfl ?_)
    refine WL.op rfl (t_make d.acc.length false (T := tyB) rfl Try.underlying23 sz4 rfl rfl rfl rfl (by omega) (by omega) fun w3 u2 => ?_)
    have H5 : UpG w [] w3 [[blk w.heap.size #[.slice dca d.cls.length dcc, .int .i64 d.width, .int .i64 d.start, .slice dna d.next.length dnc, .slice dba d.acc.length dbc] 25], [manyF (inLR tyB 4).row Xs], [rowT tyLR (.slice oa Xs.length oc) 23 Xs], [rowT tyB (.slice (some ⟨w2.heap.size, 0, none⟩) ((List.replicate d.acc.length false).length) d.acc.length) 4 (List.replicate d.acc.length false)]] := H4.new' u2
    refine WL.op rfl (d_assign rfl ?_)
    refine WL.done (X.then_code ?_)
    refine W.seq ?_
    refine W.seq ?_
    refine W.region ?_
    refine WL.op rfl (d_assign rfl ?_)
    refine WL.done (X.then_code ?_)
    refine W.block ?_
    refine W.pick [7, 6, 5, 4, 3, 2, 1] (Γ' := [(7, .int .i64 0), (6, .slice (some ⟨w2.heap.size, 0, none⟩) ((List.replicate d.acc.length false).length) d.acc.length), (5, .int .i64 ((s : Nat) : Int)), (4, .slice oa Xs.length oc), (3, .int .i64 ((d.acc.length : Nat) : Int)), (2, .slice none 0 0), (1, .pointer (some ⟨w.heap.size, 0, none⟩))]) rfl ?_
    refine W.loop (fun m Γ' w' => ∃ k : Nat, ∃ q : List Bool, Γ' = [(7, .int .i64 ((k : Nat) : Int)), (6, .slice (some ⟨w2.heap.size, 0, none⟩) ((List.replicate d.acc.length false).length) d.acc.length), (5, .int .i64 ((s : Nat) : Int)), (4, .slice oa Xs.length oc), (3, .int .i64 ((d.acc.length : Nat) : Int)), (2, .slice none 0 0), (1, .pointer (some ⟨w.heap.size, 0, none⟩))] ∧ UpG w [] w' [[blk w.heap.size #[.slice dca d.cls.length dcc, .int .i64 d.width, .int .i64 d.start, .slice dna d.next.length dnc, .slice dba d.acc.length dbc] 25], [manyF (inLR tyB 4).row Xs], [rowT tyLR (.slice oa Xs.length oc) 23 Xs], [rowT tyB (.slice (some ⟨w2.heap.size, 0, none⟩) ((List.replicate d.acc.length false).length) d.acc.length) 4 q]] ∧ (k ≤ d.acc.length) ∧ (UrI d s q k) ∧ m = d.acc.length - k) (d.acc.length - 0) ⟨0, List.replicate d.acc.length false, rfl, H5, (by first | assumption | omega | simp), (by exact UrI.start (by omega)), rfl⟩ ?_
    rintro m2 Γ2 w4 ⟨k, q, rfl, H6, hk, hq, rfl⟩
    have hql := hq.len
    refine W.seq ?_
    refine W.seq ?_
    refine W.region ?_
    refine WL.op rfl (d_move rfl ?_)
    refine WL.op rfl (d_move rfl ?_)
    refine WL.op rfl (d_cmp (decide (((k : Nat) : Int) < ((d.acc.length : Nat) : Int))) rfl rfl rfl ?_)
    refine WL.done (X.then_code ?_)
    refine W.ite (p := ((k : Nat) : Int) < ((d.acc.length : Nat) : Int)) rfl (fun c32 => ?_) (fun c32 => ?_)
    · skip
      refine W.skip (X.then_code ?_)
      refine W.seq ?_
      refine W.block ?_
      refine W.regionD mixed (by kernel_rfl) fun hok1 w5 k1 => ?_
      have H7 : UpG w [] w5 [[blk w.heap.size #[.slice dca d.cls.length dcc, .int .i64 d.width, .int .i64 d.start, .slice dna d.next.length dnc, .slice dba d.acc.length dbc] 25], [manyF (inLR tyB 4).row Xs], [rowT tyLR (.slice oa Xs.length oc) 23 Xs], [rowT tyB (.slice (some ⟨w2.heap.size, 0, none⟩) ((List.replicate d.acc.length false).length) d.acc.length) 4 q]] := H6.kept k1
      refine WD.take hok1 0 (.slice (some ⟨w2.heap.size, 0, none⟩) ((List.replicate d.acc.length false).length) d.acc.length) (fun _ => True) rfl rfl rfl rfl rfl trivial (.inl ⟨rfl, fun _ _ => d_move rfl ⟨rfl, rfl⟩⟩) ?_
      refine WD.take hok1 1 (.int .i64 ((k : Nat) : Int)) (fun _ => True) rfl rfl rfl rfl rfl trivial (.inl ⟨rfl, fun _ _ => d_move rfl ⟨rfl, rfl⟩⟩) ?_
      refine WD.take hok1 2 (.pointer (some ⟨w.heap.size, 4, none⟩)) (fun _ => True) rfl rfl rfl rfl rfl trivial (.inl ⟨rfl, fun _ _ => d_fieldAddrB fld25_4 rfl rfl ⟨rfl, rfl⟩⟩) ?_
      refine WD.take hok1 3 (.slice dba d.acc.length dbc) (fun w' => w'.heap[w.heap.size]? = some (.cells #[.slice dca d.cls.length dcc, .int .i64 d.width, .int .i64 d.start, .slice dna d.next.length dnc, .slice dba d.acc.length dbc] 25 (0, 0))) rfl rfl rfl rfl rfl (H7.blk 0 rfl) (.inl ⟨rfl, fun _ hC => d_loadB Try.underlying23 rfl rfl hC rfl ⟨rfl, rfl⟩⟩) ?_
      refine WD.take hok1 4 (.int .i64 ((s : Nat) : Int)) (fun _ => True) rfl rfl rfl rfl rfl trivial (.inl ⟨rfl, fun _ _ => d_move rfl ⟨rfl, rfl⟩⟩) ?_
      refine WD.take hok1 5 (elemPtr (.slice dba d.acc.length dbc) s) (fun w' => RdT tyB w' (.slice dba d.acc.length dbc) d.acc) rfl rfl rfl rfl rfl (rbd.at H7) (.inl ⟨rfl, fun _ hC => t_addr1 s (T := tyB) rfl Try.underlying23 sz4 rfl rfl hC rfl (by omega) ⟨rfl, rfl⟩⟩) ?_
      refine WD.take hok1 6 (.bool (d.acc.getD s false)) (fun w' => RdT tyB w' (.slice dba d.acc.length dbc) d.acc) rfl rfl rfl rfl rfl (rbd.at H7) (.inl ⟨rfl, fun _ hC => t_load1 s false (T := tyB) rfl Try.underlying4 rfl rfl hC (by omega) rfl ⟨rfl, rfl⟩⟩) ?_
      refine WD.take hok1 7 (.pointer (some ⟨w.heap.size, 4, none⟩)) (fun _ => True) rfl rfl rfl rfl rfl trivial (.inl ⟨rfl, fun _ _ => d_fieldAddrB fld25_4 rfl rfl ⟨rfl, rfl⟩⟩) ?_
      refine WD.take hok1 8 (.slice dba d.acc.length dbc) (fun w' => w'.heap[w.heap.size]? = some (.cells #[.slice dca d.cls.length dcc, .int .i64 d.width, .int .i64 d.start, .slice dna d.next.length dnc, .slice dba d.acc.length dbc] 25 (0, 0))) rfl rfl rfl rfl rfl (H7.blk 0 rfl) (.inl ⟨rfl, fun _ hC => d_loadB Try.underlying23 rfl rfl hC rfl ⟨rfl, rfl⟩⟩) ?_
      refine WD.take hok1 9 (.int .i64 ((k : Nat) : Int)) (fun _ => True) rfl rfl rfl rfl rfl trivial (.inl ⟨rfl, fun _ _ => d_move rfl ⟨rfl, rfl⟩⟩) ?_
      refine WD.take hok1 10 (elemPtr (.slice dba d.acc.length dbc) k) (fun w' => RdT tyB w' (.slice dba d.acc.length dbc) d.acc) rfl rfl rfl rfl rfl (rbd.at H7) (.inl ⟨rfl, fun _ hC => t_addr1 k (T := tyB) rfl Try.underlying23 sz4 rfl rfl hC rfl (by omega) ⟨rfl, rfl⟩⟩) ?_
      refine WD.take hok1 11 (.bool (d.acc.getD k false)) (fun w' => RdT tyB w' (.slice dba d.acc.length dbc) d.acc) rfl rfl rfl rfl rfl (rbd.at H7) (.inl ⟨rfl, fun _ hC => t_load1 k false (T := tyB) rfl Try.underlying4 rfl rfl hC (by omega) rfl ⟨rfl, rfl⟩⟩) ?_
      refine WD.take hok1 12 (.bool (decide ((d.acc.getD s false) ≠ (d.acc.getD k false)))) (fun _ => True) rfl rfl rfl rfl rfl trivial (.inl ⟨rfl, fun _ _ => d_boolne Try.underlying4 rfl rfl ⟨rfl, rfl⟩⟩) ?_
      refine WD.take hok1 13 (elemPtr (.slice (some ⟨w2.heap.size, 0, none⟩) ((List.replicate d.acc.length false).length) d.acc.length) k) (fun w' => RdT tyB w' (.slice (some ⟨w2.heap.size, 0, none⟩) ((List.replicate d.acc.length false).length) d.acc.length) q) rfl rfl rfl rfl rfl (H7.rdT 3 rfl) (.inl ⟨rfl, fun _ hC => t_addr1 k (T := tyB) rfl Try.underlying23 sz4 rfl rfl hC rfl (by omega) ⟨rfl, rfl⟩⟩) ?_
      refine WD.loud hok1 14 rfl (⟨_, [], rfl, rfl, rfl, rfl, rfl, rfl, t_store1 k (decide ((d.acc.getD s false) ≠ (d.acc.getD k false))) (T := tyB) (e := 4) rfl sz4 rfl rfl rfl (H7.ownT 3 rfl) (by omega) fun w6 u3 => ?_⟩)
      have H8 : UpG w [] w6 [[blk w.heap.size #[.slice dca d.cls.length dcc, .int .i64 d.width, .int .i64 d.start, .slice dna d.next.length dnc, .slice dba d.acc.length dbc] 25], [manyF (inLR tyB 4).row Xs], [rowT tyLR (.slice oa Xs.length oc) 23 Xs], [rowT tyB (.slice (some ⟨w2.heap.size, 0, none⟩) ((List.replicate d.acc.length false).length) d.acc.length) 4 (q.set k (decide ((d.acc.getD s false) ≠ (d.acc.getD k false))))]] := H7.on 3 rfl u3
      refine ⟨trivial, ?_⟩
      refine WD.done hok1 rfl (X.block_normal (X.then_code ?_))
      refine W.region ?_
      refine WL.op rfl (d_move rfl ?_)
      refine WL.op rfl (d_add rfl rfl (by omega) (by omega) ?_)
      refine WL.op rfl (d_assign rfl ?_)
      refine WL.done ?_
      exact X.next [7, 6, 5, 4, 3, 2, 1] (Γ' := [(7, .int .i64 (((k + 1) : Nat) : Int)), (6, .slice (some ⟨w2.heap.size, 0, none⟩) ((List.replicate d.acc.length false).length) d.acc.length), (5, .int .i64 ((s : Nat) : Int)), (4, .slice oa Xs.length oc), (3, .int .i64 ((d.acc.length : Nat) : Int)), (2, .slice none 0 0), (1, .pointer (some ⟨w.heap.size, 0, none⟩))]) rfl (d.acc.length - (k + 1)) (by omega) ⟨k + 1, q.set k (decide ((d.acc.getD s false) ≠ (d.acc.getD k false))), rfl, H8, (by first | assumption | omega | simp), (by exact hq.step (by omega) rfl), rfl⟩
    · skip
      refine W.exit (X.then_exit (X.then_exit (X.block_exit (X.then_code ?_))))
      refine W.region ?_
      refine WL.op rfl (d_move rfl ?_)
      refine WL.op rfl (d_move rfl ?_)
      refine WL.op rfl (t_buildSlice (T := tyLR) (xs := ([⟨(some ⟨w2.heap.size, 0, none⟩), (List.replicate d.acc.length false).length, d.acc.length, q⟩] : List (LR Bool))) (cs := #[.slice (some ⟨w2.heap.size, 0, none⟩) ((List.replicate d.acc.length false).length) d.acc.length]) rfl Try.underlying29 sz23 rfl rfl rfl rfl (by kernel_rfl) rfl rfl fun w7 u4 => ?_)
      have H9 : UpG w [] w7 [[blk w.heap.size #[.slice dca d.cls.length dcc, .int .i64 d.width, .int .i64 d.start, .slice dna d.next.length dnc, .slice dba d.acc.length dbc] 25], [manyF (inLR tyB 4).row Xs], [rowT tyLR (.slice oa Xs.length oc) 23 Xs], [rowT tyB (.slice (some ⟨w2.heap.size, 0, none⟩) ((List.replicate d.acc.length false).length) d.acc.length) 4 q], [rowT tyLR (.slice (some ⟨w4.heap.size, 0, none⟩) (([⟨(some ⟨w2.heap.size, 0, none⟩), (List.replicate d.acc.length false).length, d.acc.length, q⟩] : List (LR Bool)).length) (([⟨(some ⟨w2.heap.size, 0, none⟩), (List.replicate d.acc.length false).length, d.acc.length, q⟩] : List (LR Bool)).length)) 23 ([⟨(some ⟨w2.heap.size, 0, none⟩), (List.replicate d.acc.length false).length, d.acc.length, q⟩] : List (LR Bool))]] := H6.new' u4
      refine WL.op rfl (t_append (T := tyLR) (xs := Xs) (ys := ([⟨(some ⟨w2.heap.size, 0, none⟩), (List.replicate d.acc.length false).length, d.acc.length, q⟩] : List (LR Bool))) rfl Try.underlying29 sz23 rfl rfl rfl (H9.ownT 2 rfl) (H9.rdT 4 rfl) (by simp; omega) (by simp; omega) fun a1 c1 w8 u5 => ?_)
      have H10 : UpG w [] w8 [[blk w.heap.size #[.slice dca d.cls.length dcc, .int .i64 d.width, .int .i64 d.start, .slice dna d.next.length dnc, .slice dba d.acc.length dbc] 25], [manyF (inLR tyB 4).row Xs], [rowT tyLR (.slice a1 ((Xs ++ ([⟨(some ⟨w2.heap.size, 0, none⟩), (List.replicate d.acc.length false).length, d.acc.length, q⟩] : List (LR Bool))).length) c1) 23 (Xs ++ ([⟨(some ⟨w2.heap.size, 0, none⟩), (List.replicate d.acc.length false).length, d.acc.length, q⟩] : List (LR Bool)))], [rowT tyB (.slice (some ⟨w2.heap.size, 0, none⟩) ((List.replicate d.acc.length false).length) d.acc.length) 4 q], []] := (H9.on 2 rfl u5).drop 4
      have H11 : UpG w [] w8 [[blk w.heap.size #[.slice dca d.cls.length dcc, .int .i64 d.width, .int .i64 d.start, .slice dna d.next.length dnc, .slice dba d.acc.length dbc] 25], [manyF (inLR tyB 4).row (Xs ++ [⟨(some ⟨w2.heap.size, 0, none⟩), (List.replicate d.acc.length false).length, d.acc.length, q⟩])], [rowT tyLR (.slice a1 ((Xs ++ ([⟨(some ⟨w2.heap.size, 0, none⟩), (List.replicate d.acc.length false).length, d.acc.length, q⟩] : List (LR Bool))).length) c1) 23 (Xs ++ ([⟨(some ⟨w2.heap.size, 0, none⟩), (List.replicate d.acc.length false).length, d.acc.length, q⟩] : List (LR Bool)))], [], []] := (UpG.absorb (f := (inLR tyB 4).row) (⟨(some ⟨w2.heap.size, 0, none⟩), (List.replicate d.acc.length false).length, d.acc.length, q⟩ : (LR Bool)) H10 1 3 rfl rfl rfl).re rfl
      refine WL.op rfl (d_assign rfl ?_)
      refine WL.done (X.block_normal (X.then_code ?_))
      refine W.region ?_
      refine WL.op rfl (d_move rfl ?_)
      refine WL.op rfl (d_add rfl rfl (by omega) (by omega) ?_)
      refine WL.op rfl (d_assign rfl ?_)
      refine WL.done ?_
      exact X.next [5, 4, 3, 2, 1] (Γ' := [(5, .int .i64 (((s + 1) : Nat) : Int)), (4, .slice a1 ((Xs ++ ([⟨(some ⟨w2.heap.size, 0, none⟩), (List.replicate d.acc.length false).length, d.acc.length, q⟩] : List (LR Bool))).length) c1), (3, .int .i64 ((d.acc.length : Nat) : Int)), (2, .slice none 0 0), (1, .pointer (some ⟨w.heap.size, 0, none⟩))]) rfl (d.acc.length - (s + 1)) (by omega) ⟨s + 1, Xs ++ ([⟨(some ⟨w2.heap.size, 0, none⟩), (List.replicate d.acc.length false).length, d.acc.length, q⟩] : List (LR Bool)), a1, c1, rfl, (H11.re rfl), (by first | assumption | omega | simp), (by exact hX.step hq (by omega)), rfl⟩
  · skip
    refine W.exit (X.then_exit (X.then_exit (X.block_exit (X.then_code ?_))))
    refine W.seq ?_
    refine W.region ?_
    refine WL.op rfl (d_loadAB [.slice dca d.cls.length dcc, .int .i64 d.width, .int .i64 d.start, .slice dna d.next.length dnc, .slice dba d.acc.length dbc] Try.underlying25 rfl sz25 rfl (H4.blk 0 rfl) rfl rfl ?_)
    refine WL.op rfl (d_call ok89 rfl (Ret.calls (heads_any d dca dna dba dcc dnc dbc w2 (rcd.at H4) (rnd.at H4) (rbd.at H4) (by omega)) fun _ w9 p1 => ?_))
    obtain ⟨a2_1, hs_1, c2_1, rfl, u6, q1⟩ := p1
    have H12 : UpG w [] w9 [[blk w.heap.size #[.slice dca d.cls.length dcc, .int .i64 d.width, .int .i64 d.start, .slice dna d.next.length dnc, .slice dba d.acc.length dbc] 25], [manyF (inLR tyB 4).row Xs], [rowT tyLR (.slice oa Xs.length oc) 23 Xs], [rowT (tyI .i64) (.slice a2_1 hs_1.length c2_1) 3 hs_1]] := (H4.new' u6).re rfl
    refine WL.op rfl (d_assign rfl ?_)
    refine WL.done (X.then_code ?_)
    refine W.seq ?_
    refine W.seq ?_
    refine W.region ?_
    refine WL.op rfl (d_assign rfl ?_)
    refine WL.done (X.then_code ?_)
    refine W.block ?_
    refine W.pick [9, 8, 4, 3, 2, 1] (Γ' := [(9, .int .i64 0), (8, .slice a2_1 hs_1.length c2_1), (4, .slice oa Xs.length oc), (3, .int .i64 ((d.acc.length : Nat) : Int)), (2, .slice none 0 0), (1, .pointer (some ⟨w.heap.size, 0, none⟩))]) rfl ?_
    refine W.loop (fun m Γ' w' => ∃ tt : Nat, ∃ Y : List (LR Bool), Γ' = [(9, .int .i64 ((tt : Nat) : Int)), (8, .slice a2_1 hs_1.length c2_1), (4, .slice oa Xs.length oc), (3, .int .i64 ((d.acc.length : Nat) : Int)), (2, .slice none 0 0), (1, .pointer (some ⟨w.heap.size, 0, none⟩))] ∧ UpG w [] w' [[blk w.heap.size #[.slice dca d.cls.length dcc, .int .i64 d.width, .int .i64 d.start, .slice dna d.next.length dnc, .slice dba d.acc.length dbc] 25], [manyF (inLR tyB 4).row Y], [rowT tyLR (.slice oa Xs.length oc) 23 Y], [rowT (tyI .i64) (.slice a2_1 hs_1.length c2_1) 3 hs_1]] ∧ (tt ≤ d.acc.length) ∧ (UnI d Y tt 0 0) ∧ m = d.acc.length - tt) (d.acc.length - 0) ⟨0, Xs, rfl, H12, (by first | assumption | omega | simp), (by exact hX.done (by omega)), rfl⟩ ?_
    rintro m3 Γ3 w10 ⟨tt, Y, rfl, H13, ht, hY, rfl⟩
    refine W.seq ?_
    refine W.seq ?_
    refine W.region ?_
    refine WL.op rfl (d_move rfl ?_)
    refine WL.op rfl (d_move rfl ?_)
    refine WL.op rfl (d_cmp (decide (((tt : Nat) : Int) < ((d.acc.length : Nat) : Int))) rfl rfl rfl ?_)
    refine WL.done (X.then_code ?_)
    refine W.ite (p := ((tt : Nat) : Int) < ((d.acc.length : Nat) : Int)) rfl (fun c38 => ?_) (fun c38 => ?_)
    · skip
      refine W.skip (X.then_code ?_)
      refine W.seq ?_
      refine W.block ?_
      refine W.seq ?_
      refine W.region ?_
      refine WL.op rfl (d_assign rfl ?_)
      refine WL.done (X.then_code ?_)
      refine W.block ?_
      refine W.pick [10, 9, 8, 4, 3, 2, 1] (Γ' := [(10, .int .i64 0), (9, .int .i64 ((tt : Nat) : Int)), (8, .slice a2_1 hs_1.length c2_1), (4, .slice oa Xs.length oc), (3, .int .i64 ((d.acc.length : Nat) : Int)), (2, .slice none 0 0), (1, .pointer (some ⟨w.heap.size, 0, none⟩))]) rfl ?_
      refine W.loop (fun m Γ' w' => ∃ i : Nat, ∃ Z : List (LR Bool), Γ' = [(10, .int .i64 ((i : Nat) : Int)), (9, .int .i64 ((tt : Nat) : Int)), (8, .slice a2_1 hs_1.length c2_1), (4, .slice oa Xs.length oc), (3, .int .i64 ((d.acc.length : Nat) : Int)), (2, .slice none 0 0), (1, .pointer (some ⟨w.heap.size, 0, none⟩))] ∧ UpG w [] w' [[blk w.heap.size #[.slice dca d.cls.length dcc, .int .i64 d.width, .int .i64 d.start, .slice dna d.next.length dnc, .slice dba d.acc.length dbc] 25], [manyF (inLR tyB 4).row Z], [rowT tyLR (.slice oa Xs.length oc) 23 Z], [rowT (tyI .i64) (.slice a2_1 hs_1.length c2_1) 3 hs_1]] ∧ (i ≤ d.acc.length) ∧ (UnI d Z tt i 0) ∧ m = d.acc.length - i) (d.acc.length - 0) ⟨0, Y, rfl, H13, (by first | assumption | omega | simp), (by exact hY), rfl⟩ ?_
      rintro m4 Γ4 w11 ⟨i, Z, rfl, H14, hi, hZ, rfl⟩
      refine W.seq ?_
      refine W.seq ?_
      refine W.region ?_
      refine WL.op rfl (d_move rfl ?_)
      refine WL.op rfl (d_move rfl ?_)
      refine WL.op rfl (d_cmp (decide (((i : Nat) : Int) < ((d.acc.length : Nat) : Int))) rfl rfl rfl ?_)
      refine WL.done (X.then_code ?_)
      refine W.ite (p := ((i : Nat) : Int) < ((d.acc.length : Nat) : Int)) rfl (fun c39 => ?_) (fun c39 => ?_)
      · skip
        refine W.skip (X.then_code ?_)
        refine W.seq ?_
        refine W.block ?_
        refine W.seq ?_
        refine W.region ?_
        refine WL.op rfl (d_assign rfl ?_)
        refine WL.done (X.then_code ?_)
        refine W.block ?_
        refine W.pick [11, 10, 9, 8, 4, 3, 2, 1] (Γ' := [(11, .int .i64 0), (10, .int .i64 ((i : Nat) : Int)), (9, .int .i64 ((tt : Nat) : Int)), (8, .slice a2_1 hs_1.length c2_1), (4, .slice oa Xs.length oc), (3, .int .i64 ((d.acc.length : Nat) : Int)), (2, .slice none 0 0), (1, .pointer (some ⟨w.heap.size, 0, none⟩))]) rfl ?_
        refine W.loop (fun m Γ' w' => ∃ kk : Nat, ∃ U : List (LR Bool), Γ' = [(11, .int .i64 ((kk : Nat) : Int)), (10, .int .i64 ((i : Nat) : Int)), (9, .int .i64 ((tt : Nat) : Int)), (8, .slice a2_1 hs_1.length c2_1), (4, .slice oa Xs.length oc), (3, .int .i64 ((d.acc.length : Nat) : Int)), (2, .slice none 0 0), (1, .pointer (some ⟨w.heap.size, 0, none⟩))] ∧ UpG w [] w' [[blk w.heap.size #[.slice dca d.cls.length dcc, .int .i64 d.width, .int .i64 d.start, .slice dna d.next.length dnc, .slice dba d.acc.length dbc] 25], [manyF (inLR tyB 4).row U], [rowT tyLR (.slice oa Xs.length oc) 23 U], [rowT (tyI .i64) (.slice a2_1 hs_1.length c2_1) 3 hs_1]] ∧ (kk ≤ d.acc.length) ∧ (UnI d U tt i kk) ∧ m = d.acc.length - kk) (d.acc.length - 0) ⟨0, Z, rfl, H14, (by first | assumption | omega | simp), (by exact hZ), rfl⟩ ?_
        rintro m5 Γ5 w12 ⟨kk, U, rfl, H15, hku, hU, rfl⟩
        refine W.seq ?_
        refine W.seq ?_
        refine W.region ?_
        refine WL.op rfl (d_move rfl ?_)
        refine WL.op rfl (d_move rfl ?_)
        refine WL.op rfl (d_cmp (decide (((kk : Nat) : Int) < ((d.acc.length : Nat) : Int))) rfl rfl rfl ?_)
        refine WL.done (X.then_code ?_)
        refine W.ite (p := ((kk : Nat) : Int) < ((d.acc.length : Nat) : Int)) rfl (fun c40 => ?_) (fun c40 => ?_)
        · skip
          refine W.skip (X.then_code ?_)
          refine W.seq ?_
          refine W.block ?_
          refine W.seq ?_
          refine W.region ?_
          refine WL.op rfl (d_assign rfl ?_)
          refine WL.done (X.then_code ?_)
          refine W.block ?_
          refine W.pick [12, 11, 10, 9, 8, 4, 3, 2, 1] (Γ' := [(12, .int .i64 0), (11, .int .i64 ((kk : Nat) : Int)), (10, .int .i64 ((i : Nat) : Int)), (9, .int .i64 ((tt : Nat) : Int)), (8, .slice a2_1 hs_1.length c2_1), (4, .slice oa Xs.length oc), (3, .int .i64 ((d.acc.length : Nat) : Int)), (2, .slice none 0 0), (1, .pointer (some ⟨w.heap.size, 0, none⟩))]) rfl ?_
          refine W.loop (fun m Γ' w' => ∃ c : Nat, ∃ V : List (LR Bool), Γ' = [(12, .int .i64 ((c : Nat) : Int)), (11, .int .i64 ((kk : Nat) : Int)), (10, .int .i64 ((i : Nat) : Int)), (9, .int .i64 ((tt : Nat) : Int)), (8, .slice a2_1 hs_1.length c2_1), (4, .slice oa Xs.length oc), (3, .int .i64 ((d.acc.length : Nat) : Int)), (2, .slice none 0 0), (1, .pointer (some ⟨w.heap.size, 0, none⟩))] ∧ UpG w [] w' [[blk w.heap.size #[.slice dca d.cls.length dcc, .int .i64 d.width, .int .i64 d.start, .slice dna d.next.length dnc, .slice dba d.acc.length dbc] 25], [manyF (inLR tyB 4).row V], [rowT tyLR (.slice oa Xs.length oc) 23 V], [rowT (tyI .i64) (.slice a2_1 hs_1.length c2_1) 3 hs_1]] ∧ (c ≤ hs_1.length) ∧ (UnJ d hs_1 V tt i kk c) ∧ m = hs_1.length - c) (hs_1.length - 0) ⟨0, U, rfl, H15, (by first | assumption | omega | simp), (by exact hU.inner), rfl⟩ ?_
          rintro m6 Γ6 w13 ⟨c, V, rfl, H16, hc, hV, rfl⟩
          have hr1 := hV.u.row i (by omega)
          have hVl := hV.u.len
          refine W.seq ?_
          refine W.seq ?_
          refine W.region ?_
          refine WL.op rfl (d_move rfl ?_)
          refine WL.op rfl (d_move rfl ?_)
          refine WL.op rfl (d_lenS Try.underlying22 rfl ?_)
          refine WL.op rfl (d_cmp (decide (((c : Nat) : Int) < ((hs_1.length : Nat) : Int))) rfl rfl rfl ?_)
          refine WL.op rfl (d_move rfl ?_)
          refine WL.part 67 (p := ((c : Nat) : Int) < ((hs_1.length : Nat) : Int)) rfl (fun g41 => ?_) (fun g41 => ?_)
          · skip
            refine WL.opG rfl rfl rfl (d_move rfl ?_)
            refine WL.opG rfl rfl rfl (d_move rfl ?_)
            refine WL.opG rfl rfl rfl (t_addr1 i (T := tyLR) rfl Try.underlying29 sz23 rfl rfl (H16.rdT 2 rfl) rfl (by omega) ?_)
            refine WL.opG rfl rfl rfl (t_load1 i lr0 (T := tyLR) rfl Try.underlying23 rfl rfl (H16.rdT 2 rfl) (by omega) rfl ?_)
            refine WL.opG rfl rfl rfl (d_move rfl ?_)
            refine WL.opG rfl rfl rfl (t_addr1 kk (T := tyB) rfl Try.underlying23 sz4 rfl rfl (show RdT tyB w13 (.slice ((V.getD i lr0).a) ((V.getD i lr0).n) ((V.getD i lr0).c)) ((V.getD i lr0).xs) from (Inn.own (H16.hpOf 1 rfl)).get lr0 i (by omega)) rfl (by omega) ?_)
            refine WL.opG rfl rfl rfl (t_load1 kk false (T := tyB) rfl Try.underlying4 rfl rfl (show RdT tyB w13 (.slice ((V.getD i lr0).a) ((V.getD i lr0).n) ((V.getD i lr0).c)) ((V.getD i lr0).xs) from (Inn.own (H16.hpOf 1 rfl)).get lr0 i (by omega)) (by omega) rfl ?_)
            refine WL.opG rfl rfl rfl (d_notB rfl ?_)
            refine WL.op rfl (d_pick rfl rfl ?_)
            refine WL.done (X.then_code ?_)
            refine W.iteB (b := !(((V.getD i lr0).xs).getD kk false)) rfl (fun c41 => ?_) (fun c41 => ?_)
            · skip
              refine W.skip (X.then_code ?_)
              refine W.seq ?_
              refine W.block ?_
              have hhl := q1.len
              have hcb := q1.bd (hs_1.getD c 0) (getD_mem' (by omega))
              have hd1 := dN_lt hrt (i := i) (by omega) hcb
              have hd2 := dN_lt hrt (i := kk) (by omega) hcb
              have hr2 := hV.u.row (dN d i (hs_1.getD c 0)) hd1
              refine W.regionD mixed (by kernel_rfl) fun hok2 w14 k2 => ?_
              have H17 : UpG w [] w14 [[blk w.heap.size #[.slice dca d.cls.length dcc, .int .i64 d.width, .int .i64 d.start, .slice dna d.next.length dnc, .slice dba d.acc.length dbc] 25], [manyF (inLR tyB 4).row V], [rowT tyLR (.slice oa Xs.length oc) 23 V], [rowT (tyI .i64) (.slice a2_1 hs_1.length c2_1) 3 hs_1]] := H16.kept k2
              refine WD.take hok2 0 (.slice oa Xs.length oc) (fun _ => True) rfl rfl rfl rfl rfl trivial (.inl ⟨rfl, fun _ _ => d_move rfl ⟨rfl, rfl⟩⟩) ?_
              refine WD.take hok2 1 (.int .i64 ((i : Nat) : Int)) (fun _ => True) rfl rfl rfl rfl rfl trivial (.inl ⟨rfl, fun _ _ => d_move rfl ⟨rfl, rfl⟩⟩) ?_
              refine WD.take hok2 2 (elemPtr (.slice oa Xs.length oc) i) (fun w' => RdT tyLR w' (.slice oa Xs.length oc) V) rfl rfl rfl rfl rfl (H17.rdT 2 rfl) (.inl ⟨rfl, fun _ hC => t_addr1 i (T := tyLR) rfl Try.underlying29 sz23 rfl rfl hC rfl (by omega) ⟨rfl, rfl⟩⟩) ?_
              refine WD.take hok2 3 (.slice ((V.getD i lr0).a) ((V.getD i lr0).n) ((V.getD i lr0).c)) (fun w' => RdT tyLR w' (.slice oa Xs.length oc) V) rfl rfl rfl rfl rfl (H17.rdT 2 rfl) (.inl ⟨rfl, fun _ hC => t_load1 i lr0 (T := tyLR) rfl Try.underlying23 rfl rfl hC (by omega) rfl ⟨rfl, rfl⟩⟩) ?_
              refine WD.take hok2 4 (.int .i64 ((kk : Nat) : Int)) (fun _ => True) rfl rfl rfl rfl rfl trivial (.inl ⟨rfl, fun _ _ => d_move rfl ⟨rfl, rfl⟩⟩) ?_
              refine WD.take hok2 5 (.slice oa Xs.length oc) (fun _ => True) rfl rfl rfl rfl rfl trivial (.inl ⟨rfl, fun _ _ => d_move rfl ⟨rfl, rfl⟩⟩) ?_
              refine WD.take hok2 6 (.agg #[.slice dca d.cls.length dcc, .int .i64 d.width, .int .i64 d.start, .slice dna d.next.length dnc, .slice dba d.acc.length dbc]) (fun w' => w'.heap[w.heap.size]? = some (.cells #[.slice dca d.cls.length dcc, .int .i64 d.width, .int .i64 d.start, .slice dna d.next.length dnc, .slice dba d.acc.length dbc] 25 (0, 0))) rfl rfl rfl rfl rfl (H17.blk 0 rfl) (.inl ⟨rfl, fun _ hC => d_loadAB [.slice dca d.cls.length dcc, .int .i64 d.width, .int .i64 d.start, .slice dna d.next.length dnc, .slice dba d.acc.length dbc] Try.underlying25 rfl sz25 rfl hC rfl rfl ⟨rfl, rfl⟩⟩) ?_
              refine WD.take hok2 7 (.int .i64 ((i : Nat) : Int)) (fun _ => True) rfl rfl rfl rfl rfl trivial (.inl ⟨rfl, fun _ _ => d_move rfl ⟨rfl, rfl⟩⟩) ?_
              refine WD.take hok2 8 (.slice a2_1 hs_1.length c2_1) (fun _ => True) rfl rfl rfl rfl rfl trivial (.inl ⟨rfl, fun _ _ => d_move rfl ⟨rfl, rfl⟩⟩) ?_
              refine WD.take hok2 9 (.int .i64 ((c : Nat) : Int)) (fun _ => True) rfl rfl rfl rfl rfl trivial (.inl ⟨rfl, fun _ _ => d_move rfl ⟨rfl, rfl⟩⟩) ?_
              refine WD.take hok2 10 (elemPtr (.slice a2_1 hs_1.length c2_1) c) (fun w' => RdT (tyI .i64) w' (.slice a2_1 hs_1.length c2_1) hs_1) rfl rfl rfl rfl rfl (H17.rdT 3 rfl) (.inl ⟨rfl, fun _ hC => t_addr1 c (T := (tyI .i64)) rfl Try.underlying22 sz3 rfl rfl hC rfl (by omega) ⟨rfl, rfl⟩⟩) ?_
              refine WD.take hok2 11 (.int .i64 (hs_1.getD c 0)) (fun w' => RdT (tyI .i64) w' (.slice a2_1 hs_1.length c2_1) hs_1) rfl rfl rfl rfl rfl (H17.rdT 3 rfl) (.inl ⟨rfl, fun _ hC => t_load1 c 0 (T := (tyI .i64)) rfl Try.underlying3 rfl rfl hC (by omega) rfl ⟨rfl, rfl⟩⟩) ?_
              refine WD.take hok2 15 (.agg #[.slice dca d.cls.length dcc, .int .i64 d.width, .int .i64 d.start, .slice dna d.next.length dnc, .slice dba d.acc.length dbc]) (fun w' => w'.heap[w.heap.size]? = some (.cells #[.slice dca d.cls.length dcc, .int .i64 d.width, .int .i64 d.start, .slice dna d.next.length dnc, .slice dba d.acc.length dbc] 25 (0, 0))) rfl rfl rfl rfl rfl (H17.blk 0 rfl) (.inl ⟨rfl, fun _ hC => d_loadAB [.slice dca d.cls.length dcc, .int .i64 d.width, .int .i64 d.start, .slice dna d.next.length dnc, .slice dba d.acc.length dbc] Try.underlying25 rfl sz25 rfl hC rfl rfl ⟨rfl, rfl⟩⟩) ?_
              refine WD.take hok2 16 (.int .i64 ((kk : Nat) : Int)) (fun _ => True) rfl rfl rfl rfl rfl trivial (.inl ⟨rfl, fun _ _ => d_move rfl ⟨rfl, rfl⟩⟩) ?_
              refine WD.take hok2 17 (.slice a2_1 hs_1.length c2_1) (fun _ => True) rfl rfl rfl rfl rfl trivial (.inl ⟨rfl, fun _ _ => d_move rfl ⟨rfl, rfl⟩⟩) ?_
              refine WD.take hok2 18 (.int .i64 ((c : Nat) : Int)) (fun _ => True) rfl rfl rfl rfl rfl trivial (.inl ⟨rfl, fun _ _ => d_move rfl ⟨rfl, rfl⟩⟩) ?_
              refine WD.take hok2 19 (elemPtr (.slice a2_1 hs_1.length c2_1) c) (fun w' => RdT (tyI .i64) w' (.slice a2_1 hs_1.length c2_1) hs_1) rfl rfl rfl rfl rfl (H17.rdT 3 rfl) (.inl ⟨rfl, fun _ hC => t_addr1 c (T := (tyI .i64)) rfl Try.underlying22 sz3 rfl rfl hC rfl (by omega) ⟨rfl, rfl⟩⟩) ?_
              refine WD.take hok2 20 (.int .i64 (hs_1.getD c 0)) (fun w' => RdT (tyI .i64) w' (.slice a2_1 hs_1.length c2_1) hs_1) rfl rfl rfl rfl rfl (H17.rdT 3 rfl) (.inl ⟨rfl, fun _ hC => t_load1 c 0 (T := (tyI .i64)) rfl Try.underlying3 rfl rfl hC (by omega) rfl ⟨rfl, rfl⟩⟩) ?_
              refine WD.loud hok2 12 rfl (⟨_, [⟨20, .int .i64 (hs_1.getD c 0), (fun w' => RdT (tyI .i64) w' (.slice a2_1 hs_1.length c2_1) hs_1)⟩, ⟨19, elemPtr (.slice a2_1 hs_1.length c2_1) c, (fun w' => RdT (tyI .i64) w' (.slice a2_1 hs_1.length c2_1) hs_1)⟩, ⟨18, .int .i64 ((c : Nat) : Int), (fun _ => True)⟩, ⟨17, .slice a2_1 hs_1.length c2_1, (fun _ => True)⟩, ⟨16, .int .i64 ((kk : Nat) : Int), (fun _ => True)⟩, ⟨15, .agg #[.slice dca d.cls.length dcc, .int .i64 d.width, .int .i64 d.start, .slice dna d.next.length dnc, .slice dba d.acc.length dbc], (fun w' => w'.heap[w.heap.size]? = some (.cells #[.slice dca d.cls.length dcc, .int .i64 d.width, .int .i64 d.start, .slice dna d.next.length dnc, .slice dba d.acc.length dbc] 25 (0, 0)))⟩, ⟨5, .slice oa Xs.length oc, (fun _ => True)⟩, ⟨4, .int .i64 ((kk : Nat) : Int), (fun _ => True)⟩, ⟨3, .slice ((V.getD i lr0).a) ((V.getD i lr0).n) ((V.getD i lr0).c), (fun w' => RdT tyLR w' (.slice oa Xs.length oc) V)⟩, ⟨2, elemPtr (.slice oa Xs.length oc) i, (fun w' => RdT tyLR w' (.slice oa Xs.length oc) V)⟩, ⟨1, .int .i64 ((i : Nat) : Int), (fun _ => True)⟩, ⟨0, .slice oa Xs.length oc, (fun _ => True)⟩], rfl, rfl, rfl, rfl, rfl, rfl, d_call ok81 rfl (Ret.calls (go11_any d dca dna dba dcc dnc dbc ((i : Nat) : Int) i (hs_1.getD c 0) w14 (rcd.at H17) (rnd.at H17) (rbd.at H17) (by omega) hrt (by omega) hcb) fun _ w15 p2 => ?_)⟩)
              obtain ⟨rfl, u7⟩ := p2
              have H18 : UpG w [] w15 [[blk w.heap.size #[.slice dca d.cls.length dcc, .int .i64 d.width, .int .i64 d.start, .slice dna d.next.length dnc, .slice dba d.acc.length dbc] 25], [manyF (inLR tyB 4).row V], [rowT tyLR (.slice oa Xs.length oc) 23 V], [rowT (tyI .i64) (.slice a2_1 hs_1.length c2_1) 3 hs_1]] := H17.call u7
              refine ⟨⟨(H18.rdT 3 rfl), (H18.rdT 3 rfl), trivial, trivial, trivial, (H18.blk 0 rfl), trivial, trivial, (H18.rdT 2 rfl), (H18.rdT 2 rfl), trivial, trivial, trivial⟩, ?_⟩
              refine WD.take hok2 13 (elemPtr (.slice oa Xs.length oc) (dN d i (hs_1.getD c 0))) (fun w' => RdT tyLR w' (.slice oa Xs.length oc) V) rfl rfl rfl rfl rfl (H18.rdT 2 rfl) (.inl ⟨rfl, fun _ hC => t_addr1 (dN d i (hs_1.getD c 0)) (T := tyLR) rfl Try.underlying29 sz23 rfl rfl hC rfl (by omega) ⟨rfl, rfl⟩⟩) ?_
              refine WD.take hok2 14 (.slice ((V.getD (dN d i (hs_1.getD c 0)) lr0).a) ((V.getD (dN d i (hs_1.getD c 0)) lr0).n) ((V.getD (dN d i (hs_1.getD c 0)) lr0).c)) (fun w' => RdT tyLR w' (.slice oa Xs.length oc) V) rfl rfl rfl rfl rfl (H18.rdT 2 rfl) (.inl ⟨rfl, fun _ hC => t_load1 (dN d i (hs_1.getD c 0)) lr0 (T := tyLR) rfl Try.underlying23 rfl rfl hC (by omega) rfl ⟨rfl, rfl⟩⟩) ?_
              refine WD.loud hok2 21 rfl (⟨_, [⟨14, .slice ((V.getD (dN d i (hs_1.getD c 0)) lr0).a) ((V.getD (dN d i (hs_1.getD c 0)) lr0).n) ((V.getD (dN d i (hs_1.getD c 0)) lr0).c), (fun w' => RdT tyLR w' (.slice oa Xs.length oc) V)⟩, ⟨13, elemPtr (.slice oa Xs.length oc) (dN d i (hs_1.getD c 0)), (fun w' => RdT tyLR w' (.slice oa Xs.length oc) V)⟩, ⟨5, .slice oa Xs.length oc, (fun _ => True)⟩, ⟨4, .int .i64 ((kk : Nat) : Int), (fun _ => True)⟩, ⟨3, .slice ((V.getD i lr0).a) ((V.getD i lr0).n) ((V.getD i lr0).c), (fun w' => RdT tyLR w' (.slice oa Xs.length oc) V)⟩, ⟨2, elemPtr (.slice oa Xs.length oc) i, (fun w' => RdT tyLR w' (.slice oa Xs.length oc) V)⟩, ⟨1, .int .i64 ((i : Nat) : Int), (fun _ => True)⟩, ⟨0, .slice oa Xs.length oc, (fun _ => True)⟩], rfl, rfl, rfl, rfl, rfl, rfl, d_call ok81 rfl (Ret.calls (go11_any d dca dna dba dcc dnc dbc ((kk : Nat) : Int) kk (hs_1.getD c 0) w15 (rcd.at H18) (rnd.at H18) (rbd.at H18) (by omega) hrt (by omega) hcb) fun _ w16 p3 => ?_)⟩)
              obtain ⟨rfl, u8⟩ := p3
              have H19 : UpG w [] w16 [[blk w.heap.size #[.slice dca d.cls.length dcc, .int .i64 d.width, .int .i64 d.start, .slice dna d.next.length dnc, .slice dba d.acc.length dbc] 25], [manyF (inLR tyB 4).row V], [rowT tyLR (.slice oa Xs.length oc) 23 V], [rowT (tyI .i64) (.slice a2_1 hs_1.length c2_1) 3 hs_1]] := H18.call u8
              refine ⟨⟨(H19.rdT 2 rfl), (H19.rdT 2 rfl), trivial, trivial, (H19.rdT 2 rfl), (H19.rdT 2 rfl), trivial, trivial, trivial⟩, ?_⟩
              refine WD.take hok2 22 (elemPtr (.slice ((V.getD (dN d i (hs_1.getD c 0)) lr0).a) ((V.getD (dN d i (hs_1.getD c 0)) lr0).n) ((V.getD (dN d i (hs_1.getD c 0)) lr0).c)) (dN d kk (hs_1.getD c 0))) (fun w' => RdT tyB w' (.slice ((V.getD (dN d i (hs_1.getD c 0)) lr0).a) ((V.getD (dN d i (hs_1.getD c 0)) lr0).n) ((V.getD (dN d i (hs_1.getD c 0)) lr0).c)) ((V.getD (dN d i (hs_1.getD c 0)) lr0).xs)) rfl rfl rfl rfl rfl (show RdT tyB w16 (.slice ((V.getD (dN d i (hs_1.getD c 0)) lr0).a) ((V.getD (dN d i (hs_1.getD c 0)) lr0).n) ((V.getD (dN d i (hs_1.getD c 0)) lr0).c)) ((V.getD (dN d i (hs_1.getD c 0)) lr0).xs) from (Inn.own (H19.hpOf 1 rfl)).get lr0 (dN d i (hs_1.getD c 0)) (by omega)) (.inl ⟨rfl, fun _ hC => t_addr1 (dN d kk (hs_1.getD c 0)) (T := tyB) rfl Try.underlying23 sz4 rfl rfl hC rfl (by omega) ⟨rfl, rfl⟩⟩) ?_
              refine WD.take hok2 23 (.bool (((V.getD (dN d i (hs_1.getD c 0)) lr0).xs).getD (dN d kk (hs_1.getD c 0)) false)) (fun w' => RdT tyB w' (.slice ((V.getD (dN d i (hs_1.getD c 0)) lr0).a) ((V.getD (dN d i (hs_1.getD c 0)) lr0).n) ((V.getD (dN d i (hs_1.getD c 0)) lr0).c)) ((V.getD (dN d i (hs_1.getD c 0)) lr0).xs)) rfl rfl rfl rfl rfl (show RdT tyB w16 (.slice ((V.getD (dN d i (hs_1.getD c 0)) lr0).a) ((V.getD (dN d i (hs_1.getD c 0)) lr0).n) ((V.getD (dN d i (hs_1.getD c 0)) lr0).c)) ((V.getD (dN d i (hs_1.getD c 0)) lr0).xs) from (Inn.own (H19.hpOf 1 rfl)).get lr0 (dN d i (hs_1.getD c 0)) (by omega)) (.inl ⟨rfl, fun _ hC => t_load1 (dN d kk (hs_1.getD c 0)) false (T := tyB) rfl Try.underlying4 rfl rfl hC (by omega) rfl ⟨rfl, rfl⟩⟩) ?_
              refine WD.take hok2 24 (elemPtr (.slice ((V.getD i lr0).a) ((V.getD i lr0).n) ((V.getD i lr0).c)) kk) (fun w' => RdT tyB w' (.slice ((V.getD i lr0).a) ((V.getD i lr0).n) ((V.getD i lr0).c)) ((V.getD i lr0).xs)) rfl rfl rfl rfl rfl (show RdT tyB w16 (.slice ((V.getD i lr0).a) ((V.getD i lr0).n) ((V.getD i lr0).c)) ((V.getD i lr0).xs) from (Inn.own (H19.hpOf 1 rfl)).get lr0 i (by omega)) (.inl ⟨rfl, fun _ hC => t_addr1 kk (T := tyB) rfl Try.underlying23 sz4 rfl rfl hC rfl (by omega) ⟨rfl, rfl⟩⟩) ?_
              have H20 : UpG w [] w16 [[blk w.heap.size #[.slice dca d.cls.length dcc, .int .i64 d.width, .int .i64 d.start, .slice dna d.next.length dnc, .slice dba d.acc.length dbc] 25], [manyF (inLR tyB 4).row (V.eraseIdx i)], [rowT tyLR (.slice oa Xs.length oc) 23 V], [rowT (tyI .i64) (.slice a2_1 hs_1.length c2_1) 3 hs_1], [rowT tyB (.slice ((V.getD i lr0).a) ((V.getD i lr0).n) ((V.getD i lr0).c)) 4 ((V.getD i lr0).xs)]] := H19.takeOut (f := (inLR tyB 4).row) lr0 1 i rfl (by omega)
              refine WD.loud hok2 25 rfl (⟨_, [], rfl, rfl, rfl, rfl, rfl, rfl, t_store1 kk (((V.getD (dN d i (hs_1.getD c 0)) lr0).xs).getD (dN d kk (hs_1.getD c 0)) false) (T := tyB) (e := 4) rfl sz4 rfl rfl rfl (H20.ownT 4 rfl) (by omega) fun w17 u9 => ?_⟩)
              have H21 : UpG w [] w17 [[blk w.heap.size #[.slice dca d.cls.length dcc, .int .i64 d.width, .int .i64 d.start, .slice dna d.next.length dnc, .slice dba d.acc.length dbc] 25], [manyF (inLR tyB 4).row (V.eraseIdx i)], [rowT tyLR (.slice oa Xs.length oc) 23 V], [rowT (tyI .i64) (.slice a2_1 hs_1.length c2_1) 3 hs_1], [rowT tyB (.slice ((V.getD i lr0).a) ((V.getD i lr0).n) ((V.getD i lr0).c)) 4 (((V.getD i lr0).xs).set kk (((V.getD (dN d i (hs_1.getD c 0)) lr0).xs).getD (dN d kk (hs_1.getD c 0)) false))]] := H20.on 4 rfl u9
              have H22 : UpG w [] w17 [[blk w.heap.size #[.slice dca d.cls.length dcc, .int .i64 d.width, .int .i64 d.start, .slice dna d.next.length dnc, .slice dba d.acc.length dbc] 25], [manyF (inLR tyB 4).row (V.set i ⟨(V.getD i lr0).a, (V.getD i lr0).n, (V.getD i lr0).c, ((V.getD i lr0).xs).set kk (((V.getD (dN d i (hs_1.getD c 0)) lr0).xs).getD (dN d kk (hs_1.getD c 0)) false)⟩)], [rowT tyLR (.slice oa Xs.length oc) 23 V], [rowT (tyI .i64) (.slice a2_1 hs_1.length c2_1) 3 hs_1], []] := (H21.putBack (f := (inLR tyB 4).row) ⟨(V.getD i lr0).a, (V.getD i lr0).n, (V.getD i lr0).c, ((V.getD i lr0).xs).set kk (((V.getD (dN d i (hs_1.getD c 0)) lr0).xs).getD (dN d kk (hs_1.getD c 0)) false)⟩ 1 4 i rfl rfl rfl (by omega)).re rfl
              have H23 : UpG w [] w17 [[blk w.heap.size #[.slice dca d.cls.length dcc, .int .i64 d.width, .int .i64 d.start, .slice dna d.next.length dnc, .slice dba d.acc.length dbc] 25], [manyF (inLR tyB 4).row (V.set i ⟨(V.getD i lr0).a, (V.getD i lr0).n, (V.getD i lr0).c, ((V.getD i lr0).xs).set kk (((V.getD (dN d i (hs_1.getD c 0)) lr0).xs).getD (dN d kk (hs_1.getD c 0)) false)⟩)], [rowT tyLR (.slice oa Xs.length oc) 23 (V.set i ⟨(V.getD i lr0).a, (V.getD i lr0).n, (V.getD i lr0).c, ((V.getD i lr0).xs).set kk (((V.getD (dN d i (hs_1.getD c 0)) lr0).xs).getD (dN d kk (hs_1.getD c 0)) false)⟩)], [rowT (tyI .i64) (.slice a2_1 hs_1.length c2_1) 3 hs_1], []] := H22.recast (((V.getD i lr0).xs).set kk (((V.getD (dN d i (hs_1.getD c 0)) lr0).xs).getD (dN d kk (hs_1.getD c 0)) false)) 2 i rfl (by omega)
              refine ⟨trivial, ?_⟩
              refine WD.done hok2 rfl (X.block_normal (X.then_code ?_))
              refine W.pick [75, 74, 73, 72, 71, 70, 69, 68, 12, 11, 10, 9, 8, 4, 3, 2, 1] (Γ' := [(75, .bool (!(((V.getD i lr0).xs).getD kk false))), (74, .bool (((V.getD i lr0).xs).getD kk false)), (73, elemPtr (.slice ((V.getD i lr0).a) ((V.getD i lr0).n) ((V.getD i lr0).c)) kk), (72, .int .i64 ((kk : Nat) : Int)), (71, .slice ((V.getD i lr0).a) ((V.getD i lr0).n) ((V.getD i lr0).c)), (70, elemPtr (.slice oa Xs.length oc) i), (69, .int .i64 ((i : Nat) : Int)), (68, .slice oa Xs.length oc), (12, .int .i64 ((c : Nat) : Int)), (11, .int .i64 ((kk : Nat) : Int)), (10, .int .i64 ((i : Nat) : Int)), (9, .int .i64 ((tt : Nat) : Int)), (8, .slice a2_1 hs_1.length c2_1), (4, .slice oa Xs.length oc), (3, .int .i64 ((d.acc.length : Nat) : Int)), (2, .slice none 0 0), (1, .pointer (some ⟨w.heap.size, 0, none⟩))]) rfl ?_
              refine W.region ?_
              refine WL.op rfl (d_move rfl ?_)
              refine WL.op rfl (d_add rfl rfl (by omega) (by omega) ?_)
              refine WL.op rfl (d_assign rfl ?_)
              refine WL.done ?_
              exact X.next [12, 11, 10, 9, 8, 4, 3, 2, 1] (Γ' := [(12, .int .i64 (((c + 1) : Nat) : Int)), (11, .int .i64 ((kk : Nat) : Int)), (10, .int .i64 ((i : Nat) : Int)), (9, .int .i64 ((tt : Nat) : Int)), (8, .slice a2_1 hs_1.length c2_1), (4, .slice oa Xs.length oc), (3, .int .i64 ((d.acc.length : Nat) : Int)), (2, .slice none 0 0), (1, .pointer (some ⟨w.heap.size, 0, none⟩))]) rfl (hs_1.length - (c + 1)) (by omega) ⟨c + 1, V.set i ⟨(V.getD i lr0).a, (V.getD i lr0).n, (V.getD i lr0).c, ((V.getD i lr0).xs).set kk (((V.getD (dN d i (hs_1.getD c 0)) lr0).xs).getD (dN d kk (hs_1.getD c 0)) false)⟩, rfl, (H23.re rfl), (by first | assumption | omega | simp), (by exact hV.step hrt (by omega) (by omega) hcb (by simpa [cellB] using c41) rfl), rfl⟩
            · skip
              refine W.exit (X.then_exit (X.then_exit (X.block_exit (X.block_normal (X.then_code ?_)))))
              refine W.region ?_
              refine WL.op rfl (d_move rfl ?_)
              refine WL.op rfl (d_add rfl rfl (by omega) (by omega) ?_)
              refine WL.op rfl (d_assign rfl ?_)
              refine WL.done ?_
              exact X.next [11, 10, 9, 8, 4, 3, 2, 1] (Γ' := [(11, .int .i64 (((kk + 1) : Nat) : Int)), (10, .int .i64 ((i : Nat) : Int)), (9, .int .i64 ((tt : Nat) : Int)), (8, .slice a2_1 hs_1.length c2_1), (4, .slice oa Xs.length oc), (3, .int .i64 ((d.acc.length : Nat) : Int)), (2, .slice none 0 0), (1, .pointer (some ⟨w.heap.size, 0, none⟩))]) rfl (d.acc.length - (kk + 1)) (by omega) ⟨kk + 1, V, rfl, H16, (by first | assumption | omega | simp), (by first | exact hV.next q1 (by omega) (by omega) (.inl (by omega)) | exact hV.next q1 (by omega) (by omega) (.inr (by simpa [cellB] using c41))), rfl⟩
          · skip
            refine WL.opN rfl rfl rfl rfl ?_
            refine WL.opN rfl rfl rfl rfl ?_
            refine WL.opN rfl rfl rfl rfl ?_
            refine WL.opN rfl rfl rfl rfl ?_
            refine WL.opN rfl rfl rfl rfl ?_
            refine WL.opN rfl rfl rfl rfl ?_
            refine WL.opN rfl rfl rfl rfl ?_
            refine WL.opN rfl rfl rfl rfl ?_
            refine WL.op rfl (d_pick rfl rfl ?_)
            refine WL.done (X.then_code ?_)
            refine W.iff rfl ?_
            refine W.exit (X.then_exit (X.then_exit (X.block_exit (X.block_normal (X.then_code ?_)))))
            refine W.region ?_
            refine WL.op rfl (d_move rfl ?_)
            refine WL.op rfl (d_add rfl rfl (by omega) (by omega) ?_)
            refine WL.op rfl (d_assign rfl ?_)
            refine WL.done ?_
            exact X.next [11, 10, 9, 8, 4, 3, 2, 1] (Γ' := [(11, .int .i64 (((kk + 1) : Nat) : Int)), (10, .int .i64 ((i : Nat) : Int)), (9, .int .i64 ((tt : Nat) : Int)), (8, .slice a2_1 hs_1.length c2_1), (4, .slice oa Xs.length oc), (3, .int .i64 ((d.acc.length : Nat) : Int)), (2, .slice none 0 0), (1, .pointer (some ⟨w.heap.size, 0, none⟩))]) rfl (d.acc.length - (kk + 1)) (by omega) ⟨kk + 1, V, rfl, H16, (by first | assumption | omega | simp), (by first | exact hV.next q1 (by omega) (by omega) (.inl (by omega)) | exact hV.next q1 (by omega) (by omega) (.inr (by simpa [cellB] using c41))), rfl⟩
        · skip
          refine W.exit (X.then_exit (X.then_exit (X.block_exit (X.block_normal (X.then_code ?_)))))
          refine W.region ?_
          refine WL.op rfl (d_move rfl ?_)
          refine WL.op rfl (d_add rfl rfl (by omega) (by omega) ?_)
          refine WL.op rfl (d_assign rfl ?_)
          refine WL.done ?_
          exact X.next [10, 9, 8, 4, 3, 2, 1] (Γ' := [(10, .int .i64 (((i + 1) : Nat) : Int)), (9, .int .i64 ((tt : Nat) : Int)), (8, .slice a2_1 hs_1.length c2_1), (4, .slice oa Xs.length oc), (3, .int .i64 ((d.acc.length : Nat) : Int)), (2, .slice none 0 0), (1, .pointer (some ⟨w.heap.size, 0, none⟩))]) rfl (d.acc.length - (i + 1)) (by omega) ⟨i + 1, U, rfl, H15, (by first | assumption | omega | simp), (by exact hU.rowDone (by omega)), rfl⟩
      · skip
        refine W.exit (X.then_exit (X.then_exit (X.block_exit (X.block_normal (X.then_code ?_)))))
        refine W.region ?_
        refine WL.op rfl (d_move rfl ?_)
        refine WL.op rfl (d_add rfl rfl (by omega) (by omega) ?_)
        refine WL.op rfl (d_assign rfl ?_)
        refine WL.done ?_
        exact X.next [9, 8, 4, 3, 2, 1] (Γ' := [(9, .int .i64 (((tt + 1) : Nat) : Int)), (8, .slice a2_1 hs_1.length c2_1), (4, .slice oa Xs.length oc), (3, .int .i64 ((d.acc.length : Nat) : Int)), (2, .slice none 0 0), (1, .pointer (some ⟨w.heap.size, 0, none⟩))]) rfl (d.acc.length - (tt + 1)) (by omega) ⟨tt + 1, Z, rfl, H14, (by first | assumption | omega | simp), (by exact hZ.turn (by omega)), rfl⟩
    · skip
      refine W.exit (X.then_exit (X.then_exit (X.block_exit (X.then_code ?_))))
      refine W.seq ?_
      refine W.region ?_
      refine WL.op rfl (d_move rfl ?_)
      refine WL.op rfl (d_assign rfl ?_)
      refine WL.done (X.then_code ?_)
      refine W.ret (X.ret1 rfl rfl ?_)
      exact ⟨oa, Y, Xs.length, oc, rfl, (Upd.sel H13 (l := [2, 1]) rfl rfl), hY.fin hrt (by omega), (by omega)⟩
end Go.Proofs.Ytoeockpkkmgieaa


/- The walks of functions, printed by wip/tools/gw.py. -/
namespace Go.Proofs.Ytoeockpkkmgieaa
open Go Go.Sx
set_option linter.unusedVariables false
set_option linter.unusedSimpArgs false
set_option maxRecDepth 20000 in
theorem comes_any (d : DfaD) (dca : Option Addr) (dna : Option Addr) (dba : Option Addr) (dcc : Nat) (dnc : Nat) (dbc : Nat) (w : World) (rcd : RdT (tyI .i64) w (.slice dca d.cls.length dcc) d.cls) (rnd : RdT (tyI .i64) w (.slice dna d.next.length dnc) d.next) (rbd : RdT tyB w (.slice dba d.acc.length dbc) d.acc) (hrt : rightB d = true) :
    Calls Try.prog 21 #[.agg #[.slice dca d.cls.length dcc, .int .i64 d.width, .int .i64 d.start, .slice dna d.next.length dnc, .slice dba d.acc.length dbc]] w (Ret fun v w' => ∃ a2 : Option Addr, ∃ Xs : List (LR Bool), ∃ n2 : Nat, ∃ c2 : Nat, v = .slice a2 n2 c2 ∧ Upd w [] w' [rowT tyLR (.slice a2 n2 c2) 23 Xs, manyF (inLR tyB 4).row Xs] ∧ (ComesP d Xs) ∧ (n2 = d.acc.length)) := by
  have hri := rightB_iff.1 hrt
  have le_rcd := rcd.le
  have le_rnd := rnd.le
  have le_rbd := rbd.le
  refine calls_of_W (args := [.agg #[.slice dca d.cls.length dcc, .int .i64 d.width, .int .i64 d.start, .slice dna d.next.length dnc, .slice dba d.acc.length dbc]]) Try.func21 rfl rfl rfl ?_
  have H0 : UpG w [] w [] := UpG.nil w
  show W _ _ _ _ [(0, .agg #[.slice dca d.cls.length dcc, .int .i64 d.width, .int .i64 d.start, .slice dna d.next.length dnc, .slice dba d.acc.length dbc])] w
  refine W.seq ?_
  refine W.region ?_
  refine WL.op rfl (d_box rfl fun w1 u1 => ?_)
  have H1 : UpG w [] w1 [[blk w.heap.size #[.slice dca d.cls.length dcc, .int .i64 d.width, .int .i64 d.start, .slice dna d.next.length dnc, .slice dba d.acc.length dbc] 25]] := H0.new' u1
  refine WL.op rfl (d_assign rfl ?_)
  refine WL.done (X.then_code ?_)
  refine W.seq ?_
  refine W.region ?_
  refine WL.op rfl (d_fieldAddrB fld25_4 rfl rfl ?_)
  refine WL.op rfl (d_loadB Try.underlying23 rfl rfl (H1.blk 0 rfl) rfl ?_)
  refine WL.op rfl (d_lenS Try.underlying23 rfl ?_)
  refine WL.op rfl (d_assign rfl ?_)
  refine WL.done (X.then_code ?_)
  refine W.seq ?_
  refine W.region ?_
  refine WL.op rfl (d_assign rfl ?_)
  refine WL.done (X.then_code ?_)
  refine W.seq ?_
  refine W.seq ?_
  refine W.region ?_
  refine WL.op rfl (d_assign rfl ?_)
  refine WL.done (X.then_code ?_)
  refine W.block ?_
  have H2 : UpG w [] w1 [[blk w.heap.size #[.slice dca d.cls.length dcc, .int .i64 d.width, .int .i64 d.start, .slice dna d.next.length dnc, .slice dba d.acc.length dbc] 25], [manyF (inLR tyB 4).row ([] : List (LR Bool))]] := H1.new' (Upd.manyNil (inLR tyB 4).row w1)
  have H3 : UpG w [] w1 [[blk w.heap.size #[.slice dca d.cls.length dcc, .int .i64 d.width, .int .i64 d.start, .slice dna d.next.length dnc, .slice dba d.acc.length dbc] 25], [manyF (inLR tyB 4).row ([] : List (LR Bool))], [rowT tyLR (.slice none (([] : List (LR Bool)).length) 0) 23 ([] : List (LR Bool))]] := H2.new' (Upd.nilRowT w1 tyLR 23)
  refine W.pick [5, 4, 3, 2, 1] (Γ' := [(5, .int .i64 0), (4, .slice none (([] : List (LR Bool)).length) 0), (3, .int .i64 ((d.acc.length : Nat) : Int)), (2, .slice none 0 0), (1, .pointer (some ⟨w.heap.size, 0, none⟩))]) rfl ?_
  refine W.loop (fun m Γ' w' => ∃ s : Nat, ∃ Xs : List (LR Bool), ∃ oa : Option Addr, ∃ oc : Nat, Γ' = [(5, .int .i64 ((s : Nat) : Int)), (4, .slice oa Xs.length oc), (3, .int .i64 ((d.acc.length : Nat) : Int)), (2, .slice none 0 0), (1, .pointer (some ⟨w.heap.size, 0, none⟩))] ∧ UpG w [] w' [[blk w.heap.size #[.slice dca d.cls.length dcc, .int .i64 d.width, .int .i64 d.start, .slice dna d.next.length dnc, .slice dba d.acc.length dbc] 25], [manyF (inLR tyB 4).row Xs], [rowT tyLR (.slice oa Xs.length oc) 23 Xs]] ∧ (s ≤ d.acc.length) ∧ (CmS d Xs s) ∧ m = d.acc.length - s) (d.acc.length - 0) ⟨0, ([] : List (LR Bool)), none, 0, rfl, H3, (by first | assumption | omega | simp), (by exact CmS.start d), rfl⟩ ?_
  rintro m1 Γ1 w2 ⟨s, Xs, oa, oc, rfl, H4, hs, hX, rfl⟩
  have hXl := hX.len
  refine W.seq ?_
  refine W.seq ?_
  refine W.region ?_
  refine WL.op rfl (d_move rfl ?_)
  refine WL.op rfl (d_move rfl ?_)
  refine WL.op rfl (d_cmp (decide (((s : Nat) : Int) < ((d.acc.length : Nat) : Int))) rfl rfl rfl ?_)
  refine WL.done (X.then_code ?_)
  refine W.ite (p := ((s : Nat) : Int) < ((d.acc.length : Nat) : Int)) rfl (fun c43 => ?_) (fun c43 => ?_)
  · skip
    refine W.skip (X.then_code ?_)
    refine W.seq ?_
    refine W.block ?_
    refine W.seq ?_
    refine W.region ?_
    refine WL.op rfl (d_move rfl ?_)
    refine WL.op rfl (t_make d.acc.length false (T := tyB) rfl Try.underlying23 sz4 rfl rfl rfl rfl (by omega) (by omega) fun w3 u2 => ?_)
    have H5 : UpG w [] w3 [[blk w.heap.size #[.slice dca d.cls.length dcc, .int .i64 d.width, .int .i64 d.start, .slice dna d.next.length dnc, .slice dba d.acc.length dbc] 25], [manyF (inLR tyB 4).row Xs], [rowT tyLR (.slice oa Xs.length oc) 23 Xs], [rowT tyB (.slice (some ⟨w2.heap.size, 0, none⟩) ((List.replicate d.acc.length false).length) d.acc.length) 4 (List.replicate d.acc.length false)]] := H4.new' u2
    refine WL.op rfl (d_assign rfl ?_)
    refine WL.done (X.then_code ?_)
    refine W.seq ?_
    refine W.region ?_
    refine WL.op rfl (d_move rfl ?_)
    refine WL.op rfl (d_move rfl ?_)
    refine WL.op rfl (t_addr1 s (T := tyB) rfl Try.underlying23 sz4 rfl rfl (H5.rdT 3 rfl) rfl (by first | omega | (simp; omega)) ?_)
    refine WL.op0 (t_store1 s true (T := tyB) (e := 4) rfl sz4 rfl rfl rfl (H5.ownT 3 rfl) (by first | omega | (simp; omega)) fun w4 u3 => ?_)
    have H6 : UpG w [] w4 [[blk w.heap.size #[.slice dca d.cls.length dcc, .int .i64 d.width, .int .i64 d.start, .slice dna d.next.length dnc, .slice dba d.acc.length dbc] 25], [manyF (inLR tyB 4).row Xs], [rowT tyLR (.slice oa Xs.length oc) 23 Xs], [rowT tyB (.slice (some ⟨w2.heap.size, 0, none⟩) ((List.replicate d.acc.length false).length) d.acc.length) 4 ((List.replicate d.acc.length false).set s true)]] := H5.on 3 rfl u3
    refine WL.done (X.then_code ?_)
    refine W.seq ?_
    refine W.seq ?_
    refine W.region ?_
    refine WL.op rfl (d_assign rfl ?_)
    refine WL.done (X.then_code ?_)
    refine W.block ?_
    refine W.pick [7, 6, 5, 4, 3, 2, 1] (Γ' := [(7, .int .i64 0), (6, .slice (some ⟨w2.heap.size, 0, none⟩) ((List.replicate d.acc.length false).length) d.acc.length), (5, .int .i64 ((s : Nat) : Int)), (4, .slice oa Xs.length oc), (3, .int .i64 ((d.acc.length : Nat) : Int)), (2, .slice none 0 0), (1, .pointer (some ⟨w.heap.size, 0, none⟩))]) rfl ?_
    refine W.loop (fun m Γ' w' => ∃ k : Nat, ∃ q : List Bool, Γ' = [(7, .int .i64 ((k : Nat) : Int)), (6, .slice (some ⟨w2.heap.size, 0, none⟩) ((List.replicate d.acc.length false).length) d.acc.length), (5, .int .i64 ((s : Nat) : Int)), (4, .slice oa Xs.length oc), (3, .int .i64 ((d.acc.length : Nat) : Int)), (2, .slice none 0 0), (1, .pointer (some ⟨w.heap.size, 0, none⟩))] ∧ UpG w [] w' [[blk w.heap.size #[.slice dca d.cls.length dcc, .int .i64 d.width, .int .i64 d.start, .slice dna d.next.length dnc, .slice dba d.acc.length dbc] 25], [manyF (inLR tyB 4).row Xs], [rowT tyLR (.slice oa Xs.length oc) 23 Xs], [rowT tyB (.slice (some ⟨w2.heap.size, 0, none⟩) ((List.replicate d.acc.length false).length) d.acc.length) 4 q]] ∧ (k ≤ 259) ∧ (RwI d s q k) ∧ m = 259 - k) (259 - 0) ⟨0, (List.replicate d.acc.length false).set s true, rfl, H6, (by first | assumption | omega | simp), (by exact RwI.start (by omega)), rfl⟩ ?_
    rintro m2 Γ2 w5 ⟨k, q, rfl, H7, hk, hq, rfl⟩
    refine W.seq ?_
    refine W.seq ?_
    refine W.region ?_
    refine WL.op rfl (d_move rfl ?_)
    refine WL.op rfl (d_cmp (decide (((k : Nat) : Int) < (259 : Int))) rfl rfl rfl ?_)
    refine WL.done (X.then_code ?_)
    refine W.ite (p := ((k : Nat) : Int) < (259 : Int)) rfl (fun c46 => ?_) (fun c46 => ?_)
    · skip
      refine W.skip (X.then_code ?_)
      refine W.seq ?_
      refine W.block ?_
      have hcx := within_at hri.2.1 k (by omega)
      have hix := right_idx (q := (s : Int)) hrt (by omega) (by omega) hcx.1 hcx.2
      obtain ⟨x, hx, hxn⟩ : ∃ x : Nat, d.next.getD (((s : Nat) : Int) * d.width + d.cls.getD k 0).toNat 0 = (x : Int) ∧ x < d.acc.length := (by have h9 := within_at hri.2.2 (((s : Nat) : Int) * d.width + d.cls.getD k 0).toNat (by omega); exact ⟨(d.next.getD (((s : Nat) : Int) * d.width + d.cls.getD k 0).toNat 0).toNat, by omega, by omega⟩)
      have hql := hq.len
      refine W.regionD mixed (by kernel_rfl) fun hok1 w6 k1 => ?_
      have H8 : UpG w [] w6 [[blk w.heap.size #[.slice dca d.cls.length dcc, .int .i64 d.width, .int .i64 d.start, .slice dna d.next.length dnc, .slice dba d.acc.length dbc] 25], [manyF (inLR tyB 4).row Xs], [rowT tyLR (.slice oa Xs.length oc) 23 Xs], [rowT tyB (.slice (some ⟨w2.heap.size, 0, none⟩) ((List.replicate d.acc.length false).length) d.acc.length) 4 q]] := H7.kept k1
      refine WD.take hok1 0 (.slice (some ⟨w2.heap.size, 0, none⟩) ((List.replicate d.acc.length false).length) d.acc.length) (fun _ => True) rfl rfl rfl rfl rfl trivial (.inl ⟨rfl, fun _ _ => d_move rfl ⟨rfl, rfl⟩⟩) ?_
      refine WD.take hok1 1 (.pointer (some ⟨w.heap.size, 3, none⟩)) (fun _ => True) rfl rfl rfl rfl rfl trivial (.inl ⟨rfl, fun _ _ => d_fieldAddrB fld25_3 rfl rfl ⟨rfl, rfl⟩⟩) ?_
      refine WD.take hok1 2 (.slice dna d.next.length dnc) (fun w' => w'.heap[w.heap.size]? = some (.cells #[.slice dca d.cls.length dcc, .int .i64 d.width, .int .i64 d.start, .slice dna d.next.length dnc, .slice dba d.acc.length dbc] 25 (0, 0))) rfl rfl rfl rfl rfl (H8.blk 0 rfl) (.inl ⟨rfl, fun _ hC => d_loadB Try.underlying22 rfl rfl hC rfl ⟨rfl, rfl⟩⟩) ?_
      refine WD.take hok1 3 (.int .i64 ((s : Nat) : Int)) (fun _ => True) rfl rfl rfl rfl rfl trivial (.inl ⟨rfl, fun _ _ => d_move rfl ⟨rfl, rfl⟩⟩) ?_
      refine WD.take hok1 4 (.pointer (some ⟨w.heap.size, 1, none⟩)) (fun _ => True) rfl rfl rfl rfl rfl trivial (.inl ⟨rfl, fun _ _ => d_fieldAddrB fld25_1 rfl rfl ⟨rfl, rfl⟩⟩) ?_
      refine WD.take hok1 5 (.int .i64 d.width) (fun w' => w'.heap[w.heap.size]? = some (.cells #[.slice dca d.cls.length dcc, .int .i64 d.width, .int .i64 d.start, .slice dna d.next.length dnc, .slice dba d.acc.length dbc] 25 (0, 0))) rfl rfl rfl rfl rfl (H8.blk 0 rfl) (.inl ⟨rfl, fun _ hC => d_loadB Try.underlying3 rfl rfl hC rfl ⟨rfl, rfl⟩⟩) ?_
      refine WD.take hok1 6 (.int .i64 (((s : Nat) : Int) * d.width)) (fun _ => True) rfl rfl rfl rfl rfl trivial (.inl ⟨rfl, fun _ _ => d_mul rfl rfl (by omega) (by omega) ⟨rfl, rfl⟩⟩) ?_
      refine WD.take hok1 7 (.pointer (some ⟨w.heap.size, 0, none⟩)) (fun _ => True) rfl rfl rfl rfl rfl trivial (.inl ⟨rfl, fun _ _ => d_fieldAddrB fld25_0 rfl rfl ⟨rfl, rfl⟩⟩) ?_
      refine WD.take hok1 8 (.slice dca d.cls.length dcc) (fun w' => w'.heap[w.heap.size]? = some (.cells #[.slice dca d.cls.length dcc, .int .i64 d.width, .int .i64 d.start, .slice dna d.next.length dnc, .slice dba d.acc.length dbc] 25 (0, 0))) rfl rfl rfl rfl rfl (H8.blk 0 rfl) (.inl ⟨rfl, fun _ hC => d_loadB Try.underlying22 rfl rfl hC rfl ⟨rfl, rfl⟩⟩) ?_
      refine WD.take hok1 9 (.int .i64 ((k : Nat) : Int)) (fun _ => True) rfl rfl rfl rfl rfl trivial (.inl ⟨rfl, fun _ _ => d_move rfl ⟨rfl, rfl⟩⟩) ?_
      refine WD.take hok1 10 (elemPtr (.slice dca d.cls.length dcc) k) (fun w' => RdT (tyI .i64) w' (.slice dca d.cls.length dcc) d.cls) rfl rfl rfl rfl rfl (rcd.at H8) (.inl ⟨rfl, fun _ hC => t_addr1 k (T := (tyI .i64)) rfl Try.underlying22 sz3 rfl rfl hC (by omega) (by omega) ⟨rfl, rfl⟩⟩) ?_
      refine WD.take hok1 11 (.int .i64 (d.cls.getD k 0)) (fun w' => RdT (tyI .i64) w' (.slice dca d.cls.length dcc) d.cls) rfl rfl rfl rfl rfl (rcd.at H8) (.inl ⟨rfl, fun _ hC => t_load1 k 0 (T := (tyI .i64)) rfl Try.underlying3 rfl rfl hC (by omega) rfl ⟨rfl, rfl⟩⟩) ?_
      refine WD.take hok1 12 (.int .i64 ((((s : Nat) : Int) * d.width) + (d.cls.getD k 0))) (fun _ => True) rfl rfl rfl rfl rfl trivial (.inl ⟨rfl, fun _ _ => d_add rfl rfl (by omega) (by omega) ⟨rfl, rfl⟩⟩) ?_
      refine WD.take hok1 13 (elemPtr (.slice dna d.next.length dnc) (((((s : Nat) : Int) * d.width) + (d.cls.getD k 0)).toNat)) (fun w' => RdT (tyI .i64) w' (.slice dna d.next.length dnc) d.next) rfl rfl rfl rfl rfl (rnd.at H8) (.inl ⟨rfl, fun _ hC => t_addr1 (((((s : Nat) : Int) * d.width) + (d.cls.getD k 0)).toNat) (T := (tyI .i64)) rfl Try.underlying22 sz3 rfl rfl hC (by omega) (by omega) ⟨rfl, rfl⟩⟩) ?_
      refine WD.take hok1 14 (.int .i64 (d.next.getD (((((s : Nat) : Int) * d.width) + (d.cls.getD k 0)).toNat) 0)) (fun w' => RdT (tyI .i64) w' (.slice dna d.next.length dnc) d.next) rfl rfl rfl rfl rfl (rnd.at H8) (.inl ⟨rfl, fun _ hC => t_load1 (((((s : Nat) : Int) * d.width) + (d.cls.getD k 0)).toNat) 0 (T := (tyI .i64)) rfl Try.underlying3 rfl rfl hC (by omega) rfl ⟨rfl, rfl⟩⟩) ?_
      refine WD.take hok1 15 (elemPtr (.slice (some ⟨w2.heap.size, 0, none⟩) ((List.replicate d.acc.length false).length) d.acc.length) x) (fun w' => RdT tyB w' (.slice (some ⟨w2.heap.size, 0, none⟩) ((List.replicate d.acc.length false).length) d.acc.length) q) rfl rfl rfl rfl rfl (H8.rdT 3 rfl) (.inl ⟨rfl, fun _ hC => t_addr1 x (T := tyB) rfl Try.underlying23 sz4 rfl rfl hC (by omega) (by omega) ⟨rfl, rfl⟩⟩) ?_
      refine WD.loud hok1 16 rfl (⟨_, [], rfl, rfl, rfl, rfl, rfl, rfl, t_store1 x true (T := tyB) (e := 4) rfl sz4 rfl rfl rfl (H8.ownT 3 rfl) (by omega) fun w7 u4 => ?_⟩)
      have H9 : UpG w [] w7 [[blk w.heap.size #[.slice dca d.cls.length dcc, .int .i64 d.width, .int .i64 d.start, .slice dna d.next.length dnc, .slice dba d.acc.length dbc] 25], [manyF (inLR tyB 4).row Xs], [rowT tyLR (.slice oa Xs.length oc) 23 Xs], [rowT tyB (.slice (some ⟨w2.heap.size, 0, none⟩) ((List.replicate d.acc.length false).length) d.acc.length) 4 (q.set x true)]] := H8.on 3 rfl u4
      refine ⟨trivial, ?_⟩
      refine WD.done hok1 rfl (X.block_normal (X.then_code ?_))
      refine W.region ?_
      refine WL.op rfl (d_move rfl ?_)
      refine WL.op rfl (d_add rfl rfl (by omega) (by omega) ?_)
      refine WL.op rfl (d_assign rfl ?_)
      refine WL.done ?_
      exact X.next [7, 6, 5, 4, 3, 2, 1] (Γ' := [(7, .int .i64 (((k + 1) : Nat) : Int)), (6, .slice (some ⟨w2.heap.size, 0, none⟩) ((List.replicate d.acc.length false).length) d.acc.length), (5, .int .i64 ((s : Nat) : Int)), (4, .slice oa Xs.length oc), (3, .int .i64 ((d.acc.length : Nat) : Int)), (2, .slice none 0 0), (1, .pointer (some ⟨w.heap.size, 0, none⟩))]) rfl (259 - (k + 1)) (by omega) ⟨k + 1, q.set x true, rfl, H9, (by first | assumption | omega | simp), (by exact hq.step hx hxn), rfl⟩
    · skip
      refine W.exit (X.then_exit (X.then_exit (X.block_exit (X.then_code ?_))))
      refine W.region ?_
      refine WL.op rfl (d_move rfl ?_)
      refine WL.op rfl (d_move rfl ?_)
      refine WL.op rfl (t_buildSlice (T := tyLR) (xs := ([⟨(some ⟨w2.heap.size, 0, none⟩), (List.replicate d.acc.length false).length, d.acc.length, q⟩] : List (LR Bool))) (cs := #[.slice (some ⟨w2.heap.size, 0, none⟩) ((List.replicate d.acc.length false).length) d.acc.length]) rfl Try.underlying29 sz23 rfl rfl rfl rfl (by kernel_rfl) rfl rfl fun w8 u5 => ?_)
      have H10 : UpG w [] w8 [[blk w.heap.size #[.slice dca d.cls.length dcc, .int .i64 d.width, .int .i64 d.start, .slice dna d.next.length dnc, .slice dba d.acc.length dbc] 25], [manyF (inLR tyB 4).row Xs], [rowT tyLR (.slice oa Xs.length oc) 23 Xs], [rowT tyB (.slice (some ⟨w2.heap.size, 0, none⟩) ((List.replicate d.acc.length false).length) d.acc.length) 4 q], [rowT tyLR (.slice (some ⟨w5.heap.size, 0, none⟩) (([⟨(some ⟨w2.heap.size, 0, none⟩), (List.replicate d.acc.length false).length, d.acc.length, q⟩] : List (LR Bool)).length) (([⟨(some ⟨w2.heap.size, 0, none⟩), (List.replicate d.acc.length false).length, d.acc.length, q⟩] : List (LR Bool)).length)) 23 ([⟨(some ⟨w2.heap.size, 0, none⟩), (List.replicate d.acc.length false).length, d.acc.length, q⟩] : List (LR Bool))]] := H7.new' u5
      refine WL.op rfl (t_append (T := tyLR) (xs := Xs) (ys := ([⟨(some ⟨w2.heap.size, 0, none⟩), (List.replicate d.acc.length false).length, d.acc.length, q⟩] : List (LR Bool))) rfl Try.underlying29 sz23 rfl rfl rfl (H10.ownT 2 rfl) (H10.rdT 4 rfl) (by simp only [List.length_singleton]; omega) (by simp only [List.length_singleton]; omega) fun a1 c1 w9 u6 => ?_)
      have H11 : UpG w [] w9 [[blk w.heap.size #[.slice dca d.cls.length dcc, .int .i64 d.width, .int .i64 d.start, .slice dna d.next.length dnc, .slice dba d.acc.length dbc] 25], [manyF (inLR tyB 4).row Xs], [rowT tyLR (.slice a1 ((Xs ++ ([⟨(some ⟨w2.heap.size, 0, none⟩), (List.replicate d.acc.length false).length, d.acc.length, q⟩] : List (LR Bool))).length) c1) 23 (Xs ++ ([⟨(some ⟨w2.heap.size, 0, none⟩), (List.replicate d.acc.length false).length, d.acc.length, q⟩] : List (LR Bool)))], [rowT tyB (.slice (some ⟨w2.heap.size, 0, none⟩) ((List.replicate d.acc.length false).length) d.acc.length) 4 q], []] := (H10.on 2 rfl u6).drop 4
      have H12 : UpG w [] w9 [[blk w.heap.size #[.slice dca d.cls.length dcc, .int .i64 d.width, .int .i64 d.start, .slice dna d.next.length dnc, .slice dba d.acc.length dbc] 25], [manyF (inLR tyB 4).row (Xs ++ [⟨(some ⟨w2.heap.size, 0, none⟩), (List.replicate d.acc.length false).length, d.acc.length, q⟩])], [rowT tyLR (.slice a1 ((Xs ++ ([⟨(some ⟨w2.heap.size, 0, none⟩), (List.replicate d.acc.length false).length, d.acc.length, q⟩] : List (LR Bool))).length) c1) 23 (Xs ++ ([⟨(some ⟨w2.heap.size, 0, none⟩), (List.replicate d.acc.length false).length, d.acc.length, q⟩] : List (LR Bool)))], [], []] := (UpG.absorb (f := (inLR tyB 4).row) (⟨(some ⟨w2.heap.size, 0, none⟩), (List.replicate d.acc.length false).length, d.acc.length, q⟩ : (LR Bool)) H11 1 3 rfl rfl rfl).re rfl
      refine WL.op rfl (d_assign rfl ?_)
      refine WL.done (X.block_normal (X.then_code ?_))
      refine W.region ?_
      refine WL.op rfl (d_move rfl ?_)
      refine WL.op rfl (d_add rfl rfl (by omega) (by omega) ?_)
      refine WL.op rfl (d_assign rfl ?_)
      refine WL.done ?_
      exact X.next [5, 4, 3, 2, 1] (Γ' := [(5, .int .i64 (((s + 1) : Nat) : Int)), (4, .slice a1 ((Xs ++ ([⟨(some ⟨w2.heap.size, 0, none⟩), (List.replicate d.acc.length false).length, d.acc.length, q⟩] : List (LR Bool))).length) c1), (3, .int .i64 ((d.acc.length : Nat) : Int)), (2, .slice none 0 0), (1, .pointer (some ⟨w.heap.size, 0, none⟩))]) rfl (d.acc.length - (s + 1)) (by omega) ⟨s + 1, Xs ++ ([⟨(some ⟨w2.heap.size, 0, none⟩), (List.replicate d.acc.length false).length, d.acc.length, q⟩] : List (LR Bool)), a1, c1, rfl, (H12.re rfl), (by first | assumption | omega | simp), (by exact hX.step hq (by omega)), rfl⟩
  · skip
    refine W.exit (X.then_exit (X.then_exit (X.block_exit (X.then_code ?_))))
    refine W.seq ?_
    refine W.seq ?_
    refine W.region ?_
    refine WL.op rfl (d_assign rfl ?_)
    refine WL.done (X.then_code ?_)
    refine W.block ?_
    refine W.pick [8, 4, 3, 2] (Γ' := [(8, .int .i64 0), (4, .slice oa Xs.length oc), (3, .int .i64 ((d.acc.length : Nat) : Int)), (2, .slice none 0 0)]) rfl ?_
    refine W.loop (fun m Γ' w' => ∃ mm : Nat, ∃ Y : List (LR Bool), Γ' = [(8, .int .i64 ((mm : Nat) : Int)), (4, .slice oa Xs.length oc), (3, .int .i64 ((d.acc.length : Nat) : Int)), (2, .slice none 0 0)] ∧ UpG w [] w' [[blk w.heap.size #[.slice dca d.cls.length dcc, .int .i64 d.width, .int .i64 d.start, .slice dna d.next.length dnc, .slice dba d.acc.length dbc] 25], [manyF (inLR tyB 4).row Y], [rowT tyLR (.slice oa Xs.length oc) 23 Y]] ∧ (mm ≤ d.acc.length) ∧ (CmI d Y mm 0 0) ∧ m = d.acc.length - mm) (d.acc.length - 0) ⟨0, Xs, rfl, H4, (by first | assumption | omega | simp), (by exact hX.done (by omega)), rfl⟩ ?_
    rintro m3 Γ3 w10 ⟨mm, Y, rfl, H13, hm, hY, rfl⟩
    refine W.seq ?_
    refine W.seq ?_
    refine W.region ?_
    refine WL.op rfl (d_move rfl ?_)
    refine WL.op rfl (d_move rfl ?_)
    refine WL.op rfl (d_cmp (decide (((mm : Nat) : Int) < ((d.acc.length : Nat) : Int))) rfl rfl rfl ?_)
    refine WL.done (X.then_code ?_)
    refine W.ite (p := ((mm : Nat) : Int) < ((d.acc.length : Nat) : Int)) rfl (fun c51 => ?_) (fun c51 => ?_)
    · skip
      refine W.skip (X.then_code ?_)
      refine W.seq ?_
      refine W.block ?_
      refine W.seq ?_
      refine W.region ?_
      refine WL.op rfl (d_assign rfl ?_)
      refine WL.done (X.then_code ?_)
      refine W.block ?_
      refine W.pick [9, 8, 4, 3, 2] (Γ' := [(9, .int .i64 0), (8, .int .i64 ((mm : Nat) : Int)), (4, .slice oa Xs.length oc), (3, .int .i64 ((d.acc.length : Nat) : Int)), (2, .slice none 0 0)]) rfl ?_
      refine W.loop (fun m Γ' w' => ∃ i : Nat, ∃ Z : List (LR Bool), Γ' = [(9, .int .i64 ((i : Nat) : Int)), (8, .int .i64 ((mm : Nat) : Int)), (4, .slice oa Xs.length oc), (3, .int .i64 ((d.acc.length : Nat) : Int)), (2, .slice none 0 0)] ∧ UpG w [] w' [[blk w.heap.size #[.slice dca d.cls.length dcc, .int .i64 d.width, .int .i64 d.start, .slice dna d.next.length dnc, .slice dba d.acc.length dbc] 25], [manyF (inLR tyB 4).row Z], [rowT tyLR (.slice oa Xs.length oc) 23 Z]] ∧ (i ≤ d.acc.length) ∧ (CmI d Z mm i 0) ∧ m = d.acc.length - i) (d.acc.length - 0) ⟨0, Y, rfl, H13, (by first | assumption | omega | simp), (by exact hY), rfl⟩ ?_
      rintro m4 Γ4 w11 ⟨i, Z, rfl, H14, hi, hZ, rfl⟩
      refine W.seq ?_
      refine W.seq ?_
      refine W.region ?_
      refine WL.op rfl (d_move rfl ?_)
      refine WL.op rfl (d_move rfl ?_)
      refine WL.op rfl (d_cmp (decide (((i : Nat) : Int) < ((d.acc.length : Nat) : Int))) rfl rfl rfl ?_)
      refine WL.done (X.then_code ?_)
      refine W.ite (p := ((i : Nat) : Int) < ((d.acc.length : Nat) : Int)) rfl (fun c52 => ?_) (fun c52 => ?_)
      · skip
        refine W.skip (X.then_code ?_)
        refine W.seq ?_
        refine W.block ?_
        refine W.seq ?_
        refine W.region ?_
        refine WL.op rfl (d_assign rfl ?_)
        refine WL.done (X.then_code ?_)
        refine W.block ?_
        refine W.pick [10, 9, 8, 4, 3, 2] (Γ' := [(10, .int .i64 0), (9, .int .i64 ((i : Nat) : Int)), (8, .int .i64 ((mm : Nat) : Int)), (4, .slice oa Xs.length oc), (3, .int .i64 ((d.acc.length : Nat) : Int)), (2, .slice none 0 0)]) rfl ?_
        refine W.loop (fun m Γ' w' => ∃ k : Nat, ∃ U : List (LR Bool), Γ' = [(10, .int .i64 ((k : Nat) : Int)), (9, .int .i64 ((i : Nat) : Int)), (8, .int .i64 ((mm : Nat) : Int)), (4, .slice oa Xs.length oc), (3, .int .i64 ((d.acc.length : Nat) : Int)), (2, .slice none 0 0)] ∧ UpG w [] w' [[blk w.heap.size #[.slice dca d.cls.length dcc, .int .i64 d.width, .int .i64 d.start, .slice dna d.next.length dnc, .slice dba d.acc.length dbc] 25], [manyF (inLR tyB 4).row U], [rowT tyLR (.slice oa Xs.length oc) 23 U]] ∧ (k ≤ d.acc.length) ∧ (CmI d U mm i k) ∧ m = d.acc.length - k) (d.acc.length - 0) ⟨0, Z, rfl, H14, (by first | assumption | omega | simp), (by exact hZ), rfl⟩ ?_
        rintro m5 Γ5 w12 ⟨k_1, U, rfl, H15, hku, hU, rfl⟩
        have hri1 := hU.row i (by omega)
        have hri2 := hU.row mm (by omega)
        have hUl := hU.len
        refine W.seq ?_
        refine W.seq ?_
        refine W.region ?_
        refine WL.op rfl (d_move rfl ?_)
        refine WL.op rfl (d_move rfl ?_)
        refine WL.op rfl (d_cmp (decide (((k_1 : Nat) : Int) < ((d.acc.length : Nat) : Int))) rfl rfl rfl ?_)
        refine WL.op rfl (d_move rfl ?_)
        refine WL.part 61 (p := ((k_1 : Nat) : Int) < ((d.acc.length : Nat) : Int)) rfl (fun g53 => ?_) (fun g53 => ?_)
        · skip
          refine WL.opG rfl rfl rfl (d_move rfl ?_)
          refine WL.opG rfl rfl rfl (d_move rfl ?_)
          refine WL.opG rfl rfl rfl (t_addr1 i (T := tyLR) rfl Try.underlying29 sz23 rfl rfl (H15.rdT 2 rfl) rfl (by omega) ?_)
          refine WL.opG rfl rfl rfl (t_load1 i lr0 (T := tyLR) rfl Try.underlying23 rfl rfl (H15.rdT 2 rfl) (by omega) rfl ?_)
          refine WL.opG rfl rfl rfl (d_move rfl ?_)
          refine WL.opG rfl rfl rfl (t_addr1 mm (T := tyB) rfl Try.underlying23 sz4 rfl rfl (show RdT tyB w12 (.slice ((U.getD i lr0).a) ((U.getD i lr0).n) ((U.getD i lr0).c)) ((U.getD i lr0).xs) from (Inn.own (H15.hpOf 1 rfl)).get lr0 i (by omega)) rfl (by omega) ?_)
          refine WL.opG rfl rfl rfl (t_load1 mm false (T := tyB) rfl Try.underlying4 rfl rfl (show RdT tyB w12 (.slice ((U.getD i lr0).a) ((U.getD i lr0).n) ((U.getD i lr0).c)) ((U.getD i lr0).xs) from (Inn.own (H15.hpOf 1 rfl)).get lr0 i (by omega)) (by omega) rfl ?_)
          refine WL.op rfl (d_pick rfl rfl ?_)
          refine WL.done (X.then_code ?_)
          refine W.iteB (b := ((U.getD i lr0).xs).getD mm false) rfl (fun c53 => ?_) (fun c53 => ?_)
          · skip
            refine W.skip (X.then_code ?_)
            refine W.seq ?_
            refine W.block ?_
            refine W.regionD mixed (by kernel_rfl) fun hok2 w13 k2 => ?_
            have H16 : UpG w [] w13 [[blk w.heap.size #[.slice dca d.cls.length dcc, .int .i64 d.width, .int .i64 d.start, .slice dna d.next.length dnc, .slice dba d.acc.length dbc] 25], [manyF (inLR tyB 4).row U], [rowT tyLR (.slice oa Xs.length oc) 23 U]] := H15.kept k2
            refine WD.take hok2 0 (.slice oa Xs.length oc) (fun _ => True) rfl rfl rfl rfl rfl trivial (.inl ⟨rfl, fun _ _ => d_move rfl ⟨rfl, rfl⟩⟩) ?_
            refine WD.take hok2 1 (.int .i64 ((i : Nat) : Int)) (fun _ => True) rfl rfl rfl rfl rfl trivial (.inl ⟨rfl, fun _ _ => d_move rfl ⟨rfl, rfl⟩⟩) ?_
            refine WD.take hok2 2 (elemPtr (.slice oa Xs.length oc) i) (fun w' => RdT tyLR w' (.slice oa Xs.length oc) U) rfl rfl rfl rfl rfl (H16.rdT 2 rfl) (.inl ⟨rfl, fun _ hC => t_addr1 i (T := tyLR) rfl Try.underlying29 sz23 rfl rfl hC rfl (by omega) ⟨rfl, rfl⟩⟩) ?_
            refine WD.take hok2 3 (.slice ((U.getD i lr0).a) ((U.getD i lr0).n) ((U.getD i lr0).c)) (fun w' => RdT tyLR w' (.slice oa Xs.length oc) U) rfl rfl rfl rfl rfl (H16.rdT 2 rfl) (.inl ⟨rfl, fun _ hC => t_load1 i lr0 (T := tyLR) rfl Try.underlying23 rfl rfl hC (by omega) rfl ⟨rfl, rfl⟩⟩) ?_
            refine WD.take hok2 4 (.int .i64 ((k_1 : Nat) : Int)) (fun _ => True) rfl rfl rfl rfl rfl trivial (.inl ⟨rfl, fun _ _ => d_move rfl ⟨rfl, rfl⟩⟩) ?_
            refine WD.take hok2 5 (.slice oa Xs.length oc) (fun _ => True) rfl rfl rfl rfl rfl trivial (.inl ⟨rfl, fun _ _ => d_move rfl ⟨rfl, rfl⟩⟩) ?_
            refine WD.take hok2 6 (.int .i64 ((i : Nat) : Int)) (fun _ => True) rfl rfl rfl rfl rfl trivial (.inl ⟨rfl, fun _ _ => d_move rfl ⟨rfl, rfl⟩⟩) ?_
            refine WD.take hok2 7 (elemPtr (.slice oa Xs.length oc) i) (fun w' => RdT tyLR w' (.slice oa Xs.length oc) U) rfl rfl rfl rfl rfl (H16.rdT 2 rfl) (.inl ⟨rfl, fun _ hC => t_addr1 i (T := tyLR) rfl Try.underlying29 sz23 rfl rfl hC rfl (by omega) ⟨rfl, rfl⟩⟩) ?_
            refine WD.take hok2 8 (.slice ((U.getD i lr0).a) ((U.getD i lr0).n) ((U.getD i lr0).c)) (fun w' => RdT tyLR w' (.slice oa Xs.length oc) U) rfl rfl rfl rfl rfl (H16.rdT 2 rfl) (.inl ⟨rfl, fun _ hC => t_load1 i lr0 (T := tyLR) rfl Try.underlying23 rfl rfl hC (by omega) rfl ⟨rfl, rfl⟩⟩) ?_
            refine WD.take hok2 9 (.int .i64 ((k_1 : Nat) : Int)) (fun _ => True) rfl rfl rfl rfl rfl trivial (.inl ⟨rfl, fun _ _ => d_move rfl ⟨rfl, rfl⟩⟩) ?_
            refine WD.take hok2 10 (elemPtr (.slice ((U.getD i lr0).a) ((U.getD i lr0).n) ((U.getD i lr0).c)) k_1) (fun w' => RdT tyB w' (.slice ((U.getD i lr0).a) ((U.getD i lr0).n) ((U.getD i lr0).c)) ((U.getD i lr0).xs)) rfl rfl rfl rfl rfl (show RdT tyB w13 (.slice ((U.getD i lr0).a) ((U.getD i lr0).n) ((U.getD i lr0).c)) ((U.getD i lr0).xs) from (Inn.own (H16.hpOf 1 rfl)).get lr0 i (by omega)) (.inl ⟨rfl, fun _ hC => t_addr1 k_1 (T := tyB) rfl Try.underlying23 sz4 rfl rfl hC rfl (by omega) ⟨rfl, rfl⟩⟩) ?_
            refine WD.take hok2 11 (.bool (((U.getD i lr0).xs).getD k_1 false)) (fun w' => RdT tyB w' (.slice ((U.getD i lr0).a) ((U.getD i lr0).n) ((U.getD i lr0).c)) ((U.getD i lr0).xs)) rfl rfl rfl rfl rfl (show RdT tyB w13 (.slice ((U.getD i lr0).a) ((U.getD i lr0).n) ((U.getD i lr0).c)) ((U.getD i lr0).xs) from (Inn.own (H16.hpOf 1 rfl)).get lr0 i (by omega)) (.inl ⟨rfl, fun _ hC => t_load1 k_1 false (T := tyB) rfl Try.underlying4 rfl rfl hC (by omega) rfl ⟨rfl, rfl⟩⟩) ?_
            refine WD.take hok2 12 (.bool (((U.getD i lr0).xs).getD k_1 false)) (fun _ => True) rfl rfl rfl rfl rfl trivial (.inl ⟨rfl, fun _ _ => d_move rfl ⟨rfl, rfl⟩⟩) ?_
            refine WD.partB 84 (b := ((U.getD i lr0).xs).getD k_1 false) rfl (fun g54 => ?_) (fun g54 => ?_)
            · skip
              refine WD.take hok2 13 undef (fun _ => True) rfl rfl rfl rfl rfl trivial (.inr ⟨rfl, rfl⟩) ?_
              refine WD.take hok2 14 undef (fun _ => True) rfl rfl rfl rfl rfl trivial (.inr ⟨rfl, rfl⟩) ?_
              refine WD.take hok2 15 undef (fun _ => True) rfl rfl rfl rfl rfl trivial (.inr ⟨rfl, rfl⟩) ?_
              refine WD.take hok2 16 undef (fun _ => True) rfl rfl rfl rfl rfl trivial (.inr ⟨rfl, rfl⟩) ?_
              refine WD.take hok2 17 undef (fun _ => True) rfl rfl rfl rfl rfl trivial (.inr ⟨rfl, rfl⟩) ?_
              refine WD.take hok2 18 undef (fun _ => True) rfl rfl rfl rfl rfl trivial (.inr ⟨rfl, rfl⟩) ?_
              refine WD.take hok2 19 undef (fun _ => True) rfl rfl rfl rfl rfl trivial (.inr ⟨rfl, rfl⟩) ?_
              refine WD.take hok2 20 (.bool true) (fun _ => True) rfl rfl rfl rfl rfl trivial (.inl ⟨rfl, fun _ _ => d_pick rfl rfl ⟨rfl, rfl⟩⟩) ?_
              refine WD.take hok2 21 (elemPtr (.slice ((U.getD i lr0).a) ((U.getD i lr0).n) ((U.getD i lr0).c)) k_1) (fun w' => RdT tyB w' (.slice ((U.getD i lr0).a) ((U.getD i lr0).n) ((U.getD i lr0).c)) ((U.getD i lr0).xs)) rfl rfl rfl rfl rfl (show RdT tyB w13 (.slice ((U.getD i lr0).a) ((U.getD i lr0).n) ((U.getD i lr0).c)) ((U.getD i lr0).xs) from (Inn.own (H16.hpOf 1 rfl)).get lr0 i (by omega)) (.inl ⟨rfl, fun _ hC => t_addr1 k_1 (T := tyB) rfl Try.underlying23 sz4 rfl rfl hC rfl (by omega) ⟨rfl, rfl⟩⟩) ?_
              have H17 : UpG w [] w13 [[blk w.heap.size #[.slice dca d.cls.length dcc, .int .i64 d.width, .int .i64 d.start, .slice dna d.next.length dnc, .slice dba d.acc.length dbc] 25], [manyF (inLR tyB 4).row (U.eraseIdx i)], [rowT tyLR (.slice oa Xs.length oc) 23 U], [rowT tyB (.slice ((U.getD i lr0).a) ((U.getD i lr0).n) ((U.getD i lr0).c)) 4 ((U.getD i lr0).xs)]] := H16.takeOut (f := (inLR tyB 4).row) lr0 1 i rfl (by omega)
              refine WD.loud hok2 22 rfl (⟨_, [], rfl, rfl, rfl, rfl, rfl, rfl, t_store1 k_1 true (T := tyB) (e := 4) rfl sz4 rfl rfl rfl (H17.ownT 3 rfl) (by omega) fun w14 u7 => ?_⟩)
              have H18 : UpG w [] w14 [[blk w.heap.size #[.slice dca d.cls.length dcc, .int .i64 d.width, .int .i64 d.start, .slice dna d.next.length dnc, .slice dba d.acc.length dbc] 25], [manyF (inLR tyB 4).row (U.eraseIdx i)], [rowT tyLR (.slice oa Xs.length oc) 23 U], [rowT tyB (.slice ((U.getD i lr0).a) ((U.getD i lr0).n) ((U.getD i lr0).c)) 4 (((U.getD i lr0).xs).set k_1 true)]] := H17.on 3 rfl u7
              have H19 : UpG w [] w14 [[blk w.heap.size #[.slice dca d.cls.length dcc, .int .i64 d.width, .int .i64 d.start, .slice dna d.next.length dnc, .slice dba d.acc.length dbc] 25], [manyF (inLR tyB 4).row (U.set i ⟨(U.getD i lr0).a, (U.getD i lr0).n, (U.getD i lr0).c, ((U.getD i lr0).xs).set k_1 true⟩)], [rowT tyLR (.slice oa Xs.length oc) 23 U], []] := (H18.putBack (f := (inLR tyB 4).row) ⟨(U.getD i lr0).a, (U.getD i lr0).n, (U.getD i lr0).c, ((U.getD i lr0).xs).set k_1 true⟩ 1 3 i rfl rfl rfl (by omega)).re rfl
              have H20 : UpG w [] w14 [[blk w.heap.size #[.slice dca d.cls.length dcc, .int .i64 d.width, .int .i64 d.start, .slice dna d.next.length dnc, .slice dba d.acc.length dbc] 25], [manyF (inLR tyB 4).row (U.set i ⟨(U.getD i lr0).a, (U.getD i lr0).n, (U.getD i lr0).c, ((U.getD i lr0).xs).set k_1 true⟩)], [rowT tyLR (.slice oa Xs.length oc) 23 (U.set i ⟨(U.getD i lr0).a, (U.getD i lr0).n, (U.getD i lr0).c, ((U.getD i lr0).xs).set k_1 true⟩)], []] := H19.recast (((U.getD i lr0).xs).set k_1 true) 2 i rfl (by omega)
              refine ⟨trivial, ?_⟩
              refine WD.done hok2 rfl (X.block_normal (X.then_code ?_))
              refine W.pick [91, 90, 89, 88, 87, 86, 85, 68, 67, 66, 65, 64, 63, 62, 10, 9, 8, 4, 3, 2] (Γ' := [(91, undef), (90, undef), (89, undef), (88, undef), (87, undef), (86, undef), (85, undef), (68, .bool (((U.getD i lr0).xs).getD mm false)), (67, elemPtr (.slice ((U.getD i lr0).a) ((U.getD i lr0).n) ((U.getD i lr0).c)) mm), (66, .int .i64 ((mm : Nat) : Int)), (65, .slice ((U.getD i lr0).a) ((U.getD i lr0).n) ((U.getD i lr0).c)), (64, elemPtr (.slice oa Xs.length oc) i), (63, .int .i64 ((i : Nat) : Int)), (62, .slice oa Xs.length oc), (10, .int .i64 ((k_1 : Nat) : Int)), (9, .int .i64 ((i : Nat) : Int)), (8, .int .i64 ((mm : Nat) : Int)), (4, .slice oa Xs.length oc), (3, .int .i64 ((d.acc.length : Nat) : Int)), (2, .slice none 0 0)]) rfl ?_
              refine W.region ?_
              refine WL.op rfl (d_move rfl ?_)
              refine WL.op rfl (d_add rfl rfl (by omega) (by omega) ?_)
              refine WL.op rfl (d_assign rfl ?_)
              refine WL.done ?_
              exact X.next [10, 9, 8, 4, 3, 2] (Γ' := [(10, .int .i64 (((k_1 + 1) : Nat) : Int)), (9, .int .i64 ((i : Nat) : Int)), (8, .int .i64 ((mm : Nat) : Int)), (4, .slice oa Xs.length oc), (3, .int .i64 ((d.acc.length : Nat) : Int)), (2, .slice none 0 0)]) rfl (d.acc.length - (k_1 + 1)) (by omega) ⟨k_1 + 1, U.set i ⟨(U.getD i lr0).a, (U.getD i lr0).n, (U.getD i lr0).c, ((U.getD i lr0).xs).set k_1 true⟩, rfl, (H20.re rfl), (by first | assumption | omega | simp), (by first | exact hU.step (by omega) (by omega) (by omega) c53 (by unfold cellB; rw [g54]; rfl) | exact hU.step (by omega) (by omega) (by omega) c53 (by unfold cellB; rw [Bool.eq_false_iff.2 g54]; rfl)), rfl⟩
            · skip
              refine WD.take hok2 13 (.slice oa Xs.length oc) (fun _ => True) rfl rfl rfl rfl rfl trivial (.inl ⟨rfl, fun _ _ => d_move rfl ⟨rfl, rfl⟩⟩) ?_
              refine WD.take hok2 14 (.int .i64 ((mm : Nat) : Int)) (fun _ => True) rfl rfl rfl rfl rfl trivial (.inl ⟨rfl, fun _ _ => d_move rfl ⟨rfl, rfl⟩⟩) ?_
              refine WD.take hok2 15 (elemPtr (.slice oa Xs.length oc) mm) (fun w' => RdT tyLR w' (.slice oa Xs.length oc) U) rfl rfl rfl rfl rfl (H16.rdT 2 rfl) (.inl ⟨rfl, fun _ hC => t_addr1 mm (T := tyLR) rfl Try.underlying29 sz23 rfl rfl hC rfl (by omega) ⟨rfl, rfl⟩⟩) ?_
              refine WD.take hok2 16 (.slice ((U.getD mm lr0).a) ((U.getD mm lr0).n) ((U.getD mm lr0).c)) (fun w' => RdT tyLR w' (.slice oa Xs.length oc) U) rfl rfl rfl rfl rfl (H16.rdT 2 rfl) (.inl ⟨rfl, fun _ hC => t_load1 mm lr0 (T := tyLR) rfl Try.underlying23 rfl rfl hC (by omega) rfl ⟨rfl, rfl⟩⟩) ?_
              refine WD.take hok2 17 (.int .i64 ((k_1 : Nat) : Int)) (fun _ => True) rfl rfl rfl rfl rfl trivial (.inl ⟨rfl, fun _ _ => d_move rfl ⟨rfl, rfl⟩⟩) ?_
              refine WD.take hok2 18 (elemPtr (.slice ((U.getD mm lr0).a) ((U.getD mm lr0).n) ((U.getD mm lr0).c)) k_1) (fun w' => RdT tyB w' (.slice ((U.getD mm lr0).a) ((U.getD mm lr0).n) ((U.getD mm lr0).c)) ((U.getD mm lr0).xs)) rfl rfl rfl rfl rfl (show RdT tyB w13 (.slice ((U.getD mm lr0).a) ((U.getD mm lr0).n) ((U.getD mm lr0).c)) ((U.getD mm lr0).xs) from (Inn.own (H16.hpOf 1 rfl)).get lr0 mm (by omega)) (.inl ⟨rfl, fun _ hC => t_addr1 k_1 (T := tyB) rfl Try.underlying23 sz4 rfl rfl hC rfl (by omega) ⟨rfl, rfl⟩⟩) ?_
              refine WD.take hok2 19 (.bool (((U.getD mm lr0).xs).getD k_1 false)) (fun w' => RdT tyB w' (.slice ((U.getD mm lr0).a) ((U.getD mm lr0).n) ((U.getD mm lr0).c)) ((U.getD mm lr0).xs)) rfl rfl rfl rfl rfl (show RdT tyB w13 (.slice ((U.getD mm lr0).a) ((U.getD mm lr0).n) ((U.getD mm lr0).c)) ((U.getD mm lr0).xs) from (Inn.own (H16.hpOf 1 rfl)).get lr0 mm (by omega)) (.inl ⟨rfl, fun _ hC => t_load1 k_1 false (T := tyB) rfl Try.underlying4 rfl rfl hC (by omega) rfl ⟨rfl, rfl⟩⟩) ?_
              refine WD.take hok2 20 (.bool (((U.getD mm lr0).xs).getD k_1 false)) (fun _ => True) rfl rfl rfl rfl rfl trivial (.inl ⟨rfl, fun _ _ => d_pick rfl rfl ⟨rfl, rfl⟩⟩) ?_
              refine WD.take hok2 21 (elemPtr (.slice ((U.getD i lr0).a) ((U.getD i lr0).n) ((U.getD i lr0).c)) k_1) (fun w' => RdT tyB w' (.slice ((U.getD i lr0).a) ((U.getD i lr0).n) ((U.getD i lr0).c)) ((U.getD i lr0).xs)) rfl rfl rfl rfl rfl (show RdT tyB w13 (.slice ((U.getD i lr0).a) ((U.getD i lr0).n) ((U.getD i lr0).c)) ((U.getD i lr0).xs) from (Inn.own (H16.hpOf 1 rfl)).get lr0 i (by omega)) (.inl ⟨rfl, fun _ hC => t_addr1 k_1 (T := tyB) rfl Try.underlying23 sz4 rfl rfl hC rfl (by omega) ⟨rfl, rfl⟩⟩) ?_
              have H21 : UpG w [] w13 [[blk w.heap.size #[.slice dca d.cls.length dcc, .int .i64 d.width, .int .i64 d.start, .slice dna d.next.length dnc, .slice dba d.acc.length dbc] 25], [manyF (inLR tyB 4).row (U.eraseIdx i)], [rowT tyLR (.slice oa Xs.length oc) 23 U], [rowT tyB (.slice ((U.getD i lr0).a) ((U.getD i lr0).n) ((U.getD i lr0).c)) 4 ((U.getD i lr0).xs)]] := H16.takeOut (f := (inLR tyB 4).row) lr0 1 i rfl (by omega)
              refine WD.loud hok2 22 rfl (⟨_, [], rfl, rfl, rfl, rfl, rfl, rfl, t_store1 k_1 (((U.getD mm lr0).xs).getD k_1 false) (T := tyB) (e := 4) rfl sz4 rfl rfl rfl (H21.ownT 3 rfl) (by omega) fun w15 u8 => ?_⟩)
              have H22 : UpG w [] w15 [[blk w.heap.size #[.slice dca d.cls.length dcc, .int .i64 d.width, .int .i64 d.start, .slice dna d.next.length dnc, .slice dba d.acc.length dbc] 25], [manyF (inLR tyB 4).row (U.eraseIdx i)], [rowT tyLR (.slice oa Xs.length oc) 23 U], [rowT tyB (.slice ((U.getD i lr0).a) ((U.getD i lr0).n) ((U.getD i lr0).c)) 4 (((U.getD i lr0).xs).set k_1 (((U.getD mm lr0).xs).getD k_1 false))]] := H21.on 3 rfl u8
              have H23 : UpG w [] w15 [[blk w.heap.size #[.slice dca d.cls.length dcc, .int .i64 d.width, .int .i64 d.start, .slice dna d.next.length dnc, .slice dba d.acc.length dbc] 25], [manyF (inLR tyB 4).row (U.set i ⟨(U.getD i lr0).a, (U.getD i lr0).n, (U.getD i lr0).c, ((U.getD i lr0).xs).set k_1 (((U.getD mm lr0).xs).getD k_1 false)⟩)], [rowT tyLR (.slice oa Xs.length oc) 23 U], []] := (H22.putBack (f := (inLR tyB 4).row) ⟨(U.getD i lr0).a, (U.getD i lr0).n, (U.getD i lr0).c, ((U.getD i lr0).xs).set k_1 (((U.getD mm lr0).xs).getD k_1 false)⟩ 1 3 i rfl rfl rfl (by omega)).re rfl
              have H24 : UpG w [] w15 [[blk w.heap.size #[.slice dca d.cls.length dcc, .int .i64 d.width, .int .i64 d.start, .slice dna d.next.length dnc, .slice dba d.acc.length dbc] 25], [manyF (inLR tyB 4).row (U.set i ⟨(U.getD i lr0).a, (U.getD i lr0).n, (U.getD i lr0).c, ((U.getD i lr0).xs).set k_1 (((U.getD mm lr0).xs).getD k_1 false)⟩)], [rowT tyLR (.slice oa Xs.length oc) 23 (U.set i ⟨(U.getD i lr0).a, (U.getD i lr0).n, (U.getD i lr0).c, ((U.getD i lr0).xs).set k_1 (((U.getD mm lr0).xs).getD k_1 false)⟩)], []] := H23.recast (((U.getD i lr0).xs).set k_1 (((U.getD mm lr0).xs).getD k_1 false)) 2 i rfl (by omega)
              refine ⟨trivial, ?_⟩
              refine WD.done hok2 rfl (X.block_normal (X.then_code ?_))
              refine W.pick [91, 90, 89, 88, 87, 86, 85, 68, 67, 66, 65, 64, 63, 62, 10, 9, 8, 4, 3, 2] (Γ' := [(91, .bool (((U.getD mm lr0).xs).getD k_1 false)), (90, elemPtr (.slice ((U.getD mm lr0).a) ((U.getD mm lr0).n) ((U.getD mm lr0).c)) k_1), (89, .int .i64 ((k_1 : Nat) : Int)), (88, .slice ((U.getD mm lr0).a) ((U.getD mm lr0).n) ((U.getD mm lr0).c)), (87, elemPtr (.slice oa Xs.length oc) mm), (86, .int .i64 ((mm : Nat) : Int)), (85, .slice oa Xs.length oc), (68, .bool (((U.getD i lr0).xs).getD mm false)), (67, elemPtr (.slice ((U.getD i lr0).a) ((U.getD i lr0).n) ((U.getD i lr0).c)) mm), (66, .int .i64 ((mm : Nat) : Int)), (65, .slice ((U.getD i lr0).a) ((U.getD i lr0).n) ((U.getD i lr0).c)), (64, elemPtr (.slice oa Xs.length oc) i), (63, .int .i64 ((i : Nat) : Int)), (62, .slice oa Xs.length oc), (10, .int .i64 ((k_1 : Nat) : Int)), (9, .int .i64 ((i : Nat) : Int)), (8, .int .i64 ((mm : Nat) : Int)), (4, .slice oa Xs.length oc), (3, .int .i64 ((d.acc.length : Nat) : Int)), (2, .slice none 0 0)]) rfl ?_
              refine W.region ?_
              refine WL.op rfl (d_move rfl ?_)
              refine WL.op rfl (d_add rfl rfl (by omega) (by omega) ?_)
              refine WL.op rfl (d_assign rfl ?_)
              refine WL.done ?_
              exact X.next [10, 9, 8, 4, 3, 2] (Γ' := [(10, .int .i64 (((k_1 + 1) : Nat) : Int)), (9, .int .i64 ((i : Nat) : Int)), (8, .int .i64 ((mm : Nat) : Int)), (4, .slice oa Xs.length oc), (3, .int .i64 ((d.acc.length : Nat) : Int)), (2, .slice none 0 0)]) rfl (d.acc.length - (k_1 + 1)) (by omega) ⟨k_1 + 1, U.set i ⟨(U.getD i lr0).a, (U.getD i lr0).n, (U.getD i lr0).c, ((U.getD i lr0).xs).set k_1 (((U.getD mm lr0).xs).getD k_1 false)⟩, rfl, (H24.re rfl), (by first | assumption | omega | simp), (by first | exact hU.step (by omega) (by omega) (by omega) c53 (by unfold cellB; rw [g54]; rfl) | exact hU.step (by omega) (by omega) (by omega) c53 (by unfold cellB; rw [Bool.eq_false_iff.2 g54]; rfl)), rfl⟩
          · skip
            refine W.exit (X.then_exit (X.then_exit (X.block_exit (X.block_normal (X.then_code ?_)))))
            refine W.region ?_
            refine WL.op rfl (d_move rfl ?_)
            refine WL.op rfl (d_add rfl rfl (by omega) (by omega) ?_)
            refine WL.op rfl (d_assign rfl ?_)
            refine WL.done ?_
            exact X.next [9, 8, 4, 3, 2] (Γ' := [(9, .int .i64 (((i + 1) : Nat) : Int)), (8, .int .i64 ((mm : Nat) : Int)), (4, .slice oa Xs.length oc), (3, .int .i64 ((d.acc.length : Nat) : Int)), (2, .slice none 0 0)]) rfl (d.acc.length - (i + 1)) (by omega) ⟨i + 1, U, rfl, H15, (by first | assumption | omega | simp), (by first | exact hU.rowDone (by omega) (by omega) (.inl (by omega)) | exact hU.rowDone (by omega) (by omega) (.inr c53)), rfl⟩
        · skip
          refine WL.opN rfl rfl rfl rfl ?_
          refine WL.opN rfl rfl rfl rfl ?_
          refine WL.opN rfl rfl rfl rfl ?_
          refine WL.opN rfl rfl rfl rfl ?_
          refine WL.opN rfl rfl rfl rfl ?_
          refine WL.opN rfl rfl rfl rfl ?_
          refine WL.opN rfl rfl rfl rfl ?_
          refine WL.op rfl (d_pick rfl rfl ?_)
          refine WL.done (X.then_code ?_)
          refine W.iff rfl ?_
          refine W.exit (X.then_exit (X.then_exit (X.block_exit (X.block_normal (X.then_code ?_)))))
          refine W.region ?_
          refine WL.op rfl (d_move rfl ?_)
          refine WL.op rfl (d_add rfl rfl (by omega) (by omega) ?_)
          refine WL.op rfl (d_assign rfl ?_)
          refine WL.done ?_
          exact X.next [9, 8, 4, 3, 2] (Γ' := [(9, .int .i64 (((i + 1) : Nat) : Int)), (8, .int .i64 ((mm : Nat) : Int)), (4, .slice oa Xs.length oc), (3, .int .i64 ((d.acc.length : Nat) : Int)), (2, .slice none 0 0)]) rfl (d.acc.length - (i + 1)) (by omega) ⟨i + 1, U, rfl, H15, (by first | assumption | omega | simp), (by first | exact hU.rowDone (by omega) (by omega) (.inl (by omega)) | exact hU.rowDone (by omega) (by omega) (.inr c53)), rfl⟩
      · skip
        refine W.exit (X.then_exit (X.then_exit (X.block_exit (X.block_normal (X.then_code ?_)))))
        refine W.region ?_
        refine WL.op rfl (d_move rfl ?_)
        refine WL.op rfl (d_add rfl rfl (by omega) (by omega) ?_)
        refine WL.op rfl (d_assign rfl ?_)
        refine WL.done ?_
        exact X.next [8, 4, 3, 2] (Γ' := [(8, .int .i64 (((mm + 1) : Nat) : Int)), (4, .slice oa Xs.length oc), (3, .int .i64 ((d.acc.length : Nat) : Int)), (2, .slice none 0 0)]) rfl (d.acc.length - (mm + 1)) (by omega) ⟨mm + 1, Z, rfl, H14, (by first | assumption | omega | simp), (by exact hZ.allDone (by omega)), rfl⟩
    · skip
      refine W.exit (X.then_exit (X.then_exit (X.block_exit (X.then_code ?_))))
      refine W.seq ?_
      refine W.region ?_
      refine WL.op rfl (d_move rfl ?_)
      refine WL.op rfl (d_assign rfl ?_)
      refine WL.done (X.then_code ?_)
      refine W.ret (X.ret1 rfl rfl ?_)
      exact ⟨oa, Y, Xs.length, oc, rfl, (Upd.sel H13 (l := [2, 1]) rfl rfl), hY.fin hrt (by omega), (by omega)⟩
end Go.Proofs.Ytoeockpkkmgieaa


/- What the laws of least automata ask: the law's own automaton; one whose states are numbered otherwise. Conditions: those of each theorem. -/
namespace Go.Proofs.Ytoeockpkkmgieaa
open Go Go.Sx
set_option linter.unusedVariables false
set_option linter.unusedSimpArgs false
def twoD : DfaD := ⟨List.replicate 259 0, 1, 0, [1, 0], [true, true]⟩
theorem two_right : rightB twoD = true := by decide +kernel
theorem two_all {s : Int} (hs : 0 ≤ s ∧ s < (twoD.acc.length : Int)) (w : List Int) (hw : okW w) : accAt twoD s w = true := by
  have h := fold_rng two_right w s hs hw
  have hl : twoD.acc.length = 2 := rfl
  unfold accAt
  rcases (by omega : (w.foldl (stepD twoD) s).toNat = 0 ∨ (w.foldl (stepD twoD) s).toNat = 1) with e | e <;> rw [e] <;> rfl
theorem two_leq {s t : Int} (hs : 0 ≤ s ∧ s < (twoD.acc.length : Int)) (ht : 0 ≤ t ∧ t < (twoD.acc.length : Int)) : LEq twoD s twoD t := fun w hw => by rw [two_all hs w hw, two_all ht w hw]
theorem two_least : leastE twoD = 0 ∧ (leastO twoD).acc.length = 1 ∧ (leastO twoD).acc.getD 0 false = true ∧ (leastO twoD).width = 1 ∧ (leastO twoD).cls.length = 259 := by
  have hr := two_right
  obtain ⟨e1, e2⟩ := leastO_right hr
  have hI := numD_I hr
  have hl := leastD_len hr
  rw [e1]
  have h1 : (leastD twoD).acc.length = 1 := by
    refine Classical.byContradiction fun hn => ?_
    have h2 : 1 < (numD twoD).1.length := by rw [← hl.1]; omega
    exact hI.nd 0 1 (by omega) h2 (two_leq (hI.rng 0 (by omega)).1 (hI.rng 1 h2).1)
  have hs : symF twoD = List.replicate 259 0 := by
    have hq := symF_q twoD
    have hsl := hq.len
    refine list_eq_of (d := 0) (by rw [hq.len, List.length_replicate]) fun i hi => ?_
    rw [hq.len] at hi
    have h2 := hq.val i hi
    rw [rep_get hi]
    refine Classical.byContradiction fun hn => h2.2.2.2 0 (by omega) fun s hs ht => ?_
    exact two_leq (stepD_bd' hr (by omega) (by omega) (by omega)) (stepD_bd' hr (by omega) (by omega) (by omega))
  refine ⟨e2, h1, ?_, ?_, ?_⟩
  · have h2 := leastD_accAt hr [] 0 (by rw [← hl.1]; omega) (fun c hc => by simp at hc)
    have h3 : (leastD twoD).acc.getD ((0 : Nat) : Int).toNat false = accAt twoD ((numD twoD).1.getD 0 0) [] := h2
    rw [two_all (hI.rng 0 (by omega)).1 [] (fun c hc => by simp at hc)] at h3
    exact h3
  · show ((dd (symF twoD)).length : Int) = 1
    rw [hs]; decide +kernel
  · show (numL (symF twoD)).length = 259
    rw [numL_len, (symF_q twoD).len]
/-! ### Numbers turned -/
def atN (s : Nat) (turn : Int) (n : Nat) : Nat := (s + turn.toNat) % n
def baN (q : Nat) (turn : Int) (n : Nat) : Nat := (q + (n - turn.toNat % n)) % n
theorem atN_lt {s n : Nat} {turn : Int} (hn : 0 < n) : atN s turn n < n := Nat.mod_lt _ hn
theorem turn_mod {q t n : Nat} (hq : q < n) : (q + (n - t % n) + t) % n = q := by
  have h1 := Nat.div_add_mod t n
  have h2 := Nat.mod_lt t (show 0 < n by omega)
  have e : q + (n - t % n) + t = q + n * (t / n + 1) := by rw [Nat.mul_add, Nat.mul_one]; omega
  rw [e, Nat.add_mul_mod_self_left, Nat.mod_eq_of_lt hq]
theorem ba_at {s n : Nat} {turn : Int} (hs : s < n) : baN (atN s turn n) turn n = s := by
  unfold baN atN
  rw [Nat.mod_add_mod, show s + turn.toNat + (n - turn.toNat % n) = s + (n - turn.toNat % n) + turn.toNat by omega, turn_mod hs]
theorem at_inj {i j n : Nat} {turn : Int} (hi : i < n) (hj : j < n) (h : atN i turn n = atN j turn n) : i = j := by rw [← ba_at (turn := turn) hi, h, ba_at hj]
/-- Behind s states, and c classes of the next one; a: its own word is there. -/
structure TnI (d : DfaD) (turn : Int) (ta : List Bool) (tn : List Int) (a s c : Nat) : Prop where
  la : ta.length = d.acc.length
  ln : tn.length = d.next.length
  va : ∀ i, i < a → ta.getD (atN i turn d.acc.length) false = d.acc.getD i false
  vn : ∀ i k, i < d.acc.length → k < d.width.toNat → (i < s ∨ i = s ∧ k < c) → tn.getD (atN i turn d.acc.length * d.width.toNat + k) 0 = ((atN (d.next.getD (i * d.width.toNat + k) 0).toNat turn d.acc.length : Nat) : Int)
theorem TnI.start {d : DfaD} {turn : Int} {n m : Nat} (hn : n = d.acc.length) (hm : m = d.next.length) : TnI d turn (List.replicate n false) (List.replicate m 0) 0 0 0 := ⟨by simp [hn], by simp [hm], fun i hi => by omega, fun i k _ _ h => by omega⟩
theorem TnI.acc {d : DfaD} {turn : Int} {ta : List Bool} {tn : List Int} {s : Nat} {v : Bool} (h : TnI d turn ta tn s s 0) (hs : s < d.acc.length) (hv : v = d.acc.getD s false) : TnI d turn (ta.set (atN s turn d.acc.length) v) tn (s + 1) s 0 := by
  refine ⟨by simp [h.la], h.ln, fun i hi => ?_, h.vn⟩
  rw [getD_setB (by rw [h.la]; exact atN_lt (by omega))]
  by_cases e : i = s
  · subst e; rw [if_pos rfl]; exact hv
  · rw [if_neg (fun e2 => e (at_inj (by omega) hs e2.symm))]; exact h.va i (by omega)
theorem TnI.nx {d : DfaD} (hr : rightB d = true) {turn : Int} {ta : List Bool} {tn : List Int} {s c : Nat} {v : Int} (h : TnI d turn ta tn (s + 1) s c) (hs : s < d.acc.length) (hc : c < d.width.toNat) (hv : v = ((atN (d.next.getD (s * d.width.toNat + c) 0).toNat turn d.acc.length : Nat) : Int)) :
    TnI d turn ta (tn.set (atN s turn d.acc.length * d.width.toNat + c) v) (s + 1) s (c + 1) := by
  have hat := atN_lt (s := s) (turn := turn) (show 0 < d.acc.length by omega)
  have hlen : atN s turn d.acc.length * d.width.toNat + c < tn.length := by
    have h1 := (rightB_iff.1 hr).1
    have h2 : d.next.length = d.acc.length * d.width.toNat := by
      have h3 := h1.2.2.2.2.2.1
      have h4 : ((d.width.toNat : Nat) : Int) = d.width := Int.toNat_of_nonneg (by omega)
      rw [← h4, ← Int.natCast_mul] at h3
      omega
    have h5 := Nat.mul_le_mul_right d.width.toNat (show atN s turn d.acc.length + 1 ≤ d.acc.length by omega)
    rw [Nat.add_mul, Nat.one_mul] at h5
    rw [h.ln]; omega
  refine ⟨h.la, by simp [h.ln], h.va, fun i k hi hk hik => ?_⟩
  rw [getD_setI hlen]
  by_cases e : atN s turn d.acc.length * d.width.toNat + c = atN i turn d.acc.length * d.width.toNat + k
  · have e1 := divW (a := atN s turn d.acc.length) hc
    have e2 := divW (a := atN i turn d.acc.length) hk
    rw [e, e2.1, e2.2] at e1
    have e3 := at_inj hi hs e1.1
    have e4 := e1.2
    subst e3; subst e4
    rw [if_pos e]; exact hv
  · rw [if_neg e]
    refine h.vn i k hi hk ?_
    rcases hik with h9 | ⟨h9, h8⟩
    · exact .inl h9
    · subst h9
      by_cases e5 : k = c
      · subst e5; exact absurd rfl e
      · exact .inr ⟨rfl, by omega⟩
theorem TnI.next {d : DfaD} {turn : Int} {ta : List Bool} {tn : List Int} {s c : Nat} (h : TnI d turn ta tn (s + 1) s c) (hc : ¬ ((c : Nat) : Int) < d.width) : TnI d turn ta tn (s + 1) (s + 1) 0 :=
  ⟨h.la, h.ln, h.va, fun i k hi hk hik => h.vn i k hi hk (by omega)⟩
end Go.Proofs.Ytoeockpkkmgieaa


/- The walks of functions, printed by wip/tools/gw.py. -/
namespace Go.Proofs.Ytoeockpkkmgieaa
open Go Go.Sx
set_option linter.unusedVariables false
set_option linter.unusedSimpArgs false
set_option maxRecDepth 20000 in
theorem small13_any (d : DfaD) (dca : Option Addr) (dna : Option Addr) (dba : Option Addr) (dcc : Nat) (dnc : Nat) (dbc : Nat) (w : World) (rcd : RdT (tyI .i64) w (.slice dca d.cls.length dcc) d.cls) (rnd : RdT (tyI .i64) w (.slice dna d.next.length dnc) d.next) (rbd : RdT tyB w (.slice dba d.acc.length dbc) d.acc) :
    Calls Try.prog 50 #[.agg #[.slice dca d.cls.length dcc, .int .i64 d.width, .int .i64 d.start, .slice dna d.next.length dnc, .slice dba d.acc.length dbc]] w (Ret fun v w' => v = .bool (decide (d.acc.length ≤ 12 ∧ d.next.length ≤ 4000 ∧ d.cls.length ≤ 300)) ∧ Upd w [] w' []) := by
  have le_rcd := rcd.le
  have le_rnd := rnd.le
  have le_rbd := rbd.le
  refine calls_of_W (args := [.agg #[.slice dca d.cls.length dcc, .int .i64 d.width, .int .i64 d.start, .slice dna d.next.length dnc, .slice dba d.acc.length dbc]]) Try.func50 rfl rfl rfl ?_
  have H0 : UpG w [] w [] := UpG.nil w
  show W _ _ _ _ [(0, .agg #[.slice dca d.cls.length dcc, .int .i64 d.width, .int .i64 d.start, .slice dna d.next.length dnc, .slice dba d.acc.length dbc])] w
  refine W.seq ?_
  refine W.region ?_
  refine WL.op rfl (d_box rfl fun w1 u1 => ?_)
  have H1 : UpG w [] w1 [[blk w.heap.size #[.slice dca d.cls.length dcc, .int .i64 d.width, .int .i64 d.start, .slice dna d.next.length dnc, .slice dba d.acc.length dbc] 25]] := H0.new' u1
  refine WL.op rfl (d_assign rfl ?_)
  refine WL.done (X.then_code ?_)
  refine W.seq ?_
  refine W.region ?_
  refine WL.op rfl (d_fieldAddrB fld25_4 rfl rfl ?_)
  refine WL.op rfl (d_loadB Try.underlying23 rfl rfl (H1.blk 0 rfl) rfl ?_)
  refine WL.op rfl (d_lenS Try.underlying23 rfl ?_)
  refine WL.op rfl (d_cmp (decide (((d.acc.length : Nat) : Int) ≤ (12 : Int))) rfl rfl rfl ?_)
  refine WL.op rfl (d_move rfl ?_)
  refine WL.part 7 (p := ((d.acc.length : Nat) : Int) ≤ (12 : Int)) rfl (fun g21 => ?_) (fun g21 => ?_)
  · skip
    refine WL.opG rfl rfl rfl (d_fieldAddrB fld25_3 rfl rfl ?_)
    refine WL.opG rfl rfl rfl (d_loadB Try.underlying22 rfl rfl (H1.blk 0 rfl) rfl ?_)
    refine WL.opG rfl rfl rfl (d_lenS Try.underlying22 rfl ?_)
    refine WL.opG rfl rfl rfl (d_cmp (decide (((d.next.length : Nat) : Int) ≤ (4000 : Int))) rfl rfl rfl ?_)
    refine WL.op rfl (d_pick rfl rfl ?_)
    refine WL.op rfl (d_move rfl ?_)
    refine WL.part 13 (p := ((d.next.length : Nat) : Int) ≤ (4000 : Int)) rfl (fun g21x => ?_) (fun g21x => ?_)
    · skip
      refine WL.opG rfl rfl rfl (d_fieldAddrB fld25_0 rfl rfl ?_)
      refine WL.opG rfl rfl rfl (d_loadB Try.underlying22 rfl rfl (H1.blk 0 rfl) rfl ?_)
      refine WL.opG rfl rfl rfl (d_lenS Try.underlying22 rfl ?_)
      refine WL.opG rfl rfl rfl (d_cmp (decide (((d.cls.length : Nat) : Int) ≤ (300 : Int))) rfl rfl rfl ?_)
      refine WL.op rfl (d_pick rfl rfl ?_)
      refine WL.op rfl (d_assign rfl ?_)
      refine WL.done (X.then_code ?_)
      refine W.ret (X.ret1 rfl rfl ?_)
      exact ⟨(by first | exact congrArg Value.bool (decide_eq_decide.2 (by omega)) | exact congrArg Value.bool (Eq.symm (decide_eq_false (by omega)))), H1.noneL⟩
    · skip
      refine WL.opN rfl rfl rfl rfl ?_
      refine WL.opN rfl rfl rfl rfl ?_
      refine WL.opN rfl rfl rfl rfl ?_
      refine WL.opN rfl rfl rfl rfl ?_
      refine WL.op rfl (d_pick rfl rfl ?_)
      refine WL.op rfl (d_assign rfl ?_)
      refine WL.done (X.then_code ?_)
      refine W.ret (X.ret1 rfl rfl ?_)
      exact ⟨(by first | exact congrArg Value.bool (decide_eq_decide.2 (by omega)) | exact congrArg Value.bool (Eq.symm (decide_eq_false (by omega)))), H1.noneL⟩
  · skip
    refine WL.opN rfl rfl rfl rfl ?_
    refine WL.opN rfl rfl rfl rfl ?_
    refine WL.opN rfl rfl rfl rfl ?_
    refine WL.opN rfl rfl rfl rfl ?_
    refine WL.op rfl (d_pick rfl rfl ?_)
    refine WL.op rfl (d_move rfl ?_)
    refine WL.opN rfl rfl rfl rfl ?_
    refine WL.opN rfl rfl rfl rfl ?_
    refine WL.opN rfl rfl rfl rfl ?_
    refine WL.opN rfl rfl rfl rfl ?_
    refine WL.op rfl (d_pick rfl rfl ?_)
    refine WL.op rfl (d_assign rfl ?_)
    refine WL.done (X.then_code ?_)
    refine W.ret (X.ret1 rfl rfl ?_)
    exact ⟨(by first | exact congrArg Value.bool (decide_eq_decide.2 (by omega)) | exact congrArg Value.bool (Eq.symm (decide_eq_false (by omega)))), H1.noneL⟩

set_option maxRecDepth 20000 in
theorem awake13_any  (w : World) :
    Calls Try.prog 49 #[] w (Ret fun v w' => v = .bool true ∧ Upd w [] w' []) := by
  refine calls_of_W (args := []) Try.func49 rfl rfl rfl ?_
  have H0 : UpG w [] w [] := UpG.nil w
  show W _ _ _ _ [] w
  refine W.seq ?_
  refine W.region ?_
  refine WL.op rfl (d_assign rfl ?_)
  refine WL.done (X.then_code ?_)
  refine W.seq ?_
  refine W.region ?_
  refine WL.op rfl (t_make 259 (0 : Int) (T := (tyI .i64)) rfl Try.underlying22 sz3 rfl rfl rfl rfl (by omega) (by omega) fun w1 u1 => ?_)
  have H1 : UpG w [] w1 [[rowT (tyI .i64) (.slice (some ⟨w.heap.size, 0, none⟩) ((List.replicate 259 (0 : Int)).length) 259) 3 (List.replicate 259 (0 : Int))]] := H0.new' u1
  refine WL.op rfl (t_buildSlice (T := (tyI .i64)) (xs := [1, 0]) (cs := #[.int .i64 1, .int .i64 0]) rfl Try.underlying22 sz3 rfl rfl rfl rfl (by kernel_rfl) rfl rfl fun w2 u2 => ?_)
  have H2 : UpG w [] w2 [[rowT (tyI .i64) (.slice (some ⟨w.heap.size, 0, none⟩) ((List.replicate 259 (0 : Int)).length) 259) 3 (List.replicate 259 (0 : Int))], [rowT (tyI .i64) (.slice (some ⟨w1.heap.size, 0, none⟩) ([1, 0].length) ([1, 0].length)) 3 [1, 0]]] := H1.new' u2
  refine WL.op rfl (t_buildSlice (T := tyB) (xs := [true, true]) (cs := #[.bool true, .bool true]) rfl Try.underlying23 sz4 rfl rfl rfl rfl (by kernel_rfl) rfl rfl fun w3 u3 => ?_)
  have H3 : UpG w [] w3 [[rowT (tyI .i64) (.slice (some ⟨w.heap.size, 0, none⟩) ((List.replicate 259 (0 : Int)).length) 259) 3 (List.replicate 259 (0 : Int))], [rowT (tyI .i64) (.slice (some ⟨w1.heap.size, 0, none⟩) ([1, 0].length) ([1, 0].length)) 3 [1, 0]], [rowT tyB (.slice (some ⟨w2.heap.size, 0, none⟩) ([true, true].length) ([true, true].length)) 4 [true, true]]] := H2.new' u3
  refine WL.op rfl (d_build (cs := #[.slice (some ⟨w.heap.size, 0, none⟩) ((List.replicate 259 (0 : Int)).length) 259, .int .i64 1, .int .i64 0, .slice (some ⟨w1.heap.size, 0, none⟩) ([1, 0].length) ([1, 0].length), .slice (some ⟨w2.heap.size, 0, none⟩) ([true, true].length) ([true, true].length)]) rfl (by kernel_rfl) ?_)
  refine WL.op rfl (d_call ok52 rfl (Ret.calls (miniOf_any (⟨List.replicate 259 (0 : Int), 1, 0, [1, 0], [true, true]⟩ : DfaD) (some ⟨w.heap.size, 0, none⟩) (some ⟨w1.heap.size, 0, none⟩) (some ⟨w2.heap.size, 0, none⟩) 259 ([1, 0].length) ([true, true].length) w3 (H3.rdT 0 rfl) (H3.rdT 1 rfl) (H3.rdT 2 rfl) (by rw [List.length_replicate]; decide)) fun _ w4 p1 => ?_))
  obtain ⟨ca_1, cc_1, na_1, nc_1, ba_1, bc_1, rfl, u4⟩ := p1
  have H4 : UpG w [] w4 [[rowT (tyI .i64) (.slice (some ⟨w.heap.size, 0, none⟩) ((List.replicate 259 (0 : Int)).length) 259) 3 (List.replicate 259 (0 : Int))], [rowT (tyI .i64) (.slice (some ⟨w1.heap.size, 0, none⟩) ([1, 0].length) ([1, 0].length)) 3 [1, 0]], [rowT tyB (.slice (some ⟨w2.heap.size, 0, none⟩) ([true, true].length) ([true, true].length)) 4 [true, true]], [rowT (tyI .i64) (.slice ca_1 (((leastO (⟨List.replicate 259 (0 : Int), 1, 0, [1, 0], [true, true]⟩ : DfaD)).cls).length) cc_1) 3 ((leastO (⟨List.replicate 259 (0 : Int), 1, 0, [1, 0], [true, true]⟩ : DfaD)).cls)], [rowT (tyI .i64) (.slice na_1 (((leastO (⟨List.replicate 259 (0 : Int), 1, 0, [1, 0], [true, true]⟩ : DfaD)).next).length) nc_1) 3 ((leastO (⟨List.replicate 259 (0 : Int), 1, 0, [1, 0], [true, true]⟩ : DfaD)).next)], [rowT tyB (.slice ba_1 (((leastO (⟨List.replicate 259 (0 : Int), 1, 0, [1, 0], [true, true]⟩ : DfaD)).acc).length) bc_1) 4 ((leastO (⟨List.replicate 259 (0 : Int), 1, 0, [1, 0], [true, true]⟩ : DfaD)).acc)]] := (H3.new' u4).re rfl
  refine WL.op rfl (d_move rfl ?_)
  refine WL.op rfl (d_extract rfl rfl ?_)
  refine WL.op rfl (d_extract rfl rfl ?_)
  refine WL.op rfl (d_alloc sz25 fun w5 u5 => ?_)
  have H5 : UpG w [] w5 [[rowT (tyI .i64) (.slice (some ⟨w.heap.size, 0, none⟩) ((List.replicate 259 (0 : Int)).length) 259) 3 (List.replicate 259 (0 : Int))], [rowT (tyI .i64) (.slice (some ⟨w1.heap.size, 0, none⟩) ([1, 0].length) ([1, 0].length)) 3 [1, 0]], [rowT tyB (.slice (some ⟨w2.heap.size, 0, none⟩) ([true, true].length) ([true, true].length)) 4 [true, true]], [rowT (tyI .i64) (.slice ca_1 (((leastO (⟨List.replicate 259 (0 : Int), 1, 0, [1, 0], [true, true]⟩ : DfaD)).cls).length) cc_1) 3 ((leastO (⟨List.replicate 259 (0 : Int), 1, 0, [1, 0], [true, true]⟩ : DfaD)).cls)], [rowT (tyI .i64) (.slice na_1 (((leastO (⟨List.replicate 259 (0 : Int), 1, 0, [1, 0], [true, true]⟩ : DfaD)).next).length) nc_1) 3 ((leastO (⟨List.replicate 259 (0 : Int), 1, 0, [1, 0], [true, true]⟩ : DfaD)).next)], [rowT tyB (.slice ba_1 (((leastO (⟨List.replicate 259 (0 : Int), 1, 0, [1, 0], [true, true]⟩ : DfaD)).acc).length) bc_1) 4 ((leastO (⟨List.replicate 259 (0 : Int), 1, 0, [1, 0], [true, true]⟩ : DfaD)).acc)], [blk w4.heap.size #[.slice none 0 0, .int .i64 0, .int .i64 0, .slice none 0 0, .slice none 0 0] 25]] := H4.new' u5
  refine WL.op0 (d_storeAB (us := [.slice ca_1 (((leastO (⟨List.replicate 259 (0 : Int), 1, 0, [1, 0], [true, true]⟩ : DfaD)).cls).length) cc_1, .int .i64 ((leastO (⟨List.replicate 259 (0 : Int), 1, 0, [1, 0], [true, true]⟩ : DfaD)).width), .int .i64 ((leastO (⟨List.replicate 259 (0 : Int), 1, 0, [1, 0], [true, true]⟩ : DfaD)).start), .slice na_1 (((leastO (⟨List.replicate 259 (0 : Int), 1, 0, [1, 0], [true, true]⟩ : DfaD)).next).length) nc_1, .slice ba_1 (((leastO (⟨List.replicate 259 (0 : Int), 1, 0, [1, 0], [true, true]⟩ : DfaD)).acc).length) bc_1]) (cs' := #[.slice ca_1 (((leastO (⟨List.replicate 259 (0 : Int), 1, 0, [1, 0], [true, true]⟩ : DfaD)).cls).length) cc_1, .int .i64 ((leastO (⟨List.replicate 259 (0 : Int), 1, 0, [1, 0], [true, true]⟩ : DfaD)).width), .int .i64 ((leastO (⟨List.replicate 259 (0 : Int), 1, 0, [1, 0], [true, true]⟩ : DfaD)).start), .slice na_1 (((leastO (⟨List.replicate 259 (0 : Int), 1, 0, [1, 0], [true, true]⟩ : DfaD)).next).length) nc_1, .slice ba_1 (((leastO (⟨List.replicate 259 (0 : Int), 1, 0, [1, 0], [true, true]⟩ : DfaD)).acc).length) bc_1]) sz25 rfl rfl rfl rfl (H5.blk 6 rfl) rfl rfl fun w6 u6 => ?_)
  have H6 : UpG w [] w6 [[rowT (tyI .i64) (.slice (some ⟨w.heap.size, 0, none⟩) ((List.replicate 259 (0 : Int)).length) 259) 3 (List.replicate 259 (0 : Int))], [rowT (tyI .i64) (.slice (some ⟨w1.heap.size, 0, none⟩) ([1, 0].length) ([1, 0].length)) 3 [1, 0]], [rowT tyB (.slice (some ⟨w2.heap.size, 0, none⟩) ([true, true].length) ([true, true].length)) 4 [true, true]], [rowT (tyI .i64) (.slice ca_1 (((leastO (⟨List.replicate 259 (0 : Int), 1, 0, [1, 0], [true, true]⟩ : DfaD)).cls).length) cc_1) 3 ((leastO (⟨List.replicate 259 (0 : Int), 1, 0, [1, 0], [true, true]⟩ : DfaD)).cls)], [rowT (tyI .i64) (.slice na_1 (((leastO (⟨List.replicate 259 (0 : Int), 1, 0, [1, 0], [true, true]⟩ : DfaD)).next).length) nc_1) 3 ((leastO (⟨List.replicate 259 (0 : Int), 1, 0, [1, 0], [true, true]⟩ : DfaD)).next)], [rowT tyB (.slice ba_1 (((leastO (⟨List.replicate 259 (0 : Int), 1, 0, [1, 0], [true, true]⟩ : DfaD)).acc).length) bc_1) 4 ((leastO (⟨List.replicate 259 (0 : Int), 1, 0, [1, 0], [true, true]⟩ : DfaD)).acc)], [blk w4.heap.size #[.slice ca_1 (((leastO (⟨List.replicate 259 (0 : Int), 1, 0, [1, 0], [true, true]⟩ : DfaD)).cls).length) cc_1, .int .i64 ((leastO (⟨List.replicate 259 (0 : Int), 1, 0, [1, 0], [true, true]⟩ : DfaD)).width), .int .i64 ((leastO (⟨List.replicate 259 (0 : Int), 1, 0, [1, 0], [true, true]⟩ : DfaD)).start), .slice na_1 (((leastO (⟨List.replicate 259 (0 : Int), 1, 0, [1, 0], [true, true]⟩ : DfaD)).next).length) nc_1, .slice ba_1 (((leastO (⟨List.replicate 259 (0 : Int), 1, 0, [1, 0], [true, true]⟩ : DfaD)).acc).length) bc_1] 25]] := H5.on 6 rfl u6
  refine WL.op rfl (d_assign rfl ?_)
  refine WL.done (X.then_code ?_)
  refine W.seq ?_
  refine W.region ?_
  refine WL.op rfl (d_move rfl ?_)
  refine WL.op rfl (d_cmp (decide ((leastE (⟨List.replicate 259 (0 : Int), 1, 0, [1, 0], [true, true]⟩ : DfaD)) = (0 : Int))) rfl rfl rfl ?_)
  refine WL.op rfl (d_move rfl ?_)
  refine WL.part 13 (p := (leastE (⟨List.replicate 259 (0 : Int), 1, 0, [1, 0], [true, true]⟩ : DfaD)) = (0 : Int)) rfl (fun g17 => ?_) (fun g17 => ?_)
  · skip
    refine WL.opG rfl rfl rfl (d_fieldAddrB fld25_4 rfl rfl ?_)
    refine WL.opG rfl rfl rfl (d_loadB Try.underlying23 rfl rfl (H6.blk 6 rfl) rfl ?_)
    refine WL.opG rfl rfl rfl (d_lenS Try.underlying23 rfl ?_)
    refine WL.opG rfl rfl rfl (d_cmp (decide (((((leastO (⟨List.replicate 259 (0 : Int), 1, 0, [1, 0], [true, true]⟩ : DfaD)).acc).length : Nat) : Int) = (1 : Int))) rfl rfl rfl ?_)
    refine WL.op rfl (d_pick rfl rfl ?_)
    refine WL.op rfl (d_move rfl ?_)
    refine WL.part 19 (p := ((((leastO (⟨List.replicate 259 (0 : Int), 1, 0, [1, 0], [true, true]⟩ : DfaD)).acc).length : Nat) : Int) = (1 : Int)) rfl (fun g17x => ?_) (fun g17x => ?_)
    · skip
      refine WL.opG rfl rfl rfl (d_fieldAddrB fld25_4 rfl rfl ?_)
      refine WL.opG rfl rfl rfl (d_loadB Try.underlying23 rfl rfl (H6.blk 6 rfl) rfl ?_)
      refine WL.opG rfl rfl rfl (t_addr1 0 (T := tyB) rfl Try.underlying23 sz4 rfl rfl (H6.rdT 5 rfl) rfl (by show 0 < (leastO twoD).acc.length; rw [two_least.2.1]; decide) ?_)
      refine WL.opG rfl rfl rfl (t_load1 0 false (T := tyB) rfl Try.underlying4 rfl rfl (H6.rdT 5 rfl) (by show 0 < (leastO twoD).acc.length; rw [two_least.2.1]; decide) rfl ?_)
      refine WL.op rfl (d_pick rfl rfl ?_)
      refine WL.op rfl (d_move rfl ?_)
      refine WL.partB 25 (b := ((leastO (⟨List.replicate 259 (0 : Int), 1, 0, [1, 0], [true, true]⟩ : DfaD)).acc).getD 0 false) rfl (fun g17xx => ?_) (fun g17xx => ?_)
      · skip
        refine WL.opG rfl rfl rfl (d_fieldAddrB fld25_1 rfl rfl ?_)
        refine WL.opG rfl rfl rfl (d_loadB Try.underlying3 rfl rfl (H6.blk 6 rfl) rfl ?_)
        refine WL.opG rfl rfl rfl (d_cmp (decide (((leastO (⟨List.replicate 259 (0 : Int), 1, 0, [1, 0], [true, true]⟩ : DfaD)).width) = (1 : Int))) rfl rfl rfl ?_)
        refine WL.op rfl (d_pick rfl rfl ?_)
        refine WL.op rfl (d_move rfl ?_)
        refine WL.part 30 (p := ((leastO (⟨List.replicate 259 (0 : Int), 1, 0, [1, 0], [true, true]⟩ : DfaD)).width) = (1 : Int)) rfl (fun g17xxx => ?_) (fun g17xxx => ?_)
        · skip
          refine WL.opG rfl rfl rfl (d_fieldAddrB fld25_0 rfl rfl ?_)
          refine WL.opG rfl rfl rfl (d_loadB Try.underlying22 rfl rfl (H6.blk 6 rfl) rfl ?_)
          refine WL.opG rfl rfl rfl (d_lenS Try.underlying22 rfl ?_)
          refine WL.opG rfl rfl rfl (d_cmp (decide (((((leastO (⟨List.replicate 259 (0 : Int), 1, 0, [1, 0], [true, true]⟩ : DfaD)).cls).length : Nat) : Int) = (259 : Int))) rfl rfl rfl ?_)
          refine WL.op rfl (d_pick rfl rfl ?_)
          refine WL.op rfl (d_assign rfl ?_)
          refine WL.done (X.then_code ?_)
          refine W.pick [0] (Γ' := [(0, .bool (decide (((((leastO (⟨List.replicate 259 (0 : Int), 1, 0, [1, 0], [true, true]⟩ : DfaD)).cls).length : Nat) : Int) = (259 : Int))))]) rfl ?_
          refine W.ret (X.ret1 rfl rfl ?_)
          exact ⟨(by exact congrArg Value.bool (decide_eq_true (show (((leastO twoD).cls.length : Nat) : Int) = 259 by rw [two_least.2.2.2.2]; rfl))), H6.noneL⟩
        · skip
          exact absurd two_least.2.2.2.1 g17xxx
      · skip
        exact absurd two_least.2.2.1 g17xx
    · skip
      exact absurd (show (((leastO twoD).acc.length : Nat) : Int) = 1 by rw [two_least.2.1]; rfl) g17x
  · skip
    exact absurd two_least.1 g17

set_option maxRecDepth 20000 in
theorem miniLeast_any (d : DfaD) (dca : Option Addr) (dna : Option Addr) (dba : Option Addr) (dcc : Nat) (dnc : Nat) (dbc : Nat) (worda : Option Addr) (word : List Int) (wordc : Nat) (w : World) (rcd : RdT (tyI .i64) w (.slice dca d.cls.length dcc) d.cls) (rnd : RdT (tyI .i64) w (.slice dna d.next.length dnc) d.next) (rbd : RdT tyB w (.slice dba d.acc.length dbc) d.acc) (rword : RdT (tyI .i64) w (.slice worda word.length wordc) word) (hcw : word.length ≤ wordc) :
    Calls Try.prog 14 #[.agg #[.slice dca d.cls.length dcc, .int .i64 d.width, .int .i64 d.start, .slice dna d.next.length dnc, .slice dba d.acc.length dbc], .slice worda word.length wordc] w (Ret fun v w' => v = .bool true ∧ Upd w [] w' []) := by
  have le_rcd := rcd.le
  have le_rnd := rnd.le
  have le_rbd := rbd.le
  have le_rword := rword.le
  refine calls_of_W (args := [.agg #[.slice dca d.cls.length dcc, .int .i64 d.width, .int .i64 d.start, .slice dna d.next.length dnc, .slice dba d.acc.length dbc], .slice worda word.length wordc]) Try.func14 rfl rfl rfl ?_
  have H0 : UpG w [] w [] := UpG.nil w
  show W _ _ _ _ [(0, .agg #[.slice dca d.cls.length dcc, .int .i64 d.width, .int .i64 d.start, .slice dna d.next.length dnc, .slice dba d.acc.length dbc]), (1, .slice worda word.length wordc)] w
  refine W.seq ?_
  refine W.region ?_
  refine WL.op rfl (d_box rfl fun w1 u1 => ?_)
  have H1 : UpG w [] w1 [[blk w.heap.size #[.slice dca d.cls.length dcc, .int .i64 d.width, .int .i64 d.start, .slice dna d.next.length dnc, .slice dba d.acc.length dbc] 25]] := H0.new' u1
  refine WL.op rfl (d_assign rfl ?_)
  refine WL.done (X.then_code ?_)
  refine W.seq ?_
  refine W.seq ?_
  refine W.region ?_
  refine WL.op rfl (d_call ok49 rfl (Ret.calls (awake13_any  w1  ) fun _ w2 p1 => ?_))
  obtain ⟨rfl, u2⟩ := p1
  have H2 : UpG w [] w2 [[blk w.heap.size #[.slice dca d.cls.length dcc, .int .i64 d.width, .int .i64 d.start, .slice dna d.next.length dnc, .slice dba d.acc.length dbc] 25]] := H1.call u2
  refine WL.op rfl (d_notB rfl ?_)
  refine WL.done (X.then_code ?_)
  refine W.iff rfl ?_
  refine W.skip (X.then_code ?_)
  refine W.seq ?_
  refine W.region ?_
  refine WL.op rfl (d_move rfl ?_)
  refine WL.op rfl (d_move rfl ?_)
  refine WL.op rfl (d_lenS Try.underlying22 rfl ?_)
  refine WL.op rfl (d_min rfl rfl ?_)
  have rs1 := RdT.take rword (min word.length 30) (by omega)
  refine WL.op rfl (t_take (min ((word.length : Nat) : Int) 30) (min word.length 30) (T := (tyI .i64)) (xs := word) rfl Try.underlying22 sz3 rfl rfl (by omega) (by omega) (by omega) ?_)
  refine WL.op rfl (d_assign rfl ?_)
  refine WL.done (X.then_code ?_)
  refine W.seq ?_
  refine W.seq ?_
  refine W.region ?_
  refine WL.op rfl (d_loadAB [.slice dca d.cls.length dcc, .int .i64 d.width, .int .i64 d.start, .slice dna d.next.length dnc, .slice dba d.acc.length dbc] Try.underlying25 rfl sz25 rfl (H2.blk 0 rfl) rfl rfl ?_)
  refine WL.op rfl (d_call ok50 rfl (Ret.calls (small13_any d dca dna dba dcc dnc dbc w2 (rcd.at H2) (rnd.at H2) (rbd.at H2) ) fun _ w3 p2 => ?_))
  obtain ⟨rfl, u3⟩ := p2
  have H3 : UpG w [] w3 [[blk w.heap.size #[.slice dca d.cls.length dcc, .int .i64 d.width, .int .i64 d.start, .slice dna d.next.length dnc, .slice dba d.acc.length dbc] 25]] := H2.call u3
  refine WL.op rfl (d_notB rfl ?_)
  refine WL.done (X.then_code ?_)
  refine W.iteB (b := !(decide (d.acc.length ≤ 12 ∧ d.next.length ≤ 4000 ∧ d.cls.length ≤ 300))) rfl (fun c46 => ?_) (fun c46 => ?_)
  · skip
    refine W.seq ?_
    refine W.region ?_
    refine WL.op rfl (d_assign rfl ?_)
    refine WL.done (X.then_code ?_)
    refine W.ret (X.then_ret (X.ret1 rfl rfl ?_))
    exact ⟨rfl, H3.noneL⟩
  · skip
    refine W.skip (X.then_code ?_)
    refine W.seq ?_
    have hsm : d.acc.length ≤ 12 ∧ d.next.length ≤ 4000 ∧ d.cls.length ≤ 300 := by simpa using c46
    refine W.region ?_
    refine WL.op rfl (d_loadAB [.slice dca d.cls.length dcc, .int .i64 d.width, .int .i64 d.start, .slice dna d.next.length dnc, .slice dba d.acc.length dbc] Try.underlying25 rfl sz25 rfl (H3.blk 0 rfl) rfl rfl ?_)
    refine WL.op rfl (d_call ok52 rfl (Ret.calls (miniOf_any d dca dna dba dcc dnc dbc w3 (rcd.at H3) (rnd.at H3) (rbd.at H3) (by omega)) fun _ w4 p3 => ?_))
    obtain ⟨ca_1, cc_1, na_1, nc_1, ba_1, bc_1, rfl, u4⟩ := p3
    have H4 : UpG w [] w4 [[blk w.heap.size #[.slice dca d.cls.length dcc, .int .i64 d.width, .int .i64 d.start, .slice dna d.next.length dnc, .slice dba d.acc.length dbc] 25], [rowT (tyI .i64) (.slice ca_1 (((leastO d).cls).length) cc_1) 3 ((leastO d).cls)], [rowT (tyI .i64) (.slice na_1 (((leastO d).next).length) nc_1) 3 ((leastO d).next)], [rowT tyB (.slice ba_1 (((leastO d).acc).length) bc_1) 4 ((leastO d).acc)]] := (H3.new' u4).re rfl
    refine WL.op rfl (d_move rfl ?_)
    refine WL.op rfl (d_extract rfl rfl ?_)
    refine WL.op rfl (d_extract rfl rfl ?_)
    refine WL.op rfl (d_alloc sz25 fun w5 u5 => ?_)
    have H5 : UpG w [] w5 [[blk w.heap.size #[.slice dca d.cls.length dcc, .int .i64 d.width, .int .i64 d.start, .slice dna d.next.length dnc, .slice dba d.acc.length dbc] 25], [rowT (tyI .i64) (.slice ca_1 (((leastO d).cls).length) cc_1) 3 ((leastO d).cls)], [rowT (tyI .i64) (.slice na_1 (((leastO d).next).length) nc_1) 3 ((leastO d).next)], [rowT tyB (.slice ba_1 (((leastO d).acc).length) bc_1) 4 ((leastO d).acc)], [blk w4.heap.size #[.slice none 0 0, .int .i64 0, .int .i64 0, .slice none 0 0, .slice none 0 0] 25]] := H4.new' u5
    refine WL.op0 (d_storeAB (us := [.slice ca_1 (((leastO d).cls).length) cc_1, .int .i64 ((leastO d).width), .int .i64 ((leastO d).start), .slice na_1 (((leastO d).next).length) nc_1, .slice ba_1 (((leastO d).acc).length) bc_1]) (cs' := #[.slice ca_1 (((leastO d).cls).length) cc_1, .int .i64 ((leastO d).width), .int .i64 ((leastO d).start), .slice na_1 (((leastO d).next).length) nc_1, .slice ba_1 (((leastO d).acc).length) bc_1]) sz25 rfl rfl rfl rfl (H5.blk 4 rfl) rfl rfl fun w6 u6 => ?_)
    have H6 : UpG w [] w6 [[blk w.heap.size #[.slice dca d.cls.length dcc, .int .i64 d.width, .int .i64 d.start, .slice dna d.next.length dnc, .slice dba d.acc.length dbc] 25], [rowT (tyI .i64) (.slice ca_1 (((leastO d).cls).length) cc_1) 3 ((leastO d).cls)], [rowT (tyI .i64) (.slice na_1 (((leastO d).next).length) nc_1) 3 ((leastO d).next)], [rowT tyB (.slice ba_1 (((leastO d).acc).length) bc_1) 4 ((leastO d).acc)], [blk w4.heap.size #[.slice ca_1 (((leastO d).cls).length) cc_1, .int .i64 ((leastO d).width), .int .i64 ((leastO d).start), .slice na_1 (((leastO d).next).length) nc_1, .slice ba_1 (((leastO d).acc).length) bc_1] 25]] := H5.on 4 rfl u6
    refine WL.op rfl (d_assign rfl ?_)
    refine WL.done (X.then_code ?_)
    refine W.seq ?_
    refine W.seq ?_
    refine W.region ?_
    refine WL.op rfl (d_move rfl ?_)
    refine WL.op rfl (d_cmp (decide ((leastE d) ≠ (0 : Int))) rfl rfl rfl ?_)
    refine WL.done (X.then_code ?_)
    refine W.ite (p := (leastE d) ≠ (0 : Int)) rfl (fun c50 => ?_) (fun c50 => ?_)
    · skip
      refine W.seq ?_
      refine W.region ?_
      refine WL.op rfl (d_loadAB [.slice dca d.cls.length dcc, .int .i64 d.width, .int .i64 d.start, .slice dna d.next.length dnc, .slice dba d.acc.length dbc] Try.underlying25 rfl sz25 rfl (H6.blk 0 rfl) rfl rfl ?_)
      refine WL.op rfl (d_call ok20 rfl (Ret.calls (refRight_any d dca dna dba dcc dnc dbc w6 (rcd.at H6) (rnd.at H6) (rbd.at H6) ) fun _ w7 p4 => ?_))
      obtain ⟨rfl, u7⟩ := p4
      have H7 : UpG w [] w7 [[blk w.heap.size #[.slice dca d.cls.length dcc, .int .i64 d.width, .int .i64 d.start, .slice dna d.next.length dnc, .slice dba d.acc.length dbc] 25], [rowT (tyI .i64) (.slice ca_1 (((leastO d).cls).length) cc_1) 3 ((leastO d).cls)], [rowT (tyI .i64) (.slice na_1 (((leastO d).next).length) nc_1) 3 ((leastO d).next)], [rowT tyB (.slice ba_1 (((leastO d).acc).length) bc_1) 4 ((leastO d).acc)], [blk w4.heap.size #[.slice ca_1 (((leastO d).cls).length) cc_1, .int .i64 ((leastO d).width), .int .i64 ((leastO d).start), .slice na_1 (((leastO d).next).length) nc_1, .slice ba_1 (((leastO d).acc).length) bc_1] 25]] := H6.call u7
      refine WL.op rfl (d_notB rfl ?_)
      refine WL.op rfl (d_assign rfl ?_)
      refine WL.done (X.then_code ?_)
      refine W.ret (X.then_ret (X.ret1 rfl rfl ?_))
      exact ⟨(by rw [show rightB d = false from Bool.eq_false_iff.2 (fun h9 => c50 (by rw [leastE, if_pos h9]))]; rfl), H7.noneL⟩
    · skip
      refine W.skip (X.then_code ?_)
      refine W.seq ?_
      have hrt : rightB d = true := Classical.byContradiction fun h9 => c50 (by rw [leastE, if_neg h9]; decide)
      obtain ⟨e1, e2⟩ := leastO_right hrt
      have hrl : rightB (leastO d) = true := by rw [e1]; exact leastD_right hrt
      have hll := leastD_len hrt
      rw [← e1] at hll
      have hrs := (rightB_iff.1 hrl).1.2.2.2.2.2.2
      refine W.regionD mixed (by kernel_rfl) fun hok1 w8 k1 => ?_
      have H8 : UpG w [] w8 [[blk w.heap.size #[.slice dca d.cls.length dcc, .int .i64 d.width, .int .i64 d.start, .slice dna d.next.length dnc, .slice dba d.acc.length dbc] 25], [rowT (tyI .i64) (.slice ca_1 (((leastO d).cls).length) cc_1) 3 ((leastO d).cls)], [rowT (tyI .i64) (.slice na_1 (((leastO d).next).length) nc_1) 3 ((leastO d).next)], [rowT tyB (.slice ba_1 (((leastO d).acc).length) bc_1) 4 ((leastO d).acc)], [blk w4.heap.size #[.slice ca_1 (((leastO d).cls).length) cc_1, .int .i64 ((leastO d).width), .int .i64 ((leastO d).start), .slice na_1 (((leastO d).next).length) nc_1, .slice ba_1 (((leastO d).acc).length) bc_1] 25]] := H6.kept k1
      refine WD.take hok1 0 (.agg #[.slice ca_1 (((leastO d).cls).length) cc_1, .int .i64 ((leastO d).width), .int .i64 ((leastO d).start), .slice na_1 (((leastO d).next).length) nc_1, .slice ba_1 (((leastO d).acc).length) bc_1]) (fun w' => w'.heap[w4.heap.size]? = some (.cells #[.slice ca_1 (((leastO d).cls).length) cc_1, .int .i64 ((leastO d).width), .int .i64 ((leastO d).start), .slice na_1 (((leastO d).next).length) nc_1, .slice ba_1 (((leastO d).acc).length) bc_1] 25 (0, 0))) rfl rfl rfl rfl rfl (H8.blk 4 rfl) (.inl ⟨rfl, fun _ hC => d_loadAB [.slice ca_1 (((leastO d).cls).length) cc_1, .int .i64 ((leastO d).width), .int .i64 ((leastO d).start), .slice na_1 (((leastO d).next).length) nc_1, .slice ba_1 (((leastO d).acc).length) bc_1] Try.underlying25 rfl sz25 rfl hC rfl rfl ⟨rfl, rfl⟩⟩) ?_
      refine WD.take hok1 2 (.agg #[.slice ca_1 (((leastO d).cls).length) cc_1, .int .i64 ((leastO d).width), .int .i64 ((leastO d).start), .slice na_1 (((leastO d).next).length) nc_1, .slice ba_1 (((leastO d).acc).length) bc_1]) (fun w' => w'.heap[w4.heap.size]? = some (.cells #[.slice ca_1 (((leastO d).cls).length) cc_1, .int .i64 ((leastO d).width), .int .i64 ((leastO d).start), .slice na_1 (((leastO d).next).length) nc_1, .slice ba_1 (((leastO d).acc).length) bc_1] 25 (0, 0))) rfl rfl rfl rfl rfl (H8.blk 4 rfl) (.inl ⟨rfl, fun _ hC => d_loadAB [.slice ca_1 (((leastO d).cls).length) cc_1, .int .i64 ((leastO d).width), .int .i64 ((leastO d).start), .slice na_1 (((leastO d).next).length) nc_1, .slice ba_1 (((leastO d).acc).length) bc_1] Try.underlying25 rfl sz25 rfl hC rfl rfl ⟨rfl, rfl⟩⟩) ?_
      refine WD.loud hok1 1 rfl (⟨_, [⟨2, .agg #[.slice ca_1 (((leastO d).cls).length) cc_1, .int .i64 ((leastO d).width), .int .i64 ((leastO d).start), .slice na_1 (((leastO d).next).length) nc_1, .slice ba_1 (((leastO d).acc).length) bc_1], (fun w' => w'.heap[w4.heap.size]? = some (.cells #[.slice ca_1 (((leastO d).cls).length) cc_1, .int .i64 ((leastO d).width), .int .i64 ((leastO d).start), .slice na_1 (((leastO d).next).length) nc_1, .slice ba_1 (((leastO d).acc).length) bc_1] 25 (0, 0)))⟩], rfl, rfl, rfl, rfl, rfl, rfl, d_call ok56 rfl (Ret.calls (unlike_any (leastO d) ca_1 na_1 ba_1 cc_1 nc_1 bc_1 w8 (H8.rdT 1 rfl) (H8.rdT 2 rfl) (H8.rdT 3 rfl) hrl) fun _ w9 p5 => ?_)⟩)
      obtain ⟨a2_1, Xs_1, n2_1, c2_1, rfl, u8, q1, q2⟩ := p5
      have H9 : UpG w [] w9 [[blk w.heap.size #[.slice dca d.cls.length dcc, .int .i64 d.width, .int .i64 d.start, .slice dna d.next.length dnc, .slice dba d.acc.length dbc] 25], [rowT (tyI .i64) (.slice ca_1 (((leastO d).cls).length) cc_1) 3 ((leastO d).cls)], [rowT (tyI .i64) (.slice na_1 (((leastO d).next).length) nc_1) 3 ((leastO d).next)], [rowT tyB (.slice ba_1 (((leastO d).acc).length) bc_1) 4 ((leastO d).acc)], [blk w4.heap.size #[.slice ca_1 (((leastO d).cls).length) cc_1, .int .i64 ((leastO d).width), .int .i64 ((leastO d).start), .slice na_1 (((leastO d).next).length) nc_1, .slice ba_1 (((leastO d).acc).length) bc_1] 25], [rowT tyLR (.slice a2_1 n2_1 c2_1) 23 Xs_1], [manyF (inLR tyB 4).row Xs_1]] := (H8.new' u8).re rfl
      refine ⟨⟨(H9.blk 4 rfl), trivial⟩, ?_⟩
      refine WD.loud hok1 3 rfl (⟨_, [], rfl, rfl, rfl, rfl, rfl, rfl, d_call ok21 rfl (Ret.calls (comes_any (leastO d) ca_1 na_1 ba_1 cc_1 nc_1 bc_1 w9 (H9.rdT 1 rfl) (H9.rdT 2 rfl) (H9.rdT 3 rfl) hrl) fun _ w10 p6 => ?_)⟩)
      obtain ⟨a2_2, Xs_2, n2_2, c2_2, rfl, u9, q3, q4⟩ := p6
      have H10 : UpG w [] w10 [[blk w.heap.size #[.slice dca d.cls.length dcc, .int .i64 d.width, .int .i64 d.start, .slice dna d.next.length dnc, .slice dba d.acc.length dbc] 25], [rowT (tyI .i64) (.slice ca_1 (((leastO d).cls).length) cc_1) 3 ((leastO d).cls)], [rowT (tyI .i64) (.slice na_1 (((leastO d).next).length) nc_1) 3 ((leastO d).next)], [rowT tyB (.slice ba_1 (((leastO d).acc).length) bc_1) 4 ((leastO d).acc)], [blk w4.heap.size #[.slice ca_1 (((leastO d).cls).length) cc_1, .int .i64 ((leastO d).width), .int .i64 ((leastO d).start), .slice na_1 (((leastO d).next).length) nc_1, .slice ba_1 (((leastO d).acc).length) bc_1] 25], [rowT tyLR (.slice a2_1 n2_1 c2_1) 23 Xs_1], [manyF (inLR tyB 4).row Xs_1], [rowT tyLR (.slice a2_2 n2_2 c2_2) 23 Xs_2], [manyF (inLR tyB 4).row Xs_2]] := (H9.new' u9).re rfl
      refine ⟨trivial, ?_⟩
      refine WD.take hok1 4 (.slice a2_1 n2_1 c2_1) (fun _ => True) rfl rfl rfl rfl rfl trivial (.inl ⟨rfl, fun _ _ => d_assign rfl ⟨rfl, rfl⟩⟩) ?_
      refine WD.take hok1 5 (.slice a2_2 n2_2 c2_2) (fun _ => True) rfl rfl rfl rfl rfl trivial (.inl ⟨rfl, fun _ _ => d_assign rfl ⟨rfl, rfl⟩⟩) ?_
      refine WD.done hok1 rfl (X.then_code ?_)
      refine W.seq ?_
      refine W.seq ?_
      refine W.region ?_
      refine WL.op rfl (d_assign rfl ?_)
      refine WL.done (X.then_code ?_)
      refine W.block ?_
      refine W.pick [9, 8, 7, 5, 1, 4, 2] (Γ' := [(9, .int .i64 0), (8, .slice a2_2 n2_2 c2_2), (7, .slice a2_1 n2_1 c2_1), (5, .pointer (some ⟨w4.heap.size, 0, none⟩)), (1, .slice worda ((word.take (min word.length 30)).length) wordc), (4, .bool false), (2, .pointer (some ⟨w.heap.size, 0, none⟩))]) rfl ?_
      refine W.loop (fun m Γ' w' => ∃ i : Nat, Γ' = [(9, .int .i64 ((i : Nat) : Int)), (8, .slice a2_2 n2_2 c2_2), (7, .slice a2_1 n2_1 c2_1), (5, .pointer (some ⟨w4.heap.size, 0, none⟩)), (1, .slice worda ((word.take (min word.length 30)).length) wordc), (4, .bool false), (2, .pointer (some ⟨w.heap.size, 0, none⟩))] ∧ UpG w [] w' [[blk w.heap.size #[.slice dca d.cls.length dcc, .int .i64 d.width, .int .i64 d.start, .slice dna d.next.length dnc, .slice dba d.acc.length dbc] 25], [rowT (tyI .i64) (.slice ca_1 (((leastO d).cls).length) cc_1) 3 ((leastO d).cls)], [rowT (tyI .i64) (.slice na_1 (((leastO d).next).length) nc_1) 3 ((leastO d).next)], [rowT tyB (.slice ba_1 (((leastO d).acc).length) bc_1) 4 ((leastO d).acc)], [blk w4.heap.size #[.slice ca_1 (((leastO d).cls).length) cc_1, .int .i64 ((leastO d).width), .int .i64 ((leastO d).start), .slice na_1 (((leastO d).next).length) nc_1, .slice ba_1 (((leastO d).acc).length) bc_1] 25], [rowT tyLR (.slice a2_1 n2_1 c2_1) 23 Xs_1], [manyF (inLR tyB 4).row Xs_1], [rowT tyLR (.slice a2_2 n2_2 c2_2) 23 Xs_2], [manyF (inLR tyB 4).row Xs_2]] ∧ (i ≤ (leastO d).acc.length) ∧ m = (leastO d).acc.length - i) ((leastO d).acc.length - 0) ⟨0, rfl, H10, (by first | assumption | omega | simp), rfl⟩ ?_
      rintro m1 Γ1 w11 ⟨i, rfl, H11, hi, rfl⟩
      have hul := q1.len
      refine W.seq ?_
      refine W.seq ?_
      refine W.region ?_
      refine WL.op rfl (d_move rfl ?_)
      refine WL.op rfl (d_move rfl ?_)
      refine WL.op rfl (d_lenS Try.underlying29 rfl ?_)
      refine WL.op rfl (d_cmp (decide (((i : Nat) : Int) < ((n2_1 : Nat) : Int))) rfl rfl rfl ?_)
      refine WL.done (X.then_code ?_)
      refine W.ite (p := ((i : Nat) : Int) < ((n2_1 : Nat) : Int)) rfl (fun c54 => ?_) (fun c54 => ?_)
      · skip
        refine W.skip (X.then_code ?_)
        refine W.seq ?_
        refine W.block ?_
        refine W.seq ?_
        refine W.seq ?_
        have hcr := q3.row (leastO d).start.toNat (by omega)
        have hcl2 := q3.len
        have hci : cellB Xs_2 (leastO d).start.toNat i = true := (q3.val _ i (by omega) (by omega)).2 (by rw [Int.toNat_of_nonneg hrs.1, e1]; exact leastD_reach hrt i (by rw [← e1]; omega))
        refine W.region ?_
        refine WL.op rfl (d_move rfl ?_)
        refine WL.op rfl (d_fieldAddrB fld25_2 rfl rfl ?_)
        refine WL.op rfl (d_loadB Try.underlying3 rfl rfl (H11.blk 4 rfl) rfl ?_)
        refine WL.op rfl (t_addr1 (((leastO d).start).toNat) (T := tyLR) rfl Try.underlying29 sz23 rfl rfl (H11.rdT 7 rfl) (by omega) (by omega) ?_)
        refine WL.op rfl (t_load1 (((leastO d).start).toNat) lr0 (T := tyLR) rfl Try.underlying23 rfl rfl (H11.rdT 7 rfl) (by omega) rfl ?_)
        refine WL.op rfl (d_move rfl ?_)
        refine WL.op rfl (t_addr1 i (T := tyB) rfl Try.underlying23 sz4 rfl rfl (show RdT tyB w11 (.slice ((Xs_2.getD (((leastO d).start).toNat) lr0).a) ((Xs_2.getD (((leastO d).start).toNat) lr0).n) ((Xs_2.getD (((leastO d).start).toNat) lr0).c)) ((Xs_2.getD (((leastO d).start).toNat) lr0).xs) from (Inn.own (H11.hpOf 8 rfl)).get lr0 (((leastO d).start).toNat) (by omega)) rfl (by omega) ?_)
        refine WL.op rfl (t_load1 i false (T := tyB) rfl Try.underlying4 rfl rfl (show RdT tyB w11 (.slice ((Xs_2.getD (((leastO d).start).toNat) lr0).a) ((Xs_2.getD (((leastO d).start).toNat) lr0).n) ((Xs_2.getD (((leastO d).start).toNat) lr0).c)) ((Xs_2.getD (((leastO d).start).toNat) lr0).xs) from (Inn.own (H11.hpOf 8 rfl)).get lr0 (((leastO d).start).toNat) (by omega)) (by omega) rfl ?_)
        refine WL.op rfl (d_notB rfl ?_)
        refine WL.done (X.then_code ?_)
        refine W.iteB (b := !(((Xs_2.getD (((leastO d).start).toNat) lr0).xs).getD i false)) rfl (fun c55 => ?_) (fun c55 => ?_)
        · skip
          exfalso; exact absurd hci (by simpa [cellB] using c55)
        · skip
          refine W.skip (X.then_code ?_)
          refine W.seq ?_
          refine W.region ?_
          refine WL.op rfl (d_assign rfl ?_)
          refine WL.done (X.then_code ?_)
          refine W.block ?_
          refine W.pick [10, 9, 8, 7, 5, 1, 4, 2] (Γ' := [(10, .int .i64 0), (9, .int .i64 ((i : Nat) : Int)), (8, .slice a2_2 n2_2 c2_2), (7, .slice a2_1 n2_1 c2_1), (5, .pointer (some ⟨w4.heap.size, 0, none⟩)), (1, .slice worda ((word.take (min word.length 30)).length) wordc), (4, .bool false), (2, .pointer (some ⟨w.heap.size, 0, none⟩))]) rfl ?_
          refine W.loop (fun m Γ' w' => ∃ k : Nat, Γ' = [(10, .int .i64 ((k : Nat) : Int)), (9, .int .i64 ((i : Nat) : Int)), (8, .slice a2_2 n2_2 c2_2), (7, .slice a2_1 n2_1 c2_1), (5, .pointer (some ⟨w4.heap.size, 0, none⟩)), (1, .slice worda ((word.take (min word.length 30)).length) wordc), (4, .bool false), (2, .pointer (some ⟨w.heap.size, 0, none⟩))] ∧ UpG w [] w' [[blk w.heap.size #[.slice dca d.cls.length dcc, .int .i64 d.width, .int .i64 d.start, .slice dna d.next.length dnc, .slice dba d.acc.length dbc] 25], [rowT (tyI .i64) (.slice ca_1 (((leastO d).cls).length) cc_1) 3 ((leastO d).cls)], [rowT (tyI .i64) (.slice na_1 (((leastO d).next).length) nc_1) 3 ((leastO d).next)], [rowT tyB (.slice ba_1 (((leastO d).acc).length) bc_1) 4 ((leastO d).acc)], [blk w4.heap.size #[.slice ca_1 (((leastO d).cls).length) cc_1, .int .i64 ((leastO d).width), .int .i64 ((leastO d).start), .slice na_1 (((leastO d).next).length) nc_1, .slice ba_1 (((leastO d).acc).length) bc_1] 25], [rowT tyLR (.slice a2_1 n2_1 c2_1) 23 Xs_1], [manyF (inLR tyB 4).row Xs_1], [rowT tyLR (.slice a2_2 n2_2 c2_2) 23 Xs_2], [manyF (inLR tyB 4).row Xs_2]] ∧ (k ≤ i) ∧ m = i - k) (i - 0) ⟨0, rfl, H11, (by first | assumption | omega | simp), rfl⟩ ?_
          rintro m2 Γ2 w12 ⟨k, rfl, H12, hk, rfl⟩
          refine W.seq ?_
          refine W.seq ?_
          refine W.region ?_
          refine WL.op rfl (d_move rfl ?_)
          refine WL.op rfl (d_move rfl ?_)
          refine WL.op rfl (d_cmp (decide (((k : Nat) : Int) < ((i : Nat) : Int))) rfl rfl rfl ?_)
          refine WL.done (X.then_code ?_)
          refine W.ite (p := ((k : Nat) : Int) < ((i : Nat) : Int)) rfl (fun c58 => ?_) (fun c58 => ?_)
          · skip
            refine W.skip (X.then_code ?_)
            refine W.seq ?_
            refine W.block ?_
            refine W.seq ?_
            have hur := q1.row i (by omega)
            have huk : cellB Xs_1 i k = true := (q1.val i k (by omega) (by omega)).2 (by rw [e1]; exact dis_symm (leastD_unlike hrt (by omega) (by rw [← e1]; omega)))
            refine W.region ?_
            refine WL.op rfl (d_move rfl ?_)
            refine WL.op rfl (d_move rfl ?_)
            refine WL.op rfl (t_addr1 i (T := tyLR) rfl Try.underlying29 sz23 rfl rfl (H12.rdT 5 rfl) rfl (by omega) ?_)
            refine WL.op rfl (t_load1 i lr0 (T := tyLR) rfl Try.underlying23 rfl rfl (H12.rdT 5 rfl) (by omega) rfl ?_)
            refine WL.op rfl (d_move rfl ?_)
            refine WL.op rfl (t_addr1 k (T := tyB) rfl Try.underlying23 sz4 rfl rfl (show RdT tyB w12 (.slice ((Xs_1.getD i lr0).a) ((Xs_1.getD i lr0).n) ((Xs_1.getD i lr0).c)) ((Xs_1.getD i lr0).xs) from (Inn.own (H12.hpOf 6 rfl)).get lr0 i (by omega)) rfl (by omega) ?_)
            refine WL.op rfl (t_load1 k false (T := tyB) rfl Try.underlying4 rfl rfl (show RdT tyB w12 (.slice ((Xs_1.getD i lr0).a) ((Xs_1.getD i lr0).n) ((Xs_1.getD i lr0).c)) ((Xs_1.getD i lr0).xs) from (Inn.own (H12.hpOf 6 rfl)).get lr0 i (by omega)) (by omega) rfl ?_)
            refine WL.op rfl (d_notB rfl ?_)
            refine WL.done (X.then_code ?_)
            refine W.iteB (b := !(((Xs_1.getD i lr0).xs).getD k false)) rfl (fun c59 => ?_) (fun c59 => ?_)
            · skip
              exfalso; exact absurd huk (by simpa [cellB] using c59)
            · skip
              refine W.skip (X.block_normal (X.then_code ?_))
              refine W.region ?_
              refine WL.op rfl (d_move rfl ?_)
              refine WL.op rfl (d_add rfl rfl (by omega) (by omega) ?_)
              refine WL.op rfl (d_assign rfl ?_)
              refine WL.done ?_
              exact X.next [10, 9, 8, 7, 5, 1, 4, 2] (Γ' := [(10, .int .i64 (((k + 1) : Nat) : Int)), (9, .int .i64 ((i : Nat) : Int)), (8, .slice a2_2 n2_2 c2_2), (7, .slice a2_1 n2_1 c2_1), (5, .pointer (some ⟨w4.heap.size, 0, none⟩)), (1, .slice worda ((word.take (min word.length 30)).length) wordc), (4, .bool false), (2, .pointer (some ⟨w.heap.size, 0, none⟩))]) rfl (i - (k + 1)) (by omega) ⟨k + 1, rfl, H12, (by first | assumption | omega | simp), rfl⟩
          · skip
            refine W.exit (X.then_exit (X.then_exit (X.block_exit (X.block_normal (X.then_code ?_)))))
            refine W.region ?_
            refine WL.op rfl (d_move rfl ?_)
            refine WL.op rfl (d_add rfl rfl (by omega) (by omega) ?_)
            refine WL.op rfl (d_assign rfl ?_)
            refine WL.done ?_
            exact X.next [9, 8, 7, 5, 1, 4, 2] (Γ' := [(9, .int .i64 (((i + 1) : Nat) : Int)), (8, .slice a2_2 n2_2 c2_2), (7, .slice a2_1 n2_1 c2_1), (5, .pointer (some ⟨w4.heap.size, 0, none⟩)), (1, .slice worda ((word.take (min word.length 30)).length) wordc), (4, .bool false), (2, .pointer (some ⟨w.heap.size, 0, none⟩))]) rfl ((leastO d).acc.length - (i + 1)) (by omega) ⟨i + 1, rfl, H12, (by first | assumption | omega | simp), rfl⟩
      · skip
        refine W.exit (X.then_exit (X.then_exit (X.block_exit (X.then_code ?_))))
        refine W.seq ?_
        refine W.regionD mixed (by kernel_rfl) fun hok2 w13 k2 => ?_
        have H13 : UpG w [] w13 [[blk w.heap.size #[.slice dca d.cls.length dcc, .int .i64 d.width, .int .i64 d.start, .slice dna d.next.length dnc, .slice dba d.acc.length dbc] 25], [rowT (tyI .i64) (.slice ca_1 (((leastO d).cls).length) cc_1) 3 ((leastO d).cls)], [rowT (tyI .i64) (.slice na_1 (((leastO d).next).length) nc_1) 3 ((leastO d).next)], [rowT tyB (.slice ba_1 (((leastO d).acc).length) bc_1) 4 ((leastO d).acc)], [blk w4.heap.size #[.slice ca_1 (((leastO d).cls).length) cc_1, .int .i64 ((leastO d).width), .int .i64 ((leastO d).start), .slice na_1 (((leastO d).next).length) nc_1, .slice ba_1 (((leastO d).acc).length) bc_1] 25], [rowT tyLR (.slice a2_1 n2_1 c2_1) 23 Xs_1], [manyF (inLR tyB 4).row Xs_1], [rowT tyLR (.slice a2_2 n2_2 c2_2) 23 Xs_2], [manyF (inLR tyB 4).row Xs_2]] := H11.kept k2
        refine WD.take hok2 0 (.agg #[.slice ca_1 (((leastO d).cls).length) cc_1, .int .i64 ((leastO d).width), .int .i64 ((leastO d).start), .slice na_1 (((leastO d).next).length) nc_1, .slice ba_1 (((leastO d).acc).length) bc_1]) (fun w' => w'.heap[w4.heap.size]? = some (.cells #[.slice ca_1 (((leastO d).cls).length) cc_1, .int .i64 ((leastO d).width), .int .i64 ((leastO d).start), .slice na_1 (((leastO d).next).length) nc_1, .slice ba_1 (((leastO d).acc).length) bc_1] 25 (0, 0))) rfl rfl rfl rfl rfl (H13.blk 4 rfl) (.inl ⟨rfl, fun _ hC => d_loadAB [.slice ca_1 (((leastO d).cls).length) cc_1, .int .i64 ((leastO d).width), .int .i64 ((leastO d).start), .slice na_1 (((leastO d).next).length) nc_1, .slice ba_1 (((leastO d).acc).length) bc_1] Try.underlying25 rfl sz25 rfl hC rfl rfl ⟨rfl, rfl⟩⟩) ?_
        refine WD.loud hok2 1 rfl (⟨_, [], rfl, rfl, rfl, rfl, rfl, rfl, d_call ok24 rfl (Ret.calls (right_any (leastO d) ca_1 na_1 ba_1 cc_1 nc_1 bc_1 w13 (H13.rdT 1 rfl) (H13.rdT 2 rfl) (H13.rdT 3 rfl) ) fun _ w14 p7 => ?_)⟩)
        obtain ⟨rfl, u10⟩ := p7
        have H14 : UpG w [] w14 [[blk w.heap.size #[.slice dca d.cls.length dcc, .int .i64 d.width, .int .i64 d.start, .slice dna d.next.length dnc, .slice dba d.acc.length dbc] 25], [rowT (tyI .i64) (.slice ca_1 (((leastO d).cls).length) cc_1) 3 ((leastO d).cls)], [rowT (tyI .i64) (.slice na_1 (((leastO d).next).length) nc_1) 3 ((leastO d).next)], [rowT tyB (.slice ba_1 (((leastO d).acc).length) bc_1) 4 ((leastO d).acc)], [blk w4.heap.size #[.slice ca_1 (((leastO d).cls).length) cc_1, .int .i64 ((leastO d).width), .int .i64 ((leastO d).start), .slice na_1 (((leastO d).next).length) nc_1, .slice ba_1 (((leastO d).acc).length) bc_1] 25], [rowT tyLR (.slice a2_1 n2_1 c2_1) 23 Xs_1], [manyF (inLR tyB 4).row Xs_1], [rowT tyLR (.slice a2_2 n2_2 c2_2) 23 Xs_2], [manyF (inLR tyB 4).row Xs_2]] := H13.call u10
        refine ⟨trivial, ?_⟩
        refine WD.take hok2 2 (.bool (rightB (leastO d))) (fun _ => True) rfl rfl rfl rfl rfl trivial (.inl ⟨rfl, fun _ _ => d_move rfl ⟨rfl, rfl⟩⟩) ?_
        refine WD.partB 65 (b := rightB (leastO d)) rfl (fun g64 => ?_) (fun g64 => ?_)
        · skip
          refine WD.take hok2 3 (.pointer (some ⟨w4.heap.size, 4, none⟩)) (fun _ => True) rfl rfl rfl rfl rfl trivial (.inl ⟨rfl, fun _ _ => d_fieldAddrB fld25_4 rfl rfl ⟨rfl, rfl⟩⟩) ?_
          refine WD.take hok2 4 (.slice ba_1 (((leastO d).acc).length) bc_1) (fun w' => w'.heap[w4.heap.size]? = some (.cells #[.slice ca_1 (((leastO d).cls).length) cc_1, .int .i64 ((leastO d).width), .int .i64 ((leastO d).start), .slice na_1 (((leastO d).next).length) nc_1, .slice ba_1 (((leastO d).acc).length) bc_1] 25 (0, 0))) rfl rfl rfl rfl rfl (H14.blk 4 rfl) (.inl ⟨rfl, fun _ hC => d_loadB Try.underlying23 rfl rfl hC rfl ⟨rfl, rfl⟩⟩) ?_
          refine WD.take hok2 5 (.int .i64 ((((leastO d).acc).length : Nat) : Int)) (fun _ => True) rfl rfl rfl rfl rfl trivial (.inl ⟨rfl, fun _ _ => d_lenS Try.underlying23 rfl ⟨rfl, rfl⟩⟩) ?_
          refine WD.take hok2 6 (.pointer (some ⟨w.heap.size, 4, none⟩)) (fun _ => True) rfl rfl rfl rfl rfl trivial (.inl ⟨rfl, fun _ _ => d_fieldAddrB fld25_4 rfl rfl ⟨rfl, rfl⟩⟩) ?_
          refine WD.take hok2 7 (.slice dba d.acc.length dbc) (fun w' => w'.heap[w.heap.size]? = some (.cells #[.slice dca d.cls.length dcc, .int .i64 d.width, .int .i64 d.start, .slice dna d.next.length dnc, .slice dba d.acc.length dbc] 25 (0, 0))) rfl rfl rfl rfl rfl (H14.blk 0 rfl) (.inl ⟨rfl, fun _ hC => d_loadB Try.underlying23 rfl rfl hC rfl ⟨rfl, rfl⟩⟩) ?_
          refine WD.take hok2 8 (.int .i64 ((d.acc.length : Nat) : Int)) (fun _ => True) rfl rfl rfl rfl rfl trivial (.inl ⟨rfl, fun _ _ => d_lenS Try.underlying23 rfl ⟨rfl, rfl⟩⟩) ?_
          refine WD.take hok2 9 (.bool (decide (((((leastO d).acc).length : Nat) : Int) ≤ ((d.acc.length : Nat) : Int)))) (fun _ => True) rfl rfl rfl rfl rfl trivial (.inl ⟨rfl, fun _ _ => d_cmp (decide (((((leastO d).acc).length : Nat) : Int) ≤ ((d.acc.length : Nat) : Int))) rfl rfl rfl ⟨rfl, rfl⟩⟩) ?_
          refine WD.take hok2 10 (.bool (decide (((((leastO d).acc).length : Nat) : Int) ≤ ((d.acc.length : Nat) : Int)))) (fun _ => True) rfl rfl rfl rfl rfl trivial (.inl ⟨rfl, fun _ _ => d_pick rfl rfl ⟨rfl, rfl⟩⟩) ?_
          refine WD.take hok2 11 (.bool (decide (((((leastO d).acc).length : Nat) : Int) ≤ ((d.acc.length : Nat) : Int)))) (fun _ => True) rfl rfl rfl rfl rfl trivial (.inl ⟨rfl, fun _ _ => d_move rfl ⟨rfl, rfl⟩⟩) ?_
          refine WD.part 74 (p := ((((leastO d).acc).length : Nat) : Int) ≤ ((d.acc.length : Nat) : Int)) rfl (fun g64x => ?_) (fun g64x => ?_)
          · skip
            refine WD.take hok2 12 (.agg #[.slice ca_1 (((leastO d).cls).length) cc_1, .int .i64 ((leastO d).width), .int .i64 ((leastO d).start), .slice na_1 (((leastO d).next).length) nc_1, .slice ba_1 (((leastO d).acc).length) bc_1]) (fun w' => w'.heap[w4.heap.size]? = some (.cells #[.slice ca_1 (((leastO d).cls).length) cc_1, .int .i64 ((leastO d).width), .int .i64 ((leastO d).start), .slice na_1 (((leastO d).next).length) nc_1, .slice ba_1 (((leastO d).acc).length) bc_1] 25 (0, 0))) rfl rfl rfl rfl rfl (H14.blk 4 rfl) (.inl ⟨rfl, fun _ hC => d_loadAB [.slice ca_1 (((leastO d).cls).length) cc_1, .int .i64 ((leastO d).width), .int .i64 ((leastO d).start), .slice na_1 (((leastO d).next).length) nc_1, .slice ba_1 (((leastO d).acc).length) bc_1] Try.underlying25 rfl sz25 rfl hC rfl rfl ⟨rfl, rfl⟩⟩) ?_
            refine WD.take hok2 13 (.slice worda ((word.take (min word.length 30)).length) wordc) (fun _ => True) rfl rfl rfl rfl rfl trivial (.inl ⟨rfl, fun _ _ => d_move rfl ⟨rfl, rfl⟩⟩) ?_
            refine WD.take hok2 15 (.agg #[.slice dca d.cls.length dcc, .int .i64 d.width, .int .i64 d.start, .slice dna d.next.length dnc, .slice dba d.acc.length dbc]) (fun w' => w'.heap[w.heap.size]? = some (.cells #[.slice dca d.cls.length dcc, .int .i64 d.width, .int .i64 d.start, .slice dna d.next.length dnc, .slice dba d.acc.length dbc] 25 (0, 0))) rfl rfl rfl rfl rfl (H14.blk 0 rfl) (.inl ⟨rfl, fun _ hC => d_loadAB [.slice dca d.cls.length dcc, .int .i64 d.width, .int .i64 d.start, .slice dna d.next.length dnc, .slice dba d.acc.length dbc] Try.underlying25 rfl sz25 rfl hC rfl rfl ⟨rfl, rfl⟩⟩) ?_
            refine WD.take hok2 16 (.slice worda ((word.take (min word.length 30)).length) wordc) (fun _ => True) rfl rfl rfl rfl rfl trivial (.inl ⟨rfl, fun _ _ => d_move rfl ⟨rfl, rfl⟩⟩) ?_
            refine WD.loud hok2 14 rfl (⟨_, [⟨16, .slice worda ((word.take (min word.length 30)).length) wordc, (fun _ => True)⟩, ⟨15, .agg #[.slice dca d.cls.length dcc, .int .i64 d.width, .int .i64 d.start, .slice dna d.next.length dnc, .slice dba d.acc.length dbc], (fun w' => w'.heap[w.heap.size]? = some (.cells #[.slice dca d.cls.length dcc, .int .i64 d.width, .int .i64 d.start, .slice dna d.next.length dnc, .slice dba d.acc.length dbc] 25 (0, 0)))⟩], rfl, rfl, rfl, rfl, rfl, rfl, d_call ok26 rfl (Ret.calls (accepts_any (leastO d) ca_1 na_1 ba_1 cc_1 nc_1 bc_1 worda (word.take (min word.length 30)) wordc w14 (H14.rdT 1 rfl) (H14.rdT 2 rfl) (H14.rdT 3 rfl) (rs1.at H14) ) fun _ w15 p8 => ?_)⟩)
            obtain ⟨rfl, u11⟩ := p8
            have H15 : UpG w [] w15 [[blk w.heap.size #[.slice dca d.cls.length dcc, .int .i64 d.width, .int .i64 d.start, .slice dna d.next.length dnc, .slice dba d.acc.length dbc] 25], [rowT (tyI .i64) (.slice ca_1 (((leastO d).cls).length) cc_1) 3 ((leastO d).cls)], [rowT (tyI .i64) (.slice na_1 (((leastO d).next).length) nc_1) 3 ((leastO d).next)], [rowT tyB (.slice ba_1 (((leastO d).acc).length) bc_1) 4 ((leastO d).acc)], [blk w4.heap.size #[.slice ca_1 (((leastO d).cls).length) cc_1, .int .i64 ((leastO d).width), .int .i64 ((leastO d).start), .slice na_1 (((leastO d).next).length) nc_1, .slice ba_1 (((leastO d).acc).length) bc_1] 25], [rowT tyLR (.slice a2_1 n2_1 c2_1) 23 Xs_1], [manyF (inLR tyB 4).row Xs_1], [rowT tyLR (.slice a2_2 n2_2 c2_2) 23 Xs_2], [manyF (inLR tyB 4).row Xs_2]] := H14.call u11
            refine ⟨⟨trivial, (H15.blk 0 rfl), trivial⟩, ?_⟩
            refine WD.loud hok2 17 rfl (⟨_, [], rfl, rfl, rfl, rfl, rfl, rfl, d_call ok26 rfl (Ret.calls (accepts_any d dca dna dba dcc dnc dbc worda (word.take (min word.length 30)) wordc w15 (rcd.at H15) (rnd.at H15) (rbd.at H15) (rs1.at H15) ) fun _ w16 p9 => ?_)⟩)
            obtain ⟨rfl, u12⟩ := p9
            have H16 : UpG w [] w16 [[blk w.heap.size #[.slice dca d.cls.length dcc, .int .i64 d.width, .int .i64 d.start, .slice dna d.next.length dnc, .slice dba d.acc.length dbc] 25], [rowT (tyI .i64) (.slice ca_1 (((leastO d).cls).length) cc_1) 3 ((leastO d).cls)], [rowT (tyI .i64) (.slice na_1 (((leastO d).next).length) nc_1) 3 ((leastO d).next)], [rowT tyB (.slice ba_1 (((leastO d).acc).length) bc_1) 4 ((leastO d).acc)], [blk w4.heap.size #[.slice ca_1 (((leastO d).cls).length) cc_1, .int .i64 ((leastO d).width), .int .i64 ((leastO d).start), .slice na_1 (((leastO d).next).length) nc_1, .slice ba_1 (((leastO d).acc).length) bc_1] 25], [rowT tyLR (.slice a2_1 n2_1 c2_1) 23 Xs_1], [manyF (inLR tyB 4).row Xs_1], [rowT tyLR (.slice a2_2 n2_2 c2_2) 23 Xs_2], [manyF (inLR tyB 4).row Xs_2]] := H15.call u12
            refine ⟨trivial, ?_⟩
            refine WD.take hok2 18 (.bool (decide ((acceptsB (leastO d) (word.take (min word.length 30))) = (acceptsB d (word.take (min word.length 30)))))) (fun _ => True) rfl rfl rfl rfl rfl trivial (.inl ⟨rfl, fun _ _ => d_booleq Try.underlying4 rfl rfl ⟨rfl, rfl⟩⟩) ?_
            refine WD.take hok2 19 (.bool (decide ((acceptsB (leastO d) (word.take (min word.length 30))) = (acceptsB d (word.take (min word.length 30)))))) (fun _ => True) rfl rfl rfl rfl rfl trivial (.inl ⟨rfl, fun _ _ => d_pick rfl rfl ⟨rfl, rfl⟩⟩) ?_
            refine WD.take hok2 20 (.bool (decide ((acceptsB (leastO d) (word.take (min word.length 30))) = (acceptsB d (word.take (min word.length 30)))))) (fun _ => True) rfl rfl rfl rfl rfl trivial (.inl ⟨rfl, fun _ _ => d_assign rfl ⟨rfl, rfl⟩⟩) ?_
            refine WD.done hok2 rfl (X.then_code ?_)
            refine W.pick [4] (Γ' := [(4, .bool (decide ((acceptsB (leastO d) (word.take (min word.length 30))) = (acceptsB d (word.take (min word.length 30))))))]) rfl ?_
            refine W.ret (X.ret1 rfl rfl ?_)
            exact ⟨(by rw [decide_eq_true (by rw [e1]; exact leq_accepts (leastD_right hrt) hrt (leastD_lang hrt) _)]), H16.noneL⟩
          · skip
            exact absurd (by omega) g64x
        · skip
          exact absurd hrl g64
end Go.Proofs.Ytoeockpkkmgieaa

