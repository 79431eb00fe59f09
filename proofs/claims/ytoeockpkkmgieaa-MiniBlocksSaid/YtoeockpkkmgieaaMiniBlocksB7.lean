/- The walks of functions, printed by wip/tools/gw.py. -/
import Derived.Test.YtoeockpkkmgieaaMiniBlocksB1
import Derived.Test.YtoeockpkkmgieaaMiniBlocksB2
namespace Go.Proofs.Ytoeockpkkmgieaa
open Go Go.Sx
set_option linter.unusedVariables false
set_option linter.unusedSimpArgs false
set_option maxRecDepth 20000 in
theorem go11_any (d : DfaD) (dca : Option Addr) (dna : Option Addr) (dba : Option Addr) (dcc : Nat) (dnc : Nat) (dbc : Nat) (iI : Int) (i : Nat) (c : Int) (w : World) (rcd : RdT (tyI .i64) w (.slice dca d.cls.length dcc) d.cls) (rnd : RdT (tyI .i64) w (.slice dna d.next.length dnc) d.next) (rbd : RdT tyB w (.slice dba d.acc.length dbc) d.acc) (e_i : iI = ((i : Nat) : Int)) (hrt : rightB d = true) (hi : i < d.acc.length) (hc : 0 ≤ c ∧ c < 259) :
    Calls Try.prog 81 #[.agg #[.slice dca d.cls.length dcc, .int .i64 d.width, .int .i64 d.start, .slice dna d.next.length dnc, .slice dba d.acc.length dbc], .int .i64 iI, .int .i64 c] w (Ret fun v w' => v = .int .i64 (((dN d i c) : Nat) : Int) ∧ Upd w [] w' []) := by
  subst e_i
  have hri := rightB_iff.1 hrt
  have hs1 := right_sym hrt hc.1 hc.2
  have hix := right_idx (q := (i : Int)) hrt (by omega) (by omega) hs1.2.1 hs1.2.2.1
  have le_rcd := rcd.le
  have le_rnd := rnd.le
  have le_rbd := rbd.le
  refine calls_of_W (args := [.agg #[.slice dca d.cls.length dcc, .int .i64 d.width, .int .i64 d.start, .slice dna d.next.length dnc, .slice dba d.acc.length dbc], .int .i64 ((i : Nat) : Int), .int .i64 c]) Try.func81 rfl rfl rfl ?_
  have H0 : UpG w [] w [] := UpG.nil w
  show W _ _ _ _ [(0, .agg #[.slice dca d.cls.length dcc, .int .i64 d.width, .int .i64 d.start, .slice dna d.next.length dnc, .slice dba d.acc.length dbc]), (1, .int .i64 ((i : Nat) : Int)), (2, .int .i64 c)] w
  refine W.seq ?_
  refine W.region ?_
  refine WL.op rfl (d_box rfl fun w1 u1 => ?_)
  have H1 : UpG w [] w1 [[blk w.heap.size #[.slice dca d.cls.length dcc, .int .i64 d.width, .int .i64 d.start, .slice dna d.next.length dnc, .slice dba d.acc.length dbc] 25]] := H0.new' u1
  refine WL.op rfl (d_assign rfl ?_)
  refine WL.done (X.then_code ?_)
  refine W.seq ?_
  refine W.regionD mixed (by kernel_rfl) fun hok1 w2 k1 => ?_
  have H2 : UpG w [] w2 [[blk w.heap.size #[.slice dca d.cls.length dcc, .int .i64 d.width, .int .i64 d.start, .slice dna d.next.length dnc, .slice dba d.acc.length dbc] 25]] := H1.kept k1
  refine WD.take hok1 0 (.pointer (some ⟨w.heap.size, 3, none⟩)) (fun _ => True) rfl rfl rfl rfl rfl trivial (.inl ⟨rfl, fun _ _ => d_fieldAddrB fld25_3 rfl rfl ⟨rfl, rfl⟩⟩) ?_
  refine WD.take hok1 1 (.slice dna d.next.length dnc) (fun w' => w'.heap[w.heap.size]? = some (.cells #[.slice dca d.cls.length dcc, .int .i64 d.width, .int .i64 d.start, .slice dna d.next.length dnc, .slice dba d.acc.length dbc] 25 (0, 0))) rfl rfl rfl rfl rfl (H2.blk 0 rfl) (.inl ⟨rfl, fun _ hC => d_loadB Try.underlying22 rfl rfl hC rfl ⟨rfl, rfl⟩⟩) ?_
  refine WD.take hok1 2 (.int .i64 ((i : Nat) : Int)) (fun _ => True) rfl rfl rfl rfl rfl trivial (.inl ⟨rfl, fun _ _ => d_move rfl ⟨rfl, rfl⟩⟩) ?_
  refine WD.take hok1 3 (.pointer (some ⟨w.heap.size, 1, none⟩)) (fun _ => True) rfl rfl rfl rfl rfl trivial (.inl ⟨rfl, fun _ _ => d_fieldAddrB fld25_1 rfl rfl ⟨rfl, rfl⟩⟩) ?_
  refine WD.take hok1 4 (.int .i64 d.width) (fun w' => w'.heap[w.heap.size]? = some (.cells #[.slice dca d.cls.length dcc, .int .i64 d.width, .int .i64 d.start, .slice dna d.next.length dnc, .slice dba d.acc.length dbc] 25 (0, 0))) rfl rfl rfl rfl rfl (H2.blk 0 rfl) (.inl ⟨rfl, fun _ hC => d_loadB Try.underlying3 rfl rfl hC rfl ⟨rfl, rfl⟩⟩) ?_
  refine WD.take hok1 5 (.int .i64 (((i : Nat) : Int) * d.width)) (fun _ => True) rfl rfl rfl rfl rfl trivial (.inl ⟨rfl, fun _ _ => d_mul rfl rfl (by omega) (by omega) ⟨rfl, rfl⟩⟩) ?_
  refine WD.take hok1 6 (.pointer (some ⟨w.heap.size, 0, none⟩)) (fun _ => True) rfl rfl rfl rfl rfl trivial (.inl ⟨rfl, fun _ _ => d_fieldAddrB fld25_0 rfl rfl ⟨rfl, rfl⟩⟩) ?_
  refine WD.take hok1 7 (.slice dca d.cls.length dcc) (fun w' => w'.heap[w.heap.size]? = some (.cells #[.slice dca d.cls.length dcc, .int .i64 d.width, .int .i64 d.start, .slice dna d.next.length dnc, .slice dba d.acc.length dbc] 25 (0, 0))) rfl rfl rfl rfl rfl (H2.blk 0 rfl) (.inl ⟨rfl, fun _ hC => d_loadB Try.underlying22 rfl rfl hC rfl ⟨rfl, rfl⟩⟩) ?_
  refine WD.take hok1 8 (.int .i64 c) (fun _ => True) rfl rfl rfl rfl rfl trivial (.inl ⟨rfl, fun _ _ => d_move rfl ⟨rfl, rfl⟩⟩) ?_
  refine WD.take hok1 9 (elemPtr (.slice dca d.cls.length dcc) c.toNat) (fun w' => RdT (tyI .i64) w' (.slice dca d.cls.length dcc) d.cls) rfl rfl rfl rfl rfl (rcd.at H2) (.inl ⟨rfl, fun _ hC => t_addr1 c.toNat (T := (tyI .i64)) rfl Try.underlying22 sz3 rfl rfl hC (by omega) (by omega) ⟨rfl, rfl⟩⟩) ?_
  refine WD.take hok1 10 (.int .i64 (d.cls.getD c.toNat 0)) (fun w' => RdT (tyI .i64) w' (.slice dca d.cls.length dcc) d.cls) rfl rfl rfl rfl rfl (rcd.at H2) (.inl ⟨rfl, fun _ hC => t_load1 c.toNat 0 (T := (tyI .i64)) rfl Try.underlying3 rfl rfl hC (by omega) rfl ⟨rfl, rfl⟩⟩) ?_
  refine WD.take hok1 11 (.int .i64 ((((i : Nat) : Int) * d.width) + (d.cls.getD c.toNat 0))) (fun _ => True) rfl rfl rfl rfl rfl trivial (.inl ⟨rfl, fun _ _ => d_add rfl rfl (by omega) (by omega) ⟨rfl, rfl⟩⟩) ?_
  refine WD.take hok1 12 (elemPtr (.slice dna d.next.length dnc) (((((i : Nat) : Int) * d.width) + (d.cls.getD c.toNat 0)).toNat)) (fun w' => RdT (tyI .i64) w' (.slice dna d.next.length dnc) d.next) rfl rfl rfl rfl rfl (rnd.at H2) (.inl ⟨rfl, fun _ hC => t_addr1 (((((i : Nat) : Int) * d.width) + (d.cls.getD c.toNat 0)).toNat) (T := (tyI .i64)) rfl Try.underlying22 sz3 rfl rfl hC (by omega) (by omega) ⟨rfl, rfl⟩⟩) ?_
  refine WD.take hok1 13 (.int .i64 (d.next.getD (((((i : Nat) : Int) * d.width) + (d.cls.getD c.toNat 0)).toNat) 0)) (fun w' => RdT (tyI .i64) w' (.slice dna d.next.length dnc) d.next) rfl rfl rfl rfl rfl (rnd.at H2) (.inl ⟨rfl, fun _ hC => t_load1 (((((i : Nat) : Int) * d.width) + (d.cls.getD c.toNat 0)).toNat) 0 (T := (tyI .i64)) rfl Try.underlying3 rfl rfl hC (by omega) rfl ⟨rfl, rfl⟩⟩) ?_
  refine WD.take hok1 14 (.int .i64 (d.next.getD (((((i : Nat) : Int) * d.width) + (d.cls.getD c.toNat 0)).toNat) 0)) (fun _ => True) rfl rfl rfl rfl rfl trivial (.inl ⟨rfl, fun _ _ => d_assign rfl ⟨rfl, rfl⟩⟩) ?_
  refine WD.done hok1 rfl (X.then_code ?_)
  refine W.ret (X.ret1 rfl rfl ?_)
  exact ⟨(by exact congrArg (Value.int .i64) (dN_int hrt hi hc).symm), H2.noneL⟩

set_option maxRecDepth 20000 in
theorem heads_any (d : DfaD) (dca : Option Addr) (dna : Option Addr) (dba : Option Addr) (dcc : Nat) (dnc : Nat) (dbc : Nat) (w : World) (rcd : RdT (tyI .i64) w (.slice dca d.cls.length dcc) d.cls) (rnd : RdT (tyI .i64) w (.slice dna d.next.length dnc) d.next) (rbd : RdT tyB w (.slice dba d.acc.length dbc) d.acc) (hrt : rightB d = true) :
    Calls Try.prog 89 #[.agg #[.slice dca d.cls.length dcc, .int .i64 d.width, .int .i64 d.start, .slice dna d.next.length dnc, .slice dba d.acc.length dbc]] w (Ret fun v w' => ∃ a2 : Option Addr, ∃ hs : List Int, ∃ c2 : Nat, v = .slice a2 hs.length c2 ∧ Upd w [] w' [rowT (tyI .i64) (.slice a2 hs.length c2) 3 hs] ∧ (HdI d hs 259)) := by
  have hri := rightB_iff.1 hrt
  have le_rcd := rcd.le
  have le_rnd := rnd.le
  have le_rbd := rbd.le
  refine calls_of_W (args := [.agg #[.slice dca d.cls.length dcc, .int .i64 d.width, .int .i64 d.start, .slice dna d.next.length dnc, .slice dba d.acc.length dbc]]) Try.func89 rfl rfl rfl ?_
  have H0 : UpG w [] w [] := UpG.nil w
  show W _ _ _ _ [(0, .agg #[.slice dca d.cls.length dcc, .int .i64 d.width, .int .i64 d.start, .slice dna d.next.length dnc, .slice dba d.acc.length dbc])] w
  refine W.seq ?_
  refine W.region ?_
  refine WL.op rfl (d_box rfl fun w1 u1 => ?_)
  have H1 : UpG w [] w1 [[blk w.heap.size #[.slice dca d.cls.length dcc, .int .i64 d.width, .int .i64 d.start, .slice dna d.next.length dnc, .slice dba d.acc.length dbc] 25]] := H0.new' u1
  refine WL.op rfl (d_assign rfl ?_)
  refine WL.done (X.then_code ?_)
  refine W.seq ?_
  refine W.region ?_
  refine WL.op rfl (d_assign rfl ?_)
  refine WL.done (X.then_code ?_)
  refine W.seq ?_
  refine W.seq ?_
  refine W.region ?_
  refine WL.op rfl (d_assign rfl ?_)
  refine WL.done (X.then_code ?_)
  refine W.block ?_
  have H2 : UpG w [] w1 [[blk w.heap.size #[.slice dca d.cls.length dcc, .int .i64 d.width, .int .i64 d.start, .slice dna d.next.length dnc, .slice dba d.acc.length dbc] 25], [rowT (tyI .i64) (.slice none (([] : List Int).length) 0) 3 ([] : List Int)]] := H1.new' (Upd.nilRowT w1 (tyI .i64) 3)
  refine W.pick [4, 3, 2, 1] (Γ' := [(4, .int .i64 0), (3, .slice none (([] : List Int).length) 0), (2, .slice none 0 0), (1, .pointer (some ⟨w.heap.size, 0, none⟩))]) rfl ?_
  refine W.loop (fun m Γ' w' => ∃ s : Nat, ∃ q : List Int, ∃ qa : Option Addr, ∃ qc : Nat, Γ' = [(4, .int .i64 ((s : Nat) : Int)), (3, .slice qa q.length qc), (2, .slice none 0 0), (1, .pointer (some ⟨w.heap.size, 0, none⟩))] ∧ UpG w [] w' [[blk w.heap.size #[.slice dca d.cls.length dcc, .int .i64 d.width, .int .i64 d.start, .slice dna d.next.length dnc, .slice dba d.acc.length dbc] 25], [rowT (tyI .i64) (.slice qa q.length qc) 3 q]] ∧ (s ≤ 259) ∧ (HdI d q s) ∧ m = 259 - s) (259 - 0) ⟨0, ([] : List Int), none, 0, rfl, H2, (by first | assumption | omega | simp), (by exact HdI.start d), rfl⟩ ?_
  rintro m1 Γ1 w2 ⟨s, q, qa, qc, rfl, H3, hs, hq, rfl⟩
  have hql := hq.len
  refine W.seq ?_
  refine W.seq ?_
  refine W.region ?_
  refine WL.op rfl (d_move rfl ?_)
  refine WL.op rfl (d_cmp (decide (((s : Nat) : Int) < (259 : Int))) rfl rfl rfl ?_)
  refine WL.done (X.then_code ?_)
  refine W.ite (p := ((s : Nat) : Int) < (259 : Int)) rfl (fun c14 => ?_) (fun c14 => ?_)
  · skip
    refine W.skip (X.then_code ?_)
    refine W.seq ?_
    refine W.block ?_
    refine W.seq ?_
    refine W.region ?_
    refine WL.op rfl (d_assign rfl ?_)
    refine WL.done (X.then_code ?_)
    refine W.seq ?_
    refine W.seq ?_
    refine W.region ?_
    refine WL.op rfl (d_assign rfl ?_)
    refine WL.done (X.then_code ?_)
    refine W.block ?_
    refine W.pick [6, 5, 4, 3, 2, 1] (Γ' := [(6, .int .i64 0), (5, .bool true), (4, .int .i64 ((s : Nat) : Int)), (3, .slice qa q.length qc), (2, .slice none 0 0), (1, .pointer (some ⟨w.heap.size, 0, none⟩))]) rfl ?_
    refine W.loop (fun m Γ' w' => ∃ k : Nat, ∃ b : Bool, Γ' = [(6, .int .i64 ((k : Nat) : Int)), (5, .bool b), (4, .int .i64 ((s : Nat) : Int)), (3, .slice qa q.length qc), (2, .slice none 0 0), (1, .pointer (some ⟨w.heap.size, 0, none⟩))] ∧ UpG w [] w' [[blk w.heap.size #[.slice dca d.cls.length dcc, .int .i64 d.width, .int .i64 d.start, .slice dna d.next.length dnc, .slice dba d.acc.length dbc] 25], [rowT (tyI .i64) (.slice qa q.length qc) 3 q]] ∧ (k ≤ q.length) ∧ (b = isHd d q s k) ∧ m = q.length - k) (q.length - 0) ⟨0, true, rfl, H3, (by first | assumption | omega | simp), (by rfl), rfl⟩ ?_
    rintro m2 Γ2 w3 ⟨k, b, rfl, H4, hk, hb, rfl⟩
    refine W.seq ?_
    refine W.seq ?_
    refine W.region ?_
    refine WL.op rfl (d_move rfl ?_)
    refine WL.op rfl (d_move rfl ?_)
    refine WL.op rfl (d_lenS Try.underlying22 rfl ?_)
    refine WL.op rfl (d_cmp (decide (((k : Nat) : Int) < ((q.length : Nat) : Int))) rfl rfl rfl ?_)
    refine WL.done (X.then_code ?_)
    refine W.ite (p := ((k : Nat) : Int) < ((q.length : Nat) : Int)) rfl (fun c16 => ?_) (fun c16 => ?_)
    · skip
      refine W.skip (X.then_code ?_)
      refine W.seq ?_
      refine W.block ?_
      have hqb := hq.bd (q.getD k 0) (getD_mem' (by omega))
      refine W.regionD mixed (by kernel_rfl) fun hok1 w4 k1 => ?_
      have H5 : UpG w [] w4 [[blk w.heap.size #[.slice dca d.cls.length dcc, .int .i64 d.width, .int .i64 d.start, .slice dna d.next.length dnc, .slice dba d.acc.length dbc] 25], [rowT (tyI .i64) (.slice qa q.length qc) 3 q]] := H4.kept k1
      refine WD.take hok1 0 (.bool b) (fun _ => True) rfl rfl rfl rfl rfl trivial (.inl ⟨rfl, fun _ _ => d_move rfl ⟨rfl, rfl⟩⟩) ?_
      refine WD.take hok1 1 (.bool b) (fun _ => True) rfl rfl rfl rfl rfl trivial (.inl ⟨rfl, fun _ _ => d_move rfl ⟨rfl, rfl⟩⟩) ?_
      refine WD.partB 18 (b := b) rfl (fun g17 => ?_) (fun g17 => ?_)
      · skip
        refine WD.take hok1 2 (.pointer (some ⟨w.heap.size, 0, none⟩)) (fun _ => True) rfl rfl rfl rfl rfl trivial (.inl ⟨rfl, fun _ _ => d_fieldAddrB fld25_0 rfl rfl ⟨rfl, rfl⟩⟩) ?_
        refine WD.take hok1 3 (.slice dca d.cls.length dcc) (fun w' => w'.heap[w.heap.size]? = some (.cells #[.slice dca d.cls.length dcc, .int .i64 d.width, .int .i64 d.start, .slice dna d.next.length dnc, .slice dba d.acc.length dbc] 25 (0, 0))) rfl rfl rfl rfl rfl (H5.blk 0 rfl) (.inl ⟨rfl, fun _ hC => d_loadB Try.underlying22 rfl rfl hC rfl ⟨rfl, rfl⟩⟩) ?_
        refine WD.take hok1 4 (.slice qa q.length qc) (fun _ => True) rfl rfl rfl rfl rfl trivial (.inl ⟨rfl, fun _ _ => d_move rfl ⟨rfl, rfl⟩⟩) ?_
        refine WD.take hok1 5 (.int .i64 ((k : Nat) : Int)) (fun _ => True) rfl rfl rfl rfl rfl trivial (.inl ⟨rfl, fun _ _ => d_move rfl ⟨rfl, rfl⟩⟩) ?_
        refine WD.take hok1 6 (elemPtr (.slice qa q.length qc) k) (fun w' => RdT (tyI .i64) w' (.slice qa q.length qc) q) rfl rfl rfl rfl rfl (H5.rdT 1 rfl) (.inl ⟨rfl, fun _ hC => t_addr1 k (T := (tyI .i64)) rfl Try.underlying22 sz3 rfl rfl hC rfl (by omega) ⟨rfl, rfl⟩⟩) ?_
        refine WD.take hok1 7 (.int .i64 (q.getD k 0)) (fun w' => RdT (tyI .i64) w' (.slice qa q.length qc) q) rfl rfl rfl rfl rfl (H5.rdT 1 rfl) (.inl ⟨rfl, fun _ hC => t_load1 k 0 (T := (tyI .i64)) rfl Try.underlying3 rfl rfl hC (by omega) rfl ⟨rfl, rfl⟩⟩) ?_
        refine WD.take hok1 8 (elemPtr (.slice dca d.cls.length dcc) ((q.getD k 0).toNat)) (fun w' => RdT (tyI .i64) w' (.slice dca d.cls.length dcc) d.cls) rfl rfl rfl rfl rfl (rcd.at H5) (.inl ⟨rfl, fun _ hC => t_addr1 ((q.getD k 0).toNat) (T := (tyI .i64)) rfl Try.underlying22 sz3 rfl rfl hC (by omega) (by omega) ⟨rfl, rfl⟩⟩) ?_
        refine WD.take hok1 9 (.int .i64 (d.cls.getD ((q.getD k 0).toNat) 0)) (fun w' => RdT (tyI .i64) w' (.slice dca d.cls.length dcc) d.cls) rfl rfl rfl rfl rfl (rcd.at H5) (.inl ⟨rfl, fun _ hC => t_load1 ((q.getD k 0).toNat) 0 (T := (tyI .i64)) rfl Try.underlying3 rfl rfl hC (by omega) rfl ⟨rfl, rfl⟩⟩) ?_
        refine WD.take hok1 10 (.pointer (some ⟨w.heap.size, 0, none⟩)) (fun _ => True) rfl rfl rfl rfl rfl trivial (.inl ⟨rfl, fun _ _ => d_fieldAddrB fld25_0 rfl rfl ⟨rfl, rfl⟩⟩) ?_
        refine WD.take hok1 11 (.slice dca d.cls.length dcc) (fun w' => w'.heap[w.heap.size]? = some (.cells #[.slice dca d.cls.length dcc, .int .i64 d.width, .int .i64 d.start, .slice dna d.next.length dnc, .slice dba d.acc.length dbc] 25 (0, 0))) rfl rfl rfl rfl rfl (H5.blk 0 rfl) (.inl ⟨rfl, fun _ hC => d_loadB Try.underlying22 rfl rfl hC rfl ⟨rfl, rfl⟩⟩) ?_
        refine WD.take hok1 12 (.int .i64 ((s : Nat) : Int)) (fun _ => True) rfl rfl rfl rfl rfl trivial (.inl ⟨rfl, fun _ _ => d_move rfl ⟨rfl, rfl⟩⟩) ?_
        refine WD.take hok1 13 (elemPtr (.slice dca d.cls.length dcc) s) (fun w' => RdT (tyI .i64) w' (.slice dca d.cls.length dcc) d.cls) rfl rfl rfl rfl rfl (rcd.at H5) (.inl ⟨rfl, fun _ hC => t_addr1 s (T := (tyI .i64)) rfl Try.underlying22 sz3 rfl rfl hC rfl (by omega) ⟨rfl, rfl⟩⟩) ?_
        refine WD.take hok1 14 (.int .i64 (d.cls.getD s 0)) (fun w' => RdT (tyI .i64) w' (.slice dca d.cls.length dcc) d.cls) rfl rfl rfl rfl rfl (rcd.at H5) (.inl ⟨rfl, fun _ hC => t_load1 s 0 (T := (tyI .i64)) rfl Try.underlying3 rfl rfl hC (by omega) rfl ⟨rfl, rfl⟩⟩) ?_
        refine WD.take hok1 15 (.bool (decide ((d.cls.getD ((q.getD k 0).toNat) 0) ≠ (d.cls.getD s 0)))) (fun _ => True) rfl rfl rfl rfl rfl trivial (.inl ⟨rfl, fun _ _ => d_cmp (decide ((d.cls.getD ((q.getD k 0).toNat) 0) ≠ (d.cls.getD s 0))) rfl rfl rfl ⟨rfl, rfl⟩⟩) ?_
        refine WD.take hok1 16 (.bool (decide ((d.cls.getD ((q.getD k 0).toNat) 0) ≠ (d.cls.getD s 0)))) (fun _ => True) rfl rfl rfl rfl rfl trivial (.inl ⟨rfl, fun _ _ => d_pick rfl rfl ⟨rfl, rfl⟩⟩) ?_
        refine WD.take hok1 17 (.bool (decide ((d.cls.getD ((q.getD k 0).toNat) 0) ≠ (d.cls.getD s 0)))) (fun _ => True) rfl rfl rfl rfl rfl trivial (.inl ⟨rfl, fun _ _ => d_assign rfl ⟨rfl, rfl⟩⟩) ?_
        refine WD.done hok1 rfl (X.block_normal (X.then_code ?_))
        refine W.region ?_
        refine WL.op rfl (d_move rfl ?_)
        refine WL.op rfl (d_add rfl rfl (by omega) (by omega) ?_)
        refine WL.op rfl (d_assign rfl ?_)
        refine WL.done ?_
        exact X.next [6, 5, 4, 3, 2, 1] (Γ' := [(6, .int .i64 (((k + 1) : Nat) : Int)), (5, .bool (decide ((d.cls.getD ((q.getD k 0).toNat) 0) ≠ (d.cls.getD s 0)))), (4, .int .i64 ((s : Nat) : Int)), (3, .slice qa q.length qc), (2, .slice none 0 0), (1, .pointer (some ⟨w.heap.size, 0, none⟩))]) rfl (q.length - (k + 1)) (by omega) ⟨k + 1, decide ((d.cls.getD ((q.getD k 0).toNat) 0) ≠ (d.cls.getD s 0)), rfl, H5, (by first | assumption | omega | simp), (by first | (rw [isHd_step (by omega), ← hb, g17]; rfl) | (rw [isHd_step (by omega), ← hb, Bool.eq_false_iff.2 g17]; rfl)), rfl⟩
      · skip
        refine WD.take hok1 2 undef (fun _ => True) rfl rfl rfl rfl rfl trivial (.inr ⟨rfl, rfl⟩) ?_
        refine WD.take hok1 3 undef (fun _ => True) rfl rfl rfl rfl rfl trivial (.inr ⟨rfl, rfl⟩) ?_
        refine WD.take hok1 4 undef (fun _ => True) rfl rfl rfl rfl rfl trivial (.inr ⟨rfl, rfl⟩) ?_
        refine WD.take hok1 5 undef (fun _ => True) rfl rfl rfl rfl rfl trivial (.inr ⟨rfl, rfl⟩) ?_
        refine WD.take hok1 6 undef (fun _ => True) rfl rfl rfl rfl rfl trivial (.inr ⟨rfl, rfl⟩) ?_
        refine WD.take hok1 7 undef (fun _ => True) rfl rfl rfl rfl rfl trivial (.inr ⟨rfl, rfl⟩) ?_
        refine WD.take hok1 8 undef (fun _ => True) rfl rfl rfl rfl rfl trivial (.inr ⟨rfl, rfl⟩) ?_
        refine WD.take hok1 9 undef (fun _ => True) rfl rfl rfl rfl rfl trivial (.inr ⟨rfl, rfl⟩) ?_
        refine WD.take hok1 10 undef (fun _ => True) rfl rfl rfl rfl rfl trivial (.inr ⟨rfl, rfl⟩) ?_
        refine WD.take hok1 11 undef (fun _ => True) rfl rfl rfl rfl rfl trivial (.inr ⟨rfl, rfl⟩) ?_
        refine WD.take hok1 12 undef (fun _ => True) rfl rfl rfl rfl rfl trivial (.inr ⟨rfl, rfl⟩) ?_
        refine WD.take hok1 13 undef (fun _ => True) rfl rfl rfl rfl rfl trivial (.inr ⟨rfl, rfl⟩) ?_
        refine WD.take hok1 14 undef (fun _ => True) rfl rfl rfl rfl rfl trivial (.inr ⟨rfl, rfl⟩) ?_
        refine WD.take hok1 15 undef (fun _ => True) rfl rfl rfl rfl rfl trivial (.inr ⟨rfl, rfl⟩) ?_
        refine WD.take hok1 16 (.bool false) (fun _ => True) rfl rfl rfl rfl rfl trivial (.inl ⟨rfl, fun _ _ => d_pick rfl rfl ⟨rfl, rfl⟩⟩) ?_
        refine WD.take hok1 17 (.bool false) (fun _ => True) rfl rfl rfl rfl rfl trivial (.inl ⟨rfl, fun _ _ => d_assign rfl ⟨rfl, rfl⟩⟩) ?_
        refine WD.done hok1 rfl (X.block_normal (X.then_code ?_))
        refine W.region ?_
        refine WL.op rfl (d_move rfl ?_)
        refine WL.op rfl (d_add rfl rfl (by omega) (by omega) ?_)
        refine WL.op rfl (d_assign rfl ?_)
        refine WL.done ?_
        exact X.next [6, 5, 4, 3, 2, 1] (Γ' := [(6, .int .i64 (((k + 1) : Nat) : Int)), (5, .bool false), (4, .int .i64 ((s : Nat) : Int)), (3, .slice qa q.length qc), (2, .slice none 0 0), (1, .pointer (some ⟨w.heap.size, 0, none⟩))]) rfl (q.length - (k + 1)) (by omega) ⟨k + 1, false, rfl, H5, (by first | assumption | omega | simp), (by first | (rw [isHd_step (by omega), ← hb, g17]; rfl) | (rw [isHd_step (by omega), ← hb, Bool.eq_false_iff.2 g17]; rfl)), rfl⟩
    · skip
      refine W.exit (X.then_exit (X.then_exit (X.block_exit (X.then_code ?_))))
      refine W.seq ?_
      refine W.region ?_
      refine WL.op rfl (d_move rfl ?_)
      refine WL.done (X.then_code ?_)
      refine W.iteB (b := b) rfl (fun c19 => ?_) (fun c19 => ?_)
      · skip
        refine W.region ?_
        refine WL.op rfl (d_move rfl ?_)
        refine WL.op rfl (d_move rfl ?_)
        refine WL.op rfl (t_buildSlice (T := (tyI .i64)) (xs := [((s : Nat) : Int)]) (cs := #[.int .i64 ((s : Nat) : Int)]) rfl Try.underlying22 sz3 rfl rfl rfl rfl (by kernel_rfl) rfl rfl fun w5 u2 => ?_)
        have H6 : UpG w [] w5 [[blk w.heap.size #[.slice dca d.cls.length dcc, .int .i64 d.width, .int .i64 d.start, .slice dna d.next.length dnc, .slice dba d.acc.length dbc] 25], [rowT (tyI .i64) (.slice qa q.length qc) 3 q], [rowT (tyI .i64) (.slice (some ⟨w3.heap.size, 0, none⟩) ([((s : Nat) : Int)].length) ([((s : Nat) : Int)].length)) 3 [((s : Nat) : Int)]]] := H4.new' u2
        refine WL.op rfl (t_append (T := (tyI .i64)) (xs := q) (ys := [((s : Nat) : Int)]) rfl Try.underlying22 sz3 rfl rfl rfl (H6.ownT 1 rfl) (H6.rdT 2 rfl) (by simp only [List.length_singleton]; omega) (by simp only [List.length_singleton]; omega) fun a1 c1 w6 u3 => ?_)
        have H7 : UpG w [] w6 [[blk w.heap.size #[.slice dca d.cls.length dcc, .int .i64 d.width, .int .i64 d.start, .slice dna d.next.length dnc, .slice dba d.acc.length dbc] 25], [rowT (tyI .i64) (.slice a1 ((q ++ [((s : Nat) : Int)]).length) c1) 3 (q ++ [((s : Nat) : Int)])], []] := (H6.on 1 rfl u3).drop 2
        refine WL.op rfl (d_assign rfl ?_)
        refine WL.done (X.block_normal (X.then_code ?_))
        refine W.region ?_
        refine WL.op rfl (d_move rfl ?_)
        refine WL.op rfl (d_add rfl rfl (by omega) (by omega) ?_)
        refine WL.op rfl (d_assign rfl ?_)
        refine WL.done ?_
        exact X.next [4, 3, 2, 1] (Γ' := [(4, .int .i64 (((s + 1) : Nat) : Int)), (3, .slice a1 ((q ++ [((s : Nat) : Int)]).length) c1), (2, .slice none 0 0), (1, .pointer (some ⟨w.heap.size, 0, none⟩))]) rfl (259 - (s + 1)) (by omega) ⟨s + 1, q ++ [((s : Nat) : Int)], a1, c1, rfl, (H7.re rfl), (by first | assumption | omega | simp), (by first | exact hq.yes | exact hq.no (by rw [← show k = q.length by omega, ← hb]; simpa using c19)), rfl⟩
      · skip
        refine W.skip (X.block_normal (X.then_code ?_))
        refine W.region ?_
        refine WL.op rfl (d_move rfl ?_)
        refine WL.op rfl (d_add rfl rfl (by omega) (by omega) ?_)
        refine WL.op rfl (d_assign rfl ?_)
        refine WL.done ?_
        exact X.next [4, 3, 2, 1] (Γ' := [(4, .int .i64 (((s + 1) : Nat) : Int)), (3, .slice qa q.length qc), (2, .slice none 0 0), (1, .pointer (some ⟨w.heap.size, 0, none⟩))]) rfl (259 - (s + 1)) (by omega) ⟨s + 1, q, qa, qc, rfl, H4, (by first | assumption | omega | simp), (by first | exact hq.yes | exact hq.no (by rw [← show k = q.length by omega, ← hb]; simpa using c19)), rfl⟩
  · skip
    refine W.exit (X.then_exit (X.then_exit (X.block_exit (X.then_code ?_))))
    refine W.seq ?_
    refine W.region ?_
    refine WL.op rfl (d_move rfl ?_)
    refine WL.op rfl (d_assign rfl ?_)
    refine WL.done (X.then_code ?_)
    refine W.ret (X.ret1 rfl rfl ?_)
    exact ⟨qa, q, qc, rfl, H3.one 1 rfl, (by have e : s = 259 := (by omega); subst e; exact hq)⟩

set_option maxRecDepth 20000 in
theorem unlike_any (d : DfaD) (dca : Option Addr) (dna : Option Addr) (dba : Option Addr) (dcc : Nat) (dnc : Nat) (dbc : Nat) (w : World) (rcd : RdT (tyI .i64) w (.slice dca d.cls.length dcc) d.cls) (rnd : RdT (tyI .i64) w (.slice dna d.next.length dnc) d.next) (rbd : RdT tyB w (.slice dba d.acc.length dbc) d.acc) (hrt : rightB d = true) :
    Calls Try.prog 56 #[.agg #[.slice dca d.cls.length dcc, .int .i64 d.width, .int .i64 d.start, .slice dna d.next.length dnc, .slice dba d.acc.length dbc]] w (Ret fun v w' => ∃ a2 : Option Addr, ∃ Xs : List (LR Bool), ∃ n2 : Nat, ∃ c2 : Nat, v = .slice a2 n2 c2 ∧ Upd w [] w' [rowT tyLR (.slice a2 n2 c2) 23 Xs, manyF (inLR tyB 4).row Xs] ∧ (UnP d Xs) ∧ (n2 = d.acc.length)) := by
  have hri := rightB_iff.1 hrt
  have le_rcd := rcd.le
  have le_rnd := rnd.le
  have le_rbd := rbd.le
  refine calls_of_W (args := [.agg #[.slice dca d.cls.length dcc, .int .i64 d.width, .int .i64 d.start, .slice dna d.next.length dnc, .slice dba d.acc.length dbc]]) Try.func56 rfl rfl rfl ?_
  have H0 : UpG w [] w [] := UpG.nil w
  show W _ _ _ _ [(0, .agg #[.slice dca d.cls.length dcc, .int .i64 d.width, .int .i64 d.start, .slice dna d.next.length dnc, .slice dba d.acc.length dbc])] w
  refine W.seq ?_
  refine W.region ?_
  refine WL.op rfl (d_box rfl fun w1 u1 => ?_)
  have H1 : UpG w [] w1 [[blk w.heap.size #[.slice dca d.cls.length dcc, .int .i64 d.width, .int .i64 d.start, .slice dna d.next.length dnc, .slice dba d.acc.length dbc] 25]] := H0.new' u1
  refine WL.op rfl (d_assign rfl ?_)
  refine WL.done (X.then_code ?_)
  refine W.seq ?_
  refine W.region ?_
  refine WL.op rfl (d_fieldAddrB fld25_4 rfl rfl ?_)
  refine WL.op rfl (d_loadB Try.underlying23 rfl rfl (H1.blk 0 rfl) rfl ?_)
  refine WL.op rfl (d_lenS Try.underlying23 rfl ?_)
  refine WL.op rfl (d_assign rfl ?_)
  refine WL.done (X.then_code ?_)
  refine W.seq ?_
  refine W.region ?_
  refine WL.op rfl (d_assign rfl ?_)
  refine WL.done (X.then_code ?_)
  refine W.seq ?_
  refine W.seq ?_
  refine W.region ?_
  refine WL.op rfl (d_assign rfl ?_)
  refine WL.done (X.then_code ?_)
  refine W.block ?_
  have H2 : UpG w [] w1 [[blk w.heap.size #[.slice dca d.cls.length dcc, .int .i64 d.width, .int .i64 d.start, .slice dna d.next.length dnc, .slice dba d.acc.length dbc] 25], [manyF (inLR tyB 4).row ([] : List (LR Bool))]] := H1.new' (Upd.manyNil (inLR tyB 4).row w1)
  have H3 : UpG w [] w1 [[blk w.heap.size #[.slice dca d.cls.length dcc, .int .i64 d.width, .int .i64 d.start, .slice dna d.next.length dnc, .slice dba d.acc.length dbc] 25], [manyF (inLR tyB 4).row ([] : List (LR Bool))], [rowT tyLR (.slice none (([] : List (LR Bool)).length) 0) 23 ([] : List (LR Bool))]] := H2.new' (Upd.nilRowT w1 tyLR 23)
  refine W.pick [5, 4, 3, 2, 1] (Γ' := [(5, .int .i64 0), (4, .slice none (([] : List (LR Bool)).length) 0), (3, .int .i64 ((d.acc.length : Nat) : Int)), (2, .slice none 0 0), (1, .pointer (some ⟨w.heap.size, 0, none⟩))]) rfl ?_
  refine W.loop (fun m Γ' w' => ∃ s : Nat, ∃ Xs : List (LR Bool), ∃ oa : Option Addr, ∃ oc : Nat, Γ' = [(5, .int .i64 ((s : Nat) : Int)), (4, .slice oa Xs.length oc), (3, .int .i64 ((d.acc.length : Nat) : Int)), (2, .slice none 0 0), (1, .pointer (some ⟨w.heap.size, 0, none⟩))] ∧ UpG w [] w' [[blk w.heap.size #[.slice dca d.cls.length dcc, .int .i64 d.width, .int .i64 d.start, .slice dna d.next.length dnc, .slice dba d.acc.length dbc] 25], [manyF (inLR tyB 4).row Xs], [rowT tyLR (.slice oa Xs.length oc) 23 Xs]] ∧ (s ≤ d.acc.length) ∧ (UnS d Xs s) ∧ m = d.acc.length - s) (d.acc.length - 0) ⟨0, ([] : List (LR Bool)), none, 0, rfl, H3, (by first | assumption | omega | simp), (by exact UnS.start d), rfl⟩ ?_
  rintro m1 Γ1 w2 ⟨s, Xs, oa, oc, rfl, H4, hs, hX, rfl⟩
  have hXl := hX.len
  refine W.seq ?_
  refine W.seq ?_
  refine W.region ?_
  refine WL.op rfl (d_move rfl ?_)
  refine WL.op rfl (d_move rfl ?_)
  refine WL.op rfl (d_cmp (decide (((s : Nat) : Int) < ((d.acc.length : Nat) : Int))) rfl rfl rfl ?_)
  refine WL.done (X.then_code ?_)
  refine W.ite (p := ((s : Nat) : Int) < ((d.acc.length : Nat) : Int)) rfl (fun c30 => ?_) (fun c30 => ?_)
  · skip
    refine W.skip (X.then_code ?_)
    refine W.seq ?_
    refine W.block ?_
    refine W.seq ?_
    refine W.region ?_
    refine WL.op rfl (d_move rfl ?_)
    refine WL.op rfl (t_make d.acc.length false (T := tyB) rfl Try.underlying23 sz4 rfl rfl rfl rfl (by omega) (by omega) fun w3 u2 => ?_)
    have H5 : UpG w [] w3 [[blk w.heap.size #[.slice dca d.cls.length dcc, .int .i64 d.width, .int .i64 d.start, .slice dna d.next.length dnc, .slice dba d.acc.length dbc] 25], [manyF (inLR tyB 4).row Xs], [rowT tyLR (.slice oa Xs.length oc) 23 Xs], [rowT tyB (.slice (some ⟨w2.heap.size, 0, none⟩) ((List.replicate d.acc.length false).length) d.acc.length) 4 (List.replicate d.acc.length false)]] := H4.new' u2
    refine WL.op rfl (d_assign rfl ?_)
    refine WL.done (X.then_code ?_)
    refine W.seq ?_
    refine W.seq ?_
    refine W.region ?_
    refine WL.op rfl (d_assign rfl ?_)
    refine WL.done (X.then_code ?_)
    refine W.block ?_
    refine W.pick [7, 6, 5, 4, 3, 2, 1] (Γ' := [(7, .int .i64 0), (6, .slice (some ⟨w2.heap.size, 0, none⟩) ((List.replicate d.acc.length false).length) d.acc.length), (5, .int .i64 ((s : Nat) : Int)), (4, .slice oa Xs.length oc), (3, .int .i64 ((d.acc.length : Nat) : Int)), (2, .slice none 0 0), (1, .pointer (some ⟨w.heap.size, 0, none⟩))]) rfl ?_
    refine W.loop (fun m Γ' w' => ∃ k : Nat, ∃ q : List Bool, Γ' = [(7, .int .i64 ((k : Nat) : Int)), (6, .slice (some ⟨w2.heap.size, 0, none⟩) ((List.replicate d.acc.length false).length) d.acc.length), (5, .int .i64 ((s : Nat) : Int)), (4, .slice oa Xs.length oc), (3, .int .i64 ((d.acc.length : Nat) : Int)), (2, .slice none 0 0), (1, .pointer (some ⟨w.heap.size, 0, none⟩))] ∧ UpG w [] w' [[blk w.heap.size #[.slice dca d.cls.length dcc, .int .i64 d.width, .int .i64 d.start, .slice dna d.next.length dnc, .slice dba d.acc.length dbc] 25], [manyF (inLR tyB 4).row Xs], [rowT tyLR (.slice oa Xs.length oc) 23 Xs], [rowT tyB (.slice (some ⟨w2.heap.size, 0, none⟩) ((List.replicate d.acc.length false).length) d.acc.length) 4 q]] ∧ (k ≤ d.acc.length) ∧ (UrI d s q k) ∧ m = d.acc.length - k) (d.acc.length - 0) ⟨0, List.replicate d.acc.length false, rfl, H5, (by first | assumption | omega | simp), (by exact UrI.start (by omega)), rfl⟩ ?_
    rintro m2 Γ2 w4 ⟨k, q, rfl, H6, hk, hq, rfl⟩
    have hql := hq.len
    refine W.seq ?_
    refine W.seq ?_
    refine W.region ?_
    refine WL.op rfl (d_move rfl ?_)
    refine WL.op rfl (d_move rfl ?_)
    refine WL.op rfl (d_cmp (decide (((k : Nat) : Int) < ((d.acc.length : Nat) : Int))) rfl rfl rfl ?_)
    refine WL.done (X.then_code ?_)
    refine W.ite (p := ((k : Nat) : Int) < ((d.acc.length : Nat) : Int)) rfl (fun c32 => ?_) (fun c32 => ?_)
    · skip
      refine W.skip (X.then_code ?_)
      refine W.seq ?_
      refine W.block ?_
      refine W.regionD mixed (by kernel_rfl) fun hok1 w5 k1 => ?_
      have H7 : UpG w [] w5 [[blk w.heap.size #[.slice dca d.cls.length dcc, .int .i64 d.width, .int .i64 d.start, .slice dna d.next.length dnc, .slice dba d.acc.length dbc] 25], [manyF (inLR tyB 4).row Xs], [rowT tyLR (.slice oa Xs.length oc) 23 Xs], [rowT tyB (.slice (some ⟨w2.heap.size, 0, none⟩) ((List.replicate d.acc.length false).length) d.acc.length) 4 q]] := H6.kept k1
      refine WD.take hok1 0 (.slice (some ⟨w2.heap.size, 0, none⟩) ((List.replicate d.acc.length false).length) d.acc.length) (fun _ => True) rfl rfl rfl rfl rfl trivial (.inl ⟨rfl, fun _ _ => d_move rfl ⟨rfl, rfl⟩⟩) ?_
      refine WD.take hok1 1 (.int .i64 ((k : Nat) : Int)) (fun _ => True) rfl rfl rfl rfl rfl trivial (.inl ⟨rfl, fun _ _ => d_move rfl ⟨rfl, rfl⟩⟩) ?_
      refine WD.take hok1 2 (.pointer (some ⟨w.heap.size, 4, none⟩)) (fun _ => True) rfl rfl rfl rfl rfl trivial (.inl ⟨rfl, fun _ _ => d_fieldAddrB fld25_4 rfl rfl ⟨rfl, rfl⟩⟩) ?_
      refine WD.take hok1 3 (.slice dba d.acc.length dbc) (fun w' => w'.heap[w.heap.size]? = some (.cells #[.slice dca d.cls.length dcc, .int .i64 d.width, .int .i64 d.start, .slice dna d.next.length dnc, .slice dba d.acc.length dbc] 25 (0, 0))) rfl rfl rfl rfl rfl (H7.blk 0 rfl) (.inl ⟨rfl, fun _ hC => d_loadB Try.underlying23 rfl rfl hC rfl ⟨rfl, rfl⟩⟩) ?_
      refine WD.take hok1 4 (.int .i64 ((s : Nat) : Int)) (fun _ => True) rfl rfl rfl rfl rfl trivial (.inl ⟨rfl, fun _ _ => d_move rfl ⟨rfl, rfl⟩⟩) ?_
      refine WD.take hok1 5 (elemPtr (.slice dba d.acc.length dbc) s) (fun w' => RdT tyB w' (.slice dba d.acc.length dbc) d.acc) rfl rfl rfl rfl rfl (rbd.at H7) (.inl ⟨rfl, fun _ hC => t_addr1 s (T := tyB) rfl Try.underlying23 sz4 rfl rfl hC rfl (by omega) ⟨rfl, rfl⟩⟩) ?_
      refine WD.take hok1 6 (.bool (d.acc.getD s false)) (fun w' => RdT tyB w' (.slice dba d.acc.length dbc) d.acc) rfl rfl rfl rfl rfl (rbd.at H7) (.inl ⟨rfl, fun _ hC => t_load1 s false (T := tyB) rfl Try.underlying4 rfl rfl hC (by omega) rfl ⟨rfl, rfl⟩⟩) ?_
      refine WD.take hok1 7 (.pointer (some ⟨w.heap.size, 4, none⟩)) (fun _ => True) rfl rfl rfl rfl rfl trivial (.inl ⟨rfl, fun _ _ => d_fieldAddrB fld25_4 rfl rfl ⟨rfl, rfl⟩⟩) ?_
      refine WD.take hok1 8 (.slice dba d.acc.length dbc) (fun w' => w'.heap[w.heap.size]? = some (.cells #[.slice dca d.cls.length dcc, .int .i64 d.width, .int .i64 d.start, .slice dna d.next.length dnc, .slice dba d.acc.length dbc] 25 (0, 0))) rfl rfl rfl rfl rfl (H7.blk 0 rfl) (.inl ⟨rfl, fun _ hC => d_loadB Try.underlying23 rfl rfl hC rfl ⟨rfl, rfl⟩⟩) ?_
      refine WD.take hok1 9 (.int .i64 ((k : Nat) : Int)) (fun _ => True) rfl rfl rfl rfl rfl trivial (.inl ⟨rfl, fun _ _ => d_move rfl ⟨rfl, rfl⟩⟩) ?_
      refine WD.take hok1 10 (elemPtr (.slice dba d.acc.length dbc) k) (fun w' => RdT tyB w' (.slice dba d.acc.length dbc) d.acc) rfl rfl rfl rfl rfl (rbd.at H7) (.inl ⟨rfl, fun _ hC => t_addr1 k (T := tyB) rfl Try.underlying23 sz4 rfl rfl hC rfl (by omega) ⟨rfl, rfl⟩⟩) ?_
      refine WD.take hok1 11 (.bool (d.acc.getD k false)) (fun w' => RdT tyB w' (.slice dba d.acc.length dbc) d.acc) rfl rfl rfl rfl rfl (rbd.at H7) (.inl ⟨rfl, fun _ hC => t_load1 k false (T := tyB) rfl Try.underlying4 rfl rfl hC (by omega) rfl ⟨rfl, rfl⟩⟩) ?_
      refine WD.take hok1 12 (.bool (decide ((d.acc.getD s false) ≠ (d.acc.getD k false)))) (fun _ => True) rfl rfl rfl rfl rfl trivial (.inl ⟨rfl, fun _ _ => d_boolne Try.underlying4 rfl rfl ⟨rfl, rfl⟩⟩) ?_
      refine WD.take hok1 13 (elemPtr (.slice (some ⟨w2.heap.size, 0, none⟩) ((List.replicate d.acc.length false).length) d.acc.length) k) (fun w' => RdT tyB w' (.slice (some ⟨w2.heap.size, 0, none⟩) ((List.replicate d.acc.length false).length) d.acc.length) q) rfl rfl rfl rfl rfl (H7.rdT 3 rfl) (.inl ⟨rfl, fun _ hC => t_addr1 k (T := tyB) rfl Try.underlying23 sz4 rfl rfl hC rfl (by omega) ⟨rfl, rfl⟩⟩) ?_
      refine WD.loud hok1 14 rfl (⟨_, [], rfl, rfl, rfl, rfl, rfl, rfl, t_store1 k (decide ((d.acc.getD s false) ≠ (d.acc.getD k false))) (T := tyB) (e := 4) rfl sz4 rfl rfl rfl (H7.ownT 3 rfl) (by omega) fun w6 u3 => ?_⟩)
      have H8 : UpG w [] w6 [[blk w.heap.size #[.slice dca d.cls.length dcc, .int .i64 d.width, .int .i64 d.start, .slice dna d.next.length dnc, .slice dba d.acc.length dbc] 25], [manyF (inLR tyB 4).row Xs], [rowT tyLR (.slice oa Xs.length oc) 23 Xs], [rowT tyB (.slice (some ⟨w2.heap.size, 0, none⟩) ((List.replicate d.acc.length false).length) d.acc.length) 4 (q.set k (decide ((d.acc.getD s false) ≠ (d.acc.getD k false))))]] := H7.on 3 rfl u3
      refine ⟨trivial, ?_⟩
      refine WD.done hok1 rfl (X.block_normal (X.then_code ?_))
      refine W.region ?_
      refine WL.op rfl (d_move rfl ?_)
      refine WL.op rfl (d_add rfl rfl (by omega) (by omega) ?_)
      refine WL.op rfl (d_assign rfl ?_)
      refine WL.done ?_
      exact X.next [7, 6, 5, 4, 3, 2, 1] (Γ' := [(7, .int .i64 (((k + 1) : Nat) : Int)), (6, .slice (some ⟨w2.heap.size, 0, none⟩) ((List.replicate d.acc.length false).length) d.acc.length), (5, .int .i64 ((s : Nat) : Int)), (4, .slice oa Xs.length oc), (3, .int .i64 ((d.acc.length : Nat) : Int)), (2, .slice none 0 0), (1, .pointer (some ⟨w.heap.size, 0, none⟩))]) rfl (d.acc.length - (k + 1)) (by omega) ⟨k + 1, q.set k (decide ((d.acc.getD s false) ≠ (d.acc.getD k false))), rfl, H8, (by first | assumption | omega | simp), (by exact hq.step (by omega) rfl), rfl⟩
    · skip
      refine W.exit (X.then_exit (X.then_exit (X.block_exit (X.then_code ?_))))
      refine W.region ?_
      refine WL.op rfl (d_move rfl ?_)
      refine WL.op rfl (d_move rfl ?_)
      refine WL.op rfl (t_buildSlice (T := tyLR) (xs := ([⟨(some ⟨w2.heap.size, 0, none⟩), (List.replicate d.acc.length false).length, d.acc.length, q⟩] : List (LR Bool))) (cs := #[.slice (some ⟨w2.heap.size, 0, none⟩) ((List.replicate d.acc.length false).length) d.acc.length]) rfl Try.underlying29 sz23 rfl rfl rfl rfl (by kernel_rfl) rfl rfl fun w7 u4 => ?_)
      have H9 : UpG w [] w7 [[blk w.heap.size #[.slice dca d.cls.length dcc, .int .i64 d.width, .int .i64 d.start, .slice dna d.next.length dnc, .slice dba d.acc.length dbc] 25], [manyF (inLR tyB 4).row Xs], [rowT tyLR (.slice oa Xs.length oc) 23 Xs], [rowT tyB (.slice (some ⟨w2.heap.size, 0, none⟩) ((List.replicate d.acc.length false).length) d.acc.length) 4 q], [rowT tyLR (.slice (some ⟨w4.heap.size, 0, none⟩) (([⟨(some ⟨w2.heap.size, 0, none⟩), (List.replicate d.acc.length false).length, d.acc.length, q⟩] : List (LR Bool)).length) (([⟨(some ⟨w2.heap.size, 0, none⟩), (List.replicate d.acc.length false).length, d.acc.length, q⟩] : List (LR Bool)).length)) 23 ([⟨(some ⟨w2.heap.size, 0, none⟩), (List.replicate d.acc.length false).length, d.acc.length, q⟩] : List (LR Bool))]] := H6.new' u4
      refine WL.op rfl (t_append (T := tyLR) (xs := Xs) (ys := ([⟨(some ⟨w2.heap.size, 0, none⟩), (List.replicate d.acc.length false).length, d.acc.length, q⟩] : List (LR Bool))) rfl Try.underlying29 sz23 rfl rfl rfl (H9.ownT 2 rfl) (H9.rdT 4 rfl) (by simp; omega) (by simp; omega) fun a1 c1 w8 u5 => ?_)
      have H10 : UpG w [] w8 [[blk w.heap.size #[.slice dca d.cls.length dcc, .int .i64 d.width, .int .i64 d.start, .slice dna d.next.length dnc, .slice dba d.acc.length dbc] 25], [manyF (inLR tyB 4).row Xs], [rowT tyLR (.slice a1 ((Xs ++ ([⟨(some ⟨w2.heap.size, 0, none⟩), (List.replicate d.acc.length false).length, d.acc.length, q⟩] : List (LR Bool))).length) c1) 23 (Xs ++ ([⟨(some ⟨w2.heap.size, 0, none⟩), (List.replicate d.acc.length false).length, d.acc.length, q⟩] : List (LR Bool)))], [rowT tyB (.slice (some ⟨w2.heap.size, 0, none⟩) ((List.replicate d.acc.length false).length) d.acc.length) 4 q], []] := (H9.on 2 rfl u5).drop 4
      have H11 : UpG w [] w8 [[blk w.heap.size #[.slice dca d.cls.length dcc, .int .i64 d.width, .int .i64 d.start, .slice dna d.next.length dnc, .slice dba d.acc.length dbc] 25], [manyF (inLR tyB 4).row (Xs ++ [⟨(some ⟨w2.heap.size, 0, none⟩), (List.replicate d.acc.length false).length, d.acc.length, q⟩])], [rowT tyLR (.slice a1 ((Xs ++ ([⟨(some ⟨w2.heap.size, 0, none⟩), (List.replicate d.acc.length false).length, d.acc.length, q⟩] : List (LR Bool))).length) c1) 23 (Xs ++ ([⟨(some ⟨w2.heap.size, 0, none⟩), (List.replicate d.acc.length false).length, d.acc.length, q⟩] : List (LR Bool)))], [], []] := (UpG.absorb (f := (inLR tyB 4).row) (⟨(some ⟨w2.heap.size, 0, none⟩), (List.replicate d.acc.length false).length, d.acc.length, q⟩ : (LR Bool)) H10 1 3 rfl rfl rfl).re rfl
      refine WL.op rfl (d_assign rfl ?_)
      refine WL.done (X.block_normal (X.then_code ?_))
      refine W.region ?_
      refine WL.op rfl (d_move rfl ?_)
      refine WL.op rfl (d_add rfl rfl (by omega) (by omega) ?_)
      refine WL.op rfl (d_assign rfl ?_)
      refine WL.done ?_
      exact X.next [5, 4, 3, 2, 1] (Γ' := [(5, .int .i64 (((s + 1) : Nat) : Int)), (4, .slice a1 ((Xs ++ ([⟨(some ⟨w2.heap.size, 0, none⟩), (List.replicate d.acc.length false).length, d.acc.length, q⟩] : List (LR Bool))).length) c1), (3, .int .i64 ((d.acc.length : Nat) : Int)), (2, .slice none 0 0), (1, .pointer (some ⟨w.heap.size, 0, none⟩))]) rfl (d.acc.length - (s + 1)) (by omega) ⟨s + 1, Xs ++ ([⟨(some ⟨w2.heap.size, 0, none⟩), (List.replicate d.acc.length false).length, d.acc.length, q⟩] : List (LR Bool)), a1, c1, rfl, (H11.re rfl), (by first | assumption | omega | simp), (by exact hX.step hq (by omega)), rfl⟩
  · skip
    refine W.exit (X.then_exit (X.then_exit (X.block_exit (X.then_code ?_))))
    refine W.seq ?_
    refine W.region ?_
    refine WL.op rfl (d_loadAB [.slice dca d.cls.length dcc, .int .i64 d.width, .int .i64 d.start, .slice dna d.next.length dnc, .slice dba d.acc.length dbc] Try.underlying25 rfl sz25 rfl (H4.blk 0 rfl) rfl rfl ?_)
    refine WL.op rfl (d_call ok89 rfl (Ret.calls (heads_any d dca dna dba dcc dnc dbc w2 (rcd.at H4) (rnd.at H4) (rbd.at H4) (by omega)) fun _ w9 p1 => ?_))
    obtain ⟨a2_1, hs_1, c2_1, rfl, u6, q1⟩ := p1
    have H12 : UpG w [] w9 [[blk w.heap.size #[.slice dca d.cls.length dcc, .int .i64 d.width, .int .i64 d.start, .slice dna d.next.length dnc, .slice dba d.acc.length dbc] 25], [manyF (inLR tyB 4).row Xs], [rowT tyLR (.slice oa Xs.length oc) 23 Xs], [rowT (tyI .i64) (.slice a2_1 hs_1.length c2_1) 3 hs_1]] := (H4.new' u6).re rfl
    refine WL.op rfl (d_assign rfl ?_)
    refine WL.done (X.then_code ?_)
    refine W.seq ?_
    refine W.seq ?_
    refine W.region ?_
    refine WL.op rfl (d_assign rfl ?_)
    refine WL.done (X.then_code ?_)
    refine W.block ?_
    refine W.pick [9, 8, 4, 3, 2, 1] (Γ' := [(9, .int .i64 0), (8, .slice a2_1 hs_1.length c2_1), (4, .slice oa Xs.length oc), (3, .int .i64 ((d.acc.length : Nat) : Int)), (2, .slice none 0 0), (1, .pointer (some ⟨w.heap.size, 0, none⟩))]) rfl ?_
    refine W.loop (fun m Γ' w' => ∃ tt : Nat, ∃ Y : List (LR Bool), Γ' = [(9, .int .i64 ((tt : Nat) : Int)), (8, .slice a2_1 hs_1.length c2_1), (4, .slice oa Xs.length oc), (3, .int .i64 ((d.acc.length : Nat) : Int)), (2, .slice none 0 0), (1, .pointer (some ⟨w.heap.size, 0, none⟩))] ∧ UpG w [] w' [[blk w.heap.size #[.slice dca d.cls.length dcc, .int .i64 d.width, .int .i64 d.start, .slice dna d.next.length dnc, .slice dba d.acc.length dbc] 25], [manyF (inLR tyB 4).row Y], [rowT tyLR (.slice oa Xs.length oc) 23 Y], [rowT (tyI .i64) (.slice a2_1 hs_1.length c2_1) 3 hs_1]] ∧ (tt ≤ d.acc.length) ∧ (UnI d Y tt 0 0) ∧ m = d.acc.length - tt) (d.acc.length - 0) ⟨0, Xs, rfl, H12, (by first | assumption | omega | simp), (by exact hX.done (by omega)), rfl⟩ ?_
    rintro m3 Γ3 w10 ⟨tt, Y, rfl, H13, ht, hY, rfl⟩
    refine W.seq ?_
    refine W.seq ?_
    refine W.region ?_
    refine WL.op rfl (d_move rfl ?_)
    refine WL.op rfl (d_move rfl ?_)
    refine WL.op rfl (d_cmp (decide (((tt : Nat) : Int) < ((d.acc.length : Nat) : Int))) rfl rfl rfl ?_)
    refine WL.done (X.then_code ?_)
    refine W.ite (p := ((tt : Nat) : Int) < ((d.acc.length : Nat) : Int)) rfl (fun c38 => ?_) (fun c38 => ?_)
    · skip
      refine W.skip (X.then_code ?_)
      refine W.seq ?_
      refine W.block ?_
      refine W.seq ?_
      refine W.region ?_
      refine WL.op rfl (d_assign rfl ?_)
      refine WL.done (X.then_code ?_)
      refine W.block ?_
      refine W.pick [10, 9, 8, 4, 3, 2, 1] (Γ' := [(10, .int .i64 0), (9, .int .i64 ((tt : Nat) : Int)), (8, .slice a2_1 hs_1.length c2_1), (4, .slice oa Xs.length oc), (3, .int .i64 ((d.acc.length : Nat) : Int)), (2, .slice none 0 0), (1, .pointer (some ⟨w.heap.size, 0, none⟩))]) rfl ?_
      refine W.loop (fun m Γ' w' => ∃ i : Nat, ∃ Z : List (LR Bool), Γ' = [(10, .int .i64 ((i : Nat) : Int)), (9, .int .i64 ((tt : Nat) : Int)), (8, .slice a2_1 hs_1.length c2_1), (4, .slice oa Xs.length oc), (3, .int .i64 ((d.acc.length : Nat) : Int)), (2, .slice none 0 0), (1, .pointer (some ⟨w.heap.size, 0, none⟩))] ∧ UpG w [] w' [[blk w.heap.size #[.slice dca d.cls.length dcc, .int .i64 d.width, .int .i64 d.start, .slice dna d.next.length dnc, .slice dba d.acc.length dbc] 25], [manyF (inLR tyB 4).row Z], [rowT tyLR (.slice oa Xs.length oc) 23 Z], [rowT (tyI .i64) (.slice a2_1 hs_1.length c2_1) 3 hs_1]] ∧ (i ≤ d.acc.length) ∧ (UnI d Z tt i 0) ∧ m = d.acc.length - i) (d.acc.length - 0) ⟨0, Y, rfl, H13, (by first | assumption | omega | simp), (by exact hY), rfl⟩ ?_
      rintro m4 Γ4 w11 ⟨i, Z, rfl, H14, hi, hZ, rfl⟩
      refine W.seq ?_
      refine W.seq ?_
      refine W.region ?_
      refine WL.op rfl (d_move rfl ?_)
      refine WL.op rfl (d_move rfl ?_)
      refine WL.op rfl (d_cmp (decide (((i : Nat) : Int) < ((d.acc.length : Nat) : Int))) rfl rfl rfl ?_)
      refine WL.done (X.then_code ?_)
      refine W.ite (p := ((i : Nat) : Int) < ((d.acc.length : Nat) : Int)) rfl (fun c39 => ?_) (fun c39 => ?_)
      · skip
        refine W.skip (X.then_code ?_)
        refine W.seq ?_
        refine W.block ?_
        refine W.seq ?_
        refine W.region ?_
        refine WL.op rfl (d_assign rfl ?_)
        refine WL.done (X.then_code ?_)
        refine W.block ?_
        refine W.pick [11, 10, 9, 8, 4, 3, 2, 1] (Γ' := [(11, .int .i64 0), (10, .int .i64 ((i : Nat) : Int)), (9, .int .i64 ((tt : Nat) : Int)), (8, .slice a2_1 hs_1.length c2_1), (4, .slice oa Xs.length oc), (3, .int .i64 ((d.acc.length : Nat) : Int)), (2, .slice none 0 0), (1, .pointer (some ⟨w.heap.size, 0, none⟩))]) rfl ?_
        refine W.loop (fun m Γ' w' => ∃ kk : Nat, ∃ U : List (LR Bool), Γ' = [(11, .int .i64 ((kk : Nat) : Int)), (10, .int .i64 ((i : Nat) : Int)), (9, .int .i64 ((tt : Nat) : Int)), (8, .slice a2_1 hs_1.length c2_1), (4, .slice oa Xs.length oc), (3, .int .i64 ((d.acc.length : Nat) : Int)), (2, .slice none 0 0), (1, .pointer (some ⟨w.heap.size, 0, none⟩))] ∧ UpG w [] w' [[blk w.heap.size #[.slice dca d.cls.length dcc, .int .i64 d.width, .int .i64 d.start, .slice dna d.next.length dnc, .slice dba d.acc.length dbc] 25], [manyF (inLR tyB 4).row U], [rowT tyLR (.slice oa Xs.length oc) 23 U], [rowT (tyI .i64) (.slice a2_1 hs_1.length c2_1) 3 hs_1]] ∧ (kk ≤ d.acc.length) ∧ (UnI d U tt i kk) ∧ m = d.acc.length - kk) (d.acc.length - 0) ⟨0, Z, rfl, H14, (by first | assumption | omega | simp), (by exact hZ), rfl⟩ ?_
        rintro m5 Γ5 w12 ⟨kk, U, rfl, H15, hku, hU, rfl⟩
        refine W.seq ?_
        refine W.seq ?_
        refine W.region ?_
        refine WL.op rfl (d_move rfl ?_)
        refine WL.op rfl (d_move rfl ?_)
        refine WL.op rfl (d_cmp (decide (((kk : Nat) : Int) < ((d.acc.length : Nat) : Int))) rfl rfl rfl ?_)
        refine WL.done (X.then_code ?_)
        refine W.ite (p := ((kk : Nat) : Int) < ((d.acc.length : Nat) : Int)) rfl (fun c40 => ?_) (fun c40 => ?_)
        · skip
          refine W.skip (X.then_code ?_)
          refine W.seq ?_
          refine W.block ?_
          refine W.seq ?_
          refine W.region ?_
          refine WL.op rfl (d_assign rfl ?_)
          refine WL.done (X.then_code ?_)
          refine W.block ?_
          refine W.pick [12, 11, 10, 9, 8, 4, 3, 2, 1] (Γ' := [(12, .int .i64 0), (11, .int .i64 ((kk : Nat) : Int)), (10, .int .i64 ((i : Nat) : Int)), (9, .int .i64 ((tt : Nat) : Int)), (8, .slice a2_1 hs_1.length c2_1), (4, .slice oa Xs.length oc), (3, .int .i64 ((d.acc.length : Nat) : Int)), (2, .slice none 0 0), (1, .pointer (some ⟨w.heap.size, 0, none⟩))]) rfl ?_
          refine W.loop (fun m Γ' w' => ∃ c : Nat, ∃ V : List (LR Bool), Γ' = [(12, .int .i64 ((c : Nat) : Int)), (11, .int .i64 ((kk : Nat) : Int)), (10, .int .i64 ((i : Nat) : Int)), (9, .int .i64 ((tt : Nat) : Int)), (8, .slice a2_1 hs_1.length c2_1), (4, .slice oa Xs.length oc), (3, .int .i64 ((d.acc.length : Nat) : Int)), (2, .slice none 0 0), (1, .pointer (some ⟨w.heap.size, 0, none⟩))] ∧ UpG w [] w' [[blk w.heap.size #[.slice dca d.cls.length dcc, .int .i64 d.width, .int .i64 d.start, .slice dna d.next.length dnc, .slice dba d.acc.length dbc] 25], [manyF (inLR tyB 4).row V], [rowT tyLR (.slice oa Xs.length oc) 23 V], [rowT (tyI .i64) (.slice a2_1 hs_1.length c2_1) 3 hs_1]] ∧ (c ≤ hs_1.length) ∧ (UnJ d hs_1 V tt i kk c) ∧ m = hs_1.length - c) (hs_1.length - 0) ⟨0, U, rfl, H15, (by first | assumption | omega | simp), (by exact hU.inner), rfl⟩ ?_
          rintro m6 Γ6 w13 ⟨c, V, rfl, H16, hc, hV, rfl⟩
          have hr1 := hV.u.row i (by omega)
          have hVl := hV.u.len
          refine W.seq ?_
          refine W.seq ?_
          refine W.region ?_
          refine WL.op rfl (d_move rfl ?_)
          refine WL.op rfl (d_move rfl ?_)
          refine WL.op rfl (d_lenS Try.underlying22 rfl ?_)
          refine WL.op rfl (d_cmp (decide (((c : Nat) : Int) < ((hs_1.length : Nat) : Int))) rfl rfl rfl ?_)
          refine WL.op rfl (d_move rfl ?_)
          refine WL.part 67 (p := ((c : Nat) : Int) < ((hs_1.length : Nat) : Int)) rfl (fun g41 => ?_) (fun g41 => ?_)
          · skip
            refine WL.opG rfl rfl rfl (d_move rfl ?_)
            refine WL.opG rfl rfl rfl (d_move rfl ?_)
            refine WL.opG rfl rfl rfl (t_addr1 i (T := tyLR) rfl Try.underlying29 sz23 rfl rfl (H16.rdT 2 rfl) rfl (by omega) ?_)
            refine WL.opG rfl rfl rfl (t_load1 i lr0 (T := tyLR) rfl Try.underlying23 rfl rfl (H16.rdT 2 rfl) (by omega) rfl ?_)
            refine WL.opG rfl rfl rfl (d_move rfl ?_)
            refine WL.opG rfl rfl rfl (t_addr1 kk (T := tyB) rfl Try.underlying23 sz4 rfl rfl (show RdT tyB w13 (.slice ((V.getD i lr0).a) ((V.getD i lr0).n) ((V.getD i lr0).c)) ((V.getD i lr0).xs) from (Inn.own (H16.hpOf 1 rfl)).get lr0 i (by omega)) rfl (by omega) ?_)
            refine WL.opG rfl rfl rfl (t_load1 kk false (T := tyB) rfl Try.underlying4 rfl rfl (show RdT tyB w13 (.slice ((V.getD i lr0).a) ((V.getD i lr0).n) ((V.getD i lr0).c)) ((V.getD i lr0).xs) from (Inn.own (H16.hpOf 1 rfl)).get lr0 i (by omega)) (by omega) rfl ?_)
            refine WL.opG rfl rfl rfl (d_notB rfl ?_)
            refine WL.op rfl (d_pick rfl rfl ?_)
            refine WL.done (X.then_code ?_)
            refine W.iteB (b := !(((V.getD i lr0).xs).getD kk false)) rfl (fun c41 => ?_) (fun c41 => ?_)
            · skip
              refine W.skip (X.then_code ?_)
              refine W.seq ?_
              refine W.block ?_
              have hhl := q1.len
              have hcb := q1.bd (hs_1.getD c 0) (getD_mem' (by omega))
              have hd1 := dN_lt hrt (i := i) (by omega) hcb
              have hd2 := dN_lt hrt (i := kk) (by omega) hcb
              have hr2 := hV.u.row (dN d i (hs_1.getD c 0)) hd1
              refine W.regionD mixed (by kernel_rfl) fun hok2 w14 k2 => ?_
              have H17 : UpG w [] w14 [[blk w.heap.size #[.slice dca d.cls.length dcc, .int .i64 d.width, .int .i64 d.start, .slice dna d.next.length dnc, .slice dba d.acc.length dbc] 25], [manyF (inLR tyB 4).row V], [rowT tyLR (.slice oa Xs.length oc) 23 V], [rowT (tyI .i64) (.slice a2_1 hs_1.length c2_1) 3 hs_1]] := H16.kept k2
              refine WD.take hok2 0 (.slice oa Xs.length oc) (fun _ => True) rfl rfl rfl rfl rfl trivial (.inl ⟨rfl, fun _ _ => d_move rfl ⟨rfl, rfl⟩⟩) ?_
              refine WD.take hok2 1 (.int .i64 ((i : Nat) : Int)) (fun _ => True) rfl rfl rfl rfl rfl trivial (.inl ⟨rfl, fun _ _ => d_move rfl ⟨rfl, rfl⟩⟩) ?_
              refine WD.take hok2 2 (elemPtr (.slice oa Xs.length oc) i) (fun w' => RdT tyLR w' (.slice oa Xs.length oc) V) rfl rfl rfl rfl rfl (H17.rdT 2 rfl) (.inl ⟨rfl, fun _ hC => t_addr1 i (T := tyLR) rfl Try.underlying29 sz23 rfl rfl hC rfl (by omega) ⟨rfl, rfl⟩⟩) ?_
              refine WD.take hok2 3 (.slice ((V.getD i lr0).a) ((V.getD i lr0).n) ((V.getD i lr0).c)) (fun w' => RdT tyLR w' (.slice oa Xs.length oc) V) rfl rfl rfl rfl rfl (H17.rdT 2 rfl) (.inl ⟨rfl, fun _ hC => t_load1 i lr0 (T := tyLR) rfl Try.underlying23 rfl rfl hC (by omega) rfl ⟨rfl, rfl⟩⟩) ?_
              refine WD.take hok2 4 (.int .i64 ((kk : Nat) : Int)) (fun _ => True) rfl rfl rfl rfl rfl trivial (.inl ⟨rfl, fun _ _ => d_move rfl ⟨rfl, rfl⟩⟩) ?_
              refine WD.take hok2 5 (.slice oa Xs.length oc) (fun _ => True) rfl rfl rfl rfl rfl trivial (.inl ⟨rfl, fun _ _ => d_move rfl ⟨rfl, rfl⟩⟩) ?_
              refine WD.take hok2 6 (.agg #[.slice dca d.cls.length dcc, .int .i64 d.width, .int .i64 d.start, .slice dna d.next.length dnc, .slice dba d.acc.length dbc]) (fun w' => w'.heap[w.heap.size]? = some (.cells #[.slice dca d.cls.length dcc, .int .i64 d.width, .int .i64 d.start, .slice dna d.next.length dnc, .slice dba d.acc.length dbc] 25 (0, 0))) rfl rfl rfl rfl rfl (H17.blk 0 rfl) (.inl ⟨rfl, fun _ hC => d_loadAB [.slice dca d.cls.length dcc, .int .i64 d.width, .int .i64 d.start, .slice dna d.next.length dnc, .slice dba d.acc.length dbc] Try.underlying25 rfl sz25 rfl hC rfl rfl ⟨rfl, rfl⟩⟩) ?_
              refine WD.take hok2 7 (.int .i64 ((i : Nat) : Int)) (fun _ => True) rfl rfl rfl rfl rfl trivial (.inl ⟨rfl, fun _ _ => d_move rfl ⟨rfl, rfl⟩⟩) ?_
              refine WD.take hok2 8 (.slice a2_1 hs_1.length c2_1) (fun _ => True) rfl rfl rfl rfl rfl trivial (.inl ⟨rfl, fun _ _ => d_move rfl ⟨rfl, rfl⟩⟩) ?_
              refine WD.take hok2 9 (.int .i64 ((c : Nat) : Int)) (fun _ => True) rfl rfl rfl rfl rfl trivial (.inl ⟨rfl, fun _ _ => d_move rfl ⟨rfl, rfl⟩⟩) ?_
              refine WD.take hok2 10 (elemPtr (.slice a2_1 hs_1.length c2_1) c) (fun w' => RdT (tyI .i64) w' (.slice a2_1 hs_1.length c2_1) hs_1) rfl rfl rfl rfl rfl (H17.rdT 3 rfl) (.inl ⟨rfl, fun _ hC => t_addr1 c (T := (tyI .i64)) rfl Try.underlying22 sz3 rfl rfl hC rfl (by omega) ⟨rfl, rfl⟩⟩) ?_
              refine WD.take hok2 11 (.int .i64 (hs_1.getD c 0)) (fun w' => RdT (tyI .i64) w' (.slice a2_1 hs_1.length c2_1) hs_1) rfl rfl rfl rfl rfl (H17.rdT 3 rfl) (.inl ⟨rfl, fun _ hC => t_load1 c 0 (T := (tyI .i64)) rfl Try.underlying3 rfl rfl hC (by omega) rfl ⟨rfl, rfl⟩⟩) ?_
              refine WD.take hok2 15 (.agg #[.slice dca d.cls.length dcc, .int .i64 d.width, .int .i64 d.start, .slice dna d.next.length dnc, .slice dba d.acc.length dbc]) (fun w' => w'.heap[w.heap.size]? = some (.cells #[.slice dca d.cls.length dcc, .int .i64 d.width, .int .i64 d.start, .slice dna d.next.length dnc, .slice dba d.acc.length dbc] 25 (0, 0))) rfl rfl rfl rfl rfl (H17.blk 0 rfl) (.inl ⟨rfl, fun _ hC => d_loadAB [.slice dca d.cls.length dcc, .int .i64 d.width, .int .i64 d.start, .slice dna d.next.length dnc, .slice dba d.acc.length dbc] Try.underlying25 rfl sz25 rfl hC rfl rfl ⟨rfl, rfl⟩⟩) ?_
              refine WD.take hok2 16 (.int .i64 ((kk : Nat) : Int)) (fun _ => True) rfl rfl rfl rfl rfl trivial (.inl ⟨rfl, fun _ _ => d_move rfl ⟨rfl, rfl⟩⟩) ?_
              refine WD.take hok2 17 (.slice a2_1 hs_1.length c2_1) (fun _ => True) rfl rfl rfl rfl rfl trivial (.inl ⟨rfl, fun _ _ => d_move rfl ⟨rfl, rfl⟩⟩) ?_
              refine WD.take hok2 18 (.int .i64 ((c : Nat) : Int)) (fun _ => True) rfl rfl rfl rfl rfl trivial (.inl ⟨rfl, fun _ _ => d_move rfl ⟨rfl, rfl⟩⟩) ?_
              refine WD.take hok2 19 (elemPtr (.slice a2_1 hs_1.length c2_1) c) (fun w' => RdT (tyI .i64) w' (.slice a2_1 hs_1.length c2_1) hs_1) rfl rfl rfl rfl rfl (H17.rdT 3 rfl) (.inl ⟨rfl, fun _ hC => t_addr1 c (T := (tyI .i64)) rfl Try.underlying22 sz3 rfl rfl hC rfl (by omega) ⟨rfl, rfl⟩⟩) ?_
              refine WD.take hok2 20 (.int .i64 (hs_1.getD c 0)) (fun w' => RdT (tyI .i64) w' (.slice a2_1 hs_1.length c2_1) hs_1) rfl rfl rfl rfl rfl (H17.rdT 3 rfl) (.inl ⟨rfl, fun _ hC => t_load1 c 0 (T := (tyI .i64)) rfl Try.underlying3 rfl rfl hC (by omega) rfl ⟨rfl, rfl⟩⟩) ?_
              refine WD.loud hok2 12 rfl (⟨_, [⟨20, .int .i64 (hs_1.getD c 0), (fun w' => RdT (tyI .i64) w' (.slice a2_1 hs_1.length c2_1) hs_1)⟩, ⟨19, elemPtr (.slice a2_1 hs_1.length c2_1) c, (fun w' => RdT (tyI .i64) w' (.slice a2_1 hs_1.length c2_1) hs_1)⟩, ⟨18, .int .i64 ((c : Nat) : Int), (fun _ => True)⟩, ⟨17, .slice a2_1 hs_1.length c2_1, (fun _ => True)⟩, ⟨16, .int .i64 ((kk : Nat) : Int), (fun _ => True)⟩, ⟨15, .agg #[.slice dca d.cls.length dcc, .int .i64 d.width, .int .i64 d.start, .slice dna d.next.length dnc, .slice dba d.acc.length dbc], (fun w' => w'.heap[w.heap.size]? = some (.cells #[.slice dca d.cls.length dcc, .int .i64 d.width, .int .i64 d.start, .slice dna d.next.length dnc, .slice dba d.acc.length dbc] 25 (0, 0)))⟩, ⟨5, .slice oa Xs.length oc, (fun _ => True)⟩, ⟨4, .int .i64 ((kk : Nat) : Int), (fun _ => True)⟩, ⟨3, .slice ((V.getD i lr0).a) ((V.getD i lr0).n) ((V.getD i lr0).c), (fun w' => RdT tyLR w' (.slice oa Xs.length oc) V)⟩, ⟨2, elemPtr (.slice oa Xs.length oc) i, (fun w' => RdT tyLR w' (.slice oa Xs.length oc) V)⟩, ⟨1, .int .i64 ((i : Nat) : Int), (fun _ => True)⟩, ⟨0, .slice oa Xs.length oc, (fun _ => True)⟩], rfl, rfl, rfl, rfl, rfl, rfl, d_call ok81 rfl (Ret.calls (go11_any d dca dna dba dcc dnc dbc ((i : Nat) : Int) i (hs_1.getD c 0) w14 (rcd.at H17) (rnd.at H17) (rbd.at H17) (by omega) hrt (by omega) hcb) fun _ w15 p2 => ?_)⟩)
              obtain ⟨rfl, u7⟩ := p2
              have H18 : UpG w [] w15 [[blk w.heap.size #[.slice dca d.cls.length dcc, .int .i64 d.width, .int .i64 d.start, .slice dna d.next.length dnc, .slice dba d.acc.length dbc] 25], [manyF (inLR tyB 4).row V], [rowT tyLR (.slice oa Xs.length oc) 23 V], [rowT (tyI .i64) (.slice a2_1 hs_1.length c2_1) 3 hs_1]] := H17.call u7
              refine ⟨⟨(H18.rdT 3 rfl), (H18.rdT 3 rfl), trivial, trivial, trivial, (H18.blk 0 rfl), trivial, trivial, (H18.rdT 2 rfl), (H18.rdT 2 rfl), trivial, trivial, trivial⟩, ?_⟩
              refine WD.take hok2 13 (elemPtr (.slice oa Xs.length oc) (dN d i (hs_1.getD c 0))) (fun w' => RdT tyLR w' (.slice oa Xs.length oc) V) rfl rfl rfl rfl rfl (H18.rdT 2 rfl) (.inl ⟨rfl, fun _ hC => t_addr1 (dN d i (hs_1.getD c 0)) (T := tyLR) rfl Try.underlying29 sz23 rfl rfl hC rfl (by omega) ⟨rfl, rfl⟩⟩) ?_
              refine WD.take hok2 14 (.slice ((V.getD (dN d i (hs_1.getD c 0)) lr0).a) ((V.getD (dN d i (hs_1.getD c 0)) lr0).n) ((V.getD (dN d i (hs_1.getD c 0)) lr0).c)) (fun w' => RdT tyLR w' (.slice oa Xs.length oc) V) rfl rfl rfl rfl rfl (H18.rdT 2 rfl) (.inl ⟨rfl, fun _ hC => t_load1 (dN d i (hs_1.getD c 0)) lr0 (T := tyLR) rfl Try.underlying23 rfl rfl hC (by omega) rfl ⟨rfl, rfl⟩⟩) ?_
              refine WD.loud hok2 21 rfl (⟨_, [⟨14, .slice ((V.getD (dN d i (hs_1.getD c 0)) lr0).a) ((V.getD (dN d i (hs_1.getD c 0)) lr0).n) ((V.getD (dN d i (hs_1.getD c 0)) lr0).c), (fun w' => RdT tyLR w' (.slice oa Xs.length oc) V)⟩, ⟨13, elemPtr (.slice oa Xs.length oc) (dN d i (hs_1.getD c 0)), (fun w' => RdT tyLR w' (.slice oa Xs.length oc) V)⟩, ⟨5, .slice oa Xs.length oc, (fun _ => True)⟩, ⟨4, .int .i64 ((kk : Nat) : Int), (fun _ => True)⟩, ⟨3, .slice ((V.getD i lr0).a) ((V.getD i lr0).n) ((V.getD i lr0).c), (fun w' => RdT tyLR w' (.slice oa Xs.length oc) V)⟩, ⟨2, elemPtr (.slice oa Xs.length oc) i, (fun w' => RdT tyLR w' (.slice oa Xs.length oc) V)⟩, ⟨1, .int .i64 ((i : Nat) : Int), (fun _ => True)⟩, ⟨0, .slice oa Xs.length oc, (fun _ => True)⟩], rfl, rfl, rfl, rfl, rfl, rfl, d_call ok81 rfl (Ret.calls (go11_any d dca dna dba dcc dnc dbc ((kk : Nat) : Int) kk (hs_1.getD c 0) w15 (rcd.at H18) (rnd.at H18) (rbd.at H18) (by omega) hrt (by omega) hcb) fun _ w16 p3 => ?_)⟩)
              obtain ⟨rfl, u8⟩ := p3
              have H19 : UpG w [] w16 [[blk w.heap.size #[.slice dca d.cls.length dcc, .int .i64 d.width, .int .i64 d.start, .slice dna d.next.length dnc, .slice dba d.acc.length dbc] 25], [manyF (inLR tyB 4).row V], [rowT tyLR (.slice oa Xs.length oc) 23 V], [rowT (tyI .i64) (.slice a2_1 hs_1.length c2_1) 3 hs_1]] := H18.call u8
              refine ⟨⟨(H19.rdT 2 rfl), (H19.rdT 2 rfl), trivial, trivial, (H19.rdT 2 rfl), (H19.rdT 2 rfl), trivial, trivial, trivial⟩, ?_⟩
              refine WD.take hok2 22 (elemPtr (.slice ((V.getD (dN d i (hs_1.getD c 0)) lr0).a) ((V.getD (dN d i (hs_1.getD c 0)) lr0).n) ((V.getD (dN d i (hs_1.getD c 0)) lr0).c)) (dN d kk (hs_1.getD c 0))) (fun w' => RdT tyB w' (.slice ((V.getD (dN d i (hs_1.getD c 0)) lr0).a) ((V.getD (dN d i (hs_1.getD c 0)) lr0).n) ((V.getD (dN d i (hs_1.getD c 0)) lr0).c)) ((V.getD (dN d i (hs_1.getD c 0)) lr0).xs)) rfl rfl rfl rfl rfl (show RdT tyB w16 (.slice ((V.getD (dN d i (hs_1.getD c 0)) lr0).a) ((V.getD (dN d i (hs_1.getD c 0)) lr0).n) ((V.getD (dN d i (hs_1.getD c 0)) lr0).c)) ((V.getD (dN d i (hs_1.getD c 0)) lr0).xs) from (Inn.own (H19.hpOf 1 rfl)).get lr0 (dN d i (hs_1.getD c 0)) (by omega)) (.inl ⟨rfl, fun _ hC => t_addr1 (dN d kk (hs_1.getD c 0)) (T := tyB) rfl Try.underlying23 sz4 rfl rfl hC rfl (by omega) ⟨rfl, rfl⟩⟩) ?_
              refine WD.take hok2 23 (.bool (((V.getD (dN d i (hs_1.getD c 0)) lr0).xs).getD (dN d kk (hs_1.getD c 0)) false)) (fun w' => RdT tyB w' (.slice ((V.getD (dN d i (hs_1.getD c 0)) lr0).a) ((V.getD (dN d i (hs_1.getD c 0)) lr0).n) ((V.getD (dN d i (hs_1.getD c 0)) lr0).c)) ((V.getD (dN d i (hs_1.getD c 0)) lr0).xs)) rfl rfl rfl rfl rfl (show RdT tyB w16 (.slice ((V.getD (dN d i (hs_1.getD c 0)) lr0).a) ((V.getD (dN d i (hs_1.getD c 0)) lr0).n) ((V.getD (dN d i (hs_1.getD c 0)) lr0).c)) ((V.getD (dN d i (hs_1.getD c 0)) lr0).xs) from (Inn.own (H19.hpOf 1 rfl)).get lr0 (dN d i (hs_1.getD c 0)) (by omega)) (.inl ⟨rfl, fun _ hC => t_load1 (dN d kk (hs_1.getD c 0)) false (T := tyB) rfl Try.underlying4 rfl rfl hC (by omega) rfl ⟨rfl, rfl⟩⟩) ?_
              refine WD.take hok2 24 (elemPtr (.slice ((V.getD i lr0).a) ((V.getD i lr0).n) ((V.getD i lr0).c)) kk) (fun w' => RdT tyB w' (.slice ((V.getD i lr0).a) ((V.getD i lr0).n) ((V.getD i lr0).c)) ((V.getD i lr0).xs)) rfl rfl rfl rfl rfl (show RdT tyB w16 (.slice ((V.getD i lr0).a) ((V.getD i lr0).n) ((V.getD i lr0).c)) ((V.getD i lr0).xs) from (Inn.own (H19.hpOf 1 rfl)).get lr0 i (by omega)) (.inl ⟨rfl, fun _ hC => t_addr1 kk (T := tyB) rfl Try.underlying23 sz4 rfl rfl hC rfl (by omega) ⟨rfl, rfl⟩⟩) ?_
              have H20 : UpG w [] w16 [[blk w.heap.size #[.slice dca d.cls.length dcc, .int .i64 d.width, .int .i64 d.start, .slice dna d.next.length dnc, .slice dba d.acc.length dbc] 25], [manyF (inLR tyB 4).row (V.eraseIdx i)], [rowT tyLR (.slice oa Xs.length oc) 23 V], [rowT (tyI .i64) (.slice a2_1 hs_1.length c2_1) 3 hs_1], [rowT tyB (.slice ((V.getD i lr0).a) ((V.getD i lr0).n) ((V.getD i lr0).c)) 4 ((V.getD i lr0).xs)]] := H19.takeOut (f := (inLR tyB 4).row) lr0 1 i rfl (by omega)
              refine WD.loud hok2 25 rfl (⟨_, [], rfl, rfl, rfl, rfl, rfl, rfl, t_store1 kk (((V.getD (dN d i (hs_1.getD c 0)) lr0).xs).getD (dN d kk (hs_1.getD c 0)) false) (T := tyB) (e := 4) rfl sz4 rfl rfl rfl (H20.ownT 4 rfl) (by omega) fun w17 u9 => ?_⟩)
              have H21 : UpG w [] w17 [[blk w.heap.size #[.slice dca d.cls.length dcc, .int .i64 d.width, .int .i64 d.start, .slice dna d.next.length dnc, .slice dba d.acc.length dbc] 25], [manyF (inLR tyB 4).row (V.eraseIdx i)], [rowT tyLR (.slice oa Xs.length oc) 23 V], [rowT (tyI .i64) (.slice a2_1 hs_1.length c2_1) 3 hs_1], [rowT tyB (.slice ((V.getD i lr0).a) ((V.getD i lr0).n) ((V.getD i lr0).c)) 4 (((V.getD i lr0).xs).set kk (((V.getD (dN d i (hs_1.getD c 0)) lr0).xs).getD (dN d kk (hs_1.getD c 0)) false))]] := H20.on 4 rfl u9
              have H22 : UpG w [] w17 [[blk w.heap.size #[.slice dca d.cls.length dcc, .int .i64 d.width, .int .i64 d.start, .slice dna d.next.length dnc, .slice dba d.acc.length dbc] 25], [manyF (inLR tyB 4).row (V.set i ⟨(V.getD i lr0).a, (V.getD i lr0).n, (V.getD i lr0).c, ((V.getD i lr0).xs).set kk (((V.getD (dN d i (hs_1.getD c 0)) lr0).xs).getD (dN d kk (hs_1.getD c 0)) false)⟩)], [rowT tyLR (.slice oa Xs.length oc) 23 V], [rowT (tyI .i64) (.slice a2_1 hs_1.length c2_1) 3 hs_1], []] := (H21.putBack (f := (inLR tyB 4).row) ⟨(V.getD i lr0).a, (V.getD i lr0).n, (V.getD i lr0).c, ((V.getD i lr0).xs).set kk (((V.getD (dN d i (hs_1.getD c 0)) lr0).xs).getD (dN d kk (hs_1.getD c 0)) false)⟩ 1 4 i rfl rfl rfl (by omega)).re rfl
              have H23 : UpG w [] w17 [[blk w.heap.size #[.slice dca d.cls.length dcc, .int .i64 d.width, .int .i64 d.start, .slice dna d.next.length dnc, .slice dba d.acc.length dbc] 25], [manyF (inLR tyB 4).row (V.set i ⟨(V.getD i lr0).a, (V.getD i lr0).n, (V.getD i lr0).c, ((V.getD i lr0).xs).set kk (((V.getD (dN d i (hs_1.getD c 0)) lr0).xs).getD (dN d kk (hs_1.getD c 0)) false)⟩)], [rowT tyLR (.slice oa Xs.length oc) 23 (V.set i ⟨(V.getD i lr0).a, (V.getD i lr0).n, (V.getD i lr0).c, ((V.getD i lr0).xs).set kk (((V.getD (dN d i (hs_1.getD c 0)) lr0).xs).getD (dN d kk (hs_1.getD c 0)) false)⟩)], [rowT (tyI .i64) (.slice a2_1 hs_1.length c2_1) 3 hs_1], []] := H22.recast (((V.getD i lr0).xs).set kk (((V.getD (dN d i (hs_1.getD c 0)) lr0).xs).getD (dN d kk (hs_1.getD c 0)) false)) 2 i rfl (by omega)
              refine ⟨trivial, ?_⟩
              refine WD.done hok2 rfl (X.block_normal (X.then_code ?_))
              refine W.pick [75, 74, 73, 72, 71, 70, 69, 68, 12, 11, 10, 9, 8, 4, 3, 2, 1] (Γ' := [(75, .bool (!(((V.getD i lr0).xs).getD kk false))), (74, .bool (((V.getD i lr0).xs).getD kk false)), (73, elemPtr (.slice ((V.getD i lr0).a) ((V.getD i lr0).n) ((V.getD i lr0).c)) kk), (72, .int .i64 ((kk : Nat) : Int)), (71, .slice ((V.getD i lr0).a) ((V.getD i lr0).n) ((V.getD i lr0).c)), (70, elemPtr (.slice oa Xs.length oc) i), (69, .int .i64 ((i : Nat) : Int)), (68, .slice oa Xs.length oc), (12, .int .i64 ((c : Nat) : Int)), (11, .int .i64 ((kk : Nat) : Int)), (10, .int .i64 ((i : Nat) : Int)), (9, .int .i64 ((tt : Nat) : Int)), (8, .slice a2_1 hs_1.length c2_1), (4, .slice oa Xs.length oc), (3, .int .i64 ((d.acc.length : Nat) : Int)), (2, .slice none 0 0), (1, .pointer (some ⟨w.heap.size, 0, none⟩))]) rfl ?_
              refine W.region ?_
              refine WL.op rfl (d_move rfl ?_)
              refine WL.op rfl (d_add rfl rfl (by omega) (by omega) ?_)
              refine WL.op rfl (d_assign rfl ?_)
              refine WL.done ?_
              exact X.next [12, 11, 10, 9, 8, 4, 3, 2, 1] (Γ' := [(12, .int .i64 (((c + 1) : Nat) : Int)), (11, .int .i64 ((kk : Nat) : Int)), (10, .int .i64 ((i : Nat) : Int)), (9, .int .i64 ((tt : Nat) : Int)), (8, .slice a2_1 hs_1.length c2_1), (4, .slice oa Xs.length oc), (3, .int .i64 ((d.acc.length : Nat) : Int)), (2, .slice none 0 0), (1, .pointer (some ⟨w.heap.size, 0, none⟩))]) rfl (hs_1.length - (c + 1)) (by omega) ⟨c + 1, V.set i ⟨(V.getD i lr0).a, (V.getD i lr0).n, (V.getD i lr0).c, ((V.getD i lr0).xs).set kk (((V.getD (dN d i (hs_1.getD c 0)) lr0).xs).getD (dN d kk (hs_1.getD c 0)) false)⟩, rfl, (H23.re rfl), (by first | assumption | omega | simp), (by exact hV.step hrt (by omega) (by omega) hcb (by simpa [cellB] using c41) rfl), rfl⟩
            · skip
              refine W.exit (X.then_exit (X.then_exit (X.block_exit (X.block_normal (X.then_code ?_)))))
              refine W.region ?_
              refine WL.op rfl (d_move rfl ?_)
              refine WL.op rfl (d_add rfl rfl (by omega) (by omega) ?_)
              refine WL.op rfl (d_assign rfl ?_)
              refine WL.done ?_
              exact X.next [11, 10, 9, 8, 4, 3, 2, 1] (Γ' := [(11, .int .i64 (((kk + 1) : Nat) : Int)), (10, .int .i64 ((i : Nat) : Int)), (9, .int .i64 ((tt : Nat) : Int)), (8, .slice a2_1 hs_1.length c2_1), (4, .slice oa Xs.length oc), (3, .int .i64 ((d.acc.length : Nat) : Int)), (2, .slice none 0 0), (1, .pointer (some ⟨w.heap.size, 0, none⟩))]) rfl (d.acc.length - (kk + 1)) (by omega) ⟨kk + 1, V, rfl, H16, (by first | assumption | omega | simp), (by first | exact hV.next q1 (by omega) (by omega) (.inl (by omega)) | exact hV.next q1 (by omega) (by omega) (.inr (by simpa [cellB] using c41))), rfl⟩
          · skip
            refine WL.opN rfl rfl rfl rfl ?_
            refine WL.opN rfl rfl rfl rfl ?_
            refine WL.opN rfl rfl rfl rfl ?_
            refine WL.opN rfl rfl rfl rfl ?_
            refine WL.opN rfl rfl rfl rfl ?_
            refine WL.opN rfl rfl rfl rfl ?_
            refine WL.opN rfl rfl rfl rfl ?_
            refine WL.opN rfl rfl rfl rfl ?_
            refine WL.op rfl (d_pick rfl rfl ?_)
            refine WL.done (X.then_code ?_)
            refine W.iff rfl ?_
            refine W.exit (X.then_exit (X.then_exit (X.block_exit (X.block_normal (X.then_code ?_)))))
            refine W.region ?_
            refine WL.op rfl (d_move rfl ?_)
            refine WL.op rfl (d_add rfl rfl (by omega) (by omega) ?_)
            refine WL.op rfl (d_assign rfl ?_)
            refine WL.done ?_
            exact X.next [11, 10, 9, 8, 4, 3, 2, 1] (Γ' := [(11, .int .i64 (((kk + 1) : Nat) : Int)), (10, .int .i64 ((i : Nat) : Int)), (9, .int .i64 ((tt : Nat) : Int)), (8, .slice a2_1 hs_1.length c2_1), (4, .slice oa Xs.length oc), (3, .int .i64 ((d.acc.length : Nat) : Int)), (2, .slice none 0 0), (1, .pointer (some ⟨w.heap.size, 0, none⟩))]) rfl (d.acc.length - (kk + 1)) (by omega) ⟨kk + 1, V, rfl, H16, (by first | assumption | omega | simp), (by first | exact hV.next q1 (by omega) (by omega) (.inl (by omega)) | exact hV.next q1 (by omega) (by omega) (.inr (by simpa [cellB] using c41))), rfl⟩
        · skip
          refine W.exit (X.then_exit (X.then_exit (X.block_exit (X.block_normal (X.then_code ?_)))))
          refine W.region ?_
          refine WL.op rfl (d_move rfl ?_)
          refine WL.op rfl (d_add rfl rfl (by omega) (by omega) ?_)
          refine WL.op rfl (d_assign rfl ?_)
          refine WL.done ?_
          exact X.next [10, 9, 8, 4, 3, 2, 1] (Γ' := [(10, .int .i64 (((i + 1) : Nat) : Int)), (9, .int .i64 ((tt : Nat) : Int)), (8, .slice a2_1 hs_1.length c2_1), (4, .slice oa Xs.length oc), (3, .int .i64 ((d.acc.length : Nat) : Int)), (2, .slice none 0 0), (1, .pointer (some ⟨w.heap.size, 0, none⟩))]) rfl (d.acc.length - (i + 1)) (by omega) ⟨i + 1, U, rfl, H15, (by first | assumption | omega | simp), (by exact hU.rowDone (by omega)), rfl⟩
      · skip
        refine W.exit (X.then_exit (X.then_exit (X.block_exit (X.block_normal (X.then_code ?_)))))
        refine W.region ?_
        refine WL.op rfl (d_move rfl ?_)
        refine WL.op rfl (d_add rfl rfl (by omega) (by omega) ?_)
        refine WL.op rfl (d_assign rfl ?_)
        refine WL.done ?_
        exact X.next [9, 8, 4, 3, 2, 1] (Γ' := [(9, .int .i64 (((tt + 1) : Nat) : Int)), (8, .slice a2_1 hs_1.length c2_1), (4, .slice oa Xs.length oc), (3, .int .i64 ((d.acc.length : Nat) : Int)), (2, .slice none 0 0), (1, .pointer (some ⟨w.heap.size, 0, none⟩))]) rfl (d.acc.length - (tt + 1)) (by omega) ⟨tt + 1, Z, rfl, H14, (by first | assumption | omega | simp), (by exact hZ.turn (by omega)), rfl⟩
    · skip
      refine W.exit (X.then_exit (X.then_exit (X.block_exit (X.then_code ?_))))
      refine W.seq ?_
      refine W.region ?_
      refine WL.op rfl (d_move rfl ?_)
      refine WL.op rfl (d_assign rfl ?_)
      refine WL.done (X.then_code ?_)
      refine W.ret (X.ret1 rfl rfl ?_)
      exact ⟨oa, Y, Xs.length, oc, rfl, (Upd.sel H13 (l := [2, 1]) rfl rfl), hY.fin hrt (by omega), (by omega)⟩
end Go.Proofs.Ytoeockpkkmgieaa


/- The walks of functions, printed by wip/tools/gw.py. -/
namespace Go.Proofs.Ytoeockpkkmgieaa
open Go Go.Sx
set_option linter.unusedVariables false
set_option linter.unusedSimpArgs false
set_option maxRecDepth 20000 in
theorem number_any (fa : Option Addr) (f : List Int) (fc : Nat) (w : World) (rf : RdT (tyI .i64) w (.slice fa f.length fc) f) (hf : FirstP f) (hl : f.length ≤ 100000) :
    Calls Try.prog 86 #[.slice fa f.length fc] w (Ret fun v w' => ∃ a2 : Option Addr, ∃ c2 : Nat, v = .tuple #[.slice a2 ((numL f).length) c2, .int .i64 (((dd f).length : Nat) : Int)] ∧ Upd w [] w' [rowT (tyI .i64) (.slice a2 ((numL f).length) c2) 3 (numL f)]) := by
  have le_rf := rf.le
  refine calls_of_W (args := [.slice fa f.length fc]) Try.func86 rfl rfl rfl ?_
  have H0 : UpG w [] w [] := UpG.nil w
  show W _ _ _ _ [(0, .slice fa f.length fc)] w
  refine W.seq ?_
  refine W.region ?_
  refine WL.op rfl (d_assign rfl ?_)
  refine WL.op rfl (d_assign rfl ?_)
  refine WL.done (X.then_code ?_)
  refine W.seq ?_
  refine W.region ?_
  refine WL.op rfl (d_assign rfl ?_)
  refine WL.done (X.then_code ?_)
  refine W.seq ?_
  refine W.region ?_
  refine WL.op rfl (d_assign rfl ?_)
  refine WL.done (X.then_code ?_)
  refine W.seq ?_
  refine W.seq ?_
  refine W.region ?_
  refine WL.op rfl (d_assign rfl ?_)
  refine WL.done (X.then_code ?_)
  refine W.block ?_
  have H1 : UpG w [] w [[rowT (tyI .i64) (.slice none (([] : List Int).length) 0) 3 ([] : List Int)]] := H0.new' (Upd.nilRowT w (tyI .i64) 3)
  refine W.pick [6, 5, 4, 3, 2, 0] (Γ' := [(6, .int .i64 0), (5, .int .i64 0), (4, .slice none (([] : List Int).length) 0), (3, .int .i64 0), (2, .slice none 0 0), (0, .slice fa f.length fc)]) rfl ?_
  refine W.loop (fun m Γ' w' => ∃ i : Nat, ∃ nn : Nat, ∃ q : List Int, ∃ qa : Option Addr, ∃ qc : Nat, Γ' = [(6, .int .i64 ((i : Nat) : Int)), (5, .int .i64 ((nn : Nat) : Int)), (4, .slice qa q.length qc), (3, .int .i64 0), (2, .slice none 0 0), (0, .slice fa f.length fc)] ∧ UpG w [] w' [[rowT (tyI .i64) (.slice qa q.length qc) 3 q]] ∧ (i ≤ f.length) ∧ (nn = (dd (f.take i)).length) ∧ (q = numL (f.take i)) ∧ m = f.length - i) (f.length - 0) ⟨0, 0, ([] : List Int), none, 0, rfl, H1, (by first | assumption | omega | simp), (by rfl), (by rfl), rfl⟩ ?_
  rintro m1 Γ1 w1 ⟨i, nn, q, qa, qc, rfl, H2, hi, hn, hq, rfl⟩
  have hql : q.length ≤ i := by rw [hq, numL_len]; simp; omega
  have hnl : nn ≤ i := by rw [hn]; exact Nat.le_trans (dd_len _) (by simp; omega)
  refine W.seq ?_
  refine W.seq ?_
  refine W.region ?_
  refine WL.op rfl (d_move rfl ?_)
  refine WL.op rfl (d_move rfl ?_)
  refine WL.op rfl (d_lenS Try.underlying22 rfl ?_)
  refine WL.op rfl (d_cmp (decide (((i : Nat) : Int) < ((f.length : Nat) : Int))) rfl rfl rfl ?_)
  refine WL.done (X.then_code ?_)
  refine W.ite (p := ((i : Nat) : Int) < ((f.length : Nat) : Int)) rfl (fun c13 => ?_) (fun c13 => ?_)
  · skip
    refine W.skip (X.then_code ?_)
    refine W.seq ?_
    refine W.block ?_
    refine W.seq ?_
    refine W.region ?_
    refine WL.op rfl (d_move rfl ?_)
    refine WL.op rfl (d_move rfl ?_)
    refine WL.op rfl (t_addr1 i (T := (tyI .i64)) rfl Try.underlying22 sz3 rfl rfl (rf.at H2) rfl (by omega) ?_)
    refine WL.op rfl (t_load1 i 0 (T := (tyI .i64)) rfl Try.underlying3 rfl rfl (rf.at H2) (by omega) rfl ?_)
    refine WL.op rfl (d_move rfl ?_)
    refine WL.op rfl (d_cmp (decide ((f.getD i 0) = ((i : Nat) : Int))) rfl rfl rfl ?_)
    refine WL.done (X.then_code ?_)
    refine W.ite (p := (f.getD i 0) = ((i : Nat) : Int)) rfl (fun c14 => ?_) (fun c14 => ?_)
    · skip
      refine W.seq ?_
      refine W.region ?_
      refine WL.op rfl (d_move rfl ?_)
      refine WL.op rfl (d_move rfl ?_)
      refine WL.op rfl (t_buildSlice (T := (tyI .i64)) (xs := [((nn : Nat) : Int)]) (cs := #[.int .i64 ((nn : Nat) : Int)]) rfl Try.underlying22 sz3 rfl rfl rfl rfl (by kernel_rfl) rfl rfl fun w2 u1 => ?_)
      have H3 : UpG w [] w2 [[rowT (tyI .i64) (.slice qa q.length qc) 3 q], [rowT (tyI .i64) (.slice (some ⟨w1.heap.size, 0, none⟩) ([((nn : Nat) : Int)].length) ([((nn : Nat) : Int)].length)) 3 [((nn : Nat) : Int)]]] := H2.new' u1
      refine WL.op rfl (t_append (T := (tyI .i64)) (xs := q) (ys := [((nn : Nat) : Int)]) rfl Try.underlying22 sz3 rfl rfl rfl (H3.ownT 0 rfl) (H3.rdT 1 rfl) (by simp only [List.length_singleton]; omega) (by simp only [List.length_singleton]; omega) fun a1 c1 w3 u2 => ?_)
      have H4 : UpG w [] w3 [[rowT (tyI .i64) (.slice a1 ((q ++ [((nn : Nat) : Int)]).length) c1) 3 (q ++ [((nn : Nat) : Int)])], []] := (H3.on 0 rfl u2).drop 1
      refine WL.op rfl (d_assign rfl ?_)
      refine WL.done (X.then_code ?_)
      refine W.region ?_
      refine WL.op rfl (d_move rfl ?_)
      refine WL.op rfl (d_add rfl rfl (by omega) (by omega) ?_)
      refine WL.op rfl (d_assign rfl ?_)
      refine WL.done (X.block_normal (X.then_code ?_))
      refine W.region ?_
      refine WL.op rfl (d_move rfl ?_)
      refine WL.op rfl (d_add rfl rfl (by omega) (by omega) ?_)
      refine WL.op rfl (d_assign rfl ?_)
      refine WL.done ?_
      exact X.next [6, 5, 4, 3, 2, 0] (Γ' := [(6, .int .i64 (((i + 1) : Nat) : Int)), (5, .int .i64 (((nn + 1) : Nat) : Int)), (4, .slice a1 ((q ++ [((nn : Nat) : Int)]).length) c1), (3, .int .i64 0), (2, .slice none 0 0), (0, .slice fa f.length fc)]) rfl (f.length - (i + 1)) (by omega) ⟨i + 1, nn + 1, q ++ [((nn : Nat) : Int)], a1, c1, rfl, (H4.re rfl), (by first | assumption | omega | simp), (by first | exact (hn ▸ (hf.step_new (by omega) c14).2.symm) | exact hn.trans (congrArg List.length (hf.step_old (by omega) c14).2.symm)), (by first | (rw [hq, hn]; exact (hf.step_new (by omega) c14).1) | (rw [hq]; exact (hf.step_old (by omega) c14).1)), rfl⟩
    · skip
      have hfo := hf.old (i := i) (by omega) c14
      have hfi := hf i (by omega)
      have hql2 : q.length = i := by rw [hq, numL_len]; simp; omega
      refine W.region ?_
      refine WL.op rfl (d_move rfl ?_)
      refine WL.op rfl (d_move rfl ?_)
      refine WL.op rfl (d_move rfl ?_)
      refine WL.op rfl (d_move rfl ?_)
      refine WL.op rfl (t_addr1 i (T := (tyI .i64)) rfl Try.underlying22 sz3 rfl rfl (rf.at H2) rfl (by omega) ?_)
      refine WL.op rfl (t_load1 i 0 (T := (tyI .i64)) rfl Try.underlying3 rfl rfl (rf.at H2) (by omega) rfl ?_)
      refine WL.op rfl (t_addr1 ((f.getD i 0).toNat) (T := (tyI .i64)) rfl Try.underlying22 sz3 rfl rfl (H2.rdT 0 rfl) (by omega) (by omega) ?_)
      refine WL.op rfl (t_load1 ((f.getD i 0).toNat) 0 (T := (tyI .i64)) rfl Try.underlying3 rfl rfl (H2.rdT 0 rfl) (by omega) rfl ?_)
      refine WL.op rfl (t_buildSlice (T := (tyI .i64)) (xs := [q.getD ((f.getD i 0).toNat) 0]) (cs := #[.int .i64 (q.getD ((f.getD i 0).toNat) 0)]) rfl Try.underlying22 sz3 rfl rfl rfl rfl (by kernel_rfl) rfl rfl fun w4 u3 => ?_)
      have H5 : UpG w [] w4 [[rowT (tyI .i64) (.slice qa q.length qc) 3 q], [rowT (tyI .i64) (.slice (some ⟨w1.heap.size, 0, none⟩) ([q.getD ((f.getD i 0).toNat) 0].length) ([q.getD ((f.getD i 0).toNat) 0].length)) 3 [q.getD ((f.getD i 0).toNat) 0]]] := H2.new' u3
      refine WL.op rfl (t_append (T := (tyI .i64)) (xs := q) (ys := [q.getD ((f.getD i 0).toNat) 0]) rfl Try.underlying22 sz3 rfl rfl rfl (H5.ownT 0 rfl) (H5.rdT 1 rfl) (by simp only [List.length_singleton]; omega) (by simp only [List.length_singleton]; omega) fun a2 c2 w5 u4 => ?_)
      have H6 : UpG w [] w5 [[rowT (tyI .i64) (.slice a2 ((q ++ [q.getD ((f.getD i 0).toNat) 0]).length) c2) 3 (q ++ [q.getD ((f.getD i 0).toNat) 0])], []] := (H5.on 0 rfl u4).drop 1
      refine WL.op rfl (d_assign rfl ?_)
      refine WL.done (X.block_normal (X.then_code ?_))
      refine W.region ?_
      refine WL.op rfl (d_move rfl ?_)
      refine WL.op rfl (d_add rfl rfl (by omega) (by omega) ?_)
      refine WL.op rfl (d_assign rfl ?_)
      refine WL.done ?_
      exact X.next [6, 5, 4, 3, 2, 0] (Γ' := [(6, .int .i64 (((i + 1) : Nat) : Int)), (5, .int .i64 ((nn : Nat) : Int)), (4, .slice a2 ((q ++ [q.getD ((f.getD i 0).toNat) 0]).length) c2), (3, .int .i64 0), (2, .slice none 0 0), (0, .slice fa f.length fc)]) rfl (f.length - (i + 1)) (by omega) ⟨i + 1, nn, q ++ [q.getD ((f.getD i 0).toNat) 0], a2, c2, rfl, (H6.re rfl), (by first | assumption | omega | simp), (by first | exact (hn ▸ (hf.step_new (by omega) c14).2.symm) | exact hn.trans (congrArg List.length (hf.step_old (by omega) c14).2.symm)), (by first | (rw [hq, hn]; exact (hf.step_new (by omega) c14).1) | (rw [hq]; exact (hf.step_old (by omega) c14).1)), rfl⟩
  · skip
    refine W.exit (X.then_exit (X.then_exit (X.block_exit (X.then_code ?_))))
    refine W.seq ?_
    refine W.region ?_
    refine WL.op rfl (d_move rfl ?_)
    refine WL.op rfl (d_move rfl ?_)
    refine WL.op rfl (d_assign rfl ?_)
    refine WL.op rfl (d_assign rfl ?_)
    refine WL.done (X.then_code ?_)
    refine W.ret (X.ret2 rfl rfl rfl ?_)
    have e1 : numL f = q := by rw [hq, List.take_of_length_le (by omega)]
    have e2 : (dd f).length = nn := by rw [hn, List.take_of_length_le (by omega)]
    rw [e1, e2]
    exact ⟨qa, qc, (by rfl), (by have hh := H2.one 0 rfl; exact hh)⟩

set_option maxRecDepth 20000 in
theorem find13_any (la : Option Addr) (l : List Int) (lc : Nat) (x : Int) (w : World) (rl : RdT (tyI .i64) w (.slice la l.length lc) l) :
    Calls Try.prog 88 #[.slice la l.length lc, .int .i64 x] w (Ret fun v w' => v = .int .i64 (firstI x l) ∧ Upd w [] w' []) := by
  have le_rl := rl.le
  refine calls_of_W (args := [.slice la l.length lc, .int .i64 x]) Try.func88 rfl rfl rfl ?_
  have H0 : UpG w [] w [] := UpG.nil w
  show W _ _ _ _ [(0, .slice la l.length lc), (1, .int .i64 x)] w
  refine W.seq ?_
  refine W.region ?_
  refine WL.op rfl (d_assign rfl ?_)
  refine WL.done (X.then_code ?_)
  refine W.seq ?_
  refine W.seq ?_
  refine W.region ?_
  refine WL.op rfl (d_assign rfl ?_)
  refine WL.done (X.then_code ?_)
  refine W.block ?_
  refine W.pick [5, 4, 0, 1] (Γ' := [(5, .int .i64 0), (4, .int .i64 0), (0, .slice la l.length lc), (1, .int .i64 x)]) rfl ?_
  refine W.loop (fun m Γ' w' => ∃ k : Nat, Γ' = [(5, .int .i64 ((k : Nat) : Int)), (4, .int .i64 0), (0, .slice la l.length lc), (1, .int .i64 x)] ∧ UpG w [] w' [] ∧ (k ≤ l.length) ∧ (∀ i, i < k → l.getD i 0 ≠ x) ∧ m = l.length - k) (l.length - 0) ⟨0, rfl, H0, (by first | assumption | omega | simp), (by intro i hi; omega), rfl⟩ ?_
  rintro m1 Γ1 w1 ⟨k, rfl, H1, hk, hno, rfl⟩
  refine W.seq ?_
  refine W.seq ?_
  refine W.region ?_
  refine WL.op rfl (d_move rfl ?_)
  refine WL.op rfl (d_move rfl ?_)
  refine WL.op rfl (d_lenS Try.underlying22 rfl ?_)
  refine WL.op rfl (d_cmp (decide (((k : Nat) : Int) < ((l.length : Nat) : Int))) rfl rfl rfl ?_)
  refine WL.done (X.then_code ?_)
  refine W.ite (p := ((k : Nat) : Int) < ((l.length : Nat) : Int)) rfl (fun c68 => ?_) (fun c68 => ?_)
  · skip
    refine W.skip (X.then_code ?_)
    refine W.seq ?_
    refine W.block ?_
    refine W.seq ?_
    refine W.region ?_
    refine WL.op rfl (d_move rfl ?_)
    refine WL.op rfl (d_move rfl ?_)
    refine WL.op rfl (t_addr1 k (T := (tyI .i64)) rfl Try.underlying22 sz3 rfl rfl (rl.at H1) rfl (by omega) ?_)
    refine WL.op rfl (t_load1 k 0 (T := (tyI .i64)) rfl Try.underlying3 rfl rfl (rl.at H1) (by omega) rfl ?_)
    refine WL.op rfl (d_move rfl ?_)
    refine WL.op rfl (d_cmp (decide ((l.getD k 0) = x)) rfl rfl rfl ?_)
    refine WL.done (X.then_code ?_)
    refine W.ite (p := (l.getD k 0) = x) rfl (fun c69 => ?_) (fun c69 => ?_)
    · skip
      refine W.seq ?_
      refine W.region ?_
      refine WL.op rfl (d_move rfl ?_)
      refine WL.op rfl (d_assign rfl ?_)
      refine WL.done (X.then_code ?_)
      refine W.ret (X.block_ret (X.then_ret (X.then_ret (X.block_ret (X.then_ret (X.ret1 rfl rfl ?_))))))
      exact ⟨(by rw [firstI_at (by omega) (by assumption) hno]), H1.noneL⟩
    · skip
      refine W.skip (X.block_normal (X.then_code ?_))
      refine W.region ?_
      refine WL.op rfl (d_move rfl ?_)
      refine WL.op rfl (d_add rfl rfl (by omega) (by omega) ?_)
      refine WL.op rfl (d_assign rfl ?_)
      refine WL.done ?_
      exact X.next [5, 4, 0, 1] (Γ' := [(5, .int .i64 (((k + 1) : Nat) : Int)), (4, .int .i64 0), (0, .slice la l.length lc), (1, .int .i64 x)]) rfl (l.length - (k + 1)) (by omega) ⟨k + 1, rfl, H1, (by first | assumption | omega | simp), (by exact all_step hno (by assumption)), rfl⟩
  · skip
    refine W.exit (X.then_exit (X.then_exit (X.block_exit (X.then_code ?_))))
    refine W.seq ?_
    refine W.region ?_
    refine WL.op rfl (d_assign rfl ?_)
    refine WL.done (X.then_code ?_)
    refine W.ret (X.ret1 rfl rfl ?_)
    exact ⟨(by rw [firstI_none (fun i hi => hno i (by omega))]), H1.noneL⟩

set_option maxRecDepth 20000 in
theorem blocks13_any (d : DfaD) (dca : Option Addr) (dna : Option Addr) (dba : Option Addr) (dcc : Nat) (dnc : Nat) (dbc : Nat) (w : World) (rcd : RdT (tyI .i64) w (.slice dca d.cls.length dcc) d.cls) (rnd : RdT (tyI .i64) w (.slice dna d.next.length dnc) d.next) (rbd : RdT tyB w (.slice dba d.acc.length dbc) d.acc) (hrt : rightB d = true) :
    Calls Try.prog 53 #[.agg #[.slice dca d.cls.length dcc, .int .i64 d.width, .int .i64 d.start, .slice dna d.next.length dnc, .slice dba d.acc.length dbc]] w (Ret fun v w' => ∃ a2 : Option Addr, ∃ bl : List Int, ∃ c2 : Nat, ∃ bn : Int, v = .tuple #[.slice a2 bl.length c2, .int .i64 bn] ∧ Upd w [] w' [rowT (tyI .i64) (.slice a2 bl.length c2) 3 bl] ∧ (∃ f, FrP d f d.acc.length ∧ bl = numL f ∧ bn = ((dd f).length : Int))) := by
  have hri := rightB_iff.1 hrt
  have le_rcd := rcd.le
  have le_rnd := rnd.le
  have le_rbd := rbd.le
  refine calls_of_W (args := [.agg #[.slice dca d.cls.length dcc, .int .i64 d.width, .int .i64 d.start, .slice dna d.next.length dnc, .slice dba d.acc.length dbc]]) Try.func53 rfl rfl rfl ?_
  have H0 : UpG w [] w [] := UpG.nil w
  show W _ _ _ _ [(0, .agg #[.slice dca d.cls.length dcc, .int .i64 d.width, .int .i64 d.start, .slice dna d.next.length dnc, .slice dba d.acc.length dbc])] w
  refine W.seq ?_
  refine W.region ?_
  refine WL.op rfl (d_box rfl fun w1 u1 => ?_)
  have H1 : UpG w [] w1 [[blk w.heap.size #[.slice dca d.cls.length dcc, .int .i64 d.width, .int .i64 d.start, .slice dna d.next.length dnc, .slice dba d.acc.length dbc] 25]] := H0.new' u1
  refine WL.op rfl (d_assign rfl ?_)
  refine WL.op rfl (d_assign rfl ?_)
  refine WL.done (X.then_code ?_)
  refine W.seq ?_
  refine W.region ?_
  refine WL.op rfl (d_loadAB [.slice dca d.cls.length dcc, .int .i64 d.width, .int .i64 d.start, .slice dna d.next.length dnc, .slice dba d.acc.length dbc] Try.underlying25 rfl sz25 rfl (H1.blk 0 rfl) rfl rfl ?_)
  refine WL.op rfl (d_call ok56 rfl (Ret.calls (unlike_any d dca dna dba dcc dnc dbc w1 (rcd.at H1) (rnd.at H1) (rbd.at H1) (by omega)) fun _ w2 p1 => ?_))
  obtain ⟨a2_1, Xs_1, n2_1, c2_1, rfl, u2, q1, q2⟩ := p1
  have H2 : UpG w [] w2 [[blk w.heap.size #[.slice dca d.cls.length dcc, .int .i64 d.width, .int .i64 d.start, .slice dna d.next.length dnc, .slice dba d.acc.length dbc] 25], [rowT tyLR (.slice a2_1 n2_1 c2_1) 23 Xs_1], [manyF (inLR tyB 4).row Xs_1]] := (H1.new' u2).re rfl
  refine WL.op rfl (d_assign rfl ?_)
  refine WL.done (X.then_code ?_)
  refine W.seq ?_
  refine W.region ?_
  refine WL.op rfl (d_assign rfl ?_)
  refine WL.done (X.then_code ?_)
  refine W.seq ?_
  refine W.seq ?_
  refine W.region ?_
  refine WL.op rfl (d_assign rfl ?_)
  refine WL.done (X.then_code ?_)
  refine W.block ?_
  have H3 : UpG w [] w2 [[blk w.heap.size #[.slice dca d.cls.length dcc, .int .i64 d.width, .int .i64 d.start, .slice dna d.next.length dnc, .slice dba d.acc.length dbc] 25], [rowT tyLR (.slice a2_1 n2_1 c2_1) 23 Xs_1], [manyF (inLR tyB 4).row Xs_1], [rowT (tyI .i64) (.slice none (([] : List Int).length) 0) 3 ([] : List Int)]] := H2.new' (Upd.nilRowT w2 (tyI .i64) 3)
  refine W.pick [6, 5, 4, 3, 2] (Γ' := [(6, .int .i64 0), (5, .slice none (([] : List Int).length) 0), (4, .slice a2_1 n2_1 c2_1), (3, .int .i64 0), (2, .slice none 0 0)]) rfl ?_
  refine W.loop (fun m Γ' w' => ∃ i : Nat, ∃ q : List Int, ∃ qa : Option Addr, ∃ qc : Nat, Γ' = [(6, .int .i64 ((i : Nat) : Int)), (5, .slice qa q.length qc), (4, .slice a2_1 n2_1 c2_1), (3, .int .i64 0), (2, .slice none 0 0)] ∧ UpG w [] w' [[blk w.heap.size #[.slice dca d.cls.length dcc, .int .i64 d.width, .int .i64 d.start, .slice dna d.next.length dnc, .slice dba d.acc.length dbc] 25], [rowT tyLR (.slice a2_1 n2_1 c2_1) 23 Xs_1], [manyF (inLR tyB 4).row Xs_1], [rowT (tyI .i64) (.slice qa q.length qc) 3 q]] ∧ (i ≤ Xs_1.length) ∧ (FrP d q i) ∧ m = Xs_1.length - i) (Xs_1.length - 0) ⟨0, ([] : List Int), none, 0, rfl, H3, (by omega), (by exact FrP.start d), rfl⟩ ?_
  rintro m1 Γ1 w3 ⟨i, q, qa, qc, rfl, H4, hi, hq, rfl⟩
  have hql := hq.len
  have hXl := q1.len
  refine W.seq ?_
  refine W.seq ?_
  refine W.region ?_
  refine WL.op rfl (d_move rfl ?_)
  refine WL.op rfl (d_move rfl ?_)
  refine WL.op rfl (d_lenS Try.underlying29 rfl ?_)
  refine WL.op rfl (d_cmp (decide (((i : Nat) : Int) < ((n2_1 : Nat) : Int))) rfl rfl rfl ?_)
  refine WL.done (X.then_code ?_)
  refine W.ite (p := ((i : Nat) : Int) < ((n2_1 : Nat) : Int)) rfl (fun c54 => ?_) (fun c54 => ?_)
  · skip
    refine W.skip (X.then_code ?_)
    refine W.seq ?_
    refine W.block ?_
    refine W.seq ?_
    refine W.region ?_
    refine WL.op rfl (d_move rfl ?_)
    refine WL.op rfl (d_assign rfl ?_)
    refine WL.done (X.then_code ?_)
    refine W.seq ?_
    refine W.seq ?_
    refine W.region ?_
    refine WL.op rfl (d_move rfl ?_)
    refine WL.op rfl (d_sub rfl rfl (by omega) (by omega) ?_)
    refine WL.op rfl (d_assign rfl ?_)
    refine WL.done (X.then_code ?_)
    refine W.block ?_
    refine W.pick [8, 7, 6, 5, 4, 3, 2] (Γ' := [(8, .int .i64 (((i : Nat) : Int) - 1)), (7, .int .i64 ((i : Nat) : Int)), (6, .int .i64 ((i : Nat) : Int)), (5, .slice qa q.length qc), (4, .slice a2_1 n2_1 c2_1), (3, .int .i64 0), (2, .slice none 0 0)]) rfl ?_
    refine W.loop (fun m Γ' w' => ∃ y : Int, ∃ aa : Int, Γ' = [(8, .int .i64 y), (7, .int .i64 aa), (6, .int .i64 ((i : Nat) : Int)), (5, .slice qa q.length qc), (4, .slice a2_1 n2_1 c2_1), (3, .int .i64 0), (2, .slice none 0 0)] ∧ UpG w [] w' [[blk w.heap.size #[.slice dca d.cls.length dcc, .int .i64 d.width, .int .i64 d.start, .slice dna d.next.length dnc, .slice dba d.acc.length dbc] 25], [rowT tyLR (.slice a2_1 n2_1 c2_1) 23 Xs_1], [manyF (inLR tyB 4).row Xs_1], [rowT (tyI .i64) (.slice qa q.length qc) 3 q]] ∧ (-1 ≤ y ∧ y < (i : Int)) ∧ (FkP d i aa y) ∧ m = (y + 1).toNat) (((((i : Nat) : Int) - 1) + 1).toNat) ⟨((i : Nat) : Int) - 1, ((i : Nat) : Int), rfl, H4, (by omega), (by exact FkP.start d i), rfl⟩ ?_
    rintro m2 Γ2 w4 ⟨y, aa, rfl, H5, hy, hat, rfl⟩
    have hri1 := q1.row i (by omega)
    refine W.seq ?_
    refine W.seq ?_
    refine W.region ?_
    refine WL.op rfl (d_move rfl ?_)
    refine WL.op rfl (d_cmp (decide (y ≥ (0 : Int))) rfl rfl rfl ?_)
    refine WL.done (X.then_code ?_)
    refine W.ite (p := y ≥ (0 : Int)) rfl (fun c56 => ?_) (fun c56 => ?_)
    · skip
      refine W.skip (X.then_code ?_)
      refine W.seq ?_
      refine W.block ?_
      refine W.seq ?_
      refine W.region ?_
      refine WL.op rfl (d_move rfl ?_)
      refine WL.op rfl (d_move rfl ?_)
      refine WL.op rfl (t_addr1 i (T := tyLR) rfl Try.underlying29 sz23 rfl rfl (H5.rdT 1 rfl) rfl (by omega) ?_)
      refine WL.op rfl (t_load1 i lr0 (T := tyLR) rfl Try.underlying23 rfl rfl (H5.rdT 1 rfl) (by omega) rfl ?_)
      refine WL.op rfl (d_move rfl ?_)
      refine WL.op rfl (t_addr1 y.toNat (T := tyB) rfl Try.underlying23 sz4 rfl rfl (show RdT tyB w4 (.slice ((Xs_1.getD i lr0).a) ((Xs_1.getD i lr0).n) ((Xs_1.getD i lr0).c)) ((Xs_1.getD i lr0).xs) from (Inn.own (H5.hpOf 2 rfl)).get lr0 i (by omega)) (by omega) (by omega) ?_)
      refine WL.op rfl (t_load1 y.toNat false (T := tyB) rfl Try.underlying4 rfl rfl (show RdT tyB w4 (.slice ((Xs_1.getD i lr0).a) ((Xs_1.getD i lr0).n) ((Xs_1.getD i lr0).c)) ((Xs_1.getD i lr0).xs) from (Inn.own (H5.hpOf 2 rfl)).get lr0 i (by omega)) (by omega) rfl ?_)
      refine WL.op rfl (d_notB rfl ?_)
      refine WL.done (X.then_code ?_)
      refine W.iteB (b := !(((Xs_1.getD i lr0).xs).getD y.toNat false)) rfl (fun c57 => ?_) (fun c57 => ?_)
      · skip
        refine W.region ?_
        refine WL.op rfl (d_move rfl ?_)
        refine WL.op rfl (d_assign rfl ?_)
        refine WL.done (X.block_normal (X.then_code ?_))
        refine W.region ?_
        refine WL.op rfl (d_move rfl ?_)
        refine WL.op rfl (d_sub rfl rfl (by omega) (by omega) ?_)
        refine WL.op rfl (d_assign rfl ?_)
        refine WL.done ?_
        exact X.next [8, 7, 6, 5, 4, 3, 2] (Γ' := [(8, .int .i64 (y - 1)), (7, .int .i64 y), (6, .int .i64 ((i : Nat) : Int)), (5, .slice qa q.length qc), (4, .slice a2_1 n2_1 c2_1), (3, .int .i64 0), (2, .slice none 0 0)]) rfl (((y - 1) + 1).toNat) (by omega) ⟨y - 1, y, rfl, H5, (by omega), (by first | exact hat.hit (by omega) (fun h9 => by have h8 := (q1.val i y.toNat (by omega) (by omega)).2 h9; simp [cellB] at h8 c57; simp_all) | exact hat.miss (by omega) ((q1.val i y.toNat (by omega) (by omega)).1 (by simpa [cellB] using c57))), rfl⟩
      · skip
        refine W.skip (X.block_normal (X.then_code ?_))
        refine W.region ?_
        refine WL.op rfl (d_move rfl ?_)
        refine WL.op rfl (d_sub rfl rfl (by omega) (by omega) ?_)
        refine WL.op rfl (d_assign rfl ?_)
        refine WL.done ?_
        exact X.next [8, 7, 6, 5, 4, 3, 2] (Γ' := [(8, .int .i64 (y - 1)), (7, .int .i64 aa), (6, .int .i64 ((i : Nat) : Int)), (5, .slice qa q.length qc), (4, .slice a2_1 n2_1 c2_1), (3, .int .i64 0), (2, .slice none 0 0)]) rfl (((y - 1) + 1).toNat) (by omega) ⟨y - 1, aa, rfl, H5, (by omega), (by first | exact hat.hit (by omega) (fun h9 => by have h8 := (q1.val i y.toNat (by omega) (by omega)).2 h9; simp [cellB] at h8 c57; simp_all) | exact hat.miss (by omega) ((q1.val i y.toNat (by omega) (by omega)).1 (by simpa [cellB] using c57))), rfl⟩
    · skip
      refine W.exit (X.then_exit (X.then_exit (X.block_exit (X.then_code ?_))))
      refine W.region ?_
      refine WL.op rfl (d_move rfl ?_)
      refine WL.op rfl (d_move rfl ?_)
      refine WL.op rfl (t_buildSlice (T := (tyI .i64)) (xs := [aa]) (cs := #[.int .i64 aa]) rfl Try.underlying22 sz3 rfl rfl rfl rfl (by kernel_rfl) rfl rfl fun w5 u3 => ?_)
      have H6 : UpG w [] w5 [[blk w.heap.size #[.slice dca d.cls.length dcc, .int .i64 d.width, .int .i64 d.start, .slice dna d.next.length dnc, .slice dba d.acc.length dbc] 25], [rowT tyLR (.slice a2_1 n2_1 c2_1) 23 Xs_1], [manyF (inLR tyB 4).row Xs_1], [rowT (tyI .i64) (.slice qa q.length qc) 3 q], [rowT (tyI .i64) (.slice (some ⟨w4.heap.size, 0, none⟩) ([aa].length) ([aa].length)) 3 [aa]]] := H5.new' u3
      refine WL.op rfl (t_append (T := (tyI .i64)) (xs := q) (ys := [aa]) rfl Try.underlying22 sz3 rfl rfl rfl (H6.ownT 3 rfl) (H6.rdT 4 rfl) (by simp only [List.length_singleton]; omega) (by simp only [List.length_singleton]; omega) fun a1 c1 w6 u4 => ?_)
      have H7 : UpG w [] w6 [[blk w.heap.size #[.slice dca d.cls.length dcc, .int .i64 d.width, .int .i64 d.start, .slice dna d.next.length dnc, .slice dba d.acc.length dbc] 25], [rowT tyLR (.slice a2_1 n2_1 c2_1) 23 Xs_1], [manyF (inLR tyB 4).row Xs_1], [rowT (tyI .i64) (.slice a1 ((q ++ [aa]).length) c1) 3 (q ++ [aa])], []] := (H6.on 3 rfl u4).drop 4
      refine WL.op rfl (d_assign rfl ?_)
      refine WL.done (X.block_normal (X.then_code ?_))
      refine W.region ?_
      refine WL.op rfl (d_move rfl ?_)
      refine WL.op rfl (d_add rfl rfl (by omega) (by omega) ?_)
      refine WL.op rfl (d_assign rfl ?_)
      refine WL.done ?_
      exact X.next [6, 5, 4, 3, 2] (Γ' := [(6, .int .i64 (((i + 1) : Nat) : Int)), (5, .slice a1 ((q ++ [aa]).length) c1), (4, .slice a2_1 n2_1 c2_1), (3, .int .i64 0), (2, .slice none 0 0)]) rfl (Xs_1.length - (i + 1)) (by omega) ⟨i + 1, q ++ [aa], a1, c1, rfl, (H7.re rfl), (by omega), (by exact hq.step hat (by omega) (by omega)), rfl⟩
  · skip
    refine W.exit (X.then_exit (X.then_exit (X.block_exit (X.then_code ?_))))
    refine W.seq ?_
    refine W.region ?_
    refine WL.op rfl (d_move rfl ?_)
    refine WL.op rfl (d_call ok86 rfl (Ret.calls (number_any qa q qc w3 (H4.rdT 3 rfl) hq.first (by omega)) fun _ w7 p2 => ?_))
    obtain ⟨a2_2, c2_2, rfl, u5⟩ := p2
    have H8 : UpG w [] w7 [[blk w.heap.size #[.slice dca d.cls.length dcc, .int .i64 d.width, .int .i64 d.start, .slice dna d.next.length dnc, .slice dba d.acc.length dbc] 25], [rowT tyLR (.slice a2_1 n2_1 c2_1) 23 Xs_1], [manyF (inLR tyB 4).row Xs_1], [rowT (tyI .i64) (.slice qa q.length qc) 3 q], [rowT (tyI .i64) (.slice a2_2 ((numL q).length) c2_2) 3 (numL q)]] := (H4.new' u5).re rfl
    refine WL.op rfl (d_extract rfl rfl ?_)
    refine WL.op rfl (d_extract rfl rfl ?_)
    refine WL.op rfl (d_assign rfl ?_)
    refine WL.op rfl (d_assign rfl ?_)
    refine WL.done (X.then_code ?_)
    refine W.ret (X.ret2 rfl rfl rfl ?_)
    exact ⟨a2_2, numL q, c2_2, (((dd q).length : Nat) : Int), rfl, H8.one 4 rfl, ⟨q, by have e : i = d.acc.length := (by omega); subst e; exact hq, rfl, rfl⟩⟩
end Go.Proofs.Ytoeockpkkmgieaa


/- The walks of functions, printed by wip/tools/gw.py. -/
namespace Go.Proofs.Ytoeockpkkmgieaa
open Go Go.Sx
set_option linter.unusedVariables false
set_option linter.unusedSimpArgs false
set_option maxRecDepth 20000 in
theorem firsts10_any (la : Option Addr) (l : List Int) (lc : Nat) (width : Int) (w : World) (rl : RdT (tyI .i64) w (.slice la l.length lc) l) :
    Calls Try.prog 87 #[.slice la l.length lc, .int .i64 width] w (Ret fun v w' => ∃ a2 : Option Addr, ∃ c2 : Nat, v = .slice a2 ((firstsI l width).length) c2 ∧ Upd w [] w' [rowT (tyI .i64) (.slice a2 ((firstsI l width).length) c2) 3 (firstsI l width)]) := by
  have le_rl := rl.le
  refine calls_of_W (args := [.slice la l.length lc, .int .i64 width]) Try.func87 rfl rfl rfl ?_
  have H0 : UpG w [] w [] := UpG.nil w
  show W _ _ _ _ [(0, .slice la l.length lc), (1, .int .i64 width)] w
  refine W.seq ?_
  refine W.region ?_
  refine WL.op rfl (d_assign rfl ?_)
  refine WL.done (X.then_code ?_)
  refine W.seq ?_
  refine W.region ?_
  refine WL.op rfl (d_assign rfl ?_)
  refine WL.done (X.then_code ?_)
  refine W.seq ?_
  refine W.seq ?_
  refine W.region ?_
  refine WL.op rfl (d_assign rfl ?_)
  refine WL.done (X.then_code ?_)
  refine W.block ?_
  have H1 : UpG w [] w [[rowT (tyI .i64) (.slice none (([] : List Int).length) 0) 3 ([] : List Int)]] := H0.new' (Upd.nilRowT w (tyI .i64) 3)
  refine W.pick [6, 5, 4, 0, 1] (Γ' := [(6, .int .i64 0), (5, .slice none (([] : List Int).length) 0), (4, .slice none 0 0), (0, .slice la l.length lc), (1, .int .i64 width)]) rfl ?_
  refine W.loop (fun m Γ' w' => ∃ k : Nat, ∃ q : List Int, ∃ qa : Option Addr, ∃ qc : Nat, Γ' = [(6, .int .i64 ((k : Nat) : Int)), (5, .slice qa q.length qc), (4, .slice none 0 0), (0, .slice la l.length lc), (1, .int .i64 width)] ∧ UpG w [] w' [[rowT (tyI .i64) (.slice qa q.length qc) 3 q]] ∧ (k ≤ 259 ∧ ((k : Int) ≤ width ∨ k = 0)) ∧ (q = firstsK l k) ∧ m = 259 - k) (259 - 0) ⟨0, ([] : List Int), none, 0, rfl, H1, (by exact ⟨by omega, .inr rfl⟩), (by rfl), rfl⟩ ?_
  rintro m1 Γ1 w1 ⟨k, q, qa, qc, rfl, H2, hk, hq, rfl⟩
  have hql : q.length = k := by rw [hq, firstsK_len]
  refine W.seq ?_
  refine W.seq ?_
  refine W.region ?_
  refine WL.op rfl (d_move rfl ?_)
  refine WL.op rfl (d_move rfl ?_)
  refine WL.op rfl (d_cmp (decide (((k : Nat) : Int) < width)) rfl rfl rfl ?_)
  refine WL.op rfl (d_move rfl ?_)
  refine WL.part 12 (p := ((k : Nat) : Int) < width) rfl (fun g63 => ?_) (fun g63 => ?_)
  · skip
    refine WL.opG rfl rfl rfl (d_move rfl ?_)
    refine WL.opG rfl rfl rfl (d_cmp (decide (((k : Nat) : Int) < (259 : Int))) rfl rfl rfl ?_)
    refine WL.op rfl (d_pick rfl rfl ?_)
    refine WL.done (X.then_code ?_)
    refine W.ite (p := ((k : Nat) : Int) < (259 : Int)) rfl (fun c63 => ?_) (fun c63 => ?_)
    · skip
      refine W.skip (X.then_code ?_)
      refine W.seq ?_
      refine W.block ?_
      refine W.seq ?_
      refine W.region ?_
      refine WL.op rfl (d_assign rfl ?_)
      refine WL.done (X.then_code ?_)
      refine W.seq ?_
      refine W.seq ?_
      refine W.region ?_
      refine WL.op rfl (d_move rfl ?_)
      refine WL.op rfl (d_lenS Try.underlying22 rfl ?_)
      refine WL.op rfl (d_sub rfl rfl (by omega) (by omega) ?_)
      refine WL.op rfl (d_assign rfl ?_)
      refine WL.done (X.then_code ?_)
      refine W.block ?_
      refine W.pick [8, 7, 14, 13, 6, 5, 4, 0, 1] (Γ' := [(8, .int .i64 (((l.length : Nat) : Int) - 1)), (7, .int .i64 (-1)), (14, .bool (decide (((k : Nat) : Int) < (259 : Int)))), (13, .int .i64 ((k : Nat) : Int)), (6, .int .i64 ((k : Nat) : Int)), (5, .slice qa q.length qc), (4, .slice none 0 0), (0, .slice la l.length lc), (1, .int .i64 width)]) rfl ?_
      refine W.loop (fun m Γ' w' => ∃ y : Int, ∃ aa : Int, Γ' = [(8, .int .i64 y), (7, .int .i64 aa), (14, .bool (decide (((k : Nat) : Int) < (259 : Int)))), (13, .int .i64 ((k : Nat) : Int)), (6, .int .i64 ((k : Nat) : Int)), (5, .slice qa q.length qc), (4, .slice none 0 0), (0, .slice la l.length lc), (1, .int .i64 width)] ∧ UpG w [] w' [[rowT (tyI .i64) (.slice qa q.length qc) 3 q]] ∧ (-1 ≤ y ∧ y < (l.length : Int)) ∧ (FyP l ((k : Nat) : Int) aa y) ∧ m = (y + 1).toNat) (((((l.length : Nat) : Int) - 1) + 1).toNat) ⟨((l.length : Nat) : Int) - 1, -1, rfl, H2, (by omega), (by exact FyP.start l _), rfl⟩ ?_
      rintro m2 Γ2 w2 ⟨y, aa, rfl, H3, hy, hat, rfl⟩
      refine W.seq ?_
      refine W.seq ?_
      refine W.region ?_
      refine WL.op rfl (d_move rfl ?_)
      refine WL.op rfl (d_cmp (decide (y ≥ (0 : Int))) rfl rfl rfl ?_)
      refine WL.done (X.then_code ?_)
      refine W.ite (p := y ≥ (0 : Int)) rfl (fun c65 => ?_) (fun c65 => ?_)
      · skip
        refine W.skip (X.then_code ?_)
        refine W.seq ?_
        refine W.block ?_
        refine W.seq ?_
        refine W.region ?_
        refine WL.op rfl (d_move rfl ?_)
        refine WL.op rfl (d_move rfl ?_)
        refine WL.op rfl (t_addr1 y.toNat (T := (tyI .i64)) rfl Try.underlying22 sz3 rfl rfl (rl.at H3) (by omega) (by omega) ?_)
        refine WL.op rfl (t_load1 y.toNat 0 (T := (tyI .i64)) rfl Try.underlying3 rfl rfl (rl.at H3) (by omega) rfl ?_)
        refine WL.op rfl (d_move rfl ?_)
        refine WL.op rfl (d_cmp (decide ((l.getD y.toNat 0) = ((k : Nat) : Int))) rfl rfl rfl ?_)
        refine WL.done (X.then_code ?_)
        refine W.ite (p := (l.getD y.toNat 0) = ((k : Nat) : Int)) rfl (fun c66 => ?_) (fun c66 => ?_)
        · skip
          refine W.region ?_
          refine WL.op rfl (d_move rfl ?_)
          refine WL.op rfl (d_assign rfl ?_)
          refine WL.done (X.block_normal (X.then_code ?_))
          refine W.region ?_
          refine WL.op rfl (d_move rfl ?_)
          refine WL.op rfl (d_sub rfl rfl (by omega) (by omega) ?_)
          refine WL.op rfl (d_assign rfl ?_)
          refine WL.done ?_
          exact X.next [8, 7, 14, 13, 6, 5, 4, 0, 1] (Γ' := [(8, .int .i64 (y - 1)), (7, .int .i64 y), (14, .bool (decide (((k : Nat) : Int) < (259 : Int)))), (13, .int .i64 ((k : Nat) : Int)), (6, .int .i64 ((k : Nat) : Int)), (5, .slice qa q.length qc), (4, .slice none 0 0), (0, .slice la l.length lc), (1, .int .i64 width)]) rfl (((y - 1) + 1).toNat) (by omega) ⟨y - 1, y, rfl, H3, (by omega), (by first | exact hat.hit (by omega) (by omega) c66 | exact hat.miss (by omega) c66), rfl⟩
        · skip
          refine W.skip (X.block_normal (X.then_code ?_))
          refine W.region ?_
          refine WL.op rfl (d_move rfl ?_)
          refine WL.op rfl (d_sub rfl rfl (by omega) (by omega) ?_)
          refine WL.op rfl (d_assign rfl ?_)
          refine WL.done ?_
          exact X.next [8, 7, 14, 13, 6, 5, 4, 0, 1] (Γ' := [(8, .int .i64 (y - 1)), (7, .int .i64 aa), (14, .bool (decide (((k : Nat) : Int) < (259 : Int)))), (13, .int .i64 ((k : Nat) : Int)), (6, .int .i64 ((k : Nat) : Int)), (5, .slice qa q.length qc), (4, .slice none 0 0), (0, .slice la l.length lc), (1, .int .i64 width)]) rfl (((y - 1) + 1).toNat) (by omega) ⟨y - 1, aa, rfl, H3, (by omega), (by first | exact hat.hit (by omega) (by omega) c66 | exact hat.miss (by omega) c66), rfl⟩
      · skip
        refine W.exit (X.then_exit (X.then_exit (X.block_exit (X.then_code ?_))))
        refine W.region ?_
        refine WL.op rfl (d_move rfl ?_)
        refine WL.op rfl (d_move rfl ?_)
        refine WL.op rfl (t_buildSlice (T := (tyI .i64)) (xs := [aa]) (cs := #[.int .i64 aa]) rfl Try.underlying22 sz3 rfl rfl rfl rfl (by kernel_rfl) rfl rfl fun w3 u1 => ?_)
        have H4 : UpG w [] w3 [[rowT (tyI .i64) (.slice qa q.length qc) 3 q], [rowT (tyI .i64) (.slice (some ⟨w2.heap.size, 0, none⟩) ([aa].length) ([aa].length)) 3 [aa]]] := H3.new' u1
        refine WL.op rfl (t_append (T := (tyI .i64)) (xs := q) (ys := [aa]) rfl Try.underlying22 sz3 rfl rfl rfl (H4.ownT 0 rfl) (H4.rdT 1 rfl) (by simp only [List.length_singleton]; omega) (by simp only [List.length_singleton]; omega) fun a1 c1 w4 u2 => ?_)
        have H5 : UpG w [] w4 [[rowT (tyI .i64) (.slice a1 ((q ++ [aa]).length) c1) 3 (q ++ [aa])], []] := (H4.on 0 rfl u2).drop 1
        refine WL.op rfl (d_assign rfl ?_)
        refine WL.done (X.block_normal (X.then_code ?_))
        refine W.region ?_
        refine WL.op rfl (d_move rfl ?_)
        refine WL.op rfl (d_add rfl rfl (by omega) (by omega) ?_)
        refine WL.op rfl (d_assign rfl ?_)
        refine WL.done ?_
        exact X.next [6, 5, 4, 0, 1] (Γ' := [(6, .int .i64 (((k + 1) : Nat) : Int)), (5, .slice a1 ((q ++ [aa]).length) c1), (4, .slice none 0 0), (0, .slice la l.length lc), (1, .int .i64 width)]) rfl (259 - (k + 1)) (by omega) ⟨k + 1, q ++ [aa], a1, c1, rfl, (H5.re rfl), (by exact ⟨by omega, .inl (by omega)⟩), (by rw [hq, hat.fin (by omega) (by omega)]; exact firstsK_step l k), rfl⟩
    · skip
      refine W.exit (X.then_exit (X.then_exit (X.block_exit (X.then_code ?_))))
      refine W.seq ?_
      refine W.region ?_
      refine WL.op rfl (d_move rfl ?_)
      refine WL.op rfl (d_assign rfl ?_)
      refine WL.done (X.then_code ?_)
      refine W.ret (X.ret1 rfl rfl ?_)
      have e1 : firstsI l width = q := by rw [hq, firstsK_all hk.2 hk.1 (by first | omega | (intro h9; exact absurd h9.1 (by assumption)) | (intro h9; exact absurd h9.2 (by assumption)))]
      rw [e1]
      exact ⟨qa, qc, (by rfl), (by have hh := H2.one 0 rfl; exact hh)⟩
  · skip
    refine WL.opN rfl rfl rfl rfl ?_
    refine WL.opN rfl rfl rfl rfl ?_
    refine WL.op rfl (d_pick rfl rfl ?_)
    refine WL.done (X.then_code ?_)
    refine W.iff rfl ?_
    refine W.exit (X.then_exit (X.then_exit (X.block_exit (X.then_code ?_))))
    refine W.seq ?_
    refine W.region ?_
    refine WL.op rfl (d_move rfl ?_)
    refine WL.op rfl (d_assign rfl ?_)
    refine WL.done (X.then_code ?_)
    refine W.ret (X.ret1 rfl rfl ?_)
    have e1 : firstsI l width = q := by rw [hq, firstsK_all hk.2 hk.1 (by first | omega | (intro h9; exact absurd h9.1 (by assumption)) | (intro h9; exact absurd h9.2 (by assumption)))]
    rw [e1]
    exact ⟨qa, qc, (by rfl), (by have hh := H2.one 0 rfl; exact hh)⟩
end Go.Proofs.Ytoeockpkkmgieaa


/- The walks of functions, printed by wip/tools/gw.py. -/
namespace Go.Proofs.Ytoeockpkkmgieaa
open Go Go.Sx
set_option linter.unusedVariables false
set_option linter.unusedSimpArgs false
set_option maxRecDepth 20000 in
theorem comes_any (d : DfaD) (dca : Option Addr) (dna : Option Addr) (dba : Option Addr) (dcc : Nat) (dnc : Nat) (dbc : Nat) (w : World) (rcd : RdT (tyI .i64) w (.slice dca d.cls.length dcc) d.cls) (rnd : RdT (tyI .i64) w (.slice dna d.next.length dnc) d.next) (rbd : RdT tyB w (.slice dba d.acc.length dbc) d.acc) (hrt : rightB d = true) :
    Calls Try.prog 21 #[.agg #[.slice dca d.cls.length dcc, .int .i64 d.width, .int .i64 d.start, .slice dna d.next.length dnc, .slice dba d.acc.length dbc]] w (Ret fun v w' => ∃ a2 : Option Addr, ∃ Xs : List (LR Bool), ∃ n2 : Nat, ∃ c2 : Nat, v = .slice a2 n2 c2 ∧ Upd w [] w' [rowT tyLR (.slice a2 n2 c2) 23 Xs, manyF (inLR tyB 4).row Xs] ∧ (ComesP d Xs) ∧ (n2 = d.acc.length)) := by
  have hri := rightB_iff.1 hrt
  have le_rcd := rcd.le
  have le_rnd := rnd.le
  have le_rbd := rbd.le
  refine calls_of_W (args := [.agg #[.slice dca d.cls.length dcc, .int .i64 d.width, .int .i64 d.start, .slice dna d.next.length dnc, .slice dba d.acc.length dbc]]) Try.func21 rfl rfl rfl ?_
  have H0 : UpG w [] w [] := UpG.nil w
  show W _ _ _ _ [(0, .agg #[.slice dca d.cls.length dcc, .int .i64 d.width, .int .i64 d.start, .slice dna d.next.length dnc, .slice dba d.acc.length dbc])] w
  refine W.seq ?_
  refine W.region ?_
  refine WL.op rfl (d_box rfl fun w1 u1 => ?_)
  have H1 : UpG w [] w1 [[blk w.heap.size #[.slice dca d.cls.length dcc, .int .i64 d.width, .int .i64 d.start, .slice dna d.next.length dnc, .slice dba d.acc.length dbc] 25]] := H0.new' u1
  refine WL.op rfl (d_assign rfl ?_)
  refine WL.done (X.then_code ?_)
  refine W.seq ?_
  refine W.region ?_
  refine WL.op rfl (d_fieldAddrB fld25_4 rfl rfl ?_)
  refine WL.op rfl (d_loadB Try.underlying23 rfl rfl (H1.blk 0 rfl) rfl ?_)
  refine WL.op rfl (d_lenS Try.underlying23 rfl ?_)
  refine WL.op rfl (d_assign rfl ?_)
  refine WL.done (X.then_code ?_)
  refine W.seq ?_
  refine W.region ?_
  refine WL.op rfl (d_assign rfl ?_)
  refine WL.done (X.then_code ?_)
  refine W.seq ?_
  refine W.seq ?_
  refine W.region ?_
  refine WL.op rfl (d_assign rfl ?_)
  refine WL.done (X.then_code ?_)
  refine W.block ?_
  have H2 : UpG w [] w1 [[blk w.heap.size #[.slice dca d.cls.length dcc, .int .i64 d.width, .int .i64 d.start, .slice dna d.next.length dnc, .slice dba d.acc.length dbc] 25], [manyF (inLR tyB 4).row ([] : List (LR Bool))]] := H1.new' (Upd.manyNil (inLR tyB 4).row w1)
  have H3 : UpG w [] w1 [[blk w.heap.size #[.slice dca d.cls.length dcc, .int .i64 d.width, .int .i64 d.start, .slice dna d.next.length dnc, .slice dba d.acc.length dbc] 25], [manyF (inLR tyB 4).row ([] : List (LR Bool))], [rowT tyLR (.slice none (([] : List (LR Bool)).length) 0) 23 ([] : List (LR Bool))]] := H2.new' (Upd.nilRowT w1 tyLR 23)
  refine W.pick [5, 4, 3, 2, 1] (Γ' := [(5, .int .i64 0), (4, .slice none (([] : List (LR Bool)).length) 0), (3, .int .i64 ((d.acc.length : Nat) : Int)), (2, .slice none 0 0), (1, .pointer (some ⟨w.heap.size, 0, none⟩))]) rfl ?_
  refine W.loop (fun m Γ' w' => ∃ s : Nat, ∃ Xs : List (LR Bool), ∃ oa : Option Addr, ∃ oc : Nat, Γ' = [(5, .int .i64 ((s : Nat) : Int)), (4, .slice oa Xs.length oc), (3, .int .i64 ((d.acc.length : Nat) : Int)), (2, .slice none 0 0), (1, .pointer (some ⟨w.heap.size, 0, none⟩))] ∧ UpG w [] w' [[blk w.heap.size #[.slice dca d.cls.length dcc, .int .i64 d.width, .int .i64 d.start, .slice dna d.next.length dnc, .slice dba d.acc.length dbc] 25], [manyF (inLR tyB 4).row Xs], [rowT tyLR (.slice oa Xs.length oc) 23 Xs]] ∧ (s ≤ d.acc.length) ∧ (CmS d Xs s) ∧ m = d.acc.length - s) (d.acc.length - 0) ⟨0, ([] : List (LR Bool)), none, 0, rfl, H3, (by first | assumption | omega | simp), (by exact CmS.start d), rfl⟩ ?_
  rintro m1 Γ1 w2 ⟨s, Xs, oa, oc, rfl, H4, hs, hX, rfl⟩
  have hXl := hX.len
  refine W.seq ?_
  refine W.seq ?_
  refine W.region ?_
  refine WL.op rfl (d_move rfl ?_)
  refine WL.op rfl (d_move rfl ?_)
  refine WL.op rfl (d_cmp (decide (((s : Nat) : Int) < ((d.acc.length : Nat) : Int))) rfl rfl rfl ?_)
  refine WL.done (X.then_code ?_)
  refine W.ite (p := ((s : Nat) : Int) < ((d.acc.length : Nat) : Int)) rfl (fun c43 => ?_) (fun c43 => ?_)
  · skip
    refine W.skip (X.then_code ?_)
    refine W.seq ?_
    refine W.block ?_
    refine W.seq ?_
    refine W.region ?_
    refine WL.op rfl (d_move rfl ?_)
    refine WL.op rfl (t_make d.acc.length false (T := tyB) rfl Try.underlying23 sz4 rfl rfl rfl rfl (by omega) (by omega) fun w3 u2 => ?_)
    have H5 : UpG w [] w3 [[blk w.heap.size #[.slice dca d.cls.length dcc, .int .i64 d.width, .int .i64 d.start, .slice dna d.next.length dnc, .slice dba d.acc.length dbc] 25], [manyF (inLR tyB 4).row Xs], [rowT tyLR (.slice oa Xs.length oc) 23 Xs], [rowT tyB (.slice (some ⟨w2.heap.size, 0, none⟩) ((List.replicate d.acc.length false).length) d.acc.length) 4 (List.replicate d.acc.length false)]] := H4.new' u2
    refine WL.op rfl (d_assign rfl ?_)
    refine WL.done (X.then_code ?_)
    refine W.seq ?_
    refine W.region ?_
    refine WL.op rfl (d_move rfl ?_)
    refine WL.op rfl (d_move rfl ?_)
    refine WL.op rfl (t_addr1 s (T := tyB) rfl Try.underlying23 sz4 rfl rfl (H5.rdT 3 rfl) rfl (by first | omega | (simp; omega)) ?_)
    refine WL.op0 (t_store1 s true (T := tyB) (e := 4) rfl sz4 rfl rfl rfl (H5.ownT 3 rfl) (by first | omega | (simp; omega)) fun w4 u3 => ?_)
    have H6 : UpG w [] w4 [[blk w.heap.size #[.slice dca d.cls.length dcc, .int .i64 d.width, .int .i64 d.start, .slice dna d.next.length dnc, .slice dba d.acc.length dbc] 25], [manyF (inLR tyB 4).row Xs], [rowT tyLR (.slice oa Xs.length oc) 23 Xs], [rowT tyB (.slice (some ⟨w2.heap.size, 0, none⟩) ((List.replicate d.acc.length false).length) d.acc.length) 4 ((List.replicate d.acc.length false).set s true)]] := H5.on 3 rfl u3
    refine WL.done (X.then_code ?_)
    refine W.seq ?_
    refine W.seq ?_
    refine W.region ?_
    refine WL.op rfl (d_assign rfl ?_)
    refine WL.done (X.then_code ?_)
    refine W.block ?_
    refine W.pick [7, 6, 5, 4, 3, 2, 1] (Γ' := [(7, .int .i64 0), (6, .slice (some ⟨w2.heap.size, 0, none⟩) ((List.replicate d.acc.length false).length) d.acc.length), (5, .int .i64 ((s : Nat) : Int)), (4, .slice oa Xs.length oc), (3, .int .i64 ((d.acc.length : Nat) : Int)), (2, .slice none 0 0), (1, .pointer (some ⟨w.heap.size, 0, none⟩))]) rfl ?_
    refine W.loop (fun m Γ' w' => ∃ k : Nat, ∃ q : List Bool, Γ' = [(7, .int .i64 ((k : Nat) : Int)), (6, .slice (some ⟨w2.heap.size, 0, none⟩) ((List.replicate d.acc.length false).length) d.acc.length), (5, .int .i64 ((s : Nat) : Int)), (4, .slice oa Xs.length oc), (3, .int .i64 ((d.acc.length : Nat) : Int)), (2, .slice none 0 0), (1, .pointer (some ⟨w.heap.size, 0, none⟩))] ∧ UpG w [] w' [[blk w.heap.size #[.slice dca d.cls.length dcc, .int .i64 d.width, .int .i64 d.start, .slice dna d.next.length dnc, .slice dba d.acc.length dbc] 25], [manyF (inLR tyB 4).row Xs], [rowT tyLR (.slice oa Xs.length oc) 23 Xs], [rowT tyB (.slice (some ⟨w2.heap.size, 0, none⟩) ((List.replicate d.acc.length false).length) d.acc.length) 4 q]] ∧ (k ≤ 259) ∧ (RwI d s q k) ∧ m = 259 - k) (259 - 0) ⟨0, (List.replicate d.acc.length false).set s true, rfl, H6, (by first | assumption | omega | simp), (by exact RwI.start (by omega)), rfl⟩ ?_
    rintro m2 Γ2 w5 ⟨k, q, rfl, H7, hk, hq, rfl⟩
    refine W.seq ?_
    refine W.seq ?_
    refine W.region ?_
    refine WL.op rfl (d_move rfl ?_)
    refine WL.op rfl (d_cmp (decide (((k : Nat) : Int) < (259 : Int))) rfl rfl rfl ?_)
    refine WL.done (X.then_code ?_)
    refine W.ite (p := ((k : Nat) : Int) < (259 : Int)) rfl (fun c46 => ?_) (fun c46 => ?_)
    · skip
      refine W.skip (X.then_code ?_)
      refine W.seq ?_
      refine W.block ?_
      have hcx := within_at hri.2.1 k (by omega)
      have hix := right_idx (q := (s : Int)) hrt (by omega) (by omega) hcx.1 hcx.2
      obtain ⟨x, hx, hxn⟩ : ∃ x : Nat, d.next.getD (((s : Nat) : Int) * d.width + d.cls.getD k 0).toNat 0 = (x : Int) ∧ x < d.acc.length := (by have h9 := within_at hri.2.2 (((s : Nat) : Int) * d.width + d.cls.getD k 0).toNat (by omega); exact ⟨(d.next.getD (((s : Nat) : Int) * d.width + d.cls.getD k 0).toNat 0).toNat, by omega, by omega⟩)
      have hql := hq.len
      refine W.regionD mixed (by kernel_rfl) fun hok1 w6 k1 => ?_
      have H8 : UpG w [] w6 [[blk w.heap.size #[.slice dca d.cls.length dcc, .int .i64 d.width, .int .i64 d.start, .slice dna d.next.length dnc, .slice dba d.acc.length dbc] 25], [manyF (inLR tyB 4).row Xs], [rowT tyLR (.slice oa Xs.length oc) 23 Xs], [rowT tyB (.slice (some ⟨w2.heap.size, 0, none⟩) ((List.replicate d.acc.length false).length) d.acc.length) 4 q]] := H7.kept k1
      refine WD.take hok1 0 (.slice (some ⟨w2.heap.size, 0, none⟩) ((List.replicate d.acc.length false).length) d.acc.length) (fun _ => True) rfl rfl rfl rfl rfl trivial (.inl ⟨rfl, fun _ _ => d_move rfl ⟨rfl, rfl⟩⟩) ?_
      refine WD.take hok1 1 (.pointer (some ⟨w.heap.size, 3, none⟩)) (fun _ => True) rfl rfl rfl rfl rfl trivial (.inl ⟨rfl, fun _ _ => d_fieldAddrB fld25_3 rfl rfl ⟨rfl, rfl⟩⟩) ?_
      refine WD.take hok1 2 (.slice dna d.next.length dnc) (fun w' => w'.heap[w.heap.size]? = some (.cells #[.slice dca d.cls.length dcc, .int .i64 d.width, .int .i64 d.start, .slice dna d.next.length dnc, .slice dba d.acc.length dbc] 25 (0, 0))) rfl rfl rfl rfl rfl (H8.blk 0 rfl) (.inl ⟨rfl, fun _ hC => d_loadB Try.underlying22 rfl rfl hC rfl ⟨rfl, rfl⟩⟩) ?_
      refine WD.take hok1 3 (.int .i64 ((s : Nat) : Int)) (fun _ => True) rfl rfl rfl rfl rfl trivial (.inl ⟨rfl, fun _ _ => d_move rfl ⟨rfl, rfl⟩⟩) ?_
      refine WD.take hok1 4 (.pointer (some ⟨w.heap.size, 1, none⟩)) (fun _ => True) rfl rfl rfl rfl rfl trivial (.inl ⟨rfl, fun _ _ => d_fieldAddrB fld25_1 rfl rfl ⟨rfl, rfl⟩⟩) ?_
      refine WD.take hok1 5 (.int .i64 d.width) (fun w' => w'.heap[w.heap.size]? = some (.cells #[.slice dca d.cls.length dcc, .int .i64 d.width, .int .i64 d.start, .slice dna d.next.length dnc, .slice dba d.acc.length dbc] 25 (0, 0))) rfl rfl rfl rfl rfl (H8.blk 0 rfl) (.inl ⟨rfl, fun _ hC => d_loadB Try.underlying3 rfl rfl hC rfl ⟨rfl, rfl⟩⟩) ?_
      refine WD.take hok1 6 (.int .i64 (((s : Nat) : Int) * d.width)) (fun _ => True) rfl rfl rfl rfl rfl trivial (.inl ⟨rfl, fun _ _ => d_mul rfl rfl (by omega) (by omega) ⟨rfl, rfl⟩⟩) ?_
      refine WD.take hok1 7 (.pointer (some ⟨w.heap.size, 0, none⟩)) (fun _ => True) rfl rfl rfl rfl rfl trivial (.inl ⟨rfl, fun _ _ => d_fieldAddrB fld25_0 rfl rfl ⟨rfl, rfl⟩⟩) ?_
      refine WD.take hok1 8 (.slice dca d.cls.length dcc) (fun w' => w'.heap[w.heap.size]? = some (.cells #[.slice dca d.cls.length dcc, .int .i64 d.width, .int .i64 d.start, .slice dna d.next.length dnc, .slice dba d.acc.length dbc] 25 (0, 0))) rfl rfl rfl rfl rfl (H8.blk 0 rfl) (.inl ⟨rfl, fun _ hC => d_loadB Try.underlying22 rfl rfl hC rfl ⟨rfl, rfl⟩⟩) ?_
      refine WD.take hok1 9 (.int .i64 ((k : Nat) : Int)) (fun _ => True) rfl rfl rfl rfl rfl trivial (.inl ⟨rfl, fun _ _ => d_move rfl ⟨rfl, rfl⟩⟩) ?_
      refine WD.take hok1 10 (elemPtr (.slice dca d.cls.length dcc) k) (fun w' => RdT (tyI .i64) w' (.slice dca d.cls.length dcc) d.cls) rfl rfl rfl rfl rfl (rcd.at H8) (.inl ⟨rfl, fun _ hC => t_addr1 k (T := (tyI .i64)) rfl Try.underlying22 sz3 rfl rfl hC (by omega) (by omega) ⟨rfl, rfl⟩⟩) ?_
      refine WD.take hok1 11 (.int .i64 (d.cls.getD k 0)) (fun w' => RdT (tyI .i64) w' (.slice dca d.cls.length dcc) d.cls) rfl rfl rfl rfl rfl (rcd.at H8) (.inl ⟨rfl, fun _ hC => t_load1 k 0 (T := (tyI .i64)) rfl Try.underlying3 rfl rfl hC (by omega) rfl ⟨rfl, rfl⟩⟩) ?_
      refine WD.take hok1 12 (.int .i64 ((((s : Nat) : Int) * d.width) + (d.cls.getD k 0))) (fun _ => True) rfl rfl rfl rfl rfl trivial (.inl ⟨rfl, fun _ _ => d_add rfl rfl (by omega) (by omega) ⟨rfl, rfl⟩⟩) ?_
      refine WD.take hok1 13 (elemPtr (.slice dna d.next.length dnc) (((((s : Nat) : Int) * d.width) + (d.cls.getD k 0)).toNat)) (fun w' => RdT (tyI .i64) w' (.slice dna d.next.length dnc) d.next) rfl rfl rfl rfl rfl (rnd.at H8) (.inl ⟨rfl, fun _ hC => t_addr1 (((((s : Nat) : Int) * d.width) + (d.cls.getD k 0)).toNat) (T := (tyI .i64)) rfl Try.underlying22 sz3 rfl rfl hC (by omega) (by omega) ⟨rfl, rfl⟩⟩) ?_
      refine WD.take hok1 14 (.int .i64 (d.next.getD (((((s : Nat) : Int) * d.width) + (d.cls.getD k 0)).toNat) 0)) (fun w' => RdT (tyI .i64) w' (.slice dna d.next.length dnc) d.next) rfl rfl rfl rfl rfl (rnd.at H8) (.inl ⟨rfl, fun _ hC => t_load1 (((((s : Nat) : Int) * d.width) + (d.cls.getD k 0)).toNat) 0 (T := (tyI .i64)) rfl Try.underlying3 rfl rfl hC (by omega) rfl ⟨rfl, rfl⟩⟩) ?_
      refine WD.take hok1 15 (elemPtr (.slice (some ⟨w2.heap.size, 0, none⟩) ((List.replicate d.acc.length false).length) d.acc.length) x) (fun w' => RdT tyB w' (.slice (some ⟨w2.heap.size, 0, none⟩) ((List.replicate d.acc.length false).length) d.acc.length) q) rfl rfl rfl rfl rfl (H8.rdT 3 rfl) (.inl ⟨rfl, fun _ hC => t_addr1 x (T := tyB) rfl Try.underlying23 sz4 rfl rfl hC (by omega) (by omega) ⟨rfl, rfl⟩⟩) ?_
      refine WD.loud hok1 16 rfl (⟨_, [], rfl, rfl, rfl, rfl, rfl, rfl, t_store1 x true (T := tyB) (e := 4) rfl sz4 rfl rfl rfl (H8.ownT 3 rfl) (by omega) fun w7 u4 => ?_⟩)
      have H9 : UpG w [] w7 [[blk w.heap.size #[.slice dca d.cls.length dcc, .int .i64 d.width, .int .i64 d.start, .slice dna d.next.length dnc, .slice dba d.acc.length dbc] 25], [manyF (inLR tyB 4).row Xs], [rowT tyLR (.slice oa Xs.length oc) 23 Xs], [rowT tyB (.slice (some ⟨w2.heap.size, 0, none⟩) ((List.replicate d.acc.length false).length) d.acc.length) 4 (q.set x true)]] := H8.on 3 rfl u4
      refine ⟨trivial, ?_⟩
      refine WD.done hok1 rfl (X.block_normal (X.then_code ?_))
      refine W.region ?_
      refine WL.op rfl (d_move rfl ?_)
      refine WL.op rfl (d_add rfl rfl (by omega) (by omega) ?_)
      refine WL.op rfl (d_assign rfl ?_)
      refine WL.done ?_
      exact X.next [7, 6, 5, 4, 3, 2, 1] (Γ' := [(7, .int .i64 (((k + 1) : Nat) : Int)), (6, .slice (some ⟨w2.heap.size, 0, none⟩) ((List.replicate d.acc.length false).length) d.acc.length), (5, .int .i64 ((s : Nat) : Int)), (4, .slice oa Xs.length oc), (3, .int .i64 ((d.acc.length : Nat) : Int)), (2, .slice none 0 0), (1, .pointer (some ⟨w.heap.size, 0, none⟩))]) rfl (259 - (k + 1)) (by omega) ⟨k + 1, q.set x true, rfl, H9, (by first | assumption | omega | simp), (by exact hq.step hx hxn), rfl⟩
    · skip
      refine W.exit (X.then_exit (X.then_exit (X.block_exit (X.then_code ?_))))
      refine W.region ?_
      refine WL.op rfl (d_move rfl ?_)
      refine WL.op rfl (d_move rfl ?_)
      refine WL.op rfl (t_buildSlice (T := tyLR) (xs := ([⟨(some ⟨w2.heap.size, 0, none⟩), (List.replicate d.acc.length false).length, d.acc.length, q⟩] : List (LR Bool))) (cs := #[.slice (some ⟨w2.heap.size, 0, none⟩) ((List.replicate d.acc.length false).length) d.acc.length]) rfl Try.underlying29 sz23 rfl rfl rfl rfl (by kernel_rfl) rfl rfl fun w8 u5 => ?_)
      have H10 : UpG w [] w8 [[blk w.heap.size #[.slice dca d.cls.length dcc, .int .i64 d.width, .int .i64 d.start, .slice dna d.next.length dnc, .slice dba d.acc.length dbc] 25], [manyF (inLR tyB 4).row Xs], [rowT tyLR (.slice oa Xs.length oc) 23 Xs], [rowT tyB (.slice (some ⟨w2.heap.size, 0, none⟩) ((List.replicate d.acc.length false).length) d.acc.length) 4 q], [rowT tyLR (.slice (some ⟨w5.heap.size, 0, none⟩) (([⟨(some ⟨w2.heap.size, 0, none⟩), (List.replicate d.acc.length false).length, d.acc.length, q⟩] : List (LR Bool)).length) (([⟨(some ⟨w2.heap.size, 0, none⟩), (List.replicate d.acc.length false).length, d.acc.length, q⟩] : List (LR Bool)).length)) 23 ([⟨(some ⟨w2.heap.size, 0, none⟩), (List.replicate d.acc.length false).length, d.acc.length, q⟩] : List (LR Bool))]] := H7.new' u5
      refine WL.op rfl (t_append (T := tyLR) (xs := Xs) (ys := ([⟨(some ⟨w2.heap.size, 0, none⟩), (List.replicate d.acc.length false).length, d.acc.length, q⟩] : List (LR Bool))) rfl Try.underlying29 sz23 rfl rfl rfl (H10.ownT 2 rfl) (H10.rdT 4 rfl) (by simp only [List.length_singleton]; omega) (by simp only [List.length_singleton]; omega) fun a1 c1 w9 u6 => ?_)
      have H11 : UpG w [] w9 [[blk w.heap.size #[.slice dca d.cls.length dcc, .int .i64 d.width, .int .i64 d.start, .slice dna d.next.length dnc, .slice dba d.acc.length dbc] 25], [manyF (inLR tyB 4).row Xs], [rowT tyLR (.slice a1 ((Xs ++ ([⟨(some ⟨w2.heap.size, 0, none⟩), (List.replicate d.acc.length false).length, d.acc.length, q⟩] : List (LR Bool))).length) c1) 23 (Xs ++ ([⟨(some ⟨w2.heap.size, 0, none⟩), (List.replicate d.acc.length false).length, d.acc.length, q⟩] : List (LR Bool)))], [rowT tyB (.slice (some ⟨w2.heap.size, 0, none⟩) ((List.replicate d.acc.length false).length) d.acc.length) 4 q], []] := (H10.on 2 rfl u6).drop 4
      have H12 : UpG w [] w9 [[blk w.heap.size #[.slice dca d.cls.length dcc, .int .i64 d.width, .int .i64 d.start, .slice dna d.next.length dnc, .slice dba d.acc.length dbc] 25], [manyF (inLR tyB 4).row (Xs ++ [⟨(some ⟨w2.heap.size, 0, none⟩), (List.replicate d.acc.length false).length, d.acc.length, q⟩])], [rowT tyLR (.slice a1 ((Xs ++ ([⟨(some ⟨w2.heap.size, 0, none⟩), (List.replicate d.acc.length false).length, d.acc.length, q⟩] : List (LR Bool))).length) c1) 23 (Xs ++ ([⟨(some ⟨w2.heap.size, 0, none⟩), (List.replicate d.acc.length false).length, d.acc.length, q⟩] : List (LR Bool)))], [], []] := (UpG.absorb (f := (inLR tyB 4).row) (⟨(some ⟨w2.heap.size, 0, none⟩), (List.replicate d.acc.length false).length, d.acc.length, q⟩ : (LR Bool)) H11 1 3 rfl rfl rfl).re rfl
      refine WL.op rfl (d_assign rfl ?_)
      refine WL.done (X.block_normal (X.then_code ?_))
      refine W.region ?_
      refine WL.op rfl (d_move rfl ?_)
      refine WL.op rfl (d_add rfl rfl (by omega) (by omega) ?_)
      refine WL.op rfl (d_assign rfl ?_)
      refine WL.done ?_
      exact X.next [5, 4, 3, 2, 1] (Γ' := [(5, .int .i64 (((s + 1) : Nat) : Int)), (4, .slice a1 ((Xs ++ ([⟨(some ⟨w2.heap.size, 0, none⟩), (List.replicate d.acc.length false).length, d.acc.length, q⟩] : List (LR Bool))).length) c1), (3, .int .i64 ((d.acc.length : Nat) : Int)), (2, .slice none 0 0), (1, .pointer (some ⟨w.heap.size, 0, none⟩))]) rfl (d.acc.length - (s + 1)) (by omega) ⟨s + 1, Xs ++ ([⟨(some ⟨w2.heap.size, 0, none⟩), (List.replicate d.acc.length false).length, d.acc.length, q⟩] : List (LR Bool)), a1, c1, rfl, (H12.re rfl), (by first | assumption | omega | simp), (by exact hX.step hq (by omega)), rfl⟩
  · skip
    refine W.exit (X.then_exit (X.then_exit (X.block_exit (X.then_code ?_))))
    refine W.seq ?_
    refine W.seq ?_
    refine W.region ?_
    refine WL.op rfl (d_assign rfl ?_)
    refine WL.done (X.then_code ?_)
    refine W.block ?_
    refine W.pick [8, 4, 3, 2] (Γ' := [(8, .int .i64 0), (4, .slice oa Xs.length oc), (3, .int .i64 ((d.acc.length : Nat) : Int)), (2, .slice none 0 0)]) rfl ?_
    refine W.loop (fun m Γ' w' => ∃ mm : Nat, ∃ Y : List (LR Bool), Γ' = [(8, .int .i64 ((mm : Nat) : Int)), (4, .slice oa Xs.length oc), (3, .int .i64 ((d.acc.length : Nat) : Int)), (2, .slice none 0 0)] ∧ UpG w [] w' [[blk w.heap.size #[.slice dca d.cls.length dcc, .int .i64 d.width, .int .i64 d.start, .slice dna d.next.length dnc, .slice dba d.acc.length dbc] 25], [manyF (inLR tyB 4).row Y], [rowT tyLR (.slice oa Xs.length oc) 23 Y]] ∧ (mm ≤ d.acc.length) ∧ (CmI d Y mm 0 0) ∧ m = d.acc.length - mm) (d.acc.length - 0) ⟨0, Xs, rfl, H4, (by first | assumption | omega | simp), (by exact hX.done (by omega)), rfl⟩ ?_
    rintro m3 Γ3 w10 ⟨mm, Y, rfl, H13, hm, hY, rfl⟩
    refine W.seq ?_
    refine W.seq ?_
    refine W.region ?_
    refine WL.op rfl (d_move rfl ?_)
    refine WL.op rfl (d_move rfl ?_)
    refine WL.op rfl (d_cmp (decide (((mm : Nat) : Int) < ((d.acc.length : Nat) : Int))) rfl rfl rfl ?_)
    refine WL.done (X.then_code ?_)
    refine W.ite (p := ((mm : Nat) : Int) < ((d.acc.length : Nat) : Int)) rfl (fun c51 => ?_) (fun c51 => ?_)
    · skip
      refine W.skip (X.then_code ?_)
      refine W.seq ?_
      refine W.block ?_
      refine W.seq ?_
      refine W.region ?_
      refine WL.op rfl (d_assign rfl ?_)
      refine WL.done (X.then_code ?_)
      refine W.block ?_
      refine W.pick [9, 8, 4, 3, 2] (Γ' := [(9, .int .i64 0), (8, .int .i64 ((mm : Nat) : Int)), (4, .slice oa Xs.length oc), (3, .int .i64 ((d.acc.length : Nat) : Int)), (2, .slice none 0 0)]) rfl ?_
      refine W.loop (fun m Γ' w' => ∃ i : Nat, ∃ Z : List (LR Bool), Γ' = [(9, .int .i64 ((i : Nat) : Int)), (8, .int .i64 ((mm : Nat) : Int)), (4, .slice oa Xs.length oc), (3, .int .i64 ((d.acc.length : Nat) : Int)), (2, .slice none 0 0)] ∧ UpG w [] w' [[blk w.heap.size #[.slice dca d.cls.length dcc, .int .i64 d.width, .int .i64 d.start, .slice dna d.next.length dnc, .slice dba d.acc.length dbc] 25], [manyF (inLR tyB 4).row Z], [rowT tyLR (.slice oa Xs.length oc) 23 Z]] ∧ (i ≤ d.acc.length) ∧ (CmI d Z mm i 0) ∧ m = d.acc.length - i) (d.acc.length - 0) ⟨0, Y, rfl, H13, (by first | assumption | omega | simp), (by exact hY), rfl⟩ ?_
      rintro m4 Γ4 w11 ⟨i, Z, rfl, H14, hi, hZ, rfl⟩
      refine W.seq ?_
      refine W.seq ?_
      refine W.region ?_
      refine WL.op rfl (d_move rfl ?_)
      refine WL.op rfl (d_move rfl ?_)
      refine WL.op rfl (d_cmp (decide (((i : Nat) : Int) < ((d.acc.length : Nat) : Int))) rfl rfl rfl ?_)
      refine WL.done (X.then_code ?_)
      refine W.ite (p := ((i : Nat) : Int) < ((d.acc.length : Nat) : Int)) rfl (fun c52 => ?_) (fun c52 => ?_)
      · skip
        refine W.skip (X.then_code ?_)
        refine W.seq ?_
        refine W.block ?_
        refine W.seq ?_
        refine W.region ?_
        refine WL.op rfl (d_assign rfl ?_)
        refine WL.done (X.then_code ?_)
        refine W.block ?_
        refine W.pick [10, 9, 8, 4, 3, 2] (Γ' := [(10, .int .i64 0), (9, .int .i64 ((i : Nat) : Int)), (8, .int .i64 ((mm : Nat) : Int)), (4, .slice oa Xs.length oc), (3, .int .i64 ((d.acc.length : Nat) : Int)), (2, .slice none 0 0)]) rfl ?_
        refine W.loop (fun m Γ' w' => ∃ k : Nat, ∃ U : List (LR Bool), Γ' = [(10, .int .i64 ((k : Nat) : Int)), (9, .int .i64 ((i : Nat) : Int)), (8, .int .i64 ((mm : Nat) : Int)), (4, .slice oa Xs.length oc), (3, .int .i64 ((d.acc.length : Nat) : Int)), (2, .slice none 0 0)] ∧ UpG w [] w' [[blk w.heap.size #[.slice dca d.cls.length dcc, .int .i64 d.width, .int .i64 d.start, .slice dna d.next.length dnc, .slice dba d.acc.length dbc] 25], [manyF (inLR tyB 4).row U], [rowT tyLR (.slice oa Xs.length oc) 23 U]] ∧ (k ≤ d.acc.length) ∧ (CmI d U mm i k) ∧ m = d.acc.length - k) (d.acc.length - 0) ⟨0, Z, rfl, H14, (by first | assumption | omega | simp), (by exact hZ), rfl⟩ ?_
        rintro m5 Γ5 w12 ⟨k_1, U, rfl, H15, hku, hU, rfl⟩
        have hri1 := hU.row i (by omega)
        have hri2 := hU.row mm (by omega)
        have hUl := hU.len
        refine W.seq ?_
        refine W.seq ?_
        refine W.region ?_
        refine WL.op rfl (d_move rfl ?_)
        refine WL.op rfl (d_move rfl ?_)
        refine WL.op rfl (d_cmp (decide (((k_1 : Nat) : Int) < ((d.acc.length : Nat) : Int))) rfl rfl rfl ?_)
        refine WL.op rfl (d_move rfl ?_)
        refine WL.part 61 (p := ((k_1 : Nat) : Int) < ((d.acc.length : Nat) : Int)) rfl (fun g53 => ?_) (fun g53 => ?_)
        · skip
          refine WL.opG rfl rfl rfl (d_move rfl ?_)
          refine WL.opG rfl rfl rfl (d_move rfl ?_)
          refine WL.opG rfl rfl rfl (t_addr1 i (T := tyLR) rfl Try.underlying29 sz23 rfl rfl (H15.rdT 2 rfl) rfl (by omega) ?_)
          refine WL.opG rfl rfl rfl (t_load1 i lr0 (T := tyLR) rfl Try.underlying23 rfl rfl (H15.rdT 2 rfl) (by omega) rfl ?_)
          refine WL.opG rfl rfl rfl (d_move rfl ?_)
          refine WL.opG rfl rfl rfl (t_addr1 mm (T := tyB) rfl Try.underlying23 sz4 rfl rfl (show RdT tyB w12 (.slice ((U.getD i lr0).a) ((U.getD i lr0).n) ((U.getD i lr0).c)) ((U.getD i lr0).xs) from (Inn.own (H15.hpOf 1 rfl)).get lr0 i (by omega)) rfl (by omega) ?_)
          refine WL.opG rfl rfl rfl (t_load1 mm false (T := tyB) rfl Try.underlying4 rfl rfl (show RdT tyB w12 (.slice ((U.getD i lr0).a) ((U.getD i lr0).n) ((U.getD i lr0).c)) ((U.getD i lr0).xs) from (Inn.own (H15.hpOf 1 rfl)).get lr0 i (by omega)) (by omega) rfl ?_)
          refine WL.op rfl (d_pick rfl rfl ?_)
          refine WL.done (X.then_code ?_)
          refine W.iteB (b := ((U.getD i lr0).xs).getD mm false) rfl (fun c53 => ?_) (fun c53 => ?_)
          · skip
            refine W.skip (X.then_code ?_)
            refine W.seq ?_
            refine W.block ?_
            refine W.regionD mixed (by kernel_rfl) fun hok2 w13 k2 => ?_
            have H16 : UpG w [] w13 [[blk w.heap.size #[.slice dca d.cls.length dcc, .int .i64 d.width, .int .i64 d.start, .slice dna d.next.length dnc, .slice dba d.acc.length dbc] 25], [manyF (inLR tyB 4).row U], [rowT tyLR (.slice oa Xs.length oc) 23 U]] := H15.kept k2
            refine WD.take hok2 0 (.slice oa Xs.length oc) (fun _ => True) rfl rfl rfl rfl rfl trivial (.inl ⟨rfl, fun _ _ => d_move rfl ⟨rfl, rfl⟩⟩) ?_
            refine WD.take hok2 1 (.int .i64 ((i : Nat) : Int)) (fun _ => True) rfl rfl rfl rfl rfl trivial (.inl ⟨rfl, fun _ _ => d_move rfl ⟨rfl, rfl⟩⟩) ?_
            refine WD.take hok2 2 (elemPtr (.slice oa Xs.length oc) i) (fun w' => RdT tyLR w' (.slice oa Xs.length oc) U) rfl rfl rfl rfl rfl (H16.rdT 2 rfl) (.inl ⟨rfl, fun _ hC => t_addr1 i (T := tyLR) rfl Try.underlying29 sz23 rfl rfl hC rfl (by omega) ⟨rfl, rfl⟩⟩) ?_
            refine WD.take hok2 3 (.slice ((U.getD i lr0).a) ((U.getD i lr0).n) ((U.getD i lr0).c)) (fun w' => RdT tyLR w' (.slice oa Xs.length oc) U) rfl rfl rfl rfl rfl (H16.rdT 2 rfl) (.inl ⟨rfl, fun _ hC => t_load1 i lr0 (T := tyLR) rfl Try.underlying23 rfl rfl hC (by omega) rfl ⟨rfl, rfl⟩⟩) ?_
            refine WD.take hok2 4 (.int .i64 ((k_1 : Nat) : Int)) (fun _ => True) rfl rfl rfl rfl rfl trivial (.inl ⟨rfl, fun _ _ => d_move rfl ⟨rfl, rfl⟩⟩) ?_
            refine WD.take hok2 5 (.slice oa Xs.length oc) (fun _ => True) rfl rfl rfl rfl rfl trivial (.inl ⟨rfl, fun _ _ => d_move rfl ⟨rfl, rfl⟩⟩) ?_
            refine WD.take hok2 6 (.int .i64 ((i : Nat) : Int)) (fun _ => True) rfl rfl rfl rfl rfl trivial (.inl ⟨rfl, fun _ _ => d_move rfl ⟨rfl, rfl⟩⟩) ?_
            refine WD.take hok2 7 (elemPtr (.slice oa Xs.length oc) i) (fun w' => RdT tyLR w' (.slice oa Xs.length oc) U) rfl rfl rfl rfl rfl (H16.rdT 2 rfl) (.inl ⟨rfl, fun _ hC => t_addr1 i (T := tyLR) rfl Try.underlying29 sz23 rfl rfl hC rfl (by omega) ⟨rfl, rfl⟩⟩) ?_
            refine WD.take hok2 8 (.slice ((U.getD i lr0).a) ((U.getD i lr0).n) ((U.getD i lr0).c)) (fun w' => RdT tyLR w' (.slice oa Xs.length oc) U) rfl rfl rfl rfl rfl (H16.rdT 2 rfl) (.inl ⟨rfl, fun _ hC => t_load1 i lr0 (T := tyLR) rfl Try.underlying23 rfl rfl hC (by omega) rfl ⟨rfl, rfl⟩⟩) ?_
            refine WD.take hok2 9 (.int .i64 ((k_1 : Nat) : Int)) (fun _ => True) rfl rfl rfl rfl rfl trivial (.inl ⟨rfl, fun _ _ => d_move rfl ⟨rfl, rfl⟩⟩) ?_
            refine WD.take hok2 10 (elemPtr (.slice ((U.getD i lr0).a) ((U.getD i lr0).n) ((U.getD i lr0).c)) k_1) (fun w' => RdT tyB w' (.slice ((U.getD i lr0).a) ((U.getD i lr0).n) ((U.getD i lr0).c)) ((U.getD i lr0).xs)) rfl rfl rfl rfl rfl (show RdT tyB w13 (.slice ((U.getD i lr0).a) ((U.getD i lr0).n) ((U.getD i lr0).c)) ((U.getD i lr0).xs) from (Inn.own (H16.hpOf 1 rfl)).get lr0 i (by omega)) (.inl ⟨rfl, fun _ hC => t_addr1 k_1 (T := tyB) rfl Try.underlying23 sz4 rfl rfl hC rfl (by omega) ⟨rfl, rfl⟩⟩) ?_
            refine WD.take hok2 11 (.bool (((U.getD i lr0).xs).getD k_1 false)) (fun w' => RdT tyB w' (.slice ((U.getD i lr0).a) ((U.getD i lr0).n) ((U.getD i lr0).c)) ((U.getD i lr0).xs)) rfl rfl rfl rfl rfl (show RdT tyB w13 (.slice ((U.getD i lr0).a) ((U.getD i lr0).n) ((U.getD i lr0).c)) ((U.getD i lr0).xs) from (Inn.own (H16.hpOf 1 rfl)).get lr0 i (by omega)) (.inl ⟨rfl, fun _ hC => t_load1 k_1 false (T := tyB) rfl Try.underlying4 rfl rfl hC (by omega) rfl ⟨rfl, rfl⟩⟩) ?_
            refine WD.take hok2 12 (.bool (((U.getD i lr0).xs).getD k_1 false)) (fun _ => True) rfl rfl rfl rfl rfl trivial (.inl ⟨rfl, fun _ _ => d_move rfl ⟨rfl, rfl⟩⟩) ?_
            refine WD.partB 84 (b := ((U.getD i lr0).xs).getD k_1 false) rfl (fun g54 => ?_) (fun g54 => ?_)
            · skip
              refine WD.take hok2 13 undef (fun _ => True) rfl rfl rfl rfl rfl trivial (.inr ⟨rfl, rfl⟩) ?_
              refine WD.take hok2 14 undef (fun _ => True) rfl rfl rfl rfl rfl trivial (.inr ⟨rfl, rfl⟩) ?_
              refine WD.take hok2 15 undef (fun _ => True) rfl rfl rfl rfl rfl trivial (.inr ⟨rfl, rfl⟩) ?_
              refine WD.take hok2 16 undef (fun _ => True) rfl rfl rfl rfl rfl trivial (.inr ⟨rfl, rfl⟩) ?_
              refine WD.take hok2 17 undef (fun _ => True) rfl rfl rfl rfl rfl trivial (.inr ⟨rfl, rfl⟩) ?_
              refine WD.take hok2 18 undef (fun _ => True) rfl rfl rfl rfl rfl trivial (.inr ⟨rfl, rfl⟩) ?_
              refine WD.take hok2 19 undef (fun _ => True) rfl rfl rfl rfl rfl trivial (.inr ⟨rfl, rfl⟩) ?_
              refine WD.take hok2 20 (.bool true) (fun _ => True) rfl rfl rfl rfl rfl trivial (.inl ⟨rfl, fun _ _ => d_pick rfl rfl ⟨rfl, rfl⟩⟩) ?_
              refine WD.take hok2 21 (elemPtr (.slice ((U.getD i lr0).a) ((U.getD i lr0).n) ((U.getD i lr0).c)) k_1) (fun w' => RdT tyB w' (.slice ((U.getD i lr0).a) ((U.getD i lr0).n) ((U.getD i lr0).c)) ((U.getD i lr0).xs)) rfl rfl rfl rfl rfl (show RdT tyB w13 (.slice ((U.getD i lr0).a) ((U.getD i lr0).n) ((U.getD i lr0).c)) ((U.getD i lr0).xs) from (Inn.own (H16.hpOf 1 rfl)).get lr0 i (by omega)) (.inl ⟨rfl, fun _ hC => t_addr1 k_1 (T := tyB) rfl Try.underlying23 sz4 rfl rfl hC rfl (by omega) ⟨rfl, rfl⟩⟩) ?_
              have H17 : UpG w [] w13 [[blk w.heap.size #[.slice dca d.cls.length dcc, .int .i64 d.width, .int .i64 d.start, .slice dna d.next.length dnc, .slice dba d.acc.length dbc] 25], [manyF (inLR tyB 4).row (U.eraseIdx i)], [rowT tyLR (.slice oa Xs.length oc) 23 U], [rowT tyB (.slice ((U.getD i lr0).a) ((U.getD i lr0).n) ((U.getD i lr0).c)) 4 ((U.getD i lr0).xs)]] := H16.takeOut (f := (inLR tyB 4).row) lr0 1 i rfl (by omega)
              refine WD.loud hok2 22 rfl (⟨_, [], rfl, rfl, rfl, rfl, rfl, rfl, t_store1 k_1 true (T := tyB) (e := 4) rfl sz4 rfl rfl rfl (H17.ownT 3 rfl) (by omega) fun w14 u7 => ?_⟩)
              have H18 : UpG w [] w14 [[blk w.heap.size #[.slice dca d.cls.length dcc, .int .i64 d.width, .int .i64 d.start, .slice dna d.next.length dnc, .slice dba d.acc.length dbc] 25], [manyF (inLR tyB 4).row (U.eraseIdx i)], [rowT tyLR (.slice oa Xs.length oc) 23 U], [rowT tyB (.slice ((U.getD i lr0).a) ((U.getD i lr0).n) ((U.getD i lr0).c)) 4 (((U.getD i lr0).xs).set k_1 true)]] := H17.on 3 rfl u7
              have H19 : UpG w [] w14 [[blk w.heap.size #[.slice dca d.cls.length dcc, .int .i64 d.width, .int .i64 d.start, .slice dna d.next.length dnc, .slice dba d.acc.length dbc] 25], [manyF (inLR tyB 4).row (U.set i ⟨(U.getD i lr0).a, (U.getD i lr0).n, (U.getD i lr0).c, ((U.getD i lr0).xs).set k_1 true⟩)], [rowT tyLR (.slice oa Xs.length oc) 23 U], []] := (H18.putBack (f := (inLR tyB 4).row) ⟨(U.getD i lr0).a, (U.getD i lr0).n, (U.getD i lr0).c, ((U.getD i lr0).xs).set k_1 true⟩ 1 3 i rfl rfl rfl (by omega)).re rfl
              have H20 : UpG w [] w14 [[blk w.heap.size #[.slice dca d.cls.length dcc, .int .i64 d.width, .int .i64 d.start, .slice dna d.next.length dnc, .slice dba d.acc.length dbc] 25], [manyF (inLR tyB 4).row (U.set i ⟨(U.getD i lr0).a, (U.getD i lr0).n, (U.getD i lr0).c, ((U.getD i lr0).xs).set k_1 true⟩)], [rowT tyLR (.slice oa Xs.length oc) 23 (U.set i ⟨(U.getD i lr0).a, (U.getD i lr0).n, (U.getD i lr0).c, ((U.getD i lr0).xs).set k_1 true⟩)], []] := H19.recast (((U.getD i lr0).xs).set k_1 true) 2 i rfl (by omega)
              refine ⟨trivial, ?_⟩
              refine WD.done hok2 rfl (X.block_normal (X.then_code ?_))
              refine W.pick [91, 90, 89, 88, 87, 86, 85, 68, 67, 66, 65, 64, 63, 62, 10, 9, 8, 4, 3, 2] (Γ' := [(91, undef), (90, undef), (89, undef), (88, undef), (87, undef), (86, undef), (85, undef), (68, .bool (((U.getD i lr0).xs).getD mm false)), (67, elemPtr (.slice ((U.getD i lr0).a) ((U.getD i lr0).n) ((U.getD i lr0).c)) mm), (66, .int .i64 ((mm : Nat) : Int)), (65, .slice ((U.getD i lr0).a) ((U.getD i lr0).n) ((U.getD i lr0).c)), (64, elemPtr (.slice oa Xs.length oc) i), (63, .int .i64 ((i : Nat) : Int)), (62, .slice oa Xs.length oc), (10, .int .i64 ((k_1 : Nat) : Int)), (9, .int .i64 ((i : Nat) : Int)), (8, .int .i64 ((mm : Nat) : Int)), (4, .slice oa Xs.length oc), (3, .int .i64 ((d.acc.length : Nat) : Int)), (2, .slice none 0 0)]) rfl ?_
              refine W.region ?_
              refine WL.op rfl (d_move rfl ?_)
              refine WL.op rfl (d_add rfl rfl (by omega) (by omega) ?_)
              refine WL.op rfl (d_assign rfl ?_)
              refine WL.done ?_
              exact X.next [10, 9, 8, 4, 3, 2] (Γ' := [(10, .int .i64 (((k_1 + 1) : Nat) : Int)), (9, .int .i64 ((i : Nat) : Int)), (8, .int .i64 ((mm : Nat) : Int)), (4, .slice oa Xs.length oc), (3, .int .i64 ((d.acc.length : Nat) : Int)), (2, .slice none 0 0)]) rfl (d.acc.length - (k_1 + 1)) (by omega) ⟨k_1 + 1, U.set i ⟨(U.getD i lr0).a, (U.getD i lr0).n, (U.getD i lr0).c, ((U.getD i lr0).xs).set k_1 true⟩, rfl, (H20.re rfl), (by first | assumption | omega | simp), (by first | exact hU.step (by omega) (by omega) (by omega) c53 (by unfold cellB; rw [g54]; rfl) | exact hU.step (by omega) (by omega) (by omega) c53 (by unfold cellB; rw [Bool.eq_false_iff.2 g54]; rfl)), rfl⟩
            · skip
              refine WD.take hok2 13 (.slice oa Xs.length oc) (fun _ => True) rfl rfl rfl rfl rfl trivial (.inl ⟨rfl, fun _ _ => d_move rfl ⟨rfl, rfl⟩⟩) ?_
              refine WD.take hok2 14 (.int .i64 ((mm : Nat) : Int)) (fun _ => True) rfl rfl rfl rfl rfl trivial (.inl ⟨rfl, fun _ _ => d_move rfl ⟨rfl, rfl⟩⟩) ?_
              refine WD.take hok2 15 (elemPtr (.slice oa Xs.length oc) mm) (fun w' => RdT tyLR w' (.slice oa Xs.length oc) U) rfl rfl rfl rfl rfl (H16.rdT 2 rfl) (.inl ⟨rfl, fun _ hC => t_addr1 mm (T := tyLR) rfl Try.underlying29 sz23 rfl rfl hC rfl (by omega) ⟨rfl, rfl⟩⟩) ?_
              refine WD.take hok2 16 (.slice ((U.getD mm lr0).a) ((U.getD mm lr0).n) ((U.getD mm lr0).c)) (fun w' => RdT tyLR w' (.slice oa Xs.length oc) U) rfl rfl rfl rfl rfl (H16.rdT 2 rfl) (.inl ⟨rfl, fun _ hC => t_load1 mm lr0 (T := tyLR) rfl Try.underlying23 rfl rfl hC (by omega) rfl ⟨rfl, rfl⟩⟩) ?_
              refine WD.take hok2 17 (.int .i64 ((k_1 : Nat) : Int)) (fun _ => True) rfl rfl rfl rfl rfl trivial (.inl ⟨rfl, fun _ _ => d_move rfl ⟨rfl, rfl⟩⟩) ?_
              refine WD.take hok2 18 (elemPtr (.slice ((U.getD mm lr0).a) ((U.getD mm lr0).n) ((U.getD mm lr0).c)) k_1) (fun w' => RdT tyB w' (.slice ((U.getD mm lr0).a) ((U.getD mm lr0).n) ((U.getD mm lr0).c)) ((U.getD mm lr0).xs)) rfl rfl rfl rfl rfl (show RdT tyB w13 (.slice ((U.getD mm lr0).a) ((U.getD mm lr0).n) ((U.getD mm lr0).c)) ((U.getD mm lr0).xs) from (Inn.own (H16.hpOf 1 rfl)).get lr0 mm (by omega)) (.inl ⟨rfl, fun _ hC => t_addr1 k_1 (T := tyB) rfl Try.underlying23 sz4 rfl rfl hC rfl (by omega) ⟨rfl, rfl⟩⟩) ?_
              refine WD.take hok2 19 (.bool (((U.getD mm lr0).xs).getD k_1 false)) (fun w' => RdT tyB w' (.slice ((U.getD mm lr0).a) ((U.getD mm lr0).n) ((U.getD mm lr0).c)) ((U.getD mm lr0).xs)) rfl rfl rfl rfl rfl (show RdT tyB w13 (.slice ((U.getD mm lr0).a) ((U.getD mm lr0).n) ((U.getD mm lr0).c)) ((U.getD mm lr0).xs) from (Inn.own (H16.hpOf 1 rfl)).get lr0 mm (by omega)) (.inl ⟨rfl, fun _ hC => t_load1 k_1 false (T := tyB) rfl Try.underlying4 rfl rfl hC (by omega) rfl ⟨rfl, rfl⟩⟩) ?_
              refine WD.take hok2 20 (.bool (((U.getD mm lr0).xs).getD k_1 false)) (fun _ => True) rfl rfl rfl rfl rfl trivial (.inl ⟨rfl, fun _ _ => d_pick rfl rfl ⟨rfl, rfl⟩⟩) ?_
              refine WD.take hok2 21 (elemPtr (.slice ((U.getD i lr0).a) ((U.getD i lr0).n) ((U.getD i lr0).c)) k_1) (fun w' => RdT tyB w' (.slice ((U.getD i lr0).a) ((U.getD i lr0).n) ((U.getD i lr0).c)) ((U.getD i lr0).xs)) rfl rfl rfl rfl rfl (show RdT tyB w13 (.slice ((U.getD i lr0).a) ((U.getD i lr0).n) ((U.getD i lr0).c)) ((U.getD i lr0).xs) from (Inn.own (H16.hpOf 1 rfl)).get lr0 i (by omega)) (.inl ⟨rfl, fun _ hC => t_addr1 k_1 (T := tyB) rfl Try.underlying23 sz4 rfl rfl hC rfl (by omega) ⟨rfl, rfl⟩⟩) ?_
              have H21 : UpG w [] w13 [[blk w.heap.size #[.slice dca d.cls.length dcc, .int .i64 d.width, .int .i64 d.start, .slice dna d.next.length dnc, .slice dba d.acc.length dbc] 25], [manyF (inLR tyB 4).row (U.eraseIdx i)], [rowT tyLR (.slice oa Xs.length oc) 23 U], [rowT tyB (.slice ((U.getD i lr0).a) ((U.getD i lr0).n) ((U.getD i lr0).c)) 4 ((U.getD i lr0).xs)]] := H16.takeOut (f := (inLR tyB 4).row) lr0 1 i rfl (by omega)
              refine WD.loud hok2 22 rfl (⟨_, [], rfl, rfl, rfl, rfl, rfl, rfl, t_store1 k_1 (((U.getD mm lr0).xs).getD k_1 false) (T := tyB) (e := 4) rfl sz4 rfl rfl rfl (H21.ownT 3 rfl) (by omega) fun w15 u8 => ?_⟩)
              have H22 : UpG w [] w15 [[blk w.heap.size #[.slice dca d.cls.length dcc, .int .i64 d.width, .int .i64 d.start, .slice dna d.next.length dnc, .slice dba d.acc.length dbc] 25], [manyF (inLR tyB 4).row (U.eraseIdx i)], [rowT tyLR (.slice oa Xs.length oc) 23 U], [rowT tyB (.slice ((U.getD i lr0).a) ((U.getD i lr0).n) ((U.getD i lr0).c)) 4 (((U.getD i lr0).xs).set k_1 (((U.getD mm lr0).xs).getD k_1 false))]] := H21.on 3 rfl u8
              have H23 : UpG w [] w15 [[blk w.heap.size #[.slice dca d.cls.length dcc, .int .i64 d.width, .int .i64 d.start, .slice dna d.next.length dnc, .slice dba d.acc.length dbc] 25], [manyF (inLR tyB 4).row (U.set i ⟨(U.getD i lr0).a, (U.getD i lr0).n, (U.getD i lr0).c, ((U.getD i lr0).xs).set k_1 (((U.getD mm lr0).xs).getD k_1 false)⟩)], [rowT tyLR (.slice oa Xs.length oc) 23 U], []] := (H22.putBack (f := (inLR tyB 4).row) ⟨(U.getD i lr0).a, (U.getD i lr0).n, (U.getD i lr0).c, ((U.getD i lr0).xs).set k_1 (((U.getD mm lr0).xs).getD k_1 false)⟩ 1 3 i rfl rfl rfl (by omega)).re rfl
              have H24 : UpG w [] w15 [[blk w.heap.size #[.slice dca d.cls.length dcc, .int .i64 d.width, .int .i64 d.start, .slice dna d.next.length dnc, .slice dba d.acc.length dbc] 25], [manyF (inLR tyB 4).row (U.set i ⟨(U.getD i lr0).a, (U.getD i lr0).n, (U.getD i lr0).c, ((U.getD i lr0).xs).set k_1 (((U.getD mm lr0).xs).getD k_1 false)⟩)], [rowT tyLR (.slice oa Xs.length oc) 23 (U.set i ⟨(U.getD i lr0).a, (U.getD i lr0).n, (U.getD i lr0).c, ((U.getD i lr0).xs).set k_1 (((U.getD mm lr0).xs).getD k_1 false)⟩)], []] := H23.recast (((U.getD i lr0).xs).set k_1 (((U.getD mm lr0).xs).getD k_1 false)) 2 i rfl (by omega)
              refine ⟨trivial, ?_⟩
              refine WD.done hok2 rfl (X.block_normal (X.then_code ?_))
              refine W.pick [91, 90, 89, 88, 87, 86, 85, 68, 67, 66, 65, 64, 63, 62, 10, 9, 8, 4, 3, 2] (Γ' := [(91, .bool (((U.getD mm lr0).xs).getD k_1 false)), (90, elemPtr (.slice ((U.getD mm lr0).a) ((U.getD mm lr0).n) ((U.getD mm lr0).c)) k_1), (89, .int .i64 ((k_1 : Nat) : Int)), (88, .slice ((U.getD mm lr0).a) ((U.getD mm lr0).n) ((U.getD mm lr0).c)), (87, elemPtr (.slice oa Xs.length oc) mm), (86, .int .i64 ((mm : Nat) : Int)), (85, .slice oa Xs.length oc), (68, .bool (((U.getD i lr0).xs).getD mm false)), (67, elemPtr (.slice ((U.getD i lr0).a) ((U.getD i lr0).n) ((U.getD i lr0).c)) mm), (66, .int .i64 ((mm : Nat) : Int)), (65, .slice ((U.getD i lr0).a) ((U.getD i lr0).n) ((U.getD i lr0).c)), (64, elemPtr (.slice oa Xs.length oc) i), (63, .int .i64 ((i : Nat) : Int)), (62, .slice oa Xs.length oc), (10, .int .i64 ((k_1 : Nat) : Int)), (9, .int .i64 ((i : Nat) : Int)), (8, .int .i64 ((mm : Nat) : Int)), (4, .slice oa Xs.length oc), (3, .int .i64 ((d.acc.length : Nat) : Int)), (2, .slice none 0 0)]) rfl ?_
              refine W.region ?_
              refine WL.op rfl (d_move rfl ?_)
              refine WL.op rfl (d_add rfl rfl (by omega) (by omega) ?_)
              refine WL.op rfl (d_assign rfl ?_)
              refine WL.done ?_
              exact X.next [10, 9, 8, 4, 3, 2] (Γ' := [(10, .int .i64 (((k_1 + 1) : Nat) : Int)), (9, .int .i64 ((i : Nat) : Int)), (8, .int .i64 ((mm : Nat) : Int)), (4, .slice oa Xs.length oc), (3, .int .i64 ((d.acc.length : Nat) : Int)), (2, .slice none 0 0)]) rfl (d.acc.length - (k_1 + 1)) (by omega) ⟨k_1 + 1, U.set i ⟨(U.getD i lr0).a, (U.getD i lr0).n, (U.getD i lr0).c, ((U.getD i lr0).xs).set k_1 (((U.getD mm lr0).xs).getD k_1 false)⟩, rfl, (H24.re rfl), (by first | assumption | omega | simp), (by first | exact hU.step (by omega) (by omega) (by omega) c53 (by unfold cellB; rw [g54]; rfl) | exact hU.step (by omega) (by omega) (by omega) c53 (by unfold cellB; rw [Bool.eq_false_iff.2 g54]; rfl)), rfl⟩
          · skip
            refine W.exit (X.then_exit (X.then_exit (X.block_exit (X.block_normal (X.then_code ?_)))))
            refine W.region ?_
            refine WL.op rfl (d_move rfl ?_)
            refine WL.op rfl (d_add rfl rfl (by omega) (by omega) ?_)
            refine WL.op rfl (d_assign rfl ?_)
            refine WL.done ?_
            exact X.next [9, 8, 4, 3, 2] (Γ' := [(9, .int .i64 (((i + 1) : Nat) : Int)), (8, .int .i64 ((mm : Nat) : Int)), (4, .slice oa Xs.length oc), (3, .int .i64 ((d.acc.length : Nat) : Int)), (2, .slice none 0 0)]) rfl (d.acc.length - (i + 1)) (by omega) ⟨i + 1, U, rfl, H15, (by first | assumption | omega | simp), (by first | exact hU.rowDone (by omega) (by omega) (.inl (by omega)) | exact hU.rowDone (by omega) (by omega) (.inr c53)), rfl⟩
        · skip
          refine WL.opN rfl rfl rfl rfl ?_
          refine WL.opN rfl rfl rfl rfl ?_
          refine WL.opN rfl rfl rfl rfl ?_
          refine WL.opN rfl rfl rfl rfl ?_
          refine WL.opN rfl rfl rfl rfl ?_
          refine WL.opN rfl rfl rfl rfl ?_
          refine WL.opN rfl rfl rfl rfl ?_
          refine WL.op rfl (d_pick rfl rfl ?_)
          refine WL.done (X.then_code ?_)
          refine W.iff rfl ?_
          refine W.exit (X.then_exit (X.then_exit (X.block_exit (X.block_normal (X.then_code ?_)))))
          refine W.region ?_
          refine WL.op rfl (d_move rfl ?_)
          refine WL.op rfl (d_add rfl rfl (by omega) (by omega) ?_)
          refine WL.op rfl (d_assign rfl ?_)
          refine WL.done ?_
          exact X.next [9, 8, 4, 3, 2] (Γ' := [(9, .int .i64 (((i + 1) : Nat) : Int)), (8, .int .i64 ((mm : Nat) : Int)), (4, .slice oa Xs.length oc), (3, .int .i64 ((d.acc.length : Nat) : Int)), (2, .slice none 0 0)]) rfl (d.acc.length - (i + 1)) (by omega) ⟨i + 1, U, rfl, H15, (by first | assumption | omega | simp), (by first | exact hU.rowDone (by omega) (by omega) (.inl (by omega)) | exact hU.rowDone (by omega) (by omega) (.inr c53)), rfl⟩
      · skip
        refine W.exit (X.then_exit (X.then_exit (X.block_exit (X.block_normal (X.then_code ?_)))))
        refine W.region ?_
        refine WL.op rfl (d_move rfl ?_)
        refine WL.op rfl (d_add rfl rfl (by omega) (by omega) ?_)
        refine WL.op rfl (d_assign rfl ?_)
        refine WL.done ?_
        exact X.next [8, 4, 3, 2] (Γ' := [(8, .int .i64 (((mm + 1) : Nat) : Int)), (4, .slice oa Xs.length oc), (3, .int .i64 ((d.acc.length : Nat) : Int)), (2, .slice none 0 0)]) rfl (d.acc.length - (mm + 1)) (by omega) ⟨mm + 1, Z, rfl, H14, (by first | assumption | omega | simp), (by exact hZ.allDone (by omega)), rfl⟩
    · skip
      refine W.exit (X.then_exit (X.then_exit (X.block_exit (X.then_code ?_))))
      refine W.seq ?_
      refine W.region ?_
      refine WL.op rfl (d_move rfl ?_)
      refine WL.op rfl (d_assign rfl ?_)
      refine WL.done (X.then_code ?_)
      refine W.ret (X.ret1 rfl rfl ?_)
      exact ⟨oa, Y, Xs.length, oc, rfl, (Upd.sel H13 (l := [2, 1]) rfl rfl), hY.fin hrt (by omega), (by omega)⟩
end Go.Proofs.Ytoeockpkkmgieaa

