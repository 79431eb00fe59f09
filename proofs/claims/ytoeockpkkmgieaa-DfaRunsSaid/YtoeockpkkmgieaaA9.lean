/- The walks of functions, printed by wip/tools/gw.py. -/
import Derived.Test.YtoeockpkkmgieaaF2
import Derived.Test.YtoeockpkkmgieaaSx7
import Derived.Test.YtoeockpkkmgieaaA8
import Derived.Test.YtoeockpkkmgieaaDfa4
namespace Go.Proofs.Ytoeockpkkmgieaa
open Go Go.Sx
set_option linter.unusedVariables false
set_option linter.unusedSimpArgs false
set_option maxRecDepth 20000 in
theorem comes_any (d : DfaD) (dca : Option Addr) (dna : Option Addr) (dba : Option Addr) (dcc : Nat) (dnc : Nat) (dbc : Nat) (w : World) (rcd : RdT (tyI .i64) w (.slice dca d.cls.length dcc) d.cls) (rnd : RdT (tyI .i64) w (.slice dna d.next.length dnc) d.next) (rbd : RdT tyB w (.slice dba d.acc.length dbc) d.acc) (hrt : rightB d = true) :
    Calls Try.prog 21 #[.agg #[.slice dca d.cls.length dcc, .int .i64 d.width, .int .i64 d.start, .slice dna d.next.length dnc, .slice dba d.acc.length dbc]] w (Ret fun v w' => ∃ a2 : Option Addr, ∃ Xs : List (LR Bool), ∃ n2 : Nat, ∃ c2 : Nat, v = .slice a2 n2 c2 ∧ Upd w [] w' [rowT tyLR (.slice a2 n2 c2) 23 Xs, manyF (inLR tyB 4).row Xs] ∧ (ComesP d Xs) ∧ (n2 = d.acc.length)) := by
  have hri := rightB_iff.1 hrt
  have le_rcd := rcd.le
  have le_rnd := rnd.le
  have le_rbd := rbd.le
  refine calls_of_W (args := [.agg #[.slice dca d.cls.length dcc, .int .i64 d.width, .int .i64 d.start, .slice dna d.next.length dnc, .slice dba d.acc.length dbc]]) Try.func21 rfl rfl rfl ?_
  have H0 : UpG w [] w [] := UpG.nil w
  show W _ _ _ _ [(0, .agg #[.slice dca d.cls.length dcc, .int .i64 d.width, .int .i64 d.start, .slice dna d.next.length dnc, .slice dba d.acc.length dbc])] w
  refine W.seq ?_
  refine W.region ?_
  refine WL.op rfl (d_box rfl fun w1 u1 => ?_)
  have H1 : UpG w [] w1 [[blk w.heap.size #[.slice dca d.cls.length dcc, .int .i64 d.width, .int .i64 d.start, .slice dna d.next.length dnc, .slice dba d.acc.length dbc] 25]] := H0.new' u1
  refine WL.op rfl (d_assign rfl ?_)
  refine WL.done (X.then_code ?_)
  refine W.seq ?_
  refine W.region ?_
  refine WL.op rfl (d_fieldAddrB fld25_4 rfl rfl ?_)
  refine WL.op rfl (d_loadB Try.underlying23 rfl rfl (H1.blk 0 rfl) rfl ?_)
  refine WL.op rfl (d_lenS Try.underlying23 rfl ?_)
  refine WL.op rfl (d_assign rfl ?_)
  refine WL.done (X.then_code ?_)
  refine W.seq ?_
  refine W.region ?_
  refine WL.op rfl (d_assign rfl ?_)
  refine WL.done (X.then_code ?_)
  refine W.seq ?_
  refine W.seq ?_
  refine W.region ?_
  refine WL.op rfl (d_assign rfl ?_)
  refine WL.done (X.then_code ?_)
  refine W.block ?_
  have H2 : UpG w [] w1 [[blk w.heap.size #[.slice dca d.cls.length dcc, .int .i64 d.width, .int .i64 d.start, .slice dna d.next.length dnc, .slice dba d.acc.length dbc] 25], [manyF (inLR tyB 4).row ([] : List (LR Bool))]] := H1.new' (Upd.manyNil (inLR tyB 4).row w1)
  have H3 : UpG w [] w1 [[blk w.heap.size #[.slice dca d.cls.length dcc, .int .i64 d.width, .int .i64 d.start, .slice dna d.next.length dnc, .slice dba d.acc.length dbc] 25], [manyF (inLR tyB 4).row ([] : List (LR Bool))], [rowT tyLR (.slice none (([] : List (LR Bool)).length) 0) 23 ([] : List (LR Bool))]] := H2.new' (Upd.nilRowT w1 tyLR 23)
  refine W.pick [5, 4, 3, 2, 1] (Γ' := [(5, .int .i64 0), (4, .slice none (([] : List (LR Bool)).length) 0), (3, .int .i64 ((d.acc.length : Nat) : Int)), (2, .slice none 0 0), (1, .pointer (some ⟨w.heap.size, 0, none⟩))]) rfl ?_
  refine W.loop (fun m Γ' w' => ∃ s : Nat, ∃ Xs : List (LR Bool), ∃ oa : Option Addr, ∃ oc : Nat, Γ' = [(5, .int .i64 ((s : Nat) : Int)), (4, .slice oa Xs.length oc), (3, .int .i64 ((d.acc.length : Nat) : Int)), (2, .slice none 0 0), (1, .pointer (some ⟨w.heap.size, 0, none⟩))] ∧ UpG w [] w' [[blk w.heap.size #[.slice dca d.cls.length dcc, .int .i64 d.width, .int .i64 d.start, .slice dna d.next.length dnc, .slice dba d.acc.length dbc] 25], [manyF (inLR tyB 4).row Xs], [rowT tyLR (.slice oa Xs.length oc) 23 Xs]] ∧ (s ≤ d.acc.length) ∧ (CmS d Xs s) ∧ m = d.acc.length - s) (d.acc.length - 0) ⟨0, ([] : List (LR Bool)), none, 0, rfl, H3, (by first | assumption | omega | simp), (by exact CmS.start d), rfl⟩ ?_
  rintro m1 Γ1 w2 ⟨s, Xs, oa, oc, rfl, H4, hs, hX, rfl⟩
  have hXl := hX.len
  refine W.seq ?_
  refine W.seq ?_
  refine W.region ?_
  refine WL.op rfl (d_move rfl ?_)
  refine WL.op rfl (d_move rfl ?_)
  refine WL.op rfl (d_cmp (decide (((s : Nat) : Int) < ((d.acc.length : Nat) : Int))) rfl rfl rfl ?_)
  refine WL.done (X.then_code ?_)
  refine W.ite (p := ((s : Nat) : Int) < ((d.acc.length : Nat) : Int)) rfl (fun c43 => ?_) (fun c43 => ?_)
  · skip
    refine W.skip (X.then_code ?_)
    refine W.seq ?_
    refine W.block ?_
    refine W.seq ?_
    refine W.region ?_
    refine WL.op rfl (d_move rfl ?_)
    refine WL.op rfl (t_make d.acc.length false (T := tyB) rfl Try.underlying23 sz4 rfl rfl rfl rfl (by omega) (by omega) fun w3 u2 => ?_)
    have H5 : UpG w [] w3 [[blk w.heap.size #[.slice dca d.cls.length dcc, .int .i64 d.width, .int .i64 d.start, .slice dna d.next.length dnc, .slice dba d.acc.length dbc] 25], [manyF (inLR tyB 4).row Xs], [rowT tyLR (.slice oa Xs.length oc) 23 Xs], [rowT tyB (.slice (some ⟨w2.heap.size, 0, none⟩) ((List.replicate d.acc.length false).length) d.acc.length) 4 (List.replicate d.acc.length false)]] := H4.new' u2
    refine WL.op rfl (d_assign rfl ?_)
    refine WL.done (X.then_code ?_)
    refine W.seq ?_
    refine W.region ?_
    refine WL.op rfl (d_move rfl ?_)
    refine WL.op rfl (d_move rfl ?_)
    refine WL.op rfl (t_addr1 s (T := tyB) rfl Try.underlying23 sz4 rfl rfl (H5.rdT 3 rfl) rfl (by first | omega | (simp; omega)) ?_)
    refine WL.op0 (t_store1 s true (T := tyB) (e := 4) rfl sz4 rfl rfl rfl (H5.ownT 3 rfl) (by first | omega | (simp; omega)) fun w4 u3 => ?_)
    have H6 : UpG w [] w4 [[blk w.heap.size #[.slice dca d.cls.length dcc, .int .i64 d.width, .int .i64 d.start, .slice dna d.next.length dnc, .slice dba d.acc.length dbc] 25], [manyF (inLR tyB 4).row Xs], [rowT tyLR (.slice oa Xs.length oc) 23 Xs], [rowT tyB (.slice (some ⟨w2.heap.size, 0, none⟩) ((List.replicate d.acc.length false).length) d.acc.length) 4 ((List.replicate d.acc.length false).set s true)]] := H5.on 3 rfl u3
    refine WL.done (X.then_code ?_)
    refine W.seq ?_
    refine W.seq ?_
    refine W.region ?_
    refine WL.op rfl (d_assign rfl ?_)
    refine WL.done (X.then_code ?_)
    refine W.block ?_
    refine W.pick [7, 23, 22, 21, 6, 20, 19, 16, 15, 14, 5, 4, 3, 2, 1] (Γ' := [(7, .int .i64 0), (23, elemPtr (.slice (some ⟨w2.heap.size, 0, none⟩) ((List.replicate d.acc.length false).length) d.acc.length) s), (22, .int .i64 ((s : Nat) : Int)), (21, .slice (some ⟨w2.heap.size, 0, none⟩) ((List.replicate d.acc.length false).length) d.acc.length), (6, .slice (some ⟨w2.heap.size, 0, none⟩) ((List.replicate d.acc.length false).length) d.acc.length), (20, .slice (some ⟨w2.heap.size, 0, none⟩) ((List.replicate d.acc.length false).length) d.acc.length), (19, .int .i64 ((d.acc.length : Nat) : Int)), (16, .bool (decide (((s : Nat) : Int) < ((d.acc.length : Nat) : Int)))), (15, .int .i64 ((d.acc.length : Nat) : Int)), (14, .int .i64 ((s : Nat) : Int)), (5, .int .i64 ((s : Nat) : Int)), (4, .slice oa Xs.length oc), (3, .int .i64 ((d.acc.length : Nat) : Int)), (2, .slice none 0 0), (1, .pointer (some ⟨w.heap.size, 0, none⟩))]) rfl ?_
    refine W.loop (fun m Γ' w' => ∃ k : Nat, ∃ q : List Bool, Γ' = [(7, .int .i64 ((k : Nat) : Int)), (23, elemPtr (.slice (some ⟨w2.heap.size, 0, none⟩) ((List.replicate d.acc.length false).length) d.acc.length) s), (22, .int .i64 ((s : Nat) : Int)), (21, .slice (some ⟨w2.heap.size, 0, none⟩) ((List.replicate d.acc.length false).length) d.acc.length), (6, .slice (some ⟨w2.heap.size, 0, none⟩) ((List.replicate d.acc.length false).length) d.acc.length), (20, .slice (some ⟨w2.heap.size, 0, none⟩) ((List.replicate d.acc.length false).length) d.acc.length), (19, .int .i64 ((d.acc.length : Nat) : Int)), (16, .bool (decide (((s : Nat) : Int) < ((d.acc.length : Nat) : Int)))), (15, .int .i64 ((d.acc.length : Nat) : Int)), (14, .int .i64 ((s : Nat) : Int)), (5, .int .i64 ((s : Nat) : Int)), (4, .slice oa Xs.length oc), (3, .int .i64 ((d.acc.length : Nat) : Int)), (2, .slice none 0 0), (1, .pointer (some ⟨w.heap.size, 0, none⟩))] ∧ UpG w [] w' [[blk w.heap.size #[.slice dca d.cls.length dcc, .int .i64 d.width, .int .i64 d.start, .slice dna d.next.length dnc, .slice dba d.acc.length dbc] 25], [manyF (inLR tyB 4).row Xs], [rowT tyLR (.slice oa Xs.length oc) 23 Xs], [rowT tyB (.slice (some ⟨w2.heap.size, 0, none⟩) ((List.replicate d.acc.length false).length) d.acc.length) 4 q]] ∧ (k ≤ 259) ∧ (RwI d s q k) ∧ m = 259 - k) (259 - 0) ⟨0, (List.replicate d.acc.length false).set s true, rfl, H6, (by first | assumption | omega | simp), (by exact RwI.start (by omega)), rfl⟩ ?_
    rintro m2 Γ2 w5 ⟨k, q, rfl, H7, hk, hq, rfl⟩
    refine W.seq ?_
    refine W.seq ?_
    refine W.region ?_
    refine WL.op rfl (d_move rfl ?_)
    refine WL.op rfl (d_cmp (decide (((k : Nat) : Int) < (259 : Int))) rfl rfl rfl ?_)
    refine WL.done (X.then_code ?_)
    refine W.pick [25, 24, 7, 23, 22, 21, 6, 20, 19, 16, 15, 14, 5, 4, 3, 2, 1] (Γ' := [(25, .bool (decide (((k : Nat) : Int) < (259 : Int)))), (24, .int .i64 ((k : Nat) : Int)), (7, .int .i64 ((k : Nat) : Int)), (23, elemPtr (.slice (some ⟨w2.heap.size, 0, none⟩) ((List.replicate d.acc.length false).length) d.acc.length) s), (22, .int .i64 ((s : Nat) : Int)), (21, .slice (some ⟨w2.heap.size, 0, none⟩) ((List.replicate d.acc.length false).length) d.acc.length), (6, .slice (some ⟨w2.heap.size, 0, none⟩) ((List.replicate d.acc.length false).length) d.acc.length), (20, .slice (some ⟨w2.heap.size, 0, none⟩) ((List.replicate d.acc.length false).length) d.acc.length), (19, .int .i64 ((d.acc.length : Nat) : Int)), (16, .bool (decide (((s : Nat) : Int) < ((d.acc.length : Nat) : Int)))), (15, .int .i64 ((d.acc.length : Nat) : Int)), (14, .int .i64 ((s : Nat) : Int)), (5, .int .i64 ((s : Nat) : Int)), (4, .slice oa Xs.length oc), (3, .int .i64 ((d.acc.length : Nat) : Int)), (2, .slice none 0 0), (1, .pointer (some ⟨w.heap.size, 0, none⟩))]) rfl ?_
    refine W.ite (p := ((k : Nat) : Int) < (259 : Int)) rfl (fun c46 => ?_) (fun c46 => ?_)
    · skip
      refine W.skip (X.then_code ?_)
      refine W.pick [25, 24, 7, 23, 22, 21, 6, 20, 19, 16, 15, 14, 5, 4, 3, 2, 1] (Γ' := [(25, .bool (decide (((k : Nat) : Int) < (259 : Int)))), (24, .int .i64 ((k : Nat) : Int)), (7, .int .i64 ((k : Nat) : Int)), (23, elemPtr (.slice (some ⟨w2.heap.size, 0, none⟩) ((List.replicate d.acc.length false).length) d.acc.length) s), (22, .int .i64 ((s : Nat) : Int)), (21, .slice (some ⟨w2.heap.size, 0, none⟩) ((List.replicate d.acc.length false).length) d.acc.length), (6, .slice (some ⟨w2.heap.size, 0, none⟩) ((List.replicate d.acc.length false).length) d.acc.length), (20, .slice (some ⟨w2.heap.size, 0, none⟩) ((List.replicate d.acc.length false).length) d.acc.length), (19, .int .i64 ((d.acc.length : Nat) : Int)), (16, .bool (decide (((s : Nat) : Int) < ((d.acc.length : Nat) : Int)))), (15, .int .i64 ((d.acc.length : Nat) : Int)), (14, .int .i64 ((s : Nat) : Int)), (5, .int .i64 ((s : Nat) : Int)), (4, .slice oa Xs.length oc), (3, .int .i64 ((d.acc.length : Nat) : Int)), (2, .slice none 0 0), (1, .pointer (some ⟨w.heap.size, 0, none⟩))]) rfl ?_
      refine W.seq ?_
      refine W.block ?_
      have hcx := within_at hri.2.1 k (by omega)
      have hix := right_idx (q := (s : Int)) hrt (by omega) (by omega) hcx.1 hcx.2
      obtain ⟨x, hx, hxn⟩ : ∃ x : Nat, d.next.getD (((s : Nat) : Int) * d.width + d.cls.getD k 0).toNat 0 = (x : Int) ∧ x < d.acc.length := (by have h9 := within_at hri.2.2 (((s : Nat) : Int) * d.width + d.cls.getD k 0).toNat (by omega); exact ⟨(d.next.getD (((s : Nat) : Int) * d.width + d.cls.getD k 0).toNat 0).toNat, by omega, by omega⟩)
      have hql := hq.len
      refine W.regionD mixed (by kernel_rfl) fun hok1 w6 k1 => ?_
      have H8 : UpG w [] w6 [[blk w.heap.size #[.slice dca d.cls.length dcc, .int .i64 d.width, .int .i64 d.start, .slice dna d.next.length dnc, .slice dba d.acc.length dbc] 25], [manyF (inLR tyB 4).row Xs], [rowT tyLR (.slice oa Xs.length oc) 23 Xs], [rowT tyB (.slice (some ⟨w2.heap.size, 0, none⟩) ((List.replicate d.acc.length false).length) d.acc.length) 4 q]] := H7.kept k1
      refine WD.take hok1 0 (.slice (some ⟨w2.heap.size, 0, none⟩) ((List.replicate d.acc.length false).length) d.acc.length) (fun _ => True) rfl rfl rfl rfl rfl trivial (.inl ⟨rfl, fun _ _ => d_move rfl ⟨rfl, rfl⟩⟩) ?_
      refine WD.take hok1 1 (.pointer (some ⟨w.heap.size, 3, none⟩)) (fun _ => True) rfl rfl rfl rfl rfl trivial (.inl ⟨rfl, fun _ _ => d_fieldAddrB fld25_3 rfl rfl ⟨rfl, rfl⟩⟩) ?_
      refine WD.take hok1 2 (.slice dna d.next.length dnc) (fun w' => w'.heap[w.heap.size]? = some (.cells #[.slice dca d.cls.length dcc, .int .i64 d.width, .int .i64 d.start, .slice dna d.next.length dnc, .slice dba d.acc.length dbc] 25 (0, 0))) rfl rfl rfl rfl rfl (H8.blk 0 rfl) (.inl ⟨rfl, fun _ hC => d_loadB Try.underlying22 rfl rfl hC rfl ⟨rfl, rfl⟩⟩) ?_
      refine WD.take hok1 3 (.int .i64 ((s : Nat) : Int)) (fun _ => True) rfl rfl rfl rfl rfl trivial (.inl ⟨rfl, fun _ _ => d_move rfl ⟨rfl, rfl⟩⟩) ?_
      refine WD.take hok1 4 (.pointer (some ⟨w.heap.size, 1, none⟩)) (fun _ => True) rfl rfl rfl rfl rfl trivial (.inl ⟨rfl, fun _ _ => d_fieldAddrB fld25_1 rfl rfl ⟨rfl, rfl⟩⟩) ?_
      refine WD.take hok1 5 (.int .i64 d.width) (fun w' => w'.heap[w.heap.size]? = some (.cells #[.slice dca d.cls.length dcc, .int .i64 d.width, .int .i64 d.start, .slice dna d.next.length dnc, .slice dba d.acc.length dbc] 25 (0, 0))) rfl rfl rfl rfl rfl (H8.blk 0 rfl) (.inl ⟨rfl, fun _ hC => d_loadB Try.underlying3 rfl rfl hC rfl ⟨rfl, rfl⟩⟩) ?_
      refine WD.take hok1 6 (.int .i64 (((s : Nat) : Int) * d.width)) (fun _ => True) rfl rfl rfl rfl rfl trivial (.inl ⟨rfl, fun _ _ => d_mul rfl rfl (by omega) (by omega) ⟨rfl, rfl⟩⟩) ?_
      refine WD.take hok1 7 (.pointer (some ⟨w.heap.size, 0, none⟩)) (fun _ => True) rfl rfl rfl rfl rfl trivial (.inl ⟨rfl, fun _ _ => d_fieldAddrB fld25_0 rfl rfl ⟨rfl, rfl⟩⟩) ?_
      refine WD.take hok1 8 (.slice dca d.cls.length dcc) (fun w' => w'.heap[w.heap.size]? = some (.cells #[.slice dca d.cls.length dcc, .int .i64 d.width, .int .i64 d.start, .slice dna d.next.length dnc, .slice dba d.acc.length dbc] 25 (0, 0))) rfl rfl rfl rfl rfl (H8.blk 0 rfl) (.inl ⟨rfl, fun _ hC => d_loadB Try.underlying22 rfl rfl hC rfl ⟨rfl, rfl⟩⟩) ?_
      refine WD.take hok1 9 (.int .i64 ((k : Nat) : Int)) (fun _ => True) rfl rfl rfl rfl rfl trivial (.inl ⟨rfl, fun _ _ => d_move rfl ⟨rfl, rfl⟩⟩) ?_
      refine WD.take hok1 10 (elemPtr (.slice dca d.cls.length dcc) k) (fun w' => RdT (tyI .i64) w' (.slice dca d.cls.length dcc) d.cls) rfl rfl rfl rfl rfl (rcd.at H8) (.inl ⟨rfl, fun _ hC => t_addr1 k (T := (tyI .i64)) rfl Try.underlying22 sz3 rfl rfl hC (by omega) (by omega) ⟨rfl, rfl⟩⟩) ?_
      refine WD.take hok1 11 (.int .i64 (d.cls.getD k 0)) (fun w' => RdT (tyI .i64) w' (.slice dca d.cls.length dcc) d.cls) rfl rfl rfl rfl rfl (rcd.at H8) (.inl ⟨rfl, fun _ hC => t_load1 k 0 (T := (tyI .i64)) rfl Try.underlying3 rfl rfl hC (by omega) rfl ⟨rfl, rfl⟩⟩) ?_
      refine WD.take hok1 12 (.int .i64 ((((s : Nat) : Int) * d.width) + (d.cls.getD k 0))) (fun _ => True) rfl rfl rfl rfl rfl trivial (.inl ⟨rfl, fun _ _ => d_add rfl rfl (by omega) (by omega) ⟨rfl, rfl⟩⟩) ?_
      refine WD.take hok1 13 (elemPtr (.slice dna d.next.length dnc) (((((s : Nat) : Int) * d.width) + (d.cls.getD k 0)).toNat)) (fun w' => RdT (tyI .i64) w' (.slice dna d.next.length dnc) d.next) rfl rfl rfl rfl rfl (rnd.at H8) (.inl ⟨rfl, fun _ hC => t_addr1 (((((s : Nat) : Int) * d.width) + (d.cls.getD k 0)).toNat) (T := (tyI .i64)) rfl Try.underlying22 sz3 rfl rfl hC (by omega) (by omega) ⟨rfl, rfl⟩⟩) ?_
      refine WD.take hok1 14 (.int .i64 (d.next.getD (((((s : Nat) : Int) * d.width) + (d.cls.getD k 0)).toNat) 0)) (fun w' => RdT (tyI .i64) w' (.slice dna d.next.length dnc) d.next) rfl rfl rfl rfl rfl (rnd.at H8) (.inl ⟨rfl, fun _ hC => t_load1 (((((s : Nat) : Int) * d.width) + (d.cls.getD k 0)).toNat) 0 (T := (tyI .i64)) rfl Try.underlying3 rfl rfl hC (by omega) rfl ⟨rfl, rfl⟩⟩) ?_
      refine WD.take hok1 15 (elemPtr (.slice (some ⟨w2.heap.size, 0, none⟩) ((List.replicate d.acc.length false).length) d.acc.length) x) (fun w' => RdT tyB w' (.slice (some ⟨w2.heap.size, 0, none⟩) ((List.replicate d.acc.length false).length) d.acc.length) q) rfl rfl rfl rfl rfl (H8.rdT 3 rfl) (.inl ⟨rfl, fun _ hC => t_addr1 x (T := tyB) rfl Try.underlying23 sz4 rfl rfl hC (by omega) (by omega) ⟨rfl, rfl⟩⟩) ?_
      refine WD.loud hok1 16 rfl (⟨_, [], rfl, rfl, rfl, rfl, rfl, rfl, t_store1 x true (T := tyB) (e := 4) rfl sz4 rfl rfl rfl (H8.ownT 3 rfl) (by omega) fun w7 u4 => ?_⟩)
      have H9 : UpG w [] w7 [[blk w.heap.size #[.slice dca d.cls.length dcc, .int .i64 d.width, .int .i64 d.start, .slice dna d.next.length dnc, .slice dba d.acc.length dbc] 25], [manyF (inLR tyB 4).row Xs], [rowT tyLR (.slice oa Xs.length oc) 23 Xs], [rowT tyB (.slice (some ⟨w2.heap.size, 0, none⟩) ((List.replicate d.acc.length false).length) d.acc.length) 4 (q.set x true)]] := H8.on 3 rfl u4
      refine ⟨trivial, ?_⟩
      refine WD.done hok1 rfl (X.block_normal (X.then_code ?_))
      refine W.pick [43, 42, 41, 40, 39, 38, 37, 36, 35, 34, 33, 32, 31, 30, 29, 28, 25, 24, 7, 23, 22, 21, 6, 20, 19, 16, 15, 14, 5, 4, 3, 2, 1] (Γ' := [(43, elemPtr (.slice (some ⟨w2.heap.size, 0, none⟩) ((List.replicate d.acc.length false).length) d.acc.length) x), (42, .int .i64 (d.next.getD (((((s : Nat) : Int) * d.width) + (d.cls.getD k 0)).toNat) 0)), (41, elemPtr (.slice dna d.next.length dnc) (((((s : Nat) : Int) * d.width) + (d.cls.getD k 0)).toNat)), (40, .int .i64 ((((s : Nat) : Int) * d.width) + (d.cls.getD k 0))), (39, .int .i64 (d.cls.getD k 0)), (38, elemPtr (.slice dca d.cls.length dcc) k), (37, .int .i64 ((k : Nat) : Int)), (36, .slice dca d.cls.length dcc), (35, .pointer (some ⟨w.heap.size, 0, none⟩)), (34, .int .i64 (((s : Nat) : Int) * d.width)), (33, .int .i64 d.width), (32, .pointer (some ⟨w.heap.size, 1, none⟩)), (31, .int .i64 ((s : Nat) : Int)), (30, .slice dna d.next.length dnc), (29, .pointer (some ⟨w.heap.size, 3, none⟩)), (28, .slice (some ⟨w2.heap.size, 0, none⟩) ((List.replicate d.acc.length false).length) d.acc.length), (25, .bool (decide (((k : Nat) : Int) < (259 : Int)))), (24, .int .i64 ((k : Nat) : Int)), (7, .int .i64 ((k : Nat) : Int)), (23, elemPtr (.slice (some ⟨w2.heap.size, 0, none⟩) ((List.replicate d.acc.length false).length) d.acc.length) s), (22, .int .i64 ((s : Nat) : Int)), (21, .slice (some ⟨w2.heap.size, 0, none⟩) ((List.replicate d.acc.length false).length) d.acc.length), (6, .slice (some ⟨w2.heap.size, 0, none⟩) ((List.replicate d.acc.length false).length) d.acc.length), (20, .slice (some ⟨w2.heap.size, 0, none⟩) ((List.replicate d.acc.length false).length) d.acc.length), (19, .int .i64 ((d.acc.length : Nat) : Int)), (16, .bool (decide (((s : Nat) : Int) < ((d.acc.length : Nat) : Int)))), (15, .int .i64 ((d.acc.length : Nat) : Int)), (14, .int .i64 ((s : Nat) : Int)), (5, .int .i64 ((s : Nat) : Int)), (4, .slice oa Xs.length oc), (3, .int .i64 ((d.acc.length : Nat) : Int)), (2, .slice none 0 0), (1, .pointer (some ⟨w.heap.size, 0, none⟩))]) rfl ?_
      refine W.region ?_
      refine WL.op rfl (d_move rfl ?_)
      refine WL.op rfl (d_add rfl rfl (by omega) (by omega) ?_)
      refine WL.op rfl (d_assign rfl ?_)
      refine WL.done ?_
      exact X.next [7, 23, 22, 21, 6, 20, 19, 16, 15, 14, 5, 4, 3, 2, 1] (Γ' := [(7, .int .i64 (((k + 1) : Nat) : Int)), (23, elemPtr (.slice (some ⟨w2.heap.size, 0, none⟩) ((List.replicate d.acc.length false).length) d.acc.length) s), (22, .int .i64 ((s : Nat) : Int)), (21, .slice (some ⟨w2.heap.size, 0, none⟩) ((List.replicate d.acc.length false).length) d.acc.length), (6, .slice (some ⟨w2.heap.size, 0, none⟩) ((List.replicate d.acc.length false).length) d.acc.length), (20, .slice (some ⟨w2.heap.size, 0, none⟩) ((List.replicate d.acc.length false).length) d.acc.length), (19, .int .i64 ((d.acc.length : Nat) : Int)), (16, .bool (decide (((s : Nat) : Int) < ((d.acc.length : Nat) : Int)))), (15, .int .i64 ((d.acc.length : Nat) : Int)), (14, .int .i64 ((s : Nat) : Int)), (5, .int .i64 ((s : Nat) : Int)), (4, .slice oa Xs.length oc), (3, .int .i64 ((d.acc.length : Nat) : Int)), (2, .slice none 0 0), (1, .pointer (some ⟨w.heap.size, 0, none⟩))]) rfl (259 - (k + 1)) (by omega) ⟨k + 1, q.set x true, rfl, H9, (by first | assumption | omega | simp), (by exact hq.step hx hxn), rfl⟩
    · skip
      refine W.exit (X.then_exit (X.then_exit (X.block_exit (X.then_code ?_))))
      refine W.pick [25, 24, 7, 23, 22, 21, 6, 20, 19, 16, 15, 14, 5, 4, 3, 2, 1] (Γ' := [(25, .bool (decide (((k : Nat) : Int) < (259 : Int)))), (24, .int .i64 ((k : Nat) : Int)), (7, .int .i64 ((k : Nat) : Int)), (23, elemPtr (.slice (some ⟨w2.heap.size, 0, none⟩) ((List.replicate d.acc.length false).length) d.acc.length) s), (22, .int .i64 ((s : Nat) : Int)), (21, .slice (some ⟨w2.heap.size, 0, none⟩) ((List.replicate d.acc.length false).length) d.acc.length), (6, .slice (some ⟨w2.heap.size, 0, none⟩) ((List.replicate d.acc.length false).length) d.acc.length), (20, .slice (some ⟨w2.heap.size, 0, none⟩) ((List.replicate d.acc.length false).length) d.acc.length), (19, .int .i64 ((d.acc.length : Nat) : Int)), (16, .bool (decide (((s : Nat) : Int) < ((d.acc.length : Nat) : Int)))), (15, .int .i64 ((d.acc.length : Nat) : Int)), (14, .int .i64 ((s : Nat) : Int)), (5, .int .i64 ((s : Nat) : Int)), (4, .slice oa Xs.length oc), (3, .int .i64 ((d.acc.length : Nat) : Int)), (2, .slice none 0 0), (1, .pointer (some ⟨w.heap.size, 0, none⟩))]) rfl ?_
      refine W.region ?_
      refine WL.op rfl (d_move rfl ?_)
      refine WL.op rfl (d_move rfl ?_)
      refine WL.op rfl (t_buildSlice (T := tyLR) (xs := ([⟨(some ⟨w2.heap.size, 0, none⟩), (List.replicate d.acc.length false).length, d.acc.length, q⟩] : List (LR Bool))) (cs := #[.slice (some ⟨w2.heap.size, 0, none⟩) ((List.replicate d.acc.length false).length) d.acc.length]) rfl Try.underlying29 sz23 rfl rfl rfl rfl (by kernel_rfl) rfl rfl fun w8 u5 => ?_)
      have H10 : UpG w [] w8 [[blk w.heap.size #[.slice dca d.cls.length dcc, .int .i64 d.width, .int .i64 d.start, .slice dna d.next.length dnc, .slice dba d.acc.length dbc] 25], [manyF (inLR tyB 4).row Xs], [rowT tyLR (.slice oa Xs.length oc) 23 Xs], [rowT tyB (.slice (some ⟨w2.heap.size, 0, none⟩) ((List.replicate d.acc.length false).length) d.acc.length) 4 q], [rowT tyLR (.slice (some ⟨w5.heap.size, 0, none⟩) (([⟨(some ⟨w2.heap.size, 0, none⟩), (List.replicate d.acc.length false).length, d.acc.length, q⟩] : List (LR Bool)).length) (([⟨(some ⟨w2.heap.size, 0, none⟩), (List.replicate d.acc.length false).length, d.acc.length, q⟩] : List (LR Bool)).length)) 23 ([⟨(some ⟨w2.heap.size, 0, none⟩), (List.replicate d.acc.length false).length, d.acc.length, q⟩] : List (LR Bool))]] := H7.new' u5
      refine WL.op rfl (t_append (T := tyLR) (xs := Xs) (ys := ([⟨(some ⟨w2.heap.size, 0, none⟩), (List.replicate d.acc.length false).length, d.acc.length, q⟩] : List (LR Bool))) rfl Try.underlying29 sz23 rfl rfl rfl (H10.ownT 2 rfl) (H10.rdT 4 rfl) (by simp only [List.length_singleton]; omega) (by simp only [List.length_singleton]; omega) fun a1 c1 w9 u6 => ?_)
      have H11 : UpG w [] w9 [[blk w.heap.size #[.slice dca d.cls.length dcc, .int .i64 d.width, .int .i64 d.start, .slice dna d.next.length dnc, .slice dba d.acc.length dbc] 25], [manyF (inLR tyB 4).row Xs], [rowT tyLR (.slice a1 ((Xs ++ ([⟨(some ⟨w2.heap.size, 0, none⟩), (List.replicate d.acc.length false).length, d.acc.length, q⟩] : List (LR Bool))).length) c1) 23 (Xs ++ ([⟨(some ⟨w2.heap.size, 0, none⟩), (List.replicate d.acc.length false).length, d.acc.length, q⟩] : List (LR Bool)))], [rowT tyB (.slice (some ⟨w2.heap.size, 0, none⟩) ((List.replicate d.acc.length false).length) d.acc.length) 4 q], []] := (H10.on 2 rfl u6).drop 4
      have H12 : UpG w [] w9 [[blk w.heap.size #[.slice dca d.cls.length dcc, .int .i64 d.width, .int .i64 d.start, .slice dna d.next.length dnc, .slice dba d.acc.length dbc] 25], [manyF (inLR tyB 4).row (Xs ++ [⟨(some ⟨w2.heap.size, 0, none⟩), (List.replicate d.acc.length false).length, d.acc.length, q⟩])], [rowT tyLR (.slice a1 ((Xs ++ ([⟨(some ⟨w2.heap.size, 0, none⟩), (List.replicate d.acc.length false).length, d.acc.length, q⟩] : List (LR Bool))).length) c1) 23 (Xs ++ ([⟨(some ⟨w2.heap.size, 0, none⟩), (List.replicate d.acc.length false).length, d.acc.length, q⟩] : List (LR Bool)))], [], []] := (UpG.absorb (f := (inLR tyB 4).row) (⟨(some ⟨w2.heap.size, 0, none⟩), (List.replicate d.acc.length false).length, d.acc.length, q⟩ : (LR Bool)) H11 1 3 rfl rfl rfl).re rfl
      refine WL.op rfl (d_assign rfl ?_)
      refine WL.done (X.block_normal (X.then_code ?_))
      refine W.pick [4, 47, 46, 45, 44, 25, 24, 7, 23, 22, 21, 6, 20, 19, 16, 15, 14, 5, 3, 2, 1] (Γ' := [(4, .slice a1 ((Xs ++ ([⟨(some ⟨w2.heap.size, 0, none⟩), (List.replicate d.acc.length false).length, d.acc.length, q⟩] : List (LR Bool))).length) c1), (47, .slice a1 ((Xs ++ ([⟨(some ⟨w2.heap.size, 0, none⟩), (List.replicate d.acc.length false).length, d.acc.length, q⟩] : List (LR Bool))).length) c1), (46, .slice (some ⟨w5.heap.size, 0, none⟩) (([⟨(some ⟨w2.heap.size, 0, none⟩), (List.replicate d.acc.length false).length, d.acc.length, q⟩] : List (LR Bool)).length) (([⟨(some ⟨w2.heap.size, 0, none⟩), (List.replicate d.acc.length false).length, d.acc.length, q⟩] : List (LR Bool)).length)), (45, .slice (some ⟨w2.heap.size, 0, none⟩) ((List.replicate d.acc.length false).length) d.acc.length), (44, .slice oa Xs.length oc), (25, .bool (decide (((k : Nat) : Int) < (259 : Int)))), (24, .int .i64 ((k : Nat) : Int)), (7, .int .i64 ((k : Nat) : Int)), (23, elemPtr (.slice (some ⟨w2.heap.size, 0, none⟩) ((List.replicate d.acc.length false).length) d.acc.length) s), (22, .int .i64 ((s : Nat) : Int)), (21, .slice (some ⟨w2.heap.size, 0, none⟩) ((List.replicate d.acc.length false).length) d.acc.length), (6, .slice (some ⟨w2.heap.size, 0, none⟩) ((List.replicate d.acc.length false).length) d.acc.length), (20, .slice (some ⟨w2.heap.size, 0, none⟩) ((List.replicate d.acc.length false).length) d.acc.length), (19, .int .i64 ((d.acc.length : Nat) : Int)), (16, .bool (decide (((s : Nat) : Int) < ((d.acc.length : Nat) : Int)))), (15, .int .i64 ((d.acc.length : Nat) : Int)), (14, .int .i64 ((s : Nat) : Int)), (5, .int .i64 ((s : Nat) : Int)), (3, .int .i64 ((d.acc.length : Nat) : Int)), (2, .slice none 0 0), (1, .pointer (some ⟨w.heap.size, 0, none⟩))]) rfl ?_
      refine W.region ?_
      refine WL.op rfl (d_move rfl ?_)
      refine WL.op rfl (d_add rfl rfl (by omega) (by omega) ?_)
      refine WL.op rfl (d_assign rfl ?_)
      refine WL.done ?_
      exact X.next [5, 4, 3, 2, 1] (Γ' := [(5, .int .i64 (((s + 1) : Nat) : Int)), (4, .slice a1 ((Xs ++ ([⟨(some ⟨w2.heap.size, 0, none⟩), (List.replicate d.acc.length false).length, d.acc.length, q⟩] : List (LR Bool))).length) c1), (3, .int .i64 ((d.acc.length : Nat) : Int)), (2, .slice none 0 0), (1, .pointer (some ⟨w.heap.size, 0, none⟩))]) rfl (d.acc.length - (s + 1)) (by omega) ⟨s + 1, Xs ++ ([⟨(some ⟨w2.heap.size, 0, none⟩), (List.replicate d.acc.length false).length, d.acc.length, q⟩] : List (LR Bool)), a1, c1, rfl, (H12.re rfl), (by first | assumption | omega | simp), (by exact hX.step hq (by omega)), rfl⟩
  · skip
    refine W.exit (X.then_exit (X.then_exit (X.block_exit (X.then_code ?_))))
    refine W.seq ?_
    refine W.seq ?_
    refine W.region ?_
    refine WL.op rfl (d_assign rfl ?_)
    refine WL.done (X.then_code ?_)
    refine W.block ?_
    refine W.pick [8, 4, 3, 2] (Γ' := [(8, .int .i64 0), (4, .slice oa Xs.length oc), (3, .int .i64 ((d.acc.length : Nat) : Int)), (2, .slice none 0 0)]) rfl ?_
    refine W.loop (fun m Γ' w' => ∃ mm : Nat, ∃ Y : List (LR Bool), Γ' = [(8, .int .i64 ((mm : Nat) : Int)), (4, .slice oa Xs.length oc), (3, .int .i64 ((d.acc.length : Nat) : Int)), (2, .slice none 0 0)] ∧ UpG w [] w' [[blk w.heap.size #[.slice dca d.cls.length dcc, .int .i64 d.width, .int .i64 d.start, .slice dna d.next.length dnc, .slice dba d.acc.length dbc] 25], [manyF (inLR tyB 4).row Y], [rowT tyLR (.slice oa Xs.length oc) 23 Y]] ∧ (mm ≤ d.acc.length) ∧ (CmI d Y mm 0 0) ∧ m = d.acc.length - mm) (d.acc.length - 0) ⟨0, Xs, rfl, H4, (by first | assumption | omega | simp), (by exact hX.done (by omega)), rfl⟩ ?_
    rintro m3 Γ3 w10 ⟨mm, Y, rfl, H13, hm, hY, rfl⟩
    refine W.seq ?_
    refine W.seq ?_
    refine W.region ?_
    refine WL.op rfl (d_move rfl ?_)
    refine WL.op rfl (d_move rfl ?_)
    refine WL.op rfl (d_cmp (decide (((mm : Nat) : Int) < ((d.acc.length : Nat) : Int))) rfl rfl rfl ?_)
    refine WL.done (X.then_code ?_)
    refine W.ite (p := ((mm : Nat) : Int) < ((d.acc.length : Nat) : Int)) rfl (fun c51 => ?_) (fun c51 => ?_)
    · skip
      refine W.skip (X.then_code ?_)
      refine W.seq ?_
      refine W.block ?_
      refine W.seq ?_
      refine W.region ?_
      refine WL.op rfl (d_assign rfl ?_)
      refine WL.done (X.then_code ?_)
      refine W.block ?_
      refine W.pick [9, 50, 49, 48, 8, 4, 3, 2] (Γ' := [(9, .int .i64 0), (50, .bool (decide (((mm : Nat) : Int) < ((d.acc.length : Nat) : Int)))), (49, .int .i64 ((d.acc.length : Nat) : Int)), (48, .int .i64 ((mm : Nat) : Int)), (8, .int .i64 ((mm : Nat) : Int)), (4, .slice oa Xs.length oc), (3, .int .i64 ((d.acc.length : Nat) : Int)), (2, .slice none 0 0)]) rfl ?_
      refine W.loop (fun m Γ' w' => ∃ i : Nat, ∃ Z : List (LR Bool), Γ' = [(9, .int .i64 ((i : Nat) : Int)), (50, .bool (decide (((mm : Nat) : Int) < ((d.acc.length : Nat) : Int)))), (49, .int .i64 ((d.acc.length : Nat) : Int)), (48, .int .i64 ((mm : Nat) : Int)), (8, .int .i64 ((mm : Nat) : Int)), (4, .slice oa Xs.length oc), (3, .int .i64 ((d.acc.length : Nat) : Int)), (2, .slice none 0 0)] ∧ UpG w [] w' [[blk w.heap.size #[.slice dca d.cls.length dcc, .int .i64 d.width, .int .i64 d.start, .slice dna d.next.length dnc, .slice dba d.acc.length dbc] 25], [manyF (inLR tyB 4).row Z], [rowT tyLR (.slice oa Xs.length oc) 23 Z]] ∧ (i ≤ d.acc.length) ∧ (CmI d Z mm i 0) ∧ m = d.acc.length - i) (d.acc.length - 0) ⟨0, Y, rfl, H13, (by first | assumption | omega | simp), (by exact hY), rfl⟩ ?_
      rintro m4 Γ4 w11 ⟨i, Z, rfl, H14, hi, hZ, rfl⟩
      refine W.seq ?_
      refine W.seq ?_
      refine W.region ?_
      refine WL.op rfl (d_move rfl ?_)
      refine WL.op rfl (d_move rfl ?_)
      refine WL.op rfl (d_cmp (decide (((i : Nat) : Int) < ((d.acc.length : Nat) : Int))) rfl rfl rfl ?_)
      refine WL.done (X.then_code ?_)
      refine W.ite (p := ((i : Nat) : Int) < ((d.acc.length : Nat) : Int)) rfl (fun c52 => ?_) (fun c52 => ?_)
      · skip
        refine W.skip (X.then_code ?_)
        refine W.seq ?_
        refine W.block ?_
        refine W.seq ?_
        refine W.region ?_
        refine WL.op rfl (d_assign rfl ?_)
        refine WL.done (X.then_code ?_)
        refine W.block ?_
        refine W.pick [10, 55, 54, 53, 9, 50, 49, 48, 8, 4, 3, 2] (Γ' := [(10, .int .i64 0), (55, .bool (decide (((i : Nat) : Int) < ((d.acc.length : Nat) : Int)))), (54, .int .i64 ((d.acc.length : Nat) : Int)), (53, .int .i64 ((i : Nat) : Int)), (9, .int .i64 ((i : Nat) : Int)), (50, .bool (decide (((mm : Nat) : Int) < ((d.acc.length : Nat) : Int)))), (49, .int .i64 ((d.acc.length : Nat) : Int)), (48, .int .i64 ((mm : Nat) : Int)), (8, .int .i64 ((mm : Nat) : Int)), (4, .slice oa Xs.length oc), (3, .int .i64 ((d.acc.length : Nat) : Int)), (2, .slice none 0 0)]) rfl ?_
        refine W.loop (fun m Γ' w' => ∃ k : Nat, ∃ U : List (LR Bool), Γ' = [(10, .int .i64 ((k : Nat) : Int)), (55, .bool (decide (((i : Nat) : Int) < ((d.acc.length : Nat) : Int)))), (54, .int .i64 ((d.acc.length : Nat) : Int)), (53, .int .i64 ((i : Nat) : Int)), (9, .int .i64 ((i : Nat) : Int)), (50, .bool (decide (((mm : Nat) : Int) < ((d.acc.length : Nat) : Int)))), (49, .int .i64 ((d.acc.length : Nat) : Int)), (48, .int .i64 ((mm : Nat) : Int)), (8, .int .i64 ((mm : Nat) : Int)), (4, .slice oa Xs.length oc), (3, .int .i64 ((d.acc.length : Nat) : Int)), (2, .slice none 0 0)] ∧ UpG w [] w' [[blk w.heap.size #[.slice dca d.cls.length dcc, .int .i64 d.width, .int .i64 d.start, .slice dna d.next.length dnc, .slice dba d.acc.length dbc] 25], [manyF (inLR tyB 4).row U], [rowT tyLR (.slice oa Xs.length oc) 23 U]] ∧ (k ≤ d.acc.length) ∧ (CmI d U mm i k) ∧ m = d.acc.length - k) (d.acc.length - 0) ⟨0, Z, rfl, H14, (by first | assumption | omega | simp), (by exact hZ), rfl⟩ ?_
        rintro m5 Γ5 w12 ⟨k_1, U, rfl, H15, hku, hU, rfl⟩
        have hri1 := hU.row i (by omega)
        have hri2 := hU.row mm (by omega)
        have hUl := hU.len
        refine W.seq ?_
        refine W.seq ?_
        refine W.region ?_
        refine WL.op rfl (d_move rfl ?_)
        refine WL.op rfl (d_move rfl ?_)
        refine WL.op rfl (d_cmp (decide (((k_1 : Nat) : Int) < ((d.acc.length : Nat) : Int))) rfl rfl rfl ?_)
        refine WL.op rfl (d_move rfl ?_)
        refine WL.part 61 (p := ((k_1 : Nat) : Int) < ((d.acc.length : Nat) : Int)) rfl (fun g53 => ?_) (fun g53 => ?_)
        · skip
          refine WL.opG rfl rfl rfl (d_move rfl ?_)
          refine WL.opG rfl rfl rfl (d_move rfl ?_)
          refine WL.opG rfl rfl rfl (t_addr1 i (T := tyLR) rfl Try.underlying29 sz23 rfl rfl (H15.rdT 2 rfl) rfl (by omega) ?_)
          refine WL.opG rfl rfl rfl (t_load1 i lr0 (T := tyLR) rfl Try.underlying23 rfl rfl (H15.rdT 2 rfl) (by omega) rfl ?_)
          refine WL.opG rfl rfl rfl (d_move rfl ?_)
          refine WL.opG rfl rfl rfl (t_addr1 mm (T := tyB) rfl Try.underlying23 sz4 rfl rfl (show RdT tyB w12 (.slice ((U.getD i lr0).a) ((U.getD i lr0).n) ((U.getD i lr0).c)) ((U.getD i lr0).xs) from (Inn.own (H15.hpOf 1 rfl)).get lr0 i (by omega)) rfl (by omega) ?_)
          refine WL.opG rfl rfl rfl (t_load1 mm false (T := tyB) rfl Try.underlying4 rfl rfl (show RdT tyB w12 (.slice ((U.getD i lr0).a) ((U.getD i lr0).n) ((U.getD i lr0).c)) ((U.getD i lr0).xs) from (Inn.own (H15.hpOf 1 rfl)).get lr0 i (by omega)) (by omega) rfl ?_)
          refine WL.op rfl (d_pick rfl rfl ?_)
          refine WL.done (X.then_code ?_)
          refine W.pick [69, 68, 67, 66, 65, 64, 63, 62, 61, 60, 59, 58, 10, 55, 54, 53, 9, 50, 49, 48, 8, 4, 3, 2] (Γ' := [(69, .bool (((U.getD i lr0).xs).getD mm false)), (68, .bool (((U.getD i lr0).xs).getD mm false)), (67, elemPtr (.slice ((U.getD i lr0).a) ((U.getD i lr0).n) ((U.getD i lr0).c)) mm), (66, .int .i64 ((mm : Nat) : Int)), (65, .slice ((U.getD i lr0).a) ((U.getD i lr0).n) ((U.getD i lr0).c)), (64, elemPtr (.slice oa Xs.length oc) i), (63, .int .i64 ((i : Nat) : Int)), (62, .slice oa Xs.length oc), (61, .bool true), (60, .bool (decide (((k_1 : Nat) : Int) < ((d.acc.length : Nat) : Int)))), (59, .int .i64 ((d.acc.length : Nat) : Int)), (58, .int .i64 ((k_1 : Nat) : Int)), (10, .int .i64 ((k_1 : Nat) : Int)), (55, .bool (decide (((i : Nat) : Int) < ((d.acc.length : Nat) : Int)))), (54, .int .i64 ((d.acc.length : Nat) : Int)), (53, .int .i64 ((i : Nat) : Int)), (9, .int .i64 ((i : Nat) : Int)), (50, .bool (decide (((mm : Nat) : Int) < ((d.acc.length : Nat) : Int)))), (49, .int .i64 ((d.acc.length : Nat) : Int)), (48, .int .i64 ((mm : Nat) : Int)), (8, .int .i64 ((mm : Nat) : Int)), (4, .slice oa Xs.length oc), (3, .int .i64 ((d.acc.length : Nat) : Int)), (2, .slice none 0 0)]) rfl ?_
          refine W.iteB (b := ((U.getD i lr0).xs).getD mm false) rfl (fun c53 => ?_) (fun c53 => ?_)
          · skip
            refine W.skip (X.then_code ?_)
            refine W.pick [69, 68, 67, 66, 65, 64, 63, 62, 61, 60, 59, 58, 10, 55, 54, 53, 9, 50, 49, 48, 8, 4, 3, 2] (Γ' := [(69, .bool (((U.getD i lr0).xs).getD mm false)), (68, .bool (((U.getD i lr0).xs).getD mm false)), (67, elemPtr (.slice ((U.getD i lr0).a) ((U.getD i lr0).n) ((U.getD i lr0).c)) mm), (66, .int .i64 ((mm : Nat) : Int)), (65, .slice ((U.getD i lr0).a) ((U.getD i lr0).n) ((U.getD i lr0).c)), (64, elemPtr (.slice oa Xs.length oc) i), (63, .int .i64 ((i : Nat) : Int)), (62, .slice oa Xs.length oc), (61, .bool true), (60, .bool (decide (((k_1 : Nat) : Int) < ((d.acc.length : Nat) : Int)))), (59, .int .i64 ((d.acc.length : Nat) : Int)), (58, .int .i64 ((k_1 : Nat) : Int)), (10, .int .i64 ((k_1 : Nat) : Int)), (55, .bool (decide (((i : Nat) : Int) < ((d.acc.length : Nat) : Int)))), (54, .int .i64 ((d.acc.length : Nat) : Int)), (53, .int .i64 ((i : Nat) : Int)), (9, .int .i64 ((i : Nat) : Int)), (50, .bool (decide (((mm : Nat) : Int) < ((d.acc.length : Nat) : Int)))), (49, .int .i64 ((d.acc.length : Nat) : Int)), (48, .int .i64 ((mm : Nat) : Int)), (8, .int .i64 ((mm : Nat) : Int)), (4, .slice oa Xs.length oc), (3, .int .i64 ((d.acc.length : Nat) : Int)), (2, .slice none 0 0)]) rfl ?_
            refine W.seq ?_
            refine W.block ?_
            refine W.regionD mixed (by kernel_rfl) fun hok2 w13 k2 => ?_
            have H16 : UpG w [] w13 [[blk w.heap.size #[.slice dca d.cls.length dcc, .int .i64 d.width, .int .i64 d.start, .slice dna d.next.length dnc, .slice dba d.acc.length dbc] 25], [manyF (inLR tyB 4).row U], [rowT tyLR (.slice oa Xs.length oc) 23 U]] := H15.kept k2
            refine WD.take hok2 0 (.slice oa Xs.length oc) (fun _ => True) rfl rfl rfl rfl rfl trivial (.inl ⟨rfl, fun _ _ => d_move rfl ⟨rfl, rfl⟩⟩) ?_
            refine WD.take hok2 1 (.int .i64 ((i : Nat) : Int)) (fun _ => True) rfl rfl rfl rfl rfl trivial (.inl ⟨rfl, fun _ _ => d_move rfl ⟨rfl, rfl⟩⟩) ?_
            refine WD.take hok2 2 (elemPtr (.slice oa Xs.length oc) i) (fun w' => RdT tyLR w' (.slice oa Xs.length oc) U) rfl rfl rfl rfl rfl (H16.rdT 2 rfl) (.inl ⟨rfl, fun _ hC => t_addr1 i (T := tyLR) rfl Try.underlying29 sz23 rfl rfl hC rfl (by omega) ⟨rfl, rfl⟩⟩) ?_
            refine WD.take hok2 3 (.slice ((U.getD i lr0).a) ((U.getD i lr0).n) ((U.getD i lr0).c)) (fun w' => RdT tyLR w' (.slice oa Xs.length oc) U) rfl rfl rfl rfl rfl (H16.rdT 2 rfl) (.inl ⟨rfl, fun _ hC => t_load1 i lr0 (T := tyLR) rfl Try.underlying23 rfl rfl hC (by omega) rfl ⟨rfl, rfl⟩⟩) ?_
            refine WD.take hok2 4 (.int .i64 ((k_1 : Nat) : Int)) (fun _ => True) rfl rfl rfl rfl rfl trivial (.inl ⟨rfl, fun _ _ => d_move rfl ⟨rfl, rfl⟩⟩) ?_
            refine WD.take hok2 5 (.slice oa Xs.length oc) (fun _ => True) rfl rfl rfl rfl rfl trivial (.inl ⟨rfl, fun _ _ => d_move rfl ⟨rfl, rfl⟩⟩) ?_
            refine WD.take hok2 6 (.int .i64 ((i : Nat) : Int)) (fun _ => True) rfl rfl rfl rfl rfl trivial (.inl ⟨rfl, fun _ _ => d_move rfl ⟨rfl, rfl⟩⟩) ?_
            refine WD.take hok2 7 (elemPtr (.slice oa Xs.length oc) i) (fun w' => RdT tyLR w' (.slice oa Xs.length oc) U) rfl rfl rfl rfl rfl (H16.rdT 2 rfl) (.inl ⟨rfl, fun _ hC => t_addr1 i (T := tyLR) rfl Try.underlying29 sz23 rfl rfl hC rfl (by omega) ⟨rfl, rfl⟩⟩) ?_
            refine WD.take hok2 8 (.slice ((U.getD i lr0).a) ((U.getD i lr0).n) ((U.getD i lr0).c)) (fun w' => RdT tyLR w' (.slice oa Xs.length oc) U) rfl rfl rfl rfl rfl (H16.rdT 2 rfl) (.inl ⟨rfl, fun _ hC => t_load1 i lr0 (T := tyLR) rfl Try.underlying23 rfl rfl hC (by omega) rfl ⟨rfl, rfl⟩⟩) ?_
            refine WD.take hok2 9 (.int .i64 ((k_1 : Nat) : Int)) (fun _ => True) rfl rfl rfl rfl rfl trivial (.inl ⟨rfl, fun _ _ => d_move rfl ⟨rfl, rfl⟩⟩) ?_
            refine WD.take hok2 10 (elemPtr (.slice ((U.getD i lr0).a) ((U.getD i lr0).n) ((U.getD i lr0).c)) k_1) (fun w' => RdT tyB w' (.slice ((U.getD i lr0).a) ((U.getD i lr0).n) ((U.getD i lr0).c)) ((U.getD i lr0).xs)) rfl rfl rfl rfl rfl (show RdT tyB w13 (.slice ((U.getD i lr0).a) ((U.getD i lr0).n) ((U.getD i lr0).c)) ((U.getD i lr0).xs) from (Inn.own (H16.hpOf 1 rfl)).get lr0 i (by omega)) (.inl ⟨rfl, fun _ hC => t_addr1 k_1 (T := tyB) rfl Try.underlying23 sz4 rfl rfl hC rfl (by omega) ⟨rfl, rfl⟩⟩) ?_
            refine WD.take hok2 11 (.bool (((U.getD i lr0).xs).getD k_1 false)) (fun w' => RdT tyB w' (.slice ((U.getD i lr0).a) ((U.getD i lr0).n) ((U.getD i lr0).c)) ((U.getD i lr0).xs)) rfl rfl rfl rfl rfl (show RdT tyB w13 (.slice ((U.getD i lr0).a) ((U.getD i lr0).n) ((U.getD i lr0).c)) ((U.getD i lr0).xs) from (Inn.own (H16.hpOf 1 rfl)).get lr0 i (by omega)) (.inl ⟨rfl, fun _ hC => t_load1 k_1 false (T := tyB) rfl Try.underlying4 rfl rfl hC (by omega) rfl ⟨rfl, rfl⟩⟩) ?_
            refine WD.take hok2 12 (.bool (((U.getD i lr0).xs).getD k_1 false)) (fun _ => True) rfl rfl rfl rfl rfl trivial (.inl ⟨rfl, fun _ _ => d_move rfl ⟨rfl, rfl⟩⟩) ?_
            refine WD.partB 84 (b := ((U.getD i lr0).xs).getD k_1 false) rfl (fun g54 => ?_) (fun g54 => ?_)
            · skip
              refine WD.take hok2 13 undef (fun _ => True) rfl rfl rfl rfl rfl trivial (.inr ⟨rfl, rfl⟩) ?_
              refine WD.take hok2 14 undef (fun _ => True) rfl rfl rfl rfl rfl trivial (.inr ⟨rfl, rfl⟩) ?_
              refine WD.take hok2 15 undef (fun _ => True) rfl rfl rfl rfl rfl trivial (.inr ⟨rfl, rfl⟩) ?_
              refine WD.take hok2 16 undef (fun _ => True) rfl rfl rfl rfl rfl trivial (.inr ⟨rfl, rfl⟩) ?_
              refine WD.take hok2 17 undef (fun _ => True) rfl rfl rfl rfl rfl trivial (.inr ⟨rfl, rfl⟩) ?_
              refine WD.take hok2 18 undef (fun _ => True) rfl rfl rfl rfl rfl trivial (.inr ⟨rfl, rfl⟩) ?_
              refine WD.take hok2 19 undef (fun _ => True) rfl rfl rfl rfl rfl trivial (.inr ⟨rfl, rfl⟩) ?_
              refine WD.take hok2 20 (.bool true) (fun _ => True) rfl rfl rfl rfl rfl trivial (.inl ⟨rfl, fun _ _ => d_pick rfl rfl ⟨rfl, rfl⟩⟩) ?_
              refine WD.take hok2 21 (elemPtr (.slice ((U.getD i lr0).a) ((U.getD i lr0).n) ((U.getD i lr0).c)) k_1) (fun w' => RdT tyB w' (.slice ((U.getD i lr0).a) ((U.getD i lr0).n) ((U.getD i lr0).c)) ((U.getD i lr0).xs)) rfl rfl rfl rfl rfl (show RdT tyB w13 (.slice ((U.getD i lr0).a) ((U.getD i lr0).n) ((U.getD i lr0).c)) ((U.getD i lr0).xs) from (Inn.own (H16.hpOf 1 rfl)).get lr0 i (by omega)) (.inl ⟨rfl, fun _ hC => t_addr1 k_1 (T := tyB) rfl Try.underlying23 sz4 rfl rfl hC rfl (by omega) ⟨rfl, rfl⟩⟩) ?_
              have H17 : UpG w [] w13 [[blk w.heap.size #[.slice dca d.cls.length dcc, .int .i64 d.width, .int .i64 d.start, .slice dna d.next.length dnc, .slice dba d.acc.length dbc] 25], [manyF (inLR tyB 4).row (U.eraseIdx i)], [rowT tyLR (.slice oa Xs.length oc) 23 U], [rowT tyB (.slice ((U.getD i lr0).a) ((U.getD i lr0).n) ((U.getD i lr0).c)) 4 ((U.getD i lr0).xs)]] := H16.takeOut (f := (inLR tyB 4).row) lr0 1 i rfl (by omega)
              refine WD.loud hok2 22 rfl (⟨_, [], rfl, rfl, rfl, rfl, rfl, rfl, t_store1 k_1 true (T := tyB) (e := 4) rfl sz4 rfl rfl rfl (H17.ownT 3 rfl) (by omega) fun w14 u7 => ?_⟩)
              have H18 : UpG w [] w14 [[blk w.heap.size #[.slice dca d.cls.length dcc, .int .i64 d.width, .int .i64 d.start, .slice dna d.next.length dnc, .slice dba d.acc.length dbc] 25], [manyF (inLR tyB 4).row (U.eraseIdx i)], [rowT tyLR (.slice oa Xs.length oc) 23 U], [rowT tyB (.slice ((U.getD i lr0).a) ((U.getD i lr0).n) ((U.getD i lr0).c)) 4 (((U.getD i lr0).xs).set k_1 true)]] := H17.on 3 rfl u7
              have H19 : UpG w [] w14 [[blk w.heap.size #[.slice dca d.cls.length dcc, .int .i64 d.width, .int .i64 d.start, .slice dna d.next.length dnc, .slice dba d.acc.length dbc] 25], [manyF (inLR tyB 4).row (U.set i ⟨(U.getD i lr0).a, (U.getD i lr0).n, (U.getD i lr0).c, ((U.getD i lr0).xs).set k_1 true⟩)], [rowT tyLR (.slice oa Xs.length oc) 23 U], []] := (H18.putBack (f := (inLR tyB 4).row) ⟨(U.getD i lr0).a, (U.getD i lr0).n, (U.getD i lr0).c, ((U.getD i lr0).xs).set k_1 true⟩ 1 3 i rfl rfl rfl (by omega)).re rfl
              have H20 : UpG w [] w14 [[blk w.heap.size #[.slice dca d.cls.length dcc, .int .i64 d.width, .int .i64 d.start, .slice dna d.next.length dnc, .slice dba d.acc.length dbc] 25], [manyF (inLR tyB 4).row (U.set i ⟨(U.getD i lr0).a, (U.getD i lr0).n, (U.getD i lr0).c, ((U.getD i lr0).xs).set k_1 true⟩)], [rowT tyLR (.slice oa Xs.length oc) 23 (U.set i ⟨(U.getD i lr0).a, (U.getD i lr0).n, (U.getD i lr0).c, ((U.getD i lr0).xs).set k_1 true⟩)], []] := H19.recast (((U.getD i lr0).xs).set k_1 true) 2 i rfl (by omega)
              refine ⟨trivial, ?_⟩
              refine WD.done hok2 rfl (X.block_normal (X.then_code ?_))
              refine W.pick [93, 92, 91, 90, 89, 88, 87, 86, 85, 84, 83, 82, 81, 80, 79, 78, 77, 76, 75, 74, 73, 72, 69, 68, 67, 66, 65, 64, 63, 62, 61, 60, 59, 58, 10, 55, 54, 53, 9, 50, 49, 48, 8, 4, 3, 2] (Γ' := [(93, elemPtr (.slice ((U.getD i lr0).a) ((U.getD i lr0).n) ((U.getD i lr0).c)) k_1), (92, .bool true), (91, undef), (90, undef), (89, undef), (88, undef), (87, undef), (86, undef), (85, undef), (84, .bool true), (83, .bool (((U.getD i lr0).xs).getD k_1 false)), (82, elemPtr (.slice ((U.getD i lr0).a) ((U.getD i lr0).n) ((U.getD i lr0).c)) k_1), (81, .int .i64 ((k_1 : Nat) : Int)), (80, .slice ((U.getD i lr0).a) ((U.getD i lr0).n) ((U.getD i lr0).c)), (79, elemPtr (.slice oa Xs.length oc) i), (78, .int .i64 ((i : Nat) : Int)), (77, .slice oa Xs.length oc), (76, .int .i64 ((k_1 : Nat) : Int)), (75, .slice ((U.getD i lr0).a) ((U.getD i lr0).n) ((U.getD i lr0).c)), (74, elemPtr (.slice oa Xs.length oc) i), (73, .int .i64 ((i : Nat) : Int)), (72, .slice oa Xs.length oc), (69, .bool (((U.getD i lr0).xs).getD mm false)), (68, .bool (((U.getD i lr0).xs).getD mm false)), (67, elemPtr (.slice ((U.getD i lr0).a) ((U.getD i lr0).n) ((U.getD i lr0).c)) mm), (66, .int .i64 ((mm : Nat) : Int)), (65, .slice ((U.getD i lr0).a) ((U.getD i lr0).n) ((U.getD i lr0).c)), (64, elemPtr (.slice oa Xs.length oc) i), (63, .int .i64 ((i : Nat) : Int)), (62, .slice oa Xs.length oc), (61, .bool true), (60, .bool (decide (((k_1 : Nat) : Int) < ((d.acc.length : Nat) : Int)))), (59, .int .i64 ((d.acc.length : Nat) : Int)), (58, .int .i64 ((k_1 : Nat) : Int)), (10, .int .i64 ((k_1 : Nat) : Int)), (55, .bool (decide (((i : Nat) : Int) < ((d.acc.length : Nat) : Int)))), (54, .int .i64 ((d.acc.length : Nat) : Int)), (53, .int .i64 ((i : Nat) : Int)), (9, .int .i64 ((i : Nat) : Int)), (50, .bool (decide (((mm : Nat) : Int) < ((d.acc.length : Nat) : Int)))), (49, .int .i64 ((d.acc.length : Nat) : Int)), (48, .int .i64 ((mm : Nat) : Int)), (8, .int .i64 ((mm : Nat) : Int)), (4, .slice oa Xs.length oc), (3, .int .i64 ((d.acc.length : Nat) : Int)), (2, .slice none 0 0)]) rfl ?_
              refine W.region ?_
              refine WL.op rfl (d_move rfl ?_)
              refine WL.op rfl (d_add rfl rfl (by omega) (by omega) ?_)
              refine WL.op rfl (d_assign rfl ?_)
              refine WL.done ?_
              exact X.next [10, 55, 54, 53, 9, 50, 49, 48, 8, 4, 3, 2] (Γ' := [(10, .int .i64 (((k_1 + 1) : Nat) : Int)), (55, .bool (decide (((i : Nat) : Int) < ((d.acc.length : Nat) : Int)))), (54, .int .i64 ((d.acc.length : Nat) : Int)), (53, .int .i64 ((i : Nat) : Int)), (9, .int .i64 ((i : Nat) : Int)), (50, .bool (decide (((mm : Nat) : Int) < ((d.acc.length : Nat) : Int)))), (49, .int .i64 ((d.acc.length : Nat) : Int)), (48, .int .i64 ((mm : Nat) : Int)), (8, .int .i64 ((mm : Nat) : Int)), (4, .slice oa Xs.length oc), (3, .int .i64 ((d.acc.length : Nat) : Int)), (2, .slice none 0 0)]) rfl (d.acc.length - (k_1 + 1)) (by omega) ⟨k_1 + 1, U.set i ⟨(U.getD i lr0).a, (U.getD i lr0).n, (U.getD i lr0).c, ((U.getD i lr0).xs).set k_1 true⟩, rfl, (H20.re rfl), (by first | assumption | omega | simp), (by first | exact hU.step (by omega) (by omega) (by omega) c53 (by unfold cellB; rw [g54]; rfl) | exact hU.step (by omega) (by omega) (by omega) c53 (by unfold cellB; rw [Bool.eq_false_iff.2 g54]; rfl)), rfl⟩
            · skip
              refine WD.take hok2 13 (.slice oa Xs.length oc) (fun _ => True) rfl rfl rfl rfl rfl trivial (.inl ⟨rfl, fun _ _ => d_move rfl ⟨rfl, rfl⟩⟩) ?_
              refine WD.take hok2 14 (.int .i64 ((mm : Nat) : Int)) (fun _ => True) rfl rfl rfl rfl rfl trivial (.inl ⟨rfl, fun _ _ => d_move rfl ⟨rfl, rfl⟩⟩) ?_
              refine WD.take hok2 15 (elemPtr (.slice oa Xs.length oc) mm) (fun w' => RdT tyLR w' (.slice oa Xs.length oc) U) rfl rfl rfl rfl rfl (H16.rdT 2 rfl) (.inl ⟨rfl, fun _ hC => t_addr1 mm (T := tyLR) rfl Try.underlying29 sz23 rfl rfl hC rfl (by omega) ⟨rfl, rfl⟩⟩) ?_
              refine WD.take hok2 16 (.slice ((U.getD mm lr0).a) ((U.getD mm lr0).n) ((U.getD mm lr0).c)) (fun w' => RdT tyLR w' (.slice oa Xs.length oc) U) rfl rfl rfl rfl rfl (H16.rdT 2 rfl) (.inl ⟨rfl, fun _ hC => t_load1 mm lr0 (T := tyLR) rfl Try.underlying23 rfl rfl hC (by omega) rfl ⟨rfl, rfl⟩⟩) ?_
              refine WD.take hok2 17 (.int .i64 ((k_1 : Nat) : Int)) (fun _ => True) rfl rfl rfl rfl rfl trivial (.inl ⟨rfl, fun _ _ => d_move rfl ⟨rfl, rfl⟩⟩) ?_
              refine WD.take hok2 18 (elemPtr (.slice ((U.getD mm lr0).a) ((U.getD mm lr0).n) ((U.getD mm lr0).c)) k_1) (fun w' => RdT tyB w' (.slice ((U.getD mm lr0).a) ((U.getD mm lr0).n) ((U.getD mm lr0).c)) ((U.getD mm lr0).xs)) rfl rfl rfl rfl rfl (show RdT tyB w13 (.slice ((U.getD mm lr0).a) ((U.getD mm lr0).n) ((U.getD mm lr0).c)) ((U.getD mm lr0).xs) from (Inn.own (H16.hpOf 1 rfl)).get lr0 mm (by omega)) (.inl ⟨rfl, fun _ hC => t_addr1 k_1 (T := tyB) rfl Try.underlying23 sz4 rfl rfl hC rfl (by omega) ⟨rfl, rfl⟩⟩) ?_
              refine WD.take hok2 19 (.bool (((U.getD mm lr0).xs).getD k_1 false)) (fun w' => RdT tyB w' (.slice ((U.getD mm lr0).a) ((U.getD mm lr0).n) ((U.getD mm lr0).c)) ((U.getD mm lr0).xs)) rfl rfl rfl rfl rfl (show RdT tyB w13 (.slice ((U.getD mm lr0).a) ((U.getD mm lr0).n) ((U.getD mm lr0).c)) ((U.getD mm lr0).xs) from (Inn.own (H16.hpOf 1 rfl)).get lr0 mm (by omega)) (.inl ⟨rfl, fun _ hC => t_load1 k_1 false (T := tyB) rfl Try.underlying4 rfl rfl hC (by omega) rfl ⟨rfl, rfl⟩⟩) ?_
              refine WD.take hok2 20 (.bool (((U.getD mm lr0).xs).getD k_1 false)) (fun _ => True) rfl rfl rfl rfl rfl trivial (.inl ⟨rfl, fun _ _ => d_pick rfl rfl ⟨rfl, rfl⟩⟩) ?_
              refine WD.take hok2 21 (elemPtr (.slice ((U.getD i lr0).a) ((U.getD i lr0).n) ((U.getD i lr0).c)) k_1) (fun w' => RdT tyB w' (.slice ((U.getD i lr0).a) ((U.getD i lr0).n) ((U.getD i lr0).c)) ((U.getD i lr0).xs)) rfl rfl rfl rfl rfl (show RdT tyB w13 (.slice ((U.getD i lr0).a) ((U.getD i lr0).n) ((U.getD i lr0).c)) ((U.getD i lr0).xs) from (Inn.own (H16.hpOf 1 rfl)).get lr0 i (by omega)) (.inl ⟨rfl, fun _ hC => t_addr1 k_1 (T := tyB) rfl Try.underlying23 sz4 rfl rfl hC rfl (by omega) ⟨rfl, rfl⟩⟩) ?_
              have H21 : UpG w [] w13 [[blk w.heap.size #[.slice dca d.cls.length dcc, .int .i64 d.width, .int .i64 d.start, .slice dna d.next.length dnc, .slice dba d.acc.length dbc] 25], [manyF (inLR tyB 4).row (U.eraseIdx i)], [rowT tyLR (.slice oa Xs.length oc) 23 U], [rowT tyB (.slice ((U.getD i lr0).a) ((U.getD i lr0).n) ((U.getD i lr0).c)) 4 ((U.getD i lr0).xs)]] := H16.takeOut (f := (inLR tyB 4).row) lr0 1 i rfl (by omega)
              refine WD.loud hok2 22 rfl (⟨_, [], rfl, rfl, rfl, rfl, rfl, rfl, t_store1 k_1 (((U.getD mm lr0).xs).getD k_1 false) (T := tyB) (e := 4) rfl sz4 rfl rfl rfl (H21.ownT 3 rfl) (by omega) fun w15 u8 => ?_⟩)
              have H22 : UpG w [] w15 [[blk w.heap.size #[.slice dca d.cls.length dcc, .int .i64 d.width, .int .i64 d.start, .slice dna d.next.length dnc, .slice dba d.acc.length dbc] 25], [manyF (inLR tyB 4).row (U.eraseIdx i)], [rowT tyLR (.slice oa Xs.length oc) 23 U], [rowT tyB (.slice ((U.getD i lr0).a) ((U.getD i lr0).n) ((U.getD i lr0).c)) 4 (((U.getD i lr0).xs).set k_1 (((U.getD mm lr0).xs).getD k_1 false))]] := H21.on 3 rfl u8
              have H23 : UpG w [] w15 [[blk w.heap.size #[.slice dca d.cls.length dcc, .int .i64 d.width, .int .i64 d.start, .slice dna d.next.length dnc, .slice dba d.acc.length dbc] 25], [manyF (inLR tyB 4).row (U.set i ⟨(U.getD i lr0).a, (U.getD i lr0).n, (U.getD i lr0).c, ((U.getD i lr0).xs).set k_1 (((U.getD mm lr0).xs).getD k_1 false)⟩)], [rowT tyLR (.slice oa Xs.length oc) 23 U], []] := (H22.putBack (f := (inLR tyB 4).row) ⟨(U.getD i lr0).a, (U.getD i lr0).n, (U.getD i lr0).c, ((U.getD i lr0).xs).set k_1 (((U.getD mm lr0).xs).getD k_1 false)⟩ 1 3 i rfl rfl rfl (by omega)).re rfl
              have H24 : UpG w [] w15 [[blk w.heap.size #[.slice dca d.cls.length dcc, .int .i64 d.width, .int .i64 d.start, .slice dna d.next.length dnc, .slice dba d.acc.length dbc] 25], [manyF (inLR tyB 4).row (U.set i ⟨(U.getD i lr0).a, (U.getD i lr0).n, (U.getD i lr0).c, ((U.getD i lr0).xs).set k_1 (((U.getD mm lr0).xs).getD k_1 false)⟩)], [rowT tyLR (.slice oa Xs.length oc) 23 (U.set i ⟨(U.getD i lr0).a, (U.getD i lr0).n, (U.getD i lr0).c, ((U.getD i lr0).xs).set k_1 (((U.getD mm lr0).xs).getD k_1 false)⟩)], []] := H23.recast (((U.getD i lr0).xs).set k_1 (((U.getD mm lr0).xs).getD k_1 false)) 2 i rfl (by omega)
              refine ⟨trivial, ?_⟩
              refine WD.done hok2 rfl (X.block_normal (X.then_code ?_))
              refine W.pick [93, 92, 91, 90, 89, 88, 87, 86, 85, 84, 83, 82, 81, 80, 79, 78, 77, 76, 75, 74, 73, 72, 69, 68, 67, 66, 65, 64, 63, 62, 61, 60, 59, 58, 10, 55, 54, 53, 9, 50, 49, 48, 8, 4, 3, 2] (Γ' := [(93, elemPtr (.slice ((U.getD i lr0).a) ((U.getD i lr0).n) ((U.getD i lr0).c)) k_1), (92, .bool (((U.getD mm lr0).xs).getD k_1 false)), (91, .bool (((U.getD mm lr0).xs).getD k_1 false)), (90, elemPtr (.slice ((U.getD mm lr0).a) ((U.getD mm lr0).n) ((U.getD mm lr0).c)) k_1), (89, .int .i64 ((k_1 : Nat) : Int)), (88, .slice ((U.getD mm lr0).a) ((U.getD mm lr0).n) ((U.getD mm lr0).c)), (87, elemPtr (.slice oa Xs.length oc) mm), (86, .int .i64 ((mm : Nat) : Int)), (85, .slice oa Xs.length oc), (84, .bool false), (83, .bool (((U.getD i lr0).xs).getD k_1 false)), (82, elemPtr (.slice ((U.getD i lr0).a) ((U.getD i lr0).n) ((U.getD i lr0).c)) k_1), (81, .int .i64 ((k_1 : Nat) : Int)), (80, .slice ((U.getD i lr0).a) ((U.getD i lr0).n) ((U.getD i lr0).c)), (79, elemPtr (.slice oa Xs.length oc) i), (78, .int .i64 ((i : Nat) : Int)), (77, .slice oa Xs.length oc), (76, .int .i64 ((k_1 : Nat) : Int)), (75, .slice ((U.getD i lr0).a) ((U.getD i lr0).n) ((U.getD i lr0).c)), (74, elemPtr (.slice oa Xs.length oc) i), (73, .int .i64 ((i : Nat) : Int)), (72, .slice oa Xs.length oc), (69, .bool (((U.getD i lr0).xs).getD mm false)), (68, .bool (((U.getD i lr0).xs).getD mm false)), (67, elemPtr (.slice ((U.getD i lr0).a) ((U.getD i lr0).n) ((U.getD i lr0).c)) mm), (66, .int .i64 ((mm : Nat) : Int)), (65, .slice ((U.getD i lr0).a) ((U.getD i lr0).n) ((U.getD i lr0).c)), (64, elemPtr (.slice oa Xs.length oc) i), (63, .int .i64 ((i : Nat) : Int)), (62, .slice oa Xs.length oc), (61, .bool true), (60, .bool (decide (((k_1 : Nat) : Int) < ((d.acc.length : Nat) : Int)))), (59, .int .i64 ((d.acc.length : Nat) : Int)), (58, .int .i64 ((k_1 : Nat) : Int)), (10, .int .i64 ((k_1 : Nat) : Int)), (55, .bool (decide (((i : Nat) : Int) < ((d.acc.length : Nat) : Int)))), (54, .int .i64 ((d.acc.length : Nat) : Int)), (53, .int .i64 ((i : Nat) : Int)), (9, .int .i64 ((i : Nat) : Int)), (50, .bool (decide (((mm : Nat) : Int) < ((d.acc.length : Nat) : Int)))), (49, .int .i64 ((d.acc.length : Nat) : Int)), (48, .int .i64 ((mm : Nat) : Int)), (8, .int .i64 ((mm : Nat) : Int)), (4, .slice oa Xs.length oc), (3, .int .i64 ((d.acc.length : Nat) : Int)), (2, .slice none 0 0)]) rfl ?_
              refine W.region ?_
              refine WL.op rfl (d_move rfl ?_)
              refine WL.op rfl (d_add rfl rfl (by omega) (by omega) ?_)
              refine WL.op rfl (d_assign rfl ?_)
              refine WL.done ?_
              exact X.next [10, 55, 54, 53, 9, 50, 49, 48, 8, 4, 3, 2] (Γ' := [(10, .int .i64 (((k_1 + 1) : Nat) : Int)), (55, .bool (decide (((i : Nat) : Int) < ((d.acc.length : Nat) : Int)))), (54, .int .i64 ((d.acc.length : Nat) : Int)), (53, .int .i64 ((i : Nat) : Int)), (9, .int .i64 ((i : Nat) : Int)), (50, .bool (decide (((mm : Nat) : Int) < ((d.acc.length : Nat) : Int)))), (49, .int .i64 ((d.acc.length : Nat) : Int)), (48, .int .i64 ((mm : Nat) : Int)), (8, .int .i64 ((mm : Nat) : Int)), (4, .slice oa Xs.length oc), (3, .int .i64 ((d.acc.length : Nat) : Int)), (2, .slice none 0 0)]) rfl (d.acc.length - (k_1 + 1)) (by omega) ⟨k_1 + 1, U.set i ⟨(U.getD i lr0).a, (U.getD i lr0).n, (U.getD i lr0).c, ((U.getD i lr0).xs).set k_1 (((U.getD mm lr0).xs).getD k_1 false)⟩, rfl, (H24.re rfl), (by first | assumption | omega | simp), (by first | exact hU.step (by omega) (by omega) (by omega) c53 (by unfold cellB; rw [g54]; rfl) | exact hU.step (by omega) (by omega) (by omega) c53 (by unfold cellB; rw [Bool.eq_false_iff.2 g54]; rfl)), rfl⟩
          · skip
            refine W.exit (X.then_exit (X.then_exit (X.block_exit (X.block_normal (X.then_code ?_)))))
            refine W.pick [69, 68, 67, 66, 65, 64, 63, 62, 61, 60, 59, 58, 10, 55, 54, 53, 9, 50, 49, 48, 8, 4, 3, 2] (Γ' := [(69, .bool (((U.getD i lr0).xs).getD mm false)), (68, .bool (((U.getD i lr0).xs).getD mm false)), (67, elemPtr (.slice ((U.getD i lr0).a) ((U.getD i lr0).n) ((U.getD i lr0).c)) mm), (66, .int .i64 ((mm : Nat) : Int)), (65, .slice ((U.getD i lr0).a) ((U.getD i lr0).n) ((U.getD i lr0).c)), (64, elemPtr (.slice oa Xs.length oc) i), (63, .int .i64 ((i : Nat) : Int)), (62, .slice oa Xs.length oc), (61, .bool true), (60, .bool (decide (((k_1 : Nat) : Int) < ((d.acc.length : Nat) : Int)))), (59, .int .i64 ((d.acc.length : Nat) : Int)), (58, .int .i64 ((k_1 : Nat) : Int)), (10, .int .i64 ((k_1 : Nat) : Int)), (55, .bool (decide (((i : Nat) : Int) < ((d.acc.length : Nat) : Int)))), (54, .int .i64 ((d.acc.length : Nat) : Int)), (53, .int .i64 ((i : Nat) : Int)), (9, .int .i64 ((i : Nat) : Int)), (50, .bool (decide (((mm : Nat) : Int) < ((d.acc.length : Nat) : Int)))), (49, .int .i64 ((d.acc.length : Nat) : Int)), (48, .int .i64 ((mm : Nat) : Int)), (8, .int .i64 ((mm : Nat) : Int)), (4, .slice oa Xs.length oc), (3, .int .i64 ((d.acc.length : Nat) : Int)), (2, .slice none 0 0)]) rfl ?_
            refine W.region ?_
            refine WL.op rfl (d_move rfl ?_)
            refine WL.op rfl (d_add rfl rfl (by omega) (by omega) ?_)
            refine WL.op rfl (d_assign rfl ?_)
            refine WL.done ?_
            exact X.next [9, 50, 49, 48, 8, 4, 3, 2] (Γ' := [(9, .int .i64 (((i + 1) : Nat) : Int)), (50, .bool (decide (((mm : Nat) : Int) < ((d.acc.length : Nat) : Int)))), (49, .int .i64 ((d.acc.length : Nat) : Int)), (48, .int .i64 ((mm : Nat) : Int)), (8, .int .i64 ((mm : Nat) : Int)), (4, .slice oa Xs.length oc), (3, .int .i64 ((d.acc.length : Nat) : Int)), (2, .slice none 0 0)]) rfl (d.acc.length - (i + 1)) (by omega) ⟨i + 1, U, rfl, H15, (by first | assumption | omega | simp), (by first | exact hU.rowDone (by omega) (by omega) (.inl (by omega)) | exact hU.rowDone (by omega) (by omega) (.inr c53)), rfl⟩
        · skip
          refine WL.opN rfl rfl rfl rfl ?_
          refine WL.opN rfl rfl rfl rfl ?_
          refine WL.opN rfl rfl rfl rfl ?_
          refine WL.opN rfl rfl rfl rfl ?_
          refine WL.opN rfl rfl rfl rfl ?_
          refine WL.opN rfl rfl rfl rfl ?_
          refine WL.opN rfl rfl rfl rfl ?_
          refine WL.op rfl (d_pick rfl rfl ?_)
          refine WL.done (X.then_code ?_)
          refine W.pick [69, 68, 67, 66, 65, 64, 63, 62, 61, 60, 59, 58, 10, 55, 54, 53, 9, 50, 49, 48, 8, 4, 3, 2] (Γ' := [(69, .bool false), (68, undef), (67, undef), (66, undef), (65, undef), (64, undef), (63, undef), (62, undef), (61, .bool false), (60, .bool (decide (((k_1 : Nat) : Int) < ((d.acc.length : Nat) : Int)))), (59, .int .i64 ((d.acc.length : Nat) : Int)), (58, .int .i64 ((k_1 : Nat) : Int)), (10, .int .i64 ((k_1 : Nat) : Int)), (55, .bool (decide (((i : Nat) : Int) < ((d.acc.length : Nat) : Int)))), (54, .int .i64 ((d.acc.length : Nat) : Int)), (53, .int .i64 ((i : Nat) : Int)), (9, .int .i64 ((i : Nat) : Int)), (50, .bool (decide (((mm : Nat) : Int) < ((d.acc.length : Nat) : Int)))), (49, .int .i64 ((d.acc.length : Nat) : Int)), (48, .int .i64 ((mm : Nat) : Int)), (8, .int .i64 ((mm : Nat) : Int)), (4, .slice oa Xs.length oc), (3, .int .i64 ((d.acc.length : Nat) : Int)), (2, .slice none 0 0)]) rfl ?_
          refine W.iff rfl ?_
          refine W.exit (X.then_exit (X.then_exit (X.block_exit (X.block_normal (X.then_code ?_)))))
          refine W.pick [69, 68, 67, 66, 65, 64, 63, 62, 61, 60, 59, 58, 10, 55, 54, 53, 9, 50, 49, 48, 8, 4, 3, 2] (Γ' := [(69, .bool false), (68, undef), (67, undef), (66, undef), (65, undef), (64, undef), (63, undef), (62, undef), (61, .bool false), (60, .bool (decide (((k_1 : Nat) : Int) < ((d.acc.length : Nat) : Int)))), (59, .int .i64 ((d.acc.length : Nat) : Int)), (58, .int .i64 ((k_1 : Nat) : Int)), (10, .int .i64 ((k_1 : Nat) : Int)), (55, .bool (decide (((i : Nat) : Int) < ((d.acc.length : Nat) : Int)))), (54, .int .i64 ((d.acc.length : Nat) : Int)), (53, .int .i64 ((i : Nat) : Int)), (9, .int .i64 ((i : Nat) : Int)), (50, .bool (decide (((mm : Nat) : Int) < ((d.acc.length : Nat) : Int)))), (49, .int .i64 ((d.acc.length : Nat) : Int)), (48, .int .i64 ((mm : Nat) : Int)), (8, .int .i64 ((mm : Nat) : Int)), (4, .slice oa Xs.length oc), (3, .int .i64 ((d.acc.length : Nat) : Int)), (2, .slice none 0 0)]) rfl ?_
          refine W.region ?_
          refine WL.op rfl (d_move rfl ?_)
          refine WL.op rfl (d_add rfl rfl (by omega) (by omega) ?_)
          refine WL.op rfl (d_assign rfl ?_)
          refine WL.done ?_
          exact X.next [9, 50, 49, 48, 8, 4, 3, 2] (Γ' := [(9, .int .i64 (((i + 1) : Nat) : Int)), (50, .bool (decide (((mm : Nat) : Int) < ((d.acc.length : Nat) : Int)))), (49, .int .i64 ((d.acc.length : Nat) : Int)), (48, .int .i64 ((mm : Nat) : Int)), (8, .int .i64 ((mm : Nat) : Int)), (4, .slice oa Xs.length oc), (3, .int .i64 ((d.acc.length : Nat) : Int)), (2, .slice none 0 0)]) rfl (d.acc.length - (i + 1)) (by omega) ⟨i + 1, U, rfl, H15, (by first | assumption | omega | simp), (by first | exact hU.rowDone (by omega) (by omega) (.inl (by omega)) | exact hU.rowDone (by omega) (by omega) (.inr c53)), rfl⟩
      · skip
        refine W.exit (X.then_exit (X.then_exit (X.block_exit (X.block_normal (X.then_code ?_)))))
        refine W.region ?_
        refine WL.op rfl (d_move rfl ?_)
        refine WL.op rfl (d_add rfl rfl (by omega) (by omega) ?_)
        refine WL.op rfl (d_assign rfl ?_)
        refine WL.done ?_
        exact X.next [8, 4, 3, 2] (Γ' := [(8, .int .i64 (((mm + 1) : Nat) : Int)), (4, .slice oa Xs.length oc), (3, .int .i64 ((d.acc.length : Nat) : Int)), (2, .slice none 0 0)]) rfl (d.acc.length - (mm + 1)) (by omega) ⟨mm + 1, Z, rfl, H14, (by first | assumption | omega | simp), (by exact hZ.allDone (by omega)), rfl⟩
    · skip
      refine W.exit (X.then_exit (X.then_exit (X.block_exit (X.then_code ?_))))
      refine W.seq ?_
      refine W.region ?_
      refine WL.op rfl (d_move rfl ?_)
      refine WL.op rfl (d_assign rfl ?_)
      refine WL.done (X.then_code ?_)
      refine W.ret (X.ret1 rfl rfl ?_)
      exact ⟨oa, Y, Xs.length, oc, rfl, (Upd.sel H13 (l := [2, 1]) rfl rfl), hY.fin hrt (by omega), (by omega)⟩

set_option maxRecDepth 20000 in
theorem dfaRuns_any (d : DfaD) (dca : Option Addr) (dna : Option Addr) (dba : Option Addr) (dcc : Nat) (dnc : Nat) (dbc : Nat) (s : Int) (worda : Option Addr) (word : List Int) (wordc : Nat) (w : World) (rcd : RdT (tyI .i64) w (.slice dca d.cls.length dcc) d.cls) (rnd : RdT (tyI .i64) w (.slice dna d.next.length dnc) d.next) (rbd : RdT tyB w (.slice dba d.acc.length dbc) d.acc) (rword : RdT (tyI .i64) w (.slice worda word.length wordc) word) (hcp : word.length ≤ wordc) :
    Calls Try.prog 4 #[.agg #[.slice dca d.cls.length dcc, .int .i64 d.width, .int .i64 d.start, .slice dna d.next.length dnc, .slice dba d.acc.length dbc], .int .i64 s, .slice worda word.length wordc] w (Ret fun v w' => v = .bool true ∧ Upd w [] w' []) := by
  have le_rcd := rcd.le
  have le_rnd := rnd.le
  have le_rbd := rbd.le
  have le_rword := rword.le
  refine calls_of_W (args := [.agg #[.slice dca d.cls.length dcc, .int .i64 d.width, .int .i64 d.start, .slice dna d.next.length dnc, .slice dba d.acc.length dbc], .int .i64 s, .slice worda word.length wordc]) Try.func4 rfl rfl rfl ?_
  have H0 : UpG w [] w [] := UpG.nil w
  show W _ _ _ _ [(0, .agg #[.slice dca d.cls.length dcc, .int .i64 d.width, .int .i64 d.start, .slice dna d.next.length dnc, .slice dba d.acc.length dbc]), (1, .int .i64 s), (2, .slice worda word.length wordc)] w
  refine W.seq ?_
  refine W.region ?_
  refine WL.op rfl (d_box rfl fun w1 u1 => ?_)
  have H1 : UpG w [] w1 [[blk w.heap.size #[.slice dca d.cls.length dcc, .int .i64 d.width, .int .i64 d.start, .slice dna d.next.length dnc, .slice dba d.acc.length dbc] 25]] := H0.new' u1
  refine WL.op rfl (d_assign rfl ?_)
  refine WL.done (X.then_code ?_)
  refine W.seq ?_
  refine W.seq ?_
  refine W.region ?_
  refine WL.op rfl (d_call ok16 rfl (Ret.calls (awake12_any  w1  ) fun _ w2 p1 => ?_))
  obtain ⟨rfl, u2⟩ := p1
  have H2 : UpG w [] w2 [[blk w.heap.size #[.slice dca d.cls.length dcc, .int .i64 d.width, .int .i64 d.start, .slice dna d.next.length dnc, .slice dba d.acc.length dbc] 25]] := H1.call u2
  refine WL.op rfl (d_notB rfl ?_)
  refine WL.done (X.then_code ?_)
  refine W.iff rfl ?_
  refine W.skip (X.then_code ?_)
  refine W.seq ?_
  refine W.region ?_
  refine WL.op rfl (d_move rfl ?_)
  refine WL.op rfl (d_move rfl ?_)
  refine WL.op rfl (d_lenS Try.underlying22 rfl ?_)
  refine WL.op rfl (d_min rfl rfl ?_)
  have rs1 := RdT.take rword (min word.length 20) (by omega)
  refine WL.op rfl (t_take (min ((word.length : Nat) : Int) 20) (min word.length 20) (T := (tyI .i64)) (xs := word) rfl Try.underlying22 sz3 rfl rfl (by omega) (by omega) (by have h9 := List.length_take_le' (min word.length 20) word; omega) ?_)
  refine WL.op rfl (d_assign rfl ?_)
  refine WL.done (X.then_code ?_)
  refine W.seq ?_
  refine W.seq ?_
  refine W.region ?_
  refine WL.op rfl (d_loadAB [.slice dca d.cls.length dcc, .int .i64 d.width, .int .i64 d.start, .slice dna d.next.length dnc, .slice dba d.acc.length dbc] Try.underlying25 rfl sz25 rfl (H2.blk 0 rfl) rfl rfl ?_)
  refine WL.op rfl (d_call ok17 rfl (Ret.calls (small_any d dca dna dba dcc dnc dbc w2 (rcd.at H2) (rnd.at H2) (rbd.at H2) ) fun _ w3 p2 => ?_))
  obtain ⟨rfl, u3⟩ := p2
  have H3 : UpG w [] w3 [[blk w.heap.size #[.slice dca d.cls.length dcc, .int .i64 d.width, .int .i64 d.start, .slice dna d.next.length dnc, .slice dba d.acc.length dbc] 25]] := H2.call u3
  refine WL.op rfl (d_notB rfl ?_)
  refine WL.done (X.then_code ?_)
  refine W.iteB (b := !(smallB d)) rfl (fun c29 => ?_) (fun c29 => ?_)
  · skip
    refine W.seq ?_
    refine W.region ?_
    refine WL.op rfl (d_assign rfl ?_)
    refine WL.done (X.then_code ?_)
    refine W.ret (X.then_ret (X.ret1 rfl rfl ?_))
    exact ⟨rfl, H3.noneL⟩
  · skip
    refine W.skip (X.then_code ?_)
    refine W.seq ?_
    refine W.region ?_
    refine WL.op rfl (d_loadAB [.slice dca d.cls.length dcc, .int .i64 d.width, .int .i64 d.start, .slice dna d.next.length dnc, .slice dba d.acc.length dbc] Try.underlying25 rfl sz25 rfl (H3.blk 0 rfl) rfl rfl ?_)
    refine WL.op rfl (d_fieldAddrB fld25_2 rfl rfl ?_)
    refine WL.op rfl (d_loadB Try.underlying3 rfl rfl (H3.blk 0 rfl) rfl ?_)
    refine WL.op rfl (d_move rfl ?_)
    refine WL.op rfl (d_call ok22 rfl (Ret.calls (refRun_any d dca dna dba dcc dnc dbc d.start worda (word.take (min word.length 20)) wordc w3 (rcd.at H3) (rnd.at H3) (rbd.at H3) (rs1.at H3) ) fun _ w4 p3 => ?_))
    obtain ⟨rfl, u4⟩ := p3
    have H4 : UpG w [] w4 [[blk w.heap.size #[.slice dca d.cls.length dcc, .int .i64 d.width, .int .i64 d.start, .slice dna d.next.length dnc, .slice dba d.acc.length dbc] 25]] := H3.call u4
    refine WL.op rfl (d_assign rfl ?_)
    refine WL.done (X.then_code ?_)
    refine W.pick [7, 2, 6, 3, 1] (Γ' := [(7, .int .i64 (runF d d.start (word.take (min word.length 20)))), (2, .slice worda ((word.take (min word.length 20)).length) wordc), (6, .bool false), (3, .pointer (some ⟨w.heap.size, 0, none⟩)), (1, .int .i64 s)]) rfl ?_
    refine W.seq ?_
    refine W.region ?_
    refine WL.op rfl (d_assign rfl ?_)
    refine WL.done (X.then_code ?_)
    refine W.seq ?_
    refine W.seq ?_
    refine W.region ?_
    refine WL.op rfl (d_move rfl ?_)
    refine WL.op rfl (d_lenS Try.underlying22 rfl ?_)
    refine WL.op rfl (d_cmp (decide ((((word.take (min word.length 20)).length : Nat) : Int) > (0 : Int))) rfl rfl rfl ?_)
    refine WL.done (X.then_code ?_)
    refine W.ite (p := (((word.take (min word.length 20)).length : Nat) : Int) > (0 : Int)) rfl (fun c34 => ?_) (fun c34 => ?_)
    · skip
      refine W.seq ?_
      refine W.regionD mixed (by kernel_rfl) fun hok1 w5 k1 => ?_
      have H5 : UpG w [] w5 [[blk w.heap.size #[.slice dca d.cls.length dcc, .int .i64 d.width, .int .i64 d.start, .slice dna d.next.length dnc, .slice dba d.acc.length dbc] 25]] := H4.kept k1
      refine WD.take hok1 0 (.agg #[.slice dca d.cls.length dcc, .int .i64 d.width, .int .i64 d.start, .slice dna d.next.length dnc, .slice dba d.acc.length dbc]) (fun w' => w'.heap[w.heap.size]? = some (.cells #[.slice dca d.cls.length dcc, .int .i64 d.width, .int .i64 d.start, .slice dna d.next.length dnc, .slice dba d.acc.length dbc] 25 (0, 0))) rfl rfl rfl rfl rfl (H5.blk 0 rfl) (.inl ⟨rfl, fun _ hC => d_loadAB [.slice dca d.cls.length dcc, .int .i64 d.width, .int .i64 d.start, .slice dna d.next.length dnc, .slice dba d.acc.length dbc] Try.underlying25 rfl sz25 rfl hC rfl rfl ⟨rfl, rfl⟩⟩) ?_
      refine WD.take hok1 1 (.int .i64 s) (fun _ => True) rfl rfl rfl rfl rfl trivial (.inl ⟨rfl, fun _ _ => d_move rfl ⟨rfl, rfl⟩⟩) ?_
      refine WD.take hok1 2 (.slice worda ((word.take (min word.length 20)).length) wordc) (fun _ => True) rfl rfl rfl rfl rfl trivial (.inl ⟨rfl, fun _ _ => d_move rfl ⟨rfl, rfl⟩⟩) ?_
      have rs2 := RdT.take rs1 1 (by omega)
      refine WD.take hok1 3 (.slice worda (((word.take (min word.length 20)).take 1).length) wordc) (fun _ => True) rfl rfl rfl rfl rfl trivial (.inl ⟨rfl, fun _ _ => t_take 1 1 (T := (tyI .i64)) (xs := (word.take (min word.length 20))) rfl Try.underlying22 sz3 rfl rfl rfl (by omega) (by have h9 := List.length_take_le' (min word.length 20) word; omega) ⟨rfl, rfl⟩⟩) ?_
      refine WD.loud hok1 4 rfl (⟨_, [], rfl, rfl, rfl, rfl, rfl, rfl, d_call ok22 rfl (Ret.calls (refRun_any d dca dna dba dcc dnc dbc s worda ((word.take (min word.length 20)).take 1) wordc w5 (rcd.at H5) (rnd.at H5) (rbd.at H5) (rs2.at H5) ) fun _ w6 p4 => ?_)⟩)
      obtain ⟨rfl, u5⟩ := p4
      have H6 : UpG w [] w6 [[blk w.heap.size #[.slice dca d.cls.length dcc, .int .i64 d.width, .int .i64 d.start, .slice dna d.next.length dnc, .slice dba d.acc.length dbc] 25]] := H5.call u5
      refine ⟨trivial, ?_⟩
      refine WD.take hok1 5 (.int .i64 (runF d s ((word.take (min word.length 20)).take 1))) (fun _ => True) rfl rfl rfl rfl rfl trivial (.inl ⟨rfl, fun _ _ => d_assign rfl ⟨rfl, rfl⟩⟩) ?_
      refine WD.done hok1 rfl (X.then_code ?_)
      refine W.seq ?_
      refine W.regionD mixed (by kernel_rfl) fun hok2 w7 k2 => ?_
      have H7 : UpG w [] w7 [[blk w.heap.size #[.slice dca d.cls.length dcc, .int .i64 d.width, .int .i64 d.start, .slice dna d.next.length dnc, .slice dba d.acc.length dbc] 25]] := H6.kept k2
      refine WD.take hok2 0 (.agg #[.slice dca d.cls.length dcc, .int .i64 d.width, .int .i64 d.start, .slice dna d.next.length dnc, .slice dba d.acc.length dbc]) (fun w' => w'.heap[w.heap.size]? = some (.cells #[.slice dca d.cls.length dcc, .int .i64 d.width, .int .i64 d.start, .slice dna d.next.length dnc, .slice dba d.acc.length dbc] 25 (0, 0))) rfl rfl rfl rfl rfl (H7.blk 0 rfl) (.inl ⟨rfl, fun _ hC => d_loadAB [.slice dca d.cls.length dcc, .int .i64 d.width, .int .i64 d.start, .slice dna d.next.length dnc, .slice dba d.acc.length dbc] Try.underlying25 rfl sz25 rfl hC rfl rfl ⟨rfl, rfl⟩⟩) ?_
      refine WD.take hok2 1 (.int .i64 s) (fun _ => True) rfl rfl rfl rfl rfl trivial (.inl ⟨rfl, fun _ _ => d_move rfl ⟨rfl, rfl⟩⟩) ?_
      refine WD.take hok2 2 (.slice worda ((word.take (min word.length 20)).length) wordc) (fun _ => True) rfl rfl rfl rfl rfl trivial (.inl ⟨rfl, fun _ _ => d_move rfl ⟨rfl, rfl⟩⟩) ?_
      refine WD.take hok2 3 (elemPtr (.slice worda ((word.take (min word.length 20)).length) wordc) 0) (fun w' => RdT (tyI .i64) w' (.slice worda ((word.take (min word.length 20)).length) wordc) (word.take (min word.length 20))) rfl rfl rfl rfl rfl (rs1.at H7) (.inl ⟨rfl, fun _ hC => t_addr1 0 (T := (tyI .i64)) rfl Try.underlying22 sz3 rfl rfl hC rfl (by omega) ⟨rfl, rfl⟩⟩) ?_
      refine WD.take hok2 4 (.int .i64 ((word.take (min word.length 20)).getD 0 0)) (fun w' => RdT (tyI .i64) w' (.slice worda ((word.take (min word.length 20)).length) wordc) (word.take (min word.length 20))) rfl rfl rfl rfl rfl (rs1.at H7) (.inl ⟨rfl, fun _ hC => t_load1 0 0 (T := (tyI .i64)) rfl Try.underlying3 rfl rfl hC (by omega) rfl ⟨rfl, rfl⟩⟩) ?_
      refine WD.take hok2 6 (.int .i64 (runF d s ((word.take (min word.length 20)).take 1))) (fun _ => True) rfl rfl rfl rfl rfl trivial (.inl ⟨rfl, fun _ _ => d_move rfl ⟨rfl, rfl⟩⟩) ?_
      refine WD.loud hok2 5 rfl (⟨_, [⟨6, .int .i64 (runF d s ((word.take (min word.length 20)).take 1)), (fun _ => True)⟩], rfl, rfl, rfl, rfl, rfl, rfl, d_call ok23 rfl (Ret.calls (go_any d dca dna dba dcc dnc dbc s ((word.take (min word.length 20)).getD 0 0) w7 (rcd.at H7) (rnd.at H7) (rbd.at H7) ) fun _ w8 p5 => ?_)⟩)
      obtain ⟨rfl, u6⟩ := p5
      have H8 : UpG w [] w8 [[blk w.heap.size #[.slice dca d.cls.length dcc, .int .i64 d.width, .int .i64 d.start, .slice dna d.next.length dnc, .slice dba d.acc.length dbc] 25]] := H7.call u6
      refine ⟨⟨trivial, trivial⟩, ?_⟩
      refine WD.take hok2 7 (.bool (decide ((runF d s [((word.take (min word.length 20)).getD 0 0)]) ≠ (runF d s ((word.take (min word.length 20)).take 1))))) (fun _ => True) rfl rfl rfl rfl rfl trivial (.inl ⟨rfl, fun _ _ => d_cmp (decide ((runF d s [((word.take (min word.length 20)).getD 0 0)]) ≠ (runF d s ((word.take (min word.length 20)).take 1)))) rfl rfl rfl ⟨rfl, rfl⟩⟩) ?_
      refine WD.done hok2 rfl (X.then_code ?_)
      refine W.pick [39, 7, 2, 6, 3, 1] (Γ' := [(39, .bool (decide ((runF d s [((word.take (min word.length 20)).getD 0 0)]) ≠ (runF d s ((word.take (min word.length 20)).take 1))))), (7, .int .i64 (runF d d.start (word.take (min word.length 20)))), (2, .slice worda ((word.take (min word.length 20)).length) wordc), (6, .bool false), (3, .pointer (some ⟨w.heap.size, 0, none⟩)), (1, .int .i64 s)]) rfl ?_
      refine W.ite (p := (runF d s [((word.take (min word.length 20)).getD 0 0)]) ≠ (runF d s ((word.take (min word.length 20)).take 1))) rfl (fun c36 => ?_) (fun c36 => ?_)
      · skip
        exfalso; exact c36 (by rw [take_one1 (by simp at *; omega)])
      · skip
        refine W.skip (X.then_code ?_)
        refine W.seq ?_
        have hlt := runF_lt d d.start (word.take (min word.length 20))
        refine W.regionD mixed (by kernel_rfl) fun hok3 w9 k3 => ?_
        have H9 : UpG w [] w9 [[blk w.heap.size #[.slice dca d.cls.length dcc, .int .i64 d.width, .int .i64 d.start, .slice dna d.next.length dnc, .slice dba d.acc.length dbc] 25]] := H8.kept k3
        refine WD.take hok3 0 (.agg #[.slice dca d.cls.length dcc, .int .i64 d.width, .int .i64 d.start, .slice dna d.next.length dnc, .slice dba d.acc.length dbc]) (fun w' => w'.heap[w.heap.size]? = some (.cells #[.slice dca d.cls.length dcc, .int .i64 d.width, .int .i64 d.start, .slice dna d.next.length dnc, .slice dba d.acc.length dbc] 25 (0, 0))) rfl rfl rfl rfl rfl (H9.blk 0 rfl) (.inl ⟨rfl, fun _ hC => d_loadAB [.slice dca d.cls.length dcc, .int .i64 d.width, .int .i64 d.start, .slice dna d.next.length dnc, .slice dba d.acc.length dbc] Try.underlying25 rfl sz25 rfl hC rfl rfl ⟨rfl, rfl⟩⟩) ?_
        refine WD.take hok3 2 (.agg #[.slice dca d.cls.length dcc, .int .i64 d.width, .int .i64 d.start, .slice dna d.next.length dnc, .slice dba d.acc.length dbc]) (fun w' => w'.heap[w.heap.size]? = some (.cells #[.slice dca d.cls.length dcc, .int .i64 d.width, .int .i64 d.start, .slice dna d.next.length dnc, .slice dba d.acc.length dbc] 25 (0, 0))) rfl rfl rfl rfl rfl (H9.blk 0 rfl) (.inl ⟨rfl, fun _ hC => d_loadAB [.slice dca d.cls.length dcc, .int .i64 d.width, .int .i64 d.start, .slice dna d.next.length dnc, .slice dba d.acc.length dbc] Try.underlying25 rfl sz25 rfl hC rfl rfl ⟨rfl, rfl⟩⟩) ?_
        refine WD.loud hok3 1 rfl (⟨_, [⟨2, .agg #[.slice dca d.cls.length dcc, .int .i64 d.width, .int .i64 d.start, .slice dna d.next.length dnc, .slice dba d.acc.length dbc], (fun w' => w'.heap[w.heap.size]? = some (.cells #[.slice dca d.cls.length dcc, .int .i64 d.width, .int .i64 d.start, .slice dna d.next.length dnc, .slice dba d.acc.length dbc] 25 (0, 0)))⟩], rfl, rfl, rfl, rfl, rfl, rfl, d_call ok24 rfl (Ret.calls (right_any d dca dna dba dcc dnc dbc w9 (rcd.at H9) (rnd.at H9) (rbd.at H9) ) fun _ w10 p6 => ?_)⟩)
        obtain ⟨rfl, u7⟩ := p6
        have H10 : UpG w [] w10 [[blk w.heap.size #[.slice dca d.cls.length dcc, .int .i64 d.width, .int .i64 d.start, .slice dna d.next.length dnc, .slice dba d.acc.length dbc] 25]] := H9.call u7
        refine ⟨⟨(H10.blk 0 rfl), trivial⟩, ?_⟩
        refine WD.loud hok3 3 rfl (⟨_, [], rfl, rfl, rfl, rfl, rfl, rfl, d_call ok20 rfl (Ret.calls (refRight_any d dca dna dba dcc dnc dbc w10 (rcd.at H10) (rnd.at H10) (rbd.at H10) ) fun _ w11 p7 => ?_)⟩)
        obtain ⟨rfl, u8⟩ := p7
        have H11 : UpG w [] w11 [[blk w.heap.size #[.slice dca d.cls.length dcc, .int .i64 d.width, .int .i64 d.start, .slice dna d.next.length dnc, .slice dba d.acc.length dbc] 25]] := H10.call u8
        refine ⟨trivial, ?_⟩
        refine WD.take hok3 4 (.bool (decide ((rightB d) = (rightB d)))) (fun _ => True) rfl rfl rfl rfl rfl trivial (.inl ⟨rfl, fun _ _ => d_booleq Try.underlying4 rfl rfl ⟨rfl, rfl⟩⟩) ?_
        refine WD.take hok3 5 (.bool (decide ((rightB d) = (rightB d)))) (fun _ => True) rfl rfl rfl rfl rfl trivial (.inl ⟨rfl, fun _ _ => d_move rfl ⟨rfl, rfl⟩⟩) ?_
        refine WD.part 45 (p := (rightB d) = (rightB d)) rfl (fun g40 => ?_) (fun g40 => ?_)
        · skip
          refine WD.take hok3 6 (.agg #[.slice dca d.cls.length dcc, .int .i64 d.width, .int .i64 d.start, .slice dna d.next.length dnc, .slice dba d.acc.length dbc]) (fun w' => w'.heap[w.heap.size]? = some (.cells #[.slice dca d.cls.length dcc, .int .i64 d.width, .int .i64 d.start, .slice dna d.next.length dnc, .slice dba d.acc.length dbc] 25 (0, 0))) rfl rfl rfl rfl rfl (H11.blk 0 rfl) (.inl ⟨rfl, fun _ hC => d_loadAB [.slice dca d.cls.length dcc, .int .i64 d.width, .int .i64 d.start, .slice dna d.next.length dnc, .slice dba d.acc.length dbc] Try.underlying25 rfl sz25 rfl hC rfl rfl ⟨rfl, rfl⟩⟩) ?_
          refine WD.take hok3 7 (.int .i64 s) (fun _ => True) rfl rfl rfl rfl rfl trivial (.inl ⟨rfl, fun _ _ => d_move rfl ⟨rfl, rfl⟩⟩) ?_
          refine WD.take hok3 8 (.slice worda ((word.take (min word.length 20)).length) wordc) (fun _ => True) rfl rfl rfl rfl rfl trivial (.inl ⟨rfl, fun _ _ => d_move rfl ⟨rfl, rfl⟩⟩) ?_
          refine WD.take hok3 10 (.agg #[.slice dca d.cls.length dcc, .int .i64 d.width, .int .i64 d.start, .slice dna d.next.length dnc, .slice dba d.acc.length dbc]) (fun w' => w'.heap[w.heap.size]? = some (.cells #[.slice dca d.cls.length dcc, .int .i64 d.width, .int .i64 d.start, .slice dna d.next.length dnc, .slice dba d.acc.length dbc] 25 (0, 0))) rfl rfl rfl rfl rfl (H11.blk 0 rfl) (.inl ⟨rfl, fun _ hC => d_loadAB [.slice dca d.cls.length dcc, .int .i64 d.width, .int .i64 d.start, .slice dna d.next.length dnc, .slice dba d.acc.length dbc] Try.underlying25 rfl sz25 rfl hC rfl rfl ⟨rfl, rfl⟩⟩) ?_
          refine WD.take hok3 11 (.int .i64 s) (fun _ => True) rfl rfl rfl rfl rfl trivial (.inl ⟨rfl, fun _ _ => d_move rfl ⟨rfl, rfl⟩⟩) ?_
          refine WD.take hok3 12 (.slice worda ((word.take (min word.length 20)).length) wordc) (fun _ => True) rfl rfl rfl rfl rfl trivial (.inl ⟨rfl, fun _ _ => d_move rfl ⟨rfl, rfl⟩⟩) ?_
          refine WD.loud hok3 9 rfl (⟨_, [⟨12, .slice worda ((word.take (min word.length 20)).length) wordc, (fun _ => True)⟩, ⟨11, .int .i64 s, (fun _ => True)⟩, ⟨10, .agg #[.slice dca d.cls.length dcc, .int .i64 d.width, .int .i64 d.start, .slice dna d.next.length dnc, .slice dba d.acc.length dbc], (fun w' => w'.heap[w.heap.size]? = some (.cells #[.slice dca d.cls.length dcc, .int .i64 d.width, .int .i64 d.start, .slice dna d.next.length dnc, .slice dba d.acc.length dbc] 25 (0, 0)))⟩], rfl, rfl, rfl, rfl, rfl, rfl, d_call ok25 rfl (Ret.calls (run_any d dca dna dba dcc dnc dbc s worda (word.take (min word.length 20)) wordc w11 (rcd.at H11) (rnd.at H11) (rbd.at H11) (rs1.at H11) ) fun _ w12 p8 => ?_)⟩)
          obtain ⟨rfl, u9⟩ := p8
          have H12 : UpG w [] w12 [[blk w.heap.size #[.slice dca d.cls.length dcc, .int .i64 d.width, .int .i64 d.start, .slice dna d.next.length dnc, .slice dba d.acc.length dbc] 25]] := H11.call u9
          refine ⟨⟨trivial, trivial, (H12.blk 0 rfl), trivial⟩, ?_⟩
          refine WD.loud hok3 13 rfl (⟨_, [], rfl, rfl, rfl, rfl, rfl, rfl, d_call ok22 rfl (Ret.calls (refRun_any d dca dna dba dcc dnc dbc s worda (word.take (min word.length 20)) wordc w12 (rcd.at H12) (rnd.at H12) (rbd.at H12) (rs1.at H12) ) fun _ w13 p9 => ?_)⟩)
          obtain ⟨rfl, u10⟩ := p9
          have H13 : UpG w [] w13 [[blk w.heap.size #[.slice dca d.cls.length dcc, .int .i64 d.width, .int .i64 d.start, .slice dna d.next.length dnc, .slice dba d.acc.length dbc] 25]] := H12.call u10
          refine ⟨trivial, ?_⟩
          refine WD.take hok3 14 (.bool (decide ((runF d s (word.take (min word.length 20))) = (runF d s (word.take (min word.length 20)))))) (fun _ => True) rfl rfl rfl rfl rfl trivial (.inl ⟨rfl, fun _ _ => d_cmp (decide ((runF d s (word.take (min word.length 20))) = (runF d s (word.take (min word.length 20))))) rfl rfl rfl ⟨rfl, rfl⟩⟩) ?_
          refine WD.take hok3 15 (.bool (decide ((runF d s (word.take (min word.length 20))) = (runF d s (word.take (min word.length 20)))))) (fun _ => True) rfl rfl rfl rfl rfl trivial (.inl ⟨rfl, fun _ _ => d_pick rfl rfl ⟨rfl, rfl⟩⟩) ?_
          refine WD.take hok3 16 (.bool (decide ((runF d s (word.take (min word.length 20))) = (runF d s (word.take (min word.length 20)))))) (fun _ => True) rfl rfl rfl rfl rfl trivial (.inl ⟨rfl, fun _ _ => d_move rfl ⟨rfl, rfl⟩⟩) ?_
          refine WD.part 56 (p := (runF d s (word.take (min word.length 20))) = (runF d s (word.take (min word.length 20)))) rfl (fun g40x => ?_) (fun g40x => ?_)
          · skip
            refine WD.take hok3 17 (.agg #[.slice dca d.cls.length dcc, .int .i64 d.width, .int .i64 d.start, .slice dna d.next.length dnc, .slice dba d.acc.length dbc]) (fun w' => w'.heap[w.heap.size]? = some (.cells #[.slice dca d.cls.length dcc, .int .i64 d.width, .int .i64 d.start, .slice dna d.next.length dnc, .slice dba d.acc.length dbc] 25 (0, 0))) rfl rfl rfl rfl rfl (H13.blk 0 rfl) (.inl ⟨rfl, fun _ hC => d_loadAB [.slice dca d.cls.length dcc, .int .i64 d.width, .int .i64 d.start, .slice dna d.next.length dnc, .slice dba d.acc.length dbc] Try.underlying25 rfl sz25 rfl hC rfl rfl ⟨rfl, rfl⟩⟩) ?_
            refine WD.take hok3 18 (.slice worda ((word.take (min word.length 20)).length) wordc) (fun _ => True) rfl rfl rfl rfl rfl trivial (.inl ⟨rfl, fun _ _ => d_move rfl ⟨rfl, rfl⟩⟩) ?_
            refine WD.take hok3 20 (.int .i64 (runF d d.start (word.take (min word.length 20)))) (fun _ => True) rfl rfl rfl rfl rfl trivial (.inl ⟨rfl, fun _ _ => d_move rfl ⟨rfl, rfl⟩⟩) ?_
            refine WD.take hok3 21 (.bool (decide ((runF d d.start (word.take (min word.length 20))) ≥ (0 : Int)))) (fun _ => True) rfl rfl rfl rfl rfl trivial (.inl ⟨rfl, fun _ _ => d_cmp (decide ((runF d d.start (word.take (min word.length 20))) ≥ (0 : Int))) rfl rfl rfl ⟨rfl, rfl⟩⟩) ?_
            refine WD.loud hok3 19 rfl (⟨_, [⟨21, .bool (decide ((runF d d.start (word.take (min word.length 20))) ≥ (0 : Int))), (fun _ => True)⟩, ⟨20, .int .i64 (runF d d.start (word.take (min word.length 20))), (fun _ => True)⟩], rfl, rfl, rfl, rfl, rfl, rfl, d_call ok26 rfl (Ret.calls (accepts_any d dca dna dba dcc dnc dbc worda (word.take (min word.length 20)) wordc w13 (rcd.at H13) (rnd.at H13) (rbd.at H13) (rs1.at H13) ) fun _ w14 p10 => ?_)⟩)
            obtain ⟨rfl, u11⟩ := p10
            have H14 : UpG w [] w14 [[blk w.heap.size #[.slice dca d.cls.length dcc, .int .i64 d.width, .int .i64 d.start, .slice dna d.next.length dnc, .slice dba d.acc.length dbc] 25]] := H13.call u11
            refine ⟨⟨trivial, trivial, trivial⟩, ?_⟩
            refine WD.take hok3 22 (.bool (decide ((runF d d.start (word.take (min word.length 20))) ≥ (0 : Int)))) (fun _ => True) rfl rfl rfl rfl rfl trivial (.inl ⟨rfl, fun _ _ => d_move rfl ⟨rfl, rfl⟩⟩) ?_
            refine WD.part 62 (p := (runF d d.start (word.take (min word.length 20))) ≥ (0 : Int)) rfl (fun g40xx => ?_) (fun g40xx => ?_)
            · skip
              refine WD.take hok3 23 (.pointer (some ⟨w.heap.size, 4, none⟩)) (fun _ => True) rfl rfl rfl rfl rfl trivial (.inl ⟨rfl, fun _ _ => d_fieldAddrB fld25_4 rfl rfl ⟨rfl, rfl⟩⟩) ?_
              refine WD.take hok3 24 (.slice dba d.acc.length dbc) (fun w' => w'.heap[w.heap.size]? = some (.cells #[.slice dca d.cls.length dcc, .int .i64 d.width, .int .i64 d.start, .slice dna d.next.length dnc, .slice dba d.acc.length dbc] 25 (0, 0))) rfl rfl rfl rfl rfl (H14.blk 0 rfl) (.inl ⟨rfl, fun _ hC => d_loadB Try.underlying23 rfl rfl hC rfl ⟨rfl, rfl⟩⟩) ?_
              refine WD.take hok3 25 (.int .i64 (runF d d.start (word.take (min word.length 20)))) (fun _ => True) rfl rfl rfl rfl rfl trivial (.inl ⟨rfl, fun _ _ => d_move rfl ⟨rfl, rfl⟩⟩) ?_
              refine WD.take hok3 26 (elemPtr (.slice dba d.acc.length dbc) ((runF d d.start (word.take (min word.length 20))).toNat)) (fun w' => RdT tyB w' (.slice dba d.acc.length dbc) d.acc) rfl rfl rfl rfl rfl (rbd.at H14) (.inl ⟨rfl, fun _ hC => t_addr1 ((runF d d.start (word.take (min word.length 20))).toNat) (T := tyB) rfl Try.underlying23 sz4 rfl rfl hC (by omega) (by omega) ⟨rfl, rfl⟩⟩) ?_
              refine WD.take hok3 27 (.bool (d.acc.getD ((runF d d.start (word.take (min word.length 20))).toNat) false)) (fun w' => RdT tyB w' (.slice dba d.acc.length dbc) d.acc) rfl rfl rfl rfl rfl (rbd.at H14) (.inl ⟨rfl, fun _ hC => t_load1 ((runF d d.start (word.take (min word.length 20))).toNat) false (T := tyB) rfl Try.underlying4 rfl rfl hC (by omega) rfl ⟨rfl, rfl⟩⟩) ?_
              refine WD.take hok3 28 (.bool (d.acc.getD ((runF d d.start (word.take (min word.length 20))).toNat) false)) (fun _ => True) rfl rfl rfl rfl rfl trivial (.inl ⟨rfl, fun _ _ => d_pick rfl rfl ⟨rfl, rfl⟩⟩) ?_
              refine WD.take hok3 29 (.bool (decide ((acceptsB d (word.take (min word.length 20))) = (d.acc.getD ((runF d d.start (word.take (min word.length 20))).toNat) false)))) (fun _ => True) rfl rfl rfl rfl rfl trivial (.inl ⟨rfl, fun _ _ => d_booleq Try.underlying4 rfl rfl ⟨rfl, rfl⟩⟩) ?_
              refine WD.take hok3 30 (.bool (decide ((acceptsB d (word.take (min word.length 20))) = (d.acc.getD ((runF d d.start (word.take (min word.length 20))).toNat) false)))) (fun _ => True) rfl rfl rfl rfl rfl trivial (.inl ⟨rfl, fun _ _ => d_pick rfl rfl ⟨rfl, rfl⟩⟩) ?_
              refine WD.take hok3 31 (.bool (decide ((acceptsB d (word.take (min word.length 20))) = (d.acc.getD ((runF d d.start (word.take (min word.length 20))).toNat) false)))) (fun _ => True) rfl rfl rfl rfl rfl trivial (.inl ⟨rfl, fun _ _ => d_assign rfl ⟨rfl, rfl⟩⟩) ?_
              refine WD.done hok3 rfl (X.then_code ?_)
              refine W.pick [6] (Γ' := [(6, .bool (decide ((acceptsB d (word.take (min word.length 20))) = (d.acc.getD ((runF d d.start (word.take (min word.length 20))).toNat) false))))]) rfl ?_
              refine W.ret (X.ret1 rfl rfl ?_)
              exact ⟨(by first | rfl | rw [decide_eq_true (acceptsB_yes (by omega))] | rw [decide_eq_true (acceptsB_no (by omega))]), H14.noneL⟩
            · skip
              refine WD.take hok3 23 undef (fun _ => True) rfl rfl rfl rfl rfl trivial (.inr ⟨rfl, rfl⟩) ?_
              refine WD.take hok3 24 undef (fun _ => True) rfl rfl rfl rfl rfl trivial (.inr ⟨rfl, rfl⟩) ?_
              refine WD.take hok3 25 undef (fun _ => True) rfl rfl rfl rfl rfl trivial (.inr ⟨rfl, rfl⟩) ?_
              refine WD.take hok3 26 undef (fun _ => True) rfl rfl rfl rfl rfl trivial (.inr ⟨rfl, rfl⟩) ?_
              refine WD.take hok3 27 undef (fun _ => True) rfl rfl rfl rfl rfl trivial (.inr ⟨rfl, rfl⟩) ?_
              refine WD.take hok3 28 (.bool false) (fun _ => True) rfl rfl rfl rfl rfl trivial (.inl ⟨rfl, fun _ _ => d_pick rfl rfl ⟨rfl, rfl⟩⟩) ?_
              refine WD.take hok3 29 (.bool (decide ((acceptsB d (word.take (min word.length 20))) = false))) (fun _ => True) rfl rfl rfl rfl rfl trivial (.inl ⟨rfl, fun _ _ => d_booleq Try.underlying4 rfl rfl ⟨rfl, rfl⟩⟩) ?_
              refine WD.take hok3 30 (.bool (decide ((acceptsB d (word.take (min word.length 20))) = false))) (fun _ => True) rfl rfl rfl rfl rfl trivial (.inl ⟨rfl, fun _ _ => d_pick rfl rfl ⟨rfl, rfl⟩⟩) ?_
              refine WD.take hok3 31 (.bool (decide ((acceptsB d (word.take (min word.length 20))) = false))) (fun _ => True) rfl rfl rfl rfl rfl trivial (.inl ⟨rfl, fun _ _ => d_assign rfl ⟨rfl, rfl⟩⟩) ?_
              refine WD.done hok3 rfl (X.then_code ?_)
              refine W.pick [6] (Γ' := [(6, .bool (decide ((acceptsB d (word.take (min word.length 20))) = false)))]) rfl ?_
              refine W.ret (X.ret1 rfl rfl ?_)
              exact ⟨(by first | rfl | rw [decide_eq_true (acceptsB_yes (by omega))] | rw [decide_eq_true (acceptsB_no (by omega))]), H14.noneL⟩
          · skip
            exact absurd rfl g40x
        · skip
          exact absurd rfl g40
    · skip
      refine W.skip (X.then_code ?_)
      refine W.seq ?_
      have hlt := runF_lt d d.start (word.take (min word.length 20))
      refine W.regionD mixed (by kernel_rfl) fun hok4 w15 k4 => ?_
      have H15 : UpG w [] w15 [[blk w.heap.size #[.slice dca d.cls.length dcc, .int .i64 d.width, .int .i64 d.start, .slice dna d.next.length dnc, .slice dba d.acc.length dbc] 25]] := H4.kept k4
      refine WD.take hok4 0 (.agg #[.slice dca d.cls.length dcc, .int .i64 d.width, .int .i64 d.start, .slice dna d.next.length dnc, .slice dba d.acc.length dbc]) (fun w' => w'.heap[w.heap.size]? = some (.cells #[.slice dca d.cls.length dcc, .int .i64 d.width, .int .i64 d.start, .slice dna d.next.length dnc, .slice dba d.acc.length dbc] 25 (0, 0))) rfl rfl rfl rfl rfl (H15.blk 0 rfl) (.inl ⟨rfl, fun _ hC => d_loadAB [.slice dca d.cls.length dcc, .int .i64 d.width, .int .i64 d.start, .slice dna d.next.length dnc, .slice dba d.acc.length dbc] Try.underlying25 rfl sz25 rfl hC rfl rfl ⟨rfl, rfl⟩⟩) ?_
      refine WD.take hok4 2 (.agg #[.slice dca d.cls.length dcc, .int .i64 d.width, .int .i64 d.start, .slice dna d.next.length dnc, .slice dba d.acc.length dbc]) (fun w' => w'.heap[w.heap.size]? = some (.cells #[.slice dca d.cls.length dcc, .int .i64 d.width, .int .i64 d.start, .slice dna d.next.length dnc, .slice dba d.acc.length dbc] 25 (0, 0))) rfl rfl rfl rfl rfl (H15.blk 0 rfl) (.inl ⟨rfl, fun _ hC => d_loadAB [.slice dca d.cls.length dcc, .int .i64 d.width, .int .i64 d.start, .slice dna d.next.length dnc, .slice dba d.acc.length dbc] Try.underlying25 rfl sz25 rfl hC rfl rfl ⟨rfl, rfl⟩⟩) ?_
      refine WD.loud hok4 1 rfl (⟨_, [⟨2, .agg #[.slice dca d.cls.length dcc, .int .i64 d.width, .int .i64 d.start, .slice dna d.next.length dnc, .slice dba d.acc.length dbc], (fun w' => w'.heap[w.heap.size]? = some (.cells #[.slice dca d.cls.length dcc, .int .i64 d.width, .int .i64 d.start, .slice dna d.next.length dnc, .slice dba d.acc.length dbc] 25 (0, 0)))⟩], rfl, rfl, rfl, rfl, rfl, rfl, d_call ok24 rfl (Ret.calls (right_any d dca dna dba dcc dnc dbc w15 (rcd.at H15) (rnd.at H15) (rbd.at H15) ) fun _ w16 p11 => ?_)⟩)
      obtain ⟨rfl, u12⟩ := p11
      have H16 : UpG w [] w16 [[blk w.heap.size #[.slice dca d.cls.length dcc, .int .i64 d.width, .int .i64 d.start, .slice dna d.next.length dnc, .slice dba d.acc.length dbc] 25]] := H15.call u12
      refine ⟨⟨(H16.blk 0 rfl), trivial⟩, ?_⟩
      refine WD.loud hok4 3 rfl (⟨_, [], rfl, rfl, rfl, rfl, rfl, rfl, d_call ok20 rfl (Ret.calls (refRight_any d dca dna dba dcc dnc dbc w16 (rcd.at H16) (rnd.at H16) (rbd.at H16) ) fun _ w17 p12 => ?_)⟩)
      obtain ⟨rfl, u13⟩ := p12
      have H17 : UpG w [] w17 [[blk w.heap.size #[.slice dca d.cls.length dcc, .int .i64 d.width, .int .i64 d.start, .slice dna d.next.length dnc, .slice dba d.acc.length dbc] 25]] := H16.call u13
      refine ⟨trivial, ?_⟩
      refine WD.take hok4 4 (.bool (decide ((rightB d) = (rightB d)))) (fun _ => True) rfl rfl rfl rfl rfl trivial (.inl ⟨rfl, fun _ _ => d_booleq Try.underlying4 rfl rfl ⟨rfl, rfl⟩⟩) ?_
      refine WD.take hok4 5 (.bool (decide ((rightB d) = (rightB d)))) (fun _ => True) rfl rfl rfl rfl rfl trivial (.inl ⟨rfl, fun _ _ => d_move rfl ⟨rfl, rfl⟩⟩) ?_
      refine WD.part 45 (p := (rightB d) = (rightB d)) rfl (fun g40 => ?_) (fun g40 => ?_)
      · skip
        refine WD.take hok4 6 (.agg #[.slice dca d.cls.length dcc, .int .i64 d.width, .int .i64 d.start, .slice dna d.next.length dnc, .slice dba d.acc.length dbc]) (fun w' => w'.heap[w.heap.size]? = some (.cells #[.slice dca d.cls.length dcc, .int .i64 d.width, .int .i64 d.start, .slice dna d.next.length dnc, .slice dba d.acc.length dbc] 25 (0, 0))) rfl rfl rfl rfl rfl (H17.blk 0 rfl) (.inl ⟨rfl, fun _ hC => d_loadAB [.slice dca d.cls.length dcc, .int .i64 d.width, .int .i64 d.start, .slice dna d.next.length dnc, .slice dba d.acc.length dbc] Try.underlying25 rfl sz25 rfl hC rfl rfl ⟨rfl, rfl⟩⟩) ?_
        refine WD.take hok4 7 (.int .i64 s) (fun _ => True) rfl rfl rfl rfl rfl trivial (.inl ⟨rfl, fun _ _ => d_move rfl ⟨rfl, rfl⟩⟩) ?_
        refine WD.take hok4 8 (.slice worda ((word.take (min word.length 20)).length) wordc) (fun _ => True) rfl rfl rfl rfl rfl trivial (.inl ⟨rfl, fun _ _ => d_move rfl ⟨rfl, rfl⟩⟩) ?_
        refine WD.take hok4 10 (.agg #[.slice dca d.cls.length dcc, .int .i64 d.width, .int .i64 d.start, .slice dna d.next.length dnc, .slice dba d.acc.length dbc]) (fun w' => w'.heap[w.heap.size]? = some (.cells #[.slice dca d.cls.length dcc, .int .i64 d.width, .int .i64 d.start, .slice dna d.next.length dnc, .slice dba d.acc.length dbc] 25 (0, 0))) rfl rfl rfl rfl rfl (H17.blk 0 rfl) (.inl ⟨rfl, fun _ hC => d_loadAB [.slice dca d.cls.length dcc, .int .i64 d.width, .int .i64 d.start, .slice dna d.next.length dnc, .slice dba d.acc.length dbc] Try.underlying25 rfl sz25 rfl hC rfl rfl ⟨rfl, rfl⟩⟩) ?_
        refine WD.take hok4 11 (.int .i64 s) (fun _ => True) rfl rfl rfl rfl rfl trivial (.inl ⟨rfl, fun _ _ => d_move rfl ⟨rfl, rfl⟩⟩) ?_
        refine WD.take hok4 12 (.slice worda ((word.take (min word.length 20)).length) wordc) (fun _ => True) rfl rfl rfl rfl rfl trivial (.inl ⟨rfl, fun _ _ => d_move rfl ⟨rfl, rfl⟩⟩) ?_
        refine WD.loud hok4 9 rfl (⟨_, [⟨12, .slice worda ((word.take (min word.length 20)).length) wordc, (fun _ => True)⟩, ⟨11, .int .i64 s, (fun _ => True)⟩, ⟨10, .agg #[.slice dca d.cls.length dcc, .int .i64 d.width, .int .i64 d.start, .slice dna d.next.length dnc, .slice dba d.acc.length dbc], (fun w' => w'.heap[w.heap.size]? = some (.cells #[.slice dca d.cls.length dcc, .int .i64 d.width, .int .i64 d.start, .slice dna d.next.length dnc, .slice dba d.acc.length dbc] 25 (0, 0)))⟩], rfl, rfl, rfl, rfl, rfl, rfl, d_call ok25 rfl (Ret.calls (run_any d dca dna dba dcc dnc dbc s worda (word.take (min word.length 20)) wordc w17 (rcd.at H17) (rnd.at H17) (rbd.at H17) (rs1.at H17) ) fun _ w18 p13 => ?_)⟩)
        obtain ⟨rfl, u14⟩ := p13
        have H18 : UpG w [] w18 [[blk w.heap.size #[.slice dca d.cls.length dcc, .int .i64 d.width, .int .i64 d.start, .slice dna d.next.length dnc, .slice dba d.acc.length dbc] 25]] := H17.call u14
        refine ⟨⟨trivial, trivial, (H18.blk 0 rfl), trivial⟩, ?_⟩
        refine WD.loud hok4 13 rfl (⟨_, [], rfl, rfl, rfl, rfl, rfl, rfl, d_call ok22 rfl (Ret.calls (refRun_any d dca dna dba dcc dnc dbc s worda (word.take (min word.length 20)) wordc w18 (rcd.at H18) (rnd.at H18) (rbd.at H18) (rs1.at H18) ) fun _ w19 p14 => ?_)⟩)
        obtain ⟨rfl, u15⟩ := p14
        have H19 : UpG w [] w19 [[blk w.heap.size #[.slice dca d.cls.length dcc, .int .i64 d.width, .int .i64 d.start, .slice dna d.next.length dnc, .slice dba d.acc.length dbc] 25]] := H18.call u15
        refine ⟨trivial, ?_⟩
        refine WD.take hok4 14 (.bool (decide ((runF d s (word.take (min word.length 20))) = (runF d s (word.take (min word.length 20)))))) (fun _ => True) rfl rfl rfl rfl rfl trivial (.inl ⟨rfl, fun _ _ => d_cmp (decide ((runF d s (word.take (min word.length 20))) = (runF d s (word.take (min word.length 20))))) rfl rfl rfl ⟨rfl, rfl⟩⟩) ?_
        refine WD.take hok4 15 (.bool (decide ((runF d s (word.take (min word.length 20))) = (runF d s (word.take (min word.length 20)))))) (fun _ => True) rfl rfl rfl rfl rfl trivial (.inl ⟨rfl, fun _ _ => d_pick rfl rfl ⟨rfl, rfl⟩⟩) ?_
        refine WD.take hok4 16 (.bool (decide ((runF d s (word.take (min word.length 20))) = (runF d s (word.take (min word.length 20)))))) (fun _ => True) rfl rfl rfl rfl rfl trivial (.inl ⟨rfl, fun _ _ => d_move rfl ⟨rfl, rfl⟩⟩) ?_
        refine WD.part 56 (p := (runF d s (word.take (min word.length 20))) = (runF d s (word.take (min word.length 20)))) rfl (fun g40x => ?_) (fun g40x => ?_)
        · skip
          refine WD.take hok4 17 (.agg #[.slice dca d.cls.length dcc, .int .i64 d.width, .int .i64 d.start, .slice dna d.next.length dnc, .slice dba d.acc.length dbc]) (fun w' => w'.heap[w.heap.size]? = some (.cells #[.slice dca d.cls.length dcc, .int .i64 d.width, .int .i64 d.start, .slice dna d.next.length dnc, .slice dba d.acc.length dbc] 25 (0, 0))) rfl rfl rfl rfl rfl (H19.blk 0 rfl) (.inl ⟨rfl, fun _ hC => d_loadAB [.slice dca d.cls.length dcc, .int .i64 d.width, .int .i64 d.start, .slice dna d.next.length dnc, .slice dba d.acc.length dbc] Try.underlying25 rfl sz25 rfl hC rfl rfl ⟨rfl, rfl⟩⟩) ?_
          refine WD.take hok4 18 (.slice worda ((word.take (min word.length 20)).length) wordc) (fun _ => True) rfl rfl rfl rfl rfl trivial (.inl ⟨rfl, fun _ _ => d_move rfl ⟨rfl, rfl⟩⟩) ?_
          refine WD.take hok4 20 (.int .i64 (runF d d.start (word.take (min word.length 20)))) (fun _ => True) rfl rfl rfl rfl rfl trivial (.inl ⟨rfl, fun _ _ => d_move rfl ⟨rfl, rfl⟩⟩) ?_
          refine WD.take hok4 21 (.bool (decide ((runF d d.start (word.take (min word.length 20))) ≥ (0 : Int)))) (fun _ => True) rfl rfl rfl rfl rfl trivial (.inl ⟨rfl, fun _ _ => d_cmp (decide ((runF d d.start (word.take (min word.length 20))) ≥ (0 : Int))) rfl rfl rfl ⟨rfl, rfl⟩⟩) ?_
          refine WD.loud hok4 19 rfl (⟨_, [⟨21, .bool (decide ((runF d d.start (word.take (min word.length 20))) ≥ (0 : Int))), (fun _ => True)⟩, ⟨20, .int .i64 (runF d d.start (word.take (min word.length 20))), (fun _ => True)⟩], rfl, rfl, rfl, rfl, rfl, rfl, d_call ok26 rfl (Ret.calls (accepts_any d dca dna dba dcc dnc dbc worda (word.take (min word.length 20)) wordc w19 (rcd.at H19) (rnd.at H19) (rbd.at H19) (rs1.at H19) ) fun _ w20 p15 => ?_)⟩)
          obtain ⟨rfl, u16⟩ := p15
          have H20 : UpG w [] w20 [[blk w.heap.size #[.slice dca d.cls.length dcc, .int .i64 d.width, .int .i64 d.start, .slice dna d.next.length dnc, .slice dba d.acc.length dbc] 25]] := H19.call u16
          refine ⟨⟨trivial, trivial, trivial⟩, ?_⟩
          refine WD.take hok4 22 (.bool (decide ((runF d d.start (word.take (min word.length 20))) ≥ (0 : Int)))) (fun _ => True) rfl rfl rfl rfl rfl trivial (.inl ⟨rfl, fun _ _ => d_move rfl ⟨rfl, rfl⟩⟩) ?_
          refine WD.part 62 (p := (runF d d.start (word.take (min word.length 20))) ≥ (0 : Int)) rfl (fun g40xx => ?_) (fun g40xx => ?_)
          · skip
            refine WD.take hok4 23 (.pointer (some ⟨w.heap.size, 4, none⟩)) (fun _ => True) rfl rfl rfl rfl rfl trivial (.inl ⟨rfl, fun _ _ => d_fieldAddrB fld25_4 rfl rfl ⟨rfl, rfl⟩⟩) ?_
            refine WD.take hok4 24 (.slice dba d.acc.length dbc) (fun w' => w'.heap[w.heap.size]? = some (.cells #[.slice dca d.cls.length dcc, .int .i64 d.width, .int .i64 d.start, .slice dna d.next.length dnc, .slice dba d.acc.length dbc] 25 (0, 0))) rfl rfl rfl rfl rfl (H20.blk 0 rfl) (.inl ⟨rfl, fun _ hC => d_loadB Try.underlying23 rfl rfl hC rfl ⟨rfl, rfl⟩⟩) ?_
            refine WD.take hok4 25 (.int .i64 (runF d d.start (word.take (min word.length 20)))) (fun _ => True) rfl rfl rfl rfl rfl trivial (.inl ⟨rfl, fun _ _ => d_move rfl ⟨rfl, rfl⟩⟩) ?_
            refine WD.take hok4 26 (elemPtr (.slice dba d.acc.length dbc) ((runF d d.start (word.take (min word.length 20))).toNat)) (fun w' => RdT tyB w' (.slice dba d.acc.length dbc) d.acc) rfl rfl rfl rfl rfl (rbd.at H20) (.inl ⟨rfl, fun _ hC => t_addr1 ((runF d d.start (word.take (min word.length 20))).toNat) (T := tyB) rfl Try.underlying23 sz4 rfl rfl hC (by omega) (by omega) ⟨rfl, rfl⟩⟩) ?_
            refine WD.take hok4 27 (.bool (d.acc.getD ((runF d d.start (word.take (min word.length 20))).toNat) false)) (fun w' => RdT tyB w' (.slice dba d.acc.length dbc) d.acc) rfl rfl rfl rfl rfl (rbd.at H20) (.inl ⟨rfl, fun _ hC => t_load1 ((runF d d.start (word.take (min word.length 20))).toNat) false (T := tyB) rfl Try.underlying4 rfl rfl hC (by omega) rfl ⟨rfl, rfl⟩⟩) ?_
            refine WD.take hok4 28 (.bool (d.acc.getD ((runF d d.start (word.take (min word.length 20))).toNat) false)) (fun _ => True) rfl rfl rfl rfl rfl trivial (.inl ⟨rfl, fun _ _ => d_pick rfl rfl ⟨rfl, rfl⟩⟩) ?_
            refine WD.take hok4 29 (.bool (decide ((acceptsB d (word.take (min word.length 20))) = (d.acc.getD ((runF d d.start (word.take (min word.length 20))).toNat) false)))) (fun _ => True) rfl rfl rfl rfl rfl trivial (.inl ⟨rfl, fun _ _ => d_booleq Try.underlying4 rfl rfl ⟨rfl, rfl⟩⟩) ?_
            refine WD.take hok4 30 (.bool (decide ((acceptsB d (word.take (min word.length 20))) = (d.acc.getD ((runF d d.start (word.take (min word.length 20))).toNat) false)))) (fun _ => True) rfl rfl rfl rfl rfl trivial (.inl ⟨rfl, fun _ _ => d_pick rfl rfl ⟨rfl, rfl⟩⟩) ?_
            refine WD.take hok4 31 (.bool (decide ((acceptsB d (word.take (min word.length 20))) = (d.acc.getD ((runF d d.start (word.take (min word.length 20))).toNat) false)))) (fun _ => True) rfl rfl rfl rfl rfl trivial (.inl ⟨rfl, fun _ _ => d_assign rfl ⟨rfl, rfl⟩⟩) ?_
            refine WD.done hok4 rfl (X.then_code ?_)
            refine W.pick [6] (Γ' := [(6, .bool (decide ((acceptsB d (word.take (min word.length 20))) = (d.acc.getD ((runF d d.start (word.take (min word.length 20))).toNat) false))))]) rfl ?_
            refine W.ret (X.ret1 rfl rfl ?_)
            exact ⟨(by first | rfl | rw [decide_eq_true (acceptsB_yes (by omega))] | rw [decide_eq_true (acceptsB_no (by omega))]), H20.noneL⟩
          · skip
            refine WD.take hok4 23 undef (fun _ => True) rfl rfl rfl rfl rfl trivial (.inr ⟨rfl, rfl⟩) ?_
            refine WD.take hok4 24 undef (fun _ => True) rfl rfl rfl rfl rfl trivial (.inr ⟨rfl, rfl⟩) ?_
            refine WD.take hok4 25 undef (fun _ => True) rfl rfl rfl rfl rfl trivial (.inr ⟨rfl, rfl⟩) ?_
            refine WD.take hok4 26 undef (fun _ => True) rfl rfl rfl rfl rfl trivial (.inr ⟨rfl, rfl⟩) ?_
            refine WD.take hok4 27 undef (fun _ => True) rfl rfl rfl rfl rfl trivial (.inr ⟨rfl, rfl⟩) ?_
            refine WD.take hok4 28 (.bool false) (fun _ => True) rfl rfl rfl rfl rfl trivial (.inl ⟨rfl, fun _ _ => d_pick rfl rfl ⟨rfl, rfl⟩⟩) ?_
            refine WD.take hok4 29 (.bool (decide ((acceptsB d (word.take (min word.length 20))) = false))) (fun _ => True) rfl rfl rfl rfl rfl trivial (.inl ⟨rfl, fun _ _ => d_booleq Try.underlying4 rfl rfl ⟨rfl, rfl⟩⟩) ?_
            refine WD.take hok4 30 (.bool (decide ((acceptsB d (word.take (min word.length 20))) = false))) (fun _ => True) rfl rfl rfl rfl rfl trivial (.inl ⟨rfl, fun _ _ => d_pick rfl rfl ⟨rfl, rfl⟩⟩) ?_
            refine WD.take hok4 31 (.bool (decide ((acceptsB d (word.take (min word.length 20))) = false))) (fun _ => True) rfl rfl rfl rfl rfl trivial (.inl ⟨rfl, fun _ _ => d_assign rfl ⟨rfl, rfl⟩⟩) ?_
            refine WD.done hok4 rfl (X.then_code ?_)
            refine W.pick [6] (Γ' := [(6, .bool (decide ((acceptsB d (word.take (min word.length 20))) = false)))]) rfl ?_
            refine W.ret (X.ret1 rfl rfl ?_)
            exact ⟨(by first | rfl | rw [decide_eq_true (acceptsB_yes (by omega))] | rw [decide_eq_true (acceptsB_no (by omega))]), H20.noneL⟩
        · skip
          exact absurd rfl g40x
      · skip
        exact absurd rfl g40

set_option maxRecDepth 20000 in
theorem dfaLives_any (d : DfaD) (dca : Option Addr) (dna : Option Addr) (dba : Option Addr) (dcc : Nat) (dnc : Nat) (dbc : Nat) (w : World) (rcd : RdT (tyI .i64) w (.slice dca d.cls.length dcc) d.cls) (rnd : RdT (tyI .i64) w (.slice dna d.next.length dnc) d.next) (rbd : RdT tyB w (.slice dba d.acc.length dbc) d.acc) :
    Calls Try.prog 3 #[.agg #[.slice dca d.cls.length dcc, .int .i64 d.width, .int .i64 d.start, .slice dna d.next.length dnc, .slice dba d.acc.length dbc]] w (Ret fun v w' => v = .bool true ∧ Upd w [] w' []) := by
  have le_rcd := rcd.le
  have le_rnd := rnd.le
  have le_rbd := rbd.le
  refine calls_of_W (args := [.agg #[.slice dca d.cls.length dcc, .int .i64 d.width, .int .i64 d.start, .slice dna d.next.length dnc, .slice dba d.acc.length dbc]]) Try.func3 rfl rfl rfl ?_
  have H0 : UpG w [] w [] := UpG.nil w
  show W _ _ _ _ [(0, .agg #[.slice dca d.cls.length dcc, .int .i64 d.width, .int .i64 d.start, .slice dna d.next.length dnc, .slice dba d.acc.length dbc])] w
  refine W.seq ?_
  refine W.region ?_
  refine WL.op rfl (d_box rfl fun w1 u1 => ?_)
  have H1 : UpG w [] w1 [[blk w.heap.size #[.slice dca d.cls.length dcc, .int .i64 d.width, .int .i64 d.start, .slice dna d.next.length dnc, .slice dba d.acc.length dbc] 25]] := H0.new' u1
  refine WL.op rfl (d_assign rfl ?_)
  refine WL.done (X.then_code ?_)
  refine W.seq ?_
  refine W.seq ?_
  refine W.region ?_
  refine WL.op rfl (d_call ok16 rfl (Ret.calls (awake12_any  w1  ) fun _ w2 p1 => ?_))
  obtain ⟨rfl, u2⟩ := p1
  have H2 : UpG w [] w2 [[blk w.heap.size #[.slice dca d.cls.length dcc, .int .i64 d.width, .int .i64 d.start, .slice dna d.next.length dnc, .slice dba d.acc.length dbc] 25]] := H1.call u2
  refine WL.op rfl (d_notB rfl ?_)
  refine WL.done (X.then_code ?_)
  refine W.iff rfl ?_
  refine W.skip (X.then_code ?_)
  refine W.seq ?_
  refine W.seq ?_
  refine W.region ?_
  refine WL.op rfl (d_loadAB [.slice dca d.cls.length dcc, .int .i64 d.width, .int .i64 d.start, .slice dna d.next.length dnc, .slice dba d.acc.length dbc] Try.underlying25 rfl sz25 rfl (H2.blk 0 rfl) rfl rfl ?_)
  refine WL.op rfl (d_call ok17 rfl (Ret.calls (small_any d dca dna dba dcc dnc dbc w2 (rcd.at H2) (rnd.at H2) (rbd.at H2) ) fun _ w3 p2 => ?_))
  obtain ⟨rfl, u3⟩ := p2
  have H3 : UpG w [] w3 [[blk w.heap.size #[.slice dca d.cls.length dcc, .int .i64 d.width, .int .i64 d.start, .slice dna d.next.length dnc, .slice dba d.acc.length dbc] 25]] := H2.call u3
  refine WL.op rfl (d_notB rfl ?_)
  refine WL.done (X.then_code ?_)
  refine W.iteB (b := !(smallB d)) rfl (fun c48 => ?_) (fun c48 => ?_)
  · skip
    refine W.seq ?_
    refine W.region ?_
    refine WL.op rfl (d_assign rfl ?_)
    refine WL.done (X.then_code ?_)
    refine W.ret (X.then_ret (X.ret1 rfl rfl ?_))
    exact ⟨rfl, H3.noneL⟩
  · skip
    refine W.skip (X.then_code ?_)
    refine W.seq ?_
    have hsm : d.acc.length ≤ 12 ∧ d.next.length ≤ 4000 ∧ d.cls.length ≤ 300 := by simpa [smallB] using c48
    refine W.regionD mixed (by kernel_rfl) fun hok1 w4 k1 => ?_
    have H4 : UpG w [] w4 [[blk w.heap.size #[.slice dca d.cls.length dcc, .int .i64 d.width, .int .i64 d.start, .slice dna d.next.length dnc, .slice dba d.acc.length dbc] 25]] := H3.kept k1
    refine WD.take hok1 0 (.agg #[.slice dca d.cls.length dcc, .int .i64 d.width, .int .i64 d.start, .slice dna d.next.length dnc, .slice dba d.acc.length dbc]) (fun w' => w'.heap[w.heap.size]? = some (.cells #[.slice dca d.cls.length dcc, .int .i64 d.width, .int .i64 d.start, .slice dna d.next.length dnc, .slice dba d.acc.length dbc] 25 (0, 0))) rfl rfl rfl rfl rfl (H4.blk 0 rfl) (.inl ⟨rfl, fun _ hC => d_loadAB [.slice dca d.cls.length dcc, .int .i64 d.width, .int .i64 d.start, .slice dna d.next.length dnc, .slice dba d.acc.length dbc] Try.underlying25 rfl sz25 rfl hC rfl rfl ⟨rfl, rfl⟩⟩) ?_
    refine WD.take hok1 2 (.agg #[.slice dca d.cls.length dcc, .int .i64 d.width, .int .i64 d.start, .slice dna d.next.length dnc, .slice dba d.acc.length dbc]) (fun w' => w'.heap[w.heap.size]? = some (.cells #[.slice dca d.cls.length dcc, .int .i64 d.width, .int .i64 d.start, .slice dna d.next.length dnc, .slice dba d.acc.length dbc] 25 (0, 0))) rfl rfl rfl rfl rfl (H4.blk 0 rfl) (.inl ⟨rfl, fun _ hC => d_loadAB [.slice dca d.cls.length dcc, .int .i64 d.width, .int .i64 d.start, .slice dna d.next.length dnc, .slice dba d.acc.length dbc] Try.underlying25 rfl sz25 rfl hC rfl rfl ⟨rfl, rfl⟩⟩) ?_
    refine WD.loud hok1 1 rfl (⟨_, [⟨2, .agg #[.slice dca d.cls.length dcc, .int .i64 d.width, .int .i64 d.start, .slice dna d.next.length dnc, .slice dba d.acc.length dbc], (fun w' => w'.heap[w.heap.size]? = some (.cells #[.slice dca d.cls.length dcc, .int .i64 d.width, .int .i64 d.start, .slice dna d.next.length dnc, .slice dba d.acc.length dbc] 25 (0, 0)))⟩], rfl, rfl, rfl, rfl, rfl, rfl, d_call ok18 rfl (Ret.calls (live_any d dca dna dba dcc dnc dbc w4 (rcd.at H4) (rnd.at H4) (rbd.at H4) (by omega)) fun _ w5 p3 => ?_)⟩)
    obtain ⟨a2_1, o2_1, c2_1, rfl, u4, q1⟩ := p3
    have H5 : UpG w [] w5 [[blk w.heap.size #[.slice dca d.cls.length dcc, .int .i64 d.width, .int .i64 d.start, .slice dna d.next.length dnc, .slice dba d.acc.length dbc] 25], [rowT tyB (.slice a2_1 o2_1.length c2_1) 4 o2_1]] := (H4.new' u4).re rfl
    refine ⟨⟨(H5.blk 0 rfl), trivial⟩, ?_⟩
    refine WD.loud hok1 3 rfl (⟨_, [], rfl, rfl, rfl, rfl, rfl, rfl, d_call ok19 rfl (Ret.calls (reach_any d dca dna dba dcc dnc dbc w5 (rcd.at H5) (rnd.at H5) (rbd.at H5) (by omega)) fun _ w6 p4 => ?_)⟩)
    obtain ⟨a2_2, o2_2, c2_2, rfl, u5, q2⟩ := p4
    have H6 : UpG w [] w6 [[blk w.heap.size #[.slice dca d.cls.length dcc, .int .i64 d.width, .int .i64 d.start, .slice dna d.next.length dnc, .slice dba d.acc.length dbc] 25], [rowT tyB (.slice a2_1 o2_1.length c2_1) 4 o2_1], [rowT tyB (.slice a2_2 o2_2.length c2_2) 4 o2_2]] := (H5.new' u5).re rfl
    refine ⟨trivial, ?_⟩
    refine WD.take hok1 4 (.slice a2_1 o2_1.length c2_1) (fun _ => True) rfl rfl rfl rfl rfl trivial (.inl ⟨rfl, fun _ _ => d_assign rfl ⟨rfl, rfl⟩⟩) ?_
    refine WD.take hok1 5 (.slice a2_2 o2_2.length c2_2) (fun _ => True) rfl rfl rfl rfl rfl trivial (.inl ⟨rfl, fun _ _ => d_assign rfl ⟨rfl, rfl⟩⟩) ?_
    refine WD.done hok1 rfl (X.then_code ?_)
    refine W.seq ?_
    refine W.seq ?_
    refine W.region ?_
    refine WL.op rfl (d_loadAB [.slice dca d.cls.length dcc, .int .i64 d.width, .int .i64 d.start, .slice dna d.next.length dnc, .slice dba d.acc.length dbc] Try.underlying25 rfl sz25 rfl (H6.blk 0 rfl) rfl rfl ?_)
    refine WL.op rfl (d_call ok20 rfl (Ret.calls (refRight_any d dca dna dba dcc dnc dbc w6 (rcd.at H6) (rnd.at H6) (rbd.at H6) ) fun _ w7 p5 => ?_))
    obtain ⟨rfl, u6⟩ := p5
    have H7 : UpG w [] w7 [[blk w.heap.size #[.slice dca d.cls.length dcc, .int .i64 d.width, .int .i64 d.start, .slice dna d.next.length dnc, .slice dba d.acc.length dbc] 25], [rowT tyB (.slice a2_1 o2_1.length c2_1) 4 o2_1], [rowT tyB (.slice a2_2 o2_2.length c2_2) 4 o2_2]] := H6.call u6
    refine WL.op rfl (d_notB rfl ?_)
    refine WL.done (X.then_code ?_)
    refine W.pick [20, 4, 3, 2, 1] (Γ' := [(20, .bool (!(rightB d))), (4, .slice a2_2 o2_2.length c2_2), (3, .slice a2_1 o2_1.length c2_1), (2, .bool false), (1, .pointer (some ⟨w.heap.size, 0, none⟩))]) rfl ?_
    refine W.iteB (b := !(rightB d)) rfl (fun c52 => ?_) (fun c52 => ?_)
    · skip
      refine W.seq ?_
      have hrf : rightB d = false := by simpa using c52
      have e0 : o2_1.length = 0 := by rw [q1.1 hrf]; rfl
      have e1 : o2_2.length = 0 := by rw [q2.1 hrf]; rfl
      refine W.region ?_
      refine WL.op rfl (d_move rfl ?_)
      refine WL.op rfl (d_lenS Try.underlying23 rfl ?_)
      refine WL.op rfl (d_move rfl ?_)
      refine WL.op rfl (d_lenS Try.underlying23 rfl ?_)
      refine WL.op rfl (d_add rfl rfl (by omega) (by omega) ?_)
      refine WL.op rfl (d_cmp (decide ((((o2_1.length : Nat) : Int) + ((o2_2.length : Nat) : Int)) = (0 : Int))) rfl rfl rfl ?_)
      refine WL.op rfl (d_assign rfl ?_)
      refine WL.done (X.then_code ?_)
      refine W.ret (X.then_ret (X.ret1 rfl rfl ?_))
      exact ⟨(by rw [decide_eq_true (by omega)]), H7.noneL⟩
    · skip
      refine W.skip (X.then_code ?_)
      refine W.seq ?_
      have hrt : rightB d = true := by simpa using c52
      have hri := rightB_iff.1 hrt
      have hl1 := (q1.2 hrt).1
      have hl2 := (q2.2 hrt).1
      refine W.region ?_
      refine WL.op rfl (d_loadAB [.slice dca d.cls.length dcc, .int .i64 d.width, .int .i64 d.start, .slice dna d.next.length dnc, .slice dba d.acc.length dbc] Try.underlying25 rfl sz25 rfl (H7.blk 0 rfl) rfl rfl ?_)
      refine WL.op rfl (d_call ok21 rfl (Ret.calls (comes_any d dca dna dba dcc dnc dbc w7 (rcd.at H7) (rnd.at H7) (rbd.at H7) hrt) fun _ w8 p6 => ?_))
      obtain ⟨a2_3, Xs_1, n2_1, c2_3, rfl, u7, q3, q4⟩ := p6
      have H8 : UpG w [] w8 [[blk w.heap.size #[.slice dca d.cls.length dcc, .int .i64 d.width, .int .i64 d.start, .slice dna d.next.length dnc, .slice dba d.acc.length dbc] 25], [rowT tyB (.slice a2_1 o2_1.length c2_1) 4 o2_1], [rowT tyB (.slice a2_2 o2_2.length c2_2) 4 o2_2], [rowT tyLR (.slice a2_3 n2_1 c2_3) 23 Xs_1], [manyF (inLR tyB 4).row Xs_1]] := (H7.new' u7).re rfl
      refine WL.op rfl (d_assign rfl ?_)
      refine WL.done (X.then_code ?_)
      refine W.seq ?_
      refine W.seq ?_
      refine W.region ?_
      refine WL.op rfl (d_move rfl ?_)
      refine WL.op rfl (d_lenS Try.underlying23 rfl ?_)
      refine WL.op rfl (d_move rfl ?_)
      refine WL.op rfl (d_lenS Try.underlying29 rfl ?_)
      refine WL.op rfl (d_cmp (decide (((o2_1.length : Nat) : Int) ≠ ((n2_1 : Nat) : Int))) rfl rfl rfl ?_)
      refine WL.op rfl (d_move rfl ?_)
      refine WL.part 34 (p := ((o2_1.length : Nat) : Int) ≠ ((n2_1 : Nat) : Int)) rfl (fun g56 => ?_) (fun g56 => ?_)
      · skip
        exfalso; omega
      · skip
        refine WL.opG rfl rfl rfl (d_move rfl ?_)
        refine WL.opG rfl rfl rfl (d_lenS Try.underlying23 rfl ?_)
        refine WL.opG rfl rfl rfl (d_move rfl ?_)
        refine WL.opG rfl rfl rfl (d_lenS Try.underlying29 rfl ?_)
        refine WL.opG rfl rfl rfl (d_cmp (decide (((o2_2.length : Nat) : Int) ≠ ((n2_1 : Nat) : Int))) rfl rfl rfl ?_)
        refine WL.op rfl (d_pick rfl rfl ?_)
        refine WL.done (X.then_code ?_)
        refine W.pick [40, 5, 4, 3, 2, 1] (Γ' := [(40, .bool (decide (((o2_2.length : Nat) : Int) ≠ ((n2_1 : Nat) : Int)))), (5, .slice a2_3 n2_1 c2_3), (4, .slice a2_2 o2_2.length c2_2), (3, .slice a2_1 o2_1.length c2_1), (2, .bool false), (1, .pointer (some ⟨w.heap.size, 0, none⟩))]) rfl ?_
        refine W.ite (p := ((o2_2.length : Nat) : Int) ≠ ((n2_1 : Nat) : Int)) rfl (fun c56 => ?_) (fun c56 => ?_)
        · skip
          exfalso; omega
        · skip
          refine W.skip (X.then_code ?_)
          refine W.seq ?_
          refine W.seq ?_
          refine W.region ?_
          refine WL.op rfl (d_assign rfl ?_)
          refine WL.done (X.then_code ?_)
          refine W.block ?_
          have hXl := q3.len
          refine W.pick [6, 5, 4, 3, 2, 1] (Γ' := [(6, .int .i64 0), (5, .slice a2_3 n2_1 c2_3), (4, .slice a2_2 o2_2.length c2_2), (3, .slice a2_1 o2_1.length c2_1), (2, .bool false), (1, .pointer (some ⟨w.heap.size, 0, none⟩))]) rfl ?_
          refine W.loop (fun m Γ' w' => ∃ x : Nat, Γ' = [(6, .int .i64 ((x : Nat) : Int)), (5, .slice a2_3 n2_1 c2_3), (4, .slice a2_2 o2_2.length c2_2), (3, .slice a2_1 o2_1.length c2_1), (2, .bool false), (1, .pointer (some ⟨w.heap.size, 0, none⟩))] ∧ UpG w [] w' [[blk w.heap.size #[.slice dca d.cls.length dcc, .int .i64 d.width, .int .i64 d.start, .slice dna d.next.length dnc, .slice dba d.acc.length dbc] 25], [rowT tyB (.slice a2_1 o2_1.length c2_1) 4 o2_1], [rowT tyB (.slice a2_2 o2_2.length c2_2) 4 o2_2], [rowT tyLR (.slice a2_3 n2_1 c2_3) 23 Xs_1], [manyF (inLR tyB 4).row Xs_1]] ∧ (x ≤ d.acc.length) ∧ m = d.acc.length - x) (d.acc.length - 0) ⟨0, rfl, H8, (by first | assumption | omega | simp), rfl⟩ ?_
          rintro m1 Γ1 w9 ⟨x, rfl, H9, hx, rfl⟩
          refine W.seq ?_
          refine W.seq ?_
          refine W.region ?_
          refine WL.op rfl (d_move rfl ?_)
          refine WL.op rfl (d_move rfl ?_)
          refine WL.op rfl (d_lenS Try.underlying29 rfl ?_)
          refine WL.op rfl (d_cmp (decide (((x : Nat) : Int) < ((n2_1 : Nat) : Int))) rfl rfl rfl ?_)
          refine WL.done (X.then_code ?_)
          refine W.ite (p := ((x : Nat) : Int) < ((n2_1 : Nat) : Int)) rfl (fun c59 => ?_) (fun c59 => ?_)
          · skip
            refine W.skip (X.then_code ?_)
            refine W.seq ?_
            refine W.block ?_
            refine W.seq ?_
            refine W.region ?_
            refine WL.op rfl (d_assign rfl ?_)
            refine WL.done (X.then_code ?_)
            refine W.seq ?_
            refine W.seq ?_
            refine W.region ?_
            refine WL.op rfl (d_assign rfl ?_)
            refine WL.done (X.then_code ?_)
            refine W.block ?_
            refine W.pick [8, 7, 44, 43, 42, 41, 6, 5, 4, 3, 2, 1] (Γ' := [(8, .int .i64 0), (7, .bool false), (44, .bool (decide (((x : Nat) : Int) < ((n2_1 : Nat) : Int)))), (43, .int .i64 ((n2_1 : Nat) : Int)), (42, .slice a2_3 n2_1 c2_3), (41, .int .i64 ((x : Nat) : Int)), (6, .int .i64 ((x : Nat) : Int)), (5, .slice a2_3 n2_1 c2_3), (4, .slice a2_2 o2_2.length c2_2), (3, .slice a2_1 o2_1.length c2_1), (2, .bool false), (1, .pointer (some ⟨w.heap.size, 0, none⟩))]) rfl ?_
            refine W.loop (fun m Γ' w' => ∃ k : Nat, ∃ lv : Bool, Γ' = [(8, .int .i64 ((k : Nat) : Int)), (7, .bool lv), (44, .bool (decide (((x : Nat) : Int) < ((n2_1 : Nat) : Int)))), (43, .int .i64 ((n2_1 : Nat) : Int)), (42, .slice a2_3 n2_1 c2_3), (41, .int .i64 ((x : Nat) : Int)), (6, .int .i64 ((x : Nat) : Int)), (5, .slice a2_3 n2_1 c2_3), (4, .slice a2_2 o2_2.length c2_2), (3, .slice a2_1 o2_1.length c2_1), (2, .bool false), (1, .pointer (some ⟨w.heap.size, 0, none⟩))] ∧ UpG w [] w' [[blk w.heap.size #[.slice dca d.cls.length dcc, .int .i64 d.width, .int .i64 d.start, .slice dna d.next.length dnc, .slice dba d.acc.length dbc] 25], [rowT tyB (.slice a2_1 o2_1.length c2_1) 4 o2_1], [rowT tyB (.slice a2_2 o2_2.length c2_2) 4 o2_2], [rowT tyLR (.slice a2_3 n2_1 c2_3) 23 Xs_1], [manyF (inLR tyB 4).row Xs_1]] ∧ (k ≤ d.acc.length) ∧ (lv = liveK d Xs_1 x k) ∧ m = d.acc.length - k) (d.acc.length - 0) ⟨0, false, rfl, H9, (by first | assumption | omega | simp), (by rfl), rfl⟩ ?_
            rintro m2 Γ2 w10 ⟨k, lv, rfl, H10, hk, hlv, rfl⟩
            have hxr := q3.row x (by omega)
            refine W.seq ?_
            refine W.seq ?_
            refine W.region ?_
            refine WL.op rfl (d_move rfl ?_)
            refine WL.op rfl (d_move rfl ?_)
            refine WL.op rfl (d_lenS Try.underlying29 rfl ?_)
            refine WL.op rfl (d_cmp (decide (((k : Nat) : Int) < ((n2_1 : Nat) : Int))) rfl rfl rfl ?_)
            refine WL.done (X.then_code ?_)
            refine W.ite (p := ((k : Nat) : Int) < ((n2_1 : Nat) : Int)) rfl (fun c61 => ?_) (fun c61 => ?_)
            · skip
              refine W.skip (X.then_code ?_)
              refine W.seq ?_
              refine W.block ?_
              refine W.region ?_
              refine WL.op rfl (d_move rfl ?_)
              refine WL.op rfl (d_move rfl ?_)
              refine WL.partB 54 (b := lv) rfl (fun g62 => ?_) (fun g62 => ?_)
              · skip
                refine WL.opN rfl rfl rfl rfl ?_
                refine WL.opN rfl rfl rfl rfl ?_
                refine WL.opN rfl rfl rfl rfl ?_
                refine WL.opN rfl rfl rfl rfl ?_
                refine WL.opN rfl rfl rfl rfl ?_
                refine WL.opN rfl rfl rfl rfl ?_
                refine WL.opN rfl rfl rfl rfl ?_
                refine WL.opN rfl rfl rfl rfl ?_
                refine WL.opU rfl rfl rfl ?_
                refine WL.opU rfl rfl rfl ?_
                refine WL.opU rfl rfl rfl ?_
                refine WL.opU rfl rfl rfl ?_
                refine WL.opU rfl rfl rfl ?_
                refine WL.opN rfl rfl rfl rfl ?_
                refine WL.op rfl (d_pick rfl rfl ?_)
                refine WL.op rfl (d_assign rfl ?_)
                refine WL.done (X.block_normal (X.then_code ?_))
                refine W.pick [7, 69, 68, 67, 66, 65, 64, 63, 62, 61, 60, 59, 58, 57, 56, 55, 54, 53, 50, 49, 48, 47, 8, 44, 43, 42, 41, 6, 5, 4, 3, 2, 1] (Γ' := [(7, .bool true), (69, .bool true), (68, undef), (67, undef), (66, undef), (65, undef), (64, undef), (63, undef), (62, undef), (61, undef), (60, undef), (59, undef), (58, undef), (57, undef), (56, undef), (55, undef), (54, .bool true), (53, .bool lv), (50, .bool (decide (((k : Nat) : Int) < ((n2_1 : Nat) : Int)))), (49, .int .i64 ((n2_1 : Nat) : Int)), (48, .slice a2_3 n2_1 c2_3), (47, .int .i64 ((k : Nat) : Int)), (8, .int .i64 ((k : Nat) : Int)), (44, .bool (decide (((x : Nat) : Int) < ((n2_1 : Nat) : Int)))), (43, .int .i64 ((n2_1 : Nat) : Int)), (42, .slice a2_3 n2_1 c2_3), (41, .int .i64 ((x : Nat) : Int)), (6, .int .i64 ((x : Nat) : Int)), (5, .slice a2_3 n2_1 c2_3), (4, .slice a2_2 o2_2.length c2_2), (3, .slice a2_1 o2_1.length c2_1), (2, .bool false), (1, .pointer (some ⟨w.heap.size, 0, none⟩))]) rfl ?_
                refine W.region ?_
                refine WL.op rfl (d_move rfl ?_)
                refine WL.op rfl (d_add rfl rfl (by omega) (by omega) ?_)
                refine WL.op rfl (d_assign rfl ?_)
                refine WL.done ?_
                exact X.next [8, 7, 44, 43, 42, 41, 6, 5, 4, 3, 2, 1] (Γ' := [(8, .int .i64 (((k + 1) : Nat) : Int)), (7, .bool true), (44, .bool (decide (((x : Nat) : Int) < ((n2_1 : Nat) : Int)))), (43, .int .i64 ((n2_1 : Nat) : Int)), (42, .slice a2_3 n2_1 c2_3), (41, .int .i64 ((x : Nat) : Int)), (6, .int .i64 ((x : Nat) : Int)), (5, .slice a2_3 n2_1 c2_3), (4, .slice a2_2 o2_2.length c2_2), (3, .slice a2_1 o2_1.length c2_1), (2, .bool false), (1, .pointer (some ⟨w.heap.size, 0, none⟩))]) rfl (d.acc.length - (k + 1)) (by omega) ⟨k + 1, true, rfl, H10, (by first | assumption | omega | simp), (by first | (rw [liveK_step, ← hlv, g62]; rfl) | (rw [liveK_step, ← hlv, Bool.eq_false_iff.2 g62, show cellB Xs_1 x k = true from g62x]; rfl) | (rw [liveK_step, ← hlv, Bool.eq_false_iff.2 g62, show cellB Xs_1 x k = false from Bool.eq_false_iff.2 g62x]; rfl)), rfl⟩
              · skip
                refine WL.opG rfl rfl rfl (d_move rfl ?_)
                refine WL.opG rfl rfl rfl (d_move rfl ?_)
                refine WL.opG rfl rfl rfl (t_addr1 x (T := tyLR) rfl Try.underlying29 sz23 rfl rfl (H10.rdT 3 rfl) rfl (by omega) ?_)
                refine WL.opG rfl rfl rfl (t_load1 x lr0 (T := tyLR) rfl Try.underlying23 rfl rfl (H10.rdT 3 rfl) (by omega) rfl ?_)
                refine WL.opG rfl rfl rfl (d_move rfl ?_)
                refine WL.opG rfl rfl rfl (t_addr1 k (T := tyB) rfl Try.underlying23 sz4 rfl rfl (show RdT tyB w10 (.slice ((Xs_1.getD x lr0).a) ((Xs_1.getD x lr0).n) ((Xs_1.getD x lr0).c)) ((Xs_1.getD x lr0).xs) from (Inn.own (H10.hpOf 4 rfl)).get lr0 x (by omega)) rfl (by omega) ?_)
                refine WL.opG rfl rfl rfl (t_load1 k false (T := tyB) rfl Try.underlying4 rfl rfl (show RdT tyB w10 (.slice ((Xs_1.getD x lr0).a) ((Xs_1.getD x lr0).n) ((Xs_1.getD x lr0).c)) ((Xs_1.getD x lr0).xs) from (Inn.own (H10.hpOf 4 rfl)).get lr0 x (by omega)) (by omega) rfl ?_)
                refine WL.opG rfl rfl rfl (d_move rfl ?_)
                refine WL.partB 62 (b := ((Xs_1.getD x lr0).xs).getD k false) rfl (fun g62x => ?_) (fun g62x => ?_)
                · skip
                  refine WL.opG rfl rfl rfl (d_fieldAddrB fld25_4 rfl rfl ?_)
                  refine WL.opG rfl rfl rfl (d_loadB Try.underlying23 rfl rfl (H10.blk 0 rfl) rfl ?_)
                  refine WL.opG rfl rfl rfl (d_move rfl ?_)
                  refine WL.opG rfl rfl rfl (t_addr1 k (T := tyB) rfl Try.underlying23 sz4 rfl rfl (rbd.at H10) rfl (by omega) ?_)
                  refine WL.opG rfl rfl rfl (t_load1 k false (T := tyB) rfl Try.underlying4 rfl rfl (rbd.at H10) (by omega) rfl ?_)
                  refine WL.opG rfl rfl rfl (d_pick rfl rfl ?_)
                  refine WL.op rfl (d_pick rfl rfl ?_)
                  refine WL.op rfl (d_assign rfl ?_)
                  refine WL.done (X.block_normal (X.then_code ?_))
                  refine W.pick [7, 69, 68, 67, 66, 65, 64, 63, 62, 61, 60, 59, 58, 57, 56, 55, 54, 53, 50, 49, 48, 47, 8, 44, 43, 42, 41, 6, 5, 4, 3, 2, 1] (Γ' := [(7, .bool (d.acc.getD k false)), (69, .bool (d.acc.getD k false)), (68, .bool (d.acc.getD k false)), (67, .bool (d.acc.getD k false)), (66, elemPtr (.slice dba d.acc.length dbc) k), (65, .int .i64 ((k : Nat) : Int)), (64, .slice dba d.acc.length dbc), (63, .pointer (some ⟨w.heap.size, 4, none⟩)), (62, .bool true), (61, .bool (((Xs_1.getD x lr0).xs).getD k false)), (60, elemPtr (.slice ((Xs_1.getD x lr0).a) ((Xs_1.getD x lr0).n) ((Xs_1.getD x lr0).c)) k), (59, .int .i64 ((k : Nat) : Int)), (58, .slice ((Xs_1.getD x lr0).a) ((Xs_1.getD x lr0).n) ((Xs_1.getD x lr0).c)), (57, elemPtr (.slice a2_3 n2_1 c2_3) x), (56, .int .i64 ((x : Nat) : Int)), (55, .slice a2_3 n2_1 c2_3), (54, .bool false), (53, .bool lv), (50, .bool (decide (((k : Nat) : Int) < ((n2_1 : Nat) : Int)))), (49, .int .i64 ((n2_1 : Nat) : Int)), (48, .slice a2_3 n2_1 c2_3), (47, .int .i64 ((k : Nat) : Int)), (8, .int .i64 ((k : Nat) : Int)), (44, .bool (decide (((x : Nat) : Int) < ((n2_1 : Nat) : Int)))), (43, .int .i64 ((n2_1 : Nat) : Int)), (42, .slice a2_3 n2_1 c2_3), (41, .int .i64 ((x : Nat) : Int)), (6, .int .i64 ((x : Nat) : Int)), (5, .slice a2_3 n2_1 c2_3), (4, .slice a2_2 o2_2.length c2_2), (3, .slice a2_1 o2_1.length c2_1), (2, .bool false), (1, .pointer (some ⟨w.heap.size, 0, none⟩))]) rfl ?_
                  refine W.region ?_
                  refine WL.op rfl (d_move rfl ?_)
                  refine WL.op rfl (d_add rfl rfl (by omega) (by omega) ?_)
                  refine WL.op rfl (d_assign rfl ?_)
                  refine WL.done ?_
                  exact X.next [8, 7, 44, 43, 42, 41, 6, 5, 4, 3, 2, 1] (Γ' := [(8, .int .i64 (((k + 1) : Nat) : Int)), (7, .bool (d.acc.getD k false)), (44, .bool (decide (((x : Nat) : Int) < ((n2_1 : Nat) : Int)))), (43, .int .i64 ((n2_1 : Nat) : Int)), (42, .slice a2_3 n2_1 c2_3), (41, .int .i64 ((x : Nat) : Int)), (6, .int .i64 ((x : Nat) : Int)), (5, .slice a2_3 n2_1 c2_3), (4, .slice a2_2 o2_2.length c2_2), (3, .slice a2_1 o2_1.length c2_1), (2, .bool false), (1, .pointer (some ⟨w.heap.size, 0, none⟩))]) rfl (d.acc.length - (k + 1)) (by omega) ⟨k + 1, d.acc.getD k false, rfl, H10, (by first | assumption | omega | simp), (by first | (rw [liveK_step, ← hlv, g62]; rfl) | (rw [liveK_step, ← hlv, Bool.eq_false_iff.2 g62, show cellB Xs_1 x k = true from g62x]; rfl) | (rw [liveK_step, ← hlv, Bool.eq_false_iff.2 g62, show cellB Xs_1 x k = false from Bool.eq_false_iff.2 g62x]; rfl)), rfl⟩
                · skip
                  refine WL.opN rfl rfl rfl rfl ?_
                  refine WL.opN rfl rfl rfl rfl ?_
                  refine WL.opN rfl rfl rfl rfl ?_
                  refine WL.opN rfl rfl rfl rfl ?_
                  refine WL.opN rfl rfl rfl rfl ?_
                  refine WL.opG rfl rfl rfl (d_pick rfl rfl ?_)
                  refine WL.op rfl (d_pick rfl rfl ?_)
                  refine WL.op rfl (d_assign rfl ?_)
                  refine WL.done (X.block_normal (X.then_code ?_))
                  refine W.pick [7, 69, 68, 67, 66, 65, 64, 63, 62, 61, 60, 59, 58, 57, 56, 55, 54, 53, 50, 49, 48, 47, 8, 44, 43, 42, 41, 6, 5, 4, 3, 2, 1] (Γ' := [(7, .bool false), (69, .bool false), (68, .bool false), (67, undef), (66, undef), (65, undef), (64, undef), (63, undef), (62, .bool false), (61, .bool (((Xs_1.getD x lr0).xs).getD k false)), (60, elemPtr (.slice ((Xs_1.getD x lr0).a) ((Xs_1.getD x lr0).n) ((Xs_1.getD x lr0).c)) k), (59, .int .i64 ((k : Nat) : Int)), (58, .slice ((Xs_1.getD x lr0).a) ((Xs_1.getD x lr0).n) ((Xs_1.getD x lr0).c)), (57, elemPtr (.slice a2_3 n2_1 c2_3) x), (56, .int .i64 ((x : Nat) : Int)), (55, .slice a2_3 n2_1 c2_3), (54, .bool false), (53, .bool lv), (50, .bool (decide (((k : Nat) : Int) < ((n2_1 : Nat) : Int)))), (49, .int .i64 ((n2_1 : Nat) : Int)), (48, .slice a2_3 n2_1 c2_3), (47, .int .i64 ((k : Nat) : Int)), (8, .int .i64 ((k : Nat) : Int)), (44, .bool (decide (((x : Nat) : Int) < ((n2_1 : Nat) : Int)))), (43, .int .i64 ((n2_1 : Nat) : Int)), (42, .slice a2_3 n2_1 c2_3), (41, .int .i64 ((x : Nat) : Int)), (6, .int .i64 ((x : Nat) : Int)), (5, .slice a2_3 n2_1 c2_3), (4, .slice a2_2 o2_2.length c2_2), (3, .slice a2_1 o2_1.length c2_1), (2, .bool false), (1, .pointer (some ⟨w.heap.size, 0, none⟩))]) rfl ?_
                  refine W.region ?_
                  refine WL.op rfl (d_move rfl ?_)
                  refine WL.op rfl (d_add rfl rfl (by omega) (by omega) ?_)
                  refine WL.op rfl (d_assign rfl ?_)
                  refine WL.done ?_
                  exact X.next [8, 7, 44, 43, 42, 41, 6, 5, 4, 3, 2, 1] (Γ' := [(8, .int .i64 (((k + 1) : Nat) : Int)), (7, .bool false), (44, .bool (decide (((x : Nat) : Int) < ((n2_1 : Nat) : Int)))), (43, .int .i64 ((n2_1 : Nat) : Int)), (42, .slice a2_3 n2_1 c2_3), (41, .int .i64 ((x : Nat) : Int)), (6, .int .i64 ((x : Nat) : Int)), (5, .slice a2_3 n2_1 c2_3), (4, .slice a2_2 o2_2.length c2_2), (3, .slice a2_1 o2_1.length c2_1), (2, .bool false), (1, .pointer (some ⟨w.heap.size, 0, none⟩))]) rfl (d.acc.length - (k + 1)) (by omega) ⟨k + 1, false, rfl, H10, (by first | assumption | omega | simp), (by first | (rw [liveK_step, ← hlv, g62]; rfl) | (rw [liveK_step, ← hlv, Bool.eq_false_iff.2 g62, show cellB Xs_1 x k = true from g62x]; rfl) | (rw [liveK_step, ← hlv, Bool.eq_false_iff.2 g62, show cellB Xs_1 x k = false from Bool.eq_false_iff.2 g62x]; rfl)), rfl⟩
            · skip
              refine W.exit (X.then_exit (X.then_exit (X.block_exit (X.then_code ?_))))
              refine W.seq ?_
              refine W.regionD mixed (by kernel_rfl) fun hok2 w11 k2 => ?_
              have H11 : UpG w [] w11 [[blk w.heap.size #[.slice dca d.cls.length dcc, .int .i64 d.width, .int .i64 d.start, .slice dna d.next.length dnc, .slice dba d.acc.length dbc] 25], [rowT tyB (.slice a2_1 o2_1.length c2_1) 4 o2_1], [rowT tyB (.slice a2_2 o2_2.length c2_2) 4 o2_2], [rowT tyLR (.slice a2_3 n2_1 c2_3) 23 Xs_1], [manyF (inLR tyB 4).row Xs_1]] := H10.kept k2
              refine WD.take hok2 0 (.slice a2_1 o2_1.length c2_1) (fun _ => True) rfl rfl rfl rfl rfl trivial (.inl ⟨rfl, fun _ _ => d_move rfl ⟨rfl, rfl⟩⟩) ?_
              refine WD.take hok2 1 (.int .i64 ((x : Nat) : Int)) (fun _ => True) rfl rfl rfl rfl rfl trivial (.inl ⟨rfl, fun _ _ => d_move rfl ⟨rfl, rfl⟩⟩) ?_
              refine WD.take hok2 2 (elemPtr (.slice a2_1 o2_1.length c2_1) x) (fun w' => RdT tyB w' (.slice a2_1 o2_1.length c2_1) o2_1) rfl rfl rfl rfl rfl (H11.rdT 1 rfl) (.inl ⟨rfl, fun _ hC => t_addr1 x (T := tyB) rfl Try.underlying23 sz4 rfl rfl hC rfl (by first | omega | (have := q3.row d.start.toNat (by omega); omega)) ⟨rfl, rfl⟩⟩) ?_
              refine WD.take hok2 3 (.bool (o2_1.getD x false)) (fun w' => RdT tyB w' (.slice a2_1 o2_1.length c2_1) o2_1) rfl rfl rfl rfl rfl (H11.rdT 1 rfl) (.inl ⟨rfl, fun _ hC => t_load1 x false (T := tyB) rfl Try.underlying4 rfl rfl hC (by first | omega | (have := q3.row d.start.toNat (by omega); omega)) rfl ⟨rfl, rfl⟩⟩) ?_
              refine WD.take hok2 4 (.bool lv) (fun _ => True) rfl rfl rfl rfl rfl trivial (.inl ⟨rfl, fun _ _ => d_move rfl ⟨rfl, rfl⟩⟩) ?_
              refine WD.take hok2 5 (.bool (decide ((o2_1.getD x false) ≠ lv))) (fun _ => True) rfl rfl rfl rfl rfl trivial (.inl ⟨rfl, fun _ _ => d_boolne Try.underlying4 rfl rfl ⟨rfl, rfl⟩⟩) ?_
              refine WD.take hok2 6 (.bool (decide ((o2_1.getD x false) ≠ lv))) (fun _ => True) rfl rfl rfl rfl rfl trivial (.inl ⟨rfl, fun _ _ => d_move rfl ⟨rfl, rfl⟩⟩) ?_
              refine WD.part 76 (p := (o2_1.getD x false) ≠ lv) rfl (fun g64 => ?_) (fun g64 => ?_)
              · skip
                exact absurd ((live_agrees hrt q3 q1 (by omega) (by omega)).trans hlv.symm) g64
              · skip
                refine WD.take hok2 7 (.slice a2_2 o2_2.length c2_2) (fun _ => True) rfl rfl rfl rfl rfl trivial (.inl ⟨rfl, fun _ _ => d_move rfl ⟨rfl, rfl⟩⟩) ?_
                refine WD.take hok2 8 (.int .i64 ((x : Nat) : Int)) (fun _ => True) rfl rfl rfl rfl rfl trivial (.inl ⟨rfl, fun _ _ => d_move rfl ⟨rfl, rfl⟩⟩) ?_
                refine WD.take hok2 9 (elemPtr (.slice a2_2 o2_2.length c2_2) x) (fun w' => RdT tyB w' (.slice a2_2 o2_2.length c2_2) o2_2) rfl rfl rfl rfl rfl (H11.rdT 2 rfl) (.inl ⟨rfl, fun _ hC => t_addr1 x (T := tyB) rfl Try.underlying23 sz4 rfl rfl hC rfl (by first | omega | (have := q3.row d.start.toNat (by omega); omega)) ⟨rfl, rfl⟩⟩) ?_
                refine WD.take hok2 10 (.bool (o2_2.getD x false)) (fun w' => RdT tyB w' (.slice a2_2 o2_2.length c2_2) o2_2) rfl rfl rfl rfl rfl (H11.rdT 2 rfl) (.inl ⟨rfl, fun _ hC => t_load1 x false (T := tyB) rfl Try.underlying4 rfl rfl hC (by first | omega | (have := q3.row d.start.toNat (by omega); omega)) rfl ⟨rfl, rfl⟩⟩) ?_
                refine WD.take hok2 11 (.slice a2_3 n2_1 c2_3) (fun _ => True) rfl rfl rfl rfl rfl trivial (.inl ⟨rfl, fun _ _ => d_move rfl ⟨rfl, rfl⟩⟩) ?_
                refine WD.take hok2 12 (.pointer (some ⟨w.heap.size, 2, none⟩)) (fun _ => True) rfl rfl rfl rfl rfl trivial (.inl ⟨rfl, fun _ _ => d_fieldAddrB fld25_2 rfl rfl ⟨rfl, rfl⟩⟩) ?_
                refine WD.take hok2 13 (.int .i64 d.start) (fun w' => w'.heap[w.heap.size]? = some (.cells #[.slice dca d.cls.length dcc, .int .i64 d.width, .int .i64 d.start, .slice dna d.next.length dnc, .slice dba d.acc.length dbc] 25 (0, 0))) rfl rfl rfl rfl rfl (H11.blk 0 rfl) (.inl ⟨rfl, fun _ hC => d_loadB Try.underlying3 rfl rfl hC rfl ⟨rfl, rfl⟩⟩) ?_
                refine WD.take hok2 14 (elemPtr (.slice a2_3 n2_1 c2_3) d.start.toNat) (fun w' => RdT tyLR w' (.slice a2_3 n2_1 c2_3) Xs_1) rfl rfl rfl rfl rfl (H11.rdT 3 rfl) (.inl ⟨rfl, fun _ hC => t_addr1 d.start.toNat (T := tyLR) rfl Try.underlying29 sz23 rfl rfl hC (by first | omega | (have := q3.row d.start.toNat (by omega); omega)) (by first | omega | (have := q3.row d.start.toNat (by omega); omega)) ⟨rfl, rfl⟩⟩) ?_
                refine WD.take hok2 15 (.slice ((Xs_1.getD d.start.toNat lr0).a) ((Xs_1.getD d.start.toNat lr0).n) ((Xs_1.getD d.start.toNat lr0).c)) (fun w' => RdT tyLR w' (.slice a2_3 n2_1 c2_3) Xs_1) rfl rfl rfl rfl rfl (H11.rdT 3 rfl) (.inl ⟨rfl, fun _ hC => t_load1 d.start.toNat lr0 (T := tyLR) rfl Try.underlying23 rfl rfl hC (by first | omega | (have := q3.row d.start.toNat (by omega); omega)) rfl ⟨rfl, rfl⟩⟩) ?_
                refine WD.take hok2 16 (.int .i64 ((x : Nat) : Int)) (fun _ => True) rfl rfl rfl rfl rfl trivial (.inl ⟨rfl, fun _ _ => d_move rfl ⟨rfl, rfl⟩⟩) ?_
                refine WD.take hok2 17 (elemPtr (.slice ((Xs_1.getD d.start.toNat lr0).a) ((Xs_1.getD d.start.toNat lr0).n) ((Xs_1.getD d.start.toNat lr0).c)) x) (fun w' => RdT tyB w' (.slice ((Xs_1.getD d.start.toNat lr0).a) ((Xs_1.getD d.start.toNat lr0).n) ((Xs_1.getD d.start.toNat lr0).c)) ((Xs_1.getD d.start.toNat lr0).xs)) rfl rfl rfl rfl rfl (show RdT tyB w11 (.slice ((Xs_1.getD d.start.toNat lr0).a) ((Xs_1.getD d.start.toNat lr0).n) ((Xs_1.getD d.start.toNat lr0).c)) ((Xs_1.getD d.start.toNat lr0).xs) from (Inn.own (H11.hpOf 4 rfl)).get lr0 d.start.toNat (by omega)) (.inl ⟨rfl, fun _ hC => t_addr1 x (T := tyB) rfl Try.underlying23 sz4 rfl rfl hC rfl (by first | omega | (have := q3.row d.start.toNat (by omega); omega)) ⟨rfl, rfl⟩⟩) ?_
                refine WD.take hok2 18 (.bool (((Xs_1.getD d.start.toNat lr0).xs).getD x false)) (fun w' => RdT tyB w' (.slice ((Xs_1.getD d.start.toNat lr0).a) ((Xs_1.getD d.start.toNat lr0).n) ((Xs_1.getD d.start.toNat lr0).c)) ((Xs_1.getD d.start.toNat lr0).xs)) rfl rfl rfl rfl rfl (show RdT tyB w11 (.slice ((Xs_1.getD d.start.toNat lr0).a) ((Xs_1.getD d.start.toNat lr0).n) ((Xs_1.getD d.start.toNat lr0).c)) ((Xs_1.getD d.start.toNat lr0).xs) from (Inn.own (H11.hpOf 4 rfl)).get lr0 d.start.toNat (by omega)) (.inl ⟨rfl, fun _ hC => t_load1 x false (T := tyB) rfl Try.underlying4 rfl rfl hC (by first | omega | (have := q3.row d.start.toNat (by omega); omega)) rfl ⟨rfl, rfl⟩⟩) ?_
                refine WD.take hok2 19 (.bool (decide ((o2_2.getD x false) ≠ (((Xs_1.getD d.start.toNat lr0).xs).getD x false)))) (fun _ => True) rfl rfl rfl rfl rfl trivial (.inl ⟨rfl, fun _ _ => d_boolne Try.underlying4 rfl rfl ⟨rfl, rfl⟩⟩) ?_
                refine WD.take hok2 20 (.bool (decide ((o2_2.getD x false) ≠ (((Xs_1.getD d.start.toNat lr0).xs).getD x false)))) (fun _ => True) rfl rfl rfl rfl rfl trivial (.inl ⟨rfl, fun _ _ => d_pick rfl rfl ⟨rfl, rfl⟩⟩) ?_
                refine WD.done hok2 rfl (X.then_code ?_)
                refine W.pick [90, 89, 88, 87, 86, 85, 84, 83, 82, 81, 80, 79, 78, 77, 76, 75, 74, 73, 72, 71, 70, 50, 49, 48, 47, 8, 7, 44, 43, 42, 41, 6, 5, 4, 3, 2, 1] (Γ' := [(90, .bool (decide ((o2_2.getD x false) ≠ (((Xs_1.getD d.start.toNat lr0).xs).getD x false)))), (89, .bool (decide ((o2_2.getD x false) ≠ (((Xs_1.getD d.start.toNat lr0).xs).getD x false)))), (88, .bool (((Xs_1.getD d.start.toNat lr0).xs).getD x false)), (87, elemPtr (.slice ((Xs_1.getD d.start.toNat lr0).a) ((Xs_1.getD d.start.toNat lr0).n) ((Xs_1.getD d.start.toNat lr0).c)) x), (86, .int .i64 ((x : Nat) : Int)), (85, .slice ((Xs_1.getD d.start.toNat lr0).a) ((Xs_1.getD d.start.toNat lr0).n) ((Xs_1.getD d.start.toNat lr0).c)), (84, elemPtr (.slice a2_3 n2_1 c2_3) d.start.toNat), (83, .int .i64 d.start), (82, .pointer (some ⟨w.heap.size, 2, none⟩)), (81, .slice a2_3 n2_1 c2_3), (80, .bool (o2_2.getD x false)), (79, elemPtr (.slice a2_2 o2_2.length c2_2) x), (78, .int .i64 ((x : Nat) : Int)), (77, .slice a2_2 o2_2.length c2_2), (76, .bool false), (75, .bool (decide ((o2_1.getD x false) ≠ lv))), (74, .bool lv), (73, .bool (o2_1.getD x false)), (72, elemPtr (.slice a2_1 o2_1.length c2_1) x), (71, .int .i64 ((x : Nat) : Int)), (70, .slice a2_1 o2_1.length c2_1), (50, .bool (decide (((k : Nat) : Int) < ((n2_1 : Nat) : Int)))), (49, .int .i64 ((n2_1 : Nat) : Int)), (48, .slice a2_3 n2_1 c2_3), (47, .int .i64 ((k : Nat) : Int)), (8, .int .i64 ((k : Nat) : Int)), (7, .bool lv), (44, .bool (decide (((x : Nat) : Int) < ((n2_1 : Nat) : Int)))), (43, .int .i64 ((n2_1 : Nat) : Int)), (42, .slice a2_3 n2_1 c2_3), (41, .int .i64 ((x : Nat) : Int)), (6, .int .i64 ((x : Nat) : Int)), (5, .slice a2_3 n2_1 c2_3), (4, .slice a2_2 o2_2.length c2_2), (3, .slice a2_1 o2_1.length c2_1), (2, .bool false), (1, .pointer (some ⟨w.heap.size, 0, none⟩))]) rfl ?_
                refine W.ite (p := (o2_2.getD x false) ≠ (((Xs_1.getD d.start.toNat lr0).xs).getD x false)) rfl (fun c64 => ?_) (fun c64 => ?_)
                · skip
                  exfalso; exact absurd (reach_agrees hrt q3 q2 (by omega)) c64
                · skip
                  refine W.skip (X.block_normal (X.then_code ?_))
                  refine W.pick [90, 89, 88, 87, 86, 85, 84, 83, 82, 81, 80, 79, 78, 77, 76, 75, 74, 73, 72, 71, 70, 50, 49, 48, 47, 8, 7, 44, 43, 42, 41, 6, 5, 4, 3, 2, 1] (Γ' := [(90, .bool (decide ((o2_2.getD x false) ≠ (((Xs_1.getD d.start.toNat lr0).xs).getD x false)))), (89, .bool (decide ((o2_2.getD x false) ≠ (((Xs_1.getD d.start.toNat lr0).xs).getD x false)))), (88, .bool (((Xs_1.getD d.start.toNat lr0).xs).getD x false)), (87, elemPtr (.slice ((Xs_1.getD d.start.toNat lr0).a) ((Xs_1.getD d.start.toNat lr0).n) ((Xs_1.getD d.start.toNat lr0).c)) x), (86, .int .i64 ((x : Nat) : Int)), (85, .slice ((Xs_1.getD d.start.toNat lr0).a) ((Xs_1.getD d.start.toNat lr0).n) ((Xs_1.getD d.start.toNat lr0).c)), (84, elemPtr (.slice a2_3 n2_1 c2_3) d.start.toNat), (83, .int .i64 d.start), (82, .pointer (some ⟨w.heap.size, 2, none⟩)), (81, .slice a2_3 n2_1 c2_3), (80, .bool (o2_2.getD x false)), (79, elemPtr (.slice a2_2 o2_2.length c2_2) x), (78, .int .i64 ((x : Nat) : Int)), (77, .slice a2_2 o2_2.length c2_2), (76, .bool false), (75, .bool (decide ((o2_1.getD x false) ≠ lv))), (74, .bool lv), (73, .bool (o2_1.getD x false)), (72, elemPtr (.slice a2_1 o2_1.length c2_1) x), (71, .int .i64 ((x : Nat) : Int)), (70, .slice a2_1 o2_1.length c2_1), (50, .bool (decide (((k : Nat) : Int) < ((n2_1 : Nat) : Int)))), (49, .int .i64 ((n2_1 : Nat) : Int)), (48, .slice a2_3 n2_1 c2_3), (47, .int .i64 ((k : Nat) : Int)), (8, .int .i64 ((k : Nat) : Int)), (7, .bool lv), (44, .bool (decide (((x : Nat) : Int) < ((n2_1 : Nat) : Int)))), (43, .int .i64 ((n2_1 : Nat) : Int)), (42, .slice a2_3 n2_1 c2_3), (41, .int .i64 ((x : Nat) : Int)), (6, .int .i64 ((x : Nat) : Int)), (5, .slice a2_3 n2_1 c2_3), (4, .slice a2_2 o2_2.length c2_2), (3, .slice a2_1 o2_1.length c2_1), (2, .bool false), (1, .pointer (some ⟨w.heap.size, 0, none⟩))]) rfl ?_
                  refine W.region ?_
                  refine WL.op rfl (d_move rfl ?_)
                  refine WL.op rfl (d_add rfl rfl (by omega) (by omega) ?_)
                  refine WL.op rfl (d_assign rfl ?_)
                  refine WL.done ?_
                  exact X.next [6, 5, 4, 3, 2, 1] (Γ' := [(6, .int .i64 (((x + 1) : Nat) : Int)), (5, .slice a2_3 n2_1 c2_3), (4, .slice a2_2 o2_2.length c2_2), (3, .slice a2_1 o2_1.length c2_1), (2, .bool false), (1, .pointer (some ⟨w.heap.size, 0, none⟩))]) rfl (d.acc.length - (x + 1)) (by omega) ⟨x + 1, rfl, H11, (by first | assumption | omega | simp), rfl⟩
          · skip
            refine W.exit (X.then_exit (X.then_exit (X.block_exit (X.then_code ?_))))
            refine W.seq ?_
            refine W.region ?_
            refine WL.op rfl (d_assign rfl ?_)
            refine WL.done (X.then_code ?_)
            refine W.ret (X.ret1 rfl rfl ?_)
            exact ⟨rfl, H9.noneL⟩
end Go.Proofs.Ytoeockpkkmgieaa
