/- The walks of functions, printed by wip/tools/gw.py. -/
import Derived.Test.YtoeockpkkmgieaaF2
import Derived.Test.YtoeockpkkmgieaaSx7
import Derived.Test.YtoeockpkkmgieaaB1
import Derived.Test.YtoeockpkkmgieaaK2
import Derived.Test.YtoeockpkkmgieaaMon0
namespace Go.Proofs.Ytoeockpkkmgieaa
open Go Go.Sx
set_option linter.unusedVariables false
set_option linter.unusedSimpArgs false
set_option maxRecDepth 20000 in
theorem key_any (toa : Option Addr) (to : List Int) (toc : Nat) (ton : Nat) (w : World) (rto : RdT (tyI .i64) w (.slice toa ton toc) to) (hl : to.length ≤ 1000000) :
    Calls Try.prog 64 #[.slice toa ton toc] w (Ret fun v w' => v = .string (keyS to) ∧ Upd w [] w' []) := by
  obtain rfl : ton = to.length := rto.len
  have le_rto := rto.le
  refine calls_of_W (args := [.slice toa to.length toc]) Try.func64 rfl rfl rfl ?_
  have H0 : UpG w [] w [] := UpG.nil w
  show W _ _ _ _ [(0, .slice toa to.length toc)] w
  refine W.seq ?_
  refine W.region ?_
  refine WL.op rfl (d_assign rfl ?_)
  refine WL.done (X.then_code ?_)
  refine W.seq ?_
  refine W.region ?_
  refine WL.op rfl (d_move rfl ?_)
  refine WL.op rfl (d_lenS Try.underlying22 rfl ?_)
  refine WL.op rfl (d_mul rfl rfl (by omega) (by omega) ?_)
  refine WL.op rfl (t_make0 (2 * to.length) (T := (tyI .u8)) rfl Try.underlying85 sz5 rfl rfl rfl (by omega) (by omega) fun w1 u1 => ?_)
  have H1 : UpG w [] w1 [[rowT (tyI .u8) (.slice (some ⟨w.heap.size, 0, none⟩) (([] : List Int).length) (2 * to.length)) 5 ([] : List Int)]] := H0.new' u1
  refine WL.op rfl (d_assign rfl ?_)
  refine WL.done (X.then_code ?_)
  refine W.seq ?_
  refine W.seq ?_
  refine W.region ?_
  refine WL.op rfl (d_move rfl ?_)
  refine WL.op rfl (d_lenS Try.underlying22 rfl ?_)
  refine WL.op rfl (d_move rfl ?_)
  refine WL.done (X.then_code ?_)
  refine W.block ?_
  refine W.pick [12, 11, 10, 3, 2] (Γ' := [(12, .int .i64 0), (11, .int .i64 ((to.length : Nat) : Int)), (10, .slice toa to.length toc), (3, .slice (some ⟨w.heap.size, 0, none⟩) (([] : List Int).length) (2 * to.length)), (2, .string ⟨#[]⟩)]) rfl ?_
  refine W.loop (fun m Γ' w' => ∃ k : Nat, ∃ q : List Int, ∃ qa : Option Addr, ∃ qc : Nat, Γ' = [(12, .int .i64 ((k : Nat) : Int)), (11, .int .i64 ((to.length : Nat) : Int)), (10, .slice toa to.length toc), (3, .slice qa q.length qc), (2, .string ⟨#[]⟩)] ∧ UpG w [] w' [[rowT (tyI .u8) (.slice qa q.length qc) 5 q]] ∧ (k ≤ to.length) ∧ (q = keyL (to.take k)) ∧ (q.length = 2 * k) ∧ m = to.length - k) (to.length - 0) ⟨0, ([] : List Int), (some ⟨w.heap.size, 0, none⟩), 2 * to.length, rfl, H1, (by first | assumption | omega | simp), (by rfl), (by rfl), rfl⟩ ?_
  rintro m1 Γ1 w2 ⟨k, q, qa, qc, rfl, H2, hk, hq, hql, rfl⟩
  refine W.seq ?_
  refine W.region ?_
  refine WL.op rfl (d_cmp (decide (((k : Nat) : Int) < ((to.length : Nat) : Int))) rfl rfl rfl ?_)
  refine WL.done (X.then_code ?_)
  refine W.seq ?_
  refine W.ite (p := ((k : Nat) : Int) < ((to.length : Nat) : Int)) rfl (fun c21 => ?_) (fun c21 => ?_)
  · skip
    refine W.skip (X.then_code ?_)
    refine W.seq ?_
    refine W.block ?_
    refine W.seq ?_
    refine W.region ?_
    refine WL.op rfl (t_addr1 k (T := (tyI .i64)) rfl Try.underlying22 sz3 rfl rfl (rto.at H2) rfl (by omega) ?_)
    refine WL.op rfl (t_load1 k 0 (T := (tyI .i64)) rfl Try.underlying3 rfl rfl (rto.at H2) (by omega) rfl ?_)
    refine WL.op rfl (d_assign rfl ?_)
    refine WL.done (X.then_code ?_)
    refine W.region ?_
    refine WL.op rfl (d_move rfl ?_)
    refine WL.op rfl (d_move rfl ?_)
    refine WL.op rfl (d_shr rfl rfl (by omega) ?_)
    refine WL.op rfl (d_conv Try.underlying3 Try.underlying5 rfl ?_)
    refine WL.op rfl (d_move rfl ?_)
    refine WL.op rfl (d_conv Try.underlying3 Try.underlying5 rfl ?_)
    refine WL.op rfl (t_buildSlice (T := (tyI .u8)) (xs := [IntKind.u8.wrap ((to.getD k 0).fdiv (2 ^ (min (8 : Int).toNat 64))), IntKind.u8.wrap (to.getD k 0)]) (cs := #[.int .u8 (IntKind.u8.wrap ((to.getD k 0).fdiv (2 ^ (min (8 : Int).toNat 64)))), .int .u8 (IntKind.u8.wrap (to.getD k 0))]) rfl Try.underlying85 sz5 rfl rfl rfl rfl (by kernel_rfl) rfl rfl fun w3 u2 => ?_)
    have H3 : UpG w [] w3 [[rowT (tyI .u8) (.slice qa q.length qc) 5 q], [rowT (tyI .u8) (.slice (some ⟨w2.heap.size, 0, none⟩) ([IntKind.u8.wrap ((to.getD k 0).fdiv (2 ^ (min (8 : Int).toNat 64))), IntKind.u8.wrap (to.getD k 0)].length) ([IntKind.u8.wrap ((to.getD k 0).fdiv (2 ^ (min (8 : Int).toNat 64))), IntKind.u8.wrap (to.getD k 0)].length)) 5 [IntKind.u8.wrap ((to.getD k 0).fdiv (2 ^ (min (8 : Int).toNat 64))), IntKind.u8.wrap (to.getD k 0)]]] := H2.new' u2
    refine WL.op rfl (t_append (T := (tyI .u8)) (xs := q) (ys := [IntKind.u8.wrap ((to.getD k 0).fdiv (2 ^ (min (8 : Int).toNat 64))), IntKind.u8.wrap (to.getD k 0)]) rfl Try.underlying85 sz5 rfl rfl rfl (H3.ownT 0 rfl) (H3.rdT 1 rfl) (by simp only [List.length_cons, List.length_nil]; omega) (by simp only [List.length_cons, List.length_nil]; omega) fun a1 c1 w4 u3 => ?_)
    have H4 : UpG w [] w4 [[rowT (tyI .u8) (.slice a1 ((q ++ [IntKind.u8.wrap ((to.getD k 0).fdiv (2 ^ (min (8 : Int).toNat 64))), IntKind.u8.wrap (to.getD k 0)]).length) c1) 5 (q ++ [IntKind.u8.wrap ((to.getD k 0).fdiv (2 ^ (min (8 : Int).toNat 64))), IntKind.u8.wrap (to.getD k 0)])], []] := (H3.on 0 rfl u3).drop 1
    refine WL.op rfl (d_assign rfl ?_)
    refine WL.done (X.block_normal (X.then_code ?_))
    refine W.region ?_
    refine WL.op rfl (d_add rfl rfl (by omega) (by omega) ?_)
    refine WL.op rfl (d_move rfl ?_)
    refine WL.done ?_
    exact X.next [12, 11, 10, 3, 2] (Γ' := [(12, .int .i64 (((k + 1) : Nat) : Int)), (11, .int .i64 ((to.length : Nat) : Int)), (10, .slice toa to.length toc), (3, .slice a1 ((q ++ [IntKind.u8.wrap ((to.getD k 0).fdiv (2 ^ (min (8 : Int).toNat 64))), IntKind.u8.wrap (to.getD k 0)]).length) c1), (2, .string ⟨#[]⟩)]) rfl (to.length - (k + 1)) (by omega) ⟨k + 1, q ++ [IntKind.u8.wrap ((to.getD k 0).fdiv (2 ^ (min (8 : Int).toNat 64))), IntKind.u8.wrap (to.getD k 0)], a1, c1, rfl, (H4.re rfl), (by first | assumption | omega | simp), (by rw [hq]; exact keyL_step (by omega)), (by rw [List.length_append, hql]; simp only [List.length_cons, List.length_nil]; omega), rfl⟩
  · skip
    refine W.exit (X.then_exit (X.then_exit (X.block_exit (X.then_code ?_))))
    refine W.seq ?_
    refine W.region ?_
    refine WL.op rfl (d_move rfl ?_)
    refine WL.op rfl (d_bytesStr Try.underlying85 Try.underlying5 Try.underlying9 rfl (H2.rdT 0 rfl) ?_)
    refine WL.op rfl (d_assign rfl ?_)
    refine WL.done (X.then_code ?_)
    refine W.ret (X.ret1 rfl rfl ?_)
    exact ⟨(by rw [hq, List.take_of_length_le (by omega)]; rfl), H2.noneL⟩

set_option maxRecDepth 20000 in
theorem then_any (xsa : Option Addr) (xs : List Int) (xsc : Nat) (xsn : Nat) (ysa : Option Addr) (ys : List Int) (ysc : Nat) (ysn : Nat) (w : World) (rxs : RdT (tyI .i64) w (.slice xsa xsn xsc) xs) (rys : RdT (tyI .i64) w (.slice ysa ysn ysc) ys) (hl : xs.length * 8 ≤ 140737488355328) :
    Calls Try.prog 71 #[.slice xsa xsn xsc, .slice ysa ysn ysc] w (Ret fun v w' => ∃ a2 : Option Addr, ∃ c2 : Nat, v = .tuple #[.slice a2 ((thenX xs ys).length) c2, .bool (thenB xs ys)] ∧ Upd w [] w' [rowT (tyI .i64) (.slice a2 ((thenX xs ys).length) c2) 3 (thenX xs ys)]) := by
  obtain rfl : xsn = xs.length := rxs.len
  obtain rfl : ysn = ys.length := rys.len
  have le_rxs := rxs.le
  have le_rys := rys.le
  refine calls_of_W (args := [.slice xsa xs.length xsc, .slice ysa ys.length ysc]) Try.func71 rfl rfl rfl ?_
  have H0 : UpG w [] w [] := UpG.nil w
  show W _ _ _ _ [(0, .slice xsa xs.length xsc), (1, .slice ysa ys.length ysc)] w
  refine W.seq ?_
  refine W.region ?_
  refine WL.op rfl (d_assign rfl ?_)
  refine WL.op rfl (d_assign rfl ?_)
  refine WL.done (X.then_code ?_)
  refine W.seq ?_
  refine W.region ?_
  refine WL.op rfl (d_move rfl ?_)
  refine WL.op rfl (d_lenS Try.underlying22 rfl ?_)
  refine WL.op rfl (t_make xs.length (0 : Int) (T := (tyI .i64)) rfl Try.underlying22 sz3 rfl rfl rfl rfl (by omega) (by omega) fun w1 u1 => ?_)
  have H1 : UpG w [] w1 [[rowT (tyI .i64) (.slice (some ⟨w.heap.size, 0, none⟩) ((List.replicate xs.length (0 : Int)).length) xs.length) 3 (List.replicate xs.length (0 : Int))]] := H0.new' u1
  refine WL.op rfl (d_assign rfl ?_)
  refine WL.done (X.then_code ?_)
  refine W.seq ?_
  refine W.seq ?_
  refine W.region ?_
  refine WL.op rfl (d_move rfl ?_)
  refine WL.op rfl (d_lenS Try.underlying22 rfl ?_)
  refine WL.op rfl (d_move rfl ?_)
  refine WL.done (X.then_code ?_)
  refine W.block ?_
  refine W.pick [14, 13, 12, 6, 5, 4, 1] (Γ' := [(14, .int .i64 0), (13, .int .i64 ((xs.length : Nat) : Int)), (12, .slice xsa xs.length xsc), (6, .slice (some ⟨w.heap.size, 0, none⟩) ((List.replicate xs.length (0 : Int)).length) xs.length), (5, .bool false), (4, .slice none 0 0), (1, .slice ysa ys.length ysc)]) rfl ?_
  refine W.loop (fun m Γ' w' => ∃ k : Nat, ∃ q : List Int, Γ' = [(14, .int .i64 ((k : Nat) : Int)), (13, .int .i64 ((xs.length : Nat) : Int)), (12, .slice xsa xs.length xsc), (6, .slice (some ⟨w.heap.size, 0, none⟩) ((List.replicate xs.length (0 : Int)).length) xs.length), (5, .bool false), (4, .slice none 0 0), (1, .slice ysa ys.length ysc)] ∧ UpG w [] w' [[rowT (tyI .i64) (.slice (some ⟨w.heap.size, 0, none⟩) ((List.replicate xs.length (0 : Int)).length) xs.length) 3 q]] ∧ (k ≤ xs.length) ∧ (ThI xs ys q k) ∧ m = xs.length - k) (xs.length - 0) ⟨0, List.replicate xs.length (0 : Int), rfl, H1, (by first | assumption | omega | simp), (by exact ThI.start xs ys), rfl⟩ ?_
  rintro m1 Γ1 w2 ⟨k, q, rfl, H2, hk, hq, rfl⟩
  have hql := hq.len
  refine W.seq ?_
  refine W.region ?_
  refine WL.op rfl (d_cmp (decide (((k : Nat) : Int) < ((xs.length : Nat) : Int))) rfl rfl rfl ?_)
  refine WL.done (X.then_code ?_)
  refine W.seq ?_
  refine W.ite (p := ((k : Nat) : Int) < ((xs.length : Nat) : Int)) rfl (fun c73 => ?_) (fun c73 => ?_)
  · skip
    refine W.skip (X.then_code ?_)
    refine W.seq ?_
    refine W.block ?_
    refine W.seq ?_
    refine W.region ?_
    refine WL.op rfl (d_move rfl ?_)
    refine WL.op rfl (t_addr1 k (T := (tyI .i64)) rfl Try.underlying22 sz3 rfl rfl (rxs.at H2) rfl (by omega) ?_)
    refine WL.op rfl (t_load1 k 0 (T := (tyI .i64)) rfl Try.underlying3 rfl rfl (rxs.at H2) (by omega) rfl ?_)
    refine WL.op rfl (d_assign rfl ?_)
    refine WL.op rfl (d_assign rfl ?_)
    refine WL.done (X.then_code ?_)
    refine W.seq ?_
    refine W.seq ?_
    refine W.region ?_
    refine WL.op rfl (d_move rfl ?_)
    refine WL.op rfl (d_cmp (decide ((xs.getD k 0) < (0 : Int))) rfl rfl rfl ?_)
    refine WL.op rfl (d_move rfl ?_)
    refine WL.part 21 (p := (xs.getD k 0) < (0 : Int)) rfl (fun g74 => ?_) (fun g74 => ?_)
    · skip
      refine WL.opN rfl rfl rfl rfl ?_
      refine WL.opN rfl rfl rfl rfl ?_
      refine WL.opN rfl rfl rfl rfl ?_
      refine WL.opN rfl rfl rfl rfl ?_
      refine WL.op rfl (d_pick rfl rfl ?_)
      refine WL.done (X.then_code ?_)
      refine W.ift rfl ?_
      refine W.seq ?_
      refine W.region ?_
      refine WL.op rfl (d_assign rfl ?_)
      refine WL.op rfl (d_assign rfl ?_)
      refine WL.done (X.then_code ?_)
      refine W.ret (X.then_ret (X.block_ret (X.then_ret (X.then_ret (X.block_ret (X.then_ret (X.ret2 rfl rfl rfl ?_)))))))
      have e2 : thenB xs ys = false := thenB_no (k := k) (by omega) (by omega)
      have e1 := thenX_no e2
      rw [e1, e2]
      exact ⟨none, 0, (by rfl), nilOwn H2⟩
    · skip
      refine WL.opG rfl rfl rfl (d_move rfl ?_)
      refine WL.opG rfl rfl rfl (d_move rfl ?_)
      refine WL.opG rfl rfl rfl (d_lenS Try.underlying22 rfl ?_)
      refine WL.opG rfl rfl rfl (d_cmp (decide ((xs.getD k 0) ≥ ((ys.length : Nat) : Int))) rfl rfl rfl ?_)
      refine WL.op rfl (d_pick rfl rfl ?_)
      refine WL.done (X.then_code ?_)
      refine W.ite (p := (xs.getD k 0) ≥ ((ys.length : Nat) : Int)) rfl (fun c74 => ?_) (fun c74 => ?_)
      · skip
        refine W.seq ?_
        refine W.region ?_
        refine WL.op rfl (d_assign rfl ?_)
        refine WL.op rfl (d_assign rfl ?_)
        refine WL.done (X.then_code ?_)
        refine W.ret (X.then_ret (X.block_ret (X.then_ret (X.then_ret (X.block_ret (X.then_ret (X.ret2 rfl rfl rfl ?_)))))))
        have e2 : thenB xs ys = false := thenB_no (k := k) (by omega) (by omega)
        have e1 := thenX_no e2
        rw [e1, e2]
        exact ⟨none, 0, (by rfl), nilOwn H2⟩
      · skip
        refine W.skip (X.then_code ?_)
        refine W.region ?_
        refine WL.op rfl (d_move rfl ?_)
        refine WL.op rfl (d_move rfl ?_)
        refine WL.op rfl (d_move rfl ?_)
        refine WL.op rfl (d_move rfl ?_)
        refine WL.op rfl (t_addr1 ((xs.getD k 0).toNat) (T := (tyI .i64)) rfl Try.underlying22 sz3 rfl rfl (rys.at H2) (by omega) (by omega) ?_)
        refine WL.op rfl (t_load1 ((xs.getD k 0).toNat) 0 (T := (tyI .i64)) rfl Try.underlying3 rfl rfl (rys.at H2) (by omega) rfl ?_)
        refine WL.op rfl (t_addr1 k (T := (tyI .i64)) rfl Try.underlying22 sz3 rfl rfl (H2.rdT 0 rfl) rfl (by omega) ?_)
        refine WL.op0 (t_store1 k (ys.getD ((xs.getD k 0).toNat) 0) (T := (tyI .i64)) (e := 3) rfl sz3 rfl rfl rfl (H2.ownT 0 rfl) (by omega) fun w3 u2 => ?_)
        have H3 : UpG w [] w3 [[rowT (tyI .i64) (.slice (some ⟨w.heap.size, 0, none⟩) ((List.replicate xs.length (0 : Int)).length) xs.length) 3 (q.set k (ys.getD ((xs.getD k 0).toNat) 0))]] := H2.on 0 rfl u2
        refine WL.done (X.block_normal (X.then_code ?_))
        refine W.region ?_
        refine WL.op rfl (d_add rfl rfl (by omega) (by omega) ?_)
        refine WL.op rfl (d_move rfl ?_)
        refine WL.done ?_
        exact X.next [14, 13, 12, 6, 5, 4, 1] (Γ' := [(14, .int .i64 (((k + 1) : Nat) : Int)), (13, .int .i64 ((xs.length : Nat) : Int)), (12, .slice xsa xs.length xsc), (6, .slice (some ⟨w.heap.size, 0, none⟩) ((List.replicate xs.length (0 : Int)).length) xs.length), (5, .bool false), (4, .slice none 0 0), (1, .slice ysa ys.length ysc)]) rfl (xs.length - (k + 1)) (by omega) ⟨k + 1, q.set k (ys.getD ((xs.getD k 0).toNat) 0), rfl, H3, (by first | assumption | omega | simp), (by exact hq.step (by omega) (by omega)), rfl⟩
  · skip
    refine W.exit (X.then_exit (X.then_exit (X.block_exit (X.then_code ?_))))
    refine W.seq ?_
    refine W.region ?_
    refine WL.op rfl (d_move rfl ?_)
    refine WL.op rfl (d_assign rfl ?_)
    refine WL.op rfl (d_assign rfl ?_)
    refine WL.done (X.then_code ?_)
    refine W.ret (X.ret2 rfl rfl rfl ?_)
    obtain ⟨e1, e2⟩ := hq.fin (by omega)
    rw [e1, e2]
    exact ⟨(some ⟨w.heap.size, 0, none⟩), xs.length, (by rw [hql, List.length_replicate]), (by have h9 := H2.one 0 rfl; rw [List.length_replicate] at h9; rw [hql]; exact h9)⟩

set_option maxRecDepth 20000 in
theorem thenR_any (xsa : Option Addr) (xs : List Int) (xsc : Nat) (xsn : Nat) (ysa : Option Addr) (ys : List Int) (ysc : Nat) (ysn : Nat) (w : World) (rxs : RdT (tyI .i64) w (.slice xsa xsn xsc) xs) (rys : RdT (tyI .i64) w (.slice ysa ysn ysc) ys) (hl : xs.length * 8 ≤ 140737488355328) (ht : thenB xs ys = true) :
    Calls Try.prog 34 #[.slice xsa xsn xsc, .slice ysa ysn ysc] w (Ret fun v w' => ∃ a2 : Option Addr, ∃ c2 : Nat, v = .slice a2 ((thenL xs ys).length) c2 ∧ Upd w [] w' [rowT (tyI .i64) (.slice a2 ((thenL xs ys).length) c2) 3 (thenL xs ys)]) := by
  obtain rfl : xsn = xs.length := rxs.len
  obtain rfl : ysn = ys.length := rys.len
  have le_rxs := rxs.le
  have le_rys := rys.le
  refine calls_of_W (args := [.slice xsa xs.length xsc, .slice ysa ys.length ysc]) Try.func34 rfl rfl rfl ?_
  have H0 : UpG w [] w [] := UpG.nil w
  show W _ _ _ _ [(0, .slice xsa xs.length xsc), (1, .slice ysa ys.length ysc)] w
  refine W.seq ?_
  refine W.region ?_
  refine WL.op rfl (d_assign rfl ?_)
  refine WL.done (X.then_code ?_)
  refine W.seq ?_
  refine W.region ?_
  refine WL.op rfl (d_assign rfl ?_)
  refine WL.done (X.then_code ?_)
  refine W.seq ?_
  refine W.seq ?_
  refine W.region ?_
  refine WL.op rfl (d_assign rfl ?_)
  refine WL.done (X.then_code ?_)
  refine W.block ?_
  have H1 : UpG w [] w [[rowT (tyI .i64) (.slice none (([] : List Int).length) 0) 3 ([] : List Int)]] := H0.new' (Upd.nilRowT w (tyI .i64) 3)
  refine W.pick [6, 5, 4, 0, 1] (Γ' := [(6, .int .i64 0), (5, .slice none (([] : List Int).length) 0), (4, .slice none 0 0), (0, .slice xsa xs.length xsc), (1, .slice ysa ys.length ysc)]) rfl ?_
  refine W.loop (fun m Γ' w' => ∃ k : Nat, ∃ q : List Int, ∃ qa : Option Addr, ∃ qc : Nat, Γ' = [(6, .int .i64 ((k : Nat) : Int)), (5, .slice qa q.length qc), (4, .slice none 0 0), (0, .slice xsa xs.length xsc), (1, .slice ysa ys.length ysc)] ∧ UpG w [] w' [[rowT (tyI .i64) (.slice qa q.length qc) 3 q]] ∧ (k ≤ xs.length) ∧ (q = thenL (xs.take k) ys) ∧ (q.length = k) ∧ m = xs.length - k) (xs.length - 0) ⟨0, ([] : List Int), none, 0, rfl, H1, (by first | assumption | omega | simp), (by rfl), (by rfl), rfl⟩ ?_
  rintro m1 Γ1 w1 ⟨k, q, qa, qc, rfl, H2, hk, hq, hql, rfl⟩
  refine W.seq ?_
  refine W.seq ?_
  refine W.region ?_
  refine WL.op rfl (d_move rfl ?_)
  refine WL.op rfl (d_move rfl ?_)
  refine WL.op rfl (d_lenS Try.underlying22 rfl ?_)
  refine WL.op rfl (d_cmp (decide (((k : Nat) : Int) < ((xs.length : Nat) : Int))) rfl rfl rfl ?_)
  refine WL.done (X.then_code ?_)
  refine W.ite (p := ((k : Nat) : Int) < ((xs.length : Nat) : Int)) rfl (fun c63 => ?_) (fun c63 => ?_)
  · skip
    refine W.skip (X.then_code ?_)
    refine W.seq ?_
    refine W.block ?_
    have hti := thenB_at ht (i := k) (by omega)
    refine W.region ?_
    refine WL.op rfl (d_move rfl ?_)
    refine WL.op rfl (d_move rfl ?_)
    refine WL.op rfl (d_move rfl ?_)
    refine WL.op rfl (d_move rfl ?_)
    refine WL.op rfl (t_addr1 k (T := (tyI .i64)) rfl Try.underlying22 sz3 rfl rfl (rxs.at H2) rfl (by omega) ?_)
    refine WL.op rfl (t_load1 k 0 (T := (tyI .i64)) rfl Try.underlying3 rfl rfl (rxs.at H2) (by omega) rfl ?_)
    refine WL.op rfl (t_addr1 ((xs.getD k 0).toNat) (T := (tyI .i64)) rfl Try.underlying22 sz3 rfl rfl (rys.at H2) (by omega) (by omega) ?_)
    refine WL.op rfl (t_load1 ((xs.getD k 0).toNat) 0 (T := (tyI .i64)) rfl Try.underlying3 rfl rfl (rys.at H2) (by omega) rfl ?_)
    refine WL.op rfl (t_buildSlice (T := (tyI .i64)) (xs := [ys.getD ((xs.getD k 0).toNat) 0]) (cs := #[.int .i64 (ys.getD ((xs.getD k 0).toNat) 0)]) rfl Try.underlying22 sz3 rfl rfl rfl rfl (by kernel_rfl) rfl rfl fun w2 u1 => ?_)
    have H3 : UpG w [] w2 [[rowT (tyI .i64) (.slice qa q.length qc) 3 q], [rowT (tyI .i64) (.slice (some ⟨w1.heap.size, 0, none⟩) ([ys.getD ((xs.getD k 0).toNat) 0].length) ([ys.getD ((xs.getD k 0).toNat) 0].length)) 3 [ys.getD ((xs.getD k 0).toNat) 0]]] := H2.new' u1
    refine WL.op rfl (t_append (T := (tyI .i64)) (xs := q) (ys := [ys.getD ((xs.getD k 0).toNat) 0]) rfl Try.underlying22 sz3 rfl rfl rfl (H3.ownT 0 rfl) (H3.rdT 1 rfl) (by simp only [List.length_singleton]; omega) (by simp only [List.length_singleton]; omega) fun a1 c1 w3 u2 => ?_)
    have H4 : UpG w [] w3 [[rowT (tyI .i64) (.slice a1 ((q ++ [ys.getD ((xs.getD k 0).toNat) 0]).length) c1) 3 (q ++ [ys.getD ((xs.getD k 0).toNat) 0])], []] := (H3.on 0 rfl u2).drop 1
    refine WL.op rfl (d_assign rfl ?_)
    refine WL.done (X.block_normal (X.then_code ?_))
    refine W.region ?_
    refine WL.op rfl (d_move rfl ?_)
    refine WL.op rfl (d_add rfl rfl (by omega) (by omega) ?_)
    refine WL.op rfl (d_assign rfl ?_)
    refine WL.done ?_
    exact X.next [6, 5, 4, 0, 1] (Γ' := [(6, .int .i64 (((k + 1) : Nat) : Int)), (5, .slice a1 ((q ++ [ys.getD ((xs.getD k 0).toNat) 0]).length) c1), (4, .slice none 0 0), (0, .slice xsa xs.length xsc), (1, .slice ysa ys.length ysc)]) rfl (xs.length - (k + 1)) (by omega) ⟨k + 1, q ++ [ys.getD ((xs.getD k 0).toNat) 0], a1, c1, rfl, (H4.re rfl), (by first | assumption | omega | simp), (by rw [hq]; exact thenL_step (by omega)), (by simp; omega), rfl⟩
  · skip
    refine W.exit (X.then_exit (X.then_exit (X.block_exit (X.then_code ?_))))
    refine W.seq ?_
    refine W.region ?_
    refine WL.op rfl (d_move rfl ?_)
    refine WL.op rfl (d_assign rfl ?_)
    refine WL.done (X.then_code ?_)
    refine W.ret (X.ret1 rfl rfl ?_)
    have e1 : thenL xs ys = q := by rw [hq, List.take_of_length_le (by omega)]
    rw [e1]
    exact ⟨qa, qc, (by rfl), (by have hh := H2.one 0 rfl; exact hh)⟩

set_option maxRecDepth 20000 in
theorem settles_any (toa : Option Addr) (to : List Int) (toc : Nat) (ton : Nat) (w : World) (rto : RdT (tyI .i64) w (.slice toa ton toc) to) (hl : to.length ≤ 1000000) (ht : thenB to to = true) :
    Calls Try.prog 69 #[.slice toa ton toc] w (Ret fun v w' => v = .bool (settlesB to) ∧ Upd w [] w' []) := by
  obtain rfl : ton = to.length := rto.len
  have le_rto := rto.le
  refine calls_of_W (args := [.slice toa to.length toc]) Try.func69 rfl rfl rfl ?_
  have H0 : UpG w [] w [] := UpG.nil w
  show W _ _ _ _ [(0, .slice toa to.length toc)] w
  refine W.seq ?_
  refine W.region ?_
  refine WL.op rfl (d_assign rfl ?_)
  refine WL.done (X.then_code ?_)
  refine W.seq ?_
  refine W.region ?_
  refine WL.op rfl (d_move rfl ?_)
  refine WL.op rfl (d_assign rfl ?_)
  refine WL.done (X.then_code ?_)
  refine W.seq ?_
  refine W.seq ?_
  refine W.region ?_
  refine WL.op rfl (d_move rfl ?_)
  refine WL.op rfl (d_lenS Try.underlying22 rfl ?_)
  refine WL.op rfl (d_move rfl ?_)
  refine WL.done (X.then_code ?_)
  refine W.block ?_
  refine W.pick [9, 8, 3, 2, 0] (Γ' := [(9, .int .i64 0), (8, .int .i64 ((to.length : Nat) : Int)), (3, .slice toa to.length toc), (2, .bool false), (0, .slice toa to.length toc)]) rfl ?_
  refine W.loop (fun m Γ' w' => (m = to.length + 1 ∧ Γ' = [(9, .int .i64 0), (8, .int .i64 ((to.length : Nat) : Int)), (3, .slice toa to.length toc), (2, .bool false), (0, .slice toa to.length toc)] ∧ UpG w [] w' []) ∨ (∃ k : Nat, ∃ al : List Int, ∃ aa : Option Addr, ∃ ac : Nat, Γ' = [(9, .int .i64 ((k : Nat) : Int)), (8, .int .i64 ((to.length : Nat) : Int)), (3, .slice aa al.length ac), (2, .bool false), (0, .slice toa to.length toc)] ∧ UpG w [] w' [[rowT (tyI .i64) (.slice aa al.length ac) 3 al]] ∧ (k ≤ to.length) ∧ (al = atN to k) ∧ m = to.length - k)) (to.length + 1) (.inl ⟨rfl, rfl, H0⟩) ?_
  rintro m1 Γ1 w1 (⟨rfl, rfl, H1⟩ | ⟨k, al, aa, ac, rfl, H1, hk, hal, rfl⟩)
  · skip
    refine W.seq ?_
    refine W.region ?_
    refine WL.op rfl (d_cmp (decide ((0 : Int) < ((to.length : Nat) : Int))) rfl rfl rfl ?_)
    refine WL.done (X.then_code ?_)
    refine W.seq ?_
    refine W.ite (p := (0 : Int) < ((to.length : Nat) : Int)) rfl (fun c108 => ?_) (fun c108 => ?_)
    · skip
      refine W.skip (X.then_code ?_)
      refine W.seq ?_
      refine W.block ?_
      refine W.region ?_
      refine WL.op rfl (d_move rfl ?_)
      refine WL.op rfl (d_move rfl ?_)
      refine WL.op rfl (d_call ok71 rfl (Ret.calls (then_any toa to toc to.length toa to toc to.length w1 (rto.at H1) (rto.at H1) (by omega)) fun _ w2 p1 => ?_))
      obtain ⟨a2_1, c2_1, rfl, u1⟩ := p1
      have H2 : UpG w [] w2 [[rowT (tyI .i64) (.slice a2_1 ((thenX to to).length) c2_1) 3 (thenX to to)]] := (H1.new' u1).re rfl
      refine WL.op rfl (d_move rfl ?_)
      refine WL.op rfl (d_extract rfl rfl ?_)
      refine WL.op rfl (d_extract rfl rfl ?_)
      refine WL.op rfl (d_assign rfl ?_)
      refine WL.done (X.block_normal (X.then_code ?_))
      refine W.region ?_
      refine WL.op rfl (d_add rfl rfl (by omega) (by omega) ?_)
      refine WL.op rfl (d_move rfl ?_)
      refine WL.done ?_
      exact X.next [9, 8, 3, 2, 0] (Γ' := [(9, .int .i64 ((1 : Nat) : Int)), (8, .int .i64 ((to.length : Nat) : Int)), (3, .slice a2_1 ((thenX to to).length) c2_1), (2, .bool false), (0, .slice toa to.length toc)]) rfl (to.length - 1) (by omega) (.inr ⟨1, thenX to to, a2_1, c2_1, rfl, H2, (by omega), (by first | rfl | (rw [hal]; rfl)), rfl⟩)
    · skip
      refine W.exit (X.then_exit (X.then_exit (X.block_exit (X.then_code ?_))))
      refine W.seq ?_
      refine W.region ?_
      refine WL.op rfl (d_move rfl ?_)
      refine WL.op rfl (d_move rfl ?_)
      refine WL.op rfl (d_call ok71 rfl (Ret.calls (then_any toa to toc to.length toa to toc to.length w1 (rto.at H1) (rto.at H1) (by omega)) fun _ w3 p2 => ?_))
      obtain ⟨a2_2, c2_2, rfl, u2⟩ := p2
      have H3 : UpG w [] w3 [[rowT (tyI .i64) (.slice a2_2 ((thenX to to).length) c2_2) 3 (thenX to to)]] := (H1.new' u2).re rfl
      refine WL.op rfl (d_move rfl ?_)
      refine WL.op rfl (d_extract rfl rfl ?_)
      refine WL.op rfl (d_extract rfl rfl ?_)
      refine WL.op rfl (d_assign rfl ?_)
      refine WL.op rfl (d_assign rfl ?_)
      refine WL.done (X.then_code ?_)
      refine W.seq ?_
      refine W.region ?_
      refine WL.op rfl (d_move rfl ?_)
      refine WL.op rfl (d_move rfl ?_)
      refine WL.op rfl (d_call ok72 rfl (Ret.calls (equalI_any toa to toc to.length a2_2 (thenX to to) c2_2 ((thenX to to).length) w3 (rto.at H3) (H3.rdT 0 rfl) ) fun _ w4 p3 => ?_))
      obtain ⟨rfl, u3⟩ := p3
      have H4 : UpG w [] w4 [[rowT (tyI .i64) (.slice a2_2 ((thenX to to).length) c2_2) 3 (thenX to to)]] := H3.call u3
      refine WL.op rfl (d_assign rfl ?_)
      refine WL.done (X.then_code ?_)
      refine W.ret (X.ret1 rfl rfl ?_)
      exact ⟨(by first | (unfold settlesB; rw [show to.length = 0 by omega]; rfl) | (have e9 : k = to.length := (by omega); subst e9; rw [hal]; rfl)), H4.noneL⟩
  · skip
    have hll : al.length = to.length := by rw [hal]; exact (thenB_atN ht k).1
    refine W.seq ?_
    refine W.region ?_
    refine WL.op rfl (d_cmp (decide (((k : Nat) : Int) < ((to.length : Nat) : Int))) rfl rfl rfl ?_)
    refine WL.done (X.then_code ?_)
    refine W.seq ?_
    refine W.ite (p := ((k : Nat) : Int) < ((to.length : Nat) : Int)) rfl (fun c108 => ?_) (fun c108 => ?_)
    · skip
      refine W.skip (X.then_code ?_)
      refine W.seq ?_
      refine W.block ?_
      refine W.region ?_
      refine WL.op rfl (d_move rfl ?_)
      refine WL.op rfl (d_move rfl ?_)
      refine WL.op rfl (d_call ok71 rfl (Ret.calls (then_any aa al ac al.length toa to toc to.length w1 (H1.rdT 0 rfl) (rto.at H1) (by omega)) fun _ w5 p4 => ?_))
      obtain ⟨a2_3, c2_3, rfl, u4⟩ := p4
      have H5 : UpG w [] w5 [[rowT (tyI .i64) (.slice aa al.length ac) 3 al], [rowT (tyI .i64) (.slice a2_3 ((thenX al to).length) c2_3) 3 (thenX al to)]] := (H1.new' u4).re rfl
      refine WL.op rfl (d_move rfl ?_)
      refine WL.op rfl (d_extract rfl rfl ?_)
      refine WL.op rfl (d_extract rfl rfl ?_)
      refine WL.op rfl (d_assign rfl ?_)
      refine WL.done (X.block_normal (X.then_code ?_))
      refine W.region ?_
      refine WL.op rfl (d_add rfl rfl (by omega) (by omega) ?_)
      refine WL.op rfl (d_move rfl ?_)
      refine WL.done ?_
      exact X.next [9, 8, 3, 2, 0] (Γ' := [(9, .int .i64 (((k + 1) : Nat) : Int)), (8, .int .i64 ((to.length : Nat) : Int)), (3, .slice a2_3 ((thenX al to).length) c2_3), (2, .bool false), (0, .slice toa to.length toc)]) rfl (to.length - (k + 1)) (by omega) (.inr ⟨k + 1, thenX al to, a2_3, c2_3, rfl, (UpG.of (G := [[rowT (tyI .i64) (.slice a2_3 ((thenX al to).length) c2_3) 3 (thenX al to)]]) (Upd.sel H5 (M := [rowT (tyI .i64) (.slice a2_3 ((thenX al to).length) c2_3) 3 (thenX al to)]) (l := [1]) rfl rfl) rfl), (by omega), (by first | rfl | (rw [hal]; rfl)), rfl⟩)
    · skip
      refine W.exit (X.then_exit (X.then_exit (X.block_exit (X.then_code ?_))))
      refine W.seq ?_
      refine W.region ?_
      refine WL.op rfl (d_move rfl ?_)
      refine WL.op rfl (d_move rfl ?_)
      refine WL.op rfl (d_call ok71 rfl (Ret.calls (then_any aa al ac al.length toa to toc to.length w1 (H1.rdT 0 rfl) (rto.at H1) (by omega)) fun _ w6 p5 => ?_))
      obtain ⟨a2_4, c2_4, rfl, u5⟩ := p5
      have H6 : UpG w [] w6 [[rowT (tyI .i64) (.slice aa al.length ac) 3 al], [rowT (tyI .i64) (.slice a2_4 ((thenX al to).length) c2_4) 3 (thenX al to)]] := (H1.new' u5).re rfl
      refine WL.op rfl (d_move rfl ?_)
      refine WL.op rfl (d_extract rfl rfl ?_)
      refine WL.op rfl (d_extract rfl rfl ?_)
      refine WL.op rfl (d_assign rfl ?_)
      refine WL.op rfl (d_assign rfl ?_)
      refine WL.done (X.then_code ?_)
      refine W.seq ?_
      refine W.region ?_
      refine WL.op rfl (d_move rfl ?_)
      refine WL.op rfl (d_move rfl ?_)
      refine WL.op rfl (d_call ok72 rfl (Ret.calls (equalI_any aa al ac al.length a2_4 (thenX al to) c2_4 ((thenX al to).length) w6 (H6.rdT 0 rfl) (H6.rdT 1 rfl) ) fun _ w7 p6 => ?_))
      obtain ⟨rfl, u6⟩ := p6
      have H7 : UpG w [] w7 [[rowT (tyI .i64) (.slice aa al.length ac) 3 al], [rowT (tyI .i64) (.slice a2_4 ((thenX al to).length) c2_4) 3 (thenX al to)]] := H6.call u6
      refine WL.op rfl (d_assign rfl ?_)
      refine WL.done (X.then_code ?_)
      refine W.ret (X.ret1 rfl rfl ?_)
      exact ⟨(by first | (unfold settlesB; rw [show to.length = 0 by omega]; rfl) | (have e9 : k = to.length := (by omega); subst e9; rw [hal]; rfl)), H7.noneL⟩

set_option maxRecDepth 20000 in
theorem settlesR_any (toa : Option Addr) (to : List Int) (toc : Nat) (ton : Nat) (w : World) (rto : RdT (tyI .i64) w (.slice toa ton toc) to) (hl : to.length ≤ 1000000) (ht : thenB to to = true) :
    Calls Try.prog 33 #[.slice toa ton toc] w (Ret fun v w' => v = .bool (settlesB to) ∧ Upd w [] w' []) := by
  obtain rfl : ton = to.length := rto.len
  have le_rto := rto.le
  refine calls_of_W (args := [.slice toa to.length toc]) Try.func33 rfl rfl rfl ?_
  have H0 : UpG w [] w [] := UpG.nil w
  show W _ _ _ _ [(0, .slice toa to.length toc)] w
  refine W.seq ?_
  refine W.region ?_
  refine WL.op rfl (d_assign rfl ?_)
  refine WL.done (X.then_code ?_)
  refine W.seq ?_
  refine W.region ?_
  refine WL.op rfl (d_move rfl ?_)
  refine WL.op rfl (d_assign rfl ?_)
  refine WL.done (X.then_code ?_)
  refine W.seq ?_
  refine W.seq ?_
  refine W.region ?_
  refine WL.op rfl (d_assign rfl ?_)
  refine WL.done (X.then_code ?_)
  refine W.block ?_
  refine W.pick [4, 3, 2, 0] (Γ' := [(4, .int .i64 0), (3, .slice toa to.length toc), (2, .bool false), (0, .slice toa to.length toc)]) rfl ?_
  refine W.loop (fun m Γ' w' => (m = to.length + 1 + 1 ∧ Γ' = [(4, .int .i64 0), (3, .slice toa to.length toc), (2, .bool false), (0, .slice toa to.length toc)] ∧ UpG w [] w' []) ∨ (∃ k : Nat, ∃ al : List Int, ∃ aa : Option Addr, ∃ ac : Nat, Γ' = [(4, .int .i64 ((k : Nat) : Int)), (3, .slice aa al.length ac), (2, .bool false), (0, .slice toa to.length toc)] ∧ UpG w [] w' [[rowT (tyI .i64) (.slice aa al.length ac) 3 al]] ∧ (k ≤ to.length + 1) ∧ (al = atN to k) ∧ (∀ i, i < k → atN to i ≠ atN to (i + 1)) ∧ m = to.length + 1 - k)) (to.length + 1 + 1) (.inl ⟨rfl, rfl, H0⟩) ?_
  rintro m1 Γ1 w1 (⟨rfl, rfl, H1⟩ | ⟨k, al, aa, ac, rfl, H1, hk, hal, hno, rfl⟩)
  · skip
    refine W.seq ?_
    refine W.seq ?_
    refine W.region ?_
    refine WL.op rfl (d_move rfl ?_)
    refine WL.op rfl (d_move rfl ?_)
    refine WL.op rfl (d_lenS Try.underlying22 rfl ?_)
    refine WL.op rfl (d_cmp (decide ((0 : Int) ≤ ((to.length : Nat) : Int))) rfl rfl rfl ?_)
    refine WL.done (X.then_code ?_)
    refine W.ite (p := (0 : Int) ≤ ((to.length : Nat) : Int)) rfl (fun c72 => ?_) (fun c72 => ?_)
    · skip
      refine W.skip (X.then_code ?_)
      refine W.seq ?_
      refine W.block ?_
      refine W.seq ?_
      refine W.region ?_
      refine WL.op rfl (d_move rfl ?_)
      refine WL.op rfl (d_move rfl ?_)
      refine WL.op rfl (d_call ok34 rfl (Ret.calls (thenR_any toa to toc to.length toa to toc to.length w1 (rto.at H1) (rto.at H1) (by omega) (by first | exact hlt | exact ht)) fun _ w2 p1 => ?_))
      obtain ⟨a2_1, c2_1, rfl, u1⟩ := p1
      have H2 : UpG w [] w2 [[rowT (tyI .i64) (.slice a2_1 ((thenL to to).length) c2_1) 3 (thenL to to)]] := (H1.new' u1).re rfl
      refine WL.op rfl (d_assign rfl ?_)
      refine WL.done (X.then_code ?_)
      refine W.seq ?_
      refine W.seq ?_
      refine W.region ?_
      refine WL.op rfl (d_move rfl ?_)
      refine WL.op rfl (d_move rfl ?_)
      refine WL.op rfl (d_call ok32 rfl (Ret.calls (same10_any toa to toc to.length a2_1 (thenL to to) c2_1 ((thenL to to).length) w2 (rto.at H2) (H2.rdT 0 rfl) ) fun _ w3 p2 => ?_))
      obtain ⟨rfl, u2⟩ := p2
      have H3 : UpG w [] w3 [[rowT (tyI .i64) (.slice a2_1 ((thenL to to).length) c2_1) 3 (thenL to to)]] := H2.call u2
      refine WL.done (X.then_code ?_)
      refine W.ite (p := to = (thenL to to)) rfl (fun c74 => ?_) (fun c74 => ?_)
      · skip
        refine W.seq ?_
        refine W.region ?_
        refine WL.op rfl (d_assign rfl ?_)
        refine WL.done (X.then_code ?_)
        refine W.ret (X.then_ret (X.block_ret (X.then_ret (X.then_ret (X.block_ret (X.then_ret (X.ret1 rfl rfl ?_)))))))
        exact ⟨(by first | rw [settles_yes (n := 0) (by omega) (by show to = thenX to to; rw [thenX_yes ht]; exact c74)] | rw [settles_yes (n := k) (by omega) (by show atN to k = thenX (atN to k) to; rw [← hal, thenX_yes hlt]; exact c74)]), H3.noneL⟩
      · skip
        refine W.skip (X.then_code ?_)
        refine W.region ?_
        refine WL.op rfl (d_move rfl ?_)
        refine WL.op rfl (d_assign rfl ?_)
        refine WL.done (X.block_normal (X.then_code ?_))
        refine W.region ?_
        refine WL.op rfl (d_move rfl ?_)
        refine WL.op rfl (d_add rfl rfl (by omega) (by omega) ?_)
        refine WL.op rfl (d_assign rfl ?_)
        refine WL.done ?_
        exact X.next [4, 3, 2, 0] (Γ' := [(4, .int .i64 ((1 : Nat) : Int)), (3, .slice a2_1 ((thenL to to).length) c2_1), (2, .bool false), (0, .slice toa to.length toc)]) rfl (to.length + 1 - 1) (by omega) (.inr ⟨1, thenL to to, a2_1, c2_1, rfl, H3, (by omega), (by first | (rw [← thenX_yes ht]; rfl) | (rw [← thenX_yes hlt, hal]; rfl)), (by first | exact all_step hno (by rw [← hal]; show al ≠ thenX (atN to k) to; rw [← hal, thenX_yes hlt]; exact c74) | (intro i hi; have e0 : i = 0 := (by simpa using hi); subst e0; show to ≠ thenX to to; rw [thenX_yes ht]; exact c74)), rfl⟩)
    · skip
      refine W.exit (X.then_exit (X.then_exit (X.block_exit (X.then_code ?_))))
      refine W.seq ?_
      refine W.region ?_
      refine WL.op rfl (d_assign rfl ?_)
      refine WL.done (X.then_code ?_)
      refine W.ret (X.ret1 rfl rfl ?_)
      exact ⟨(by first | (exfalso; omega) | rw [settles_no (fun i hi => hno i (by omega))]), H1.noneL⟩
  · skip
    have hll : al.length = to.length := by rw [hal]; exact (thenB_atN ht k).1
    have hlt : thenB al to = true := by rw [hal]; exact (thenB_atN ht k).2
    refine W.seq ?_
    refine W.seq ?_
    refine W.region ?_
    refine WL.op rfl (d_move rfl ?_)
    refine WL.op rfl (d_move rfl ?_)
    refine WL.op rfl (d_lenS Try.underlying22 rfl ?_)
    refine WL.op rfl (d_cmp (decide (((k : Nat) : Int) ≤ ((to.length : Nat) : Int))) rfl rfl rfl ?_)
    refine WL.done (X.then_code ?_)
    refine W.ite (p := ((k : Nat) : Int) ≤ ((to.length : Nat) : Int)) rfl (fun c72 => ?_) (fun c72 => ?_)
    · skip
      refine W.skip (X.then_code ?_)
      refine W.seq ?_
      refine W.block ?_
      refine W.seq ?_
      refine W.region ?_
      refine WL.op rfl (d_move rfl ?_)
      refine WL.op rfl (d_move rfl ?_)
      refine WL.op rfl (d_call ok34 rfl (Ret.calls (thenR_any aa al ac al.length toa to toc to.length w1 (H1.rdT 0 rfl) (rto.at H1) (by omega) (by first | exact hlt | exact ht)) fun _ w4 p3 => ?_))
      obtain ⟨a2_2, c2_2, rfl, u3⟩ := p3
      have H4 : UpG w [] w4 [[rowT (tyI .i64) (.slice aa al.length ac) 3 al], [rowT (tyI .i64) (.slice a2_2 ((thenL al to).length) c2_2) 3 (thenL al to)]] := (H1.new' u3).re rfl
      refine WL.op rfl (d_assign rfl ?_)
      refine WL.done (X.then_code ?_)
      refine W.seq ?_
      refine W.seq ?_
      refine W.region ?_
      refine WL.op rfl (d_move rfl ?_)
      refine WL.op rfl (d_move rfl ?_)
      refine WL.op rfl (d_call ok32 rfl (Ret.calls (same10_any aa al ac al.length a2_2 (thenL al to) c2_2 ((thenL al to).length) w4 (H4.rdT 0 rfl) (H4.rdT 1 rfl) ) fun _ w5 p4 => ?_))
      obtain ⟨rfl, u4⟩ := p4
      have H5 : UpG w [] w5 [[rowT (tyI .i64) (.slice aa al.length ac) 3 al], [rowT (tyI .i64) (.slice a2_2 ((thenL al to).length) c2_2) 3 (thenL al to)]] := H4.call u4
      refine WL.done (X.then_code ?_)
      refine W.ite (p := al = (thenL al to)) rfl (fun c74 => ?_) (fun c74 => ?_)
      · skip
        refine W.seq ?_
        refine W.region ?_
        refine WL.op rfl (d_assign rfl ?_)
        refine WL.done (X.then_code ?_)
        refine W.ret (X.then_ret (X.block_ret (X.then_ret (X.then_ret (X.block_ret (X.then_ret (X.ret1 rfl rfl ?_)))))))
        exact ⟨(by first | rw [settles_yes (n := 0) (by omega) (by show to = thenX to to; rw [thenX_yes ht]; exact c74)] | rw [settles_yes (n := k) (by omega) (by show atN to k = thenX (atN to k) to; rw [← hal, thenX_yes hlt]; exact c74)]), H5.noneL⟩
      · skip
        refine W.skip (X.then_code ?_)
        refine W.region ?_
        refine WL.op rfl (d_move rfl ?_)
        refine WL.op rfl (d_assign rfl ?_)
        refine WL.done (X.block_normal (X.then_code ?_))
        refine W.region ?_
        refine WL.op rfl (d_move rfl ?_)
        refine WL.op rfl (d_add rfl rfl (by omega) (by omega) ?_)
        refine WL.op rfl (d_assign rfl ?_)
        refine WL.done ?_
        exact X.next [4, 3, 2, 0] (Γ' := [(4, .int .i64 (((k + 1) : Nat) : Int)), (3, .slice a2_2 ((thenL al to).length) c2_2), (2, .bool false), (0, .slice toa to.length toc)]) rfl (to.length + 1 - (k + 1)) (by omega) (.inr ⟨k + 1, thenL al to, a2_2, c2_2, rfl, (UpG.of (G := [[rowT (tyI .i64) (.slice a2_2 ((thenL al to).length) c2_2) 3 (thenL al to)]]) (Upd.sel H5 (M := [rowT (tyI .i64) (.slice a2_2 ((thenL al to).length) c2_2) 3 (thenL al to)]) (l := [1]) rfl rfl) rfl), (by omega), (by first | (rw [← thenX_yes ht]; rfl) | (rw [← thenX_yes hlt, hal]; rfl)), (by first | exact all_step hno (by rw [← hal]; show al ≠ thenX (atN to k) to; rw [← hal, thenX_yes hlt]; exact c74) | (intro i hi; have e0 : i = 0 := (by simpa using hi); subst e0; show to ≠ thenX to to; rw [thenX_yes ht]; exact c74)), rfl⟩)
    · skip
      refine W.exit (X.then_exit (X.then_exit (X.block_exit (X.then_code ?_))))
      refine W.seq ?_
      refine W.region ?_
      refine WL.op rfl (d_assign rfl ?_)
      refine WL.done (X.then_code ?_)
      refine W.ret (X.ret1 rfl rfl ?_)
      exact ⟨(by first | (exfalso; omega) | rw [settles_no (fun i hi => hno i (by omega))]), H1.noneL⟩
end Go.Proofs.Ytoeockpkkmgieaa
