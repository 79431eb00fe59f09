/- The walks of functions, printed by wip/tools/gw.py. -/
import Derived.Test.YtoeockpkkmgieaaF2
import Derived.Test.YtoeockpkkmgieaaSx7
import Derived.Test.YtoeockpkkmgieaaA3
import Derived.Test.YtoeockpkkmgieaaDfa2
import Derived.Test.YtoeockpkkmgieaaSx9
namespace Go.Proofs.Ytoeockpkkmgieaa
open Go Go.Sx
set_option linter.unusedVariables false
set_option linter.unusedSimpArgs false
set_option maxRecDepth 20000 in
theorem spreadR_any (todoa : Option Addr) (todo : List Int) (todoc : Nat) (n : Nat) (next : FuncId) (nextc : List Value) (nx : Int → List Int) (w : World) (hp : Hp w [rowT (tyI .i64) (.slice todoa todo.length todoc) 3 todo]) (hn : n ≤ 5000 ∧ todo.length ≤ 5000) (hr : ∀ t, t ∈ todo → 0 ≤ t ∧ t < (n : Int)) (hnx : ∀ s, 0 ≤ s → s < (n : Int) → (nx s).length ≤ 2000000 ∧ ∀ t, t ∈ nx s → 0 ≤ t ∧ t < (n : Int)) (hok : CallOk Try.prog next) (hf : ClosR Try.prog next nextc nx n (ats [rowT (tyI .i64) (.slice todoa todo.length todoc) 3 todo]) w) :
    Calls Try.prog 58 #[.slice todoa todo.length todoc, .int .i64 ((n : Nat) : Int), .func (.func next) #[] nextc.toArray] w (Ret fun v w' => ∃ a2 : Option Addr, ∃ o2 : List Bool, ∃ c2 : Nat, v = .slice a2 o2.length c2 ∧ Upd w [rowT (tyI .i64) (.slice todoa todo.length todoc) 3 todo] w' [rowT tyB (.slice a2 o2.length c2) 4 o2] ∧ (SprF nx n todo o2)) := by
  refine calls_of_W (args := [.slice todoa todo.length todoc, .int .i64 ((n : Nat) : Int), .func (.func next) #[] nextc.toArray]) Try.func58 rfl rfl rfl ?_
  have H0 : UpG w [rowT (tyI .i64) (.slice todoa todo.length todoc) 3 todo] w [[rowT (tyI .i64) (.slice todoa todo.length todoc) 3 todo]] := (UpG.refl hp).re rfl
  show W _ _ _ _ [(0, .slice todoa todo.length todoc), (1, .int .i64 ((n : Nat) : Int)), (2, .func (.func next) #[] nextc.toArray)] w
  refine W.seq ?_
  refine W.region ?_
  refine WL.op rfl (d_assign rfl ?_)
  refine WL.done (X.then_code ?_)
  refine W.seq ?_
  refine W.region ?_
  refine WL.op rfl (d_move rfl ?_)
  refine WL.op rfl (t_make n false (T := tyB) rfl Try.underlying23 sz4 rfl rfl rfl rfl (by omega) (by omega) fun w1 u1 => ?_)
  have H1 : UpG w [rowT (tyI .i64) (.slice todoa todo.length todoc) 3 todo] w1 [[rowT (tyI .i64) (.slice todoa todo.length todoc) 3 todo], [rowT tyB (.slice (some ⟨w.heap.size, 0, none⟩) ((List.replicate n false).length) n) 4 (List.replicate n false)]] := H0.new' u1
  refine WL.op rfl (d_assign rfl ?_)
  refine WL.done (X.then_code ?_)
  refine W.seq ?_
  refine W.seq ?_
  refine W.region ?_
  refine WL.op rfl (d_move rfl ?_)
  refine WL.op rfl (d_lenS Try.underlying22 rfl ?_)
  refine WL.op rfl (d_move rfl ?_)
  refine WL.done (X.then_code ?_)
  refine W.block ?_
  refine W.pick [17, 16, 15, 7, 6, 0, 2] (Γ' := [(17, .int .i64 0), (16, .int .i64 ((todo.length : Nat) : Int)), (15, .slice todoa todo.length todoc), (7, .slice (some ⟨w.heap.size, 0, none⟩) ((List.replicate n false).length) n), (6, .slice none 0 0), (0, .slice todoa todo.length todoc), (2, .func (.func next) #[] nextc.toArray)]) rfl ?_
  refine W.loop (fun m Γ' w' => ∃ k : Nat, ∃ o : List Bool, Γ' = [(17, .int .i64 ((k : Nat) : Int)), (16, .int .i64 ((todo.length : Nat) : Int)), (15, .slice todoa todo.length todoc), (7, .slice (some ⟨w.heap.size, 0, none⟩) ((List.replicate n false).length) n), (6, .slice none 0 0), (0, .slice todoa todo.length todoc), (2, .func (.func next) #[] nextc.toArray)] ∧ UpG w [rowT (tyI .i64) (.slice todoa todo.length todoc) 3 todo] w' [[rowT (tyI .i64) (.slice todoa todo.length todoc) 3 todo], [rowT tyB (.slice (some ⟨w.heap.size, 0, none⟩) ((List.replicate n false).length) n) 4 o]] ∧ (k ≤ todo.length) ∧ (SprA n todo o k) ∧ m = todo.length - k) (todo.length - 0) ⟨0, List.replicate n false, rfl, H1, (by first | assumption | omega | simp), (by exact SprA.start n todo), rfl⟩ ?_
  rintro m1 Γ1 w2 ⟨k, o, rfl, H2, hk, ha, rfl⟩
  have hol := ha.len
  refine W.seq ?_
  refine W.region ?_
  refine WL.op rfl (d_cmp (decide (((k : Nat) : Int) < ((todo.length : Nat) : Int))) rfl rfl rfl ?_)
  refine WL.done (X.then_code ?_)
  refine W.seq ?_
  refine W.ite (p := ((k : Nat) : Int) < ((todo.length : Nat) : Int)) rfl (fun c124 => ?_) (fun c124 => ?_)
  · skip
    refine W.skip (X.then_code ?_)
    refine W.seq ?_
    refine W.block ?_
    refine W.seq ?_
    refine W.region ?_
    refine WL.op rfl (t_addr1 k (T := (tyI .i64)) rfl Try.underlying22 sz3 rfl rfl (H2.rdT 0 rfl) rfl (by omega) ?_)
    refine WL.op rfl (t_load1 k 0 (T := (tyI .i64)) rfl Try.underlying3 rfl rfl (H2.rdT 0 rfl) (by omega) rfl ?_)
    refine WL.op rfl (d_assign rfl ?_)
    refine WL.done (X.then_code ?_)
    have hb := hr (todo.getD k 0) (getD_mem' (by omega))
    refine W.region ?_
    refine WL.op rfl (d_move rfl ?_)
    refine WL.op rfl (d_move rfl ?_)
    refine WL.op rfl (t_addr1 ((todo.getD k 0).toNat) (T := tyB) rfl Try.underlying23 sz4 rfl rfl (H2.rdT 1 rfl) (by omega) (by omega) ?_)
    refine WL.op0 (t_store1 ((todo.getD k 0).toNat) true (T := tyB) (e := 4) rfl sz4 rfl rfl rfl (H2.ownT 1 rfl) (by omega) fun w3 u2 => ?_)
    have H3 : UpG w [rowT (tyI .i64) (.slice todoa todo.length todoc) 3 todo] w3 [[rowT (tyI .i64) (.slice todoa todo.length todoc) 3 todo], [rowT tyB (.slice (some ⟨w.heap.size, 0, none⟩) ((List.replicate n false).length) n) 4 (o.set ((todo.getD k 0).toNat) true)]] := H2.on 1 rfl u2
    refine WL.done (X.block_normal (X.then_code ?_))
    refine W.region ?_
    refine WL.op rfl (d_add rfl rfl (by omega) (by omega) ?_)
    refine WL.op rfl (d_move rfl ?_)
    refine WL.done ?_
    exact X.next [17, 16, 15, 7, 6, 0, 2] (Γ' := [(17, .int .i64 (((k + 1) : Nat) : Int)), (16, .int .i64 ((todo.length : Nat) : Int)), (15, .slice todoa todo.length todoc), (7, .slice (some ⟨w.heap.size, 0, none⟩) ((List.replicate n false).length) n), (6, .slice none 0 0), (0, .slice todoa todo.length todoc), (2, .func (.func next) #[] nextc.toArray)]) rfl (todo.length - (k + 1)) (by omega) ⟨k + 1, o.set ((todo.getD k 0).toNat) true, rfl, H3, (by first | assumption | omega | simp), (by exact ha.step (by omega) hr), rfl⟩
  · skip
    refine W.exit (X.then_exit (X.then_exit (X.block_exit (X.then_code ?_))))
    refine W.seq ?_
    refine W.block ?_
    have hcf := cf_le o
    refine W.pick [7, 6, 0, 2] (Γ' := [(7, .slice (some ⟨w.heap.size, 0, none⟩) ((List.replicate n false).length) n), (6, .slice none 0 0), (0, .slice todoa todo.length todoc), (2, .func (.func next) #[] nextc.toArray)]) rfl ?_
    refine W.loop (fun m Γ' w' => ∃ o : List Bool, ∃ td : List Int, ∃ ta : Option Addr, ∃ tc : Nat, Γ' = [(7, .slice (some ⟨w.heap.size, 0, none⟩) ((List.replicate n false).length) n), (6, .slice none 0 0), (0, .slice ta td.length tc), (2, .func (.func next) #[] nextc.toArray)] ∧ UpG w [rowT (tyI .i64) (.slice todoa todo.length todoc) 3 todo] w' [[rowT (tyI .i64) (.slice ta td.length tc) 3 td], [rowT tyB (.slice (some ⟨w.heap.size, 0, none⟩) ((List.replicate n false).length) n) 4 o]] ∧ (SprI nx n todo o td) ∧ (2 * cf o + td.length ≤ 20000) ∧ m = 2 * cf o + td.length) (2 * cf o + todo.length) ⟨o, todo, todoa, todoc, rfl, H2, (by exact ha.done (by omega) hr), (by omega), rfl⟩ ?_
    rintro m2 Γ2 w4 ⟨o_1, td, ta, tc, rfl, H4, hi, hB, rfl⟩
    have hol2 := hi.len
    refine W.seq ?_
    refine W.seq ?_
    refine W.region ?_
    refine WL.op rfl (d_move rfl ?_)
    refine WL.op rfl (d_lenS Try.underlying22 rfl ?_)
    refine WL.op rfl (d_cmp (decide (((td.length : Nat) : Int) > (0 : Int))) rfl rfl rfl ?_)
    refine WL.done (X.then_code ?_)
    refine W.ite (p := ((td.length : Nat) : Int) > (0 : Int)) rfl (fun c127 => ?_) (fun c127 => ?_)
    · skip
      refine W.skip (X.then_code ?_)
      refine W.block ?_
      refine W.seq ?_
      refine W.region ?_
      refine WL.op rfl (d_move rfl ?_)
      refine WL.op rfl (d_move rfl ?_)
      refine WL.op rfl (d_lenS Try.underlying22 rfl ?_)
      refine WL.op rfl (d_sub rfl rfl (by omega) (by omega) ?_)
      refine WL.op rfl (t_addr1 (td.length - 1) (T := (tyI .i64)) rfl Try.underlying22 sz3 rfl rfl (H4.rdT 0 rfl) (by omega) (by omega) ?_)
      refine WL.op rfl (t_load1 (td.length - 1) 0 (T := (tyI .i64)) rfl Try.underlying3 rfl rfl (H4.rdT 0 rfl) (by omega) rfl ?_)
      refine WL.op rfl (d_assign rfl ?_)
      refine WL.done (X.then_code ?_)
      refine W.seq ?_
      refine W.region ?_
      refine WL.op rfl (d_move rfl ?_)
      refine WL.op rfl (d_move rfl ?_)
      refine WL.op rfl (d_lenS Try.underlying22 rfl ?_)
      refine WL.op rfl (d_sub rfl rfl (by omega) (by omega) ?_)
      refine WL.op rfl (t_pop (((td.length : Nat) : Int) - 1) (td.length - 1) (T := (tyI .i64)) (e := 3) (xs := td) rfl Try.underlying22 sz3 rfl rfl (H4.ownT 0 rfl) (by omega) (by omega) fun w5 u3 => ?_)
      have H5 : UpG w [rowT (tyI .i64) (.slice todoa todo.length todoc) 3 todo] w5 [[rowT (tyI .i64) (.slice ta ((td.take (td.length - 1)).length) tc) 3 (td.take (td.length - 1))], [rowT tyB (.slice (some ⟨w.heap.size, 0, none⟩) ((List.replicate n false).length) n) 4 o_1]] := H4.on 0 rfl u3
      refine WL.op rfl (d_assign rfl ?_)
      refine WL.done (X.then_code ?_)
      refine W.pick [0, 38, 37, 36, 35, 34, 10, 33, 32, 31, 30, 29, 28, 27, 26, 25, 7, 6, 2] (Γ' := [(0, .slice ta ((td.take (td.length - 1)).length) tc), (38, .slice ta ((td.take (td.length - 1)).length) tc), (37, .int .i64 (((td.length : Nat) : Int) - 1)), (36, .int .i64 ((td.length : Nat) : Int)), (35, .slice ta td.length tc), (34, .slice ta td.length tc), (10, .int .i64 (td.getD (td.length - 1) 0)), (33, .int .i64 (td.getD (td.length - 1) 0)), (32, elemPtr (.slice ta td.length tc) (td.length - 1)), (31, .int .i64 (((td.length : Nat) : Int) - 1)), (30, .int .i64 ((td.length : Nat) : Int)), (29, .slice ta td.length tc), (28, .slice ta td.length tc), (27, .bool (decide (((td.length : Nat) : Int) > (0 : Int)))), (26, .int .i64 ((td.length : Nat) : Int)), (25, .slice ta td.length tc), (7, .slice (some ⟨w.heap.size, 0, none⟩) ((List.replicate n false).length) n), (6, .slice none 0 0), (2, .func (.func next) #[] nextc.toArray)]) rfl ?_
      refine W.seq ?_
      have hst := (hi.inT (td.getD (td.length - 1) 0) (getD_mem' (by omega))).1
      have hns := hnx _ hst.1 hst.2
      refine W.region ?_
      refine WL.op rfl (d_move rfl ?_)
      refine WL.op rfl (d_move rfl ?_)
      refine WL.op rfl (d_callv hok rfl rfl (Ret.calls (hf w5 H5.keep (td.getD (td.length - 1) 0) (by omega) (by omega)) fun _ w6 p1 => ?_))
      obtain ⟨na1, nc1, rfl, u4⟩ := p1
      have H6 : UpG w [rowT (tyI .i64) (.slice todoa todo.length todoc) 3 todo] w6 [[rowT (tyI .i64) (.slice ta ((td.take (td.length - 1)).length) tc) 3 (td.take (td.length - 1))], [rowT tyB (.slice (some ⟨w.heap.size, 0, none⟩) ((List.replicate n false).length) n) 4 o_1], [rowT (tyI .i64) (.slice na1 ((nx (td.getD (td.length - 1) 0)).length) nc1) 3 (nx (td.getD (td.length - 1) 0))]] := H5.new' u4
      refine WL.op rfl (d_lenS Try.underlying22 rfl ?_)
      refine WL.op rfl (d_move rfl ?_)
      refine WL.done (X.then_code ?_)
      refine W.pick [43, 42, 41, 40, 39, 0, 38, 37, 36, 35, 34, 10, 33, 32, 31, 30, 29, 28, 27, 26, 25, 7, 6, 2] (Γ' := [(43, .int .i64 0), (42, .int .i64 (((nx (td.getD (td.length - 1) 0)).length : Nat) : Int)), (41, .slice na1 ((nx (td.getD (td.length - 1) 0)).length) nc1), (40, .int .i64 (td.getD (td.length - 1) 0)), (39, .func (.func next) #[] nextc.toArray), (0, .slice ta ((td.take (td.length - 1)).length) tc), (38, .slice ta ((td.take (td.length - 1)).length) tc), (37, .int .i64 (((td.length : Nat) : Int) - 1)), (36, .int .i64 ((td.length : Nat) : Int)), (35, .slice ta td.length tc), (34, .slice ta td.length tc), (10, .int .i64 (td.getD (td.length - 1) 0)), (33, .int .i64 (td.getD (td.length - 1) 0)), (32, elemPtr (.slice ta td.length tc) (td.length - 1)), (31, .int .i64 (((td.length : Nat) : Int) - 1)), (30, .int .i64 ((td.length : Nat) : Int)), (29, .slice ta td.length tc), (28, .slice ta td.length tc), (27, .bool (decide (((td.length : Nat) : Int) > (0 : Int)))), (26, .int .i64 ((td.length : Nat) : Int)), (25, .slice ta td.length tc), (7, .slice (some ⟨w.heap.size, 0, none⟩) ((List.replicate n false).length) n), (6, .slice none 0 0), (2, .func (.func next) #[] nextc.toArray)]) rfl ?_
      refine W.block ?_
      refine W.pick [43, 42, 41, 40, 39, 0, 38, 37, 36, 35, 34, 10, 33, 32, 31, 30, 29, 28, 27, 26, 25, 7, 6, 2] (Γ' := [(43, .int .i64 0), (42, .int .i64 (((nx (td.getD (td.length - 1) 0)).length : Nat) : Int)), (41, .slice na1 ((nx (td.getD (td.length - 1) 0)).length) nc1), (40, .int .i64 (td.getD (td.length - 1) 0)), (39, .func (.func next) #[] nextc.toArray), (0, .slice ta ((td.take (td.length - 1)).length) tc), (38, .slice ta ((td.take (td.length - 1)).length) tc), (37, .int .i64 (((td.length : Nat) : Int) - 1)), (36, .int .i64 ((td.length : Nat) : Int)), (35, .slice ta td.length tc), (34, .slice ta td.length tc), (10, .int .i64 (td.getD (td.length - 1) 0)), (33, .int .i64 (td.getD (td.length - 1) 0)), (32, elemPtr (.slice ta td.length tc) (td.length - 1)), (31, .int .i64 (((td.length : Nat) : Int) - 1)), (30, .int .i64 ((td.length : Nat) : Int)), (29, .slice ta td.length tc), (28, .slice ta td.length tc), (27, .bool (decide (((td.length : Nat) : Int) > (0 : Int)))), (26, .int .i64 ((td.length : Nat) : Int)), (25, .slice ta td.length tc), (7, .slice (some ⟨w.heap.size, 0, none⟩) ((List.replicate n false).length) n), (6, .slice none 0 0), (2, .func (.func next) #[] nextc.toArray)]) rfl ?_
      refine W.loop (fun m Γ' w' => ∃ j : Nat, ∃ o3 : List Bool, ∃ tj : List Int, ∃ ua : Option Addr, ∃ uc : Nat, Γ' = [(43, .int .i64 ((j : Nat) : Int)), (42, .int .i64 (((nx (td.getD (td.length - 1) 0)).length : Nat) : Int)), (41, .slice na1 ((nx (td.getD (td.length - 1) 0)).length) nc1), (40, .int .i64 (td.getD (td.length - 1) 0)), (39, .func (.func next) #[] nextc.toArray), (0, .slice ua tj.length uc), (38, .slice ta ((td.take (td.length - 1)).length) tc), (37, .int .i64 (((td.length : Nat) : Int) - 1)), (36, .int .i64 ((td.length : Nat) : Int)), (35, .slice ta td.length tc), (34, .slice ta td.length tc), (10, .int .i64 (td.getD (td.length - 1) 0)), (33, .int .i64 (td.getD (td.length - 1) 0)), (32, elemPtr (.slice ta td.length tc) (td.length - 1)), (31, .int .i64 (((td.length : Nat) : Int) - 1)), (30, .int .i64 ((td.length : Nat) : Int)), (29, .slice ta td.length tc), (28, .slice ta td.length tc), (27, .bool (decide (((td.length : Nat) : Int) > (0 : Int)))), (26, .int .i64 ((td.length : Nat) : Int)), (25, .slice ta td.length tc), (7, .slice (some ⟨w.heap.size, 0, none⟩) ((List.replicate n false).length) n), (6, .slice none 0 0), (2, .func (.func next) #[] nextc.toArray)] ∧ UpG w [rowT (tyI .i64) (.slice todoa todo.length todoc) 3 todo] w' [[rowT (tyI .i64) (.slice ua tj.length uc) 3 tj], [rowT tyB (.slice (some ⟨w.heap.size, 0, none⟩) ((List.replicate n false).length) n) 4 o3], [rowT (tyI .i64) (.slice na1 ((nx (td.getD (td.length - 1) 0)).length) nc1) 3 (nx (td.getD (td.length - 1) 0))]] ∧ (SprJ nx n todo o3 tj (td.getD (td.length - 1) 0) j) ∧ (j ≤ (nx (td.getD (td.length - 1) 0)).length) ∧ (2 * cf o3 + tj.length + 1 ≤ 2 * cf o_1 + td.length) ∧ m = (nx (td.getD (td.length - 1) 0)).length - j) ((nx (td.getD (td.length - 1) 0)).length - 0) ⟨0, o_1, td.take (td.length - 1), ta, tc, rfl, H6, (by exact hi.pop (by omega)), (by first | assumption | omega | simp), (by simp; omega), rfl⟩ ?_
      rintro m3 Γ3 w7 ⟨j, o3, tj, ua, uc, rfl, H7, hj, hjl, hm, rfl⟩
      have hol3 := hj.len
      refine W.seq ?_
      have hst := (hi.inT (td.getD (td.length - 1) 0) (getD_mem' (by omega))).1
      have hns := hnx _ hst.1 hst.2
      refine W.region ?_
      refine WL.op rfl (d_cmp (decide (((j : Nat) : Int) < (((nx (td.getD (td.length - 1) 0)).length : Nat) : Int))) rfl rfl rfl ?_)
      refine WL.done (X.then_code ?_)
      refine W.pick [44, 43, 42, 41, 40, 39, 0, 38, 37, 36, 35, 34, 10, 33, 32, 31, 30, 29, 28, 27, 26, 25, 7, 6, 2] (Γ' := [(44, .bool (decide (((j : Nat) : Int) < (((nx (td.getD (td.length - 1) 0)).length : Nat) : Int)))), (43, .int .i64 ((j : Nat) : Int)), (42, .int .i64 (((nx (td.getD (td.length - 1) 0)).length : Nat) : Int)), (41, .slice na1 ((nx (td.getD (td.length - 1) 0)).length) nc1), (40, .int .i64 (td.getD (td.length - 1) 0)), (39, .func (.func next) #[] nextc.toArray), (0, .slice ua tj.length uc), (38, .slice ta ((td.take (td.length - 1)).length) tc), (37, .int .i64 (((td.length : Nat) : Int) - 1)), (36, .int .i64 ((td.length : Nat) : Int)), (35, .slice ta td.length tc), (34, .slice ta td.length tc), (10, .int .i64 (td.getD (td.length - 1) 0)), (33, .int .i64 (td.getD (td.length - 1) 0)), (32, elemPtr (.slice ta td.length tc) (td.length - 1)), (31, .int .i64 (((td.length : Nat) : Int) - 1)), (30, .int .i64 ((td.length : Nat) : Int)), (29, .slice ta td.length tc), (28, .slice ta td.length tc), (27, .bool (decide (((td.length : Nat) : Int) > (0 : Int)))), (26, .int .i64 ((td.length : Nat) : Int)), (25, .slice ta td.length tc), (7, .slice (some ⟨w.heap.size, 0, none⟩) ((List.replicate n false).length) n), (6, .slice none 0 0), (2, .func (.func next) #[] nextc.toArray)]) rfl ?_
      refine W.seq ?_
      refine W.ite (p := ((j : Nat) : Int) < (((nx (td.getD (td.length - 1) 0)).length : Nat) : Int)) rfl (fun c130 => ?_) (fun c130 => ?_)
      · skip
        refine W.skip (X.then_code ?_)
        refine W.pick [44, 43, 42, 41, 40, 39, 0, 38, 37, 36, 35, 34, 10, 33, 32, 31, 30, 29, 28, 27, 26, 25, 7, 6, 2] (Γ' := [(44, .bool (decide (((j : Nat) : Int) < (((nx (td.getD (td.length - 1) 0)).length : Nat) : Int)))), (43, .int .i64 ((j : Nat) : Int)), (42, .int .i64 (((nx (td.getD (td.length - 1) 0)).length : Nat) : Int)), (41, .slice na1 ((nx (td.getD (td.length - 1) 0)).length) nc1), (40, .int .i64 (td.getD (td.length - 1) 0)), (39, .func (.func next) #[] nextc.toArray), (0, .slice ua tj.length uc), (38, .slice ta ((td.take (td.length - 1)).length) tc), (37, .int .i64 (((td.length : Nat) : Int) - 1)), (36, .int .i64 ((td.length : Nat) : Int)), (35, .slice ta td.length tc), (34, .slice ta td.length tc), (10, .int .i64 (td.getD (td.length - 1) 0)), (33, .int .i64 (td.getD (td.length - 1) 0)), (32, elemPtr (.slice ta td.length tc) (td.length - 1)), (31, .int .i64 (((td.length : Nat) : Int) - 1)), (30, .int .i64 ((td.length : Nat) : Int)), (29, .slice ta td.length tc), (28, .slice ta td.length tc), (27, .bool (decide (((td.length : Nat) : Int) > (0 : Int)))), (26, .int .i64 ((td.length : Nat) : Int)), (25, .slice ta td.length tc), (7, .slice (some ⟨w.heap.size, 0, none⟩) ((List.replicate n false).length) n), (6, .slice none 0 0), (2, .func (.func next) #[] nextc.toArray)]) rfl ?_
        refine W.seq ?_
        refine W.block ?_
        refine W.seq ?_
        have hst := (hi.inT (td.getD (td.length - 1) 0) (getD_mem' (by omega))).1
        have hns := hnx _ hst.1 hst.2
        refine W.region ?_
        refine WL.op rfl (t_addr1 j (T := (tyI .i64)) rfl Try.underlying22 sz3 rfl rfl (H7.rdT 2 rfl) rfl (by omega) ?_)
        refine WL.op rfl (t_load1 j 0 (T := (tyI .i64)) rfl Try.underlying3 rfl rfl (H7.rdT 2 rfl) (by omega) rfl ?_)
        refine WL.op rfl (d_assign rfl ?_)
        refine WL.done (X.then_code ?_)
        refine W.pick [12, 46, 45, 44, 43, 42, 41, 40, 39, 0, 38, 37, 36, 35, 34, 10, 33, 32, 31, 30, 29, 28, 27, 26, 25, 7, 6, 2] (Γ' := [(12, .int .i64 ((nx (td.getD (td.length - 1) 0)).getD j 0)), (46, .int .i64 ((nx (td.getD (td.length - 1) 0)).getD j 0)), (45, elemPtr (.slice na1 ((nx (td.getD (td.length - 1) 0)).length) nc1) j), (44, .bool (decide (((j : Nat) : Int) < (((nx (td.getD (td.length - 1) 0)).length : Nat) : Int)))), (43, .int .i64 ((j : Nat) : Int)), (42, .int .i64 (((nx (td.getD (td.length - 1) 0)).length : Nat) : Int)), (41, .slice na1 ((nx (td.getD (td.length - 1) 0)).length) nc1), (40, .int .i64 (td.getD (td.length - 1) 0)), (39, .func (.func next) #[] nextc.toArray), (0, .slice ua tj.length uc), (38, .slice ta ((td.take (td.length - 1)).length) tc), (37, .int .i64 (((td.length : Nat) : Int) - 1)), (36, .int .i64 ((td.length : Nat) : Int)), (35, .slice ta td.length tc), (34, .slice ta td.length tc), (10, .int .i64 (td.getD (td.length - 1) 0)), (33, .int .i64 (td.getD (td.length - 1) 0)), (32, elemPtr (.slice ta td.length tc) (td.length - 1)), (31, .int .i64 (((td.length : Nat) : Int) - 1)), (30, .int .i64 ((td.length : Nat) : Int)), (29, .slice ta td.length tc), (28, .slice ta td.length tc), (27, .bool (decide (((td.length : Nat) : Int) > (0 : Int)))), (26, .int .i64 ((td.length : Nat) : Int)), (25, .slice ta td.length tc), (7, .slice (some ⟨w.heap.size, 0, none⟩) ((List.replicate n false).length) n), (6, .slice none 0 0), (2, .func (.func next) #[] nextc.toArray)]) rfl ?_
        refine W.seq ?_
        have hb := hns.2 ((nx (td.getD (td.length - 1) 0)).getD j 0) (getD_mem' (by omega))
        refine W.region ?_
        refine WL.op rfl (d_move rfl ?_)
        refine WL.op rfl (d_move rfl ?_)
        refine WL.op rfl (t_addr1 (((nx (td.getD (td.length - 1) 0)).getD j 0).toNat) (T := tyB) rfl Try.underlying23 sz4 rfl rfl (H7.rdT 1 rfl) (by omega) (by omega) ?_)
        refine WL.op rfl (t_load1 (((nx (td.getD (td.length - 1) 0)).getD j 0).toNat) false (T := tyB) rfl Try.underlying4 rfl rfl (H7.rdT 1 rfl) (by omega) rfl ?_)
        refine WL.op rfl (d_notB rfl ?_)
        refine WL.done (X.then_code ?_)
        refine W.pick [51, 50, 49, 48, 47, 12, 46, 45, 44, 43, 42, 41, 40, 39, 0, 38, 37, 36, 35, 34, 10, 33, 32, 31, 30, 29, 28, 27, 26, 25, 7, 6, 2] (Γ' := [(51, .bool (!(o3.getD (((nx (td.getD (td.length - 1) 0)).getD j 0).toNat) false))), (50, .bool (o3.getD (((nx (td.getD (td.length - 1) 0)).getD j 0).toNat) false)), (49, elemPtr (.slice (some ⟨w.heap.size, 0, none⟩) ((List.replicate n false).length) n) (((nx (td.getD (td.length - 1) 0)).getD j 0).toNat)), (48, .int .i64 ((nx (td.getD (td.length - 1) 0)).getD j 0)), (47, .slice (some ⟨w.heap.size, 0, none⟩) ((List.replicate n false).length) n), (12, .int .i64 ((nx (td.getD (td.length - 1) 0)).getD j 0)), (46, .int .i64 ((nx (td.getD (td.length - 1) 0)).getD j 0)), (45, elemPtr (.slice na1 ((nx (td.getD (td.length - 1) 0)).length) nc1) j), (44, .bool (decide (((j : Nat) : Int) < (((nx (td.getD (td.length - 1) 0)).length : Nat) : Int)))), (43, .int .i64 ((j : Nat) : Int)), (42, .int .i64 (((nx (td.getD (td.length - 1) 0)).length : Nat) : Int)), (41, .slice na1 ((nx (td.getD (td.length - 1) 0)).length) nc1), (40, .int .i64 (td.getD (td.length - 1) 0)), (39, .func (.func next) #[] nextc.toArray), (0, .slice ua tj.length uc), (38, .slice ta ((td.take (td.length - 1)).length) tc), (37, .int .i64 (((td.length : Nat) : Int) - 1)), (36, .int .i64 ((td.length : Nat) : Int)), (35, .slice ta td.length tc), (34, .slice ta td.length tc), (10, .int .i64 (td.getD (td.length - 1) 0)), (33, .int .i64 (td.getD (td.length - 1) 0)), (32, elemPtr (.slice ta td.length tc) (td.length - 1)), (31, .int .i64 (((td.length : Nat) : Int) - 1)), (30, .int .i64 ((td.length : Nat) : Int)), (29, .slice ta td.length tc), (28, .slice ta td.length tc), (27, .bool (decide (((td.length : Nat) : Int) > (0 : Int)))), (26, .int .i64 ((td.length : Nat) : Int)), (25, .slice ta td.length tc), (7, .slice (some ⟨w.heap.size, 0, none⟩) ((List.replicate n false).length) n), (6, .slice none 0 0), (2, .func (.func next) #[] nextc.toArray)]) rfl ?_
        refine W.iteB (b := !(o3.getD (((nx (td.getD (td.length - 1) 0)).getD j 0).toNat) false)) rfl (fun c131 => ?_) (fun c131 => ?_)
        · skip
          refine W.seq ?_
          refine W.region ?_
          refine WL.op rfl (d_move rfl ?_)
          refine WL.op rfl (d_move rfl ?_)
          refine WL.op rfl (t_addr1 (((nx (td.getD (td.length - 1) 0)).getD j 0).toNat) (T := tyB) rfl Try.underlying23 sz4 rfl rfl (H7.rdT 1 rfl) (by omega) (by omega) ?_)
          refine WL.op0 (t_store1 (((nx (td.getD (td.length - 1) 0)).getD j 0).toNat) true (T := tyB) (e := 4) rfl sz4 rfl rfl rfl (H7.ownT 1 rfl) (by omega) fun w8 u5 => ?_)
          have H8 : UpG w [rowT (tyI .i64) (.slice todoa todo.length todoc) 3 todo] w8 [[rowT (tyI .i64) (.slice ua tj.length uc) 3 tj], [rowT tyB (.slice (some ⟨w.heap.size, 0, none⟩) ((List.replicate n false).length) n) 4 (o3.set (((nx (td.getD (td.length - 1) 0)).getD j 0).toNat) true)], [rowT (tyI .i64) (.slice na1 ((nx (td.getD (td.length - 1) 0)).length) nc1) 3 (nx (td.getD (td.length - 1) 0))]] := H7.on 1 rfl u5
          refine WL.done (X.then_code ?_)
          refine W.pick [54, 53, 52, 51, 50, 49, 48, 47, 12, 46, 45, 44, 43, 42, 41, 40, 39, 0, 38, 37, 36, 35, 34, 10, 33, 32, 31, 30, 29, 28, 27, 26, 25, 7, 6, 2] (Γ' := [(54, elemPtr (.slice (some ⟨w.heap.size, 0, none⟩) ((List.replicate n false).length) n) (((nx (td.getD (td.length - 1) 0)).getD j 0).toNat)), (53, .int .i64 ((nx (td.getD (td.length - 1) 0)).getD j 0)), (52, .slice (some ⟨w.heap.size, 0, none⟩) ((List.replicate n false).length) n), (51, .bool (!(o3.getD (((nx (td.getD (td.length - 1) 0)).getD j 0).toNat) false))), (50, .bool (o3.getD (((nx (td.getD (td.length - 1) 0)).getD j 0).toNat) false)), (49, elemPtr (.slice (some ⟨w.heap.size, 0, none⟩) ((List.replicate n false).length) n) (((nx (td.getD (td.length - 1) 0)).getD j 0).toNat)), (48, .int .i64 ((nx (td.getD (td.length - 1) 0)).getD j 0)), (47, .slice (some ⟨w.heap.size, 0, none⟩) ((List.replicate n false).length) n), (12, .int .i64 ((nx (td.getD (td.length - 1) 0)).getD j 0)), (46, .int .i64 ((nx (td.getD (td.length - 1) 0)).getD j 0)), (45, elemPtr (.slice na1 ((nx (td.getD (td.length - 1) 0)).length) nc1) j), (44, .bool (decide (((j : Nat) : Int) < (((nx (td.getD (td.length - 1) 0)).length : Nat) : Int)))), (43, .int .i64 ((j : Nat) : Int)), (42, .int .i64 (((nx (td.getD (td.length - 1) 0)).length : Nat) : Int)), (41, .slice na1 ((nx (td.getD (td.length - 1) 0)).length) nc1), (40, .int .i64 (td.getD (td.length - 1) 0)), (39, .func (.func next) #[] nextc.toArray), (0, .slice ua tj.length uc), (38, .slice ta ((td.take (td.length - 1)).length) tc), (37, .int .i64 (((td.length : Nat) : Int) - 1)), (36, .int .i64 ((td.length : Nat) : Int)), (35, .slice ta td.length tc), (34, .slice ta td.length tc), (10, .int .i64 (td.getD (td.length - 1) 0)), (33, .int .i64 (td.getD (td.length - 1) 0)), (32, elemPtr (.slice ta td.length tc) (td.length - 1)), (31, .int .i64 (((td.length : Nat) : Int) - 1)), (30, .int .i64 ((td.length : Nat) : Int)), (29, .slice ta td.length tc), (28, .slice ta td.length tc), (27, .bool (decide (((td.length : Nat) : Int) > (0 : Int)))), (26, .int .i64 ((td.length : Nat) : Int)), (25, .slice ta td.length tc), (7, .slice (some ⟨w.heap.size, 0, none⟩) ((List.replicate n false).length) n), (6, .slice none 0 0), (2, .func (.func next) #[] nextc.toArray)]) rfl ?_
          refine W.region ?_
          refine WL.op rfl (d_move rfl ?_)
          refine WL.op rfl (d_move rfl ?_)
          refine WL.op rfl (t_buildSlice (T := (tyI .i64)) (xs := [(nx (td.getD (td.length - 1) 0)).getD j 0]) (cs := #[.int .i64 ((nx (td.getD (td.length - 1) 0)).getD j 0)]) rfl Try.underlying22 sz3 rfl rfl rfl rfl (by kernel_rfl) rfl rfl fun w9 u6 => ?_)
          have H9 : UpG w [rowT (tyI .i64) (.slice todoa todo.length todoc) 3 todo] w9 [[rowT (tyI .i64) (.slice ua tj.length uc) 3 tj], [rowT tyB (.slice (some ⟨w.heap.size, 0, none⟩) ((List.replicate n false).length) n) 4 (o3.set (((nx (td.getD (td.length - 1) 0)).getD j 0).toNat) true)], [rowT (tyI .i64) (.slice na1 ((nx (td.getD (td.length - 1) 0)).length) nc1) 3 (nx (td.getD (td.length - 1) 0))], [rowT (tyI .i64) (.slice (some ⟨w8.heap.size, 0, none⟩) ([(nx (td.getD (td.length - 1) 0)).getD j 0].length) ([(nx (td.getD (td.length - 1) 0)).getD j 0].length)) 3 [(nx (td.getD (td.length - 1) 0)).getD j 0]]] := H8.new' u6
          refine WL.op rfl (t_append (T := (tyI .i64)) (xs := tj) (ys := [(nx (td.getD (td.length - 1) 0)).getD j 0]) rfl Try.underlying22 sz3 rfl rfl rfl (H9.ownT 0 rfl) (H9.rdT 3 rfl) (by simp; omega) (by simp; omega) fun a1 c1 w10 u7 => ?_)
          have H10 : UpG w [rowT (tyI .i64) (.slice todoa todo.length todoc) 3 todo] w10 [[rowT (tyI .i64) (.slice a1 ((tj ++ [(nx (td.getD (td.length - 1) 0)).getD j 0]).length) c1) 3 (tj ++ [(nx (td.getD (td.length - 1) 0)).getD j 0])], [rowT tyB (.slice (some ⟨w.heap.size, 0, none⟩) ((List.replicate n false).length) n) 4 (o3.set (((nx (td.getD (td.length - 1) 0)).getD j 0).toNat) true)], [rowT (tyI .i64) (.slice na1 ((nx (td.getD (td.length - 1) 0)).length) nc1) 3 (nx (td.getD (td.length - 1) 0))], []] := (H9.on 0 rfl u7).drop 3
          refine WL.op rfl (d_assign rfl ?_)
          refine WL.done (X.block_normal (X.then_code ?_))
          refine W.pick [0, 58, 57, 56, 55, 54, 53, 52, 51, 50, 49, 48, 47, 12, 46, 45, 44, 43, 42, 41, 40, 39, 38, 37, 36, 35, 34, 10, 33, 32, 31, 30, 29, 28, 27, 26, 25, 7, 6, 2] (Γ' := [(0, .slice a1 ((tj ++ [(nx (td.getD (td.length - 1) 0)).getD j 0]).length) c1), (58, .slice a1 ((tj ++ [(nx (td.getD (td.length - 1) 0)).getD j 0]).length) c1), (57, .slice (some ⟨w8.heap.size, 0, none⟩) ([(nx (td.getD (td.length - 1) 0)).getD j 0].length) ([(nx (td.getD (td.length - 1) 0)).getD j 0].length)), (56, .int .i64 ((nx (td.getD (td.length - 1) 0)).getD j 0)), (55, .slice ua tj.length uc), (54, elemPtr (.slice (some ⟨w.heap.size, 0, none⟩) ((List.replicate n false).length) n) (((nx (td.getD (td.length - 1) 0)).getD j 0).toNat)), (53, .int .i64 ((nx (td.getD (td.length - 1) 0)).getD j 0)), (52, .slice (some ⟨w.heap.size, 0, none⟩) ((List.replicate n false).length) n), (51, .bool (!(o3.getD (((nx (td.getD (td.length - 1) 0)).getD j 0).toNat) false))), (50, .bool (o3.getD (((nx (td.getD (td.length - 1) 0)).getD j 0).toNat) false)), (49, elemPtr (.slice (some ⟨w.heap.size, 0, none⟩) ((List.replicate n false).length) n) (((nx (td.getD (td.length - 1) 0)).getD j 0).toNat)), (48, .int .i64 ((nx (td.getD (td.length - 1) 0)).getD j 0)), (47, .slice (some ⟨w.heap.size, 0, none⟩) ((List.replicate n false).length) n), (12, .int .i64 ((nx (td.getD (td.length - 1) 0)).getD j 0)), (46, .int .i64 ((nx (td.getD (td.length - 1) 0)).getD j 0)), (45, elemPtr (.slice na1 ((nx (td.getD (td.length - 1) 0)).length) nc1) j), (44, .bool (decide (((j : Nat) : Int) < (((nx (td.getD (td.length - 1) 0)).length : Nat) : Int)))), (43, .int .i64 ((j : Nat) : Int)), (42, .int .i64 (((nx (td.getD (td.length - 1) 0)).length : Nat) : Int)), (41, .slice na1 ((nx (td.getD (td.length - 1) 0)).length) nc1), (40, .int .i64 (td.getD (td.length - 1) 0)), (39, .func (.func next) #[] nextc.toArray), (38, .slice ta ((td.take (td.length - 1)).length) tc), (37, .int .i64 (((td.length : Nat) : Int) - 1)), (36, .int .i64 ((td.length : Nat) : Int)), (35, .slice ta td.length tc), (34, .slice ta td.length tc), (10, .int .i64 (td.getD (td.length - 1) 0)), (33, .int .i64 (td.getD (td.length - 1) 0)), (32, elemPtr (.slice ta td.length tc) (td.length - 1)), (31, .int .i64 (((td.length : Nat) : Int) - 1)), (30, .int .i64 ((td.length : Nat) : Int)), (29, .slice ta td.length tc), (28, .slice ta td.length tc), (27, .bool (decide (((td.length : Nat) : Int) > (0 : Int)))), (26, .int .i64 ((td.length : Nat) : Int)), (25, .slice ta td.length tc), (7, .slice (some ⟨w.heap.size, 0, none⟩) ((List.replicate n false).length) n), (6, .slice none 0 0), (2, .func (.func next) #[] nextc.toArray)]) rfl ?_
          have hst := (hi.inT (td.getD (td.length - 1) 0) (getD_mem' (by omega))).1
          have hns := hnx _ hst.1 hst.2
          refine W.region ?_
          refine WL.op rfl (d_add rfl rfl (by omega) (by omega) ?_)
          refine WL.op rfl (d_move rfl ?_)
          refine WL.done ?_
          exact X.next [43, 42, 41, 40, 39, 0, 38, 37, 36, 35, 34, 10, 33, 32, 31, 30, 29, 28, 27, 26, 25, 7, 6, 2] (Γ' := [(43, .int .i64 (((j + 1) : Nat) : Int)), (42, .int .i64 (((nx (td.getD (td.length - 1) 0)).length : Nat) : Int)), (41, .slice na1 ((nx (td.getD (td.length - 1) 0)).length) nc1), (40, .int .i64 (td.getD (td.length - 1) 0)), (39, .func (.func next) #[] nextc.toArray), (0, .slice a1 ((tj ++ [(nx (td.getD (td.length - 1) 0)).getD j 0]).length) c1), (38, .slice ta ((td.take (td.length - 1)).length) tc), (37, .int .i64 (((td.length : Nat) : Int) - 1)), (36, .int .i64 ((td.length : Nat) : Int)), (35, .slice ta td.length tc), (34, .slice ta td.length tc), (10, .int .i64 (td.getD (td.length - 1) 0)), (33, .int .i64 (td.getD (td.length - 1) 0)), (32, elemPtr (.slice ta td.length tc) (td.length - 1)), (31, .int .i64 (((td.length : Nat) : Int) - 1)), (30, .int .i64 ((td.length : Nat) : Int)), (29, .slice ta td.length tc), (28, .slice ta td.length tc), (27, .bool (decide (((td.length : Nat) : Int) > (0 : Int)))), (26, .int .i64 ((td.length : Nat) : Int)), (25, .slice ta td.length tc), (7, .slice (some ⟨w.heap.size, 0, none⟩) ((List.replicate n false).length) n), (6, .slice none 0 0), (2, .func (.func next) #[] nextc.toArray)]) rfl ((nx (td.getD (td.length - 1) 0)).length - (j + 1)) (by omega) ⟨j + 1, o3.set (((nx (td.getD (td.length - 1) 0)).getD j 0).toNat) true, tj ++ [(nx (td.getD (td.length - 1) 0)).getD j 0], a1, c1, rfl, (H10.re rfl), (by first | exact hj.new (by omega) hb | exact hj.old (by omega) (by simpa using c131)), (by first | assumption | omega | simp), (by first | omega | (have h9 := cf_set o3 ((nx (td.getD (td.length - 1) 0)).getD j 0).toNat (by omega) (by simpa using c131); rw [List.length_append, List.length_singleton]; omega)), rfl⟩
        · skip
          refine W.skip (X.block_normal (X.then_code ?_))
          refine W.pick [51, 50, 49, 48, 47, 12, 46, 45, 44, 43, 42, 41, 40, 39, 0, 38, 37, 36, 35, 34, 10, 33, 32, 31, 30, 29, 28, 27, 26, 25, 7, 6, 2] (Γ' := [(51, .bool (!(o3.getD (((nx (td.getD (td.length - 1) 0)).getD j 0).toNat) false))), (50, .bool (o3.getD (((nx (td.getD (td.length - 1) 0)).getD j 0).toNat) false)), (49, elemPtr (.slice (some ⟨w.heap.size, 0, none⟩) ((List.replicate n false).length) n) (((nx (td.getD (td.length - 1) 0)).getD j 0).toNat)), (48, .int .i64 ((nx (td.getD (td.length - 1) 0)).getD j 0)), (47, .slice (some ⟨w.heap.size, 0, none⟩) ((List.replicate n false).length) n), (12, .int .i64 ((nx (td.getD (td.length - 1) 0)).getD j 0)), (46, .int .i64 ((nx (td.getD (td.length - 1) 0)).getD j 0)), (45, elemPtr (.slice na1 ((nx (td.getD (td.length - 1) 0)).length) nc1) j), (44, .bool (decide (((j : Nat) : Int) < (((nx (td.getD (td.length - 1) 0)).length : Nat) : Int)))), (43, .int .i64 ((j : Nat) : Int)), (42, .int .i64 (((nx (td.getD (td.length - 1) 0)).length : Nat) : Int)), (41, .slice na1 ((nx (td.getD (td.length - 1) 0)).length) nc1), (40, .int .i64 (td.getD (td.length - 1) 0)), (39, .func (.func next) #[] nextc.toArray), (0, .slice ua tj.length uc), (38, .slice ta ((td.take (td.length - 1)).length) tc), (37, .int .i64 (((td.length : Nat) : Int) - 1)), (36, .int .i64 ((td.length : Nat) : Int)), (35, .slice ta td.length tc), (34, .slice ta td.length tc), (10, .int .i64 (td.getD (td.length - 1) 0)), (33, .int .i64 (td.getD (td.length - 1) 0)), (32, elemPtr (.slice ta td.length tc) (td.length - 1)), (31, .int .i64 (((td.length : Nat) : Int) - 1)), (30, .int .i64 ((td.length : Nat) : Int)), (29, .slice ta td.length tc), (28, .slice ta td.length tc), (27, .bool (decide (((td.length : Nat) : Int) > (0 : Int)))), (26, .int .i64 ((td.length : Nat) : Int)), (25, .slice ta td.length tc), (7, .slice (some ⟨w.heap.size, 0, none⟩) ((List.replicate n false).length) n), (6, .slice none 0 0), (2, .func (.func next) #[] nextc.toArray)]) rfl ?_
          have hst := (hi.inT (td.getD (td.length - 1) 0) (getD_mem' (by omega))).1
          have hns := hnx _ hst.1 hst.2
          refine W.region ?_
          refine WL.op rfl (d_add rfl rfl (by omega) (by omega) ?_)
          refine WL.op rfl (d_move rfl ?_)
          refine WL.done ?_
          exact X.next [43, 42, 41, 40, 39, 0, 38, 37, 36, 35, 34, 10, 33, 32, 31, 30, 29, 28, 27, 26, 25, 7, 6, 2] (Γ' := [(43, .int .i64 (((j + 1) : Nat) : Int)), (42, .int .i64 (((nx (td.getD (td.length - 1) 0)).length : Nat) : Int)), (41, .slice na1 ((nx (td.getD (td.length - 1) 0)).length) nc1), (40, .int .i64 (td.getD (td.length - 1) 0)), (39, .func (.func next) #[] nextc.toArray), (0, .slice ua tj.length uc), (38, .slice ta ((td.take (td.length - 1)).length) tc), (37, .int .i64 (((td.length : Nat) : Int) - 1)), (36, .int .i64 ((td.length : Nat) : Int)), (35, .slice ta td.length tc), (34, .slice ta td.length tc), (10, .int .i64 (td.getD (td.length - 1) 0)), (33, .int .i64 (td.getD (td.length - 1) 0)), (32, elemPtr (.slice ta td.length tc) (td.length - 1)), (31, .int .i64 (((td.length : Nat) : Int) - 1)), (30, .int .i64 ((td.length : Nat) : Int)), (29, .slice ta td.length tc), (28, .slice ta td.length tc), (27, .bool (decide (((td.length : Nat) : Int) > (0 : Int)))), (26, .int .i64 ((td.length : Nat) : Int)), (25, .slice ta td.length tc), (7, .slice (some ⟨w.heap.size, 0, none⟩) ((List.replicate n false).length) n), (6, .slice none 0 0), (2, .func (.func next) #[] nextc.toArray)]) rfl ((nx (td.getD (td.length - 1) 0)).length - (j + 1)) (by omega) ⟨j + 1, o3, tj, ua, uc, rfl, H7, (by first | exact hj.new (by omega) hb | exact hj.old (by omega) (by simpa using c131)), (by first | assumption | omega | simp), (by first | omega | (have h9 := cf_set o3 ((nx (td.getD (td.length - 1) 0)).getD j 0).toNat (by omega) (by simpa using c131); rw [List.length_append, List.length_singleton]; omega)), rfl⟩
      · skip
        refine W.exit (X.then_exit (X.then_exit (X.block_exit (X.block_normal ?_))))
        exact X.next [7, 6, 0, 2] (Γ' := [(7, .slice (some ⟨w.heap.size, 0, none⟩) ((List.replicate n false).length) n), (6, .slice none 0 0), (0, .slice ua tj.length uc), (2, .func (.func next) #[] nextc.toArray)]) rfl (2 * cf o3 + tj.length) (by omega) ⟨o3, tj, ua, uc, rfl, (UpG.of (G := [[rowT (tyI .i64) (.slice ua tj.length uc) 3 tj], [rowT tyB (.slice (some ⟨w.heap.size, 0, none⟩) ((List.replicate n false).length) n) 4 o3]]) (Upd.sel H7 (M := [rowT (tyI .i64) (.slice ua tj.length uc) 3 tj, rowT tyB (.slice (some ⟨w.heap.size, 0, none⟩) ((List.replicate n false).length) n) 4 o3]) (l := [0, 1]) rfl rfl) rfl), (by exact hj.done (by omega)), (by omega), rfl⟩
    · skip
      refine W.exit (X.then_exit (X.then_exit (X.block_exit (X.then_code ?_))))
      refine W.seq ?_
      refine W.region ?_
      refine WL.op rfl (d_move rfl ?_)
      refine WL.op rfl (d_assign rfl ?_)
      refine WL.done (X.then_code ?_)
      refine W.ret (X.ret1 rfl rfl ?_)
      have hfin := hi.fin (by omega)
      exact ⟨(some ⟨w.heap.size, 0, none⟩), o_1, n, (by rw [hol2, List.length_replicate]), (by have h9 := H4.one 1 rfl; rw [List.length_replicate] at h9; rw [hol2]; exact h9), hfin⟩

set_option maxRecDepth 20000 in
theorem spreadO_any (todoa : Option Addr) (todo : List Int) (todoc : Nat) (n : Nat) (next : FuncId) (nextc : List Value) (nx : Int → List Int) (w : World) (hp : Hp w [rowT (tyI .i64) (.slice todoa todo.length todoc) 3 todo]) (hn : n ≤ 5000 ∧ todo.length ≤ 5000) (hr : ∀ t, t ∈ todo → 0 ≤ t ∧ t < (n : Int)) (hnx : ∀ s, 0 ≤ s → s < (n : Int) → (nx s).length ≤ 2000000 ∧ ∀ t, t ∈ nx s → 0 ≤ t ∧ t < (n : Int)) (hok : CallOk Try.prog next) (hf : ClosO Try.prog next nextc nx n (ats [rowT (tyI .i64) (.slice todoa todo.length todoc) 3 todo]) w) :
    Calls Try.prog 58 #[.slice todoa todo.length todoc, .int .i64 ((n : Nat) : Int), .func (.func next) #[] nextc.toArray] w (Ret fun v w' => ∃ a2 : Option Addr, ∃ o2 : List Bool, ∃ c2 : Nat, v = .slice a2 o2.length c2 ∧ Upd w [rowT (tyI .i64) (.slice todoa todo.length todoc) 3 todo] w' [rowT tyB (.slice a2 o2.length c2) 4 o2] ∧ (SprF nx n todo o2)) := by
  refine calls_of_W (args := [.slice todoa todo.length todoc, .int .i64 ((n : Nat) : Int), .func (.func next) #[] nextc.toArray]) Try.func58 rfl rfl rfl ?_
  have H0 : UpG w [rowT (tyI .i64) (.slice todoa todo.length todoc) 3 todo] w [[rowT (tyI .i64) (.slice todoa todo.length todoc) 3 todo]] := (UpG.refl hp).re rfl
  show W _ _ _ _ [(0, .slice todoa todo.length todoc), (1, .int .i64 ((n : Nat) : Int)), (2, .func (.func next) #[] nextc.toArray)] w
  refine W.seq ?_
  refine W.region ?_
  refine WL.op rfl (d_assign rfl ?_)
  refine WL.done (X.then_code ?_)
  refine W.seq ?_
  refine W.region ?_
  refine WL.op rfl (d_move rfl ?_)
  refine WL.op rfl (t_make n false (T := tyB) rfl Try.underlying23 sz4 rfl rfl rfl rfl (by omega) (by omega) fun w1 u1 => ?_)
  have H1 : UpG w [rowT (tyI .i64) (.slice todoa todo.length todoc) 3 todo] w1 [[rowT (tyI .i64) (.slice todoa todo.length todoc) 3 todo], [rowT tyB (.slice (some ⟨w.heap.size, 0, none⟩) ((List.replicate n false).length) n) 4 (List.replicate n false)]] := H0.new' u1
  refine WL.op rfl (d_assign rfl ?_)
  refine WL.done (X.then_code ?_)
  refine W.seq ?_
  refine W.seq ?_
  refine W.region ?_
  refine WL.op rfl (d_move rfl ?_)
  refine WL.op rfl (d_lenS Try.underlying22 rfl ?_)
  refine WL.op rfl (d_move rfl ?_)
  refine WL.done (X.then_code ?_)
  refine W.block ?_
  refine W.pick [17, 16, 15, 7, 6, 0, 2] (Γ' := [(17, .int .i64 0), (16, .int .i64 ((todo.length : Nat) : Int)), (15, .slice todoa todo.length todoc), (7, .slice (some ⟨w.heap.size, 0, none⟩) ((List.replicate n false).length) n), (6, .slice none 0 0), (0, .slice todoa todo.length todoc), (2, .func (.func next) #[] nextc.toArray)]) rfl ?_
  refine W.loop (fun m Γ' w' => ∃ k : Nat, ∃ o : List Bool, Γ' = [(17, .int .i64 ((k : Nat) : Int)), (16, .int .i64 ((todo.length : Nat) : Int)), (15, .slice todoa todo.length todoc), (7, .slice (some ⟨w.heap.size, 0, none⟩) ((List.replicate n false).length) n), (6, .slice none 0 0), (0, .slice todoa todo.length todoc), (2, .func (.func next) #[] nextc.toArray)] ∧ UpG w [rowT (tyI .i64) (.slice todoa todo.length todoc) 3 todo] w' [[rowT (tyI .i64) (.slice todoa todo.length todoc) 3 todo], [rowT tyB (.slice (some ⟨w.heap.size, 0, none⟩) ((List.replicate n false).length) n) 4 o]] ∧ (k ≤ todo.length) ∧ (SprA n todo o k) ∧ m = todo.length - k) (todo.length - 0) ⟨0, List.replicate n false, rfl, H1, (by first | assumption | omega | simp), (by exact SprA.start n todo), rfl⟩ ?_
  rintro m1 Γ1 w2 ⟨k, o, rfl, H2, hk, ha, rfl⟩
  have hol := ha.len
  refine W.seq ?_
  refine W.region ?_
  refine WL.op rfl (d_cmp (decide (((k : Nat) : Int) < ((todo.length : Nat) : Int))) rfl rfl rfl ?_)
  refine WL.done (X.then_code ?_)
  refine W.seq ?_
  refine W.ite (p := ((k : Nat) : Int) < ((todo.length : Nat) : Int)) rfl (fun c124 => ?_) (fun c124 => ?_)
  · skip
    refine W.skip (X.then_code ?_)
    refine W.seq ?_
    refine W.block ?_
    refine W.seq ?_
    refine W.region ?_
    refine WL.op rfl (t_addr1 k (T := (tyI .i64)) rfl Try.underlying22 sz3 rfl rfl (H2.rdT 0 rfl) rfl (by omega) ?_)
    refine WL.op rfl (t_load1 k 0 (T := (tyI .i64)) rfl Try.underlying3 rfl rfl (H2.rdT 0 rfl) (by omega) rfl ?_)
    refine WL.op rfl (d_assign rfl ?_)
    refine WL.done (X.then_code ?_)
    have hb := hr (todo.getD k 0) (getD_mem' (by omega))
    refine W.region ?_
    refine WL.op rfl (d_move rfl ?_)
    refine WL.op rfl (d_move rfl ?_)
    refine WL.op rfl (t_addr1 ((todo.getD k 0).toNat) (T := tyB) rfl Try.underlying23 sz4 rfl rfl (H2.rdT 1 rfl) (by omega) (by omega) ?_)
    refine WL.op0 (t_store1 ((todo.getD k 0).toNat) true (T := tyB) (e := 4) rfl sz4 rfl rfl rfl (H2.ownT 1 rfl) (by omega) fun w3 u2 => ?_)
    have H3 : UpG w [rowT (tyI .i64) (.slice todoa todo.length todoc) 3 todo] w3 [[rowT (tyI .i64) (.slice todoa todo.length todoc) 3 todo], [rowT tyB (.slice (some ⟨w.heap.size, 0, none⟩) ((List.replicate n false).length) n) 4 (o.set ((todo.getD k 0).toNat) true)]] := H2.on 1 rfl u2
    refine WL.done (X.block_normal (X.then_code ?_))
    refine W.region ?_
    refine WL.op rfl (d_add rfl rfl (by omega) (by omega) ?_)
    refine WL.op rfl (d_move rfl ?_)
    refine WL.done ?_
    exact X.next [17, 16, 15, 7, 6, 0, 2] (Γ' := [(17, .int .i64 (((k + 1) : Nat) : Int)), (16, .int .i64 ((todo.length : Nat) : Int)), (15, .slice todoa todo.length todoc), (7, .slice (some ⟨w.heap.size, 0, none⟩) ((List.replicate n false).length) n), (6, .slice none 0 0), (0, .slice todoa todo.length todoc), (2, .func (.func next) #[] nextc.toArray)]) rfl (todo.length - (k + 1)) (by omega) ⟨k + 1, o.set ((todo.getD k 0).toNat) true, rfl, H3, (by first | assumption | omega | simp), (by exact ha.step (by omega) hr), rfl⟩
  · skip
    refine W.exit (X.then_exit (X.then_exit (X.block_exit (X.then_code ?_))))
    refine W.seq ?_
    refine W.block ?_
    have hcf := cf_le o
    refine W.pick [7, 6, 0, 2] (Γ' := [(7, .slice (some ⟨w.heap.size, 0, none⟩) ((List.replicate n false).length) n), (6, .slice none 0 0), (0, .slice todoa todo.length todoc), (2, .func (.func next) #[] nextc.toArray)]) rfl ?_
    refine W.loop (fun m Γ' w' => ∃ o : List Bool, ∃ td : List Int, ∃ ta : Option Addr, ∃ tc : Nat, Γ' = [(7, .slice (some ⟨w.heap.size, 0, none⟩) ((List.replicate n false).length) n), (6, .slice none 0 0), (0, .slice ta td.length tc), (2, .func (.func next) #[] nextc.toArray)] ∧ UpG w [rowT (tyI .i64) (.slice todoa todo.length todoc) 3 todo] w' [[rowT (tyI .i64) (.slice ta td.length tc) 3 td], [rowT tyB (.slice (some ⟨w.heap.size, 0, none⟩) ((List.replicate n false).length) n) 4 o]] ∧ (SprI nx n todo o td) ∧ (2 * cf o + td.length ≤ 20000) ∧ m = 2 * cf o + td.length) (2 * cf o + todo.length) ⟨o, todo, todoa, todoc, rfl, H2, (by exact ha.done (by omega) hr), (by omega), rfl⟩ ?_
    rintro m2 Γ2 w4 ⟨o_1, td, ta, tc, rfl, H4, hi, hB, rfl⟩
    have hol2 := hi.len
    refine W.seq ?_
    refine W.seq ?_
    refine W.region ?_
    refine WL.op rfl (d_move rfl ?_)
    refine WL.op rfl (d_lenS Try.underlying22 rfl ?_)
    refine WL.op rfl (d_cmp (decide (((td.length : Nat) : Int) > (0 : Int))) rfl rfl rfl ?_)
    refine WL.done (X.then_code ?_)
    refine W.ite (p := ((td.length : Nat) : Int) > (0 : Int)) rfl (fun c127 => ?_) (fun c127 => ?_)
    · skip
      refine W.skip (X.then_code ?_)
      refine W.block ?_
      refine W.seq ?_
      refine W.region ?_
      refine WL.op rfl (d_move rfl ?_)
      refine WL.op rfl (d_move rfl ?_)
      refine WL.op rfl (d_lenS Try.underlying22 rfl ?_)
      refine WL.op rfl (d_sub rfl rfl (by omega) (by omega) ?_)
      refine WL.op rfl (t_addr1 (td.length - 1) (T := (tyI .i64)) rfl Try.underlying22 sz3 rfl rfl (H4.rdT 0 rfl) (by omega) (by omega) ?_)
      refine WL.op rfl (t_load1 (td.length - 1) 0 (T := (tyI .i64)) rfl Try.underlying3 rfl rfl (H4.rdT 0 rfl) (by omega) rfl ?_)
      refine WL.op rfl (d_assign rfl ?_)
      refine WL.done (X.then_code ?_)
      refine W.seq ?_
      refine W.region ?_
      refine WL.op rfl (d_move rfl ?_)
      refine WL.op rfl (d_move rfl ?_)
      refine WL.op rfl (d_lenS Try.underlying22 rfl ?_)
      refine WL.op rfl (d_sub rfl rfl (by omega) (by omega) ?_)
      refine WL.op rfl (t_pop (((td.length : Nat) : Int) - 1) (td.length - 1) (T := (tyI .i64)) (e := 3) (xs := td) rfl Try.underlying22 sz3 rfl rfl (H4.ownT 0 rfl) (by omega) (by omega) fun w5 u3 => ?_)
      have H5 : UpG w [rowT (tyI .i64) (.slice todoa todo.length todoc) 3 todo] w5 [[rowT (tyI .i64) (.slice ta ((td.take (td.length - 1)).length) tc) 3 (td.take (td.length - 1))], [rowT tyB (.slice (some ⟨w.heap.size, 0, none⟩) ((List.replicate n false).length) n) 4 o_1]] := H4.on 0 rfl u3
      refine WL.op rfl (d_assign rfl ?_)
      refine WL.done (X.then_code ?_)
      refine W.pick [0, 38, 37, 36, 35, 34, 10, 33, 32, 31, 30, 29, 28, 27, 26, 25, 7, 6, 2] (Γ' := [(0, .slice ta ((td.take (td.length - 1)).length) tc), (38, .slice ta ((td.take (td.length - 1)).length) tc), (37, .int .i64 (((td.length : Nat) : Int) - 1)), (36, .int .i64 ((td.length : Nat) : Int)), (35, .slice ta td.length tc), (34, .slice ta td.length tc), (10, .int .i64 (td.getD (td.length - 1) 0)), (33, .int .i64 (td.getD (td.length - 1) 0)), (32, elemPtr (.slice ta td.length tc) (td.length - 1)), (31, .int .i64 (((td.length : Nat) : Int) - 1)), (30, .int .i64 ((td.length : Nat) : Int)), (29, .slice ta td.length tc), (28, .slice ta td.length tc), (27, .bool (decide (((td.length : Nat) : Int) > (0 : Int)))), (26, .int .i64 ((td.length : Nat) : Int)), (25, .slice ta td.length tc), (7, .slice (some ⟨w.heap.size, 0, none⟩) ((List.replicate n false).length) n), (6, .slice none 0 0), (2, .func (.func next) #[] nextc.toArray)]) rfl ?_
      refine W.seq ?_
      have hst := (hi.inT (td.getD (td.length - 1) 0) (getD_mem' (by omega))).1
      have hns := hnx _ hst.1 hst.2
      refine W.region ?_
      refine WL.op rfl (d_move rfl ?_)
      refine WL.op rfl (d_move rfl ?_)
      refine WL.op rfl (d_callv hok rfl rfl (Ret.calls (hf w5 H5.keep (td.getD (td.length - 1) 0) (by omega) (by omega)) fun _ w6 p1 => ?_))
      obtain ⟨na1, nc1, rfl, u4, rdn1⟩ := p1
      have H6 : UpG w [rowT (tyI .i64) (.slice todoa todo.length todoc) 3 todo] w6 [[rowT (tyI .i64) (.slice ta ((td.take (td.length - 1)).length) tc) 3 (td.take (td.length - 1))], [rowT tyB (.slice (some ⟨w.heap.size, 0, none⟩) ((List.replicate n false).length) n) 4 o_1]] := H5.call u4
      refine WL.op rfl (d_lenS Try.underlying22 rfl ?_)
      refine WL.op rfl (d_move rfl ?_)
      refine WL.done (X.then_code ?_)
      refine W.pick [43, 42, 41, 40, 39, 0, 38, 37, 36, 35, 34, 10, 33, 32, 31, 30, 29, 28, 27, 26, 25, 7, 6, 2] (Γ' := [(43, .int .i64 0), (42, .int .i64 (((nx (td.getD (td.length - 1) 0)).length : Nat) : Int)), (41, .slice na1 ((nx (td.getD (td.length - 1) 0)).length) nc1), (40, .int .i64 (td.getD (td.length - 1) 0)), (39, .func (.func next) #[] nextc.toArray), (0, .slice ta ((td.take (td.length - 1)).length) tc), (38, .slice ta ((td.take (td.length - 1)).length) tc), (37, .int .i64 (((td.length : Nat) : Int) - 1)), (36, .int .i64 ((td.length : Nat) : Int)), (35, .slice ta td.length tc), (34, .slice ta td.length tc), (10, .int .i64 (td.getD (td.length - 1) 0)), (33, .int .i64 (td.getD (td.length - 1) 0)), (32, elemPtr (.slice ta td.length tc) (td.length - 1)), (31, .int .i64 (((td.length : Nat) : Int) - 1)), (30, .int .i64 ((td.length : Nat) : Int)), (29, .slice ta td.length tc), (28, .slice ta td.length tc), (27, .bool (decide (((td.length : Nat) : Int) > (0 : Int)))), (26, .int .i64 ((td.length : Nat) : Int)), (25, .slice ta td.length tc), (7, .slice (some ⟨w.heap.size, 0, none⟩) ((List.replicate n false).length) n), (6, .slice none 0 0), (2, .func (.func next) #[] nextc.toArray)]) rfl ?_
      refine W.block ?_
      refine W.pick [43, 42, 41, 40, 39, 0, 38, 37, 36, 35, 34, 10, 33, 32, 31, 30, 29, 28, 27, 26, 25, 7, 6, 2] (Γ' := [(43, .int .i64 0), (42, .int .i64 (((nx (td.getD (td.length - 1) 0)).length : Nat) : Int)), (41, .slice na1 ((nx (td.getD (td.length - 1) 0)).length) nc1), (40, .int .i64 (td.getD (td.length - 1) 0)), (39, .func (.func next) #[] nextc.toArray), (0, .slice ta ((td.take (td.length - 1)).length) tc), (38, .slice ta ((td.take (td.length - 1)).length) tc), (37, .int .i64 (((td.length : Nat) : Int) - 1)), (36, .int .i64 ((td.length : Nat) : Int)), (35, .slice ta td.length tc), (34, .slice ta td.length tc), (10, .int .i64 (td.getD (td.length - 1) 0)), (33, .int .i64 (td.getD (td.length - 1) 0)), (32, elemPtr (.slice ta td.length tc) (td.length - 1)), (31, .int .i64 (((td.length : Nat) : Int) - 1)), (30, .int .i64 ((td.length : Nat) : Int)), (29, .slice ta td.length tc), (28, .slice ta td.length tc), (27, .bool (decide (((td.length : Nat) : Int) > (0 : Int)))), (26, .int .i64 ((td.length : Nat) : Int)), (25, .slice ta td.length tc), (7, .slice (some ⟨w.heap.size, 0, none⟩) ((List.replicate n false).length) n), (6, .slice none 0 0), (2, .func (.func next) #[] nextc.toArray)]) rfl ?_
      refine W.loop (fun m Γ' w' => ∃ j : Nat, ∃ o3 : List Bool, ∃ tj : List Int, ∃ ua : Option Addr, ∃ uc : Nat, Γ' = [(43, .int .i64 ((j : Nat) : Int)), (42, .int .i64 (((nx (td.getD (td.length - 1) 0)).length : Nat) : Int)), (41, .slice na1 ((nx (td.getD (td.length - 1) 0)).length) nc1), (40, .int .i64 (td.getD (td.length - 1) 0)), (39, .func (.func next) #[] nextc.toArray), (0, .slice ua tj.length uc), (38, .slice ta ((td.take (td.length - 1)).length) tc), (37, .int .i64 (((td.length : Nat) : Int) - 1)), (36, .int .i64 ((td.length : Nat) : Int)), (35, .slice ta td.length tc), (34, .slice ta td.length tc), (10, .int .i64 (td.getD (td.length - 1) 0)), (33, .int .i64 (td.getD (td.length - 1) 0)), (32, elemPtr (.slice ta td.length tc) (td.length - 1)), (31, .int .i64 (((td.length : Nat) : Int) - 1)), (30, .int .i64 ((td.length : Nat) : Int)), (29, .slice ta td.length tc), (28, .slice ta td.length tc), (27, .bool (decide (((td.length : Nat) : Int) > (0 : Int)))), (26, .int .i64 ((td.length : Nat) : Int)), (25, .slice ta td.length tc), (7, .slice (some ⟨w.heap.size, 0, none⟩) ((List.replicate n false).length) n), (6, .slice none 0 0), (2, .func (.func next) #[] nextc.toArray)] ∧ UpG w [rowT (tyI .i64) (.slice todoa todo.length todoc) 3 todo] w' [[rowT (tyI .i64) (.slice ua tj.length uc) 3 tj], [rowT tyB (.slice (some ⟨w.heap.size, 0, none⟩) ((List.replicate n false).length) n) 4 o3]] ∧ (SprJ nx n todo o3 tj (td.getD (td.length - 1) 0) j) ∧ (j ≤ (nx (td.getD (td.length - 1) 0)).length) ∧ (2 * cf o3 + tj.length + 1 ≤ 2 * cf o_1 + td.length) ∧ m = (nx (td.getD (td.length - 1) 0)).length - j) ((nx (td.getD (td.length - 1) 0)).length - 0) ⟨0, o_1, td.take (td.length - 1), ta, tc, rfl, H6, (by exact hi.pop (by omega)), (by first | assumption | omega | simp), (by simp; omega), rfl⟩ ?_
      rintro m3 Γ3 w7 ⟨j, o3, tj, ua, uc, rfl, H7, hj, hjl, hm, rfl⟩
      have hol3 := hj.len
      refine W.seq ?_
      have hst := (hi.inT (td.getD (td.length - 1) 0) (getD_mem' (by omega))).1
      have hns := hnx _ hst.1 hst.2
      refine W.region ?_
      refine WL.op rfl (d_cmp (decide (((j : Nat) : Int) < (((nx (td.getD (td.length - 1) 0)).length : Nat) : Int))) rfl rfl rfl ?_)
      refine WL.done (X.then_code ?_)
      refine W.pick [44, 43, 42, 41, 40, 39, 0, 38, 37, 36, 35, 34, 10, 33, 32, 31, 30, 29, 28, 27, 26, 25, 7, 6, 2] (Γ' := [(44, .bool (decide (((j : Nat) : Int) < (((nx (td.getD (td.length - 1) 0)).length : Nat) : Int)))), (43, .int .i64 ((j : Nat) : Int)), (42, .int .i64 (((nx (td.getD (td.length - 1) 0)).length : Nat) : Int)), (41, .slice na1 ((nx (td.getD (td.length - 1) 0)).length) nc1), (40, .int .i64 (td.getD (td.length - 1) 0)), (39, .func (.func next) #[] nextc.toArray), (0, .slice ua tj.length uc), (38, .slice ta ((td.take (td.length - 1)).length) tc), (37, .int .i64 (((td.length : Nat) : Int) - 1)), (36, .int .i64 ((td.length : Nat) : Int)), (35, .slice ta td.length tc), (34, .slice ta td.length tc), (10, .int .i64 (td.getD (td.length - 1) 0)), (33, .int .i64 (td.getD (td.length - 1) 0)), (32, elemPtr (.slice ta td.length tc) (td.length - 1)), (31, .int .i64 (((td.length : Nat) : Int) - 1)), (30, .int .i64 ((td.length : Nat) : Int)), (29, .slice ta td.length tc), (28, .slice ta td.length tc), (27, .bool (decide (((td.length : Nat) : Int) > (0 : Int)))), (26, .int .i64 ((td.length : Nat) : Int)), (25, .slice ta td.length tc), (7, .slice (some ⟨w.heap.size, 0, none⟩) ((List.replicate n false).length) n), (6, .slice none 0 0), (2, .func (.func next) #[] nextc.toArray)]) rfl ?_
      refine W.seq ?_
      refine W.ite (p := ((j : Nat) : Int) < (((nx (td.getD (td.length - 1) 0)).length : Nat) : Int)) rfl (fun c130 => ?_) (fun c130 => ?_)
      · skip
        refine W.skip (X.then_code ?_)
        refine W.pick [44, 43, 42, 41, 40, 39, 0, 38, 37, 36, 35, 34, 10, 33, 32, 31, 30, 29, 28, 27, 26, 25, 7, 6, 2] (Γ' := [(44, .bool (decide (((j : Nat) : Int) < (((nx (td.getD (td.length - 1) 0)).length : Nat) : Int)))), (43, .int .i64 ((j : Nat) : Int)), (42, .int .i64 (((nx (td.getD (td.length - 1) 0)).length : Nat) : Int)), (41, .slice na1 ((nx (td.getD (td.length - 1) 0)).length) nc1), (40, .int .i64 (td.getD (td.length - 1) 0)), (39, .func (.func next) #[] nextc.toArray), (0, .slice ua tj.length uc), (38, .slice ta ((td.take (td.length - 1)).length) tc), (37, .int .i64 (((td.length : Nat) : Int) - 1)), (36, .int .i64 ((td.length : Nat) : Int)), (35, .slice ta td.length tc), (34, .slice ta td.length tc), (10, .int .i64 (td.getD (td.length - 1) 0)), (33, .int .i64 (td.getD (td.length - 1) 0)), (32, elemPtr (.slice ta td.length tc) (td.length - 1)), (31, .int .i64 (((td.length : Nat) : Int) - 1)), (30, .int .i64 ((td.length : Nat) : Int)), (29, .slice ta td.length tc), (28, .slice ta td.length tc), (27, .bool (decide (((td.length : Nat) : Int) > (0 : Int)))), (26, .int .i64 ((td.length : Nat) : Int)), (25, .slice ta td.length tc), (7, .slice (some ⟨w.heap.size, 0, none⟩) ((List.replicate n false).length) n), (6, .slice none 0 0), (2, .func (.func next) #[] nextc.toArray)]) rfl ?_
        refine W.seq ?_
        refine W.block ?_
        refine W.seq ?_
        have hst := (hi.inT (td.getD (td.length - 1) 0) (getD_mem' (by omega))).1
        have hns := hnx _ hst.1 hst.2
        refine W.region ?_
        refine WL.op rfl (t_addr1 j (T := (tyI .i64)) rfl Try.underlying22 sz3 rfl rfl (rdn1 w7 H7.keep) rfl (by omega) ?_)
        refine WL.op rfl (t_load1 j 0 (T := (tyI .i64)) rfl Try.underlying3 rfl rfl (rdn1 w7 H7.keep) (by omega) rfl ?_)
        refine WL.op rfl (d_assign rfl ?_)
        refine WL.done (X.then_code ?_)
        refine W.pick [12, 46, 45, 44, 43, 42, 41, 40, 39, 0, 38, 37, 36, 35, 34, 10, 33, 32, 31, 30, 29, 28, 27, 26, 25, 7, 6, 2] (Γ' := [(12, .int .i64 ((nx (td.getD (td.length - 1) 0)).getD j 0)), (46, .int .i64 ((nx (td.getD (td.length - 1) 0)).getD j 0)), (45, elemPtr (.slice na1 ((nx (td.getD (td.length - 1) 0)).length) nc1) j), (44, .bool (decide (((j : Nat) : Int) < (((nx (td.getD (td.length - 1) 0)).length : Nat) : Int)))), (43, .int .i64 ((j : Nat) : Int)), (42, .int .i64 (((nx (td.getD (td.length - 1) 0)).length : Nat) : Int)), (41, .slice na1 ((nx (td.getD (td.length - 1) 0)).length) nc1), (40, .int .i64 (td.getD (td.length - 1) 0)), (39, .func (.func next) #[] nextc.toArray), (0, .slice ua tj.length uc), (38, .slice ta ((td.take (td.length - 1)).length) tc), (37, .int .i64 (((td.length : Nat) : Int) - 1)), (36, .int .i64 ((td.length : Nat) : Int)), (35, .slice ta td.length tc), (34, .slice ta td.length tc), (10, .int .i64 (td.getD (td.length - 1) 0)), (33, .int .i64 (td.getD (td.length - 1) 0)), (32, elemPtr (.slice ta td.length tc) (td.length - 1)), (31, .int .i64 (((td.length : Nat) : Int) - 1)), (30, .int .i64 ((td.length : Nat) : Int)), (29, .slice ta td.length tc), (28, .slice ta td.length tc), (27, .bool (decide (((td.length : Nat) : Int) > (0 : Int)))), (26, .int .i64 ((td.length : Nat) : Int)), (25, .slice ta td.length tc), (7, .slice (some ⟨w.heap.size, 0, none⟩) ((List.replicate n false).length) n), (6, .slice none 0 0), (2, .func (.func next) #[] nextc.toArray)]) rfl ?_
        refine W.seq ?_
        have hb := hns.2 ((nx (td.getD (td.length - 1) 0)).getD j 0) (getD_mem' (by omega))
        refine W.region ?_
        refine WL.op rfl (d_move rfl ?_)
        refine WL.op rfl (d_move rfl ?_)
        refine WL.op rfl (t_addr1 (((nx (td.getD (td.length - 1) 0)).getD j 0).toNat) (T := tyB) rfl Try.underlying23 sz4 rfl rfl (H7.rdT 1 rfl) (by omega) (by omega) ?_)
        refine WL.op rfl (t_load1 (((nx (td.getD (td.length - 1) 0)).getD j 0).toNat) false (T := tyB) rfl Try.underlying4 rfl rfl (H7.rdT 1 rfl) (by omega) rfl ?_)
        refine WL.op rfl (d_notB rfl ?_)
        refine WL.done (X.then_code ?_)
        refine W.pick [51, 50, 49, 48, 47, 12, 46, 45, 44, 43, 42, 41, 40, 39, 0, 38, 37, 36, 35, 34, 10, 33, 32, 31, 30, 29, 28, 27, 26, 25, 7, 6, 2] (Γ' := [(51, .bool (!(o3.getD (((nx (td.getD (td.length - 1) 0)).getD j 0).toNat) false))), (50, .bool (o3.getD (((nx (td.getD (td.length - 1) 0)).getD j 0).toNat) false)), (49, elemPtr (.slice (some ⟨w.heap.size, 0, none⟩) ((List.replicate n false).length) n) (((nx (td.getD (td.length - 1) 0)).getD j 0).toNat)), (48, .int .i64 ((nx (td.getD (td.length - 1) 0)).getD j 0)), (47, .slice (some ⟨w.heap.size, 0, none⟩) ((List.replicate n false).length) n), (12, .int .i64 ((nx (td.getD (td.length - 1) 0)).getD j 0)), (46, .int .i64 ((nx (td.getD (td.length - 1) 0)).getD j 0)), (45, elemPtr (.slice na1 ((nx (td.getD (td.length - 1) 0)).length) nc1) j), (44, .bool (decide (((j : Nat) : Int) < (((nx (td.getD (td.length - 1) 0)).length : Nat) : Int)))), (43, .int .i64 ((j : Nat) : Int)), (42, .int .i64 (((nx (td.getD (td.length - 1) 0)).length : Nat) : Int)), (41, .slice na1 ((nx (td.getD (td.length - 1) 0)).length) nc1), (40, .int .i64 (td.getD (td.length - 1) 0)), (39, .func (.func next) #[] nextc.toArray), (0, .slice ua tj.length uc), (38, .slice ta ((td.take (td.length - 1)).length) tc), (37, .int .i64 (((td.length : Nat) : Int) - 1)), (36, .int .i64 ((td.length : Nat) : Int)), (35, .slice ta td.length tc), (34, .slice ta td.length tc), (10, .int .i64 (td.getD (td.length - 1) 0)), (33, .int .i64 (td.getD (td.length - 1) 0)), (32, elemPtr (.slice ta td.length tc) (td.length - 1)), (31, .int .i64 (((td.length : Nat) : Int) - 1)), (30, .int .i64 ((td.length : Nat) : Int)), (29, .slice ta td.length tc), (28, .slice ta td.length tc), (27, .bool (decide (((td.length : Nat) : Int) > (0 : Int)))), (26, .int .i64 ((td.length : Nat) : Int)), (25, .slice ta td.length tc), (7, .slice (some ⟨w.heap.size, 0, none⟩) ((List.replicate n false).length) n), (6, .slice none 0 0), (2, .func (.func next) #[] nextc.toArray)]) rfl ?_
        refine W.iteB (b := !(o3.getD (((nx (td.getD (td.length - 1) 0)).getD j 0).toNat) false)) rfl (fun c131 => ?_) (fun c131 => ?_)
        · skip
          refine W.seq ?_
          refine W.region ?_
          refine WL.op rfl (d_move rfl ?_)
          refine WL.op rfl (d_move rfl ?_)
          refine WL.op rfl (t_addr1 (((nx (td.getD (td.length - 1) 0)).getD j 0).toNat) (T := tyB) rfl Try.underlying23 sz4 rfl rfl (H7.rdT 1 rfl) (by omega) (by omega) ?_)
          refine WL.op0 (t_store1 (((nx (td.getD (td.length - 1) 0)).getD j 0).toNat) true (T := tyB) (e := 4) rfl sz4 rfl rfl rfl (H7.ownT 1 rfl) (by omega) fun w8 u5 => ?_)
          have H8 : UpG w [rowT (tyI .i64) (.slice todoa todo.length todoc) 3 todo] w8 [[rowT (tyI .i64) (.slice ua tj.length uc) 3 tj], [rowT tyB (.slice (some ⟨w.heap.size, 0, none⟩) ((List.replicate n false).length) n) 4 (o3.set (((nx (td.getD (td.length - 1) 0)).getD j 0).toNat) true)]] := H7.on 1 rfl u5
          refine WL.done (X.then_code ?_)
          refine W.pick [54, 53, 52, 51, 50, 49, 48, 47, 12, 46, 45, 44, 43, 42, 41, 40, 39, 0, 38, 37, 36, 35, 34, 10, 33, 32, 31, 30, 29, 28, 27, 26, 25, 7, 6, 2] (Γ' := [(54, elemPtr (.slice (some ⟨w.heap.size, 0, none⟩) ((List.replicate n false).length) n) (((nx (td.getD (td.length - 1) 0)).getD j 0).toNat)), (53, .int .i64 ((nx (td.getD (td.length - 1) 0)).getD j 0)), (52, .slice (some ⟨w.heap.size, 0, none⟩) ((List.replicate n false).length) n), (51, .bool (!(o3.getD (((nx (td.getD (td.length - 1) 0)).getD j 0).toNat) false))), (50, .bool (o3.getD (((nx (td.getD (td.length - 1) 0)).getD j 0).toNat) false)), (49, elemPtr (.slice (some ⟨w.heap.size, 0, none⟩) ((List.replicate n false).length) n) (((nx (td.getD (td.length - 1) 0)).getD j 0).toNat)), (48, .int .i64 ((nx (td.getD (td.length - 1) 0)).getD j 0)), (47, .slice (some ⟨w.heap.size, 0, none⟩) ((List.replicate n false).length) n), (12, .int .i64 ((nx (td.getD (td.length - 1) 0)).getD j 0)), (46, .int .i64 ((nx (td.getD (td.length - 1) 0)).getD j 0)), (45, elemPtr (.slice na1 ((nx (td.getD (td.length - 1) 0)).length) nc1) j), (44, .bool (decide (((j : Nat) : Int) < (((nx (td.getD (td.length - 1) 0)).length : Nat) : Int)))), (43, .int .i64 ((j : Nat) : Int)), (42, .int .i64 (((nx (td.getD (td.length - 1) 0)).length : Nat) : Int)), (41, .slice na1 ((nx (td.getD (td.length - 1) 0)).length) nc1), (40, .int .i64 (td.getD (td.length - 1) 0)), (39, .func (.func next) #[] nextc.toArray), (0, .slice ua tj.length uc), (38, .slice ta ((td.take (td.length - 1)).length) tc), (37, .int .i64 (((td.length : Nat) : Int) - 1)), (36, .int .i64 ((td.length : Nat) : Int)), (35, .slice ta td.length tc), (34, .slice ta td.length tc), (10, .int .i64 (td.getD (td.length - 1) 0)), (33, .int .i64 (td.getD (td.length - 1) 0)), (32, elemPtr (.slice ta td.length tc) (td.length - 1)), (31, .int .i64 (((td.length : Nat) : Int) - 1)), (30, .int .i64 ((td.length : Nat) : Int)), (29, .slice ta td.length tc), (28, .slice ta td.length tc), (27, .bool (decide (((td.length : Nat) : Int) > (0 : Int)))), (26, .int .i64 ((td.length : Nat) : Int)), (25, .slice ta td.length tc), (7, .slice (some ⟨w.heap.size, 0, none⟩) ((List.replicate n false).length) n), (6, .slice none 0 0), (2, .func (.func next) #[] nextc.toArray)]) rfl ?_
          refine W.region ?_
          refine WL.op rfl (d_move rfl ?_)
          refine WL.op rfl (d_move rfl ?_)
          refine WL.op rfl (t_buildSlice (T := (tyI .i64)) (xs := [(nx (td.getD (td.length - 1) 0)).getD j 0]) (cs := #[.int .i64 ((nx (td.getD (td.length - 1) 0)).getD j 0)]) rfl Try.underlying22 sz3 rfl rfl rfl rfl (by kernel_rfl) rfl rfl fun w9 u6 => ?_)
          have H9 : UpG w [rowT (tyI .i64) (.slice todoa todo.length todoc) 3 todo] w9 [[rowT (tyI .i64) (.slice ua tj.length uc) 3 tj], [rowT tyB (.slice (some ⟨w.heap.size, 0, none⟩) ((List.replicate n false).length) n) 4 (o3.set (((nx (td.getD (td.length - 1) 0)).getD j 0).toNat) true)], [rowT (tyI .i64) (.slice (some ⟨w8.heap.size, 0, none⟩) ([(nx (td.getD (td.length - 1) 0)).getD j 0].length) ([(nx (td.getD (td.length - 1) 0)).getD j 0].length)) 3 [(nx (td.getD (td.length - 1) 0)).getD j 0]]] := H8.new' u6
          refine WL.op rfl (t_append (T := (tyI .i64)) (xs := tj) (ys := [(nx (td.getD (td.length - 1) 0)).getD j 0]) rfl Try.underlying22 sz3 rfl rfl rfl (H9.ownT 0 rfl) (H9.rdT 2 rfl) (by simp; omega) (by simp; omega) fun a1 c1 w10 u7 => ?_)
          have H10 : UpG w [rowT (tyI .i64) (.slice todoa todo.length todoc) 3 todo] w10 [[rowT (tyI .i64) (.slice a1 ((tj ++ [(nx (td.getD (td.length - 1) 0)).getD j 0]).length) c1) 3 (tj ++ [(nx (td.getD (td.length - 1) 0)).getD j 0])], [rowT tyB (.slice (some ⟨w.heap.size, 0, none⟩) ((List.replicate n false).length) n) 4 (o3.set (((nx (td.getD (td.length - 1) 0)).getD j 0).toNat) true)], []] := (H9.on 0 rfl u7).drop 2
          refine WL.op rfl (d_assign rfl ?_)
          refine WL.done (X.block_normal (X.then_code ?_))
          refine W.pick [0, 58, 57, 56, 55, 54, 53, 52, 51, 50, 49, 48, 47, 12, 46, 45, 44, 43, 42, 41, 40, 39, 38, 37, 36, 35, 34, 10, 33, 32, 31, 30, 29, 28, 27, 26, 25, 7, 6, 2] (Γ' := [(0, .slice a1 ((tj ++ [(nx (td.getD (td.length - 1) 0)).getD j 0]).length) c1), (58, .slice a1 ((tj ++ [(nx (td.getD (td.length - 1) 0)).getD j 0]).length) c1), (57, .slice (some ⟨w8.heap.size, 0, none⟩) ([(nx (td.getD (td.length - 1) 0)).getD j 0].length) ([(nx (td.getD (td.length - 1) 0)).getD j 0].length)), (56, .int .i64 ((nx (td.getD (td.length - 1) 0)).getD j 0)), (55, .slice ua tj.length uc), (54, elemPtr (.slice (some ⟨w.heap.size, 0, none⟩) ((List.replicate n false).length) n) (((nx (td.getD (td.length - 1) 0)).getD j 0).toNat)), (53, .int .i64 ((nx (td.getD (td.length - 1) 0)).getD j 0)), (52, .slice (some ⟨w.heap.size, 0, none⟩) ((List.replicate n false).length) n), (51, .bool (!(o3.getD (((nx (td.getD (td.length - 1) 0)).getD j 0).toNat) false))), (50, .bool (o3.getD (((nx (td.getD (td.length - 1) 0)).getD j 0).toNat) false)), (49, elemPtr (.slice (some ⟨w.heap.size, 0, none⟩) ((List.replicate n false).length) n) (((nx (td.getD (td.length - 1) 0)).getD j 0).toNat)), (48, .int .i64 ((nx (td.getD (td.length - 1) 0)).getD j 0)), (47, .slice (some ⟨w.heap.size, 0, none⟩) ((List.replicate n false).length) n), (12, .int .i64 ((nx (td.getD (td.length - 1) 0)).getD j 0)), (46, .int .i64 ((nx (td.getD (td.length - 1) 0)).getD j 0)), (45, elemPtr (.slice na1 ((nx (td.getD (td.length - 1) 0)).length) nc1) j), (44, .bool (decide (((j : Nat) : Int) < (((nx (td.getD (td.length - 1) 0)).length : Nat) : Int)))), (43, .int .i64 ((j : Nat) : Int)), (42, .int .i64 (((nx (td.getD (td.length - 1) 0)).length : Nat) : Int)), (41, .slice na1 ((nx (td.getD (td.length - 1) 0)).length) nc1), (40, .int .i64 (td.getD (td.length - 1) 0)), (39, .func (.func next) #[] nextc.toArray), (38, .slice ta ((td.take (td.length - 1)).length) tc), (37, .int .i64 (((td.length : Nat) : Int) - 1)), (36, .int .i64 ((td.length : Nat) : Int)), (35, .slice ta td.length tc), (34, .slice ta td.length tc), (10, .int .i64 (td.getD (td.length - 1) 0)), (33, .int .i64 (td.getD (td.length - 1) 0)), (32, elemPtr (.slice ta td.length tc) (td.length - 1)), (31, .int .i64 (((td.length : Nat) : Int) - 1)), (30, .int .i64 ((td.length : Nat) : Int)), (29, .slice ta td.length tc), (28, .slice ta td.length tc), (27, .bool (decide (((td.length : Nat) : Int) > (0 : Int)))), (26, .int .i64 ((td.length : Nat) : Int)), (25, .slice ta td.length tc), (7, .slice (some ⟨w.heap.size, 0, none⟩) ((List.replicate n false).length) n), (6, .slice none 0 0), (2, .func (.func next) #[] nextc.toArray)]) rfl ?_
          have hst := (hi.inT (td.getD (td.length - 1) 0) (getD_mem' (by omega))).1
          have hns := hnx _ hst.1 hst.2
          refine W.region ?_
          refine WL.op rfl (d_add rfl rfl (by omega) (by omega) ?_)
          refine WL.op rfl (d_move rfl ?_)
          refine WL.done ?_
          exact X.next [43, 42, 41, 40, 39, 0, 38, 37, 36, 35, 34, 10, 33, 32, 31, 30, 29, 28, 27, 26, 25, 7, 6, 2] (Γ' := [(43, .int .i64 (((j + 1) : Nat) : Int)), (42, .int .i64 (((nx (td.getD (td.length - 1) 0)).length : Nat) : Int)), (41, .slice na1 ((nx (td.getD (td.length - 1) 0)).length) nc1), (40, .int .i64 (td.getD (td.length - 1) 0)), (39, .func (.func next) #[] nextc.toArray), (0, .slice a1 ((tj ++ [(nx (td.getD (td.length - 1) 0)).getD j 0]).length) c1), (38, .slice ta ((td.take (td.length - 1)).length) tc), (37, .int .i64 (((td.length : Nat) : Int) - 1)), (36, .int .i64 ((td.length : Nat) : Int)), (35, .slice ta td.length tc), (34, .slice ta td.length tc), (10, .int .i64 (td.getD (td.length - 1) 0)), (33, .int .i64 (td.getD (td.length - 1) 0)), (32, elemPtr (.slice ta td.length tc) (td.length - 1)), (31, .int .i64 (((td.length : Nat) : Int) - 1)), (30, .int .i64 ((td.length : Nat) : Int)), (29, .slice ta td.length tc), (28, .slice ta td.length tc), (27, .bool (decide (((td.length : Nat) : Int) > (0 : Int)))), (26, .int .i64 ((td.length : Nat) : Int)), (25, .slice ta td.length tc), (7, .slice (some ⟨w.heap.size, 0, none⟩) ((List.replicate n false).length) n), (6, .slice none 0 0), (2, .func (.func next) #[] nextc.toArray)]) rfl ((nx (td.getD (td.length - 1) 0)).length - (j + 1)) (by omega) ⟨j + 1, o3.set (((nx (td.getD (td.length - 1) 0)).getD j 0).toNat) true, tj ++ [(nx (td.getD (td.length - 1) 0)).getD j 0], a1, c1, rfl, (H10.re rfl), (by first | exact hj.new (by omega) hb | exact hj.old (by omega) (by simpa using c131)), (by first | assumption | omega | simp), (by first | omega | (have h9 := cf_set o3 ((nx (td.getD (td.length - 1) 0)).getD j 0).toNat (by omega) (by simpa using c131); rw [List.length_append, List.length_singleton]; omega)), rfl⟩
        · skip
          refine W.skip (X.block_normal (X.then_code ?_))
          refine W.pick [51, 50, 49, 48, 47, 12, 46, 45, 44, 43, 42, 41, 40, 39, 0, 38, 37, 36, 35, 34, 10, 33, 32, 31, 30, 29, 28, 27, 26, 25, 7, 6, 2] (Γ' := [(51, .bool (!(o3.getD (((nx (td.getD (td.length - 1) 0)).getD j 0).toNat) false))), (50, .bool (o3.getD (((nx (td.getD (td.length - 1) 0)).getD j 0).toNat) false)), (49, elemPtr (.slice (some ⟨w.heap.size, 0, none⟩) ((List.replicate n false).length) n) (((nx (td.getD (td.length - 1) 0)).getD j 0).toNat)), (48, .int .i64 ((nx (td.getD (td.length - 1) 0)).getD j 0)), (47, .slice (some ⟨w.heap.size, 0, none⟩) ((List.replicate n false).length) n), (12, .int .i64 ((nx (td.getD (td.length - 1) 0)).getD j 0)), (46, .int .i64 ((nx (td.getD (td.length - 1) 0)).getD j 0)), (45, elemPtr (.slice na1 ((nx (td.getD (td.length - 1) 0)).length) nc1) j), (44, .bool (decide (((j : Nat) : Int) < (((nx (td.getD (td.length - 1) 0)).length : Nat) : Int)))), (43, .int .i64 ((j : Nat) : Int)), (42, .int .i64 (((nx (td.getD (td.length - 1) 0)).length : Nat) : Int)), (41, .slice na1 ((nx (td.getD (td.length - 1) 0)).length) nc1), (40, .int .i64 (td.getD (td.length - 1) 0)), (39, .func (.func next) #[] nextc.toArray), (0, .slice ua tj.length uc), (38, .slice ta ((td.take (td.length - 1)).length) tc), (37, .int .i64 (((td.length : Nat) : Int) - 1)), (36, .int .i64 ((td.length : Nat) : Int)), (35, .slice ta td.length tc), (34, .slice ta td.length tc), (10, .int .i64 (td.getD (td.length - 1) 0)), (33, .int .i64 (td.getD (td.length - 1) 0)), (32, elemPtr (.slice ta td.length tc) (td.length - 1)), (31, .int .i64 (((td.length : Nat) : Int) - 1)), (30, .int .i64 ((td.length : Nat) : Int)), (29, .slice ta td.length tc), (28, .slice ta td.length tc), (27, .bool (decide (((td.length : Nat) : Int) > (0 : Int)))), (26, .int .i64 ((td.length : Nat) : Int)), (25, .slice ta td.length tc), (7, .slice (some ⟨w.heap.size, 0, none⟩) ((List.replicate n false).length) n), (6, .slice none 0 0), (2, .func (.func next) #[] nextc.toArray)]) rfl ?_
          have hst := (hi.inT (td.getD (td.length - 1) 0) (getD_mem' (by omega))).1
          have hns := hnx _ hst.1 hst.2
          refine W.region ?_
          refine WL.op rfl (d_add rfl rfl (by omega) (by omega) ?_)
          refine WL.op rfl (d_move rfl ?_)
          refine WL.done ?_
          exact X.next [43, 42, 41, 40, 39, 0, 38, 37, 36, 35, 34, 10, 33, 32, 31, 30, 29, 28, 27, 26, 25, 7, 6, 2] (Γ' := [(43, .int .i64 (((j + 1) : Nat) : Int)), (42, .int .i64 (((nx (td.getD (td.length - 1) 0)).length : Nat) : Int)), (41, .slice na1 ((nx (td.getD (td.length - 1) 0)).length) nc1), (40, .int .i64 (td.getD (td.length - 1) 0)), (39, .func (.func next) #[] nextc.toArray), (0, .slice ua tj.length uc), (38, .slice ta ((td.take (td.length - 1)).length) tc), (37, .int .i64 (((td.length : Nat) : Int) - 1)), (36, .int .i64 ((td.length : Nat) : Int)), (35, .slice ta td.length tc), (34, .slice ta td.length tc), (10, .int .i64 (td.getD (td.length - 1) 0)), (33, .int .i64 (td.getD (td.length - 1) 0)), (32, elemPtr (.slice ta td.length tc) (td.length - 1)), (31, .int .i64 (((td.length : Nat) : Int) - 1)), (30, .int .i64 ((td.length : Nat) : Int)), (29, .slice ta td.length tc), (28, .slice ta td.length tc), (27, .bool (decide (((td.length : Nat) : Int) > (0 : Int)))), (26, .int .i64 ((td.length : Nat) : Int)), (25, .slice ta td.length tc), (7, .slice (some ⟨w.heap.size, 0, none⟩) ((List.replicate n false).length) n), (6, .slice none 0 0), (2, .func (.func next) #[] nextc.toArray)]) rfl ((nx (td.getD (td.length - 1) 0)).length - (j + 1)) (by omega) ⟨j + 1, o3, tj, ua, uc, rfl, H7, (by first | exact hj.new (by omega) hb | exact hj.old (by omega) (by simpa using c131)), (by first | assumption | omega | simp), (by first | omega | (have h9 := cf_set o3 ((nx (td.getD (td.length - 1) 0)).getD j 0).toNat (by omega) (by simpa using c131); rw [List.length_append, List.length_singleton]; omega)), rfl⟩
      · skip
        refine W.exit (X.then_exit (X.then_exit (X.block_exit (X.block_normal ?_))))
        exact X.next [7, 6, 0, 2] (Γ' := [(7, .slice (some ⟨w.heap.size, 0, none⟩) ((List.replicate n false).length) n), (6, .slice none 0 0), (0, .slice ua tj.length uc), (2, .func (.func next) #[] nextc.toArray)]) rfl (2 * cf o3 + tj.length) (by omega) ⟨o3, tj, ua, uc, rfl, H7, (by exact hj.done (by omega)), (by omega), rfl⟩
    · skip
      refine W.exit (X.then_exit (X.then_exit (X.block_exit (X.then_code ?_))))
      refine W.seq ?_
      refine W.region ?_
      refine WL.op rfl (d_move rfl ?_)
      refine WL.op rfl (d_assign rfl ?_)
      refine WL.done (X.then_code ?_)
      refine W.ret (X.ret1 rfl rfl ?_)
      have hfin := hi.fin (by omega)
      exact ⟨(some ⟨w.heap.size, 0, none⟩), o_1, n, (by rw [hol2, List.length_replicate]), (by have h9 := H4.one 1 rfl; rw [List.length_replicate] at h9; rw [hol2]; exact h9), hfin⟩
end Go.Proofs.Ytoeockpkkmgieaa
