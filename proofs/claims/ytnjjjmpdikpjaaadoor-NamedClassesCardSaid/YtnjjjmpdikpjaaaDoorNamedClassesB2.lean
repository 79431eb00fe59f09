/- The walks of functions, printed by wip/tools/gw.py. -/
import Derived.Test.YtnjjjmpdikpjaaaDoorNamedClassesB1
namespace Go.Proofs.YtnjjjmpdikpjaaaDoor
open Go Go.Sx
set_option linter.unusedVariables false
set_option linter.unusedSimpArgs false
set_option maxRecDepth 20000 in
theorem and1_any (x : BitVec 64) (y : BitVec 64) (w : World) :
    Calls Tryd.prog 27 #[.int .u64 ((x.toNat : Nat) : Int), .int .u64 ((y.toNat : Nat) : Int)] w (Ret fun v w' => v = .int .u64 (((x &&& y).toNat : Nat) : Int) ∧ Upd w [] w' []) := by
  refine calls_of_W (args := [.int .u64 ((x.toNat : Nat) : Int), .int .u64 ((y.toNat : Nat) : Int)]) Tryd.func27 rfl rfl rfl ?_
  have H0 : UpG w [] w [] := UpG.nil w
  show W _ _ _ _ [(0, .int .u64 ((x.toNat : Nat) : Int)), (1, .int .u64 ((y.toNat : Nat) : Int))] w
  refine W.seq ?_
  refine W.region ?_
  refine WL.op rfl (d_assign rfl ?_)
  refine WL.done (X.then_code ?_)
  refine W.seq ?_
  refine W.region ?_
  refine WL.op rfl (d_move rfl ?_)
  refine WL.op rfl (d_move rfl ?_)
  refine WL.op rfl (d_bvand (a := x) (b := y) rfl rfl ?_)
  refine WL.op rfl (d_assign rfl ?_)
  refine WL.done (X.then_code ?_)
  refine W.ret (X.ret1 rfl rfl ?_)
  exact ⟨rfl, H0.noneL⟩

set_option maxRecDepth 20000 in
theorem or1_any (x : BitVec 64) (y : BitVec 64) (w : World) :
    Calls Tryd.prog 36 #[.int .u64 ((x.toNat : Nat) : Int), .int .u64 ((y.toNat : Nat) : Int)] w (Ret fun v w' => v = .int .u64 (((x ||| y).toNat : Nat) : Int) ∧ Upd w [] w' []) := by
  refine calls_of_W (args := [.int .u64 ((x.toNat : Nat) : Int), .int .u64 ((y.toNat : Nat) : Int)]) Tryd.func36 rfl rfl rfl ?_
  have H0 : UpG w [] w [] := UpG.nil w
  show W _ _ _ _ [(0, .int .u64 ((x.toNat : Nat) : Int)), (1, .int .u64 ((y.toNat : Nat) : Int))] w
  refine W.seq ?_
  refine W.region ?_
  refine WL.op rfl (d_assign rfl ?_)
  refine WL.done (X.then_code ?_)
  refine W.seq ?_
  refine W.region ?_
  refine WL.op rfl (d_move rfl ?_)
  refine WL.op rfl (d_move rfl ?_)
  refine WL.op rfl (d_bvor (a := x) (b := y) rfl rfl ?_)
  refine WL.op rfl (d_assign rfl ?_)
  refine WL.done (X.then_code ?_)
  refine W.ret (X.ret1 rfl rfl ?_)
  exact ⟨rfl, H0.noneL⟩

set_option maxRecDepth 20000 in
theorem not1_any (x : BitVec 64) (y : BitVec 64) (w : World) :
    Calls Tryd.prog 37 #[.int .u64 ((x.toNat : Nat) : Int), .int .u64 ((y.toNat : Nat) : Int)] w (Ret fun v w' => v = .int .u64 (((~~~x).toNat : Nat) : Int) ∧ Upd w [] w' []) := by
  refine calls_of_W (args := [.int .u64 ((x.toNat : Nat) : Int), .int .u64 ((y.toNat : Nat) : Int)]) Tryd.func37 rfl rfl rfl ?_
  have H0 : UpG w [] w [] := UpG.nil w
  show W _ _ _ _ [(0, .int .u64 ((x.toNat : Nat) : Int)), (1, .int .u64 ((y.toNat : Nat) : Int))] w
  refine W.seq ?_
  refine W.region ?_
  refine WL.op rfl (d_assign rfl ?_)
  refine WL.done (X.then_code ?_)
  refine W.seq ?_
  refine W.region ?_
  refine WL.op rfl (d_move rfl ?_)
  refine WL.op rfl (d_bvcom (a := x) rfl ?_)
  refine WL.op rfl (d_assign rfl ?_)
  refine WL.done (X.then_code ?_)
  refine W.ret (X.ret1 rfl rfl ?_)
  exact ⟨rfl, H0.noneL⟩

set_option maxRecDepth 20000 in
theorem eachAnd_any (a : Bs) (b : Bs) (w : World) :
    Calls Tryd.prog 26 #[.agg #[.int .u64 ((a.w0.toNat : Nat) : Int), .int .u64 ((a.w1.toNat : Nat) : Int), .int .u64 ((a.w2.toNat : Nat) : Int), .int .u64 ((a.w3.toNat : Nat) : Int)], .agg #[.int .u64 ((b.w0.toNat : Nat) : Int), .int .u64 ((b.w1.toNat : Nat) : Int), .int .u64 ((b.w2.toNat : Nat) : Int), .int .u64 ((b.w3.toNat : Nat) : Int)], .func (.func 27) #[] #[]] w (Ret fun v w' => v = .agg #[.int .u64 ((((andB a b).w0).toNat : Nat) : Int), .int .u64 ((((andB a b).w1).toNat : Nat) : Int), .int .u64 ((((andB a b).w2).toNat : Nat) : Int), .int .u64 ((((andB a b).w3).toNat : Nat) : Int)] ∧ Upd w [] w' []) := by
  refine calls_of_W (args := [.agg #[.int .u64 ((a.w0.toNat : Nat) : Int), .int .u64 ((a.w1.toNat : Nat) : Int), .int .u64 ((a.w2.toNat : Nat) : Int), .int .u64 ((a.w3.toNat : Nat) : Int)], .agg #[.int .u64 ((b.w0.toNat : Nat) : Int), .int .u64 ((b.w1.toNat : Nat) : Int), .int .u64 ((b.w2.toNat : Nat) : Int), .int .u64 ((b.w3.toNat : Nat) : Int)], .func (.func 27) #[] #[]]) Tryd.func26 rfl rfl rfl ?_
  have H0 : UpG w [] w [] := UpG.nil w
  show W _ _ _ _ [(0, .agg #[.int .u64 ((a.w0.toNat : Nat) : Int), .int .u64 ((a.w1.toNat : Nat) : Int), .int .u64 ((a.w2.toNat : Nat) : Int), .int .u64 ((a.w3.toNat : Nat) : Int)]), (1, .agg #[.int .u64 ((b.w0.toNat : Nat) : Int), .int .u64 ((b.w1.toNat : Nat) : Int), .int .u64 ((b.w2.toNat : Nat) : Int), .int .u64 ((b.w3.toNat : Nat) : Int)]), (2, .func (.func 27) #[] #[])] w
  refine W.seq ?_
  refine W.region ?_
  refine WL.op rfl (d_box rfl fun w1 u1 => ?_)
  have H1 : UpG w [] w1 [[blk w.heap.size #[.int .u64 ((a.w0.toNat : Nat) : Int), .int .u64 ((a.w1.toNat : Nat) : Int), .int .u64 ((a.w2.toNat : Nat) : Int), .int .u64 ((a.w3.toNat : Nat) : Int)] 24]] := H0.new' u1
  refine WL.op rfl (d_box rfl fun w2 u2 => ?_)
  have H2 : UpG w [] w2 [[blk w.heap.size #[.int .u64 ((a.w0.toNat : Nat) : Int), .int .u64 ((a.w1.toNat : Nat) : Int), .int .u64 ((a.w2.toNat : Nat) : Int), .int .u64 ((a.w3.toNat : Nat) : Int)] 24], [blk w1.heap.size #[.int .u64 ((b.w0.toNat : Nat) : Int), .int .u64 ((b.w1.toNat : Nat) : Int), .int .u64 ((b.w2.toNat : Nat) : Int), .int .u64 ((b.w3.toNat : Nat) : Int)] 24]] := H1.new' u2
  refine WL.op rfl (d_alloc sz24 fun w3 u3 => ?_)
  have H3 : UpG w [] w3 [[blk w.heap.size #[.int .u64 ((a.w0.toNat : Nat) : Int), .int .u64 ((a.w1.toNat : Nat) : Int), .int .u64 ((a.w2.toNat : Nat) : Int), .int .u64 ((a.w3.toNat : Nat) : Int)] 24], [blk w1.heap.size #[.int .u64 ((b.w0.toNat : Nat) : Int), .int .u64 ((b.w1.toNat : Nat) : Int), .int .u64 ((b.w2.toNat : Nat) : Int), .int .u64 ((b.w3.toNat : Nat) : Int)] 24], [blk w2.heap.size #[.int .u64 ((Bs.zero.w0.toNat : Nat) : Int), .int .u64 ((Bs.zero.w1.toNat : Nat) : Int), .int .u64 ((Bs.zero.w2.toNat : Nat) : Int), .int .u64 ((Bs.zero.w3.toNat : Nat) : Int)] 24]] := H2.new' u3
  refine WL.done (X.then_code ?_)
  refine W.seq ?_
  refine W.seq ?_
  refine W.region ?_
  refine WL.op rfl (d_move rfl ?_)
  refine WL.done (X.then_code ?_)
  refine W.block ?_
  refine W.pick [8, 6, 4, 3, 2] (Γ' := [(8, .int .i64 0), (6, .pointer (some ⟨w2.heap.size, 0, none⟩)), (4, .pointer (some ⟨w1.heap.size, 0, none⟩)), (3, .pointer (some ⟨w.heap.size, 0, none⟩)), (2, .func (.func 27) #[] #[])]) rfl ?_
  refine W.loop (fun m Γ' w' => ∃ k : Nat, ∃ r : Bs, Γ' = [(8, .int .i64 ((k : Nat) : Int)), (6, .pointer (some ⟨w2.heap.size, 0, none⟩)), (4, .pointer (some ⟨w1.heap.size, 0, none⟩)), (3, .pointer (some ⟨w.heap.size, 0, none⟩)), (2, .func (.func 27) #[] #[])] ∧ UpG w [] w' [[blk w.heap.size #[.int .u64 ((r.w0.toNat : Nat) : Int), .int .u64 ((r.w1.toNat : Nat) : Int), .int .u64 ((r.w2.toNat : Nat) : Int), .int .u64 ((r.w3.toNat : Nat) : Int)] 24], [blk w1.heap.size #[.int .u64 ((b.w0.toNat : Nat) : Int), .int .u64 ((b.w1.toNat : Nat) : Int), .int .u64 ((b.w2.toNat : Nat) : Int), .int .u64 ((b.w3.toNat : Nat) : Int)] 24], [blk w2.heap.size #[.int .u64 ((Bs.zero.w0.toNat : Nat) : Int), .int .u64 ((Bs.zero.w1.toNat : Nat) : Int), .int .u64 ((Bs.zero.w2.toNat : Nat) : Int), .int .u64 ((Bs.zero.w3.toNat : Nat) : Int)] 24]] ∧ (k ≤ 4) ∧ (∀ j, j < 4 → r.get j = if j < k then (fun p q => p &&& q) (a.get j) (b.get j) else a.get j) ∧ m = 4 - k) (4 - 0) ⟨0, a, rfl, H3, (by first | assumption | omega | simp), (by intro j hj; rw [if_neg (by omega)]), rfl⟩ ?_
  rintro m1 Γ1 w4 ⟨k, r, rfl, H4, hk, hr, rfl⟩
  refine W.seq ?_
  refine W.region ?_
  refine WL.op rfl (d_cmp (decide (((k : Nat) : Int) < (4 : Int))) rfl rfl rfl ?_)
  refine WL.done (X.then_code ?_)
  refine W.seq ?_
  refine W.ite (p := ((k : Nat) : Int) < (4 : Int)) rfl (fun c33 => ?_) (fun c33 => ?_)
  · skip
    refine W.skip (X.then_code ?_)
    refine W.seq ?_
    refine W.block ?_
    refine W.seq ?_
    refine W.region ?_
    refine WL.op rfl (d_move rfl ?_)
    refine WL.op rfl (d_assign rfl ?_)
    refine WL.done (X.then_code ?_)
    refine W.regionD mixed (by kernel_rfl) fun hok1 w5 k1 => ?_
    have H5 : UpG w [] w5 [[blk w.heap.size #[.int .u64 ((r.w0.toNat : Nat) : Int), .int .u64 ((r.w1.toNat : Nat) : Int), .int .u64 ((r.w2.toNat : Nat) : Int), .int .u64 ((r.w3.toNat : Nat) : Int)] 24], [blk w1.heap.size #[.int .u64 ((b.w0.toNat : Nat) : Int), .int .u64 ((b.w1.toNat : Nat) : Int), .int .u64 ((b.w2.toNat : Nat) : Int), .int .u64 ((b.w3.toNat : Nat) : Int)] 24], [blk w2.heap.size #[.int .u64 ((Bs.zero.w0.toNat : Nat) : Int), .int .u64 ((Bs.zero.w1.toNat : Nat) : Int), .int .u64 ((Bs.zero.w2.toNat : Nat) : Int), .int .u64 ((Bs.zero.w3.toNat : Nat) : Int)] 24]] := H4.kept k1
    refine WD.take hok1 0 (.int .i64 ((k : Nat) : Int)) (fun _ => True) rfl rfl rfl rfl rfl trivial (.inl ⟨rfl, fun _ _ => d_move rfl ⟨rfl, rfl⟩⟩) ?_
    refine WD.take hok1 1 (.func (.func 27) #[] #[]) (fun _ => True) rfl rfl rfl rfl rfl trivial (.inl ⟨rfl, fun _ _ => d_move rfl ⟨rfl, rfl⟩⟩) ?_
    refine WD.take hok1 2 (.int .i64 ((k : Nat) : Int)) (fun _ => True) rfl rfl rfl rfl rfl trivial (.inl ⟨rfl, fun _ _ => d_move rfl ⟨rfl, rfl⟩⟩) ?_
    refine WD.take hok1 3 (.pointer (some ⟨w.heap.size, k, none⟩)) (fun _ => True) rfl rfl rfl rfl rfl trivial (.inl ⟨rfl, fun _ _ => d_idxBs (j := k) Tryd.underlying24 sz22 rfl rfl (by omega) ⟨rfl, rfl⟩⟩) ?_
    refine WD.take hok1 4 (.int .u64 (((r.get k).toNat : Nat) : Int)) (fun w' => w'.heap[w.heap.size]? = some (.cells #[.int .u64 ((r.w0.toNat : Nat) : Int), .int .u64 ((r.w1.toNat : Nat) : Int), .int .u64 ((r.w2.toNat : Nat) : Int), .int .u64 ((r.w3.toNat : Nat) : Int)] 24 (0, 0))) rfl rfl rfl rfl rfl (H5.blk 0 rfl) (.inl ⟨rfl, fun _ hC => d_loadBs r Tryd.underlying22 rfl rfl hC (by omega) ⟨rfl, rfl⟩⟩) ?_
    refine WD.take hok1 5 (.int .i64 ((k : Nat) : Int)) (fun _ => True) rfl rfl rfl rfl rfl trivial (.inl ⟨rfl, fun _ _ => d_move rfl ⟨rfl, rfl⟩⟩) ?_
    refine WD.take hok1 6 (.pointer (some ⟨w1.heap.size, k, none⟩)) (fun _ => True) rfl rfl rfl rfl rfl trivial (.inl ⟨rfl, fun _ _ => d_idxBs (j := k) Tryd.underlying24 sz22 rfl rfl (by omega) ⟨rfl, rfl⟩⟩) ?_
    refine WD.take hok1 7 (.int .u64 (((b.get k).toNat : Nat) : Int)) (fun w' => w'.heap[w1.heap.size]? = some (.cells #[.int .u64 ((b.w0.toNat : Nat) : Int), .int .u64 ((b.w1.toNat : Nat) : Int), .int .u64 ((b.w2.toNat : Nat) : Int), .int .u64 ((b.w3.toNat : Nat) : Int)] 24 (0, 0))) rfl rfl rfl rfl rfl (H5.blk 1 rfl) (.inl ⟨rfl, fun _ hC => d_loadBs b Tryd.underlying22 rfl rfl hC (by omega) ⟨rfl, rfl⟩⟩) ?_
    refine WD.loud hok1 8 rfl (⟨_, [⟨0, .int .i64 ((k : Nat) : Int), (fun _ => True)⟩], rfl, rfl, rfl, rfl, rfl, rfl, d_callv ok27 rfl rfl (Ret.calls (and1_any (r.get k) (b.get k) w5  ) fun _ w6 p1 => ?_)⟩)
    obtain ⟨rfl, u4⟩ := p1
    have H6 : UpG w [] w6 [[blk w.heap.size #[.int .u64 ((r.w0.toNat : Nat) : Int), .int .u64 ((r.w1.toNat : Nat) : Int), .int .u64 ((r.w2.toNat : Nat) : Int), .int .u64 ((r.w3.toNat : Nat) : Int)] 24], [blk w1.heap.size #[.int .u64 ((b.w0.toNat : Nat) : Int), .int .u64 ((b.w1.toNat : Nat) : Int), .int .u64 ((b.w2.toNat : Nat) : Int), .int .u64 ((b.w3.toNat : Nat) : Int)] 24], [blk w2.heap.size #[.int .u64 ((Bs.zero.w0.toNat : Nat) : Int), .int .u64 ((Bs.zero.w1.toNat : Nat) : Int), .int .u64 ((Bs.zero.w2.toNat : Nat) : Int), .int .u64 ((Bs.zero.w3.toNat : Nat) : Int)] 24]] := H5.call u4
    refine ⟨⟨trivial, trivial⟩, ?_⟩
    refine WD.take hok1 9 (.pointer (some ⟨w.heap.size, k, none⟩)) (fun _ => True) rfl rfl rfl rfl rfl trivial (.inl ⟨rfl, fun _ _ => d_idxBs (j := k) Tryd.underlying24 sz22 rfl rfl (by omega) ⟨rfl, rfl⟩⟩) ?_
    refine WD.loud hok1 10 rfl (⟨_, [], rfl, rfl, rfl, rfl, rfl, rfl, d_storeBs r ((r.get k) &&& (b.get k)) sz22 rfl rfl (H6.blk 0 rfl) (by omega) fun w7 u5 => ?_⟩)
    have H7 : UpG w [] w7 [[blk w.heap.size #[.int .u64 ((((r.put k ((r.get k) &&& (b.get k))).w0).toNat : Nat) : Int), .int .u64 ((((r.put k ((r.get k) &&& (b.get k))).w1).toNat : Nat) : Int), .int .u64 ((((r.put k ((r.get k) &&& (b.get k))).w2).toNat : Nat) : Int), .int .u64 ((((r.put k ((r.get k) &&& (b.get k))).w3).toNat : Nat) : Int)] 24], [blk w1.heap.size #[.int .u64 ((b.w0.toNat : Nat) : Int), .int .u64 ((b.w1.toNat : Nat) : Int), .int .u64 ((b.w2.toNat : Nat) : Int), .int .u64 ((b.w3.toNat : Nat) : Int)] 24], [blk w2.heap.size #[.int .u64 ((Bs.zero.w0.toNat : Nat) : Int), .int .u64 ((Bs.zero.w1.toNat : Nat) : Int), .int .u64 ((Bs.zero.w2.toNat : Nat) : Int), .int .u64 ((Bs.zero.w3.toNat : Nat) : Int)] 24]] := H6.on 0 rfl u5
    refine ⟨trivial, ?_⟩
    refine WD.done hok1 rfl (X.block_normal (X.then_code ?_))
    refine W.region ?_
    refine WL.op rfl (d_add rfl rfl (by omega) (by omega) ?_)
    refine WL.op rfl (d_move rfl ?_)
    refine WL.done ?_
    exact X.next [8, 6, 4, 3, 2] (Γ' := [(8, .int .i64 (((k + 1) : Nat) : Int)), (6, .pointer (some ⟨w2.heap.size, 0, none⟩)), (4, .pointer (some ⟨w1.heap.size, 0, none⟩)), (3, .pointer (some ⟨w.heap.size, 0, none⟩)), (2, .func (.func 27) #[] #[])]) rfl (4 - (k + 1)) (by omega) ⟨k + 1, (r.put k ((r.get k) &&& (b.get k))), rfl, H7, (by first | assumption | omega | simp), (by exact each_step (F := fun p q => p &&& q) (b := b) (by omega) hr), rfl⟩
  · skip
    refine W.exit (X.then_exit (X.then_exit (X.block_exit (X.then_code ?_))))
    refine W.seq ?_
    refine W.region ?_
    refine WL.op rfl (d_loadAB [.int .u64 ((r.w0.toNat : Nat) : Int), .int .u64 ((r.w1.toNat : Nat) : Int), .int .u64 ((r.w2.toNat : Nat) : Int), .int .u64 ((r.w3.toNat : Nat) : Int)] Tryd.underlying24 rfl sz24 rfl (H4.blk 0 rfl) rfl rfl ?_)
    refine WL.op0 (d_storeAB (us := [.int .u64 ((r.w0.toNat : Nat) : Int), .int .u64 ((r.w1.toNat : Nat) : Int), .int .u64 ((r.w2.toNat : Nat) : Int), .int .u64 ((r.w3.toNat : Nat) : Int)]) (cs' := #[.int .u64 ((r.w0.toNat : Nat) : Int), .int .u64 ((r.w1.toNat : Nat) : Int), .int .u64 ((r.w2.toNat : Nat) : Int), .int .u64 ((r.w3.toNat : Nat) : Int)]) sz24 rfl rfl rfl rfl (H4.blk 2 rfl) rfl rfl fun w8 u6 => ?_)
    have H8 : UpG w [] w8 [[blk w.heap.size #[.int .u64 ((r.w0.toNat : Nat) : Int), .int .u64 ((r.w1.toNat : Nat) : Int), .int .u64 ((r.w2.toNat : Nat) : Int), .int .u64 ((r.w3.toNat : Nat) : Int)] 24], [blk w1.heap.size #[.int .u64 ((b.w0.toNat : Nat) : Int), .int .u64 ((b.w1.toNat : Nat) : Int), .int .u64 ((b.w2.toNat : Nat) : Int), .int .u64 ((b.w3.toNat : Nat) : Int)] 24], [blk w2.heap.size #[.int .u64 ((r.w0.toNat : Nat) : Int), .int .u64 ((r.w1.toNat : Nat) : Int), .int .u64 ((r.w2.toNat : Nat) : Int), .int .u64 ((r.w3.toNat : Nat) : Int)] 24]] := H4.on 2 rfl u6
    refine WL.done (X.then_code ?_)
    refine W.ret (X.retR1 rfl (rv_cellA [.int .u64 ((r.w0.toNat : Nat) : Int), .int .u64 ((r.w1.toNat : Nat) : Int), .int .u64 ((r.w2.toNat : Nat) : Int), .int .u64 ((r.w3.toNat : Nat) : Int)] Tryd.underlying24 rfl sz24 rfl (H8.blk 2 rfl) rfl rfl) ?_)
    have e := each_done (F := fun p q => p &&& q) (a := a) (b := b) (q := andB a b) (by omega) hr (fun j hj => andB_get a b hj)
    exact ⟨(by rw [e]), H8.noneL⟩

set_option maxRecDepth 20000 in
theorem eachOr_any (a : Bs) (b : Bs) (w : World) :
    Calls Tryd.prog 26 #[.agg #[.int .u64 ((a.w0.toNat : Nat) : Int), .int .u64 ((a.w1.toNat : Nat) : Int), .int .u64 ((a.w2.toNat : Nat) : Int), .int .u64 ((a.w3.toNat : Nat) : Int)], .agg #[.int .u64 ((b.w0.toNat : Nat) : Int), .int .u64 ((b.w1.toNat : Nat) : Int), .int .u64 ((b.w2.toNat : Nat) : Int), .int .u64 ((b.w3.toNat : Nat) : Int)], .func (.func 36) #[] #[]] w (Ret fun v w' => v = .agg #[.int .u64 ((((orB a b).w0).toNat : Nat) : Int), .int .u64 ((((orB a b).w1).toNat : Nat) : Int), .int .u64 ((((orB a b).w2).toNat : Nat) : Int), .int .u64 ((((orB a b).w3).toNat : Nat) : Int)] ∧ Upd w [] w' []) := by
  refine calls_of_W (args := [.agg #[.int .u64 ((a.w0.toNat : Nat) : Int), .int .u64 ((a.w1.toNat : Nat) : Int), .int .u64 ((a.w2.toNat : Nat) : Int), .int .u64 ((a.w3.toNat : Nat) : Int)], .agg #[.int .u64 ((b.w0.toNat : Nat) : Int), .int .u64 ((b.w1.toNat : Nat) : Int), .int .u64 ((b.w2.toNat : Nat) : Int), .int .u64 ((b.w3.toNat : Nat) : Int)], .func (.func 36) #[] #[]]) Tryd.func26 rfl rfl rfl ?_
  have H0 : UpG w [] w [] := UpG.nil w
  show W _ _ _ _ [(0, .agg #[.int .u64 ((a.w0.toNat : Nat) : Int), .int .u64 ((a.w1.toNat : Nat) : Int), .int .u64 ((a.w2.toNat : Nat) : Int), .int .u64 ((a.w3.toNat : Nat) : Int)]), (1, .agg #[.int .u64 ((b.w0.toNat : Nat) : Int), .int .u64 ((b.w1.toNat : Nat) : Int), .int .u64 ((b.w2.toNat : Nat) : Int), .int .u64 ((b.w3.toNat : Nat) : Int)]), (2, .func (.func 36) #[] #[])] w
  refine W.seq ?_
  refine W.region ?_
  refine WL.op rfl (d_box rfl fun w1 u1 => ?_)
  have H1 : UpG w [] w1 [[blk w.heap.size #[.int .u64 ((a.w0.toNat : Nat) : Int), .int .u64 ((a.w1.toNat : Nat) : Int), .int .u64 ((a.w2.toNat : Nat) : Int), .int .u64 ((a.w3.toNat : Nat) : Int)] 24]] := H0.new' u1
  refine WL.op rfl (d_box rfl fun w2 u2 => ?_)
  have H2 : UpG w [] w2 [[blk w.heap.size #[.int .u64 ((a.w0.toNat : Nat) : Int), .int .u64 ((a.w1.toNat : Nat) : Int), .int .u64 ((a.w2.toNat : Nat) : Int), .int .u64 ((a.w3.toNat : Nat) : Int)] 24], [blk w1.heap.size #[.int .u64 ((b.w0.toNat : Nat) : Int), .int .u64 ((b.w1.toNat : Nat) : Int), .int .u64 ((b.w2.toNat : Nat) : Int), .int .u64 ((b.w3.toNat : Nat) : Int)] 24]] := H1.new' u2
  refine WL.op rfl (d_alloc sz24 fun w3 u3 => ?_)
  have H3 : UpG w [] w3 [[blk w.heap.size #[.int .u64 ((a.w0.toNat : Nat) : Int), .int .u64 ((a.w1.toNat : Nat) : Int), .int .u64 ((a.w2.toNat : Nat) : Int), .int .u64 ((a.w3.toNat : Nat) : Int)] 24], [blk w1.heap.size #[.int .u64 ((b.w0.toNat : Nat) : Int), .int .u64 ((b.w1.toNat : Nat) : Int), .int .u64 ((b.w2.toNat : Nat) : Int), .int .u64 ((b.w3.toNat : Nat) : Int)] 24], [blk w2.heap.size #[.int .u64 ((Bs.zero.w0.toNat : Nat) : Int), .int .u64 ((Bs.zero.w1.toNat : Nat) : Int), .int .u64 ((Bs.zero.w2.toNat : Nat) : Int), .int .u64 ((Bs.zero.w3.toNat : Nat) : Int)] 24]] := H2.new' u3
  refine WL.done (X.then_code ?_)
  refine W.seq ?_
  refine W.seq ?_
  refine W.region ?_
  refine WL.op rfl (d_move rfl ?_)
  refine WL.done (X.then_code ?_)
  refine W.block ?_
  refine W.pick [8, 6, 4, 3, 2] (Γ' := [(8, .int .i64 0), (6, .pointer (some ⟨w2.heap.size, 0, none⟩)), (4, .pointer (some ⟨w1.heap.size, 0, none⟩)), (3, .pointer (some ⟨w.heap.size, 0, none⟩)), (2, .func (.func 36) #[] #[])]) rfl ?_
  refine W.loop (fun m Γ' w' => ∃ k : Nat, ∃ r : Bs, Γ' = [(8, .int .i64 ((k : Nat) : Int)), (6, .pointer (some ⟨w2.heap.size, 0, none⟩)), (4, .pointer (some ⟨w1.heap.size, 0, none⟩)), (3, .pointer (some ⟨w.heap.size, 0, none⟩)), (2, .func (.func 36) #[] #[])] ∧ UpG w [] w' [[blk w.heap.size #[.int .u64 ((r.w0.toNat : Nat) : Int), .int .u64 ((r.w1.toNat : Nat) : Int), .int .u64 ((r.w2.toNat : Nat) : Int), .int .u64 ((r.w3.toNat : Nat) : Int)] 24], [blk w1.heap.size #[.int .u64 ((b.w0.toNat : Nat) : Int), .int .u64 ((b.w1.toNat : Nat) : Int), .int .u64 ((b.w2.toNat : Nat) : Int), .int .u64 ((b.w3.toNat : Nat) : Int)] 24], [blk w2.heap.size #[.int .u64 ((Bs.zero.w0.toNat : Nat) : Int), .int .u64 ((Bs.zero.w1.toNat : Nat) : Int), .int .u64 ((Bs.zero.w2.toNat : Nat) : Int), .int .u64 ((Bs.zero.w3.toNat : Nat) : Int)] 24]] ∧ (k ≤ 4) ∧ (∀ j, j < 4 → r.get j = if j < k then (fun p q => p ||| q) (a.get j) (b.get j) else a.get j) ∧ m = 4 - k) (4 - 0) ⟨0, a, rfl, H3, (by first | assumption | omega | simp), (by intro j hj; rw [if_neg (by omega)]), rfl⟩ ?_
  rintro m1 Γ1 w4 ⟨k, r, rfl, H4, hk, hr, rfl⟩
  refine W.seq ?_
  refine W.region ?_
  refine WL.op rfl (d_cmp (decide (((k : Nat) : Int) < (4 : Int))) rfl rfl rfl ?_)
  refine WL.done (X.then_code ?_)
  refine W.seq ?_
  refine W.ite (p := ((k : Nat) : Int) < (4 : Int)) rfl (fun c33 => ?_) (fun c33 => ?_)
  · skip
    refine W.skip (X.then_code ?_)
    refine W.seq ?_
    refine W.block ?_
    refine W.seq ?_
    refine W.region ?_
    refine WL.op rfl (d_move rfl ?_)
    refine WL.op rfl (d_assign rfl ?_)
    refine WL.done (X.then_code ?_)
    refine W.regionD mixed (by kernel_rfl) fun hok1 w5 k1 => ?_
    have H5 : UpG w [] w5 [[blk w.heap.size #[.int .u64 ((r.w0.toNat : Nat) : Int), .int .u64 ((r.w1.toNat : Nat) : Int), .int .u64 ((r.w2.toNat : Nat) : Int), .int .u64 ((r.w3.toNat : Nat) : Int)] 24], [blk w1.heap.size #[.int .u64 ((b.w0.toNat : Nat) : Int), .int .u64 ((b.w1.toNat : Nat) : Int), .int .u64 ((b.w2.toNat : Nat) : Int), .int .u64 ((b.w3.toNat : Nat) : Int)] 24], [blk w2.heap.size #[.int .u64 ((Bs.zero.w0.toNat : Nat) : Int), .int .u64 ((Bs.zero.w1.toNat : Nat) : Int), .int .u64 ((Bs.zero.w2.toNat : Nat) : Int), .int .u64 ((Bs.zero.w3.toNat : Nat) : Int)] 24]] := H4.kept k1
    refine WD.take hok1 0 (.int .i64 ((k : Nat) : Int)) (fun _ => True) rfl rfl rfl rfl rfl trivial (.inl ⟨rfl, fun _ _ => d_move rfl ⟨rfl, rfl⟩⟩) ?_
    refine WD.take hok1 1 (.func (.func 36) #[] #[]) (fun _ => True) rfl rfl rfl rfl rfl trivial (.inl ⟨rfl, fun _ _ => d_move rfl ⟨rfl, rfl⟩⟩) ?_
    refine WD.take hok1 2 (.int .i64 ((k : Nat) : Int)) (fun _ => True) rfl rfl rfl rfl rfl trivial (.inl ⟨rfl, fun _ _ => d_move rfl ⟨rfl, rfl⟩⟩) ?_
    refine WD.take hok1 3 (.pointer (some ⟨w.heap.size, k, none⟩)) (fun _ => True) rfl rfl rfl rfl rfl trivial (.inl ⟨rfl, fun _ _ => d_idxBs (j := k) Tryd.underlying24 sz22 rfl rfl (by omega) ⟨rfl, rfl⟩⟩) ?_
    refine WD.take hok1 4 (.int .u64 (((r.get k).toNat : Nat) : Int)) (fun w' => w'.heap[w.heap.size]? = some (.cells #[.int .u64 ((r.w0.toNat : Nat) : Int), .int .u64 ((r.w1.toNat : Nat) : Int), .int .u64 ((r.w2.toNat : Nat) : Int), .int .u64 ((r.w3.toNat : Nat) : Int)] 24 (0, 0))) rfl rfl rfl rfl rfl (H5.blk 0 rfl) (.inl ⟨rfl, fun _ hC => d_loadBs r Tryd.underlying22 rfl rfl hC (by omega) ⟨rfl, rfl⟩⟩) ?_
    refine WD.take hok1 5 (.int .i64 ((k : Nat) : Int)) (fun _ => True) rfl rfl rfl rfl rfl trivial (.inl ⟨rfl, fun _ _ => d_move rfl ⟨rfl, rfl⟩⟩) ?_
    refine WD.take hok1 6 (.pointer (some ⟨w1.heap.size, k, none⟩)) (fun _ => True) rfl rfl rfl rfl rfl trivial (.inl ⟨rfl, fun _ _ => d_idxBs (j := k) Tryd.underlying24 sz22 rfl rfl (by omega) ⟨rfl, rfl⟩⟩) ?_
    refine WD.take hok1 7 (.int .u64 (((b.get k).toNat : Nat) : Int)) (fun w' => w'.heap[w1.heap.size]? = some (.cells #[.int .u64 ((b.w0.toNat : Nat) : Int), .int .u64 ((b.w1.toNat : Nat) : Int), .int .u64 ((b.w2.toNat : Nat) : Int), .int .u64 ((b.w3.toNat : Nat) : Int)] 24 (0, 0))) rfl rfl rfl rfl rfl (H5.blk 1 rfl) (.inl ⟨rfl, fun _ hC => d_loadBs b Tryd.underlying22 rfl rfl hC (by omega) ⟨rfl, rfl⟩⟩) ?_
    refine WD.loud hok1 8 rfl (⟨_, [⟨0, .int .i64 ((k : Nat) : Int), (fun _ => True)⟩], rfl, rfl, rfl, rfl, rfl, rfl, d_callv ok36 rfl rfl (Ret.calls (or1_any (r.get k) (b.get k) w5  ) fun _ w6 p1 => ?_)⟩)
    obtain ⟨rfl, u4⟩ := p1
    have H6 : UpG w [] w6 [[blk w.heap.size #[.int .u64 ((r.w0.toNat : Nat) : Int), .int .u64 ((r.w1.toNat : Nat) : Int), .int .u64 ((r.w2.toNat : Nat) : Int), .int .u64 ((r.w3.toNat : Nat) : Int)] 24], [blk w1.heap.size #[.int .u64 ((b.w0.toNat : Nat) : Int), .int .u64 ((b.w1.toNat : Nat) : Int), .int .u64 ((b.w2.toNat : Nat) : Int), .int .u64 ((b.w3.toNat : Nat) : Int)] 24], [blk w2.heap.size #[.int .u64 ((Bs.zero.w0.toNat : Nat) : Int), .int .u64 ((Bs.zero.w1.toNat : Nat) : Int), .int .u64 ((Bs.zero.w2.toNat : Nat) : Int), .int .u64 ((Bs.zero.w3.toNat : Nat) : Int)] 24]] := H5.call u4
    refine ⟨⟨trivial, trivial⟩, ?_⟩
    refine WD.take hok1 9 (.pointer (some ⟨w.heap.size, k, none⟩)) (fun _ => True) rfl rfl rfl rfl rfl trivial (.inl ⟨rfl, fun _ _ => d_idxBs (j := k) Tryd.underlying24 sz22 rfl rfl (by omega) ⟨rfl, rfl⟩⟩) ?_
    refine WD.loud hok1 10 rfl (⟨_, [], rfl, rfl, rfl, rfl, rfl, rfl, d_storeBs r ((r.get k) ||| (b.get k)) sz22 rfl rfl (H6.blk 0 rfl) (by omega) fun w7 u5 => ?_⟩)
    have H7 : UpG w [] w7 [[blk w.heap.size #[.int .u64 ((((r.put k ((r.get k) ||| (b.get k))).w0).toNat : Nat) : Int), .int .u64 ((((r.put k ((r.get k) ||| (b.get k))).w1).toNat : Nat) : Int), .int .u64 ((((r.put k ((r.get k) ||| (b.get k))).w2).toNat : Nat) : Int), .int .u64 ((((r.put k ((r.get k) ||| (b.get k))).w3).toNat : Nat) : Int)] 24], [blk w1.heap.size #[.int .u64 ((b.w0.toNat : Nat) : Int), .int .u64 ((b.w1.toNat : Nat) : Int), .int .u64 ((b.w2.toNat : Nat) : Int), .int .u64 ((b.w3.toNat : Nat) : Int)] 24], [blk w2.heap.size #[.int .u64 ((Bs.zero.w0.toNat : Nat) : Int), .int .u64 ((Bs.zero.w1.toNat : Nat) : Int), .int .u64 ((Bs.zero.w2.toNat : Nat) : Int), .int .u64 ((Bs.zero.w3.toNat : Nat) : Int)] 24]] := H6.on 0 rfl u5
    refine ⟨trivial, ?_⟩
    refine WD.done hok1 rfl (X.block_normal (X.then_code ?_))
    refine W.region ?_
    refine WL.op rfl (d_add rfl rfl (by omega) (by omega) ?_)
    refine WL.op rfl (d_move rfl ?_)
    refine WL.done ?_
    exact X.next [8, 6, 4, 3, 2] (Γ' := [(8, .int .i64 (((k + 1) : Nat) : Int)), (6, .pointer (some ⟨w2.heap.size, 0, none⟩)), (4, .pointer (some ⟨w1.heap.size, 0, none⟩)), (3, .pointer (some ⟨w.heap.size, 0, none⟩)), (2, .func (.func 36) #[] #[])]) rfl (4 - (k + 1)) (by omega) ⟨k + 1, (r.put k ((r.get k) ||| (b.get k))), rfl, H7, (by first | assumption | omega | simp), (by exact each_step (F := fun p q => p ||| q) (b := b) (by omega) hr), rfl⟩
  · skip
    refine W.exit (X.then_exit (X.then_exit (X.block_exit (X.then_code ?_))))
    refine W.seq ?_
    refine W.region ?_
    refine WL.op rfl (d_loadAB [.int .u64 ((r.w0.toNat : Nat) : Int), .int .u64 ((r.w1.toNat : Nat) : Int), .int .u64 ((r.w2.toNat : Nat) : Int), .int .u64 ((r.w3.toNat : Nat) : Int)] Tryd.underlying24 rfl sz24 rfl (H4.blk 0 rfl) rfl rfl ?_)
    refine WL.op0 (d_storeAB (us := [.int .u64 ((r.w0.toNat : Nat) : Int), .int .u64 ((r.w1.toNat : Nat) : Int), .int .u64 ((r.w2.toNat : Nat) : Int), .int .u64 ((r.w3.toNat : Nat) : Int)]) (cs' := #[.int .u64 ((r.w0.toNat : Nat) : Int), .int .u64 ((r.w1.toNat : Nat) : Int), .int .u64 ((r.w2.toNat : Nat) : Int), .int .u64 ((r.w3.toNat : Nat) : Int)]) sz24 rfl rfl rfl rfl (H4.blk 2 rfl) rfl rfl fun w8 u6 => ?_)
    have H8 : UpG w [] w8 [[blk w.heap.size #[.int .u64 ((r.w0.toNat : Nat) : Int), .int .u64 ((r.w1.toNat : Nat) : Int), .int .u64 ((r.w2.toNat : Nat) : Int), .int .u64 ((r.w3.toNat : Nat) : Int)] 24], [blk w1.heap.size #[.int .u64 ((b.w0.toNat : Nat) : Int), .int .u64 ((b.w1.toNat : Nat) : Int), .int .u64 ((b.w2.toNat : Nat) : Int), .int .u64 ((b.w3.toNat : Nat) : Int)] 24], [blk w2.heap.size #[.int .u64 ((r.w0.toNat : Nat) : Int), .int .u64 ((r.w1.toNat : Nat) : Int), .int .u64 ((r.w2.toNat : Nat) : Int), .int .u64 ((r.w3.toNat : Nat) : Int)] 24]] := H4.on 2 rfl u6
    refine WL.done (X.then_code ?_)
    refine W.ret (X.retR1 rfl (rv_cellA [.int .u64 ((r.w0.toNat : Nat) : Int), .int .u64 ((r.w1.toNat : Nat) : Int), .int .u64 ((r.w2.toNat : Nat) : Int), .int .u64 ((r.w3.toNat : Nat) : Int)] Tryd.underlying24 rfl sz24 rfl (H8.blk 2 rfl) rfl rfl) ?_)
    have e := each_done (F := fun p q => p ||| q) (a := a) (b := b) (q := orB a b) (by omega) hr (fun j hj => orB_get a b hj)
    exact ⟨(by rw [e]), H8.noneL⟩

set_option maxRecDepth 20000 in
theorem eachNot_any (a : Bs) (b : Bs) (w : World) :
    Calls Tryd.prog 26 #[.agg #[.int .u64 ((a.w0.toNat : Nat) : Int), .int .u64 ((a.w1.toNat : Nat) : Int), .int .u64 ((a.w2.toNat : Nat) : Int), .int .u64 ((a.w3.toNat : Nat) : Int)], .agg #[.int .u64 ((b.w0.toNat : Nat) : Int), .int .u64 ((b.w1.toNat : Nat) : Int), .int .u64 ((b.w2.toNat : Nat) : Int), .int .u64 ((b.w3.toNat : Nat) : Int)], .func (.func 37) #[] #[]] w (Ret fun v w' => v = .agg #[.int .u64 ((((notB a).w0).toNat : Nat) : Int), .int .u64 ((((notB a).w1).toNat : Nat) : Int), .int .u64 ((((notB a).w2).toNat : Nat) : Int), .int .u64 ((((notB a).w3).toNat : Nat) : Int)] ∧ Upd w [] w' []) := by
  refine calls_of_W (args := [.agg #[.int .u64 ((a.w0.toNat : Nat) : Int), .int .u64 ((a.w1.toNat : Nat) : Int), .int .u64 ((a.w2.toNat : Nat) : Int), .int .u64 ((a.w3.toNat : Nat) : Int)], .agg #[.int .u64 ((b.w0.toNat : Nat) : Int), .int .u64 ((b.w1.toNat : Nat) : Int), .int .u64 ((b.w2.toNat : Nat) : Int), .int .u64 ((b.w3.toNat : Nat) : Int)], .func (.func 37) #[] #[]]) Tryd.func26 rfl rfl rfl ?_
  have H0 : UpG w [] w [] := UpG.nil w
  show W _ _ _ _ [(0, .agg #[.int .u64 ((a.w0.toNat : Nat) : Int), .int .u64 ((a.w1.toNat : Nat) : Int), .int .u64 ((a.w2.toNat : Nat) : Int), .int .u64 ((a.w3.toNat : Nat) : Int)]), (1, .agg #[.int .u64 ((b.w0.toNat : Nat) : Int), .int .u64 ((b.w1.toNat : Nat) : Int), .int .u64 ((b.w2.toNat : Nat) : Int), .int .u64 ((b.w3.toNat : Nat) : Int)]), (2, .func (.func 37) #[] #[])] w
  refine W.seq ?_
  refine W.region ?_
  refine WL.op rfl (d_box rfl fun w1 u1 => ?_)
  have H1 : UpG w [] w1 [[blk w.heap.size #[.int .u64 ((a.w0.toNat : Nat) : Int), .int .u64 ((a.w1.toNat : Nat) : Int), .int .u64 ((a.w2.toNat : Nat) : Int), .int .u64 ((a.w3.toNat : Nat) : Int)] 24]] := H0.new' u1
  refine WL.op rfl (d_box rfl fun w2 u2 => ?_)
  have H2 : UpG w [] w2 [[blk w.heap.size #[.int .u64 ((a.w0.toNat : Nat) : Int), .int .u64 ((a.w1.toNat : Nat) : Int), .int .u64 ((a.w2.toNat : Nat) : Int), .int .u64 ((a.w3.toNat : Nat) : Int)] 24], [blk w1.heap.size #[.int .u64 ((b.w0.toNat : Nat) : Int), .int .u64 ((b.w1.toNat : Nat) : Int), .int .u64 ((b.w2.toNat : Nat) : Int), .int .u64 ((b.w3.toNat : Nat) : Int)] 24]] := H1.new' u2
  refine WL.op rfl (d_alloc sz24 fun w3 u3 => ?_)
  have H3 : UpG w [] w3 [[blk w.heap.size #[.int .u64 ((a.w0.toNat : Nat) : Int), .int .u64 ((a.w1.toNat : Nat) : Int), .int .u64 ((a.w2.toNat : Nat) : Int), .int .u64 ((a.w3.toNat : Nat) : Int)] 24], [blk w1.heap.size #[.int .u64 ((b.w0.toNat : Nat) : Int), .int .u64 ((b.w1.toNat : Nat) : Int), .int .u64 ((b.w2.toNat : Nat) : Int), .int .u64 ((b.w3.toNat : Nat) : Int)] 24], [blk w2.heap.size #[.int .u64 ((Bs.zero.w0.toNat : Nat) : Int), .int .u64 ((Bs.zero.w1.toNat : Nat) : Int), .int .u64 ((Bs.zero.w2.toNat : Nat) : Int), .int .u64 ((Bs.zero.w3.toNat : Nat) : Int)] 24]] := H2.new' u3
  refine WL.done (X.then_code ?_)
  refine W.seq ?_
  refine W.seq ?_
  refine W.region ?_
  refine WL.op rfl (d_move rfl ?_)
  refine WL.done (X.then_code ?_)
  refine W.block ?_
  refine W.pick [8, 6, 4, 3, 2] (Γ' := [(8, .int .i64 0), (6, .pointer (some ⟨w2.heap.size, 0, none⟩)), (4, .pointer (some ⟨w1.heap.size, 0, none⟩)), (3, .pointer (some ⟨w.heap.size, 0, none⟩)), (2, .func (.func 37) #[] #[])]) rfl ?_
  refine W.loop (fun m Γ' w' => ∃ k : Nat, ∃ r : Bs, Γ' = [(8, .int .i64 ((k : Nat) : Int)), (6, .pointer (some ⟨w2.heap.size, 0, none⟩)), (4, .pointer (some ⟨w1.heap.size, 0, none⟩)), (3, .pointer (some ⟨w.heap.size, 0, none⟩)), (2, .func (.func 37) #[] #[])] ∧ UpG w [] w' [[blk w.heap.size #[.int .u64 ((r.w0.toNat : Nat) : Int), .int .u64 ((r.w1.toNat : Nat) : Int), .int .u64 ((r.w2.toNat : Nat) : Int), .int .u64 ((r.w3.toNat : Nat) : Int)] 24], [blk w1.heap.size #[.int .u64 ((b.w0.toNat : Nat) : Int), .int .u64 ((b.w1.toNat : Nat) : Int), .int .u64 ((b.w2.toNat : Nat) : Int), .int .u64 ((b.w3.toNat : Nat) : Int)] 24], [blk w2.heap.size #[.int .u64 ((Bs.zero.w0.toNat : Nat) : Int), .int .u64 ((Bs.zero.w1.toNat : Nat) : Int), .int .u64 ((Bs.zero.w2.toNat : Nat) : Int), .int .u64 ((Bs.zero.w3.toNat : Nat) : Int)] 24]] ∧ (k ≤ 4) ∧ (∀ j, j < 4 → r.get j = if j < k then (fun p _ => ~~~p) (a.get j) (b.get j) else a.get j) ∧ m = 4 - k) (4 - 0) ⟨0, a, rfl, H3, (by first | assumption | omega | simp), (by intro j hj; rw [if_neg (by omega)]), rfl⟩ ?_
  rintro m1 Γ1 w4 ⟨k, r, rfl, H4, hk, hr, rfl⟩
  refine W.seq ?_
  refine W.region ?_
  refine WL.op rfl (d_cmp (decide (((k : Nat) : Int) < (4 : Int))) rfl rfl rfl ?_)
  refine WL.done (X.then_code ?_)
  refine W.seq ?_
  refine W.ite (p := ((k : Nat) : Int) < (4 : Int)) rfl (fun c33 => ?_) (fun c33 => ?_)
  · skip
    refine W.skip (X.then_code ?_)
    refine W.seq ?_
    refine W.block ?_
    refine W.seq ?_
    refine W.region ?_
    refine WL.op rfl (d_move rfl ?_)
    refine WL.op rfl (d_assign rfl ?_)
    refine WL.done (X.then_code ?_)
    refine W.regionD mixed (by kernel_rfl) fun hok1 w5 k1 => ?_
    have H5 : UpG w [] w5 [[blk w.heap.size #[.int .u64 ((r.w0.toNat : Nat) : Int), .int .u64 ((r.w1.toNat : Nat) : Int), .int .u64 ((r.w2.toNat : Nat) : Int), .int .u64 ((r.w3.toNat : Nat) : Int)] 24], [blk w1.heap.size #[.int .u64 ((b.w0.toNat : Nat) : Int), .int .u64 ((b.w1.toNat : Nat) : Int), .int .u64 ((b.w2.toNat : Nat) : Int), .int .u64 ((b.w3.toNat : Nat) : Int)] 24], [blk w2.heap.size #[.int .u64 ((Bs.zero.w0.toNat : Nat) : Int), .int .u64 ((Bs.zero.w1.toNat : Nat) : Int), .int .u64 ((Bs.zero.w2.toNat : Nat) : Int), .int .u64 ((Bs.zero.w3.toNat : Nat) : Int)] 24]] := H4.kept k1
    refine WD.take hok1 0 (.int .i64 ((k : Nat) : Int)) (fun _ => True) rfl rfl rfl rfl rfl trivial (.inl ⟨rfl, fun _ _ => d_move rfl ⟨rfl, rfl⟩⟩) ?_
    refine WD.take hok1 1 (.func (.func 37) #[] #[]) (fun _ => True) rfl rfl rfl rfl rfl trivial (.inl ⟨rfl, fun _ _ => d_move rfl ⟨rfl, rfl⟩⟩) ?_
    refine WD.take hok1 2 (.int .i64 ((k : Nat) : Int)) (fun _ => True) rfl rfl rfl rfl rfl trivial (.inl ⟨rfl, fun _ _ => d_move rfl ⟨rfl, rfl⟩⟩) ?_
    refine WD.take hok1 3 (.pointer (some ⟨w.heap.size, k, none⟩)) (fun _ => True) rfl rfl rfl rfl rfl trivial (.inl ⟨rfl, fun _ _ => d_idxBs (j := k) Tryd.underlying24 sz22 rfl rfl (by omega) ⟨rfl, rfl⟩⟩) ?_
    refine WD.take hok1 4 (.int .u64 (((r.get k).toNat : Nat) : Int)) (fun w' => w'.heap[w.heap.size]? = some (.cells #[.int .u64 ((r.w0.toNat : Nat) : Int), .int .u64 ((r.w1.toNat : Nat) : Int), .int .u64 ((r.w2.toNat : Nat) : Int), .int .u64 ((r.w3.toNat : Nat) : Int)] 24 (0, 0))) rfl rfl rfl rfl rfl (H5.blk 0 rfl) (.inl ⟨rfl, fun _ hC => d_loadBs r Tryd.underlying22 rfl rfl hC (by omega) ⟨rfl, rfl⟩⟩) ?_
    refine WD.take hok1 5 (.int .i64 ((k : Nat) : Int)) (fun _ => True) rfl rfl rfl rfl rfl trivial (.inl ⟨rfl, fun _ _ => d_move rfl ⟨rfl, rfl⟩⟩) ?_
    refine WD.take hok1 6 (.pointer (some ⟨w1.heap.size, k, none⟩)) (fun _ => True) rfl rfl rfl rfl rfl trivial (.inl ⟨rfl, fun _ _ => d_idxBs (j := k) Tryd.underlying24 sz22 rfl rfl (by omega) ⟨rfl, rfl⟩⟩) ?_
    refine WD.take hok1 7 (.int .u64 (((b.get k).toNat : Nat) : Int)) (fun w' => w'.heap[w1.heap.size]? = some (.cells #[.int .u64 ((b.w0.toNat : Nat) : Int), .int .u64 ((b.w1.toNat : Nat) : Int), .int .u64 ((b.w2.toNat : Nat) : Int), .int .u64 ((b.w3.toNat : Nat) : Int)] 24 (0, 0))) rfl rfl rfl rfl rfl (H5.blk 1 rfl) (.inl ⟨rfl, fun _ hC => d_loadBs b Tryd.underlying22 rfl rfl hC (by omega) ⟨rfl, rfl⟩⟩) ?_
    refine WD.loud hok1 8 rfl (⟨_, [⟨0, .int .i64 ((k : Nat) : Int), (fun _ => True)⟩], rfl, rfl, rfl, rfl, rfl, rfl, d_callv ok37 rfl rfl (Ret.calls (not1_any (r.get k) (b.get k) w5  ) fun _ w6 p1 => ?_)⟩)
    obtain ⟨rfl, u4⟩ := p1
    have H6 : UpG w [] w6 [[blk w.heap.size #[.int .u64 ((r.w0.toNat : Nat) : Int), .int .u64 ((r.w1.toNat : Nat) : Int), .int .u64 ((r.w2.toNat : Nat) : Int), .int .u64 ((r.w3.toNat : Nat) : Int)] 24], [blk w1.heap.size #[.int .u64 ((b.w0.toNat : Nat) : Int), .int .u64 ((b.w1.toNat : Nat) : Int), .int .u64 ((b.w2.toNat : Nat) : Int), .int .u64 ((b.w3.toNat : Nat) : Int)] 24], [blk w2.heap.size #[.int .u64 ((Bs.zero.w0.toNat : Nat) : Int), .int .u64 ((Bs.zero.w1.toNat : Nat) : Int), .int .u64 ((Bs.zero.w2.toNat : Nat) : Int), .int .u64 ((Bs.zero.w3.toNat : Nat) : Int)] 24]] := H5.call u4
    refine ⟨⟨trivial, trivial⟩, ?_⟩
    refine WD.take hok1 9 (.pointer (some ⟨w.heap.size, k, none⟩)) (fun _ => True) rfl rfl rfl rfl rfl trivial (.inl ⟨rfl, fun _ _ => d_idxBs (j := k) Tryd.underlying24 sz22 rfl rfl (by omega) ⟨rfl, rfl⟩⟩) ?_
    refine WD.loud hok1 10 rfl (⟨_, [], rfl, rfl, rfl, rfl, rfl, rfl, d_storeBs r (~~~(r.get k)) sz22 rfl rfl (H6.blk 0 rfl) (by omega) fun w7 u5 => ?_⟩)
    have H7 : UpG w [] w7 [[blk w.heap.size #[.int .u64 ((((r.put k (~~~(r.get k))).w0).toNat : Nat) : Int), .int .u64 ((((r.put k (~~~(r.get k))).w1).toNat : Nat) : Int), .int .u64 ((((r.put k (~~~(r.get k))).w2).toNat : Nat) : Int), .int .u64 ((((r.put k (~~~(r.get k))).w3).toNat : Nat) : Int)] 24], [blk w1.heap.size #[.int .u64 ((b.w0.toNat : Nat) : Int), .int .u64 ((b.w1.toNat : Nat) : Int), .int .u64 ((b.w2.toNat : Nat) : Int), .int .u64 ((b.w3.toNat : Nat) : Int)] 24], [blk w2.heap.size #[.int .u64 ((Bs.zero.w0.toNat : Nat) : Int), .int .u64 ((Bs.zero.w1.toNat : Nat) : Int), .int .u64 ((Bs.zero.w2.toNat : Nat) : Int), .int .u64 ((Bs.zero.w3.toNat : Nat) : Int)] 24]] := H6.on 0 rfl u5
    refine ⟨trivial, ?_⟩
    refine WD.done hok1 rfl (X.block_normal (X.then_code ?_))
    refine W.region ?_
    refine WL.op rfl (d_add rfl rfl (by omega) (by omega) ?_)
    refine WL.op rfl (d_move rfl ?_)
    refine WL.done ?_
    exact X.next [8, 6, 4, 3, 2] (Γ' := [(8, .int .i64 (((k + 1) : Nat) : Int)), (6, .pointer (some ⟨w2.heap.size, 0, none⟩)), (4, .pointer (some ⟨w1.heap.size, 0, none⟩)), (3, .pointer (some ⟨w.heap.size, 0, none⟩)), (2, .func (.func 37) #[] #[])]) rfl (4 - (k + 1)) (by omega) ⟨k + 1, (r.put k (~~~(r.get k))), rfl, H7, (by first | assumption | omega | simp), (by exact each_step (F := fun p _ => ~~~p) (b := b) (by omega) hr), rfl⟩
  · skip
    refine W.exit (X.then_exit (X.then_exit (X.block_exit (X.then_code ?_))))
    refine W.seq ?_
    refine W.region ?_
    refine WL.op rfl (d_loadAB [.int .u64 ((r.w0.toNat : Nat) : Int), .int .u64 ((r.w1.toNat : Nat) : Int), .int .u64 ((r.w2.toNat : Nat) : Int), .int .u64 ((r.w3.toNat : Nat) : Int)] Tryd.underlying24 rfl sz24 rfl (H4.blk 0 rfl) rfl rfl ?_)
    refine WL.op0 (d_storeAB (us := [.int .u64 ((r.w0.toNat : Nat) : Int), .int .u64 ((r.w1.toNat : Nat) : Int), .int .u64 ((r.w2.toNat : Nat) : Int), .int .u64 ((r.w3.toNat : Nat) : Int)]) (cs' := #[.int .u64 ((r.w0.toNat : Nat) : Int), .int .u64 ((r.w1.toNat : Nat) : Int), .int .u64 ((r.w2.toNat : Nat) : Int), .int .u64 ((r.w3.toNat : Nat) : Int)]) sz24 rfl rfl rfl rfl (H4.blk 2 rfl) rfl rfl fun w8 u6 => ?_)
    have H8 : UpG w [] w8 [[blk w.heap.size #[.int .u64 ((r.w0.toNat : Nat) : Int), .int .u64 ((r.w1.toNat : Nat) : Int), .int .u64 ((r.w2.toNat : Nat) : Int), .int .u64 ((r.w3.toNat : Nat) : Int)] 24], [blk w1.heap.size #[.int .u64 ((b.w0.toNat : Nat) : Int), .int .u64 ((b.w1.toNat : Nat) : Int), .int .u64 ((b.w2.toNat : Nat) : Int), .int .u64 ((b.w3.toNat : Nat) : Int)] 24], [blk w2.heap.size #[.int .u64 ((r.w0.toNat : Nat) : Int), .int .u64 ((r.w1.toNat : Nat) : Int), .int .u64 ((r.w2.toNat : Nat) : Int), .int .u64 ((r.w3.toNat : Nat) : Int)] 24]] := H4.on 2 rfl u6
    refine WL.done (X.then_code ?_)
    refine W.ret (X.retR1 rfl (rv_cellA [.int .u64 ((r.w0.toNat : Nat) : Int), .int .u64 ((r.w1.toNat : Nat) : Int), .int .u64 ((r.w2.toNat : Nat) : Int), .int .u64 ((r.w3.toNat : Nat) : Int)] Tryd.underlying24 rfl sz24 rfl (H8.blk 2 rfl) rfl rfl) ?_)
    have e := each_done (F := fun p _ => ~~~p) (a := a) (b := b) (q := notB a) (by omega) hr (fun j hj => notB_get a hj)
    exact ⟨(by rw [e]), H8.noneL⟩

set_option maxRecDepth 20000 in
theorem and_any (a : Bs) (b : Bs) (w : World) :
    Calls Tryd.prog 9 #[.agg #[.int .u64 ((a.w0.toNat : Nat) : Int), .int .u64 ((a.w1.toNat : Nat) : Int), .int .u64 ((a.w2.toNat : Nat) : Int), .int .u64 ((a.w3.toNat : Nat) : Int)], .agg #[.int .u64 ((b.w0.toNat : Nat) : Int), .int .u64 ((b.w1.toNat : Nat) : Int), .int .u64 ((b.w2.toNat : Nat) : Int), .int .u64 ((b.w3.toNat : Nat) : Int)]] w (Ret fun v w' => v = .agg #[.int .u64 ((((andB a b).w0).toNat : Nat) : Int), .int .u64 ((((andB a b).w1).toNat : Nat) : Int), .int .u64 ((((andB a b).w2).toNat : Nat) : Int), .int .u64 ((((andB a b).w3).toNat : Nat) : Int)] ∧ Upd w [] w' []) := by
  refine calls_of_W (args := [.agg #[.int .u64 ((a.w0.toNat : Nat) : Int), .int .u64 ((a.w1.toNat : Nat) : Int), .int .u64 ((a.w2.toNat : Nat) : Int), .int .u64 ((a.w3.toNat : Nat) : Int)], .agg #[.int .u64 ((b.w0.toNat : Nat) : Int), .int .u64 ((b.w1.toNat : Nat) : Int), .int .u64 ((b.w2.toNat : Nat) : Int), .int .u64 ((b.w3.toNat : Nat) : Int)]]) Tryd.func9 rfl rfl rfl ?_
  have H0 : UpG w [] w [] := UpG.nil w
  show W _ _ _ _ [(0, .agg #[.int .u64 ((a.w0.toNat : Nat) : Int), .int .u64 ((a.w1.toNat : Nat) : Int), .int .u64 ((a.w2.toNat : Nat) : Int), .int .u64 ((a.w3.toNat : Nat) : Int)]), (1, .agg #[.int .u64 ((b.w0.toNat : Nat) : Int), .int .u64 ((b.w1.toNat : Nat) : Int), .int .u64 ((b.w2.toNat : Nat) : Int), .int .u64 ((b.w3.toNat : Nat) : Int)])] w
  refine W.seq ?_
  refine W.region ?_
  refine WL.op rfl (d_box rfl fun w1 u1 => ?_)
  have H1 : UpG w [] w1 [[blk w.heap.size #[.int .u64 ((a.w0.toNat : Nat) : Int), .int .u64 ((a.w1.toNat : Nat) : Int), .int .u64 ((a.w2.toNat : Nat) : Int), .int .u64 ((a.w3.toNat : Nat) : Int)] 24]] := H0.new' u1
  refine WL.op rfl (d_box rfl fun w2 u2 => ?_)
  have H2 : UpG w [] w2 [[blk w.heap.size #[.int .u64 ((a.w0.toNat : Nat) : Int), .int .u64 ((a.w1.toNat : Nat) : Int), .int .u64 ((a.w2.toNat : Nat) : Int), .int .u64 ((a.w3.toNat : Nat) : Int)] 24], [blk w1.heap.size #[.int .u64 ((b.w0.toNat : Nat) : Int), .int .u64 ((b.w1.toNat : Nat) : Int), .int .u64 ((b.w2.toNat : Nat) : Int), .int .u64 ((b.w3.toNat : Nat) : Int)] 24]] := H1.new' u2
  refine WL.op rfl (d_alloc sz24 fun w3 u3 => ?_)
  have H3 : UpG w [] w3 [[blk w.heap.size #[.int .u64 ((a.w0.toNat : Nat) : Int), .int .u64 ((a.w1.toNat : Nat) : Int), .int .u64 ((a.w2.toNat : Nat) : Int), .int .u64 ((a.w3.toNat : Nat) : Int)] 24], [blk w1.heap.size #[.int .u64 ((b.w0.toNat : Nat) : Int), .int .u64 ((b.w1.toNat : Nat) : Int), .int .u64 ((b.w2.toNat : Nat) : Int), .int .u64 ((b.w3.toNat : Nat) : Int)] 24], [blk w2.heap.size #[.int .u64 ((Bs.zero.w0.toNat : Nat) : Int), .int .u64 ((Bs.zero.w1.toNat : Nat) : Int), .int .u64 ((Bs.zero.w2.toNat : Nat) : Int), .int .u64 ((Bs.zero.w3.toNat : Nat) : Int)] 24]] := H2.new' u3
  refine WL.done (X.then_code ?_)
  refine W.seq ?_
  refine W.region ?_
  refine WL.op rfl (d_loadAB [.int .u64 ((a.w0.toNat : Nat) : Int), .int .u64 ((a.w1.toNat : Nat) : Int), .int .u64 ((a.w2.toNat : Nat) : Int), .int .u64 ((a.w3.toNat : Nat) : Int)] Tryd.underlying24 rfl sz24 rfl (H3.blk 0 rfl) rfl rfl ?_)
  refine WL.op rfl (d_loadAB [.int .u64 ((b.w0.toNat : Nat) : Int), .int .u64 ((b.w1.toNat : Nat) : Int), .int .u64 ((b.w2.toNat : Nat) : Int), .int .u64 ((b.w3.toNat : Nat) : Int)] Tryd.underlying24 rfl sz24 rfl (H3.blk 1 rfl) rfl rfl ?_)
  refine WL.op rfl (d_call ok26 rfl (Ret.calls (eachAnd_any a b w3  ) fun _ w4 p1 => ?_))
  obtain ⟨rfl, u4⟩ := p1
  have H4 : UpG w [] w4 [[blk w.heap.size #[.int .u64 ((a.w0.toNat : Nat) : Int), .int .u64 ((a.w1.toNat : Nat) : Int), .int .u64 ((a.w2.toNat : Nat) : Int), .int .u64 ((a.w3.toNat : Nat) : Int)] 24], [blk w1.heap.size #[.int .u64 ((b.w0.toNat : Nat) : Int), .int .u64 ((b.w1.toNat : Nat) : Int), .int .u64 ((b.w2.toNat : Nat) : Int), .int .u64 ((b.w3.toNat : Nat) : Int)] 24], [blk w2.heap.size #[.int .u64 ((Bs.zero.w0.toNat : Nat) : Int), .int .u64 ((Bs.zero.w1.toNat : Nat) : Int), .int .u64 ((Bs.zero.w2.toNat : Nat) : Int), .int .u64 ((Bs.zero.w3.toNat : Nat) : Int)] 24]] := H3.call u4
  refine WL.op0 (d_storeAB (us := [.int .u64 ((((andB a b).w0).toNat : Nat) : Int), .int .u64 ((((andB a b).w1).toNat : Nat) : Int), .int .u64 ((((andB a b).w2).toNat : Nat) : Int), .int .u64 ((((andB a b).w3).toNat : Nat) : Int)]) (cs' := #[.int .u64 ((((andB a b).w0).toNat : Nat) : Int), .int .u64 ((((andB a b).w1).toNat : Nat) : Int), .int .u64 ((((andB a b).w2).toNat : Nat) : Int), .int .u64 ((((andB a b).w3).toNat : Nat) : Int)]) sz24 rfl rfl rfl rfl (H4.blk 2 rfl) rfl rfl fun w5 u5 => ?_)
  have H5 : UpG w [] w5 [[blk w.heap.size #[.int .u64 ((a.w0.toNat : Nat) : Int), .int .u64 ((a.w1.toNat : Nat) : Int), .int .u64 ((a.w2.toNat : Nat) : Int), .int .u64 ((a.w3.toNat : Nat) : Int)] 24], [blk w1.heap.size #[.int .u64 ((b.w0.toNat : Nat) : Int), .int .u64 ((b.w1.toNat : Nat) : Int), .int .u64 ((b.w2.toNat : Nat) : Int), .int .u64 ((b.w3.toNat : Nat) : Int)] 24], [blk w2.heap.size #[.int .u64 ((((andB a b).w0).toNat : Nat) : Int), .int .u64 ((((andB a b).w1).toNat : Nat) : Int), .int .u64 ((((andB a b).w2).toNat : Nat) : Int), .int .u64 ((((andB a b).w3).toNat : Nat) : Int)] 24]] := H4.on 2 rfl u5
  refine WL.done (X.then_code ?_)
  refine W.ret (X.retR1 rfl (rv_cellA [.int .u64 ((((andB a b).w0).toNat : Nat) : Int), .int .u64 ((((andB a b).w1).toNat : Nat) : Int), .int .u64 ((((andB a b).w2).toNat : Nat) : Int), .int .u64 ((((andB a b).w3).toNat : Nat) : Int)] Tryd.underlying24 rfl sz24 rfl (H5.blk 2 rfl) rfl rfl) ?_)
  exact ⟨rfl, H5.noneL⟩

set_option maxRecDepth 20000 in
theorem or_any (a : Bs) (b : Bs) (w : World) :
    Calls Tryd.prog 21 #[.agg #[.int .u64 ((a.w0.toNat : Nat) : Int), .int .u64 ((a.w1.toNat : Nat) : Int), .int .u64 ((a.w2.toNat : Nat) : Int), .int .u64 ((a.w3.toNat : Nat) : Int)], .agg #[.int .u64 ((b.w0.toNat : Nat) : Int), .int .u64 ((b.w1.toNat : Nat) : Int), .int .u64 ((b.w2.toNat : Nat) : Int), .int .u64 ((b.w3.toNat : Nat) : Int)]] w (Ret fun v w' => v = .agg #[.int .u64 ((((orB a b).w0).toNat : Nat) : Int), .int .u64 ((((orB a b).w1).toNat : Nat) : Int), .int .u64 ((((orB a b).w2).toNat : Nat) : Int), .int .u64 ((((orB a b).w3).toNat : Nat) : Int)] ∧ Upd w [] w' []) := by
  refine calls_of_W (args := [.agg #[.int .u64 ((a.w0.toNat : Nat) : Int), .int .u64 ((a.w1.toNat : Nat) : Int), .int .u64 ((a.w2.toNat : Nat) : Int), .int .u64 ((a.w3.toNat : Nat) : Int)], .agg #[.int .u64 ((b.w0.toNat : Nat) : Int), .int .u64 ((b.w1.toNat : Nat) : Int), .int .u64 ((b.w2.toNat : Nat) : Int), .int .u64 ((b.w3.toNat : Nat) : Int)]]) Tryd.func21 rfl rfl rfl ?_
  have H0 : UpG w [] w [] := UpG.nil w
  show W _ _ _ _ [(0, .agg #[.int .u64 ((a.w0.toNat : Nat) : Int), .int .u64 ((a.w1.toNat : Nat) : Int), .int .u64 ((a.w2.toNat : Nat) : Int), .int .u64 ((a.w3.toNat : Nat) : Int)]), (1, .agg #[.int .u64 ((b.w0.toNat : Nat) : Int), .int .u64 ((b.w1.toNat : Nat) : Int), .int .u64 ((b.w2.toNat : Nat) : Int), .int .u64 ((b.w3.toNat : Nat) : Int)])] w
  refine W.seq ?_
  refine W.region ?_
  refine WL.op rfl (d_box rfl fun w1 u1 => ?_)
  have H1 : UpG w [] w1 [[blk w.heap.size #[.int .u64 ((a.w0.toNat : Nat) : Int), .int .u64 ((a.w1.toNat : Nat) : Int), .int .u64 ((a.w2.toNat : Nat) : Int), .int .u64 ((a.w3.toNat : Nat) : Int)] 24]] := H0.new' u1
  refine WL.op rfl (d_box rfl fun w2 u2 => ?_)
  have H2 : UpG w [] w2 [[blk w.heap.size #[.int .u64 ((a.w0.toNat : Nat) : Int), .int .u64 ((a.w1.toNat : Nat) : Int), .int .u64 ((a.w2.toNat : Nat) : Int), .int .u64 ((a.w3.toNat : Nat) : Int)] 24], [blk w1.heap.size #[.int .u64 ((b.w0.toNat : Nat) : Int), .int .u64 ((b.w1.toNat : Nat) : Int), .int .u64 ((b.w2.toNat : Nat) : Int), .int .u64 ((b.w3.toNat : Nat) : Int)] 24]] := H1.new' u2
  refine WL.op rfl (d_alloc sz24 fun w3 u3 => ?_)
  have H3 : UpG w [] w3 [[blk w.heap.size #[.int .u64 ((a.w0.toNat : Nat) : Int), .int .u64 ((a.w1.toNat : Nat) : Int), .int .u64 ((a.w2.toNat : Nat) : Int), .int .u64 ((a.w3.toNat : Nat) : Int)] 24], [blk w1.heap.size #[.int .u64 ((b.w0.toNat : Nat) : Int), .int .u64 ((b.w1.toNat : Nat) : Int), .int .u64 ((b.w2.toNat : Nat) : Int), .int .u64 ((b.w3.toNat : Nat) : Int)] 24], [blk w2.heap.size #[.int .u64 ((Bs.zero.w0.toNat : Nat) : Int), .int .u64 ((Bs.zero.w1.toNat : Nat) : Int), .int .u64 ((Bs.zero.w2.toNat : Nat) : Int), .int .u64 ((Bs.zero.w3.toNat : Nat) : Int)] 24]] := H2.new' u3
  refine WL.done (X.then_code ?_)
  refine W.seq ?_
  refine W.region ?_
  refine WL.op rfl (d_loadAB [.int .u64 ((a.w0.toNat : Nat) : Int), .int .u64 ((a.w1.toNat : Nat) : Int), .int .u64 ((a.w2.toNat : Nat) : Int), .int .u64 ((a.w3.toNat : Nat) : Int)] Tryd.underlying24 rfl sz24 rfl (H3.blk 0 rfl) rfl rfl ?_)
  refine WL.op rfl (d_loadAB [.int .u64 ((b.w0.toNat : Nat) : Int), .int .u64 ((b.w1.toNat : Nat) : Int), .int .u64 ((b.w2.toNat : Nat) : Int), .int .u64 ((b.w3.toNat : Nat) : Int)] Tryd.underlying24 rfl sz24 rfl (H3.blk 1 rfl) rfl rfl ?_)
  refine WL.op rfl (d_call ok26 rfl (Ret.calls (eachOr_any a b w3  ) fun _ w4 p1 => ?_))
  obtain ⟨rfl, u4⟩ := p1
  have H4 : UpG w [] w4 [[blk w.heap.size #[.int .u64 ((a.w0.toNat : Nat) : Int), .int .u64 ((a.w1.toNat : Nat) : Int), .int .u64 ((a.w2.toNat : Nat) : Int), .int .u64 ((a.w3.toNat : Nat) : Int)] 24], [blk w1.heap.size #[.int .u64 ((b.w0.toNat : Nat) : Int), .int .u64 ((b.w1.toNat : Nat) : Int), .int .u64 ((b.w2.toNat : Nat) : Int), .int .u64 ((b.w3.toNat : Nat) : Int)] 24], [blk w2.heap.size #[.int .u64 ((Bs.zero.w0.toNat : Nat) : Int), .int .u64 ((Bs.zero.w1.toNat : Nat) : Int), .int .u64 ((Bs.zero.w2.toNat : Nat) : Int), .int .u64 ((Bs.zero.w3.toNat : Nat) : Int)] 24]] := H3.call u4
  refine WL.op0 (d_storeAB (us := [.int .u64 ((((orB a b).w0).toNat : Nat) : Int), .int .u64 ((((orB a b).w1).toNat : Nat) : Int), .int .u64 ((((orB a b).w2).toNat : Nat) : Int), .int .u64 ((((orB a b).w3).toNat : Nat) : Int)]) (cs' := #[.int .u64 ((((orB a b).w0).toNat : Nat) : Int), .int .u64 ((((orB a b).w1).toNat : Nat) : Int), .int .u64 ((((orB a b).w2).toNat : Nat) : Int), .int .u64 ((((orB a b).w3).toNat : Nat) : Int)]) sz24 rfl rfl rfl rfl (H4.blk 2 rfl) rfl rfl fun w5 u5 => ?_)
  have H5 : UpG w [] w5 [[blk w.heap.size #[.int .u64 ((a.w0.toNat : Nat) : Int), .int .u64 ((a.w1.toNat : Nat) : Int), .int .u64 ((a.w2.toNat : Nat) : Int), .int .u64 ((a.w3.toNat : Nat) : Int)] 24], [blk w1.heap.size #[.int .u64 ((b.w0.toNat : Nat) : Int), .int .u64 ((b.w1.toNat : Nat) : Int), .int .u64 ((b.w2.toNat : Nat) : Int), .int .u64 ((b.w3.toNat : Nat) : Int)] 24], [blk w2.heap.size #[.int .u64 ((((orB a b).w0).toNat : Nat) : Int), .int .u64 ((((orB a b).w1).toNat : Nat) : Int), .int .u64 ((((orB a b).w2).toNat : Nat) : Int), .int .u64 ((((orB a b).w3).toNat : Nat) : Int)] 24]] := H4.on 2 rfl u5
  refine WL.done (X.then_code ?_)
  refine W.ret (X.retR1 rfl (rv_cellA [.int .u64 ((((orB a b).w0).toNat : Nat) : Int), .int .u64 ((((orB a b).w1).toNat : Nat) : Int), .int .u64 ((((orB a b).w2).toNat : Nat) : Int), .int .u64 ((((orB a b).w3).toNat : Nat) : Int)] Tryd.underlying24 rfl sz24 rfl (H5.blk 2 rfl) rfl rfl) ?_)
  exact ⟨rfl, H5.noneL⟩

set_option maxRecDepth 20000 in
theorem not_any (a : Bs) (w : World) :
    Calls Tryd.prog 28 #[.agg #[.int .u64 ((a.w0.toNat : Nat) : Int), .int .u64 ((a.w1.toNat : Nat) : Int), .int .u64 ((a.w2.toNat : Nat) : Int), .int .u64 ((a.w3.toNat : Nat) : Int)]] w (Ret fun v w' => v = .agg #[.int .u64 ((((notB a).w0).toNat : Nat) : Int), .int .u64 ((((notB a).w1).toNat : Nat) : Int), .int .u64 ((((notB a).w2).toNat : Nat) : Int), .int .u64 ((((notB a).w3).toNat : Nat) : Int)] ∧ Upd w [] w' []) := by
  refine calls_of_W (args := [.agg #[.int .u64 ((a.w0.toNat : Nat) : Int), .int .u64 ((a.w1.toNat : Nat) : Int), .int .u64 ((a.w2.toNat : Nat) : Int), .int .u64 ((a.w3.toNat : Nat) : Int)]]) Tryd.func28 rfl rfl rfl ?_
  have H0 : UpG w [] w [] := UpG.nil w
  show W _ _ _ _ [(0, .agg #[.int .u64 ((a.w0.toNat : Nat) : Int), .int .u64 ((a.w1.toNat : Nat) : Int), .int .u64 ((a.w2.toNat : Nat) : Int), .int .u64 ((a.w3.toNat : Nat) : Int)])] w
  refine W.seq ?_
  refine W.region ?_
  refine WL.op rfl (d_box rfl fun w1 u1 => ?_)
  have H1 : UpG w [] w1 [[blk w.heap.size #[.int .u64 ((a.w0.toNat : Nat) : Int), .int .u64 ((a.w1.toNat : Nat) : Int), .int .u64 ((a.w2.toNat : Nat) : Int), .int .u64 ((a.w3.toNat : Nat) : Int)] 24]] := H0.new' u1
  refine WL.op rfl (d_alloc sz24 fun w2 u2 => ?_)
  have H2 : UpG w [] w2 [[blk w.heap.size #[.int .u64 ((a.w0.toNat : Nat) : Int), .int .u64 ((a.w1.toNat : Nat) : Int), .int .u64 ((a.w2.toNat : Nat) : Int), .int .u64 ((a.w3.toNat : Nat) : Int)] 24], [blk w1.heap.size #[.int .u64 ((Bs.zero.w0.toNat : Nat) : Int), .int .u64 ((Bs.zero.w1.toNat : Nat) : Int), .int .u64 ((Bs.zero.w2.toNat : Nat) : Int), .int .u64 ((Bs.zero.w3.toNat : Nat) : Int)] 24]] := H1.new' u2
  refine WL.done (X.then_code ?_)
  refine W.seq ?_
  refine W.region ?_
  refine WL.op rfl (d_loadAB [.int .u64 ((a.w0.toNat : Nat) : Int), .int .u64 ((a.w1.toNat : Nat) : Int), .int .u64 ((a.w2.toNat : Nat) : Int), .int .u64 ((a.w3.toNat : Nat) : Int)] Tryd.underlying24 rfl sz24 rfl (H2.blk 0 rfl) rfl rfl ?_)
  refine WL.op rfl (d_loadAB [.int .u64 ((a.w0.toNat : Nat) : Int), .int .u64 ((a.w1.toNat : Nat) : Int), .int .u64 ((a.w2.toNat : Nat) : Int), .int .u64 ((a.w3.toNat : Nat) : Int)] Tryd.underlying24 rfl sz24 rfl (H2.blk 0 rfl) rfl rfl ?_)
  refine WL.op rfl (d_call ok26 rfl (Ret.calls (eachNot_any a a w2  ) fun _ w3 p1 => ?_))
  obtain ⟨rfl, u3⟩ := p1
  have H3 : UpG w [] w3 [[blk w.heap.size #[.int .u64 ((a.w0.toNat : Nat) : Int), .int .u64 ((a.w1.toNat : Nat) : Int), .int .u64 ((a.w2.toNat : Nat) : Int), .int .u64 ((a.w3.toNat : Nat) : Int)] 24], [blk w1.heap.size #[.int .u64 ((Bs.zero.w0.toNat : Nat) : Int), .int .u64 ((Bs.zero.w1.toNat : Nat) : Int), .int .u64 ((Bs.zero.w2.toNat : Nat) : Int), .int .u64 ((Bs.zero.w3.toNat : Nat) : Int)] 24]] := H2.call u3
  refine WL.op0 (d_storeAB (us := [.int .u64 ((((notB a).w0).toNat : Nat) : Int), .int .u64 ((((notB a).w1).toNat : Nat) : Int), .int .u64 ((((notB a).w2).toNat : Nat) : Int), .int .u64 ((((notB a).w3).toNat : Nat) : Int)]) (cs' := #[.int .u64 ((((notB a).w0).toNat : Nat) : Int), .int .u64 ((((notB a).w1).toNat : Nat) : Int), .int .u64 ((((notB a).w2).toNat : Nat) : Int), .int .u64 ((((notB a).w3).toNat : Nat) : Int)]) sz24 rfl rfl rfl rfl (H3.blk 1 rfl) rfl rfl fun w4 u4 => ?_)
  have H4 : UpG w [] w4 [[blk w.heap.size #[.int .u64 ((a.w0.toNat : Nat) : Int), .int .u64 ((a.w1.toNat : Nat) : Int), .int .u64 ((a.w2.toNat : Nat) : Int), .int .u64 ((a.w3.toNat : Nat) : Int)] 24], [blk w1.heap.size #[.int .u64 ((((notB a).w0).toNat : Nat) : Int), .int .u64 ((((notB a).w1).toNat : Nat) : Int), .int .u64 ((((notB a).w2).toNat : Nat) : Int), .int .u64 ((((notB a).w3).toNat : Nat) : Int)] 24]] := H3.on 1 rfl u4
  refine WL.done (X.then_code ?_)
  refine W.ret (X.retR1 rfl (rv_cellA [.int .u64 ((((notB a).w0).toNat : Nat) : Int), .int .u64 ((((notB a).w1).toNat : Nat) : Int), .int .u64 ((((notB a).w2).toNat : Nat) : Int), .int .u64 ((((notB a).w3).toNat : Nat) : Int)] Tryd.underlying24 rfl sz24 rfl (H4.blk 1 rfl) rfl rfl) ?_)
  exact ⟨rfl, H4.noneL⟩

set_option maxRecDepth 20000 in
theorem of_any (ba : Option Addr) (b : List Nat) (bc : Nat) (bn : Nat) (w : World) (rb : RdT tyN8 w (.slice ba bn bc) b) (hb : ∀ c, c ∈ b → c < 256) :
    Calls Tryd.prog 18 #[.slice ba bn bc] w (Ret fun v w' => v = .agg #[.int .u64 ((((ofS b).w0).toNat : Nat) : Int), .int .u64 ((((ofS b).w1).toNat : Nat) : Int), .int .u64 ((((ofS b).w2).toNat : Nat) : Int), .int .u64 ((((ofS b).w3).toNat : Nat) : Int)] ∧ Upd w [] w' []) := by
  obtain rfl : bn = b.length := rb.len
  have le_rb := rb.le
  refine calls_of_W (args := [.slice ba b.length bc]) Tryd.func18 rfl rfl rfl ?_
  have H0 : UpG w [] w [] := UpG.nil w
  show W _ _ _ _ [(0, .slice ba b.length bc)] w
  refine W.seq ?_
  refine W.region ?_
  refine WL.op rfl (d_alloc sz24 fun w1 u1 => ?_)
  have H1 : UpG w [] w1 [[blk w.heap.size #[.int .u64 ((Bs.zero.w0.toNat : Nat) : Int), .int .u64 ((Bs.zero.w1.toNat : Nat) : Int), .int .u64 ((Bs.zero.w2.toNat : Nat) : Int), .int .u64 ((Bs.zero.w3.toNat : Nat) : Int)] 24]] := H0.new' u1
  refine WL.done (X.then_code ?_)
  refine W.seq ?_
  refine W.region ?_
  refine WL.op rfl (d_alloc sz24 fun w2 u2 => ?_)
  have H2 : UpG w [] w2 [[blk w.heap.size #[.int .u64 ((Bs.zero.w0.toNat : Nat) : Int), .int .u64 ((Bs.zero.w1.toNat : Nat) : Int), .int .u64 ((Bs.zero.w2.toNat : Nat) : Int), .int .u64 ((Bs.zero.w3.toNat : Nat) : Int)] 24], [blk w1.heap.size #[.int .u64 ((Bs.zero.w0.toNat : Nat) : Int), .int .u64 ((Bs.zero.w1.toNat : Nat) : Int), .int .u64 ((Bs.zero.w2.toNat : Nat) : Int), .int .u64 ((Bs.zero.w3.toNat : Nat) : Int)] 24]] := H1.new' u2
  refine WL.done (X.then_code ?_)
  refine W.seq ?_
  refine W.seq ?_
  refine W.region ?_
  refine WL.op rfl (d_move rfl ?_)
  refine WL.op rfl (d_lenS Tryd.underlying41 rfl ?_)
  refine WL.op rfl (d_move rfl ?_)
  refine WL.done (X.then_code ?_)
  refine W.block ?_
  refine W.pick [8, 7, 6, 3, 2] (Γ' := [(8, .int .i64 0), (7, .int .i64 ((b.length : Nat) : Int)), (6, .slice ba b.length bc), (3, .pointer (some ⟨w1.heap.size, 0, none⟩)), (2, .pointer (some ⟨w.heap.size, 0, none⟩))]) rfl ?_
  refine W.loop (fun m Γ' w' => ∃ k : Nat, ∃ r : Bs, Γ' = [(8, .int .i64 ((k : Nat) : Int)), (7, .int .i64 ((b.length : Nat) : Int)), (6, .slice ba b.length bc), (3, .pointer (some ⟨w1.heap.size, 0, none⟩)), (2, .pointer (some ⟨w.heap.size, 0, none⟩))] ∧ UpG w [] w' [[blk w.heap.size #[.int .u64 ((Bs.zero.w0.toNat : Nat) : Int), .int .u64 ((Bs.zero.w1.toNat : Nat) : Int), .int .u64 ((Bs.zero.w2.toNat : Nat) : Int), .int .u64 ((Bs.zero.w3.toNat : Nat) : Int)] 24], [blk w1.heap.size #[.int .u64 ((r.w0.toNat : Nat) : Int), .int .u64 ((r.w1.toNat : Nat) : Int), .int .u64 ((r.w2.toNat : Nat) : Int), .int .u64 ((r.w3.toNat : Nat) : Int)] 24]] ∧ (k ≤ b.length) ∧ (r = (b.take k).foldl addS Bs.zero) ∧ m = b.length - k) (b.length - 0) ⟨0, Bs.zero, rfl, H2, (by first | assumption | omega | simp), (by rfl), rfl⟩ ?_
  rintro m1 Γ1 w3 ⟨k, r, rfl, H3, hk, hr, rfl⟩
  refine W.seq ?_
  refine W.region ?_
  refine WL.op rfl (d_cmp (decide (((k : Nat) : Int) < ((b.length : Nat) : Int))) rfl rfl rfl ?_)
  refine WL.done (X.then_code ?_)
  refine W.seq ?_
  refine W.ite (p := ((k : Nat) : Int) < ((b.length : Nat) : Int)) rfl (fun c13 => ?_) (fun c13 => ?_)
  · skip
    refine W.skip (X.then_code ?_)
    refine W.seq ?_
    refine W.block ?_
    refine W.seq ?_
    refine W.region ?_
    refine WL.op rfl (t_addr1 k (T := tyN8) rfl Tryd.underlying41 sz5 rfl rfl (rb.at H3) rfl (by omega) ?_)
    refine WL.op rfl (t_load1 k 0 (T := tyN8) rfl Tryd.underlying5 rfl rfl (rb.at H3) (by omega) rfl ?_)
    refine WL.op rfl (d_assign rfl ?_)
    refine WL.done (X.then_code ?_)
    have hc := hb _ (getD_mem' (d := 0) (show k < b.length by omega))
    refine W.region ?_
    refine WL.op rfl (d_move rfl ?_)
    refine WL.op rfl (d_shr6 (m := b.getD k 0) (by decide) rfl rfl ?_)
    refine WL.op rfl (d_idxBs (j := ((b.getD k 0) / 64)) Tryd.underlying24 sz22 rfl rfl (by omega) ?_)
    refine WL.op rfl (d_loadBs r Tryd.underlying22 rfl rfl (H3.blk 1 rfl) (by omega) ?_)
    refine WL.op rfl (d_move rfl ?_)
    refine WL.op rfl (d_and63 (m := b.getD k 0) (by omega) (by decide) rfl rfl ?_)
    refine WL.op rfl (d_bvshl (a := 1#64) (n := (b.getD k 0) % 64) rfl rfl (by omega) ?_)
    refine WL.op rfl (d_bvor (a := r.get ((b.getD k 0) / 64)) (b := (1#64) <<< ((b.getD k 0) % 64)) rfl rfl ?_)
    refine WL.op rfl (d_idxBs (j := ((b.getD k 0) / 64)) Tryd.underlying24 sz22 rfl rfl (by omega) ?_)
    refine WL.op0 (d_storeBs r ((r.get ((b.getD k 0) / 64)) ||| ((1#64) <<< ((b.getD k 0) % 64))) sz22 rfl rfl (H3.blk 1 rfl) (by omega) fun w4 u3 => ?_)
    have H4 : UpG w [] w4 [[blk w.heap.size #[.int .u64 ((Bs.zero.w0.toNat : Nat) : Int), .int .u64 ((Bs.zero.w1.toNat : Nat) : Int), .int .u64 ((Bs.zero.w2.toNat : Nat) : Int), .int .u64 ((Bs.zero.w3.toNat : Nat) : Int)] 24], [blk w1.heap.size #[.int .u64 ((((r.put ((b.getD k 0) / 64) ((r.get ((b.getD k 0) / 64)) ||| ((1#64) <<< ((b.getD k 0) % 64)))).w0).toNat : Nat) : Int), .int .u64 ((((r.put ((b.getD k 0) / 64) ((r.get ((b.getD k 0) / 64)) ||| ((1#64) <<< ((b.getD k 0) % 64)))).w1).toNat : Nat) : Int), .int .u64 ((((r.put ((b.getD k 0) / 64) ((r.get ((b.getD k 0) / 64)) ||| ((1#64) <<< ((b.getD k 0) % 64)))).w2).toNat : Nat) : Int), .int .u64 ((((r.put ((b.getD k 0) / 64) ((r.get ((b.getD k 0) / 64)) ||| ((1#64) <<< ((b.getD k 0) % 64)))).w3).toNat : Nat) : Int)] 24]] := H3.on 1 rfl u3
    refine WL.done (X.block_normal (X.then_code ?_))
    refine W.region ?_
    refine WL.op rfl (d_add rfl rfl (by omega) (by omega) ?_)
    refine WL.op rfl (d_move rfl ?_)
    refine WL.done ?_
    exact X.next [8, 7, 6, 3, 2] (Γ' := [(8, .int .i64 (((k + 1) : Nat) : Int)), (7, .int .i64 ((b.length : Nat) : Int)), (6, .slice ba b.length bc), (3, .pointer (some ⟨w1.heap.size, 0, none⟩)), (2, .pointer (some ⟨w.heap.size, 0, none⟩))]) rfl (b.length - (k + 1)) (by omega) ⟨k + 1, (r.put ((b.getD k 0) / 64) ((r.get ((b.getD k 0) / 64)) ||| ((1#64) <<< ((b.getD k 0) % 64)))), rfl, H4, (by first | assumption | omega | simp), (by rw [take_foldl (by omega), ← hr]; rfl), rfl⟩
  · skip
    refine W.exit (X.then_exit (X.then_exit (X.block_exit (X.then_code ?_))))
    refine W.seq ?_
    refine W.region ?_
    refine WL.op rfl (d_loadAB [.int .u64 ((r.w0.toNat : Nat) : Int), .int .u64 ((r.w1.toNat : Nat) : Int), .int .u64 ((r.w2.toNat : Nat) : Int), .int .u64 ((r.w3.toNat : Nat) : Int)] Tryd.underlying24 rfl sz24 rfl (H3.blk 1 rfl) rfl rfl ?_)
    refine WL.op0 (d_storeAB (us := [.int .u64 ((r.w0.toNat : Nat) : Int), .int .u64 ((r.w1.toNat : Nat) : Int), .int .u64 ((r.w2.toNat : Nat) : Int), .int .u64 ((r.w3.toNat : Nat) : Int)]) (cs' := #[.int .u64 ((r.w0.toNat : Nat) : Int), .int .u64 ((r.w1.toNat : Nat) : Int), .int .u64 ((r.w2.toNat : Nat) : Int), .int .u64 ((r.w3.toNat : Nat) : Int)]) sz24 rfl rfl rfl rfl (H3.blk 0 rfl) rfl rfl fun w5 u4 => ?_)
    have H5 : UpG w [] w5 [[blk w.heap.size #[.int .u64 ((r.w0.toNat : Nat) : Int), .int .u64 ((r.w1.toNat : Nat) : Int), .int .u64 ((r.w2.toNat : Nat) : Int), .int .u64 ((r.w3.toNat : Nat) : Int)] 24], [blk w1.heap.size #[.int .u64 ((r.w0.toNat : Nat) : Int), .int .u64 ((r.w1.toNat : Nat) : Int), .int .u64 ((r.w2.toNat : Nat) : Int), .int .u64 ((r.w3.toNat : Nat) : Int)] 24]] := H3.on 0 rfl u4
    refine WL.done (X.then_code ?_)
    refine W.ret (X.retR1 rfl (rv_cellA [.int .u64 ((r.w0.toNat : Nat) : Int), .int .u64 ((r.w1.toNat : Nat) : Int), .int .u64 ((r.w2.toNat : Nat) : Int), .int .u64 ((r.w3.toNat : Nat) : Int)] Tryd.underlying24 rfl sz24 rfl (H5.blk 0 rfl) rfl rfl) ?_)
    have e : r = ofS b := by rw [hr, List.take_of_length_le (by omega)]; rfl
    exact ⟨(by rw [e]), H5.noneL⟩

set_option maxRecDepth 20000 in
theorem has_any (s : Bs) (b : Nat) (w : World) (hb : b < 256) :
    Calls Tryd.prog 12 #[.agg #[.int .u64 ((s.w0.toNat : Nat) : Int), .int .u64 ((s.w1.toNat : Nat) : Int), .int .u64 ((s.w2.toNat : Nat) : Int), .int .u64 ((s.w3.toNat : Nat) : Int)], .int .u8 ((b : Nat) : Int)] w (Ret fun v w' => v = .bool (s.has b) ∧ Upd w [] w' []) := by
  refine calls_of_W (args := [.agg #[.int .u64 ((s.w0.toNat : Nat) : Int), .int .u64 ((s.w1.toNat : Nat) : Int), .int .u64 ((s.w2.toNat : Nat) : Int), .int .u64 ((s.w3.toNat : Nat) : Int)], .int .u8 ((b : Nat) : Int)]) Tryd.func12 rfl rfl rfl ?_
  have H0 : UpG w [] w [] := UpG.nil w
  show W _ _ _ _ [(0, .agg #[.int .u64 ((s.w0.toNat : Nat) : Int), .int .u64 ((s.w1.toNat : Nat) : Int), .int .u64 ((s.w2.toNat : Nat) : Int), .int .u64 ((s.w3.toNat : Nat) : Int)]), (1, .int .u8 ((b : Nat) : Int))] w
  refine W.seq ?_
  refine W.region ?_
  refine WL.op rfl (d_box rfl fun w1 u1 => ?_)
  have H1 : UpG w [] w1 [[blk w.heap.size #[.int .u64 ((s.w0.toNat : Nat) : Int), .int .u64 ((s.w1.toNat : Nat) : Int), .int .u64 ((s.w2.toNat : Nat) : Int), .int .u64 ((s.w3.toNat : Nat) : Int)] 24]] := H0.new' u1
  refine WL.op rfl (d_assign rfl ?_)
  refine WL.done (X.then_code ?_)
  refine W.seq ?_
  refine W.region ?_
  refine WL.op rfl (d_move rfl ?_)
  refine WL.op rfl (d_shr6 (m := b) (by decide) rfl rfl ?_)
  refine WL.op rfl (d_idxBs (j := (b / 64)) Tryd.underlying24 sz22 rfl rfl (by omega) ?_)
  refine WL.op rfl (d_loadBs s Tryd.underlying22 rfl rfl (H1.blk 0 rfl) (by omega) ?_)
  refine WL.op rfl (d_move rfl ?_)
  refine WL.op rfl (d_and63 (m := b) (by omega) (by decide) rfl rfl ?_)
  refine WL.op rfl (d_bvshr (a := s.get (b / 64)) (n := b % 64) rfl rfl (by omega) ?_)
  refine WL.op rfl (d_bvand (a := (s.get (b / 64)) >>> (b % 64)) (b := 1#64) rfl rfl ?_)
  refine WL.op rfl (d_bveq (a := ((s.get (b / 64)) >>> (b % 64)) &&& (1#64)) (b := 1#64) rfl rfl ?_)
  refine WL.op rfl (d_assign rfl ?_)
  refine WL.done (X.then_code ?_)
  refine W.ret (X.ret1 rfl rfl ?_)
  exact ⟨(by rw [has_shr]), H1.noneL⟩

set_option maxRecDepth 20000 in
theorem put1_any (s : Bs) (bI : Int) (b : Nat) (w : World) (e_b : bI = ((b : Nat) : Int)) (hb : b < 256) :
    Calls Tryd.prog 24 #[.agg #[.int .u64 ((s.w0.toNat : Nat) : Int), .int .u64 ((s.w1.toNat : Nat) : Int), .int .u64 ((s.w2.toNat : Nat) : Int), .int .u64 ((s.w3.toNat : Nat) : Int)], .int .i64 bI] w (Ret fun v w' => v = .agg #[.int .u64 ((((addS s b).w0).toNat : Nat) : Int), .int .u64 ((((addS s b).w1).toNat : Nat) : Int), .int .u64 ((((addS s b).w2).toNat : Nat) : Int), .int .u64 ((((addS s b).w3).toNat : Nat) : Int)] ∧ Upd w [] w' []) := by
  subst e_b
  refine calls_of_W (args := [.agg #[.int .u64 ((s.w0.toNat : Nat) : Int), .int .u64 ((s.w1.toNat : Nat) : Int), .int .u64 ((s.w2.toNat : Nat) : Int), .int .u64 ((s.w3.toNat : Nat) : Int)], .int .i64 ((b : Nat) : Int)]) Tryd.func24 rfl rfl rfl ?_
  have H0 : UpG w [] w [] := UpG.nil w
  show W _ _ _ _ [(0, .agg #[.int .u64 ((s.w0.toNat : Nat) : Int), .int .u64 ((s.w1.toNat : Nat) : Int), .int .u64 ((s.w2.toNat : Nat) : Int), .int .u64 ((s.w3.toNat : Nat) : Int)]), (1, .int .i64 ((b : Nat) : Int))] w
  refine W.seq ?_
  refine W.region ?_
  refine WL.op rfl (d_box rfl fun w1 u1 => ?_)
  have H1 : UpG w [] w1 [[blk w.heap.size #[.int .u64 ((s.w0.toNat : Nat) : Int), .int .u64 ((s.w1.toNat : Nat) : Int), .int .u64 ((s.w2.toNat : Nat) : Int), .int .u64 ((s.w3.toNat : Nat) : Int)] 24]] := H0.new' u1
  refine WL.op rfl (d_alloc sz24 fun w2 u2 => ?_)
  have H2 : UpG w [] w2 [[blk w.heap.size #[.int .u64 ((s.w0.toNat : Nat) : Int), .int .u64 ((s.w1.toNat : Nat) : Int), .int .u64 ((s.w2.toNat : Nat) : Int), .int .u64 ((s.w3.toNat : Nat) : Int)] 24], [blk w1.heap.size #[.int .u64 ((Bs.zero.w0.toNat : Nat) : Int), .int .u64 ((Bs.zero.w1.toNat : Nat) : Int), .int .u64 ((Bs.zero.w2.toNat : Nat) : Int), .int .u64 ((Bs.zero.w3.toNat : Nat) : Int)] 24]] := H1.new' u2
  refine WL.done (X.then_code ?_)
  refine W.seq ?_
  refine W.region ?_
  refine WL.op rfl (d_move rfl ?_)
  refine WL.op rfl (d_quo rfl rfl (by omega) (by omega) (by omega) ?_)
  refine WL.op rfl (d_move rfl ?_)
  refine WL.op rfl (d_quo rfl rfl (by omega) (by omega) (by omega) ?_)
  refine WL.op rfl (d_idxBs (j := (b / 64)) Tryd.underlying24 sz22 rfl rfl (by omega) ?_)
  refine WL.op rfl (d_loadBs s Tryd.underlying22 rfl rfl (H2.blk 0 rfl) (by omega) ?_)
  refine WL.op rfl (d_move rfl ?_)
  refine WL.op rfl (d_remN rfl rfl (by omega) (by omega) ?_)
  refine WL.op rfl (d_convI (kd := .u64) Tryd.underlying3 Tryd.underlying51 rfl (by simp [IntKind.signed, IntKind.bits, IntKind.max]; omega) ?_)
  refine WL.op rfl (d_bvshl (a := 1#64) (n := b % 64) rfl rfl (by omega) ?_)
  refine WL.op rfl (d_bvor (a := s.get (b / 64)) (b := (1#64) <<< (b % 64)) rfl rfl ?_)
  refine WL.op rfl (d_idxBs (j := (b / 64)) Tryd.underlying24 sz22 rfl rfl (by omega) ?_)
  refine WL.op0 (d_storeBs s ((s.get (b / 64)) ||| ((1#64) <<< (b % 64))) sz22 rfl rfl (H2.blk 0 rfl) (by omega) fun w3 u3 => ?_)
  have H3 : UpG w [] w3 [[blk w.heap.size #[.int .u64 ((((s.put (b / 64) ((s.get (b / 64)) ||| ((1#64) <<< (b % 64)))).w0).toNat : Nat) : Int), .int .u64 ((((s.put (b / 64) ((s.get (b / 64)) ||| ((1#64) <<< (b % 64)))).w1).toNat : Nat) : Int), .int .u64 ((((s.put (b / 64) ((s.get (b / 64)) ||| ((1#64) <<< (b % 64)))).w2).toNat : Nat) : Int), .int .u64 ((((s.put (b / 64) ((s.get (b / 64)) ||| ((1#64) <<< (b % 64)))).w3).toNat : Nat) : Int)] 24], [blk w1.heap.size #[.int .u64 ((Bs.zero.w0.toNat : Nat) : Int), .int .u64 ((Bs.zero.w1.toNat : Nat) : Int), .int .u64 ((Bs.zero.w2.toNat : Nat) : Int), .int .u64 ((Bs.zero.w3.toNat : Nat) : Int)] 24]] := H2.on 0 rfl u3
  refine WL.done (X.then_code ?_)
  refine W.seq ?_
  refine W.region ?_
  refine WL.op rfl (d_loadAB [.int .u64 ((((s.put (b / 64) ((s.get (b / 64)) ||| ((1#64) <<< (b % 64)))).w0).toNat : Nat) : Int), .int .u64 ((((s.put (b / 64) ((s.get (b / 64)) ||| ((1#64) <<< (b % 64)))).w1).toNat : Nat) : Int), .int .u64 ((((s.put (b / 64) ((s.get (b / 64)) ||| ((1#64) <<< (b % 64)))).w2).toNat : Nat) : Int), .int .u64 ((((s.put (b / 64) ((s.get (b / 64)) ||| ((1#64) <<< (b % 64)))).w3).toNat : Nat) : Int)] Tryd.underlying24 rfl sz24 rfl (H3.blk 0 rfl) rfl rfl ?_)
  refine WL.op0 (d_storeAB (us := [.int .u64 ((((s.put (b / 64) ((s.get (b / 64)) ||| ((1#64) <<< (b % 64)))).w0).toNat : Nat) : Int), .int .u64 ((((s.put (b / 64) ((s.get (b / 64)) ||| ((1#64) <<< (b % 64)))).w1).toNat : Nat) : Int), .int .u64 ((((s.put (b / 64) ((s.get (b / 64)) ||| ((1#64) <<< (b % 64)))).w2).toNat : Nat) : Int), .int .u64 ((((s.put (b / 64) ((s.get (b / 64)) ||| ((1#64) <<< (b % 64)))).w3).toNat : Nat) : Int)]) (cs' := #[.int .u64 ((((s.put (b / 64) ((s.get (b / 64)) ||| ((1#64) <<< (b % 64)))).w0).toNat : Nat) : Int), .int .u64 ((((s.put (b / 64) ((s.get (b / 64)) ||| ((1#64) <<< (b % 64)))).w1).toNat : Nat) : Int), .int .u64 ((((s.put (b / 64) ((s.get (b / 64)) ||| ((1#64) <<< (b % 64)))).w2).toNat : Nat) : Int), .int .u64 ((((s.put (b / 64) ((s.get (b / 64)) ||| ((1#64) <<< (b % 64)))).w3).toNat : Nat) : Int)]) sz24 rfl rfl rfl rfl (H3.blk 1 rfl) rfl rfl fun w4 u4 => ?_)
  have H4 : UpG w [] w4 [[blk w.heap.size #[.int .u64 ((((s.put (b / 64) ((s.get (b / 64)) ||| ((1#64) <<< (b % 64)))).w0).toNat : Nat) : Int), .int .u64 ((((s.put (b / 64) ((s.get (b / 64)) ||| ((1#64) <<< (b % 64)))).w1).toNat : Nat) : Int), .int .u64 ((((s.put (b / 64) ((s.get (b / 64)) ||| ((1#64) <<< (b % 64)))).w2).toNat : Nat) : Int), .int .u64 ((((s.put (b / 64) ((s.get (b / 64)) ||| ((1#64) <<< (b % 64)))).w3).toNat : Nat) : Int)] 24], [blk w1.heap.size #[.int .u64 ((((s.put (b / 64) ((s.get (b / 64)) ||| ((1#64) <<< (b % 64)))).w0).toNat : Nat) : Int), .int .u64 ((((s.put (b / 64) ((s.get (b / 64)) ||| ((1#64) <<< (b % 64)))).w1).toNat : Nat) : Int), .int .u64 ((((s.put (b / 64) ((s.get (b / 64)) ||| ((1#64) <<< (b % 64)))).w2).toNat : Nat) : Int), .int .u64 ((((s.put (b / 64) ((s.get (b / 64)) ||| ((1#64) <<< (b % 64)))).w3).toNat : Nat) : Int)] 24]] := H3.on 1 rfl u4
  refine WL.done (X.then_code ?_)
  refine W.ret (X.retR1 rfl (rv_cellA [.int .u64 ((((s.put (b / 64) ((s.get (b / 64)) ||| ((1#64) <<< (b % 64)))).w0).toNat : Nat) : Int), .int .u64 ((((s.put (b / 64) ((s.get (b / 64)) ||| ((1#64) <<< (b % 64)))).w1).toNat : Nat) : Int), .int .u64 ((((s.put (b / 64) ((s.get (b / 64)) ||| ((1#64) <<< (b % 64)))).w2).toNat : Nat) : Int), .int .u64 ((((s.put (b / 64) ((s.get (b / 64)) ||| ((1#64) <<< (b % 64)))).w3).toNat : Nat) : Int)] Tryd.underlying24 rfl sz24 rfl (H4.blk 1 rfl) rfl rfl) ?_)
  exact ⟨(by rfl), H4.noneL⟩

set_option maxRecDepth 20000 in
theorem pop_any (x : BitVec 64) (w : World) :
    Calls Tryd.prog 31 #[.int .u64 ((x.toNat : Nat) : Int)] w (Ret fun v w' => v = .int .i64 ((pop x : Nat) : Int) ∧ Upd w [] w' []) := by
  refine calls_of_W (args := [.int .u64 ((x.toNat : Nat) : Int)]) Tryd.func31 rfl rfl rfl ?_
  have H0 : UpG w [] w [] := UpG.nil w
  show W _ _ _ _ [(0, .int .u64 ((x.toNat : Nat) : Int))] w
  refine W.seq ?_
  refine W.region ?_
  refine WL.op rfl (d_assign rfl ?_)
  refine WL.done (X.then_code ?_)
  refine W.seq ?_
  refine W.region ?_
  refine WL.op rfl (d_move rfl ?_)
  refine WL.op rfl (d_bvshr (a := x) (n := 1) rfl rfl (by omega) ?_)
  refine WL.op rfl (d_bvand (a := x >>> 1) (b := 6148914691236517205#64) rfl rfl ?_)
  refine WL.op rfl (d_move rfl ?_)
  refine WL.op rfl (d_bvand (a := x) (b := 6148914691236517205#64) rfl rfl ?_)
  refine WL.op rfl (d_bvadd (a := (x >>> 1) &&& (6148914691236517205#64)) (b := x &&& (6148914691236517205#64)) rfl rfl ?_)
  refine WL.op rfl (d_assign rfl ?_)
  refine WL.done (X.then_code ?_)
  refine W.seq ?_
  refine W.region ?_
  refine WL.op rfl (d_move rfl ?_)
  refine WL.op rfl (d_bvshr (a := ((x >>> 1) &&& (6148914691236517205#64)) + (x &&& (6148914691236517205#64))) (n := 2) rfl rfl (by omega) ?_)
  refine WL.op rfl (d_bvand (a := (((x >>> 1) &&& (6148914691236517205#64)) + (x &&& (6148914691236517205#64))) >>> 2) (b := 3689348814741910323#64) rfl rfl ?_)
  refine WL.op rfl (d_move rfl ?_)
  refine WL.op rfl (d_bvand (a := ((x >>> 1) &&& (6148914691236517205#64)) + (x &&& (6148914691236517205#64))) (b := 3689348814741910323#64) rfl rfl ?_)
  refine WL.op rfl (d_bvadd (a := ((((x >>> 1) &&& (6148914691236517205#64)) + (x &&& (6148914691236517205#64))) >>> 2) &&& (3689348814741910323#64)) (b := (((x >>> 1) &&& (6148914691236517205#64)) + (x &&& (6148914691236517205#64))) &&& (3689348814741910323#64)) rfl rfl ?_)
  refine WL.op rfl (d_assign rfl ?_)
  refine WL.done (X.then_code ?_)
  refine W.seq ?_
  refine W.region ?_
  refine WL.op rfl (d_move rfl ?_)
  refine WL.op rfl (d_bvshr (a := (((((x >>> 1) &&& (6148914691236517205#64)) + (x &&& (6148914691236517205#64))) >>> 2) &&& (3689348814741910323#64)) + ((((x >>> 1) &&& (6148914691236517205#64)) + (x &&& (6148914691236517205#64))) &&& (3689348814741910323#64))) (n := 4) rfl rfl (by omega) ?_)
  refine WL.op rfl (d_move rfl ?_)
  refine WL.op rfl (d_bvadd (a := ((((((x >>> 1) &&& (6148914691236517205#64)) + (x &&& (6148914691236517205#64))) >>> 2) &&& (3689348814741910323#64)) + ((((x >>> 1) &&& (6148914691236517205#64)) + (x &&& (6148914691236517205#64))) &&& (3689348814741910323#64))) >>> 4) (b := (((((x >>> 1) &&& (6148914691236517205#64)) + (x &&& (6148914691236517205#64))) >>> 2) &&& (3689348814741910323#64)) + ((((x >>> 1) &&& (6148914691236517205#64)) + (x &&& (6148914691236517205#64))) &&& (3689348814741910323#64))) rfl rfl ?_)
  refine WL.op rfl (d_bvand (a := (((((((x >>> 1) &&& (6148914691236517205#64)) + (x &&& (6148914691236517205#64))) >>> 2) &&& (3689348814741910323#64)) + ((((x >>> 1) &&& (6148914691236517205#64)) + (x &&& (6148914691236517205#64))) &&& (3689348814741910323#64))) >>> 4) + ((((((x >>> 1) &&& (6148914691236517205#64)) + (x &&& (6148914691236517205#64))) >>> 2) &&& (3689348814741910323#64)) + ((((x >>> 1) &&& (6148914691236517205#64)) + (x &&& (6148914691236517205#64))) &&& (3689348814741910323#64)))) (b := 1085102592571150095#64) rfl rfl ?_)
  refine WL.op rfl (d_assign rfl ?_)
  refine WL.done (X.then_code ?_)
  refine W.seq ?_
  refine W.region ?_
  refine WL.op rfl (d_move rfl ?_)
  refine WL.op rfl (d_move rfl ?_)
  refine WL.op rfl (d_bvshr (a := ((((((((x >>> 1) &&& (6148914691236517205#64)) + (x &&& (6148914691236517205#64))) >>> 2) &&& (3689348814741910323#64)) + ((((x >>> 1) &&& (6148914691236517205#64)) + (x &&& (6148914691236517205#64))) &&& (3689348814741910323#64))) >>> 4) + ((((((x >>> 1) &&& (6148914691236517205#64)) + (x &&& (6148914691236517205#64))) >>> 2) &&& (3689348814741910323#64)) + ((((x >>> 1) &&& (6148914691236517205#64)) + (x &&& (6148914691236517205#64))) &&& (3689348814741910323#64)))) &&& (1085102592571150095#64)) (n := 8) rfl rfl (by omega) ?_)
  refine WL.op rfl (d_bvadd (a := ((((((((x >>> 1) &&& (6148914691236517205#64)) + (x &&& (6148914691236517205#64))) >>> 2) &&& (3689348814741910323#64)) + ((((x >>> 1) &&& (6148914691236517205#64)) + (x &&& (6148914691236517205#64))) &&& (3689348814741910323#64))) >>> 4) + ((((((x >>> 1) &&& (6148914691236517205#64)) + (x &&& (6148914691236517205#64))) >>> 2) &&& (3689348814741910323#64)) + ((((x >>> 1) &&& (6148914691236517205#64)) + (x &&& (6148914691236517205#64))) &&& (3689348814741910323#64)))) &&& (1085102592571150095#64)) (b := (((((((((x >>> 1) &&& (6148914691236517205#64)) + (x &&& (6148914691236517205#64))) >>> 2) &&& (3689348814741910323#64)) + ((((x >>> 1) &&& (6148914691236517205#64)) + (x &&& (6148914691236517205#64))) &&& (3689348814741910323#64))) >>> 4) + ((((((x >>> 1) &&& (6148914691236517205#64)) + (x &&& (6148914691236517205#64))) >>> 2) &&& (3689348814741910323#64)) + ((((x >>> 1) &&& (6148914691236517205#64)) + (x &&& (6148914691236517205#64))) &&& (3689348814741910323#64)))) &&& (1085102592571150095#64)) >>> 8) rfl rfl ?_)
  refine WL.op rfl (d_assign rfl ?_)
  refine WL.done (X.then_code ?_)
  refine W.seq ?_
  refine W.region ?_
  refine WL.op rfl (d_move rfl ?_)
  refine WL.op rfl (d_move rfl ?_)
  refine WL.op rfl (d_bvshr (a := (((((((((x >>> 1) &&& (6148914691236517205#64)) + (x &&& (6148914691236517205#64))) >>> 2) &&& (3689348814741910323#64)) + ((((x >>> 1) &&& (6148914691236517205#64)) + (x &&& (6148914691236517205#64))) &&& (3689348814741910323#64))) >>> 4) + ((((((x >>> 1) &&& (6148914691236517205#64)) + (x &&& (6148914691236517205#64))) >>> 2) &&& (3689348814741910323#64)) + ((((x >>> 1) &&& (6148914691236517205#64)) + (x &&& (6148914691236517205#64))) &&& (3689348814741910323#64)))) &&& (1085102592571150095#64)) + ((((((((((x >>> 1) &&& (6148914691236517205#64)) + (x &&& (6148914691236517205#64))) >>> 2) &&& (3689348814741910323#64)) + ((((x >>> 1) &&& (6148914691236517205#64)) + (x &&& (6148914691236517205#64))) &&& (3689348814741910323#64))) >>> 4) + ((((((x >>> 1) &&& (6148914691236517205#64)) + (x &&& (6148914691236517205#64))) >>> 2) &&& (3689348814741910323#64)) + ((((x >>> 1) &&& (6148914691236517205#64)) + (x &&& (6148914691236517205#64))) &&& (3689348814741910323#64)))) &&& (1085102592571150095#64)) >>> 8)) (n := 16) rfl rfl (by omega) ?_)
  refine WL.op rfl (d_bvadd (a := (((((((((x >>> 1) &&& (6148914691236517205#64)) + (x &&& (6148914691236517205#64))) >>> 2) &&& (3689348814741910323#64)) + ((((x >>> 1) &&& (6148914691236517205#64)) + (x &&& (6148914691236517205#64))) &&& (3689348814741910323#64))) >>> 4) + ((((((x >>> 1) &&& (6148914691236517205#64)) + (x &&& (6148914691236517205#64))) >>> 2) &&& (3689348814741910323#64)) + ((((x >>> 1) &&& (6148914691236517205#64)) + (x &&& (6148914691236517205#64))) &&& (3689348814741910323#64)))) &&& (1085102592571150095#64)) + ((((((((((x >>> 1) &&& (6148914691236517205#64)) + (x &&& (6148914691236517205#64))) >>> 2) &&& (3689348814741910323#64)) + ((((x >>> 1) &&& (6148914691236517205#64)) + (x &&& (6148914691236517205#64))) &&& (3689348814741910323#64))) >>> 4) + ((((((x >>> 1) &&& (6148914691236517205#64)) + (x &&& (6148914691236517205#64))) >>> 2) &&& (3689348814741910323#64)) + ((((x >>> 1) &&& (6148914691236517205#64)) + (x &&& (6148914691236517205#64))) &&& (3689348814741910323#64)))) &&& (1085102592571150095#64)) >>> 8)) (b := ((((((((((x >>> 1) &&& (6148914691236517205#64)) + (x &&& (6148914691236517205#64))) >>> 2) &&& (3689348814741910323#64)) + ((((x >>> 1) &&& (6148914691236517205#64)) + (x &&& (6148914691236517205#64))) &&& (3689348814741910323#64))) >>> 4) + ((((((x >>> 1) &&& (6148914691236517205#64)) + (x &&& (6148914691236517205#64))) >>> 2) &&& (3689348814741910323#64)) + ((((x >>> 1) &&& (6148914691236517205#64)) + (x &&& (6148914691236517205#64))) &&& (3689348814741910323#64)))) &&& (1085102592571150095#64)) + ((((((((((x >>> 1) &&& (6148914691236517205#64)) + (x &&& (6148914691236517205#64))) >>> 2) &&& (3689348814741910323#64)) + ((((x >>> 1) &&& (6148914691236517205#64)) + (x &&& (6148914691236517205#64))) &&& (3689348814741910323#64))) >>> 4) + ((((((x >>> 1) &&& (6148914691236517205#64)) + (x &&& (6148914691236517205#64))) >>> 2) &&& (3689348814741910323#64)) + ((((x >>> 1) &&& (6148914691236517205#64)) + (x &&& (6148914691236517205#64))) &&& (3689348814741910323#64)))) &&& (1085102592571150095#64)) >>> 8)) >>> 16) rfl rfl ?_)
  refine WL.op rfl (d_assign rfl ?_)
  refine WL.done (X.then_code ?_)
  refine W.seq ?_
  refine W.region ?_
  refine WL.op rfl (d_move rfl ?_)
  refine WL.op rfl (d_move rfl ?_)
  refine WL.op rfl (d_bvshr (a := ((((((((((x >>> 1) &&& (6148914691236517205#64)) + (x &&& (6148914691236517205#64))) >>> 2) &&& (3689348814741910323#64)) + ((((x >>> 1) &&& (6148914691236517205#64)) + (x &&& (6148914691236517205#64))) &&& (3689348814741910323#64))) >>> 4) + ((((((x >>> 1) &&& (6148914691236517205#64)) + (x &&& (6148914691236517205#64))) >>> 2) &&& (3689348814741910323#64)) + ((((x >>> 1) &&& (6148914691236517205#64)) + (x &&& (6148914691236517205#64))) &&& (3689348814741910323#64)))) &&& (1085102592571150095#64)) + ((((((((((x >>> 1) &&& (6148914691236517205#64)) + (x &&& (6148914691236517205#64))) >>> 2) &&& (3689348814741910323#64)) + ((((x >>> 1) &&& (6148914691236517205#64)) + (x &&& (6148914691236517205#64))) &&& (3689348814741910323#64))) >>> 4) + ((((((x >>> 1) &&& (6148914691236517205#64)) + (x &&& (6148914691236517205#64))) >>> 2) &&& (3689348814741910323#64)) + ((((x >>> 1) &&& (6148914691236517205#64)) + (x &&& (6148914691236517205#64))) &&& (3689348814741910323#64)))) &&& (1085102592571150095#64)) >>> 8)) + (((((((((((x >>> 1) &&& (6148914691236517205#64)) + (x &&& (6148914691236517205#64))) >>> 2) &&& (3689348814741910323#64)) + ((((x >>> 1) &&& (6148914691236517205#64)) + (x &&& (6148914691236517205#64))) &&& (3689348814741910323#64))) >>> 4) + ((((((x >>> 1) &&& (6148914691236517205#64)) + (x &&& (6148914691236517205#64))) >>> 2) &&& (3689348814741910323#64)) + ((((x >>> 1) &&& (6148914691236517205#64)) + (x &&& (6148914691236517205#64))) &&& (3689348814741910323#64)))) &&& (1085102592571150095#64)) + ((((((((((x >>> 1) &&& (6148914691236517205#64)) + (x &&& (6148914691236517205#64))) >>> 2) &&& (3689348814741910323#64)) + ((((x >>> 1) &&& (6148914691236517205#64)) + (x &&& (6148914691236517205#64))) &&& (3689348814741910323#64))) >>> 4) + ((((((x >>> 1) &&& (6148914691236517205#64)) + (x &&& (6148914691236517205#64))) >>> 2) &&& (3689348814741910323#64)) + ((((x >>> 1) &&& (6148914691236517205#64)) + (x &&& (6148914691236517205#64))) &&& (3689348814741910323#64)))) &&& (1085102592571150095#64)) >>> 8)) >>> 16)) (n := 32) rfl rfl (by omega) ?_)
  refine WL.op rfl (d_bvadd (a := ((((((((((x >>> 1) &&& (6148914691236517205#64)) + (x &&& (6148914691236517205#64))) >>> 2) &&& (3689348814741910323#64)) + ((((x >>> 1) &&& (6148914691236517205#64)) + (x &&& (6148914691236517205#64))) &&& (3689348814741910323#64))) >>> 4) + ((((((x >>> 1) &&& (6148914691236517205#64)) + (x &&& (6148914691236517205#64))) >>> 2) &&& (3689348814741910323#64)) + ((((x >>> 1) &&& (6148914691236517205#64)) + (x &&& (6148914691236517205#64))) &&& (3689348814741910323#64)))) &&& (1085102592571150095#64)) + ((((((((((x >>> 1) &&& (6148914691236517205#64)) + (x &&& (6148914691236517205#64))) >>> 2) &&& (3689348814741910323#64)) + ((((x >>> 1) &&& (6148914691236517205#64)) + (x &&& (6148914691236517205#64))) &&& (3689348814741910323#64))) >>> 4) + ((((((x >>> 1) &&& (6148914691236517205#64)) + (x &&& (6148914691236517205#64))) >>> 2) &&& (3689348814741910323#64)) + ((((x >>> 1) &&& (6148914691236517205#64)) + (x &&& (6148914691236517205#64))) &&& (3689348814741910323#64)))) &&& (1085102592571150095#64)) >>> 8)) + (((((((((((x >>> 1) &&& (6148914691236517205#64)) + (x &&& (6148914691236517205#64))) >>> 2) &&& (3689348814741910323#64)) + ((((x >>> 1) &&& (6148914691236517205#64)) + (x &&& (6148914691236517205#64))) &&& (3689348814741910323#64))) >>> 4) + ((((((x >>> 1) &&& (6148914691236517205#64)) + (x &&& (6148914691236517205#64))) >>> 2) &&& (3689348814741910323#64)) + ((((x >>> 1) &&& (6148914691236517205#64)) + (x &&& (6148914691236517205#64))) &&& (3689348814741910323#64)))) &&& (1085102592571150095#64)) + ((((((((((x >>> 1) &&& (6148914691236517205#64)) + (x &&& (6148914691236517205#64))) >>> 2) &&& (3689348814741910323#64)) + ((((x >>> 1) &&& (6148914691236517205#64)) + (x &&& (6148914691236517205#64))) &&& (3689348814741910323#64))) >>> 4) + ((((((x >>> 1) &&& (6148914691236517205#64)) + (x &&& (6148914691236517205#64))) >>> 2) &&& (3689348814741910323#64)) + ((((x >>> 1) &&& (6148914691236517205#64)) + (x &&& (6148914691236517205#64))) &&& (3689348814741910323#64)))) &&& (1085102592571150095#64)) >>> 8)) >>> 16)) (b := (((((((((((x >>> 1) &&& (6148914691236517205#64)) + (x &&& (6148914691236517205#64))) >>> 2) &&& (3689348814741910323#64)) + ((((x >>> 1) &&& (6148914691236517205#64)) + (x &&& (6148914691236517205#64))) &&& (3689348814741910323#64))) >>> 4) + ((((((x >>> 1) &&& (6148914691236517205#64)) + (x &&& (6148914691236517205#64))) >>> 2) &&& (3689348814741910323#64)) + ((((x >>> 1) &&& (6148914691236517205#64)) + (x &&& (6148914691236517205#64))) &&& (3689348814741910323#64)))) &&& (1085102592571150095#64)) + ((((((((((x >>> 1) &&& (6148914691236517205#64)) + (x &&& (6148914691236517205#64))) >>> 2) &&& (3689348814741910323#64)) + ((((x >>> 1) &&& (6148914691236517205#64)) + (x &&& (6148914691236517205#64))) &&& (3689348814741910323#64))) >>> 4) + ((((((x >>> 1) &&& (6148914691236517205#64)) + (x &&& (6148914691236517205#64))) >>> 2) &&& (3689348814741910323#64)) + ((((x >>> 1) &&& (6148914691236517205#64)) + (x &&& (6148914691236517205#64))) &&& (3689348814741910323#64)))) &&& (1085102592571150095#64)) >>> 8)) + (((((((((((x >>> 1) &&& (6148914691236517205#64)) + (x &&& (6148914691236517205#64))) >>> 2) &&& (3689348814741910323#64)) + ((((x >>> 1) &&& (6148914691236517205#64)) + (x &&& (6148914691236517205#64))) &&& (3689348814741910323#64))) >>> 4) + ((((((x >>> 1) &&& (6148914691236517205#64)) + (x &&& (6148914691236517205#64))) >>> 2) &&& (3689348814741910323#64)) + ((((x >>> 1) &&& (6148914691236517205#64)) + (x &&& (6148914691236517205#64))) &&& (3689348814741910323#64)))) &&& (1085102592571150095#64)) + ((((((((((x >>> 1) &&& (6148914691236517205#64)) + (x &&& (6148914691236517205#64))) >>> 2) &&& (3689348814741910323#64)) + ((((x >>> 1) &&& (6148914691236517205#64)) + (x &&& (6148914691236517205#64))) &&& (3689348814741910323#64))) >>> 4) + ((((((x >>> 1) &&& (6148914691236517205#64)) + (x &&& (6148914691236517205#64))) >>> 2) &&& (3689348814741910323#64)) + ((((x >>> 1) &&& (6148914691236517205#64)) + (x &&& (6148914691236517205#64))) &&& (3689348814741910323#64)))) &&& (1085102592571150095#64)) >>> 8)) >>> 16)) >>> 32) rfl rfl ?_)
  refine WL.op rfl (d_assign rfl ?_)
  refine WL.done (X.then_code ?_)
  refine W.pick [0, 2] (Γ' := [(0, .int .u64 ((((((((((((((x >>> 1) &&& (6148914691236517205#64)) + (x &&& (6148914691236517205#64))) >>> 2) &&& (3689348814741910323#64)) + ((((x >>> 1) &&& (6148914691236517205#64)) + (x &&& (6148914691236517205#64))) &&& (3689348814741910323#64))) >>> 4) + ((((((x >>> 1) &&& (6148914691236517205#64)) + (x &&& (6148914691236517205#64))) >>> 2) &&& (3689348814741910323#64)) + ((((x >>> 1) &&& (6148914691236517205#64)) + (x &&& (6148914691236517205#64))) &&& (3689348814741910323#64)))) &&& (1085102592571150095#64)) + ((((((((((x >>> 1) &&& (6148914691236517205#64)) + (x &&& (6148914691236517205#64))) >>> 2) &&& (3689348814741910323#64)) + ((((x >>> 1) &&& (6148914691236517205#64)) + (x &&& (6148914691236517205#64))) &&& (3689348814741910323#64))) >>> 4) + ((((((x >>> 1) &&& (6148914691236517205#64)) + (x &&& (6148914691236517205#64))) >>> 2) &&& (3689348814741910323#64)) + ((((x >>> 1) &&& (6148914691236517205#64)) + (x &&& (6148914691236517205#64))) &&& (3689348814741910323#64)))) &&& (1085102592571150095#64)) >>> 8)) + (((((((((((x >>> 1) &&& (6148914691236517205#64)) + (x &&& (6148914691236517205#64))) >>> 2) &&& (3689348814741910323#64)) + ((((x >>> 1) &&& (6148914691236517205#64)) + (x &&& (6148914691236517205#64))) &&& (3689348814741910323#64))) >>> 4) + ((((((x >>> 1) &&& (6148914691236517205#64)) + (x &&& (6148914691236517205#64))) >>> 2) &&& (3689348814741910323#64)) + ((((x >>> 1) &&& (6148914691236517205#64)) + (x &&& (6148914691236517205#64))) &&& (3689348814741910323#64)))) &&& (1085102592571150095#64)) + ((((((((((x >>> 1) &&& (6148914691236517205#64)) + (x &&& (6148914691236517205#64))) >>> 2) &&& (3689348814741910323#64)) + ((((x >>> 1) &&& (6148914691236517205#64)) + (x &&& (6148914691236517205#64))) &&& (3689348814741910323#64))) >>> 4) + ((((((x >>> 1) &&& (6148914691236517205#64)) + (x &&& (6148914691236517205#64))) >>> 2) &&& (3689348814741910323#64)) + ((((x >>> 1) &&& (6148914691236517205#64)) + (x &&& (6148914691236517205#64))) &&& (3689348814741910323#64)))) &&& (1085102592571150095#64)) >>> 8)) >>> 16)) + ((((((((((((x >>> 1) &&& (6148914691236517205#64)) + (x &&& (6148914691236517205#64))) >>> 2) &&& (3689348814741910323#64)) + ((((x >>> 1) &&& (6148914691236517205#64)) + (x &&& (6148914691236517205#64))) &&& (3689348814741910323#64))) >>> 4) + ((((((x >>> 1) &&& (6148914691236517205#64)) + (x &&& (6148914691236517205#64))) >>> 2) &&& (3689348814741910323#64)) + ((((x >>> 1) &&& (6148914691236517205#64)) + (x &&& (6148914691236517205#64))) &&& (3689348814741910323#64)))) &&& (1085102592571150095#64)) + ((((((((((x >>> 1) &&& (6148914691236517205#64)) + (x &&& (6148914691236517205#64))) >>> 2) &&& (3689348814741910323#64)) + ((((x >>> 1) &&& (6148914691236517205#64)) + (x &&& (6148914691236517205#64))) &&& (3689348814741910323#64))) >>> 4) + ((((((x >>> 1) &&& (6148914691236517205#64)) + (x &&& (6148914691236517205#64))) >>> 2) &&& (3689348814741910323#64)) + ((((x >>> 1) &&& (6148914691236517205#64)) + (x &&& (6148914691236517205#64))) &&& (3689348814741910323#64)))) &&& (1085102592571150095#64)) >>> 8)) + (((((((((((x >>> 1) &&& (6148914691236517205#64)) + (x &&& (6148914691236517205#64))) >>> 2) &&& (3689348814741910323#64)) + ((((x >>> 1) &&& (6148914691236517205#64)) + (x &&& (6148914691236517205#64))) &&& (3689348814741910323#64))) >>> 4) + ((((((x >>> 1) &&& (6148914691236517205#64)) + (x &&& (6148914691236517205#64))) >>> 2) &&& (3689348814741910323#64)) + ((((x >>> 1) &&& (6148914691236517205#64)) + (x &&& (6148914691236517205#64))) &&& (3689348814741910323#64)))) &&& (1085102592571150095#64)) + ((((((((((x >>> 1) &&& (6148914691236517205#64)) + (x &&& (6148914691236517205#64))) >>> 2) &&& (3689348814741910323#64)) + ((((x >>> 1) &&& (6148914691236517205#64)) + (x &&& (6148914691236517205#64))) &&& (3689348814741910323#64))) >>> 4) + ((((((x >>> 1) &&& (6148914691236517205#64)) + (x &&& (6148914691236517205#64))) >>> 2) &&& (3689348814741910323#64)) + ((((x >>> 1) &&& (6148914691236517205#64)) + (x &&& (6148914691236517205#64))) &&& (3689348814741910323#64)))) &&& (1085102592571150095#64)) >>> 8)) >>> 16)) >>> 32)).toNat : Nat) : Int)), (2, .int .i64 0)]) rfl ?_
  refine W.seq ?_
  refine W.region ?_
  refine WL.op rfl (d_move rfl ?_)
  refine WL.op rfl (d_conv Tryd.underlying22 Tryd.underlying3 rfl ?_)
  refine WL.op rfl (d_and127 (a := (((((((((((x >>> 1) &&& (6148914691236517205#64)) + (x &&& (6148914691236517205#64))) >>> 2) &&& (3689348814741910323#64)) + ((((x >>> 1) &&& (6148914691236517205#64)) + (x &&& (6148914691236517205#64))) &&& (3689348814741910323#64))) >>> 4) + ((((((x >>> 1) &&& (6148914691236517205#64)) + (x &&& (6148914691236517205#64))) >>> 2) &&& (3689348814741910323#64)) + ((((x >>> 1) &&& (6148914691236517205#64)) + (x &&& (6148914691236517205#64))) &&& (3689348814741910323#64)))) &&& (1085102592571150095#64)) + ((((((((((x >>> 1) &&& (6148914691236517205#64)) + (x &&& (6148914691236517205#64))) >>> 2) &&& (3689348814741910323#64)) + ((((x >>> 1) &&& (6148914691236517205#64)) + (x &&& (6148914691236517205#64))) &&& (3689348814741910323#64))) >>> 4) + ((((((x >>> 1) &&& (6148914691236517205#64)) + (x &&& (6148914691236517205#64))) >>> 2) &&& (3689348814741910323#64)) + ((((x >>> 1) &&& (6148914691236517205#64)) + (x &&& (6148914691236517205#64))) &&& (3689348814741910323#64)))) &&& (1085102592571150095#64)) >>> 8)) + (((((((((((x >>> 1) &&& (6148914691236517205#64)) + (x &&& (6148914691236517205#64))) >>> 2) &&& (3689348814741910323#64)) + ((((x >>> 1) &&& (6148914691236517205#64)) + (x &&& (6148914691236517205#64))) &&& (3689348814741910323#64))) >>> 4) + ((((((x >>> 1) &&& (6148914691236517205#64)) + (x &&& (6148914691236517205#64))) >>> 2) &&& (3689348814741910323#64)) + ((((x >>> 1) &&& (6148914691236517205#64)) + (x &&& (6148914691236517205#64))) &&& (3689348814741910323#64)))) &&& (1085102592571150095#64)) + ((((((((((x >>> 1) &&& (6148914691236517205#64)) + (x &&& (6148914691236517205#64))) >>> 2) &&& (3689348814741910323#64)) + ((((x >>> 1) &&& (6148914691236517205#64)) + (x &&& (6148914691236517205#64))) &&& (3689348814741910323#64))) >>> 4) + ((((((x >>> 1) &&& (6148914691236517205#64)) + (x &&& (6148914691236517205#64))) >>> 2) &&& (3689348814741910323#64)) + ((((x >>> 1) &&& (6148914691236517205#64)) + (x &&& (6148914691236517205#64))) &&& (3689348814741910323#64)))) &&& (1085102592571150095#64)) >>> 8)) >>> 16)) + ((((((((((((x >>> 1) &&& (6148914691236517205#64)) + (x &&& (6148914691236517205#64))) >>> 2) &&& (3689348814741910323#64)) + ((((x >>> 1) &&& (6148914691236517205#64)) + (x &&& (6148914691236517205#64))) &&& (3689348814741910323#64))) >>> 4) + ((((((x >>> 1) &&& (6148914691236517205#64)) + (x &&& (6148914691236517205#64))) >>> 2) &&& (3689348814741910323#64)) + ((((x >>> 1) &&& (6148914691236517205#64)) + (x &&& (6148914691236517205#64))) &&& (3689348814741910323#64)))) &&& (1085102592571150095#64)) + ((((((((((x >>> 1) &&& (6148914691236517205#64)) + (x &&& (6148914691236517205#64))) >>> 2) &&& (3689348814741910323#64)) + ((((x >>> 1) &&& (6148914691236517205#64)) + (x &&& (6148914691236517205#64))) &&& (3689348814741910323#64))) >>> 4) + ((((((x >>> 1) &&& (6148914691236517205#64)) + (x &&& (6148914691236517205#64))) >>> 2) &&& (3689348814741910323#64)) + ((((x >>> 1) &&& (6148914691236517205#64)) + (x &&& (6148914691236517205#64))) &&& (3689348814741910323#64)))) &&& (1085102592571150095#64)) >>> 8)) + (((((((((((x >>> 1) &&& (6148914691236517205#64)) + (x &&& (6148914691236517205#64))) >>> 2) &&& (3689348814741910323#64)) + ((((x >>> 1) &&& (6148914691236517205#64)) + (x &&& (6148914691236517205#64))) &&& (3689348814741910323#64))) >>> 4) + ((((((x >>> 1) &&& (6148914691236517205#64)) + (x &&& (6148914691236517205#64))) >>> 2) &&& (3689348814741910323#64)) + ((((x >>> 1) &&& (6148914691236517205#64)) + (x &&& (6148914691236517205#64))) &&& (3689348814741910323#64)))) &&& (1085102592571150095#64)) + ((((((((((x >>> 1) &&& (6148914691236517205#64)) + (x &&& (6148914691236517205#64))) >>> 2) &&& (3689348814741910323#64)) + ((((x >>> 1) &&& (6148914691236517205#64)) + (x &&& (6148914691236517205#64))) &&& (3689348814741910323#64))) >>> 4) + ((((((x >>> 1) &&& (6148914691236517205#64)) + (x &&& (6148914691236517205#64))) >>> 2) &&& (3689348814741910323#64)) + ((((x >>> 1) &&& (6148914691236517205#64)) + (x &&& (6148914691236517205#64))) &&& (3689348814741910323#64)))) &&& (1085102592571150095#64)) >>> 8)) >>> 16)) >>> 32)) rfl rfl ?_)
  refine WL.op rfl (d_assign rfl ?_)
  refine WL.done (X.then_code ?_)
  refine W.ret (X.ret1 rfl rfl ?_)
  exact ⟨(by rfl), H0.noneL⟩

set_option maxRecDepth 20000 in
theorem count_any (s : Bs) (w : World) :
    Calls Tryd.prog 14 #[.agg #[.int .u64 ((s.w0.toNat : Nat) : Int), .int .u64 ((s.w1.toNat : Nat) : Int), .int .u64 ((s.w2.toNat : Nat) : Int), .int .u64 ((s.w3.toNat : Nat) : Int)]] w (Ret fun v w' => v = .int .i64 ((popB s : Nat) : Int) ∧ Upd w [] w' []) := by
  refine calls_of_W (args := [.agg #[.int .u64 ((s.w0.toNat : Nat) : Int), .int .u64 ((s.w1.toNat : Nat) : Int), .int .u64 ((s.w2.toNat : Nat) : Int), .int .u64 ((s.w3.toNat : Nat) : Int)]]) Tryd.func14 rfl rfl rfl ?_
  have H0 : UpG w [] w [] := UpG.nil w
  show W _ _ _ _ [(0, .agg #[.int .u64 ((s.w0.toNat : Nat) : Int), .int .u64 ((s.w1.toNat : Nat) : Int), .int .u64 ((s.w2.toNat : Nat) : Int), .int .u64 ((s.w3.toNat : Nat) : Int)])] w
  refine W.seq ?_
  refine W.region ?_
  refine WL.op rfl (d_box rfl fun w1 u1 => ?_)
  have H1 : UpG w [] w1 [[blk w.heap.size #[.int .u64 ((s.w0.toNat : Nat) : Int), .int .u64 ((s.w1.toNat : Nat) : Int), .int .u64 ((s.w2.toNat : Nat) : Int), .int .u64 ((s.w3.toNat : Nat) : Int)] 24]] := H0.new' u1
  refine WL.op rfl (d_assign rfl ?_)
  refine WL.done (X.then_code ?_)
  refine W.seq ?_
  refine W.region ?_
  refine WL.op rfl (d_assign rfl ?_)
  refine WL.done (X.then_code ?_)
  refine W.seq ?_
  refine W.seq ?_
  refine W.region ?_
  refine WL.op rfl (d_loadAB [.int .u64 ((s.w0.toNat : Nat) : Int), .int .u64 ((s.w1.toNat : Nat) : Int), .int .u64 ((s.w2.toNat : Nat) : Int), .int .u64 ((s.w3.toNat : Nat) : Int)] Tryd.underlying24 rfl sz24 rfl (H1.blk 0 rfl) rfl rfl ?_)
  refine WL.op rfl (d_move rfl ?_)
  refine WL.done (X.then_code ?_)
  refine W.block ?_
  refine W.pick [7, 6, 3, 2] (Γ' := [(7, .int .i64 0), (6, .agg #[.int .u64 ((s.w0.toNat : Nat) : Int), .int .u64 ((s.w1.toNat : Nat) : Int), .int .u64 ((s.w2.toNat : Nat) : Int), .int .u64 ((s.w3.toNat : Nat) : Int)]), (3, .int .i64 0), (2, .int .i64 0)]) rfl ?_
  refine W.loop (fun m Γ' w' => ∃ k : Nat, Γ' = [(7, .int .i64 ((k : Nat) : Int)), (6, .agg #[.int .u64 ((s.w0.toNat : Nat) : Int), .int .u64 ((s.w1.toNat : Nat) : Int), .int .u64 ((s.w2.toNat : Nat) : Int), .int .u64 ((s.w3.toNat : Nat) : Int)]), (3, .int .i64 ((popTo s k : Nat) : Int)), (2, .int .i64 0)] ∧ UpG w [] w' [[blk w.heap.size #[.int .u64 ((s.w0.toNat : Nat) : Int), .int .u64 ((s.w1.toNat : Nat) : Int), .int .u64 ((s.w2.toNat : Nat) : Int), .int .u64 ((s.w3.toNat : Nat) : Int)] 24]] ∧ (k ≤ 4) ∧ m = 4 - k) (4 - 0) ⟨0, rfl, H1, (by first | assumption | omega | simp), rfl⟩ ?_
  rintro m1 Γ1 w2 ⟨k, rfl, H2, hk, rfl⟩
  have hp := popTo_le s k
  have hp1 := pop_le (s.get k)
  refine W.seq ?_
  refine W.region ?_
  refine WL.op rfl (d_cmp (decide (((k : Nat) : Int) < (4 : Int))) rfl rfl rfl ?_)
  refine WL.done (X.then_code ?_)
  refine W.seq ?_
  refine W.ite (p := ((k : Nat) : Int) < (4 : Int)) rfl (fun c54 => ?_) (fun c54 => ?_)
  · skip
    refine W.skip (X.then_code ?_)
    refine W.seq ?_
    refine W.block ?_
    refine W.seq ?_
    refine W.region ?_
    refine WL.op rfl (d_idxBsV (j := k) s Tryd.underlying24 Tryd.underlying22 rfl sz22 rfl rfl (by omega) ?_)
    refine WL.op rfl (d_assign rfl ?_)
    refine WL.done (X.then_code ?_)
    refine W.region ?_
    refine WL.op rfl (d_move rfl ?_)
    refine WL.op rfl (d_move rfl ?_)
    refine WL.op rfl (d_call ok31 rfl (Ret.calls (pop_any (s.get k) w2  ) fun _ w3 p1 => ?_))
    obtain ⟨rfl, u2⟩ := p1
    have H3 : UpG w [] w3 [[blk w.heap.size #[.int .u64 ((s.w0.toNat : Nat) : Int), .int .u64 ((s.w1.toNat : Nat) : Int), .int .u64 ((s.w2.toNat : Nat) : Int), .int .u64 ((s.w3.toNat : Nat) : Int)] 24]] := H2.call u2
    refine WL.op rfl (d_add rfl rfl (by omega) (by omega) ?_)
    refine WL.op rfl (d_assign rfl ?_)
    refine WL.done (X.block_normal (X.then_code ?_))
    refine W.region ?_
    refine WL.op rfl (d_add rfl rfl (by omega) (by omega) ?_)
    refine WL.op rfl (d_move rfl ?_)
    refine WL.done ?_
    exact X.next [7, 6, 3, 2] (Γ' := [(7, .int .i64 (((k + 1) : Nat) : Int)), (6, .agg #[.int .u64 ((s.w0.toNat : Nat) : Int), .int .u64 ((s.w1.toNat : Nat) : Int), .int .u64 ((s.w2.toNat : Nat) : Int), .int .u64 ((s.w3.toNat : Nat) : Int)]), (3, .int .i64 ((popTo s (k + 1) : Nat) : Int)), (2, .int .i64 0)]) rfl (4 - (k + 1)) (by omega) ⟨k + 1, rfl, H3, (by first | assumption | omega | simp), rfl⟩
  · skip
    refine W.exit (X.then_exit (X.then_exit (X.block_exit (X.then_code ?_))))
    refine W.seq ?_
    refine W.region ?_
    refine WL.op rfl (d_move rfl ?_)
    refine WL.op rfl (d_assign rfl ?_)
    refine WL.done (X.then_code ?_)
    refine W.ret (X.ret1 rfl rfl ?_)
    have e : k = 4 := by omega
    subst e
    exact ⟨(by rw [popTo_4]), H2.noneL⟩

set_option maxRecDepth 20000 in
theorem ctz_any (x : BitVec 64) (w : World) (rT : RdT tyN8 w (.slice (some ⟨0, 0, none⟩) deB.length 64) deB) :
    Calls Tryd.prog 35 #[.int .u64 ((x.toNat : Nat) : Int)] w (Ret fun v w' => v = .int .i64 ((ctz x : Nat) : Int) ∧ Upd w [] w' []) := by
  have le_rT := rT.le
  refine calls_of_W (args := [.int .u64 ((x.toNat : Nat) : Int)]) Tryd.func35 rfl rfl rfl ?_
  have H0 : UpG w [] w [] := UpG.nil w
  show W _ _ _ _ [(0, .int .u64 ((x.toNat : Nat) : Int))] w
  refine W.seq ?_
  refine W.region ?_
  refine WL.op rfl (d_assign rfl ?_)
  refine WL.done (X.then_code ?_)
  refine W.seq ?_
  refine W.seq ?_
  refine W.region ?_
  refine WL.op rfl (d_move rfl ?_)
  refine WL.op rfl (d_bveq (a := x) (b := 0#64) rfl rfl ?_)
  refine WL.done (X.then_code ?_)
  refine W.ite (p := x = (0#64)) rfl (fun c91 => ?_) (fun c91 => ?_)
  · skip
    refine W.seq ?_
    refine W.region ?_
    refine WL.op rfl (d_assign rfl ?_)
    refine WL.done (X.then_code ?_)
    refine W.ret (X.then_ret (X.ret1 rfl rfl ?_))
    exact ⟨(by rw [show ctz x = 64 from if_pos c91]; rfl), H0.noneL⟩
  · skip
    refine W.skip (X.then_code ?_)
    refine W.seq ?_
    refine W.region ?_
    refine WL.op rfl (d_move rfl ?_)
    refine WL.op rfl (d_move rfl ?_)
    refine WL.op rfl (d_bvneg (a := x) rfl ?_)
    refine WL.op rfl (d_bvand (a := x) (b := -x) rfl rfl ?_)
    refine WL.op rfl (d_bvmul (a := x &&& (-x)) (b := 285870213051353865#64) rfl rfl ?_)
    refine WL.op rfl (d_bvshr (a := (x &&& (-x)) * (285870213051353865#64)) (n := 58) rfl rfl (by first | omega | exact conv64 (Nat.lt_trans (deB_lt _) (by decide))) ?_)
    refine WL.op rfl (d_idxG (n := deB.length) (c := 64) (j := ((((x &&& (-x)) * (285870213051353865#64)) >>> 58).toNat)) Tryd.underlying65 sz5 rfl (by first | exact shr58 _ | (rw [deB_len]; exact shr58 _)) ?_)
    refine WL.op rfl (t_load1 ((((x &&& (-x)) * (285870213051353865#64)) >>> 58).toNat) 0 (T := tyN8) rfl Tryd.underlying5 rfl rfl (rT.at H0) (by first | exact shr58 _ | (rw [deB_len]; exact shr58 _)) rfl ?_)
    refine WL.op rfl (d_convI (kd := .i64) Tryd.underlying5 Tryd.underlying3 rfl (by first | omega | exact conv64 (Nat.lt_trans (deB_lt _) (by decide))) ?_)
    refine WL.op rfl (d_assign rfl ?_)
    refine WL.done (X.then_code ?_)
    refine W.ret (X.ret1 rfl rfl ?_)
    exact ⟨(by rw [show ctz x = _ from if_neg c91]), H0.noneL⟩
end Go.Proofs.YtnjjjmpdikpjaaaDoor


/- What isn't looked at for a while, as one chunk. Conditions: those of each theorem. -/
namespace Go.Sx
set_option linter.unusedVariables false
theorem UpG.packG {w w' : World} {L A : List Chunk} {G : List (List Chunk)} (h : UpG w L w' G) (i : Nat) (hi : G[i]? = some A) : UpG w L w' (G.set i [many A]) :=
  h.on i hi ⟨hp_many.2 (by rw [List.append_nil]; exact h.hpOf i hi), Keep.refl _ _, fun g hg => .inl (by rw [ats_many, List.append_nil] at hg; exact hg)⟩
end Go.Sx

