/- The walks of functions, printed by wip/tools/gw.py. -/
import Derived.Test.YtnjjjmpdikpjaaaDoorNamedEscapesB1
import Derived.Test.YtnjjjmpdikpjaaaDoorNamedEscapesB4
namespace Go.Proofs.YtnjjjmpdikpjaaaDoor
open Go Go.Sx
set_option linter.unusedVariables false
set_option linter.unusedSimpArgs false
set_option maxRecDepth 20000 in
theorem resc_any (c : Nat) (w : World) :
    Calls Tryd.prog 11 #[.int .i64 ((c : Nat) : Int)] w (Ret fun v w' => v = .tuple #[.agg #[.int .u64 ((((setOf (inB c)).w0).toNat : Nat) : Int), .int .u64 ((((setOf (inB c)).w1).toNat : Nat) : Int), .int .u64 ((((setOf (inB c)).w2).toNat : Nat) : Int), .int .u64 ((((setOf (inB c)).w3).toNat : Nat) : Int)], .bool (decide (setOf (inB c) ≠ Bs.zero))] ∧ Upd w [] w' []) := by
  refine calls_of_W (args := [.int .i64 ((c : Nat) : Int)]) Tryd.func11 rfl rfl rfl ?_
  have H0 : UpG w [] w [] := UpG.nil w
  show W _ _ _ _ [(0, .int .i64 ((c : Nat) : Int))] w
  refine W.seq ?_
  refine W.region ?_
  refine WL.op rfl (d_alloc sz24 fun w1 u1 => ?_)
  have H1 : UpG w [] w1 [[blk w.heap.size #[.int .u64 ((Bs.zero.w0.toNat : Nat) : Int), .int .u64 ((Bs.zero.w1.toNat : Nat) : Int), .int .u64 ((Bs.zero.w2.toNat : Nat) : Int), .int .u64 ((Bs.zero.w3.toNat : Nat) : Int)] 24]] := H0.new' u1
  refine WL.op rfl (d_assign rfl ?_)
  refine WL.done (X.then_code ?_)
  refine W.seq ?_
  refine W.region ?_
  refine WL.op rfl (d_alloc sz24 fun w2 u2 => ?_)
  have H2 : UpG w [] w2 [[blk w.heap.size #[.int .u64 ((Bs.zero.w0.toNat : Nat) : Int), .int .u64 ((Bs.zero.w1.toNat : Nat) : Int), .int .u64 ((Bs.zero.w2.toNat : Nat) : Int), .int .u64 ((Bs.zero.w3.toNat : Nat) : Int)] 24], [blk w1.heap.size #[.int .u64 ((Bs.zero.w0.toNat : Nat) : Int), .int .u64 ((Bs.zero.w1.toNat : Nat) : Int), .int .u64 ((Bs.zero.w2.toNat : Nat) : Int), .int .u64 ((Bs.zero.w3.toNat : Nat) : Int)] 24]] := H1.new' u2
  refine WL.done (X.then_code ?_)
  refine W.seq ?_
  refine W.seq ?_
  refine W.region ?_
  refine WL.op rfl (d_assign rfl ?_)
  refine WL.done (X.then_code ?_)
  refine W.block ?_
  refine W.pick [5, 4, 3, 2, 0] (Γ' := [(5, .int .i64 0), (4, .pointer (some ⟨w1.heap.size, 0, none⟩)), (3, .bool false), (2, .pointer (some ⟨w.heap.size, 0, none⟩)), (0, .int .i64 ((c : Nat) : Int))]) rfl ?_
  refine W.loop (fun m Γ' w' => ∃ k : Nat, ∃ r : Bs, Γ' = [(5, .int .i64 ((k : Nat) : Int)), (4, .pointer (some ⟨w1.heap.size, 0, none⟩)), (3, .bool false), (2, .pointer (some ⟨w.heap.size, 0, none⟩)), (0, .int .i64 ((c : Nat) : Int))] ∧ UpG w [] w' [[blk w.heap.size #[.int .u64 ((Bs.zero.w0.toNat : Nat) : Int), .int .u64 ((Bs.zero.w1.toNat : Nat) : Int), .int .u64 ((Bs.zero.w2.toNat : Nat) : Int), .int .u64 ((Bs.zero.w3.toNat : Nat) : Int)] 24], [blk w1.heap.size #[.int .u64 ((r.w0.toNat : Nat) : Int), .int .u64 ((r.w1.toNat : Nat) : Int), .int .u64 ((r.w2.toNat : Nat) : Int), .int .u64 ((r.w3.toNat : Nat) : Int)] 24]] ∧ (k ≤ 256) ∧ (∀ x, x < 256 → r.has x = (decide (x < k) && inB c x)) ∧ m = 256 - k) (256 - 0) ⟨0, Bs.zero, rfl, H2, (by first | assumption | omega | simp), (by intro x hx; rw [has_zeroB]; simp), rfl⟩ ?_
  rintro m1 Γ1 w3 ⟨k, r, rfl, H3, hk, hr, rfl⟩
  refine W.seq ?_
  refine W.seq ?_
  refine W.region ?_
  refine WL.op rfl (d_move rfl ?_)
  refine WL.op rfl (d_cmp (decide (((k : Nat) : Int) < (256 : Int))) rfl rfl rfl ?_)
  refine WL.done (X.then_code ?_)
  refine W.ite (p := ((k : Nat) : Int) < (256 : Int)) rfl (fun c60 => ?_) (fun c60 => ?_)
  · skip
    refine W.skip (X.then_code ?_)
    refine W.seq ?_
    refine W.block ?_
    refine W.seq ?_
    refine W.region ?_
    refine WL.op rfl (d_move rfl ?_)
    refine WL.op rfl (d_call ok29 rfl (Ret.calls (is_any ⟨#[97, 108, 110, 117, 109]⟩ k w3  ) fun _ w4 p1 => ?_))
    obtain ⟨rfl, u3⟩ := p1
    have H4 : UpG w [] w4 [[blk w.heap.size #[.int .u64 ((Bs.zero.w0.toNat : Nat) : Int), .int .u64 ((Bs.zero.w1.toNat : Nat) : Int), .int .u64 ((Bs.zero.w2.toNat : Nat) : Int), .int .u64 ((Bs.zero.w3.toNat : Nat) : Int)] 24], [blk w1.heap.size #[.int .u64 ((r.w0.toNat : Nat) : Int), .int .u64 ((r.w1.toNat : Nat) : Int), .int .u64 ((r.w2.toNat : Nat) : Int), .int .u64 ((r.w3.toNat : Nat) : Int)] 24]] := H3.call u3
    refine WL.op rfl (d_move rfl ?_)
    refine WL.op rfl (d_extract rfl rfl ?_)
    refine WL.op rfl (d_extract rfl rfl ?_)
    refine WL.op rfl (d_assign rfl ?_)
    refine WL.op rfl (d_assign rfl ?_)
    refine WL.done (X.then_code ?_)
    refine W.seq ?_
    refine W.region ?_
    refine WL.op rfl (d_move rfl ?_)
    refine WL.op rfl (d_call ok29 rfl (Ret.calls (is_any ⟨#[115, 112, 97, 99, 101]⟩ k w4  ) fun _ w5 p2 => ?_))
    obtain ⟨rfl, u4⟩ := p2
    have H5 : UpG w [] w5 [[blk w.heap.size #[.int .u64 ((Bs.zero.w0.toNat : Nat) : Int), .int .u64 ((Bs.zero.w1.toNat : Nat) : Int), .int .u64 ((Bs.zero.w2.toNat : Nat) : Int), .int .u64 ((Bs.zero.w3.toNat : Nat) : Int)] 24], [blk w1.heap.size #[.int .u64 ((r.w0.toNat : Nat) : Int), .int .u64 ((r.w1.toNat : Nat) : Int), .int .u64 ((r.w2.toNat : Nat) : Int), .int .u64 ((r.w3.toNat : Nat) : Int)] 24]] := H4.call u4
    refine WL.op rfl (d_move rfl ?_)
    refine WL.op rfl (d_extract rfl rfl ?_)
    refine WL.op rfl (d_extract rfl rfl ?_)
    refine WL.op rfl (d_assign rfl ?_)
    refine WL.op rfl (d_assign rfl ?_)
    refine WL.done (X.then_code ?_)
    refine W.seq ?_
    refine W.region ?_
    refine WL.op rfl (d_assign rfl ?_)
    refine WL.done (X.then_code ?_)
    refine W.cut (fun Γ' w' => ∃ q : Bool, Γ' = [(10, .bool q), (5, .int .i64 ((k : Nat) : Int)), (4, .pointer (some ⟨w1.heap.size, 0, none⟩)), (3, .bool false), (2, .pointer (some ⟨w.heap.size, 0, none⟩)), (0, .int .i64 ((c : Nat) : Int))] ∧ UpG w [] w' [[blk w.heap.size #[.int .u64 ((Bs.zero.w0.toNat : Nat) : Int), .int .u64 ((Bs.zero.w1.toNat : Nat) : Int), .int .u64 ((Bs.zero.w2.toNat : Nat) : Int), .int .u64 ((Bs.zero.w3.toNat : Nat) : Int)] 24], [blk w1.heap.size #[.int .u64 ((r.w0.toNat : Nat) : Int), .int .u64 ((r.w1.toNat : Nat) : Int), .int .u64 ((r.w2.toNat : Nat) : Int), .int .u64 ((r.w3.toNat : Nat) : Int)] 24]] ∧ (q = inB c k)) ?_ ?_
    · skip
      refine W.seq ?_
      refine W.region ?_
      refine WL.op rfl (d_move rfl ?_)
      refine WL.done (X.then_code ?_)
      refine W.block ?_
      refine W.seq ?_
      refine W.region ?_
      refine WL.op rfl (d_cmp (decide (((c : Nat) : Int) = (110 : Int))) rfl rfl rfl ?_)
      refine WL.op rfl (d_assign rfl ?_)
      refine WL.done (X.then_code ?_)
      refine W.ite (p := ((c : Nat) : Int) = (110 : Int)) rfl (fun c65 => ?_) (fun c65 => ?_)
      · skip
        refine W.region ?_
        refine WL.op rfl (d_move rfl ?_)
        refine WL.op rfl (d_cmp (decide (((k : Nat) : Int) = (10 : Int))) rfl rfl rfl ?_)
        refine WL.op rfl (d_assign rfl ?_)
        refine WL.done (X.block_normal ?_)
        exact X.cut [10, 5, 4, 3, 2, 0] (Γ' := [(10, .bool (decide (((k : Nat) : Int) = (10 : Int)))), (5, .int .i64 ((k : Nat) : Int)), (4, .pointer (some ⟨w1.heap.size, 0, none⟩)), (3, .bool false), (2, .pointer (some ⟨w.heap.size, 0, none⟩)), (0, .int .i64 ((c : Nat) : Int))]) rfl ⟨decide (((k : Nat) : Int) = (10 : Int)), rfl, H5, (by rw [show inB c k = (decide (k = 10)) by unfold inB; rw [if_pos (by omega)]]; all_goals (first | rfl | (simp_all; done) | (rw [Bool.eq_iff_iff]; simp only [Bool.or_eq_true, Bool.and_eq_true, Bool.not_eq_true', decide_eq_true_eq, decide_eq_false_iff_not, ne_eq]; first | omega | (simp_all; omega))))⟩
      · skip
        refine W.seq ?_
        refine W.region ?_
        refine WL.op rfl (d_cmp (decide (((c : Nat) : Int) = (116 : Int))) rfl rfl rfl ?_)
        refine WL.op rfl (d_assign rfl ?_)
        refine WL.done (X.then_code ?_)
        refine W.ite (p := ((c : Nat) : Int) = (116 : Int)) rfl (fun c67 => ?_) (fun c67 => ?_)
        · skip
          refine W.region ?_
          refine WL.op rfl (d_move rfl ?_)
          refine WL.op rfl (d_cmp (decide (((k : Nat) : Int) = (9 : Int))) rfl rfl rfl ?_)
          refine WL.op rfl (d_assign rfl ?_)
          refine WL.done (X.block_normal ?_)
          exact X.cut [10, 5, 4, 3, 2, 0] (Γ' := [(10, .bool (decide (((k : Nat) : Int) = (9 : Int)))), (5, .int .i64 ((k : Nat) : Int)), (4, .pointer (some ⟨w1.heap.size, 0, none⟩)), (3, .bool false), (2, .pointer (some ⟨w.heap.size, 0, none⟩)), (0, .int .i64 ((c : Nat) : Int))]) rfl ⟨decide (((k : Nat) : Int) = (9 : Int)), rfl, H5, (by rw [show inB c k = (decide (k = 9)) by unfold inB; rw [if_neg (by omega), if_pos (by omega)]]; all_goals (first | rfl | (simp_all; done) | (rw [Bool.eq_iff_iff]; simp only [Bool.or_eq_true, Bool.and_eq_true, Bool.not_eq_true', decide_eq_true_eq, decide_eq_false_iff_not, ne_eq]; first | omega | (simp_all; omega))))⟩
        · skip
          refine W.seq ?_
          refine W.region ?_
          refine WL.op rfl (d_cmp (decide (((c : Nat) : Int) = (114 : Int))) rfl rfl rfl ?_)
          refine WL.op rfl (d_assign rfl ?_)
          refine WL.done (X.then_code ?_)
          refine W.ite (p := ((c : Nat) : Int) = (114 : Int)) rfl (fun c69 => ?_) (fun c69 => ?_)
          · skip
            refine W.region ?_
            refine WL.op rfl (d_move rfl ?_)
            refine WL.op rfl (d_cmp (decide (((k : Nat) : Int) = (13 : Int))) rfl rfl rfl ?_)
            refine WL.op rfl (d_assign rfl ?_)
            refine WL.done (X.block_normal ?_)
            exact X.cut [10, 5, 4, 3, 2, 0] (Γ' := [(10, .bool (decide (((k : Nat) : Int) = (13 : Int)))), (5, .int .i64 ((k : Nat) : Int)), (4, .pointer (some ⟨w1.heap.size, 0, none⟩)), (3, .bool false), (2, .pointer (some ⟨w.heap.size, 0, none⟩)), (0, .int .i64 ((c : Nat) : Int))]) rfl ⟨decide (((k : Nat) : Int) = (13 : Int)), rfl, H5, (by rw [show inB c k = (decide (k = 13)) by unfold inB; rw [if_neg (by omega), if_neg (by omega), if_pos (by omega)]]; all_goals (first | rfl | (simp_all; done) | (rw [Bool.eq_iff_iff]; simp only [Bool.or_eq_true, Bool.and_eq_true, Bool.not_eq_true', decide_eq_true_eq, decide_eq_false_iff_not, ne_eq]; first | omega | (simp_all; omega))))⟩
          · skip
            refine W.seq ?_
            refine W.region ?_
            refine WL.op rfl (d_cmp (decide (((c : Nat) : Int) = (100 : Int))) rfl rfl rfl ?_)
            refine WL.op rfl (d_assign rfl ?_)
            refine WL.done (X.then_code ?_)
            refine W.pick [45, 25, 8, 6, 5, 4, 3, 2, 0] (Γ' := [(45, .bool (decide (((c : Nat) : Int) = (100 : Int)))), (25, .int .i64 ((c : Nat) : Int)), (8, .bool (isB ⟨#[115, 112, 97, 99, 101]⟩ k)), (6, .bool (isB ⟨#[97, 108, 110, 117, 109]⟩ k)), (5, .int .i64 ((k : Nat) : Int)), (4, .pointer (some ⟨w1.heap.size, 0, none⟩)), (3, .bool false), (2, .pointer (some ⟨w.heap.size, 0, none⟩)), (0, .int .i64 ((c : Nat) : Int))]) rfl ?_
            refine W.ite (p := ((c : Nat) : Int) = (100 : Int)) rfl (fun c71 => ?_) (fun c71 => ?_)
            · skip
              refine W.region ?_
              refine WL.op rfl (d_move rfl ?_)
              refine WL.op rfl (d_call ok30 rfl (Ret.calls (di_any k w5  ) fun _ w6 p3 => ?_))
              obtain ⟨rfl, u5⟩ := p3
              have H6 : UpG w [] w6 [[blk w.heap.size #[.int .u64 ((Bs.zero.w0.toNat : Nat) : Int), .int .u64 ((Bs.zero.w1.toNat : Nat) : Int), .int .u64 ((Bs.zero.w2.toNat : Nat) : Int), .int .u64 ((Bs.zero.w3.toNat : Nat) : Int)] 24], [blk w1.heap.size #[.int .u64 ((r.w0.toNat : Nat) : Int), .int .u64 ((r.w1.toNat : Nat) : Int), .int .u64 ((r.w2.toNat : Nat) : Int), .int .u64 ((r.w3.toNat : Nat) : Int)] 24]] := H5.call u5
              refine WL.op rfl (d_assign rfl ?_)
              refine WL.done (X.block_normal ?_)
              exact X.cut [10, 5, 4, 3, 2, 0] (Γ' := [(10, .bool (diN k)), (5, .int .i64 ((k : Nat) : Int)), (4, .pointer (some ⟨w1.heap.size, 0, none⟩)), (3, .bool false), (2, .pointer (some ⟨w.heap.size, 0, none⟩)), (0, .int .i64 ((c : Nat) : Int))]) rfl ⟨diN k, rfl, H6, (by rw [show inB c k = (diN k) by unfold inB; rw [if_neg (by omega), if_neg (by omega), if_neg (by omega), if_pos (by omega)]]; all_goals (first | rfl | (simp_all; done) | (rw [Bool.eq_iff_iff]; simp only [Bool.or_eq_true, Bool.and_eq_true, Bool.not_eq_true', decide_eq_true_eq, decide_eq_false_iff_not, ne_eq]; first | omega | (simp_all; omega))))⟩
            · skip
              refine W.seq ?_
              refine W.region ?_
              refine WL.op rfl (d_cmp (decide (((c : Nat) : Int) = (68 : Int))) rfl rfl rfl ?_)
              refine WL.op rfl (d_assign rfl ?_)
              refine WL.done (X.then_code ?_)
              refine W.ite (p := ((c : Nat) : Int) = (68 : Int)) rfl (fun c73 => ?_) (fun c73 => ?_)
              · skip
                refine W.region ?_
                refine WL.op rfl (d_move rfl ?_)
                refine WL.op rfl (d_call ok30 rfl (Ret.calls (di_any k w5  ) fun _ w7 p4 => ?_))
                obtain ⟨rfl, u6⟩ := p4
                have H7 : UpG w [] w7 [[blk w.heap.size #[.int .u64 ((Bs.zero.w0.toNat : Nat) : Int), .int .u64 ((Bs.zero.w1.toNat : Nat) : Int), .int .u64 ((Bs.zero.w2.toNat : Nat) : Int), .int .u64 ((Bs.zero.w3.toNat : Nat) : Int)] 24], [blk w1.heap.size #[.int .u64 ((r.w0.toNat : Nat) : Int), .int .u64 ((r.w1.toNat : Nat) : Int), .int .u64 ((r.w2.toNat : Nat) : Int), .int .u64 ((r.w3.toNat : Nat) : Int)] 24]] := H5.call u6
                refine WL.op rfl (d_notB rfl ?_)
                refine WL.op rfl (d_assign rfl ?_)
                refine WL.done (X.block_normal ?_)
                exact X.cut [10, 5, 4, 3, 2, 0] (Γ' := [(10, .bool (!(diN k))), (5, .int .i64 ((k : Nat) : Int)), (4, .pointer (some ⟨w1.heap.size, 0, none⟩)), (3, .bool false), (2, .pointer (some ⟨w.heap.size, 0, none⟩)), (0, .int .i64 ((c : Nat) : Int))]) rfl ⟨!(diN k), rfl, H7, (by rw [show inB c k = (!diN k) by unfold inB; rw [if_neg (by omega), if_neg (by omega), if_neg (by omega), if_neg (by omega), if_pos (by omega)]]; all_goals (first | rfl | (simp_all; done) | (rw [Bool.eq_iff_iff]; simp only [Bool.or_eq_true, Bool.and_eq_true, Bool.not_eq_true', decide_eq_true_eq, decide_eq_false_iff_not, ne_eq]; first | omega | (simp_all; omega))))⟩
              · skip
                refine W.seq ?_
                refine W.region ?_
                refine WL.op rfl (d_cmp (decide (((c : Nat) : Int) = (115 : Int))) rfl rfl rfl ?_)
                refine WL.op rfl (d_assign rfl ?_)
                refine WL.done (X.then_code ?_)
                refine W.ite (p := ((c : Nat) : Int) = (115 : Int)) rfl (fun c75 => ?_) (fun c75 => ?_)
                · skip
                  refine W.region ?_
                  refine WL.op rfl (d_move rfl ?_)
                  refine WL.op rfl (d_assign rfl ?_)
                  refine WL.done (X.block_normal ?_)
                  exact X.cut [10, 5, 4, 3, 2, 0] (Γ' := [(10, .bool (isB ⟨#[115, 112, 97, 99, 101]⟩ k)), (5, .int .i64 ((k : Nat) : Int)), (4, .pointer (some ⟨w1.heap.size, 0, none⟩)), (3, .bool false), (2, .pointer (some ⟨w.heap.size, 0, none⟩)), (0, .int .i64 ((c : Nat) : Int))]) rfl ⟨isB ⟨#[115, 112, 97, 99, 101]⟩ k, rfl, H5, (by rw [show inB c k = (isB ⟨#[115, 112, 97, 99, 101]⟩ k) by unfold inB; rw [if_neg (by omega), if_neg (by omega), if_neg (by omega), if_neg (by omega), if_neg (by omega), if_pos (by omega)]]; all_goals (first | rfl | (simp_all; done) | (rw [Bool.eq_iff_iff]; simp only [Bool.or_eq_true, Bool.and_eq_true, Bool.not_eq_true', decide_eq_true_eq, decide_eq_false_iff_not, ne_eq]; first | omega | (simp_all; omega))))⟩
                · skip
                  refine W.seq ?_
                  refine W.region ?_
                  refine WL.op rfl (d_cmp (decide (((c : Nat) : Int) = (83 : Int))) rfl rfl rfl ?_)
                  refine WL.op rfl (d_assign rfl ?_)
                  refine WL.done (X.then_code ?_)
                  refine W.ite (p := ((c : Nat) : Int) = (83 : Int)) rfl (fun c77 => ?_) (fun c77 => ?_)
                  · skip
                    refine W.region ?_
                    refine WL.op rfl (d_move rfl ?_)
                    refine WL.op rfl (d_notB rfl ?_)
                    refine WL.op rfl (d_assign rfl ?_)
                    refine WL.done (X.block_normal ?_)
                    exact X.cut [10, 5, 4, 3, 2, 0] (Γ' := [(10, .bool (!(isB ⟨#[115, 112, 97, 99, 101]⟩ k))), (5, .int .i64 ((k : Nat) : Int)), (4, .pointer (some ⟨w1.heap.size, 0, none⟩)), (3, .bool false), (2, .pointer (some ⟨w.heap.size, 0, none⟩)), (0, .int .i64 ((c : Nat) : Int))]) rfl ⟨!(isB ⟨#[115, 112, 97, 99, 101]⟩ k), rfl, H5, (by rw [show inB c k = (!isB ⟨#[115, 112, 97, 99, 101]⟩ k) by unfold inB; rw [if_neg (by omega), if_neg (by omega), if_neg (by omega), if_neg (by omega), if_neg (by omega), if_neg (by omega), if_pos (by omega)]]; all_goals (first | rfl | (simp_all; done) | (rw [Bool.eq_iff_iff]; simp only [Bool.or_eq_true, Bool.and_eq_true, Bool.not_eq_true', decide_eq_true_eq, decide_eq_false_iff_not, ne_eq]; first | omega | (simp_all; omega))))⟩
                  · skip
                    refine W.seq ?_
                    refine W.region ?_
                    refine WL.op rfl (d_cmp (decide (((c : Nat) : Int) = (119 : Int))) rfl rfl rfl ?_)
                    refine WL.op rfl (d_assign rfl ?_)
                    refine WL.done (X.then_code ?_)
                    refine W.ite (p := ((c : Nat) : Int) = (119 : Int)) rfl (fun c79 => ?_) (fun c79 => ?_)
                    · skip
                      refine W.region ?_
                      refine WL.op rfl (d_move rfl ?_)
                      refine WL.op rfl (d_move rfl ?_)
                      refine WL.partB 64 (b := isB ⟨#[97, 108, 110, 117, 109]⟩ k) rfl (fun g80 => ?_) (fun g80 => ?_)
                      · skip
                        refine WL.opN rfl rfl rfl rfl ?_
                        refine WL.opN rfl rfl rfl rfl ?_
                        refine WL.op rfl (d_pick rfl rfl ?_)
                        refine WL.op rfl (d_assign rfl ?_)
                        refine WL.done (X.block_normal ?_)
                        exact X.cut [10, 5, 4, 3, 2, 0] (Γ' := [(10, .bool true), (5, .int .i64 ((k : Nat) : Int)), (4, .pointer (some ⟨w1.heap.size, 0, none⟩)), (3, .bool false), (2, .pointer (some ⟨w.heap.size, 0, none⟩)), (0, .int .i64 ((c : Nat) : Int))]) rfl ⟨true, rfl, H5, (by rw [show inB c k = (isB ⟨#[97, 108, 110, 117, 109]⟩ k || decide (k = 95)) by unfold inB; rw [if_neg (by omega), if_neg (by omega), if_neg (by omega), if_neg (by omega), if_neg (by omega), if_neg (by omega), if_neg (by omega), if_pos (by omega)]]; all_goals (first | rfl | (simp_all; done) | (rw [Bool.eq_iff_iff]; simp only [Bool.or_eq_true, Bool.and_eq_true, Bool.not_eq_true', decide_eq_true_eq, decide_eq_false_iff_not, ne_eq]; first | omega | (simp_all; omega))))⟩
                      · skip
                        refine WL.opG rfl rfl rfl (d_move rfl ?_)
                        refine WL.opG rfl rfl rfl (d_cmp (decide (((k : Nat) : Int) = (95 : Int))) rfl rfl rfl ?_)
                        refine WL.op rfl (d_pick rfl rfl ?_)
                        refine WL.op rfl (d_assign rfl ?_)
                        refine WL.done (X.block_normal ?_)
                        exact X.cut [10, 5, 4, 3, 2, 0] (Γ' := [(10, .bool (decide (((k : Nat) : Int) = (95 : Int)))), (5, .int .i64 ((k : Nat) : Int)), (4, .pointer (some ⟨w1.heap.size, 0, none⟩)), (3, .bool false), (2, .pointer (some ⟨w.heap.size, 0, none⟩)), (0, .int .i64 ((c : Nat) : Int))]) rfl ⟨decide (((k : Nat) : Int) = (95 : Int)), rfl, H5, (by rw [show inB c k = (isB ⟨#[97, 108, 110, 117, 109]⟩ k || decide (k = 95)) by unfold inB; rw [if_neg (by omega), if_neg (by omega), if_neg (by omega), if_neg (by omega), if_neg (by omega), if_neg (by omega), if_neg (by omega), if_pos (by omega)]]; all_goals (first | rfl | (simp_all; done) | (rw [Bool.eq_iff_iff]; simp only [Bool.or_eq_true, Bool.and_eq_true, Bool.not_eq_true', decide_eq_true_eq, decide_eq_false_iff_not, ne_eq]; first | omega | (simp_all; omega))))⟩
                    · skip
                      refine W.seq ?_
                      refine W.region ?_
                      refine WL.op rfl (d_cmp (decide (((c : Nat) : Int) = (87 : Int))) rfl rfl rfl ?_)
                      refine WL.op rfl (d_assign rfl ?_)
                      refine WL.done (X.then_code ?_)
                      refine W.ite (p := ((c : Nat) : Int) = (87 : Int)) rfl (fun c81 => ?_) (fun c81 => ?_)
                      · skip
                        refine W.region ?_
                        refine WL.op rfl (d_move rfl ?_)
                        refine WL.op rfl (d_notB rfl ?_)
                        refine WL.op rfl (d_move rfl ?_)
                        refine WL.partB 72 (b := !(isB ⟨#[97, 108, 110, 117, 109]⟩ k)) rfl (fun g82 => ?_) (fun g82 => ?_)
                        · skip
                          refine WL.opG rfl rfl rfl (d_move rfl ?_)
                          refine WL.opG rfl rfl rfl (d_cmp (decide (((k : Nat) : Int) ≠ (95 : Int))) rfl rfl rfl ?_)
                          refine WL.op rfl (d_pick rfl rfl ?_)
                          refine WL.op rfl (d_assign rfl ?_)
                          refine WL.done (X.block_normal ?_)
                          exact X.cut [10, 5, 4, 3, 2, 0] (Γ' := [(10, .bool (decide (((k : Nat) : Int) ≠ (95 : Int)))), (5, .int .i64 ((k : Nat) : Int)), (4, .pointer (some ⟨w1.heap.size, 0, none⟩)), (3, .bool false), (2, .pointer (some ⟨w.heap.size, 0, none⟩)), (0, .int .i64 ((c : Nat) : Int))]) rfl ⟨decide (((k : Nat) : Int) ≠ (95 : Int)), rfl, H5, (by rw [show inB c k = (!isB ⟨#[97, 108, 110, 117, 109]⟩ k && decide (k ≠ 95)) by unfold inB; rw [if_neg (by omega), if_neg (by omega), if_neg (by omega), if_neg (by omega), if_neg (by omega), if_neg (by omega), if_neg (by omega), if_neg (by omega), if_pos (by omega)]]; all_goals (first | rfl | (simp_all; done) | (rw [Bool.eq_iff_iff]; simp only [Bool.or_eq_true, Bool.and_eq_true, Bool.not_eq_true', decide_eq_true_eq, decide_eq_false_iff_not, ne_eq]; first | omega | (simp_all; omega))))⟩
                        · skip
                          refine WL.opN rfl rfl rfl rfl ?_
                          refine WL.opN rfl rfl rfl rfl ?_
                          refine WL.op rfl (d_pick rfl rfl ?_)
                          refine WL.op rfl (d_assign rfl ?_)
                          refine WL.done (X.block_normal ?_)
                          exact X.cut [10, 5, 4, 3, 2, 0] (Γ' := [(10, .bool false), (5, .int .i64 ((k : Nat) : Int)), (4, .pointer (some ⟨w1.heap.size, 0, none⟩)), (3, .bool false), (2, .pointer (some ⟨w.heap.size, 0, none⟩)), (0, .int .i64 ((c : Nat) : Int))]) rfl ⟨false, rfl, H5, (by rw [show inB c k = (!isB ⟨#[97, 108, 110, 117, 109]⟩ k && decide (k ≠ 95)) by unfold inB; rw [if_neg (by omega), if_neg (by omega), if_neg (by omega), if_neg (by omega), if_neg (by omega), if_neg (by omega), if_neg (by omega), if_neg (by omega), if_pos (by omega)]]; all_goals (first | rfl | (simp_all; done) | (rw [Bool.eq_iff_iff]; simp only [Bool.or_eq_true, Bool.and_eq_true, Bool.not_eq_true', decide_eq_true_eq, decide_eq_false_iff_not, ne_eq]; first | omega | (simp_all; omega))))⟩
                      · skip
                        refine W.region ?_
                        refine WL.op rfl (d_move rfl ?_)
                        refine WL.op rfl (d_move rfl ?_)
                        refine WL.op rfl (d_cmp (decide (((k : Nat) : Int) = ((c : Nat) : Int))) rfl rfl rfl ?_)
                        refine WL.op rfl (d_move rfl ?_)
                        refine WL.part 29 (p := ((k : Nat) : Int) = ((c : Nat) : Int)) rfl (fun g84 => ?_) (fun g84 => ?_)
                        · skip
                          refine WL.opG rfl rfl rfl (d_move rfl ?_)
                          refine WL.opG rfl rfl rfl (d_notB rfl ?_)
                          refine WL.op rfl (d_pick rfl rfl ?_)
                          refine WL.op rfl (d_assign rfl ?_)
                          refine WL.done (X.block_normal ?_)
                          exact X.cut [10, 5, 4, 3, 2, 0] (Γ' := [(10, .bool (!(isB ⟨#[97, 108, 110, 117, 109]⟩ k))), (5, .int .i64 ((k : Nat) : Int)), (4, .pointer (some ⟨w1.heap.size, 0, none⟩)), (3, .bool false), (2, .pointer (some ⟨w.heap.size, 0, none⟩)), (0, .int .i64 ((c : Nat) : Int))]) rfl ⟨!(isB ⟨#[97, 108, 110, 117, 109]⟩ k), rfl, H5, (by rw [show inB c k = (decide (k = c) && !isB ⟨#[97, 108, 110, 117, 109]⟩ k) by unfold inB; rw [if_neg (by omega), if_neg (by omega), if_neg (by omega), if_neg (by omega), if_neg (by omega), if_neg (by omega), if_neg (by omega), if_neg (by omega), if_neg (by omega)]]; all_goals (first | rfl | (simp_all; done) | (rw [Bool.eq_iff_iff]; simp only [Bool.or_eq_true, Bool.and_eq_true, Bool.not_eq_true', decide_eq_true_eq, decide_eq_false_iff_not, ne_eq]; first | omega | (simp_all; omega))))⟩
                        · skip
                          refine WL.opN rfl rfl rfl rfl ?_
                          refine WL.opN rfl rfl rfl rfl ?_
                          refine WL.op rfl (d_pick rfl rfl ?_)
                          refine WL.op rfl (d_assign rfl ?_)
                          refine WL.done (X.block_normal ?_)
                          exact X.cut [10, 5, 4, 3, 2, 0] (Γ' := [(10, .bool false), (5, .int .i64 ((k : Nat) : Int)), (4, .pointer (some ⟨w1.heap.size, 0, none⟩)), (3, .bool false), (2, .pointer (some ⟨w.heap.size, 0, none⟩)), (0, .int .i64 ((c : Nat) : Int))]) rfl ⟨false, rfl, H5, (by rw [show inB c k = (decide (k = c) && !isB ⟨#[97, 108, 110, 117, 109]⟩ k) by unfold inB; rw [if_neg (by omega), if_neg (by omega), if_neg (by omega), if_neg (by omega), if_neg (by omega), if_neg (by omega), if_neg (by omega), if_neg (by omega), if_neg (by omega)]]; all_goals (first | rfl | (simp_all; done) | (rw [Bool.eq_iff_iff]; simp only [Bool.or_eq_true, Bool.and_eq_true, Bool.not_eq_true', decide_eq_true_eq, decide_eq_false_iff_not, ne_eq]; first | omega | (simp_all; omega))))⟩
    rintro Γ2 w8 ⟨q, rfl, H8, hq⟩
    refine W.seq ?_
    refine W.region ?_
    refine WL.op rfl (d_move rfl ?_)
    refine WL.done (X.then_code ?_)
    refine W.iteB (b := q) rfl (fun c86 => ?_) (fun c86 => ?_)
    · skip
      refine W.region ?_
      refine WL.op rfl (d_loadAB [.int .u64 ((r.w0.toNat : Nat) : Int), .int .u64 ((r.w1.toNat : Nat) : Int), .int .u64 ((r.w2.toNat : Nat) : Int), .int .u64 ((r.w3.toNat : Nat) : Int)] Tryd.underlying24 rfl sz24 rfl (H8.blk 1 rfl) rfl rfl ?_)
      refine WL.op rfl (d_move rfl ?_)
      refine WL.op rfl (d_call ok24 rfl (Ret.calls (put1_any r ((k : Nat) : Int) k w8  (by omega) (by omega)) fun _ w9 p5 => ?_))
      obtain ⟨rfl, u7⟩ := p5
      have H9 : UpG w [] w9 [[blk w.heap.size #[.int .u64 ((Bs.zero.w0.toNat : Nat) : Int), .int .u64 ((Bs.zero.w1.toNat : Nat) : Int), .int .u64 ((Bs.zero.w2.toNat : Nat) : Int), .int .u64 ((Bs.zero.w3.toNat : Nat) : Int)] 24], [blk w1.heap.size #[.int .u64 ((r.w0.toNat : Nat) : Int), .int .u64 ((r.w1.toNat : Nat) : Int), .int .u64 ((r.w2.toNat : Nat) : Int), .int .u64 ((r.w3.toNat : Nat) : Int)] 24]] := H8.call u7
      refine WL.op0 (d_storeAB (us := [.int .u64 ((((addS r k).w0).toNat : Nat) : Int), .int .u64 ((((addS r k).w1).toNat : Nat) : Int), .int .u64 ((((addS r k).w2).toNat : Nat) : Int), .int .u64 ((((addS r k).w3).toNat : Nat) : Int)]) (cs' := #[.int .u64 ((((addS r k).w0).toNat : Nat) : Int), .int .u64 ((((addS r k).w1).toNat : Nat) : Int), .int .u64 ((((addS r k).w2).toNat : Nat) : Int), .int .u64 ((((addS r k).w3).toNat : Nat) : Int)]) sz24 rfl rfl rfl rfl (H9.blk 1 rfl) rfl rfl fun w10 u8 => ?_)
      have H10 : UpG w [] w10 [[blk w.heap.size #[.int .u64 ((Bs.zero.w0.toNat : Nat) : Int), .int .u64 ((Bs.zero.w1.toNat : Nat) : Int), .int .u64 ((Bs.zero.w2.toNat : Nat) : Int), .int .u64 ((Bs.zero.w3.toNat : Nat) : Int)] 24], [blk w1.heap.size #[.int .u64 ((((addS r k).w0).toNat : Nat) : Int), .int .u64 ((((addS r k).w1).toNat : Nat) : Int), .int .u64 ((((addS r k).w2).toNat : Nat) : Int), .int .u64 ((((addS r k).w3).toNat : Nat) : Int)] 24]] := H9.on 1 rfl u8
      refine WL.done (X.block_normal (X.then_code ?_))
      refine W.region ?_
      refine WL.op rfl (d_move rfl ?_)
      refine WL.op rfl (d_add rfl rfl (by omega) (by omega) ?_)
      refine WL.op rfl (d_assign rfl ?_)
      refine WL.done ?_
      exact X.next [5, 4, 3, 2, 0] (Γ' := [(5, .int .i64 (((k + 1) : Nat) : Int)), (4, .pointer (some ⟨w1.heap.size, 0, none⟩)), (3, .bool false), (2, .pointer (some ⟨w.heap.size, 0, none⟩)), (0, .int .i64 ((c : Nat) : Int))]) rfl (256 - (k + 1)) (by omega) ⟨k + 1, (addS r k), rfl, H10, (by first | assumption | omega | simp), (by first | exact put_yes (by omega) (by rw [← hq]; exact c86) hr | exact put_no (by rw [← hq]; simpa using c86) hr), rfl⟩
    · skip
      refine W.skip (X.block_normal (X.then_code ?_))
      refine W.region ?_
      refine WL.op rfl (d_move rfl ?_)
      refine WL.op rfl (d_add rfl rfl (by omega) (by omega) ?_)
      refine WL.op rfl (d_assign rfl ?_)
      refine WL.done ?_
      exact X.next [5, 4, 3, 2, 0] (Γ' := [(5, .int .i64 (((k + 1) : Nat) : Int)), (4, .pointer (some ⟨w1.heap.size, 0, none⟩)), (3, .bool false), (2, .pointer (some ⟨w.heap.size, 0, none⟩)), (0, .int .i64 ((c : Nat) : Int))]) rfl (256 - (k + 1)) (by omega) ⟨k + 1, r, rfl, H8, (by first | assumption | omega | simp), (by first | exact put_yes (by omega) (by rw [← hq]; exact c86) hr | exact put_no (by rw [← hq]; simpa using c86) hr), rfl⟩
  · skip
    refine W.exit (X.then_exit (X.then_exit (X.block_exit (X.then_code ?_))))
    refine W.seq ?_
    refine W.regionD mixed (by kernel_rfl) fun hok1 w11 k1 => ?_
    have H11 : UpG w [] w11 [[blk w.heap.size #[.int .u64 ((Bs.zero.w0.toNat : Nat) : Int), .int .u64 ((Bs.zero.w1.toNat : Nat) : Int), .int .u64 ((Bs.zero.w2.toNat : Nat) : Int), .int .u64 ((Bs.zero.w3.toNat : Nat) : Int)] 24], [blk w1.heap.size #[.int .u64 ((r.w0.toNat : Nat) : Int), .int .u64 ((r.w1.toNat : Nat) : Int), .int .u64 ((r.w2.toNat : Nat) : Int), .int .u64 ((r.w3.toNat : Nat) : Int)] 24]] := H3.kept k1
    refine WD.take hok1 0 (.agg #[.int .u64 ((r.w0.toNat : Nat) : Int), .int .u64 ((r.w1.toNat : Nat) : Int), .int .u64 ((r.w2.toNat : Nat) : Int), .int .u64 ((r.w3.toNat : Nat) : Int)]) (fun w' => w'.heap[w1.heap.size]? = some (.cells #[.int .u64 ((r.w0.toNat : Nat) : Int), .int .u64 ((r.w1.toNat : Nat) : Int), .int .u64 ((r.w2.toNat : Nat) : Int), .int .u64 ((r.w3.toNat : Nat) : Int)] 24 (0, 0))) rfl rfl rfl rfl rfl (H11.blk 1 rfl) (.inl ⟨rfl, fun _ hC => d_loadAB [.int .u64 ((r.w0.toNat : Nat) : Int), .int .u64 ((r.w1.toNat : Nat) : Int), .int .u64 ((r.w2.toNat : Nat) : Int), .int .u64 ((r.w3.toNat : Nat) : Int)] Tryd.underlying24 rfl sz24 rfl hC rfl rfl ⟨rfl, rfl⟩⟩) ?_
    refine WD.take hok1 1 (.agg #[.int .u64 ((r.w0.toNat : Nat) : Int), .int .u64 ((r.w1.toNat : Nat) : Int), .int .u64 ((r.w2.toNat : Nat) : Int), .int .u64 ((r.w3.toNat : Nat) : Int)]) (fun w' => w'.heap[w1.heap.size]? = some (.cells #[.int .u64 ((r.w0.toNat : Nat) : Int), .int .u64 ((r.w1.toNat : Nat) : Int), .int .u64 ((r.w2.toNat : Nat) : Int), .int .u64 ((r.w3.toNat : Nat) : Int)] 24 (0, 0))) rfl rfl rfl rfl rfl (H11.blk 1 rfl) (.inl ⟨rfl, fun _ hC => d_loadAB [.int .u64 ((r.w0.toNat : Nat) : Int), .int .u64 ((r.w1.toNat : Nat) : Int), .int .u64 ((r.w2.toNat : Nat) : Int), .int .u64 ((r.w3.toNat : Nat) : Int)] Tryd.underlying24 rfl sz24 rfl hC rfl rfl ⟨rfl, rfl⟩⟩) ?_
    refine WD.take hok1 2 (.agg #[.int .u64 ((Bs.zero.w0.toNat : Nat) : Int), .int .u64 ((Bs.zero.w1.toNat : Nat) : Int), .int .u64 ((Bs.zero.w2.toNat : Nat) : Int), .int .u64 ((Bs.zero.w3.toNat : Nat) : Int)]) (fun _ => True) rfl rfl rfl rfl rfl trivial (.inl ⟨rfl, fun _ _ => d_build (cs := #[.int .u64 ((Bs.zero.w0.toNat : Nat) : Int), .int .u64 ((Bs.zero.w1.toNat : Nat) : Int), .int .u64 ((Bs.zero.w2.toNat : Nat) : Int), .int .u64 ((Bs.zero.w3.toNat : Nat) : Int)]) rfl (by kernel_rfl) ⟨rfl, rfl⟩⟩) ?_
    refine WD.take hok1 3 (.bool (decide (r ≠ Bs.zero))) (fun _ => True) rfl rfl rfl rfl rfl trivial (.inl ⟨rfl, fun _ _ => d_bsne r Bs.zero rfl rfl Tryd.underlying24 Tryd.underlying22 sz22 (by kernel_rfl) ⟨rfl, rfl⟩⟩) ?_
    refine WD.loud hok1 4 rfl (⟨_, [⟨3, .bool (decide (r ≠ Bs.zero)), (fun _ => True)⟩, ⟨2, .agg #[.int .u64 ((Bs.zero.w0.toNat : Nat) : Int), .int .u64 ((Bs.zero.w1.toNat : Nat) : Int), .int .u64 ((Bs.zero.w2.toNat : Nat) : Int), .int .u64 ((Bs.zero.w3.toNat : Nat) : Int)], (fun _ => True)⟩, ⟨1, .agg #[.int .u64 ((r.w0.toNat : Nat) : Int), .int .u64 ((r.w1.toNat : Nat) : Int), .int .u64 ((r.w2.toNat : Nat) : Int), .int .u64 ((r.w3.toNat : Nat) : Int)], (fun w' => w'.heap[w1.heap.size]? = some (.cells #[.int .u64 ((r.w0.toNat : Nat) : Int), .int .u64 ((r.w1.toNat : Nat) : Int), .int .u64 ((r.w2.toNat : Nat) : Int), .int .u64 ((r.w3.toNat : Nat) : Int)] 24 (0, 0)))⟩], rfl, rfl, rfl, rfl, rfl, rfl, d_storeAB (us := [.int .u64 ((r.w0.toNat : Nat) : Int), .int .u64 ((r.w1.toNat : Nat) : Int), .int .u64 ((r.w2.toNat : Nat) : Int), .int .u64 ((r.w3.toNat : Nat) : Int)]) (cs' := #[.int .u64 ((r.w0.toNat : Nat) : Int), .int .u64 ((r.w1.toNat : Nat) : Int), .int .u64 ((r.w2.toNat : Nat) : Int), .int .u64 ((r.w3.toNat : Nat) : Int)]) sz24 rfl rfl rfl rfl (H11.blk 0 rfl) rfl rfl fun w12 u9 => ?_⟩)
    have H12 : UpG w [] w12 [[blk w.heap.size #[.int .u64 ((r.w0.toNat : Nat) : Int), .int .u64 ((r.w1.toNat : Nat) : Int), .int .u64 ((r.w2.toNat : Nat) : Int), .int .u64 ((r.w3.toNat : Nat) : Int)] 24], [blk w1.heap.size #[.int .u64 ((r.w0.toNat : Nat) : Int), .int .u64 ((r.w1.toNat : Nat) : Int), .int .u64 ((r.w2.toNat : Nat) : Int), .int .u64 ((r.w3.toNat : Nat) : Int)] 24]] := H11.on 0 rfl u9
    refine ⟨⟨trivial, trivial, (H12.blk 1 rfl), trivial⟩, ?_⟩
    refine WD.take hok1 5 (.bool (decide (r ≠ Bs.zero))) (fun _ => True) rfl rfl rfl rfl rfl trivial (.inl ⟨rfl, fun _ _ => d_assign rfl ⟨rfl, rfl⟩⟩) ?_
    refine WD.done hok1 rfl (X.then_code ?_)
    refine W.ret (X.retR2 rfl (rv_cellA [.int .u64 ((r.w0.toNat : Nat) : Int), .int .u64 ((r.w1.toNat : Nat) : Int), .int .u64 ((r.w2.toNat : Nat) : Int), .int .u64 ((r.w3.toNat : Nat) : Int)] Tryd.underlying24 rfl sz24 rfl (H12.blk 0 rfl) rfl rfl) (rv_tmp rfl) ?_)
    have e : r = setOf (inB c) := eq_setOf fun x hx => by rw [hr x hx, decide_eq_true (by omega), Bool.true_and]
    exact ⟨(by rw [e]), H12.noneL⟩

set_option maxRecDepth 20000 in
theorem rfold_any (s : Bs) (w : World) :
    Calls Tryd.prog 8 #[.agg #[.int .u64 ((s.w0.toNat : Nat) : Int), .int .u64 ((s.w1.toNat : Nat) : Int), .int .u64 ((s.w2.toNat : Nat) : Int), .int .u64 ((s.w3.toNat : Nat) : Int)]] w (Ret fun v w' => v = .agg #[.int .u64 ((((foldR s).w0).toNat : Nat) : Int), .int .u64 ((((foldR s).w1).toNat : Nat) : Int), .int .u64 ((((foldR s).w2).toNat : Nat) : Int), .int .u64 ((((foldR s).w3).toNat : Nat) : Int)] ∧ Upd w [] w' []) := by
  refine calls_of_W (args := [.agg #[.int .u64 ((s.w0.toNat : Nat) : Int), .int .u64 ((s.w1.toNat : Nat) : Int), .int .u64 ((s.w2.toNat : Nat) : Int), .int .u64 ((s.w3.toNat : Nat) : Int)]]) Tryd.func8 rfl rfl rfl ?_
  have H0 : UpG w [] w [] := UpG.nil w
  show W _ _ _ _ [(0, .agg #[.int .u64 ((s.w0.toNat : Nat) : Int), .int .u64 ((s.w1.toNat : Nat) : Int), .int .u64 ((s.w2.toNat : Nat) : Int), .int .u64 ((s.w3.toNat : Nat) : Int)])] w
  refine W.seq ?_
  refine W.region ?_
  refine WL.op rfl (d_box rfl fun w1 u1 => ?_)
  have H1 : UpG w [] w1 [[blk w.heap.size #[.int .u64 ((s.w0.toNat : Nat) : Int), .int .u64 ((s.w1.toNat : Nat) : Int), .int .u64 ((s.w2.toNat : Nat) : Int), .int .u64 ((s.w3.toNat : Nat) : Int)] 24]] := H0.new' u1
  refine WL.op rfl (d_alloc sz24 fun w2 u2 => ?_)
  have H2 : UpG w [] w2 [[blk w.heap.size #[.int .u64 ((s.w0.toNat : Nat) : Int), .int .u64 ((s.w1.toNat : Nat) : Int), .int .u64 ((s.w2.toNat : Nat) : Int), .int .u64 ((s.w3.toNat : Nat) : Int)] 24], [blk w1.heap.size #[.int .u64 ((Bs.zero.w0.toNat : Nat) : Int), .int .u64 ((Bs.zero.w1.toNat : Nat) : Int), .int .u64 ((Bs.zero.w2.toNat : Nat) : Int), .int .u64 ((Bs.zero.w3.toNat : Nat) : Int)] 24]] := H1.new' u2
  refine WL.done (X.then_code ?_)
  refine W.seq ?_
  refine W.region ?_
  refine WL.op rfl (d_loadAB [.int .u64 ((s.w0.toNat : Nat) : Int), .int .u64 ((s.w1.toNat : Nat) : Int), .int .u64 ((s.w2.toNat : Nat) : Int), .int .u64 ((s.w3.toNat : Nat) : Int)] Tryd.underlying24 rfl sz24 rfl (H2.blk 0 rfl) rfl rfl ?_)
  refine WL.op rfl (d_alloc sz24 fun w3 u3 => ?_)
  have H3 : UpG w [] w3 [[blk w.heap.size #[.int .u64 ((s.w0.toNat : Nat) : Int), .int .u64 ((s.w1.toNat : Nat) : Int), .int .u64 ((s.w2.toNat : Nat) : Int), .int .u64 ((s.w3.toNat : Nat) : Int)] 24], [blk w1.heap.size #[.int .u64 ((Bs.zero.w0.toNat : Nat) : Int), .int .u64 ((Bs.zero.w1.toNat : Nat) : Int), .int .u64 ((Bs.zero.w2.toNat : Nat) : Int), .int .u64 ((Bs.zero.w3.toNat : Nat) : Int)] 24], [blk w2.heap.size #[.int .u64 ((Bs.zero.w0.toNat : Nat) : Int), .int .u64 ((Bs.zero.w1.toNat : Nat) : Int), .int .u64 ((Bs.zero.w2.toNat : Nat) : Int), .int .u64 ((Bs.zero.w3.toNat : Nat) : Int)] 24]] := H2.new' u3
  refine WL.op0 (d_storeAB (us := [.int .u64 ((s.w0.toNat : Nat) : Int), .int .u64 ((s.w1.toNat : Nat) : Int), .int .u64 ((s.w2.toNat : Nat) : Int), .int .u64 ((s.w3.toNat : Nat) : Int)]) (cs' := #[.int .u64 ((s.w0.toNat : Nat) : Int), .int .u64 ((s.w1.toNat : Nat) : Int), .int .u64 ((s.w2.toNat : Nat) : Int), .int .u64 ((s.w3.toNat : Nat) : Int)]) sz24 rfl rfl rfl rfl (H3.blk 2 rfl) rfl rfl fun w4 u4 => ?_)
  have H4 : UpG w [] w4 [[blk w.heap.size #[.int .u64 ((s.w0.toNat : Nat) : Int), .int .u64 ((s.w1.toNat : Nat) : Int), .int .u64 ((s.w2.toNat : Nat) : Int), .int .u64 ((s.w3.toNat : Nat) : Int)] 24], [blk w1.heap.size #[.int .u64 ((Bs.zero.w0.toNat : Nat) : Int), .int .u64 ((Bs.zero.w1.toNat : Nat) : Int), .int .u64 ((Bs.zero.w2.toNat : Nat) : Int), .int .u64 ((Bs.zero.w3.toNat : Nat) : Int)] 24], [blk w2.heap.size #[.int .u64 ((s.w0.toNat : Nat) : Int), .int .u64 ((s.w1.toNat : Nat) : Int), .int .u64 ((s.w2.toNat : Nat) : Int), .int .u64 ((s.w3.toNat : Nat) : Int)] 24]] := H3.on 2 rfl u4
  refine WL.done (X.then_code ?_)
  refine W.seq ?_
  refine W.seq ?_
  refine W.region ?_
  refine WL.op rfl (d_assign rfl ?_)
  refine WL.done (X.then_code ?_)
  refine W.block ?_
  refine W.pick [4, 3, 2, 1] (Γ' := [(4, .int .i64 0), (3, .pointer (some ⟨w2.heap.size, 0, none⟩)), (2, .pointer (some ⟨w1.heap.size, 0, none⟩)), (1, .pointer (some ⟨w.heap.size, 0, none⟩))]) rfl ?_
  refine W.loop (fun m Γ' w' => ∃ k : Nat, ∃ r : Bs, Γ' = [(4, .int .i64 ((k : Nat) : Int)), (3, .pointer (some ⟨w2.heap.size, 0, none⟩)), (2, .pointer (some ⟨w1.heap.size, 0, none⟩)), (1, .pointer (some ⟨w.heap.size, 0, none⟩))] ∧ UpG w [] w' [[blk w.heap.size #[.int .u64 ((s.w0.toNat : Nat) : Int), .int .u64 ((s.w1.toNat : Nat) : Int), .int .u64 ((s.w2.toNat : Nat) : Int), .int .u64 ((s.w3.toNat : Nat) : Int)] 24], [blk w1.heap.size #[.int .u64 ((Bs.zero.w0.toNat : Nat) : Int), .int .u64 ((Bs.zero.w1.toNat : Nat) : Int), .int .u64 ((Bs.zero.w2.toNat : Nat) : Int), .int .u64 ((Bs.zero.w3.toNat : Nat) : Int)] 24], [blk w2.heap.size #[.int .u64 ((r.w0.toNat : Nat) : Int), .int .u64 ((r.w1.toNat : Nat) : Int), .int .u64 ((r.w2.toNat : Nat) : Int), .int .u64 ((r.w3.toNat : Nat) : Int)] 24]] ∧ (k ≤ 256) ∧ (∀ x, x < 256 → r.has x = foldIn s k x) ∧ m = 256 - k) (256 - 0) ⟨0, s, rfl, H4, (by first | assumption | omega | simp), (by intro x hx; rw [foldIn_0]), rfl⟩ ?_
  rintro m1 Γ1 w5 ⟨k, r, rfl, H5, hk, hr, rfl⟩
  refine W.seq ?_
  refine W.seq ?_
  refine W.region ?_
  refine WL.op rfl (d_move rfl ?_)
  refine WL.op rfl (d_cmp (decide (((k : Nat) : Int) < (256 : Int))) rfl rfl rfl ?_)
  refine WL.done (X.then_code ?_)
  refine W.ite (p := ((k : Nat) : Int) < (256 : Int)) rfl (fun c96 => ?_) (fun c96 => ?_)
  · skip
    refine W.skip (X.then_code ?_)
    refine W.seq ?_
    refine W.block ?_
    refine W.seq ?_
    refine W.seq ?_
    refine W.region ?_
    refine WL.op rfl (d_loadAB [.int .u64 ((s.w0.toNat : Nat) : Int), .int .u64 ((s.w1.toNat : Nat) : Int), .int .u64 ((s.w2.toNat : Nat) : Int), .int .u64 ((s.w3.toNat : Nat) : Int)] Tryd.underlying24 rfl sz24 rfl (H5.blk 0 rfl) rfl rfl ?_)
    refine WL.op rfl (d_move rfl ?_)
    refine WL.op rfl (d_call ok22 rfl (Ret.calls (has1_any s k w5  (by omega)) fun _ w6 p1 => ?_))
    obtain ⟨rfl, u5⟩ := p1
    have H6 : UpG w [] w6 [[blk w.heap.size #[.int .u64 ((s.w0.toNat : Nat) : Int), .int .u64 ((s.w1.toNat : Nat) : Int), .int .u64 ((s.w2.toNat : Nat) : Int), .int .u64 ((s.w3.toNat : Nat) : Int)] 24], [blk w1.heap.size #[.int .u64 ((Bs.zero.w0.toNat : Nat) : Int), .int .u64 ((Bs.zero.w1.toNat : Nat) : Int), .int .u64 ((Bs.zero.w2.toNat : Nat) : Int), .int .u64 ((Bs.zero.w3.toNat : Nat) : Int)] 24], [blk w2.heap.size #[.int .u64 ((r.w0.toNat : Nat) : Int), .int .u64 ((r.w1.toNat : Nat) : Int), .int .u64 ((r.w2.toNat : Nat) : Int), .int .u64 ((r.w3.toNat : Nat) : Int)] 24]] := H5.call u5
    refine WL.op rfl (d_notB rfl ?_)
    refine WL.done (X.then_code ?_)
    refine W.iteB (b := !(s.has k)) rfl (fun c97 => ?_) (fun c97 => ?_)
    · skip
      refine W.exit (X.then_exit (X.block_exit (X.then_code ?_)))
      refine W.region ?_
      refine WL.op rfl (d_move rfl ?_)
      refine WL.op rfl (d_add rfl rfl (by omega) (by omega) ?_)
      refine WL.op rfl (d_assign rfl ?_)
      refine WL.done ?_
      exact X.next [4, 3, 2, 1] (Γ' := [(4, .int .i64 (((k + 1) : Nat) : Int)), (3, .pointer (some ⟨w2.heap.size, 0, none⟩)), (2, .pointer (some ⟨w1.heap.size, 0, none⟩)), (1, .pointer (some ⟨w.heap.size, 0, none⟩))]) rfl (256 - (k + 1)) (by omega) ⟨k + 1, r, rfl, H6, (by first | assumption | omega | simp), (by first | (intro x hx; first | (exfalso; simp only [upN, loN, decide_eq_true_eq] at c100 c103; omega) | (rw [has_addS (by omega) hx, hr x hx, foldIn_lo (by simpa using c97) c103])) | (intro x hx; first | (rw [has_addS (by simp only [upN, decide_eq_true_eq] at c100; omega) hx, hr x hx, foldIn_up (by simpa using c97) c100]; done) | (rw [hr x hx, foldIn_skip (.inr ⟨by simpa using c100, by simpa using c103⟩)])) | (intro x hx; rw [hr x hx, foldIn_skip (.inl (by simpa using c97))])), rfl⟩
    · skip
      refine W.skip (X.then_code ?_)
      refine W.seq ?_
      refine W.seq ?_
      refine W.region ?_
      refine WL.op rfl (d_move rfl ?_)
      refine WL.op rfl (d_call ok23 rfl (Ret.calls (up_any k w6  ) fun _ w7 p2 => ?_))
      obtain ⟨rfl, u6⟩ := p2
      have H7 : UpG w [] w7 [[blk w.heap.size #[.int .u64 ((s.w0.toNat : Nat) : Int), .int .u64 ((s.w1.toNat : Nat) : Int), .int .u64 ((s.w2.toNat : Nat) : Int), .int .u64 ((s.w3.toNat : Nat) : Int)] 24], [blk w1.heap.size #[.int .u64 ((Bs.zero.w0.toNat : Nat) : Int), .int .u64 ((Bs.zero.w1.toNat : Nat) : Int), .int .u64 ((Bs.zero.w2.toNat : Nat) : Int), .int .u64 ((Bs.zero.w3.toNat : Nat) : Int)] 24], [blk w2.heap.size #[.int .u64 ((r.w0.toNat : Nat) : Int), .int .u64 ((r.w1.toNat : Nat) : Int), .int .u64 ((r.w2.toNat : Nat) : Int), .int .u64 ((r.w3.toNat : Nat) : Int)] 24]] := H6.call u6
      refine WL.done (X.then_code ?_)
      refine W.iteB (b := upN k) rfl (fun c100 => ?_) (fun c100 => ?_)
      · skip
        refine W.region ?_
        refine WL.op rfl (d_loadAB [.int .u64 ((r.w0.toNat : Nat) : Int), .int .u64 ((r.w1.toNat : Nat) : Int), .int .u64 ((r.w2.toNat : Nat) : Int), .int .u64 ((r.w3.toNat : Nat) : Int)] Tryd.underlying24 rfl sz24 rfl (H7.blk 2 rfl) rfl rfl ?_)
        refine WL.op rfl (d_move rfl ?_)
        refine WL.op rfl (d_add rfl rfl (by omega) (by omega) ?_)
        refine WL.op rfl (d_call ok24 rfl (Ret.calls (put1_any r (((k : Nat) : Int) + 32) (k + 32) w7  (by omega) (by simp only [upN, decide_eq_true_eq] at c100; omega)) fun _ w8 p3 => ?_))
        obtain ⟨rfl, u7⟩ := p3
        have H8 : UpG w [] w8 [[blk w.heap.size #[.int .u64 ((s.w0.toNat : Nat) : Int), .int .u64 ((s.w1.toNat : Nat) : Int), .int .u64 ((s.w2.toNat : Nat) : Int), .int .u64 ((s.w3.toNat : Nat) : Int)] 24], [blk w1.heap.size #[.int .u64 ((Bs.zero.w0.toNat : Nat) : Int), .int .u64 ((Bs.zero.w1.toNat : Nat) : Int), .int .u64 ((Bs.zero.w2.toNat : Nat) : Int), .int .u64 ((Bs.zero.w3.toNat : Nat) : Int)] 24], [blk w2.heap.size #[.int .u64 ((r.w0.toNat : Nat) : Int), .int .u64 ((r.w1.toNat : Nat) : Int), .int .u64 ((r.w2.toNat : Nat) : Int), .int .u64 ((r.w3.toNat : Nat) : Int)] 24]] := H7.call u7
        refine WL.op0 (d_storeAB (us := [.int .u64 ((((addS r (k + 32)).w0).toNat : Nat) : Int), .int .u64 ((((addS r (k + 32)).w1).toNat : Nat) : Int), .int .u64 ((((addS r (k + 32)).w2).toNat : Nat) : Int), .int .u64 ((((addS r (k + 32)).w3).toNat : Nat) : Int)]) (cs' := #[.int .u64 ((((addS r (k + 32)).w0).toNat : Nat) : Int), .int .u64 ((((addS r (k + 32)).w1).toNat : Nat) : Int), .int .u64 ((((addS r (k + 32)).w2).toNat : Nat) : Int), .int .u64 ((((addS r (k + 32)).w3).toNat : Nat) : Int)]) sz24 rfl rfl rfl rfl (H8.blk 2 rfl) rfl rfl fun w9 u8 => ?_)
        have H9 : UpG w [] w9 [[blk w.heap.size #[.int .u64 ((s.w0.toNat : Nat) : Int), .int .u64 ((s.w1.toNat : Nat) : Int), .int .u64 ((s.w2.toNat : Nat) : Int), .int .u64 ((s.w3.toNat : Nat) : Int)] 24], [blk w1.heap.size #[.int .u64 ((Bs.zero.w0.toNat : Nat) : Int), .int .u64 ((Bs.zero.w1.toNat : Nat) : Int), .int .u64 ((Bs.zero.w2.toNat : Nat) : Int), .int .u64 ((Bs.zero.w3.toNat : Nat) : Int)] 24], [blk w2.heap.size #[.int .u64 ((((addS r (k + 32)).w0).toNat : Nat) : Int), .int .u64 ((((addS r (k + 32)).w1).toNat : Nat) : Int), .int .u64 ((((addS r (k + 32)).w2).toNat : Nat) : Int), .int .u64 ((((addS r (k + 32)).w3).toNat : Nat) : Int)] 24]] := H8.on 2 rfl u8
        refine WL.done (X.then_code ?_)
        refine W.seq ?_
        refine W.region ?_
        refine WL.op rfl (d_move rfl ?_)
        refine WL.op rfl (d_call ok25 rfl (Ret.calls (lo_any k w9  ) fun _ w10 p4 => ?_))
        obtain ⟨rfl, u9⟩ := p4
        have H10 : UpG w [] w10 [[blk w.heap.size #[.int .u64 ((s.w0.toNat : Nat) : Int), .int .u64 ((s.w1.toNat : Nat) : Int), .int .u64 ((s.w2.toNat : Nat) : Int), .int .u64 ((s.w3.toNat : Nat) : Int)] 24], [blk w1.heap.size #[.int .u64 ((Bs.zero.w0.toNat : Nat) : Int), .int .u64 ((Bs.zero.w1.toNat : Nat) : Int), .int .u64 ((Bs.zero.w2.toNat : Nat) : Int), .int .u64 ((Bs.zero.w3.toNat : Nat) : Int)] 24], [blk w2.heap.size #[.int .u64 ((((addS r (k + 32)).w0).toNat : Nat) : Int), .int .u64 ((((addS r (k + 32)).w1).toNat : Nat) : Int), .int .u64 ((((addS r (k + 32)).w2).toNat : Nat) : Int), .int .u64 ((((addS r (k + 32)).w3).toNat : Nat) : Int)] 24]] := H9.call u9
        refine WL.done (X.then_code ?_)
        refine W.iteB (b := loN k) rfl (fun c103 => ?_) (fun c103 => ?_)
        · skip
          refine W.region ?_
          refine WL.op rfl (d_loadAB [.int .u64 ((((addS r (k + 32)).w0).toNat : Nat) : Int), .int .u64 ((((addS r (k + 32)).w1).toNat : Nat) : Int), .int .u64 ((((addS r (k + 32)).w2).toNat : Nat) : Int), .int .u64 ((((addS r (k + 32)).w3).toNat : Nat) : Int)] Tryd.underlying24 rfl sz24 rfl (H10.blk 2 rfl) rfl rfl ?_)
          refine WL.op rfl (d_move rfl ?_)
          refine WL.op rfl (d_sub rfl rfl (by omega) (by omega) ?_)
          refine WL.op rfl (d_call ok24 rfl (Ret.calls (put1_any (addS r (k + 32)) (((k : Nat) : Int) - 32) (k - 32) w10  (by simp only [loN, decide_eq_true_eq] at c103; omega) (by omega)) fun _ w11 p5 => ?_))
          obtain ⟨rfl, u10⟩ := p5
          have H11 : UpG w [] w11 [[blk w.heap.size #[.int .u64 ((s.w0.toNat : Nat) : Int), .int .u64 ((s.w1.toNat : Nat) : Int), .int .u64 ((s.w2.toNat : Nat) : Int), .int .u64 ((s.w3.toNat : Nat) : Int)] 24], [blk w1.heap.size #[.int .u64 ((Bs.zero.w0.toNat : Nat) : Int), .int .u64 ((Bs.zero.w1.toNat : Nat) : Int), .int .u64 ((Bs.zero.w2.toNat : Nat) : Int), .int .u64 ((Bs.zero.w3.toNat : Nat) : Int)] 24], [blk w2.heap.size #[.int .u64 ((((addS r (k + 32)).w0).toNat : Nat) : Int), .int .u64 ((((addS r (k + 32)).w1).toNat : Nat) : Int), .int .u64 ((((addS r (k + 32)).w2).toNat : Nat) : Int), .int .u64 ((((addS r (k + 32)).w3).toNat : Nat) : Int)] 24]] := H10.call u10
          refine WL.op0 (d_storeAB (us := [.int .u64 ((((addS (addS r (k + 32)) (k - 32)).w0).toNat : Nat) : Int), .int .u64 ((((addS (addS r (k + 32)) (k - 32)).w1).toNat : Nat) : Int), .int .u64 ((((addS (addS r (k + 32)) (k - 32)).w2).toNat : Nat) : Int), .int .u64 ((((addS (addS r (k + 32)) (k - 32)).w3).toNat : Nat) : Int)]) (cs' := #[.int .u64 ((((addS (addS r (k + 32)) (k - 32)).w0).toNat : Nat) : Int), .int .u64 ((((addS (addS r (k + 32)) (k - 32)).w1).toNat : Nat) : Int), .int .u64 ((((addS (addS r (k + 32)) (k - 32)).w2).toNat : Nat) : Int), .int .u64 ((((addS (addS r (k + 32)) (k - 32)).w3).toNat : Nat) : Int)]) sz24 rfl rfl rfl rfl (H11.blk 2 rfl) rfl rfl fun w12 u11 => ?_)
          have H12 : UpG w [] w12 [[blk w.heap.size #[.int .u64 ((s.w0.toNat : Nat) : Int), .int .u64 ((s.w1.toNat : Nat) : Int), .int .u64 ((s.w2.toNat : Nat) : Int), .int .u64 ((s.w3.toNat : Nat) : Int)] 24], [blk w1.heap.size #[.int .u64 ((Bs.zero.w0.toNat : Nat) : Int), .int .u64 ((Bs.zero.w1.toNat : Nat) : Int), .int .u64 ((Bs.zero.w2.toNat : Nat) : Int), .int .u64 ((Bs.zero.w3.toNat : Nat) : Int)] 24], [blk w2.heap.size #[.int .u64 ((((addS (addS r (k + 32)) (k - 32)).w0).toNat : Nat) : Int), .int .u64 ((((addS (addS r (k + 32)) (k - 32)).w1).toNat : Nat) : Int), .int .u64 ((((addS (addS r (k + 32)) (k - 32)).w2).toNat : Nat) : Int), .int .u64 ((((addS (addS r (k + 32)) (k - 32)).w3).toNat : Nat) : Int)] 24]] := H11.on 2 rfl u11
          refine WL.done (X.block_normal (X.then_code ?_))
          refine W.region ?_
          refine WL.op rfl (d_move rfl ?_)
          refine WL.op rfl (d_add rfl rfl (by omega) (by omega) ?_)
          refine WL.op rfl (d_assign rfl ?_)
          refine WL.done ?_
          exact X.next [4, 3, 2, 1] (Γ' := [(4, .int .i64 (((k + 1) : Nat) : Int)), (3, .pointer (some ⟨w2.heap.size, 0, none⟩)), (2, .pointer (some ⟨w1.heap.size, 0, none⟩)), (1, .pointer (some ⟨w.heap.size, 0, none⟩))]) rfl (256 - (k + 1)) (by omega) ⟨k + 1, (addS (addS r (k + 32)) (k - 32)), rfl, H12, (by first | assumption | omega | simp), (by first | (intro x hx; first | (exfalso; simp only [upN, loN, decide_eq_true_eq] at c100 c103; omega) | (rw [has_addS (by omega) hx, hr x hx, foldIn_lo (by simpa using c97) c103])) | (intro x hx; first | (rw [has_addS (by simp only [upN, decide_eq_true_eq] at c100; omega) hx, hr x hx, foldIn_up (by simpa using c97) c100]; done) | (rw [hr x hx, foldIn_skip (.inr ⟨by simpa using c100, by simpa using c103⟩)])) | (intro x hx; rw [hr x hx, foldIn_skip (.inl (by simpa using c97))])), rfl⟩
        · skip
          refine W.skip (X.block_normal (X.then_code ?_))
          refine W.region ?_
          refine WL.op rfl (d_move rfl ?_)
          refine WL.op rfl (d_add rfl rfl (by omega) (by omega) ?_)
          refine WL.op rfl (d_assign rfl ?_)
          refine WL.done ?_
          exact X.next [4, 3, 2, 1] (Γ' := [(4, .int .i64 (((k + 1) : Nat) : Int)), (3, .pointer (some ⟨w2.heap.size, 0, none⟩)), (2, .pointer (some ⟨w1.heap.size, 0, none⟩)), (1, .pointer (some ⟨w.heap.size, 0, none⟩))]) rfl (256 - (k + 1)) (by omega) ⟨k + 1, (addS r (k + 32)), rfl, H10, (by first | assumption | omega | simp), (by first | (intro x hx; first | (exfalso; simp only [upN, loN, decide_eq_true_eq] at c100 c103; omega) | (rw [has_addS (by omega) hx, hr x hx, foldIn_lo (by simpa using c97) c103])) | (intro x hx; first | (rw [has_addS (by simp only [upN, decide_eq_true_eq] at c100; omega) hx, hr x hx, foldIn_up (by simpa using c97) c100]; done) | (rw [hr x hx, foldIn_skip (.inr ⟨by simpa using c100, by simpa using c103⟩)])) | (intro x hx; rw [hr x hx, foldIn_skip (.inl (by simpa using c97))])), rfl⟩
      · skip
        refine W.skip (X.then_code ?_)
        refine W.seq ?_
        refine W.region ?_
        refine WL.op rfl (d_move rfl ?_)
        refine WL.op rfl (d_call ok25 rfl (Ret.calls (lo_any k w7  ) fun _ w13 p6 => ?_))
        obtain ⟨rfl, u12⟩ := p6
        have H13 : UpG w [] w13 [[blk w.heap.size #[.int .u64 ((s.w0.toNat : Nat) : Int), .int .u64 ((s.w1.toNat : Nat) : Int), .int .u64 ((s.w2.toNat : Nat) : Int), .int .u64 ((s.w3.toNat : Nat) : Int)] 24], [blk w1.heap.size #[.int .u64 ((Bs.zero.w0.toNat : Nat) : Int), .int .u64 ((Bs.zero.w1.toNat : Nat) : Int), .int .u64 ((Bs.zero.w2.toNat : Nat) : Int), .int .u64 ((Bs.zero.w3.toNat : Nat) : Int)] 24], [blk w2.heap.size #[.int .u64 ((r.w0.toNat : Nat) : Int), .int .u64 ((r.w1.toNat : Nat) : Int), .int .u64 ((r.w2.toNat : Nat) : Int), .int .u64 ((r.w3.toNat : Nat) : Int)] 24]] := H7.call u12
        refine WL.done (X.then_code ?_)
        refine W.iteB (b := loN k) rfl (fun c103 => ?_) (fun c103 => ?_)
        · skip
          refine W.region ?_
          refine WL.op rfl (d_loadAB [.int .u64 ((r.w0.toNat : Nat) : Int), .int .u64 ((r.w1.toNat : Nat) : Int), .int .u64 ((r.w2.toNat : Nat) : Int), .int .u64 ((r.w3.toNat : Nat) : Int)] Tryd.underlying24 rfl sz24 rfl (H13.blk 2 rfl) rfl rfl ?_)
          refine WL.op rfl (d_move rfl ?_)
          refine WL.op rfl (d_sub rfl rfl (by omega) (by omega) ?_)
          refine WL.op rfl (d_call ok24 rfl (Ret.calls (put1_any r (((k : Nat) : Int) - 32) (k - 32) w13  (by simp only [loN, decide_eq_true_eq] at c103; omega) (by omega)) fun _ w14 p7 => ?_))
          obtain ⟨rfl, u13⟩ := p7
          have H14 : UpG w [] w14 [[blk w.heap.size #[.int .u64 ((s.w0.toNat : Nat) : Int), .int .u64 ((s.w1.toNat : Nat) : Int), .int .u64 ((s.w2.toNat : Nat) : Int), .int .u64 ((s.w3.toNat : Nat) : Int)] 24], [blk w1.heap.size #[.int .u64 ((Bs.zero.w0.toNat : Nat) : Int), .int .u64 ((Bs.zero.w1.toNat : Nat) : Int), .int .u64 ((Bs.zero.w2.toNat : Nat) : Int), .int .u64 ((Bs.zero.w3.toNat : Nat) : Int)] 24], [blk w2.heap.size #[.int .u64 ((r.w0.toNat : Nat) : Int), .int .u64 ((r.w1.toNat : Nat) : Int), .int .u64 ((r.w2.toNat : Nat) : Int), .int .u64 ((r.w3.toNat : Nat) : Int)] 24]] := H13.call u13
          refine WL.op0 (d_storeAB (us := [.int .u64 ((((addS r (k - 32)).w0).toNat : Nat) : Int), .int .u64 ((((addS r (k - 32)).w1).toNat : Nat) : Int), .int .u64 ((((addS r (k - 32)).w2).toNat : Nat) : Int), .int .u64 ((((addS r (k - 32)).w3).toNat : Nat) : Int)]) (cs' := #[.int .u64 ((((addS r (k - 32)).w0).toNat : Nat) : Int), .int .u64 ((((addS r (k - 32)).w1).toNat : Nat) : Int), .int .u64 ((((addS r (k - 32)).w2).toNat : Nat) : Int), .int .u64 ((((addS r (k - 32)).w3).toNat : Nat) : Int)]) sz24 rfl rfl rfl rfl (H14.blk 2 rfl) rfl rfl fun w15 u14 => ?_)
          have H15 : UpG w [] w15 [[blk w.heap.size #[.int .u64 ((s.w0.toNat : Nat) : Int), .int .u64 ((s.w1.toNat : Nat) : Int), .int .u64 ((s.w2.toNat : Nat) : Int), .int .u64 ((s.w3.toNat : Nat) : Int)] 24], [blk w1.heap.size #[.int .u64 ((Bs.zero.w0.toNat : Nat) : Int), .int .u64 ((Bs.zero.w1.toNat : Nat) : Int), .int .u64 ((Bs.zero.w2.toNat : Nat) : Int), .int .u64 ((Bs.zero.w3.toNat : Nat) : Int)] 24], [blk w2.heap.size #[.int .u64 ((((addS r (k - 32)).w0).toNat : Nat) : Int), .int .u64 ((((addS r (k - 32)).w1).toNat : Nat) : Int), .int .u64 ((((addS r (k - 32)).w2).toNat : Nat) : Int), .int .u64 ((((addS r (k - 32)).w3).toNat : Nat) : Int)] 24]] := H14.on 2 rfl u14
          refine WL.done (X.block_normal (X.then_code ?_))
          refine W.region ?_
          refine WL.op rfl (d_move rfl ?_)
          refine WL.op rfl (d_add rfl rfl (by omega) (by omega) ?_)
          refine WL.op rfl (d_assign rfl ?_)
          refine WL.done ?_
          exact X.next [4, 3, 2, 1] (Γ' := [(4, .int .i64 (((k + 1) : Nat) : Int)), (3, .pointer (some ⟨w2.heap.size, 0, none⟩)), (2, .pointer (some ⟨w1.heap.size, 0, none⟩)), (1, .pointer (some ⟨w.heap.size, 0, none⟩))]) rfl (256 - (k + 1)) (by omega) ⟨k + 1, (addS r (k - 32)), rfl, H15, (by first | assumption | omega | simp), (by first | (intro x hx; first | (exfalso; simp only [upN, loN, decide_eq_true_eq] at c100 c103; omega) | (rw [has_addS (by omega) hx, hr x hx, foldIn_lo (by simpa using c97) c103])) | (intro x hx; first | (rw [has_addS (by simp only [upN, decide_eq_true_eq] at c100; omega) hx, hr x hx, foldIn_up (by simpa using c97) c100]; done) | (rw [hr x hx, foldIn_skip (.inr ⟨by simpa using c100, by simpa using c103⟩)])) | (intro x hx; rw [hr x hx, foldIn_skip (.inl (by simpa using c97))])), rfl⟩
        · skip
          refine W.skip (X.block_normal (X.then_code ?_))
          refine W.region ?_
          refine WL.op rfl (d_move rfl ?_)
          refine WL.op rfl (d_add rfl rfl (by omega) (by omega) ?_)
          refine WL.op rfl (d_assign rfl ?_)
          refine WL.done ?_
          exact X.next [4, 3, 2, 1] (Γ' := [(4, .int .i64 (((k + 1) : Nat) : Int)), (3, .pointer (some ⟨w2.heap.size, 0, none⟩)), (2, .pointer (some ⟨w1.heap.size, 0, none⟩)), (1, .pointer (some ⟨w.heap.size, 0, none⟩))]) rfl (256 - (k + 1)) (by omega) ⟨k + 1, r, rfl, H13, (by first | assumption | omega | simp), (by first | (intro x hx; first | (exfalso; simp only [upN, loN, decide_eq_true_eq] at c100 c103; omega) | (rw [has_addS (by omega) hx, hr x hx, foldIn_lo (by simpa using c97) c103])) | (intro x hx; first | (rw [has_addS (by simp only [upN, decide_eq_true_eq] at c100; omega) hx, hr x hx, foldIn_up (by simpa using c97) c100]; done) | (rw [hr x hx, foldIn_skip (.inr ⟨by simpa using c100, by simpa using c103⟩)])) | (intro x hx; rw [hr x hx, foldIn_skip (.inl (by simpa using c97))])), rfl⟩
  · skip
    refine W.exit (X.then_exit (X.then_exit (X.block_exit (X.then_code ?_))))
    refine W.seq ?_
    refine W.region ?_
    refine WL.op rfl (d_loadAB [.int .u64 ((r.w0.toNat : Nat) : Int), .int .u64 ((r.w1.toNat : Nat) : Int), .int .u64 ((r.w2.toNat : Nat) : Int), .int .u64 ((r.w3.toNat : Nat) : Int)] Tryd.underlying24 rfl sz24 rfl (H5.blk 2 rfl) rfl rfl ?_)
    refine WL.op0 (d_storeAB (us := [.int .u64 ((r.w0.toNat : Nat) : Int), .int .u64 ((r.w1.toNat : Nat) : Int), .int .u64 ((r.w2.toNat : Nat) : Int), .int .u64 ((r.w3.toNat : Nat) : Int)]) (cs' := #[.int .u64 ((r.w0.toNat : Nat) : Int), .int .u64 ((r.w1.toNat : Nat) : Int), .int .u64 ((r.w2.toNat : Nat) : Int), .int .u64 ((r.w3.toNat : Nat) : Int)]) sz24 rfl rfl rfl rfl (H5.blk 1 rfl) rfl rfl fun w16 u15 => ?_)
    have H16 : UpG w [] w16 [[blk w.heap.size #[.int .u64 ((s.w0.toNat : Nat) : Int), .int .u64 ((s.w1.toNat : Nat) : Int), .int .u64 ((s.w2.toNat : Nat) : Int), .int .u64 ((s.w3.toNat : Nat) : Int)] 24], [blk w1.heap.size #[.int .u64 ((r.w0.toNat : Nat) : Int), .int .u64 ((r.w1.toNat : Nat) : Int), .int .u64 ((r.w2.toNat : Nat) : Int), .int .u64 ((r.w3.toNat : Nat) : Int)] 24], [blk w2.heap.size #[.int .u64 ((r.w0.toNat : Nat) : Int), .int .u64 ((r.w1.toNat : Nat) : Int), .int .u64 ((r.w2.toNat : Nat) : Int), .int .u64 ((r.w3.toNat : Nat) : Int)] 24]] := H5.on 1 rfl u15
    refine WL.done (X.then_code ?_)
    refine W.ret (X.retR1 rfl (rv_cellA [.int .u64 ((r.w0.toNat : Nat) : Int), .int .u64 ((r.w1.toNat : Nat) : Int), .int .u64 ((r.w2.toNat : Nat) : Int), .int .u64 ((r.w3.toNat : Nat) : Int)] Tryd.underlying24 rfl sz24 rfl (H16.blk 1 rfl) rfl rfl) ?_)
    have e : r = foldR s := by rw [show k = 256 by omega] at hr; exact eq_setOf hr
    exact ⟨(by rw [e]), H16.noneL⟩

set_option maxRecDepth 20000 in
theorem awake_any  (w : World) (rT : RdT tyN8 w (.slice (some ⟨0, 0, none⟩) deB.length 64) deB) :
    Calls Tryd.prog 6 #[] w (Ret fun v w' => v = .bool true ∧ Upd w [] w' []) := by
  have le_rT := rT.le
  refine calls_of_W (args := []) Tryd.func6 rfl rfl rfl ?_
  have H0 : UpG w [] w [] := UpG.nil w
  show W _ _ _ _ [] w
  refine W.seq ?_
  refine W.region ?_
  refine WL.op rfl (d_assign rfl ?_)
  refine WL.done (X.then_code ?_)
  refine W.seq ?_
  refine W.region ?_
  refine WL.op rfl (d_call ok10 rfl (Ret.calls (esc_any 119 w  (by decide)) fun _ w1 p1 => ?_))
  obtain ⟨rfl, u1⟩ := p1
  have H1 : UpG w [] w1 [] := H0.call u1
  refine WL.op rfl (d_move rfl ?_)
  refine WL.op rfl (d_extract rfl rfl ?_)
  refine WL.op rfl (d_extract rfl rfl ?_)
  refine WL.op rfl (d_alloc sz24 fun w2 u2 => ?_)
  have H2 : UpG w [] w2 [[blk w1.heap.size #[.int .u64 ((Bs.zero.w0.toNat : Nat) : Int), .int .u64 ((Bs.zero.w1.toNat : Nat) : Int), .int .u64 ((Bs.zero.w2.toNat : Nat) : Int), .int .u64 ((Bs.zero.w3.toNat : Nat) : Int)] 24]] := H1.new' u2
  refine WL.op0 (d_storeAB (us := [.int .u64 (((((escB 119).1).w0).toNat : Nat) : Int), .int .u64 (((((escB 119).1).w1).toNat : Nat) : Int), .int .u64 (((((escB 119).1).w2).toNat : Nat) : Int), .int .u64 (((((escB 119).1).w3).toNat : Nat) : Int)]) (cs' := #[.int .u64 (((((escB 119).1).w0).toNat : Nat) : Int), .int .u64 (((((escB 119).1).w1).toNat : Nat) : Int), .int .u64 (((((escB 119).1).w2).toNat : Nat) : Int), .int .u64 (((((escB 119).1).w3).toNat : Nat) : Int)]) sz24 rfl rfl rfl rfl (H2.blk 0 rfl) rfl rfl fun w3 u3 => ?_)
  have H3 : UpG w [] w3 [[blk w1.heap.size #[.int .u64 (((((escB 119).1).w0).toNat : Nat) : Int), .int .u64 (((((escB 119).1).w1).toNat : Nat) : Int), .int .u64 (((((escB 119).1).w2).toNat : Nat) : Int), .int .u64 (((((escB 119).1).w3).toNat : Nat) : Int)] 24]] := H2.on 0 rfl u3
  refine WL.op rfl (d_assign rfl ?_)
  refine WL.done (X.then_code ?_)
  refine W.seq ?_
  refine W.region ?_
  refine WL.op rfl (d_move rfl ?_)
  refine WL.op rfl (d_move rfl ?_)
  refine WL.partB 8 (b := (escB 119).2) rfl (fun g14 => ?_) (fun g14 => ?_)
  · skip
    refine WL.opG rfl rfl rfl (d_loadAB [.int .u64 (((((escB 119).1).w0).toNat : Nat) : Int), .int .u64 (((((escB 119).1).w1).toNat : Nat) : Int), .int .u64 (((((escB 119).1).w2).toNat : Nat) : Int), .int .u64 (((((escB 119).1).w3).toNat : Nat) : Int)] Tryd.underlying24 rfl sz24 rfl (H3.blk 0 rfl) rfl rfl ?_)
    refine WL.opG rfl rfl rfl (d_call ok14 rfl (Ret.calls (count_any ((escB 119).1) w3  ) fun _ w4 p2 => ?_))
    obtain ⟨rfl, u4⟩ := p2
    have H4 : UpG w [] w4 [[blk w1.heap.size #[.int .u64 (((((escB 119).1).w0).toNat : Nat) : Int), .int .u64 (((((escB 119).1).w1).toNat : Nat) : Int), .int .u64 (((((escB 119).1).w2).toNat : Nat) : Int), .int .u64 (((((escB 119).1).w3).toNat : Nat) : Int)] 24]] := H3.call u4
    refine WL.opG rfl rfl rfl (d_cmp (decide (((popB ((escB 119).1) : Nat) : Int) = (63 : Int))) rfl rfl rfl ?_)
    refine WL.op rfl (d_pick rfl rfl ?_)
    refine WL.op rfl (d_move rfl ?_)
    refine WL.part 13 (p := ((popB ((escB 119).1) : Nat) : Int) = (63 : Int)) rfl (fun g14x => ?_) (fun g14x => ?_)
    · skip
      refine WL.opG rfl rfl rfl (t_buildSlice (T := tyN8) (xs := [97, 49]) (cs := #[.int .u8 97, .int .u8 49]) rfl Tryd.underlying41 sz5 rfl rfl rfl rfl (by kernel_rfl) rfl rfl fun w5 u5 => ?_)
      have H5 : UpG w [] w5 [[blk w1.heap.size #[.int .u64 (((((escB 119).1).w0).toNat : Nat) : Int), .int .u64 (((((escB 119).1).w1).toNat : Nat) : Int), .int .u64 (((((escB 119).1).w2).toNat : Nat) : Int), .int .u64 (((((escB 119).1).w3).toNat : Nat) : Int)] 24], [rowT tyN8 (.slice (some ⟨w4.heap.size, 0, none⟩) ([97, 49].length) ([97, 49].length)) 5 [97, 49]]] := H4.new' u5
      refine WL.opG rfl rfl rfl (d_call ok18 rfl (Ret.calls (of_any (some ⟨w4.heap.size, 0, none⟩) [97, 49] ([97, 49].length) ([97, 49].length) w5 (H5.rdT 1 rfl) (by intro c hc; simp at hc; omega)) fun _ w6 p3 => ?_))
      obtain ⟨rfl, u6⟩ := p3
      have H6 : UpG w [] w6 [[blk w1.heap.size #[.int .u64 (((((escB 119).1).w0).toNat : Nat) : Int), .int .u64 (((((escB 119).1).w1).toNat : Nat) : Int), .int .u64 (((((escB 119).1).w2).toNat : Nat) : Int), .int .u64 (((((escB 119).1).w3).toNat : Nat) : Int)] 24], [rowT tyN8 (.slice (some ⟨w4.heap.size, 0, none⟩) ([97, 49].length) ([97, 49].length)) 5 [97, 49]]] := H5.call u6
      refine WL.opG rfl rfl rfl (d_call ok7 rfl (Ret.calls (fold_any (ofS [97, 49]) w6 (rT.at H6) ) fun _ w7 p4 => ?_))
      obtain ⟨rfl, u7⟩ := p4
      have H7 : UpG w [] w7 [[blk w1.heap.size #[.int .u64 (((((escB 119).1).w0).toNat : Nat) : Int), .int .u64 (((((escB 119).1).w1).toNat : Nat) : Int), .int .u64 (((((escB 119).1).w2).toNat : Nat) : Int), .int .u64 (((((escB 119).1).w3).toNat : Nat) : Int)] 24], [rowT tyN8 (.slice (some ⟨w4.heap.size, 0, none⟩) ([97, 49].length) ([97, 49].length)) 5 [97, 49]]] := H6.call u7
      refine WL.opG rfl rfl rfl (t_buildSlice (T := tyN8) (xs := [65, 97, 49]) (cs := #[.int .u8 65, .int .u8 97, .int .u8 49]) rfl Tryd.underlying41 sz5 rfl rfl rfl rfl (by kernel_rfl) rfl rfl fun w8 u8 => ?_)
      have H8 : UpG w [] w8 [[blk w1.heap.size #[.int .u64 (((((escB 119).1).w0).toNat : Nat) : Int), .int .u64 (((((escB 119).1).w1).toNat : Nat) : Int), .int .u64 (((((escB 119).1).w2).toNat : Nat) : Int), .int .u64 (((((escB 119).1).w3).toNat : Nat) : Int)] 24], [rowT tyN8 (.slice (some ⟨w4.heap.size, 0, none⟩) ([97, 49].length) ([97, 49].length)) 5 [97, 49]], [rowT tyN8 (.slice (some ⟨w7.heap.size, 0, none⟩) ([65, 97, 49].length) ([65, 97, 49].length)) 5 [65, 97, 49]]] := H7.new' u8
      refine WL.opG rfl rfl rfl (d_call ok18 rfl (Ret.calls (of_any (some ⟨w7.heap.size, 0, none⟩) [65, 97, 49] ([65, 97, 49].length) ([65, 97, 49].length) w8 (H8.rdT 2 rfl) (by intro c hc; simp at hc; omega)) fun _ w9 p5 => ?_))
      obtain ⟨rfl, u9⟩ := p5
      have H9 : UpG w [] w9 [[blk w1.heap.size #[.int .u64 (((((escB 119).1).w0).toNat : Nat) : Int), .int .u64 (((((escB 119).1).w1).toNat : Nat) : Int), .int .u64 (((((escB 119).1).w2).toNat : Nat) : Int), .int .u64 (((((escB 119).1).w3).toNat : Nat) : Int)] 24], [rowT tyN8 (.slice (some ⟨w4.heap.size, 0, none⟩) ([97, 49].length) ([97, 49].length)) 5 [97, 49]], [rowT tyN8 (.slice (some ⟨w7.heap.size, 0, none⟩) ([65, 97, 49].length) ([65, 97, 49].length)) 5 [65, 97, 49]]] := H8.call u9
      refine WL.opG rfl rfl rfl (d_bseq (foldB (ofS [97, 49])) (ofS [65, 97, 49]) rfl rfl Tryd.underlying24 Tryd.underlying22 sz22 (by kernel_rfl) ?_)
      refine WL.op rfl (d_pick rfl rfl ?_)
      refine WL.op rfl (d_assign rfl ?_)
      refine WL.done (X.then_code ?_)
      refine W.ret (X.ret1 rfl rfl ?_)
      exact ⟨(by rw [decide_eq_true awake3]), H9.noneL⟩
    · skip
      exact absurd (by rw [awake2]; rfl) g14x
  · skip
    exact absurd awake1 g14

set_option maxRecDepth 20000 in
theorem foldsLaw_any (s : Bs) (w : World) (rT : RdT tyN8 w (.slice (some ⟨0, 0, none⟩) deB.length 64) deB) :
    Calls Tryd.prog 3 #[.agg #[.int .u64 ((s.w0.toNat : Nat) : Int), .int .u64 ((s.w1.toNat : Nat) : Int), .int .u64 ((s.w2.toNat : Nat) : Int), .int .u64 ((s.w3.toNat : Nat) : Int)]] w (Ret fun v w' => v = .bool true ∧ Upd w [] w' []) := by
  have le_rT := rT.le
  refine calls_of_W (args := [.agg #[.int .u64 ((s.w0.toNat : Nat) : Int), .int .u64 ((s.w1.toNat : Nat) : Int), .int .u64 ((s.w2.toNat : Nat) : Int), .int .u64 ((s.w3.toNat : Nat) : Int)]]) Tryd.func3 rfl rfl rfl ?_
  have H0 : UpG w [] w [] := UpG.nil w
  show W _ _ _ _ [(0, .agg #[.int .u64 ((s.w0.toNat : Nat) : Int), .int .u64 ((s.w1.toNat : Nat) : Int), .int .u64 ((s.w2.toNat : Nat) : Int), .int .u64 ((s.w3.toNat : Nat) : Int)])] w
  refine W.seq ?_
  refine W.region ?_
  refine WL.op rfl (d_box rfl fun w1 u1 => ?_)
  have H1 : UpG w [] w1 [[blk w.heap.size #[.int .u64 ((s.w0.toNat : Nat) : Int), .int .u64 ((s.w1.toNat : Nat) : Int), .int .u64 ((s.w2.toNat : Nat) : Int), .int .u64 ((s.w3.toNat : Nat) : Int)] 24]] := H0.new' u1
  refine WL.op rfl (d_assign rfl ?_)
  refine WL.done (X.then_code ?_)
  refine W.seq ?_
  refine W.seq ?_
  refine W.region ?_
  refine WL.op rfl (d_call ok6 rfl (Ret.calls (awake_any  w1 (rT.at H1) ) fun _ w2 p1 => ?_))
  obtain ⟨rfl, u2⟩ := p1
  have H2 : UpG w [] w2 [[blk w.heap.size #[.int .u64 ((s.w0.toNat : Nat) : Int), .int .u64 ((s.w1.toNat : Nat) : Int), .int .u64 ((s.w2.toNat : Nat) : Int), .int .u64 ((s.w3.toNat : Nat) : Int)] 24]] := H1.call u2
  refine WL.op rfl (d_notB rfl ?_)
  refine WL.done (X.then_code ?_)
  refine W.iff rfl ?_
  refine W.skip (X.then_code ?_)
  refine W.seq ?_
  refine W.region ?_
  refine WL.op rfl (d_loadAB [.int .u64 ((s.w0.toNat : Nat) : Int), .int .u64 ((s.w1.toNat : Nat) : Int), .int .u64 ((s.w2.toNat : Nat) : Int), .int .u64 ((s.w3.toNat : Nat) : Int)] Tryd.underlying24 rfl sz24 rfl (H2.blk 0 rfl) rfl rfl ?_)
  refine WL.op rfl (d_call ok7 rfl (Ret.calls (fold_any s w2 (rT.at H2) ) fun _ w3 p2 => ?_))
  obtain ⟨rfl, u3⟩ := p2
  have H3 : UpG w [] w3 [[blk w.heap.size #[.int .u64 ((s.w0.toNat : Nat) : Int), .int .u64 ((s.w1.toNat : Nat) : Int), .int .u64 ((s.w2.toNat : Nat) : Int), .int .u64 ((s.w3.toNat : Nat) : Int)] 24]] := H2.call u3
  refine WL.op rfl (d_alloc sz24 fun w4 u4 => ?_)
  have H4 : UpG w [] w4 [[blk w.heap.size #[.int .u64 ((s.w0.toNat : Nat) : Int), .int .u64 ((s.w1.toNat : Nat) : Int), .int .u64 ((s.w2.toNat : Nat) : Int), .int .u64 ((s.w3.toNat : Nat) : Int)] 24], [blk w3.heap.size #[.int .u64 ((Bs.zero.w0.toNat : Nat) : Int), .int .u64 ((Bs.zero.w1.toNat : Nat) : Int), .int .u64 ((Bs.zero.w2.toNat : Nat) : Int), .int .u64 ((Bs.zero.w3.toNat : Nat) : Int)] 24]] := H3.new' u4
  refine WL.op0 (d_storeAB (us := [.int .u64 ((((foldB s).w0).toNat : Nat) : Int), .int .u64 ((((foldB s).w1).toNat : Nat) : Int), .int .u64 ((((foldB s).w2).toNat : Nat) : Int), .int .u64 ((((foldB s).w3).toNat : Nat) : Int)]) (cs' := #[.int .u64 ((((foldB s).w0).toNat : Nat) : Int), .int .u64 ((((foldB s).w1).toNat : Nat) : Int), .int .u64 ((((foldB s).w2).toNat : Nat) : Int), .int .u64 ((((foldB s).w3).toNat : Nat) : Int)]) sz24 rfl rfl rfl rfl (H4.blk 1 rfl) rfl rfl fun w5 u5 => ?_)
  have H5 : UpG w [] w5 [[blk w.heap.size #[.int .u64 ((s.w0.toNat : Nat) : Int), .int .u64 ((s.w1.toNat : Nat) : Int), .int .u64 ((s.w2.toNat : Nat) : Int), .int .u64 ((s.w3.toNat : Nat) : Int)] 24], [blk w3.heap.size #[.int .u64 ((((foldB s).w0).toNat : Nat) : Int), .int .u64 ((((foldB s).w1).toNat : Nat) : Int), .int .u64 ((((foldB s).w2).toNat : Nat) : Int), .int .u64 ((((foldB s).w3).toNat : Nat) : Int)] 24]] := H4.on 1 rfl u5
  refine WL.done (X.then_code ?_)
  refine W.seq ?_
  refine W.regionD mixed (by kernel_rfl) fun hok1 w6 k1 => ?_
  have H6 : UpG w [] w6 [[blk w.heap.size #[.int .u64 ((s.w0.toNat : Nat) : Int), .int .u64 ((s.w1.toNat : Nat) : Int), .int .u64 ((s.w2.toNat : Nat) : Int), .int .u64 ((s.w3.toNat : Nat) : Int)] 24], [blk w3.heap.size #[.int .u64 ((((foldB s).w0).toNat : Nat) : Int), .int .u64 ((((foldB s).w1).toNat : Nat) : Int), .int .u64 ((((foldB s).w2).toNat : Nat) : Int), .int .u64 ((((foldB s).w3).toNat : Nat) : Int)] 24]] := H5.kept k1
  refine WD.take hok1 0 (.agg #[.int .u64 ((((foldB s).w0).toNat : Nat) : Int), .int .u64 ((((foldB s).w1).toNat : Nat) : Int), .int .u64 ((((foldB s).w2).toNat : Nat) : Int), .int .u64 ((((foldB s).w3).toNat : Nat) : Int)]) (fun w' => w'.heap[w3.heap.size]? = some (.cells #[.int .u64 ((((foldB s).w0).toNat : Nat) : Int), .int .u64 ((((foldB s).w1).toNat : Nat) : Int), .int .u64 ((((foldB s).w2).toNat : Nat) : Int), .int .u64 ((((foldB s).w3).toNat : Nat) : Int)] 24 (0, 0))) rfl rfl rfl rfl rfl (H6.blk 1 rfl) (.inl ⟨rfl, fun _ hC => d_loadAB [.int .u64 ((((foldB s).w0).toNat : Nat) : Int), .int .u64 ((((foldB s).w1).toNat : Nat) : Int), .int .u64 ((((foldB s).w2).toNat : Nat) : Int), .int .u64 ((((foldB s).w3).toNat : Nat) : Int)] Tryd.underlying24 rfl sz24 rfl hC rfl rfl ⟨rfl, rfl⟩⟩) ?_
  refine WD.take hok1 1 (.agg #[.int .u64 ((s.w0.toNat : Nat) : Int), .int .u64 ((s.w1.toNat : Nat) : Int), .int .u64 ((s.w2.toNat : Nat) : Int), .int .u64 ((s.w3.toNat : Nat) : Int)]) (fun w' => w'.heap[w.heap.size]? = some (.cells #[.int .u64 ((s.w0.toNat : Nat) : Int), .int .u64 ((s.w1.toNat : Nat) : Int), .int .u64 ((s.w2.toNat : Nat) : Int), .int .u64 ((s.w3.toNat : Nat) : Int)] 24 (0, 0))) rfl rfl rfl rfl rfl (H6.blk 0 rfl) (.inl ⟨rfl, fun _ hC => d_loadAB [.int .u64 ((s.w0.toNat : Nat) : Int), .int .u64 ((s.w1.toNat : Nat) : Int), .int .u64 ((s.w2.toNat : Nat) : Int), .int .u64 ((s.w3.toNat : Nat) : Int)] Tryd.underlying24 rfl sz24 rfl hC rfl rfl ⟨rfl, rfl⟩⟩) ?_
  refine WD.loud hok1 2 rfl (⟨_, [⟨0, .agg #[.int .u64 ((((foldB s).w0).toNat : Nat) : Int), .int .u64 ((((foldB s).w1).toNat : Nat) : Int), .int .u64 ((((foldB s).w2).toNat : Nat) : Int), .int .u64 ((((foldB s).w3).toNat : Nat) : Int)], (fun w' => w'.heap[w3.heap.size]? = some (.cells #[.int .u64 ((((foldB s).w0).toNat : Nat) : Int), .int .u64 ((((foldB s).w1).toNat : Nat) : Int), .int .u64 ((((foldB s).w2).toNat : Nat) : Int), .int .u64 ((((foldB s).w3).toNat : Nat) : Int)] 24 (0, 0)))⟩], rfl, rfl, rfl, rfl, rfl, rfl, d_call ok8 rfl (Ret.calls (rfold_any s w6  ) fun _ w7 p3 => ?_)⟩)
  obtain ⟨rfl, u6⟩ := p3
  have H7 : UpG w [] w7 [[blk w.heap.size #[.int .u64 ((s.w0.toNat : Nat) : Int), .int .u64 ((s.w1.toNat : Nat) : Int), .int .u64 ((s.w2.toNat : Nat) : Int), .int .u64 ((s.w3.toNat : Nat) : Int)] 24], [blk w3.heap.size #[.int .u64 ((((foldB s).w0).toNat : Nat) : Int), .int .u64 ((((foldB s).w1).toNat : Nat) : Int), .int .u64 ((((foldB s).w2).toNat : Nat) : Int), .int .u64 ((((foldB s).w3).toNat : Nat) : Int)] 24]] := H6.call u6
  refine ⟨⟨(H7.blk 1 rfl), trivial⟩, ?_⟩
  refine WD.take hok1 3 (.bool (decide ((foldB s) = (foldR s)))) (fun _ => True) rfl rfl rfl rfl rfl trivial (.inl ⟨rfl, fun _ _ => d_bseq (foldB s) (foldR s) rfl rfl Tryd.underlying24 Tryd.underlying22 sz22 (by kernel_rfl) ⟨rfl, rfl⟩⟩) ?_
  refine WD.take hok1 4 (.bool (decide ((foldB s) = (foldR s)))) (fun _ => True) rfl rfl rfl rfl rfl trivial (.inl ⟨rfl, fun _ _ => d_move rfl ⟨rfl, rfl⟩⟩) ?_
  refine WD.part 12 (p := (foldB s) = (foldR s)) rfl (fun g51 => ?_) (fun g51 => ?_)
  · skip
    refine WD.take hok1 5 (.agg #[.int .u64 ((((foldB s).w0).toNat : Nat) : Int), .int .u64 ((((foldB s).w1).toNat : Nat) : Int), .int .u64 ((((foldB s).w2).toNat : Nat) : Int), .int .u64 ((((foldB s).w3).toNat : Nat) : Int)]) (fun w' => w'.heap[w3.heap.size]? = some (.cells #[.int .u64 ((((foldB s).w0).toNat : Nat) : Int), .int .u64 ((((foldB s).w1).toNat : Nat) : Int), .int .u64 ((((foldB s).w2).toNat : Nat) : Int), .int .u64 ((((foldB s).w3).toNat : Nat) : Int)] 24 (0, 0))) rfl rfl rfl rfl rfl (H7.blk 1 rfl) (.inl ⟨rfl, fun _ hC => d_loadAB [.int .u64 ((((foldB s).w0).toNat : Nat) : Int), .int .u64 ((((foldB s).w1).toNat : Nat) : Int), .int .u64 ((((foldB s).w2).toNat : Nat) : Int), .int .u64 ((((foldB s).w3).toNat : Nat) : Int)] Tryd.underlying24 rfl sz24 rfl hC rfl rfl ⟨rfl, rfl⟩⟩) ?_
    refine WD.take hok1 7 (.agg #[.int .u64 ((((foldB s).w0).toNat : Nat) : Int), .int .u64 ((((foldB s).w1).toNat : Nat) : Int), .int .u64 ((((foldB s).w2).toNat : Nat) : Int), .int .u64 ((((foldB s).w3).toNat : Nat) : Int)]) (fun w' => w'.heap[w3.heap.size]? = some (.cells #[.int .u64 ((((foldB s).w0).toNat : Nat) : Int), .int .u64 ((((foldB s).w1).toNat : Nat) : Int), .int .u64 ((((foldB s).w2).toNat : Nat) : Int), .int .u64 ((((foldB s).w3).toNat : Nat) : Int)] 24 (0, 0))) rfl rfl rfl rfl rfl (H7.blk 1 rfl) (.inl ⟨rfl, fun _ hC => d_loadAB [.int .u64 ((((foldB s).w0).toNat : Nat) : Int), .int .u64 ((((foldB s).w1).toNat : Nat) : Int), .int .u64 ((((foldB s).w2).toNat : Nat) : Int), .int .u64 ((((foldB s).w3).toNat : Nat) : Int)] Tryd.underlying24 rfl sz24 rfl hC rfl rfl ⟨rfl, rfl⟩⟩) ?_
    refine WD.loud hok1 6 rfl (⟨_, [⟨7, .agg #[.int .u64 ((((foldB s).w0).toNat : Nat) : Int), .int .u64 ((((foldB s).w1).toNat : Nat) : Int), .int .u64 ((((foldB s).w2).toNat : Nat) : Int), .int .u64 ((((foldB s).w3).toNat : Nat) : Int)], (fun w' => w'.heap[w3.heap.size]? = some (.cells #[.int .u64 ((((foldB s).w0).toNat : Nat) : Int), .int .u64 ((((foldB s).w1).toNat : Nat) : Int), .int .u64 ((((foldB s).w2).toNat : Nat) : Int), .int .u64 ((((foldB s).w3).toNat : Nat) : Int)] 24 (0, 0)))⟩], rfl, rfl, rfl, rfl, rfl, rfl, d_call ok7 rfl (Ret.calls (fold_any (foldB s) w7 (rT.at H7) ) fun _ w8 p4 => ?_)⟩)
    obtain ⟨rfl, u7⟩ := p4
    have H8 : UpG w [] w8 [[blk w.heap.size #[.int .u64 ((s.w0.toNat : Nat) : Int), .int .u64 ((s.w1.toNat : Nat) : Int), .int .u64 ((s.w2.toNat : Nat) : Int), .int .u64 ((s.w3.toNat : Nat) : Int)] 24], [blk w3.heap.size #[.int .u64 ((((foldB s).w0).toNat : Nat) : Int), .int .u64 ((((foldB s).w1).toNat : Nat) : Int), .int .u64 ((((foldB s).w2).toNat : Nat) : Int), .int .u64 ((((foldB s).w3).toNat : Nat) : Int)] 24]] := H7.call u7
    refine ⟨⟨(H8.blk 1 rfl), trivial⟩, ?_⟩
    refine WD.take hok1 8 (.bool (decide ((foldB (foldB s)) = (foldB s)))) (fun _ => True) rfl rfl rfl rfl rfl trivial (.inl ⟨rfl, fun _ _ => d_bseq (foldB (foldB s)) (foldB s) rfl rfl Tryd.underlying24 Tryd.underlying22 sz22 (by kernel_rfl) ⟨rfl, rfl⟩⟩) ?_
    refine WD.take hok1 9 (.bool (decide ((foldB (foldB s)) = (foldB s)))) (fun _ => True) rfl rfl rfl rfl rfl trivial (.inl ⟨rfl, fun _ _ => d_pick rfl rfl ⟨rfl, rfl⟩⟩) ?_
    refine WD.take hok1 10 (.bool (decide ((foldB (foldB s)) = (foldB s)))) (fun _ => True) rfl rfl rfl rfl rfl trivial (.inl ⟨rfl, fun _ _ => d_move rfl ⟨rfl, rfl⟩⟩) ?_
    refine WD.part 18 (p := (foldB (foldB s)) = (foldB s)) rfl (fun g51x => ?_) (fun g51x => ?_)
    · skip
      refine WD.take hok1 11 (.agg #[.int .u64 ((((foldB s).w0).toNat : Nat) : Int), .int .u64 ((((foldB s).w1).toNat : Nat) : Int), .int .u64 ((((foldB s).w2).toNat : Nat) : Int), .int .u64 ((((foldB s).w3).toNat : Nat) : Int)]) (fun w' => w'.heap[w3.heap.size]? = some (.cells #[.int .u64 ((((foldB s).w0).toNat : Nat) : Int), .int .u64 ((((foldB s).w1).toNat : Nat) : Int), .int .u64 ((((foldB s).w2).toNat : Nat) : Int), .int .u64 ((((foldB s).w3).toNat : Nat) : Int)] 24 (0, 0))) rfl rfl rfl rfl rfl (H8.blk 1 rfl) (.inl ⟨rfl, fun _ hC => d_loadAB [.int .u64 ((((foldB s).w0).toNat : Nat) : Int), .int .u64 ((((foldB s).w1).toNat : Nat) : Int), .int .u64 ((((foldB s).w2).toNat : Nat) : Int), .int .u64 ((((foldB s).w3).toNat : Nat) : Int)] Tryd.underlying24 rfl sz24 rfl hC rfl rfl ⟨rfl, rfl⟩⟩) ?_
      refine WD.take hok1 12 (.agg #[.int .u64 ((s.w0.toNat : Nat) : Int), .int .u64 ((s.w1.toNat : Nat) : Int), .int .u64 ((s.w2.toNat : Nat) : Int), .int .u64 ((s.w3.toNat : Nat) : Int)]) (fun w' => w'.heap[w.heap.size]? = some (.cells #[.int .u64 ((s.w0.toNat : Nat) : Int), .int .u64 ((s.w1.toNat : Nat) : Int), .int .u64 ((s.w2.toNat : Nat) : Int), .int .u64 ((s.w3.toNat : Nat) : Int)] 24 (0, 0))) rfl rfl rfl rfl rfl (H8.blk 0 rfl) (.inl ⟨rfl, fun _ hC => d_loadAB [.int .u64 ((s.w0.toNat : Nat) : Int), .int .u64 ((s.w1.toNat : Nat) : Int), .int .u64 ((s.w2.toNat : Nat) : Int), .int .u64 ((s.w3.toNat : Nat) : Int)] Tryd.underlying24 rfl sz24 rfl hC rfl rfl ⟨rfl, rfl⟩⟩) ?_
      refine WD.take hok1 14 (.agg #[.int .u64 ((s.w0.toNat : Nat) : Int), .int .u64 ((s.w1.toNat : Nat) : Int), .int .u64 ((s.w2.toNat : Nat) : Int), .int .u64 ((s.w3.toNat : Nat) : Int)]) (fun w' => w'.heap[w.heap.size]? = some (.cells #[.int .u64 ((s.w0.toNat : Nat) : Int), .int .u64 ((s.w1.toNat : Nat) : Int), .int .u64 ((s.w2.toNat : Nat) : Int), .int .u64 ((s.w3.toNat : Nat) : Int)] 24 (0, 0))) rfl rfl rfl rfl rfl (H8.blk 0 rfl) (.inl ⟨rfl, fun _ hC => d_loadAB [.int .u64 ((s.w0.toNat : Nat) : Int), .int .u64 ((s.w1.toNat : Nat) : Int), .int .u64 ((s.w2.toNat : Nat) : Int), .int .u64 ((s.w3.toNat : Nat) : Int)] Tryd.underlying24 rfl sz24 rfl hC rfl rfl ⟨rfl, rfl⟩⟩) ?_
      refine WD.loud hok1 13 rfl (⟨_, [⟨14, .agg #[.int .u64 ((s.w0.toNat : Nat) : Int), .int .u64 ((s.w1.toNat : Nat) : Int), .int .u64 ((s.w2.toNat : Nat) : Int), .int .u64 ((s.w3.toNat : Nat) : Int)], (fun w' => w'.heap[w.heap.size]? = some (.cells #[.int .u64 ((s.w0.toNat : Nat) : Int), .int .u64 ((s.w1.toNat : Nat) : Int), .int .u64 ((s.w2.toNat : Nat) : Int), .int .u64 ((s.w3.toNat : Nat) : Int)] 24 (0, 0)))⟩], rfl, rfl, rfl, rfl, rfl, rfl, d_call ok9 rfl (Ret.calls (and_any (foldB s) s w8  ) fun _ w9 p5 => ?_)⟩)
      obtain ⟨rfl, u8⟩ := p5
      have H9 : UpG w [] w9 [[blk w.heap.size #[.int .u64 ((s.w0.toNat : Nat) : Int), .int .u64 ((s.w1.toNat : Nat) : Int), .int .u64 ((s.w2.toNat : Nat) : Int), .int .u64 ((s.w3.toNat : Nat) : Int)] 24], [blk w3.heap.size #[.int .u64 ((((foldB s).w0).toNat : Nat) : Int), .int .u64 ((((foldB s).w1).toNat : Nat) : Int), .int .u64 ((((foldB s).w2).toNat : Nat) : Int), .int .u64 ((((foldB s).w3).toNat : Nat) : Int)] 24]] := H8.call u8
      refine ⟨⟨(H9.blk 0 rfl), trivial⟩, ?_⟩
      refine WD.take hok1 15 (.bool (decide ((andB (foldB s) s) = s))) (fun _ => True) rfl rfl rfl rfl rfl trivial (.inl ⟨rfl, fun _ _ => d_bseq (andB (foldB s) s) s rfl rfl Tryd.underlying24 Tryd.underlying22 sz22 (by kernel_rfl) ⟨rfl, rfl⟩⟩) ?_
      refine WD.take hok1 16 (.bool (decide ((andB (foldB s) s) = s))) (fun _ => True) rfl rfl rfl rfl rfl trivial (.inl ⟨rfl, fun _ _ => d_pick rfl rfl ⟨rfl, rfl⟩⟩) ?_
      refine WD.take hok1 17 (.bool (decide ((andB (foldB s) s) = s))) (fun _ => True) rfl rfl rfl rfl rfl trivial (.inl ⟨rfl, fun _ _ => d_assign rfl ⟨rfl, rfl⟩⟩) ?_
      refine WD.done hok1 rfl (X.then_code ?_)
      refine W.ret (X.ret1 rfl rfl ?_)
      exact ⟨(by rw [decide_eq_true (and_fold s)]), H9.noneL⟩
    · skip
      exact absurd (fold_fold s) g51x
  · skip
    exact absurd (fold_eq s) g51

set_option maxRecDepth 20000 in
theorem escLaw_any (c : Nat) (w : World) (rT : RdT tyN8 w (.slice (some ⟨0, 0, none⟩) deB.length 64) deB) (hc : c < 256) :
    Calls Tryd.prog 4 #[.int .u8 ((c : Nat) : Int)] w (Ret fun v w' => v = .bool true ∧ Upd w [] w' []) := by
  have le_rT := rT.le
  refine calls_of_W (args := [.int .u8 ((c : Nat) : Int)]) Tryd.func4 rfl rfl rfl ?_
  have H0 : UpG w [] w [] := UpG.nil w
  show W _ _ _ _ [(0, .int .u8 ((c : Nat) : Int))] w
  refine W.seq ?_
  refine W.region ?_
  refine WL.op rfl (d_assign rfl ?_)
  refine WL.done (X.then_code ?_)
  refine W.seq ?_
  refine W.seq ?_
  refine W.region ?_
  refine WL.op rfl (d_call ok6 rfl (Ret.calls (awake_any  w (rT.at H0) ) fun _ w1 p1 => ?_))
  obtain ⟨rfl, u1⟩ := p1
  have H1 : UpG w [] w1 [] := H0.call u1
  refine WL.op rfl (d_notB rfl ?_)
  refine WL.done (X.then_code ?_)
  refine W.iff rfl ?_
  refine W.skip (X.then_code ?_)
  refine W.seq ?_
  refine W.region ?_
  refine WL.op rfl (d_move rfl ?_)
  refine WL.op rfl (d_call ok10 rfl (Ret.calls (esc_any c w1  (by omega)) fun _ w2 p2 => ?_))
  obtain ⟨rfl, u2⟩ := p2
  have H2 : UpG w [] w2 [] := H1.call u2
  refine WL.op rfl (d_move rfl ?_)
  refine WL.op rfl (d_extract rfl rfl ?_)
  refine WL.op rfl (d_extract rfl rfl ?_)
  refine WL.op rfl (d_alloc sz24 fun w3 u3 => ?_)
  have H3 : UpG w [] w3 [[blk w2.heap.size #[.int .u64 ((Bs.zero.w0.toNat : Nat) : Int), .int .u64 ((Bs.zero.w1.toNat : Nat) : Int), .int .u64 ((Bs.zero.w2.toNat : Nat) : Int), .int .u64 ((Bs.zero.w3.toNat : Nat) : Int)] 24]] := H2.new' u3
  refine WL.op0 (d_storeAB (us := [.int .u64 (((((escB c).1).w0).toNat : Nat) : Int), .int .u64 (((((escB c).1).w1).toNat : Nat) : Int), .int .u64 (((((escB c).1).w2).toNat : Nat) : Int), .int .u64 (((((escB c).1).w3).toNat : Nat) : Int)]) (cs' := #[.int .u64 (((((escB c).1).w0).toNat : Nat) : Int), .int .u64 (((((escB c).1).w1).toNat : Nat) : Int), .int .u64 (((((escB c).1).w2).toNat : Nat) : Int), .int .u64 (((((escB c).1).w3).toNat : Nat) : Int)]) sz24 rfl rfl rfl rfl (H3.blk 0 rfl) rfl rfl fun w4 u4 => ?_)
  have H4 : UpG w [] w4 [[blk w2.heap.size #[.int .u64 (((((escB c).1).w0).toNat : Nat) : Int), .int .u64 (((((escB c).1).w1).toNat : Nat) : Int), .int .u64 (((((escB c).1).w2).toNat : Nat) : Int), .int .u64 (((((escB c).1).w3).toNat : Nat) : Int)] 24]] := H3.on 0 rfl u4
  refine WL.op rfl (d_assign rfl ?_)
  refine WL.done (X.then_code ?_)
  refine W.seq ?_
  refine W.region ?_
  refine WL.op rfl (d_move rfl ?_)
  refine WL.op rfl (d_convI (kd := .i64) Tryd.underlying5 Tryd.underlying3 rfl (by simp [IntKind.signed, IntKind.bits, IntKind.max]; omega) ?_)
  refine WL.op rfl (d_call ok11 rfl (Ret.calls (resc_any c w4  ) fun _ w5 p3 => ?_))
  obtain ⟨rfl, u5⟩ := p3
  have H5 : UpG w [] w5 [[blk w2.heap.size #[.int .u64 (((((escB c).1).w0).toNat : Nat) : Int), .int .u64 (((((escB c).1).w1).toNat : Nat) : Int), .int .u64 (((((escB c).1).w2).toNat : Nat) : Int), .int .u64 (((((escB c).1).w3).toNat : Nat) : Int)] 24]] := H4.call u5
  refine WL.op rfl (d_move rfl ?_)
  refine WL.op rfl (d_extract rfl rfl ?_)
  refine WL.op rfl (d_extract rfl rfl ?_)
  refine WL.op rfl (d_alloc sz24 fun w6 u6 => ?_)
  have H6 : UpG w [] w6 [[blk w2.heap.size #[.int .u64 (((((escB c).1).w0).toNat : Nat) : Int), .int .u64 (((((escB c).1).w1).toNat : Nat) : Int), .int .u64 (((((escB c).1).w2).toNat : Nat) : Int), .int .u64 (((((escB c).1).w3).toNat : Nat) : Int)] 24], [blk w5.heap.size #[.int .u64 ((Bs.zero.w0.toNat : Nat) : Int), .int .u64 ((Bs.zero.w1.toNat : Nat) : Int), .int .u64 ((Bs.zero.w2.toNat : Nat) : Int), .int .u64 ((Bs.zero.w3.toNat : Nat) : Int)] 24]] := H5.new' u6
  refine WL.op0 (d_storeAB (us := [.int .u64 ((((setOf (inB c)).w0).toNat : Nat) : Int), .int .u64 ((((setOf (inB c)).w1).toNat : Nat) : Int), .int .u64 ((((setOf (inB c)).w2).toNat : Nat) : Int), .int .u64 ((((setOf (inB c)).w3).toNat : Nat) : Int)]) (cs' := #[.int .u64 ((((setOf (inB c)).w0).toNat : Nat) : Int), .int .u64 ((((setOf (inB c)).w1).toNat : Nat) : Int), .int .u64 ((((setOf (inB c)).w2).toNat : Nat) : Int), .int .u64 ((((setOf (inB c)).w3).toNat : Nat) : Int)]) sz24 rfl rfl rfl rfl (H6.blk 1 rfl) rfl rfl fun w7 u7 => ?_)
  have H7 : UpG w [] w7 [[blk w2.heap.size #[.int .u64 (((((escB c).1).w0).toNat : Nat) : Int), .int .u64 (((((escB c).1).w1).toNat : Nat) : Int), .int .u64 (((((escB c).1).w2).toNat : Nat) : Int), .int .u64 (((((escB c).1).w3).toNat : Nat) : Int)] 24], [blk w5.heap.size #[.int .u64 ((((setOf (inB c)).w0).toNat : Nat) : Int), .int .u64 ((((setOf (inB c)).w1).toNat : Nat) : Int), .int .u64 ((((setOf (inB c)).w2).toNat : Nat) : Int), .int .u64 ((((setOf (inB c)).w3).toNat : Nat) : Int)] 24]] := H6.on 1 rfl u7
  refine WL.op rfl (d_assign rfl ?_)
  refine WL.done (X.then_code ?_)
  refine W.seq ?_
  refine W.region ?_
  refine WL.op rfl (d_loadAB [.int .u64 (((((escB c).1).w0).toNat : Nat) : Int), .int .u64 (((((escB c).1).w1).toNat : Nat) : Int), .int .u64 (((((escB c).1).w2).toNat : Nat) : Int), .int .u64 (((((escB c).1).w3).toNat : Nat) : Int)] Tryd.underlying24 rfl sz24 rfl (H7.blk 0 rfl) rfl rfl ?_)
  refine WL.op rfl (d_loadAB [.int .u64 ((((setOf (inB c)).w0).toNat : Nat) : Int), .int .u64 ((((setOf (inB c)).w1).toNat : Nat) : Int), .int .u64 ((((setOf (inB c)).w2).toNat : Nat) : Int), .int .u64 ((((setOf (inB c)).w3).toNat : Nat) : Int)] Tryd.underlying24 rfl sz24 rfl (H7.blk 1 rfl) rfl rfl ?_)
  refine WL.op rfl (d_bseq ((escB c).1) (setOf (inB c)) rfl rfl Tryd.underlying24 Tryd.underlying22 sz22 (by kernel_rfl) ?_)
  refine WL.op rfl (d_move rfl ?_)
  refine WL.part 23 (p := ((escB c).1) = (setOf (inB c))) rfl (fun g42 => ?_) (fun g42 => ?_)
  · skip
    refine WL.opG rfl rfl rfl (d_move rfl ?_)
    refine WL.opG rfl rfl rfl (d_move rfl ?_)
    refine WL.opG rfl rfl rfl (d_booleq Tryd.underlying4 rfl rfl ?_)
    refine WL.op rfl (d_pick rfl rfl ?_)
    refine WL.op rfl (d_move rfl ?_)
    refine WL.part 28 (p := ((escB c).2) = (decide (setOf (inB c) ≠ Bs.zero))) rfl (fun g42x => ?_) (fun g42x => ?_)
    · skip
      refine WL.opG rfl rfl rfl (d_call ok13 rfl (Ret.calls (dot_any  w7  ) fun _ w8 p4 => ?_))
      obtain ⟨rfl, u8⟩ := p4
      have H8 : UpG w [] w8 [[blk w2.heap.size #[.int .u64 (((((escB c).1).w0).toNat : Nat) : Int), .int .u64 (((((escB c).1).w1).toNat : Nat) : Int), .int .u64 (((((escB c).1).w2).toNat : Nat) : Int), .int .u64 (((((escB c).1).w3).toNat : Nat) : Int)] 24], [blk w5.heap.size #[.int .u64 ((((setOf (inB c)).w0).toNat : Nat) : Int), .int .u64 ((((setOf (inB c)).w1).toNat : Nat) : Int), .int .u64 ((((setOf (inB c)).w2).toNat : Nat) : Int), .int .u64 ((((setOf (inB c)).w3).toNat : Nat) : Int)] 24]] := H7.call u8
      refine WL.opG rfl rfl rfl (d_move rfl ?_)
      refine WL.opG rfl rfl rfl (d_call ok12 rfl (Ret.calls (has_any (notB (ofS [10])) c w8  (by omega)) fun _ w9 p5 => ?_))
      obtain ⟨rfl, u9⟩ := p5
      have H9 : UpG w [] w9 [[blk w2.heap.size #[.int .u64 (((((escB c).1).w0).toNat : Nat) : Int), .int .u64 (((((escB c).1).w1).toNat : Nat) : Int), .int .u64 (((((escB c).1).w2).toNat : Nat) : Int), .int .u64 (((((escB c).1).w3).toNat : Nat) : Int)] 24], [blk w5.heap.size #[.int .u64 ((((setOf (inB c)).w0).toNat : Nat) : Int), .int .u64 ((((setOf (inB c)).w1).toNat : Nat) : Int), .int .u64 ((((setOf (inB c)).w2).toNat : Nat) : Int), .int .u64 ((((setOf (inB c)).w3).toNat : Nat) : Int)] 24]] := H8.call u9
      refine WL.opG rfl rfl rfl (d_move rfl ?_)
      refine WL.opG rfl rfl rfl (d_cmp (decide (((c : Nat) : Int) ≠ (10 : Int))) rfl rfl rfl ?_)
      refine WL.opG rfl rfl rfl (d_booleq Tryd.underlying4 rfl rfl ?_)
      refine WL.op rfl (d_pick rfl rfl ?_)
      refine WL.op rfl (d_move rfl ?_)
      refine WL.part 36 (p := ((notB (ofS [10])).has c) = (decide (((c : Nat) : Int) ≠ (10 : Int)))) rfl (fun g42xx => ?_) (fun g42xx => ?_)
      · skip
        refine WL.opG rfl rfl rfl (d_call ok13 rfl (Ret.calls (dot_any  w9  ) fun _ w10 p6 => ?_))
        obtain ⟨rfl, u10⟩ := p6
        have H10 : UpG w [] w10 [[blk w2.heap.size #[.int .u64 (((((escB c).1).w0).toNat : Nat) : Int), .int .u64 (((((escB c).1).w1).toNat : Nat) : Int), .int .u64 (((((escB c).1).w2).toNat : Nat) : Int), .int .u64 (((((escB c).1).w3).toNat : Nat) : Int)] 24], [blk w5.heap.size #[.int .u64 ((((setOf (inB c)).w0).toNat : Nat) : Int), .int .u64 ((((setOf (inB c)).w1).toNat : Nat) : Int), .int .u64 ((((setOf (inB c)).w2).toNat : Nat) : Int), .int .u64 ((((setOf (inB c)).w3).toNat : Nat) : Int)] 24]] := H9.call u10
        refine WL.opG rfl rfl rfl (d_call ok14 rfl (Ret.calls (count_any (notB (ofS [10])) w10  ) fun _ w11 p7 => ?_))
        obtain ⟨rfl, u11⟩ := p7
        have H11 : UpG w [] w11 [[blk w2.heap.size #[.int .u64 (((((escB c).1).w0).toNat : Nat) : Int), .int .u64 (((((escB c).1).w1).toNat : Nat) : Int), .int .u64 (((((escB c).1).w2).toNat : Nat) : Int), .int .u64 (((((escB c).1).w3).toNat : Nat) : Int)] 24], [blk w5.heap.size #[.int .u64 ((((setOf (inB c)).w0).toNat : Nat) : Int), .int .u64 ((((setOf (inB c)).w1).toNat : Nat) : Int), .int .u64 ((((setOf (inB c)).w2).toNat : Nat) : Int), .int .u64 ((((setOf (inB c)).w3).toNat : Nat) : Int)] 24]] := H10.call u11
        refine WL.opG rfl rfl rfl (d_cmp (decide (((popB (notB (ofS [10])) : Nat) : Int) = (255 : Int))) rfl rfl rfl ?_)
        refine WL.op rfl (d_pick rfl rfl ?_)
        refine WL.op rfl (d_assign rfl ?_)
        refine WL.done (X.then_code ?_)
        refine W.pick [2] (Γ' := [(2, .bool (decide (((popB (notB (ofS [10])) : Nat) : Int) = (255 : Int))))]) rfl ?_
        refine W.ret (X.ret1 rfl rfl ?_)
        exact ⟨(by rw [decide_eq_true (by rw [dot_count]; rfl)]), H11.noneL⟩
      · skip
        exact absurd (by rw [dot_has hc]; (first | rfl | (rw [decide_eq_decide]; omega))) g42xx
    · skip
      exact absurd (esc_eq hc).2 g42x
  · skip
    exact absurd (esc_eq hc).1 g42
end Go.Proofs.YtnjjjmpdikpjaaaDoor

