/- The walks of functions, printed by wip/tools/gw.py. -/
import Derived.Test.YtnjjjmpdikpjaaaDoorNamedEscapesB1
import Derived.Test.YtnjjjmpdikpjaaaDoorNamedEscapesB3
namespace Go.Proofs.YtnjjjmpdikpjaaaDoor
open Go Go.Sx
set_option linter.unusedVariables false
set_option linter.unusedSimpArgs false
set_option maxRecDepth 20000 in
theorem esc0_any (c : Nat) (w : World) (hc : c = 100 ∨ c = 115 ∨ c = 119) :
    Calls Tryd.prog 10 #[.int .u8 ((c : Nat) : Int)] w (Ret fun v w' => v = .tuple #[.agg #[.int .u64 ((((esc0 c).w0).toNat : Nat) : Int), .int .u64 ((((esc0 c).w1).toNat : Nat) : Int), .int .u64 ((((esc0 c).w2).toNat : Nat) : Int), .int .u64 ((((esc0 c).w3).toNat : Nat) : Int)], .bool true] ∧ Upd w [] w' []) := by
  refine calls_of_W (args := [.int .u8 ((c : Nat) : Int)]) Tryd.func10 rfl rfl rfl ?_
  have H0 : UpG w [] w [] := UpG.nil w
  show W _ _ _ _ [(0, .int .u8 ((c : Nat) : Int))] w
  refine W.seq ?_
  refine W.region ?_
  refine WL.op rfl (d_alloc sz24 fun w1 u1 => ?_)
  have H1 : UpG w [] w1 [[blk w.heap.size #[.int .u64 ((Bs.zero.w0.toNat : Nat) : Int), .int .u64 ((Bs.zero.w1.toNat : Nat) : Int), .int .u64 ((Bs.zero.w2.toNat : Nat) : Int), .int .u64 ((Bs.zero.w3.toNat : Nat) : Int)] 24]] := H0.new' u1
  refine WL.op rfl (d_assign rfl ?_)
  refine WL.done (X.then_code ?_)
  refine W.seq ?_
  refine W.seq ?_
  refine W.region ?_
  refine WL.op rfl (d_move rfl ?_)
  refine WL.done (X.then_code ?_)
  refine W.block ?_
  refine W.seq ?_
  refine W.region ?_
  refine WL.op rfl (d_cmp (decide (((c : Nat) : Int) = (110 : Int))) rfl rfl rfl ?_)
  refine WL.op rfl (d_assign rfl ?_)
  refine WL.done (X.then_code ?_)
  refine W.ite (p := ((c : Nat) : Int) = (110 : Int)) rfl (fun c65 => ?_) (fun c65 => ?_)
  · skip
    exfalso; omega
  · skip
    refine W.seq ?_
    refine W.region ?_
    refine WL.op rfl (d_cmp (decide (((c : Nat) : Int) = (116 : Int))) rfl rfl rfl ?_)
    refine WL.op rfl (d_assign rfl ?_)
    refine WL.done (X.then_code ?_)
    refine W.ite (p := ((c : Nat) : Int) = (116 : Int)) rfl (fun c67 => ?_) (fun c67 => ?_)
    · skip
      exfalso; omega
    · skip
      refine W.seq ?_
      refine W.region ?_
      refine WL.op rfl (d_cmp (decide (((c : Nat) : Int) = (114 : Int))) rfl rfl rfl ?_)
      refine WL.op rfl (d_assign rfl ?_)
      refine WL.done (X.then_code ?_)
      refine W.ite (p := ((c : Nat) : Int) = (114 : Int)) rfl (fun c69 => ?_) (fun c69 => ?_)
      · skip
        exfalso; omega
      · skip
        refine W.seq ?_
        refine W.region ?_
        refine WL.op rfl (d_cmp (decide (((c : Nat) : Int) = (100 : Int))) rfl rfl rfl ?_)
        refine WL.op rfl (d_assign rfl ?_)
        refine WL.done (X.then_code ?_)
        refine W.ite (p := ((c : Nat) : Int) = (100 : Int)) rfl (fun c71 => ?_) (fun c71 => ?_)
        · skip
          refine W.seq ?_
          refine W.region ?_
          refine WL.op rfl (d_call ok20 rfl (Ret.calls (of2_any ⟨#[100, 105, 103, 105, 116]⟩ w1  ) fun _ w2 p1 => ?_))
          obtain ⟨rfl, u2⟩ := p1
          have H2 : UpG w [] w2 [[blk w.heap.size #[.int .u64 ((Bs.zero.w0.toNat : Nat) : Int), .int .u64 ((Bs.zero.w1.toNat : Nat) : Int), .int .u64 ((Bs.zero.w2.toNat : Nat) : Int), .int .u64 ((Bs.zero.w3.toNat : Nat) : Int)] 24]] := H1.call u2
          refine WL.op0 (d_storeAB (us := [.int .u64 ((((classB ⟨#[100, 105, 103, 105, 116]⟩).w0).toNat : Nat) : Int), .int .u64 ((((classB ⟨#[100, 105, 103, 105, 116]⟩).w1).toNat : Nat) : Int), .int .u64 ((((classB ⟨#[100, 105, 103, 105, 116]⟩).w2).toNat : Nat) : Int), .int .u64 ((((classB ⟨#[100, 105, 103, 105, 116]⟩).w3).toNat : Nat) : Int)]) (cs' := #[.int .u64 ((((classB ⟨#[100, 105, 103, 105, 116]⟩).w0).toNat : Nat) : Int), .int .u64 ((((classB ⟨#[100, 105, 103, 105, 116]⟩).w1).toNat : Nat) : Int), .int .u64 ((((classB ⟨#[100, 105, 103, 105, 116]⟩).w2).toNat : Nat) : Int), .int .u64 ((((classB ⟨#[100, 105, 103, 105, 116]⟩).w3).toNat : Nat) : Int)]) sz24 rfl rfl rfl rfl (H2.blk 0 rfl) rfl rfl fun w3 u3 => ?_)
          have H3 : UpG w [] w3 [[blk w.heap.size #[.int .u64 ((((classB ⟨#[100, 105, 103, 105, 116]⟩).w0).toNat : Nat) : Int), .int .u64 ((((classB ⟨#[100, 105, 103, 105, 116]⟩).w1).toNat : Nat) : Int), .int .u64 ((((classB ⟨#[100, 105, 103, 105, 116]⟩).w2).toNat : Nat) : Int), .int .u64 ((((classB ⟨#[100, 105, 103, 105, 116]⟩).w3).toNat : Nat) : Int)] 24]] := H2.on 0 rfl u3
          refine WL.op rfl (d_assign rfl ?_)
          refine WL.done (X.then_code ?_)
          refine W.ret (X.block_ret (X.then_ret (X.retR2 rfl (rv_cellA [.int .u64 ((((classB ⟨#[100, 105, 103, 105, 116]⟩).w0).toNat : Nat) : Int), .int .u64 ((((classB ⟨#[100, 105, 103, 105, 116]⟩).w1).toNat : Nat) : Int), .int .u64 ((((classB ⟨#[100, 105, 103, 105, 116]⟩).w2).toNat : Nat) : Int), .int .u64 ((((classB ⟨#[100, 105, 103, 105, 116]⟩).w3).toNat : Nat) : Int)] Tryd.underlying24 rfl sz24 rfl (H3.blk 0 rfl) rfl rfl) (rv_tmp rfl) ?_)))
          have e : esc0 c = classB ⟨#[100, 105, 103, 105, 116]⟩ := if_pos (by omega)
          exact ⟨(by rw [e]), H3.noneL⟩
        · skip
          refine W.seq ?_
          refine W.region ?_
          refine WL.op rfl (d_cmp (decide (((c : Nat) : Int) = (115 : Int))) rfl rfl rfl ?_)
          refine WL.op rfl (d_assign rfl ?_)
          refine WL.done (X.then_code ?_)
          refine W.ite (p := ((c : Nat) : Int) = (115 : Int)) rfl (fun c73 => ?_) (fun c73 => ?_)
          · skip
            refine W.seq ?_
            refine W.region ?_
            refine WL.op rfl (d_call ok20 rfl (Ret.calls (of2_any ⟨#[115, 112, 97, 99, 101]⟩ w1  ) fun _ w4 p2 => ?_))
            obtain ⟨rfl, u4⟩ := p2
            have H4 : UpG w [] w4 [[blk w.heap.size #[.int .u64 ((Bs.zero.w0.toNat : Nat) : Int), .int .u64 ((Bs.zero.w1.toNat : Nat) : Int), .int .u64 ((Bs.zero.w2.toNat : Nat) : Int), .int .u64 ((Bs.zero.w3.toNat : Nat) : Int)] 24]] := H1.call u4
            refine WL.op0 (d_storeAB (us := [.int .u64 ((((classB ⟨#[115, 112, 97, 99, 101]⟩).w0).toNat : Nat) : Int), .int .u64 ((((classB ⟨#[115, 112, 97, 99, 101]⟩).w1).toNat : Nat) : Int), .int .u64 ((((classB ⟨#[115, 112, 97, 99, 101]⟩).w2).toNat : Nat) : Int), .int .u64 ((((classB ⟨#[115, 112, 97, 99, 101]⟩).w3).toNat : Nat) : Int)]) (cs' := #[.int .u64 ((((classB ⟨#[115, 112, 97, 99, 101]⟩).w0).toNat : Nat) : Int), .int .u64 ((((classB ⟨#[115, 112, 97, 99, 101]⟩).w1).toNat : Nat) : Int), .int .u64 ((((classB ⟨#[115, 112, 97, 99, 101]⟩).w2).toNat : Nat) : Int), .int .u64 ((((classB ⟨#[115, 112, 97, 99, 101]⟩).w3).toNat : Nat) : Int)]) sz24 rfl rfl rfl rfl (H4.blk 0 rfl) rfl rfl fun w5 u5 => ?_)
            have H5 : UpG w [] w5 [[blk w.heap.size #[.int .u64 ((((classB ⟨#[115, 112, 97, 99, 101]⟩).w0).toNat : Nat) : Int), .int .u64 ((((classB ⟨#[115, 112, 97, 99, 101]⟩).w1).toNat : Nat) : Int), .int .u64 ((((classB ⟨#[115, 112, 97, 99, 101]⟩).w2).toNat : Nat) : Int), .int .u64 ((((classB ⟨#[115, 112, 97, 99, 101]⟩).w3).toNat : Nat) : Int)] 24]] := H4.on 0 rfl u5
            refine WL.op rfl (d_assign rfl ?_)
            refine WL.done (X.then_code ?_)
            refine W.ret (X.block_ret (X.then_ret (X.retR2 rfl (rv_cellA [.int .u64 ((((classB ⟨#[115, 112, 97, 99, 101]⟩).w0).toNat : Nat) : Int), .int .u64 ((((classB ⟨#[115, 112, 97, 99, 101]⟩).w1).toNat : Nat) : Int), .int .u64 ((((classB ⟨#[115, 112, 97, 99, 101]⟩).w2).toNat : Nat) : Int), .int .u64 ((((classB ⟨#[115, 112, 97, 99, 101]⟩).w3).toNat : Nat) : Int)] Tryd.underlying24 rfl sz24 rfl (H5.blk 0 rfl) rfl rfl) (rv_tmp rfl) ?_)))
            have e : esc0 c = classB ⟨#[115, 112, 97, 99, 101]⟩ := by unfold esc0; rw [if_neg (by omega), if_pos (by omega)]
            exact ⟨(by rw [e]), H5.noneL⟩
          · skip
            refine W.seq ?_
            refine W.region ?_
            refine WL.op rfl (d_cmp (decide (((c : Nat) : Int) = (119 : Int))) rfl rfl rfl ?_)
            refine WL.op rfl (d_assign rfl ?_)
            refine WL.done (X.then_code ?_)
            refine W.ite (p := ((c : Nat) : Int) = (119 : Int)) rfl (fun c75 => ?_) (fun c75 => ?_)
            · skip
              refine W.seq ?_
              refine W.region ?_
              refine WL.op rfl (d_call ok20 rfl (Ret.calls (of2_any ⟨#[97, 108, 110, 117, 109]⟩ w1  ) fun _ w6 p3 => ?_))
              obtain ⟨rfl, u6⟩ := p3
              have H6 : UpG w [] w6 [[blk w.heap.size #[.int .u64 ((Bs.zero.w0.toNat : Nat) : Int), .int .u64 ((Bs.zero.w1.toNat : Nat) : Int), .int .u64 ((Bs.zero.w2.toNat : Nat) : Int), .int .u64 ((Bs.zero.w3.toNat : Nat) : Int)] 24]] := H1.call u6
              refine WL.op rfl (t_buildSlice (T := tyN8) (xs := [95]) (cs := #[.int .u8 95]) rfl Tryd.underlying41 sz5 rfl rfl rfl rfl (by kernel_rfl) rfl rfl fun w7 u7 => ?_)
              have H7 : UpG w [] w7 [[blk w.heap.size #[.int .u64 ((Bs.zero.w0.toNat : Nat) : Int), .int .u64 ((Bs.zero.w1.toNat : Nat) : Int), .int .u64 ((Bs.zero.w2.toNat : Nat) : Int), .int .u64 ((Bs.zero.w3.toNat : Nat) : Int)] 24], [rowT tyN8 (.slice (some ⟨w6.heap.size, 0, none⟩) ([95].length) ([95].length)) 5 [95]]] := H6.new' u7
              refine WL.op rfl (d_call ok18 rfl (Ret.calls (of_any (some ⟨w6.heap.size, 0, none⟩) [95] ([95].length) ([95].length) w7 (H7.rdT 1 rfl) (by intro c hc; simp at hc; omega)) fun _ w8 p4 => ?_))
              obtain ⟨rfl, u8⟩ := p4
              have H8 : UpG w [] w8 [[blk w.heap.size #[.int .u64 ((Bs.zero.w0.toNat : Nat) : Int), .int .u64 ((Bs.zero.w1.toNat : Nat) : Int), .int .u64 ((Bs.zero.w2.toNat : Nat) : Int), .int .u64 ((Bs.zero.w3.toNat : Nat) : Int)] 24], [rowT tyN8 (.slice (some ⟨w6.heap.size, 0, none⟩) ([95].length) ([95].length)) 5 [95]]] := H7.call u8
              refine WL.op rfl (d_call ok21 rfl (Ret.calls (or_any (classB ⟨#[97, 108, 110, 117, 109]⟩) (ofS [95]) w8  ) fun _ w9 p5 => ?_))
              obtain ⟨rfl, u9⟩ := p5
              have H9 : UpG w [] w9 [[blk w.heap.size #[.int .u64 ((Bs.zero.w0.toNat : Nat) : Int), .int .u64 ((Bs.zero.w1.toNat : Nat) : Int), .int .u64 ((Bs.zero.w2.toNat : Nat) : Int), .int .u64 ((Bs.zero.w3.toNat : Nat) : Int)] 24], [rowT tyN8 (.slice (some ⟨w6.heap.size, 0, none⟩) ([95].length) ([95].length)) 5 [95]]] := H8.call u9
              refine WL.op0 (d_storeAB (us := [.int .u64 ((((orB (classB ⟨#[97, 108, 110, 117, 109]⟩) (ofS [95])).w0).toNat : Nat) : Int), .int .u64 ((((orB (classB ⟨#[97, 108, 110, 117, 109]⟩) (ofS [95])).w1).toNat : Nat) : Int), .int .u64 ((((orB (classB ⟨#[97, 108, 110, 117, 109]⟩) (ofS [95])).w2).toNat : Nat) : Int), .int .u64 ((((orB (classB ⟨#[97, 108, 110, 117, 109]⟩) (ofS [95])).w3).toNat : Nat) : Int)]) (cs' := #[.int .u64 ((((orB (classB ⟨#[97, 108, 110, 117, 109]⟩) (ofS [95])).w0).toNat : Nat) : Int), .int .u64 ((((orB (classB ⟨#[97, 108, 110, 117, 109]⟩) (ofS [95])).w1).toNat : Nat) : Int), .int .u64 ((((orB (classB ⟨#[97, 108, 110, 117, 109]⟩) (ofS [95])).w2).toNat : Nat) : Int), .int .u64 ((((orB (classB ⟨#[97, 108, 110, 117, 109]⟩) (ofS [95])).w3).toNat : Nat) : Int)]) sz24 rfl rfl rfl rfl (H9.blk 0 rfl) rfl rfl fun w10 u10 => ?_)
              have H10 : UpG w [] w10 [[blk w.heap.size #[.int .u64 ((((orB (classB ⟨#[97, 108, 110, 117, 109]⟩) (ofS [95])).w0).toNat : Nat) : Int), .int .u64 ((((orB (classB ⟨#[97, 108, 110, 117, 109]⟩) (ofS [95])).w1).toNat : Nat) : Int), .int .u64 ((((orB (classB ⟨#[97, 108, 110, 117, 109]⟩) (ofS [95])).w2).toNat : Nat) : Int), .int .u64 ((((orB (classB ⟨#[97, 108, 110, 117, 109]⟩) (ofS [95])).w3).toNat : Nat) : Int)] 24], [rowT tyN8 (.slice (some ⟨w6.heap.size, 0, none⟩) ([95].length) ([95].length)) 5 [95]]] := H9.on 0 rfl u10
              refine WL.op rfl (d_assign rfl ?_)
              refine WL.done (X.then_code ?_)
              refine W.ret (X.block_ret (X.then_ret (X.retR2 rfl (rv_cellA [.int .u64 ((((orB (classB ⟨#[97, 108, 110, 117, 109]⟩) (ofS [95])).w0).toNat : Nat) : Int), .int .u64 ((((orB (classB ⟨#[97, 108, 110, 117, 109]⟩) (ofS [95])).w1).toNat : Nat) : Int), .int .u64 ((((orB (classB ⟨#[97, 108, 110, 117, 109]⟩) (ofS [95])).w2).toNat : Nat) : Int), .int .u64 ((((orB (classB ⟨#[97, 108, 110, 117, 109]⟩) (ofS [95])).w3).toNat : Nat) : Int)] Tryd.underlying24 rfl sz24 rfl (H10.blk 0 rfl) rfl rfl) (rv_tmp rfl) ?_)))
              have e : esc0 c = orB (classB ⟨#[97, 108, 110, 117, 109]⟩) (ofS [95]) := by unfold esc0; rw [if_neg (by omega), if_neg (by omega)]
              exact ⟨(by rw [e]), H10.noneL⟩
            · skip
              exfalso; omega

set_option maxRecDepth 20000 in
theorem esc_any (c : Nat) (w : World) (hc : c < 256) :
    Calls Tryd.prog 10 #[.int .u8 ((c : Nat) : Int)] w (Ret fun v w' => v = .tuple #[.agg #[.int .u64 (((((escB c).1).w0).toNat : Nat) : Int), .int .u64 (((((escB c).1).w1).toNat : Nat) : Int), .int .u64 (((((escB c).1).w2).toNat : Nat) : Int), .int .u64 (((((escB c).1).w3).toNat : Nat) : Int)], .bool ((escB c).2)] ∧ Upd w [] w' []) := by
  refine calls_of_W (args := [.int .u8 ((c : Nat) : Int)]) Tryd.func10 rfl rfl rfl ?_
  have H0 : UpG w [] w [] := UpG.nil w
  show W _ _ _ _ [(0, .int .u8 ((c : Nat) : Int))] w
  refine W.seq ?_
  refine W.region ?_
  refine WL.op rfl (d_alloc sz24 fun w1 u1 => ?_)
  have H1 : UpG w [] w1 [[blk w.heap.size #[.int .u64 ((Bs.zero.w0.toNat : Nat) : Int), .int .u64 ((Bs.zero.w1.toNat : Nat) : Int), .int .u64 ((Bs.zero.w2.toNat : Nat) : Int), .int .u64 ((Bs.zero.w3.toNat : Nat) : Int)] 24]] := H0.new' u1
  refine WL.op rfl (d_assign rfl ?_)
  refine WL.done (X.then_code ?_)
  refine W.seq ?_
  refine W.seq ?_
  refine W.region ?_
  refine WL.op rfl (d_move rfl ?_)
  refine WL.done (X.then_code ?_)
  refine W.block ?_
  refine W.seq ?_
  refine W.region ?_
  refine WL.op rfl (d_cmp (decide (((c : Nat) : Int) = (110 : Int))) rfl rfl rfl ?_)
  refine WL.op rfl (d_assign rfl ?_)
  refine WL.done (X.then_code ?_)
  refine W.ite (p := ((c : Nat) : Int) = (110 : Int)) rfl (fun c65 => ?_) (fun c65 => ?_)
  · skip
    refine W.seq ?_
    refine W.region ?_
    refine WL.op rfl (t_buildSlice (T := tyN8) (xs := [10]) (cs := #[.int .u8 10]) rfl Tryd.underlying41 sz5 rfl rfl rfl rfl (by kernel_rfl) rfl rfl fun w2 u2 => ?_)
    have H2 : UpG w [] w2 [[blk w.heap.size #[.int .u64 ((Bs.zero.w0.toNat : Nat) : Int), .int .u64 ((Bs.zero.w1.toNat : Nat) : Int), .int .u64 ((Bs.zero.w2.toNat : Nat) : Int), .int .u64 ((Bs.zero.w3.toNat : Nat) : Int)] 24], [rowT tyN8 (.slice (some ⟨w1.heap.size, 0, none⟩) ([10].length) ([10].length)) 5 [10]]] := H1.new' u2
    refine WL.op rfl (d_call ok18 rfl (Ret.calls (of_any (some ⟨w1.heap.size, 0, none⟩) [10] ([10].length) ([10].length) w2 (H2.rdT 1 rfl) (by intro c hc; simp at hc; omega)) fun _ w3 p1 => ?_))
    obtain ⟨rfl, u3⟩ := p1
    have H3 : UpG w [] w3 [[blk w.heap.size #[.int .u64 ((Bs.zero.w0.toNat : Nat) : Int), .int .u64 ((Bs.zero.w1.toNat : Nat) : Int), .int .u64 ((Bs.zero.w2.toNat : Nat) : Int), .int .u64 ((Bs.zero.w3.toNat : Nat) : Int)] 24], [rowT tyN8 (.slice (some ⟨w1.heap.size, 0, none⟩) ([10].length) ([10].length)) 5 [10]]] := H2.call u3
    refine WL.op0 (d_storeAB (us := [.int .u64 ((((ofS [10]).w0).toNat : Nat) : Int), .int .u64 ((((ofS [10]).w1).toNat : Nat) : Int), .int .u64 ((((ofS [10]).w2).toNat : Nat) : Int), .int .u64 ((((ofS [10]).w3).toNat : Nat) : Int)]) (cs' := #[.int .u64 ((((ofS [10]).w0).toNat : Nat) : Int), .int .u64 ((((ofS [10]).w1).toNat : Nat) : Int), .int .u64 ((((ofS [10]).w2).toNat : Nat) : Int), .int .u64 ((((ofS [10]).w3).toNat : Nat) : Int)]) sz24 rfl rfl rfl rfl (H3.blk 0 rfl) rfl rfl fun w4 u4 => ?_)
    have H4 : UpG w [] w4 [[blk w.heap.size #[.int .u64 ((((ofS [10]).w0).toNat : Nat) : Int), .int .u64 ((((ofS [10]).w1).toNat : Nat) : Int), .int .u64 ((((ofS [10]).w2).toNat : Nat) : Int), .int .u64 ((((ofS [10]).w3).toNat : Nat) : Int)] 24], [rowT tyN8 (.slice (some ⟨w1.heap.size, 0, none⟩) ([10].length) ([10].length)) 5 [10]]] := H3.on 0 rfl u4
    refine WL.op rfl (d_assign rfl ?_)
    refine WL.done (X.then_code ?_)
    refine W.ret (X.block_ret (X.then_ret (X.retR2 rfl (rv_cellA [.int .u64 ((((ofS [10]).w0).toNat : Nat) : Int), .int .u64 ((((ofS [10]).w1).toNat : Nat) : Int), .int .u64 ((((ofS [10]).w2).toNat : Nat) : Int), .int .u64 ((((ofS [10]).w3).toNat : Nat) : Int)] Tryd.underlying24 rfl sz24 rfl (H4.blk 0 rfl) rfl rfl) (rv_tmp rfl) ?_)))
    have e : escB c = (ofS [10], true) := by unfold escB; rw [if_pos (by omega)]
    exact ⟨(by rw [e]), H4.noneL⟩
  · skip
    refine W.seq ?_
    refine W.region ?_
    refine WL.op rfl (d_cmp (decide (((c : Nat) : Int) = (116 : Int))) rfl rfl rfl ?_)
    refine WL.op rfl (d_assign rfl ?_)
    refine WL.done (X.then_code ?_)
    refine W.ite (p := ((c : Nat) : Int) = (116 : Int)) rfl (fun c67 => ?_) (fun c67 => ?_)
    · skip
      refine W.seq ?_
      refine W.region ?_
      refine WL.op rfl (t_buildSlice (T := tyN8) (xs := [9]) (cs := #[.int .u8 9]) rfl Tryd.underlying41 sz5 rfl rfl rfl rfl (by kernel_rfl) rfl rfl fun w5 u5 => ?_)
      have H5 : UpG w [] w5 [[blk w.heap.size #[.int .u64 ((Bs.zero.w0.toNat : Nat) : Int), .int .u64 ((Bs.zero.w1.toNat : Nat) : Int), .int .u64 ((Bs.zero.w2.toNat : Nat) : Int), .int .u64 ((Bs.zero.w3.toNat : Nat) : Int)] 24], [rowT tyN8 (.slice (some ⟨w1.heap.size, 0, none⟩) ([9].length) ([9].length)) 5 [9]]] := H1.new' u5
      refine WL.op rfl (d_call ok18 rfl (Ret.calls (of_any (some ⟨w1.heap.size, 0, none⟩) [9] ([9].length) ([9].length) w5 (H5.rdT 1 rfl) (by intro c hc; simp at hc; omega)) fun _ w6 p2 => ?_))
      obtain ⟨rfl, u6⟩ := p2
      have H6 : UpG w [] w6 [[blk w.heap.size #[.int .u64 ((Bs.zero.w0.toNat : Nat) : Int), .int .u64 ((Bs.zero.w1.toNat : Nat) : Int), .int .u64 ((Bs.zero.w2.toNat : Nat) : Int), .int .u64 ((Bs.zero.w3.toNat : Nat) : Int)] 24], [rowT tyN8 (.slice (some ⟨w1.heap.size, 0, none⟩) ([9].length) ([9].length)) 5 [9]]] := H5.call u6
      refine WL.op0 (d_storeAB (us := [.int .u64 ((((ofS [9]).w0).toNat : Nat) : Int), .int .u64 ((((ofS [9]).w1).toNat : Nat) : Int), .int .u64 ((((ofS [9]).w2).toNat : Nat) : Int), .int .u64 ((((ofS [9]).w3).toNat : Nat) : Int)]) (cs' := #[.int .u64 ((((ofS [9]).w0).toNat : Nat) : Int), .int .u64 ((((ofS [9]).w1).toNat : Nat) : Int), .int .u64 ((((ofS [9]).w2).toNat : Nat) : Int), .int .u64 ((((ofS [9]).w3).toNat : Nat) : Int)]) sz24 rfl rfl rfl rfl (H6.blk 0 rfl) rfl rfl fun w7 u7 => ?_)
      have H7 : UpG w [] w7 [[blk w.heap.size #[.int .u64 ((((ofS [9]).w0).toNat : Nat) : Int), .int .u64 ((((ofS [9]).w1).toNat : Nat) : Int), .int .u64 ((((ofS [9]).w2).toNat : Nat) : Int), .int .u64 ((((ofS [9]).w3).toNat : Nat) : Int)] 24], [rowT tyN8 (.slice (some ⟨w1.heap.size, 0, none⟩) ([9].length) ([9].length)) 5 [9]]] := H6.on 0 rfl u7
      refine WL.op rfl (d_assign rfl ?_)
      refine WL.done (X.then_code ?_)
      refine W.ret (X.block_ret (X.then_ret (X.retR2 rfl (rv_cellA [.int .u64 ((((ofS [9]).w0).toNat : Nat) : Int), .int .u64 ((((ofS [9]).w1).toNat : Nat) : Int), .int .u64 ((((ofS [9]).w2).toNat : Nat) : Int), .int .u64 ((((ofS [9]).w3).toNat : Nat) : Int)] Tryd.underlying24 rfl sz24 rfl (H7.blk 0 rfl) rfl rfl) (rv_tmp rfl) ?_)))
      have e : escB c = (ofS [9], true) := by unfold escB; rw [if_neg (by omega), if_pos (by omega)]
      exact ⟨(by rw [e]), H7.noneL⟩
    · skip
      refine W.seq ?_
      refine W.region ?_
      refine WL.op rfl (d_cmp (decide (((c : Nat) : Int) = (114 : Int))) rfl rfl rfl ?_)
      refine WL.op rfl (d_assign rfl ?_)
      refine WL.done (X.then_code ?_)
      refine W.ite (p := ((c : Nat) : Int) = (114 : Int)) rfl (fun c69 => ?_) (fun c69 => ?_)
      · skip
        refine W.seq ?_
        refine W.region ?_
        refine WL.op rfl (t_buildSlice (T := tyN8) (xs := [13]) (cs := #[.int .u8 13]) rfl Tryd.underlying41 sz5 rfl rfl rfl rfl (by kernel_rfl) rfl rfl fun w8 u8 => ?_)
        have H8 : UpG w [] w8 [[blk w.heap.size #[.int .u64 ((Bs.zero.w0.toNat : Nat) : Int), .int .u64 ((Bs.zero.w1.toNat : Nat) : Int), .int .u64 ((Bs.zero.w2.toNat : Nat) : Int), .int .u64 ((Bs.zero.w3.toNat : Nat) : Int)] 24], [rowT tyN8 (.slice (some ⟨w1.heap.size, 0, none⟩) ([13].length) ([13].length)) 5 [13]]] := H1.new' u8
        refine WL.op rfl (d_call ok18 rfl (Ret.calls (of_any (some ⟨w1.heap.size, 0, none⟩) [13] ([13].length) ([13].length) w8 (H8.rdT 1 rfl) (by intro c hc; simp at hc; omega)) fun _ w9 p3 => ?_))
        obtain ⟨rfl, u9⟩ := p3
        have H9 : UpG w [] w9 [[blk w.heap.size #[.int .u64 ((Bs.zero.w0.toNat : Nat) : Int), .int .u64 ((Bs.zero.w1.toNat : Nat) : Int), .int .u64 ((Bs.zero.w2.toNat : Nat) : Int), .int .u64 ((Bs.zero.w3.toNat : Nat) : Int)] 24], [rowT tyN8 (.slice (some ⟨w1.heap.size, 0, none⟩) ([13].length) ([13].length)) 5 [13]]] := H8.call u9
        refine WL.op0 (d_storeAB (us := [.int .u64 ((((ofS [13]).w0).toNat : Nat) : Int), .int .u64 ((((ofS [13]).w1).toNat : Nat) : Int), .int .u64 ((((ofS [13]).w2).toNat : Nat) : Int), .int .u64 ((((ofS [13]).w3).toNat : Nat) : Int)]) (cs' := #[.int .u64 ((((ofS [13]).w0).toNat : Nat) : Int), .int .u64 ((((ofS [13]).w1).toNat : Nat) : Int), .int .u64 ((((ofS [13]).w2).toNat : Nat) : Int), .int .u64 ((((ofS [13]).w3).toNat : Nat) : Int)]) sz24 rfl rfl rfl rfl (H9.blk 0 rfl) rfl rfl fun w10 u10 => ?_)
        have H10 : UpG w [] w10 [[blk w.heap.size #[.int .u64 ((((ofS [13]).w0).toNat : Nat) : Int), .int .u64 ((((ofS [13]).w1).toNat : Nat) : Int), .int .u64 ((((ofS [13]).w2).toNat : Nat) : Int), .int .u64 ((((ofS [13]).w3).toNat : Nat) : Int)] 24], [rowT tyN8 (.slice (some ⟨w1.heap.size, 0, none⟩) ([13].length) ([13].length)) 5 [13]]] := H9.on 0 rfl u10
        refine WL.op rfl (d_assign rfl ?_)
        refine WL.done (X.then_code ?_)
        refine W.ret (X.block_ret (X.then_ret (X.retR2 rfl (rv_cellA [.int .u64 ((((ofS [13]).w0).toNat : Nat) : Int), .int .u64 ((((ofS [13]).w1).toNat : Nat) : Int), .int .u64 ((((ofS [13]).w2).toNat : Nat) : Int), .int .u64 ((((ofS [13]).w3).toNat : Nat) : Int)] Tryd.underlying24 rfl sz24 rfl (H10.blk 0 rfl) rfl rfl) (rv_tmp rfl) ?_)))
        have e : escB c = (ofS [13], true) := by unfold escB; rw [if_neg (by omega), if_neg (by omega), if_pos (by omega)]
        exact ⟨(by rw [e]), H10.noneL⟩
      · skip
        refine W.seq ?_
        refine W.region ?_
        refine WL.op rfl (d_cmp (decide (((c : Nat) : Int) = (100 : Int))) rfl rfl rfl ?_)
        refine WL.op rfl (d_assign rfl ?_)
        refine WL.done (X.then_code ?_)
        refine W.ite (p := ((c : Nat) : Int) = (100 : Int)) rfl (fun c71 => ?_) (fun c71 => ?_)
        · skip
          refine W.seq ?_
          refine W.region ?_
          refine WL.op rfl (d_call ok20 rfl (Ret.calls (of2_any ⟨#[100, 105, 103, 105, 116]⟩ w1  ) fun _ w11 p4 => ?_))
          obtain ⟨rfl, u11⟩ := p4
          have H11 : UpG w [] w11 [[blk w.heap.size #[.int .u64 ((Bs.zero.w0.toNat : Nat) : Int), .int .u64 ((Bs.zero.w1.toNat : Nat) : Int), .int .u64 ((Bs.zero.w2.toNat : Nat) : Int), .int .u64 ((Bs.zero.w3.toNat : Nat) : Int)] 24]] := H1.call u11
          refine WL.op0 (d_storeAB (us := [.int .u64 ((((classB ⟨#[100, 105, 103, 105, 116]⟩).w0).toNat : Nat) : Int), .int .u64 ((((classB ⟨#[100, 105, 103, 105, 116]⟩).w1).toNat : Nat) : Int), .int .u64 ((((classB ⟨#[100, 105, 103, 105, 116]⟩).w2).toNat : Nat) : Int), .int .u64 ((((classB ⟨#[100, 105, 103, 105, 116]⟩).w3).toNat : Nat) : Int)]) (cs' := #[.int .u64 ((((classB ⟨#[100, 105, 103, 105, 116]⟩).w0).toNat : Nat) : Int), .int .u64 ((((classB ⟨#[100, 105, 103, 105, 116]⟩).w1).toNat : Nat) : Int), .int .u64 ((((classB ⟨#[100, 105, 103, 105, 116]⟩).w2).toNat : Nat) : Int), .int .u64 ((((classB ⟨#[100, 105, 103, 105, 116]⟩).w3).toNat : Nat) : Int)]) sz24 rfl rfl rfl rfl (H11.blk 0 rfl) rfl rfl fun w12 u12 => ?_)
          have H12 : UpG w [] w12 [[blk w.heap.size #[.int .u64 ((((classB ⟨#[100, 105, 103, 105, 116]⟩).w0).toNat : Nat) : Int), .int .u64 ((((classB ⟨#[100, 105, 103, 105, 116]⟩).w1).toNat : Nat) : Int), .int .u64 ((((classB ⟨#[100, 105, 103, 105, 116]⟩).w2).toNat : Nat) : Int), .int .u64 ((((classB ⟨#[100, 105, 103, 105, 116]⟩).w3).toNat : Nat) : Int)] 24]] := H11.on 0 rfl u12
          refine WL.op rfl (d_assign rfl ?_)
          refine WL.done (X.then_code ?_)
          refine W.ret (X.block_ret (X.then_ret (X.retR2 rfl (rv_cellA [.int .u64 ((((classB ⟨#[100, 105, 103, 105, 116]⟩).w0).toNat : Nat) : Int), .int .u64 ((((classB ⟨#[100, 105, 103, 105, 116]⟩).w1).toNat : Nat) : Int), .int .u64 ((((classB ⟨#[100, 105, 103, 105, 116]⟩).w2).toNat : Nat) : Int), .int .u64 ((((classB ⟨#[100, 105, 103, 105, 116]⟩).w3).toNat : Nat) : Int)] Tryd.underlying24 rfl sz24 rfl (H12.blk 0 rfl) rfl rfl) (rv_tmp rfl) ?_)))
          have e : escB c = (esc0 c, true) := by unfold escB; rw [if_neg (by omega), if_neg (by omega), if_neg (by omega), if_pos (by omega)]
          have e1 : esc0 c = classB ⟨#[100, 105, 103, 105, 116]⟩ := if_pos (by omega)
          exact ⟨(by rw [e, e1]), H12.noneL⟩
        · skip
          refine W.seq ?_
          refine W.region ?_
          refine WL.op rfl (d_cmp (decide (((c : Nat) : Int) = (115 : Int))) rfl rfl rfl ?_)
          refine WL.op rfl (d_assign rfl ?_)
          refine WL.done (X.then_code ?_)
          refine W.ite (p := ((c : Nat) : Int) = (115 : Int)) rfl (fun c73 => ?_) (fun c73 => ?_)
          · skip
            refine W.seq ?_
            refine W.region ?_
            refine WL.op rfl (d_call ok20 rfl (Ret.calls (of2_any ⟨#[115, 112, 97, 99, 101]⟩ w1  ) fun _ w13 p5 => ?_))
            obtain ⟨rfl, u13⟩ := p5
            have H13 : UpG w [] w13 [[blk w.heap.size #[.int .u64 ((Bs.zero.w0.toNat : Nat) : Int), .int .u64 ((Bs.zero.w1.toNat : Nat) : Int), .int .u64 ((Bs.zero.w2.toNat : Nat) : Int), .int .u64 ((Bs.zero.w3.toNat : Nat) : Int)] 24]] := H1.call u13
            refine WL.op0 (d_storeAB (us := [.int .u64 ((((classB ⟨#[115, 112, 97, 99, 101]⟩).w0).toNat : Nat) : Int), .int .u64 ((((classB ⟨#[115, 112, 97, 99, 101]⟩).w1).toNat : Nat) : Int), .int .u64 ((((classB ⟨#[115, 112, 97, 99, 101]⟩).w2).toNat : Nat) : Int), .int .u64 ((((classB ⟨#[115, 112, 97, 99, 101]⟩).w3).toNat : Nat) : Int)]) (cs' := #[.int .u64 ((((classB ⟨#[115, 112, 97, 99, 101]⟩).w0).toNat : Nat) : Int), .int .u64 ((((classB ⟨#[115, 112, 97, 99, 101]⟩).w1).toNat : Nat) : Int), .int .u64 ((((classB ⟨#[115, 112, 97, 99, 101]⟩).w2).toNat : Nat) : Int), .int .u64 ((((classB ⟨#[115, 112, 97, 99, 101]⟩).w3).toNat : Nat) : Int)]) sz24 rfl rfl rfl rfl (H13.blk 0 rfl) rfl rfl fun w14 u14 => ?_)
            have H14 : UpG w [] w14 [[blk w.heap.size #[.int .u64 ((((classB ⟨#[115, 112, 97, 99, 101]⟩).w0).toNat : Nat) : Int), .int .u64 ((((classB ⟨#[115, 112, 97, 99, 101]⟩).w1).toNat : Nat) : Int), .int .u64 ((((classB ⟨#[115, 112, 97, 99, 101]⟩).w2).toNat : Nat) : Int), .int .u64 ((((classB ⟨#[115, 112, 97, 99, 101]⟩).w3).toNat : Nat) : Int)] 24]] := H13.on 0 rfl u14
            refine WL.op rfl (d_assign rfl ?_)
            refine WL.done (X.then_code ?_)
            refine W.ret (X.block_ret (X.then_ret (X.retR2 rfl (rv_cellA [.int .u64 ((((classB ⟨#[115, 112, 97, 99, 101]⟩).w0).toNat : Nat) : Int), .int .u64 ((((classB ⟨#[115, 112, 97, 99, 101]⟩).w1).toNat : Nat) : Int), .int .u64 ((((classB ⟨#[115, 112, 97, 99, 101]⟩).w2).toNat : Nat) : Int), .int .u64 ((((classB ⟨#[115, 112, 97, 99, 101]⟩).w3).toNat : Nat) : Int)] Tryd.underlying24 rfl sz24 rfl (H14.blk 0 rfl) rfl rfl) (rv_tmp rfl) ?_)))
            have e : escB c = (esc0 c, true) := by unfold escB; rw [if_neg (by omega), if_neg (by omega), if_neg (by omega), if_pos (by omega)]
            have e1 : esc0 c = classB ⟨#[115, 112, 97, 99, 101]⟩ := by unfold esc0; rw [if_neg (by omega), if_pos (by omega)]
            exact ⟨(by rw [e, e1]), H14.noneL⟩
          · skip
            refine W.seq ?_
            refine W.region ?_
            refine WL.op rfl (d_cmp (decide (((c : Nat) : Int) = (119 : Int))) rfl rfl rfl ?_)
            refine WL.op rfl (d_assign rfl ?_)
            refine WL.done (X.then_code ?_)
            refine W.ite (p := ((c : Nat) : Int) = (119 : Int)) rfl (fun c75 => ?_) (fun c75 => ?_)
            · skip
              refine W.seq ?_
              refine W.region ?_
              refine WL.op rfl (d_call ok20 rfl (Ret.calls (of2_any ⟨#[97, 108, 110, 117, 109]⟩ w1  ) fun _ w15 p6 => ?_))
              obtain ⟨rfl, u15⟩ := p6
              have H15 : UpG w [] w15 [[blk w.heap.size #[.int .u64 ((Bs.zero.w0.toNat : Nat) : Int), .int .u64 ((Bs.zero.w1.toNat : Nat) : Int), .int .u64 ((Bs.zero.w2.toNat : Nat) : Int), .int .u64 ((Bs.zero.w3.toNat : Nat) : Int)] 24]] := H1.call u15
              refine WL.op rfl (t_buildSlice (T := tyN8) (xs := [95]) (cs := #[.int .u8 95]) rfl Tryd.underlying41 sz5 rfl rfl rfl rfl (by kernel_rfl) rfl rfl fun w16 u16 => ?_)
              have H16 : UpG w [] w16 [[blk w.heap.size #[.int .u64 ((Bs.zero.w0.toNat : Nat) : Int), .int .u64 ((Bs.zero.w1.toNat : Nat) : Int), .int .u64 ((Bs.zero.w2.toNat : Nat) : Int), .int .u64 ((Bs.zero.w3.toNat : Nat) : Int)] 24], [rowT tyN8 (.slice (some ⟨w15.heap.size, 0, none⟩) ([95].length) ([95].length)) 5 [95]]] := H15.new' u16
              refine WL.op rfl (d_call ok18 rfl (Ret.calls (of_any (some ⟨w15.heap.size, 0, none⟩) [95] ([95].length) ([95].length) w16 (H16.rdT 1 rfl) (by intro c hc; simp at hc; omega)) fun _ w17 p7 => ?_))
              obtain ⟨rfl, u17⟩ := p7
              have H17 : UpG w [] w17 [[blk w.heap.size #[.int .u64 ((Bs.zero.w0.toNat : Nat) : Int), .int .u64 ((Bs.zero.w1.toNat : Nat) : Int), .int .u64 ((Bs.zero.w2.toNat : Nat) : Int), .int .u64 ((Bs.zero.w3.toNat : Nat) : Int)] 24], [rowT tyN8 (.slice (some ⟨w15.heap.size, 0, none⟩) ([95].length) ([95].length)) 5 [95]]] := H16.call u17
              refine WL.op rfl (d_call ok21 rfl (Ret.calls (or_any (classB ⟨#[97, 108, 110, 117, 109]⟩) (ofS [95]) w17  ) fun _ w18 p8 => ?_))
              obtain ⟨rfl, u18⟩ := p8
              have H18 : UpG w [] w18 [[blk w.heap.size #[.int .u64 ((Bs.zero.w0.toNat : Nat) : Int), .int .u64 ((Bs.zero.w1.toNat : Nat) : Int), .int .u64 ((Bs.zero.w2.toNat : Nat) : Int), .int .u64 ((Bs.zero.w3.toNat : Nat) : Int)] 24], [rowT tyN8 (.slice (some ⟨w15.heap.size, 0, none⟩) ([95].length) ([95].length)) 5 [95]]] := H17.call u18
              refine WL.op0 (d_storeAB (us := [.int .u64 ((((orB (classB ⟨#[97, 108, 110, 117, 109]⟩) (ofS [95])).w0).toNat : Nat) : Int), .int .u64 ((((orB (classB ⟨#[97, 108, 110, 117, 109]⟩) (ofS [95])).w1).toNat : Nat) : Int), .int .u64 ((((orB (classB ⟨#[97, 108, 110, 117, 109]⟩) (ofS [95])).w2).toNat : Nat) : Int), .int .u64 ((((orB (classB ⟨#[97, 108, 110, 117, 109]⟩) (ofS [95])).w3).toNat : Nat) : Int)]) (cs' := #[.int .u64 ((((orB (classB ⟨#[97, 108, 110, 117, 109]⟩) (ofS [95])).w0).toNat : Nat) : Int), .int .u64 ((((orB (classB ⟨#[97, 108, 110, 117, 109]⟩) (ofS [95])).w1).toNat : Nat) : Int), .int .u64 ((((orB (classB ⟨#[97, 108, 110, 117, 109]⟩) (ofS [95])).w2).toNat : Nat) : Int), .int .u64 ((((orB (classB ⟨#[97, 108, 110, 117, 109]⟩) (ofS [95])).w3).toNat : Nat) : Int)]) sz24 rfl rfl rfl rfl (H18.blk 0 rfl) rfl rfl fun w19 u19 => ?_)
              have H19 : UpG w [] w19 [[blk w.heap.size #[.int .u64 ((((orB (classB ⟨#[97, 108, 110, 117, 109]⟩) (ofS [95])).w0).toNat : Nat) : Int), .int .u64 ((((orB (classB ⟨#[97, 108, 110, 117, 109]⟩) (ofS [95])).w1).toNat : Nat) : Int), .int .u64 ((((orB (classB ⟨#[97, 108, 110, 117, 109]⟩) (ofS [95])).w2).toNat : Nat) : Int), .int .u64 ((((orB (classB ⟨#[97, 108, 110, 117, 109]⟩) (ofS [95])).w3).toNat : Nat) : Int)] 24], [rowT tyN8 (.slice (some ⟨w15.heap.size, 0, none⟩) ([95].length) ([95].length)) 5 [95]]] := H18.on 0 rfl u19
              refine WL.op rfl (d_assign rfl ?_)
              refine WL.done (X.then_code ?_)
              refine W.ret (X.block_ret (X.then_ret (X.retR2 rfl (rv_cellA [.int .u64 ((((orB (classB ⟨#[97, 108, 110, 117, 109]⟩) (ofS [95])).w0).toNat : Nat) : Int), .int .u64 ((((orB (classB ⟨#[97, 108, 110, 117, 109]⟩) (ofS [95])).w1).toNat : Nat) : Int), .int .u64 ((((orB (classB ⟨#[97, 108, 110, 117, 109]⟩) (ofS [95])).w2).toNat : Nat) : Int), .int .u64 ((((orB (classB ⟨#[97, 108, 110, 117, 109]⟩) (ofS [95])).w3).toNat : Nat) : Int)] Tryd.underlying24 rfl sz24 rfl (H19.blk 0 rfl) rfl rfl) (rv_tmp rfl) ?_)))
              have e : escB c = (esc0 c, true) := by unfold escB; rw [if_neg (by omega), if_neg (by omega), if_neg (by omega), if_pos (by omega)]
              have e1 : esc0 c = orB (classB ⟨#[97, 108, 110, 117, 109]⟩) (ofS [95]) := by unfold esc0; rw [if_neg (by omega), if_neg (by omega)]
              exact ⟨(by rw [e, e1]), H19.noneL⟩
            · skip
              refine W.seq ?_
              refine W.seq ?_
              refine W.region ?_
              refine WL.op rfl (d_cmp (decide (((c : Nat) : Int) = (68 : Int))) rfl rfl rfl ?_)
              refine WL.op rfl (d_assign rfl ?_)
              refine WL.done (X.then_code ?_)
              refine W.ite (p := ((c : Nat) : Int) = (68 : Int)) rfl (fun c77 => ?_) (fun c77 => ?_)
              · skip
                refine W.skip (X.then_code ?_)
                refine W.ite (p := ((c : Nat) : Int) = (68 : Int)) rfl (fun c77x => ?_) (fun c77x => ?_)
                · skip
                  refine W.seq ?_
                  refine W.region ?_
                  refine WL.op rfl (d_move rfl ?_)
                  refine WL.op rfl (d_or32 (m := c) (by omega) rfl rfl ?_)
                  refine WL.op rfl (d_call ok10 rfl (Ret.calls (esc0_any (c ||| 32) w1  (esc_low (by omega))) fun _ w20 p9 => ?_))
                  obtain ⟨rfl, u20⟩ := p9
                  have H20 : UpG w [] w20 [[blk w.heap.size #[.int .u64 ((Bs.zero.w0.toNat : Nat) : Int), .int .u64 ((Bs.zero.w1.toNat : Nat) : Int), .int .u64 ((Bs.zero.w2.toNat : Nat) : Int), .int .u64 ((Bs.zero.w3.toNat : Nat) : Int)] 24]] := H1.call u20
                  refine WL.op rfl (d_move rfl ?_)
                  refine WL.op rfl (d_extract rfl rfl ?_)
                  refine WL.op rfl (d_extract rfl rfl ?_)
                  refine WL.op rfl (d_alloc sz24 fun w21 u21 => ?_)
                  have H21 : UpG w [] w21 [[blk w.heap.size #[.int .u64 ((Bs.zero.w0.toNat : Nat) : Int), .int .u64 ((Bs.zero.w1.toNat : Nat) : Int), .int .u64 ((Bs.zero.w2.toNat : Nat) : Int), .int .u64 ((Bs.zero.w3.toNat : Nat) : Int)] 24], [blk w20.heap.size #[.int .u64 ((Bs.zero.w0.toNat : Nat) : Int), .int .u64 ((Bs.zero.w1.toNat : Nat) : Int), .int .u64 ((Bs.zero.w2.toNat : Nat) : Int), .int .u64 ((Bs.zero.w3.toNat : Nat) : Int)] 24]] := H20.new' u21
                  refine WL.op0 (d_storeAB (us := [.int .u64 ((((esc0 (c ||| 32)).w0).toNat : Nat) : Int), .int .u64 ((((esc0 (c ||| 32)).w1).toNat : Nat) : Int), .int .u64 ((((esc0 (c ||| 32)).w2).toNat : Nat) : Int), .int .u64 ((((esc0 (c ||| 32)).w3).toNat : Nat) : Int)]) (cs' := #[.int .u64 ((((esc0 (c ||| 32)).w0).toNat : Nat) : Int), .int .u64 ((((esc0 (c ||| 32)).w1).toNat : Nat) : Int), .int .u64 ((((esc0 (c ||| 32)).w2).toNat : Nat) : Int), .int .u64 ((((esc0 (c ||| 32)).w3).toNat : Nat) : Int)]) sz24 rfl rfl rfl rfl (H21.blk 1 rfl) rfl rfl fun w22 u22 => ?_)
                  have H22 : UpG w [] w22 [[blk w.heap.size #[.int .u64 ((Bs.zero.w0.toNat : Nat) : Int), .int .u64 ((Bs.zero.w1.toNat : Nat) : Int), .int .u64 ((Bs.zero.w2.toNat : Nat) : Int), .int .u64 ((Bs.zero.w3.toNat : Nat) : Int)] 24], [blk w20.heap.size #[.int .u64 ((((esc0 (c ||| 32)).w0).toNat : Nat) : Int), .int .u64 ((((esc0 (c ||| 32)).w1).toNat : Nat) : Int), .int .u64 ((((esc0 (c ||| 32)).w2).toNat : Nat) : Int), .int .u64 ((((esc0 (c ||| 32)).w3).toNat : Nat) : Int)] 24]] := H21.on 1 rfl u22
                  refine WL.op rfl (d_assign rfl ?_)
                  refine WL.done (X.then_code ?_)
                  refine W.seq ?_
                  refine W.region ?_
                  refine WL.op rfl (d_loadAB [.int .u64 ((((esc0 (c ||| 32)).w0).toNat : Nat) : Int), .int .u64 ((((esc0 (c ||| 32)).w1).toNat : Nat) : Int), .int .u64 ((((esc0 (c ||| 32)).w2).toNat : Nat) : Int), .int .u64 ((((esc0 (c ||| 32)).w3).toNat : Nat) : Int)] Tryd.underlying24 rfl sz24 rfl (H22.blk 1 rfl) rfl rfl ?_)
                  refine WL.op rfl (d_call ok28 rfl (Ret.calls (not_any (esc0 (c ||| 32)) w22  ) fun _ w23 p10 => ?_))
                  obtain ⟨rfl, u23⟩ := p10
                  have H23 : UpG w [] w23 [[blk w.heap.size #[.int .u64 ((Bs.zero.w0.toNat : Nat) : Int), .int .u64 ((Bs.zero.w1.toNat : Nat) : Int), .int .u64 ((Bs.zero.w2.toNat : Nat) : Int), .int .u64 ((Bs.zero.w3.toNat : Nat) : Int)] 24], [blk w20.heap.size #[.int .u64 ((((esc0 (c ||| 32)).w0).toNat : Nat) : Int), .int .u64 ((((esc0 (c ||| 32)).w1).toNat : Nat) : Int), .int .u64 ((((esc0 (c ||| 32)).w2).toNat : Nat) : Int), .int .u64 ((((esc0 (c ||| 32)).w3).toNat : Nat) : Int)] 24]] := H22.call u23
                  refine WL.op0 (d_storeAB (us := [.int .u64 ((((notB (esc0 (c ||| 32))).w0).toNat : Nat) : Int), .int .u64 ((((notB (esc0 (c ||| 32))).w1).toNat : Nat) : Int), .int .u64 ((((notB (esc0 (c ||| 32))).w2).toNat : Nat) : Int), .int .u64 ((((notB (esc0 (c ||| 32))).w3).toNat : Nat) : Int)]) (cs' := #[.int .u64 ((((notB (esc0 (c ||| 32))).w0).toNat : Nat) : Int), .int .u64 ((((notB (esc0 (c ||| 32))).w1).toNat : Nat) : Int), .int .u64 ((((notB (esc0 (c ||| 32))).w2).toNat : Nat) : Int), .int .u64 ((((notB (esc0 (c ||| 32))).w3).toNat : Nat) : Int)]) sz24 rfl rfl rfl rfl (H23.blk 0 rfl) rfl rfl fun w24 u24 => ?_)
                  have H24 : UpG w [] w24 [[blk w.heap.size #[.int .u64 ((((notB (esc0 (c ||| 32))).w0).toNat : Nat) : Int), .int .u64 ((((notB (esc0 (c ||| 32))).w1).toNat : Nat) : Int), .int .u64 ((((notB (esc0 (c ||| 32))).w2).toNat : Nat) : Int), .int .u64 ((((notB (esc0 (c ||| 32))).w3).toNat : Nat) : Int)] 24], [blk w20.heap.size #[.int .u64 ((((esc0 (c ||| 32)).w0).toNat : Nat) : Int), .int .u64 ((((esc0 (c ||| 32)).w1).toNat : Nat) : Int), .int .u64 ((((esc0 (c ||| 32)).w2).toNat : Nat) : Int), .int .u64 ((((esc0 (c ||| 32)).w3).toNat : Nat) : Int)] 24]] := H23.on 0 rfl u24
                  refine WL.op rfl (d_assign rfl ?_)
                  refine WL.done (X.then_code ?_)
                  refine W.ret (X.block_ret (X.then_ret (X.retR2 rfl (rv_cellA [.int .u64 ((((notB (esc0 (c ||| 32))).w0).toNat : Nat) : Int), .int .u64 ((((notB (esc0 (c ||| 32))).w1).toNat : Nat) : Int), .int .u64 ((((notB (esc0 (c ||| 32))).w2).toNat : Nat) : Int), .int .u64 ((((notB (esc0 (c ||| 32))).w3).toNat : Nat) : Int)] Tryd.underlying24 rfl sz24 rfl (H24.blk 0 rfl) rfl rfl) (rv_tmp rfl) ?_)))
                  have e : escB c = (notB (esc0 (c ||| 32)), true) := by unfold escB; rw [if_neg (by omega), if_neg (by omega), if_neg (by omega), if_neg (by omega), if_pos (by omega)]
                  exact ⟨(by rw [e]), H24.noneL⟩
                · skip
                  exact absurd c77 c77x
              · skip
                refine W.seq ?_
                refine W.region ?_
                refine WL.op rfl (d_cmp (decide (((c : Nat) : Int) = (83 : Int))) rfl rfl rfl ?_)
                refine WL.op rfl (d_assign rfl ?_)
                refine WL.done (X.then_code ?_)
                refine W.ite (p := ((c : Nat) : Int) = (83 : Int)) rfl (fun c77x => ?_) (fun c77x => ?_)
                · skip
                  refine W.skip (X.then_code ?_)
                  refine W.ite (p := ((c : Nat) : Int) = (83 : Int)) rfl (fun c77xx => ?_) (fun c77xx => ?_)
                  · skip
                    refine W.seq ?_
                    refine W.region ?_
                    refine WL.op rfl (d_move rfl ?_)
                    refine WL.op rfl (d_or32 (m := c) (by omega) rfl rfl ?_)
                    refine WL.op rfl (d_call ok10 rfl (Ret.calls (esc0_any (c ||| 32) w1  (esc_low (by omega))) fun _ w25 p11 => ?_))
                    obtain ⟨rfl, u25⟩ := p11
                    have H25 : UpG w [] w25 [[blk w.heap.size #[.int .u64 ((Bs.zero.w0.toNat : Nat) : Int), .int .u64 ((Bs.zero.w1.toNat : Nat) : Int), .int .u64 ((Bs.zero.w2.toNat : Nat) : Int), .int .u64 ((Bs.zero.w3.toNat : Nat) : Int)] 24]] := H1.call u25
                    refine WL.op rfl (d_move rfl ?_)
                    refine WL.op rfl (d_extract rfl rfl ?_)
                    refine WL.op rfl (d_extract rfl rfl ?_)
                    refine WL.op rfl (d_alloc sz24 fun w26 u26 => ?_)
                    have H26 : UpG w [] w26 [[blk w.heap.size #[.int .u64 ((Bs.zero.w0.toNat : Nat) : Int), .int .u64 ((Bs.zero.w1.toNat : Nat) : Int), .int .u64 ((Bs.zero.w2.toNat : Nat) : Int), .int .u64 ((Bs.zero.w3.toNat : Nat) : Int)] 24], [blk w25.heap.size #[.int .u64 ((Bs.zero.w0.toNat : Nat) : Int), .int .u64 ((Bs.zero.w1.toNat : Nat) : Int), .int .u64 ((Bs.zero.w2.toNat : Nat) : Int), .int .u64 ((Bs.zero.w3.toNat : Nat) : Int)] 24]] := H25.new' u26
                    refine WL.op0 (d_storeAB (us := [.int .u64 ((((esc0 (c ||| 32)).w0).toNat : Nat) : Int), .int .u64 ((((esc0 (c ||| 32)).w1).toNat : Nat) : Int), .int .u64 ((((esc0 (c ||| 32)).w2).toNat : Nat) : Int), .int .u64 ((((esc0 (c ||| 32)).w3).toNat : Nat) : Int)]) (cs' := #[.int .u64 ((((esc0 (c ||| 32)).w0).toNat : Nat) : Int), .int .u64 ((((esc0 (c ||| 32)).w1).toNat : Nat) : Int), .int .u64 ((((esc0 (c ||| 32)).w2).toNat : Nat) : Int), .int .u64 ((((esc0 (c ||| 32)).w3).toNat : Nat) : Int)]) sz24 rfl rfl rfl rfl (H26.blk 1 rfl) rfl rfl fun w27 u27 => ?_)
                    have H27 : UpG w [] w27 [[blk w.heap.size #[.int .u64 ((Bs.zero.w0.toNat : Nat) : Int), .int .u64 ((Bs.zero.w1.toNat : Nat) : Int), .int .u64 ((Bs.zero.w2.toNat : Nat) : Int), .int .u64 ((Bs.zero.w3.toNat : Nat) : Int)] 24], [blk w25.heap.size #[.int .u64 ((((esc0 (c ||| 32)).w0).toNat : Nat) : Int), .int .u64 ((((esc0 (c ||| 32)).w1).toNat : Nat) : Int), .int .u64 ((((esc0 (c ||| 32)).w2).toNat : Nat) : Int), .int .u64 ((((esc0 (c ||| 32)).w3).toNat : Nat) : Int)] 24]] := H26.on 1 rfl u27
                    refine WL.op rfl (d_assign rfl ?_)
                    refine WL.done (X.then_code ?_)
                    refine W.seq ?_
                    refine W.region ?_
                    refine WL.op rfl (d_loadAB [.int .u64 ((((esc0 (c ||| 32)).w0).toNat : Nat) : Int), .int .u64 ((((esc0 (c ||| 32)).w1).toNat : Nat) : Int), .int .u64 ((((esc0 (c ||| 32)).w2).toNat : Nat) : Int), .int .u64 ((((esc0 (c ||| 32)).w3).toNat : Nat) : Int)] Tryd.underlying24 rfl sz24 rfl (H27.blk 1 rfl) rfl rfl ?_)
                    refine WL.op rfl (d_call ok28 rfl (Ret.calls (not_any (esc0 (c ||| 32)) w27  ) fun _ w28 p12 => ?_))
                    obtain ⟨rfl, u28⟩ := p12
                    have H28 : UpG w [] w28 [[blk w.heap.size #[.int .u64 ((Bs.zero.w0.toNat : Nat) : Int), .int .u64 ((Bs.zero.w1.toNat : Nat) : Int), .int .u64 ((Bs.zero.w2.toNat : Nat) : Int), .int .u64 ((Bs.zero.w3.toNat : Nat) : Int)] 24], [blk w25.heap.size #[.int .u64 ((((esc0 (c ||| 32)).w0).toNat : Nat) : Int), .int .u64 ((((esc0 (c ||| 32)).w1).toNat : Nat) : Int), .int .u64 ((((esc0 (c ||| 32)).w2).toNat : Nat) : Int), .int .u64 ((((esc0 (c ||| 32)).w3).toNat : Nat) : Int)] 24]] := H27.call u28
                    refine WL.op0 (d_storeAB (us := [.int .u64 ((((notB (esc0 (c ||| 32))).w0).toNat : Nat) : Int), .int .u64 ((((notB (esc0 (c ||| 32))).w1).toNat : Nat) : Int), .int .u64 ((((notB (esc0 (c ||| 32))).w2).toNat : Nat) : Int), .int .u64 ((((notB (esc0 (c ||| 32))).w3).toNat : Nat) : Int)]) (cs' := #[.int .u64 ((((notB (esc0 (c ||| 32))).w0).toNat : Nat) : Int), .int .u64 ((((notB (esc0 (c ||| 32))).w1).toNat : Nat) : Int), .int .u64 ((((notB (esc0 (c ||| 32))).w2).toNat : Nat) : Int), .int .u64 ((((notB (esc0 (c ||| 32))).w3).toNat : Nat) : Int)]) sz24 rfl rfl rfl rfl (H28.blk 0 rfl) rfl rfl fun w29 u29 => ?_)
                    have H29 : UpG w [] w29 [[blk w.heap.size #[.int .u64 ((((notB (esc0 (c ||| 32))).w0).toNat : Nat) : Int), .int .u64 ((((notB (esc0 (c ||| 32))).w1).toNat : Nat) : Int), .int .u64 ((((notB (esc0 (c ||| 32))).w2).toNat : Nat) : Int), .int .u64 ((((notB (esc0 (c ||| 32))).w3).toNat : Nat) : Int)] 24], [blk w25.heap.size #[.int .u64 ((((esc0 (c ||| 32)).w0).toNat : Nat) : Int), .int .u64 ((((esc0 (c ||| 32)).w1).toNat : Nat) : Int), .int .u64 ((((esc0 (c ||| 32)).w2).toNat : Nat) : Int), .int .u64 ((((esc0 (c ||| 32)).w3).toNat : Nat) : Int)] 24]] := H28.on 0 rfl u29
                    refine WL.op rfl (d_assign rfl ?_)
                    refine WL.done (X.then_code ?_)
                    refine W.ret (X.block_ret (X.then_ret (X.retR2 rfl (rv_cellA [.int .u64 ((((notB (esc0 (c ||| 32))).w0).toNat : Nat) : Int), .int .u64 ((((notB (esc0 (c ||| 32))).w1).toNat : Nat) : Int), .int .u64 ((((notB (esc0 (c ||| 32))).w2).toNat : Nat) : Int), .int .u64 ((((notB (esc0 (c ||| 32))).w3).toNat : Nat) : Int)] Tryd.underlying24 rfl sz24 rfl (H29.blk 0 rfl) rfl rfl) (rv_tmp rfl) ?_)))
                    have e : escB c = (notB (esc0 (c ||| 32)), true) := by unfold escB; rw [if_neg (by omega), if_neg (by omega), if_neg (by omega), if_neg (by omega), if_pos (by omega)]
                    exact ⟨(by rw [e]), H29.noneL⟩
                  · skip
                    exact absurd c77x c77xx
                · skip
                  refine W.region ?_
                  refine WL.op rfl (d_cmp (decide (((c : Nat) : Int) = (87 : Int))) rfl rfl rfl ?_)
                  refine WL.op rfl (d_assign rfl ?_)
                  refine WL.done (X.then_code ?_)
                  refine W.ite (p := ((c : Nat) : Int) = (87 : Int)) rfl (fun c77xx => ?_) (fun c77xx => ?_)
                  · skip
                    refine W.seq ?_
                    refine W.region ?_
                    refine WL.op rfl (d_move rfl ?_)
                    refine WL.op rfl (d_or32 (m := c) (by omega) rfl rfl ?_)
                    refine WL.op rfl (d_call ok10 rfl (Ret.calls (esc0_any (c ||| 32) w1  (esc_low (by omega))) fun _ w30 p13 => ?_))
                    obtain ⟨rfl, u30⟩ := p13
                    have H30 : UpG w [] w30 [[blk w.heap.size #[.int .u64 ((Bs.zero.w0.toNat : Nat) : Int), .int .u64 ((Bs.zero.w1.toNat : Nat) : Int), .int .u64 ((Bs.zero.w2.toNat : Nat) : Int), .int .u64 ((Bs.zero.w3.toNat : Nat) : Int)] 24]] := H1.call u30
                    refine WL.op rfl (d_move rfl ?_)
                    refine WL.op rfl (d_extract rfl rfl ?_)
                    refine WL.op rfl (d_extract rfl rfl ?_)
                    refine WL.op rfl (d_alloc sz24 fun w31 u31 => ?_)
                    have H31 : UpG w [] w31 [[blk w.heap.size #[.int .u64 ((Bs.zero.w0.toNat : Nat) : Int), .int .u64 ((Bs.zero.w1.toNat : Nat) : Int), .int .u64 ((Bs.zero.w2.toNat : Nat) : Int), .int .u64 ((Bs.zero.w3.toNat : Nat) : Int)] 24], [blk w30.heap.size #[.int .u64 ((Bs.zero.w0.toNat : Nat) : Int), .int .u64 ((Bs.zero.w1.toNat : Nat) : Int), .int .u64 ((Bs.zero.w2.toNat : Nat) : Int), .int .u64 ((Bs.zero.w3.toNat : Nat) : Int)] 24]] := H30.new' u31
                    refine WL.op0 (d_storeAB (us := [.int .u64 ((((esc0 (c ||| 32)).w0).toNat : Nat) : Int), .int .u64 ((((esc0 (c ||| 32)).w1).toNat : Nat) : Int), .int .u64 ((((esc0 (c ||| 32)).w2).toNat : Nat) : Int), .int .u64 ((((esc0 (c ||| 32)).w3).toNat : Nat) : Int)]) (cs' := #[.int .u64 ((((esc0 (c ||| 32)).w0).toNat : Nat) : Int), .int .u64 ((((esc0 (c ||| 32)).w1).toNat : Nat) : Int), .int .u64 ((((esc0 (c ||| 32)).w2).toNat : Nat) : Int), .int .u64 ((((esc0 (c ||| 32)).w3).toNat : Nat) : Int)]) sz24 rfl rfl rfl rfl (H31.blk 1 rfl) rfl rfl fun w32 u32 => ?_)
                    have H32 : UpG w [] w32 [[blk w.heap.size #[.int .u64 ((Bs.zero.w0.toNat : Nat) : Int), .int .u64 ((Bs.zero.w1.toNat : Nat) : Int), .int .u64 ((Bs.zero.w2.toNat : Nat) : Int), .int .u64 ((Bs.zero.w3.toNat : Nat) : Int)] 24], [blk w30.heap.size #[.int .u64 ((((esc0 (c ||| 32)).w0).toNat : Nat) : Int), .int .u64 ((((esc0 (c ||| 32)).w1).toNat : Nat) : Int), .int .u64 ((((esc0 (c ||| 32)).w2).toNat : Nat) : Int), .int .u64 ((((esc0 (c ||| 32)).w3).toNat : Nat) : Int)] 24]] := H31.on 1 rfl u32
                    refine WL.op rfl (d_assign rfl ?_)
                    refine WL.done (X.then_code ?_)
                    refine W.seq ?_
                    refine W.region ?_
                    refine WL.op rfl (d_loadAB [.int .u64 ((((esc0 (c ||| 32)).w0).toNat : Nat) : Int), .int .u64 ((((esc0 (c ||| 32)).w1).toNat : Nat) : Int), .int .u64 ((((esc0 (c ||| 32)).w2).toNat : Nat) : Int), .int .u64 ((((esc0 (c ||| 32)).w3).toNat : Nat) : Int)] Tryd.underlying24 rfl sz24 rfl (H32.blk 1 rfl) rfl rfl ?_)
                    refine WL.op rfl (d_call ok28 rfl (Ret.calls (not_any (esc0 (c ||| 32)) w32  ) fun _ w33 p14 => ?_))
                    obtain ⟨rfl, u33⟩ := p14
                    have H33 : UpG w [] w33 [[blk w.heap.size #[.int .u64 ((Bs.zero.w0.toNat : Nat) : Int), .int .u64 ((Bs.zero.w1.toNat : Nat) : Int), .int .u64 ((Bs.zero.w2.toNat : Nat) : Int), .int .u64 ((Bs.zero.w3.toNat : Nat) : Int)] 24], [blk w30.heap.size #[.int .u64 ((((esc0 (c ||| 32)).w0).toNat : Nat) : Int), .int .u64 ((((esc0 (c ||| 32)).w1).toNat : Nat) : Int), .int .u64 ((((esc0 (c ||| 32)).w2).toNat : Nat) : Int), .int .u64 ((((esc0 (c ||| 32)).w3).toNat : Nat) : Int)] 24]] := H32.call u33
                    refine WL.op0 (d_storeAB (us := [.int .u64 ((((notB (esc0 (c ||| 32))).w0).toNat : Nat) : Int), .int .u64 ((((notB (esc0 (c ||| 32))).w1).toNat : Nat) : Int), .int .u64 ((((notB (esc0 (c ||| 32))).w2).toNat : Nat) : Int), .int .u64 ((((notB (esc0 (c ||| 32))).w3).toNat : Nat) : Int)]) (cs' := #[.int .u64 ((((notB (esc0 (c ||| 32))).w0).toNat : Nat) : Int), .int .u64 ((((notB (esc0 (c ||| 32))).w1).toNat : Nat) : Int), .int .u64 ((((notB (esc0 (c ||| 32))).w2).toNat : Nat) : Int), .int .u64 ((((notB (esc0 (c ||| 32))).w3).toNat : Nat) : Int)]) sz24 rfl rfl rfl rfl (H33.blk 0 rfl) rfl rfl fun w34 u34 => ?_)
                    have H34 : UpG w [] w34 [[blk w.heap.size #[.int .u64 ((((notB (esc0 (c ||| 32))).w0).toNat : Nat) : Int), .int .u64 ((((notB (esc0 (c ||| 32))).w1).toNat : Nat) : Int), .int .u64 ((((notB (esc0 (c ||| 32))).w2).toNat : Nat) : Int), .int .u64 ((((notB (esc0 (c ||| 32))).w3).toNat : Nat) : Int)] 24], [blk w30.heap.size #[.int .u64 ((((esc0 (c ||| 32)).w0).toNat : Nat) : Int), .int .u64 ((((esc0 (c ||| 32)).w1).toNat : Nat) : Int), .int .u64 ((((esc0 (c ||| 32)).w2).toNat : Nat) : Int), .int .u64 ((((esc0 (c ||| 32)).w3).toNat : Nat) : Int)] 24]] := H33.on 0 rfl u34
                    refine WL.op rfl (d_assign rfl ?_)
                    refine WL.done (X.then_code ?_)
                    refine W.ret (X.block_ret (X.then_ret (X.retR2 rfl (rv_cellA [.int .u64 ((((notB (esc0 (c ||| 32))).w0).toNat : Nat) : Int), .int .u64 ((((notB (esc0 (c ||| 32))).w1).toNat : Nat) : Int), .int .u64 ((((notB (esc0 (c ||| 32))).w2).toNat : Nat) : Int), .int .u64 ((((notB (esc0 (c ||| 32))).w3).toNat : Nat) : Int)] Tryd.underlying24 rfl sz24 rfl (H34.blk 0 rfl) rfl rfl) (rv_tmp rfl) ?_)))
                    have e : escB c = (notB (esc0 (c ||| 32)), true) := by unfold escB; rw [if_neg (by omega), if_neg (by omega), if_neg (by omega), if_neg (by omega), if_pos (by omega)]
                    exact ⟨(by rw [e]), H34.noneL⟩
                  · skip
                    refine W.skip (X.block_normal (X.then_code ?_))
                    refine W.seq ?_
                    refine W.seq ?_
                    refine W.region ?_
                    refine WL.op rfl (d_call ok20 rfl (Ret.calls (of2_any ⟨#[97, 108, 110, 117, 109]⟩ w1  ) fun _ w35 p15 => ?_))
                    obtain ⟨rfl, u35⟩ := p15
                    have H35 : UpG w [] w35 [[blk w.heap.size #[.int .u64 ((Bs.zero.w0.toNat : Nat) : Int), .int .u64 ((Bs.zero.w1.toNat : Nat) : Int), .int .u64 ((Bs.zero.w2.toNat : Nat) : Int), .int .u64 ((Bs.zero.w3.toNat : Nat) : Int)] 24]] := H1.call u35
                    refine WL.op rfl (d_move rfl ?_)
                    refine WL.op rfl (d_call ok12 rfl (Ret.calls (has_any (classB ⟨#[97, 108, 110, 117, 109]⟩) c w35  (by omega)) fun _ w36 p16 => ?_))
                    obtain ⟨rfl, u36⟩ := p16
                    have H36 : UpG w [] w36 [[blk w.heap.size #[.int .u64 ((Bs.zero.w0.toNat : Nat) : Int), .int .u64 ((Bs.zero.w1.toNat : Nat) : Int), .int .u64 ((Bs.zero.w2.toNat : Nat) : Int), .int .u64 ((Bs.zero.w3.toNat : Nat) : Int)] 24]] := H35.call u36
                    refine WL.done (X.then_code ?_)
                    refine W.iteB (b := (classB ⟨#[97, 108, 110, 117, 109]⟩).has c) rfl (fun c81 => ?_) (fun c81 => ?_)
                    · skip
                      refine W.seq ?_
                      refine W.region ?_
                      refine WL.op rfl (d_build (cs := #[.int .u64 ((Bs.zero.w0.toNat : Nat) : Int), .int .u64 ((Bs.zero.w1.toNat : Nat) : Int), .int .u64 ((Bs.zero.w2.toNat : Nat) : Int), .int .u64 ((Bs.zero.w3.toNat : Nat) : Int)]) rfl (by kernel_rfl) ?_)
                      refine WL.op0 (d_storeAB (us := [.int .u64 ((Bs.zero.w0.toNat : Nat) : Int), .int .u64 ((Bs.zero.w1.toNat : Nat) : Int), .int .u64 ((Bs.zero.w2.toNat : Nat) : Int), .int .u64 ((Bs.zero.w3.toNat : Nat) : Int)]) (cs' := #[.int .u64 ((Bs.zero.w0.toNat : Nat) : Int), .int .u64 ((Bs.zero.w1.toNat : Nat) : Int), .int .u64 ((Bs.zero.w2.toNat : Nat) : Int), .int .u64 ((Bs.zero.w3.toNat : Nat) : Int)]) sz24 rfl rfl rfl rfl (H36.blk 0 rfl) rfl rfl fun w37 u37 => ?_)
                      have H37 : UpG w [] w37 [[blk w.heap.size #[.int .u64 ((Bs.zero.w0.toNat : Nat) : Int), .int .u64 ((Bs.zero.w1.toNat : Nat) : Int), .int .u64 ((Bs.zero.w2.toNat : Nat) : Int), .int .u64 ((Bs.zero.w3.toNat : Nat) : Int)] 24]] := H36.on 0 rfl u37
                      refine WL.op rfl (d_assign rfl ?_)
                      refine WL.done (X.then_code ?_)
                      refine W.ret (X.then_ret (X.retR2 rfl (rv_cellA [.int .u64 ((Bs.zero.w0.toNat : Nat) : Int), .int .u64 ((Bs.zero.w1.toNat : Nat) : Int), .int .u64 ((Bs.zero.w2.toNat : Nat) : Int), .int .u64 ((Bs.zero.w3.toNat : Nat) : Int)] Tryd.underlying24 rfl sz24 rfl (H37.blk 0 rfl) rfl rfl) (rv_tmp rfl) ?_))
                      have e : escB c = (Bs.zero, false) := by unfold escB; rw [if_neg (by omega), if_neg (by omega), if_neg (by omega), if_neg (by omega), if_neg (by omega), if_pos c81]
                      exact ⟨(by rw [e]), H37.noneL⟩
                    · skip
                      refine W.skip (X.then_code ?_)
                      refine W.seq ?_
                      refine W.region ?_
                      refine WL.op rfl (d_move rfl ?_)
                      refine WL.op rfl (t_buildSlice (T := tyN8) (xs := [c]) (cs := #[.int .u8 ((c : Nat) : Int)]) rfl Tryd.underlying41 sz5 rfl rfl rfl rfl (by kernel_rfl) rfl rfl fun w38 u38 => ?_)
                      have H38 : UpG w [] w38 [[blk w.heap.size #[.int .u64 ((Bs.zero.w0.toNat : Nat) : Int), .int .u64 ((Bs.zero.w1.toNat : Nat) : Int), .int .u64 ((Bs.zero.w2.toNat : Nat) : Int), .int .u64 ((Bs.zero.w3.toNat : Nat) : Int)] 24], [rowT tyN8 (.slice (some ⟨w36.heap.size, 0, none⟩) ([c].length) ([c].length)) 5 [c]]] := H36.new' u38
                      refine WL.op rfl (d_call ok18 rfl (Ret.calls (of_any (some ⟨w36.heap.size, 0, none⟩) [c] ([c].length) ([c].length) w38 (H38.rdT 1 rfl) (by intro c hc; simp at hc; omega)) fun _ w39 p17 => ?_))
                      obtain ⟨rfl, u39⟩ := p17
                      have H39 : UpG w [] w39 [[blk w.heap.size #[.int .u64 ((Bs.zero.w0.toNat : Nat) : Int), .int .u64 ((Bs.zero.w1.toNat : Nat) : Int), .int .u64 ((Bs.zero.w2.toNat : Nat) : Int), .int .u64 ((Bs.zero.w3.toNat : Nat) : Int)] 24], [rowT tyN8 (.slice (some ⟨w36.heap.size, 0, none⟩) ([c].length) ([c].length)) 5 [c]]] := H38.call u39
                      refine WL.op0 (d_storeAB (us := [.int .u64 ((((ofS [c]).w0).toNat : Nat) : Int), .int .u64 ((((ofS [c]).w1).toNat : Nat) : Int), .int .u64 ((((ofS [c]).w2).toNat : Nat) : Int), .int .u64 ((((ofS [c]).w3).toNat : Nat) : Int)]) (cs' := #[.int .u64 ((((ofS [c]).w0).toNat : Nat) : Int), .int .u64 ((((ofS [c]).w1).toNat : Nat) : Int), .int .u64 ((((ofS [c]).w2).toNat : Nat) : Int), .int .u64 ((((ofS [c]).w3).toNat : Nat) : Int)]) sz24 rfl rfl rfl rfl (H39.blk 0 rfl) rfl rfl fun w40 u40 => ?_)
                      have H40 : UpG w [] w40 [[blk w.heap.size #[.int .u64 ((((ofS [c]).w0).toNat : Nat) : Int), .int .u64 ((((ofS [c]).w1).toNat : Nat) : Int), .int .u64 ((((ofS [c]).w2).toNat : Nat) : Int), .int .u64 ((((ofS [c]).w3).toNat : Nat) : Int)] 24], [rowT tyN8 (.slice (some ⟨w36.heap.size, 0, none⟩) ([c].length) ([c].length)) 5 [c]]] := H39.on 0 rfl u40
                      refine WL.op rfl (d_assign rfl ?_)
                      refine WL.done (X.then_code ?_)
                      refine W.ret (X.retR2 rfl (rv_cellA [.int .u64 ((((ofS [c]).w0).toNat : Nat) : Int), .int .u64 ((((ofS [c]).w1).toNat : Nat) : Int), .int .u64 ((((ofS [c]).w2).toNat : Nat) : Int), .int .u64 ((((ofS [c]).w3).toNat : Nat) : Int)] Tryd.underlying24 rfl sz24 rfl (H40.blk 0 rfl) rfl rfl) (rv_tmp rfl) ?_)
                      have e : escB c = (ofS [c], true) := by unfold escB; rw [if_neg (by omega), if_neg (by omega), if_neg (by omega), if_neg (by omega), if_neg (by omega), if_neg c81]
                      exact ⟨(by rw [e]), H40.noneL⟩

set_option maxRecDepth 20000 in
theorem dot_any  (w : World) :
    Calls Tryd.prog 13 #[] w (Ret fun v w' => v = .agg #[.int .u64 ((((notB (ofS [10])).w0).toNat : Nat) : Int), .int .u64 ((((notB (ofS [10])).w1).toNat : Nat) : Int), .int .u64 ((((notB (ofS [10])).w2).toNat : Nat) : Int), .int .u64 ((((notB (ofS [10])).w3).toNat : Nat) : Int)] ∧ Upd w [] w' []) := by
  refine calls_of_W (args := []) Tryd.func13 rfl rfl rfl ?_
  have H0 : UpG w [] w [] := UpG.nil w
  show W _ _ _ _ [] w
  refine W.seq ?_
  refine W.region ?_
  refine WL.op rfl (d_alloc sz24 fun w1 u1 => ?_)
  have H1 : UpG w [] w1 [[blk w.heap.size #[.int .u64 ((Bs.zero.w0.toNat : Nat) : Int), .int .u64 ((Bs.zero.w1.toNat : Nat) : Int), .int .u64 ((Bs.zero.w2.toNat : Nat) : Int), .int .u64 ((Bs.zero.w3.toNat : Nat) : Int)] 24]] := H0.new' u1
  refine WL.done (X.then_code ?_)
  refine W.seq ?_
  refine W.region ?_
  refine WL.op rfl (t_buildSlice (T := tyN8) (xs := [10]) (cs := #[.int .u8 10]) rfl Tryd.underlying41 sz5 rfl rfl rfl rfl (by kernel_rfl) rfl rfl fun w2 u2 => ?_)
  have H2 : UpG w [] w2 [[blk w.heap.size #[.int .u64 ((Bs.zero.w0.toNat : Nat) : Int), .int .u64 ((Bs.zero.w1.toNat : Nat) : Int), .int .u64 ((Bs.zero.w2.toNat : Nat) : Int), .int .u64 ((Bs.zero.w3.toNat : Nat) : Int)] 24], [rowT tyN8 (.slice (some ⟨w1.heap.size, 0, none⟩) ([10].length) ([10].length)) 5 [10]]] := H1.new' u2
  refine WL.op rfl (d_call ok18 rfl (Ret.calls (of_any (some ⟨w1.heap.size, 0, none⟩) [10] ([10].length) ([10].length) w2 (H2.rdT 1 rfl) (by intro c hc; simp at hc; omega)) fun _ w3 p1 => ?_))
  obtain ⟨rfl, u3⟩ := p1
  have H3 : UpG w [] w3 [[blk w.heap.size #[.int .u64 ((Bs.zero.w0.toNat : Nat) : Int), .int .u64 ((Bs.zero.w1.toNat : Nat) : Int), .int .u64 ((Bs.zero.w2.toNat : Nat) : Int), .int .u64 ((Bs.zero.w3.toNat : Nat) : Int)] 24], [rowT tyN8 (.slice (some ⟨w1.heap.size, 0, none⟩) ([10].length) ([10].length)) 5 [10]]] := H2.call u3
  refine WL.op rfl (d_call ok28 rfl (Ret.calls (not_any (ofS [10]) w3  ) fun _ w4 p2 => ?_))
  obtain ⟨rfl, u4⟩ := p2
  have H4 : UpG w [] w4 [[blk w.heap.size #[.int .u64 ((Bs.zero.w0.toNat : Nat) : Int), .int .u64 ((Bs.zero.w1.toNat : Nat) : Int), .int .u64 ((Bs.zero.w2.toNat : Nat) : Int), .int .u64 ((Bs.zero.w3.toNat : Nat) : Int)] 24], [rowT tyN8 (.slice (some ⟨w1.heap.size, 0, none⟩) ([10].length) ([10].length)) 5 [10]]] := H3.call u4
  refine WL.op0 (d_storeAB (us := [.int .u64 ((((notB (ofS [10])).w0).toNat : Nat) : Int), .int .u64 ((((notB (ofS [10])).w1).toNat : Nat) : Int), .int .u64 ((((notB (ofS [10])).w2).toNat : Nat) : Int), .int .u64 ((((notB (ofS [10])).w3).toNat : Nat) : Int)]) (cs' := #[.int .u64 ((((notB (ofS [10])).w0).toNat : Nat) : Int), .int .u64 ((((notB (ofS [10])).w1).toNat : Nat) : Int), .int .u64 ((((notB (ofS [10])).w2).toNat : Nat) : Int), .int .u64 ((((notB (ofS [10])).w3).toNat : Nat) : Int)]) sz24 rfl rfl rfl rfl (H4.blk 0 rfl) rfl rfl fun w5 u5 => ?_)
  have H5 : UpG w [] w5 [[blk w.heap.size #[.int .u64 ((((notB (ofS [10])).w0).toNat : Nat) : Int), .int .u64 ((((notB (ofS [10])).w1).toNat : Nat) : Int), .int .u64 ((((notB (ofS [10])).w2).toNat : Nat) : Int), .int .u64 ((((notB (ofS [10])).w3).toNat : Nat) : Int)] 24], [rowT tyN8 (.slice (some ⟨w1.heap.size, 0, none⟩) ([10].length) ([10].length)) 5 [10]]] := H4.on 0 rfl u5
  refine WL.done (X.then_code ?_)
  refine W.ret (X.retR1 rfl (rv_cellA [.int .u64 ((((notB (ofS [10])).w0).toNat : Nat) : Int), .int .u64 ((((notB (ofS [10])).w1).toNat : Nat) : Int), .int .u64 ((((notB (ofS [10])).w2).toNat : Nat) : Int), .int .u64 ((((notB (ofS [10])).w3).toNat : Nat) : Int)] Tryd.underlying24 rfl sz24 rfl (H5.blk 0 rfl) rfl rfl) ?_)
  exact ⟨rfl, H5.noneL⟩

set_option maxRecDepth 20000 in
theorem fold_any (s : Bs) (w : World) (rT : RdT tyN8 w (.slice (some ⟨0, 0, none⟩) deB.length 64) deB) :
    Calls Tryd.prog 7 #[.agg #[.int .u64 ((s.w0.toNat : Nat) : Int), .int .u64 ((s.w1.toNat : Nat) : Int), .int .u64 ((s.w2.toNat : Nat) : Int), .int .u64 ((s.w3.toNat : Nat) : Int)]] w (Ret fun v w' => v = .agg #[.int .u64 ((((foldB s).w0).toNat : Nat) : Int), .int .u64 ((((foldB s).w1).toNat : Nat) : Int), .int .u64 ((((foldB s).w2).toNat : Nat) : Int), .int .u64 ((((foldB s).w3).toNat : Nat) : Int)] ∧ Upd w [] w' []) := by
  have le_rT := rT.le
  refine calls_of_W (args := [.agg #[.int .u64 ((s.w0.toNat : Nat) : Int), .int .u64 ((s.w1.toNat : Nat) : Int), .int .u64 ((s.w2.toNat : Nat) : Int), .int .u64 ((s.w3.toNat : Nat) : Int)]]) Tryd.func7 rfl rfl rfl ?_
  have H0 : UpG w [] w [] := UpG.nil w
  show W _ _ _ _ [(0, .agg #[.int .u64 ((s.w0.toNat : Nat) : Int), .int .u64 ((s.w1.toNat : Nat) : Int), .int .u64 ((s.w2.toNat : Nat) : Int), .int .u64 ((s.w3.toNat : Nat) : Int)])] w
  refine W.seq ?_
  refine W.region ?_
  refine WL.op rfl (d_box rfl fun w1 u1 => ?_)
  have H1 : UpG w [] w1 [[blk w.heap.size #[.int .u64 ((s.w0.toNat : Nat) : Int), .int .u64 ((s.w1.toNat : Nat) : Int), .int .u64 ((s.w2.toNat : Nat) : Int), .int .u64 ((s.w3.toNat : Nat) : Int)] 24]] := H0.new' u1
  refine WL.op rfl (d_alloc sz24 fun w2 u2 => ?_)
  have H2 : UpG w [] w2 [[blk w.heap.size #[.int .u64 ((s.w0.toNat : Nat) : Int), .int .u64 ((s.w1.toNat : Nat) : Int), .int .u64 ((s.w2.toNat : Nat) : Int), .int .u64 ((s.w3.toNat : Nat) : Int)] 24], [blk w1.heap.size #[.int .u64 ((Bs.zero.w0.toNat : Nat) : Int), .int .u64 ((Bs.zero.w1.toNat : Nat) : Int), .int .u64 ((Bs.zero.w2.toNat : Nat) : Int), .int .u64 ((Bs.zero.w3.toNat : Nat) : Int)] 24]] := H1.new' u2
  refine WL.done (X.then_code ?_)
  refine W.seq ?_
  refine W.region ?_
  refine WL.op rfl (d_loadAB [.int .u64 ((s.w0.toNat : Nat) : Int), .int .u64 ((s.w1.toNat : Nat) : Int), .int .u64 ((s.w2.toNat : Nat) : Int), .int .u64 ((s.w3.toNat : Nat) : Int)] Tryd.underlying24 rfl sz24 rfl (H2.blk 0 rfl) rfl rfl ?_)
  refine WL.op rfl (d_alloc sz24 fun w3 u3 => ?_)
  have H3 : UpG w [] w3 [[blk w.heap.size #[.int .u64 ((s.w0.toNat : Nat) : Int), .int .u64 ((s.w1.toNat : Nat) : Int), .int .u64 ((s.w2.toNat : Nat) : Int), .int .u64 ((s.w3.toNat : Nat) : Int)] 24], [blk w1.heap.size #[.int .u64 ((Bs.zero.w0.toNat : Nat) : Int), .int .u64 ((Bs.zero.w1.toNat : Nat) : Int), .int .u64 ((Bs.zero.w2.toNat : Nat) : Int), .int .u64 ((Bs.zero.w3.toNat : Nat) : Int)] 24], [blk w2.heap.size #[.int .u64 ((Bs.zero.w0.toNat : Nat) : Int), .int .u64 ((Bs.zero.w1.toNat : Nat) : Int), .int .u64 ((Bs.zero.w2.toNat : Nat) : Int), .int .u64 ((Bs.zero.w3.toNat : Nat) : Int)] 24]] := H2.new' u3
  refine WL.op0 (d_storeAB (us := [.int .u64 ((s.w0.toNat : Nat) : Int), .int .u64 ((s.w1.toNat : Nat) : Int), .int .u64 ((s.w2.toNat : Nat) : Int), .int .u64 ((s.w3.toNat : Nat) : Int)]) (cs' := #[.int .u64 ((s.w0.toNat : Nat) : Int), .int .u64 ((s.w1.toNat : Nat) : Int), .int .u64 ((s.w2.toNat : Nat) : Int), .int .u64 ((s.w3.toNat : Nat) : Int)]) sz24 rfl rfl rfl rfl (H3.blk 2 rfl) rfl rfl fun w4 u4 => ?_)
  have H4 : UpG w [] w4 [[blk w.heap.size #[.int .u64 ((s.w0.toNat : Nat) : Int), .int .u64 ((s.w1.toNat : Nat) : Int), .int .u64 ((s.w2.toNat : Nat) : Int), .int .u64 ((s.w3.toNat : Nat) : Int)] 24], [blk w1.heap.size #[.int .u64 ((Bs.zero.w0.toNat : Nat) : Int), .int .u64 ((Bs.zero.w1.toNat : Nat) : Int), .int .u64 ((Bs.zero.w2.toNat : Nat) : Int), .int .u64 ((Bs.zero.w3.toNat : Nat) : Int)] 24], [blk w2.heap.size #[.int .u64 ((s.w0.toNat : Nat) : Int), .int .u64 ((s.w1.toNat : Nat) : Int), .int .u64 ((s.w2.toNat : Nat) : Int), .int .u64 ((s.w3.toNat : Nat) : Int)] 24]] := H3.on 2 rfl u4
  refine WL.done (X.then_code ?_)
  refine W.seq ?_
  refine W.seq ?_
  refine W.regionD mixed (by kernel_rfl) fun hok1 w5 k1 => ?_
  have H5 : UpG w [] w5 [[blk w.heap.size #[.int .u64 ((s.w0.toNat : Nat) : Int), .int .u64 ((s.w1.toNat : Nat) : Int), .int .u64 ((s.w2.toNat : Nat) : Int), .int .u64 ((s.w3.toNat : Nat) : Int)] 24], [blk w1.heap.size #[.int .u64 ((Bs.zero.w0.toNat : Nat) : Int), .int .u64 ((Bs.zero.w1.toNat : Nat) : Int), .int .u64 ((Bs.zero.w2.toNat : Nat) : Int), .int .u64 ((Bs.zero.w3.toNat : Nat) : Int)] 24], [blk w2.heap.size #[.int .u64 ((s.w0.toNat : Nat) : Int), .int .u64 ((s.w1.toNat : Nat) : Int), .int .u64 ((s.w2.toNat : Nat) : Int), .int .u64 ((s.w3.toNat : Nat) : Int)] 24]] := H4.kept k1
  refine WD.take hok1 0 (.agg #[.int .u64 ((s.w0.toNat : Nat) : Int), .int .u64 ((s.w1.toNat : Nat) : Int), .int .u64 ((s.w2.toNat : Nat) : Int), .int .u64 ((s.w3.toNat : Nat) : Int)]) (fun w' => w'.heap[w.heap.size]? = some (.cells #[.int .u64 ((s.w0.toNat : Nat) : Int), .int .u64 ((s.w1.toNat : Nat) : Int), .int .u64 ((s.w2.toNat : Nat) : Int), .int .u64 ((s.w3.toNat : Nat) : Int)] 24 (0, 0))) rfl rfl rfl rfl rfl (H5.blk 0 rfl) (.inl ⟨rfl, fun _ hC => d_loadAB [.int .u64 ((s.w0.toNat : Nat) : Int), .int .u64 ((s.w1.toNat : Nat) : Int), .int .u64 ((s.w2.toNat : Nat) : Int), .int .u64 ((s.w3.toNat : Nat) : Int)] Tryd.underlying24 rfl sz24 rfl hC rfl rfl ⟨rfl, rfl⟩⟩) ?_
  refine WD.take hok1 5 (.int .i64 0) (fun _ => True) rfl rfl rfl rfl rfl trivial (.inl ⟨rfl, fun _ _ => d_move rfl ⟨rfl, rfl⟩⟩) ?_
  refine WD.loud hok1 1 rfl (⟨_, [⟨5, .int .i64 0, (fun _ => True)⟩, ⟨0, .agg #[.int .u64 ((s.w0.toNat : Nat) : Int), .int .u64 ((s.w1.toNat : Nat) : Int), .int .u64 ((s.w2.toNat : Nat) : Int), .int .u64 ((s.w3.toNat : Nat) : Int)], (fun w' => w'.heap[w.heap.size]? = some (.cells #[.int .u64 ((s.w0.toNat : Nat) : Int), .int .u64 ((s.w1.toNat : Nat) : Int), .int .u64 ((s.w2.toNat : Nat) : Int), .int .u64 ((s.w3.toNat : Nat) : Int)] 24 (0, 0)))⟩], rfl, rfl, rfl, rfl, rfl, rfl, d_call ok20 rfl (Ret.calls (of2_any ⟨#[97, 108, 112, 104, 97]⟩ w5  ) fun _ w6 p1 => ?_)⟩)
  obtain ⟨rfl, u5⟩ := p1
  have H6 : UpG w [] w6 [[blk w.heap.size #[.int .u64 ((s.w0.toNat : Nat) : Int), .int .u64 ((s.w1.toNat : Nat) : Int), .int .u64 ((s.w2.toNat : Nat) : Int), .int .u64 ((s.w3.toNat : Nat) : Int)] 24], [blk w1.heap.size #[.int .u64 ((Bs.zero.w0.toNat : Nat) : Int), .int .u64 ((Bs.zero.w1.toNat : Nat) : Int), .int .u64 ((Bs.zero.w2.toNat : Nat) : Int), .int .u64 ((Bs.zero.w3.toNat : Nat) : Int)] 24], [blk w2.heap.size #[.int .u64 ((s.w0.toNat : Nat) : Int), .int .u64 ((s.w1.toNat : Nat) : Int), .int .u64 ((s.w2.toNat : Nat) : Int), .int .u64 ((s.w3.toNat : Nat) : Int)] 24]] := H5.call u5
  refine ⟨⟨trivial, (H6.blk 0 rfl), trivial⟩, ?_⟩
  refine WD.loud hok1 2 rfl (⟨_, [⟨5, .int .i64 0, (fun _ => True)⟩], rfl, rfl, rfl, rfl, rfl, rfl, d_call ok9 rfl (Ret.calls (and_any s (classB ⟨#[97, 108, 112, 104, 97]⟩) w6  ) fun _ w7 p2 => ?_)⟩)
  obtain ⟨rfl, u6⟩ := p2
  have H7 : UpG w [] w7 [[blk w.heap.size #[.int .u64 ((s.w0.toNat : Nat) : Int), .int .u64 ((s.w1.toNat : Nat) : Int), .int .u64 ((s.w2.toNat : Nat) : Int), .int .u64 ((s.w3.toNat : Nat) : Int)] 24], [blk w1.heap.size #[.int .u64 ((Bs.zero.w0.toNat : Nat) : Int), .int .u64 ((Bs.zero.w1.toNat : Nat) : Int), .int .u64 ((Bs.zero.w2.toNat : Nat) : Int), .int .u64 ((Bs.zero.w3.toNat : Nat) : Int)] 24], [blk w2.heap.size #[.int .u64 ((s.w0.toNat : Nat) : Int), .int .u64 ((s.w1.toNat : Nat) : Int), .int .u64 ((s.w2.toNat : Nat) : Int), .int .u64 ((s.w3.toNat : Nat) : Int)] 24]] := H6.call u6
  refine ⟨⟨trivial, trivial⟩, ?_⟩
  refine WD.loud hok1 3 rfl (⟨_, [⟨5, .int .i64 0, (fun _ => True)⟩], rfl, rfl, rfl, rfl, rfl, rfl, d_call ok19 rfl (Ret.calls (bytes_any (andB s (classB ⟨#[97, 108, 112, 104, 97]⟩)) w7 (rT.at H7) ) fun _ w8 p3 => ?_)⟩)
  obtain ⟨a2_1, c2_1, rfl, u7⟩ := p3
  have H8 : UpG w [] w8 [[blk w.heap.size #[.int .u64 ((s.w0.toNat : Nat) : Int), .int .u64 ((s.w1.toNat : Nat) : Int), .int .u64 ((s.w2.toNat : Nat) : Int), .int .u64 ((s.w3.toNat : Nat) : Int)] 24], [blk w1.heap.size #[.int .u64 ((Bs.zero.w0.toNat : Nat) : Int), .int .u64 ((Bs.zero.w1.toNat : Nat) : Int), .int .u64 ((Bs.zero.w2.toNat : Nat) : Int), .int .u64 ((Bs.zero.w3.toNat : Nat) : Int)] 24], [blk w2.heap.size #[.int .u64 ((s.w0.toNat : Nat) : Int), .int .u64 ((s.w1.toNat : Nat) : Int), .int .u64 ((s.w2.toNat : Nat) : Int), .int .u64 ((s.w3.toNat : Nat) : Int)] 24], [rowT tyN8 (.slice a2_1 ((bytesB (andB s (classB ⟨#[97, 108, 112, 104, 97]⟩))).length) c2_1) 5 (bytesB (andB s (classB ⟨#[97, 108, 112, 104, 97]⟩)))]] := (H7.new' u7).re rfl
  refine ⟨⟨trivial, trivial⟩, ?_⟩
  refine WD.take hok1 4 (.int .i64 (((bytesB (andB s (classB ⟨#[97, 108, 112, 104, 97]⟩))).length : Nat) : Int)) (fun _ => True) rfl rfl rfl rfl rfl trivial (.inl ⟨rfl, fun _ _ => d_lenS Tryd.underlying41 rfl ⟨rfl, rfl⟩⟩) ?_
  refine WD.done hok1 rfl (X.then_code ?_)
  refine W.block ?_
  refine W.pick [11, 10, 12, 3, 2] (Γ' := [(11, .int .i64 (((bytesB (andB s (classB ⟨#[97, 108, 112, 104, 97]⟩))).length : Nat) : Int)), (10, .slice a2_1 ((bytesB (andB s (classB ⟨#[97, 108, 112, 104, 97]⟩))).length) c2_1), (12, .int .i64 0), (3, .pointer (some ⟨w2.heap.size, 0, none⟩)), (2, .pointer (some ⟨w1.heap.size, 0, none⟩))]) rfl ?_
  refine W.loop (fun m Γ' w' => ∃ k : Nat, ∃ r : Bs, Γ' = [(11, .int .i64 (((bytesB (andB s (classB ⟨#[97, 108, 112, 104, 97]⟩))).length : Nat) : Int)), (10, .slice a2_1 ((bytesB (andB s (classB ⟨#[97, 108, 112, 104, 97]⟩))).length) c2_1), (12, .int .i64 ((k : Nat) : Int)), (3, .pointer (some ⟨w2.heap.size, 0, none⟩)), (2, .pointer (some ⟨w1.heap.size, 0, none⟩))] ∧ UpG w [] w' [[blk w.heap.size #[.int .u64 ((s.w0.toNat : Nat) : Int), .int .u64 ((s.w1.toNat : Nat) : Int), .int .u64 ((s.w2.toNat : Nat) : Int), .int .u64 ((s.w3.toNat : Nat) : Int)] 24], [blk w1.heap.size #[.int .u64 ((Bs.zero.w0.toNat : Nat) : Int), .int .u64 ((Bs.zero.w1.toNat : Nat) : Int), .int .u64 ((Bs.zero.w2.toNat : Nat) : Int), .int .u64 ((Bs.zero.w3.toNat : Nat) : Int)] 24], [blk w2.heap.size #[.int .u64 ((r.w0.toNat : Nat) : Int), .int .u64 ((r.w1.toNat : Nat) : Int), .int .u64 ((r.w2.toNat : Nat) : Int), .int .u64 ((r.w3.toNat : Nat) : Int)] 24], [rowT tyN8 (.slice a2_1 ((bytesB (andB s (classB ⟨#[97, 108, 112, 104, 97]⟩))).length) c2_1) 5 (bytesB (andB s (classB ⟨#[97, 108, 112, 104, 97]⟩)))]] ∧ (k ≤ (bytesB (andB s (classB ⟨#[97, 108, 112, 104, 97]⟩))).length) ∧ (r = ((bytesB (andB s (classB ⟨#[97, 108, 112, 104, 97]⟩))).take k).foldl (fun o b => orB o (ofS [b ^^^ 32])) s) ∧ m = (bytesB (andB s (classB ⟨#[97, 108, 112, 104, 97]⟩))).length - k) ((bytesB (andB s (classB ⟨#[97, 108, 112, 104, 97]⟩))).length - 0) ⟨0, s, rfl, H8, (by first | assumption | omega | simp), (by rfl), rfl⟩ ?_
  rintro m1 Γ1 w9 ⟨k, r, rfl, H9, hk, hr, rfl⟩
  have hlen : (bytesB (andB s (classB ⟨#[97, 108, 112, 104, 97]⟩))).length ≤ 256 := bytesB_len _
  refine W.seq ?_
  refine W.region ?_
  refine WL.op rfl (d_cmp (decide (((k : Nat) : Int) < (((bytesB (andB s (classB ⟨#[97, 108, 112, 104, 97]⟩))).length : Nat) : Int))) rfl rfl rfl ?_)
  refine WL.done (X.then_code ?_)
  refine W.seq ?_
  refine W.ite (p := ((k : Nat) : Int) < (((bytesB (andB s (classB ⟨#[97, 108, 112, 104, 97]⟩))).length : Nat) : Int)) rfl (fun c93 => ?_) (fun c93 => ?_)
  · skip
    refine W.skip (X.then_code ?_)
    refine W.seq ?_
    refine W.block ?_
    refine W.seq ?_
    refine W.region ?_
    refine WL.op rfl (t_addr1 k (T := tyN8) rfl Tryd.underlying41 sz5 rfl rfl (H9.rdT 3 rfl) rfl (by omega) ?_)
    refine WL.op rfl (t_load1 k 0 (T := tyN8) rfl Tryd.underlying5 rfl rfl (H9.rdT 3 rfl) (by omega) rfl ?_)
    refine WL.op rfl (d_assign rfl ?_)
    refine WL.done (X.then_code ?_)
    have hx := (mem_bytesB.1 (getD_mem' (d := 0) (show k < (bytesB (andB s (classB ⟨#[97, 108, 112, 104, 97]⟩))).length by omega))).1
    refine W.regionD mixed (by kernel_rfl) fun hok2 w10 k2 => ?_
    have H10 : UpG w [] w10 [[blk w.heap.size #[.int .u64 ((s.w0.toNat : Nat) : Int), .int .u64 ((s.w1.toNat : Nat) : Int), .int .u64 ((s.w2.toNat : Nat) : Int), .int .u64 ((s.w3.toNat : Nat) : Int)] 24], [blk w1.heap.size #[.int .u64 ((Bs.zero.w0.toNat : Nat) : Int), .int .u64 ((Bs.zero.w1.toNat : Nat) : Int), .int .u64 ((Bs.zero.w2.toNat : Nat) : Int), .int .u64 ((Bs.zero.w3.toNat : Nat) : Int)] 24], [blk w2.heap.size #[.int .u64 ((r.w0.toNat : Nat) : Int), .int .u64 ((r.w1.toNat : Nat) : Int), .int .u64 ((r.w2.toNat : Nat) : Int), .int .u64 ((r.w3.toNat : Nat) : Int)] 24], [rowT tyN8 (.slice a2_1 ((bytesB (andB s (classB ⟨#[97, 108, 112, 104, 97]⟩))).length) c2_1) 5 (bytesB (andB s (classB ⟨#[97, 108, 112, 104, 97]⟩)))]] := H9.kept k2
    refine WD.take hok2 0 (.agg #[.int .u64 ((r.w0.toNat : Nat) : Int), .int .u64 ((r.w1.toNat : Nat) : Int), .int .u64 ((r.w2.toNat : Nat) : Int), .int .u64 ((r.w3.toNat : Nat) : Int)]) (fun w' => w'.heap[w2.heap.size]? = some (.cells #[.int .u64 ((r.w0.toNat : Nat) : Int), .int .u64 ((r.w1.toNat : Nat) : Int), .int .u64 ((r.w2.toNat : Nat) : Int), .int .u64 ((r.w3.toNat : Nat) : Int)] 24 (0, 0))) rfl rfl rfl rfl rfl (H10.blk 2 rfl) (.inl ⟨rfl, fun _ hC => d_loadAB [.int .u64 ((r.w0.toNat : Nat) : Int), .int .u64 ((r.w1.toNat : Nat) : Int), .int .u64 ((r.w2.toNat : Nat) : Int), .int .u64 ((r.w3.toNat : Nat) : Int)] Tryd.underlying24 rfl sz24 rfl hC rfl rfl ⟨rfl, rfl⟩⟩) ?_
    refine WD.take hok2 1 (.int .u8 (((bytesB (andB s (classB ⟨#[97, 108, 112, 104, 97]⟩))).getD k 0 : Nat) : Int)) (fun _ => True) rfl rfl rfl rfl rfl trivial (.inl ⟨rfl, fun _ _ => d_move rfl ⟨rfl, rfl⟩⟩) ?_
    refine WD.take hok2 2 (.int .u8 ((((bytesB (andB s (classB ⟨#[97, 108, 112, 104, 97]⟩))).getD k 0) ^^^ 32 : Nat) : Int)) (fun _ => True) rfl rfl rfl rfl rfl trivial (.inl ⟨rfl, fun _ _ => d_xor32 (m := (bytesB (andB s (classB ⟨#[97, 108, 112, 104, 97]⟩))).getD k 0) (by omega) rfl rfl ⟨rfl, rfl⟩⟩) ?_
    refine WD.loud hok2 3 rfl (⟨_, [⟨0, .agg #[.int .u64 ((r.w0.toNat : Nat) : Int), .int .u64 ((r.w1.toNat : Nat) : Int), .int .u64 ((r.w2.toNat : Nat) : Int), .int .u64 ((r.w3.toNat : Nat) : Int)], (fun w' => w'.heap[w2.heap.size]? = some (.cells #[.int .u64 ((r.w0.toNat : Nat) : Int), .int .u64 ((r.w1.toNat : Nat) : Int), .int .u64 ((r.w2.toNat : Nat) : Int), .int .u64 ((r.w3.toNat : Nat) : Int)] 24 (0, 0)))⟩], rfl, rfl, rfl, rfl, rfl, rfl, t_buildSlice (T := tyN8) (xs := [((bytesB (andB s (classB ⟨#[97, 108, 112, 104, 97]⟩))).getD k 0) ^^^ 32]) (cs := #[.int .u8 ((((bytesB (andB s (classB ⟨#[97, 108, 112, 104, 97]⟩))).getD k 0) ^^^ 32 : Nat) : Int)]) rfl Tryd.underlying41 sz5 rfl rfl rfl rfl (by kernel_rfl) rfl rfl fun w11 u8 => ?_⟩)
    have H11 : UpG w [] w11 [[blk w.heap.size #[.int .u64 ((s.w0.toNat : Nat) : Int), .int .u64 ((s.w1.toNat : Nat) : Int), .int .u64 ((s.w2.toNat : Nat) : Int), .int .u64 ((s.w3.toNat : Nat) : Int)] 24], [blk w1.heap.size #[.int .u64 ((Bs.zero.w0.toNat : Nat) : Int), .int .u64 ((Bs.zero.w1.toNat : Nat) : Int), .int .u64 ((Bs.zero.w2.toNat : Nat) : Int), .int .u64 ((Bs.zero.w3.toNat : Nat) : Int)] 24], [blk w2.heap.size #[.int .u64 ((r.w0.toNat : Nat) : Int), .int .u64 ((r.w1.toNat : Nat) : Int), .int .u64 ((r.w2.toNat : Nat) : Int), .int .u64 ((r.w3.toNat : Nat) : Int)] 24], [rowT tyN8 (.slice a2_1 ((bytesB (andB s (classB ⟨#[97, 108, 112, 104, 97]⟩))).length) c2_1) 5 (bytesB (andB s (classB ⟨#[97, 108, 112, 104, 97]⟩)))], [rowT tyN8 (.slice (some ⟨w10.heap.size, 0, none⟩) ([((bytesB (andB s (classB ⟨#[97, 108, 112, 104, 97]⟩))).getD k 0) ^^^ 32].length) ([((bytesB (andB s (classB ⟨#[97, 108, 112, 104, 97]⟩))).getD k 0) ^^^ 32].length)) 5 [((bytesB (andB s (classB ⟨#[97, 108, 112, 104, 97]⟩))).getD k 0) ^^^ 32]]] := H10.new' u8
    refine ⟨⟨(H11.blk 2 rfl), trivial⟩, ?_⟩
    refine WD.loud hok2 4 rfl (⟨_, [⟨0, .agg #[.int .u64 ((r.w0.toNat : Nat) : Int), .int .u64 ((r.w1.toNat : Nat) : Int), .int .u64 ((r.w2.toNat : Nat) : Int), .int .u64 ((r.w3.toNat : Nat) : Int)], (fun w' => w'.heap[w2.heap.size]? = some (.cells #[.int .u64 ((r.w0.toNat : Nat) : Int), .int .u64 ((r.w1.toNat : Nat) : Int), .int .u64 ((r.w2.toNat : Nat) : Int), .int .u64 ((r.w3.toNat : Nat) : Int)] 24 (0, 0)))⟩], rfl, rfl, rfl, rfl, rfl, rfl, d_call ok18 rfl (Ret.calls (of_any (some ⟨w10.heap.size, 0, none⟩) [((bytesB (andB s (classB ⟨#[97, 108, 112, 104, 97]⟩))).getD k 0) ^^^ 32] ([((bytesB (andB s (classB ⟨#[97, 108, 112, 104, 97]⟩))).getD k 0) ^^^ 32].length) ([((bytesB (andB s (classB ⟨#[97, 108, 112, 104, 97]⟩))).getD k 0) ^^^ 32].length) w11 (H11.rdT 4 rfl) (by intro c hc; simp only [List.mem_singleton] at hc; subst hc; exact xor_lt hx)) fun _ w12 p4 => ?_)⟩)
    obtain ⟨rfl, u9⟩ := p4
    have H12 : UpG w [] w12 [[blk w.heap.size #[.int .u64 ((s.w0.toNat : Nat) : Int), .int .u64 ((s.w1.toNat : Nat) : Int), .int .u64 ((s.w2.toNat : Nat) : Int), .int .u64 ((s.w3.toNat : Nat) : Int)] 24], [blk w1.heap.size #[.int .u64 ((Bs.zero.w0.toNat : Nat) : Int), .int .u64 ((Bs.zero.w1.toNat : Nat) : Int), .int .u64 ((Bs.zero.w2.toNat : Nat) : Int), .int .u64 ((Bs.zero.w3.toNat : Nat) : Int)] 24], [blk w2.heap.size #[.int .u64 ((r.w0.toNat : Nat) : Int), .int .u64 ((r.w1.toNat : Nat) : Int), .int .u64 ((r.w2.toNat : Nat) : Int), .int .u64 ((r.w3.toNat : Nat) : Int)] 24], [rowT tyN8 (.slice a2_1 ((bytesB (andB s (classB ⟨#[97, 108, 112, 104, 97]⟩))).length) c2_1) 5 (bytesB (andB s (classB ⟨#[97, 108, 112, 104, 97]⟩)))], [rowT tyN8 (.slice (some ⟨w10.heap.size, 0, none⟩) ([((bytesB (andB s (classB ⟨#[97, 108, 112, 104, 97]⟩))).getD k 0) ^^^ 32].length) ([((bytesB (andB s (classB ⟨#[97, 108, 112, 104, 97]⟩))).getD k 0) ^^^ 32].length)) 5 [((bytesB (andB s (classB ⟨#[97, 108, 112, 104, 97]⟩))).getD k 0) ^^^ 32]]] := H11.call u9
    refine ⟨⟨(H12.blk 2 rfl), trivial⟩, ?_⟩
    refine WD.loud hok2 5 rfl (⟨_, [], rfl, rfl, rfl, rfl, rfl, rfl, d_call ok21 rfl (Ret.calls (or_any r (ofS [((bytesB (andB s (classB ⟨#[97, 108, 112, 104, 97]⟩))).getD k 0) ^^^ 32]) w12  ) fun _ w13 p5 => ?_)⟩)
    obtain ⟨rfl, u10⟩ := p5
    have H13 : UpG w [] w13 [[blk w.heap.size #[.int .u64 ((s.w0.toNat : Nat) : Int), .int .u64 ((s.w1.toNat : Nat) : Int), .int .u64 ((s.w2.toNat : Nat) : Int), .int .u64 ((s.w3.toNat : Nat) : Int)] 24], [blk w1.heap.size #[.int .u64 ((Bs.zero.w0.toNat : Nat) : Int), .int .u64 ((Bs.zero.w1.toNat : Nat) : Int), .int .u64 ((Bs.zero.w2.toNat : Nat) : Int), .int .u64 ((Bs.zero.w3.toNat : Nat) : Int)] 24], [blk w2.heap.size #[.int .u64 ((r.w0.toNat : Nat) : Int), .int .u64 ((r.w1.toNat : Nat) : Int), .int .u64 ((r.w2.toNat : Nat) : Int), .int .u64 ((r.w3.toNat : Nat) : Int)] 24], [rowT tyN8 (.slice a2_1 ((bytesB (andB s (classB ⟨#[97, 108, 112, 104, 97]⟩))).length) c2_1) 5 (bytesB (andB s (classB ⟨#[97, 108, 112, 104, 97]⟩)))], [rowT tyN8 (.slice (some ⟨w10.heap.size, 0, none⟩) ([((bytesB (andB s (classB ⟨#[97, 108, 112, 104, 97]⟩))).getD k 0) ^^^ 32].length) ([((bytesB (andB s (classB ⟨#[97, 108, 112, 104, 97]⟩))).getD k 0) ^^^ 32].length)) 5 [((bytesB (andB s (classB ⟨#[97, 108, 112, 104, 97]⟩))).getD k 0) ^^^ 32]]] := H12.call u10
    refine ⟨trivial, ?_⟩
    refine WD.loud hok2 6 rfl (⟨_, [], rfl, rfl, rfl, rfl, rfl, rfl, d_storeAB (us := [.int .u64 ((((orB r (ofS [((bytesB (andB s (classB ⟨#[97, 108, 112, 104, 97]⟩))).getD k 0) ^^^ 32])).w0).toNat : Nat) : Int), .int .u64 ((((orB r (ofS [((bytesB (andB s (classB ⟨#[97, 108, 112, 104, 97]⟩))).getD k 0) ^^^ 32])).w1).toNat : Nat) : Int), .int .u64 ((((orB r (ofS [((bytesB (andB s (classB ⟨#[97, 108, 112, 104, 97]⟩))).getD k 0) ^^^ 32])).w2).toNat : Nat) : Int), .int .u64 ((((orB r (ofS [((bytesB (andB s (classB ⟨#[97, 108, 112, 104, 97]⟩))).getD k 0) ^^^ 32])).w3).toNat : Nat) : Int)]) (cs' := #[.int .u64 ((((orB r (ofS [((bytesB (andB s (classB ⟨#[97, 108, 112, 104, 97]⟩))).getD k 0) ^^^ 32])).w0).toNat : Nat) : Int), .int .u64 ((((orB r (ofS [((bytesB (andB s (classB ⟨#[97, 108, 112, 104, 97]⟩))).getD k 0) ^^^ 32])).w1).toNat : Nat) : Int), .int .u64 ((((orB r (ofS [((bytesB (andB s (classB ⟨#[97, 108, 112, 104, 97]⟩))).getD k 0) ^^^ 32])).w2).toNat : Nat) : Int), .int .u64 ((((orB r (ofS [((bytesB (andB s (classB ⟨#[97, 108, 112, 104, 97]⟩))).getD k 0) ^^^ 32])).w3).toNat : Nat) : Int)]) sz24 rfl rfl rfl rfl (H13.blk 2 rfl) rfl rfl fun w14 u11 => ?_⟩)
    have H14 : UpG w [] w14 [[blk w.heap.size #[.int .u64 ((s.w0.toNat : Nat) : Int), .int .u64 ((s.w1.toNat : Nat) : Int), .int .u64 ((s.w2.toNat : Nat) : Int), .int .u64 ((s.w3.toNat : Nat) : Int)] 24], [blk w1.heap.size #[.int .u64 ((Bs.zero.w0.toNat : Nat) : Int), .int .u64 ((Bs.zero.w1.toNat : Nat) : Int), .int .u64 ((Bs.zero.w2.toNat : Nat) : Int), .int .u64 ((Bs.zero.w3.toNat : Nat) : Int)] 24], [blk w2.heap.size #[.int .u64 ((((orB r (ofS [((bytesB (andB s (classB ⟨#[97, 108, 112, 104, 97]⟩))).getD k 0) ^^^ 32])).w0).toNat : Nat) : Int), .int .u64 ((((orB r (ofS [((bytesB (andB s (classB ⟨#[97, 108, 112, 104, 97]⟩))).getD k 0) ^^^ 32])).w1).toNat : Nat) : Int), .int .u64 ((((orB r (ofS [((bytesB (andB s (classB ⟨#[97, 108, 112, 104, 97]⟩))).getD k 0) ^^^ 32])).w2).toNat : Nat) : Int), .int .u64 ((((orB r (ofS [((bytesB (andB s (classB ⟨#[97, 108, 112, 104, 97]⟩))).getD k 0) ^^^ 32])).w3).toNat : Nat) : Int)] 24], [rowT tyN8 (.slice a2_1 ((bytesB (andB s (classB ⟨#[97, 108, 112, 104, 97]⟩))).length) c2_1) 5 (bytesB (andB s (classB ⟨#[97, 108, 112, 104, 97]⟩)))], [rowT tyN8 (.slice (some ⟨w10.heap.size, 0, none⟩) ([((bytesB (andB s (classB ⟨#[97, 108, 112, 104, 97]⟩))).getD k 0) ^^^ 32].length) ([((bytesB (andB s (classB ⟨#[97, 108, 112, 104, 97]⟩))).getD k 0) ^^^ 32].length)) 5 [((bytesB (andB s (classB ⟨#[97, 108, 112, 104, 97]⟩))).getD k 0) ^^^ 32]]] := H13.on 2 rfl u11
    refine ⟨trivial, ?_⟩
    refine WD.done hok2 rfl (X.block_normal (X.then_code ?_))
    refine W.region ?_
    refine WL.op rfl (d_add rfl rfl (by omega) (by omega) ?_)
    refine WL.op rfl (d_move rfl ?_)
    refine WL.done ?_
    exact X.next [11, 10, 12, 3, 2] (Γ' := [(11, .int .i64 (((bytesB (andB s (classB ⟨#[97, 108, 112, 104, 97]⟩))).length : Nat) : Int)), (10, .slice a2_1 ((bytesB (andB s (classB ⟨#[97, 108, 112, 104, 97]⟩))).length) c2_1), (12, .int .i64 (((k + 1) : Nat) : Int)), (3, .pointer (some ⟨w2.heap.size, 0, none⟩)), (2, .pointer (some ⟨w1.heap.size, 0, none⟩))]) rfl ((bytesB (andB s (classB ⟨#[97, 108, 112, 104, 97]⟩))).length - (k + 1)) (by omega) ⟨k + 1, (orB r (ofS [((bytesB (andB s (classB ⟨#[97, 108, 112, 104, 97]⟩))).getD k 0) ^^^ 32])), rfl, (UpG.of (G := [[blk w.heap.size #[.int .u64 ((s.w0.toNat : Nat) : Int), .int .u64 ((s.w1.toNat : Nat) : Int), .int .u64 ((s.w2.toNat : Nat) : Int), .int .u64 ((s.w3.toNat : Nat) : Int)] 24], [blk w1.heap.size #[.int .u64 ((Bs.zero.w0.toNat : Nat) : Int), .int .u64 ((Bs.zero.w1.toNat : Nat) : Int), .int .u64 ((Bs.zero.w2.toNat : Nat) : Int), .int .u64 ((Bs.zero.w3.toNat : Nat) : Int)] 24], [blk w2.heap.size #[.int .u64 ((((orB r (ofS [((bytesB (andB s (classB ⟨#[97, 108, 112, 104, 97]⟩))).getD k 0) ^^^ 32])).w0).toNat : Nat) : Int), .int .u64 ((((orB r (ofS [((bytesB (andB s (classB ⟨#[97, 108, 112, 104, 97]⟩))).getD k 0) ^^^ 32])).w1).toNat : Nat) : Int), .int .u64 ((((orB r (ofS [((bytesB (andB s (classB ⟨#[97, 108, 112, 104, 97]⟩))).getD k 0) ^^^ 32])).w2).toNat : Nat) : Int), .int .u64 ((((orB r (ofS [((bytesB (andB s (classB ⟨#[97, 108, 112, 104, 97]⟩))).getD k 0) ^^^ 32])).w3).toNat : Nat) : Int)] 24], [rowT tyN8 (.slice a2_1 ((bytesB (andB s (classB ⟨#[97, 108, 112, 104, 97]⟩))).length) c2_1) 5 (bytesB (andB s (classB ⟨#[97, 108, 112, 104, 97]⟩)))]]) (Upd.sel H14 (M := [blk w.heap.size #[.int .u64 ((s.w0.toNat : Nat) : Int), .int .u64 ((s.w1.toNat : Nat) : Int), .int .u64 ((s.w2.toNat : Nat) : Int), .int .u64 ((s.w3.toNat : Nat) : Int)] 24, blk w1.heap.size #[.int .u64 ((Bs.zero.w0.toNat : Nat) : Int), .int .u64 ((Bs.zero.w1.toNat : Nat) : Int), .int .u64 ((Bs.zero.w2.toNat : Nat) : Int), .int .u64 ((Bs.zero.w3.toNat : Nat) : Int)] 24, blk w2.heap.size #[.int .u64 ((((orB r (ofS [((bytesB (andB s (classB ⟨#[97, 108, 112, 104, 97]⟩))).getD k 0) ^^^ 32])).w0).toNat : Nat) : Int), .int .u64 ((((orB r (ofS [((bytesB (andB s (classB ⟨#[97, 108, 112, 104, 97]⟩))).getD k 0) ^^^ 32])).w1).toNat : Nat) : Int), .int .u64 ((((orB r (ofS [((bytesB (andB s (classB ⟨#[97, 108, 112, 104, 97]⟩))).getD k 0) ^^^ 32])).w2).toNat : Nat) : Int), .int .u64 ((((orB r (ofS [((bytesB (andB s (classB ⟨#[97, 108, 112, 104, 97]⟩))).getD k 0) ^^^ 32])).w3).toNat : Nat) : Int)] 24, rowT tyN8 (.slice a2_1 ((bytesB (andB s (classB ⟨#[97, 108, 112, 104, 97]⟩))).length) c2_1) 5 (bytesB (andB s (classB ⟨#[97, 108, 112, 104, 97]⟩)))]) (l := [0, 1, 2, 3]) rfl rfl) rfl), (by first | assumption | omega | simp), (by rw [fold_step (by omega), ← hr]), rfl⟩
  · skip
    refine W.exit (X.then_exit (X.then_exit (X.block_exit (X.then_code ?_))))
    refine W.seq ?_
    refine W.region ?_
    refine WL.op rfl (d_loadAB [.int .u64 ((r.w0.toNat : Nat) : Int), .int .u64 ((r.w1.toNat : Nat) : Int), .int .u64 ((r.w2.toNat : Nat) : Int), .int .u64 ((r.w3.toNat : Nat) : Int)] Tryd.underlying24 rfl sz24 rfl (H9.blk 2 rfl) rfl rfl ?_)
    refine WL.op0 (d_storeAB (us := [.int .u64 ((r.w0.toNat : Nat) : Int), .int .u64 ((r.w1.toNat : Nat) : Int), .int .u64 ((r.w2.toNat : Nat) : Int), .int .u64 ((r.w3.toNat : Nat) : Int)]) (cs' := #[.int .u64 ((r.w0.toNat : Nat) : Int), .int .u64 ((r.w1.toNat : Nat) : Int), .int .u64 ((r.w2.toNat : Nat) : Int), .int .u64 ((r.w3.toNat : Nat) : Int)]) sz24 rfl rfl rfl rfl (H9.blk 1 rfl) rfl rfl fun w15 u12 => ?_)
    have H15 : UpG w [] w15 [[blk w.heap.size #[.int .u64 ((s.w0.toNat : Nat) : Int), .int .u64 ((s.w1.toNat : Nat) : Int), .int .u64 ((s.w2.toNat : Nat) : Int), .int .u64 ((s.w3.toNat : Nat) : Int)] 24], [blk w1.heap.size #[.int .u64 ((r.w0.toNat : Nat) : Int), .int .u64 ((r.w1.toNat : Nat) : Int), .int .u64 ((r.w2.toNat : Nat) : Int), .int .u64 ((r.w3.toNat : Nat) : Int)] 24], [blk w2.heap.size #[.int .u64 ((r.w0.toNat : Nat) : Int), .int .u64 ((r.w1.toNat : Nat) : Int), .int .u64 ((r.w2.toNat : Nat) : Int), .int .u64 ((r.w3.toNat : Nat) : Int)] 24], [rowT tyN8 (.slice a2_1 ((bytesB (andB s (classB ⟨#[97, 108, 112, 104, 97]⟩))).length) c2_1) 5 (bytesB (andB s (classB ⟨#[97, 108, 112, 104, 97]⟩)))]] := H9.on 1 rfl u12
    refine WL.done (X.then_code ?_)
    refine W.ret (X.retR1 rfl (rv_cellA [.int .u64 ((r.w0.toNat : Nat) : Int), .int .u64 ((r.w1.toNat : Nat) : Int), .int .u64 ((r.w2.toNat : Nat) : Int), .int .u64 ((r.w3.toNat : Nat) : Int)] Tryd.underlying24 rfl sz24 rfl (H15.blk 1 rfl) rfl rfl) ?_)
    have e : r = foldB s := by rw [hr, List.take_of_length_le (by omega)]; rfl
    exact ⟨(by rw [e]), H15.noneL⟩

set_option maxRecDepth 20000 in
theorem up_any (b : Nat) (w : World) :
    Calls Tryd.prog 23 #[.int .i64 ((b : Nat) : Int)] w (Ret fun v w' => v = .bool (upN b) ∧ Upd w [] w' []) := by
  refine calls_of_W (args := [.int .i64 ((b : Nat) : Int)]) Tryd.func23 rfl rfl rfl ?_
  have H0 : UpG w [] w [] := UpG.nil w
  show W _ _ _ _ [(0, .int .i64 ((b : Nat) : Int))] w
  refine W.seq ?_
  refine W.region ?_
  refine WL.op rfl (d_assign rfl ?_)
  refine WL.done (X.then_code ?_)
  refine W.seq ?_
  refine W.region ?_
  refine WL.op rfl (d_move rfl ?_)
  refine WL.op rfl (d_cmp (decide (((b : Nat) : Int) ≥ (65 : Int))) rfl rfl rfl ?_)
  refine WL.op rfl (d_move rfl ?_)
  refine WL.part 5 (p := ((b : Nat) : Int) ≥ (65 : Int)) rfl (fun g9 => ?_) (fun g9 => ?_)
  · skip
    refine WL.opG rfl rfl rfl (d_move rfl ?_)
    refine WL.opG rfl rfl rfl (d_cmp (decide (((b : Nat) : Int) ≤ (90 : Int))) rfl rfl rfl ?_)
    refine WL.op rfl (d_pick rfl rfl ?_)
    refine WL.op rfl (d_assign rfl ?_)
    refine WL.done (X.then_code ?_)
    refine W.ret (X.ret1 rfl rfl ?_)
    exact ⟨(by congr 1; rw [Bool.eq_iff_iff]; simp [upN]; omega), H0.noneL⟩
  · skip
    refine WL.opN rfl rfl rfl rfl ?_
    refine WL.opN rfl rfl rfl rfl ?_
    refine WL.op rfl (d_pick rfl rfl ?_)
    refine WL.op rfl (d_assign rfl ?_)
    refine WL.done (X.then_code ?_)
    refine W.ret (X.ret1 rfl rfl ?_)
    exact ⟨(by congr 1; rw [Bool.eq_iff_iff]; simp [upN]; omega), H0.noneL⟩

set_option maxRecDepth 20000 in
theorem lo_any (b : Nat) (w : World) :
    Calls Tryd.prog 25 #[.int .i64 ((b : Nat) : Int)] w (Ret fun v w' => v = .bool (loN b) ∧ Upd w [] w' []) := by
  refine calls_of_W (args := [.int .i64 ((b : Nat) : Int)]) Tryd.func25 rfl rfl rfl ?_
  have H0 : UpG w [] w [] := UpG.nil w
  show W _ _ _ _ [(0, .int .i64 ((b : Nat) : Int))] w
  refine W.seq ?_
  refine W.region ?_
  refine WL.op rfl (d_assign rfl ?_)
  refine WL.done (X.then_code ?_)
  refine W.seq ?_
  refine W.region ?_
  refine WL.op rfl (d_move rfl ?_)
  refine WL.op rfl (d_cmp (decide (((b : Nat) : Int) ≥ (97 : Int))) rfl rfl rfl ?_)
  refine WL.op rfl (d_move rfl ?_)
  refine WL.part 5 (p := ((b : Nat) : Int) ≥ (97 : Int)) rfl (fun g10 => ?_) (fun g10 => ?_)
  · skip
    refine WL.opG rfl rfl rfl (d_move rfl ?_)
    refine WL.opG rfl rfl rfl (d_cmp (decide (((b : Nat) : Int) ≤ (122 : Int))) rfl rfl rfl ?_)
    refine WL.op rfl (d_pick rfl rfl ?_)
    refine WL.op rfl (d_assign rfl ?_)
    refine WL.done (X.then_code ?_)
    refine W.ret (X.ret1 rfl rfl ?_)
    exact ⟨(by congr 1; rw [Bool.eq_iff_iff]; simp [loN]; omega), H0.noneL⟩
  · skip
    refine WL.opN rfl rfl rfl rfl ?_
    refine WL.opN rfl rfl rfl rfl ?_
    refine WL.op rfl (d_pick rfl rfl ?_)
    refine WL.op rfl (d_assign rfl ?_)
    refine WL.done (X.then_code ?_)
    refine W.ret (X.ret1 rfl rfl ?_)
    exact ⟨(by congr 1; rw [Bool.eq_iff_iff]; simp [loN]; omega), H0.noneL⟩

set_option maxRecDepth 20000 in
theorem di_any (b : Nat) (w : World) :
    Calls Tryd.prog 30 #[.int .i64 ((b : Nat) : Int)] w (Ret fun v w' => v = .bool (diN b) ∧ Upd w [] w' []) := by
  refine calls_of_W (args := [.int .i64 ((b : Nat) : Int)]) Tryd.func30 rfl rfl rfl ?_
  have H0 : UpG w [] w [] := UpG.nil w
  show W _ _ _ _ [(0, .int .i64 ((b : Nat) : Int))] w
  refine W.seq ?_
  refine W.region ?_
  refine WL.op rfl (d_assign rfl ?_)
  refine WL.done (X.then_code ?_)
  refine W.seq ?_
  refine W.region ?_
  refine WL.op rfl (d_move rfl ?_)
  refine WL.op rfl (d_cmp (decide (((b : Nat) : Int) ≥ (48 : Int))) rfl rfl rfl ?_)
  refine WL.op rfl (d_move rfl ?_)
  refine WL.part 5 (p := ((b : Nat) : Int) ≥ (48 : Int)) rfl (fun g11 => ?_) (fun g11 => ?_)
  · skip
    refine WL.opG rfl rfl rfl (d_move rfl ?_)
    refine WL.opG rfl rfl rfl (d_cmp (decide (((b : Nat) : Int) ≤ (57 : Int))) rfl rfl rfl ?_)
    refine WL.op rfl (d_pick rfl rfl ?_)
    refine WL.op rfl (d_assign rfl ?_)
    refine WL.done (X.then_code ?_)
    refine W.ret (X.ret1 rfl rfl ?_)
    exact ⟨(by congr 1; rw [Bool.eq_iff_iff]; simp [diN]; omega), H0.noneL⟩
  · skip
    refine WL.opN rfl rfl rfl rfl ?_
    refine WL.opN rfl rfl rfl rfl ?_
    refine WL.op rfl (d_pick rfl rfl ?_)
    refine WL.op rfl (d_assign rfl ?_)
    refine WL.done (X.then_code ?_)
    refine W.ret (X.ret1 rfl rfl ?_)
    exact ⟨(by congr 1; rw [Bool.eq_iff_iff]; simp [diN]; omega), H0.noneL⟩

set_option maxRecDepth 20000 in
theorem is_any (name : ByteArray) (b : Nat) (w : World) :
    Calls Tryd.prog 29 #[.string name, .int .i64 ((b : Nat) : Int)] w (Ret fun v w' => v = .tuple #[.bool (isB name b), .bool (isOk name)] ∧ Upd w [] w' []) := by
  refine calls_of_W (args := [.string name, .int .i64 ((b : Nat) : Int)]) Tryd.func29 rfl rfl rfl ?_
  have H0 : UpG w [] w [] := UpG.nil w
  show W _ _ _ _ [(0, .string name), (1, .int .i64 ((b : Nat) : Int))] w
  refine W.seq ?_
  refine W.region ?_
  refine WL.op rfl (d_assign rfl ?_)
  refine WL.op rfl (d_assign rfl ?_)
  refine WL.done (X.then_code ?_)
  refine W.seq ?_
  refine W.seq ?_
  refine W.region ?_
  refine WL.op rfl (d_move rfl ?_)
  refine WL.done (X.then_code ?_)
  refine W.block ?_
  refine W.seq ?_
  refine W.region ?_
  refine WL.op rfl (d_streq rfl rfl ?_)
  refine WL.op rfl (d_assign rfl ?_)
  refine WL.done (X.then_code ?_)
  refine W.ite (p := name = ⟨#[97, 108, 112, 104, 97]⟩) rfl (fun c16 => ?_) (fun c16 => ?_)
  · skip
    refine W.seq ?_
    refine W.region ?_
    refine WL.op rfl (d_move rfl ?_)
    refine WL.op rfl (d_call ok23 rfl (Ret.calls (up_any b w  ) fun _ w1 p1 => ?_))
    obtain ⟨rfl, u1⟩ := p1
    have H1 : UpG w [] w1 [] := H0.call u1
    refine WL.op rfl (d_move rfl ?_)
    refine WL.partB 11 (b := upN b) rfl (fun g17 => ?_) (fun g17 => ?_)
    · skip
      refine WL.opN rfl rfl rfl rfl ?_
      refine WL.opN rfl rfl rfl rfl ?_
      refine WL.op rfl (d_pick rfl rfl ?_)
      refine WL.op rfl (d_assign rfl ?_)
      refine WL.op rfl (d_assign rfl ?_)
      refine WL.done (X.then_code ?_)
      refine W.ret (X.block_ret (X.then_ret (X.ret2 rfl rfl rfl ?_)))
      have e1 : isB name b = (upN b || loN b) := by unfold isB; rw [if_pos c16]
      have e2 : isOk name = true := by unfold isOk; simp [c16]
      exact ⟨(by rw [e1, e2]; all_goals exact tup2 (by (first | rfl | (rw [Bool.eq_iff_iff]; (try simp only [upN, loN, diN, Bool.or_eq_true, Bool.and_eq_true, Bool.not_eq_true', decide_eq_true_eq, decide_eq_false_iff_not, Bool.false_eq_true, iff_false, iff_true, true_iff, false_iff] at *); omega)))), H1.noneL⟩
    · skip
      refine WL.opG rfl rfl rfl (d_move rfl ?_)
      refine WL.opG rfl rfl rfl (d_call ok25 rfl (Ret.calls (lo_any b w1  ) fun _ w2 p2 => ?_))
      obtain ⟨rfl, u2⟩ := p2
      have H2 : UpG w [] w2 [] := H1.call u2
      refine WL.op rfl (d_pick rfl rfl ?_)
      refine WL.op rfl (d_assign rfl ?_)
      refine WL.op rfl (d_assign rfl ?_)
      refine WL.done (X.then_code ?_)
      refine W.ret (X.block_ret (X.then_ret (X.ret2 rfl rfl rfl ?_)))
      have e1 : isB name b = (upN b || loN b) := by unfold isB; rw [if_pos c16]
      have e2 : isOk name = true := by unfold isOk; simp [c16]
      exact ⟨(by rw [e1, e2]; all_goals exact tup2 (by (first | rfl | (rw [Bool.eq_iff_iff]; (try simp only [upN, loN, diN, Bool.or_eq_true, Bool.and_eq_true, Bool.not_eq_true', decide_eq_true_eq, decide_eq_false_iff_not, Bool.false_eq_true, iff_false, iff_true, true_iff, false_iff] at *); omega)))), H2.noneL⟩
  · skip
    refine W.seq ?_
    refine W.region ?_
    refine WL.op rfl (d_streq rfl rfl ?_)
    refine WL.op rfl (d_assign rfl ?_)
    refine WL.done (X.then_code ?_)
    refine W.ite (p := name = ⟨#[100, 105, 103, 105, 116]⟩) rfl (fun c18 => ?_) (fun c18 => ?_)
    · skip
      refine W.seq ?_
      refine W.region ?_
      refine WL.op rfl (d_move rfl ?_)
      refine WL.op rfl (d_call ok30 rfl (Ret.calls (di_any b w  ) fun _ w3 p3 => ?_))
      obtain ⟨rfl, u3⟩ := p3
      have H3 : UpG w [] w3 [] := H0.call u3
      refine WL.op rfl (d_assign rfl ?_)
      refine WL.op rfl (d_assign rfl ?_)
      refine WL.done (X.then_code ?_)
      refine W.ret (X.block_ret (X.then_ret (X.ret2 rfl rfl rfl ?_)))
      have e1 : isB name b = (diN b) := by unfold isB; rw [if_neg c16, if_pos c18]
      have e2 : isOk name = true := by unfold isOk; simp [c18]
      exact ⟨(by rw [e1, e2]; all_goals exact tup2 (by (first | rfl | (rw [Bool.eq_iff_iff]; (try simp only [upN, loN, diN, Bool.or_eq_true, Bool.and_eq_true, Bool.not_eq_true', decide_eq_true_eq, decide_eq_false_iff_not, Bool.false_eq_true, iff_false, iff_true, true_iff, false_iff] at *); omega)))), H3.noneL⟩
    · skip
      refine W.seq ?_
      refine W.region ?_
      refine WL.op rfl (d_streq rfl rfl ?_)
      refine WL.op rfl (d_assign rfl ?_)
      refine WL.done (X.then_code ?_)
      refine W.ite (p := name = ⟨#[97, 108, 110, 117, 109]⟩) rfl (fun c20 => ?_) (fun c20 => ?_)
      · skip
        refine W.seq ?_
        refine W.region ?_
        refine WL.op rfl (d_move rfl ?_)
        refine WL.op rfl (d_call ok23 rfl (Ret.calls (up_any b w  ) fun _ w4 p4 => ?_))
        obtain ⟨rfl, u4⟩ := p4
        have H4 : UpG w [] w4 [] := H0.call u4
        refine WL.op rfl (d_move rfl ?_)
        refine WL.partB 23 (b := upN b) rfl (fun g21 => ?_) (fun g21 => ?_)
        · skip
          refine WL.opN rfl rfl rfl rfl ?_
          refine WL.opN rfl rfl rfl rfl ?_
          refine WL.op rfl (d_pick rfl rfl ?_)
          refine WL.op rfl (d_move rfl ?_)
          refine WL.opN rfl rfl rfl rfl ?_
          refine WL.opN rfl rfl rfl rfl ?_
          refine WL.op rfl (d_pick rfl rfl ?_)
          refine WL.op rfl (d_assign rfl ?_)
          refine WL.op rfl (d_assign rfl ?_)
          refine WL.done (X.then_code ?_)
          refine W.ret (X.block_ret (X.then_ret (X.ret2 rfl rfl rfl ?_)))
          have e1 : isB name b = (upN b || loN b || diN b) := by unfold isB; rw [if_neg c16, if_neg c18, if_pos c20]
          have e2 : isOk name = true := by unfold isOk; simp [c20]
          exact ⟨(by rw [e1, e2]; all_goals exact tup2 (by (first | rfl | (rw [Bool.eq_iff_iff]; (try simp only [upN, loN, diN, Bool.or_eq_true, Bool.and_eq_true, Bool.not_eq_true', decide_eq_true_eq, decide_eq_false_iff_not, Bool.false_eq_true, iff_false, iff_true, true_iff, false_iff] at *); omega)))), H4.noneL⟩
        · skip
          refine WL.opG rfl rfl rfl (d_move rfl ?_)
          refine WL.opG rfl rfl rfl (d_call ok25 rfl (Ret.calls (lo_any b w4  ) fun _ w5 p5 => ?_))
          obtain ⟨rfl, u5⟩ := p5
          have H5 : UpG w [] w5 [] := H4.call u5
          refine WL.op rfl (d_pick rfl rfl ?_)
          refine WL.op rfl (d_move rfl ?_)
          refine WL.partB 27 (b := loN b) rfl (fun g21x => ?_) (fun g21x => ?_)
          · skip
            refine WL.opN rfl rfl rfl rfl ?_
            refine WL.opN rfl rfl rfl rfl ?_
            refine WL.op rfl (d_pick rfl rfl ?_)
            refine WL.op rfl (d_assign rfl ?_)
            refine WL.op rfl (d_assign rfl ?_)
            refine WL.done (X.then_code ?_)
            refine W.ret (X.block_ret (X.then_ret (X.ret2 rfl rfl rfl ?_)))
            have e1 : isB name b = (upN b || loN b || diN b) := by unfold isB; rw [if_neg c16, if_neg c18, if_pos c20]
            have e2 : isOk name = true := by unfold isOk; simp [c20]
            exact ⟨(by rw [e1, e2]; all_goals exact tup2 (by (first | rfl | (rw [Bool.eq_iff_iff]; (try simp only [upN, loN, diN, Bool.or_eq_true, Bool.and_eq_true, Bool.not_eq_true', decide_eq_true_eq, decide_eq_false_iff_not, Bool.false_eq_true, iff_false, iff_true, true_iff, false_iff] at *); omega)))), H5.noneL⟩
          · skip
            refine WL.opG rfl rfl rfl (d_move rfl ?_)
            refine WL.opG rfl rfl rfl (d_call ok30 rfl (Ret.calls (di_any b w5  ) fun _ w6 p6 => ?_))
            obtain ⟨rfl, u6⟩ := p6
            have H6 : UpG w [] w6 [] := H5.call u6
            refine WL.op rfl (d_pick rfl rfl ?_)
            refine WL.op rfl (d_assign rfl ?_)
            refine WL.op rfl (d_assign rfl ?_)
            refine WL.done (X.then_code ?_)
            refine W.ret (X.block_ret (X.then_ret (X.ret2 rfl rfl rfl ?_)))
            have e1 : isB name b = (upN b || loN b || diN b) := by unfold isB; rw [if_neg c16, if_neg c18, if_pos c20]
            have e2 : isOk name = true := by unfold isOk; simp [c20]
            exact ⟨(by rw [e1, e2]; all_goals exact tup2 (by (first | rfl | (rw [Bool.eq_iff_iff]; (try simp only [upN, loN, diN, Bool.or_eq_true, Bool.and_eq_true, Bool.not_eq_true', decide_eq_true_eq, decide_eq_false_iff_not, Bool.false_eq_true, iff_false, iff_true, true_iff, false_iff] at *); omega)))), H6.noneL⟩
      · skip
        refine W.seq ?_
        refine W.region ?_
        refine WL.op rfl (d_streq rfl rfl ?_)
        refine WL.op rfl (d_assign rfl ?_)
        refine WL.done (X.then_code ?_)
        refine W.ite (p := name = ⟨#[117, 112, 112, 101, 114]⟩) rfl (fun c22 => ?_) (fun c22 => ?_)
        · skip
          refine W.seq ?_
          refine W.region ?_
          refine WL.op rfl (d_move rfl ?_)
          refine WL.op rfl (d_call ok23 rfl (Ret.calls (up_any b w  ) fun _ w7 p7 => ?_))
          obtain ⟨rfl, u7⟩ := p7
          have H7 : UpG w [] w7 [] := H0.call u7
          refine WL.op rfl (d_assign rfl ?_)
          refine WL.op rfl (d_assign rfl ?_)
          refine WL.done (X.then_code ?_)
          refine W.ret (X.block_ret (X.then_ret (X.ret2 rfl rfl rfl ?_)))
          have e1 : isB name b = (upN b) := by unfold isB; rw [if_neg c16, if_neg c18, if_neg c20, if_pos c22]
          have e2 : isOk name = true := by unfold isOk; simp [c22]
          exact ⟨(by rw [e1, e2]; all_goals exact tup2 (by (first | rfl | (rw [Bool.eq_iff_iff]; (try simp only [upN, loN, diN, Bool.or_eq_true, Bool.and_eq_true, Bool.not_eq_true', decide_eq_true_eq, decide_eq_false_iff_not, Bool.false_eq_true, iff_false, iff_true, true_iff, false_iff] at *); omega)))), H7.noneL⟩
        · skip
          refine W.seq ?_
          refine W.region ?_
          refine WL.op rfl (d_streq rfl rfl ?_)
          refine WL.op rfl (d_assign rfl ?_)
          refine WL.done (X.then_code ?_)
          refine W.ite (p := name = ⟨#[108, 111, 119, 101, 114]⟩) rfl (fun c24 => ?_) (fun c24 => ?_)
          · skip
            refine W.seq ?_
            refine W.region ?_
            refine WL.op rfl (d_move rfl ?_)
            refine WL.op rfl (d_call ok25 rfl (Ret.calls (lo_any b w  ) fun _ w8 p8 => ?_))
            obtain ⟨rfl, u8⟩ := p8
            have H8 : UpG w [] w8 [] := H0.call u8
            refine WL.op rfl (d_assign rfl ?_)
            refine WL.op rfl (d_assign rfl ?_)
            refine WL.done (X.then_code ?_)
            refine W.ret (X.block_ret (X.then_ret (X.ret2 rfl rfl rfl ?_)))
            have e1 : isB name b = (loN b) := by unfold isB; rw [if_neg c16, if_neg c18, if_neg c20, if_neg c22, if_pos c24]
            have e2 : isOk name = true := by unfold isOk; simp [c24]
            exact ⟨(by rw [e1, e2]; all_goals exact tup2 (by (first | rfl | (rw [Bool.eq_iff_iff]; (try simp only [upN, loN, diN, Bool.or_eq_true, Bool.and_eq_true, Bool.not_eq_true', decide_eq_true_eq, decide_eq_false_iff_not, Bool.false_eq_true, iff_false, iff_true, true_iff, false_iff] at *); omega)))), H8.noneL⟩
          · skip
            refine W.seq ?_
            refine W.region ?_
            refine WL.op rfl (d_streq rfl rfl ?_)
            refine WL.op rfl (d_assign rfl ?_)
            refine WL.done (X.then_code ?_)
            refine W.ite (p := name = ⟨#[115, 112, 97, 99, 101]⟩) rfl (fun c26 => ?_) (fun c26 => ?_)
            · skip
              refine W.seq ?_
              refine W.region ?_
              refine WL.op rfl (d_move rfl ?_)
              refine WL.op rfl (d_cmp (decide (((b : Nat) : Int) ≥ (9 : Int))) rfl rfl rfl ?_)
              refine WL.op rfl (d_move rfl ?_)
              refine WL.part 43 (p := ((b : Nat) : Int) ≥ (9 : Int)) rfl (fun g27 => ?_) (fun g27 => ?_)
              · skip
                refine WL.opG rfl rfl rfl (d_move rfl ?_)
                refine WL.opG rfl rfl rfl (d_cmp (decide (((b : Nat) : Int) ≤ (13 : Int))) rfl rfl rfl ?_)
                refine WL.op rfl (d_pick rfl rfl ?_)
                refine WL.op rfl (d_move rfl ?_)
                refine WL.part 47 (p := ((b : Nat) : Int) ≤ (13 : Int)) rfl (fun g27x => ?_) (fun g27x => ?_)
                · skip
                  refine WL.opN rfl rfl rfl rfl ?_
                  refine WL.opN rfl rfl rfl rfl ?_
                  refine WL.op rfl (d_pick rfl rfl ?_)
                  refine WL.op rfl (d_assign rfl ?_)
                  refine WL.op rfl (d_assign rfl ?_)
                  refine WL.done (X.then_code ?_)
                  refine W.ret (X.block_ret (X.then_ret (X.ret2 rfl rfl rfl ?_)))
                  have e1 : isB name b = (decide (9 ≤ b ∧ b ≤ 13 ∨ b = 32)) := by unfold isB; rw [if_neg c16, if_neg c18, if_neg c20, if_neg c22, if_neg c24, if_pos c26]
                  have e2 : isOk name = true := by unfold isOk; simp [c26]
                  exact ⟨(by rw [e1, e2]; all_goals exact tup2 (by (first | rfl | (rw [Bool.eq_iff_iff]; (try simp only [upN, loN, diN, Bool.or_eq_true, Bool.and_eq_true, Bool.not_eq_true', decide_eq_true_eq, decide_eq_false_iff_not, Bool.false_eq_true, iff_false, iff_true, true_iff, false_iff] at *); omega)))), H0.noneL⟩
                · skip
                  refine WL.opG rfl rfl rfl (d_move rfl ?_)
                  refine WL.opG rfl rfl rfl (d_cmp (decide (((b : Nat) : Int) = (32 : Int))) rfl rfl rfl ?_)
                  refine WL.op rfl (d_pick rfl rfl ?_)
                  refine WL.op rfl (d_assign rfl ?_)
                  refine WL.op rfl (d_assign rfl ?_)
                  refine WL.done (X.then_code ?_)
                  refine W.ret (X.block_ret (X.then_ret (X.ret2 rfl rfl rfl ?_)))
                  have e1 : isB name b = (decide (9 ≤ b ∧ b ≤ 13 ∨ b = 32)) := by unfold isB; rw [if_neg c16, if_neg c18, if_neg c20, if_neg c22, if_neg c24, if_pos c26]
                  have e2 : isOk name = true := by unfold isOk; simp [c26]
                  exact ⟨(by rw [e1, e2]; all_goals exact tup2 (by (first | rfl | (rw [Bool.eq_iff_iff]; (try simp only [upN, loN, diN, Bool.or_eq_true, Bool.and_eq_true, Bool.not_eq_true', decide_eq_true_eq, decide_eq_false_iff_not, Bool.false_eq_true, iff_false, iff_true, true_iff, false_iff] at *); omega)))), H0.noneL⟩
              · skip
                refine WL.opN rfl rfl rfl rfl ?_
                refine WL.opN rfl rfl rfl rfl ?_
                refine WL.op rfl (d_pick rfl rfl ?_)
                refine WL.op rfl (d_move rfl ?_)
                refine WL.opG rfl rfl rfl (d_move rfl ?_)
                refine WL.opG rfl rfl rfl (d_cmp (decide (((b : Nat) : Int) = (32 : Int))) rfl rfl rfl ?_)
                refine WL.op rfl (d_pick rfl rfl ?_)
                refine WL.op rfl (d_assign rfl ?_)
                refine WL.op rfl (d_assign rfl ?_)
                refine WL.done (X.then_code ?_)
                refine W.ret (X.block_ret (X.then_ret (X.ret2 rfl rfl rfl ?_)))
                have e1 : isB name b = (decide (9 ≤ b ∧ b ≤ 13 ∨ b = 32)) := by unfold isB; rw [if_neg c16, if_neg c18, if_neg c20, if_neg c22, if_neg c24, if_pos c26]
                have e2 : isOk name = true := by unfold isOk; simp [c26]
                exact ⟨(by rw [e1, e2]; all_goals exact tup2 (by (first | rfl | (rw [Bool.eq_iff_iff]; (try simp only [upN, loN, diN, Bool.or_eq_true, Bool.and_eq_true, Bool.not_eq_true', decide_eq_true_eq, decide_eq_false_iff_not, Bool.false_eq_true, iff_false, iff_true, true_iff, false_iff] at *); omega)))), H0.noneL⟩
            · skip
              refine W.seq ?_
              refine W.region ?_
              refine WL.op rfl (d_streq rfl rfl ?_)
              refine WL.op rfl (d_assign rfl ?_)
              refine WL.done (X.then_code ?_)
              refine W.ite (p := name = ⟨#[98, 108, 97, 110, 107]⟩) rfl (fun c28 => ?_) (fun c28 => ?_)
              · skip
                refine W.seq ?_
                refine W.region ?_
                refine WL.op rfl (d_move rfl ?_)
                refine WL.op rfl (d_cmp (decide (((b : Nat) : Int) = (9 : Int))) rfl rfl rfl ?_)
                refine WL.op rfl (d_move rfl ?_)
                refine WL.part 55 (p := ((b : Nat) : Int) = (9 : Int)) rfl (fun g29 => ?_) (fun g29 => ?_)
                · skip
                  refine WL.opN rfl rfl rfl rfl ?_
                  refine WL.opN rfl rfl rfl rfl ?_
                  refine WL.op rfl (d_pick rfl rfl ?_)
                  refine WL.op rfl (d_assign rfl ?_)
                  refine WL.op rfl (d_assign rfl ?_)
                  refine WL.done (X.then_code ?_)
                  refine W.ret (X.block_ret (X.then_ret (X.ret2 rfl rfl rfl ?_)))
                  have e1 : isB name b = (decide (b = 9 ∨ b = 32)) := by unfold isB; rw [if_neg c16, if_neg c18, if_neg c20, if_neg c22, if_neg c24, if_neg c26, if_pos c28]
                  have e2 : isOk name = true := by unfold isOk; simp [c28]
                  exact ⟨(by rw [e1, e2]; all_goals exact tup2 (by (first | rfl | (rw [Bool.eq_iff_iff]; (try simp only [upN, loN, diN, Bool.or_eq_true, Bool.and_eq_true, Bool.not_eq_true', decide_eq_true_eq, decide_eq_false_iff_not, Bool.false_eq_true, iff_false, iff_true, true_iff, false_iff] at *); omega)))), H0.noneL⟩
                · skip
                  refine WL.opG rfl rfl rfl (d_move rfl ?_)
                  refine WL.opG rfl rfl rfl (d_cmp (decide (((b : Nat) : Int) = (32 : Int))) rfl rfl rfl ?_)
                  refine WL.op rfl (d_pick rfl rfl ?_)
                  refine WL.op rfl (d_assign rfl ?_)
                  refine WL.op rfl (d_assign rfl ?_)
                  refine WL.done (X.then_code ?_)
                  refine W.ret (X.block_ret (X.then_ret (X.ret2 rfl rfl rfl ?_)))
                  have e1 : isB name b = (decide (b = 9 ∨ b = 32)) := by unfold isB; rw [if_neg c16, if_neg c18, if_neg c20, if_neg c22, if_neg c24, if_neg c26, if_pos c28]
                  have e2 : isOk name = true := by unfold isOk; simp [c28]
                  exact ⟨(by rw [e1, e2]; all_goals exact tup2 (by (first | rfl | (rw [Bool.eq_iff_iff]; (try simp only [upN, loN, diN, Bool.or_eq_true, Bool.and_eq_true, Bool.not_eq_true', decide_eq_true_eq, decide_eq_false_iff_not, Bool.false_eq_true, iff_false, iff_true, true_iff, false_iff] at *); omega)))), H0.noneL⟩
              · skip
                refine W.seq ?_
                refine W.region ?_
                refine WL.op rfl (d_streq rfl rfl ?_)
                refine WL.op rfl (d_assign rfl ?_)
                refine WL.done (X.then_code ?_)
                refine W.ite (p := name = ⟨#[112, 117, 110, 99, 116]⟩) rfl (fun c30 => ?_) (fun c30 => ?_)
                · skip
                  refine W.seq ?_
                  refine W.region ?_
                  refine WL.op rfl (d_move rfl ?_)
                  refine WL.op rfl (d_cmp (decide (((b : Nat) : Int) ≥ (33 : Int))) rfl rfl rfl ?_)
                  refine WL.op rfl (d_move rfl ?_)
                  refine WL.part 63 (p := ((b : Nat) : Int) ≥ (33 : Int)) rfl (fun g31 => ?_) (fun g31 => ?_)
                  · skip
                    refine WL.opG rfl rfl rfl (d_move rfl ?_)
                    refine WL.opG rfl rfl rfl (d_cmp (decide (((b : Nat) : Int) ≤ (126 : Int))) rfl rfl rfl ?_)
                    refine WL.op rfl (d_pick rfl rfl ?_)
                    refine WL.op rfl (d_move rfl ?_)
                    refine WL.part 67 (p := ((b : Nat) : Int) ≤ (126 : Int)) rfl (fun g31x => ?_) (fun g31x => ?_)
                    · skip
                      refine WL.opG rfl rfl rfl (d_move rfl ?_)
                      refine WL.opG rfl rfl rfl (d_call ok23 rfl (Ret.calls (up_any b w  ) fun _ w9 p9 => ?_))
                      obtain ⟨rfl, u9⟩ := p9
                      have H9 : UpG w [] w9 [] := H0.call u9
                      refine WL.opG rfl rfl rfl (d_notB rfl ?_)
                      refine WL.op rfl (d_pick rfl rfl ?_)
                      refine WL.op rfl (d_move rfl ?_)
                      refine WL.partB 72 (b := !(upN b)) rfl (fun g31xx => ?_) (fun g31xx => ?_)
                      · skip
                        refine WL.opG rfl rfl rfl (d_move rfl ?_)
                        refine WL.opG rfl rfl rfl (d_call ok25 rfl (Ret.calls (lo_any b w9  ) fun _ w10 p10 => ?_))
                        obtain ⟨rfl, u10⟩ := p10
                        have H10 : UpG w [] w10 [] := H9.call u10
                        refine WL.opG rfl rfl rfl (d_notB rfl ?_)
                        refine WL.op rfl (d_pick rfl rfl ?_)
                        refine WL.op rfl (d_move rfl ?_)
                        refine WL.partB 77 (b := !(loN b)) rfl (fun g31xxx => ?_) (fun g31xxx => ?_)
                        · skip
                          refine WL.opG rfl rfl rfl (d_move rfl ?_)
                          refine WL.opG rfl rfl rfl (d_call ok30 rfl (Ret.calls (di_any b w10  ) fun _ w11 p11 => ?_))
                          obtain ⟨rfl, u11⟩ := p11
                          have H11 : UpG w [] w11 [] := H10.call u11
                          refine WL.opG rfl rfl rfl (d_notB rfl ?_)
                          refine WL.op rfl (d_pick rfl rfl ?_)
                          refine WL.op rfl (d_assign rfl ?_)
                          refine WL.op rfl (d_assign rfl ?_)
                          refine WL.done (X.then_code ?_)
                          refine W.pick [5, 4] (Γ' := [(5, .bool true), (4, .bool (!(diN b)))]) rfl ?_
                          refine W.ret (X.block_ret (X.then_ret (X.ret2 rfl rfl rfl ?_)))
                          have e1 : isB name b = (decide (33 ≤ b ∧ b ≤ 126) && !upN b && !loN b && !diN b) := by unfold isB; rw [if_neg c16, if_neg c18, if_neg c20, if_neg c22, if_neg c24, if_neg c26, if_neg c28, if_pos c30]
                          have e2 : isOk name = true := by unfold isOk; simp [c30]
                          exact ⟨(by rw [e1, e2]; all_goals exact tup2 (by (first | rfl | (rw [Bool.eq_iff_iff]; (try simp only [upN, loN, diN, Bool.or_eq_true, Bool.and_eq_true, Bool.not_eq_true', decide_eq_true_eq, decide_eq_false_iff_not, Bool.false_eq_true, iff_false, iff_true, true_iff, false_iff] at *); omega)))), H11.noneL⟩
                        · skip
                          refine WL.opN rfl rfl rfl rfl ?_
                          refine WL.opN rfl rfl rfl rfl ?_
                          refine WL.opN rfl rfl rfl rfl ?_
                          refine WL.op rfl (d_pick rfl rfl ?_)
                          refine WL.op rfl (d_assign rfl ?_)
                          refine WL.op rfl (d_assign rfl ?_)
                          refine WL.done (X.then_code ?_)
                          refine W.pick [5, 4] (Γ' := [(5, .bool true), (4, .bool false)]) rfl ?_
                          refine W.ret (X.block_ret (X.then_ret (X.ret2 rfl rfl rfl ?_)))
                          have e1 : isB name b = (decide (33 ≤ b ∧ b ≤ 126) && !upN b && !loN b && !diN b) := by unfold isB; rw [if_neg c16, if_neg c18, if_neg c20, if_neg c22, if_neg c24, if_neg c26, if_neg c28, if_pos c30]
                          have e2 : isOk name = true := by unfold isOk; simp [c30]
                          exact ⟨(by rw [e1, e2]; all_goals exact tup2 (by (first | rfl | (rw [Bool.eq_iff_iff]; (try simp only [upN, loN, diN, Bool.or_eq_true, Bool.and_eq_true, Bool.not_eq_true', decide_eq_true_eq, decide_eq_false_iff_not, Bool.false_eq_true, iff_false, iff_true, true_iff, false_iff] at *); omega)))), H10.noneL⟩
                      · skip
                        refine WL.opN rfl rfl rfl rfl ?_
                        refine WL.opN rfl rfl rfl rfl ?_
                        refine WL.opN rfl rfl rfl rfl ?_
                        refine WL.op rfl (d_pick rfl rfl ?_)
                        refine WL.op rfl (d_move rfl ?_)
                        refine WL.opN rfl rfl rfl rfl ?_
                        refine WL.opN rfl rfl rfl rfl ?_
                        refine WL.opN rfl rfl rfl rfl ?_
                        refine WL.op rfl (d_pick rfl rfl ?_)
                        refine WL.op rfl (d_assign rfl ?_)
                        refine WL.op rfl (d_assign rfl ?_)
                        refine WL.done (X.then_code ?_)
                        refine W.pick [5, 4] (Γ' := [(5, .bool true), (4, .bool false)]) rfl ?_
                        refine W.ret (X.block_ret (X.then_ret (X.ret2 rfl rfl rfl ?_)))
                        have e1 : isB name b = (decide (33 ≤ b ∧ b ≤ 126) && !upN b && !loN b && !diN b) := by unfold isB; rw [if_neg c16, if_neg c18, if_neg c20, if_neg c22, if_neg c24, if_neg c26, if_neg c28, if_pos c30]
                        have e2 : isOk name = true := by unfold isOk; simp [c30]
                        exact ⟨(by rw [e1, e2]; all_goals exact tup2 (by (first | rfl | (rw [Bool.eq_iff_iff]; (try simp only [upN, loN, diN, Bool.or_eq_true, Bool.and_eq_true, Bool.not_eq_true', decide_eq_true_eq, decide_eq_false_iff_not, Bool.false_eq_true, iff_false, iff_true, true_iff, false_iff] at *); omega)))), H9.noneL⟩
                    · skip
                      refine WL.opN rfl rfl rfl rfl ?_
                      refine WL.opN rfl rfl rfl rfl ?_
                      refine WL.opN rfl rfl rfl rfl ?_
                      refine WL.op rfl (d_pick rfl rfl ?_)
                      refine WL.op rfl (d_move rfl ?_)
                      refine WL.opN rfl rfl rfl rfl ?_
                      refine WL.opN rfl rfl rfl rfl ?_
                      refine WL.opN rfl rfl rfl rfl ?_
                      refine WL.op rfl (d_pick rfl rfl ?_)
                      refine WL.op rfl (d_move rfl ?_)
                      refine WL.opN rfl rfl rfl rfl ?_
                      refine WL.opN rfl rfl rfl rfl ?_
                      refine WL.opN rfl rfl rfl rfl ?_
                      refine WL.op rfl (d_pick rfl rfl ?_)
                      refine WL.op rfl (d_assign rfl ?_)
                      refine WL.op rfl (d_assign rfl ?_)
                      refine WL.done (X.then_code ?_)
                      refine W.pick [5, 4] (Γ' := [(5, .bool true), (4, .bool false)]) rfl ?_
                      refine W.ret (X.block_ret (X.then_ret (X.ret2 rfl rfl rfl ?_)))
                      have e1 : isB name b = (decide (33 ≤ b ∧ b ≤ 126) && !upN b && !loN b && !diN b) := by unfold isB; rw [if_neg c16, if_neg c18, if_neg c20, if_neg c22, if_neg c24, if_neg c26, if_neg c28, if_pos c30]
                      have e2 : isOk name = true := by unfold isOk; simp [c30]
                      exact ⟨(by rw [e1, e2]; all_goals exact tup2 (by (first | rfl | (rw [Bool.eq_iff_iff]; (try simp only [upN, loN, diN, Bool.or_eq_true, Bool.and_eq_true, Bool.not_eq_true', decide_eq_true_eq, decide_eq_false_iff_not, Bool.false_eq_true, iff_false, iff_true, true_iff, false_iff] at *); omega)))), H0.noneL⟩
                  · skip
                    refine WL.opN rfl rfl rfl rfl ?_
                    refine WL.opN rfl rfl rfl rfl ?_
                    refine WL.op rfl (d_pick rfl rfl ?_)
                    refine WL.op rfl (d_move rfl ?_)
                    refine WL.opN rfl rfl rfl rfl ?_
                    refine WL.opN rfl rfl rfl rfl ?_
                    refine WL.opN rfl rfl rfl rfl ?_
                    refine WL.op rfl (d_pick rfl rfl ?_)
                    refine WL.op rfl (d_move rfl ?_)
                    refine WL.opN rfl rfl rfl rfl ?_
                    refine WL.opN rfl rfl rfl rfl ?_
                    refine WL.opN rfl rfl rfl rfl ?_
                    refine WL.op rfl (d_pick rfl rfl ?_)
                    refine WL.op rfl (d_move rfl ?_)
                    refine WL.opN rfl rfl rfl rfl ?_
                    refine WL.opN rfl rfl rfl rfl ?_
                    refine WL.opN rfl rfl rfl rfl ?_
                    refine WL.op rfl (d_pick rfl rfl ?_)
                    refine WL.op rfl (d_assign rfl ?_)
                    refine WL.op rfl (d_assign rfl ?_)
                    refine WL.done (X.then_code ?_)
                    refine W.pick [5, 4] (Γ' := [(5, .bool true), (4, .bool false)]) rfl ?_
                    refine W.ret (X.block_ret (X.then_ret (X.ret2 rfl rfl rfl ?_)))
                    have e1 : isB name b = (decide (33 ≤ b ∧ b ≤ 126) && !upN b && !loN b && !diN b) := by unfold isB; rw [if_neg c16, if_neg c18, if_neg c20, if_neg c22, if_neg c24, if_neg c26, if_neg c28, if_pos c30]
                    have e2 : isOk name = true := by unfold isOk; simp [c30]
                    exact ⟨(by rw [e1, e2]; all_goals exact tup2 (by (first | rfl | (rw [Bool.eq_iff_iff]; (try simp only [upN, loN, diN, Bool.or_eq_true, Bool.and_eq_true, Bool.not_eq_true', decide_eq_true_eq, decide_eq_false_iff_not, Bool.false_eq_true, iff_false, iff_true, true_iff, false_iff] at *); omega)))), H0.noneL⟩
                · skip
                  refine W.seq ?_
                  refine W.region ?_
                  refine WL.op rfl (d_streq rfl rfl ?_)
                  refine WL.op rfl (d_assign rfl ?_)
                  refine WL.done (X.then_code ?_)
                  refine W.ite (p := name = ⟨#[103, 114, 97, 112, 104]⟩) rfl (fun c32 => ?_) (fun c32 => ?_)
                  · skip
                    refine W.seq ?_
                    refine W.region ?_
                    refine WL.op rfl (d_move rfl ?_)
                    refine WL.op rfl (d_cmp (decide (((b : Nat) : Int) ≥ (33 : Int))) rfl rfl rfl ?_)
                    refine WL.op rfl (d_move rfl ?_)
                    refine WL.part 86 (p := ((b : Nat) : Int) ≥ (33 : Int)) rfl (fun g33 => ?_) (fun g33 => ?_)
                    · skip
                      refine WL.opG rfl rfl rfl (d_move rfl ?_)
                      refine WL.opG rfl rfl rfl (d_cmp (decide (((b : Nat) : Int) ≤ (126 : Int))) rfl rfl rfl ?_)
                      refine WL.op rfl (d_pick rfl rfl ?_)
                      refine WL.op rfl (d_assign rfl ?_)
                      refine WL.op rfl (d_assign rfl ?_)
                      refine WL.done (X.then_code ?_)
                      refine W.ret (X.block_ret (X.then_ret (X.ret2 rfl rfl rfl ?_)))
                      have e1 : isB name b = (decide (33 ≤ b ∧ b ≤ 126)) := by unfold isB; rw [if_neg c16, if_neg c18, if_neg c20, if_neg c22, if_neg c24, if_neg c26, if_neg c28, if_neg c30, if_pos c32]
                      have e2 : isOk name = true := by unfold isOk; simp [c32]
                      exact ⟨(by rw [e1, e2]; all_goals exact tup2 (by (first | rfl | (rw [Bool.eq_iff_iff]; (try simp only [upN, loN, diN, Bool.or_eq_true, Bool.and_eq_true, Bool.not_eq_true', decide_eq_true_eq, decide_eq_false_iff_not, Bool.false_eq_true, iff_false, iff_true, true_iff, false_iff] at *); omega)))), H0.noneL⟩
                    · skip
                      refine WL.opN rfl rfl rfl rfl ?_
                      refine WL.opN rfl rfl rfl rfl ?_
                      refine WL.op rfl (d_pick rfl rfl ?_)
                      refine WL.op rfl (d_assign rfl ?_)
                      refine WL.op rfl (d_assign rfl ?_)
                      refine WL.done (X.then_code ?_)
                      refine W.ret (X.block_ret (X.then_ret (X.ret2 rfl rfl rfl ?_)))
                      have e1 : isB name b = (decide (33 ≤ b ∧ b ≤ 126)) := by unfold isB; rw [if_neg c16, if_neg c18, if_neg c20, if_neg c22, if_neg c24, if_neg c26, if_neg c28, if_neg c30, if_pos c32]
                      have e2 : isOk name = true := by unfold isOk; simp [c32]
                      exact ⟨(by rw [e1, e2]; all_goals exact tup2 (by (first | rfl | (rw [Bool.eq_iff_iff]; (try simp only [upN, loN, diN, Bool.or_eq_true, Bool.and_eq_true, Bool.not_eq_true', decide_eq_true_eq, decide_eq_false_iff_not, Bool.false_eq_true, iff_false, iff_true, true_iff, false_iff] at *); omega)))), H0.noneL⟩
                  · skip
                    refine W.seq ?_
                    refine W.region ?_
                    refine WL.op rfl (d_streq rfl rfl ?_)
                    refine WL.op rfl (d_assign rfl ?_)
                    refine WL.done (X.then_code ?_)
                    refine W.ite (p := name = ⟨#[112, 114, 105, 110, 116]⟩) rfl (fun c34 => ?_) (fun c34 => ?_)
                    · skip
                      refine W.seq ?_
                      refine W.region ?_
                      refine WL.op rfl (d_move rfl ?_)
                      refine WL.op rfl (d_cmp (decide (((b : Nat) : Int) ≥ (32 : Int))) rfl rfl rfl ?_)
                      refine WL.op rfl (d_move rfl ?_)
                      refine WL.part 94 (p := ((b : Nat) : Int) ≥ (32 : Int)) rfl (fun g35 => ?_) (fun g35 => ?_)
                      · skip
                        refine WL.opG rfl rfl rfl (d_move rfl ?_)
                        refine WL.opG rfl rfl rfl (d_cmp (decide (((b : Nat) : Int) ≤ (126 : Int))) rfl rfl rfl ?_)
                        refine WL.op rfl (d_pick rfl rfl ?_)
                        refine WL.op rfl (d_assign rfl ?_)
                        refine WL.op rfl (d_assign rfl ?_)
                        refine WL.done (X.then_code ?_)
                        refine W.pick [5, 4] (Γ' := [(5, .bool true), (4, .bool (decide (((b : Nat) : Int) ≤ (126 : Int))))]) rfl ?_
                        refine W.ret (X.block_ret (X.then_ret (X.ret2 rfl rfl rfl ?_)))
                        have e1 : isB name b = (decide (32 ≤ b ∧ b ≤ 126)) := by unfold isB; rw [if_neg c16, if_neg c18, if_neg c20, if_neg c22, if_neg c24, if_neg c26, if_neg c28, if_neg c30, if_neg c32, if_pos c34]
                        have e2 : isOk name = true := by unfold isOk; simp [c34]
                        exact ⟨(by rw [e1, e2]; all_goals exact tup2 (by (first | rfl | (rw [Bool.eq_iff_iff]; (try simp only [upN, loN, diN, Bool.or_eq_true, Bool.and_eq_true, Bool.not_eq_true', decide_eq_true_eq, decide_eq_false_iff_not, Bool.false_eq_true, iff_false, iff_true, true_iff, false_iff] at *); omega)))), H0.noneL⟩
                      · skip
                        refine WL.opN rfl rfl rfl rfl ?_
                        refine WL.opN rfl rfl rfl rfl ?_
                        refine WL.op rfl (d_pick rfl rfl ?_)
                        refine WL.op rfl (d_assign rfl ?_)
                        refine WL.op rfl (d_assign rfl ?_)
                        refine WL.done (X.then_code ?_)
                        refine W.pick [5, 4] (Γ' := [(5, .bool true), (4, .bool false)]) rfl ?_
                        refine W.ret (X.block_ret (X.then_ret (X.ret2 rfl rfl rfl ?_)))
                        have e1 : isB name b = (decide (32 ≤ b ∧ b ≤ 126)) := by unfold isB; rw [if_neg c16, if_neg c18, if_neg c20, if_neg c22, if_neg c24, if_neg c26, if_neg c28, if_neg c30, if_neg c32, if_pos c34]
                        have e2 : isOk name = true := by unfold isOk; simp [c34]
                        exact ⟨(by rw [e1, e2]; all_goals exact tup2 (by (first | rfl | (rw [Bool.eq_iff_iff]; (try simp only [upN, loN, diN, Bool.or_eq_true, Bool.and_eq_true, Bool.not_eq_true', decide_eq_true_eq, decide_eq_false_iff_not, Bool.false_eq_true, iff_false, iff_true, true_iff, false_iff] at *); omega)))), H0.noneL⟩
                    · skip
                      refine W.seq ?_
                      refine W.region ?_
                      refine WL.op rfl (d_streq rfl rfl ?_)
                      refine WL.op rfl (d_assign rfl ?_)
                      refine WL.done (X.then_code ?_)
                      refine W.ite (p := name = ⟨#[99, 110, 116, 114, 108]⟩) rfl (fun c36 => ?_) (fun c36 => ?_)
                      · skip
                        refine W.seq ?_
                        refine W.region ?_
                        refine WL.op rfl (d_move rfl ?_)
                        refine WL.op rfl (d_cmp (decide (((b : Nat) : Int) < (32 : Int))) rfl rfl rfl ?_)
                        refine WL.op rfl (d_move rfl ?_)
                        refine WL.part 102 (p := ((b : Nat) : Int) < (32 : Int)) rfl (fun g37 => ?_) (fun g37 => ?_)
                        · skip
                          refine WL.opN rfl rfl rfl rfl ?_
                          refine WL.opN rfl rfl rfl rfl ?_
                          refine WL.op rfl (d_pick rfl rfl ?_)
                          refine WL.op rfl (d_assign rfl ?_)
                          refine WL.op rfl (d_assign rfl ?_)
                          refine WL.done (X.then_code ?_)
                          refine W.pick [5, 4] (Γ' := [(5, .bool true), (4, .bool true)]) rfl ?_
                          refine W.ret (X.block_ret (X.then_ret (X.ret2 rfl rfl rfl ?_)))
                          have e1 : isB name b = (decide (b < 32 ∨ b = 127)) := by unfold isB; rw [if_neg c16, if_neg c18, if_neg c20, if_neg c22, if_neg c24, if_neg c26, if_neg c28, if_neg c30, if_neg c32, if_neg c34, if_pos c36]
                          have e2 : isOk name = true := by unfold isOk; simp [c36]
                          exact ⟨(by rw [e1, e2]; all_goals exact tup2 (by (first | rfl | (rw [Bool.eq_iff_iff]; (try simp only [upN, loN, diN, Bool.or_eq_true, Bool.and_eq_true, Bool.not_eq_true', decide_eq_true_eq, decide_eq_false_iff_not, Bool.false_eq_true, iff_false, iff_true, true_iff, false_iff] at *); omega)))), H0.noneL⟩
                        · skip
                          refine WL.opG rfl rfl rfl (d_move rfl ?_)
                          refine WL.opG rfl rfl rfl (d_cmp (decide (((b : Nat) : Int) = (127 : Int))) rfl rfl rfl ?_)
                          refine WL.op rfl (d_pick rfl rfl ?_)
                          refine WL.op rfl (d_assign rfl ?_)
                          refine WL.op rfl (d_assign rfl ?_)
                          refine WL.done (X.then_code ?_)
                          refine W.pick [5, 4] (Γ' := [(5, .bool true), (4, .bool (decide (((b : Nat) : Int) = (127 : Int))))]) rfl ?_
                          refine W.ret (X.block_ret (X.then_ret (X.ret2 rfl rfl rfl ?_)))
                          have e1 : isB name b = (decide (b < 32 ∨ b = 127)) := by unfold isB; rw [if_neg c16, if_neg c18, if_neg c20, if_neg c22, if_neg c24, if_neg c26, if_neg c28, if_neg c30, if_neg c32, if_neg c34, if_pos c36]
                          have e2 : isOk name = true := by unfold isOk; simp [c36]
                          exact ⟨(by rw [e1, e2]; all_goals exact tup2 (by (first | rfl | (rw [Bool.eq_iff_iff]; (try simp only [upN, loN, diN, Bool.or_eq_true, Bool.and_eq_true, Bool.not_eq_true', decide_eq_true_eq, decide_eq_false_iff_not, Bool.false_eq_true, iff_false, iff_true, true_iff, false_iff] at *); omega)))), H0.noneL⟩
                      · skip
                        refine W.seq ?_
                        refine W.region ?_
                        refine WL.op rfl (d_streq rfl rfl ?_)
                        refine WL.op rfl (d_assign rfl ?_)
                        refine WL.done (X.then_code ?_)
                        refine W.ite (p := name = ⟨#[120, 100, 105, 103, 105, 116]⟩) rfl (fun c38 => ?_) (fun c38 => ?_)
                        · skip
                          refine W.seq ?_
                          refine W.region ?_
                          refine WL.op rfl (d_move rfl ?_)
                          refine WL.op rfl (d_call ok30 rfl (Ret.calls (di_any b w  ) fun _ w12 p12 => ?_))
                          obtain ⟨rfl, u12⟩ := p12
                          have H12 : UpG w [] w12 [] := H0.call u12
                          refine WL.op rfl (d_move rfl ?_)
                          refine WL.partB 110 (b := diN b) rfl (fun g39 => ?_) (fun g39 => ?_)
                          · skip
                            refine WL.opN rfl rfl rfl rfl ?_
                            refine WL.opN rfl rfl rfl rfl ?_
                            refine WL.opN rfl rfl rfl rfl ?_
                            refine WL.opU rfl rfl rfl ?_
                            refine WL.opU rfl rfl rfl ?_
                            refine WL.opN rfl rfl rfl rfl ?_
                            refine WL.op rfl (d_pick rfl rfl ?_)
                            refine WL.op rfl (d_move rfl ?_)
                            refine WL.opN rfl rfl rfl rfl ?_
                            refine WL.opN rfl rfl rfl rfl ?_
                            refine WL.opN rfl rfl rfl rfl ?_
                            refine WL.opU rfl rfl rfl ?_
                            refine WL.opU rfl rfl rfl ?_
                            refine WL.opN rfl rfl rfl rfl ?_
                            refine WL.op rfl (d_pick rfl rfl ?_)
                            refine WL.op rfl (d_assign rfl ?_)
                            refine WL.op rfl (d_assign rfl ?_)
                            refine WL.done (X.then_code ?_)
                            refine W.pick [5, 4] (Γ' := [(5, .bool true), (4, .bool true)]) rfl ?_
                            refine W.ret (X.block_ret (X.then_ret (X.ret2 rfl rfl rfl ?_)))
                            have e1 : isB name b = (diN b || decide (65 ≤ b ∧ b ≤ 70 ∨ 97 ≤ b ∧ b ≤ 102)) := by unfold isB; rw [if_neg c16, if_neg c18, if_neg c20, if_neg c22, if_neg c24, if_neg c26, if_neg c28, if_neg c30, if_neg c32, if_neg c34, if_neg c36, if_pos c38]
                            have e2 : isOk name = true := by unfold isOk; simp [c38]
                            exact ⟨(by rw [e1, e2]; all_goals exact tup2 (by (first | rfl | (rw [Bool.eq_iff_iff]; (try simp only [upN, loN, diN, Bool.or_eq_true, Bool.and_eq_true, Bool.not_eq_true', decide_eq_true_eq, decide_eq_false_iff_not, Bool.false_eq_true, iff_false, iff_true, true_iff, false_iff] at *); omega)))), H12.noneL⟩
                          · skip
                            refine WL.opG rfl rfl rfl (d_move rfl ?_)
                            refine WL.opG rfl rfl rfl (d_cmp (decide (((b : Nat) : Int) ≥ (65 : Int))) rfl rfl rfl ?_)
                            refine WL.opG rfl rfl rfl (d_move rfl ?_)
                            refine WL.part 113 (p := ((b : Nat) : Int) ≥ (65 : Int)) rfl (fun g39x => ?_) (fun g39x => ?_)
                            · skip
                              refine WL.opG rfl rfl rfl (d_move rfl ?_)
                              refine WL.opG rfl rfl rfl (d_cmp (decide (((b : Nat) : Int) ≤ (70 : Int))) rfl rfl rfl ?_)
                              refine WL.opG rfl rfl rfl (d_pick rfl rfl ?_)
                              refine WL.op rfl (d_pick rfl rfl ?_)
                              refine WL.op rfl (d_move rfl ?_)
                              refine WL.part 118 (p := ((b : Nat) : Int) ≤ (70 : Int)) rfl (fun g39xx => ?_) (fun g39xx => ?_)
                              · skip
                                refine WL.opN rfl rfl rfl rfl ?_
                                refine WL.opN rfl rfl rfl rfl ?_
                                refine WL.opN rfl rfl rfl rfl ?_
                                refine WL.opU rfl rfl rfl ?_
                                refine WL.opU rfl rfl rfl ?_
                                refine WL.opN rfl rfl rfl rfl ?_
                                refine WL.op rfl (d_pick rfl rfl ?_)
                                refine WL.op rfl (d_assign rfl ?_)
                                refine WL.op rfl (d_assign rfl ?_)
                                refine WL.done (X.then_code ?_)
                                refine W.pick [5, 4] (Γ' := [(5, .bool true), (4, .bool true)]) rfl ?_
                                refine W.ret (X.block_ret (X.then_ret (X.ret2 rfl rfl rfl ?_)))
                                have e1 : isB name b = (diN b || decide (65 ≤ b ∧ b ≤ 70 ∨ 97 ≤ b ∧ b ≤ 102)) := by unfold isB; rw [if_neg c16, if_neg c18, if_neg c20, if_neg c22, if_neg c24, if_neg c26, if_neg c28, if_neg c30, if_neg c32, if_neg c34, if_neg c36, if_pos c38]
                                have e2 : isOk name = true := by unfold isOk; simp [c38]
                                exact ⟨(by rw [e1, e2]; all_goals exact tup2 (by (first | rfl | (rw [Bool.eq_iff_iff]; (try simp only [upN, loN, diN, Bool.or_eq_true, Bool.and_eq_true, Bool.not_eq_true', decide_eq_true_eq, decide_eq_false_iff_not, Bool.false_eq_true, iff_false, iff_true, true_iff, false_iff] at *); omega)))), H12.noneL⟩
                              · skip
                                refine WL.opG rfl rfl rfl (d_move rfl ?_)
                                refine WL.opG rfl rfl rfl (d_cmp (decide (((b : Nat) : Int) ≥ (97 : Int))) rfl rfl rfl ?_)
                                refine WL.opG rfl rfl rfl (d_move rfl ?_)
                                refine WL.part 121 (p := ((b : Nat) : Int) ≥ (97 : Int)) rfl (fun g39xxx => ?_) (fun g39xxx => ?_)
                                · skip
                                  refine WL.opG rfl rfl rfl (d_move rfl ?_)
                                  refine WL.opG rfl rfl rfl (d_cmp (decide (((b : Nat) : Int) ≤ (102 : Int))) rfl rfl rfl ?_)
                                  refine WL.opG rfl rfl rfl (d_pick rfl rfl ?_)
                                  refine WL.op rfl (d_pick rfl rfl ?_)
                                  refine WL.op rfl (d_assign rfl ?_)
                                  refine WL.op rfl (d_assign rfl ?_)
                                  refine WL.done (X.then_code ?_)
                                  refine W.pick [5, 4] (Γ' := [(5, .bool true), (4, .bool (decide (((b : Nat) : Int) ≤ (102 : Int))))]) rfl ?_
                                  refine W.ret (X.block_ret (X.then_ret (X.ret2 rfl rfl rfl ?_)))
                                  have e1 : isB name b = (diN b || decide (65 ≤ b ∧ b ≤ 70 ∨ 97 ≤ b ∧ b ≤ 102)) := by unfold isB; rw [if_neg c16, if_neg c18, if_neg c20, if_neg c22, if_neg c24, if_neg c26, if_neg c28, if_neg c30, if_neg c32, if_neg c34, if_neg c36, if_pos c38]
                                  have e2 : isOk name = true := by unfold isOk; simp [c38]
                                  exact ⟨(by rw [e1, e2]; all_goals exact tup2 (by (first | rfl | (rw [Bool.eq_iff_iff]; (try simp only [upN, loN, diN, Bool.or_eq_true, Bool.and_eq_true, Bool.not_eq_true', decide_eq_true_eq, decide_eq_false_iff_not, Bool.false_eq_true, iff_false, iff_true, true_iff, false_iff] at *); omega)))), H12.noneL⟩
                                · skip
                                  refine WL.opN rfl rfl rfl rfl ?_
                                  refine WL.opN rfl rfl rfl rfl ?_
                                  refine WL.opG rfl rfl rfl (d_pick rfl rfl ?_)
                                  refine WL.op rfl (d_pick rfl rfl ?_)
                                  refine WL.op rfl (d_assign rfl ?_)
                                  refine WL.op rfl (d_assign rfl ?_)
                                  refine WL.done (X.then_code ?_)
                                  refine W.pick [5, 4] (Γ' := [(5, .bool true), (4, .bool false)]) rfl ?_
                                  refine W.ret (X.block_ret (X.then_ret (X.ret2 rfl rfl rfl ?_)))
                                  have e1 : isB name b = (diN b || decide (65 ≤ b ∧ b ≤ 70 ∨ 97 ≤ b ∧ b ≤ 102)) := by unfold isB; rw [if_neg c16, if_neg c18, if_neg c20, if_neg c22, if_neg c24, if_neg c26, if_neg c28, if_neg c30, if_neg c32, if_neg c34, if_neg c36, if_pos c38]
                                  have e2 : isOk name = true := by unfold isOk; simp [c38]
                                  exact ⟨(by rw [e1, e2]; all_goals exact tup2 (by (first | rfl | (rw [Bool.eq_iff_iff]; (try simp only [upN, loN, diN, Bool.or_eq_true, Bool.and_eq_true, Bool.not_eq_true', decide_eq_true_eq, decide_eq_false_iff_not, Bool.false_eq_true, iff_false, iff_true, true_iff, false_iff] at *); omega)))), H12.noneL⟩
                            · skip
                              refine WL.opN rfl rfl rfl rfl ?_
                              refine WL.opN rfl rfl rfl rfl ?_
                              refine WL.opG rfl rfl rfl (d_pick rfl rfl ?_)
                              refine WL.op rfl (d_pick rfl rfl ?_)
                              refine WL.op rfl (d_move rfl ?_)
                              refine WL.opG rfl rfl rfl (d_move rfl ?_)
                              refine WL.opG rfl rfl rfl (d_cmp (decide (((b : Nat) : Int) ≥ (97 : Int))) rfl rfl rfl ?_)
                              refine WL.opG rfl rfl rfl (d_move rfl ?_)
                              refine WL.part 121 (p := ((b : Nat) : Int) ≥ (97 : Int)) rfl (fun g39xx => ?_) (fun g39xx => ?_)
                              · skip
                                refine WL.opG rfl rfl rfl (d_move rfl ?_)
                                refine WL.opG rfl rfl rfl (d_cmp (decide (((b : Nat) : Int) ≤ (102 : Int))) rfl rfl rfl ?_)
                                refine WL.opG rfl rfl rfl (d_pick rfl rfl ?_)
                                refine WL.op rfl (d_pick rfl rfl ?_)
                                refine WL.op rfl (d_assign rfl ?_)
                                refine WL.op rfl (d_assign rfl ?_)
                                refine WL.done (X.then_code ?_)
                                refine W.pick [5, 4] (Γ' := [(5, .bool true), (4, .bool (decide (((b : Nat) : Int) ≤ (102 : Int))))]) rfl ?_
                                refine W.ret (X.block_ret (X.then_ret (X.ret2 rfl rfl rfl ?_)))
                                have e1 : isB name b = (diN b || decide (65 ≤ b ∧ b ≤ 70 ∨ 97 ≤ b ∧ b ≤ 102)) := by unfold isB; rw [if_neg c16, if_neg c18, if_neg c20, if_neg c22, if_neg c24, if_neg c26, if_neg c28, if_neg c30, if_neg c32, if_neg c34, if_neg c36, if_pos c38]
                                have e2 : isOk name = true := by unfold isOk; simp [c38]
                                exact ⟨(by rw [e1, e2]; all_goals exact tup2 (by (first | rfl | (rw [Bool.eq_iff_iff]; (try simp only [upN, loN, diN, Bool.or_eq_true, Bool.and_eq_true, Bool.not_eq_true', decide_eq_true_eq, decide_eq_false_iff_not, Bool.false_eq_true, iff_false, iff_true, true_iff, false_iff] at *); omega)))), H12.noneL⟩
                              · skip
                                refine WL.opN rfl rfl rfl rfl ?_
                                refine WL.opN rfl rfl rfl rfl ?_
                                refine WL.opG rfl rfl rfl (d_pick rfl rfl ?_)
                                refine WL.op rfl (d_pick rfl rfl ?_)
                                refine WL.op rfl (d_assign rfl ?_)
                                refine WL.op rfl (d_assign rfl ?_)
                                refine WL.done (X.then_code ?_)
                                refine W.pick [5, 4] (Γ' := [(5, .bool true), (4, .bool false)]) rfl ?_
                                refine W.ret (X.block_ret (X.then_ret (X.ret2 rfl rfl rfl ?_)))
                                have e1 : isB name b = (diN b || decide (65 ≤ b ∧ b ≤ 70 ∨ 97 ≤ b ∧ b ≤ 102)) := by unfold isB; rw [if_neg c16, if_neg c18, if_neg c20, if_neg c22, if_neg c24, if_neg c26, if_neg c28, if_neg c30, if_neg c32, if_neg c34, if_neg c36, if_pos c38]
                                have e2 : isOk name = true := by unfold isOk; simp [c38]
                                exact ⟨(by rw [e1, e2]; all_goals exact tup2 (by (first | rfl | (rw [Bool.eq_iff_iff]; (try simp only [upN, loN, diN, Bool.or_eq_true, Bool.and_eq_true, Bool.not_eq_true', decide_eq_true_eq, decide_eq_false_iff_not, Bool.false_eq_true, iff_false, iff_true, true_iff, false_iff] at *); omega)))), H12.noneL⟩
                        · skip
                          refine W.skip (X.block_normal (X.then_code ?_))
                          refine W.seq ?_
                          refine W.region ?_
                          refine WL.op rfl (d_assign rfl ?_)
                          refine WL.op rfl (d_assign rfl ?_)
                          refine WL.done (X.then_code ?_)
                          refine W.ret (X.ret2 rfl rfl rfl ?_)
                          have e1 : isB name b = (false) := by unfold isB; rw [if_neg c16, if_neg c18, if_neg c20, if_neg c22, if_neg c24, if_neg c26, if_neg c28, if_neg c30, if_neg c32, if_neg c34, if_neg c36, if_neg c38]
                          have e2 : isOk name = false := by unfold isOk; simp [c16, c18, c20, c22, c24, c26, c28, c30, c32, c34, c36, c38]
                          exact ⟨(by rw [e1, e2]; all_goals exact tup2 (by (first | rfl | (rw [Bool.eq_iff_iff]; (try simp only [upN, loN, diN, Bool.or_eq_true, Bool.and_eq_true, Bool.not_eq_true', decide_eq_true_eq, decide_eq_false_iff_not, Bool.false_eq_true, iff_false, iff_true, true_iff, false_iff] at *); omega)))), H0.noneL⟩
end Go.Proofs.YtnjjjmpdikpjaaaDoor


/- Named sets of bytes: what the program answers is what the document says. Conditions: those of each theorem. -/
namespace Go.Sx
set_option linter.unusedVariables false
set_option linter.unusedSimpArgs false
theorem has_unionB : ∀ (l : List Rn) (s : Bs), (∀ r, r ∈ l → r.hi < 256) → ∀ x, x < 256 → (l.foldl (fun s q => orB s (rangeB q.lo q.hi)) s).has x = (s.has x || l.any fun r => decide (r.lo ≤ x ∧ x ≤ r.hi))
  | [], s, _, x, hx => by simp
  | r :: l, s, hl, x, hx => by
    rw [List.foldl_cons, has_unionB l _ (fun q hq => hl q (List.mem_cons_of_mem _ hq)) x hx, has_orB _ _ hx, has_rangeB (hl r List.mem_cons_self) hx, List.any_cons, Bool.or_assoc]
theorem has_alpha {x : Nat} (hx : x < 256) : (classB ⟨#[97, 108, 112, 104, 97]⟩).has x = (upN x || loN x) := by
  show (unionB [⟨65, 90⟩, ⟨97, 122⟩]).has x = _
  unfold unionB
  rw [has_unionB _ _ (by simp) x hx, has_zeroB]
  simp [upN, loN]
theorem has_alnum {x : Nat} (hx : x < 256) : (classB ⟨#[97, 108, 110, 117, 109]⟩).has x = isB ⟨#[97, 108, 110, 117, 109]⟩ x := by
  show (unionB [⟨48, 57⟩, ⟨65, 90⟩, ⟨97, 122⟩]).has x = (upN x || loN x || diN x)
  unfold unionB
  rw [has_unionB _ _ (by simp) x hx, has_zeroB]
  simp only [upN, loN, diN, List.any_cons, List.any_nil, Bool.or_false, Bool.false_or]
  rw [Bool.or_comm]
/-! ### Folds -/
def alB (x : Nat) : Bool := upN x || loN x
theorem foldl_flip : ∀ (l : List Nat) (s : Bs), (∀ b, b ∈ l → b < 256) → ∀ x, x < 256 → (l.foldl (fun o b => orB o (ofS [b ^^^ 32])) s).has x = (s.has x || decide (x ^^^ 32 ∈ l))
  | [], s, _, x, hx => by simp
  | b :: l, s, hl, x, hx => by
    rw [List.foldl_cons, foldl_flip l _ (fun q hq => hl q (List.mem_cons_of_mem _ hq)) x hx, has_orB _ _ hx, has_ofS (by intro c hc; simp only [List.mem_singleton] at hc; subst hc; exact xor_lt (hl b List.mem_cons_self)) hx, Bool.or_assoc]
    congr 1
    rw [Bool.eq_iff_iff]
    simp only [Bool.or_eq_true, decide_eq_true_eq, List.mem_cons, List.not_mem_nil, or_false]
    have e : x = b ^^^ 32 ↔ x ^^^ 32 = b := ⟨fun h => by rw [h, Nat.xor_assoc, Nat.xor_self, Nat.xor_zero], fun h => by rw [← h, Nat.xor_assoc, Nat.xor_self, Nat.xor_zero]⟩
    rw [e]
theorem has_foldB (s : Bs) {x : Nat} (hx : x < 256) : (foldB s).has x = (s.has x || (s.has (x ^^^ 32) && alB (x ^^^ 32))) := by
  unfold foldB
  rw [foldl_flip _ _ (fun b hb => (mem_bytesB.1 hb).1) x hx]
  congr 1
  rw [Bool.eq_iff_iff, decide_eq_true_eq, mem_bytesB, has_andB _ _ (xor_lt hx), has_alpha (xor_lt hx)]
  exact ⟨fun h => h.2, fun h => ⟨xor_lt hx, h⟩⟩
theorem flip_tab : ∀ x : Fin 256, (upN (x.val ^^^ 32) = (decide (32 ≤ x.val ∧ x.val - 32 < 256) && upN (x.val - 32))) ∧ (loN (x.val ^^^ 32) = (decide (x.val + 32 < 256) && loN (x.val + 32))) ∧ (upN (x.val ^^^ 32) = true → x.val ^^^ 32 = x.val - 32) ∧ (loN (x.val ^^^ 32) = true → x.val ^^^ 32 = x.val + 32) := by decide +kernel
theorem fold_eq (s : Bs) : foldB s = foldR s := by
  unfold foldR
  refine eq_setOf fun x hx => ?_
  rw [has_foldB s hx]
  obtain ⟨h1, h2, h3, h4⟩ := flip_tab ⟨x, hx⟩
  simp only at h1 h2 h3 h4
  unfold foldIn alB
  rw [← h1, ← h2]
  cases hu : upN (x ^^^ 32)
  · cases hl : loN (x ^^^ 32)
    · simp
    · rw [h4 hl]; simp
  · have hl : loN (x ^^^ 32) = false := by simp only [upN, loN, decide_eq_true_eq, decide_eq_false_iff_not] at hu ⊢; omega
    rw [hl, h3 hu]; simp
theorem fold_fold (s : Bs) : foldB (foldB s) = foldB s := by
  refine Bs.ext_has fun x hx => ?_
  rw [has_foldB _ hx, has_foldB s hx, has_foldB s (xor_lt hx)]
  have e : x ^^^ 32 ^^^ 32 = x := by rw [Nat.xor_assoc, Nat.xor_self, Nat.xor_zero]
  rw [e]
  cases s.has x <;> cases s.has (x ^^^ 32) <;> cases alB (x ^^^ 32) <;> rfl
theorem and_fold (s : Bs) : andB (foldB s) s = s := by
  refine Bs.ext_has fun x hx => ?_
  rw [has_andB _ _ hx, has_foldB s hx]
  cases s.has x <;> simp
/-! ### Escapes -/
theorem esc_def {c : Nat} (h : ¬ (c = 110 ∨ c = 116 ∨ c = 114 ∨ c = 100 ∨ c = 68 ∨ c = 115 ∨ c = 83 ∨ c = 119 ∨ c = 87)) (x : Nat) : inB c x = (decide (x = c) && !isB ⟨#[97, 108, 110, 117, 109]⟩ x) := by
  unfold inB
  rw [if_neg (by omega), if_neg (by omega), if_neg (by omega), if_neg (by omega), if_neg (by omega), if_neg (by omega), if_neg (by omega), if_neg (by omega), if_neg (by omega)]
theorem esc_one {c : Nat} (h : c = 110 ∨ c = 116 ∨ c = 114 ∨ c = 100 ∨ c = 68 ∨ c = 115 ∨ c = 83 ∨ c = 119 ∨ c = 87) : (escB c).1 = setOf (inB c) ∧ (escB c).2 = true ∧ setOf (inB c) ≠ Bs.zero := by
  rcases h with rfl | rfl | rfl | rfl | rfl | rfl | rfl | rfl | rfl <;> exact of_decide_eq_true (by decide +kernel)
theorem esc_eq {c : Nat} (hc : c < 256) : (escB c).1 = setOf (inB c) ∧ (escB c).2 = decide (setOf (inB c) ≠ Bs.zero) := by
  by_cases h : c = 110 ∨ c = 116 ∨ c = 114 ∨ c = 100 ∨ c = 68 ∨ c = 115 ∨ c = 83 ∨ c = 119 ∨ c = 87
  · obtain ⟨h1, h2, h3⟩ := esc_one h
    exact ⟨h1, by rw [h2, decide_eq_true h3]⟩
  · have hp := esc_def h
    by_cases ha : (classB ⟨#[97, 108, 110, 117, 109]⟩).has c = true
    · have e : escB c = (Bs.zero, false) := by
        unfold escB; rw [if_neg (by omega), if_neg (by omega), if_neg (by omega), if_neg (by omega), if_neg (by omega), if_pos ha]
      have e2 : Bs.zero = setOf (inB c) := eq_setOf fun x hx => by
        rw [has_zeroB, hp x]
        by_cases ex : x = c
        · subst ex; rw [← has_alnum hx, ha]; simp
        · simp [ex]
      rw [e, ← e2]; simp
    · have e : escB c = (ofS [c], true) := by
        unfold escB; rw [if_neg (by omega), if_neg (by omega), if_neg (by omega), if_neg (by omega), if_neg (by omega), if_neg ha]
      have hl : ∀ d, d ∈ [c] → d < 256 := by intro d hd; simp only [List.mem_singleton] at hd; omega
      have e2 : ofS [c] = setOf (inB c) := eq_setOf fun x hx => by
        rw [has_ofS hl hx, hp x]
        by_cases ex : x = c
        · subst ex; rw [has_alnum hx] at ha; simp [ha]
        · simp [ex]
      have e3 : ofS [c] ≠ Bs.zero := fun e4 => by
        have h5 := has_ofS hl hc
        rw [e4, has_zeroB] at h5; simp at h5
      rw [e, ← e2]; exact ⟨rfl, (decide_eq_true e3).symm⟩
theorem dot_has {c : Nat} (hc : c < 256) : (notB (ofS [10])).has c = decide (c ≠ 10) := by
  rw [has_notB _ hc, has_ofS (by simp) hc]; simp
theorem dot_count : popB (notB (ofS [10])) = 255 := by decide +kernel
theorem awake1 : (escB 119).2 = true := by decide +kernel
theorem awake2 : popB (escB 119).1 = 63 := by decide +kernel
theorem awake3 : foldB (ofS [97, 49]) = ofS [65, 97, 49] := of_decide_eq_true (by decide +kernel)
end Go.Sx

