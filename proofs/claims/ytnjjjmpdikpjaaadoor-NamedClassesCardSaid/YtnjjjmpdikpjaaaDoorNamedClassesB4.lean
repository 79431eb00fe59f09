/- The walks of functions, printed by wip/tools/gw.py. -/
import Derived.Test.YtnjjjmpdikpjaaaDoorNamedClassesB1
import Derived.Test.YtnjjjmpdikpjaaaDoorNamedClassesB3
namespace Go.Proofs.YtnjjjmpdikpjaaaDoor
open Go Go.Sx
set_option linter.unusedVariables false
set_option linter.unusedSimpArgs false
set_option maxRecDepth 20000 in
theorem esc0_any (c : Nat) (w : World) (hc : c = 100 ∨ c = 115 ∨ c = 119) :
    Calls Tryd.prog 10 #[.int .u8 ((c : Nat) : Int)] w (Ret fun v w' => v = .tuple #[.agg #[.int .u64 ((((esc0 c).w0).toNat : Nat) : Int), .int .u64 ((((esc0 c).w1).toNat : Nat) : Int), .int .u64 ((((esc0 c).w2).toNat : Nat) : Int), .int .u64 ((((esc0 c).w3).toNat : Nat) : Int)], .bool true] ∧ Upd w [] w' []) := by
  refine calls_of_W (args := [.int .u8 ((c : Nat) : Int)]) Tryd.func10 rfl rfl rfl ?_
  have H0 : UpG w [] w [] := UpG.nil w
  show W _ _ _ _ [(0, .int .u8 ((c : Nat) : Int))] w
  refine W.seq ?_
  refine W.region ?_
  refine WL.op rfl (d_alloc sz24 fun w1 u1 => ?_)
  have H1 : UpG w [] w1 [[blk w.heap.size #[.int .u64 ((Bs.zero.w0.toNat : Nat) : Int), .int .u64 ((Bs.zero.w1.toNat : Nat) : Int), .int .u64 ((Bs.zero.w2.toNat : Nat) : Int), .int .u64 ((Bs.zero.w3.toNat : Nat) : Int)] 24]] := H0.new' u1
  refine WL.op rfl (d_assign rfl ?_)
  refine WL.done (X.then_code ?_)
  refine W.seq ?_
  refine W.seq ?_
  refine W.region ?_
  refine WL.op rfl (d_move rfl ?_)
  refine WL.done (X.then_code ?_)
  refine W.block ?_
  refine W.seq ?_
  refine W.region ?_
  refine WL.op rfl (d_cmp (decide (((c : Nat) : Int) = (110 : Int))) rfl rfl rfl ?_)
  refine WL.op rfl (d_assign rfl ?_)
  refine WL.done (X.then_code ?_)
  refine W.ite (p := ((c : Nat) : Int) = (110 : Int)) rfl (fun c65 => ?_) (fun c65 => ?_)
  · skip
    exfalso; omega
  · skip
    refine W.seq ?_
    refine W.region ?_
    refine WL.op rfl (d_cmp (decide (((c : Nat) : Int) = (116 : Int))) rfl rfl rfl ?_)
    refine WL.op rfl (d_assign rfl ?_)
    refine WL.done (X.then_code ?_)
    refine W.ite (p := ((c : Nat) : Int) = (116 : Int)) rfl (fun c67 => ?_) (fun c67 => ?_)
    · skip
      exfalso; omega
    · skip
      refine W.seq ?_
      refine W.region ?_
      refine WL.op rfl (d_cmp (decide (((c : Nat) : Int) = (114 : Int))) rfl rfl rfl ?_)
      refine WL.op rfl (d_assign rfl ?_)
      refine WL.done (X.then_code ?_)
      refine W.ite (p := ((c : Nat) : Int) = (114 : Int)) rfl (fun c69 => ?_) (fun c69 => ?_)
      · skip
        exfalso; omega
      · skip
        refine W.seq ?_
        refine W.region ?_
        refine WL.op rfl (d_cmp (decide (((c : Nat) : Int) = (100 : Int))) rfl rfl rfl ?_)
        refine WL.op rfl (d_assign rfl ?_)
        refine WL.done (X.then_code ?_)
        refine W.ite (p := ((c : Nat) : Int) = (100 : Int)) rfl (fun c71 => ?_) (fun c71 => ?_)
        · skip
          refine W.seq ?_
          refine W.region ?_
          refine WL.op rfl (d_call ok20 rfl (Ret.calls (of2_any ⟨#[100, 105, 103, 105, 116]⟩ w1  ) fun _ w2 p1 => ?_))
          obtain ⟨rfl, u2⟩ := p1
          have H2 : UpG w [] w2 [[blk w.heap.size #[.int .u64 ((Bs.zero.w0.toNat : Nat) : Int), .int .u64 ((Bs.zero.w1.toNat : Nat) : Int), .int .u64 ((Bs.zero.w2.toNat : Nat) : Int), .int .u64 ((Bs.zero.w3.toNat : Nat) : Int)] 24]] := H1.call u2
          refine WL.op0 (d_storeAB (us := [.int .u64 ((((classB ⟨#[100, 105, 103, 105, 116]⟩).w0).toNat : Nat) : Int), .int .u64 ((((classB ⟨#[100, 105, 103, 105, 116]⟩).w1).toNat : Nat) : Int), .int .u64 ((((classB ⟨#[100, 105, 103, 105, 116]⟩).w2).toNat : Nat) : Int), .int .u64 ((((classB ⟨#[100, 105, 103, 105, 116]⟩).w3).toNat : Nat) : Int)]) (cs' := #[.int .u64 ((((classB ⟨#[100, 105, 103, 105, 116]⟩).w0).toNat : Nat) : Int), .int .u64 ((((classB ⟨#[100, 105, 103, 105, 116]⟩).w1).toNat : Nat) : Int), .int .u64 ((((classB ⟨#[100, 105, 103, 105, 116]⟩).w2).toNat : Nat) : Int), .int .u64 ((((classB ⟨#[100, 105, 103, 105, 116]⟩).w3).toNat : Nat) : Int)]) sz24 rfl rfl rfl rfl (H2.blk 0 rfl) rfl rfl fun w3 u3 => ?_)
          have H3 : UpG w [] w3 [[blk w.heap.size #[.int .u64 ((((classB ⟨#[100, 105, 103, 105, 116]⟩).w0).toNat : Nat) : Int), .int .u64 ((((classB ⟨#[100, 105, 103, 105, 116]⟩).w1).toNat : Nat) : Int), .int .u64 ((((classB ⟨#[100, 105, 103, 105, 116]⟩).w2).toNat : Nat) : Int), .int .u64 ((((classB ⟨#[100, 105, 103, 105, 116]⟩).w3).toNat : Nat) : Int)] 24]] := H2.on 0 rfl u3
          refine WL.op rfl (d_assign rfl ?_)
          refine WL.done (X.then_code ?_)
          refine W.ret (X.block_ret (X.then_ret (X.retR2 rfl (rv_cellA [.int .u64 ((((classB ⟨#[100, 105, 103, 105, 116]⟩).w0).toNat : Nat) : Int), .int .u64 ((((classB ⟨#[100, 105, 103, 105, 116]⟩).w1).toNat : Nat) : Int), .int .u64 ((((classB ⟨#[100, 105, 103, 105, 116]⟩).w2).toNat : Nat) : Int), .int .u64 ((((classB ⟨#[100, 105, 103, 105, 116]⟩).w3).toNat : Nat) : Int)] Tryd.underlying24 rfl sz24 rfl (H3.blk 0 rfl) rfl rfl) (rv_tmp rfl) ?_)))
          have e : esc0 c = classB ⟨#[100, 105, 103, 105, 116]⟩ := if_pos (by omega)
          exact ⟨(by rw [e]), H3.noneL⟩
        · skip
          refine W.seq ?_
          refine W.region ?_
          refine WL.op rfl (d_cmp (decide (((c : Nat) : Int) = (115 : Int))) rfl rfl rfl ?_)
          refine WL.op rfl (d_assign rfl ?_)
          refine WL.done (X.then_code ?_)
          refine W.ite (p := ((c : Nat) : Int) = (115 : Int)) rfl (fun c73 => ?_) (fun c73 => ?_)
          · skip
            refine W.seq ?_
            refine W.region ?_
            refine WL.op rfl (d_call ok20 rfl (Ret.calls (of2_any ⟨#[115, 112, 97, 99, 101]⟩ w1  ) fun _ w4 p2 => ?_))
            obtain ⟨rfl, u4⟩ := p2
            have H4 : UpG w [] w4 [[blk w.heap.size #[.int .u64 ((Bs.zero.w0.toNat : Nat) : Int), .int .u64 ((Bs.zero.w1.toNat : Nat) : Int), .int .u64 ((Bs.zero.w2.toNat : Nat) : Int), .int .u64 ((Bs.zero.w3.toNat : Nat) : Int)] 24]] := H1.call u4
            refine WL.op0 (d_storeAB (us := [.int .u64 ((((classB ⟨#[115, 112, 97, 99, 101]⟩).w0).toNat : Nat) : Int), .int .u64 ((((classB ⟨#[115, 112, 97, 99, 101]⟩).w1).toNat : Nat) : Int), .int .u64 ((((classB ⟨#[115, 112, 97, 99, 101]⟩).w2).toNat : Nat) : Int), .int .u64 ((((classB ⟨#[115, 112, 97, 99, 101]⟩).w3).toNat : Nat) : Int)]) (cs' := #[.int .u64 ((((classB ⟨#[115, 112, 97, 99, 101]⟩).w0).toNat : Nat) : Int), .int .u64 ((((classB ⟨#[115, 112, 97, 99, 101]⟩).w1).toNat : Nat) : Int), .int .u64 ((((classB ⟨#[115, 112, 97, 99, 101]⟩).w2).toNat : Nat) : Int), .int .u64 ((((classB ⟨#[115, 112, 97, 99, 101]⟩).w3).toNat : Nat) : Int)]) sz24 rfl rfl rfl rfl (H4.blk 0 rfl) rfl rfl fun w5 u5 => ?_)
            have H5 : UpG w [] w5 [[blk w.heap.size #[.int .u64 ((((classB ⟨#[115, 112, 97, 99, 101]⟩).w0).toNat : Nat) : Int), .int .u64 ((((classB ⟨#[115, 112, 97, 99, 101]⟩).w1).toNat : Nat) : Int), .int .u64 ((((classB ⟨#[115, 112, 97, 99, 101]⟩).w2).toNat : Nat) : Int), .int .u64 ((((classB ⟨#[115, 112, 97, 99, 101]⟩).w3).toNat : Nat) : Int)] 24]] := H4.on 0 rfl u5
            refine WL.op rfl (d_assign rfl ?_)
            refine WL.done (X.then_code ?_)
            refine W.ret (X.block_ret (X.then_ret (X.retR2 rfl (rv_cellA [.int .u64 ((((classB ⟨#[115, 112, 97, 99, 101]⟩).w0).toNat : Nat) : Int), .int .u64 ((((classB ⟨#[115, 112, 97, 99, 101]⟩).w1).toNat : Nat) : Int), .int .u64 ((((classB ⟨#[115, 112, 97, 99, 101]⟩).w2).toNat : Nat) : Int), .int .u64 ((((classB ⟨#[115, 112, 97, 99, 101]⟩).w3).toNat : Nat) : Int)] Tryd.underlying24 rfl sz24 rfl (H5.blk 0 rfl) rfl rfl) (rv_tmp rfl) ?_)))
            have e : esc0 c = classB ⟨#[115, 112, 97, 99, 101]⟩ := by unfold esc0; rw [if_neg (by omega), if_pos (by omega)]
            exact ⟨(by rw [e]), H5.noneL⟩
          · skip
            refine W.seq ?_
            refine W.region ?_
            refine WL.op rfl (d_cmp (decide (((c : Nat) : Int) = (119 : Int))) rfl rfl rfl ?_)
            refine WL.op rfl (d_assign rfl ?_)
            refine WL.done (X.then_code ?_)
            refine W.ite (p := ((c : Nat) : Int) = (119 : Int)) rfl (fun c75 => ?_) (fun c75 => ?_)
            · skip
              refine W.seq ?_
              refine W.region ?_
              refine WL.op rfl (d_call ok20 rfl (Ret.calls (of2_any ⟨#[97, 108, 110, 117, 109]⟩ w1  ) fun _ w6 p3 => ?_))
              obtain ⟨rfl, u6⟩ := p3
              have H6 : UpG w [] w6 [[blk w.heap.size #[.int .u64 ((Bs.zero.w0.toNat : Nat) : Int), .int .u64 ((Bs.zero.w1.toNat : Nat) : Int), .int .u64 ((Bs.zero.w2.toNat : Nat) : Int), .int .u64 ((Bs.zero.w3.toNat : Nat) : Int)] 24]] := H1.call u6
              refine WL.op rfl (t_buildSlice (T := tyN8) (xs := [95]) (cs := #[.int .u8 95]) rfl Tryd.underlying41 sz5 rfl rfl rfl rfl (by kernel_rfl) rfl rfl fun w7 u7 => ?_)
              have H7 : UpG w [] w7 [[blk w.heap.size #[.int .u64 ((Bs.zero.w0.toNat : Nat) : Int), .int .u64 ((Bs.zero.w1.toNat : Nat) : Int), .int .u64 ((Bs.zero.w2.toNat : Nat) : Int), .int .u64 ((Bs.zero.w3.toNat : Nat) : Int)] 24], [rowT tyN8 (.slice (some ⟨w6.heap.size, 0, none⟩) ([95].length) ([95].length)) 5 [95]]] := H6.new' u7
              refine WL.op rfl (d_call ok18 rfl (Ret.calls (of_any (some ⟨w6.heap.size, 0, none⟩) [95] ([95].length) ([95].length) w7 (H7.rdT 1 rfl) (by intro c hc; simp at hc; omega)) fun _ w8 p4 => ?_))
              obtain ⟨rfl, u8⟩ := p4
              have H8 : UpG w [] w8 [[blk w.heap.size #[.int .u64 ((Bs.zero.w0.toNat : Nat) : Int), .int .u64 ((Bs.zero.w1.toNat : Nat) : Int), .int .u64 ((Bs.zero.w2.toNat : Nat) : Int), .int .u64 ((Bs.zero.w3.toNat : Nat) : Int)] 24], [rowT tyN8 (.slice (some ⟨w6.heap.size, 0, none⟩) ([95].length) ([95].length)) 5 [95]]] := H7.call u8
              refine WL.op rfl (d_call ok21 rfl (Ret.calls (or_any (classB ⟨#[97, 108, 110, 117, 109]⟩) (ofS [95]) w8  ) fun _ w9 p5 => ?_))
              obtain ⟨rfl, u9⟩ := p5
              have H9 : UpG w [] w9 [[blk w.heap.size #[.int .u64 ((Bs.zero.w0.toNat : Nat) : Int), .int .u64 ((Bs.zero.w1.toNat : Nat) : Int), .int .u64 ((Bs.zero.w2.toNat : Nat) : Int), .int .u64 ((Bs.zero.w3.toNat : Nat) : Int)] 24], [rowT tyN8 (.slice (some ⟨w6.heap.size, 0, none⟩) ([95].length) ([95].length)) 5 [95]]] := H8.call u9
              refine WL.op0 (d_storeAB (us := [.int .u64 ((((orB (classB ⟨#[97, 108, 110, 117, 109]⟩) (ofS [95])).w0).toNat : Nat) : Int), .int .u64 ((((orB (classB ⟨#[97, 108, 110, 117, 109]⟩) (ofS [95])).w1).toNat : Nat) : Int), .int .u64 ((((orB (classB ⟨#[97, 108, 110, 117, 109]⟩) (ofS [95])).w2).toNat : Nat) : Int), .int .u64 ((((orB (classB ⟨#[97, 108, 110, 117, 109]⟩) (ofS [95])).w3).toNat : Nat) : Int)]) (cs' := #[.int .u64 ((((orB (classB ⟨#[97, 108, 110, 117, 109]⟩) (ofS [95])).w0).toNat : Nat) : Int), .int .u64 ((((orB (classB ⟨#[97, 108, 110, 117, 109]⟩) (ofS [95])).w1).toNat : Nat) : Int), .int .u64 ((((orB (classB ⟨#[97, 108, 110, 117, 109]⟩) (ofS [95])).w2).toNat : Nat) : Int), .int .u64 ((((orB (classB ⟨#[97, 108, 110, 117, 109]⟩) (ofS [95])).w3).toNat : Nat) : Int)]) sz24 rfl rfl rfl rfl (H9.blk 0 rfl) rfl rfl fun w10 u10 => ?_)
              have H10 : UpG w [] w10 [[blk w.heap.size #[.int .u64 ((((orB (classB ⟨#[97, 108, 110, 117, 109]⟩) (ofS [95])).w0).toNat : Nat) : Int), .int .u64 ((((orB (classB ⟨#[97, 108, 110, 117, 109]⟩) (ofS [95])).w1).toNat : Nat) : Int), .int .u64 ((((orB (classB ⟨#[97, 108, 110, 117, 109]⟩) (ofS [95])).w2).toNat : Nat) : Int), .int .u64 ((((orB (classB ⟨#[97, 108, 110, 117, 109]⟩) (ofS [95])).w3).toNat : Nat) : Int)] 24], [rowT tyN8 (.slice (some ⟨w6.heap.size, 0, none⟩) ([95].length) ([95].length)) 5 [95]]] := H9.on 0 rfl u10
              refine WL.op rfl (d_assign rfl ?_)
              refine WL.done (X.then_code ?_)
              refine W.ret (X.block_ret (X.then_ret (X.retR2 rfl (rv_cellA [.int .u64 ((((orB (classB ⟨#[97, 108, 110, 117, 109]⟩) (ofS [95])).w0).toNat : Nat) : Int), .int .u64 ((((orB (classB ⟨#[97, 108, 110, 117, 109]⟩) (ofS [95])).w1).toNat : Nat) : Int), .int .u64 ((((orB (classB ⟨#[97, 108, 110, 117, 109]⟩) (ofS [95])).w2).toNat : Nat) : Int), .int .u64 ((((orB (classB ⟨#[97, 108, 110, 117, 109]⟩) (ofS [95])).w3).toNat : Nat) : Int)] Tryd.underlying24 rfl sz24 rfl (H10.blk 0 rfl) rfl rfl) (rv_tmp rfl) ?_)))
              have e : esc0 c = orB (classB ⟨#[97, 108, 110, 117, 109]⟩) (ofS [95]) := by unfold esc0; rw [if_neg (by omega), if_neg (by omega)]
              exact ⟨(by rw [e]), H10.noneL⟩
            · skip
              exfalso; omega

set_option maxRecDepth 20000 in
theorem esc_any (c : Nat) (w : World) (hc : c < 256) :
    Calls Tryd.prog 10 #[.int .u8 ((c : Nat) : Int)] w (Ret fun v w' => v = .tuple #[.agg #[.int .u64 (((((escB c).1).w0).toNat : Nat) : Int), .int .u64 (((((escB c).1).w1).toNat : Nat) : Int), .int .u64 (((((escB c).1).w2).toNat : Nat) : Int), .int .u64 (((((escB c).1).w3).toNat : Nat) : Int)], .bool ((escB c).2)] ∧ Upd w [] w' []) := by
  refine calls_of_W (args := [.int .u8 ((c : Nat) : Int)]) Tryd.func10 rfl rfl rfl ?_
  have H0 : UpG w [] w [] := UpG.nil w
  show W _ _ _ _ [(0, .int .u8 ((c : Nat) : Int))] w
  refine W.seq ?_
  refine W.region ?_
  refine WL.op rfl (d_alloc sz24 fun w1 u1 => ?_)
  have H1 : UpG w [] w1 [[blk w.heap.size #[.int .u64 ((Bs.zero.w0.toNat : Nat) : Int), .int .u64 ((Bs.zero.w1.toNat : Nat) : Int), .int .u64 ((Bs.zero.w2.toNat : Nat) : Int), .int .u64 ((Bs.zero.w3.toNat : Nat) : Int)] 24]] := H0.new' u1
  refine WL.op rfl (d_assign rfl ?_)
  refine WL.done (X.then_code ?_)
  refine W.seq ?_
  refine W.seq ?_
  refine W.region ?_
  refine WL.op rfl (d_move rfl ?_)
  refine WL.done (X.then_code ?_)
  refine W.block ?_
  refine W.seq ?_
  refine W.region ?_
  refine WL.op rfl (d_cmp (decide (((c : Nat) : Int) = (110 : Int))) rfl rfl rfl ?_)
  refine WL.op rfl (d_assign rfl ?_)
  refine WL.done (X.then_code ?_)
  refine W.ite (p := ((c : Nat) : Int) = (110 : Int)) rfl (fun c65 => ?_) (fun c65 => ?_)
  · skip
    refine W.seq ?_
    refine W.region ?_
    refine WL.op rfl (t_buildSlice (T := tyN8) (xs := [10]) (cs := #[.int .u8 10]) rfl Tryd.underlying41 sz5 rfl rfl rfl rfl (by kernel_rfl) rfl rfl fun w2 u2 => ?_)
    have H2 : UpG w [] w2 [[blk w.heap.size #[.int .u64 ((Bs.zero.w0.toNat : Nat) : Int), .int .u64 ((Bs.zero.w1.toNat : Nat) : Int), .int .u64 ((Bs.zero.w2.toNat : Nat) : Int), .int .u64 ((Bs.zero.w3.toNat : Nat) : Int)] 24], [rowT tyN8 (.slice (some ⟨w1.heap.size, 0, none⟩) ([10].length) ([10].length)) 5 [10]]] := H1.new' u2
    refine WL.op rfl (d_call ok18 rfl (Ret.calls (of_any (some ⟨w1.heap.size, 0, none⟩) [10] ([10].length) ([10].length) w2 (H2.rdT 1 rfl) (by intro c hc; simp at hc; omega)) fun _ w3 p1 => ?_))
    obtain ⟨rfl, u3⟩ := p1
    have H3 : UpG w [] w3 [[blk w.heap.size #[.int .u64 ((Bs.zero.w0.toNat : Nat) : Int), .int .u64 ((Bs.zero.w1.toNat : Nat) : Int), .int .u64 ((Bs.zero.w2.toNat : Nat) : Int), .int .u64 ((Bs.zero.w3.toNat : Nat) : Int)] 24], [rowT tyN8 (.slice (some ⟨w1.heap.size, 0, none⟩) ([10].length) ([10].length)) 5 [10]]] := H2.call u3
    refine WL.op0 (d_storeAB (us := [.int .u64 ((((ofS [10]).w0).toNat : Nat) : Int), .int .u64 ((((ofS [10]).w1).toNat : Nat) : Int), .int .u64 ((((ofS [10]).w2).toNat : Nat) : Int), .int .u64 ((((ofS [10]).w3).toNat : Nat) : Int)]) (cs' := #[.int .u64 ((((ofS [10]).w0).toNat : Nat) : Int), .int .u64 ((((ofS [10]).w1).toNat : Nat) : Int), .int .u64 ((((ofS [10]).w2).toNat : Nat) : Int), .int .u64 ((((ofS [10]).w3).toNat : Nat) : Int)]) sz24 rfl rfl rfl rfl (H3.blk 0 rfl) rfl rfl fun w4 u4 => ?_)
    have H4 : UpG w [] w4 [[blk w.heap.size #[.int .u64 ((((ofS [10]).w0).toNat : Nat) : Int), .int .u64 ((((ofS [10]).w1).toNat : Nat) : Int), .int .u64 ((((ofS [10]).w2).toNat : Nat) : Int), .int .u64 ((((ofS [10]).w3).toNat : Nat) : Int)] 24], [rowT tyN8 (.slice (some ⟨w1.heap.size, 0, none⟩) ([10].length) ([10].length)) 5 [10]]] := H3.on 0 rfl u4
    refine WL.op rfl (d_assign rfl ?_)
    refine WL.done (X.then_code ?_)
    refine W.ret (X.block_ret (X.then_ret (X.retR2 rfl (rv_cellA [.int .u64 ((((ofS [10]).w0).toNat : Nat) : Int), .int .u64 ((((ofS [10]).w1).toNat : Nat) : Int), .int .u64 ((((ofS [10]).w2).toNat : Nat) : Int), .int .u64 ((((ofS [10]).w3).toNat : Nat) : Int)] Tryd.underlying24 rfl sz24 rfl (H4.blk 0 rfl) rfl rfl) (rv_tmp rfl) ?_)))
    have e : escB c = (ofS [10], true) := by unfold escB; rw [if_pos (by omega)]
    exact ⟨(by rw [e]), H4.noneL⟩
  · skip
    refine W.seq ?_
    refine W.region ?_
    refine WL.op rfl (d_cmp (decide (((c : Nat) : Int) = (116 : Int))) rfl rfl rfl ?_)
    refine WL.op rfl (d_assign rfl ?_)
    refine WL.done (X.then_code ?_)
    refine W.ite (p := ((c : Nat) : Int) = (116 : Int)) rfl (fun c67 => ?_) (fun c67 => ?_)
    · skip
      refine W.seq ?_
      refine W.region ?_
      refine WL.op rfl (t_buildSlice (T := tyN8) (xs := [9]) (cs := #[.int .u8 9]) rfl Tryd.underlying41 sz5 rfl rfl rfl rfl (by kernel_rfl) rfl rfl fun w5 u5 => ?_)
      have H5 : UpG w [] w5 [[blk w.heap.size #[.int .u64 ((Bs.zero.w0.toNat : Nat) : Int), .int .u64 ((Bs.zero.w1.toNat : Nat) : Int), .int .u64 ((Bs.zero.w2.toNat : Nat) : Int), .int .u64 ((Bs.zero.w3.toNat : Nat) : Int)] 24], [rowT tyN8 (.slice (some ⟨w1.heap.size, 0, none⟩) ([9].length) ([9].length)) 5 [9]]] := H1.new' u5
      refine WL.op rfl (d_call ok18 rfl (Ret.calls (of_any (some ⟨w1.heap.size, 0, none⟩) [9] ([9].length) ([9].length) w5 (H5.rdT 1 rfl) (by intro c hc; simp at hc; omega)) fun _ w6 p2 => ?_))
      obtain ⟨rfl, u6⟩ := p2
      have H6 : UpG w [] w6 [[blk w.heap.size #[.int .u64 ((Bs.zero.w0.toNat : Nat) : Int), .int .u64 ((Bs.zero.w1.toNat : Nat) : Int), .int .u64 ((Bs.zero.w2.toNat : Nat) : Int), .int .u64 ((Bs.zero.w3.toNat : Nat) : Int)] 24], [rowT tyN8 (.slice (some ⟨w1.heap.size, 0, none⟩) ([9].length) ([9].length)) 5 [9]]] := H5.call u6
      refine WL.op0 (d_storeAB (us := [.int .u64 ((((ofS [9]).w0).toNat : Nat) : Int), .int .u64 ((((ofS [9]).w1).toNat : Nat) : Int), .int .u64 ((((ofS [9]).w2).toNat : Nat) : Int), .int .u64 ((((ofS [9]).w3).toNat : Nat) : Int)]) (cs' := #[.int .u64 ((((ofS [9]).w0).toNat : Nat) : Int), .int .u64 ((((ofS [9]).w1).toNat : Nat) : Int), .int .u64 ((((ofS [9]).w2).toNat : Nat) : Int), .int .u64 ((((ofS [9]).w3).toNat : Nat) : Int)]) sz24 rfl rfl rfl rfl (H6.blk 0 rfl) rfl rfl fun w7 u7 => ?_)
      have H7 : UpG w [] w7 [[blk w.heap.size #[.int .u64 ((((ofS [9]).w0).toNat : Nat) : Int), .int .u64 ((((ofS [9]).w1).toNat : Nat) : Int), .int .u64 ((((ofS [9]).w2).toNat : Nat) : Int), .int .u64 ((((ofS [9]).w3).toNat : Nat) : Int)] 24], [rowT tyN8 (.slice (some ⟨w1.heap.size, 0, none⟩) ([9].length) ([9].length)) 5 [9]]] := H6.on 0 rfl u7
      refine WL.op rfl (d_assign rfl ?_)
      refine WL.done (X.then_code ?_)
      refine W.ret (X.block_ret (X.then_ret (X.retR2 rfl (rv_cellA [.int .u64 ((((ofS [9]).w0).toNat : Nat) : Int), .int .u64 ((((ofS [9]).w1).toNat : Nat) : Int), .int .u64 ((((ofS [9]).w2).toNat : Nat) : Int), .int .u64 ((((ofS [9]).w3).toNat : Nat) : Int)] Tryd.underlying24 rfl sz24 rfl (H7.blk 0 rfl) rfl rfl) (rv_tmp rfl) ?_)))
      have e : escB c = (ofS [9], true) := by unfold escB; rw [if_neg (by omega), if_pos (by omega)]
      exact ⟨(by rw [e]), H7.noneL⟩
    · skip
      refine W.seq ?_
      refine W.region ?_
      refine WL.op rfl (d_cmp (decide (((c : Nat) : Int) = (114 : Int))) rfl rfl rfl ?_)
      refine WL.op rfl (d_assign rfl ?_)
      refine WL.done (X.then_code ?_)
      refine W.ite (p := ((c : Nat) : Int) = (114 : Int)) rfl (fun c69 => ?_) (fun c69 => ?_)
      · skip
        refine W.seq ?_
        refine W.region ?_
        refine WL.op rfl (t_buildSlice (T := tyN8) (xs := [13]) (cs := #[.int .u8 13]) rfl Tryd.underlying41 sz5 rfl rfl rfl rfl (by kernel_rfl) rfl rfl fun w8 u8 => ?_)
        have H8 : UpG w [] w8 [[blk w.heap.size #[.int .u64 ((Bs.zero.w0.toNat : Nat) : Int), .int .u64 ((Bs.zero.w1.toNat : Nat) : Int), .int .u64 ((Bs.zero.w2.toNat : Nat) : Int), .int .u64 ((Bs.zero.w3.toNat : Nat) : Int)] 24], [rowT tyN8 (.slice (some ⟨w1.heap.size, 0, none⟩) ([13].length) ([13].length)) 5 [13]]] := H1.new' u8
        refine WL.op rfl (d_call ok18 rfl (Ret.calls (of_any (some ⟨w1.heap.size, 0, none⟩) [13] ([13].length) ([13].length) w8 (H8.rdT 1 rfl) (by intro c hc; simp at hc; omega)) fun _ w9 p3 => ?_))
        obtain ⟨rfl, u9⟩ := p3
        have H9 : UpG w [] w9 [[blk w.heap.size #[.int .u64 ((Bs.zero.w0.toNat : Nat) : Int), .int .u64 ((Bs.zero.w1.toNat : Nat) : Int), .int .u64 ((Bs.zero.w2.toNat : Nat) : Int), .int .u64 ((Bs.zero.w3.toNat : Nat) : Int)] 24], [rowT tyN8 (.slice (some ⟨w1.heap.size, 0, none⟩) ([13].length) ([13].length)) 5 [13]]] := H8.call u9
        refine WL.op0 (d_storeAB (us := [.int .u64 ((((ofS [13]).w0).toNat : Nat) : Int), .int .u64 ((((ofS [13]).w1).toNat : Nat) : Int), .int .u64 ((((ofS [13]).w2).toNat : Nat) : Int), .int .u64 ((((ofS [13]).w3).toNat : Nat) : Int)]) (cs' := #[.int .u64 ((((ofS [13]).w0).toNat : Nat) : Int), .int .u64 ((((ofS [13]).w1).toNat : Nat) : Int), .int .u64 ((((ofS [13]).w2).toNat : Nat) : Int), .int .u64 ((((ofS [13]).w3).toNat : Nat) : Int)]) sz24 rfl rfl rfl rfl (H9.blk 0 rfl) rfl rfl fun w10 u10 => ?_)
        have H10 : UpG w [] w10 [[blk w.heap.size #[.int .u64 ((((ofS [13]).w0).toNat : Nat) : Int), .int .u64 ((((ofS [13]).w1).toNat : Nat) : Int), .int .u64 ((((ofS [13]).w2).toNat : Nat) : Int), .int .u64 ((((ofS [13]).w3).toNat : Nat) : Int)] 24], [rowT tyN8 (.slice (some ⟨w1.heap.size, 0, none⟩) ([13].length) ([13].length)) 5 [13]]] := H9.on 0 rfl u10
        refine WL.op rfl (d_assign rfl ?_)
        refine WL.done (X.then_code ?_)
        refine W.ret (X.block_ret (X.then_ret (X.retR2 rfl (rv_cellA [.int .u64 ((((ofS [13]).w0).toNat : Nat) : Int), .int .u64 ((((ofS [13]).w1).toNat : Nat) : Int), .int .u64 ((((ofS [13]).w2).toNat : Nat) : Int), .int .u64 ((((ofS [13]).w3).toNat : Nat) : Int)] Tryd.underlying24 rfl sz24 rfl (H10.blk 0 rfl) rfl rfl) (rv_tmp rfl) ?_)))
        have e : escB c = (ofS [13], true) := by unfold escB; rw [if_neg (by omega), if_neg (by omega), if_pos (by omega)]
        exact ⟨(by rw [e]), H10.noneL⟩
      · skip
        refine W.seq ?_
        refine W.region ?_
        refine WL.op rfl (d_cmp (decide (((c : Nat) : Int) = (100 : Int))) rfl rfl rfl ?_)
        refine WL.op rfl (d_assign rfl ?_)
        refine WL.done (X.then_code ?_)
        refine W.ite (p := ((c : Nat) : Int) = (100 : Int)) rfl (fun c71 => ?_) (fun c71 => ?_)
        · skip
          refine W.seq ?_
          refine W.region ?_
          refine WL.op rfl (d_call ok20 rfl (Ret.calls (of2_any ⟨#[100, 105, 103, 105, 116]⟩ w1  ) fun _ w11 p4 => ?_))
          obtain ⟨rfl, u11⟩ := p4
          have H11 : UpG w [] w11 [[blk w.heap.size #[.int .u64 ((Bs.zero.w0.toNat : Nat) : Int), .int .u64 ((Bs.zero.w1.toNat : Nat) : Int), .int .u64 ((Bs.zero.w2.toNat : Nat) : Int), .int .u64 ((Bs.zero.w3.toNat : Nat) : Int)] 24]] := H1.call u11
          refine WL.op0 (d_storeAB (us := [.int .u64 ((((classB ⟨#[100, 105, 103, 105, 116]⟩).w0).toNat : Nat) : Int), .int .u64 ((((classB ⟨#[100, 105, 103, 105, 116]⟩).w1).toNat : Nat) : Int), .int .u64 ((((classB ⟨#[100, 105, 103, 105, 116]⟩).w2).toNat : Nat) : Int), .int .u64 ((((classB ⟨#[100, 105, 103, 105, 116]⟩).w3).toNat : Nat) : Int)]) (cs' := #[.int .u64 ((((classB ⟨#[100, 105, 103, 105, 116]⟩).w0).toNat : Nat) : Int), .int .u64 ((((classB ⟨#[100, 105, 103, 105, 116]⟩).w1).toNat : Nat) : Int), .int .u64 ((((classB ⟨#[100, 105, 103, 105, 116]⟩).w2).toNat : Nat) : Int), .int .u64 ((((classB ⟨#[100, 105, 103, 105, 116]⟩).w3).toNat : Nat) : Int)]) sz24 rfl rfl rfl rfl (H11.blk 0 rfl) rfl rfl fun w12 u12 => ?_)
          have H12 : UpG w [] w12 [[blk w.heap.size #[.int .u64 ((((classB ⟨#[100, 105, 103, 105, 116]⟩).w0).toNat : Nat) : Int), .int .u64 ((((classB ⟨#[100, 105, 103, 105, 116]⟩).w1).toNat : Nat) : Int), .int .u64 ((((classB ⟨#[100, 105, 103, 105, 116]⟩).w2).toNat : Nat) : Int), .int .u64 ((((classB ⟨#[100, 105, 103, 105, 116]⟩).w3).toNat : Nat) : Int)] 24]] := H11.on 0 rfl u12
          refine WL.op rfl (d_assign rfl ?_)
          refine WL.done (X.then_code ?_)
          refine W.ret (X.block_ret (X.then_ret (X.retR2 rfl (rv_cellA [.int .u64 ((((classB ⟨#[100, 105, 103, 105, 116]⟩).w0).toNat : Nat) : Int), .int .u64 ((((classB ⟨#[100, 105, 103, 105, 116]⟩).w1).toNat : Nat) : Int), .int .u64 ((((classB ⟨#[100, 105, 103, 105, 116]⟩).w2).toNat : Nat) : Int), .int .u64 ((((classB ⟨#[100, 105, 103, 105, 116]⟩).w3).toNat : Nat) : Int)] Tryd.underlying24 rfl sz24 rfl (H12.blk 0 rfl) rfl rfl) (rv_tmp rfl) ?_)))
          have e : escB c = (esc0 c, true) := by unfold escB; rw [if_neg (by omega), if_neg (by omega), if_neg (by omega), if_pos (by omega)]
          have e1 : esc0 c = classB ⟨#[100, 105, 103, 105, 116]⟩ := if_pos (by omega)
          exact ⟨(by rw [e, e1]), H12.noneL⟩
        · skip
          refine W.seq ?_
          refine W.region ?_
          refine WL.op rfl (d_cmp (decide (((c : Nat) : Int) = (115 : Int))) rfl rfl rfl ?_)
          refine WL.op rfl (d_assign rfl ?_)
          refine WL.done (X.then_code ?_)
          refine W.ite (p := ((c : Nat) : Int) = (115 : Int)) rfl (fun c73 => ?_) (fun c73 => ?_)
          · skip
            refine W.seq ?_
            refine W.region ?_
            refine WL.op rfl (d_call ok20 rfl (Ret.calls (of2_any ⟨#[115, 112, 97, 99, 101]⟩ w1  ) fun _ w13 p5 => ?_))
            obtain ⟨rfl, u13⟩ := p5
            have H13 : UpG w [] w13 [[blk w.heap.size #[.int .u64 ((Bs.zero.w0.toNat : Nat) : Int), .int .u64 ((Bs.zero.w1.toNat : Nat) : Int), .int .u64 ((Bs.zero.w2.toNat : Nat) : Int), .int .u64 ((Bs.zero.w3.toNat : Nat) : Int)] 24]] := H1.call u13
            refine WL.op0 (d_storeAB (us := [.int .u64 ((((classB ⟨#[115, 112, 97, 99, 101]⟩).w0).toNat : Nat) : Int), .int .u64 ((((classB ⟨#[115, 112, 97, 99, 101]⟩).w1).toNat : Nat) : Int), .int .u64 ((((classB ⟨#[115, 112, 97, 99, 101]⟩).w2).toNat : Nat) : Int), .int .u64 ((((classB ⟨#[115, 112, 97, 99, 101]⟩).w3).toNat : Nat) : Int)]) (cs' := #[.int .u64 ((((classB ⟨#[115, 112, 97, 99, 101]⟩).w0).toNat : Nat) : Int), .int .u64 ((((classB ⟨#[115, 112, 97, 99, 101]⟩).w1).toNat : Nat) : Int), .int .u64 ((((classB ⟨#[115, 112, 97, 99, 101]⟩).w2).toNat : Nat) : Int), .int .u64 ((((classB ⟨#[115, 112, 97, 99, 101]⟩).w3).toNat : Nat) : Int)]) sz24 rfl rfl rfl rfl (H13.blk 0 rfl) rfl rfl fun w14 u14 => ?_)
            have H14 : UpG w [] w14 [[blk w.heap.size #[.int .u64 ((((classB ⟨#[115, 112, 97, 99, 101]⟩).w0).toNat : Nat) : Int), .int .u64 ((((classB ⟨#[115, 112, 97, 99, 101]⟩).w1).toNat : Nat) : Int), .int .u64 ((((classB ⟨#[115, 112, 97, 99, 101]⟩).w2).toNat : Nat) : Int), .int .u64 ((((classB ⟨#[115, 112, 97, 99, 101]⟩).w3).toNat : Nat) : Int)] 24]] := H13.on 0 rfl u14
            refine WL.op rfl (d_assign rfl ?_)
            refine WL.done (X.then_code ?_)
            refine W.ret (X.block_ret (X.then_ret (X.retR2 rfl (rv_cellA [.int .u64 ((((classB ⟨#[115, 112, 97, 99, 101]⟩).w0).toNat : Nat) : Int), .int .u64 ((((classB ⟨#[115, 112, 97, 99, 101]⟩).w1).toNat : Nat) : Int), .int .u64 ((((classB ⟨#[115, 112, 97, 99, 101]⟩).w2).toNat : Nat) : Int), .int .u64 ((((classB ⟨#[115, 112, 97, 99, 101]⟩).w3).toNat : Nat) : Int)] Tryd.underlying24 rfl sz24 rfl (H14.blk 0 rfl) rfl rfl) (rv_tmp rfl) ?_)))
            have e : escB c = (esc0 c, true) := by unfold escB; rw [if_neg (by omega), if_neg (by omega), if_neg (by omega), if_pos (by omega)]
            have e1 : esc0 c = classB ⟨#[115, 112, 97, 99, 101]⟩ := by unfold esc0; rw [if_neg (by omega), if_pos (by omega)]
            exact ⟨(by rw [e, e1]), H14.noneL⟩
          · skip
            refine W.seq ?_
            refine W.region ?_
            refine WL.op rfl (d_cmp (decide (((c : Nat) : Int) = (119 : Int))) rfl rfl rfl ?_)
            refine WL.op rfl (d_assign rfl ?_)
            refine WL.done (X.then_code ?_)
            refine W.ite (p := ((c : Nat) : Int) = (119 : Int)) rfl (fun c75 => ?_) (fun c75 => ?_)
            · skip
              refine W.seq ?_
              refine W.region ?_
              refine WL.op rfl (d_call ok20 rfl (Ret.calls (of2_any ⟨#[97, 108, 110, 117, 109]⟩ w1  ) fun _ w15 p6 => ?_))
              obtain ⟨rfl, u15⟩ := p6
              have H15 : UpG w [] w15 [[blk w.heap.size #[.int .u64 ((Bs.zero.w0.toNat : Nat) : Int), .int .u64 ((Bs.zero.w1.toNat : Nat) : Int), .int .u64 ((Bs.zero.w2.toNat : Nat) : Int), .int .u64 ((Bs.zero.w3.toNat : Nat) : Int)] 24]] := H1.call u15
              refine WL.op rfl (t_buildSlice (T := tyN8) (xs := [95]) (cs := #[.int .u8 95]) rfl Tryd.underlying41 sz5 rfl rfl rfl rfl (by kernel_rfl) rfl rfl fun w16 u16 => ?_)
              have H16 : UpG w [] w16 [[blk w.heap.size #[.int .u64 ((Bs.zero.w0.toNat : Nat) : Int), .int .u64 ((Bs.zero.w1.toNat : Nat) : Int), .int .u64 ((Bs.zero.w2.toNat : Nat) : Int), .int .u64 ((Bs.zero.w3.toNat : Nat) : Int)] 24], [rowT tyN8 (.slice (some ⟨w15.heap.size, 0, none⟩) ([95].length) ([95].length)) 5 [95]]] := H15.new' u16
              refine WL.op rfl (d_call ok18 rfl (Ret.calls (of_any (some ⟨w15.heap.size, 0, none⟩) [95] ([95].length) ([95].length) w16 (H16.rdT 1 rfl) (by intro c hc; simp at hc; omega)) fun _ w17 p7 => ?_))
              obtain ⟨rfl, u17⟩ := p7
              have H17 : UpG w [] w17 [[blk w.heap.size #[.int .u64 ((Bs.zero.w0.toNat : Nat) : Int), .int .u64 ((Bs.zero.w1.toNat : Nat) : Int), .int .u64 ((Bs.zero.w2.toNat : Nat) : Int), .int .u64 ((Bs.zero.w3.toNat : Nat) : Int)] 24], [rowT tyN8 (.slice (some ⟨w15.heap.size, 0, none⟩) ([95].length) ([95].length)) 5 [95]]] := H16.call u17
              refine WL.op rfl (d_call ok21 rfl (Ret.calls (or_any (classB ⟨#[97, 108, 110, 117, 109]⟩) (ofS [95]) w17  ) fun _ w18 p8 => ?_))
              obtain ⟨rfl, u18⟩ := p8
              have H18 : UpG w [] w18 [[blk w.heap.size #[.int .u64 ((Bs.zero.w0.toNat : Nat) : Int), .int .u64 ((Bs.zero.w1.toNat : Nat) : Int), .int .u64 ((Bs.zero.w2.toNat : Nat) : Int), .int .u64 ((Bs.zero.w3.toNat : Nat) : Int)] 24], [rowT tyN8 (.slice (some ⟨w15.heap.size, 0, none⟩) ([95].length) ([95].length)) 5 [95]]] := H17.call u18
              refine WL.op0 (d_storeAB (us := [.int .u64 ((((orB (classB ⟨#[97, 108, 110, 117, 109]⟩) (ofS [95])).w0).toNat : Nat) : Int), .int .u64 ((((orB (classB ⟨#[97, 108, 110, 117, 109]⟩) (ofS [95])).w1).toNat : Nat) : Int), .int .u64 ((((orB (classB ⟨#[97, 108, 110, 117, 109]⟩) (ofS [95])).w2).toNat : Nat) : Int), .int .u64 ((((orB (classB ⟨#[97, 108, 110, 117, 109]⟩) (ofS [95])).w3).toNat : Nat) : Int)]) (cs' := #[.int .u64 ((((orB (classB ⟨#[97, 108, 110, 117, 109]⟩) (ofS [95])).w0).toNat : Nat) : Int), .int .u64 ((((orB (classB ⟨#[97, 108, 110, 117, 109]⟩) (ofS [95])).w1).toNat : Nat) : Int), .int .u64 ((((orB (classB ⟨#[97, 108, 110, 117, 109]⟩) (ofS [95])).w2).toNat : Nat) : Int), .int .u64 ((((orB (classB ⟨#[97, 108, 110, 117, 109]⟩) (ofS [95])).w3).toNat : Nat) : Int)]) sz24 rfl rfl rfl rfl (H18.blk 0 rfl) rfl rfl fun w19 u19 => ?_)
              have H19 : UpG w [] w19 [[blk w.heap.size #[.int .u64 ((((orB (classB ⟨#[97, 108, 110, 117, 109]⟩) (ofS [95])).w0).toNat : Nat) : Int), .int .u64 ((((orB (classB ⟨#[97, 108, 110, 117, 109]⟩) (ofS [95])).w1).toNat : Nat) : Int), .int .u64 ((((orB (classB ⟨#[97, 108, 110, 117, 109]⟩) (ofS [95])).w2).toNat : Nat) : Int), .int .u64 ((((orB (classB ⟨#[97, 108, 110, 117, 109]⟩) (ofS [95])).w3).toNat : Nat) : Int)] 24], [rowT tyN8 (.slice (some ⟨w15.heap.size, 0, none⟩) ([95].length) ([95].length)) 5 [95]]] := H18.on 0 rfl u19
              refine WL.op rfl (d_assign rfl ?_)
              refine WL.done (X.then_code ?_)
              refine W.ret (X.block_ret (X.then_ret (X.retR2 rfl (rv_cellA [.int .u64 ((((orB (classB ⟨#[97, 108, 110, 117, 109]⟩) (ofS [95])).w0).toNat : Nat) : Int), .int .u64 ((((orB (classB ⟨#[97, 108, 110, 117, 109]⟩) (ofS [95])).w1).toNat : Nat) : Int), .int .u64 ((((orB (classB ⟨#[97, 108, 110, 117, 109]⟩) (ofS [95])).w2).toNat : Nat) : Int), .int .u64 ((((orB (classB ⟨#[97, 108, 110, 117, 109]⟩) (ofS [95])).w3).toNat : Nat) : Int)] Tryd.underlying24 rfl sz24 rfl (H19.blk 0 rfl) rfl rfl) (rv_tmp rfl) ?_)))
              have e : escB c = (esc0 c, true) := by unfold escB; rw [if_neg (by omega), if_neg (by omega), if_neg (by omega), if_pos (by omega)]
              have e1 : esc0 c = orB (classB ⟨#[97, 108, 110, 117, 109]⟩) (ofS [95]) := by unfold esc0; rw [if_neg (by omega), if_neg (by omega)]
              exact ⟨(by rw [e, e1]), H19.noneL⟩
            · skip
              refine W.seq ?_
              refine W.seq ?_
              refine W.region ?_
              refine WL.op rfl (d_cmp (decide (((c : Nat) : Int) = (68 : Int))) rfl rfl rfl ?_)
              refine WL.op rfl (d_assign rfl ?_)
              refine WL.done (X.then_code ?_)
              refine W.ite (p := ((c : Nat) : Int) = (68 : Int)) rfl (fun c77 => ?_) (fun c77 => ?_)
              · skip
                refine W.skip (X.then_code ?_)
                refine W.ite (p := ((c : Nat) : Int) = (68 : Int)) rfl (fun c77x => ?_) (fun c77x => ?_)
                · skip
                  refine W.seq ?_
                  refine W.region ?_
                  refine WL.op rfl (d_move rfl ?_)
                  refine WL.op rfl (d_or32 (m := c) (by omega) rfl rfl ?_)
                  refine WL.op rfl (d_call ok10 rfl (Ret.calls (esc0_any (c ||| 32) w1  (esc_low (by omega))) fun _ w20 p9 => ?_))
                  obtain ⟨rfl, u20⟩ := p9
                  have H20 : UpG w [] w20 [[blk w.heap.size #[.int .u64 ((Bs.zero.w0.toNat : Nat) : Int), .int .u64 ((Bs.zero.w1.toNat : Nat) : Int), .int .u64 ((Bs.zero.w2.toNat : Nat) : Int), .int .u64 ((Bs.zero.w3.toNat : Nat) : Int)] 24]] := H1.call u20
                  refine WL.op rfl (d_move rfl ?_)
                  refine WL.op rfl (d_extract rfl rfl ?_)
                  refine WL.op rfl (d_extract rfl rfl ?_)
                  refine WL.op rfl (d_alloc sz24 fun w21 u21 => ?_)
                  have H21 : UpG w [] w21 [[blk w.heap.size #[.int .u64 ((Bs.zero.w0.toNat : Nat) : Int), .int .u64 ((Bs.zero.w1.toNat : Nat) : Int), .int .u64 ((Bs.zero.w2.toNat : Nat) : Int), .int .u64 ((Bs.zero.w3.toNat : Nat) : Int)] 24], [blk w20.heap.size #[.int .u64 ((Bs.zero.w0.toNat : Nat) : Int), .int .u64 ((Bs.zero.w1.toNat : Nat) : Int), .int .u64 ((Bs.zero.w2.toNat : Nat) : Int), .int .u64 ((Bs.zero.w3.toNat : Nat) : Int)] 24]] := H20.new' u21
                  refine WL.op0 (d_storeAB (us := [.int .u64 ((((esc0 (c ||| 32)).w0).toNat : Nat) : Int), .int .u64 ((((esc0 (c ||| 32)).w1).toNat : Nat) : Int), .int .u64 ((((esc0 (c ||| 32)).w2).toNat : Nat) : Int), .int .u64 ((((esc0 (c ||| 32)).w3).toNat : Nat) : Int)]) (cs' := #[.int .u64 ((((esc0 (c ||| 32)).w0).toNat : Nat) : Int), .int .u64 ((((esc0 (c ||| 32)).w1).toNat : Nat) : Int), .int .u64 ((((esc0 (c ||| 32)).w2).toNat : Nat) : Int), .int .u64 ((((esc0 (c ||| 32)).w3).toNat : Nat) : Int)]) sz24 rfl rfl rfl rfl (H21.blk 1 rfl) rfl rfl fun w22 u22 => ?_)
                  have H22 : UpG w [] w22 [[blk w.heap.size #[.int .u64 ((Bs.zero.w0.toNat : Nat) : Int), .int .u64 ((Bs.zero.w1.toNat : Nat) : Int), .int .u64 ((Bs.zero.w2.toNat : Nat) : Int), .int .u64 ((Bs.zero.w3.toNat : Nat) : Int)] 24], [blk w20.heap.size #[.int .u64 ((((esc0 (c ||| 32)).w0).toNat : Nat) : Int), .int .u64 ((((esc0 (c ||| 32)).w1).toNat : Nat) : Int), .int .u64 ((((esc0 (c ||| 32)).w2).toNat : Nat) : Int), .int .u64 ((((esc0 (c ||| 32)).w3).toNat : Nat) : Int)] 24]] := H21.on 1 rfl u22
                  refine WL.op rfl (d_assign rfl ?_)
                  refine WL.done (X.then_code ?_)
                  refine W.seq ?_
                  refine W.region ?_
                  refine WL.op rfl (d_loadAB [.int .u64 ((((esc0 (c ||| 32)).w0).toNat : Nat) : Int), .int .u64 ((((esc0 (c ||| 32)).w1).toNat : Nat) : Int), .int .u64 ((((esc0 (c ||| 32)).w2).toNat : Nat) : Int), .int .u64 ((((esc0 (c ||| 32)).w3).toNat : Nat) : Int)] Tryd.underlying24 rfl sz24 rfl (H22.blk 1 rfl) rfl rfl ?_)
                  refine WL.op rfl (d_call ok28 rfl (Ret.calls (not_any (esc0 (c ||| 32)) w22  ) fun _ w23 p10 => ?_))
                  obtain ⟨rfl, u23⟩ := p10
                  have H23 : UpG w [] w23 [[blk w.heap.size #[.int .u64 ((Bs.zero.w0.toNat : Nat) : Int), .int .u64 ((Bs.zero.w1.toNat : Nat) : Int), .int .u64 ((Bs.zero.w2.toNat : Nat) : Int), .int .u64 ((Bs.zero.w3.toNat : Nat) : Int)] 24], [blk w20.heap.size #[.int .u64 ((((esc0 (c ||| 32)).w0).toNat : Nat) : Int), .int .u64 ((((esc0 (c ||| 32)).w1).toNat : Nat) : Int), .int .u64 ((((esc0 (c ||| 32)).w2).toNat : Nat) : Int), .int .u64 ((((esc0 (c ||| 32)).w3).toNat : Nat) : Int)] 24]] := H22.call u23
                  refine WL.op0 (d_storeAB (us := [.int .u64 ((((notB (esc0 (c ||| 32))).w0).toNat : Nat) : Int), .int .u64 ((((notB (esc0 (c ||| 32))).w1).toNat : Nat) : Int), .int .u64 ((((notB (esc0 (c ||| 32))).w2).toNat : Nat) : Int), .int .u64 ((((notB (esc0 (c ||| 32))).w3).toNat : Nat) : Int)]) (cs' := #[.int .u64 ((((notB (esc0 (c ||| 32))).w0).toNat : Nat) : Int), .int .u64 ((((notB (esc0 (c ||| 32))).w1).toNat : Nat) : Int), .int .u64 ((((notB (esc0 (c ||| 32))).w2).toNat : Nat) : Int), .int .u64 ((((notB (esc0 (c ||| 32))).w3).toNat : Nat) : Int)]) sz24 rfl rfl rfl rfl (H23.blk 0 rfl) rfl rfl fun w24 u24 => ?_)
                  have H24 : UpG w [] w24 [[blk w.heap.size #[.int .u64 ((((notB (esc0 (c ||| 32))).w0).toNat : Nat) : Int), .int .u64 ((((notB (esc0 (c ||| 32))).w1).toNat : Nat) : Int), .int .u64 ((((notB (esc0 (c ||| 32))).w2).toNat : Nat) : Int), .int .u64 ((((notB (esc0 (c ||| 32))).w3).toNat : Nat) : Int)] 24], [blk w20.heap.size #[.int .u64 ((((esc0 (c ||| 32)).w0).toNat : Nat) : Int), .int .u64 ((((esc0 (c ||| 32)).w1).toNat : Nat) : Int), .int .u64 ((((esc0 (c ||| 32)).w2).toNat : Nat) : Int), .int .u64 ((((esc0 (c ||| 32)).w3).toNat : Nat) : Int)] 24]] := H23.on 0 rfl u24
                  refine WL.op rfl (d_assign rfl ?_)
                  refine WL.done (X.then_code ?_)
                  refine W.ret (X.block_ret (X.then_ret (X.retR2 rfl (rv_cellA [.int .u64 ((((notB (esc0 (c ||| 32))).w0).toNat : Nat) : Int), .int .u64 ((((notB (esc0 (c ||| 32))).w1).toNat : Nat) : Int), .int .u64 ((((notB (esc0 (c ||| 32))).w2).toNat : Nat) : Int), .int .u64 ((((notB (esc0 (c ||| 32))).w3).toNat : Nat) : Int)] Tryd.underlying24 rfl sz24 rfl (H24.blk 0 rfl) rfl rfl) (rv_tmp rfl) ?_)))
                  have e : escB c = (notB (esc0 (c ||| 32)), true) := by unfold escB; rw [if_neg (by omega), if_neg (by omega), if_neg (by omega), if_neg (by omega), if_pos (by omega)]
                  exact ⟨(by rw [e]), H24.noneL⟩
                · skip
                  exact absurd c77 c77x
              · skip
                refine W.seq ?_
                refine W.region ?_
                refine WL.op rfl (d_cmp (decide (((c : Nat) : Int) = (83 : Int))) rfl rfl rfl ?_)
                refine WL.op rfl (d_assign rfl ?_)
                refine WL.done (X.then_code ?_)
                refine W.ite (p := ((c : Nat) : Int) = (83 : Int)) rfl (fun c77x => ?_) (fun c77x => ?_)
                · skip
                  refine W.skip (X.then_code ?_)
                  refine W.ite (p := ((c : Nat) : Int) = (83 : Int)) rfl (fun c77xx => ?_) (fun c77xx => ?_)
                  · skip
                    refine W.seq ?_
                    refine W.region ?_
                    refine WL.op rfl (d_move rfl ?_)
                    refine WL.op rfl (d_or32 (m := c) (by omega) rfl rfl ?_)
                    refine WL.op rfl (d_call ok10 rfl (Ret.calls (esc0_any (c ||| 32) w1  (esc_low (by omega))) fun _ w25 p11 => ?_))
                    obtain ⟨rfl, u25⟩ := p11
                    have H25 : UpG w [] w25 [[blk w.heap.size #[.int .u64 ((Bs.zero.w0.toNat : Nat) : Int), .int .u64 ((Bs.zero.w1.toNat : Nat) : Int), .int .u64 ((Bs.zero.w2.toNat : Nat) : Int), .int .u64 ((Bs.zero.w3.toNat : Nat) : Int)] 24]] := H1.call u25
                    refine WL.op rfl (d_move rfl ?_)
                    refine WL.op rfl (d_extract rfl rfl ?_)
                    refine WL.op rfl (d_extract rfl rfl ?_)
                    refine WL.op rfl (d_alloc sz24 fun w26 u26 => ?_)
                    have H26 : UpG w [] w26 [[blk w.heap.size #[.int .u64 ((Bs.zero.w0.toNat : Nat) : Int), .int .u64 ((Bs.zero.w1.toNat : Nat) : Int), .int .u64 ((Bs.zero.w2.toNat : Nat) : Int), .int .u64 ((Bs.zero.w3.toNat : Nat) : Int)] 24], [blk w25.heap.size #[.int .u64 ((Bs.zero.w0.toNat : Nat) : Int), .int .u64 ((Bs.zero.w1.toNat : Nat) : Int), .int .u64 ((Bs.zero.w2.toNat : Nat) : Int), .int .u64 ((Bs.zero.w3.toNat : Nat) : Int)] 24]] := H25.new' u26
                    refine WL.op0 (d_storeAB (us := [.int .u64 ((((esc0 (c ||| 32)).w0).toNat : Nat) : Int), .int .u64 ((((esc0 (c ||| 32)).w1).toNat : Nat) : Int), .int .u64 ((((esc0 (c ||| 32)).w2).toNat : Nat) : Int), .int .u64 ((((esc0 (c ||| 32)).w3).toNat : Nat) : Int)]) (cs' := #[.int .u64 ((((esc0 (c ||| 32)).w0).toNat : Nat) : Int), .int .u64 ((((esc0 (c ||| 32)).w1).toNat : Nat) : Int), .int .u64 ((((esc0 (c ||| 32)).w2).toNat : Nat) : Int), .int .u64 ((((esc0 (c ||| 32)).w3).toNat : Nat) : Int)]) sz24 rfl rfl rfl rfl (H26.blk 1 rfl) rfl rfl fun w27 u27 => ?_)
                    have H27 : UpG w [] w27 [[blk w.heap.size #[.int .u64 ((Bs.zero.w0.toNat : Nat) : Int), .int .u64 ((Bs.zero.w1.toNat : Nat) : Int), .int .u64 ((Bs.zero.w2.toNat : Nat) : Int), .int .u64 ((Bs.zero.w3.toNat : Nat) : Int)] 24], [blk w25.heap.size #[.int .u64 ((((esc0 (c ||| 32)).w0).toNat : Nat) : Int), .int .u64 ((((esc0 (c ||| 32)).w1).toNat : Nat) : Int), .int .u64 ((((esc0 (c ||| 32)).w2).toNat : Nat) : Int), .int .u64 ((((esc0 (c ||| 32)).w3).toNat : Nat) : Int)] 24]] := H26.on 1 rfl u27
                    refine WL.op rfl (d_assign rfl ?_)
                    refine WL.done (X.then_code ?_)
                    refine W.seq ?_
                    refine W.region ?_
                    refine WL.op rfl (d_loadAB [.int .u64 ((((esc0 (c ||| 32)).w0).toNat : Nat) : Int), .int .u64 ((((esc0 (c ||| 32)).w1).toNat : Nat) : Int), .int .u64 ((((esc0 (c ||| 32)).w2).toNat : Nat) : Int), .int .u64 ((((esc0 (c ||| 32)).w3).toNat : Nat) : Int)] Tryd.underlying24 rfl sz24 rfl (H27.blk 1 rfl) rfl rfl ?_)
                    refine WL.op rfl (d_call ok28 rfl (Ret.calls (not_any (esc0 (c ||| 32)) w27  ) fun _ w28 p12 => ?_))
                    obtain ⟨rfl, u28⟩ := p12
                    have H28 : UpG w [] w28 [[blk w.heap.size #[.int .u64 ((Bs.zero.w0.toNat : Nat) : Int), .int .u64 ((Bs.zero.w1.toNat : Nat) : Int), .int .u64 ((Bs.zero.w2.toNat : Nat) : Int), .int .u64 ((Bs.zero.w3.toNat : Nat) : Int)] 24], [blk w25.heap.size #[.int .u64 ((((esc0 (c ||| 32)).w0).toNat : Nat) : Int), .int .u64 ((((esc0 (c ||| 32)).w1).toNat : Nat) : Int), .int .u64 ((((esc0 (c ||| 32)).w2).toNat : Nat) : Int), .int .u64 ((((esc0 (c ||| 32)).w3).toNat : Nat) : Int)] 24]] := H27.call u28
                    refine WL.op0 (d_storeAB (us := [.int .u64 ((((notB (esc0 (c ||| 32))).w0).toNat : Nat) : Int), .int .u64 ((((notB (esc0 (c ||| 32))).w1).toNat : Nat) : Int), .int .u64 ((((notB (esc0 (c ||| 32))).w2).toNat : Nat) : Int), .int .u64 ((((notB (esc0 (c ||| 32))).w3).toNat : Nat) : Int)]) (cs' := #[.int .u64 ((((notB (esc0 (c ||| 32))).w0).toNat : Nat) : Int), .int .u64 ((((notB (esc0 (c ||| 32))).w1).toNat : Nat) : Int), .int .u64 ((((notB (esc0 (c ||| 32))).w2).toNat : Nat) : Int), .int .u64 ((((notB (esc0 (c ||| 32))).w3).toNat : Nat) : Int)]) sz24 rfl rfl rfl rfl (H28.blk 0 rfl) rfl rfl fun w29 u29 => ?_)
                    have H29 : UpG w [] w29 [[blk w.heap.size #[.int .u64 ((((notB (esc0 (c ||| 32))).w0).toNat : Nat) : Int), .int .u64 ((((notB (esc0 (c ||| 32))).w1).toNat : Nat) : Int), .int .u64 ((((notB (esc0 (c ||| 32))).w2).toNat : Nat) : Int), .int .u64 ((((notB (esc0 (c ||| 32))).w3).toNat : Nat) : Int)] 24], [blk w25.heap.size #[.int .u64 ((((esc0 (c ||| 32)).w0).toNat : Nat) : Int), .int .u64 ((((esc0 (c ||| 32)).w1).toNat : Nat) : Int), .int .u64 ((((esc0 (c ||| 32)).w2).toNat : Nat) : Int), .int .u64 ((((esc0 (c ||| 32)).w3).toNat : Nat) : Int)] 24]] := H28.on 0 rfl u29
                    refine WL.op rfl (d_assign rfl ?_)
                    refine WL.done (X.then_code ?_)
                    refine W.ret (X.block_ret (X.then_ret (X.retR2 rfl (rv_cellA [.int .u64 ((((notB (esc0 (c ||| 32))).w0).toNat : Nat) : Int), .int .u64 ((((notB (esc0 (c ||| 32))).w1).toNat : Nat) : Int), .int .u64 ((((notB (esc0 (c ||| 32))).w2).toNat : Nat) : Int), .int .u64 ((((notB (esc0 (c ||| 32))).w3).toNat : Nat) : Int)] Tryd.underlying24 rfl sz24 rfl (H29.blk 0 rfl) rfl rfl) (rv_tmp rfl) ?_)))
                    have e : escB c = (notB (esc0 (c ||| 32)), true) := by unfold escB; rw [if_neg (by omega), if_neg (by omega), if_neg (by omega), if_neg (by omega), if_pos (by omega)]
                    exact ⟨(by rw [e]), H29.noneL⟩
                  · skip
                    exact absurd c77x c77xx
                · skip
                  refine W.region ?_
                  refine WL.op rfl (d_cmp (decide (((c : Nat) : Int) = (87 : Int))) rfl rfl rfl ?_)
                  refine WL.op rfl (d_assign rfl ?_)
                  refine WL.done (X.then_code ?_)
                  refine W.ite (p := ((c : Nat) : Int) = (87 : Int)) rfl (fun c77xx => ?_) (fun c77xx => ?_)
                  · skip
                    refine W.seq ?_
                    refine W.region ?_
                    refine WL.op rfl (d_move rfl ?_)
                    refine WL.op rfl (d_or32 (m := c) (by omega) rfl rfl ?_)
                    refine WL.op rfl (d_call ok10 rfl (Ret.calls (esc0_any (c ||| 32) w1  (esc_low (by omega))) fun _ w30 p13 => ?_))
                    obtain ⟨rfl, u30⟩ := p13
                    have H30 : UpG w [] w30 [[blk w.heap.size #[.int .u64 ((Bs.zero.w0.toNat : Nat) : Int), .int .u64 ((Bs.zero.w1.toNat : Nat) : Int), .int .u64 ((Bs.zero.w2.toNat : Nat) : Int), .int .u64 ((Bs.zero.w3.toNat : Nat) : Int)] 24]] := H1.call u30
                    refine WL.op rfl (d_move rfl ?_)
                    refine WL.op rfl (d_extract rfl rfl ?_)
                    refine WL.op rfl (d_extract rfl rfl ?_)
                    refine WL.op rfl (d_alloc sz24 fun w31 u31 => ?_)
                    have H31 : UpG w [] w31 [[blk w.heap.size #[.int .u64 ((Bs.zero.w0.toNat : Nat) : Int), .int .u64 ((Bs.zero.w1.toNat : Nat) : Int), .int .u64 ((Bs.zero.w2.toNat : Nat) : Int), .int .u64 ((Bs.zero.w3.toNat : Nat) : Int)] 24], [blk w30.heap.size #[.int .u64 ((Bs.zero.w0.toNat : Nat) : Int), .int .u64 ((Bs.zero.w1.toNat : Nat) : Int), .int .u64 ((Bs.zero.w2.toNat : Nat) : Int), .int .u64 ((Bs.zero.w3.toNat : Nat) : Int)] 24]] := H30.new' u31
                    refine WL.op0 (d_storeAB (us := [.int .u64 ((((esc0 (c ||| 32)).w0).toNat : Nat) : Int), .int .u64 ((((esc0 (c ||| 32)).w1).toNat : Nat) : Int), .int .u64 ((((esc0 (c ||| 32)).w2).toNat : Nat) : Int), .int .u64 ((((esc0 (c ||| 32)).w3).toNat : Nat) : Int)]) (cs' := #[.int .u64 ((((esc0 (c ||| 32)).w0).toNat : Nat) : Int), .int .u64 ((((esc0 (c ||| 32)).w1).toNat : Nat) : Int), .int .u64 ((((esc0 (c ||| 32)).w2).toNat : Nat) : Int), .int .u64 ((((esc0 (c ||| 32)).w3).toNat : Nat) : Int)]) sz24 rfl rfl rfl rfl (H31.blk 1 rfl) rfl rfl fun w32 u32 => ?_)
                    have H32 : UpG w [] w32 [[blk w.heap.size #[.int .u64 ((Bs.zero.w0.toNat : Nat) : Int), .int .u64 ((Bs.zero.w1.toNat : Nat) : Int), .int .u64 ((Bs.zero.w2.toNat : Nat) : Int), .int .u64 ((Bs.zero.w3.toNat : Nat) : Int)] 24], [blk w30.heap.size #[.int .u64 ((((esc0 (c ||| 32)).w0).toNat : Nat) : Int), .int .u64 ((((esc0 (c ||| 32)).w1).toNat : Nat) : Int), .int .u64 ((((esc0 (c ||| 32)).w2).toNat : Nat) : Int), .int .u64 ((((esc0 (c ||| 32)).w3).toNat : Nat) : Int)] 24]] := H31.on 1 rfl u32
                    refine WL.op rfl (d_assign rfl ?_)
                    refine WL.done (X.then_code ?_)
                    refine W.seq ?_
                    refine W.region ?_
                    refine WL.op rfl (d_loadAB [.int .u64 ((((esc0 (c ||| 32)).w0).toNat : Nat) : Int), .int .u64 ((((esc0 (c ||| 32)).w1).toNat : Nat) : Int), .int .u64 ((((esc0 (c ||| 32)).w2).toNat : Nat) : Int), .int .u64 ((((esc0 (c ||| 32)).w3).toNat : Nat) : Int)] Tryd.underlying24 rfl sz24 rfl (H32.blk 1 rfl) rfl rfl ?_)
                    refine WL.op rfl (d_call ok28 rfl (Ret.calls (not_any (esc0 (c ||| 32)) w32  ) fun _ w33 p14 => ?_))
                    obtain ⟨rfl, u33⟩ := p14
                    have H33 : UpG w [] w33 [[blk w.heap.size #[.int .u64 ((Bs.zero.w0.toNat : Nat) : Int), .int .u64 ((Bs.zero.w1.toNat : Nat) : Int), .int .u64 ((Bs.zero.w2.toNat : Nat) : Int), .int .u64 ((Bs.zero.w3.toNat : Nat) : Int)] 24], [blk w30.heap.size #[.int .u64 ((((esc0 (c ||| 32)).w0).toNat : Nat) : Int), .int .u64 ((((esc0 (c ||| 32)).w1).toNat : Nat) : Int), .int .u64 ((((esc0 (c ||| 32)).w2).toNat : Nat) : Int), .int .u64 ((((esc0 (c ||| 32)).w3).toNat : Nat) : Int)] 24]] := H32.call u33
                    refine WL.op0 (d_storeAB (us := [.int .u64 ((((notB (esc0 (c ||| 32))).w0).toNat : Nat) : Int), .int .u64 ((((notB (esc0 (c ||| 32))).w1).toNat : Nat) : Int), .int .u64 ((((notB (esc0 (c ||| 32))).w2).toNat : Nat) : Int), .int .u64 ((((notB (esc0 (c ||| 32))).w3).toNat : Nat) : Int)]) (cs' := #[.int .u64 ((((notB (esc0 (c ||| 32))).w0).toNat : Nat) : Int), .int .u64 ((((notB (esc0 (c ||| 32))).w1).toNat : Nat) : Int), .int .u64 ((((notB (esc0 (c ||| 32))).w2).toNat : Nat) : Int), .int .u64 ((((notB (esc0 (c ||| 32))).w3).toNat : Nat) : Int)]) sz24 rfl rfl rfl rfl (H33.blk 0 rfl) rfl rfl fun w34 u34 => ?_)
                    have H34 : UpG w [] w34 [[blk w.heap.size #[.int .u64 ((((notB (esc0 (c ||| 32))).w0).toNat : Nat) : Int), .int .u64 ((((notB (esc0 (c ||| 32))).w1).toNat : Nat) : Int), .int .u64 ((((notB (esc0 (c ||| 32))).w2).toNat : Nat) : Int), .int .u64 ((((notB (esc0 (c ||| 32))).w3).toNat : Nat) : Int)] 24], [blk w30.heap.size #[.int .u64 ((((esc0 (c ||| 32)).w0).toNat : Nat) : Int), .int .u64 ((((esc0 (c ||| 32)).w1).toNat : Nat) : Int), .int .u64 ((((esc0 (c ||| 32)).w2).toNat : Nat) : Int), .int .u64 ((((esc0 (c ||| 32)).w3).toNat : Nat) : Int)] 24]] := H33.on 0 rfl u34
                    refine WL.op rfl (d_assign rfl ?_)
                    refine WL.done (X.then_code ?_)
                    refine W.ret (X.block_ret (X.then_ret (X.retR2 rfl (rv_cellA [.int .u64 ((((notB (esc0 (c ||| 32))).w0).toNat : Nat) : Int), .int .u64 ((((notB (esc0 (c ||| 32))).w1).toNat : Nat) : Int), .int .u64 ((((notB (esc0 (c ||| 32))).w2).toNat : Nat) : Int), .int .u64 ((((notB (esc0 (c ||| 32))).w3).toNat : Nat) : Int)] Tryd.underlying24 rfl sz24 rfl (H34.blk 0 rfl) rfl rfl) (rv_tmp rfl) ?_)))
                    have e : escB c = (notB (esc0 (c ||| 32)), true) := by unfold escB; rw [if_neg (by omega), if_neg (by omega), if_neg (by omega), if_neg (by omega), if_pos (by omega)]
                    exact ⟨(by rw [e]), H34.noneL⟩
                  · skip
                    refine W.skip (X.block_normal (X.then_code ?_))
                    refine W.seq ?_
                    refine W.seq ?_
                    refine W.region ?_
                    refine WL.op rfl (d_call ok20 rfl (Ret.calls (of2_any ⟨#[97, 108, 110, 117, 109]⟩ w1  ) fun _ w35 p15 => ?_))
                    obtain ⟨rfl, u35⟩ := p15
                    have H35 : UpG w [] w35 [[blk w.heap.size #[.int .u64 ((Bs.zero.w0.toNat : Nat) : Int), .int .u64 ((Bs.zero.w1.toNat : Nat) : Int), .int .u64 ((Bs.zero.w2.toNat : Nat) : Int), .int .u64 ((Bs.zero.w3.toNat : Nat) : Int)] 24]] := H1.call u35
                    refine WL.op rfl (d_move rfl ?_)
                    refine WL.op rfl (d_call ok12 rfl (Ret.calls (has_any (classB ⟨#[97, 108, 110, 117, 109]⟩) c w35  (by omega)) fun _ w36 p16 => ?_))
                    obtain ⟨rfl, u36⟩ := p16
                    have H36 : UpG w [] w36 [[blk w.heap.size #[.int .u64 ((Bs.zero.w0.toNat : Nat) : Int), .int .u64 ((Bs.zero.w1.toNat : Nat) : Int), .int .u64 ((Bs.zero.w2.toNat : Nat) : Int), .int .u64 ((Bs.zero.w3.toNat : Nat) : Int)] 24]] := H35.call u36
                    refine WL.done (X.then_code ?_)
                    refine W.iteB (b := (classB ⟨#[97, 108, 110, 117, 109]⟩).has c) rfl (fun c81 => ?_) (fun c81 => ?_)
                    · skip
                      refine W.seq ?_
                      refine W.region ?_
                      refine WL.op rfl (d_build (cs := #[.int .u64 ((Bs.zero.w0.toNat : Nat) : Int), .int .u64 ((Bs.zero.w1.toNat : Nat) : Int), .int .u64 ((Bs.zero.w2.toNat : Nat) : Int), .int .u64 ((Bs.zero.w3.toNat : Nat) : Int)]) rfl (by kernel_rfl) ?_)
                      refine WL.op0 (d_storeAB (us := [.int .u64 ((Bs.zero.w0.toNat : Nat) : Int), .int .u64 ((Bs.zero.w1.toNat : Nat) : Int), .int .u64 ((Bs.zero.w2.toNat : Nat) : Int), .int .u64 ((Bs.zero.w3.toNat : Nat) : Int)]) (cs' := #[.int .u64 ((Bs.zero.w0.toNat : Nat) : Int), .int .u64 ((Bs.zero.w1.toNat : Nat) : Int), .int .u64 ((Bs.zero.w2.toNat : Nat) : Int), .int .u64 ((Bs.zero.w3.toNat : Nat) : Int)]) sz24 rfl rfl rfl rfl (H36.blk 0 rfl) rfl rfl fun w37 u37 => ?_)
                      have H37 : UpG w [] w37 [[blk w.heap.size #[.int .u64 ((Bs.zero.w0.toNat : Nat) : Int), .int .u64 ((Bs.zero.w1.toNat : Nat) : Int), .int .u64 ((Bs.zero.w2.toNat : Nat) : Int), .int .u64 ((Bs.zero.w3.toNat : Nat) : Int)] 24]] := H36.on 0 rfl u37
                      refine WL.op rfl (d_assign rfl ?_)
                      refine WL.done (X.then_code ?_)
                      refine W.ret (X.then_ret (X.retR2 rfl (rv_cellA [.int .u64 ((Bs.zero.w0.toNat : Nat) : Int), .int .u64 ((Bs.zero.w1.toNat : Nat) : Int), .int .u64 ((Bs.zero.w2.toNat : Nat) : Int), .int .u64 ((Bs.zero.w3.toNat : Nat) : Int)] Tryd.underlying24 rfl sz24 rfl (H37.blk 0 rfl) rfl rfl) (rv_tmp rfl) ?_))
                      have e : escB c = (Bs.zero, false) := by unfold escB; rw [if_neg (by omega), if_neg (by omega), if_neg (by omega), if_neg (by omega), if_neg (by omega), if_pos c81]
                      exact ⟨(by rw [e]), H37.noneL⟩
                    · skip
                      refine W.skip (X.then_code ?_)
                      refine W.seq ?_
                      refine W.region ?_
                      refine WL.op rfl (d_move rfl ?_)
                      refine WL.op rfl (t_buildSlice (T := tyN8) (xs := [c]) (cs := #[.int .u8 ((c : Nat) : Int)]) rfl Tryd.underlying41 sz5 rfl rfl rfl rfl (by kernel_rfl) rfl rfl fun w38 u38 => ?_)
                      have H38 : UpG w [] w38 [[blk w.heap.size #[.int .u64 ((Bs.zero.w0.toNat : Nat) : Int), .int .u64 ((Bs.zero.w1.toNat : Nat) : Int), .int .u64 ((Bs.zero.w2.toNat : Nat) : Int), .int .u64 ((Bs.zero.w3.toNat : Nat) : Int)] 24], [rowT tyN8 (.slice (some ⟨w36.heap.size, 0, none⟩) ([c].length) ([c].length)) 5 [c]]] := H36.new' u38
                      refine WL.op rfl (d_call ok18 rfl (Ret.calls (of_any (some ⟨w36.heap.size, 0, none⟩) [c] ([c].length) ([c].length) w38 (H38.rdT 1 rfl) (by intro c hc; simp at hc; omega)) fun _ w39 p17 => ?_))
                      obtain ⟨rfl, u39⟩ := p17
                      have H39 : UpG w [] w39 [[blk w.heap.size #[.int .u64 ((Bs.zero.w0.toNat : Nat) : Int), .int .u64 ((Bs.zero.w1.toNat : Nat) : Int), .int .u64 ((Bs.zero.w2.toNat : Nat) : Int), .int .u64 ((Bs.zero.w3.toNat : Nat) : Int)] 24], [rowT tyN8 (.slice (some ⟨w36.heap.size, 0, none⟩) ([c].length) ([c].length)) 5 [c]]] := H38.call u39
                      refine WL.op0 (d_storeAB (us := [.int .u64 ((((ofS [c]).w0).toNat : Nat) : Int), .int .u64 ((((ofS [c]).w1).toNat : Nat) : Int), .int .u64 ((((ofS [c]).w2).toNat : Nat) : Int), .int .u64 ((((ofS [c]).w3).toNat : Nat) : Int)]) (cs' := #[.int .u64 ((((ofS [c]).w0).toNat : Nat) : Int), .int .u64 ((((ofS [c]).w1).toNat : Nat) : Int), .int .u64 ((((ofS [c]).w2).toNat : Nat) : Int), .int .u64 ((((ofS [c]).w3).toNat : Nat) : Int)]) sz24 rfl rfl rfl rfl (H39.blk 0 rfl) rfl rfl fun w40 u40 => ?_)
                      have H40 : UpG w [] w40 [[blk w.heap.size #[.int .u64 ((((ofS [c]).w0).toNat : Nat) : Int), .int .u64 ((((ofS [c]).w1).toNat : Nat) : Int), .int .u64 ((((ofS [c]).w2).toNat : Nat) : Int), .int .u64 ((((ofS [c]).w3).toNat : Nat) : Int)] 24], [rowT tyN8 (.slice (some ⟨w36.heap.size, 0, none⟩) ([c].length) ([c].length)) 5 [c]]] := H39.on 0 rfl u40
                      refine WL.op rfl (d_assign rfl ?_)
                      refine WL.done (X.then_code ?_)
                      refine W.ret (X.retR2 rfl (rv_cellA [.int .u64 ((((ofS [c]).w0).toNat : Nat) : Int), .int .u64 ((((ofS [c]).w1).toNat : Nat) : Int), .int .u64 ((((ofS [c]).w2).toNat : Nat) : Int), .int .u64 ((((ofS [c]).w3).toNat : Nat) : Int)] Tryd.underlying24 rfl sz24 rfl (H40.blk 0 rfl) rfl rfl) (rv_tmp rfl) ?_)
                      have e : escB c = (ofS [c], true) := by unfold escB; rw [if_neg (by omega), if_neg (by omega), if_neg (by omega), if_neg (by omega), if_neg (by omega), if_neg c81]
                      exact ⟨(by rw [e]), H40.noneL⟩

set_option maxRecDepth 20000 in
theorem fold_any (s : Bs) (w : World) (rT : RdT tyN8 w (.slice (some ⟨0, 0, none⟩) deB.length 64) deB) :
    Calls Tryd.prog 7 #[.agg #[.int .u64 ((s.w0.toNat : Nat) : Int), .int .u64 ((s.w1.toNat : Nat) : Int), .int .u64 ((s.w2.toNat : Nat) : Int), .int .u64 ((s.w3.toNat : Nat) : Int)]] w (Ret fun v w' => v = .agg #[.int .u64 ((((foldB s).w0).toNat : Nat) : Int), .int .u64 ((((foldB s).w1).toNat : Nat) : Int), .int .u64 ((((foldB s).w2).toNat : Nat) : Int), .int .u64 ((((foldB s).w3).toNat : Nat) : Int)] ∧ Upd w [] w' []) := by
  have le_rT := rT.le
  refine calls_of_W (args := [.agg #[.int .u64 ((s.w0.toNat : Nat) : Int), .int .u64 ((s.w1.toNat : Nat) : Int), .int .u64 ((s.w2.toNat : Nat) : Int), .int .u64 ((s.w3.toNat : Nat) : Int)]]) Tryd.func7 rfl rfl rfl ?_
  have H0 : UpG w [] w [] := UpG.nil w
  show W _ _ _ _ [(0, .agg #[.int .u64 ((s.w0.toNat : Nat) : Int), .int .u64 ((s.w1.toNat : Nat) : Int), .int .u64 ((s.w2.toNat : Nat) : Int), .int .u64 ((s.w3.toNat : Nat) : Int)])] w
  refine W.seq ?_
  refine W.region ?_
  refine WL.op rfl (d_box rfl fun w1 u1 => ?_)
  have H1 : UpG w [] w1 [[blk w.heap.size #[.int .u64 ((s.w0.toNat : Nat) : Int), .int .u64 ((s.w1.toNat : Nat) : Int), .int .u64 ((s.w2.toNat : Nat) : Int), .int .u64 ((s.w3.toNat : Nat) : Int)] 24]] := H0.new' u1
  refine WL.op rfl (d_alloc sz24 fun w2 u2 => ?_)
  have H2 : UpG w [] w2 [[blk w.heap.size #[.int .u64 ((s.w0.toNat : Nat) : Int), .int .u64 ((s.w1.toNat : Nat) : Int), .int .u64 ((s.w2.toNat : Nat) : Int), .int .u64 ((s.w3.toNat : Nat) : Int)] 24], [blk w1.heap.size #[.int .u64 ((Bs.zero.w0.toNat : Nat) : Int), .int .u64 ((Bs.zero.w1.toNat : Nat) : Int), .int .u64 ((Bs.zero.w2.toNat : Nat) : Int), .int .u64 ((Bs.zero.w3.toNat : Nat) : Int)] 24]] := H1.new' u2
  refine WL.done (X.then_code ?_)
  refine W.seq ?_
  refine W.region ?_
  refine WL.op rfl (d_loadAB [.int .u64 ((s.w0.toNat : Nat) : Int), .int .u64 ((s.w1.toNat : Nat) : Int), .int .u64 ((s.w2.toNat : Nat) : Int), .int .u64 ((s.w3.toNat : Nat) : Int)] Tryd.underlying24 rfl sz24 rfl (H2.blk 0 rfl) rfl rfl ?_)
  refine WL.op rfl (d_alloc sz24 fun w3 u3 => ?_)
  have H3 : UpG w [] w3 [[blk w.heap.size #[.int .u64 ((s.w0.toNat : Nat) : Int), .int .u64 ((s.w1.toNat : Nat) : Int), .int .u64 ((s.w2.toNat : Nat) : Int), .int .u64 ((s.w3.toNat : Nat) : Int)] 24], [blk w1.heap.size #[.int .u64 ((Bs.zero.w0.toNat : Nat) : Int), .int .u64 ((Bs.zero.w1.toNat : Nat) : Int), .int .u64 ((Bs.zero.w2.toNat : Nat) : Int), .int .u64 ((Bs.zero.w3.toNat : Nat) : Int)] 24], [blk w2.heap.size #[.int .u64 ((Bs.zero.w0.toNat : Nat) : Int), .int .u64 ((Bs.zero.w1.toNat : Nat) : Int), .int .u64 ((Bs.zero.w2.toNat : Nat) : Int), .int .u64 ((Bs.zero.w3.toNat : Nat) : Int)] 24]] := H2.new' u3
  refine WL.op0 (d_storeAB (us := [.int .u64 ((s.w0.toNat : Nat) : Int), .int .u64 ((s.w1.toNat : Nat) : Int), .int .u64 ((s.w2.toNat : Nat) : Int), .int .u64 ((s.w3.toNat : Nat) : Int)]) (cs' := #[.int .u64 ((s.w0.toNat : Nat) : Int), .int .u64 ((s.w1.toNat : Nat) : Int), .int .u64 ((s.w2.toNat : Nat) : Int), .int .u64 ((s.w3.toNat : Nat) : Int)]) sz24 rfl rfl rfl rfl (H3.blk 2 rfl) rfl rfl fun w4 u4 => ?_)
  have H4 : UpG w [] w4 [[blk w.heap.size #[.int .u64 ((s.w0.toNat : Nat) : Int), .int .u64 ((s.w1.toNat : Nat) : Int), .int .u64 ((s.w2.toNat : Nat) : Int), .int .u64 ((s.w3.toNat : Nat) : Int)] 24], [blk w1.heap.size #[.int .u64 ((Bs.zero.w0.toNat : Nat) : Int), .int .u64 ((Bs.zero.w1.toNat : Nat) : Int), .int .u64 ((Bs.zero.w2.toNat : Nat) : Int), .int .u64 ((Bs.zero.w3.toNat : Nat) : Int)] 24], [blk w2.heap.size #[.int .u64 ((s.w0.toNat : Nat) : Int), .int .u64 ((s.w1.toNat : Nat) : Int), .int .u64 ((s.w2.toNat : Nat) : Int), .int .u64 ((s.w3.toNat : Nat) : Int)] 24]] := H3.on 2 rfl u4
  refine WL.done (X.then_code ?_)
  refine W.seq ?_
  refine W.seq ?_
  refine W.regionD mixed (by kernel_rfl) fun hok1 w5 k1 => ?_
  have H5 : UpG w [] w5 [[blk w.heap.size #[.int .u64 ((s.w0.toNat : Nat) : Int), .int .u64 ((s.w1.toNat : Nat) : Int), .int .u64 ((s.w2.toNat : Nat) : Int), .int .u64 ((s.w3.toNat : Nat) : Int)] 24], [blk w1.heap.size #[.int .u64 ((Bs.zero.w0.toNat : Nat) : Int), .int .u64 ((Bs.zero.w1.toNat : Nat) : Int), .int .u64 ((Bs.zero.w2.toNat : Nat) : Int), .int .u64 ((Bs.zero.w3.toNat : Nat) : Int)] 24], [blk w2.heap.size #[.int .u64 ((s.w0.toNat : Nat) : Int), .int .u64 ((s.w1.toNat : Nat) : Int), .int .u64 ((s.w2.toNat : Nat) : Int), .int .u64 ((s.w3.toNat : Nat) : Int)] 24]] := H4.kept k1
  refine WD.take hok1 0 (.agg #[.int .u64 ((s.w0.toNat : Nat) : Int), .int .u64 ((s.w1.toNat : Nat) : Int), .int .u64 ((s.w2.toNat : Nat) : Int), .int .u64 ((s.w3.toNat : Nat) : Int)]) (fun w' => w'.heap[w.heap.size]? = some (.cells #[.int .u64 ((s.w0.toNat : Nat) : Int), .int .u64 ((s.w1.toNat : Nat) : Int), .int .u64 ((s.w2.toNat : Nat) : Int), .int .u64 ((s.w3.toNat : Nat) : Int)] 24 (0, 0))) rfl rfl rfl rfl rfl (H5.blk 0 rfl) (.inl ⟨rfl, fun _ hC => d_loadAB [.int .u64 ((s.w0.toNat : Nat) : Int), .int .u64 ((s.w1.toNat : Nat) : Int), .int .u64 ((s.w2.toNat : Nat) : Int), .int .u64 ((s.w3.toNat : Nat) : Int)] Tryd.underlying24 rfl sz24 rfl hC rfl rfl ⟨rfl, rfl⟩⟩) ?_
  refine WD.take hok1 5 (.int .i64 0) (fun _ => True) rfl rfl rfl rfl rfl trivial (.inl ⟨rfl, fun _ _ => d_move rfl ⟨rfl, rfl⟩⟩) ?_
  refine WD.loud hok1 1 rfl (⟨_, [⟨5, .int .i64 0, (fun _ => True)⟩, ⟨0, .agg #[.int .u64 ((s.w0.toNat : Nat) : Int), .int .u64 ((s.w1.toNat : Nat) : Int), .int .u64 ((s.w2.toNat : Nat) : Int), .int .u64 ((s.w3.toNat : Nat) : Int)], (fun w' => w'.heap[w.heap.size]? = some (.cells #[.int .u64 ((s.w0.toNat : Nat) : Int), .int .u64 ((s.w1.toNat : Nat) : Int), .int .u64 ((s.w2.toNat : Nat) : Int), .int .u64 ((s.w3.toNat : Nat) : Int)] 24 (0, 0)))⟩], rfl, rfl, rfl, rfl, rfl, rfl, d_call ok20 rfl (Ret.calls (of2_any ⟨#[97, 108, 112, 104, 97]⟩ w5  ) fun _ w6 p1 => ?_)⟩)
  obtain ⟨rfl, u5⟩ := p1
  have H6 : UpG w [] w6 [[blk w.heap.size #[.int .u64 ((s.w0.toNat : Nat) : Int), .int .u64 ((s.w1.toNat : Nat) : Int), .int .u64 ((s.w2.toNat : Nat) : Int), .int .u64 ((s.w3.toNat : Nat) : Int)] 24], [blk w1.heap.size #[.int .u64 ((Bs.zero.w0.toNat : Nat) : Int), .int .u64 ((Bs.zero.w1.toNat : Nat) : Int), .int .u64 ((Bs.zero.w2.toNat : Nat) : Int), .int .u64 ((Bs.zero.w3.toNat : Nat) : Int)] 24], [blk w2.heap.size #[.int .u64 ((s.w0.toNat : Nat) : Int), .int .u64 ((s.w1.toNat : Nat) : Int), .int .u64 ((s.w2.toNat : Nat) : Int), .int .u64 ((s.w3.toNat : Nat) : Int)] 24]] := H5.call u5
  refine ⟨⟨trivial, (H6.blk 0 rfl), trivial⟩, ?_⟩
  refine WD.loud hok1 2 rfl (⟨_, [⟨5, .int .i64 0, (fun _ => True)⟩], rfl, rfl, rfl, rfl, rfl, rfl, d_call ok9 rfl (Ret.calls (and_any s (classB ⟨#[97, 108, 112, 104, 97]⟩) w6  ) fun _ w7 p2 => ?_)⟩)
  obtain ⟨rfl, u6⟩ := p2
  have H7 : UpG w [] w7 [[blk w.heap.size #[.int .u64 ((s.w0.toNat : Nat) : Int), .int .u64 ((s.w1.toNat : Nat) : Int), .int .u64 ((s.w2.toNat : Nat) : Int), .int .u64 ((s.w3.toNat : Nat) : Int)] 24], [blk w1.heap.size #[.int .u64 ((Bs.zero.w0.toNat : Nat) : Int), .int .u64 ((Bs.zero.w1.toNat : Nat) : Int), .int .u64 ((Bs.zero.w2.toNat : Nat) : Int), .int .u64 ((Bs.zero.w3.toNat : Nat) : Int)] 24], [blk w2.heap.size #[.int .u64 ((s.w0.toNat : Nat) : Int), .int .u64 ((s.w1.toNat : Nat) : Int), .int .u64 ((s.w2.toNat : Nat) : Int), .int .u64 ((s.w3.toNat : Nat) : Int)] 24]] := H6.call u6
  refine ⟨⟨trivial, trivial⟩, ?_⟩
  refine WD.loud hok1 3 rfl (⟨_, [⟨5, .int .i64 0, (fun _ => True)⟩], rfl, rfl, rfl, rfl, rfl, rfl, d_call ok19 rfl (Ret.calls (bytes_any (andB s (classB ⟨#[97, 108, 112, 104, 97]⟩)) w7 (rT.at H7) ) fun _ w8 p3 => ?_)⟩)
  obtain ⟨a2_1, c2_1, rfl, u7⟩ := p3
  have H8 : UpG w [] w8 [[blk w.heap.size #[.int .u64 ((s.w0.toNat : Nat) : Int), .int .u64 ((s.w1.toNat : Nat) : Int), .int .u64 ((s.w2.toNat : Nat) : Int), .int .u64 ((s.w3.toNat : Nat) : Int)] 24], [blk w1.heap.size #[.int .u64 ((Bs.zero.w0.toNat : Nat) : Int), .int .u64 ((Bs.zero.w1.toNat : Nat) : Int), .int .u64 ((Bs.zero.w2.toNat : Nat) : Int), .int .u64 ((Bs.zero.w3.toNat : Nat) : Int)] 24], [blk w2.heap.size #[.int .u64 ((s.w0.toNat : Nat) : Int), .int .u64 ((s.w1.toNat : Nat) : Int), .int .u64 ((s.w2.toNat : Nat) : Int), .int .u64 ((s.w3.toNat : Nat) : Int)] 24], [rowT tyN8 (.slice a2_1 ((bytesB (andB s (classB ⟨#[97, 108, 112, 104, 97]⟩))).length) c2_1) 5 (bytesB (andB s (classB ⟨#[97, 108, 112, 104, 97]⟩)))]] := (H7.new' u7).re rfl
  refine ⟨⟨trivial, trivial⟩, ?_⟩
  refine WD.take hok1 4 (.int .i64 (((bytesB (andB s (classB ⟨#[97, 108, 112, 104, 97]⟩))).length : Nat) : Int)) (fun _ => True) rfl rfl rfl rfl rfl trivial (.inl ⟨rfl, fun _ _ => d_lenS Tryd.underlying41 rfl ⟨rfl, rfl⟩⟩) ?_
  refine WD.done hok1 rfl (X.then_code ?_)
  refine W.block ?_
  refine W.pick [11, 10, 12, 3, 2] (Γ' := [(11, .int .i64 (((bytesB (andB s (classB ⟨#[97, 108, 112, 104, 97]⟩))).length : Nat) : Int)), (10, .slice a2_1 ((bytesB (andB s (classB ⟨#[97, 108, 112, 104, 97]⟩))).length) c2_1), (12, .int .i64 0), (3, .pointer (some ⟨w2.heap.size, 0, none⟩)), (2, .pointer (some ⟨w1.heap.size, 0, none⟩))]) rfl ?_
  refine W.loop (fun m Γ' w' => ∃ k : Nat, ∃ r : Bs, Γ' = [(11, .int .i64 (((bytesB (andB s (classB ⟨#[97, 108, 112, 104, 97]⟩))).length : Nat) : Int)), (10, .slice a2_1 ((bytesB (andB s (classB ⟨#[97, 108, 112, 104, 97]⟩))).length) c2_1), (12, .int .i64 ((k : Nat) : Int)), (3, .pointer (some ⟨w2.heap.size, 0, none⟩)), (2, .pointer (some ⟨w1.heap.size, 0, none⟩))] ∧ UpG w [] w' [[blk w.heap.size #[.int .u64 ((s.w0.toNat : Nat) : Int), .int .u64 ((s.w1.toNat : Nat) : Int), .int .u64 ((s.w2.toNat : Nat) : Int), .int .u64 ((s.w3.toNat : Nat) : Int)] 24], [blk w1.heap.size #[.int .u64 ((Bs.zero.w0.toNat : Nat) : Int), .int .u64 ((Bs.zero.w1.toNat : Nat) : Int), .int .u64 ((Bs.zero.w2.toNat : Nat) : Int), .int .u64 ((Bs.zero.w3.toNat : Nat) : Int)] 24], [blk w2.heap.size #[.int .u64 ((r.w0.toNat : Nat) : Int), .int .u64 ((r.w1.toNat : Nat) : Int), .int .u64 ((r.w2.toNat : Nat) : Int), .int .u64 ((r.w3.toNat : Nat) : Int)] 24], [rowT tyN8 (.slice a2_1 ((bytesB (andB s (classB ⟨#[97, 108, 112, 104, 97]⟩))).length) c2_1) 5 (bytesB (andB s (classB ⟨#[97, 108, 112, 104, 97]⟩)))]] ∧ (k ≤ (bytesB (andB s (classB ⟨#[97, 108, 112, 104, 97]⟩))).length) ∧ (r = ((bytesB (andB s (classB ⟨#[97, 108, 112, 104, 97]⟩))).take k).foldl (fun o b => orB o (ofS [b ^^^ 32])) s) ∧ m = (bytesB (andB s (classB ⟨#[97, 108, 112, 104, 97]⟩))).length - k) ((bytesB (andB s (classB ⟨#[97, 108, 112, 104, 97]⟩))).length - 0) ⟨0, s, rfl, H8, (by first | assumption | omega | simp), (by rfl), rfl⟩ ?_
  rintro m1 Γ1 w9 ⟨k, r, rfl, H9, hk, hr, rfl⟩
  have hlen : (bytesB (andB s (classB ⟨#[97, 108, 112, 104, 97]⟩))).length ≤ 256 := bytesB_len _
  refine W.seq ?_
  refine W.region ?_
  refine WL.op rfl (d_cmp (decide (((k : Nat) : Int) < (((bytesB (andB s (classB ⟨#[97, 108, 112, 104, 97]⟩))).length : Nat) : Int))) rfl rfl rfl ?_)
  refine WL.done (X.then_code ?_)
  refine W.seq ?_
  refine W.ite (p := ((k : Nat) : Int) < (((bytesB (andB s (classB ⟨#[97, 108, 112, 104, 97]⟩))).length : Nat) : Int)) rfl (fun c93 => ?_) (fun c93 => ?_)
  · skip
    refine W.skip (X.then_code ?_)
    refine W.seq ?_
    refine W.block ?_
    refine W.seq ?_
    refine W.region ?_
    refine WL.op rfl (t_addr1 k (T := tyN8) rfl Tryd.underlying41 sz5 rfl rfl (H9.rdT 3 rfl) rfl (by omega) ?_)
    refine WL.op rfl (t_load1 k 0 (T := tyN8) rfl Tryd.underlying5 rfl rfl (H9.rdT 3 rfl) (by omega) rfl ?_)
    refine WL.op rfl (d_assign rfl ?_)
    refine WL.done (X.then_code ?_)
    have hx := (mem_bytesB.1 (getD_mem' (d := 0) (show k < (bytesB (andB s (classB ⟨#[97, 108, 112, 104, 97]⟩))).length by omega))).1
    refine W.regionD mixed (by kernel_rfl) fun hok2 w10 k2 => ?_
    have H10 : UpG w [] w10 [[blk w.heap.size #[.int .u64 ((s.w0.toNat : Nat) : Int), .int .u64 ((s.w1.toNat : Nat) : Int), .int .u64 ((s.w2.toNat : Nat) : Int), .int .u64 ((s.w3.toNat : Nat) : Int)] 24], [blk w1.heap.size #[.int .u64 ((Bs.zero.w0.toNat : Nat) : Int), .int .u64 ((Bs.zero.w1.toNat : Nat) : Int), .int .u64 ((Bs.zero.w2.toNat : Nat) : Int), .int .u64 ((Bs.zero.w3.toNat : Nat) : Int)] 24], [blk w2.heap.size #[.int .u64 ((r.w0.toNat : Nat) : Int), .int .u64 ((r.w1.toNat : Nat) : Int), .int .u64 ((r.w2.toNat : Nat) : Int), .int .u64 ((r.w3.toNat : Nat) : Int)] 24], [rowT tyN8 (.slice a2_1 ((bytesB (andB s (classB ⟨#[97, 108, 112, 104, 97]⟩))).length) c2_1) 5 (bytesB (andB s (classB ⟨#[97, 108, 112, 104, 97]⟩)))]] := H9.kept k2
    refine WD.take hok2 0 (.agg #[.int .u64 ((r.w0.toNat : Nat) : Int), .int .u64 ((r.w1.toNat : Nat) : Int), .int .u64 ((r.w2.toNat : Nat) : Int), .int .u64 ((r.w3.toNat : Nat) : Int)]) (fun w' => w'.heap[w2.heap.size]? = some (.cells #[.int .u64 ((r.w0.toNat : Nat) : Int), .int .u64 ((r.w1.toNat : Nat) : Int), .int .u64 ((r.w2.toNat : Nat) : Int), .int .u64 ((r.w3.toNat : Nat) : Int)] 24 (0, 0))) rfl rfl rfl rfl rfl (H10.blk 2 rfl) (.inl ⟨rfl, fun _ hC => d_loadAB [.int .u64 ((r.w0.toNat : Nat) : Int), .int .u64 ((r.w1.toNat : Nat) : Int), .int .u64 ((r.w2.toNat : Nat) : Int), .int .u64 ((r.w3.toNat : Nat) : Int)] Tryd.underlying24 rfl sz24 rfl hC rfl rfl ⟨rfl, rfl⟩⟩) ?_
    refine WD.take hok2 1 (.int .u8 (((bytesB (andB s (classB ⟨#[97, 108, 112, 104, 97]⟩))).getD k 0 : Nat) : Int)) (fun _ => True) rfl rfl rfl rfl rfl trivial (.inl ⟨rfl, fun _ _ => d_move rfl ⟨rfl, rfl⟩⟩) ?_
    refine WD.take hok2 2 (.int .u8 ((((bytesB (andB s (classB ⟨#[97, 108, 112, 104, 97]⟩))).getD k 0) ^^^ 32 : Nat) : Int)) (fun _ => True) rfl rfl rfl rfl rfl trivial (.inl ⟨rfl, fun _ _ => d_xor32 (m := (bytesB (andB s (classB ⟨#[97, 108, 112, 104, 97]⟩))).getD k 0) (by omega) rfl rfl ⟨rfl, rfl⟩⟩) ?_
    refine WD.loud hok2 3 rfl (⟨_, [⟨0, .agg #[.int .u64 ((r.w0.toNat : Nat) : Int), .int .u64 ((r.w1.toNat : Nat) : Int), .int .u64 ((r.w2.toNat : Nat) : Int), .int .u64 ((r.w3.toNat : Nat) : Int)], (fun w' => w'.heap[w2.heap.size]? = some (.cells #[.int .u64 ((r.w0.toNat : Nat) : Int), .int .u64 ((r.w1.toNat : Nat) : Int), .int .u64 ((r.w2.toNat : Nat) : Int), .int .u64 ((r.w3.toNat : Nat) : Int)] 24 (0, 0)))⟩], rfl, rfl, rfl, rfl, rfl, rfl, t_buildSlice (T := tyN8) (xs := [((bytesB (andB s (classB ⟨#[97, 108, 112, 104, 97]⟩))).getD k 0) ^^^ 32]) (cs := #[.int .u8 ((((bytesB (andB s (classB ⟨#[97, 108, 112, 104, 97]⟩))).getD k 0) ^^^ 32 : Nat) : Int)]) rfl Tryd.underlying41 sz5 rfl rfl rfl rfl (by kernel_rfl) rfl rfl fun w11 u8 => ?_⟩)
    have H11 : UpG w [] w11 [[blk w.heap.size #[.int .u64 ((s.w0.toNat : Nat) : Int), .int .u64 ((s.w1.toNat : Nat) : Int), .int .u64 ((s.w2.toNat : Nat) : Int), .int .u64 ((s.w3.toNat : Nat) : Int)] 24], [blk w1.heap.size #[.int .u64 ((Bs.zero.w0.toNat : Nat) : Int), .int .u64 ((Bs.zero.w1.toNat : Nat) : Int), .int .u64 ((Bs.zero.w2.toNat : Nat) : Int), .int .u64 ((Bs.zero.w3.toNat : Nat) : Int)] 24], [blk w2.heap.size #[.int .u64 ((r.w0.toNat : Nat) : Int), .int .u64 ((r.w1.toNat : Nat) : Int), .int .u64 ((r.w2.toNat : Nat) : Int), .int .u64 ((r.w3.toNat : Nat) : Int)] 24], [rowT tyN8 (.slice a2_1 ((bytesB (andB s (classB ⟨#[97, 108, 112, 104, 97]⟩))).length) c2_1) 5 (bytesB (andB s (classB ⟨#[97, 108, 112, 104, 97]⟩)))], [rowT tyN8 (.slice (some ⟨w10.heap.size, 0, none⟩) ([((bytesB (andB s (classB ⟨#[97, 108, 112, 104, 97]⟩))).getD k 0) ^^^ 32].length) ([((bytesB (andB s (classB ⟨#[97, 108, 112, 104, 97]⟩))).getD k 0) ^^^ 32].length)) 5 [((bytesB (andB s (classB ⟨#[97, 108, 112, 104, 97]⟩))).getD k 0) ^^^ 32]]] := H10.new' u8
    refine ⟨⟨(H11.blk 2 rfl), trivial⟩, ?_⟩
    refine WD.loud hok2 4 rfl (⟨_, [⟨0, .agg #[.int .u64 ((r.w0.toNat : Nat) : Int), .int .u64 ((r.w1.toNat : Nat) : Int), .int .u64 ((r.w2.toNat : Nat) : Int), .int .u64 ((r.w3.toNat : Nat) : Int)], (fun w' => w'.heap[w2.heap.size]? = some (.cells #[.int .u64 ((r.w0.toNat : Nat) : Int), .int .u64 ((r.w1.toNat : Nat) : Int), .int .u64 ((r.w2.toNat : Nat) : Int), .int .u64 ((r.w3.toNat : Nat) : Int)] 24 (0, 0)))⟩], rfl, rfl, rfl, rfl, rfl, rfl, d_call ok18 rfl (Ret.calls (of_any (some ⟨w10.heap.size, 0, none⟩) [((bytesB (andB s (classB ⟨#[97, 108, 112, 104, 97]⟩))).getD k 0) ^^^ 32] ([((bytesB (andB s (classB ⟨#[97, 108, 112, 104, 97]⟩))).getD k 0) ^^^ 32].length) ([((bytesB (andB s (classB ⟨#[97, 108, 112, 104, 97]⟩))).getD k 0) ^^^ 32].length) w11 (H11.rdT 4 rfl) (by intro c hc; simp only [List.mem_singleton] at hc; subst hc; exact xor_lt hx)) fun _ w12 p4 => ?_)⟩)
    obtain ⟨rfl, u9⟩ := p4
    have H12 : UpG w [] w12 [[blk w.heap.size #[.int .u64 ((s.w0.toNat : Nat) : Int), .int .u64 ((s.w1.toNat : Nat) : Int), .int .u64 ((s.w2.toNat : Nat) : Int), .int .u64 ((s.w3.toNat : Nat) : Int)] 24], [blk w1.heap.size #[.int .u64 ((Bs.zero.w0.toNat : Nat) : Int), .int .u64 ((Bs.zero.w1.toNat : Nat) : Int), .int .u64 ((Bs.zero.w2.toNat : Nat) : Int), .int .u64 ((Bs.zero.w3.toNat : Nat) : Int)] 24], [blk w2.heap.size #[.int .u64 ((r.w0.toNat : Nat) : Int), .int .u64 ((r.w1.toNat : Nat) : Int), .int .u64 ((r.w2.toNat : Nat) : Int), .int .u64 ((r.w3.toNat : Nat) : Int)] 24], [rowT tyN8 (.slice a2_1 ((bytesB (andB s (classB ⟨#[97, 108, 112, 104, 97]⟩))).length) c2_1) 5 (bytesB (andB s (classB ⟨#[97, 108, 112, 104, 97]⟩)))], [rowT tyN8 (.slice (some ⟨w10.heap.size, 0, none⟩) ([((bytesB (andB s (classB ⟨#[97, 108, 112, 104, 97]⟩))).getD k 0) ^^^ 32].length) ([((bytesB (andB s (classB ⟨#[97, 108, 112, 104, 97]⟩))).getD k 0) ^^^ 32].length)) 5 [((bytesB (andB s (classB ⟨#[97, 108, 112, 104, 97]⟩))).getD k 0) ^^^ 32]]] := H11.call u9
    refine ⟨⟨(H12.blk 2 rfl), trivial⟩, ?_⟩
    refine WD.loud hok2 5 rfl (⟨_, [], rfl, rfl, rfl, rfl, rfl, rfl, d_call ok21 rfl (Ret.calls (or_any r (ofS [((bytesB (andB s (classB ⟨#[97, 108, 112, 104, 97]⟩))).getD k 0) ^^^ 32]) w12  ) fun _ w13 p5 => ?_)⟩)
    obtain ⟨rfl, u10⟩ := p5
    have H13 : UpG w [] w13 [[blk w.heap.size #[.int .u64 ((s.w0.toNat : Nat) : Int), .int .u64 ((s.w1.toNat : Nat) : Int), .int .u64 ((s.w2.toNat : Nat) : Int), .int .u64 ((s.w3.toNat : Nat) : Int)] 24], [blk w1.heap.size #[.int .u64 ((Bs.zero.w0.toNat : Nat) : Int), .int .u64 ((Bs.zero.w1.toNat : Nat) : Int), .int .u64 ((Bs.zero.w2.toNat : Nat) : Int), .int .u64 ((Bs.zero.w3.toNat : Nat) : Int)] 24], [blk w2.heap.size #[.int .u64 ((r.w0.toNat : Nat) : Int), .int .u64 ((r.w1.toNat : Nat) : Int), .int .u64 ((r.w2.toNat : Nat) : Int), .int .u64 ((r.w3.toNat : Nat) : Int)] 24], [rowT tyN8 (.slice a2_1 ((bytesB (andB s (classB ⟨#[97, 108, 112, 104, 97]⟩))).length) c2_1) 5 (bytesB (andB s (classB ⟨#[97, 108, 112, 104, 97]⟩)))], [rowT tyN8 (.slice (some ⟨w10.heap.size, 0, none⟩) ([((bytesB (andB s (classB ⟨#[97, 108, 112, 104, 97]⟩))).getD k 0) ^^^ 32].length) ([((bytesB (andB s (classB ⟨#[97, 108, 112, 104, 97]⟩))).getD k 0) ^^^ 32].length)) 5 [((bytesB (andB s (classB ⟨#[97, 108, 112, 104, 97]⟩))).getD k 0) ^^^ 32]]] := H12.call u10
    refine ⟨trivial, ?_⟩
    refine WD.loud hok2 6 rfl (⟨_, [], rfl, rfl, rfl, rfl, rfl, rfl, d_storeAB (us := [.int .u64 ((((orB r (ofS [((bytesB (andB s (classB ⟨#[97, 108, 112, 104, 97]⟩))).getD k 0) ^^^ 32])).w0).toNat : Nat) : Int), .int .u64 ((((orB r (ofS [((bytesB (andB s (classB ⟨#[97, 108, 112, 104, 97]⟩))).getD k 0) ^^^ 32])).w1).toNat : Nat) : Int), .int .u64 ((((orB r (ofS [((bytesB (andB s (classB ⟨#[97, 108, 112, 104, 97]⟩))).getD k 0) ^^^ 32])).w2).toNat : Nat) : Int), .int .u64 ((((orB r (ofS [((bytesB (andB s (classB ⟨#[97, 108, 112, 104, 97]⟩))).getD k 0) ^^^ 32])).w3).toNat : Nat) : Int)]) (cs' := #[.int .u64 ((((orB r (ofS [((bytesB (andB s (classB ⟨#[97, 108, 112, 104, 97]⟩))).getD k 0) ^^^ 32])).w0).toNat : Nat) : Int), .int .u64 ((((orB r (ofS [((bytesB (andB s (classB ⟨#[97, 108, 112, 104, 97]⟩))).getD k 0) ^^^ 32])).w1).toNat : Nat) : Int), .int .u64 ((((orB r (ofS [((bytesB (andB s (classB ⟨#[97, 108, 112, 104, 97]⟩))).getD k 0) ^^^ 32])).w2).toNat : Nat) : Int), .int .u64 ((((orB r (ofS [((bytesB (andB s (classB ⟨#[97, 108, 112, 104, 97]⟩))).getD k 0) ^^^ 32])).w3).toNat : Nat) : Int)]) sz24 rfl rfl rfl rfl (H13.blk 2 rfl) rfl rfl fun w14 u11 => ?_⟩)
    have H14 : UpG w [] w14 [[blk w.heap.size #[.int .u64 ((s.w0.toNat : Nat) : Int), .int .u64 ((s.w1.toNat : Nat) : Int), .int .u64 ((s.w2.toNat : Nat) : Int), .int .u64 ((s.w3.toNat : Nat) : Int)] 24], [blk w1.heap.size #[.int .u64 ((Bs.zero.w0.toNat : Nat) : Int), .int .u64 ((Bs.zero.w1.toNat : Nat) : Int), .int .u64 ((Bs.zero.w2.toNat : Nat) : Int), .int .u64 ((Bs.zero.w3.toNat : Nat) : Int)] 24], [blk w2.heap.size #[.int .u64 ((((orB r (ofS [((bytesB (andB s (classB ⟨#[97, 108, 112, 104, 97]⟩))).getD k 0) ^^^ 32])).w0).toNat : Nat) : Int), .int .u64 ((((orB r (ofS [((bytesB (andB s (classB ⟨#[97, 108, 112, 104, 97]⟩))).getD k 0) ^^^ 32])).w1).toNat : Nat) : Int), .int .u64 ((((orB r (ofS [((bytesB (andB s (classB ⟨#[97, 108, 112, 104, 97]⟩))).getD k 0) ^^^ 32])).w2).toNat : Nat) : Int), .int .u64 ((((orB r (ofS [((bytesB (andB s (classB ⟨#[97, 108, 112, 104, 97]⟩))).getD k 0) ^^^ 32])).w3).toNat : Nat) : Int)] 24], [rowT tyN8 (.slice a2_1 ((bytesB (andB s (classB ⟨#[97, 108, 112, 104, 97]⟩))).length) c2_1) 5 (bytesB (andB s (classB ⟨#[97, 108, 112, 104, 97]⟩)))], [rowT tyN8 (.slice (some ⟨w10.heap.size, 0, none⟩) ([((bytesB (andB s (classB ⟨#[97, 108, 112, 104, 97]⟩))).getD k 0) ^^^ 32].length) ([((bytesB (andB s (classB ⟨#[97, 108, 112, 104, 97]⟩))).getD k 0) ^^^ 32].length)) 5 [((bytesB (andB s (classB ⟨#[97, 108, 112, 104, 97]⟩))).getD k 0) ^^^ 32]]] := H13.on 2 rfl u11
    refine ⟨trivial, ?_⟩
    refine WD.done hok2 rfl (X.block_normal (X.then_code ?_))
    refine W.region ?_
    refine WL.op rfl (d_add rfl rfl (by omega) (by omega) ?_)
    refine WL.op rfl (d_move rfl ?_)
    refine WL.done ?_
    exact X.next [11, 10, 12, 3, 2] (Γ' := [(11, .int .i64 (((bytesB (andB s (classB ⟨#[97, 108, 112, 104, 97]⟩))).length : Nat) : Int)), (10, .slice a2_1 ((bytesB (andB s (classB ⟨#[97, 108, 112, 104, 97]⟩))).length) c2_1), (12, .int .i64 (((k + 1) : Nat) : Int)), (3, .pointer (some ⟨w2.heap.size, 0, none⟩)), (2, .pointer (some ⟨w1.heap.size, 0, none⟩))]) rfl ((bytesB (andB s (classB ⟨#[97, 108, 112, 104, 97]⟩))).length - (k + 1)) (by omega) ⟨k + 1, (orB r (ofS [((bytesB (andB s (classB ⟨#[97, 108, 112, 104, 97]⟩))).getD k 0) ^^^ 32])), rfl, (UpG.of (G := [[blk w.heap.size #[.int .u64 ((s.w0.toNat : Nat) : Int), .int .u64 ((s.w1.toNat : Nat) : Int), .int .u64 ((s.w2.toNat : Nat) : Int), .int .u64 ((s.w3.toNat : Nat) : Int)] 24], [blk w1.heap.size #[.int .u64 ((Bs.zero.w0.toNat : Nat) : Int), .int .u64 ((Bs.zero.w1.toNat : Nat) : Int), .int .u64 ((Bs.zero.w2.toNat : Nat) : Int), .int .u64 ((Bs.zero.w3.toNat : Nat) : Int)] 24], [blk w2.heap.size #[.int .u64 ((((orB r (ofS [((bytesB (andB s (classB ⟨#[97, 108, 112, 104, 97]⟩))).getD k 0) ^^^ 32])).w0).toNat : Nat) : Int), .int .u64 ((((orB r (ofS [((bytesB (andB s (classB ⟨#[97, 108, 112, 104, 97]⟩))).getD k 0) ^^^ 32])).w1).toNat : Nat) : Int), .int .u64 ((((orB r (ofS [((bytesB (andB s (classB ⟨#[97, 108, 112, 104, 97]⟩))).getD k 0) ^^^ 32])).w2).toNat : Nat) : Int), .int .u64 ((((orB r (ofS [((bytesB (andB s (classB ⟨#[97, 108, 112, 104, 97]⟩))).getD k 0) ^^^ 32])).w3).toNat : Nat) : Int)] 24], [rowT tyN8 (.slice a2_1 ((bytesB (andB s (classB ⟨#[97, 108, 112, 104, 97]⟩))).length) c2_1) 5 (bytesB (andB s (classB ⟨#[97, 108, 112, 104, 97]⟩)))]]) (Upd.sel H14 (M := [blk w.heap.size #[.int .u64 ((s.w0.toNat : Nat) : Int), .int .u64 ((s.w1.toNat : Nat) : Int), .int .u64 ((s.w2.toNat : Nat) : Int), .int .u64 ((s.w3.toNat : Nat) : Int)] 24, blk w1.heap.size #[.int .u64 ((Bs.zero.w0.toNat : Nat) : Int), .int .u64 ((Bs.zero.w1.toNat : Nat) : Int), .int .u64 ((Bs.zero.w2.toNat : Nat) : Int), .int .u64 ((Bs.zero.w3.toNat : Nat) : Int)] 24, blk w2.heap.size #[.int .u64 ((((orB r (ofS [((bytesB (andB s (classB ⟨#[97, 108, 112, 104, 97]⟩))).getD k 0) ^^^ 32])).w0).toNat : Nat) : Int), .int .u64 ((((orB r (ofS [((bytesB (andB s (classB ⟨#[97, 108, 112, 104, 97]⟩))).getD k 0) ^^^ 32])).w1).toNat : Nat) : Int), .int .u64 ((((orB r (ofS [((bytesB (andB s (classB ⟨#[97, 108, 112, 104, 97]⟩))).getD k 0) ^^^ 32])).w2).toNat : Nat) : Int), .int .u64 ((((orB r (ofS [((bytesB (andB s (classB ⟨#[97, 108, 112, 104, 97]⟩))).getD k 0) ^^^ 32])).w3).toNat : Nat) : Int)] 24, rowT tyN8 (.slice a2_1 ((bytesB (andB s (classB ⟨#[97, 108, 112, 104, 97]⟩))).length) c2_1) 5 (bytesB (andB s (classB ⟨#[97, 108, 112, 104, 97]⟩)))]) (l := [0, 1, 2, 3]) rfl rfl) rfl), (by first | assumption | omega | simp), (by rw [fold_step (by omega), ← hr]), rfl⟩
  · skip
    refine W.exit (X.then_exit (X.then_exit (X.block_exit (X.then_code ?_))))
    refine W.seq ?_
    refine W.region ?_
    refine WL.op rfl (d_loadAB [.int .u64 ((r.w0.toNat : Nat) : Int), .int .u64 ((r.w1.toNat : Nat) : Int), .int .u64 ((r.w2.toNat : Nat) : Int), .int .u64 ((r.w3.toNat : Nat) : Int)] Tryd.underlying24 rfl sz24 rfl (H9.blk 2 rfl) rfl rfl ?_)
    refine WL.op0 (d_storeAB (us := [.int .u64 ((r.w0.toNat : Nat) : Int), .int .u64 ((r.w1.toNat : Nat) : Int), .int .u64 ((r.w2.toNat : Nat) : Int), .int .u64 ((r.w3.toNat : Nat) : Int)]) (cs' := #[.int .u64 ((r.w0.toNat : Nat) : Int), .int .u64 ((r.w1.toNat : Nat) : Int), .int .u64 ((r.w2.toNat : Nat) : Int), .int .u64 ((r.w3.toNat : Nat) : Int)]) sz24 rfl rfl rfl rfl (H9.blk 1 rfl) rfl rfl fun w15 u12 => ?_)
    have H15 : UpG w [] w15 [[blk w.heap.size #[.int .u64 ((s.w0.toNat : Nat) : Int), .int .u64 ((s.w1.toNat : Nat) : Int), .int .u64 ((s.w2.toNat : Nat) : Int), .int .u64 ((s.w3.toNat : Nat) : Int)] 24], [blk w1.heap.size #[.int .u64 ((r.w0.toNat : Nat) : Int), .int .u64 ((r.w1.toNat : Nat) : Int), .int .u64 ((r.w2.toNat : Nat) : Int), .int .u64 ((r.w3.toNat : Nat) : Int)] 24], [blk w2.heap.size #[.int .u64 ((r.w0.toNat : Nat) : Int), .int .u64 ((r.w1.toNat : Nat) : Int), .int .u64 ((r.w2.toNat : Nat) : Int), .int .u64 ((r.w3.toNat : Nat) : Int)] 24], [rowT tyN8 (.slice a2_1 ((bytesB (andB s (classB ⟨#[97, 108, 112, 104, 97]⟩))).length) c2_1) 5 (bytesB (andB s (classB ⟨#[97, 108, 112, 104, 97]⟩)))]] := H9.on 1 rfl u12
    refine WL.done (X.then_code ?_)
    refine W.ret (X.retR1 rfl (rv_cellA [.int .u64 ((r.w0.toNat : Nat) : Int), .int .u64 ((r.w1.toNat : Nat) : Int), .int .u64 ((r.w2.toNat : Nat) : Int), .int .u64 ((r.w3.toNat : Nat) : Int)] Tryd.underlying24 rfl sz24 rfl (H15.blk 1 rfl) rfl rfl) ?_)
    have e : r = foldB s := by rw [hr, List.take_of_length_le (by omega)]; rfl
    exact ⟨(by rw [e]), H15.noneL⟩

set_option maxRecDepth 20000 in
theorem up_any (b : Nat) (w : World) :
    Calls Tryd.prog 23 #[.int .i64 ((b : Nat) : Int)] w (Ret fun v w' => v = .bool (upN b) ∧ Upd w [] w' []) := by
  refine calls_of_W (args := [.int .i64 ((b : Nat) : Int)]) Tryd.func23 rfl rfl rfl ?_
  have H0 : UpG w [] w [] := UpG.nil w
  show W _ _ _ _ [(0, .int .i64 ((b : Nat) : Int))] w
  refine W.seq ?_
  refine W.region ?_
  refine WL.op rfl (d_assign rfl ?_)
  refine WL.done (X.then_code ?_)
  refine W.seq ?_
  refine W.region ?_
  refine WL.op rfl (d_move rfl ?_)
  refine WL.op rfl (d_cmp (decide (((b : Nat) : Int) ≥ (65 : Int))) rfl rfl rfl ?_)
  refine WL.op rfl (d_move rfl ?_)
  refine WL.part 5 (p := ((b : Nat) : Int) ≥ (65 : Int)) rfl (fun g9 => ?_) (fun g9 => ?_)
  · skip
    refine WL.opG rfl rfl rfl (d_move rfl ?_)
    refine WL.opG rfl rfl rfl (d_cmp (decide (((b : Nat) : Int) ≤ (90 : Int))) rfl rfl rfl ?_)
    refine WL.op rfl (d_pick rfl rfl ?_)
    refine WL.op rfl (d_assign rfl ?_)
    refine WL.done (X.then_code ?_)
    refine W.ret (X.ret1 rfl rfl ?_)
    exact ⟨(by congr 1; rw [Bool.eq_iff_iff]; simp [upN]; omega), H0.noneL⟩
  · skip
    refine WL.opN rfl rfl rfl rfl ?_
    refine WL.opN rfl rfl rfl rfl ?_
    refine WL.op rfl (d_pick rfl rfl ?_)
    refine WL.op rfl (d_assign rfl ?_)
    refine WL.done (X.then_code ?_)
    refine W.ret (X.ret1 rfl rfl ?_)
    exact ⟨(by congr 1; rw [Bool.eq_iff_iff]; simp [upN]; omega), H0.noneL⟩

set_option maxRecDepth 20000 in
theorem lo_any (b : Nat) (w : World) :
    Calls Tryd.prog 25 #[.int .i64 ((b : Nat) : Int)] w (Ret fun v w' => v = .bool (loN b) ∧ Upd w [] w' []) := by
  refine calls_of_W (args := [.int .i64 ((b : Nat) : Int)]) Tryd.func25 rfl rfl rfl ?_
  have H0 : UpG w [] w [] := UpG.nil w
  show W _ _ _ _ [(0, .int .i64 ((b : Nat) : Int))] w
  refine W.seq ?_
  refine W.region ?_
  refine WL.op rfl (d_assign rfl ?_)
  refine WL.done (X.then_code ?_)
  refine W.seq ?_
  refine W.region ?_
  refine WL.op rfl (d_move rfl ?_)
  refine WL.op rfl (d_cmp (decide (((b : Nat) : Int) ≥ (97 : Int))) rfl rfl rfl ?_)
  refine WL.op rfl (d_move rfl ?_)
  refine WL.part 5 (p := ((b : Nat) : Int) ≥ (97 : Int)) rfl (fun g10 => ?_) (fun g10 => ?_)
  · skip
    refine WL.opG rfl rfl rfl (d_move rfl ?_)
    refine WL.opG rfl rfl rfl (d_cmp (decide (((b : Nat) : Int) ≤ (122 : Int))) rfl rfl rfl ?_)
    refine WL.op rfl (d_pick rfl rfl ?_)
    refine WL.op rfl (d_assign rfl ?_)
    refine WL.done (X.then_code ?_)
    refine W.ret (X.ret1 rfl rfl ?_)
    exact ⟨(by congr 1; rw [Bool.eq_iff_iff]; simp [loN]; omega), H0.noneL⟩
  · skip
    refine WL.opN rfl rfl rfl rfl ?_
    refine WL.opN rfl rfl rfl rfl ?_
    refine WL.op rfl (d_pick rfl rfl ?_)
    refine WL.op rfl (d_assign rfl ?_)
    refine WL.done (X.then_code ?_)
    refine W.ret (X.ret1 rfl rfl ?_)
    exact ⟨(by congr 1; rw [Bool.eq_iff_iff]; simp [loN]; omega), H0.noneL⟩

set_option maxRecDepth 20000 in
theorem di_any (b : Nat) (w : World) :
    Calls Tryd.prog 30 #[.int .i64 ((b : Nat) : Int)] w (Ret fun v w' => v = .bool (diN b) ∧ Upd w [] w' []) := by
  refine calls_of_W (args := [.int .i64 ((b : Nat) : Int)]) Tryd.func30 rfl rfl rfl ?_
  have H0 : UpG w [] w [] := UpG.nil w
  show W _ _ _ _ [(0, .int .i64 ((b : Nat) : Int))] w
  refine W.seq ?_
  refine W.region ?_
  refine WL.op rfl (d_assign rfl ?_)
  refine WL.done (X.then_code ?_)
  refine W.seq ?_
  refine W.region ?_
  refine WL.op rfl (d_move rfl ?_)
  refine WL.op rfl (d_cmp (decide (((b : Nat) : Int) ≥ (48 : Int))) rfl rfl rfl ?_)
  refine WL.op rfl (d_move rfl ?_)
  refine WL.part 5 (p := ((b : Nat) : Int) ≥ (48 : Int)) rfl (fun g11 => ?_) (fun g11 => ?_)
  · skip
    refine WL.opG rfl rfl rfl (d_move rfl ?_)
    refine WL.opG rfl rfl rfl (d_cmp (decide (((b : Nat) : Int) ≤ (57 : Int))) rfl rfl rfl ?_)
    refine WL.op rfl (d_pick rfl rfl ?_)
    refine WL.op rfl (d_assign rfl ?_)
    refine WL.done (X.then_code ?_)
    refine W.ret (X.ret1 rfl rfl ?_)
    exact ⟨(by congr 1; rw [Bool.eq_iff_iff]; simp [diN]; omega), H0.noneL⟩
  · skip
    refine WL.opN rfl rfl rfl rfl ?_
    refine WL.opN rfl rfl rfl rfl ?_
    refine WL.op rfl (d_pick rfl rfl ?_)
    refine WL.op rfl (d_assign rfl ?_)
    refine WL.done (X.then_code ?_)
    refine W.ret (X.ret1 rfl rfl ?_)
    exact ⟨(by congr 1; rw [Bool.eq_iff_iff]; simp [diN]; omega), H0.noneL⟩

set_option maxRecDepth 20000 in
theorem is_any (name : ByteArray) (b : Nat) (w : World) :
    Calls Tryd.prog 29 #[.string name, .int .i64 ((b : Nat) : Int)] w (Ret fun v w' => v = .tuple #[.bool (isB name b), .bool (isOk name)] ∧ Upd w [] w' []) := by
  refine calls_of_W (args := [.string name, .int .i64 ((b : Nat) : Int)]) Tryd.func29 rfl rfl rfl ?_
  have H0 : UpG w [] w [] := UpG.nil w
  show W _ _ _ _ [(0, .string name), (1, .int .i64 ((b : Nat) : Int))] w
  refine W.seq ?_
  refine W.region ?_
  refine WL.op rfl (d_assign rfl ?_)
  refine WL.op rfl (d_assign rfl ?_)
  refine WL.done (X.then_code ?_)
  refine W.seq ?_
  refine W.seq ?_
  refine W.region ?_
  refine WL.op rfl (d_move rfl ?_)
  refine WL.done (X.then_code ?_)
  refine W.block ?_
  refine W.seq ?_
  refine W.region ?_
  refine WL.op rfl (d_streq rfl rfl ?_)
  refine WL.op rfl (d_assign rfl ?_)
  refine WL.done (X.then_code ?_)
  refine W.ite (p := name = ⟨#[97, 108, 112, 104, 97]⟩) rfl (fun c16 => ?_) (fun c16 => ?_)
  · skip
    refine W.seq ?_
    refine W.region ?_
    refine WL.op rfl (d_move rfl ?_)
    refine WL.op rfl (d_call ok23 rfl (Ret.calls (up_any b w  ) fun _ w1 p1 => ?_))
    obtain ⟨rfl, u1⟩ := p1
    have H1 : UpG w [] w1 [] := H0.call u1
    refine WL.op rfl (d_move rfl ?_)
    refine WL.partB 11 (b := upN b) rfl (fun g17 => ?_) (fun g17 => ?_)
    · skip
      refine WL.opN rfl rfl rfl rfl ?_
      refine WL.opN rfl rfl rfl rfl ?_
      refine WL.op rfl (d_pick rfl rfl ?_)
      refine WL.op rfl (d_assign rfl ?_)
      refine WL.op rfl (d_assign rfl ?_)
      refine WL.done (X.then_code ?_)
      refine W.ret (X.block_ret (X.then_ret (X.ret2 rfl rfl rfl ?_)))
      have e1 : isB name b = (upN b || loN b) := by unfold isB; rw [if_pos c16]
      have e2 : isOk name = true := by unfold isOk; simp [c16]
      exact ⟨(by rw [e1, e2]; all_goals exact tup2 (by (first | rfl | (rw [Bool.eq_iff_iff]; (try simp only [upN, loN, diN, Bool.or_eq_true, Bool.and_eq_true, Bool.not_eq_true', decide_eq_true_eq, decide_eq_false_iff_not, Bool.false_eq_true, iff_false, iff_true, true_iff, false_iff] at *); omega)))), H1.noneL⟩
    · skip
      refine WL.opG rfl rfl rfl (d_move rfl ?_)
      refine WL.opG rfl rfl rfl (d_call ok25 rfl (Ret.calls (lo_any b w1  ) fun _ w2 p2 => ?_))
      obtain ⟨rfl, u2⟩ := p2
      have H2 : UpG w [] w2 [] := H1.call u2
      refine WL.op rfl (d_pick rfl rfl ?_)
      refine WL.op rfl (d_assign rfl ?_)
      refine WL.op rfl (d_assign rfl ?_)
      refine WL.done (X.then_code ?_)
      refine W.ret (X.block_ret (X.then_ret (X.ret2 rfl rfl rfl ?_)))
      have e1 : isB name b = (upN b || loN b) := by unfold isB; rw [if_pos c16]
      have e2 : isOk name = true := by unfold isOk; simp [c16]
      exact ⟨(by rw [e1, e2]; all_goals exact tup2 (by (first | rfl | (rw [Bool.eq_iff_iff]; (try simp only [upN, loN, diN, Bool.or_eq_true, Bool.and_eq_true, Bool.not_eq_true', decide_eq_true_eq, decide_eq_false_iff_not, Bool.false_eq_true, iff_false, iff_true, true_iff, false_iff] at *); omega)))), H2.noneL⟩
  · skip
    refine W.seq ?_
    refine W.region ?_
    refine WL.op rfl (d_streq rfl rfl ?_)
    refine WL.op rfl (d_assign rfl ?_)
    refine WL.done (X.then_code ?_)
    refine W.ite (p := name = ⟨#[100, 105, 103, 105, 116]⟩) rfl (fun c18 => ?_) (fun c18 => ?_)
    · skip
      refine W.seq ?_
      refine W.region ?_
      refine WL.op rfl (d_move rfl ?_)
      refine WL.op rfl (d_call ok30 rfl (Ret.calls (di_any b w  ) fun _ w3 p3 => ?_))
      obtain ⟨rfl, u3⟩ := p3
      have H3 : UpG w [] w3 [] := H0.call u3
      refine WL.op rfl (d_assign rfl ?_)
      refine WL.op rfl (d_assign rfl ?_)
      refine WL.done (X.then_code ?_)
      refine W.ret (X.block_ret (X.then_ret (X.ret2 rfl rfl rfl ?_)))
      have e1 : isB name b = (diN b) := by unfold isB; rw [if_neg c16, if_pos c18]
      have e2 : isOk name = true := by unfold isOk; simp [c18]
      exact ⟨(by rw [e1, e2]; all_goals exact tup2 (by (first | rfl | (rw [Bool.eq_iff_iff]; (try simp only [upN, loN, diN, Bool.or_eq_true, Bool.and_eq_true, Bool.not_eq_true', decide_eq_true_eq, decide_eq_false_iff_not, Bool.false_eq_true, iff_false, iff_true, true_iff, false_iff] at *); omega)))), H3.noneL⟩
    · skip
      refine W.seq ?_
      refine W.region ?_
      refine WL.op rfl (d_streq rfl rfl ?_)
      refine WL.op rfl (d_assign rfl ?_)
      refine WL.done (X.then_code ?_)
      refine W.ite (p := name = ⟨#[97, 108, 110, 117, 109]⟩) rfl (fun c20 => ?_) (fun c20 => ?_)
      · skip
        refine W.seq ?_
        refine W.region ?_
        refine WL.op rfl (d_move rfl ?_)
        refine WL.op rfl (d_call ok23 rfl (Ret.calls (up_any b w  ) fun _ w4 p4 => ?_))
        obtain ⟨rfl, u4⟩ := p4
        have H4 : UpG w [] w4 [] := H0.call u4
        refine WL.op rfl (d_move rfl ?_)
        refine WL.partB 23 (b := upN b) rfl (fun g21 => ?_) (fun g21 => ?_)
        · skip
          refine WL.opN rfl rfl rfl rfl ?_
          refine WL.opN rfl rfl rfl rfl ?_
          refine WL.op rfl (d_pick rfl rfl ?_)
          refine WL.op rfl (d_move rfl ?_)
          refine WL.opN rfl rfl rfl rfl ?_
          refine WL.opN rfl rfl rfl rfl ?_
          refine WL.op rfl (d_pick rfl rfl ?_)
          refine WL.op rfl (d_assign rfl ?_)
          refine WL.op rfl (d_assign rfl ?_)
          refine WL.done (X.then_code ?_)
          refine W.ret (X.block_ret (X.then_ret (X.ret2 rfl rfl rfl ?_)))
          have e1 : isB name b = (upN b || loN b || diN b) := by unfold isB; rw [if_neg c16, if_neg c18, if_pos c20]
          have e2 : isOk name = true := by unfold isOk; simp [c20]
          exact ⟨(by rw [e1, e2]; all_goals exact tup2 (by (first | rfl | (rw [Bool.eq_iff_iff]; (try simp only [upN, loN, diN, Bool.or_eq_true, Bool.and_eq_true, Bool.not_eq_true', decide_eq_true_eq, decide_eq_false_iff_not, Bool.false_eq_true, iff_false, iff_true, true_iff, false_iff] at *); omega)))), H4.noneL⟩
        · skip
          refine WL.opG rfl rfl rfl (d_move rfl ?_)
          refine WL.opG rfl rfl rfl (d_call ok25 rfl (Ret.calls (lo_any b w4  ) fun _ w5 p5 => ?_))
          obtain ⟨rfl, u5⟩ := p5
          have H5 : UpG w [] w5 [] := H4.call u5
          refine WL.op rfl (d_pick rfl rfl ?_)
          refine WL.op rfl (d_move rfl ?_)
          refine WL.partB 27 (b := loN b) rfl (fun g21x => ?_) (fun g21x => ?_)
          · skip
            refine WL.opN rfl rfl rfl rfl ?_
            refine WL.opN rfl rfl rfl rfl ?_
            refine WL.op rfl (d_pick rfl rfl ?_)
            refine WL.op rfl (d_assign rfl ?_)
            refine WL.op rfl (d_assign rfl ?_)
            refine WL.done (X.then_code ?_)
            refine W.ret (X.block_ret (X.then_ret (X.ret2 rfl rfl rfl ?_)))
            have e1 : isB name b = (upN b || loN b || diN b) := by unfold isB; rw [if_neg c16, if_neg c18, if_pos c20]
            have e2 : isOk name = true := by unfold isOk; simp [c20]
            exact ⟨(by rw [e1, e2]; all_goals exact tup2 (by (first | rfl | (rw [Bool.eq_iff_iff]; (try simp only [upN, loN, diN, Bool.or_eq_true, Bool.and_eq_true, Bool.not_eq_true', decide_eq_true_eq, decide_eq_false_iff_not, Bool.false_eq_true, iff_false, iff_true, true_iff, false_iff] at *); omega)))), H5.noneL⟩
          · skip
            refine WL.opG rfl rfl rfl (d_move rfl ?_)
            refine WL.opG rfl rfl rfl (d_call ok30 rfl (Ret.calls (di_any b w5  ) fun _ w6 p6 => ?_))
            obtain ⟨rfl, u6⟩ := p6
            have H6 : UpG w [] w6 [] := H5.call u6
            refine WL.op rfl (d_pick rfl rfl ?_)
            refine WL.op rfl (d_assign rfl ?_)
            refine WL.op rfl (d_assign rfl ?_)
            refine WL.done (X.then_code ?_)
            refine W.ret (X.block_ret (X.then_ret (X.ret2 rfl rfl rfl ?_)))
            have e1 : isB name b = (upN b || loN b || diN b) := by unfold isB; rw [if_neg c16, if_neg c18, if_pos c20]
            have e2 : isOk name = true := by unfold isOk; simp [c20]
            exact ⟨(by rw [e1, e2]; all_goals exact tup2 (by (first | rfl | (rw [Bool.eq_iff_iff]; (try simp only [upN, loN, diN, Bool.or_eq_true, Bool.and_eq_true, Bool.not_eq_true', decide_eq_true_eq, decide_eq_false_iff_not, Bool.false_eq_true, iff_false, iff_true, true_iff, false_iff] at *); omega)))), H6.noneL⟩
      · skip
        refine W.seq ?_
        refine W.region ?_
        refine WL.op rfl (d_streq rfl rfl ?_)
        refine WL.op rfl (d_assign rfl ?_)
        refine WL.done (X.then_code ?_)
        refine W.ite (p := name = ⟨#[117, 112, 112, 101, 114]⟩) rfl (fun c22 => ?_) (fun c22 => ?_)
        · skip
          refine W.seq ?_
          refine W.region ?_
          refine WL.op rfl (d_move rfl ?_)
          refine WL.op rfl (d_call ok23 rfl (Ret.calls (up_any b w  ) fun _ w7 p7 => ?_))
          obtain ⟨rfl, u7⟩ := p7
          have H7 : UpG w [] w7 [] := H0.call u7
          refine WL.op rfl (d_assign rfl ?_)
          refine WL.op rfl (d_assign rfl ?_)
          refine WL.done (X.then_code ?_)
          refine W.ret (X.block_ret (X.then_ret (X.ret2 rfl rfl rfl ?_)))
          have e1 : isB name b = (upN b) := by unfold isB; rw [if_neg c16, if_neg c18, if_neg c20, if_pos c22]
          have e2 : isOk name = true := by unfold isOk; simp [c22]
          exact ⟨(by rw [e1, e2]; all_goals exact tup2 (by (first | rfl | (rw [Bool.eq_iff_iff]; (try simp only [upN, loN, diN, Bool.or_eq_true, Bool.and_eq_true, Bool.not_eq_true', decide_eq_true_eq, decide_eq_false_iff_not, Bool.false_eq_true, iff_false, iff_true, true_iff, false_iff] at *); omega)))), H7.noneL⟩
        · skip
          refine W.seq ?_
          refine W.region ?_
          refine WL.op rfl (d_streq rfl rfl ?_)
          refine WL.op rfl (d_assign rfl ?_)
          refine WL.done (X.then_code ?_)
          refine W.ite (p := name = ⟨#[108, 111, 119, 101, 114]⟩) rfl (fun c24 => ?_) (fun c24 => ?_)
          · skip
            refine W.seq ?_
            refine W.region ?_
            refine WL.op rfl (d_move rfl ?_)
            refine WL.op rfl (d_call ok25 rfl (Ret.calls (lo_any b w  ) fun _ w8 p8 => ?_))
            obtain ⟨rfl, u8⟩ := p8
            have H8 : UpG w [] w8 [] := H0.call u8
            refine WL.op rfl (d_assign rfl ?_)
            refine WL.op rfl (d_assign rfl ?_)
            refine WL.done (X.then_code ?_)
            refine W.ret (X.block_ret (X.then_ret (X.ret2 rfl rfl rfl ?_)))
            have e1 : isB name b = (loN b) := by unfold isB; rw [if_neg c16, if_neg c18, if_neg c20, if_neg c22, if_pos c24]
            have e2 : isOk name = true := by unfold isOk; simp [c24]
            exact ⟨(by rw [e1, e2]; all_goals exact tup2 (by (first | rfl | (rw [Bool.eq_iff_iff]; (try simp only [upN, loN, diN, Bool.or_eq_true, Bool.and_eq_true, Bool.not_eq_true', decide_eq_true_eq, decide_eq_false_iff_not, Bool.false_eq_true, iff_false, iff_true, true_iff, false_iff] at *); omega)))), H8.noneL⟩
          · skip
            refine W.seq ?_
            refine W.region ?_
            refine WL.op rfl (d_streq rfl rfl ?_)
            refine WL.op rfl (d_assign rfl ?_)
            refine WL.done (X.then_code ?_)
            refine W.ite (p := name = ⟨#[115, 112, 97, 99, 101]⟩) rfl (fun c26 => ?_) (fun c26 => ?_)
            · skip
              refine W.seq ?_
              refine W.region ?_
              refine WL.op rfl (d_move rfl ?_)
              refine WL.op rfl (d_cmp (decide (((b : Nat) : Int) ≥ (9 : Int))) rfl rfl rfl ?_)
              refine WL.op rfl (d_move rfl ?_)
              refine WL.part 43 (p := ((b : Nat) : Int) ≥ (9 : Int)) rfl (fun g27 => ?_) (fun g27 => ?_)
              · skip
                refine WL.opG rfl rfl rfl (d_move rfl ?_)
                refine WL.opG rfl rfl rfl (d_cmp (decide (((b : Nat) : Int) ≤ (13 : Int))) rfl rfl rfl ?_)
                refine WL.op rfl (d_pick rfl rfl ?_)
                refine WL.op rfl (d_move rfl ?_)
                refine WL.part 47 (p := ((b : Nat) : Int) ≤ (13 : Int)) rfl (fun g27x => ?_) (fun g27x => ?_)
                · skip
                  refine WL.opN rfl rfl rfl rfl ?_
                  refine WL.opN rfl rfl rfl rfl ?_
                  refine WL.op rfl (d_pick rfl rfl ?_)
                  refine WL.op rfl (d_assign rfl ?_)
                  refine WL.op rfl (d_assign rfl ?_)
                  refine WL.done (X.then_code ?_)
                  refine W.ret (X.block_ret (X.then_ret (X.ret2 rfl rfl rfl ?_)))
                  have e1 : isB name b = (decide (9 ≤ b ∧ b ≤ 13 ∨ b = 32)) := by unfold isB; rw [if_neg c16, if_neg c18, if_neg c20, if_neg c22, if_neg c24, if_pos c26]
                  have e2 : isOk name = true := by unfold isOk; simp [c26]
                  exact ⟨(by rw [e1, e2]; all_goals exact tup2 (by (first | rfl | (rw [Bool.eq_iff_iff]; (try simp only [upN, loN, diN, Bool.or_eq_true, Bool.and_eq_true, Bool.not_eq_true', decide_eq_true_eq, decide_eq_false_iff_not, Bool.false_eq_true, iff_false, iff_true, true_iff, false_iff] at *); omega)))), H0.noneL⟩
                · skip
                  refine WL.opG rfl rfl rfl (d_move rfl ?_)
                  refine WL.opG rfl rfl rfl (d_cmp (decide (((b : Nat) : Int) = (32 : Int))) rfl rfl rfl ?_)
                  refine WL.op rfl (d_pick rfl rfl ?_)
                  refine WL.op rfl (d_assign rfl ?_)
                  refine WL.op rfl (d_assign rfl ?_)
                  refine WL.done (X.then_code ?_)
                  refine W.ret (X.block_ret (X.then_ret (X.ret2 rfl rfl rfl ?_)))
                  have e1 : isB name b = (decide (9 ≤ b ∧ b ≤ 13 ∨ b = 32)) := by unfold isB; rw [if_neg c16, if_neg c18, if_neg c20, if_neg c22, if_neg c24, if_pos c26]
                  have e2 : isOk name = true := by unfold isOk; simp [c26]
                  exact ⟨(by rw [e1, e2]; all_goals exact tup2 (by (first | rfl | (rw [Bool.eq_iff_iff]; (try simp only [upN, loN, diN, Bool.or_eq_true, Bool.and_eq_true, Bool.not_eq_true', decide_eq_true_eq, decide_eq_false_iff_not, Bool.false_eq_true, iff_false, iff_true, true_iff, false_iff] at *); omega)))), H0.noneL⟩
              · skip
                refine WL.opN rfl rfl rfl rfl ?_
                refine WL.opN rfl rfl rfl rfl ?_
                refine WL.op rfl (d_pick rfl rfl ?_)
                refine WL.op rfl (d_move rfl ?_)
                refine WL.opG rfl rfl rfl (d_move rfl ?_)
                refine WL.opG rfl rfl rfl (d_cmp (decide (((b : Nat) : Int) = (32 : Int))) rfl rfl rfl ?_)
                refine WL.op rfl (d_pick rfl rfl ?_)
                refine WL.op rfl (d_assign rfl ?_)
                refine WL.op rfl (d_assign rfl ?_)
                refine WL.done (X.then_code ?_)
                refine W.ret (X.block_ret (X.then_ret (X.ret2 rfl rfl rfl ?_)))
                have e1 : isB name b = (decide (9 ≤ b ∧ b ≤ 13 ∨ b = 32)) := by unfold isB; rw [if_neg c16, if_neg c18, if_neg c20, if_neg c22, if_neg c24, if_pos c26]
                have e2 : isOk name = true := by unfold isOk; simp [c26]
                exact ⟨(by rw [e1, e2]; all_goals exact tup2 (by (first | rfl | (rw [Bool.eq_iff_iff]; (try simp only [upN, loN, diN, Bool.or_eq_true, Bool.and_eq_true, Bool.not_eq_true', decide_eq_true_eq, decide_eq_false_iff_not, Bool.false_eq_true, iff_false, iff_true, true_iff, false_iff] at *); omega)))), H0.noneL⟩
            · skip
              refine W.seq ?_
              refine W.region ?_
              refine WL.op rfl (d_streq rfl rfl ?_)
              refine WL.op rfl (d_assign rfl ?_)
              refine WL.done (X.then_code ?_)
              refine W.ite (p := name = ⟨#[98, 108, 97, 110, 107]⟩) rfl (fun c28 => ?_) (fun c28 => ?_)
              · skip
                refine W.seq ?_
                refine W.region ?_
                refine WL.op rfl (d_move rfl ?_)
                refine WL.op rfl (d_cmp (decide (((b : Nat) : Int) = (9 : Int))) rfl rfl rfl ?_)
                refine WL.op rfl (d_move rfl ?_)
                refine WL.part 55 (p := ((b : Nat) : Int) = (9 : Int)) rfl (fun g29 => ?_) (fun g29 => ?_)
                · skip
                  refine WL.opN rfl rfl rfl rfl ?_
                  refine WL.opN rfl rfl rfl rfl ?_
                  refine WL.op rfl (d_pick rfl rfl ?_)
                  refine WL.op rfl (d_assign rfl ?_)
                  refine WL.op rfl (d_assign rfl ?_)
                  refine WL.done (X.then_code ?_)
                  refine W.ret (X.block_ret (X.then_ret (X.ret2 rfl rfl rfl ?_)))
                  have e1 : isB name b = (decide (b = 9 ∨ b = 32)) := by unfold isB; rw [if_neg c16, if_neg c18, if_neg c20, if_neg c22, if_neg c24, if_neg c26, if_pos c28]
                  have e2 : isOk name = true := by unfold isOk; simp [c28]
                  exact ⟨(by rw [e1, e2]; all_goals exact tup2 (by (first | rfl | (rw [Bool.eq_iff_iff]; (try simp only [upN, loN, diN, Bool.or_eq_true, Bool.and_eq_true, Bool.not_eq_true', decide_eq_true_eq, decide_eq_false_iff_not, Bool.false_eq_true, iff_false, iff_true, true_iff, false_iff] at *); omega)))), H0.noneL⟩
                · skip
                  refine WL.opG rfl rfl rfl (d_move rfl ?_)
                  refine WL.opG rfl rfl rfl (d_cmp (decide (((b : Nat) : Int) = (32 : Int))) rfl rfl rfl ?_)
                  refine WL.op rfl (d_pick rfl rfl ?_)
                  refine WL.op rfl (d_assign rfl ?_)
                  refine WL.op rfl (d_assign rfl ?_)
                  refine WL.done (X.then_code ?_)
                  refine W.ret (X.block_ret (X.then_ret (X.ret2 rfl rfl rfl ?_)))
                  have e1 : isB name b = (decide (b = 9 ∨ b = 32)) := by unfold isB; rw [if_neg c16, if_neg c18, if_neg c20, if_neg c22, if_neg c24, if_neg c26, if_pos c28]
                  have e2 : isOk name = true := by unfold isOk; simp [c28]
                  exact ⟨(by rw [e1, e2]; all_goals exact tup2 (by (first | rfl | (rw [Bool.eq_iff_iff]; (try simp only [upN, loN, diN, Bool.or_eq_true, Bool.and_eq_true, Bool.not_eq_true', decide_eq_true_eq, decide_eq_false_iff_not, Bool.false_eq_true, iff_false, iff_true, true_iff, false_iff] at *); omega)))), H0.noneL⟩
              · skip
                refine W.seq ?_
                refine W.region ?_
                refine WL.op rfl (d_streq rfl rfl ?_)
                refine WL.op rfl (d_assign rfl ?_)
                refine WL.done (X.then_code ?_)
                refine W.ite (p := name = ⟨#[112, 117, 110, 99, 116]⟩) rfl (fun c30 => ?_) (fun c30 => ?_)
                · skip
                  refine W.seq ?_
                  refine W.region ?_
                  refine WL.op rfl (d_move rfl ?_)
                  refine WL.op rfl (d_cmp (decide (((b : Nat) : Int) ≥ (33 : Int))) rfl rfl rfl ?_)
                  refine WL.op rfl (d_move rfl ?_)
                  refine WL.part 63 (p := ((b : Nat) : Int) ≥ (33 : Int)) rfl (fun g31 => ?_) (fun g31 => ?_)
                  · skip
                    refine WL.opG rfl rfl rfl (d_move rfl ?_)
                    refine WL.opG rfl rfl rfl (d_cmp (decide (((b : Nat) : Int) ≤ (126 : Int))) rfl rfl rfl ?_)
                    refine WL.op rfl (d_pick rfl rfl ?_)
                    refine WL.op rfl (d_move rfl ?_)
                    refine WL.part 67 (p := ((b : Nat) : Int) ≤ (126 : Int)) rfl (fun g31x => ?_) (fun g31x => ?_)
                    · skip
                      refine WL.opG rfl rfl rfl (d_move rfl ?_)
                      refine WL.opG rfl rfl rfl (d_call ok23 rfl (Ret.calls (up_any b w  ) fun _ w9 p9 => ?_))
                      obtain ⟨rfl, u9⟩ := p9
                      have H9 : UpG w [] w9 [] := H0.call u9
                      refine WL.opG rfl rfl rfl (d_notB rfl ?_)
                      refine WL.op rfl (d_pick rfl rfl ?_)
                      refine WL.op rfl (d_move rfl ?_)
                      refine WL.partB 72 (b := !(upN b)) rfl (fun g31xx => ?_) (fun g31xx => ?_)
                      · skip
                        refine WL.opG rfl rfl rfl (d_move rfl ?_)
                        refine WL.opG rfl rfl rfl (d_call ok25 rfl (Ret.calls (lo_any b w9  ) fun _ w10 p10 => ?_))
                        obtain ⟨rfl, u10⟩ := p10
                        have H10 : UpG w [] w10 [] := H9.call u10
                        refine WL.opG rfl rfl rfl (d_notB rfl ?_)
                        refine WL.op rfl (d_pick rfl rfl ?_)
                        refine WL.op rfl (d_move rfl ?_)
                        refine WL.partB 77 (b := !(loN b)) rfl (fun g31xxx => ?_) (fun g31xxx => ?_)
                        · skip
                          refine WL.opG rfl rfl rfl (d_move rfl ?_)
                          refine WL.opG rfl rfl rfl (d_call ok30 rfl (Ret.calls (di_any b w10  ) fun _ w11 p11 => ?_))
                          obtain ⟨rfl, u11⟩ := p11
                          have H11 : UpG w [] w11 [] := H10.call u11
                          refine WL.opG rfl rfl rfl (d_notB rfl ?_)
                          refine WL.op rfl (d_pick rfl rfl ?_)
                          refine WL.op rfl (d_assign rfl ?_)
                          refine WL.op rfl (d_assign rfl ?_)
                          refine WL.done (X.then_code ?_)
                          refine W.pick [5, 4] (Γ' := [(5, .bool true), (4, .bool (!(diN b)))]) rfl ?_
                          refine W.ret (X.block_ret (X.then_ret (X.ret2 rfl rfl rfl ?_)))
                          have e1 : isB name b = (decide (33 ≤ b ∧ b ≤ 126) && !upN b && !loN b && !diN b) := by unfold isB; rw [if_neg c16, if_neg c18, if_neg c20, if_neg c22, if_neg c24, if_neg c26, if_neg c28, if_pos c30]
                          have e2 : isOk name = true := by unfold isOk; simp [c30]
                          exact ⟨(by rw [e1, e2]; all_goals exact tup2 (by (first | rfl | (rw [Bool.eq_iff_iff]; (try simp only [upN, loN, diN, Bool.or_eq_true, Bool.and_eq_true, Bool.not_eq_true', decide_eq_true_eq, decide_eq_false_iff_not, Bool.false_eq_true, iff_false, iff_true, true_iff, false_iff] at *); omega)))), H11.noneL⟩
                        · skip
                          refine WL.opN rfl rfl rfl rfl ?_
                          refine WL.opN rfl rfl rfl rfl ?_
                          refine WL.opN rfl rfl rfl rfl ?_
                          refine WL.op rfl (d_pick rfl rfl ?_)
                          refine WL.op rfl (d_assign rfl ?_)
                          refine WL.op rfl (d_assign rfl ?_)
                          refine WL.done (X.then_code ?_)
                          refine W.pick [5, 4] (Γ' := [(5, .bool true), (4, .bool false)]) rfl ?_
                          refine W.ret (X.block_ret (X.then_ret (X.ret2 rfl rfl rfl ?_)))
                          have e1 : isB name b = (decide (33 ≤ b ∧ b ≤ 126) && !upN b && !loN b && !diN b) := by unfold isB; rw [if_neg c16, if_neg c18, if_neg c20, if_neg c22, if_neg c24, if_neg c26, if_neg c28, if_pos c30]
                          have e2 : isOk name = true := by unfold isOk; simp [c30]
                          exact ⟨(by rw [e1, e2]; all_goals exact tup2 (by (first | rfl | (rw [Bool.eq_iff_iff]; (try simp only [upN, loN, diN, Bool.or_eq_true, Bool.and_eq_true, Bool.not_eq_true', decide_eq_true_eq, decide_eq_false_iff_not, Bool.false_eq_true, iff_false, iff_true, true_iff, false_iff] at *); omega)))), H10.noneL⟩
                      · skip
                        refine WL.opN rfl rfl rfl rfl ?_
                        refine WL.opN rfl rfl rfl rfl ?_
                        refine WL.opN rfl rfl rfl rfl ?_
                        refine WL.op rfl (d_pick rfl rfl ?_)
                        refine WL.op rfl (d_move rfl ?_)
                        refine WL.opN rfl rfl rfl rfl ?_
                        refine WL.opN rfl rfl rfl rfl ?_
                        refine WL.opN rfl rfl rfl rfl ?_
                        refine WL.op rfl (d_pick rfl rfl ?_)
                        refine WL.op rfl (d_assign rfl ?_)
                        refine WL.op rfl (d_assign rfl ?_)
                        refine WL.done (X.then_code ?_)
                        refine W.pick [5, 4] (Γ' := [(5, .bool true), (4, .bool false)]) rfl ?_
                        refine W.ret (X.block_ret (X.then_ret (X.ret2 rfl rfl rfl ?_)))
                        have e1 : isB name b = (decide (33 ≤ b ∧ b ≤ 126) && !upN b && !loN b && !diN b) := by unfold isB; rw [if_neg c16, if_neg c18, if_neg c20, if_neg c22, if_neg c24, if_neg c26, if_neg c28, if_pos c30]
                        have e2 : isOk name = true := by unfold isOk; simp [c30]
                        exact ⟨(by rw [e1, e2]; all_goals exact tup2 (by (first | rfl | (rw [Bool.eq_iff_iff]; (try simp only [upN, loN, diN, Bool.or_eq_true, Bool.and_eq_true, Bool.not_eq_true', decide_eq_true_eq, decide_eq_false_iff_not, Bool.false_eq_true, iff_false, iff_true, true_iff, false_iff] at *); omega)))), H9.noneL⟩
                    · skip
                      refine WL.opN rfl rfl rfl rfl ?_
                      refine WL.opN rfl rfl rfl rfl ?_
                      refine WL.opN rfl rfl rfl rfl ?_
                      refine WL.op rfl (d_pick rfl rfl ?_)
                      refine WL.op rfl (d_move rfl ?_)
                      refine WL.opN rfl rfl rfl rfl ?_
                      refine WL.opN rfl rfl rfl rfl ?_
                      refine WL.opN rfl rfl rfl rfl ?_
                      refine WL.op rfl (d_pick rfl rfl ?_)
                      refine WL.op rfl (d_move rfl ?_)
                      refine WL.opN rfl rfl rfl rfl ?_
                      refine WL.opN rfl rfl rfl rfl ?_
                      refine WL.opN rfl rfl rfl rfl ?_
                      refine WL.op rfl (d_pick rfl rfl ?_)
                      refine WL.op rfl (d_assign rfl ?_)
                      refine WL.op rfl (d_assign rfl ?_)
                      refine WL.done (X.then_code ?_)
                      refine W.pick [5, 4] (Γ' := [(5, .bool true), (4, .bool false)]) rfl ?_
                      refine W.ret (X.block_ret (X.then_ret (X.ret2 rfl rfl rfl ?_)))
                      have e1 : isB name b = (decide (33 ≤ b ∧ b ≤ 126) && !upN b && !loN b && !diN b) := by unfold isB; rw [if_neg c16, if_neg c18, if_neg c20, if_neg c22, if_neg c24, if_neg c26, if_neg c28, if_pos c30]
                      have e2 : isOk name = true := by unfold isOk; simp [c30]
                      exact ⟨(by rw [e1, e2]; all_goals exact tup2 (by (first | rfl | (rw [Bool.eq_iff_iff]; (try simp only [upN, loN, diN, Bool.or_eq_true, Bool.and_eq_true, Bool.not_eq_true', decide_eq_true_eq, decide_eq_false_iff_not, Bool.false_eq_true, iff_false, iff_true, true_iff, false_iff] at *); omega)))), H0.noneL⟩
                  · skip
                    refine WL.opN rfl rfl rfl rfl ?_
                    refine WL.opN rfl rfl rfl rfl ?_
                    refine WL.op rfl (d_pick rfl rfl ?_)
                    refine WL.op rfl (d_move rfl ?_)
                    refine WL.opN rfl rfl rfl rfl ?_
                    refine WL.opN rfl rfl rfl rfl ?_
                    refine WL.opN rfl rfl rfl rfl ?_
                    refine WL.op rfl (d_pick rfl rfl ?_)
                    refine WL.op rfl (d_move rfl ?_)
                    refine WL.opN rfl rfl rfl rfl ?_
                    refine WL.opN rfl rfl rfl rfl ?_
                    refine WL.opN rfl rfl rfl rfl ?_
                    refine WL.op rfl (d_pick rfl rfl ?_)
                    refine WL.op rfl (d_move rfl ?_)
                    refine WL.opN rfl rfl rfl rfl ?_
                    refine WL.opN rfl rfl rfl rfl ?_
                    refine WL.opN rfl rfl rfl rfl ?_
                    refine WL.op rfl (d_pick rfl rfl ?_)
                    refine WL.op rfl (d_assign rfl ?_)
                    refine WL.op rfl (d_assign rfl ?_)
                    refine WL.done (X.then_code ?_)
                    refine W.pick [5, 4] (Γ' := [(5, .bool true), (4, .bool false)]) rfl ?_
                    refine W.ret (X.block_ret (X.then_ret (X.ret2 rfl rfl rfl ?_)))
                    have e1 : isB name b = (decide (33 ≤ b ∧ b ≤ 126) && !upN b && !loN b && !diN b) := by unfold isB; rw [if_neg c16, if_neg c18, if_neg c20, if_neg c22, if_neg c24, if_neg c26, if_neg c28, if_pos c30]
                    have e2 : isOk name = true := by unfold isOk; simp [c30]
                    exact ⟨(by rw [e1, e2]; all_goals exact tup2 (by (first | rfl | (rw [Bool.eq_iff_iff]; (try simp only [upN, loN, diN, Bool.or_eq_true, Bool.and_eq_true, Bool.not_eq_true', decide_eq_true_eq, decide_eq_false_iff_not, Bool.false_eq_true, iff_false, iff_true, true_iff, false_iff] at *); omega)))), H0.noneL⟩
                · skip
                  refine W.seq ?_
                  refine W.region ?_
                  refine WL.op rfl (d_streq rfl rfl ?_)
                  refine WL.op rfl (d_assign rfl ?_)
                  refine WL.done (X.then_code ?_)
                  refine W.ite (p := name = ⟨#[103, 114, 97, 112, 104]⟩) rfl (fun c32 => ?_) (fun c32 => ?_)
                  · skip
                    refine W.seq ?_
                    refine W.region ?_
                    refine WL.op rfl (d_move rfl ?_)
                    refine WL.op rfl (d_cmp (decide (((b : Nat) : Int) ≥ (33 : Int))) rfl rfl rfl ?_)
                    refine WL.op rfl (d_move rfl ?_)
                    refine WL.part 86 (p := ((b : Nat) : Int) ≥ (33 : Int)) rfl (fun g33 => ?_) (fun g33 => ?_)
                    · skip
                      refine WL.opG rfl rfl rfl (d_move rfl ?_)
                      refine WL.opG rfl rfl rfl (d_cmp (decide (((b : Nat) : Int) ≤ (126 : Int))) rfl rfl rfl ?_)
                      refine WL.op rfl (d_pick rfl rfl ?_)
                      refine WL.op rfl (d_assign rfl ?_)
                      refine WL.op rfl (d_assign rfl ?_)
                      refine WL.done (X.then_code ?_)
                      refine W.ret (X.block_ret (X.then_ret (X.ret2 rfl rfl rfl ?_)))
                      have e1 : isB name b = (decide (33 ≤ b ∧ b ≤ 126)) := by unfold isB; rw [if_neg c16, if_neg c18, if_neg c20, if_neg c22, if_neg c24, if_neg c26, if_neg c28, if_neg c30, if_pos c32]
                      have e2 : isOk name = true := by unfold isOk; simp [c32]
                      exact ⟨(by rw [e1, e2]; all_goals exact tup2 (by (first | rfl | (rw [Bool.eq_iff_iff]; (try simp only [upN, loN, diN, Bool.or_eq_true, Bool.and_eq_true, Bool.not_eq_true', decide_eq_true_eq, decide_eq_false_iff_not, Bool.false_eq_true, iff_false, iff_true, true_iff, false_iff] at *); omega)))), H0.noneL⟩
                    · skip
                      refine WL.opN rfl rfl rfl rfl ?_
                      refine WL.opN rfl rfl rfl rfl ?_
                      refine WL.op rfl (d_pick rfl rfl ?_)
                      refine WL.op rfl (d_assign rfl ?_)
                      refine WL.op rfl (d_assign rfl ?_)
                      refine WL.done (X.then_code ?_)
                      refine W.ret (X.block_ret (X.then_ret (X.ret2 rfl rfl rfl ?_)))
                      have e1 : isB name b = (decide (33 ≤ b ∧ b ≤ 126)) := by unfold isB; rw [if_neg c16, if_neg c18, if_neg c20, if_neg c22, if_neg c24, if_neg c26, if_neg c28, if_neg c30, if_pos c32]
                      have e2 : isOk name = true := by unfold isOk; simp [c32]
                      exact ⟨(by rw [e1, e2]; all_goals exact tup2 (by (first | rfl | (rw [Bool.eq_iff_iff]; (try simp only [upN, loN, diN, Bool.or_eq_true, Bool.and_eq_true, Bool.not_eq_true', decide_eq_true_eq, decide_eq_false_iff_not, Bool.false_eq_true, iff_false, iff_true, true_iff, false_iff] at *); omega)))), H0.noneL⟩
                  · skip
                    refine W.seq ?_
                    refine W.region ?_
                    refine WL.op rfl (d_streq rfl rfl ?_)
                    refine WL.op rfl (d_assign rfl ?_)
                    refine WL.done (X.then_code ?_)
                    refine W.ite (p := name = ⟨#[112, 114, 105, 110, 116]⟩) rfl (fun c34 => ?_) (fun c34 => ?_)
                    · skip
                      refine W.seq ?_
                      refine W.region ?_
                      refine WL.op rfl (d_move rfl ?_)
                      refine WL.op rfl (d_cmp (decide (((b : Nat) : Int) ≥ (32 : Int))) rfl rfl rfl ?_)
                      refine WL.op rfl (d_move rfl ?_)
                      refine WL.part 94 (p := ((b : Nat) : Int) ≥ (32 : Int)) rfl (fun g35 => ?_) (fun g35 => ?_)
                      · skip
                        refine WL.opG rfl rfl rfl (d_move rfl ?_)
                        refine WL.opG rfl rfl rfl (d_cmp (decide (((b : Nat) : Int) ≤ (126 : Int))) rfl rfl rfl ?_)
                        refine WL.op rfl (d_pick rfl rfl ?_)
                        refine WL.op rfl (d_assign rfl ?_)
                        refine WL.op rfl (d_assign rfl ?_)
                        refine WL.done (X.then_code ?_)
                        refine W.pick [5, 4] (Γ' := [(5, .bool true), (4, .bool (decide (((b : Nat) : Int) ≤ (126 : Int))))]) rfl ?_
                        refine W.ret (X.block_ret (X.then_ret (X.ret2 rfl rfl rfl ?_)))
                        have e1 : isB name b = (decide (32 ≤ b ∧ b ≤ 126)) := by unfold isB; rw [if_neg c16, if_neg c18, if_neg c20, if_neg c22, if_neg c24, if_neg c26, if_neg c28, if_neg c30, if_neg c32, if_pos c34]
                        have e2 : isOk name = true := by unfold isOk; simp [c34]
                        exact ⟨(by rw [e1, e2]; all_goals exact tup2 (by (first | rfl | (rw [Bool.eq_iff_iff]; (try simp only [upN, loN, diN, Bool.or_eq_true, Bool.and_eq_true, Bool.not_eq_true', decide_eq_true_eq, decide_eq_false_iff_not, Bool.false_eq_true, iff_false, iff_true, true_iff, false_iff] at *); omega)))), H0.noneL⟩
                      · skip
                        refine WL.opN rfl rfl rfl rfl ?_
                        refine WL.opN rfl rfl rfl rfl ?_
                        refine WL.op rfl (d_pick rfl rfl ?_)
                        refine WL.op rfl (d_assign rfl ?_)
                        refine WL.op rfl (d_assign rfl ?_)
                        refine WL.done (X.then_code ?_)
                        refine W.pick [5, 4] (Γ' := [(5, .bool true), (4, .bool false)]) rfl ?_
                        refine W.ret (X.block_ret (X.then_ret (X.ret2 rfl rfl rfl ?_)))
                        have e1 : isB name b = (decide (32 ≤ b ∧ b ≤ 126)) := by unfold isB; rw [if_neg c16, if_neg c18, if_neg c20, if_neg c22, if_neg c24, if_neg c26, if_neg c28, if_neg c30, if_neg c32, if_pos c34]
                        have e2 : isOk name = true := by unfold isOk; simp [c34]
                        exact ⟨(by rw [e1, e2]; all_goals exact tup2 (by (first | rfl | (rw [Bool.eq_iff_iff]; (try simp only [upN, loN, diN, Bool.or_eq_true, Bool.and_eq_true, Bool.not_eq_true', decide_eq_true_eq, decide_eq_false_iff_not, Bool.false_eq_true, iff_false, iff_true, true_iff, false_iff] at *); omega)))), H0.noneL⟩
                    · skip
                      refine W.seq ?_
                      refine W.region ?_
                      refine WL.op rfl (d_streq rfl rfl ?_)
                      refine WL.op rfl (d_assign rfl ?_)
                      refine WL.done (X.then_code ?_)
                      refine W.ite (p := name = ⟨#[99, 110, 116, 114, 108]⟩) rfl (fun c36 => ?_) (fun c36 => ?_)
                      · skip
                        refine W.seq ?_
                        refine W.region ?_
                        refine WL.op rfl (d_move rfl ?_)
                        refine WL.op rfl (d_cmp (decide (((b : Nat) : Int) < (32 : Int))) rfl rfl rfl ?_)
                        refine WL.op rfl (d_move rfl ?_)
                        refine WL.part 102 (p := ((b : Nat) : Int) < (32 : Int)) rfl (fun g37 => ?_) (fun g37 => ?_)
                        · skip
                          refine WL.opN rfl rfl rfl rfl ?_
                          refine WL.opN rfl rfl rfl rfl ?_
                          refine WL.op rfl (d_pick rfl rfl ?_)
                          refine WL.op rfl (d_assign rfl ?_)
                          refine WL.op rfl (d_assign rfl ?_)
                          refine WL.done (X.then_code ?_)
                          refine W.pick [5, 4] (Γ' := [(5, .bool true), (4, .bool true)]) rfl ?_
                          refine W.ret (X.block_ret (X.then_ret (X.ret2 rfl rfl rfl ?_)))
                          have e1 : isB name b = (decide (b < 32 ∨ b = 127)) := by unfold isB; rw [if_neg c16, if_neg c18, if_neg c20, if_neg c22, if_neg c24, if_neg c26, if_neg c28, if_neg c30, if_neg c32, if_neg c34, if_pos c36]
                          have e2 : isOk name = true := by unfold isOk; simp [c36]
                          exact ⟨(by rw [e1, e2]; all_goals exact tup2 (by (first | rfl | (rw [Bool.eq_iff_iff]; (try simp only [upN, loN, diN, Bool.or_eq_true, Bool.and_eq_true, Bool.not_eq_true', decide_eq_true_eq, decide_eq_false_iff_not, Bool.false_eq_true, iff_false, iff_true, true_iff, false_iff] at *); omega)))), H0.noneL⟩
                        · skip
                          refine WL.opG rfl rfl rfl (d_move rfl ?_)
                          refine WL.opG rfl rfl rfl (d_cmp (decide (((b : Nat) : Int) = (127 : Int))) rfl rfl rfl ?_)
                          refine WL.op rfl (d_pick rfl rfl ?_)
                          refine WL.op rfl (d_assign rfl ?_)
                          refine WL.op rfl (d_assign rfl ?_)
                          refine WL.done (X.then_code ?_)
                          refine W.pick [5, 4] (Γ' := [(5, .bool true), (4, .bool (decide (((b : Nat) : Int) = (127 : Int))))]) rfl ?_
                          refine W.ret (X.block_ret (X.then_ret (X.ret2 rfl rfl rfl ?_)))
                          have e1 : isB name b = (decide (b < 32 ∨ b = 127)) := by unfold isB; rw [if_neg c16, if_neg c18, if_neg c20, if_neg c22, if_neg c24, if_neg c26, if_neg c28, if_neg c30, if_neg c32, if_neg c34, if_pos c36]
                          have e2 : isOk name = true := by unfold isOk; simp [c36]
                          exact ⟨(by rw [e1, e2]; all_goals exact tup2 (by (first | rfl | (rw [Bool.eq_iff_iff]; (try simp only [upN, loN, diN, Bool.or_eq_true, Bool.and_eq_true, Bool.not_eq_true', decide_eq_true_eq, decide_eq_false_iff_not, Bool.false_eq_true, iff_false, iff_true, true_iff, false_iff] at *); omega)))), H0.noneL⟩
                      · skip
                        refine W.seq ?_
                        refine W.region ?_
                        refine WL.op rfl (d_streq rfl rfl ?_)
                        refine WL.op rfl (d_assign rfl ?_)
                        refine WL.done (X.then_code ?_)
                        refine W.ite (p := name = ⟨#[120, 100, 105, 103, 105, 116]⟩) rfl (fun c38 => ?_) (fun c38 => ?_)
                        · skip
                          refine W.seq ?_
                          refine W.region ?_
                          refine WL.op rfl (d_move rfl ?_)
                          refine WL.op rfl (d_call ok30 rfl (Ret.calls (di_any b w  ) fun _ w12 p12 => ?_))
                          obtain ⟨rfl, u12⟩ := p12
                          have H12 : UpG w [] w12 [] := H0.call u12
                          refine WL.op rfl (d_move rfl ?_)
                          refine WL.partB 110 (b := diN b) rfl (fun g39 => ?_) (fun g39 => ?_)
                          · skip
                            refine WL.opN rfl rfl rfl rfl ?_
                            refine WL.opN rfl rfl rfl rfl ?_
                            refine WL.opN rfl rfl rfl rfl ?_
                            refine WL.opU rfl rfl rfl ?_
                            refine WL.opU rfl rfl rfl ?_
                            refine WL.opN rfl rfl rfl rfl ?_
                            refine WL.op rfl (d_pick rfl rfl ?_)
                            refine WL.op rfl (d_move rfl ?_)
                            refine WL.opN rfl rfl rfl rfl ?_
                            refine WL.opN rfl rfl rfl rfl ?_
                            refine WL.opN rfl rfl rfl rfl ?_
                            refine WL.opU rfl rfl rfl ?_
                            refine WL.opU rfl rfl rfl ?_
                            refine WL.opN rfl rfl rfl rfl ?_
                            refine WL.op rfl (d_pick rfl rfl ?_)
                            refine WL.op rfl (d_assign rfl ?_)
                            refine WL.op rfl (d_assign rfl ?_)
                            refine WL.done (X.then_code ?_)
                            refine W.pick [5, 4] (Γ' := [(5, .bool true), (4, .bool true)]) rfl ?_
                            refine W.ret (X.block_ret (X.then_ret (X.ret2 rfl rfl rfl ?_)))
                            have e1 : isB name b = (diN b || decide (65 ≤ b ∧ b ≤ 70 ∨ 97 ≤ b ∧ b ≤ 102)) := by unfold isB; rw [if_neg c16, if_neg c18, if_neg c20, if_neg c22, if_neg c24, if_neg c26, if_neg c28, if_neg c30, if_neg c32, if_neg c34, if_neg c36, if_pos c38]
                            have e2 : isOk name = true := by unfold isOk; simp [c38]
                            exact ⟨(by rw [e1, e2]; all_goals exact tup2 (by (first | rfl | (rw [Bool.eq_iff_iff]; (try simp only [upN, loN, diN, Bool.or_eq_true, Bool.and_eq_true, Bool.not_eq_true', decide_eq_true_eq, decide_eq_false_iff_not, Bool.false_eq_true, iff_false, iff_true, true_iff, false_iff] at *); omega)))), H12.noneL⟩
                          · skip
                            refine WL.opG rfl rfl rfl (d_move rfl ?_)
                            refine WL.opG rfl rfl rfl (d_cmp (decide (((b : Nat) : Int) ≥ (65 : Int))) rfl rfl rfl ?_)
                            refine WL.opG rfl rfl rfl (d_move rfl ?_)
                            refine WL.part 113 (p := ((b : Nat) : Int) ≥ (65 : Int)) rfl (fun g39x => ?_) (fun g39x => ?_)
                            · skip
                              refine WL.opG rfl rfl rfl (d_move rfl ?_)
                              refine WL.opG rfl rfl rfl (d_cmp (decide (((b : Nat) : Int) ≤ (70 : Int))) rfl rfl rfl ?_)
                              refine WL.opG rfl rfl rfl (d_pick rfl rfl ?_)
                              refine WL.op rfl (d_pick rfl rfl ?_)
                              refine WL.op rfl (d_move rfl ?_)
                              refine WL.part 118 (p := ((b : Nat) : Int) ≤ (70 : Int)) rfl (fun g39xx => ?_) (fun g39xx => ?_)
                              · skip
                                refine WL.opN rfl rfl rfl rfl ?_
                                refine WL.opN rfl rfl rfl rfl ?_
                                refine WL.opN rfl rfl rfl rfl ?_
                                refine WL.opU rfl rfl rfl ?_
                                refine WL.opU rfl rfl rfl ?_
                                refine WL.opN rfl rfl rfl rfl ?_
                                refine WL.op rfl (d_pick rfl rfl ?_)
                                refine WL.op rfl (d_assign rfl ?_)
                                refine WL.op rfl (d_assign rfl ?_)
                                refine WL.done (X.then_code ?_)
                                refine W.pick [5, 4] (Γ' := [(5, .bool true), (4, .bool true)]) rfl ?_
                                refine W.ret (X.block_ret (X.then_ret (X.ret2 rfl rfl rfl ?_)))
                                have e1 : isB name b = (diN b || decide (65 ≤ b ∧ b ≤ 70 ∨ 97 ≤ b ∧ b ≤ 102)) := by unfold isB; rw [if_neg c16, if_neg c18, if_neg c20, if_neg c22, if_neg c24, if_neg c26, if_neg c28, if_neg c30, if_neg c32, if_neg c34, if_neg c36, if_pos c38]
                                have e2 : isOk name = true := by unfold isOk; simp [c38]
                                exact ⟨(by rw [e1, e2]; all_goals exact tup2 (by (first | rfl | (rw [Bool.eq_iff_iff]; (try simp only [upN, loN, diN, Bool.or_eq_true, Bool.and_eq_true, Bool.not_eq_true', decide_eq_true_eq, decide_eq_false_iff_not, Bool.false_eq_true, iff_false, iff_true, true_iff, false_iff] at *); omega)))), H12.noneL⟩
                              · skip
                                refine WL.opG rfl rfl rfl (d_move rfl ?_)
                                refine WL.opG rfl rfl rfl (d_cmp (decide (((b : Nat) : Int) ≥ (97 : Int))) rfl rfl rfl ?_)
                                refine WL.opG rfl rfl rfl (d_move rfl ?_)
                                refine WL.part 121 (p := ((b : Nat) : Int) ≥ (97 : Int)) rfl (fun g39xxx => ?_) (fun g39xxx => ?_)
                                · skip
                                  refine WL.opG rfl rfl rfl (d_move rfl ?_)
                                  refine WL.opG rfl rfl rfl (d_cmp (decide (((b : Nat) : Int) ≤ (102 : Int))) rfl rfl rfl ?_)
                                  refine WL.opG rfl rfl rfl (d_pick rfl rfl ?_)
                                  refine WL.op rfl (d_pick rfl rfl ?_)
                                  refine WL.op rfl (d_assign rfl ?_)
                                  refine WL.op rfl (d_assign rfl ?_)
                                  refine WL.done (X.then_code ?_)
                                  refine W.pick [5, 4] (Γ' := [(5, .bool true), (4, .bool (decide (((b : Nat) : Int) ≤ (102 : Int))))]) rfl ?_
                                  refine W.ret (X.block_ret (X.then_ret (X.ret2 rfl rfl rfl ?_)))
                                  have e1 : isB name b = (diN b || decide (65 ≤ b ∧ b ≤ 70 ∨ 97 ≤ b ∧ b ≤ 102)) := by unfold isB; rw [if_neg c16, if_neg c18, if_neg c20, if_neg c22, if_neg c24, if_neg c26, if_neg c28, if_neg c30, if_neg c32, if_neg c34, if_neg c36, if_pos c38]
                                  have e2 : isOk name = true := by unfold isOk; simp [c38]
                                  exact ⟨(by rw [e1, e2]; all_goals exact tup2 (by (first | rfl | (rw [Bool.eq_iff_iff]; (try simp only [upN, loN, diN, Bool.or_eq_true, Bool.and_eq_true, Bool.not_eq_true', decide_eq_true_eq, decide_eq_false_iff_not, Bool.false_eq_true, iff_false, iff_true, true_iff, false_iff] at *); omega)))), H12.noneL⟩
                                · skip
                                  refine WL.opN rfl rfl rfl rfl ?_
                                  refine WL.opN rfl rfl rfl rfl ?_
                                  refine WL.opG rfl rfl rfl (d_pick rfl rfl ?_)
                                  refine WL.op rfl (d_pick rfl rfl ?_)
                                  refine WL.op rfl (d_assign rfl ?_)
                                  refine WL.op rfl (d_assign rfl ?_)
                                  refine WL.done (X.then_code ?_)
                                  refine W.pick [5, 4] (Γ' := [(5, .bool true), (4, .bool false)]) rfl ?_
                                  refine W.ret (X.block_ret (X.then_ret (X.ret2 rfl rfl rfl ?_)))
                                  have e1 : isB name b = (diN b || decide (65 ≤ b ∧ b ≤ 70 ∨ 97 ≤ b ∧ b ≤ 102)) := by unfold isB; rw [if_neg c16, if_neg c18, if_neg c20, if_neg c22, if_neg c24, if_neg c26, if_neg c28, if_neg c30, if_neg c32, if_neg c34, if_neg c36, if_pos c38]
                                  have e2 : isOk name = true := by unfold isOk; simp [c38]
                                  exact ⟨(by rw [e1, e2]; all_goals exact tup2 (by (first | rfl | (rw [Bool.eq_iff_iff]; (try simp only [upN, loN, diN, Bool.or_eq_true, Bool.and_eq_true, Bool.not_eq_true', decide_eq_true_eq, decide_eq_false_iff_not, Bool.false_eq_true, iff_false, iff_true, true_iff, false_iff] at *); omega)))), H12.noneL⟩
                            · skip
                              refine WL.opN rfl rfl rfl rfl ?_
                              refine WL.opN rfl rfl rfl rfl ?_
                              refine WL.opG rfl rfl rfl (d_pick rfl rfl ?_)
                              refine WL.op rfl (d_pick rfl rfl ?_)
                              refine WL.op rfl (d_move rfl ?_)
                              refine WL.opG rfl rfl rfl (d_move rfl ?_)
                              refine WL.opG rfl rfl rfl (d_cmp (decide (((b : Nat) : Int) ≥ (97 : Int))) rfl rfl rfl ?_)
                              refine WL.opG rfl rfl rfl (d_move rfl ?_)
                              refine WL.part 121 (p := ((b : Nat) : Int) ≥ (97 : Int)) rfl (fun g39xx => ?_) (fun g39xx => ?_)
                              · skip
                                refine WL.opG rfl rfl rfl (d_move rfl ?_)
                                refine WL.opG rfl rfl rfl (d_cmp (decide (((b : Nat) : Int) ≤ (102 : Int))) rfl rfl rfl ?_)
                                refine WL.opG rfl rfl rfl (d_pick rfl rfl ?_)
                                refine WL.op rfl (d_pick rfl rfl ?_)
                                refine WL.op rfl (d_assign rfl ?_)
                                refine WL.op rfl (d_assign rfl ?_)
                                refine WL.done (X.then_code ?_)
                                refine W.pick [5, 4] (Γ' := [(5, .bool true), (4, .bool (decide (((b : Nat) : Int) ≤ (102 : Int))))]) rfl ?_
                                refine W.ret (X.block_ret (X.then_ret (X.ret2 rfl rfl rfl ?_)))
                                have e1 : isB name b = (diN b || decide (65 ≤ b ∧ b ≤ 70 ∨ 97 ≤ b ∧ b ≤ 102)) := by unfold isB; rw [if_neg c16, if_neg c18, if_neg c20, if_neg c22, if_neg c24, if_neg c26, if_neg c28, if_neg c30, if_neg c32, if_neg c34, if_neg c36, if_pos c38]
                                have e2 : isOk name = true := by unfold isOk; simp [c38]
                                exact ⟨(by rw [e1, e2]; all_goals exact tup2 (by (first | rfl | (rw [Bool.eq_iff_iff]; (try simp only [upN, loN, diN, Bool.or_eq_true, Bool.and_eq_true, Bool.not_eq_true', decide_eq_true_eq, decide_eq_false_iff_not, Bool.false_eq_true, iff_false, iff_true, true_iff, false_iff] at *); omega)))), H12.noneL⟩
                              · skip
                                refine WL.opN rfl rfl rfl rfl ?_
                                refine WL.opN rfl rfl rfl rfl ?_
                                refine WL.opG rfl rfl rfl (d_pick rfl rfl ?_)
                                refine WL.op rfl (d_pick rfl rfl ?_)
                                refine WL.op rfl (d_assign rfl ?_)
                                refine WL.op rfl (d_assign rfl ?_)
                                refine WL.done (X.then_code ?_)
                                refine W.pick [5, 4] (Γ' := [(5, .bool true), (4, .bool false)]) rfl ?_
                                refine W.ret (X.block_ret (X.then_ret (X.ret2 rfl rfl rfl ?_)))
                                have e1 : isB name b = (diN b || decide (65 ≤ b ∧ b ≤ 70 ∨ 97 ≤ b ∧ b ≤ 102)) := by unfold isB; rw [if_neg c16, if_neg c18, if_neg c20, if_neg c22, if_neg c24, if_neg c26, if_neg c28, if_neg c30, if_neg c32, if_neg c34, if_neg c36, if_pos c38]
                                have e2 : isOk name = true := by unfold isOk; simp [c38]
                                exact ⟨(by rw [e1, e2]; all_goals exact tup2 (by (first | rfl | (rw [Bool.eq_iff_iff]; (try simp only [upN, loN, diN, Bool.or_eq_true, Bool.and_eq_true, Bool.not_eq_true', decide_eq_true_eq, decide_eq_false_iff_not, Bool.false_eq_true, iff_false, iff_true, true_iff, false_iff] at *); omega)))), H12.noneL⟩
                        · skip
                          refine W.skip (X.block_normal (X.then_code ?_))
                          refine W.seq ?_
                          refine W.region ?_
                          refine WL.op rfl (d_assign rfl ?_)
                          refine WL.op rfl (d_assign rfl ?_)
                          refine WL.done (X.then_code ?_)
                          refine W.ret (X.ret2 rfl rfl rfl ?_)
                          have e1 : isB name b = (false) := by unfold isB; rw [if_neg c16, if_neg c18, if_neg c20, if_neg c22, if_neg c24, if_neg c26, if_neg c28, if_neg c30, if_neg c32, if_neg c34, if_neg c36, if_neg c38]
                          have e2 : isOk name = false := by unfold isOk; simp [c16, c18, c20, c22, c24, c26, c28, c30, c32, c34, c36, c38]
                          exact ⟨(by rw [e1, e2]; all_goals exact tup2 (by (first | rfl | (rw [Bool.eq_iff_iff]; (try simp only [upN, loN, diN, Bool.or_eq_true, Bool.and_eq_true, Bool.not_eq_true', decide_eq_true_eq, decide_eq_false_iff_not, Bool.false_eq_true, iff_false, iff_true, true_iff, false_iff] at *); omega)))), H0.noneL⟩
end Go.Proofs.YtnjjjmpdikpjaaaDoor


/- Named sets of bytes: what the program answers is what the document says. Conditions: those of each theorem. -/
namespace Go.Sx
set_option linter.unusedVariables false
set_option linter.unusedSimpArgs false
/-! ### Folds -/
/-! ### Escapes -/
theorem awake1 : (escB 119).2 = true := by decide +kernel
theorem awake2 : popB (escB 119).1 = 63 := by decide +kernel
theorem awake3 : foldB (ofS [97, 49]) = ofS [65, 97, 49] := of_decide_eq_true (by decide +kernel)
end Go.Sx


/- The walks of functions, printed by wip/tools/gw.py. -/
namespace Go.Proofs.YtnjjjmpdikpjaaaDoor
open Go Go.Sx
set_option linter.unusedVariables false
set_option linter.unusedSimpArgs false
set_option maxRecDepth 20000 in
theorem rclass_any (name : ByteArray) (w : World) :
    Calls Tryd.prog 16 #[.string name] w (Ret fun v w' => v = .tuple #[.agg #[.int .u64 ((((setOf (isB name)).w0).toNat : Nat) : Int), .int .u64 ((((setOf (isB name)).w1).toNat : Nat) : Int), .int .u64 ((((setOf (isB name)).w2).toNat : Nat) : Int), .int .u64 ((((setOf (isB name)).w3).toNat : Nat) : Int)], .bool (isOk name)] ∧ Upd w [] w' []) := by
  refine calls_of_W (args := [.string name]) Tryd.func16 rfl rfl rfl ?_
  have H0 : UpG w [] w [] := UpG.nil w
  show W _ _ _ _ [(0, .string name)] w
  refine W.seq ?_
  refine W.region ?_
  refine WL.op rfl (d_alloc sz24 fun w1 u1 => ?_)
  have H1 : UpG w [] w1 [[blk w.heap.size #[.int .u64 ((Bs.zero.w0.toNat : Nat) : Int), .int .u64 ((Bs.zero.w1.toNat : Nat) : Int), .int .u64 ((Bs.zero.w2.toNat : Nat) : Int), .int .u64 ((Bs.zero.w3.toNat : Nat) : Int)] 24]] := H0.new' u1
  refine WL.op rfl (d_assign rfl ?_)
  refine WL.done (X.then_code ?_)
  refine W.seq ?_
  refine W.region ?_
  refine WL.op rfl (d_alloc sz24 fun w2 u2 => ?_)
  have H2 : UpG w [] w2 [[blk w.heap.size #[.int .u64 ((Bs.zero.w0.toNat : Nat) : Int), .int .u64 ((Bs.zero.w1.toNat : Nat) : Int), .int .u64 ((Bs.zero.w2.toNat : Nat) : Int), .int .u64 ((Bs.zero.w3.toNat : Nat) : Int)] 24], [blk w1.heap.size #[.int .u64 ((Bs.zero.w0.toNat : Nat) : Int), .int .u64 ((Bs.zero.w1.toNat : Nat) : Int), .int .u64 ((Bs.zero.w2.toNat : Nat) : Int), .int .u64 ((Bs.zero.w3.toNat : Nat) : Int)] 24]] := H1.new' u2
  refine WL.done (X.then_code ?_)
  refine W.seq ?_
  refine W.region ?_
  refine WL.op rfl (d_move rfl ?_)
  refine WL.op rfl (d_call ok29 rfl (Ret.calls (is_any name 0 w2  ) fun _ w3 p1 => ?_))
  obtain ⟨rfl, u3⟩ := p1
  have H3 : UpG w [] w3 [[blk w.heap.size #[.int .u64 ((Bs.zero.w0.toNat : Nat) : Int), .int .u64 ((Bs.zero.w1.toNat : Nat) : Int), .int .u64 ((Bs.zero.w2.toNat : Nat) : Int), .int .u64 ((Bs.zero.w3.toNat : Nat) : Int)] 24], [blk w1.heap.size #[.int .u64 ((Bs.zero.w0.toNat : Nat) : Int), .int .u64 ((Bs.zero.w1.toNat : Nat) : Int), .int .u64 ((Bs.zero.w2.toNat : Nat) : Int), .int .u64 ((Bs.zero.w3.toNat : Nat) : Int)] 24]] := H2.call u3
  refine WL.op rfl (d_move rfl ?_)
  refine WL.op rfl (d_extract rfl rfl ?_)
  refine WL.op rfl (d_extract rfl rfl ?_)
  refine WL.op rfl (d_assign rfl ?_)
  refine WL.op rfl (d_assign rfl ?_)
  refine WL.done (X.then_code ?_)
  refine W.seq ?_
  refine W.seq ?_
  refine W.region ?_
  refine WL.op rfl (d_assign rfl ?_)
  refine WL.done (X.then_code ?_)
  refine W.block ?_
  refine W.pick [7, 6, 4, 3, 2, 0] (Γ' := [(7, .int .i64 0), (6, .bool (isOk name)), (4, .pointer (some ⟨w1.heap.size, 0, none⟩)), (3, .bool false), (2, .pointer (some ⟨w.heap.size, 0, none⟩)), (0, .string name)]) rfl ?_
  refine W.loop (fun m Γ' w' => ∃ k : Nat, ∃ r : Bs, Γ' = [(7, .int .i64 ((k : Nat) : Int)), (6, .bool (isOk name)), (4, .pointer (some ⟨w1.heap.size, 0, none⟩)), (3, .bool false), (2, .pointer (some ⟨w.heap.size, 0, none⟩)), (0, .string name)] ∧ UpG w [] w' [[blk w.heap.size #[.int .u64 ((Bs.zero.w0.toNat : Nat) : Int), .int .u64 ((Bs.zero.w1.toNat : Nat) : Int), .int .u64 ((Bs.zero.w2.toNat : Nat) : Int), .int .u64 ((Bs.zero.w3.toNat : Nat) : Int)] 24], [blk w1.heap.size #[.int .u64 ((r.w0.toNat : Nat) : Int), .int .u64 ((r.w1.toNat : Nat) : Int), .int .u64 ((r.w2.toNat : Nat) : Int), .int .u64 ((r.w3.toNat : Nat) : Int)] 24]] ∧ (k ≤ 256) ∧ (∀ x, x < 256 → r.has x = (decide (x < k) && isB name x)) ∧ m = 256 - k) (256 - 0) ⟨0, Bs.zero, rfl, H3, (by first | assumption | omega | simp), (by intro x hx; rw [has_zeroB]; simp), rfl⟩ ?_
  rintro m1 Γ1 w4 ⟨k, r, rfl, H4, hk, hr, rfl⟩
  refine W.seq ?_
  refine W.seq ?_
  refine W.region ?_
  refine WL.op rfl (d_move rfl ?_)
  refine WL.op rfl (d_cmp (decide (((k : Nat) : Int) < (256 : Int))) rfl rfl rfl ?_)
  refine WL.done (X.then_code ?_)
  refine W.ite (p := ((k : Nat) : Int) < (256 : Int)) rfl (fun c48 => ?_) (fun c48 => ?_)
  · skip
    refine W.skip (X.then_code ?_)
    refine W.seq ?_
    refine W.block ?_
    refine W.seq ?_
    refine W.region ?_
    refine WL.op rfl (d_move rfl ?_)
    refine WL.op rfl (d_move rfl ?_)
    refine WL.op rfl (d_call ok29 rfl (Ret.calls (is_any name k w4  ) fun _ w5 p2 => ?_))
    obtain ⟨rfl, u4⟩ := p2
    have H5 : UpG w [] w5 [[blk w.heap.size #[.int .u64 ((Bs.zero.w0.toNat : Nat) : Int), .int .u64 ((Bs.zero.w1.toNat : Nat) : Int), .int .u64 ((Bs.zero.w2.toNat : Nat) : Int), .int .u64 ((Bs.zero.w3.toNat : Nat) : Int)] 24], [blk w1.heap.size #[.int .u64 ((r.w0.toNat : Nat) : Int), .int .u64 ((r.w1.toNat : Nat) : Int), .int .u64 ((r.w2.toNat : Nat) : Int), .int .u64 ((r.w3.toNat : Nat) : Int)] 24]] := H4.call u4
    refine WL.op rfl (d_move rfl ?_)
    refine WL.op rfl (d_extract rfl rfl ?_)
    refine WL.op rfl (d_extract rfl rfl ?_)
    refine WL.op rfl (d_assign rfl ?_)
    refine WL.op rfl (d_assign rfl ?_)
    refine WL.done (X.then_code ?_)
    refine W.seq ?_
    refine W.region ?_
    refine WL.op rfl (d_move rfl ?_)
    refine WL.done (X.then_code ?_)
    refine W.iteB (b := isB name k) rfl (fun c50 => ?_) (fun c50 => ?_)
    · skip
      refine W.region ?_
      refine WL.op rfl (d_loadAB [.int .u64 ((r.w0.toNat : Nat) : Int), .int .u64 ((r.w1.toNat : Nat) : Int), .int .u64 ((r.w2.toNat : Nat) : Int), .int .u64 ((r.w3.toNat : Nat) : Int)] Tryd.underlying24 rfl sz24 rfl (H5.blk 1 rfl) rfl rfl ?_)
      refine WL.op rfl (d_move rfl ?_)
      refine WL.op rfl (d_call ok24 rfl (Ret.calls (put1_any r ((k : Nat) : Int) k w5  (by omega) (by omega)) fun _ w6 p3 => ?_))
      obtain ⟨rfl, u5⟩ := p3
      have H6 : UpG w [] w6 [[blk w.heap.size #[.int .u64 ((Bs.zero.w0.toNat : Nat) : Int), .int .u64 ((Bs.zero.w1.toNat : Nat) : Int), .int .u64 ((Bs.zero.w2.toNat : Nat) : Int), .int .u64 ((Bs.zero.w3.toNat : Nat) : Int)] 24], [blk w1.heap.size #[.int .u64 ((r.w0.toNat : Nat) : Int), .int .u64 ((r.w1.toNat : Nat) : Int), .int .u64 ((r.w2.toNat : Nat) : Int), .int .u64 ((r.w3.toNat : Nat) : Int)] 24]] := H5.call u5
      refine WL.op0 (d_storeAB (us := [.int .u64 ((((addS r k).w0).toNat : Nat) : Int), .int .u64 ((((addS r k).w1).toNat : Nat) : Int), .int .u64 ((((addS r k).w2).toNat : Nat) : Int), .int .u64 ((((addS r k).w3).toNat : Nat) : Int)]) (cs' := #[.int .u64 ((((addS r k).w0).toNat : Nat) : Int), .int .u64 ((((addS r k).w1).toNat : Nat) : Int), .int .u64 ((((addS r k).w2).toNat : Nat) : Int), .int .u64 ((((addS r k).w3).toNat : Nat) : Int)]) sz24 rfl rfl rfl rfl (H6.blk 1 rfl) rfl rfl fun w7 u6 => ?_)
      have H7 : UpG w [] w7 [[blk w.heap.size #[.int .u64 ((Bs.zero.w0.toNat : Nat) : Int), .int .u64 ((Bs.zero.w1.toNat : Nat) : Int), .int .u64 ((Bs.zero.w2.toNat : Nat) : Int), .int .u64 ((Bs.zero.w3.toNat : Nat) : Int)] 24], [blk w1.heap.size #[.int .u64 ((((addS r k).w0).toNat : Nat) : Int), .int .u64 ((((addS r k).w1).toNat : Nat) : Int), .int .u64 ((((addS r k).w2).toNat : Nat) : Int), .int .u64 ((((addS r k).w3).toNat : Nat) : Int)] 24]] := H6.on 1 rfl u6
      refine WL.done (X.block_normal (X.then_code ?_))
      refine W.region ?_
      refine WL.op rfl (d_move rfl ?_)
      refine WL.op rfl (d_add rfl rfl (by omega) (by omega) ?_)
      refine WL.op rfl (d_assign rfl ?_)
      refine WL.done ?_
      exact X.next [7, 6, 4, 3, 2, 0] (Γ' := [(7, .int .i64 (((k + 1) : Nat) : Int)), (6, .bool (isOk name)), (4, .pointer (some ⟨w1.heap.size, 0, none⟩)), (3, .bool false), (2, .pointer (some ⟨w.heap.size, 0, none⟩)), (0, .string name)]) rfl (256 - (k + 1)) (by omega) ⟨k + 1, (addS r k), rfl, H7, (by first | assumption | omega | simp), (by first | exact put_yes (by omega) c50 hr | exact put_no (by simpa using c50) hr), rfl⟩
    · skip
      refine W.skip (X.block_normal (X.then_code ?_))
      refine W.region ?_
      refine WL.op rfl (d_move rfl ?_)
      refine WL.op rfl (d_add rfl rfl (by omega) (by omega) ?_)
      refine WL.op rfl (d_assign rfl ?_)
      refine WL.done ?_
      exact X.next [7, 6, 4, 3, 2, 0] (Γ' := [(7, .int .i64 (((k + 1) : Nat) : Int)), (6, .bool (isOk name)), (4, .pointer (some ⟨w1.heap.size, 0, none⟩)), (3, .bool false), (2, .pointer (some ⟨w.heap.size, 0, none⟩)), (0, .string name)]) rfl (256 - (k + 1)) (by omega) ⟨k + 1, r, rfl, H5, (by first | assumption | omega | simp), (by first | exact put_yes (by omega) c50 hr | exact put_no (by simpa using c50) hr), rfl⟩
  · skip
    refine W.exit (X.then_exit (X.then_exit (X.block_exit (X.then_code ?_))))
    refine W.seq ?_
    refine W.region ?_
    refine WL.op rfl (d_loadAB [.int .u64 ((r.w0.toNat : Nat) : Int), .int .u64 ((r.w1.toNat : Nat) : Int), .int .u64 ((r.w2.toNat : Nat) : Int), .int .u64 ((r.w3.toNat : Nat) : Int)] Tryd.underlying24 rfl sz24 rfl (H4.blk 1 rfl) rfl rfl ?_)
    refine WL.op rfl (d_move rfl ?_)
    refine WL.op0 (d_storeAB (us := [.int .u64 ((r.w0.toNat : Nat) : Int), .int .u64 ((r.w1.toNat : Nat) : Int), .int .u64 ((r.w2.toNat : Nat) : Int), .int .u64 ((r.w3.toNat : Nat) : Int)]) (cs' := #[.int .u64 ((r.w0.toNat : Nat) : Int), .int .u64 ((r.w1.toNat : Nat) : Int), .int .u64 ((r.w2.toNat : Nat) : Int), .int .u64 ((r.w3.toNat : Nat) : Int)]) sz24 rfl rfl rfl rfl (H4.blk 0 rfl) rfl rfl fun w8 u7 => ?_)
    have H8 : UpG w [] w8 [[blk w.heap.size #[.int .u64 ((r.w0.toNat : Nat) : Int), .int .u64 ((r.w1.toNat : Nat) : Int), .int .u64 ((r.w2.toNat : Nat) : Int), .int .u64 ((r.w3.toNat : Nat) : Int)] 24], [blk w1.heap.size #[.int .u64 ((r.w0.toNat : Nat) : Int), .int .u64 ((r.w1.toNat : Nat) : Int), .int .u64 ((r.w2.toNat : Nat) : Int), .int .u64 ((r.w3.toNat : Nat) : Int)] 24]] := H4.on 0 rfl u7
    refine WL.op rfl (d_assign rfl ?_)
    refine WL.done (X.then_code ?_)
    refine W.ret (X.retR2 rfl (rv_cellA [.int .u64 ((r.w0.toNat : Nat) : Int), .int .u64 ((r.w1.toNat : Nat) : Int), .int .u64 ((r.w2.toNat : Nat) : Int), .int .u64 ((r.w3.toNat : Nat) : Int)] Tryd.underlying24 rfl sz24 rfl (H8.blk 0 rfl) rfl rfl) (rv_tmp rfl) ?_)
    have e : r = setOf (isB name) := eq_setOf fun x hx => by rw [hr x hx, decide_eq_true (by omega), Bool.true_and]
    exact ⟨(by rw [e]), H8.noneL⟩

set_option maxRecDepth 20000 in
theorem awake_any  (w : World) (rT : RdT tyN8 w (.slice (some ⟨0, 0, none⟩) deB.length 64) deB) :
    Calls Tryd.prog 6 #[] w (Ret fun v w' => v = .bool true ∧ Upd w [] w' []) := by
  have le_rT := rT.le
  refine calls_of_W (args := []) Tryd.func6 rfl rfl rfl ?_
  have H0 : UpG w [] w [] := UpG.nil w
  show W _ _ _ _ [] w
  refine W.seq ?_
  refine W.region ?_
  refine WL.op rfl (d_assign rfl ?_)
  refine WL.done (X.then_code ?_)
  refine W.seq ?_
  refine W.region ?_
  refine WL.op rfl (d_call ok10 rfl (Ret.calls (esc_any 119 w  (by decide)) fun _ w1 p1 => ?_))
  obtain ⟨rfl, u1⟩ := p1
  have H1 : UpG w [] w1 [] := H0.call u1
  refine WL.op rfl (d_move rfl ?_)
  refine WL.op rfl (d_extract rfl rfl ?_)
  refine WL.op rfl (d_extract rfl rfl ?_)
  refine WL.op rfl (d_alloc sz24 fun w2 u2 => ?_)
  have H2 : UpG w [] w2 [[blk w1.heap.size #[.int .u64 ((Bs.zero.w0.toNat : Nat) : Int), .int .u64 ((Bs.zero.w1.toNat : Nat) : Int), .int .u64 ((Bs.zero.w2.toNat : Nat) : Int), .int .u64 ((Bs.zero.w3.toNat : Nat) : Int)] 24]] := H1.new' u2
  refine WL.op0 (d_storeAB (us := [.int .u64 (((((escB 119).1).w0).toNat : Nat) : Int), .int .u64 (((((escB 119).1).w1).toNat : Nat) : Int), .int .u64 (((((escB 119).1).w2).toNat : Nat) : Int), .int .u64 (((((escB 119).1).w3).toNat : Nat) : Int)]) (cs' := #[.int .u64 (((((escB 119).1).w0).toNat : Nat) : Int), .int .u64 (((((escB 119).1).w1).toNat : Nat) : Int), .int .u64 (((((escB 119).1).w2).toNat : Nat) : Int), .int .u64 (((((escB 119).1).w3).toNat : Nat) : Int)]) sz24 rfl rfl rfl rfl (H2.blk 0 rfl) rfl rfl fun w3 u3 => ?_)
  have H3 : UpG w [] w3 [[blk w1.heap.size #[.int .u64 (((((escB 119).1).w0).toNat : Nat) : Int), .int .u64 (((((escB 119).1).w1).toNat : Nat) : Int), .int .u64 (((((escB 119).1).w2).toNat : Nat) : Int), .int .u64 (((((escB 119).1).w3).toNat : Nat) : Int)] 24]] := H2.on 0 rfl u3
  refine WL.op rfl (d_assign rfl ?_)
  refine WL.done (X.then_code ?_)
  refine W.seq ?_
  refine W.region ?_
  refine WL.op rfl (d_move rfl ?_)
  refine WL.op rfl (d_move rfl ?_)
  refine WL.partB 8 (b := (escB 119).2) rfl (fun g14 => ?_) (fun g14 => ?_)
  · skip
    refine WL.opG rfl rfl rfl (d_loadAB [.int .u64 (((((escB 119).1).w0).toNat : Nat) : Int), .int .u64 (((((escB 119).1).w1).toNat : Nat) : Int), .int .u64 (((((escB 119).1).w2).toNat : Nat) : Int), .int .u64 (((((escB 119).1).w3).toNat : Nat) : Int)] Tryd.underlying24 rfl sz24 rfl (H3.blk 0 rfl) rfl rfl ?_)
    refine WL.opG rfl rfl rfl (d_call ok14 rfl (Ret.calls (count_any ((escB 119).1) w3  ) fun _ w4 p2 => ?_))
    obtain ⟨rfl, u4⟩ := p2
    have H4 : UpG w [] w4 [[blk w1.heap.size #[.int .u64 (((((escB 119).1).w0).toNat : Nat) : Int), .int .u64 (((((escB 119).1).w1).toNat : Nat) : Int), .int .u64 (((((escB 119).1).w2).toNat : Nat) : Int), .int .u64 (((((escB 119).1).w3).toNat : Nat) : Int)] 24]] := H3.call u4
    refine WL.opG rfl rfl rfl (d_cmp (decide (((popB ((escB 119).1) : Nat) : Int) = (63 : Int))) rfl rfl rfl ?_)
    refine WL.op rfl (d_pick rfl rfl ?_)
    refine WL.op rfl (d_move rfl ?_)
    refine WL.part 13 (p := ((popB ((escB 119).1) : Nat) : Int) = (63 : Int)) rfl (fun g14x => ?_) (fun g14x => ?_)
    · skip
      refine WL.opG rfl rfl rfl (t_buildSlice (T := tyN8) (xs := [97, 49]) (cs := #[.int .u8 97, .int .u8 49]) rfl Tryd.underlying41 sz5 rfl rfl rfl rfl (by kernel_rfl) rfl rfl fun w5 u5 => ?_)
      have H5 : UpG w [] w5 [[blk w1.heap.size #[.int .u64 (((((escB 119).1).w0).toNat : Nat) : Int), .int .u64 (((((escB 119).1).w1).toNat : Nat) : Int), .int .u64 (((((escB 119).1).w2).toNat : Nat) : Int), .int .u64 (((((escB 119).1).w3).toNat : Nat) : Int)] 24], [rowT tyN8 (.slice (some ⟨w4.heap.size, 0, none⟩) ([97, 49].length) ([97, 49].length)) 5 [97, 49]]] := H4.new' u5
      refine WL.opG rfl rfl rfl (d_call ok18 rfl (Ret.calls (of_any (some ⟨w4.heap.size, 0, none⟩) [97, 49] ([97, 49].length) ([97, 49].length) w5 (H5.rdT 1 rfl) (by intro c hc; simp at hc; omega)) fun _ w6 p3 => ?_))
      obtain ⟨rfl, u6⟩ := p3
      have H6 : UpG w [] w6 [[blk w1.heap.size #[.int .u64 (((((escB 119).1).w0).toNat : Nat) : Int), .int .u64 (((((escB 119).1).w1).toNat : Nat) : Int), .int .u64 (((((escB 119).1).w2).toNat : Nat) : Int), .int .u64 (((((escB 119).1).w3).toNat : Nat) : Int)] 24], [rowT tyN8 (.slice (some ⟨w4.heap.size, 0, none⟩) ([97, 49].length) ([97, 49].length)) 5 [97, 49]]] := H5.call u6
      refine WL.opG rfl rfl rfl (d_call ok7 rfl (Ret.calls (fold_any (ofS [97, 49]) w6 (rT.at H6) ) fun _ w7 p4 => ?_))
      obtain ⟨rfl, u7⟩ := p4
      have H7 : UpG w [] w7 [[blk w1.heap.size #[.int .u64 (((((escB 119).1).w0).toNat : Nat) : Int), .int .u64 (((((escB 119).1).w1).toNat : Nat) : Int), .int .u64 (((((escB 119).1).w2).toNat : Nat) : Int), .int .u64 (((((escB 119).1).w3).toNat : Nat) : Int)] 24], [rowT tyN8 (.slice (some ⟨w4.heap.size, 0, none⟩) ([97, 49].length) ([97, 49].length)) 5 [97, 49]]] := H6.call u7
      refine WL.opG rfl rfl rfl (t_buildSlice (T := tyN8) (xs := [65, 97, 49]) (cs := #[.int .u8 65, .int .u8 97, .int .u8 49]) rfl Tryd.underlying41 sz5 rfl rfl rfl rfl (by kernel_rfl) rfl rfl fun w8 u8 => ?_)
      have H8 : UpG w [] w8 [[blk w1.heap.size #[.int .u64 (((((escB 119).1).w0).toNat : Nat) : Int), .int .u64 (((((escB 119).1).w1).toNat : Nat) : Int), .int .u64 (((((escB 119).1).w2).toNat : Nat) : Int), .int .u64 (((((escB 119).1).w3).toNat : Nat) : Int)] 24], [rowT tyN8 (.slice (some ⟨w4.heap.size, 0, none⟩) ([97, 49].length) ([97, 49].length)) 5 [97, 49]], [rowT tyN8 (.slice (some ⟨w7.heap.size, 0, none⟩) ([65, 97, 49].length) ([65, 97, 49].length)) 5 [65, 97, 49]]] := H7.new' u8
      refine WL.opG rfl rfl rfl (d_call ok18 rfl (Ret.calls (of_any (some ⟨w7.heap.size, 0, none⟩) [65, 97, 49] ([65, 97, 49].length) ([65, 97, 49].length) w8 (H8.rdT 2 rfl) (by intro c hc; simp at hc; omega)) fun _ w9 p5 => ?_))
      obtain ⟨rfl, u9⟩ := p5
      have H9 : UpG w [] w9 [[blk w1.heap.size #[.int .u64 (((((escB 119).1).w0).toNat : Nat) : Int), .int .u64 (((((escB 119).1).w1).toNat : Nat) : Int), .int .u64 (((((escB 119).1).w2).toNat : Nat) : Int), .int .u64 (((((escB 119).1).w3).toNat : Nat) : Int)] 24], [rowT tyN8 (.slice (some ⟨w4.heap.size, 0, none⟩) ([97, 49].length) ([97, 49].length)) 5 [97, 49]], [rowT tyN8 (.slice (some ⟨w7.heap.size, 0, none⟩) ([65, 97, 49].length) ([65, 97, 49].length)) 5 [65, 97, 49]]] := H8.call u9
      refine WL.opG rfl rfl rfl (d_bseq (foldB (ofS [97, 49])) (ofS [65, 97, 49]) rfl rfl Tryd.underlying24 Tryd.underlying22 sz22 (by kernel_rfl) ?_)
      refine WL.op rfl (d_pick rfl rfl ?_)
      refine WL.op rfl (d_assign rfl ?_)
      refine WL.done (X.then_code ?_)
      refine W.ret (X.ret1 rfl rfl ?_)
      exact ⟨(by rw [decide_eq_true awake3]), H9.noneL⟩
    · skip
      exact absurd (by rw [awake2]; rfl) g14x
  · skip
    exact absurd awake1 g14

end Go.Proofs.YtnjjjmpdikpjaaaDoor


/- The names of sets of bytes: sorted, and each the document's. Conditions: those of each theorem. -/
namespace Go.Sx
set_option linter.unusedVariables false
set_option linter.unusedSimpArgs false
theorem bt_rng (s : ByteArray) (j : Nat) : 0 ≤ bt s j ∧ bt s j ≤ 255 := by
  unfold bt; have := (s.data.toList.getD j 0).toNat_lt; omega
theorem conv_bt (s : ByteArray) (j : Nat) : (if IntKind.i64.signed then -(2 ^ (IntKind.i64.bits - 1) : Int) else 0) ≤ bt s j ∧ bt s j ≤ IntKind.i64.max := by
  have := bt_rng s j
  simp [IntKind.signed, IntKind.bits, IntKind.max]; omega
theorem add_bt_lo (s : ByteArray) (j : Nat) : -9223372036854775808 ≤ (0 : Int) + bt s j := by have := bt_rng s j; omega
theorem add_bt_hi (s : ByteArray) (j : Nat) : (0 : Int) + bt s j ≤ 9223372036854775807 := by have := bt_rng s j; omega
def namesD : List ByteArray := rowsD.map (·.1)
theorem namesD_len : namesD.length = 12 := rfl
theorem names_of {l : List NR} (hl : l.map (fun r => (r.nm, r.xs)) = rowsD) : l.map NR.nm = namesD := by
  unfold namesD; rw [← hl, List.map_map]; rfl
theorem names_step {l : List NR} {k : Nat} (hk : k < l.length) : (l.take (k + 1)).map NR.nm = (l.take k).map NR.nm ++ [(l.getD k nr0).nm] := by
  rw [List.getD_eq_getElem?_getD, List.getElem?_eq_getElem hk, List.take_add_one, List.getElem?_eq_getElem hk, List.map_append]; rfl
def strUp (l : List ByteArray) : Prop := ∀ j, 0 < j → j < l.length → strCmp .lss (l.getD j .empty) (l.getD (j - 1) .empty) = false
theorem names_up : strUp namesD := by
  have h : ∀ j : Fin 12, 0 < j.val → strCmp .lss (namesD.getD j.val .empty) (namesD.getD (j.val - 1) .empty) = false := by decide +kernel
  exact fun j h0 h1 => h ⟨j, h1⟩ h0
theorem names_ge {j : Nat} (h0 : 0 < j) (h1 : j < namesD.length) : strCmp .geq (namesD.getD (j - 1) .empty) (namesD.getD j .empty) = false := by
  have h : ∀ j : Fin 12, 0 < j.val → strCmp .geq (namesD.getD (j.val - 1) .empty) (namesD.getD j.val .empty) = false := by decide +kernel
  exact h ⟨j, h1⟩ h0
theorem names_ok {j : Nat} (h1 : j < namesD.length) : isOk (namesD.getD j .empty) = true := by
  have h : ∀ j : Fin 12, isOk (namesD.getD j.val .empty) = true := by decide +kernel
  exact h ⟨j, h1⟩
def memB (name : ByteArray) (l : List ByteArray) : Bool := l.any fun x => decide (x = name)
theorem memB_iff {name : ByteArray} {l : List ByteArray} : memB name l = true ↔ name ∈ l := by
  unfold memB; rw [List.any_eq_true]
  constructor
  · rintro ⟨x, hx, h⟩; rw [← of_decide_eq_true h]; exact hx
  · intro h; exact ⟨name, h, decide_eq_true rfl⟩
theorem isOk_mem (name : ByteArray) : isOk name = memB name namesD := by
  have e : namesD = [⟨#[97, 108, 110, 117, 109]⟩, ⟨#[97, 108, 112, 104, 97]⟩, ⟨#[98, 108, 97, 110, 107]⟩, ⟨#[99, 110, 116, 114, 108]⟩, ⟨#[100, 105, 103, 105, 116]⟩, ⟨#[103, 114, 97, 112, 104]⟩, ⟨#[108, 111, 119, 101, 114]⟩, ⟨#[112, 114, 105, 110, 116]⟩, ⟨#[112, 117, 110, 99, 116]⟩, ⟨#[115, 112, 97, 99, 101]⟩, ⟨#[117, 112, 112, 101, 114]⟩, ⟨#[120, 100, 105, 103, 105, 116]⟩] := rfl
  unfold isOk
  rw [e, Bool.eq_iff_iff, memB_iff, decide_eq_true_eq]
  simp only [List.mem_cons, List.not_mem_nil, or_false]
  constructor
  · rintro (h | h | h | h | h | h | h | h | h | h | h | h) <;> simp [h]
  · rintro (h | h | h | h | h | h | h | h | h | h | h | h) <;> simp [h]
theorem class_none {name : ByteArray} (h : name ∉ namesD) : classB name = Bs.zero ∧ classOk name = false := by
  have hf : rowsD.find? (fun r => decide (r.1 = name)) = none := by
    rw [List.find?_eq_none]
    intro x hx hd
    exact h (List.mem_map.2 ⟨x, hx, by simpa using hd⟩)
  unfold classB classOk
  rw [hf]; exact ⟨rfl, rfl⟩
theorem class_each : ∀ j : Fin 12, classB (namesD.getD j.val .empty) = setOf (isB (namesD.getD j.val .empty)) ∧ classOk (namesD.getD j.val .empty) = true := by decide +kernel
theorem isB_none {name : ByteArray} (h : isOk name = false) (x : Nat) : isB name x = false := by
  unfold isOk at h
  have h2 := of_decide_eq_false h
  simp only [not_or] at h2
  obtain ⟨h1, h2, h3, h4, h5, h6, h7, h8, h9, h10, h11, h12⟩ := h2
  unfold isB
  rw [if_neg h1, if_neg h2, if_neg h3, if_neg h4, if_neg h5, if_neg h6, if_neg h7, if_neg h8, if_neg h9, if_neg h10, if_neg h11, if_neg h12]
theorem class_eq (name : ByteArray) : classB name = setOf (isB name) ∧ classOk name = isOk name := by
  by_cases h : name ∈ namesD
  · obtain ⟨j, hj, e⟩ := List.mem_iff_getElem.1 h
    have e2 : namesD.getD j .empty = name := by rw [List.getD_eq_getElem?_getD, List.getElem?_eq_getElem hj]; exact e
    obtain ⟨h1, h2⟩ := class_each ⟨j, hj⟩
    simp only [e2] at h1 h2
    exact ⟨h1, by rw [h2, isOk_mem, memB_iff.2 h]⟩
  · obtain ⟨h1, h2⟩ := class_none h
    have h3 : isOk name = false := by rw [isOk_mem]; exact Bool.eq_false_iff.2 fun e => h (memB_iff.1 e)
    refine ⟨by rw [h1]; exact eq_setOf fun x _ => by rw [has_zeroB, isB_none h3], by rw [h2, h3]⟩
theorem there_step {name : ByteArray} {k : Nat} (hk : k < namesD.length) : memB name (namesD.take (k + 1)) = (memB name (namesD.take k) || decide (namesD.getD k .empty = name)) := by
  unfold memB
  rw [List.getD_eq_getElem?_getD, List.getElem?_eq_getElem hk, List.take_add_one, List.getElem?_eq_getElem hk, List.any_append]; simp
end Go.Sx


/- The walks of functions, printed by wip/tools/gw.py. -/
namespace Go.Proofs.YtnjjjmpdikpjaaaDoor
open Go Go.Sx
set_option linter.unusedVariables false
set_option linter.unusedSimpArgs false
set_option maxRecDepth 20000 in
theorem len64_any (xI : Int) (w : World) (e_12 : xI = ((12 : Nat) : Int)) :
    Calls Tryd.prog 51 #[.int .u64 xI] w (Ret fun v w' => v = .int .i64 4 ∧ Upd w [] w' []) := by
  subst e_12
  refine calls_of_W (args := [.int .u64 ((12 : Nat) : Int)]) Tryd.func51 rfl rfl rfl ?_
  have H0 : UpG w [] w [] := UpG.nil w
  show W _ _ _ _ [(0, .int .u64 ((12 : Nat) : Int))] w
  refine W.seq ?_
  refine W.region ?_
  refine WL.op rfl (d_assign rfl ?_)
  refine WL.done (X.then_code ?_)
  refine W.seq ?_
  refine W.seq ?_
  refine W.region ?_
  refine WL.op rfl (d_move rfl ?_)
  refine WL.op rfl (d_cmp false rfl rfl rfl ?_)
  refine WL.done (X.then_code ?_)
  refine W.iff rfl ?_
  refine W.skip (X.then_code ?_)
  refine W.seq ?_
  refine W.seq ?_
  refine W.region ?_
  refine WL.op rfl (d_move rfl ?_)
  refine WL.op rfl (d_cmp false rfl rfl rfl ?_)
  refine WL.done (X.then_code ?_)
  refine W.iff rfl ?_
  refine W.skip (X.then_code ?_)
  refine W.seq ?_
  refine W.seq ?_
  refine W.region ?_
  refine WL.op rfl (d_move rfl ?_)
  refine WL.op rfl (d_cmp false rfl rfl rfl ?_)
  refine WL.done (X.then_code ?_)
  refine W.iff rfl ?_
  refine W.skip (X.then_code ?_)
  refine W.seq ?_
  refine W.region ?_
  refine WL.op rfl (d_move rfl ?_)
  refine WL.op rfl (d_move rfl ?_)
  refine WL.op rfl (d_convI (kd := .u8) Tryd.underlying22 Tryd.underlying5 rfl (by first | exact conv_bt _ _ | exact add_bt_lo _ _ | exact add_bt_hi _ _ | exact conv8 (by decide)) ?_)
  refine WL.op rfl (d_idxStrN 12 Tryd.underlying9 rfl rfl rfl (by decide +kernel) ?_)
  refine WL.op rfl (d_convI (kd := .i64) Tryd.underlying5 Tryd.underlying3 rfl (by first | exact conv_bt _ _ | exact add_bt_lo _ _ | exact add_bt_hi _ _ | exact conv8 (by decide)) ?_)
  refine WL.op rfl (d_add rfl rfl (by first | exact conv_bt _ _ | exact add_bt_lo _ _ | exact add_bt_hi _ _ | exact conv8 (by decide)) (by first | exact conv_bt _ _ | exact add_bt_lo _ _ | exact add_bt_hi _ _ | exact conv8 (by decide)) ?_)
  refine WL.op rfl (d_assign rfl ?_)
  refine WL.done (X.then_code ?_)
  refine W.ret (X.ret1 rfl rfl ?_)
  exact ⟨(by rfl), H0.noneL⟩

set_option maxRecDepth 20000 in
theorem len12_any (xI : Int) (w : World) (e_12 : xI = ((12 : Nat) : Int)) :
    Calls Tryd.prog 40 #[.int .u64 xI] w (Ret fun v w' => v = .int .i64 4 ∧ Upd w [] w' []) := by
  subst e_12
  refine calls_of_W (args := [.int .u64 ((12 : Nat) : Int)]) Tryd.func40 rfl rfl rfl ?_
  have H0 : UpG w [] w [] := UpG.nil w
  show W _ _ _ _ [(0, .int .u64 ((12 : Nat) : Int))] w
  refine W.seq ?_
  refine W.region ?_
  refine WL.op rfl (d_assign rfl ?_)
  refine WL.done (X.then_code ?_)
  refine W.seq ?_
  refine W.iff rfl ?_
  refine W.skip (X.then_code ?_)
  refine W.seq ?_
  refine W.region ?_
  refine WL.op rfl (d_move rfl ?_)
  refine WL.op rfl (d_call ok51 rfl (Ret.calls (len64_any ((12 : Nat) : Int) w  rfl) fun _ w1 p1 => ?_))
  obtain ⟨rfl, u1⟩ := p1
  have H1 : UpG w [] w1 [] := H0.call u1
  refine WL.op rfl (d_assign rfl ?_)
  refine WL.done (X.then_code ?_)
  refine W.ret (X.ret1 rfl rfl ?_)
  exact ⟨rfl, H1.noneL⟩

set_option maxRecDepth 20000 in
theorem nan_any (x : ByteArray) (w : World) :
    Calls Tryd.prog 57 #[.string x] w (Ret fun v w' => v = .bool false ∧ Upd w [] w' []) := by
  refine calls_of_W (args := [.string x]) Tryd.func57 rfl rfl rfl ?_
  have H0 : UpG w [] w [] := UpG.nil w
  show W _ _ _ _ [(0, .string x)] w
  refine W.seq ?_
  refine W.region ?_
  refine WL.op rfl (d_assign rfl ?_)
  refine WL.done (X.then_code ?_)
  refine W.seq ?_
  refine W.region ?_
  refine WL.op rfl (d_move rfl ?_)
  refine WL.op rfl (d_move rfl ?_)
  refine WL.op rfl (d_strne rfl rfl ?_)
  refine WL.op rfl (d_assign rfl ?_)
  refine WL.done (X.then_code ?_)
  refine W.ret (X.ret1 rfl rfl ?_)
  exact ⟨(by rw [decide_eq_false (by simp)]), H0.noneL⟩

set_option maxRecDepth 20000 in
theorem less_any (x : ByteArray) (y : ByteArray) (w : World) :
    Calls Tryd.prog 47 #[.string x, .string y] w (Ret fun v w' => v = .bool (strCmp .lss x y) ∧ Upd w [] w' []) := by
  refine calls_of_W (args := [.string x, .string y]) Tryd.func47 rfl rfl rfl ?_
  have H0 : UpG w [] w [] := UpG.nil w
  show W _ _ _ _ [(0, .string x), (1, .string y)] w
  refine W.seq ?_
  refine W.region ?_
  refine WL.op rfl (d_assign rfl ?_)
  refine WL.done (X.then_code ?_)
  refine W.seq ?_
  refine W.region ?_
  refine WL.op rfl (d_move rfl ?_)
  refine WL.op rfl (d_call ok57 rfl (Ret.calls (nan_any x w  ) fun _ w1 p1 => ?_))
  obtain ⟨rfl, u1⟩ := p1
  have H1 : UpG w [] w1 [] := H0.call u1
  refine WL.op rfl (d_move rfl ?_)
  refine WL.opN rfl rfl rfl rfl ?_
  refine WL.opN rfl rfl rfl rfl ?_
  refine WL.opN rfl rfl rfl rfl ?_
  refine WL.op rfl (d_pick rfl rfl ?_)
  refine WL.op rfl (d_move rfl ?_)
  refine WL.opG rfl rfl rfl (d_move rfl ?_)
  refine WL.opG rfl rfl rfl (d_move rfl ?_)
  refine WL.opG rfl rfl rfl (d_strcmp rfl rfl rfl ?_)
  refine WL.op rfl (d_pick rfl rfl ?_)
  refine WL.op rfl (d_assign rfl ?_)
  refine WL.done (X.then_code ?_)
  refine W.ret (X.ret1 rfl rfl ?_)
  exact ⟨rfl, H1.noneL⟩

set_option maxRecDepth 20000 in
theorem ins_any (la : Option Addr) (l : List ByteArray) (lc : Nat) (bI : Int) (b : Nat) (w : World) (hp : Hp w [rowT tyS (.slice la l.length lc) 9 l]) (e_b : bI = ((b : Nat) : Int)) (hb : b ≤ l.length) (hl : l.length ≤ 12) (hs : strUp l) :
    Calls Tryd.prog 41 #[.slice la l.length lc, .int .i64 0, .int .i64 bI] w (Ret fun v w' => v = .tuple #[] ∧ Upd w [rowT tyS (.slice la l.length lc) 9 l] w' [rowT tyS (.slice la l.length lc) 9 l]) := by
  subst e_b
  refine calls_of_W (args := [.slice la l.length lc, .int .i64 0, .int .i64 ((b : Nat) : Int)]) Tryd.func41 rfl rfl rfl ?_
  have H0 : UpG w [rowT tyS (.slice la l.length lc) 9 l] w [[rowT tyS (.slice la l.length lc) 9 l]] := (UpG.refl hp).re rfl
  show W _ _ _ _ [(0, .slice la l.length lc), (1, .int .i64 0), (2, .int .i64 ((b : Nat) : Int))] w
  refine W.seq ?_
  refine W.region ?_
  refine WL.op rfl (d_move rfl ?_)
  refine WL.op rfl (d_add rfl rfl (by omega) (by omega) ?_)
  refine WL.op rfl (d_assign rfl ?_)
  refine WL.done (X.then_code ?_)
  refine W.block ?_
  refine W.pick [6, 0, 1, 2] (Γ' := [(6, .int .i64 (0 + 1)), (0, .slice la l.length lc), (1, .int .i64 0), (2, .int .i64 ((b : Nat) : Int))]) rfl ?_
  refine W.loop (fun m Γ' w' => ∃ i : Nat, Γ' = [(6, .int .i64 ((i : Nat) : Int)), (0, .slice la l.length lc), (1, .int .i64 0), (2, .int .i64 ((b : Nat) : Int))] ∧ UpG w [rowT tyS (.slice la l.length lc) 9 l] w' [[rowT tyS (.slice la l.length lc) 9 l]] ∧ (1 ≤ i) ∧ m = b - i) (b - 1) ⟨1, rfl, H0, (by first | assumption | omega | simp), rfl⟩ ?_
  rintro m1 Γ1 w1 ⟨i, rfl, H1, hi, rfl⟩
  refine W.seq ?_
  refine W.seq ?_
  refine W.region ?_
  refine WL.op rfl (d_move rfl ?_)
  refine WL.op rfl (d_move rfl ?_)
  refine WL.op rfl (d_cmp (decide (((i : Nat) : Int) < ((b : Nat) : Int))) rfl rfl rfl ?_)
  refine WL.done (X.then_code ?_)
  refine W.ite (p := ((i : Nat) : Int) < ((b : Nat) : Int)) rfl (fun c13 => ?_) (fun c13 => ?_)
  · skip
    refine W.skip (X.then_code ?_)
    refine W.seq ?_
    refine W.block ?_
    refine W.seq ?_
    refine W.region ?_
    refine WL.op rfl (d_move rfl ?_)
    refine WL.op rfl (d_assign rfl ?_)
    refine WL.done (X.then_code ?_)
    refine W.block ?_
    refine W.pick [7, 6, 0, 1, 2] (Γ' := [(7, .int .i64 ((i : Nat) : Int)), (6, .int .i64 ((i : Nat) : Int)), (0, .slice la l.length lc), (1, .int .i64 0), (2, .int .i64 ((b : Nat) : Int))]) rfl ?_
    refine W.loop (fun m Γ' w' => Γ' = [(7, .int .i64 ((i : Nat) : Int)), (6, .int .i64 ((i : Nat) : Int)), (0, .slice la l.length lc), (1, .int .i64 0), (2, .int .i64 ((b : Nat) : Int))] ∧ UpG w [rowT tyS (.slice la l.length lc) 9 l] w' [[rowT tyS (.slice la l.length lc) 9 l]] ∧ m = 0) (0) ⟨rfl, H1, rfl⟩ ?_
    rintro m2 Γ2 w2 ⟨rfl, H2, rfl⟩
    refine W.seq ?_
    refine W.seq ?_
    refine W.regionD mixed (by kernel_rfl) fun hok1 w3 k1 => ?_
    have H3 : UpG w [rowT tyS (.slice la l.length lc) 9 l] w3 [[rowT tyS (.slice la l.length lc) 9 l]] := H2.kept k1
    refine WD.take hok1 0 (.int .i64 ((i : Nat) : Int)) (fun _ => True) rfl rfl rfl rfl rfl trivial (.inl ⟨rfl, fun _ _ => d_move rfl ⟨rfl, rfl⟩⟩) ?_
    refine WD.take hok1 1 (.int .i64 0) (fun _ => True) rfl rfl rfl rfl rfl trivial (.inl ⟨rfl, fun _ _ => d_move rfl ⟨rfl, rfl⟩⟩) ?_
    refine WD.take hok1 2 (.bool (decide (((i : Nat) : Int) > (0 : Int)))) (fun _ => True) rfl rfl rfl rfl rfl trivial (.inl ⟨rfl, fun _ _ => d_cmp (decide (((i : Nat) : Int) > (0 : Int))) rfl rfl rfl ⟨rfl, rfl⟩⟩) ?_
    refine WD.take hok1 3 (.bool (decide (((i : Nat) : Int) > (0 : Int)))) (fun _ => True) rfl rfl rfl rfl rfl trivial (.inl ⟨rfl, fun _ _ => d_move rfl ⟨rfl, rfl⟩⟩) ?_
    refine WD.part 19 (p := ((i : Nat) : Int) > (0 : Int)) rfl (fun g14 => ?_) (fun g14 => ?_)
    · skip
      refine WD.take hok1 4 (.slice la l.length lc) (fun _ => True) rfl rfl rfl rfl rfl trivial (.inl ⟨rfl, fun _ _ => d_move rfl ⟨rfl, rfl⟩⟩) ?_
      refine WD.take hok1 5 (.int .i64 ((i : Nat) : Int)) (fun _ => True) rfl rfl rfl rfl rfl trivial (.inl ⟨rfl, fun _ _ => d_move rfl ⟨rfl, rfl⟩⟩) ?_
      refine WD.take hok1 6 (elemPtr (.slice la l.length lc) i) (fun w' => RdT tyS w' (.slice la l.length lc) l) rfl rfl rfl rfl rfl (H3.rdT 0 rfl) (.inl ⟨rfl, fun _ hC => t_addr1 i (T := tyS) rfl Tryd.underlying37 sz9 rfl rfl hC (by omega) (by omega) ⟨rfl, rfl⟩⟩) ?_
      refine WD.take hok1 7 (.string (l.getD i .empty)) (fun w' => RdT tyS w' (.slice la l.length lc) l) rfl rfl rfl rfl rfl (H3.rdT 0 rfl) (.inl ⟨rfl, fun _ hC => t_load1 i .empty (T := tyS) rfl Tryd.underlying9 rfl rfl hC (by omega) rfl ⟨rfl, rfl⟩⟩) ?_
      refine WD.take hok1 8 (.slice la l.length lc) (fun _ => True) rfl rfl rfl rfl rfl trivial (.inl ⟨rfl, fun _ _ => d_move rfl ⟨rfl, rfl⟩⟩) ?_
      refine WD.take hok1 9 (.int .i64 ((i : Nat) : Int)) (fun _ => True) rfl rfl rfl rfl rfl trivial (.inl ⟨rfl, fun _ _ => d_move rfl ⟨rfl, rfl⟩⟩) ?_
      refine WD.take hok1 10 (.int .i64 (((i : Nat) : Int) - 1)) (fun _ => True) rfl rfl rfl rfl rfl trivial (.inl ⟨rfl, fun _ _ => d_sub rfl rfl (by omega) (by omega) ⟨rfl, rfl⟩⟩) ?_
      refine WD.take hok1 11 (elemPtr (.slice la l.length lc) (i - 1)) (fun w' => RdT tyS w' (.slice la l.length lc) l) rfl rfl rfl rfl rfl (H3.rdT 0 rfl) (.inl ⟨rfl, fun _ hC => t_addr1 (i - 1) (T := tyS) rfl Tryd.underlying37 sz9 rfl rfl hC (by omega) (by omega) ⟨rfl, rfl⟩⟩) ?_
      refine WD.take hok1 12 (.string (l.getD (i - 1) .empty)) (fun w' => RdT tyS w' (.slice la l.length lc) l) rfl rfl rfl rfl rfl (H3.rdT 0 rfl) (.inl ⟨rfl, fun _ hC => t_load1 (i - 1) .empty (T := tyS) rfl Tryd.underlying9 rfl rfl hC (by omega) rfl ⟨rfl, rfl⟩⟩) ?_
      refine WD.loud hok1 13 rfl (⟨_, [], rfl, rfl, rfl, rfl, rfl, rfl, d_call ok47 rfl (Ret.calls (less_any (l.getD i .empty) (l.getD (i - 1) .empty) w3  ) fun _ w4 p1 => ?_)⟩)
      obtain ⟨rfl, u1⟩ := p1
      have H4 : UpG w [rowT tyS (.slice la l.length lc) 9 l] w4 [[rowT tyS (.slice la l.length lc) 9 l]] := H3.call u1
      refine ⟨trivial, ?_⟩
      refine WD.take hok1 14 (.bool (strCmp .lss (l.getD i .empty) (l.getD (i - 1) .empty))) (fun _ => True) rfl rfl rfl rfl rfl trivial (.inl ⟨rfl, fun _ _ => d_pick rfl rfl ⟨rfl, rfl⟩⟩) ?_
      refine WD.done hok1 rfl (X.then_code ?_)
      refine W.iteB (b := strCmp .lss (l.getD i .empty) (l.getD (i - 1) .empty)) rfl (fun c14 => ?_) (fun c14 => ?_)
      · skip
        exfalso; rw [hs i (by omega) (by omega)] at c14; cases c14
      · skip
        refine W.exit (X.then_exit (X.then_exit (X.block_exit (X.block_normal (X.then_code ?_)))))
        refine W.region ?_
        refine WL.op rfl (d_move rfl ?_)
        refine WL.op rfl (d_add rfl rfl (by omega) (by omega) ?_)
        refine WL.op rfl (d_assign rfl ?_)
        refine WL.done ?_
        exact X.next [6, 0, 1, 2] (Γ' := [(6, .int .i64 (((i + 1) : Nat) : Int)), (0, .slice la l.length lc), (1, .int .i64 0), (2, .int .i64 ((b : Nat) : Int))]) rfl (b - (i + 1)) (by omega) ⟨i + 1, rfl, H4, (by first | assumption | omega | simp), rfl⟩
    · skip
      exfalso; omega
  · skip
    refine W.exit (X.then_exit (X.then_exit (X.block_exit (X.end0 rfl ?_))))
    exact ⟨rfl, (Upd.sel H1 (l := [0]) rfl rfl)⟩

set_option maxRecDepth 20000 in
theorem pdq_any (la : Option Addr) (l : List ByteArray) (lc : Nat) (bI : Int) (b : Nat) (lim : Int) (w : World) (hp : Hp w [rowT tyS (.slice la l.length lc) 9 l]) (e_b : bI = ((b : Nat) : Int)) (hb : b ≤ l.length) (hl : l.length ≤ 12) (hs : strUp l) :
    Calls Tryd.prog 39 #[.slice la l.length lc, .int .i64 0, .int .i64 bI, .int .i64 lim] w (Ret fun v w' => v = .tuple #[] ∧ Upd w [rowT tyS (.slice la l.length lc) 9 l] w' [rowT tyS (.slice la l.length lc) 9 l]) := by
  subst e_b
  refine calls_of_W (args := [.slice la l.length lc, .int .i64 0, .int .i64 ((b : Nat) : Int), .int .i64 lim]) Tryd.func39 rfl rfl rfl ?_
  have H0 : UpG w [rowT tyS (.slice la l.length lc) 9 l] w [[rowT tyS (.slice la l.length lc) 9 l]] := (UpG.refl hp).re rfl
  show W _ _ _ _ [(0, .slice la l.length lc), (1, .int .i64 0), (2, .int .i64 ((b : Nat) : Int)), (3, .int .i64 lim)] w
  refine W.seq ?_
  refine W.region ?_
  refine WL.op rfl (d_assign rfl ?_)
  refine WL.done (X.then_code ?_)
  refine W.seq ?_
  refine W.region ?_
  refine WL.op rfl (d_assign rfl ?_)
  refine WL.done (X.then_code ?_)
  refine W.block ?_
  refine W.pick [9, 8, 0, 1, 2, 3] (Γ' := [(9, .bool true), (8, .bool true), (0, .slice la l.length lc), (1, .int .i64 0), (2, .int .i64 ((b : Nat) : Int)), (3, .int .i64 lim)]) rfl ?_
  refine W.loop (fun m Γ' w' => Γ' = [(9, .bool true), (8, .bool true), (0, .slice la l.length lc), (1, .int .i64 0), (2, .int .i64 ((b : Nat) : Int)), (3, .int .i64 lim)] ∧ UpG w [rowT tyS (.slice la l.length lc) 9 l] w' [[rowT tyS (.slice la l.length lc) 9 l]] ∧ m = 0) (0) ⟨rfl, H0, rfl⟩ ?_
  rintro m1 Γ1 w1 ⟨rfl, H1, rfl⟩
  refine W.block ?_
  refine W.seq ?_
  refine W.region ?_
  refine WL.op rfl (d_move rfl ?_)
  refine WL.op rfl (d_move rfl ?_)
  refine WL.op rfl (d_sub rfl rfl (by omega) (by omega) ?_)
  refine WL.op rfl (d_assign rfl ?_)
  refine WL.done (X.then_code ?_)
  refine W.seq ?_
  refine W.seq ?_
  refine W.region ?_
  refine WL.op rfl (d_move rfl ?_)
  refine WL.op rfl (d_cmp (decide ((((b : Nat) : Int) - 0) ≤ (12 : Int))) rfl rfl rfl ?_)
  refine WL.done (X.then_code ?_)
  refine W.ite (p := (((b : Nat) : Int) - 0) ≤ (12 : Int)) rfl (fun c74 => ?_) (fun c74 => ?_)
  · skip
    refine W.seq ?_
    refine W.region ?_
    refine WL.op rfl (d_move rfl ?_)
    refine WL.op rfl (d_move rfl ?_)
    refine WL.op rfl (d_move rfl ?_)
    refine WL.op rfl (d_call ok41 rfl (Ret.calls (ins_any la l lc ((b : Nat) : Int) b w1 (H1.hpOf 0 rfl)  (by omega) (by omega) (by omega) (by omega)) fun _ w2 p1 => ?_))
    obtain ⟨rfl, u1⟩ := p1
    have H2 : UpG w [rowT tyS (.slice la l.length lc) 9 l] w2 [[rowT tyS (.slice la l.length lc) 9 l]] := H1.on 0 rfl u1
    refine WL.done (X.then_code ?_)
    refine W.ret (X.then_ret (X.block_ret (X.then_ret (X.block_ret (X.ret0 rfl ?_)))))
    exact ⟨rfl, (Upd.sel H2 (l := [0]) rfl rfl)⟩
  · skip
    exfalso; omega

set_option maxRecDepth 20000 in
theorem sortS_any (la : Option Addr) (l : List ByteArray) (lc : Nat) (w : World) (hp : Hp w [rowT tyS (.slice la l.length lc) 9 l]) (hl : l.length = 12) (hs : strUp l) :
    Calls Tryd.prog 34 #[.slice la l.length lc] w (Ret fun v w' => v = .tuple #[] ∧ Upd w [rowT tyS (.slice la l.length lc) 9 l] w' [rowT tyS (.slice la l.length lc) 9 l]) := by
  refine calls_of_W (args := [.slice la l.length lc]) Tryd.func34 rfl rfl rfl ?_
  have H0 : UpG w [rowT tyS (.slice la l.length lc) 9 l] w [[rowT tyS (.slice la l.length lc) 9 l]] := (UpG.refl hp).re rfl
  show W _ _ _ _ [(0, .slice la l.length lc)] w
  refine W.seq ?_
  refine W.region ?_
  refine WL.op rfl (d_move rfl ?_)
  refine WL.op rfl (d_lenS Tryd.underlying37 rfl ?_)
  refine WL.op rfl (d_assign rfl ?_)
  refine WL.done (X.then_code ?_)
  refine W.region ?_
  refine WL.op rfl (d_move rfl ?_)
  refine WL.op rfl (d_move rfl ?_)
  refine WL.op rfl (d_move rfl ?_)
  refine WL.op rfl (d_convI (kd := .u64) Tryd.underlying3 Tryd.underlying51 rfl (by simp [IntKind.signed, IntKind.bits, IntKind.max]; omega) ?_)
  refine WL.op rfl (d_call ok40 rfl (Ret.calls (len12_any ((l.length : Nat) : Int) w  (by omega)) fun _ w1 p1 => ?_))
  obtain ⟨rfl, u1⟩ := p1
  have H1 : UpG w [rowT tyS (.slice la l.length lc) 9 l] w1 [[rowT tyS (.slice la l.length lc) 9 l]] := H0.call u1
  refine WL.op rfl (d_call ok39 rfl (Ret.calls (pdq_any la l lc ((l.length : Nat) : Int) l.length 4 w1 (H1.hpOf 0 rfl)  (by omega) (by omega) (by omega) (by omega)) fun _ w2 p2 => ?_))
  obtain ⟨rfl, u2⟩ := p2
  have H2 : UpG w [rowT tyS (.slice la l.length lc) 9 l] w2 [[rowT tyS (.slice la l.length lc) 9 l]] := H1.on 0 rfl u2
  refine WL.done (X.end0 rfl ?_)
  exact ⟨rfl, (Upd.sel H2 (l := [0]) rfl rfl)⟩

set_option maxRecDepth 20000 in
theorem names_any  (w : World) :
    Calls Tryd.prog 17 #[] w (Ret fun v w' => ∃ a2 : Option Addr, ∃ c2 : Nat, v = .slice a2 namesD.length c2 ∧ Upd w [] w' [rowT tyS (.slice a2 namesD.length c2) 9 namesD]) := by
  refine calls_of_W (args := []) Tryd.func17 rfl rfl rfl ?_
  have H0 : UpG w [] w [] := UpG.nil w
  show W _ _ _ _ [] w
  refine W.seq ?_
  refine W.region ?_
  refine WL.op rfl (d_assign rfl ?_)
  refine WL.done (X.then_code ?_)
  refine W.seq ?_
  refine W.region ?_
  refine WL.op rfl (d_assign rfl ?_)
  refine WL.done (X.then_code ?_)
  refine W.seq ?_
  refine W.seq ?_
  refine W.region ?_
  refine WL.op rfl (d_call ok32 rfl (Ret.calls (rows_any  w  ) fun _ w1 p1 => ?_))
  obtain ⟨a_1, l_1, c_1, rfl, u1, hrows1⟩ := p1
  have H1 : UpG w [] w1 [[rowT tyNR (.slice a_1 l_1.length c_1) 57 l_1], [manyF inNR.row l_1]] := (H0.new' u1).re rfl
  refine WL.op rfl (d_lenS Tryd.underlying53 rfl ?_)
  refine WL.op rfl (d_move rfl ?_)
  refine WL.done (X.then_code ?_)
  refine W.block ?_
  have H2 : UpG w [] w1 [[rowT tyNR (.slice a_1 l_1.length c_1) 57 l_1], [manyF inNR.row l_1], [rowT tyS (.slice none (([] : List ByteArray).length) 0) 9 ([] : List ByteArray)]] := H1.new' (Upd.nilRowT w1 tyS 9)
  refine W.pick [6, 5, 4, 1, 0] (Γ' := [(6, .int .i64 0), (5, .int .i64 ((l_1.length : Nat) : Int)), (4, .slice a_1 l_1.length c_1), (1, .slice none (([] : List ByteArray).length) 0), (0, .slice none 0 0)]) rfl ?_
  refine W.loop (fun m Γ' w' => ∃ k : Nat, ∃ o : List ByteArray, ∃ a : Option Addr, ∃ c : Nat, Γ' = [(6, .int .i64 ((k : Nat) : Int)), (5, .int .i64 ((l_1.length : Nat) : Int)), (4, .slice a_1 l_1.length c_1), (1, .slice a o.length c), (0, .slice none 0 0)] ∧ UpG w [] w' [[rowT tyNR (.slice a_1 l_1.length c_1) 57 l_1], [manyF inNR.row l_1], [rowT tyS (.slice a o.length c) 9 o]] ∧ (k ≤ l_1.length) ∧ (o = (l_1.take k).map NR.nm) ∧ m = l_1.length - k) (l_1.length - 0) ⟨0, ([] : List ByteArray), none, 0, rfl, H2, (by first | assumption | omega | simp), (by rfl), rfl⟩ ?_
  rintro m1 Γ1 w2 ⟨k, o, a, c, rfl, H3, hk, ho, rfl⟩
  have h12 := rows_len hrows1
  have hol : o.length = k := by rw [ho]; simp; omega
  refine W.seq ?_
  refine W.region ?_
  refine WL.op rfl (d_cmp (decide (((k : Nat) : Int) < ((l_1.length : Nat) : Int))) rfl rfl rfl ?_)
  refine WL.done (X.then_code ?_)
  refine W.seq ?_
  refine W.ite (p := ((k : Nat) : Int) < ((l_1.length : Nat) : Int)) rfl (fun c49 => ?_) (fun c49 => ?_)
  · skip
    refine W.skip (X.then_code ?_)
    refine W.seq ?_
    refine W.block ?_
    refine W.seq ?_
    refine W.region ?_
    refine WL.op rfl (t_addrN k (T := tyNR) rfl Tryd.underlying53 sz57 rfl rfl (H3.rdT 0 rfl) rfl (by omega) ?_)
    refine WL.op rfl (t_loadN k nr0 (T := tyNR) (us := [.string ((l_1.getD k nr0).nm), .slice ((l_1.getD k nr0).a) ((l_1.getD k nr0).n) ((l_1.getD k nr0).c)]) rfl Tryd.underlying57 rfl sz57 rfl (H3.rdT 0 rfl) (by omega) rfl ?_)
    refine WL.op rfl (d_alloc sz57 fun w3 u2 => ?_)
    have H4 : UpG w [] w3 [[rowT tyNR (.slice a_1 l_1.length c_1) 57 l_1], [manyF inNR.row l_1], [rowT tyS (.slice a o.length c) 9 o], [blk w2.heap.size #[.string ⟨#[]⟩, .slice none 0 0] 57]] := H3.new' u2
    refine WL.op0 (d_storeAB (us := [.string ((l_1.getD k nr0).nm), .slice ((l_1.getD k nr0).a) ((l_1.getD k nr0).n) ((l_1.getD k nr0).c)]) (cs' := #[.string ((l_1.getD k nr0).nm), .slice ((l_1.getD k nr0).a) ((l_1.getD k nr0).n) ((l_1.getD k nr0).c)]) sz57 rfl rfl rfl rfl (H4.blk 3 rfl) rfl rfl fun w4 u3 => ?_)
    have H5 : UpG w [] w4 [[rowT tyNR (.slice a_1 l_1.length c_1) 57 l_1], [manyF inNR.row l_1], [rowT tyS (.slice a o.length c) 9 o], [blk w2.heap.size #[.string ((l_1.getD k nr0).nm), .slice ((l_1.getD k nr0).a) ((l_1.getD k nr0).n) ((l_1.getD k nr0).c)] 57]] := H4.on 3 rfl u3
    refine WL.done (X.then_code ?_)
    refine W.region ?_
    refine WL.op rfl (d_move rfl ?_)
    refine WL.op rfl (d_fieldAddrB fld57_0 rfl rfl ?_)
    refine WL.op rfl (d_loadB Tryd.underlying9 rfl rfl (H5.blk 3 rfl) rfl ?_)
    refine WL.op rfl (t_buildSlice (T := tyS) (xs := [(l_1.getD k nr0).nm]) (cs := #[.string ((l_1.getD k nr0).nm)]) rfl Tryd.underlying37 sz9 rfl rfl rfl rfl (by kernel_rfl) rfl rfl fun w5 u4 => ?_)
    have H6 : UpG w [] w5 [[rowT tyNR (.slice a_1 l_1.length c_1) 57 l_1], [manyF inNR.row l_1], [rowT tyS (.slice a o.length c) 9 o], [blk w2.heap.size #[.string ((l_1.getD k nr0).nm), .slice ((l_1.getD k nr0).a) ((l_1.getD k nr0).n) ((l_1.getD k nr0).c)] 57], [rowT tyS (.slice (some ⟨w4.heap.size, 0, none⟩) ([(l_1.getD k nr0).nm].length) ([(l_1.getD k nr0).nm].length)) 9 [(l_1.getD k nr0).nm]]] := H5.new' u4
    refine WL.op rfl (t_append (T := tyS) (xs := o) (ys := [(l_1.getD k nr0).nm]) rfl Tryd.underlying37 sz9 rfl rfl rfl (H6.ownT 2 rfl) (H6.rdT 4 rfl) (by simp; omega) (by simp; omega) fun a1 c1 w6 u5 => ?_)
    have H7 : UpG w [] w6 [[rowT tyNR (.slice a_1 l_1.length c_1) 57 l_1], [manyF inNR.row l_1], [rowT tyS (.slice a1 ((o ++ [(l_1.getD k nr0).nm]).length) c1) 9 (o ++ [(l_1.getD k nr0).nm])], [blk w2.heap.size #[.string ((l_1.getD k nr0).nm), .slice ((l_1.getD k nr0).a) ((l_1.getD k nr0).n) ((l_1.getD k nr0).c)] 57], []] := (H6.on 2 rfl u5).drop 4
    refine WL.op rfl (d_assign rfl ?_)
    refine WL.done (X.block_normal (X.then_code ?_))
    refine W.region ?_
    refine WL.op rfl (d_add rfl rfl (by omega) (by omega) ?_)
    refine WL.op rfl (d_move rfl ?_)
    refine WL.done ?_
    exact X.next [6, 5, 4, 1, 0] (Γ' := [(6, .int .i64 (((k + 1) : Nat) : Int)), (5, .int .i64 ((l_1.length : Nat) : Int)), (4, .slice a_1 l_1.length c_1), (1, .slice a1 ((o ++ [(l_1.getD k nr0).nm]).length) c1), (0, .slice none 0 0)]) rfl (l_1.length - (k + 1)) (by omega) ⟨k + 1, o ++ [(l_1.getD k nr0).nm], a1, c1, rfl, (UpG.of (G := [[rowT tyNR (.slice a_1 l_1.length c_1) 57 l_1], [manyF inNR.row l_1], [rowT tyS (.slice a1 ((o ++ [(l_1.getD k nr0).nm]).length) c1) 9 (o ++ [(l_1.getD k nr0).nm])]]) (Upd.sel H7 (M := [rowT tyNR (.slice a_1 l_1.length c_1) 57 l_1, manyF inNR.row l_1, rowT tyS (.slice a1 ((o ++ [(l_1.getD k nr0).nm]).length) c1) 9 (o ++ [(l_1.getD k nr0).nm])]) (l := [0, 1, 2]) rfl rfl) rfl), (by first | assumption | omega | simp), (by rw [names_step (by omega), ← ho]), rfl⟩
  · skip
    refine W.exit (X.then_exit (X.then_exit (X.block_exit (X.then_code ?_))))
    refine W.seq ?_
    have en : o = namesD := by rw [ho, List.take_of_length_le (by omega)]; exact names_of hrows1
    subst en
    refine W.region ?_
    refine WL.op rfl (d_move rfl ?_)
    refine WL.op rfl (d_call ok34 rfl (Ret.calls (sortS_any a namesD c w2 (H3.hpOf 2 rfl)  rfl names_up) fun _ w7 p2 => ?_))
    obtain ⟨rfl, u6⟩ := p2
    have H8 : UpG w [] w7 [[rowT tyNR (.slice a_1 l_1.length c_1) 57 l_1], [manyF inNR.row l_1], [rowT tyS (.slice a namesD.length c) 9 namesD]] := H3.on 2 rfl u6
    refine WL.done (X.then_code ?_)
    refine W.seq ?_
    refine W.region ?_
    refine WL.op rfl (d_move rfl ?_)
    refine WL.op rfl (d_assign rfl ?_)
    refine WL.done (X.then_code ?_)
    refine W.ret (X.ret1 rfl rfl ?_)
    exact ⟨a, c, rfl, H8.one 2 rfl⟩

set_option maxRecDepth 20000 in
theorem classLaw_any (name : ByteArray) (w : World) (rT : RdT tyN8 w (.slice (some ⟨0, 0, none⟩) deB.length 64) deB) :
    Calls Tryd.prog 5 #[.string name] w (Ret fun v w' => v = .bool true ∧ Upd w [] w' []) := by
  have le_rT := rT.le
  refine calls_of_W (args := [.string name]) Tryd.func5 rfl rfl rfl ?_
  have H0 : UpG w [] w [] := UpG.nil w
  show W _ _ _ _ [(0, .string name)] w
  refine W.seq ?_
  refine W.region ?_
  refine WL.op rfl (d_assign rfl ?_)
  refine WL.done (X.then_code ?_)
  refine W.seq ?_
  refine W.seq ?_
  refine W.region ?_
  refine WL.op rfl (d_call ok6 rfl (Ret.calls (awake_any  w (rT.at H0) ) fun _ w1 p1 => ?_))
  obtain ⟨rfl, u1⟩ := p1
  have H1 : UpG w [] w1 [] := H0.call u1
  refine WL.op rfl (d_notB rfl ?_)
  refine WL.done (X.then_code ?_)
  refine W.iff rfl ?_
  refine W.skip (X.then_code ?_)
  refine W.seq ?_
  refine W.region ?_
  refine WL.op rfl (d_move rfl ?_)
  refine WL.op rfl (d_call ok15 rfl (Ret.calls (class_any name w1  ) fun _ w2 p2 => ?_))
  obtain ⟨rfl, u2⟩ := p2
  have H2 : UpG w [] w2 [] := H1.call u2
  refine WL.op rfl (d_move rfl ?_)
  refine WL.op rfl (d_extract rfl rfl ?_)
  refine WL.op rfl (d_extract rfl rfl ?_)
  refine WL.op rfl (d_alloc sz24 fun w3 u3 => ?_)
  have H3 : UpG w [] w3 [[blk w2.heap.size #[.int .u64 ((Bs.zero.w0.toNat : Nat) : Int), .int .u64 ((Bs.zero.w1.toNat : Nat) : Int), .int .u64 ((Bs.zero.w2.toNat : Nat) : Int), .int .u64 ((Bs.zero.w3.toNat : Nat) : Int)] 24]] := H2.new' u3
  refine WL.op0 (d_storeAB (us := [.int .u64 ((((classB name).w0).toNat : Nat) : Int), .int .u64 ((((classB name).w1).toNat : Nat) : Int), .int .u64 ((((classB name).w2).toNat : Nat) : Int), .int .u64 ((((classB name).w3).toNat : Nat) : Int)]) (cs' := #[.int .u64 ((((classB name).w0).toNat : Nat) : Int), .int .u64 ((((classB name).w1).toNat : Nat) : Int), .int .u64 ((((classB name).w2).toNat : Nat) : Int), .int .u64 ((((classB name).w3).toNat : Nat) : Int)]) sz24 rfl rfl rfl rfl (H3.blk 0 rfl) rfl rfl fun w4 u4 => ?_)
  have H4 : UpG w [] w4 [[blk w2.heap.size #[.int .u64 ((((classB name).w0).toNat : Nat) : Int), .int .u64 ((((classB name).w1).toNat : Nat) : Int), .int .u64 ((((classB name).w2).toNat : Nat) : Int), .int .u64 ((((classB name).w3).toNat : Nat) : Int)] 24]] := H3.on 0 rfl u4
  refine WL.op rfl (d_assign rfl ?_)
  refine WL.done (X.then_code ?_)
  refine W.seq ?_
  refine W.region ?_
  refine WL.op rfl (d_move rfl ?_)
  refine WL.op rfl (d_call ok16 rfl (Ret.calls (rclass_any name w4  ) fun _ w5 p3 => ?_))
  obtain ⟨rfl, u5⟩ := p3
  have H5 : UpG w [] w5 [[blk w2.heap.size #[.int .u64 ((((classB name).w0).toNat : Nat) : Int), .int .u64 ((((classB name).w1).toNat : Nat) : Int), .int .u64 ((((classB name).w2).toNat : Nat) : Int), .int .u64 ((((classB name).w3).toNat : Nat) : Int)] 24]] := H4.call u5
  refine WL.op rfl (d_move rfl ?_)
  refine WL.op rfl (d_extract rfl rfl ?_)
  refine WL.op rfl (d_extract rfl rfl ?_)
  refine WL.op rfl (d_alloc sz24 fun w6 u6 => ?_)
  have H6 : UpG w [] w6 [[blk w2.heap.size #[.int .u64 ((((classB name).w0).toNat : Nat) : Int), .int .u64 ((((classB name).w1).toNat : Nat) : Int), .int .u64 ((((classB name).w2).toNat : Nat) : Int), .int .u64 ((((classB name).w3).toNat : Nat) : Int)] 24], [blk w5.heap.size #[.int .u64 ((Bs.zero.w0.toNat : Nat) : Int), .int .u64 ((Bs.zero.w1.toNat : Nat) : Int), .int .u64 ((Bs.zero.w2.toNat : Nat) : Int), .int .u64 ((Bs.zero.w3.toNat : Nat) : Int)] 24]] := H5.new' u6
  refine WL.op0 (d_storeAB (us := [.int .u64 ((((setOf (isB name)).w0).toNat : Nat) : Int), .int .u64 ((((setOf (isB name)).w1).toNat : Nat) : Int), .int .u64 ((((setOf (isB name)).w2).toNat : Nat) : Int), .int .u64 ((((setOf (isB name)).w3).toNat : Nat) : Int)]) (cs' := #[.int .u64 ((((setOf (isB name)).w0).toNat : Nat) : Int), .int .u64 ((((setOf (isB name)).w1).toNat : Nat) : Int), .int .u64 ((((setOf (isB name)).w2).toNat : Nat) : Int), .int .u64 ((((setOf (isB name)).w3).toNat : Nat) : Int)]) sz24 rfl rfl rfl rfl (H6.blk 1 rfl) rfl rfl fun w7 u7 => ?_)
  have H7 : UpG w [] w7 [[blk w2.heap.size #[.int .u64 ((((classB name).w0).toNat : Nat) : Int), .int .u64 ((((classB name).w1).toNat : Nat) : Int), .int .u64 ((((classB name).w2).toNat : Nat) : Int), .int .u64 ((((classB name).w3).toNat : Nat) : Int)] 24], [blk w5.heap.size #[.int .u64 ((((setOf (isB name)).w0).toNat : Nat) : Int), .int .u64 ((((setOf (isB name)).w1).toNat : Nat) : Int), .int .u64 ((((setOf (isB name)).w2).toNat : Nat) : Int), .int .u64 ((((setOf (isB name)).w3).toNat : Nat) : Int)] 24]] := H6.on 1 rfl u7
  refine WL.op rfl (d_assign rfl ?_)
  refine WL.done (X.then_code ?_)
  refine W.seq ?_
  refine W.region ?_
  refine WL.op rfl (d_call ok17 rfl (Ret.calls (names_any  w7  ) fun _ w8 p4 => ?_))
  obtain ⟨a2_1, c2_1, rfl, u8⟩ := p4
  have H8 : UpG w [] w8 [[blk w2.heap.size #[.int .u64 ((((classB name).w0).toNat : Nat) : Int), .int .u64 ((((classB name).w1).toNat : Nat) : Int), .int .u64 ((((classB name).w2).toNat : Nat) : Int), .int .u64 ((((classB name).w3).toNat : Nat) : Int)] 24], [blk w5.heap.size #[.int .u64 ((((setOf (isB name)).w0).toNat : Nat) : Int), .int .u64 ((((setOf (isB name)).w1).toNat : Nat) : Int), .int .u64 ((((setOf (isB name)).w2).toNat : Nat) : Int), .int .u64 ((((setOf (isB name)).w3).toNat : Nat) : Int)] 24], [rowT tyS (.slice a2_1 namesD.length c2_1) 9 namesD]] := (H7.new' u8).re rfl
  refine WL.op rfl (d_assign rfl ?_)
  refine WL.done (X.then_code ?_)
  refine W.seq ?_
  refine W.region ?_
  refine WL.op rfl (d_assign rfl ?_)
  refine WL.done (X.then_code ?_)
  refine W.seq ?_
  refine W.seq ?_
  refine W.region ?_
  refine WL.op rfl (d_assign rfl ?_)
  refine WL.done (X.then_code ?_)
  refine W.block ?_
  refine W.pick [9, 8, 7, 6, 5, 4, 3, 2, 0] (Γ' := [(9, .int .i64 0), (8, .bool false), (7, .slice a2_1 namesD.length c2_1), (6, .bool (isOk name)), (5, .pointer (some ⟨w5.heap.size, 0, none⟩)), (4, .bool (classOk name)), (3, .pointer (some ⟨w2.heap.size, 0, none⟩)), (2, .bool false), (0, .string name)]) rfl ?_
  refine W.loop (fun m Γ' w' => ∃ k : Nat, ∃ th : Bool, Γ' = [(9, .int .i64 ((k : Nat) : Int)), (8, .bool th), (7, .slice a2_1 namesD.length c2_1), (6, .bool (isOk name)), (5, .pointer (some ⟨w5.heap.size, 0, none⟩)), (4, .bool (classOk name)), (3, .pointer (some ⟨w2.heap.size, 0, none⟩)), (2, .bool false), (0, .string name)] ∧ UpG w [] w' [[blk w2.heap.size #[.int .u64 ((((classB name).w0).toNat : Nat) : Int), .int .u64 ((((classB name).w1).toNat : Nat) : Int), .int .u64 ((((classB name).w2).toNat : Nat) : Int), .int .u64 ((((classB name).w3).toNat : Nat) : Int)] 24], [blk w5.heap.size #[.int .u64 ((((setOf (isB name)).w0).toNat : Nat) : Int), .int .u64 ((((setOf (isB name)).w1).toNat : Nat) : Int), .int .u64 ((((setOf (isB name)).w2).toNat : Nat) : Int), .int .u64 ((((setOf (isB name)).w3).toNat : Nat) : Int)] 24], [rowT tyS (.slice a2_1 namesD.length c2_1) 9 namesD]] ∧ (k ≤ namesD.length) ∧ (th = memB name (namesD.take k)) ∧ m = namesD.length - k) (namesD.length - 0) ⟨0, false, rfl, H8, (by first | assumption | omega | simp), (by rfl), rfl⟩ ?_
  rintro m1 Γ1 w9 ⟨k, th, rfl, H9, hk, hth, rfl⟩
  have h12 := namesD_len
  refine W.seq ?_
  refine W.seq ?_
  refine W.region ?_
  refine WL.op rfl (d_move rfl ?_)
  refine WL.op rfl (d_move rfl ?_)
  refine WL.op rfl (d_lenS Tryd.underlying37 rfl ?_)
  refine WL.op rfl (d_cmp (decide (((k : Nat) : Int) < ((namesD.length : Nat) : Int))) rfl rfl rfl ?_)
  refine WL.done (X.then_code ?_)
  refine W.ite (p := ((k : Nat) : Int) < ((namesD.length : Nat) : Int)) rfl (fun c26 => ?_) (fun c26 => ?_)
  · skip
    refine W.skip (X.then_code ?_)
    refine W.seq ?_
    refine W.block ?_
    refine W.seq ?_
    refine W.seq ?_
    refine W.region ?_
    refine WL.op rfl (d_move rfl ?_)
    refine WL.op rfl (d_move rfl ?_)
    refine WL.op rfl (t_addr1 k (T := tyS) rfl Tryd.underlying37 sz9 rfl rfl (H9.rdT 2 rfl) rfl (by omega) ?_)
    refine WL.op rfl (t_load1 k .empty (T := tyS) rfl Tryd.underlying9 rfl rfl (H9.rdT 2 rfl) (by omega) rfl ?_)
    refine WL.op rfl (d_call ok16 rfl (Ret.calls (rclass_any (namesD.getD k .empty) w9  ) fun _ w10 p5 => ?_))
    obtain ⟨rfl, u9⟩ := p5
    have H10 : UpG w [] w10 [[blk w2.heap.size #[.int .u64 ((((classB name).w0).toNat : Nat) : Int), .int .u64 ((((classB name).w1).toNat : Nat) : Int), .int .u64 ((((classB name).w2).toNat : Nat) : Int), .int .u64 ((((classB name).w3).toNat : Nat) : Int)] 24], [blk w5.heap.size #[.int .u64 ((((setOf (isB name)).w0).toNat : Nat) : Int), .int .u64 ((((setOf (isB name)).w1).toNat : Nat) : Int), .int .u64 ((((setOf (isB name)).w2).toNat : Nat) : Int), .int .u64 ((((setOf (isB name)).w3).toNat : Nat) : Int)] 24], [rowT tyS (.slice a2_1 namesD.length c2_1) 9 namesD]] := H9.call u9
    refine WL.op rfl (d_move rfl ?_)
    refine WL.op rfl (d_extract rfl rfl ?_)
    refine WL.op rfl (d_extract rfl rfl ?_)
    refine WL.op rfl (d_alloc sz24 fun w11 u10 => ?_)
    have H11 : UpG w [] w11 [[blk w2.heap.size #[.int .u64 ((((classB name).w0).toNat : Nat) : Int), .int .u64 ((((classB name).w1).toNat : Nat) : Int), .int .u64 ((((classB name).w2).toNat : Nat) : Int), .int .u64 ((((classB name).w3).toNat : Nat) : Int)] 24], [blk w5.heap.size #[.int .u64 ((((setOf (isB name)).w0).toNat : Nat) : Int), .int .u64 ((((setOf (isB name)).w1).toNat : Nat) : Int), .int .u64 ((((setOf (isB name)).w2).toNat : Nat) : Int), .int .u64 ((((setOf (isB name)).w3).toNat : Nat) : Int)] 24], [rowT tyS (.slice a2_1 namesD.length c2_1) 9 namesD], [blk w10.heap.size #[.int .u64 ((Bs.zero.w0.toNat : Nat) : Int), .int .u64 ((Bs.zero.w1.toNat : Nat) : Int), .int .u64 ((Bs.zero.w2.toNat : Nat) : Int), .int .u64 ((Bs.zero.w3.toNat : Nat) : Int)] 24]] := H10.new' u10
    refine WL.op0 (d_storeAB (us := [.int .u64 ((((setOf (isB (namesD.getD k .empty))).w0).toNat : Nat) : Int), .int .u64 ((((setOf (isB (namesD.getD k .empty))).w1).toNat : Nat) : Int), .int .u64 ((((setOf (isB (namesD.getD k .empty))).w2).toNat : Nat) : Int), .int .u64 ((((setOf (isB (namesD.getD k .empty))).w3).toNat : Nat) : Int)]) (cs' := #[.int .u64 ((((setOf (isB (namesD.getD k .empty))).w0).toNat : Nat) : Int), .int .u64 ((((setOf (isB (namesD.getD k .empty))).w1).toNat : Nat) : Int), .int .u64 ((((setOf (isB (namesD.getD k .empty))).w2).toNat : Nat) : Int), .int .u64 ((((setOf (isB (namesD.getD k .empty))).w3).toNat : Nat) : Int)]) sz24 rfl rfl rfl rfl (H11.blk 3 rfl) rfl rfl fun w12 u11 => ?_)
    have H12 : UpG w [] w12 [[blk w2.heap.size #[.int .u64 ((((classB name).w0).toNat : Nat) : Int), .int .u64 ((((classB name).w1).toNat : Nat) : Int), .int .u64 ((((classB name).w2).toNat : Nat) : Int), .int .u64 ((((classB name).w3).toNat : Nat) : Int)] 24], [blk w5.heap.size #[.int .u64 ((((setOf (isB name)).w0).toNat : Nat) : Int), .int .u64 ((((setOf (isB name)).w1).toNat : Nat) : Int), .int .u64 ((((setOf (isB name)).w2).toNat : Nat) : Int), .int .u64 ((((setOf (isB name)).w3).toNat : Nat) : Int)] 24], [rowT tyS (.slice a2_1 namesD.length c2_1) 9 namesD], [blk w10.heap.size #[.int .u64 ((((setOf (isB (namesD.getD k .empty))).w0).toNat : Nat) : Int), .int .u64 ((((setOf (isB (namesD.getD k .empty))).w1).toNat : Nat) : Int), .int .u64 ((((setOf (isB (namesD.getD k .empty))).w2).toNat : Nat) : Int), .int .u64 ((((setOf (isB (namesD.getD k .empty))).w3).toNat : Nat) : Int)] 24]] := H11.on 3 rfl u11
    refine WL.op rfl (d_assign rfl ?_)
    refine WL.done (X.then_code ?_)
    refine W.seq ?_
    refine W.regionD mixed (by kernel_rfl) fun hok1 w13 k1 => ?_
    have H13 : UpG w [] w13 [[blk w2.heap.size #[.int .u64 ((((classB name).w0).toNat : Nat) : Int), .int .u64 ((((classB name).w1).toNat : Nat) : Int), .int .u64 ((((classB name).w2).toNat : Nat) : Int), .int .u64 ((((classB name).w3).toNat : Nat) : Int)] 24], [blk w5.heap.size #[.int .u64 ((((setOf (isB name)).w0).toNat : Nat) : Int), .int .u64 ((((setOf (isB name)).w1).toNat : Nat) : Int), .int .u64 ((((setOf (isB name)).w2).toNat : Nat) : Int), .int .u64 ((((setOf (isB name)).w3).toNat : Nat) : Int)] 24], [rowT tyS (.slice a2_1 namesD.length c2_1) 9 namesD], [blk w10.heap.size #[.int .u64 ((((setOf (isB (namesD.getD k .empty))).w0).toNat : Nat) : Int), .int .u64 ((((setOf (isB (namesD.getD k .empty))).w1).toNat : Nat) : Int), .int .u64 ((((setOf (isB (namesD.getD k .empty))).w2).toNat : Nat) : Int), .int .u64 ((((setOf (isB (namesD.getD k .empty))).w3).toNat : Nat) : Int)] 24]] := H12.kept k1
    refine WD.take hok1 0 (.bool (isOk (namesD.getD k .empty))) (fun _ => True) rfl rfl rfl rfl rfl trivial (.inl ⟨rfl, fun _ _ => d_move rfl ⟨rfl, rfl⟩⟩) ?_
    refine WD.take hok1 1 (.bool (!(isOk (namesD.getD k .empty)))) (fun _ => True) rfl rfl rfl rfl rfl trivial (.inl ⟨rfl, fun _ _ => d_notB rfl ⟨rfl, rfl⟩⟩) ?_
    refine WD.take hok1 2 (.bool (!(isOk (namesD.getD k .empty)))) (fun _ => True) rfl rfl rfl rfl rfl trivial (.inl ⟨rfl, fun _ _ => d_move rfl ⟨rfl, rfl⟩⟩) ?_
    refine WD.partB 41 (b := !(isOk (namesD.getD k .empty))) rfl (fun g27 => ?_) (fun g27 => ?_)
    · skip
      exfalso; rw [names_ok (by omega)] at g27; cases g27
    · skip
      refine WD.take hok1 3 (.int .i64 ((k : Nat) : Int)) (fun _ => True) rfl rfl rfl rfl rfl trivial (.inl ⟨rfl, fun _ _ => d_move rfl ⟨rfl, rfl⟩⟩) ?_
      refine WD.take hok1 4 (.bool (decide (((k : Nat) : Int) > (0 : Int)))) (fun _ => True) rfl rfl rfl rfl rfl trivial (.inl ⟨rfl, fun _ _ => d_cmp (decide (((k : Nat) : Int) > (0 : Int))) rfl rfl rfl ⟨rfl, rfl⟩⟩) ?_
      refine WD.take hok1 5 (.bool (decide (((k : Nat) : Int) > (0 : Int)))) (fun _ => True) rfl rfl rfl rfl rfl trivial (.inl ⟨rfl, fun _ _ => d_move rfl ⟨rfl, rfl⟩⟩) ?_
      refine WD.part 44 (p := ((k : Nat) : Int) > (0 : Int)) rfl (fun g27x => ?_) (fun g27x => ?_)
      · skip
        refine WD.take hok1 6 (.slice a2_1 namesD.length c2_1) (fun _ => True) rfl rfl rfl rfl rfl trivial (.inl ⟨rfl, fun _ _ => d_move rfl ⟨rfl, rfl⟩⟩) ?_
        refine WD.take hok1 7 (.int .i64 ((k : Nat) : Int)) (fun _ => True) rfl rfl rfl rfl rfl trivial (.inl ⟨rfl, fun _ _ => d_move rfl ⟨rfl, rfl⟩⟩) ?_
        refine WD.take hok1 8 (.int .i64 (((k : Nat) : Int) - 1)) (fun _ => True) rfl rfl rfl rfl rfl trivial (.inl ⟨rfl, fun _ _ => d_sub rfl rfl (by omega) (by omega) ⟨rfl, rfl⟩⟩) ?_
        refine WD.take hok1 9 (elemPtr (.slice a2_1 namesD.length c2_1) ((((k : Nat) : Int) - 1).toNat)) (fun w' => RdT tyS w' (.slice a2_1 namesD.length c2_1) namesD) rfl rfl rfl rfl rfl (H13.rdT 2 rfl) (.inl ⟨rfl, fun _ hC => t_addr1 ((((k : Nat) : Int) - 1).toNat) (T := tyS) rfl Tryd.underlying37 sz9 rfl rfl hC (by omega) (by omega) ⟨rfl, rfl⟩⟩) ?_
        refine WD.take hok1 10 (.string (namesD.getD ((((k : Nat) : Int) - 1).toNat) .empty)) (fun w' => RdT tyS w' (.slice a2_1 namesD.length c2_1) namesD) rfl rfl rfl rfl rfl (H13.rdT 2 rfl) (.inl ⟨rfl, fun _ hC => t_load1 ((((k : Nat) : Int) - 1).toNat) .empty (T := tyS) rfl Tryd.underlying9 rfl rfl hC (by omega) rfl ⟨rfl, rfl⟩⟩) ?_
        refine WD.take hok1 11 (.slice a2_1 namesD.length c2_1) (fun _ => True) rfl rfl rfl rfl rfl trivial (.inl ⟨rfl, fun _ _ => d_move rfl ⟨rfl, rfl⟩⟩) ?_
        refine WD.take hok1 12 (.int .i64 ((k : Nat) : Int)) (fun _ => True) rfl rfl rfl rfl rfl trivial (.inl ⟨rfl, fun _ _ => d_move rfl ⟨rfl, rfl⟩⟩) ?_
        refine WD.take hok1 13 (elemPtr (.slice a2_1 namesD.length c2_1) k) (fun w' => RdT tyS w' (.slice a2_1 namesD.length c2_1) namesD) rfl rfl rfl rfl rfl (H13.rdT 2 rfl) (.inl ⟨rfl, fun _ hC => t_addr1 k (T := tyS) rfl Tryd.underlying37 sz9 rfl rfl hC rfl (by omega) ⟨rfl, rfl⟩⟩) ?_
        refine WD.take hok1 14 (.string (namesD.getD k .empty)) (fun w' => RdT tyS w' (.slice a2_1 namesD.length c2_1) namesD) rfl rfl rfl rfl rfl (H13.rdT 2 rfl) (.inl ⟨rfl, fun _ hC => t_load1 k .empty (T := tyS) rfl Tryd.underlying9 rfl rfl hC (by omega) rfl ⟨rfl, rfl⟩⟩) ?_
        refine WD.take hok1 15 (.bool (strCmp .geq (namesD.getD ((((k : Nat) : Int) - 1).toNat) .empty) (namesD.getD k .empty))) (fun _ => True) rfl rfl rfl rfl rfl trivial (.inl ⟨rfl, fun _ _ => d_strcmp rfl rfl rfl ⟨rfl, rfl⟩⟩) ?_
        refine WD.take hok1 16 (.bool (strCmp .geq (namesD.getD ((((k : Nat) : Int) - 1).toNat) .empty) (namesD.getD k .empty))) (fun _ => True) rfl rfl rfl rfl rfl trivial (.inl ⟨rfl, fun _ _ => d_pick rfl rfl ⟨rfl, rfl⟩⟩) ?_
        refine WD.take hok1 17 (.bool (strCmp .geq (namesD.getD ((((k : Nat) : Int) - 1).toNat) .empty) (namesD.getD k .empty))) (fun _ => True) rfl rfl rfl rfl rfl trivial (.inl ⟨rfl, fun _ _ => d_pick rfl rfl ⟨rfl, rfl⟩⟩) ?_
        refine WD.done hok1 rfl (X.then_code ?_)
        refine W.pick [56, 55, 54, 53, 52, 51, 50, 49, 48, 47, 46, 45, 44, 43, 42, 9, 8, 7, 6, 5, 4, 3, 2, 0] (Γ' := [(56, .bool (strCmp .geq (namesD.getD ((((k : Nat) : Int) - 1).toNat) .empty) (namesD.getD k .empty))), (55, .bool (strCmp .geq (namesD.getD ((((k : Nat) : Int) - 1).toNat) .empty) (namesD.getD k .empty))), (54, .bool (strCmp .geq (namesD.getD ((((k : Nat) : Int) - 1).toNat) .empty) (namesD.getD k .empty))), (53, .string (namesD.getD k .empty)), (52, elemPtr (.slice a2_1 namesD.length c2_1) k), (51, .int .i64 ((k : Nat) : Int)), (50, .slice a2_1 namesD.length c2_1), (49, .string (namesD.getD ((((k : Nat) : Int) - 1).toNat) .empty)), (48, elemPtr (.slice a2_1 namesD.length c2_1) ((((k : Nat) : Int) - 1).toNat)), (47, .int .i64 (((k : Nat) : Int) - 1)), (46, .int .i64 ((k : Nat) : Int)), (45, .slice a2_1 namesD.length c2_1), (44, .bool true), (43, .bool (decide (((k : Nat) : Int) > (0 : Int)))), (42, .int .i64 ((k : Nat) : Int)), (9, .int .i64 ((k : Nat) : Int)), (8, .bool th), (7, .slice a2_1 namesD.length c2_1), (6, .bool (isOk name)), (5, .pointer (some ⟨w5.heap.size, 0, none⟩)), (4, .bool (classOk name)), (3, .pointer (some ⟨w2.heap.size, 0, none⟩)), (2, .bool false), (0, .string name)]) rfl ?_
        refine W.iteB (b := strCmp .geq (namesD.getD ((((k : Nat) : Int) - 1).toNat) .empty) (namesD.getD k .empty)) rfl (fun c27 => ?_) (fun c27 => ?_)
        · skip
          exfalso; rw [show (((k : Nat) : Int) - 1).toNat = k - 1 by omega, names_ge (by omega) (by omega)] at c27; cases c27
        · skip
          refine W.skip (X.then_code ?_)
          refine W.region ?_
          refine WL.op rfl (d_move rfl ?_)
          refine WL.op rfl (d_move rfl ?_)
          refine WL.partB 58 (b := th) rfl (fun g30 => ?_) (fun g30 => ?_)
          · skip
            refine WL.opN rfl rfl rfl rfl ?_
            refine WL.opN rfl rfl rfl rfl ?_
            refine WL.opN rfl rfl rfl rfl ?_
            refine WL.opN rfl rfl rfl rfl ?_
            refine WL.opN rfl rfl rfl rfl ?_
            refine WL.opN rfl rfl rfl rfl ?_
            refine WL.op rfl (d_pick rfl rfl ?_)
            refine WL.op rfl (d_assign rfl ?_)
            refine WL.done (X.block_normal (X.then_code ?_))
            refine W.pick [8, 64, 63, 62, 61, 60, 59, 55, 54, 53, 52, 51, 50, 49, 48, 47, 46, 45, 44, 43, 42, 9, 7, 6, 5, 4, 3, 2, 0] (Γ' := [(8, .bool true), (64, undef), (63, undef), (62, undef), (61, undef), (60, undef), (59, undef), (55, .bool (strCmp .geq (namesD.getD ((((k : Nat) : Int) - 1).toNat) .empty) (namesD.getD k .empty))), (54, .bool (strCmp .geq (namesD.getD ((((k : Nat) : Int) - 1).toNat) .empty) (namesD.getD k .empty))), (53, .string (namesD.getD k .empty)), (52, elemPtr (.slice a2_1 namesD.length c2_1) k), (51, .int .i64 ((k : Nat) : Int)), (50, .slice a2_1 namesD.length c2_1), (49, .string (namesD.getD ((((k : Nat) : Int) - 1).toNat) .empty)), (48, elemPtr (.slice a2_1 namesD.length c2_1) ((((k : Nat) : Int) - 1).toNat)), (47, .int .i64 (((k : Nat) : Int) - 1)), (46, .int .i64 ((k : Nat) : Int)), (45, .slice a2_1 namesD.length c2_1), (44, .bool true), (43, .bool (decide (((k : Nat) : Int) > (0 : Int)))), (42, .int .i64 ((k : Nat) : Int)), (9, .int .i64 ((k : Nat) : Int)), (7, .slice a2_1 namesD.length c2_1), (6, .bool (isOk name)), (5, .pointer (some ⟨w5.heap.size, 0, none⟩)), (4, .bool (classOk name)), (3, .pointer (some ⟨w2.heap.size, 0, none⟩)), (2, .bool false), (0, .string name)]) rfl ?_
            refine W.region ?_
            refine WL.op rfl (d_move rfl ?_)
            refine WL.op rfl (d_add rfl rfl (by omega) (by omega) ?_)
            refine WL.op rfl (d_assign rfl ?_)
            refine WL.done ?_
            exact X.next [9, 8, 7, 6, 5, 4, 3, 2, 0] (Γ' := [(9, .int .i64 (((k + 1) : Nat) : Int)), (8, .bool true), (7, .slice a2_1 namesD.length c2_1), (6, .bool (isOk name)), (5, .pointer (some ⟨w5.heap.size, 0, none⟩)), (4, .bool (classOk name)), (3, .pointer (some ⟨w2.heap.size, 0, none⟩)), (2, .bool false), (0, .string name)]) rfl (namesD.length - (k + 1)) (by omega) ⟨k + 1, true, rfl, (UpG.of (G := [[blk w2.heap.size #[.int .u64 ((((classB name).w0).toNat : Nat) : Int), .int .u64 ((((classB name).w1).toNat : Nat) : Int), .int .u64 ((((classB name).w2).toNat : Nat) : Int), .int .u64 ((((classB name).w3).toNat : Nat) : Int)] 24], [blk w5.heap.size #[.int .u64 ((((setOf (isB name)).w0).toNat : Nat) : Int), .int .u64 ((((setOf (isB name)).w1).toNat : Nat) : Int), .int .u64 ((((setOf (isB name)).w2).toNat : Nat) : Int), .int .u64 ((((setOf (isB name)).w3).toNat : Nat) : Int)] 24], [rowT tyS (.slice a2_1 namesD.length c2_1) 9 namesD]]) (Upd.sel H13 (M := [blk w2.heap.size #[.int .u64 ((((classB name).w0).toNat : Nat) : Int), .int .u64 ((((classB name).w1).toNat : Nat) : Int), .int .u64 ((((classB name).w2).toNat : Nat) : Int), .int .u64 ((((classB name).w3).toNat : Nat) : Int)] 24, blk w5.heap.size #[.int .u64 ((((setOf (isB name)).w0).toNat : Nat) : Int), .int .u64 ((((setOf (isB name)).w1).toNat : Nat) : Int), .int .u64 ((((setOf (isB name)).w2).toNat : Nat) : Int), .int .u64 ((((setOf (isB name)).w3).toNat : Nat) : Int)] 24, rowT tyS (.slice a2_1 namesD.length c2_1) 9 namesD]) (l := [0, 1, 2]) rfl rfl) rfl), (by first | assumption | omega | simp), (by rw [there_step (by omega), ← hth]; simp [g30]), rfl⟩
          · skip
            refine WL.opG rfl rfl rfl (d_move rfl ?_)
            refine WL.opG rfl rfl rfl (d_move rfl ?_)
            refine WL.opG rfl rfl rfl (t_addr1 k (T := tyS) rfl Tryd.underlying37 sz9 rfl rfl (H13.rdT 2 rfl) rfl (by omega) ?_)
            refine WL.opG rfl rfl rfl (t_load1 k .empty (T := tyS) rfl Tryd.underlying9 rfl rfl (H13.rdT 2 rfl) (by omega) rfl ?_)
            refine WL.opG rfl rfl rfl (d_move rfl ?_)
            refine WL.opG rfl rfl rfl (d_streq rfl rfl ?_)
            refine WL.op rfl (d_pick rfl rfl ?_)
            refine WL.op rfl (d_assign rfl ?_)
            refine WL.done (X.block_normal (X.then_code ?_))
            refine W.pick [8, 64, 63, 62, 61, 60, 59, 55, 54, 53, 52, 51, 50, 49, 48, 47, 46, 45, 44, 43, 42, 9, 7, 6, 5, 4, 3, 2, 0] (Γ' := [(8, .bool (decide ((namesD.getD k .empty) = name))), (64, .bool (decide ((namesD.getD k .empty) = name))), (63, .string name), (62, .string (namesD.getD k .empty)), (61, elemPtr (.slice a2_1 namesD.length c2_1) k), (60, .int .i64 ((k : Nat) : Int)), (59, .slice a2_1 namesD.length c2_1), (55, .bool (strCmp .geq (namesD.getD ((((k : Nat) : Int) - 1).toNat) .empty) (namesD.getD k .empty))), (54, .bool (strCmp .geq (namesD.getD ((((k : Nat) : Int) - 1).toNat) .empty) (namesD.getD k .empty))), (53, .string (namesD.getD k .empty)), (52, elemPtr (.slice a2_1 namesD.length c2_1) k), (51, .int .i64 ((k : Nat) : Int)), (50, .slice a2_1 namesD.length c2_1), (49, .string (namesD.getD ((((k : Nat) : Int) - 1).toNat) .empty)), (48, elemPtr (.slice a2_1 namesD.length c2_1) ((((k : Nat) : Int) - 1).toNat)), (47, .int .i64 (((k : Nat) : Int) - 1)), (46, .int .i64 ((k : Nat) : Int)), (45, .slice a2_1 namesD.length c2_1), (44, .bool true), (43, .bool (decide (((k : Nat) : Int) > (0 : Int)))), (42, .int .i64 ((k : Nat) : Int)), (9, .int .i64 ((k : Nat) : Int)), (7, .slice a2_1 namesD.length c2_1), (6, .bool (isOk name)), (5, .pointer (some ⟨w5.heap.size, 0, none⟩)), (4, .bool (classOk name)), (3, .pointer (some ⟨w2.heap.size, 0, none⟩)), (2, .bool false), (0, .string name)]) rfl ?_
            refine W.region ?_
            refine WL.op rfl (d_move rfl ?_)
            refine WL.op rfl (d_add rfl rfl (by omega) (by omega) ?_)
            refine WL.op rfl (d_assign rfl ?_)
            refine WL.done ?_
            exact X.next [9, 8, 7, 6, 5, 4, 3, 2, 0] (Γ' := [(9, .int .i64 (((k + 1) : Nat) : Int)), (8, .bool (decide ((namesD.getD k .empty) = name))), (7, .slice a2_1 namesD.length c2_1), (6, .bool (isOk name)), (5, .pointer (some ⟨w5.heap.size, 0, none⟩)), (4, .bool (classOk name)), (3, .pointer (some ⟨w2.heap.size, 0, none⟩)), (2, .bool false), (0, .string name)]) rfl (namesD.length - (k + 1)) (by omega) ⟨k + 1, decide ((namesD.getD k .empty) = name), rfl, (UpG.of (G := [[blk w2.heap.size #[.int .u64 ((((classB name).w0).toNat : Nat) : Int), .int .u64 ((((classB name).w1).toNat : Nat) : Int), .int .u64 ((((classB name).w2).toNat : Nat) : Int), .int .u64 ((((classB name).w3).toNat : Nat) : Int)] 24], [blk w5.heap.size #[.int .u64 ((((setOf (isB name)).w0).toNat : Nat) : Int), .int .u64 ((((setOf (isB name)).w1).toNat : Nat) : Int), .int .u64 ((((setOf (isB name)).w2).toNat : Nat) : Int), .int .u64 ((((setOf (isB name)).w3).toNat : Nat) : Int)] 24], [rowT tyS (.slice a2_1 namesD.length c2_1) 9 namesD]]) (Upd.sel H13 (M := [blk w2.heap.size #[.int .u64 ((((classB name).w0).toNat : Nat) : Int), .int .u64 ((((classB name).w1).toNat : Nat) : Int), .int .u64 ((((classB name).w2).toNat : Nat) : Int), .int .u64 ((((classB name).w3).toNat : Nat) : Int)] 24, blk w5.heap.size #[.int .u64 ((((setOf (isB name)).w0).toNat : Nat) : Int), .int .u64 ((((setOf (isB name)).w1).toNat : Nat) : Int), .int .u64 ((((setOf (isB name)).w2).toNat : Nat) : Int), .int .u64 ((((setOf (isB name)).w3).toNat : Nat) : Int)] 24, rowT tyS (.slice a2_1 namesD.length c2_1) 9 namesD]) (l := [0, 1, 2]) rfl rfl) rfl), (by first | assumption | omega | simp), (by rw [there_step (by omega), ← hth]; simp [g30]), rfl⟩
      · skip
        refine WD.take hok1 6 undef (fun _ => True) rfl rfl rfl rfl rfl trivial (.inr ⟨rfl, rfl⟩) ?_
        refine WD.take hok1 7 undef (fun _ => True) rfl rfl rfl rfl rfl trivial (.inr ⟨rfl, rfl⟩) ?_
        refine WD.take hok1 8 undef (fun _ => True) rfl rfl rfl rfl rfl trivial (.inr ⟨rfl, rfl⟩) ?_
        refine WD.take hok1 9 undef (fun _ => True) rfl rfl rfl rfl rfl trivial (.inr ⟨rfl, rfl⟩) ?_
        refine WD.take hok1 10 undef (fun _ => True) rfl rfl rfl rfl rfl trivial (.inr ⟨rfl, rfl⟩) ?_
        refine WD.take hok1 11 undef (fun _ => True) rfl rfl rfl rfl rfl trivial (.inr ⟨rfl, rfl⟩) ?_
        refine WD.take hok1 12 undef (fun _ => True) rfl rfl rfl rfl rfl trivial (.inr ⟨rfl, rfl⟩) ?_
        refine WD.take hok1 13 undef (fun _ => True) rfl rfl rfl rfl rfl trivial (.inr ⟨rfl, rfl⟩) ?_
        refine WD.take hok1 14 undef (fun _ => True) rfl rfl rfl rfl rfl trivial (.inr ⟨rfl, rfl⟩) ?_
        refine WD.take hok1 15 undef (fun _ => True) rfl rfl rfl rfl rfl trivial (.inr ⟨rfl, rfl⟩) ?_
        refine WD.take hok1 16 (.bool false) (fun _ => True) rfl rfl rfl rfl rfl trivial (.inl ⟨rfl, fun _ _ => d_pick rfl rfl ⟨rfl, rfl⟩⟩) ?_
        refine WD.take hok1 17 (.bool false) (fun _ => True) rfl rfl rfl rfl rfl trivial (.inl ⟨rfl, fun _ _ => d_pick rfl rfl ⟨rfl, rfl⟩⟩) ?_
        refine WD.done hok1 rfl (X.then_code ?_)
        refine W.pick [56, 55, 54, 53, 52, 51, 50, 49, 48, 47, 46, 45, 44, 43, 42, 9, 8, 7, 6, 5, 4, 3, 2, 0] (Γ' := [(56, .bool false), (55, .bool false), (54, undef), (53, undef), (52, undef), (51, undef), (50, undef), (49, undef), (48, undef), (47, undef), (46, undef), (45, undef), (44, .bool false), (43, .bool (decide (((k : Nat) : Int) > (0 : Int)))), (42, .int .i64 ((k : Nat) : Int)), (9, .int .i64 ((k : Nat) : Int)), (8, .bool th), (7, .slice a2_1 namesD.length c2_1), (6, .bool (isOk name)), (5, .pointer (some ⟨w5.heap.size, 0, none⟩)), (4, .bool (classOk name)), (3, .pointer (some ⟨w2.heap.size, 0, none⟩)), (2, .bool false), (0, .string name)]) rfl ?_
        refine W.iff rfl ?_
        refine W.skip (X.then_code ?_)
        refine W.region ?_
        refine WL.op rfl (d_move rfl ?_)
        refine WL.op rfl (d_move rfl ?_)
        refine WL.partB 58 (b := th) rfl (fun g30 => ?_) (fun g30 => ?_)
        · skip
          refine WL.opN rfl rfl rfl rfl ?_
          refine WL.opN rfl rfl rfl rfl ?_
          refine WL.opN rfl rfl rfl rfl ?_
          refine WL.opN rfl rfl rfl rfl ?_
          refine WL.opN rfl rfl rfl rfl ?_
          refine WL.opN rfl rfl rfl rfl ?_
          refine WL.op rfl (d_pick rfl rfl ?_)
          refine WL.op rfl (d_assign rfl ?_)
          refine WL.done (X.block_normal (X.then_code ?_))
          refine W.pick [8, 64, 63, 62, 61, 60, 59, 55, 54, 53, 52, 51, 50, 49, 48, 47, 46, 45, 44, 43, 42, 9, 7, 6, 5, 4, 3, 2, 0] (Γ' := [(8, .bool true), (64, undef), (63, undef), (62, undef), (61, undef), (60, undef), (59, undef), (55, .bool false), (54, undef), (53, undef), (52, undef), (51, undef), (50, undef), (49, undef), (48, undef), (47, undef), (46, undef), (45, undef), (44, .bool false), (43, .bool (decide (((k : Nat) : Int) > (0 : Int)))), (42, .int .i64 ((k : Nat) : Int)), (9, .int .i64 ((k : Nat) : Int)), (7, .slice a2_1 namesD.length c2_1), (6, .bool (isOk name)), (5, .pointer (some ⟨w5.heap.size, 0, none⟩)), (4, .bool (classOk name)), (3, .pointer (some ⟨w2.heap.size, 0, none⟩)), (2, .bool false), (0, .string name)]) rfl ?_
          refine W.region ?_
          refine WL.op rfl (d_move rfl ?_)
          refine WL.op rfl (d_add rfl rfl (by omega) (by omega) ?_)
          refine WL.op rfl (d_assign rfl ?_)
          refine WL.done ?_
          exact X.next [9, 8, 7, 6, 5, 4, 3, 2, 0] (Γ' := [(9, .int .i64 (((k + 1) : Nat) : Int)), (8, .bool true), (7, .slice a2_1 namesD.length c2_1), (6, .bool (isOk name)), (5, .pointer (some ⟨w5.heap.size, 0, none⟩)), (4, .bool (classOk name)), (3, .pointer (some ⟨w2.heap.size, 0, none⟩)), (2, .bool false), (0, .string name)]) rfl (namesD.length - (k + 1)) (by omega) ⟨k + 1, true, rfl, (UpG.of (G := [[blk w2.heap.size #[.int .u64 ((((classB name).w0).toNat : Nat) : Int), .int .u64 ((((classB name).w1).toNat : Nat) : Int), .int .u64 ((((classB name).w2).toNat : Nat) : Int), .int .u64 ((((classB name).w3).toNat : Nat) : Int)] 24], [blk w5.heap.size #[.int .u64 ((((setOf (isB name)).w0).toNat : Nat) : Int), .int .u64 ((((setOf (isB name)).w1).toNat : Nat) : Int), .int .u64 ((((setOf (isB name)).w2).toNat : Nat) : Int), .int .u64 ((((setOf (isB name)).w3).toNat : Nat) : Int)] 24], [rowT tyS (.slice a2_1 namesD.length c2_1) 9 namesD]]) (Upd.sel H13 (M := [blk w2.heap.size #[.int .u64 ((((classB name).w0).toNat : Nat) : Int), .int .u64 ((((classB name).w1).toNat : Nat) : Int), .int .u64 ((((classB name).w2).toNat : Nat) : Int), .int .u64 ((((classB name).w3).toNat : Nat) : Int)] 24, blk w5.heap.size #[.int .u64 ((((setOf (isB name)).w0).toNat : Nat) : Int), .int .u64 ((((setOf (isB name)).w1).toNat : Nat) : Int), .int .u64 ((((setOf (isB name)).w2).toNat : Nat) : Int), .int .u64 ((((setOf (isB name)).w3).toNat : Nat) : Int)] 24, rowT tyS (.slice a2_1 namesD.length c2_1) 9 namesD]) (l := [0, 1, 2]) rfl rfl) rfl), (by first | assumption | omega | simp), (by rw [there_step (by omega), ← hth]; simp [g30]), rfl⟩
        · skip
          refine WL.opG rfl rfl rfl (d_move rfl ?_)
          refine WL.opG rfl rfl rfl (d_move rfl ?_)
          refine WL.opG rfl rfl rfl (t_addr1 k (T := tyS) rfl Tryd.underlying37 sz9 rfl rfl (H13.rdT 2 rfl) rfl (by omega) ?_)
          refine WL.opG rfl rfl rfl (t_load1 k .empty (T := tyS) rfl Tryd.underlying9 rfl rfl (H13.rdT 2 rfl) (by omega) rfl ?_)
          refine WL.opG rfl rfl rfl (d_move rfl ?_)
          refine WL.opG rfl rfl rfl (d_streq rfl rfl ?_)
          refine WL.op rfl (d_pick rfl rfl ?_)
          refine WL.op rfl (d_assign rfl ?_)
          refine WL.done (X.block_normal (X.then_code ?_))
          refine W.pick [8, 64, 63, 62, 61, 60, 59, 55, 54, 53, 52, 51, 50, 49, 48, 47, 46, 45, 44, 43, 42, 9, 7, 6, 5, 4, 3, 2, 0] (Γ' := [(8, .bool (decide ((namesD.getD k .empty) = name))), (64, .bool (decide ((namesD.getD k .empty) = name))), (63, .string name), (62, .string (namesD.getD k .empty)), (61, elemPtr (.slice a2_1 namesD.length c2_1) k), (60, .int .i64 ((k : Nat) : Int)), (59, .slice a2_1 namesD.length c2_1), (55, .bool false), (54, undef), (53, undef), (52, undef), (51, undef), (50, undef), (49, undef), (48, undef), (47, undef), (46, undef), (45, undef), (44, .bool false), (43, .bool (decide (((k : Nat) : Int) > (0 : Int)))), (42, .int .i64 ((k : Nat) : Int)), (9, .int .i64 ((k : Nat) : Int)), (7, .slice a2_1 namesD.length c2_1), (6, .bool (isOk name)), (5, .pointer (some ⟨w5.heap.size, 0, none⟩)), (4, .bool (classOk name)), (3, .pointer (some ⟨w2.heap.size, 0, none⟩)), (2, .bool false), (0, .string name)]) rfl ?_
          refine W.region ?_
          refine WL.op rfl (d_move rfl ?_)
          refine WL.op rfl (d_add rfl rfl (by omega) (by omega) ?_)
          refine WL.op rfl (d_assign rfl ?_)
          refine WL.done ?_
          exact X.next [9, 8, 7, 6, 5, 4, 3, 2, 0] (Γ' := [(9, .int .i64 (((k + 1) : Nat) : Int)), (8, .bool (decide ((namesD.getD k .empty) = name))), (7, .slice a2_1 namesD.length c2_1), (6, .bool (isOk name)), (5, .pointer (some ⟨w5.heap.size, 0, none⟩)), (4, .bool (classOk name)), (3, .pointer (some ⟨w2.heap.size, 0, none⟩)), (2, .bool false), (0, .string name)]) rfl (namesD.length - (k + 1)) (by omega) ⟨k + 1, decide ((namesD.getD k .empty) = name), rfl, (UpG.of (G := [[blk w2.heap.size #[.int .u64 ((((classB name).w0).toNat : Nat) : Int), .int .u64 ((((classB name).w1).toNat : Nat) : Int), .int .u64 ((((classB name).w2).toNat : Nat) : Int), .int .u64 ((((classB name).w3).toNat : Nat) : Int)] 24], [blk w5.heap.size #[.int .u64 ((((setOf (isB name)).w0).toNat : Nat) : Int), .int .u64 ((((setOf (isB name)).w1).toNat : Nat) : Int), .int .u64 ((((setOf (isB name)).w2).toNat : Nat) : Int), .int .u64 ((((setOf (isB name)).w3).toNat : Nat) : Int)] 24], [rowT tyS (.slice a2_1 namesD.length c2_1) 9 namesD]]) (Upd.sel H13 (M := [blk w2.heap.size #[.int .u64 ((((classB name).w0).toNat : Nat) : Int), .int .u64 ((((classB name).w1).toNat : Nat) : Int), .int .u64 ((((classB name).w2).toNat : Nat) : Int), .int .u64 ((((classB name).w3).toNat : Nat) : Int)] 24, blk w5.heap.size #[.int .u64 ((((setOf (isB name)).w0).toNat : Nat) : Int), .int .u64 ((((setOf (isB name)).w1).toNat : Nat) : Int), .int .u64 ((((setOf (isB name)).w2).toNat : Nat) : Int), .int .u64 ((((setOf (isB name)).w3).toNat : Nat) : Int)] 24, rowT tyS (.slice a2_1 namesD.length c2_1) 9 namesD]) (l := [0, 1, 2]) rfl rfl) rfl), (by first | assumption | omega | simp), (by rw [there_step (by omega), ← hth]; simp [g30]), rfl⟩
  · skip
    refine W.exit (X.then_exit (X.then_exit (X.block_exit (X.then_code ?_))))
    refine W.seq ?_
    refine W.region ?_
    refine WL.op rfl (d_loadAB [.int .u64 ((((classB name).w0).toNat : Nat) : Int), .int .u64 ((((classB name).w1).toNat : Nat) : Int), .int .u64 ((((classB name).w2).toNat : Nat) : Int), .int .u64 ((((classB name).w3).toNat : Nat) : Int)] Tryd.underlying24 rfl sz24 rfl (H9.blk 0 rfl) rfl rfl ?_)
    refine WL.op rfl (d_loadAB [.int .u64 ((((setOf (isB name)).w0).toNat : Nat) : Int), .int .u64 ((((setOf (isB name)).w1).toNat : Nat) : Int), .int .u64 ((((setOf (isB name)).w2).toNat : Nat) : Int), .int .u64 ((((setOf (isB name)).w3).toNat : Nat) : Int)] Tryd.underlying24 rfl sz24 rfl (H9.blk 1 rfl) rfl rfl ?_)
    refine WL.op rfl (d_bseq (classB name) (setOf (isB name)) rfl rfl Tryd.underlying24 Tryd.underlying22 sz22 (by kernel_rfl) ?_)
    refine WL.op rfl (d_move rfl ?_)
    refine WL.part 69 (p := (classB name) = (setOf (isB name))) rfl (fun g32 => ?_) (fun g32 => ?_)
    · skip
      refine WL.opG rfl rfl rfl (d_move rfl ?_)
      refine WL.opG rfl rfl rfl (d_move rfl ?_)
      refine WL.opG rfl rfl rfl (d_booleq Tryd.underlying4 rfl rfl ?_)
      refine WL.op rfl (d_pick rfl rfl ?_)
      refine WL.op rfl (d_move rfl ?_)
      refine WL.part 74 (p := (classOk name) = (isOk name)) rfl (fun g32x => ?_) (fun g32x => ?_)
      · skip
        refine WL.opG rfl rfl rfl (d_move rfl ?_)
        refine WL.opG rfl rfl rfl (d_move rfl ?_)
        refine WL.opG rfl rfl rfl (d_booleq Tryd.underlying4 rfl rfl ?_)
        refine WL.op rfl (d_pick rfl rfl ?_)
        refine WL.op rfl (d_move rfl ?_)
        refine WL.part 79 (p := th = (isOk name)) rfl (fun g32xx => ?_) (fun g32xx => ?_)
        · skip
          refine WL.opG rfl rfl rfl (d_move rfl ?_)
          refine WL.opG rfl rfl rfl (d_lenS Tryd.underlying37 rfl ?_)
          refine WL.opG rfl rfl rfl (d_cmp (decide (((namesD.length : Nat) : Int) = (12 : Int))) rfl rfl rfl ?_)
          refine WL.op rfl (d_pick rfl rfl ?_)
          refine WL.op rfl (d_assign rfl ?_)
          refine WL.done (X.then_code ?_)
          refine W.pick [2] (Γ' := [(2, .bool (decide (((namesD.length : Nat) : Int) = (12 : Int))))]) rfl ?_
          refine W.ret (X.ret1 rfl rfl ?_)
          exact ⟨(by rw [decide_eq_true (by rw [namesD_len]; rfl)]), H9.noneL⟩
        · skip
          exact absurd (by rw [hth, List.take_of_length_le (by omega), isOk_mem]) g32xx
      · skip
        exact absurd (class_eq name).2 g32x
    · skip
      exact absurd (class_eq name).1 g32
end Go.Proofs.YtnjjjmpdikpjaaaDoor

