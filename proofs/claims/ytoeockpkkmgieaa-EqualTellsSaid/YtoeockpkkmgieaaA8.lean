/- The walks of functions, printed by wip/tools/gw.py. -/
import Derived.Test.YtoeockpkkmgieaaF2
import Derived.Test.YtoeockpkkmgieaaSx7
import Derived.Test.YtoeockpkkmgieaaA7
namespace Go.Proofs.Ytoeockpkkmgieaa
open Go Go.Sx
set_option linter.unusedVariables false
set_option linter.unusedSimpArgs false
set_option maxRecDepth 20000 in
theorem awake12_any  (w : World) :
    Calls Try.prog 16 #[] w (Ret fun v w' => v = .bool true ∧ Upd w [] w' []) := by
  refine calls_of_W (args := []) Try.func16 rfl rfl rfl ?_
  have H0 : UpG w [] w [] := UpG.nil w
  show W _ _ _ _ [] w
  refine W.seq ?_
  refine W.region ?_
  refine WL.op rfl (d_assign rfl ?_)
  refine WL.done (X.then_code ?_)
  refine W.seq ?_
  refine W.region ?_
  refine WL.op rfl (d_call ok39 rfl (Ret.calls (word_any ⟨#[97, 98]⟩ 0 1 w  (by decide)) fun _ w1 p1 => ?_))
  obtain ⟨a2_1, c2_1, rfl, u1⟩ := p1
  have H1 : UpG w [] w1 [[rowT (tyI .i64) (.slice a2_1 ((wordD ⟨#[97, 98]⟩ 0 1).length) c2_1) 3 (wordD ⟨#[97, 98]⟩ 0 1)]] := (H0.new' u1).re rfl
  refine WL.op rfl (d_move rfl ?_)
  refine WL.op rfl (d_extract rfl rfl ?_)
  refine WL.op rfl (d_extract rfl rfl ?_)
  refine WL.op rfl (d_assign rfl ?_)
  refine WL.op rfl (d_assign rfl ?_)
  refine WL.done (X.then_code ?_)
  refine W.seq ?_
  refine W.region ?_
  refine WL.op rfl (t_make 259 0 (T := (tyI .i64)) rfl Try.underlying22 sz3 rfl rfl rfl rfl (by omega) (by omega) fun w2 u2 => ?_)
  have H2 : UpG w [] w2 [[rowT (tyI .i64) (.slice a2_1 ((wordD ⟨#[97, 98]⟩ 0 1).length) c2_1) 3 (wordD ⟨#[97, 98]⟩ 0 1)], [rowT (tyI .i64) (.slice (some ⟨w1.heap.size, 0, none⟩) ((List.replicate 259 0).length) 259) 3 (List.replicate 259 0)]] := H1.new' u2
  refine WL.op rfl (t_buildSlice (T := (tyI .i64)) (xs := [0]) (cs := #[.int .i64 0]) rfl Try.underlying22 sz3 rfl rfl rfl rfl (by kernel_rfl) rfl rfl fun w3 u3 => ?_)
  have H3 : UpG w [] w3 [[rowT (tyI .i64) (.slice a2_1 ((wordD ⟨#[97, 98]⟩ 0 1).length) c2_1) 3 (wordD ⟨#[97, 98]⟩ 0 1)], [rowT (tyI .i64) (.slice (some ⟨w1.heap.size, 0, none⟩) ((List.replicate 259 0).length) 259) 3 (List.replicate 259 0)], [rowT (tyI .i64) (.slice (some ⟨w2.heap.size, 0, none⟩) ([0].length) ([0].length)) 3 [0]]] := H2.new' u3
  refine WL.op rfl (t_buildSlice (T := tyB) (xs := [true]) (cs := #[.bool true]) rfl Try.underlying23 sz4 rfl rfl rfl rfl (by kernel_rfl) rfl rfl fun w4 u4 => ?_)
  have H4 : UpG w [] w4 [[rowT (tyI .i64) (.slice a2_1 ((wordD ⟨#[97, 98]⟩ 0 1).length) c2_1) 3 (wordD ⟨#[97, 98]⟩ 0 1)], [rowT (tyI .i64) (.slice (some ⟨w1.heap.size, 0, none⟩) ((List.replicate 259 0).length) 259) 3 (List.replicate 259 0)], [rowT (tyI .i64) (.slice (some ⟨w2.heap.size, 0, none⟩) ([0].length) ([0].length)) 3 [0]], [rowT tyB (.slice (some ⟨w3.heap.size, 0, none⟩) ([true].length) ([true].length)) 4 [true]]] := H3.new' u4
  refine WL.op rfl (d_build (cs := #[.slice (some ⟨w1.heap.size, 0, none⟩) ((List.replicate 259 0).length) 259, .int .i64 1, .int .i64 0, .slice (some ⟨w2.heap.size, 0, none⟩) ([0].length) ([0].length), .slice (some ⟨w3.heap.size, 0, none⟩) ([true].length) ([true].length)]) rfl (by kernel_rfl) ?_)
  refine WL.op rfl (d_alloc sz25 fun w5 u5 => ?_)
  have H5 : UpG w [] w5 [[rowT (tyI .i64) (.slice a2_1 ((wordD ⟨#[97, 98]⟩ 0 1).length) c2_1) 3 (wordD ⟨#[97, 98]⟩ 0 1)], [rowT (tyI .i64) (.slice (some ⟨w1.heap.size, 0, none⟩) ((List.replicate 259 0).length) 259) 3 (List.replicate 259 0)], [rowT (tyI .i64) (.slice (some ⟨w2.heap.size, 0, none⟩) ([0].length) ([0].length)) 3 [0]], [rowT tyB (.slice (some ⟨w3.heap.size, 0, none⟩) ([true].length) ([true].length)) 4 [true]], [blk w4.heap.size #[.slice none 0 0, .int .i64 0, .int .i64 0, .slice none 0 0, .slice none 0 0] 25]] := H4.new' u5
  refine WL.op0 (d_storeAB (us := [.slice (some ⟨w1.heap.size, 0, none⟩) ((List.replicate 259 0).length) 259, .int .i64 1, .int .i64 0, .slice (some ⟨w2.heap.size, 0, none⟩) ([0].length) ([0].length), .slice (some ⟨w3.heap.size, 0, none⟩) ([true].length) ([true].length)]) (cs' := #[.slice (some ⟨w1.heap.size, 0, none⟩) ((List.replicate 259 0).length) 259, .int .i64 1, .int .i64 0, .slice (some ⟨w2.heap.size, 0, none⟩) ([0].length) ([0].length), .slice (some ⟨w3.heap.size, 0, none⟩) ([true].length) ([true].length)]) sz25 rfl rfl rfl rfl (H5.blk 4 rfl) rfl rfl fun w6 u6 => ?_)
  have H6 : UpG w [] w6 [[rowT (tyI .i64) (.slice a2_1 ((wordD ⟨#[97, 98]⟩ 0 1).length) c2_1) 3 (wordD ⟨#[97, 98]⟩ 0 1)], [rowT (tyI .i64) (.slice (some ⟨w1.heap.size, 0, none⟩) ((List.replicate 259 0).length) 259) 3 (List.replicate 259 0)], [rowT (tyI .i64) (.slice (some ⟨w2.heap.size, 0, none⟩) ([0].length) ([0].length)) 3 [0]], [rowT tyB (.slice (some ⟨w3.heap.size, 0, none⟩) ([true].length) ([true].length)) 4 [true]], [blk w4.heap.size #[.slice (some ⟨w1.heap.size, 0, none⟩) ((List.replicate 259 0).length) 259, .int .i64 1, .int .i64 0, .slice (some ⟨w2.heap.size, 0, none⟩) ([0].length) ([0].length), .slice (some ⟨w3.heap.size, 0, none⟩) ([true].length) ([true].length)] 25]] := H5.on 4 rfl u6
  refine WL.done (X.then_code ?_)
  refine W.seq ?_
  refine W.regionD mixed (by kernel_rfl) fun hok1 w7 k1 => ?_
  have H7 : UpG w [] w7 [[rowT (tyI .i64) (.slice a2_1 ((wordD ⟨#[97, 98]⟩ 0 1).length) c2_1) 3 (wordD ⟨#[97, 98]⟩ 0 1)], [rowT (tyI .i64) (.slice (some ⟨w1.heap.size, 0, none⟩) ((List.replicate 259 0).length) 259) 3 (List.replicate 259 0)], [rowT (tyI .i64) (.slice (some ⟨w2.heap.size, 0, none⟩) ([0].length) ([0].length)) 3 [0]], [rowT tyB (.slice (some ⟨w3.heap.size, 0, none⟩) ([true].length) ([true].length)) 4 [true]], [blk w4.heap.size #[.slice (some ⟨w1.heap.size, 0, none⟩) ((List.replicate 259 0).length) 259, .int .i64 1, .int .i64 0, .slice (some ⟨w2.heap.size, 0, none⟩) ([0].length) ([0].length), .slice (some ⟨w3.heap.size, 0, none⟩) ([true].length) ([true].length)] 25]] := H6.kept k1
  refine WD.take hok1 0 (.agg #[.slice (some ⟨w1.heap.size, 0, none⟩) ((List.replicate 259 0).length) 259, .int .i64 1, .int .i64 0, .slice (some ⟨w2.heap.size, 0, none⟩) ([0].length) ([0].length), .slice (some ⟨w3.heap.size, 0, none⟩) ([true].length) ([true].length)]) (fun w' => w'.heap[w4.heap.size]? = some (.cells #[.slice (some ⟨w1.heap.size, 0, none⟩) ((List.replicate 259 0).length) 259, .int .i64 1, .int .i64 0, .slice (some ⟨w2.heap.size, 0, none⟩) ([0].length) ([0].length), .slice (some ⟨w3.heap.size, 0, none⟩) ([true].length) ([true].length)] 25 (0, 0))) rfl rfl rfl rfl rfl (H7.blk 4 rfl) (.inl ⟨rfl, fun _ hC => d_loadAB [.slice (some ⟨w1.heap.size, 0, none⟩) ((List.replicate 259 0).length) 259, .int .i64 1, .int .i64 0, .slice (some ⟨w2.heap.size, 0, none⟩) ([0].length) ([0].length), .slice (some ⟨w3.heap.size, 0, none⟩) ([true].length) ([true].length)] Try.underlying25 rfl sz25 rfl hC rfl rfl ⟨rfl, rfl⟩⟩) ?_
  refine WD.take hok1 2 (.agg #[.slice (some ⟨w1.heap.size, 0, none⟩) ((List.replicate 259 0).length) 259, .int .i64 1, .int .i64 0, .slice (some ⟨w2.heap.size, 0, none⟩) ([0].length) ([0].length), .slice (some ⟨w3.heap.size, 0, none⟩) ([true].length) ([true].length)]) (fun w' => w'.heap[w4.heap.size]? = some (.cells #[.slice (some ⟨w1.heap.size, 0, none⟩) ((List.replicate 259 0).length) 259, .int .i64 1, .int .i64 0, .slice (some ⟨w2.heap.size, 0, none⟩) ([0].length) ([0].length), .slice (some ⟨w3.heap.size, 0, none⟩) ([true].length) ([true].length)] 25 (0, 0))) rfl rfl rfl rfl rfl (H7.blk 4 rfl) (.inl ⟨rfl, fun _ hC => d_loadAB [.slice (some ⟨w1.heap.size, 0, none⟩) ((List.replicate 259 0).length) 259, .int .i64 1, .int .i64 0, .slice (some ⟨w2.heap.size, 0, none⟩) ([0].length) ([0].length), .slice (some ⟨w3.heap.size, 0, none⟩) ([true].length) ([true].length)] Try.underlying25 rfl sz25 rfl hC rfl rfl ⟨rfl, rfl⟩⟩) ?_
  refine WD.loud hok1 1 rfl (⟨_, [⟨2, .agg #[.slice (some ⟨w1.heap.size, 0, none⟩) ((List.replicate 259 0).length) 259, .int .i64 1, .int .i64 0, .slice (some ⟨w2.heap.size, 0, none⟩) ([0].length) ([0].length), .slice (some ⟨w3.heap.size, 0, none⟩) ([true].length) ([true].length)], (fun w' => w'.heap[w4.heap.size]? = some (.cells #[.slice (some ⟨w1.heap.size, 0, none⟩) ((List.replicate 259 0).length) 259, .int .i64 1, .int .i64 0, .slice (some ⟨w2.heap.size, 0, none⟩) ([0].length) ([0].length), .slice (some ⟨w3.heap.size, 0, none⟩) ([true].length) ([true].length)] 25 (0, 0)))⟩], rfl, rfl, rfl, rfl, rfl, rfl, d_call ok18 rfl (Ret.calls (live_any (⟨List.replicate 259 0, 1, 0, [0], [true]⟩ : DfaD) (some ⟨w1.heap.size, 0, none⟩) (some ⟨w2.heap.size, 0, none⟩) (some ⟨w3.heap.size, 0, none⟩) 259 ([0].length) ([true].length) w7 (H7.rdT 1 rfl) (H7.rdT 2 rfl) (H7.rdT 3 rfl) (by decide +kernel)) fun _ w8 p2 => ?_)⟩)
  obtain ⟨a2_2, o2_1, c2_2, rfl, u7, q1⟩ := p2
  have H8 : UpG w [] w8 [[rowT (tyI .i64) (.slice a2_1 ((wordD ⟨#[97, 98]⟩ 0 1).length) c2_1) 3 (wordD ⟨#[97, 98]⟩ 0 1)], [rowT (tyI .i64) (.slice (some ⟨w1.heap.size, 0, none⟩) ((List.replicate 259 0).length) 259) 3 (List.replicate 259 0)], [rowT (tyI .i64) (.slice (some ⟨w2.heap.size, 0, none⟩) ([0].length) ([0].length)) 3 [0]], [rowT tyB (.slice (some ⟨w3.heap.size, 0, none⟩) ([true].length) ([true].length)) 4 [true]], [blk w4.heap.size #[.slice (some ⟨w1.heap.size, 0, none⟩) ((List.replicate 259 0).length) 259, .int .i64 1, .int .i64 0, .slice (some ⟨w2.heap.size, 0, none⟩) ([0].length) ([0].length), .slice (some ⟨w3.heap.size, 0, none⟩) ([true].length) ([true].length)] 25], [rowT tyB (.slice a2_2 o2_1.length c2_2) 4 o2_1]] := (H7.new' u7).re rfl
  refine ⟨⟨(H8.blk 4 rfl), trivial⟩, ?_⟩
  refine WD.loud hok1 3 rfl (⟨_, [], rfl, rfl, rfl, rfl, rfl, rfl, d_call ok19 rfl (Ret.calls (reach_any (⟨List.replicate 259 0, 1, 0, [0], [true]⟩ : DfaD) (some ⟨w1.heap.size, 0, none⟩) (some ⟨w2.heap.size, 0, none⟩) (some ⟨w3.heap.size, 0, none⟩) 259 ([0].length) ([true].length) w8 (H8.rdT 1 rfl) (H8.rdT 2 rfl) (H8.rdT 3 rfl) (by decide +kernel)) fun _ w9 p3 => ?_)⟩)
  obtain ⟨a2_3, o2_2, c2_3, rfl, u8, q2⟩ := p3
  have H9 : UpG w [] w9 [[rowT (tyI .i64) (.slice a2_1 ((wordD ⟨#[97, 98]⟩ 0 1).length) c2_1) 3 (wordD ⟨#[97, 98]⟩ 0 1)], [rowT (tyI .i64) (.slice (some ⟨w1.heap.size, 0, none⟩) ((List.replicate 259 0).length) 259) 3 (List.replicate 259 0)], [rowT (tyI .i64) (.slice (some ⟨w2.heap.size, 0, none⟩) ([0].length) ([0].length)) 3 [0]], [rowT tyB (.slice (some ⟨w3.heap.size, 0, none⟩) ([true].length) ([true].length)) 4 [true]], [blk w4.heap.size #[.slice (some ⟨w1.heap.size, 0, none⟩) ((List.replicate 259 0).length) 259, .int .i64 1, .int .i64 0, .slice (some ⟨w2.heap.size, 0, none⟩) ([0].length) ([0].length), .slice (some ⟨w3.heap.size, 0, none⟩) ([true].length) ([true].length)] 25], [rowT tyB (.slice a2_2 o2_1.length c2_2) 4 o2_1], [rowT tyB (.slice a2_3 o2_2.length c2_3) 4 o2_2]] := (H8.new' u8).re rfl
  refine ⟨trivial, ?_⟩
  refine WD.take hok1 4 (.slice a2_2 o2_1.length c2_2) (fun _ => True) rfl rfl rfl rfl rfl trivial (.inl ⟨rfl, fun _ _ => d_assign rfl ⟨rfl, rfl⟩⟩) ?_
  refine WD.take hok1 5 (.slice a2_3 o2_2.length c2_3) (fun _ => True) rfl rfl rfl rfl rfl trivial (.inl ⟨rfl, fun _ _ => d_assign rfl ⟨rfl, rfl⟩⟩) ?_
  refine WD.done hok1 rfl (X.then_code ?_)
  refine W.pick [5, 4, 3, 2, 1, 0] (Γ' := [(5, .slice a2_3 o2_2.length c2_3), (4, .slice a2_2 o2_1.length c2_2), (3, .pointer (some ⟨w4.heap.size, 0, none⟩)), (2, .bool (wordOk ⟨#[97, 98]⟩ 0 1)), (1, .slice a2_1 ((wordD ⟨#[97, 98]⟩ 0 1).length) c2_1), (0, .bool false)]) rfl ?_
  refine W.seq ?_
  have hl1 := (LiveP.one q1).1
  have hr1 := (ReachP.one q2).1
  refine W.region ?_
  refine WL.op rfl (d_move rfl ?_)
  refine WL.op rfl (d_move rfl ?_)
  refine WL.partB 19 (b := wordOk ⟨#[97, 98]⟩ 0 1) rfl (fun g17 => ?_) (fun g17 => ?_)
  · skip
    refine WL.opG rfl rfl rfl (d_move rfl ?_)
    refine WL.opG rfl rfl rfl (d_lenS Try.underlying22 rfl ?_)
    refine WL.opG rfl rfl rfl (d_cmp (decide ((((wordD ⟨#[97, 98]⟩ 0 1).length : Nat) : Int) = (2 : Int))) rfl rfl rfl ?_)
    refine WL.op rfl (d_pick rfl rfl ?_)
    refine WL.op rfl (d_move rfl ?_)
    refine WL.part 24 (p := (((wordD ⟨#[97, 98]⟩ 0 1).length : Nat) : Int) = (2 : Int)) rfl (fun g17x => ?_) (fun g17x => ?_)
    · skip
      refine WL.opG rfl rfl rfl (d_move rfl ?_)
      refine WL.opG rfl rfl rfl (t_addr1 0 (T := (tyI .i64)) rfl Try.underlying22 sz3 rfl rfl (H9.rdT 0 rfl) rfl (by first | omega | (rw [oneD_word.2]; decide)) ?_)
      refine WL.opG rfl rfl rfl (t_load1 0 0 (T := (tyI .i64)) rfl Try.underlying3 rfl rfl (H9.rdT 0 rfl) (by first | omega | (rw [oneD_word.2]; decide)) rfl ?_)
      refine WL.opG rfl rfl rfl (d_cmp (decide (((wordD ⟨#[97, 98]⟩ 0 1).getD 0 0) = (256 : Int))) rfl rfl rfl ?_)
      refine WL.op rfl (d_pick rfl rfl ?_)
      refine WL.op rfl (d_move rfl ?_)
      refine WL.part 30 (p := ((wordD ⟨#[97, 98]⟩ 0 1).getD 0 0) = (256 : Int)) rfl (fun g17xx => ?_) (fun g17xx => ?_)
      · skip
        refine WL.opG rfl rfl rfl (d_move rfl ?_)
        refine WL.opG rfl rfl rfl (t_addr1 1 (T := (tyI .i64)) rfl Try.underlying22 sz3 rfl rfl (H9.rdT 0 rfl) rfl (by first | omega | (rw [oneD_word.2]; decide)) ?_)
        refine WL.opG rfl rfl rfl (t_load1 1 0 (T := (tyI .i64)) rfl Try.underlying3 rfl rfl (H9.rdT 0 rfl) (by first | omega | (rw [oneD_word.2]; decide)) rfl ?_)
        refine WL.opG rfl rfl rfl (d_cmp (decide (((wordD ⟨#[97, 98]⟩ 0 1).getD 1 0) = (97 : Int))) rfl rfl rfl ?_)
        refine WL.op rfl (d_pick rfl rfl ?_)
        refine WL.op rfl (d_move rfl ?_)
        refine WL.part 36 (p := ((wordD ⟨#[97, 98]⟩ 0 1).getD 1 0) = (97 : Int)) rfl (fun g17xxx => ?_) (fun g17xxx => ?_)
        · skip
          refine WL.opG rfl rfl rfl (d_loadAB [.slice (some ⟨w1.heap.size, 0, none⟩) ((List.replicate 259 0).length) 259, .int .i64 1, .int .i64 0, .slice (some ⟨w2.heap.size, 0, none⟩) ([0].length) ([0].length), .slice (some ⟨w3.heap.size, 0, none⟩) ([true].length) ([true].length)] Try.underlying25 rfl sz25 rfl (H9.blk 4 rfl) rfl rfl ?_)
          refine WL.opG rfl rfl rfl (d_call ok24 rfl (Ret.calls (right_any (⟨List.replicate 259 0, 1, 0, [0], [true]⟩ : DfaD) (some ⟨w1.heap.size, 0, none⟩) (some ⟨w2.heap.size, 0, none⟩) (some ⟨w3.heap.size, 0, none⟩) 259 ([0].length) ([true].length) w9 (H9.rdT 1 rfl) (H9.rdT 2 rfl) (H9.rdT 3 rfl) ) fun _ w10 p4 => ?_))
          obtain ⟨rfl, u9⟩ := p4
          have H10 : UpG w [] w10 [[rowT (tyI .i64) (.slice a2_1 ((wordD ⟨#[97, 98]⟩ 0 1).length) c2_1) 3 (wordD ⟨#[97, 98]⟩ 0 1)], [rowT (tyI .i64) (.slice (some ⟨w1.heap.size, 0, none⟩) ((List.replicate 259 0).length) 259) 3 (List.replicate 259 0)], [rowT (tyI .i64) (.slice (some ⟨w2.heap.size, 0, none⟩) ([0].length) ([0].length)) 3 [0]], [rowT tyB (.slice (some ⟨w3.heap.size, 0, none⟩) ([true].length) ([true].length)) 4 [true]], [blk w4.heap.size #[.slice (some ⟨w1.heap.size, 0, none⟩) ((List.replicate 259 0).length) 259, .int .i64 1, .int .i64 0, .slice (some ⟨w2.heap.size, 0, none⟩) ([0].length) ([0].length), .slice (some ⟨w3.heap.size, 0, none⟩) ([true].length) ([true].length)] 25], [rowT tyB (.slice a2_2 o2_1.length c2_2) 4 o2_1], [rowT tyB (.slice a2_3 o2_2.length c2_3) 4 o2_2]] := H9.call u9
          refine WL.op rfl (d_pick rfl rfl ?_)
          refine WL.op rfl (d_move rfl ?_)
          refine WL.partB 40 (b := rightB (⟨List.replicate 259 0, 1, 0, [0], [true]⟩ : DfaD)) rfl (fun g17xxxx => ?_) (fun g17xxxx => ?_)
          · skip
            refine WL.opG rfl rfl rfl (d_loadAB [.slice (some ⟨w1.heap.size, 0, none⟩) ((List.replicate 259 0).length) 259, .int .i64 1, .int .i64 0, .slice (some ⟨w2.heap.size, 0, none⟩) ([0].length) ([0].length), .slice (some ⟨w3.heap.size, 0, none⟩) ([true].length) ([true].length)] Try.underlying25 rfl sz25 rfl (H10.blk 4 rfl) rfl rfl ?_)
            refine WL.opG rfl rfl rfl (d_move rfl ?_)
            refine WL.opG rfl rfl rfl (d_call ok26 rfl (Ret.calls (accepts_any (⟨List.replicate 259 0, 1, 0, [0], [true]⟩ : DfaD) (some ⟨w1.heap.size, 0, none⟩) (some ⟨w2.heap.size, 0, none⟩) (some ⟨w3.heap.size, 0, none⟩) 259 ([0].length) ([true].length) a2_1 (wordD ⟨#[97, 98]⟩ 0 1) c2_1 w10 (H10.rdT 1 rfl) (H10.rdT 2 rfl) (H10.rdT 3 rfl) (H10.rdT 0 rfl) ) fun _ w11 p5 => ?_))
            obtain ⟨rfl, u10⟩ := p5
            have H11 : UpG w [] w11 [[rowT (tyI .i64) (.slice a2_1 ((wordD ⟨#[97, 98]⟩ 0 1).length) c2_1) 3 (wordD ⟨#[97, 98]⟩ 0 1)], [rowT (tyI .i64) (.slice (some ⟨w1.heap.size, 0, none⟩) ((List.replicate 259 0).length) 259) 3 (List.replicate 259 0)], [rowT (tyI .i64) (.slice (some ⟨w2.heap.size, 0, none⟩) ([0].length) ([0].length)) 3 [0]], [rowT tyB (.slice (some ⟨w3.heap.size, 0, none⟩) ([true].length) ([true].length)) 4 [true]], [blk w4.heap.size #[.slice (some ⟨w1.heap.size, 0, none⟩) ((List.replicate 259 0).length) 259, .int .i64 1, .int .i64 0, .slice (some ⟨w2.heap.size, 0, none⟩) ([0].length) ([0].length), .slice (some ⟨w3.heap.size, 0, none⟩) ([true].length) ([true].length)] 25], [rowT tyB (.slice a2_2 o2_1.length c2_2) 4 o2_1], [rowT tyB (.slice a2_3 o2_2.length c2_3) 4 o2_2]] := H10.call u10
            refine WL.op rfl (d_pick rfl rfl ?_)
            refine WL.op rfl (d_move rfl ?_)
            refine WL.partB 45 (b := acceptsB (⟨List.replicate 259 0, 1, 0, [0], [true]⟩ : DfaD) (wordD ⟨#[97, 98]⟩ 0 1)) rfl (fun g17xxxxx => ?_) (fun g17xxxxx => ?_)
            · skip
              refine WL.opG rfl rfl rfl (d_move rfl ?_)
              refine WL.opG rfl rfl rfl (d_lenS Try.underlying23 rfl ?_)
              refine WL.opG rfl rfl rfl (d_cmp (decide (((o2_1.length : Nat) : Int) = (1 : Int))) rfl rfl rfl ?_)
              refine WL.op rfl (d_pick rfl rfl ?_)
              refine WL.op rfl (d_move rfl ?_)
              refine WL.part 50 (p := ((o2_1.length : Nat) : Int) = (1 : Int)) rfl (fun g17xxxxxx => ?_) (fun g17xxxxxx => ?_)
              · skip
                refine WL.opG rfl rfl rfl (d_move rfl ?_)
                refine WL.opG rfl rfl rfl (t_addr1 0 (T := tyB) rfl Try.underlying23 sz4 rfl rfl (H11.rdT 5 rfl) rfl (by first | omega | (rw [oneD_word.2]; decide)) ?_)
                refine WL.opG rfl rfl rfl (t_load1 0 false (T := tyB) rfl Try.underlying4 rfl rfl (H11.rdT 5 rfl) (by first | omega | (rw [oneD_word.2]; decide)) rfl ?_)
                refine WL.op rfl (d_pick rfl rfl ?_)
                refine WL.op rfl (d_move rfl ?_)
                refine WL.partB 55 (b := o2_1.getD 0 false) rfl (fun g17xxxxxxx => ?_) (fun g17xxxxxxx => ?_)
                · skip
                  refine WL.opG rfl rfl rfl (d_move rfl ?_)
                  refine WL.opG rfl rfl rfl (d_lenS Try.underlying23 rfl ?_)
                  refine WL.opG rfl rfl rfl (d_cmp (decide (((o2_2.length : Nat) : Int) = (1 : Int))) rfl rfl rfl ?_)
                  refine WL.op rfl (d_pick rfl rfl ?_)
                  refine WL.op rfl (d_move rfl ?_)
                  refine WL.part 60 (p := ((o2_2.length : Nat) : Int) = (1 : Int)) rfl (fun g17xxxxxxxx => ?_) (fun g17xxxxxxxx => ?_)
                  · skip
                    refine WL.opG rfl rfl rfl (d_move rfl ?_)
                    refine WL.opG rfl rfl rfl (t_addr1 0 (T := tyB) rfl Try.underlying23 sz4 rfl rfl (H11.rdT 6 rfl) rfl (by first | omega | (rw [oneD_word.2]; decide)) ?_)
                    refine WL.opG rfl rfl rfl (t_load1 0 false (T := tyB) rfl Try.underlying4 rfl rfl (H11.rdT 6 rfl) (by first | omega | (rw [oneD_word.2]; decide)) rfl ?_)
                    refine WL.op rfl (d_pick rfl rfl ?_)
                    refine WL.op rfl (d_assign rfl ?_)
                    refine WL.done (X.then_code ?_)
                    refine W.pick [0] (Γ' := [(0, .bool (o2_2.getD 0 false))]) rfl ?_
                    refine W.ret (X.ret1 rfl rfl ?_)
                    exact ⟨(by rw [(ReachP.one q2).2]), H11.noneL⟩
                  · skip
                    exact absurd (by omega) g17xxxxxxxx
                · skip
                  exact absurd (LiveP.one q1).2 g17xxxxxxx
              · skip
                exact absurd (by omega) g17xxxxxx
            · skip
              exact absurd (by rw [oneD_word.2]; exact oneD_acc) g17xxxxx
          · skip
            exact absurd oneD_right g17xxxx
        · skip
          exact absurd (by rw [oneD_word.2]; rfl) g17xxx
      · skip
        exact absurd (by rw [oneD_word.2]; rfl) g17xx
    · skip
      exact absurd (by rw [oneD_word.2]; rfl) g17x
  · skip
    exact absurd oneD_word.1 g17
end Go.Proofs.Ytoeockpkkmgieaa
