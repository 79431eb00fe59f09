/- The walks of functions, printed by wip/tools/gw.py. -/
import Derived.Test.YtkdcmklkggnblaaF1
import Derived.Test.YtkdcmklkggnblaaSx7
import Derived.Test.YtkdcmklkggnblaaT6
namespace Go.Proofs.Ytkdcmklkggnblaa
open Go Go.Sx
set_option linter.unusedVariables false
set_option linter.unusedSimpArgs false
set_option maxRecDepth 20000 in
theorem opRaw_any (o : OpD) (w : World) :
    Calls Try.prog 27 #[.agg #[.int .i64 o.kind, .int .i64 o.slot, .int .i64 o.at_, .int .i64 o.len, .string o.text]] w (Ret fun v w' => ∃ ra2 : Option Addr, ∃ rc2 : Nat, v = .tuple #[.agg #[.slice ra2 (((rawR o).1.nums).length) rc2, .string ((rawR o).1.text)], .int .i64 ((rawR o).2)] ∧ Upd w [] w' [rowT (tyI .i64) (.slice ra2 (((rawR o).1.nums).length) rc2) 3 ((rawR o).1.nums)]) := by
  refine calls_of_W (args := [.agg #[.int .i64 o.kind, .int .i64 o.slot, .int .i64 o.at_, .int .i64 o.len, .string o.text]]) Try.func27 rfl rfl rfl ?_
  have H0 : UpG w [] w [] := UpG.nil w
  show W _ _ _ _ [(0, .agg #[.int .i64 o.kind, .int .i64 o.slot, .int .i64 o.at_, .int .i64 o.len, .string o.text])] w
  refine W.seq ?_
  refine W.region ?_
  refine WL.op rfl (d_box rfl fun w1 u1 => ?_)
  have H1 : UpG w [] w1 [[blk w.heap.size #[.int .i64 o.kind, .int .i64 o.slot, .int .i64 o.at_, .int .i64 o.len, .string o.text] 55]] := H0.new' u1
  refine WL.op rfl (d_alloc sz53 fun w2 u2 => ?_)
  have H2 : UpG w [] w2 [[blk w.heap.size #[.int .i64 o.kind, .int .i64 o.slot, .int .i64 o.at_, .int .i64 o.len, .string o.text] 55], [blk w1.heap.size #[.slice none 0 0, .string ⟨#[]⟩] 53]] := H1.new' u2
  refine WL.op rfl (d_assign rfl ?_)
  refine WL.done (X.then_code ?_)
  refine W.seq ?_
  refine W.region ?_
  refine WL.op rfl (d_fieldAddrB fld55_0 rfl rfl ?_)
  refine WL.op rfl (d_loadB Try.underlying3 rfl rfl (H2.blk 0 rfl) rfl ?_)
  refine WL.op rfl (d_call ok50 rfl (Ret.calls (of_any o.kind w2  ) fun _ w3 p1 => ?_))
  obtain ⟨rfl, u3⟩ := p1
  have H3 : UpG w [] w3 [[blk w.heap.size #[.int .i64 o.kind, .int .i64 o.slot, .int .i64 o.at_, .int .i64 o.len, .string o.text] 55], [blk w1.heap.size #[.slice none 0 0, .string ⟨#[]⟩] 53]] := H2.call u3
  refine WL.op rfl (d_move rfl ?_)
  refine WL.op rfl (d_extract rfl rfl ?_)
  refine WL.op rfl (d_extract rfl rfl ?_)
  refine WL.op rfl (d_alloc sz87 fun w4 u4 => ?_)
  have H4 : UpG w [] w4 [[blk w.heap.size #[.int .i64 o.kind, .int .i64 o.slot, .int .i64 o.at_, .int .i64 o.len, .string o.text] 55], [blk w1.heap.size #[.slice none 0 0, .string ⟨#[]⟩] 53], [blk w3.heap.size #[.string ⟨#[]⟩, .string ⟨#[]⟩, .bool false] 87]] := H3.new' u4
  refine WL.op0 (d_storeAB (us := [.string ((opRowAt o.kind).name), .string ((opRowAt o.kind).nums), .bool ((opRowAt o.kind).text)]) (cs' := #[.string ((opRowAt o.kind).name), .string ((opRowAt o.kind).nums), .bool ((opRowAt o.kind).text)]) sz87 rfl rfl rfl rfl (H4.blk 2 rfl) rfl rfl fun w5 u5 => ?_)
  have H5 : UpG w [] w5 [[blk w.heap.size #[.int .i64 o.kind, .int .i64 o.slot, .int .i64 o.at_, .int .i64 o.len, .string o.text] 55], [blk w1.heap.size #[.slice none 0 0, .string ⟨#[]⟩] 53], [blk w3.heap.size #[.string ((opRowAt o.kind).name), .string ((opRowAt o.kind).nums), .bool ((opRowAt o.kind).text)] 87]] := H4.on 2 rfl u5
  refine WL.op rfl (d_assign rfl ?_)
  refine WL.done (X.then_code ?_)
  refine W.seq ?_
  refine W.seq ?_
  refine W.region ?_
  refine WL.op rfl (d_move rfl ?_)
  refine WL.op rfl (d_notB rfl ?_)
  refine WL.done (X.then_code ?_)
  refine W.iteB (b := !(okK o.kind)) rfl (fun c84 => ?_) (fun c84 => ?_)
  · skip
    refine W.seq ?_
    refine W.region ?_
    refine WL.op rfl (d_build (cs := #[.slice none 0 0, .string ⟨#[]⟩]) rfl (by kernel_rfl) ?_)
    refine WL.op0 (d_storeAB (us := [.slice none 0 0, .string ⟨#[]⟩]) (cs' := #[.slice none 0 0, .string ⟨#[]⟩]) sz53 rfl rfl rfl rfl (H5.blk 1 rfl) rfl rfl fun w6 u6 => ?_)
    have H6 : UpG w [] w6 [[blk w.heap.size #[.int .i64 o.kind, .int .i64 o.slot, .int .i64 o.at_, .int .i64 o.len, .string o.text] 55], [blk w1.heap.size #[.slice none 0 0, .string ⟨#[]⟩] 53], [blk w3.heap.size #[.string ((opRowAt o.kind).name), .string ((opRowAt o.kind).nums), .bool ((opRowAt o.kind).text)] 87]] := H5.on 1 rfl u6
    refine WL.op rfl (d_assign rfl ?_)
    refine WL.done (X.then_code ?_)
    refine W.ret (X.then_ret (X.retR2 rfl (rv_cellA [.slice none 0 0, .string ⟨#[]⟩] Try.underlying53 rfl sz53 rfl (H6.blk 1 rfl) rfl rfl) (rv_tmp rfl) ?_))
    have e : rawR o = (raw0, 9) := by unfold rawR; rw [if_pos (by simpa using c84)]
    rw [e]
    exact ⟨none, 0, (by rfl), nilOwn H6⟩
  · skip
    refine W.skip (X.then_code ?_)
    refine W.seq ?_
    have hok : okK o.kind = true := by simpa using c84
    have hrs := row_size hok
    have hrt := row_text hok
    refine W.region ?_
    refine WL.op rfl (d_fieldAddrB fld55_0 rfl rfl ?_)
    refine WL.op rfl (d_loadB Try.underlying3 rfl rfl (H5.blk 0 rfl) rfl ?_)
    refine WL.op rfl (t_buildSlice (T := (tyI .i64)) (xs := [o.kind]) (cs := #[.int .i64 o.kind]) rfl Try.underlying51 sz3 rfl rfl rfl rfl (by kernel_rfl) rfl rfl fun w7 u7 => ?_)
    have H7 : UpG w [] w7 [[blk w.heap.size #[.int .i64 o.kind, .int .i64 o.slot, .int .i64 o.at_, .int .i64 o.len, .string o.text] 55], [blk w1.heap.size #[.slice none 0 0, .string ⟨#[]⟩] 53], [blk w3.heap.size #[.string ((opRowAt o.kind).name), .string ((opRowAt o.kind).nums), .bool ((opRowAt o.kind).text)] 87], [rowT (tyI .i64) (.slice (some ⟨w5.heap.size, 0, none⟩) ([o.kind].length) ([o.kind].length)) 3 [o.kind]]] := H5.new' u7
    refine WL.op rfl (d_build (cs := #[.slice (some ⟨w5.heap.size, 0, none⟩) ([o.kind].length) ([o.kind].length), .string ⟨#[]⟩]) rfl (by kernel_rfl) ?_)
    refine WL.op rfl (d_alloc sz53 fun w8 u8 => ?_)
    have H8 : UpG w [] w8 [[blk w.heap.size #[.int .i64 o.kind, .int .i64 o.slot, .int .i64 o.at_, .int .i64 o.len, .string o.text] 55], [blk w1.heap.size #[.slice none 0 0, .string ⟨#[]⟩] 53], [blk w3.heap.size #[.string ((opRowAt o.kind).name), .string ((opRowAt o.kind).nums), .bool ((opRowAt o.kind).text)] 87], [rowT (tyI .i64) (.slice (some ⟨w5.heap.size, 0, none⟩) ([o.kind].length) ([o.kind].length)) 3 [o.kind]], [blk w7.heap.size #[.slice none 0 0, .string ⟨#[]⟩] 53]] := H7.new' u8
    refine WL.op0 (d_storeAB (us := [.slice (some ⟨w5.heap.size, 0, none⟩) ([o.kind].length) ([o.kind].length), .string ⟨#[]⟩]) (cs' := #[.slice (some ⟨w5.heap.size, 0, none⟩) ([o.kind].length) ([o.kind].length), .string ⟨#[]⟩]) sz53 rfl rfl rfl rfl (H8.blk 4 rfl) rfl rfl fun w9 u9 => ?_)
    have H9 : UpG w [] w9 [[blk w.heap.size #[.int .i64 o.kind, .int .i64 o.slot, .int .i64 o.at_, .int .i64 o.len, .string o.text] 55], [blk w1.heap.size #[.slice none 0 0, .string ⟨#[]⟩] 53], [blk w3.heap.size #[.string ((opRowAt o.kind).name), .string ((opRowAt o.kind).nums), .bool ((opRowAt o.kind).text)] 87], [rowT (tyI .i64) (.slice (some ⟨w5.heap.size, 0, none⟩) ([o.kind].length) ([o.kind].length)) 3 [o.kind]], [blk w7.heap.size #[.slice (some ⟨w5.heap.size, 0, none⟩) ([o.kind].length) ([o.kind].length), .string ⟨#[]⟩] 53]] := H8.on 4 rfl u9
    refine WL.done (X.then_code ?_)
    refine W.pick [6, 4, 3, 2, 1] (Γ' := [(6, .pointer (some ⟨w7.heap.size, 0, none⟩)), (4, .pointer (some ⟨w3.heap.size, 0, none⟩)), (3, .int .i64 0), (2, .pointer (some ⟨w1.heap.size, 0, none⟩)), (1, .pointer (some ⟨w.heap.size, 0, none⟩))]) rfl ?_
    refine W.seq ?_
    refine W.region ?_
    refine WL.op rfl (d_loadAB [.int .i64 o.kind, .int .i64 o.slot, .int .i64 o.at_, .int .i64 o.len, .string o.text] Try.underlying55 rfl sz55 rfl (H9.blk 0 rfl) rfl rfl ?_)
    refine WL.op rfl (d_alloc sz55 fun w10 u10 => ?_)
    have H10 : UpG w [] w10 [[blk w.heap.size #[.int .i64 o.kind, .int .i64 o.slot, .int .i64 o.at_, .int .i64 o.len, .string o.text] 55], [blk w1.heap.size #[.slice none 0 0, .string ⟨#[]⟩] 53], [blk w3.heap.size #[.string ((opRowAt o.kind).name), .string ((opRowAt o.kind).nums), .bool ((opRowAt o.kind).text)] 87], [rowT (tyI .i64) (.slice (some ⟨w5.heap.size, 0, none⟩) ([o.kind].length) ([o.kind].length)) 3 [o.kind]], [blk w7.heap.size #[.slice (some ⟨w5.heap.size, 0, none⟩) ([o.kind].length) ([o.kind].length), .string ⟨#[]⟩] 53], [blk w9.heap.size #[.int .i64 0, .int .i64 0, .int .i64 0, .int .i64 0, .string ⟨#[]⟩] 55]] := H9.new' u10
    refine WL.op0 (d_storeAB (us := [.int .i64 o.kind, .int .i64 o.slot, .int .i64 o.at_, .int .i64 o.len, .string o.text]) (cs' := #[.int .i64 o.kind, .int .i64 o.slot, .int .i64 o.at_, .int .i64 o.len, .string o.text]) sz55 rfl rfl rfl rfl (H10.blk 5 rfl) rfl rfl fun w11 u11 => ?_)
    have H11 : UpG w [] w11 [[blk w.heap.size #[.int .i64 o.kind, .int .i64 o.slot, .int .i64 o.at_, .int .i64 o.len, .string o.text] 55], [blk w1.heap.size #[.slice none 0 0, .string ⟨#[]⟩] 53], [blk w3.heap.size #[.string ((opRowAt o.kind).name), .string ((opRowAt o.kind).nums), .bool ((opRowAt o.kind).text)] 87], [rowT (tyI .i64) (.slice (some ⟨w5.heap.size, 0, none⟩) ([o.kind].length) ([o.kind].length)) 3 [o.kind]], [blk w7.heap.size #[.slice (some ⟨w5.heap.size, 0, none⟩) ([o.kind].length) ([o.kind].length), .string ⟨#[]⟩] 53], [blk w9.heap.size #[.int .i64 o.kind, .int .i64 o.slot, .int .i64 o.at_, .int .i64 o.len, .string o.text] 55]] := H10.on 5 rfl u11
    refine WL.done (X.then_code ?_)
    refine W.seq ?_
    refine W.seq ?_
    refine W.region ?_
    refine WL.op rfl (d_fieldAddrB fld87_1 rfl rfl ?_)
    refine WL.op rfl (d_loadB Try.underlying9 rfl rfl (H11.blk 2 rfl) rfl ?_)
    refine WL.op rfl (d_lenStr Try.underlying9 rfl ?_)
    refine WL.op rfl (d_move rfl ?_)
    refine WL.done (X.then_code ?_)
    refine W.block ?_
    refine W.pick [26, 25, 7, 6, 4, 3, 2, 1] (Γ' := [(26, .int .i64 0), (25, .int .i64 ((((opRowAt o.kind).nums).size : Nat) : Int)), (7, .pointer (some ⟨w9.heap.size, 0, none⟩)), (6, .pointer (some ⟨w7.heap.size, 0, none⟩)), (4, .pointer (some ⟨w3.heap.size, 0, none⟩)), (3, .int .i64 0), (2, .pointer (some ⟨w1.heap.size, 0, none⟩)), (1, .pointer (some ⟨w.heap.size, 0, none⟩))]) rfl ?_
    refine W.loop (fun m Γ' w' => ∃ j : Nat, ∃ l : List Int, ∃ la : Option Addr, ∃ lc : Nat, ∃ a : Int, ∃ b : Int, ∃ d : Int, Γ' = [(26, .int .i64 ((j : Nat) : Int)), (25, .int .i64 ((((opRowAt o.kind).nums).size : Nat) : Int)), (7, .pointer (some ⟨w9.heap.size, 0, none⟩)), (6, .pointer (some ⟨w7.heap.size, 0, none⟩)), (4, .pointer (some ⟨w3.heap.size, 0, none⟩)), (3, .int .i64 0), (2, .pointer (some ⟨w1.heap.size, 0, none⟩)), (1, .pointer (some ⟨w.heap.size, 0, none⟩))] ∧ UpG w [] w' [[blk w.heap.size #[.int .i64 o.kind, .int .i64 o.slot, .int .i64 o.at_, .int .i64 o.len, .string o.text] 55], [blk w1.heap.size #[.slice none 0 0, .string ⟨#[]⟩] 53], [blk w3.heap.size #[.string ((opRowAt o.kind).name), .string ((opRowAt o.kind).nums), .bool ((opRowAt o.kind).text)] 87], [rowT (tyI .i64) (.slice la l.length lc) 3 l], [blk w7.heap.size #[.slice la l.length lc, .string ⟨#[]⟩] 53], [blk w9.heap.size #[.int .i64 o.kind, .int .i64 a, .int .i64 b, .int .i64 d, .string o.text] 55]] ∧ (j ≤ (opRowAt o.kind).nums.size) ∧ (l = rawTo (opRowAt o.kind).nums o j) ∧ (zeroTo (opRowAt o.kind).nums o j = (a, b, d)) ∧ (l.length = j + 1) ∧ m = (opRowAt o.kind).nums.size - j) ((opRowAt o.kind).nums.size - 0) ⟨0, [o.kind], (some ⟨w5.heap.size, 0, none⟩), [o.kind].length, o.slot, o.at_, o.len, rfl, H11, (by first | assumption | omega | simp), (by rfl), (by rfl), (by rfl), rfl⟩ ?_
    rintro m1 Γ1 w12 ⟨j, l, la, lc, a, b, d, rfl, H12, hj, hn, hz, hll, rfl⟩
    refine W.seq ?_
    refine W.region ?_
    refine WL.op rfl (d_cmp (decide (((j : Nat) : Int) < ((((opRowAt o.kind).nums).size : Nat) : Int))) rfl rfl rfl ?_)
    refine WL.done (X.then_code ?_)
    refine W.seq ?_
    refine W.ite (p := ((j : Nat) : Int) < ((((opRowAt o.kind).nums).size : Nat) : Int)) rfl (fun c89 => ?_) (fun c89 => ?_)
    · skip
      refine W.skip (X.then_code ?_)
      refine W.seq ?_
      refine W.block ?_
      refine W.seq ?_
      refine W.region ?_
      refine WL.op rfl (d_move rfl ?_)
      refine WL.op rfl (d_assign rfl ?_)
      refine WL.done (X.then_code ?_)
      refine W.seq ?_
      by_cases hS : bt (opRowAt o.kind).nums j = 83
      · skip
        refine W.regionD mixed (by kernel_rfl) fun hok1 w13 k1 => ?_
        have H13 : UpG w [] w13 [[blk w.heap.size #[.int .i64 o.kind, .int .i64 o.slot, .int .i64 o.at_, .int .i64 o.len, .string o.text] 55], [blk w1.heap.size #[.slice none 0 0, .string ⟨#[]⟩] 53], [blk w3.heap.size #[.string ((opRowAt o.kind).name), .string ((opRowAt o.kind).nums), .bool ((opRowAt o.kind).text)] 87], [rowT (tyI .i64) (.slice la l.length lc) 3 l], [blk w7.heap.size #[.slice la l.length lc, .string ⟨#[]⟩] 53], [blk w9.heap.size #[.int .i64 o.kind, .int .i64 a, .int .i64 b, .int .i64 d, .string o.text] 55]] := H12.kept k1
        refine WD.take hok1 0 (.pointer (some ⟨w7.heap.size, 0, none⟩)) (fun _ => True) rfl rfl rfl rfl rfl trivial (.inl ⟨rfl, fun _ _ => d_fieldAddrB fld53_0 rfl rfl ⟨rfl, rfl⟩⟩) ?_
        refine WD.take hok1 1 (.slice la l.length lc) (fun w' => w'.heap[w7.heap.size]? = some (.cells #[.slice la l.length lc, .string ⟨#[]⟩] 53 (0, 0))) rfl rfl rfl rfl rfl (H13.blk 4 rfl) (.inl ⟨rfl, fun _ hC => d_loadB Try.underlying51 rfl rfl hC rfl ⟨rfl, rfl⟩⟩) ?_
        refine WD.take hok1 2 (.pointer (some ⟨w3.heap.size, 1, none⟩)) (fun _ => True) rfl rfl rfl rfl rfl trivial (.inl ⟨rfl, fun _ _ => d_fieldAddrB fld87_1 rfl rfl ⟨rfl, rfl⟩⟩) ?_
        refine WD.take hok1 3 (.string ((opRowAt o.kind).nums)) (fun w' => w'.heap[w3.heap.size]? = some (.cells #[.string ((opRowAt o.kind).name), .string ((opRowAt o.kind).nums), .bool ((opRowAt o.kind).text)] 87 (0, 0))) rfl rfl rfl rfl rfl (H13.blk 2 rfl) (.inl ⟨rfl, fun _ hC => d_loadB Try.underlying9 rfl rfl hC rfl ⟨rfl, rfl⟩⟩) ?_
        refine WD.take hok1 4 (.int .i64 ((j : Nat) : Int)) (fun _ => True) rfl rfl rfl rfl rfl trivial (.inl ⟨rfl, fun _ _ => d_move rfl ⟨rfl, rfl⟩⟩) ?_
        refine WD.take hok1 5 (.int .u8 (bt ((opRowAt o.kind).nums) j)) (fun _ => True) rfl rfl rfl rfl rfl trivial (.inl ⟨rfl, fun _ _ => d_idxStrN j Try.underlying9 rfl rfl rfl (by omega) ⟨rfl, rfl⟩⟩) ?_
        refine WD.loud hok1 6 rfl (⟨_, [⟨1, .slice la l.length lc, (fun w' => w'.heap[w7.heap.size]? = some (.cells #[.slice la l.length lc, .string ⟨#[]⟩] 53 (0, 0)))⟩, ⟨0, .pointer (some ⟨w7.heap.size, 0, none⟩), (fun _ => True)⟩], rfl, rfl, rfl, rfl, rfl, rfl, d_call ok51 rfl (Ret.calls (fieldS_any w.heap.size (bt ((opRowAt o.kind).nums) j) w13  hS) fun _ w14 p2 => ?_)⟩)
        obtain ⟨rfl, u12⟩ := p2
        have H14 : UpG w [] w14 [[blk w.heap.size #[.int .i64 o.kind, .int .i64 o.slot, .int .i64 o.at_, .int .i64 o.len, .string o.text] 55], [blk w1.heap.size #[.slice none 0 0, .string ⟨#[]⟩] 53], [blk w3.heap.size #[.string ((opRowAt o.kind).name), .string ((opRowAt o.kind).nums), .bool ((opRowAt o.kind).text)] 87], [rowT (tyI .i64) (.slice la l.length lc) 3 l], [blk w7.heap.size #[.slice la l.length lc, .string ⟨#[]⟩] 53], [blk w9.heap.size #[.int .i64 o.kind, .int .i64 a, .int .i64 b, .int .i64 d, .string o.text] 55]] := H13.call u12
        refine ⟨⟨(H14.blk 4 rfl), trivial, trivial⟩, ?_⟩
        refine WD.take hok1 7 (.pointer (some ⟨w.heap.size, 1, none⟩)) (fun _ => True) rfl rfl rfl rfl rfl trivial (.inl ⟨rfl, fun _ _ => d_nilCheck rfl ⟨rfl, rfl⟩⟩) ?_
        refine WD.take hok1 8 (.int .i64 o.slot) (fun w' => w'.heap[w.heap.size]? = some (.cells #[.int .i64 o.kind, .int .i64 o.slot, .int .i64 o.at_, .int .i64 o.len, .string o.text] 55 (0, 0))) rfl rfl rfl rfl rfl (H14.blk 0 rfl) (.inl ⟨rfl, fun _ hC => d_loadB Try.underlying3 rfl rfl hC rfl ⟨rfl, rfl⟩⟩) ?_
        refine WD.loud hok1 9 rfl (⟨_, [⟨1, .slice la l.length lc, (fun w' => w'.heap[w7.heap.size]? = some (.cells #[.slice la l.length lc, .string ⟨#[]⟩] 53 (0, 0)))⟩, ⟨0, .pointer (some ⟨w7.heap.size, 0, none⟩), (fun _ => True)⟩], rfl, rfl, rfl, rfl, rfl, rfl, t_buildSlice (T := (tyI .i64)) (xs := [o.slot]) (cs := #[.int .i64 o.slot]) rfl Try.underlying51 sz3 rfl rfl rfl rfl (by kernel_rfl) rfl rfl fun w15 u13 => ?_⟩)
        have H15 : UpG w [] w15 [[blk w.heap.size #[.int .i64 o.kind, .int .i64 o.slot, .int .i64 o.at_, .int .i64 o.len, .string o.text] 55], [blk w1.heap.size #[.slice none 0 0, .string ⟨#[]⟩] 53], [blk w3.heap.size #[.string ((opRowAt o.kind).name), .string ((opRowAt o.kind).nums), .bool ((opRowAt o.kind).text)] 87], [rowT (tyI .i64) (.slice la l.length lc) 3 l], [blk w7.heap.size #[.slice la l.length lc, .string ⟨#[]⟩] 53], [blk w9.heap.size #[.int .i64 o.kind, .int .i64 a, .int .i64 b, .int .i64 d, .string o.text] 55], [rowT (tyI .i64) (.slice (some ⟨w14.heap.size, 0, none⟩) ([o.slot].length) ([o.slot].length)) 3 [o.slot]]] := H14.new' u13
        refine ⟨⟨(H15.blk 4 rfl), trivial, trivial⟩, ?_⟩
        refine WD.loud hok1 10 rfl (⟨_, [], rfl, rfl, rfl, rfl, rfl, rfl, t_append (T := (tyI .i64)) (xs := l) (ys := [o.slot]) rfl Try.underlying51 sz3 rfl rfl rfl (H15.ownT 3 rfl) (H15.rdT 6 rfl) (by simp; omega) (by simp; omega) fun a1 c1 w16 u14 => ?_⟩)
        have H16 : UpG w [] w16 [[blk w.heap.size #[.int .i64 o.kind, .int .i64 o.slot, .int .i64 o.at_, .int .i64 o.len, .string o.text] 55], [blk w1.heap.size #[.slice none 0 0, .string ⟨#[]⟩] 53], [blk w3.heap.size #[.string ((opRowAt o.kind).name), .string ((opRowAt o.kind).nums), .bool ((opRowAt o.kind).text)] 87], [rowT (tyI .i64) (.slice a1 ((l ++ [o.slot]).length) c1) 3 (l ++ [o.slot])], [blk w7.heap.size #[.slice la l.length lc, .string ⟨#[]⟩] 53], [blk w9.heap.size #[.int .i64 o.kind, .int .i64 a, .int .i64 b, .int .i64 d, .string o.text] 55], []] := (H15.on 3 rfl u14).drop 6
        refine ⟨trivial, ?_⟩
        refine WD.take hok1 11 (.pointer (some ⟨w7.heap.size, 0, none⟩)) (fun _ => True) rfl rfl rfl rfl rfl trivial (.inl ⟨rfl, fun _ _ => d_fieldAddrB fld53_0 rfl rfl ⟨rfl, rfl⟩⟩) ?_
        refine WD.loud hok1 12 rfl (⟨_, [], rfl, rfl, rfl, rfl, rfl, rfl, d_storeB sz51 rfl rfl rfl (H16.blk 4 rfl) rfl fun w17 u15 => ?_⟩)
        have H17 : UpG w [] w17 [[blk w.heap.size #[.int .i64 o.kind, .int .i64 o.slot, .int .i64 o.at_, .int .i64 o.len, .string o.text] 55], [blk w1.heap.size #[.slice none 0 0, .string ⟨#[]⟩] 53], [blk w3.heap.size #[.string ((opRowAt o.kind).name), .string ((opRowAt o.kind).nums), .bool ((opRowAt o.kind).text)] 87], [rowT (tyI .i64) (.slice a1 ((l ++ [o.slot]).length) c1) 3 (l ++ [o.slot])], [blk w7.heap.size #[.slice a1 ((l ++ [o.slot]).length) c1, .string ⟨#[]⟩] 53], [blk w9.heap.size #[.int .i64 o.kind, .int .i64 a, .int .i64 b, .int .i64 d, .string o.text] 55], []] := H16.on 4 rfl u15
        refine ⟨trivial, ?_⟩
        refine WD.done hok1 rfl (X.then_code ?_)
        refine W.pick [40, 39, 38, 37, 36, 35, 34, 33, 32, 31, 30, 29, 8, 28, 27, 26, 25, 7, 6, 4, 3, 2, 1] (Γ' := [(40, .pointer (some ⟨w7.heap.size, 0, none⟩)), (39, .slice a1 ((l ++ [o.slot]).length) c1), (38, .slice (some ⟨w14.heap.size, 0, none⟩) ([o.slot].length) ([o.slot].length)), (37, .int .i64 o.slot), (36, .pointer (some ⟨w.heap.size, 1, none⟩)), (35, .pointer (some ⟨w.heap.size, 1, none⟩)), (34, .int .u8 (bt ((opRowAt o.kind).nums) j)), (33, .int .i64 ((j : Nat) : Int)), (32, .string ((opRowAt o.kind).nums)), (31, .pointer (some ⟨w3.heap.size, 1, none⟩)), (30, .slice la l.length lc), (29, .pointer (some ⟨w7.heap.size, 0, none⟩)), (8, .int .i64 ((j : Nat) : Int)), (28, .int .i64 ((j : Nat) : Int)), (27, .bool (decide (((j : Nat) : Int) < ((((opRowAt o.kind).nums).size : Nat) : Int)))), (26, .int .i64 ((j : Nat) : Int)), (25, .int .i64 ((((opRowAt o.kind).nums).size : Nat) : Int)), (7, .pointer (some ⟨w9.heap.size, 0, none⟩)), (6, .pointer (some ⟨w7.heap.size, 0, none⟩)), (4, .pointer (some ⟨w3.heap.size, 0, none⟩)), (3, .int .i64 0), (2, .pointer (some ⟨w1.heap.size, 0, none⟩)), (1, .pointer (some ⟨w.heap.size, 0, none⟩))]) rfl ?_
        refine W.region ?_
        refine WL.op rfl (d_fieldAddrB fld87_1 rfl rfl ?_)
        refine WL.op rfl (d_loadB Try.underlying9 rfl rfl (H17.blk 2 rfl) rfl ?_)
        refine WL.op rfl (d_move rfl ?_)
        refine WL.op rfl (d_idxStrN j Try.underlying9 rfl rfl rfl (by omega) ?_)
        refine WL.op rfl (d_call ok51 rfl (Ret.calls (fieldS_any w9.heap.size (bt ((opRowAt o.kind).nums) j) w17  hS) fun _ w18 p3 => ?_))
        obtain ⟨rfl, u16⟩ := p3
        have H18 : UpG w [] w18 [[blk w.heap.size #[.int .i64 o.kind, .int .i64 o.slot, .int .i64 o.at_, .int .i64 o.len, .string o.text] 55], [blk w1.heap.size #[.slice none 0 0, .string ⟨#[]⟩] 53], [blk w3.heap.size #[.string ((opRowAt o.kind).name), .string ((opRowAt o.kind).nums), .bool ((opRowAt o.kind).text)] 87], [rowT (tyI .i64) (.slice a1 ((l ++ [o.slot]).length) c1) 3 (l ++ [o.slot])], [blk w7.heap.size #[.slice a1 ((l ++ [o.slot]).length) c1, .string ⟨#[]⟩] 53], [blk w9.heap.size #[.int .i64 o.kind, .int .i64 a, .int .i64 b, .int .i64 d, .string o.text] 55], []] := H17.call u16
        refine WL.op rfl (d_nilCheck rfl ?_)
        refine WL.op0 (d_storeB sz3 rfl rfl rfl (H18.blk 5 rfl) rfl fun w19 u17 => ?_)
        have H19 : UpG w [] w19 [[blk w.heap.size #[.int .i64 o.kind, .int .i64 o.slot, .int .i64 o.at_, .int .i64 o.len, .string o.text] 55], [blk w1.heap.size #[.slice none 0 0, .string ⟨#[]⟩] 53], [blk w3.heap.size #[.string ((opRowAt o.kind).name), .string ((opRowAt o.kind).nums), .bool ((opRowAt o.kind).text)] 87], [rowT (tyI .i64) (.slice a1 ((l ++ [o.slot]).length) c1) 3 (l ++ [o.slot])], [blk w7.heap.size #[.slice a1 ((l ++ [o.slot]).length) c1, .string ⟨#[]⟩] 53], [blk w9.heap.size #[.int .i64 o.kind, .int .i64 0, .int .i64 b, .int .i64 d, .string o.text] 55], []] := H18.on 5 rfl u17
        refine WL.done (X.block_normal (X.then_code ?_))
        refine W.pick [46, 45, 44, 43, 42, 41, 40, 39, 38, 37, 36, 35, 34, 33, 32, 31, 30, 29, 8, 28, 27, 26, 25, 7, 6, 4, 3, 2, 1] (Γ' := [(46, .pointer (some ⟨w9.heap.size, 1, none⟩)), (45, .pointer (some ⟨w9.heap.size, 1, none⟩)), (44, .int .u8 (bt ((opRowAt o.kind).nums) j)), (43, .int .i64 ((j : Nat) : Int)), (42, .string ((opRowAt o.kind).nums)), (41, .pointer (some ⟨w3.heap.size, 1, none⟩)), (40, .pointer (some ⟨w7.heap.size, 0, none⟩)), (39, .slice a1 ((l ++ [o.slot]).length) c1), (38, .slice (some ⟨w14.heap.size, 0, none⟩) ([o.slot].length) ([o.slot].length)), (37, .int .i64 o.slot), (36, .pointer (some ⟨w.heap.size, 1, none⟩)), (35, .pointer (some ⟨w.heap.size, 1, none⟩)), (34, .int .u8 (bt ((opRowAt o.kind).nums) j)), (33, .int .i64 ((j : Nat) : Int)), (32, .string ((opRowAt o.kind).nums)), (31, .pointer (some ⟨w3.heap.size, 1, none⟩)), (30, .slice la l.length lc), (29, .pointer (some ⟨w7.heap.size, 0, none⟩)), (8, .int .i64 ((j : Nat) : Int)), (28, .int .i64 ((j : Nat) : Int)), (27, .bool (decide (((j : Nat) : Int) < ((((opRowAt o.kind).nums).size : Nat) : Int)))), (26, .int .i64 ((j : Nat) : Int)), (25, .int .i64 ((((opRowAt o.kind).nums).size : Nat) : Int)), (7, .pointer (some ⟨w9.heap.size, 0, none⟩)), (6, .pointer (some ⟨w7.heap.size, 0, none⟩)), (4, .pointer (some ⟨w3.heap.size, 0, none⟩)), (3, .int .i64 0), (2, .pointer (some ⟨w1.heap.size, 0, none⟩)), (1, .pointer (some ⟨w.heap.size, 0, none⟩))]) rfl ?_
        refine W.region ?_
        refine WL.op rfl (d_add rfl rfl (by omega) (by omega) ?_)
        refine WL.op rfl (d_move rfl ?_)
        refine WL.done ?_
        exact X.next [26, 25, 7, 6, 4, 3, 2, 1] (Γ' := [(26, .int .i64 (((j + 1) : Nat) : Int)), (25, .int .i64 ((((opRowAt o.kind).nums).size : Nat) : Int)), (7, .pointer (some ⟨w9.heap.size, 0, none⟩)), (6, .pointer (some ⟨w7.heap.size, 0, none⟩)), (4, .pointer (some ⟨w3.heap.size, 0, none⟩)), (3, .int .i64 0), (2, .pointer (some ⟨w1.heap.size, 0, none⟩)), (1, .pointer (some ⟨w.heap.size, 0, none⟩))]) rfl ((opRowAt o.kind).nums.size - (j + 1)) (by omega) ⟨j + 1, l ++ [o.slot], a1, c1, 0, b, d, rfl, (H19.re rfl), (by first | assumption | omega | simp), (by rw [rawTo, ← hn]; unfold getF; first | rw [if_pos hS] | rw [if_neg hS, if_pos hA] | rw [if_neg hS, if_neg hA]), (by rw [zeroTo, hz]; unfold put; first | rw [if_pos hS] | rw [if_neg hS, if_pos hA] | rw [if_neg hS, if_neg hA]), (by simp; omega), rfl⟩
      · skip
        by_cases hA : bt (opRowAt o.kind).nums j = 65
        · skip
          refine W.regionD mixed (by kernel_rfl) fun hok2 w20 k2 => ?_
          have H20 : UpG w [] w20 [[blk w.heap.size #[.int .i64 o.kind, .int .i64 o.slot, .int .i64 o.at_, .int .i64 o.len, .string o.text] 55], [blk w1.heap.size #[.slice none 0 0, .string ⟨#[]⟩] 53], [blk w3.heap.size #[.string ((opRowAt o.kind).name), .string ((opRowAt o.kind).nums), .bool ((opRowAt o.kind).text)] 87], [rowT (tyI .i64) (.slice la l.length lc) 3 l], [blk w7.heap.size #[.slice la l.length lc, .string ⟨#[]⟩] 53], [blk w9.heap.size #[.int .i64 o.kind, .int .i64 a, .int .i64 b, .int .i64 d, .string o.text] 55]] := H12.kept k2
          refine WD.take hok2 0 (.pointer (some ⟨w7.heap.size, 0, none⟩)) (fun _ => True) rfl rfl rfl rfl rfl trivial (.inl ⟨rfl, fun _ _ => d_fieldAddrB fld53_0 rfl rfl ⟨rfl, rfl⟩⟩) ?_
          refine WD.take hok2 1 (.slice la l.length lc) (fun w' => w'.heap[w7.heap.size]? = some (.cells #[.slice la l.length lc, .string ⟨#[]⟩] 53 (0, 0))) rfl rfl rfl rfl rfl (H20.blk 4 rfl) (.inl ⟨rfl, fun _ hC => d_loadB Try.underlying51 rfl rfl hC rfl ⟨rfl, rfl⟩⟩) ?_
          refine WD.take hok2 2 (.pointer (some ⟨w3.heap.size, 1, none⟩)) (fun _ => True) rfl rfl rfl rfl rfl trivial (.inl ⟨rfl, fun _ _ => d_fieldAddrB fld87_1 rfl rfl ⟨rfl, rfl⟩⟩) ?_
          refine WD.take hok2 3 (.string ((opRowAt o.kind).nums)) (fun w' => w'.heap[w3.heap.size]? = some (.cells #[.string ((opRowAt o.kind).name), .string ((opRowAt o.kind).nums), .bool ((opRowAt o.kind).text)] 87 (0, 0))) rfl rfl rfl rfl rfl (H20.blk 2 rfl) (.inl ⟨rfl, fun _ hC => d_loadB Try.underlying9 rfl rfl hC rfl ⟨rfl, rfl⟩⟩) ?_
          refine WD.take hok2 4 (.int .i64 ((j : Nat) : Int)) (fun _ => True) rfl rfl rfl rfl rfl trivial (.inl ⟨rfl, fun _ _ => d_move rfl ⟨rfl, rfl⟩⟩) ?_
          refine WD.take hok2 5 (.int .u8 (bt ((opRowAt o.kind).nums) j)) (fun _ => True) rfl rfl rfl rfl rfl trivial (.inl ⟨rfl, fun _ _ => d_idxStrN j Try.underlying9 rfl rfl rfl (by omega) ⟨rfl, rfl⟩⟩) ?_
          refine WD.loud hok2 6 rfl (⟨_, [⟨1, .slice la l.length lc, (fun w' => w'.heap[w7.heap.size]? = some (.cells #[.slice la l.length lc, .string ⟨#[]⟩] 53 (0, 0)))⟩, ⟨0, .pointer (some ⟨w7.heap.size, 0, none⟩), (fun _ => True)⟩], rfl, rfl, rfl, rfl, rfl, rfl, d_call ok51 rfl (Ret.calls (fieldA_any w.heap.size (bt ((opRowAt o.kind).nums) j) w20  hA) fun _ w21 p4 => ?_)⟩)
          obtain ⟨rfl, u18⟩ := p4
          have H21 : UpG w [] w21 [[blk w.heap.size #[.int .i64 o.kind, .int .i64 o.slot, .int .i64 o.at_, .int .i64 o.len, .string o.text] 55], [blk w1.heap.size #[.slice none 0 0, .string ⟨#[]⟩] 53], [blk w3.heap.size #[.string ((opRowAt o.kind).name), .string ((opRowAt o.kind).nums), .bool ((opRowAt o.kind).text)] 87], [rowT (tyI .i64) (.slice la l.length lc) 3 l], [blk w7.heap.size #[.slice la l.length lc, .string ⟨#[]⟩] 53], [blk w9.heap.size #[.int .i64 o.kind, .int .i64 a, .int .i64 b, .int .i64 d, .string o.text] 55]] := H20.call u18
          refine ⟨⟨(H21.blk 4 rfl), trivial, trivial⟩, ?_⟩
          refine WD.take hok2 7 (.pointer (some ⟨w.heap.size, 2, none⟩)) (fun _ => True) rfl rfl rfl rfl rfl trivial (.inl ⟨rfl, fun _ _ => d_nilCheck rfl ⟨rfl, rfl⟩⟩) ?_
          refine WD.take hok2 8 (.int .i64 o.at_) (fun w' => w'.heap[w.heap.size]? = some (.cells #[.int .i64 o.kind, .int .i64 o.slot, .int .i64 o.at_, .int .i64 o.len, .string o.text] 55 (0, 0))) rfl rfl rfl rfl rfl (H21.blk 0 rfl) (.inl ⟨rfl, fun _ hC => d_loadB Try.underlying3 rfl rfl hC rfl ⟨rfl, rfl⟩⟩) ?_
          refine WD.loud hok2 9 rfl (⟨_, [⟨1, .slice la l.length lc, (fun w' => w'.heap[w7.heap.size]? = some (.cells #[.slice la l.length lc, .string ⟨#[]⟩] 53 (0, 0)))⟩, ⟨0, .pointer (some ⟨w7.heap.size, 0, none⟩), (fun _ => True)⟩], rfl, rfl, rfl, rfl, rfl, rfl, t_buildSlice (T := (tyI .i64)) (xs := [o.at_]) (cs := #[.int .i64 o.at_]) rfl Try.underlying51 sz3 rfl rfl rfl rfl (by kernel_rfl) rfl rfl fun w22 u19 => ?_⟩)
          have H22 : UpG w [] w22 [[blk w.heap.size #[.int .i64 o.kind, .int .i64 o.slot, .int .i64 o.at_, .int .i64 o.len, .string o.text] 55], [blk w1.heap.size #[.slice none 0 0, .string ⟨#[]⟩] 53], [blk w3.heap.size #[.string ((opRowAt o.kind).name), .string ((opRowAt o.kind).nums), .bool ((opRowAt o.kind).text)] 87], [rowT (tyI .i64) (.slice la l.length lc) 3 l], [blk w7.heap.size #[.slice la l.length lc, .string ⟨#[]⟩] 53], [blk w9.heap.size #[.int .i64 o.kind, .int .i64 a, .int .i64 b, .int .i64 d, .string o.text] 55], [rowT (tyI .i64) (.slice (some ⟨w21.heap.size, 0, none⟩) ([o.at_].length) ([o.at_].length)) 3 [o.at_]]] := H21.new' u19
          refine ⟨⟨(H22.blk 4 rfl), trivial, trivial⟩, ?_⟩
          refine WD.loud hok2 10 rfl (⟨_, [], rfl, rfl, rfl, rfl, rfl, rfl, t_append (T := (tyI .i64)) (xs := l) (ys := [o.at_]) rfl Try.underlying51 sz3 rfl rfl rfl (H22.ownT 3 rfl) (H22.rdT 6 rfl) (by simp; omega) (by simp; omega) fun a2 c2 w23 u20 => ?_⟩)
          have H23 : UpG w [] w23 [[blk w.heap.size #[.int .i64 o.kind, .int .i64 o.slot, .int .i64 o.at_, .int .i64 o.len, .string o.text] 55], [blk w1.heap.size #[.slice none 0 0, .string ⟨#[]⟩] 53], [blk w3.heap.size #[.string ((opRowAt o.kind).name), .string ((opRowAt o.kind).nums), .bool ((opRowAt o.kind).text)] 87], [rowT (tyI .i64) (.slice a2 ((l ++ [o.at_]).length) c2) 3 (l ++ [o.at_])], [blk w7.heap.size #[.slice la l.length lc, .string ⟨#[]⟩] 53], [blk w9.heap.size #[.int .i64 o.kind, .int .i64 a, .int .i64 b, .int .i64 d, .string o.text] 55], []] := (H22.on 3 rfl u20).drop 6
          refine ⟨trivial, ?_⟩
          refine WD.take hok2 11 (.pointer (some ⟨w7.heap.size, 0, none⟩)) (fun _ => True) rfl rfl rfl rfl rfl trivial (.inl ⟨rfl, fun _ _ => d_fieldAddrB fld53_0 rfl rfl ⟨rfl, rfl⟩⟩) ?_
          refine WD.loud hok2 12 rfl (⟨_, [], rfl, rfl, rfl, rfl, rfl, rfl, d_storeB sz51 rfl rfl rfl (H23.blk 4 rfl) rfl fun w24 u21 => ?_⟩)
          have H24 : UpG w [] w24 [[blk w.heap.size #[.int .i64 o.kind, .int .i64 o.slot, .int .i64 o.at_, .int .i64 o.len, .string o.text] 55], [blk w1.heap.size #[.slice none 0 0, .string ⟨#[]⟩] 53], [blk w3.heap.size #[.string ((opRowAt o.kind).name), .string ((opRowAt o.kind).nums), .bool ((opRowAt o.kind).text)] 87], [rowT (tyI .i64) (.slice a2 ((l ++ [o.at_]).length) c2) 3 (l ++ [o.at_])], [blk w7.heap.size #[.slice a2 ((l ++ [o.at_]).length) c2, .string ⟨#[]⟩] 53], [blk w9.heap.size #[.int .i64 o.kind, .int .i64 a, .int .i64 b, .int .i64 d, .string o.text] 55], []] := H23.on 4 rfl u21
          refine ⟨trivial, ?_⟩
          refine WD.done hok2 rfl (X.then_code ?_)
          refine W.pick [40, 39, 38, 37, 36, 35, 34, 33, 32, 31, 30, 29, 8, 28, 27, 26, 25, 7, 6, 4, 3, 2, 1] (Γ' := [(40, .pointer (some ⟨w7.heap.size, 0, none⟩)), (39, .slice a2 ((l ++ [o.at_]).length) c2), (38, .slice (some ⟨w21.heap.size, 0, none⟩) ([o.at_].length) ([o.at_].length)), (37, .int .i64 o.at_), (36, .pointer (some ⟨w.heap.size, 2, none⟩)), (35, .pointer (some ⟨w.heap.size, 2, none⟩)), (34, .int .u8 (bt ((opRowAt o.kind).nums) j)), (33, .int .i64 ((j : Nat) : Int)), (32, .string ((opRowAt o.kind).nums)), (31, .pointer (some ⟨w3.heap.size, 1, none⟩)), (30, .slice la l.length lc), (29, .pointer (some ⟨w7.heap.size, 0, none⟩)), (8, .int .i64 ((j : Nat) : Int)), (28, .int .i64 ((j : Nat) : Int)), (27, .bool (decide (((j : Nat) : Int) < ((((opRowAt o.kind).nums).size : Nat) : Int)))), (26, .int .i64 ((j : Nat) : Int)), (25, .int .i64 ((((opRowAt o.kind).nums).size : Nat) : Int)), (7, .pointer (some ⟨w9.heap.size, 0, none⟩)), (6, .pointer (some ⟨w7.heap.size, 0, none⟩)), (4, .pointer (some ⟨w3.heap.size, 0, none⟩)), (3, .int .i64 0), (2, .pointer (some ⟨w1.heap.size, 0, none⟩)), (1, .pointer (some ⟨w.heap.size, 0, none⟩))]) rfl ?_
          refine W.region ?_
          refine WL.op rfl (d_fieldAddrB fld87_1 rfl rfl ?_)
          refine WL.op rfl (d_loadB Try.underlying9 rfl rfl (H24.blk 2 rfl) rfl ?_)
          refine WL.op rfl (d_move rfl ?_)
          refine WL.op rfl (d_idxStrN j Try.underlying9 rfl rfl rfl (by omega) ?_)
          refine WL.op rfl (d_call ok51 rfl (Ret.calls (fieldA_any w9.heap.size (bt ((opRowAt o.kind).nums) j) w24  hA) fun _ w25 p5 => ?_))
          obtain ⟨rfl, u22⟩ := p5
          have H25 : UpG w [] w25 [[blk w.heap.size #[.int .i64 o.kind, .int .i64 o.slot, .int .i64 o.at_, .int .i64 o.len, .string o.text] 55], [blk w1.heap.size #[.slice none 0 0, .string ⟨#[]⟩] 53], [blk w3.heap.size #[.string ((opRowAt o.kind).name), .string ((opRowAt o.kind).nums), .bool ((opRowAt o.kind).text)] 87], [rowT (tyI .i64) (.slice a2 ((l ++ [o.at_]).length) c2) 3 (l ++ [o.at_])], [blk w7.heap.size #[.slice a2 ((l ++ [o.at_]).length) c2, .string ⟨#[]⟩] 53], [blk w9.heap.size #[.int .i64 o.kind, .int .i64 a, .int .i64 b, .int .i64 d, .string o.text] 55], []] := H24.call u22
          refine WL.op rfl (d_nilCheck rfl ?_)
          refine WL.op0 (d_storeB sz3 rfl rfl rfl (H25.blk 5 rfl) rfl fun w26 u23 => ?_)
          have H26 : UpG w [] w26 [[blk w.heap.size #[.int .i64 o.kind, .int .i64 o.slot, .int .i64 o.at_, .int .i64 o.len, .string o.text] 55], [blk w1.heap.size #[.slice none 0 0, .string ⟨#[]⟩] 53], [blk w3.heap.size #[.string ((opRowAt o.kind).name), .string ((opRowAt o.kind).nums), .bool ((opRowAt o.kind).text)] 87], [rowT (tyI .i64) (.slice a2 ((l ++ [o.at_]).length) c2) 3 (l ++ [o.at_])], [blk w7.heap.size #[.slice a2 ((l ++ [o.at_]).length) c2, .string ⟨#[]⟩] 53], [blk w9.heap.size #[.int .i64 o.kind, .int .i64 a, .int .i64 0, .int .i64 d, .string o.text] 55], []] := H25.on 5 rfl u23
          refine WL.done (X.block_normal (X.then_code ?_))
          refine W.pick [46, 45, 44, 43, 42, 41, 40, 39, 38, 37, 36, 35, 34, 33, 32, 31, 30, 29, 8, 28, 27, 26, 25, 7, 6, 4, 3, 2, 1] (Γ' := [(46, .pointer (some ⟨w9.heap.size, 2, none⟩)), (45, .pointer (some ⟨w9.heap.size, 2, none⟩)), (44, .int .u8 (bt ((opRowAt o.kind).nums) j)), (43, .int .i64 ((j : Nat) : Int)), (42, .string ((opRowAt o.kind).nums)), (41, .pointer (some ⟨w3.heap.size, 1, none⟩)), (40, .pointer (some ⟨w7.heap.size, 0, none⟩)), (39, .slice a2 ((l ++ [o.at_]).length) c2), (38, .slice (some ⟨w21.heap.size, 0, none⟩) ([o.at_].length) ([o.at_].length)), (37, .int .i64 o.at_), (36, .pointer (some ⟨w.heap.size, 2, none⟩)), (35, .pointer (some ⟨w.heap.size, 2, none⟩)), (34, .int .u8 (bt ((opRowAt o.kind).nums) j)), (33, .int .i64 ((j : Nat) : Int)), (32, .string ((opRowAt o.kind).nums)), (31, .pointer (some ⟨w3.heap.size, 1, none⟩)), (30, .slice la l.length lc), (29, .pointer (some ⟨w7.heap.size, 0, none⟩)), (8, .int .i64 ((j : Nat) : Int)), (28, .int .i64 ((j : Nat) : Int)), (27, .bool (decide (((j : Nat) : Int) < ((((opRowAt o.kind).nums).size : Nat) : Int)))), (26, .int .i64 ((j : Nat) : Int)), (25, .int .i64 ((((opRowAt o.kind).nums).size : Nat) : Int)), (7, .pointer (some ⟨w9.heap.size, 0, none⟩)), (6, .pointer (some ⟨w7.heap.size, 0, none⟩)), (4, .pointer (some ⟨w3.heap.size, 0, none⟩)), (3, .int .i64 0), (2, .pointer (some ⟨w1.heap.size, 0, none⟩)), (1, .pointer (some ⟨w.heap.size, 0, none⟩))]) rfl ?_
          refine W.region ?_
          refine WL.op rfl (d_add rfl rfl (by omega) (by omega) ?_)
          refine WL.op rfl (d_move rfl ?_)
          refine WL.done ?_
          exact X.next [26, 25, 7, 6, 4, 3, 2, 1] (Γ' := [(26, .int .i64 (((j + 1) : Nat) : Int)), (25, .int .i64 ((((opRowAt o.kind).nums).size : Nat) : Int)), (7, .pointer (some ⟨w9.heap.size, 0, none⟩)), (6, .pointer (some ⟨w7.heap.size, 0, none⟩)), (4, .pointer (some ⟨w3.heap.size, 0, none⟩)), (3, .int .i64 0), (2, .pointer (some ⟨w1.heap.size, 0, none⟩)), (1, .pointer (some ⟨w.heap.size, 0, none⟩))]) rfl ((opRowAt o.kind).nums.size - (j + 1)) (by omega) ⟨j + 1, l ++ [o.at_], a2, c2, a, 0, d, rfl, (H26.re rfl), (by first | assumption | omega | simp), (by rw [rawTo, ← hn]; unfold getF; first | rw [if_pos hS] | rw [if_neg hS, if_pos hA] | rw [if_neg hS, if_neg hA]), (by rw [zeroTo, hz]; unfold put; first | rw [if_pos hS] | rw [if_neg hS, if_pos hA] | rw [if_neg hS, if_neg hA]), (by simp; omega), rfl⟩
        · skip
          refine W.regionD mixed (by kernel_rfl) fun hok3 w27 k3 => ?_
          have H27 : UpG w [] w27 [[blk w.heap.size #[.int .i64 o.kind, .int .i64 o.slot, .int .i64 o.at_, .int .i64 o.len, .string o.text] 55], [blk w1.heap.size #[.slice none 0 0, .string ⟨#[]⟩] 53], [blk w3.heap.size #[.string ((opRowAt o.kind).name), .string ((opRowAt o.kind).nums), .bool ((opRowAt o.kind).text)] 87], [rowT (tyI .i64) (.slice la l.length lc) 3 l], [blk w7.heap.size #[.slice la l.length lc, .string ⟨#[]⟩] 53], [blk w9.heap.size #[.int .i64 o.kind, .int .i64 a, .int .i64 b, .int .i64 d, .string o.text] 55]] := H12.kept k3
          refine WD.take hok3 0 (.pointer (some ⟨w7.heap.size, 0, none⟩)) (fun _ => True) rfl rfl rfl rfl rfl trivial (.inl ⟨rfl, fun _ _ => d_fieldAddrB fld53_0 rfl rfl ⟨rfl, rfl⟩⟩) ?_
          refine WD.take hok3 1 (.slice la l.length lc) (fun w' => w'.heap[w7.heap.size]? = some (.cells #[.slice la l.length lc, .string ⟨#[]⟩] 53 (0, 0))) rfl rfl rfl rfl rfl (H27.blk 4 rfl) (.inl ⟨rfl, fun _ hC => d_loadB Try.underlying51 rfl rfl hC rfl ⟨rfl, rfl⟩⟩) ?_
          refine WD.take hok3 2 (.pointer (some ⟨w3.heap.size, 1, none⟩)) (fun _ => True) rfl rfl rfl rfl rfl trivial (.inl ⟨rfl, fun _ _ => d_fieldAddrB fld87_1 rfl rfl ⟨rfl, rfl⟩⟩) ?_
          refine WD.take hok3 3 (.string ((opRowAt o.kind).nums)) (fun w' => w'.heap[w3.heap.size]? = some (.cells #[.string ((opRowAt o.kind).name), .string ((opRowAt o.kind).nums), .bool ((opRowAt o.kind).text)] 87 (0, 0))) rfl rfl rfl rfl rfl (H27.blk 2 rfl) (.inl ⟨rfl, fun _ hC => d_loadB Try.underlying9 rfl rfl hC rfl ⟨rfl, rfl⟩⟩) ?_
          refine WD.take hok3 4 (.int .i64 ((j : Nat) : Int)) (fun _ => True) rfl rfl rfl rfl rfl trivial (.inl ⟨rfl, fun _ _ => d_move rfl ⟨rfl, rfl⟩⟩) ?_
          refine WD.take hok3 5 (.int .u8 (bt ((opRowAt o.kind).nums) j)) (fun _ => True) rfl rfl rfl rfl rfl trivial (.inl ⟨rfl, fun _ _ => d_idxStrN j Try.underlying9 rfl rfl rfl (by omega) ⟨rfl, rfl⟩⟩) ?_
          refine WD.loud hok3 6 rfl (⟨_, [⟨1, .slice la l.length lc, (fun w' => w'.heap[w7.heap.size]? = some (.cells #[.slice la l.length lc, .string ⟨#[]⟩] 53 (0, 0)))⟩, ⟨0, .pointer (some ⟨w7.heap.size, 0, none⟩), (fun _ => True)⟩], rfl, rfl, rfl, rfl, rfl, rfl, d_call ok51 rfl (Ret.calls (fieldL_any w.heap.size (bt ((opRowAt o.kind).nums) j) w27  hS hA) fun _ w28 p6 => ?_)⟩)
          obtain ⟨rfl, u24⟩ := p6
          have H28 : UpG w [] w28 [[blk w.heap.size #[.int .i64 o.kind, .int .i64 o.slot, .int .i64 o.at_, .int .i64 o.len, .string o.text] 55], [blk w1.heap.size #[.slice none 0 0, .string ⟨#[]⟩] 53], [blk w3.heap.size #[.string ((opRowAt o.kind).name), .string ((opRowAt o.kind).nums), .bool ((opRowAt o.kind).text)] 87], [rowT (tyI .i64) (.slice la l.length lc) 3 l], [blk w7.heap.size #[.slice la l.length lc, .string ⟨#[]⟩] 53], [blk w9.heap.size #[.int .i64 o.kind, .int .i64 a, .int .i64 b, .int .i64 d, .string o.text] 55]] := H27.call u24
          refine ⟨⟨(H28.blk 4 rfl), trivial, trivial⟩, ?_⟩
          refine WD.take hok3 7 (.pointer (some ⟨w.heap.size, 3, none⟩)) (fun _ => True) rfl rfl rfl rfl rfl trivial (.inl ⟨rfl, fun _ _ => d_nilCheck rfl ⟨rfl, rfl⟩⟩) ?_
          refine WD.take hok3 8 (.int .i64 o.len) (fun w' => w'.heap[w.heap.size]? = some (.cells #[.int .i64 o.kind, .int .i64 o.slot, .int .i64 o.at_, .int .i64 o.len, .string o.text] 55 (0, 0))) rfl rfl rfl rfl rfl (H28.blk 0 rfl) (.inl ⟨rfl, fun _ hC => d_loadB Try.underlying3 rfl rfl hC rfl ⟨rfl, rfl⟩⟩) ?_
          refine WD.loud hok3 9 rfl (⟨_, [⟨1, .slice la l.length lc, (fun w' => w'.heap[w7.heap.size]? = some (.cells #[.slice la l.length lc, .string ⟨#[]⟩] 53 (0, 0)))⟩, ⟨0, .pointer (some ⟨w7.heap.size, 0, none⟩), (fun _ => True)⟩], rfl, rfl, rfl, rfl, rfl, rfl, t_buildSlice (T := (tyI .i64)) (xs := [o.len]) (cs := #[.int .i64 o.len]) rfl Try.underlying51 sz3 rfl rfl rfl rfl (by kernel_rfl) rfl rfl fun w29 u25 => ?_⟩)
          have H29 : UpG w [] w29 [[blk w.heap.size #[.int .i64 o.kind, .int .i64 o.slot, .int .i64 o.at_, .int .i64 o.len, .string o.text] 55], [blk w1.heap.size #[.slice none 0 0, .string ⟨#[]⟩] 53], [blk w3.heap.size #[.string ((opRowAt o.kind).name), .string ((opRowAt o.kind).nums), .bool ((opRowAt o.kind).text)] 87], [rowT (tyI .i64) (.slice la l.length lc) 3 l], [blk w7.heap.size #[.slice la l.length lc, .string ⟨#[]⟩] 53], [blk w9.heap.size #[.int .i64 o.kind, .int .i64 a, .int .i64 b, .int .i64 d, .string o.text] 55], [rowT (tyI .i64) (.slice (some ⟨w28.heap.size, 0, none⟩) ([o.len].length) ([o.len].length)) 3 [o.len]]] := H28.new' u25
          refine ⟨⟨(H29.blk 4 rfl), trivial, trivial⟩, ?_⟩
          refine WD.loud hok3 10 rfl (⟨_, [], rfl, rfl, rfl, rfl, rfl, rfl, t_append (T := (tyI .i64)) (xs := l) (ys := [o.len]) rfl Try.underlying51 sz3 rfl rfl rfl (H29.ownT 3 rfl) (H29.rdT 6 rfl) (by simp; omega) (by simp; omega) fun a3 c3 w30 u26 => ?_⟩)
          have H30 : UpG w [] w30 [[blk w.heap.size #[.int .i64 o.kind, .int .i64 o.slot, .int .i64 o.at_, .int .i64 o.len, .string o.text] 55], [blk w1.heap.size #[.slice none 0 0, .string ⟨#[]⟩] 53], [blk w3.heap.size #[.string ((opRowAt o.kind).name), .string ((opRowAt o.kind).nums), .bool ((opRowAt o.kind).text)] 87], [rowT (tyI .i64) (.slice a3 ((l ++ [o.len]).length) c3) 3 (l ++ [o.len])], [blk w7.heap.size #[.slice la l.length lc, .string ⟨#[]⟩] 53], [blk w9.heap.size #[.int .i64 o.kind, .int .i64 a, .int .i64 b, .int .i64 d, .string o.text] 55], []] := (H29.on 3 rfl u26).drop 6
          refine ⟨trivial, ?_⟩
          refine WD.take hok3 11 (.pointer (some ⟨w7.heap.size, 0, none⟩)) (fun _ => True) rfl rfl rfl rfl rfl trivial (.inl ⟨rfl, fun _ _ => d_fieldAddrB fld53_0 rfl rfl ⟨rfl, rfl⟩⟩) ?_
          refine WD.loud hok3 12 rfl (⟨_, [], rfl, rfl, rfl, rfl, rfl, rfl, d_storeB sz51 rfl rfl rfl (H30.blk 4 rfl) rfl fun w31 u27 => ?_⟩)
          have H31 : UpG w [] w31 [[blk w.heap.size #[.int .i64 o.kind, .int .i64 o.slot, .int .i64 o.at_, .int .i64 o.len, .string o.text] 55], [blk w1.heap.size #[.slice none 0 0, .string ⟨#[]⟩] 53], [blk w3.heap.size #[.string ((opRowAt o.kind).name), .string ((opRowAt o.kind).nums), .bool ((opRowAt o.kind).text)] 87], [rowT (tyI .i64) (.slice a3 ((l ++ [o.len]).length) c3) 3 (l ++ [o.len])], [blk w7.heap.size #[.slice a3 ((l ++ [o.len]).length) c3, .string ⟨#[]⟩] 53], [blk w9.heap.size #[.int .i64 o.kind, .int .i64 a, .int .i64 b, .int .i64 d, .string o.text] 55], []] := H30.on 4 rfl u27
          refine ⟨trivial, ?_⟩
          refine WD.done hok3 rfl (X.then_code ?_)
          refine W.pick [40, 39, 38, 37, 36, 35, 34, 33, 32, 31, 30, 29, 8, 28, 27, 26, 25, 7, 6, 4, 3, 2, 1] (Γ' := [(40, .pointer (some ⟨w7.heap.size, 0, none⟩)), (39, .slice a3 ((l ++ [o.len]).length) c3), (38, .slice (some ⟨w28.heap.size, 0, none⟩) ([o.len].length) ([o.len].length)), (37, .int .i64 o.len), (36, .pointer (some ⟨w.heap.size, 3, none⟩)), (35, .pointer (some ⟨w.heap.size, 3, none⟩)), (34, .int .u8 (bt ((opRowAt o.kind).nums) j)), (33, .int .i64 ((j : Nat) : Int)), (32, .string ((opRowAt o.kind).nums)), (31, .pointer (some ⟨w3.heap.size, 1, none⟩)), (30, .slice la l.length lc), (29, .pointer (some ⟨w7.heap.size, 0, none⟩)), (8, .int .i64 ((j : Nat) : Int)), (28, .int .i64 ((j : Nat) : Int)), (27, .bool (decide (((j : Nat) : Int) < ((((opRowAt o.kind).nums).size : Nat) : Int)))), (26, .int .i64 ((j : Nat) : Int)), (25, .int .i64 ((((opRowAt o.kind).nums).size : Nat) : Int)), (7, .pointer (some ⟨w9.heap.size, 0, none⟩)), (6, .pointer (some ⟨w7.heap.size, 0, none⟩)), (4, .pointer (some ⟨w3.heap.size, 0, none⟩)), (3, .int .i64 0), (2, .pointer (some ⟨w1.heap.size, 0, none⟩)), (1, .pointer (some ⟨w.heap.size, 0, none⟩))]) rfl ?_
          refine W.region ?_
          refine WL.op rfl (d_fieldAddrB fld87_1 rfl rfl ?_)
          refine WL.op rfl (d_loadB Try.underlying9 rfl rfl (H31.blk 2 rfl) rfl ?_)
          refine WL.op rfl (d_move rfl ?_)
          refine WL.op rfl (d_idxStrN j Try.underlying9 rfl rfl rfl (by omega) ?_)
          refine WL.op rfl (d_call ok51 rfl (Ret.calls (fieldL_any w9.heap.size (bt ((opRowAt o.kind).nums) j) w31  hS hA) fun _ w32 p7 => ?_))
          obtain ⟨rfl, u28⟩ := p7
          have H32 : UpG w [] w32 [[blk w.heap.size #[.int .i64 o.kind, .int .i64 o.slot, .int .i64 o.at_, .int .i64 o.len, .string o.text] 55], [blk w1.heap.size #[.slice none 0 0, .string ⟨#[]⟩] 53], [blk w3.heap.size #[.string ((opRowAt o.kind).name), .string ((opRowAt o.kind).nums), .bool ((opRowAt o.kind).text)] 87], [rowT (tyI .i64) (.slice a3 ((l ++ [o.len]).length) c3) 3 (l ++ [o.len])], [blk w7.heap.size #[.slice a3 ((l ++ [o.len]).length) c3, .string ⟨#[]⟩] 53], [blk w9.heap.size #[.int .i64 o.kind, .int .i64 a, .int .i64 b, .int .i64 d, .string o.text] 55], []] := H31.call u28
          refine WL.op rfl (d_nilCheck rfl ?_)
          refine WL.op0 (d_storeB sz3 rfl rfl rfl (H32.blk 5 rfl) rfl fun w33 u29 => ?_)
          have H33 : UpG w [] w33 [[blk w.heap.size #[.int .i64 o.kind, .int .i64 o.slot, .int .i64 o.at_, .int .i64 o.len, .string o.text] 55], [blk w1.heap.size #[.slice none 0 0, .string ⟨#[]⟩] 53], [blk w3.heap.size #[.string ((opRowAt o.kind).name), .string ((opRowAt o.kind).nums), .bool ((opRowAt o.kind).text)] 87], [rowT (tyI .i64) (.slice a3 ((l ++ [o.len]).length) c3) 3 (l ++ [o.len])], [blk w7.heap.size #[.slice a3 ((l ++ [o.len]).length) c3, .string ⟨#[]⟩] 53], [blk w9.heap.size #[.int .i64 o.kind, .int .i64 a, .int .i64 b, .int .i64 0, .string o.text] 55], []] := H32.on 5 rfl u29
          refine WL.done (X.block_normal (X.then_code ?_))
          refine W.pick [46, 45, 44, 43, 42, 41, 40, 39, 38, 37, 36, 35, 34, 33, 32, 31, 30, 29, 8, 28, 27, 26, 25, 7, 6, 4, 3, 2, 1] (Γ' := [(46, .pointer (some ⟨w9.heap.size, 3, none⟩)), (45, .pointer (some ⟨w9.heap.size, 3, none⟩)), (44, .int .u8 (bt ((opRowAt o.kind).nums) j)), (43, .int .i64 ((j : Nat) : Int)), (42, .string ((opRowAt o.kind).nums)), (41, .pointer (some ⟨w3.heap.size, 1, none⟩)), (40, .pointer (some ⟨w7.heap.size, 0, none⟩)), (39, .slice a3 ((l ++ [o.len]).length) c3), (38, .slice (some ⟨w28.heap.size, 0, none⟩) ([o.len].length) ([o.len].length)), (37, .int .i64 o.len), (36, .pointer (some ⟨w.heap.size, 3, none⟩)), (35, .pointer (some ⟨w.heap.size, 3, none⟩)), (34, .int .u8 (bt ((opRowAt o.kind).nums) j)), (33, .int .i64 ((j : Nat) : Int)), (32, .string ((opRowAt o.kind).nums)), (31, .pointer (some ⟨w3.heap.size, 1, none⟩)), (30, .slice la l.length lc), (29, .pointer (some ⟨w7.heap.size, 0, none⟩)), (8, .int .i64 ((j : Nat) : Int)), (28, .int .i64 ((j : Nat) : Int)), (27, .bool (decide (((j : Nat) : Int) < ((((opRowAt o.kind).nums).size : Nat) : Int)))), (26, .int .i64 ((j : Nat) : Int)), (25, .int .i64 ((((opRowAt o.kind).nums).size : Nat) : Int)), (7, .pointer (some ⟨w9.heap.size, 0, none⟩)), (6, .pointer (some ⟨w7.heap.size, 0, none⟩)), (4, .pointer (some ⟨w3.heap.size, 0, none⟩)), (3, .int .i64 0), (2, .pointer (some ⟨w1.heap.size, 0, none⟩)), (1, .pointer (some ⟨w.heap.size, 0, none⟩))]) rfl ?_
          refine W.region ?_
          refine WL.op rfl (d_add rfl rfl (by omega) (by omega) ?_)
          refine WL.op rfl (d_move rfl ?_)
          refine WL.done ?_
          exact X.next [26, 25, 7, 6, 4, 3, 2, 1] (Γ' := [(26, .int .i64 (((j + 1) : Nat) : Int)), (25, .int .i64 ((((opRowAt o.kind).nums).size : Nat) : Int)), (7, .pointer (some ⟨w9.heap.size, 0, none⟩)), (6, .pointer (some ⟨w7.heap.size, 0, none⟩)), (4, .pointer (some ⟨w3.heap.size, 0, none⟩)), (3, .int .i64 0), (2, .pointer (some ⟨w1.heap.size, 0, none⟩)), (1, .pointer (some ⟨w.heap.size, 0, none⟩))]) rfl ((opRowAt o.kind).nums.size - (j + 1)) (by omega) ⟨j + 1, l ++ [o.len], a3, c3, a, b, 0, rfl, (H33.re rfl), (by first | assumption | omega | simp), (by rw [rawTo, ← hn]; unfold getF; first | rw [if_pos hS] | rw [if_neg hS, if_pos hA] | rw [if_neg hS, if_neg hA]), (by rw [zeroTo, hz]; unfold put; first | rw [if_pos hS] | rw [if_neg hS, if_pos hA] | rw [if_neg hS, if_neg hA]), (by simp; omega), rfl⟩
    · skip
      refine W.exit (X.then_exit (X.then_exit (X.block_exit (X.then_code ?_))))
      refine W.seq ?_
      refine W.seq ?_
      have hjj : j = (opRowAt o.kind).nums.size := by omega
      rw [hjj] at hz hn
      have hz2 := row_zero hok o.slot o.at_ o.len o.text
      have hn2 := row_raw hok o.slot o.at_ o.len o.text
      obtain ⟨z1, z2, z3⟩ : a = (if cS o.kind = true then 0 else o.slot) ∧ b = (if cA o.kind = true then 0 else o.at_) ∧ d = (if cL o.kind = true then 0 else o.len) := by have h9 := hz.symm.trans hz2; simpa using h9
      have hl2 : l = rawN o := hn.trans hn2
      refine W.region ?_
      refine WL.op rfl (d_fieldAddrB fld87_2 rfl rfl ?_)
      refine WL.op rfl (d_loadB Try.underlying4 rfl rfl (H12.blk 2 rfl) rfl ?_)
      refine WL.done (X.then_code ?_)
      refine W.iteB (b := (opRowAt o.kind).text) rfl (fun c93 => ?_) (fun c93 => ?_)
      · skip
        have hb := rest_bad (o := o) (x := ⟨#[]⟩) z1 z2 z3 (by rw [← hrt, if_pos c93])
        refine W.region ?_
        refine WL.op rfl (d_fieldAddrB fld55_4 rfl rfl ?_)
        refine WL.op rfl (d_loadB Try.underlying9 rfl rfl (H12.blk 0 rfl) rfl ?_)
        refine WL.op rfl (d_fieldAddrB fld53_1 rfl rfl ?_)
        refine WL.op0 (d_storeB sz9 rfl rfl rfl (H12.blk 4 rfl) rfl fun w34 u30 => ?_)
        have H34 : UpG w [] w34 [[blk w.heap.size #[.int .i64 o.kind, .int .i64 o.slot, .int .i64 o.at_, .int .i64 o.len, .string o.text] 55], [blk w1.heap.size #[.slice none 0 0, .string ⟨#[]⟩] 53], [blk w3.heap.size #[.string ((opRowAt o.kind).name), .string ((opRowAt o.kind).nums), .bool ((opRowAt o.kind).text)] 87], [rowT (tyI .i64) (.slice la l.length lc) 3 l], [blk w7.heap.size #[.slice la l.length lc, .string o.text] 53], [blk w9.heap.size #[.int .i64 o.kind, .int .i64 a, .int .i64 b, .int .i64 d, .string o.text] 55]] := H12.on 4 rfl u30
        refine WL.op rfl (d_fieldAddrB fld55_4 rfl rfl ?_)
        refine WL.op0 (d_storeB sz9 rfl rfl rfl (H34.blk 5 rfl) rfl fun w35 u31 => ?_)
        have H35 : UpG w [] w35 [[blk w.heap.size #[.int .i64 o.kind, .int .i64 o.slot, .int .i64 o.at_, .int .i64 o.len, .string o.text] 55], [blk w1.heap.size #[.slice none 0 0, .string ⟨#[]⟩] 53], [blk w3.heap.size #[.string ((opRowAt o.kind).name), .string ((opRowAt o.kind).nums), .bool ((opRowAt o.kind).text)] 87], [rowT (tyI .i64) (.slice la l.length lc) 3 l], [blk w7.heap.size #[.slice la l.length lc, .string o.text] 53], [blk w9.heap.size #[.int .i64 o.kind, .int .i64 a, .int .i64 b, .int .i64 d, .string ⟨#[]⟩] 55]] := H34.on 5 rfl u31
        refine WL.done (X.then_code ?_)
        refine W.seq ?_
        refine W.block ?_
        refine W.seq ?_
        refine W.region ?_
        refine WL.op rfl (d_loadAB [.int .i64 o.kind, .int .i64 a, .int .i64 b, .int .i64 d, .string ⟨#[]⟩] Try.underlying55 rfl sz55 rfl (H35.blk 5 rfl) rfl rfl ?_)
        refine WL.op rfl (d_fieldAddrB fld55_0 rfl rfl ?_)
        refine WL.op rfl (d_loadB Try.underlying3 rfl rfl (H35.blk 0 rfl) rfl ?_)
        refine WL.op rfl (d_build (cs := #[.int .i64 o.kind, .int .i64 0, .int .i64 0, .int .i64 0, .string ⟨#[]⟩]) rfl (by kernel_rfl) ?_)
        refine WL.op rfl (d_aggne [.int .i64 o.kind, .int .i64 a, .int .i64 b, .int .i64 d, .string ⟨#[]⟩] [.int .i64 o.kind, .int .i64 0, .int .i64 0, .int .i64 0, .string ⟨#[]⟩] rfl rfl (by kernel_rfl) (by kernel_rfl) (by kernel_rfl) (by kernel_rfl) ?_)
        refine WL.op rfl (d_assign rfl ?_)
        refine WL.done (X.then_code ?_)
        refine W.pick [54, 6, 3, 2] (Γ' := [(54, .bool (!(decide (o.kind = o.kind) && (decide (a = (0 : Int)) && (decide (b = (0 : Int)) && (decide (d = (0 : Int)) && (decide ((⟨#[]⟩ : ByteArray) = ⟨#[]⟩)))))))), (6, .pointer (some ⟨w7.heap.size, 0, none⟩)), (3, .int .i64 0), (2, .pointer (some ⟨w1.heap.size, 0, none⟩))]) rfl ?_
        refine W.iteB (b := !(decide (o.kind = o.kind) && (decide (a = (0 : Int)) && (decide (b = (0 : Int)) && (decide (d = (0 : Int)) && (decide ((⟨#[]⟩ : ByteArray) = ⟨#[]⟩))))))) rfl (fun c97 => ?_) (fun c97 => ?_)
        · skip
          refine W.seq ?_
          refine W.region ?_
          refine WL.op rfl (d_build (cs := #[.slice none 0 0, .string ⟨#[]⟩]) rfl (by kernel_rfl) ?_)
          refine WL.op0 (d_storeAB (us := [.slice none 0 0, .string ⟨#[]⟩]) (cs' := #[.slice none 0 0, .string ⟨#[]⟩]) sz53 rfl rfl rfl rfl (H35.blk 1 rfl) rfl rfl fun w36 u32 => ?_)
          have H36 : UpG w [] w36 [[blk w.heap.size #[.int .i64 o.kind, .int .i64 o.slot, .int .i64 o.at_, .int .i64 o.len, .string o.text] 55], [blk w1.heap.size #[.slice none 0 0, .string ⟨#[]⟩] 53], [blk w3.heap.size #[.string ((opRowAt o.kind).name), .string ((opRowAt o.kind).nums), .bool ((opRowAt o.kind).text)] 87], [rowT (tyI .i64) (.slice la l.length lc) 3 l], [blk w7.heap.size #[.slice la l.length lc, .string o.text] 53], [blk w9.heap.size #[.int .i64 o.kind, .int .i64 a, .int .i64 b, .int .i64 d, .string ⟨#[]⟩] 55]] := H35.on 1 rfl u32
          refine WL.op rfl (d_assign rfl ?_)
          refine WL.done (X.then_code ?_)
          refine W.ret (X.block_ret (X.then_ret (X.retR2 rfl (rv_cellA [.slice none 0 0, .string ⟨#[]⟩] Try.underlying53 rfl sz53 rfl (H36.blk 1 rfl) rfl rfl) (rv_tmp rfl) ?_)))
          rw [hb] at c97
          have e : rawR o = (raw0, 3) := by unfold rawR; rw [if_neg (by rw [hok]; simp), if_pos (by simpa using c97)]
          rw [e]
          exact ⟨none, 0, (by rfl), nilOwn H36⟩
        · skip
          refine W.seq ?_
          rw [hb] at c97
          have hnb : ¬ bad3 o := by simpa using c97
          have hnt : (opRowAt o.kind).text = true ∨ o.text = ⟨#[]⟩ := by rw [hrt]; rcases h : cT o.kind with _ | _; exact .inr (size_nil fun h9 => hnb (.inr (.inr (.inr ⟨h, h9⟩)))); exact .inl rfl
          refine W.region ?_
          refine WL.op rfl (d_fieldAddrB fld53_1 rfl rfl ?_)
          refine WL.op rfl (d_loadB Try.underlying9 rfl rfl (H35.blk 4 rfl) rfl ?_)
          refine WL.op rfl (d_lenStr Try.underlying9 rfl ?_)
          refine WL.op rfl (d_cmp (decide (((o.text.size : Nat) : Int) > (1048576 : Int))) rfl rfl rfl ?_)
          refine WL.op rfl (d_assign rfl ?_)
          refine WL.done (X.then_code ?_)
          refine W.ite (p := ((o.text.size : Nat) : Int) > (1048576 : Int)) rfl (fun c99 => ?_) (fun c99 => ?_)
          · skip
            refine W.seq ?_
            refine W.region ?_
            refine WL.op rfl (d_build (cs := #[.slice none 0 0, .string ⟨#[]⟩]) rfl (by kernel_rfl) ?_)
            refine WL.op0 (d_storeAB (us := [.slice none 0 0, .string ⟨#[]⟩]) (cs' := #[.slice none 0 0, .string ⟨#[]⟩]) sz53 rfl rfl rfl rfl (H35.blk 1 rfl) rfl rfl fun w37 u33 => ?_)
            have H37 : UpG w [] w37 [[blk w.heap.size #[.int .i64 o.kind, .int .i64 o.slot, .int .i64 o.at_, .int .i64 o.len, .string o.text] 55], [blk w1.heap.size #[.slice none 0 0, .string ⟨#[]⟩] 53], [blk w3.heap.size #[.string ((opRowAt o.kind).name), .string ((opRowAt o.kind).nums), .bool ((opRowAt o.kind).text)] 87], [rowT (tyI .i64) (.slice la l.length lc) 3 l], [blk w7.heap.size #[.slice la l.length lc, .string o.text] 53], [blk w9.heap.size #[.int .i64 o.kind, .int .i64 a, .int .i64 b, .int .i64 d, .string ⟨#[]⟩] 55]] := H35.on 1 rfl u33
            refine WL.op rfl (d_assign rfl ?_)
            refine WL.done (X.then_code ?_)
            refine W.ret (X.block_ret (X.then_ret (X.retR2 rfl (rv_cellA [.slice none 0 0, .string ⟨#[]⟩] Try.underlying53 rfl sz53 rfl (H37.blk 1 rfl) rfl rfl) (rv_tmp rfl) ?_)))
            have e : rawR o = (raw0, 4) := by unfold rawR; rw [if_neg (by rw [hok]; simp), if_neg hnb, if_pos (by first | omega | exact absurd c99 (by decide))]
            rw [e]
            exact ⟨none, 0, (by rfl), nilOwn H37⟩
          · skip
            refine W.skip (X.block_normal (X.then_code ?_))
            refine W.seq ?_
            refine W.region ?_
            refine WL.op rfl (d_loadAB [.slice la l.length lc, .string o.text] Try.underlying53 rfl sz53 rfl (H35.blk 4 rfl) rfl rfl ?_)
            refine WL.op0 (d_storeAB (us := [.slice la l.length lc, .string o.text]) (cs' := #[.slice la l.length lc, .string o.text]) sz53 rfl rfl rfl rfl (H35.blk 1 rfl) rfl rfl fun w38 u34 => ?_)
            have H38 : UpG w [] w38 [[blk w.heap.size #[.int .i64 o.kind, .int .i64 o.slot, .int .i64 o.at_, .int .i64 o.len, .string o.text] 55], [blk w1.heap.size #[.slice la l.length lc, .string o.text] 53], [blk w3.heap.size #[.string ((opRowAt o.kind).name), .string ((opRowAt o.kind).nums), .bool ((opRowAt o.kind).text)] 87], [rowT (tyI .i64) (.slice la l.length lc) 3 l], [blk w7.heap.size #[.slice la l.length lc, .string o.text] 53], [blk w9.heap.size #[.int .i64 o.kind, .int .i64 a, .int .i64 b, .int .i64 d, .string ⟨#[]⟩] 55]] := H35.on 1 rfl u34
            refine WL.op rfl (d_assign rfl ?_)
            refine WL.done (X.then_code ?_)
            refine W.ret (X.retR2 rfl (rv_cellA [.slice la l.length lc, .string o.text] Try.underlying53 rfl sz53 rfl (H38.blk 1 rfl) rfl rfl) (rv_tmp rfl) ?_)
            have e : rawR o = (⟨l, o.text⟩, 0) := by unfold rawR; rw [if_neg (by rw [hok]; simp), if_neg hnb, if_neg (by first | omega | (rw [hnt.resolve_left c93]; decide)), ← hl2]
            rw [e]
            try rw [hnt.resolve_left c93]
            exact ⟨la, lc, (by rfl), (by have hh := H38.one 3 rfl; exact hh)⟩
      · skip
        have hb := rest_bad (o := o) (x := o.text) z1 z2 z3 (by rw [← hrt, if_neg c93])
        refine W.skip (X.then_code ?_)
        refine W.seq ?_
        refine W.block ?_
        refine W.seq ?_
        refine W.region ?_
        refine WL.op rfl (d_loadAB [.int .i64 o.kind, .int .i64 a, .int .i64 b, .int .i64 d, .string o.text] Try.underlying55 rfl sz55 rfl (H12.blk 5 rfl) rfl rfl ?_)
        refine WL.op rfl (d_fieldAddrB fld55_0 rfl rfl ?_)
        refine WL.op rfl (d_loadB Try.underlying3 rfl rfl (H12.blk 0 rfl) rfl ?_)
        refine WL.op rfl (d_build (cs := #[.int .i64 o.kind, .int .i64 0, .int .i64 0, .int .i64 0, .string ⟨#[]⟩]) rfl (by kernel_rfl) ?_)
        refine WL.op rfl (d_aggne [.int .i64 o.kind, .int .i64 a, .int .i64 b, .int .i64 d, .string o.text] [.int .i64 o.kind, .int .i64 0, .int .i64 0, .int .i64 0, .string ⟨#[]⟩] rfl rfl (by kernel_rfl) (by kernel_rfl) (by kernel_rfl) (by kernel_rfl) ?_)
        refine WL.op rfl (d_assign rfl ?_)
        refine WL.done (X.then_code ?_)
        refine W.pick [54, 6, 3, 2] (Γ' := [(54, .bool (!(decide (o.kind = o.kind) && (decide (a = (0 : Int)) && (decide (b = (0 : Int)) && (decide (d = (0 : Int)) && (decide (o.text = ⟨#[]⟩)))))))), (6, .pointer (some ⟨w7.heap.size, 0, none⟩)), (3, .int .i64 0), (2, .pointer (some ⟨w1.heap.size, 0, none⟩))]) rfl ?_
        refine W.iteB (b := !(decide (o.kind = o.kind) && (decide (a = (0 : Int)) && (decide (b = (0 : Int)) && (decide (d = (0 : Int)) && (decide (o.text = ⟨#[]⟩))))))) rfl (fun c97 => ?_) (fun c97 => ?_)
        · skip
          refine W.seq ?_
          refine W.region ?_
          refine WL.op rfl (d_build (cs := #[.slice none 0 0, .string ⟨#[]⟩]) rfl (by kernel_rfl) ?_)
          refine WL.op0 (d_storeAB (us := [.slice none 0 0, .string ⟨#[]⟩]) (cs' := #[.slice none 0 0, .string ⟨#[]⟩]) sz53 rfl rfl rfl rfl (H12.blk 1 rfl) rfl rfl fun w39 u35 => ?_)
          have H39 : UpG w [] w39 [[blk w.heap.size #[.int .i64 o.kind, .int .i64 o.slot, .int .i64 o.at_, .int .i64 o.len, .string o.text] 55], [blk w1.heap.size #[.slice none 0 0, .string ⟨#[]⟩] 53], [blk w3.heap.size #[.string ((opRowAt o.kind).name), .string ((opRowAt o.kind).nums), .bool ((opRowAt o.kind).text)] 87], [rowT (tyI .i64) (.slice la l.length lc) 3 l], [blk w7.heap.size #[.slice la l.length lc, .string ⟨#[]⟩] 53], [blk w9.heap.size #[.int .i64 o.kind, .int .i64 a, .int .i64 b, .int .i64 d, .string o.text] 55]] := H12.on 1 rfl u35
          refine WL.op rfl (d_assign rfl ?_)
          refine WL.done (X.then_code ?_)
          refine W.ret (X.block_ret (X.then_ret (X.retR2 rfl (rv_cellA [.slice none 0 0, .string ⟨#[]⟩] Try.underlying53 rfl sz53 rfl (H39.blk 1 rfl) rfl rfl) (rv_tmp rfl) ?_)))
          rw [hb] at c97
          have e : rawR o = (raw0, 3) := by unfold rawR; rw [if_neg (by rw [hok]; simp), if_pos (by simpa using c97)]
          rw [e]
          exact ⟨none, 0, (by rfl), nilOwn H39⟩
        · skip
          refine W.seq ?_
          rw [hb] at c97
          have hnb : ¬ bad3 o := by simpa using c97
          have hnt : (opRowAt o.kind).text = true ∨ o.text = ⟨#[]⟩ := by rw [hrt]; rcases h : cT o.kind with _ | _; exact .inr (size_nil fun h9 => hnb (.inr (.inr (.inr ⟨h, h9⟩)))); exact .inl rfl
          refine W.region ?_
          refine WL.op rfl (d_fieldAddrB fld53_1 rfl rfl ?_)
          refine WL.op rfl (d_loadB Try.underlying9 rfl rfl (H12.blk 4 rfl) rfl ?_)
          refine WL.op rfl (d_lenStr Try.underlying9 rfl ?_)
          refine WL.op rfl (d_cmp (decide ((((⟨#[]⟩ : ByteArray).size : Nat) : Int) > (1048576 : Int))) rfl rfl rfl ?_)
          refine WL.op rfl (d_assign rfl ?_)
          refine WL.done (X.then_code ?_)
          refine W.ite (p := (((⟨#[]⟩ : ByteArray).size : Nat) : Int) > (1048576 : Int)) rfl (fun c99 => ?_) (fun c99 => ?_)
          · skip
            refine W.seq ?_
            refine W.region ?_
            refine WL.op rfl (d_build (cs := #[.slice none 0 0, .string ⟨#[]⟩]) rfl (by kernel_rfl) ?_)
            refine WL.op0 (d_storeAB (us := [.slice none 0 0, .string ⟨#[]⟩]) (cs' := #[.slice none 0 0, .string ⟨#[]⟩]) sz53 rfl rfl rfl rfl (H12.blk 1 rfl) rfl rfl fun w40 u36 => ?_)
            have H40 : UpG w [] w40 [[blk w.heap.size #[.int .i64 o.kind, .int .i64 o.slot, .int .i64 o.at_, .int .i64 o.len, .string o.text] 55], [blk w1.heap.size #[.slice none 0 0, .string ⟨#[]⟩] 53], [blk w3.heap.size #[.string ((opRowAt o.kind).name), .string ((opRowAt o.kind).nums), .bool ((opRowAt o.kind).text)] 87], [rowT (tyI .i64) (.slice la l.length lc) 3 l], [blk w7.heap.size #[.slice la l.length lc, .string ⟨#[]⟩] 53], [blk w9.heap.size #[.int .i64 o.kind, .int .i64 a, .int .i64 b, .int .i64 d, .string o.text] 55]] := H12.on 1 rfl u36
            refine WL.op rfl (d_assign rfl ?_)
            refine WL.done (X.then_code ?_)
            refine W.ret (X.block_ret (X.then_ret (X.retR2 rfl (rv_cellA [.slice none 0 0, .string ⟨#[]⟩] Try.underlying53 rfl sz53 rfl (H40.blk 1 rfl) rfl rfl) (rv_tmp rfl) ?_)))
            have e : rawR o = (raw0, 4) := by unfold rawR; rw [if_neg (by rw [hok]; simp), if_neg hnb, if_pos (by first | omega | exact absurd c99 (by decide))]
            rw [e]
            exact ⟨none, 0, (by rfl), nilOwn H40⟩
          · skip
            refine W.skip (X.block_normal (X.then_code ?_))
            refine W.seq ?_
            refine W.region ?_
            refine WL.op rfl (d_loadAB [.slice la l.length lc, .string ⟨#[]⟩] Try.underlying53 rfl sz53 rfl (H12.blk 4 rfl) rfl rfl ?_)
            refine WL.op0 (d_storeAB (us := [.slice la l.length lc, .string ⟨#[]⟩]) (cs' := #[.slice la l.length lc, .string ⟨#[]⟩]) sz53 rfl rfl rfl rfl (H12.blk 1 rfl) rfl rfl fun w41 u37 => ?_)
            have H41 : UpG w [] w41 [[blk w.heap.size #[.int .i64 o.kind, .int .i64 o.slot, .int .i64 o.at_, .int .i64 o.len, .string o.text] 55], [blk w1.heap.size #[.slice la l.length lc, .string ⟨#[]⟩] 53], [blk w3.heap.size #[.string ((opRowAt o.kind).name), .string ((opRowAt o.kind).nums), .bool ((opRowAt o.kind).text)] 87], [rowT (tyI .i64) (.slice la l.length lc) 3 l], [blk w7.heap.size #[.slice la l.length lc, .string ⟨#[]⟩] 53], [blk w9.heap.size #[.int .i64 o.kind, .int .i64 a, .int .i64 b, .int .i64 d, .string o.text] 55]] := H12.on 1 rfl u37
            refine WL.op rfl (d_assign rfl ?_)
            refine WL.done (X.then_code ?_)
            refine W.ret (X.retR2 rfl (rv_cellA [.slice la l.length lc, .string ⟨#[]⟩] Try.underlying53 rfl sz53 rfl (H41.blk 1 rfl) rfl rfl) (rv_tmp rfl) ?_)
            have e : rawR o = (⟨l, o.text⟩, 0) := by unfold rawR; rw [if_neg (by rw [hok]; simp), if_neg hnb, if_neg (by first | omega | (rw [hnt.resolve_left c93]; decide)), ← hl2]
            rw [e]
            try rw [hnt.resolve_left c93]
            exact ⟨la, lc, (by rfl), (by have hh := H41.one 3 rfl; exact hh)⟩

set_option maxRecDepth 20000 in
theorem refRaw_any (o : OpD) (w : World) :
    Calls Try.prog 29 #[.agg #[.int .i64 o.kind, .int .i64 o.slot, .int .i64 o.at_, .int .i64 o.len, .string o.text]] w (Ret fun v w' => ∃ ra2 : Option Addr, ∃ rc2 : Nat, v = .tuple #[.agg #[.slice ra2 (((rawR o).1.nums).length) rc2, .string ((rawR o).1.text)], .int .i64 ((rawR o).2)] ∧ Upd w [] w' [rowT (tyI .i64) (.slice ra2 (((rawR o).1.nums).length) rc2) 3 ((rawR o).1.nums)]) := by
  refine calls_of_W (args := [.agg #[.int .i64 o.kind, .int .i64 o.slot, .int .i64 o.at_, .int .i64 o.len, .string o.text]]) Try.func29 rfl rfl rfl ?_
  have H0 : UpG w [] w [] := UpG.nil w
  show W _ _ _ _ [(0, .agg #[.int .i64 o.kind, .int .i64 o.slot, .int .i64 o.at_, .int .i64 o.len, .string o.text])] w
  refine W.seq ?_
  refine W.region ?_
  refine WL.op rfl (d_box rfl fun w1 u1 => ?_)
  have H1 : UpG w [] w1 [[blk w.heap.size #[.int .i64 o.kind, .int .i64 o.slot, .int .i64 o.at_, .int .i64 o.len, .string o.text] 55]] := H0.new' u1
  refine WL.op rfl (d_alloc sz53 fun w2 u2 => ?_)
  have H2 : UpG w [] w2 [[blk w.heap.size #[.int .i64 o.kind, .int .i64 o.slot, .int .i64 o.at_, .int .i64 o.len, .string o.text] 55], [blk w1.heap.size #[.slice none 0 0, .string ⟨#[]⟩] 53]] := H1.new' u2
  refine WL.op rfl (d_assign rfl ?_)
  refine WL.done (X.then_code ?_)
  refine W.seq ?_
  refine W.seq ?_
  refine W.region ?_
  refine WL.op rfl (d_fieldAddrB fld55_0 rfl rfl ?_)
  refine WL.op rfl (d_loadB Try.underlying3 rfl rfl (H2.blk 0 rfl) rfl ?_)
  refine WL.op rfl (d_cmp (decide (o.kind < (1 : Int))) rfl rfl rfl ?_)
  refine WL.op rfl (d_move rfl ?_)
  refine WL.part 11 (p := o.kind < (1 : Int)) rfl (fun g47 => ?_) (fun g47 => ?_)
  · skip
    refine WL.opN rfl rfl rfl rfl ?_
    refine WL.opN rfl rfl rfl rfl ?_
    refine WL.opN rfl rfl rfl rfl ?_
    refine WL.op rfl (d_pick rfl rfl ?_)
    refine WL.done (X.then_code ?_)
    refine W.ift rfl ?_
    refine W.seq ?_
    refine W.region ?_
    refine WL.op rfl (d_build (cs := #[.slice none 0 0, .string ⟨#[]⟩]) rfl (by kernel_rfl) ?_)
    refine WL.op0 (d_storeAB (us := [.slice none 0 0, .string ⟨#[]⟩]) (cs' := #[.slice none 0 0, .string ⟨#[]⟩]) sz53 rfl rfl rfl rfl (H2.blk 1 rfl) rfl rfl fun w3 u3 => ?_)
    have H3 : UpG w [] w3 [[blk w.heap.size #[.int .i64 o.kind, .int .i64 o.slot, .int .i64 o.at_, .int .i64 o.len, .string o.text] 55], [blk w1.heap.size #[.slice none 0 0, .string ⟨#[]⟩] 53]] := H2.on 1 rfl u3
    refine WL.op rfl (d_assign rfl ?_)
    refine WL.done (X.then_code ?_)
    refine W.ret (X.then_ret (X.retR2 rfl (rv_cellA [.slice none 0 0, .string ⟨#[]⟩] Try.underlying53 rfl sz53 rfl (H3.blk 1 rfl) rfl rfl) (rv_tmp rfl) ?_))
    have e : rawR o = (raw0, 9) := by unfold rawR; rw [if_pos (by simp only [okK, decide_eq_false_iff_not]; omega)]
    rw [e]
    exact ⟨none, 0, (by rfl), nilOwn H3⟩
  · skip
    refine WL.opG rfl rfl rfl (d_fieldAddrB fld55_0 rfl rfl ?_)
    refine WL.opG rfl rfl rfl (d_loadB Try.underlying3 rfl rfl (H2.blk 0 rfl) rfl ?_)
    refine WL.opG rfl rfl rfl (d_cmp (decide (o.kind > (24 : Int))) rfl rfl rfl ?_)
    refine WL.op rfl (d_pick rfl rfl ?_)
    refine WL.done (X.then_code ?_)
    refine W.ite (p := o.kind > (24 : Int)) rfl (fun c47 => ?_) (fun c47 => ?_)
    · skip
      refine W.seq ?_
      refine W.region ?_
      refine WL.op rfl (d_build (cs := #[.slice none 0 0, .string ⟨#[]⟩]) rfl (by kernel_rfl) ?_)
      refine WL.op0 (d_storeAB (us := [.slice none 0 0, .string ⟨#[]⟩]) (cs' := #[.slice none 0 0, .string ⟨#[]⟩]) sz53 rfl rfl rfl rfl (H2.blk 1 rfl) rfl rfl fun w4 u4 => ?_)
      have H4 : UpG w [] w4 [[blk w.heap.size #[.int .i64 o.kind, .int .i64 o.slot, .int .i64 o.at_, .int .i64 o.len, .string o.text] 55], [blk w1.heap.size #[.slice none 0 0, .string ⟨#[]⟩] 53]] := H2.on 1 rfl u4
      refine WL.op rfl (d_assign rfl ?_)
      refine WL.done (X.then_code ?_)
      refine W.ret (X.then_ret (X.retR2 rfl (rv_cellA [.slice none 0 0, .string ⟨#[]⟩] Try.underlying53 rfl sz53 rfl (H4.blk 1 rfl) rfl rfl) (rv_tmp rfl) ?_))
      have e : rawR o = (raw0, 9) := by unfold rawR; rw [if_pos (by simp only [okK, decide_eq_false_iff_not]; omega)]
      rw [e]
      exact ⟨none, 0, (by rfl), nilOwn H4⟩
    · skip
      refine W.skip (X.then_code ?_)
      refine W.seq ?_
      have hok : okK o.kind = true := by simp only [okK, decide_eq_true_eq]; omega
      refine W.region ?_
      refine WL.op rfl (d_fieldAddrB fld55_0 rfl rfl ?_)
      refine WL.op rfl (d_loadB Try.underlying3 rfl rfl (H2.blk 0 rfl) rfl ?_)
      refine WL.op rfl (d_call ok52 rfl (Ret.calls (counts_any o.kind w2  ) fun _ w5 p1 => ?_))
      obtain ⟨rfl, u5⟩ := p1
      have H5 : UpG w [] w5 [[blk w.heap.size #[.int .i64 o.kind, .int .i64 o.slot, .int .i64 o.at_, .int .i64 o.len, .string o.text] 55], [blk w1.heap.size #[.slice none 0 0, .string ⟨#[]⟩] 53]] := H2.call u5
      refine WL.op rfl (d_alloc sz93 fun w6 u6 => ?_)
      have H6 : UpG w [] w6 [[blk w.heap.size #[.int .i64 o.kind, .int .i64 o.slot, .int .i64 o.at_, .int .i64 o.len, .string o.text] 55], [blk w1.heap.size #[.slice none 0 0, .string ⟨#[]⟩] 53], [blk w5.heap.size #[.bool false, .bool false, .bool false, .bool false] 93]] := H5.new' u6
      refine WL.op0 (d_storeAB (us := [.bool (cS o.kind), .bool (cA o.kind), .bool (cL o.kind), .bool (cT o.kind)]) (cs' := #[.bool (cS o.kind), .bool (cA o.kind), .bool (cL o.kind), .bool (cT o.kind)]) sz93 rfl rfl rfl rfl (H6.blk 2 rfl) rfl rfl fun w7 u7 => ?_)
      have H7 : UpG w [] w7 [[blk w.heap.size #[.int .i64 o.kind, .int .i64 o.slot, .int .i64 o.at_, .int .i64 o.len, .string o.text] 55], [blk w1.heap.size #[.slice none 0 0, .string ⟨#[]⟩] 53], [blk w5.heap.size #[.bool (cS o.kind), .bool (cA o.kind), .bool (cL o.kind), .bool (cT o.kind)] 93]] := H6.on 2 rfl u7
      refine WL.done (X.then_code ?_)
      refine W.seq ?_
      refine W.region ?_
      refine WL.op rfl (d_fieldAddrB fld55_1 rfl rfl ?_)
      refine WL.op rfl (d_loadB Try.underlying3 rfl rfl (H7.blk 0 rfl) rfl ?_)
      refine WL.op rfl (d_fieldAddrB fld55_2 rfl rfl ?_)
      refine WL.op rfl (d_loadB Try.underlying3 rfl rfl (H7.blk 0 rfl) rfl ?_)
      refine WL.op rfl (d_fieldAddrB fld55_3 rfl rfl ?_)
      refine WL.op rfl (d_loadB Try.underlying3 rfl rfl (H7.blk 0 rfl) rfl ?_)
      refine WL.op rfl (t_buildSlice (T := (tyI .i64)) (xs := [o.slot, o.at_, o.len]) (cs := #[.int .i64 o.slot, .int .i64 o.at_, .int .i64 o.len]) rfl Try.underlying51 sz3 rfl rfl rfl rfl (by kernel_rfl) rfl rfl fun w8 u8 => ?_)
      have H8 : UpG w [] w8 [[blk w.heap.size #[.int .i64 o.kind, .int .i64 o.slot, .int .i64 o.at_, .int .i64 o.len, .string o.text] 55], [blk w1.heap.size #[.slice none 0 0, .string ⟨#[]⟩] 53], [blk w5.heap.size #[.bool (cS o.kind), .bool (cA o.kind), .bool (cL o.kind), .bool (cT o.kind)] 93], [rowT (tyI .i64) (.slice (some ⟨w7.heap.size, 0, none⟩) ([o.slot, o.at_, o.len].length) ([o.slot, o.at_, o.len].length)) 3 [o.slot, o.at_, o.len]]] := H7.new' u8
      refine WL.op rfl (d_assign rfl ?_)
      refine WL.done (X.then_code ?_)
      refine W.pick [5, 4, 3, 2, 1] (Γ' := [(5, .slice (some ⟨w7.heap.size, 0, none⟩) ([o.slot, o.at_, o.len].length) ([o.slot, o.at_, o.len].length)), (4, .pointer (some ⟨w5.heap.size, 0, none⟩)), (3, .int .i64 0), (2, .pointer (some ⟨w1.heap.size, 0, none⟩)), (1, .pointer (some ⟨w.heap.size, 0, none⟩))]) rfl ?_
      refine W.seq ?_
      refine W.region ?_
      refine WL.op rfl (d_fieldAddrB fld55_0 rfl rfl ?_)
      refine WL.op rfl (d_loadB Try.underlying3 rfl rfl (H8.blk 0 rfl) rfl ?_)
      refine WL.op rfl (t_buildSlice (T := (tyI .i64)) (xs := [o.kind]) (cs := #[.int .i64 o.kind]) rfl Try.underlying51 sz3 rfl rfl rfl rfl (by kernel_rfl) rfl rfl fun w9 u9 => ?_)
      have H9 : UpG w [] w9 [[blk w.heap.size #[.int .i64 o.kind, .int .i64 o.slot, .int .i64 o.at_, .int .i64 o.len, .string o.text] 55], [blk w1.heap.size #[.slice none 0 0, .string ⟨#[]⟩] 53], [blk w5.heap.size #[.bool (cS o.kind), .bool (cA o.kind), .bool (cL o.kind), .bool (cT o.kind)] 93], [rowT (tyI .i64) (.slice (some ⟨w7.heap.size, 0, none⟩) ([o.slot, o.at_, o.len].length) ([o.slot, o.at_, o.len].length)) 3 [o.slot, o.at_, o.len]], [rowT (tyI .i64) (.slice (some ⟨w8.heap.size, 0, none⟩) ([o.kind].length) ([o.kind].length)) 3 [o.kind]]] := H8.new' u9
      refine WL.op rfl (d_fieldAddrB fld55_4 rfl rfl ?_)
      refine WL.op rfl (d_loadB Try.underlying9 rfl rfl (H9.blk 0 rfl) rfl ?_)
      refine WL.op rfl (d_build (cs := #[.slice (some ⟨w8.heap.size, 0, none⟩) ([o.kind].length) ([o.kind].length), .string o.text]) rfl (by kernel_rfl) ?_)
      refine WL.op rfl (d_alloc sz53 fun w10 u10 => ?_)
      have H10 : UpG w [] w10 [[blk w.heap.size #[.int .i64 o.kind, .int .i64 o.slot, .int .i64 o.at_, .int .i64 o.len, .string o.text] 55], [blk w1.heap.size #[.slice none 0 0, .string ⟨#[]⟩] 53], [blk w5.heap.size #[.bool (cS o.kind), .bool (cA o.kind), .bool (cL o.kind), .bool (cT o.kind)] 93], [rowT (tyI .i64) (.slice (some ⟨w7.heap.size, 0, none⟩) ([o.slot, o.at_, o.len].length) ([o.slot, o.at_, o.len].length)) 3 [o.slot, o.at_, o.len]], [rowT (tyI .i64) (.slice (some ⟨w8.heap.size, 0, none⟩) ([o.kind].length) ([o.kind].length)) 3 [o.kind]], [blk w9.heap.size #[.slice none 0 0, .string ⟨#[]⟩] 53]] := H9.new' u10
      refine WL.op0 (d_storeAB (us := [.slice (some ⟨w8.heap.size, 0, none⟩) ([o.kind].length) ([o.kind].length), .string o.text]) (cs' := #[.slice (some ⟨w8.heap.size, 0, none⟩) ([o.kind].length) ([o.kind].length), .string o.text]) sz53 rfl rfl rfl rfl (H10.blk 5 rfl) rfl rfl fun w11 u11 => ?_)
      have H11 : UpG w [] w11 [[blk w.heap.size #[.int .i64 o.kind, .int .i64 o.slot, .int .i64 o.at_, .int .i64 o.len, .string o.text] 55], [blk w1.heap.size #[.slice none 0 0, .string ⟨#[]⟩] 53], [blk w5.heap.size #[.bool (cS o.kind), .bool (cA o.kind), .bool (cL o.kind), .bool (cT o.kind)] 93], [rowT (tyI .i64) (.slice (some ⟨w7.heap.size, 0, none⟩) ([o.slot, o.at_, o.len].length) ([o.slot, o.at_, o.len].length)) 3 [o.slot, o.at_, o.len]], [rowT (tyI .i64) (.slice (some ⟨w8.heap.size, 0, none⟩) ([o.kind].length) ([o.kind].length)) 3 [o.kind]], [blk w9.heap.size #[.slice (some ⟨w8.heap.size, 0, none⟩) ([o.kind].length) ([o.kind].length), .string o.text] 53]] := H10.on 5 rfl u11
      refine WL.done (X.then_code ?_)
      refine W.seq ?_
      refine W.seq ?_
      refine W.region ?_
      refine WL.op rfl (d_assign rfl ?_)
      refine WL.done (X.then_code ?_)
      refine W.block ?_
      refine W.pick [7, 6, 5, 4, 3, 2, 1] (Γ' := [(7, .int .i64 0), (6, .pointer (some ⟨w9.heap.size, 0, none⟩)), (5, .slice (some ⟨w7.heap.size, 0, none⟩) ([o.slot, o.at_, o.len].length) ([o.slot, o.at_, o.len].length)), (4, .pointer (some ⟨w5.heap.size, 0, none⟩)), (3, .int .i64 0), (2, .pointer (some ⟨w1.heap.size, 0, none⟩)), (1, .pointer (some ⟨w.heap.size, 0, none⟩))]) rfl ?_
      refine W.loop (fun m Γ' w' => ∃ i : Nat, ∃ l : List Int, ∃ la : Option Addr, ∃ lc : Nat, Γ' = [(7, .int .i64 ((i : Nat) : Int)), (6, .pointer (some ⟨w9.heap.size, 0, none⟩)), (5, .slice (some ⟨w7.heap.size, 0, none⟩) ([o.slot, o.at_, o.len].length) ([o.slot, o.at_, o.len].length)), (4, .pointer (some ⟨w5.heap.size, 0, none⟩)), (3, .int .i64 0), (2, .pointer (some ⟨w1.heap.size, 0, none⟩)), (1, .pointer (some ⟨w.heap.size, 0, none⟩))] ∧ UpG w [] w' [[blk w.heap.size #[.int .i64 o.kind, .int .i64 o.slot, .int .i64 o.at_, .int .i64 o.len, .string o.text] 55], [blk w1.heap.size #[.slice none 0 0, .string ⟨#[]⟩] 53], [blk w5.heap.size #[.bool (cS o.kind), .bool (cA o.kind), .bool (cL o.kind), .bool (cT o.kind)] 93], [rowT (tyI .i64) (.slice (some ⟨w7.heap.size, 0, none⟩) ([o.slot, o.at_, o.len].length) ([o.slot, o.at_, o.len].length)) 3 [o.slot, o.at_, o.len]], [rowT (tyI .i64) (.slice la l.length lc) 3 l], [blk w9.heap.size #[.slice la l.length lc, .string o.text] 53]] ∧ (i ≤ 3) ∧ (RH o i l) ∧ m = 3 - i) (3 - 0) ⟨0, [o.kind], (some ⟨w8.heap.size, 0, none⟩), [o.kind].length, rfl, H11, (by first | assumption | omega | simp), (by exact RH.start o), rfl⟩ ?_
      rintro m1 Γ1 w12 ⟨i, l, la, lc, rfl, H12, hi, ht, rfl⟩
      have hll := ht.len
      rcases (by omega : i = 0 ∨ i = 1 ∨ i = 2 ∨ i = 3) with rfl | rfl | rfl | rfl
      · skip
        refine W.seq ?_
        refine W.seq ?_
        refine W.region ?_
        refine WL.op rfl (d_move rfl ?_)
        refine WL.op rfl (d_cmp true rfl rfl rfl ?_)
        refine WL.done (X.then_code ?_)
        refine W.ift rfl ?_
        refine W.skip (X.then_code ?_)
        refine W.seq ?_
        refine W.block ?_
        refine W.seq ?_
        refine W.region ?_
        refine WL.op rfl (d_move rfl ?_)
        refine WL.op rfl (d_idxAddrArr Try.underlying93 sz4 rfl rfl (by omega) (by omega) ?_)
        refine WL.op rfl (d_loadB Try.underlying4 rfl rfl (H12.blk 2 rfl) rfl ?_)
        refine WL.done (X.then_code ?_)
        refine W.iteB (b := cS o.kind) rfl (fun c54 => ?_) (fun c54 => ?_)
        · skip
          refine W.regionD mixed (by kernel_rfl) fun hok1 w13 k1 => ?_
          have H13 : UpG w [] w13 [[blk w.heap.size #[.int .i64 o.kind, .int .i64 o.slot, .int .i64 o.at_, .int .i64 o.len, .string o.text] 55], [blk w1.heap.size #[.slice none 0 0, .string ⟨#[]⟩] 53], [blk w5.heap.size #[.bool (cS o.kind), .bool (cA o.kind), .bool (cL o.kind), .bool (cT o.kind)] 93], [rowT (tyI .i64) (.slice (some ⟨w7.heap.size, 0, none⟩) ([o.slot, o.at_, o.len].length) ([o.slot, o.at_, o.len].length)) 3 [o.slot, o.at_, o.len]], [rowT (tyI .i64) (.slice la l.length lc) 3 l], [blk w9.heap.size #[.slice la l.length lc, .string o.text] 53]] := H12.kept k1
          refine WD.take hok1 0 (.pointer (some ⟨w9.heap.size, 0, none⟩)) (fun _ => True) rfl rfl rfl rfl rfl trivial (.inl ⟨rfl, fun _ _ => d_fieldAddrB fld53_0 rfl rfl ⟨rfl, rfl⟩⟩) ?_
          refine WD.take hok1 1 (.slice la l.length lc) (fun w' => w'.heap[w9.heap.size]? = some (.cells #[.slice la l.length lc, .string o.text] 53 (0, 0))) rfl rfl rfl rfl rfl (H13.blk 5 rfl) (.inl ⟨rfl, fun _ hC => d_loadB Try.underlying51 rfl rfl hC rfl ⟨rfl, rfl⟩⟩) ?_
          refine WD.take hok1 2 (.slice (some ⟨w7.heap.size, 0, none⟩) ([o.slot, o.at_, o.len].length) ([o.slot, o.at_, o.len].length)) (fun _ => True) rfl rfl rfl rfl rfl trivial (.inl ⟨rfl, fun _ _ => d_move rfl ⟨rfl, rfl⟩⟩) ?_
          refine WD.take hok1 3 (.int .i64 ((0 : Nat) : Int)) (fun _ => True) rfl rfl rfl rfl rfl trivial (.inl ⟨rfl, fun _ _ => d_move rfl ⟨rfl, rfl⟩⟩) ?_
          refine WD.take hok1 4 (elemPtr (.slice (some ⟨w7.heap.size, 0, none⟩) ([o.slot, o.at_, o.len].length) ([o.slot, o.at_, o.len].length)) 0) (fun w' => RdT (tyI .i64) w' (.slice (some ⟨w7.heap.size, 0, none⟩) ([o.slot, o.at_, o.len].length) ([o.slot, o.at_, o.len].length)) [o.slot, o.at_, o.len]) rfl rfl rfl rfl rfl (H13.rdT 3 rfl) (.inl ⟨rfl, fun _ hC => t_addr1 0 (T := (tyI .i64)) rfl Try.underlying51 sz3 rfl rfl hC rfl (by simp) ⟨rfl, rfl⟩⟩) ?_
          refine WD.take hok1 5 (.int .i64 ([o.slot, o.at_, o.len].getD 0 0)) (fun w' => RdT (tyI .i64) w' (.slice (some ⟨w7.heap.size, 0, none⟩) ([o.slot, o.at_, o.len].length) ([o.slot, o.at_, o.len].length)) [o.slot, o.at_, o.len]) rfl rfl rfl rfl rfl (H13.rdT 3 rfl) (.inl ⟨rfl, fun _ hC => t_load1 0 0 (T := (tyI .i64)) rfl Try.underlying3 rfl rfl hC (by simp) rfl ⟨rfl, rfl⟩⟩) ?_
          refine WD.loud hok1 6 rfl (⟨_, [⟨1, .slice la l.length lc, (fun w' => w'.heap[w9.heap.size]? = some (.cells #[.slice la l.length lc, .string o.text] 53 (0, 0)))⟩, ⟨0, .pointer (some ⟨w9.heap.size, 0, none⟩), (fun _ => True)⟩], rfl, rfl, rfl, rfl, rfl, rfl, t_buildSlice (T := (tyI .i64)) (xs := [[o.slot, o.at_, o.len].getD 0 0]) (cs := #[.int .i64 ([o.slot, o.at_, o.len].getD 0 0)]) rfl Try.underlying51 sz3 rfl rfl rfl rfl (by kernel_rfl) rfl rfl fun w14 u12 => ?_⟩)
          have H14 : UpG w [] w14 [[blk w.heap.size #[.int .i64 o.kind, .int .i64 o.slot, .int .i64 o.at_, .int .i64 o.len, .string o.text] 55], [blk w1.heap.size #[.slice none 0 0, .string ⟨#[]⟩] 53], [blk w5.heap.size #[.bool (cS o.kind), .bool (cA o.kind), .bool (cL o.kind), .bool (cT o.kind)] 93], [rowT (tyI .i64) (.slice (some ⟨w7.heap.size, 0, none⟩) ([o.slot, o.at_, o.len].length) ([o.slot, o.at_, o.len].length)) 3 [o.slot, o.at_, o.len]], [rowT (tyI .i64) (.slice la l.length lc) 3 l], [blk w9.heap.size #[.slice la l.length lc, .string o.text] 53], [rowT (tyI .i64) (.slice (some ⟨w13.heap.size, 0, none⟩) ([[o.slot, o.at_, o.len].getD 0 0].length) ([[o.slot, o.at_, o.len].getD 0 0].length)) 3 [[o.slot, o.at_, o.len].getD 0 0]]] := H13.new' u12
          refine ⟨⟨(H14.blk 5 rfl), trivial, trivial⟩, ?_⟩
          refine WD.loud hok1 7 rfl (⟨_, [], rfl, rfl, rfl, rfl, rfl, rfl, t_append (T := (tyI .i64)) (xs := l) (ys := [[o.slot, o.at_, o.len].getD 0 0]) rfl Try.underlying51 sz3 rfl rfl rfl (H14.ownT 4 rfl) (H14.rdT 6 rfl) (by simp; omega) (by simp; omega) fun a1 c1 w15 u13 => ?_⟩)
          have H15 : UpG w [] w15 [[blk w.heap.size #[.int .i64 o.kind, .int .i64 o.slot, .int .i64 o.at_, .int .i64 o.len, .string o.text] 55], [blk w1.heap.size #[.slice none 0 0, .string ⟨#[]⟩] 53], [blk w5.heap.size #[.bool (cS o.kind), .bool (cA o.kind), .bool (cL o.kind), .bool (cT o.kind)] 93], [rowT (tyI .i64) (.slice (some ⟨w7.heap.size, 0, none⟩) ([o.slot, o.at_, o.len].length) ([o.slot, o.at_, o.len].length)) 3 [o.slot, o.at_, o.len]], [rowT (tyI .i64) (.slice a1 ((l ++ [[o.slot, o.at_, o.len].getD 0 0]).length) c1) 3 (l ++ [[o.slot, o.at_, o.len].getD 0 0])], [blk w9.heap.size #[.slice la l.length lc, .string o.text] 53], []] := (H14.on 4 rfl u13).drop 6
          refine ⟨trivial, ?_⟩
          refine WD.take hok1 8 (.pointer (some ⟨w9.heap.size, 0, none⟩)) (fun _ => True) rfl rfl rfl rfl rfl trivial (.inl ⟨rfl, fun _ _ => d_fieldAddrB fld53_0 rfl rfl ⟨rfl, rfl⟩⟩) ?_
          refine WD.loud hok1 9 rfl (⟨_, [], rfl, rfl, rfl, rfl, rfl, rfl, d_storeB sz51 rfl rfl rfl (H15.blk 5 rfl) rfl fun w16 u14 => ?_⟩)
          have H16 : UpG w [] w16 [[blk w.heap.size #[.int .i64 o.kind, .int .i64 o.slot, .int .i64 o.at_, .int .i64 o.len, .string o.text] 55], [blk w1.heap.size #[.slice none 0 0, .string ⟨#[]⟩] 53], [blk w5.heap.size #[.bool (cS o.kind), .bool (cA o.kind), .bool (cL o.kind), .bool (cT o.kind)] 93], [rowT (tyI .i64) (.slice (some ⟨w7.heap.size, 0, none⟩) ([o.slot, o.at_, o.len].length) ([o.slot, o.at_, o.len].length)) 3 [o.slot, o.at_, o.len]], [rowT (tyI .i64) (.slice a1 ((l ++ [[o.slot, o.at_, o.len].getD 0 0]).length) c1) 3 (l ++ [[o.slot, o.at_, o.len].getD 0 0])], [blk w9.heap.size #[.slice a1 ((l ++ [[o.slot, o.at_, o.len].getD 0 0]).length) c1, .string o.text] 53], []] := H15.on 5 rfl u14
          refine ⟨trivial, ?_⟩
          refine WD.done hok1 rfl (X.block_normal (X.then_code ?_))
          refine W.pick [48, 47, 46, 45, 44, 43, 42, 41, 40, 39, 38, 37, 34, 33, 7, 6, 5, 4, 3, 2, 1] (Γ' := [(48, .pointer (some ⟨w9.heap.size, 0, none⟩)), (47, .slice a1 ((l ++ [[o.slot, o.at_, o.len].getD 0 0]).length) c1), (46, .slice (some ⟨w13.heap.size, 0, none⟩) ([[o.slot, o.at_, o.len].getD 0 0].length) ([[o.slot, o.at_, o.len].getD 0 0].length)), (45, .int .i64 ([o.slot, o.at_, o.len].getD 0 0)), (44, elemPtr (.slice (some ⟨w7.heap.size, 0, none⟩) ([o.slot, o.at_, o.len].length) ([o.slot, o.at_, o.len].length)) 0), (43, .int .i64 ((0 : Nat) : Int)), (42, .slice (some ⟨w7.heap.size, 0, none⟩) ([o.slot, o.at_, o.len].length) ([o.slot, o.at_, o.len].length)), (41, .slice la l.length lc), (40, .pointer (some ⟨w9.heap.size, 0, none⟩)), (39, .bool (cS o.kind)), (38, .pointer (some ⟨w5.heap.size, 0, none⟩)), (37, .int .i64 ((0 : Nat) : Int)), (34, .bool true), (33, .int .i64 ((0 : Nat) : Int)), (7, .int .i64 ((0 : Nat) : Int)), (6, .pointer (some ⟨w9.heap.size, 0, none⟩)), (5, .slice (some ⟨w7.heap.size, 0, none⟩) ([o.slot, o.at_, o.len].length) ([o.slot, o.at_, o.len].length)), (4, .pointer (some ⟨w5.heap.size, 0, none⟩)), (3, .int .i64 0), (2, .pointer (some ⟨w1.heap.size, 0, none⟩)), (1, .pointer (some ⟨w.heap.size, 0, none⟩))]) rfl ?_
          refine W.region ?_
          refine WL.op rfl (d_move rfl ?_)
          refine WL.op rfl (d_add rfl rfl (by omega) (by omega) ?_)
          refine WL.op rfl (d_assign rfl ?_)
          refine WL.done ?_
          exact X.next [7, 6, 5, 4, 3, 2, 1] (Γ' := [(7, .int .i64 (((0 + 1) : Nat) : Int)), (6, .pointer (some ⟨w9.heap.size, 0, none⟩)), (5, .slice (some ⟨w7.heap.size, 0, none⟩) ([o.slot, o.at_, o.len].length) ([o.slot, o.at_, o.len].length)), (4, .pointer (some ⟨w5.heap.size, 0, none⟩)), (3, .int .i64 0), (2, .pointer (some ⟨w1.heap.size, 0, none⟩)), (1, .pointer (some ⟨w.heap.size, 0, none⟩))]) rfl (3 - (0 + 1)) (by omega) ⟨0 + 1, l ++ [[o.slot, o.at_, o.len].getD 0 0], a1, c1, rfl, (H16.re rfl), (by first | assumption | omega | simp), (by first | exact ht.in0 c54 | exact ht.no0 c54 c56 | exact ht.in1 c54 | exact ht.no1 c54 c56 | exact ht.in2 c54 | exact ht.no2 c54 c56), rfl⟩
        · skip
          refine W.seq ?_
          refine W.region ?_
          refine WL.op rfl (d_move rfl ?_)
          refine WL.op rfl (d_move rfl ?_)
          refine WL.op rfl (t_addr1 0 (T := (tyI .i64)) rfl Try.underlying51 sz3 rfl rfl (H12.rdT 3 rfl) rfl (by simp) ?_)
          refine WL.op rfl (t_load1 0 0 (T := (tyI .i64)) rfl Try.underlying3 rfl rfl (H12.rdT 3 rfl) (by simp) rfl ?_)
          refine WL.op rfl (d_cmp (decide (([o.slot, o.at_, o.len].getD 0 0) ≠ (0 : Int))) rfl rfl rfl ?_)
          refine WL.done (X.then_code ?_)
          refine W.pick [53, 52, 51, 50, 49, 39, 38, 37, 34, 33, 7, 6, 5, 4, 3, 2, 1] (Γ' := [(53, .bool (decide (([o.slot, o.at_, o.len].getD 0 0) ≠ (0 : Int)))), (52, .int .i64 ([o.slot, o.at_, o.len].getD 0 0)), (51, elemPtr (.slice (some ⟨w7.heap.size, 0, none⟩) ([o.slot, o.at_, o.len].length) ([o.slot, o.at_, o.len].length)) 0), (50, .int .i64 ((0 : Nat) : Int)), (49, .slice (some ⟨w7.heap.size, 0, none⟩) ([o.slot, o.at_, o.len].length) ([o.slot, o.at_, o.len].length)), (39, .bool (cS o.kind)), (38, .pointer (some ⟨w5.heap.size, 0, none⟩)), (37, .int .i64 ((0 : Nat) : Int)), (34, .bool true), (33, .int .i64 ((0 : Nat) : Int)), (7, .int .i64 ((0 : Nat) : Int)), (6, .pointer (some ⟨w9.heap.size, 0, none⟩)), (5, .slice (some ⟨w7.heap.size, 0, none⟩) ([o.slot, o.at_, o.len].length) ([o.slot, o.at_, o.len].length)), (4, .pointer (some ⟨w5.heap.size, 0, none⟩)), (3, .int .i64 0), (2, .pointer (some ⟨w1.heap.size, 0, none⟩)), (1, .pointer (some ⟨w.heap.size, 0, none⟩))]) rfl ?_
          refine W.ite (p := ([o.slot, o.at_, o.len].getD 0 0) ≠ (0 : Int)) rfl (fun c56 => ?_) (fun c56 => ?_)
          · skip
            refine W.seq ?_
            refine W.region ?_
            refine WL.op rfl (d_build (cs := #[.slice none 0 0, .string ⟨#[]⟩]) rfl (by kernel_rfl) ?_)
            refine WL.op0 (d_storeAB (us := [.slice none 0 0, .string ⟨#[]⟩]) (cs' := #[.slice none 0 0, .string ⟨#[]⟩]) sz53 rfl rfl rfl rfl (H12.blk 1 rfl) rfl rfl fun w17 u15 => ?_)
            have H17 : UpG w [] w17 [[blk w.heap.size #[.int .i64 o.kind, .int .i64 o.slot, .int .i64 o.at_, .int .i64 o.len, .string o.text] 55], [blk w1.heap.size #[.slice none 0 0, .string ⟨#[]⟩] 53], [blk w5.heap.size #[.bool (cS o.kind), .bool (cA o.kind), .bool (cL o.kind), .bool (cT o.kind)] 93], [rowT (tyI .i64) (.slice (some ⟨w7.heap.size, 0, none⟩) ([o.slot, o.at_, o.len].length) ([o.slot, o.at_, o.len].length)) 3 [o.slot, o.at_, o.len]], [rowT (tyI .i64) (.slice la l.length lc) 3 l], [blk w9.heap.size #[.slice la l.length lc, .string o.text] 53]] := H12.on 1 rfl u15
            refine WL.op rfl (d_assign rfl ?_)
            refine WL.done (X.then_code ?_)
            refine W.pick [3, 54, 53, 52, 51, 50, 49, 39, 38, 37, 34, 33, 7, 6, 5, 4, 2, 1] (Γ' := [(3, .int .i64 3), (54, .agg #[.slice none 0 0, .string ⟨#[]⟩]), (53, .bool (decide (([o.slot, o.at_, o.len].getD 0 0) ≠ (0 : Int)))), (52, .int .i64 ([o.slot, o.at_, o.len].getD 0 0)), (51, elemPtr (.slice (some ⟨w7.heap.size, 0, none⟩) ([o.slot, o.at_, o.len].length) ([o.slot, o.at_, o.len].length)) 0), (50, .int .i64 ((0 : Nat) : Int)), (49, .slice (some ⟨w7.heap.size, 0, none⟩) ([o.slot, o.at_, o.len].length) ([o.slot, o.at_, o.len].length)), (39, .bool (cS o.kind)), (38, .pointer (some ⟨w5.heap.size, 0, none⟩)), (37, .int .i64 ((0 : Nat) : Int)), (34, .bool true), (33, .int .i64 ((0 : Nat) : Int)), (7, .int .i64 ((0 : Nat) : Int)), (6, .pointer (some ⟨w9.heap.size, 0, none⟩)), (5, .slice (some ⟨w7.heap.size, 0, none⟩) ([o.slot, o.at_, o.len].length) ([o.slot, o.at_, o.len].length)), (4, .pointer (some ⟨w5.heap.size, 0, none⟩)), (2, .pointer (some ⟨w1.heap.size, 0, none⟩)), (1, .pointer (some ⟨w.heap.size, 0, none⟩))]) rfl ?_
            refine W.ret (X.block_ret (X.then_ret (X.then_ret (X.block_ret (X.then_ret (X.retR2 rfl (rv_cellA [.slice none 0 0, .string ⟨#[]⟩] Try.underlying53 rfl sz53 rfl (H17.blk 1 rfl) rfl rfl) (rv_tmp rfl) ?_))))))
            have e : rawR o = (raw0, 3) := by unfold rawR; rw [if_neg (by rw [hok]; simp), if_pos (by first | exact .inl ⟨by simpa using c54, c56⟩ | exact .inr (.inl ⟨by simpa using c54, c56⟩) | exact .inr (.inr (.inl ⟨by simpa using c54, c56⟩)))]
            rw [e]
            exact ⟨none, 0, (by rfl), nilOwn H17⟩
          · skip
            refine W.skip (X.block_normal (X.then_code ?_))
            refine W.pick [53, 52, 51, 50, 49, 39, 38, 37, 34, 33, 7, 6, 5, 4, 3, 2, 1] (Γ' := [(53, .bool (decide (([o.slot, o.at_, o.len].getD 0 0) ≠ (0 : Int)))), (52, .int .i64 ([o.slot, o.at_, o.len].getD 0 0)), (51, elemPtr (.slice (some ⟨w7.heap.size, 0, none⟩) ([o.slot, o.at_, o.len].length) ([o.slot, o.at_, o.len].length)) 0), (50, .int .i64 ((0 : Nat) : Int)), (49, .slice (some ⟨w7.heap.size, 0, none⟩) ([o.slot, o.at_, o.len].length) ([o.slot, o.at_, o.len].length)), (39, .bool (cS o.kind)), (38, .pointer (some ⟨w5.heap.size, 0, none⟩)), (37, .int .i64 ((0 : Nat) : Int)), (34, .bool true), (33, .int .i64 ((0 : Nat) : Int)), (7, .int .i64 ((0 : Nat) : Int)), (6, .pointer (some ⟨w9.heap.size, 0, none⟩)), (5, .slice (some ⟨w7.heap.size, 0, none⟩) ([o.slot, o.at_, o.len].length) ([o.slot, o.at_, o.len].length)), (4, .pointer (some ⟨w5.heap.size, 0, none⟩)), (3, .int .i64 0), (2, .pointer (some ⟨w1.heap.size, 0, none⟩)), (1, .pointer (some ⟨w.heap.size, 0, none⟩))]) rfl ?_
            refine W.region ?_
            refine WL.op rfl (d_move rfl ?_)
            refine WL.op rfl (d_add rfl rfl (by omega) (by omega) ?_)
            refine WL.op rfl (d_assign rfl ?_)
            refine WL.done ?_
            exact X.next [7, 6, 5, 4, 3, 2, 1] (Γ' := [(7, .int .i64 (((0 + 1) : Nat) : Int)), (6, .pointer (some ⟨w9.heap.size, 0, none⟩)), (5, .slice (some ⟨w7.heap.size, 0, none⟩) ([o.slot, o.at_, o.len].length) ([o.slot, o.at_, o.len].length)), (4, .pointer (some ⟨w5.heap.size, 0, none⟩)), (3, .int .i64 0), (2, .pointer (some ⟨w1.heap.size, 0, none⟩)), (1, .pointer (some ⟨w.heap.size, 0, none⟩))]) rfl (3 - (0 + 1)) (by omega) ⟨0 + 1, l, la, lc, rfl, H12, (by first | assumption | omega | simp), (by first | exact ht.in0 c54 | exact ht.no0 c54 c56 | exact ht.in1 c54 | exact ht.no1 c54 c56 | exact ht.in2 c54 | exact ht.no2 c54 c56), rfl⟩
      · skip
        refine W.seq ?_
        refine W.seq ?_
        refine W.region ?_
        refine WL.op rfl (d_move rfl ?_)
        refine WL.op rfl (d_cmp true rfl rfl rfl ?_)
        refine WL.done (X.then_code ?_)
        refine W.ift rfl ?_
        refine W.skip (X.then_code ?_)
        refine W.seq ?_
        refine W.block ?_
        refine W.seq ?_
        refine W.region ?_
        refine WL.op rfl (d_move rfl ?_)
        refine WL.op rfl (d_idxAddrArr Try.underlying93 sz4 rfl rfl (by omega) (by omega) ?_)
        refine WL.op rfl (d_loadB Try.underlying4 rfl rfl (H12.blk 2 rfl) rfl ?_)
        refine WL.done (X.then_code ?_)
        refine W.iteB (b := cA o.kind) rfl (fun c54 => ?_) (fun c54 => ?_)
        · skip
          refine W.regionD mixed (by kernel_rfl) fun hok2 w18 k2 => ?_
          have H18 : UpG w [] w18 [[blk w.heap.size #[.int .i64 o.kind, .int .i64 o.slot, .int .i64 o.at_, .int .i64 o.len, .string o.text] 55], [blk w1.heap.size #[.slice none 0 0, .string ⟨#[]⟩] 53], [blk w5.heap.size #[.bool (cS o.kind), .bool (cA o.kind), .bool (cL o.kind), .bool (cT o.kind)] 93], [rowT (tyI .i64) (.slice (some ⟨w7.heap.size, 0, none⟩) ([o.slot, o.at_, o.len].length) ([o.slot, o.at_, o.len].length)) 3 [o.slot, o.at_, o.len]], [rowT (tyI .i64) (.slice la l.length lc) 3 l], [blk w9.heap.size #[.slice la l.length lc, .string o.text] 53]] := H12.kept k2
          refine WD.take hok2 0 (.pointer (some ⟨w9.heap.size, 0, none⟩)) (fun _ => True) rfl rfl rfl rfl rfl trivial (.inl ⟨rfl, fun _ _ => d_fieldAddrB fld53_0 rfl rfl ⟨rfl, rfl⟩⟩) ?_
          refine WD.take hok2 1 (.slice la l.length lc) (fun w' => w'.heap[w9.heap.size]? = some (.cells #[.slice la l.length lc, .string o.text] 53 (0, 0))) rfl rfl rfl rfl rfl (H18.blk 5 rfl) (.inl ⟨rfl, fun _ hC => d_loadB Try.underlying51 rfl rfl hC rfl ⟨rfl, rfl⟩⟩) ?_
          refine WD.take hok2 2 (.slice (some ⟨w7.heap.size, 0, none⟩) ([o.slot, o.at_, o.len].length) ([o.slot, o.at_, o.len].length)) (fun _ => True) rfl rfl rfl rfl rfl trivial (.inl ⟨rfl, fun _ _ => d_move rfl ⟨rfl, rfl⟩⟩) ?_
          refine WD.take hok2 3 (.int .i64 ((1 : Nat) : Int)) (fun _ => True) rfl rfl rfl rfl rfl trivial (.inl ⟨rfl, fun _ _ => d_move rfl ⟨rfl, rfl⟩⟩) ?_
          refine WD.take hok2 4 (elemPtr (.slice (some ⟨w7.heap.size, 0, none⟩) ([o.slot, o.at_, o.len].length) ([o.slot, o.at_, o.len].length)) 1) (fun w' => RdT (tyI .i64) w' (.slice (some ⟨w7.heap.size, 0, none⟩) ([o.slot, o.at_, o.len].length) ([o.slot, o.at_, o.len].length)) [o.slot, o.at_, o.len]) rfl rfl rfl rfl rfl (H18.rdT 3 rfl) (.inl ⟨rfl, fun _ hC => t_addr1 1 (T := (tyI .i64)) rfl Try.underlying51 sz3 rfl rfl hC rfl (by simp) ⟨rfl, rfl⟩⟩) ?_
          refine WD.take hok2 5 (.int .i64 ([o.slot, o.at_, o.len].getD 1 0)) (fun w' => RdT (tyI .i64) w' (.slice (some ⟨w7.heap.size, 0, none⟩) ([o.slot, o.at_, o.len].length) ([o.slot, o.at_, o.len].length)) [o.slot, o.at_, o.len]) rfl rfl rfl rfl rfl (H18.rdT 3 rfl) (.inl ⟨rfl, fun _ hC => t_load1 1 0 (T := (tyI .i64)) rfl Try.underlying3 rfl rfl hC (by simp) rfl ⟨rfl, rfl⟩⟩) ?_
          refine WD.loud hok2 6 rfl (⟨_, [⟨1, .slice la l.length lc, (fun w' => w'.heap[w9.heap.size]? = some (.cells #[.slice la l.length lc, .string o.text] 53 (0, 0)))⟩, ⟨0, .pointer (some ⟨w9.heap.size, 0, none⟩), (fun _ => True)⟩], rfl, rfl, rfl, rfl, rfl, rfl, t_buildSlice (T := (tyI .i64)) (xs := [[o.slot, o.at_, o.len].getD 1 0]) (cs := #[.int .i64 ([o.slot, o.at_, o.len].getD 1 0)]) rfl Try.underlying51 sz3 rfl rfl rfl rfl (by kernel_rfl) rfl rfl fun w19 u16 => ?_⟩)
          have H19 : UpG w [] w19 [[blk w.heap.size #[.int .i64 o.kind, .int .i64 o.slot, .int .i64 o.at_, .int .i64 o.len, .string o.text] 55], [blk w1.heap.size #[.slice none 0 0, .string ⟨#[]⟩] 53], [blk w5.heap.size #[.bool (cS o.kind), .bool (cA o.kind), .bool (cL o.kind), .bool (cT o.kind)] 93], [rowT (tyI .i64) (.slice (some ⟨w7.heap.size, 0, none⟩) ([o.slot, o.at_, o.len].length) ([o.slot, o.at_, o.len].length)) 3 [o.slot, o.at_, o.len]], [rowT (tyI .i64) (.slice la l.length lc) 3 l], [blk w9.heap.size #[.slice la l.length lc, .string o.text] 53], [rowT (tyI .i64) (.slice (some ⟨w18.heap.size, 0, none⟩) ([[o.slot, o.at_, o.len].getD 1 0].length) ([[o.slot, o.at_, o.len].getD 1 0].length)) 3 [[o.slot, o.at_, o.len].getD 1 0]]] := H18.new' u16
          refine ⟨⟨(H19.blk 5 rfl), trivial, trivial⟩, ?_⟩
          refine WD.loud hok2 7 rfl (⟨_, [], rfl, rfl, rfl, rfl, rfl, rfl, t_append (T := (tyI .i64)) (xs := l) (ys := [[o.slot, o.at_, o.len].getD 1 0]) rfl Try.underlying51 sz3 rfl rfl rfl (H19.ownT 4 rfl) (H19.rdT 6 rfl) (by simp; omega) (by simp; omega) fun a2 c2 w20 u17 => ?_⟩)
          have H20 : UpG w [] w20 [[blk w.heap.size #[.int .i64 o.kind, .int .i64 o.slot, .int .i64 o.at_, .int .i64 o.len, .string o.text] 55], [blk w1.heap.size #[.slice none 0 0, .string ⟨#[]⟩] 53], [blk w5.heap.size #[.bool (cS o.kind), .bool (cA o.kind), .bool (cL o.kind), .bool (cT o.kind)] 93], [rowT (tyI .i64) (.slice (some ⟨w7.heap.size, 0, none⟩) ([o.slot, o.at_, o.len].length) ([o.slot, o.at_, o.len].length)) 3 [o.slot, o.at_, o.len]], [rowT (tyI .i64) (.slice a2 ((l ++ [[o.slot, o.at_, o.len].getD 1 0]).length) c2) 3 (l ++ [[o.slot, o.at_, o.len].getD 1 0])], [blk w9.heap.size #[.slice la l.length lc, .string o.text] 53], []] := (H19.on 4 rfl u17).drop 6
          refine ⟨trivial, ?_⟩
          refine WD.take hok2 8 (.pointer (some ⟨w9.heap.size, 0, none⟩)) (fun _ => True) rfl rfl rfl rfl rfl trivial (.inl ⟨rfl, fun _ _ => d_fieldAddrB fld53_0 rfl rfl ⟨rfl, rfl⟩⟩) ?_
          refine WD.loud hok2 9 rfl (⟨_, [], rfl, rfl, rfl, rfl, rfl, rfl, d_storeB sz51 rfl rfl rfl (H20.blk 5 rfl) rfl fun w21 u18 => ?_⟩)
          have H21 : UpG w [] w21 [[blk w.heap.size #[.int .i64 o.kind, .int .i64 o.slot, .int .i64 o.at_, .int .i64 o.len, .string o.text] 55], [blk w1.heap.size #[.slice none 0 0, .string ⟨#[]⟩] 53], [blk w5.heap.size #[.bool (cS o.kind), .bool (cA o.kind), .bool (cL o.kind), .bool (cT o.kind)] 93], [rowT (tyI .i64) (.slice (some ⟨w7.heap.size, 0, none⟩) ([o.slot, o.at_, o.len].length) ([o.slot, o.at_, o.len].length)) 3 [o.slot, o.at_, o.len]], [rowT (tyI .i64) (.slice a2 ((l ++ [[o.slot, o.at_, o.len].getD 1 0]).length) c2) 3 (l ++ [[o.slot, o.at_, o.len].getD 1 0])], [blk w9.heap.size #[.slice a2 ((l ++ [[o.slot, o.at_, o.len].getD 1 0]).length) c2, .string o.text] 53], []] := H20.on 5 rfl u18
          refine ⟨trivial, ?_⟩
          refine WD.done hok2 rfl (X.block_normal (X.then_code ?_))
          refine W.pick [48, 47, 46, 45, 44, 43, 42, 41, 40, 39, 38, 37, 34, 33, 7, 6, 5, 4, 3, 2, 1] (Γ' := [(48, .pointer (some ⟨w9.heap.size, 0, none⟩)), (47, .slice a2 ((l ++ [[o.slot, o.at_, o.len].getD 1 0]).length) c2), (46, .slice (some ⟨w18.heap.size, 0, none⟩) ([[o.slot, o.at_, o.len].getD 1 0].length) ([[o.slot, o.at_, o.len].getD 1 0].length)), (45, .int .i64 ([o.slot, o.at_, o.len].getD 1 0)), (44, elemPtr (.slice (some ⟨w7.heap.size, 0, none⟩) ([o.slot, o.at_, o.len].length) ([o.slot, o.at_, o.len].length)) 1), (43, .int .i64 ((1 : Nat) : Int)), (42, .slice (some ⟨w7.heap.size, 0, none⟩) ([o.slot, o.at_, o.len].length) ([o.slot, o.at_, o.len].length)), (41, .slice la l.length lc), (40, .pointer (some ⟨w9.heap.size, 0, none⟩)), (39, .bool (cA o.kind)), (38, .pointer (some ⟨w5.heap.size, 1, none⟩)), (37, .int .i64 ((1 : Nat) : Int)), (34, .bool true), (33, .int .i64 ((1 : Nat) : Int)), (7, .int .i64 ((1 : Nat) : Int)), (6, .pointer (some ⟨w9.heap.size, 0, none⟩)), (5, .slice (some ⟨w7.heap.size, 0, none⟩) ([o.slot, o.at_, o.len].length) ([o.slot, o.at_, o.len].length)), (4, .pointer (some ⟨w5.heap.size, 0, none⟩)), (3, .int .i64 0), (2, .pointer (some ⟨w1.heap.size, 0, none⟩)), (1, .pointer (some ⟨w.heap.size, 0, none⟩))]) rfl ?_
          refine W.region ?_
          refine WL.op rfl (d_move rfl ?_)
          refine WL.op rfl (d_add rfl rfl (by omega) (by omega) ?_)
          refine WL.op rfl (d_assign rfl ?_)
          refine WL.done ?_
          exact X.next [7, 6, 5, 4, 3, 2, 1] (Γ' := [(7, .int .i64 (((1 + 1) : Nat) : Int)), (6, .pointer (some ⟨w9.heap.size, 0, none⟩)), (5, .slice (some ⟨w7.heap.size, 0, none⟩) ([o.slot, o.at_, o.len].length) ([o.slot, o.at_, o.len].length)), (4, .pointer (some ⟨w5.heap.size, 0, none⟩)), (3, .int .i64 0), (2, .pointer (some ⟨w1.heap.size, 0, none⟩)), (1, .pointer (some ⟨w.heap.size, 0, none⟩))]) rfl (3 - (1 + 1)) (by omega) ⟨1 + 1, l ++ [[o.slot, o.at_, o.len].getD 1 0], a2, c2, rfl, (H21.re rfl), (by first | assumption | omega | simp), (by first | exact ht.in0 c54 | exact ht.no0 c54 c56 | exact ht.in1 c54 | exact ht.no1 c54 c56 | exact ht.in2 c54 | exact ht.no2 c54 c56), rfl⟩
        · skip
          refine W.seq ?_
          refine W.region ?_
          refine WL.op rfl (d_move rfl ?_)
          refine WL.op rfl (d_move rfl ?_)
          refine WL.op rfl (t_addr1 1 (T := (tyI .i64)) rfl Try.underlying51 sz3 rfl rfl (H12.rdT 3 rfl) rfl (by simp) ?_)
          refine WL.op rfl (t_load1 1 0 (T := (tyI .i64)) rfl Try.underlying3 rfl rfl (H12.rdT 3 rfl) (by simp) rfl ?_)
          refine WL.op rfl (d_cmp (decide (([o.slot, o.at_, o.len].getD 1 0) ≠ (0 : Int))) rfl rfl rfl ?_)
          refine WL.done (X.then_code ?_)
          refine W.pick [53, 52, 51, 50, 49, 39, 38, 37, 34, 33, 7, 6, 5, 4, 3, 2, 1] (Γ' := [(53, .bool (decide (([o.slot, o.at_, o.len].getD 1 0) ≠ (0 : Int)))), (52, .int .i64 ([o.slot, o.at_, o.len].getD 1 0)), (51, elemPtr (.slice (some ⟨w7.heap.size, 0, none⟩) ([o.slot, o.at_, o.len].length) ([o.slot, o.at_, o.len].length)) 1), (50, .int .i64 ((1 : Nat) : Int)), (49, .slice (some ⟨w7.heap.size, 0, none⟩) ([o.slot, o.at_, o.len].length) ([o.slot, o.at_, o.len].length)), (39, .bool (cA o.kind)), (38, .pointer (some ⟨w5.heap.size, 1, none⟩)), (37, .int .i64 ((1 : Nat) : Int)), (34, .bool true), (33, .int .i64 ((1 : Nat) : Int)), (7, .int .i64 ((1 : Nat) : Int)), (6, .pointer (some ⟨w9.heap.size, 0, none⟩)), (5, .slice (some ⟨w7.heap.size, 0, none⟩) ([o.slot, o.at_, o.len].length) ([o.slot, o.at_, o.len].length)), (4, .pointer (some ⟨w5.heap.size, 0, none⟩)), (3, .int .i64 0), (2, .pointer (some ⟨w1.heap.size, 0, none⟩)), (1, .pointer (some ⟨w.heap.size, 0, none⟩))]) rfl ?_
          refine W.ite (p := ([o.slot, o.at_, o.len].getD 1 0) ≠ (0 : Int)) rfl (fun c56 => ?_) (fun c56 => ?_)
          · skip
            refine W.seq ?_
            refine W.region ?_
            refine WL.op rfl (d_build (cs := #[.slice none 0 0, .string ⟨#[]⟩]) rfl (by kernel_rfl) ?_)
            refine WL.op0 (d_storeAB (us := [.slice none 0 0, .string ⟨#[]⟩]) (cs' := #[.slice none 0 0, .string ⟨#[]⟩]) sz53 rfl rfl rfl rfl (H12.blk 1 rfl) rfl rfl fun w22 u19 => ?_)
            have H22 : UpG w [] w22 [[blk w.heap.size #[.int .i64 o.kind, .int .i64 o.slot, .int .i64 o.at_, .int .i64 o.len, .string o.text] 55], [blk w1.heap.size #[.slice none 0 0, .string ⟨#[]⟩] 53], [blk w5.heap.size #[.bool (cS o.kind), .bool (cA o.kind), .bool (cL o.kind), .bool (cT o.kind)] 93], [rowT (tyI .i64) (.slice (some ⟨w7.heap.size, 0, none⟩) ([o.slot, o.at_, o.len].length) ([o.slot, o.at_, o.len].length)) 3 [o.slot, o.at_, o.len]], [rowT (tyI .i64) (.slice la l.length lc) 3 l], [blk w9.heap.size #[.slice la l.length lc, .string o.text] 53]] := H12.on 1 rfl u19
            refine WL.op rfl (d_assign rfl ?_)
            refine WL.done (X.then_code ?_)
            refine W.pick [3, 54, 53, 52, 51, 50, 49, 39, 38, 37, 34, 33, 7, 6, 5, 4, 2, 1] (Γ' := [(3, .int .i64 3), (54, .agg #[.slice none 0 0, .string ⟨#[]⟩]), (53, .bool (decide (([o.slot, o.at_, o.len].getD 1 0) ≠ (0 : Int)))), (52, .int .i64 ([o.slot, o.at_, o.len].getD 1 0)), (51, elemPtr (.slice (some ⟨w7.heap.size, 0, none⟩) ([o.slot, o.at_, o.len].length) ([o.slot, o.at_, o.len].length)) 1), (50, .int .i64 ((1 : Nat) : Int)), (49, .slice (some ⟨w7.heap.size, 0, none⟩) ([o.slot, o.at_, o.len].length) ([o.slot, o.at_, o.len].length)), (39, .bool (cA o.kind)), (38, .pointer (some ⟨w5.heap.size, 1, none⟩)), (37, .int .i64 ((1 : Nat) : Int)), (34, .bool true), (33, .int .i64 ((1 : Nat) : Int)), (7, .int .i64 ((1 : Nat) : Int)), (6, .pointer (some ⟨w9.heap.size, 0, none⟩)), (5, .slice (some ⟨w7.heap.size, 0, none⟩) ([o.slot, o.at_, o.len].length) ([o.slot, o.at_, o.len].length)), (4, .pointer (some ⟨w5.heap.size, 0, none⟩)), (2, .pointer (some ⟨w1.heap.size, 0, none⟩)), (1, .pointer (some ⟨w.heap.size, 0, none⟩))]) rfl ?_
            refine W.ret (X.block_ret (X.then_ret (X.then_ret (X.block_ret (X.then_ret (X.retR2 rfl (rv_cellA [.slice none 0 0, .string ⟨#[]⟩] Try.underlying53 rfl sz53 rfl (H22.blk 1 rfl) rfl rfl) (rv_tmp rfl) ?_))))))
            have e : rawR o = (raw0, 3) := by unfold rawR; rw [if_neg (by rw [hok]; simp), if_pos (by first | exact .inl ⟨by simpa using c54, c56⟩ | exact .inr (.inl ⟨by simpa using c54, c56⟩) | exact .inr (.inr (.inl ⟨by simpa using c54, c56⟩)))]
            rw [e]
            exact ⟨none, 0, (by rfl), nilOwn H22⟩
          · skip
            refine W.skip (X.block_normal (X.then_code ?_))
            refine W.pick [53, 52, 51, 50, 49, 39, 38, 37, 34, 33, 7, 6, 5, 4, 3, 2, 1] (Γ' := [(53, .bool (decide (([o.slot, o.at_, o.len].getD 1 0) ≠ (0 : Int)))), (52, .int .i64 ([o.slot, o.at_, o.len].getD 1 0)), (51, elemPtr (.slice (some ⟨w7.heap.size, 0, none⟩) ([o.slot, o.at_, o.len].length) ([o.slot, o.at_, o.len].length)) 1), (50, .int .i64 ((1 : Nat) : Int)), (49, .slice (some ⟨w7.heap.size, 0, none⟩) ([o.slot, o.at_, o.len].length) ([o.slot, o.at_, o.len].length)), (39, .bool (cA o.kind)), (38, .pointer (some ⟨w5.heap.size, 1, none⟩)), (37, .int .i64 ((1 : Nat) : Int)), (34, .bool true), (33, .int .i64 ((1 : Nat) : Int)), (7, .int .i64 ((1 : Nat) : Int)), (6, .pointer (some ⟨w9.heap.size, 0, none⟩)), (5, .slice (some ⟨w7.heap.size, 0, none⟩) ([o.slot, o.at_, o.len].length) ([o.slot, o.at_, o.len].length)), (4, .pointer (some ⟨w5.heap.size, 0, none⟩)), (3, .int .i64 0), (2, .pointer (some ⟨w1.heap.size, 0, none⟩)), (1, .pointer (some ⟨w.heap.size, 0, none⟩))]) rfl ?_
            refine W.region ?_
            refine WL.op rfl (d_move rfl ?_)
            refine WL.op rfl (d_add rfl rfl (by omega) (by omega) ?_)
            refine WL.op rfl (d_assign rfl ?_)
            refine WL.done ?_
            exact X.next [7, 6, 5, 4, 3, 2, 1] (Γ' := [(7, .int .i64 (((1 + 1) : Nat) : Int)), (6, .pointer (some ⟨w9.heap.size, 0, none⟩)), (5, .slice (some ⟨w7.heap.size, 0, none⟩) ([o.slot, o.at_, o.len].length) ([o.slot, o.at_, o.len].length)), (4, .pointer (some ⟨w5.heap.size, 0, none⟩)), (3, .int .i64 0), (2, .pointer (some ⟨w1.heap.size, 0, none⟩)), (1, .pointer (some ⟨w.heap.size, 0, none⟩))]) rfl (3 - (1 + 1)) (by omega) ⟨1 + 1, l, la, lc, rfl, H12, (by first | assumption | omega | simp), (by first | exact ht.in0 c54 | exact ht.no0 c54 c56 | exact ht.in1 c54 | exact ht.no1 c54 c56 | exact ht.in2 c54 | exact ht.no2 c54 c56), rfl⟩
      · skip
        refine W.seq ?_
        refine W.seq ?_
        refine W.region ?_
        refine WL.op rfl (d_move rfl ?_)
        refine WL.op rfl (d_cmp true rfl rfl rfl ?_)
        refine WL.done (X.then_code ?_)
        refine W.ift rfl ?_
        refine W.skip (X.then_code ?_)
        refine W.seq ?_
        refine W.block ?_
        refine W.seq ?_
        refine W.region ?_
        refine WL.op rfl (d_move rfl ?_)
        refine WL.op rfl (d_idxAddrArr Try.underlying93 sz4 rfl rfl (by omega) (by omega) ?_)
        refine WL.op rfl (d_loadB Try.underlying4 rfl rfl (H12.blk 2 rfl) rfl ?_)
        refine WL.done (X.then_code ?_)
        refine W.iteB (b := cL o.kind) rfl (fun c54 => ?_) (fun c54 => ?_)
        · skip
          refine W.regionD mixed (by kernel_rfl) fun hok3 w23 k3 => ?_
          have H23 : UpG w [] w23 [[blk w.heap.size #[.int .i64 o.kind, .int .i64 o.slot, .int .i64 o.at_, .int .i64 o.len, .string o.text] 55], [blk w1.heap.size #[.slice none 0 0, .string ⟨#[]⟩] 53], [blk w5.heap.size #[.bool (cS o.kind), .bool (cA o.kind), .bool (cL o.kind), .bool (cT o.kind)] 93], [rowT (tyI .i64) (.slice (some ⟨w7.heap.size, 0, none⟩) ([o.slot, o.at_, o.len].length) ([o.slot, o.at_, o.len].length)) 3 [o.slot, o.at_, o.len]], [rowT (tyI .i64) (.slice la l.length lc) 3 l], [blk w9.heap.size #[.slice la l.length lc, .string o.text] 53]] := H12.kept k3
          refine WD.take hok3 0 (.pointer (some ⟨w9.heap.size, 0, none⟩)) (fun _ => True) rfl rfl rfl rfl rfl trivial (.inl ⟨rfl, fun _ _ => d_fieldAddrB fld53_0 rfl rfl ⟨rfl, rfl⟩⟩) ?_
          refine WD.take hok3 1 (.slice la l.length lc) (fun w' => w'.heap[w9.heap.size]? = some (.cells #[.slice la l.length lc, .string o.text] 53 (0, 0))) rfl rfl rfl rfl rfl (H23.blk 5 rfl) (.inl ⟨rfl, fun _ hC => d_loadB Try.underlying51 rfl rfl hC rfl ⟨rfl, rfl⟩⟩) ?_
          refine WD.take hok3 2 (.slice (some ⟨w7.heap.size, 0, none⟩) ([o.slot, o.at_, o.len].length) ([o.slot, o.at_, o.len].length)) (fun _ => True) rfl rfl rfl rfl rfl trivial (.inl ⟨rfl, fun _ _ => d_move rfl ⟨rfl, rfl⟩⟩) ?_
          refine WD.take hok3 3 (.int .i64 ((2 : Nat) : Int)) (fun _ => True) rfl rfl rfl rfl rfl trivial (.inl ⟨rfl, fun _ _ => d_move rfl ⟨rfl, rfl⟩⟩) ?_
          refine WD.take hok3 4 (elemPtr (.slice (some ⟨w7.heap.size, 0, none⟩) ([o.slot, o.at_, o.len].length) ([o.slot, o.at_, o.len].length)) 2) (fun w' => RdT (tyI .i64) w' (.slice (some ⟨w7.heap.size, 0, none⟩) ([o.slot, o.at_, o.len].length) ([o.slot, o.at_, o.len].length)) [o.slot, o.at_, o.len]) rfl rfl rfl rfl rfl (H23.rdT 3 rfl) (.inl ⟨rfl, fun _ hC => t_addr1 2 (T := (tyI .i64)) rfl Try.underlying51 sz3 rfl rfl hC rfl (by simp) ⟨rfl, rfl⟩⟩) ?_
          refine WD.take hok3 5 (.int .i64 ([o.slot, o.at_, o.len].getD 2 0)) (fun w' => RdT (tyI .i64) w' (.slice (some ⟨w7.heap.size, 0, none⟩) ([o.slot, o.at_, o.len].length) ([o.slot, o.at_, o.len].length)) [o.slot, o.at_, o.len]) rfl rfl rfl rfl rfl (H23.rdT 3 rfl) (.inl ⟨rfl, fun _ hC => t_load1 2 0 (T := (tyI .i64)) rfl Try.underlying3 rfl rfl hC (by simp) rfl ⟨rfl, rfl⟩⟩) ?_
          refine WD.loud hok3 6 rfl (⟨_, [⟨1, .slice la l.length lc, (fun w' => w'.heap[w9.heap.size]? = some (.cells #[.slice la l.length lc, .string o.text] 53 (0, 0)))⟩, ⟨0, .pointer (some ⟨w9.heap.size, 0, none⟩), (fun _ => True)⟩], rfl, rfl, rfl, rfl, rfl, rfl, t_buildSlice (T := (tyI .i64)) (xs := [[o.slot, o.at_, o.len].getD 2 0]) (cs := #[.int .i64 ([o.slot, o.at_, o.len].getD 2 0)]) rfl Try.underlying51 sz3 rfl rfl rfl rfl (by kernel_rfl) rfl rfl fun w24 u20 => ?_⟩)
          have H24 : UpG w [] w24 [[blk w.heap.size #[.int .i64 o.kind, .int .i64 o.slot, .int .i64 o.at_, .int .i64 o.len, .string o.text] 55], [blk w1.heap.size #[.slice none 0 0, .string ⟨#[]⟩] 53], [blk w5.heap.size #[.bool (cS o.kind), .bool (cA o.kind), .bool (cL o.kind), .bool (cT o.kind)] 93], [rowT (tyI .i64) (.slice (some ⟨w7.heap.size, 0, none⟩) ([o.slot, o.at_, o.len].length) ([o.slot, o.at_, o.len].length)) 3 [o.slot, o.at_, o.len]], [rowT (tyI .i64) (.slice la l.length lc) 3 l], [blk w9.heap.size #[.slice la l.length lc, .string o.text] 53], [rowT (tyI .i64) (.slice (some ⟨w23.heap.size, 0, none⟩) ([[o.slot, o.at_, o.len].getD 2 0].length) ([[o.slot, o.at_, o.len].getD 2 0].length)) 3 [[o.slot, o.at_, o.len].getD 2 0]]] := H23.new' u20
          refine ⟨⟨(H24.blk 5 rfl), trivial, trivial⟩, ?_⟩
          refine WD.loud hok3 7 rfl (⟨_, [], rfl, rfl, rfl, rfl, rfl, rfl, t_append (T := (tyI .i64)) (xs := l) (ys := [[o.slot, o.at_, o.len].getD 2 0]) rfl Try.underlying51 sz3 rfl rfl rfl (H24.ownT 4 rfl) (H24.rdT 6 rfl) (by simp; omega) (by simp; omega) fun a3 c3 w25 u21 => ?_⟩)
          have H25 : UpG w [] w25 [[blk w.heap.size #[.int .i64 o.kind, .int .i64 o.slot, .int .i64 o.at_, .int .i64 o.len, .string o.text] 55], [blk w1.heap.size #[.slice none 0 0, .string ⟨#[]⟩] 53], [blk w5.heap.size #[.bool (cS o.kind), .bool (cA o.kind), .bool (cL o.kind), .bool (cT o.kind)] 93], [rowT (tyI .i64) (.slice (some ⟨w7.heap.size, 0, none⟩) ([o.slot, o.at_, o.len].length) ([o.slot, o.at_, o.len].length)) 3 [o.slot, o.at_, o.len]], [rowT (tyI .i64) (.slice a3 ((l ++ [[o.slot, o.at_, o.len].getD 2 0]).length) c3) 3 (l ++ [[o.slot, o.at_, o.len].getD 2 0])], [blk w9.heap.size #[.slice la l.length lc, .string o.text] 53], []] := (H24.on 4 rfl u21).drop 6
          refine ⟨trivial, ?_⟩
          refine WD.take hok3 8 (.pointer (some ⟨w9.heap.size, 0, none⟩)) (fun _ => True) rfl rfl rfl rfl rfl trivial (.inl ⟨rfl, fun _ _ => d_fieldAddrB fld53_0 rfl rfl ⟨rfl, rfl⟩⟩) ?_
          refine WD.loud hok3 9 rfl (⟨_, [], rfl, rfl, rfl, rfl, rfl, rfl, d_storeB sz51 rfl rfl rfl (H25.blk 5 rfl) rfl fun w26 u22 => ?_⟩)
          have H26 : UpG w [] w26 [[blk w.heap.size #[.int .i64 o.kind, .int .i64 o.slot, .int .i64 o.at_, .int .i64 o.len, .string o.text] 55], [blk w1.heap.size #[.slice none 0 0, .string ⟨#[]⟩] 53], [blk w5.heap.size #[.bool (cS o.kind), .bool (cA o.kind), .bool (cL o.kind), .bool (cT o.kind)] 93], [rowT (tyI .i64) (.slice (some ⟨w7.heap.size, 0, none⟩) ([o.slot, o.at_, o.len].length) ([o.slot, o.at_, o.len].length)) 3 [o.slot, o.at_, o.len]], [rowT (tyI .i64) (.slice a3 ((l ++ [[o.slot, o.at_, o.len].getD 2 0]).length) c3) 3 (l ++ [[o.slot, o.at_, o.len].getD 2 0])], [blk w9.heap.size #[.slice a3 ((l ++ [[o.slot, o.at_, o.len].getD 2 0]).length) c3, .string o.text] 53], []] := H25.on 5 rfl u22
          refine ⟨trivial, ?_⟩
          refine WD.done hok3 rfl (X.block_normal (X.then_code ?_))
          refine W.pick [48, 47, 46, 45, 44, 43, 42, 41, 40, 39, 38, 37, 34, 33, 7, 6, 5, 4, 3, 2, 1] (Γ' := [(48, .pointer (some ⟨w9.heap.size, 0, none⟩)), (47, .slice a3 ((l ++ [[o.slot, o.at_, o.len].getD 2 0]).length) c3), (46, .slice (some ⟨w23.heap.size, 0, none⟩) ([[o.slot, o.at_, o.len].getD 2 0].length) ([[o.slot, o.at_, o.len].getD 2 0].length)), (45, .int .i64 ([o.slot, o.at_, o.len].getD 2 0)), (44, elemPtr (.slice (some ⟨w7.heap.size, 0, none⟩) ([o.slot, o.at_, o.len].length) ([o.slot, o.at_, o.len].length)) 2), (43, .int .i64 ((2 : Nat) : Int)), (42, .slice (some ⟨w7.heap.size, 0, none⟩) ([o.slot, o.at_, o.len].length) ([o.slot, o.at_, o.len].length)), (41, .slice la l.length lc), (40, .pointer (some ⟨w9.heap.size, 0, none⟩)), (39, .bool (cL o.kind)), (38, .pointer (some ⟨w5.heap.size, 2, none⟩)), (37, .int .i64 ((2 : Nat) : Int)), (34, .bool true), (33, .int .i64 ((2 : Nat) : Int)), (7, .int .i64 ((2 : Nat) : Int)), (6, .pointer (some ⟨w9.heap.size, 0, none⟩)), (5, .slice (some ⟨w7.heap.size, 0, none⟩) ([o.slot, o.at_, o.len].length) ([o.slot, o.at_, o.len].length)), (4, .pointer (some ⟨w5.heap.size, 0, none⟩)), (3, .int .i64 0), (2, .pointer (some ⟨w1.heap.size, 0, none⟩)), (1, .pointer (some ⟨w.heap.size, 0, none⟩))]) rfl ?_
          refine W.region ?_
          refine WL.op rfl (d_move rfl ?_)
          refine WL.op rfl (d_add rfl rfl (by omega) (by omega) ?_)
          refine WL.op rfl (d_assign rfl ?_)
          refine WL.done ?_
          exact X.next [7, 6, 5, 4, 3, 2, 1] (Γ' := [(7, .int .i64 (((2 + 1) : Nat) : Int)), (6, .pointer (some ⟨w9.heap.size, 0, none⟩)), (5, .slice (some ⟨w7.heap.size, 0, none⟩) ([o.slot, o.at_, o.len].length) ([o.slot, o.at_, o.len].length)), (4, .pointer (some ⟨w5.heap.size, 0, none⟩)), (3, .int .i64 0), (2, .pointer (some ⟨w1.heap.size, 0, none⟩)), (1, .pointer (some ⟨w.heap.size, 0, none⟩))]) rfl (3 - (2 + 1)) (by omega) ⟨2 + 1, l ++ [[o.slot, o.at_, o.len].getD 2 0], a3, c3, rfl, (H26.re rfl), (by first | assumption | omega | simp), (by first | exact ht.in0 c54 | exact ht.no0 c54 c56 | exact ht.in1 c54 | exact ht.no1 c54 c56 | exact ht.in2 c54 | exact ht.no2 c54 c56), rfl⟩
        · skip
          refine W.seq ?_
          refine W.region ?_
          refine WL.op rfl (d_move rfl ?_)
          refine WL.op rfl (d_move rfl ?_)
          refine WL.op rfl (t_addr1 2 (T := (tyI .i64)) rfl Try.underlying51 sz3 rfl rfl (H12.rdT 3 rfl) rfl (by simp) ?_)
          refine WL.op rfl (t_load1 2 0 (T := (tyI .i64)) rfl Try.underlying3 rfl rfl (H12.rdT 3 rfl) (by simp) rfl ?_)
          refine WL.op rfl (d_cmp (decide (([o.slot, o.at_, o.len].getD 2 0) ≠ (0 : Int))) rfl rfl rfl ?_)
          refine WL.done (X.then_code ?_)
          refine W.pick [53, 52, 51, 50, 49, 39, 38, 37, 34, 33, 7, 6, 5, 4, 3, 2, 1] (Γ' := [(53, .bool (decide (([o.slot, o.at_, o.len].getD 2 0) ≠ (0 : Int)))), (52, .int .i64 ([o.slot, o.at_, o.len].getD 2 0)), (51, elemPtr (.slice (some ⟨w7.heap.size, 0, none⟩) ([o.slot, o.at_, o.len].length) ([o.slot, o.at_, o.len].length)) 2), (50, .int .i64 ((2 : Nat) : Int)), (49, .slice (some ⟨w7.heap.size, 0, none⟩) ([o.slot, o.at_, o.len].length) ([o.slot, o.at_, o.len].length)), (39, .bool (cL o.kind)), (38, .pointer (some ⟨w5.heap.size, 2, none⟩)), (37, .int .i64 ((2 : Nat) : Int)), (34, .bool true), (33, .int .i64 ((2 : Nat) : Int)), (7, .int .i64 ((2 : Nat) : Int)), (6, .pointer (some ⟨w9.heap.size, 0, none⟩)), (5, .slice (some ⟨w7.heap.size, 0, none⟩) ([o.slot, o.at_, o.len].length) ([o.slot, o.at_, o.len].length)), (4, .pointer (some ⟨w5.heap.size, 0, none⟩)), (3, .int .i64 0), (2, .pointer (some ⟨w1.heap.size, 0, none⟩)), (1, .pointer (some ⟨w.heap.size, 0, none⟩))]) rfl ?_
          refine W.ite (p := ([o.slot, o.at_, o.len].getD 2 0) ≠ (0 : Int)) rfl (fun c56 => ?_) (fun c56 => ?_)
          · skip
            refine W.seq ?_
            refine W.region ?_
            refine WL.op rfl (d_build (cs := #[.slice none 0 0, .string ⟨#[]⟩]) rfl (by kernel_rfl) ?_)
            refine WL.op0 (d_storeAB (us := [.slice none 0 0, .string ⟨#[]⟩]) (cs' := #[.slice none 0 0, .string ⟨#[]⟩]) sz53 rfl rfl rfl rfl (H12.blk 1 rfl) rfl rfl fun w27 u23 => ?_)
            have H27 : UpG w [] w27 [[blk w.heap.size #[.int .i64 o.kind, .int .i64 o.slot, .int .i64 o.at_, .int .i64 o.len, .string o.text] 55], [blk w1.heap.size #[.slice none 0 0, .string ⟨#[]⟩] 53], [blk w5.heap.size #[.bool (cS o.kind), .bool (cA o.kind), .bool (cL o.kind), .bool (cT o.kind)] 93], [rowT (tyI .i64) (.slice (some ⟨w7.heap.size, 0, none⟩) ([o.slot, o.at_, o.len].length) ([o.slot, o.at_, o.len].length)) 3 [o.slot, o.at_, o.len]], [rowT (tyI .i64) (.slice la l.length lc) 3 l], [blk w9.heap.size #[.slice la l.length lc, .string o.text] 53]] := H12.on 1 rfl u23
            refine WL.op rfl (d_assign rfl ?_)
            refine WL.done (X.then_code ?_)
            refine W.pick [3, 54, 53, 52, 51, 50, 49, 39, 38, 37, 34, 33, 7, 6, 5, 4, 2, 1] (Γ' := [(3, .int .i64 3), (54, .agg #[.slice none 0 0, .string ⟨#[]⟩]), (53, .bool (decide (([o.slot, o.at_, o.len].getD 2 0) ≠ (0 : Int)))), (52, .int .i64 ([o.slot, o.at_, o.len].getD 2 0)), (51, elemPtr (.slice (some ⟨w7.heap.size, 0, none⟩) ([o.slot, o.at_, o.len].length) ([o.slot, o.at_, o.len].length)) 2), (50, .int .i64 ((2 : Nat) : Int)), (49, .slice (some ⟨w7.heap.size, 0, none⟩) ([o.slot, o.at_, o.len].length) ([o.slot, o.at_, o.len].length)), (39, .bool (cL o.kind)), (38, .pointer (some ⟨w5.heap.size, 2, none⟩)), (37, .int .i64 ((2 : Nat) : Int)), (34, .bool true), (33, .int .i64 ((2 : Nat) : Int)), (7, .int .i64 ((2 : Nat) : Int)), (6, .pointer (some ⟨w9.heap.size, 0, none⟩)), (5, .slice (some ⟨w7.heap.size, 0, none⟩) ([o.slot, o.at_, o.len].length) ([o.slot, o.at_, o.len].length)), (4, .pointer (some ⟨w5.heap.size, 0, none⟩)), (2, .pointer (some ⟨w1.heap.size, 0, none⟩)), (1, .pointer (some ⟨w.heap.size, 0, none⟩))]) rfl ?_
            refine W.ret (X.block_ret (X.then_ret (X.then_ret (X.block_ret (X.then_ret (X.retR2 rfl (rv_cellA [.slice none 0 0, .string ⟨#[]⟩] Try.underlying53 rfl sz53 rfl (H27.blk 1 rfl) rfl rfl) (rv_tmp rfl) ?_))))))
            have e : rawR o = (raw0, 3) := by unfold rawR; rw [if_neg (by rw [hok]; simp), if_pos (by first | exact .inl ⟨by simpa using c54, c56⟩ | exact .inr (.inl ⟨by simpa using c54, c56⟩) | exact .inr (.inr (.inl ⟨by simpa using c54, c56⟩)))]
            rw [e]
            exact ⟨none, 0, (by rfl), nilOwn H27⟩
          · skip
            refine W.skip (X.block_normal (X.then_code ?_))
            refine W.pick [53, 52, 51, 50, 49, 39, 38, 37, 34, 33, 7, 6, 5, 4, 3, 2, 1] (Γ' := [(53, .bool (decide (([o.slot, o.at_, o.len].getD 2 0) ≠ (0 : Int)))), (52, .int .i64 ([o.slot, o.at_, o.len].getD 2 0)), (51, elemPtr (.slice (some ⟨w7.heap.size, 0, none⟩) ([o.slot, o.at_, o.len].length) ([o.slot, o.at_, o.len].length)) 2), (50, .int .i64 ((2 : Nat) : Int)), (49, .slice (some ⟨w7.heap.size, 0, none⟩) ([o.slot, o.at_, o.len].length) ([o.slot, o.at_, o.len].length)), (39, .bool (cL o.kind)), (38, .pointer (some ⟨w5.heap.size, 2, none⟩)), (37, .int .i64 ((2 : Nat) : Int)), (34, .bool true), (33, .int .i64 ((2 : Nat) : Int)), (7, .int .i64 ((2 : Nat) : Int)), (6, .pointer (some ⟨w9.heap.size, 0, none⟩)), (5, .slice (some ⟨w7.heap.size, 0, none⟩) ([o.slot, o.at_, o.len].length) ([o.slot, o.at_, o.len].length)), (4, .pointer (some ⟨w5.heap.size, 0, none⟩)), (3, .int .i64 0), (2, .pointer (some ⟨w1.heap.size, 0, none⟩)), (1, .pointer (some ⟨w.heap.size, 0, none⟩))]) rfl ?_
            refine W.region ?_
            refine WL.op rfl (d_move rfl ?_)
            refine WL.op rfl (d_add rfl rfl (by omega) (by omega) ?_)
            refine WL.op rfl (d_assign rfl ?_)
            refine WL.done ?_
            exact X.next [7, 6, 5, 4, 3, 2, 1] (Γ' := [(7, .int .i64 (((2 + 1) : Nat) : Int)), (6, .pointer (some ⟨w9.heap.size, 0, none⟩)), (5, .slice (some ⟨w7.heap.size, 0, none⟩) ([o.slot, o.at_, o.len].length) ([o.slot, o.at_, o.len].length)), (4, .pointer (some ⟨w5.heap.size, 0, none⟩)), (3, .int .i64 0), (2, .pointer (some ⟨w1.heap.size, 0, none⟩)), (1, .pointer (some ⟨w.heap.size, 0, none⟩))]) rfl (3 - (2 + 1)) (by omega) ⟨2 + 1, l, la, lc, rfl, H12, (by first | assumption | omega | simp), (by first | exact ht.in0 c54 | exact ht.no0 c54 c56 | exact ht.in1 c54 | exact ht.no1 c54 c56 | exact ht.in2 c54 | exact ht.no2 c54 c56), rfl⟩
      · skip
        refine W.seq ?_
        refine W.seq ?_
        refine W.region ?_
        refine WL.op rfl (d_move rfl ?_)
        refine WL.op rfl (d_cmp false rfl rfl rfl ?_)
        refine WL.done (X.then_code ?_)
        refine W.iff rfl ?_
        refine W.exit (X.then_exit (X.then_exit (X.block_exit (X.then_code ?_))))
        refine W.seq ?_
        refine W.seq ?_
        refine W.region ?_
        refine WL.op rfl (d_idxAddrArr Try.underlying93 sz4 rfl rfl (by omega) (by omega) ?_)
        refine WL.op rfl (d_loadB Try.underlying4 rfl rfl (H12.blk 2 rfl) rfl ?_)
        refine WL.op rfl (d_notB rfl ?_)
        refine WL.op rfl (d_move rfl ?_)
        refine WL.partB 58 (b := !(cT o.kind)) rfl (fun g60 => ?_) (fun g60 => ?_)
        · skip
          refine WL.opG rfl rfl rfl (d_fieldAddrB fld55_4 rfl rfl ?_)
          refine WL.opG rfl rfl rfl (d_loadB Try.underlying9 rfl rfl (H12.blk 0 rfl) rfl ?_)
          refine WL.opG rfl rfl rfl (d_lenStr Try.underlying9 rfl ?_)
          refine WL.opG rfl rfl rfl (d_cmp (decide (((o.text.size : Nat) : Int) > (0 : Int))) rfl rfl rfl ?_)
          refine WL.op rfl (d_pick rfl rfl ?_)
          refine WL.done (X.then_code ?_)
          refine W.pick [63, 6, 3, 2, 1] (Γ' := [(63, .bool (decide (((o.text.size : Nat) : Int) > (0 : Int)))), (6, .pointer (some ⟨w9.heap.size, 0, none⟩)), (3, .int .i64 0), (2, .pointer (some ⟨w1.heap.size, 0, none⟩)), (1, .pointer (some ⟨w.heap.size, 0, none⟩))]) rfl ?_
          refine W.ite (p := ((o.text.size : Nat) : Int) > (0 : Int)) rfl (fun c60 => ?_) (fun c60 => ?_)
          · skip
            refine W.seq ?_
            refine W.region ?_
            refine WL.op rfl (d_build (cs := #[.slice none 0 0, .string ⟨#[]⟩]) rfl (by kernel_rfl) ?_)
            refine WL.op0 (d_storeAB (us := [.slice none 0 0, .string ⟨#[]⟩]) (cs' := #[.slice none 0 0, .string ⟨#[]⟩]) sz53 rfl rfl rfl rfl (H12.blk 1 rfl) rfl rfl fun w28 u24 => ?_)
            have H28 : UpG w [] w28 [[blk w.heap.size #[.int .i64 o.kind, .int .i64 o.slot, .int .i64 o.at_, .int .i64 o.len, .string o.text] 55], [blk w1.heap.size #[.slice none 0 0, .string ⟨#[]⟩] 53], [blk w5.heap.size #[.bool (cS o.kind), .bool (cA o.kind), .bool (cL o.kind), .bool (cT o.kind)] 93], [rowT (tyI .i64) (.slice (some ⟨w7.heap.size, 0, none⟩) ([o.slot, o.at_, o.len].length) ([o.slot, o.at_, o.len].length)) 3 [o.slot, o.at_, o.len]], [rowT (tyI .i64) (.slice la l.length lc) 3 l], [blk w9.heap.size #[.slice la l.length lc, .string o.text] 53]] := H12.on 1 rfl u24
            refine WL.op rfl (d_assign rfl ?_)
            refine WL.done (X.then_code ?_)
            refine W.ret (X.then_ret (X.retR2 rfl (rv_cellA [.slice none 0 0, .string ⟨#[]⟩] Try.underlying53 rfl sz53 rfl (H28.blk 1 rfl) rfl rfl) (rv_tmp rfl) ?_))
            have e : rawR o = (raw0, 3) := by unfold rawR; rw [if_neg (by rw [hok]; simp), if_pos (.inr (.inr (.inr ⟨by simpa using g60, by omega⟩)))]
            rw [e]
            exact ⟨none, 0, (by rfl), nilOwn H28⟩
          · skip
            refine W.skip (X.then_code ?_)
            refine W.seq ?_
            refine W.seq ?_
            have hl2 := ht.fin
            have hnb : ¬ bad3 o := fun h => h.elim (ht.s (by omega)) (fun h => h.elim (ht.a (by omega)) (fun h => h.elim (ht.n (by omega)) (fun h => by have h1 := h.1; have h2 := h.2; first | omega | (rw [h1] at c60; exact c60 rfl) | (rw [h1] at g60; exact g60 rfl))))
            refine W.region ?_
            refine WL.op rfl (d_fieldAddrB fld55_4 rfl rfl ?_)
            refine WL.op rfl (d_loadB Try.underlying9 rfl rfl (H12.blk 0 rfl) rfl ?_)
            refine WL.op rfl (d_lenStr Try.underlying9 rfl ?_)
            refine WL.op rfl (d_cmp (decide (((o.text.size : Nat) : Int) > (1048576 : Int))) rfl rfl rfl ?_)
            refine WL.done (X.then_code ?_)
            refine W.ite (p := ((o.text.size : Nat) : Int) > (1048576 : Int)) rfl (fun c63 => ?_) (fun c63 => ?_)
            · skip
              refine W.seq ?_
              refine W.region ?_
              refine WL.op rfl (d_build (cs := #[.slice none 0 0, .string ⟨#[]⟩]) rfl (by kernel_rfl) ?_)
              refine WL.op0 (d_storeAB (us := [.slice none 0 0, .string ⟨#[]⟩]) (cs' := #[.slice none 0 0, .string ⟨#[]⟩]) sz53 rfl rfl rfl rfl (H12.blk 1 rfl) rfl rfl fun w29 u25 => ?_)
              have H29 : UpG w [] w29 [[blk w.heap.size #[.int .i64 o.kind, .int .i64 o.slot, .int .i64 o.at_, .int .i64 o.len, .string o.text] 55], [blk w1.heap.size #[.slice none 0 0, .string ⟨#[]⟩] 53], [blk w5.heap.size #[.bool (cS o.kind), .bool (cA o.kind), .bool (cL o.kind), .bool (cT o.kind)] 93], [rowT (tyI .i64) (.slice (some ⟨w7.heap.size, 0, none⟩) ([o.slot, o.at_, o.len].length) ([o.slot, o.at_, o.len].length)) 3 [o.slot, o.at_, o.len]], [rowT (tyI .i64) (.slice la l.length lc) 3 l], [blk w9.heap.size #[.slice la l.length lc, .string o.text] 53]] := H12.on 1 rfl u25
              refine WL.op rfl (d_assign rfl ?_)
              refine WL.done (X.then_code ?_)
              refine W.ret (X.then_ret (X.retR2 rfl (rv_cellA [.slice none 0 0, .string ⟨#[]⟩] Try.underlying53 rfl sz53 rfl (H29.blk 1 rfl) rfl rfl) (rv_tmp rfl) ?_))
              have e : rawR o = (raw0, 4) := by unfold rawR; rw [if_neg (by rw [hok]; simp), if_neg hnb, if_pos (by omega)]
              rw [e]
              exact ⟨none, 0, (by rfl), nilOwn H29⟩
            · skip
              refine W.skip (X.then_code ?_)
              refine W.seq ?_
              refine W.region ?_
              refine WL.op rfl (d_loadAB [.slice la l.length lc, .string o.text] Try.underlying53 rfl sz53 rfl (H12.blk 5 rfl) rfl rfl ?_)
              refine WL.op0 (d_storeAB (us := [.slice la l.length lc, .string o.text]) (cs' := #[.slice la l.length lc, .string o.text]) sz53 rfl rfl rfl rfl (H12.blk 1 rfl) rfl rfl fun w30 u26 => ?_)
              have H30 : UpG w [] w30 [[blk w.heap.size #[.int .i64 o.kind, .int .i64 o.slot, .int .i64 o.at_, .int .i64 o.len, .string o.text] 55], [blk w1.heap.size #[.slice la l.length lc, .string o.text] 53], [blk w5.heap.size #[.bool (cS o.kind), .bool (cA o.kind), .bool (cL o.kind), .bool (cT o.kind)] 93], [rowT (tyI .i64) (.slice (some ⟨w7.heap.size, 0, none⟩) ([o.slot, o.at_, o.len].length) ([o.slot, o.at_, o.len].length)) 3 [o.slot, o.at_, o.len]], [rowT (tyI .i64) (.slice la l.length lc) 3 l], [blk w9.heap.size #[.slice la l.length lc, .string o.text] 53]] := H12.on 1 rfl u26
              refine WL.op rfl (d_assign rfl ?_)
              refine WL.done (X.then_code ?_)
              refine W.ret (X.retR2 rfl (rv_cellA [.slice la l.length lc, .string o.text] Try.underlying53 rfl sz53 rfl (H30.blk 1 rfl) rfl rfl) (rv_tmp rfl) ?_)
              have e : rawR o = (⟨l, o.text⟩, 0) := by unfold rawR; rw [if_neg (by rw [hok]; simp), if_neg hnb, if_neg (by omega), ← hl2]
              rw [e]
              exact ⟨la, lc, (by rfl), (by have hh := H30.one 4 rfl; exact hh)⟩
        · skip
          refine WL.opN rfl rfl rfl rfl ?_
          refine WL.opN rfl rfl rfl rfl ?_
          refine WL.opN rfl rfl rfl rfl ?_
          refine WL.opN rfl rfl rfl rfl ?_
          refine WL.op rfl (d_pick rfl rfl ?_)
          refine WL.done (X.then_code ?_)
          refine W.pick [63, 6, 3, 2, 1] (Γ' := [(63, .bool false), (6, .pointer (some ⟨w9.heap.size, 0, none⟩)), (3, .int .i64 0), (2, .pointer (some ⟨w1.heap.size, 0, none⟩)), (1, .pointer (some ⟨w.heap.size, 0, none⟩))]) rfl ?_
          refine W.iff rfl ?_
          refine W.skip (X.then_code ?_)
          refine W.seq ?_
          refine W.seq ?_
          have hl2 := ht.fin
          have hnb : ¬ bad3 o := fun h => h.elim (ht.s (by omega)) (fun h => h.elim (ht.a (by omega)) (fun h => h.elim (ht.n (by omega)) (fun h => by have h1 := h.1; have h2 := h.2; first | omega | (rw [h1] at c60; exact c60 rfl) | (rw [h1] at g60; exact g60 rfl))))
          refine W.region ?_
          refine WL.op rfl (d_fieldAddrB fld55_4 rfl rfl ?_)
          refine WL.op rfl (d_loadB Try.underlying9 rfl rfl (H12.blk 0 rfl) rfl ?_)
          refine WL.op rfl (d_lenStr Try.underlying9 rfl ?_)
          refine WL.op rfl (d_cmp (decide (((o.text.size : Nat) : Int) > (1048576 : Int))) rfl rfl rfl ?_)
          refine WL.done (X.then_code ?_)
          refine W.ite (p := ((o.text.size : Nat) : Int) > (1048576 : Int)) rfl (fun c63 => ?_) (fun c63 => ?_)
          · skip
            refine W.seq ?_
            refine W.region ?_
            refine WL.op rfl (d_build (cs := #[.slice none 0 0, .string ⟨#[]⟩]) rfl (by kernel_rfl) ?_)
            refine WL.op0 (d_storeAB (us := [.slice none 0 0, .string ⟨#[]⟩]) (cs' := #[.slice none 0 0, .string ⟨#[]⟩]) sz53 rfl rfl rfl rfl (H12.blk 1 rfl) rfl rfl fun w31 u27 => ?_)
            have H31 : UpG w [] w31 [[blk w.heap.size #[.int .i64 o.kind, .int .i64 o.slot, .int .i64 o.at_, .int .i64 o.len, .string o.text] 55], [blk w1.heap.size #[.slice none 0 0, .string ⟨#[]⟩] 53], [blk w5.heap.size #[.bool (cS o.kind), .bool (cA o.kind), .bool (cL o.kind), .bool (cT o.kind)] 93], [rowT (tyI .i64) (.slice (some ⟨w7.heap.size, 0, none⟩) ([o.slot, o.at_, o.len].length) ([o.slot, o.at_, o.len].length)) 3 [o.slot, o.at_, o.len]], [rowT (tyI .i64) (.slice la l.length lc) 3 l], [blk w9.heap.size #[.slice la l.length lc, .string o.text] 53]] := H12.on 1 rfl u27
            refine WL.op rfl (d_assign rfl ?_)
            refine WL.done (X.then_code ?_)
            refine W.ret (X.then_ret (X.retR2 rfl (rv_cellA [.slice none 0 0, .string ⟨#[]⟩] Try.underlying53 rfl sz53 rfl (H31.blk 1 rfl) rfl rfl) (rv_tmp rfl) ?_))
            have e : rawR o = (raw0, 4) := by unfold rawR; rw [if_neg (by rw [hok]; simp), if_neg hnb, if_pos (by omega)]
            rw [e]
            exact ⟨none, 0, (by rfl), nilOwn H31⟩
          · skip
            refine W.skip (X.then_code ?_)
            refine W.seq ?_
            refine W.region ?_
            refine WL.op rfl (d_loadAB [.slice la l.length lc, .string o.text] Try.underlying53 rfl sz53 rfl (H12.blk 5 rfl) rfl rfl ?_)
            refine WL.op0 (d_storeAB (us := [.slice la l.length lc, .string o.text]) (cs' := #[.slice la l.length lc, .string o.text]) sz53 rfl rfl rfl rfl (H12.blk 1 rfl) rfl rfl fun w32 u28 => ?_)
            have H32 : UpG w [] w32 [[blk w.heap.size #[.int .i64 o.kind, .int .i64 o.slot, .int .i64 o.at_, .int .i64 o.len, .string o.text] 55], [blk w1.heap.size #[.slice la l.length lc, .string o.text] 53], [blk w5.heap.size #[.bool (cS o.kind), .bool (cA o.kind), .bool (cL o.kind), .bool (cT o.kind)] 93], [rowT (tyI .i64) (.slice (some ⟨w7.heap.size, 0, none⟩) ([o.slot, o.at_, o.len].length) ([o.slot, o.at_, o.len].length)) 3 [o.slot, o.at_, o.len]], [rowT (tyI .i64) (.slice la l.length lc) 3 l], [blk w9.heap.size #[.slice la l.length lc, .string o.text] 53]] := H12.on 1 rfl u28
            refine WL.op rfl (d_assign rfl ?_)
            refine WL.done (X.then_code ?_)
            refine W.ret (X.retR2 rfl (rv_cellA [.slice la l.length lc, .string o.text] Try.underlying53 rfl sz53 rfl (H32.blk 1 rfl) rfl rfl) (rv_tmp rfl) ?_)
            have e : rawR o = (⟨l, o.text⟩, 0) := by unfold rawR; rw [if_neg (by rw [hok]; simp), if_neg hnb, if_neg (by omega), ← hl2]
            rw [e]
            exact ⟨la, lc, (by rfl), (by have hh := H32.one 4 rfl; exact hh)⟩

set_option maxRecDepth 20000 in
theorem rawSame_any (a : RawD) (aa : Option Addr) (ac : Nat) (b : RawD) (ba : Option Addr) (bc : Nat) (w : World) (ra : RdT (tyI .i64) w (.slice aa a.nums.length ac) a.nums) (rb : RdT (tyI .i64) w (.slice ba b.nums.length bc) b.nums) :
    Calls Try.prog 28 #[.agg #[.slice aa a.nums.length ac, .string a.text], .agg #[.slice ba b.nums.length bc, .string b.text]] w (Ret fun v w' => v = .bool (decide (a.nums = b.nums ∧ a.text = b.text)) ∧ Upd w [] w' []) := by
  have le_ra := ra.le
  have le_rb := rb.le
  refine calls_of_W (args := [.agg #[.slice aa a.nums.length ac, .string a.text], .agg #[.slice ba b.nums.length bc, .string b.text]]) Try.func28 rfl rfl rfl ?_
  have H0 : UpG w [] w [] := UpG.nil w
  show W _ _ _ _ [(0, .agg #[.slice aa a.nums.length ac, .string a.text]), (1, .agg #[.slice ba b.nums.length bc, .string b.text])] w
  refine W.seq ?_
  refine W.region ?_
  refine WL.op rfl (d_box rfl fun w1 u1 => ?_)
  have H1 : UpG w [] w1 [[blk w.heap.size #[.slice aa a.nums.length ac, .string a.text] 53]] := H0.new' u1
  refine WL.op rfl (d_box rfl fun w2 u2 => ?_)
  have H2 : UpG w [] w2 [[blk w.heap.size #[.slice aa a.nums.length ac, .string a.text] 53], [blk w1.heap.size #[.slice ba b.nums.length bc, .string b.text] 53]] := H1.new' u2
  refine WL.op rfl (d_assign rfl ?_)
  refine WL.done (X.then_code ?_)
  refine W.seq ?_
  refine W.seq ?_
  refine W.region ?_
  refine WL.op rfl (d_fieldAddrB fld53_0 rfl rfl ?_)
  refine WL.op rfl (d_loadB Try.underlying51 rfl rfl (H2.blk 0 rfl) rfl ?_)
  refine WL.op rfl (d_lenS Try.underlying51 rfl ?_)
  refine WL.op rfl (d_fieldAddrB fld53_0 rfl rfl ?_)
  refine WL.op rfl (d_loadB Try.underlying51 rfl rfl (H2.blk 1 rfl) rfl ?_)
  refine WL.op rfl (d_lenS Try.underlying51 rfl ?_)
  refine WL.op rfl (d_cmp (decide (((a.nums.length : Nat) : Int) ≠ ((b.nums.length : Nat) : Int))) rfl rfl rfl ?_)
  refine WL.op rfl (d_move rfl ?_)
  refine WL.part 13 (p := ((a.nums.length : Nat) : Int) ≠ ((b.nums.length : Nat) : Int)) rfl (fun g71 => ?_) (fun g71 => ?_)
  · skip
    refine WL.opN rfl rfl rfl rfl ?_
    refine WL.opN rfl rfl rfl rfl ?_
    refine WL.opN rfl rfl rfl rfl ?_
    refine WL.opN rfl rfl rfl rfl ?_
    refine WL.opN rfl rfl rfl rfl ?_
    refine WL.op rfl (d_pick rfl rfl ?_)
    refine WL.done (X.then_code ?_)
    refine W.pick [19, 4, 3, 2] (Γ' := [(19, .bool true), (4, .bool false), (3, .pointer (some ⟨w1.heap.size, 0, none⟩)), (2, .pointer (some ⟨w.heap.size, 0, none⟩))]) rfl ?_
    refine W.ift rfl ?_
    refine W.seq ?_
    refine W.region ?_
    refine WL.op rfl (d_assign rfl ?_)
    refine WL.done (X.then_code ?_)
    refine W.ret (X.then_ret (X.ret1 rfl rfl ?_))
    have hne : ¬ (a.nums = b.nums ∧ a.text = b.text) := fun h => by first | (have h1 := h.1; rw [h1] at g71; exact g71 rfl) | exact c71 h.2
    exact ⟨(by rw [decide_eq_false hne]), H2.noneL⟩
  · skip
    refine WL.opG rfl rfl rfl (d_fieldAddrB fld53_1 rfl rfl ?_)
    refine WL.opG rfl rfl rfl (d_loadB Try.underlying9 rfl rfl (H2.blk 0 rfl) rfl ?_)
    refine WL.opG rfl rfl rfl (d_fieldAddrB fld53_1 rfl rfl ?_)
    refine WL.opG rfl rfl rfl (d_loadB Try.underlying9 rfl rfl (H2.blk 1 rfl) rfl ?_)
    refine WL.opG rfl rfl rfl (d_strne rfl rfl ?_)
    refine WL.op rfl (d_pick rfl rfl ?_)
    refine WL.done (X.then_code ?_)
    refine W.pick [19, 4, 3, 2] (Γ' := [(19, .bool (decide (a.text ≠ b.text))), (4, .bool false), (3, .pointer (some ⟨w1.heap.size, 0, none⟩)), (2, .pointer (some ⟨w.heap.size, 0, none⟩))]) rfl ?_
    refine W.ite (p := a.text ≠ b.text) rfl (fun c71 => ?_) (fun c71 => ?_)
    · skip
      refine W.seq ?_
      refine W.region ?_
      refine WL.op rfl (d_assign rfl ?_)
      refine WL.done (X.then_code ?_)
      refine W.ret (X.then_ret (X.ret1 rfl rfl ?_))
      have hne : ¬ (a.nums = b.nums ∧ a.text = b.text) := fun h => by first | (have h1 := h.1; rw [h1] at g71; exact g71 rfl) | exact c71 h.2
      exact ⟨(by rw [decide_eq_false hne]), H2.noneL⟩
    · skip
      refine W.skip (X.then_code ?_)
      refine W.seq ?_
      refine W.seq ?_
      refine W.region ?_
      refine WL.op rfl (d_assign rfl ?_)
      refine WL.done (X.then_code ?_)
      refine W.block ?_
      refine W.pick [5, 4, 3, 2] (Γ' := [(5, .int .i64 0), (4, .bool false), (3, .pointer (some ⟨w1.heap.size, 0, none⟩)), (2, .pointer (some ⟨w.heap.size, 0, none⟩))]) rfl ?_
      refine W.loop (fun m Γ' w' => ∃ k : Nat, Γ' = [(5, .int .i64 ((k : Nat) : Int)), (4, .bool false), (3, .pointer (some ⟨w1.heap.size, 0, none⟩)), (2, .pointer (some ⟨w.heap.size, 0, none⟩))] ∧ UpG w [] w' [[blk w.heap.size #[.slice aa a.nums.length ac, .string a.text] 53], [blk w1.heap.size #[.slice ba b.nums.length bc, .string b.text] 53]] ∧ (k ≤ a.nums.length) ∧ (a.nums.take k = b.nums.take k) ∧ m = a.nums.length - k) (a.nums.length - 0) ⟨0, rfl, H2, (by first | assumption | omega | simp), (by simp), rfl⟩ ?_
      rintro m1 Γ1 w3 ⟨k, rfl, H3, hk, hs, rfl⟩
      refine W.seq ?_
      refine W.seq ?_
      refine W.region ?_
      refine WL.op rfl (d_move rfl ?_)
      refine WL.op rfl (d_fieldAddrB fld53_0 rfl rfl ?_)
      refine WL.op rfl (d_loadB Try.underlying51 rfl rfl (H3.blk 0 rfl) rfl ?_)
      refine WL.op rfl (d_lenS Try.underlying51 rfl ?_)
      refine WL.op rfl (d_cmp (decide (((k : Nat) : Int) < ((a.nums.length : Nat) : Int))) rfl rfl rfl ?_)
      refine WL.done (X.then_code ?_)
      refine W.ite (p := ((k : Nat) : Int) < ((a.nums.length : Nat) : Int)) rfl (fun c74 => ?_) (fun c74 => ?_)
      · skip
        refine W.skip (X.then_code ?_)
        refine W.seq ?_
        refine W.block ?_
        refine W.seq ?_
        refine W.regionD mixed (by kernel_rfl) fun hok1 w4 k1 => ?_
        have H4 : UpG w [] w4 [[blk w.heap.size #[.slice aa a.nums.length ac, .string a.text] 53], [blk w1.heap.size #[.slice ba b.nums.length bc, .string b.text] 53]] := H3.kept k1
        refine WD.take hok1 0 (.pointer (some ⟨w.heap.size, 0, none⟩)) (fun _ => True) rfl rfl rfl rfl rfl trivial (.inl ⟨rfl, fun _ _ => d_fieldAddrB fld53_0 rfl rfl ⟨rfl, rfl⟩⟩) ?_
        refine WD.take hok1 1 (.slice aa a.nums.length ac) (fun w' => w'.heap[w.heap.size]? = some (.cells #[.slice aa a.nums.length ac, .string a.text] 53 (0, 0))) rfl rfl rfl rfl rfl (H4.blk 0 rfl) (.inl ⟨rfl, fun _ hC => d_loadB Try.underlying51 rfl rfl hC rfl ⟨rfl, rfl⟩⟩) ?_
        refine WD.take hok1 2 (.int .i64 ((k : Nat) : Int)) (fun _ => True) rfl rfl rfl rfl rfl trivial (.inl ⟨rfl, fun _ _ => d_move rfl ⟨rfl, rfl⟩⟩) ?_
        refine WD.take hok1 3 (elemPtr (.slice aa a.nums.length ac) k) (fun w' => RdT (tyI .i64) w' (.slice aa a.nums.length ac) a.nums) rfl rfl rfl rfl rfl (ra.at H4) (.inl ⟨rfl, fun _ hC => t_addr1 k (T := (tyI .i64)) rfl Try.underlying51 sz3 rfl rfl hC rfl (by omega) ⟨rfl, rfl⟩⟩) ?_
        refine WD.take hok1 4 (.int .i64 (a.nums.getD k 0)) (fun w' => RdT (tyI .i64) w' (.slice aa a.nums.length ac) a.nums) rfl rfl rfl rfl rfl (ra.at H4) (.inl ⟨rfl, fun _ hC => t_load1 k 0 (T := (tyI .i64)) rfl Try.underlying3 rfl rfl hC (by omega) rfl ⟨rfl, rfl⟩⟩) ?_
        refine WD.take hok1 5 (.pointer (some ⟨w1.heap.size, 0, none⟩)) (fun _ => True) rfl rfl rfl rfl rfl trivial (.inl ⟨rfl, fun _ _ => d_fieldAddrB fld53_0 rfl rfl ⟨rfl, rfl⟩⟩) ?_
        refine WD.take hok1 6 (.slice ba b.nums.length bc) (fun w' => w'.heap[w1.heap.size]? = some (.cells #[.slice ba b.nums.length bc, .string b.text] 53 (0, 0))) rfl rfl rfl rfl rfl (H4.blk 1 rfl) (.inl ⟨rfl, fun _ hC => d_loadB Try.underlying51 rfl rfl hC rfl ⟨rfl, rfl⟩⟩) ?_
        refine WD.take hok1 7 (.int .i64 ((k : Nat) : Int)) (fun _ => True) rfl rfl rfl rfl rfl trivial (.inl ⟨rfl, fun _ _ => d_move rfl ⟨rfl, rfl⟩⟩) ?_
        refine WD.take hok1 8 (elemPtr (.slice ba b.nums.length bc) k) (fun w' => RdT (tyI .i64) w' (.slice ba b.nums.length bc) b.nums) rfl rfl rfl rfl rfl (rb.at H4) (.inl ⟨rfl, fun _ hC => t_addr1 k (T := (tyI .i64)) rfl Try.underlying51 sz3 rfl rfl hC rfl (by omega) ⟨rfl, rfl⟩⟩) ?_
        refine WD.take hok1 9 (.int .i64 (b.nums.getD k 0)) (fun w' => RdT (tyI .i64) w' (.slice ba b.nums.length bc) b.nums) rfl rfl rfl rfl rfl (rb.at H4) (.inl ⟨rfl, fun _ hC => t_load1 k 0 (T := (tyI .i64)) rfl Try.underlying3 rfl rfl hC (by omega) rfl ⟨rfl, rfl⟩⟩) ?_
        refine WD.take hok1 10 (.bool (decide ((a.nums.getD k 0) ≠ (b.nums.getD k 0)))) (fun _ => True) rfl rfl rfl rfl rfl trivial (.inl ⟨rfl, fun _ _ => d_cmp (decide ((a.nums.getD k 0) ≠ (b.nums.getD k 0))) rfl rfl rfl ⟨rfl, rfl⟩⟩) ?_
        refine WD.done hok1 rfl (X.then_code ?_)
        refine W.pick [37, 36, 35, 34, 33, 32, 31, 30, 29, 28, 27, 24, 23, 22, 21, 20, 5, 4, 3, 2] (Γ' := [(37, .bool (decide ((a.nums.getD k 0) ≠ (b.nums.getD k 0)))), (36, .int .i64 (b.nums.getD k 0)), (35, elemPtr (.slice ba b.nums.length bc) k), (34, .int .i64 ((k : Nat) : Int)), (33, .slice ba b.nums.length bc), (32, .pointer (some ⟨w1.heap.size, 0, none⟩)), (31, .int .i64 (a.nums.getD k 0)), (30, elemPtr (.slice aa a.nums.length ac) k), (29, .int .i64 ((k : Nat) : Int)), (28, .slice aa a.nums.length ac), (27, .pointer (some ⟨w.heap.size, 0, none⟩)), (24, .bool (decide (((k : Nat) : Int) < ((a.nums.length : Nat) : Int)))), (23, .int .i64 ((a.nums.length : Nat) : Int)), (22, .slice aa a.nums.length ac), (21, .pointer (some ⟨w.heap.size, 0, none⟩)), (20, .int .i64 ((k : Nat) : Int)), (5, .int .i64 ((k : Nat) : Int)), (4, .bool false), (3, .pointer (some ⟨w1.heap.size, 0, none⟩)), (2, .pointer (some ⟨w.heap.size, 0, none⟩))]) rfl ?_
        refine W.ite (p := (a.nums.getD k 0) ≠ (b.nums.getD k 0)) rfl (fun c75 => ?_) (fun c75 => ?_)
        · skip
          refine W.seq ?_
          refine W.region ?_
          refine WL.op rfl (d_assign rfl ?_)
          refine WL.done (X.then_code ?_)
          refine W.pick [4, 37, 36, 35, 34, 33, 32, 31, 30, 29, 28, 27, 24, 23, 22, 21, 20, 5, 3, 2] (Γ' := [(4, .bool false), (37, .bool (decide ((a.nums.getD k 0) ≠ (b.nums.getD k 0)))), (36, .int .i64 (b.nums.getD k 0)), (35, elemPtr (.slice ba b.nums.length bc) k), (34, .int .i64 ((k : Nat) : Int)), (33, .slice ba b.nums.length bc), (32, .pointer (some ⟨w1.heap.size, 0, none⟩)), (31, .int .i64 (a.nums.getD k 0)), (30, elemPtr (.slice aa a.nums.length ac) k), (29, .int .i64 ((k : Nat) : Int)), (28, .slice aa a.nums.length ac), (27, .pointer (some ⟨w.heap.size, 0, none⟩)), (24, .bool (decide (((k : Nat) : Int) < ((a.nums.length : Nat) : Int)))), (23, .int .i64 ((a.nums.length : Nat) : Int)), (22, .slice aa a.nums.length ac), (21, .pointer (some ⟨w.heap.size, 0, none⟩)), (20, .int .i64 ((k : Nat) : Int)), (5, .int .i64 ((k : Nat) : Int)), (3, .pointer (some ⟨w1.heap.size, 0, none⟩)), (2, .pointer (some ⟨w.heap.size, 0, none⟩))]) rfl ?_
          refine W.ret (X.block_ret (X.then_ret (X.then_ret (X.block_ret (X.then_ret (X.ret1 rfl rfl ?_))))))
          have hne : ¬ (a.nums = b.nums ∧ a.text = b.text) := fun h => by have h1 := h.1; rw [h1] at c75; exact c75 rfl
          exact ⟨(by rw [decide_eq_false hne]), H4.noneL⟩
        · skip
          refine W.skip (X.block_normal (X.then_code ?_))
          refine W.pick [37, 36, 35, 34, 33, 32, 31, 30, 29, 28, 27, 24, 23, 22, 21, 20, 5, 4, 3, 2] (Γ' := [(37, .bool (decide ((a.nums.getD k 0) ≠ (b.nums.getD k 0)))), (36, .int .i64 (b.nums.getD k 0)), (35, elemPtr (.slice ba b.nums.length bc) k), (34, .int .i64 ((k : Nat) : Int)), (33, .slice ba b.nums.length bc), (32, .pointer (some ⟨w1.heap.size, 0, none⟩)), (31, .int .i64 (a.nums.getD k 0)), (30, elemPtr (.slice aa a.nums.length ac) k), (29, .int .i64 ((k : Nat) : Int)), (28, .slice aa a.nums.length ac), (27, .pointer (some ⟨w.heap.size, 0, none⟩)), (24, .bool (decide (((k : Nat) : Int) < ((a.nums.length : Nat) : Int)))), (23, .int .i64 ((a.nums.length : Nat) : Int)), (22, .slice aa a.nums.length ac), (21, .pointer (some ⟨w.heap.size, 0, none⟩)), (20, .int .i64 ((k : Nat) : Int)), (5, .int .i64 ((k : Nat) : Int)), (4, .bool false), (3, .pointer (some ⟨w1.heap.size, 0, none⟩)), (2, .pointer (some ⟨w.heap.size, 0, none⟩))]) rfl ?_
          refine W.region ?_
          refine WL.op rfl (d_move rfl ?_)
          refine WL.op rfl (d_add rfl rfl (by omega) (by omega) ?_)
          refine WL.op rfl (d_assign rfl ?_)
          refine WL.done ?_
          exact X.next [5, 4, 3, 2] (Γ' := [(5, .int .i64 (((k + 1) : Nat) : Int)), (4, .bool false), (3, .pointer (some ⟨w1.heap.size, 0, none⟩)), (2, .pointer (some ⟨w.heap.size, 0, none⟩))]) rfl (a.nums.length - (k + 1)) (by omega) ⟨k + 1, rfl, H4, (by first | assumption | omega | simp), (by exact take_sameI hs (by omega) (by omega) (by simpa using c75)), rfl⟩
      · skip
        refine W.exit (X.then_exit (X.then_exit (X.block_exit (X.then_code ?_))))
        refine W.seq ?_
        refine W.region ?_
        refine WL.op rfl (d_assign rfl ?_)
        refine WL.done (X.then_code ?_)
        refine W.ret (X.ret1 rfl rfl ?_)
        have he : a.nums = b.nums ∧ a.text = b.text := ⟨same_takeI hs (by omega) (by omega), by simpa using c71⟩
        exact ⟨(by rw [decide_eq_true he]), H3.noneL⟩

set_option maxRecDepth 20000 in
theorem names_any  (w : World) :
    Calls Try.prog 30 #[] w (Ret fun v w' => ∃ a2 : Option Addr, ∃ c2 : Nat, v = .slice a2 opNames.length c2 ∧ Upd w [] w' [rowT tyS (.slice a2 opNames.length c2) 9 opNames]) := by
  refine calls_of_W (args := []) Try.func30 rfl rfl rfl ?_
  have H0 : UpG w [] w [] := UpG.nil w
  show W _ _ _ _ [] w
  refine W.seq ?_
  refine W.region ?_
  refine WL.op rfl (d_assign rfl ?_)
  refine WL.done (X.then_code ?_)
  refine W.seq ?_
  refine W.region ?_
  refine WL.op rfl (t_buildSlice (T := tyS) (xs := [(⟨#[105, 110, 115, 101, 114, 116]⟩ : ByteArray), (⟨#[100, 101, 108, 101, 116, 101]⟩ : ByteArray), (⟨#[114, 101, 112, 108, 97, 99, 101]⟩ : ByteArray), (⟨#[117, 110, 100, 111]⟩ : ByteArray), (⟨#[114, 101, 100, 111]⟩ : ByteArray), (⟨#[114, 101, 103, 105, 115, 116, 101, 114]⟩ : ByteArray), (⟨#[102, 111, 114, 103, 101, 116]⟩ : ByteArray), (⟨#[99, 111, 117, 110, 116]⟩ : ByteArray), (⟨#[110, 101, 120, 116]⟩ : ByteArray), (⟨#[112, 114, 101, 118]⟩ : ByteArray), (⟨#[108, 105, 115, 116]⟩ : ByteArray), (⟨#[105, 115]⟩ : ByteArray), (⟨#[101, 110, 100]⟩ : ByteArray), (⟨#[114, 101, 97, 100]⟩ : ByteArray), (⟨#[115, 105, 122, 101]⟩ : ByteArray), (⟨#[108, 105, 110, 101]⟩ : ByteArray), (⟨#[111, 102, 102, 115, 101, 116]⟩ : ByteArray), (⟨#[115, 119, 97, 112]⟩ : ByteArray), (⟨#[109, 97, 114, 107]⟩ : ByteArray), (⟨#[112, 108, 97, 99, 101]⟩ : ByteArray), (⟨#[119, 97, 116, 99, 104]⟩ : ByteArray), (⟨#[109, 101, 114, 103, 101]⟩ : ByteArray), (⟨#[101, 118, 105, 99, 116]⟩ : ByteArray), (⟨#[99, 111, 109, 112, 97, 99, 116]⟩ : ByteArray)]) (cs := #[.string ⟨#[105, 110, 115, 101, 114, 116]⟩, .string ⟨#[100, 101, 108, 101, 116, 101]⟩, .string ⟨#[114, 101, 112, 108, 97, 99, 101]⟩, .string ⟨#[117, 110, 100, 111]⟩, .string ⟨#[114, 101, 100, 111]⟩, .string ⟨#[114, 101, 103, 105, 115, 116, 101, 114]⟩, .string ⟨#[102, 111, 114, 103, 101, 116]⟩, .string ⟨#[99, 111, 117, 110, 116]⟩, .string ⟨#[110, 101, 120, 116]⟩, .string ⟨#[112, 114, 101, 118]⟩, .string ⟨#[108, 105, 115, 116]⟩, .string ⟨#[105, 115]⟩, .string ⟨#[101, 110, 100]⟩, .string ⟨#[114, 101, 97, 100]⟩, .string ⟨#[115, 105, 122, 101]⟩, .string ⟨#[108, 105, 110, 101]⟩, .string ⟨#[111, 102, 102, 115, 101, 116]⟩, .string ⟨#[115, 119, 97, 112]⟩, .string ⟨#[109, 97, 114, 107]⟩, .string ⟨#[112, 108, 97, 99, 101]⟩, .string ⟨#[119, 97, 116, 99, 104]⟩, .string ⟨#[109, 101, 114, 103, 101]⟩, .string ⟨#[101, 118, 105, 99, 116]⟩, .string ⟨#[99, 111, 109, 112, 97, 99, 116]⟩]) rfl Try.underlying26 sz9 rfl rfl rfl rfl (by kernel_rfl) rfl rfl fun w1 u1 => ?_)
  have H1 : UpG w [] w1 [[rowT tyS (.slice (some ⟨w.heap.size, 0, none⟩) ([(⟨#[105, 110, 115, 101, 114, 116]⟩ : ByteArray), (⟨#[100, 101, 108, 101, 116, 101]⟩ : ByteArray), (⟨#[114, 101, 112, 108, 97, 99, 101]⟩ : ByteArray), (⟨#[117, 110, 100, 111]⟩ : ByteArray), (⟨#[114, 101, 100, 111]⟩ : ByteArray), (⟨#[114, 101, 103, 105, 115, 116, 101, 114]⟩ : ByteArray), (⟨#[102, 111, 114, 103, 101, 116]⟩ : ByteArray), (⟨#[99, 111, 117, 110, 116]⟩ : ByteArray), (⟨#[110, 101, 120, 116]⟩ : ByteArray), (⟨#[112, 114, 101, 118]⟩ : ByteArray), (⟨#[108, 105, 115, 116]⟩ : ByteArray), (⟨#[105, 115]⟩ : ByteArray), (⟨#[101, 110, 100]⟩ : ByteArray), (⟨#[114, 101, 97, 100]⟩ : ByteArray), (⟨#[115, 105, 122, 101]⟩ : ByteArray), (⟨#[108, 105, 110, 101]⟩ : ByteArray), (⟨#[111, 102, 102, 115, 101, 116]⟩ : ByteArray), (⟨#[115, 119, 97, 112]⟩ : ByteArray), (⟨#[109, 97, 114, 107]⟩ : ByteArray), (⟨#[112, 108, 97, 99, 101]⟩ : ByteArray), (⟨#[119, 97, 116, 99, 104]⟩ : ByteArray), (⟨#[109, 101, 114, 103, 101]⟩ : ByteArray), (⟨#[101, 118, 105, 99, 116]⟩ : ByteArray), (⟨#[99, 111, 109, 112, 97, 99, 116]⟩ : ByteArray)].length) ([(⟨#[105, 110, 115, 101, 114, 116]⟩ : ByteArray), (⟨#[100, 101, 108, 101, 116, 101]⟩ : ByteArray), (⟨#[114, 101, 112, 108, 97, 99, 101]⟩ : ByteArray), (⟨#[117, 110, 100, 111]⟩ : ByteArray), (⟨#[114, 101, 100, 111]⟩ : ByteArray), (⟨#[114, 101, 103, 105, 115, 116, 101, 114]⟩ : ByteArray), (⟨#[102, 111, 114, 103, 101, 116]⟩ : ByteArray), (⟨#[99, 111, 117, 110, 116]⟩ : ByteArray), (⟨#[110, 101, 120, 116]⟩ : ByteArray), (⟨#[112, 114, 101, 118]⟩ : ByteArray), (⟨#[108, 105, 115, 116]⟩ : ByteArray), (⟨#[105, 115]⟩ : ByteArray), (⟨#[101, 110, 100]⟩ : ByteArray), (⟨#[114, 101, 97, 100]⟩ : ByteArray), (⟨#[115, 105, 122, 101]⟩ : ByteArray), (⟨#[108, 105, 110, 101]⟩ : ByteArray), (⟨#[111, 102, 102, 115, 101, 116]⟩ : ByteArray), (⟨#[115, 119, 97, 112]⟩ : ByteArray), (⟨#[109, 97, 114, 107]⟩ : ByteArray), (⟨#[112, 108, 97, 99, 101]⟩ : ByteArray), (⟨#[119, 97, 116, 99, 104]⟩ : ByteArray), (⟨#[109, 101, 114, 103, 101]⟩ : ByteArray), (⟨#[101, 118, 105, 99, 116]⟩ : ByteArray), (⟨#[99, 111, 109, 112, 97, 99, 116]⟩ : ByteArray)].length)) 9 [(⟨#[105, 110, 115, 101, 114, 116]⟩ : ByteArray), (⟨#[100, 101, 108, 101, 116, 101]⟩ : ByteArray), (⟨#[114, 101, 112, 108, 97, 99, 101]⟩ : ByteArray), (⟨#[117, 110, 100, 111]⟩ : ByteArray), (⟨#[114, 101, 100, 111]⟩ : ByteArray), (⟨#[114, 101, 103, 105, 115, 116, 101, 114]⟩ : ByteArray), (⟨#[102, 111, 114, 103, 101, 116]⟩ : ByteArray), (⟨#[99, 111, 117, 110, 116]⟩ : ByteArray), (⟨#[110, 101, 120, 116]⟩ : ByteArray), (⟨#[112, 114, 101, 118]⟩ : ByteArray), (⟨#[108, 105, 115, 116]⟩ : ByteArray), (⟨#[105, 115]⟩ : ByteArray), (⟨#[101, 110, 100]⟩ : ByteArray), (⟨#[114, 101, 97, 100]⟩ : ByteArray), (⟨#[115, 105, 122, 101]⟩ : ByteArray), (⟨#[108, 105, 110, 101]⟩ : ByteArray), (⟨#[111, 102, 102, 115, 101, 116]⟩ : ByteArray), (⟨#[115, 119, 97, 112]⟩ : ByteArray), (⟨#[109, 97, 114, 107]⟩ : ByteArray), (⟨#[112, 108, 97, 99, 101]⟩ : ByteArray), (⟨#[119, 97, 116, 99, 104]⟩ : ByteArray), (⟨#[109, 101, 114, 103, 101]⟩ : ByteArray), (⟨#[101, 118, 105, 99, 116]⟩ : ByteArray), (⟨#[99, 111, 109, 112, 97, 99, 116]⟩ : ByteArray)]]] := H0.new' u1
  refine WL.op rfl (d_assign rfl ?_)
  refine WL.done (X.then_code ?_)
  refine W.ret (X.ret1 rfl rfl ?_)
  exact ⟨(some ⟨w.heap.size, 0, none⟩), [(⟨#[105, 110, 115, 101, 114, 116]⟩ : ByteArray), (⟨#[100, 101, 108, 101, 116, 101]⟩ : ByteArray), (⟨#[114, 101, 112, 108, 97, 99, 101]⟩ : ByteArray), (⟨#[117, 110, 100, 111]⟩ : ByteArray), (⟨#[114, 101, 100, 111]⟩ : ByteArray), (⟨#[114, 101, 103, 105, 115, 116, 101, 114]⟩ : ByteArray), (⟨#[102, 111, 114, 103, 101, 116]⟩ : ByteArray), (⟨#[99, 111, 117, 110, 116]⟩ : ByteArray), (⟨#[110, 101, 120, 116]⟩ : ByteArray), (⟨#[112, 114, 101, 118]⟩ : ByteArray), (⟨#[108, 105, 115, 116]⟩ : ByteArray), (⟨#[105, 115]⟩ : ByteArray), (⟨#[101, 110, 100]⟩ : ByteArray), (⟨#[114, 101, 97, 100]⟩ : ByteArray), (⟨#[115, 105, 122, 101]⟩ : ByteArray), (⟨#[108, 105, 110, 101]⟩ : ByteArray), (⟨#[111, 102, 102, 115, 101, 116]⟩ : ByteArray), (⟨#[115, 119, 97, 112]⟩ : ByteArray), (⟨#[109, 97, 114, 107]⟩ : ByteArray), (⟨#[112, 108, 97, 99, 101]⟩ : ByteArray), (⟨#[119, 97, 116, 99, 104]⟩ : ByteArray), (⟨#[109, 101, 114, 103, 101]⟩ : ByteArray), (⟨#[101, 118, 105, 99, 116]⟩ : ByteArray), (⟨#[99, 111, 109, 112, 97, 99, 116]⟩ : ByteArray)].length, (by rfl), (by have hh := H1.one 0 rfl; exact hh)⟩

set_option maxRecDepth 20000 in
theorem name_any (kind : Int) (w : World) :
    Calls Try.prog 31 #[.int .i64 kind] w (Ret fun v w' => v = .string ((opRowAt kind).name) ∧ Upd w [] w' []) := by
  refine calls_of_W (args := [.int .i64 kind]) Try.func31 rfl rfl rfl ?_
  have H0 : UpG w [] w [] := UpG.nil w
  show W _ _ _ _ [(0, .int .i64 kind)] w
  refine W.seq ?_
  refine W.region ?_
  refine WL.op rfl (d_assign rfl ?_)
  refine WL.done (X.then_code ?_)
  refine W.seq ?_
  refine W.region ?_
  refine WL.op rfl (d_move rfl ?_)
  refine WL.op rfl (d_call ok50 rfl (Ret.calls (of_any kind w  ) fun _ w1 p1 => ?_))
  obtain ⟨rfl, u1⟩ := p1
  have H1 : UpG w [] w1 [] := H0.call u1
  refine WL.op rfl (d_move rfl ?_)
  refine WL.op rfl (d_extract rfl rfl ?_)
  refine WL.op rfl (d_extract rfl rfl ?_)
  refine WL.op rfl (d_alloc sz87 fun w2 u2 => ?_)
  have H2 : UpG w [] w2 [[blk w1.heap.size #[.string ⟨#[]⟩, .string ⟨#[]⟩, .bool false] 87]] := H1.new' u2
  refine WL.op0 (d_storeAB (us := [.string ((opRowAt kind).name), .string ((opRowAt kind).nums), .bool ((opRowAt kind).text)]) (cs' := #[.string ((opRowAt kind).name), .string ((opRowAt kind).nums), .bool ((opRowAt kind).text)]) sz87 rfl rfl rfl rfl (H2.blk 0 rfl) rfl rfl fun w3 u3 => ?_)
  have H3 : UpG w [] w3 [[blk w1.heap.size #[.string ((opRowAt kind).name), .string ((opRowAt kind).nums), .bool ((opRowAt kind).text)] 87]] := H2.on 0 rfl u3
  refine WL.op rfl (d_assign rfl ?_)
  refine WL.done (X.then_code ?_)
  refine W.seq ?_
  refine W.region ?_
  refine WL.op rfl (d_fieldAddrB fld87_0 rfl rfl ?_)
  refine WL.op rfl (d_loadB Try.underlying9 rfl rfl (H3.blk 0 rfl) rfl ?_)
  refine WL.op rfl (d_assign rfl ?_)
  refine WL.done (X.then_code ?_)
  refine W.ret (X.ret1 rfl rfl ?_)
  exact ⟨rfl, H3.noneL⟩

set_option maxRecDepth 20000 in
theorem kind_any (name : ByteArray) (w : World) :
    Calls Try.prog 32 #[.string name] w (Ret fun v w' => v = .int .i64 ((lastTo name 24 : Nat) : Int) ∧ Upd w [] w' []) := by
  have hlen : opRows.length = 24 := rfl
  refine calls_of_W (args := [.string name]) Try.func32 rfl rfl rfl ?_
  have H0 : UpG w [] w [] := UpG.nil w
  show W _ _ _ _ [(0, .string name)] w
  refine W.seq ?_
  refine W.region ?_
  refine WL.op rfl (d_assign rfl ?_)
  refine WL.done (X.then_code ?_)
  refine W.seq ?_
  refine W.seq ?_
  refine W.region ?_
  refine WL.op rfl (d_call ok53 rfl (Ret.calls (rows_any  w  ) fun _ w1 p1 => ?_))
  obtain ⟨a2_1, c2_1, rfl, u1⟩ := p1
  have H1 : UpG w [] w1 [[rowT tyOpRow (.slice a2_1 opRows.length c2_1) 87 opRows]] := (H0.new' u1).re rfl
  refine WL.op rfl (d_lenS Try.underlying96 rfl ?_)
  refine WL.op rfl (d_move rfl ?_)
  refine WL.done (X.then_code ?_)
  refine W.block ?_
  refine W.pick [7, 6, 5, 2, 0] (Γ' := [(7, .int .i64 0), (6, .int .i64 ((opRows.length : Nat) : Int)), (5, .slice a2_1 opRows.length c2_1), (2, .int .i64 0), (0, .string name)]) rfl ?_
  refine W.loop (fun m Γ' w' => ∃ j : Nat, Γ' = [(7, .int .i64 ((j : Nat) : Int)), (6, .int .i64 ((opRows.length : Nat) : Int)), (5, .slice a2_1 opRows.length c2_1), (2, .int .i64 0), (0, .string name)] ∧ UpG w [] w' [[rowT tyOpRow (.slice a2_1 opRows.length c2_1) 87 opRows]] ∧ (j ≤ 24) ∧ (lastTo name j = 0) ∧ m = 24 - j) (24 - 0) ⟨0, rfl, H1, (by first | assumption | omega | simp), (by rfl), rfl⟩ ?_
  rintro m1 Γ1 w2 ⟨j, rfl, H2, hj, hl, rfl⟩
  refine W.seq ?_
  refine W.region ?_
  refine WL.op rfl (d_cmp (decide (((j : Nat) : Int) < ((opRows.length : Nat) : Int))) rfl rfl rfl ?_)
  refine WL.done (X.then_code ?_)
  refine W.seq ?_
  refine W.ite (p := ((j : Nat) : Int) < ((opRows.length : Nat) : Int)) rfl (fun c41 => ?_) (fun c41 => ?_)
  · skip
    refine W.skip (X.then_code ?_)
    refine W.seq ?_
    refine W.block ?_
    refine W.seq ?_
    refine W.region ?_
    refine WL.op rfl (d_move rfl ?_)
    refine WL.op rfl (t_addrN j (T := tyOpRow) rfl Try.underlying96 sz87 rfl rfl (H2.rdT 0 rfl) rfl (by omega) ?_)
    refine WL.op rfl (t_loadN j opRow0 (T := tyOpRow) (us := [.string ((opRows.getD j opRow0).name), .string ((opRows.getD j opRow0).nums), .bool ((opRows.getD j opRow0).text)]) rfl Try.underlying87 rfl sz87 rfl (H2.rdT 0 rfl) (by omega) rfl ?_)
    refine WL.op rfl (d_alloc sz87 fun w3 u2 => ?_)
    have H3 : UpG w [] w3 [[rowT tyOpRow (.slice a2_1 opRows.length c2_1) 87 opRows], [blk w2.heap.size #[.string ⟨#[]⟩, .string ⟨#[]⟩, .bool false] 87]] := H2.new' u2
    refine WL.op rfl (d_assign rfl ?_)
    refine WL.op0 (d_storeAB (us := [.string ((opRows.getD j opRow0).name), .string ((opRows.getD j opRow0).nums), .bool ((opRows.getD j opRow0).text)]) (cs' := #[.string ((opRows.getD j opRow0).name), .string ((opRows.getD j opRow0).nums), .bool ((opRows.getD j opRow0).text)]) sz87 rfl rfl rfl rfl (H3.blk 1 rfl) rfl rfl fun w4 u3 => ?_)
    have H4 : UpG w [] w4 [[rowT tyOpRow (.slice a2_1 opRows.length c2_1) 87 opRows], [blk w2.heap.size #[.string ((opRows.getD j opRow0).name), .string ((opRows.getD j opRow0).nums), .bool ((opRows.getD j opRow0).text)] 87]] := H3.on 1 rfl u3
    refine WL.done (X.then_code ?_)
    refine W.seq ?_
    refine W.region ?_
    refine WL.op rfl (d_fieldAddrB fld87_0 rfl rfl ?_)
    refine WL.op rfl (d_loadB Try.underlying9 rfl rfl (H4.blk 1 rfl) rfl ?_)
    refine WL.op rfl (d_move rfl ?_)
    refine WL.op rfl (d_streq rfl rfl ?_)
    refine WL.done (X.then_code ?_)
    refine W.ite (p := ((opRows.getD j opRow0).name) = name) rfl (fun c42 => ?_) (fun c42 => ?_)
    · skip
      refine W.seq ?_
      refine W.region ?_
      refine WL.op rfl (d_move rfl ?_)
      refine WL.op rfl (d_add rfl rfl (by omega) (by omega) ?_)
      refine WL.op rfl (d_assign rfl ?_)
      refine WL.done (X.then_code ?_)
      refine W.pick [2, 17, 16, 15, 14, 13, 12, 3, 4, 11, 10, 9, 8, 7, 6, 5, 0] (Γ' := [(2, .int .i64 (((j : Nat) : Int) + 1)), (17, .int .i64 (((j : Nat) : Int) + 1)), (16, .int .i64 ((j : Nat) : Int)), (15, .bool (decide (((opRows.getD j opRow0).name) = name))), (14, .string name), (13, .string ((opRows.getD j opRow0).name)), (12, .pointer (some ⟨w2.heap.size, 0, none⟩)), (3, .int .i64 ((j : Nat) : Int)), (4, .pointer (some ⟨w2.heap.size, 0, none⟩)), (11, .agg #[.string ((opRows.getD j opRow0).name), .string ((opRows.getD j opRow0).nums), .bool ((opRows.getD j opRow0).text)]), (10, elemPtr (.slice a2_1 opRows.length c2_1) (j * 3)), (9, .int .i64 ((j : Nat) : Int)), (8, .bool (decide (((j : Nat) : Int) < ((opRows.length : Nat) : Int)))), (7, .int .i64 ((j : Nat) : Int)), (6, .int .i64 ((opRows.length : Nat) : Int)), (5, .slice a2_1 opRows.length c2_1), (0, .string name)]) rfl ?_
      refine W.ret (X.block_ret (X.then_ret (X.then_ret (X.block_ret (X.then_ret (X.ret1 rfl rfl ?_))))))
      exact ⟨(by rw [last_of (by omega) ((name_at j (by omega)).trans c42)]; rfl), H4.noneL⟩
    · skip
      refine W.skip (X.block_normal (X.then_code ?_))
      refine W.region ?_
      refine WL.op rfl (d_add rfl rfl (by omega) (by omega) ?_)
      refine WL.op rfl (d_move rfl ?_)
      refine WL.done ?_
      exact X.next [7, 6, 5, 2, 0] (Γ' := [(7, .int .i64 (((j + 1) : Nat) : Int)), (6, .int .i64 ((opRows.length : Nat) : Int)), (5, .slice a2_1 opRows.length c2_1), (2, .int .i64 0), (0, .string name)]) rfl (24 - (j + 1)) (by omega) ⟨j + 1, rfl, (UpG.of (G := [[rowT tyOpRow (.slice a2_1 opRows.length c2_1) 87 opRows]]) (Upd.sel H4 (M := [rowT tyOpRow (.slice a2_1 opRows.length c2_1) 87 opRows]) (l := [0]) rfl rfl) rfl), (by first | assumption | omega | simp), (by rw [lastTo, name_at j (by omega), if_neg c42]; exact hl), rfl⟩
  · skip
    refine W.exit (X.then_exit (X.then_exit (X.block_exit (X.then_code ?_))))
    refine W.seq ?_
    refine W.region ?_
    refine WL.op rfl (d_assign rfl ?_)
    refine WL.done (X.then_code ?_)
    refine W.ret (X.ret1 rfl rfl ?_)
    exact ⟨(by rw [show (24 : Nat) = j by omega, hl]; rfl), H2.noneL⟩

set_option maxRecDepth 20000 in
theorem oawake_any  (w : World) :
    Calls Try.prog 24 #[] w (Ret fun v w' => v = .bool true ∧ Upd w [] w' []) := by
  refine calls_of_W (args := []) Try.func24 rfl rfl rfl ?_
  have H0 : UpG w [] w [] := UpG.nil w
  show W _ _ _ _ [] w
  refine W.seq ?_
  refine W.region ?_
  refine WL.op rfl (d_assign rfl ?_)
  refine WL.done (X.then_code ?_)
  refine W.seq ?_
  refine W.region ?_
  refine WL.op rfl (t_buildSlice (T := (tyI .i64)) (xs := [9, 2, 5]) (cs := #[.int .i64 9, .int .i64 2, .int .i64 5]) rfl Try.underlying51 sz3 rfl rfl rfl rfl (by kernel_rfl) rfl rfl fun w1 u1 => ?_)
  have H1 : UpG w [] w1 [[rowT (tyI .i64) (.slice (some ⟨w.heap.size, 0, none⟩) ([9, 2, 5].length) ([9, 2, 5].length)) 3 [9, 2, 5]]] := H0.new' u1
  refine WL.op rfl (d_build (cs := #[.slice (some ⟨w.heap.size, 0, none⟩) ([9, 2, 5].length) ([9, 2, 5].length), .string ⟨#[]⟩]) rfl (by kernel_rfl) ?_)
  refine WL.op rfl (d_call ok25 rfl (Ret.calls (opOf_any (⟨[9, 2, 5], ⟨#[]⟩⟩ : RawD) (some ⟨w.heap.size, 0, none⟩) ([9, 2, 5].length) w1 (H1.rdT 0 rfl) ) fun _ w2 p1 => ?_))
  obtain ⟨rfl, u2⟩ := p1
  have H2 : UpG w [] w2 [[rowT (tyI .i64) (.slice (some ⟨w.heap.size, 0, none⟩) ([9, 2, 5].length) ([9, 2, 5].length)) 3 [9, 2, 5]]] := H1.call u2
  refine WL.op rfl (d_move rfl ?_)
  refine WL.op rfl (d_extract rfl rfl ?_)
  refine WL.op rfl (d_extract rfl rfl ?_)
  refine WL.op rfl (d_alloc sz55 fun w3 u3 => ?_)
  have H3 : UpG w [] w3 [[rowT (tyI .i64) (.slice (some ⟨w.heap.size, 0, none⟩) ([9, 2, 5].length) ([9, 2, 5].length)) 3 [9, 2, 5]], [blk w2.heap.size #[.int .i64 0, .int .i64 0, .int .i64 0, .int .i64 0, .string ⟨#[]⟩] 55]] := H2.new' u3
  refine WL.op0 (d_storeAB (us := [.int .i64 ((ofR (⟨[9, 2, 5], ⟨#[]⟩⟩ : RawD)).1.kind), .int .i64 ((ofR (⟨[9, 2, 5], ⟨#[]⟩⟩ : RawD)).1.slot), .int .i64 ((ofR (⟨[9, 2, 5], ⟨#[]⟩⟩ : RawD)).1.at_), .int .i64 ((ofR (⟨[9, 2, 5], ⟨#[]⟩⟩ : RawD)).1.len), .string ((ofR (⟨[9, 2, 5], ⟨#[]⟩⟩ : RawD)).1.text)]) (cs' := #[.int .i64 ((ofR (⟨[9, 2, 5], ⟨#[]⟩⟩ : RawD)).1.kind), .int .i64 ((ofR (⟨[9, 2, 5], ⟨#[]⟩⟩ : RawD)).1.slot), .int .i64 ((ofR (⟨[9, 2, 5], ⟨#[]⟩⟩ : RawD)).1.at_), .int .i64 ((ofR (⟨[9, 2, 5], ⟨#[]⟩⟩ : RawD)).1.len), .string ((ofR (⟨[9, 2, 5], ⟨#[]⟩⟩ : RawD)).1.text)]) sz55 rfl rfl rfl rfl (H3.blk 1 rfl) rfl rfl fun w4 u4 => ?_)
  have H4 : UpG w [] w4 [[rowT (tyI .i64) (.slice (some ⟨w.heap.size, 0, none⟩) ([9, 2, 5].length) ([9, 2, 5].length)) 3 [9, 2, 5]], [blk w2.heap.size #[.int .i64 ((ofR (⟨[9, 2, 5], ⟨#[]⟩⟩ : RawD)).1.kind), .int .i64 ((ofR (⟨[9, 2, 5], ⟨#[]⟩⟩ : RawD)).1.slot), .int .i64 ((ofR (⟨[9, 2, 5], ⟨#[]⟩⟩ : RawD)).1.at_), .int .i64 ((ofR (⟨[9, 2, 5], ⟨#[]⟩⟩ : RawD)).1.len), .string ((ofR (⟨[9, 2, 5], ⟨#[]⟩⟩ : RawD)).1.text)] 55]] := H3.on 1 rfl u4
  refine WL.op rfl (d_assign rfl ?_)
  refine WL.done (X.then_code ?_)
  refine W.seq ?_
  refine W.region ?_
  refine WL.op rfl (d_loadAB [.int .i64 ((ofR (⟨[9, 2, 5], ⟨#[]⟩⟩ : RawD)).1.kind), .int .i64 ((ofR (⟨[9, 2, 5], ⟨#[]⟩⟩ : RawD)).1.slot), .int .i64 ((ofR (⟨[9, 2, 5], ⟨#[]⟩⟩ : RawD)).1.at_), .int .i64 ((ofR (⟨[9, 2, 5], ⟨#[]⟩⟩ : RawD)).1.len), .string ((ofR (⟨[9, 2, 5], ⟨#[]⟩⟩ : RawD)).1.text)] Try.underlying55 rfl sz55 rfl (H4.blk 1 rfl) rfl rfl ?_)
  refine WL.op rfl (d_call ok27 rfl (Ret.calls (opRaw_any ((ofR (⟨[9, 2, 5], ⟨#[]⟩⟩ : RawD)).1) w4  ) fun _ w5 p2 => ?_))
  obtain ⟨ra2_1, rc2_1, rfl, u5⟩ := p2
  have H5 : UpG w [] w5 [[rowT (tyI .i64) (.slice (some ⟨w.heap.size, 0, none⟩) ([9, 2, 5].length) ([9, 2, 5].length)) 3 [9, 2, 5]], [blk w2.heap.size #[.int .i64 ((ofR (⟨[9, 2, 5], ⟨#[]⟩⟩ : RawD)).1.kind), .int .i64 ((ofR (⟨[9, 2, 5], ⟨#[]⟩⟩ : RawD)).1.slot), .int .i64 ((ofR (⟨[9, 2, 5], ⟨#[]⟩⟩ : RawD)).1.at_), .int .i64 ((ofR (⟨[9, 2, 5], ⟨#[]⟩⟩ : RawD)).1.len), .string ((ofR (⟨[9, 2, 5], ⟨#[]⟩⟩ : RawD)).1.text)] 55], [rowT (tyI .i64) (.slice ra2_1 (((rawR ((ofR (⟨[9, 2, 5], ⟨#[]⟩⟩ : RawD)).1)).1.nums).length) rc2_1) 3 ((rawR ((ofR (⟨[9, 2, 5], ⟨#[]⟩⟩ : RawD)).1)).1.nums)]] := (H4.new' u5).re rfl
  refine WL.op rfl (d_move rfl ?_)
  refine WL.op rfl (d_extract rfl rfl ?_)
  refine WL.op rfl (d_extract rfl rfl ?_)
  refine WL.op rfl (d_alloc sz53 fun w6 u6 => ?_)
  have H6 : UpG w [] w6 [[rowT (tyI .i64) (.slice (some ⟨w.heap.size, 0, none⟩) ([9, 2, 5].length) ([9, 2, 5].length)) 3 [9, 2, 5]], [blk w2.heap.size #[.int .i64 ((ofR (⟨[9, 2, 5], ⟨#[]⟩⟩ : RawD)).1.kind), .int .i64 ((ofR (⟨[9, 2, 5], ⟨#[]⟩⟩ : RawD)).1.slot), .int .i64 ((ofR (⟨[9, 2, 5], ⟨#[]⟩⟩ : RawD)).1.at_), .int .i64 ((ofR (⟨[9, 2, 5], ⟨#[]⟩⟩ : RawD)).1.len), .string ((ofR (⟨[9, 2, 5], ⟨#[]⟩⟩ : RawD)).1.text)] 55], [rowT (tyI .i64) (.slice ra2_1 (((rawR ((ofR (⟨[9, 2, 5], ⟨#[]⟩⟩ : RawD)).1)).1.nums).length) rc2_1) 3 ((rawR ((ofR (⟨[9, 2, 5], ⟨#[]⟩⟩ : RawD)).1)).1.nums)], [blk w5.heap.size #[.slice none 0 0, .string ⟨#[]⟩] 53]] := H5.new' u6
  refine WL.op0 (d_storeAB (us := [.slice ra2_1 (((rawR ((ofR (⟨[9, 2, 5], ⟨#[]⟩⟩ : RawD)).1)).1.nums).length) rc2_1, .string ((rawR ((ofR (⟨[9, 2, 5], ⟨#[]⟩⟩ : RawD)).1)).1.text)]) (cs' := #[.slice ra2_1 (((rawR ((ofR (⟨[9, 2, 5], ⟨#[]⟩⟩ : RawD)).1)).1.nums).length) rc2_1, .string ((rawR ((ofR (⟨[9, 2, 5], ⟨#[]⟩⟩ : RawD)).1)).1.text)]) sz53 rfl rfl rfl rfl (H6.blk 3 rfl) rfl rfl fun w7 u7 => ?_)
  have H7 : UpG w [] w7 [[rowT (tyI .i64) (.slice (some ⟨w.heap.size, 0, none⟩) ([9, 2, 5].length) ([9, 2, 5].length)) 3 [9, 2, 5]], [blk w2.heap.size #[.int .i64 ((ofR (⟨[9, 2, 5], ⟨#[]⟩⟩ : RawD)).1.kind), .int .i64 ((ofR (⟨[9, 2, 5], ⟨#[]⟩⟩ : RawD)).1.slot), .int .i64 ((ofR (⟨[9, 2, 5], ⟨#[]⟩⟩ : RawD)).1.at_), .int .i64 ((ofR (⟨[9, 2, 5], ⟨#[]⟩⟩ : RawD)).1.len), .string ((ofR (⟨[9, 2, 5], ⟨#[]⟩⟩ : RawD)).1.text)] 55], [rowT (tyI .i64) (.slice ra2_1 (((rawR ((ofR (⟨[9, 2, 5], ⟨#[]⟩⟩ : RawD)).1)).1.nums).length) rc2_1) 3 ((rawR ((ofR (⟨[9, 2, 5], ⟨#[]⟩⟩ : RawD)).1)).1.nums)], [blk w5.heap.size #[.slice ra2_1 (((rawR ((ofR (⟨[9, 2, 5], ⟨#[]⟩⟩ : RawD)).1)).1.nums).length) rc2_1, .string ((rawR ((ofR (⟨[9, 2, 5], ⟨#[]⟩⟩ : RawD)).1)).1.text)] 53]] := H6.on 3 rfl u7
  refine WL.op rfl (d_assign rfl ?_)
  refine WL.done (X.then_code ?_)
  refine W.seq ?_
  refine W.region ?_
  refine WL.op rfl (d_move rfl ?_)
  refine WL.op rfl (d_cmp (decide (((ofR (⟨[9, 2, 5], ⟨#[]⟩⟩ : RawD)).2) = (0 : Int))) rfl rfl rfl ?_)
  refine WL.op rfl (d_move rfl ?_)
  refine WL.part 18 (p := ((ofR (⟨[9, 2, 5], ⟨#[]⟩⟩ : RawD)).2) = (0 : Int)) rfl (fun g14 => ?_) (fun g14 => ?_)
  · skip
    refine WL.opG rfl rfl rfl (d_loadAB [.int .i64 ((ofR (⟨[9, 2, 5], ⟨#[]⟩⟩ : RawD)).1.kind), .int .i64 ((ofR (⟨[9, 2, 5], ⟨#[]⟩⟩ : RawD)).1.slot), .int .i64 ((ofR (⟨[9, 2, 5], ⟨#[]⟩⟩ : RawD)).1.at_), .int .i64 ((ofR (⟨[9, 2, 5], ⟨#[]⟩⟩ : RawD)).1.len), .string ((ofR (⟨[9, 2, 5], ⟨#[]⟩⟩ : RawD)).1.text)] Try.underlying55 rfl sz55 rfl (H7.blk 1 rfl) rfl rfl ?_)
    refine WL.opG rfl rfl rfl (d_build (cs := #[.int .i64 9, .int .i64 2, .int .i64 5, .int .i64 0, .string ⟨#[]⟩]) rfl (by kernel_rfl) ?_)
    refine WL.opG rfl rfl rfl (d_aggeq [.int .i64 ((ofR (⟨[9, 2, 5], ⟨#[]⟩⟩ : RawD)).1.kind), .int .i64 ((ofR (⟨[9, 2, 5], ⟨#[]⟩⟩ : RawD)).1.slot), .int .i64 ((ofR (⟨[9, 2, 5], ⟨#[]⟩⟩ : RawD)).1.at_), .int .i64 ((ofR (⟨[9, 2, 5], ⟨#[]⟩⟩ : RawD)).1.len), .string ((ofR (⟨[9, 2, 5], ⟨#[]⟩⟩ : RawD)).1.text)] [.int .i64 9, .int .i64 2, .int .i64 5, .int .i64 0, .string ⟨#[]⟩] rfl rfl (by kernel_rfl) (by kernel_rfl) (by kernel_rfl) (by kernel_rfl) ?_)
    refine WL.op rfl (d_pick rfl rfl ?_)
    refine WL.op rfl (d_move rfl ?_)
    refine WL.partB 23 (b := decide (((ofR (⟨[9, 2, 5], ⟨#[]⟩⟩ : RawD)).1.kind) = (9 : Int)) && (decide (((ofR (⟨[9, 2, 5], ⟨#[]⟩⟩ : RawD)).1.slot) = (2 : Int)) && (decide (((ofR (⟨[9, 2, 5], ⟨#[]⟩⟩ : RawD)).1.at_) = (5 : Int)) && (decide (((ofR (⟨[9, 2, 5], ⟨#[]⟩⟩ : RawD)).1.len) = (0 : Int)) && (decide (((ofR (⟨[9, 2, 5], ⟨#[]⟩⟩ : RawD)).1.text) = ⟨#[]⟩)))))) rfl (fun g14x => ?_) (fun g14x => ?_)
    · skip
      refine WL.opG rfl rfl rfl (d_move rfl ?_)
      refine WL.opG rfl rfl rfl (d_cmp (decide (((rawR ((ofR (⟨[9, 2, 5], ⟨#[]⟩⟩ : RawD)).1)).2) = (0 : Int))) rfl rfl rfl ?_)
      refine WL.op rfl (d_pick rfl rfl ?_)
      refine WL.op rfl (d_move rfl ?_)
      refine WL.part 27 (p := ((rawR ((ofR (⟨[9, 2, 5], ⟨#[]⟩⟩ : RawD)).1)).2) = (0 : Int)) rfl (fun g14xx => ?_) (fun g14xx => ?_)
      · skip
        refine WL.opG rfl rfl rfl (d_fieldAddrB fld53_0 rfl rfl ?_)
        refine WL.opG rfl rfl rfl (d_loadB Try.underlying51 rfl rfl (H7.blk 3 rfl) rfl ?_)
        refine WL.opG rfl rfl rfl (d_lenS Try.underlying51 rfl ?_)
        refine WL.opG rfl rfl rfl (d_cmp (decide (((((rawR ((ofR (⟨[9, 2, 5], ⟨#[]⟩⟩ : RawD)).1)).1.nums).length : Nat) : Int) = (3 : Int))) rfl rfl rfl ?_)
        refine WL.op rfl (d_pick rfl rfl ?_)
        refine WL.op rfl (d_move rfl ?_)
        refine WL.part 33 (p := ((((rawR ((ofR (⟨[9, 2, 5], ⟨#[]⟩⟩ : RawD)).1)).1.nums).length : Nat) : Int) = (3 : Int)) rfl (fun g14xxx => ?_) (fun g14xxx => ?_)
        · skip
          refine WL.opG rfl rfl rfl (d_fieldAddrB fld53_0 rfl rfl ?_)
          refine WL.opG rfl rfl rfl (d_loadB Try.underlying51 rfl rfl (H7.blk 3 rfl) rfl ?_)
          refine WL.opG rfl rfl rfl (t_addr1 2 (T := (tyI .i64)) rfl Try.underlying51 sz3 rfl rfl (H7.rdT 2 rfl) rfl (by decide) ?_)
          refine WL.opG rfl rfl rfl (t_load1 2 0 (T := (tyI .i64)) rfl Try.underlying3 rfl rfl (H7.rdT 2 rfl) (by decide) rfl ?_)
          refine WL.opG rfl rfl rfl (d_cmp (decide ((((rawR ((ofR (⟨[9, 2, 5], ⟨#[]⟩⟩ : RawD)).1)).1.nums).getD 2 0) = (5 : Int))) rfl rfl rfl ?_)
          refine WL.op rfl (d_pick rfl rfl ?_)
          refine WL.op rfl (d_move rfl ?_)
          refine WL.part 40 (p := (((rawR ((ofR (⟨[9, 2, 5], ⟨#[]⟩⟩ : RawD)).1)).1.nums).getD 2 0) = (5 : Int)) rfl (fun g14xxxx => ?_) (fun g14xxxx => ?_)
          · skip
            refine WL.opG rfl rfl rfl (d_call ok31 rfl (Ret.calls (name_any 18 w7  ) fun _ w8 p3 => ?_))
            obtain ⟨rfl, u8⟩ := p3
            have H8 : UpG w [] w8 [[rowT (tyI .i64) (.slice (some ⟨w.heap.size, 0, none⟩) ([9, 2, 5].length) ([9, 2, 5].length)) 3 [9, 2, 5]], [blk w2.heap.size #[.int .i64 ((ofR (⟨[9, 2, 5], ⟨#[]⟩⟩ : RawD)).1.kind), .int .i64 ((ofR (⟨[9, 2, 5], ⟨#[]⟩⟩ : RawD)).1.slot), .int .i64 ((ofR (⟨[9, 2, 5], ⟨#[]⟩⟩ : RawD)).1.at_), .int .i64 ((ofR (⟨[9, 2, 5], ⟨#[]⟩⟩ : RawD)).1.len), .string ((ofR (⟨[9, 2, 5], ⟨#[]⟩⟩ : RawD)).1.text)] 55], [rowT (tyI .i64) (.slice ra2_1 (((rawR ((ofR (⟨[9, 2, 5], ⟨#[]⟩⟩ : RawD)).1)).1.nums).length) rc2_1) 3 ((rawR ((ofR (⟨[9, 2, 5], ⟨#[]⟩⟩ : RawD)).1)).1.nums)], [blk w5.heap.size #[.slice ra2_1 (((rawR ((ofR (⟨[9, 2, 5], ⟨#[]⟩⟩ : RawD)).1)).1.nums).length) rc2_1, .string ((rawR ((ofR (⟨[9, 2, 5], ⟨#[]⟩⟩ : RawD)).1)).1.text)] 53]] := H7.call u8
            refine WL.opG rfl rfl rfl (d_streq rfl rfl ?_)
            refine WL.op rfl (d_pick rfl rfl ?_)
            refine WL.op rfl (d_move rfl ?_)
            refine WL.part 44 (p := ((opRowAt 18).name) = ⟨#[115, 119, 97, 112]⟩) rfl (fun g14xxxxx => ?_) (fun g14xxxxx => ?_)
            · skip
              refine WL.opG rfl rfl rfl (d_call ok32 rfl (Ret.calls (kind_any ⟨#[115, 119, 97, 112]⟩ w8  ) fun _ w9 p4 => ?_))
              obtain ⟨rfl, u9⟩ := p4
              have H9 : UpG w [] w9 [[rowT (tyI .i64) (.slice (some ⟨w.heap.size, 0, none⟩) ([9, 2, 5].length) ([9, 2, 5].length)) 3 [9, 2, 5]], [blk w2.heap.size #[.int .i64 ((ofR (⟨[9, 2, 5], ⟨#[]⟩⟩ : RawD)).1.kind), .int .i64 ((ofR (⟨[9, 2, 5], ⟨#[]⟩⟩ : RawD)).1.slot), .int .i64 ((ofR (⟨[9, 2, 5], ⟨#[]⟩⟩ : RawD)).1.at_), .int .i64 ((ofR (⟨[9, 2, 5], ⟨#[]⟩⟩ : RawD)).1.len), .string ((ofR (⟨[9, 2, 5], ⟨#[]⟩⟩ : RawD)).1.text)] 55], [rowT (tyI .i64) (.slice ra2_1 (((rawR ((ofR (⟨[9, 2, 5], ⟨#[]⟩⟩ : RawD)).1)).1.nums).length) rc2_1) 3 ((rawR ((ofR (⟨[9, 2, 5], ⟨#[]⟩⟩ : RawD)).1)).1.nums)], [blk w5.heap.size #[.slice ra2_1 (((rawR ((ofR (⟨[9, 2, 5], ⟨#[]⟩⟩ : RawD)).1)).1.nums).length) rc2_1, .string ((rawR ((ofR (⟨[9, 2, 5], ⟨#[]⟩⟩ : RawD)).1)).1.text)] 53]] := H8.call u9
              refine WL.opG rfl rfl rfl (d_cmp (decide (((lastTo ⟨#[115, 119, 97, 112]⟩ 24 : Nat) : Int) = (18 : Int))) rfl rfl rfl ?_)
              refine WL.op rfl (d_pick rfl rfl ?_)
              refine WL.op rfl (d_assign rfl ?_)
              refine WL.done (X.then_code ?_)
              refine W.pick [0] (Γ' := [(0, .bool (decide (((lastTo ⟨#[115, 119, 97, 112]⟩ 24 : Nat) : Int) = (18 : Int))))]) rfl ?_
              refine W.ret (X.ret1 rfl rfl ?_)
              exact ⟨(by rw [decide_eq_true (by decide)]), H9.noneL⟩
            · skip
              exact absurd (by decide) g14xxxxx
          · skip
            exact absurd (by decide) g14xxxx
        · skip
          exact absurd (by decide) g14xxx
      · skip
        exact absurd (by decide) g14xx
    · skip
      exact absurd (by decide) g14x
  · skip
    exact absurd (by decide) g14

set_option maxRecDepth 20000 in
theorem opReads_any (r : RawD) (ra : Option Addr) (rc : Nat) (w : World) (rr : RdT (tyI .i64) w (.slice ra r.nums.length rc) r.nums) (hcap : r.nums.length ≤ rc) :
    Calls Try.prog 6 #[.agg #[.slice ra r.nums.length rc, .string r.text]] w (Ret fun v w' => v = .bool true ∧ Upd w [] w' []) := by
  have le_rr := rr.le
  refine calls_of_W (args := [.agg #[.slice ra r.nums.length rc, .string r.text]]) Try.func6 rfl rfl rfl ?_
  have H0 : UpG w [] w [] := UpG.nil w
  show W _ _ _ _ [(0, .agg #[.slice ra r.nums.length rc, .string r.text])] w
  refine W.seq ?_
  refine W.region ?_
  refine WL.op rfl (d_box rfl fun w1 u1 => ?_)
  have H1 : UpG w [] w1 [[blk w.heap.size #[.slice ra r.nums.length rc, .string r.text] 53]] := H0.new' u1
  refine WL.op rfl (d_assign rfl ?_)
  refine WL.done (X.then_code ?_)
  refine W.seq ?_
  refine W.seq ?_
  refine W.region ?_
  refine WL.op rfl (d_call ok24 rfl (Ret.calls (oawake_any  w1  ) fun _ w2 p1 => ?_))
  obtain ⟨rfl, u2⟩ := p1
  have H2 : UpG w [] w2 [[blk w.heap.size #[.slice ra r.nums.length rc, .string r.text] 53]] := H1.call u2
  refine WL.op rfl (d_notB rfl ?_)
  refine WL.done (X.then_code ?_)
  refine W.iff rfl ?_
  refine W.skip (X.then_code ?_)
  refine W.seq ?_
  refine W.region ?_
  refine WL.op rfl (d_fieldAddrB fld53_0 rfl rfl ?_)
  refine WL.op rfl (d_loadB Try.underlying51 rfl rfl (H2.blk 0 rfl) rfl ?_)
  refine WL.op rfl (d_fieldAddrB fld53_0 rfl rfl ?_)
  refine WL.op rfl (d_loadB Try.underlying51 rfl rfl (H2.blk 0 rfl) rfl ?_)
  refine WL.op rfl (d_lenS Try.underlying51 rfl ?_)
  refine WL.op rfl (d_min rfl rfl ?_)
  have rs1 := RdT.take rr ((min ((r.nums.length : Nat) : Int) 8).toNat) (by omega)
  refine WL.op rfl (t_take (min ((r.nums.length : Nat) : Int) 8) ((min ((r.nums.length : Nat) : Int) 8).toNat) (T := (tyI .i64)) (xs := r.nums) rfl Try.underlying51 sz3 rfl rfl (by omega) (by omega) (by omega) ?_)
  refine WL.op rfl (d_fieldAddrB fld53_0 rfl rfl ?_)
  refine WL.op0 (d_storeB sz51 rfl rfl rfl (H2.blk 0 rfl) rfl fun w3 u3 => ?_)
  have H3 : UpG w [] w3 [[blk w.heap.size #[.slice ra ((r.nums.take ((min ((r.nums.length : Nat) : Int) 8).toNat)).length) rc, .string r.text] 53]] := H2.on 0 rfl u3
  refine WL.done (X.then_code ?_)
  refine W.seq ?_
  refine W.region ?_
  refine WL.op rfl (d_fieldAddrB fld53_1 rfl rfl ?_)
  refine WL.op rfl (d_loadB Try.underlying9 rfl rfl (H3.blk 0 rfl) rfl ?_)
  refine WL.op rfl (d_fieldAddrB fld53_1 rfl rfl ?_)
  refine WL.op rfl (d_loadB Try.underlying9 rfl rfl (H3.blk 0 rfl) rfl ?_)
  refine WL.op rfl (d_lenStr Try.underlying9 rfl ?_)
  refine WL.op rfl (d_min rfl rfl ?_)
  refine WL.op rfl (d_substrN 0 (min ((r.text.size : Nat) : Int) 100) 0 ((min ((r.text.size : Nat) : Int) 100).toNat) Try.underlying9 rfl rfl rfl (.inl ⟨rfl, rfl⟩) (.inr ⟨_, rfl⟩) (by omega) (by omega) ⟨by omega, by omega, by omega⟩ ?_)
  refine WL.op rfl (d_fieldAddrB fld53_1 rfl rfl ?_)
  refine WL.op0 (d_storeB sz9 rfl rfl rfl (H3.blk 0 rfl) rfl fun w4 u4 => ?_)
  have H4 : UpG w [] w4 [[blk w.heap.size #[.slice ra ((r.nums.take ((min ((r.nums.length : Nat) : Int) 8).toNat)).length) rc, .string (r.text.extract 0 ((min ((r.text.size : Nat) : Int) 100).toNat))] 53]] := H3.on 0 rfl u4
  refine WL.done (X.then_code ?_)
  refine W.pick [2, 1] (Γ' := [(2, .bool false), (1, .pointer (some ⟨w.heap.size, 0, none⟩))]) rfl ?_
  refine W.seq ?_
  refine W.region ?_
  refine WL.op rfl (d_loadAB [.slice ra ((r.nums.take ((min ((r.nums.length : Nat) : Int) 8).toNat)).length) rc, .string (r.text.extract 0 ((min ((r.text.size : Nat) : Int) 100).toNat))] Try.underlying53 rfl sz53 rfl (H4.blk 0 rfl) rfl rfl ?_)
  refine WL.op rfl (d_call ok25 rfl (Ret.calls (opOf_any (⟨r.nums.take ((min ((r.nums.length : Nat) : Int) 8).toNat), r.text.extract 0 ((min ((r.text.size : Nat) : Int) 100).toNat)⟩ : RawD) ra rc w4 (rs1.at H4) ) fun _ w5 p2 => ?_))
  obtain ⟨rfl, u5⟩ := p2
  have H5 : UpG w [] w5 [[blk w.heap.size #[.slice ra ((r.nums.take ((min ((r.nums.length : Nat) : Int) 8).toNat)).length) rc, .string (r.text.extract 0 ((min ((r.text.size : Nat) : Int) 100).toNat))] 53]] := H4.call u5
  refine WL.op rfl (d_move rfl ?_)
  refine WL.op rfl (d_extract rfl rfl ?_)
  refine WL.op rfl (d_extract rfl rfl ?_)
  refine WL.op rfl (d_alloc sz55 fun w6 u6 => ?_)
  have H6 : UpG w [] w6 [[blk w.heap.size #[.slice ra ((r.nums.take ((min ((r.nums.length : Nat) : Int) 8).toNat)).length) rc, .string (r.text.extract 0 ((min ((r.text.size : Nat) : Int) 100).toNat))] 53], [blk w5.heap.size #[.int .i64 0, .int .i64 0, .int .i64 0, .int .i64 0, .string ⟨#[]⟩] 55]] := H5.new' u6
  refine WL.op0 (d_storeAB (us := [.int .i64 ((ofR (⟨r.nums.take ((min ((r.nums.length : Nat) : Int) 8).toNat), r.text.extract 0 ((min ((r.text.size : Nat) : Int) 100).toNat)⟩ : RawD)).1.kind), .int .i64 ((ofR (⟨r.nums.take ((min ((r.nums.length : Nat) : Int) 8).toNat), r.text.extract 0 ((min ((r.text.size : Nat) : Int) 100).toNat)⟩ : RawD)).1.slot), .int .i64 ((ofR (⟨r.nums.take ((min ((r.nums.length : Nat) : Int) 8).toNat), r.text.extract 0 ((min ((r.text.size : Nat) : Int) 100).toNat)⟩ : RawD)).1.at_), .int .i64 ((ofR (⟨r.nums.take ((min ((r.nums.length : Nat) : Int) 8).toNat), r.text.extract 0 ((min ((r.text.size : Nat) : Int) 100).toNat)⟩ : RawD)).1.len), .string ((ofR (⟨r.nums.take ((min ((r.nums.length : Nat) : Int) 8).toNat), r.text.extract 0 ((min ((r.text.size : Nat) : Int) 100).toNat)⟩ : RawD)).1.text)]) (cs' := #[.int .i64 ((ofR (⟨r.nums.take ((min ((r.nums.length : Nat) : Int) 8).toNat), r.text.extract 0 ((min ((r.text.size : Nat) : Int) 100).toNat)⟩ : RawD)).1.kind), .int .i64 ((ofR (⟨r.nums.take ((min ((r.nums.length : Nat) : Int) 8).toNat), r.text.extract 0 ((min ((r.text.size : Nat) : Int) 100).toNat)⟩ : RawD)).1.slot), .int .i64 ((ofR (⟨r.nums.take ((min ((r.nums.length : Nat) : Int) 8).toNat), r.text.extract 0 ((min ((r.text.size : Nat) : Int) 100).toNat)⟩ : RawD)).1.at_), .int .i64 ((ofR (⟨r.nums.take ((min ((r.nums.length : Nat) : Int) 8).toNat), r.text.extract 0 ((min ((r.text.size : Nat) : Int) 100).toNat)⟩ : RawD)).1.len), .string ((ofR (⟨r.nums.take ((min ((r.nums.length : Nat) : Int) 8).toNat), r.text.extract 0 ((min ((r.text.size : Nat) : Int) 100).toNat)⟩ : RawD)).1.text)]) sz55 rfl rfl rfl rfl (H6.blk 1 rfl) rfl rfl fun w7 u7 => ?_)
  have H7 : UpG w [] w7 [[blk w.heap.size #[.slice ra ((r.nums.take ((min ((r.nums.length : Nat) : Int) 8).toNat)).length) rc, .string (r.text.extract 0 ((min ((r.text.size : Nat) : Int) 100).toNat))] 53], [blk w5.heap.size #[.int .i64 ((ofR (⟨r.nums.take ((min ((r.nums.length : Nat) : Int) 8).toNat), r.text.extract 0 ((min ((r.text.size : Nat) : Int) 100).toNat)⟩ : RawD)).1.kind), .int .i64 ((ofR (⟨r.nums.take ((min ((r.nums.length : Nat) : Int) 8).toNat), r.text.extract 0 ((min ((r.text.size : Nat) : Int) 100).toNat)⟩ : RawD)).1.slot), .int .i64 ((ofR (⟨r.nums.take ((min ((r.nums.length : Nat) : Int) 8).toNat), r.text.extract 0 ((min ((r.text.size : Nat) : Int) 100).toNat)⟩ : RawD)).1.at_), .int .i64 ((ofR (⟨r.nums.take ((min ((r.nums.length : Nat) : Int) 8).toNat), r.text.extract 0 ((min ((r.text.size : Nat) : Int) 100).toNat)⟩ : RawD)).1.len), .string ((ofR (⟨r.nums.take ((min ((r.nums.length : Nat) : Int) 8).toNat), r.text.extract 0 ((min ((r.text.size : Nat) : Int) 100).toNat)⟩ : RawD)).1.text)] 55]] := H6.on 1 rfl u7
  refine WL.op rfl (d_assign rfl ?_)
  refine WL.done (X.then_code ?_)
  refine W.seq ?_
  refine W.region ?_
  refine WL.op rfl (d_loadAB [.slice ra ((r.nums.take ((min ((r.nums.length : Nat) : Int) 8).toNat)).length) rc, .string (r.text.extract 0 ((min ((r.text.size : Nat) : Int) 100).toNat))] Try.underlying53 rfl sz53 rfl (H7.blk 0 rfl) rfl rfl ?_)
  refine WL.op rfl (d_call ok26 rfl (Ret.calls (refOf_any (⟨r.nums.take ((min ((r.nums.length : Nat) : Int) 8).toNat), r.text.extract 0 ((min ((r.text.size : Nat) : Int) 100).toNat)⟩ : RawD) ra rc w7 (rs1.at H7) ) fun _ w8 p3 => ?_))
  obtain ⟨rfl, u8⟩ := p3
  have H8 : UpG w [] w8 [[blk w.heap.size #[.slice ra ((r.nums.take ((min ((r.nums.length : Nat) : Int) 8).toNat)).length) rc, .string (r.text.extract 0 ((min ((r.text.size : Nat) : Int) 100).toNat))] 53], [blk w5.heap.size #[.int .i64 ((ofR (⟨r.nums.take ((min ((r.nums.length : Nat) : Int) 8).toNat), r.text.extract 0 ((min ((r.text.size : Nat) : Int) 100).toNat)⟩ : RawD)).1.kind), .int .i64 ((ofR (⟨r.nums.take ((min ((r.nums.length : Nat) : Int) 8).toNat), r.text.extract 0 ((min ((r.text.size : Nat) : Int) 100).toNat)⟩ : RawD)).1.slot), .int .i64 ((ofR (⟨r.nums.take ((min ((r.nums.length : Nat) : Int) 8).toNat), r.text.extract 0 ((min ((r.text.size : Nat) : Int) 100).toNat)⟩ : RawD)).1.at_), .int .i64 ((ofR (⟨r.nums.take ((min ((r.nums.length : Nat) : Int) 8).toNat), r.text.extract 0 ((min ((r.text.size : Nat) : Int) 100).toNat)⟩ : RawD)).1.len), .string ((ofR (⟨r.nums.take ((min ((r.nums.length : Nat) : Int) 8).toNat), r.text.extract 0 ((min ((r.text.size : Nat) : Int) 100).toNat)⟩ : RawD)).1.text)] 55]] := H7.call u8
  refine WL.op rfl (d_move rfl ?_)
  refine WL.op rfl (d_extract rfl rfl ?_)
  refine WL.op rfl (d_extract rfl rfl ?_)
  refine WL.op rfl (d_alloc sz55 fun w9 u9 => ?_)
  have H9 : UpG w [] w9 [[blk w.heap.size #[.slice ra ((r.nums.take ((min ((r.nums.length : Nat) : Int) 8).toNat)).length) rc, .string (r.text.extract 0 ((min ((r.text.size : Nat) : Int) 100).toNat))] 53], [blk w5.heap.size #[.int .i64 ((ofR (⟨r.nums.take ((min ((r.nums.length : Nat) : Int) 8).toNat), r.text.extract 0 ((min ((r.text.size : Nat) : Int) 100).toNat)⟩ : RawD)).1.kind), .int .i64 ((ofR (⟨r.nums.take ((min ((r.nums.length : Nat) : Int) 8).toNat), r.text.extract 0 ((min ((r.text.size : Nat) : Int) 100).toNat)⟩ : RawD)).1.slot), .int .i64 ((ofR (⟨r.nums.take ((min ((r.nums.length : Nat) : Int) 8).toNat), r.text.extract 0 ((min ((r.text.size : Nat) : Int) 100).toNat)⟩ : RawD)).1.at_), .int .i64 ((ofR (⟨r.nums.take ((min ((r.nums.length : Nat) : Int) 8).toNat), r.text.extract 0 ((min ((r.text.size : Nat) : Int) 100).toNat)⟩ : RawD)).1.len), .string ((ofR (⟨r.nums.take ((min ((r.nums.length : Nat) : Int) 8).toNat), r.text.extract 0 ((min ((r.text.size : Nat) : Int) 100).toNat)⟩ : RawD)).1.text)] 55], [blk w8.heap.size #[.int .i64 0, .int .i64 0, .int .i64 0, .int .i64 0, .string ⟨#[]⟩] 55]] := H8.new' u9
  refine WL.op0 (d_storeAB (us := [.int .i64 ((ofR (⟨r.nums.take ((min ((r.nums.length : Nat) : Int) 8).toNat), r.text.extract 0 ((min ((r.text.size : Nat) : Int) 100).toNat)⟩ : RawD)).1.kind), .int .i64 ((ofR (⟨r.nums.take ((min ((r.nums.length : Nat) : Int) 8).toNat), r.text.extract 0 ((min ((r.text.size : Nat) : Int) 100).toNat)⟩ : RawD)).1.slot), .int .i64 ((ofR (⟨r.nums.take ((min ((r.nums.length : Nat) : Int) 8).toNat), r.text.extract 0 ((min ((r.text.size : Nat) : Int) 100).toNat)⟩ : RawD)).1.at_), .int .i64 ((ofR (⟨r.nums.take ((min ((r.nums.length : Nat) : Int) 8).toNat), r.text.extract 0 ((min ((r.text.size : Nat) : Int) 100).toNat)⟩ : RawD)).1.len), .string ((ofR (⟨r.nums.take ((min ((r.nums.length : Nat) : Int) 8).toNat), r.text.extract 0 ((min ((r.text.size : Nat) : Int) 100).toNat)⟩ : RawD)).1.text)]) (cs' := #[.int .i64 ((ofR (⟨r.nums.take ((min ((r.nums.length : Nat) : Int) 8).toNat), r.text.extract 0 ((min ((r.text.size : Nat) : Int) 100).toNat)⟩ : RawD)).1.kind), .int .i64 ((ofR (⟨r.nums.take ((min ((r.nums.length : Nat) : Int) 8).toNat), r.text.extract 0 ((min ((r.text.size : Nat) : Int) 100).toNat)⟩ : RawD)).1.slot), .int .i64 ((ofR (⟨r.nums.take ((min ((r.nums.length : Nat) : Int) 8).toNat), r.text.extract 0 ((min ((r.text.size : Nat) : Int) 100).toNat)⟩ : RawD)).1.at_), .int .i64 ((ofR (⟨r.nums.take ((min ((r.nums.length : Nat) : Int) 8).toNat), r.text.extract 0 ((min ((r.text.size : Nat) : Int) 100).toNat)⟩ : RawD)).1.len), .string ((ofR (⟨r.nums.take ((min ((r.nums.length : Nat) : Int) 8).toNat), r.text.extract 0 ((min ((r.text.size : Nat) : Int) 100).toNat)⟩ : RawD)).1.text)]) sz55 rfl rfl rfl rfl (H9.blk 2 rfl) rfl rfl fun w10 u10 => ?_)
  have H10 : UpG w [] w10 [[blk w.heap.size #[.slice ra ((r.nums.take ((min ((r.nums.length : Nat) : Int) 8).toNat)).length) rc, .string (r.text.extract 0 ((min ((r.text.size : Nat) : Int) 100).toNat))] 53], [blk w5.heap.size #[.int .i64 ((ofR (⟨r.nums.take ((min ((r.nums.length : Nat) : Int) 8).toNat), r.text.extract 0 ((min ((r.text.size : Nat) : Int) 100).toNat)⟩ : RawD)).1.kind), .int .i64 ((ofR (⟨r.nums.take ((min ((r.nums.length : Nat) : Int) 8).toNat), r.text.extract 0 ((min ((r.text.size : Nat) : Int) 100).toNat)⟩ : RawD)).1.slot), .int .i64 ((ofR (⟨r.nums.take ((min ((r.nums.length : Nat) : Int) 8).toNat), r.text.extract 0 ((min ((r.text.size : Nat) : Int) 100).toNat)⟩ : RawD)).1.at_), .int .i64 ((ofR (⟨r.nums.take ((min ((r.nums.length : Nat) : Int) 8).toNat), r.text.extract 0 ((min ((r.text.size : Nat) : Int) 100).toNat)⟩ : RawD)).1.len), .string ((ofR (⟨r.nums.take ((min ((r.nums.length : Nat) : Int) 8).toNat), r.text.extract 0 ((min ((r.text.size : Nat) : Int) 100).toNat)⟩ : RawD)).1.text)] 55], [blk w8.heap.size #[.int .i64 ((ofR (⟨r.nums.take ((min ((r.nums.length : Nat) : Int) 8).toNat), r.text.extract 0 ((min ((r.text.size : Nat) : Int) 100).toNat)⟩ : RawD)).1.kind), .int .i64 ((ofR (⟨r.nums.take ((min ((r.nums.length : Nat) : Int) 8).toNat), r.text.extract 0 ((min ((r.text.size : Nat) : Int) 100).toNat)⟩ : RawD)).1.slot), .int .i64 ((ofR (⟨r.nums.take ((min ((r.nums.length : Nat) : Int) 8).toNat), r.text.extract 0 ((min ((r.text.size : Nat) : Int) 100).toNat)⟩ : RawD)).1.at_), .int .i64 ((ofR (⟨r.nums.take ((min ((r.nums.length : Nat) : Int) 8).toNat), r.text.extract 0 ((min ((r.text.size : Nat) : Int) 100).toNat)⟩ : RawD)).1.len), .string ((ofR (⟨r.nums.take ((min ((r.nums.length : Nat) : Int) 8).toNat), r.text.extract 0 ((min ((r.text.size : Nat) : Int) 100).toNat)⟩ : RawD)).1.text)] 55]] := H9.on 2 rfl u10
  refine WL.op rfl (d_assign rfl ?_)
  refine WL.done (X.then_code ?_)
  refine W.seq ?_
  refine W.seq ?_
  refine W.region ?_
  refine WL.op rfl (d_move rfl ?_)
  refine WL.op rfl (d_move rfl ?_)
  refine WL.op rfl (d_cmp (decide (((ofR (⟨r.nums.take ((min ((r.nums.length : Nat) : Int) 8).toNat), r.text.extract 0 ((min ((r.text.size : Nat) : Int) 100).toNat)⟩ : RawD)).2) ≠ ((ofR (⟨r.nums.take ((min ((r.nums.length : Nat) : Int) 8).toNat), r.text.extract 0 ((min ((r.text.size : Nat) : Int) 100).toNat)⟩ : RawD)).2))) rfl rfl rfl ?_)
  refine WL.op rfl (d_move rfl ?_)
  refine WL.part 40 (p := ((ofR (⟨r.nums.take ((min ((r.nums.length : Nat) : Int) 8).toNat), r.text.extract 0 ((min ((r.text.size : Nat) : Int) 100).toNat)⟩ : RawD)).2) ≠ ((ofR (⟨r.nums.take ((min ((r.nums.length : Nat) : Int) 8).toNat), r.text.extract 0 ((min ((r.text.size : Nat) : Int) 100).toNat)⟩ : RawD)).2)) rfl (fun g26 => ?_) (fun g26 => ?_)
  · skip
    exfalso; omega
  · skip
    refine WL.opG rfl rfl rfl (d_loadAB [.int .i64 ((ofR (⟨r.nums.take ((min ((r.nums.length : Nat) : Int) 8).toNat), r.text.extract 0 ((min ((r.text.size : Nat) : Int) 100).toNat)⟩ : RawD)).1.kind), .int .i64 ((ofR (⟨r.nums.take ((min ((r.nums.length : Nat) : Int) 8).toNat), r.text.extract 0 ((min ((r.text.size : Nat) : Int) 100).toNat)⟩ : RawD)).1.slot), .int .i64 ((ofR (⟨r.nums.take ((min ((r.nums.length : Nat) : Int) 8).toNat), r.text.extract 0 ((min ((r.text.size : Nat) : Int) 100).toNat)⟩ : RawD)).1.at_), .int .i64 ((ofR (⟨r.nums.take ((min ((r.nums.length : Nat) : Int) 8).toNat), r.text.extract 0 ((min ((r.text.size : Nat) : Int) 100).toNat)⟩ : RawD)).1.len), .string ((ofR (⟨r.nums.take ((min ((r.nums.length : Nat) : Int) 8).toNat), r.text.extract 0 ((min ((r.text.size : Nat) : Int) 100).toNat)⟩ : RawD)).1.text)] Try.underlying55 rfl sz55 rfl (H10.blk 1 rfl) rfl rfl ?_)
    refine WL.opG rfl rfl rfl (d_loadAB [.int .i64 ((ofR (⟨r.nums.take ((min ((r.nums.length : Nat) : Int) 8).toNat), r.text.extract 0 ((min ((r.text.size : Nat) : Int) 100).toNat)⟩ : RawD)).1.kind), .int .i64 ((ofR (⟨r.nums.take ((min ((r.nums.length : Nat) : Int) 8).toNat), r.text.extract 0 ((min ((r.text.size : Nat) : Int) 100).toNat)⟩ : RawD)).1.slot), .int .i64 ((ofR (⟨r.nums.take ((min ((r.nums.length : Nat) : Int) 8).toNat), r.text.extract 0 ((min ((r.text.size : Nat) : Int) 100).toNat)⟩ : RawD)).1.at_), .int .i64 ((ofR (⟨r.nums.take ((min ((r.nums.length : Nat) : Int) 8).toNat), r.text.extract 0 ((min ((r.text.size : Nat) : Int) 100).toNat)⟩ : RawD)).1.len), .string ((ofR (⟨r.nums.take ((min ((r.nums.length : Nat) : Int) 8).toNat), r.text.extract 0 ((min ((r.text.size : Nat) : Int) 100).toNat)⟩ : RawD)).1.text)] Try.underlying55 rfl sz55 rfl (H10.blk 2 rfl) rfl rfl ?_)
    refine WL.opG rfl rfl rfl (d_aggne [.int .i64 ((ofR (⟨r.nums.take ((min ((r.nums.length : Nat) : Int) 8).toNat), r.text.extract 0 ((min ((r.text.size : Nat) : Int) 100).toNat)⟩ : RawD)).1.kind), .int .i64 ((ofR (⟨r.nums.take ((min ((r.nums.length : Nat) : Int) 8).toNat), r.text.extract 0 ((min ((r.text.size : Nat) : Int) 100).toNat)⟩ : RawD)).1.slot), .int .i64 ((ofR (⟨r.nums.take ((min ((r.nums.length : Nat) : Int) 8).toNat), r.text.extract 0 ((min ((r.text.size : Nat) : Int) 100).toNat)⟩ : RawD)).1.at_), .int .i64 ((ofR (⟨r.nums.take ((min ((r.nums.length : Nat) : Int) 8).toNat), r.text.extract 0 ((min ((r.text.size : Nat) : Int) 100).toNat)⟩ : RawD)).1.len), .string ((ofR (⟨r.nums.take ((min ((r.nums.length : Nat) : Int) 8).toNat), r.text.extract 0 ((min ((r.text.size : Nat) : Int) 100).toNat)⟩ : RawD)).1.text)] [.int .i64 ((ofR (⟨r.nums.take ((min ((r.nums.length : Nat) : Int) 8).toNat), r.text.extract 0 ((min ((r.text.size : Nat) : Int) 100).toNat)⟩ : RawD)).1.kind), .int .i64 ((ofR (⟨r.nums.take ((min ((r.nums.length : Nat) : Int) 8).toNat), r.text.extract 0 ((min ((r.text.size : Nat) : Int) 100).toNat)⟩ : RawD)).1.slot), .int .i64 ((ofR (⟨r.nums.take ((min ((r.nums.length : Nat) : Int) 8).toNat), r.text.extract 0 ((min ((r.text.size : Nat) : Int) 100).toNat)⟩ : RawD)).1.at_), .int .i64 ((ofR (⟨r.nums.take ((min ((r.nums.length : Nat) : Int) 8).toNat), r.text.extract 0 ((min ((r.text.size : Nat) : Int) 100).toNat)⟩ : RawD)).1.len), .string ((ofR (⟨r.nums.take ((min ((r.nums.length : Nat) : Int) 8).toNat), r.text.extract 0 ((min ((r.text.size : Nat) : Int) 100).toNat)⟩ : RawD)).1.text)] rfl rfl (by kernel_rfl) (by kernel_rfl) (by kernel_rfl) (by kernel_rfl) ?_)
    refine WL.op rfl (d_pick rfl rfl ?_)
    refine WL.done (X.then_code ?_)
    refine W.pick [44, 4, 3, 2, 1] (Γ' := [(44, .bool (!(decide (((ofR (⟨r.nums.take ((min ((r.nums.length : Nat) : Int) 8).toNat), r.text.extract 0 ((min ((r.text.size : Nat) : Int) 100).toNat)⟩ : RawD)).1.kind) = ((ofR (⟨r.nums.take ((min ((r.nums.length : Nat) : Int) 8).toNat), r.text.extract 0 ((min ((r.text.size : Nat) : Int) 100).toNat)⟩ : RawD)).1.kind)) && (decide (((ofR (⟨r.nums.take ((min ((r.nums.length : Nat) : Int) 8).toNat), r.text.extract 0 ((min ((r.text.size : Nat) : Int) 100).toNat)⟩ : RawD)).1.slot) = ((ofR (⟨r.nums.take ((min ((r.nums.length : Nat) : Int) 8).toNat), r.text.extract 0 ((min ((r.text.size : Nat) : Int) 100).toNat)⟩ : RawD)).1.slot)) && (decide (((ofR (⟨r.nums.take ((min ((r.nums.length : Nat) : Int) 8).toNat), r.text.extract 0 ((min ((r.text.size : Nat) : Int) 100).toNat)⟩ : RawD)).1.at_) = ((ofR (⟨r.nums.take ((min ((r.nums.length : Nat) : Int) 8).toNat), r.text.extract 0 ((min ((r.text.size : Nat) : Int) 100).toNat)⟩ : RawD)).1.at_)) && (decide (((ofR (⟨r.nums.take ((min ((r.nums.length : Nat) : Int) 8).toNat), r.text.extract 0 ((min ((r.text.size : Nat) : Int) 100).toNat)⟩ : RawD)).1.len) = ((ofR (⟨r.nums.take ((min ((r.nums.length : Nat) : Int) 8).toNat), r.text.extract 0 ((min ((r.text.size : Nat) : Int) 100).toNat)⟩ : RawD)).1.len)) && (decide (((ofR (⟨r.nums.take ((min ((r.nums.length : Nat) : Int) 8).toNat), r.text.extract 0 ((min ((r.text.size : Nat) : Int) 100).toNat)⟩ : RawD)).1.text) = ((ofR (⟨r.nums.take ((min ((r.nums.length : Nat) : Int) 8).toNat), r.text.extract 0 ((min ((r.text.size : Nat) : Int) 100).toNat)⟩ : RawD)).1.text))))))))), (4, .int .i64 ((ofR (⟨r.nums.take ((min ((r.nums.length : Nat) : Int) 8).toNat), r.text.extract 0 ((min ((r.text.size : Nat) : Int) 100).toNat)⟩ : RawD)).2)), (3, .pointer (some ⟨w5.heap.size, 0, none⟩)), (2, .bool false), (1, .pointer (some ⟨w.heap.size, 0, none⟩))]) rfl ?_
    refine W.iteB (b := !(decide (((ofR (⟨r.nums.take ((min ((r.nums.length : Nat) : Int) 8).toNat), r.text.extract 0 ((min ((r.text.size : Nat) : Int) 100).toNat)⟩ : RawD)).1.kind) = ((ofR (⟨r.nums.take ((min ((r.nums.length : Nat) : Int) 8).toNat), r.text.extract 0 ((min ((r.text.size : Nat) : Int) 100).toNat)⟩ : RawD)).1.kind)) && (decide (((ofR (⟨r.nums.take ((min ((r.nums.length : Nat) : Int) 8).toNat), r.text.extract 0 ((min ((r.text.size : Nat) : Int) 100).toNat)⟩ : RawD)).1.slot) = ((ofR (⟨r.nums.take ((min ((r.nums.length : Nat) : Int) 8).toNat), r.text.extract 0 ((min ((r.text.size : Nat) : Int) 100).toNat)⟩ : RawD)).1.slot)) && (decide (((ofR (⟨r.nums.take ((min ((r.nums.length : Nat) : Int) 8).toNat), r.text.extract 0 ((min ((r.text.size : Nat) : Int) 100).toNat)⟩ : RawD)).1.at_) = ((ofR (⟨r.nums.take ((min ((r.nums.length : Nat) : Int) 8).toNat), r.text.extract 0 ((min ((r.text.size : Nat) : Int) 100).toNat)⟩ : RawD)).1.at_)) && (decide (((ofR (⟨r.nums.take ((min ((r.nums.length : Nat) : Int) 8).toNat), r.text.extract 0 ((min ((r.text.size : Nat) : Int) 100).toNat)⟩ : RawD)).1.len) = ((ofR (⟨r.nums.take ((min ((r.nums.length : Nat) : Int) 8).toNat), r.text.extract 0 ((min ((r.text.size : Nat) : Int) 100).toNat)⟩ : RawD)).1.len)) && (decide (((ofR (⟨r.nums.take ((min ((r.nums.length : Nat) : Int) 8).toNat), r.text.extract 0 ((min ((r.text.size : Nat) : Int) 100).toNat)⟩ : RawD)).1.text) = ((ofR (⟨r.nums.take ((min ((r.nums.length : Nat) : Int) 8).toNat), r.text.extract 0 ((min ((r.text.size : Nat) : Int) 100).toNat)⟩ : RawD)).1.text)))))))) rfl (fun c26 => ?_) (fun c26 => ?_)
    · skip
      exfalso; exact absurd c26 (by simp)
    · skip
      refine W.skip (X.then_code ?_)
      refine W.seq ?_
      refine W.seq ?_
      refine W.region ?_
      refine WL.op rfl (d_move rfl ?_)
      refine WL.op rfl (d_cmp (decide (((ofR (⟨r.nums.take ((min ((r.nums.length : Nat) : Int) 8).toNat), r.text.extract 0 ((min ((r.text.size : Nat) : Int) 100).toNat)⟩ : RawD)).2) ≠ (0 : Int))) rfl rfl rfl ?_)
      refine WL.done (X.then_code ?_)
      refine W.ite (p := ((ofR (⟨r.nums.take ((min ((r.nums.length : Nat) : Int) 8).toNat), r.text.extract 0 ((min ((r.text.size : Nat) : Int) 100).toNat)⟩ : RawD)).2) ≠ (0 : Int)) rfl (fun c29 => ?_) (fun c29 => ?_)
      · skip
        refine W.seq ?_
        refine W.region ?_
        refine WL.op rfl (d_assign rfl ?_)
        refine WL.done (X.then_code ?_)
        refine W.ret (X.then_ret (X.ret1 rfl rfl ?_))
        exact ⟨rfl, H10.noneL⟩
      · skip
        have hb := ofR_fst (r := (⟨r.nums.take (min ((r.nums.length : Nat) : Int) 8).toNat, r.text.extract 0 (min ((r.text.size : Nat) : Int) 100).toNat⟩ : RawD)) (by simpa using c29)
        refine W.skip (X.then_code ?_)
        refine W.seq ?_
        refine W.region ?_
        refine WL.op rfl (d_loadAB [.int .i64 ((ofR (⟨r.nums.take ((min ((r.nums.length : Nat) : Int) 8).toNat), r.text.extract 0 ((min ((r.text.size : Nat) : Int) 100).toNat)⟩ : RawD)).1.kind), .int .i64 ((ofR (⟨r.nums.take ((min ((r.nums.length : Nat) : Int) 8).toNat), r.text.extract 0 ((min ((r.text.size : Nat) : Int) 100).toNat)⟩ : RawD)).1.slot), .int .i64 ((ofR (⟨r.nums.take ((min ((r.nums.length : Nat) : Int) 8).toNat), r.text.extract 0 ((min ((r.text.size : Nat) : Int) 100).toNat)⟩ : RawD)).1.at_), .int .i64 ((ofR (⟨r.nums.take ((min ((r.nums.length : Nat) : Int) 8).toNat), r.text.extract 0 ((min ((r.text.size : Nat) : Int) 100).toNat)⟩ : RawD)).1.len), .string ((ofR (⟨r.nums.take ((min ((r.nums.length : Nat) : Int) 8).toNat), r.text.extract 0 ((min ((r.text.size : Nat) : Int) 100).toNat)⟩ : RawD)).1.text)] Try.underlying55 rfl sz55 rfl (H10.blk 1 rfl) rfl rfl ?_)
        refine WL.op rfl (d_call ok27 rfl (Ret.calls (opRaw_any ((ofR (⟨r.nums.take ((min ((r.nums.length : Nat) : Int) 8).toNat), r.text.extract 0 ((min ((r.text.size : Nat) : Int) 100).toNat)⟩ : RawD)).1) w10  ) fun _ w11 p4 => ?_))
        obtain ⟨ra2_1, rc2_1, rfl, u11⟩ := p4
        have H11 : UpG w [] w11 [[blk w.heap.size #[.slice ra ((r.nums.take ((min ((r.nums.length : Nat) : Int) 8).toNat)).length) rc, .string (r.text.extract 0 ((min ((r.text.size : Nat) : Int) 100).toNat))] 53], [blk w5.heap.size #[.int .i64 ((ofR (⟨r.nums.take ((min ((r.nums.length : Nat) : Int) 8).toNat), r.text.extract 0 ((min ((r.text.size : Nat) : Int) 100).toNat)⟩ : RawD)).1.kind), .int .i64 ((ofR (⟨r.nums.take ((min ((r.nums.length : Nat) : Int) 8).toNat), r.text.extract 0 ((min ((r.text.size : Nat) : Int) 100).toNat)⟩ : RawD)).1.slot), .int .i64 ((ofR (⟨r.nums.take ((min ((r.nums.length : Nat) : Int) 8).toNat), r.text.extract 0 ((min ((r.text.size : Nat) : Int) 100).toNat)⟩ : RawD)).1.at_), .int .i64 ((ofR (⟨r.nums.take ((min ((r.nums.length : Nat) : Int) 8).toNat), r.text.extract 0 ((min ((r.text.size : Nat) : Int) 100).toNat)⟩ : RawD)).1.len), .string ((ofR (⟨r.nums.take ((min ((r.nums.length : Nat) : Int) 8).toNat), r.text.extract 0 ((min ((r.text.size : Nat) : Int) 100).toNat)⟩ : RawD)).1.text)] 55], [blk w8.heap.size #[.int .i64 ((ofR (⟨r.nums.take ((min ((r.nums.length : Nat) : Int) 8).toNat), r.text.extract 0 ((min ((r.text.size : Nat) : Int) 100).toNat)⟩ : RawD)).1.kind), .int .i64 ((ofR (⟨r.nums.take ((min ((r.nums.length : Nat) : Int) 8).toNat), r.text.extract 0 ((min ((r.text.size : Nat) : Int) 100).toNat)⟩ : RawD)).1.slot), .int .i64 ((ofR (⟨r.nums.take ((min ((r.nums.length : Nat) : Int) 8).toNat), r.text.extract 0 ((min ((r.text.size : Nat) : Int) 100).toNat)⟩ : RawD)).1.at_), .int .i64 ((ofR (⟨r.nums.take ((min ((r.nums.length : Nat) : Int) 8).toNat), r.text.extract 0 ((min ((r.text.size : Nat) : Int) 100).toNat)⟩ : RawD)).1.len), .string ((ofR (⟨r.nums.take ((min ((r.nums.length : Nat) : Int) 8).toNat), r.text.extract 0 ((min ((r.text.size : Nat) : Int) 100).toNat)⟩ : RawD)).1.text)] 55], [rowT (tyI .i64) (.slice ra2_1 (((rawR ((ofR (⟨r.nums.take ((min ((r.nums.length : Nat) : Int) 8).toNat), r.text.extract 0 ((min ((r.text.size : Nat) : Int) 100).toNat)⟩ : RawD)).1)).1.nums).length) rc2_1) 3 ((rawR ((ofR (⟨r.nums.take ((min ((r.nums.length : Nat) : Int) 8).toNat), r.text.extract 0 ((min ((r.text.size : Nat) : Int) 100).toNat)⟩ : RawD)).1)).1.nums)]] := (H10.new' u11).re rfl
        refine WL.op rfl (d_move rfl ?_)
        refine WL.op rfl (d_extract rfl rfl ?_)
        refine WL.op rfl (d_extract rfl rfl ?_)
        refine WL.op rfl (d_alloc sz53 fun w12 u12 => ?_)
        have H12 : UpG w [] w12 [[blk w.heap.size #[.slice ra ((r.nums.take ((min ((r.nums.length : Nat) : Int) 8).toNat)).length) rc, .string (r.text.extract 0 ((min ((r.text.size : Nat) : Int) 100).toNat))] 53], [blk w5.heap.size #[.int .i64 ((ofR (⟨r.nums.take ((min ((r.nums.length : Nat) : Int) 8).toNat), r.text.extract 0 ((min ((r.text.size : Nat) : Int) 100).toNat)⟩ : RawD)).1.kind), .int .i64 ((ofR (⟨r.nums.take ((min ((r.nums.length : Nat) : Int) 8).toNat), r.text.extract 0 ((min ((r.text.size : Nat) : Int) 100).toNat)⟩ : RawD)).1.slot), .int .i64 ((ofR (⟨r.nums.take ((min ((r.nums.length : Nat) : Int) 8).toNat), r.text.extract 0 ((min ((r.text.size : Nat) : Int) 100).toNat)⟩ : RawD)).1.at_), .int .i64 ((ofR (⟨r.nums.take ((min ((r.nums.length : Nat) : Int) 8).toNat), r.text.extract 0 ((min ((r.text.size : Nat) : Int) 100).toNat)⟩ : RawD)).1.len), .string ((ofR (⟨r.nums.take ((min ((r.nums.length : Nat) : Int) 8).toNat), r.text.extract 0 ((min ((r.text.size : Nat) : Int) 100).toNat)⟩ : RawD)).1.text)] 55], [blk w8.heap.size #[.int .i64 ((ofR (⟨r.nums.take ((min ((r.nums.length : Nat) : Int) 8).toNat), r.text.extract 0 ((min ((r.text.size : Nat) : Int) 100).toNat)⟩ : RawD)).1.kind), .int .i64 ((ofR (⟨r.nums.take ((min ((r.nums.length : Nat) : Int) 8).toNat), r.text.extract 0 ((min ((r.text.size : Nat) : Int) 100).toNat)⟩ : RawD)).1.slot), .int .i64 ((ofR (⟨r.nums.take ((min ((r.nums.length : Nat) : Int) 8).toNat), r.text.extract 0 ((min ((r.text.size : Nat) : Int) 100).toNat)⟩ : RawD)).1.at_), .int .i64 ((ofR (⟨r.nums.take ((min ((r.nums.length : Nat) : Int) 8).toNat), r.text.extract 0 ((min ((r.text.size : Nat) : Int) 100).toNat)⟩ : RawD)).1.len), .string ((ofR (⟨r.nums.take ((min ((r.nums.length : Nat) : Int) 8).toNat), r.text.extract 0 ((min ((r.text.size : Nat) : Int) 100).toNat)⟩ : RawD)).1.text)] 55], [rowT (tyI .i64) (.slice ra2_1 (((rawR ((ofR (⟨r.nums.take ((min ((r.nums.length : Nat) : Int) 8).toNat), r.text.extract 0 ((min ((r.text.size : Nat) : Int) 100).toNat)⟩ : RawD)).1)).1.nums).length) rc2_1) 3 ((rawR ((ofR (⟨r.nums.take ((min ((r.nums.length : Nat) : Int) 8).toNat), r.text.extract 0 ((min ((r.text.size : Nat) : Int) 100).toNat)⟩ : RawD)).1)).1.nums)], [blk w11.heap.size #[.slice none 0 0, .string ⟨#[]⟩] 53]] := H11.new' u12
        refine WL.op0 (d_storeAB (us := [.slice ra2_1 (((rawR ((ofR (⟨r.nums.take ((min ((r.nums.length : Nat) : Int) 8).toNat), r.text.extract 0 ((min ((r.text.size : Nat) : Int) 100).toNat)⟩ : RawD)).1)).1.nums).length) rc2_1, .string ((rawR ((ofR (⟨r.nums.take ((min ((r.nums.length : Nat) : Int) 8).toNat), r.text.extract 0 ((min ((r.text.size : Nat) : Int) 100).toNat)⟩ : RawD)).1)).1.text)]) (cs' := #[.slice ra2_1 (((rawR ((ofR (⟨r.nums.take ((min ((r.nums.length : Nat) : Int) 8).toNat), r.text.extract 0 ((min ((r.text.size : Nat) : Int) 100).toNat)⟩ : RawD)).1)).1.nums).length) rc2_1, .string ((rawR ((ofR (⟨r.nums.take ((min ((r.nums.length : Nat) : Int) 8).toNat), r.text.extract 0 ((min ((r.text.size : Nat) : Int) 100).toNat)⟩ : RawD)).1)).1.text)]) sz53 rfl rfl rfl rfl (H12.blk 4 rfl) rfl rfl fun w13 u13 => ?_)
        have H13 : UpG w [] w13 [[blk w.heap.size #[.slice ra ((r.nums.take ((min ((r.nums.length : Nat) : Int) 8).toNat)).length) rc, .string (r.text.extract 0 ((min ((r.text.size : Nat) : Int) 100).toNat))] 53], [blk w5.heap.size #[.int .i64 ((ofR (⟨r.nums.take ((min ((r.nums.length : Nat) : Int) 8).toNat), r.text.extract 0 ((min ((r.text.size : Nat) : Int) 100).toNat)⟩ : RawD)).1.kind), .int .i64 ((ofR (⟨r.nums.take ((min ((r.nums.length : Nat) : Int) 8).toNat), r.text.extract 0 ((min ((r.text.size : Nat) : Int) 100).toNat)⟩ : RawD)).1.slot), .int .i64 ((ofR (⟨r.nums.take ((min ((r.nums.length : Nat) : Int) 8).toNat), r.text.extract 0 ((min ((r.text.size : Nat) : Int) 100).toNat)⟩ : RawD)).1.at_), .int .i64 ((ofR (⟨r.nums.take ((min ((r.nums.length : Nat) : Int) 8).toNat), r.text.extract 0 ((min ((r.text.size : Nat) : Int) 100).toNat)⟩ : RawD)).1.len), .string ((ofR (⟨r.nums.take ((min ((r.nums.length : Nat) : Int) 8).toNat), r.text.extract 0 ((min ((r.text.size : Nat) : Int) 100).toNat)⟩ : RawD)).1.text)] 55], [blk w8.heap.size #[.int .i64 ((ofR (⟨r.nums.take ((min ((r.nums.length : Nat) : Int) 8).toNat), r.text.extract 0 ((min ((r.text.size : Nat) : Int) 100).toNat)⟩ : RawD)).1.kind), .int .i64 ((ofR (⟨r.nums.take ((min ((r.nums.length : Nat) : Int) 8).toNat), r.text.extract 0 ((min ((r.text.size : Nat) : Int) 100).toNat)⟩ : RawD)).1.slot), .int .i64 ((ofR (⟨r.nums.take ((min ((r.nums.length : Nat) : Int) 8).toNat), r.text.extract 0 ((min ((r.text.size : Nat) : Int) 100).toNat)⟩ : RawD)).1.at_), .int .i64 ((ofR (⟨r.nums.take ((min ((r.nums.length : Nat) : Int) 8).toNat), r.text.extract 0 ((min ((r.text.size : Nat) : Int) 100).toNat)⟩ : RawD)).1.len), .string ((ofR (⟨r.nums.take ((min ((r.nums.length : Nat) : Int) 8).toNat), r.text.extract 0 ((min ((r.text.size : Nat) : Int) 100).toNat)⟩ : RawD)).1.text)] 55], [rowT (tyI .i64) (.slice ra2_1 (((rawR ((ofR (⟨r.nums.take ((min ((r.nums.length : Nat) : Int) 8).toNat), r.text.extract 0 ((min ((r.text.size : Nat) : Int) 100).toNat)⟩ : RawD)).1)).1.nums).length) rc2_1) 3 ((rawR ((ofR (⟨r.nums.take ((min ((r.nums.length : Nat) : Int) 8).toNat), r.text.extract 0 ((min ((r.text.size : Nat) : Int) 100).toNat)⟩ : RawD)).1)).1.nums)], [blk w11.heap.size #[.slice ra2_1 (((rawR ((ofR (⟨r.nums.take ((min ((r.nums.length : Nat) : Int) 8).toNat), r.text.extract 0 ((min ((r.text.size : Nat) : Int) 100).toNat)⟩ : RawD)).1)).1.nums).length) rc2_1, .string ((rawR ((ofR (⟨r.nums.take ((min ((r.nums.length : Nat) : Int) 8).toNat), r.text.extract 0 ((min ((r.text.size : Nat) : Int) 100).toNat)⟩ : RawD)).1)).1.text)] 53]] := H12.on 4 rfl u13
        refine WL.op rfl (d_assign rfl ?_)
        refine WL.done (X.then_code ?_)
        refine W.seq ?_
        refine W.region ?_
        refine WL.op rfl (d_move rfl ?_)
        refine WL.op rfl (d_cmp (decide (((rawR ((ofR (⟨r.nums.take ((min ((r.nums.length : Nat) : Int) 8).toNat), r.text.extract 0 ((min ((r.text.size : Nat) : Int) 100).toNat)⟩ : RawD)).1)).2) = (0 : Int))) rfl rfl rfl ?_)
        refine WL.op rfl (d_move rfl ?_)
        refine WL.part 54 (p := ((rawR ((ofR (⟨r.nums.take ((min ((r.nums.length : Nat) : Int) 8).toNat), r.text.extract 0 ((min ((r.text.size : Nat) : Int) 100).toNat)⟩ : RawD)).1)).2) = (0 : Int)) rfl (fun g33 => ?_) (fun g33 => ?_)
        · skip
          refine WL.opG rfl rfl rfl (d_loadAB [.slice ra2_1 (((rawR ((ofR (⟨r.nums.take ((min ((r.nums.length : Nat) : Int) 8).toNat), r.text.extract 0 ((min ((r.text.size : Nat) : Int) 100).toNat)⟩ : RawD)).1)).1.nums).length) rc2_1, .string ((rawR ((ofR (⟨r.nums.take ((min ((r.nums.length : Nat) : Int) 8).toNat), r.text.extract 0 ((min ((r.text.size : Nat) : Int) 100).toNat)⟩ : RawD)).1)).1.text)] Try.underlying53 rfl sz53 rfl (H13.blk 4 rfl) rfl rfl ?_)
          refine WL.opG rfl rfl rfl (d_loadAB [.slice ra ((r.nums.take ((min ((r.nums.length : Nat) : Int) 8).toNat)).length) rc, .string (r.text.extract 0 ((min ((r.text.size : Nat) : Int) 100).toNat))] Try.underlying53 rfl sz53 rfl (H13.blk 0 rfl) rfl rfl ?_)
          refine WL.opG rfl rfl rfl (d_call ok28 rfl (Ret.calls (rawSame_any ((rawR ((ofR (⟨r.nums.take ((min ((r.nums.length : Nat) : Int) 8).toNat), r.text.extract 0 ((min ((r.text.size : Nat) : Int) 100).toNat)⟩ : RawD)).1)).1) ra2_1 rc2_1 (⟨r.nums.take ((min ((r.nums.length : Nat) : Int) 8).toNat), r.text.extract 0 ((min ((r.text.size : Nat) : Int) 100).toNat)⟩ : RawD) ra rc w13 (H13.rdT 3 rfl) (rs1.at H13) ) fun _ w14 p5 => ?_))
          obtain ⟨rfl, u14⟩ := p5
          have H14 : UpG w [] w14 [[blk w.heap.size #[.slice ra ((r.nums.take ((min ((r.nums.length : Nat) : Int) 8).toNat)).length) rc, .string (r.text.extract 0 ((min ((r.text.size : Nat) : Int) 100).toNat))] 53], [blk w5.heap.size #[.int .i64 ((ofR (⟨r.nums.take ((min ((r.nums.length : Nat) : Int) 8).toNat), r.text.extract 0 ((min ((r.text.size : Nat) : Int) 100).toNat)⟩ : RawD)).1.kind), .int .i64 ((ofR (⟨r.nums.take ((min ((r.nums.length : Nat) : Int) 8).toNat), r.text.extract 0 ((min ((r.text.size : Nat) : Int) 100).toNat)⟩ : RawD)).1.slot), .int .i64 ((ofR (⟨r.nums.take ((min ((r.nums.length : Nat) : Int) 8).toNat), r.text.extract 0 ((min ((r.text.size : Nat) : Int) 100).toNat)⟩ : RawD)).1.at_), .int .i64 ((ofR (⟨r.nums.take ((min ((r.nums.length : Nat) : Int) 8).toNat), r.text.extract 0 ((min ((r.text.size : Nat) : Int) 100).toNat)⟩ : RawD)).1.len), .string ((ofR (⟨r.nums.take ((min ((r.nums.length : Nat) : Int) 8).toNat), r.text.extract 0 ((min ((r.text.size : Nat) : Int) 100).toNat)⟩ : RawD)).1.text)] 55], [blk w8.heap.size #[.int .i64 ((ofR (⟨r.nums.take ((min ((r.nums.length : Nat) : Int) 8).toNat), r.text.extract 0 ((min ((r.text.size : Nat) : Int) 100).toNat)⟩ : RawD)).1.kind), .int .i64 ((ofR (⟨r.nums.take ((min ((r.nums.length : Nat) : Int) 8).toNat), r.text.extract 0 ((min ((r.text.size : Nat) : Int) 100).toNat)⟩ : RawD)).1.slot), .int .i64 ((ofR (⟨r.nums.take ((min ((r.nums.length : Nat) : Int) 8).toNat), r.text.extract 0 ((min ((r.text.size : Nat) : Int) 100).toNat)⟩ : RawD)).1.at_), .int .i64 ((ofR (⟨r.nums.take ((min ((r.nums.length : Nat) : Int) 8).toNat), r.text.extract 0 ((min ((r.text.size : Nat) : Int) 100).toNat)⟩ : RawD)).1.len), .string ((ofR (⟨r.nums.take ((min ((r.nums.length : Nat) : Int) 8).toNat), r.text.extract 0 ((min ((r.text.size : Nat) : Int) 100).toNat)⟩ : RawD)).1.text)] 55], [rowT (tyI .i64) (.slice ra2_1 (((rawR ((ofR (⟨r.nums.take ((min ((r.nums.length : Nat) : Int) 8).toNat), r.text.extract 0 ((min ((r.text.size : Nat) : Int) 100).toNat)⟩ : RawD)).1)).1.nums).length) rc2_1) 3 ((rawR ((ofR (⟨r.nums.take ((min ((r.nums.length : Nat) : Int) 8).toNat), r.text.extract 0 ((min ((r.text.size : Nat) : Int) 100).toNat)⟩ : RawD)).1)).1.nums)], [blk w11.heap.size #[.slice ra2_1 (((rawR ((ofR (⟨r.nums.take ((min ((r.nums.length : Nat) : Int) 8).toNat), r.text.extract 0 ((min ((r.text.size : Nat) : Int) 100).toNat)⟩ : RawD)).1)).1.nums).length) rc2_1, .string ((rawR ((ofR (⟨r.nums.take ((min ((r.nums.length : Nat) : Int) 8).toNat), r.text.extract 0 ((min ((r.text.size : Nat) : Int) 100).toNat)⟩ : RawD)).1)).1.text)] 53]] := H13.call u14
          refine WL.op rfl (d_pick rfl rfl ?_)
          refine WL.op rfl (d_assign rfl ?_)
          refine WL.done (X.then_code ?_)
          refine W.pick [2] (Γ' := [(2, .bool (decide (((rawR ((ofR (⟨r.nums.take ((min ((r.nums.length : Nat) : Int) 8).toNat), r.text.extract 0 ((min ((r.text.size : Nat) : Int) 100).toNat)⟩ : RawD)).1)).1.nums) = (r.nums.take ((min ((r.nums.length : Nat) : Int) 8).toNat)) ∧ ((rawR ((ofR (⟨r.nums.take ((min ((r.nums.length : Nat) : Int) 8).toNat), r.text.extract 0 ((min ((r.text.size : Nat) : Int) 100).toNat)⟩ : RawD)).1)).1.text) = (r.text.extract 0 ((min ((r.text.size : Nat) : Int) 100).toNat)))))]) rfl ?_
          refine W.ret (X.ret1 rfl rfl ?_)
          exact ⟨(by rw [decide_eq_true (by rw [hb]; exact ⟨rfl, rfl⟩)]), H14.noneL⟩
        · skip
          exact absurd (by rw [hb]) g33

set_option maxRecDepth 20000 in
theorem opWrites_any (o : OpD) (w : World) :
    Calls Try.prog 7 #[.agg #[.int .i64 o.kind, .int .i64 o.slot, .int .i64 o.at_, .int .i64 o.len, .string o.text]] w (Ret fun v w' => v = .bool true ∧ Upd w [] w' []) := by
  refine calls_of_W (args := [.agg #[.int .i64 o.kind, .int .i64 o.slot, .int .i64 o.at_, .int .i64 o.len, .string o.text]]) Try.func7 rfl rfl rfl ?_
  have H0 : UpG w [] w [] := UpG.nil w
  show W _ _ _ _ [(0, .agg #[.int .i64 o.kind, .int .i64 o.slot, .int .i64 o.at_, .int .i64 o.len, .string o.text])] w
  refine W.seq ?_
  refine W.region ?_
  refine WL.op rfl (d_box rfl fun w1 u1 => ?_)
  have H1 : UpG w [] w1 [[blk w.heap.size #[.int .i64 o.kind, .int .i64 o.slot, .int .i64 o.at_, .int .i64 o.len, .string o.text] 55]] := H0.new' u1
  refine WL.op rfl (d_assign rfl ?_)
  refine WL.done (X.then_code ?_)
  refine W.seq ?_
  refine W.seq ?_
  refine W.region ?_
  refine WL.op rfl (d_call ok24 rfl (Ret.calls (oawake_any  w1  ) fun _ w2 p1 => ?_))
  obtain ⟨rfl, u2⟩ := p1
  have H2 : UpG w [] w2 [[blk w.heap.size #[.int .i64 o.kind, .int .i64 o.slot, .int .i64 o.at_, .int .i64 o.len, .string o.text] 55]] := H1.call u2
  refine WL.op rfl (d_notB rfl ?_)
  refine WL.done (X.then_code ?_)
  refine W.iff rfl ?_
  refine W.skip (X.then_code ?_)
  refine W.seq ?_
  refine W.region ?_
  refine WL.op rfl (d_fieldAddrB fld55_4 rfl rfl ?_)
  refine WL.op rfl (d_loadB Try.underlying9 rfl rfl (H2.blk 0 rfl) rfl ?_)
  refine WL.op rfl (d_fieldAddrB fld55_4 rfl rfl ?_)
  refine WL.op rfl (d_loadB Try.underlying9 rfl rfl (H2.blk 0 rfl) rfl ?_)
  refine WL.op rfl (d_lenStr Try.underlying9 rfl ?_)
  refine WL.op rfl (d_min rfl rfl ?_)
  refine WL.op rfl (d_substrN 0 (min ((o.text.size : Nat) : Int) 100) 0 ((min ((o.text.size : Nat) : Int) 100).toNat) Try.underlying9 rfl rfl rfl (.inl ⟨rfl, rfl⟩) (.inr ⟨_, rfl⟩) (by omega) (by omega) ⟨by omega, by omega, by omega⟩ ?_)
  refine WL.op rfl (d_fieldAddrB fld55_4 rfl rfl ?_)
  refine WL.op0 (d_storeB sz9 rfl rfl rfl (H2.blk 0 rfl) rfl fun w3 u3 => ?_)
  have H3 : UpG w [] w3 [[blk w.heap.size #[.int .i64 o.kind, .int .i64 o.slot, .int .i64 o.at_, .int .i64 o.len, .string (o.text.extract 0 ((min ((o.text.size : Nat) : Int) 100).toNat))] 55]] := H2.on 0 rfl u3
  refine WL.done (X.then_code ?_)
  refine W.seq ?_
  refine W.region ?_
  refine WL.op rfl (d_loadAB [.int .i64 o.kind, .int .i64 o.slot, .int .i64 o.at_, .int .i64 o.len, .string (o.text.extract 0 ((min ((o.text.size : Nat) : Int) 100).toNat))] Try.underlying55 rfl sz55 rfl (H3.blk 0 rfl) rfl rfl ?_)
  refine WL.op rfl (d_call ok27 rfl (Ret.calls (opRaw_any (⟨o.kind, o.slot, o.at_, o.len, o.text.extract 0 ((min ((o.text.size : Nat) : Int) 100).toNat)⟩ : OpD) w3  ) fun _ w4 p2 => ?_))
  obtain ⟨ra2_1, rc2_1, rfl, u4⟩ := p2
  have H4 : UpG w [] w4 [[blk w.heap.size #[.int .i64 o.kind, .int .i64 o.slot, .int .i64 o.at_, .int .i64 o.len, .string (o.text.extract 0 ((min ((o.text.size : Nat) : Int) 100).toNat))] 55], [rowT (tyI .i64) (.slice ra2_1 (((rawR (⟨o.kind, o.slot, o.at_, o.len, o.text.extract 0 ((min ((o.text.size : Nat) : Int) 100).toNat)⟩ : OpD)).1.nums).length) rc2_1) 3 ((rawR (⟨o.kind, o.slot, o.at_, o.len, o.text.extract 0 ((min ((o.text.size : Nat) : Int) 100).toNat)⟩ : OpD)).1.nums)]] := (H3.new' u4).re rfl
  refine WL.op rfl (d_move rfl ?_)
  refine WL.op rfl (d_extract rfl rfl ?_)
  refine WL.op rfl (d_extract rfl rfl ?_)
  refine WL.op rfl (d_alloc sz53 fun w5 u5 => ?_)
  have H5 : UpG w [] w5 [[blk w.heap.size #[.int .i64 o.kind, .int .i64 o.slot, .int .i64 o.at_, .int .i64 o.len, .string (o.text.extract 0 ((min ((o.text.size : Nat) : Int) 100).toNat))] 55], [rowT (tyI .i64) (.slice ra2_1 (((rawR (⟨o.kind, o.slot, o.at_, o.len, o.text.extract 0 ((min ((o.text.size : Nat) : Int) 100).toNat)⟩ : OpD)).1.nums).length) rc2_1) 3 ((rawR (⟨o.kind, o.slot, o.at_, o.len, o.text.extract 0 ((min ((o.text.size : Nat) : Int) 100).toNat)⟩ : OpD)).1.nums)], [blk w4.heap.size #[.slice none 0 0, .string ⟨#[]⟩] 53]] := H4.new' u5
  refine WL.op0 (d_storeAB (us := [.slice ra2_1 (((rawR (⟨o.kind, o.slot, o.at_, o.len, o.text.extract 0 ((min ((o.text.size : Nat) : Int) 100).toNat)⟩ : OpD)).1.nums).length) rc2_1, .string ((rawR (⟨o.kind, o.slot, o.at_, o.len, o.text.extract 0 ((min ((o.text.size : Nat) : Int) 100).toNat)⟩ : OpD)).1.text)]) (cs' := #[.slice ra2_1 (((rawR (⟨o.kind, o.slot, o.at_, o.len, o.text.extract 0 ((min ((o.text.size : Nat) : Int) 100).toNat)⟩ : OpD)).1.nums).length) rc2_1, .string ((rawR (⟨o.kind, o.slot, o.at_, o.len, o.text.extract 0 ((min ((o.text.size : Nat) : Int) 100).toNat)⟩ : OpD)).1.text)]) sz53 rfl rfl rfl rfl (H5.blk 2 rfl) rfl rfl fun w6 u6 => ?_)
  have H6 : UpG w [] w6 [[blk w.heap.size #[.int .i64 o.kind, .int .i64 o.slot, .int .i64 o.at_, .int .i64 o.len, .string (o.text.extract 0 ((min ((o.text.size : Nat) : Int) 100).toNat))] 55], [rowT (tyI .i64) (.slice ra2_1 (((rawR (⟨o.kind, o.slot, o.at_, o.len, o.text.extract 0 ((min ((o.text.size : Nat) : Int) 100).toNat)⟩ : OpD)).1.nums).length) rc2_1) 3 ((rawR (⟨o.kind, o.slot, o.at_, o.len, o.text.extract 0 ((min ((o.text.size : Nat) : Int) 100).toNat)⟩ : OpD)).1.nums)], [blk w4.heap.size #[.slice ra2_1 (((rawR (⟨o.kind, o.slot, o.at_, o.len, o.text.extract 0 ((min ((o.text.size : Nat) : Int) 100).toNat)⟩ : OpD)).1.nums).length) rc2_1, .string ((rawR (⟨o.kind, o.slot, o.at_, o.len, o.text.extract 0 ((min ((o.text.size : Nat) : Int) 100).toNat)⟩ : OpD)).1.text)] 53]] := H5.on 2 rfl u6
  refine WL.op rfl (d_assign rfl ?_)
  refine WL.done (X.then_code ?_)
  refine W.pick [4, 3, 2, 1] (Γ' := [(4, .int .i64 ((rawR (⟨o.kind, o.slot, o.at_, o.len, o.text.extract 0 ((min ((o.text.size : Nat) : Int) 100).toNat)⟩ : OpD)).2)), (3, .pointer (some ⟨w4.heap.size, 0, none⟩)), (2, .bool false), (1, .pointer (some ⟨w.heap.size, 0, none⟩))]) rfl ?_
  refine W.seq ?_
  refine W.region ?_
  refine WL.op rfl (d_loadAB [.int .i64 o.kind, .int .i64 o.slot, .int .i64 o.at_, .int .i64 o.len, .string (o.text.extract 0 ((min ((o.text.size : Nat) : Int) 100).toNat))] Try.underlying55 rfl sz55 rfl (H6.blk 0 rfl) rfl rfl ?_)
  refine WL.op rfl (d_call ok29 rfl (Ret.calls (refRaw_any (⟨o.kind, o.slot, o.at_, o.len, o.text.extract 0 ((min ((o.text.size : Nat) : Int) 100).toNat)⟩ : OpD) w6  ) fun _ w7 p3 => ?_))
  obtain ⟨ra2_2, rc2_2, rfl, u7⟩ := p3
  have H7 : UpG w [] w7 [[blk w.heap.size #[.int .i64 o.kind, .int .i64 o.slot, .int .i64 o.at_, .int .i64 o.len, .string (o.text.extract 0 ((min ((o.text.size : Nat) : Int) 100).toNat))] 55], [rowT (tyI .i64) (.slice ra2_1 (((rawR (⟨o.kind, o.slot, o.at_, o.len, o.text.extract 0 ((min ((o.text.size : Nat) : Int) 100).toNat)⟩ : OpD)).1.nums).length) rc2_1) 3 ((rawR (⟨o.kind, o.slot, o.at_, o.len, o.text.extract 0 ((min ((o.text.size : Nat) : Int) 100).toNat)⟩ : OpD)).1.nums)], [blk w4.heap.size #[.slice ra2_1 (((rawR (⟨o.kind, o.slot, o.at_, o.len, o.text.extract 0 ((min ((o.text.size : Nat) : Int) 100).toNat)⟩ : OpD)).1.nums).length) rc2_1, .string ((rawR (⟨o.kind, o.slot, o.at_, o.len, o.text.extract 0 ((min ((o.text.size : Nat) : Int) 100).toNat)⟩ : OpD)).1.text)] 53], [rowT (tyI .i64) (.slice ra2_2 (((rawR (⟨o.kind, o.slot, o.at_, o.len, o.text.extract 0 ((min ((o.text.size : Nat) : Int) 100).toNat)⟩ : OpD)).1.nums).length) rc2_2) 3 ((rawR (⟨o.kind, o.slot, o.at_, o.len, o.text.extract 0 ((min ((o.text.size : Nat) : Int) 100).toNat)⟩ : OpD)).1.nums)]] := (H6.new' u7).re rfl
  refine WL.op rfl (d_move rfl ?_)
  refine WL.op rfl (d_extract rfl rfl ?_)
  refine WL.op rfl (d_extract rfl rfl ?_)
  refine WL.op rfl (d_alloc sz53 fun w8 u8 => ?_)
  have H8 : UpG w [] w8 [[blk w.heap.size #[.int .i64 o.kind, .int .i64 o.slot, .int .i64 o.at_, .int .i64 o.len, .string (o.text.extract 0 ((min ((o.text.size : Nat) : Int) 100).toNat))] 55], [rowT (tyI .i64) (.slice ra2_1 (((rawR (⟨o.kind, o.slot, o.at_, o.len, o.text.extract 0 ((min ((o.text.size : Nat) : Int) 100).toNat)⟩ : OpD)).1.nums).length) rc2_1) 3 ((rawR (⟨o.kind, o.slot, o.at_, o.len, o.text.extract 0 ((min ((o.text.size : Nat) : Int) 100).toNat)⟩ : OpD)).1.nums)], [blk w4.heap.size #[.slice ra2_1 (((rawR (⟨o.kind, o.slot, o.at_, o.len, o.text.extract 0 ((min ((o.text.size : Nat) : Int) 100).toNat)⟩ : OpD)).1.nums).length) rc2_1, .string ((rawR (⟨o.kind, o.slot, o.at_, o.len, o.text.extract 0 ((min ((o.text.size : Nat) : Int) 100).toNat)⟩ : OpD)).1.text)] 53], [rowT (tyI .i64) (.slice ra2_2 (((rawR (⟨o.kind, o.slot, o.at_, o.len, o.text.extract 0 ((min ((o.text.size : Nat) : Int) 100).toNat)⟩ : OpD)).1.nums).length) rc2_2) 3 ((rawR (⟨o.kind, o.slot, o.at_, o.len, o.text.extract 0 ((min ((o.text.size : Nat) : Int) 100).toNat)⟩ : OpD)).1.nums)], [blk w7.heap.size #[.slice none 0 0, .string ⟨#[]⟩] 53]] := H7.new' u8
  refine WL.op0 (d_storeAB (us := [.slice ra2_2 (((rawR (⟨o.kind, o.slot, o.at_, o.len, o.text.extract 0 ((min ((o.text.size : Nat) : Int) 100).toNat)⟩ : OpD)).1.nums).length) rc2_2, .string ((rawR (⟨o.kind, o.slot, o.at_, o.len, o.text.extract 0 ((min ((o.text.size : Nat) : Int) 100).toNat)⟩ : OpD)).1.text)]) (cs' := #[.slice ra2_2 (((rawR (⟨o.kind, o.slot, o.at_, o.len, o.text.extract 0 ((min ((o.text.size : Nat) : Int) 100).toNat)⟩ : OpD)).1.nums).length) rc2_2, .string ((rawR (⟨o.kind, o.slot, o.at_, o.len, o.text.extract 0 ((min ((o.text.size : Nat) : Int) 100).toNat)⟩ : OpD)).1.text)]) sz53 rfl rfl rfl rfl (H8.blk 4 rfl) rfl rfl fun w9 u9 => ?_)
  have H9 : UpG w [] w9 [[blk w.heap.size #[.int .i64 o.kind, .int .i64 o.slot, .int .i64 o.at_, .int .i64 o.len, .string (o.text.extract 0 ((min ((o.text.size : Nat) : Int) 100).toNat))] 55], [rowT (tyI .i64) (.slice ra2_1 (((rawR (⟨o.kind, o.slot, o.at_, o.len, o.text.extract 0 ((min ((o.text.size : Nat) : Int) 100).toNat)⟩ : OpD)).1.nums).length) rc2_1) 3 ((rawR (⟨o.kind, o.slot, o.at_, o.len, o.text.extract 0 ((min ((o.text.size : Nat) : Int) 100).toNat)⟩ : OpD)).1.nums)], [blk w4.heap.size #[.slice ra2_1 (((rawR (⟨o.kind, o.slot, o.at_, o.len, o.text.extract 0 ((min ((o.text.size : Nat) : Int) 100).toNat)⟩ : OpD)).1.nums).length) rc2_1, .string ((rawR (⟨o.kind, o.slot, o.at_, o.len, o.text.extract 0 ((min ((o.text.size : Nat) : Int) 100).toNat)⟩ : OpD)).1.text)] 53], [rowT (tyI .i64) (.slice ra2_2 (((rawR (⟨o.kind, o.slot, o.at_, o.len, o.text.extract 0 ((min ((o.text.size : Nat) : Int) 100).toNat)⟩ : OpD)).1.nums).length) rc2_2) 3 ((rawR (⟨o.kind, o.slot, o.at_, o.len, o.text.extract 0 ((min ((o.text.size : Nat) : Int) 100).toNat)⟩ : OpD)).1.nums)], [blk w7.heap.size #[.slice ra2_2 (((rawR (⟨o.kind, o.slot, o.at_, o.len, o.text.extract 0 ((min ((o.text.size : Nat) : Int) 100).toNat)⟩ : OpD)).1.nums).length) rc2_2, .string ((rawR (⟨o.kind, o.slot, o.at_, o.len, o.text.extract 0 ((min ((o.text.size : Nat) : Int) 100).toNat)⟩ : OpD)).1.text)] 53]] := H8.on 4 rfl u9
  refine WL.op rfl (d_assign rfl ?_)
  refine WL.done (X.then_code ?_)
  refine W.seq ?_
  refine W.seq ?_
  refine W.region ?_
  refine WL.op rfl (d_move rfl ?_)
  refine WL.op rfl (d_move rfl ?_)
  refine WL.op rfl (d_cmp (decide (((rawR (⟨o.kind, o.slot, o.at_, o.len, o.text.extract 0 ((min ((o.text.size : Nat) : Int) 100).toNat)⟩ : OpD)).2) ≠ ((rawR (⟨o.kind, o.slot, o.at_, o.len, o.text.extract 0 ((min ((o.text.size : Nat) : Int) 100).toNat)⟩ : OpD)).2))) rfl rfl rfl ?_)
  refine WL.op rfl (d_move rfl ?_)
  refine WL.part 32 (p := ((rawR (⟨o.kind, o.slot, o.at_, o.len, o.text.extract 0 ((min ((o.text.size : Nat) : Int) 100).toNat)⟩ : OpD)).2) ≠ ((rawR (⟨o.kind, o.slot, o.at_, o.len, o.text.extract 0 ((min ((o.text.size : Nat) : Int) 100).toNat)⟩ : OpD)).2)) rfl (fun g44 => ?_) (fun g44 => ?_)
  · skip
    exfalso; omega
  · skip
    refine WL.opG rfl rfl rfl (d_loadAB [.slice ra2_1 (((rawR (⟨o.kind, o.slot, o.at_, o.len, o.text.extract 0 ((min ((o.text.size : Nat) : Int) 100).toNat)⟩ : OpD)).1.nums).length) rc2_1, .string ((rawR (⟨o.kind, o.slot, o.at_, o.len, o.text.extract 0 ((min ((o.text.size : Nat) : Int) 100).toNat)⟩ : OpD)).1.text)] Try.underlying53 rfl sz53 rfl (H9.blk 2 rfl) rfl rfl ?_)
    refine WL.opG rfl rfl rfl (d_loadAB [.slice ra2_2 (((rawR (⟨o.kind, o.slot, o.at_, o.len, o.text.extract 0 ((min ((o.text.size : Nat) : Int) 100).toNat)⟩ : OpD)).1.nums).length) rc2_2, .string ((rawR (⟨o.kind, o.slot, o.at_, o.len, o.text.extract 0 ((min ((o.text.size : Nat) : Int) 100).toNat)⟩ : OpD)).1.text)] Try.underlying53 rfl sz53 rfl (H9.blk 4 rfl) rfl rfl ?_)
    refine WL.opG rfl rfl rfl (d_call ok28 rfl (Ret.calls (rawSame_any ((rawR (⟨o.kind, o.slot, o.at_, o.len, o.text.extract 0 ((min ((o.text.size : Nat) : Int) 100).toNat)⟩ : OpD)).1) ra2_1 rc2_1 ((rawR (⟨o.kind, o.slot, o.at_, o.len, o.text.extract 0 ((min ((o.text.size : Nat) : Int) 100).toNat)⟩ : OpD)).1) ra2_2 rc2_2 w9 (H9.rdT 1 rfl) (H9.rdT 3 rfl) ) fun _ w10 p4 => ?_))
    obtain ⟨rfl, u10⟩ := p4
    have H10 : UpG w [] w10 [[blk w.heap.size #[.int .i64 o.kind, .int .i64 o.slot, .int .i64 o.at_, .int .i64 o.len, .string (o.text.extract 0 ((min ((o.text.size : Nat) : Int) 100).toNat))] 55], [rowT (tyI .i64) (.slice ra2_1 (((rawR (⟨o.kind, o.slot, o.at_, o.len, o.text.extract 0 ((min ((o.text.size : Nat) : Int) 100).toNat)⟩ : OpD)).1.nums).length) rc2_1) 3 ((rawR (⟨o.kind, o.slot, o.at_, o.len, o.text.extract 0 ((min ((o.text.size : Nat) : Int) 100).toNat)⟩ : OpD)).1.nums)], [blk w4.heap.size #[.slice ra2_1 (((rawR (⟨o.kind, o.slot, o.at_, o.len, o.text.extract 0 ((min ((o.text.size : Nat) : Int) 100).toNat)⟩ : OpD)).1.nums).length) rc2_1, .string ((rawR (⟨o.kind, o.slot, o.at_, o.len, o.text.extract 0 ((min ((o.text.size : Nat) : Int) 100).toNat)⟩ : OpD)).1.text)] 53], [rowT (tyI .i64) (.slice ra2_2 (((rawR (⟨o.kind, o.slot, o.at_, o.len, o.text.extract 0 ((min ((o.text.size : Nat) : Int) 100).toNat)⟩ : OpD)).1.nums).length) rc2_2) 3 ((rawR (⟨o.kind, o.slot, o.at_, o.len, o.text.extract 0 ((min ((o.text.size : Nat) : Int) 100).toNat)⟩ : OpD)).1.nums)], [blk w7.heap.size #[.slice ra2_2 (((rawR (⟨o.kind, o.slot, o.at_, o.len, o.text.extract 0 ((min ((o.text.size : Nat) : Int) 100).toNat)⟩ : OpD)).1.nums).length) rc2_2, .string ((rawR (⟨o.kind, o.slot, o.at_, o.len, o.text.extract 0 ((min ((o.text.size : Nat) : Int) 100).toNat)⟩ : OpD)).1.text)] 53]] := H9.call u10
    refine WL.opG rfl rfl rfl (d_notB rfl ?_)
    refine WL.op rfl (d_pick rfl rfl ?_)
    refine WL.done (X.then_code ?_)
    refine W.pick [37, 4, 3, 2, 1] (Γ' := [(37, .bool (!(decide (((rawR (⟨o.kind, o.slot, o.at_, o.len, o.text.extract 0 ((min ((o.text.size : Nat) : Int) 100).toNat)⟩ : OpD)).1.nums) = ((rawR (⟨o.kind, o.slot, o.at_, o.len, o.text.extract 0 ((min ((o.text.size : Nat) : Int) 100).toNat)⟩ : OpD)).1.nums) ∧ ((rawR (⟨o.kind, o.slot, o.at_, o.len, o.text.extract 0 ((min ((o.text.size : Nat) : Int) 100).toNat)⟩ : OpD)).1.text) = ((rawR (⟨o.kind, o.slot, o.at_, o.len, o.text.extract 0 ((min ((o.text.size : Nat) : Int) 100).toNat)⟩ : OpD)).1.text))))), (4, .int .i64 ((rawR (⟨o.kind, o.slot, o.at_, o.len, o.text.extract 0 ((min ((o.text.size : Nat) : Int) 100).toNat)⟩ : OpD)).2)), (3, .pointer (some ⟨w4.heap.size, 0, none⟩)), (2, .bool false), (1, .pointer (some ⟨w.heap.size, 0, none⟩))]) rfl ?_
    refine W.iteB (b := !(decide (((rawR (⟨o.kind, o.slot, o.at_, o.len, o.text.extract 0 ((min ((o.text.size : Nat) : Int) 100).toNat)⟩ : OpD)).1.nums) = ((rawR (⟨o.kind, o.slot, o.at_, o.len, o.text.extract 0 ((min ((o.text.size : Nat) : Int) 100).toNat)⟩ : OpD)).1.nums) ∧ ((rawR (⟨o.kind, o.slot, o.at_, o.len, o.text.extract 0 ((min ((o.text.size : Nat) : Int) 100).toNat)⟩ : OpD)).1.text) = ((rawR (⟨o.kind, o.slot, o.at_, o.len, o.text.extract 0 ((min ((o.text.size : Nat) : Int) 100).toNat)⟩ : OpD)).1.text)))) rfl (fun c44 => ?_) (fun c44 => ?_)
    · skip
      exfalso; exact absurd c44 (by simp)
    · skip
      refine W.skip (X.then_code ?_)
      refine W.seq ?_
      refine W.seq ?_
      refine W.region ?_
      refine WL.op rfl (d_move rfl ?_)
      refine WL.op rfl (d_cmp (decide (((rawR (⟨o.kind, o.slot, o.at_, o.len, o.text.extract 0 ((min ((o.text.size : Nat) : Int) 100).toNat)⟩ : OpD)).2) ≠ (0 : Int))) rfl rfl rfl ?_)
      refine WL.done (X.then_code ?_)
      refine W.ite (p := ((rawR (⟨o.kind, o.slot, o.at_, o.len, o.text.extract 0 ((min ((o.text.size : Nat) : Int) 100).toNat)⟩ : OpD)).2) ≠ (0 : Int)) rfl (fun c47 => ?_) (fun c47 => ?_)
      · skip
        refine W.seq ?_
        refine W.region ?_
        refine WL.op rfl (d_assign rfl ?_)
        refine WL.done (X.then_code ?_)
        refine W.ret (X.then_ret (X.ret1 rfl rfl ?_))
        exact ⟨rfl, H10.noneL⟩
      · skip
        have hb := rawR_fst (o := (⟨o.kind, o.slot, o.at_, o.len, o.text.extract 0 (min ((o.text.size : Nat) : Int) 100).toNat⟩ : OpD)) (by simpa using c47)
        refine W.skip (X.then_code ?_)
        refine W.seq ?_
        refine W.region ?_
        refine WL.op rfl (d_loadAB [.slice ra2_1 (((rawR (⟨o.kind, o.slot, o.at_, o.len, o.text.extract 0 ((min ((o.text.size : Nat) : Int) 100).toNat)⟩ : OpD)).1.nums).length) rc2_1, .string ((rawR (⟨o.kind, o.slot, o.at_, o.len, o.text.extract 0 ((min ((o.text.size : Nat) : Int) 100).toNat)⟩ : OpD)).1.text)] Try.underlying53 rfl sz53 rfl (H10.blk 2 rfl) rfl rfl ?_)
        refine WL.op rfl (d_call ok25 rfl (Ret.calls (opOf_any ((rawR (⟨o.kind, o.slot, o.at_, o.len, o.text.extract 0 ((min ((o.text.size : Nat) : Int) 100).toNat)⟩ : OpD)).1) ra2_1 rc2_1 w10 (H10.rdT 1 rfl) ) fun _ w11 p5 => ?_))
        obtain ⟨rfl, u11⟩ := p5
        have H11 : UpG w [] w11 [[blk w.heap.size #[.int .i64 o.kind, .int .i64 o.slot, .int .i64 o.at_, .int .i64 o.len, .string (o.text.extract 0 ((min ((o.text.size : Nat) : Int) 100).toNat))] 55], [rowT (tyI .i64) (.slice ra2_1 (((rawR (⟨o.kind, o.slot, o.at_, o.len, o.text.extract 0 ((min ((o.text.size : Nat) : Int) 100).toNat)⟩ : OpD)).1.nums).length) rc2_1) 3 ((rawR (⟨o.kind, o.slot, o.at_, o.len, o.text.extract 0 ((min ((o.text.size : Nat) : Int) 100).toNat)⟩ : OpD)).1.nums)], [blk w4.heap.size #[.slice ra2_1 (((rawR (⟨o.kind, o.slot, o.at_, o.len, o.text.extract 0 ((min ((o.text.size : Nat) : Int) 100).toNat)⟩ : OpD)).1.nums).length) rc2_1, .string ((rawR (⟨o.kind, o.slot, o.at_, o.len, o.text.extract 0 ((min ((o.text.size : Nat) : Int) 100).toNat)⟩ : OpD)).1.text)] 53], [rowT (tyI .i64) (.slice ra2_2 (((rawR (⟨o.kind, o.slot, o.at_, o.len, o.text.extract 0 ((min ((o.text.size : Nat) : Int) 100).toNat)⟩ : OpD)).1.nums).length) rc2_2) 3 ((rawR (⟨o.kind, o.slot, o.at_, o.len, o.text.extract 0 ((min ((o.text.size : Nat) : Int) 100).toNat)⟩ : OpD)).1.nums)], [blk w7.heap.size #[.slice ra2_2 (((rawR (⟨o.kind, o.slot, o.at_, o.len, o.text.extract 0 ((min ((o.text.size : Nat) : Int) 100).toNat)⟩ : OpD)).1.nums).length) rc2_2, .string ((rawR (⟨o.kind, o.slot, o.at_, o.len, o.text.extract 0 ((min ((o.text.size : Nat) : Int) 100).toNat)⟩ : OpD)).1.text)] 53]] := H10.call u11
        refine WL.op rfl (d_move rfl ?_)
        refine WL.op rfl (d_extract rfl rfl ?_)
        refine WL.op rfl (d_extract rfl rfl ?_)
        refine WL.op rfl (d_alloc sz55 fun w12 u12 => ?_)
        have H12 : UpG w [] w12 [[blk w.heap.size #[.int .i64 o.kind, .int .i64 o.slot, .int .i64 o.at_, .int .i64 o.len, .string (o.text.extract 0 ((min ((o.text.size : Nat) : Int) 100).toNat))] 55], [rowT (tyI .i64) (.slice ra2_1 (((rawR (⟨o.kind, o.slot, o.at_, o.len, o.text.extract 0 ((min ((o.text.size : Nat) : Int) 100).toNat)⟩ : OpD)).1.nums).length) rc2_1) 3 ((rawR (⟨o.kind, o.slot, o.at_, o.len, o.text.extract 0 ((min ((o.text.size : Nat) : Int) 100).toNat)⟩ : OpD)).1.nums)], [blk w4.heap.size #[.slice ra2_1 (((rawR (⟨o.kind, o.slot, o.at_, o.len, o.text.extract 0 ((min ((o.text.size : Nat) : Int) 100).toNat)⟩ : OpD)).1.nums).length) rc2_1, .string ((rawR (⟨o.kind, o.slot, o.at_, o.len, o.text.extract 0 ((min ((o.text.size : Nat) : Int) 100).toNat)⟩ : OpD)).1.text)] 53], [rowT (tyI .i64) (.slice ra2_2 (((rawR (⟨o.kind, o.slot, o.at_, o.len, o.text.extract 0 ((min ((o.text.size : Nat) : Int) 100).toNat)⟩ : OpD)).1.nums).length) rc2_2) 3 ((rawR (⟨o.kind, o.slot, o.at_, o.len, o.text.extract 0 ((min ((o.text.size : Nat) : Int) 100).toNat)⟩ : OpD)).1.nums)], [blk w7.heap.size #[.slice ra2_2 (((rawR (⟨o.kind, o.slot, o.at_, o.len, o.text.extract 0 ((min ((o.text.size : Nat) : Int) 100).toNat)⟩ : OpD)).1.nums).length) rc2_2, .string ((rawR (⟨o.kind, o.slot, o.at_, o.len, o.text.extract 0 ((min ((o.text.size : Nat) : Int) 100).toNat)⟩ : OpD)).1.text)] 53], [blk w11.heap.size #[.int .i64 0, .int .i64 0, .int .i64 0, .int .i64 0, .string ⟨#[]⟩] 55]] := H11.new' u12
        refine WL.op0 (d_storeAB (us := [.int .i64 ((ofR ((rawR (⟨o.kind, o.slot, o.at_, o.len, o.text.extract 0 ((min ((o.text.size : Nat) : Int) 100).toNat)⟩ : OpD)).1)).1.kind), .int .i64 ((ofR ((rawR (⟨o.kind, o.slot, o.at_, o.len, o.text.extract 0 ((min ((o.text.size : Nat) : Int) 100).toNat)⟩ : OpD)).1)).1.slot), .int .i64 ((ofR ((rawR (⟨o.kind, o.slot, o.at_, o.len, o.text.extract 0 ((min ((o.text.size : Nat) : Int) 100).toNat)⟩ : OpD)).1)).1.at_), .int .i64 ((ofR ((rawR (⟨o.kind, o.slot, o.at_, o.len, o.text.extract 0 ((min ((o.text.size : Nat) : Int) 100).toNat)⟩ : OpD)).1)).1.len), .string ((ofR ((rawR (⟨o.kind, o.slot, o.at_, o.len, o.text.extract 0 ((min ((o.text.size : Nat) : Int) 100).toNat)⟩ : OpD)).1)).1.text)]) (cs' := #[.int .i64 ((ofR ((rawR (⟨o.kind, o.slot, o.at_, o.len, o.text.extract 0 ((min ((o.text.size : Nat) : Int) 100).toNat)⟩ : OpD)).1)).1.kind), .int .i64 ((ofR ((rawR (⟨o.kind, o.slot, o.at_, o.len, o.text.extract 0 ((min ((o.text.size : Nat) : Int) 100).toNat)⟩ : OpD)).1)).1.slot), .int .i64 ((ofR ((rawR (⟨o.kind, o.slot, o.at_, o.len, o.text.extract 0 ((min ((o.text.size : Nat) : Int) 100).toNat)⟩ : OpD)).1)).1.at_), .int .i64 ((ofR ((rawR (⟨o.kind, o.slot, o.at_, o.len, o.text.extract 0 ((min ((o.text.size : Nat) : Int) 100).toNat)⟩ : OpD)).1)).1.len), .string ((ofR ((rawR (⟨o.kind, o.slot, o.at_, o.len, o.text.extract 0 ((min ((o.text.size : Nat) : Int) 100).toNat)⟩ : OpD)).1)).1.text)]) sz55 rfl rfl rfl rfl (H12.blk 5 rfl) rfl rfl fun w13 u13 => ?_)
        have H13 : UpG w [] w13 [[blk w.heap.size #[.int .i64 o.kind, .int .i64 o.slot, .int .i64 o.at_, .int .i64 o.len, .string (o.text.extract 0 ((min ((o.text.size : Nat) : Int) 100).toNat))] 55], [rowT (tyI .i64) (.slice ra2_1 (((rawR (⟨o.kind, o.slot, o.at_, o.len, o.text.extract 0 ((min ((o.text.size : Nat) : Int) 100).toNat)⟩ : OpD)).1.nums).length) rc2_1) 3 ((rawR (⟨o.kind, o.slot, o.at_, o.len, o.text.extract 0 ((min ((o.text.size : Nat) : Int) 100).toNat)⟩ : OpD)).1.nums)], [blk w4.heap.size #[.slice ra2_1 (((rawR (⟨o.kind, o.slot, o.at_, o.len, o.text.extract 0 ((min ((o.text.size : Nat) : Int) 100).toNat)⟩ : OpD)).1.nums).length) rc2_1, .string ((rawR (⟨o.kind, o.slot, o.at_, o.len, o.text.extract 0 ((min ((o.text.size : Nat) : Int) 100).toNat)⟩ : OpD)).1.text)] 53], [rowT (tyI .i64) (.slice ra2_2 (((rawR (⟨o.kind, o.slot, o.at_, o.len, o.text.extract 0 ((min ((o.text.size : Nat) : Int) 100).toNat)⟩ : OpD)).1.nums).length) rc2_2) 3 ((rawR (⟨o.kind, o.slot, o.at_, o.len, o.text.extract 0 ((min ((o.text.size : Nat) : Int) 100).toNat)⟩ : OpD)).1.nums)], [blk w7.heap.size #[.slice ra2_2 (((rawR (⟨o.kind, o.slot, o.at_, o.len, o.text.extract 0 ((min ((o.text.size : Nat) : Int) 100).toNat)⟩ : OpD)).1.nums).length) rc2_2, .string ((rawR (⟨o.kind, o.slot, o.at_, o.len, o.text.extract 0 ((min ((o.text.size : Nat) : Int) 100).toNat)⟩ : OpD)).1.text)] 53], [blk w11.heap.size #[.int .i64 ((ofR ((rawR (⟨o.kind, o.slot, o.at_, o.len, o.text.extract 0 ((min ((o.text.size : Nat) : Int) 100).toNat)⟩ : OpD)).1)).1.kind), .int .i64 ((ofR ((rawR (⟨o.kind, o.slot, o.at_, o.len, o.text.extract 0 ((min ((o.text.size : Nat) : Int) 100).toNat)⟩ : OpD)).1)).1.slot), .int .i64 ((ofR ((rawR (⟨o.kind, o.slot, o.at_, o.len, o.text.extract 0 ((min ((o.text.size : Nat) : Int) 100).toNat)⟩ : OpD)).1)).1.at_), .int .i64 ((ofR ((rawR (⟨o.kind, o.slot, o.at_, o.len, o.text.extract 0 ((min ((o.text.size : Nat) : Int) 100).toNat)⟩ : OpD)).1)).1.len), .string ((ofR ((rawR (⟨o.kind, o.slot, o.at_, o.len, o.text.extract 0 ((min ((o.text.size : Nat) : Int) 100).toNat)⟩ : OpD)).1)).1.text)] 55]] := H12.on 5 rfl u13
        refine WL.op rfl (d_assign rfl ?_)
        refine WL.done (X.then_code ?_)
        refine W.seq ?_
        refine W.region ?_
        refine WL.op rfl (d_move rfl ?_)
        refine WL.op rfl (d_cmp (decide (((ofR ((rawR (⟨o.kind, o.slot, o.at_, o.len, o.text.extract 0 ((min ((o.text.size : Nat) : Int) 100).toNat)⟩ : OpD)).1)).2) = (0 : Int))) rfl rfl rfl ?_)
        refine WL.op rfl (d_move rfl ?_)
        refine WL.part 47 (p := ((ofR ((rawR (⟨o.kind, o.slot, o.at_, o.len, o.text.extract 0 ((min ((o.text.size : Nat) : Int) 100).toNat)⟩ : OpD)).1)).2) = (0 : Int)) rfl (fun g51 => ?_) (fun g51 => ?_)
        · skip
          refine WL.opG rfl rfl rfl (d_loadAB [.int .i64 ((ofR ((rawR (⟨o.kind, o.slot, o.at_, o.len, o.text.extract 0 ((min ((o.text.size : Nat) : Int) 100).toNat)⟩ : OpD)).1)).1.kind), .int .i64 ((ofR ((rawR (⟨o.kind, o.slot, o.at_, o.len, o.text.extract 0 ((min ((o.text.size : Nat) : Int) 100).toNat)⟩ : OpD)).1)).1.slot), .int .i64 ((ofR ((rawR (⟨o.kind, o.slot, o.at_, o.len, o.text.extract 0 ((min ((o.text.size : Nat) : Int) 100).toNat)⟩ : OpD)).1)).1.at_), .int .i64 ((ofR ((rawR (⟨o.kind, o.slot, o.at_, o.len, o.text.extract 0 ((min ((o.text.size : Nat) : Int) 100).toNat)⟩ : OpD)).1)).1.len), .string ((ofR ((rawR (⟨o.kind, o.slot, o.at_, o.len, o.text.extract 0 ((min ((o.text.size : Nat) : Int) 100).toNat)⟩ : OpD)).1)).1.text)] Try.underlying55 rfl sz55 rfl (H13.blk 5 rfl) rfl rfl ?_)
          refine WL.opG rfl rfl rfl (d_loadAB [.int .i64 o.kind, .int .i64 o.slot, .int .i64 o.at_, .int .i64 o.len, .string (o.text.extract 0 ((min ((o.text.size : Nat) : Int) 100).toNat))] Try.underlying55 rfl sz55 rfl (H13.blk 0 rfl) rfl rfl ?_)
          refine WL.opG rfl rfl rfl (d_aggeq [.int .i64 ((ofR ((rawR (⟨o.kind, o.slot, o.at_, o.len, o.text.extract 0 ((min ((o.text.size : Nat) : Int) 100).toNat)⟩ : OpD)).1)).1.kind), .int .i64 ((ofR ((rawR (⟨o.kind, o.slot, o.at_, o.len, o.text.extract 0 ((min ((o.text.size : Nat) : Int) 100).toNat)⟩ : OpD)).1)).1.slot), .int .i64 ((ofR ((rawR (⟨o.kind, o.slot, o.at_, o.len, o.text.extract 0 ((min ((o.text.size : Nat) : Int) 100).toNat)⟩ : OpD)).1)).1.at_), .int .i64 ((ofR ((rawR (⟨o.kind, o.slot, o.at_, o.len, o.text.extract 0 ((min ((o.text.size : Nat) : Int) 100).toNat)⟩ : OpD)).1)).1.len), .string ((ofR ((rawR (⟨o.kind, o.slot, o.at_, o.len, o.text.extract 0 ((min ((o.text.size : Nat) : Int) 100).toNat)⟩ : OpD)).1)).1.text)] [.int .i64 o.kind, .int .i64 o.slot, .int .i64 o.at_, .int .i64 o.len, .string (o.text.extract 0 ((min ((o.text.size : Nat) : Int) 100).toNat))] rfl rfl (by kernel_rfl) (by kernel_rfl) (by kernel_rfl) (by kernel_rfl) ?_)
          refine WL.op rfl (d_pick rfl rfl ?_)
          refine WL.op rfl (d_assign rfl ?_)
          refine WL.done (X.then_code ?_)
          refine W.pick [2] (Γ' := [(2, .bool (decide (((ofR ((rawR (⟨o.kind, o.slot, o.at_, o.len, o.text.extract 0 ((min ((o.text.size : Nat) : Int) 100).toNat)⟩ : OpD)).1)).1.kind) = o.kind) && (decide (((ofR ((rawR (⟨o.kind, o.slot, o.at_, o.len, o.text.extract 0 ((min ((o.text.size : Nat) : Int) 100).toNat)⟩ : OpD)).1)).1.slot) = o.slot) && (decide (((ofR ((rawR (⟨o.kind, o.slot, o.at_, o.len, o.text.extract 0 ((min ((o.text.size : Nat) : Int) 100).toNat)⟩ : OpD)).1)).1.at_) = o.at_) && (decide (((ofR ((rawR (⟨o.kind, o.slot, o.at_, o.len, o.text.extract 0 ((min ((o.text.size : Nat) : Int) 100).toNat)⟩ : OpD)).1)).1.len) = o.len) && (decide (((ofR ((rawR (⟨o.kind, o.slot, o.at_, o.len, o.text.extract 0 ((min ((o.text.size : Nat) : Int) 100).toNat)⟩ : OpD)).1)).1.text) = (o.text.extract 0 ((min ((o.text.size : Nat) : Int) 100).toNat)))))))))]) rfl ?_
          refine W.ret (X.ret1 rfl rfl ?_)
          exact ⟨(by rw [hb]; simp), H13.noneL⟩
        · skip
          exact absurd (by rw [hb]) g51

set_option maxRecDepth 20000 in
theorem opNames_any (kind : Int) (name : ByteArray) (w : World) :
    Calls Try.prog 8 #[.int .i64 kind, .string name] w (Ret fun v w' => v = .bool true ∧ Upd w [] w' []) := by
  have hlen : opNames.length = 24 := rfl
  refine calls_of_W (args := [.int .i64 kind, .string name]) Try.func8 rfl rfl rfl ?_
  have H0 : UpG w [] w [] := UpG.nil w
  show W _ _ _ _ [(0, .int .i64 kind), (1, .string name)] w
  refine W.seq ?_
  refine W.region ?_
  refine WL.op rfl (d_assign rfl ?_)
  refine WL.done (X.then_code ?_)
  refine W.seq ?_
  refine W.seq ?_
  refine W.region ?_
  refine WL.op rfl (d_call ok24 rfl (Ret.calls (oawake_any  w  ) fun _ w1 p1 => ?_))
  obtain ⟨rfl, u1⟩ := p1
  have H1 : UpG w [] w1 [] := H0.call u1
  refine WL.op rfl (d_notB rfl ?_)
  refine WL.done (X.then_code ?_)
  refine W.iff rfl ?_
  refine W.skip (X.then_code ?_)
  refine W.seq ?_
  refine W.region ?_
  refine WL.op rfl (d_call ok30 rfl (Ret.calls (names_any  w1  ) fun _ w2 p2 => ?_))
  obtain ⟨a2_1, c2_1, rfl, u2⟩ := p2
  have H2 : UpG w [] w2 [[rowT tyS (.slice a2_1 opNames.length c2_1) 9 opNames]] := (H1.new' u2).re rfl
  refine WL.op rfl (d_assign rfl ?_)
  refine WL.done (X.then_code ?_)
  refine W.seq ?_
  refine W.region ?_
  refine WL.op rfl (d_assign rfl ?_)
  refine WL.op rfl (d_assign rfl ?_)
  refine WL.done (X.then_code ?_)
  refine W.cut (fun Γ' w' => ∃ want : ByteArray, Γ' = [(7, .int .i64 0), (6, .string want), (5, .slice a2_1 opNames.length c2_1), (4, .bool false), (0, .int .i64 kind), (1, .string name)] ∧ UpG w [] w' [[rowT tyS (.slice a2_1 opNames.length c2_1) 9 opNames]] ∧ (want = (opRowAt kind).name)) ?_ ?_
  · skip
    refine W.seq ?_
    refine W.region ?_
    refine WL.op rfl (d_move rfl ?_)
    refine WL.op rfl (d_cmp (decide (kind ≥ (1 : Int))) rfl rfl rfl ?_)
    refine WL.op rfl (d_move rfl ?_)
    refine WL.part 14 (p := kind ≥ (1 : Int)) rfl (fun g61 => ?_) (fun g61 => ?_)
    · skip
      refine WL.opG rfl rfl rfl (d_move rfl ?_)
      refine WL.opG rfl rfl rfl (d_move rfl ?_)
      refine WL.opG rfl rfl rfl (d_lenS Try.underlying26 rfl ?_)
      refine WL.opG rfl rfl rfl (d_cmp (decide (kind ≤ ((opNames.length : Nat) : Int))) rfl rfl rfl ?_)
      refine WL.op rfl (d_pick rfl rfl ?_)
      refine WL.done (X.then_code ?_)
      refine W.pick [19, 7, 6, 5, 4, 0, 1] (Γ' := [(19, .bool (decide (kind ≤ ((opNames.length : Nat) : Int)))), (7, .int .i64 0), (6, .string ⟨#[]⟩), (5, .slice a2_1 opNames.length c2_1), (4, .bool false), (0, .int .i64 kind), (1, .string name)]) rfl ?_
      refine W.ite (p := kind ≤ ((opNames.length : Nat) : Int)) rfl (fun c61 => ?_) (fun c61 => ?_)
      · skip
        refine W.region ?_
        refine WL.op rfl (d_move rfl ?_)
        refine WL.op rfl (d_move rfl ?_)
        refine WL.op rfl (d_sub rfl rfl (by omega) (by omega) ?_)
        refine WL.op rfl (t_addr1 ((kind - 1).toNat) (T := tyS) rfl Try.underlying26 sz9 rfl rfl (H2.rdT 0 rfl) (by omega) (by omega) ?_)
        refine WL.op rfl (t_load1 ((kind - 1).toNat) .empty (T := tyS) rfl Try.underlying9 rfl rfl (H2.rdT 0 rfl) (by omega) rfl ?_)
        refine WL.op rfl (d_assign rfl ?_)
        refine WL.done ?_
        exact X.cut [7, 6, 5, 4, 0, 1] (Γ' := [(7, .int .i64 0), (6, .string (opNames.getD ((kind - 1).toNat) .empty)), (5, .slice a2_1 opNames.length c2_1), (4, .bool false), (0, .int .i64 kind), (1, .string name)]) rfl ⟨opNames.getD ((kind - 1).toNat) .empty, rfl, H2, (by first | exact (row_name (by omega)).symm | exact (row_noname (by omega)).symm)⟩
      · skip
        refine W.skip ?_
        exact X.cut [7, 6, 5, 4, 0, 1] (Γ' := [(7, .int .i64 0), (6, .string ⟨#[]⟩), (5, .slice a2_1 opNames.length c2_1), (4, .bool false), (0, .int .i64 kind), (1, .string name)]) rfl ⟨⟨#[]⟩, rfl, H2, (by first | exact (row_name (by omega)).symm | exact (row_noname (by omega)).symm)⟩
    · skip
      refine WL.opN rfl rfl rfl rfl ?_
      refine WL.opN rfl rfl rfl rfl ?_
      refine WL.opN rfl rfl rfl rfl ?_
      refine WL.opN rfl rfl rfl rfl ?_
      refine WL.op rfl (d_pick rfl rfl ?_)
      refine WL.done (X.then_code ?_)
      refine W.pick [19, 7, 6, 5, 4, 0, 1] (Γ' := [(19, .bool false), (7, .int .i64 0), (6, .string ⟨#[]⟩), (5, .slice a2_1 opNames.length c2_1), (4, .bool false), (0, .int .i64 kind), (1, .string name)]) rfl ?_
      refine W.iff rfl ?_
      refine W.skip ?_
      exact X.cut [7, 6, 5, 4, 0, 1] (Γ' := [(7, .int .i64 0), (6, .string ⟨#[]⟩), (5, .slice a2_1 opNames.length c2_1), (4, .bool false), (0, .int .i64 kind), (1, .string name)]) rfl ⟨⟨#[]⟩, rfl, H2, (by first | exact (row_name (by omega)).symm | exact (row_noname (by omega)).symm)⟩
  rintro Γ1 w3 ⟨want, rfl, H3, hw⟩
  refine W.seq ?_
  refine W.seq ?_
  refine W.region ?_
  refine WL.op rfl (d_assign rfl ?_)
  refine WL.done (X.then_code ?_)
  refine W.block ?_
  refine W.pick [8, 7, 6, 5, 4, 0, 1] (Γ' := [(8, .int .i64 0), (7, .int .i64 0), (6, .string want), (5, .slice a2_1 opNames.length c2_1), (4, .bool false), (0, .int .i64 kind), (1, .string name)]) rfl ?_
  refine W.loop (fun m Γ' w' => ∃ j : Nat, ∃ o : Nat, Γ' = [(8, .int .i64 ((j : Nat) : Int)), (7, .int .i64 ((o : Nat) : Int)), (6, .string want), (5, .slice a2_1 opNames.length c2_1), (4, .bool false), (0, .int .i64 kind), (1, .string name)] ∧ UpG w [] w' [[rowT tyS (.slice a2_1 opNames.length c2_1) 9 opNames]] ∧ (j ≤ 24) ∧ (o = lastTo name j) ∧ m = 24 - j) (24 - 0) ⟨0, 0, rfl, H3, (by first | assumption | omega | simp), (by rfl), rfl⟩ ?_
  rintro m1 Γ2 w4 ⟨j, o, rfl, H4, hj, ho, rfl⟩
  refine W.seq ?_
  refine W.seq ?_
  refine W.region ?_
  refine WL.op rfl (d_move rfl ?_)
  refine WL.op rfl (d_move rfl ?_)
  refine WL.op rfl (d_lenS Try.underlying26 rfl ?_)
  refine WL.op rfl (d_cmp (decide (((j : Nat) : Int) < ((opNames.length : Nat) : Int))) rfl rfl rfl ?_)
  refine WL.done (X.then_code ?_)
  refine W.ite (p := ((j : Nat) : Int) < ((opNames.length : Nat) : Int)) rfl (fun c64 => ?_) (fun c64 => ?_)
  · skip
    refine W.skip (X.then_code ?_)
    refine W.seq ?_
    refine W.block ?_
    refine W.seq ?_
    refine W.region ?_
    refine WL.op rfl (d_move rfl ?_)
    refine WL.op rfl (d_move rfl ?_)
    refine WL.op rfl (t_addr1 j (T := tyS) rfl Try.underlying26 sz9 rfl rfl (H4.rdT 0 rfl) rfl (by omega) ?_)
    refine WL.op rfl (t_load1 j .empty (T := tyS) rfl Try.underlying9 rfl rfl (H4.rdT 0 rfl) (by omega) rfl ?_)
    refine WL.op rfl (d_move rfl ?_)
    refine WL.op rfl (d_streq rfl rfl ?_)
    refine WL.done (X.then_code ?_)
    refine W.pick [36, 35, 34, 33, 32, 31, 28, 27, 26, 25, 8, 7, 6, 5, 4, 0, 1] (Γ' := [(36, .bool (decide ((opNames.getD j .empty) = name))), (35, .string name), (34, .string (opNames.getD j .empty)), (33, elemPtr (.slice a2_1 opNames.length c2_1) j), (32, .int .i64 ((j : Nat) : Int)), (31, .slice a2_1 opNames.length c2_1), (28, .bool (decide (((j : Nat) : Int) < ((opNames.length : Nat) : Int)))), (27, .int .i64 ((opNames.length : Nat) : Int)), (26, .slice a2_1 opNames.length c2_1), (25, .int .i64 ((j : Nat) : Int)), (8, .int .i64 ((j : Nat) : Int)), (7, .int .i64 ((o : Nat) : Int)), (6, .string want), (5, .slice a2_1 opNames.length c2_1), (4, .bool false), (0, .int .i64 kind), (1, .string name)]) rfl ?_
    refine W.ite (p := (opNames.getD j .empty) = name) rfl (fun c65 => ?_) (fun c65 => ?_)
    · skip
      refine W.region ?_
      refine WL.op rfl (d_move rfl ?_)
      refine WL.op rfl (d_add rfl rfl (by omega) (by omega) ?_)
      refine WL.op rfl (d_assign rfl ?_)
      refine WL.done (X.block_normal (X.then_code ?_))
      refine W.pick [7, 38, 37, 36, 35, 34, 33, 32, 31, 28, 27, 26, 25, 8, 6, 5, 4, 0, 1] (Γ' := [(7, .int .i64 (((j : Nat) : Int) + 1)), (38, .int .i64 (((j : Nat) : Int) + 1)), (37, .int .i64 ((j : Nat) : Int)), (36, .bool (decide ((opNames.getD j .empty) = name))), (35, .string name), (34, .string (opNames.getD j .empty)), (33, elemPtr (.slice a2_1 opNames.length c2_1) j), (32, .int .i64 ((j : Nat) : Int)), (31, .slice a2_1 opNames.length c2_1), (28, .bool (decide (((j : Nat) : Int) < ((opNames.length : Nat) : Int)))), (27, .int .i64 ((opNames.length : Nat) : Int)), (26, .slice a2_1 opNames.length c2_1), (25, .int .i64 ((j : Nat) : Int)), (8, .int .i64 ((j : Nat) : Int)), (6, .string want), (5, .slice a2_1 opNames.length c2_1), (4, .bool false), (0, .int .i64 kind), (1, .string name)]) rfl ?_
      refine W.region ?_
      refine WL.op rfl (d_move rfl ?_)
      refine WL.op rfl (d_add rfl rfl (by omega) (by omega) ?_)
      refine WL.op rfl (d_assign rfl ?_)
      refine WL.done ?_
      exact X.next [8, 7, 6, 5, 4, 0, 1] (Γ' := [(8, .int .i64 (((j + 1) : Nat) : Int)), (7, .int .i64 (((j + 1) : Nat) : Int)), (6, .string want), (5, .slice a2_1 opNames.length c2_1), (4, .bool false), (0, .int .i64 kind), (1, .string name)]) rfl (24 - (j + 1)) (by omega) ⟨j + 1, j + 1, rfl, H4, (by first | assumption | omega | simp), (by rw [lastTo]; first | rw [if_pos c65] | (rw [if_neg c65]; exact ho)), rfl⟩
    · skip
      refine W.skip (X.block_normal (X.then_code ?_))
      refine W.pick [36, 35, 34, 33, 32, 31, 28, 27, 26, 25, 8, 7, 6, 5, 4, 0, 1] (Γ' := [(36, .bool (decide ((opNames.getD j .empty) = name))), (35, .string name), (34, .string (opNames.getD j .empty)), (33, elemPtr (.slice a2_1 opNames.length c2_1) j), (32, .int .i64 ((j : Nat) : Int)), (31, .slice a2_1 opNames.length c2_1), (28, .bool (decide (((j : Nat) : Int) < ((opNames.length : Nat) : Int)))), (27, .int .i64 ((opNames.length : Nat) : Int)), (26, .slice a2_1 opNames.length c2_1), (25, .int .i64 ((j : Nat) : Int)), (8, .int .i64 ((j : Nat) : Int)), (7, .int .i64 ((o : Nat) : Int)), (6, .string want), (5, .slice a2_1 opNames.length c2_1), (4, .bool false), (0, .int .i64 kind), (1, .string name)]) rfl ?_
      refine W.region ?_
      refine WL.op rfl (d_move rfl ?_)
      refine WL.op rfl (d_add rfl rfl (by omega) (by omega) ?_)
      refine WL.op rfl (d_assign rfl ?_)
      refine WL.done ?_
      exact X.next [8, 7, 6, 5, 4, 0, 1] (Γ' := [(8, .int .i64 (((j + 1) : Nat) : Int)), (7, .int .i64 ((o : Nat) : Int)), (6, .string want), (5, .slice a2_1 opNames.length c2_1), (4, .bool false), (0, .int .i64 kind), (1, .string name)]) rfl (24 - (j + 1)) (by omega) ⟨j + 1, o, rfl, H4, (by first | assumption | omega | simp), (by rw [lastTo]; first | rw [if_pos c65] | (rw [if_neg c65]; exact ho)), rfl⟩
  · skip
    refine W.exit (X.then_exit (X.then_exit (X.block_exit (X.then_code ?_))))
    refine W.seq ?_
    refine W.region ?_
    refine WL.op rfl (d_move rfl ?_)
    refine WL.op rfl (d_call ok31 rfl (Ret.calls (name_any kind w4  ) fun _ w5 p3 => ?_))
    obtain ⟨rfl, u3⟩ := p3
    have H5 : UpG w [] w5 [[rowT tyS (.slice a2_1 opNames.length c2_1) 9 opNames]] := H4.call u3
    refine WL.op rfl (d_move rfl ?_)
    refine WL.op rfl (d_streq rfl rfl ?_)
    refine WL.op rfl (d_move rfl ?_)
    refine WL.part 43 (p := ((opRowAt kind).name) = want) rfl (fun g69 => ?_) (fun g69 => ?_)
    · skip
      refine WL.opG rfl rfl rfl (d_move rfl ?_)
      refine WL.opG rfl rfl rfl (d_call ok32 rfl (Ret.calls (kind_any name w5  ) fun _ w6 p4 => ?_))
      obtain ⟨rfl, u4⟩ := p4
      have H6 : UpG w [] w6 [[rowT tyS (.slice a2_1 opNames.length c2_1) 9 opNames]] := H5.call u4
      refine WL.opG rfl rfl rfl (d_move rfl ?_)
      refine WL.opG rfl rfl rfl (d_cmp (decide (((lastTo name 24 : Nat) : Int) = ((o : Nat) : Int))) rfl rfl rfl ?_)
      refine WL.op rfl (d_pick rfl rfl ?_)
      refine WL.op rfl (d_move rfl ?_)
      refine WL.part 49 (p := ((lastTo name 24 : Nat) : Int) = ((o : Nat) : Int)) rfl (fun g69x => ?_) (fun g69x => ?_)
      · skip
        refine WL.opG rfl rfl rfl (d_move rfl ?_)
        refine WL.opG rfl rfl rfl (d_streq rfl rfl ?_)
        refine WL.opG rfl rfl rfl (d_move rfl ?_)
        refine WL.part 52 (p := want = ⟨#[]⟩) rfl (fun g69xx => ?_) (fun g69xx => ?_)
        · skip
          refine WL.opN rfl rfl rfl rfl ?_
          refine WL.opN rfl rfl rfl rfl ?_
          refine WL.opN rfl rfl rfl rfl ?_
          refine WL.opN rfl rfl rfl rfl ?_
          refine WL.opG rfl rfl rfl (d_pick rfl rfl ?_)
          refine WL.op rfl (d_pick rfl rfl ?_)
          refine WL.op rfl (d_assign rfl ?_)
          refine WL.done (X.then_code ?_)
          refine W.pick [4] (Γ' := [(4, .bool true)]) rfl ?_
          refine W.ret (X.ret1 rfl rfl ?_)
          exact ⟨rfl, H6.noneL⟩
        · skip
          refine WL.opG rfl rfl rfl (d_move rfl ?_)
          refine WL.opG rfl rfl rfl (d_call ok32 rfl (Ret.calls (kind_any want w6  ) fun _ w7 p5 => ?_))
          obtain ⟨rfl, u5⟩ := p5
          have H7 : UpG w [] w7 [[rowT tyS (.slice a2_1 opNames.length c2_1) 9 opNames]] := H6.call u5
          refine WL.opG rfl rfl rfl (d_move rfl ?_)
          refine WL.opG rfl rfl rfl (d_cmp (decide (((lastTo want 24 : Nat) : Int) = kind)) rfl rfl rfl ?_)
          refine WL.opG rfl rfl rfl (d_pick rfl rfl ?_)
          refine WL.op rfl (d_pick rfl rfl ?_)
          refine WL.op rfl (d_assign rfl ?_)
          refine WL.done (X.then_code ?_)
          refine W.pick [4] (Γ' := [(4, .bool (decide (((lastTo want 24 : Nat) : Int) = kind)))]) rfl ?_
          refine W.ret (X.ret1 rfl rfl ?_)
          exact ⟨(by first | rfl | rw [decide_eq_true (by rw [hw]; exact last_row (by rw [← hw]; exact g69xx))]), H7.noneL⟩
      · skip
        exact absurd (by rw [ho, show (24 : Nat) = j by omega]) g69x
    · skip
      exact absurd hw.symm g69
end Go.Proofs.Ytkdcmklkggnblaa
