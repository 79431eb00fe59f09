/- The walks of functions, printed by wip/tools/gw.py. -/
import Derived.Test.YtkdcmklkggnblaaF1
import Derived.Test.YtkdcmklkggnblaaSx7
import Derived.Test.YtkdcmklkggnblaaHis0
namespace Go.Proofs.Ytkdcmklkggnblaa
open Go Go.Sx
set_option linter.unusedVariables false
set_option linter.unusedSimpArgs false
set_option maxRecDepth 20000 in
theorem new_any (now : ByteArray) (most : Int) (w : World) :
    Calls Try.prog 12 #[.string now, .int .i64 most] w (Ret fun v w' => ∃ g : Nat, v = .pointer (some ⟨g, 0, none⟩) ∧ Upd w [] w' [blk g #[.slice none (([] : List ByteArray).length) 0, .slice none (([] : List ByteArray).length) 0, .string now, .int .i64 (max most 0)] 79, rowT tyS (.slice none (([] : List ByteArray).length) 0) 9 ([] : List ByteArray), rowT tyS (.slice none (([] : List ByteArray).length) 0) 9 ([] : List ByteArray)]) := by
  refine calls_of_W (args := [.string now, .int .i64 most]) Try.func12 rfl rfl rfl ?_
  have H0 : UpG w [] w [] := UpG.nil w
  show W _ _ _ _ [(0, .string now), (1, .int .i64 most)] w
  refine W.seq ?_
  refine W.region ?_
  refine WL.op rfl (d_assign rfl ?_)
  refine WL.done (X.then_code ?_)
  refine W.seq ?_
  refine W.region ?_
  refine WL.op rfl (d_move rfl ?_)
  refine WL.op rfl (d_move rfl ?_)
  refine WL.op rfl (d_max rfl rfl ?_)
  refine WL.op rfl (d_build (cs := #[.slice none 0 0, .slice none 0 0, .string now, .int .i64 (max most 0)]) rfl (by kernel_rfl) ?_)
  refine WL.op rfl (d_box rfl fun w1 u1 => ?_)
  have H1 : UpG w [] w1 [[blk w.heap.size #[.slice none 0 0, .slice none 0 0, .string now, .int .i64 (max most 0)] 79]] := H0.new' u1
  refine WL.op rfl (d_assign rfl ?_)
  refine WL.done (X.then_code ?_)
  refine W.ret (X.ret1 rfl rfl ?_)
  have H2 : UpG w [] w1 [[blk w.heap.size #[.slice none 0 0, .slice none 0 0, .string now, .int .i64 (max most 0)] 79], [rowT tyS (.slice none (([] : List ByteArray).length) 0) 9 ([] : List ByteArray)]] := H1.new' (Upd.nilRowT w1 tyS 9)
  have H3 : UpG w [] w1 [[blk w.heap.size #[.slice none 0 0, .slice none 0 0, .string now, .int .i64 (max most 0)] 79], [rowT tyS (.slice none (([] : List ByteArray).length) 0) 9 ([] : List ByteArray)], [rowT tyS (.slice none (([] : List ByteArray).length) 0) 9 ([] : List ByteArray)]] := H2.new' (Upd.nilRowT w1 tyS 9)
  exact ⟨w.heap.size, rfl, (Upd.sel H3 (l := [0, 1, 2]) rfl rfl)⟩

set_option maxRecDepth 20000 in
theorem now_any (h : HistD) (hg : Nat) (hpa : Option Addr) (hpc : Nat) (hna : Option Addr) (hnc : Nat) (w : World) (hp : Hp w [blk hg #[.slice hpa h.past.length hpc, .slice hna h.next.length hnc, .string h.now, .int .i64 h.most] 79, rowT tyS (.slice hpa h.past.length hpc) 9 h.past, rowT tyS (.slice hna h.next.length hnc) 9 h.next]) :
    Calls Try.prog 16 #[.pointer (some ⟨hg, 0, none⟩)] w (Ret fun v w' => v = .string h.now ∧ Upd w [blk hg #[.slice hpa h.past.length hpc, .slice hna h.next.length hnc, .string h.now, .int .i64 h.most] 79, rowT tyS (.slice hpa h.past.length hpc) 9 h.past, rowT tyS (.slice hna h.next.length hnc) 9 h.next] w' [blk hg #[.slice hpa h.past.length hpc, .slice hna h.next.length hnc, .string h.now, .int .i64 h.most] 79, rowT tyS (.slice hpa h.past.length hpc) 9 h.past, rowT tyS (.slice hna h.next.length hnc) 9 h.next]) := by
  refine calls_of_W (args := [.pointer (some ⟨hg, 0, none⟩)]) Try.func16 rfl rfl rfl ?_
  have H0 : UpG w [blk hg #[.slice hpa h.past.length hpc, .slice hna h.next.length hnc, .string h.now, .int .i64 h.most] 79, rowT tyS (.slice hpa h.past.length hpc) 9 h.past, rowT tyS (.slice hna h.next.length hnc) 9 h.next] w [[blk hg #[.slice hpa h.past.length hpc, .slice hna h.next.length hnc, .string h.now, .int .i64 h.most] 79], [rowT tyS (.slice hpa h.past.length hpc) 9 h.past], [rowT tyS (.slice hna h.next.length hnc) 9 h.next]] := (UpG.refl hp).re rfl
  show W _ _ _ _ [(0, .pointer (some ⟨hg, 0, none⟩))] w
  refine W.seq ?_
  refine W.region ?_
  refine WL.op rfl (d_assign rfl ?_)
  refine WL.done (X.then_code ?_)
  refine W.seq ?_
  refine W.seq ?_
  refine W.region ?_
  refine WL.op rfl (d_move rfl ?_)
  refine WL.op rfl (d_ptrnilF Try.underlying24 rfl ?_)
  refine WL.done (X.then_code ?_)
  refine W.iff rfl ?_
  refine W.skip (X.then_code ?_)
  refine W.seq ?_
  refine W.region ?_
  refine WL.op rfl (d_move rfl ?_)
  refine WL.op rfl (d_nilCheck rfl ?_)
  refine WL.op rfl (d_fieldAddrB fld79_2 rfl rfl ?_)
  refine WL.op rfl (d_loadB Try.underlying9 rfl rfl (H0.blk 0 rfl) rfl ?_)
  refine WL.op rfl (d_assign rfl ?_)
  refine WL.done (X.then_code ?_)
  refine W.ret (X.ret1 rfl rfl ?_)
  exact ⟨rfl, (Upd.sel H0 (l := [0, 1, 2]) rfl rfl)⟩

set_option maxRecDepth 20000 in
theorem sizes_any (h : HistD) (hg : Nat) (hpa : Option Addr) (hpc : Nat) (hna : Option Addr) (hnc : Nat) (w : World) (hp : Hp w [blk hg #[.slice hpa h.past.length hpc, .slice hna h.next.length hnc, .string h.now, .int .i64 h.most] 79, rowT tyS (.slice hpa h.past.length hpc) 9 h.past, rowT tyS (.slice hna h.next.length hnc) 9 h.next]) :
    Calls Try.prog 18 #[.pointer (some ⟨hg, 0, none⟩)] w (Ret fun v w' => v = .tuple #[.int .i64 ((h.past.length : Nat) : Int), .int .i64 ((h.next.length : Nat) : Int)] ∧ Upd w [blk hg #[.slice hpa h.past.length hpc, .slice hna h.next.length hnc, .string h.now, .int .i64 h.most] 79, rowT tyS (.slice hpa h.past.length hpc) 9 h.past, rowT tyS (.slice hna h.next.length hnc) 9 h.next] w' [blk hg #[.slice hpa h.past.length hpc, .slice hna h.next.length hnc, .string h.now, .int .i64 h.most] 79, rowT tyS (.slice hpa h.past.length hpc) 9 h.past, rowT tyS (.slice hna h.next.length hnc) 9 h.next]) := by
  refine calls_of_W (args := [.pointer (some ⟨hg, 0, none⟩)]) Try.func18 rfl rfl rfl ?_
  have H0 : UpG w [blk hg #[.slice hpa h.past.length hpc, .slice hna h.next.length hnc, .string h.now, .int .i64 h.most] 79, rowT tyS (.slice hpa h.past.length hpc) 9 h.past, rowT tyS (.slice hna h.next.length hnc) 9 h.next] w [[blk hg #[.slice hpa h.past.length hpc, .slice hna h.next.length hnc, .string h.now, .int .i64 h.most] 79], [rowT tyS (.slice hpa h.past.length hpc) 9 h.past], [rowT tyS (.slice hna h.next.length hnc) 9 h.next]] := (UpG.refl hp).re rfl
  show W _ _ _ _ [(0, .pointer (some ⟨hg, 0, none⟩))] w
  refine W.seq ?_
  refine W.region ?_
  refine WL.op rfl (d_assign rfl ?_)
  refine WL.op rfl (d_assign rfl ?_)
  refine WL.done (X.then_code ?_)
  refine W.seq ?_
  refine W.seq ?_
  refine W.region ?_
  refine WL.op rfl (d_move rfl ?_)
  refine WL.op rfl (d_ptrnilF Try.underlying24 rfl ?_)
  refine WL.done (X.then_code ?_)
  refine W.iff rfl ?_
  refine W.skip (X.then_code ?_)
  refine W.seq ?_
  refine W.regionD mixed (by kernel_rfl) fun hok1 w1 k1 => ?_
  have H1 : UpG w [blk hg #[.slice hpa h.past.length hpc, .slice hna h.next.length hnc, .string h.now, .int .i64 h.most] 79, rowT tyS (.slice hpa h.past.length hpc) 9 h.past, rowT tyS (.slice hna h.next.length hnc) 9 h.next] w1 [[blk hg #[.slice hpa h.past.length hpc, .slice hna h.next.length hnc, .string h.now, .int .i64 h.most] 79], [rowT tyS (.slice hpa h.past.length hpc) 9 h.past], [rowT tyS (.slice hna h.next.length hnc) 9 h.next]] := H0.kept k1
  refine WD.take hok1 0 (.pointer (some ⟨hg, 0, none⟩)) (fun _ => True) rfl rfl rfl rfl rfl trivial (.inl ⟨rfl, fun _ _ => d_move rfl ⟨rfl, rfl⟩⟩) ?_
  refine WD.take hok1 1 (.pointer (some ⟨hg, 0, none⟩)) (fun _ => True) rfl rfl rfl rfl rfl trivial (.inl ⟨rfl, fun _ _ => d_nilCheck rfl ⟨rfl, rfl⟩⟩) ?_
  refine WD.take hok1 2 (.pointer (some ⟨hg, 0, none⟩)) (fun _ => True) rfl rfl rfl rfl rfl trivial (.inl ⟨rfl, fun _ _ => d_fieldAddrB fld79_0 rfl rfl ⟨rfl, rfl⟩⟩) ?_
  refine WD.take hok1 3 (.slice hpa h.past.length hpc) (fun w' => w'.heap[hg]? = some (.cells #[.slice hpa h.past.length hpc, .slice hna h.next.length hnc, .string h.now, .int .i64 h.most] 79 (0, 0))) rfl rfl rfl rfl rfl (H1.blk 0 rfl) (.inl ⟨rfl, fun _ hC => d_loadB Try.underlying26 rfl rfl hC rfl ⟨rfl, rfl⟩⟩) ?_
  refine WD.take hok1 4 (.int .i64 ((h.past.length : Nat) : Int)) (fun _ => True) rfl rfl rfl rfl rfl trivial (.inl ⟨rfl, fun _ _ => d_lenS Try.underlying26 rfl ⟨rfl, rfl⟩⟩) ?_
  refine WD.take hok1 5 (.pointer (some ⟨hg, 0, none⟩)) (fun _ => True) rfl rfl rfl rfl rfl trivial (.inl ⟨rfl, fun _ _ => d_move rfl ⟨rfl, rfl⟩⟩) ?_
  refine WD.take hok1 6 (.pointer (some ⟨hg, 0, none⟩)) (fun _ => True) rfl rfl rfl rfl rfl trivial (.inl ⟨rfl, fun _ _ => d_nilCheck rfl ⟨rfl, rfl⟩⟩) ?_
  refine WD.take hok1 7 (.pointer (some ⟨hg, 1, none⟩)) (fun _ => True) rfl rfl rfl rfl rfl trivial (.inl ⟨rfl, fun _ _ => d_fieldAddrB fld79_1 rfl rfl ⟨rfl, rfl⟩⟩) ?_
  refine WD.take hok1 8 (.slice hna h.next.length hnc) (fun w' => w'.heap[hg]? = some (.cells #[.slice hpa h.past.length hpc, .slice hna h.next.length hnc, .string h.now, .int .i64 h.most] 79 (0, 0))) rfl rfl rfl rfl rfl (H1.blk 0 rfl) (.inl ⟨rfl, fun _ hC => d_loadB Try.underlying26 rfl rfl hC rfl ⟨rfl, rfl⟩⟩) ?_
  refine WD.take hok1 9 (.int .i64 ((h.next.length : Nat) : Int)) (fun _ => True) rfl rfl rfl rfl rfl trivial (.inl ⟨rfl, fun _ _ => d_lenS Try.underlying26 rfl ⟨rfl, rfl⟩⟩) ?_
  refine WD.take hok1 10 (.int .i64 ((h.past.length : Nat) : Int)) (fun _ => True) rfl rfl rfl rfl rfl trivial (.inl ⟨rfl, fun _ _ => d_assign rfl ⟨rfl, rfl⟩⟩) ?_
  refine WD.take hok1 11 (.int .i64 ((h.next.length : Nat) : Int)) (fun _ => True) rfl rfl rfl rfl rfl trivial (.inl ⟨rfl, fun _ _ => d_assign rfl ⟨rfl, rfl⟩⟩) ?_
  refine WD.done hok1 rfl (X.then_code ?_)
  refine W.ret (X.ret2 rfl rfl rfl ?_)
  exact ⟨rfl, (Upd.sel H1 (l := [0, 1, 2]) rfl rfl)⟩

set_option maxRecDepth 20000 in
theorem do_any (h : HistD) (hg : Nat) (hpa : Option Addr) (hpc : Nat) (hna : Option Addr) (hnc : Nat) (x : ByteArray) (w : World) (hp : Hp w [blk hg #[.slice hpa h.past.length hpc, .slice hna h.next.length hnc, .string h.now, .int .i64 h.most] 79, rowT tyS (.slice hpa h.past.length hpc) 9 h.past, rowT tyS (.slice hna h.next.length hnc) 9 h.next]) (hl : h.past.length ≤ 1000000) :
    Calls Try.prog 23 #[.pointer (some ⟨hg, 0, none⟩), .string x] w (Ret fun v w' => ∃ pa2 : Option Addr, ∃ pc2 : Nat, ∃ na2 : Option Addr, ∃ nc2 : Nat, v = .int .i64 ((doH h x).2) ∧ Upd w [blk hg #[.slice hpa h.past.length hpc, .slice hna h.next.length hnc, .string h.now, .int .i64 h.most] 79, rowT tyS (.slice hpa h.past.length hpc) 9 h.past, rowT tyS (.slice hna h.next.length hnc) 9 h.next] w' [blk hg #[.slice pa2 (((doH h x).1.past).length) pc2, .slice na2 (((doH h x).1.next).length) nc2, .string ((doH h x).1.now), .int .i64 ((doH h x).1.most)] 79, rowT tyS (.slice pa2 (((doH h x).1.past).length) pc2) 9 ((doH h x).1.past), rowT tyS (.slice na2 (((doH h x).1.next).length) nc2) 9 ((doH h x).1.next)]) := by
  refine calls_of_W (args := [.pointer (some ⟨hg, 0, none⟩), .string x]) Try.func23 rfl rfl rfl ?_
  have H0 : UpG w [blk hg #[.slice hpa h.past.length hpc, .slice hna h.next.length hnc, .string h.now, .int .i64 h.most] 79, rowT tyS (.slice hpa h.past.length hpc) 9 h.past, rowT tyS (.slice hna h.next.length hnc) 9 h.next] w [[blk hg #[.slice hpa h.past.length hpc, .slice hna h.next.length hnc, .string h.now, .int .i64 h.most] 79], [rowT tyS (.slice hpa h.past.length hpc) 9 h.past], [rowT tyS (.slice hna h.next.length hnc) 9 h.next]] := (UpG.refl hp).re rfl
  show W _ _ _ _ [(0, .pointer (some ⟨hg, 0, none⟩)), (1, .string x)] w
  refine W.seq ?_
  refine W.region ?_
  refine WL.op rfl (d_assign rfl ?_)
  refine WL.done (X.then_code ?_)
  refine W.seq ?_
  refine W.block ?_
  refine W.seq ?_
  refine W.region ?_
  refine WL.op rfl (d_move rfl ?_)
  refine WL.op rfl (d_ptrnilF Try.underlying24 rfl ?_)
  refine WL.op rfl (d_assign rfl ?_)
  refine WL.done (X.then_code ?_)
  refine W.iff rfl ?_
  refine W.seq ?_
  refine W.regionD mixed (by kernel_rfl) fun hok1 w1 k1 => ?_
  have H1 : UpG w [blk hg #[.slice hpa h.past.length hpc, .slice hna h.next.length hnc, .string h.now, .int .i64 h.most] 79, rowT tyS (.slice hpa h.past.length hpc) 9 h.past, rowT tyS (.slice hna h.next.length hnc) 9 h.next] w1 [[blk hg #[.slice hpa h.past.length hpc, .slice hna h.next.length hnc, .string h.now, .int .i64 h.most] 79], [rowT tyS (.slice hpa h.past.length hpc) 9 h.past], [rowT tyS (.slice hna h.next.length hnc) 9 h.next]] := H0.kept k1
  refine WD.take hok1 0 (.pointer (some ⟨hg, 0, none⟩)) (fun _ => True) rfl rfl rfl rfl rfl trivial (.inl ⟨rfl, fun _ _ => d_move rfl ⟨rfl, rfl⟩⟩) ?_
  refine WD.take hok1 1 (.pointer (some ⟨hg, 0, none⟩)) (fun _ => True) rfl rfl rfl rfl rfl trivial (.inl ⟨rfl, fun _ _ => d_nilCheck rfl ⟨rfl, rfl⟩⟩) ?_
  refine WD.take hok1 2 (.pointer (some ⟨hg, 0, none⟩)) (fun _ => True) rfl rfl rfl rfl rfl trivial (.inl ⟨rfl, fun _ _ => d_fieldAddrB fld79_0 rfl rfl ⟨rfl, rfl⟩⟩) ?_
  refine WD.take hok1 3 (.slice hpa h.past.length hpc) (fun w' => w'.heap[hg]? = some (.cells #[.slice hpa h.past.length hpc, .slice hna h.next.length hnc, .string h.now, .int .i64 h.most] 79 (0, 0))) rfl rfl rfl rfl rfl (H1.blk 0 rfl) (.inl ⟨rfl, fun _ hC => d_loadB Try.underlying26 rfl rfl hC rfl ⟨rfl, rfl⟩⟩) ?_
  refine WD.take hok1 4 (.int .i64 ((h.past.length : Nat) : Int)) (fun _ => True) rfl rfl rfl rfl rfl trivial (.inl ⟨rfl, fun _ _ => d_lenS Try.underlying26 rfl ⟨rfl, rfl⟩⟩) ?_
  refine WD.take hok1 5 (.pointer (some ⟨hg, 0, none⟩)) (fun _ => True) rfl rfl rfl rfl rfl trivial (.inl ⟨rfl, fun _ _ => d_move rfl ⟨rfl, rfl⟩⟩) ?_
  refine WD.take hok1 6 (.pointer (some ⟨hg, 0, none⟩)) (fun _ => True) rfl rfl rfl rfl rfl trivial (.inl ⟨rfl, fun _ _ => d_nilCheck rfl ⟨rfl, rfl⟩⟩) ?_
  refine WD.take hok1 7 (.pointer (some ⟨hg, 3, none⟩)) (fun _ => True) rfl rfl rfl rfl rfl trivial (.inl ⟨rfl, fun _ _ => d_fieldAddrB fld79_3 rfl rfl ⟨rfl, rfl⟩⟩) ?_
  refine WD.take hok1 8 (.int .i64 h.most) (fun w' => w'.heap[hg]? = some (.cells #[.slice hpa h.past.length hpc, .slice hna h.next.length hnc, .string h.now, .int .i64 h.most] 79 (0, 0))) rfl rfl rfl rfl rfl (H1.blk 0 rfl) (.inl ⟨rfl, fun _ hC => d_loadB Try.underlying3 rfl rfl hC rfl ⟨rfl, rfl⟩⟩) ?_
  refine WD.take hok1 9 (.bool (decide (((h.past.length : Nat) : Int) ≥ h.most))) (fun _ => True) rfl rfl rfl rfl rfl trivial (.inl ⟨rfl, fun _ _ => d_cmp (decide (((h.past.length : Nat) : Int) ≥ h.most)) rfl rfl rfl ⟨rfl, rfl⟩⟩) ?_
  refine WD.take hok1 10 (.bool (decide (((h.past.length : Nat) : Int) ≥ h.most))) (fun _ => True) rfl rfl rfl rfl rfl trivial (.inl ⟨rfl, fun _ _ => d_assign rfl ⟨rfl, rfl⟩⟩) ?_
  refine WD.done hok1 rfl (X.then_code ?_)
  refine W.pick [8, 4, 0, 1] (Γ' := [(8, .bool (decide (((h.past.length : Nat) : Int) ≥ h.most))), (4, .int .i64 0), (0, .pointer (some ⟨hg, 0, none⟩)), (1, .string x)]) rfl ?_
  refine W.ite (p := ((h.past.length : Nat) : Int) ≥ h.most) rfl (fun c34 => ?_) (fun c34 => ?_)
  · skip
    refine W.seq ?_
    refine W.region ?_
    refine WL.op rfl (d_assign rfl ?_)
    refine WL.done (X.then_code ?_)
    refine W.ret (X.block_ret (X.then_ret (X.ret1 rfl rfl ?_)))
    have e : doH h x = (h, 6) := by unfold doH; rw [if_pos (by omega)]
    rw [e]
    exact ⟨hpa, hpc, hna, hnc, (by rfl), (Upd.sel H1 (l := [0, 1, 2]) rfl rfl)⟩
  · skip
    refine W.skip (X.block_normal (X.then_code ?_))
    refine W.seq ?_
    refine W.regionD mixed (by kernel_rfl) fun hok2 w2 k2 => ?_
    have H2 : UpG w [blk hg #[.slice hpa h.past.length hpc, .slice hna h.next.length hnc, .string h.now, .int .i64 h.most] 79, rowT tyS (.slice hpa h.past.length hpc) 9 h.past, rowT tyS (.slice hna h.next.length hnc) 9 h.next] w2 [[blk hg #[.slice hpa h.past.length hpc, .slice hna h.next.length hnc, .string h.now, .int .i64 h.most] 79], [rowT tyS (.slice hpa h.past.length hpc) 9 h.past], [rowT tyS (.slice hna h.next.length hnc) 9 h.next]] := H1.kept k2
    refine WD.take hok2 0 (.pointer (some ⟨hg, 0, none⟩)) (fun _ => True) rfl rfl rfl rfl rfl trivial (.inl ⟨rfl, fun _ _ => d_move rfl ⟨rfl, rfl⟩⟩) ?_
    refine WD.take hok2 1 (.pointer (some ⟨hg, 0, none⟩)) (fun _ => True) rfl rfl rfl rfl rfl trivial (.inl ⟨rfl, fun _ _ => d_move rfl ⟨rfl, rfl⟩⟩) ?_
    refine WD.take hok2 2 (.pointer (some ⟨hg, 0, none⟩)) (fun _ => True) rfl rfl rfl rfl rfl trivial (.inl ⟨rfl, fun _ _ => d_nilCheck rfl ⟨rfl, rfl⟩⟩) ?_
    refine WD.take hok2 3 (.pointer (some ⟨hg, 0, none⟩)) (fun _ => True) rfl rfl rfl rfl rfl trivial (.inl ⟨rfl, fun _ _ => d_fieldAddrB fld79_0 rfl rfl ⟨rfl, rfl⟩⟩) ?_
    refine WD.take hok2 4 (.slice hpa h.past.length hpc) (fun w' => w'.heap[hg]? = some (.cells #[.slice hpa h.past.length hpc, .slice hna h.next.length hnc, .string h.now, .int .i64 h.most] 79 (0, 0))) rfl rfl rfl rfl rfl (H2.blk 0 rfl) (.inl ⟨rfl, fun _ hC => d_loadB Try.underlying26 rfl rfl hC rfl ⟨rfl, rfl⟩⟩) ?_
    refine WD.take hok2 5 (.pointer (some ⟨hg, 0, none⟩)) (fun _ => True) rfl rfl rfl rfl rfl trivial (.inl ⟨rfl, fun _ _ => d_move rfl ⟨rfl, rfl⟩⟩) ?_
    refine WD.take hok2 6 (.pointer (some ⟨hg, 0, none⟩)) (fun _ => True) rfl rfl rfl rfl rfl trivial (.inl ⟨rfl, fun _ _ => d_nilCheck rfl ⟨rfl, rfl⟩⟩) ?_
    refine WD.take hok2 7 (.pointer (some ⟨hg, 2, none⟩)) (fun _ => True) rfl rfl rfl rfl rfl trivial (.inl ⟨rfl, fun _ _ => d_fieldAddrB fld79_2 rfl rfl ⟨rfl, rfl⟩⟩) ?_
    refine WD.take hok2 8 (.string h.now) (fun w' => w'.heap[hg]? = some (.cells #[.slice hpa h.past.length hpc, .slice hna h.next.length hnc, .string h.now, .int .i64 h.most] 79 (0, 0))) rfl rfl rfl rfl rfl (H2.blk 0 rfl) (.inl ⟨rfl, fun _ hC => d_loadB Try.underlying9 rfl rfl hC rfl ⟨rfl, rfl⟩⟩) ?_
    refine WD.loud hok2 9 rfl (⟨_, [⟨4, .slice hpa h.past.length hpc, (fun w' => w'.heap[hg]? = some (.cells #[.slice hpa h.past.length hpc, .slice hna h.next.length hnc, .string h.now, .int .i64 h.most] 79 (0, 0)))⟩, ⟨3, .pointer (some ⟨hg, 0, none⟩), (fun _ => True)⟩, ⟨2, .pointer (some ⟨hg, 0, none⟩), (fun _ => True)⟩, ⟨1, .pointer (some ⟨hg, 0, none⟩), (fun _ => True)⟩, ⟨0, .pointer (some ⟨hg, 0, none⟩), (fun _ => True)⟩], rfl, rfl, rfl, rfl, rfl, rfl, t_buildSlice (T := tyS) (xs := [h.now]) (cs := #[.string h.now]) rfl Try.underlying26 sz9 rfl rfl rfl rfl (by kernel_rfl) rfl rfl fun w3 u1 => ?_⟩)
    have H3 : UpG w [blk hg #[.slice hpa h.past.length hpc, .slice hna h.next.length hnc, .string h.now, .int .i64 h.most] 79, rowT tyS (.slice hpa h.past.length hpc) 9 h.past, rowT tyS (.slice hna h.next.length hnc) 9 h.next] w3 [[blk hg #[.slice hpa h.past.length hpc, .slice hna h.next.length hnc, .string h.now, .int .i64 h.most] 79], [rowT tyS (.slice hpa h.past.length hpc) 9 h.past], [rowT tyS (.slice hna h.next.length hnc) 9 h.next], [rowT tyS (.slice (some ⟨w2.heap.size, 0, none⟩) ([h.now].length) ([h.now].length)) 9 [h.now]]] := H2.new' u1
    refine ⟨⟨(H3.blk 0 rfl), trivial, trivial, trivial, trivial, trivial⟩, ?_⟩
    refine WD.loud hok2 10 rfl (⟨_, [⟨0, .pointer (some ⟨hg, 0, none⟩), (fun _ => True)⟩], rfl, rfl, rfl, rfl, rfl, rfl, t_append (T := tyS) (xs := h.past) (ys := [h.now]) rfl Try.underlying26 sz9 rfl rfl rfl (H3.ownT 1 rfl) (H3.rdT 3 rfl) (by simp; omega) (by simp; omega) fun a1 c1 w4 u2 => ?_⟩)
    have H4 : UpG w [blk hg #[.slice hpa h.past.length hpc, .slice hna h.next.length hnc, .string h.now, .int .i64 h.most] 79, rowT tyS (.slice hpa h.past.length hpc) 9 h.past, rowT tyS (.slice hna h.next.length hnc) 9 h.next] w4 [[blk hg #[.slice hpa h.past.length hpc, .slice hna h.next.length hnc, .string h.now, .int .i64 h.most] 79], [rowT tyS (.slice a1 ((h.past ++ [h.now]).length) c1) 9 (h.past ++ [h.now])], [rowT tyS (.slice hna h.next.length hnc) 9 h.next], []] := (H3.on 1 rfl u2).drop 3
    refine ⟨⟨trivial, trivial⟩, ?_⟩
    refine WD.take hok2 11 (.pointer (some ⟨hg, 0, none⟩)) (fun _ => True) rfl rfl rfl rfl rfl trivial (.inl ⟨rfl, fun _ _ => d_nilCheck rfl ⟨rfl, rfl⟩⟩) ?_
    refine WD.take hok2 12 (.pointer (some ⟨hg, 0, none⟩)) (fun _ => True) rfl rfl rfl rfl rfl trivial (.inl ⟨rfl, fun _ _ => d_fieldAddrB fld79_0 rfl rfl ⟨rfl, rfl⟩⟩) ?_
    refine WD.loud hok2 13 rfl (⟨_, [], rfl, rfl, rfl, rfl, rfl, rfl, d_storeB sz26 rfl rfl rfl (H4.blk 0 rfl) rfl fun w5 u3 => ?_⟩)
    have H5 : UpG w [blk hg #[.slice hpa h.past.length hpc, .slice hna h.next.length hnc, .string h.now, .int .i64 h.most] 79, rowT tyS (.slice hpa h.past.length hpc) 9 h.past, rowT tyS (.slice hna h.next.length hnc) 9 h.next] w5 [[blk hg #[.slice a1 ((h.past ++ [h.now]).length) c1, .slice hna h.next.length hnc, .string h.now, .int .i64 h.most] 79], [rowT tyS (.slice a1 ((h.past ++ [h.now]).length) c1) 9 (h.past ++ [h.now])], [rowT tyS (.slice hna h.next.length hnc) 9 h.next], []] := H4.on 0 rfl u3
    refine ⟨trivial, ?_⟩
    refine WD.done hok2 rfl (X.then_code ?_)
    refine W.pick [4, 0, 1] (Γ' := [(4, .int .i64 0), (0, .pointer (some ⟨hg, 0, none⟩)), (1, .string x)]) rfl ?_
    refine W.seq ?_
    refine W.region ?_
    refine WL.op rfl (d_move rfl ?_)
    refine WL.op rfl (d_move rfl ?_)
    refine WL.op rfl (d_move rfl ?_)
    refine WL.op rfl (d_nilCheck rfl ?_)
    refine WL.op rfl (d_fieldAddrB fld79_2 rfl rfl ?_)
    refine WL.op0 (d_storeB sz9 rfl rfl rfl (H5.blk 0 rfl) rfl fun w6 u4 => ?_)
    have H6 : UpG w [blk hg #[.slice hpa h.past.length hpc, .slice hna h.next.length hnc, .string h.now, .int .i64 h.most] 79, rowT tyS (.slice hpa h.past.length hpc) 9 h.past, rowT tyS (.slice hna h.next.length hnc) 9 h.next] w6 [[blk hg #[.slice a1 ((h.past ++ [h.now]).length) c1, .slice hna h.next.length hnc, .string x, .int .i64 h.most] 79], [rowT tyS (.slice a1 ((h.past ++ [h.now]).length) c1) 9 (h.past ++ [h.now])], [rowT tyS (.slice hna h.next.length hnc) 9 h.next], []] := H5.on 0 rfl u4
    refine WL.op rfl (d_nilCheck rfl ?_)
    refine WL.op rfl (d_fieldAddrB fld79_1 rfl rfl ?_)
    refine WL.op0 (d_storeB sz26 rfl rfl rfl (H6.blk 0 rfl) rfl fun w7 u5 => ?_)
    have H7 : UpG w [blk hg #[.slice hpa h.past.length hpc, .slice hna h.next.length hnc, .string h.now, .int .i64 h.most] 79, rowT tyS (.slice hpa h.past.length hpc) 9 h.past, rowT tyS (.slice hna h.next.length hnc) 9 h.next] w7 [[blk hg #[.slice a1 ((h.past ++ [h.now]).length) c1, .slice none 0 0, .string x, .int .i64 h.most] 79], [rowT tyS (.slice a1 ((h.past ++ [h.now]).length) c1) 9 (h.past ++ [h.now])], [rowT tyS (.slice hna h.next.length hnc) 9 h.next], []] := H6.on 0 rfl u5
    refine WL.done (X.then_code ?_)
    refine W.seq ?_
    refine W.region ?_
    refine WL.op rfl (d_assign rfl ?_)
    refine WL.done (X.then_code ?_)
    refine W.ret (X.ret1 rfl rfl ?_)
    have e : doH h x = (⟨h.past ++ [h.now], [], x, h.most⟩, 0) := by unfold doH; rw [if_neg (by omega)]
    rw [e]
    have H8 : UpG w [blk hg #[.slice hpa h.past.length hpc, .slice hna h.next.length hnc, .string h.now, .int .i64 h.most] 79, rowT tyS (.slice hpa h.past.length hpc) 9 h.past, rowT tyS (.slice hna h.next.length hnc) 9 h.next] w7 [[blk hg #[.slice a1 ((h.past ++ [h.now]).length) c1, .slice none 0 0, .string x, .int .i64 h.most] 79], [rowT tyS (.slice a1 ((h.past ++ [h.now]).length) c1) 9 (h.past ++ [h.now])], [rowT tyS (.slice hna h.next.length hnc) 9 h.next], [], [rowT tyS (.slice none (([] : List ByteArray).length) 0) 9 ([] : List ByteArray)]] := H7.new' (Upd.nilRowT w7 tyS 9)
    exact ⟨a1, c1, none, 0, (by rfl), (Upd.sel H8 (l := [0, 1, 3]) rfl rfl)⟩

set_option maxRecDepth 20000 in
theorem before_any (hg : Nat) (w : World) :
    Calls Try.prog 48 #[.pointer (some ⟨hg, 0, none⟩)] w (Ret fun v w' => v = .pointer (some ⟨hg, 0, none⟩) ∧ Upd w [] w' []) := by
  refine calls_of_W (args := [.pointer (some ⟨hg, 0, none⟩)]) Try.func48 rfl rfl rfl ?_
  have H0 : UpG w [] w [] := UpG.nil w
  show W _ _ _ _ [(0, .pointer (some ⟨hg, 0, none⟩))] w
  refine W.seq ?_
  refine W.region ?_
  refine WL.op rfl (d_assign rfl ?_)
  refine WL.done (X.then_code ?_)
  refine W.seq ?_
  refine W.region ?_
  refine WL.op rfl (d_move rfl ?_)
  refine WL.op rfl (d_nilCheck rfl ?_)
  refine WL.op rfl (d_fieldAddrB fld79_0 rfl rfl ?_)
  refine WL.op rfl (d_assign rfl ?_)
  refine WL.done (X.then_code ?_)
  refine W.ret (X.ret1 rfl rfl ?_)
  exact ⟨rfl, H0.noneL⟩

set_option maxRecDepth 20000 in
theorem behind_any (hg : Nat) (w : World) :
    Calls Try.prog 49 #[.pointer (some ⟨hg, 0, none⟩)] w (Ret fun v w' => v = .pointer (some ⟨hg, 1, none⟩) ∧ Upd w [] w' []) := by
  refine calls_of_W (args := [.pointer (some ⟨hg, 0, none⟩)]) Try.func49 rfl rfl rfl ?_
  have H0 : UpG w [] w [] := UpG.nil w
  show W _ _ _ _ [(0, .pointer (some ⟨hg, 0, none⟩))] w
  refine W.seq ?_
  refine W.region ?_
  refine WL.op rfl (d_assign rfl ?_)
  refine WL.done (X.then_code ?_)
  refine W.seq ?_
  refine W.region ?_
  refine WL.op rfl (d_move rfl ?_)
  refine WL.op rfl (d_nilCheck rfl ?_)
  refine WL.op rfl (d_fieldAddrB fld79_1 rfl rfl ?_)
  refine WL.op rfl (d_assign rfl ?_)
  refine WL.done (X.then_code ?_)
  refine W.ret (X.ret1 rfl rfl ?_)
  exact ⟨rfl, H0.noneL⟩

set_option maxRecDepth 20000 in
theorem travelU_any (h : HistD) (hg : Nat) (hpa : Option Addr) (hpc : Nat) (hna : Option Addr) (hnc : Nat) (w : World) (hp : Hp w [blk hg #[.slice hpa h.past.length hpc, .slice hna h.next.length hnc, .string h.now, .int .i64 h.most] 79, rowT tyS (.slice hpa h.past.length hpc) 9 h.past, rowT tyS (.slice hna h.next.length hnc) 9 h.next]) (hl : h.past.length + h.next.length ≤ 1000000) :
    Calls Try.prog 47 #[.pointer (some ⟨hg, 0, none⟩), .func (.func 48) #[] #[], .func (.func 49) #[] #[]] w (Ret fun v w' => ∃ pa2 : Option Addr, ∃ pc2 : Nat, ∃ na2 : Option Addr, ∃ nc2 : Nat, v = .tuple #[.string ((undoH h).2.1), .int .i64 ((undoH h).2.2)] ∧ Upd w [blk hg #[.slice hpa h.past.length hpc, .slice hna h.next.length hnc, .string h.now, .int .i64 h.most] 79, rowT tyS (.slice hpa h.past.length hpc) 9 h.past, rowT tyS (.slice hna h.next.length hnc) 9 h.next] w' [blk hg #[.slice pa2 (((undoH h).1.past).length) pc2, .slice na2 (((undoH h).1.next).length) nc2, .string ((undoH h).1.now), .int .i64 ((undoH h).1.most)] 79, rowT tyS (.slice pa2 (((undoH h).1.past).length) pc2) 9 ((undoH h).1.past), rowT tyS (.slice na2 (((undoH h).1.next).length) nc2) 9 ((undoH h).1.next)]) := by
  refine calls_of_W (args := [.pointer (some ⟨hg, 0, none⟩), .func (.func 48) #[] #[], .func (.func 49) #[] #[]]) Try.func47 rfl rfl rfl ?_
  have H0 : UpG w [blk hg #[.slice hpa h.past.length hpc, .slice hna h.next.length hnc, .string h.now, .int .i64 h.most] 79, rowT tyS (.slice hpa h.past.length hpc) 9 h.past, rowT tyS (.slice hna h.next.length hnc) 9 h.next] w [[blk hg #[.slice hpa h.past.length hpc, .slice hna h.next.length hnc, .string h.now, .int .i64 h.most] 79], [rowT tyS (.slice hpa h.past.length hpc) 9 h.past], [rowT tyS (.slice hna h.next.length hnc) 9 h.next]] := (UpG.refl hp).re rfl
  show W _ _ _ _ [(0, .pointer (some ⟨hg, 0, none⟩)), (1, .func (.func 48) #[] #[]), (2, .func (.func 49) #[] #[])] w
  refine W.seq ?_
  refine W.region ?_
  refine WL.op rfl (d_assign rfl ?_)
  refine WL.op rfl (d_assign rfl ?_)
  refine WL.done (X.then_code ?_)
  refine W.seq ?_
  refine W.region ?_
  refine WL.op rfl (d_assign rfl ?_)
  refine WL.done (X.then_code ?_)
  refine W.seq ?_
  refine W.seq ?_
  refine W.region ?_
  refine WL.op rfl (d_move rfl ?_)
  refine WL.op rfl (d_ptrnilF Try.underlying24 rfl ?_)
  refine WL.op rfl (d_move rfl ?_)
  refine WL.opG rfl rfl rfl (d_move rfl ?_)
  refine WL.opG rfl rfl rfl (d_move rfl ?_)
  refine WL.opG rfl rfl rfl (d_callv ok48 rfl rfl (Ret.calls (before_any hg w  ) fun _ w1 p1 => ?_))
  obtain ⟨rfl, u1⟩ := p1
  have H1 : UpG w [blk hg #[.slice hpa h.past.length hpc, .slice hna h.next.length hnc, .string h.now, .int .i64 h.most] 79, rowT tyS (.slice hpa h.past.length hpc) 9 h.past, rowT tyS (.slice hna h.next.length hnc) 9 h.next] w1 [[blk hg #[.slice hpa h.past.length hpc, .slice hna h.next.length hnc, .string h.now, .int .i64 h.most] 79], [rowT tyS (.slice hpa h.past.length hpc) 9 h.past], [rowT tyS (.slice hna h.next.length hnc) 9 h.next]] := H0.call u1
  refine WL.opG rfl rfl rfl (d_nilCheck rfl ?_)
  refine WL.opG rfl rfl rfl (d_loadB Try.underlying26 rfl rfl (H1.blk 0 rfl) rfl ?_)
  refine WL.opG rfl rfl rfl (d_lenS Try.underlying26 rfl ?_)
  refine WL.opG rfl rfl rfl (d_cmp (decide (((h.past.length : Nat) : Int) = (0 : Int))) rfl rfl rfl ?_)
  refine WL.op rfl (d_pick rfl rfl ?_)
  refine WL.done (X.then_code ?_)
  refine W.pick [22, 8, 7, 6, 0, 1, 2] (Γ' := [(22, .bool (decide (((h.past.length : Nat) : Int) = (0 : Int)))), (8, .string ⟨#[]⟩), (7, .int .i64 0), (6, .string ⟨#[]⟩), (0, .pointer (some ⟨hg, 0, none⟩)), (1, .func (.func 48) #[] #[]), (2, .func (.func 49) #[] #[])]) rfl ?_
  refine W.ite (p := ((h.past.length : Nat) : Int) = (0 : Int)) rfl (fun c52 => ?_) (fun c52 => ?_)
  · skip
    refine W.seq ?_
    refine W.region ?_
    refine WL.op rfl (d_move rfl ?_)
    refine WL.op rfl (d_assign rfl ?_)
    refine WL.op rfl (d_assign rfl ?_)
    refine WL.done (X.then_code ?_)
    refine W.ret (X.then_ret (X.ret2 rfl rfl rfl ?_))
    have e : undoH h = (h, ⟨#[]⟩, 8) := by unfold undoH; rw [if_pos (by omega)]
    rw [e]
    exact ⟨hpa, hpc, hna, hnc, (by rfl), (Upd.sel H1 (l := [0, 1, 2]) rfl rfl)⟩
  · skip
    refine W.skip (X.then_code ?_)
    refine W.seq ?_
    refine W.region ?_
    refine WL.op rfl (d_move rfl ?_)
    refine WL.op rfl (d_move rfl ?_)
    refine WL.op rfl (d_callv ok48 rfl rfl (Ret.calls (before_any hg w1  ) fun _ w2 p2 => ?_))
    obtain ⟨rfl, u2⟩ := p2
    have H2 : UpG w [blk hg #[.slice hpa h.past.length hpc, .slice hna h.next.length hnc, .string h.now, .int .i64 h.most] 79, rowT tyS (.slice hpa h.past.length hpc) 9 h.past, rowT tyS (.slice hna h.next.length hnc) 9 h.next] w2 [[blk hg #[.slice hpa h.past.length hpc, .slice hna h.next.length hnc, .string h.now, .int .i64 h.most] 79], [rowT tyS (.slice hpa h.past.length hpc) 9 h.past], [rowT tyS (.slice hna h.next.length hnc) 9 h.next]] := H1.call u2
    refine WL.op rfl (d_move rfl ?_)
    refine WL.op rfl (d_move rfl ?_)
    refine WL.op rfl (d_callv ok49 rfl rfl (Ret.calls (behind_any hg w2  ) fun _ w3 p3 => ?_))
    obtain ⟨rfl, u3⟩ := p3
    have H3 : UpG w [blk hg #[.slice hpa h.past.length hpc, .slice hna h.next.length hnc, .string h.now, .int .i64 h.most] 79, rowT tyS (.slice hpa h.past.length hpc) 9 h.past, rowT tyS (.slice hna h.next.length hnc) 9 h.next] w3 [[blk hg #[.slice hpa h.past.length hpc, .slice hna h.next.length hnc, .string h.now, .int .i64 h.most] 79], [rowT tyS (.slice hpa h.past.length hpc) 9 h.past], [rowT tyS (.slice hna h.next.length hnc) 9 h.next]] := H2.call u3
    refine WL.op rfl (d_assign rfl ?_)
    refine WL.op rfl (d_assign rfl ?_)
    refine WL.done (X.then_code ?_)
    refine W.seq ?_
    refine W.region ?_
    refine WL.op rfl (d_move rfl ?_)
    refine WL.op rfl (d_nilCheck rfl ?_)
    refine WL.op rfl (d_loadB Try.underlying26 rfl rfl (H3.blk 0 rfl) rfl ?_)
    refine WL.op rfl (d_lenS Try.underlying26 rfl ?_)
    refine WL.op rfl (d_sub rfl rfl (by omega) (by omega) ?_)
    refine WL.op rfl (d_assign rfl ?_)
    refine WL.done (X.then_code ?_)
    refine W.pick [11, 10, 9, 7, 6, 0] (Γ' := [(11, .int .i64 (((h.past.length : Nat) : Int) - 1)), (10, .pointer (some ⟨hg, 1, none⟩)), (9, .pointer (some ⟨hg, 0, none⟩)), (7, .int .i64 0), (6, .string ⟨#[]⟩), (0, .pointer (some ⟨hg, 0, none⟩))]) rfl ?_
    refine W.seq ?_
    refine W.regionD mixed (by kernel_rfl) fun hok1 w4 k1 => ?_
    have H4 : UpG w [blk hg #[.slice hpa h.past.length hpc, .slice hna h.next.length hnc, .string h.now, .int .i64 h.most] 79, rowT tyS (.slice hpa h.past.length hpc) 9 h.past, rowT tyS (.slice hna h.next.length hnc) 9 h.next] w4 [[blk hg #[.slice hpa h.past.length hpc, .slice hna h.next.length hnc, .string h.now, .int .i64 h.most] 79], [rowT tyS (.slice hpa h.past.length hpc) 9 h.past], [rowT tyS (.slice hna h.next.length hnc) 9 h.next]] := H3.kept k1
    refine WD.take hok1 0 (.pointer (some ⟨hg, 1, none⟩)) (fun _ => True) rfl rfl rfl rfl rfl trivial (.inl ⟨rfl, fun _ _ => d_move rfl ⟨rfl, rfl⟩⟩) ?_
    refine WD.take hok1 1 (.pointer (some ⟨hg, 1, none⟩)) (fun _ => True) rfl rfl rfl rfl rfl trivial (.inl ⟨rfl, fun _ _ => d_move rfl ⟨rfl, rfl⟩⟩) ?_
    refine WD.take hok1 2 (.pointer (some ⟨hg, 1, none⟩)) (fun _ => True) rfl rfl rfl rfl rfl trivial (.inl ⟨rfl, fun _ _ => d_nilCheck rfl ⟨rfl, rfl⟩⟩) ?_
    refine WD.take hok1 3 (.slice hna h.next.length hnc) (fun w' => w'.heap[hg]? = some (.cells #[.slice hpa h.past.length hpc, .slice hna h.next.length hnc, .string h.now, .int .i64 h.most] 79 (0, 0))) rfl rfl rfl rfl rfl (H4.blk 0 rfl) (.inl ⟨rfl, fun _ hC => d_loadB Try.underlying26 rfl rfl hC rfl ⟨rfl, rfl⟩⟩) ?_
    refine WD.take hok1 4 (.pointer (some ⟨hg, 0, none⟩)) (fun _ => True) rfl rfl rfl rfl rfl trivial (.inl ⟨rfl, fun _ _ => d_move rfl ⟨rfl, rfl⟩⟩) ?_
    refine WD.take hok1 5 (.pointer (some ⟨hg, 0, none⟩)) (fun _ => True) rfl rfl rfl rfl rfl trivial (.inl ⟨rfl, fun _ _ => d_nilCheck rfl ⟨rfl, rfl⟩⟩) ?_
    refine WD.take hok1 6 (.pointer (some ⟨hg, 2, none⟩)) (fun _ => True) rfl rfl rfl rfl rfl trivial (.inl ⟨rfl, fun _ _ => d_fieldAddrB fld79_2 rfl rfl ⟨rfl, rfl⟩⟩) ?_
    refine WD.take hok1 7 (.string h.now) (fun w' => w'.heap[hg]? = some (.cells #[.slice hpa h.past.length hpc, .slice hna h.next.length hnc, .string h.now, .int .i64 h.most] 79 (0, 0))) rfl rfl rfl rfl rfl (H4.blk 0 rfl) (.inl ⟨rfl, fun _ hC => d_loadB Try.underlying9 rfl rfl hC rfl ⟨rfl, rfl⟩⟩) ?_
    refine WD.loud hok1 8 rfl (⟨_, [⟨3, .slice hna h.next.length hnc, (fun w' => w'.heap[hg]? = some (.cells #[.slice hpa h.past.length hpc, .slice hna h.next.length hnc, .string h.now, .int .i64 h.most] 79 (0, 0)))⟩, ⟨2, .pointer (some ⟨hg, 1, none⟩), (fun _ => True)⟩, ⟨1, .pointer (some ⟨hg, 1, none⟩), (fun _ => True)⟩, ⟨0, .pointer (some ⟨hg, 1, none⟩), (fun _ => True)⟩], rfl, rfl, rfl, rfl, rfl, rfl, t_buildSlice (T := tyS) (xs := [h.now]) (cs := #[.string h.now]) rfl Try.underlying26 sz9 rfl rfl rfl rfl (by kernel_rfl) rfl rfl fun w5 u4 => ?_⟩)
    have H5 : UpG w [blk hg #[.slice hpa h.past.length hpc, .slice hna h.next.length hnc, .string h.now, .int .i64 h.most] 79, rowT tyS (.slice hpa h.past.length hpc) 9 h.past, rowT tyS (.slice hna h.next.length hnc) 9 h.next] w5 [[blk hg #[.slice hpa h.past.length hpc, .slice hna h.next.length hnc, .string h.now, .int .i64 h.most] 79], [rowT tyS (.slice hpa h.past.length hpc) 9 h.past], [rowT tyS (.slice hna h.next.length hnc) 9 h.next], [rowT tyS (.slice (some ⟨w4.heap.size, 0, none⟩) ([h.now].length) ([h.now].length)) 9 [h.now]]] := H4.new' u4
    refine ⟨⟨(H5.blk 0 rfl), trivial, trivial, trivial, trivial⟩, ?_⟩
    refine WD.loud hok1 9 rfl (⟨_, [⟨0, .pointer (some ⟨hg, 1, none⟩), (fun _ => True)⟩], rfl, rfl, rfl, rfl, rfl, rfl, t_append (T := tyS) (xs := h.next) (ys := [h.now]) rfl Try.underlying26 sz9 rfl rfl rfl (H5.ownT 2 rfl) (H5.rdT 3 rfl) (by simp; omega) (by simp; omega) fun a1 c1 w6 u5 => ?_⟩)
    have H6 : UpG w [blk hg #[.slice hpa h.past.length hpc, .slice hna h.next.length hnc, .string h.now, .int .i64 h.most] 79, rowT tyS (.slice hpa h.past.length hpc) 9 h.past, rowT tyS (.slice hna h.next.length hnc) 9 h.next] w6 [[blk hg #[.slice hpa h.past.length hpc, .slice hna h.next.length hnc, .string h.now, .int .i64 h.most] 79], [rowT tyS (.slice hpa h.past.length hpc) 9 h.past], [rowT tyS (.slice a1 ((h.next ++ [h.now]).length) c1) 9 (h.next ++ [h.now])], []] := (H5.on 2 rfl u5).drop 3
    refine ⟨⟨trivial, trivial⟩, ?_⟩
    refine WD.take hok1 10 (.pointer (some ⟨hg, 1, none⟩)) (fun _ => True) rfl rfl rfl rfl rfl trivial (.inl ⟨rfl, fun _ _ => d_nilCheck rfl ⟨rfl, rfl⟩⟩) ?_
    refine WD.loud hok1 11 rfl (⟨_, [], rfl, rfl, rfl, rfl, rfl, rfl, d_storeB sz26 rfl rfl rfl (H6.blk 0 rfl) rfl fun w7 u6 => ?_⟩)
    have H7 : UpG w [blk hg #[.slice hpa h.past.length hpc, .slice hna h.next.length hnc, .string h.now, .int .i64 h.most] 79, rowT tyS (.slice hpa h.past.length hpc) 9 h.past, rowT tyS (.slice hna h.next.length hnc) 9 h.next] w7 [[blk hg #[.slice hpa h.past.length hpc, .slice a1 ((h.next ++ [h.now]).length) c1, .string h.now, .int .i64 h.most] 79], [rowT tyS (.slice hpa h.past.length hpc) 9 h.past], [rowT tyS (.slice a1 ((h.next ++ [h.now]).length) c1) 9 (h.next ++ [h.now])], []] := H6.on 0 rfl u6
    refine ⟨trivial, ?_⟩
    refine WD.done hok1 rfl (X.then_code ?_)
    refine W.pick [11, 9, 7, 6, 0] (Γ' := [(11, .int .i64 (((h.past.length : Nat) : Int) - 1)), (9, .pointer (some ⟨hg, 0, none⟩)), (7, .int .i64 0), (6, .string ⟨#[]⟩), (0, .pointer (some ⟨hg, 0, none⟩))]) rfl ?_
    refine W.seq ?_
    refine W.region ?_
    refine WL.op rfl (d_move rfl ?_)
    refine WL.op rfl (d_move rfl ?_)
    refine WL.op rfl (d_nilCheck rfl ?_)
    refine WL.op rfl (d_loadB Try.underlying26 rfl rfl (H7.blk 0 rfl) rfl ?_)
    refine WL.op rfl (d_move rfl ?_)
    refine WL.op rfl (t_addr1 (h.past.length - 1) (T := tyS) rfl Try.underlying26 sz9 rfl rfl (H7.rdT 1 rfl) (by omega) (by omega) ?_)
    refine WL.op rfl (t_load1 (h.past.length - 1) .empty (T := tyS) rfl Try.underlying9 rfl rfl (H7.rdT 1 rfl) (by omega) rfl ?_)
    refine WL.op rfl (d_nilCheck rfl ?_)
    refine WL.op rfl (d_fieldAddrB fld79_2 rfl rfl ?_)
    refine WL.op0 (d_storeB sz9 rfl rfl rfl (H7.blk 0 rfl) rfl fun w8 u7 => ?_)
    have H8 : UpG w [blk hg #[.slice hpa h.past.length hpc, .slice hna h.next.length hnc, .string h.now, .int .i64 h.most] 79, rowT tyS (.slice hpa h.past.length hpc) 9 h.past, rowT tyS (.slice hna h.next.length hnc) 9 h.next] w8 [[blk hg #[.slice hpa h.past.length hpc, .slice a1 ((h.next ++ [h.now]).length) c1, .string (h.past.getD (h.past.length - 1) .empty), .int .i64 h.most] 79], [rowT tyS (.slice hpa h.past.length hpc) 9 h.past], [rowT tyS (.slice a1 ((h.next ++ [h.now]).length) c1) 9 (h.next ++ [h.now])], []] := H7.on 0 rfl u7
    refine WL.done (X.then_code ?_)
    refine W.seq ?_
    refine W.region ?_
    refine WL.op rfl (d_move rfl ?_)
    refine WL.op rfl (d_move rfl ?_)
    refine WL.op rfl (d_nilCheck rfl ?_)
    refine WL.op rfl (d_loadB Try.underlying26 rfl rfl (H8.blk 0 rfl) rfl ?_)
    refine WL.op rfl (d_move rfl ?_)
    refine WL.op rfl (t_pop (((h.past.length : Nat) : Int) - 1) (h.past.length - 1) (T := tyS) (e := 9) (xs := h.past) rfl Try.underlying26 sz9 rfl rfl (H8.ownT 1 rfl) (by omega) (by omega) fun w9 u8 => ?_)
    have H9 : UpG w [blk hg #[.slice hpa h.past.length hpc, .slice hna h.next.length hnc, .string h.now, .int .i64 h.most] 79, rowT tyS (.slice hpa h.past.length hpc) 9 h.past, rowT tyS (.slice hna h.next.length hnc) 9 h.next] w9 [[blk hg #[.slice hpa h.past.length hpc, .slice a1 ((h.next ++ [h.now]).length) c1, .string (h.past.getD (h.past.length - 1) .empty), .int .i64 h.most] 79], [rowT tyS (.slice hpa ((h.past.take (h.past.length - 1)).length) hpc) 9 (h.past.take (h.past.length - 1))], [rowT tyS (.slice a1 ((h.next ++ [h.now]).length) c1) 9 (h.next ++ [h.now])], []] := H8.on 1 rfl u8
    refine WL.op rfl (d_nilCheck rfl ?_)
    refine WL.op0 (d_storeB sz26 rfl rfl rfl (H9.blk 0 rfl) rfl fun w10 u9 => ?_)
    have H10 : UpG w [blk hg #[.slice hpa h.past.length hpc, .slice hna h.next.length hnc, .string h.now, .int .i64 h.most] 79, rowT tyS (.slice hpa h.past.length hpc) 9 h.past, rowT tyS (.slice hna h.next.length hnc) 9 h.next] w10 [[blk hg #[.slice hpa ((h.past.take (h.past.length - 1)).length) hpc, .slice a1 ((h.next ++ [h.now]).length) c1, .string (h.past.getD (h.past.length - 1) .empty), .int .i64 h.most] 79], [rowT tyS (.slice hpa ((h.past.take (h.past.length - 1)).length) hpc) 9 (h.past.take (h.past.length - 1))], [rowT tyS (.slice a1 ((h.next ++ [h.now]).length) c1) 9 (h.next ++ [h.now])], []] := H9.on 0 rfl u9
    refine WL.done (X.then_code ?_)
    refine W.pick [7, 6, 0] (Γ' := [(7, .int .i64 0), (6, .string ⟨#[]⟩), (0, .pointer (some ⟨hg, 0, none⟩))]) rfl ?_
    refine W.seq ?_
    refine W.region ?_
    refine WL.op rfl (d_move rfl ?_)
    refine WL.op rfl (d_nilCheck rfl ?_)
    refine WL.op rfl (d_fieldAddrB fld79_2 rfl rfl ?_)
    refine WL.op rfl (d_loadB Try.underlying9 rfl rfl (H10.blk 0 rfl) rfl ?_)
    refine WL.op rfl (d_assign rfl ?_)
    refine WL.op rfl (d_assign rfl ?_)
    refine WL.done (X.then_code ?_)
    refine W.ret (X.ret2 rfl rfl rfl ?_)
    have e : undoH h = (⟨h.past.take (h.past.length - 1), h.next ++ [h.now], h.past.getD (h.past.length - 1) .empty, h.most⟩, h.past.getD (h.past.length - 1) .empty, 0) := by unfold undoH; rw [if_neg (by omega)]
    rw [e]
    exact ⟨hpa, hpc, a1, c1, (by rfl), (Upd.sel H10 (l := [0, 1, 2]) rfl rfl)⟩

set_option maxRecDepth 20000 in
theorem travelR_any (h : HistD) (hg : Nat) (hpa : Option Addr) (hpc : Nat) (hna : Option Addr) (hnc : Nat) (w : World) (hp : Hp w [blk hg #[.slice hpa h.past.length hpc, .slice hna h.next.length hnc, .string h.now, .int .i64 h.most] 79, rowT tyS (.slice hpa h.past.length hpc) 9 h.past, rowT tyS (.slice hna h.next.length hnc) 9 h.next]) (hl : h.past.length + h.next.length ≤ 1000000) :
    Calls Try.prog 47 #[.pointer (some ⟨hg, 0, none⟩), .func (.func 49) #[] #[], .func (.func 48) #[] #[]] w (Ret fun v w' => ∃ pa2 : Option Addr, ∃ pc2 : Nat, ∃ na2 : Option Addr, ∃ nc2 : Nat, v = .tuple #[.string ((redoH h).2.1), .int .i64 ((redoH h).2.2)] ∧ Upd w [blk hg #[.slice hpa h.past.length hpc, .slice hna h.next.length hnc, .string h.now, .int .i64 h.most] 79, rowT tyS (.slice hpa h.past.length hpc) 9 h.past, rowT tyS (.slice hna h.next.length hnc) 9 h.next] w' [blk hg #[.slice pa2 (((redoH h).1.past).length) pc2, .slice na2 (((redoH h).1.next).length) nc2, .string ((redoH h).1.now), .int .i64 ((redoH h).1.most)] 79, rowT tyS (.slice pa2 (((redoH h).1.past).length) pc2) 9 ((redoH h).1.past), rowT tyS (.slice na2 (((redoH h).1.next).length) nc2) 9 ((redoH h).1.next)]) := by
  refine calls_of_W (args := [.pointer (some ⟨hg, 0, none⟩), .func (.func 49) #[] #[], .func (.func 48) #[] #[]]) Try.func47 rfl rfl rfl ?_
  have H0 : UpG w [blk hg #[.slice hpa h.past.length hpc, .slice hna h.next.length hnc, .string h.now, .int .i64 h.most] 79, rowT tyS (.slice hpa h.past.length hpc) 9 h.past, rowT tyS (.slice hna h.next.length hnc) 9 h.next] w [[blk hg #[.slice hpa h.past.length hpc, .slice hna h.next.length hnc, .string h.now, .int .i64 h.most] 79], [rowT tyS (.slice hpa h.past.length hpc) 9 h.past], [rowT tyS (.slice hna h.next.length hnc) 9 h.next]] := (UpG.refl hp).re rfl
  show W _ _ _ _ [(0, .pointer (some ⟨hg, 0, none⟩)), (1, .func (.func 49) #[] #[]), (2, .func (.func 48) #[] #[])] w
  refine W.seq ?_
  refine W.region ?_
  refine WL.op rfl (d_assign rfl ?_)
  refine WL.op rfl (d_assign rfl ?_)
  refine WL.done (X.then_code ?_)
  refine W.seq ?_
  refine W.region ?_
  refine WL.op rfl (d_assign rfl ?_)
  refine WL.done (X.then_code ?_)
  refine W.seq ?_
  refine W.seq ?_
  refine W.region ?_
  refine WL.op rfl (d_move rfl ?_)
  refine WL.op rfl (d_ptrnilF Try.underlying24 rfl ?_)
  refine WL.op rfl (d_move rfl ?_)
  refine WL.opG rfl rfl rfl (d_move rfl ?_)
  refine WL.opG rfl rfl rfl (d_move rfl ?_)
  refine WL.opG rfl rfl rfl (d_callv ok49 rfl rfl (Ret.calls (behind_any hg w  ) fun _ w1 p1 => ?_))
  obtain ⟨rfl, u1⟩ := p1
  have H1 : UpG w [blk hg #[.slice hpa h.past.length hpc, .slice hna h.next.length hnc, .string h.now, .int .i64 h.most] 79, rowT tyS (.slice hpa h.past.length hpc) 9 h.past, rowT tyS (.slice hna h.next.length hnc) 9 h.next] w1 [[blk hg #[.slice hpa h.past.length hpc, .slice hna h.next.length hnc, .string h.now, .int .i64 h.most] 79], [rowT tyS (.slice hpa h.past.length hpc) 9 h.past], [rowT tyS (.slice hna h.next.length hnc) 9 h.next]] := H0.call u1
  refine WL.opG rfl rfl rfl (d_nilCheck rfl ?_)
  refine WL.opG rfl rfl rfl (d_loadB Try.underlying26 rfl rfl (H1.blk 0 rfl) rfl ?_)
  refine WL.opG rfl rfl rfl (d_lenS Try.underlying26 rfl ?_)
  refine WL.opG rfl rfl rfl (d_cmp (decide (((h.next.length : Nat) : Int) = (0 : Int))) rfl rfl rfl ?_)
  refine WL.op rfl (d_pick rfl rfl ?_)
  refine WL.done (X.then_code ?_)
  refine W.pick [22, 8, 7, 6, 0, 1, 2] (Γ' := [(22, .bool (decide (((h.next.length : Nat) : Int) = (0 : Int)))), (8, .string ⟨#[]⟩), (7, .int .i64 0), (6, .string ⟨#[]⟩), (0, .pointer (some ⟨hg, 0, none⟩)), (1, .func (.func 49) #[] #[]), (2, .func (.func 48) #[] #[])]) rfl ?_
  refine W.ite (p := ((h.next.length : Nat) : Int) = (0 : Int)) rfl (fun c52 => ?_) (fun c52 => ?_)
  · skip
    refine W.seq ?_
    refine W.region ?_
    refine WL.op rfl (d_move rfl ?_)
    refine WL.op rfl (d_assign rfl ?_)
    refine WL.op rfl (d_assign rfl ?_)
    refine WL.done (X.then_code ?_)
    refine W.ret (X.then_ret (X.ret2 rfl rfl rfl ?_))
    have e : redoH h = (h, ⟨#[]⟩, 8) := by unfold redoH; rw [if_pos (by omega)]
    rw [e]
    exact ⟨hpa, hpc, hna, hnc, (by rfl), (Upd.sel H1 (l := [0, 1, 2]) rfl rfl)⟩
  · skip
    refine W.skip (X.then_code ?_)
    refine W.seq ?_
    refine W.region ?_
    refine WL.op rfl (d_move rfl ?_)
    refine WL.op rfl (d_move rfl ?_)
    refine WL.op rfl (d_callv ok49 rfl rfl (Ret.calls (behind_any hg w1  ) fun _ w2 p2 => ?_))
    obtain ⟨rfl, u2⟩ := p2
    have H2 : UpG w [blk hg #[.slice hpa h.past.length hpc, .slice hna h.next.length hnc, .string h.now, .int .i64 h.most] 79, rowT tyS (.slice hpa h.past.length hpc) 9 h.past, rowT tyS (.slice hna h.next.length hnc) 9 h.next] w2 [[blk hg #[.slice hpa h.past.length hpc, .slice hna h.next.length hnc, .string h.now, .int .i64 h.most] 79], [rowT tyS (.slice hpa h.past.length hpc) 9 h.past], [rowT tyS (.slice hna h.next.length hnc) 9 h.next]] := H1.call u2
    refine WL.op rfl (d_move rfl ?_)
    refine WL.op rfl (d_move rfl ?_)
    refine WL.op rfl (d_callv ok48 rfl rfl (Ret.calls (before_any hg w2  ) fun _ w3 p3 => ?_))
    obtain ⟨rfl, u3⟩ := p3
    have H3 : UpG w [blk hg #[.slice hpa h.past.length hpc, .slice hna h.next.length hnc, .string h.now, .int .i64 h.most] 79, rowT tyS (.slice hpa h.past.length hpc) 9 h.past, rowT tyS (.slice hna h.next.length hnc) 9 h.next] w3 [[blk hg #[.slice hpa h.past.length hpc, .slice hna h.next.length hnc, .string h.now, .int .i64 h.most] 79], [rowT tyS (.slice hpa h.past.length hpc) 9 h.past], [rowT tyS (.slice hna h.next.length hnc) 9 h.next]] := H2.call u3
    refine WL.op rfl (d_assign rfl ?_)
    refine WL.op rfl (d_assign rfl ?_)
    refine WL.done (X.then_code ?_)
    refine W.seq ?_
    refine W.region ?_
    refine WL.op rfl (d_move rfl ?_)
    refine WL.op rfl (d_nilCheck rfl ?_)
    refine WL.op rfl (d_loadB Try.underlying26 rfl rfl (H3.blk 0 rfl) rfl ?_)
    refine WL.op rfl (d_lenS Try.underlying26 rfl ?_)
    refine WL.op rfl (d_sub rfl rfl (by omega) (by omega) ?_)
    refine WL.op rfl (d_assign rfl ?_)
    refine WL.done (X.then_code ?_)
    refine W.pick [11, 10, 9, 7, 6, 0] (Γ' := [(11, .int .i64 (((h.next.length : Nat) : Int) - 1)), (10, .pointer (some ⟨hg, 0, none⟩)), (9, .pointer (some ⟨hg, 1, none⟩)), (7, .int .i64 0), (6, .string ⟨#[]⟩), (0, .pointer (some ⟨hg, 0, none⟩))]) rfl ?_
    refine W.seq ?_
    refine W.regionD mixed (by kernel_rfl) fun hok1 w4 k1 => ?_
    have H4 : UpG w [blk hg #[.slice hpa h.past.length hpc, .slice hna h.next.length hnc, .string h.now, .int .i64 h.most] 79, rowT tyS (.slice hpa h.past.length hpc) 9 h.past, rowT tyS (.slice hna h.next.length hnc) 9 h.next] w4 [[blk hg #[.slice hpa h.past.length hpc, .slice hna h.next.length hnc, .string h.now, .int .i64 h.most] 79], [rowT tyS (.slice hpa h.past.length hpc) 9 h.past], [rowT tyS (.slice hna h.next.length hnc) 9 h.next]] := H3.kept k1
    refine WD.take hok1 0 (.pointer (some ⟨hg, 0, none⟩)) (fun _ => True) rfl rfl rfl rfl rfl trivial (.inl ⟨rfl, fun _ _ => d_move rfl ⟨rfl, rfl⟩⟩) ?_
    refine WD.take hok1 1 (.pointer (some ⟨hg, 0, none⟩)) (fun _ => True) rfl rfl rfl rfl rfl trivial (.inl ⟨rfl, fun _ _ => d_move rfl ⟨rfl, rfl⟩⟩) ?_
    refine WD.take hok1 2 (.pointer (some ⟨hg, 0, none⟩)) (fun _ => True) rfl rfl rfl rfl rfl trivial (.inl ⟨rfl, fun _ _ => d_nilCheck rfl ⟨rfl, rfl⟩⟩) ?_
    refine WD.take hok1 3 (.slice hpa h.past.length hpc) (fun w' => w'.heap[hg]? = some (.cells #[.slice hpa h.past.length hpc, .slice hna h.next.length hnc, .string h.now, .int .i64 h.most] 79 (0, 0))) rfl rfl rfl rfl rfl (H4.blk 0 rfl) (.inl ⟨rfl, fun _ hC => d_loadB Try.underlying26 rfl rfl hC rfl ⟨rfl, rfl⟩⟩) ?_
    refine WD.take hok1 4 (.pointer (some ⟨hg, 0, none⟩)) (fun _ => True) rfl rfl rfl rfl rfl trivial (.inl ⟨rfl, fun _ _ => d_move rfl ⟨rfl, rfl⟩⟩) ?_
    refine WD.take hok1 5 (.pointer (some ⟨hg, 0, none⟩)) (fun _ => True) rfl rfl rfl rfl rfl trivial (.inl ⟨rfl, fun _ _ => d_nilCheck rfl ⟨rfl, rfl⟩⟩) ?_
    refine WD.take hok1 6 (.pointer (some ⟨hg, 2, none⟩)) (fun _ => True) rfl rfl rfl rfl rfl trivial (.inl ⟨rfl, fun _ _ => d_fieldAddrB fld79_2 rfl rfl ⟨rfl, rfl⟩⟩) ?_
    refine WD.take hok1 7 (.string h.now) (fun w' => w'.heap[hg]? = some (.cells #[.slice hpa h.past.length hpc, .slice hna h.next.length hnc, .string h.now, .int .i64 h.most] 79 (0, 0))) rfl rfl rfl rfl rfl (H4.blk 0 rfl) (.inl ⟨rfl, fun _ hC => d_loadB Try.underlying9 rfl rfl hC rfl ⟨rfl, rfl⟩⟩) ?_
    refine WD.loud hok1 8 rfl (⟨_, [⟨3, .slice hpa h.past.length hpc, (fun w' => w'.heap[hg]? = some (.cells #[.slice hpa h.past.length hpc, .slice hna h.next.length hnc, .string h.now, .int .i64 h.most] 79 (0, 0)))⟩, ⟨2, .pointer (some ⟨hg, 0, none⟩), (fun _ => True)⟩, ⟨1, .pointer (some ⟨hg, 0, none⟩), (fun _ => True)⟩, ⟨0, .pointer (some ⟨hg, 0, none⟩), (fun _ => True)⟩], rfl, rfl, rfl, rfl, rfl, rfl, t_buildSlice (T := tyS) (xs := [h.now]) (cs := #[.string h.now]) rfl Try.underlying26 sz9 rfl rfl rfl rfl (by kernel_rfl) rfl rfl fun w5 u4 => ?_⟩)
    have H5 : UpG w [blk hg #[.slice hpa h.past.length hpc, .slice hna h.next.length hnc, .string h.now, .int .i64 h.most] 79, rowT tyS (.slice hpa h.past.length hpc) 9 h.past, rowT tyS (.slice hna h.next.length hnc) 9 h.next] w5 [[blk hg #[.slice hpa h.past.length hpc, .slice hna h.next.length hnc, .string h.now, .int .i64 h.most] 79], [rowT tyS (.slice hpa h.past.length hpc) 9 h.past], [rowT tyS (.slice hna h.next.length hnc) 9 h.next], [rowT tyS (.slice (some ⟨w4.heap.size, 0, none⟩) ([h.now].length) ([h.now].length)) 9 [h.now]]] := H4.new' u4
    refine ⟨⟨(H5.blk 0 rfl), trivial, trivial, trivial, trivial⟩, ?_⟩
    refine WD.loud hok1 9 rfl (⟨_, [⟨0, .pointer (some ⟨hg, 0, none⟩), (fun _ => True)⟩], rfl, rfl, rfl, rfl, rfl, rfl, t_append (T := tyS) (xs := h.past) (ys := [h.now]) rfl Try.underlying26 sz9 rfl rfl rfl (H5.ownT 1 rfl) (H5.rdT 3 rfl) (by simp; omega) (by simp; omega) fun a1 c1 w6 u5 => ?_⟩)
    have H6 : UpG w [blk hg #[.slice hpa h.past.length hpc, .slice hna h.next.length hnc, .string h.now, .int .i64 h.most] 79, rowT tyS (.slice hpa h.past.length hpc) 9 h.past, rowT tyS (.slice hna h.next.length hnc) 9 h.next] w6 [[blk hg #[.slice hpa h.past.length hpc, .slice hna h.next.length hnc, .string h.now, .int .i64 h.most] 79], [rowT tyS (.slice a1 ((h.past ++ [h.now]).length) c1) 9 (h.past ++ [h.now])], [rowT tyS (.slice hna h.next.length hnc) 9 h.next], []] := (H5.on 1 rfl u5).drop 3
    refine ⟨⟨trivial, trivial⟩, ?_⟩
    refine WD.take hok1 10 (.pointer (some ⟨hg, 0, none⟩)) (fun _ => True) rfl rfl rfl rfl rfl trivial (.inl ⟨rfl, fun _ _ => d_nilCheck rfl ⟨rfl, rfl⟩⟩) ?_
    refine WD.loud hok1 11 rfl (⟨_, [], rfl, rfl, rfl, rfl, rfl, rfl, d_storeB sz26 rfl rfl rfl (H6.blk 0 rfl) rfl fun w7 u6 => ?_⟩)
    have H7 : UpG w [blk hg #[.slice hpa h.past.length hpc, .slice hna h.next.length hnc, .string h.now, .int .i64 h.most] 79, rowT tyS (.slice hpa h.past.length hpc) 9 h.past, rowT tyS (.slice hna h.next.length hnc) 9 h.next] w7 [[blk hg #[.slice a1 ((h.past ++ [h.now]).length) c1, .slice hna h.next.length hnc, .string h.now, .int .i64 h.most] 79], [rowT tyS (.slice a1 ((h.past ++ [h.now]).length) c1) 9 (h.past ++ [h.now])], [rowT tyS (.slice hna h.next.length hnc) 9 h.next], []] := H6.on 0 rfl u6
    refine ⟨trivial, ?_⟩
    refine WD.done hok1 rfl (X.then_code ?_)
    refine W.pick [11, 9, 7, 6, 0] (Γ' := [(11, .int .i64 (((h.next.length : Nat) : Int) - 1)), (9, .pointer (some ⟨hg, 1, none⟩)), (7, .int .i64 0), (6, .string ⟨#[]⟩), (0, .pointer (some ⟨hg, 0, none⟩))]) rfl ?_
    refine W.seq ?_
    refine W.region ?_
    refine WL.op rfl (d_move rfl ?_)
    refine WL.op rfl (d_move rfl ?_)
    refine WL.op rfl (d_nilCheck rfl ?_)
    refine WL.op rfl (d_loadB Try.underlying26 rfl rfl (H7.blk 0 rfl) rfl ?_)
    refine WL.op rfl (d_move rfl ?_)
    refine WL.op rfl (t_addr1 (h.next.length - 1) (T := tyS) rfl Try.underlying26 sz9 rfl rfl (H7.rdT 2 rfl) (by omega) (by omega) ?_)
    refine WL.op rfl (t_load1 (h.next.length - 1) .empty (T := tyS) rfl Try.underlying9 rfl rfl (H7.rdT 2 rfl) (by omega) rfl ?_)
    refine WL.op rfl (d_nilCheck rfl ?_)
    refine WL.op rfl (d_fieldAddrB fld79_2 rfl rfl ?_)
    refine WL.op0 (d_storeB sz9 rfl rfl rfl (H7.blk 0 rfl) rfl fun w8 u7 => ?_)
    have H8 : UpG w [blk hg #[.slice hpa h.past.length hpc, .slice hna h.next.length hnc, .string h.now, .int .i64 h.most] 79, rowT tyS (.slice hpa h.past.length hpc) 9 h.past, rowT tyS (.slice hna h.next.length hnc) 9 h.next] w8 [[blk hg #[.slice a1 ((h.past ++ [h.now]).length) c1, .slice hna h.next.length hnc, .string (h.next.getD (h.next.length - 1) .empty), .int .i64 h.most] 79], [rowT tyS (.slice a1 ((h.past ++ [h.now]).length) c1) 9 (h.past ++ [h.now])], [rowT tyS (.slice hna h.next.length hnc) 9 h.next], []] := H7.on 0 rfl u7
    refine WL.done (X.then_code ?_)
    refine W.seq ?_
    refine W.region ?_
    refine WL.op rfl (d_move rfl ?_)
    refine WL.op rfl (d_move rfl ?_)
    refine WL.op rfl (d_nilCheck rfl ?_)
    refine WL.op rfl (d_loadB Try.underlying26 rfl rfl (H8.blk 0 rfl) rfl ?_)
    refine WL.op rfl (d_move rfl ?_)
    refine WL.op rfl (t_pop (((h.next.length : Nat) : Int) - 1) (h.next.length - 1) (T := tyS) (e := 9) (xs := h.next) rfl Try.underlying26 sz9 rfl rfl (H8.ownT 2 rfl) (by omega) (by omega) fun w9 u8 => ?_)
    have H9 : UpG w [blk hg #[.slice hpa h.past.length hpc, .slice hna h.next.length hnc, .string h.now, .int .i64 h.most] 79, rowT tyS (.slice hpa h.past.length hpc) 9 h.past, rowT tyS (.slice hna h.next.length hnc) 9 h.next] w9 [[blk hg #[.slice a1 ((h.past ++ [h.now]).length) c1, .slice hna h.next.length hnc, .string (h.next.getD (h.next.length - 1) .empty), .int .i64 h.most] 79], [rowT tyS (.slice a1 ((h.past ++ [h.now]).length) c1) 9 (h.past ++ [h.now])], [rowT tyS (.slice hna ((h.next.take (h.next.length - 1)).length) hnc) 9 (h.next.take (h.next.length - 1))], []] := H8.on 2 rfl u8
    refine WL.op rfl (d_nilCheck rfl ?_)
    refine WL.op0 (d_storeB sz26 rfl rfl rfl (H9.blk 0 rfl) rfl fun w10 u9 => ?_)
    have H10 : UpG w [blk hg #[.slice hpa h.past.length hpc, .slice hna h.next.length hnc, .string h.now, .int .i64 h.most] 79, rowT tyS (.slice hpa h.past.length hpc) 9 h.past, rowT tyS (.slice hna h.next.length hnc) 9 h.next] w10 [[blk hg #[.slice a1 ((h.past ++ [h.now]).length) c1, .slice hna ((h.next.take (h.next.length - 1)).length) hnc, .string (h.next.getD (h.next.length - 1) .empty), .int .i64 h.most] 79], [rowT tyS (.slice a1 ((h.past ++ [h.now]).length) c1) 9 (h.past ++ [h.now])], [rowT tyS (.slice hna ((h.next.take (h.next.length - 1)).length) hnc) 9 (h.next.take (h.next.length - 1))], []] := H9.on 0 rfl u9
    refine WL.done (X.then_code ?_)
    refine W.pick [7, 6, 0] (Γ' := [(7, .int .i64 0), (6, .string ⟨#[]⟩), (0, .pointer (some ⟨hg, 0, none⟩))]) rfl ?_
    refine W.seq ?_
    refine W.region ?_
    refine WL.op rfl (d_move rfl ?_)
    refine WL.op rfl (d_nilCheck rfl ?_)
    refine WL.op rfl (d_fieldAddrB fld79_2 rfl rfl ?_)
    refine WL.op rfl (d_loadB Try.underlying9 rfl rfl (H10.blk 0 rfl) rfl ?_)
    refine WL.op rfl (d_assign rfl ?_)
    refine WL.op rfl (d_assign rfl ?_)
    refine WL.done (X.then_code ?_)
    refine W.ret (X.ret2 rfl rfl rfl ?_)
    have e : redoH h = (⟨h.past ++ [h.now], h.next.take (h.next.length - 1), h.next.getD (h.next.length - 1) .empty, h.most⟩, h.next.getD (h.next.length - 1) .empty, 0) := by unfold redoH; rw [if_neg (by omega)]
    rw [e]
    exact ⟨a1, c1, hna, hnc, (by rfl), (Upd.sel H10 (l := [0, 1, 2]) rfl rfl)⟩

set_option maxRecDepth 20000 in
theorem undo_any (h : HistD) (hg : Nat) (hpa : Option Addr) (hpc : Nat) (hna : Option Addr) (hnc : Nat) (w : World) (hp : Hp w [blk hg #[.slice hpa h.past.length hpc, .slice hna h.next.length hnc, .string h.now, .int .i64 h.most] 79, rowT tyS (.slice hpa h.past.length hpc) 9 h.past, rowT tyS (.slice hna h.next.length hnc) 9 h.next]) (hl : h.past.length + h.next.length ≤ 1000000) :
    Calls Try.prog 17 #[.pointer (some ⟨hg, 0, none⟩)] w (Ret fun v w' => ∃ pa2 : Option Addr, ∃ pc2 : Nat, ∃ na2 : Option Addr, ∃ nc2 : Nat, v = .tuple #[.string ((undoH h).2.1), .int .i64 ((undoH h).2.2)] ∧ Upd w [blk hg #[.slice hpa h.past.length hpc, .slice hna h.next.length hnc, .string h.now, .int .i64 h.most] 79, rowT tyS (.slice hpa h.past.length hpc) 9 h.past, rowT tyS (.slice hna h.next.length hnc) 9 h.next] w' [blk hg #[.slice pa2 (((undoH h).1.past).length) pc2, .slice na2 (((undoH h).1.next).length) nc2, .string ((undoH h).1.now), .int .i64 ((undoH h).1.most)] 79, rowT tyS (.slice pa2 (((undoH h).1.past).length) pc2) 9 ((undoH h).1.past), rowT tyS (.slice na2 (((undoH h).1.next).length) nc2) 9 ((undoH h).1.next)]) := by
  refine calls_of_W (args := [.pointer (some ⟨hg, 0, none⟩)]) Try.func17 rfl rfl rfl ?_
  have H0 : UpG w [blk hg #[.slice hpa h.past.length hpc, .slice hna h.next.length hnc, .string h.now, .int .i64 h.most] 79, rowT tyS (.slice hpa h.past.length hpc) 9 h.past, rowT tyS (.slice hna h.next.length hnc) 9 h.next] w [[blk hg #[.slice hpa h.past.length hpc, .slice hna h.next.length hnc, .string h.now, .int .i64 h.most] 79], [rowT tyS (.slice hpa h.past.length hpc) 9 h.past], [rowT tyS (.slice hna h.next.length hnc) 9 h.next]] := (UpG.refl hp).re rfl
  show W _ _ _ _ [(0, .pointer (some ⟨hg, 0, none⟩))] w
  refine W.seq ?_
  refine W.region ?_
  refine WL.op rfl (d_assign rfl ?_)
  refine WL.op rfl (d_assign rfl ?_)
  refine WL.done (X.then_code ?_)
  refine W.seq ?_
  refine W.region ?_
  refine WL.op rfl (d_move rfl ?_)
  have H1 : UpG w [blk hg #[.slice hpa h.past.length hpc, .slice hna h.next.length hnc, .string h.now, .int .i64 h.most] 79, rowT tyS (.slice hpa h.past.length hpc) 9 h.past, rowT tyS (.slice hna h.next.length hnc) 9 h.next] w [[blk hg #[.slice hpa h.past.length hpc, .slice hna h.next.length hnc, .string h.now, .int .i64 h.most] 79, rowT tyS (.slice hpa h.past.length hpc) 9 h.past, rowT tyS (.slice hna h.next.length hnc) 9 h.next]] := UpG.of (Upd.sel H0 (l := [0, 1, 2]) rfl rfl) rfl
  refine WL.op rfl (d_call ok47 rfl (Ret.calls (travelU_any h hg hpa hpc hna hnc w (H1.hpOf 0 rfl)  (by omega)) fun _ w1 p1 => ?_))
  obtain ⟨pa2_1, pc2_1, na2_1, nc2_1, rfl, u1⟩ := p1
  have H2 : UpG w [blk hg #[.slice hpa h.past.length hpc, .slice hna h.next.length hnc, .string h.now, .int .i64 h.most] 79, rowT tyS (.slice hpa h.past.length hpc) 9 h.past, rowT tyS (.slice hna h.next.length hnc) 9 h.next] w1 [[blk hg #[.slice pa2_1 (((undoH h).1.past).length) pc2_1, .slice na2_1 (((undoH h).1.next).length) nc2_1, .string ((undoH h).1.now), .int .i64 ((undoH h).1.most)] 79, rowT tyS (.slice pa2_1 (((undoH h).1.past).length) pc2_1) 9 ((undoH h).1.past), rowT tyS (.slice na2_1 (((undoH h).1.next).length) nc2_1) 9 ((undoH h).1.next)]] := H1.on 0 rfl u1
  refine WL.op rfl (d_extract rfl rfl ?_)
  refine WL.op rfl (d_extract rfl rfl ?_)
  refine WL.op rfl (d_assign rfl ?_)
  refine WL.op rfl (d_assign rfl ?_)
  refine WL.done (X.then_code ?_)
  refine W.ret (X.ret2 rfl rfl rfl ?_)
  exact ⟨pa2_1, pc2_1, na2_1, nc2_1, rfl, (Upd.sel H2 (l := [0, 1, 2]) rfl rfl)⟩

set_option maxRecDepth 20000 in
theorem redo_any (h : HistD) (hg : Nat) (hpa : Option Addr) (hpc : Nat) (hna : Option Addr) (hnc : Nat) (w : World) (hp : Hp w [blk hg #[.slice hpa h.past.length hpc, .slice hna h.next.length hnc, .string h.now, .int .i64 h.most] 79, rowT tyS (.slice hpa h.past.length hpc) 9 h.past, rowT tyS (.slice hna h.next.length hnc) 9 h.next]) (hl : h.past.length + h.next.length ≤ 1000000) :
    Calls Try.prog 20 #[.pointer (some ⟨hg, 0, none⟩)] w (Ret fun v w' => ∃ pa2 : Option Addr, ∃ pc2 : Nat, ∃ na2 : Option Addr, ∃ nc2 : Nat, v = .tuple #[.string ((redoH h).2.1), .int .i64 ((redoH h).2.2)] ∧ Upd w [blk hg #[.slice hpa h.past.length hpc, .slice hna h.next.length hnc, .string h.now, .int .i64 h.most] 79, rowT tyS (.slice hpa h.past.length hpc) 9 h.past, rowT tyS (.slice hna h.next.length hnc) 9 h.next] w' [blk hg #[.slice pa2 (((redoH h).1.past).length) pc2, .slice na2 (((redoH h).1.next).length) nc2, .string ((redoH h).1.now), .int .i64 ((redoH h).1.most)] 79, rowT tyS (.slice pa2 (((redoH h).1.past).length) pc2) 9 ((redoH h).1.past), rowT tyS (.slice na2 (((redoH h).1.next).length) nc2) 9 ((redoH h).1.next)]) := by
  refine calls_of_W (args := [.pointer (some ⟨hg, 0, none⟩)]) Try.func20 rfl rfl rfl ?_
  have H0 : UpG w [blk hg #[.slice hpa h.past.length hpc, .slice hna h.next.length hnc, .string h.now, .int .i64 h.most] 79, rowT tyS (.slice hpa h.past.length hpc) 9 h.past, rowT tyS (.slice hna h.next.length hnc) 9 h.next] w [[blk hg #[.slice hpa h.past.length hpc, .slice hna h.next.length hnc, .string h.now, .int .i64 h.most] 79], [rowT tyS (.slice hpa h.past.length hpc) 9 h.past], [rowT tyS (.slice hna h.next.length hnc) 9 h.next]] := (UpG.refl hp).re rfl
  show W _ _ _ _ [(0, .pointer (some ⟨hg, 0, none⟩))] w
  refine W.seq ?_
  refine W.region ?_
  refine WL.op rfl (d_assign rfl ?_)
  refine WL.op rfl (d_assign rfl ?_)
  refine WL.done (X.then_code ?_)
  refine W.seq ?_
  refine W.region ?_
  refine WL.op rfl (d_move rfl ?_)
  have H1 : UpG w [blk hg #[.slice hpa h.past.length hpc, .slice hna h.next.length hnc, .string h.now, .int .i64 h.most] 79, rowT tyS (.slice hpa h.past.length hpc) 9 h.past, rowT tyS (.slice hna h.next.length hnc) 9 h.next] w [[blk hg #[.slice hpa h.past.length hpc, .slice hna h.next.length hnc, .string h.now, .int .i64 h.most] 79, rowT tyS (.slice hpa h.past.length hpc) 9 h.past, rowT tyS (.slice hna h.next.length hnc) 9 h.next]] := UpG.of (Upd.sel H0 (l := [0, 1, 2]) rfl rfl) rfl
  refine WL.op rfl (d_call ok47 rfl (Ret.calls (travelR_any h hg hpa hpc hna hnc w (H1.hpOf 0 rfl)  (by omega)) fun _ w1 p1 => ?_))
  obtain ⟨pa2_1, pc2_1, na2_1, nc2_1, rfl, u1⟩ := p1
  have H2 : UpG w [blk hg #[.slice hpa h.past.length hpc, .slice hna h.next.length hnc, .string h.now, .int .i64 h.most] 79, rowT tyS (.slice hpa h.past.length hpc) 9 h.past, rowT tyS (.slice hna h.next.length hnc) 9 h.next] w1 [[blk hg #[.slice pa2_1 (((redoH h).1.past).length) pc2_1, .slice na2_1 (((redoH h).1.next).length) nc2_1, .string ((redoH h).1.now), .int .i64 ((redoH h).1.most)] 79, rowT tyS (.slice pa2_1 (((redoH h).1.past).length) pc2_1) 9 ((redoH h).1.past), rowT tyS (.slice na2_1 (((redoH h).1.next).length) nc2_1) 9 ((redoH h).1.next)]] := H1.on 0 rfl u1
  refine WL.op rfl (d_extract rfl rfl ?_)
  refine WL.op rfl (d_extract rfl rfl ?_)
  refine WL.op rfl (d_assign rfl ?_)
  refine WL.op rfl (d_assign rfl ?_)
  refine WL.done (X.then_code ?_)
  refine W.ret (X.ret2 rfl rfl rfl ?_)
  exact ⟨pa2_1, pc2_1, na2_1, nc2_1, rfl, (Upd.sel H2 (l := [0, 1, 2]) rfl rfl)⟩
end Go.Proofs.Ytkdcmklkggnblaa
