/- The walks of functions, printed by wip/tools/gw.py. -/
import Derived.Test.YtkdcmklkggnblaaF1
import Derived.Test.YtkdcmklkggnblaaSx7
import Derived.Test.YtkdcmklkggnblaaT2
namespace Go.Proofs.Ytkdcmklkggnblaa
open Go Go.Sx
set_option linter.unusedVariables false
set_option linter.unusedSimpArgs false
set_option maxRecDepth 20000 in
theorem nowN_any  (w : World) :
    Calls Try.prog 16 #[.pointer none] w (Ret fun v w' => v = .string ⟨#[]⟩ ∧ Upd w [] w' []) := by
  refine calls_of_W (args := [.pointer none]) Try.func16 rfl rfl rfl ?_
  have H0 : UpG w [] w [] := UpG.nil w
  show W _ _ _ _ [(0, .pointer none)] w
  refine W.seq ?_
  refine W.region ?_
  refine WL.op rfl (d_assign rfl ?_)
  refine WL.done (X.then_code ?_)
  refine W.seq ?_
  refine W.seq ?_
  refine W.region ?_
  refine WL.op rfl (d_move rfl ?_)
  refine WL.op rfl (d_ptrnilT Try.underlying24 rfl ?_)
  refine WL.done (X.then_code ?_)
  refine W.ift rfl ?_
  refine W.seq ?_
  refine W.region ?_
  refine WL.op rfl (d_assign rfl ?_)
  refine WL.done (X.then_code ?_)
  refine W.seq ?_
  refine W.region ?_
  refine WL.op rfl (d_move rfl ?_)
  refine WL.op rfl (d_assign rfl ?_)
  refine WL.done (X.then_code ?_)
  refine W.ret (X.then_ret (X.ret1 rfl rfl ?_))
  exact ⟨rfl, H0.noneL⟩

set_option maxRecDepth 20000 in
theorem sizesN_any  (w : World) :
    Calls Try.prog 18 #[.pointer none] w (Ret fun v w' => v = .tuple #[.int .i64 0, .int .i64 0] ∧ Upd w [] w' []) := by
  refine calls_of_W (args := [.pointer none]) Try.func18 rfl rfl rfl ?_
  have H0 : UpG w [] w [] := UpG.nil w
  show W _ _ _ _ [(0, .pointer none)] w
  refine W.seq ?_
  refine W.region ?_
  refine WL.op rfl (d_assign rfl ?_)
  refine WL.op rfl (d_assign rfl ?_)
  refine WL.done (X.then_code ?_)
  refine W.seq ?_
  refine W.seq ?_
  refine W.region ?_
  refine WL.op rfl (d_move rfl ?_)
  refine WL.op rfl (d_ptrnilT Try.underlying24 rfl ?_)
  refine WL.done (X.then_code ?_)
  refine W.ift rfl ?_
  refine W.seq ?_
  refine W.region ?_
  refine WL.op rfl (d_assign rfl ?_)
  refine WL.op rfl (d_assign rfl ?_)
  refine WL.done (X.then_code ?_)
  refine W.ret (X.then_ret (X.ret2 rfl rfl rfl ?_))
  exact ⟨rfl, H0.noneL⟩

set_option maxRecDepth 20000 in
theorem allN_any  (w : World) :
    Calls Try.prog 15 #[.pointer none] w (Ret fun v w' => v = .slice none 0 0 ∧ Upd w [] w' []) := by
  refine calls_of_W (args := [.pointer none]) Try.func15 rfl rfl rfl ?_
  have H0 : UpG w [] w [] := UpG.nil w
  show W _ _ _ _ [(0, .pointer none)] w
  refine W.seq ?_
  refine W.region ?_
  refine WL.op rfl (d_assign rfl ?_)
  refine WL.done (X.then_code ?_)
  refine W.seq ?_
  refine W.seq ?_
  refine W.region ?_
  refine WL.op rfl (d_move rfl ?_)
  refine WL.op rfl (d_ptrnilT Try.underlying24 rfl ?_)
  refine WL.done (X.then_code ?_)
  refine W.ift rfl ?_
  refine W.seq ?_
  refine W.region ?_
  refine WL.op rfl (d_assign rfl ?_)
  refine WL.done (X.then_code ?_)
  refine W.ret (X.then_ret (X.ret1 rfl rfl ?_))
  exact ⟨rfl, H0.noneL⟩

set_option maxRecDepth 20000 in
theorem doN_any (x : ByteArray) (w : World) :
    Calls Try.prog 23 #[.pointer none, .string x] w (Ret fun v w' => v = .int .i64 7 ∧ Upd w [] w' []) := by
  refine calls_of_W (args := [.pointer none, .string x]) Try.func23 rfl rfl rfl ?_
  have H0 : UpG w [] w [] := UpG.nil w
  show W _ _ _ _ [(0, .pointer none), (1, .string x)] w
  refine W.seq ?_
  refine W.region ?_
  refine WL.op rfl (d_assign rfl ?_)
  refine WL.done (X.then_code ?_)
  refine W.seq ?_
  refine W.block ?_
  refine W.seq ?_
  refine W.region ?_
  refine WL.op rfl (d_move rfl ?_)
  refine WL.op rfl (d_ptrnilT Try.underlying24 rfl ?_)
  refine WL.op rfl (d_assign rfl ?_)
  refine WL.done (X.then_code ?_)
  refine W.ift rfl ?_
  refine W.seq ?_
  refine W.region ?_
  refine WL.op rfl (d_assign rfl ?_)
  refine WL.done (X.then_code ?_)
  refine W.ret (X.block_ret (X.then_ret (X.ret1 rfl rfl ?_)))
  exact ⟨rfl, H0.noneL⟩

set_option maxRecDepth 20000 in
theorem travelNU_any  (w : World) :
    Calls Try.prog 47 #[.pointer none, .func (.func 48) #[] #[], .func (.func 49) #[] #[]] w (Ret fun v w' => v = .tuple #[.string ⟨#[]⟩, .int .i64 8] ∧ Upd w [] w' []) := by
  refine calls_of_W (args := [.pointer none, .func (.func 48) #[] #[], .func (.func 49) #[] #[]]) Try.func47 rfl rfl rfl ?_
  have H0 : UpG w [] w [] := UpG.nil w
  show W _ _ _ _ [(0, .pointer none), (1, .func (.func 48) #[] #[]), (2, .func (.func 49) #[] #[])] w
  refine W.seq ?_
  refine W.region ?_
  refine WL.op rfl (d_assign rfl ?_)
  refine WL.op rfl (d_assign rfl ?_)
  refine WL.done (X.then_code ?_)
  refine W.seq ?_
  refine W.region ?_
  refine WL.op rfl (d_assign rfl ?_)
  refine WL.done (X.then_code ?_)
  refine W.seq ?_
  refine W.seq ?_
  refine W.region ?_
  refine WL.op rfl (d_move rfl ?_)
  refine WL.op rfl (d_ptrnilT Try.underlying24 rfl ?_)
  refine WL.op rfl (d_move rfl ?_)
  refine WL.opN rfl rfl rfl rfl ?_
  refine WL.opN rfl rfl rfl rfl ?_
  refine WL.opN rfl rfl rfl rfl ?_
  refine WL.opN rfl rfl rfl rfl ?_
  refine WL.opN rfl rfl rfl rfl ?_
  refine WL.opN rfl rfl rfl rfl ?_
  refine WL.opN rfl rfl rfl rfl ?_
  refine WL.op rfl (d_pick rfl rfl ?_)
  refine WL.done (X.then_code ?_)
  refine W.pick [22, 8, 7, 6, 0, 1, 2] (Γ' := [(22, .bool true), (8, .string ⟨#[]⟩), (7, .int .i64 0), (6, .string ⟨#[]⟩), (0, .pointer none), (1, .func (.func 48) #[] #[]), (2, .func (.func 49) #[] #[])]) rfl ?_
  refine W.ift rfl ?_
  refine W.seq ?_
  refine W.region ?_
  refine WL.op rfl (d_move rfl ?_)
  refine WL.op rfl (d_assign rfl ?_)
  refine WL.op rfl (d_assign rfl ?_)
  refine WL.done (X.then_code ?_)
  refine W.ret (X.then_ret (X.ret2 rfl rfl rfl ?_))
  exact ⟨rfl, H0.noneL⟩

set_option maxRecDepth 20000 in
theorem travelNR_any  (w : World) :
    Calls Try.prog 47 #[.pointer none, .func (.func 49) #[] #[], .func (.func 48) #[] #[]] w (Ret fun v w' => v = .tuple #[.string ⟨#[]⟩, .int .i64 8] ∧ Upd w [] w' []) := by
  refine calls_of_W (args := [.pointer none, .func (.func 49) #[] #[], .func (.func 48) #[] #[]]) Try.func47 rfl rfl rfl ?_
  have H0 : UpG w [] w [] := UpG.nil w
  show W _ _ _ _ [(0, .pointer none), (1, .func (.func 49) #[] #[]), (2, .func (.func 48) #[] #[])] w
  refine W.seq ?_
  refine W.region ?_
  refine WL.op rfl (d_assign rfl ?_)
  refine WL.op rfl (d_assign rfl ?_)
  refine WL.done (X.then_code ?_)
  refine W.seq ?_
  refine W.region ?_
  refine WL.op rfl (d_assign rfl ?_)
  refine WL.done (X.then_code ?_)
  refine W.seq ?_
  refine W.seq ?_
  refine W.region ?_
  refine WL.op rfl (d_move rfl ?_)
  refine WL.op rfl (d_ptrnilT Try.underlying24 rfl ?_)
  refine WL.op rfl (d_move rfl ?_)
  refine WL.opN rfl rfl rfl rfl ?_
  refine WL.opN rfl rfl rfl rfl ?_
  refine WL.opN rfl rfl rfl rfl ?_
  refine WL.opN rfl rfl rfl rfl ?_
  refine WL.opN rfl rfl rfl rfl ?_
  refine WL.opN rfl rfl rfl rfl ?_
  refine WL.opN rfl rfl rfl rfl ?_
  refine WL.op rfl (d_pick rfl rfl ?_)
  refine WL.done (X.then_code ?_)
  refine W.pick [22, 8, 7, 6, 0, 1, 2] (Γ' := [(22, .bool true), (8, .string ⟨#[]⟩), (7, .int .i64 0), (6, .string ⟨#[]⟩), (0, .pointer none), (1, .func (.func 49) #[] #[]), (2, .func (.func 48) #[] #[])]) rfl ?_
  refine W.ift rfl ?_
  refine W.seq ?_
  refine W.region ?_
  refine WL.op rfl (d_move rfl ?_)
  refine WL.op rfl (d_assign rfl ?_)
  refine WL.op rfl (d_assign rfl ?_)
  refine WL.done (X.then_code ?_)
  refine W.ret (X.then_ret (X.ret2 rfl rfl rfl ?_))
  exact ⟨rfl, H0.noneL⟩

set_option maxRecDepth 20000 in
theorem undoN_any  (w : World) :
    Calls Try.prog 17 #[.pointer none] w (Ret fun v w' => v = .tuple #[.string ⟨#[]⟩, .int .i64 8] ∧ Upd w [] w' []) := by
  refine calls_of_W (args := [.pointer none]) Try.func17 rfl rfl rfl ?_
  have H0 : UpG w [] w [] := UpG.nil w
  show W _ _ _ _ [(0, .pointer none)] w
  refine W.seq ?_
  refine W.region ?_
  refine WL.op rfl (d_assign rfl ?_)
  refine WL.op rfl (d_assign rfl ?_)
  refine WL.done (X.then_code ?_)
  refine W.seq ?_
  refine W.region ?_
  refine WL.op rfl (d_move rfl ?_)
  refine WL.op rfl (d_call ok47 rfl (Ret.calls (travelNU_any  w  ) fun _ w1 p1 => ?_))
  obtain ⟨rfl, u1⟩ := p1
  have H1 : UpG w [] w1 [] := H0.call u1
  refine WL.op rfl (d_extract rfl rfl ?_)
  refine WL.op rfl (d_extract rfl rfl ?_)
  refine WL.op rfl (d_assign rfl ?_)
  refine WL.op rfl (d_assign rfl ?_)
  refine WL.done (X.then_code ?_)
  refine W.ret (X.ret2 rfl rfl rfl ?_)
  exact ⟨rfl, H1.noneL⟩

set_option maxRecDepth 20000 in
theorem redoN_any  (w : World) :
    Calls Try.prog 20 #[.pointer none] w (Ret fun v w' => v = .tuple #[.string ⟨#[]⟩, .int .i64 8] ∧ Upd w [] w' []) := by
  refine calls_of_W (args := [.pointer none]) Try.func20 rfl rfl rfl ?_
  have H0 : UpG w [] w [] := UpG.nil w
  show W _ _ _ _ [(0, .pointer none)] w
  refine W.seq ?_
  refine W.region ?_
  refine WL.op rfl (d_assign rfl ?_)
  refine WL.op rfl (d_assign rfl ?_)
  refine WL.done (X.then_code ?_)
  refine W.seq ?_
  refine W.region ?_
  refine WL.op rfl (d_move rfl ?_)
  refine WL.op rfl (d_call ok47 rfl (Ret.calls (travelNR_any  w  ) fun _ w1 p1 => ?_))
  obtain ⟨rfl, u1⟩ := p1
  have H1 : UpG w [] w1 [] := H0.call u1
  refine WL.op rfl (d_extract rfl rfl ?_)
  refine WL.op rfl (d_extract rfl rfl ?_)
  refine WL.op rfl (d_assign rfl ?_)
  refine WL.op rfl (d_assign rfl ?_)
  refine WL.done (X.then_code ?_)
  refine W.ret (X.ret2 rfl rfl rfl ?_)
  exact ⟨rfl, H1.noneL⟩

set_option maxRecDepth 20000 in
theorem clone_any (sa : Option Addr) (s : List ByteArray) (sc : Nat) (w : World) (rs : RdT tyS w (.slice sa s.length sc) s) (hl : s.length ≤ 1000000) :
    Calls Try.prog 46 #[.slice sa s.length sc] w (Ret fun v w' => ∃ a2 : Option Addr, ∃ c2 : Nat, v = .slice a2 s.length c2 ∧ Upd w [] w' [rowT tyS (.slice a2 s.length c2) 9 s]) := by
  have le_rs := rs.le
  refine calls_of_W (args := [.slice sa s.length sc]) Try.func46 rfl rfl rfl ?_
  have H0 : UpG w [] w [] := UpG.nil w
  show W _ _ _ _ [(0, .slice sa s.length sc)] w
  refine W.seq ?_
  refine W.region ?_
  refine WL.op rfl (d_assign rfl ?_)
  refine WL.done (X.then_code ?_)
  refine W.seq ?_
  refine W.seq ?_
  refine W.region ?_
  refine WL.op rfl (d_move rfl ?_)
  refine WL.op rfl (d_slcnil Try.underlying26 rfl ?_)
  refine WL.done (X.then_code ?_)
  refine W.ite (p := sa = none) rfl (fun c357 => ?_) (fun c357 => ?_)
  · skip
    refine W.seq ?_
    refine W.region ?_
    refine WL.op rfl (d_assign rfl ?_)
    refine WL.done (X.then_code ?_)
    refine W.ret (X.then_ret (X.ret1 rfl rfl ?_))
    have e : s = [] := rs.nilOf c357
    subst e
    exact ⟨none, 0, (by rfl), nilOwn H0⟩
  · skip
    refine W.skip (X.then_code ?_)
    refine W.seq ?_
    refine W.region ?_
    refine WL.op rfl (t_buildSlice0 (T := tyS) rfl Try.underlying26 sz9 fun w1 u1 => ?_)
    have H1 : UpG w [] w1 [[rowT tyS (.slice (some ⟨w.heap.size, 0, none⟩) (([] : List ByteArray).length) 0) 9 ([] : List ByteArray)]] := H0.new' u1
    refine WL.op rfl (d_move rfl ?_)
    refine WL.op rfl (t_append (T := tyS) (xs := ([] : List ByteArray)) (ys := s) rfl Try.underlying26 sz9 rfl rfl rfl (H1.ownT 0 rfl) (rs.at H1) (by simp; omega) (by simp; omega) fun a1 c1 w2 u2 => ?_)
    have H2 : UpG w [] w2 [[rowT tyS (.slice a1 ((([] : List ByteArray) ++ s).length) c1) 9 (([] : List ByteArray) ++ s)]] := H1.on 0 rfl u2
    refine WL.op rfl (d_assign rfl ?_)
    refine WL.done (X.then_code ?_)
    refine W.ret (X.ret1 rfl rfl ?_)
    exact ⟨a1, c1, (by rfl), (by have hh := H2.one 0 rfl; exact hh)⟩

set_option maxRecDepth 20000 in
theorem all_any (h : HistD) (hg : Nat) (hpa : Option Addr) (hpc : Nat) (hna : Option Addr) (hnc : Nat) (w : World) (hp : Hp w [blk hg #[.slice hpa h.past.length hpc, .slice hna h.next.length hnc, .string h.now, .int .i64 h.most] 79, rowT tyS (.slice hpa h.past.length hpc) 9 h.past, rowT tyS (.slice hna h.next.length hnc) 9 h.next]) (hl : h.past.length + h.next.length ≤ 100000) :
    Calls Try.prog 15 #[.pointer (some ⟨hg, 0, none⟩)] w (Ret fun v w' => ∃ a2 : Option Addr, ∃ c2 : Nat, v = .slice a2 ((allH h).length) c2 ∧ Upd w [blk hg #[.slice hpa h.past.length hpc, .slice hna h.next.length hnc, .string h.now, .int .i64 h.most] 79, rowT tyS (.slice hpa h.past.length hpc) 9 h.past, rowT tyS (.slice hna h.next.length hnc) 9 h.next] w' [blk hg #[.slice hpa h.past.length hpc, .slice hna h.next.length hnc, .string h.now, .int .i64 h.most] 79, rowT tyS (.slice hpa h.past.length hpc) 9 h.past, rowT tyS (.slice hna h.next.length hnc) 9 h.next, rowT tyS (.slice a2 ((allH h).length) c2) 9 (allH h)]) := by
  refine calls_of_W (args := [.pointer (some ⟨hg, 0, none⟩)]) Try.func15 rfl rfl rfl ?_
  have H0 : UpG w [blk hg #[.slice hpa h.past.length hpc, .slice hna h.next.length hnc, .string h.now, .int .i64 h.most] 79, rowT tyS (.slice hpa h.past.length hpc) 9 h.past, rowT tyS (.slice hna h.next.length hnc) 9 h.next] w [[blk hg #[.slice hpa h.past.length hpc, .slice hna h.next.length hnc, .string h.now, .int .i64 h.most] 79], [rowT tyS (.slice hpa h.past.length hpc) 9 h.past], [rowT tyS (.slice hna h.next.length hnc) 9 h.next]] := (UpG.refl hp).re rfl
  show W _ _ _ _ [(0, .pointer (some ⟨hg, 0, none⟩))] w
  refine W.seq ?_
  refine W.region ?_
  refine WL.op rfl (d_assign rfl ?_)
  refine WL.done (X.then_code ?_)
  refine W.seq ?_
  refine W.seq ?_
  refine W.region ?_
  refine WL.op rfl (d_move rfl ?_)
  refine WL.op rfl (d_ptrnilF Try.underlying24 rfl ?_)
  refine WL.done (X.then_code ?_)
  refine W.iff rfl ?_
  refine W.skip (X.then_code ?_)
  refine W.seq ?_
  refine W.regionD mixed (by kernel_rfl) fun hok1 w1 k1 => ?_
  have H1 : UpG w [blk hg #[.slice hpa h.past.length hpc, .slice hna h.next.length hnc, .string h.now, .int .i64 h.most] 79, rowT tyS (.slice hpa h.past.length hpc) 9 h.past, rowT tyS (.slice hna h.next.length hnc) 9 h.next] w1 [[blk hg #[.slice hpa h.past.length hpc, .slice hna h.next.length hnc, .string h.now, .int .i64 h.most] 79], [rowT tyS (.slice hpa h.past.length hpc) 9 h.past], [rowT tyS (.slice hna h.next.length hnc) 9 h.next]] := H0.kept k1
  refine WD.take hok1 0 (.pointer (some ⟨hg, 0, none⟩)) (fun _ => True) rfl rfl rfl rfl rfl trivial (.inl ⟨rfl, fun _ _ => d_move rfl ⟨rfl, rfl⟩⟩) ?_
  refine WD.take hok1 1 (.pointer (some ⟨hg, 0, none⟩)) (fun _ => True) rfl rfl rfl rfl rfl trivial (.inl ⟨rfl, fun _ _ => d_nilCheck rfl ⟨rfl, rfl⟩⟩) ?_
  refine WD.take hok1 2 (.pointer (some ⟨hg, 0, none⟩)) (fun _ => True) rfl rfl rfl rfl rfl trivial (.inl ⟨rfl, fun _ _ => d_fieldAddrB fld79_0 rfl rfl ⟨rfl, rfl⟩⟩) ?_
  refine WD.take hok1 3 (.slice hpa h.past.length hpc) (fun w' => w'.heap[hg]? = some (.cells #[.slice hpa h.past.length hpc, .slice hna h.next.length hnc, .string h.now, .int .i64 h.most] 79 (0, 0))) rfl rfl rfl rfl rfl (H1.blk 0 rfl) (.inl ⟨rfl, fun _ hC => d_loadB Try.underlying26 rfl rfl hC rfl ⟨rfl, rfl⟩⟩) ?_
  refine WD.take hok1 5 (.pointer (some ⟨hg, 0, none⟩)) (fun _ => True) rfl rfl rfl rfl rfl trivial (.inl ⟨rfl, fun _ _ => d_move rfl ⟨rfl, rfl⟩⟩) ?_
  refine WD.take hok1 6 (.pointer (some ⟨hg, 0, none⟩)) (fun _ => True) rfl rfl rfl rfl rfl trivial (.inl ⟨rfl, fun _ _ => d_nilCheck rfl ⟨rfl, rfl⟩⟩) ?_
  refine WD.take hok1 7 (.pointer (some ⟨hg, 2, none⟩)) (fun _ => True) rfl rfl rfl rfl rfl trivial (.inl ⟨rfl, fun _ _ => d_fieldAddrB fld79_2 rfl rfl ⟨rfl, rfl⟩⟩) ?_
  refine WD.take hok1 8 (.string h.now) (fun w' => w'.heap[hg]? = some (.cells #[.slice hpa h.past.length hpc, .slice hna h.next.length hnc, .string h.now, .int .i64 h.most] 79 (0, 0))) rfl rfl rfl rfl rfl (H1.blk 0 rfl) (.inl ⟨rfl, fun _ hC => d_loadB Try.underlying9 rfl rfl hC rfl ⟨rfl, rfl⟩⟩) ?_
  refine WD.louds hok1 [4, 9] rfl rfl (allOf2 ?_ ?_ )
  · skip
    refine ⟨_, [⟨8, .string h.now, (fun w' => w'.heap[hg]? = some (.cells #[.slice hpa h.past.length hpc, .slice hna h.next.length hnc, .string h.now, .int .i64 h.most] 79 (0, 0)))⟩, ⟨7, .pointer (some ⟨hg, 2, none⟩), (fun _ => True)⟩, ⟨6, .pointer (some ⟨hg, 0, none⟩), (fun _ => True)⟩, ⟨5, .pointer (some ⟨hg, 0, none⟩), (fun _ => True)⟩], rfl, rfl, rfl, rfl, rfl, rfl, d_call ok46 rfl (Ret.calls (clone_any hpa h.past hpc w1 (H1.rdT 1 rfl) (by omega)) fun _ w2 p1 => ?_)⟩
    obtain ⟨a2_1, c2_1, rfl, u1⟩ := p1
    have H2 : UpG w [blk hg #[.slice hpa h.past.length hpc, .slice hna h.next.length hnc, .string h.now, .int .i64 h.most] 79, rowT tyS (.slice hpa h.past.length hpc) 9 h.past, rowT tyS (.slice hna h.next.length hnc) 9 h.next] w2 [[blk hg #[.slice hpa h.past.length hpc, .slice hna h.next.length hnc, .string h.now, .int .i64 h.most] 79], [rowT tyS (.slice hpa h.past.length hpc) 9 h.past], [rowT tyS (.slice hna h.next.length hnc) 9 h.next], [rowT tyS (.slice a2_1 h.past.length c2_1) 9 h.past]] := (H1.new' u1).re rfl
    refine ⟨⟨(H2.blk 0 rfl), trivial, trivial, trivial, trivial⟩, ?_⟩
    refine WD.loud hok1 9 rfl (⟨_, [], rfl, rfl, rfl, rfl, rfl, rfl, t_buildSlice (T := tyS) (xs := [h.now]) (cs := #[.string h.now]) rfl Try.underlying26 sz9 rfl rfl rfl rfl (by kernel_rfl) rfl rfl fun w3 u2 => ?_⟩)
    have H3 : UpG w [blk hg #[.slice hpa h.past.length hpc, .slice hna h.next.length hnc, .string h.now, .int .i64 h.most] 79, rowT tyS (.slice hpa h.past.length hpc) 9 h.past, rowT tyS (.slice hna h.next.length hnc) 9 h.next] w3 [[blk hg #[.slice hpa h.past.length hpc, .slice hna h.next.length hnc, .string h.now, .int .i64 h.most] 79], [rowT tyS (.slice hpa h.past.length hpc) 9 h.past], [rowT tyS (.slice hna h.next.length hnc) 9 h.next], [rowT tyS (.slice a2_1 h.past.length c2_1) 9 h.past], [rowT tyS (.slice (some ⟨w2.heap.size, 0, none⟩) ([h.now].length) ([h.now].length)) 9 [h.now]]] := H2.new' u2
    refine ⟨trivial, ?_⟩
    refine WD.loud hok1 10 rfl (⟨_, [], rfl, rfl, rfl, rfl, rfl, rfl, t_append (T := tyS) (xs := h.past) (ys := [h.now]) rfl Try.underlying26 sz9 rfl rfl rfl (H3.ownT 3 rfl) (H3.rdT 4 rfl) (by simp; omega) (by simp; omega) fun a1 c1 w4 u3 => ?_⟩)
    have H4 : UpG w [blk hg #[.slice hpa h.past.length hpc, .slice hna h.next.length hnc, .string h.now, .int .i64 h.most] 79, rowT tyS (.slice hpa h.past.length hpc) 9 h.past, rowT tyS (.slice hna h.next.length hnc) 9 h.next] w4 [[blk hg #[.slice hpa h.past.length hpc, .slice hna h.next.length hnc, .string h.now, .int .i64 h.most] 79], [rowT tyS (.slice hpa h.past.length hpc) 9 h.past], [rowT tyS (.slice hna h.next.length hnc) 9 h.next], [rowT tyS (.slice a1 ((h.past ++ [h.now]).length) c1) 9 (h.past ++ [h.now])], []] := (H3.on 3 rfl u3).drop 4
    refine ⟨trivial, ?_⟩
    refine WD.take hok1 11 (.slice a1 ((h.past ++ [h.now]).length) c1) (fun _ => True) rfl rfl rfl rfl rfl trivial (.inl ⟨rfl, fun _ _ => d_assign rfl ⟨rfl, rfl⟩⟩) ?_
    refine WD.done hok1 rfl (X.then_code ?_)
    refine W.seq ?_
    refine W.seq ?_
    refine W.region ?_
    refine WL.op rfl (d_move rfl ?_)
    refine WL.op rfl (d_nilCheck rfl ?_)
    refine WL.op rfl (d_fieldAddrB fld79_1 rfl rfl ?_)
    refine WL.op rfl (d_loadB Try.underlying26 rfl rfl (H4.blk 0 rfl) rfl ?_)
    refine WL.op rfl (d_lenS Try.underlying26 rfl ?_)
    refine WL.op rfl (d_sub rfl rfl (by omega) (by omega) ?_)
    refine WL.op rfl (d_assign rfl ?_)
    refine WL.done (X.then_code ?_)
    refine W.pick [4, 3, 2, 0] (Γ' := [(4, .int .i64 (((h.next.length : Nat) : Int) - 1)), (3, .slice a1 ((h.past ++ [h.now]).length) c1), (2, .slice none 0 0), (0, .pointer (some ⟨hg, 0, none⟩))]) rfl ?_
    refine W.block ?_
    refine W.pick [4, 3, 2, 0] (Γ' := [(4, .int .i64 (((h.next.length : Nat) : Int) - 1)), (3, .slice a1 ((h.past ++ [h.now]).length) c1), (2, .slice none 0 0), (0, .pointer (some ⟨hg, 0, none⟩))]) rfl ?_
    have ew := allTo_start h
    rw [← ew]
    rw [← ew] at H4
    refine W.loop (fun m Γ' w' => ∃ i : Int, ∃ a : Option Addr, ∃ c : Nat, Γ' = [(4, .int .i64 i), (3, .slice a ((allTo h i).length) c), (2, .slice none 0 0), (0, .pointer (some ⟨hg, 0, none⟩))] ∧ UpG w [blk hg #[.slice hpa h.past.length hpc, .slice hna h.next.length hnc, .string h.now, .int .i64 h.most] 79, rowT tyS (.slice hpa h.past.length hpc) 9 h.past, rowT tyS (.slice hna h.next.length hnc) 9 h.next] w' [[blk hg #[.slice hpa h.past.length hpc, .slice hna h.next.length hnc, .string h.now, .int .i64 h.most] 79], [rowT tyS (.slice hpa h.past.length hpc) 9 h.past], [rowT tyS (.slice hna h.next.length hnc) 9 h.next], [rowT tyS (.slice a ((allTo h i).length) c) 9 (allTo h i)], []] ∧ (-1 ≤ i ∧ i < (h.next.length : Int)) ∧ m = (i + 1).toNat) (((((h.next.length : Nat) : Int) - 1) + 1).toNat) ⟨((h.next.length : Nat) : Int) - 1, a1, c1, rfl, (H4.re rfl), (by omega), rfl⟩ ?_
    rintro m1 Γ1 w5 ⟨i, a, c, rfl, H5, hi, rfl⟩
    refine W.seq ?_
    refine W.seq ?_
    refine W.region ?_
    refine WL.op rfl (d_move rfl ?_)
    refine WL.op rfl (d_cmp (decide (i ≥ (0 : Int))) rfl rfl rfl ?_)
    refine WL.done (X.then_code ?_)
    refine W.ite (p := i ≥ (0 : Int)) rfl (fun c87 => ?_) (fun c87 => ?_)
    · skip
      refine W.skip (X.then_code ?_)
      refine W.seq ?_
      refine W.block ?_
      refine W.region ?_
      refine WL.op rfl (d_move rfl ?_)
      refine WL.op rfl (d_move rfl ?_)
      refine WL.op rfl (d_nilCheck rfl ?_)
      refine WL.op rfl (d_fieldAddrB fld79_1 rfl rfl ?_)
      refine WL.op rfl (d_loadB Try.underlying26 rfl rfl (H5.blk 0 rfl) rfl ?_)
      refine WL.op rfl (d_move rfl ?_)
      refine WL.op rfl (t_addr1 i.toNat (T := tyS) rfl Try.underlying26 sz9 rfl rfl (H5.rdT 2 rfl) (by omega) (by omega) ?_)
      refine WL.op rfl (t_load1 i.toNat .empty (T := tyS) rfl Try.underlying9 rfl rfl (H5.rdT 2 rfl) (by omega) rfl ?_)
      refine WL.op rfl (t_buildSlice (T := tyS) (xs := [h.next.getD i.toNat .empty]) (cs := #[.string (h.next.getD i.toNat .empty)]) rfl Try.underlying26 sz9 rfl rfl rfl rfl (by kernel_rfl) rfl rfl fun w6 u4 => ?_)
      have H6 : UpG w [blk hg #[.slice hpa h.past.length hpc, .slice hna h.next.length hnc, .string h.now, .int .i64 h.most] 79, rowT tyS (.slice hpa h.past.length hpc) 9 h.past, rowT tyS (.slice hna h.next.length hnc) 9 h.next] w6 [[blk hg #[.slice hpa h.past.length hpc, .slice hna h.next.length hnc, .string h.now, .int .i64 h.most] 79], [rowT tyS (.slice hpa h.past.length hpc) 9 h.past], [rowT tyS (.slice hna h.next.length hnc) 9 h.next], [rowT tyS (.slice a ((allTo h i).length) c) 9 (allTo h i)], [], [rowT tyS (.slice (some ⟨w5.heap.size, 0, none⟩) ([h.next.getD i.toNat .empty].length) ([h.next.getD i.toNat .empty].length)) 9 [h.next.getD i.toNat .empty]]] := H5.new' u4
      refine WL.op rfl (t_append (T := tyS) (xs := (allTo h i)) (ys := [h.next.getD i.toNat .empty]) rfl Try.underlying26 sz9 rfl rfl rfl (H6.ownT 3 rfl) (H6.rdT 5 rfl) (by simp [allTo]; omega) (by simp [allTo]; omega) fun a2 c2 w7 u5 => ?_)
      have H7 : UpG w [blk hg #[.slice hpa h.past.length hpc, .slice hna h.next.length hnc, .string h.now, .int .i64 h.most] 79, rowT tyS (.slice hpa h.past.length hpc) 9 h.past, rowT tyS (.slice hna h.next.length hnc) 9 h.next] w7 [[blk hg #[.slice hpa h.past.length hpc, .slice hna h.next.length hnc, .string h.now, .int .i64 h.most] 79], [rowT tyS (.slice hpa h.past.length hpc) 9 h.past], [rowT tyS (.slice hna h.next.length hnc) 9 h.next], [rowT tyS (.slice a2 (((allTo h i) ++ [h.next.getD i.toNat .empty]).length) c2) 9 ((allTo h i) ++ [h.next.getD i.toNat .empty])], [], []] := (H6.on 3 rfl u5).drop 5
      refine WL.op rfl (d_assign rfl ?_)
      refine WL.done (X.block_normal (X.then_code ?_))
      refine W.region ?_
      refine WL.op rfl (d_move rfl ?_)
      refine WL.op rfl (d_sub rfl rfl (by omega) (by omega) ?_)
      refine WL.op rfl (d_assign rfl ?_)
      refine WL.done ?_
      have es := allTo_step h i (by omega) (by omega)
      rw [es]
      rw [es] at H7
      exact X.next [4, 3, 2, 0] (Γ' := [(4, .int .i64 (i - 1)), (3, .slice a2 ((allTo h (i - 1)).length) c2), (2, .slice none 0 0), (0, .pointer (some ⟨hg, 0, none⟩))]) rfl (((i - 1) + 1).toNat) (by omega) ⟨i - 1, a2, c2, rfl, (H7.re rfl), (by omega), rfl⟩
    · skip
      refine W.exit (X.then_exit (X.then_exit (X.block_exit (X.then_code ?_))))
      refine W.seq ?_
      refine W.region ?_
      refine WL.op rfl (d_move rfl ?_)
      refine WL.op rfl (d_assign rfl ?_)
      refine WL.done (X.then_code ?_)
      refine W.ret (X.ret1 rfl rfl ?_)
      have e := allTo_end h i hi.1 c87
      rw [← e]
      exact ⟨a, c, (by rfl), (Upd.sel H5 (l := [0, 1, 2, 3]) rfl rfl)⟩
  · skip
    refine ⟨_, [⟨3, .slice hpa h.past.length hpc, (fun w' => w'.heap[hg]? = some (.cells #[.slice hpa h.past.length hpc, .slice hna h.next.length hnc, .string h.now, .int .i64 h.most] 79 (0, 0)))⟩, ⟨2, .pointer (some ⟨hg, 0, none⟩), (fun _ => True)⟩, ⟨1, .pointer (some ⟨hg, 0, none⟩), (fun _ => True)⟩, ⟨0, .pointer (some ⟨hg, 0, none⟩), (fun _ => True)⟩], rfl, rfl, rfl, rfl, rfl, rfl, t_buildSlice (T := tyS) (xs := [h.now]) (cs := #[.string h.now]) rfl Try.underlying26 sz9 rfl rfl rfl rfl (by kernel_rfl) rfl rfl fun w8 u6 => ?_⟩
    have H8 : UpG w [blk hg #[.slice hpa h.past.length hpc, .slice hna h.next.length hnc, .string h.now, .int .i64 h.most] 79, rowT tyS (.slice hpa h.past.length hpc) 9 h.past, rowT tyS (.slice hna h.next.length hnc) 9 h.next] w8 [[blk hg #[.slice hpa h.past.length hpc, .slice hna h.next.length hnc, .string h.now, .int .i64 h.most] 79], [rowT tyS (.slice hpa h.past.length hpc) 9 h.past], [rowT tyS (.slice hna h.next.length hnc) 9 h.next], [rowT tyS (.slice (some ⟨w1.heap.size, 0, none⟩) ([h.now].length) ([h.now].length)) 9 [h.now]]] := H1.new' u6
    refine ⟨⟨(H8.blk 0 rfl), trivial, trivial, trivial, trivial⟩, ?_⟩
    refine WD.loud hok1 4 rfl (⟨_, [], rfl, rfl, rfl, rfl, rfl, rfl, d_call ok46 rfl (Ret.calls (clone_any hpa h.past hpc w8 (H8.rdT 1 rfl) (by omega)) fun _ w9 p2 => ?_)⟩)
    obtain ⟨a2_2, c2_2, rfl, u7⟩ := p2
    have H9 : UpG w [blk hg #[.slice hpa h.past.length hpc, .slice hna h.next.length hnc, .string h.now, .int .i64 h.most] 79, rowT tyS (.slice hpa h.past.length hpc) 9 h.past, rowT tyS (.slice hna h.next.length hnc) 9 h.next] w9 [[blk hg #[.slice hpa h.past.length hpc, .slice hna h.next.length hnc, .string h.now, .int .i64 h.most] 79], [rowT tyS (.slice hpa h.past.length hpc) 9 h.past], [rowT tyS (.slice hna h.next.length hnc) 9 h.next], [rowT tyS (.slice (some ⟨w1.heap.size, 0, none⟩) ([h.now].length) ([h.now].length)) 9 [h.now]], [rowT tyS (.slice a2_2 h.past.length c2_2) 9 h.past]] := (H8.new' u7).re rfl
    refine ⟨trivial, ?_⟩
    refine WD.loud hok1 10 rfl (⟨_, [], rfl, rfl, rfl, rfl, rfl, rfl, t_append (T := tyS) (xs := h.past) (ys := [h.now]) rfl Try.underlying26 sz9 rfl rfl rfl (H9.ownT 4 rfl) (H9.rdT 3 rfl) (by simp; omega) (by simp; omega) fun a3 c3 w10 u8 => ?_⟩)
    have H10 : UpG w [blk hg #[.slice hpa h.past.length hpc, .slice hna h.next.length hnc, .string h.now, .int .i64 h.most] 79, rowT tyS (.slice hpa h.past.length hpc) 9 h.past, rowT tyS (.slice hna h.next.length hnc) 9 h.next] w10 [[blk hg #[.slice hpa h.past.length hpc, .slice hna h.next.length hnc, .string h.now, .int .i64 h.most] 79], [rowT tyS (.slice hpa h.past.length hpc) 9 h.past], [rowT tyS (.slice hna h.next.length hnc) 9 h.next], [], [rowT tyS (.slice a3 ((h.past ++ [h.now]).length) c3) 9 (h.past ++ [h.now])]] := (H9.on 4 rfl u8).drop 3
    refine ⟨trivial, ?_⟩
    refine WD.take hok1 11 (.slice a3 ((h.past ++ [h.now]).length) c3) (fun _ => True) rfl rfl rfl rfl rfl trivial (.inl ⟨rfl, fun _ _ => d_assign rfl ⟨rfl, rfl⟩⟩) ?_
    refine WD.done hok1 rfl (X.then_code ?_)
    refine W.seq ?_
    refine W.seq ?_
    refine W.region ?_
    refine WL.op rfl (d_move rfl ?_)
    refine WL.op rfl (d_nilCheck rfl ?_)
    refine WL.op rfl (d_fieldAddrB fld79_1 rfl rfl ?_)
    refine WL.op rfl (d_loadB Try.underlying26 rfl rfl (H10.blk 0 rfl) rfl ?_)
    refine WL.op rfl (d_lenS Try.underlying26 rfl ?_)
    refine WL.op rfl (d_sub rfl rfl (by omega) (by omega) ?_)
    refine WL.op rfl (d_assign rfl ?_)
    refine WL.done (X.then_code ?_)
    refine W.pick [4, 3, 2, 0] (Γ' := [(4, .int .i64 (((h.next.length : Nat) : Int) - 1)), (3, .slice a3 ((h.past ++ [h.now]).length) c3), (2, .slice none 0 0), (0, .pointer (some ⟨hg, 0, none⟩))]) rfl ?_
    refine W.block ?_
    refine W.pick [4, 3, 2, 0] (Γ' := [(4, .int .i64 (((h.next.length : Nat) : Int) - 1)), (3, .slice a3 ((h.past ++ [h.now]).length) c3), (2, .slice none 0 0), (0, .pointer (some ⟨hg, 0, none⟩))]) rfl ?_
    have ew := allTo_start h
    rw [← ew]
    rw [← ew] at H10
    refine W.loop (fun m Γ' w' => ∃ i : Int, ∃ a : Option Addr, ∃ c : Nat, Γ' = [(4, .int .i64 i), (3, .slice a ((allTo h i).length) c), (2, .slice none 0 0), (0, .pointer (some ⟨hg, 0, none⟩))] ∧ UpG w [blk hg #[.slice hpa h.past.length hpc, .slice hna h.next.length hnc, .string h.now, .int .i64 h.most] 79, rowT tyS (.slice hpa h.past.length hpc) 9 h.past, rowT tyS (.slice hna h.next.length hnc) 9 h.next] w' [[blk hg #[.slice hpa h.past.length hpc, .slice hna h.next.length hnc, .string h.now, .int .i64 h.most] 79], [rowT tyS (.slice hpa h.past.length hpc) 9 h.past], [rowT tyS (.slice hna h.next.length hnc) 9 h.next], [], [rowT tyS (.slice a ((allTo h i).length) c) 9 (allTo h i)]] ∧ (-1 ≤ i ∧ i < (h.next.length : Int)) ∧ m = (i + 1).toNat) (((((h.next.length : Nat) : Int) - 1) + 1).toNat) ⟨((h.next.length : Nat) : Int) - 1, a3, c3, rfl, (H10.re rfl), (by omega), rfl⟩ ?_
    rintro m2 Γ2 w11 ⟨i_1, a_1, c_1, rfl, H11, hi, rfl⟩
    refine W.seq ?_
    refine W.seq ?_
    refine W.region ?_
    refine WL.op rfl (d_move rfl ?_)
    refine WL.op rfl (d_cmp (decide (i_1 ≥ (0 : Int))) rfl rfl rfl ?_)
    refine WL.done (X.then_code ?_)
    refine W.ite (p := i_1 ≥ (0 : Int)) rfl (fun c87 => ?_) (fun c87 => ?_)
    · skip
      refine W.skip (X.then_code ?_)
      refine W.seq ?_
      refine W.block ?_
      refine W.region ?_
      refine WL.op rfl (d_move rfl ?_)
      refine WL.op rfl (d_move rfl ?_)
      refine WL.op rfl (d_nilCheck rfl ?_)
      refine WL.op rfl (d_fieldAddrB fld79_1 rfl rfl ?_)
      refine WL.op rfl (d_loadB Try.underlying26 rfl rfl (H11.blk 0 rfl) rfl ?_)
      refine WL.op rfl (d_move rfl ?_)
      refine WL.op rfl (t_addr1 i_1.toNat (T := tyS) rfl Try.underlying26 sz9 rfl rfl (H11.rdT 2 rfl) (by omega) (by omega) ?_)
      refine WL.op rfl (t_load1 i_1.toNat .empty (T := tyS) rfl Try.underlying9 rfl rfl (H11.rdT 2 rfl) (by omega) rfl ?_)
      refine WL.op rfl (t_buildSlice (T := tyS) (xs := [h.next.getD i_1.toNat .empty]) (cs := #[.string (h.next.getD i_1.toNat .empty)]) rfl Try.underlying26 sz9 rfl rfl rfl rfl (by kernel_rfl) rfl rfl fun w12 u9 => ?_)
      have H12 : UpG w [blk hg #[.slice hpa h.past.length hpc, .slice hna h.next.length hnc, .string h.now, .int .i64 h.most] 79, rowT tyS (.slice hpa h.past.length hpc) 9 h.past, rowT tyS (.slice hna h.next.length hnc) 9 h.next] w12 [[blk hg #[.slice hpa h.past.length hpc, .slice hna h.next.length hnc, .string h.now, .int .i64 h.most] 79], [rowT tyS (.slice hpa h.past.length hpc) 9 h.past], [rowT tyS (.slice hna h.next.length hnc) 9 h.next], [], [rowT tyS (.slice a_1 ((allTo h i_1).length) c_1) 9 (allTo h i_1)], [rowT tyS (.slice (some ⟨w11.heap.size, 0, none⟩) ([h.next.getD i_1.toNat .empty].length) ([h.next.getD i_1.toNat .empty].length)) 9 [h.next.getD i_1.toNat .empty]]] := H11.new' u9
      refine WL.op rfl (t_append (T := tyS) (xs := (allTo h i_1)) (ys := [h.next.getD i_1.toNat .empty]) rfl Try.underlying26 sz9 rfl rfl rfl (H12.ownT 4 rfl) (H12.rdT 5 rfl) (by simp [allTo]; omega) (by simp [allTo]; omega) fun a4 c4 w13 u10 => ?_)
      have H13 : UpG w [blk hg #[.slice hpa h.past.length hpc, .slice hna h.next.length hnc, .string h.now, .int .i64 h.most] 79, rowT tyS (.slice hpa h.past.length hpc) 9 h.past, rowT tyS (.slice hna h.next.length hnc) 9 h.next] w13 [[blk hg #[.slice hpa h.past.length hpc, .slice hna h.next.length hnc, .string h.now, .int .i64 h.most] 79], [rowT tyS (.slice hpa h.past.length hpc) 9 h.past], [rowT tyS (.slice hna h.next.length hnc) 9 h.next], [], [rowT tyS (.slice a4 (((allTo h i_1) ++ [h.next.getD i_1.toNat .empty]).length) c4) 9 ((allTo h i_1) ++ [h.next.getD i_1.toNat .empty])], []] := (H12.on 4 rfl u10).drop 5
      refine WL.op rfl (d_assign rfl ?_)
      refine WL.done (X.block_normal (X.then_code ?_))
      refine W.region ?_
      refine WL.op rfl (d_move rfl ?_)
      refine WL.op rfl (d_sub rfl rfl (by omega) (by omega) ?_)
      refine WL.op rfl (d_assign rfl ?_)
      refine WL.done ?_
      have es := allTo_step h i_1 (by omega) (by omega)
      rw [es]
      rw [es] at H13
      exact X.next [4, 3, 2, 0] (Γ' := [(4, .int .i64 (i_1 - 1)), (3, .slice a4 ((allTo h (i_1 - 1)).length) c4), (2, .slice none 0 0), (0, .pointer (some ⟨hg, 0, none⟩))]) rfl (((i_1 - 1) + 1).toNat) (by omega) ⟨i_1 - 1, a4, c4, rfl, (H13.re rfl), (by omega), rfl⟩
    · skip
      refine W.exit (X.then_exit (X.then_exit (X.block_exit (X.then_code ?_))))
      refine W.seq ?_
      refine W.region ?_
      refine WL.op rfl (d_move rfl ?_)
      refine WL.op rfl (d_assign rfl ?_)
      refine WL.done (X.then_code ?_)
      refine W.ret (X.ret1 rfl rfl ?_)
      have e := allTo_end h i_1 hi.1 c87
      rw [← e]
      exact ⟨a_1, c_1, (by rfl), (Upd.sel H11 (l := [0, 1, 2, 3]) rfl rfl)⟩

set_option maxRecDepth 20000 in
theorem same_any (aa : Option Addr) (a : List ByteArray) (ac : Nat) (ba : Option Addr) (b : List ByteArray) (bc : Nat) (w : World) (ra : RdT tyS w (.slice aa a.length ac) a) (rb : RdT tyS w (.slice ba b.length bc) b) :
    Calls Try.prog 19 #[.slice aa a.length ac, .slice ba b.length bc] w (Ret fun v w' => v = .bool (decide (a = b)) ∧ Upd w [] w' []) := by
  have le_ra := ra.le
  have le_rb := rb.le
  refine calls_of_W (args := [.slice aa a.length ac, .slice ba b.length bc]) Try.func19 rfl rfl rfl ?_
  have H0 : UpG w [] w [] := UpG.nil w
  show W _ _ _ _ [(0, .slice aa a.length ac), (1, .slice ba b.length bc)] w
  refine W.seq ?_
  refine W.region ?_
  refine WL.op rfl (d_assign rfl ?_)
  refine WL.done (X.then_code ?_)
  refine W.seq ?_
  refine W.seq ?_
  refine W.region ?_
  refine WL.op rfl (d_move rfl ?_)
  refine WL.op rfl (d_lenS Try.underlying26 rfl ?_)
  refine WL.op rfl (d_move rfl ?_)
  refine WL.op rfl (d_lenS Try.underlying26 rfl ?_)
  refine WL.op rfl (d_cmp (decide (((a.length : Nat) : Int) ≠ ((b.length : Nat) : Int))) rfl rfl rfl ?_)
  refine WL.done (X.then_code ?_)
  refine W.ite (p := ((a.length : Nat) : Int) ≠ ((b.length : Nat) : Int)) rfl (fun c39 => ?_) (fun c39 => ?_)
  · skip
    refine W.seq ?_
    refine W.region ?_
    refine WL.op rfl (d_assign rfl ?_)
    refine WL.done (X.then_code ?_)
    refine W.ret (X.then_ret (X.ret1 rfl rfl ?_))
    have hne : ¬ a = b := fun h => by subst h; omega
    exact ⟨(by rw [decide_eq_false hne]), H0.noneL⟩
  · skip
    refine W.skip (X.then_code ?_)
    refine W.seq ?_
    refine W.seq ?_
    refine W.region ?_
    refine WL.op rfl (d_assign rfl ?_)
    refine WL.done (X.then_code ?_)
    refine W.block ?_
    refine W.pick [5, 4, 0, 1] (Γ' := [(5, .int .i64 0), (4, .bool false), (0, .slice aa a.length ac), (1, .slice ba b.length bc)]) rfl ?_
    refine W.loop (fun m Γ' w' => ∃ k : Nat, Γ' = [(5, .int .i64 ((k : Nat) : Int)), (4, .bool false), (0, .slice aa a.length ac), (1, .slice ba b.length bc)] ∧ UpG w [] w' [] ∧ (k ≤ a.length) ∧ (a.take k = b.take k) ∧ m = a.length - k) (a.length - 0) ⟨0, rfl, H0, (by first | assumption | omega | simp), (by simp), rfl⟩ ?_
    rintro m1 Γ1 w1 ⟨k, rfl, H1, hk, hs, rfl⟩
    refine W.seq ?_
    refine W.seq ?_
    refine W.region ?_
    refine WL.op rfl (d_move rfl ?_)
    refine WL.op rfl (d_move rfl ?_)
    refine WL.op rfl (d_lenS Try.underlying26 rfl ?_)
    refine WL.op rfl (d_cmp (decide (((k : Nat) : Int) < ((a.length : Nat) : Int))) rfl rfl rfl ?_)
    refine WL.done (X.then_code ?_)
    refine W.ite (p := ((k : Nat) : Int) < ((a.length : Nat) : Int)) rfl (fun c42 => ?_) (fun c42 => ?_)
    · skip
      refine W.skip (X.then_code ?_)
      refine W.seq ?_
      refine W.block ?_
      refine W.seq ?_
      refine W.regionD mixed (by kernel_rfl) fun hok1 w2 k1 => ?_
      have H2 : UpG w [] w2 [] := H1.kept k1
      refine WD.take hok1 0 (.slice aa a.length ac) (fun _ => True) rfl rfl rfl rfl rfl trivial (.inl ⟨rfl, fun _ _ => d_move rfl ⟨rfl, rfl⟩⟩) ?_
      refine WD.take hok1 1 (.int .i64 ((k : Nat) : Int)) (fun _ => True) rfl rfl rfl rfl rfl trivial (.inl ⟨rfl, fun _ _ => d_move rfl ⟨rfl, rfl⟩⟩) ?_
      refine WD.take hok1 2 (elemPtr (.slice aa a.length ac) k) (fun w' => RdT tyS w' (.slice aa a.length ac) a) rfl rfl rfl rfl rfl (ra.at H2) (.inl ⟨rfl, fun _ hC => t_addr1 k (T := tyS) rfl Try.underlying26 sz9 rfl rfl hC rfl (by omega) ⟨rfl, rfl⟩⟩) ?_
      refine WD.take hok1 3 (.string (a.getD k .empty)) (fun w' => RdT tyS w' (.slice aa a.length ac) a) rfl rfl rfl rfl rfl (ra.at H2) (.inl ⟨rfl, fun _ hC => t_load1 k .empty (T := tyS) rfl Try.underlying9 rfl rfl hC (by omega) rfl ⟨rfl, rfl⟩⟩) ?_
      refine WD.take hok1 4 (.slice ba b.length bc) (fun _ => True) rfl rfl rfl rfl rfl trivial (.inl ⟨rfl, fun _ _ => d_move rfl ⟨rfl, rfl⟩⟩) ?_
      refine WD.take hok1 5 (.int .i64 ((k : Nat) : Int)) (fun _ => True) rfl rfl rfl rfl rfl trivial (.inl ⟨rfl, fun _ _ => d_move rfl ⟨rfl, rfl⟩⟩) ?_
      refine WD.take hok1 6 (elemPtr (.slice ba b.length bc) k) (fun w' => RdT tyS w' (.slice ba b.length bc) b) rfl rfl rfl rfl rfl (rb.at H2) (.inl ⟨rfl, fun _ hC => t_addr1 k (T := tyS) rfl Try.underlying26 sz9 rfl rfl hC rfl (by omega) ⟨rfl, rfl⟩⟩) ?_
      refine WD.take hok1 7 (.string (b.getD k .empty)) (fun w' => RdT tyS w' (.slice ba b.length bc) b) rfl rfl rfl rfl rfl (rb.at H2) (.inl ⟨rfl, fun _ hC => t_load1 k .empty (T := tyS) rfl Try.underlying9 rfl rfl hC (by omega) rfl ⟨rfl, rfl⟩⟩) ?_
      refine WD.take hok1 8 (.bool (decide ((a.getD k .empty) ≠ (b.getD k .empty)))) (fun _ => True) rfl rfl rfl rfl rfl trivial (.inl ⟨rfl, fun _ _ => d_strne rfl rfl ⟨rfl, rfl⟩⟩) ?_
      refine WD.done hok1 rfl (X.then_code ?_)
      refine W.pick [25, 24, 23, 22, 21, 20, 19, 18, 17, 14, 13, 12, 11, 5, 4, 0, 1] (Γ' := [(25, .bool (decide ((a.getD k .empty) ≠ (b.getD k .empty)))), (24, .string (b.getD k .empty)), (23, elemPtr (.slice ba b.length bc) k), (22, .int .i64 ((k : Nat) : Int)), (21, .slice ba b.length bc), (20, .string (a.getD k .empty)), (19, elemPtr (.slice aa a.length ac) k), (18, .int .i64 ((k : Nat) : Int)), (17, .slice aa a.length ac), (14, .bool (decide (((k : Nat) : Int) < ((a.length : Nat) : Int)))), (13, .int .i64 ((a.length : Nat) : Int)), (12, .slice aa a.length ac), (11, .int .i64 ((k : Nat) : Int)), (5, .int .i64 ((k : Nat) : Int)), (4, .bool false), (0, .slice aa a.length ac), (1, .slice ba b.length bc)]) rfl ?_
      refine W.ite (p := (a.getD k .empty) ≠ (b.getD k .empty)) rfl (fun c43 => ?_) (fun c43 => ?_)
      · skip
        refine W.seq ?_
        refine W.region ?_
        refine WL.op rfl (d_assign rfl ?_)
        refine WL.done (X.then_code ?_)
        refine W.pick [4, 25, 24, 23, 22, 21, 20, 19, 18, 17, 14, 13, 12, 11, 5, 0, 1] (Γ' := [(4, .bool false), (25, .bool (decide ((a.getD k .empty) ≠ (b.getD k .empty)))), (24, .string (b.getD k .empty)), (23, elemPtr (.slice ba b.length bc) k), (22, .int .i64 ((k : Nat) : Int)), (21, .slice ba b.length bc), (20, .string (a.getD k .empty)), (19, elemPtr (.slice aa a.length ac) k), (18, .int .i64 ((k : Nat) : Int)), (17, .slice aa a.length ac), (14, .bool (decide (((k : Nat) : Int) < ((a.length : Nat) : Int)))), (13, .int .i64 ((a.length : Nat) : Int)), (12, .slice aa a.length ac), (11, .int .i64 ((k : Nat) : Int)), (5, .int .i64 ((k : Nat) : Int)), (0, .slice aa a.length ac), (1, .slice ba b.length bc)]) rfl ?_
        refine W.ret (X.block_ret (X.then_ret (X.then_ret (X.block_ret (X.then_ret (X.ret1 rfl rfl ?_))))))
        have hne : ¬ a = b := fun h => by subst h; exact c43 rfl
        exact ⟨(by rw [decide_eq_false hne]), H2.noneL⟩
      · skip
        refine W.skip (X.block_normal (X.then_code ?_))
        refine W.pick [25, 24, 23, 22, 21, 20, 19, 18, 17, 14, 13, 12, 11, 5, 4, 0, 1] (Γ' := [(25, .bool (decide ((a.getD k .empty) ≠ (b.getD k .empty)))), (24, .string (b.getD k .empty)), (23, elemPtr (.slice ba b.length bc) k), (22, .int .i64 ((k : Nat) : Int)), (21, .slice ba b.length bc), (20, .string (a.getD k .empty)), (19, elemPtr (.slice aa a.length ac) k), (18, .int .i64 ((k : Nat) : Int)), (17, .slice aa a.length ac), (14, .bool (decide (((k : Nat) : Int) < ((a.length : Nat) : Int)))), (13, .int .i64 ((a.length : Nat) : Int)), (12, .slice aa a.length ac), (11, .int .i64 ((k : Nat) : Int)), (5, .int .i64 ((k : Nat) : Int)), (4, .bool false), (0, .slice aa a.length ac), (1, .slice ba b.length bc)]) rfl ?_
        refine W.region ?_
        refine WL.op rfl (d_move rfl ?_)
        refine WL.op rfl (d_add rfl rfl (by omega) (by omega) ?_)
        refine WL.op rfl (d_assign rfl ?_)
        refine WL.done ?_
        exact X.next [5, 4, 0, 1] (Γ' := [(5, .int .i64 (((k + 1) : Nat) : Int)), (4, .bool false), (0, .slice aa a.length ac), (1, .slice ba b.length bc)]) rfl (a.length - (k + 1)) (by omega) ⟨k + 1, rfl, H2, (by first | assumption | omega | simp), (by exact take_same hs (by omega) (by omega) (by simpa using c43)), rfl⟩
    · skip
      refine W.exit (X.then_exit (X.then_exit (X.block_exit (X.then_code ?_))))
      refine W.seq ?_
      refine W.region ?_
      refine WL.op rfl (d_assign rfl ?_)
      refine WL.done (X.then_code ?_)
      refine W.ret (X.ret1 rfl rfl ?_)
      have he : a = b := same_take hs (by omega) (by omega)
      exact ⟨(by rw [decide_eq_true he]), H1.noneL⟩

set_option maxRecDepth 20000 in
theorem rdo_any (r : RowD) (ra : Option Addr) (rc : Nat) (x : ByteArray) (w : World) (hp : Hp w [rowT tyS (.slice ra r.l.length rc) 9 r.l]) (hat : r.at_ < r.l.length) (hl : r.l.length ≤ 1000000) :
    Calls Try.prog 43 #[.agg #[.slice ra r.l.length rc, .int .i64 ((r.at_ : Nat) : Int), .int .i64 r.most], .string x] w (Ret fun v w' => ∃ ra2 : Option Addr, ∃ rc2 : Nat, v = .tuple #[.agg #[.slice ra2 (((doR r x).1.l).length) rc2, .int .i64 (((doR r x).1.at_ : Nat) : Int), .int .i64 ((doR r x).1.most)], .int .i64 ((doR r x).2)] ∧ Upd w [rowT tyS (.slice ra r.l.length rc) 9 r.l] w' [rowT tyS (.slice ra2 (((doR r x).1.l).length) rc2) 9 ((doR r x).1.l)]) := by
  refine calls_of_W (args := [.agg #[.slice ra r.l.length rc, .int .i64 ((r.at_ : Nat) : Int), .int .i64 r.most], .string x]) Try.func43 rfl rfl rfl ?_
  have H0 : UpG w [rowT tyS (.slice ra r.l.length rc) 9 r.l] w [[rowT tyS (.slice ra r.l.length rc) 9 r.l]] := (UpG.refl hp).re rfl
  show W _ _ _ _ [(0, .agg #[.slice ra r.l.length rc, .int .i64 ((r.at_ : Nat) : Int), .int .i64 r.most]), (1, .string x)] w
  refine W.seq ?_
  refine W.region ?_
  refine WL.op rfl (d_box rfl fun w1 u1 => ?_)
  have H1 : UpG w [rowT tyS (.slice ra r.l.length rc) 9 r.l] w1 [[rowT tyS (.slice ra r.l.length rc) 9 r.l], [blk w.heap.size #[.slice ra r.l.length rc, .int .i64 ((r.at_ : Nat) : Int), .int .i64 r.most] 28]] := H0.new' u1
  refine WL.op rfl (d_alloc sz28 fun w2 u2 => ?_)
  have H2 : UpG w [rowT tyS (.slice ra r.l.length rc) 9 r.l] w2 [[rowT tyS (.slice ra r.l.length rc) 9 r.l], [blk w.heap.size #[.slice ra r.l.length rc, .int .i64 ((r.at_ : Nat) : Int), .int .i64 r.most] 28], [blk w1.heap.size #[.slice none 0 0, .int .i64 0, .int .i64 0] 28]] := H1.new' u2
  refine WL.op rfl (d_assign rfl ?_)
  refine WL.done (X.then_code ?_)
  refine W.seq ?_
  refine W.seq ?_
  refine W.region ?_
  refine WL.op rfl (d_fieldAddrB fld28_1 rfl rfl ?_)
  refine WL.op rfl (d_loadB Try.underlying3 rfl rfl (H2.blk 1 rfl) rfl ?_)
  refine WL.op rfl (d_fieldAddrB fld28_2 rfl rfl ?_)
  refine WL.op rfl (d_loadB Try.underlying3 rfl rfl (H2.blk 1 rfl) rfl ?_)
  refine WL.op rfl (d_cmp (decide (((r.at_ : Nat) : Int) ≥ r.most)) rfl rfl rfl ?_)
  refine WL.done (X.then_code ?_)
  refine W.ite (p := ((r.at_ : Nat) : Int) ≥ r.most) rfl (fun c13 => ?_) (fun c13 => ?_)
  · skip
    refine W.seq ?_
    refine W.region ?_
    refine WL.op rfl (d_loadAB [.slice ra r.l.length rc, .int .i64 ((r.at_ : Nat) : Int), .int .i64 r.most] Try.underlying28 rfl sz28 rfl (H2.blk 1 rfl) rfl rfl ?_)
    refine WL.op0 (d_storeAB (us := [.slice ra r.l.length rc, .int .i64 ((r.at_ : Nat) : Int), .int .i64 r.most]) (cs' := #[.slice ra r.l.length rc, .int .i64 ((r.at_ : Nat) : Int), .int .i64 r.most]) sz28 rfl rfl rfl rfl (H2.blk 2 rfl) rfl rfl fun w3 u3 => ?_)
    have H3 : UpG w [rowT tyS (.slice ra r.l.length rc) 9 r.l] w3 [[rowT tyS (.slice ra r.l.length rc) 9 r.l], [blk w.heap.size #[.slice ra r.l.length rc, .int .i64 ((r.at_ : Nat) : Int), .int .i64 r.most] 28], [blk w1.heap.size #[.slice ra r.l.length rc, .int .i64 ((r.at_ : Nat) : Int), .int .i64 r.most] 28]] := H2.on 2 rfl u3
    refine WL.op rfl (d_assign rfl ?_)
    refine WL.done (X.then_code ?_)
    refine W.ret (X.then_ret (X.retR2 rfl (rv_cellA [.slice ra r.l.length rc, .int .i64 ((r.at_ : Nat) : Int), .int .i64 r.most] Try.underlying28 rfl sz28 rfl (H3.blk 2 rfl) rfl rfl) (rv_tmp rfl) ?_))
    have e : doR r x = (r, 6) := by unfold doR; rw [if_pos (by omega)]
    rw [e]
    exact ⟨ra, rc, (by rfl), (Upd.sel H3 (l := [0]) rfl rfl)⟩
  · skip
    refine W.skip (X.then_code ?_)
    refine W.seq ?_
    refine W.region ?_
    refine WL.op rfl (t_buildSlice0 (T := tyS) rfl Try.underlying26 sz9 fun w4 u4 => ?_)
    have H4 : UpG w [rowT tyS (.slice ra r.l.length rc) 9 r.l] w4 [[rowT tyS (.slice ra r.l.length rc) 9 r.l], [blk w.heap.size #[.slice ra r.l.length rc, .int .i64 ((r.at_ : Nat) : Int), .int .i64 r.most] 28], [blk w1.heap.size #[.slice none 0 0, .int .i64 0, .int .i64 0] 28], [rowT tyS (.slice (some ⟨w2.heap.size, 0, none⟩) (([] : List ByteArray).length) 0) 9 ([] : List ByteArray)]] := H2.new' u4
    refine WL.op rfl (d_fieldAddrB fld28_0 rfl rfl ?_)
    refine WL.op rfl (d_loadB Try.underlying26 rfl rfl (H4.blk 1 rfl) rfl ?_)
    refine WL.op rfl (d_fieldAddrB fld28_1 rfl rfl ?_)
    refine WL.op rfl (d_loadB Try.underlying3 rfl rfl (H4.blk 1 rfl) rfl ?_)
    refine WL.op rfl (d_add rfl rfl (by omega) (by omega) ?_)
    refine WL.op rfl (t_pop (((r.at_ : Nat) : Int) + 1) (r.at_ + 1) (T := tyS) (e := 9) (xs := r.l) rfl Try.underlying26 sz9 rfl rfl (H4.ownT 0 rfl) rfl (by omega) fun w5 u5 => ?_)
    have H5 : UpG w [rowT tyS (.slice ra r.l.length rc) 9 r.l] w5 [[rowT tyS (.slice ra ((r.l.take (r.at_ + 1)).length) rc) 9 (r.l.take (r.at_ + 1))], [blk w.heap.size #[.slice ra r.l.length rc, .int .i64 ((r.at_ : Nat) : Int), .int .i64 r.most] 28], [blk w1.heap.size #[.slice none 0 0, .int .i64 0, .int .i64 0] 28], [rowT tyS (.slice (some ⟨w2.heap.size, 0, none⟩) (([] : List ByteArray).length) 0) 9 ([] : List ByteArray)]] := H4.on 0 rfl u5
    refine WL.op rfl (t_append (T := tyS) (xs := ([] : List ByteArray)) (ys := (r.l.take (r.at_ + 1))) rfl Try.underlying26 sz9 rfl rfl rfl (H5.ownT 3 rfl) (H5.rdT 0 rfl) (by simp; omega) (by simp; omega) fun a1 c1 w6 u6 => ?_)
    have H6 : UpG w [rowT tyS (.slice ra r.l.length rc) 9 r.l] w6 [[rowT tyS (.slice ra ((r.l.take (r.at_ + 1)).length) rc) 9 (r.l.take (r.at_ + 1))], [blk w.heap.size #[.slice ra r.l.length rc, .int .i64 ((r.at_ : Nat) : Int), .int .i64 r.most] 28], [blk w1.heap.size #[.slice none 0 0, .int .i64 0, .int .i64 0] 28], [rowT tyS (.slice a1 ((([] : List ByteArray) ++ (r.l.take (r.at_ + 1))).length) c1) 9 (([] : List ByteArray) ++ (r.l.take (r.at_ + 1)))]] := H5.on 3 rfl u6
    refine WL.op rfl (d_assign rfl ?_)
    refine WL.done (X.then_code ?_)
    refine W.pick [6, 5, 4, 2, 1] (Γ' := [(6, .slice a1 ((([] : List ByteArray) ++ (r.l.take (r.at_ + 1))).length) c1), (5, .int .i64 0), (4, .pointer (some ⟨w1.heap.size, 0, none⟩)), (2, .pointer (some ⟨w.heap.size, 0, none⟩)), (1, .string x)]) rfl ?_
    refine W.seq ?_
    refine W.regionD mixed (by kernel_rfl) fun hok1 w7 k1 => ?_
    have H7 : UpG w [rowT tyS (.slice ra r.l.length rc) 9 r.l] w7 [[rowT tyS (.slice ra ((r.l.take (r.at_ + 1)).length) rc) 9 (r.l.take (r.at_ + 1))], [blk w.heap.size #[.slice ra r.l.length rc, .int .i64 ((r.at_ : Nat) : Int), .int .i64 r.most] 28], [blk w1.heap.size #[.slice none 0 0, .int .i64 0, .int .i64 0] 28], [rowT tyS (.slice a1 ((([] : List ByteArray) ++ (r.l.take (r.at_ + 1))).length) c1) 9 (([] : List ByteArray) ++ (r.l.take (r.at_ + 1)))]] := H6.kept k1
    refine WD.take hok1 0 (.slice a1 ((([] : List ByteArray) ++ (r.l.take (r.at_ + 1))).length) c1) (fun _ => True) rfl rfl rfl rfl rfl trivial (.inl ⟨rfl, fun _ _ => d_move rfl ⟨rfl, rfl⟩⟩) ?_
    refine WD.take hok1 1 (.string x) (fun _ => True) rfl rfl rfl rfl rfl trivial (.inl ⟨rfl, fun _ _ => d_move rfl ⟨rfl, rfl⟩⟩) ?_
    refine WD.take hok1 4 (.pointer (some ⟨w.heap.size, 1, none⟩)) (fun _ => True) rfl rfl rfl rfl rfl trivial (.inl ⟨rfl, fun _ _ => d_fieldAddrB fld28_1 rfl rfl ⟨rfl, rfl⟩⟩) ?_
    refine WD.take hok1 5 (.int .i64 ((r.at_ : Nat) : Int)) (fun w' => w'.heap[w.heap.size]? = some (.cells #[.slice ra r.l.length rc, .int .i64 ((r.at_ : Nat) : Int), .int .i64 r.most] 28 (0, 0))) rfl rfl rfl rfl rfl (H7.blk 1 rfl) (.inl ⟨rfl, fun _ hC => d_loadB Try.underlying3 rfl rfl hC rfl ⟨rfl, rfl⟩⟩) ?_
    refine WD.take hok1 6 (.int .i64 (((r.at_ : Nat) : Int) + 1)) (fun _ => True) rfl rfl rfl rfl rfl trivial (.inl ⟨rfl, fun _ _ => d_add rfl rfl (by omega) (by omega) ⟨rfl, rfl⟩⟩) ?_
    refine WD.take hok1 7 (.pointer (some ⟨w.heap.size, 2, none⟩)) (fun _ => True) rfl rfl rfl rfl rfl trivial (.inl ⟨rfl, fun _ _ => d_fieldAddrB fld28_2 rfl rfl ⟨rfl, rfl⟩⟩) ?_
    refine WD.take hok1 8 (.int .i64 r.most) (fun w' => w'.heap[w.heap.size]? = some (.cells #[.slice ra r.l.length rc, .int .i64 ((r.at_ : Nat) : Int), .int .i64 r.most] 28 (0, 0))) rfl rfl rfl rfl rfl (H7.blk 1 rfl) (.inl ⟨rfl, fun _ hC => d_loadB Try.underlying3 rfl rfl hC rfl ⟨rfl, rfl⟩⟩) ?_
    refine WD.loud hok1 2 rfl (⟨_, [⟨8, .int .i64 r.most, (fun w' => w'.heap[w.heap.size]? = some (.cells #[.slice ra r.l.length rc, .int .i64 ((r.at_ : Nat) : Int), .int .i64 r.most] 28 (0, 0)))⟩, ⟨7, .pointer (some ⟨w.heap.size, 2, none⟩), (fun _ => True)⟩, ⟨6, .int .i64 (((r.at_ : Nat) : Int) + 1), (fun _ => True)⟩, ⟨5, .int .i64 ((r.at_ : Nat) : Int), (fun w' => w'.heap[w.heap.size]? = some (.cells #[.slice ra r.l.length rc, .int .i64 ((r.at_ : Nat) : Int), .int .i64 r.most] 28 (0, 0)))⟩, ⟨4, .pointer (some ⟨w.heap.size, 1, none⟩), (fun _ => True)⟩, ⟨0, .slice a1 ((([] : List ByteArray) ++ (r.l.take (r.at_ + 1))).length) c1, (fun _ => True)⟩], rfl, rfl, rfl, rfl, rfl, rfl, t_buildSlice (T := tyS) (xs := [x]) (cs := #[.string x]) rfl Try.underlying26 sz9 rfl rfl rfl rfl (by kernel_rfl) rfl rfl fun w8 u7 => ?_⟩)
    have H8 : UpG w [rowT tyS (.slice ra r.l.length rc) 9 r.l] w8 [[rowT tyS (.slice ra ((r.l.take (r.at_ + 1)).length) rc) 9 (r.l.take (r.at_ + 1))], [blk w.heap.size #[.slice ra r.l.length rc, .int .i64 ((r.at_ : Nat) : Int), .int .i64 r.most] 28], [blk w1.heap.size #[.slice none 0 0, .int .i64 0, .int .i64 0] 28], [rowT tyS (.slice a1 ((([] : List ByteArray) ++ (r.l.take (r.at_ + 1))).length) c1) 9 (([] : List ByteArray) ++ (r.l.take (r.at_ + 1)))], [rowT tyS (.slice (some ⟨w7.heap.size, 0, none⟩) ([x].length) ([x].length)) 9 [x]]] := H7.new' u7
    refine ⟨⟨(H8.blk 1 rfl), trivial, trivial, (H8.blk 1 rfl), trivial, trivial, trivial⟩, ?_⟩
    refine WD.loud hok1 3 rfl (⟨_, [⟨8, .int .i64 r.most, (fun w' => w'.heap[w.heap.size]? = some (.cells #[.slice ra r.l.length rc, .int .i64 ((r.at_ : Nat) : Int), .int .i64 r.most] 28 (0, 0)))⟩, ⟨7, .pointer (some ⟨w.heap.size, 2, none⟩), (fun _ => True)⟩, ⟨6, .int .i64 (((r.at_ : Nat) : Int) + 1), (fun _ => True)⟩, ⟨5, .int .i64 ((r.at_ : Nat) : Int), (fun w' => w'.heap[w.heap.size]? = some (.cells #[.slice ra r.l.length rc, .int .i64 ((r.at_ : Nat) : Int), .int .i64 r.most] 28 (0, 0)))⟩, ⟨4, .pointer (some ⟨w.heap.size, 1, none⟩), (fun _ => True)⟩], rfl, rfl, rfl, rfl, rfl, rfl, t_append (T := tyS) (xs := (([] : List ByteArray) ++ (r.l.take (r.at_ + 1)))) (ys := [x]) rfl Try.underlying26 sz9 rfl rfl rfl (H8.ownT 3 rfl) (H8.rdT 4 rfl) (by simp; omega) (by simp; omega) fun a2 c2 w9 u8 => ?_⟩)
    have H9 : UpG w [rowT tyS (.slice ra r.l.length rc) 9 r.l] w9 [[rowT tyS (.slice ra ((r.l.take (r.at_ + 1)).length) rc) 9 (r.l.take (r.at_ + 1))], [blk w.heap.size #[.slice ra r.l.length rc, .int .i64 ((r.at_ : Nat) : Int), .int .i64 r.most] 28], [blk w1.heap.size #[.slice none 0 0, .int .i64 0, .int .i64 0] 28], [rowT tyS (.slice a2 (((([] : List ByteArray) ++ (r.l.take (r.at_ + 1))) ++ [x]).length) c2) 9 ((([] : List ByteArray) ++ (r.l.take (r.at_ + 1))) ++ [x])], []] := (H8.on 3 rfl u8).drop 4
    refine ⟨⟨(H9.blk 1 rfl), trivial, trivial, (H9.blk 1 rfl), trivial, trivial⟩, ?_⟩
    refine WD.take hok1 9 (.agg #[.slice a2 (((([] : List ByteArray) ++ (r.l.take (r.at_ + 1))) ++ [x]).length) c2, .int .i64 (((r.at_ : Nat) : Int) + 1), .int .i64 r.most]) (fun _ => True) rfl rfl rfl rfl rfl trivial (.inl ⟨rfl, fun _ _ => d_build (cs := #[.slice a2 (((([] : List ByteArray) ++ (r.l.take (r.at_ + 1))) ++ [x]).length) c2, .int .i64 (((r.at_ : Nat) : Int) + 1), .int .i64 r.most]) rfl (by kernel_rfl) ⟨rfl, rfl⟩⟩) ?_
    refine WD.loud hok1 10 rfl (⟨_, [], rfl, rfl, rfl, rfl, rfl, rfl, d_storeAB (us := [.slice a2 (((([] : List ByteArray) ++ (r.l.take (r.at_ + 1))) ++ [x]).length) c2, .int .i64 (((r.at_ : Nat) : Int) + 1), .int .i64 r.most]) (cs' := #[.slice a2 (((([] : List ByteArray) ++ (r.l.take (r.at_ + 1))) ++ [x]).length) c2, .int .i64 (((r.at_ : Nat) : Int) + 1), .int .i64 r.most]) sz28 rfl rfl rfl rfl (H9.blk 2 rfl) rfl rfl fun w10 u9 => ?_⟩)
    have H10 : UpG w [rowT tyS (.slice ra r.l.length rc) 9 r.l] w10 [[rowT tyS (.slice ra ((r.l.take (r.at_ + 1)).length) rc) 9 (r.l.take (r.at_ + 1))], [blk w.heap.size #[.slice ra r.l.length rc, .int .i64 ((r.at_ : Nat) : Int), .int .i64 r.most] 28], [blk w1.heap.size #[.slice a2 (((([] : List ByteArray) ++ (r.l.take (r.at_ + 1))) ++ [x]).length) c2, .int .i64 (((r.at_ : Nat) : Int) + 1), .int .i64 r.most] 28], [rowT tyS (.slice a2 (((([] : List ByteArray) ++ (r.l.take (r.at_ + 1))) ++ [x]).length) c2) 9 ((([] : List ByteArray) ++ (r.l.take (r.at_ + 1))) ++ [x])], []] := H9.on 2 rfl u9
    refine ⟨trivial, ?_⟩
    refine WD.take hok1 11 (.int .i64 0) (fun _ => True) rfl rfl rfl rfl rfl trivial (.inl ⟨rfl, fun _ _ => d_assign rfl ⟨rfl, rfl⟩⟩) ?_
    refine WD.done hok1 rfl (X.then_code ?_)
    refine W.ret (X.retR2 rfl (rv_cellA [.slice a2 (((([] : List ByteArray) ++ (r.l.take (r.at_ + 1))) ++ [x]).length) c2, .int .i64 (((r.at_ : Nat) : Int) + 1), .int .i64 r.most] Try.underlying28 rfl sz28 rfl (H10.blk 2 rfl) rfl rfl) (rv_tmp rfl) ?_)
    have e : doR r x = (⟨r.l.take (r.at_ + 1) ++ [x], r.at_ + 1, r.most⟩, 0) := by unfold doR; rw [if_neg (by omega)]
    rw [e]
    exact ⟨a2, c2, (by rfl), (Upd.sel H10 (l := [3]) rfl rfl)⟩

set_option maxRecDepth 20000 in
theorem rundo_any (r : RowD) (ra : Option Addr) (rc : Nat) (w : World) (hp : Hp w [rowT tyS (.slice ra r.l.length rc) 9 r.l]) (hat : r.at_ < r.l.length) (hl : r.l.length ≤ 1000000) :
    Calls Try.prog 44 #[.agg #[.slice ra r.l.length rc, .int .i64 ((r.at_ : Nat) : Int), .int .i64 r.most]] w (Ret fun v w' => ∃ ra2 : Option Addr, ∃ rc2 : Nat, v = .tuple #[.agg #[.slice ra2 (((undoR r).1.l).length) rc2, .int .i64 (((undoR r).1.at_ : Nat) : Int), .int .i64 ((undoR r).1.most)], .int .i64 ((undoR r).2)] ∧ Upd w [rowT tyS (.slice ra r.l.length rc) 9 r.l] w' [rowT tyS (.slice ra2 (((undoR r).1.l).length) rc2) 9 ((undoR r).1.l)]) := by
  refine calls_of_W (args := [.agg #[.slice ra r.l.length rc, .int .i64 ((r.at_ : Nat) : Int), .int .i64 r.most]]) Try.func44 rfl rfl rfl ?_
  have H0 : UpG w [rowT tyS (.slice ra r.l.length rc) 9 r.l] w [[rowT tyS (.slice ra r.l.length rc) 9 r.l]] := (UpG.refl hp).re rfl
  show W _ _ _ _ [(0, .agg #[.slice ra r.l.length rc, .int .i64 ((r.at_ : Nat) : Int), .int .i64 r.most])] w
  refine W.seq ?_
  refine W.region ?_
  refine WL.op rfl (d_box rfl fun w1 u1 => ?_)
  have H1 : UpG w [rowT tyS (.slice ra r.l.length rc) 9 r.l] w1 [[rowT tyS (.slice ra r.l.length rc) 9 r.l], [blk w.heap.size #[.slice ra r.l.length rc, .int .i64 ((r.at_ : Nat) : Int), .int .i64 r.most] 28]] := H0.new' u1
  refine WL.op rfl (d_alloc sz28 fun w2 u2 => ?_)
  have H2 : UpG w [rowT tyS (.slice ra r.l.length rc) 9 r.l] w2 [[rowT tyS (.slice ra r.l.length rc) 9 r.l], [blk w.heap.size #[.slice ra r.l.length rc, .int .i64 ((r.at_ : Nat) : Int), .int .i64 r.most] 28], [blk w1.heap.size #[.slice none 0 0, .int .i64 0, .int .i64 0] 28]] := H1.new' u2
  refine WL.op rfl (d_assign rfl ?_)
  refine WL.done (X.then_code ?_)
  refine W.seq ?_
  refine W.seq ?_
  refine W.region ?_
  refine WL.op rfl (d_fieldAddrB fld28_1 rfl rfl ?_)
  refine WL.op rfl (d_loadB Try.underlying3 rfl rfl (H2.blk 1 rfl) rfl ?_)
  refine WL.op rfl (d_cmp (decide (((r.at_ : Nat) : Int) = (0 : Int))) rfl rfl rfl ?_)
  refine WL.done (X.then_code ?_)
  refine W.ite (p := ((r.at_ : Nat) : Int) = (0 : Int)) rfl (fun c22 => ?_) (fun c22 => ?_)
  · skip
    refine W.seq ?_
    refine W.region ?_
    refine WL.op rfl (d_loadAB [.slice ra r.l.length rc, .int .i64 ((r.at_ : Nat) : Int), .int .i64 r.most] Try.underlying28 rfl sz28 rfl (H2.blk 1 rfl) rfl rfl ?_)
    refine WL.op0 (d_storeAB (us := [.slice ra r.l.length rc, .int .i64 ((r.at_ : Nat) : Int), .int .i64 r.most]) (cs' := #[.slice ra r.l.length rc, .int .i64 ((r.at_ : Nat) : Int), .int .i64 r.most]) sz28 rfl rfl rfl rfl (H2.blk 2 rfl) rfl rfl fun w3 u3 => ?_)
    have H3 : UpG w [rowT tyS (.slice ra r.l.length rc) 9 r.l] w3 [[rowT tyS (.slice ra r.l.length rc) 9 r.l], [blk w.heap.size #[.slice ra r.l.length rc, .int .i64 ((r.at_ : Nat) : Int), .int .i64 r.most] 28], [blk w1.heap.size #[.slice ra r.l.length rc, .int .i64 ((r.at_ : Nat) : Int), .int .i64 r.most] 28]] := H2.on 2 rfl u3
    refine WL.op rfl (d_assign rfl ?_)
    refine WL.done (X.then_code ?_)
    refine W.ret (X.then_ret (X.retR2 rfl (rv_cellA [.slice ra r.l.length rc, .int .i64 ((r.at_ : Nat) : Int), .int .i64 r.most] Try.underlying28 rfl sz28 rfl (H3.blk 2 rfl) rfl rfl) (rv_tmp rfl) ?_))
    have e : undoR r = (r, 8) := by unfold undoR; rw [if_pos (by omega)]
    rw [e]
    exact ⟨ra, rc, (by rfl), (Upd.sel H3 (l := [0]) rfl rfl)⟩
  · skip
    refine W.skip (X.then_code ?_)
    refine W.seq ?_
    refine W.region ?_
    refine WL.op rfl (d_fieldAddrB fld28_1 rfl rfl ?_)
    refine WL.op rfl (d_loadB Try.underlying3 rfl rfl (H2.blk 1 rfl) rfl ?_)
    refine WL.op rfl (d_sub rfl rfl (by omega) (by omega) ?_)
    refine WL.op rfl (d_fieldAddrB fld28_1 rfl rfl ?_)
    refine WL.op0 (d_storeB sz3 rfl rfl rfl (H2.blk 1 rfl) rfl fun w4 u4 => ?_)
    have H4 : UpG w [rowT tyS (.slice ra r.l.length rc) 9 r.l] w4 [[rowT tyS (.slice ra r.l.length rc) 9 r.l], [blk w.heap.size #[.slice ra r.l.length rc, .int .i64 (((r.at_ : Nat) : Int) - 1), .int .i64 r.most] 28], [blk w1.heap.size #[.slice none 0 0, .int .i64 0, .int .i64 0] 28]] := H2.on 1 rfl u4
    refine WL.done (X.then_code ?_)
    refine W.seq ?_
    refine W.region ?_
    refine WL.op rfl (d_loadAB [.slice ra r.l.length rc, .int .i64 (((r.at_ : Nat) : Int) - 1), .int .i64 r.most] Try.underlying28 rfl sz28 rfl (H4.blk 1 rfl) rfl rfl ?_)
    refine WL.op0 (d_storeAB (us := [.slice ra r.l.length rc, .int .i64 (((r.at_ : Nat) : Int) - 1), .int .i64 r.most]) (cs' := #[.slice ra r.l.length rc, .int .i64 (((r.at_ : Nat) : Int) - 1), .int .i64 r.most]) sz28 rfl rfl rfl rfl (H4.blk 2 rfl) rfl rfl fun w5 u5 => ?_)
    have H5 : UpG w [rowT tyS (.slice ra r.l.length rc) 9 r.l] w5 [[rowT tyS (.slice ra r.l.length rc) 9 r.l], [blk w.heap.size #[.slice ra r.l.length rc, .int .i64 (((r.at_ : Nat) : Int) - 1), .int .i64 r.most] 28], [blk w1.heap.size #[.slice ra r.l.length rc, .int .i64 (((r.at_ : Nat) : Int) - 1), .int .i64 r.most] 28]] := H4.on 2 rfl u5
    refine WL.op rfl (d_assign rfl ?_)
    refine WL.done (X.then_code ?_)
    refine W.ret (X.retR2 rfl (rv_cellA [.slice ra r.l.length rc, .int .i64 (((r.at_ : Nat) : Int) - 1), .int .i64 r.most] Try.underlying28 rfl sz28 rfl (H5.blk 2 rfl) rfl rfl) (rv_tmp rfl) ?_)
    have e : undoR r = (⟨r.l, r.at_ - 1, r.most⟩, 0) := by unfold undoR; rw [if_neg (by omega)]
    rw [e]
    have e2 : ((r.at_ - 1 : Nat) : Int) = (r.at_ : Int) - 1 := by omega
    simp only [e2]
    exact ⟨ra, rc, (by rfl), (Upd.sel H5 (l := [0]) rfl rfl)⟩

set_option maxRecDepth 20000 in
theorem rredo_any (r : RowD) (ra : Option Addr) (rc : Nat) (w : World) (hp : Hp w [rowT tyS (.slice ra r.l.length rc) 9 r.l]) (hat : r.at_ < r.l.length) (hl : r.l.length ≤ 1000000) :
    Calls Try.prog 45 #[.agg #[.slice ra r.l.length rc, .int .i64 ((r.at_ : Nat) : Int), .int .i64 r.most]] w (Ret fun v w' => ∃ ra2 : Option Addr, ∃ rc2 : Nat, v = .tuple #[.agg #[.slice ra2 (((redoR r).1.l).length) rc2, .int .i64 (((redoR r).1.at_ : Nat) : Int), .int .i64 ((redoR r).1.most)], .int .i64 ((redoR r).2)] ∧ Upd w [rowT tyS (.slice ra r.l.length rc) 9 r.l] w' [rowT tyS (.slice ra2 (((redoR r).1.l).length) rc2) 9 ((redoR r).1.l)]) := by
  refine calls_of_W (args := [.agg #[.slice ra r.l.length rc, .int .i64 ((r.at_ : Nat) : Int), .int .i64 r.most]]) Try.func45 rfl rfl rfl ?_
  have H0 : UpG w [rowT tyS (.slice ra r.l.length rc) 9 r.l] w [[rowT tyS (.slice ra r.l.length rc) 9 r.l]] := (UpG.refl hp).re rfl
  show W _ _ _ _ [(0, .agg #[.slice ra r.l.length rc, .int .i64 ((r.at_ : Nat) : Int), .int .i64 r.most])] w
  refine W.seq ?_
  refine W.region ?_
  refine WL.op rfl (d_box rfl fun w1 u1 => ?_)
  have H1 : UpG w [rowT tyS (.slice ra r.l.length rc) 9 r.l] w1 [[rowT tyS (.slice ra r.l.length rc) 9 r.l], [blk w.heap.size #[.slice ra r.l.length rc, .int .i64 ((r.at_ : Nat) : Int), .int .i64 r.most] 28]] := H0.new' u1
  refine WL.op rfl (d_alloc sz28 fun w2 u2 => ?_)
  have H2 : UpG w [rowT tyS (.slice ra r.l.length rc) 9 r.l] w2 [[rowT tyS (.slice ra r.l.length rc) 9 r.l], [blk w.heap.size #[.slice ra r.l.length rc, .int .i64 ((r.at_ : Nat) : Int), .int .i64 r.most] 28], [blk w1.heap.size #[.slice none 0 0, .int .i64 0, .int .i64 0] 28]] := H1.new' u2
  refine WL.op rfl (d_assign rfl ?_)
  refine WL.done (X.then_code ?_)
  refine W.seq ?_
  refine W.seq ?_
  refine W.region ?_
  refine WL.op rfl (d_fieldAddrB fld28_1 rfl rfl ?_)
  refine WL.op rfl (d_loadB Try.underlying3 rfl rfl (H2.blk 1 rfl) rfl ?_)
  refine WL.op rfl (d_fieldAddrB fld28_0 rfl rfl ?_)
  refine WL.op rfl (d_loadB Try.underlying26 rfl rfl (H2.blk 1 rfl) rfl ?_)
  refine WL.op rfl (d_lenS Try.underlying26 rfl ?_)
  refine WL.op rfl (d_sub rfl rfl (by omega) (by omega) ?_)
  refine WL.op rfl (d_cmp (decide (((r.at_ : Nat) : Int) = (((r.l.length : Nat) : Int) - 1))) rfl rfl rfl ?_)
  refine WL.done (X.then_code ?_)
  refine W.ite (p := ((r.at_ : Nat) : Int) = (((r.l.length : Nat) : Int) - 1)) rfl (fun c30 => ?_) (fun c30 => ?_)
  · skip
    refine W.seq ?_
    refine W.region ?_
    refine WL.op rfl (d_loadAB [.slice ra r.l.length rc, .int .i64 ((r.at_ : Nat) : Int), .int .i64 r.most] Try.underlying28 rfl sz28 rfl (H2.blk 1 rfl) rfl rfl ?_)
    refine WL.op0 (d_storeAB (us := [.slice ra r.l.length rc, .int .i64 ((r.at_ : Nat) : Int), .int .i64 r.most]) (cs' := #[.slice ra r.l.length rc, .int .i64 ((r.at_ : Nat) : Int), .int .i64 r.most]) sz28 rfl rfl rfl rfl (H2.blk 2 rfl) rfl rfl fun w3 u3 => ?_)
    have H3 : UpG w [rowT tyS (.slice ra r.l.length rc) 9 r.l] w3 [[rowT tyS (.slice ra r.l.length rc) 9 r.l], [blk w.heap.size #[.slice ra r.l.length rc, .int .i64 ((r.at_ : Nat) : Int), .int .i64 r.most] 28], [blk w1.heap.size #[.slice ra r.l.length rc, .int .i64 ((r.at_ : Nat) : Int), .int .i64 r.most] 28]] := H2.on 2 rfl u3
    refine WL.op rfl (d_assign rfl ?_)
    refine WL.done (X.then_code ?_)
    refine W.ret (X.then_ret (X.retR2 rfl (rv_cellA [.slice ra r.l.length rc, .int .i64 ((r.at_ : Nat) : Int), .int .i64 r.most] Try.underlying28 rfl sz28 rfl (H3.blk 2 rfl) rfl rfl) (rv_tmp rfl) ?_))
    have e : redoR r = (r, 8) := by unfold redoR; rw [if_pos (by omega)]
    rw [e]
    exact ⟨ra, rc, (by rfl), (Upd.sel H3 (l := [0]) rfl rfl)⟩
  · skip
    refine W.skip (X.then_code ?_)
    refine W.seq ?_
    refine W.region ?_
    refine WL.op rfl (d_fieldAddrB fld28_1 rfl rfl ?_)
    refine WL.op rfl (d_loadB Try.underlying3 rfl rfl (H2.blk 1 rfl) rfl ?_)
    refine WL.op rfl (d_add rfl rfl (by omega) (by omega) ?_)
    refine WL.op rfl (d_fieldAddrB fld28_1 rfl rfl ?_)
    refine WL.op0 (d_storeB sz3 rfl rfl rfl (H2.blk 1 rfl) rfl fun w4 u4 => ?_)
    have H4 : UpG w [rowT tyS (.slice ra r.l.length rc) 9 r.l] w4 [[rowT tyS (.slice ra r.l.length rc) 9 r.l], [blk w.heap.size #[.slice ra r.l.length rc, .int .i64 (((r.at_ : Nat) : Int) + 1), .int .i64 r.most] 28], [blk w1.heap.size #[.slice none 0 0, .int .i64 0, .int .i64 0] 28]] := H2.on 1 rfl u4
    refine WL.done (X.then_code ?_)
    refine W.seq ?_
    refine W.region ?_
    refine WL.op rfl (d_loadAB [.slice ra r.l.length rc, .int .i64 (((r.at_ : Nat) : Int) + 1), .int .i64 r.most] Try.underlying28 rfl sz28 rfl (H4.blk 1 rfl) rfl rfl ?_)
    refine WL.op0 (d_storeAB (us := [.slice ra r.l.length rc, .int .i64 (((r.at_ : Nat) : Int) + 1), .int .i64 r.most]) (cs' := #[.slice ra r.l.length rc, .int .i64 (((r.at_ : Nat) : Int) + 1), .int .i64 r.most]) sz28 rfl rfl rfl rfl (H4.blk 2 rfl) rfl rfl fun w5 u5 => ?_)
    have H5 : UpG w [rowT tyS (.slice ra r.l.length rc) 9 r.l] w5 [[rowT tyS (.slice ra r.l.length rc) 9 r.l], [blk w.heap.size #[.slice ra r.l.length rc, .int .i64 (((r.at_ : Nat) : Int) + 1), .int .i64 r.most] 28], [blk w1.heap.size #[.slice ra r.l.length rc, .int .i64 (((r.at_ : Nat) : Int) + 1), .int .i64 r.most] 28]] := H4.on 2 rfl u5
    refine WL.op rfl (d_assign rfl ?_)
    refine WL.done (X.then_code ?_)
    refine W.ret (X.retR2 rfl (rv_cellA [.slice ra r.l.length rc, .int .i64 (((r.at_ : Nat) : Int) + 1), .int .i64 r.most] Try.underlying28 rfl sz28 rfl (H5.blk 2 rfl) rfl rfl) (rv_tmp rfl) ?_)
    have e : redoR r = (⟨r.l, r.at_ + 1, r.most⟩, 0) := by unfold redoR; rw [if_neg (by omega)]
    rw [e]
    exact ⟨ra, rc, (by rfl), (Upd.sel H5 (l := [0]) rfl rfl)⟩
end Go.Proofs.Ytkdcmklkggnblaa
