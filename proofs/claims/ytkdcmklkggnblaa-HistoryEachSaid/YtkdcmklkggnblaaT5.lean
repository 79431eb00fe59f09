/- The walks of functions, printed by wip/tools/gw.py. -/
import Derived.Test.YtkdcmklkggnblaaF1
import Derived.Test.YtkdcmklkggnblaaSx7
import Derived.Test.YtkdcmklkggnblaaT4
namespace Go.Proofs.Ytkdcmklkggnblaa
open Go Go.Sx
set_option linter.unusedVariables false
set_option linter.unusedSimpArgs false
set_option maxRecDepth 20000 in
theorem turn_any (tg : Nat) (text : ByteArray) (many : Nat) (s : ByteArray) (w : World) (hp : Hp w [blk tg #[.string text, .int .i64 ((many : Nat) : Int)] 46]) (hs : s.size + text.size ≤ 1000000000000000000) (hm : many ≤ 1000000) :
    Calls Try.prog 22 #[.pointer (some ⟨tg, 0, none⟩), .string s] w (Ret fun v w' => v = .string (s ++ text) ∧ Upd w [blk tg #[.string text, .int .i64 ((many : Nat) : Int)] 46] w' [blk tg #[.string text, .int .i64 ((many + 1 : Nat) : Int)] 46]) := by
  refine calls_of_W (args := [.pointer (some ⟨tg, 0, none⟩), .string s]) Try.func22 rfl rfl rfl ?_
  have H0 : UpG w [blk tg #[.string text, .int .i64 ((many : Nat) : Int)] 46] w [[blk tg #[.string text, .int .i64 ((many : Nat) : Int)] 46]] := (UpG.refl hp).re rfl
  show W _ _ _ _ [(0, .pointer (some ⟨tg, 0, none⟩)), (1, .string s)] w
  refine W.seq ?_
  refine W.region ?_
  refine WL.op rfl (d_assign rfl ?_)
  refine WL.done (X.then_code ?_)
  refine W.seq ?_
  refine W.region ?_
  refine WL.op rfl (d_move rfl ?_)
  refine WL.op rfl (d_nilCheck rfl ?_)
  refine WL.op rfl (d_fieldAddrB fld46_1 rfl rfl ?_)
  refine WL.op rfl (d_loadB Try.underlying3 rfl rfl (H0.blk 0 rfl) rfl ?_)
  refine WL.op rfl (d_add rfl rfl (by omega) (by omega) ?_)
  refine WL.op rfl (d_nilCheck rfl ?_)
  refine WL.op rfl (d_fieldAddrB fld46_1 rfl rfl ?_)
  refine WL.op0 (d_storeB sz3 rfl rfl rfl (H0.blk 0 rfl) rfl fun w1 u1 => ?_)
  have H1 : UpG w [blk tg #[.string text, .int .i64 ((many : Nat) : Int)] 46] w1 [[blk tg #[.string text, .int .i64 (((many : Nat) : Int) + 1)] 46]] := H0.on 0 rfl u1
  refine WL.done (X.then_code ?_)
  refine W.seq ?_
  refine W.region ?_
  refine WL.op rfl (d_move rfl ?_)
  refine WL.op rfl (d_move rfl ?_)
  refine WL.op rfl (d_nilCheck rfl ?_)
  refine WL.op rfl (d_fieldAddrB fld46_0 rfl rfl ?_)
  refine WL.op rfl (d_loadB Try.underlying9 rfl rfl (H1.blk 0 rfl) rfl ?_)
  refine WL.op rfl (d_concat rfl rfl (by omega) ?_)
  refine WL.op rfl (d_assign rfl ?_)
  refine WL.done (X.then_code ?_)
  refine W.ret (X.ret1 rfl rfl ?_)
  exact ⟨rfl, (Upd.sel H1 (l := [0]) rfl rfl)⟩

set_option maxRecDepth 20000 in
theorem eachN_any (tg : Nat) (w : World) :
    Calls Try.prog 21 #[.pointer none, .func (.func 22) #[.pointer (some ⟨tg, 0, none⟩)] #[]] w (Ret fun v w' => v = .tuple #[] ∧ Upd w [] w' []) := by
  refine calls_of_W (args := [.pointer none, .func (.func 22) #[.pointer (some ⟨tg, 0, none⟩)] #[]]) Try.func21 rfl rfl rfl ?_
  have H0 : UpG w [] w [] := UpG.nil w
  show W _ _ _ _ [(0, .pointer none), (1, .func (.func 22) #[.pointer (some ⟨tg, 0, none⟩)] #[])] w
  refine W.seq ?_
  refine W.seq ?_
  refine W.region ?_
  refine WL.op rfl (d_move rfl ?_)
  refine WL.op rfl (d_ptrnilT Try.underlying24 rfl ?_)
  refine WL.done (X.then_code ?_)
  refine W.ift rfl ?_
  refine W.ret (X.then_ret (X.ret0 rfl ?_))
  exact ⟨rfl, H0.noneL⟩

set_option maxRecDepth 20000 in
theorem each_any (h : HistD) (hg : Nat) (hpa : Option Addr) (hpc : Nat) (hna : Option Addr) (hnc : Nat) (tg : Nat) (text : ByteArray) (many : Nat) (w : World) (hp : Hp w [blk hg #[.slice hpa h.past.length hpc, .slice hna h.next.length hnc, .string h.now, .int .i64 h.most] 79, rowT tyS (.slice hpa h.past.length hpc) 9 h.past, rowT tyS (.slice hna h.next.length hnc) 9 h.next, blk tg #[.string text, .int .i64 ((many : Nat) : Int)] 46]) (hsz : ∀ s, s ∈ allH h → s.size + text.size ≤ 1000000000000000000) (hl : many + h.past.length + h.next.length ≤ 100000) :
    Calls Try.prog 21 #[.pointer (some ⟨hg, 0, none⟩), .func (.func 22) #[.pointer (some ⟨tg, 0, none⟩)] #[]] w (Ret fun v w' => v = .tuple #[] ∧ Upd w [blk hg #[.slice hpa h.past.length hpc, .slice hna h.next.length hnc, .string h.now, .int .i64 h.most] 79, rowT tyS (.slice hpa h.past.length hpc) 9 h.past, rowT tyS (.slice hna h.next.length hnc) 9 h.next, blk tg #[.string text, .int .i64 ((many : Nat) : Int)] 46] w' [blk hg #[.slice hpa (((turnH h text).past).length) hpc, .slice hna (((turnH h text).next).length) hnc, .string ((turnH h text).now), .int .i64 ((turnH h text).most)] 79, rowT tyS (.slice hpa (((turnH h text).past).length) hpc) 9 ((turnH h text).past), rowT tyS (.slice hna (((turnH h text).next).length) hnc) 9 ((turnH h text).next), blk tg #[.string text, .int .i64 ((many + (h.past.length + 1 + h.next.length) : Nat) : Int)] 46]) := by
  refine calls_of_W (args := [.pointer (some ⟨hg, 0, none⟩), .func (.func 22) #[.pointer (some ⟨tg, 0, none⟩)] #[]]) Try.func21 rfl rfl rfl ?_
  have H0 : UpG w [blk hg #[.slice hpa h.past.length hpc, .slice hna h.next.length hnc, .string h.now, .int .i64 h.most] 79, rowT tyS (.slice hpa h.past.length hpc) 9 h.past, rowT tyS (.slice hna h.next.length hnc) 9 h.next, blk tg #[.string text, .int .i64 ((many : Nat) : Int)] 46] w [[blk hg #[.slice hpa h.past.length hpc, .slice hna h.next.length hnc, .string h.now, .int .i64 h.most] 79], [rowT tyS (.slice hpa h.past.length hpc) 9 h.past], [rowT tyS (.slice hna h.next.length hnc) 9 h.next], [blk tg #[.string text, .int .i64 ((many : Nat) : Int)] 46]] := (UpG.refl hp).re rfl
  show W _ _ _ _ [(0, .pointer (some ⟨hg, 0, none⟩)), (1, .func (.func 22) #[.pointer (some ⟨tg, 0, none⟩)] #[])] w
  refine W.seq ?_
  refine W.seq ?_
  refine W.region ?_
  refine WL.op rfl (d_move rfl ?_)
  refine WL.op rfl (d_ptrnilF Try.underlying24 rfl ?_)
  refine WL.done (X.then_code ?_)
  refine W.iff rfl ?_
  refine W.skip (X.then_code ?_)
  refine W.seq ?_
  refine W.seq ?_
  refine W.region ?_
  refine WL.op rfl (d_move rfl ?_)
  refine WL.op rfl (d_nilCheck rfl ?_)
  refine WL.op rfl (d_fieldAddrB fld79_0 rfl rfl ?_)
  refine WL.op rfl (d_loadB Try.underlying26 rfl rfl (H0.blk 0 rfl) rfl ?_)
  refine WL.op rfl (d_lenS Try.underlying26 rfl ?_)
  refine WL.op rfl (d_move rfl ?_)
  refine WL.done (X.then_code ?_)
  refine W.block ?_
  refine W.pick [14, 13, 12, 0, 1] (Γ' := [(14, .int .i64 0), (13, .int .i64 ((h.past.length : Nat) : Int)), (12, .slice hpa h.past.length hpc), (0, .pointer (some ⟨hg, 0, none⟩)), (1, .func (.func 22) #[.pointer (some ⟨tg, 0, none⟩)] #[])]) rfl ?_
  refine W.loop (fun m Γ' w' => ∃ k : Nat, ∃ ps : List ByteArray, ∃ mm : Nat, Γ' = [(14, .int .i64 ((k : Nat) : Int)), (13, .int .i64 ((h.past.length : Nat) : Int)), (12, .slice hpa h.past.length hpc), (0, .pointer (some ⟨hg, 0, none⟩)), (1, .func (.func 22) #[.pointer (some ⟨tg, 0, none⟩)] #[])] ∧ UpG w [blk hg #[.slice hpa h.past.length hpc, .slice hna h.next.length hnc, .string h.now, .int .i64 h.most] 79, rowT tyS (.slice hpa h.past.length hpc) 9 h.past, rowT tyS (.slice hna h.next.length hnc) 9 h.next, blk tg #[.string text, .int .i64 ((many : Nat) : Int)] 46] w' [[blk hg #[.slice hpa h.past.length hpc, .slice hna h.next.length hnc, .string h.now, .int .i64 h.most] 79], [rowT tyS (.slice hpa h.past.length hpc) 9 ps], [rowT tyS (.slice hna h.next.length hnc) 9 h.next], [blk tg #[.string text, .int .i64 ((mm : Nat) : Int)] 46]] ∧ (k ≤ h.past.length) ∧ (ps = turnTo text k h.past) ∧ (ps.length = h.past.length) ∧ (mm = many + k) ∧ m = h.past.length - k) (h.past.length - 0) ⟨0, h.past, many, rfl, H0, (by first | assumption | omega | simp), (by simp [turnTo]), (by rfl), (by rfl), rfl⟩ ?_
  rintro m1 Γ1 w1 ⟨k, ps, mm, rfl, H1, hkl, hps, hpl, hmm, rfl⟩
  refine W.seq ?_
  refine W.region ?_
  refine WL.op rfl (d_cmp (decide (((k : Nat) : Int) < ((h.past.length : Nat) : Int))) rfl rfl rfl ?_)
  refine WL.done (X.then_code ?_)
  refine W.seq ?_
  refine W.ite (p := ((k : Nat) : Int) < ((h.past.length : Nat) : Int)) rfl (fun c98 => ?_) (fun c98 => ?_)
  · skip
    refine W.skip (X.then_code ?_)
    refine W.seq ?_
    refine W.block ?_
    refine W.seq ?_
    refine W.region ?_
    refine WL.op rfl (d_move rfl ?_)
    refine WL.op rfl (t_addr1 k (T := tyS) rfl Try.underlying26 sz9 rfl rfl (H1.rdT 1 rfl) rfl (by omega) ?_)
    refine WL.op rfl (t_load1 k .empty (T := tyS) rfl Try.underlying9 rfl rfl (H1.rdT 1 rfl) (by omega) rfl ?_)
    refine WL.op rfl (d_assign rfl ?_)
    refine WL.op rfl (d_assign rfl ?_)
    refine WL.done (X.then_code ?_)
    refine W.regionD mixed (by kernel_rfl) fun hok1 w2 k1 => ?_
    have H2 : UpG w [blk hg #[.slice hpa h.past.length hpc, .slice hna h.next.length hnc, .string h.now, .int .i64 h.most] 79, rowT tyS (.slice hpa h.past.length hpc) 9 h.past, rowT tyS (.slice hna h.next.length hnc) 9 h.next, blk tg #[.string text, .int .i64 ((many : Nat) : Int)] 46] w2 [[blk hg #[.slice hpa h.past.length hpc, .slice hna h.next.length hnc, .string h.now, .int .i64 h.most] 79], [rowT tyS (.slice hpa h.past.length hpc) 9 ps], [rowT tyS (.slice hna h.next.length hnc) 9 h.next], [blk tg #[.string text, .int .i64 ((mm : Nat) : Int)] 46]] := H1.kept k1
    refine WD.take hok1 0 (.pointer (some ⟨hg, 0, none⟩)) (fun _ => True) rfl rfl rfl rfl rfl trivial (.inl ⟨rfl, fun _ _ => d_move rfl ⟨rfl, rfl⟩⟩) ?_
    refine WD.take hok1 1 (.pointer (some ⟨hg, 0, none⟩)) (fun _ => True) rfl rfl rfl rfl rfl trivial (.inl ⟨rfl, fun _ _ => d_nilCheck rfl ⟨rfl, rfl⟩⟩) ?_
    refine WD.take hok1 2 (.pointer (some ⟨hg, 0, none⟩)) (fun _ => True) rfl rfl rfl rfl rfl trivial (.inl ⟨rfl, fun _ _ => d_fieldAddrB fld79_0 rfl rfl ⟨rfl, rfl⟩⟩) ?_
    refine WD.take hok1 3 (.slice hpa h.past.length hpc) (fun w' => w'.heap[hg]? = some (.cells #[.slice hpa h.past.length hpc, .slice hna h.next.length hnc, .string h.now, .int .i64 h.most] 79 (0, 0))) rfl rfl rfl rfl rfl (H2.blk 0 rfl) (.inl ⟨rfl, fun _ hC => d_loadB Try.underlying26 rfl rfl hC rfl ⟨rfl, rfl⟩⟩) ?_
    refine WD.take hok1 4 (.int .i64 ((k : Nat) : Int)) (fun _ => True) rfl rfl rfl rfl rfl trivial (.inl ⟨rfl, fun _ _ => d_move rfl ⟨rfl, rfl⟩⟩) ?_
    refine WD.take hok1 5 (.func (.func 22) #[.pointer (some ⟨tg, 0, none⟩)] #[]) (fun _ => True) rfl rfl rfl rfl rfl trivial (.inl ⟨rfl, fun _ _ => d_move rfl ⟨rfl, rfl⟩⟩) ?_
    refine WD.take hok1 6 (.string (ps.getD k .empty)) (fun _ => True) rfl rfl rfl rfl rfl trivial (.inl ⟨rfl, fun _ _ => d_move rfl ⟨rfl, rfl⟩⟩) ?_
    refine WD.loud hok1 7 rfl (⟨_, [⟨4, .int .i64 ((k : Nat) : Int), (fun _ => True)⟩, ⟨3, .slice hpa h.past.length hpc, (fun w' => w'.heap[hg]? = some (.cells #[.slice hpa h.past.length hpc, .slice hna h.next.length hnc, .string h.now, .int .i64 h.most] 79 (0, 0)))⟩, ⟨2, .pointer (some ⟨hg, 0, none⟩), (fun _ => True)⟩, ⟨1, .pointer (some ⟨hg, 0, none⟩), (fun _ => True)⟩, ⟨0, .pointer (some ⟨hg, 0, none⟩), (fun _ => True)⟩], rfl, rfl, rfl, rfl, rfl, rfl, d_callv ok22 rfl rfl (Ret.calls (turn_any tg text mm (ps.getD k .empty) w2 (H2.hpOf 3 rfl)  (by rw [hps, turnTo_get _ _ _ (by omega)]; exact hsz _ (mem_past (by omega))) (by omega)) fun _ w3 p1 => ?_)⟩)
    obtain ⟨rfl, u1⟩ := p1
    have H3 : UpG w [blk hg #[.slice hpa h.past.length hpc, .slice hna h.next.length hnc, .string h.now, .int .i64 h.most] 79, rowT tyS (.slice hpa h.past.length hpc) 9 h.past, rowT tyS (.slice hna h.next.length hnc) 9 h.next, blk tg #[.string text, .int .i64 ((many : Nat) : Int)] 46] w3 [[blk hg #[.slice hpa h.past.length hpc, .slice hna h.next.length hnc, .string h.now, .int .i64 h.most] 79], [rowT tyS (.slice hpa h.past.length hpc) 9 ps], [rowT tyS (.slice hna h.next.length hnc) 9 h.next], [blk tg #[.string text, .int .i64 ((mm + 1 : Nat) : Int)] 46]] := H2.on 3 rfl u1
    refine ⟨⟨trivial, (H3.blk 0 rfl), trivial, trivial, trivial, trivial⟩, ?_⟩
    refine WD.take hok1 8 (elemPtr (.slice hpa h.past.length hpc) k) (fun w' => RdT tyS w' (.slice hpa h.past.length hpc) ps) rfl rfl rfl rfl rfl (H3.rdT 1 rfl) (.inl ⟨rfl, fun _ hC => t_addr1 k (T := tyS) rfl Try.underlying26 sz9 rfl rfl hC rfl (by omega) ⟨rfl, rfl⟩⟩) ?_
    refine WD.loud hok1 9 rfl (⟨_, [], rfl, rfl, rfl, rfl, rfl, rfl, t_store1 k ((ps.getD k .empty) ++ text) (T := tyS) (e := 9) rfl sz9 rfl rfl rfl (H3.ownT 1 rfl) (by omega) fun w4 u2 => ?_⟩)
    have H4 : UpG w [blk hg #[.slice hpa h.past.length hpc, .slice hna h.next.length hnc, .string h.now, .int .i64 h.most] 79, rowT tyS (.slice hpa h.past.length hpc) 9 h.past, rowT tyS (.slice hna h.next.length hnc) 9 h.next, blk tg #[.string text, .int .i64 ((many : Nat) : Int)] 46] w4 [[blk hg #[.slice hpa h.past.length hpc, .slice hna h.next.length hnc, .string h.now, .int .i64 h.most] 79], [rowT tyS (.slice hpa h.past.length hpc) 9 (ps.set k ((ps.getD k .empty) ++ text))], [rowT tyS (.slice hna h.next.length hnc) 9 h.next], [blk tg #[.string text, .int .i64 ((mm + 1 : Nat) : Int)] 46]] := H3.on 1 rfl u2
    refine ⟨trivial, ?_⟩
    refine WD.done hok1 rfl (X.block_normal (X.then_code ?_))
    refine W.pick [27, 26, 25, 24, 23, 22, 21, 20, 19, 5, 4, 18, 17, 16, 15, 14, 13, 12, 0, 1] (Γ' := [(27, elemPtr (.slice hpa h.past.length hpc) k), (26, .string ((ps.getD k .empty) ++ text)), (25, .string (ps.getD k .empty)), (24, .func (.func 22) #[.pointer (some ⟨tg, 0, none⟩)] #[]), (23, .int .i64 ((k : Nat) : Int)), (22, .slice hpa h.past.length hpc), (21, .pointer (some ⟨hg, 0, none⟩)), (20, .pointer (some ⟨hg, 0, none⟩)), (19, .pointer (some ⟨hg, 0, none⟩)), (5, .string (ps.getD k .empty)), (4, .int .i64 ((k : Nat) : Int)), (18, .string (ps.getD k .empty)), (17, elemPtr (.slice hpa h.past.length hpc) k), (16, .int .i64 ((k : Nat) : Int)), (15, .bool (decide (((k : Nat) : Int) < ((h.past.length : Nat) : Int)))), (14, .int .i64 ((k : Nat) : Int)), (13, .int .i64 ((h.past.length : Nat) : Int)), (12, .slice hpa h.past.length hpc), (0, .pointer (some ⟨hg, 0, none⟩)), (1, .func (.func 22) #[.pointer (some ⟨tg, 0, none⟩)] #[])]) rfl ?_
    refine W.region ?_
    refine WL.op rfl (d_add rfl rfl (by omega) (by omega) ?_)
    refine WL.op rfl (d_move rfl ?_)
    refine WL.done ?_
    exact X.next [14, 13, 12, 0, 1] (Γ' := [(14, .int .i64 (((k + 1) : Nat) : Int)), (13, .int .i64 ((h.past.length : Nat) : Int)), (12, .slice hpa h.past.length hpc), (0, .pointer (some ⟨hg, 0, none⟩)), (1, .func (.func 22) #[.pointer (some ⟨tg, 0, none⟩)] #[])]) rfl (h.past.length - (k + 1)) (by omega) ⟨k + 1, ps.set k ((ps.getD k .empty) ++ text), mm + 1, rfl, (H4.re rfl), (by first | assumption | omega | simp), (by rw [hps, turnTo_get _ _ _ (by omega)]; exact turnTo_set _ _ _ (by omega)), (by simp; omega), (by omega), rfl⟩
  · skip
    refine W.exit (X.then_exit (X.then_exit (X.block_exit (X.then_code ?_))))
    refine W.seq ?_
    refine W.region ?_
    refine WL.op rfl (d_move rfl ?_)
    refine WL.op rfl (d_move rfl ?_)
    refine WL.op rfl (d_move rfl ?_)
    refine WL.op rfl (d_nilCheck rfl ?_)
    refine WL.op rfl (d_fieldAddrB fld79_2 rfl rfl ?_)
    refine WL.op rfl (d_loadB Try.underlying9 rfl rfl (H1.blk 0 rfl) rfl ?_)
    refine WL.op rfl (d_callv ok22 rfl rfl (Ret.calls (turn_any tg text mm h.now w1 (H1.hpOf 3 rfl)  (hsz _ mem_now) (by omega)) fun _ w5 p2 => ?_))
    obtain ⟨rfl, u3⟩ := p2
    have H5 : UpG w [blk hg #[.slice hpa h.past.length hpc, .slice hna h.next.length hnc, .string h.now, .int .i64 h.most] 79, rowT tyS (.slice hpa h.past.length hpc) 9 h.past, rowT tyS (.slice hna h.next.length hnc) 9 h.next, blk tg #[.string text, .int .i64 ((many : Nat) : Int)] 46] w5 [[blk hg #[.slice hpa h.past.length hpc, .slice hna h.next.length hnc, .string h.now, .int .i64 h.most] 79], [rowT tyS (.slice hpa h.past.length hpc) 9 ps], [rowT tyS (.slice hna h.next.length hnc) 9 h.next], [blk tg #[.string text, .int .i64 ((mm + 1 : Nat) : Int)] 46]] := H1.on 3 rfl u3
    refine WL.op rfl (d_nilCheck rfl ?_)
    refine WL.op rfl (d_fieldAddrB fld79_2 rfl rfl ?_)
    refine WL.op0 (d_storeB sz9 rfl rfl rfl (H5.blk 0 rfl) rfl fun w6 u4 => ?_)
    have H6 : UpG w [blk hg #[.slice hpa h.past.length hpc, .slice hna h.next.length hnc, .string h.now, .int .i64 h.most] 79, rowT tyS (.slice hpa h.past.length hpc) 9 h.past, rowT tyS (.slice hna h.next.length hnc) 9 h.next, blk tg #[.string text, .int .i64 ((many : Nat) : Int)] 46] w6 [[blk hg #[.slice hpa h.past.length hpc, .slice hna h.next.length hnc, .string (h.now ++ text), .int .i64 h.most] 79], [rowT tyS (.slice hpa h.past.length hpc) 9 ps], [rowT tyS (.slice hna h.next.length hnc) 9 h.next], [blk tg #[.string text, .int .i64 ((mm + 1 : Nat) : Int)] 46]] := H5.on 0 rfl u4
    refine WL.done (X.then_code ?_)
    refine W.seq ?_
    refine W.region ?_
    refine WL.op rfl (d_move rfl ?_)
    refine WL.op rfl (d_nilCheck rfl ?_)
    refine WL.op rfl (d_fieldAddrB fld79_1 rfl rfl ?_)
    refine WL.op rfl (d_loadB Try.underlying26 rfl rfl (H6.blk 0 rfl) rfl ?_)
    refine WL.op rfl (d_lenS Try.underlying26 rfl ?_)
    refine WL.op rfl (d_sub rfl rfl (by omega) (by omega) ?_)
    refine WL.op rfl (d_assign rfl ?_)
    refine WL.done (X.then_code ?_)
    refine W.pick [6, 0, 1] (Γ' := [(6, .int .i64 (((h.next.length : Nat) : Int) - 1)), (0, .pointer (some ⟨hg, 0, none⟩)), (1, .func (.func 22) #[.pointer (some ⟨tg, 0, none⟩)] #[])]) rfl ?_
    refine W.block ?_
    refine W.pick [6, 0, 1] (Γ' := [(6, .int .i64 (((h.next.length : Nat) : Int) - 1)), (0, .pointer (some ⟨hg, 0, none⟩)), (1, .func (.func 22) #[.pointer (some ⟨tg, 0, none⟩)] #[])]) rfl ?_
    refine W.loop (fun m Γ' w' => ∃ i : Int, ∃ qs : List ByteArray, ∃ m2 : Nat, Γ' = [(6, .int .i64 i), (0, .pointer (some ⟨hg, 0, none⟩)), (1, .func (.func 22) #[.pointer (some ⟨tg, 0, none⟩)] #[])] ∧ UpG w [blk hg #[.slice hpa h.past.length hpc, .slice hna h.next.length hnc, .string h.now, .int .i64 h.most] 79, rowT tyS (.slice hpa h.past.length hpc) 9 h.past, rowT tyS (.slice hna h.next.length hnc) 9 h.next, blk tg #[.string text, .int .i64 ((many : Nat) : Int)] 46] w' [[blk hg #[.slice hpa h.past.length hpc, .slice hna h.next.length hnc, .string (h.now ++ text), .int .i64 h.most] 79], [rowT tyS (.slice hpa h.past.length hpc) 9 ps], [rowT tyS (.slice hna h.next.length hnc) 9 qs], [blk tg #[.string text, .int .i64 ((m2 : Nat) : Int)] 46]] ∧ (-1 ≤ i ∧ i < (h.next.length : Int)) ∧ (qs = turnFr text (i + 1).toNat h.next) ∧ (qs.length = h.next.length) ∧ ((m2 : Int) = many + h.past.length + 1 + (h.next.length - 1 - i)) ∧ m = (i + 1).toNat) (((((h.next.length : Nat) : Int) - 1) + 1).toNat) ⟨((h.next.length : Nat) : Int) - 1, h.next, mm + 1, rfl, (H6.re rfl), (by omega), (by rw [show (((h.next.length : Nat) : Int) - 1 + 1).toNat = h.next.length by omega]; simp [turnFr]), (by rfl), (by omega), rfl⟩ ?_
    rintro m2 Γ2 w7 ⟨i, qs, m2, rfl, H7, hi, hqs, hql, hm2, rfl⟩
    refine W.seq ?_
    refine W.seq ?_
    refine W.region ?_
    refine WL.op rfl (d_move rfl ?_)
    refine WL.op rfl (d_cmp (decide (i ≥ (0 : Int))) rfl rfl rfl ?_)
    refine WL.done (X.then_code ?_)
    refine W.ite (p := i ≥ (0 : Int)) rfl (fun c102 => ?_) (fun c102 => ?_)
    · skip
      refine W.skip (X.then_code ?_)
      refine W.seq ?_
      refine W.block ?_
      refine W.regionD mixed (by kernel_rfl) fun hok2 w8 k2 => ?_
      have H8 : UpG w [blk hg #[.slice hpa h.past.length hpc, .slice hna h.next.length hnc, .string h.now, .int .i64 h.most] 79, rowT tyS (.slice hpa h.past.length hpc) 9 h.past, rowT tyS (.slice hna h.next.length hnc) 9 h.next, blk tg #[.string text, .int .i64 ((many : Nat) : Int)] 46] w8 [[blk hg #[.slice hpa h.past.length hpc, .slice hna h.next.length hnc, .string (h.now ++ text), .int .i64 h.most] 79], [rowT tyS (.slice hpa h.past.length hpc) 9 ps], [rowT tyS (.slice hna h.next.length hnc) 9 qs], [blk tg #[.string text, .int .i64 ((m2 : Nat) : Int)] 46]] := H7.kept k2
      refine WD.take hok2 0 (.pointer (some ⟨hg, 0, none⟩)) (fun _ => True) rfl rfl rfl rfl rfl trivial (.inl ⟨rfl, fun _ _ => d_move rfl ⟨rfl, rfl⟩⟩) ?_
      refine WD.take hok2 1 (.pointer (some ⟨hg, 0, none⟩)) (fun _ => True) rfl rfl rfl rfl rfl trivial (.inl ⟨rfl, fun _ _ => d_nilCheck rfl ⟨rfl, rfl⟩⟩) ?_
      refine WD.take hok2 2 (.pointer (some ⟨hg, 1, none⟩)) (fun _ => True) rfl rfl rfl rfl rfl trivial (.inl ⟨rfl, fun _ _ => d_fieldAddrB fld79_1 rfl rfl ⟨rfl, rfl⟩⟩) ?_
      refine WD.take hok2 3 (.slice hna h.next.length hnc) (fun w' => w'.heap[hg]? = some (.cells #[.slice hpa h.past.length hpc, .slice hna h.next.length hnc, .string (h.now ++ text), .int .i64 h.most] 79 (0, 0))) rfl rfl rfl rfl rfl (H8.blk 0 rfl) (.inl ⟨rfl, fun _ hC => d_loadB Try.underlying26 rfl rfl hC rfl ⟨rfl, rfl⟩⟩) ?_
      refine WD.take hok2 4 (.int .i64 i) (fun _ => True) rfl rfl rfl rfl rfl trivial (.inl ⟨rfl, fun _ _ => d_move rfl ⟨rfl, rfl⟩⟩) ?_
      refine WD.take hok2 5 (.func (.func 22) #[.pointer (some ⟨tg, 0, none⟩)] #[]) (fun _ => True) rfl rfl rfl rfl rfl trivial (.inl ⟨rfl, fun _ _ => d_move rfl ⟨rfl, rfl⟩⟩) ?_
      refine WD.take hok2 6 (.pointer (some ⟨hg, 0, none⟩)) (fun _ => True) rfl rfl rfl rfl rfl trivial (.inl ⟨rfl, fun _ _ => d_move rfl ⟨rfl, rfl⟩⟩) ?_
      refine WD.take hok2 7 (.pointer (some ⟨hg, 0, none⟩)) (fun _ => True) rfl rfl rfl rfl rfl trivial (.inl ⟨rfl, fun _ _ => d_nilCheck rfl ⟨rfl, rfl⟩⟩) ?_
      refine WD.take hok2 8 (.pointer (some ⟨hg, 1, none⟩)) (fun _ => True) rfl rfl rfl rfl rfl trivial (.inl ⟨rfl, fun _ _ => d_fieldAddrB fld79_1 rfl rfl ⟨rfl, rfl⟩⟩) ?_
      refine WD.take hok2 9 (.slice hna h.next.length hnc) (fun w' => w'.heap[hg]? = some (.cells #[.slice hpa h.past.length hpc, .slice hna h.next.length hnc, .string (h.now ++ text), .int .i64 h.most] 79 (0, 0))) rfl rfl rfl rfl rfl (H8.blk 0 rfl) (.inl ⟨rfl, fun _ hC => d_loadB Try.underlying26 rfl rfl hC rfl ⟨rfl, rfl⟩⟩) ?_
      refine WD.take hok2 10 (.int .i64 i) (fun _ => True) rfl rfl rfl rfl rfl trivial (.inl ⟨rfl, fun _ _ => d_move rfl ⟨rfl, rfl⟩⟩) ?_
      refine WD.take hok2 11 (elemPtr (.slice hna h.next.length hnc) i.toNat) (fun w' => RdT tyS w' (.slice hna h.next.length hnc) qs) rfl rfl rfl rfl rfl (H8.rdT 2 rfl) (.inl ⟨rfl, fun _ hC => t_addr1 i.toNat (T := tyS) rfl Try.underlying26 sz9 rfl rfl hC (by omega) (by omega) ⟨rfl, rfl⟩⟩) ?_
      refine WD.take hok2 12 (.string (qs.getD i.toNat .empty)) (fun w' => RdT tyS w' (.slice hna h.next.length hnc) qs) rfl rfl rfl rfl rfl (H8.rdT 2 rfl) (.inl ⟨rfl, fun _ hC => t_load1 i.toNat .empty (T := tyS) rfl Try.underlying9 rfl rfl hC (by omega) rfl ⟨rfl, rfl⟩⟩) ?_
      refine WD.loud hok2 13 rfl (⟨_, [⟨4, .int .i64 i, (fun _ => True)⟩, ⟨3, .slice hna h.next.length hnc, (fun w' => w'.heap[hg]? = some (.cells #[.slice hpa h.past.length hpc, .slice hna h.next.length hnc, .string (h.now ++ text), .int .i64 h.most] 79 (0, 0)))⟩, ⟨2, .pointer (some ⟨hg, 1, none⟩), (fun _ => True)⟩, ⟨1, .pointer (some ⟨hg, 0, none⟩), (fun _ => True)⟩, ⟨0, .pointer (some ⟨hg, 0, none⟩), (fun _ => True)⟩], rfl, rfl, rfl, rfl, rfl, rfl, d_callv ok22 rfl rfl (Ret.calls (turn_any tg text m2 (qs.getD i.toNat .empty) w8 (H8.hpOf 3 rfl)  (by rw [hqs, show (i + 1).toNat = i.toNat + 1 by omega, turnFr_get _ _ _ (by omega)]; exact hsz _ (mem_next (by omega))) (by omega)) fun _ w9 p3 => ?_)⟩)
      obtain ⟨rfl, u5⟩ := p3
      have H9 : UpG w [blk hg #[.slice hpa h.past.length hpc, .slice hna h.next.length hnc, .string h.now, .int .i64 h.most] 79, rowT tyS (.slice hpa h.past.length hpc) 9 h.past, rowT tyS (.slice hna h.next.length hnc) 9 h.next, blk tg #[.string text, .int .i64 ((many : Nat) : Int)] 46] w9 [[blk hg #[.slice hpa h.past.length hpc, .slice hna h.next.length hnc, .string (h.now ++ text), .int .i64 h.most] 79], [rowT tyS (.slice hpa h.past.length hpc) 9 ps], [rowT tyS (.slice hna h.next.length hnc) 9 qs], [blk tg #[.string text, .int .i64 ((m2 + 1 : Nat) : Int)] 46]] := H8.on 3 rfl u5
      refine ⟨⟨trivial, (H9.blk 0 rfl), trivial, trivial, trivial, trivial⟩, ?_⟩
      refine WD.take hok2 14 (elemPtr (.slice hna h.next.length hnc) i.toNat) (fun w' => RdT tyS w' (.slice hna h.next.length hnc) qs) rfl rfl rfl rfl rfl (H9.rdT 2 rfl) (.inl ⟨rfl, fun _ hC => t_addr1 i.toNat (T := tyS) rfl Try.underlying26 sz9 rfl rfl hC (by omega) (by omega) ⟨rfl, rfl⟩⟩) ?_
      refine WD.loud hok2 15 rfl (⟨_, [], rfl, rfl, rfl, rfl, rfl, rfl, t_store1 i.toNat ((qs.getD i.toNat .empty) ++ text) (T := tyS) (e := 9) rfl sz9 rfl rfl rfl (H9.ownT 2 rfl) (by omega) fun w10 u6 => ?_⟩)
      have H10 : UpG w [blk hg #[.slice hpa h.past.length hpc, .slice hna h.next.length hnc, .string h.now, .int .i64 h.most] 79, rowT tyS (.slice hpa h.past.length hpc) 9 h.past, rowT tyS (.slice hna h.next.length hnc) 9 h.next, blk tg #[.string text, .int .i64 ((many : Nat) : Int)] 46] w10 [[blk hg #[.slice hpa h.past.length hpc, .slice hna h.next.length hnc, .string (h.now ++ text), .int .i64 h.most] 79], [rowT tyS (.slice hpa h.past.length hpc) 9 ps], [rowT tyS (.slice hna h.next.length hnc) 9 (qs.set i.toNat ((qs.getD i.toNat .empty) ++ text))], [blk tg #[.string text, .int .i64 ((m2 + 1 : Nat) : Int)] 46]] := H9.on 2 rfl u6
      refine ⟨trivial, ?_⟩
      refine WD.done hok2 rfl (X.block_normal (X.then_code ?_))
      refine W.pick [62, 61, 60, 59, 58, 57, 56, 55, 54, 53, 52, 51, 50, 49, 48, 45, 44, 6, 0, 1] (Γ' := [(62, elemPtr (.slice hna h.next.length hnc) i.toNat), (61, .string ((qs.getD i.toNat .empty) ++ text)), (60, .string (qs.getD i.toNat .empty)), (59, elemPtr (.slice hna h.next.length hnc) i.toNat), (58, .int .i64 i), (57, .slice hna h.next.length hnc), (56, .pointer (some ⟨hg, 1, none⟩)), (55, .pointer (some ⟨hg, 0, none⟩)), (54, .pointer (some ⟨hg, 0, none⟩)), (53, .func (.func 22) #[.pointer (some ⟨tg, 0, none⟩)] #[]), (52, .int .i64 i), (51, .slice hna h.next.length hnc), (50, .pointer (some ⟨hg, 1, none⟩)), (49, .pointer (some ⟨hg, 0, none⟩)), (48, .pointer (some ⟨hg, 0, none⟩)), (45, .bool (decide (i ≥ (0 : Int)))), (44, .int .i64 i), (6, .int .i64 i), (0, .pointer (some ⟨hg, 0, none⟩)), (1, .func (.func 22) #[.pointer (some ⟨tg, 0, none⟩)] #[])]) rfl ?_
      refine W.region ?_
      refine WL.op rfl (d_move rfl ?_)
      refine WL.op rfl (d_sub rfl rfl (by omega) (by omega) ?_)
      refine WL.op rfl (d_assign rfl ?_)
      refine WL.done ?_
      exact X.next [6, 0, 1] (Γ' := [(6, .int .i64 (i - 1)), (0, .pointer (some ⟨hg, 0, none⟩)), (1, .func (.func 22) #[.pointer (some ⟨tg, 0, none⟩)] #[])]) rfl (((i - 1) + 1).toNat) (by omega) ⟨i - 1, qs.set i.toNat ((qs.getD i.toNat .empty) ++ text), m2 + 1, rfl, (H10.re rfl), (by omega), (by rw [hqs, show (i + 1).toNat = i.toNat + 1 by omega, turnFr_get _ _ _ (by omega), turnFr_set _ _ _ (by omega), show (i - 1 + 1).toNat = i.toNat by omega]), (by simp; omega), (by omega), rfl⟩
    · skip
      refine W.exit (X.then_exit (X.then_exit (X.block_exit (X.end0 rfl ?_))))
      have e1 := turnH_past hps (by omega)
      have e2 := turnH_next hqs hi.1 (by omega)
      have e5 : many + (h.past.length + 1 + h.next.length) = m2 := by omega
      rw [e1, e2, hpl, hql, e5]
      exact ⟨rfl, (Upd.sel H7 (l := [0, 1, 2, 3]) rfl rfl)⟩

set_option maxRecDepth 20000 in
theorem leach_any (first : ByteArray) (la : Option Addr) (l : List DeedD) (lc : Nat) (text : ByteArray) (w : World) (rl : RdT tyDeed w (.slice la l.length lc) l) (hk : ∀ i, i < l.length → 0 ≤ (l.getD i deed0).kind ∧ (l.getD i deed0).kind ≤ 255) (hs1 : first.size ≤ 140737488351232) (hs2 : text.size ≤ 140737488351232) (hs3 : ∀ i, i < l.length → (l.getD i deed0).text.size ≤ 140737488351232) :
    Calls Try.prog 5 #[.string first, .slice la l.length lc, .string text] w (Ret fun v w' => v = .bool true ∧ Upd w [] w' []) := by
  have le_rl := rl.le
  refine calls_of_W (args := [.string first, .slice la l.length lc, .string text]) Try.func5 rfl rfl rfl ?_
  have H0 : UpG w [] w [] := UpG.nil w
  show W _ _ _ _ [(0, .string first), (1, .slice la l.length lc), (2, .string text)] w
  refine W.seq ?_
  refine W.region ?_
  refine WL.op rfl (d_assign rfl ?_)
  refine WL.done (X.then_code ?_)
  refine W.seq ?_
  refine W.seq ?_
  refine W.region ?_
  refine WL.op rfl (d_call ok11 rfl (Ret.calls (awake_any  w  ) fun _ w1 p1 => ?_))
  obtain ⟨rfl, u1⟩ := p1
  have H1 : UpG w [] w1 [] := H0.call u1
  refine WL.op rfl (d_notB rfl ?_)
  refine WL.done (X.then_code ?_)
  refine W.iff rfl ?_
  refine W.skip (X.then_code ?_)
  refine W.seq ?_
  refine W.region ?_
  refine WL.op rfl (d_move rfl ?_)
  refine WL.op rfl (d_call ok12 rfl (Ret.calls (new_any first 100 w1  ) fun _ w2 p2 => ?_))
  obtain ⟨g_1, rfl, u2⟩ := p2
  have H2 : UpG w [] w2 [[blk g_1 #[.slice none (([] : List ByteArray).length) 0, .slice none (([] : List ByteArray).length) 0, .string first, .int .i64 (max 100 0)] 79, rowT tyS (.slice none (([] : List ByteArray).length) 0) 9 ([] : List ByteArray), rowT tyS (.slice none (([] : List ByteArray).length) 0) 9 ([] : List ByteArray)]] := (H1.new' u2).re rfl
  refine WL.op rfl (d_assign rfl ?_)
  refine WL.done (X.then_code ?_)
  refine W.seq ?_
  refine W.region ?_
  refine WL.op rfl (d_move rfl ?_)
  refine WL.op rfl (t_buildSlice (T := tyS) (xs := [first]) (cs := #[.string first]) rfl Try.underlying26 sz9 rfl rfl rfl rfl (by kernel_rfl) rfl rfl fun w3 u3 => ?_)
  have H3 : UpG w [] w3 [[blk g_1 #[.slice none (([] : List ByteArray).length) 0, .slice none (([] : List ByteArray).length) 0, .string first, .int .i64 (max 100 0)] 79, rowT tyS (.slice none (([] : List ByteArray).length) 0) 9 ([] : List ByteArray), rowT tyS (.slice none (([] : List ByteArray).length) 0) 9 ([] : List ByteArray)], [rowT tyS (.slice (some ⟨w2.heap.size, 0, none⟩) ([first].length) ([first].length)) 9 [first]]] := H2.new' u3
  refine WL.op rfl (d_build (cs := #[.slice (some ⟨w2.heap.size, 0, none⟩) ([first].length) ([first].length), .int .i64 0, .int .i64 100]) rfl (by kernel_rfl) ?_)
  refine WL.op rfl (d_alloc sz28 fun w4 u4 => ?_)
  have H4 : UpG w [] w4 [[blk g_1 #[.slice none (([] : List ByteArray).length) 0, .slice none (([] : List ByteArray).length) 0, .string first, .int .i64 (max 100 0)] 79, rowT tyS (.slice none (([] : List ByteArray).length) 0) 9 ([] : List ByteArray), rowT tyS (.slice none (([] : List ByteArray).length) 0) 9 ([] : List ByteArray)], [rowT tyS (.slice (some ⟨w2.heap.size, 0, none⟩) ([first].length) ([first].length)) 9 [first]], [blk w3.heap.size #[.slice none 0 0, .int .i64 0, .int .i64 0] 28]] := H3.new' u4
  refine WL.op0 (d_storeAB (us := [.slice (some ⟨w2.heap.size, 0, none⟩) ([first].length) ([first].length), .int .i64 0, .int .i64 100]) (cs' := #[.slice (some ⟨w2.heap.size, 0, none⟩) ([first].length) ([first].length), .int .i64 0, .int .i64 100]) sz28 rfl rfl rfl rfl (H4.blk 2 rfl) rfl rfl fun w5 u5 => ?_)
  have H5 : UpG w [] w5 [[blk g_1 #[.slice none (([] : List ByteArray).length) 0, .slice none (([] : List ByteArray).length) 0, .string first, .int .i64 (max 100 0)] 79, rowT tyS (.slice none (([] : List ByteArray).length) 0) 9 ([] : List ByteArray), rowT tyS (.slice none (([] : List ByteArray).length) 0) 9 ([] : List ByteArray)], [rowT tyS (.slice (some ⟨w2.heap.size, 0, none⟩) ([first].length) ([first].length)) 9 [first]], [blk w3.heap.size #[.slice (some ⟨w2.heap.size, 0, none⟩) ([first].length) ([first].length), .int .i64 0, .int .i64 100] 28]] := H4.on 2 rfl u5
  refine WL.done (X.then_code ?_)
  refine W.seq ?_
  refine W.seq ?_
  refine W.region ?_
  refine WL.op rfl (d_assign rfl ?_)
  refine WL.done (X.then_code ?_)
  refine W.block ?_
  refine W.pick [9, 8, 7, 6, 1, 2] (Γ' := [(9, .int .i64 0), (8, .pointer (some ⟨w3.heap.size, 0, none⟩)), (7, .pointer (some ⟨g_1, 0, none⟩)), (6, .bool false), (1, .slice la l.length lc), (2, .string text)]) rfl ?_
  refine W.loop (fun m Γ' w' => ∃ i : Nat, ∃ h : HistD, ∃ r : RowD, ∃ pa : Option Addr, ∃ pc : Nat, ∃ na : Option Addr, ∃ nc : Nat, ∃ ra : Option Addr, ∃ rc : Nat, Γ' = [(9, .int .i64 ((i : Nat) : Int)), (8, .pointer (some ⟨w3.heap.size, 0, none⟩)), (7, .pointer (some ⟨g_1, 0, none⟩)), (6, .bool false), (1, .slice la l.length lc), (2, .string text)] ∧ UpG w [] w' [[blk g_1 #[.slice pa h.past.length pc, .slice na h.next.length nc, .string h.now, .int .i64 h.most] 79, rowT tyS (.slice pa h.past.length pc) 9 h.past, rowT tyS (.slice na h.next.length nc) 9 h.next], [rowT tyS (.slice ra r.l.length rc) 9 r.l], [blk w3.heap.size #[.slice ra r.l.length rc, .int .i64 ((r.at_ : Nat) : Int), .int .i64 r.most] 28]] ∧ (i ≤ 60) ∧ (Rel h r) ∧ (h.past.length + h.next.length ≤ i) ∧ (∀ s, s ∈ allH h → s.size ≤ 140737488351232) ∧ m = 60 - i) (60 - 0) ⟨0, (⟨[], [], first, max 100 0⟩ : HistD), (⟨[first], 0, 100⟩ : RowD), none, 0, none, 0, (some ⟨w2.heap.size, 0, none⟩), [first].length, rfl, (H5.re rfl), (by omega), (by exact rel_new _ _), (by simp), (by intro s hs; simp [allH] at hs; subst hs; exact hs1), rfl⟩ ?_
  rintro m1 Γ1 w6 ⟨i, h, r, pa, pc, na, nc, ra, rc, rfl, H6, hi, hr, hlen, hq, rfl⟩
  refine W.seq ?_
  refine W.seq ?_
  refine W.region ?_
  refine WL.op rfl (d_move rfl ?_)
  refine WL.op rfl (d_move rfl ?_)
  refine WL.op rfl (d_lenS Try.underlying22 rfl ?_)
  refine WL.op rfl (d_cmp (decide (((i : Nat) : Int) < ((l.length : Nat) : Int))) rfl rfl rfl ?_)
  refine WL.op rfl (d_move rfl ?_)
  refine WL.part 31 (p := ((i : Nat) : Int) < ((l.length : Nat) : Int)) rfl (fun g126 => ?_) (fun g126 => ?_)
  · skip
    refine WL.opG rfl rfl rfl (d_move rfl ?_)
    refine WL.opG rfl rfl rfl (d_cmp (decide (((i : Nat) : Int) < (60 : Int))) rfl rfl rfl ?_)
    refine WL.op rfl (d_pick rfl rfl ?_)
    refine WL.done (X.then_code ?_)
    refine W.ite (p := ((i : Nat) : Int) < (60 : Int)) rfl (fun c126 => ?_) (fun c126 => ?_)
    · skip
      refine W.skip (X.then_code ?_)
      refine W.seq ?_
      refine W.block ?_
      refine W.regionD mixed (by kernel_rfl) fun hok1 w7 k1 => ?_
      have H7 : UpG w [] w7 [[blk g_1 #[.slice pa h.past.length pc, .slice na h.next.length nc, .string h.now, .int .i64 h.most] 79, rowT tyS (.slice pa h.past.length pc) 9 h.past, rowT tyS (.slice na h.next.length nc) 9 h.next], [rowT tyS (.slice ra r.l.length rc) 9 r.l], [blk w3.heap.size #[.slice ra r.l.length rc, .int .i64 ((r.at_ : Nat) : Int), .int .i64 r.most] 28]] := H6.kept k1
      refine WD.take hok1 0 (.pointer (some ⟨g_1, 0, none⟩)) (fun _ => True) rfl rfl rfl rfl rfl trivial (.inl ⟨rfl, fun _ _ => d_move rfl ⟨rfl, rfl⟩⟩) ?_
      refine WD.take hok1 1 (.agg #[.slice ra r.l.length rc, .int .i64 ((r.at_ : Nat) : Int), .int .i64 r.most]) (fun w' => w'.heap[w3.heap.size]? = some (.cells #[.slice ra r.l.length rc, .int .i64 ((r.at_ : Nat) : Int), .int .i64 r.most] 28 (0, 0))) rfl rfl rfl rfl rfl (H7.blk 2 rfl) (.inl ⟨rfl, fun _ hC => d_loadAB [.slice ra r.l.length rc, .int .i64 ((r.at_ : Nat) : Int), .int .i64 r.most] Try.underlying28 rfl sz28 rfl hC rfl rfl ⟨rfl, rfl⟩⟩) ?_
      refine WD.take hok1 2 (.slice la l.length lc) (fun _ => True) rfl rfl rfl rfl rfl trivial (.inl ⟨rfl, fun _ _ => d_move rfl ⟨rfl, rfl⟩⟩) ?_
      refine WD.take hok1 3 (.int .i64 ((i : Nat) : Int)) (fun _ => True) rfl rfl rfl rfl rfl trivial (.inl ⟨rfl, fun _ _ => d_move rfl ⟨rfl, rfl⟩⟩) ?_
      refine WD.take hok1 4 (elemPtr (.slice la l.length lc) (i * 2)) (fun w' => RdT tyDeed w' (.slice la l.length lc) l) rfl rfl rfl rfl rfl (rl.at H7) (.inl ⟨rfl, fun _ hC => t_addrN i (T := tyDeed) rfl Try.underlying22 sz32 rfl rfl hC rfl (by omega) ⟨rfl, rfl⟩⟩) ?_
      refine WD.take hok1 5 (.agg #[.int .u8 ((l.getD i deed0).kind), .string ((l.getD i deed0).text)]) (fun w' => RdT tyDeed w' (.slice la l.length lc) l) rfl rfl rfl rfl rfl (rl.at H7) (.inl ⟨rfl, fun _ hC => t_loadN i deed0 (T := tyDeed) (us := [.int .u8 ((l.getD i deed0).kind), .string ((l.getD i deed0).text)]) rfl Try.underlying32 rfl sz32 rfl hC (by omega) rfl ⟨rfl, rfl⟩⟩) ?_
      refine WD.loud hok1 6 rfl (⟨_, [], rfl, rfl, rfl, rfl, rfl, rfl, d_call ok13 rfl (Ret.calls (ldo_any h g_1 pa pc na nc r ra rc (l.getD i deed0) w7 (H7.hp2 0 1 rfl rfl rfl)  hr (by omega) (hk _ (by omega))) fun _ w8 p3 => ?_)⟩)
      obtain ⟨pa2_1, pc2_1, na2_1, nc2_1, ra2_1, rc2_1, rfl, u6⟩ := p3
      have H8 : UpG w [] w8 [[blk g_1 #[.slice pa2_1 (((stepH h ((l.getD i deed0).kind) ((l.getD i deed0).text)).past).length) pc2_1, .slice na2_1 (((stepH h ((l.getD i deed0).kind) ((l.getD i deed0).text)).next).length) nc2_1, .string ((stepH h ((l.getD i deed0).kind) ((l.getD i deed0).text)).now), .int .i64 ((stepH h ((l.getD i deed0).kind) ((l.getD i deed0).text)).most)] 79, rowT tyS (.slice pa2_1 (((stepH h ((l.getD i deed0).kind) ((l.getD i deed0).text)).past).length) pc2_1) 9 ((stepH h ((l.getD i deed0).kind) ((l.getD i deed0).text)).past), rowT tyS (.slice na2_1 (((stepH h ((l.getD i deed0).kind) ((l.getD i deed0).text)).next).length) nc2_1) 9 ((stepH h ((l.getD i deed0).kind) ((l.getD i deed0).text)).next)], [rowT tyS (.slice ra2_1 (((stepR r ((l.getD i deed0).kind) ((l.getD i deed0).text)).l).length) rc2_1) 9 ((stepR r ((l.getD i deed0).kind) ((l.getD i deed0).text)).l)], [blk w3.heap.size #[.slice ra r.l.length rc, .int .i64 ((r.at_ : Nat) : Int), .int .i64 r.most] 28]] := (H7.on2 (A' := [blk g_1 #[.slice pa2_1 (((stepH h ((l.getD i deed0).kind) ((l.getD i deed0).text)).past).length) pc2_1, .slice na2_1 (((stepH h ((l.getD i deed0).kind) ((l.getD i deed0).text)).next).length) nc2_1, .string ((stepH h ((l.getD i deed0).kind) ((l.getD i deed0).text)).now), .int .i64 ((stepH h ((l.getD i deed0).kind) ((l.getD i deed0).text)).most)] 79, rowT tyS (.slice pa2_1 (((stepH h ((l.getD i deed0).kind) ((l.getD i deed0).text)).past).length) pc2_1) 9 ((stepH h ((l.getD i deed0).kind) ((l.getD i deed0).text)).past), rowT tyS (.slice na2_1 (((stepH h ((l.getD i deed0).kind) ((l.getD i deed0).text)).next).length) nc2_1) 9 ((stepH h ((l.getD i deed0).kind) ((l.getD i deed0).text)).next)]) (B' := [rowT tyS (.slice ra2_1 (((stepR r ((l.getD i deed0).kind) ((l.getD i deed0).text)).l).length) rc2_1) 9 ((stepR r ((l.getD i deed0).kind) ((l.getD i deed0).text)).l)]) (C := []) 0 1 rfl rfl rfl u6).re rfl
      refine ⟨trivial, ?_⟩
      refine WD.take hok1 7 (.tuple #[.agg #[.slice ra2_1 (((stepR r ((l.getD i deed0).kind) ((l.getD i deed0).text)).l).length) rc2_1, .int .i64 (((stepR r ((l.getD i deed0).kind) ((l.getD i deed0).text)).at_ : Nat) : Int), .int .i64 ((stepR r ((l.getD i deed0).kind) ((l.getD i deed0).text)).most)], .int .i64 0]) (fun _ => True) rfl rfl rfl rfl rfl trivial (.inl ⟨rfl, fun _ _ => d_move rfl ⟨rfl, rfl⟩⟩) ?_
      refine WD.take hok1 8 (.agg #[.slice ra2_1 (((stepR r ((l.getD i deed0).kind) ((l.getD i deed0).text)).l).length) rc2_1, .int .i64 (((stepR r ((l.getD i deed0).kind) ((l.getD i deed0).text)).at_ : Nat) : Int), .int .i64 ((stepR r ((l.getD i deed0).kind) ((l.getD i deed0).text)).most)]) (fun _ => True) rfl rfl rfl rfl rfl trivial (.inl ⟨rfl, fun _ _ => d_extract rfl rfl ⟨rfl, rfl⟩⟩) ?_
      refine WD.take hok1 9 (.int .i64 0) (fun _ => True) rfl rfl rfl rfl rfl trivial (.inl ⟨rfl, fun _ _ => d_extract rfl rfl ⟨rfl, rfl⟩⟩) ?_
      refine WD.loud hok1 10 rfl (⟨_, [⟨9, .int .i64 0, (fun _ => True)⟩], rfl, rfl, rfl, rfl, rfl, rfl, d_storeAB (us := [.slice ra2_1 (((stepR r ((l.getD i deed0).kind) ((l.getD i deed0).text)).l).length) rc2_1, .int .i64 (((stepR r ((l.getD i deed0).kind) ((l.getD i deed0).text)).at_ : Nat) : Int), .int .i64 ((stepR r ((l.getD i deed0).kind) ((l.getD i deed0).text)).most)]) (cs' := #[.slice ra2_1 (((stepR r ((l.getD i deed0).kind) ((l.getD i deed0).text)).l).length) rc2_1, .int .i64 (((stepR r ((l.getD i deed0).kind) ((l.getD i deed0).text)).at_ : Nat) : Int), .int .i64 ((stepR r ((l.getD i deed0).kind) ((l.getD i deed0).text)).most)]) sz28 rfl rfl rfl rfl (H8.blk 2 rfl) rfl rfl fun w9 u7 => ?_⟩)
      have H9 : UpG w [] w9 [[blk g_1 #[.slice pa2_1 (((stepH h ((l.getD i deed0).kind) ((l.getD i deed0).text)).past).length) pc2_1, .slice na2_1 (((stepH h ((l.getD i deed0).kind) ((l.getD i deed0).text)).next).length) nc2_1, .string ((stepH h ((l.getD i deed0).kind) ((l.getD i deed0).text)).now), .int .i64 ((stepH h ((l.getD i deed0).kind) ((l.getD i deed0).text)).most)] 79, rowT tyS (.slice pa2_1 (((stepH h ((l.getD i deed0).kind) ((l.getD i deed0).text)).past).length) pc2_1) 9 ((stepH h ((l.getD i deed0).kind) ((l.getD i deed0).text)).past), rowT tyS (.slice na2_1 (((stepH h ((l.getD i deed0).kind) ((l.getD i deed0).text)).next).length) nc2_1) 9 ((stepH h ((l.getD i deed0).kind) ((l.getD i deed0).text)).next)], [rowT tyS (.slice ra2_1 (((stepR r ((l.getD i deed0).kind) ((l.getD i deed0).text)).l).length) rc2_1) 9 ((stepR r ((l.getD i deed0).kind) ((l.getD i deed0).text)).l)], [blk w3.heap.size #[.slice ra2_1 (((stepR r ((l.getD i deed0).kind) ((l.getD i deed0).text)).l).length) rc2_1, .int .i64 (((stepR r ((l.getD i deed0).kind) ((l.getD i deed0).text)).at_ : Nat) : Int), .int .i64 ((stepR r ((l.getD i deed0).kind) ((l.getD i deed0).text)).most)] 28]] := H8.on 2 rfl u7
      refine ⟨⟨trivial, trivial⟩, ?_⟩
      refine WD.done hok1 rfl (X.block_normal (X.then_code ?_))
      refine W.pick [45, 37, 44, 43, 42, 41, 40, 39, 38, 34, 33, 32, 31, 30, 29, 28, 27, 9, 8, 7, 6, 1, 2] (Γ' := [(45, .agg #[.slice ra2_1 (((stepR r ((l.getD i deed0).kind) ((l.getD i deed0).text)).l).length) rc2_1, .int .i64 (((stepR r ((l.getD i deed0).kind) ((l.getD i deed0).text)).at_ : Nat) : Int), .int .i64 ((stepR r ((l.getD i deed0).kind) ((l.getD i deed0).text)).most)]), (37, .tuple #[.agg #[.slice ra2_1 (((stepR r ((l.getD i deed0).kind) ((l.getD i deed0).text)).l).length) rc2_1, .int .i64 (((stepR r ((l.getD i deed0).kind) ((l.getD i deed0).text)).at_ : Nat) : Int), .int .i64 ((stepR r ((l.getD i deed0).kind) ((l.getD i deed0).text)).most)], .int .i64 0]), (44, .tuple #[.agg #[.slice ra2_1 (((stepR r ((l.getD i deed0).kind) ((l.getD i deed0).text)).l).length) rc2_1, .int .i64 (((stepR r ((l.getD i deed0).kind) ((l.getD i deed0).text)).at_ : Nat) : Int), .int .i64 ((stepR r ((l.getD i deed0).kind) ((l.getD i deed0).text)).most)], .int .i64 0]), (43, .agg #[.int .u8 ((l.getD i deed0).kind), .string ((l.getD i deed0).text)]), (42, elemPtr (.slice la l.length lc) (i * 2)), (41, .int .i64 ((i : Nat) : Int)), (40, .slice la l.length lc), (39, .agg #[.slice ra r.l.length rc, .int .i64 ((r.at_ : Nat) : Int), .int .i64 r.most]), (38, .pointer (some ⟨g_1, 0, none⟩)), (34, .bool (decide (((i : Nat) : Int) < (60 : Int)))), (33, .bool (decide (((i : Nat) : Int) < (60 : Int)))), (32, .int .i64 ((i : Nat) : Int)), (31, .bool true), (30, .bool (decide (((i : Nat) : Int) < ((l.length : Nat) : Int)))), (29, .int .i64 ((l.length : Nat) : Int)), (28, .slice la l.length lc), (27, .int .i64 ((i : Nat) : Int)), (9, .int .i64 ((i : Nat) : Int)), (8, .pointer (some ⟨w3.heap.size, 0, none⟩)), (7, .pointer (some ⟨g_1, 0, none⟩)), (6, .bool false), (1, .slice la l.length lc), (2, .string text)]) rfl ?_
      refine W.region ?_
      refine WL.op rfl (d_move rfl ?_)
      refine WL.op rfl (d_add rfl rfl (by omega) (by omega) ?_)
      refine WL.op rfl (d_assign rfl ?_)
      refine WL.done ?_
      exact X.next [9, 8, 7, 6, 1, 2] (Γ' := [(9, .int .i64 (((i + 1) : Nat) : Int)), (8, .pointer (some ⟨w3.heap.size, 0, none⟩)), (7, .pointer (some ⟨g_1, 0, none⟩)), (6, .bool false), (1, .slice la l.length lc), (2, .string text)]) rfl (60 - (i + 1)) (by omega) ⟨i + 1, stepH h (l.getD i deed0).kind (l.getD i deed0).text, stepR r (l.getD i deed0).kind (l.getD i deed0).text, pa2_1, pc2_1, na2_1, nc2_1, ra2_1, rc2_1, rfl, (H9.re rfl), (by omega), (by exact hr.step _ _), (by have := stepH_len h (l.getD i deed0).kind (l.getD i deed0).text; omega), (by intro s hs; rcases stepH_mem hs with h1 | rfl; exact hq s h1; exact hs3 _ (by omega)), rfl⟩
    · skip
      refine W.exit (X.then_exit (X.then_exit (X.block_exit (X.then_code ?_))))
      refine W.seq ?_
      refine W.region ?_
      refine WL.op rfl (d_move rfl ?_)
      refine WL.op rfl (d_build (cs := #[.string text, .int .i64 0]) rfl (by kernel_rfl) ?_)
      refine WL.op rfl (d_box rfl fun w10 u8 => ?_)
      have H10 : UpG w [] w10 [[blk g_1 #[.slice pa h.past.length pc, .slice na h.next.length nc, .string h.now, .int .i64 h.most] 79, rowT tyS (.slice pa h.past.length pc) 9 h.past, rowT tyS (.slice na h.next.length nc) 9 h.next], [rowT tyS (.slice ra r.l.length rc) 9 r.l], [blk w3.heap.size #[.slice ra r.l.length rc, .int .i64 ((r.at_ : Nat) : Int), .int .i64 r.most] 28], [blk w6.heap.size #[.string text, .int .i64 0] 46]] := H6.new' u8
      refine WL.op rfl (d_assign rfl ?_)
      refine WL.done (X.then_code ?_)
      refine W.pick [10, 8, 7, 6, 2] (Γ' := [(10, .pointer (some ⟨w6.heap.size, 0, none⟩)), (8, .pointer (some ⟨w3.heap.size, 0, none⟩)), (7, .pointer (some ⟨g_1, 0, none⟩)), (6, .bool false), (2, .string text)]) rfl ?_
      refine W.seq ?_
      refine W.region ?_
      refine WL.op rfl (d_move rfl ?_)
      refine WL.op rfl (d_move rfl ?_)
      refine WL.op rfl (d_makeFunc rfl rfl ?_)
      refine WL.op rfl (d_call ok21 rfl (Ret.calls (each_any h g_1 pa pc na nc w6.heap.size text 0 w10 (H10.hp2 0 3 rfl rfl rfl)  (fun s hs => by have := hq s hs; omega) (by omega)) fun _ w11 p4 => ?_))
      obtain ⟨rfl, u9⟩ := p4
      have H11 : UpG w [] w11 [[blk g_1 #[.slice pa (((turnH h text).past).length) pc, .slice na (((turnH h text).next).length) nc, .string ((turnH h text).now), .int .i64 ((turnH h text).most)] 79, rowT tyS (.slice pa (((turnH h text).past).length) pc) 9 ((turnH h text).past), rowT tyS (.slice na (((turnH h text).next).length) nc) 9 ((turnH h text).next)], [rowT tyS (.slice ra r.l.length rc) 9 r.l], [blk w3.heap.size #[.slice ra r.l.length rc, .int .i64 ((r.at_ : Nat) : Int), .int .i64 r.most] 28], [blk w6.heap.size #[.string text, .int .i64 ((0 + (h.past.length + 1 + h.next.length) : Nat) : Int)] 46]] := (H10.on2 (A' := [blk g_1 #[.slice pa (((turnH h text).past).length) pc, .slice na (((turnH h text).next).length) nc, .string ((turnH h text).now), .int .i64 ((turnH h text).most)] 79, rowT tyS (.slice pa (((turnH h text).past).length) pc) 9 ((turnH h text).past), rowT tyS (.slice na (((turnH h text).next).length) nc) 9 ((turnH h text).next)]) (B' := [blk w6.heap.size #[.string text, .int .i64 ((0 + (h.past.length + 1 + h.next.length) : Nat) : Int)] 46]) (C := []) 0 3 rfl rfl rfl u9).re rfl
      refine WL.done (X.then_code ?_)
      refine W.seq ?_
      refine W.region ?_
      refine WL.op rfl (d_assign rfl ?_)
      refine WL.done (X.then_code ?_)
      refine W.seq ?_
      refine W.seq ?_
      refine W.region ?_
      refine WL.op rfl (d_assign rfl ?_)
      refine WL.done (X.then_code ?_)
      refine W.block ?_
      have H12 : UpG w [] w11 [[blk g_1 #[.slice pa (((turnH h text).past).length) pc, .slice na (((turnH h text).next).length) nc, .string ((turnH h text).now), .int .i64 ((turnH h text).most)] 79, rowT tyS (.slice pa (((turnH h text).past).length) pc) 9 ((turnH h text).past), rowT tyS (.slice na (((turnH h text).next).length) nc) 9 ((turnH h text).next)], [rowT tyS (.slice ra r.l.length rc) 9 r.l], [blk w3.heap.size #[.slice ra r.l.length rc, .int .i64 ((r.at_ : Nat) : Int), .int .i64 r.most] 28], [blk w6.heap.size #[.string text, .int .i64 ((0 + (h.past.length + 1 + h.next.length) : Nat) : Int)] 46], [rowT tyS (.slice none (([] : List ByteArray).length) 0) 9 ([] : List ByteArray)]] := H11.new' (Upd.nilRowT w11 tyS 9)
      refine W.pick [12, 11, 10, 8, 7, 6, 2] (Γ' := [(12, .int .i64 0), (11, .slice none (([] : List ByteArray).length) 0), (10, .pointer (some ⟨w6.heap.size, 0, none⟩)), (8, .pointer (some ⟨w3.heap.size, 0, none⟩)), (7, .pointer (some ⟨g_1, 0, none⟩)), (6, .bool false), (2, .string text)]) rfl ?_
      refine W.loop (fun m Γ' w' => ∃ j : Nat, ∃ wa : Option Addr, ∃ ws : List ByteArray, ∃ wc : Nat, Γ' = [(12, .int .i64 ((j : Nat) : Int)), (11, .slice wa ws.length wc), (10, .pointer (some ⟨w6.heap.size, 0, none⟩)), (8, .pointer (some ⟨w3.heap.size, 0, none⟩)), (7, .pointer (some ⟨g_1, 0, none⟩)), (6, .bool false), (2, .string text)] ∧ UpG w [] w' [[blk g_1 #[.slice pa (((turnH h text).past).length) pc, .slice na (((turnH h text).next).length) nc, .string ((turnH h text).now), .int .i64 ((turnH h text).most)] 79, rowT tyS (.slice pa (((turnH h text).past).length) pc) 9 ((turnH h text).past), rowT tyS (.slice na (((turnH h text).next).length) nc) 9 ((turnH h text).next)], [rowT tyS (.slice ra r.l.length rc) 9 r.l], [blk w3.heap.size #[.slice ra r.l.length rc, .int .i64 ((r.at_ : Nat) : Int), .int .i64 r.most] 28], [blk w6.heap.size #[.string text, .int .i64 ((0 + (h.past.length + 1 + h.next.length) : Nat) : Int)] 46], [rowT tyS (.slice wa ws.length wc) 9 ws]] ∧ (j ≤ r.l.length) ∧ (ws = (r.l.take j).map (· ++ text)) ∧ (ws.length = j) ∧ m = r.l.length - j) (r.l.length - 0) ⟨0, none, ([] : List ByteArray), 0, rfl, H12, (by first | assumption | omega | simp), (by simp), (by rfl), rfl⟩ ?_
      rintro m2 Γ2 w12 ⟨j, wa, ws, wc, rfl, H13, hj, hws, hwl, rfl⟩
      refine W.seq ?_
      refine W.seq ?_
      refine W.region ?_
      refine WL.op rfl (d_move rfl ?_)
      refine WL.op rfl (d_fieldAddrB fld28_0 rfl rfl ?_)
      refine WL.op rfl (d_loadB Try.underlying26 rfl rfl (H13.blk 2 rfl) rfl ?_)
      refine WL.op rfl (d_lenS Try.underlying26 rfl ?_)
      refine WL.op rfl (d_cmp (decide (((j : Nat) : Int) < ((r.l.length : Nat) : Int))) rfl rfl rfl ?_)
      refine WL.done (X.then_code ?_)
      refine W.ite (p := ((j : Nat) : Int) < ((r.l.length : Nat) : Int)) rfl (fun c132 => ?_) (fun c132 => ?_)
      · skip
        refine W.skip (X.then_code ?_)
        refine W.seq ?_
        refine W.block ?_
        have hsj : (r.l.getD j .empty).size ≤ 140737488351232 := hq _ (by rw [← hr.l]; exact getD_mem (by omega))
        have hlen1 := hr.len
        refine W.region ?_
        refine WL.op rfl (d_move rfl ?_)
        refine WL.op rfl (d_fieldAddrB fld28_0 rfl rfl ?_)
        refine WL.op rfl (d_loadB Try.underlying26 rfl rfl (H13.blk 2 rfl) rfl ?_)
        refine WL.op rfl (d_move rfl ?_)
        refine WL.op rfl (t_addr1 j (T := tyS) rfl Try.underlying26 sz9 rfl rfl (H13.rdT 1 rfl) rfl (by omega) ?_)
        refine WL.op rfl (t_load1 j .empty (T := tyS) rfl Try.underlying9 rfl rfl (H13.rdT 1 rfl) (by omega) rfl ?_)
        refine WL.op rfl (d_move rfl ?_)
        refine WL.op rfl (d_concat rfl rfl (by first | omega | (simp; omega)) ?_)
        refine WL.op rfl (t_buildSlice (T := tyS) (xs := [(r.l.getD j .empty) ++ text]) (cs := #[.string ((r.l.getD j .empty) ++ text)]) rfl Try.underlying26 sz9 rfl rfl rfl rfl (by kernel_rfl) rfl rfl fun w13 u10 => ?_)
        have H14 : UpG w [] w13 [[blk g_1 #[.slice pa (((turnH h text).past).length) pc, .slice na (((turnH h text).next).length) nc, .string ((turnH h text).now), .int .i64 ((turnH h text).most)] 79, rowT tyS (.slice pa (((turnH h text).past).length) pc) 9 ((turnH h text).past), rowT tyS (.slice na (((turnH h text).next).length) nc) 9 ((turnH h text).next)], [rowT tyS (.slice ra r.l.length rc) 9 r.l], [blk w3.heap.size #[.slice ra r.l.length rc, .int .i64 ((r.at_ : Nat) : Int), .int .i64 r.most] 28], [blk w6.heap.size #[.string text, .int .i64 ((0 + (h.past.length + 1 + h.next.length) : Nat) : Int)] 46], [rowT tyS (.slice wa ws.length wc) 9 ws], [rowT tyS (.slice (some ⟨w12.heap.size, 0, none⟩) ([(r.l.getD j .empty) ++ text].length) ([(r.l.getD j .empty) ++ text].length)) 9 [(r.l.getD j .empty) ++ text]]] := H13.new' u10
        refine WL.op rfl (t_append (T := tyS) (xs := ws) (ys := [(r.l.getD j .empty) ++ text]) rfl Try.underlying26 sz9 rfl rfl rfl (H14.ownT 4 rfl) (H14.rdT 5 rfl) (by first | omega | (simp; omega)) (by first | omega | (simp; omega)) fun a1 c1 w14 u11 => ?_)
        have H15 : UpG w [] w14 [[blk g_1 #[.slice pa (((turnH h text).past).length) pc, .slice na (((turnH h text).next).length) nc, .string ((turnH h text).now), .int .i64 ((turnH h text).most)] 79, rowT tyS (.slice pa (((turnH h text).past).length) pc) 9 ((turnH h text).past), rowT tyS (.slice na (((turnH h text).next).length) nc) 9 ((turnH h text).next)], [rowT tyS (.slice ra r.l.length rc) 9 r.l], [blk w3.heap.size #[.slice ra r.l.length rc, .int .i64 ((r.at_ : Nat) : Int), .int .i64 r.most] 28], [blk w6.heap.size #[.string text, .int .i64 ((0 + (h.past.length + 1 + h.next.length) : Nat) : Int)] 46], [rowT tyS (.slice a1 ((ws ++ [(r.l.getD j .empty) ++ text]).length) c1) 9 (ws ++ [(r.l.getD j .empty) ++ text])], []] := (H14.on 4 rfl u11).drop 5
        refine WL.op rfl (d_assign rfl ?_)
        refine WL.done (X.block_normal (X.then_code ?_))
        refine W.pick [11, 70, 69, 68, 67, 66, 65, 64, 63, 62, 61, 58, 57, 56, 55, 54, 12, 10, 8, 7, 6, 2] (Γ' := [(11, .slice a1 ((ws ++ [(r.l.getD j .empty) ++ text]).length) c1), (70, .slice a1 ((ws ++ [(r.l.getD j .empty) ++ text]).length) c1), (69, .slice (some ⟨w12.heap.size, 0, none⟩) ([(r.l.getD j .empty) ++ text].length) ([(r.l.getD j .empty) ++ text].length)), (68, .string ((r.l.getD j .empty) ++ text)), (67, .string text), (66, .string (r.l.getD j .empty)), (65, elemPtr (.slice ra r.l.length rc) j), (64, .int .i64 ((j : Nat) : Int)), (63, .slice ra r.l.length rc), (62, .pointer (some ⟨w3.heap.size, 0, none⟩)), (61, .slice wa ws.length wc), (58, .bool (decide (((j : Nat) : Int) < ((r.l.length : Nat) : Int)))), (57, .int .i64 ((r.l.length : Nat) : Int)), (56, .slice ra r.l.length rc), (55, .pointer (some ⟨w3.heap.size, 0, none⟩)), (54, .int .i64 ((j : Nat) : Int)), (12, .int .i64 ((j : Nat) : Int)), (10, .pointer (some ⟨w6.heap.size, 0, none⟩)), (8, .pointer (some ⟨w3.heap.size, 0, none⟩)), (7, .pointer (some ⟨g_1, 0, none⟩)), (6, .bool false), (2, .string text)]) rfl ?_
        refine W.region ?_
        refine WL.op rfl (d_move rfl ?_)
        refine WL.op rfl (d_add rfl rfl (by omega) (by omega) ?_)
        refine WL.op rfl (d_assign rfl ?_)
        refine WL.done ?_
        exact X.next [12, 11, 10, 8, 7, 6, 2] (Γ' := [(12, .int .i64 (((j + 1) : Nat) : Int)), (11, .slice a1 ((ws ++ [(r.l.getD j .empty) ++ text]).length) c1), (10, .pointer (some ⟨w6.heap.size, 0, none⟩)), (8, .pointer (some ⟨w3.heap.size, 0, none⟩)), (7, .pointer (some ⟨g_1, 0, none⟩)), (6, .bool false), (2, .string text)]) rfl (r.l.length - (j + 1)) (by omega) ⟨j + 1, a1, ws ++ [(r.l.getD j .empty) ++ text], c1, rfl, (H15.re rfl), (by first | assumption | omega | simp), (by rw [hws]; exact map_take_step (by omega)), (by simp; omega), rfl⟩
      · skip
        refine W.exit (X.then_exit (X.then_exit (X.block_exit (X.then_code ?_))))
        refine W.seq ?_
        refine W.region ?_
        refine WL.op rfl (d_assign rfl ?_)
        refine WL.done (X.then_code ?_)
        refine W.seq ?_
        refine W.region ?_
        refine WL.op rfl (d_move rfl ?_)
        refine WL.op rfl (d_move rfl ?_)
        refine WL.op rfl (d_makeFunc rfl rfl ?_)
        refine WL.op rfl (d_call ok21 rfl (Ret.calls (eachN_any w6.heap.size w12  ) fun _ w15 p5 => ?_))
        obtain ⟨rfl, u12⟩ := p5
        have H16 : UpG w [] w15 [[blk g_1 #[.slice pa (((turnH h text).past).length) pc, .slice na (((turnH h text).next).length) nc, .string ((turnH h text).now), .int .i64 ((turnH h text).most)] 79, rowT tyS (.slice pa (((turnH h text).past).length) pc) 9 ((turnH h text).past), rowT tyS (.slice na (((turnH h text).next).length) nc) 9 ((turnH h text).next)], [rowT tyS (.slice ra r.l.length rc) 9 r.l], [blk w3.heap.size #[.slice ra r.l.length rc, .int .i64 ((r.at_ : Nat) : Int), .int .i64 r.most] 28], [blk w6.heap.size #[.string text, .int .i64 ((0 + (h.past.length + 1 + h.next.length) : Nat) : Int)] 46], [rowT tyS (.slice wa ws.length wc) 9 ws]] := H13.call u12
        refine WL.done (X.then_code ?_)
        refine W.pick [13, 11, 10, 8, 7, 6, 2] (Γ' := [(13, .pointer none), (11, .slice wa ws.length wc), (10, .pointer (some ⟨w6.heap.size, 0, none⟩)), (8, .pointer (some ⟨w3.heap.size, 0, none⟩)), (7, .pointer (some ⟨g_1, 0, none⟩)), (6, .bool false), (2, .string text)]) rfl ?_
        refine W.seq ?_
        refine W.region ?_
        refine WL.op rfl (d_move rfl ?_)
        refine WL.op rfl (d_call ok17 rfl (Ret.calls (undoN_any  w15  ) fun _ w16 p6 => ?_))
        obtain ⟨rfl, u13⟩ := p6
        have H17 : UpG w [] w16 [[blk g_1 #[.slice pa (((turnH h text).past).length) pc, .slice na (((turnH h text).next).length) nc, .string ((turnH h text).now), .int .i64 ((turnH h text).most)] 79, rowT tyS (.slice pa (((turnH h text).past).length) pc) 9 ((turnH h text).past), rowT tyS (.slice na (((turnH h text).next).length) nc) 9 ((turnH h text).next)], [rowT tyS (.slice ra r.l.length rc) 9 r.l], [blk w3.heap.size #[.slice ra r.l.length rc, .int .i64 ((r.at_ : Nat) : Int), .int .i64 r.most] 28], [blk w6.heap.size #[.string text, .int .i64 ((0 + (h.past.length + 1 + h.next.length) : Nat) : Int)] 46], [rowT tyS (.slice wa ws.length wc) 9 ws]] := H16.call u13
        refine WL.op rfl (d_move rfl ?_)
        refine WL.op rfl (d_extract rfl rfl ?_)
        refine WL.op rfl (d_extract rfl rfl ?_)
        refine WL.op rfl (d_assign rfl ?_)
        refine WL.op rfl (d_assign rfl ?_)
        refine WL.done (X.then_code ?_)
        refine W.seq ?_
        refine W.region ?_
        refine WL.op rfl (d_move rfl ?_)
        refine WL.op rfl (d_call ok20 rfl (Ret.calls (redoN_any  w16  ) fun _ w17 p7 => ?_))
        obtain ⟨rfl, u14⟩ := p7
        have H18 : UpG w [] w17 [[blk g_1 #[.slice pa (((turnH h text).past).length) pc, .slice na (((turnH h text).next).length) nc, .string ((turnH h text).now), .int .i64 ((turnH h text).most)] 79, rowT tyS (.slice pa (((turnH h text).past).length) pc) 9 ((turnH h text).past), rowT tyS (.slice na (((turnH h text).next).length) nc) 9 ((turnH h text).next)], [rowT tyS (.slice ra r.l.length rc) 9 r.l], [blk w3.heap.size #[.slice ra r.l.length rc, .int .i64 ((r.at_ : Nat) : Int), .int .i64 r.most] 28], [blk w6.heap.size #[.string text, .int .i64 ((0 + (h.past.length + 1 + h.next.length) : Nat) : Int)] 46], [rowT tyS (.slice wa ws.length wc) 9 ws]] := H17.call u14
        refine WL.op rfl (d_move rfl ?_)
        refine WL.op rfl (d_extract rfl rfl ?_)
        refine WL.op rfl (d_extract rfl rfl ?_)
        refine WL.op rfl (d_assign rfl ?_)
        refine WL.op rfl (d_assign rfl ?_)
        refine WL.done (X.then_code ?_)
        refine W.pick [17, 15, 13, 11, 10, 8, 7, 6, 2] (Γ' := [(17, .int .i64 8), (15, .int .i64 8), (13, .pointer none), (11, .slice wa ws.length wc), (10, .pointer (some ⟨w6.heap.size, 0, none⟩)), (8, .pointer (some ⟨w3.heap.size, 0, none⟩)), (7, .pointer (some ⟨g_1, 0, none⟩)), (6, .bool false), (2, .string text)]) rfl ?_
        refine W.seq ?_
        refine W.region ?_
        refine WL.op rfl (d_move rfl ?_)
        refine WL.op rfl (d_call ok18 rfl (Ret.calls (sizesN_any  w17  ) fun _ w18 p8 => ?_))
        obtain ⟨rfl, u15⟩ := p8
        have H19 : UpG w [] w18 [[blk g_1 #[.slice pa (((turnH h text).past).length) pc, .slice na (((turnH h text).next).length) nc, .string ((turnH h text).now), .int .i64 ((turnH h text).most)] 79, rowT tyS (.slice pa (((turnH h text).past).length) pc) 9 ((turnH h text).past), rowT tyS (.slice na (((turnH h text).next).length) nc) 9 ((turnH h text).next)], [rowT tyS (.slice ra r.l.length rc) 9 r.l], [blk w3.heap.size #[.slice ra r.l.length rc, .int .i64 ((r.at_ : Nat) : Int), .int .i64 r.most] 28], [blk w6.heap.size #[.string text, .int .i64 ((0 + (h.past.length + 1 + h.next.length) : Nat) : Int)] 46], [rowT tyS (.slice wa ws.length wc) 9 ws]] := H18.call u15
        refine WL.op rfl (d_move rfl ?_)
        refine WL.op rfl (d_extract rfl rfl ?_)
        refine WL.op rfl (d_extract rfl rfl ?_)
        refine WL.op rfl (d_assign rfl ?_)
        refine WL.op rfl (d_assign rfl ?_)
        refine WL.done (X.then_code ?_)
        refine W.seq ?_
        have hA : decide (allH (turnH h text) = ws) = true := by rw [decide_eq_true]; rw [turnH_all, hws, List.take_of_length_le (by omega), hr.l]
        have hlt := hr.lt
        have hat := hr.at_
        have hlen2 := hr.len
        have hN : (turnH h text).now = ws.getD r.at_ .empty := by have h9 := allH_now (turnH h text); rw [← h9, of_decide_eq_true hA, hat]; simp [turnH]
        refine W.regionD mixed (by kernel_rfl) fun hok2 w19 k2 => ?_
        have H20 : UpG w [] w19 [[blk g_1 #[.slice pa (((turnH h text).past).length) pc, .slice na (((turnH h text).next).length) nc, .string ((turnH h text).now), .int .i64 ((turnH h text).most)] 79, rowT tyS (.slice pa (((turnH h text).past).length) pc) 9 ((turnH h text).past), rowT tyS (.slice na (((turnH h text).next).length) nc) 9 ((turnH h text).next)], [rowT tyS (.slice ra r.l.length rc) 9 r.l], [blk w3.heap.size #[.slice ra r.l.length rc, .int .i64 ((r.at_ : Nat) : Int), .int .i64 r.most] 28], [blk w6.heap.size #[.string text, .int .i64 ((0 + (h.past.length + 1 + h.next.length) : Nat) : Int)] 46], [rowT tyS (.slice wa ws.length wc) 9 ws]] := H19.kept k2
        refine WD.take hok2 0 (.pointer (some ⟨g_1, 0, none⟩)) (fun _ => True) rfl rfl rfl rfl rfl trivial (.inl ⟨rfl, fun _ _ => d_move rfl ⟨rfl, rfl⟩⟩) ?_
        refine WD.take hok2 2 (.slice wa ws.length wc) (fun _ => True) rfl rfl rfl rfl rfl trivial (.inl ⟨rfl, fun _ _ => d_move rfl ⟨rfl, rfl⟩⟩) ?_
        refine WD.loud hok2 1 rfl (⟨_, [⟨2, .slice wa ws.length wc, (fun _ => True)⟩], rfl, rfl, rfl, rfl, rfl, rfl, d_call ok15 rfl (Ret.calls (all_any (turnH h text) g_1 pa pc na nc w19 (H20.hpOf 0 rfl)  (by simp [turnH]; omega)) fun _ w20 p9 => ?_)⟩)
        obtain ⟨a2_1, c2_1, rfl, u16⟩ := p9
        have H21 : UpG w [] w20 [[blk g_1 #[.slice pa (((turnH h text).past).length) pc, .slice na (((turnH h text).next).length) nc, .string ((turnH h text).now), .int .i64 ((turnH h text).most)] 79, rowT tyS (.slice pa (((turnH h text).past).length) pc) 9 ((turnH h text).past), rowT tyS (.slice na (((turnH h text).next).length) nc) 9 ((turnH h text).next)], [rowT tyS (.slice ra r.l.length rc) 9 r.l], [blk w3.heap.size #[.slice ra r.l.length rc, .int .i64 ((r.at_ : Nat) : Int), .int .i64 r.most] 28], [blk w6.heap.size #[.string text, .int .i64 ((0 + (h.past.length + 1 + h.next.length) : Nat) : Int)] 46], [rowT tyS (.slice wa ws.length wc) 9 ws], [rowT tyS (.slice a2_1 ((allH (turnH h text)).length) c2_1) 9 (allH (turnH h text))]] := (H20.onX (B := [blk g_1 #[.slice pa (((turnH h text).past).length) pc, .slice na (((turnH h text).next).length) nc, .string ((turnH h text).now), .int .i64 ((turnH h text).most)] 79, rowT tyS (.slice pa (((turnH h text).past).length) pc) 9 ((turnH h text).past), rowT tyS (.slice na (((turnH h text).next).length) nc) 9 ((turnH h text).next)]) (C := [rowT tyS (.slice a2_1 ((allH (turnH h text)).length) c2_1) 9 (allH (turnH h text))]) 0 rfl u16).re rfl
        refine ⟨⟨trivial, trivial⟩, ?_⟩
        refine WD.loud hok2 3 rfl (⟨_, [], rfl, rfl, rfl, rfl, rfl, rfl, d_call ok19 rfl (Ret.calls (same_any a2_1 (allH (turnH h text)) c2_1 wa ws wc w20 (H21.rdT 5 rfl) (H21.rdT 4 rfl) ) fun _ w21 p10 => ?_)⟩)
        obtain ⟨rfl, u17⟩ := p10
        have H22 : UpG w [] w21 [[blk g_1 #[.slice pa (((turnH h text).past).length) pc, .slice na (((turnH h text).next).length) nc, .string ((turnH h text).now), .int .i64 ((turnH h text).most)] 79, rowT tyS (.slice pa (((turnH h text).past).length) pc) 9 ((turnH h text).past), rowT tyS (.slice na (((turnH h text).next).length) nc) 9 ((turnH h text).next)], [rowT tyS (.slice ra r.l.length rc) 9 r.l], [blk w3.heap.size #[.slice ra r.l.length rc, .int .i64 ((r.at_ : Nat) : Int), .int .i64 r.most] 28], [blk w6.heap.size #[.string text, .int .i64 ((0 + (h.past.length + 1 + h.next.length) : Nat) : Int)] 46], [rowT tyS (.slice wa ws.length wc) 9 ws], [rowT tyS (.slice a2_1 ((allH (turnH h text)).length) c2_1) 9 (allH (turnH h text))]] := H21.call u17
        refine ⟨trivial, ?_⟩
        refine WD.take hok2 4 (.bool (decide ((allH (turnH h text)) = ws))) (fun _ => True) rfl rfl rfl rfl rfl trivial (.inl ⟨rfl, fun _ _ => d_move rfl ⟨rfl, rfl⟩⟩) ?_
        refine WD.partB 94 (b := decide ((allH (turnH h text)) = ws)) rfl (fun g140 => ?_) (fun g140 => ?_)
        · skip
          refine WD.take hok2 5 (.pointer (some ⟨g_1, 0, none⟩)) (fun _ => True) rfl rfl rfl rfl rfl trivial (.inl ⟨rfl, fun _ _ => d_move rfl ⟨rfl, rfl⟩⟩) ?_
          refine WD.take hok2 7 (.slice wa ws.length wc) (fun _ => True) rfl rfl rfl rfl rfl trivial (.inl ⟨rfl, fun _ _ => d_move rfl ⟨rfl, rfl⟩⟩) ?_
          refine WD.take hok2 8 (.pointer (some ⟨w3.heap.size, 1, none⟩)) (fun _ => True) rfl rfl rfl rfl rfl trivial (.inl ⟨rfl, fun _ _ => d_fieldAddrB fld28_1 rfl rfl ⟨rfl, rfl⟩⟩) ?_
          refine WD.take hok2 9 (.int .i64 ((r.at_ : Nat) : Int)) (fun w' => w'.heap[w3.heap.size]? = some (.cells #[.slice ra r.l.length rc, .int .i64 ((r.at_ : Nat) : Int), .int .i64 r.most] 28 (0, 0))) rfl rfl rfl rfl rfl (H22.blk 2 rfl) (.inl ⟨rfl, fun _ hC => d_loadB Try.underlying3 rfl rfl hC rfl ⟨rfl, rfl⟩⟩) ?_
          refine WD.take hok2 10 (elemPtr (.slice wa ws.length wc) r.at_) (fun w' => RdT tyS w' (.slice wa ws.length wc) ws) rfl rfl rfl rfl rfl (H22.rdT 4 rfl) (.inl ⟨rfl, fun _ hC => t_addr1 r.at_ (T := tyS) rfl Try.underlying26 sz9 rfl rfl hC rfl (by omega) ⟨rfl, rfl⟩⟩) ?_
          refine WD.take hok2 11 (.string (ws.getD r.at_ .empty)) (fun w' => RdT tyS w' (.slice wa ws.length wc) ws) rfl rfl rfl rfl rfl (H22.rdT 4 rfl) (.inl ⟨rfl, fun _ hC => t_load1 r.at_ .empty (T := tyS) rfl Try.underlying9 rfl rfl hC (by omega) rfl ⟨rfl, rfl⟩⟩) ?_
          refine WD.loud hok2 6 rfl (⟨_, [⟨11, .string (ws.getD r.at_ .empty), (fun w' => RdT tyS w' (.slice wa ws.length wc) ws)⟩, ⟨10, elemPtr (.slice wa ws.length wc) r.at_, (fun w' => RdT tyS w' (.slice wa ws.length wc) ws)⟩, ⟨9, .int .i64 ((r.at_ : Nat) : Int), (fun w' => w'.heap[w3.heap.size]? = some (.cells #[.slice ra r.l.length rc, .int .i64 ((r.at_ : Nat) : Int), .int .i64 r.most] 28 (0, 0)))⟩, ⟨8, .pointer (some ⟨w3.heap.size, 1, none⟩), (fun _ => True)⟩, ⟨7, .slice wa ws.length wc, (fun _ => True)⟩], rfl, rfl, rfl, rfl, rfl, rfl, d_call ok16 rfl (Ret.calls (now_any (turnH h text) g_1 pa pc na nc w21 (H22.hpOf 0 rfl)  ) fun _ w22 p11 => ?_)⟩)
          obtain ⟨rfl, u18⟩ := p11
          have H23 : UpG w [] w22 [[blk g_1 #[.slice pa (((turnH h text).past).length) pc, .slice na (((turnH h text).next).length) nc, .string ((turnH h text).now), .int .i64 ((turnH h text).most)] 79, rowT tyS (.slice pa (((turnH h text).past).length) pc) 9 ((turnH h text).past), rowT tyS (.slice na (((turnH h text).next).length) nc) 9 ((turnH h text).next)], [rowT tyS (.slice ra r.l.length rc) 9 r.l], [blk w3.heap.size #[.slice ra r.l.length rc, .int .i64 ((r.at_ : Nat) : Int), .int .i64 r.most] 28], [blk w6.heap.size #[.string text, .int .i64 ((0 + (h.past.length + 1 + h.next.length) : Nat) : Int)] 46], [rowT tyS (.slice wa ws.length wc) 9 ws], [rowT tyS (.slice a2_1 ((allH (turnH h text)).length) c2_1) 9 (allH (turnH h text))]] := H22.on 0 rfl u18
          refine ⟨⟨(H23.rdT 4 rfl), (H23.rdT 4 rfl), (H23.blk 2 rfl), trivial, trivial, trivial⟩, ?_⟩
          refine WD.take hok2 12 (.bool (decide (((turnH h text).now) = (ws.getD r.at_ .empty)))) (fun _ => True) rfl rfl rfl rfl rfl trivial (.inl ⟨rfl, fun _ _ => d_streq rfl rfl ⟨rfl, rfl⟩⟩) ?_
          refine WD.take hok2 13 (.bool (decide (((turnH h text).now) = (ws.getD r.at_ .empty)))) (fun _ => True) rfl rfl rfl rfl rfl trivial (.inl ⟨rfl, fun _ _ => d_pick rfl rfl ⟨rfl, rfl⟩⟩) ?_
          refine WD.take hok2 14 (.bool (decide (((turnH h text).now) = (ws.getD r.at_ .empty)))) (fun _ => True) rfl rfl rfl rfl rfl trivial (.inl ⟨rfl, fun _ _ => d_move rfl ⟨rfl, rfl⟩⟩) ?_
          refine WD.part 104 (p := ((turnH h text).now) = (ws.getD r.at_ .empty)) rfl (fun g140x => ?_) (fun g140x => ?_)
          · skip
            refine WD.take hok2 15 (.pointer (some ⟨w6.heap.size, 0, none⟩)) (fun _ => True) rfl rfl rfl rfl rfl trivial (.inl ⟨rfl, fun _ _ => d_move rfl ⟨rfl, rfl⟩⟩) ?_
            refine WD.take hok2 16 (.pointer (some ⟨w6.heap.size, 0, none⟩)) (fun _ => True) rfl rfl rfl rfl rfl trivial (.inl ⟨rfl, fun _ _ => d_nilCheck rfl ⟨rfl, rfl⟩⟩) ?_
            refine WD.take hok2 17 (.pointer (some ⟨w6.heap.size, 1, none⟩)) (fun _ => True) rfl rfl rfl rfl rfl trivial (.inl ⟨rfl, fun _ _ => d_fieldAddrB fld46_1 rfl rfl ⟨rfl, rfl⟩⟩) ?_
            refine WD.take hok2 18 (.int .i64 ((0 + (h.past.length + 1 + h.next.length) : Nat) : Int)) (fun w' => w'.heap[w6.heap.size]? = some (.cells #[.string text, .int .i64 ((0 + (h.past.length + 1 + h.next.length) : Nat) : Int)] 46 (0, 0))) rfl rfl rfl rfl rfl (H23.blk 3 rfl) (.inl ⟨rfl, fun _ hC => d_loadB Try.underlying3 rfl rfl hC rfl ⟨rfl, rfl⟩⟩) ?_
            refine WD.take hok2 19 (.slice wa ws.length wc) (fun _ => True) rfl rfl rfl rfl rfl trivial (.inl ⟨rfl, fun _ _ => d_move rfl ⟨rfl, rfl⟩⟩) ?_
            refine WD.take hok2 20 (.int .i64 ((ws.length : Nat) : Int)) (fun _ => True) rfl rfl rfl rfl rfl trivial (.inl ⟨rfl, fun _ _ => d_lenS Try.underlying26 rfl ⟨rfl, rfl⟩⟩) ?_
            refine WD.take hok2 21 (.bool (decide (((0 + (h.past.length + 1 + h.next.length) : Nat) : Int) = ((ws.length : Nat) : Int)))) (fun _ => True) rfl rfl rfl rfl rfl trivial (.inl ⟨rfl, fun _ _ => d_cmp (decide (((0 + (h.past.length + 1 + h.next.length) : Nat) : Int) = ((ws.length : Nat) : Int))) rfl rfl rfl ⟨rfl, rfl⟩⟩) ?_
            refine WD.take hok2 22 (.bool (decide (((0 + (h.past.length + 1 + h.next.length) : Nat) : Int) = ((ws.length : Nat) : Int)))) (fun _ => True) rfl rfl rfl rfl rfl trivial (.inl ⟨rfl, fun _ _ => d_pick rfl rfl ⟨rfl, rfl⟩⟩) ?_
            refine WD.take hok2 23 (.bool (decide (((0 + (h.past.length + 1 + h.next.length) : Nat) : Int) = ((ws.length : Nat) : Int)))) (fun _ => True) rfl rfl rfl rfl rfl trivial (.inl ⟨rfl, fun _ _ => d_move rfl ⟨rfl, rfl⟩⟩) ?_
            refine WD.part 113 (p := ((0 + (h.past.length + 1 + h.next.length) : Nat) : Int) = ((ws.length : Nat) : Int)) rfl (fun g140xx => ?_) (fun g140xx => ?_)
            · skip
              refine WD.take hok2 24 (.pointer none) (fun _ => True) rfl rfl rfl rfl rfl trivial (.inl ⟨rfl, fun _ _ => d_move rfl ⟨rfl, rfl⟩⟩) ?_
              refine WD.take hok2 25 (.string text) (fun _ => True) rfl rfl rfl rfl rfl trivial (.inl ⟨rfl, fun _ _ => d_move rfl ⟨rfl, rfl⟩⟩) ?_
              refine WD.loud hok2 26 rfl (⟨_, [], rfl, rfl, rfl, rfl, rfl, rfl, d_call ok23 rfl (Ret.calls (doN_any text w22  ) fun _ w23 p12 => ?_)⟩)
              obtain ⟨rfl, u19⟩ := p12
              have H24 : UpG w [] w23 [[blk g_1 #[.slice pa (((turnH h text).past).length) pc, .slice na (((turnH h text).next).length) nc, .string ((turnH h text).now), .int .i64 ((turnH h text).most)] 79, rowT tyS (.slice pa (((turnH h text).past).length) pc) 9 ((turnH h text).past), rowT tyS (.slice na (((turnH h text).next).length) nc) 9 ((turnH h text).next)], [rowT tyS (.slice ra r.l.length rc) 9 r.l], [blk w3.heap.size #[.slice ra r.l.length rc, .int .i64 ((r.at_ : Nat) : Int), .int .i64 r.most] 28], [blk w6.heap.size #[.string text, .int .i64 ((0 + (h.past.length + 1 + h.next.length) : Nat) : Int)] 46], [rowT tyS (.slice wa ws.length wc) 9 ws], [rowT tyS (.slice a2_1 ((allH (turnH h text)).length) c2_1) 9 (allH (turnH h text))]] := H23.call u19
              refine ⟨trivial, ?_⟩
              refine WD.take hok2 27 (.bool (decide ((7 : Int) = (7 : Int)))) (fun _ => True) rfl rfl rfl rfl rfl trivial (.inl ⟨rfl, fun _ _ => d_cmp (decide ((7 : Int) = (7 : Int))) rfl rfl rfl ⟨rfl, rfl⟩⟩) ?_
              refine WD.take hok2 28 (.bool (decide ((7 : Int) = (7 : Int)))) (fun _ => True) rfl rfl rfl rfl rfl trivial (.inl ⟨rfl, fun _ _ => d_pick rfl rfl ⟨rfl, rfl⟩⟩) ?_
              refine WD.take hok2 29 (.bool (decide ((7 : Int) = (7 : Int)))) (fun _ => True) rfl rfl rfl rfl rfl trivial (.inl ⟨rfl, fun _ _ => d_move rfl ⟨rfl, rfl⟩⟩) ?_
              refine WD.part 119 (p := (7 : Int) = (7 : Int)) rfl (fun g140xxx => ?_) (fun g140xxx => ?_)
              · skip
                refine WD.take hok2 30 (.int .i64 8) (fun _ => True) rfl rfl rfl rfl rfl trivial (.inl ⟨rfl, fun _ _ => d_move rfl ⟨rfl, rfl⟩⟩) ?_
                refine WD.take hok2 31 (.bool (decide ((8 : Int) = (8 : Int)))) (fun _ => True) rfl rfl rfl rfl rfl trivial (.inl ⟨rfl, fun _ _ => d_cmp (decide ((8 : Int) = (8 : Int))) rfl rfl rfl ⟨rfl, rfl⟩⟩) ?_
                refine WD.take hok2 32 (.bool (decide ((8 : Int) = (8 : Int)))) (fun _ => True) rfl rfl rfl rfl rfl trivial (.inl ⟨rfl, fun _ _ => d_pick rfl rfl ⟨rfl, rfl⟩⟩) ?_
                refine WD.take hok2 33 (.bool (decide ((8 : Int) = (8 : Int)))) (fun _ => True) rfl rfl rfl rfl rfl trivial (.inl ⟨rfl, fun _ _ => d_move rfl ⟨rfl, rfl⟩⟩) ?_
                refine WD.part 123 (p := (8 : Int) = (8 : Int)) rfl (fun g140xxxx => ?_) (fun g140xxxx => ?_)
                · skip
                  refine WD.take hok2 34 (.int .i64 8) (fun _ => True) rfl rfl rfl rfl rfl trivial (.inl ⟨rfl, fun _ _ => d_move rfl ⟨rfl, rfl⟩⟩) ?_
                  refine WD.take hok2 35 (.bool (decide ((8 : Int) = (8 : Int)))) (fun _ => True) rfl rfl rfl rfl rfl trivial (.inl ⟨rfl, fun _ _ => d_cmp (decide ((8 : Int) = (8 : Int))) rfl rfl rfl ⟨rfl, rfl⟩⟩) ?_
                  refine WD.take hok2 36 (.bool (decide ((8 : Int) = (8 : Int)))) (fun _ => True) rfl rfl rfl rfl rfl trivial (.inl ⟨rfl, fun _ _ => d_pick rfl rfl ⟨rfl, rfl⟩⟩) ?_
                  refine WD.take hok2 37 (.bool (decide ((8 : Int) = (8 : Int)))) (fun _ => True) rfl rfl rfl rfl rfl trivial (.inl ⟨rfl, fun _ _ => d_move rfl ⟨rfl, rfl⟩⟩) ?_
                  refine WD.part 127 (p := (8 : Int) = (8 : Int)) rfl (fun g140xxxxx => ?_) (fun g140xxxxx => ?_)
                  · skip
                    refine WD.take hok2 38 (.int .i64 0) (fun _ => True) rfl rfl rfl rfl rfl trivial (.inl ⟨rfl, fun _ _ => d_move rfl ⟨rfl, rfl⟩⟩) ?_
                    refine WD.take hok2 39 (.int .i64 0) (fun _ => True) rfl rfl rfl rfl rfl trivial (.inl ⟨rfl, fun _ _ => d_move rfl ⟨rfl, rfl⟩⟩) ?_
                    refine WD.take hok2 40 (.int .i64 (0 + 0)) (fun _ => True) rfl rfl rfl rfl rfl trivial (.inl ⟨rfl, fun _ _ => d_add rfl rfl (by omega) (by omega) ⟨rfl, rfl⟩⟩) ?_
                    refine WD.take hok2 41 (.pointer none) (fun _ => True) rfl rfl rfl rfl rfl trivial (.inl ⟨rfl, fun _ _ => d_move rfl ⟨rfl, rfl⟩⟩) ?_
                    refine WD.loud hok2 42 rfl (⟨_, [⟨40, .int .i64 (0 + 0), (fun _ => True)⟩, ⟨39, .int .i64 0, (fun _ => True)⟩, ⟨38, .int .i64 0, (fun _ => True)⟩], rfl, rfl, rfl, rfl, rfl, rfl, d_call ok15 rfl (Ret.calls (allN_any  w23  ) fun _ w24 p13 => ?_)⟩)
                    obtain ⟨rfl, u20⟩ := p13
                    have H25 : UpG w [] w24 [[blk g_1 #[.slice pa (((turnH h text).past).length) pc, .slice na (((turnH h text).next).length) nc, .string ((turnH h text).now), .int .i64 ((turnH h text).most)] 79, rowT tyS (.slice pa (((turnH h text).past).length) pc) 9 ((turnH h text).past), rowT tyS (.slice na (((turnH h text).next).length) nc) 9 ((turnH h text).next)], [rowT tyS (.slice ra r.l.length rc) 9 r.l], [blk w3.heap.size #[.slice ra r.l.length rc, .int .i64 ((r.at_ : Nat) : Int), .int .i64 r.most] 28], [blk w6.heap.size #[.string text, .int .i64 ((0 + (h.past.length + 1 + h.next.length) : Nat) : Int)] 46], [rowT tyS (.slice wa ws.length wc) 9 ws], [rowT tyS (.slice a2_1 ((allH (turnH h text)).length) c2_1) 9 (allH (turnH h text))]] := H24.call u20
                    refine ⟨⟨trivial, trivial, trivial, trivial⟩, ?_⟩
                    refine WD.take hok2 43 (.int .i64 ((0 : Nat) : Int)) (fun _ => True) rfl rfl rfl rfl rfl trivial (.inl ⟨rfl, fun _ _ => d_lenS Try.underlying26 rfl ⟨rfl, rfl⟩⟩) ?_
                    refine WD.take hok2 44 (.int .i64 ((0 + 0) + ((0 : Nat) : Int))) (fun _ => True) rfl rfl rfl rfl rfl trivial (.inl ⟨rfl, fun _ _ => d_add rfl rfl (by omega) (by omega) ⟨rfl, rfl⟩⟩) ?_
                    refine WD.take hok2 45 (.bool (decide (((0 + 0) + ((0 : Nat) : Int)) = (0 : Int)))) (fun _ => True) rfl rfl rfl rfl rfl trivial (.inl ⟨rfl, fun _ _ => d_cmp (decide (((0 + 0) + ((0 : Nat) : Int)) = (0 : Int))) rfl rfl rfl ⟨rfl, rfl⟩⟩) ?_
                    refine WD.take hok2 46 (.bool (decide (((0 + 0) + ((0 : Nat) : Int)) = (0 : Int)))) (fun _ => True) rfl rfl rfl rfl rfl trivial (.inl ⟨rfl, fun _ _ => d_pick rfl rfl ⟨rfl, rfl⟩⟩) ?_
                    refine WD.take hok2 47 (.bool (decide (((0 + 0) + ((0 : Nat) : Int)) = (0 : Int)))) (fun _ => True) rfl rfl rfl rfl rfl trivial (.inl ⟨rfl, fun _ _ => d_move rfl ⟨rfl, rfl⟩⟩) ?_
                    refine WD.part 137 (p := ((0 + 0) + ((0 : Nat) : Int)) = (0 : Int)) rfl (fun g140xxxxxx => ?_) (fun g140xxxxxx => ?_)
                    · skip
                      refine WD.take hok2 48 (.pointer none) (fun _ => True) rfl rfl rfl rfl rfl trivial (.inl ⟨rfl, fun _ _ => d_move rfl ⟨rfl, rfl⟩⟩) ?_
                      refine WD.loud hok2 49 rfl (⟨_, [], rfl, rfl, rfl, rfl, rfl, rfl, d_call ok16 rfl (Ret.calls (nowN_any  w24  ) fun _ w25 p14 => ?_)⟩)
                      obtain ⟨rfl, u21⟩ := p14
                      have H26 : UpG w [] w25 [[blk g_1 #[.slice pa (((turnH h text).past).length) pc, .slice na (((turnH h text).next).length) nc, .string ((turnH h text).now), .int .i64 ((turnH h text).most)] 79, rowT tyS (.slice pa (((turnH h text).past).length) pc) 9 ((turnH h text).past), rowT tyS (.slice na (((turnH h text).next).length) nc) 9 ((turnH h text).next)], [rowT tyS (.slice ra r.l.length rc) 9 r.l], [blk w3.heap.size #[.slice ra r.l.length rc, .int .i64 ((r.at_ : Nat) : Int), .int .i64 r.most] 28], [blk w6.heap.size #[.string text, .int .i64 ((0 + (h.past.length + 1 + h.next.length) : Nat) : Int)] 46], [rowT tyS (.slice wa ws.length wc) 9 ws], [rowT tyS (.slice a2_1 ((allH (turnH h text)).length) c2_1) 9 (allH (turnH h text))]] := H25.call u21
                      refine ⟨trivial, ?_⟩
                      refine WD.take hok2 50 (.bool (decide ((⟨#[]⟩ : ByteArray) = ⟨#[]⟩))) (fun _ => True) rfl rfl rfl rfl rfl trivial (.inl ⟨rfl, fun _ _ => d_streq rfl rfl ⟨rfl, rfl⟩⟩) ?_
                      refine WD.take hok2 51 (.bool (decide ((⟨#[]⟩ : ByteArray) = ⟨#[]⟩))) (fun _ => True) rfl rfl rfl rfl rfl trivial (.inl ⟨rfl, fun _ _ => d_pick rfl rfl ⟨rfl, rfl⟩⟩) ?_
                      refine WD.take hok2 52 (.bool (decide ((⟨#[]⟩ : ByteArray) = ⟨#[]⟩))) (fun _ => True) rfl rfl rfl rfl rfl trivial (.inl ⟨rfl, fun _ _ => d_assign rfl ⟨rfl, rfl⟩⟩) ?_
                      refine WD.done hok2 rfl (X.then_code ?_)
                      refine W.pick [6] (Γ' := [(6, .bool (decide ((⟨#[]⟩ : ByteArray) = ⟨#[]⟩)))]) rfl ?_
                      refine W.ret (X.ret1 rfl rfl ?_)
                      exact ⟨(by rw [decide_eq_true (by decide)]), H26.noneL⟩
                    · skip
                      exact absurd (by decide) g140xxxxxx
                  · skip
                    exact absurd (by decide) g140xxxxx
                · skip
                  exact absurd (by decide) g140xxxx
              · skip
                exact absurd (by decide) g140xxx
            · skip
              exfalso; omega
          · skip
            exact absurd hN g140x
        · skip
          exact absurd hA g140
  · skip
    refine WL.opN rfl rfl rfl rfl ?_
    refine WL.opN rfl rfl rfl rfl ?_
    refine WL.op rfl (d_pick rfl rfl ?_)
    refine WL.done (X.then_code ?_)
    refine W.iff rfl ?_
    refine W.exit (X.then_exit (X.then_exit (X.block_exit (X.then_code ?_))))
    refine W.seq ?_
    refine W.region ?_
    refine WL.op rfl (d_move rfl ?_)
    refine WL.op rfl (d_build (cs := #[.string text, .int .i64 0]) rfl (by kernel_rfl) ?_)
    refine WL.op rfl (d_box rfl fun w26 u22 => ?_)
    have H27 : UpG w [] w26 [[blk g_1 #[.slice pa h.past.length pc, .slice na h.next.length nc, .string h.now, .int .i64 h.most] 79, rowT tyS (.slice pa h.past.length pc) 9 h.past, rowT tyS (.slice na h.next.length nc) 9 h.next], [rowT tyS (.slice ra r.l.length rc) 9 r.l], [blk w3.heap.size #[.slice ra r.l.length rc, .int .i64 ((r.at_ : Nat) : Int), .int .i64 r.most] 28], [blk w6.heap.size #[.string text, .int .i64 0] 46]] := H6.new' u22
    refine WL.op rfl (d_assign rfl ?_)
    refine WL.done (X.then_code ?_)
    refine W.pick [10, 8, 7, 6, 2] (Γ' := [(10, .pointer (some ⟨w6.heap.size, 0, none⟩)), (8, .pointer (some ⟨w3.heap.size, 0, none⟩)), (7, .pointer (some ⟨g_1, 0, none⟩)), (6, .bool false), (2, .string text)]) rfl ?_
    refine W.seq ?_
    refine W.region ?_
    refine WL.op rfl (d_move rfl ?_)
    refine WL.op rfl (d_move rfl ?_)
    refine WL.op rfl (d_makeFunc rfl rfl ?_)
    refine WL.op rfl (d_call ok21 rfl (Ret.calls (each_any h g_1 pa pc na nc w6.heap.size text 0 w26 (H27.hp2 0 3 rfl rfl rfl)  (fun s hs => by have := hq s hs; omega) (by omega)) fun _ w27 p15 => ?_))
    obtain ⟨rfl, u23⟩ := p15
    have H28 : UpG w [] w27 [[blk g_1 #[.slice pa (((turnH h text).past).length) pc, .slice na (((turnH h text).next).length) nc, .string ((turnH h text).now), .int .i64 ((turnH h text).most)] 79, rowT tyS (.slice pa (((turnH h text).past).length) pc) 9 ((turnH h text).past), rowT tyS (.slice na (((turnH h text).next).length) nc) 9 ((turnH h text).next)], [rowT tyS (.slice ra r.l.length rc) 9 r.l], [blk w3.heap.size #[.slice ra r.l.length rc, .int .i64 ((r.at_ : Nat) : Int), .int .i64 r.most] 28], [blk w6.heap.size #[.string text, .int .i64 ((0 + (h.past.length + 1 + h.next.length) : Nat) : Int)] 46]] := (H27.on2 (A' := [blk g_1 #[.slice pa (((turnH h text).past).length) pc, .slice na (((turnH h text).next).length) nc, .string ((turnH h text).now), .int .i64 ((turnH h text).most)] 79, rowT tyS (.slice pa (((turnH h text).past).length) pc) 9 ((turnH h text).past), rowT tyS (.slice na (((turnH h text).next).length) nc) 9 ((turnH h text).next)]) (B' := [blk w6.heap.size #[.string text, .int .i64 ((0 + (h.past.length + 1 + h.next.length) : Nat) : Int)] 46]) (C := []) 0 3 rfl rfl rfl u23).re rfl
    refine WL.done (X.then_code ?_)
    refine W.seq ?_
    refine W.region ?_
    refine WL.op rfl (d_assign rfl ?_)
    refine WL.done (X.then_code ?_)
    refine W.seq ?_
    refine W.seq ?_
    refine W.region ?_
    refine WL.op rfl (d_assign rfl ?_)
    refine WL.done (X.then_code ?_)
    refine W.block ?_
    have H29 : UpG w [] w27 [[blk g_1 #[.slice pa (((turnH h text).past).length) pc, .slice na (((turnH h text).next).length) nc, .string ((turnH h text).now), .int .i64 ((turnH h text).most)] 79, rowT tyS (.slice pa (((turnH h text).past).length) pc) 9 ((turnH h text).past), rowT tyS (.slice na (((turnH h text).next).length) nc) 9 ((turnH h text).next)], [rowT tyS (.slice ra r.l.length rc) 9 r.l], [blk w3.heap.size #[.slice ra r.l.length rc, .int .i64 ((r.at_ : Nat) : Int), .int .i64 r.most] 28], [blk w6.heap.size #[.string text, .int .i64 ((0 + (h.past.length + 1 + h.next.length) : Nat) : Int)] 46], [rowT tyS (.slice none (([] : List ByteArray).length) 0) 9 ([] : List ByteArray)]] := H28.new' (Upd.nilRowT w27 tyS 9)
    refine W.pick [12, 11, 10, 8, 7, 6, 2] (Γ' := [(12, .int .i64 0), (11, .slice none (([] : List ByteArray).length) 0), (10, .pointer (some ⟨w6.heap.size, 0, none⟩)), (8, .pointer (some ⟨w3.heap.size, 0, none⟩)), (7, .pointer (some ⟨g_1, 0, none⟩)), (6, .bool false), (2, .string text)]) rfl ?_
    refine W.loop (fun m Γ' w' => ∃ j : Nat, ∃ wa : Option Addr, ∃ ws : List ByteArray, ∃ wc : Nat, Γ' = [(12, .int .i64 ((j : Nat) : Int)), (11, .slice wa ws.length wc), (10, .pointer (some ⟨w6.heap.size, 0, none⟩)), (8, .pointer (some ⟨w3.heap.size, 0, none⟩)), (7, .pointer (some ⟨g_1, 0, none⟩)), (6, .bool false), (2, .string text)] ∧ UpG w [] w' [[blk g_1 #[.slice pa (((turnH h text).past).length) pc, .slice na (((turnH h text).next).length) nc, .string ((turnH h text).now), .int .i64 ((turnH h text).most)] 79, rowT tyS (.slice pa (((turnH h text).past).length) pc) 9 ((turnH h text).past), rowT tyS (.slice na (((turnH h text).next).length) nc) 9 ((turnH h text).next)], [rowT tyS (.slice ra r.l.length rc) 9 r.l], [blk w3.heap.size #[.slice ra r.l.length rc, .int .i64 ((r.at_ : Nat) : Int), .int .i64 r.most] 28], [blk w6.heap.size #[.string text, .int .i64 ((0 + (h.past.length + 1 + h.next.length) : Nat) : Int)] 46], [rowT tyS (.slice wa ws.length wc) 9 ws]] ∧ (j ≤ r.l.length) ∧ (ws = (r.l.take j).map (· ++ text)) ∧ (ws.length = j) ∧ m = r.l.length - j) (r.l.length - 0) ⟨0, none, ([] : List ByteArray), 0, rfl, H29, (by first | assumption | omega | simp), (by simp), (by rfl), rfl⟩ ?_
    rintro m3 Γ3 w28 ⟨j_1, wa_1, ws_1, wc_1, rfl, H30, hj, hws, hwl, rfl⟩
    refine W.seq ?_
    refine W.seq ?_
    refine W.region ?_
    refine WL.op rfl (d_move rfl ?_)
    refine WL.op rfl (d_fieldAddrB fld28_0 rfl rfl ?_)
    refine WL.op rfl (d_loadB Try.underlying26 rfl rfl (H30.blk 2 rfl) rfl ?_)
    refine WL.op rfl (d_lenS Try.underlying26 rfl ?_)
    refine WL.op rfl (d_cmp (decide (((j_1 : Nat) : Int) < ((r.l.length : Nat) : Int))) rfl rfl rfl ?_)
    refine WL.done (X.then_code ?_)
    refine W.ite (p := ((j_1 : Nat) : Int) < ((r.l.length : Nat) : Int)) rfl (fun c132 => ?_) (fun c132 => ?_)
    · skip
      refine W.skip (X.then_code ?_)
      refine W.seq ?_
      refine W.block ?_
      have hsj : (r.l.getD j_1 .empty).size ≤ 140737488351232 := hq _ (by rw [← hr.l]; exact getD_mem (by omega))
      have hlen1 := hr.len
      refine W.region ?_
      refine WL.op rfl (d_move rfl ?_)
      refine WL.op rfl (d_fieldAddrB fld28_0 rfl rfl ?_)
      refine WL.op rfl (d_loadB Try.underlying26 rfl rfl (H30.blk 2 rfl) rfl ?_)
      refine WL.op rfl (d_move rfl ?_)
      refine WL.op rfl (t_addr1 j_1 (T := tyS) rfl Try.underlying26 sz9 rfl rfl (H30.rdT 1 rfl) rfl (by omega) ?_)
      refine WL.op rfl (t_load1 j_1 .empty (T := tyS) rfl Try.underlying9 rfl rfl (H30.rdT 1 rfl) (by omega) rfl ?_)
      refine WL.op rfl (d_move rfl ?_)
      refine WL.op rfl (d_concat rfl rfl (by first | omega | (simp; omega)) ?_)
      refine WL.op rfl (t_buildSlice (T := tyS) (xs := [(r.l.getD j_1 .empty) ++ text]) (cs := #[.string ((r.l.getD j_1 .empty) ++ text)]) rfl Try.underlying26 sz9 rfl rfl rfl rfl (by kernel_rfl) rfl rfl fun w29 u24 => ?_)
      have H31 : UpG w [] w29 [[blk g_1 #[.slice pa (((turnH h text).past).length) pc, .slice na (((turnH h text).next).length) nc, .string ((turnH h text).now), .int .i64 ((turnH h text).most)] 79, rowT tyS (.slice pa (((turnH h text).past).length) pc) 9 ((turnH h text).past), rowT tyS (.slice na (((turnH h text).next).length) nc) 9 ((turnH h text).next)], [rowT tyS (.slice ra r.l.length rc) 9 r.l], [blk w3.heap.size #[.slice ra r.l.length rc, .int .i64 ((r.at_ : Nat) : Int), .int .i64 r.most] 28], [blk w6.heap.size #[.string text, .int .i64 ((0 + (h.past.length + 1 + h.next.length) : Nat) : Int)] 46], [rowT tyS (.slice wa_1 ws_1.length wc_1) 9 ws_1], [rowT tyS (.slice (some ⟨w28.heap.size, 0, none⟩) ([(r.l.getD j_1 .empty) ++ text].length) ([(r.l.getD j_1 .empty) ++ text].length)) 9 [(r.l.getD j_1 .empty) ++ text]]] := H30.new' u24
      refine WL.op rfl (t_append (T := tyS) (xs := ws_1) (ys := [(r.l.getD j_1 .empty) ++ text]) rfl Try.underlying26 sz9 rfl rfl rfl (H31.ownT 4 rfl) (H31.rdT 5 rfl) (by first | omega | (simp; omega)) (by first | omega | (simp; omega)) fun a2 c2 w30 u25 => ?_)
      have H32 : UpG w [] w30 [[blk g_1 #[.slice pa (((turnH h text).past).length) pc, .slice na (((turnH h text).next).length) nc, .string ((turnH h text).now), .int .i64 ((turnH h text).most)] 79, rowT tyS (.slice pa (((turnH h text).past).length) pc) 9 ((turnH h text).past), rowT tyS (.slice na (((turnH h text).next).length) nc) 9 ((turnH h text).next)], [rowT tyS (.slice ra r.l.length rc) 9 r.l], [blk w3.heap.size #[.slice ra r.l.length rc, .int .i64 ((r.at_ : Nat) : Int), .int .i64 r.most] 28], [blk w6.heap.size #[.string text, .int .i64 ((0 + (h.past.length + 1 + h.next.length) : Nat) : Int)] 46], [rowT tyS (.slice a2 ((ws_1 ++ [(r.l.getD j_1 .empty) ++ text]).length) c2) 9 (ws_1 ++ [(r.l.getD j_1 .empty) ++ text])], []] := (H31.on 4 rfl u25).drop 5
      refine WL.op rfl (d_assign rfl ?_)
      refine WL.done (X.block_normal (X.then_code ?_))
      refine W.pick [11, 70, 69, 68, 67, 66, 65, 64, 63, 62, 61, 58, 57, 56, 55, 54, 12, 10, 8, 7, 6, 2] (Γ' := [(11, .slice a2 ((ws_1 ++ [(r.l.getD j_1 .empty) ++ text]).length) c2), (70, .slice a2 ((ws_1 ++ [(r.l.getD j_1 .empty) ++ text]).length) c2), (69, .slice (some ⟨w28.heap.size, 0, none⟩) ([(r.l.getD j_1 .empty) ++ text].length) ([(r.l.getD j_1 .empty) ++ text].length)), (68, .string ((r.l.getD j_1 .empty) ++ text)), (67, .string text), (66, .string (r.l.getD j_1 .empty)), (65, elemPtr (.slice ra r.l.length rc) j_1), (64, .int .i64 ((j_1 : Nat) : Int)), (63, .slice ra r.l.length rc), (62, .pointer (some ⟨w3.heap.size, 0, none⟩)), (61, .slice wa_1 ws_1.length wc_1), (58, .bool (decide (((j_1 : Nat) : Int) < ((r.l.length : Nat) : Int)))), (57, .int .i64 ((r.l.length : Nat) : Int)), (56, .slice ra r.l.length rc), (55, .pointer (some ⟨w3.heap.size, 0, none⟩)), (54, .int .i64 ((j_1 : Nat) : Int)), (12, .int .i64 ((j_1 : Nat) : Int)), (10, .pointer (some ⟨w6.heap.size, 0, none⟩)), (8, .pointer (some ⟨w3.heap.size, 0, none⟩)), (7, .pointer (some ⟨g_1, 0, none⟩)), (6, .bool false), (2, .string text)]) rfl ?_
      refine W.region ?_
      refine WL.op rfl (d_move rfl ?_)
      refine WL.op rfl (d_add rfl rfl (by omega) (by omega) ?_)
      refine WL.op rfl (d_assign rfl ?_)
      refine WL.done ?_
      exact X.next [12, 11, 10, 8, 7, 6, 2] (Γ' := [(12, .int .i64 (((j_1 + 1) : Nat) : Int)), (11, .slice a2 ((ws_1 ++ [(r.l.getD j_1 .empty) ++ text]).length) c2), (10, .pointer (some ⟨w6.heap.size, 0, none⟩)), (8, .pointer (some ⟨w3.heap.size, 0, none⟩)), (7, .pointer (some ⟨g_1, 0, none⟩)), (6, .bool false), (2, .string text)]) rfl (r.l.length - (j_1 + 1)) (by omega) ⟨j_1 + 1, a2, ws_1 ++ [(r.l.getD j_1 .empty) ++ text], c2, rfl, (H32.re rfl), (by first | assumption | omega | simp), (by rw [hws]; exact map_take_step (by omega)), (by simp; omega), rfl⟩
    · skip
      refine W.exit (X.then_exit (X.then_exit (X.block_exit (X.then_code ?_))))
      refine W.seq ?_
      refine W.region ?_
      refine WL.op rfl (d_assign rfl ?_)
      refine WL.done (X.then_code ?_)
      refine W.seq ?_
      refine W.region ?_
      refine WL.op rfl (d_move rfl ?_)
      refine WL.op rfl (d_move rfl ?_)
      refine WL.op rfl (d_makeFunc rfl rfl ?_)
      refine WL.op rfl (d_call ok21 rfl (Ret.calls (eachN_any w6.heap.size w28  ) fun _ w31 p16 => ?_))
      obtain ⟨rfl, u26⟩ := p16
      have H33 : UpG w [] w31 [[blk g_1 #[.slice pa (((turnH h text).past).length) pc, .slice na (((turnH h text).next).length) nc, .string ((turnH h text).now), .int .i64 ((turnH h text).most)] 79, rowT tyS (.slice pa (((turnH h text).past).length) pc) 9 ((turnH h text).past), rowT tyS (.slice na (((turnH h text).next).length) nc) 9 ((turnH h text).next)], [rowT tyS (.slice ra r.l.length rc) 9 r.l], [blk w3.heap.size #[.slice ra r.l.length rc, .int .i64 ((r.at_ : Nat) : Int), .int .i64 r.most] 28], [blk w6.heap.size #[.string text, .int .i64 ((0 + (h.past.length + 1 + h.next.length) : Nat) : Int)] 46], [rowT tyS (.slice wa_1 ws_1.length wc_1) 9 ws_1]] := H30.call u26
      refine WL.done (X.then_code ?_)
      refine W.pick [13, 11, 10, 8, 7, 6, 2] (Γ' := [(13, .pointer none), (11, .slice wa_1 ws_1.length wc_1), (10, .pointer (some ⟨w6.heap.size, 0, none⟩)), (8, .pointer (some ⟨w3.heap.size, 0, none⟩)), (7, .pointer (some ⟨g_1, 0, none⟩)), (6, .bool false), (2, .string text)]) rfl ?_
      refine W.seq ?_
      refine W.region ?_
      refine WL.op rfl (d_move rfl ?_)
      refine WL.op rfl (d_call ok17 rfl (Ret.calls (undoN_any  w31  ) fun _ w32 p17 => ?_))
      obtain ⟨rfl, u27⟩ := p17
      have H34 : UpG w [] w32 [[blk g_1 #[.slice pa (((turnH h text).past).length) pc, .slice na (((turnH h text).next).length) nc, .string ((turnH h text).now), .int .i64 ((turnH h text).most)] 79, rowT tyS (.slice pa (((turnH h text).past).length) pc) 9 ((turnH h text).past), rowT tyS (.slice na (((turnH h text).next).length) nc) 9 ((turnH h text).next)], [rowT tyS (.slice ra r.l.length rc) 9 r.l], [blk w3.heap.size #[.slice ra r.l.length rc, .int .i64 ((r.at_ : Nat) : Int), .int .i64 r.most] 28], [blk w6.heap.size #[.string text, .int .i64 ((0 + (h.past.length + 1 + h.next.length) : Nat) : Int)] 46], [rowT tyS (.slice wa_1 ws_1.length wc_1) 9 ws_1]] := H33.call u27
      refine WL.op rfl (d_move rfl ?_)
      refine WL.op rfl (d_extract rfl rfl ?_)
      refine WL.op rfl (d_extract rfl rfl ?_)
      refine WL.op rfl (d_assign rfl ?_)
      refine WL.op rfl (d_assign rfl ?_)
      refine WL.done (X.then_code ?_)
      refine W.seq ?_
      refine W.region ?_
      refine WL.op rfl (d_move rfl ?_)
      refine WL.op rfl (d_call ok20 rfl (Ret.calls (redoN_any  w32  ) fun _ w33 p18 => ?_))
      obtain ⟨rfl, u28⟩ := p18
      have H35 : UpG w [] w33 [[blk g_1 #[.slice pa (((turnH h text).past).length) pc, .slice na (((turnH h text).next).length) nc, .string ((turnH h text).now), .int .i64 ((turnH h text).most)] 79, rowT tyS (.slice pa (((turnH h text).past).length) pc) 9 ((turnH h text).past), rowT tyS (.slice na (((turnH h text).next).length) nc) 9 ((turnH h text).next)], [rowT tyS (.slice ra r.l.length rc) 9 r.l], [blk w3.heap.size #[.slice ra r.l.length rc, .int .i64 ((r.at_ : Nat) : Int), .int .i64 r.most] 28], [blk w6.heap.size #[.string text, .int .i64 ((0 + (h.past.length + 1 + h.next.length) : Nat) : Int)] 46], [rowT tyS (.slice wa_1 ws_1.length wc_1) 9 ws_1]] := H34.call u28
      refine WL.op rfl (d_move rfl ?_)
      refine WL.op rfl (d_extract rfl rfl ?_)
      refine WL.op rfl (d_extract rfl rfl ?_)
      refine WL.op rfl (d_assign rfl ?_)
      refine WL.op rfl (d_assign rfl ?_)
      refine WL.done (X.then_code ?_)
      refine W.pick [17, 15, 13, 11, 10, 8, 7, 6, 2] (Γ' := [(17, .int .i64 8), (15, .int .i64 8), (13, .pointer none), (11, .slice wa_1 ws_1.length wc_1), (10, .pointer (some ⟨w6.heap.size, 0, none⟩)), (8, .pointer (some ⟨w3.heap.size, 0, none⟩)), (7, .pointer (some ⟨g_1, 0, none⟩)), (6, .bool false), (2, .string text)]) rfl ?_
      refine W.seq ?_
      refine W.region ?_
      refine WL.op rfl (d_move rfl ?_)
      refine WL.op rfl (d_call ok18 rfl (Ret.calls (sizesN_any  w33  ) fun _ w34 p19 => ?_))
      obtain ⟨rfl, u29⟩ := p19
      have H36 : UpG w [] w34 [[blk g_1 #[.slice pa (((turnH h text).past).length) pc, .slice na (((turnH h text).next).length) nc, .string ((turnH h text).now), .int .i64 ((turnH h text).most)] 79, rowT tyS (.slice pa (((turnH h text).past).length) pc) 9 ((turnH h text).past), rowT tyS (.slice na (((turnH h text).next).length) nc) 9 ((turnH h text).next)], [rowT tyS (.slice ra r.l.length rc) 9 r.l], [blk w3.heap.size #[.slice ra r.l.length rc, .int .i64 ((r.at_ : Nat) : Int), .int .i64 r.most] 28], [blk w6.heap.size #[.string text, .int .i64 ((0 + (h.past.length + 1 + h.next.length) : Nat) : Int)] 46], [rowT tyS (.slice wa_1 ws_1.length wc_1) 9 ws_1]] := H35.call u29
      refine WL.op rfl (d_move rfl ?_)
      refine WL.op rfl (d_extract rfl rfl ?_)
      refine WL.op rfl (d_extract rfl rfl ?_)
      refine WL.op rfl (d_assign rfl ?_)
      refine WL.op rfl (d_assign rfl ?_)
      refine WL.done (X.then_code ?_)
      refine W.seq ?_
      have hA : decide (allH (turnH h text) = ws_1) = true := by rw [decide_eq_true]; rw [turnH_all, hws, List.take_of_length_le (by omega), hr.l]
      have hlt := hr.lt
      have hat := hr.at_
      have hlen2 := hr.len
      have hN : (turnH h text).now = ws_1.getD r.at_ .empty := by have h9 := allH_now (turnH h text); rw [← h9, of_decide_eq_true hA, hat]; simp [turnH]
      refine W.regionD mixed (by kernel_rfl) fun hok3 w35 k3 => ?_
      have H37 : UpG w [] w35 [[blk g_1 #[.slice pa (((turnH h text).past).length) pc, .slice na (((turnH h text).next).length) nc, .string ((turnH h text).now), .int .i64 ((turnH h text).most)] 79, rowT tyS (.slice pa (((turnH h text).past).length) pc) 9 ((turnH h text).past), rowT tyS (.slice na (((turnH h text).next).length) nc) 9 ((turnH h text).next)], [rowT tyS (.slice ra r.l.length rc) 9 r.l], [blk w3.heap.size #[.slice ra r.l.length rc, .int .i64 ((r.at_ : Nat) : Int), .int .i64 r.most] 28], [blk w6.heap.size #[.string text, .int .i64 ((0 + (h.past.length + 1 + h.next.length) : Nat) : Int)] 46], [rowT tyS (.slice wa_1 ws_1.length wc_1) 9 ws_1]] := H36.kept k3
      refine WD.take hok3 0 (.pointer (some ⟨g_1, 0, none⟩)) (fun _ => True) rfl rfl rfl rfl rfl trivial (.inl ⟨rfl, fun _ _ => d_move rfl ⟨rfl, rfl⟩⟩) ?_
      refine WD.take hok3 2 (.slice wa_1 ws_1.length wc_1) (fun _ => True) rfl rfl rfl rfl rfl trivial (.inl ⟨rfl, fun _ _ => d_move rfl ⟨rfl, rfl⟩⟩) ?_
      refine WD.loud hok3 1 rfl (⟨_, [⟨2, .slice wa_1 ws_1.length wc_1, (fun _ => True)⟩], rfl, rfl, rfl, rfl, rfl, rfl, d_call ok15 rfl (Ret.calls (all_any (turnH h text) g_1 pa pc na nc w35 (H37.hpOf 0 rfl)  (by simp [turnH]; omega)) fun _ w36 p20 => ?_)⟩)
      obtain ⟨a2_2, c2_2, rfl, u30⟩ := p20
      have H38 : UpG w [] w36 [[blk g_1 #[.slice pa (((turnH h text).past).length) pc, .slice na (((turnH h text).next).length) nc, .string ((turnH h text).now), .int .i64 ((turnH h text).most)] 79, rowT tyS (.slice pa (((turnH h text).past).length) pc) 9 ((turnH h text).past), rowT tyS (.slice na (((turnH h text).next).length) nc) 9 ((turnH h text).next)], [rowT tyS (.slice ra r.l.length rc) 9 r.l], [blk w3.heap.size #[.slice ra r.l.length rc, .int .i64 ((r.at_ : Nat) : Int), .int .i64 r.most] 28], [blk w6.heap.size #[.string text, .int .i64 ((0 + (h.past.length + 1 + h.next.length) : Nat) : Int)] 46], [rowT tyS (.slice wa_1 ws_1.length wc_1) 9 ws_1], [rowT tyS (.slice a2_2 ((allH (turnH h text)).length) c2_2) 9 (allH (turnH h text))]] := (H37.onX (B := [blk g_1 #[.slice pa (((turnH h text).past).length) pc, .slice na (((turnH h text).next).length) nc, .string ((turnH h text).now), .int .i64 ((turnH h text).most)] 79, rowT tyS (.slice pa (((turnH h text).past).length) pc) 9 ((turnH h text).past), rowT tyS (.slice na (((turnH h text).next).length) nc) 9 ((turnH h text).next)]) (C := [rowT tyS (.slice a2_2 ((allH (turnH h text)).length) c2_2) 9 (allH (turnH h text))]) 0 rfl u30).re rfl
      refine ⟨⟨trivial, trivial⟩, ?_⟩
      refine WD.loud hok3 3 rfl (⟨_, [], rfl, rfl, rfl, rfl, rfl, rfl, d_call ok19 rfl (Ret.calls (same_any a2_2 (allH (turnH h text)) c2_2 wa_1 ws_1 wc_1 w36 (H38.rdT 5 rfl) (H38.rdT 4 rfl) ) fun _ w37 p21 => ?_)⟩)
      obtain ⟨rfl, u31⟩ := p21
      have H39 : UpG w [] w37 [[blk g_1 #[.slice pa (((turnH h text).past).length) pc, .slice na (((turnH h text).next).length) nc, .string ((turnH h text).now), .int .i64 ((turnH h text).most)] 79, rowT tyS (.slice pa (((turnH h text).past).length) pc) 9 ((turnH h text).past), rowT tyS (.slice na (((turnH h text).next).length) nc) 9 ((turnH h text).next)], [rowT tyS (.slice ra r.l.length rc) 9 r.l], [blk w3.heap.size #[.slice ra r.l.length rc, .int .i64 ((r.at_ : Nat) : Int), .int .i64 r.most] 28], [blk w6.heap.size #[.string text, .int .i64 ((0 + (h.past.length + 1 + h.next.length) : Nat) : Int)] 46], [rowT tyS (.slice wa_1 ws_1.length wc_1) 9 ws_1], [rowT tyS (.slice a2_2 ((allH (turnH h text)).length) c2_2) 9 (allH (turnH h text))]] := H38.call u31
      refine ⟨trivial, ?_⟩
      refine WD.take hok3 4 (.bool (decide ((allH (turnH h text)) = ws_1))) (fun _ => True) rfl rfl rfl rfl rfl trivial (.inl ⟨rfl, fun _ _ => d_move rfl ⟨rfl, rfl⟩⟩) ?_
      refine WD.partB 94 (b := decide ((allH (turnH h text)) = ws_1)) rfl (fun g140 => ?_) (fun g140 => ?_)
      · skip
        refine WD.take hok3 5 (.pointer (some ⟨g_1, 0, none⟩)) (fun _ => True) rfl rfl rfl rfl rfl trivial (.inl ⟨rfl, fun _ _ => d_move rfl ⟨rfl, rfl⟩⟩) ?_
        refine WD.take hok3 7 (.slice wa_1 ws_1.length wc_1) (fun _ => True) rfl rfl rfl rfl rfl trivial (.inl ⟨rfl, fun _ _ => d_move rfl ⟨rfl, rfl⟩⟩) ?_
        refine WD.take hok3 8 (.pointer (some ⟨w3.heap.size, 1, none⟩)) (fun _ => True) rfl rfl rfl rfl rfl trivial (.inl ⟨rfl, fun _ _ => d_fieldAddrB fld28_1 rfl rfl ⟨rfl, rfl⟩⟩) ?_
        refine WD.take hok3 9 (.int .i64 ((r.at_ : Nat) : Int)) (fun w' => w'.heap[w3.heap.size]? = some (.cells #[.slice ra r.l.length rc, .int .i64 ((r.at_ : Nat) : Int), .int .i64 r.most] 28 (0, 0))) rfl rfl rfl rfl rfl (H39.blk 2 rfl) (.inl ⟨rfl, fun _ hC => d_loadB Try.underlying3 rfl rfl hC rfl ⟨rfl, rfl⟩⟩) ?_
        refine WD.take hok3 10 (elemPtr (.slice wa_1 ws_1.length wc_1) r.at_) (fun w' => RdT tyS w' (.slice wa_1 ws_1.length wc_1) ws_1) rfl rfl rfl rfl rfl (H39.rdT 4 rfl) (.inl ⟨rfl, fun _ hC => t_addr1 r.at_ (T := tyS) rfl Try.underlying26 sz9 rfl rfl hC rfl (by omega) ⟨rfl, rfl⟩⟩) ?_
        refine WD.take hok3 11 (.string (ws_1.getD r.at_ .empty)) (fun w' => RdT tyS w' (.slice wa_1 ws_1.length wc_1) ws_1) rfl rfl rfl rfl rfl (H39.rdT 4 rfl) (.inl ⟨rfl, fun _ hC => t_load1 r.at_ .empty (T := tyS) rfl Try.underlying9 rfl rfl hC (by omega) rfl ⟨rfl, rfl⟩⟩) ?_
        refine WD.loud hok3 6 rfl (⟨_, [⟨11, .string (ws_1.getD r.at_ .empty), (fun w' => RdT tyS w' (.slice wa_1 ws_1.length wc_1) ws_1)⟩, ⟨10, elemPtr (.slice wa_1 ws_1.length wc_1) r.at_, (fun w' => RdT tyS w' (.slice wa_1 ws_1.length wc_1) ws_1)⟩, ⟨9, .int .i64 ((r.at_ : Nat) : Int), (fun w' => w'.heap[w3.heap.size]? = some (.cells #[.slice ra r.l.length rc, .int .i64 ((r.at_ : Nat) : Int), .int .i64 r.most] 28 (0, 0)))⟩, ⟨8, .pointer (some ⟨w3.heap.size, 1, none⟩), (fun _ => True)⟩, ⟨7, .slice wa_1 ws_1.length wc_1, (fun _ => True)⟩], rfl, rfl, rfl, rfl, rfl, rfl, d_call ok16 rfl (Ret.calls (now_any (turnH h text) g_1 pa pc na nc w37 (H39.hpOf 0 rfl)  ) fun _ w38 p22 => ?_)⟩)
        obtain ⟨rfl, u32⟩ := p22
        have H40 : UpG w [] w38 [[blk g_1 #[.slice pa (((turnH h text).past).length) pc, .slice na (((turnH h text).next).length) nc, .string ((turnH h text).now), .int .i64 ((turnH h text).most)] 79, rowT tyS (.slice pa (((turnH h text).past).length) pc) 9 ((turnH h text).past), rowT tyS (.slice na (((turnH h text).next).length) nc) 9 ((turnH h text).next)], [rowT tyS (.slice ra r.l.length rc) 9 r.l], [blk w3.heap.size #[.slice ra r.l.length rc, .int .i64 ((r.at_ : Nat) : Int), .int .i64 r.most] 28], [blk w6.heap.size #[.string text, .int .i64 ((0 + (h.past.length + 1 + h.next.length) : Nat) : Int)] 46], [rowT tyS (.slice wa_1 ws_1.length wc_1) 9 ws_1], [rowT tyS (.slice a2_2 ((allH (turnH h text)).length) c2_2) 9 (allH (turnH h text))]] := H39.on 0 rfl u32
        refine ⟨⟨(H40.rdT 4 rfl), (H40.rdT 4 rfl), (H40.blk 2 rfl), trivial, trivial, trivial⟩, ?_⟩
        refine WD.take hok3 12 (.bool (decide (((turnH h text).now) = (ws_1.getD r.at_ .empty)))) (fun _ => True) rfl rfl rfl rfl rfl trivial (.inl ⟨rfl, fun _ _ => d_streq rfl rfl ⟨rfl, rfl⟩⟩) ?_
        refine WD.take hok3 13 (.bool (decide (((turnH h text).now) = (ws_1.getD r.at_ .empty)))) (fun _ => True) rfl rfl rfl rfl rfl trivial (.inl ⟨rfl, fun _ _ => d_pick rfl rfl ⟨rfl, rfl⟩⟩) ?_
        refine WD.take hok3 14 (.bool (decide (((turnH h text).now) = (ws_1.getD r.at_ .empty)))) (fun _ => True) rfl rfl rfl rfl rfl trivial (.inl ⟨rfl, fun _ _ => d_move rfl ⟨rfl, rfl⟩⟩) ?_
        refine WD.part 104 (p := ((turnH h text).now) = (ws_1.getD r.at_ .empty)) rfl (fun g140x => ?_) (fun g140x => ?_)
        · skip
          refine WD.take hok3 15 (.pointer (some ⟨w6.heap.size, 0, none⟩)) (fun _ => True) rfl rfl rfl rfl rfl trivial (.inl ⟨rfl, fun _ _ => d_move rfl ⟨rfl, rfl⟩⟩) ?_
          refine WD.take hok3 16 (.pointer (some ⟨w6.heap.size, 0, none⟩)) (fun _ => True) rfl rfl rfl rfl rfl trivial (.inl ⟨rfl, fun _ _ => d_nilCheck rfl ⟨rfl, rfl⟩⟩) ?_
          refine WD.take hok3 17 (.pointer (some ⟨w6.heap.size, 1, none⟩)) (fun _ => True) rfl rfl rfl rfl rfl trivial (.inl ⟨rfl, fun _ _ => d_fieldAddrB fld46_1 rfl rfl ⟨rfl, rfl⟩⟩) ?_
          refine WD.take hok3 18 (.int .i64 ((0 + (h.past.length + 1 + h.next.length) : Nat) : Int)) (fun w' => w'.heap[w6.heap.size]? = some (.cells #[.string text, .int .i64 ((0 + (h.past.length + 1 + h.next.length) : Nat) : Int)] 46 (0, 0))) rfl rfl rfl rfl rfl (H40.blk 3 rfl) (.inl ⟨rfl, fun _ hC => d_loadB Try.underlying3 rfl rfl hC rfl ⟨rfl, rfl⟩⟩) ?_
          refine WD.take hok3 19 (.slice wa_1 ws_1.length wc_1) (fun _ => True) rfl rfl rfl rfl rfl trivial (.inl ⟨rfl, fun _ _ => d_move rfl ⟨rfl, rfl⟩⟩) ?_
          refine WD.take hok3 20 (.int .i64 ((ws_1.length : Nat) : Int)) (fun _ => True) rfl rfl rfl rfl rfl trivial (.inl ⟨rfl, fun _ _ => d_lenS Try.underlying26 rfl ⟨rfl, rfl⟩⟩) ?_
          refine WD.take hok3 21 (.bool (decide (((0 + (h.past.length + 1 + h.next.length) : Nat) : Int) = ((ws_1.length : Nat) : Int)))) (fun _ => True) rfl rfl rfl rfl rfl trivial (.inl ⟨rfl, fun _ _ => d_cmp (decide (((0 + (h.past.length + 1 + h.next.length) : Nat) : Int) = ((ws_1.length : Nat) : Int))) rfl rfl rfl ⟨rfl, rfl⟩⟩) ?_
          refine WD.take hok3 22 (.bool (decide (((0 + (h.past.length + 1 + h.next.length) : Nat) : Int) = ((ws_1.length : Nat) : Int)))) (fun _ => True) rfl rfl rfl rfl rfl trivial (.inl ⟨rfl, fun _ _ => d_pick rfl rfl ⟨rfl, rfl⟩⟩) ?_
          refine WD.take hok3 23 (.bool (decide (((0 + (h.past.length + 1 + h.next.length) : Nat) : Int) = ((ws_1.length : Nat) : Int)))) (fun _ => True) rfl rfl rfl rfl rfl trivial (.inl ⟨rfl, fun _ _ => d_move rfl ⟨rfl, rfl⟩⟩) ?_
          refine WD.part 113 (p := ((0 + (h.past.length + 1 + h.next.length) : Nat) : Int) = ((ws_1.length : Nat) : Int)) rfl (fun g140xx => ?_) (fun g140xx => ?_)
          · skip
            refine WD.take hok3 24 (.pointer none) (fun _ => True) rfl rfl rfl rfl rfl trivial (.inl ⟨rfl, fun _ _ => d_move rfl ⟨rfl, rfl⟩⟩) ?_
            refine WD.take hok3 25 (.string text) (fun _ => True) rfl rfl rfl rfl rfl trivial (.inl ⟨rfl, fun _ _ => d_move rfl ⟨rfl, rfl⟩⟩) ?_
            refine WD.loud hok3 26 rfl (⟨_, [], rfl, rfl, rfl, rfl, rfl, rfl, d_call ok23 rfl (Ret.calls (doN_any text w38  ) fun _ w39 p23 => ?_)⟩)
            obtain ⟨rfl, u33⟩ := p23
            have H41 : UpG w [] w39 [[blk g_1 #[.slice pa (((turnH h text).past).length) pc, .slice na (((turnH h text).next).length) nc, .string ((turnH h text).now), .int .i64 ((turnH h text).most)] 79, rowT tyS (.slice pa (((turnH h text).past).length) pc) 9 ((turnH h text).past), rowT tyS (.slice na (((turnH h text).next).length) nc) 9 ((turnH h text).next)], [rowT tyS (.slice ra r.l.length rc) 9 r.l], [blk w3.heap.size #[.slice ra r.l.length rc, .int .i64 ((r.at_ : Nat) : Int), .int .i64 r.most] 28], [blk w6.heap.size #[.string text, .int .i64 ((0 + (h.past.length + 1 + h.next.length) : Nat) : Int)] 46], [rowT tyS (.slice wa_1 ws_1.length wc_1) 9 ws_1], [rowT tyS (.slice a2_2 ((allH (turnH h text)).length) c2_2) 9 (allH (turnH h text))]] := H40.call u33
            refine ⟨trivial, ?_⟩
            refine WD.take hok3 27 (.bool (decide ((7 : Int) = (7 : Int)))) (fun _ => True) rfl rfl rfl rfl rfl trivial (.inl ⟨rfl, fun _ _ => d_cmp (decide ((7 : Int) = (7 : Int))) rfl rfl rfl ⟨rfl, rfl⟩⟩) ?_
            refine WD.take hok3 28 (.bool (decide ((7 : Int) = (7 : Int)))) (fun _ => True) rfl rfl rfl rfl rfl trivial (.inl ⟨rfl, fun _ _ => d_pick rfl rfl ⟨rfl, rfl⟩⟩) ?_
            refine WD.take hok3 29 (.bool (decide ((7 : Int) = (7 : Int)))) (fun _ => True) rfl rfl rfl rfl rfl trivial (.inl ⟨rfl, fun _ _ => d_move rfl ⟨rfl, rfl⟩⟩) ?_
            refine WD.part 119 (p := (7 : Int) = (7 : Int)) rfl (fun g140xxx => ?_) (fun g140xxx => ?_)
            · skip
              refine WD.take hok3 30 (.int .i64 8) (fun _ => True) rfl rfl rfl rfl rfl trivial (.inl ⟨rfl, fun _ _ => d_move rfl ⟨rfl, rfl⟩⟩) ?_
              refine WD.take hok3 31 (.bool (decide ((8 : Int) = (8 : Int)))) (fun _ => True) rfl rfl rfl rfl rfl trivial (.inl ⟨rfl, fun _ _ => d_cmp (decide ((8 : Int) = (8 : Int))) rfl rfl rfl ⟨rfl, rfl⟩⟩) ?_
              refine WD.take hok3 32 (.bool (decide ((8 : Int) = (8 : Int)))) (fun _ => True) rfl rfl rfl rfl rfl trivial (.inl ⟨rfl, fun _ _ => d_pick rfl rfl ⟨rfl, rfl⟩⟩) ?_
              refine WD.take hok3 33 (.bool (decide ((8 : Int) = (8 : Int)))) (fun _ => True) rfl rfl rfl rfl rfl trivial (.inl ⟨rfl, fun _ _ => d_move rfl ⟨rfl, rfl⟩⟩) ?_
              refine WD.part 123 (p := (8 : Int) = (8 : Int)) rfl (fun g140xxxx => ?_) (fun g140xxxx => ?_)
              · skip
                refine WD.take hok3 34 (.int .i64 8) (fun _ => True) rfl rfl rfl rfl rfl trivial (.inl ⟨rfl, fun _ _ => d_move rfl ⟨rfl, rfl⟩⟩) ?_
                refine WD.take hok3 35 (.bool (decide ((8 : Int) = (8 : Int)))) (fun _ => True) rfl rfl rfl rfl rfl trivial (.inl ⟨rfl, fun _ _ => d_cmp (decide ((8 : Int) = (8 : Int))) rfl rfl rfl ⟨rfl, rfl⟩⟩) ?_
                refine WD.take hok3 36 (.bool (decide ((8 : Int) = (8 : Int)))) (fun _ => True) rfl rfl rfl rfl rfl trivial (.inl ⟨rfl, fun _ _ => d_pick rfl rfl ⟨rfl, rfl⟩⟩) ?_
                refine WD.take hok3 37 (.bool (decide ((8 : Int) = (8 : Int)))) (fun _ => True) rfl rfl rfl rfl rfl trivial (.inl ⟨rfl, fun _ _ => d_move rfl ⟨rfl, rfl⟩⟩) ?_
                refine WD.part 127 (p := (8 : Int) = (8 : Int)) rfl (fun g140xxxxx => ?_) (fun g140xxxxx => ?_)
                · skip
                  refine WD.take hok3 38 (.int .i64 0) (fun _ => True) rfl rfl rfl rfl rfl trivial (.inl ⟨rfl, fun _ _ => d_move rfl ⟨rfl, rfl⟩⟩) ?_
                  refine WD.take hok3 39 (.int .i64 0) (fun _ => True) rfl rfl rfl rfl rfl trivial (.inl ⟨rfl, fun _ _ => d_move rfl ⟨rfl, rfl⟩⟩) ?_
                  refine WD.take hok3 40 (.int .i64 (0 + 0)) (fun _ => True) rfl rfl rfl rfl rfl trivial (.inl ⟨rfl, fun _ _ => d_add rfl rfl (by omega) (by omega) ⟨rfl, rfl⟩⟩) ?_
                  refine WD.take hok3 41 (.pointer none) (fun _ => True) rfl rfl rfl rfl rfl trivial (.inl ⟨rfl, fun _ _ => d_move rfl ⟨rfl, rfl⟩⟩) ?_
                  refine WD.loud hok3 42 rfl (⟨_, [⟨40, .int .i64 (0 + 0), (fun _ => True)⟩, ⟨39, .int .i64 0, (fun _ => True)⟩, ⟨38, .int .i64 0, (fun _ => True)⟩], rfl, rfl, rfl, rfl, rfl, rfl, d_call ok15 rfl (Ret.calls (allN_any  w39  ) fun _ w40 p24 => ?_)⟩)
                  obtain ⟨rfl, u34⟩ := p24
                  have H42 : UpG w [] w40 [[blk g_1 #[.slice pa (((turnH h text).past).length) pc, .slice na (((turnH h text).next).length) nc, .string ((turnH h text).now), .int .i64 ((turnH h text).most)] 79, rowT tyS (.slice pa (((turnH h text).past).length) pc) 9 ((turnH h text).past), rowT tyS (.slice na (((turnH h text).next).length) nc) 9 ((turnH h text).next)], [rowT tyS (.slice ra r.l.length rc) 9 r.l], [blk w3.heap.size #[.slice ra r.l.length rc, .int .i64 ((r.at_ : Nat) : Int), .int .i64 r.most] 28], [blk w6.heap.size #[.string text, .int .i64 ((0 + (h.past.length + 1 + h.next.length) : Nat) : Int)] 46], [rowT tyS (.slice wa_1 ws_1.length wc_1) 9 ws_1], [rowT tyS (.slice a2_2 ((allH (turnH h text)).length) c2_2) 9 (allH (turnH h text))]] := H41.call u34
                  refine ⟨⟨trivial, trivial, trivial, trivial⟩, ?_⟩
                  refine WD.take hok3 43 (.int .i64 ((0 : Nat) : Int)) (fun _ => True) rfl rfl rfl rfl rfl trivial (.inl ⟨rfl, fun _ _ => d_lenS Try.underlying26 rfl ⟨rfl, rfl⟩⟩) ?_
                  refine WD.take hok3 44 (.int .i64 ((0 + 0) + ((0 : Nat) : Int))) (fun _ => True) rfl rfl rfl rfl rfl trivial (.inl ⟨rfl, fun _ _ => d_add rfl rfl (by omega) (by omega) ⟨rfl, rfl⟩⟩) ?_
                  refine WD.take hok3 45 (.bool (decide (((0 + 0) + ((0 : Nat) : Int)) = (0 : Int)))) (fun _ => True) rfl rfl rfl rfl rfl trivial (.inl ⟨rfl, fun _ _ => d_cmp (decide (((0 + 0) + ((0 : Nat) : Int)) = (0 : Int))) rfl rfl rfl ⟨rfl, rfl⟩⟩) ?_
                  refine WD.take hok3 46 (.bool (decide (((0 + 0) + ((0 : Nat) : Int)) = (0 : Int)))) (fun _ => True) rfl rfl rfl rfl rfl trivial (.inl ⟨rfl, fun _ _ => d_pick rfl rfl ⟨rfl, rfl⟩⟩) ?_
                  refine WD.take hok3 47 (.bool (decide (((0 + 0) + ((0 : Nat) : Int)) = (0 : Int)))) (fun _ => True) rfl rfl rfl rfl rfl trivial (.inl ⟨rfl, fun _ _ => d_move rfl ⟨rfl, rfl⟩⟩) ?_
                  refine WD.part 137 (p := ((0 + 0) + ((0 : Nat) : Int)) = (0 : Int)) rfl (fun g140xxxxxx => ?_) (fun g140xxxxxx => ?_)
                  · skip
                    refine WD.take hok3 48 (.pointer none) (fun _ => True) rfl rfl rfl rfl rfl trivial (.inl ⟨rfl, fun _ _ => d_move rfl ⟨rfl, rfl⟩⟩) ?_
                    refine WD.loud hok3 49 rfl (⟨_, [], rfl, rfl, rfl, rfl, rfl, rfl, d_call ok16 rfl (Ret.calls (nowN_any  w40  ) fun _ w41 p25 => ?_)⟩)
                    obtain ⟨rfl, u35⟩ := p25
                    have H43 : UpG w [] w41 [[blk g_1 #[.slice pa (((turnH h text).past).length) pc, .slice na (((turnH h text).next).length) nc, .string ((turnH h text).now), .int .i64 ((turnH h text).most)] 79, rowT tyS (.slice pa (((turnH h text).past).length) pc) 9 ((turnH h text).past), rowT tyS (.slice na (((turnH h text).next).length) nc) 9 ((turnH h text).next)], [rowT tyS (.slice ra r.l.length rc) 9 r.l], [blk w3.heap.size #[.slice ra r.l.length rc, .int .i64 ((r.at_ : Nat) : Int), .int .i64 r.most] 28], [blk w6.heap.size #[.string text, .int .i64 ((0 + (h.past.length + 1 + h.next.length) : Nat) : Int)] 46], [rowT tyS (.slice wa_1 ws_1.length wc_1) 9 ws_1], [rowT tyS (.slice a2_2 ((allH (turnH h text)).length) c2_2) 9 (allH (turnH h text))]] := H42.call u35
                    refine ⟨trivial, ?_⟩
                    refine WD.take hok3 50 (.bool (decide ((⟨#[]⟩ : ByteArray) = ⟨#[]⟩))) (fun _ => True) rfl rfl rfl rfl rfl trivial (.inl ⟨rfl, fun _ _ => d_streq rfl rfl ⟨rfl, rfl⟩⟩) ?_
                    refine WD.take hok3 51 (.bool (decide ((⟨#[]⟩ : ByteArray) = ⟨#[]⟩))) (fun _ => True) rfl rfl rfl rfl rfl trivial (.inl ⟨rfl, fun _ _ => d_pick rfl rfl ⟨rfl, rfl⟩⟩) ?_
                    refine WD.take hok3 52 (.bool (decide ((⟨#[]⟩ : ByteArray) = ⟨#[]⟩))) (fun _ => True) rfl rfl rfl rfl rfl trivial (.inl ⟨rfl, fun _ _ => d_assign rfl ⟨rfl, rfl⟩⟩) ?_
                    refine WD.done hok3 rfl (X.then_code ?_)
                    refine W.pick [6] (Γ' := [(6, .bool (decide ((⟨#[]⟩ : ByteArray) = ⟨#[]⟩)))]) rfl ?_
                    refine W.ret (X.ret1 rfl rfl ?_)
                    exact ⟨(by rw [decide_eq_true (by decide)]), H43.noneL⟩
                  · skip
                    exact absurd (by decide) g140xxxxxx
                · skip
                  exact absurd (by decide) g140xxxxx
              · skip
                exact absurd (by decide) g140xxxx
            · skip
              exact absurd (by decide) g140xxx
          · skip
            exfalso; omega
        · skip
          exact absurd hN g140x
      · skip
        exact absurd hA g140
end Go.Proofs.Ytkdcmklkggnblaa
