/- The walks of functions, printed by wip/tools/gw.py. -/
import Derived.Test.YtkdcmklkggnblaaF1
import Derived.Test.YtkdcmklkggnblaaSx7
import Derived.Test.YtkdcmklkggnblaaT3
namespace Go.Proofs.Ytkdcmklkggnblaa
open Go Go.Sx
set_option linter.unusedVariables false
set_option linter.unusedSimpArgs false
set_option maxRecDepth 20000 in
theorem ldo_any (h : HistD) (hg : Nat) (hpa : Option Addr) (hpc : Nat) (hna : Option Addr) (hnc : Nat) (r : RowD) (ra : Option Addr) (rc : Nat) (d : DeedD) (w : World) (hp : Hp w [blk hg #[.slice hpa h.past.length hpc, .slice hna h.next.length hnc, .string h.now, .int .i64 h.most] 79, rowT tyS (.slice hpa h.past.length hpc) 9 h.past, rowT tyS (.slice hna h.next.length hnc) 9 h.next, rowT tyS (.slice ra r.l.length rc) 9 r.l]) (hr : Rel h r) (hl : h.past.length + h.next.length ≤ 1000) (hk : 0 ≤ d.kind ∧ d.kind ≤ 255) :
    Calls Try.prog 13 #[.pointer (some ⟨hg, 0, none⟩), .agg #[.slice ra r.l.length rc, .int .i64 ((r.at_ : Nat) : Int), .int .i64 r.most], .agg #[.int .u8 d.kind, .string d.text]] w (Ret fun v w' => ∃ pa2 : Option Addr, ∃ pc2 : Nat, ∃ na2 : Option Addr, ∃ nc2 : Nat, ∃ ra2 : Option Addr, ∃ rc2 : Nat, v = .tuple #[.agg #[.slice ra2 (((stepR r d.kind d.text).l).length) rc2, .int .i64 (((stepR r d.kind d.text).at_ : Nat) : Int), .int .i64 ((stepR r d.kind d.text).most)], .int .i64 0] ∧ Upd w [blk hg #[.slice hpa h.past.length hpc, .slice hna h.next.length hnc, .string h.now, .int .i64 h.most] 79, rowT tyS (.slice hpa h.past.length hpc) 9 h.past, rowT tyS (.slice hna h.next.length hnc) 9 h.next, rowT tyS (.slice ra r.l.length rc) 9 r.l] w' [blk hg #[.slice pa2 (((stepH h d.kind d.text).past).length) pc2, .slice na2 (((stepH h d.kind d.text).next).length) nc2, .string ((stepH h d.kind d.text).now), .int .i64 ((stepH h d.kind d.text).most)] 79, rowT tyS (.slice pa2 (((stepH h d.kind d.text).past).length) pc2) 9 ((stepH h d.kind d.text).past), rowT tyS (.slice na2 (((stepH h d.kind d.text).next).length) nc2) 9 ((stepH h d.kind d.text).next), rowT tyS (.slice ra2 (((stepR r d.kind d.text).l).length) rc2) 9 ((stepR r d.kind d.text).l)]) := by
  refine calls_of_W (args := [.pointer (some ⟨hg, 0, none⟩), .agg #[.slice ra r.l.length rc, .int .i64 ((r.at_ : Nat) : Int), .int .i64 r.most], .agg #[.int .u8 d.kind, .string d.text]]) Try.func13 rfl rfl rfl ?_
  have H0 : UpG w [blk hg #[.slice hpa h.past.length hpc, .slice hna h.next.length hnc, .string h.now, .int .i64 h.most] 79, rowT tyS (.slice hpa h.past.length hpc) 9 h.past, rowT tyS (.slice hna h.next.length hnc) 9 h.next, rowT tyS (.slice ra r.l.length rc) 9 r.l] w [[blk hg #[.slice hpa h.past.length hpc, .slice hna h.next.length hnc, .string h.now, .int .i64 h.most] 79], [rowT tyS (.slice hpa h.past.length hpc) 9 h.past], [rowT tyS (.slice hna h.next.length hnc) 9 h.next], [rowT tyS (.slice ra r.l.length rc) 9 r.l]] := (UpG.refl hp).re rfl
  show W _ _ _ _ [(0, .pointer (some ⟨hg, 0, none⟩)), (1, .agg #[.slice ra r.l.length rc, .int .i64 ((r.at_ : Nat) : Int), .int .i64 r.most]), (2, .agg #[.int .u8 d.kind, .string d.text])] w
  refine W.seq ?_
  have hlt0 := hr.lt
  have hlen0 := hr.len
  refine W.region ?_
  refine WL.op rfl (d_box rfl fun w1 u1 => ?_)
  have H1 : UpG w [blk hg #[.slice hpa h.past.length hpc, .slice hna h.next.length hnc, .string h.now, .int .i64 h.most] 79, rowT tyS (.slice hpa h.past.length hpc) 9 h.past, rowT tyS (.slice hna h.next.length hnc) 9 h.next, rowT tyS (.slice ra r.l.length rc) 9 r.l] w1 [[blk hg #[.slice hpa h.past.length hpc, .slice hna h.next.length hnc, .string h.now, .int .i64 h.most] 79], [rowT tyS (.slice hpa h.past.length hpc) 9 h.past], [rowT tyS (.slice hna h.next.length hnc) 9 h.next], [rowT tyS (.slice ra r.l.length rc) 9 r.l], [blk w.heap.size #[.slice ra r.l.length rc, .int .i64 ((r.at_ : Nat) : Int), .int .i64 r.most] 28]] := H0.new' u1
  refine WL.op rfl (d_box rfl fun w2 u2 => ?_)
  have H2 : UpG w [blk hg #[.slice hpa h.past.length hpc, .slice hna h.next.length hnc, .string h.now, .int .i64 h.most] 79, rowT tyS (.slice hpa h.past.length hpc) 9 h.past, rowT tyS (.slice hna h.next.length hnc) 9 h.next, rowT tyS (.slice ra r.l.length rc) 9 r.l] w2 [[blk hg #[.slice hpa h.past.length hpc, .slice hna h.next.length hnc, .string h.now, .int .i64 h.most] 79], [rowT tyS (.slice hpa h.past.length hpc) 9 h.past], [rowT tyS (.slice hna h.next.length hnc) 9 h.next], [rowT tyS (.slice ra r.l.length rc) 9 r.l], [blk w.heap.size #[.slice ra r.l.length rc, .int .i64 ((r.at_ : Nat) : Int), .int .i64 r.most] 28], [blk w1.heap.size #[.int .u8 d.kind, .string d.text] 32]] := H1.new' u2
  refine WL.op rfl (d_alloc sz28 fun w3 u3 => ?_)
  have H3 : UpG w [blk hg #[.slice hpa h.past.length hpc, .slice hna h.next.length hnc, .string h.now, .int .i64 h.most] 79, rowT tyS (.slice hpa h.past.length hpc) 9 h.past, rowT tyS (.slice hna h.next.length hnc) 9 h.next, rowT tyS (.slice ra r.l.length rc) 9 r.l] w3 [[blk hg #[.slice hpa h.past.length hpc, .slice hna h.next.length hnc, .string h.now, .int .i64 h.most] 79], [rowT tyS (.slice hpa h.past.length hpc) 9 h.past], [rowT tyS (.slice hna h.next.length hnc) 9 h.next], [rowT tyS (.slice ra r.l.length rc) 9 r.l], [blk w.heap.size #[.slice ra r.l.length rc, .int .i64 ((r.at_ : Nat) : Int), .int .i64 r.most] 28], [blk w1.heap.size #[.int .u8 d.kind, .string d.text] 32], [blk w2.heap.size #[.slice none 0 0, .int .i64 0, .int .i64 0] 28]] := H2.new' u3
  refine WL.op rfl (d_assign rfl ?_)
  refine WL.done (X.then_code ?_)
  refine W.seq ?_
  refine W.region ?_
  refine WL.op rfl (d_assign rfl ?_)
  refine WL.done (X.then_code ?_)
  refine W.seq ?_
  refine W.region ?_
  refine WL.op rfl (d_assign rfl ?_)
  refine WL.done (X.then_code ?_)
  refine W.seq ?_
  refine W.region ?_
  refine WL.op rfl (d_assign rfl ?_)
  refine WL.done (X.then_code ?_)
  refine W.cut (fun Γ' w' => ∃ h2 : HistD, ∃ r2 : RowD, ∃ bad : Int, ∃ x2 : ByteArray, ∃ pa2 : Option Addr, ∃ pc2 : Nat, ∃ na2 : Option Addr, ∃ nc2 : Nat, ∃ ra2 : Option Addr, ∃ rc2 : Nat, Γ' = [(10, .string x2), (9, .int .i64 bad), (8, .int .i64 bad), (7, .int .i64 0), (6, .pointer (some ⟨w2.heap.size, 0, none⟩)), (5, .pointer (some ⟨w1.heap.size, 0, none⟩)), (4, .pointer (some ⟨w.heap.size, 0, none⟩))] ∧ UpG w [blk hg #[.slice hpa h.past.length hpc, .slice hna h.next.length hnc, .string h.now, .int .i64 h.most] 79, rowT tyS (.slice hpa h.past.length hpc) 9 h.past, rowT tyS (.slice hna h.next.length hnc) 9 h.next, rowT tyS (.slice ra r.l.length rc) 9 r.l] w' [[blk hg #[.slice pa2 h2.past.length pc2, .slice na2 h2.next.length nc2, .string h2.now, .int .i64 h2.most] 79], [rowT tyS (.slice pa2 h2.past.length pc2) 9 h2.past], [rowT tyS (.slice na2 h2.next.length nc2) 9 h2.next], [rowT tyS (.slice ra2 r2.l.length rc2) 9 r2.l], [blk w.heap.size #[.slice ra2 r2.l.length rc2, .int .i64 ((r2.at_ : Nat) : Int), .int .i64 r2.most] 28], [blk w1.heap.size #[.int .u8 d.kind, .string d.text] 32], [blk w2.heap.size #[.slice none 0 0, .int .i64 0, .int .i64 0] 28]] ∧ (h2 = stepH h d.kind d.text) ∧ (r2 = stepR r d.kind d.text) ∧ (x2 = if bad ≠ 0 ∧ 1 < d.kind % 4 then ⟨#[]⟩ else r2.l.getD r2.at_ .empty)) ?_ ?_
  · skip
    refine W.seq ?_
    refine W.region ?_
    refine WL.op rfl (d_fieldAddrB fld32_0 rfl rfl ?_)
    refine WL.op rfl (d_loadB Try.underlying5 rfl rfl (H3.blk 5 rfl) rfl ?_)
    refine WL.op rfl (d_remN rfl rfl (by omega) (by omega) ?_)
    refine WL.done (X.then_code ?_)
    refine W.block ?_
    refine W.seq ?_
    refine W.seq ?_
    refine W.region ?_
    refine WL.op rfl (d_cmp (decide ((d.kind % 4) = (0 : Int))) rfl rfl rfl ?_)
    refine WL.op rfl (d_assign rfl ?_)
    refine WL.done (X.then_code ?_)
    refine W.ite (p := (d.kind % 4) = (0 : Int)) rfl (fun c32 => ?_) (fun c32 => ?_)
    · skip
      refine W.skip (X.then_code ?_)
      refine W.ite (p := (d.kind % 4) = (0 : Int)) rfl (fun c32x => ?_) (fun c32x => ?_)
      · skip
        refine W.seq ?_
        refine W.region ?_
        refine WL.op rfl (d_loadAB [.slice ra r.l.length rc, .int .i64 ((r.at_ : Nat) : Int), .int .i64 r.most] Try.underlying28 rfl sz28 rfl (H3.blk 4 rfl) rfl rfl ?_)
        refine WL.op rfl (d_fieldAddrB fld32_1 rfl rfl ?_)
        refine WL.op rfl (d_loadB Try.underlying9 rfl rfl (H3.blk 5 rfl) rfl ?_)
        refine WL.op rfl (d_call ok43 rfl (Ret.calls (rdo_any r ra rc d.text w3 (H3.hpOf 3 rfl)  (by omega) (by omega)) fun _ w4 p1 => ?_))
        obtain ⟨ra2_1, rc2_1, rfl, u4⟩ := p1
        have H4 : UpG w [blk hg #[.slice hpa h.past.length hpc, .slice hna h.next.length hnc, .string h.now, .int .i64 h.most] 79, rowT tyS (.slice hpa h.past.length hpc) 9 h.past, rowT tyS (.slice hna h.next.length hnc) 9 h.next, rowT tyS (.slice ra r.l.length rc) 9 r.l] w4 [[blk hg #[.slice hpa h.past.length hpc, .slice hna h.next.length hnc, .string h.now, .int .i64 h.most] 79], [rowT tyS (.slice hpa h.past.length hpc) 9 h.past], [rowT tyS (.slice hna h.next.length hnc) 9 h.next], [rowT tyS (.slice ra2_1 (((doR r d.text).1.l).length) rc2_1) 9 ((doR r d.text).1.l)], [blk w.heap.size #[.slice ra r.l.length rc, .int .i64 ((r.at_ : Nat) : Int), .int .i64 r.most] 28], [blk w1.heap.size #[.int .u8 d.kind, .string d.text] 32], [blk w2.heap.size #[.slice none 0 0, .int .i64 0, .int .i64 0] 28]] := H3.on 3 rfl u4
        refine WL.op rfl (d_move rfl ?_)
        refine WL.op rfl (d_extract rfl rfl ?_)
        refine WL.op rfl (d_extract rfl rfl ?_)
        refine WL.op0 (d_storeAB (us := [.slice ra2_1 (((doR r d.text).1.l).length) rc2_1, .int .i64 (((doR r d.text).1.at_ : Nat) : Int), .int .i64 ((doR r d.text).1.most)]) (cs' := #[.slice ra2_1 (((doR r d.text).1.l).length) rc2_1, .int .i64 (((doR r d.text).1.at_ : Nat) : Int), .int .i64 ((doR r d.text).1.most)]) sz28 rfl rfl rfl rfl (H4.blk 4 rfl) rfl rfl fun w5 u5 => ?_)
        have H5 : UpG w [blk hg #[.slice hpa h.past.length hpc, .slice hna h.next.length hnc, .string h.now, .int .i64 h.most] 79, rowT tyS (.slice hpa h.past.length hpc) 9 h.past, rowT tyS (.slice hna h.next.length hnc) 9 h.next, rowT tyS (.slice ra r.l.length rc) 9 r.l] w5 [[blk hg #[.slice hpa h.past.length hpc, .slice hna h.next.length hnc, .string h.now, .int .i64 h.most] 79], [rowT tyS (.slice hpa h.past.length hpc) 9 h.past], [rowT tyS (.slice hna h.next.length hnc) 9 h.next], [rowT tyS (.slice ra2_1 (((doR r d.text).1.l).length) rc2_1) 9 ((doR r d.text).1.l)], [blk w.heap.size #[.slice ra2_1 (((doR r d.text).1.l).length) rc2_1, .int .i64 (((doR r d.text).1.at_ : Nat) : Int), .int .i64 ((doR r d.text).1.most)] 28], [blk w1.heap.size #[.int .u8 d.kind, .string d.text] 32], [blk w2.heap.size #[.slice none 0 0, .int .i64 0, .int .i64 0] 28]] := H4.on 4 rfl u5
        refine WL.op rfl (d_assign rfl ?_)
        refine WL.done (X.then_code ?_)
        refine W.pick [8, 10, 9, 7, 6, 5, 4, 0] (Γ' := [(8, .int .i64 ((doR r d.text).2)), (10, .string ⟨#[]⟩), (9, .int .i64 0), (7, .int .i64 0), (6, .pointer (some ⟨w2.heap.size, 0, none⟩)), (5, .pointer (some ⟨w1.heap.size, 0, none⟩)), (4, .pointer (some ⟨w.heap.size, 0, none⟩)), (0, .pointer (some ⟨hg, 0, none⟩))]) rfl ?_
        refine W.seq ?_
        refine W.region ?_
        refine WL.op rfl (d_move rfl ?_)
        refine WL.op rfl (d_fieldAddrB fld32_1 rfl rfl ?_)
        refine WL.op rfl (d_loadB Try.underlying9 rfl rfl (H5.blk 5 rfl) rfl ?_)
        have H6 : UpG w [blk hg #[.slice hpa h.past.length hpc, .slice hna h.next.length hnc, .string h.now, .int .i64 h.most] 79, rowT tyS (.slice hpa h.past.length hpc) 9 h.past, rowT tyS (.slice hna h.next.length hnc) 9 h.next, rowT tyS (.slice ra r.l.length rc) 9 r.l] w5 [[blk hg #[.slice hpa h.past.length hpc, .slice hna h.next.length hnc, .string h.now, .int .i64 h.most] 79, rowT tyS (.slice hpa h.past.length hpc) 9 h.past, rowT tyS (.slice hna h.next.length hnc) 9 h.next], [rowT tyS (.slice ra2_1 (((doR r d.text).1.l).length) rc2_1) 9 ((doR r d.text).1.l)], [blk w.heap.size #[.slice ra2_1 (((doR r d.text).1.l).length) rc2_1, .int .i64 (((doR r d.text).1.at_ : Nat) : Int), .int .i64 ((doR r d.text).1.most)] 28], [blk w1.heap.size #[.int .u8 d.kind, .string d.text] 32], [blk w2.heap.size #[.slice none 0 0, .int .i64 0, .int .i64 0] 28]] := UpG.of (Upd.sel H5 (l := [0, 1, 2, 3, 4, 5, 6]) rfl rfl) rfl
        refine WL.op rfl (d_call ok23 rfl (Ret.calls (do_any h hg hpa hpc hna hnc d.text w5 (H6.hpOf 0 rfl)  (by omega)) fun _ w6 p2 => ?_))
        obtain ⟨pa2_1, pc2_1, na2_1, nc2_1, rfl, u6⟩ := p2
        have H7 : UpG w [blk hg #[.slice hpa h.past.length hpc, .slice hna h.next.length hnc, .string h.now, .int .i64 h.most] 79, rowT tyS (.slice hpa h.past.length hpc) 9 h.past, rowT tyS (.slice hna h.next.length hnc) 9 h.next, rowT tyS (.slice ra r.l.length rc) 9 r.l] w6 [[blk hg #[.slice pa2_1 (((doH h d.text).1.past).length) pc2_1, .slice na2_1 (((doH h d.text).1.next).length) nc2_1, .string ((doH h d.text).1.now), .int .i64 ((doH h d.text).1.most)] 79, rowT tyS (.slice pa2_1 (((doH h d.text).1.past).length) pc2_1) 9 ((doH h d.text).1.past), rowT tyS (.slice na2_1 (((doH h d.text).1.next).length) nc2_1) 9 ((doH h d.text).1.next)], [rowT tyS (.slice ra2_1 (((doR r d.text).1.l).length) rc2_1) 9 ((doR r d.text).1.l)], [blk w.heap.size #[.slice ra2_1 (((doR r d.text).1.l).length) rc2_1, .int .i64 (((doR r d.text).1.at_ : Nat) : Int), .int .i64 ((doR r d.text).1.most)] 28], [blk w1.heap.size #[.int .u8 d.kind, .string d.text] 32], [blk w2.heap.size #[.slice none 0 0, .int .i64 0, .int .i64 0] 28]] := H6.on 0 rfl u6
        refine WL.op rfl (d_assign rfl ?_)
        refine WL.done (X.then_code ?_)
        refine W.region ?_
        refine WL.op rfl (d_move rfl ?_)
        refine WL.op rfl (d_call ok16 rfl (Ret.calls (now_any ((doH h d.text).1) hg pa2_1 pc2_1 na2_1 nc2_1 w6 (H7.hpOf 0 rfl)  ) fun _ w7 p3 => ?_))
        obtain ⟨rfl, u7⟩ := p3
        have H8 : UpG w [blk hg #[.slice hpa h.past.length hpc, .slice hna h.next.length hnc, .string h.now, .int .i64 h.most] 79, rowT tyS (.slice hpa h.past.length hpc) 9 h.past, rowT tyS (.slice hna h.next.length hnc) 9 h.next, rowT tyS (.slice ra r.l.length rc) 9 r.l] w7 [[blk hg #[.slice pa2_1 (((doH h d.text).1.past).length) pc2_1, .slice na2_1 (((doH h d.text).1.next).length) nc2_1, .string ((doH h d.text).1.now), .int .i64 ((doH h d.text).1.most)] 79, rowT tyS (.slice pa2_1 (((doH h d.text).1.past).length) pc2_1) 9 ((doH h d.text).1.past), rowT tyS (.slice na2_1 (((doH h d.text).1.next).length) nc2_1) 9 ((doH h d.text).1.next)], [rowT tyS (.slice ra2_1 (((doR r d.text).1.l).length) rc2_1) 9 ((doR r d.text).1.l)], [blk w.heap.size #[.slice ra2_1 (((doR r d.text).1.l).length) rc2_1, .int .i64 (((doR r d.text).1.at_ : Nat) : Int), .int .i64 ((doR r d.text).1.most)] 28], [blk w1.heap.size #[.int .u8 d.kind, .string d.text] 32], [blk w2.heap.size #[.slice none 0 0, .int .i64 0, .int .i64 0] 28]] := H7.on 0 rfl u7
        refine WL.op rfl (d_assign rfl ?_)
        refine WL.done (X.block_normal ?_)
        first | rw [(hr.do_ d.text).2] | rw [hr.undo.2.1] | rw [hr.redo.2.1]
        exact X.cut [10, 9, 8, 7, 6, 5, 4] (Γ' := [(10, .string ((doH h d.text).1.now)), (9, .int .i64 ((doR r d.text).2)), (8, .int .i64 ((doR r d.text).2)), (7, .int .i64 0), (6, .pointer (some ⟨w2.heap.size, 0, none⟩)), (5, .pointer (some ⟨w1.heap.size, 0, none⟩)), (4, .pointer (some ⟨w.heap.size, 0, none⟩))]) rfl ⟨(doH h d.text).1, (doR r d.text).1, (doR r d.text).2, (doH h d.text).1.now, pa2_1, pc2_1, na2_1, nc2_1, ra2_1, rc2_1, rfl, (H8.re rfl), (by unfold stepH; first | rw [if_pos (by omega)] | rw [if_neg (by omega), if_pos (by omega)] | rw [if_neg (by omega), if_neg (by omega)]), (by unfold stepR; first | rw [if_pos (by omega)] | rw [if_neg (by omega), if_pos (by omega)] | rw [if_neg (by omega), if_neg (by omega)]), (by rw [if_neg (by omega)]; exact (hr.do_ d.text).1.cur.symm)⟩
      · skip
        exact absurd c32 c32x
    · skip
      refine W.region ?_
      refine WL.op rfl (d_cmp (decide ((d.kind % 4) = (1 : Int))) rfl rfl rfl ?_)
      refine WL.op rfl (d_assign rfl ?_)
      refine WL.done (X.then_code ?_)
      refine W.ite (p := (d.kind % 4) = (1 : Int)) rfl (fun c32x => ?_) (fun c32x => ?_)
      · skip
        refine W.seq ?_
        refine W.region ?_
        refine WL.op rfl (d_loadAB [.slice ra r.l.length rc, .int .i64 ((r.at_ : Nat) : Int), .int .i64 r.most] Try.underlying28 rfl sz28 rfl (H3.blk 4 rfl) rfl rfl ?_)
        refine WL.op rfl (d_fieldAddrB fld32_1 rfl rfl ?_)
        refine WL.op rfl (d_loadB Try.underlying9 rfl rfl (H3.blk 5 rfl) rfl ?_)
        refine WL.op rfl (d_call ok43 rfl (Ret.calls (rdo_any r ra rc d.text w3 (H3.hpOf 3 rfl)  (by omega) (by omega)) fun _ w8 p4 => ?_))
        obtain ⟨ra2_2, rc2_2, rfl, u8⟩ := p4
        have H9 : UpG w [blk hg #[.slice hpa h.past.length hpc, .slice hna h.next.length hnc, .string h.now, .int .i64 h.most] 79, rowT tyS (.slice hpa h.past.length hpc) 9 h.past, rowT tyS (.slice hna h.next.length hnc) 9 h.next, rowT tyS (.slice ra r.l.length rc) 9 r.l] w8 [[blk hg #[.slice hpa h.past.length hpc, .slice hna h.next.length hnc, .string h.now, .int .i64 h.most] 79], [rowT tyS (.slice hpa h.past.length hpc) 9 h.past], [rowT tyS (.slice hna h.next.length hnc) 9 h.next], [rowT tyS (.slice ra2_2 (((doR r d.text).1.l).length) rc2_2) 9 ((doR r d.text).1.l)], [blk w.heap.size #[.slice ra r.l.length rc, .int .i64 ((r.at_ : Nat) : Int), .int .i64 r.most] 28], [blk w1.heap.size #[.int .u8 d.kind, .string d.text] 32], [blk w2.heap.size #[.slice none 0 0, .int .i64 0, .int .i64 0] 28]] := H3.on 3 rfl u8
        refine WL.op rfl (d_move rfl ?_)
        refine WL.op rfl (d_extract rfl rfl ?_)
        refine WL.op rfl (d_extract rfl rfl ?_)
        refine WL.op0 (d_storeAB (us := [.slice ra2_2 (((doR r d.text).1.l).length) rc2_2, .int .i64 (((doR r d.text).1.at_ : Nat) : Int), .int .i64 ((doR r d.text).1.most)]) (cs' := #[.slice ra2_2 (((doR r d.text).1.l).length) rc2_2, .int .i64 (((doR r d.text).1.at_ : Nat) : Int), .int .i64 ((doR r d.text).1.most)]) sz28 rfl rfl rfl rfl (H9.blk 4 rfl) rfl rfl fun w9 u9 => ?_)
        have H10 : UpG w [blk hg #[.slice hpa h.past.length hpc, .slice hna h.next.length hnc, .string h.now, .int .i64 h.most] 79, rowT tyS (.slice hpa h.past.length hpc) 9 h.past, rowT tyS (.slice hna h.next.length hnc) 9 h.next, rowT tyS (.slice ra r.l.length rc) 9 r.l] w9 [[blk hg #[.slice hpa h.past.length hpc, .slice hna h.next.length hnc, .string h.now, .int .i64 h.most] 79], [rowT tyS (.slice hpa h.past.length hpc) 9 h.past], [rowT tyS (.slice hna h.next.length hnc) 9 h.next], [rowT tyS (.slice ra2_2 (((doR r d.text).1.l).length) rc2_2) 9 ((doR r d.text).1.l)], [blk w.heap.size #[.slice ra2_2 (((doR r d.text).1.l).length) rc2_2, .int .i64 (((doR r d.text).1.at_ : Nat) : Int), .int .i64 ((doR r d.text).1.most)] 28], [blk w1.heap.size #[.int .u8 d.kind, .string d.text] 32], [blk w2.heap.size #[.slice none 0 0, .int .i64 0, .int .i64 0] 28]] := H9.on 4 rfl u9
        refine WL.op rfl (d_assign rfl ?_)
        refine WL.done (X.then_code ?_)
        refine W.pick [8, 10, 9, 7, 6, 5, 4, 0] (Γ' := [(8, .int .i64 ((doR r d.text).2)), (10, .string ⟨#[]⟩), (9, .int .i64 0), (7, .int .i64 0), (6, .pointer (some ⟨w2.heap.size, 0, none⟩)), (5, .pointer (some ⟨w1.heap.size, 0, none⟩)), (4, .pointer (some ⟨w.heap.size, 0, none⟩)), (0, .pointer (some ⟨hg, 0, none⟩))]) rfl ?_
        refine W.seq ?_
        refine W.region ?_
        refine WL.op rfl (d_move rfl ?_)
        refine WL.op rfl (d_fieldAddrB fld32_1 rfl rfl ?_)
        refine WL.op rfl (d_loadB Try.underlying9 rfl rfl (H10.blk 5 rfl) rfl ?_)
        have H11 : UpG w [blk hg #[.slice hpa h.past.length hpc, .slice hna h.next.length hnc, .string h.now, .int .i64 h.most] 79, rowT tyS (.slice hpa h.past.length hpc) 9 h.past, rowT tyS (.slice hna h.next.length hnc) 9 h.next, rowT tyS (.slice ra r.l.length rc) 9 r.l] w9 [[blk hg #[.slice hpa h.past.length hpc, .slice hna h.next.length hnc, .string h.now, .int .i64 h.most] 79, rowT tyS (.slice hpa h.past.length hpc) 9 h.past, rowT tyS (.slice hna h.next.length hnc) 9 h.next], [rowT tyS (.slice ra2_2 (((doR r d.text).1.l).length) rc2_2) 9 ((doR r d.text).1.l)], [blk w.heap.size #[.slice ra2_2 (((doR r d.text).1.l).length) rc2_2, .int .i64 (((doR r d.text).1.at_ : Nat) : Int), .int .i64 ((doR r d.text).1.most)] 28], [blk w1.heap.size #[.int .u8 d.kind, .string d.text] 32], [blk w2.heap.size #[.slice none 0 0, .int .i64 0, .int .i64 0] 28]] := UpG.of (Upd.sel H10 (l := [0, 1, 2, 3, 4, 5, 6]) rfl rfl) rfl
        refine WL.op rfl (d_call ok23 rfl (Ret.calls (do_any h hg hpa hpc hna hnc d.text w9 (H11.hpOf 0 rfl)  (by omega)) fun _ w10 p5 => ?_))
        obtain ⟨pa2_2, pc2_2, na2_2, nc2_2, rfl, u10⟩ := p5
        have H12 : UpG w [blk hg #[.slice hpa h.past.length hpc, .slice hna h.next.length hnc, .string h.now, .int .i64 h.most] 79, rowT tyS (.slice hpa h.past.length hpc) 9 h.past, rowT tyS (.slice hna h.next.length hnc) 9 h.next, rowT tyS (.slice ra r.l.length rc) 9 r.l] w10 [[blk hg #[.slice pa2_2 (((doH h d.text).1.past).length) pc2_2, .slice na2_2 (((doH h d.text).1.next).length) nc2_2, .string ((doH h d.text).1.now), .int .i64 ((doH h d.text).1.most)] 79, rowT tyS (.slice pa2_2 (((doH h d.text).1.past).length) pc2_2) 9 ((doH h d.text).1.past), rowT tyS (.slice na2_2 (((doH h d.text).1.next).length) nc2_2) 9 ((doH h d.text).1.next)], [rowT tyS (.slice ra2_2 (((doR r d.text).1.l).length) rc2_2) 9 ((doR r d.text).1.l)], [blk w.heap.size #[.slice ra2_2 (((doR r d.text).1.l).length) rc2_2, .int .i64 (((doR r d.text).1.at_ : Nat) : Int), .int .i64 ((doR r d.text).1.most)] 28], [blk w1.heap.size #[.int .u8 d.kind, .string d.text] 32], [blk w2.heap.size #[.slice none 0 0, .int .i64 0, .int .i64 0] 28]] := H11.on 0 rfl u10
        refine WL.op rfl (d_assign rfl ?_)
        refine WL.done (X.then_code ?_)
        refine W.region ?_
        refine WL.op rfl (d_move rfl ?_)
        refine WL.op rfl (d_call ok16 rfl (Ret.calls (now_any ((doH h d.text).1) hg pa2_2 pc2_2 na2_2 nc2_2 w10 (H12.hpOf 0 rfl)  ) fun _ w11 p6 => ?_))
        obtain ⟨rfl, u11⟩ := p6
        have H13 : UpG w [blk hg #[.slice hpa h.past.length hpc, .slice hna h.next.length hnc, .string h.now, .int .i64 h.most] 79, rowT tyS (.slice hpa h.past.length hpc) 9 h.past, rowT tyS (.slice hna h.next.length hnc) 9 h.next, rowT tyS (.slice ra r.l.length rc) 9 r.l] w11 [[blk hg #[.slice pa2_2 (((doH h d.text).1.past).length) pc2_2, .slice na2_2 (((doH h d.text).1.next).length) nc2_2, .string ((doH h d.text).1.now), .int .i64 ((doH h d.text).1.most)] 79, rowT tyS (.slice pa2_2 (((doH h d.text).1.past).length) pc2_2) 9 ((doH h d.text).1.past), rowT tyS (.slice na2_2 (((doH h d.text).1.next).length) nc2_2) 9 ((doH h d.text).1.next)], [rowT tyS (.slice ra2_2 (((doR r d.text).1.l).length) rc2_2) 9 ((doR r d.text).1.l)], [blk w.heap.size #[.slice ra2_2 (((doR r d.text).1.l).length) rc2_2, .int .i64 (((doR r d.text).1.at_ : Nat) : Int), .int .i64 ((doR r d.text).1.most)] 28], [blk w1.heap.size #[.int .u8 d.kind, .string d.text] 32], [blk w2.heap.size #[.slice none 0 0, .int .i64 0, .int .i64 0] 28]] := H12.on 0 rfl u11
        refine WL.op rfl (d_assign rfl ?_)
        refine WL.done (X.block_normal ?_)
        first | rw [(hr.do_ d.text).2] | rw [hr.undo.2.1] | rw [hr.redo.2.1]
        exact X.cut [10, 9, 8, 7, 6, 5, 4] (Γ' := [(10, .string ((doH h d.text).1.now)), (9, .int .i64 ((doR r d.text).2)), (8, .int .i64 ((doR r d.text).2)), (7, .int .i64 0), (6, .pointer (some ⟨w2.heap.size, 0, none⟩)), (5, .pointer (some ⟨w1.heap.size, 0, none⟩)), (4, .pointer (some ⟨w.heap.size, 0, none⟩))]) rfl ⟨(doH h d.text).1, (doR r d.text).1, (doR r d.text).2, (doH h d.text).1.now, pa2_2, pc2_2, na2_2, nc2_2, ra2_2, rc2_2, rfl, (H13.re rfl), (by unfold stepH; first | rw [if_pos (by omega)] | rw [if_neg (by omega), if_pos (by omega)] | rw [if_neg (by omega), if_neg (by omega)]), (by unfold stepR; first | rw [if_pos (by omega)] | rw [if_neg (by omega), if_pos (by omega)] | rw [if_neg (by omega), if_neg (by omega)]), (by rw [if_neg (by omega)]; exact (hr.do_ d.text).1.cur.symm)⟩
      · skip
        refine W.seq ?_
        refine W.region ?_
        refine WL.op rfl (d_cmp (decide ((d.kind % 4) = (2 : Int))) rfl rfl rfl ?_)
        refine WL.op rfl (d_assign rfl ?_)
        refine WL.done (X.then_code ?_)
        refine W.pick [31, 14, 10, 9, 8, 7, 6, 5, 4, 0] (Γ' := [(31, .bool (decide ((d.kind % 4) = (2 : Int)))), (14, .int .u8 (d.kind % 4)), (10, .string ⟨#[]⟩), (9, .int .i64 0), (8, .int .i64 0), (7, .int .i64 0), (6, .pointer (some ⟨w2.heap.size, 0, none⟩)), (5, .pointer (some ⟨w1.heap.size, 0, none⟩)), (4, .pointer (some ⟨w.heap.size, 0, none⟩)), (0, .pointer (some ⟨hg, 0, none⟩))]) rfl ?_
        refine W.ite (p := (d.kind % 4) = (2 : Int)) rfl (fun c36 => ?_) (fun c36 => ?_)
        · skip
          refine W.seq ?_
          refine W.region ?_
          refine WL.op rfl (d_loadAB [.slice ra r.l.length rc, .int .i64 ((r.at_ : Nat) : Int), .int .i64 r.most] Try.underlying28 rfl sz28 rfl (H3.blk 4 rfl) rfl rfl ?_)
          refine WL.op rfl (d_call ok44 rfl (Ret.calls (rundo_any r ra rc w3 (H3.hpOf 3 rfl)  (by omega) (by omega)) fun _ w12 p7 => ?_))
          obtain ⟨ra2_3, rc2_3, rfl, u12⟩ := p7
          have H14 : UpG w [blk hg #[.slice hpa h.past.length hpc, .slice hna h.next.length hnc, .string h.now, .int .i64 h.most] 79, rowT tyS (.slice hpa h.past.length hpc) 9 h.past, rowT tyS (.slice hna h.next.length hnc) 9 h.next, rowT tyS (.slice ra r.l.length rc) 9 r.l] w12 [[blk hg #[.slice hpa h.past.length hpc, .slice hna h.next.length hnc, .string h.now, .int .i64 h.most] 79], [rowT tyS (.slice hpa h.past.length hpc) 9 h.past], [rowT tyS (.slice hna h.next.length hnc) 9 h.next], [rowT tyS (.slice ra2_3 (((undoR r).1.l).length) rc2_3) 9 ((undoR r).1.l)], [blk w.heap.size #[.slice ra r.l.length rc, .int .i64 ((r.at_ : Nat) : Int), .int .i64 r.most] 28], [blk w1.heap.size #[.int .u8 d.kind, .string d.text] 32], [blk w2.heap.size #[.slice none 0 0, .int .i64 0, .int .i64 0] 28]] := H3.on 3 rfl u12
          refine WL.op rfl (d_move rfl ?_)
          refine WL.op rfl (d_extract rfl rfl ?_)
          refine WL.op rfl (d_extract rfl rfl ?_)
          refine WL.op0 (d_storeAB (us := [.slice ra2_3 (((undoR r).1.l).length) rc2_3, .int .i64 (((undoR r).1.at_ : Nat) : Int), .int .i64 ((undoR r).1.most)]) (cs' := #[.slice ra2_3 (((undoR r).1.l).length) rc2_3, .int .i64 (((undoR r).1.at_ : Nat) : Int), .int .i64 ((undoR r).1.most)]) sz28 rfl rfl rfl rfl (H14.blk 4 rfl) rfl rfl fun w13 u13 => ?_)
          have H15 : UpG w [blk hg #[.slice hpa h.past.length hpc, .slice hna h.next.length hnc, .string h.now, .int .i64 h.most] 79, rowT tyS (.slice hpa h.past.length hpc) 9 h.past, rowT tyS (.slice hna h.next.length hnc) 9 h.next, rowT tyS (.slice ra r.l.length rc) 9 r.l] w13 [[blk hg #[.slice hpa h.past.length hpc, .slice hna h.next.length hnc, .string h.now, .int .i64 h.most] 79], [rowT tyS (.slice hpa h.past.length hpc) 9 h.past], [rowT tyS (.slice hna h.next.length hnc) 9 h.next], [rowT tyS (.slice ra2_3 (((undoR r).1.l).length) rc2_3) 9 ((undoR r).1.l)], [blk w.heap.size #[.slice ra2_3 (((undoR r).1.l).length) rc2_3, .int .i64 (((undoR r).1.at_ : Nat) : Int), .int .i64 ((undoR r).1.most)] 28], [blk w1.heap.size #[.int .u8 d.kind, .string d.text] 32], [blk w2.heap.size #[.slice none 0 0, .int .i64 0, .int .i64 0] 28]] := H14.on 4 rfl u13
          refine WL.op rfl (d_assign rfl ?_)
          refine WL.done (X.then_code ?_)
          refine W.region ?_
          refine WL.op rfl (d_move rfl ?_)
          have H16 : UpG w [blk hg #[.slice hpa h.past.length hpc, .slice hna h.next.length hnc, .string h.now, .int .i64 h.most] 79, rowT tyS (.slice hpa h.past.length hpc) 9 h.past, rowT tyS (.slice hna h.next.length hnc) 9 h.next, rowT tyS (.slice ra r.l.length rc) 9 r.l] w13 [[blk hg #[.slice hpa h.past.length hpc, .slice hna h.next.length hnc, .string h.now, .int .i64 h.most] 79, rowT tyS (.slice hpa h.past.length hpc) 9 h.past, rowT tyS (.slice hna h.next.length hnc) 9 h.next], [rowT tyS (.slice ra2_3 (((undoR r).1.l).length) rc2_3) 9 ((undoR r).1.l)], [blk w.heap.size #[.slice ra2_3 (((undoR r).1.l).length) rc2_3, .int .i64 (((undoR r).1.at_ : Nat) : Int), .int .i64 ((undoR r).1.most)] 28], [blk w1.heap.size #[.int .u8 d.kind, .string d.text] 32], [blk w2.heap.size #[.slice none 0 0, .int .i64 0, .int .i64 0] 28]] := UpG.of (Upd.sel H15 (l := [0, 1, 2, 3, 4, 5, 6]) rfl rfl) rfl
          refine WL.op rfl (d_call ok17 rfl (Ret.calls (undo_any h hg hpa hpc hna hnc w13 (H16.hpOf 0 rfl)  (by omega)) fun _ w14 p8 => ?_))
          obtain ⟨pa2_3, pc2_3, na2_3, nc2_3, rfl, u14⟩ := p8
          have H17 : UpG w [blk hg #[.slice hpa h.past.length hpc, .slice hna h.next.length hnc, .string h.now, .int .i64 h.most] 79, rowT tyS (.slice hpa h.past.length hpc) 9 h.past, rowT tyS (.slice hna h.next.length hnc) 9 h.next, rowT tyS (.slice ra r.l.length rc) 9 r.l] w14 [[blk hg #[.slice pa2_3 (((undoH h).1.past).length) pc2_3, .slice na2_3 (((undoH h).1.next).length) nc2_3, .string ((undoH h).1.now), .int .i64 ((undoH h).1.most)] 79, rowT tyS (.slice pa2_3 (((undoH h).1.past).length) pc2_3) 9 ((undoH h).1.past), rowT tyS (.slice na2_3 (((undoH h).1.next).length) nc2_3) 9 ((undoH h).1.next)], [rowT tyS (.slice ra2_3 (((undoR r).1.l).length) rc2_3) 9 ((undoR r).1.l)], [blk w.heap.size #[.slice ra2_3 (((undoR r).1.l).length) rc2_3, .int .i64 (((undoR r).1.at_ : Nat) : Int), .int .i64 ((undoR r).1.most)] 28], [blk w1.heap.size #[.int .u8 d.kind, .string d.text] 32], [blk w2.heap.size #[.slice none 0 0, .int .i64 0, .int .i64 0] 28]] := H16.on 0 rfl u14
          refine WL.op rfl (d_move rfl ?_)
          refine WL.op rfl (d_extract rfl rfl ?_)
          refine WL.op rfl (d_extract rfl rfl ?_)
          refine WL.op rfl (d_assign rfl ?_)
          refine WL.op rfl (d_assign rfl ?_)
          refine WL.done (X.block_normal ?_)
          first | rw [(hr.do_ d.text).2] | rw [hr.undo.2.1] | rw [hr.redo.2.1]
          exact X.cut [10, 9, 8, 7, 6, 5, 4] (Γ' := [(10, .string ((undoH h).2.1)), (9, .int .i64 ((undoR r).2)), (8, .int .i64 ((undoR r).2)), (7, .int .i64 0), (6, .pointer (some ⟨w2.heap.size, 0, none⟩)), (5, .pointer (some ⟨w1.heap.size, 0, none⟩)), (4, .pointer (some ⟨w.heap.size, 0, none⟩))]) rfl ⟨(undoH h).1, (undoR r).1, (undoR r).2, (undoH h).2.1, pa2_3, pc2_3, na2_3, nc2_3, ra2_3, rc2_3, rfl, (H17.re rfl), (by unfold stepH; first | rw [if_pos (by omega)] | rw [if_neg (by omega), if_pos (by omega)] | rw [if_neg (by omega), if_neg (by omega)]), (by unfold stepR; first | rw [if_pos (by omega)] | rw [if_neg (by omega), if_pos (by omega)] | rw [if_neg (by omega), if_neg (by omega)]), (by exact if h0 : (undoR r).2 = 0 then (by rw [if_neg (by omega), hr.undo.2.2.2 h0]; exact hr.undo.1.cur.symm) else (by rw [if_pos ⟨h0, by omega⟩]; exact hr.undo.2.2.1 h0))⟩
        · skip
          refine W.seq ?_
          refine W.region ?_
          refine WL.op rfl (d_cmp (decide ((d.kind % 4) = (3 : Int))) rfl rfl rfl ?_)
          refine WL.op rfl (d_assign rfl ?_)
          refine WL.done (X.then_code ?_)
          refine W.ite (p := (d.kind % 4) = (3 : Int)) rfl (fun c39 => ?_) (fun c39 => ?_)
          · skip
            refine W.seq ?_
            refine W.region ?_
            refine WL.op rfl (d_loadAB [.slice ra r.l.length rc, .int .i64 ((r.at_ : Nat) : Int), .int .i64 r.most] Try.underlying28 rfl sz28 rfl (H3.blk 4 rfl) rfl rfl ?_)
            refine WL.op rfl (d_call ok45 rfl (Ret.calls (rredo_any r ra rc w3 (H3.hpOf 3 rfl)  (by omega) (by omega)) fun _ w15 p9 => ?_))
            obtain ⟨ra2_4, rc2_4, rfl, u15⟩ := p9
            have H18 : UpG w [blk hg #[.slice hpa h.past.length hpc, .slice hna h.next.length hnc, .string h.now, .int .i64 h.most] 79, rowT tyS (.slice hpa h.past.length hpc) 9 h.past, rowT tyS (.slice hna h.next.length hnc) 9 h.next, rowT tyS (.slice ra r.l.length rc) 9 r.l] w15 [[blk hg #[.slice hpa h.past.length hpc, .slice hna h.next.length hnc, .string h.now, .int .i64 h.most] 79], [rowT tyS (.slice hpa h.past.length hpc) 9 h.past], [rowT tyS (.slice hna h.next.length hnc) 9 h.next], [rowT tyS (.slice ra2_4 (((redoR r).1.l).length) rc2_4) 9 ((redoR r).1.l)], [blk w.heap.size #[.slice ra r.l.length rc, .int .i64 ((r.at_ : Nat) : Int), .int .i64 r.most] 28], [blk w1.heap.size #[.int .u8 d.kind, .string d.text] 32], [blk w2.heap.size #[.slice none 0 0, .int .i64 0, .int .i64 0] 28]] := H3.on 3 rfl u15
            refine WL.op rfl (d_move rfl ?_)
            refine WL.op rfl (d_extract rfl rfl ?_)
            refine WL.op rfl (d_extract rfl rfl ?_)
            refine WL.op0 (d_storeAB (us := [.slice ra2_4 (((redoR r).1.l).length) rc2_4, .int .i64 (((redoR r).1.at_ : Nat) : Int), .int .i64 ((redoR r).1.most)]) (cs' := #[.slice ra2_4 (((redoR r).1.l).length) rc2_4, .int .i64 (((redoR r).1.at_ : Nat) : Int), .int .i64 ((redoR r).1.most)]) sz28 rfl rfl rfl rfl (H18.blk 4 rfl) rfl rfl fun w16 u16 => ?_)
            have H19 : UpG w [blk hg #[.slice hpa h.past.length hpc, .slice hna h.next.length hnc, .string h.now, .int .i64 h.most] 79, rowT tyS (.slice hpa h.past.length hpc) 9 h.past, rowT tyS (.slice hna h.next.length hnc) 9 h.next, rowT tyS (.slice ra r.l.length rc) 9 r.l] w16 [[blk hg #[.slice hpa h.past.length hpc, .slice hna h.next.length hnc, .string h.now, .int .i64 h.most] 79], [rowT tyS (.slice hpa h.past.length hpc) 9 h.past], [rowT tyS (.slice hna h.next.length hnc) 9 h.next], [rowT tyS (.slice ra2_4 (((redoR r).1.l).length) rc2_4) 9 ((redoR r).1.l)], [blk w.heap.size #[.slice ra2_4 (((redoR r).1.l).length) rc2_4, .int .i64 (((redoR r).1.at_ : Nat) : Int), .int .i64 ((redoR r).1.most)] 28], [blk w1.heap.size #[.int .u8 d.kind, .string d.text] 32], [blk w2.heap.size #[.slice none 0 0, .int .i64 0, .int .i64 0] 28]] := H18.on 4 rfl u16
            refine WL.op rfl (d_assign rfl ?_)
            refine WL.done (X.then_code ?_)
            refine W.pick [8, 10, 9, 7, 6, 5, 4, 0] (Γ' := [(8, .int .i64 ((redoR r).2)), (10, .string ⟨#[]⟩), (9, .int .i64 0), (7, .int .i64 0), (6, .pointer (some ⟨w2.heap.size, 0, none⟩)), (5, .pointer (some ⟨w1.heap.size, 0, none⟩)), (4, .pointer (some ⟨w.heap.size, 0, none⟩)), (0, .pointer (some ⟨hg, 0, none⟩))]) rfl ?_
            refine W.region ?_
            refine WL.op rfl (d_move rfl ?_)
            have H20 : UpG w [blk hg #[.slice hpa h.past.length hpc, .slice hna h.next.length hnc, .string h.now, .int .i64 h.most] 79, rowT tyS (.slice hpa h.past.length hpc) 9 h.past, rowT tyS (.slice hna h.next.length hnc) 9 h.next, rowT tyS (.slice ra r.l.length rc) 9 r.l] w16 [[blk hg #[.slice hpa h.past.length hpc, .slice hna h.next.length hnc, .string h.now, .int .i64 h.most] 79, rowT tyS (.slice hpa h.past.length hpc) 9 h.past, rowT tyS (.slice hna h.next.length hnc) 9 h.next], [rowT tyS (.slice ra2_4 (((redoR r).1.l).length) rc2_4) 9 ((redoR r).1.l)], [blk w.heap.size #[.slice ra2_4 (((redoR r).1.l).length) rc2_4, .int .i64 (((redoR r).1.at_ : Nat) : Int), .int .i64 ((redoR r).1.most)] 28], [blk w1.heap.size #[.int .u8 d.kind, .string d.text] 32], [blk w2.heap.size #[.slice none 0 0, .int .i64 0, .int .i64 0] 28]] := UpG.of (Upd.sel H19 (l := [0, 1, 2, 3, 4, 5, 6]) rfl rfl) rfl
            refine WL.op rfl (d_call ok20 rfl (Ret.calls (redo_any h hg hpa hpc hna hnc w16 (H20.hpOf 0 rfl)  (by omega)) fun _ w17 p10 => ?_))
            obtain ⟨pa2_4, pc2_4, na2_4, nc2_4, rfl, u17⟩ := p10
            have H21 : UpG w [blk hg #[.slice hpa h.past.length hpc, .slice hna h.next.length hnc, .string h.now, .int .i64 h.most] 79, rowT tyS (.slice hpa h.past.length hpc) 9 h.past, rowT tyS (.slice hna h.next.length hnc) 9 h.next, rowT tyS (.slice ra r.l.length rc) 9 r.l] w17 [[blk hg #[.slice pa2_4 (((redoH h).1.past).length) pc2_4, .slice na2_4 (((redoH h).1.next).length) nc2_4, .string ((redoH h).1.now), .int .i64 ((redoH h).1.most)] 79, rowT tyS (.slice pa2_4 (((redoH h).1.past).length) pc2_4) 9 ((redoH h).1.past), rowT tyS (.slice na2_4 (((redoH h).1.next).length) nc2_4) 9 ((redoH h).1.next)], [rowT tyS (.slice ra2_4 (((redoR r).1.l).length) rc2_4) 9 ((redoR r).1.l)], [blk w.heap.size #[.slice ra2_4 (((redoR r).1.l).length) rc2_4, .int .i64 (((redoR r).1.at_ : Nat) : Int), .int .i64 ((redoR r).1.most)] 28], [blk w1.heap.size #[.int .u8 d.kind, .string d.text] 32], [blk w2.heap.size #[.slice none 0 0, .int .i64 0, .int .i64 0] 28]] := H20.on 0 rfl u17
            refine WL.op rfl (d_move rfl ?_)
            refine WL.op rfl (d_extract rfl rfl ?_)
            refine WL.op rfl (d_extract rfl rfl ?_)
            refine WL.op rfl (d_assign rfl ?_)
            refine WL.op rfl (d_assign rfl ?_)
            refine WL.done (X.block_normal ?_)
            first | rw [(hr.do_ d.text).2] | rw [hr.undo.2.1] | rw [hr.redo.2.1]
            exact X.cut [10, 9, 8, 7, 6, 5, 4] (Γ' := [(10, .string ((redoH h).2.1)), (9, .int .i64 ((redoR r).2)), (8, .int .i64 ((redoR r).2)), (7, .int .i64 0), (6, .pointer (some ⟨w2.heap.size, 0, none⟩)), (5, .pointer (some ⟨w1.heap.size, 0, none⟩)), (4, .pointer (some ⟨w.heap.size, 0, none⟩))]) rfl ⟨(redoH h).1, (redoR r).1, (redoR r).2, (redoH h).2.1, pa2_4, pc2_4, na2_4, nc2_4, ra2_4, rc2_4, rfl, (H21.re rfl), (by unfold stepH; first | rw [if_pos (by omega)] | rw [if_neg (by omega), if_pos (by omega)] | rw [if_neg (by omega), if_neg (by omega)]), (by unfold stepR; first | rw [if_pos (by omega)] | rw [if_neg (by omega), if_pos (by omega)] | rw [if_neg (by omega), if_neg (by omega)]), (by exact if h0 : (redoR r).2 = 0 then (by rw [if_neg (by omega), hr.redo.2.2.2 h0]; exact hr.redo.1.cur.symm) else (by rw [if_pos ⟨h0, by omega⟩]; exact hr.redo.2.2.1 h0))⟩
          · skip
            exfalso; omega
  rintro Γ1 w18 ⟨h2, r2, bad, x2, pa2, pc2, na2, nc2, ra2, rc2, rfl, H22, hh2, hr2, hx⟩
  have hrel : Rel h2 r2 := by rw [hh2, hr2]; exact hr.step _ _
  have hlt := hrel.lt
  refine W.seq ?_
  refine W.region ?_
  refine WL.op rfl (d_fieldAddrB fld28_0 rfl rfl ?_)
  refine WL.op rfl (d_loadB Try.underlying26 rfl rfl (H22.blk 4 rfl) rfl ?_)
  refine WL.op rfl (d_fieldAddrB fld28_1 rfl rfl ?_)
  refine WL.op rfl (d_loadB Try.underlying3 rfl rfl (H22.blk 4 rfl) rfl ?_)
  refine WL.op rfl (t_addr1 r2.at_ (T := tyS) rfl Try.underlying26 sz9 rfl rfl (H22.rdT 3 rfl) rfl (by omega) ?_)
  refine WL.op rfl (t_load1 r2.at_ .empty (T := tyS) rfl Try.underlying9 rfl rfl (H22.rdT 3 rfl) (by omega) rfl ?_)
  refine WL.op rfl (d_assign rfl ?_)
  refine WL.done (X.then_code ?_)
  refine W.seq ?_
  refine W.seq ?_
  refine W.region ?_
  refine WL.op rfl (d_move rfl ?_)
  refine WL.op rfl (d_cmp (decide (bad ≠ (0 : Int))) rfl rfl rfl ?_)
  refine WL.op rfl (d_move rfl ?_)
  refine WL.part 63 (p := bad ≠ (0 : Int)) rfl (fun g44 => ?_) (fun g44 => ?_)
  · skip
    refine WL.opG rfl rfl rfl (d_fieldAddrB fld32_0 rfl rfl ?_)
    refine WL.opG rfl rfl rfl (d_loadB Try.underlying5 rfl rfl (H22.blk 5 rfl) rfl ?_)
    refine WL.opG rfl rfl rfl (d_remN rfl rfl (by omega) (by omega) ?_)
    refine WL.opG rfl rfl rfl (d_cmp (decide ((d.kind % 4) > (1 : Int))) rfl rfl rfl ?_)
    refine WL.op rfl (d_pick rfl rfl ?_)
    refine WL.done (X.then_code ?_)
    refine W.pick [68, 11, 10, 9, 8, 7, 6, 4] (Γ' := [(68, .bool (decide ((d.kind % 4) > (1 : Int)))), (11, .string (r2.l.getD r2.at_ .empty)), (10, .string x2), (9, .int .i64 bad), (8, .int .i64 bad), (7, .int .i64 0), (6, .pointer (some ⟨w2.heap.size, 0, none⟩)), (4, .pointer (some ⟨w.heap.size, 0, none⟩))]) rfl ?_
    refine W.ite (p := (d.kind % 4) > (1 : Int)) rfl (fun c44 => ?_) (fun c44 => ?_)
    · skip
      refine W.region ?_
      refine WL.op rfl (d_assign rfl ?_)
      refine WL.done (X.then_code ?_)
      refine W.seq ?_
      refine W.seq ?_
      refine W.region ?_
      refine WL.op rfl (d_move rfl ?_)
      refine WL.op rfl (d_move rfl ?_)
      refine WL.op rfl (d_cmp (decide (bad ≠ bad)) rfl rfl rfl ?_)
      refine WL.op rfl (d_move rfl ?_)
      refine WL.part 72 (p := bad ≠ bad) rfl (fun g47 => ?_) (fun g47 => ?_)
      · skip
        exfalso; omega
      · skip
        refine WL.opG rfl rfl rfl (d_move rfl ?_)
        refine WL.opG rfl rfl rfl (d_move rfl ?_)
        refine WL.opG rfl rfl rfl (d_strne rfl rfl ?_)
        refine WL.op rfl (d_pick rfl rfl ?_)
        refine WL.done (X.then_code ?_)
        refine W.ite (p := x2 ≠ ⟨#[]⟩) rfl (fun c47 => ?_) (fun c47 => ?_)
        · skip
          exfalso; exact c47 (by first | rw [hx, if_pos ⟨by omega, by omega⟩] | rw [hx, if_neg (by omega)])
        · skip
          refine W.skip (X.then_code ?_)
          refine W.seq ?_
          refine W.region ?_
          refine WL.op rfl (d_loadAB [.slice ra2 r2.l.length rc2, .int .i64 ((r2.at_ : Nat) : Int), .int .i64 r2.most] Try.underlying28 rfl sz28 rfl (H22.blk 4 rfl) rfl rfl ?_)
          refine WL.op0 (d_storeAB (us := [.slice ra2 r2.l.length rc2, .int .i64 ((r2.at_ : Nat) : Int), .int .i64 r2.most]) (cs' := #[.slice ra2 r2.l.length rc2, .int .i64 ((r2.at_ : Nat) : Int), .int .i64 r2.most]) sz28 rfl rfl rfl rfl (H22.blk 6 rfl) rfl rfl fun w19 u18 => ?_)
          have H23 : UpG w [blk hg #[.slice hpa h.past.length hpc, .slice hna h.next.length hnc, .string h.now, .int .i64 h.most] 79, rowT tyS (.slice hpa h.past.length hpc) 9 h.past, rowT tyS (.slice hna h.next.length hnc) 9 h.next, rowT tyS (.slice ra r.l.length rc) 9 r.l] w19 [[blk hg #[.slice pa2 h2.past.length pc2, .slice na2 h2.next.length nc2, .string h2.now, .int .i64 h2.most] 79], [rowT tyS (.slice pa2 h2.past.length pc2) 9 h2.past], [rowT tyS (.slice na2 h2.next.length nc2) 9 h2.next], [rowT tyS (.slice ra2 r2.l.length rc2) 9 r2.l], [blk w.heap.size #[.slice ra2 r2.l.length rc2, .int .i64 ((r2.at_ : Nat) : Int), .int .i64 r2.most] 28], [blk w1.heap.size #[.int .u8 d.kind, .string d.text] 32], [blk w2.heap.size #[.slice ra2 r2.l.length rc2, .int .i64 ((r2.at_ : Nat) : Int), .int .i64 r2.most] 28]] := H22.on 6 rfl u18
          refine WL.op rfl (d_assign rfl ?_)
          refine WL.done (X.then_code ?_)
          refine W.pick [7, 6] (Γ' := [(7, .int .i64 0), (6, .pointer (some ⟨w2.heap.size, 0, none⟩))]) rfl ?_
          refine W.ret (X.retR2 rfl (rv_cellA [.slice ra2 r2.l.length rc2, .int .i64 ((r2.at_ : Nat) : Int), .int .i64 r2.most] Try.underlying28 rfl sz28 rfl (H23.blk 6 rfl) rfl rfl) (rv_tmp rfl) ?_)
          rw [← hh2, ← hr2]
          exact ⟨pa2, pc2, na2, nc2, ra2, rc2, (by rfl), (Upd.sel H23 (l := [0, 1, 2, 3]) rfl rfl)⟩
    · skip
      refine W.skip (X.then_code ?_)
      refine W.seq ?_
      refine W.seq ?_
      refine W.region ?_
      refine WL.op rfl (d_move rfl ?_)
      refine WL.op rfl (d_move rfl ?_)
      refine WL.op rfl (d_cmp (decide (bad ≠ bad)) rfl rfl rfl ?_)
      refine WL.op rfl (d_move rfl ?_)
      refine WL.part 72 (p := bad ≠ bad) rfl (fun g47 => ?_) (fun g47 => ?_)
      · skip
        exfalso; omega
      · skip
        refine WL.opG rfl rfl rfl (d_move rfl ?_)
        refine WL.opG rfl rfl rfl (d_move rfl ?_)
        refine WL.opG rfl rfl rfl (d_strne rfl rfl ?_)
        refine WL.op rfl (d_pick rfl rfl ?_)
        refine WL.done (X.then_code ?_)
        refine W.ite (p := x2 ≠ (r2.l.getD r2.at_ .empty)) rfl (fun c47 => ?_) (fun c47 => ?_)
        · skip
          exfalso; exact c47 (by first | rw [hx, if_pos ⟨by omega, by omega⟩] | rw [hx, if_neg (by omega)])
        · skip
          refine W.skip (X.then_code ?_)
          refine W.seq ?_
          refine W.region ?_
          refine WL.op rfl (d_loadAB [.slice ra2 r2.l.length rc2, .int .i64 ((r2.at_ : Nat) : Int), .int .i64 r2.most] Try.underlying28 rfl sz28 rfl (H22.blk 4 rfl) rfl rfl ?_)
          refine WL.op0 (d_storeAB (us := [.slice ra2 r2.l.length rc2, .int .i64 ((r2.at_ : Nat) : Int), .int .i64 r2.most]) (cs' := #[.slice ra2 r2.l.length rc2, .int .i64 ((r2.at_ : Nat) : Int), .int .i64 r2.most]) sz28 rfl rfl rfl rfl (H22.blk 6 rfl) rfl rfl fun w20 u19 => ?_)
          have H24 : UpG w [blk hg #[.slice hpa h.past.length hpc, .slice hna h.next.length hnc, .string h.now, .int .i64 h.most] 79, rowT tyS (.slice hpa h.past.length hpc) 9 h.past, rowT tyS (.slice hna h.next.length hnc) 9 h.next, rowT tyS (.slice ra r.l.length rc) 9 r.l] w20 [[blk hg #[.slice pa2 h2.past.length pc2, .slice na2 h2.next.length nc2, .string h2.now, .int .i64 h2.most] 79], [rowT tyS (.slice pa2 h2.past.length pc2) 9 h2.past], [rowT tyS (.slice na2 h2.next.length nc2) 9 h2.next], [rowT tyS (.slice ra2 r2.l.length rc2) 9 r2.l], [blk w.heap.size #[.slice ra2 r2.l.length rc2, .int .i64 ((r2.at_ : Nat) : Int), .int .i64 r2.most] 28], [blk w1.heap.size #[.int .u8 d.kind, .string d.text] 32], [blk w2.heap.size #[.slice ra2 r2.l.length rc2, .int .i64 ((r2.at_ : Nat) : Int), .int .i64 r2.most] 28]] := H22.on 6 rfl u19
          refine WL.op rfl (d_assign rfl ?_)
          refine WL.done (X.then_code ?_)
          refine W.pick [7, 6] (Γ' := [(7, .int .i64 0), (6, .pointer (some ⟨w2.heap.size, 0, none⟩))]) rfl ?_
          refine W.ret (X.retR2 rfl (rv_cellA [.slice ra2 r2.l.length rc2, .int .i64 ((r2.at_ : Nat) : Int), .int .i64 r2.most] Try.underlying28 rfl sz28 rfl (H24.blk 6 rfl) rfl rfl) (rv_tmp rfl) ?_)
          rw [← hh2, ← hr2]
          exact ⟨pa2, pc2, na2, nc2, ra2, rc2, (by rfl), (Upd.sel H24 (l := [0, 1, 2, 3]) rfl rfl)⟩
  · skip
    refine WL.opN rfl rfl rfl rfl ?_
    refine WL.opN rfl rfl rfl rfl ?_
    refine WL.opN rfl rfl rfl rfl ?_
    refine WL.opN rfl rfl rfl rfl ?_
    refine WL.op rfl (d_pick rfl rfl ?_)
    refine WL.done (X.then_code ?_)
    refine W.pick [68, 11, 10, 9, 8, 7, 6, 4] (Γ' := [(68, .bool false), (11, .string (r2.l.getD r2.at_ .empty)), (10, .string x2), (9, .int .i64 bad), (8, .int .i64 bad), (7, .int .i64 0), (6, .pointer (some ⟨w2.heap.size, 0, none⟩)), (4, .pointer (some ⟨w.heap.size, 0, none⟩))]) rfl ?_
    refine W.iff rfl ?_
    refine W.skip (X.then_code ?_)
    refine W.seq ?_
    refine W.seq ?_
    refine W.region ?_
    refine WL.op rfl (d_move rfl ?_)
    refine WL.op rfl (d_move rfl ?_)
    refine WL.op rfl (d_cmp (decide (bad ≠ bad)) rfl rfl rfl ?_)
    refine WL.op rfl (d_move rfl ?_)
    refine WL.part 72 (p := bad ≠ bad) rfl (fun g47 => ?_) (fun g47 => ?_)
    · skip
      exfalso; omega
    · skip
      refine WL.opG rfl rfl rfl (d_move rfl ?_)
      refine WL.opG rfl rfl rfl (d_move rfl ?_)
      refine WL.opG rfl rfl rfl (d_strne rfl rfl ?_)
      refine WL.op rfl (d_pick rfl rfl ?_)
      refine WL.done (X.then_code ?_)
      refine W.ite (p := x2 ≠ (r2.l.getD r2.at_ .empty)) rfl (fun c47 => ?_) (fun c47 => ?_)
      · skip
        exfalso; exact c47 (by first | rw [hx, if_pos ⟨by omega, by omega⟩] | rw [hx, if_neg (by omega)])
      · skip
        refine W.skip (X.then_code ?_)
        refine W.seq ?_
        refine W.region ?_
        refine WL.op rfl (d_loadAB [.slice ra2 r2.l.length rc2, .int .i64 ((r2.at_ : Nat) : Int), .int .i64 r2.most] Try.underlying28 rfl sz28 rfl (H22.blk 4 rfl) rfl rfl ?_)
        refine WL.op0 (d_storeAB (us := [.slice ra2 r2.l.length rc2, .int .i64 ((r2.at_ : Nat) : Int), .int .i64 r2.most]) (cs' := #[.slice ra2 r2.l.length rc2, .int .i64 ((r2.at_ : Nat) : Int), .int .i64 r2.most]) sz28 rfl rfl rfl rfl (H22.blk 6 rfl) rfl rfl fun w21 u20 => ?_)
        have H25 : UpG w [blk hg #[.slice hpa h.past.length hpc, .slice hna h.next.length hnc, .string h.now, .int .i64 h.most] 79, rowT tyS (.slice hpa h.past.length hpc) 9 h.past, rowT tyS (.slice hna h.next.length hnc) 9 h.next, rowT tyS (.slice ra r.l.length rc) 9 r.l] w21 [[blk hg #[.slice pa2 h2.past.length pc2, .slice na2 h2.next.length nc2, .string h2.now, .int .i64 h2.most] 79], [rowT tyS (.slice pa2 h2.past.length pc2) 9 h2.past], [rowT tyS (.slice na2 h2.next.length nc2) 9 h2.next], [rowT tyS (.slice ra2 r2.l.length rc2) 9 r2.l], [blk w.heap.size #[.slice ra2 r2.l.length rc2, .int .i64 ((r2.at_ : Nat) : Int), .int .i64 r2.most] 28], [blk w1.heap.size #[.int .u8 d.kind, .string d.text] 32], [blk w2.heap.size #[.slice ra2 r2.l.length rc2, .int .i64 ((r2.at_ : Nat) : Int), .int .i64 r2.most] 28]] := H22.on 6 rfl u20
        refine WL.op rfl (d_assign rfl ?_)
        refine WL.done (X.then_code ?_)
        refine W.pick [7, 6] (Γ' := [(7, .int .i64 0), (6, .pointer (some ⟨w2.heap.size, 0, none⟩))]) rfl ?_
        refine W.ret (X.retR2 rfl (rv_cellA [.slice ra2 r2.l.length rc2, .int .i64 ((r2.at_ : Nat) : Int), .int .i64 r2.most] Try.underlying28 rfl sz28 rfl (H25.blk 6 rfl) rfl rfl) (rv_tmp rfl) ?_)
        rw [← hh2, ← hr2]
        exact ⟨pa2, pc2, na2, nc2, ra2, rc2, (by rfl), (Upd.sel H25 (l := [0, 1, 2, 3]) rfl rfl)⟩

set_option maxRecDepth 20000 in
theorem lsame_any (h : HistD) (hg : Nat) (hpa : Option Addr) (hpc : Nat) (hna : Option Addr) (hnc : Nat) (r : RowD) (ra : Option Addr) (rc : Nat) (w : World) (hp : Hp w [blk hg #[.slice hpa h.past.length hpc, .slice hna h.next.length hnc, .string h.now, .int .i64 h.most] 79, rowT tyS (.slice hpa h.past.length hpc) 9 h.past, rowT tyS (.slice hna h.next.length hnc) 9 h.next, rowT tyS (.slice ra r.l.length rc) 9 r.l]) (hr : Rel h r) (hl : h.past.length + h.next.length ≤ 1000) :
    Calls Try.prog 14 #[.pointer (some ⟨hg, 0, none⟩), .agg #[.slice ra r.l.length rc, .int .i64 ((r.at_ : Nat) : Int), .int .i64 r.most]] w (Ret fun v w' => v = .bool true ∧ Upd w [blk hg #[.slice hpa h.past.length hpc, .slice hna h.next.length hnc, .string h.now, .int .i64 h.most] 79, rowT tyS (.slice hpa h.past.length hpc) 9 h.past, rowT tyS (.slice hna h.next.length hnc) 9 h.next, rowT tyS (.slice ra r.l.length rc) 9 r.l] w' [blk hg #[.slice hpa h.past.length hpc, .slice hna h.next.length hnc, .string h.now, .int .i64 h.most] 79, rowT tyS (.slice hpa h.past.length hpc) 9 h.past, rowT tyS (.slice hna h.next.length hnc) 9 h.next, rowT tyS (.slice ra r.l.length rc) 9 r.l]) := by
  refine calls_of_W (args := [.pointer (some ⟨hg, 0, none⟩), .agg #[.slice ra r.l.length rc, .int .i64 ((r.at_ : Nat) : Int), .int .i64 r.most]]) Try.func14 rfl rfl rfl ?_
  have H0 : UpG w [blk hg #[.slice hpa h.past.length hpc, .slice hna h.next.length hnc, .string h.now, .int .i64 h.most] 79, rowT tyS (.slice hpa h.past.length hpc) 9 h.past, rowT tyS (.slice hna h.next.length hnc) 9 h.next, rowT tyS (.slice ra r.l.length rc) 9 r.l] w [[blk hg #[.slice hpa h.past.length hpc, .slice hna h.next.length hnc, .string h.now, .int .i64 h.most] 79], [rowT tyS (.slice hpa h.past.length hpc) 9 h.past], [rowT tyS (.slice hna h.next.length hnc) 9 h.next], [rowT tyS (.slice ra r.l.length rc) 9 r.l]] := (UpG.refl hp).re rfl
  show W _ _ _ _ [(0, .pointer (some ⟨hg, 0, none⟩)), (1, .agg #[.slice ra r.l.length rc, .int .i64 ((r.at_ : Nat) : Int), .int .i64 r.most])] w
  refine W.seq ?_
  refine W.region ?_
  refine WL.op rfl (d_box rfl fun w1 u1 => ?_)
  have H1 : UpG w [blk hg #[.slice hpa h.past.length hpc, .slice hna h.next.length hnc, .string h.now, .int .i64 h.most] 79, rowT tyS (.slice hpa h.past.length hpc) 9 h.past, rowT tyS (.slice hna h.next.length hnc) 9 h.next, rowT tyS (.slice ra r.l.length rc) 9 r.l] w1 [[blk hg #[.slice hpa h.past.length hpc, .slice hna h.next.length hnc, .string h.now, .int .i64 h.most] 79], [rowT tyS (.slice hpa h.past.length hpc) 9 h.past], [rowT tyS (.slice hna h.next.length hnc) 9 h.next], [rowT tyS (.slice ra r.l.length rc) 9 r.l], [blk w.heap.size #[.slice ra r.l.length rc, .int .i64 ((r.at_ : Nat) : Int), .int .i64 r.most] 28]] := H0.new' u1
  refine WL.op rfl (d_assign rfl ?_)
  refine WL.done (X.then_code ?_)
  refine W.seq ?_
  have hlt0 := hr.lt
  have hlen0 := hr.len
  have hat := hr.at_
  have hcur := hr.cur
  refine W.region ?_
  refine WL.op rfl (d_move rfl ?_)
  have H2 : UpG w [blk hg #[.slice hpa h.past.length hpc, .slice hna h.next.length hnc, .string h.now, .int .i64 h.most] 79, rowT tyS (.slice hpa h.past.length hpc) 9 h.past, rowT tyS (.slice hna h.next.length hnc) 9 h.next, rowT tyS (.slice ra r.l.length rc) 9 r.l] w1 [[blk hg #[.slice hpa h.past.length hpc, .slice hna h.next.length hnc, .string h.now, .int .i64 h.most] 79, rowT tyS (.slice hpa h.past.length hpc) 9 h.past, rowT tyS (.slice hna h.next.length hnc) 9 h.next], [rowT tyS (.slice ra r.l.length rc) 9 r.l], [blk w.heap.size #[.slice ra r.l.length rc, .int .i64 ((r.at_ : Nat) : Int), .int .i64 r.most] 28]] := UpG.of (Upd.sel H1 (l := [0, 1, 2, 3, 4]) rfl rfl) rfl
  refine WL.op rfl (d_call ok18 rfl (Ret.calls (sizes_any h hg hpa hpc hna hnc w1 (H2.hpOf 0 rfl)  ) fun _ w2 p1 => ?_))
  obtain ⟨rfl, u2⟩ := p1
  have H3 : UpG w [blk hg #[.slice hpa h.past.length hpc, .slice hna h.next.length hnc, .string h.now, .int .i64 h.most] 79, rowT tyS (.slice hpa h.past.length hpc) 9 h.past, rowT tyS (.slice hna h.next.length hnc) 9 h.next, rowT tyS (.slice ra r.l.length rc) 9 r.l] w2 [[blk hg #[.slice hpa h.past.length hpc, .slice hna h.next.length hnc, .string h.now, .int .i64 h.most] 79, rowT tyS (.slice hpa h.past.length hpc) 9 h.past, rowT tyS (.slice hna h.next.length hnc) 9 h.next], [rowT tyS (.slice ra r.l.length rc) 9 r.l], [blk w.heap.size #[.slice ra r.l.length rc, .int .i64 ((r.at_ : Nat) : Int), .int .i64 r.most] 28]] := H2.on 0 rfl u2
  refine WL.op rfl (d_move rfl ?_)
  refine WL.op rfl (d_extract rfl rfl ?_)
  refine WL.op rfl (d_extract rfl rfl ?_)
  refine WL.op rfl (d_assign rfl ?_)
  refine WL.op rfl (d_assign rfl ?_)
  refine WL.done (X.then_code ?_)
  refine W.seq ?_
  refine W.regionD mixed (by kernel_rfl) fun hok1 w3 k1 => ?_
  have H4 : UpG w [blk hg #[.slice hpa h.past.length hpc, .slice hna h.next.length hnc, .string h.now, .int .i64 h.most] 79, rowT tyS (.slice hpa h.past.length hpc) 9 h.past, rowT tyS (.slice hna h.next.length hnc) 9 h.next, rowT tyS (.slice ra r.l.length rc) 9 r.l] w3 [[blk hg #[.slice hpa h.past.length hpc, .slice hna h.next.length hnc, .string h.now, .int .i64 h.most] 79, rowT tyS (.slice hpa h.past.length hpc) 9 h.past, rowT tyS (.slice hna h.next.length hnc) 9 h.next], [rowT tyS (.slice ra r.l.length rc) 9 r.l], [blk w.heap.size #[.slice ra r.l.length rc, .int .i64 ((r.at_ : Nat) : Int), .int .i64 r.most] 28]] := H3.kept k1
  refine WD.take hok1 0 (.pointer (some ⟨hg, 0, none⟩)) (fun _ => True) rfl rfl rfl rfl rfl trivial (.inl ⟨rfl, fun _ _ => d_move rfl ⟨rfl, rfl⟩⟩) ?_
  refine WD.take hok1 2 (.pointer (some ⟨w.heap.size, 0, none⟩)) (fun _ => True) rfl rfl rfl rfl rfl trivial (.inl ⟨rfl, fun _ _ => d_fieldAddrB fld28_0 rfl rfl ⟨rfl, rfl⟩⟩) ?_
  refine WD.take hok1 3 (.slice ra r.l.length rc) (fun w' => w'.heap[w.heap.size]? = some (.cells #[.slice ra r.l.length rc, .int .i64 ((r.at_ : Nat) : Int), .int .i64 r.most] 28 (0, 0))) rfl rfl rfl rfl rfl (H4.blk 2 rfl) (.inl ⟨rfl, fun _ hC => d_loadB Try.underlying26 rfl rfl hC rfl ⟨rfl, rfl⟩⟩) ?_
  refine WD.take hok1 4 (.pointer (some ⟨w.heap.size, 1, none⟩)) (fun _ => True) rfl rfl rfl rfl rfl trivial (.inl ⟨rfl, fun _ _ => d_fieldAddrB fld28_1 rfl rfl ⟨rfl, rfl⟩⟩) ?_
  refine WD.take hok1 5 (.int .i64 ((r.at_ : Nat) : Int)) (fun w' => w'.heap[w.heap.size]? = some (.cells #[.slice ra r.l.length rc, .int .i64 ((r.at_ : Nat) : Int), .int .i64 r.most] 28 (0, 0))) rfl rfl rfl rfl rfl (H4.blk 2 rfl) (.inl ⟨rfl, fun _ hC => d_loadB Try.underlying3 rfl rfl hC rfl ⟨rfl, rfl⟩⟩) ?_
  refine WD.take hok1 6 (elemPtr (.slice ra r.l.length rc) r.at_) (fun w' => RdT tyS w' (.slice ra r.l.length rc) r.l) rfl rfl rfl rfl rfl (H4.rdT 1 rfl) (.inl ⟨rfl, fun _ hC => t_addr1 r.at_ (T := tyS) rfl Try.underlying26 sz9 rfl rfl hC rfl (by omega) ⟨rfl, rfl⟩⟩) ?_
  refine WD.take hok1 7 (.string (r.l.getD r.at_ .empty)) (fun w' => RdT tyS w' (.slice ra r.l.length rc) r.l) rfl rfl rfl rfl rfl (H4.rdT 1 rfl) (.inl ⟨rfl, fun _ hC => t_load1 r.at_ .empty (T := tyS) rfl Try.underlying9 rfl rfl hC (by omega) rfl ⟨rfl, rfl⟩⟩) ?_
  refine WD.loud hok1 1 rfl (⟨_, [⟨7, .string (r.l.getD r.at_ .empty), (fun w' => RdT tyS w' (.slice ra r.l.length rc) r.l)⟩, ⟨6, elemPtr (.slice ra r.l.length rc) r.at_, (fun w' => RdT tyS w' (.slice ra r.l.length rc) r.l)⟩, ⟨5, .int .i64 ((r.at_ : Nat) : Int), (fun w' => w'.heap[w.heap.size]? = some (.cells #[.slice ra r.l.length rc, .int .i64 ((r.at_ : Nat) : Int), .int .i64 r.most] 28 (0, 0)))⟩, ⟨4, .pointer (some ⟨w.heap.size, 1, none⟩), (fun _ => True)⟩, ⟨3, .slice ra r.l.length rc, (fun w' => w'.heap[w.heap.size]? = some (.cells #[.slice ra r.l.length rc, .int .i64 ((r.at_ : Nat) : Int), .int .i64 r.most] 28 (0, 0)))⟩, ⟨2, .pointer (some ⟨w.heap.size, 0, none⟩), (fun _ => True)⟩], rfl, rfl, rfl, rfl, rfl, rfl, d_call ok16 rfl (Ret.calls (now_any h hg hpa hpc hna hnc w3 (H4.hpOf 0 rfl)  ) fun _ w4 p2 => ?_)⟩)
  obtain ⟨rfl, u3⟩ := p2
  have H5 : UpG w [blk hg #[.slice hpa h.past.length hpc, .slice hna h.next.length hnc, .string h.now, .int .i64 h.most] 79, rowT tyS (.slice hpa h.past.length hpc) 9 h.past, rowT tyS (.slice hna h.next.length hnc) 9 h.next, rowT tyS (.slice ra r.l.length rc) 9 r.l] w4 [[blk hg #[.slice hpa h.past.length hpc, .slice hna h.next.length hnc, .string h.now, .int .i64 h.most] 79, rowT tyS (.slice hpa h.past.length hpc) 9 h.past, rowT tyS (.slice hna h.next.length hnc) 9 h.next], [rowT tyS (.slice ra r.l.length rc) 9 r.l], [blk w.heap.size #[.slice ra r.l.length rc, .int .i64 ((r.at_ : Nat) : Int), .int .i64 r.most] 28]] := H4.on 0 rfl u3
  refine ⟨⟨(H5.rdT 1 rfl), (H5.rdT 1 rfl), (H5.blk 2 rfl), trivial, (H5.blk 2 rfl), trivial, trivial⟩, ?_⟩
  refine WD.take hok1 8 (.bool (decide (h.now = (r.l.getD r.at_ .empty)))) (fun _ => True) rfl rfl rfl rfl rfl trivial (.inl ⟨rfl, fun _ _ => d_streq rfl rfl ⟨rfl, rfl⟩⟩) ?_
  refine WD.take hok1 9 (.bool (decide (h.now = (r.l.getD r.at_ .empty)))) (fun _ => True) rfl rfl rfl rfl rfl trivial (.inl ⟨rfl, fun _ _ => d_move rfl ⟨rfl, rfl⟩⟩) ?_
  refine WD.part 21 (p := h.now = (r.l.getD r.at_ .empty)) rfl (fun g56 => ?_) (fun g56 => ?_)
  · skip
    refine WD.take hok1 10 (.int .i64 ((h.past.length : Nat) : Int)) (fun _ => True) rfl rfl rfl rfl rfl trivial (.inl ⟨rfl, fun _ _ => d_move rfl ⟨rfl, rfl⟩⟩) ?_
    refine WD.take hok1 11 (.pointer (some ⟨w.heap.size, 1, none⟩)) (fun _ => True) rfl rfl rfl rfl rfl trivial (.inl ⟨rfl, fun _ _ => d_fieldAddrB fld28_1 rfl rfl ⟨rfl, rfl⟩⟩) ?_
    refine WD.take hok1 12 (.int .i64 ((r.at_ : Nat) : Int)) (fun w' => w'.heap[w.heap.size]? = some (.cells #[.slice ra r.l.length rc, .int .i64 ((r.at_ : Nat) : Int), .int .i64 r.most] 28 (0, 0))) rfl rfl rfl rfl rfl (H5.blk 2 rfl) (.inl ⟨rfl, fun _ hC => d_loadB Try.underlying3 rfl rfl hC rfl ⟨rfl, rfl⟩⟩) ?_
    refine WD.take hok1 13 (.bool (decide (((h.past.length : Nat) : Int) = ((r.at_ : Nat) : Int)))) (fun _ => True) rfl rfl rfl rfl rfl trivial (.inl ⟨rfl, fun _ _ => d_cmp (decide (((h.past.length : Nat) : Int) = ((r.at_ : Nat) : Int))) rfl rfl rfl ⟨rfl, rfl⟩⟩) ?_
    refine WD.take hok1 14 (.bool (decide (((h.past.length : Nat) : Int) = ((r.at_ : Nat) : Int)))) (fun _ => True) rfl rfl rfl rfl rfl trivial (.inl ⟨rfl, fun _ _ => d_pick rfl rfl ⟨rfl, rfl⟩⟩) ?_
    refine WD.take hok1 15 (.bool (decide (((h.past.length : Nat) : Int) = ((r.at_ : Nat) : Int)))) (fun _ => True) rfl rfl rfl rfl rfl trivial (.inl ⟨rfl, fun _ _ => d_move rfl ⟨rfl, rfl⟩⟩) ?_
    refine WD.part 27 (p := ((h.past.length : Nat) : Int) = ((r.at_ : Nat) : Int)) rfl (fun g56x => ?_) (fun g56x => ?_)
    · skip
      refine WD.take hok1 16 (.int .i64 ((h.next.length : Nat) : Int)) (fun _ => True) rfl rfl rfl rfl rfl trivial (.inl ⟨rfl, fun _ _ => d_move rfl ⟨rfl, rfl⟩⟩) ?_
      refine WD.take hok1 17 (.pointer (some ⟨w.heap.size, 0, none⟩)) (fun _ => True) rfl rfl rfl rfl rfl trivial (.inl ⟨rfl, fun _ _ => d_fieldAddrB fld28_0 rfl rfl ⟨rfl, rfl⟩⟩) ?_
      refine WD.take hok1 18 (.slice ra r.l.length rc) (fun w' => w'.heap[w.heap.size]? = some (.cells #[.slice ra r.l.length rc, .int .i64 ((r.at_ : Nat) : Int), .int .i64 r.most] 28 (0, 0))) rfl rfl rfl rfl rfl (H5.blk 2 rfl) (.inl ⟨rfl, fun _ hC => d_loadB Try.underlying26 rfl rfl hC rfl ⟨rfl, rfl⟩⟩) ?_
      refine WD.take hok1 19 (.int .i64 ((r.l.length : Nat) : Int)) (fun _ => True) rfl rfl rfl rfl rfl trivial (.inl ⟨rfl, fun _ _ => d_lenS Try.underlying26 rfl ⟨rfl, rfl⟩⟩) ?_
      refine WD.take hok1 20 (.int .i64 (((r.l.length : Nat) : Int) - 1)) (fun _ => True) rfl rfl rfl rfl rfl trivial (.inl ⟨rfl, fun _ _ => d_sub rfl rfl (by omega) (by omega) ⟨rfl, rfl⟩⟩) ?_
      refine WD.take hok1 21 (.pointer (some ⟨w.heap.size, 1, none⟩)) (fun _ => True) rfl rfl rfl rfl rfl trivial (.inl ⟨rfl, fun _ _ => d_fieldAddrB fld28_1 rfl rfl ⟨rfl, rfl⟩⟩) ?_
      refine WD.take hok1 22 (.int .i64 ((r.at_ : Nat) : Int)) (fun w' => w'.heap[w.heap.size]? = some (.cells #[.slice ra r.l.length rc, .int .i64 ((r.at_ : Nat) : Int), .int .i64 r.most] 28 (0, 0))) rfl rfl rfl rfl rfl (H5.blk 2 rfl) (.inl ⟨rfl, fun _ hC => d_loadB Try.underlying3 rfl rfl hC rfl ⟨rfl, rfl⟩⟩) ?_
      refine WD.take hok1 23 (.int .i64 ((((r.l.length : Nat) : Int) - 1) - ((r.at_ : Nat) : Int))) (fun _ => True) rfl rfl rfl rfl rfl trivial (.inl ⟨rfl, fun _ _ => d_sub rfl rfl (by omega) (by omega) ⟨rfl, rfl⟩⟩) ?_
      refine WD.take hok1 24 (.bool (decide (((h.next.length : Nat) : Int) = ((((r.l.length : Nat) : Int) - 1) - ((r.at_ : Nat) : Int))))) (fun _ => True) rfl rfl rfl rfl rfl trivial (.inl ⟨rfl, fun _ _ => d_cmp (decide (((h.next.length : Nat) : Int) = ((((r.l.length : Nat) : Int) - 1) - ((r.at_ : Nat) : Int)))) rfl rfl rfl ⟨rfl, rfl⟩⟩) ?_
      refine WD.take hok1 25 (.bool (decide (((h.next.length : Nat) : Int) = ((((r.l.length : Nat) : Int) - 1) - ((r.at_ : Nat) : Int))))) (fun _ => True) rfl rfl rfl rfl rfl trivial (.inl ⟨rfl, fun _ _ => d_pick rfl rfl ⟨rfl, rfl⟩⟩) ?_
      refine WD.take hok1 26 (.bool (decide (((h.next.length : Nat) : Int) = ((((r.l.length : Nat) : Int) - 1) - ((r.at_ : Nat) : Int))))) (fun _ => True) rfl rfl rfl rfl rfl trivial (.inl ⟨rfl, fun _ _ => d_move rfl ⟨rfl, rfl⟩⟩) ?_
      refine WD.part 38 (p := ((h.next.length : Nat) : Int) = ((((r.l.length : Nat) : Int) - 1) - ((r.at_ : Nat) : Int))) rfl (fun g56xx => ?_) (fun g56xx => ?_)
      · skip
        refine WD.take hok1 27 (.pointer (some ⟨hg, 0, none⟩)) (fun _ => True) rfl rfl rfl rfl rfl trivial (.inl ⟨rfl, fun _ _ => d_move rfl ⟨rfl, rfl⟩⟩) ?_
        refine WD.take hok1 29 (.pointer (some ⟨w.heap.size, 0, none⟩)) (fun _ => True) rfl rfl rfl rfl rfl trivial (.inl ⟨rfl, fun _ _ => d_fieldAddrB fld28_0 rfl rfl ⟨rfl, rfl⟩⟩) ?_
        refine WD.take hok1 30 (.slice ra r.l.length rc) (fun w' => w'.heap[w.heap.size]? = some (.cells #[.slice ra r.l.length rc, .int .i64 ((r.at_ : Nat) : Int), .int .i64 r.most] 28 (0, 0))) rfl rfl rfl rfl rfl (H5.blk 2 rfl) (.inl ⟨rfl, fun _ hC => d_loadB Try.underlying26 rfl rfl hC rfl ⟨rfl, rfl⟩⟩) ?_
        refine WD.loud hok1 28 rfl (⟨_, [⟨30, .slice ra r.l.length rc, (fun w' => w'.heap[w.heap.size]? = some (.cells #[.slice ra r.l.length rc, .int .i64 ((r.at_ : Nat) : Int), .int .i64 r.most] 28 (0, 0)))⟩, ⟨29, .pointer (some ⟨w.heap.size, 0, none⟩), (fun _ => True)⟩], rfl, rfl, rfl, rfl, rfl, rfl, d_call ok15 rfl (Ret.calls (all_any h hg hpa hpc hna hnc w4 (H5.hpOf 0 rfl)  (by omega)) fun _ w5 p3 => ?_)⟩)
        obtain ⟨a2_1, c2_1, rfl, u4⟩ := p3
        have H6 : UpG w [blk hg #[.slice hpa h.past.length hpc, .slice hna h.next.length hnc, .string h.now, .int .i64 h.most] 79, rowT tyS (.slice hpa h.past.length hpc) 9 h.past, rowT tyS (.slice hna h.next.length hnc) 9 h.next, rowT tyS (.slice ra r.l.length rc) 9 r.l] w5 [[blk hg #[.slice hpa h.past.length hpc, .slice hna h.next.length hnc, .string h.now, .int .i64 h.most] 79, rowT tyS (.slice hpa h.past.length hpc) 9 h.past, rowT tyS (.slice hna h.next.length hnc) 9 h.next], [rowT tyS (.slice ra r.l.length rc) 9 r.l], [blk w.heap.size #[.slice ra r.l.length rc, .int .i64 ((r.at_ : Nat) : Int), .int .i64 r.most] 28], [rowT tyS (.slice a2_1 ((allH h).length) c2_1) 9 (allH h)]] := (H5.onX (B := [blk hg #[.slice hpa h.past.length hpc, .slice hna h.next.length hnc, .string h.now, .int .i64 h.most] 79, rowT tyS (.slice hpa h.past.length hpc) 9 h.past, rowT tyS (.slice hna h.next.length hnc) 9 h.next]) (C := [rowT tyS (.slice a2_1 ((allH h).length) c2_1) 9 (allH h)]) 0 rfl u4).re rfl
        refine ⟨⟨(H6.blk 2 rfl), trivial, trivial⟩, ?_⟩
        refine WD.loud hok1 31 rfl (⟨_, [], rfl, rfl, rfl, rfl, rfl, rfl, d_call ok19 rfl (Ret.calls (same_any a2_1 (allH h) c2_1 ra r.l rc w5 (H6.rdT 3 rfl) (H6.rdT 1 rfl) ) fun _ w6 p4 => ?_)⟩)
        obtain ⟨rfl, u5⟩ := p4
        have H7 : UpG w [blk hg #[.slice hpa h.past.length hpc, .slice hna h.next.length hnc, .string h.now, .int .i64 h.most] 79, rowT tyS (.slice hpa h.past.length hpc) 9 h.past, rowT tyS (.slice hna h.next.length hnc) 9 h.next, rowT tyS (.slice ra r.l.length rc) 9 r.l] w6 [[blk hg #[.slice hpa h.past.length hpc, .slice hna h.next.length hnc, .string h.now, .int .i64 h.most] 79, rowT tyS (.slice hpa h.past.length hpc) 9 h.past, rowT tyS (.slice hna h.next.length hnc) 9 h.next], [rowT tyS (.slice ra r.l.length rc) 9 r.l], [blk w.heap.size #[.slice ra r.l.length rc, .int .i64 ((r.at_ : Nat) : Int), .int .i64 r.most] 28], [rowT tyS (.slice a2_1 ((allH h).length) c2_1) 9 (allH h)]] := H6.call u5
        refine ⟨trivial, ?_⟩
        refine WD.take hok1 32 (.bool (decide ((allH h) = r.l))) (fun _ => True) rfl rfl rfl rfl rfl trivial (.inl ⟨rfl, fun _ _ => d_pick rfl rfl ⟨rfl, rfl⟩⟩) ?_
        refine WD.take hok1 33 (.bool (decide ((allH h) = r.l))) (fun _ => True) rfl rfl rfl rfl rfl trivial (.inl ⟨rfl, fun _ _ => d_assign rfl ⟨rfl, rfl⟩⟩) ?_
        refine WD.done hok1 rfl (X.then_code ?_)
        refine W.pick [4] (Γ' := [(4, .bool (decide ((allH h) = r.l)))]) rfl ?_
        refine W.ret (X.ret1 rfl rfl ?_)
        exact ⟨(by rw [decide_eq_true hr.l.symm]), (Upd.sel H7 (l := [0, 1, 2, 3]) rfl rfl)⟩
      · skip
        exfalso; omega
    · skip
      exfalso; omega
  · skip
    exact absurd hcur.symm g56

set_option maxRecDepth 20000 in
theorem awake_any  (w : World) :
    Calls Try.prog 11 #[] w (Ret fun v w' => v = .bool true ∧ Upd w [] w' []) := by
  refine calls_of_W (args := []) Try.func11 rfl rfl rfl ?_
  have H0 : UpG w [] w [] := UpG.nil w
  show W _ _ _ _ [] w
  refine W.seq ?_
  refine W.region ?_
  refine WL.op rfl (d_assign rfl ?_)
  refine WL.done (X.then_code ?_)
  refine W.seq ?_
  refine W.region ?_
  refine WL.op rfl (d_call ok12 rfl (Ret.calls (new_any ⟨#[97]⟩ 5 w  ) fun _ w1 p1 => ?_))
  obtain ⟨g_1, rfl, u1⟩ := p1
  have H1 : UpG w [] w1 [[blk g_1 #[.slice none (([] : List ByteArray).length) 0, .slice none (([] : List ByteArray).length) 0, .string ⟨#[97]⟩, .int .i64 (max 5 0)] 79, rowT tyS (.slice none (([] : List ByteArray).length) 0) 9 ([] : List ByteArray), rowT tyS (.slice none (([] : List ByteArray).length) 0) 9 ([] : List ByteArray)]] := (H0.new' u1).re rfl
  refine WL.op rfl (d_assign rfl ?_)
  refine WL.done (X.then_code ?_)
  refine W.seq ?_
  refine W.region ?_
  refine WL.op rfl (d_move rfl ?_)
  refine WL.op rfl (d_call ok23 rfl (Ret.calls (do_any (⟨([] : List ByteArray), ([] : List ByteArray), ⟨#[97]⟩, max 5 0⟩ : HistD) g_1 none 0 none 0 ⟨#[98]⟩ w1 (H1.hpOf 0 rfl)  (by decide)) fun _ w2 p2 => ?_))
  obtain ⟨pa2_1, pc2_1, na2_1, nc2_1, rfl, u2⟩ := p2
  have H2 : UpG w [] w2 [[blk g_1 #[.slice pa2_1 (((doH (⟨([] : List ByteArray), ([] : List ByteArray), ⟨#[97]⟩, max 5 0⟩ : HistD) ⟨#[98]⟩).1.past).length) pc2_1, .slice na2_1 (((doH (⟨([] : List ByteArray), ([] : List ByteArray), ⟨#[97]⟩, max 5 0⟩ : HistD) ⟨#[98]⟩).1.next).length) nc2_1, .string ((doH (⟨([] : List ByteArray), ([] : List ByteArray), ⟨#[97]⟩, max 5 0⟩ : HistD) ⟨#[98]⟩).1.now), .int .i64 ((doH (⟨([] : List ByteArray), ([] : List ByteArray), ⟨#[97]⟩, max 5 0⟩ : HistD) ⟨#[98]⟩).1.most)] 79, rowT tyS (.slice pa2_1 (((doH (⟨([] : List ByteArray), ([] : List ByteArray), ⟨#[97]⟩, max 5 0⟩ : HistD) ⟨#[98]⟩).1.past).length) pc2_1) 9 ((doH (⟨([] : List ByteArray), ([] : List ByteArray), ⟨#[97]⟩, max 5 0⟩ : HistD) ⟨#[98]⟩).1.past), rowT tyS (.slice na2_1 (((doH (⟨([] : List ByteArray), ([] : List ByteArray), ⟨#[97]⟩, max 5 0⟩ : HistD) ⟨#[98]⟩).1.next).length) nc2_1) 9 ((doH (⟨([] : List ByteArray), ([] : List ByteArray), ⟨#[97]⟩, max 5 0⟩ : HistD) ⟨#[98]⟩).1.next)]] := H1.on 0 rfl u2
  refine WL.op rfl (d_move rfl ?_)
  refine WL.op rfl (d_call ok23 rfl (Ret.calls (do_any ((doH (⟨([] : List ByteArray), ([] : List ByteArray), ⟨#[97]⟩, max 5 0⟩ : HistD) ⟨#[98]⟩).1) g_1 pa2_1 pc2_1 na2_1 nc2_1 ⟨#[99]⟩ w2 (H2.hpOf 0 rfl)  (by decide)) fun _ w3 p3 => ?_))
  obtain ⟨pa2_2, pc2_2, na2_2, nc2_2, rfl, u3⟩ := p3
  have H3 : UpG w [] w3 [[blk g_1 #[.slice pa2_2 (((doH ((doH (⟨([] : List ByteArray), ([] : List ByteArray), ⟨#[97]⟩, max 5 0⟩ : HistD) ⟨#[98]⟩).1) ⟨#[99]⟩).1.past).length) pc2_2, .slice na2_2 (((doH ((doH (⟨([] : List ByteArray), ([] : List ByteArray), ⟨#[97]⟩, max 5 0⟩ : HistD) ⟨#[98]⟩).1) ⟨#[99]⟩).1.next).length) nc2_2, .string ((doH ((doH (⟨([] : List ByteArray), ([] : List ByteArray), ⟨#[97]⟩, max 5 0⟩ : HistD) ⟨#[98]⟩).1) ⟨#[99]⟩).1.now), .int .i64 ((doH ((doH (⟨([] : List ByteArray), ([] : List ByteArray), ⟨#[97]⟩, max 5 0⟩ : HistD) ⟨#[98]⟩).1) ⟨#[99]⟩).1.most)] 79, rowT tyS (.slice pa2_2 (((doH ((doH (⟨([] : List ByteArray), ([] : List ByteArray), ⟨#[97]⟩, max 5 0⟩ : HistD) ⟨#[98]⟩).1) ⟨#[99]⟩).1.past).length) pc2_2) 9 ((doH ((doH (⟨([] : List ByteArray), ([] : List ByteArray), ⟨#[97]⟩, max 5 0⟩ : HistD) ⟨#[98]⟩).1) ⟨#[99]⟩).1.past), rowT tyS (.slice na2_2 (((doH ((doH (⟨([] : List ByteArray), ([] : List ByteArray), ⟨#[97]⟩, max 5 0⟩ : HistD) ⟨#[98]⟩).1) ⟨#[99]⟩).1.next).length) nc2_2) 9 ((doH ((doH (⟨([] : List ByteArray), ([] : List ByteArray), ⟨#[97]⟩, max 5 0⟩ : HistD) ⟨#[98]⟩).1) ⟨#[99]⟩).1.next)]] := H2.on 0 rfl u3
  refine WL.op rfl (d_assign rfl ?_)
  refine WL.op rfl (d_assign rfl ?_)
  refine WL.done (X.then_code ?_)
  refine W.seq ?_
  refine W.region ?_
  refine WL.op rfl (d_move rfl ?_)
  refine WL.op rfl (d_call ok17 rfl (Ret.calls (undo_any ((doH ((doH (⟨([] : List ByteArray), ([] : List ByteArray), ⟨#[97]⟩, max 5 0⟩ : HistD) ⟨#[98]⟩).1) ⟨#[99]⟩).1) g_1 pa2_2 pc2_2 na2_2 nc2_2 w3 (H3.hpOf 0 rfl)  (by decide)) fun _ w4 p4 => ?_))
  obtain ⟨pa2_3, pc2_3, na2_3, nc2_3, rfl, u4⟩ := p4
  have H4 : UpG w [] w4 [[blk g_1 #[.slice pa2_3 (((undoH ((doH ((doH (⟨([] : List ByteArray), ([] : List ByteArray), ⟨#[97]⟩, max 5 0⟩ : HistD) ⟨#[98]⟩).1) ⟨#[99]⟩).1)).1.past).length) pc2_3, .slice na2_3 (((undoH ((doH ((doH (⟨([] : List ByteArray), ([] : List ByteArray), ⟨#[97]⟩, max 5 0⟩ : HistD) ⟨#[98]⟩).1) ⟨#[99]⟩).1)).1.next).length) nc2_3, .string ((undoH ((doH ((doH (⟨([] : List ByteArray), ([] : List ByteArray), ⟨#[97]⟩, max 5 0⟩ : HistD) ⟨#[98]⟩).1) ⟨#[99]⟩).1)).1.now), .int .i64 ((undoH ((doH ((doH (⟨([] : List ByteArray), ([] : List ByteArray), ⟨#[97]⟩, max 5 0⟩ : HistD) ⟨#[98]⟩).1) ⟨#[99]⟩).1)).1.most)] 79, rowT tyS (.slice pa2_3 (((undoH ((doH ((doH (⟨([] : List ByteArray), ([] : List ByteArray), ⟨#[97]⟩, max 5 0⟩ : HistD) ⟨#[98]⟩).1) ⟨#[99]⟩).1)).1.past).length) pc2_3) 9 ((undoH ((doH ((doH (⟨([] : List ByteArray), ([] : List ByteArray), ⟨#[97]⟩, max 5 0⟩ : HistD) ⟨#[98]⟩).1) ⟨#[99]⟩).1)).1.past), rowT tyS (.slice na2_3 (((undoH ((doH ((doH (⟨([] : List ByteArray), ([] : List ByteArray), ⟨#[97]⟩, max 5 0⟩ : HistD) ⟨#[98]⟩).1) ⟨#[99]⟩).1)).1.next).length) nc2_3) 9 ((undoH ((doH ((doH (⟨([] : List ByteArray), ([] : List ByteArray), ⟨#[97]⟩, max 5 0⟩ : HistD) ⟨#[98]⟩).1) ⟨#[99]⟩).1)).1.next)]] := H3.on 0 rfl u4
  refine WL.op rfl (d_move rfl ?_)
  refine WL.op rfl (d_extract rfl rfl ?_)
  refine WL.op rfl (d_extract rfl rfl ?_)
  refine WL.op rfl (d_assign rfl ?_)
  refine WL.op rfl (d_assign rfl ?_)
  refine WL.done (X.then_code ?_)
  refine W.seq ?_
  refine W.region ?_
  refine WL.op rfl (d_move rfl ?_)
  refine WL.op rfl (d_call ok23 rfl (Ret.calls (do_any ((undoH ((doH ((doH (⟨([] : List ByteArray), ([] : List ByteArray), ⟨#[97]⟩, max 5 0⟩ : HistD) ⟨#[98]⟩).1) ⟨#[99]⟩).1)).1) g_1 pa2_3 pc2_3 na2_3 nc2_3 ⟨#[100]⟩ w4 (H4.hpOf 0 rfl)  (by decide)) fun _ w5 p5 => ?_))
  obtain ⟨pa2_4, pc2_4, na2_4, nc2_4, rfl, u5⟩ := p5
  have H5 : UpG w [] w5 [[blk g_1 #[.slice pa2_4 (((doH ((undoH ((doH ((doH (⟨([] : List ByteArray), ([] : List ByteArray), ⟨#[97]⟩, max 5 0⟩ : HistD) ⟨#[98]⟩).1) ⟨#[99]⟩).1)).1) ⟨#[100]⟩).1.past).length) pc2_4, .slice na2_4 (((doH ((undoH ((doH ((doH (⟨([] : List ByteArray), ([] : List ByteArray), ⟨#[97]⟩, max 5 0⟩ : HistD) ⟨#[98]⟩).1) ⟨#[99]⟩).1)).1) ⟨#[100]⟩).1.next).length) nc2_4, .string ((doH ((undoH ((doH ((doH (⟨([] : List ByteArray), ([] : List ByteArray), ⟨#[97]⟩, max 5 0⟩ : HistD) ⟨#[98]⟩).1) ⟨#[99]⟩).1)).1) ⟨#[100]⟩).1.now), .int .i64 ((doH ((undoH ((doH ((doH (⟨([] : List ByteArray), ([] : List ByteArray), ⟨#[97]⟩, max 5 0⟩ : HistD) ⟨#[98]⟩).1) ⟨#[99]⟩).1)).1) ⟨#[100]⟩).1.most)] 79, rowT tyS (.slice pa2_4 (((doH ((undoH ((doH ((doH (⟨([] : List ByteArray), ([] : List ByteArray), ⟨#[97]⟩, max 5 0⟩ : HistD) ⟨#[98]⟩).1) ⟨#[99]⟩).1)).1) ⟨#[100]⟩).1.past).length) pc2_4) 9 ((doH ((undoH ((doH ((doH (⟨([] : List ByteArray), ([] : List ByteArray), ⟨#[97]⟩, max 5 0⟩ : HistD) ⟨#[98]⟩).1) ⟨#[99]⟩).1)).1) ⟨#[100]⟩).1.past), rowT tyS (.slice na2_4 (((doH ((undoH ((doH ((doH (⟨([] : List ByteArray), ([] : List ByteArray), ⟨#[97]⟩, max 5 0⟩ : HistD) ⟨#[98]⟩).1) ⟨#[99]⟩).1)).1) ⟨#[100]⟩).1.next).length) nc2_4) 9 ((doH ((undoH ((doH ((doH (⟨([] : List ByteArray), ([] : List ByteArray), ⟨#[97]⟩, max 5 0⟩ : HistD) ⟨#[98]⟩).1) ⟨#[99]⟩).1)).1) ⟨#[100]⟩).1.next)]] := H4.on 0 rfl u5
  refine WL.op rfl (d_assign rfl ?_)
  refine WL.done (X.then_code ?_)
  refine W.pick [6, 5, 4, 3, 2, 1, 0] (Γ' := [(6, .int .i64 ((doH ((undoH ((doH ((doH (⟨([] : List ByteArray), ([] : List ByteArray), ⟨#[97]⟩, max 5 0⟩ : HistD) ⟨#[98]⟩).1) ⟨#[99]⟩).1)).1) ⟨#[100]⟩).2)), (5, .int .i64 ((undoH ((doH ((doH (⟨([] : List ByteArray), ([] : List ByteArray), ⟨#[97]⟩, max 5 0⟩ : HistD) ⟨#[98]⟩).1) ⟨#[99]⟩).1)).2.2)), (4, .string ((undoH ((doH ((doH (⟨([] : List ByteArray), ([] : List ByteArray), ⟨#[97]⟩, max 5 0⟩ : HistD) ⟨#[98]⟩).1) ⟨#[99]⟩).1)).2.1)), (3, .int .i64 ((doH ((doH (⟨([] : List ByteArray), ([] : List ByteArray), ⟨#[97]⟩, max 5 0⟩ : HistD) ⟨#[98]⟩).1) ⟨#[99]⟩).2)), (2, .int .i64 ((doH (⟨([] : List ByteArray), ([] : List ByteArray), ⟨#[97]⟩, max 5 0⟩ : HistD) ⟨#[98]⟩).2)), (1, .pointer (some ⟨g_1, 0, none⟩)), (0, .bool false)]) rfl ?_
  refine W.seq ?_
  refine W.region ?_
  refine WL.op rfl (d_move rfl ?_)
  refine WL.op rfl (d_call ok15 rfl (Ret.calls (all_any ((doH ((undoH ((doH ((doH (⟨([] : List ByteArray), ([] : List ByteArray), ⟨#[97]⟩, max 5 0⟩ : HistD) ⟨#[98]⟩).1) ⟨#[99]⟩).1)).1) ⟨#[100]⟩).1) g_1 pa2_4 pc2_4 na2_4 nc2_4 w5 (H5.hpOf 0 rfl)  (by decide)) fun _ w6 p6 => ?_))
  obtain ⟨a2_1, c2_1, rfl, u6⟩ := p6
  have H6 : UpG w [] w6 [[blk g_1 #[.slice pa2_4 (((doH ((undoH ((doH ((doH (⟨([] : List ByteArray), ([] : List ByteArray), ⟨#[97]⟩, max 5 0⟩ : HistD) ⟨#[98]⟩).1) ⟨#[99]⟩).1)).1) ⟨#[100]⟩).1.past).length) pc2_4, .slice na2_4 (((doH ((undoH ((doH ((doH (⟨([] : List ByteArray), ([] : List ByteArray), ⟨#[97]⟩, max 5 0⟩ : HistD) ⟨#[98]⟩).1) ⟨#[99]⟩).1)).1) ⟨#[100]⟩).1.next).length) nc2_4, .string ((doH ((undoH ((doH ((doH (⟨([] : List ByteArray), ([] : List ByteArray), ⟨#[97]⟩, max 5 0⟩ : HistD) ⟨#[98]⟩).1) ⟨#[99]⟩).1)).1) ⟨#[100]⟩).1.now), .int .i64 ((doH ((undoH ((doH ((doH (⟨([] : List ByteArray), ([] : List ByteArray), ⟨#[97]⟩, max 5 0⟩ : HistD) ⟨#[98]⟩).1) ⟨#[99]⟩).1)).1) ⟨#[100]⟩).1.most)] 79, rowT tyS (.slice pa2_4 (((doH ((undoH ((doH ((doH (⟨([] : List ByteArray), ([] : List ByteArray), ⟨#[97]⟩, max 5 0⟩ : HistD) ⟨#[98]⟩).1) ⟨#[99]⟩).1)).1) ⟨#[100]⟩).1.past).length) pc2_4) 9 ((doH ((undoH ((doH ((doH (⟨([] : List ByteArray), ([] : List ByteArray), ⟨#[97]⟩, max 5 0⟩ : HistD) ⟨#[98]⟩).1) ⟨#[99]⟩).1)).1) ⟨#[100]⟩).1.past), rowT tyS (.slice na2_4 (((doH ((undoH ((doH ((doH (⟨([] : List ByteArray), ([] : List ByteArray), ⟨#[97]⟩, max 5 0⟩ : HistD) ⟨#[98]⟩).1) ⟨#[99]⟩).1)).1) ⟨#[100]⟩).1.next).length) nc2_4) 9 ((doH ((undoH ((doH ((doH (⟨([] : List ByteArray), ([] : List ByteArray), ⟨#[97]⟩, max 5 0⟩ : HistD) ⟨#[98]⟩).1) ⟨#[99]⟩).1)).1) ⟨#[100]⟩).1.next)], [rowT tyS (.slice a2_1 ((allH ((doH ((undoH ((doH ((doH (⟨([] : List ByteArray), ([] : List ByteArray), ⟨#[97]⟩, max 5 0⟩ : HistD) ⟨#[98]⟩).1) ⟨#[99]⟩).1)).1) ⟨#[100]⟩).1)).length) c2_1) 9 (allH ((doH ((undoH ((doH ((doH (⟨([] : List ByteArray), ([] : List ByteArray), ⟨#[97]⟩, max 5 0⟩ : HistD) ⟨#[98]⟩).1) ⟨#[99]⟩).1)).1) ⟨#[100]⟩).1))]] := (H5.onX (B := [blk g_1 #[.slice pa2_4 (((doH ((undoH ((doH ((doH (⟨([] : List ByteArray), ([] : List ByteArray), ⟨#[97]⟩, max 5 0⟩ : HistD) ⟨#[98]⟩).1) ⟨#[99]⟩).1)).1) ⟨#[100]⟩).1.past).length) pc2_4, .slice na2_4 (((doH ((undoH ((doH ((doH (⟨([] : List ByteArray), ([] : List ByteArray), ⟨#[97]⟩, max 5 0⟩ : HistD) ⟨#[98]⟩).1) ⟨#[99]⟩).1)).1) ⟨#[100]⟩).1.next).length) nc2_4, .string ((doH ((undoH ((doH ((doH (⟨([] : List ByteArray), ([] : List ByteArray), ⟨#[97]⟩, max 5 0⟩ : HistD) ⟨#[98]⟩).1) ⟨#[99]⟩).1)).1) ⟨#[100]⟩).1.now), .int .i64 ((doH ((undoH ((doH ((doH (⟨([] : List ByteArray), ([] : List ByteArray), ⟨#[97]⟩, max 5 0⟩ : HistD) ⟨#[98]⟩).1) ⟨#[99]⟩).1)).1) ⟨#[100]⟩).1.most)] 79, rowT tyS (.slice pa2_4 (((doH ((undoH ((doH ((doH (⟨([] : List ByteArray), ([] : List ByteArray), ⟨#[97]⟩, max 5 0⟩ : HistD) ⟨#[98]⟩).1) ⟨#[99]⟩).1)).1) ⟨#[100]⟩).1.past).length) pc2_4) 9 ((doH ((undoH ((doH ((doH (⟨([] : List ByteArray), ([] : List ByteArray), ⟨#[97]⟩, max 5 0⟩ : HistD) ⟨#[98]⟩).1) ⟨#[99]⟩).1)).1) ⟨#[100]⟩).1.past), rowT tyS (.slice na2_4 (((doH ((undoH ((doH ((doH (⟨([] : List ByteArray), ([] : List ByteArray), ⟨#[97]⟩, max 5 0⟩ : HistD) ⟨#[98]⟩).1) ⟨#[99]⟩).1)).1) ⟨#[100]⟩).1.next).length) nc2_4) 9 ((doH ((undoH ((doH ((doH (⟨([] : List ByteArray), ([] : List ByteArray), ⟨#[97]⟩, max 5 0⟩ : HistD) ⟨#[98]⟩).1) ⟨#[99]⟩).1)).1) ⟨#[100]⟩).1.next)]) (C := [rowT tyS (.slice a2_1 ((allH ((doH ((undoH ((doH ((doH (⟨([] : List ByteArray), ([] : List ByteArray), ⟨#[97]⟩, max 5 0⟩ : HistD) ⟨#[98]⟩).1) ⟨#[99]⟩).1)).1) ⟨#[100]⟩).1)).length) c2_1) 9 (allH ((doH ((undoH ((doH ((doH (⟨([] : List ByteArray), ([] : List ByteArray), ⟨#[97]⟩, max 5 0⟩ : HistD) ⟨#[98]⟩).1) ⟨#[99]⟩).1)).1) ⟨#[100]⟩).1))]) 0 rfl u6).re rfl
  refine WL.op rfl (d_assign rfl ?_)
  refine WL.done (X.then_code ?_)
  refine W.seq ?_
  refine W.region ?_
  refine WL.op rfl (d_move rfl ?_)
  refine WL.op rfl (d_cmp (decide (((doH (⟨([] : List ByteArray), ([] : List ByteArray), ⟨#[97]⟩, max 5 0⟩ : HistD) ⟨#[98]⟩).2) = (0 : Int))) rfl rfl rfl ?_)
  refine WL.op rfl (d_move rfl ?_)
  refine WL.part 24 (p := ((doH (⟨([] : List ByteArray), ([] : List ByteArray), ⟨#[97]⟩, max 5 0⟩ : HistD) ⟨#[98]⟩).2) = (0 : Int)) rfl (fun g17 => ?_) (fun g17 => ?_)
  · skip
    refine WL.opG rfl rfl rfl (d_move rfl ?_)
    refine WL.opG rfl rfl rfl (d_cmp (decide (((doH ((doH (⟨([] : List ByteArray), ([] : List ByteArray), ⟨#[97]⟩, max 5 0⟩ : HistD) ⟨#[98]⟩).1) ⟨#[99]⟩).2) = (0 : Int))) rfl rfl rfl ?_)
    refine WL.op rfl (d_pick rfl rfl ?_)
    refine WL.op rfl (d_move rfl ?_)
    refine WL.part 28 (p := ((doH ((doH (⟨([] : List ByteArray), ([] : List ByteArray), ⟨#[97]⟩, max 5 0⟩ : HistD) ⟨#[98]⟩).1) ⟨#[99]⟩).2) = (0 : Int)) rfl (fun g17x => ?_) (fun g17x => ?_)
    · skip
      refine WL.opG rfl rfl rfl (d_move rfl ?_)
      refine WL.opG rfl rfl rfl (d_streq rfl rfl ?_)
      refine WL.op rfl (d_pick rfl rfl ?_)
      refine WL.op rfl (d_move rfl ?_)
      refine WL.part 32 (p := ((undoH ((doH ((doH (⟨([] : List ByteArray), ([] : List ByteArray), ⟨#[97]⟩, max 5 0⟩ : HistD) ⟨#[98]⟩).1) ⟨#[99]⟩).1)).2.1) = ⟨#[98]⟩) rfl (fun g17xx => ?_) (fun g17xx => ?_)
      · skip
        refine WL.opG rfl rfl rfl (d_move rfl ?_)
        refine WL.opG rfl rfl rfl (d_cmp (decide (((undoH ((doH ((doH (⟨([] : List ByteArray), ([] : List ByteArray), ⟨#[97]⟩, max 5 0⟩ : HistD) ⟨#[98]⟩).1) ⟨#[99]⟩).1)).2.2) = (0 : Int))) rfl rfl rfl ?_)
        refine WL.op rfl (d_pick rfl rfl ?_)
        refine WL.op rfl (d_move rfl ?_)
        refine WL.part 36 (p := ((undoH ((doH ((doH (⟨([] : List ByteArray), ([] : List ByteArray), ⟨#[97]⟩, max 5 0⟩ : HistD) ⟨#[98]⟩).1) ⟨#[99]⟩).1)).2.2) = (0 : Int)) rfl (fun g17xxx => ?_) (fun g17xxx => ?_)
        · skip
          refine WL.opG rfl rfl rfl (d_move rfl ?_)
          refine WL.opG rfl rfl rfl (d_cmp (decide (((doH ((undoH ((doH ((doH (⟨([] : List ByteArray), ([] : List ByteArray), ⟨#[97]⟩, max 5 0⟩ : HistD) ⟨#[98]⟩).1) ⟨#[99]⟩).1)).1) ⟨#[100]⟩).2) = (0 : Int))) rfl rfl rfl ?_)
          refine WL.op rfl (d_pick rfl rfl ?_)
          refine WL.op rfl (d_move rfl ?_)
          refine WL.part 40 (p := ((doH ((undoH ((doH ((doH (⟨([] : List ByteArray), ([] : List ByteArray), ⟨#[97]⟩, max 5 0⟩ : HistD) ⟨#[98]⟩).1) ⟨#[99]⟩).1)).1) ⟨#[100]⟩).2) = (0 : Int)) rfl (fun g17xxxx => ?_) (fun g17xxxx => ?_)
          · skip
            refine WL.opG rfl rfl rfl (d_move rfl ?_)
            refine WL.opG rfl rfl rfl (t_buildSlice (T := tyS) (xs := [(⟨#[97]⟩ : ByteArray), (⟨#[98]⟩ : ByteArray), (⟨#[100]⟩ : ByteArray)]) (cs := #[.string ⟨#[97]⟩, .string ⟨#[98]⟩, .string ⟨#[100]⟩]) rfl Try.underlying26 sz9 rfl rfl rfl rfl (by kernel_rfl) rfl rfl fun w7 u7 => ?_)
            have H7 : UpG w [] w7 [[blk g_1 #[.slice pa2_4 (((doH ((undoH ((doH ((doH (⟨([] : List ByteArray), ([] : List ByteArray), ⟨#[97]⟩, max 5 0⟩ : HistD) ⟨#[98]⟩).1) ⟨#[99]⟩).1)).1) ⟨#[100]⟩).1.past).length) pc2_4, .slice na2_4 (((doH ((undoH ((doH ((doH (⟨([] : List ByteArray), ([] : List ByteArray), ⟨#[97]⟩, max 5 0⟩ : HistD) ⟨#[98]⟩).1) ⟨#[99]⟩).1)).1) ⟨#[100]⟩).1.next).length) nc2_4, .string ((doH ((undoH ((doH ((doH (⟨([] : List ByteArray), ([] : List ByteArray), ⟨#[97]⟩, max 5 0⟩ : HistD) ⟨#[98]⟩).1) ⟨#[99]⟩).1)).1) ⟨#[100]⟩).1.now), .int .i64 ((doH ((undoH ((doH ((doH (⟨([] : List ByteArray), ([] : List ByteArray), ⟨#[97]⟩, max 5 0⟩ : HistD) ⟨#[98]⟩).1) ⟨#[99]⟩).1)).1) ⟨#[100]⟩).1.most)] 79, rowT tyS (.slice pa2_4 (((doH ((undoH ((doH ((doH (⟨([] : List ByteArray), ([] : List ByteArray), ⟨#[97]⟩, max 5 0⟩ : HistD) ⟨#[98]⟩).1) ⟨#[99]⟩).1)).1) ⟨#[100]⟩).1.past).length) pc2_4) 9 ((doH ((undoH ((doH ((doH (⟨([] : List ByteArray), ([] : List ByteArray), ⟨#[97]⟩, max 5 0⟩ : HistD) ⟨#[98]⟩).1) ⟨#[99]⟩).1)).1) ⟨#[100]⟩).1.past), rowT tyS (.slice na2_4 (((doH ((undoH ((doH ((doH (⟨([] : List ByteArray), ([] : List ByteArray), ⟨#[97]⟩, max 5 0⟩ : HistD) ⟨#[98]⟩).1) ⟨#[99]⟩).1)).1) ⟨#[100]⟩).1.next).length) nc2_4) 9 ((doH ((undoH ((doH ((doH (⟨([] : List ByteArray), ([] : List ByteArray), ⟨#[97]⟩, max 5 0⟩ : HistD) ⟨#[98]⟩).1) ⟨#[99]⟩).1)).1) ⟨#[100]⟩).1.next)], [rowT tyS (.slice a2_1 ((allH ((doH ((undoH ((doH ((doH (⟨([] : List ByteArray), ([] : List ByteArray), ⟨#[97]⟩, max 5 0⟩ : HistD) ⟨#[98]⟩).1) ⟨#[99]⟩).1)).1) ⟨#[100]⟩).1)).length) c2_1) 9 (allH ((doH ((undoH ((doH ((doH (⟨([] : List ByteArray), ([] : List ByteArray), ⟨#[97]⟩, max 5 0⟩ : HistD) ⟨#[98]⟩).1) ⟨#[99]⟩).1)).1) ⟨#[100]⟩).1))], [rowT tyS (.slice (some ⟨w6.heap.size, 0, none⟩) ([(⟨#[97]⟩ : ByteArray), (⟨#[98]⟩ : ByteArray), (⟨#[100]⟩ : ByteArray)].length) ([(⟨#[97]⟩ : ByteArray), (⟨#[98]⟩ : ByteArray), (⟨#[100]⟩ : ByteArray)].length)) 9 [(⟨#[97]⟩ : ByteArray), (⟨#[98]⟩ : ByteArray), (⟨#[100]⟩ : ByteArray)]]] := H6.new' u7
            refine WL.opG rfl rfl rfl (d_call ok19 rfl (Ret.calls (same_any a2_1 (allH ((doH ((undoH ((doH ((doH (⟨([] : List ByteArray), ([] : List ByteArray), ⟨#[97]⟩, max 5 0⟩ : HistD) ⟨#[98]⟩).1) ⟨#[99]⟩).1)).1) ⟨#[100]⟩).1)) c2_1 (some ⟨w6.heap.size, 0, none⟩) [(⟨#[97]⟩ : ByteArray), (⟨#[98]⟩ : ByteArray), (⟨#[100]⟩ : ByteArray)] ([(⟨#[97]⟩ : ByteArray), (⟨#[98]⟩ : ByteArray), (⟨#[100]⟩ : ByteArray)].length) w7 (H7.rdT 1 rfl) (H7.rdT 2 rfl) ) fun _ w8 p7 => ?_))
            obtain ⟨rfl, u8⟩ := p7
            have H8 : UpG w [] w8 [[blk g_1 #[.slice pa2_4 (((doH ((undoH ((doH ((doH (⟨([] : List ByteArray), ([] : List ByteArray), ⟨#[97]⟩, max 5 0⟩ : HistD) ⟨#[98]⟩).1) ⟨#[99]⟩).1)).1) ⟨#[100]⟩).1.past).length) pc2_4, .slice na2_4 (((doH ((undoH ((doH ((doH (⟨([] : List ByteArray), ([] : List ByteArray), ⟨#[97]⟩, max 5 0⟩ : HistD) ⟨#[98]⟩).1) ⟨#[99]⟩).1)).1) ⟨#[100]⟩).1.next).length) nc2_4, .string ((doH ((undoH ((doH ((doH (⟨([] : List ByteArray), ([] : List ByteArray), ⟨#[97]⟩, max 5 0⟩ : HistD) ⟨#[98]⟩).1) ⟨#[99]⟩).1)).1) ⟨#[100]⟩).1.now), .int .i64 ((doH ((undoH ((doH ((doH (⟨([] : List ByteArray), ([] : List ByteArray), ⟨#[97]⟩, max 5 0⟩ : HistD) ⟨#[98]⟩).1) ⟨#[99]⟩).1)).1) ⟨#[100]⟩).1.most)] 79, rowT tyS (.slice pa2_4 (((doH ((undoH ((doH ((doH (⟨([] : List ByteArray), ([] : List ByteArray), ⟨#[97]⟩, max 5 0⟩ : HistD) ⟨#[98]⟩).1) ⟨#[99]⟩).1)).1) ⟨#[100]⟩).1.past).length) pc2_4) 9 ((doH ((undoH ((doH ((doH (⟨([] : List ByteArray), ([] : List ByteArray), ⟨#[97]⟩, max 5 0⟩ : HistD) ⟨#[98]⟩).1) ⟨#[99]⟩).1)).1) ⟨#[100]⟩).1.past), rowT tyS (.slice na2_4 (((doH ((undoH ((doH ((doH (⟨([] : List ByteArray), ([] : List ByteArray), ⟨#[97]⟩, max 5 0⟩ : HistD) ⟨#[98]⟩).1) ⟨#[99]⟩).1)).1) ⟨#[100]⟩).1.next).length) nc2_4) 9 ((doH ((undoH ((doH ((doH (⟨([] : List ByteArray), ([] : List ByteArray), ⟨#[97]⟩, max 5 0⟩ : HistD) ⟨#[98]⟩).1) ⟨#[99]⟩).1)).1) ⟨#[100]⟩).1.next)], [rowT tyS (.slice a2_1 ((allH ((doH ((undoH ((doH ((doH (⟨([] : List ByteArray), ([] : List ByteArray), ⟨#[97]⟩, max 5 0⟩ : HistD) ⟨#[98]⟩).1) ⟨#[99]⟩).1)).1) ⟨#[100]⟩).1)).length) c2_1) 9 (allH ((doH ((undoH ((doH ((doH (⟨([] : List ByteArray), ([] : List ByteArray), ⟨#[97]⟩, max 5 0⟩ : HistD) ⟨#[98]⟩).1) ⟨#[99]⟩).1)).1) ⟨#[100]⟩).1))], [rowT tyS (.slice (some ⟨w6.heap.size, 0, none⟩) ([(⟨#[97]⟩ : ByteArray), (⟨#[98]⟩ : ByteArray), (⟨#[100]⟩ : ByteArray)].length) ([(⟨#[97]⟩ : ByteArray), (⟨#[98]⟩ : ByteArray), (⟨#[100]⟩ : ByteArray)].length)) 9 [(⟨#[97]⟩ : ByteArray), (⟨#[98]⟩ : ByteArray), (⟨#[100]⟩ : ByteArray)]]] := H7.call u8
            refine WL.op rfl (d_pick rfl rfl ?_)
            refine WL.op rfl (d_assign rfl ?_)
            refine WL.done (X.then_code ?_)
            refine W.pick [0] (Γ' := [(0, .bool (decide ((allH ((doH ((undoH ((doH ((doH (⟨([] : List ByteArray), ([] : List ByteArray), ⟨#[97]⟩, max 5 0⟩ : HistD) ⟨#[98]⟩).1) ⟨#[99]⟩).1)).1) ⟨#[100]⟩).1)) = [(⟨#[97]⟩ : ByteArray), (⟨#[98]⟩ : ByteArray), (⟨#[100]⟩ : ByteArray)])))]) rfl ?_
            refine W.ret (X.ret1 rfl rfl ?_)
            exact ⟨(by rw [decide_eq_true (by decide)]), H8.noneL⟩
          · skip
            exact absurd (by decide) g17xxxx
        · skip
          exact absurd (by decide) g17xxx
      · skip
        exact absurd (by decide) g17xx
    · skip
      exact absurd (by decide) g17x
  · skip
    exact absurd (by decide) g17

set_option maxRecDepth 20000 in
theorem plays_any (first : ByteArray) (most : Int) (la : Option Addr) (l : List DeedD) (lc : Nat) (w : World) (rl : RdT tyDeed w (.slice la l.length lc) l) (hk : ∀ i, i < l.length → 0 ≤ (l.getD i deed0).kind ∧ (l.getD i deed0).kind ≤ 255) :
    Calls Try.prog 3 #[.string first, .int .i64 most, .slice la l.length lc] w (Ret fun v w' => v = .bool true ∧ Upd w [] w' []) := by
  have le_rl := rl.le
  refine calls_of_W (args := [.string first, .int .i64 most, .slice la l.length lc]) Try.func3 rfl rfl rfl ?_
  have H0 : UpG w [] w [] := UpG.nil w
  show W _ _ _ _ [(0, .string first), (1, .int .i64 most), (2, .slice la l.length lc)] w
  refine W.seq ?_
  refine W.region ?_
  refine WL.op rfl (d_assign rfl ?_)
  refine WL.done (X.then_code ?_)
  refine W.seq ?_
  refine W.seq ?_
  refine W.region ?_
  refine WL.op rfl (d_call ok11 rfl (Ret.calls (awake_any  w  ) fun _ w1 p1 => ?_))
  obtain ⟨rfl, u1⟩ := p1
  have H1 : UpG w [] w1 [] := H0.call u1
  refine WL.op rfl (d_notB rfl ?_)
  refine WL.done (X.then_code ?_)
  refine W.iff rfl ?_
  refine W.skip (X.then_code ?_)
  refine W.seq ?_
  refine W.region ?_
  refine WL.op rfl (d_move rfl ?_)
  refine WL.op rfl (d_move rfl ?_)
  refine WL.op rfl (d_call ok12 rfl (Ret.calls (new_any first most w1  ) fun _ w2 p2 => ?_))
  obtain ⟨g_1, rfl, u2⟩ := p2
  have H2 : UpG w [] w2 [[blk g_1 #[.slice none (([] : List ByteArray).length) 0, .slice none (([] : List ByteArray).length) 0, .string first, .int .i64 (max most 0)] 79, rowT tyS (.slice none (([] : List ByteArray).length) 0) 9 ([] : List ByteArray), rowT tyS (.slice none (([] : List ByteArray).length) 0) 9 ([] : List ByteArray)]] := (H1.new' u2).re rfl
  refine WL.op rfl (d_assign rfl ?_)
  refine WL.done (X.then_code ?_)
  refine W.seq ?_
  refine W.region ?_
  refine WL.op rfl (d_move rfl ?_)
  refine WL.op rfl (t_buildSlice (T := tyS) (xs := [first]) (cs := #[.string first]) rfl Try.underlying26 sz9 rfl rfl rfl rfl (by kernel_rfl) rfl rfl fun w3 u3 => ?_)
  have H3 : UpG w [] w3 [[blk g_1 #[.slice none (([] : List ByteArray).length) 0, .slice none (([] : List ByteArray).length) 0, .string first, .int .i64 (max most 0)] 79, rowT tyS (.slice none (([] : List ByteArray).length) 0) 9 ([] : List ByteArray), rowT tyS (.slice none (([] : List ByteArray).length) 0) 9 ([] : List ByteArray)], [rowT tyS (.slice (some ⟨w2.heap.size, 0, none⟩) ([first].length) ([first].length)) 9 [first]]] := H2.new' u3
  refine WL.op rfl (d_move rfl ?_)
  refine WL.op rfl (d_build (cs := #[.slice (some ⟨w2.heap.size, 0, none⟩) ([first].length) ([first].length), .int .i64 0, .int .i64 most]) rfl (by kernel_rfl) ?_)
  refine WL.op rfl (d_alloc sz28 fun w4 u4 => ?_)
  have H4 : UpG w [] w4 [[blk g_1 #[.slice none (([] : List ByteArray).length) 0, .slice none (([] : List ByteArray).length) 0, .string first, .int .i64 (max most 0)] 79, rowT tyS (.slice none (([] : List ByteArray).length) 0) 9 ([] : List ByteArray), rowT tyS (.slice none (([] : List ByteArray).length) 0) 9 ([] : List ByteArray)], [rowT tyS (.slice (some ⟨w2.heap.size, 0, none⟩) ([first].length) ([first].length)) 9 [first]], [blk w3.heap.size #[.slice none 0 0, .int .i64 0, .int .i64 0] 28]] := H3.new' u4
  refine WL.op0 (d_storeAB (us := [.slice (some ⟨w2.heap.size, 0, none⟩) ([first].length) ([first].length), .int .i64 0, .int .i64 most]) (cs' := #[.slice (some ⟨w2.heap.size, 0, none⟩) ([first].length) ([first].length), .int .i64 0, .int .i64 most]) sz28 rfl rfl rfl rfl (H4.blk 2 rfl) rfl rfl fun w5 u5 => ?_)
  have H5 : UpG w [] w5 [[blk g_1 #[.slice none (([] : List ByteArray).length) 0, .slice none (([] : List ByteArray).length) 0, .string first, .int .i64 (max most 0)] 79, rowT tyS (.slice none (([] : List ByteArray).length) 0) 9 ([] : List ByteArray), rowT tyS (.slice none (([] : List ByteArray).length) 0) 9 ([] : List ByteArray)], [rowT tyS (.slice (some ⟨w2.heap.size, 0, none⟩) ([first].length) ([first].length)) 9 [first]], [blk w3.heap.size #[.slice (some ⟨w2.heap.size, 0, none⟩) ([first].length) ([first].length), .int .i64 0, .int .i64 most] 28]] := H4.on 2 rfl u5
  refine WL.done (X.then_code ?_)
  refine W.seq ?_
  refine W.seq ?_
  refine W.region ?_
  refine WL.op rfl (d_assign rfl ?_)
  refine WL.done (X.then_code ?_)
  refine W.block ?_
  refine W.pick [9, 8, 7, 6, 2] (Γ' := [(9, .int .i64 0), (8, .pointer (some ⟨w3.heap.size, 0, none⟩)), (7, .pointer (some ⟨g_1, 0, none⟩)), (6, .bool false), (2, .slice la l.length lc)]) rfl ?_
  refine W.loop (fun m Γ' w' => ∃ i : Nat, ∃ h : HistD, ∃ r : RowD, ∃ pa : Option Addr, ∃ pc : Nat, ∃ na : Option Addr, ∃ nc : Nat, ∃ ra : Option Addr, ∃ rc : Nat, Γ' = [(9, .int .i64 ((i : Nat) : Int)), (8, .pointer (some ⟨w3.heap.size, 0, none⟩)), (7, .pointer (some ⟨g_1, 0, none⟩)), (6, .bool false), (2, .slice la l.length lc)] ∧ UpG w [] w' [[blk g_1 #[.slice pa h.past.length pc, .slice na h.next.length nc, .string h.now, .int .i64 h.most] 79, rowT tyS (.slice pa h.past.length pc) 9 h.past, rowT tyS (.slice na h.next.length nc) 9 h.next], [rowT tyS (.slice ra r.l.length rc) 9 r.l], [blk w3.heap.size #[.slice ra r.l.length rc, .int .i64 ((r.at_ : Nat) : Int), .int .i64 r.most] 28]] ∧ (i ≤ 60) ∧ (Rel h r) ∧ (h.past.length + h.next.length ≤ i) ∧ m = 60 - i) (60 - 0) ⟨0, (⟨[], [], first, max most 0⟩ : HistD), (⟨[first], 0, most⟩ : RowD), none, 0, none, 0, (some ⟨w2.heap.size, 0, none⟩), [first].length, rfl, (H5.re rfl), (by omega), (by exact rel_new _ _), (by simp), rfl⟩ ?_
  rintro m1 Γ1 w6 ⟨i, h, r, pa, pc, na, nc, ra, rc, rfl, H6, hi, hr, hlen, rfl⟩
  refine W.seq ?_
  refine W.seq ?_
  refine W.region ?_
  refine WL.op rfl (d_move rfl ?_)
  refine WL.op rfl (d_move rfl ?_)
  refine WL.op rfl (d_lenS Try.underlying22 rfl ?_)
  refine WL.op rfl (d_cmp (decide (((i : Nat) : Int) < ((l.length : Nat) : Int))) rfl rfl rfl ?_)
  refine WL.op rfl (d_move rfl ?_)
  refine WL.part 24 (p := ((i : Nat) : Int) < ((l.length : Nat) : Int)) rfl (fun g66 => ?_) (fun g66 => ?_)
  · skip
    refine WL.opG rfl rfl rfl (d_move rfl ?_)
    refine WL.opG rfl rfl rfl (d_cmp (decide (((i : Nat) : Int) < (60 : Int))) rfl rfl rfl ?_)
    refine WL.op rfl (d_pick rfl rfl ?_)
    refine WL.done (X.then_code ?_)
    refine W.ite (p := ((i : Nat) : Int) < (60 : Int)) rfl (fun c66 => ?_) (fun c66 => ?_)
    · skip
      refine W.skip (X.then_code ?_)
      refine W.seq ?_
      refine W.block ?_
      refine W.seq ?_
      refine W.region ?_
      refine WL.op rfl (d_assign rfl ?_)
      refine WL.done (X.then_code ?_)
      refine W.seq ?_
      refine W.regionD mixed (by kernel_rfl) fun hok1 w7 k1 => ?_
      have H7 : UpG w [] w7 [[blk g_1 #[.slice pa h.past.length pc, .slice na h.next.length nc, .string h.now, .int .i64 h.most] 79, rowT tyS (.slice pa h.past.length pc) 9 h.past, rowT tyS (.slice na h.next.length nc) 9 h.next], [rowT tyS (.slice ra r.l.length rc) 9 r.l], [blk w3.heap.size #[.slice ra r.l.length rc, .int .i64 ((r.at_ : Nat) : Int), .int .i64 r.most] 28]] := H6.kept k1
      refine WD.take hok1 0 (.pointer (some ⟨g_1, 0, none⟩)) (fun _ => True) rfl rfl rfl rfl rfl trivial (.inl ⟨rfl, fun _ _ => d_move rfl ⟨rfl, rfl⟩⟩) ?_
      refine WD.take hok1 1 (.agg #[.slice ra r.l.length rc, .int .i64 ((r.at_ : Nat) : Int), .int .i64 r.most]) (fun w' => w'.heap[w3.heap.size]? = some (.cells #[.slice ra r.l.length rc, .int .i64 ((r.at_ : Nat) : Int), .int .i64 r.most] 28 (0, 0))) rfl rfl rfl rfl rfl (H7.blk 2 rfl) (.inl ⟨rfl, fun _ hC => d_loadAB [.slice ra r.l.length rc, .int .i64 ((r.at_ : Nat) : Int), .int .i64 r.most] Try.underlying28 rfl sz28 rfl hC rfl rfl ⟨rfl, rfl⟩⟩) ?_
      refine WD.take hok1 2 (.slice la l.length lc) (fun _ => True) rfl rfl rfl rfl rfl trivial (.inl ⟨rfl, fun _ _ => d_move rfl ⟨rfl, rfl⟩⟩) ?_
      refine WD.take hok1 3 (.int .i64 ((i : Nat) : Int)) (fun _ => True) rfl rfl rfl rfl rfl trivial (.inl ⟨rfl, fun _ _ => d_move rfl ⟨rfl, rfl⟩⟩) ?_
      refine WD.take hok1 4 (elemPtr (.slice la l.length lc) (i * 2)) (fun w' => RdT tyDeed w' (.slice la l.length lc) l) rfl rfl rfl rfl rfl (rl.at H7) (.inl ⟨rfl, fun _ hC => t_addrN i (T := tyDeed) rfl Try.underlying22 sz32 rfl rfl hC rfl (by omega) ⟨rfl, rfl⟩⟩) ?_
      refine WD.take hok1 5 (.agg #[.int .u8 ((l.getD i deed0).kind), .string ((l.getD i deed0).text)]) (fun w' => RdT tyDeed w' (.slice la l.length lc) l) rfl rfl rfl rfl rfl (rl.at H7) (.inl ⟨rfl, fun _ hC => t_loadN i deed0 (T := tyDeed) (us := [.int .u8 ((l.getD i deed0).kind), .string ((l.getD i deed0).text)]) rfl Try.underlying32 rfl sz32 rfl hC (by omega) rfl ⟨rfl, rfl⟩⟩) ?_
      refine WD.loud hok1 6 rfl (⟨_, [], rfl, rfl, rfl, rfl, rfl, rfl, d_call ok13 rfl (Ret.calls (ldo_any h g_1 pa pc na nc r ra rc (l.getD i deed0) w7 (H7.hp2 0 1 rfl rfl rfl)  hr (by omega) (hk _ (by omega))) fun _ w8 p3 => ?_)⟩)
      obtain ⟨pa2_1, pc2_1, na2_1, nc2_1, ra2_1, rc2_1, rfl, u6⟩ := p3
      have H8 : UpG w [] w8 [[blk g_1 #[.slice pa2_1 (((stepH h ((l.getD i deed0).kind) ((l.getD i deed0).text)).past).length) pc2_1, .slice na2_1 (((stepH h ((l.getD i deed0).kind) ((l.getD i deed0).text)).next).length) nc2_1, .string ((stepH h ((l.getD i deed0).kind) ((l.getD i deed0).text)).now), .int .i64 ((stepH h ((l.getD i deed0).kind) ((l.getD i deed0).text)).most)] 79, rowT tyS (.slice pa2_1 (((stepH h ((l.getD i deed0).kind) ((l.getD i deed0).text)).past).length) pc2_1) 9 ((stepH h ((l.getD i deed0).kind) ((l.getD i deed0).text)).past), rowT tyS (.slice na2_1 (((stepH h ((l.getD i deed0).kind) ((l.getD i deed0).text)).next).length) nc2_1) 9 ((stepH h ((l.getD i deed0).kind) ((l.getD i deed0).text)).next)], [rowT tyS (.slice ra2_1 (((stepR r ((l.getD i deed0).kind) ((l.getD i deed0).text)).l).length) rc2_1) 9 ((stepR r ((l.getD i deed0).kind) ((l.getD i deed0).text)).l)], [blk w3.heap.size #[.slice ra r.l.length rc, .int .i64 ((r.at_ : Nat) : Int), .int .i64 r.most] 28]] := (H7.on2 (A' := [blk g_1 #[.slice pa2_1 (((stepH h ((l.getD i deed0).kind) ((l.getD i deed0).text)).past).length) pc2_1, .slice na2_1 (((stepH h ((l.getD i deed0).kind) ((l.getD i deed0).text)).next).length) nc2_1, .string ((stepH h ((l.getD i deed0).kind) ((l.getD i deed0).text)).now), .int .i64 ((stepH h ((l.getD i deed0).kind) ((l.getD i deed0).text)).most)] 79, rowT tyS (.slice pa2_1 (((stepH h ((l.getD i deed0).kind) ((l.getD i deed0).text)).past).length) pc2_1) 9 ((stepH h ((l.getD i deed0).kind) ((l.getD i deed0).text)).past), rowT tyS (.slice na2_1 (((stepH h ((l.getD i deed0).kind) ((l.getD i deed0).text)).next).length) nc2_1) 9 ((stepH h ((l.getD i deed0).kind) ((l.getD i deed0).text)).next)]) (B' := [rowT tyS (.slice ra2_1 (((stepR r ((l.getD i deed0).kind) ((l.getD i deed0).text)).l).length) rc2_1) 9 ((stepR r ((l.getD i deed0).kind) ((l.getD i deed0).text)).l)]) (C := []) 0 1 rfl rfl rfl u6).re rfl
      refine ⟨trivial, ?_⟩
      refine WD.take hok1 7 (.tuple #[.agg #[.slice ra2_1 (((stepR r ((l.getD i deed0).kind) ((l.getD i deed0).text)).l).length) rc2_1, .int .i64 (((stepR r ((l.getD i deed0).kind) ((l.getD i deed0).text)).at_ : Nat) : Int), .int .i64 ((stepR r ((l.getD i deed0).kind) ((l.getD i deed0).text)).most)], .int .i64 0]) (fun _ => True) rfl rfl rfl rfl rfl trivial (.inl ⟨rfl, fun _ _ => d_move rfl ⟨rfl, rfl⟩⟩) ?_
      refine WD.take hok1 8 (.agg #[.slice ra2_1 (((stepR r ((l.getD i deed0).kind) ((l.getD i deed0).text)).l).length) rc2_1, .int .i64 (((stepR r ((l.getD i deed0).kind) ((l.getD i deed0).text)).at_ : Nat) : Int), .int .i64 ((stepR r ((l.getD i deed0).kind) ((l.getD i deed0).text)).most)]) (fun _ => True) rfl rfl rfl rfl rfl trivial (.inl ⟨rfl, fun _ _ => d_extract rfl rfl ⟨rfl, rfl⟩⟩) ?_
      refine WD.take hok1 9 (.int .i64 0) (fun _ => True) rfl rfl rfl rfl rfl trivial (.inl ⟨rfl, fun _ _ => d_extract rfl rfl ⟨rfl, rfl⟩⟩) ?_
      refine WD.loud hok1 10 rfl (⟨_, [⟨9, .int .i64 0, (fun _ => True)⟩], rfl, rfl, rfl, rfl, rfl, rfl, d_storeAB (us := [.slice ra2_1 (((stepR r ((l.getD i deed0).kind) ((l.getD i deed0).text)).l).length) rc2_1, .int .i64 (((stepR r ((l.getD i deed0).kind) ((l.getD i deed0).text)).at_ : Nat) : Int), .int .i64 ((stepR r ((l.getD i deed0).kind) ((l.getD i deed0).text)).most)]) (cs' := #[.slice ra2_1 (((stepR r ((l.getD i deed0).kind) ((l.getD i deed0).text)).l).length) rc2_1, .int .i64 (((stepR r ((l.getD i deed0).kind) ((l.getD i deed0).text)).at_ : Nat) : Int), .int .i64 ((stepR r ((l.getD i deed0).kind) ((l.getD i deed0).text)).most)]) sz28 rfl rfl rfl rfl (H8.blk 2 rfl) rfl rfl fun w9 u7 => ?_⟩)
      have H9 : UpG w [] w9 [[blk g_1 #[.slice pa2_1 (((stepH h ((l.getD i deed0).kind) ((l.getD i deed0).text)).past).length) pc2_1, .slice na2_1 (((stepH h ((l.getD i deed0).kind) ((l.getD i deed0).text)).next).length) nc2_1, .string ((stepH h ((l.getD i deed0).kind) ((l.getD i deed0).text)).now), .int .i64 ((stepH h ((l.getD i deed0).kind) ((l.getD i deed0).text)).most)] 79, rowT tyS (.slice pa2_1 (((stepH h ((l.getD i deed0).kind) ((l.getD i deed0).text)).past).length) pc2_1) 9 ((stepH h ((l.getD i deed0).kind) ((l.getD i deed0).text)).past), rowT tyS (.slice na2_1 (((stepH h ((l.getD i deed0).kind) ((l.getD i deed0).text)).next).length) nc2_1) 9 ((stepH h ((l.getD i deed0).kind) ((l.getD i deed0).text)).next)], [rowT tyS (.slice ra2_1 (((stepR r ((l.getD i deed0).kind) ((l.getD i deed0).text)).l).length) rc2_1) 9 ((stepR r ((l.getD i deed0).kind) ((l.getD i deed0).text)).l)], [blk w3.heap.size #[.slice ra2_1 (((stepR r ((l.getD i deed0).kind) ((l.getD i deed0).text)).l).length) rc2_1, .int .i64 (((stepR r ((l.getD i deed0).kind) ((l.getD i deed0).text)).at_ : Nat) : Int), .int .i64 ((stepR r ((l.getD i deed0).kind) ((l.getD i deed0).text)).most)] 28]] := H8.on 2 rfl u7
      refine ⟨⟨trivial, trivial⟩, ?_⟩
      refine WD.take hok1 11 (.int .i64 0) (fun _ => True) rfl rfl rfl rfl rfl trivial (.inl ⟨rfl, fun _ _ => d_assign rfl ⟨rfl, rfl⟩⟩) ?_
      refine WD.done hok1 rfl (X.then_code ?_)
      refine W.pick [10, 39, 38, 30, 37, 36, 35, 34, 33, 32, 31, 27, 26, 25, 24, 23, 22, 21, 20, 9, 8, 7, 6, 2] (Γ' := [(10, .int .i64 0), (39, .int .i64 0), (38, .agg #[.slice ra2_1 (((stepR r ((l.getD i deed0).kind) ((l.getD i deed0).text)).l).length) rc2_1, .int .i64 (((stepR r ((l.getD i deed0).kind) ((l.getD i deed0).text)).at_ : Nat) : Int), .int .i64 ((stepR r ((l.getD i deed0).kind) ((l.getD i deed0).text)).most)]), (30, .tuple #[.agg #[.slice ra2_1 (((stepR r ((l.getD i deed0).kind) ((l.getD i deed0).text)).l).length) rc2_1, .int .i64 (((stepR r ((l.getD i deed0).kind) ((l.getD i deed0).text)).at_ : Nat) : Int), .int .i64 ((stepR r ((l.getD i deed0).kind) ((l.getD i deed0).text)).most)], .int .i64 0]), (37, .tuple #[.agg #[.slice ra2_1 (((stepR r ((l.getD i deed0).kind) ((l.getD i deed0).text)).l).length) rc2_1, .int .i64 (((stepR r ((l.getD i deed0).kind) ((l.getD i deed0).text)).at_ : Nat) : Int), .int .i64 ((stepR r ((l.getD i deed0).kind) ((l.getD i deed0).text)).most)], .int .i64 0]), (36, .agg #[.int .u8 ((l.getD i deed0).kind), .string ((l.getD i deed0).text)]), (35, elemPtr (.slice la l.length lc) (i * 2)), (34, .int .i64 ((i : Nat) : Int)), (33, .slice la l.length lc), (32, .agg #[.slice ra r.l.length rc, .int .i64 ((r.at_ : Nat) : Int), .int .i64 r.most]), (31, .pointer (some ⟨g_1, 0, none⟩)), (27, .bool (decide (((i : Nat) : Int) < (60 : Int)))), (26, .bool (decide (((i : Nat) : Int) < (60 : Int)))), (25, .int .i64 ((i : Nat) : Int)), (24, .bool true), (23, .bool (decide (((i : Nat) : Int) < ((l.length : Nat) : Int)))), (22, .int .i64 ((l.length : Nat) : Int)), (21, .slice la l.length lc), (20, .int .i64 ((i : Nat) : Int)), (9, .int .i64 ((i : Nat) : Int)), (8, .pointer (some ⟨w3.heap.size, 0, none⟩)), (7, .pointer (some ⟨g_1, 0, none⟩)), (6, .bool false), (2, .slice la l.length lc)]) rfl ?_
      refine W.seq ?_
      refine W.region ?_
      refine WL.op rfl (d_move rfl ?_)
      refine WL.op rfl (d_cmp (decide ((0 : Int) ≠ (0 : Int))) rfl rfl rfl ?_)
      refine WL.op rfl (d_move rfl ?_)
      refine WL.part 42 (p := (0 : Int) ≠ (0 : Int)) rfl (fun g68 => ?_) (fun g68 => ?_)
      · skip
        exfalso; omega
      · skip
        refine WL.opG rfl rfl rfl (d_move rfl ?_)
        refine WL.opG rfl rfl rfl (d_loadAB [.slice ra2_1 (((stepR r ((l.getD i deed0).kind) ((l.getD i deed0).text)).l).length) rc2_1, .int .i64 (((stepR r ((l.getD i deed0).kind) ((l.getD i deed0).text)).at_ : Nat) : Int), .int .i64 ((stepR r ((l.getD i deed0).kind) ((l.getD i deed0).text)).most)] Try.underlying28 rfl sz28 rfl (H9.blk 2 rfl) rfl rfl ?_)
        refine WL.opG rfl rfl rfl (d_call ok14 rfl (Ret.calls (lsame_any (stepH h ((l.getD i deed0).kind) ((l.getD i deed0).text)) g_1 pa2_1 pc2_1 na2_1 nc2_1 (stepR r ((l.getD i deed0).kind) ((l.getD i deed0).text)) ra2_1 rc2_1 w9 (H9.hp2 0 1 rfl rfl rfl)  (by first | exact hr | exact hr.step _ _) (by first | omega | (have := stepH_len h (l.getD i deed0).kind (l.getD i deed0).text; omega))) fun _ w10 p4 => ?_))
        obtain ⟨rfl, u8⟩ := p4
        have H10 : UpG w [] w10 [[blk g_1 #[.slice pa2_1 (((stepH h ((l.getD i deed0).kind) ((l.getD i deed0).text)).past).length) pc2_1, .slice na2_1 (((stepH h ((l.getD i deed0).kind) ((l.getD i deed0).text)).next).length) nc2_1, .string ((stepH h ((l.getD i deed0).kind) ((l.getD i deed0).text)).now), .int .i64 ((stepH h ((l.getD i deed0).kind) ((l.getD i deed0).text)).most)] 79, rowT tyS (.slice pa2_1 (((stepH h ((l.getD i deed0).kind) ((l.getD i deed0).text)).past).length) pc2_1) 9 ((stepH h ((l.getD i deed0).kind) ((l.getD i deed0).text)).past), rowT tyS (.slice na2_1 (((stepH h ((l.getD i deed0).kind) ((l.getD i deed0).text)).next).length) nc2_1) 9 ((stepH h ((l.getD i deed0).kind) ((l.getD i deed0).text)).next)], [rowT tyS (.slice ra2_1 (((stepR r ((l.getD i deed0).kind) ((l.getD i deed0).text)).l).length) rc2_1) 9 ((stepR r ((l.getD i deed0).kind) ((l.getD i deed0).text)).l)], [blk w3.heap.size #[.slice ra2_1 (((stepR r ((l.getD i deed0).kind) ((l.getD i deed0).text)).l).length) rc2_1, .int .i64 (((stepR r ((l.getD i deed0).kind) ((l.getD i deed0).text)).at_ : Nat) : Int), .int .i64 ((stepR r ((l.getD i deed0).kind) ((l.getD i deed0).text)).most)] 28]] := (H9.on2 (A' := [blk g_1 #[.slice pa2_1 (((stepH h ((l.getD i deed0).kind) ((l.getD i deed0).text)).past).length) pc2_1, .slice na2_1 (((stepH h ((l.getD i deed0).kind) ((l.getD i deed0).text)).next).length) nc2_1, .string ((stepH h ((l.getD i deed0).kind) ((l.getD i deed0).text)).now), .int .i64 ((stepH h ((l.getD i deed0).kind) ((l.getD i deed0).text)).most)] 79, rowT tyS (.slice pa2_1 (((stepH h ((l.getD i deed0).kind) ((l.getD i deed0).text)).past).length) pc2_1) 9 ((stepH h ((l.getD i deed0).kind) ((l.getD i deed0).text)).past), rowT tyS (.slice na2_1 (((stepH h ((l.getD i deed0).kind) ((l.getD i deed0).text)).next).length) nc2_1) 9 ((stepH h ((l.getD i deed0).kind) ((l.getD i deed0).text)).next)]) (B' := [rowT tyS (.slice ra2_1 (((stepR r ((l.getD i deed0).kind) ((l.getD i deed0).text)).l).length) rc2_1) 9 ((stepR r ((l.getD i deed0).kind) ((l.getD i deed0).text)).l)]) (C := []) 0 1 rfl rfl rfl u8).re rfl
        refine WL.opG rfl rfl rfl (d_notB rfl ?_)
        refine WL.op rfl (d_pick rfl rfl ?_)
        refine WL.done (X.then_code ?_)
        refine W.pick [47, 46, 45, 44, 43, 42, 41, 40, 10, 39, 38, 30, 37, 36, 35, 34, 33, 32, 31, 27, 26, 25, 24, 23, 22, 21, 20, 9, 8, 7, 6, 2] (Γ' := [(47, .bool false), (46, .bool false), (45, .bool true), (44, .agg #[.slice ra2_1 (((stepR r ((l.getD i deed0).kind) ((l.getD i deed0).text)).l).length) rc2_1, .int .i64 (((stepR r ((l.getD i deed0).kind) ((l.getD i deed0).text)).at_ : Nat) : Int), .int .i64 ((stepR r ((l.getD i deed0).kind) ((l.getD i deed0).text)).most)]), (43, .pointer (some ⟨g_1, 0, none⟩)), (42, .bool false), (41, .bool (decide ((0 : Int) ≠ (0 : Int)))), (40, .int .i64 0), (10, .int .i64 0), (39, .int .i64 0), (38, .agg #[.slice ra2_1 (((stepR r ((l.getD i deed0).kind) ((l.getD i deed0).text)).l).length) rc2_1, .int .i64 (((stepR r ((l.getD i deed0).kind) ((l.getD i deed0).text)).at_ : Nat) : Int), .int .i64 ((stepR r ((l.getD i deed0).kind) ((l.getD i deed0).text)).most)]), (30, .tuple #[.agg #[.slice ra2_1 (((stepR r ((l.getD i deed0).kind) ((l.getD i deed0).text)).l).length) rc2_1, .int .i64 (((stepR r ((l.getD i deed0).kind) ((l.getD i deed0).text)).at_ : Nat) : Int), .int .i64 ((stepR r ((l.getD i deed0).kind) ((l.getD i deed0).text)).most)], .int .i64 0]), (37, .tuple #[.agg #[.slice ra2_1 (((stepR r ((l.getD i deed0).kind) ((l.getD i deed0).text)).l).length) rc2_1, .int .i64 (((stepR r ((l.getD i deed0).kind) ((l.getD i deed0).text)).at_ : Nat) : Int), .int .i64 ((stepR r ((l.getD i deed0).kind) ((l.getD i deed0).text)).most)], .int .i64 0]), (36, .agg #[.int .u8 ((l.getD i deed0).kind), .string ((l.getD i deed0).text)]), (35, elemPtr (.slice la l.length lc) (i * 2)), (34, .int .i64 ((i : Nat) : Int)), (33, .slice la l.length lc), (32, .agg #[.slice ra r.l.length rc, .int .i64 ((r.at_ : Nat) : Int), .int .i64 r.most]), (31, .pointer (some ⟨g_1, 0, none⟩)), (27, .bool (decide (((i : Nat) : Int) < (60 : Int)))), (26, .bool (decide (((i : Nat) : Int) < (60 : Int)))), (25, .int .i64 ((i : Nat) : Int)), (24, .bool true), (23, .bool (decide (((i : Nat) : Int) < ((l.length : Nat) : Int)))), (22, .int .i64 ((l.length : Nat) : Int)), (21, .slice la l.length lc), (20, .int .i64 ((i : Nat) : Int)), (9, .int .i64 ((i : Nat) : Int)), (8, .pointer (some ⟨w3.heap.size, 0, none⟩)), (7, .pointer (some ⟨g_1, 0, none⟩)), (6, .bool false), (2, .slice la l.length lc)]) rfl ?_
        refine W.iff rfl ?_
        refine W.skip (X.block_normal (X.then_code ?_))
        refine W.pick [47, 46, 45, 44, 43, 42, 41, 40, 10, 39, 38, 30, 37, 36, 35, 34, 33, 32, 31, 27, 26, 25, 24, 23, 22, 21, 20, 9, 8, 7, 6, 2] (Γ' := [(47, .bool false), (46, .bool false), (45, .bool true), (44, .agg #[.slice ra2_1 (((stepR r ((l.getD i deed0).kind) ((l.getD i deed0).text)).l).length) rc2_1, .int .i64 (((stepR r ((l.getD i deed0).kind) ((l.getD i deed0).text)).at_ : Nat) : Int), .int .i64 ((stepR r ((l.getD i deed0).kind) ((l.getD i deed0).text)).most)]), (43, .pointer (some ⟨g_1, 0, none⟩)), (42, .bool false), (41, .bool (decide ((0 : Int) ≠ (0 : Int)))), (40, .int .i64 0), (10, .int .i64 0), (39, .int .i64 0), (38, .agg #[.slice ra2_1 (((stepR r ((l.getD i deed0).kind) ((l.getD i deed0).text)).l).length) rc2_1, .int .i64 (((stepR r ((l.getD i deed0).kind) ((l.getD i deed0).text)).at_ : Nat) : Int), .int .i64 ((stepR r ((l.getD i deed0).kind) ((l.getD i deed0).text)).most)]), (30, .tuple #[.agg #[.slice ra2_1 (((stepR r ((l.getD i deed0).kind) ((l.getD i deed0).text)).l).length) rc2_1, .int .i64 (((stepR r ((l.getD i deed0).kind) ((l.getD i deed0).text)).at_ : Nat) : Int), .int .i64 ((stepR r ((l.getD i deed0).kind) ((l.getD i deed0).text)).most)], .int .i64 0]), (37, .tuple #[.agg #[.slice ra2_1 (((stepR r ((l.getD i deed0).kind) ((l.getD i deed0).text)).l).length) rc2_1, .int .i64 (((stepR r ((l.getD i deed0).kind) ((l.getD i deed0).text)).at_ : Nat) : Int), .int .i64 ((stepR r ((l.getD i deed0).kind) ((l.getD i deed0).text)).most)], .int .i64 0]), (36, .agg #[.int .u8 ((l.getD i deed0).kind), .string ((l.getD i deed0).text)]), (35, elemPtr (.slice la l.length lc) (i * 2)), (34, .int .i64 ((i : Nat) : Int)), (33, .slice la l.length lc), (32, .agg #[.slice ra r.l.length rc, .int .i64 ((r.at_ : Nat) : Int), .int .i64 r.most]), (31, .pointer (some ⟨g_1, 0, none⟩)), (27, .bool (decide (((i : Nat) : Int) < (60 : Int)))), (26, .bool (decide (((i : Nat) : Int) < (60 : Int)))), (25, .int .i64 ((i : Nat) : Int)), (24, .bool true), (23, .bool (decide (((i : Nat) : Int) < ((l.length : Nat) : Int)))), (22, .int .i64 ((l.length : Nat) : Int)), (21, .slice la l.length lc), (20, .int .i64 ((i : Nat) : Int)), (9, .int .i64 ((i : Nat) : Int)), (8, .pointer (some ⟨w3.heap.size, 0, none⟩)), (7, .pointer (some ⟨g_1, 0, none⟩)), (6, .bool false), (2, .slice la l.length lc)]) rfl ?_
        refine W.region ?_
        refine WL.op rfl (d_move rfl ?_)
        refine WL.op rfl (d_add rfl rfl (by omega) (by omega) ?_)
        refine WL.op rfl (d_assign rfl ?_)
        refine WL.done ?_
        exact X.next [9, 8, 7, 6, 2] (Γ' := [(9, .int .i64 (((i + 1) : Nat) : Int)), (8, .pointer (some ⟨w3.heap.size, 0, none⟩)), (7, .pointer (some ⟨g_1, 0, none⟩)), (6, .bool false), (2, .slice la l.length lc)]) rfl (60 - (i + 1)) (by omega) ⟨i + 1, stepH h (l.getD i deed0).kind (l.getD i deed0).text, stepR r (l.getD i deed0).kind (l.getD i deed0).text, pa2_1, pc2_1, na2_1, nc2_1, ra2_1, rc2_1, rfl, (H10.re rfl), (by omega), (by exact hr.step _ _), (by have := stepH_len h (l.getD i deed0).kind (l.getD i deed0).text; omega), rfl⟩
    · skip
      refine W.exit (X.then_exit (X.then_exit (X.block_exit (X.then_code ?_))))
      refine W.seq ?_
      refine W.region ?_
      refine WL.op rfl (d_move rfl ?_)
      refine WL.op rfl (d_loadAB [.slice ra r.l.length rc, .int .i64 ((r.at_ : Nat) : Int), .int .i64 r.most] Try.underlying28 rfl sz28 rfl (H6.blk 2 rfl) rfl rfl ?_)
      refine WL.op rfl (d_call ok14 rfl (Ret.calls (lsame_any h g_1 pa pc na nc r ra rc w6 (H6.hp2 0 1 rfl rfl rfl)  (by first | exact hr | exact hr.step _ _) (by first | omega | (have := stepH_len h (l.getD i deed0).kind (l.getD i deed0).text; omega))) fun _ w11 p5 => ?_))
      obtain ⟨rfl, u9⟩ := p5
      have H11 : UpG w [] w11 [[blk g_1 #[.slice pa h.past.length pc, .slice na h.next.length nc, .string h.now, .int .i64 h.most] 79, rowT tyS (.slice pa h.past.length pc) 9 h.past, rowT tyS (.slice na h.next.length nc) 9 h.next], [rowT tyS (.slice ra r.l.length rc) 9 r.l], [blk w3.heap.size #[.slice ra r.l.length rc, .int .i64 ((r.at_ : Nat) : Int), .int .i64 r.most] 28]] := (H6.on2 (A' := [blk g_1 #[.slice pa h.past.length pc, .slice na h.next.length nc, .string h.now, .int .i64 h.most] 79, rowT tyS (.slice pa h.past.length pc) 9 h.past, rowT tyS (.slice na h.next.length nc) 9 h.next]) (B' := [rowT tyS (.slice ra r.l.length rc) 9 r.l]) (C := []) 0 1 rfl rfl rfl u9).re rfl
      refine WL.op rfl (d_assign rfl ?_)
      refine WL.done (X.then_code ?_)
      refine W.ret (X.ret1 rfl rfl ?_)
      exact ⟨rfl, H11.noneL⟩
  · skip
    refine WL.opN rfl rfl rfl rfl ?_
    refine WL.opN rfl rfl rfl rfl ?_
    refine WL.op rfl (d_pick rfl rfl ?_)
    refine WL.done (X.then_code ?_)
    refine W.iff rfl ?_
    refine W.exit (X.then_exit (X.then_exit (X.block_exit (X.then_code ?_))))
    refine W.seq ?_
    refine W.region ?_
    refine WL.op rfl (d_move rfl ?_)
    refine WL.op rfl (d_loadAB [.slice ra r.l.length rc, .int .i64 ((r.at_ : Nat) : Int), .int .i64 r.most] Try.underlying28 rfl sz28 rfl (H6.blk 2 rfl) rfl rfl ?_)
    refine WL.op rfl (d_call ok14 rfl (Ret.calls (lsame_any h g_1 pa pc na nc r ra rc w6 (H6.hp2 0 1 rfl rfl rfl)  (by first | exact hr | exact hr.step _ _) (by first | omega | (have := stepH_len h (l.getD i deed0).kind (l.getD i deed0).text; omega))) fun _ w12 p6 => ?_))
    obtain ⟨rfl, u10⟩ := p6
    have H12 : UpG w [] w12 [[blk g_1 #[.slice pa h.past.length pc, .slice na h.next.length nc, .string h.now, .int .i64 h.most] 79, rowT tyS (.slice pa h.past.length pc) 9 h.past, rowT tyS (.slice na h.next.length nc) 9 h.next], [rowT tyS (.slice ra r.l.length rc) 9 r.l], [blk w3.heap.size #[.slice ra r.l.length rc, .int .i64 ((r.at_ : Nat) : Int), .int .i64 r.most] 28]] := (H6.on2 (A' := [blk g_1 #[.slice pa h.past.length pc, .slice na h.next.length nc, .string h.now, .int .i64 h.most] 79, rowT tyS (.slice pa h.past.length pc) 9 h.past, rowT tyS (.slice na h.next.length nc) 9 h.next]) (B' := [rowT tyS (.slice ra r.l.length rc) 9 r.l]) (C := []) 0 1 rfl rfl rfl u10).re rfl
    refine WL.op rfl (d_assign rfl ?_)
    refine WL.done (X.then_code ?_)
    refine W.ret (X.ret1 rfl rfl ?_)
    exact ⟨rfl, H12.noneL⟩

set_option maxRecDepth 20000 in
theorem back_any (first : ByteArray) (la : Option Addr) (l : List DeedD) (lc : Nat) (n : Int) (w : World) (rl : RdT tyDeed w (.slice la l.length lc) l) (hk : ∀ i, i < l.length → 0 ≤ (l.getD i deed0).kind ∧ (l.getD i deed0).kind ≤ 255) (hn : 0 ≤ n ∧ n ≤ 255) :
    Calls Try.prog 4 #[.string first, .slice la l.length lc, .int .u8 n] w (Ret fun v w' => v = .bool true ∧ Upd w [] w' []) := by
  have le_rl := rl.le
  refine calls_of_W (args := [.string first, .slice la l.length lc, .int .u8 n]) Try.func4 rfl rfl rfl ?_
  have H0 : UpG w [] w [] := UpG.nil w
  show W _ _ _ _ [(0, .string first), (1, .slice la l.length lc), (2, .int .u8 n)] w
  refine W.seq ?_
  refine W.region ?_
  refine WL.op rfl (d_assign rfl ?_)
  refine WL.done (X.then_code ?_)
  refine W.seq ?_
  refine W.seq ?_
  refine W.region ?_
  refine WL.op rfl (d_call ok11 rfl (Ret.calls (awake_any  w  ) fun _ w1 p1 => ?_))
  obtain ⟨rfl, u1⟩ := p1
  have H1 : UpG w [] w1 [] := H0.call u1
  refine WL.op rfl (d_notB rfl ?_)
  refine WL.done (X.then_code ?_)
  refine W.iff rfl ?_
  refine W.skip (X.then_code ?_)
  refine W.seq ?_
  refine W.region ?_
  refine WL.op rfl (d_move rfl ?_)
  refine WL.op rfl (d_call ok12 rfl (Ret.calls (new_any first 100 w1  ) fun _ w2 p2 => ?_))
  obtain ⟨g_1, rfl, u2⟩ := p2
  have H2 : UpG w [] w2 [[blk g_1 #[.slice none (([] : List ByteArray).length) 0, .slice none (([] : List ByteArray).length) 0, .string first, .int .i64 (max 100 0)] 79, rowT tyS (.slice none (([] : List ByteArray).length) 0) 9 ([] : List ByteArray), rowT tyS (.slice none (([] : List ByteArray).length) 0) 9 ([] : List ByteArray)]] := (H1.new' u2).re rfl
  refine WL.op rfl (d_assign rfl ?_)
  refine WL.done (X.then_code ?_)
  refine W.seq ?_
  refine W.region ?_
  refine WL.op rfl (d_move rfl ?_)
  refine WL.op rfl (t_buildSlice (T := tyS) (xs := [first]) (cs := #[.string first]) rfl Try.underlying26 sz9 rfl rfl rfl rfl (by kernel_rfl) rfl rfl fun w3 u3 => ?_)
  have H3 : UpG w [] w3 [[blk g_1 #[.slice none (([] : List ByteArray).length) 0, .slice none (([] : List ByteArray).length) 0, .string first, .int .i64 (max 100 0)] 79, rowT tyS (.slice none (([] : List ByteArray).length) 0) 9 ([] : List ByteArray), rowT tyS (.slice none (([] : List ByteArray).length) 0) 9 ([] : List ByteArray)], [rowT tyS (.slice (some ⟨w2.heap.size, 0, none⟩) ([first].length) ([first].length)) 9 [first]]] := H2.new' u3
  refine WL.op rfl (d_build (cs := #[.slice (some ⟨w2.heap.size, 0, none⟩) ([first].length) ([first].length), .int .i64 0, .int .i64 100]) rfl (by kernel_rfl) ?_)
  refine WL.op rfl (d_alloc sz28 fun w4 u4 => ?_)
  have H4 : UpG w [] w4 [[blk g_1 #[.slice none (([] : List ByteArray).length) 0, .slice none (([] : List ByteArray).length) 0, .string first, .int .i64 (max 100 0)] 79, rowT tyS (.slice none (([] : List ByteArray).length) 0) 9 ([] : List ByteArray), rowT tyS (.slice none (([] : List ByteArray).length) 0) 9 ([] : List ByteArray)], [rowT tyS (.slice (some ⟨w2.heap.size, 0, none⟩) ([first].length) ([first].length)) 9 [first]], [blk w3.heap.size #[.slice none 0 0, .int .i64 0, .int .i64 0] 28]] := H3.new' u4
  refine WL.op0 (d_storeAB (us := [.slice (some ⟨w2.heap.size, 0, none⟩) ([first].length) ([first].length), .int .i64 0, .int .i64 100]) (cs' := #[.slice (some ⟨w2.heap.size, 0, none⟩) ([first].length) ([first].length), .int .i64 0, .int .i64 100]) sz28 rfl rfl rfl rfl (H4.blk 2 rfl) rfl rfl fun w5 u5 => ?_)
  have H5 : UpG w [] w5 [[blk g_1 #[.slice none (([] : List ByteArray).length) 0, .slice none (([] : List ByteArray).length) 0, .string first, .int .i64 (max 100 0)] 79, rowT tyS (.slice none (([] : List ByteArray).length) 0) 9 ([] : List ByteArray), rowT tyS (.slice none (([] : List ByteArray).length) 0) 9 ([] : List ByteArray)], [rowT tyS (.slice (some ⟨w2.heap.size, 0, none⟩) ([first].length) ([first].length)) 9 [first]], [blk w3.heap.size #[.slice (some ⟨w2.heap.size, 0, none⟩) ([first].length) ([first].length), .int .i64 0, .int .i64 100] 28]] := H4.on 2 rfl u5
  refine WL.done (X.then_code ?_)
  refine W.seq ?_
  refine W.seq ?_
  refine W.region ?_
  refine WL.op rfl (d_assign rfl ?_)
  refine WL.done (X.then_code ?_)
  refine W.block ?_
  refine W.pick [9, 8, 7, 6, 0, 1, 2] (Γ' := [(9, .int .i64 0), (8, .pointer (some ⟨w3.heap.size, 0, none⟩)), (7, .pointer (some ⟨g_1, 0, none⟩)), (6, .bool false), (0, .string first), (1, .slice la l.length lc), (2, .int .u8 n)]) rfl ?_
  refine W.loop (fun m Γ' w' => ∃ i : Nat, ∃ h : HistD, ∃ r : RowD, ∃ pa : Option Addr, ∃ pc : Nat, ∃ na : Option Addr, ∃ nc : Nat, ∃ ra : Option Addr, ∃ rc : Nat, Γ' = [(9, .int .i64 ((i : Nat) : Int)), (8, .pointer (some ⟨w3.heap.size, 0, none⟩)), (7, .pointer (some ⟨g_1, 0, none⟩)), (6, .bool false), (0, .string first), (1, .slice la l.length lc), (2, .int .u8 n)] ∧ UpG w [] w' [[blk g_1 #[.slice pa h.past.length pc, .slice na h.next.length nc, .string h.now, .int .i64 h.most] 79, rowT tyS (.slice pa h.past.length pc) 9 h.past, rowT tyS (.slice na h.next.length nc) 9 h.next], [rowT tyS (.slice ra r.l.length rc) 9 r.l], [blk w3.heap.size #[.slice ra r.l.length rc, .int .i64 ((r.at_ : Nat) : Int), .int .i64 r.most] 28]] ∧ (i ≤ 60) ∧ (Rel h r) ∧ (h.past.length + h.next.length ≤ i) ∧ ((allH h).getD 0 .empty = first) ∧ m = 60 - i) (60 - 0) ⟨0, (⟨[], [], first, max 100 0⟩ : HistD), (⟨[first], 0, 100⟩ : RowD), none, 0, none, 0, (some ⟨w2.heap.size, 0, none⟩), [first].length, rfl, (H5.re rfl), (by omega), (by exact rel_new _ _), (by simp), (by rfl), rfl⟩ ?_
  rintro m1 Γ1 w6 ⟨i, h, r, pa, pc, na, nc, ra, rc, rfl, H6, hi, hr, hlen, hq, rfl⟩
  refine W.seq ?_
  refine W.seq ?_
  refine W.region ?_
  refine WL.op rfl (d_move rfl ?_)
  refine WL.op rfl (d_move rfl ?_)
  refine WL.op rfl (d_lenS Try.underlying22 rfl ?_)
  refine WL.op rfl (d_cmp (decide (((i : Nat) : Int) < ((l.length : Nat) : Int))) rfl rfl rfl ?_)
  refine WL.op rfl (d_move rfl ?_)
  refine WL.part 33 (p := ((i : Nat) : Int) < ((l.length : Nat) : Int)) rfl (fun g82 => ?_) (fun g82 => ?_)
  · skip
    refine WL.opG rfl rfl rfl (d_move rfl ?_)
    refine WL.opG rfl rfl rfl (d_cmp (decide (((i : Nat) : Int) < (60 : Int))) rfl rfl rfl ?_)
    refine WL.op rfl (d_pick rfl rfl ?_)
    refine WL.done (X.then_code ?_)
    refine W.ite (p := ((i : Nat) : Int) < (60 : Int)) rfl (fun c82 => ?_) (fun c82 => ?_)
    · skip
      refine W.skip (X.then_code ?_)
      refine W.seq ?_
      refine W.block ?_
      refine W.seq ?_
      refine W.region ?_
      refine WL.op rfl (d_assign rfl ?_)
      refine WL.done (X.then_code ?_)
      refine W.seq ?_
      refine W.regionD mixed (by kernel_rfl) fun hok1 w7 k1 => ?_
      have H7 : UpG w [] w7 [[blk g_1 #[.slice pa h.past.length pc, .slice na h.next.length nc, .string h.now, .int .i64 h.most] 79, rowT tyS (.slice pa h.past.length pc) 9 h.past, rowT tyS (.slice na h.next.length nc) 9 h.next], [rowT tyS (.slice ra r.l.length rc) 9 r.l], [blk w3.heap.size #[.slice ra r.l.length rc, .int .i64 ((r.at_ : Nat) : Int), .int .i64 r.most] 28]] := H6.kept k1
      refine WD.take hok1 0 (.pointer (some ⟨g_1, 0, none⟩)) (fun _ => True) rfl rfl rfl rfl rfl trivial (.inl ⟨rfl, fun _ _ => d_move rfl ⟨rfl, rfl⟩⟩) ?_
      refine WD.take hok1 1 (.agg #[.slice ra r.l.length rc, .int .i64 ((r.at_ : Nat) : Int), .int .i64 r.most]) (fun w' => w'.heap[w3.heap.size]? = some (.cells #[.slice ra r.l.length rc, .int .i64 ((r.at_ : Nat) : Int), .int .i64 r.most] 28 (0, 0))) rfl rfl rfl rfl rfl (H7.blk 2 rfl) (.inl ⟨rfl, fun _ hC => d_loadAB [.slice ra r.l.length rc, .int .i64 ((r.at_ : Nat) : Int), .int .i64 r.most] Try.underlying28 rfl sz28 rfl hC rfl rfl ⟨rfl, rfl⟩⟩) ?_
      refine WD.take hok1 2 (.slice la l.length lc) (fun _ => True) rfl rfl rfl rfl rfl trivial (.inl ⟨rfl, fun _ _ => d_move rfl ⟨rfl, rfl⟩⟩) ?_
      refine WD.take hok1 3 (.int .i64 ((i : Nat) : Int)) (fun _ => True) rfl rfl rfl rfl rfl trivial (.inl ⟨rfl, fun _ _ => d_move rfl ⟨rfl, rfl⟩⟩) ?_
      refine WD.take hok1 4 (elemPtr (.slice la l.length lc) (i * 2)) (fun w' => RdT tyDeed w' (.slice la l.length lc) l) rfl rfl rfl rfl rfl (rl.at H7) (.inl ⟨rfl, fun _ hC => t_addrN i (T := tyDeed) rfl Try.underlying22 sz32 rfl rfl hC rfl (by omega) ⟨rfl, rfl⟩⟩) ?_
      refine WD.take hok1 5 (.agg #[.int .u8 ((l.getD i deed0).kind), .string ((l.getD i deed0).text)]) (fun w' => RdT tyDeed w' (.slice la l.length lc) l) rfl rfl rfl rfl rfl (rl.at H7) (.inl ⟨rfl, fun _ hC => t_loadN i deed0 (T := tyDeed) (us := [.int .u8 ((l.getD i deed0).kind), .string ((l.getD i deed0).text)]) rfl Try.underlying32 rfl sz32 rfl hC (by omega) rfl ⟨rfl, rfl⟩⟩) ?_
      refine WD.loud hok1 6 rfl (⟨_, [], rfl, rfl, rfl, rfl, rfl, rfl, d_call ok13 rfl (Ret.calls (ldo_any h g_1 pa pc na nc r ra rc (l.getD i deed0) w7 (H7.hp2 0 1 rfl rfl rfl)  hr (by omega) (hk _ (by omega))) fun _ w8 p3 => ?_)⟩)
      obtain ⟨pa2_1, pc2_1, na2_1, nc2_1, ra2_1, rc2_1, rfl, u6⟩ := p3
      have H8 : UpG w [] w8 [[blk g_1 #[.slice pa2_1 (((stepH h ((l.getD i deed0).kind) ((l.getD i deed0).text)).past).length) pc2_1, .slice na2_1 (((stepH h ((l.getD i deed0).kind) ((l.getD i deed0).text)).next).length) nc2_1, .string ((stepH h ((l.getD i deed0).kind) ((l.getD i deed0).text)).now), .int .i64 ((stepH h ((l.getD i deed0).kind) ((l.getD i deed0).text)).most)] 79, rowT tyS (.slice pa2_1 (((stepH h ((l.getD i deed0).kind) ((l.getD i deed0).text)).past).length) pc2_1) 9 ((stepH h ((l.getD i deed0).kind) ((l.getD i deed0).text)).past), rowT tyS (.slice na2_1 (((stepH h ((l.getD i deed0).kind) ((l.getD i deed0).text)).next).length) nc2_1) 9 ((stepH h ((l.getD i deed0).kind) ((l.getD i deed0).text)).next)], [rowT tyS (.slice ra2_1 (((stepR r ((l.getD i deed0).kind) ((l.getD i deed0).text)).l).length) rc2_1) 9 ((stepR r ((l.getD i deed0).kind) ((l.getD i deed0).text)).l)], [blk w3.heap.size #[.slice ra r.l.length rc, .int .i64 ((r.at_ : Nat) : Int), .int .i64 r.most] 28]] := (H7.on2 (A' := [blk g_1 #[.slice pa2_1 (((stepH h ((l.getD i deed0).kind) ((l.getD i deed0).text)).past).length) pc2_1, .slice na2_1 (((stepH h ((l.getD i deed0).kind) ((l.getD i deed0).text)).next).length) nc2_1, .string ((stepH h ((l.getD i deed0).kind) ((l.getD i deed0).text)).now), .int .i64 ((stepH h ((l.getD i deed0).kind) ((l.getD i deed0).text)).most)] 79, rowT tyS (.slice pa2_1 (((stepH h ((l.getD i deed0).kind) ((l.getD i deed0).text)).past).length) pc2_1) 9 ((stepH h ((l.getD i deed0).kind) ((l.getD i deed0).text)).past), rowT tyS (.slice na2_1 (((stepH h ((l.getD i deed0).kind) ((l.getD i deed0).text)).next).length) nc2_1) 9 ((stepH h ((l.getD i deed0).kind) ((l.getD i deed0).text)).next)]) (B' := [rowT tyS (.slice ra2_1 (((stepR r ((l.getD i deed0).kind) ((l.getD i deed0).text)).l).length) rc2_1) 9 ((stepR r ((l.getD i deed0).kind) ((l.getD i deed0).text)).l)]) (C := []) 0 1 rfl rfl rfl u6).re rfl
      refine ⟨trivial, ?_⟩
      refine WD.take hok1 7 (.tuple #[.agg #[.slice ra2_1 (((stepR r ((l.getD i deed0).kind) ((l.getD i deed0).text)).l).length) rc2_1, .int .i64 (((stepR r ((l.getD i deed0).kind) ((l.getD i deed0).text)).at_ : Nat) : Int), .int .i64 ((stepR r ((l.getD i deed0).kind) ((l.getD i deed0).text)).most)], .int .i64 0]) (fun _ => True) rfl rfl rfl rfl rfl trivial (.inl ⟨rfl, fun _ _ => d_move rfl ⟨rfl, rfl⟩⟩) ?_
      refine WD.take hok1 8 (.agg #[.slice ra2_1 (((stepR r ((l.getD i deed0).kind) ((l.getD i deed0).text)).l).length) rc2_1, .int .i64 (((stepR r ((l.getD i deed0).kind) ((l.getD i deed0).text)).at_ : Nat) : Int), .int .i64 ((stepR r ((l.getD i deed0).kind) ((l.getD i deed0).text)).most)]) (fun _ => True) rfl rfl rfl rfl rfl trivial (.inl ⟨rfl, fun _ _ => d_extract rfl rfl ⟨rfl, rfl⟩⟩) ?_
      refine WD.take hok1 9 (.int .i64 0) (fun _ => True) rfl rfl rfl rfl rfl trivial (.inl ⟨rfl, fun _ _ => d_extract rfl rfl ⟨rfl, rfl⟩⟩) ?_
      refine WD.loud hok1 10 rfl (⟨_, [⟨9, .int .i64 0, (fun _ => True)⟩], rfl, rfl, rfl, rfl, rfl, rfl, d_storeAB (us := [.slice ra2_1 (((stepR r ((l.getD i deed0).kind) ((l.getD i deed0).text)).l).length) rc2_1, .int .i64 (((stepR r ((l.getD i deed0).kind) ((l.getD i deed0).text)).at_ : Nat) : Int), .int .i64 ((stepR r ((l.getD i deed0).kind) ((l.getD i deed0).text)).most)]) (cs' := #[.slice ra2_1 (((stepR r ((l.getD i deed0).kind) ((l.getD i deed0).text)).l).length) rc2_1, .int .i64 (((stepR r ((l.getD i deed0).kind) ((l.getD i deed0).text)).at_ : Nat) : Int), .int .i64 ((stepR r ((l.getD i deed0).kind) ((l.getD i deed0).text)).most)]) sz28 rfl rfl rfl rfl (H8.blk 2 rfl) rfl rfl fun w9 u7 => ?_⟩)
      have H9 : UpG w [] w9 [[blk g_1 #[.slice pa2_1 (((stepH h ((l.getD i deed0).kind) ((l.getD i deed0).text)).past).length) pc2_1, .slice na2_1 (((stepH h ((l.getD i deed0).kind) ((l.getD i deed0).text)).next).length) nc2_1, .string ((stepH h ((l.getD i deed0).kind) ((l.getD i deed0).text)).now), .int .i64 ((stepH h ((l.getD i deed0).kind) ((l.getD i deed0).text)).most)] 79, rowT tyS (.slice pa2_1 (((stepH h ((l.getD i deed0).kind) ((l.getD i deed0).text)).past).length) pc2_1) 9 ((stepH h ((l.getD i deed0).kind) ((l.getD i deed0).text)).past), rowT tyS (.slice na2_1 (((stepH h ((l.getD i deed0).kind) ((l.getD i deed0).text)).next).length) nc2_1) 9 ((stepH h ((l.getD i deed0).kind) ((l.getD i deed0).text)).next)], [rowT tyS (.slice ra2_1 (((stepR r ((l.getD i deed0).kind) ((l.getD i deed0).text)).l).length) rc2_1) 9 ((stepR r ((l.getD i deed0).kind) ((l.getD i deed0).text)).l)], [blk w3.heap.size #[.slice ra2_1 (((stepR r ((l.getD i deed0).kind) ((l.getD i deed0).text)).l).length) rc2_1, .int .i64 (((stepR r ((l.getD i deed0).kind) ((l.getD i deed0).text)).at_ : Nat) : Int), .int .i64 ((stepR r ((l.getD i deed0).kind) ((l.getD i deed0).text)).most)] 28]] := H8.on 2 rfl u7
      refine ⟨⟨trivial, trivial⟩, ?_⟩
      refine WD.take hok1 11 (.int .i64 0) (fun _ => True) rfl rfl rfl rfl rfl trivial (.inl ⟨rfl, fun _ _ => d_assign rfl ⟨rfl, rfl⟩⟩) ?_
      refine WD.done hok1 rfl (X.then_code ?_)
      refine W.pick [10, 48, 47, 39, 46, 45, 44, 43, 42, 41, 40, 36, 35, 34, 33, 32, 31, 30, 29, 9, 8, 7, 6, 0, 1, 2] (Γ' := [(10, .int .i64 0), (48, .int .i64 0), (47, .agg #[.slice ra2_1 (((stepR r ((l.getD i deed0).kind) ((l.getD i deed0).text)).l).length) rc2_1, .int .i64 (((stepR r ((l.getD i deed0).kind) ((l.getD i deed0).text)).at_ : Nat) : Int), .int .i64 ((stepR r ((l.getD i deed0).kind) ((l.getD i deed0).text)).most)]), (39, .tuple #[.agg #[.slice ra2_1 (((stepR r ((l.getD i deed0).kind) ((l.getD i deed0).text)).l).length) rc2_1, .int .i64 (((stepR r ((l.getD i deed0).kind) ((l.getD i deed0).text)).at_ : Nat) : Int), .int .i64 ((stepR r ((l.getD i deed0).kind) ((l.getD i deed0).text)).most)], .int .i64 0]), (46, .tuple #[.agg #[.slice ra2_1 (((stepR r ((l.getD i deed0).kind) ((l.getD i deed0).text)).l).length) rc2_1, .int .i64 (((stepR r ((l.getD i deed0).kind) ((l.getD i deed0).text)).at_ : Nat) : Int), .int .i64 ((stepR r ((l.getD i deed0).kind) ((l.getD i deed0).text)).most)], .int .i64 0]), (45, .agg #[.int .u8 ((l.getD i deed0).kind), .string ((l.getD i deed0).text)]), (44, elemPtr (.slice la l.length lc) (i * 2)), (43, .int .i64 ((i : Nat) : Int)), (42, .slice la l.length lc), (41, .agg #[.slice ra r.l.length rc, .int .i64 ((r.at_ : Nat) : Int), .int .i64 r.most]), (40, .pointer (some ⟨g_1, 0, none⟩)), (36, .bool (decide (((i : Nat) : Int) < (60 : Int)))), (35, .bool (decide (((i : Nat) : Int) < (60 : Int)))), (34, .int .i64 ((i : Nat) : Int)), (33, .bool true), (32, .bool (decide (((i : Nat) : Int) < ((l.length : Nat) : Int)))), (31, .int .i64 ((l.length : Nat) : Int)), (30, .slice la l.length lc), (29, .int .i64 ((i : Nat) : Int)), (9, .int .i64 ((i : Nat) : Int)), (8, .pointer (some ⟨w3.heap.size, 0, none⟩)), (7, .pointer (some ⟨g_1, 0, none⟩)), (6, .bool false), (0, .string first), (1, .slice la l.length lc), (2, .int .u8 n)]) rfl ?_
      refine W.seq ?_
      refine W.region ?_
      refine WL.op rfl (d_move rfl ?_)
      refine WL.op rfl (d_cmp (decide ((0 : Int) ≠ (0 : Int))) rfl rfl rfl ?_)
      refine WL.done (X.then_code ?_)
      refine W.pick [50, 49, 10, 48, 47, 39, 46, 45, 44, 43, 42, 41, 40, 36, 35, 34, 33, 32, 31, 30, 29, 9, 8, 7, 6, 0, 1, 2] (Γ' := [(50, .bool (decide ((0 : Int) ≠ (0 : Int)))), (49, .int .i64 0), (10, .int .i64 0), (48, .int .i64 0), (47, .agg #[.slice ra2_1 (((stepR r ((l.getD i deed0).kind) ((l.getD i deed0).text)).l).length) rc2_1, .int .i64 (((stepR r ((l.getD i deed0).kind) ((l.getD i deed0).text)).at_ : Nat) : Int), .int .i64 ((stepR r ((l.getD i deed0).kind) ((l.getD i deed0).text)).most)]), (39, .tuple #[.agg #[.slice ra2_1 (((stepR r ((l.getD i deed0).kind) ((l.getD i deed0).text)).l).length) rc2_1, .int .i64 (((stepR r ((l.getD i deed0).kind) ((l.getD i deed0).text)).at_ : Nat) : Int), .int .i64 ((stepR r ((l.getD i deed0).kind) ((l.getD i deed0).text)).most)], .int .i64 0]), (46, .tuple #[.agg #[.slice ra2_1 (((stepR r ((l.getD i deed0).kind) ((l.getD i deed0).text)).l).length) rc2_1, .int .i64 (((stepR r ((l.getD i deed0).kind) ((l.getD i deed0).text)).at_ : Nat) : Int), .int .i64 ((stepR r ((l.getD i deed0).kind) ((l.getD i deed0).text)).most)], .int .i64 0]), (45, .agg #[.int .u8 ((l.getD i deed0).kind), .string ((l.getD i deed0).text)]), (44, elemPtr (.slice la l.length lc) (i * 2)), (43, .int .i64 ((i : Nat) : Int)), (42, .slice la l.length lc), (41, .agg #[.slice ra r.l.length rc, .int .i64 ((r.at_ : Nat) : Int), .int .i64 r.most]), (40, .pointer (some ⟨g_1, 0, none⟩)), (36, .bool (decide (((i : Nat) : Int) < (60 : Int)))), (35, .bool (decide (((i : Nat) : Int) < (60 : Int)))), (34, .int .i64 ((i : Nat) : Int)), (33, .bool true), (32, .bool (decide (((i : Nat) : Int) < ((l.length : Nat) : Int)))), (31, .int .i64 ((l.length : Nat) : Int)), (30, .slice la l.length lc), (29, .int .i64 ((i : Nat) : Int)), (9, .int .i64 ((i : Nat) : Int)), (8, .pointer (some ⟨w3.heap.size, 0, none⟩)), (7, .pointer (some ⟨g_1, 0, none⟩)), (6, .bool false), (0, .string first), (1, .slice la l.length lc), (2, .int .u8 n)]) rfl ?_
      refine W.ite (p := (0 : Int) ≠ (0 : Int)) rfl (fun c84 => ?_) (fun c84 => ?_)
      · skip
        exfalso; omega
      · skip
        refine W.skip (X.block_normal (X.then_code ?_))
        refine W.pick [50, 49, 10, 48, 47, 39, 46, 45, 44, 43, 42, 41, 40, 36, 35, 34, 33, 32, 31, 30, 29, 9, 8, 7, 6, 0, 1, 2] (Γ' := [(50, .bool (decide ((0 : Int) ≠ (0 : Int)))), (49, .int .i64 0), (10, .int .i64 0), (48, .int .i64 0), (47, .agg #[.slice ra2_1 (((stepR r ((l.getD i deed0).kind) ((l.getD i deed0).text)).l).length) rc2_1, .int .i64 (((stepR r ((l.getD i deed0).kind) ((l.getD i deed0).text)).at_ : Nat) : Int), .int .i64 ((stepR r ((l.getD i deed0).kind) ((l.getD i deed0).text)).most)]), (39, .tuple #[.agg #[.slice ra2_1 (((stepR r ((l.getD i deed0).kind) ((l.getD i deed0).text)).l).length) rc2_1, .int .i64 (((stepR r ((l.getD i deed0).kind) ((l.getD i deed0).text)).at_ : Nat) : Int), .int .i64 ((stepR r ((l.getD i deed0).kind) ((l.getD i deed0).text)).most)], .int .i64 0]), (46, .tuple #[.agg #[.slice ra2_1 (((stepR r ((l.getD i deed0).kind) ((l.getD i deed0).text)).l).length) rc2_1, .int .i64 (((stepR r ((l.getD i deed0).kind) ((l.getD i deed0).text)).at_ : Nat) : Int), .int .i64 ((stepR r ((l.getD i deed0).kind) ((l.getD i deed0).text)).most)], .int .i64 0]), (45, .agg #[.int .u8 ((l.getD i deed0).kind), .string ((l.getD i deed0).text)]), (44, elemPtr (.slice la l.length lc) (i * 2)), (43, .int .i64 ((i : Nat) : Int)), (42, .slice la l.length lc), (41, .agg #[.slice ra r.l.length rc, .int .i64 ((r.at_ : Nat) : Int), .int .i64 r.most]), (40, .pointer (some ⟨g_1, 0, none⟩)), (36, .bool (decide (((i : Nat) : Int) < (60 : Int)))), (35, .bool (decide (((i : Nat) : Int) < (60 : Int)))), (34, .int .i64 ((i : Nat) : Int)), (33, .bool true), (32, .bool (decide (((i : Nat) : Int) < ((l.length : Nat) : Int)))), (31, .int .i64 ((l.length : Nat) : Int)), (30, .slice la l.length lc), (29, .int .i64 ((i : Nat) : Int)), (9, .int .i64 ((i : Nat) : Int)), (8, .pointer (some ⟨w3.heap.size, 0, none⟩)), (7, .pointer (some ⟨g_1, 0, none⟩)), (6, .bool false), (0, .string first), (1, .slice la l.length lc), (2, .int .u8 n)]) rfl ?_
        refine W.region ?_
        refine WL.op rfl (d_move rfl ?_)
        refine WL.op rfl (d_add rfl rfl (by omega) (by omega) ?_)
        refine WL.op rfl (d_assign rfl ?_)
        refine WL.done ?_
        exact X.next [9, 8, 7, 6, 0, 1, 2] (Γ' := [(9, .int .i64 (((i + 1) : Nat) : Int)), (8, .pointer (some ⟨w3.heap.size, 0, none⟩)), (7, .pointer (some ⟨g_1, 0, none⟩)), (6, .bool false), (0, .string first), (1, .slice la l.length lc), (2, .int .u8 n)]) rfl (60 - (i + 1)) (by omega) ⟨i + 1, stepH h (l.getD i deed0).kind (l.getD i deed0).text, stepR r (l.getD i deed0).kind (l.getD i deed0).text, pa2_1, pc2_1, na2_1, nc2_1, ra2_1, rc2_1, rfl, (H9.re rfl), (by omega), (by exact hr.step _ _), (by have := stepH_len h (l.getD i deed0).kind (l.getD i deed0).text; omega), (by exact (stepH_head _ _ _).trans hq), rfl⟩
    · skip
      refine W.exit (X.then_exit (X.then_exit (X.block_exit (X.then_code ?_))))
      refine W.seq ?_
      refine W.region ?_
      refine WL.op rfl (d_move rfl ?_)
      refine WL.op rfl (d_call ok15 rfl (Ret.calls (all_any h g_1 pa pc na nc w6 (H6.hpOf 0 rfl)  (by omega)) fun _ w10 p4 => ?_))
      obtain ⟨a2_1, c2_1, rfl, u8⟩ := p4
      have H10 : UpG w [] w10 [[blk g_1 #[.slice pa h.past.length pc, .slice na h.next.length nc, .string h.now, .int .i64 h.most] 79, rowT tyS (.slice pa h.past.length pc) 9 h.past, rowT tyS (.slice na h.next.length nc) 9 h.next], [rowT tyS (.slice ra r.l.length rc) 9 r.l], [blk w3.heap.size #[.slice ra r.l.length rc, .int .i64 ((r.at_ : Nat) : Int), .int .i64 r.most] 28], [rowT tyS (.slice a2_1 ((allH h).length) c2_1) 9 (allH h)]] := (H6.onX (B := [blk g_1 #[.slice pa h.past.length pc, .slice na h.next.length nc, .string h.now, .int .i64 h.most] 79, rowT tyS (.slice pa h.past.length pc) 9 h.past, rowT tyS (.slice na h.next.length nc) 9 h.next]) (C := [rowT tyS (.slice a2_1 ((allH h).length) c2_1) 9 (allH h)]) 0 rfl u8).re rfl
      refine WL.op rfl (d_assign rfl ?_)
      refine WL.done (X.then_code ?_)
      refine W.pick [11, 7, 6, 0, 2] (Γ' := [(11, .slice a2_1 ((allH h).length) c2_1), (7, .pointer (some ⟨g_1, 0, none⟩)), (6, .bool false), (0, .string first), (2, .int .u8 n)]) rfl ?_
      refine W.seq ?_
      refine W.region ?_
      refine WL.op rfl (d_move rfl ?_)
      refine WL.op rfl (d_call ok16 rfl (Ret.calls (now_any h g_1 pa pc na nc w10 (H10.hpOf 0 rfl)  ) fun _ w11 p5 => ?_))
      obtain ⟨rfl, u9⟩ := p5
      have H11 : UpG w [] w11 [[blk g_1 #[.slice pa h.past.length pc, .slice na h.next.length nc, .string h.now, .int .i64 h.most] 79, rowT tyS (.slice pa h.past.length pc) 9 h.past, rowT tyS (.slice na h.next.length nc) 9 h.next], [rowT tyS (.slice ra r.l.length rc) 9 r.l], [blk w3.heap.size #[.slice ra r.l.length rc, .int .i64 ((r.at_ : Nat) : Int), .int .i64 r.most] 28], [rowT tyS (.slice a2_1 ((allH h).length) c2_1) 9 (allH h)]] := H10.on 0 rfl u9
      refine WL.op rfl (d_assign rfl ?_)
      refine WL.done (X.then_code ?_)
      refine W.seq ?_
      refine W.region ?_
      refine WL.op rfl (d_assign rfl ?_)
      refine WL.done (X.then_code ?_)
      refine W.seq ?_
      refine W.seq ?_
      refine W.region ?_
      refine WL.op rfl (d_assign rfl ?_)
      refine WL.done (X.then_code ?_)
      refine W.block ?_
      refine W.pick [14, 13, 12, 11, 7, 6, 0, 2] (Γ' := [(14, .int .i64 0), (13, .int .i64 0), (12, .string h.now), (11, .slice a2_1 ((allH h).length) c2_1), (7, .pointer (some ⟨g_1, 0, none⟩)), (6, .bool false), (0, .string first), (2, .int .u8 n)]) rfl ?_
      refine W.loop (fun m Γ' w' => ∃ u : Nat, ∃ y : Nat, ∃ h3 : HistD, ∃ pa3 : Option Addr, ∃ pc3 : Nat, ∃ na3 : Option Addr, ∃ nc3 : Nat, Γ' = [(14, .int .i64 ((u : Nat) : Int)), (13, .int .i64 ((y : Nat) : Int)), (12, .string h.now), (11, .slice a2_1 ((allH h).length) c2_1), (7, .pointer (some ⟨g_1, 0, none⟩)), (6, .bool false), (0, .string first), (2, .int .u8 n)] ∧ UpG w [] w' [[blk g_1 #[.slice pa3 h3.past.length pc3, .slice na3 h3.next.length nc3, .string h3.now, .int .i64 h3.most] 79, rowT tyS (.slice pa3 h3.past.length pc3) 9 h3.past, rowT tyS (.slice na3 h3.next.length nc3) 9 h3.next], [rowT tyS (.slice ra r.l.length rc) 9 r.l], [blk w3.heap.size #[.slice ra r.l.length rc, .int .i64 ((r.at_ : Nat) : Int), .int .i64 r.most] 28], [rowT tyS (.slice a2_1 ((allH h).length) c2_1) 9 (allH h)]] ∧ ((u : Int) ≤ n % 80) ∧ (y ≤ u) ∧ (BackU h h3 y) ∧ (h3.past.length + h3.next.length ≤ 60) ∧ m = (n % 80).toNat - u) ((n % 80).toNat - 0) ⟨0, 0, h, pa, pc, na, nc, rfl, H11, (by omega), (by first | assumption | omega | simp), (by exact BackU.start h), (by omega), rfl⟩ ?_
      rintro m2 Γ2 w12 ⟨u, y, h3, pa3, pc3, na3, nc3, rfl, H12, hu, hyu, hb, hlen3, rfl⟩
      refine W.seq ?_
      refine W.seq ?_
      refine W.region ?_
      refine WL.op rfl (d_move rfl ?_)
      refine WL.op rfl (d_move rfl ?_)
      refine WL.op rfl (d_remN rfl rfl (by omega) (by omega) ?_)
      refine WL.op rfl (d_convI (kd := .i64) Try.underlying5 Try.underlying3 rfl (by simp [IntKind.signed, IntKind.bits, IntKind.max]; omega) ?_)
      refine WL.op rfl (d_cmp (decide (((u : Nat) : Int) < (n % 80))) rfl rfl rfl ?_)
      refine WL.done (X.then_code ?_)
      refine W.ite (p := ((u : Nat) : Int) < (n % 80)) rfl (fun c91 => ?_) (fun c91 => ?_)
      · skip
        refine W.skip (X.then_code ?_)
        refine W.seq ?_
        refine W.block ?_
        refine W.seq ?_
        refine W.region ?_
        refine WL.op rfl (d_move rfl ?_)
        refine WL.op rfl (d_call ok17 rfl (Ret.calls (undo_any h3 g_1 pa3 pc3 na3 nc3 w12 (H12.hpOf 0 rfl)  (by omega)) fun _ w13 p6 => ?_))
        obtain ⟨pa2_2, pc2_2, na2_2, nc2_2, rfl, u10⟩ := p6
        have H13 : UpG w [] w13 [[blk g_1 #[.slice pa2_2 (((undoH h3).1.past).length) pc2_2, .slice na2_2 (((undoH h3).1.next).length) nc2_2, .string ((undoH h3).1.now), .int .i64 ((undoH h3).1.most)] 79, rowT tyS (.slice pa2_2 (((undoH h3).1.past).length) pc2_2) 9 ((undoH h3).1.past), rowT tyS (.slice na2_2 (((undoH h3).1.next).length) nc2_2) 9 ((undoH h3).1.next)], [rowT tyS (.slice ra r.l.length rc) 9 r.l], [blk w3.heap.size #[.slice ra r.l.length rc, .int .i64 ((r.at_ : Nat) : Int), .int .i64 r.most] 28], [rowT tyS (.slice a2_1 ((allH h).length) c2_1) 9 (allH h)]] := H12.on 0 rfl u10
        refine WL.op rfl (d_move rfl ?_)
        refine WL.op rfl (d_extract rfl rfl ?_)
        refine WL.op rfl (d_extract rfl rfl ?_)
        refine WL.op rfl (d_assign rfl ?_)
        refine WL.op rfl (d_assign rfl ?_)
        refine WL.done (X.then_code ?_)
        refine W.pick [16, 66, 65, 62, 64, 63, 59, 58, 57, 56, 55, 14, 13, 12, 11, 7, 6, 0, 2] (Γ' := [(16, .int .i64 ((undoH h3).2.2)), (66, .int .i64 ((undoH h3).2.2)), (65, .string ((undoH h3).2.1)), (62, .tuple #[.string ((undoH h3).2.1), .int .i64 ((undoH h3).2.2)]), (64, .tuple #[.string ((undoH h3).2.1), .int .i64 ((undoH h3).2.2)]), (63, .pointer (some ⟨g_1, 0, none⟩)), (59, .bool (decide (((u : Nat) : Int) < (n % 80)))), (58, .int .i64 (n % 80)), (57, .int .u8 (n % 80)), (56, .int .u8 n), (55, .int .i64 ((u : Nat) : Int)), (14, .int .i64 ((u : Nat) : Int)), (13, .int .i64 ((y : Nat) : Int)), (12, .string h.now), (11, .slice a2_1 ((allH h).length) c2_1), (7, .pointer (some ⟨g_1, 0, none⟩)), (6, .bool false), (0, .string first), (2, .int .u8 n)]) rfl ?_
        refine W.seq ?_
        refine W.region ?_
        refine WL.op rfl (d_move rfl ?_)
        refine WL.op rfl (d_cmp (decide (((undoH h3).2.2) = (0 : Int))) rfl rfl rfl ?_)
        refine WL.done (X.then_code ?_)
        refine W.pick [68, 67, 16, 66, 65, 62, 64, 63, 59, 58, 57, 56, 55, 14, 13, 12, 11, 7, 6, 0, 2] (Γ' := [(68, .bool (decide (((undoH h3).2.2) = (0 : Int)))), (67, .int .i64 ((undoH h3).2.2)), (16, .int .i64 ((undoH h3).2.2)), (66, .int .i64 ((undoH h3).2.2)), (65, .string ((undoH h3).2.1)), (62, .tuple #[.string ((undoH h3).2.1), .int .i64 ((undoH h3).2.2)]), (64, .tuple #[.string ((undoH h3).2.1), .int .i64 ((undoH h3).2.2)]), (63, .pointer (some ⟨g_1, 0, none⟩)), (59, .bool (decide (((u : Nat) : Int) < (n % 80)))), (58, .int .i64 (n % 80)), (57, .int .u8 (n % 80)), (56, .int .u8 n), (55, .int .i64 ((u : Nat) : Int)), (14, .int .i64 ((u : Nat) : Int)), (13, .int .i64 ((y : Nat) : Int)), (12, .string h.now), (11, .slice a2_1 ((allH h).length) c2_1), (7, .pointer (some ⟨g_1, 0, none⟩)), (6, .bool false), (0, .string first), (2, .int .u8 n)]) rfl ?_
        refine W.ite (p := ((undoH h3).2.2) = (0 : Int)) rfl (fun c92 => ?_) (fun c92 => ?_)
        · skip
          refine W.region ?_
          refine WL.op rfl (d_move rfl ?_)
          refine WL.op rfl (d_add rfl rfl (by omega) (by omega) ?_)
          refine WL.op rfl (d_assign rfl ?_)
          refine WL.done (X.block_normal (X.then_code ?_))
          refine W.pick [13, 70, 69, 68, 67, 16, 66, 65, 62, 64, 63, 59, 58, 57, 56, 55, 14, 12, 11, 7, 6, 0, 2] (Γ' := [(13, .int .i64 (((y : Nat) : Int) + 1)), (70, .int .i64 (((y : Nat) : Int) + 1)), (69, .int .i64 ((y : Nat) : Int)), (68, .bool (decide (((undoH h3).2.2) = (0 : Int)))), (67, .int .i64 ((undoH h3).2.2)), (16, .int .i64 ((undoH h3).2.2)), (66, .int .i64 ((undoH h3).2.2)), (65, .string ((undoH h3).2.1)), (62, .tuple #[.string ((undoH h3).2.1), .int .i64 ((undoH h3).2.2)]), (64, .tuple #[.string ((undoH h3).2.1), .int .i64 ((undoH h3).2.2)]), (63, .pointer (some ⟨g_1, 0, none⟩)), (59, .bool (decide (((u : Nat) : Int) < (n % 80)))), (58, .int .i64 (n % 80)), (57, .int .u8 (n % 80)), (56, .int .u8 n), (55, .int .i64 ((u : Nat) : Int)), (14, .int .i64 ((u : Nat) : Int)), (12, .string h.now), (11, .slice a2_1 ((allH h).length) c2_1), (7, .pointer (some ⟨g_1, 0, none⟩)), (6, .bool false), (0, .string first), (2, .int .u8 n)]) rfl ?_
          refine W.region ?_
          refine WL.op rfl (d_move rfl ?_)
          refine WL.op rfl (d_add rfl rfl (by omega) (by omega) ?_)
          refine WL.op rfl (d_assign rfl ?_)
          refine WL.done ?_
          exact X.next [14, 13, 12, 11, 7, 6, 0, 2] (Γ' := [(14, .int .i64 (((u + 1) : Nat) : Int)), (13, .int .i64 (((y + 1) : Nat) : Int)), (12, .string h.now), (11, .slice a2_1 ((allH h).length) c2_1), (7, .pointer (some ⟨g_1, 0, none⟩)), (6, .bool false), (0, .string first), (2, .int .u8 n)]) rfl ((n % 80).toNat - (u + 1)) (by omega) ⟨u + 1, y + 1, (undoH h3).1, pa2_2, pc2_2, na2_2, nc2_2, rfl, (H13.re rfl), (by omega), (by first | assumption | omega | simp), (by first | exact hb.yes c92 | exact hb.no c92), (by rw [undoH_len]; exact hlen3), rfl⟩
        · skip
          refine W.skip (X.block_normal (X.then_code ?_))
          refine W.pick [68, 67, 16, 66, 65, 62, 64, 63, 59, 58, 57, 56, 55, 14, 13, 12, 11, 7, 6, 0, 2] (Γ' := [(68, .bool (decide (((undoH h3).2.2) = (0 : Int)))), (67, .int .i64 ((undoH h3).2.2)), (16, .int .i64 ((undoH h3).2.2)), (66, .int .i64 ((undoH h3).2.2)), (65, .string ((undoH h3).2.1)), (62, .tuple #[.string ((undoH h3).2.1), .int .i64 ((undoH h3).2.2)]), (64, .tuple #[.string ((undoH h3).2.1), .int .i64 ((undoH h3).2.2)]), (63, .pointer (some ⟨g_1, 0, none⟩)), (59, .bool (decide (((u : Nat) : Int) < (n % 80)))), (58, .int .i64 (n % 80)), (57, .int .u8 (n % 80)), (56, .int .u8 n), (55, .int .i64 ((u : Nat) : Int)), (14, .int .i64 ((u : Nat) : Int)), (13, .int .i64 ((y : Nat) : Int)), (12, .string h.now), (11, .slice a2_1 ((allH h).length) c2_1), (7, .pointer (some ⟨g_1, 0, none⟩)), (6, .bool false), (0, .string first), (2, .int .u8 n)]) rfl ?_
          refine W.region ?_
          refine WL.op rfl (d_move rfl ?_)
          refine WL.op rfl (d_add rfl rfl (by omega) (by omega) ?_)
          refine WL.op rfl (d_assign rfl ?_)
          refine WL.done ?_
          exact X.next [14, 13, 12, 11, 7, 6, 0, 2] (Γ' := [(14, .int .i64 (((u + 1) : Nat) : Int)), (13, .int .i64 ((y : Nat) : Int)), (12, .string h.now), (11, .slice a2_1 ((allH h).length) c2_1), (7, .pointer (some ⟨g_1, 0, none⟩)), (6, .bool false), (0, .string first), (2, .int .u8 n)]) rfl ((n % 80).toNat - (u + 1)) (by omega) ⟨u + 1, y, (undoH h3).1, pa2_2, pc2_2, na2_2, nc2_2, rfl, (H13.re rfl), (by omega), (by first | assumption | omega | simp), (by first | exact hb.yes c92 | exact hb.no c92), (by rw [undoH_len]; exact hlen3), rfl⟩
      · skip
        refine W.exit (X.then_exit (X.then_exit (X.block_exit (X.then_code ?_))))
        refine W.seq ?_
        refine W.seq ?_
        refine W.region ?_
        refine WL.op rfl (d_move rfl ?_)
        refine WL.op rfl (d_call ok18 rfl (Ret.calls (sizes_any h3 g_1 pa3 pc3 na3 nc3 w12 (H12.hpOf 0 rfl)  ) fun _ w14 p7 => ?_))
        obtain ⟨rfl, u11⟩ := p7
        have H14 : UpG w [] w14 [[blk g_1 #[.slice pa3 h3.past.length pc3, .slice na3 h3.next.length nc3, .string h3.now, .int .i64 h3.most] 79, rowT tyS (.slice pa3 h3.past.length pc3) 9 h3.past, rowT tyS (.slice na3 h3.next.length nc3) 9 h3.next], [rowT tyS (.slice ra r.l.length rc) 9 r.l], [blk w3.heap.size #[.slice ra r.l.length rc, .int .i64 ((r.at_ : Nat) : Int), .int .i64 r.most] 28], [rowT tyS (.slice a2_1 ((allH h).length) c2_1) 9 (allH h)]] := H12.on 0 rfl u11
        refine WL.op rfl (d_move rfl ?_)
        refine WL.op rfl (d_extract rfl rfl ?_)
        refine WL.op rfl (d_extract rfl rfl ?_)
        refine WL.op rfl (d_assign rfl ?_)
        refine WL.op rfl (d_assign rfl ?_)
        refine WL.done (X.then_code ?_)
        refine W.pick [17, 13, 12, 11, 7, 6, 0] (Γ' := [(17, .int .i64 ((h3.past.length : Nat) : Int)), (13, .int .i64 ((y : Nat) : Int)), (12, .string h.now), (11, .slice a2_1 ((allH h).length) c2_1), (7, .pointer (some ⟨g_1, 0, none⟩)), (6, .bool false), (0, .string first)]) rfl ?_
        refine W.seq ?_
        refine W.region ?_
        refine WL.op rfl (d_move rfl ?_)
        refine WL.op rfl (d_cmp (decide (((h3.past.length : Nat) : Int) = (0 : Int))) rfl rfl rfl ?_)
        refine WL.op rfl (d_move rfl ?_)
        refine WL.part 78 (p := ((h3.past.length : Nat) : Int) = (0 : Int)) rfl (fun g96 => ?_) (fun g96 => ?_)
        · skip
          refine WL.opG rfl rfl rfl (d_move rfl ?_)
          refine WL.opG rfl rfl rfl (d_call ok16 rfl (Ret.calls (now_any h3 g_1 pa3 pc3 na3 nc3 w14 (H14.hpOf 0 rfl)  ) fun _ w15 p8 => ?_))
          obtain ⟨rfl, u12⟩ := p8
          have H15 : UpG w [] w15 [[blk g_1 #[.slice pa3 h3.past.length pc3, .slice na3 h3.next.length nc3, .string h3.now, .int .i64 h3.most] 79, rowT tyS (.slice pa3 h3.past.length pc3) 9 h3.past, rowT tyS (.slice na3 h3.next.length nc3) 9 h3.next], [rowT tyS (.slice ra r.l.length rc) 9 r.l], [blk w3.heap.size #[.slice ra r.l.length rc, .int .i64 ((r.at_ : Nat) : Int), .int .i64 r.most] 28], [rowT tyS (.slice a2_1 ((allH h).length) c2_1) 9 (allH h)]] := H14.on 0 rfl u12
          refine WL.opG rfl rfl rfl (d_move rfl ?_)
          refine WL.opG rfl rfl rfl (d_strne rfl rfl ?_)
          refine WL.op rfl (d_pick rfl rfl ?_)
          refine WL.op rfl (d_move rfl ?_)
          refine WL.part 84 (p := h3.now ≠ first) rfl (fun g96x => ?_) (fun g96x => ?_)
          · skip
            exact absurd (hb.first hq (by omega)) g96x
          · skip
            refine WL.opG rfl rfl rfl (d_move rfl ?_)
            refine WL.opG rfl rfl rfl (d_call ok15 rfl (Ret.calls (all_any h3 g_1 pa3 pc3 na3 nc3 w15 (H15.hpOf 0 rfl)  (by omega)) fun _ w16 p9 => ?_))
            obtain ⟨a2_2, c2_2, rfl, u13⟩ := p9
            have H16 : UpG w [] w16 [[blk g_1 #[.slice pa3 h3.past.length pc3, .slice na3 h3.next.length nc3, .string h3.now, .int .i64 h3.most] 79, rowT tyS (.slice pa3 h3.past.length pc3) 9 h3.past, rowT tyS (.slice na3 h3.next.length nc3) 9 h3.next], [rowT tyS (.slice ra r.l.length rc) 9 r.l], [blk w3.heap.size #[.slice ra r.l.length rc, .int .i64 ((r.at_ : Nat) : Int), .int .i64 r.most] 28], [rowT tyS (.slice a2_1 ((allH h).length) c2_1) 9 (allH h)], [rowT tyS (.slice a2_2 ((allH h3).length) c2_2) 9 (allH h3)]] := (H15.onX (B := [blk g_1 #[.slice pa3 h3.past.length pc3, .slice na3 h3.next.length nc3, .string h3.now, .int .i64 h3.most] 79, rowT tyS (.slice pa3 h3.past.length pc3) 9 h3.past, rowT tyS (.slice na3 h3.next.length nc3) 9 h3.next]) (C := [rowT tyS (.slice a2_2 ((allH h3).length) c2_2) 9 (allH h3)]) 0 rfl u13).re rfl
            refine WL.opG rfl rfl rfl (d_move rfl ?_)
            refine WL.opG rfl rfl rfl (d_call ok19 rfl (Ret.calls (same_any a2_2 (allH h3) c2_2 a2_1 (allH h) c2_1 w16 (H16.rdT 4 rfl) (H16.rdT 3 rfl) ) fun _ w17 p10 => ?_))
            obtain ⟨rfl, u14⟩ := p10
            have H17 : UpG w [] w17 [[blk g_1 #[.slice pa3 h3.past.length pc3, .slice na3 h3.next.length nc3, .string h3.now, .int .i64 h3.most] 79, rowT tyS (.slice pa3 h3.past.length pc3) 9 h3.past, rowT tyS (.slice na3 h3.next.length nc3) 9 h3.next], [rowT tyS (.slice ra r.l.length rc) 9 r.l], [blk w3.heap.size #[.slice ra r.l.length rc, .int .i64 ((r.at_ : Nat) : Int), .int .i64 r.most] 28], [rowT tyS (.slice a2_1 ((allH h).length) c2_1) 9 (allH h)], [rowT tyS (.slice a2_2 ((allH h3).length) c2_2) 9 (allH h3)]] := H16.call u14
            refine WL.opG rfl rfl rfl (d_notB rfl ?_)
            refine WL.op rfl (d_pick rfl rfl ?_)
            refine WL.done (X.then_code ?_)
            refine W.pick [90, 13, 12, 11, 7, 6] (Γ' := [(90, .bool (!(decide ((allH h3) = (allH h))))), (13, .int .i64 ((y : Nat) : Int)), (12, .string h.now), (11, .slice a2_1 ((allH h).length) c2_1), (7, .pointer (some ⟨g_1, 0, none⟩)), (6, .bool false)]) rfl ?_
            refine W.iteB (b := !(decide ((allH h3) = (allH h)))) rfl (fun c96 => ?_) (fun c96 => ?_)
            · skip
              exfalso; rw [decide_eq_true hb.all] at c96; exact absurd c96 (by decide)
            · skip
              refine W.skip (X.then_code ?_)
              refine W.seq ?_
              refine W.seq ?_
              refine W.region ?_
              refine WL.op rfl (d_assign rfl ?_)
              refine WL.done (X.then_code ?_)
              refine W.block ?_
              refine W.pick [19, 13, 12, 11, 7, 6] (Γ' := [(19, .int .i64 0), (13, .int .i64 ((y : Nat) : Int)), (12, .string h.now), (11, .slice a2_1 ((allH h).length) c2_1), (7, .pointer (some ⟨g_1, 0, none⟩)), (6, .bool false)]) rfl ?_
              refine W.loop (fun m Γ' w' => ∃ v : Nat, ∃ h4 : HistD, ∃ pa4 : Option Addr, ∃ pc4 : Nat, ∃ na4 : Option Addr, ∃ nc4 : Nat, Γ' = [(19, .int .i64 ((v : Nat) : Int)), (13, .int .i64 ((y : Nat) : Int)), (12, .string h.now), (11, .slice a2_1 ((allH h).length) c2_1), (7, .pointer (some ⟨g_1, 0, none⟩)), (6, .bool false)] ∧ UpG w [] w' [[blk g_1 #[.slice pa4 h4.past.length pc4, .slice na4 h4.next.length nc4, .string h4.now, .int .i64 h4.most] 79, rowT tyS (.slice pa4 h4.past.length pc4) 9 h4.past, rowT tyS (.slice na4 h4.next.length nc4) 9 h4.next], [rowT tyS (.slice ra r.l.length rc) 9 r.l], [blk w3.heap.size #[.slice ra r.l.length rc, .int .i64 ((r.at_ : Nat) : Int), .int .i64 r.most] 28], [rowT tyS (.slice a2_1 ((allH h).length) c2_1) 9 (allH h)], [rowT tyS (.slice a2_2 ((allH h3).length) c2_2) 9 (allH h3)]] ∧ (v ≤ y) ∧ (BackR h h4 y v) ∧ (h4.past.length + h4.next.length ≤ 60) ∧ m = y - v) (y - 0) ⟨0, h3, pa3, pc3, na3, nc3, rfl, H17, (by first | assumption | omega | simp), (by exact hb.redo), (by omega), rfl⟩ ?_
              rintro m3 Γ3 w18 ⟨v, h4, pa4, pc4, na4, nc4, rfl, H18, hv, hd, hlen4, rfl⟩
              refine W.seq ?_
              refine W.seq ?_
              refine W.region ?_
              refine WL.op rfl (d_move rfl ?_)
              refine WL.op rfl (d_move rfl ?_)
              refine WL.op rfl (d_cmp (decide (((v : Nat) : Int) < ((y : Nat) : Int))) rfl rfl rfl ?_)
              refine WL.done (X.then_code ?_)
              refine W.ite (p := ((v : Nat) : Int) < ((y : Nat) : Int)) rfl (fun c99 => ?_) (fun c99 => ?_)
              · skip
                refine W.skip (X.then_code ?_)
                refine W.seq ?_
                refine W.block ?_
                refine W.seq ?_
                refine W.region ?_
                refine WL.op rfl (d_move rfl ?_)
                refine WL.op rfl (d_call ok20 rfl (Ret.calls (redo_any h4 g_1 pa4 pc4 na4 nc4 w18 (H18.hpOf 0 rfl)  (by omega)) fun _ w19 p11 => ?_))
                obtain ⟨pa2_3, pc2_3, na2_3, nc2_3, rfl, u15⟩ := p11
                have H19 : UpG w [] w19 [[blk g_1 #[.slice pa2_3 (((redoH h4).1.past).length) pc2_3, .slice na2_3 (((redoH h4).1.next).length) nc2_3, .string ((redoH h4).1.now), .int .i64 ((redoH h4).1.most)] 79, rowT tyS (.slice pa2_3 (((redoH h4).1.past).length) pc2_3) 9 ((redoH h4).1.past), rowT tyS (.slice na2_3 (((redoH h4).1.next).length) nc2_3) 9 ((redoH h4).1.next)], [rowT tyS (.slice ra r.l.length rc) 9 r.l], [blk w3.heap.size #[.slice ra r.l.length rc, .int .i64 ((r.at_ : Nat) : Int), .int .i64 r.most] 28], [rowT tyS (.slice a2_1 ((allH h).length) c2_1) 9 (allH h)], [rowT tyS (.slice a2_2 ((allH h3).length) c2_2) 9 (allH h3)]] := H18.on 0 rfl u15
                refine WL.op rfl (d_move rfl ?_)
                refine WL.op rfl (d_extract rfl rfl ?_)
                refine WL.op rfl (d_extract rfl rfl ?_)
                refine WL.op rfl (d_assign rfl ?_)
                refine WL.op rfl (d_assign rfl ?_)
                refine WL.done (X.then_code ?_)
                refine W.seq ?_
                refine W.region ?_
                refine WL.op rfl (d_move rfl ?_)
                refine WL.op rfl (d_cmp (decide (((redoH h4).2.2) ≠ (0 : Int))) rfl rfl rfl ?_)
                refine WL.done (X.then_code ?_)
                refine W.pick [102, 101, 21, 100, 99, 96, 98, 97, 93, 92, 91, 19, 13, 12, 11, 7, 6] (Γ' := [(102, .bool (decide (((redoH h4).2.2) ≠ (0 : Int)))), (101, .int .i64 ((redoH h4).2.2)), (21, .int .i64 ((redoH h4).2.2)), (100, .int .i64 ((redoH h4).2.2)), (99, .string ((redoH h4).2.1)), (96, .tuple #[.string ((redoH h4).2.1), .int .i64 ((redoH h4).2.2)]), (98, .tuple #[.string ((redoH h4).2.1), .int .i64 ((redoH h4).2.2)]), (97, .pointer (some ⟨g_1, 0, none⟩)), (93, .bool (decide (((v : Nat) : Int) < ((y : Nat) : Int)))), (92, .int .i64 ((y : Nat) : Int)), (91, .int .i64 ((v : Nat) : Int)), (19, .int .i64 ((v : Nat) : Int)), (13, .int .i64 ((y : Nat) : Int)), (12, .string h.now), (11, .slice a2_1 ((allH h).length) c2_1), (7, .pointer (some ⟨g_1, 0, none⟩)), (6, .bool false)]) rfl ?_
                refine W.ite (p := ((redoH h4).2.2) ≠ (0 : Int)) rfl (fun c100 => ?_) (fun c100 => ?_)
                · skip
                  exfalso; exact c100 (hd.ok (by omega))
                · skip
                  refine W.skip (X.block_normal (X.then_code ?_))
                  refine W.pick [102, 101, 21, 100, 99, 96, 98, 97, 93, 92, 91, 19, 13, 12, 11, 7, 6] (Γ' := [(102, .bool (decide (((redoH h4).2.2) ≠ (0 : Int)))), (101, .int .i64 ((redoH h4).2.2)), (21, .int .i64 ((redoH h4).2.2)), (100, .int .i64 ((redoH h4).2.2)), (99, .string ((redoH h4).2.1)), (96, .tuple #[.string ((redoH h4).2.1), .int .i64 ((redoH h4).2.2)]), (98, .tuple #[.string ((redoH h4).2.1), .int .i64 ((redoH h4).2.2)]), (97, .pointer (some ⟨g_1, 0, none⟩)), (93, .bool (decide (((v : Nat) : Int) < ((y : Nat) : Int)))), (92, .int .i64 ((y : Nat) : Int)), (91, .int .i64 ((v : Nat) : Int)), (19, .int .i64 ((v : Nat) : Int)), (13, .int .i64 ((y : Nat) : Int)), (12, .string h.now), (11, .slice a2_1 ((allH h).length) c2_1), (7, .pointer (some ⟨g_1, 0, none⟩)), (6, .bool false)]) rfl ?_
                  refine W.region ?_
                  refine WL.op rfl (d_move rfl ?_)
                  refine WL.op rfl (d_add rfl rfl (by omega) (by omega) ?_)
                  refine WL.op rfl (d_assign rfl ?_)
                  refine WL.done ?_
                  exact X.next [19, 13, 12, 11, 7, 6] (Γ' := [(19, .int .i64 (((v + 1) : Nat) : Int)), (13, .int .i64 ((y : Nat) : Int)), (12, .string h.now), (11, .slice a2_1 ((allH h).length) c2_1), (7, .pointer (some ⟨g_1, 0, none⟩)), (6, .bool false)]) rfl (y - (v + 1)) (by omega) ⟨v + 1, (redoH h4).1, pa2_3, pc2_3, na2_3, nc2_3, rfl, (H19.re rfl), (by first | assumption | omega | simp), (by exact hd.step (by omega)), (by rw [redoH_len]; exact hlen4), rfl⟩
              · skip
                refine W.exit (X.then_exit (X.then_exit (X.block_exit (X.then_code ?_))))
                refine W.seq ?_
                refine W.region ?_
                refine WL.op rfl (d_move rfl ?_)
                refine WL.op rfl (d_call ok16 rfl (Ret.calls (now_any h4 g_1 pa4 pc4 na4 nc4 w18 (H18.hpOf 0 rfl)  ) fun _ w20 p12 => ?_))
                obtain ⟨rfl, u16⟩ := p12
                have H20 : UpG w [] w20 [[blk g_1 #[.slice pa4 h4.past.length pc4, .slice na4 h4.next.length nc4, .string h4.now, .int .i64 h4.most] 79, rowT tyS (.slice pa4 h4.past.length pc4) 9 h4.past, rowT tyS (.slice na4 h4.next.length nc4) 9 h4.next], [rowT tyS (.slice ra r.l.length rc) 9 r.l], [blk w3.heap.size #[.slice ra r.l.length rc, .int .i64 ((r.at_ : Nat) : Int), .int .i64 r.most] 28], [rowT tyS (.slice a2_1 ((allH h).length) c2_1) 9 (allH h)], [rowT tyS (.slice a2_2 ((allH h3).length) c2_2) 9 (allH h3)]] := H18.on 0 rfl u16
                refine WL.op rfl (d_move rfl ?_)
                refine WL.op rfl (d_streq rfl rfl ?_)
                refine WL.op rfl (d_move rfl ?_)
                refine WL.part 107 (p := h4.now = h.now) rfl (fun g104 => ?_) (fun g104 => ?_)
                · skip
                  refine WL.opG rfl rfl rfl (d_move rfl ?_)
                  refine WL.opG rfl rfl rfl (d_call ok15 rfl (Ret.calls (all_any h4 g_1 pa4 pc4 na4 nc4 w20 (H20.hpOf 0 rfl)  (by omega)) fun _ w21 p13 => ?_))
                  obtain ⟨a2_3, c2_3, rfl, u17⟩ := p13
                  have H21 : UpG w [] w21 [[blk g_1 #[.slice pa4 h4.past.length pc4, .slice na4 h4.next.length nc4, .string h4.now, .int .i64 h4.most] 79, rowT tyS (.slice pa4 h4.past.length pc4) 9 h4.past, rowT tyS (.slice na4 h4.next.length nc4) 9 h4.next], [rowT tyS (.slice ra r.l.length rc) 9 r.l], [blk w3.heap.size #[.slice ra r.l.length rc, .int .i64 ((r.at_ : Nat) : Int), .int .i64 r.most] 28], [rowT tyS (.slice a2_1 ((allH h).length) c2_1) 9 (allH h)], [rowT tyS (.slice a2_2 ((allH h3).length) c2_2) 9 (allH h3)], [rowT tyS (.slice a2_3 ((allH h4).length) c2_3) 9 (allH h4)]] := (H20.onX (B := [blk g_1 #[.slice pa4 h4.past.length pc4, .slice na4 h4.next.length nc4, .string h4.now, .int .i64 h4.most] 79, rowT tyS (.slice pa4 h4.past.length pc4) 9 h4.past, rowT tyS (.slice na4 h4.next.length nc4) 9 h4.next]) (C := [rowT tyS (.slice a2_3 ((allH h4).length) c2_3) 9 (allH h4)]) 0 rfl u17).re rfl
                  refine WL.opG rfl rfl rfl (d_move rfl ?_)
                  refine WL.opG rfl rfl rfl (d_call ok19 rfl (Ret.calls (same_any a2_3 (allH h4) c2_3 a2_1 (allH h) c2_1 w21 (H21.rdT 5 rfl) (H21.rdT 3 rfl) ) fun _ w22 p14 => ?_))
                  obtain ⟨rfl, u18⟩ := p14
                  have H22 : UpG w [] w22 [[blk g_1 #[.slice pa4 h4.past.length pc4, .slice na4 h4.next.length nc4, .string h4.now, .int .i64 h4.most] 79, rowT tyS (.slice pa4 h4.past.length pc4) 9 h4.past, rowT tyS (.slice na4 h4.next.length nc4) 9 h4.next], [rowT tyS (.slice ra r.l.length rc) 9 r.l], [blk w3.heap.size #[.slice ra r.l.length rc, .int .i64 ((r.at_ : Nat) : Int), .int .i64 r.most] 28], [rowT tyS (.slice a2_1 ((allH h).length) c2_1) 9 (allH h)], [rowT tyS (.slice a2_2 ((allH h3).length) c2_2) 9 (allH h3)], [rowT tyS (.slice a2_3 ((allH h4).length) c2_3) 9 (allH h4)]] := H21.call u18
                  refine WL.op rfl (d_pick rfl rfl ?_)
                  refine WL.op rfl (d_assign rfl ?_)
                  refine WL.done (X.then_code ?_)
                  refine W.pick [6] (Γ' := [(6, .bool (decide ((allH h4) = (allH h))))]) rfl ?_
                  refine W.ret (X.ret1 rfl rfl ?_)
                  exact ⟨(by rw [decide_eq_true hd.all]), H22.noneL⟩
                · skip
                  exact absurd (hd.now (by omega)) g104
        · skip
          refine WL.opN rfl rfl rfl rfl ?_
          refine WL.opN rfl rfl rfl rfl ?_
          refine WL.opN rfl rfl rfl rfl ?_
          refine WL.opN rfl rfl rfl rfl ?_
          refine WL.op rfl (d_pick rfl rfl ?_)
          refine WL.op rfl (d_move rfl ?_)
          refine WL.opG rfl rfl rfl (d_move rfl ?_)
          refine WL.opG rfl rfl rfl (d_call ok15 rfl (Ret.calls (all_any h3 g_1 pa3 pc3 na3 nc3 w14 (H14.hpOf 0 rfl)  (by omega)) fun _ w23 p15 => ?_))
          obtain ⟨a2_4, c2_4, rfl, u19⟩ := p15
          have H23 : UpG w [] w23 [[blk g_1 #[.slice pa3 h3.past.length pc3, .slice na3 h3.next.length nc3, .string h3.now, .int .i64 h3.most] 79, rowT tyS (.slice pa3 h3.past.length pc3) 9 h3.past, rowT tyS (.slice na3 h3.next.length nc3) 9 h3.next], [rowT tyS (.slice ra r.l.length rc) 9 r.l], [blk w3.heap.size #[.slice ra r.l.length rc, .int .i64 ((r.at_ : Nat) : Int), .int .i64 r.most] 28], [rowT tyS (.slice a2_1 ((allH h).length) c2_1) 9 (allH h)], [rowT tyS (.slice a2_4 ((allH h3).length) c2_4) 9 (allH h3)]] := (H14.onX (B := [blk g_1 #[.slice pa3 h3.past.length pc3, .slice na3 h3.next.length nc3, .string h3.now, .int .i64 h3.most] 79, rowT tyS (.slice pa3 h3.past.length pc3) 9 h3.past, rowT tyS (.slice na3 h3.next.length nc3) 9 h3.next]) (C := [rowT tyS (.slice a2_4 ((allH h3).length) c2_4) 9 (allH h3)]) 0 rfl u19).re rfl
          refine WL.opG rfl rfl rfl (d_move rfl ?_)
          refine WL.opG rfl rfl rfl (d_call ok19 rfl (Ret.calls (same_any a2_4 (allH h3) c2_4 a2_1 (allH h) c2_1 w23 (H23.rdT 4 rfl) (H23.rdT 3 rfl) ) fun _ w24 p16 => ?_))
          obtain ⟨rfl, u20⟩ := p16
          have H24 : UpG w [] w24 [[blk g_1 #[.slice pa3 h3.past.length pc3, .slice na3 h3.next.length nc3, .string h3.now, .int .i64 h3.most] 79, rowT tyS (.slice pa3 h3.past.length pc3) 9 h3.past, rowT tyS (.slice na3 h3.next.length nc3) 9 h3.next], [rowT tyS (.slice ra r.l.length rc) 9 r.l], [blk w3.heap.size #[.slice ra r.l.length rc, .int .i64 ((r.at_ : Nat) : Int), .int .i64 r.most] 28], [rowT tyS (.slice a2_1 ((allH h).length) c2_1) 9 (allH h)], [rowT tyS (.slice a2_4 ((allH h3).length) c2_4) 9 (allH h3)]] := H23.call u20
          refine WL.opG rfl rfl rfl (d_notB rfl ?_)
          refine WL.op rfl (d_pick rfl rfl ?_)
          refine WL.done (X.then_code ?_)
          refine W.pick [90, 13, 12, 11, 7, 6] (Γ' := [(90, .bool (!(decide ((allH h3) = (allH h))))), (13, .int .i64 ((y : Nat) : Int)), (12, .string h.now), (11, .slice a2_1 ((allH h).length) c2_1), (7, .pointer (some ⟨g_1, 0, none⟩)), (6, .bool false)]) rfl ?_
          refine W.iteB (b := !(decide ((allH h3) = (allH h)))) rfl (fun c96 => ?_) (fun c96 => ?_)
          · skip
            exfalso; rw [decide_eq_true hb.all] at c96; exact absurd c96 (by decide)
          · skip
            refine W.skip (X.then_code ?_)
            refine W.seq ?_
            refine W.seq ?_
            refine W.region ?_
            refine WL.op rfl (d_assign rfl ?_)
            refine WL.done (X.then_code ?_)
            refine W.block ?_
            refine W.pick [19, 13, 12, 11, 7, 6] (Γ' := [(19, .int .i64 0), (13, .int .i64 ((y : Nat) : Int)), (12, .string h.now), (11, .slice a2_1 ((allH h).length) c2_1), (7, .pointer (some ⟨g_1, 0, none⟩)), (6, .bool false)]) rfl ?_
            refine W.loop (fun m Γ' w' => ∃ v : Nat, ∃ h4 : HistD, ∃ pa4 : Option Addr, ∃ pc4 : Nat, ∃ na4 : Option Addr, ∃ nc4 : Nat, Γ' = [(19, .int .i64 ((v : Nat) : Int)), (13, .int .i64 ((y : Nat) : Int)), (12, .string h.now), (11, .slice a2_1 ((allH h).length) c2_1), (7, .pointer (some ⟨g_1, 0, none⟩)), (6, .bool false)] ∧ UpG w [] w' [[blk g_1 #[.slice pa4 h4.past.length pc4, .slice na4 h4.next.length nc4, .string h4.now, .int .i64 h4.most] 79, rowT tyS (.slice pa4 h4.past.length pc4) 9 h4.past, rowT tyS (.slice na4 h4.next.length nc4) 9 h4.next], [rowT tyS (.slice ra r.l.length rc) 9 r.l], [blk w3.heap.size #[.slice ra r.l.length rc, .int .i64 ((r.at_ : Nat) : Int), .int .i64 r.most] 28], [rowT tyS (.slice a2_1 ((allH h).length) c2_1) 9 (allH h)], [rowT tyS (.slice a2_4 ((allH h3).length) c2_4) 9 (allH h3)]] ∧ (v ≤ y) ∧ (BackR h h4 y v) ∧ (h4.past.length + h4.next.length ≤ 60) ∧ m = y - v) (y - 0) ⟨0, h3, pa3, pc3, na3, nc3, rfl, H24, (by first | assumption | omega | simp), (by exact hb.redo), (by omega), rfl⟩ ?_
            rintro m4 Γ4 w25 ⟨v_1, h4_1, pa4_1, pc4_1, na4_1, nc4_1, rfl, H25, hv, hd, hlen4, rfl⟩
            refine W.seq ?_
            refine W.seq ?_
            refine W.region ?_
            refine WL.op rfl (d_move rfl ?_)
            refine WL.op rfl (d_move rfl ?_)
            refine WL.op rfl (d_cmp (decide (((v_1 : Nat) : Int) < ((y : Nat) : Int))) rfl rfl rfl ?_)
            refine WL.done (X.then_code ?_)
            refine W.ite (p := ((v_1 : Nat) : Int) < ((y : Nat) : Int)) rfl (fun c99 => ?_) (fun c99 => ?_)
            · skip
              refine W.skip (X.then_code ?_)
              refine W.seq ?_
              refine W.block ?_
              refine W.seq ?_
              refine W.region ?_
              refine WL.op rfl (d_move rfl ?_)
              refine WL.op rfl (d_call ok20 rfl (Ret.calls (redo_any h4_1 g_1 pa4_1 pc4_1 na4_1 nc4_1 w25 (H25.hpOf 0 rfl)  (by omega)) fun _ w26 p17 => ?_))
              obtain ⟨pa2_4, pc2_4, na2_4, nc2_4, rfl, u21⟩ := p17
              have H26 : UpG w [] w26 [[blk g_1 #[.slice pa2_4 (((redoH h4_1).1.past).length) pc2_4, .slice na2_4 (((redoH h4_1).1.next).length) nc2_4, .string ((redoH h4_1).1.now), .int .i64 ((redoH h4_1).1.most)] 79, rowT tyS (.slice pa2_4 (((redoH h4_1).1.past).length) pc2_4) 9 ((redoH h4_1).1.past), rowT tyS (.slice na2_4 (((redoH h4_1).1.next).length) nc2_4) 9 ((redoH h4_1).1.next)], [rowT tyS (.slice ra r.l.length rc) 9 r.l], [blk w3.heap.size #[.slice ra r.l.length rc, .int .i64 ((r.at_ : Nat) : Int), .int .i64 r.most] 28], [rowT tyS (.slice a2_1 ((allH h).length) c2_1) 9 (allH h)], [rowT tyS (.slice a2_4 ((allH h3).length) c2_4) 9 (allH h3)]] := H25.on 0 rfl u21
              refine WL.op rfl (d_move rfl ?_)
              refine WL.op rfl (d_extract rfl rfl ?_)
              refine WL.op rfl (d_extract rfl rfl ?_)
              refine WL.op rfl (d_assign rfl ?_)
              refine WL.op rfl (d_assign rfl ?_)
              refine WL.done (X.then_code ?_)
              refine W.seq ?_
              refine W.region ?_
              refine WL.op rfl (d_move rfl ?_)
              refine WL.op rfl (d_cmp (decide (((redoH h4_1).2.2) ≠ (0 : Int))) rfl rfl rfl ?_)
              refine WL.done (X.then_code ?_)
              refine W.pick [102, 101, 21, 100, 99, 96, 98, 97, 93, 92, 91, 19, 13, 12, 11, 7, 6] (Γ' := [(102, .bool (decide (((redoH h4_1).2.2) ≠ (0 : Int)))), (101, .int .i64 ((redoH h4_1).2.2)), (21, .int .i64 ((redoH h4_1).2.2)), (100, .int .i64 ((redoH h4_1).2.2)), (99, .string ((redoH h4_1).2.1)), (96, .tuple #[.string ((redoH h4_1).2.1), .int .i64 ((redoH h4_1).2.2)]), (98, .tuple #[.string ((redoH h4_1).2.1), .int .i64 ((redoH h4_1).2.2)]), (97, .pointer (some ⟨g_1, 0, none⟩)), (93, .bool (decide (((v_1 : Nat) : Int) < ((y : Nat) : Int)))), (92, .int .i64 ((y : Nat) : Int)), (91, .int .i64 ((v_1 : Nat) : Int)), (19, .int .i64 ((v_1 : Nat) : Int)), (13, .int .i64 ((y : Nat) : Int)), (12, .string h.now), (11, .slice a2_1 ((allH h).length) c2_1), (7, .pointer (some ⟨g_1, 0, none⟩)), (6, .bool false)]) rfl ?_
              refine W.ite (p := ((redoH h4_1).2.2) ≠ (0 : Int)) rfl (fun c100 => ?_) (fun c100 => ?_)
              · skip
                exfalso; exact c100 (hd.ok (by omega))
              · skip
                refine W.skip (X.block_normal (X.then_code ?_))
                refine W.pick [102, 101, 21, 100, 99, 96, 98, 97, 93, 92, 91, 19, 13, 12, 11, 7, 6] (Γ' := [(102, .bool (decide (((redoH h4_1).2.2) ≠ (0 : Int)))), (101, .int .i64 ((redoH h4_1).2.2)), (21, .int .i64 ((redoH h4_1).2.2)), (100, .int .i64 ((redoH h4_1).2.2)), (99, .string ((redoH h4_1).2.1)), (96, .tuple #[.string ((redoH h4_1).2.1), .int .i64 ((redoH h4_1).2.2)]), (98, .tuple #[.string ((redoH h4_1).2.1), .int .i64 ((redoH h4_1).2.2)]), (97, .pointer (some ⟨g_1, 0, none⟩)), (93, .bool (decide (((v_1 : Nat) : Int) < ((y : Nat) : Int)))), (92, .int .i64 ((y : Nat) : Int)), (91, .int .i64 ((v_1 : Nat) : Int)), (19, .int .i64 ((v_1 : Nat) : Int)), (13, .int .i64 ((y : Nat) : Int)), (12, .string h.now), (11, .slice a2_1 ((allH h).length) c2_1), (7, .pointer (some ⟨g_1, 0, none⟩)), (6, .bool false)]) rfl ?_
                refine W.region ?_
                refine WL.op rfl (d_move rfl ?_)
                refine WL.op rfl (d_add rfl rfl (by omega) (by omega) ?_)
                refine WL.op rfl (d_assign rfl ?_)
                refine WL.done ?_
                exact X.next [19, 13, 12, 11, 7, 6] (Γ' := [(19, .int .i64 (((v_1 + 1) : Nat) : Int)), (13, .int .i64 ((y : Nat) : Int)), (12, .string h.now), (11, .slice a2_1 ((allH h).length) c2_1), (7, .pointer (some ⟨g_1, 0, none⟩)), (6, .bool false)]) rfl (y - (v_1 + 1)) (by omega) ⟨v_1 + 1, (redoH h4_1).1, pa2_4, pc2_4, na2_4, nc2_4, rfl, (H26.re rfl), (by first | assumption | omega | simp), (by exact hd.step (by omega)), (by rw [redoH_len]; exact hlen4), rfl⟩
            · skip
              refine W.exit (X.then_exit (X.then_exit (X.block_exit (X.then_code ?_))))
              refine W.seq ?_
              refine W.region ?_
              refine WL.op rfl (d_move rfl ?_)
              refine WL.op rfl (d_call ok16 rfl (Ret.calls (now_any h4_1 g_1 pa4_1 pc4_1 na4_1 nc4_1 w25 (H25.hpOf 0 rfl)  ) fun _ w27 p18 => ?_))
              obtain ⟨rfl, u22⟩ := p18
              have H27 : UpG w [] w27 [[blk g_1 #[.slice pa4_1 h4_1.past.length pc4_1, .slice na4_1 h4_1.next.length nc4_1, .string h4_1.now, .int .i64 h4_1.most] 79, rowT tyS (.slice pa4_1 h4_1.past.length pc4_1) 9 h4_1.past, rowT tyS (.slice na4_1 h4_1.next.length nc4_1) 9 h4_1.next], [rowT tyS (.slice ra r.l.length rc) 9 r.l], [blk w3.heap.size #[.slice ra r.l.length rc, .int .i64 ((r.at_ : Nat) : Int), .int .i64 r.most] 28], [rowT tyS (.slice a2_1 ((allH h).length) c2_1) 9 (allH h)], [rowT tyS (.slice a2_4 ((allH h3).length) c2_4) 9 (allH h3)]] := H25.on 0 rfl u22
              refine WL.op rfl (d_move rfl ?_)
              refine WL.op rfl (d_streq rfl rfl ?_)
              refine WL.op rfl (d_move rfl ?_)
              refine WL.part 107 (p := h4_1.now = h.now) rfl (fun g104 => ?_) (fun g104 => ?_)
              · skip
                refine WL.opG rfl rfl rfl (d_move rfl ?_)
                refine WL.opG rfl rfl rfl (d_call ok15 rfl (Ret.calls (all_any h4_1 g_1 pa4_1 pc4_1 na4_1 nc4_1 w27 (H27.hpOf 0 rfl)  (by omega)) fun _ w28 p19 => ?_))
                obtain ⟨a2_5, c2_5, rfl, u23⟩ := p19
                have H28 : UpG w [] w28 [[blk g_1 #[.slice pa4_1 h4_1.past.length pc4_1, .slice na4_1 h4_1.next.length nc4_1, .string h4_1.now, .int .i64 h4_1.most] 79, rowT tyS (.slice pa4_1 h4_1.past.length pc4_1) 9 h4_1.past, rowT tyS (.slice na4_1 h4_1.next.length nc4_1) 9 h4_1.next], [rowT tyS (.slice ra r.l.length rc) 9 r.l], [blk w3.heap.size #[.slice ra r.l.length rc, .int .i64 ((r.at_ : Nat) : Int), .int .i64 r.most] 28], [rowT tyS (.slice a2_1 ((allH h).length) c2_1) 9 (allH h)], [rowT tyS (.slice a2_4 ((allH h3).length) c2_4) 9 (allH h3)], [rowT tyS (.slice a2_5 ((allH h4_1).length) c2_5) 9 (allH h4_1)]] := (H27.onX (B := [blk g_1 #[.slice pa4_1 h4_1.past.length pc4_1, .slice na4_1 h4_1.next.length nc4_1, .string h4_1.now, .int .i64 h4_1.most] 79, rowT tyS (.slice pa4_1 h4_1.past.length pc4_1) 9 h4_1.past, rowT tyS (.slice na4_1 h4_1.next.length nc4_1) 9 h4_1.next]) (C := [rowT tyS (.slice a2_5 ((allH h4_1).length) c2_5) 9 (allH h4_1)]) 0 rfl u23).re rfl
                refine WL.opG rfl rfl rfl (d_move rfl ?_)
                refine WL.opG rfl rfl rfl (d_call ok19 rfl (Ret.calls (same_any a2_5 (allH h4_1) c2_5 a2_1 (allH h) c2_1 w28 (H28.rdT 5 rfl) (H28.rdT 3 rfl) ) fun _ w29 p20 => ?_))
                obtain ⟨rfl, u24⟩ := p20
                have H29 : UpG w [] w29 [[blk g_1 #[.slice pa4_1 h4_1.past.length pc4_1, .slice na4_1 h4_1.next.length nc4_1, .string h4_1.now, .int .i64 h4_1.most] 79, rowT tyS (.slice pa4_1 h4_1.past.length pc4_1) 9 h4_1.past, rowT tyS (.slice na4_1 h4_1.next.length nc4_1) 9 h4_1.next], [rowT tyS (.slice ra r.l.length rc) 9 r.l], [blk w3.heap.size #[.slice ra r.l.length rc, .int .i64 ((r.at_ : Nat) : Int), .int .i64 r.most] 28], [rowT tyS (.slice a2_1 ((allH h).length) c2_1) 9 (allH h)], [rowT tyS (.slice a2_4 ((allH h3).length) c2_4) 9 (allH h3)], [rowT tyS (.slice a2_5 ((allH h4_1).length) c2_5) 9 (allH h4_1)]] := H28.call u24
                refine WL.op rfl (d_pick rfl rfl ?_)
                refine WL.op rfl (d_assign rfl ?_)
                refine WL.done (X.then_code ?_)
                refine W.pick [6] (Γ' := [(6, .bool (decide ((allH h4_1) = (allH h))))]) rfl ?_
                refine W.ret (X.ret1 rfl rfl ?_)
                exact ⟨(by rw [decide_eq_true hd.all]), H29.noneL⟩
              · skip
                exact absurd (hd.now (by omega)) g104
  · skip
    refine WL.opN rfl rfl rfl rfl ?_
    refine WL.opN rfl rfl rfl rfl ?_
    refine WL.op rfl (d_pick rfl rfl ?_)
    refine WL.done (X.then_code ?_)
    refine W.iff rfl ?_
    refine W.exit (X.then_exit (X.then_exit (X.block_exit (X.then_code ?_))))
    refine W.seq ?_
    refine W.region ?_
    refine WL.op rfl (d_move rfl ?_)
    refine WL.op rfl (d_call ok15 rfl (Ret.calls (all_any h g_1 pa pc na nc w6 (H6.hpOf 0 rfl)  (by omega)) fun _ w30 p21 => ?_))
    obtain ⟨a2_6, c2_6, rfl, u25⟩ := p21
    have H30 : UpG w [] w30 [[blk g_1 #[.slice pa h.past.length pc, .slice na h.next.length nc, .string h.now, .int .i64 h.most] 79, rowT tyS (.slice pa h.past.length pc) 9 h.past, rowT tyS (.slice na h.next.length nc) 9 h.next], [rowT tyS (.slice ra r.l.length rc) 9 r.l], [blk w3.heap.size #[.slice ra r.l.length rc, .int .i64 ((r.at_ : Nat) : Int), .int .i64 r.most] 28], [rowT tyS (.slice a2_6 ((allH h).length) c2_6) 9 (allH h)]] := (H6.onX (B := [blk g_1 #[.slice pa h.past.length pc, .slice na h.next.length nc, .string h.now, .int .i64 h.most] 79, rowT tyS (.slice pa h.past.length pc) 9 h.past, rowT tyS (.slice na h.next.length nc) 9 h.next]) (C := [rowT tyS (.slice a2_6 ((allH h).length) c2_6) 9 (allH h)]) 0 rfl u25).re rfl
    refine WL.op rfl (d_assign rfl ?_)
    refine WL.done (X.then_code ?_)
    refine W.pick [11, 7, 6, 0, 2] (Γ' := [(11, .slice a2_6 ((allH h).length) c2_6), (7, .pointer (some ⟨g_1, 0, none⟩)), (6, .bool false), (0, .string first), (2, .int .u8 n)]) rfl ?_
    refine W.seq ?_
    refine W.region ?_
    refine WL.op rfl (d_move rfl ?_)
    refine WL.op rfl (d_call ok16 rfl (Ret.calls (now_any h g_1 pa pc na nc w30 (H30.hpOf 0 rfl)  ) fun _ w31 p22 => ?_))
    obtain ⟨rfl, u26⟩ := p22
    have H31 : UpG w [] w31 [[blk g_1 #[.slice pa h.past.length pc, .slice na h.next.length nc, .string h.now, .int .i64 h.most] 79, rowT tyS (.slice pa h.past.length pc) 9 h.past, rowT tyS (.slice na h.next.length nc) 9 h.next], [rowT tyS (.slice ra r.l.length rc) 9 r.l], [blk w3.heap.size #[.slice ra r.l.length rc, .int .i64 ((r.at_ : Nat) : Int), .int .i64 r.most] 28], [rowT tyS (.slice a2_6 ((allH h).length) c2_6) 9 (allH h)]] := H30.on 0 rfl u26
    refine WL.op rfl (d_assign rfl ?_)
    refine WL.done (X.then_code ?_)
    refine W.seq ?_
    refine W.region ?_
    refine WL.op rfl (d_assign rfl ?_)
    refine WL.done (X.then_code ?_)
    refine W.seq ?_
    refine W.seq ?_
    refine W.region ?_
    refine WL.op rfl (d_assign rfl ?_)
    refine WL.done (X.then_code ?_)
    refine W.block ?_
    refine W.pick [14, 13, 12, 11, 7, 6, 0, 2] (Γ' := [(14, .int .i64 0), (13, .int .i64 0), (12, .string h.now), (11, .slice a2_6 ((allH h).length) c2_6), (7, .pointer (some ⟨g_1, 0, none⟩)), (6, .bool false), (0, .string first), (2, .int .u8 n)]) rfl ?_
    refine W.loop (fun m Γ' w' => ∃ u : Nat, ∃ y : Nat, ∃ h3 : HistD, ∃ pa3 : Option Addr, ∃ pc3 : Nat, ∃ na3 : Option Addr, ∃ nc3 : Nat, Γ' = [(14, .int .i64 ((u : Nat) : Int)), (13, .int .i64 ((y : Nat) : Int)), (12, .string h.now), (11, .slice a2_6 ((allH h).length) c2_6), (7, .pointer (some ⟨g_1, 0, none⟩)), (6, .bool false), (0, .string first), (2, .int .u8 n)] ∧ UpG w [] w' [[blk g_1 #[.slice pa3 h3.past.length pc3, .slice na3 h3.next.length nc3, .string h3.now, .int .i64 h3.most] 79, rowT tyS (.slice pa3 h3.past.length pc3) 9 h3.past, rowT tyS (.slice na3 h3.next.length nc3) 9 h3.next], [rowT tyS (.slice ra r.l.length rc) 9 r.l], [blk w3.heap.size #[.slice ra r.l.length rc, .int .i64 ((r.at_ : Nat) : Int), .int .i64 r.most] 28], [rowT tyS (.slice a2_6 ((allH h).length) c2_6) 9 (allH h)]] ∧ ((u : Int) ≤ n % 80) ∧ (y ≤ u) ∧ (BackU h h3 y) ∧ (h3.past.length + h3.next.length ≤ 60) ∧ m = (n % 80).toNat - u) ((n % 80).toNat - 0) ⟨0, 0, h, pa, pc, na, nc, rfl, H31, (by omega), (by first | assumption | omega | simp), (by exact BackU.start h), (by omega), rfl⟩ ?_
    rintro m5 Γ5 w32 ⟨u_1, y_1, h3_1, pa3_1, pc3_1, na3_1, nc3_1, rfl, H32, hu, hyu, hb, hlen3, rfl⟩
    refine W.seq ?_
    refine W.seq ?_
    refine W.region ?_
    refine WL.op rfl (d_move rfl ?_)
    refine WL.op rfl (d_move rfl ?_)
    refine WL.op rfl (d_remN rfl rfl (by omega) (by omega) ?_)
    refine WL.op rfl (d_convI (kd := .i64) Try.underlying5 Try.underlying3 rfl (by simp [IntKind.signed, IntKind.bits, IntKind.max]; omega) ?_)
    refine WL.op rfl (d_cmp (decide (((u_1 : Nat) : Int) < (n % 80))) rfl rfl rfl ?_)
    refine WL.done (X.then_code ?_)
    refine W.ite (p := ((u_1 : Nat) : Int) < (n % 80)) rfl (fun c91 => ?_) (fun c91 => ?_)
    · skip
      refine W.skip (X.then_code ?_)
      refine W.seq ?_
      refine W.block ?_
      refine W.seq ?_
      refine W.region ?_
      refine WL.op rfl (d_move rfl ?_)
      refine WL.op rfl (d_call ok17 rfl (Ret.calls (undo_any h3_1 g_1 pa3_1 pc3_1 na3_1 nc3_1 w32 (H32.hpOf 0 rfl)  (by omega)) fun _ w33 p23 => ?_))
      obtain ⟨pa2_5, pc2_5, na2_5, nc2_5, rfl, u27⟩ := p23
      have H33 : UpG w [] w33 [[blk g_1 #[.slice pa2_5 (((undoH h3_1).1.past).length) pc2_5, .slice na2_5 (((undoH h3_1).1.next).length) nc2_5, .string ((undoH h3_1).1.now), .int .i64 ((undoH h3_1).1.most)] 79, rowT tyS (.slice pa2_5 (((undoH h3_1).1.past).length) pc2_5) 9 ((undoH h3_1).1.past), rowT tyS (.slice na2_5 (((undoH h3_1).1.next).length) nc2_5) 9 ((undoH h3_1).1.next)], [rowT tyS (.slice ra r.l.length rc) 9 r.l], [blk w3.heap.size #[.slice ra r.l.length rc, .int .i64 ((r.at_ : Nat) : Int), .int .i64 r.most] 28], [rowT tyS (.slice a2_6 ((allH h).length) c2_6) 9 (allH h)]] := H32.on 0 rfl u27
      refine WL.op rfl (d_move rfl ?_)
      refine WL.op rfl (d_extract rfl rfl ?_)
      refine WL.op rfl (d_extract rfl rfl ?_)
      refine WL.op rfl (d_assign rfl ?_)
      refine WL.op rfl (d_assign rfl ?_)
      refine WL.done (X.then_code ?_)
      refine W.pick [16, 66, 65, 62, 64, 63, 59, 58, 57, 56, 55, 14, 13, 12, 11, 7, 6, 0, 2] (Γ' := [(16, .int .i64 ((undoH h3_1).2.2)), (66, .int .i64 ((undoH h3_1).2.2)), (65, .string ((undoH h3_1).2.1)), (62, .tuple #[.string ((undoH h3_1).2.1), .int .i64 ((undoH h3_1).2.2)]), (64, .tuple #[.string ((undoH h3_1).2.1), .int .i64 ((undoH h3_1).2.2)]), (63, .pointer (some ⟨g_1, 0, none⟩)), (59, .bool (decide (((u_1 : Nat) : Int) < (n % 80)))), (58, .int .i64 (n % 80)), (57, .int .u8 (n % 80)), (56, .int .u8 n), (55, .int .i64 ((u_1 : Nat) : Int)), (14, .int .i64 ((u_1 : Nat) : Int)), (13, .int .i64 ((y_1 : Nat) : Int)), (12, .string h.now), (11, .slice a2_6 ((allH h).length) c2_6), (7, .pointer (some ⟨g_1, 0, none⟩)), (6, .bool false), (0, .string first), (2, .int .u8 n)]) rfl ?_
      refine W.seq ?_
      refine W.region ?_
      refine WL.op rfl (d_move rfl ?_)
      refine WL.op rfl (d_cmp (decide (((undoH h3_1).2.2) = (0 : Int))) rfl rfl rfl ?_)
      refine WL.done (X.then_code ?_)
      refine W.pick [68, 67, 16, 66, 65, 62, 64, 63, 59, 58, 57, 56, 55, 14, 13, 12, 11, 7, 6, 0, 2] (Γ' := [(68, .bool (decide (((undoH h3_1).2.2) = (0 : Int)))), (67, .int .i64 ((undoH h3_1).2.2)), (16, .int .i64 ((undoH h3_1).2.2)), (66, .int .i64 ((undoH h3_1).2.2)), (65, .string ((undoH h3_1).2.1)), (62, .tuple #[.string ((undoH h3_1).2.1), .int .i64 ((undoH h3_1).2.2)]), (64, .tuple #[.string ((undoH h3_1).2.1), .int .i64 ((undoH h3_1).2.2)]), (63, .pointer (some ⟨g_1, 0, none⟩)), (59, .bool (decide (((u_1 : Nat) : Int) < (n % 80)))), (58, .int .i64 (n % 80)), (57, .int .u8 (n % 80)), (56, .int .u8 n), (55, .int .i64 ((u_1 : Nat) : Int)), (14, .int .i64 ((u_1 : Nat) : Int)), (13, .int .i64 ((y_1 : Nat) : Int)), (12, .string h.now), (11, .slice a2_6 ((allH h).length) c2_6), (7, .pointer (some ⟨g_1, 0, none⟩)), (6, .bool false), (0, .string first), (2, .int .u8 n)]) rfl ?_
      refine W.ite (p := ((undoH h3_1).2.2) = (0 : Int)) rfl (fun c92 => ?_) (fun c92 => ?_)
      · skip
        refine W.region ?_
        refine WL.op rfl (d_move rfl ?_)
        refine WL.op rfl (d_add rfl rfl (by omega) (by omega) ?_)
        refine WL.op rfl (d_assign rfl ?_)
        refine WL.done (X.block_normal (X.then_code ?_))
        refine W.pick [13, 70, 69, 68, 67, 16, 66, 65, 62, 64, 63, 59, 58, 57, 56, 55, 14, 12, 11, 7, 6, 0, 2] (Γ' := [(13, .int .i64 (((y_1 : Nat) : Int) + 1)), (70, .int .i64 (((y_1 : Nat) : Int) + 1)), (69, .int .i64 ((y_1 : Nat) : Int)), (68, .bool (decide (((undoH h3_1).2.2) = (0 : Int)))), (67, .int .i64 ((undoH h3_1).2.2)), (16, .int .i64 ((undoH h3_1).2.2)), (66, .int .i64 ((undoH h3_1).2.2)), (65, .string ((undoH h3_1).2.1)), (62, .tuple #[.string ((undoH h3_1).2.1), .int .i64 ((undoH h3_1).2.2)]), (64, .tuple #[.string ((undoH h3_1).2.1), .int .i64 ((undoH h3_1).2.2)]), (63, .pointer (some ⟨g_1, 0, none⟩)), (59, .bool (decide (((u_1 : Nat) : Int) < (n % 80)))), (58, .int .i64 (n % 80)), (57, .int .u8 (n % 80)), (56, .int .u8 n), (55, .int .i64 ((u_1 : Nat) : Int)), (14, .int .i64 ((u_1 : Nat) : Int)), (12, .string h.now), (11, .slice a2_6 ((allH h).length) c2_6), (7, .pointer (some ⟨g_1, 0, none⟩)), (6, .bool false), (0, .string first), (2, .int .u8 n)]) rfl ?_
        refine W.region ?_
        refine WL.op rfl (d_move rfl ?_)
        refine WL.op rfl (d_add rfl rfl (by omega) (by omega) ?_)
        refine WL.op rfl (d_assign rfl ?_)
        refine WL.done ?_
        exact X.next [14, 13, 12, 11, 7, 6, 0, 2] (Γ' := [(14, .int .i64 (((u_1 + 1) : Nat) : Int)), (13, .int .i64 (((y_1 + 1) : Nat) : Int)), (12, .string h.now), (11, .slice a2_6 ((allH h).length) c2_6), (7, .pointer (some ⟨g_1, 0, none⟩)), (6, .bool false), (0, .string first), (2, .int .u8 n)]) rfl ((n % 80).toNat - (u_1 + 1)) (by omega) ⟨u_1 + 1, y_1 + 1, (undoH h3_1).1, pa2_5, pc2_5, na2_5, nc2_5, rfl, (H33.re rfl), (by omega), (by first | assumption | omega | simp), (by first | exact hb.yes c92 | exact hb.no c92), (by rw [undoH_len]; exact hlen3), rfl⟩
      · skip
        refine W.skip (X.block_normal (X.then_code ?_))
        refine W.pick [68, 67, 16, 66, 65, 62, 64, 63, 59, 58, 57, 56, 55, 14, 13, 12, 11, 7, 6, 0, 2] (Γ' := [(68, .bool (decide (((undoH h3_1).2.2) = (0 : Int)))), (67, .int .i64 ((undoH h3_1).2.2)), (16, .int .i64 ((undoH h3_1).2.2)), (66, .int .i64 ((undoH h3_1).2.2)), (65, .string ((undoH h3_1).2.1)), (62, .tuple #[.string ((undoH h3_1).2.1), .int .i64 ((undoH h3_1).2.2)]), (64, .tuple #[.string ((undoH h3_1).2.1), .int .i64 ((undoH h3_1).2.2)]), (63, .pointer (some ⟨g_1, 0, none⟩)), (59, .bool (decide (((u_1 : Nat) : Int) < (n % 80)))), (58, .int .i64 (n % 80)), (57, .int .u8 (n % 80)), (56, .int .u8 n), (55, .int .i64 ((u_1 : Nat) : Int)), (14, .int .i64 ((u_1 : Nat) : Int)), (13, .int .i64 ((y_1 : Nat) : Int)), (12, .string h.now), (11, .slice a2_6 ((allH h).length) c2_6), (7, .pointer (some ⟨g_1, 0, none⟩)), (6, .bool false), (0, .string first), (2, .int .u8 n)]) rfl ?_
        refine W.region ?_
        refine WL.op rfl (d_move rfl ?_)
        refine WL.op rfl (d_add rfl rfl (by omega) (by omega) ?_)
        refine WL.op rfl (d_assign rfl ?_)
        refine WL.done ?_
        exact X.next [14, 13, 12, 11, 7, 6, 0, 2] (Γ' := [(14, .int .i64 (((u_1 + 1) : Nat) : Int)), (13, .int .i64 ((y_1 : Nat) : Int)), (12, .string h.now), (11, .slice a2_6 ((allH h).length) c2_6), (7, .pointer (some ⟨g_1, 0, none⟩)), (6, .bool false), (0, .string first), (2, .int .u8 n)]) rfl ((n % 80).toNat - (u_1 + 1)) (by omega) ⟨u_1 + 1, y_1, (undoH h3_1).1, pa2_5, pc2_5, na2_5, nc2_5, rfl, (H33.re rfl), (by omega), (by first | assumption | omega | simp), (by first | exact hb.yes c92 | exact hb.no c92), (by rw [undoH_len]; exact hlen3), rfl⟩
    · skip
      refine W.exit (X.then_exit (X.then_exit (X.block_exit (X.then_code ?_))))
      refine W.seq ?_
      refine W.seq ?_
      refine W.region ?_
      refine WL.op rfl (d_move rfl ?_)
      refine WL.op rfl (d_call ok18 rfl (Ret.calls (sizes_any h3_1 g_1 pa3_1 pc3_1 na3_1 nc3_1 w32 (H32.hpOf 0 rfl)  ) fun _ w34 p24 => ?_))
      obtain ⟨rfl, u28⟩ := p24
      have H34 : UpG w [] w34 [[blk g_1 #[.slice pa3_1 h3_1.past.length pc3_1, .slice na3_1 h3_1.next.length nc3_1, .string h3_1.now, .int .i64 h3_1.most] 79, rowT tyS (.slice pa3_1 h3_1.past.length pc3_1) 9 h3_1.past, rowT tyS (.slice na3_1 h3_1.next.length nc3_1) 9 h3_1.next], [rowT tyS (.slice ra r.l.length rc) 9 r.l], [blk w3.heap.size #[.slice ra r.l.length rc, .int .i64 ((r.at_ : Nat) : Int), .int .i64 r.most] 28], [rowT tyS (.slice a2_6 ((allH h).length) c2_6) 9 (allH h)]] := H32.on 0 rfl u28
      refine WL.op rfl (d_move rfl ?_)
      refine WL.op rfl (d_extract rfl rfl ?_)
      refine WL.op rfl (d_extract rfl rfl ?_)
      refine WL.op rfl (d_assign rfl ?_)
      refine WL.op rfl (d_assign rfl ?_)
      refine WL.done (X.then_code ?_)
      refine W.pick [17, 13, 12, 11, 7, 6, 0] (Γ' := [(17, .int .i64 ((h3_1.past.length : Nat) : Int)), (13, .int .i64 ((y_1 : Nat) : Int)), (12, .string h.now), (11, .slice a2_6 ((allH h).length) c2_6), (7, .pointer (some ⟨g_1, 0, none⟩)), (6, .bool false), (0, .string first)]) rfl ?_
      refine W.seq ?_
      refine W.region ?_
      refine WL.op rfl (d_move rfl ?_)
      refine WL.op rfl (d_cmp (decide (((h3_1.past.length : Nat) : Int) = (0 : Int))) rfl rfl rfl ?_)
      refine WL.op rfl (d_move rfl ?_)
      refine WL.part 78 (p := ((h3_1.past.length : Nat) : Int) = (0 : Int)) rfl (fun g96 => ?_) (fun g96 => ?_)
      · skip
        refine WL.opG rfl rfl rfl (d_move rfl ?_)
        refine WL.opG rfl rfl rfl (d_call ok16 rfl (Ret.calls (now_any h3_1 g_1 pa3_1 pc3_1 na3_1 nc3_1 w34 (H34.hpOf 0 rfl)  ) fun _ w35 p25 => ?_))
        obtain ⟨rfl, u29⟩ := p25
        have H35 : UpG w [] w35 [[blk g_1 #[.slice pa3_1 h3_1.past.length pc3_1, .slice na3_1 h3_1.next.length nc3_1, .string h3_1.now, .int .i64 h3_1.most] 79, rowT tyS (.slice pa3_1 h3_1.past.length pc3_1) 9 h3_1.past, rowT tyS (.slice na3_1 h3_1.next.length nc3_1) 9 h3_1.next], [rowT tyS (.slice ra r.l.length rc) 9 r.l], [blk w3.heap.size #[.slice ra r.l.length rc, .int .i64 ((r.at_ : Nat) : Int), .int .i64 r.most] 28], [rowT tyS (.slice a2_6 ((allH h).length) c2_6) 9 (allH h)]] := H34.on 0 rfl u29
        refine WL.opG rfl rfl rfl (d_move rfl ?_)
        refine WL.opG rfl rfl rfl (d_strne rfl rfl ?_)
        refine WL.op rfl (d_pick rfl rfl ?_)
        refine WL.op rfl (d_move rfl ?_)
        refine WL.part 84 (p := h3_1.now ≠ first) rfl (fun g96x => ?_) (fun g96x => ?_)
        · skip
          exact absurd (hb.first hq (by omega)) g96x
        · skip
          refine WL.opG rfl rfl rfl (d_move rfl ?_)
          refine WL.opG rfl rfl rfl (d_call ok15 rfl (Ret.calls (all_any h3_1 g_1 pa3_1 pc3_1 na3_1 nc3_1 w35 (H35.hpOf 0 rfl)  (by omega)) fun _ w36 p26 => ?_))
          obtain ⟨a2_7, c2_7, rfl, u30⟩ := p26
          have H36 : UpG w [] w36 [[blk g_1 #[.slice pa3_1 h3_1.past.length pc3_1, .slice na3_1 h3_1.next.length nc3_1, .string h3_1.now, .int .i64 h3_1.most] 79, rowT tyS (.slice pa3_1 h3_1.past.length pc3_1) 9 h3_1.past, rowT tyS (.slice na3_1 h3_1.next.length nc3_1) 9 h3_1.next], [rowT tyS (.slice ra r.l.length rc) 9 r.l], [blk w3.heap.size #[.slice ra r.l.length rc, .int .i64 ((r.at_ : Nat) : Int), .int .i64 r.most] 28], [rowT tyS (.slice a2_6 ((allH h).length) c2_6) 9 (allH h)], [rowT tyS (.slice a2_7 ((allH h3_1).length) c2_7) 9 (allH h3_1)]] := (H35.onX (B := [blk g_1 #[.slice pa3_1 h3_1.past.length pc3_1, .slice na3_1 h3_1.next.length nc3_1, .string h3_1.now, .int .i64 h3_1.most] 79, rowT tyS (.slice pa3_1 h3_1.past.length pc3_1) 9 h3_1.past, rowT tyS (.slice na3_1 h3_1.next.length nc3_1) 9 h3_1.next]) (C := [rowT tyS (.slice a2_7 ((allH h3_1).length) c2_7) 9 (allH h3_1)]) 0 rfl u30).re rfl
          refine WL.opG rfl rfl rfl (d_move rfl ?_)
          refine WL.opG rfl rfl rfl (d_call ok19 rfl (Ret.calls (same_any a2_7 (allH h3_1) c2_7 a2_6 (allH h) c2_6 w36 (H36.rdT 4 rfl) (H36.rdT 3 rfl) ) fun _ w37 p27 => ?_))
          obtain ⟨rfl, u31⟩ := p27
          have H37 : UpG w [] w37 [[blk g_1 #[.slice pa3_1 h3_1.past.length pc3_1, .slice na3_1 h3_1.next.length nc3_1, .string h3_1.now, .int .i64 h3_1.most] 79, rowT tyS (.slice pa3_1 h3_1.past.length pc3_1) 9 h3_1.past, rowT tyS (.slice na3_1 h3_1.next.length nc3_1) 9 h3_1.next], [rowT tyS (.slice ra r.l.length rc) 9 r.l], [blk w3.heap.size #[.slice ra r.l.length rc, .int .i64 ((r.at_ : Nat) : Int), .int .i64 r.most] 28], [rowT tyS (.slice a2_6 ((allH h).length) c2_6) 9 (allH h)], [rowT tyS (.slice a2_7 ((allH h3_1).length) c2_7) 9 (allH h3_1)]] := H36.call u31
          refine WL.opG rfl rfl rfl (d_notB rfl ?_)
          refine WL.op rfl (d_pick rfl rfl ?_)
          refine WL.done (X.then_code ?_)
          refine W.pick [90, 13, 12, 11, 7, 6] (Γ' := [(90, .bool (!(decide ((allH h3_1) = (allH h))))), (13, .int .i64 ((y_1 : Nat) : Int)), (12, .string h.now), (11, .slice a2_6 ((allH h).length) c2_6), (7, .pointer (some ⟨g_1, 0, none⟩)), (6, .bool false)]) rfl ?_
          refine W.iteB (b := !(decide ((allH h3_1) = (allH h)))) rfl (fun c96 => ?_) (fun c96 => ?_)
          · skip
            exfalso; rw [decide_eq_true hb.all] at c96; exact absurd c96 (by decide)
          · skip
            refine W.skip (X.then_code ?_)
            refine W.seq ?_
            refine W.seq ?_
            refine W.region ?_
            refine WL.op rfl (d_assign rfl ?_)
            refine WL.done (X.then_code ?_)
            refine W.block ?_
            refine W.pick [19, 13, 12, 11, 7, 6] (Γ' := [(19, .int .i64 0), (13, .int .i64 ((y_1 : Nat) : Int)), (12, .string h.now), (11, .slice a2_6 ((allH h).length) c2_6), (7, .pointer (some ⟨g_1, 0, none⟩)), (6, .bool false)]) rfl ?_
            refine W.loop (fun m Γ' w' => ∃ v : Nat, ∃ h4 : HistD, ∃ pa4 : Option Addr, ∃ pc4 : Nat, ∃ na4 : Option Addr, ∃ nc4 : Nat, Γ' = [(19, .int .i64 ((v : Nat) : Int)), (13, .int .i64 ((y_1 : Nat) : Int)), (12, .string h.now), (11, .slice a2_6 ((allH h).length) c2_6), (7, .pointer (some ⟨g_1, 0, none⟩)), (6, .bool false)] ∧ UpG w [] w' [[blk g_1 #[.slice pa4 h4.past.length pc4, .slice na4 h4.next.length nc4, .string h4.now, .int .i64 h4.most] 79, rowT tyS (.slice pa4 h4.past.length pc4) 9 h4.past, rowT tyS (.slice na4 h4.next.length nc4) 9 h4.next], [rowT tyS (.slice ra r.l.length rc) 9 r.l], [blk w3.heap.size #[.slice ra r.l.length rc, .int .i64 ((r.at_ : Nat) : Int), .int .i64 r.most] 28], [rowT tyS (.slice a2_6 ((allH h).length) c2_6) 9 (allH h)], [rowT tyS (.slice a2_7 ((allH h3_1).length) c2_7) 9 (allH h3_1)]] ∧ (v ≤ y_1) ∧ (BackR h h4 y_1 v) ∧ (h4.past.length + h4.next.length ≤ 60) ∧ m = y_1 - v) (y_1 - 0) ⟨0, h3_1, pa3_1, pc3_1, na3_1, nc3_1, rfl, H37, (by first | assumption | omega | simp), (by exact hb.redo), (by omega), rfl⟩ ?_
            rintro m6 Γ6 w38 ⟨v_2, h4_2, pa4_2, pc4_2, na4_2, nc4_2, rfl, H38, hv, hd, hlen4, rfl⟩
            refine W.seq ?_
            refine W.seq ?_
            refine W.region ?_
            refine WL.op rfl (d_move rfl ?_)
            refine WL.op rfl (d_move rfl ?_)
            refine WL.op rfl (d_cmp (decide (((v_2 : Nat) : Int) < ((y_1 : Nat) : Int))) rfl rfl rfl ?_)
            refine WL.done (X.then_code ?_)
            refine W.ite (p := ((v_2 : Nat) : Int) < ((y_1 : Nat) : Int)) rfl (fun c99 => ?_) (fun c99 => ?_)
            · skip
              refine W.skip (X.then_code ?_)
              refine W.seq ?_
              refine W.block ?_
              refine W.seq ?_
              refine W.region ?_
              refine WL.op rfl (d_move rfl ?_)
              refine WL.op rfl (d_call ok20 rfl (Ret.calls (redo_any h4_2 g_1 pa4_2 pc4_2 na4_2 nc4_2 w38 (H38.hpOf 0 rfl)  (by omega)) fun _ w39 p28 => ?_))
              obtain ⟨pa2_6, pc2_6, na2_6, nc2_6, rfl, u32⟩ := p28
              have H39 : UpG w [] w39 [[blk g_1 #[.slice pa2_6 (((redoH h4_2).1.past).length) pc2_6, .slice na2_6 (((redoH h4_2).1.next).length) nc2_6, .string ((redoH h4_2).1.now), .int .i64 ((redoH h4_2).1.most)] 79, rowT tyS (.slice pa2_6 (((redoH h4_2).1.past).length) pc2_6) 9 ((redoH h4_2).1.past), rowT tyS (.slice na2_6 (((redoH h4_2).1.next).length) nc2_6) 9 ((redoH h4_2).1.next)], [rowT tyS (.slice ra r.l.length rc) 9 r.l], [blk w3.heap.size #[.slice ra r.l.length rc, .int .i64 ((r.at_ : Nat) : Int), .int .i64 r.most] 28], [rowT tyS (.slice a2_6 ((allH h).length) c2_6) 9 (allH h)], [rowT tyS (.slice a2_7 ((allH h3_1).length) c2_7) 9 (allH h3_1)]] := H38.on 0 rfl u32
              refine WL.op rfl (d_move rfl ?_)
              refine WL.op rfl (d_extract rfl rfl ?_)
              refine WL.op rfl (d_extract rfl rfl ?_)
              refine WL.op rfl (d_assign rfl ?_)
              refine WL.op rfl (d_assign rfl ?_)
              refine WL.done (X.then_code ?_)
              refine W.seq ?_
              refine W.region ?_
              refine WL.op rfl (d_move rfl ?_)
              refine WL.op rfl (d_cmp (decide (((redoH h4_2).2.2) ≠ (0 : Int))) rfl rfl rfl ?_)
              refine WL.done (X.then_code ?_)
              refine W.pick [102, 101, 21, 100, 99, 96, 98, 97, 93, 92, 91, 19, 13, 12, 11, 7, 6] (Γ' := [(102, .bool (decide (((redoH h4_2).2.2) ≠ (0 : Int)))), (101, .int .i64 ((redoH h4_2).2.2)), (21, .int .i64 ((redoH h4_2).2.2)), (100, .int .i64 ((redoH h4_2).2.2)), (99, .string ((redoH h4_2).2.1)), (96, .tuple #[.string ((redoH h4_2).2.1), .int .i64 ((redoH h4_2).2.2)]), (98, .tuple #[.string ((redoH h4_2).2.1), .int .i64 ((redoH h4_2).2.2)]), (97, .pointer (some ⟨g_1, 0, none⟩)), (93, .bool (decide (((v_2 : Nat) : Int) < ((y_1 : Nat) : Int)))), (92, .int .i64 ((y_1 : Nat) : Int)), (91, .int .i64 ((v_2 : Nat) : Int)), (19, .int .i64 ((v_2 : Nat) : Int)), (13, .int .i64 ((y_1 : Nat) : Int)), (12, .string h.now), (11, .slice a2_6 ((allH h).length) c2_6), (7, .pointer (some ⟨g_1, 0, none⟩)), (6, .bool false)]) rfl ?_
              refine W.ite (p := ((redoH h4_2).2.2) ≠ (0 : Int)) rfl (fun c100 => ?_) (fun c100 => ?_)
              · skip
                exfalso; exact c100 (hd.ok (by omega))
              · skip
                refine W.skip (X.block_normal (X.then_code ?_))
                refine W.pick [102, 101, 21, 100, 99, 96, 98, 97, 93, 92, 91, 19, 13, 12, 11, 7, 6] (Γ' := [(102, .bool (decide (((redoH h4_2).2.2) ≠ (0 : Int)))), (101, .int .i64 ((redoH h4_2).2.2)), (21, .int .i64 ((redoH h4_2).2.2)), (100, .int .i64 ((redoH h4_2).2.2)), (99, .string ((redoH h4_2).2.1)), (96, .tuple #[.string ((redoH h4_2).2.1), .int .i64 ((redoH h4_2).2.2)]), (98, .tuple #[.string ((redoH h4_2).2.1), .int .i64 ((redoH h4_2).2.2)]), (97, .pointer (some ⟨g_1, 0, none⟩)), (93, .bool (decide (((v_2 : Nat) : Int) < ((y_1 : Nat) : Int)))), (92, .int .i64 ((y_1 : Nat) : Int)), (91, .int .i64 ((v_2 : Nat) : Int)), (19, .int .i64 ((v_2 : Nat) : Int)), (13, .int .i64 ((y_1 : Nat) : Int)), (12, .string h.now), (11, .slice a2_6 ((allH h).length) c2_6), (7, .pointer (some ⟨g_1, 0, none⟩)), (6, .bool false)]) rfl ?_
                refine W.region ?_
                refine WL.op rfl (d_move rfl ?_)
                refine WL.op rfl (d_add rfl rfl (by omega) (by omega) ?_)
                refine WL.op rfl (d_assign rfl ?_)
                refine WL.done ?_
                exact X.next [19, 13, 12, 11, 7, 6] (Γ' := [(19, .int .i64 (((v_2 + 1) : Nat) : Int)), (13, .int .i64 ((y_1 : Nat) : Int)), (12, .string h.now), (11, .slice a2_6 ((allH h).length) c2_6), (7, .pointer (some ⟨g_1, 0, none⟩)), (6, .bool false)]) rfl (y_1 - (v_2 + 1)) (by omega) ⟨v_2 + 1, (redoH h4_2).1, pa2_6, pc2_6, na2_6, nc2_6, rfl, (H39.re rfl), (by first | assumption | omega | simp), (by exact hd.step (by omega)), (by rw [redoH_len]; exact hlen4), rfl⟩
            · skip
              refine W.exit (X.then_exit (X.then_exit (X.block_exit (X.then_code ?_))))
              refine W.seq ?_
              refine W.region ?_
              refine WL.op rfl (d_move rfl ?_)
              refine WL.op rfl (d_call ok16 rfl (Ret.calls (now_any h4_2 g_1 pa4_2 pc4_2 na4_2 nc4_2 w38 (H38.hpOf 0 rfl)  ) fun _ w40 p29 => ?_))
              obtain ⟨rfl, u33⟩ := p29
              have H40 : UpG w [] w40 [[blk g_1 #[.slice pa4_2 h4_2.past.length pc4_2, .slice na4_2 h4_2.next.length nc4_2, .string h4_2.now, .int .i64 h4_2.most] 79, rowT tyS (.slice pa4_2 h4_2.past.length pc4_2) 9 h4_2.past, rowT tyS (.slice na4_2 h4_2.next.length nc4_2) 9 h4_2.next], [rowT tyS (.slice ra r.l.length rc) 9 r.l], [blk w3.heap.size #[.slice ra r.l.length rc, .int .i64 ((r.at_ : Nat) : Int), .int .i64 r.most] 28], [rowT tyS (.slice a2_6 ((allH h).length) c2_6) 9 (allH h)], [rowT tyS (.slice a2_7 ((allH h3_1).length) c2_7) 9 (allH h3_1)]] := H38.on 0 rfl u33
              refine WL.op rfl (d_move rfl ?_)
              refine WL.op rfl (d_streq rfl rfl ?_)
              refine WL.op rfl (d_move rfl ?_)
              refine WL.part 107 (p := h4_2.now = h.now) rfl (fun g104 => ?_) (fun g104 => ?_)
              · skip
                refine WL.opG rfl rfl rfl (d_move rfl ?_)
                refine WL.opG rfl rfl rfl (d_call ok15 rfl (Ret.calls (all_any h4_2 g_1 pa4_2 pc4_2 na4_2 nc4_2 w40 (H40.hpOf 0 rfl)  (by omega)) fun _ w41 p30 => ?_))
                obtain ⟨a2_8, c2_8, rfl, u34⟩ := p30
                have H41 : UpG w [] w41 [[blk g_1 #[.slice pa4_2 h4_2.past.length pc4_2, .slice na4_2 h4_2.next.length nc4_2, .string h4_2.now, .int .i64 h4_2.most] 79, rowT tyS (.slice pa4_2 h4_2.past.length pc4_2) 9 h4_2.past, rowT tyS (.slice na4_2 h4_2.next.length nc4_2) 9 h4_2.next], [rowT tyS (.slice ra r.l.length rc) 9 r.l], [blk w3.heap.size #[.slice ra r.l.length rc, .int .i64 ((r.at_ : Nat) : Int), .int .i64 r.most] 28], [rowT tyS (.slice a2_6 ((allH h).length) c2_6) 9 (allH h)], [rowT tyS (.slice a2_7 ((allH h3_1).length) c2_7) 9 (allH h3_1)], [rowT tyS (.slice a2_8 ((allH h4_2).length) c2_8) 9 (allH h4_2)]] := (H40.onX (B := [blk g_1 #[.slice pa4_2 h4_2.past.length pc4_2, .slice na4_2 h4_2.next.length nc4_2, .string h4_2.now, .int .i64 h4_2.most] 79, rowT tyS (.slice pa4_2 h4_2.past.length pc4_2) 9 h4_2.past, rowT tyS (.slice na4_2 h4_2.next.length nc4_2) 9 h4_2.next]) (C := [rowT tyS (.slice a2_8 ((allH h4_2).length) c2_8) 9 (allH h4_2)]) 0 rfl u34).re rfl
                refine WL.opG rfl rfl rfl (d_move rfl ?_)
                refine WL.opG rfl rfl rfl (d_call ok19 rfl (Ret.calls (same_any a2_8 (allH h4_2) c2_8 a2_6 (allH h) c2_6 w41 (H41.rdT 5 rfl) (H41.rdT 3 rfl) ) fun _ w42 p31 => ?_))
                obtain ⟨rfl, u35⟩ := p31
                have H42 : UpG w [] w42 [[blk g_1 #[.slice pa4_2 h4_2.past.length pc4_2, .slice na4_2 h4_2.next.length nc4_2, .string h4_2.now, .int .i64 h4_2.most] 79, rowT tyS (.slice pa4_2 h4_2.past.length pc4_2) 9 h4_2.past, rowT tyS (.slice na4_2 h4_2.next.length nc4_2) 9 h4_2.next], [rowT tyS (.slice ra r.l.length rc) 9 r.l], [blk w3.heap.size #[.slice ra r.l.length rc, .int .i64 ((r.at_ : Nat) : Int), .int .i64 r.most] 28], [rowT tyS (.slice a2_6 ((allH h).length) c2_6) 9 (allH h)], [rowT tyS (.slice a2_7 ((allH h3_1).length) c2_7) 9 (allH h3_1)], [rowT tyS (.slice a2_8 ((allH h4_2).length) c2_8) 9 (allH h4_2)]] := H41.call u35
                refine WL.op rfl (d_pick rfl rfl ?_)
                refine WL.op rfl (d_assign rfl ?_)
                refine WL.done (X.then_code ?_)
                refine W.pick [6] (Γ' := [(6, .bool (decide ((allH h4_2) = (allH h))))]) rfl ?_
                refine W.ret (X.ret1 rfl rfl ?_)
                exact ⟨(by rw [decide_eq_true hd.all]), H42.noneL⟩
              · skip
                exact absurd (hd.now (by omega)) g104
      · skip
        refine WL.opN rfl rfl rfl rfl ?_
        refine WL.opN rfl rfl rfl rfl ?_
        refine WL.opN rfl rfl rfl rfl ?_
        refine WL.opN rfl rfl rfl rfl ?_
        refine WL.op rfl (d_pick rfl rfl ?_)
        refine WL.op rfl (d_move rfl ?_)
        refine WL.opG rfl rfl rfl (d_move rfl ?_)
        refine WL.opG rfl rfl rfl (d_call ok15 rfl (Ret.calls (all_any h3_1 g_1 pa3_1 pc3_1 na3_1 nc3_1 w34 (H34.hpOf 0 rfl)  (by omega)) fun _ w43 p32 => ?_))
        obtain ⟨a2_9, c2_9, rfl, u36⟩ := p32
        have H43 : UpG w [] w43 [[blk g_1 #[.slice pa3_1 h3_1.past.length pc3_1, .slice na3_1 h3_1.next.length nc3_1, .string h3_1.now, .int .i64 h3_1.most] 79, rowT tyS (.slice pa3_1 h3_1.past.length pc3_1) 9 h3_1.past, rowT tyS (.slice na3_1 h3_1.next.length nc3_1) 9 h3_1.next], [rowT tyS (.slice ra r.l.length rc) 9 r.l], [blk w3.heap.size #[.slice ra r.l.length rc, .int .i64 ((r.at_ : Nat) : Int), .int .i64 r.most] 28], [rowT tyS (.slice a2_6 ((allH h).length) c2_6) 9 (allH h)], [rowT tyS (.slice a2_9 ((allH h3_1).length) c2_9) 9 (allH h3_1)]] := (H34.onX (B := [blk g_1 #[.slice pa3_1 h3_1.past.length pc3_1, .slice na3_1 h3_1.next.length nc3_1, .string h3_1.now, .int .i64 h3_1.most] 79, rowT tyS (.slice pa3_1 h3_1.past.length pc3_1) 9 h3_1.past, rowT tyS (.slice na3_1 h3_1.next.length nc3_1) 9 h3_1.next]) (C := [rowT tyS (.slice a2_9 ((allH h3_1).length) c2_9) 9 (allH h3_1)]) 0 rfl u36).re rfl
        refine WL.opG rfl rfl rfl (d_move rfl ?_)
        refine WL.opG rfl rfl rfl (d_call ok19 rfl (Ret.calls (same_any a2_9 (allH h3_1) c2_9 a2_6 (allH h) c2_6 w43 (H43.rdT 4 rfl) (H43.rdT 3 rfl) ) fun _ w44 p33 => ?_))
        obtain ⟨rfl, u37⟩ := p33
        have H44 : UpG w [] w44 [[blk g_1 #[.slice pa3_1 h3_1.past.length pc3_1, .slice na3_1 h3_1.next.length nc3_1, .string h3_1.now, .int .i64 h3_1.most] 79, rowT tyS (.slice pa3_1 h3_1.past.length pc3_1) 9 h3_1.past, rowT tyS (.slice na3_1 h3_1.next.length nc3_1) 9 h3_1.next], [rowT tyS (.slice ra r.l.length rc) 9 r.l], [blk w3.heap.size #[.slice ra r.l.length rc, .int .i64 ((r.at_ : Nat) : Int), .int .i64 r.most] 28], [rowT tyS (.slice a2_6 ((allH h).length) c2_6) 9 (allH h)], [rowT tyS (.slice a2_9 ((allH h3_1).length) c2_9) 9 (allH h3_1)]] := H43.call u37
        refine WL.opG rfl rfl rfl (d_notB rfl ?_)
        refine WL.op rfl (d_pick rfl rfl ?_)
        refine WL.done (X.then_code ?_)
        refine W.pick [90, 13, 12, 11, 7, 6] (Γ' := [(90, .bool (!(decide ((allH h3_1) = (allH h))))), (13, .int .i64 ((y_1 : Nat) : Int)), (12, .string h.now), (11, .slice a2_6 ((allH h).length) c2_6), (7, .pointer (some ⟨g_1, 0, none⟩)), (6, .bool false)]) rfl ?_
        refine W.iteB (b := !(decide ((allH h3_1) = (allH h)))) rfl (fun c96 => ?_) (fun c96 => ?_)
        · skip
          exfalso; rw [decide_eq_true hb.all] at c96; exact absurd c96 (by decide)
        · skip
          refine W.skip (X.then_code ?_)
          refine W.seq ?_
          refine W.seq ?_
          refine W.region ?_
          refine WL.op rfl (d_assign rfl ?_)
          refine WL.done (X.then_code ?_)
          refine W.block ?_
          refine W.pick [19, 13, 12, 11, 7, 6] (Γ' := [(19, .int .i64 0), (13, .int .i64 ((y_1 : Nat) : Int)), (12, .string h.now), (11, .slice a2_6 ((allH h).length) c2_6), (7, .pointer (some ⟨g_1, 0, none⟩)), (6, .bool false)]) rfl ?_
          refine W.loop (fun m Γ' w' => ∃ v : Nat, ∃ h4 : HistD, ∃ pa4 : Option Addr, ∃ pc4 : Nat, ∃ na4 : Option Addr, ∃ nc4 : Nat, Γ' = [(19, .int .i64 ((v : Nat) : Int)), (13, .int .i64 ((y_1 : Nat) : Int)), (12, .string h.now), (11, .slice a2_6 ((allH h).length) c2_6), (7, .pointer (some ⟨g_1, 0, none⟩)), (6, .bool false)] ∧ UpG w [] w' [[blk g_1 #[.slice pa4 h4.past.length pc4, .slice na4 h4.next.length nc4, .string h4.now, .int .i64 h4.most] 79, rowT tyS (.slice pa4 h4.past.length pc4) 9 h4.past, rowT tyS (.slice na4 h4.next.length nc4) 9 h4.next], [rowT tyS (.slice ra r.l.length rc) 9 r.l], [blk w3.heap.size #[.slice ra r.l.length rc, .int .i64 ((r.at_ : Nat) : Int), .int .i64 r.most] 28], [rowT tyS (.slice a2_6 ((allH h).length) c2_6) 9 (allH h)], [rowT tyS (.slice a2_9 ((allH h3_1).length) c2_9) 9 (allH h3_1)]] ∧ (v ≤ y_1) ∧ (BackR h h4 y_1 v) ∧ (h4.past.length + h4.next.length ≤ 60) ∧ m = y_1 - v) (y_1 - 0) ⟨0, h3_1, pa3_1, pc3_1, na3_1, nc3_1, rfl, H44, (by first | assumption | omega | simp), (by exact hb.redo), (by omega), rfl⟩ ?_
          rintro m7 Γ7 w45 ⟨v_3, h4_3, pa4_3, pc4_3, na4_3, nc4_3, rfl, H45, hv, hd, hlen4, rfl⟩
          refine W.seq ?_
          refine W.seq ?_
          refine W.region ?_
          refine WL.op rfl (d_move rfl ?_)
          refine WL.op rfl (d_move rfl ?_)
          refine WL.op rfl (d_cmp (decide (((v_3 : Nat) : Int) < ((y_1 : Nat) : Int))) rfl rfl rfl ?_)
          refine WL.done (X.then_code ?_)
          refine W.ite (p := ((v_3 : Nat) : Int) < ((y_1 : Nat) : Int)) rfl (fun c99 => ?_) (fun c99 => ?_)
          · skip
            refine W.skip (X.then_code ?_)
            refine W.seq ?_
            refine W.block ?_
            refine W.seq ?_
            refine W.region ?_
            refine WL.op rfl (d_move rfl ?_)
            refine WL.op rfl (d_call ok20 rfl (Ret.calls (redo_any h4_3 g_1 pa4_3 pc4_3 na4_3 nc4_3 w45 (H45.hpOf 0 rfl)  (by omega)) fun _ w46 p34 => ?_))
            obtain ⟨pa2_7, pc2_7, na2_7, nc2_7, rfl, u38⟩ := p34
            have H46 : UpG w [] w46 [[blk g_1 #[.slice pa2_7 (((redoH h4_3).1.past).length) pc2_7, .slice na2_7 (((redoH h4_3).1.next).length) nc2_7, .string ((redoH h4_3).1.now), .int .i64 ((redoH h4_3).1.most)] 79, rowT tyS (.slice pa2_7 (((redoH h4_3).1.past).length) pc2_7) 9 ((redoH h4_3).1.past), rowT tyS (.slice na2_7 (((redoH h4_3).1.next).length) nc2_7) 9 ((redoH h4_3).1.next)], [rowT tyS (.slice ra r.l.length rc) 9 r.l], [blk w3.heap.size #[.slice ra r.l.length rc, .int .i64 ((r.at_ : Nat) : Int), .int .i64 r.most] 28], [rowT tyS (.slice a2_6 ((allH h).length) c2_6) 9 (allH h)], [rowT tyS (.slice a2_9 ((allH h3_1).length) c2_9) 9 (allH h3_1)]] := H45.on 0 rfl u38
            refine WL.op rfl (d_move rfl ?_)
            refine WL.op rfl (d_extract rfl rfl ?_)
            refine WL.op rfl (d_extract rfl rfl ?_)
            refine WL.op rfl (d_assign rfl ?_)
            refine WL.op rfl (d_assign rfl ?_)
            refine WL.done (X.then_code ?_)
            refine W.seq ?_
            refine W.region ?_
            refine WL.op rfl (d_move rfl ?_)
            refine WL.op rfl (d_cmp (decide (((redoH h4_3).2.2) ≠ (0 : Int))) rfl rfl rfl ?_)
            refine WL.done (X.then_code ?_)
            refine W.pick [102, 101, 21, 100, 99, 96, 98, 97, 93, 92, 91, 19, 13, 12, 11, 7, 6] (Γ' := [(102, .bool (decide (((redoH h4_3).2.2) ≠ (0 : Int)))), (101, .int .i64 ((redoH h4_3).2.2)), (21, .int .i64 ((redoH h4_3).2.2)), (100, .int .i64 ((redoH h4_3).2.2)), (99, .string ((redoH h4_3).2.1)), (96, .tuple #[.string ((redoH h4_3).2.1), .int .i64 ((redoH h4_3).2.2)]), (98, .tuple #[.string ((redoH h4_3).2.1), .int .i64 ((redoH h4_3).2.2)]), (97, .pointer (some ⟨g_1, 0, none⟩)), (93, .bool (decide (((v_3 : Nat) : Int) < ((y_1 : Nat) : Int)))), (92, .int .i64 ((y_1 : Nat) : Int)), (91, .int .i64 ((v_3 : Nat) : Int)), (19, .int .i64 ((v_3 : Nat) : Int)), (13, .int .i64 ((y_1 : Nat) : Int)), (12, .string h.now), (11, .slice a2_6 ((allH h).length) c2_6), (7, .pointer (some ⟨g_1, 0, none⟩)), (6, .bool false)]) rfl ?_
            refine W.ite (p := ((redoH h4_3).2.2) ≠ (0 : Int)) rfl (fun c100 => ?_) (fun c100 => ?_)
            · skip
              exfalso; exact c100 (hd.ok (by omega))
            · skip
              refine W.skip (X.block_normal (X.then_code ?_))
              refine W.pick [102, 101, 21, 100, 99, 96, 98, 97, 93, 92, 91, 19, 13, 12, 11, 7, 6] (Γ' := [(102, .bool (decide (((redoH h4_3).2.2) ≠ (0 : Int)))), (101, .int .i64 ((redoH h4_3).2.2)), (21, .int .i64 ((redoH h4_3).2.2)), (100, .int .i64 ((redoH h4_3).2.2)), (99, .string ((redoH h4_3).2.1)), (96, .tuple #[.string ((redoH h4_3).2.1), .int .i64 ((redoH h4_3).2.2)]), (98, .tuple #[.string ((redoH h4_3).2.1), .int .i64 ((redoH h4_3).2.2)]), (97, .pointer (some ⟨g_1, 0, none⟩)), (93, .bool (decide (((v_3 : Nat) : Int) < ((y_1 : Nat) : Int)))), (92, .int .i64 ((y_1 : Nat) : Int)), (91, .int .i64 ((v_3 : Nat) : Int)), (19, .int .i64 ((v_3 : Nat) : Int)), (13, .int .i64 ((y_1 : Nat) : Int)), (12, .string h.now), (11, .slice a2_6 ((allH h).length) c2_6), (7, .pointer (some ⟨g_1, 0, none⟩)), (6, .bool false)]) rfl ?_
              refine W.region ?_
              refine WL.op rfl (d_move rfl ?_)
              refine WL.op rfl (d_add rfl rfl (by omega) (by omega) ?_)
              refine WL.op rfl (d_assign rfl ?_)
              refine WL.done ?_
              exact X.next [19, 13, 12, 11, 7, 6] (Γ' := [(19, .int .i64 (((v_3 + 1) : Nat) : Int)), (13, .int .i64 ((y_1 : Nat) : Int)), (12, .string h.now), (11, .slice a2_6 ((allH h).length) c2_6), (7, .pointer (some ⟨g_1, 0, none⟩)), (6, .bool false)]) rfl (y_1 - (v_3 + 1)) (by omega) ⟨v_3 + 1, (redoH h4_3).1, pa2_7, pc2_7, na2_7, nc2_7, rfl, (H46.re rfl), (by first | assumption | omega | simp), (by exact hd.step (by omega)), (by rw [redoH_len]; exact hlen4), rfl⟩
          · skip
            refine W.exit (X.then_exit (X.then_exit (X.block_exit (X.then_code ?_))))
            refine W.seq ?_
            refine W.region ?_
            refine WL.op rfl (d_move rfl ?_)
            refine WL.op rfl (d_call ok16 rfl (Ret.calls (now_any h4_3 g_1 pa4_3 pc4_3 na4_3 nc4_3 w45 (H45.hpOf 0 rfl)  ) fun _ w47 p35 => ?_))
            obtain ⟨rfl, u39⟩ := p35
            have H47 : UpG w [] w47 [[blk g_1 #[.slice pa4_3 h4_3.past.length pc4_3, .slice na4_3 h4_3.next.length nc4_3, .string h4_3.now, .int .i64 h4_3.most] 79, rowT tyS (.slice pa4_3 h4_3.past.length pc4_3) 9 h4_3.past, rowT tyS (.slice na4_3 h4_3.next.length nc4_3) 9 h4_3.next], [rowT tyS (.slice ra r.l.length rc) 9 r.l], [blk w3.heap.size #[.slice ra r.l.length rc, .int .i64 ((r.at_ : Nat) : Int), .int .i64 r.most] 28], [rowT tyS (.slice a2_6 ((allH h).length) c2_6) 9 (allH h)], [rowT tyS (.slice a2_9 ((allH h3_1).length) c2_9) 9 (allH h3_1)]] := H45.on 0 rfl u39
            refine WL.op rfl (d_move rfl ?_)
            refine WL.op rfl (d_streq rfl rfl ?_)
            refine WL.op rfl (d_move rfl ?_)
            refine WL.part 107 (p := h4_3.now = h.now) rfl (fun g104 => ?_) (fun g104 => ?_)
            · skip
              refine WL.opG rfl rfl rfl (d_move rfl ?_)
              refine WL.opG rfl rfl rfl (d_call ok15 rfl (Ret.calls (all_any h4_3 g_1 pa4_3 pc4_3 na4_3 nc4_3 w47 (H47.hpOf 0 rfl)  (by omega)) fun _ w48 p36 => ?_))
              obtain ⟨a2_10, c2_10, rfl, u40⟩ := p36
              have H48 : UpG w [] w48 [[blk g_1 #[.slice pa4_3 h4_3.past.length pc4_3, .slice na4_3 h4_3.next.length nc4_3, .string h4_3.now, .int .i64 h4_3.most] 79, rowT tyS (.slice pa4_3 h4_3.past.length pc4_3) 9 h4_3.past, rowT tyS (.slice na4_3 h4_3.next.length nc4_3) 9 h4_3.next], [rowT tyS (.slice ra r.l.length rc) 9 r.l], [blk w3.heap.size #[.slice ra r.l.length rc, .int .i64 ((r.at_ : Nat) : Int), .int .i64 r.most] 28], [rowT tyS (.slice a2_6 ((allH h).length) c2_6) 9 (allH h)], [rowT tyS (.slice a2_9 ((allH h3_1).length) c2_9) 9 (allH h3_1)], [rowT tyS (.slice a2_10 ((allH h4_3).length) c2_10) 9 (allH h4_3)]] := (H47.onX (B := [blk g_1 #[.slice pa4_3 h4_3.past.length pc4_3, .slice na4_3 h4_3.next.length nc4_3, .string h4_3.now, .int .i64 h4_3.most] 79, rowT tyS (.slice pa4_3 h4_3.past.length pc4_3) 9 h4_3.past, rowT tyS (.slice na4_3 h4_3.next.length nc4_3) 9 h4_3.next]) (C := [rowT tyS (.slice a2_10 ((allH h4_3).length) c2_10) 9 (allH h4_3)]) 0 rfl u40).re rfl
              refine WL.opG rfl rfl rfl (d_move rfl ?_)
              refine WL.opG rfl rfl rfl (d_call ok19 rfl (Ret.calls (same_any a2_10 (allH h4_3) c2_10 a2_6 (allH h) c2_6 w48 (H48.rdT 5 rfl) (H48.rdT 3 rfl) ) fun _ w49 p37 => ?_))
              obtain ⟨rfl, u41⟩ := p37
              have H49 : UpG w [] w49 [[blk g_1 #[.slice pa4_3 h4_3.past.length pc4_3, .slice na4_3 h4_3.next.length nc4_3, .string h4_3.now, .int .i64 h4_3.most] 79, rowT tyS (.slice pa4_3 h4_3.past.length pc4_3) 9 h4_3.past, rowT tyS (.slice na4_3 h4_3.next.length nc4_3) 9 h4_3.next], [rowT tyS (.slice ra r.l.length rc) 9 r.l], [blk w3.heap.size #[.slice ra r.l.length rc, .int .i64 ((r.at_ : Nat) : Int), .int .i64 r.most] 28], [rowT tyS (.slice a2_6 ((allH h).length) c2_6) 9 (allH h)], [rowT tyS (.slice a2_9 ((allH h3_1).length) c2_9) 9 (allH h3_1)], [rowT tyS (.slice a2_10 ((allH h4_3).length) c2_10) 9 (allH h4_3)]] := H48.call u41
              refine WL.op rfl (d_pick rfl rfl ?_)
              refine WL.op rfl (d_assign rfl ?_)
              refine WL.done (X.then_code ?_)
              refine W.pick [6] (Γ' := [(6, .bool (decide ((allH h4_3) = (allH h))))]) rfl ?_
              refine W.ret (X.ret1 rfl rfl ?_)
              exact ⟨(by rw [decide_eq_true hd.all]), H49.noneL⟩
            · skip
              exact absurd (hd.now (by omega)) g104
end Go.Proofs.Ytkdcmklkggnblaa
