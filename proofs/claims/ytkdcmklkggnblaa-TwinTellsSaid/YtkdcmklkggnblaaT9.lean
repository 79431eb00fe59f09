/- The walks of functions, printed by wip/tools/gw.py. -/
import Derived.Test.YtkdcmklkggnblaaF1
import Derived.Test.YtkdcmklkggnblaaSx7
import Derived.Test.YtkdcmklkggnblaaT8b
namespace Go.Proofs.Ytkdcmklkggnblaa
open Go Go.Sx
set_option linter.unusedVariables false
set_option linter.unusedSimpArgs false
set_option maxRecDepth 20000 in
theorem plain1_any (x : AnsP) (w : World) :
    Calls Try.prog 59 #[.agg #[.int .i64 x.d.kind, .int .i64 x.d.err, .slice x.a x.d.nums.length x.c, .string x.d.text]] w (Ret fun v w' => v = .bool (aboutB x.d.kind) ∧ Upd w [] w' []) := by
  refine calls_of_W (args := [.agg #[.int .i64 x.d.kind, .int .i64 x.d.err, .slice x.a x.d.nums.length x.c, .string x.d.text]]) Try.func59 rfl rfl rfl ?_
  have H0 : UpG w [] w [] := UpG.nil w
  show W _ _ _ _ [(0, .agg #[.int .i64 x.d.kind, .int .i64 x.d.err, .slice x.a x.d.nums.length x.c, .string x.d.text])] w
  refine W.seq ?_
  refine W.region ?_
  refine WL.op rfl (d_box rfl fun w1 u1 => ?_)
  have H1 : UpG w [] w1 [[blk w.heap.size #[.int .i64 x.d.kind, .int .i64 x.d.err, .slice x.a x.d.nums.length x.c, .string x.d.text] 102]] := H0.new' u1
  refine WL.op rfl (d_assign rfl ?_)
  refine WL.done (X.then_code ?_)
  refine W.seq ?_
  refine W.region ?_
  refine WL.op rfl (d_fieldAddrB fld102_0 rfl rfl ?_)
  refine WL.op rfl (d_loadB Try.underlying3 rfl rfl (H1.blk 0 rfl) rfl ?_)
  refine WL.op rfl (d_call ok54 rfl (Ret.calls (about_any x.d.kind w1  ) fun _ w2 p1 => ?_))
  obtain ⟨rfl, u2⟩ := p1
  have H2 : UpG w [] w2 [[blk w.heap.size #[.int .i64 x.d.kind, .int .i64 x.d.err, .slice x.a x.d.nums.length x.c, .string x.d.text] 102]] := H1.call u2
  refine WL.op rfl (d_assign rfl ?_)
  refine WL.done (X.then_code ?_)
  refine W.ret (X.ret1 rfl rfl ?_)
  exact ⟨rfl, H2.noneL⟩

set_option maxRecDepth 20000 in
theorem indexA_any (sa : Option Addr) (s : List AnsP) (sc : Nat) (f : FuncId) (fc : List Value) (p : AnsP → Bool) (w : World) (rs : RdT tyAnsP w (.slice sa s.length sc) s) (hok : CallOk Try.prog f) (hf : ClosU tyAnsP Try.prog f fc p) :
    Calls Try.prog 61 #[.slice sa s.length sc, .func (.func f) #[] fc.toArray] w (Ret fun v w' => ∃ r : Int, v = .int .i64 r ∧ Upd w [] w' [] ∧ ((r = -1 ∧ noneTo p s s.length) ∨ (∃ k : Nat, r = (k : Int) ∧ k < s.length ∧ noneTo p s k ∧ p (s.getD k ansP0) = true))) := by
  have le_rs := rs.le
  refine calls_of_W (args := [.slice sa s.length sc, .func (.func f) #[] fc.toArray]) Try.func61 rfl rfl rfl ?_
  have H0 : UpG w [] w [] := UpG.nil w
  show W _ _ _ _ [(0, .slice sa s.length sc), (1, .func (.func f) #[] fc.toArray)] w
  refine W.seq ?_
  refine W.region ?_
  refine WL.op rfl (d_assign rfl ?_)
  refine WL.done (X.then_code ?_)
  refine W.seq ?_
  refine W.seq ?_
  refine W.region ?_
  refine WL.op rfl (d_move rfl ?_)
  refine WL.op rfl (d_lenS Try.underlying74 rfl ?_)
  refine WL.op rfl (d_move rfl ?_)
  refine WL.done (X.then_code ?_)
  refine W.block ?_
  refine W.pick [8, 7, 4, 0, 1] (Γ' := [(8, .int .i64 0), (7, .int .i64 ((s.length : Nat) : Int)), (4, .int .i64 0), (0, .slice sa s.length sc), (1, .func (.func f) #[] fc.toArray)]) rfl ?_
  refine W.loop (fun m Γ' w' => ∃ k : Nat, Γ' = [(8, .int .i64 ((k : Nat) : Int)), (7, .int .i64 ((s.length : Nat) : Int)), (4, .int .i64 0), (0, .slice sa s.length sc), (1, .func (.func f) #[] fc.toArray)] ∧ UpG w [] w' [] ∧ (k ≤ s.length) ∧ (noneTo p s k) ∧ m = s.length - k) (s.length - 0) ⟨0, rfl, H0, (by first | assumption | omega | simp), (by simp [noneTo]), rfl⟩ ?_
  rintro m1 Γ1 w1 ⟨k, rfl, H1, hk, hn, rfl⟩
  refine W.seq ?_
  refine W.region ?_
  refine WL.op rfl (d_cmp (decide (((k : Nat) : Int) < ((s.length : Nat) : Int))) rfl rfl rfl ?_)
  refine WL.done (X.then_code ?_)
  refine W.seq ?_
  refine W.ite (p := ((k : Nat) : Int) < ((s.length : Nat) : Int)) rfl (fun c108 => ?_) (fun c108 => ?_)
  · skip
    refine W.skip (X.then_code ?_)
    refine W.seq ?_
    refine W.block ?_
    refine W.seq ?_
    refine W.region ?_
    refine WL.op rfl (d_move rfl ?_)
    refine WL.op rfl (d_assign rfl ?_)
    refine WL.done (X.then_code ?_)
    refine W.seq ?_
    refine W.region ?_
    refine WL.op rfl (d_move rfl ?_)
    refine WL.op rfl (d_move rfl ?_)
    refine WL.op rfl (d_move rfl ?_)
    refine WL.op rfl (t_addrN k (T := tyAnsP) rfl Try.underlying74 sz102 rfl rfl (rs.at H1) rfl (by omega) ?_)
    refine WL.op rfl (t_loadN k ansP0 (T := tyAnsP) (us := [.int .i64 ((s.getD k ansP0).d.kind), .int .i64 ((s.getD k ansP0).d.err), .slice ((s.getD k ansP0).a) (((s.getD k ansP0).d.nums).length) ((s.getD k ansP0).c), .string ((s.getD k ansP0).d.text)]) rfl Try.underlying102 rfl sz102 rfl (rs.at H1) (by omega) rfl ?_)
    refine WL.op rfl (d_callv hok rfl rfl (Ret.calls (hf w1 (s.getD k ansP0)) fun _ w2 p1 => ?_))
    obtain ⟨rfl, u1⟩ := p1
    have H2 : UpG w [] w2 [] := H1.call u1
    refine WL.done (X.then_code ?_)
    refine W.iteB (b := p (s.getD k ansP0)) rfl (fun c109 => ?_) (fun c109 => ?_)
    · skip
      refine W.seq ?_
      refine W.region ?_
      refine WL.op rfl (d_move rfl ?_)
      refine WL.op rfl (d_assign rfl ?_)
      refine WL.done (X.then_code ?_)
      refine W.ret (X.block_ret (X.then_ret (X.then_ret (X.block_ret (X.then_ret (X.ret1 rfl rfl ?_))))))
      exact ⟨((k : Nat) : Int), rfl, H2.noneL, (.inr ⟨k, rfl, by omega, hn, c109⟩)⟩
    · skip
      refine W.skip (X.block_normal (X.then_code ?_))
      refine W.region ?_
      refine WL.op rfl (d_add rfl rfl (by omega) (by omega) ?_)
      refine WL.op rfl (d_move rfl ?_)
      refine WL.done ?_
      exact X.next [8, 7, 4, 0, 1] (Γ' := [(8, .int .i64 (((k + 1) : Nat) : Int)), (7, .int .i64 ((s.length : Nat) : Int)), (4, .int .i64 0), (0, .slice sa s.length sc), (1, .func (.func f) #[] fc.toArray)]) rfl (s.length - (k + 1)) (by omega) ⟨k + 1, rfl, H2, (by first | assumption | omega | simp), (by exact noneTo_step hn (by omega) c109), rfl⟩
  · skip
    refine W.exit (X.then_exit (X.then_exit (X.block_exit (X.then_code ?_))))
    refine W.seq ?_
    refine W.region ?_
    refine WL.op rfl (d_assign rfl ?_)
    refine WL.done (X.then_code ?_)
    refine W.ret (X.ret1 rfl rfl ?_)
    exact ⟨-1, rfl, H1.noneL, (.inl ⟨rfl, by rw [show s.length = k by omega]; exact hn⟩)⟩

set_option maxRecDepth 20000 in
theorem deleteA_any (sa : Option Addr) (s : List AnsP) (sc : Nat) (f : FuncId) (fc : List Value) (p : AnsP → Bool) (w : World) (hp : Hp w [rowT tyAnsP (.slice sa s.length sc) 102 s]) (hl : s.length ≤ 100000) (hok : CallOk Try.prog f) (hf : ClosU tyAnsP Try.prog f fc p) :
    Calls Try.prog 57 #[.slice sa s.length sc, .func (.func f) #[] fc.toArray] w (Ret fun v w' => v = .slice sa ((s.filter (fun x => !p x)).length) sc ∧ Upd w [rowT tyAnsP (.slice sa s.length sc) 102 s] w' [rowT tyAnsP (.slice sa ((s.filter (fun x => !p x)).length) sc) 102 (s.filter (fun x => !p x))]) := by
  refine calls_of_W (args := [.slice sa s.length sc, .func (.func f) #[] fc.toArray]) Try.func57 rfl rfl rfl ?_
  have H0 : UpG w [rowT tyAnsP (.slice sa s.length sc) 102 s] w [[rowT tyAnsP (.slice sa s.length sc) 102 s]] := (UpG.refl hp).re rfl
  show W _ _ _ _ [(0, .slice sa s.length sc), (1, .func (.func f) #[] fc.toArray)] w
  refine W.seq ?_
  refine W.region ?_
  refine WL.op rfl (d_assign rfl ?_)
  refine WL.done (X.then_code ?_)
  refine W.seq ?_
  refine W.region ?_
  refine WL.op rfl (d_move rfl ?_)
  refine WL.op rfl (d_move rfl ?_)
  refine WL.op rfl (d_call ok61 rfl (Ret.calls (indexA_any sa s sc f fc p w (H0.rdT 0 rfl) hok hf) fun _ w1 p1 => ?_))
  obtain ⟨r_1, rfl, u1, q1⟩ := p1
  have H1 : UpG w [rowT tyAnsP (.slice sa s.length sc) 102 s] w1 [[rowT tyAnsP (.slice sa s.length sc) 102 s]] := H0.call u1
  refine WL.op rfl (d_assign rfl ?_)
  refine WL.done (X.then_code ?_)
  refine W.seq ?_
  refine W.seq ?_
  refine W.region ?_
  refine WL.op rfl (d_move rfl ?_)
  refine WL.op rfl (d_cmp (decide (r_1 = (-1 : Int))) rfl rfl rfl ?_)
  refine WL.done (X.then_code ?_)
  refine W.ite (p := r_1 = (-1 : Int)) rfl (fun c243 => ?_) (fun c243 => ?_)
  · skip
    refine W.seq ?_
    refine W.region ?_
    refine WL.op rfl (d_move rfl ?_)
    refine WL.op rfl (d_assign rfl ?_)
    refine WL.done (X.then_code ?_)
    refine W.ret (X.then_ret (X.ret1 rfl rfl ?_))
    have hq9 := q1.resolve_right (fun h => by obtain ⟨k, h, _⟩ := h; omega)
    have e : s.filter (fun x => !p x) = s := by have h9 := none_keep hq9.2; rwa [List.take_of_length_le (by omega)] at h9
    rw [e]
    exact ⟨(by rfl), (Upd.sel H1 (l := [0]) rfl rfl)⟩
  · skip
    obtain ⟨k0, hr, hk0, hn0, hp0⟩ := q1.resolve_left (fun h => c243 h.1)
    have hr2 : r_1 = ((r_1.toNat : Nat) : Int) := by omega
    have hk2 : r_1.toNat = k0 := by omega
    refine W.skip (X.then_code ?_)
    refine W.seq ?_
    refine W.seq ?_
    refine W.region ?_
    refine WL.op rfl (d_move rfl ?_)
    refine WL.op rfl (d_add rfl rfl (by omega) (by omega) ?_)
    refine WL.op rfl (d_assign rfl ?_)
    refine WL.done (X.then_code ?_)
    refine W.block ?_
    refine W.pick [6, 5, 4, 0, 1] (Γ' := [(6, .int .i64 (r_1 + 1)), (5, .int .i64 r_1), (4, .slice none 0 0), (0, .slice sa s.length sc), (1, .func (.func f) #[] fc.toArray)]) rfl ?_
    rw [hr2]
    refine W.loop (fun m Γ' w' => ∃ i : Nat, ∃ j : Nat, ∃ ys : List AnsP, Γ' = [(6, .int .i64 ((j : Nat) : Int)), (5, .int .i64 ((i : Nat) : Int)), (4, .slice none 0 0), (0, .slice sa s.length sc), (1, .func (.func f) #[] fc.toArray)] ∧ UpG w [rowT tyAnsP (.slice sa s.length sc) 102 s] w' [[rowT tyAnsP (.slice sa s.length sc) 102 ys]] ∧ (DelI p s ys i j) ∧ (j ≤ s.length) ∧ m = s.length - j) (s.length - (r_1.toNat + 1)) ⟨r_1.toNat, (r_1.toNat + 1), s, rfl, H1, (by rw [hk2]; exact DelI.start hn0 hk0 hp0), (by first | assumption | omega | simp), rfl⟩ ?_
    rintro m1 Γ1 w2 ⟨i, j, ys, rfl, H2, hd, hj, rfl⟩
    have hdl := hd.len
    have hdle := hd.le
    refine W.seq ?_
    refine W.seq ?_
    refine W.region ?_
    refine WL.op rfl (d_move rfl ?_)
    refine WL.op rfl (d_move rfl ?_)
    refine WL.op rfl (d_lenS Try.underlying74 rfl ?_)
    refine WL.op rfl (d_cmp (decide (((j : Nat) : Int) < ((s.length : Nat) : Int))) rfl rfl rfl ?_)
    refine WL.done (X.then_code ?_)
    refine W.ite (p := ((j : Nat) : Int) < ((s.length : Nat) : Int)) rfl (fun c247 => ?_) (fun c247 => ?_)
    · skip
      refine W.skip (X.then_code ?_)
      refine W.seq ?_
      refine W.block ?_
      refine W.seq ?_
      refine W.region ?_
      refine WL.op rfl (d_move rfl ?_)
      refine WL.op rfl (d_move rfl ?_)
      refine WL.op rfl (t_addrN j (T := tyAnsP) rfl Try.underlying74 sz102 rfl rfl (H2.rdT 0 rfl) rfl (by omega) ?_)
      refine WL.op rfl (t_loadN j ansP0 (T := tyAnsP) (us := [.int .i64 ((ys.getD j ansP0).d.kind), .int .i64 ((ys.getD j ansP0).d.err), .slice ((ys.getD j ansP0).a) (((ys.getD j ansP0).d.nums).length) ((ys.getD j ansP0).c), .string ((ys.getD j ansP0).d.text)]) rfl Try.underlying102 rfl sz102 rfl (H2.rdT 0 rfl) (by omega) rfl ?_)
      refine WL.op rfl (d_alloc sz102 fun w3 u2 => ?_)
      have H3 : UpG w [rowT tyAnsP (.slice sa s.length sc) 102 s] w3 [[rowT tyAnsP (.slice sa s.length sc) 102 ys], [blk w2.heap.size #[.int .i64 0, .int .i64 0, .slice none 0 0, .string ⟨#[]⟩] 102]] := H2.new' u2
      refine WL.op0 (d_storeAB (us := [.int .i64 ((ys.getD j ansP0).d.kind), .int .i64 ((ys.getD j ansP0).d.err), .slice ((ys.getD j ansP0).a) (((ys.getD j ansP0).d.nums).length) ((ys.getD j ansP0).c), .string ((ys.getD j ansP0).d.text)]) (cs' := #[.int .i64 ((ys.getD j ansP0).d.kind), .int .i64 ((ys.getD j ansP0).d.err), .slice ((ys.getD j ansP0).a) (((ys.getD j ansP0).d.nums).length) ((ys.getD j ansP0).c), .string ((ys.getD j ansP0).d.text)]) sz102 rfl rfl rfl rfl (H3.blk 1 rfl) rfl rfl fun w4 u3 => ?_)
      have H4 : UpG w [rowT tyAnsP (.slice sa s.length sc) 102 s] w4 [[rowT tyAnsP (.slice sa s.length sc) 102 ys], [blk w2.heap.size #[.int .i64 ((ys.getD j ansP0).d.kind), .int .i64 ((ys.getD j ansP0).d.err), .slice ((ys.getD j ansP0).a) (((ys.getD j ansP0).d.nums).length) ((ys.getD j ansP0).c), .string ((ys.getD j ansP0).d.text)] 102]] := H3.on 1 rfl u3
      refine WL.done (X.then_code ?_)
      refine W.seq ?_
      refine W.region ?_
      refine WL.op rfl (d_move rfl ?_)
      refine WL.op rfl (d_loadAB [.int .i64 ((ys.getD j ansP0).d.kind), .int .i64 ((ys.getD j ansP0).d.err), .slice ((ys.getD j ansP0).a) (((ys.getD j ansP0).d.nums).length) ((ys.getD j ansP0).c), .string ((ys.getD j ansP0).d.text)] Try.underlying102 rfl sz102 rfl (H4.blk 1 rfl) rfl rfl ?_)
      refine WL.op rfl (d_callv hok rfl rfl (Ret.calls (hf w4 (ys.getD j ansP0)) fun _ w5 p2 => ?_))
      obtain ⟨rfl, u4⟩ := p2
      have H5 : UpG w [rowT tyAnsP (.slice sa s.length sc) 102 s] w5 [[rowT tyAnsP (.slice sa s.length sc) 102 ys], [blk w2.heap.size #[.int .i64 ((ys.getD j ansP0).d.kind), .int .i64 ((ys.getD j ansP0).d.err), .slice ((ys.getD j ansP0).a) (((ys.getD j ansP0).d.nums).length) ((ys.getD j ansP0).c), .string ((ys.getD j ansP0).d.text)] 102]] := H4.call u4
      refine WL.op rfl (d_notB rfl ?_)
      refine WL.done (X.then_code ?_)
      refine W.pick [29, 28, 27, 26, 7, 25, 24, 23, 22, 19, 18, 17, 16, 6, 5, 4, 0, 1] (Γ' := [(29, .bool (!(p (ys.getD j ansP0)))), (28, .bool (p (ys.getD j ansP0))), (27, .agg #[.int .i64 ((ys.getD j ansP0).d.kind), .int .i64 ((ys.getD j ansP0).d.err), .slice ((ys.getD j ansP0).a) (((ys.getD j ansP0).d.nums).length) ((ys.getD j ansP0).c), .string ((ys.getD j ansP0).d.text)]), (26, .func (.func f) #[] fc.toArray), (7, .pointer (some ⟨w2.heap.size, 0, none⟩)), (25, .agg #[.int .i64 ((ys.getD j ansP0).d.kind), .int .i64 ((ys.getD j ansP0).d.err), .slice ((ys.getD j ansP0).a) (((ys.getD j ansP0).d.nums).length) ((ys.getD j ansP0).c), .string ((ys.getD j ansP0).d.text)]), (24, elemPtr (.slice sa s.length sc) (j * 4)), (23, .int .i64 ((j : Nat) : Int)), (22, .slice sa s.length sc), (19, .bool (decide (((j : Nat) : Int) < ((s.length : Nat) : Int)))), (18, .int .i64 ((s.length : Nat) : Int)), (17, .slice sa s.length sc), (16, .int .i64 ((j : Nat) : Int)), (6, .int .i64 ((j : Nat) : Int)), (5, .int .i64 ((i : Nat) : Int)), (4, .slice none 0 0), (0, .slice sa s.length sc), (1, .func (.func f) #[] fc.toArray)]) rfl ?_
      refine W.iteB (b := !(p (ys.getD j ansP0))) rfl (fun c248 => ?_) (fun c248 => ?_)
      · skip
        refine W.seq ?_
        refine W.region ?_
        refine WL.op rfl (d_move rfl ?_)
        refine WL.op rfl (d_move rfl ?_)
        refine WL.op rfl (d_loadAB [.int .i64 ((ys.getD j ansP0).d.kind), .int .i64 ((ys.getD j ansP0).d.err), .slice ((ys.getD j ansP0).a) (((ys.getD j ansP0).d.nums).length) ((ys.getD j ansP0).c), .string ((ys.getD j ansP0).d.text)] Try.underlying102 rfl sz102 rfl (H5.blk 1 rfl) rfl rfl ?_)
        refine WL.op rfl (t_addrN i (T := tyAnsP) rfl Try.underlying74 sz102 rfl rfl (H5.rdT 0 rfl) rfl (by omega) ?_)
        refine WL.op0 (t_storeN i (ys.getD j ansP0) (T := tyAnsP) (us := [.int .i64 ((ys.getD j ansP0).d.kind), .int .i64 ((ys.getD j ansP0).d.err), .slice ((ys.getD j ansP0).a) (((ys.getD j ansP0).d.nums).length) ((ys.getD j ansP0).c), .string ((ys.getD j ansP0).d.text)]) rfl sz102 rfl rfl rfl (H5.ownT 0 rfl) (by omega) fun w6 u5 => ?_)
        have H6 : UpG w [rowT tyAnsP (.slice sa s.length sc) 102 s] w6 [[rowT tyAnsP (.slice sa s.length sc) 102 (ys.set i (ys.getD j ansP0))], [blk w2.heap.size #[.int .i64 ((ys.getD j ansP0).d.kind), .int .i64 ((ys.getD j ansP0).d.err), .slice ((ys.getD j ansP0).a) (((ys.getD j ansP0).d.nums).length) ((ys.getD j ansP0).c), .string ((ys.getD j ansP0).d.text)] 102]] := H5.on 0 rfl u5
        refine WL.done (X.then_code ?_)
        refine W.pick [33, 32, 31, 30, 29, 28, 27, 26, 7, 25, 24, 23, 22, 19, 18, 17, 16, 6, 5, 4, 0, 1] (Γ' := [(33, elemPtr (.slice sa s.length sc) (i * 4)), (32, .agg #[.int .i64 ((ys.getD j ansP0).d.kind), .int .i64 ((ys.getD j ansP0).d.err), .slice ((ys.getD j ansP0).a) (((ys.getD j ansP0).d.nums).length) ((ys.getD j ansP0).c), .string ((ys.getD j ansP0).d.text)]), (31, .int .i64 ((i : Nat) : Int)), (30, .slice sa s.length sc), (29, .bool (!(p (ys.getD j ansP0)))), (28, .bool (p (ys.getD j ansP0))), (27, .agg #[.int .i64 ((ys.getD j ansP0).d.kind), .int .i64 ((ys.getD j ansP0).d.err), .slice ((ys.getD j ansP0).a) (((ys.getD j ansP0).d.nums).length) ((ys.getD j ansP0).c), .string ((ys.getD j ansP0).d.text)]), (26, .func (.func f) #[] fc.toArray), (7, .pointer (some ⟨w2.heap.size, 0, none⟩)), (25, .agg #[.int .i64 ((ys.getD j ansP0).d.kind), .int .i64 ((ys.getD j ansP0).d.err), .slice ((ys.getD j ansP0).a) (((ys.getD j ansP0).d.nums).length) ((ys.getD j ansP0).c), .string ((ys.getD j ansP0).d.text)]), (24, elemPtr (.slice sa s.length sc) (j * 4)), (23, .int .i64 ((j : Nat) : Int)), (22, .slice sa s.length sc), (19, .bool (decide (((j : Nat) : Int) < ((s.length : Nat) : Int)))), (18, .int .i64 ((s.length : Nat) : Int)), (17, .slice sa s.length sc), (16, .int .i64 ((j : Nat) : Int)), (6, .int .i64 ((j : Nat) : Int)), (5, .int .i64 ((i : Nat) : Int)), (4, .slice none 0 0), (0, .slice sa s.length sc), (1, .func (.func f) #[] fc.toArray)]) rfl ?_
        refine W.region ?_
        refine WL.op rfl (d_move rfl ?_)
        refine WL.op rfl (d_add rfl rfl (by omega) (by omega) ?_)
        refine WL.op rfl (d_assign rfl ?_)
        refine WL.done (X.block_normal (X.then_code ?_))
        refine W.pick [5, 35, 34, 33, 32, 31, 30, 29, 28, 27, 26, 7, 25, 24, 23, 22, 19, 18, 17, 16, 6, 4, 0, 1] (Γ' := [(5, .int .i64 (((i : Nat) : Int) + 1)), (35, .int .i64 (((i : Nat) : Int) + 1)), (34, .int .i64 ((i : Nat) : Int)), (33, elemPtr (.slice sa s.length sc) (i * 4)), (32, .agg #[.int .i64 ((ys.getD j ansP0).d.kind), .int .i64 ((ys.getD j ansP0).d.err), .slice ((ys.getD j ansP0).a) (((ys.getD j ansP0).d.nums).length) ((ys.getD j ansP0).c), .string ((ys.getD j ansP0).d.text)]), (31, .int .i64 ((i : Nat) : Int)), (30, .slice sa s.length sc), (29, .bool (!(p (ys.getD j ansP0)))), (28, .bool (p (ys.getD j ansP0))), (27, .agg #[.int .i64 ((ys.getD j ansP0).d.kind), .int .i64 ((ys.getD j ansP0).d.err), .slice ((ys.getD j ansP0).a) (((ys.getD j ansP0).d.nums).length) ((ys.getD j ansP0).c), .string ((ys.getD j ansP0).d.text)]), (26, .func (.func f) #[] fc.toArray), (7, .pointer (some ⟨w2.heap.size, 0, none⟩)), (25, .agg #[.int .i64 ((ys.getD j ansP0).d.kind), .int .i64 ((ys.getD j ansP0).d.err), .slice ((ys.getD j ansP0).a) (((ys.getD j ansP0).d.nums).length) ((ys.getD j ansP0).c), .string ((ys.getD j ansP0).d.text)]), (24, elemPtr (.slice sa s.length sc) (j * 4)), (23, .int .i64 ((j : Nat) : Int)), (22, .slice sa s.length sc), (19, .bool (decide (((j : Nat) : Int) < ((s.length : Nat) : Int)))), (18, .int .i64 ((s.length : Nat) : Int)), (17, .slice sa s.length sc), (16, .int .i64 ((j : Nat) : Int)), (6, .int .i64 ((j : Nat) : Int)), (4, .slice none 0 0), (0, .slice sa s.length sc), (1, .func (.func f) #[] fc.toArray)]) rfl ?_
        refine W.region ?_
        refine WL.op rfl (d_move rfl ?_)
        refine WL.op rfl (d_add rfl rfl (by omega) (by omega) ?_)
        refine WL.op rfl (d_assign rfl ?_)
        refine WL.done ?_
        exact X.next [6, 5, 4, 0, 1] (Γ' := [(6, .int .i64 (((j + 1) : Nat) : Int)), (5, .int .i64 (((i + 1) : Nat) : Int)), (4, .slice none 0 0), (0, .slice sa s.length sc), (1, .func (.func f) #[] fc.toArray)]) rfl (s.length - (j + 1)) (by omega) ⟨i + 1, j + 1, ys.set i (ys.getD j ansP0), rfl, (UpG.of (G := [[rowT tyAnsP (.slice sa s.length sc) 102 (ys.set i (ys.getD j ansP0))]]) (Upd.sel H6 (M := [rowT tyAnsP (.slice sa s.length sc) 102 (ys.set i (ys.getD j ansP0))]) (l := [0]) rfl rfl) rfl), (by first | exact hd.yes (by omega) (by simpa using c248) | exact hd.no (by omega) (by simpa using c248)), (by first | assumption | omega | simp), rfl⟩
      · skip
        refine W.skip (X.block_normal (X.then_code ?_))
        refine W.pick [29, 28, 27, 26, 7, 25, 24, 23, 22, 19, 18, 17, 16, 6, 5, 4, 0, 1] (Γ' := [(29, .bool (!(p (ys.getD j ansP0)))), (28, .bool (p (ys.getD j ansP0))), (27, .agg #[.int .i64 ((ys.getD j ansP0).d.kind), .int .i64 ((ys.getD j ansP0).d.err), .slice ((ys.getD j ansP0).a) (((ys.getD j ansP0).d.nums).length) ((ys.getD j ansP0).c), .string ((ys.getD j ansP0).d.text)]), (26, .func (.func f) #[] fc.toArray), (7, .pointer (some ⟨w2.heap.size, 0, none⟩)), (25, .agg #[.int .i64 ((ys.getD j ansP0).d.kind), .int .i64 ((ys.getD j ansP0).d.err), .slice ((ys.getD j ansP0).a) (((ys.getD j ansP0).d.nums).length) ((ys.getD j ansP0).c), .string ((ys.getD j ansP0).d.text)]), (24, elemPtr (.slice sa s.length sc) (j * 4)), (23, .int .i64 ((j : Nat) : Int)), (22, .slice sa s.length sc), (19, .bool (decide (((j : Nat) : Int) < ((s.length : Nat) : Int)))), (18, .int .i64 ((s.length : Nat) : Int)), (17, .slice sa s.length sc), (16, .int .i64 ((j : Nat) : Int)), (6, .int .i64 ((j : Nat) : Int)), (5, .int .i64 ((i : Nat) : Int)), (4, .slice none 0 0), (0, .slice sa s.length sc), (1, .func (.func f) #[] fc.toArray)]) rfl ?_
        refine W.region ?_
        refine WL.op rfl (d_move rfl ?_)
        refine WL.op rfl (d_add rfl rfl (by omega) (by omega) ?_)
        refine WL.op rfl (d_assign rfl ?_)
        refine WL.done ?_
        exact X.next [6, 5, 4, 0, 1] (Γ' := [(6, .int .i64 (((j + 1) : Nat) : Int)), (5, .int .i64 ((i : Nat) : Int)), (4, .slice none 0 0), (0, .slice sa s.length sc), (1, .func (.func f) #[] fc.toArray)]) rfl (s.length - (j + 1)) (by omega) ⟨i, j + 1, ys, rfl, (UpG.of (G := [[rowT tyAnsP (.slice sa s.length sc) 102 ys]]) (Upd.sel H5 (M := [rowT tyAnsP (.slice sa s.length sc) 102 ys]) (l := [0]) rfl rfl) rfl), (by first | exact hd.yes (by omega) (by simpa using c248) | exact hd.no (by omega) (by simpa using c248)), (by first | assumption | omega | simp), rfl⟩
    · skip
      refine W.exit (X.then_exit (X.then_exit (X.block_exit (X.then_code ?_))))
      refine W.seq ?_
      refine W.region ?_
      refine WL.op rfl (d_move rfl ?_)
      refine WL.op rfl (d_move rfl ?_)
      refine WL.op rfl (t_suffix i Try.underlying74 sz102 rfl rfl rfl (by omega) (own_capN (H2.ownT 0 rfl)) ?_)
      refine WL.op0 (t_clearN i ansP0 (T := tyAnsP) (xs := ys) rfl Try.underlying74 sz102 rfl rfl (H2.ownT 0 rfl) (by exact hdl.symm) (by omega) fun w7 u6 => ?_)
      have H7 : UpG w [rowT tyAnsP (.slice sa s.length sc) 102 s] w7 [[rowT tyAnsP (.slice sa s.length sc) 102 (ys.take i ++ List.replicate (s.length - i) ansP0)]] := H2.on 0 rfl u6
      refine WL.done (X.then_code ?_)
      refine W.seq ?_
      refine W.region ?_
      refine WL.op rfl (d_move rfl ?_)
      refine WL.op rfl (d_move rfl ?_)
      refine WL.op rfl (t_popN ((i : Nat) : Int) i (T := tyAnsP) (e := 102) (xs := (ys.take i ++ List.replicate (s.length - i) ansP0)) rfl Try.underlying74 sz102 rfl rfl (H7.ownT 0 rfl) (by simp; omega) rfl (by omega) fun w8 u7 => ?_)
      have H8 : UpG w [rowT tyAnsP (.slice sa s.length sc) 102 s] w8 [[rowT tyAnsP (.slice sa (((ys.take i ++ List.replicate (s.length - i) ansP0).take i).length) sc) 102 ((ys.take i ++ List.replicate (s.length - i) ansP0).take i)]] := H7.on 0 rfl u7
      refine WL.op rfl (d_assign rfl ?_)
      refine WL.done (X.then_code ?_)
      refine W.ret (X.ret1 rfl rfl ?_)
      have e : s.filter (fun x => !p x) = (ys.take i ++ List.replicate (s.length - i) ansP0).take i := by have h9 := hd.fin (by omega); have h8 : (ys.take i).length = i := by { simp; omega }; rw [← h9, List.take_append_of_le_length (Nat.le_of_eq h8.symm), List.take_take, Nat.min_self]
      rw [e]
      exact ⟨(by rfl), (Upd.sel H8 (l := [0]) rfl rfl)⟩

set_option maxRecDepth 20000 in
theorem cloneA_any (sa : Option Addr) (s : List AnsP) (sc : Nat) (w : World) (rs : RdT tyAnsP w (.slice sa s.length sc) s) (hl : s.length ≤ 1000) :
    Calls Try.prog 58 #[.slice sa s.length sc] w (Ret fun v w' => ∃ a2 : Option Addr, ∃ c2 : Nat, v = .slice a2 s.length c2 ∧ Upd w [] w' [rowT tyAnsP (.slice a2 s.length c2) 102 s]) := by
  have le_rs := rs.le
  refine calls_of_W (args := [.slice sa s.length sc]) Try.func58 rfl rfl rfl ?_
  have H0 : UpG w [] w [] := UpG.nil w
  show W _ _ _ _ [(0, .slice sa s.length sc)] w
  refine W.seq ?_
  refine W.region ?_
  refine WL.op rfl (d_assign rfl ?_)
  refine WL.done (X.then_code ?_)
  refine W.seq ?_
  refine W.seq ?_
  refine W.region ?_
  refine WL.op rfl (d_move rfl ?_)
  refine WL.op rfl (d_slcnil Try.underlying74 rfl ?_)
  refine WL.done (X.then_code ?_)
  refine W.ite (p := sa = none) rfl (fun c357 => ?_) (fun c357 => ?_)
  · skip
    refine W.seq ?_
    refine W.region ?_
    refine WL.op rfl (d_assign rfl ?_)
    refine WL.done (X.then_code ?_)
    refine W.ret (X.then_ret (X.ret1 rfl rfl ?_))
    have e : s = [] := rs.nilOf c357
    subst e
    exact ⟨none, 0, (by rfl), nilOwn H0⟩
  · skip
    refine W.skip (X.then_code ?_)
    refine W.seq ?_
    refine W.region ?_
    refine WL.op rfl (t_buildSlice0 (T := tyAnsP) rfl Try.underlying74 sz102 fun w1 u1 => ?_)
    have H1 : UpG w [] w1 [[rowT tyAnsP (.slice (some ⟨w.heap.size, 0, none⟩) (([] : List AnsP).length) 0) 102 ([] : List AnsP)]] := H0.new' u1
    refine WL.op rfl (d_move rfl ?_)
    refine WL.op rfl (t_append (T := tyAnsP) (xs := ([] : List AnsP)) (ys := s) rfl Try.underlying74 sz102 rfl rfl rfl (H1.ownT 0 rfl) (rs.at H1) (by simp; omega) (by simp; omega) fun a1 c1 w2 u2 => ?_)
    have H2 : UpG w [] w2 [[rowT tyAnsP (.slice a1 ((([] : List AnsP) ++ s).length) c1) 102 (([] : List AnsP) ++ s)]] := H1.on 0 rfl u2
    refine WL.op rfl (d_assign rfl ?_)
    refine WL.done (X.then_code ?_)
    refine W.ret (X.ret1 rfl rfl ?_)
    exact ⟨a1, c1, (by rfl), (by have hh := H2.one 0 rfl; exact hh)⟩

set_option maxRecDepth 20000 in
theorem plain_any (la : Option Addr) (l : List AnsP) (lc : Nat) (w : World) (rl : RdT tyAnsP w (.slice la l.length lc) l) (hl : l.length ≤ 1000) :
    Calls Try.prog 39 #[.slice la l.length lc] w (Ret fun v w' => ∃ a2 : Option Addr, ∃ c2 : Nat, v = .slice a2 ((l.filter keepP).length) c2 ∧ Upd w [] w' [rowT tyAnsP (.slice a2 ((l.filter keepP).length) c2) 102 (l.filter keepP)]) := by
  have le_rl := rl.le
  refine calls_of_W (args := [.slice la l.length lc]) Try.func39 rfl rfl rfl ?_
  have H0 : UpG w [] w [] := UpG.nil w
  show W _ _ _ _ [(0, .slice la l.length lc)] w
  refine W.seq ?_
  refine W.region ?_
  refine WL.op rfl (d_assign rfl ?_)
  refine WL.done (X.then_code ?_)
  refine W.seq ?_
  refine W.region ?_
  refine WL.op rfl (d_move rfl ?_)
  refine WL.op rfl (d_call ok58 rfl (Ret.calls (cloneA_any la l lc w (rl.at H0) (by omega)) fun _ w1 p1 => ?_))
  obtain ⟨a2_1, c2_1, rfl, u1⟩ := p1
  have H1 : UpG w [] w1 [[rowT tyAnsP (.slice a2_1 l.length c2_1) 102 l]] := (H0.new' u1).re rfl
  refine WL.op rfl (d_call ok57 rfl (Ret.calls (deleteA_any a2_1 l c2_1 59 [] (fun x => aboutB x.d.kind) w1 (H1.hpOf 0 rfl)  (by omega) ok59 (fun w' x => plain1_any x w')) fun _ w2 p2 => ?_))
  obtain ⟨rfl, u2⟩ := p2
  have H2 : UpG w [] w2 [[rowT tyAnsP (.slice a2_1 ((l.filter (fun x => !(fun x => aboutB x.d.kind) x)).length) c2_1) 102 (l.filter (fun x => !(fun x => aboutB x.d.kind) x))]] := H1.on 0 rfl u2
  refine WL.op rfl (d_assign rfl ?_)
  refine WL.done (X.then_code ?_)
  refine W.ret (X.ret1 rfl rfl ?_)
  exact ⟨a2_1, c2_1, (by rfl), (by have hh := H2.one 0 rfl; exact hh)⟩

set_option maxRecDepth 20000 in
theorem refPlain_any (la : Option Addr) (l : List AnsP) (lc : Nat) (w : World) (rl : RdT tyAnsP w (.slice la l.length lc) l) (hl : l.length ≤ 1000) :
    Calls Try.prog 40 #[.slice la l.length lc] w (Ret fun v w' => ∃ a2 : Option Addr, ∃ c2 : Nat, v = .slice a2 ((l.filter keepP).length) c2 ∧ Upd w [] w' [rowT tyAnsP (.slice a2 ((l.filter keepP).length) c2) 102 (l.filter keepP)]) := by
  have le_rl := rl.le
  refine calls_of_W (args := [.slice la l.length lc]) Try.func40 rfl rfl rfl ?_
  have H0 : UpG w [] w [] := UpG.nil w
  show W _ _ _ _ [(0, .slice la l.length lc)] w
  refine W.seq ?_
  refine W.region ?_
  refine WL.op rfl (d_assign rfl ?_)
  refine WL.done (X.then_code ?_)
  refine W.seq ?_
  refine W.region ?_
  refine WL.op rfl (d_assign rfl ?_)
  refine WL.done (X.then_code ?_)
  refine W.seq ?_
  refine W.seq ?_
  refine W.region ?_
  refine WL.op rfl (d_assign rfl ?_)
  refine WL.done (X.then_code ?_)
  refine W.block ?_
  have H1 : UpG w [] w [[rowT tyAnsP (.slice none (([] : List AnsP).length) 0) 102 ([] : List AnsP)]] := H0.new' (Upd.nilRowT w tyAnsP 102)
  refine W.pick [4, 3, 2, 0] (Γ' := [(4, .int .i64 0), (3, .slice none (([] : List AnsP).length) 0), (2, .slice none 0 0), (0, .slice la l.length lc)]) rfl ?_
  refine W.loop (fun m Γ' w' => ∃ k : Nat, ∃ os : List AnsP, ∃ oa : Option Addr, ∃ oc : Nat, Γ' = [(4, .int .i64 ((k : Nat) : Int)), (3, .slice oa os.length oc), (2, .slice none 0 0), (0, .slice la l.length lc)] ∧ UpG w [] w' [[rowT tyAnsP (.slice oa os.length oc) 102 os]] ∧ (k ≤ l.length) ∧ (os = (l.take k).filter keepP) ∧ (os.length ≤ k) ∧ m = l.length - k) (l.length - 0) ⟨0, ([] : List AnsP), none, 0, rfl, H1, (by first | assumption | omega | simp), (by rfl), (by simp), rfl⟩ ?_
  rintro m1 Γ1 w1 ⟨k, os, oa, oc, rfl, H2, hk, ho, hol, rfl⟩
  refine W.seq ?_
  refine W.seq ?_
  refine W.region ?_
  refine WL.op rfl (d_move rfl ?_)
  refine WL.op rfl (d_move rfl ?_)
  refine WL.op rfl (d_lenS Try.underlying74 rfl ?_)
  refine WL.op rfl (d_cmp (decide (((k : Nat) : Int) < ((l.length : Nat) : Int))) rfl rfl rfl ?_)
  refine WL.done (X.then_code ?_)
  refine W.ite (p := ((k : Nat) : Int) < ((l.length : Nat) : Int)) rfl (fun c27 => ?_) (fun c27 => ?_)
  · skip
    refine W.skip (X.then_code ?_)
    refine W.seq ?_
    refine W.block ?_
    refine W.seq ?_
    refine W.region ?_
    refine WL.op rfl (d_move rfl ?_)
    refine WL.op rfl (d_move rfl ?_)
    refine WL.op rfl (t_addrN k (T := tyAnsP) rfl Try.underlying74 sz102 rfl rfl (rl.at H2) rfl (by omega) ?_)
    refine WL.op rfl (t_fld k ansP0 (T := tyAnsP) rfl fld102_0 rfl rfl (rl.at H2) (by omega) ?_)
    refine WL.op rfl (t_loadF k ansP0 (T := tyAnsP) rfl rfl Try.underlying3 rfl rfl (rl.at H2) (by omega) rfl ?_)
    refine WL.op rfl (d_cmp (decide (((l.getD k ansP0).d.kind) ≠ (23 : Int))) rfl rfl rfl ?_)
    refine WL.op rfl (d_move rfl ?_)
    refine WL.part 17 (p := ((l.getD k ansP0).d.kind) ≠ (23 : Int)) rfl (fun g28 => ?_) (fun g28 => ?_)
    · skip
      refine WL.opG rfl rfl rfl (d_move rfl ?_)
      refine WL.opG rfl rfl rfl (d_move rfl ?_)
      refine WL.opG rfl rfl rfl (t_addrN k (T := tyAnsP) rfl Try.underlying74 sz102 rfl rfl (rl.at H2) rfl (by omega) ?_)
      refine WL.opG rfl rfl rfl (t_fld k ansP0 (T := tyAnsP) rfl fld102_0 rfl rfl (rl.at H2) (by omega) ?_)
      refine WL.opG rfl rfl rfl (t_loadF k ansP0 (T := tyAnsP) rfl rfl Try.underlying3 rfl rfl (rl.at H2) (by omega) rfl ?_)
      refine WL.opG rfl rfl rfl (d_cmp (decide (((l.getD k ansP0).d.kind) ≠ (24 : Int))) rfl rfl rfl ?_)
      refine WL.op rfl (d_pick rfl rfl ?_)
      refine WL.done (X.then_code ?_)
      refine W.pick [24, 23, 22, 21, 20, 19, 18, 17, 16, 15, 14, 13, 12, 11, 8, 7, 6, 5, 4, 3, 2, 0] (Γ' := [(24, .bool (decide (((l.getD k ansP0).d.kind) ≠ (24 : Int)))), (23, .bool (decide (((l.getD k ansP0).d.kind) ≠ (24 : Int)))), (22, .int .i64 ((l.getD k ansP0).d.kind)), (21, elemPtr (.slice la l.length lc) (k * 4 + 0)), (20, elemPtr (.slice la l.length lc) (k * 4)), (19, .int .i64 ((k : Nat) : Int)), (18, .slice la l.length lc), (17, .bool true), (16, .bool (decide (((l.getD k ansP0).d.kind) ≠ (23 : Int)))), (15, .int .i64 ((l.getD k ansP0).d.kind)), (14, elemPtr (.slice la l.length lc) (k * 4 + 0)), (13, elemPtr (.slice la l.length lc) (k * 4)), (12, .int .i64 ((k : Nat) : Int)), (11, .slice la l.length lc), (8, .bool (decide (((k : Nat) : Int) < ((l.length : Nat) : Int)))), (7, .int .i64 ((l.length : Nat) : Int)), (6, .slice la l.length lc), (5, .int .i64 ((k : Nat) : Int)), (4, .int .i64 ((k : Nat) : Int)), (3, .slice oa os.length oc), (2, .slice none 0 0), (0, .slice la l.length lc)]) rfl ?_
      refine W.ite (p := ((l.getD k ansP0).d.kind) ≠ (24 : Int)) rfl (fun c28 => ?_) (fun c28 => ?_)
      · skip
        refine W.region ?_
        refine WL.op rfl (d_move rfl ?_)
        refine WL.op rfl (d_move rfl ?_)
        refine WL.op rfl (d_move rfl ?_)
        refine WL.op rfl (t_addrN k (T := tyAnsP) rfl Try.underlying74 sz102 rfl rfl (rl.at H2) rfl (by omega) ?_)
        refine WL.op rfl (t_loadN k ansP0 (T := tyAnsP) (us := [.int .i64 ((l.getD k ansP0).d.kind), .int .i64 ((l.getD k ansP0).d.err), .slice ((l.getD k ansP0).a) (((l.getD k ansP0).d.nums).length) ((l.getD k ansP0).c), .string ((l.getD k ansP0).d.text)]) rfl Try.underlying102 rfl sz102 rfl (rl.at H2) (by omega) rfl ?_)
        refine WL.op rfl (t_buildSlice (T := tyAnsP) (xs := ([l.getD k ansP0] : List AnsP)) (cs := #[.int .i64 ((l.getD k ansP0).d.kind), .int .i64 ((l.getD k ansP0).d.err), .slice ((l.getD k ansP0).a) (((l.getD k ansP0).d.nums).length) ((l.getD k ansP0).c), .string ((l.getD k ansP0).d.text)]) rfl Try.underlying74 sz102 rfl rfl rfl rfl (by kernel_rfl) rfl rfl fun w2 u1 => ?_)
        have H3 : UpG w [] w2 [[rowT tyAnsP (.slice oa os.length oc) 102 os], [rowT tyAnsP (.slice (some ⟨w1.heap.size, 0, none⟩) (([l.getD k ansP0] : List AnsP).length) (([l.getD k ansP0] : List AnsP).length)) 102 ([l.getD k ansP0] : List AnsP)]] := H2.new' u1
        refine WL.op rfl (t_append (T := tyAnsP) (xs := os) (ys := ([l.getD k ansP0] : List AnsP)) rfl Try.underlying74 sz102 rfl rfl rfl (H3.ownT 0 rfl) (H3.rdT 1 rfl) (by simp; omega) (by simp; omega) fun a1 c1 w3 u2 => ?_)
        have H4 : UpG w [] w3 [[rowT tyAnsP (.slice a1 ((os ++ ([l.getD k ansP0] : List AnsP)).length) c1) 102 (os ++ ([l.getD k ansP0] : List AnsP))], []] := (H3.on 0 rfl u2).drop 1
        refine WL.op rfl (d_assign rfl ?_)
        refine WL.done (X.block_normal (X.then_code ?_))
        refine W.pick [3, 31, 30, 29, 28, 27, 26, 25, 24, 23, 22, 21, 20, 19, 18, 17, 16, 15, 14, 13, 12, 11, 8, 7, 6, 5, 4, 2, 0] (Γ' := [(3, .slice a1 ((os ++ ([l.getD k ansP0] : List AnsP)).length) c1), (31, .slice a1 ((os ++ ([l.getD k ansP0] : List AnsP)).length) c1), (30, .slice (some ⟨w1.heap.size, 0, none⟩) (([l.getD k ansP0] : List AnsP).length) (([l.getD k ansP0] : List AnsP).length)), (29, .agg #[.int .i64 ((l.getD k ansP0).d.kind), .int .i64 ((l.getD k ansP0).d.err), .slice ((l.getD k ansP0).a) (((l.getD k ansP0).d.nums).length) ((l.getD k ansP0).c), .string ((l.getD k ansP0).d.text)]), (28, elemPtr (.slice la l.length lc) (k * 4)), (27, .int .i64 ((k : Nat) : Int)), (26, .slice la l.length lc), (25, .slice oa os.length oc), (24, .bool (decide (((l.getD k ansP0).d.kind) ≠ (24 : Int)))), (23, .bool (decide (((l.getD k ansP0).d.kind) ≠ (24 : Int)))), (22, .int .i64 ((l.getD k ansP0).d.kind)), (21, elemPtr (.slice la l.length lc) (k * 4 + 0)), (20, elemPtr (.slice la l.length lc) (k * 4)), (19, .int .i64 ((k : Nat) : Int)), (18, .slice la l.length lc), (17, .bool true), (16, .bool (decide (((l.getD k ansP0).d.kind) ≠ (23 : Int)))), (15, .int .i64 ((l.getD k ansP0).d.kind)), (14, elemPtr (.slice la l.length lc) (k * 4 + 0)), (13, elemPtr (.slice la l.length lc) (k * 4)), (12, .int .i64 ((k : Nat) : Int)), (11, .slice la l.length lc), (8, .bool (decide (((k : Nat) : Int) < ((l.length : Nat) : Int)))), (7, .int .i64 ((l.length : Nat) : Int)), (6, .slice la l.length lc), (5, .int .i64 ((k : Nat) : Int)), (4, .int .i64 ((k : Nat) : Int)), (2, .slice none 0 0), (0, .slice la l.length lc)]) rfl ?_
        refine W.region ?_
        refine WL.op rfl (d_move rfl ?_)
        refine WL.op rfl (d_add rfl rfl (by omega) (by omega) ?_)
        refine WL.op rfl (d_assign rfl ?_)
        refine WL.done ?_
        exact X.next [4, 3, 2, 0] (Γ' := [(4, .int .i64 (((k + 1) : Nat) : Int)), (3, .slice a1 ((os ++ ([l.getD k ansP0] : List AnsP)).length) c1), (2, .slice none 0 0), (0, .slice la l.length lc)]) rfl (l.length - (k + 1)) (by omega) ⟨k + 1, os ++ ([l.getD k ansP0] : List AnsP), a1, c1, rfl, (H4.re rfl), (by first | assumption | omega | simp), (by first | (rw [filt_yes (by omega) g28 c28, ← ho]; done) | (rw [filt_no (by omega) (by omega)]; exact ho)), (by first | omega | (simp; omega)), rfl⟩
      · skip
        refine W.skip (X.block_normal (X.then_code ?_))
        refine W.pick [24, 23, 22, 21, 20, 19, 18, 17, 16, 15, 14, 13, 12, 11, 8, 7, 6, 5, 4, 3, 2, 0] (Γ' := [(24, .bool (decide (((l.getD k ansP0).d.kind) ≠ (24 : Int)))), (23, .bool (decide (((l.getD k ansP0).d.kind) ≠ (24 : Int)))), (22, .int .i64 ((l.getD k ansP0).d.kind)), (21, elemPtr (.slice la l.length lc) (k * 4 + 0)), (20, elemPtr (.slice la l.length lc) (k * 4)), (19, .int .i64 ((k : Nat) : Int)), (18, .slice la l.length lc), (17, .bool true), (16, .bool (decide (((l.getD k ansP0).d.kind) ≠ (23 : Int)))), (15, .int .i64 ((l.getD k ansP0).d.kind)), (14, elemPtr (.slice la l.length lc) (k * 4 + 0)), (13, elemPtr (.slice la l.length lc) (k * 4)), (12, .int .i64 ((k : Nat) : Int)), (11, .slice la l.length lc), (8, .bool (decide (((k : Nat) : Int) < ((l.length : Nat) : Int)))), (7, .int .i64 ((l.length : Nat) : Int)), (6, .slice la l.length lc), (5, .int .i64 ((k : Nat) : Int)), (4, .int .i64 ((k : Nat) : Int)), (3, .slice oa os.length oc), (2, .slice none 0 0), (0, .slice la l.length lc)]) rfl ?_
        refine W.region ?_
        refine WL.op rfl (d_move rfl ?_)
        refine WL.op rfl (d_add rfl rfl (by omega) (by omega) ?_)
        refine WL.op rfl (d_assign rfl ?_)
        refine WL.done ?_
        exact X.next [4, 3, 2, 0] (Γ' := [(4, .int .i64 (((k + 1) : Nat) : Int)), (3, .slice oa os.length oc), (2, .slice none 0 0), (0, .slice la l.length lc)]) rfl (l.length - (k + 1)) (by omega) ⟨k + 1, os, oa, oc, rfl, H2, (by first | assumption | omega | simp), (by first | (rw [filt_yes (by omega) g28 c28, ← ho]; done) | (rw [filt_no (by omega) (by omega)]; exact ho)), (by first | omega | (simp; omega)), rfl⟩
    · skip
      refine WL.opN rfl rfl rfl rfl ?_
      refine WL.opN rfl rfl rfl rfl ?_
      refine WL.opN rfl rfl rfl rfl ?_
      refine WL.opN rfl rfl rfl rfl ?_
      refine WL.opN rfl rfl rfl rfl ?_
      refine WL.opN rfl rfl rfl rfl ?_
      refine WL.op rfl (d_pick rfl rfl ?_)
      refine WL.done (X.then_code ?_)
      refine W.pick [24, 23, 22, 21, 20, 19, 18, 17, 16, 15, 14, 13, 12, 11, 8, 7, 6, 5, 4, 3, 2, 0] (Γ' := [(24, .bool false), (23, undef), (22, undef), (21, undef), (20, undef), (19, undef), (18, undef), (17, .bool false), (16, .bool (decide (((l.getD k ansP0).d.kind) ≠ (23 : Int)))), (15, .int .i64 ((l.getD k ansP0).d.kind)), (14, elemPtr (.slice la l.length lc) (k * 4 + 0)), (13, elemPtr (.slice la l.length lc) (k * 4)), (12, .int .i64 ((k : Nat) : Int)), (11, .slice la l.length lc), (8, .bool (decide (((k : Nat) : Int) < ((l.length : Nat) : Int)))), (7, .int .i64 ((l.length : Nat) : Int)), (6, .slice la l.length lc), (5, .int .i64 ((k : Nat) : Int)), (4, .int .i64 ((k : Nat) : Int)), (3, .slice oa os.length oc), (2, .slice none 0 0), (0, .slice la l.length lc)]) rfl ?_
      refine W.iff rfl ?_
      refine W.skip (X.block_normal (X.then_code ?_))
      refine W.pick [24, 23, 22, 21, 20, 19, 18, 17, 16, 15, 14, 13, 12, 11, 8, 7, 6, 5, 4, 3, 2, 0] (Γ' := [(24, .bool false), (23, undef), (22, undef), (21, undef), (20, undef), (19, undef), (18, undef), (17, .bool false), (16, .bool (decide (((l.getD k ansP0).d.kind) ≠ (23 : Int)))), (15, .int .i64 ((l.getD k ansP0).d.kind)), (14, elemPtr (.slice la l.length lc) (k * 4 + 0)), (13, elemPtr (.slice la l.length lc) (k * 4)), (12, .int .i64 ((k : Nat) : Int)), (11, .slice la l.length lc), (8, .bool (decide (((k : Nat) : Int) < ((l.length : Nat) : Int)))), (7, .int .i64 ((l.length : Nat) : Int)), (6, .slice la l.length lc), (5, .int .i64 ((k : Nat) : Int)), (4, .int .i64 ((k : Nat) : Int)), (3, .slice oa os.length oc), (2, .slice none 0 0), (0, .slice la l.length lc)]) rfl ?_
      refine W.region ?_
      refine WL.op rfl (d_move rfl ?_)
      refine WL.op rfl (d_add rfl rfl (by omega) (by omega) ?_)
      refine WL.op rfl (d_assign rfl ?_)
      refine WL.done ?_
      exact X.next [4, 3, 2, 0] (Γ' := [(4, .int .i64 (((k + 1) : Nat) : Int)), (3, .slice oa os.length oc), (2, .slice none 0 0), (0, .slice la l.length lc)]) rfl (l.length - (k + 1)) (by omega) ⟨k + 1, os, oa, oc, rfl, H2, (by first | assumption | omega | simp), (by first | (rw [filt_yes (by omega) g28 c28, ← ho]; done) | (rw [filt_no (by omega) (by omega)]; exact ho)), (by first | omega | (simp; omega)), rfl⟩
  · skip
    refine W.exit (X.then_exit (X.then_exit (X.block_exit (X.then_code ?_))))
    refine W.seq ?_
    refine W.region ?_
    refine WL.op rfl (d_move rfl ?_)
    refine WL.op rfl (d_assign rfl ?_)
    refine WL.done (X.then_code ?_)
    refine W.ret (X.ret1 rfl rfl ?_)
    have e : l.filter keepP = os := by rw [ho, List.take_of_length_le (by omega)]
    rw [e]
    exact ⟨oa, oc, (by rfl), (by have hh := H2.one 0 rfl; exact hh)⟩

set_option maxRecDepth 20000 in
theorem twinTells_any (aa : Option Addr) (a : List AnsP) (ac : Nat) (ba : Option Addr) (b : List AnsP) (bc : Nat) (w : World) (ra : RdT tyAnsP w (.slice aa a.length ac) a) (rb : RdT tyAnsP w (.slice ba b.length bc) b) (da : inAns.Rd w a) (db : inAns.Rd w b) (hca : a.length ≤ ac) (hcb : b.length ≤ bc) :
    Calls Try.prog 10 #[.slice aa a.length ac, .slice ba b.length bc] w (Ret fun v w' => v = .bool true ∧ Upd w [] w' []) := by
  have le_ra := ra.le
  have le_rb := rb.le
  refine calls_of_W (args := [.slice aa a.length ac, .slice ba b.length bc]) Try.func10 rfl rfl rfl ?_
  have H0 : UpG w [] w [] := UpG.nil w
  show W _ _ _ _ [(0, .slice aa a.length ac), (1, .slice ba b.length bc)] w
  refine W.seq ?_
  refine W.region ?_
  refine WL.op rfl (d_assign rfl ?_)
  refine WL.done (X.then_code ?_)
  refine W.seq ?_
  refine W.seq ?_
  refine W.region ?_
  refine WL.op rfl (d_call ok33 rfl (Ret.calls (tawake_any  w  ) fun _ w1 p1 => ?_))
  obtain ⟨rfl, u1⟩ := p1
  have H1 : UpG w [] w1 [] := H0.call u1
  refine WL.op rfl (d_notB rfl ?_)
  refine WL.done (X.then_code ?_)
  refine W.iff rfl ?_
  refine W.skip (X.then_code ?_)
  refine W.seq ?_
  refine W.regionD mixed (by kernel_rfl) fun hok1 w2 k1 => ?_
  have H2 : UpG w [] w2 [] := H1.kept k1
  refine WD.take hok1 0 (.slice aa a.length ac) (fun _ => True) rfl rfl rfl rfl rfl trivial (.inl ⟨rfl, fun _ _ => d_move rfl ⟨rfl, rfl⟩⟩) ?_
  refine WD.take hok1 1 (.slice aa a.length ac) (fun _ => True) rfl rfl rfl rfl rfl trivial (.inl ⟨rfl, fun _ _ => d_move rfl ⟨rfl, rfl⟩⟩) ?_
  refine WD.take hok1 2 (.int .i64 ((a.length : Nat) : Int)) (fun _ => True) rfl rfl rfl rfl rfl trivial (.inl ⟨rfl, fun _ _ => d_lenS Try.underlying74 rfl ⟨rfl, rfl⟩⟩) ?_
  refine WD.take hok1 3 (.int .i64 (min ((a.length : Nat) : Int) 30)) (fun _ => True) rfl rfl rfl rfl rfl trivial (.inl ⟨rfl, fun _ _ => d_min rfl rfl ⟨rfl, rfl⟩⟩) ?_
  have rs1 := RdT.take ra ((min ((a.length : Nat) : Int) 30).toNat) (by omega)
  refine WD.take hok1 4 (.slice aa ((a.take ((min ((a.length : Nat) : Int) 30).toNat)).length) ac) (fun _ => True) rfl rfl rfl rfl rfl trivial (.inl ⟨rfl, fun _ _ => t_take (min ((a.length : Nat) : Int) 30) ((min ((a.length : Nat) : Int) 30).toNat) (T := tyAnsP) (xs := a) rfl Try.underlying74 sz102 rfl rfl (by omega) (by omega) (by omega) ⟨rfl, rfl⟩⟩) ?_
  refine WD.take hok1 5 (.slice ba b.length bc) (fun _ => True) rfl rfl rfl rfl rfl trivial (.inl ⟨rfl, fun _ _ => d_move rfl ⟨rfl, rfl⟩⟩) ?_
  refine WD.take hok1 6 (.slice ba b.length bc) (fun _ => True) rfl rfl rfl rfl rfl trivial (.inl ⟨rfl, fun _ _ => d_move rfl ⟨rfl, rfl⟩⟩) ?_
  refine WD.take hok1 7 (.int .i64 ((b.length : Nat) : Int)) (fun _ => True) rfl rfl rfl rfl rfl trivial (.inl ⟨rfl, fun _ _ => d_lenS Try.underlying74 rfl ⟨rfl, rfl⟩⟩) ?_
  refine WD.take hok1 8 (.int .i64 (min ((b.length : Nat) : Int) 30)) (fun _ => True) rfl rfl rfl rfl rfl trivial (.inl ⟨rfl, fun _ _ => d_min rfl rfl ⟨rfl, rfl⟩⟩) ?_
  have rs2 := RdT.take rb ((min ((b.length : Nat) : Int) 30).toNat) (by omega)
  refine WD.take hok1 9 (.slice ba ((b.take ((min ((b.length : Nat) : Int) 30).toNat)).length) bc) (fun _ => True) rfl rfl rfl rfl rfl trivial (.inl ⟨rfl, fun _ _ => t_take (min ((b.length : Nat) : Int) 30) ((min ((b.length : Nat) : Int) 30).toNat) (T := tyAnsP) (xs := b) rfl Try.underlying74 sz102 rfl rfl (by omega) (by omega) (by omega) ⟨rfl, rfl⟩⟩) ?_
  refine WD.take hok1 10 (.slice aa ((a.take ((min ((a.length : Nat) : Int) 30).toNat)).length) ac) (fun _ => True) rfl rfl rfl rfl rfl trivial (.inl ⟨rfl, fun _ _ => d_assign rfl ⟨rfl, rfl⟩⟩) ?_
  refine WD.take hok1 11 (.slice ba ((b.take ((min ((b.length : Nat) : Int) 30).toNat)).length) bc) (fun _ => True) rfl rfl rfl rfl rfl trivial (.inl ⟨rfl, fun _ _ => d_assign rfl ⟨rfl, rfl⟩⟩) ?_
  refine WD.done hok1 rfl (X.then_code ?_)
  refine W.seq ?_
  refine W.region ?_
  refine WL.op rfl (d_move rfl ?_)
  refine WL.op rfl (d_call ok39 rfl (Ret.calls (plain_any aa (a.take ((min ((a.length : Nat) : Int) 30).toNat)) ac w2 (rs1.at H2) (by simp; omega)) fun _ w3 p2 => ?_))
  obtain ⟨a2_1, c2_1, rfl, u2⟩ := p2
  have H3 : UpG w [] w3 [[rowT tyAnsP (.slice a2_1 (((a.take ((min ((a.length : Nat) : Int) 30).toNat)).filter keepP).length) c2_1) 102 ((a.take ((min ((a.length : Nat) : Int) 30).toNat)).filter keepP)]] := (H2.new' u2).re rfl
  refine WL.op rfl (d_move rfl ?_)
  refine WL.op rfl (d_call ok40 rfl (Ret.calls (refPlain_any aa (a.take ((min ((a.length : Nat) : Int) 30).toNat)) ac w3 (rs1.at H3) (by simp; omega)) fun _ w4 p3 => ?_))
  obtain ⟨a2_2, c2_2, rfl, u3⟩ := p3
  have H4 : UpG w [] w4 [[rowT tyAnsP (.slice a2_1 (((a.take ((min ((a.length : Nat) : Int) 30).toNat)).filter keepP).length) c2_1) 102 ((a.take ((min ((a.length : Nat) : Int) 30).toNat)).filter keepP)], [rowT tyAnsP (.slice a2_2 (((a.take ((min ((a.length : Nat) : Int) 30).toNat)).filter keepP).length) c2_2) 102 ((a.take ((min ((a.length : Nat) : Int) 30).toNat)).filter keepP)]] := (H3.new' u3).re rfl
  refine WL.op rfl (d_call ok38 rfl (Ret.calls (answersSame_any a2_1 ((a.take ((min ((a.length : Nat) : Int) 30).toNat)).filter keepP) c2_1 a2_2 ((a.take ((min ((a.length : Nat) : Int) 30).toNat)).filter keepP) c2_2 w4 (H4.rdT 0 rfl) (H4.rdT 1 rfl) (((da.at H4).take ((min ((a.length : Nat) : Int) 30).toNat)).filter keepP) (((da.at H4).take ((min ((a.length : Nat) : Int) 30).toNat)).filter keepP) ) fun _ w5 p4 => ?_))
  obtain ⟨rfl, u4⟩ := p4
  have H5 : UpG w [] w5 [[rowT tyAnsP (.slice a2_1 (((a.take ((min ((a.length : Nat) : Int) 30).toNat)).filter keepP).length) c2_1) 102 ((a.take ((min ((a.length : Nat) : Int) 30).toNat)).filter keepP)], [rowT tyAnsP (.slice a2_2 (((a.take ((min ((a.length : Nat) : Int) 30).toNat)).filter keepP).length) c2_2) 102 ((a.take ((min ((a.length : Nat) : Int) 30).toNat)).filter keepP)]] := H4.call u4
  refine WL.op rfl (d_move rfl ?_)
  refine WL.partB 22 (b := decide (adsOf ((a.take ((min ((a.length : Nat) : Int) 30).toNat)).filter keepP) = adsOf ((a.take ((min ((a.length : Nat) : Int) 30).toNat)).filter keepP))) rfl (fun g43 => ?_) (fun g43 => ?_)
  · skip
    refine WL.opG rfl rfl rfl (d_move rfl ?_)
    refine WL.opG rfl rfl rfl (d_move rfl ?_)
    refine WL.opG rfl rfl rfl (d_call ok41 rfl (Ret.calls (apart_any aa (a.take ((min ((a.length : Nat) : Int) 30).toNat)) ac ba (b.take ((min ((b.length : Nat) : Int) 30).toNat)) bc w5 (rs1.at H5) (rs2.at H5) ((da.at H5).take ((min ((a.length : Nat) : Int) 30).toNat)) ((db.at H5).take ((min ((b.length : Nat) : Int) 30).toNat)) ) fun _ w6 p5 => ?_))
    obtain ⟨rfl, u5⟩ := p5
    have H6 : UpG w [] w6 [[rowT tyAnsP (.slice a2_1 (((a.take ((min ((a.length : Nat) : Int) 30).toNat)).filter keepP).length) c2_1) 102 ((a.take ((min ((a.length : Nat) : Int) 30).toNat)).filter keepP)], [rowT tyAnsP (.slice a2_2 (((a.take ((min ((a.length : Nat) : Int) 30).toNat)).filter keepP).length) c2_2) 102 ((a.take ((min ((a.length : Nat) : Int) 30).toNat)).filter keepP)]] := H5.call u5
    refine WL.opG rfl rfl rfl (d_move rfl ?_)
    refine WL.opG rfl rfl rfl (d_move rfl ?_)
    refine WL.opG rfl rfl rfl (d_call ok42 rfl (Ret.calls (refApart_any aa (a.take ((min ((a.length : Nat) : Int) 30).toNat)) ac ba (b.take ((min ((b.length : Nat) : Int) 30).toNat)) bc w6 (rs1.at H6) (rs2.at H6) ((da.at H6).take ((min ((a.length : Nat) : Int) 30).toNat)) ((db.at H6).take ((min ((b.length : Nat) : Int) 30).toNat)) ) fun _ w7 p6 => ?_))
    obtain ⟨rfl, u6⟩ := p6
    have H7 : UpG w [] w7 [[rowT tyAnsP (.slice a2_1 (((a.take ((min ((a.length : Nat) : Int) 30).toNat)).filter keepP).length) c2_1) 102 ((a.take ((min ((a.length : Nat) : Int) 30).toNat)).filter keepP)], [rowT tyAnsP (.slice a2_2 (((a.take ((min ((a.length : Nat) : Int) 30).toNat)).filter keepP).length) c2_2) 102 ((a.take ((min ((a.length : Nat) : Int) 30).toNat)).filter keepP)]] := H6.call u6
    refine WL.opG rfl rfl rfl (d_cmp (decide ((apartL (adsOf (a.take ((min ((a.length : Nat) : Int) 30).toNat))) (adsOf (b.take ((min ((b.length : Nat) : Int) 30).toNat))) 0) = (apartL (adsOf (a.take ((min ((a.length : Nat) : Int) 30).toNat))) (adsOf (b.take ((min ((b.length : Nat) : Int) 30).toNat))) 0))) rfl rfl rfl ?_)
    refine WL.op rfl (d_pick rfl rfl ?_)
    refine WL.op rfl (d_move rfl ?_)
    refine WL.part 31 (p := (apartL (adsOf (a.take ((min ((a.length : Nat) : Int) 30).toNat))) (adsOf (b.take ((min ((b.length : Nat) : Int) 30).toNat))) 0) = (apartL (adsOf (a.take ((min ((a.length : Nat) : Int) 30).toNat))) (adsOf (b.take ((min ((b.length : Nat) : Int) 30).toNat))) 0)) rfl (fun g43x => ?_) (fun g43x => ?_)
    · skip
      refine WL.opG rfl rfl rfl (d_move rfl ?_)
      refine WL.opG rfl rfl rfl (d_move rfl ?_)
      refine WL.opG rfl rfl rfl (d_call ok41 rfl (Ret.calls (apart_any aa (a.take ((min ((a.length : Nat) : Int) 30).toNat)) ac aa (a.take ((min ((a.length : Nat) : Int) 30).toNat)) ac w7 (rs1.at H7) (rs1.at H7) ((da.at H7).take ((min ((a.length : Nat) : Int) 30).toNat)) ((da.at H7).take ((min ((a.length : Nat) : Int) 30).toNat)) ) fun _ w8 p7 => ?_))
      obtain ⟨rfl, u7⟩ := p7
      have H8 : UpG w [] w8 [[rowT tyAnsP (.slice a2_1 (((a.take ((min ((a.length : Nat) : Int) 30).toNat)).filter keepP).length) c2_1) 102 ((a.take ((min ((a.length : Nat) : Int) 30).toNat)).filter keepP)], [rowT tyAnsP (.slice a2_2 (((a.take ((min ((a.length : Nat) : Int) 30).toNat)).filter keepP).length) c2_2) 102 ((a.take ((min ((a.length : Nat) : Int) 30).toNat)).filter keepP)]] := H7.call u7
      refine WL.opG rfl rfl rfl (d_cmp (decide ((apartL (adsOf (a.take ((min ((a.length : Nat) : Int) 30).toNat))) (adsOf (a.take ((min ((a.length : Nat) : Int) 30).toNat))) 0) = (-1 : Int))) rfl rfl rfl ?_)
      refine WL.op rfl (d_pick rfl rfl ?_)
      refine WL.op rfl (d_move rfl ?_)
      refine WL.part 37 (p := (apartL (adsOf (a.take ((min ((a.length : Nat) : Int) 30).toNat))) (adsOf (a.take ((min ((a.length : Nat) : Int) 30).toNat))) 0) = (-1 : Int)) rfl (fun g43xx => ?_) (fun g43xx => ?_)
      · skip
        refine WL.opG rfl rfl rfl (d_move rfl ?_)
        refine WL.opG rfl rfl rfl (d_move rfl ?_)
        refine WL.opG rfl rfl rfl (d_call ok41 rfl (Ret.calls (apart_any aa (a.take ((min ((a.length : Nat) : Int) 30).toNat)) ac ba (b.take ((min ((b.length : Nat) : Int) 30).toNat)) bc w8 (rs1.at H8) (rs2.at H8) ((da.at H8).take ((min ((a.length : Nat) : Int) 30).toNat)) ((db.at H8).take ((min ((b.length : Nat) : Int) 30).toNat)) ) fun _ w9 p8 => ?_))
        obtain ⟨rfl, u8⟩ := p8
        have H9 : UpG w [] w9 [[rowT tyAnsP (.slice a2_1 (((a.take ((min ((a.length : Nat) : Int) 30).toNat)).filter keepP).length) c2_1) 102 ((a.take ((min ((a.length : Nat) : Int) 30).toNat)).filter keepP)], [rowT tyAnsP (.slice a2_2 (((a.take ((min ((a.length : Nat) : Int) 30).toNat)).filter keepP).length) c2_2) 102 ((a.take ((min ((a.length : Nat) : Int) 30).toNat)).filter keepP)]] := H8.call u8
        refine WL.opG rfl rfl rfl (d_cmp (decide ((apartL (adsOf (a.take ((min ((a.length : Nat) : Int) 30).toNat))) (adsOf (b.take ((min ((b.length : Nat) : Int) 30).toNat))) 0) = (-1 : Int))) rfl rfl rfl ?_)
        refine WL.opG rfl rfl rfl (d_move rfl ?_)
        refine WL.opG rfl rfl rfl (d_move rfl ?_)
        refine WL.opG rfl rfl rfl (d_call ok38 rfl (Ret.calls (answersSame_any aa (a.take ((min ((a.length : Nat) : Int) 30).toNat)) ac ba (b.take ((min ((b.length : Nat) : Int) 30).toNat)) bc w9 (rs1.at H9) (rs2.at H9) ((da.at H9).take ((min ((a.length : Nat) : Int) 30).toNat)) ((db.at H9).take ((min ((b.length : Nat) : Int) 30).toNat)) ) fun _ w10 p9 => ?_))
        obtain ⟨rfl, u9⟩ := p9
        have H10 : UpG w [] w10 [[rowT tyAnsP (.slice a2_1 (((a.take ((min ((a.length : Nat) : Int) 30).toNat)).filter keepP).length) c2_1) 102 ((a.take ((min ((a.length : Nat) : Int) 30).toNat)).filter keepP)], [rowT tyAnsP (.slice a2_2 (((a.take ((min ((a.length : Nat) : Int) 30).toNat)).filter keepP).length) c2_2) 102 ((a.take ((min ((a.length : Nat) : Int) 30).toNat)).filter keepP)]] := H9.call u9
        refine WL.opG rfl rfl rfl (d_booleq Try.underlying4 rfl rfl ?_)
        refine WL.op rfl (d_pick rfl rfl ?_)
        refine WL.op rfl (d_assign rfl ?_)
        refine WL.done (X.then_code ?_)
        refine W.pick [4] (Γ' := [(4, .bool (decide ((decide ((apartL (adsOf (a.take ((min ((a.length : Nat) : Int) 30).toNat))) (adsOf (b.take ((min ((b.length : Nat) : Int) 30).toNat))) 0) = (-1 : Int))) = (decide (adsOf (a.take ((min ((a.length : Nat) : Int) 30).toNat)) = adsOf (b.take ((min ((b.length : Nat) : Int) 30).toNat)))))))]) rfl ?_
        refine W.ret (X.ret1 rfl rfl ?_)
        exact ⟨(by rw [decide_eq_true (by rw [decide_eq_decide]; exact apart_iff _ _ _)]), H10.noneL⟩
      · skip
        exact absurd (apart_self _ 0) g43xx
    · skip
      exact absurd rfl g43x
  · skip
    exact absurd (decide_eq_true rfl) g43
end Go.Proofs.Ytkdcmklkggnblaa
