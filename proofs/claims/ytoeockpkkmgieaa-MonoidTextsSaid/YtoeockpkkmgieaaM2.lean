/- The walks of functions, printed by wip/tools/gw.py. -/
import Derived.Test.YtoeockpkkmgieaaF2
import Derived.Test.YtoeockpkkmgieaaSx7
import Derived.Test.YtoeockpkkmgieaaM1
import Derived.Test.YtoeockpkkmgieaaT1
import Derived.Test.YtoeockpkkmgieaaMon2
namespace Go.Proofs.Ytoeockpkkmgieaa
open Go Go.Sx
set_option linter.unusedVariables false
set_option linter.unusedSimpArgs false
set_option maxRecDepth 20000 in
theorem find_any (la : Option Addr) (l : List EL) (lc : Nat) (toa : Option Addr) (to : List Int) (toc : Nat) (ton : Nat) (w : World) (rl : RdT tyEL w (.slice la l.length lc) l) (rto : RdT (tyI .i64) w (.slice toa ton toc) to) (dl : inEL.Rd w l) :
    Calls Try.prog 70 #[.slice la l.length lc, .slice toa ton toc] w (Ret fun v w' => v = .int .i64 (findTo (l.map EL.to) to) ∧ Upd w [] w' []) := by
  obtain rfl : ton = to.length := rto.len
  have le_rl := rl.le
  have le_rto := rto.le
  refine calls_of_W (args := [.slice la l.length lc, .slice toa to.length toc]) Try.func70 rfl rfl rfl ?_
  have H0 : UpG w [] w [] := UpG.nil w
  show W _ _ _ _ [(0, .slice la l.length lc), (1, .slice toa to.length toc)] w
  refine W.seq ?_
  refine W.region ?_
  refine WL.op rfl (d_assign rfl ?_)
  refine WL.done (X.then_code ?_)
  refine W.seq ?_
  refine W.seq ?_
  refine W.region ?_
  refine WL.op rfl (d_assign rfl ?_)
  refine WL.done (X.then_code ?_)
  refine W.block ?_
  refine W.pick [5, 4, 0, 1] (Γ' := [(5, .int .i64 0), (4, .int .i64 0), (0, .slice la l.length lc), (1, .slice toa to.length toc)]) rfl ?_
  refine W.loop (fun m Γ' w' => ∃ k : Nat, Γ' = [(5, .int .i64 ((k : Nat) : Int)), (4, .int .i64 0), (0, .slice la l.length lc), (1, .slice toa to.length toc)] ∧ UpG w [] w' [] ∧ (k ≤ l.length) ∧ (∀ i, i < k → (l.getD i el0).to ≠ to) ∧ m = l.length - k) (l.length - 0) ⟨0, rfl, H0, (by first | assumption | omega | simp), (by intro i hi; omega), rfl⟩ ?_
  rintro m1 Γ1 w1 ⟨k, rfl, H1, hk, hno, rfl⟩
  refine W.seq ?_
  refine W.seq ?_
  refine W.region ?_
  refine WL.op rfl (d_move rfl ?_)
  refine WL.op rfl (d_move rfl ?_)
  refine WL.op rfl (d_lenS Try.underlying41 rfl ?_)
  refine WL.op rfl (d_cmp (decide (((k : Nat) : Int) < ((l.length : Nat) : Int))) rfl rfl rfl ?_)
  refine WL.done (X.then_code ?_)
  refine W.ite (p := ((k : Nat) : Int) < ((l.length : Nat) : Int)) rfl (fun c30 => ?_) (fun c30 => ?_)
  · skip
    refine W.skip (X.then_code ?_)
    refine W.seq ?_
    refine W.block ?_
    refine W.seq ?_
    refine W.region ?_
    refine WL.op rfl (d_move rfl ?_)
    refine WL.op rfl (d_move rfl ?_)
    refine WL.op rfl (t_addrN k (T := tyEL) rfl Try.underlying41 sz46 rfl rfl (rl.at H1) rfl (by omega) ?_)
    refine WL.op rfl (t_fld k el0 (T := tyEL) rfl fld46_0 rfl rfl (rl.at H1) (by omega) ?_)
    refine WL.op rfl (t_loadF k el0 (T := tyEL) rfl rfl Try.underlying22 rfl rfl (rl.at H1) (by omega) rfl ?_)
    refine WL.op rfl (d_move rfl ?_)
    refine WL.op rfl (d_call ok32 rfl (Ret.calls (same10_any ((l.getD k el0).a) ((l.getD k el0).to) ((l.getD k el0).c) ((l.getD k el0).n) toa to toc to.length w1 (show RdT (tyI .i64) w1 (.slice ((l.getD k el0).a) ((l.getD k el0).n) ((l.getD k el0).c)) ((l.getD k el0).to) from (dl.at H1).get el0 k (by omega)) (rto.at H1) ) fun _ w2 p1 => ?_))
    obtain ⟨rfl, u1⟩ := p1
    have H2 : UpG w [] w2 [] := H1.call u1
    refine WL.done (X.then_code ?_)
    refine W.ite (p := ((l.getD k el0).to) = to) rfl (fun c31 => ?_) (fun c31 => ?_)
    · skip
      refine W.seq ?_
      refine W.region ?_
      refine WL.op rfl (d_move rfl ?_)
      refine WL.op rfl (d_assign rfl ?_)
      refine WL.done (X.then_code ?_)
      refine W.ret (X.block_ret (X.then_ret (X.then_ret (X.block_ret (X.then_ret (X.ret1 rfl rfl ?_))))))
      exact ⟨(by rw [findTo_at (by omega) c31 hno]), H2.noneL⟩
    · skip
      refine W.skip (X.block_normal (X.then_code ?_))
      refine W.region ?_
      refine WL.op rfl (d_move rfl ?_)
      refine WL.op rfl (d_add rfl rfl (by omega) (by omega) ?_)
      refine WL.op rfl (d_assign rfl ?_)
      refine WL.done ?_
      exact X.next [5, 4, 0, 1] (Γ' := [(5, .int .i64 (((k + 1) : Nat) : Int)), (4, .int .i64 0), (0, .slice la l.length lc), (1, .slice toa to.length toc)]) rfl (l.length - (k + 1)) (by omega) ⟨k + 1, rfl, H2, (by first | assumption | omega | simp), (by exact all_step hno c31), rfl⟩
  · skip
    refine W.exit (X.then_exit (X.then_exit (X.block_exit (X.then_code ?_))))
    refine W.seq ?_
    refine W.region ?_
    refine WL.op rfl (d_assign rfl ?_)
    refine WL.done (X.then_code ?_)
    refine W.ret (X.ret1 rfl rfl ?_)
    exact ⟨(by rw [findTo_no (fun i hi => hno i (by omega))]), H1.noneL⟩

set_option maxRecDepth 20000 in
theorem goR_any (d : DfaD) (dca : Option Addr) (dna : Option Addr) (dba : Option Addr) (dcc : Nat) (dnc : Nat) (dbc : Nat) (text : ByteArray) (w : World) (rcd : RdT (tyI .i64) w (.slice dca d.cls.length dcc) d.cls) (rnd : RdT (tyI .i64) w (.slice dna d.next.length dnc) d.next) (rbd : RdT tyB w (.slice dba d.acc.length dbc) d.acc) (hrt : rightB d = true) (hl : text.size ≤ 1000000) :
    Calls Try.prog 36 #[.agg #[.slice dca d.cls.length dcc, .int .i64 d.width, .int .i64 d.start, .slice dna d.next.length dnc, .slice dba d.acc.length dbc], .string text] w (Ret fun v w' => ∃ a2 : Option Addr, ∃ c2 : Nat, v = .slice a2 ((goL d text).length) c2 ∧ Upd w [] w' [rowT (tyI .i64) (.slice a2 ((goL d text).length) c2) 3 (goL d text)]) := by
  have hri := rightB_iff.1 hrt
  have le_rcd := rcd.le
  have le_rnd := rnd.le
  have le_rbd := rbd.le
  refine calls_of_W (args := [.agg #[.slice dca d.cls.length dcc, .int .i64 d.width, .int .i64 d.start, .slice dna d.next.length dnc, .slice dba d.acc.length dbc], .string text]) Try.func36 rfl rfl rfl ?_
  have H0 : UpG w [] w [] := UpG.nil w
  show W _ _ _ _ [(0, .agg #[.slice dca d.cls.length dcc, .int .i64 d.width, .int .i64 d.start, .slice dna d.next.length dnc, .slice dba d.acc.length dbc]), (1, .string text)] w
  refine W.seq ?_
  refine W.region ?_
  refine WL.op rfl (d_box rfl fun w1 u1 => ?_)
  have H1 : UpG w [] w1 [[blk w.heap.size #[.slice dca d.cls.length dcc, .int .i64 d.width, .int .i64 d.start, .slice dna d.next.length dnc, .slice dba d.acc.length dbc] 25]] := H0.new' u1
  refine WL.op rfl (d_assign rfl ?_)
  refine WL.done (X.then_code ?_)
  refine W.seq ?_
  refine W.region ?_
  refine WL.op rfl (d_assign rfl ?_)
  refine WL.done (X.then_code ?_)
  refine W.seq ?_
  refine W.seq ?_
  refine W.region ?_
  refine WL.op rfl (d_assign rfl ?_)
  refine WL.done (X.then_code ?_)
  refine W.block ?_
  have H2 : UpG w [] w1 [[blk w.heap.size #[.slice dca d.cls.length dcc, .int .i64 d.width, .int .i64 d.start, .slice dna d.next.length dnc, .slice dba d.acc.length dbc] 25], [rowT (tyI .i64) (.slice none (([] : List Int).length) 0) 3 ([] : List Int)]] := H1.new' (Upd.nilRowT w1 (tyI .i64) 3)
  refine W.pick [6, 5, 4, 2, 1] (Γ' := [(6, .int .i64 0), (5, .slice none (([] : List Int).length) 0), (4, .slice none 0 0), (2, .pointer (some ⟨w.heap.size, 0, none⟩)), (1, .string text)]) rfl ?_
  refine W.loop (fun m Γ' w' => ∃ x : Nat, ∃ q : List Int, ∃ qa : Option Addr, ∃ qc : Nat, Γ' = [(6, .int .i64 ((x : Nat) : Int)), (5, .slice qa q.length qc), (4, .slice none 0 0), (2, .pointer (some ⟨w.heap.size, 0, none⟩)), (1, .string text)] ∧ UpG w [] w' [[blk w.heap.size #[.slice dca d.cls.length dcc, .int .i64 d.width, .int .i64 d.start, .slice dna d.next.length dnc, .slice dba d.acc.length dbc] 25], [rowT (tyI .i64) (.slice qa q.length qc) 3 q]] ∧ (x ≤ d.acc.length) ∧ (q = List.map (fun s : Nat => goW d text (s : Int)) (List.range x)) ∧ (q.length = x) ∧ m = d.acc.length - x) (d.acc.length - 0) ⟨0, ([] : List Int), none, 0, rfl, H2, (by first | assumption | omega | simp), (by rfl), (by rfl), rfl⟩ ?_
  rintro m1 Γ1 w2 ⟨x, q, qa, qc, rfl, H3, hx, hq, hql, rfl⟩
  refine W.seq ?_
  refine W.seq ?_
  refine W.region ?_
  refine WL.op rfl (d_move rfl ?_)
  refine WL.op rfl (d_fieldAddrB fld25_4 rfl rfl ?_)
  refine WL.op rfl (d_loadB Try.underlying23 rfl rfl (H3.blk 0 rfl) rfl ?_)
  refine WL.op rfl (d_lenS Try.underlying23 rfl ?_)
  refine WL.op rfl (d_cmp (decide (((x : Nat) : Int) < ((d.acc.length : Nat) : Int))) rfl rfl rfl ?_)
  refine WL.done (X.then_code ?_)
  refine W.ite (p := ((x : Nat) : Int) < ((d.acc.length : Nat) : Int)) rfl (fun c18 => ?_) (fun c18 => ?_)
  · skip
    refine W.skip (X.then_code ?_)
    refine W.seq ?_
    refine W.block ?_
    refine W.seq ?_
    refine W.region ?_
    refine WL.op rfl (d_move rfl ?_)
    refine WL.op rfl (d_assign rfl ?_)
    refine WL.done (X.then_code ?_)
    refine W.seq ?_
    refine W.seq ?_
    refine W.region ?_
    refine WL.op rfl (d_assign rfl ?_)
    refine WL.done (X.then_code ?_)
    refine W.block ?_
    refine W.pick [8, 7, 6, 5, 4, 2, 1] (Γ' := [(8, .int .i64 0), (7, .int .i64 ((x : Nat) : Int)), (6, .int .i64 ((x : Nat) : Int)), (5, .slice qa q.length qc), (4, .slice none 0 0), (2, .pointer (some ⟨w.heap.size, 0, none⟩)), (1, .string text)]) rfl ?_
    refine W.loop (fun m Γ' w' => ∃ k : Nat, ∃ at_ : Int, Γ' = [(8, .int .i64 ((k : Nat) : Int)), (7, .int .i64 at_), (6, .int .i64 ((x : Nat) : Int)), (5, .slice qa q.length qc), (4, .slice none 0 0), (2, .pointer (some ⟨w.heap.size, 0, none⟩)), (1, .string text)] ∧ UpG w [] w' [[blk w.heap.size #[.slice dca d.cls.length dcc, .int .i64 d.width, .int .i64 d.start, .slice dna d.next.length dnc, .slice dba d.acc.length dbc] 25], [rowT (tyI .i64) (.slice qa q.length qc) 3 q]] ∧ (k ≤ text.size) ∧ (at_ = ((bytesL text).take k).foldl (stepD d) (x : Int)) ∧ (0 ≤ at_ ∧ at_ < (d.acc.length : Int)) ∧ m = text.size - k) (text.size - 0) ⟨0, ((x : Nat) : Int), rfl, H3, (by first | assumption | omega | simp), (by rfl), (by omega), rfl⟩ ?_
    rintro m2 Γ2 w3 ⟨k, at_, rfl, H4, hk, hat, hab, rfl⟩
    refine W.seq ?_
    refine W.seq ?_
    refine W.region ?_
    refine WL.op rfl (d_move rfl ?_)
    refine WL.op rfl (d_move rfl ?_)
    refine WL.op rfl (d_lenStr Try.underlying9 rfl ?_)
    refine WL.op rfl (d_cmp (decide (((k : Nat) : Int) < ((text.size : Nat) : Int))) rfl rfl rfl ?_)
    refine WL.done (X.then_code ?_)
    refine W.ite (p := ((k : Nat) : Int) < ((text.size : Nat) : Int)) rfl (fun c20 => ?_) (fun c20 => ?_)
    · skip
      refine W.skip (X.then_code ?_)
      refine W.seq ?_
      refine W.block ?_
      have hbt := bt_range text k
      have hcx := right_sym hrt (c := bt text k) (by omega) (by omega)
      have hix := right_idx hrt hab.1 hab.2 hcx.2.1 hcx.2.2.1
      refine W.regionD mixed (by kernel_rfl) fun hok1 w4 k1 => ?_
      have H5 : UpG w [] w4 [[blk w.heap.size #[.slice dca d.cls.length dcc, .int .i64 d.width, .int .i64 d.start, .slice dna d.next.length dnc, .slice dba d.acc.length dbc] 25], [rowT (tyI .i64) (.slice qa q.length qc) 3 q]] := H4.kept k1
      refine WD.take hok1 0 (.pointer (some ⟨w.heap.size, 3, none⟩)) (fun _ => True) rfl rfl rfl rfl rfl trivial (.inl ⟨rfl, fun _ _ => d_fieldAddrB fld25_3 rfl rfl ⟨rfl, rfl⟩⟩) ?_
      refine WD.take hok1 1 (.slice dna d.next.length dnc) (fun w' => w'.heap[w.heap.size]? = some (.cells #[.slice dca d.cls.length dcc, .int .i64 d.width, .int .i64 d.start, .slice dna d.next.length dnc, .slice dba d.acc.length dbc] 25 (0, 0))) rfl rfl rfl rfl rfl (H5.blk 0 rfl) (.inl ⟨rfl, fun _ hC => d_loadB Try.underlying22 rfl rfl hC rfl ⟨rfl, rfl⟩⟩) ?_
      refine WD.take hok1 2 (.int .i64 at_) (fun _ => True) rfl rfl rfl rfl rfl trivial (.inl ⟨rfl, fun _ _ => d_move rfl ⟨rfl, rfl⟩⟩) ?_
      refine WD.take hok1 3 (.pointer (some ⟨w.heap.size, 1, none⟩)) (fun _ => True) rfl rfl rfl rfl rfl trivial (.inl ⟨rfl, fun _ _ => d_fieldAddrB fld25_1 rfl rfl ⟨rfl, rfl⟩⟩) ?_
      refine WD.take hok1 4 (.int .i64 d.width) (fun w' => w'.heap[w.heap.size]? = some (.cells #[.slice dca d.cls.length dcc, .int .i64 d.width, .int .i64 d.start, .slice dna d.next.length dnc, .slice dba d.acc.length dbc] 25 (0, 0))) rfl rfl rfl rfl rfl (H5.blk 0 rfl) (.inl ⟨rfl, fun _ hC => d_loadB Try.underlying3 rfl rfl hC rfl ⟨rfl, rfl⟩⟩) ?_
      refine WD.take hok1 5 (.int .i64 (at_ * d.width)) (fun _ => True) rfl rfl rfl rfl rfl trivial (.inl ⟨rfl, fun _ _ => d_mul rfl rfl (by omega) (by omega) ⟨rfl, rfl⟩⟩) ?_
      refine WD.take hok1 6 (.pointer (some ⟨w.heap.size, 0, none⟩)) (fun _ => True) rfl rfl rfl rfl rfl trivial (.inl ⟨rfl, fun _ _ => d_fieldAddrB fld25_0 rfl rfl ⟨rfl, rfl⟩⟩) ?_
      refine WD.take hok1 7 (.slice dca d.cls.length dcc) (fun w' => w'.heap[w.heap.size]? = some (.cells #[.slice dca d.cls.length dcc, .int .i64 d.width, .int .i64 d.start, .slice dna d.next.length dnc, .slice dba d.acc.length dbc] 25 (0, 0))) rfl rfl rfl rfl rfl (H5.blk 0 rfl) (.inl ⟨rfl, fun _ hC => d_loadB Try.underlying22 rfl rfl hC rfl ⟨rfl, rfl⟩⟩) ?_
      refine WD.take hok1 8 (.string text) (fun _ => True) rfl rfl rfl rfl rfl trivial (.inl ⟨rfl, fun _ _ => d_move rfl ⟨rfl, rfl⟩⟩) ?_
      refine WD.take hok1 9 (.int .i64 ((k : Nat) : Int)) (fun _ => True) rfl rfl rfl rfl rfl trivial (.inl ⟨rfl, fun _ _ => d_move rfl ⟨rfl, rfl⟩⟩) ?_
      refine WD.take hok1 10 (.int .u8 (bt text k)) (fun _ => True) rfl rfl rfl rfl rfl trivial (.inl ⟨rfl, fun _ _ => d_idxStrN k Try.underlying9 rfl rfl rfl (by omega) ⟨rfl, rfl⟩⟩) ?_
      refine WD.take hok1 11 (elemPtr (.slice dca d.cls.length dcc) ((bt text k).toNat)) (fun w' => RdT (tyI .i64) w' (.slice dca d.cls.length dcc) d.cls) rfl rfl rfl rfl rfl (rcd.at H5) (.inl ⟨rfl, fun _ hC => t_addr1 ((bt text k).toNat) (T := (tyI .i64)) rfl Try.underlying22 sz3 rfl rfl hC (by omega) (by omega) ⟨rfl, rfl⟩⟩) ?_
      refine WD.take hok1 12 (.int .i64 (d.cls.getD ((bt text k).toNat) 0)) (fun w' => RdT (tyI .i64) w' (.slice dca d.cls.length dcc) d.cls) rfl rfl rfl rfl rfl (rcd.at H5) (.inl ⟨rfl, fun _ hC => t_load1 ((bt text k).toNat) 0 (T := (tyI .i64)) rfl Try.underlying3 rfl rfl hC (by omega) rfl ⟨rfl, rfl⟩⟩) ?_
      refine WD.take hok1 13 (.int .i64 ((at_ * d.width) + (d.cls.getD ((bt text k).toNat) 0))) (fun _ => True) rfl rfl rfl rfl rfl trivial (.inl ⟨rfl, fun _ _ => d_add rfl rfl (by omega) (by omega) ⟨rfl, rfl⟩⟩) ?_
      refine WD.take hok1 14 (elemPtr (.slice dna d.next.length dnc) (((at_ * d.width) + (d.cls.getD ((bt text k).toNat) 0)).toNat)) (fun w' => RdT (tyI .i64) w' (.slice dna d.next.length dnc) d.next) rfl rfl rfl rfl rfl (rnd.at H5) (.inl ⟨rfl, fun _ hC => t_addr1 (((at_ * d.width) + (d.cls.getD ((bt text k).toNat) 0)).toNat) (T := (tyI .i64)) rfl Try.underlying22 sz3 rfl rfl hC (by omega) (by omega) ⟨rfl, rfl⟩⟩) ?_
      refine WD.take hok1 15 (.int .i64 (d.next.getD (((at_ * d.width) + (d.cls.getD ((bt text k).toNat) 0)).toNat) 0)) (fun w' => RdT (tyI .i64) w' (.slice dna d.next.length dnc) d.next) rfl rfl rfl rfl rfl (rnd.at H5) (.inl ⟨rfl, fun _ hC => t_load1 (((at_ * d.width) + (d.cls.getD ((bt text k).toNat) 0)).toNat) 0 (T := (tyI .i64)) rfl Try.underlying3 rfl rfl hC (by omega) rfl ⟨rfl, rfl⟩⟩) ?_
      refine WD.take hok1 16 (.int .i64 (d.next.getD (((at_ * d.width) + (d.cls.getD ((bt text k).toNat) 0)).toNat) 0)) (fun _ => True) rfl rfl rfl rfl rfl trivial (.inl ⟨rfl, fun _ _ => d_assign rfl ⟨rfl, rfl⟩⟩) ?_
      refine WD.done hok1 rfl (X.block_normal (X.then_code ?_))
      refine W.region ?_
      refine WL.op rfl (d_move rfl ?_)
      refine WL.op rfl (d_add rfl rfl (by omega) (by omega) ?_)
      refine WL.op rfl (d_assign rfl ?_)
      refine WL.done ?_
      exact X.next [8, 7, 6, 5, 4, 2, 1] (Γ' := [(8, .int .i64 (((k + 1) : Nat) : Int)), (7, .int .i64 (d.next.getD (((at_ * d.width) + (d.cls.getD ((bt text k).toNat) 0)).toNat) 0)), (6, .int .i64 ((x : Nat) : Int)), (5, .slice qa q.length qc), (4, .slice none 0 0), (2, .pointer (some ⟨w.heap.size, 0, none⟩)), (1, .string text)]) rfl (text.size - (k + 1)) (by omega) ⟨k + 1, d.next.getD (((at_ * d.width) + (d.cls.getD ((bt text k).toNat) 0)).toNat) 0, rfl, H5, (by first | assumption | omega | simp), (by rw [goW_take (by omega), ← hat]; rfl), (by exact ⟨hix.2.2.2.1, hix.2.2.2.2⟩), rfl⟩
    · skip
      refine W.exit (X.then_exit (X.then_exit (X.block_exit (X.then_code ?_))))
      refine W.region ?_
      refine WL.op rfl (d_move rfl ?_)
      refine WL.op rfl (d_move rfl ?_)
      refine WL.op rfl (t_buildSlice (T := (tyI .i64)) (xs := [at_]) (cs := #[.int .i64 at_]) rfl Try.underlying22 sz3 rfl rfl rfl rfl (by kernel_rfl) rfl rfl fun w5 u2 => ?_)
      have H6 : UpG w [] w5 [[blk w.heap.size #[.slice dca d.cls.length dcc, .int .i64 d.width, .int .i64 d.start, .slice dna d.next.length dnc, .slice dba d.acc.length dbc] 25], [rowT (tyI .i64) (.slice qa q.length qc) 3 q], [rowT (tyI .i64) (.slice (some ⟨w3.heap.size, 0, none⟩) ([at_].length) ([at_].length)) 3 [at_]]] := H4.new' u2
      refine WL.op rfl (t_append (T := (tyI .i64)) (xs := q) (ys := [at_]) rfl Try.underlying22 sz3 rfl rfl rfl (H6.ownT 1 rfl) (H6.rdT 2 rfl) (by simp only [List.length_singleton]; omega) (by simp only [List.length_singleton]; omega) fun a1 c1 w6 u3 => ?_)
      have H7 : UpG w [] w6 [[blk w.heap.size #[.slice dca d.cls.length dcc, .int .i64 d.width, .int .i64 d.start, .slice dna d.next.length dnc, .slice dba d.acc.length dbc] 25], [rowT (tyI .i64) (.slice a1 ((q ++ [at_]).length) c1) 3 (q ++ [at_])], []] := (H6.on 1 rfl u3).drop 2
      refine WL.op rfl (d_assign rfl ?_)
      refine WL.done (X.block_normal (X.then_code ?_))
      refine W.region ?_
      refine WL.op rfl (d_move rfl ?_)
      refine WL.op rfl (d_add rfl rfl (by omega) (by omega) ?_)
      refine WL.op rfl (d_assign rfl ?_)
      refine WL.done ?_
      exact X.next [6, 5, 4, 2, 1] (Γ' := [(6, .int .i64 (((x + 1) : Nat) : Int)), (5, .slice a1 ((q ++ [at_]).length) c1), (4, .slice none 0 0), (2, .pointer (some ⟨w.heap.size, 0, none⟩)), (1, .string text)]) rfl (d.acc.length - (x + 1)) (by omega) ⟨x + 1, q ++ [at_], a1, c1, rfl, (H7.re rfl), (by first | assumption | omega | simp), (by rw [hq, hat, List.range_succ, List.map_append, show k = text.size by omega, List.take_of_length_le (by rw [bytesL_len]; omega)]; rfl), (by simp; omega), rfl⟩
  · skip
    refine W.exit (X.then_exit (X.then_exit (X.block_exit (X.then_code ?_))))
    refine W.seq ?_
    refine W.region ?_
    refine WL.op rfl (d_move rfl ?_)
    refine WL.op rfl (d_assign rfl ?_)
    refine WL.done (X.then_code ?_)
    refine W.ret (X.ret1 rfl rfl ?_)
    have e1 : goL d text = q := by rw [hq, show x = d.acc.length by omega]; rfl
    rw [e1]
    exact ⟨qa, qc, (by rfl), (by have hh := H3.one 1 rfl; exact hh)⟩

set_option maxRecDepth 20000 in
theorem elementsR_any (d : DfaD) (dca : Option Addr) (dna : Option Addr) (dba : Option Addr) (dcc : Nat) (dnc : Nat) (dbc : Nat) (most : Int) (w : World) (rcd : RdT (tyI .i64) w (.slice dca d.cls.length dcc) d.cls) (rnd : RdT (tyI .i64) w (.slice dna d.next.length dnc) d.next) (rbd : RdT tyB w (.slice dba d.acc.length dbc) d.acc) (hrt : rightB d = true) (hm : most ≤ 1000) :
    Calls Try.prog 31 #[.agg #[.slice dca d.cls.length dcc, .int .i64 d.width, .int .i64 d.start, .slice dna d.next.length dnc, .slice dba d.acc.length dbc], .int .i64 most] w (Ret fun v w' => ∃ a2 : Option Addr, ∃ xs : List EL, ∃ c2 : Nat, v = .tuple #[.slice a2 xs.length c2, .bool (decide (((elsOut d (lettersB d) most).length : Int) ≤ most))] ∧ Upd w [] w' [rowT tyEL (.slice a2 xs.length c2) 46 xs, manyF inEL.row xs] ∧ (xs.map EL.dat = elsOut d (lettersB d) most) ∧ (ElI d xs)) := by
  have hri := rightB_iff.1 hrt
  have le_rcd := rcd.le
  have le_rnd := rnd.le
  have le_rbd := rbd.le
  refine calls_of_W (args := [.agg #[.slice dca d.cls.length dcc, .int .i64 d.width, .int .i64 d.start, .slice dna d.next.length dnc, .slice dba d.acc.length dbc], .int .i64 most]) Try.func31 rfl rfl rfl ?_
  have H0 : UpG w [] w [] := UpG.nil w
  show W _ _ _ _ [(0, .agg #[.slice dca d.cls.length dcc, .int .i64 d.width, .int .i64 d.start, .slice dna d.next.length dnc, .slice dba d.acc.length dbc]), (1, .int .i64 most)] w
  refine W.seq ?_
  refine W.region ?_
  refine WL.op rfl (d_box rfl fun w1 u1 => ?_)
  have H1 : UpG w [] w1 [[blk w.heap.size #[.slice dca d.cls.length dcc, .int .i64 d.width, .int .i64 d.start, .slice dna d.next.length dnc, .slice dba d.acc.length dbc] 25]] := H0.new' u1
  refine WL.op rfl (d_assign rfl ?_)
  refine WL.op rfl (d_assign rfl ?_)
  refine WL.done (X.then_code ?_)
  refine W.seq ?_
  refine W.region ?_
  refine WL.op rfl (d_loadAB [.slice dca d.cls.length dcc, .int .i64 d.width, .int .i64 d.start, .slice dna d.next.length dnc, .slice dba d.acc.length dbc] Try.underlying25 rfl sz25 rfl (H1.blk 0 rfl) rfl rfl ?_)
  refine WL.op rfl (d_call ok36 rfl (Ret.calls (goR_any d dca dna dba dcc dnc dbc ⟨#[]⟩ w1 (rcd.at H1) (rnd.at H1) (rbd.at H1) hrt (by first | (have h9 := hJ.sz k hpre.1; rw [ByteArray.size_append, strOfNums_size]; simp only [List.length_singleton]; omega) | decide)) fun _ w2 p1 => ?_))
  obtain ⟨a2_1, c2_1, rfl, u2⟩ := p1
  have H2 : UpG w [] w2 [[blk w.heap.size #[.slice dca d.cls.length dcc, .int .i64 d.width, .int .i64 d.start, .slice dna d.next.length dnc, .slice dba d.acc.length dbc] 25], [rowT (tyI .i64) (.slice a2_1 ((goL d ⟨#[]⟩).length) c2_1) 3 (goL d ⟨#[]⟩)]] := (H1.new' u2).re rfl
  refine WL.op rfl (d_build (cs := #[.slice a2_1 ((goL d ⟨#[]⟩).length) c2_1, .string ⟨#[]⟩]) rfl (by kernel_rfl) ?_)
  refine WL.op rfl (t_buildSlice (T := tyEL) (xs := ([(⟨a2_1, (goL d ⟨#[]⟩).length, c2_1, goL d ⟨#[]⟩, ⟨#[]⟩⟩ : EL)] : List EL)) (cs := #[.slice a2_1 ((goL d ⟨#[]⟩).length) c2_1, .string ⟨#[]⟩]) rfl Try.underlying41 sz46 rfl rfl rfl rfl (by kernel_rfl) rfl rfl fun w3 u3 => ?_)
  have H3 : UpG w [] w3 [[blk w.heap.size #[.slice dca d.cls.length dcc, .int .i64 d.width, .int .i64 d.start, .slice dna d.next.length dnc, .slice dba d.acc.length dbc] 25], [rowT (tyI .i64) (.slice a2_1 ((goL d ⟨#[]⟩).length) c2_1) 3 (goL d ⟨#[]⟩)], [rowT tyEL (.slice (some ⟨w2.heap.size, 0, none⟩) (([(⟨a2_1, (goL d ⟨#[]⟩).length, c2_1, goL d ⟨#[]⟩, ⟨#[]⟩⟩ : EL)] : List EL).length) (([(⟨a2_1, (goL d ⟨#[]⟩).length, c2_1, goL d ⟨#[]⟩, ⟨#[]⟩⟩ : EL)] : List EL).length)) 46 ([(⟨a2_1, (goL d ⟨#[]⟩).length, c2_1, goL d ⟨#[]⟩, ⟨#[]⟩⟩ : EL)] : List EL)]] := H2.new' u3
  refine WL.op rfl (d_assign rfl ?_)
  refine WL.done (X.then_code ?_)
  refine W.seq ?_
  refine W.seq ?_
  refine W.region ?_
  refine WL.op rfl (d_assign rfl ?_)
  refine WL.done (X.then_code ?_)
  refine W.block ?_
  have H4 : UpG w [] w3 [[blk w.heap.size #[.slice dca d.cls.length dcc, .int .i64 d.width, .int .i64 d.start, .slice dna d.next.length dnc, .slice dba d.acc.length dbc] 25], [rowT (tyI .i64) (.slice a2_1 ((goL d ⟨#[]⟩).length) c2_1) 3 (goL d ⟨#[]⟩)], [rowT tyEL (.slice (some ⟨w2.heap.size, 0, none⟩) (([(⟨a2_1, (goL d ⟨#[]⟩).length, c2_1, goL d ⟨#[]⟩, ⟨#[]⟩⟩ : EL)] : List EL).length) (([(⟨a2_1, (goL d ⟨#[]⟩).length, c2_1, goL d ⟨#[]⟩, ⟨#[]⟩⟩ : EL)] : List EL).length)) 46 ([(⟨a2_1, (goL d ⟨#[]⟩).length, c2_1, goL d ⟨#[]⟩, ⟨#[]⟩⟩ : EL)] : List EL)], [manyF inEL.row ([] : List EL)]] := H3.new' (Upd.manyNil inEL.row w3)
  have H5 : UpG w [] w3 [[blk w.heap.size #[.slice dca d.cls.length dcc, .int .i64 d.width, .int .i64 d.start, .slice dna d.next.length dnc, .slice dba d.acc.length dbc] 25], [], [rowT tyEL (.slice (some ⟨w2.heap.size, 0, none⟩) (([(⟨a2_1, (goL d ⟨#[]⟩).length, c2_1, goL d ⟨#[]⟩, ⟨#[]⟩⟩ : EL)] : List EL).length) (([(⟨a2_1, (goL d ⟨#[]⟩).length, c2_1, goL d ⟨#[]⟩, ⟨#[]⟩⟩ : EL)] : List EL).length)) 46 ([(⟨a2_1, (goL d ⟨#[]⟩).length, c2_1, goL d ⟨#[]⟩, ⟨#[]⟩⟩ : EL)] : List EL)], [manyF inEL.row (([] : List EL) ++ [(⟨a2_1, (goL d ⟨#[]⟩).length, c2_1, goL d ⟨#[]⟩, ⟨#[]⟩⟩ : EL)])]] := (UpG.absorb (f := inEL.row) ((⟨a2_1, (goL d ⟨#[]⟩).length, c2_1, goL d ⟨#[]⟩, ⟨#[]⟩⟩ : EL) : EL) H4 3 1 rfl rfl rfl).re rfl
  refine W.pick [7, 6, 5, 4, 2, 1] (Γ' := [(7, .int .i64 0), (6, .slice (some ⟨w2.heap.size, 0, none⟩) (([(⟨a2_1, (goL d ⟨#[]⟩).length, c2_1, goL d ⟨#[]⟩, ⟨#[]⟩⟩ : EL)] : List EL).length) (([(⟨a2_1, (goL d ⟨#[]⟩).length, c2_1, goL d ⟨#[]⟩, ⟨#[]⟩⟩ : EL)] : List EL).length)), (5, .bool false), (4, .slice none 0 0), (2, .pointer (some ⟨w.heap.size, 0, none⟩)), (1, .int .i64 most)]) rfl ?_
  refine W.loop (fun m Γ' w' => ∃ k : Nat, ∃ os : List EL, ∃ oa : Option Addr, ∃ oc : Nat, Γ' = [(7, .int .i64 ((k : Nat) : Int)), (6, .slice oa os.length oc), (5, .bool false), (4, .slice none 0 0), (2, .pointer (some ⟨w.heap.size, 0, none⟩)), (1, .int .i64 most)] ∧ UpG w [] w' [[blk w.heap.size #[.slice dca d.cls.length dcc, .int .i64 d.width, .int .i64 d.start, .slice dna d.next.length dnc, .slice dba d.acc.length dbc] 25], [], [rowT tyEL (.slice oa os.length oc) 46 os], [manyF inEL.row os]] ∧ (elsOut d (lettersB d) most = elRun d (lettersB d) most (most.toNat - k) k (os.map EL.dat)) ∧ (ElI d os) ∧ (os.length ≤ 1300) ∧ (k ≤ 1001) ∧ m = 2000 - k) (2000 - 0) ⟨0, ([(⟨a2_1, (goL d ⟨#[]⟩).length, c2_1, goL d ⟨#[]⟩, ⟨#[]⟩⟩ : EL)] : List EL), (some ⟨w2.heap.size, 0, none⟩), ([(⟨a2_1, (goL d ⟨#[]⟩).length, c2_1, goL d ⟨#[]⟩, ⟨#[]⟩⟩ : EL)] : List EL).length, rfl, (H5.re rfl), (by rfl), (by exact ElI.one), (by simp), (by omega), rfl⟩ ?_
  rintro m1 Γ1 w4 ⟨k, os, oa, oc, rfl, H6, hR, hI, hlen, hk, rfl⟩
  refine W.seq ?_
  refine W.seq ?_
  refine W.region ?_
  refine WL.op rfl (d_move rfl ?_)
  refine WL.op rfl (d_move rfl ?_)
  refine WL.op rfl (d_lenS Try.underlying41 rfl ?_)
  refine WL.op rfl (d_cmp (decide (((k : Nat) : Int) < ((os.length : Nat) : Int))) rfl rfl rfl ?_)
  refine WL.op rfl (d_move rfl ?_)
  refine WL.part 21 (p := ((k : Nat) : Int) < ((os.length : Nat) : Int)) rfl (fun g41 => ?_) (fun g41 => ?_)
  · skip
    refine WL.opG rfl rfl rfl (d_move rfl ?_)
    refine WL.opG rfl rfl rfl (d_lenS Try.underlying41 rfl ?_)
    refine WL.opG rfl rfl rfl (d_move rfl ?_)
    refine WL.opG rfl rfl rfl (d_cmp (decide (((os.length : Nat) : Int) ≤ most)) rfl rfl rfl ?_)
    refine WL.op rfl (d_pick rfl rfl ?_)
    refine WL.done (X.then_code ?_)
    refine W.ite (p := ((os.length : Nat) : Int) ≤ most) rfl (fun c41 => ?_) (fun c41 => ?_)
    · skip
      refine W.skip (X.then_code ?_)
      refine W.seq ?_
      refine W.block ?_
      refine W.seq ?_
      refine W.region ?_
      refine WL.op rfl (d_assign rfl ?_)
      refine WL.done (X.then_code ?_)
      refine W.block ?_
      have hkl : k < os.length := by omega
      refine W.pick [8, 25, 24, 23, 22, 7, 6, 5, 4, 2, 1] (Γ' := [(8, .int .i64 0), (25, .bool (decide (((os.length : Nat) : Int) ≤ most))), (24, .int .i64 most), (23, .int .i64 ((os.length : Nat) : Int)), (22, .slice oa os.length oc), (7, .int .i64 ((k : Nat) : Int)), (6, .slice oa os.length oc), (5, .bool false), (4, .slice none 0 0), (2, .pointer (some ⟨w.heap.size, 0, none⟩)), (1, .int .i64 most)]) rfl ?_
      refine W.loop (fun m Γ' w' => ∃ b : Nat, ∃ ot : List EL, ∃ ta : Option Addr, ∃ tc : Nat, Γ' = [(8, .int .i64 ((b : Nat) : Int)), (25, .bool (decide (((os.length : Nat) : Int) ≤ most))), (24, .int .i64 most), (23, .int .i64 ((os.length : Nat) : Int)), (22, .slice oa os.length oc), (7, .int .i64 ((k : Nat) : Int)), (6, .slice ta ot.length tc), (5, .bool false), (4, .slice none 0 0), (2, .pointer (some ⟨w.heap.size, 0, none⟩)), (1, .int .i64 most)] ∧ UpG w [] w' [[blk w.heap.size #[.slice dca d.cls.length dcc, .int .i64 d.width, .int .i64 d.start, .slice dna d.next.length dnc, .slice dba d.acc.length dbc] 25], [], [rowT tyEL (.slice ta ot.length tc) 46 ot], [manyF inEL.row ot]] ∧ (b ≤ 256) ∧ (ot.map EL.dat = (lettersN d b).foldl (addE d ((os.map EL.dat).getD k ([], ⟨#[]⟩))) (os.map EL.dat)) ∧ (ElI d ot) ∧ (ot.length ≤ os.length + b) ∧ (k < ot.length ∧ ot.getD k el0 = os.getD k el0) ∧ m = 256 - b) (256 - 0) ⟨0, os, oa, oc, rfl, H6, (by first | assumption | omega | simp), (by rfl), (by exact hI), (by omega), (by exact ⟨hkl, rfl⟩), rfl⟩ ?_
      rintro m2 Γ2 w5 ⟨b, ot, ta, tc, rfl, H7, hb, hF, hJ, hle, hpre, rfl⟩
      refine W.seq ?_
      refine W.seq ?_
      refine W.region ?_
      refine WL.op rfl (d_move rfl ?_)
      refine WL.op rfl (d_cmp (decide (((b : Nat) : Int) < (256 : Int))) rfl rfl rfl ?_)
      refine WL.done (X.then_code ?_)
      refine W.ite (p := ((b : Nat) : Int) < (256 : Int)) rfl (fun c42 => ?_) (fun c42 => ?_)
      · skip
        refine W.skip (X.then_code ?_)
        refine W.seq ?_
        refine W.block ?_
        refine W.seq ?_
        refine W.region ?_
        refine WL.op rfl (d_assign rfl ?_)
        refine WL.done (X.then_code ?_)
        refine W.seq ?_
        refine W.seq ?_
        refine W.region ?_
        refine WL.op rfl (d_assign rfl ?_)
        refine WL.done (X.then_code ?_)
        refine W.block ?_
        refine W.pick [10, 9, 8, 25, 24, 23, 22, 7, 6, 5, 4, 2, 1] (Γ' := [(10, .int .i64 0), (9, .bool false), (8, .int .i64 ((b : Nat) : Int)), (25, .bool (decide (((os.length : Nat) : Int) ≤ most))), (24, .int .i64 most), (23, .int .i64 ((os.length : Nat) : Int)), (22, .slice oa os.length oc), (7, .int .i64 ((k : Nat) : Int)), (6, .slice ta ot.length tc), (5, .bool false), (4, .slice none 0 0), (2, .pointer (some ⟨w.heap.size, 0, none⟩)), (1, .int .i64 most)]) rfl ?_
        refine W.loop (fun m Γ' w' => ∃ i : Nat, ∃ sn : Bool, Γ' = [(10, .int .i64 ((i : Nat) : Int)), (9, .bool sn), (8, .int .i64 ((b : Nat) : Int)), (25, .bool (decide (((os.length : Nat) : Int) ≤ most))), (24, .int .i64 most), (23, .int .i64 ((os.length : Nat) : Int)), (22, .slice oa os.length oc), (7, .int .i64 ((k : Nat) : Int)), (6, .slice ta ot.length tc), (5, .bool false), (4, .slice none 0 0), (2, .pointer (some ⟨w.heap.size, 0, none⟩)), (1, .int .i64 most)] ∧ UpG w [] w' [[blk w.heap.size #[.slice dca d.cls.length dcc, .int .i64 d.width, .int .i64 d.start, .slice dna d.next.length dnc, .slice dba d.acc.length dbc] 25], [], [rowT tyEL (.slice ta ot.length tc) 46 ot], [manyF inEL.row ot]] ∧ (i ≤ b) ∧ (sn = seenK d b i) ∧ m = b - i) (b - 0) ⟨0, false, rfl, H7, (by first | assumption | omega | simp), (by rfl), rfl⟩ ?_
        rintro m3 Γ3 w6 ⟨i, sn, rfl, H8, hi, hsn, rfl⟩
        refine W.seq ?_
        refine W.seq ?_
        refine W.region ?_
        refine WL.op rfl (d_move rfl ?_)
        refine WL.op rfl (d_move rfl ?_)
        refine WL.op rfl (d_cmp (decide (((i : Nat) : Int) < ((b : Nat) : Int))) rfl rfl rfl ?_)
        refine WL.done (X.then_code ?_)
        refine W.ite (p := ((i : Nat) : Int) < ((b : Nat) : Int)) rfl (fun c44 => ?_) (fun c44 => ?_)
        · skip
          refine W.skip (X.then_code ?_)
          refine W.seq ?_
          refine W.block ?_
          refine W.regionD mixed (by kernel_rfl) fun hok1 w7 k1 => ?_
          have H9 : UpG w [] w7 [[blk w.heap.size #[.slice dca d.cls.length dcc, .int .i64 d.width, .int .i64 d.start, .slice dna d.next.length dnc, .slice dba d.acc.length dbc] 25], [], [rowT tyEL (.slice ta ot.length tc) 46 ot], [manyF inEL.row ot]] := H8.kept k1
          refine WD.take hok1 0 (.bool sn) (fun _ => True) rfl rfl rfl rfl rfl trivial (.inl ⟨rfl, fun _ _ => d_move rfl ⟨rfl, rfl⟩⟩) ?_
          refine WD.take hok1 1 (.bool sn) (fun _ => True) rfl rfl rfl rfl rfl trivial (.inl ⟨rfl, fun _ _ => d_move rfl ⟨rfl, rfl⟩⟩) ?_
          refine WD.partB 39 (b := sn) rfl (fun g45 => ?_) (fun g45 => ?_)
          · skip
            refine WD.take hok1 2 undef (fun _ => True) rfl rfl rfl rfl rfl trivial (.inr ⟨rfl, rfl⟩) ?_
            refine WD.take hok1 3 undef (fun _ => True) rfl rfl rfl rfl rfl trivial (.inr ⟨rfl, rfl⟩) ?_
            refine WD.take hok1 4 undef (fun _ => True) rfl rfl rfl rfl rfl trivial (.inr ⟨rfl, rfl⟩) ?_
            refine WD.take hok1 5 undef (fun _ => True) rfl rfl rfl rfl rfl trivial (.inr ⟨rfl, rfl⟩) ?_
            refine WD.take hok1 6 undef (fun _ => True) rfl rfl rfl rfl rfl trivial (.inr ⟨rfl, rfl⟩) ?_
            refine WD.take hok1 7 undef (fun _ => True) rfl rfl rfl rfl rfl trivial (.inr ⟨rfl, rfl⟩) ?_
            refine WD.take hok1 8 undef (fun _ => True) rfl rfl rfl rfl rfl trivial (.inr ⟨rfl, rfl⟩) ?_
            refine WD.take hok1 9 undef (fun _ => True) rfl rfl rfl rfl rfl trivial (.inr ⟨rfl, rfl⟩) ?_
            refine WD.take hok1 10 undef (fun _ => True) rfl rfl rfl rfl rfl trivial (.inr ⟨rfl, rfl⟩) ?_
            refine WD.take hok1 11 undef (fun _ => True) rfl rfl rfl rfl rfl trivial (.inr ⟨rfl, rfl⟩) ?_
            refine WD.take hok1 12 undef (fun _ => True) rfl rfl rfl rfl rfl trivial (.inr ⟨rfl, rfl⟩) ?_
            refine WD.take hok1 13 (.bool true) (fun _ => True) rfl rfl rfl rfl rfl trivial (.inl ⟨rfl, fun _ _ => d_pick rfl rfl ⟨rfl, rfl⟩⟩) ?_
            refine WD.take hok1 14 (.bool true) (fun _ => True) rfl rfl rfl rfl rfl trivial (.inl ⟨rfl, fun _ _ => d_assign rfl ⟨rfl, rfl⟩⟩) ?_
            refine WD.done hok1 rfl (X.block_normal (X.then_code ?_))
            refine W.region ?_
            refine WL.op rfl (d_move rfl ?_)
            refine WL.op rfl (d_add rfl rfl (by omega) (by omega) ?_)
            refine WL.op rfl (d_assign rfl ?_)
            refine WL.done ?_
            exact X.next [10, 9, 8, 25, 24, 23, 22, 7, 6, 5, 4, 2, 1] (Γ' := [(10, .int .i64 (((i + 1) : Nat) : Int)), (9, .bool true), (8, .int .i64 ((b : Nat) : Int)), (25, .bool (decide (((os.length : Nat) : Int) ≤ most))), (24, .int .i64 most), (23, .int .i64 ((os.length : Nat) : Int)), (22, .slice oa os.length oc), (7, .int .i64 ((k : Nat) : Int)), (6, .slice ta ot.length tc), (5, .bool false), (4, .slice none 0 0), (2, .pointer (some ⟨w.heap.size, 0, none⟩)), (1, .int .i64 most)]) rfl (b - (i + 1)) (by omega) ⟨i + 1, true, rfl, H9, (by first | assumption | omega | simp), (by first | (rw [seenK_step, ← hsn, g45]; rfl) | (rw [seenK_step, ← hsn, Bool.eq_false_iff.2 g45]; rfl)), rfl⟩
          · skip
            refine WD.take hok1 2 (.pointer (some ⟨w.heap.size, 0, none⟩)) (fun _ => True) rfl rfl rfl rfl rfl trivial (.inl ⟨rfl, fun _ _ => d_fieldAddrB fld25_0 rfl rfl ⟨rfl, rfl⟩⟩) ?_
            refine WD.take hok1 3 (.slice dca d.cls.length dcc) (fun w' => w'.heap[w.heap.size]? = some (.cells #[.slice dca d.cls.length dcc, .int .i64 d.width, .int .i64 d.start, .slice dna d.next.length dnc, .slice dba d.acc.length dbc] 25 (0, 0))) rfl rfl rfl rfl rfl (H9.blk 0 rfl) (.inl ⟨rfl, fun _ hC => d_loadB Try.underlying22 rfl rfl hC rfl ⟨rfl, rfl⟩⟩) ?_
            refine WD.take hok1 4 (.int .i64 ((i : Nat) : Int)) (fun _ => True) rfl rfl rfl rfl rfl trivial (.inl ⟨rfl, fun _ _ => d_move rfl ⟨rfl, rfl⟩⟩) ?_
            refine WD.take hok1 5 (elemPtr (.slice dca d.cls.length dcc) i) (fun w' => RdT (tyI .i64) w' (.slice dca d.cls.length dcc) d.cls) rfl rfl rfl rfl rfl (rcd.at H9) (.inl ⟨rfl, fun _ hC => t_addr1 i (T := (tyI .i64)) rfl Try.underlying22 sz3 rfl rfl hC rfl (by omega) ⟨rfl, rfl⟩⟩) ?_
            refine WD.take hok1 6 (.int .i64 (d.cls.getD i 0)) (fun w' => RdT (tyI .i64) w' (.slice dca d.cls.length dcc) d.cls) rfl rfl rfl rfl rfl (rcd.at H9) (.inl ⟨rfl, fun _ hC => t_load1 i 0 (T := (tyI .i64)) rfl Try.underlying3 rfl rfl hC (by omega) rfl ⟨rfl, rfl⟩⟩) ?_
            refine WD.take hok1 7 (.pointer (some ⟨w.heap.size, 0, none⟩)) (fun _ => True) rfl rfl rfl rfl rfl trivial (.inl ⟨rfl, fun _ _ => d_fieldAddrB fld25_0 rfl rfl ⟨rfl, rfl⟩⟩) ?_
            refine WD.take hok1 8 (.slice dca d.cls.length dcc) (fun w' => w'.heap[w.heap.size]? = some (.cells #[.slice dca d.cls.length dcc, .int .i64 d.width, .int .i64 d.start, .slice dna d.next.length dnc, .slice dba d.acc.length dbc] 25 (0, 0))) rfl rfl rfl rfl rfl (H9.blk 0 rfl) (.inl ⟨rfl, fun _ hC => d_loadB Try.underlying22 rfl rfl hC rfl ⟨rfl, rfl⟩⟩) ?_
            refine WD.take hok1 9 (.int .i64 ((b : Nat) : Int)) (fun _ => True) rfl rfl rfl rfl rfl trivial (.inl ⟨rfl, fun _ _ => d_move rfl ⟨rfl, rfl⟩⟩) ?_
            refine WD.take hok1 10 (elemPtr (.slice dca d.cls.length dcc) b) (fun w' => RdT (tyI .i64) w' (.slice dca d.cls.length dcc) d.cls) rfl rfl rfl rfl rfl (rcd.at H9) (.inl ⟨rfl, fun _ hC => t_addr1 b (T := (tyI .i64)) rfl Try.underlying22 sz3 rfl rfl hC rfl (by omega) ⟨rfl, rfl⟩⟩) ?_
            refine WD.take hok1 11 (.int .i64 (d.cls.getD b 0)) (fun w' => RdT (tyI .i64) w' (.slice dca d.cls.length dcc) d.cls) rfl rfl rfl rfl rfl (rcd.at H9) (.inl ⟨rfl, fun _ hC => t_load1 b 0 (T := (tyI .i64)) rfl Try.underlying3 rfl rfl hC (by omega) rfl ⟨rfl, rfl⟩⟩) ?_
            refine WD.take hok1 12 (.bool (decide ((d.cls.getD i 0) = (d.cls.getD b 0)))) (fun _ => True) rfl rfl rfl rfl rfl trivial (.inl ⟨rfl, fun _ _ => d_cmp (decide ((d.cls.getD i 0) = (d.cls.getD b 0))) rfl rfl rfl ⟨rfl, rfl⟩⟩) ?_
            refine WD.take hok1 13 (.bool (decide ((d.cls.getD i 0) = (d.cls.getD b 0)))) (fun _ => True) rfl rfl rfl rfl rfl trivial (.inl ⟨rfl, fun _ _ => d_pick rfl rfl ⟨rfl, rfl⟩⟩) ?_
            refine WD.take hok1 14 (.bool (decide ((d.cls.getD i 0) = (d.cls.getD b 0)))) (fun _ => True) rfl rfl rfl rfl rfl trivial (.inl ⟨rfl, fun _ _ => d_assign rfl ⟨rfl, rfl⟩⟩) ?_
            refine WD.done hok1 rfl (X.block_normal (X.then_code ?_))
            refine W.region ?_
            refine WL.op rfl (d_move rfl ?_)
            refine WL.op rfl (d_add rfl rfl (by omega) (by omega) ?_)
            refine WL.op rfl (d_assign rfl ?_)
            refine WL.done ?_
            exact X.next [10, 9, 8, 25, 24, 23, 22, 7, 6, 5, 4, 2, 1] (Γ' := [(10, .int .i64 (((i + 1) : Nat) : Int)), (9, .bool (decide ((d.cls.getD i 0) = (d.cls.getD b 0)))), (8, .int .i64 ((b : Nat) : Int)), (25, .bool (decide (((os.length : Nat) : Int) ≤ most))), (24, .int .i64 most), (23, .int .i64 ((os.length : Nat) : Int)), (22, .slice oa os.length oc), (7, .int .i64 ((k : Nat) : Int)), (6, .slice ta ot.length tc), (5, .bool false), (4, .slice none 0 0), (2, .pointer (some ⟨w.heap.size, 0, none⟩)), (1, .int .i64 most)]) rfl (b - (i + 1)) (by omega) ⟨i + 1, decide ((d.cls.getD i 0) = (d.cls.getD b 0)), rfl, H9, (by first | assumption | omega | simp), (by first | (rw [seenK_step, ← hsn, g45]; rfl) | (rw [seenK_step, ← hsn, Bool.eq_false_iff.2 g45]; rfl)), rfl⟩
        · skip
          refine W.exit (X.then_exit (X.then_exit (X.block_exit (X.then_code ?_))))
          refine W.seq ?_
          refine W.seq ?_
          have hsb : sn = seenK d b b := by rw [hsn, show i = b by omega]
          refine W.region ?_
          refine WL.op rfl (d_move rfl ?_)
          refine WL.done (X.then_code ?_)
          refine W.iteB (b := sn) rfl (fun c47 => ?_) (fun c47 => ?_)
          · skip
            refine W.exit (X.then_exit (X.block_exit (X.then_code ?_)))
            refine W.region ?_
            refine WL.op rfl (d_move rfl ?_)
            refine WL.op rfl (d_add rfl rfl (by omega) (by omega) ?_)
            refine WL.op rfl (d_assign rfl ?_)
            refine WL.done ?_
            exact X.next [8, 25, 24, 23, 22, 7, 6, 5, 4, 2, 1] (Γ' := [(8, .int .i64 (((b + 1) : Nat) : Int)), (25, .bool (decide (((os.length : Nat) : Int) ≤ most))), (24, .int .i64 most), (23, .int .i64 ((os.length : Nat) : Int)), (22, .slice oa os.length oc), (7, .int .i64 ((k : Nat) : Int)), (6, .slice ta ot.length tc), (5, .bool false), (4, .slice none 0 0), (2, .pointer (some ⟨w.heap.size, 0, none⟩)), (1, .int .i64 most)]) rfl (256 - (b + 1)) (by omega) ⟨b + 1, ot, ta, tc, rfl, H8, (by first | assumption | omega | simp), (by first | exact hF.trans (foldL_no (by rw [← hsb]; exact c47)) | exact foldL_yes (by rw [← hsb]; exact Bool.eq_false_iff.2 c47) (by rw [← hF]; exact add_yes hJ hpre.1 hkl hpre.2 hbt rfl (findTo_neg.1 c52)) | exact foldL_yes (by rw [← hsb]; exact Bool.eq_false_iff.2 c47) (by rw [← hF]; exact add_no hJ hpre.1 hkl hpre.2 hbt (Classical.not_not.1 fun h => c52 (findTo_neg.2 h)))), (by first | exact hJ | exact hJ.add hpre.1 hbt rfl rfl), (by first | omega | (simp only [List.length_append, List.length_singleton]; omega)), (by first | exact hpre | exact ⟨by rw [List.length_append]; omega, by rw [getD_appE, if_pos hpre.1]; exact hpre.2⟩), rfl⟩
          · skip
            refine W.skip (X.then_code ?_)
            refine W.seq ?_
            refine W.regionD mixed (by kernel_rfl) fun hok2 w8 k2 => ?_
            have H10 : UpG w [] w8 [[blk w.heap.size #[.slice dca d.cls.length dcc, .int .i64 d.width, .int .i64 d.start, .slice dna d.next.length dnc, .slice dba d.acc.length dbc] 25], [], [rowT tyEL (.slice ta ot.length tc) 46 ot], [manyF inEL.row ot]] := H8.kept k2
            refine WD.take hok2 0 (.slice ta ot.length tc) (fun _ => True) rfl rfl rfl rfl rfl trivial (.inl ⟨rfl, fun _ _ => d_move rfl ⟨rfl, rfl⟩⟩) ?_
            refine WD.take hok2 1 (.int .i64 ((k : Nat) : Int)) (fun _ => True) rfl rfl rfl rfl rfl trivial (.inl ⟨rfl, fun _ _ => d_move rfl ⟨rfl, rfl⟩⟩) ?_
            refine WD.take hok2 2 (elemPtr (.slice ta ot.length tc) (k * 2)) (fun w' => RdT tyEL w' (.slice ta ot.length tc) ot) rfl rfl rfl rfl rfl (H10.rdT 2 rfl) (.inl ⟨rfl, fun _ hC => t_addrN k (T := tyEL) rfl Try.underlying41 sz46 rfl rfl hC rfl (by omega) ⟨rfl, rfl⟩⟩) ?_
            refine WD.take hok2 3 (elemPtr (.slice ta ot.length tc) (k * 2 + 1)) (fun w' => RdT tyEL w' (.slice ta ot.length tc) ot) rfl rfl rfl rfl rfl (H10.rdT 2 rfl) (.inl ⟨rfl, fun _ hC => t_fld k el0 (T := tyEL) rfl fld46_1 rfl rfl hC (by omega) ⟨rfl, rfl⟩⟩) ?_
            refine WD.take hok2 4 (.string ((ot.getD k el0).text)) (fun w' => RdT tyEL w' (.slice ta ot.length tc) ot) rfl rfl rfl rfl rfl (H10.rdT 2 rfl) (.inl ⟨rfl, fun _ hC => t_loadF k el0 (T := tyEL) rfl rfl Try.underlying9 rfl rfl hC (by omega) rfl ⟨rfl, rfl⟩⟩) ?_
            refine WD.take hok2 5 (.int .i64 ((b : Nat) : Int)) (fun _ => True) rfl rfl rfl rfl rfl trivial (.inl ⟨rfl, fun _ _ => d_move rfl ⟨rfl, rfl⟩⟩) ?_
            refine WD.take hok2 6 (.int .u8 ((b : Nat) : Int)) (fun _ => True) rfl rfl rfl rfl rfl trivial (.inl ⟨rfl, fun _ _ => d_convI (kd := .u8) Try.underlying3 Try.underlying5 rfl (by simp [IntKind.signed, IntKind.bits, IntKind.max]; omega) ⟨rfl, rfl⟩⟩) ?_
            refine WD.loud hok2 7 rfl (⟨_, [⟨4, .string ((ot.getD k el0).text), (fun w' => RdT tyEL w' (.slice ta ot.length tc) ot)⟩, ⟨3, elemPtr (.slice ta ot.length tc) (k * 2 + 1), (fun w' => RdT tyEL w' (.slice ta ot.length tc) ot)⟩, ⟨2, elemPtr (.slice ta ot.length tc) (k * 2), (fun w' => RdT tyEL w' (.slice ta ot.length tc) ot)⟩, ⟨1, .int .i64 ((k : Nat) : Int), (fun _ => True)⟩, ⟨0, .slice ta ot.length tc, (fun _ => True)⟩], rfl, rfl, rfl, rfl, rfl, rfl, t_buildSlice (T := (tyI .u8)) (xs := [((b : Nat) : Int)]) (cs := #[.int .u8 ((b : Nat) : Int)]) rfl Try.underlying85 sz5 rfl rfl rfl rfl (by kernel_rfl) rfl rfl fun w9 u4 => ?_⟩)
            have H11 : UpG w [] w9 [[blk w.heap.size #[.slice dca d.cls.length dcc, .int .i64 d.width, .int .i64 d.start, .slice dna d.next.length dnc, .slice dba d.acc.length dbc] 25], [], [rowT tyEL (.slice ta ot.length tc) 46 ot], [manyF inEL.row ot], [rowT (tyI .u8) (.slice (some ⟨w8.heap.size, 0, none⟩) ([((b : Nat) : Int)].length) ([((b : Nat) : Int)].length)) 5 [((b : Nat) : Int)]]] := H10.new' u4
            refine ⟨⟨(H11.rdT 2 rfl), (H11.rdT 2 rfl), (H11.rdT 2 rfl), trivial, trivial, trivial⟩, ?_⟩
            refine WD.take hok2 8 (.string (strOfNums [((b : Nat) : Int)])) (fun w' => RdT (tyI .u8) w' (.slice (some ⟨w8.heap.size, 0, none⟩) ([((b : Nat) : Int)].length) ([((b : Nat) : Int)].length)) [((b : Nat) : Int)]) rfl rfl rfl rfl rfl (H11.rdT 4 rfl) (.inl ⟨rfl, fun _ hC => d_bytesStr Try.underlying85 Try.underlying5 Try.underlying9 rfl hC ⟨rfl, rfl⟩⟩) ?_
            refine WD.take hok2 9 (.string (((ot.getD k el0).text) ++ (strOfNums [((b : Nat) : Int)]))) (fun _ => True) rfl rfl rfl rfl rfl trivial (.inl ⟨rfl, fun _ _ => d_concat rfl rfl (by have h9 := hJ.sz k hpre.1; rw [strOfNums_size]; simp only [List.length_singleton]; omega) ⟨rfl, rfl⟩⟩) ?_
            refine WD.take hok2 10 (.string (((ot.getD k el0).text) ++ (strOfNums [((b : Nat) : Int)]))) (fun _ => True) rfl rfl rfl rfl rfl trivial (.inl ⟨rfl, fun _ _ => d_assign rfl ⟨rfl, rfl⟩⟩) ?_
            refine WD.done hok2 rfl (X.then_code ?_)
            refine W.seq ?_
            refine W.region ?_
            refine WL.op rfl (d_loadAB [.slice dca d.cls.length dcc, .int .i64 d.width, .int .i64 d.start, .slice dna d.next.length dnc, .slice dba d.acc.length dbc] Try.underlying25 rfl sz25 rfl (H11.blk 0 rfl) rfl rfl ?_)
            refine WL.op rfl (d_move rfl ?_)
            refine WL.op rfl (d_call ok36 rfl (Ret.calls (goR_any d dca dna dba dcc dnc dbc (((ot.getD k el0).text) ++ (strOfNums [((b : Nat) : Int)])) w9 (rcd.at H11) (rnd.at H11) (rbd.at H11) hrt (by first | (have h9 := hJ.sz k hpre.1; rw [ByteArray.size_append, strOfNums_size]; simp only [List.length_singleton]; omega) | decide)) fun _ w10 p2 => ?_))
            obtain ⟨a2_2, c2_2, rfl, u5⟩ := p2
            have H12 : UpG w [] w10 [[blk w.heap.size #[.slice dca d.cls.length dcc, .int .i64 d.width, .int .i64 d.start, .slice dna d.next.length dnc, .slice dba d.acc.length dbc] 25], [], [rowT tyEL (.slice ta ot.length tc) 46 ot], [manyF inEL.row ot], [rowT (tyI .u8) (.slice (some ⟨w8.heap.size, 0, none⟩) ([((b : Nat) : Int)].length) ([((b : Nat) : Int)].length)) 5 [((b : Nat) : Int)]], [rowT (tyI .i64) (.slice a2_2 ((goL d (((ot.getD k el0).text) ++ (strOfNums [((b : Nat) : Int)]))).length) c2_2) 3 (goL d (((ot.getD k el0).text) ++ (strOfNums [((b : Nat) : Int)])))]] := (H11.new' u5).re rfl
            refine WL.op rfl (d_assign rfl ?_)
            refine WL.done (X.then_code ?_)
            refine W.pick [12, 11, 8, 25, 24, 23, 22, 7, 6, 5, 4, 2, 1] (Γ' := [(12, .slice a2_2 ((goL d (((ot.getD k el0).text) ++ (strOfNums [((b : Nat) : Int)]))).length) c2_2), (11, .string (((ot.getD k el0).text) ++ (strOfNums [((b : Nat) : Int)]))), (8, .int .i64 ((b : Nat) : Int)), (25, .bool (decide (((os.length : Nat) : Int) ≤ most))), (24, .int .i64 most), (23, .int .i64 ((os.length : Nat) : Int)), (22, .slice oa os.length oc), (7, .int .i64 ((k : Nat) : Int)), (6, .slice ta ot.length tc), (5, .bool false), (4, .slice none 0 0), (2, .pointer (some ⟨w.heap.size, 0, none⟩)), (1, .int .i64 most)]) rfl ?_
            refine W.seq ?_
            have hbt : 0 ≤ ((b : Nat) : Int) ∧ ((b : Nat) : Int) < 256 := by omega
            have htx : (ot.getD k el0).text ++ byteS ((b : Nat) : Int) = (ot.getD k el0).text ++ strOfNums [((b : Nat) : Int)] := rfl
            refine W.region ?_
            refine WL.op rfl (d_move rfl ?_)
            refine WL.op rfl (d_move rfl ?_)
            refine WL.op rfl (d_call ok70 rfl (Ret.calls (find_any ta ot tc a2_2 (goL d (((ot.getD k el0).text) ++ (strOfNums [((b : Nat) : Int)]))) c2_2 ((goL d (((ot.getD k el0).text) ++ (strOfNums [((b : Nat) : Int)]))).length) w10 (H12.rdT 2 rfl) (H12.rdT 5 rfl) (Inn.own (H12.hpOf 3 rfl)) ) fun _ w11 p3 => ?_))
            obtain ⟨rfl, u6⟩ := p3
            have H13 : UpG w [] w11 [[blk w.heap.size #[.slice dca d.cls.length dcc, .int .i64 d.width, .int .i64 d.start, .slice dna d.next.length dnc, .slice dba d.acc.length dbc] 25], [], [rowT tyEL (.slice ta ot.length tc) 46 ot], [manyF inEL.row ot], [rowT (tyI .u8) (.slice (some ⟨w8.heap.size, 0, none⟩) ([((b : Nat) : Int)].length) ([((b : Nat) : Int)].length)) 5 [((b : Nat) : Int)]], [rowT (tyI .i64) (.slice a2_2 ((goL d (((ot.getD k el0).text) ++ (strOfNums [((b : Nat) : Int)]))).length) c2_2) 3 (goL d (((ot.getD k el0).text) ++ (strOfNums [((b : Nat) : Int)])))]] := H12.call u6
            refine WL.op rfl (d_cmp (decide ((findTo (ot.map EL.to) (goL d (((ot.getD k el0).text) ++ (strOfNums [((b : Nat) : Int)])))) < (0 : Int))) rfl rfl rfl ?_)
            refine WL.done (X.then_code ?_)
            refine W.ite (p := (findTo (ot.map EL.to) (goL d (((ot.getD k el0).text) ++ (strOfNums [((b : Nat) : Int)])))) < (0 : Int)) rfl (fun c52 => ?_) (fun c52 => ?_)
            · skip
              refine W.region ?_
              refine WL.op rfl (d_move rfl ?_)
              refine WL.op rfl (d_move rfl ?_)
              refine WL.op rfl (d_move rfl ?_)
              refine WL.op rfl (d_build (cs := #[.slice a2_2 ((goL d (((ot.getD k el0).text) ++ (strOfNums [((b : Nat) : Int)]))).length) c2_2, .string (((ot.getD k el0).text) ++ (strOfNums [((b : Nat) : Int)]))]) rfl (by kernel_rfl) ?_)
              refine WL.op rfl (t_buildSlice (T := tyEL) (xs := ([(⟨a2_2, (goL d (((ot.getD k el0).text) ++ (strOfNums [((b : Nat) : Int)]))).length, c2_2, goL d (((ot.getD k el0).text) ++ (strOfNums [((b : Nat) : Int)])), ((ot.getD k el0).text) ++ (strOfNums [((b : Nat) : Int)])⟩ : EL)] : List EL)) (cs := #[.slice a2_2 ((goL d (((ot.getD k el0).text) ++ (strOfNums [((b : Nat) : Int)]))).length) c2_2, .string (((ot.getD k el0).text) ++ (strOfNums [((b : Nat) : Int)]))]) rfl Try.underlying41 sz46 rfl rfl rfl rfl (by kernel_rfl) rfl rfl fun w12 u7 => ?_)
              have H14 : UpG w [] w12 [[blk w.heap.size #[.slice dca d.cls.length dcc, .int .i64 d.width, .int .i64 d.start, .slice dna d.next.length dnc, .slice dba d.acc.length dbc] 25], [], [rowT tyEL (.slice ta ot.length tc) 46 ot], [manyF inEL.row ot], [rowT (tyI .u8) (.slice (some ⟨w8.heap.size, 0, none⟩) ([((b : Nat) : Int)].length) ([((b : Nat) : Int)].length)) 5 [((b : Nat) : Int)]], [rowT (tyI .i64) (.slice a2_2 ((goL d (((ot.getD k el0).text) ++ (strOfNums [((b : Nat) : Int)]))).length) c2_2) 3 (goL d (((ot.getD k el0).text) ++ (strOfNums [((b : Nat) : Int)])))], [rowT tyEL (.slice (some ⟨w11.heap.size, 0, none⟩) (([(⟨a2_2, (goL d (((ot.getD k el0).text) ++ (strOfNums [((b : Nat) : Int)]))).length, c2_2, goL d (((ot.getD k el0).text) ++ (strOfNums [((b : Nat) : Int)])), ((ot.getD k el0).text) ++ (strOfNums [((b : Nat) : Int)])⟩ : EL)] : List EL).length) (([(⟨a2_2, (goL d (((ot.getD k el0).text) ++ (strOfNums [((b : Nat) : Int)]))).length, c2_2, goL d (((ot.getD k el0).text) ++ (strOfNums [((b : Nat) : Int)])), ((ot.getD k el0).text) ++ (strOfNums [((b : Nat) : Int)])⟩ : EL)] : List EL).length)) 46 ([(⟨a2_2, (goL d (((ot.getD k el0).text) ++ (strOfNums [((b : Nat) : Int)]))).length, c2_2, goL d (((ot.getD k el0).text) ++ (strOfNums [((b : Nat) : Int)])), ((ot.getD k el0).text) ++ (strOfNums [((b : Nat) : Int)])⟩ : EL)] : List EL)]] := H13.new' u7
              refine WL.op rfl (t_append (T := tyEL) (xs := ot) (ys := ([(⟨a2_2, (goL d (((ot.getD k el0).text) ++ (strOfNums [((b : Nat) : Int)]))).length, c2_2, goL d (((ot.getD k el0).text) ++ (strOfNums [((b : Nat) : Int)])), ((ot.getD k el0).text) ++ (strOfNums [((b : Nat) : Int)])⟩ : EL)] : List EL)) rfl Try.underlying41 sz46 rfl rfl rfl (H14.ownT 2 rfl) (H14.rdT 6 rfl) (by simp only [List.length_singleton]; omega) (by simp only [List.length_singleton]; omega) fun a1 c1 w13 u8 => ?_)
              have H15 : UpG w [] w13 [[blk w.heap.size #[.slice dca d.cls.length dcc, .int .i64 d.width, .int .i64 d.start, .slice dna d.next.length dnc, .slice dba d.acc.length dbc] 25], [], [rowT tyEL (.slice a1 ((ot ++ ([(⟨a2_2, (goL d (((ot.getD k el0).text) ++ (strOfNums [((b : Nat) : Int)]))).length, c2_2, goL d (((ot.getD k el0).text) ++ (strOfNums [((b : Nat) : Int)])), ((ot.getD k el0).text) ++ (strOfNums [((b : Nat) : Int)])⟩ : EL)] : List EL)).length) c1) 46 (ot ++ ([(⟨a2_2, (goL d (((ot.getD k el0).text) ++ (strOfNums [((b : Nat) : Int)]))).length, c2_2, goL d (((ot.getD k el0).text) ++ (strOfNums [((b : Nat) : Int)])), ((ot.getD k el0).text) ++ (strOfNums [((b : Nat) : Int)])⟩ : EL)] : List EL))], [manyF inEL.row ot], [rowT (tyI .u8) (.slice (some ⟨w8.heap.size, 0, none⟩) ([((b : Nat) : Int)].length) ([((b : Nat) : Int)].length)) 5 [((b : Nat) : Int)]], [rowT (tyI .i64) (.slice a2_2 ((goL d (((ot.getD k el0).text) ++ (strOfNums [((b : Nat) : Int)]))).length) c2_2) 3 (goL d (((ot.getD k el0).text) ++ (strOfNums [((b : Nat) : Int)])))], []] := (H14.on 2 rfl u8).drop 6
              have H16 : UpG w [] w13 [[blk w.heap.size #[.slice dca d.cls.length dcc, .int .i64 d.width, .int .i64 d.start, .slice dna d.next.length dnc, .slice dba d.acc.length dbc] 25], [], [rowT tyEL (.slice a1 ((ot ++ ([(⟨a2_2, (goL d (((ot.getD k el0).text) ++ (strOfNums [((b : Nat) : Int)]))).length, c2_2, goL d (((ot.getD k el0).text) ++ (strOfNums [((b : Nat) : Int)])), ((ot.getD k el0).text) ++ (strOfNums [((b : Nat) : Int)])⟩ : EL)] : List EL)).length) c1) 46 (ot ++ ([(⟨a2_2, (goL d (((ot.getD k el0).text) ++ (strOfNums [((b : Nat) : Int)]))).length, c2_2, goL d (((ot.getD k el0).text) ++ (strOfNums [((b : Nat) : Int)])), ((ot.getD k el0).text) ++ (strOfNums [((b : Nat) : Int)])⟩ : EL)] : List EL))], [manyF inEL.row (ot ++ [(⟨a2_2, (goL d (((ot.getD k el0).text) ++ (strOfNums [((b : Nat) : Int)]))).length, c2_2, goL d (((ot.getD k el0).text) ++ (strOfNums [((b : Nat) : Int)])), ((ot.getD k el0).text) ++ (strOfNums [((b : Nat) : Int)])⟩ : EL)])], [rowT (tyI .u8) (.slice (some ⟨w8.heap.size, 0, none⟩) ([((b : Nat) : Int)].length) ([((b : Nat) : Int)].length)) 5 [((b : Nat) : Int)]], [], []] := (UpG.absorb (f := inEL.row) ((⟨a2_2, (goL d (((ot.getD k el0).text) ++ (strOfNums [((b : Nat) : Int)]))).length, c2_2, goL d (((ot.getD k el0).text) ++ (strOfNums [((b : Nat) : Int)])), ((ot.getD k el0).text) ++ (strOfNums [((b : Nat) : Int)])⟩ : EL) : EL) H15 3 5 rfl rfl rfl).re rfl
              refine WL.op rfl (d_assign rfl ?_)
              refine WL.done (X.block_normal (X.then_code ?_))
              refine W.region ?_
              refine WL.op rfl (d_move rfl ?_)
              refine WL.op rfl (d_add rfl rfl (by omega) (by omega) ?_)
              refine WL.op rfl (d_assign rfl ?_)
              refine WL.done ?_
              exact X.next [8, 25, 24, 23, 22, 7, 6, 5, 4, 2, 1] (Γ' := [(8, .int .i64 (((b + 1) : Nat) : Int)), (25, .bool (decide (((os.length : Nat) : Int) ≤ most))), (24, .int .i64 most), (23, .int .i64 ((os.length : Nat) : Int)), (22, .slice oa os.length oc), (7, .int .i64 ((k : Nat) : Int)), (6, .slice a1 ((ot ++ ([(⟨a2_2, (goL d (((ot.getD k el0).text) ++ (strOfNums [((b : Nat) : Int)]))).length, c2_2, goL d (((ot.getD k el0).text) ++ (strOfNums [((b : Nat) : Int)])), ((ot.getD k el0).text) ++ (strOfNums [((b : Nat) : Int)])⟩ : EL)] : List EL)).length) c1), (5, .bool false), (4, .slice none 0 0), (2, .pointer (some ⟨w.heap.size, 0, none⟩)), (1, .int .i64 most)]) rfl (256 - (b + 1)) (by omega) ⟨b + 1, ot ++ ([(⟨a2_2, (goL d (((ot.getD k el0).text) ++ (strOfNums [((b : Nat) : Int)]))).length, c2_2, goL d (((ot.getD k el0).text) ++ (strOfNums [((b : Nat) : Int)])), ((ot.getD k el0).text) ++ (strOfNums [((b : Nat) : Int)])⟩ : EL)] : List EL), a1, c1, rfl, (UpG.of (G := [[blk w.heap.size #[.slice dca d.cls.length dcc, .int .i64 d.width, .int .i64 d.start, .slice dna d.next.length dnc, .slice dba d.acc.length dbc] 25], [], [rowT tyEL (.slice a1 ((ot ++ ([(⟨a2_2, (goL d (((ot.getD k el0).text) ++ (strOfNums [((b : Nat) : Int)]))).length, c2_2, goL d (((ot.getD k el0).text) ++ (strOfNums [((b : Nat) : Int)])), ((ot.getD k el0).text) ++ (strOfNums [((b : Nat) : Int)])⟩ : EL)] : List EL)).length) c1) 46 (ot ++ ([(⟨a2_2, (goL d (((ot.getD k el0).text) ++ (strOfNums [((b : Nat) : Int)]))).length, c2_2, goL d (((ot.getD k el0).text) ++ (strOfNums [((b : Nat) : Int)])), ((ot.getD k el0).text) ++ (strOfNums [((b : Nat) : Int)])⟩ : EL)] : List EL))], [manyF inEL.row (ot ++ ([(⟨a2_2, (goL d (((ot.getD k el0).text) ++ (strOfNums [((b : Nat) : Int)]))).length, c2_2, goL d (((ot.getD k el0).text) ++ (strOfNums [((b : Nat) : Int)])), ((ot.getD k el0).text) ++ (strOfNums [((b : Nat) : Int)])⟩ : EL)] : List EL))]]) (Upd.sel H16 (M := [blk w.heap.size #[.slice dca d.cls.length dcc, .int .i64 d.width, .int .i64 d.start, .slice dna d.next.length dnc, .slice dba d.acc.length dbc] 25, rowT tyEL (.slice a1 ((ot ++ ([(⟨a2_2, (goL d (((ot.getD k el0).text) ++ (strOfNums [((b : Nat) : Int)]))).length, c2_2, goL d (((ot.getD k el0).text) ++ (strOfNums [((b : Nat) : Int)])), ((ot.getD k el0).text) ++ (strOfNums [((b : Nat) : Int)])⟩ : EL)] : List EL)).length) c1) 46 (ot ++ ([(⟨a2_2, (goL d (((ot.getD k el0).text) ++ (strOfNums [((b : Nat) : Int)]))).length, c2_2, goL d (((ot.getD k el0).text) ++ (strOfNums [((b : Nat) : Int)])), ((ot.getD k el0).text) ++ (strOfNums [((b : Nat) : Int)])⟩ : EL)] : List EL)), manyF inEL.row (ot ++ ([(⟨a2_2, (goL d (((ot.getD k el0).text) ++ (strOfNums [((b : Nat) : Int)]))).length, c2_2, goL d (((ot.getD k el0).text) ++ (strOfNums [((b : Nat) : Int)])), ((ot.getD k el0).text) ++ (strOfNums [((b : Nat) : Int)])⟩ : EL)] : List EL))]) (l := [0, 1, 2]) rfl rfl) rfl), (by first | assumption | omega | simp), (by first | exact hF.trans (foldL_no (by rw [← hsb]; exact c47)) | exact foldL_yes (by rw [← hsb]; exact Bool.eq_false_iff.2 c47) (by rw [← hF]; exact add_yes hJ hpre.1 hkl hpre.2 hbt rfl (findTo_neg.1 c52)) | exact foldL_yes (by rw [← hsb]; exact Bool.eq_false_iff.2 c47) (by rw [← hF]; exact add_no hJ hpre.1 hkl hpre.2 hbt (Classical.not_not.1 fun h => c52 (findTo_neg.2 h)))), (by first | exact hJ | exact hJ.add hpre.1 hbt rfl rfl), (by first | omega | (simp only [List.length_append, List.length_singleton]; omega)), (by first | exact hpre | exact ⟨by rw [List.length_append]; omega, by rw [getD_appE, if_pos hpre.1]; exact hpre.2⟩), rfl⟩
            · skip
              refine W.skip (X.block_normal (X.then_code ?_))
              refine W.region ?_
              refine WL.op rfl (d_move rfl ?_)
              refine WL.op rfl (d_add rfl rfl (by omega) (by omega) ?_)
              refine WL.op rfl (d_assign rfl ?_)
              refine WL.done ?_
              exact X.next [8, 25, 24, 23, 22, 7, 6, 5, 4, 2, 1] (Γ' := [(8, .int .i64 (((b + 1) : Nat) : Int)), (25, .bool (decide (((os.length : Nat) : Int) ≤ most))), (24, .int .i64 most), (23, .int .i64 ((os.length : Nat) : Int)), (22, .slice oa os.length oc), (7, .int .i64 ((k : Nat) : Int)), (6, .slice ta ot.length tc), (5, .bool false), (4, .slice none 0 0), (2, .pointer (some ⟨w.heap.size, 0, none⟩)), (1, .int .i64 most)]) rfl (256 - (b + 1)) (by omega) ⟨b + 1, ot, ta, tc, rfl, (UpG.of (G := [[blk w.heap.size #[.slice dca d.cls.length dcc, .int .i64 d.width, .int .i64 d.start, .slice dna d.next.length dnc, .slice dba d.acc.length dbc] 25], [], [rowT tyEL (.slice ta ot.length tc) 46 ot], [manyF inEL.row ot]]) (Upd.sel H13 (M := [blk w.heap.size #[.slice dca d.cls.length dcc, .int .i64 d.width, .int .i64 d.start, .slice dna d.next.length dnc, .slice dba d.acc.length dbc] 25, rowT tyEL (.slice ta ot.length tc) 46 ot, manyF inEL.row ot]) (l := [0, 1, 2]) rfl rfl) rfl), (by first | assumption | omega | simp), (by first | exact hF.trans (foldL_no (by rw [← hsb]; exact c47)) | exact foldL_yes (by rw [← hsb]; exact Bool.eq_false_iff.2 c47) (by rw [← hF]; exact add_yes hJ hpre.1 hkl hpre.2 hbt rfl (findTo_neg.1 c52)) | exact foldL_yes (by rw [← hsb]; exact Bool.eq_false_iff.2 c47) (by rw [← hF]; exact add_no hJ hpre.1 hkl hpre.2 hbt (Classical.not_not.1 fun h => c52 (findTo_neg.2 h)))), (by first | exact hJ | exact hJ.add hpre.1 hbt rfl rfl), (by first | omega | (simp only [List.length_append, List.length_singleton]; omega)), (by first | exact hpre | exact ⟨by rw [List.length_append]; omega, by rw [getD_appE, if_pos hpre.1]; exact hpre.2⟩), rfl⟩
      · skip
        refine W.exit (X.then_exit (X.then_exit (X.block_exit (X.block_normal (X.then_code ?_)))))
        refine W.region ?_
        refine WL.op rfl (d_move rfl ?_)
        refine WL.op rfl (d_add rfl rfl (by omega) (by omega) ?_)
        refine WL.op rfl (d_assign rfl ?_)
        refine WL.done ?_
        exact X.next [7, 6, 5, 4, 2, 1] (Γ' := [(7, .int .i64 (((k + 1) : Nat) : Int)), (6, .slice ta ot.length tc), (5, .bool false), (4, .slice none 0 0), (2, .pointer (some ⟨w.heap.size, 0, none⟩)), (1, .int .i64 most)]) rfl (2000 - (k + 1)) (by omega) ⟨k + 1, ot, ta, tc, rfl, H7, (by rw [hR, elRun_go (by rw [List.length_map]; omega) (by rw [List.length_map]; omega), hF, show b = 256 by omega, lettersN_all]), (by exact hJ), (by omega), (by omega), rfl⟩
    · skip
      refine W.exit (X.then_exit (X.then_exit (X.block_exit (X.then_code ?_))))
      refine W.seq ?_
      refine W.region ?_
      refine WL.op rfl (d_move rfl ?_)
      refine WL.op rfl (d_move rfl ?_)
      refine WL.op rfl (d_lenS Try.underlying41 rfl ?_)
      refine WL.op rfl (d_move rfl ?_)
      refine WL.op rfl (d_cmp (decide (((os.length : Nat) : Int) ≤ most)) rfl rfl rfl ?_)
      refine WL.op rfl (d_assign rfl ?_)
      refine WL.op rfl (d_assign rfl ?_)
      refine WL.done (X.then_code ?_)
      refine W.ret (X.ret2 rfl rfl rfl ?_)
      have hfin : elsOut d (lettersB d) most = os.map EL.dat := by rw [hR]; exact elRun_end (by rw [List.length_map]; omega)
      exact ⟨oa, os, oc, (by rw [hfin, List.length_map]), (Upd.sel H6 (l := [1, 2]) rfl rfl), hfin.symm, hI⟩
  · skip
    refine WL.opN rfl rfl rfl rfl ?_
    refine WL.opN rfl rfl rfl rfl ?_
    refine WL.opN rfl rfl rfl rfl ?_
    refine WL.opN rfl rfl rfl rfl ?_
    refine WL.op rfl (d_pick rfl rfl ?_)
    refine WL.done (X.then_code ?_)
    refine W.iff rfl ?_
    refine W.exit (X.then_exit (X.then_exit (X.block_exit (X.then_code ?_))))
    refine W.seq ?_
    refine W.region ?_
    refine WL.op rfl (d_move rfl ?_)
    refine WL.op rfl (d_move rfl ?_)
    refine WL.op rfl (d_lenS Try.underlying41 rfl ?_)
    refine WL.op rfl (d_move rfl ?_)
    refine WL.op rfl (d_cmp (decide (((os.length : Nat) : Int) ≤ most)) rfl rfl rfl ?_)
    refine WL.op rfl (d_assign rfl ?_)
    refine WL.op rfl (d_assign rfl ?_)
    refine WL.done (X.then_code ?_)
    refine W.ret (X.ret2 rfl rfl rfl ?_)
    have hfin : elsOut d (lettersB d) most = os.map EL.dat := by rw [hR]; exact elRun_end (by rw [List.length_map]; omega)
    exact ⟨oa, os, oc, (by rw [hfin, List.length_map]), (Upd.sel H6 (l := [1, 2]) rfl rfl), hfin.symm, hI⟩
end Go.Proofs.Ytoeockpkkmgieaa
