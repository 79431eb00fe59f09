/- The walks of functions, printed by wip/tools/gw.py. -/
import Derived.Test.YtoeockpkkmgieaaF2
import Derived.Test.YtoeockpkkmgieaaSx7
import Derived.Test.YtoeockpkkmgieaaS4
import Derived.Test.YtoeockpkkmgieaaP1
import Derived.Test.YtoeockpkkmgieaaT1
import Derived.Test.YtoeockpkkmgieaaMon2
namespace Go.Proofs.Ytoeockpkkmgieaa
open Go Go.Sx
set_option linter.unusedVariables false
set_option linter.unusedSimpArgs false
set_option maxRecDepth 20000 in
theorem sort8_any (da : Option Addr) (xs : List Int) (dc : Nat) (dn : Nat) (w : World) (hp : Hp w [rowT (tyI .u8) (.slice da dn dc) 5 xs]) (hl : xs.length ≤ 1000000) :
    Calls Try.prog 94 #[.slice da dn dc] w (Ret fun v w' => v = .tuple #[] ∧ Upd w [rowT (tyI .u8) (.slice da dn dc) 5 xs] w' [rowT (tyI .u8) (.slice da dn dc) 5 (xs.mergeSort (fun x y => decide (x ≤ y)))]) := by
  have hn := (hp_rdT hp (List.mem_of_getElem? (i := 0) rfl)).len
  have hbl := len_le xs.length hl
  refine calls_of_W (args := [.slice da dn dc]) Try.func94 rfl rfl rfl ?_
  have H0 : UpG w [rowT (tyI .u8) (.slice da dn dc) 5 xs] w [[rowT (tyI .u8) (.slice da dn dc) 5 xs]] := (UpG.refl hp).re rfl
  show W _ _ _ _ [(0, .slice da dn dc)] w
  refine W.seq ?_
  refine W.region ?_
  refine WL.op rfl (d_move rfl ?_)
  refine WL.op rfl (d_lenS Try.underlying85 rfl ?_)
  refine WL.op rfl (d_assign rfl ?_)
  refine WL.done (X.then_code ?_)
  refine W.region ?_
  refine WL.op rfl (d_move rfl ?_)
  refine WL.op rfl (d_move rfl ?_)
  refine WL.op rfl (d_move rfl ?_)
  refine WL.op rfl (d_convI (kd := .u64) Try.underlying3 Try.underlying126 rfl (by simp [IntKind.signed, IntKind.bits, IntKind.max]; omega) ?_)
  refine WL.op rfl (d_call ok101 rfl (Ret.calls (len_any ((dn : Nat) : Int) w  (by omega) (by omega)) fun _ w1 p1 => ?_))
  obtain ⟨rfl, u1⟩ := p1
  have H1 : UpG w [rowT (tyI .u8) (.slice da dn dc) 5 xs] w1 [[rowT (tyI .u8) (.slice da dn dc) 5 xs]] := H0.call u1
  refine WL.op rfl (d_call ok103 rfl (Ret.calls (pdq_any da xs dc dn 0 0 ((dn : Nat) : Int) dn ((Lib.bitLen ((dn : Nat) : Int).toNat : Nat) : Int) w1 (H1.hpOf 0 rfl)  (by omega) (by omega) (by omega) (.inl rfl) (by have e9 : ((dn : Nat) : Int).toNat = xs.length := (by omega); rw [e9]; omega)) fun _ w2 p2 => ?_))
  obtain ⟨zs_1, rfl, u2, hih1⟩ := p2
  have H2 : UpG w [rowT (tyI .u8) (.slice da dn dc) 5 xs] w2 [[rowT (tyI .u8) (.slice da dn dc) 5 zs_1]] := H1.on 0 rfl u2
  refine WL.done (X.end0 rfl ?_)
  subst hn
  have e := sorted_all hih1.1 hih1.2
  rw [← e]
  exact ⟨rfl, (Upd.sel H2 (l := [0]) rfl rfl)⟩

set_option maxRecDepth 20000 in
theorem letters_any (d : DfaD) (dca : Option Addr) (dna : Option Addr) (dba : Option Addr) (dcc : Nat) (dnc : Nat) (dbc : Nat) (w : World) (rcd : RdT (tyI .i64) w (.slice dca d.cls.length dcc) d.cls) (rnd : RdT (tyI .i64) w (.slice dna d.next.length dnc) d.next) (rbd : RdT tyB w (.slice dba d.acc.length dbc) d.acc) (hrt : rightB d = true) :
    Calls Try.prog 65 #[.agg #[.slice dca d.cls.length dcc, .int .i64 d.width, .int .i64 d.start, .slice dna d.next.length dnc, .slice dba d.acc.length dbc]] w (Ret fun v w' => ∃ a2 : Option Addr, ∃ c2 : Nat, v = .slice a2 ((lettersB d).length) c2 ∧ Upd w [] w' [rowT (tyI .u8) (.slice a2 ((lettersB d).length) c2) 5 (lettersB d)]) := by
  have hfl := firstsI_len d.cls d.width
  have le_rcd := rcd.le
  have le_rnd := rnd.le
  have le_rbd := rbd.le
  refine calls_of_W (args := [.agg #[.slice dca d.cls.length dcc, .int .i64 d.width, .int .i64 d.start, .slice dna d.next.length dnc, .slice dba d.acc.length dbc]]) Try.func65 rfl rfl rfl ?_
  have H0 : UpG w [] w [] := UpG.nil w
  show W _ _ _ _ [(0, .agg #[.slice dca d.cls.length dcc, .int .i64 d.width, .int .i64 d.start, .slice dna d.next.length dnc, .slice dba d.acc.length dbc])] w
  refine W.seq ?_
  refine W.region ?_
  refine WL.op rfl (d_box rfl fun w1 u1 => ?_)
  have H1 : UpG w [] w1 [[blk w.heap.size #[.slice dca d.cls.length dcc, .int .i64 d.width, .int .i64 d.start, .slice dna d.next.length dnc, .slice dba d.acc.length dbc] 25]] := H0.new' u1
  refine WL.op rfl (d_assign rfl ?_)
  refine WL.done (X.then_code ?_)
  refine W.seq ?_
  refine W.region ?_
  refine WL.op rfl (d_assign rfl ?_)
  refine WL.done (X.then_code ?_)
  refine W.seq ?_
  refine W.seq ?_
  refine W.region ?_
  refine WL.op rfl (d_fieldAddrB fld25_0 rfl rfl ?_)
  refine WL.op rfl (d_loadB Try.underlying22 rfl rfl (H1.blk 0 rfl) rfl ?_)
  refine WL.op rfl (d_fieldAddrB fld25_1 rfl rfl ?_)
  refine WL.op rfl (d_loadB Try.underlying3 rfl rfl (H1.blk 0 rfl) rfl ?_)
  refine WL.op rfl (d_call ok78 rfl (Ret.calls (firsts_any dca d.cls dcc d.width w1 (rcd.at H1) ) fun _ w2 p1 => ?_))
  obtain ⟨a2_1, c2_1, rfl, u2⟩ := p1
  have H2 : UpG w [] w2 [[blk w.heap.size #[.slice dca d.cls.length dcc, .int .i64 d.width, .int .i64 d.start, .slice dna d.next.length dnc, .slice dba d.acc.length dbc] 25], [rowT (tyI .i64) (.slice a2_1 ((firstsI d.cls d.width).length) c2_1) 3 (firstsI d.cls d.width)]] := (H1.new' u2).re rfl
  refine WL.op rfl (d_lenS Try.underlying22 rfl ?_)
  refine WL.op rfl (d_move rfl ?_)
  refine WL.done (X.then_code ?_)
  refine W.block ?_
  have H3 : UpG w [] w2 [[blk w.heap.size #[.slice dca d.cls.length dcc, .int .i64 d.width, .int .i64 d.start, .slice dna d.next.length dnc, .slice dba d.acc.length dbc] 25], [rowT (tyI .i64) (.slice a2_1 ((firstsI d.cls d.width).length) c2_1) 3 (firstsI d.cls d.width)], [rowT (tyI .u8) (.slice none (([] : List Int).length) 0) 5 ([] : List Int)]] := H2.new' (Upd.nilRowT w2 (tyI .u8) 5)
  refine W.pick [12, 11, 10, 3, 2] (Γ' := [(12, .int .i64 0), (11, .int .i64 (((firstsI d.cls d.width).length : Nat) : Int)), (10, .slice a2_1 ((firstsI d.cls d.width).length) c2_1), (3, .slice none (([] : List Int).length) 0), (2, .slice none 0 0)]) rfl ?_
  refine W.loop (fun m Γ' w' => ∃ k : Nat, ∃ q : List Int, ∃ qa : Option Addr, ∃ qc : Nat, Γ' = [(12, .int .i64 ((k : Nat) : Int)), (11, .int .i64 (((firstsI d.cls d.width).length : Nat) : Int)), (10, .slice a2_1 ((firstsI d.cls d.width).length) c2_1), (3, .slice qa q.length qc), (2, .slice none 0 0)] ∧ UpG w [] w' [[blk w.heap.size #[.slice dca d.cls.length dcc, .int .i64 d.width, .int .i64 d.start, .slice dna d.next.length dnc, .slice dba d.acc.length dbc] 25], [rowT (tyI .i64) (.slice a2_1 ((firstsI d.cls d.width).length) c2_1) 3 (firstsI d.cls d.width)], [rowT (tyI .u8) (.slice qa q.length qc) 5 q]] ∧ (k ≤ (firstsI d.cls d.width).length) ∧ (q = bytesK (firstsI d.cls d.width) k) ∧ (q.length ≤ k) ∧ m = (firstsI d.cls d.width).length - k) ((firstsI d.cls d.width).length - 0) ⟨0, ([] : List Int), none, 0, rfl, H3, (by first | assumption | omega | simp), (by rfl), (by simp), rfl⟩ ?_
  rintro m1 Γ1 w3 ⟨k, q, qa, qc, rfl, H4, hk, hq, hql, rfl⟩
  refine W.seq ?_
  refine W.region ?_
  refine WL.op rfl (d_cmp (decide (((k : Nat) : Int) < (((firstsI d.cls d.width).length : Nat) : Int))) rfl rfl rfl ?_)
  refine WL.done (X.then_code ?_)
  refine W.seq ?_
  refine W.ite (p := ((k : Nat) : Int) < (((firstsI d.cls d.width).length : Nat) : Int)) rfl (fun c30 => ?_) (fun c30 => ?_)
  · skip
    refine W.skip (X.then_code ?_)
    refine W.seq ?_
    refine W.block ?_
    refine W.seq ?_
    refine W.region ?_
    refine WL.op rfl (t_addr1 k (T := (tyI .i64)) rfl Try.underlying22 sz3 rfl rfl (H4.rdT 1 rfl) rfl (by omega) ?_)
    refine WL.op rfl (t_load1 k 0 (T := (tyI .i64)) rfl Try.underlying3 rfl rfl (H4.rdT 1 rfl) (by omega) rfl ?_)
    refine WL.op rfl (d_assign rfl ?_)
    refine WL.done (X.then_code ?_)
    refine W.seq ?_
    refine W.region ?_
    refine WL.op rfl (d_move rfl ?_)
    refine WL.op rfl (d_cmp (decide (((firstsI d.cls d.width).getD k 0) ≥ (0 : Int))) rfl rfl rfl ?_)
    refine WL.op rfl (d_move rfl ?_)
    refine WL.part 18 (p := ((firstsI d.cls d.width).getD k 0) ≥ (0 : Int)) rfl (fun g31 => ?_) (fun g31 => ?_)
    · skip
      refine WL.opG rfl rfl rfl (d_move rfl ?_)
      refine WL.opG rfl rfl rfl (d_cmp (decide (((firstsI d.cls d.width).getD k 0) < (256 : Int))) rfl rfl rfl ?_)
      refine WL.op rfl (d_pick rfl rfl ?_)
      refine WL.done (X.then_code ?_)
      refine W.ite (p := ((firstsI d.cls d.width).getD k 0) < (256 : Int)) rfl (fun c31 => ?_) (fun c31 => ?_)
      · skip
        refine W.region ?_
        refine WL.op rfl (d_move rfl ?_)
        refine WL.op rfl (d_move rfl ?_)
        refine WL.op rfl (d_convI (kd := .u8) Try.underlying3 Try.underlying5 rfl (by have h9 := g31; have h8 := c31; revert h9 h8; generalize (firstsI d.cls d.width).getD k 0 = z; intro h9 h8; simp [IntKind.signed, IntKind.bits, IntKind.max]; omega) ?_)
        refine WL.op rfl (t_buildSlice (T := (tyI .u8)) (xs := [(firstsI d.cls d.width).getD k 0]) (cs := #[.int .u8 ((firstsI d.cls d.width).getD k 0)]) rfl Try.underlying85 sz5 rfl rfl rfl rfl (by kernel_rfl) rfl rfl fun w4 u3 => ?_)
        have H5 : UpG w [] w4 [[blk w.heap.size #[.slice dca d.cls.length dcc, .int .i64 d.width, .int .i64 d.start, .slice dna d.next.length dnc, .slice dba d.acc.length dbc] 25], [rowT (tyI .i64) (.slice a2_1 ((firstsI d.cls d.width).length) c2_1) 3 (firstsI d.cls d.width)], [rowT (tyI .u8) (.slice qa q.length qc) 5 q], [rowT (tyI .u8) (.slice (some ⟨w3.heap.size, 0, none⟩) ([(firstsI d.cls d.width).getD k 0].length) ([(firstsI d.cls d.width).getD k 0].length)) 5 [(firstsI d.cls d.width).getD k 0]]] := H4.new' u3
        refine WL.op rfl (t_append (T := (tyI .u8)) (xs := q) (ys := [(firstsI d.cls d.width).getD k 0]) rfl Try.underlying85 sz5 rfl rfl rfl (H5.ownT 2 rfl) (H5.rdT 3 rfl) (by simp only [List.length_singleton]; omega) (by simp only [List.length_singleton]; omega) fun a1 c1 w5 u4 => ?_)
        have H6 : UpG w [] w5 [[blk w.heap.size #[.slice dca d.cls.length dcc, .int .i64 d.width, .int .i64 d.start, .slice dna d.next.length dnc, .slice dba d.acc.length dbc] 25], [rowT (tyI .i64) (.slice a2_1 ((firstsI d.cls d.width).length) c2_1) 3 (firstsI d.cls d.width)], [rowT (tyI .u8) (.slice a1 ((q ++ [(firstsI d.cls d.width).getD k 0]).length) c1) 5 (q ++ [(firstsI d.cls d.width).getD k 0])], []] := (H5.on 2 rfl u4).drop 3
        refine WL.op rfl (d_assign rfl ?_)
        refine WL.done (X.block_normal (X.then_code ?_))
        refine W.region ?_
        refine WL.op rfl (d_add rfl rfl (by omega) (by omega) ?_)
        refine WL.op rfl (d_move rfl ?_)
        refine WL.done ?_
        exact X.next [12, 11, 10, 3, 2] (Γ' := [(12, .int .i64 (((k + 1) : Nat) : Int)), (11, .int .i64 (((firstsI d.cls d.width).length : Nat) : Int)), (10, .slice a2_1 ((firstsI d.cls d.width).length) c2_1), (3, .slice a1 ((q ++ [(firstsI d.cls d.width).getD k 0]).length) c1), (2, .slice none 0 0)]) rfl ((firstsI d.cls d.width).length - (k + 1)) (by omega) ⟨k + 1, q ++ [(firstsI d.cls d.width).getD k 0], a1, c1, rfl, (H6.re rfl), (by first | assumption | omega | simp), (by first | (rw [hq]; exact bytesK_yes (by omega) (by omega)) | (rw [hq]; exact bytesK_no (by omega) (by omega))), (by first | omega | (simp only [List.length_append, List.length_singleton]; omega)), rfl⟩
      · skip
        refine W.skip (X.block_normal (X.then_code ?_))
        refine W.region ?_
        refine WL.op rfl (d_add rfl rfl (by omega) (by omega) ?_)
        refine WL.op rfl (d_move rfl ?_)
        refine WL.done ?_
        exact X.next [12, 11, 10, 3, 2] (Γ' := [(12, .int .i64 (((k + 1) : Nat) : Int)), (11, .int .i64 (((firstsI d.cls d.width).length : Nat) : Int)), (10, .slice a2_1 ((firstsI d.cls d.width).length) c2_1), (3, .slice qa q.length qc), (2, .slice none 0 0)]) rfl ((firstsI d.cls d.width).length - (k + 1)) (by omega) ⟨k + 1, q, qa, qc, rfl, H4, (by first | assumption | omega | simp), (by first | (rw [hq]; exact bytesK_yes (by omega) (by omega)) | (rw [hq]; exact bytesK_no (by omega) (by omega))), (by first | omega | (simp only [List.length_append, List.length_singleton]; omega)), rfl⟩
    · skip
      refine WL.opN rfl rfl rfl rfl ?_
      refine WL.opN rfl rfl rfl rfl ?_
      refine WL.op rfl (d_pick rfl rfl ?_)
      refine WL.done (X.then_code ?_)
      refine W.iff rfl ?_
      refine W.skip (X.block_normal (X.then_code ?_))
      refine W.region ?_
      refine WL.op rfl (d_add rfl rfl (by omega) (by omega) ?_)
      refine WL.op rfl (d_move rfl ?_)
      refine WL.done ?_
      exact X.next [12, 11, 10, 3, 2] (Γ' := [(12, .int .i64 (((k + 1) : Nat) : Int)), (11, .int .i64 (((firstsI d.cls d.width).length : Nat) : Int)), (10, .slice a2_1 ((firstsI d.cls d.width).length) c2_1), (3, .slice qa q.length qc), (2, .slice none 0 0)]) rfl ((firstsI d.cls d.width).length - (k + 1)) (by omega) ⟨k + 1, q, qa, qc, rfl, H4, (by first | assumption | omega | simp), (by first | (rw [hq]; exact bytesK_yes (by omega) (by omega)) | (rw [hq]; exact bytesK_no (by omega) (by omega))), (by first | omega | (simp only [List.length_append, List.length_singleton]; omega)), rfl⟩
  · skip
    refine W.exit (X.then_exit (X.then_exit (X.block_exit (X.then_code ?_))))
    refine W.seq ?_
    refine W.region ?_
    refine WL.op rfl (d_move rfl ?_)
    refine WL.op rfl (d_call ok94 rfl (Ret.calls (sort8_any qa q qc q.length w3 (H4.hpOf 2 rfl)  (by omega)) fun _ w6 p2 => ?_))
    obtain ⟨rfl, u5⟩ := p2
    have H7 : UpG w [] w6 [[blk w.heap.size #[.slice dca d.cls.length dcc, .int .i64 d.width, .int .i64 d.start, .slice dna d.next.length dnc, .slice dba d.acc.length dbc] 25], [rowT (tyI .i64) (.slice a2_1 ((firstsI d.cls d.width).length) c2_1) 3 (firstsI d.cls d.width)], [rowT (tyI .u8) (.slice qa q.length qc) 5 (q.mergeSort (fun x y => decide (x ≤ y)))]] := H4.on 2 rfl u5
    refine WL.done (X.then_code ?_)
    refine W.seq ?_
    refine W.region ?_
    refine WL.op rfl (d_move rfl ?_)
    refine WL.op rfl (d_assign rfl ?_)
    refine WL.done (X.then_code ?_)
    refine W.ret (X.ret1 rfl rfl ?_)
    have e : lettersB d = q.mergeSort (fun x y => decide (x ≤ y)) := by rw [hq, show k = (firstsI d.cls d.width).length by omega]; exact (letters_eq hrt).symm
    rw [e]
    exact ⟨qa, qc, (by rw [List.length_mergeSort]), (by have h9 := H7.one 2 rfl; have e9 : (q.mergeSort (fun x y => decide (x ≤ y))).length = q.length := List.length_mergeSort q; rw [e9]; exact h9)⟩
end Go.Proofs.Ytoeockpkkmgieaa
