/- The walks of functions, printed by wip/tools/gw.py. -/
import Derived.Test.YtoeockpkkmgieaaF2
import Derived.Test.YtoeockpkkmgieaaSx7
import Derived.Test.YtoeockpkkmgieaaB1
import Derived.Test.YtoeockpkkmgieaaK2
import Derived.Test.YtoeockpkkmgieaaAlp0
namespace Go.Proofs.Ytoeockpkkmgieaa
open Go Go.Sx
set_option linter.unusedVariables false
set_option linter.unusedSimpArgs false
set_option maxRecDepth 20000 in
theorem firsts_any (clsa : Option Addr) (cls : List Int) (clsc : Nat) (width : Int) (w : World) (rcls : RdT (tyI .i64) w (.slice clsa cls.length clsc) cls) :
    Calls Try.prog 78 #[.slice clsa cls.length clsc, .int .i64 width] w (Ret fun v w' => ∃ a2 : Option Addr, ∃ c2 : Nat, v = .slice a2 ((firstsI cls width).length) c2 ∧ Upd w [] w' [rowT (tyI .i64) (.slice a2 ((firstsI cls width).length) c2) 3 (firstsI cls width)]) := by
  have le_rcls := rcls.le
  refine calls_of_W (args := [.slice clsa cls.length clsc, .int .i64 width]) Try.func78 rfl rfl rfl ?_
  have H0 : UpG w [] w [] := UpG.nil w
  show W _ _ _ _ [(0, .slice clsa cls.length clsc), (1, .int .i64 width)] w
  refine W.seq ?_
  refine W.region ?_
  refine WL.op rfl (d_assign rfl ?_)
  refine WL.done (X.then_code ?_)
  refine W.seq ?_
  refine W.region ?_
  refine WL.op rfl (d_assign rfl ?_)
  refine WL.done (X.then_code ?_)
  refine W.seq ?_
  refine W.seq ?_
  refine W.region ?_
  refine WL.op rfl (d_move rfl ?_)
  refine WL.op rfl (d_min rfl rfl ?_)
  refine WL.op rfl (d_move rfl ?_)
  refine WL.done (X.then_code ?_)
  refine W.block ?_
  have H1 : UpG w [] w [[rowT (tyI .i64) (.slice none (([] : List Int).length) 0) 3 ([] : List Int)]] := H0.new' (Upd.nilRowT w (tyI .i64) 3)
  refine W.pick [10, 9, 5, 4, 0] (Γ' := [(10, .int .i64 0), (9, .int .i64 (min width 259)), (5, .slice none (([] : List Int).length) 0), (4, .slice none 0 0), (0, .slice clsa cls.length clsc)]) rfl ?_
  refine W.loop (fun m Γ' w' => ∃ k : Nat, ∃ q : List Int, ∃ qa : Option Addr, ∃ qc : Nat, Γ' = [(10, .int .i64 ((k : Nat) : Int)), (9, .int .i64 (min width 259)), (5, .slice qa q.length qc), (4, .slice none 0 0), (0, .slice clsa cls.length clsc)] ∧ UpG w [] w' [[rowT (tyI .i64) (.slice qa q.length qc) 3 q]] ∧ (k ≤ (min width 259).toNat) ∧ (q = List.replicate k (-1)) ∧ (q.length = k) ∧ m = (min width 259).toNat - k) ((min width 259).toNat - 0) ⟨0, ([] : List Int), none, 0, rfl, H1, (by first | assumption | omega | simp), (by rfl), (by rfl), rfl⟩ ?_
  rintro m1 Γ1 w1 ⟨k, q, qa, qc, rfl, H2, hk, hq, hql, rfl⟩
  refine W.seq ?_
  refine W.region ?_
  refine WL.op rfl (d_cmp (decide (((k : Nat) : Int) < (min width 259))) rfl rfl rfl ?_)
  refine WL.done (X.then_code ?_)
  refine W.seq ?_
  refine W.ite (p := ((k : Nat) : Int) < (min width 259)) rfl (fun c59 => ?_) (fun c59 => ?_)
  · skip
    refine W.skip (X.then_code ?_)
    refine W.seq ?_
    refine W.block ?_
    refine W.region ?_
    refine WL.op rfl (d_move rfl ?_)
    refine WL.op rfl (t_buildSlice (T := (tyI .i64)) (xs := [-1]) (cs := #[.int .i64 (-1)]) rfl Try.underlying22 sz3 rfl rfl rfl rfl (by kernel_rfl) rfl rfl fun w2 u1 => ?_)
    have H3 : UpG w [] w2 [[rowT (tyI .i64) (.slice qa q.length qc) 3 q], [rowT (tyI .i64) (.slice (some ⟨w1.heap.size, 0, none⟩) ([-1].length) ([-1].length)) 3 [-1]]] := H2.new' u1
    refine WL.op rfl (t_append (T := (tyI .i64)) (xs := q) (ys := [-1]) rfl Try.underlying22 sz3 rfl rfl rfl (H3.ownT 0 rfl) (H3.rdT 1 rfl) (by simp only [List.length_singleton]; omega) (by simp only [List.length_singleton]; omega) fun a1 c1 w3 u2 => ?_)
    have H4 : UpG w [] w3 [[rowT (tyI .i64) (.slice a1 ((q ++ [-1]).length) c1) 3 (q ++ [-1])], []] := (H3.on 0 rfl u2).drop 1
    refine WL.op rfl (d_assign rfl ?_)
    refine WL.done (X.block_normal (X.then_code ?_))
    refine W.region ?_
    refine WL.op rfl (d_add rfl rfl (by omega) (by omega) ?_)
    refine WL.op rfl (d_move rfl ?_)
    refine WL.done ?_
    exact X.next [10, 9, 5, 4, 0] (Γ' := [(10, .int .i64 (((k + 1) : Nat) : Int)), (9, .int .i64 (min width 259)), (5, .slice a1 ((q ++ [-1]).length) c1), (4, .slice none 0 0), (0, .slice clsa cls.length clsc)]) rfl ((min width 259).toNat - (k + 1)) (by omega) ⟨k + 1, q ++ [-1], a1, c1, rfl, (H4.re rfl), (by first | assumption | omega | simp), (by rw [hq]; exact (List.replicate_succ' ..).symm), (by simp; omega), rfl⟩
  · skip
    refine W.exit (X.then_exit (X.then_exit (X.block_exit (X.then_code ?_))))
    refine W.seq ?_
    refine W.seq ?_
    refine W.region ?_
    refine WL.op rfl (d_move rfl ?_)
    refine WL.op rfl (d_lenS Try.underlying22 rfl ?_)
    refine WL.op rfl (d_move rfl ?_)
    refine WL.done (X.then_code ?_)
    refine W.block ?_
    refine W.pick [18, 17, 16, 5, 4] (Γ' := [(18, .int .i64 0), (17, .int .i64 ((cls.length : Nat) : Int)), (16, .slice clsa cls.length clsc), (5, .slice qa q.length qc), (4, .slice none 0 0)]) rfl ?_
    refine W.loop (fun m Γ' w' => ∃ j : Nat, ∃ r : List Int, Γ' = [(18, .int .i64 ((j : Nat) : Int)), (17, .int .i64 ((cls.length : Nat) : Int)), (16, .slice clsa cls.length clsc), (5, .slice qa q.length qc), (4, .slice none 0 0)] ∧ UpG w [] w' [[rowT (tyI .i64) (.slice qa q.length qc) 3 r]] ∧ (j ≤ cls.length) ∧ (FsI cls (min width 259).toNat r j) ∧ m = cls.length - j) (cls.length - 0) ⟨0, q, rfl, H2, (by first | assumption | omega | simp), (by rw [hq, show k = (min width 259).toNat by omega]; exact FsI.start cls _), rfl⟩ ?_
    rintro m2 Γ2 w4 ⟨j, r, rfl, H5, hj, hr, rfl⟩
    have hrl := hr.len
    refine W.seq ?_
    refine W.region ?_
    refine WL.op rfl (d_cmp (decide (((j : Nat) : Int) < ((cls.length : Nat) : Int))) rfl rfl rfl ?_)
    refine WL.done (X.then_code ?_)
    refine W.seq ?_
    refine W.ite (p := ((j : Nat) : Int) < ((cls.length : Nat) : Int)) rfl (fun c62 => ?_) (fun c62 => ?_)
    · skip
      refine W.skip (X.then_code ?_)
      refine W.seq ?_
      refine W.block ?_
      refine W.seq ?_
      refine W.region ?_
      refine WL.op rfl (d_move rfl ?_)
      refine WL.op rfl (t_addr1 j (T := (tyI .i64)) rfl Try.underlying22 sz3 rfl rfl (rcls.at H5) rfl (by omega) ?_)
      refine WL.op rfl (t_load1 j 0 (T := (tyI .i64)) rfl Try.underlying3 rfl rfl (rcls.at H5) (by omega) rfl ?_)
      refine WL.op rfl (d_assign rfl ?_)
      refine WL.op rfl (d_assign rfl ?_)
      refine WL.done (X.then_code ?_)
      refine W.seq ?_
      refine W.region ?_
      refine WL.op rfl (d_move rfl ?_)
      refine WL.op rfl (d_cmp (decide ((cls.getD j 0) ≥ (0 : Int))) rfl rfl rfl ?_)
      refine WL.op rfl (d_move rfl ?_)
      refine WL.part 25 (p := (cls.getD j 0) ≥ (0 : Int)) rfl (fun g63 => ?_) (fun g63 => ?_)
      · skip
        refine WL.opG rfl rfl rfl (d_move rfl ?_)
        refine WL.opG rfl rfl rfl (d_move rfl ?_)
        refine WL.opG rfl rfl rfl (d_lenS Try.underlying22 rfl ?_)
        refine WL.opG rfl rfl rfl (d_cmp (decide ((cls.getD j 0) < ((q.length : Nat) : Int))) rfl rfl rfl ?_)
        refine WL.op rfl (d_pick rfl rfl ?_)
        refine WL.op rfl (d_move rfl ?_)
        refine WL.part 31 (p := (cls.getD j 0) < ((q.length : Nat) : Int)) rfl (fun g63x => ?_) (fun g63x => ?_)
        · skip
          refine WL.opG rfl rfl rfl (d_move rfl ?_)
          refine WL.opG rfl rfl rfl (d_move rfl ?_)
          refine WL.opG rfl rfl rfl (t_addr1 ((cls.getD j 0).toNat) (T := (tyI .i64)) rfl Try.underlying22 sz3 rfl rfl (H5.rdT 0 rfl) (by omega) (by omega) ?_)
          refine WL.opG rfl rfl rfl (t_load1 ((cls.getD j 0).toNat) 0 (T := (tyI .i64)) rfl Try.underlying3 rfl rfl (H5.rdT 0 rfl) (by omega) rfl ?_)
          refine WL.opG rfl rfl rfl (d_cmp (decide ((r.getD ((cls.getD j 0).toNat) 0) < (0 : Int))) rfl rfl rfl ?_)
          refine WL.op rfl (d_pick rfl rfl ?_)
          refine WL.done (X.then_code ?_)
          refine W.ite (p := (r.getD ((cls.getD j 0).toNat) 0) < (0 : Int)) rfl (fun c63 => ?_) (fun c63 => ?_)
          · skip
            refine W.region ?_
            refine WL.op rfl (d_move rfl ?_)
            refine WL.op rfl (d_move rfl ?_)
            refine WL.op rfl (d_move rfl ?_)
            refine WL.op rfl (t_addr1 ((cls.getD j 0).toNat) (T := (tyI .i64)) rfl Try.underlying22 sz3 rfl rfl (H5.rdT 0 rfl) (by omega) (by omega) ?_)
            refine WL.op0 (t_store1 ((cls.getD j 0).toNat) ((j : Nat) : Int) (T := (tyI .i64)) (e := 3) rfl sz3 rfl rfl rfl (H5.ownT 0 rfl) (by omega) fun w5 u3 => ?_)
            have H6 : UpG w [] w5 [[rowT (tyI .i64) (.slice qa q.length qc) 3 (r.set ((cls.getD j 0).toNat) ((j : Nat) : Int))]] := H5.on 0 rfl u3
            refine WL.done (X.block_normal (X.then_code ?_))
            refine W.region ?_
            refine WL.op rfl (d_add rfl rfl (by omega) (by omega) ?_)
            refine WL.op rfl (d_move rfl ?_)
            refine WL.done ?_
            exact X.next [18, 17, 16, 5, 4] (Γ' := [(18, .int .i64 (((j + 1) : Nat) : Int)), (17, .int .i64 ((cls.length : Nat) : Int)), (16, .slice clsa cls.length clsc), (5, .slice qa q.length qc), (4, .slice none 0 0)]) rfl (cls.length - (j + 1)) (by omega) ⟨j + 1, r.set ((cls.getD j 0).toNat) ((j : Nat) : Int), rfl, H6, (by first | assumption | omega | simp), (by first | exact hr.put (by omega) (by omega) (by omega) (by omega) | exact hr.skip (by omega) (by omega)), rfl⟩
          · skip
            refine W.skip (X.block_normal (X.then_code ?_))
            refine W.region ?_
            refine WL.op rfl (d_add rfl rfl (by omega) (by omega) ?_)
            refine WL.op rfl (d_move rfl ?_)
            refine WL.done ?_
            exact X.next [18, 17, 16, 5, 4] (Γ' := [(18, .int .i64 (((j + 1) : Nat) : Int)), (17, .int .i64 ((cls.length : Nat) : Int)), (16, .slice clsa cls.length clsc), (5, .slice qa q.length qc), (4, .slice none 0 0)]) rfl (cls.length - (j + 1)) (by omega) ⟨j + 1, r, rfl, H5, (by first | assumption | omega | simp), (by first | exact hr.put (by omega) (by omega) (by omega) (by omega) | exact hr.skip (by omega) (by omega)), rfl⟩
        · skip
          refine WL.opN rfl rfl rfl rfl ?_
          refine WL.opN rfl rfl rfl rfl ?_
          refine WL.opN rfl rfl rfl rfl ?_
          refine WL.opN rfl rfl rfl rfl ?_
          refine WL.opN rfl rfl rfl rfl ?_
          refine WL.op rfl (d_pick rfl rfl ?_)
          refine WL.done (X.then_code ?_)
          refine W.iff rfl ?_
          refine W.skip (X.block_normal (X.then_code ?_))
          refine W.region ?_
          refine WL.op rfl (d_add rfl rfl (by omega) (by omega) ?_)
          refine WL.op rfl (d_move rfl ?_)
          refine WL.done ?_
          exact X.next [18, 17, 16, 5, 4] (Γ' := [(18, .int .i64 (((j + 1) : Nat) : Int)), (17, .int .i64 ((cls.length : Nat) : Int)), (16, .slice clsa cls.length clsc), (5, .slice qa q.length qc), (4, .slice none 0 0)]) rfl (cls.length - (j + 1)) (by omega) ⟨j + 1, r, rfl, H5, (by first | assumption | omega | simp), (by first | exact hr.put (by omega) (by omega) (by omega) (by omega) | exact hr.skip (by omega) (by omega)), rfl⟩
      · skip
        refine WL.opN rfl rfl rfl rfl ?_
        refine WL.opN rfl rfl rfl rfl ?_
        refine WL.opN rfl rfl rfl rfl ?_
        refine WL.opN rfl rfl rfl rfl ?_
        refine WL.op rfl (d_pick rfl rfl ?_)
        refine WL.op rfl (d_move rfl ?_)
        refine WL.opN rfl rfl rfl rfl ?_
        refine WL.opN rfl rfl rfl rfl ?_
        refine WL.opN rfl rfl rfl rfl ?_
        refine WL.opN rfl rfl rfl rfl ?_
        refine WL.opN rfl rfl rfl rfl ?_
        refine WL.op rfl (d_pick rfl rfl ?_)
        refine WL.done (X.then_code ?_)
        refine W.iff rfl ?_
        refine W.skip (X.block_normal (X.then_code ?_))
        refine W.region ?_
        refine WL.op rfl (d_add rfl rfl (by omega) (by omega) ?_)
        refine WL.op rfl (d_move rfl ?_)
        refine WL.done ?_
        exact X.next [18, 17, 16, 5, 4] (Γ' := [(18, .int .i64 (((j + 1) : Nat) : Int)), (17, .int .i64 ((cls.length : Nat) : Int)), (16, .slice clsa cls.length clsc), (5, .slice qa q.length qc), (4, .slice none 0 0)]) rfl (cls.length - (j + 1)) (by omega) ⟨j + 1, r, rfl, H5, (by first | assumption | omega | simp), (by first | exact hr.put (by omega) (by omega) (by omega) (by omega) | exact hr.skip (by omega) (by omega)), rfl⟩
    · skip
      refine W.exit (X.then_exit (X.then_exit (X.block_exit (X.then_code ?_))))
      refine W.seq ?_
      refine W.region ?_
      refine WL.op rfl (d_move rfl ?_)
      refine WL.op rfl (d_assign rfl ?_)
      refine WL.done (X.then_code ?_)
      refine W.ret (X.ret1 rfl rfl ?_)
      have hf := hr.fin (by omega)
      rw [hf]
      exact ⟨qa, qc, (by rw [show r.length = q.length by omega]), (by have h9 := H5.one 0 rfl; rw [show q.length = r.length by omega] at h9; exact h9)⟩

set_option maxRecDepth 20000 in
theorem join_any (xsa : Option Addr) (xs : List Int) (xsc : Nat) (ysa : Option Addr) (ys : List Int) (ysc : Nat) (w : World) (rxs : RdT (tyI .i64) w (.slice xsa xs.length xsc) xs) (rys : RdT (tyI .i64) w (.slice ysa ys.length ysc) ys) (hl : xs.length ≤ 1000000) :
    Calls Try.prog 77 #[.slice xsa xs.length xsc, .slice ysa ys.length ysc] w (Ret fun v w' => ∃ a2 : Option Addr, ∃ c2 : Nat, v = .tuple #[.slice a2 ((joinL xs ys).length) c2, .int .i64 (joinN xs ys)] ∧ Upd w [] w' [rowT (tyI .i64) (.slice a2 ((joinL xs ys).length) c2) 3 (joinL xs ys)]) := by
  have le_rxs := rxs.le
  have le_rys := rys.le
  refine calls_of_W (args := [.slice xsa xs.length xsc, .slice ysa ys.length ysc]) Try.func77 rfl rfl rfl ?_
  have H0 : UpG w [] w [] := UpG.nil w
  show W _ _ _ _ [(0, .slice xsa xs.length xsc), (1, .slice ysa ys.length ysc)] w
  refine W.seq ?_
  refine W.region ?_
  refine WL.op rfl (d_assign rfl ?_)
  refine WL.op rfl (d_assign rfl ?_)
  refine WL.done (X.then_code ?_)
  refine W.seq ?_
  refine W.seq ?_
  refine W.region ?_
  refine WL.op rfl (d_move rfl ?_)
  refine WL.op rfl (d_lenS Try.underlying22 rfl ?_)
  refine WL.op rfl (d_move rfl ?_)
  refine WL.op rfl (d_lenS Try.underlying22 rfl ?_)
  refine WL.op rfl (d_cmp (decide (((xs.length : Nat) : Int) ≠ ((ys.length : Nat) : Int))) rfl rfl rfl ?_)
  refine WL.done (X.then_code ?_)
  refine W.ite (p := ((xs.length : Nat) : Int) ≠ ((ys.length : Nat) : Int)) rfl (fun c15 => ?_) (fun c15 => ?_)
  · skip
    refine W.seq ?_
    refine W.region ?_
    refine WL.op rfl (d_assign rfl ?_)
    refine WL.op rfl (d_assign rfl ?_)
    refine WL.done (X.then_code ?_)
    refine W.ret (X.then_ret (X.ret2 rfl rfl rfl ?_))
    have e1 : joinL xs ys = [] := by rw [joinL, if_neg (by omega)]
    have e2 : joinN xs ys = 0 := by rw [joinN, if_neg (by omega)]
    rw [e1, e2]
    exact ⟨none, 0, (by rfl), nilOwn H0⟩
  · skip
    refine W.skip (X.then_code ?_)
    refine W.seq ?_
    refine W.region ?_
    refine WL.op rfl (d_makeMap encP (fun a : Int => .int .i64 a) fun w1 u1 => ?_)
    have H1 : UpG w [] w1 [[mapC encP (fun a : Int => .int .i64 a) w.heap.size ([] : List ((Int × Int) × Int))]] := H0.new' u1
    refine WL.op rfl (d_assign rfl ?_)
    refine WL.done (X.then_code ?_)
    refine W.seq ?_
    refine W.region ?_
    refine WL.op rfl (d_move rfl ?_)
    refine WL.op rfl (d_lenS Try.underlying22 rfl ?_)
    refine WL.op rfl (t_make xs.length (0 : Int) (T := (tyI .i64)) rfl Try.underlying22 sz3 rfl rfl rfl rfl (by omega) (by omega) fun w2 u2 => ?_)
    have H2 : UpG w [] w2 [[mapC encP (fun a : Int => .int .i64 a) w.heap.size ([] : List ((Int × Int) × Int))], [rowT (tyI .i64) (.slice (some ⟨w1.heap.size, 0, none⟩) ((List.replicate xs.length (0 : Int)).length) xs.length) 3 (List.replicate xs.length (0 : Int))]] := H1.new' u2
    refine WL.op rfl (d_assign rfl ?_)
    refine WL.done (X.then_code ?_)
    refine W.seq ?_
    refine W.seq ?_
    refine W.region ?_
    refine WL.op rfl (d_move rfl ?_)
    refine WL.op rfl (d_lenS Try.underlying22 rfl ?_)
    refine WL.op rfl (d_move rfl ?_)
    refine WL.done (X.then_code ?_)
    refine W.block ?_
    refine W.pick [23, 22, 7, 6, 5, 4, 0, 1] (Γ' := [(23, .int .i64 0), (22, .int .i64 ((xs.length : Nat) : Int)), (7, .slice (some ⟨w1.heap.size, 0, none⟩) ((List.replicate xs.length (0 : Int)).length) xs.length), (6, .map (some w.heap.size)), (5, .int .i64 0), (4, .slice none 0 0), (0, .slice xsa xs.length xsc), (1, .slice ysa ys.length ysc)]) rfl ?_
    refine W.loop (fun m Γ' w' => ∃ k : Nat, ∃ q : List Int, ∃ mm : List ((Int × Int) × Int), Γ' = [(23, .int .i64 ((k : Nat) : Int)), (22, .int .i64 ((xs.length : Nat) : Int)), (7, .slice (some ⟨w1.heap.size, 0, none⟩) ((List.replicate xs.length (0 : Int)).length) xs.length), (6, .map (some w.heap.size)), (5, .int .i64 0), (4, .slice none 0 0), (0, .slice xsa xs.length xsc), (1, .slice ysa ys.length ysc)] ∧ UpG w [] w' [[mapC encP (fun a : Int => .int .i64 a) w.heap.size mm], [rowT (tyI .i64) (.slice (some ⟨w1.heap.size, 0, none⟩) ((List.replicate xs.length (0 : Int)).length) xs.length) 3 q]] ∧ (k ≤ xs.length) ∧ (JnI (xs.zip ys) q mm k) ∧ m = xs.length - k) (xs.length - 0) ⟨0, List.replicate xs.length (0 : Int), [], rfl, (H2.re rfl), (by first | assumption | omega | simp), (by rw [show xs.length = (xs.zip ys).length by simp; omega]; exact JnI.start _), rfl⟩ ?_
    rintro m1 Γ1 w3 ⟨k, q, mm, rfl, H3, hk, hq, rfl⟩
    have hql : q.length = xs.length := by rw [hq.len]; simp; omega
    refine W.seq ?_
    refine W.region ?_
    refine WL.op rfl (d_cmp (decide (((k : Nat) : Int) < ((xs.length : Nat) : Int))) rfl rfl rfl ?_)
    refine WL.done (X.then_code ?_)
    refine W.seq ?_
    refine W.ite (p := ((k : Nat) : Int) < ((xs.length : Nat) : Int)) rfl (fun c20 => ?_) (fun c20 => ?_)
    · skip
      refine W.skip (X.then_code ?_)
      refine W.seq ?_
      refine W.block ?_
      refine W.seq ?_
      refine W.region ?_
      refine WL.op rfl (d_move rfl ?_)
      refine WL.op rfl (d_assign rfl ?_)
      refine WL.done (X.then_code ?_)
      refine W.seq ?_
      refine W.regionD mixed (by kernel_rfl) fun hok1 w4 k1 => ?_
      have H4 : UpG w [] w4 [[mapC encP (fun a : Int => .int .i64 a) w.heap.size mm], [rowT (tyI .i64) (.slice (some ⟨w1.heap.size, 0, none⟩) ((List.replicate xs.length (0 : Int)).length) xs.length) 3 q]] := H3.kept k1
      refine WD.take hok1 0 (.slice xsa xs.length xsc) (fun _ => True) rfl rfl rfl rfl rfl trivial (.inl ⟨rfl, fun _ _ => d_move rfl ⟨rfl, rfl⟩⟩) ?_
      refine WD.take hok1 1 (.int .i64 ((k : Nat) : Int)) (fun _ => True) rfl rfl rfl rfl rfl trivial (.inl ⟨rfl, fun _ _ => d_move rfl ⟨rfl, rfl⟩⟩) ?_
      refine WD.take hok1 2 (elemPtr (.slice xsa xs.length xsc) k) (fun w' => RdT (tyI .i64) w' (.slice xsa xs.length xsc) xs) rfl rfl rfl rfl rfl (rxs.at H4) (.inl ⟨rfl, fun _ hC => t_addr1 k (T := (tyI .i64)) rfl Try.underlying22 sz3 rfl rfl hC rfl (by omega) ⟨rfl, rfl⟩⟩) ?_
      refine WD.take hok1 3 (.int .i64 (xs.getD k 0)) (fun w' => RdT (tyI .i64) w' (.slice xsa xs.length xsc) xs) rfl rfl rfl rfl rfl (rxs.at H4) (.inl ⟨rfl, fun _ hC => t_load1 k 0 (T := (tyI .i64)) rfl Try.underlying3 rfl rfl hC (by omega) rfl ⟨rfl, rfl⟩⟩) ?_
      refine WD.take hok1 4 (.slice ysa ys.length ysc) (fun _ => True) rfl rfl rfl rfl rfl trivial (.inl ⟨rfl, fun _ _ => d_move rfl ⟨rfl, rfl⟩⟩) ?_
      refine WD.take hok1 5 (.int .i64 ((k : Nat) : Int)) (fun _ => True) rfl rfl rfl rfl rfl trivial (.inl ⟨rfl, fun _ _ => d_move rfl ⟨rfl, rfl⟩⟩) ?_
      refine WD.take hok1 6 (elemPtr (.slice ysa ys.length ysc) k) (fun w' => RdT (tyI .i64) w' (.slice ysa ys.length ysc) ys) rfl rfl rfl rfl rfl (rys.at H4) (.inl ⟨rfl, fun _ hC => t_addr1 k (T := (tyI .i64)) rfl Try.underlying22 sz3 rfl rfl hC rfl (by omega) ⟨rfl, rfl⟩⟩) ?_
      refine WD.take hok1 7 (.int .i64 (ys.getD k 0)) (fun w' => RdT (tyI .i64) w' (.slice ysa ys.length ysc) ys) rfl rfl rfl rfl rfl (rys.at H4) (.inl ⟨rfl, fun _ hC => t_load1 k 0 (T := (tyI .i64)) rfl Try.underlying3 rfl rfl hC (by omega) rfl ⟨rfl, rfl⟩⟩) ?_
      refine WD.take hok1 8 (.agg #[.int .i64 (xs.getD k 0), .int .i64 (ys.getD k 0)]) (fun _ => True) rfl rfl rfl rfl rfl trivial (.inl ⟨rfl, fun _ _ => d_build (cs := #[.int .i64 (xs.getD k 0), .int .i64 (ys.getD k 0)]) rfl (by kernel_rfl) ⟨rfl, rfl⟩⟩) ?_
      refine WD.loud hok1 9 rfl (⟨_, [⟨8, .agg #[.int .i64 (xs.getD k 0), .int .i64 (ys.getD k 0)], (fun _ => True)⟩, ⟨7, .int .i64 (ys.getD k 0), (fun w' => RdT (tyI .i64) w' (.slice ysa ys.length ysc) ys)⟩, ⟨6, elemPtr (.slice ysa ys.length ysc) k, (fun w' => RdT (tyI .i64) w' (.slice ysa ys.length ysc) ys)⟩, ⟨5, .int .i64 ((k : Nat) : Int), (fun _ => True)⟩, ⟨4, .slice ysa ys.length ysc, (fun _ => True)⟩, ⟨3, .int .i64 (xs.getD k 0), (fun w' => RdT (tyI .i64) w' (.slice xsa xs.length xsc) xs)⟩, ⟨2, elemPtr (.slice xsa xs.length xsc) k, (fun w' => RdT (tyI .i64) w' (.slice xsa xs.length xsc) xs)⟩, ⟨1, .int .i64 ((k : Nat) : Int), (fun _ => True)⟩, ⟨0, .slice xsa xs.length xsc, (fun _ => True)⟩], rfl, rfl, rfl, rfl, rfl, rfl, d_alloc sz130 fun w5 u3 => ?_⟩)
      have H5 : UpG w [] w5 [[mapC encP (fun a : Int => .int .i64 a) w.heap.size mm], [rowT (tyI .i64) (.slice (some ⟨w1.heap.size, 0, none⟩) ((List.replicate xs.length (0 : Int)).length) xs.length) 3 q], [blk w4.heap.size #[.int .i64 0, .int .i64 0] 130]] := H4.new' u3
      refine ⟨⟨trivial, (rys.at H5), (rys.at H5), trivial, trivial, (rxs.at H5), (rxs.at H5), trivial, trivial, trivial⟩, ?_⟩
      refine WD.loud hok1 10 rfl (⟨_, [], rfl, rfl, rfl, rfl, rfl, rfl, d_storeAB (us := [.int .i64 (xs.getD k 0), .int .i64 (ys.getD k 0)]) (cs' := #[.int .i64 (xs.getD k 0), .int .i64 (ys.getD k 0)]) sz130 rfl rfl rfl rfl (H5.blk 2 rfl) rfl rfl fun w6 u4 => ?_⟩)
      have H6 : UpG w [] w6 [[mapC encP (fun a : Int => .int .i64 a) w.heap.size mm], [rowT (tyI .i64) (.slice (some ⟨w1.heap.size, 0, none⟩) ((List.replicate xs.length (0 : Int)).length) xs.length) 3 q], [blk w4.heap.size #[.int .i64 (xs.getD k 0), .int .i64 (ys.getD k 0)] 130]] := H5.on 2 rfl u4
      refine ⟨trivial, ?_⟩
      refine WD.done hok1 rfl (X.then_code ?_)
      refine W.seq ?_
      refine W.region ?_
      refine WL.op rfl (d_move rfl ?_)
      refine WL.op rfl (d_loadAB [.int .i64 (xs.getD k 0), .int .i64 (ys.getD k 0)] Try.underlying130 rfl sz130 rfl (H6.blk 2 rfl) rfl rfl ?_)
      refine WL.op rfl (d_look2 (ek := encP) (evl := (fun a : Int => .int .i64 a)) (xs.getD k 0, ys.getD k 0) 0 key130 Try.underlying128 sz3 rfl rfl (H6.mapAt 0 rfl) ?_)
      refine WL.op rfl (d_move rfl ?_)
      refine WL.op rfl (d_extract rfl rfl ?_)
      refine WL.op rfl (d_extract rfl rfl ?_)
      refine WL.op rfl (d_assign rfl ?_)
      refine WL.op rfl (d_assign rfl ?_)
      refine WL.done (X.then_code ?_)
      refine W.seq ?_
      refine W.seq ?_
      refine W.region ?_
      refine WL.op rfl (d_move rfl ?_)
      refine WL.op rfl (d_notB rfl ?_)
      refine WL.done (X.then_code ?_)
      refine W.pick [42, 10, 9, 8, 23, 22, 7, 6, 5, 4, 0, 1] (Γ' := [(42, .bool (!((getM mm (xs.getD k 0, ys.getD k 0)).isSome))), (10, .int .i64 ((getM mm (xs.getD k 0, ys.getD k 0)).getD 0)), (9, .pointer (some ⟨w4.heap.size, 0, none⟩)), (8, .int .i64 ((k : Nat) : Int)), (23, .int .i64 ((k : Nat) : Int)), (22, .int .i64 ((xs.length : Nat) : Int)), (7, .slice (some ⟨w1.heap.size, 0, none⟩) ((List.replicate xs.length (0 : Int)).length) xs.length), (6, .map (some w.heap.size)), (5, .int .i64 0), (4, .slice none 0 0), (0, .slice xsa xs.length xsc), (1, .slice ysa ys.length ysc)]) rfl ?_
      refine W.iteB (b := !((getM mm (xs.getD k 0, ys.getD k 0)).isSome)) rfl (fun c23 => ?_) (fun c23 => ?_)
      · skip
        refine W.seq ?_
        refine W.region ?_
        refine WL.op rfl (d_move rfl ?_)
        refine WL.op rfl (d_lenM (ek := encP) (evl := (fun a : Int => .int .i64 a)) Try.underlying128 rfl (H6.mapAt 0 rfl) ?_)
        refine WL.op rfl (d_assign rfl ?_)
        refine WL.done (X.then_code ?_)
        refine W.region ?_
        refine WL.op rfl (d_move rfl ?_)
        refine WL.op rfl (d_loadAB [.int .i64 (xs.getD k 0), .int .i64 (ys.getD k 0)] Try.underlying130 rfl sz130 rfl (H6.blk 2 rfl) rfl rfl ?_)
        refine WL.op rfl (d_move rfl ?_)
        refine WL.op0 (d_mapUpdate (ek := encP) (evl := (fun a : Int => .int .i64 a)) (xs.getD k 0, ys.getD k 0) ((mm.length : Nat) : Int) key130 Try.underlying128 rfl rfl rfl (H6.hpOf 0 rfl) fun w7 u5 => ?_)
        have H7 : UpG w [] w7 [[mapC encP (fun a : Int => .int .i64 a) w.heap.size (putM mm (xs.getD k 0, ys.getD k 0) ((mm.length : Nat) : Int))], [rowT (tyI .i64) (.slice (some ⟨w1.heap.size, 0, none⟩) ((List.replicate xs.length (0 : Int)).length) xs.length) 3 q], [blk w4.heap.size #[.int .i64 (xs.getD k 0), .int .i64 (ys.getD k 0)] 130]] := H6.on 0 rfl u5
        refine WL.done (X.then_code ?_)
        refine W.region ?_
        refine WL.op rfl (d_move rfl ?_)
        refine WL.op rfl (d_move rfl ?_)
        refine WL.op rfl (d_move rfl ?_)
        refine WL.op rfl (t_addr1 k (T := (tyI .i64)) rfl Try.underlying22 sz3 rfl rfl (H7.rdT 1 rfl) rfl (by omega) ?_)
        refine WL.op0 (t_store1 k ((mm.length : Nat) : Int) (T := (tyI .i64)) (e := 3) rfl sz3 rfl rfl rfl (H7.ownT 1 rfl) (by omega) fun w8 u6 => ?_)
        have H8 : UpG w [] w8 [[mapC encP (fun a : Int => .int .i64 a) w.heap.size (putM mm (xs.getD k 0, ys.getD k 0) ((mm.length : Nat) : Int))], [rowT (tyI .i64) (.slice (some ⟨w1.heap.size, 0, none⟩) ((List.replicate xs.length (0 : Int)).length) xs.length) 3 (q.set k ((mm.length : Nat) : Int))], [blk w4.heap.size #[.int .i64 (xs.getD k 0), .int .i64 (ys.getD k 0)] 130]] := H7.on 1 rfl u6
        refine WL.done (X.block_normal (X.then_code ?_))
        refine W.region ?_
        refine WL.op rfl (d_add rfl rfl (by omega) (by omega) ?_)
        refine WL.op rfl (d_move rfl ?_)
        refine WL.done ?_
        exact X.next [23, 22, 7, 6, 5, 4, 0, 1] (Γ' := [(23, .int .i64 (((k + 1) : Nat) : Int)), (22, .int .i64 ((xs.length : Nat) : Int)), (7, .slice (some ⟨w1.heap.size, 0, none⟩) ((List.replicate xs.length (0 : Int)).length) xs.length), (6, .map (some w.heap.size)), (5, .int .i64 0), (4, .slice none 0 0), (0, .slice xsa xs.length xsc), (1, .slice ysa ys.length ysc)]) rfl (xs.length - (k + 1)) (by omega) ⟨k + 1, q.set k ((mm.length : Nat) : Int), putM mm (xs.getD k 0, ys.getD k 0) ((mm.length : Nat) : Int), rfl, (UpG.of (G := [[mapC encP (fun a : Int => .int .i64 a) w.heap.size (putM mm (xs.getD k 0, ys.getD k 0) ((mm.length : Nat) : Int))], [rowT (tyI .i64) (.slice (some ⟨w1.heap.size, 0, none⟩) ((List.replicate xs.length (0 : Int)).length) xs.length) 3 (q.set k ((mm.length : Nat) : Int))]]) (Upd.sel H8 (M := [mapC encP (fun a : Int => .int .i64 a) w.heap.size (putM mm (xs.getD k 0, ys.getD k 0) ((mm.length : Nat) : Int)), rowT (tyI .i64) (.slice (some ⟨w1.heap.size, 0, none⟩) ((List.replicate xs.length (0 : Int)).length) xs.length) 3 (q.set k ((mm.length : Nat) : Int))]) (l := [0, 1]) rfl rfl) rfl), (by first | assumption | omega | simp), (by first | exact hq.old (by simp; omega) (zip_getD (by omega) (by omega)) (bn_t c23) | exact hq.new (by simp; omega) (zip_getD (by omega) (by omega)) (bn_f c23)), rfl⟩
      · skip
        refine W.skip (X.then_code ?_)
        refine W.region ?_
        refine WL.op rfl (d_move rfl ?_)
        refine WL.op rfl (d_move rfl ?_)
        refine WL.op rfl (d_move rfl ?_)
        refine WL.op rfl (t_addr1 k (T := (tyI .i64)) rfl Try.underlying22 sz3 rfl rfl (H6.rdT 1 rfl) rfl (by omega) ?_)
        refine WL.op0 (t_store1 k ((getM mm (xs.getD k 0, ys.getD k 0)).getD 0) (T := (tyI .i64)) (e := 3) rfl sz3 rfl rfl rfl (H6.ownT 1 rfl) (by omega) fun w9 u7 => ?_)
        have H9 : UpG w [] w9 [[mapC encP (fun a : Int => .int .i64 a) w.heap.size mm], [rowT (tyI .i64) (.slice (some ⟨w1.heap.size, 0, none⟩) ((List.replicate xs.length (0 : Int)).length) xs.length) 3 (q.set k ((getM mm (xs.getD k 0, ys.getD k 0)).getD 0))], [blk w4.heap.size #[.int .i64 (xs.getD k 0), .int .i64 (ys.getD k 0)] 130]] := H6.on 1 rfl u7
        refine WL.done (X.block_normal (X.then_code ?_))
        refine W.region ?_
        refine WL.op rfl (d_add rfl rfl (by omega) (by omega) ?_)
        refine WL.op rfl (d_move rfl ?_)
        refine WL.done ?_
        exact X.next [23, 22, 7, 6, 5, 4, 0, 1] (Γ' := [(23, .int .i64 (((k + 1) : Nat) : Int)), (22, .int .i64 ((xs.length : Nat) : Int)), (7, .slice (some ⟨w1.heap.size, 0, none⟩) ((List.replicate xs.length (0 : Int)).length) xs.length), (6, .map (some w.heap.size)), (5, .int .i64 0), (4, .slice none 0 0), (0, .slice xsa xs.length xsc), (1, .slice ysa ys.length ysc)]) rfl (xs.length - (k + 1)) (by omega) ⟨k + 1, q.set k ((getM mm (xs.getD k 0, ys.getD k 0)).getD 0), mm, rfl, (UpG.of (G := [[mapC encP (fun a : Int => .int .i64 a) w.heap.size mm], [rowT (tyI .i64) (.slice (some ⟨w1.heap.size, 0, none⟩) ((List.replicate xs.length (0 : Int)).length) xs.length) 3 (q.set k ((getM mm (xs.getD k 0, ys.getD k 0)).getD 0))]]) (Upd.sel H9 (M := [mapC encP (fun a : Int => .int .i64 a) w.heap.size mm, rowT (tyI .i64) (.slice (some ⟨w1.heap.size, 0, none⟩) ((List.replicate xs.length (0 : Int)).length) xs.length) 3 (q.set k ((getM mm (xs.getD k 0, ys.getD k 0)).getD 0))]) (l := [0, 1]) rfl rfl) rfl), (by first | assumption | omega | simp), (by first | exact hq.old (by simp; omega) (zip_getD (by omega) (by omega)) (bn_t c23) | exact hq.new (by simp; omega) (zip_getD (by omega) (by omega)) (bn_f c23)), rfl⟩
    · skip
      refine W.exit (X.then_exit (X.then_exit (X.block_exit (X.then_code ?_))))
      refine W.seq ?_
      refine W.region ?_
      refine WL.op rfl (d_move rfl ?_)
      refine WL.op rfl (d_move rfl ?_)
      refine WL.op rfl (d_lenM (ek := encP) (evl := (fun a : Int => .int .i64 a)) Try.underlying128 rfl (H3.mapAt 0 rfl) ?_)
      refine WL.op rfl (d_assign rfl ?_)
      refine WL.op rfl (d_assign rfl ?_)
      refine WL.done (X.then_code ?_)
      refine W.ret (X.ret2 rfl rfl rfl ?_)
      obtain ⟨e1, e2⟩ := hq.fin (by omega) (by omega)
      rw [e1, e2]
      exact ⟨(some ⟨w1.heap.size, 0, none⟩), xs.length, (by rw [show q.length = (List.replicate xs.length (0 : Int)).length by simp; omega]), (by have h9 := H3.one 1 rfl; rw [show (List.replicate xs.length (0 : Int)).length = q.length by simp; omega] at h9; exact h9)⟩
end Go.Proofs.Ytoeockpkkmgieaa
