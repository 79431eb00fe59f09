/- The walks of functions, printed by wip/tools/gw.py. -/
import Derived.Test.YtoeockpkkmgieaaF2
import Derived.Test.YtoeockpkkmgieaaSx7
import Derived.Test.YtoeockpkkmgieaaS2
import Derived.Test.YtoeockpkkmgieaaSortW
namespace Go.Proofs.Ytoeockpkkmgieaa
open Go Go.Sx
set_option linter.unusedVariables false
set_option linter.unusedSimpArgs false
set_option maxHeartbeats 8000000 in
set_option maxRecDepth 20000 in
theorem pdq_step (da : Option Addr) (xs : List Int) (dc : Nat) (dn : Nat) (aI : Int) (a : Nat) (bI : Int) (b : Nat) (limit : Int) (N : Nat) (w : World) (hp : Hp w [rowT (tyI .u8) (.slice da dn dc) 5 xs]) (e_a : aI = ((a : Nat) : Int)) (e_b : bI = ((b : Nat) : Int)) (hab : a ≤ b ∧ b ≤ xs.length ∧ xs.length ≤ 1000000) (hB : Go.Sort.Below Go.Sort.ltInt a b xs.toArray) (hlim : 0 ≤ limit ∧ limit ≤ 100) (hN : b - a < N + 1) (ih : ∀ (da : Option Addr) (xs : List Int) (dc : Nat) (dn : Nat) (aI : Int) (a : Nat) (bI : Int) (b : Nat) (limit : Int) (w : World) (hp : Hp w [rowT (tyI .u8) (.slice da dn dc) 5 xs]) (e_a : aI = ((a : Nat) : Int)) (e_b : bI = ((b : Nat) : Int)) (hab : a ≤ b ∧ b ≤ xs.length ∧ xs.length ≤ 1000000) (hB : Go.Sort.Below Go.Sort.ltInt a b xs.toArray) (hlim : 0 ≤ limit ∧ limit ≤ 100) (hlt : b - a < N), Calls Try.prog 103 #[.slice da dn dc, .int .i64 aI, .int .i64 bI, .int .i64 limit] w (Ret fun v w' => ∃ zs : List Int, v = .tuple #[] ∧ Upd w [rowT (tyI .u8) (.slice da dn dc) 5 xs] w' [rowT (tyI .u8) (.slice da dn dc) 5 zs] ∧ (Go.Sort.PermIn a b xs.toArray zs.toArray ∧ Go.Sort.SortedIn Go.Sort.ltInt a b zs.toArray))) :
    Calls Try.prog 103 #[.slice da dn dc, .int .i64 aI, .int .i64 bI, .int .i64 limit] w (Ret fun v w' => ∃ zs : List Int, v = .tuple #[] ∧ Upd w [rowT (tyI .u8) (.slice da dn dc) 5 xs] w' [rowT (tyI .u8) (.slice da dn dc) 5 zs] ∧ (Go.Sort.PermIn a b xs.toArray zs.toArray ∧ Go.Sort.SortedIn Go.Sort.ltInt a b zs.toArray)) := by
  subst e_a
  subst e_b
  have hn := (hp_rdT hp (List.mem_of_getElem? (i := 0) rfl)).len
  refine calls_of_W (args := [.slice da dn dc, .int .i64 ((a : Nat) : Int), .int .i64 ((b : Nat) : Int), .int .i64 limit]) Try.func103 rfl rfl rfl ?_
  have H0 : UpG w [rowT (tyI .u8) (.slice da dn dc) 5 xs] w [[rowT (tyI .u8) (.slice da dn dc) 5 xs]] := (UpG.refl hp).re rfl
  show W _ _ _ _ [(0, .slice da dn dc), (1, .int .i64 ((a : Nat) : Int)), (2, .int .i64 ((b : Nat) : Int)), (3, .int .i64 limit)] w
  refine W.seq ?_
  refine W.region ?_
  refine WL.op rfl (d_assign rfl ?_)
  refine WL.done (X.then_code ?_)
  refine W.seq ?_
  refine W.region ?_
  refine WL.op rfl (d_assign rfl ?_)
  refine WL.done (X.then_code ?_)
  refine W.block ?_
  refine W.pick [9, 8, 0, 1, 2, 3] (Γ' := [(9, .bool true), (8, .bool true), (0, .slice da dn dc), (1, .int .i64 ((a : Nat) : Int)), (2, .int .i64 ((b : Nat) : Int)), (3, .int .i64 limit)]) rfl ?_
  refine W.loop (fun m Γ' w' => ∃ la : Nat, ∃ lb : Nat, ∃ lim : Int, ∃ wb : Bool, ∃ wp : Bool, ∃ ys : List Int, Γ' = [(9, .bool wp), (8, .bool wb), (0, .slice da dn dc), (1, .int .i64 ((la : Nat) : Int)), (2, .int .i64 ((lb : Nat) : Int)), (3, .int .i64 lim)] ∧ UpG w [rowT (tyI .u8) (.slice da dn dc) 5 xs] w' [[rowT (tyI .u8) (.slice da dn dc) 5 ys]] ∧ (la ≤ lb ∧ lb ≤ xs.length ∧ lb - la < N + 1) ∧ (0 ≤ lim ∧ lim ≤ 100) ∧ (ys.length = xs.length) ∧ (Go.Sort.Below Go.Sort.ltInt la lb ys.toArray) ∧ (KK xs a b ys la lb) ∧ m = lb - la) (b - a) ⟨a, b, limit, true, true, xs, rfl, H0, (by omega), (by omega), (by rfl), (by exact hB), (by exact KK.start xs a b), rfl⟩ ?_
  rintro m1 Γ1 w1 ⟨la, lb, lim, wb, wp, ys, rfl, H1, hlab, hlim2, hzys, hBl, hK, rfl⟩
  refine W.block ?_
  refine W.seq ?_
  refine W.region ?_
  refine WL.op rfl (d_move rfl ?_)
  refine WL.op rfl (d_move rfl ?_)
  refine WL.op rfl (d_sub rfl rfl (by omega) (by omega) ?_)
  refine WL.op rfl (d_assign rfl ?_)
  refine WL.done (X.then_code ?_)
  refine W.seq ?_
  refine W.seq ?_
  refine W.region ?_
  refine WL.op rfl (d_move rfl ?_)
  refine WL.op rfl (d_cmp (decide ((((lb : Nat) : Int) - ((la : Nat) : Int)) ≤ (12 : Int))) rfl rfl rfl ?_)
  refine WL.done (X.then_code ?_)
  refine W.ite (p := (((lb : Nat) : Int) - ((la : Nat) : Int)) ≤ (12 : Int)) rfl (fun c74 => ?_) (fun c74 => ?_)
  · skip
    refine W.seq ?_
    refine W.region ?_
    refine WL.op rfl (d_move rfl ?_)
    refine WL.op rfl (d_move rfl ?_)
    refine WL.op rfl (d_move rfl ?_)
    refine WL.op rfl (d_call ok118 rfl (Ret.calls (ins8_any da ys dc dn ((la : Nat) : Int) la ((lb : Nat) : Int) lb w1 (H1.hpOf 0 rfl)  (by omega) (by omega) (by omega)) fun _ w2 p1 => ?_))
    obtain ⟨rfl, u1⟩ := p1
    have H2 : UpG w [rowT (tyI .u8) (.slice da dn dc) 5 xs] w2 [[rowT (tyI .u8) (.slice da dn dc) 5 ((Go.Sort.insertionSort Go.Sort.ltInt ys.toArray la lb).toList)]] := H1.on 0 rfl u1
    refine WL.done (X.then_code ?_)
    refine W.ret (X.then_ret (X.block_ret (X.then_ret (X.block_ret (X.ret0 rfl ?_)))))
    exact ⟨_, rfl, (Upd.sel H2 (l := [0]) rfl rfl), hK.ins (by omega) (by omega)⟩
  · skip
    refine W.skip (X.then_code ?_)
    refine W.seq ?_
    refine W.seq ?_
    refine W.region ?_
    refine WL.op rfl (d_move rfl ?_)
    refine WL.op rfl (d_cmp (decide (lim = (0 : Int))) rfl rfl rfl ?_)
    refine WL.done (X.then_code ?_)
    refine W.ite (p := lim = (0 : Int)) rfl (fun c80 => ?_) (fun c80 => ?_)
    · skip
      refine W.seq ?_
      refine W.region ?_
      refine WL.op rfl (d_move rfl ?_)
      refine WL.op rfl (d_move rfl ?_)
      refine WL.op rfl (d_move rfl ?_)
      refine WL.op rfl (d_call ok119 rfl (Ret.calls (heap8_any da ys dc dn ((la : Nat) : Int) la ((lb : Nat) : Int) lb w1 (H1.hpOf 0 rfl)  (by omega) (by omega) (by omega)) fun _ w3 p2 => ?_))
      obtain ⟨rfl, u2⟩ := p2
      have H3 : UpG w [rowT (tyI .u8) (.slice da dn dc) 5 xs] w3 [[rowT (tyI .u8) (.slice da dn dc) 5 ((Go.Sort.heapSort Go.Sort.ltInt ys.toArray la lb).toList)]] := H1.on 0 rfl u2
      refine WL.done (X.then_code ?_)
      refine W.ret (X.then_ret (X.block_ret (X.then_ret (X.block_ret (X.ret0 rfl ?_)))))
      exact ⟨_, rfl, (Upd.sel H3 (l := [0]) rfl rfl), hK.heap (by omega) (by omega)⟩
    · skip
      refine W.skip (X.then_code ?_)
      refine W.cut (fun Γ' w' => ∃ d1 : List Int, ∃ lm : Int, Γ' = [(10, .int .i64 (((lb : Nat) : Int) - ((la : Nat) : Int))), (9, .bool wp), (8, .bool wb), (0, .slice da dn dc), (1, .int .i64 ((la : Nat) : Int)), (2, .int .i64 ((lb : Nat) : Int)), (3, .int .i64 lm)] ∧ UpG w [rowT (tyI .u8) (.slice da dn dc) 5 xs] w' [[rowT (tyI .u8) (.slice da dn dc) 5 d1]] ∧ (Go.Sort.PermIn la lb ys.toArray d1.toArray) ∧ (0 ≤ lm ∧ lm ≤ 100)) ?_ ?_
      · skip
        refine W.seq ?_
        refine W.region ?_
        refine WL.op rfl (d_move rfl ?_)
        refine WL.op rfl (d_notB rfl ?_)
        refine WL.done (X.then_code ?_)
        refine W.iteB (b := !wb) rfl (fun c86 => ?_) (fun c86 => ?_)
        · skip
          refine W.seq ?_
          refine W.region ?_
          refine WL.op rfl (d_move rfl ?_)
          refine WL.op rfl (d_move rfl ?_)
          refine WL.op rfl (d_move rfl ?_)
          refine WL.op rfl (d_call ok120 rfl (Ret.calls (brk8_any da ys dc dn ((la : Nat) : Int) la ((lb : Nat) : Int) lb w1 (H1.hpOf 0 rfl)  (by omega) (by omega) (by omega)) fun _ w4 p3 => ?_))
          obtain ⟨ys_1, rfl, u3, q1⟩ := p3
          have H4 : UpG w [rowT (tyI .u8) (.slice da dn dc) 5 xs] w4 [[rowT (tyI .u8) (.slice da dn dc) 5 ys_1]] := H1.on 0 rfl u3
          refine WL.done (X.then_code ?_)
          refine W.region ?_
          refine WL.op rfl (d_move rfl ?_)
          refine WL.op rfl (d_sub rfl rfl (by omega) (by omega) ?_)
          refine WL.op rfl (d_assign rfl ?_)
          refine WL.done ?_
          exact X.cut [10, 9, 8, 0, 1, 2, 3] (Γ' := [(10, .int .i64 (((lb : Nat) : Int) - ((la : Nat) : Int))), (9, .bool wp), (8, .bool wb), (0, .slice da dn dc), (1, .int .i64 ((la : Nat) : Int)), (2, .int .i64 ((lb : Nat) : Int)), (3, .int .i64 (lim - 1))]) rfl ⟨ys_1, lim - 1, rfl, H4, (by first | exact q1 | exact Go.Sort.permIn_refl _ _ _), (by omega)⟩
        · skip
          refine W.skip ?_
          exact X.cut [10, 9, 8, 0, 1, 2, 3] (Γ' := [(10, .int .i64 (((lb : Nat) : Int) - ((la : Nat) : Int))), (9, .bool wp), (8, .bool wb), (0, .slice da dn dc), (1, .int .i64 ((la : Nat) : Int)), (2, .int .i64 ((lb : Nat) : Int)), (3, .int .i64 lim)]) rfl ⟨ys, lim, rfl, H1, (by first | exact q1 | exact Go.Sort.permIn_refl _ _ _), (by omega)⟩
      rintro Γ2 w5 ⟨d1, lm, rfl, H5, hP1, hlm⟩
      refine W.seq ?_
      have hl1 : d1.length = xs.length := (PermIn.len hP1).trans hzys
      refine W.region ?_
      refine WL.op rfl (d_move rfl ?_)
      refine WL.op rfl (d_move rfl ?_)
      refine WL.op rfl (d_move rfl ?_)
      refine WL.op rfl (d_call ok121 rfl (Ret.calls (pivot8_any da d1 dc dn ((la : Nat) : Int) la ((lb : Nat) : Int) lb w5 (H5.rdT 0 rfl) (by omega) (by omega) (by omega)) fun _ w6 p4 => ?_))
      obtain ⟨p_1, h_1, rfl, u4, q2⟩ := p4
      have H6 : UpG w [rowT (tyI .u8) (.slice da dn dc) 5 xs] w6 [[rowT (tyI .u8) (.slice da dn dc) 5 d1]] := H5.call u4
      refine WL.op rfl (d_move rfl ?_)
      refine WL.op rfl (d_extract rfl rfl ?_)
      refine WL.op rfl (d_extract rfl rfl ?_)
      refine WL.op rfl (d_assign rfl ?_)
      refine WL.op rfl (d_assign rfl ?_)
      refine WL.done (X.then_code ?_)
      refine W.cut (fun Γ' w' => ∃ d2 : List Int, ∃ pv : Int, ∃ hn_ : Int, Γ' = [(12, .int .i64 hn_), (11, .int .i64 pv), (10, .int .i64 (((lb : Nat) : Int) - ((la : Nat) : Int))), (9, .bool wp), (8, .bool wb), (0, .slice da dn dc), (1, .int .i64 ((la : Nat) : Int)), (2, .int .i64 ((lb : Nat) : Int)), (3, .int .i64 lm)] ∧ UpG w [rowT (tyI .u8) (.slice da dn dc) 5 xs] w' [[rowT (tyI .u8) (.slice da dn dc) 5 d2]] ∧ (Go.Sort.PermIn la lb ys.toArray d2.toArray) ∧ ((la : Int) ≤ pv ∧ pv < (lb : Int))) ?_ ?_
      · skip
        refine W.seq ?_
        refine W.region ?_
        refine WL.op rfl (d_move rfl ?_)
        refine WL.op rfl (d_cmp (decide (h_1 = (2 : Int))) rfl rfl rfl ?_)
        refine WL.done (X.then_code ?_)
        refine W.ite (p := h_1 = (2 : Int)) rfl (fun c92 => ?_) (fun c92 => ?_)
        · skip
          refine W.seq ?_
          refine W.region ?_
          refine WL.op rfl (d_move rfl ?_)
          refine WL.op rfl (d_move rfl ?_)
          refine WL.op rfl (d_move rfl ?_)
          refine WL.op rfl (d_call ok122 rfl (Ret.calls (rev8_any da d1 dc dn ((la : Nat) : Int) la ((lb : Nat) : Int) lb w6 (H6.hpOf 0 rfl)  (by omega) (by omega) (by omega)) fun _ w7 p5 => ?_))
          obtain ⟨rfl, u5⟩ := p5
          have H7 : UpG w [rowT (tyI .u8) (.slice da dn dc) 5 xs] w7 [[rowT (tyI .u8) (.slice da dn dc) 5 ((Go.Sort.reverseRange d1.toArray la lb).toList)]] := H6.on 0 rfl u5
          refine WL.done (X.then_code ?_)
          refine W.seq ?_
          refine W.region ?_
          refine WL.op rfl (d_move rfl ?_)
          refine WL.op rfl (d_sub rfl rfl (by omega) (by omega) ?_)
          refine WL.op rfl (d_move rfl ?_)
          refine WL.op rfl (d_move rfl ?_)
          refine WL.op rfl (d_sub rfl rfl (by omega) (by omega) ?_)
          refine WL.op rfl (d_sub rfl rfl (by omega) (by omega) ?_)
          refine WL.op rfl (d_assign rfl ?_)
          refine WL.done (X.then_code ?_)
          refine W.region ?_
          refine WL.op rfl (d_assign rfl ?_)
          refine WL.done ?_
          exact X.cut [12, 11, 10, 9, 8, 0, 1, 2, 3] (Γ' := [(12, .int .i64 1), (11, .int .i64 ((((lb : Nat) : Int) - 1) - (p_1 - ((la : Nat) : Int)))), (10, .int .i64 (((lb : Nat) : Int) - ((la : Nat) : Int))), (9, .bool wp), (8, .bool wb), (0, .slice da dn dc), (1, .int .i64 ((la : Nat) : Int)), (2, .int .i64 ((lb : Nat) : Int)), (3, .int .i64 lm)]) rfl ⟨(Go.Sort.reverseRange d1.toArray la lb).toList, (((lb : Nat) : Int) - 1) - (p_1 - ((la : Nat) : Int)), 1, rfl, H7, (by first | exact hP1 | exact Go.Sort.permIn_trans _ _ _ _ _ hP1 (rev_perm (by omega) (by omega))), (by omega)⟩
        · skip
          refine W.skip ?_
          exact X.cut [12, 11, 10, 9, 8, 0, 1, 2, 3] (Γ' := [(12, .int .i64 h_1), (11, .int .i64 p_1), (10, .int .i64 (((lb : Nat) : Int) - ((la : Nat) : Int))), (9, .bool wp), (8, .bool wb), (0, .slice da dn dc), (1, .int .i64 ((la : Nat) : Int)), (2, .int .i64 ((lb : Nat) : Int)), (3, .int .i64 lm)]) rfl ⟨d1, p_1, h_1, rfl, H6, (by first | exact hP1 | exact Go.Sort.permIn_trans _ _ _ _ _ hP1 (rev_perm (by omega) (by omega))), (by omega)⟩
      rintro Γ3 w8 ⟨d2, pv, hn_, rfl, H8, hP2, hpv⟩
      have hl2 : d2.length = xs.length := (PermIn.len hP2).trans hzys
      have hB2 := below_perm hBl (by omega) hP2
      have hK2 := hK.perm hP2
      refine W.cut (fun Γ' w' => ∃ d3 : List Int, Γ' = [(11, .int .i64 pv), (10, .int .i64 (((lb : Nat) : Int) - ((la : Nat) : Int))), (9, .bool wp), (8, .bool wb), (0, .slice da dn dc), (1, .int .i64 ((la : Nat) : Int)), (2, .int .i64 ((lb : Nat) : Int)), (3, .int .i64 lm)] ∧ UpG w [rowT (tyI .u8) (.slice da dn dc) 5 xs] w' [[rowT (tyI .u8) (.slice da dn dc) 5 d3]] ∧ (Go.Sort.PermIn la lb d2.toArray d3.toArray)) ?_ ?_
      · skip
        refine W.seq ?_
        refine W.region ?_
        refine WL.op rfl (d_move rfl ?_)
        refine WL.op rfl (d_move rfl ?_)
        refine WL.partB 62 (b := wb) rfl (fun g102 => ?_) (fun g102 => ?_)
        · skip
          refine WL.opG rfl rfl rfl (d_move rfl ?_)
          refine WL.op rfl (d_pick rfl rfl ?_)
          refine WL.op rfl (d_move rfl ?_)
          refine WL.partB 65 (b := wp) rfl (fun g102x => ?_) (fun g102x => ?_)
          · skip
            refine WL.opG rfl rfl rfl (d_move rfl ?_)
            refine WL.opG rfl rfl rfl (d_cmp (decide (hn_ = (1 : Int))) rfl rfl rfl ?_)
            refine WL.op rfl (d_pick rfl rfl ?_)
            refine WL.done (X.then_code ?_)
            refine W.ite (p := hn_ = (1 : Int)) rfl (fun c102 => ?_) (fun c102 => ?_)
            · skip
              refine W.seq ?_
              refine W.region ?_
              refine WL.op rfl (d_move rfl ?_)
              refine WL.op rfl (d_move rfl ?_)
              refine WL.op rfl (d_move rfl ?_)
              refine WL.op rfl (d_call ok123 rfl (Ret.calls (pins8_any da d2 dc dn ((la : Nat) : Int) la ((lb : Nat) : Int) lb w8 (H8.hpOf 0 rfl)  (by omega) (by omega) (by omega)) fun _ w9 p6 => ?_))
              obtain ⟨rfl, u6⟩ := p6
              have H9 : UpG w [rowT (tyI .u8) (.slice da dn dc) 5 xs] w9 [[rowT (tyI .u8) (.slice da dn dc) 5 ((Go.Sort.partialInsertionSort Go.Sort.ltInt d2.toArray la lb).1.toList)]] := H8.on 0 rfl u6
              refine WL.done (X.then_code ?_)
              refine W.iteB (b := (Go.Sort.partialInsertionSort Go.Sort.ltInt d2.toArray la lb).2) rfl (fun c103 => ?_) (fun c103 => ?_)
              · skip
                refine W.ret (X.then_ret (X.block_ret (X.then_ret (X.block_ret (X.ret0 rfl ?_)))))
                exact ⟨_, rfl, (Upd.sel H9 (l := [0]) rfl rfl), hK2.pins (by omega) (by omega) hB2 c103⟩
              · skip
                refine W.skip ?_
                exact X.cut [11, 10, 9, 8, 0, 1, 2, 3] (Γ' := [(11, .int .i64 pv), (10, .int .i64 (((lb : Nat) : Int) - ((la : Nat) : Int))), (9, .bool wp), (8, .bool wb), (0, .slice da dn dc), (1, .int .i64 ((la : Nat) : Int)), (2, .int .i64 ((lb : Nat) : Int)), (3, .int .i64 lm)]) rfl ⟨(Go.Sort.partialInsertionSort Go.Sort.ltInt d2.toArray la lb).1.toList, rfl, H9, (by first | exact Go.Sort.permIn_refl _ _ _ | exact pins_perm (by omega) (by omega) hB2)⟩
            · skip
              refine W.skip ?_
              exact X.cut [11, 10, 9, 8, 0, 1, 2, 3] (Γ' := [(11, .int .i64 pv), (10, .int .i64 (((lb : Nat) : Int) - ((la : Nat) : Int))), (9, .bool wp), (8, .bool wb), (0, .slice da dn dc), (1, .int .i64 ((la : Nat) : Int)), (2, .int .i64 ((lb : Nat) : Int)), (3, .int .i64 lm)]) rfl ⟨d2, rfl, H8, (by first | exact Go.Sort.permIn_refl _ _ _ | exact pins_perm (by omega) (by omega) hB2)⟩
          · skip
            refine WL.opN rfl rfl rfl rfl ?_
            refine WL.opN rfl rfl rfl rfl ?_
            refine WL.op rfl (d_pick rfl rfl ?_)
            refine WL.done (X.then_code ?_)
            refine W.iff rfl ?_
            refine W.skip ?_
            exact X.cut [11, 10, 9, 8, 0, 1, 2, 3] (Γ' := [(11, .int .i64 pv), (10, .int .i64 (((lb : Nat) : Int) - ((la : Nat) : Int))), (9, .bool wp), (8, .bool wb), (0, .slice da dn dc), (1, .int .i64 ((la : Nat) : Int)), (2, .int .i64 ((lb : Nat) : Int)), (3, .int .i64 lm)]) rfl ⟨d2, rfl, H8, (by first | exact Go.Sort.permIn_refl _ _ _ | exact pins_perm (by omega) (by omega) hB2)⟩
        · skip
          refine WL.opN rfl rfl rfl rfl ?_
          refine WL.op rfl (d_pick rfl rfl ?_)
          refine WL.op rfl (d_move rfl ?_)
          refine WL.opN rfl rfl rfl rfl ?_
          refine WL.opN rfl rfl rfl rfl ?_
          refine WL.op rfl (d_pick rfl rfl ?_)
          refine WL.done (X.then_code ?_)
          refine W.iff rfl ?_
          refine W.skip ?_
          exact X.cut [11, 10, 9, 8, 0, 1, 2, 3] (Γ' := [(11, .int .i64 pv), (10, .int .i64 (((lb : Nat) : Int) - ((la : Nat) : Int))), (9, .bool wp), (8, .bool wb), (0, .slice da dn dc), (1, .int .i64 ((la : Nat) : Int)), (2, .int .i64 ((lb : Nat) : Int)), (3, .int .i64 lm)]) rfl ⟨d2, rfl, H8, (by first | exact Go.Sort.permIn_refl _ _ _ | exact pins_perm (by omega) (by omega) hB2)⟩
      rintro Γ4 w10 ⟨d3, rfl, H10, hP3⟩
      have hl3 : d3.length = xs.length := (PermIn.len hP3).trans hl2
      have hB3 := below_perm hB2 (by omega) hP3
      have hK3 := hK2.perm hP3
      refine W.cut (fun Γ' w' => Γ' = [(11, .int .i64 pv), (10, .int .i64 (((lb : Nat) : Int) - ((la : Nat) : Int))), (0, .slice da dn dc), (1, .int .i64 ((la : Nat) : Int)), (2, .int .i64 ((lb : Nat) : Int)), (3, .int .i64 lm)] ∧ UpG w [rowT (tyI .u8) (.slice da dn dc) 5 xs] w' [[rowT (tyI .u8) (.slice da dn dc) 5 d3]]) ?_ ?_
      · skip
        refine W.seq ?_
        refine W.regionD mixed (by kernel_rfl) fun hok1 w11 k1 => ?_
        have H11 : UpG w [rowT (tyI .u8) (.slice da dn dc) 5 xs] w11 [[rowT (tyI .u8) (.slice da dn dc) 5 d3]] := H10.kept k1
        refine WD.take hok1 0 (.int .i64 ((la : Nat) : Int)) (fun _ => True) rfl rfl rfl rfl rfl trivial (.inl ⟨rfl, fun _ _ => d_move rfl ⟨rfl, rfl⟩⟩) ?_
        refine WD.take hok1 1 (.bool (decide (((la : Nat) : Int) > (0 : Int)))) (fun _ => True) rfl rfl rfl rfl rfl trivial (.inl ⟨rfl, fun _ _ => d_cmp (decide (((la : Nat) : Int) > (0 : Int))) rfl rfl rfl ⟨rfl, rfl⟩⟩) ?_
        refine WD.take hok1 2 (.bool (decide (((la : Nat) : Int) > (0 : Int)))) (fun _ => True) rfl rfl rfl rfl rfl trivial (.inl ⟨rfl, fun _ _ => d_move rfl ⟨rfl, rfl⟩⟩) ?_
        refine WD.part 75 (p := ((la : Nat) : Int) > (0 : Int)) rfl (fun g110 => ?_) (fun g110 => ?_)
        · skip
          refine WD.take hok1 3 (.slice da dn dc) (fun _ => True) rfl rfl rfl rfl rfl trivial (.inl ⟨rfl, fun _ _ => d_move rfl ⟨rfl, rfl⟩⟩) ?_
          refine WD.take hok1 4 (.int .i64 ((la : Nat) : Int)) (fun _ => True) rfl rfl rfl rfl rfl trivial (.inl ⟨rfl, fun _ _ => d_move rfl ⟨rfl, rfl⟩⟩) ?_
          refine WD.take hok1 5 (.int .i64 (((la : Nat) : Int) - 1)) (fun _ => True) rfl rfl rfl rfl rfl trivial (.inl ⟨rfl, fun _ _ => d_sub rfl rfl (by omega) (by omega) ⟨rfl, rfl⟩⟩) ?_
          refine WD.take hok1 6 (elemPtr (.slice da dn dc) ((((la : Nat) : Int) - 1).toNat)) (fun w' => RdT (tyI .u8) w' (.slice da dn dc) d3) rfl rfl rfl rfl rfl (H11.rdT 0 rfl) (.inl ⟨rfl, fun _ hC => t_addr1 ((((la : Nat) : Int) - 1).toNat) (T := (tyI .u8)) rfl Try.underlying85 sz5 rfl rfl hC (by omega) (by omega) ⟨rfl, rfl⟩⟩) ?_
          refine WD.take hok1 7 (.int .u8 (d3.getD ((((la : Nat) : Int) - 1).toNat) 0)) (fun w' => RdT (tyI .u8) w' (.slice da dn dc) d3) rfl rfl rfl rfl rfl (H11.rdT 0 rfl) (.inl ⟨rfl, fun _ hC => t_load1 ((((la : Nat) : Int) - 1).toNat) 0 (T := (tyI .u8)) rfl Try.underlying5 rfl rfl hC (by omega) rfl ⟨rfl, rfl⟩⟩) ?_
          refine WD.take hok1 8 (.slice da dn dc) (fun _ => True) rfl rfl rfl rfl rfl trivial (.inl ⟨rfl, fun _ _ => d_move rfl ⟨rfl, rfl⟩⟩) ?_
          refine WD.take hok1 9 (.int .i64 pv) (fun _ => True) rfl rfl rfl rfl rfl trivial (.inl ⟨rfl, fun _ _ => d_move rfl ⟨rfl, rfl⟩⟩) ?_
          refine WD.take hok1 10 (elemPtr (.slice da dn dc) pv.toNat) (fun w' => RdT (tyI .u8) w' (.slice da dn dc) d3) rfl rfl rfl rfl rfl (H11.rdT 0 rfl) (.inl ⟨rfl, fun _ hC => t_addr1 pv.toNat (T := (tyI .u8)) rfl Try.underlying85 sz5 rfl rfl hC (by omega) (by omega) ⟨rfl, rfl⟩⟩) ?_
          refine WD.take hok1 11 (.int .u8 (d3.getD pv.toNat 0)) (fun w' => RdT (tyI .u8) w' (.slice da dn dc) d3) rfl rfl rfl rfl rfl (H11.rdT 0 rfl) (.inl ⟨rfl, fun _ hC => t_load1 pv.toNat 0 (T := (tyI .u8)) rfl Try.underlying5 rfl rfl hC (by omega) rfl ⟨rfl, rfl⟩⟩) ?_
          refine WD.loud hok1 12 rfl (⟨_, [], rfl, rfl, rfl, rfl, rfl, rfl, d_call ok124 rfl (Ret.calls (less8_any (d3.getD ((((la : Nat) : Int) - 1).toNat) 0) (d3.getD pv.toNat 0) w11  ) fun _ w12 p7 => ?_)⟩)
          obtain ⟨rfl, u7⟩ := p7
          have H12 : UpG w [rowT (tyI .u8) (.slice da dn dc) 5 xs] w12 [[rowT (tyI .u8) (.slice da dn dc) 5 d3]] := H11.call u7
          refine ⟨trivial, ?_⟩
          refine WD.take hok1 13 (.bool (decide (¬ ((d3.getD ((((la : Nat) : Int) - 1).toNat) 0) < (d3.getD pv.toNat 0))))) (fun _ => True) rfl rfl rfl rfl rfl trivial (.inl ⟨rfl, fun _ _ => d_not (p := (d3.getD ((((la : Nat) : Int) - 1).toNat) 0) < (d3.getD pv.toNat 0)) rfl ⟨rfl, rfl⟩⟩) ?_
          refine WD.take hok1 14 (.bool (decide (¬ ((d3.getD ((((la : Nat) : Int) - 1).toNat) 0) < (d3.getD pv.toNat 0))))) (fun _ => True) rfl rfl rfl rfl rfl trivial (.inl ⟨rfl, fun _ _ => d_pick rfl rfl ⟨rfl, rfl⟩⟩) ?_
          refine WD.done hok1 rfl (X.then_code ?_)
          refine W.ite (p := ¬ ((d3.getD ((((la : Nat) : Int) - 1).toNat) 0) < (d3.getD pv.toNat 0))) rfl (fun c110 => ?_) (fun c110 => ?_)
          · skip
            refine W.seq ?_
            have hre := hK3.eq (p := pv.toNat) (by omega) (by omega) (by omega) (by omega) hB3 (by simpa using c110)
            refine W.region ?_
            refine WL.op rfl (d_move rfl ?_)
            refine WL.op rfl (d_move rfl ?_)
            refine WL.op rfl (d_move rfl ?_)
            refine WL.op rfl (d_move rfl ?_)
            refine WL.op rfl (d_call ok125 rfl (Ret.calls (peq8_any da d3 dc dn ((la : Nat) : Int) la ((lb : Nat) : Int) lb pv pv.toNat w12 (H12.hpOf 0 rfl)  (by omega) (by omega) (by omega) (by omega)) fun _ w13 p8 => ?_))
            obtain ⟨rfl, u8⟩ := p8
            have H13 : UpG w [rowT (tyI .u8) (.slice da dn dc) 5 xs] w13 [[rowT (tyI .u8) (.slice da dn dc) 5 ((Go.Sort.partitionEqual Go.Sort.ltInt d3.toArray la lb pv.toNat).2.toList)]] := H12.on 0 rfl u8
            refine WL.op rfl (d_assign rfl ?_)
            refine WL.done (X.then_code ?_)
            refine W.seq ?_
            refine W.region ?_
            refine WL.op rfl (d_move rfl ?_)
            refine WL.op rfl (d_assign rfl ?_)
            refine WL.done (X.then_code ?_)
            refine W.exit (X.then_exit (X.block_exit ?_))
            exact X.next [9, 8, 0, 1, 2, 3] (Γ' := [(9, .bool wp), (8, .bool wb), (0, .slice da dn dc), (1, .int .i64 ((((Go.Sort.partitionEqual Go.Sort.ltInt d3.toArray la lb pv.toNat).1) : Nat) : Int)), (2, .int .i64 ((lb : Nat) : Int)), (3, .int .i64 lm)]) rfl (lb - ((Go.Sort.partitionEqual Go.Sort.ltInt d3.toArray la lb pv.toNat).1)) (by first | omega | (have := hre.1; have := hre.2.1; omega)) ⟨(Go.Sort.partitionEqual Go.Sort.ltInt d3.toArray la lb pv.toNat).1, lb, lm, wb, wp, (Go.Sort.partitionEqual Go.Sort.ltInt d3.toArray la lb pv.toNat).2.toList, rfl, H13, (by first | omega | (have := hre.1; have := hre.2.1; omega)), (by omega), (by first | exact (hre.2.2.1).trans hl3 | exact (PermIn.len hih1.1).trans (hr3.trans hl3) | exact (PermIn.len hih2.1).trans (hr3.trans hl3)), (by first | exact hre.2.2.2.1 | exact (hr6 _ hih1.1 hih1.2).1 | exact (hr7 _ hih1.1 hih1.2).1 | exact (hr6 _ hih2.1 hih2.2).1 | exact (hr7 _ hih2.1 hih2.2).1), (by first | exact hre.2.2.2.2 | exact (hr6 _ hih1.1 hih1.2).2 | exact (hr7 _ hih1.1 hih1.2).2 | exact (hr6 _ hih2.1 hih2.2).2 | exact (hr7 _ hih2.1 hih2.2).2), rfl⟩
          · skip
            refine W.skip ?_
            exact X.cut [11, 10, 0, 1, 2, 3] (Γ' := [(11, .int .i64 pv), (10, .int .i64 (((lb : Nat) : Int) - ((la : Nat) : Int))), (0, .slice da dn dc), (1, .int .i64 ((la : Nat) : Int)), (2, .int .i64 ((lb : Nat) : Int)), (3, .int .i64 lm)]) rfl ⟨rfl, H12⟩
        · skip
          refine WD.take hok1 3 undef (fun _ => True) rfl rfl rfl rfl rfl trivial (.inr ⟨rfl, rfl⟩) ?_
          refine WD.take hok1 4 undef (fun _ => True) rfl rfl rfl rfl rfl trivial (.inr ⟨rfl, rfl⟩) ?_
          refine WD.take hok1 5 undef (fun _ => True) rfl rfl rfl rfl rfl trivial (.inr ⟨rfl, rfl⟩) ?_
          refine WD.take hok1 6 undef (fun _ => True) rfl rfl rfl rfl rfl trivial (.inr ⟨rfl, rfl⟩) ?_
          refine WD.take hok1 7 undef (fun _ => True) rfl rfl rfl rfl rfl trivial (.inr ⟨rfl, rfl⟩) ?_
          refine WD.take hok1 8 undef (fun _ => True) rfl rfl rfl rfl rfl trivial (.inr ⟨rfl, rfl⟩) ?_
          refine WD.take hok1 9 undef (fun _ => True) rfl rfl rfl rfl rfl trivial (.inr ⟨rfl, rfl⟩) ?_
          refine WD.take hok1 10 undef (fun _ => True) rfl rfl rfl rfl rfl trivial (.inr ⟨rfl, rfl⟩) ?_
          refine WD.take hok1 11 undef (fun _ => True) rfl rfl rfl rfl rfl trivial (.inr ⟨rfl, rfl⟩) ?_
          refine WD.take hok1 12 undef (fun _ => True) rfl rfl rfl rfl rfl trivial (.inr ⟨rfl, rfl⟩) ?_
          refine WD.take hok1 13 undef (fun _ => True) rfl rfl rfl rfl rfl trivial (.inr ⟨rfl, rfl⟩) ?_
          refine WD.take hok1 14 (.bool false) (fun _ => True) rfl rfl rfl rfl rfl trivial (.inl ⟨rfl, fun _ _ => d_pick rfl rfl ⟨rfl, rfl⟩⟩) ?_
          refine WD.done hok1 rfl (X.then_code ?_)
          refine W.iff rfl ?_
          refine W.skip ?_
          exact X.cut [11, 10, 0, 1, 2, 3] (Γ' := [(11, .int .i64 pv), (10, .int .i64 (((lb : Nat) : Int) - ((la : Nat) : Int))), (0, .slice da dn dc), (1, .int .i64 ((la : Nat) : Int)), (2, .int .i64 ((lb : Nat) : Int)), (3, .int .i64 lm)]) rfl ⟨rfl, H11⟩
      rintro Γ5 w14 ⟨rfl, H14⟩
      refine W.seq ?_
      refine W.region ?_
      refine WL.op rfl (d_move rfl ?_)
      refine WL.op rfl (d_move rfl ?_)
      refine WL.op rfl (d_move rfl ?_)
      refine WL.op rfl (d_move rfl ?_)
      refine WL.op rfl (d_call ok126 rfl (Ret.calls (part8_any da d3 dc dn ((la : Nat) : Int) la ((lb : Nat) : Int) lb pv pv.toNat w14 (H14.hpOf 0 rfl)  (by omega) (by omega) (by omega) (by omega)) fun _ w15 p9 => ?_))
      obtain ⟨rfl, u9⟩ := p9
      have H15 : UpG w [rowT (tyI .u8) (.slice da dn dc) 5 xs] w15 [[rowT (tyI .u8) (.slice da dn dc) 5 ((Go.Sort.partition Go.Sort.ltInt d3.toArray la lb pv.toNat).2.2.toList)]] := H14.on 0 rfl u9
      refine WL.op rfl (d_move rfl ?_)
      refine WL.op rfl (d_extract rfl rfl ?_)
      refine WL.op rfl (d_extract rfl rfl ?_)
      refine WL.op rfl (d_assign rfl ?_)
      refine WL.op rfl (d_assign rfl ?_)
      refine WL.done (X.then_code ?_)
      refine W.seq ?_
      have hrp := hK3.part (p := pv.toNat) (by omega) (by omega) (by omega) hB3
      obtain ⟨hr1, hr2, hr3, hr4, hr5, hr6, hr7⟩ := hrp
      refine W.region ?_
      refine WL.op rfl (d_move rfl ?_)
      refine WL.op rfl (d_assign rfl ?_)
      refine WL.done (X.then_code ?_)
      refine W.seq ?_
      refine W.region ?_
      refine WL.op rfl (d_move rfl ?_)
      refine WL.op rfl (d_move rfl ?_)
      refine WL.op rfl (d_sub rfl rfl (by omega) (by omega) ?_)
      refine WL.op rfl (d_move rfl ?_)
      refine WL.op rfl (d_move rfl ?_)
      refine WL.op rfl (d_sub rfl rfl (by omega) (by omega) ?_)
      refine WL.op rfl (d_assign rfl ?_)
      refine WL.op rfl (d_assign rfl ?_)
      refine WL.done (X.then_code ?_)
      refine W.seq ?_
      refine W.region ?_
      refine WL.op rfl (d_move rfl ?_)
      refine WL.op rfl (d_quo rfl rfl (by omega) (by omega) (by omega) ?_)
      refine WL.op rfl (d_assign rfl ?_)
      refine WL.done (X.then_code ?_)
      refine W.seq ?_
      refine W.region ?_
      refine WL.op rfl (d_move rfl ?_)
      refine WL.op rfl (d_move rfl ?_)
      refine WL.op rfl (d_cmp (decide (((((Go.Sort.partition Go.Sort.ltInt d3.toArray la lb pv.toNat).1 : Nat) : Int) - ((la : Nat) : Int)) < (((lb : Nat) : Int) - (((Go.Sort.partition Go.Sort.ltInt d3.toArray la lb pv.toNat).1 : Nat) : Int)))) rfl rfl rfl ?_)
      refine WL.done (X.then_code ?_)
      refine W.pick [113, 18, 17, 16, 9, 14, 0, 1, 2, 3] (Γ' := [(113, .bool (decide (((((Go.Sort.partition Go.Sort.ltInt d3.toArray la lb pv.toNat).1 : Nat) : Int) - ((la : Nat) : Int)) < (((lb : Nat) : Int) - (((Go.Sort.partition Go.Sort.ltInt d3.toArray la lb pv.toNat).1 : Nat) : Int))))), (18, .int .i64 ((((lb : Nat) : Int) - ((la : Nat) : Int)) / 8)), (17, .int .i64 (((lb : Nat) : Int) - (((Go.Sort.partition Go.Sort.ltInt d3.toArray la lb pv.toNat).1 : Nat) : Int))), (16, .int .i64 ((((Go.Sort.partition Go.Sort.ltInt d3.toArray la lb pv.toNat).1 : Nat) : Int) - ((la : Nat) : Int))), (9, .bool ((Go.Sort.partition Go.Sort.ltInt d3.toArray la lb pv.toNat).2.1)), (14, .int .i64 (((Go.Sort.partition Go.Sort.ltInt d3.toArray la lb pv.toNat).1 : Nat) : Int)), (0, .slice da dn dc), (1, .int .i64 ((la : Nat) : Int)), (2, .int .i64 ((lb : Nat) : Int)), (3, .int .i64 lm)]) rfl ?_
      refine W.ite (p := ((((Go.Sort.partition Go.Sort.ltInt d3.toArray la lb pv.toNat).1 : Nat) : Int) - ((la : Nat) : Int)) < (((lb : Nat) : Int) - (((Go.Sort.partition Go.Sort.ltInt d3.toArray la lb pv.toNat).1 : Nat) : Int))) rfl (fun c121 => ?_) (fun c121 => ?_)
      · skip
        refine W.seq ?_
        refine W.region ?_
        refine WL.op rfl (d_move rfl ?_)
        refine WL.op rfl (d_move rfl ?_)
        refine WL.op rfl (d_cmp (decide (((((Go.Sort.partition Go.Sort.ltInt d3.toArray la lb pv.toNat).1 : Nat) : Int) - ((la : Nat) : Int)) ≥ ((((lb : Nat) : Int) - ((la : Nat) : Int)) / 8))) rfl rfl rfl ?_)
        refine WL.op rfl (d_assign rfl ?_)
        refine WL.done (X.then_code ?_)
        refine W.seq ?_
        refine W.region ?_
        refine WL.op rfl (d_move rfl ?_)
        refine WL.op rfl (d_move rfl ?_)
        refine WL.op rfl (d_move rfl ?_)
        refine WL.op rfl (d_move rfl ?_)
        refine WL.op rfl (d_call ok103 rfl (Ret.calls (ih da ((Go.Sort.partition Go.Sort.ltInt d3.toArray la lb pv.toNat).2.2.toList) dc dn ((la : Nat) : Int) la (((Go.Sort.partition Go.Sort.ltInt d3.toArray la lb pv.toNat).1 : Nat) : Int) ((Go.Sort.partition Go.Sort.ltInt d3.toArray la lb pv.toNat).1) lm w15 (H15.hpOf 0 rfl)  (by omega) (by omega) (by omega) (by first | exact hr4 | exact hr5) (by omega) (by omega)) fun _ w16 p10 => ?_))
        obtain ⟨zs_1, rfl, u10, hih1⟩ := p10
        have H16 : UpG w [rowT (tyI .u8) (.slice da dn dc) 5 xs] w16 [[rowT (tyI .u8) (.slice da dn dc) 5 zs_1]] := H15.on 0 rfl u10
        refine WL.done (X.then_code ?_)
        refine W.region ?_
        refine WL.op rfl (d_move rfl ?_)
        refine WL.op rfl (d_add rfl rfl (by omega) (by omega) ?_)
        refine WL.op rfl (d_assign rfl ?_)
        refine WL.done (X.block_normal ?_)
        exact X.next [9, 8, 0, 1, 2, 3] (Γ' := [(9, .bool ((Go.Sort.partition Go.Sort.ltInt d3.toArray la lb pv.toNat).2.1)), (8, .bool (decide (((((Go.Sort.partition Go.Sort.ltInt d3.toArray la lb pv.toNat).1 : Nat) : Int) - ((la : Nat) : Int)) ≥ ((((lb : Nat) : Int) - ((la : Nat) : Int)) / 8)))), (0, .slice da dn dc), (1, .int .i64 (((((Go.Sort.partition Go.Sort.ltInt d3.toArray la lb pv.toNat).1) + 1) : Nat) : Int)), (2, .int .i64 ((lb : Nat) : Int)), (3, .int .i64 lm)]) rfl (lb - (((Go.Sort.partition Go.Sort.ltInt d3.toArray la lb pv.toNat).1) + 1)) (by first | omega | (have := hre.1; have := hre.2.1; omega)) ⟨((Go.Sort.partition Go.Sort.ltInt d3.toArray la lb pv.toNat).1) + 1, lb, lm, decide (((((Go.Sort.partition Go.Sort.ltInt d3.toArray la lb pv.toNat).1 : Nat) : Int) - ((la : Nat) : Int)) ≥ ((((lb : Nat) : Int) - ((la : Nat) : Int)) / 8)), (Go.Sort.partition Go.Sort.ltInt d3.toArray la lb pv.toNat).2.1, zs_1, rfl, H16, (by first | omega | (have := hre.1; have := hre.2.1; omega)), (by omega), (by first | exact (hre.2.2.1).trans hl3 | exact (PermIn.len hih1.1).trans (hr3.trans hl3) | exact (PermIn.len hih2.1).trans (hr3.trans hl3)), (by first | exact hre.2.2.2.1 | exact (hr6 _ hih1.1 hih1.2).1 | exact (hr7 _ hih1.1 hih1.2).1 | exact (hr6 _ hih2.1 hih2.2).1 | exact (hr7 _ hih2.1 hih2.2).1), (by first | exact hre.2.2.2.2 | exact (hr6 _ hih1.1 hih1.2).2 | exact (hr7 _ hih1.1 hih1.2).2 | exact (hr6 _ hih2.1 hih2.2).2 | exact (hr7 _ hih2.1 hih2.2).2), rfl⟩
      · skip
        refine W.seq ?_
        refine W.region ?_
        refine WL.op rfl (d_move rfl ?_)
        refine WL.op rfl (d_move rfl ?_)
        refine WL.op rfl (d_cmp (decide ((((lb : Nat) : Int) - (((Go.Sort.partition Go.Sort.ltInt d3.toArray la lb pv.toNat).1 : Nat) : Int)) ≥ ((((lb : Nat) : Int) - ((la : Nat) : Int)) / 8))) rfl rfl rfl ?_)
        refine WL.op rfl (d_assign rfl ?_)
        refine WL.done (X.then_code ?_)
        refine W.seq ?_
        refine W.region ?_
        refine WL.op rfl (d_move rfl ?_)
        refine WL.op rfl (d_move rfl ?_)
        refine WL.op rfl (d_add rfl rfl (by omega) (by omega) ?_)
        refine WL.op rfl (d_move rfl ?_)
        refine WL.op rfl (d_move rfl ?_)
        refine WL.op rfl (d_call ok103 rfl (Ret.calls (ih da ((Go.Sort.partition Go.Sort.ltInt d3.toArray la lb pv.toNat).2.2.toList) dc dn ((((Go.Sort.partition Go.Sort.ltInt d3.toArray la lb pv.toNat).1 : Nat) : Int) + 1) (((Go.Sort.partition Go.Sort.ltInt d3.toArray la lb pv.toNat).1) + 1) ((lb : Nat) : Int) lb lm w15 (H15.hpOf 0 rfl)  (by omega) (by omega) (by omega) (by first | exact hr4 | exact hr5) (by omega) (by omega)) fun _ w17 p11 => ?_))
        obtain ⟨zs_2, rfl, u11, hih2⟩ := p11
        have H17 : UpG w [rowT (tyI .u8) (.slice da dn dc) 5 xs] w17 [[rowT (tyI .u8) (.slice da dn dc) 5 zs_2]] := H15.on 0 rfl u11
        refine WL.done (X.then_code ?_)
        refine W.region ?_
        refine WL.op rfl (d_move rfl ?_)
        refine WL.op rfl (d_assign rfl ?_)
        refine WL.done (X.block_normal ?_)
        exact X.next [9, 8, 0, 1, 2, 3] (Γ' := [(9, .bool ((Go.Sort.partition Go.Sort.ltInt d3.toArray la lb pv.toNat).2.1)), (8, .bool (decide ((((lb : Nat) : Int) - (((Go.Sort.partition Go.Sort.ltInt d3.toArray la lb pv.toNat).1 : Nat) : Int)) ≥ ((((lb : Nat) : Int) - ((la : Nat) : Int)) / 8)))), (0, .slice da dn dc), (1, .int .i64 ((la : Nat) : Int)), (2, .int .i64 ((((Go.Sort.partition Go.Sort.ltInt d3.toArray la lb pv.toNat).1) : Nat) : Int)), (3, .int .i64 lm)]) rfl (((Go.Sort.partition Go.Sort.ltInt d3.toArray la lb pv.toNat).1) - la) (by first | omega | (have := hre.1; have := hre.2.1; omega)) ⟨la, (Go.Sort.partition Go.Sort.ltInt d3.toArray la lb pv.toNat).1, lm, decide ((((lb : Nat) : Int) - (((Go.Sort.partition Go.Sort.ltInt d3.toArray la lb pv.toNat).1 : Nat) : Int)) ≥ ((((lb : Nat) : Int) - ((la : Nat) : Int)) / 8)), (Go.Sort.partition Go.Sort.ltInt d3.toArray la lb pv.toNat).2.1, zs_2, rfl, H17, (by first | omega | (have := hre.1; have := hre.2.1; omega)), (by omega), (by first | exact (hre.2.2.1).trans hl3 | exact (PermIn.len hih1.1).trans (hr3.trans hl3) | exact (PermIn.len hih2.1).trans (hr3.trans hl3)), (by first | exact hre.2.2.2.1 | exact (hr6 _ hih1.1 hih1.2).1 | exact (hr7 _ hih1.1 hih1.2).1 | exact (hr6 _ hih2.1 hih2.2).1 | exact (hr7 _ hih2.1 hih2.2).1), (by first | exact hre.2.2.2.2 | exact (hr6 _ hih1.1 hih1.2).2 | exact (hr7 _ hih1.1 hih1.2).2 | exact (hr6 _ hih2.1 hih2.2).2 | exact (hr7 _ hih2.1 hih2.2).2), rfl⟩
end Go.Proofs.Ytoeockpkkmgieaa
