/- The walks of functions, printed by wip/tools/gw.py. -/
import Derived.Test.YtoeockpkkmgieaaEqualLeastB1
import Derived.Test.YtoeockpkkmgieaaEqualLeastB4
namespace Go.Proofs.Ytoeockpkkmgieaa
open Go Go.Sx
set_option linter.unusedVariables false
set_option linter.unusedSimpArgs false
set_option maxRecDepth 20000 in
theorem hstep_any (g : Nat) (t : Int) (c : Int) (d : DfaD) (fa : Option Addr) (F : List (LR (LR Int))) (fc : Nat) (fn : Nat) (ba : Option Addr) (bl : List Int) (bc : Nat) (bn : Nat) (ma : Option Addr) (ms : List (LR Int)) (mc : Nat) (mn : Nat) (ta : Option Addr) (td : List (Int × Int)) (tc : Nat) (wa : Option Addr) (wt : List (LR Bool)) (wc : Nat) (wn : Nat) (w : World) (hp : Hp w [blk g #[.slice fa fn fc, .slice ba bn bc, .slice ma mn mc, .slice ta td.length tc, .slice wa wn wc] 117, fromC fa fn fc F, rowT (tyI .i64) (.slice ba bn bc) 3 bl, rowT tyLR (.slice ma mn mc) 22 ms, manyF (inLR (tyI .i64) 3).row ms, rowT tyTk (.slice ta td.length tc) 119 td, rowT tyLR (.slice wa wn wc) 23 wt, manyF (inLR tyB 4).row wt]) (hrt : rightB d = true) (hF : FromP d F) (ht0 : 0 ≤ t ∧ 0 ≤ c) (hop : HopI d bl ms (td ++ [(((t.toNat : Nat) : Int), ((c.toNat : Nat) : Int))]) wt (fun _ _ _ => False)) (htd : td.length ≤ 4000000) :
    Calls Try.prog 84 #[.pointer (some ⟨g, 0, none⟩), .agg #[.int .i64 t, .int .i64 c]] w (Ret fun v w' => ∃ bl2 : List Int, ∃ ma2 : Option Addr, ∃ ms2 : List (LR Int), ∃ mc2 : Nat, ∃ mn2 : Nat, ∃ ta2 : Option Addr, ∃ td2 : List (Int × Int), ∃ tc2 : Nat, ∃ wa2 : Option Addr, ∃ wt2 : List (LR Bool), ∃ wc2 : Nat, ∃ wn2 : Nat, v = .tuple #[] ∧ Upd w [blk g #[.slice fa fn fc, .slice ba bn bc, .slice ma mn mc, .slice ta td.length tc, .slice wa wn wc] 117, fromC fa fn fc F, rowT (tyI .i64) (.slice ba bn bc) 3 bl, rowT tyLR (.slice ma mn mc) 22 ms, manyF (inLR (tyI .i64) 3).row ms, rowT tyTk (.slice ta td.length tc) 119 td, rowT tyLR (.slice wa wn wc) 23 wt, manyF (inLR tyB 4).row wt] w' [blk g #[.slice fa fn fc, .slice ba bn bc, .slice ma2 mn2 mc2, .slice ta2 td2.length tc2, .slice wa2 wn2 wc2] 117, fromC fa fn fc F, rowT (tyI .i64) (.slice ba bn bc) 3 bl2, rowT tyLR (.slice ma2 mn2 mc2) 22 ms2, manyF (inLR (tyI .i64) 3).row ms2, rowT tyTk (.slice ta2 td2.length tc2) 119 td2, rowT tyLR (.slice wa2 wn2 wc2) 23 wt2, manyF (inLR tyB 4).row wt2] ∧ (HopI d bl2 ms2 td2 wt2 (fun _ _ _ => False)) ∧ (ms.length ≤ ms2.length ∧ td2.length + ms.length * (usedI d).length = td.length + ms2.length * (usedI d).length)) := by
  have hri := rightB_iff.1 hrt
  have htb := hop.wait.bd (((t.toNat : Nat) : Int), ((c.toNat : Nat) : Int)) (by simp)
  have htn := (show t.toNat < ms.length by have h9 := htb.1; simp only at h9; omega)
  have hcn := (show c.toNat < (usedI d).length by have h9 := htb.2; simp only at h9; omega)
  have hwr := hop.wait.row t.toNat htn
  have hul := used_len d
  have hFl := hF.len
  have hmb := hop.part.bound
  have hwl := hop.wait.len
  have hblen := hop.part.len
  refine calls_of_W (args := [.pointer (some ⟨g, 0, none⟩), .agg #[.int .i64 t, .int .i64 c]]) Try.func84 rfl rfl rfl ?_
  have H0 : UpG w [blk g #[.slice fa fn fc, .slice ba bn bc, .slice ma mn mc, .slice ta td.length tc, .slice wa wn wc] 117, fromC fa fn fc F, rowT (tyI .i64) (.slice ba bn bc) 3 bl, rowT tyLR (.slice ma mn mc) 22 ms, manyF (inLR (tyI .i64) 3).row ms, rowT tyTk (.slice ta td.length tc) 119 td, rowT tyLR (.slice wa wn wc) 23 wt, manyF (inLR tyB 4).row wt] w [[blk g #[.slice fa fn fc, .slice ba bn bc, .slice ma mn mc, .slice ta td.length tc, .slice wa wn wc] 117], [fromC fa fn fc F], [rowT (tyI .i64) (.slice ba bn bc) 3 bl], [rowT tyLR (.slice ma mn mc) 22 ms], [manyF (inLR (tyI .i64) 3).row ms], [rowT tyTk (.slice ta td.length tc) 119 td], [rowT tyLR (.slice wa wn wc) 23 wt], [manyF (inLR tyB 4).row wt]] := (UpG.refl hp).re rfl
  show W _ _ _ _ [(0, .pointer (some ⟨g, 0, none⟩)), (1, .agg #[.int .i64 t, .int .i64 c])] w
  refine W.seq ?_
  refine W.region ?_
  refine WL.op rfl (d_box rfl fun w1 u1 => ?_)
  have H1 : UpG w [blk g #[.slice fa fn fc, .slice ba bn bc, .slice ma mn mc, .slice ta td.length tc, .slice wa wn wc] 117, fromC fa fn fc F, rowT (tyI .i64) (.slice ba bn bc) 3 bl, rowT tyLR (.slice ma mn mc) 22 ms, manyF (inLR (tyI .i64) 3).row ms, rowT tyTk (.slice ta td.length tc) 119 td, rowT tyLR (.slice wa wn wc) 23 wt, manyF (inLR tyB 4).row wt] w1 [[blk g #[.slice fa fn fc, .slice ba bn bc, .slice ma mn mc, .slice ta td.length tc, .slice wa wn wc] 117], [fromC fa fn fc F], [rowT (tyI .i64) (.slice ba bn bc) 3 bl], [rowT tyLR (.slice ma mn mc) 22 ms], [manyF (inLR (tyI .i64) 3).row ms], [rowT tyTk (.slice ta td.length tc) 119 td], [rowT tyLR (.slice wa wn wc) 23 wt], [manyF (inLR tyB 4).row wt], [blk w.heap.size #[.int .i64 t, .int .i64 c] 119]] := H0.new' u1
  refine WL.done (X.then_code ?_)
  refine W.cut (fun Γ' w' => ∃ w1 : List (LR Bool), Γ' = [(3, .pointer (some ⟨w.heap.size, 0, none⟩)), (0, .pointer (some ⟨g, 0, none⟩))] ∧ UpG w [blk g #[.slice fa fn fc, .slice ba bn bc, .slice ma mn mc, .slice ta td.length tc, .slice wa wn wc] 117, fromC fa fn fc F, rowT (tyI .i64) (.slice ba bn bc) 3 bl, rowT tyLR (.slice ma mn mc) 22 ms, manyF (inLR (tyI .i64) 3).row ms, rowT tyTk (.slice ta td.length tc) 119 td, rowT tyLR (.slice wa wn wc) 23 wt, manyF (inLR tyB 4).row wt] w' [[blk g #[.slice fa fn fc, .slice ba bn bc, .slice ma mn mc, .slice ta td.length tc, .slice wa wn wc] 117], [fromC fa fn fc F], [rowT (tyI .i64) (.slice ba bn bc) 3 bl], [rowT tyLR (.slice ma mn mc) 22 ms], [manyF (inLR (tyI .i64) 3).row ms], [rowT tyTk (.slice ta td.length tc) 119 td], [rowT tyLR (.slice wa wn wc) 23 w1], [manyF (inLR tyB 4).row w1], [blk w.heap.size #[.int .i64 t, .int .i64 c] 119]] ∧ (HopI d bl ms td w1 (TaskE d bl t.toNat c.toNat))) ?_ ?_
  · skip
    refine W.regionD mixed (by kernel_rfl) fun hok1 w2 k1 => ?_
    have H2 : UpG w [blk g #[.slice fa fn fc, .slice ba bn bc, .slice ma mn mc, .slice ta td.length tc, .slice wa wn wc] 117, fromC fa fn fc F, rowT (tyI .i64) (.slice ba bn bc) 3 bl, rowT tyLR (.slice ma mn mc) 22 ms, manyF (inLR (tyI .i64) 3).row ms, rowT tyTk (.slice ta td.length tc) 119 td, rowT tyLR (.slice wa wn wc) 23 wt, manyF (inLR tyB 4).row wt] w2 [[blk g #[.slice fa fn fc, .slice ba bn bc, .slice ma mn mc, .slice ta td.length tc, .slice wa wn wc] 117], [fromC fa fn fc F], [rowT (tyI .i64) (.slice ba bn bc) 3 bl], [rowT tyLR (.slice ma mn mc) 22 ms], [manyF (inLR (tyI .i64) 3).row ms], [rowT tyTk (.slice ta td.length tc) 119 td], [rowT tyLR (.slice wa wn wc) 23 wt], [manyF (inLR tyB 4).row wt], [blk w.heap.size #[.int .i64 t, .int .i64 c] 119]] := H1.kept k1
    refine WD.take hok1 0 (.pointer (some ⟨g, 0, none⟩)) (fun _ => True) rfl rfl rfl rfl rfl trivial (.inl ⟨rfl, fun _ _ => d_move rfl ⟨rfl, rfl⟩⟩) ?_
    refine WD.take hok1 1 (.pointer (some ⟨g, 0, none⟩)) (fun _ => True) rfl rfl rfl rfl rfl trivial (.inl ⟨rfl, fun _ _ => d_nilCheck rfl ⟨rfl, rfl⟩⟩) ?_
    refine WD.take hok1 2 (.pointer (some ⟨g, 4, none⟩)) (fun _ => True) rfl rfl rfl rfl rfl trivial (.inl ⟨rfl, fun _ _ => d_fieldAddrB fld117_4 rfl rfl ⟨rfl, rfl⟩⟩) ?_
    refine WD.take hok1 3 (.slice wa wn wc) (fun w' => w'.heap[g]? = some (.cells #[.slice fa fn fc, .slice ba bn bc, .slice ma mn mc, .slice ta td.length tc, .slice wa wn wc] 117 (0, 0))) rfl rfl rfl rfl rfl (H2.blk 0 rfl) (.inl ⟨rfl, fun _ hC => d_loadB Try.underlying29 rfl rfl hC rfl ⟨rfl, rfl⟩⟩) ?_
    refine WD.take hok1 4 (.pointer (some ⟨w.heap.size, 0, none⟩)) (fun _ => True) rfl rfl rfl rfl rfl trivial (.inl ⟨rfl, fun _ _ => d_fieldAddrB fld119_0 rfl rfl ⟨rfl, rfl⟩⟩) ?_
    refine WD.take hok1 5 (.int .i64 t) (fun w' => w'.heap[w.heap.size]? = some (.cells #[.int .i64 t, .int .i64 c] 119 (0, 0))) rfl rfl rfl rfl rfl (H2.blk 8 rfl) (.inl ⟨rfl, fun _ hC => d_loadB Try.underlying3 rfl rfl hC rfl ⟨rfl, rfl⟩⟩) ?_
    refine WD.take hok1 6 (elemPtr (.slice wa wn wc) t.toNat) (fun w' => RdT tyLR w' (.slice wa wn wc) wt) rfl rfl rfl rfl rfl (H2.rdT 6 rfl) (.inl ⟨rfl, fun _ hC => t_addr1 t.toNat (T := tyLR) rfl Try.underlying29 sz23 rfl rfl hC (by omega) (by omega) ⟨rfl, rfl⟩⟩) ?_
    refine WD.take hok1 7 (.slice ((wt.getD t.toNat lr0).a) ((wt.getD t.toNat lr0).n) ((wt.getD t.toNat lr0).c)) (fun w' => RdT tyLR w' (.slice wa wn wc) wt) rfl rfl rfl rfl rfl (H2.rdT 6 rfl) (.inl ⟨rfl, fun _ hC => t_load1 t.toNat lr0 (T := tyLR) rfl Try.underlying23 rfl rfl hC (by omega) rfl ⟨rfl, rfl⟩⟩) ?_
    refine WD.take hok1 8 (.pointer (some ⟨w.heap.size, 1, none⟩)) (fun _ => True) rfl rfl rfl rfl rfl trivial (.inl ⟨rfl, fun _ _ => d_fieldAddrB fld119_1 rfl rfl ⟨rfl, rfl⟩⟩) ?_
    refine WD.take hok1 9 (.int .i64 c) (fun w' => w'.heap[w.heap.size]? = some (.cells #[.int .i64 t, .int .i64 c] 119 (0, 0))) rfl rfl rfl rfl rfl (H2.blk 8 rfl) (.inl ⟨rfl, fun _ hC => d_loadB Try.underlying3 rfl rfl hC rfl ⟨rfl, rfl⟩⟩) ?_
    refine WD.take hok1 10 (elemPtr (.slice ((wt.getD t.toNat lr0).a) ((wt.getD t.toNat lr0).n) ((wt.getD t.toNat lr0).c)) c.toNat) (fun w' => RdT tyB w' (.slice ((wt.getD t.toNat lr0).a) ((wt.getD t.toNat lr0).n) ((wt.getD t.toNat lr0).c)) ((wt.getD t.toNat lr0).xs)) rfl rfl rfl rfl rfl (show RdT tyB w2 (.slice ((wt.getD t.toNat lr0).a) ((wt.getD t.toNat lr0).n) ((wt.getD t.toNat lr0).c)) ((wt.getD t.toNat lr0).xs) from (Inn.own (H2.hpOf 7 rfl)).get lr0 t.toNat (by omega)) (.inl ⟨rfl, fun _ hC => t_addr1 c.toNat (T := tyB) rfl Try.underlying23 sz4 rfl rfl hC (by omega) (by omega) ⟨rfl, rfl⟩⟩) ?_
    have H3 : UpG w [blk g #[.slice fa fn fc, .slice ba bn bc, .slice ma mn mc, .slice ta td.length tc, .slice wa wn wc] 117, fromC fa fn fc F, rowT (tyI .i64) (.slice ba bn bc) 3 bl, rowT tyLR (.slice ma mn mc) 22 ms, manyF (inLR (tyI .i64) 3).row ms, rowT tyTk (.slice ta td.length tc) 119 td, rowT tyLR (.slice wa wn wc) 23 wt, manyF (inLR tyB 4).row wt] w2 [[blk g #[.slice fa fn fc, .slice ba bn bc, .slice ma mn mc, .slice ta td.length tc, .slice wa wn wc] 117], [fromC fa fn fc F], [rowT (tyI .i64) (.slice ba bn bc) 3 bl], [rowT tyLR (.slice ma mn mc) 22 ms], [manyF (inLR (tyI .i64) 3).row ms], [rowT tyTk (.slice ta td.length tc) 119 td], [rowT tyLR (.slice wa wn wc) 23 wt], [manyF (inLR tyB 4).row (wt.eraseIdx t.toNat)], [blk w.heap.size #[.int .i64 t, .int .i64 c] 119], [rowT tyB (.slice ((wt.getD t.toNat lr0).a) ((wt.getD t.toNat lr0).n) ((wt.getD t.toNat lr0).c)) 4 ((wt.getD t.toNat lr0).xs)]] := H2.takeOut (f := (inLR tyB 4).row) lr0 7 t.toNat rfl (by omega)
    refine WD.loud hok1 11 rfl (⟨_, [], rfl, rfl, rfl, rfl, rfl, rfl, t_store1 c.toNat false (T := tyB) (e := 4) rfl sz4 rfl rfl rfl (H3.ownT 9 rfl) (by omega) fun w3 u2 => ?_⟩)
    have H4 : UpG w [blk g #[.slice fa fn fc, .slice ba bn bc, .slice ma mn mc, .slice ta td.length tc, .slice wa wn wc] 117, fromC fa fn fc F, rowT (tyI .i64) (.slice ba bn bc) 3 bl, rowT tyLR (.slice ma mn mc) 22 ms, manyF (inLR (tyI .i64) 3).row ms, rowT tyTk (.slice ta td.length tc) 119 td, rowT tyLR (.slice wa wn wc) 23 wt, manyF (inLR tyB 4).row wt] w3 [[blk g #[.slice fa fn fc, .slice ba bn bc, .slice ma mn mc, .slice ta td.length tc, .slice wa wn wc] 117], [fromC fa fn fc F], [rowT (tyI .i64) (.slice ba bn bc) 3 bl], [rowT tyLR (.slice ma mn mc) 22 ms], [manyF (inLR (tyI .i64) 3).row ms], [rowT tyTk (.slice ta td.length tc) 119 td], [rowT tyLR (.slice wa wn wc) 23 wt], [manyF (inLR tyB 4).row (wt.eraseIdx t.toNat)], [blk w.heap.size #[.int .i64 t, .int .i64 c] 119], [rowT tyB (.slice ((wt.getD t.toNat lr0).a) ((wt.getD t.toNat lr0).n) ((wt.getD t.toNat lr0).c)) 4 (((wt.getD t.toNat lr0).xs).set c.toNat false)]] := H3.on 9 rfl u2
    have H5 : UpG w [blk g #[.slice fa fn fc, .slice ba bn bc, .slice ma mn mc, .slice ta td.length tc, .slice wa wn wc] 117, fromC fa fn fc F, rowT (tyI .i64) (.slice ba bn bc) 3 bl, rowT tyLR (.slice ma mn mc) 22 ms, manyF (inLR (tyI .i64) 3).row ms, rowT tyTk (.slice ta td.length tc) 119 td, rowT tyLR (.slice wa wn wc) 23 wt, manyF (inLR tyB 4).row wt] w3 [[blk g #[.slice fa fn fc, .slice ba bn bc, .slice ma mn mc, .slice ta td.length tc, .slice wa wn wc] 117], [fromC fa fn fc F], [rowT (tyI .i64) (.slice ba bn bc) 3 bl], [rowT tyLR (.slice ma mn mc) 22 ms], [manyF (inLR (tyI .i64) 3).row ms], [rowT tyTk (.slice ta td.length tc) 119 td], [rowT tyLR (.slice wa wn wc) 23 wt], [manyF (inLR tyB 4).row (wt.set t.toNat ⟨(wt.getD t.toNat lr0).a, (wt.getD t.toNat lr0).n, (wt.getD t.toNat lr0).c, ((wt.getD t.toNat lr0).xs).set c.toNat false⟩)], [blk w.heap.size #[.int .i64 t, .int .i64 c] 119], []] := (H4.putBack (f := (inLR tyB 4).row) ⟨(wt.getD t.toNat lr0).a, (wt.getD t.toNat lr0).n, (wt.getD t.toNat lr0).c, ((wt.getD t.toNat lr0).xs).set c.toNat false⟩ 7 9 t.toNat rfl rfl rfl (by omega)).re rfl
    have H6 : UpG w [blk g #[.slice fa fn fc, .slice ba bn bc, .slice ma mn mc, .slice ta td.length tc, .slice wa wn wc] 117, fromC fa fn fc F, rowT (tyI .i64) (.slice ba bn bc) 3 bl, rowT tyLR (.slice ma mn mc) 22 ms, manyF (inLR (tyI .i64) 3).row ms, rowT tyTk (.slice ta td.length tc) 119 td, rowT tyLR (.slice wa wn wc) 23 wt, manyF (inLR tyB 4).row wt] w3 [[blk g #[.slice fa fn fc, .slice ba bn bc, .slice ma mn mc, .slice ta td.length tc, .slice wa wn wc] 117], [fromC fa fn fc F], [rowT (tyI .i64) (.slice ba bn bc) 3 bl], [rowT tyLR (.slice ma mn mc) 22 ms], [manyF (inLR (tyI .i64) 3).row ms], [rowT tyTk (.slice ta td.length tc) 119 td], [rowT tyLR (.slice wa wn wc) 23 (wt.set t.toNat ⟨(wt.getD t.toNat lr0).a, (wt.getD t.toNat lr0).n, (wt.getD t.toNat lr0).c, ((wt.getD t.toNat lr0).xs).set c.toNat false⟩)], [manyF (inLR tyB 4).row (wt.set t.toNat ⟨(wt.getD t.toNat lr0).a, (wt.getD t.toNat lr0).n, (wt.getD t.toNat lr0).c, ((wt.getD t.toNat lr0).xs).set c.toNat false⟩)], [blk w.heap.size #[.int .i64 t, .int .i64 c] 119], []] := H5.recast (((wt.getD t.toNat lr0).xs).set c.toNat false) 6 t.toNat rfl (by omega)
    refine ⟨trivial, ?_⟩
    refine WD.done hok1 rfl ?_
    exact X.cut [3, 0] (Γ' := [(3, .pointer (some ⟨w.heap.size, 0, none⟩)), (0, .pointer (some ⟨g, 0, none⟩))]) rfl ⟨wt.set t.toNat ⟨(wt.getD t.toNat lr0).a, (wt.getD t.toNat lr0).n, (wt.getD t.toNat lr0).c, ((wt.getD t.toNat lr0).xs).set c.toNat false⟩, rfl, (H6.re rfl), (by exact hop.take hrt (WtSet.mk' (by omega) (by omega)))⟩
  rintro Γ1 w4 ⟨w1, rfl, H7, hop1⟩
  refine W.seq ?_
  refine W.region ?_
  refine WL.op rfl (d_assign rfl ?_)
  refine WL.done (X.then_code ?_)
  refine W.seq ?_
  refine W.region ?_
  refine WL.op rfl (d_makeMap (fun a : Int => .int .i64 a) (fun p : LR Int => .slice p.a p.n p.c) fun w5 u3 => ?_)
  have H8 : UpG w [blk g #[.slice fa fn fc, .slice ba bn bc, .slice ma mn mc, .slice ta td.length tc, .slice wa wn wc] 117, fromC fa fn fc F, rowT (tyI .i64) (.slice ba bn bc) 3 bl, rowT tyLR (.slice ma mn mc) 22 ms, manyF (inLR (tyI .i64) 3).row ms, rowT tyTk (.slice ta td.length tc) 119 td, rowT tyLR (.slice wa wn wc) 23 wt, manyF (inLR tyB 4).row wt] w5 [[blk g #[.slice fa fn fc, .slice ba bn bc, .slice ma mn mc, .slice ta td.length tc, .slice wa wn wc] 117], [fromC fa fn fc F], [rowT (tyI .i64) (.slice ba bn bc) 3 bl], [rowT tyLR (.slice ma mn mc) 22 ms], [manyF (inLR (tyI .i64) 3).row ms], [rowT tyTk (.slice ta td.length tc) 119 td], [rowT tyLR (.slice wa wn wc) 23 w1], [manyF (inLR tyB 4).row w1], [blk w.heap.size #[.int .i64 t, .int .i64 c] 119], [mapC (fun a : Int => .int .i64 a) (fun p : LR Int => .slice p.a p.n p.c) w4.heap.size ([] : List (Int × (LR Int)))]] := H7.new' u3
  refine WL.op rfl (d_assign rfl ?_)
  refine WL.done (X.then_code ?_)
  refine W.seq ?_
  refine W.seq ?_
  have hmt9 := RdT.len (show RdT (tyI .i64) w5 (.slice ((ms.getD t.toNat lr0).a) ((ms.getD t.toNat lr0).n) ((ms.getD t.toNat lr0).c)) ((ms.getD t.toNat lr0).xs) from (Inn.own (H8.hpOf 4 rfl)).get lr0 t.toNat (by omega))
  have hml := hop.part.mlen htn
  unfold mxs at hml
  refine W.regionD mixed (by kernel_rfl) fun hok2 w6 k2 => ?_
  have H9 : UpG w [blk g #[.slice fa fn fc, .slice ba bn bc, .slice ma mn mc, .slice ta td.length tc, .slice wa wn wc] 117, fromC fa fn fc F, rowT (tyI .i64) (.slice ba bn bc) 3 bl, rowT tyLR (.slice ma mn mc) 22 ms, manyF (inLR (tyI .i64) 3).row ms, rowT tyTk (.slice ta td.length tc) 119 td, rowT tyLR (.slice wa wn wc) 23 wt, manyF (inLR tyB 4).row wt] w6 [[blk g #[.slice fa fn fc, .slice ba bn bc, .slice ma mn mc, .slice ta td.length tc, .slice wa wn wc] 117], [fromC fa fn fc F], [rowT (tyI .i64) (.slice ba bn bc) 3 bl], [rowT tyLR (.slice ma mn mc) 22 ms], [manyF (inLR (tyI .i64) 3).row ms], [rowT tyTk (.slice ta td.length tc) 119 td], [rowT tyLR (.slice wa wn wc) 23 w1], [manyF (inLR tyB 4).row w1], [blk w.heap.size #[.int .i64 t, .int .i64 c] 119], [mapC (fun a : Int => .int .i64 a) (fun p : LR Int => .slice p.a p.n p.c) w4.heap.size ([] : List (Int × (LR Int)))]] := H8.kept k2
  refine WD.take hok2 0 (.pointer (some ⟨g, 0, none⟩)) (fun _ => True) rfl rfl rfl rfl rfl trivial (.inl ⟨rfl, fun _ _ => d_move rfl ⟨rfl, rfl⟩⟩) ?_
  refine WD.take hok2 1 (.pointer (some ⟨g, 0, none⟩)) (fun _ => True) rfl rfl rfl rfl rfl trivial (.inl ⟨rfl, fun _ _ => d_nilCheck rfl ⟨rfl, rfl⟩⟩) ?_
  refine WD.take hok2 2 (.pointer (some ⟨g, 2, none⟩)) (fun _ => True) rfl rfl rfl rfl rfl trivial (.inl ⟨rfl, fun _ _ => d_fieldAddrB fld117_2 rfl rfl ⟨rfl, rfl⟩⟩) ?_
  refine WD.take hok2 3 (.slice ma mn mc) (fun w' => w'.heap[g]? = some (.cells #[.slice fa fn fc, .slice ba bn bc, .slice ma mn mc, .slice ta td.length tc, .slice wa wn wc] 117 (0, 0))) rfl rfl rfl rfl rfl (H9.blk 0 rfl) (.inl ⟨rfl, fun _ hC => d_loadB Try.underlying77 rfl rfl hC rfl ⟨rfl, rfl⟩⟩) ?_
  refine WD.take hok2 4 (.pointer (some ⟨w.heap.size, 0, none⟩)) (fun _ => True) rfl rfl rfl rfl rfl trivial (.inl ⟨rfl, fun _ _ => d_fieldAddrB fld119_0 rfl rfl ⟨rfl, rfl⟩⟩) ?_
  refine WD.take hok2 5 (.int .i64 t) (fun w' => w'.heap[w.heap.size]? = some (.cells #[.int .i64 t, .int .i64 c] 119 (0, 0))) rfl rfl rfl rfl rfl (H9.blk 8 rfl) (.inl ⟨rfl, fun _ hC => d_loadB Try.underlying3 rfl rfl hC rfl ⟨rfl, rfl⟩⟩) ?_
  refine WD.take hok2 6 (elemPtr (.slice ma mn mc) t.toNat) (fun w' => RdT tyLR w' (.slice ma mn mc) ms) rfl rfl rfl rfl rfl (H9.rdT 3 rfl) (.inl ⟨rfl, fun _ hC => t_addr1 t.toNat (T := tyLR) rfl Try.underlying77 sz22 rfl rfl hC (by omega) (by omega) ⟨rfl, rfl⟩⟩) ?_
  refine WD.take hok2 7 (.slice ((ms.getD t.toNat lr0).a) ((ms.getD t.toNat lr0).n) ((ms.getD t.toNat lr0).c)) (fun w' => RdT tyLR w' (.slice ma mn mc) ms) rfl rfl rfl rfl rfl (H9.rdT 3 rfl) (.inl ⟨rfl, fun _ hC => t_load1 t.toNat lr0 (T := tyLR) rfl Try.underlying22 rfl rfl hC (by omega) rfl ⟨rfl, rfl⟩⟩) ?_
  refine WD.take hok2 8 (.int .i64 (((ms.getD t.toNat lr0).n : Nat) : Int)) (fun _ => True) rfl rfl rfl rfl rfl trivial (.inl ⟨rfl, fun _ _ => d_lenS Try.underlying22 rfl ⟨rfl, rfl⟩⟩) ?_
  refine WD.take hok2 9 (.int .i64 0) (fun _ => True) rfl rfl rfl rfl rfl trivial (.inl ⟨rfl, fun _ _ => d_move rfl ⟨rfl, rfl⟩⟩) ?_
  refine WD.done hok2 rfl (X.then_code ?_)
  refine W.block ?_
  have H10 : UpG w [blk g #[.slice fa fn fc, .slice ba bn bc, .slice ma mn mc, .slice ta td.length tc, .slice wa wn wc] 117, fromC fa fn fc F, rowT (tyI .i64) (.slice ba bn bc) 3 bl, rowT tyLR (.slice ma mn mc) 22 ms, manyF (inLR (tyI .i64) 3).row ms, rowT tyTk (.slice ta td.length tc) 119 td, rowT tyLR (.slice wa wn wc) 23 wt, manyF (inLR tyB 4).row wt] w6 [[blk g #[.slice fa fn fc, .slice ba bn bc, .slice ma mn mc, .slice ta td.length tc, .slice wa wn wc] 117], [fromC fa fn fc F], [rowT (tyI .i64) (.slice ba bn bc) 3 bl], [rowT tyLR (.slice ma mn mc) 22 ms], [manyF (inLR (tyI .i64) 3).row ms], [rowT tyTk (.slice ta td.length tc) 119 td], [rowT tyLR (.slice wa wn wc) 23 w1], [manyF (inLR tyB 4).row w1], [blk w.heap.size #[.int .i64 t, .int .i64 c] 119], [mapC (fun a : Int => .int .i64 a) (fun p : LR Int => .slice p.a p.n p.c) w4.heap.size ([] : List (Int × (LR Int)))], [manyF innP.row (List.replicate ms.length (lr0 : LR Int))]] := H9.new' (Upd.manyRep (tyI .i64) 3 ms.length w6)
  have H11 : UpG w [blk g #[.slice fa fn fc, .slice ba bn bc, .slice ma mn mc, .slice ta td.length tc, .slice wa wn wc] 117, fromC fa fn fc F, rowT (tyI .i64) (.slice ba bn bc) 3 bl, rowT tyLR (.slice ma mn mc) 22 ms, manyF (inLR (tyI .i64) 3).row ms, rowT tyTk (.slice ta td.length tc) 119 td, rowT tyLR (.slice wa wn wc) 23 wt, manyF (inLR tyB 4).row wt] w6 [[blk g #[.slice fa fn fc, .slice ba bn bc, .slice ma mn mc, .slice ta td.length tc, .slice wa wn wc] 117], [fromC fa fn fc F], [rowT (tyI .i64) (.slice ba bn bc) 3 bl], [rowT tyLR (.slice ma mn mc) 22 ms], [manyF (inLR (tyI .i64) 3).row ms], [rowT tyTk (.slice ta td.length tc) 119 td], [rowT tyLR (.slice wa wn wc) 23 w1], [manyF (inLR tyB 4).row w1], [blk w.heap.size #[.int .i64 t, .int .i64 c] 119], [mapC (fun a : Int => .int .i64 a) (fun p : LR Int => .slice p.a p.n p.c) w4.heap.size ([] : List (Int × (LR Int)))], [manyF innP.row (List.replicate ms.length (lr0 : LR Int))], [rowT (tyI .i64) (.slice none (([] : List Int).length) 0) 3 ([] : List Int)]] := H10.new' (Upd.nilRowT w6 (tyI .i64) 3)
  refine W.pick [34, 33, 32, 5, 4, 3, 0] (Γ' := [(34, .int .i64 0), (33, .int .i64 (((ms.getD t.toNat lr0).n : Nat) : Int)), (32, .slice ((ms.getD t.toNat lr0).a) ((ms.getD t.toNat lr0).n) ((ms.getD t.toNat lr0).c)), (5, .map (some w4.heap.size)), (4, .slice none (([] : List Int).length) 0), (3, .pointer (some ⟨w.heap.size, 0, none⟩)), (0, .pointer (some ⟨g, 0, none⟩))]) rfl ?_
  refine W.loop (fun m Γ' w' => ∃ q : Nat, ∃ em : List Int, ∃ ea : Option Addr, ∃ ec : Nat, ∃ mm : List (Int × LR Int), ∃ ps : List (LR Int), Γ' = [(34, .int .i64 ((q : Nat) : Int)), (33, .int .i64 (((ms.getD t.toNat lr0).n : Nat) : Int)), (32, .slice ((ms.getD t.toNat lr0).a) ((ms.getD t.toNat lr0).n) ((ms.getD t.toNat lr0).c)), (5, .map (some w4.heap.size)), (4, .slice ea em.length ec), (3, .pointer (some ⟨w.heap.size, 0, none⟩)), (0, .pointer (some ⟨g, 0, none⟩))] ∧ UpG w [blk g #[.slice fa fn fc, .slice ba bn bc, .slice ma mn mc, .slice ta td.length tc, .slice wa wn wc] 117, fromC fa fn fc F, rowT (tyI .i64) (.slice ba bn bc) 3 bl, rowT tyLR (.slice ma mn mc) 22 ms, manyF (inLR (tyI .i64) 3).row ms, rowT tyTk (.slice ta td.length tc) 119 td, rowT tyLR (.slice wa wn wc) 23 wt, manyF (inLR tyB 4).row wt] w' [[blk g #[.slice fa fn fc, .slice ba bn bc, .slice ma mn mc, .slice ta td.length tc, .slice wa wn wc] 117], [fromC fa fn fc F], [rowT (tyI .i64) (.slice ba bn bc) 3 bl], [rowT tyLR (.slice ma mn mc) 22 ms], [manyF (inLR (tyI .i64) 3).row ms], [rowT tyTk (.slice ta td.length tc) 119 td], [rowT tyLR (.slice wa wn wc) 23 w1], [manyF (inLR tyB 4).row w1], [blk w.heap.size #[.int .i64 t, .int .i64 c] 119], [mapC (fun a : Int => .int .i64 a) (fun p : LR Int => .slice p.a p.n p.c) w4.heap.size mm], [manyF innP.row ps], [rowT (tyI .i64) (.slice ea em.length ec) 3 em]] ∧ (q ≤ (ms.getD t.toNat lr0).xs.length) ∧ (PsI ms.length bl (LsN F c.toNat (mxs ms t.toNat) q 0) ps em) ∧ (MmP mm ps) ∧ m = (ms.getD t.toNat lr0).xs.length - q) ((ms.getD t.toNat lr0).xs.length - 0) ⟨0, ([] : List Int), none, 0, [], List.replicate ms.length (lr0 : LR Int), rfl, (H11.re rfl), (by first | assumption | omega | simp), (by rw [LsN.zero]; exact PsI.start _ _), (by exact MmP.start _), rfl⟩ ?_
  rintro m1 Γ2 w7 ⟨q, em, ea, ec, mm, ps, rfl, H12, hq, hP, hmm, rfl⟩
  refine W.seq ?_
  have hmt9 := RdT.len (show RdT (tyI .i64) w7 (.slice ((ms.getD t.toNat lr0).a) ((ms.getD t.toNat lr0).n) ((ms.getD t.toNat lr0).c)) ((ms.getD t.toNat lr0).xs) from (Inn.own (H12.hpOf 4 rfl)).get lr0 t.toNat (by omega))
  have hml := hop.part.mlen htn
  unfold mxs at hml
  refine W.region ?_
  refine WL.op rfl (d_cmp (decide (((q : Nat) : Int) < (((ms.getD t.toNat lr0).n : Nat) : Int))) rfl rfl rfl ?_)
  refine WL.done (X.then_code ?_)
  refine W.seq ?_
  refine W.ite (p := ((q : Nat) : Int) < (((ms.getD t.toNat lr0).n : Nat) : Int)) rfl (fun c111 => ?_) (fun c111 => ?_)
  · skip
    refine W.skip (X.then_code ?_)
    refine W.seq ?_
    refine W.block ?_
    refine W.seq ?_
    have hmt9 := RdT.len (show RdT (tyI .i64) w7 (.slice ((ms.getD t.toNat lr0).a) ((ms.getD t.toNat lr0).n) ((ms.getD t.toNat lr0).c)) ((ms.getD t.toNat lr0).xs) from (Inn.own (H12.hpOf 4 rfl)).get lr0 t.toNat (by omega))
    have hml := hop.part.mlen htn
    unfold mxs at hml
    refine W.region ?_
    refine WL.op rfl (t_addr1 q (T := (tyI .i64)) rfl Try.underlying22 sz3 rfl rfl (show RdT (tyI .i64) w7 (.slice ((ms.getD t.toNat lr0).a) ((ms.getD t.toNat lr0).n) ((ms.getD t.toNat lr0).c)) ((ms.getD t.toNat lr0).xs) from (Inn.own (H12.hpOf 4 rfl)).get lr0 t.toNat (by omega)) rfl (by omega) ?_)
    refine WL.op rfl (t_load1 q 0 (T := (tyI .i64)) rfl Try.underlying3 rfl rfl (show RdT (tyI .i64) w7 (.slice ((ms.getD t.toNat lr0).a) ((ms.getD t.toNat lr0).n) ((ms.getD t.toNat lr0).c)) ((ms.getD t.toNat lr0).xs) from (Inn.own (H12.hpOf 4 rfl)).get lr0 t.toNat (by omega)) (by omega) rfl ?_)
    refine WL.op rfl (d_assign rfl ?_)
    refine WL.done (X.then_code ?_)
    refine W.seq ?_
    obtain ⟨ii, hii, hie, _⟩ := (hop.part.mem t.toNat htn ((ms.getD t.toNat lr0).xs.getD q 0)).1 (getD_mem' (by show q < (ms.getD t.toNat lr0).xs.length; omega))
    have hFr := hF.row c.toNat (by omega)
    have hfr9 := RdT.len (show RdT (tyI .i64) w7 (.slice (((F.getD c.toNat lr0).xs.getD ((ms.getD t.toNat lr0).xs.getD q 0).toNat lr0).a) (((F.getD c.toNat lr0).xs.getD ((ms.getD t.toNat lr0).xs.getD q 0).toNat lr0).n) (((F.getD c.toNat lr0).xs.getD ((ms.getD t.toNat lr0).xs.getD q 0).toNat lr0).c)) (((F.getD c.toNat lr0).xs.getD ((ms.getD t.toNat lr0).xs.getD q 0).toNat lr0).xs) from (from_rd2 (H12.hpOf 1 rfl) (show (F.getD c.toNat lr0) ∈ F from getD_mem' (by omega))).get lr0 (((ms.getD t.toNat lr0).xs.getD q 0).toNat) (by omega))
    have hfm := hF.mem c.toNat (by omega) ii hii
    have hfnd := nodup_sub_len (hF.nd c.toNat (by omega) ii hii) (m := (List.range d.acc.length).map fun i : Nat => (i : Int)) (fun x hx => by obtain ⟨j, hj, e, _⟩ := (hfm x).1 hx; exact List.mem_map.2 ⟨j, List.mem_range.2 hj, e.symm⟩)
    have hfe : frL F c.toNat ((ii : Nat) : Int) = ((F.getD c.toNat lr0).xs.getD ((ms.getD t.toNat lr0).xs.getD q 0).toNat lr0).xs := by unfold frL; rw [← hie]
    rw [hfe] at hfnd hfm
    simp only [List.length_map, List.length_range] at hfnd
    refine W.regionD mixed (by kernel_rfl) fun hok3 w8 k3 => ?_
    have H13 : UpG w [blk g #[.slice fa fn fc, .slice ba bn bc, .slice ma mn mc, .slice ta td.length tc, .slice wa wn wc] 117, fromC fa fn fc F, rowT (tyI .i64) (.slice ba bn bc) 3 bl, rowT tyLR (.slice ma mn mc) 22 ms, manyF (inLR (tyI .i64) 3).row ms, rowT tyTk (.slice ta td.length tc) 119 td, rowT tyLR (.slice wa wn wc) 23 wt, manyF (inLR tyB 4).row wt] w8 [[blk g #[.slice fa fn fc, .slice ba bn bc, .slice ma mn mc, .slice ta td.length tc, .slice wa wn wc] 117], [fromC fa fn fc F], [rowT (tyI .i64) (.slice ba bn bc) 3 bl], [rowT tyLR (.slice ma mn mc) 22 ms], [manyF (inLR (tyI .i64) 3).row ms], [rowT tyTk (.slice ta td.length tc) 119 td], [rowT tyLR (.slice wa wn wc) 23 w1], [manyF (inLR tyB 4).row w1], [blk w.heap.size #[.int .i64 t, .int .i64 c] 119], [mapC (fun a : Int => .int .i64 a) (fun p : LR Int => .slice p.a p.n p.c) w4.heap.size mm], [manyF innP.row ps], [rowT (tyI .i64) (.slice ea em.length ec) 3 em]] := H12.kept k3
    refine WD.take hok3 0 (.pointer (some ⟨g, 0, none⟩)) (fun _ => True) rfl rfl rfl rfl rfl trivial (.inl ⟨rfl, fun _ _ => d_move rfl ⟨rfl, rfl⟩⟩) ?_
    refine WD.take hok3 1 (.pointer (some ⟨g, 0, none⟩)) (fun _ => True) rfl rfl rfl rfl rfl trivial (.inl ⟨rfl, fun _ _ => d_nilCheck rfl ⟨rfl, rfl⟩⟩) ?_
    refine WD.take hok3 2 (.pointer (some ⟨g, 0, none⟩)) (fun _ => True) rfl rfl rfl rfl rfl trivial (.inl ⟨rfl, fun _ _ => d_fieldAddrB fld117_0 rfl rfl ⟨rfl, rfl⟩⟩) ?_
    refine WD.take hok3 3 (.slice fa fn fc) (fun w' => w'.heap[g]? = some (.cells #[.slice fa fn fc, .slice ba bn bc, .slice ma mn mc, .slice ta td.length tc, .slice wa wn wc] 117 (0, 0))) rfl rfl rfl rfl rfl (H13.blk 0 rfl) (.inl ⟨rfl, fun _ hC => d_loadB Try.underlying114 rfl rfl hC rfl ⟨rfl, rfl⟩⟩) ?_
    refine WD.take hok3 4 (.pointer (some ⟨w.heap.size, 1, none⟩)) (fun _ => True) rfl rfl rfl rfl rfl trivial (.inl ⟨rfl, fun _ _ => d_fieldAddrB fld119_1 rfl rfl ⟨rfl, rfl⟩⟩) ?_
    refine WD.take hok3 5 (.int .i64 c) (fun w' => w'.heap[w.heap.size]? = some (.cells #[.int .i64 t, .int .i64 c] 119 (0, 0))) rfl rfl rfl rfl rfl (H13.blk 8 rfl) (.inl ⟨rfl, fun _ hC => d_loadB Try.underlying3 rfl rfl hC rfl ⟨rfl, rfl⟩⟩) ?_
    refine WD.take hok3 6 (elemPtr (.slice fa fn fc) c.toNat) (fun w' => RdT tyLR w' (.slice fa fn fc) F) rfl rfl rfl rfl rfl (from_rd0 (H13.hpOf 1 rfl)) (.inl ⟨rfl, fun _ hC => t_addr1 c.toNat (T := tyLR) rfl Try.underlying114 sz77 rfl rfl hC (by omega) (by omega) ⟨rfl, rfl⟩⟩) ?_
    refine WD.take hok3 7 (.slice ((F.getD c.toNat lr0).a) ((F.getD c.toNat lr0).n) ((F.getD c.toNat lr0).c)) (fun w' => RdT tyLR w' (.slice fa fn fc) F) rfl rfl rfl rfl rfl (from_rd0 (H13.hpOf 1 rfl)) (.inl ⟨rfl, fun _ hC => t_load1 c.toNat lr0 (T := tyLR) rfl Try.underlying77 rfl rfl hC (by omega) rfl ⟨rfl, rfl⟩⟩) ?_
    refine WD.take hok3 8 (.int .i64 (((ms.getD t.toNat lr0).xs).getD q 0)) (fun _ => True) rfl rfl rfl rfl rfl trivial (.inl ⟨rfl, fun _ _ => d_move rfl ⟨rfl, rfl⟩⟩) ?_
    refine WD.take hok3 9 (elemPtr (.slice ((F.getD c.toNat lr0).a) ((F.getD c.toNat lr0).n) ((F.getD c.toNat lr0).c)) ((((ms.getD t.toNat lr0).xs).getD q 0).toNat)) (fun w' => RdT tyLR w' (.slice ((F.getD c.toNat lr0).a) ((F.getD c.toNat lr0).n) ((F.getD c.toNat lr0).c)) ((F.getD c.toNat lr0).xs)) rfl rfl rfl rfl rfl (show RdT tyLR w8 (.slice ((F.getD c.toNat lr0).a) ((F.getD c.toNat lr0).n) ((F.getD c.toNat lr0).c)) ((F.getD c.toNat lr0).xs) from (from_rd1 (H13.hpOf 1 rfl)).get lr0 c.toNat (by omega)) (.inl ⟨rfl, fun _ hC => t_addr1 ((((ms.getD t.toNat lr0).xs).getD q 0).toNat) (T := tyLR) rfl Try.underlying77 sz22 rfl rfl hC (by omega) (by omega) ⟨rfl, rfl⟩⟩) ?_
    refine WD.take hok3 10 (.slice ((((F.getD c.toNat lr0).xs).getD ((((ms.getD t.toNat lr0).xs).getD q 0).toNat) lr0).a) ((((F.getD c.toNat lr0).xs).getD ((((ms.getD t.toNat lr0).xs).getD q 0).toNat) lr0).n) ((((F.getD c.toNat lr0).xs).getD ((((ms.getD t.toNat lr0).xs).getD q 0).toNat) lr0).c)) (fun w' => RdT tyLR w' (.slice ((F.getD c.toNat lr0).a) ((F.getD c.toNat lr0).n) ((F.getD c.toNat lr0).c)) ((F.getD c.toNat lr0).xs)) rfl rfl rfl rfl rfl (show RdT tyLR w8 (.slice ((F.getD c.toNat lr0).a) ((F.getD c.toNat lr0).n) ((F.getD c.toNat lr0).c)) ((F.getD c.toNat lr0).xs) from (from_rd1 (H13.hpOf 1 rfl)).get lr0 c.toNat (by omega)) (.inl ⟨rfl, fun _ hC => t_load1 ((((ms.getD t.toNat lr0).xs).getD q 0).toNat) lr0 (T := tyLR) rfl Try.underlying22 rfl rfl hC (by omega) rfl ⟨rfl, rfl⟩⟩) ?_
    refine WD.take hok3 11 (.int .i64 (((((F.getD c.toNat lr0).xs).getD ((((ms.getD t.toNat lr0).xs).getD q 0).toNat) lr0).n : Nat) : Int)) (fun _ => True) rfl rfl rfl rfl rfl trivial (.inl ⟨rfl, fun _ _ => d_lenS Try.underlying22 rfl ⟨rfl, rfl⟩⟩) ?_
    refine WD.take hok3 12 (.int .i64 0) (fun _ => True) rfl rfl rfl rfl rfl trivial (.inl ⟨rfl, fun _ _ => d_move rfl ⟨rfl, rfl⟩⟩) ?_
    refine WD.done hok3 rfl (X.then_code ?_)
    refine W.block ?_
    refine W.pick [50, 49, 48, 34, 33, 32, 5, 4, 3, 0] (Γ' := [(50, .int .i64 0), (49, .int .i64 (((((F.getD c.toNat lr0).xs).getD ((((ms.getD t.toNat lr0).xs).getD q 0).toNat) lr0).n : Nat) : Int)), (48, .slice ((((F.getD c.toNat lr0).xs).getD ((((ms.getD t.toNat lr0).xs).getD q 0).toNat) lr0).a) ((((F.getD c.toNat lr0).xs).getD ((((ms.getD t.toNat lr0).xs).getD q 0).toNat) lr0).n) ((((F.getD c.toNat lr0).xs).getD ((((ms.getD t.toNat lr0).xs).getD q 0).toNat) lr0).c)), (34, .int .i64 ((q : Nat) : Int)), (33, .int .i64 (((ms.getD t.toNat lr0).n : Nat) : Int)), (32, .slice ((ms.getD t.toNat lr0).a) ((ms.getD t.toNat lr0).n) ((ms.getD t.toNat lr0).c)), (5, .map (some w4.heap.size)), (4, .slice ea em.length ec), (3, .pointer (some ⟨w.heap.size, 0, none⟩)), (0, .pointer (some ⟨g, 0, none⟩))]) rfl ?_
    refine W.loop (fun m Γ' w' => ∃ r : Nat, ∃ en : List Int, ∃ na : Option Addr, ∃ nc : Nat, ∃ mo : List (Int × LR Int), ∃ pr : List (LR Int), Γ' = [(50, .int .i64 ((r : Nat) : Int)), (49, .int .i64 (((((F.getD c.toNat lr0).xs).getD ((((ms.getD t.toNat lr0).xs).getD q 0).toNat) lr0).n : Nat) : Int)), (48, .slice ((((F.getD c.toNat lr0).xs).getD ((((ms.getD t.toNat lr0).xs).getD q 0).toNat) lr0).a) ((((F.getD c.toNat lr0).xs).getD ((((ms.getD t.toNat lr0).xs).getD q 0).toNat) lr0).n) ((((F.getD c.toNat lr0).xs).getD ((((ms.getD t.toNat lr0).xs).getD q 0).toNat) lr0).c)), (34, .int .i64 ((q : Nat) : Int)), (33, .int .i64 (((ms.getD t.toNat lr0).n : Nat) : Int)), (32, .slice ((ms.getD t.toNat lr0).a) ((ms.getD t.toNat lr0).n) ((ms.getD t.toNat lr0).c)), (5, .map (some w4.heap.size)), (4, .slice na en.length nc), (3, .pointer (some ⟨w.heap.size, 0, none⟩)), (0, .pointer (some ⟨g, 0, none⟩))] ∧ UpG w [blk g #[.slice fa fn fc, .slice ba bn bc, .slice ma mn mc, .slice ta td.length tc, .slice wa wn wc] 117, fromC fa fn fc F, rowT (tyI .i64) (.slice ba bn bc) 3 bl, rowT tyLR (.slice ma mn mc) 22 ms, manyF (inLR (tyI .i64) 3).row ms, rowT tyTk (.slice ta td.length tc) 119 td, rowT tyLR (.slice wa wn wc) 23 wt, manyF (inLR tyB 4).row wt] w' [[blk g #[.slice fa fn fc, .slice ba bn bc, .slice ma mn mc, .slice ta td.length tc, .slice wa wn wc] 117], [fromC fa fn fc F], [rowT (tyI .i64) (.slice ba bn bc) 3 bl], [rowT tyLR (.slice ma mn mc) 22 ms], [manyF (inLR (tyI .i64) 3).row ms], [rowT tyTk (.slice ta td.length tc) 119 td], [rowT tyLR (.slice wa wn wc) 23 w1], [manyF (inLR tyB 4).row w1], [blk w.heap.size #[.int .i64 t, .int .i64 c] 119], [mapC (fun a : Int => .int .i64 a) (fun p : LR Int => .slice p.a p.n p.c) w4.heap.size mo], [manyF innP.row pr], [rowT (tyI .i64) (.slice na en.length nc) 3 en]] ∧ (r ≤ ((F.getD c.toNat lr0).xs.getD ((ms.getD t.toNat lr0).xs.getD q 0).toNat lr0).xs.length) ∧ (PsI ms.length bl (LsN F c.toNat (mxs ms t.toNat) q r) pr en) ∧ (MmP mo pr) ∧ m = ((F.getD c.toNat lr0).xs.getD ((ms.getD t.toNat lr0).xs.getD q 0).toNat lr0).xs.length - r) (((F.getD c.toNat lr0).xs.getD ((ms.getD t.toNat lr0).xs.getD q 0).toNat lr0).xs.length - 0) ⟨0, em, ea, ec, mm, ps, rfl, H13, (by first | assumption | omega | simp), (by exact hP), (by exact hmm), rfl⟩ ?_
    rintro m2 Γ3 w9 ⟨r, en, na, nc, mo, pr, rfl, H14, hr, hP2, hmm2, rfl⟩
    refine W.seq ?_
    obtain ⟨ii, hii, hie, _⟩ := (hop.part.mem t.toNat htn ((ms.getD t.toNat lr0).xs.getD q 0)).1 (getD_mem' (by show q < (ms.getD t.toNat lr0).xs.length; omega))
    have hFr := hF.row c.toNat (by omega)
    have hfr9 := RdT.len (show RdT (tyI .i64) w9 (.slice (((F.getD c.toNat lr0).xs.getD ((ms.getD t.toNat lr0).xs.getD q 0).toNat lr0).a) (((F.getD c.toNat lr0).xs.getD ((ms.getD t.toNat lr0).xs.getD q 0).toNat lr0).n) (((F.getD c.toNat lr0).xs.getD ((ms.getD t.toNat lr0).xs.getD q 0).toNat lr0).c)) (((F.getD c.toNat lr0).xs.getD ((ms.getD t.toNat lr0).xs.getD q 0).toNat lr0).xs) from (from_rd2 (H14.hpOf 1 rfl) (show (F.getD c.toNat lr0) ∈ F from getD_mem' (by omega))).get lr0 (((ms.getD t.toNat lr0).xs.getD q 0).toNat) (by omega))
    have hfm := hF.mem c.toNat (by omega) ii hii
    have hfnd := nodup_sub_len (hF.nd c.toNat (by omega) ii hii) (m := (List.range d.acc.length).map fun i : Nat => (i : Int)) (fun x hx => by obtain ⟨j, hj, e, _⟩ := (hfm x).1 hx; exact List.mem_map.2 ⟨j, List.mem_range.2 hj, e.symm⟩)
    have hfe : frL F c.toNat ((ii : Nat) : Int) = ((F.getD c.toNat lr0).xs.getD ((ms.getD t.toNat lr0).xs.getD q 0).toNat lr0).xs := by unfold frL; rw [← hie]
    rw [hfe] at hfnd hfm
    simp only [List.length_map, List.length_range] at hfnd
    refine W.region ?_
    refine WL.op rfl (d_cmp (decide (((r : Nat) : Int) < (((((F.getD c.toNat lr0).xs).getD ((((ms.getD t.toNat lr0).xs).getD q 0).toNat) lr0).n : Nat) : Int))) rfl rfl rfl ?_)
    refine WL.done (X.then_code ?_)
    refine W.seq ?_
    refine W.ite (p := ((r : Nat) : Int) < (((((F.getD c.toNat lr0).xs).getD ((((ms.getD t.toNat lr0).xs).getD q 0).toNat) lr0).n : Nat) : Int)) rfl (fun c112 => ?_) (fun c112 => ?_)
    · skip
      refine W.skip (X.then_code ?_)
      refine W.seq ?_
      refine W.block ?_
      refine W.seq ?_
      obtain ⟨ii, hii, hie, _⟩ := (hop.part.mem t.toNat htn ((ms.getD t.toNat lr0).xs.getD q 0)).1 (getD_mem' (by show q < (ms.getD t.toNat lr0).xs.length; omega))
      have hFr := hF.row c.toNat (by omega)
      have hfr9 := RdT.len (show RdT (tyI .i64) w9 (.slice (((F.getD c.toNat lr0).xs.getD ((ms.getD t.toNat lr0).xs.getD q 0).toNat lr0).a) (((F.getD c.toNat lr0).xs.getD ((ms.getD t.toNat lr0).xs.getD q 0).toNat lr0).n) (((F.getD c.toNat lr0).xs.getD ((ms.getD t.toNat lr0).xs.getD q 0).toNat lr0).c)) (((F.getD c.toNat lr0).xs.getD ((ms.getD t.toNat lr0).xs.getD q 0).toNat lr0).xs) from (from_rd2 (H14.hpOf 1 rfl) (show (F.getD c.toNat lr0) ∈ F from getD_mem' (by omega))).get lr0 (((ms.getD t.toNat lr0).xs.getD q 0).toNat) (by omega))
      have hfm := hF.mem c.toNat (by omega) ii hii
      have hfnd := nodup_sub_len (hF.nd c.toNat (by omega) ii hii) (m := (List.range d.acc.length).map fun i : Nat => (i : Int)) (fun x hx => by obtain ⟨j, hj, e, _⟩ := (hfm x).1 hx; exact List.mem_map.2 ⟨j, List.mem_range.2 hj, e.symm⟩)
      have hfe : frL F c.toNat ((ii : Nat) : Int) = ((F.getD c.toNat lr0).xs.getD ((ms.getD t.toNat lr0).xs.getD q 0).toNat lr0).xs := by unfold frL; rw [← hie]
      rw [hfe] at hfnd hfm
      simp only [List.length_map, List.length_range] at hfnd
      refine W.region ?_
      refine WL.op rfl (t_addr1 r (T := (tyI .i64)) rfl Try.underlying22 sz3 rfl rfl (show RdT (tyI .i64) w9 (.slice ((((F.getD c.toNat lr0).xs).getD ((((ms.getD t.toNat lr0).xs).getD q 0).toNat) lr0).a) ((((F.getD c.toNat lr0).xs).getD ((((ms.getD t.toNat lr0).xs).getD q 0).toNat) lr0).n) ((((F.getD c.toNat lr0).xs).getD ((((ms.getD t.toNat lr0).xs).getD q 0).toNat) lr0).c)) ((((F.getD c.toNat lr0).xs).getD ((((ms.getD t.toNat lr0).xs).getD q 0).toNat) lr0).xs) from (from_rd2 (H14.hpOf 1 rfl) (show (F.getD c.toNat lr0) ∈ F from getD_mem' (by omega))).get lr0 ((((ms.getD t.toNat lr0).xs).getD q 0).toNat) (by omega)) rfl (by omega) ?_)
      refine WL.op rfl (t_load1 r 0 (T := (tyI .i64)) rfl Try.underlying3 rfl rfl (show RdT (tyI .i64) w9 (.slice ((((F.getD c.toNat lr0).xs).getD ((((ms.getD t.toNat lr0).xs).getD q 0).toNat) lr0).a) ((((F.getD c.toNat lr0).xs).getD ((((ms.getD t.toNat lr0).xs).getD q 0).toNat) lr0).n) ((((F.getD c.toNat lr0).xs).getD ((((ms.getD t.toNat lr0).xs).getD q 0).toNat) lr0).c)) ((((F.getD c.toNat lr0).xs).getD ((((ms.getD t.toNat lr0).xs).getD q 0).toNat) lr0).xs) from (from_rd2 (H14.hpOf 1 rfl) (show (F.getD c.toNat lr0) ∈ F from getD_mem' (by omega))).get lr0 ((((ms.getD t.toNat lr0).xs).getD q 0).toNat) (by omega)) (by omega) rfl ?_)
      refine WL.op rfl (d_assign rfl ?_)
      refine WL.done (X.then_code ?_)
      refine W.seq ?_
      obtain ⟨jj, hjj, hje, _⟩ := (hfm (((F.getD c.toNat lr0).xs.getD ((ms.getD t.toNat lr0).xs.getD q 0).toNat lr0).xs.getD r 0)).1 (getD_mem' (by omega))
      refine W.region ?_
      refine WL.op rfl (d_move rfl ?_)
      refine WL.op rfl (d_nilCheck rfl ?_)
      refine WL.op rfl (d_fieldAddrB fld117_1 rfl rfl ?_)
      refine WL.op rfl (d_loadB Try.underlying22 rfl rfl (H14.blk 0 rfl) rfl ?_)
      refine WL.op rfl (d_move rfl ?_)
      refine WL.op rfl (t_addr1 ((((((F.getD c.toNat lr0).xs).getD ((((ms.getD t.toNat lr0).xs).getD q 0).toNat) lr0).xs).getD r 0).toNat) (T := (tyI .i64)) rfl Try.underlying22 sz3 rfl rfl (H14.rdT 2 rfl) (by omega) (by omega) ?_)
      refine WL.op rfl (t_load1 ((((((F.getD c.toNat lr0).xs).getD ((((ms.getD t.toNat lr0).xs).getD q 0).toNat) lr0).xs).getD r 0).toNat) 0 (T := (tyI .i64)) rfl Try.underlying3 rfl rfl (H14.rdT 2 rfl) (by omega) rfl ?_)
      refine WL.op rfl (d_assign rfl ?_)
      refine WL.done (X.then_code ?_)
      refine W.seq ?_
      refine W.seq ?_
      have hbr := hop.part.rng jj hjj
      obtain ⟨bb, hbb⟩ : ∃ bb : Nat, bl.getD (((F.getD c.toNat lr0).xs.getD ((ms.getD t.toNat lr0).xs.getD q 0).toNat lr0).xs.getD r 0).toNat 0 = ((bb : Nat) : Int) := ⟨(bl.getD (((F.getD c.toNat lr0).xs.getD ((ms.getD t.toNat lr0).xs.getD q 0).toNat lr0).xs.getD r 0).toNat 0).toNat, by rw [hje, Int.toNat_natCast]; omega⟩
      have hbn : bb < ms.length := by rw [hje, Int.toNat_natCast] at hbb; omega
      have hpl := hP2.len
      have hpb9 := RdT.len (show RdT (tyI .i64) w9 (.slice ((pr.getD bb lr0).a) ((pr.getD bb lr0).n) ((pr.getD bb lr0).c)) ((pr.getD bb lr0).xs) from (Inn.own (H14.hpOf 10 rfl)).get lr0 bb (by omega))
      have hLl := LsN_len hF hop.part hrt (show c.toNat < F.length by omega) htn q r
      have henl := hP2.mlen
      refine W.region ?_
      refine WL.op rfl (d_move rfl ?_)
      refine WL.op rfl (d_move rfl ?_)
      refine WL.op rfl (d_look1E (ek := (fun a : Int => .int .i64 a)) (evl := (fun p : LR Int => .slice p.a p.n p.c)) (bl.getD ((((((F.getD c.toNat lr0).xs).getD ((((ms.getD t.toNat lr0).xs).getD q 0).toNat) lr0).xs).getD r 0).toNat) 0) lr0 (pr.getD bb lr0) (by rw [hbb]; exact hmm2 bb (by omega)) key3 Try.underlying133 sz22 rfl rfl (H14.mapAt 9 rfl) ?_)
      refine WL.op rfl (d_lenS Try.underlying22 rfl ?_)
      refine WL.op rfl (d_cmp (decide ((((pr.getD bb lr0).n : Nat) : Int) = (0 : Int))) rfl rfl rfl ?_)
      refine WL.done (X.then_code ?_)
      refine W.ite (p := (((pr.getD bb lr0).n : Nat) : Int) = (0 : Int)) rfl (fun c114 => ?_) (fun c114 => ?_)
      · skip
        refine W.region ?_
        refine WL.op rfl (d_move rfl ?_)
        refine WL.op rfl (d_move rfl ?_)
        refine WL.op rfl (t_buildSlice (T := (tyI .i64)) (xs := [bl.getD ((((((F.getD c.toNat lr0).xs).getD ((((ms.getD t.toNat lr0).xs).getD q 0).toNat) lr0).xs).getD r 0).toNat) 0]) (cs := #[.int .i64 (bl.getD ((((((F.getD c.toNat lr0).xs).getD ((((ms.getD t.toNat lr0).xs).getD q 0).toNat) lr0).xs).getD r 0).toNat) 0)]) rfl Try.underlying22 sz3 rfl rfl rfl rfl (by kernel_rfl) rfl rfl fun w10 u4 => ?_)
        have H15 : UpG w [blk g #[.slice fa fn fc, .slice ba bn bc, .slice ma mn mc, .slice ta td.length tc, .slice wa wn wc] 117, fromC fa fn fc F, rowT (tyI .i64) (.slice ba bn bc) 3 bl, rowT tyLR (.slice ma mn mc) 22 ms, manyF (inLR (tyI .i64) 3).row ms, rowT tyTk (.slice ta td.length tc) 119 td, rowT tyLR (.slice wa wn wc) 23 wt, manyF (inLR tyB 4).row wt] w10 [[blk g #[.slice fa fn fc, .slice ba bn bc, .slice ma mn mc, .slice ta td.length tc, .slice wa wn wc] 117], [fromC fa fn fc F], [rowT (tyI .i64) (.slice ba bn bc) 3 bl], [rowT tyLR (.slice ma mn mc) 22 ms], [manyF (inLR (tyI .i64) 3).row ms], [rowT tyTk (.slice ta td.length tc) 119 td], [rowT tyLR (.slice wa wn wc) 23 w1], [manyF (inLR tyB 4).row w1], [blk w.heap.size #[.int .i64 t, .int .i64 c] 119], [mapC (fun a : Int => .int .i64 a) (fun p : LR Int => .slice p.a p.n p.c) w4.heap.size mo], [manyF innP.row pr], [rowT (tyI .i64) (.slice na en.length nc) 3 en], [rowT (tyI .i64) (.slice (some ⟨w9.heap.size, 0, none⟩) ([bl.getD ((((((F.getD c.toNat lr0).xs).getD ((((ms.getD t.toNat lr0).xs).getD q 0).toNat) lr0).xs).getD r 0).toNat) 0].length) ([bl.getD ((((((F.getD c.toNat lr0).xs).getD ((((ms.getD t.toNat lr0).xs).getD q 0).toNat) lr0).xs).getD r 0).toNat) 0].length)) 3 [bl.getD ((((((F.getD c.toNat lr0).xs).getD ((((ms.getD t.toNat lr0).xs).getD q 0).toNat) lr0).xs).getD r 0).toNat) 0]]] := H14.new' u4
        refine WL.op rfl (t_append (T := (tyI .i64)) (xs := en) (ys := [bl.getD ((((((F.getD c.toNat lr0).xs).getD ((((ms.getD t.toNat lr0).xs).getD q 0).toNat) lr0).xs).getD r 0).toNat) 0]) rfl Try.underlying22 sz3 rfl rfl rfl (H15.ownT 11 rfl) (H15.rdT 12 rfl) (by simp only [List.length_singleton]; omega) (by simp only [List.length_singleton]; omega) fun a1 c1 w11 u5 => ?_)
        have H16 : UpG w [blk g #[.slice fa fn fc, .slice ba bn bc, .slice ma mn mc, .slice ta td.length tc, .slice wa wn wc] 117, fromC fa fn fc F, rowT (tyI .i64) (.slice ba bn bc) 3 bl, rowT tyLR (.slice ma mn mc) 22 ms, manyF (inLR (tyI .i64) 3).row ms, rowT tyTk (.slice ta td.length tc) 119 td, rowT tyLR (.slice wa wn wc) 23 wt, manyF (inLR tyB 4).row wt] w11 [[blk g #[.slice fa fn fc, .slice ba bn bc, .slice ma mn mc, .slice ta td.length tc, .slice wa wn wc] 117], [fromC fa fn fc F], [rowT (tyI .i64) (.slice ba bn bc) 3 bl], [rowT tyLR (.slice ma mn mc) 22 ms], [manyF (inLR (tyI .i64) 3).row ms], [rowT tyTk (.slice ta td.length tc) 119 td], [rowT tyLR (.slice wa wn wc) 23 w1], [manyF (inLR tyB 4).row w1], [blk w.heap.size #[.int .i64 t, .int .i64 c] 119], [mapC (fun a : Int => .int .i64 a) (fun p : LR Int => .slice p.a p.n p.c) w4.heap.size mo], [manyF innP.row pr], [rowT (tyI .i64) (.slice a1 ((en ++ [bl.getD ((((((F.getD c.toNat lr0).xs).getD ((((ms.getD t.toNat lr0).xs).getD q 0).toNat) lr0).xs).getD r 0).toNat) 0]).length) c1) 3 (en ++ [bl.getD ((((((F.getD c.toNat lr0).xs).getD ((((ms.getD t.toNat lr0).xs).getD q 0).toNat) lr0).xs).getD r 0).toNat) 0])], []] := (H15.on 11 rfl u5).drop 12
        refine WL.op rfl (d_assign rfl ?_)
        refine WL.done (X.then_code ?_)
        refine W.pick [4, 10, 9, 50, 49, 48, 34, 33, 32, 5, 3, 0] (Γ' := [(4, .slice a1 ((en ++ [bl.getD ((((((F.getD c.toNat lr0).xs).getD ((((ms.getD t.toNat lr0).xs).getD q 0).toNat) lr0).xs).getD r 0).toNat) 0]).length) c1), (10, .int .i64 (bl.getD ((((((F.getD c.toNat lr0).xs).getD ((((ms.getD t.toNat lr0).xs).getD q 0).toNat) lr0).xs).getD r 0).toNat) 0)), (9, .int .i64 (((((F.getD c.toNat lr0).xs).getD ((((ms.getD t.toNat lr0).xs).getD q 0).toNat) lr0).xs).getD r 0)), (50, .int .i64 ((r : Nat) : Int)), (49, .int .i64 (((((F.getD c.toNat lr0).xs).getD ((((ms.getD t.toNat lr0).xs).getD q 0).toNat) lr0).n : Nat) : Int)), (48, .slice ((((F.getD c.toNat lr0).xs).getD ((((ms.getD t.toNat lr0).xs).getD q 0).toNat) lr0).a) ((((F.getD c.toNat lr0).xs).getD ((((ms.getD t.toNat lr0).xs).getD q 0).toNat) lr0).n) ((((F.getD c.toNat lr0).xs).getD ((((ms.getD t.toNat lr0).xs).getD q 0).toNat) lr0).c)), (34, .int .i64 ((q : Nat) : Int)), (33, .int .i64 (((ms.getD t.toNat lr0).n : Nat) : Int)), (32, .slice ((ms.getD t.toNat lr0).a) ((ms.getD t.toNat lr0).n) ((ms.getD t.toNat lr0).c)), (5, .map (some w4.heap.size)), (3, .pointer (some ⟨w.heap.size, 0, none⟩)), (0, .pointer (some ⟨g, 0, none⟩))]) rfl ?_
        have hpbl : (pr.getD bb lr0).xs.length ≤ 4097 * 4096 := by rw [hP2.val bb hbn]; exact Nat.le_trans (List.length_filter_le _ _) hLl
        refine W.region ?_
        refine WL.op rfl (d_move rfl ?_)
        refine WL.op rfl (d_move rfl ?_)
        refine WL.op rfl (d_move rfl ?_)
        refine WL.op rfl (d_move rfl ?_)
        refine WL.op rfl (d_look1E (ek := (fun a : Int => .int .i64 a)) (evl := (fun p : LR Int => .slice p.a p.n p.c)) (bl.getD ((((((F.getD c.toNat lr0).xs).getD ((((ms.getD t.toNat lr0).xs).getD q 0).toNat) lr0).xs).getD r 0).toNat) 0) lr0 (pr.getD bb lr0) (by rw [hbb]; exact hmm2 bb (by omega)) key3 Try.underlying133 sz22 rfl rfl (H16.mapAt 9 rfl) ?_)
        refine WL.op rfl (d_move rfl ?_)
        refine WL.op rfl (t_buildSlice (T := (tyI .i64)) (xs := [((((F.getD c.toNat lr0).xs).getD ((((ms.getD t.toNat lr0).xs).getD q 0).toNat) lr0).xs).getD r 0]) (cs := #[.int .i64 (((((F.getD c.toNat lr0).xs).getD ((((ms.getD t.toNat lr0).xs).getD q 0).toNat) lr0).xs).getD r 0)]) rfl Try.underlying22 sz3 rfl rfl rfl rfl (by kernel_rfl) rfl rfl fun w12 u6 => ?_)
        have H17 : UpG w [blk g #[.slice fa fn fc, .slice ba bn bc, .slice ma mn mc, .slice ta td.length tc, .slice wa wn wc] 117, fromC fa fn fc F, rowT (tyI .i64) (.slice ba bn bc) 3 bl, rowT tyLR (.slice ma mn mc) 22 ms, manyF (inLR (tyI .i64) 3).row ms, rowT tyTk (.slice ta td.length tc) 119 td, rowT tyLR (.slice wa wn wc) 23 wt, manyF (inLR tyB 4).row wt] w12 [[blk g #[.slice fa fn fc, .slice ba bn bc, .slice ma mn mc, .slice ta td.length tc, .slice wa wn wc] 117], [fromC fa fn fc F], [rowT (tyI .i64) (.slice ba bn bc) 3 bl], [rowT tyLR (.slice ma mn mc) 22 ms], [manyF (inLR (tyI .i64) 3).row ms], [rowT tyTk (.slice ta td.length tc) 119 td], [rowT tyLR (.slice wa wn wc) 23 w1], [manyF (inLR tyB 4).row w1], [blk w.heap.size #[.int .i64 t, .int .i64 c] 119], [mapC (fun a : Int => .int .i64 a) (fun p : LR Int => .slice p.a p.n p.c) w4.heap.size mo], [manyF innP.row pr], [rowT (tyI .i64) (.slice a1 ((en ++ [bl.getD ((((((F.getD c.toNat lr0).xs).getD ((((ms.getD t.toNat lr0).xs).getD q 0).toNat) lr0).xs).getD r 0).toNat) 0]).length) c1) 3 (en ++ [bl.getD ((((((F.getD c.toNat lr0).xs).getD ((((ms.getD t.toNat lr0).xs).getD q 0).toNat) lr0).xs).getD r 0).toNat) 0])], [], [rowT (tyI .i64) (.slice (some ⟨w11.heap.size, 0, none⟩) ([((((F.getD c.toNat lr0).xs).getD ((((ms.getD t.toNat lr0).xs).getD q 0).toNat) lr0).xs).getD r 0].length) ([((((F.getD c.toNat lr0).xs).getD ((((ms.getD t.toNat lr0).xs).getD q 0).toNat) lr0).xs).getD r 0].length)) 3 [((((F.getD c.toNat lr0).xs).getD ((((ms.getD t.toNat lr0).xs).getD q 0).toNat) lr0).xs).getD r 0]]] := H16.new' u6
        have H18 : UpG w [blk g #[.slice fa fn fc, .slice ba bn bc, .slice ma mn mc, .slice ta td.length tc, .slice wa wn wc] 117, fromC fa fn fc F, rowT (tyI .i64) (.slice ba bn bc) 3 bl, rowT tyLR (.slice ma mn mc) 22 ms, manyF (inLR (tyI .i64) 3).row ms, rowT tyTk (.slice ta td.length tc) 119 td, rowT tyLR (.slice wa wn wc) 23 wt, manyF (inLR tyB 4).row wt] w12 [[blk g #[.slice fa fn fc, .slice ba bn bc, .slice ma mn mc, .slice ta td.length tc, .slice wa wn wc] 117], [fromC fa fn fc F], [rowT (tyI .i64) (.slice ba bn bc) 3 bl], [rowT tyLR (.slice ma mn mc) 22 ms], [manyF (inLR (tyI .i64) 3).row ms], [rowT tyTk (.slice ta td.length tc) 119 td], [rowT tyLR (.slice wa wn wc) 23 w1], [manyF (inLR tyB 4).row w1], [blk w.heap.size #[.int .i64 t, .int .i64 c] 119], [mapC (fun a : Int => .int .i64 a) (fun p : LR Int => .slice p.a p.n p.c) w4.heap.size mo], [manyF innP.row (pr.eraseIdx bb)], [rowT (tyI .i64) (.slice a1 ((en ++ [bl.getD ((((((F.getD c.toNat lr0).xs).getD ((((ms.getD t.toNat lr0).xs).getD q 0).toNat) lr0).xs).getD r 0).toNat) 0]).length) c1) 3 (en ++ [bl.getD ((((((F.getD c.toNat lr0).xs).getD ((((ms.getD t.toNat lr0).xs).getD q 0).toNat) lr0).xs).getD r 0).toNat) 0])], [], [rowT (tyI .i64) (.slice (some ⟨w11.heap.size, 0, none⟩) ([((((F.getD c.toNat lr0).xs).getD ((((ms.getD t.toNat lr0).xs).getD q 0).toNat) lr0).xs).getD r 0].length) ([((((F.getD c.toNat lr0).xs).getD ((((ms.getD t.toNat lr0).xs).getD q 0).toNat) lr0).xs).getD r 0].length)) 3 [((((F.getD c.toNat lr0).xs).getD ((((ms.getD t.toNat lr0).xs).getD q 0).toNat) lr0).xs).getD r 0]], [rowT (tyI .i64) (.slice ((pr.getD bb lr0).a) ((pr.getD bb lr0).n) ((pr.getD bb lr0).c)) 3 ((pr.getD bb lr0).xs)]] := H17.takeOut (f := innP.row) lr0 10 bb rfl (by omega)
        refine WL.op rfl (t_appendN (T := (tyI .i64)) (xs := ((pr.getD bb lr0).xs)) (ys := [((((F.getD c.toNat lr0).xs).getD ((((ms.getD t.toNat lr0).xs).getD q 0).toNat) lr0).xs).getD r 0]) rfl Try.underlying22 sz3 rfl rfl rfl (H18.rdT 14 rfl).len (H18.ownT 14 rfl) (H18.rdT 13 rfl) (by simp only [List.length_singleton]; omega) (by simp only [List.length_singleton]; omega) fun a2 c2 w13 u7 => ?_)
        have H19 : UpG w [blk g #[.slice fa fn fc, .slice ba bn bc, .slice ma mn mc, .slice ta td.length tc, .slice wa wn wc] 117, fromC fa fn fc F, rowT (tyI .i64) (.slice ba bn bc) 3 bl, rowT tyLR (.slice ma mn mc) 22 ms, manyF (inLR (tyI .i64) 3).row ms, rowT tyTk (.slice ta td.length tc) 119 td, rowT tyLR (.slice wa wn wc) 23 wt, manyF (inLR tyB 4).row wt] w13 [[blk g #[.slice fa fn fc, .slice ba bn bc, .slice ma mn mc, .slice ta td.length tc, .slice wa wn wc] 117], [fromC fa fn fc F], [rowT (tyI .i64) (.slice ba bn bc) 3 bl], [rowT tyLR (.slice ma mn mc) 22 ms], [manyF (inLR (tyI .i64) 3).row ms], [rowT tyTk (.slice ta td.length tc) 119 td], [rowT tyLR (.slice wa wn wc) 23 w1], [manyF (inLR tyB 4).row w1], [blk w.heap.size #[.int .i64 t, .int .i64 c] 119], [mapC (fun a : Int => .int .i64 a) (fun p : LR Int => .slice p.a p.n p.c) w4.heap.size mo], [manyF innP.row (pr.eraseIdx bb)], [rowT (tyI .i64) (.slice a1 ((en ++ [bl.getD ((((((F.getD c.toNat lr0).xs).getD ((((ms.getD t.toNat lr0).xs).getD q 0).toNat) lr0).xs).getD r 0).toNat) 0]).length) c1) 3 (en ++ [bl.getD ((((((F.getD c.toNat lr0).xs).getD ((((ms.getD t.toNat lr0).xs).getD q 0).toNat) lr0).xs).getD r 0).toNat) 0])], [], [], [rowT (tyI .i64) (.slice a2 ((((pr.getD bb lr0).xs) ++ [((((F.getD c.toNat lr0).xs).getD ((((ms.getD t.toNat lr0).xs).getD q 0).toNat) lr0).xs).getD r 0]).length) c2) 3 (((pr.getD bb lr0).xs) ++ [((((F.getD c.toNat lr0).xs).getD ((((ms.getD t.toNat lr0).xs).getD q 0).toNat) lr0).xs).getD r 0])]] := (H18.on 14 rfl u7).drop 13
        refine WL.op0 (d_mapUpdate (ek := (fun a : Int => .int .i64 a)) (evl := (fun p : LR Int => .slice p.a p.n p.c)) (bl.getD ((((((F.getD c.toNat lr0).xs).getD ((((ms.getD t.toNat lr0).xs).getD q 0).toNat) lr0).xs).getD r 0).toNat) 0) ⟨a2, (((pr.getD bb lr0).xs) ++ [((((F.getD c.toNat lr0).xs).getD ((((ms.getD t.toNat lr0).xs).getD q 0).toNat) lr0).xs).getD r 0]).length, c2, ((pr.getD bb lr0).xs) ++ [((((F.getD c.toNat lr0).xs).getD ((((ms.getD t.toNat lr0).xs).getD q 0).toNat) lr0).xs).getD r 0]⟩ key3 Try.underlying133 rfl rfl rfl (H19.hpOf 9 rfl) fun w14 u8 => ?_)
        have H20 : UpG w [blk g #[.slice fa fn fc, .slice ba bn bc, .slice ma mn mc, .slice ta td.length tc, .slice wa wn wc] 117, fromC fa fn fc F, rowT (tyI .i64) (.slice ba bn bc) 3 bl, rowT tyLR (.slice ma mn mc) 22 ms, manyF (inLR (tyI .i64) 3).row ms, rowT tyTk (.slice ta td.length tc) 119 td, rowT tyLR (.slice wa wn wc) 23 wt, manyF (inLR tyB 4).row wt] w14 [[blk g #[.slice fa fn fc, .slice ba bn bc, .slice ma mn mc, .slice ta td.length tc, .slice wa wn wc] 117], [fromC fa fn fc F], [rowT (tyI .i64) (.slice ba bn bc) 3 bl], [rowT tyLR (.slice ma mn mc) 22 ms], [manyF (inLR (tyI .i64) 3).row ms], [rowT tyTk (.slice ta td.length tc) 119 td], [rowT tyLR (.slice wa wn wc) 23 w1], [manyF (inLR tyB 4).row w1], [blk w.heap.size #[.int .i64 t, .int .i64 c] 119], [mapC (fun a : Int => .int .i64 a) (fun p : LR Int => .slice p.a p.n p.c) w4.heap.size (putM mo (bl.getD ((((((F.getD c.toNat lr0).xs).getD ((((ms.getD t.toNat lr0).xs).getD q 0).toNat) lr0).xs).getD r 0).toNat) 0) ⟨a2, (((pr.getD bb lr0).xs) ++ [((((F.getD c.toNat lr0).xs).getD ((((ms.getD t.toNat lr0).xs).getD q 0).toNat) lr0).xs).getD r 0]).length, c2, ((pr.getD bb lr0).xs) ++ [((((F.getD c.toNat lr0).xs).getD ((((ms.getD t.toNat lr0).xs).getD q 0).toNat) lr0).xs).getD r 0]⟩)], [manyF innP.row (pr.eraseIdx bb)], [rowT (tyI .i64) (.slice a1 ((en ++ [bl.getD ((((((F.getD c.toNat lr0).xs).getD ((((ms.getD t.toNat lr0).xs).getD q 0).toNat) lr0).xs).getD r 0).toNat) 0]).length) c1) 3 (en ++ [bl.getD ((((((F.getD c.toNat lr0).xs).getD ((((ms.getD t.toNat lr0).xs).getD q 0).toNat) lr0).xs).getD r 0).toNat) 0])], [], [], [rowT (tyI .i64) (.slice a2 ((((pr.getD bb lr0).xs) ++ [((((F.getD c.toNat lr0).xs).getD ((((ms.getD t.toNat lr0).xs).getD q 0).toNat) lr0).xs).getD r 0]).length) c2) 3 (((pr.getD bb lr0).xs) ++ [((((F.getD c.toNat lr0).xs).getD ((((ms.getD t.toNat lr0).xs).getD q 0).toNat) lr0).xs).getD r 0])]] := H19.on 9 rfl u8
        have H21 : UpG w [blk g #[.slice fa fn fc, .slice ba bn bc, .slice ma mn mc, .slice ta td.length tc, .slice wa wn wc] 117, fromC fa fn fc F, rowT (tyI .i64) (.slice ba bn bc) 3 bl, rowT tyLR (.slice ma mn mc) 22 ms, manyF (inLR (tyI .i64) 3).row ms, rowT tyTk (.slice ta td.length tc) 119 td, rowT tyLR (.slice wa wn wc) 23 wt, manyF (inLR tyB 4).row wt] w14 [[blk g #[.slice fa fn fc, .slice ba bn bc, .slice ma mn mc, .slice ta td.length tc, .slice wa wn wc] 117], [fromC fa fn fc F], [rowT (tyI .i64) (.slice ba bn bc) 3 bl], [rowT tyLR (.slice ma mn mc) 22 ms], [manyF (inLR (tyI .i64) 3).row ms], [rowT tyTk (.slice ta td.length tc) 119 td], [rowT tyLR (.slice wa wn wc) 23 w1], [manyF (inLR tyB 4).row w1], [blk w.heap.size #[.int .i64 t, .int .i64 c] 119], [mapC (fun a : Int => .int .i64 a) (fun p : LR Int => .slice p.a p.n p.c) w4.heap.size (putM mo (bl.getD ((((((F.getD c.toNat lr0).xs).getD ((((ms.getD t.toNat lr0).xs).getD q 0).toNat) lr0).xs).getD r 0).toNat) 0) ⟨a2, (((pr.getD bb lr0).xs) ++ [((((F.getD c.toNat lr0).xs).getD ((((ms.getD t.toNat lr0).xs).getD q 0).toNat) lr0).xs).getD r 0]).length, c2, ((pr.getD bb lr0).xs) ++ [((((F.getD c.toNat lr0).xs).getD ((((ms.getD t.toNat lr0).xs).getD q 0).toNat) lr0).xs).getD r 0]⟩)], [manyF innP.row (pr.set bb ⟨a2, (((pr.getD bb lr0).xs) ++ [((((F.getD c.toNat lr0).xs).getD ((((ms.getD t.toNat lr0).xs).getD q 0).toNat) lr0).xs).getD r 0]).length, c2, ((pr.getD bb lr0).xs) ++ [((((F.getD c.toNat lr0).xs).getD ((((ms.getD t.toNat lr0).xs).getD q 0).toNat) lr0).xs).getD r 0]⟩)], [rowT (tyI .i64) (.slice a1 ((en ++ [bl.getD ((((((F.getD c.toNat lr0).xs).getD ((((ms.getD t.toNat lr0).xs).getD q 0).toNat) lr0).xs).getD r 0).toNat) 0]).length) c1) 3 (en ++ [bl.getD ((((((F.getD c.toNat lr0).xs).getD ((((ms.getD t.toNat lr0).xs).getD q 0).toNat) lr0).xs).getD r 0).toNat) 0])], [], [], []] := (H20.putBack (f := innP.row) (⟨a2, (((pr.getD bb lr0).xs) ++ [((((F.getD c.toNat lr0).xs).getD ((((ms.getD t.toNat lr0).xs).getD q 0).toNat) lr0).xs).getD r 0]).length, c2, ((pr.getD bb lr0).xs) ++ [((((F.getD c.toNat lr0).xs).getD ((((ms.getD t.toNat lr0).xs).getD q 0).toNat) lr0).xs).getD r 0]⟩ : LR Int) 10 14 bb rfl rfl rfl (by omega)).re rfl
        refine WL.done (X.block_normal (X.then_code ?_))
        obtain ⟨ii, hii, hie, _⟩ := (hop.part.mem t.toNat htn ((ms.getD t.toNat lr0).xs.getD q 0)).1 (getD_mem' (by show q < (ms.getD t.toNat lr0).xs.length; omega))
        have hFr := hF.row c.toNat (by omega)
        have hfr9 := RdT.len (show RdT (tyI .i64) w14 (.slice (((F.getD c.toNat lr0).xs.getD ((ms.getD t.toNat lr0).xs.getD q 0).toNat lr0).a) (((F.getD c.toNat lr0).xs.getD ((ms.getD t.toNat lr0).xs.getD q 0).toNat lr0).n) (((F.getD c.toNat lr0).xs.getD ((ms.getD t.toNat lr0).xs.getD q 0).toNat lr0).c)) (((F.getD c.toNat lr0).xs.getD ((ms.getD t.toNat lr0).xs.getD q 0).toNat lr0).xs) from (from_rd2 (H21.hpOf 1 rfl) (show (F.getD c.toNat lr0) ∈ F from getD_mem' (by omega))).get lr0 (((ms.getD t.toNat lr0).xs.getD q 0).toNat) (by omega))
        have hfm := hF.mem c.toNat (by omega) ii hii
        have hfnd := nodup_sub_len (hF.nd c.toNat (by omega) ii hii) (m := (List.range d.acc.length).map fun i : Nat => (i : Int)) (fun x hx => by obtain ⟨j, hj, e, _⟩ := (hfm x).1 hx; exact List.mem_map.2 ⟨j, List.mem_range.2 hj, e.symm⟩)
        have hfe : frL F c.toNat ((ii : Nat) : Int) = ((F.getD c.toNat lr0).xs.getD ((ms.getD t.toNat lr0).xs.getD q 0).toNat lr0).xs := by unfold frL; rw [← hie]
        rw [hfe] at hfnd hfm
        simp only [List.length_map, List.length_range] at hfnd
        refine W.region ?_
        refine WL.op rfl (d_add rfl rfl (by omega) (by omega) ?_)
        refine WL.op rfl (d_move rfl ?_)
        refine WL.done ?_
        exact X.next [50, 49, 48, 34, 33, 32, 5, 4, 3, 0] (Γ' := [(50, .int .i64 (((r + 1) : Nat) : Int)), (49, .int .i64 (((((F.getD c.toNat lr0).xs).getD ((((ms.getD t.toNat lr0).xs).getD q 0).toNat) lr0).n : Nat) : Int)), (48, .slice ((((F.getD c.toNat lr0).xs).getD ((((ms.getD t.toNat lr0).xs).getD q 0).toNat) lr0).a) ((((F.getD c.toNat lr0).xs).getD ((((ms.getD t.toNat lr0).xs).getD q 0).toNat) lr0).n) ((((F.getD c.toNat lr0).xs).getD ((((ms.getD t.toNat lr0).xs).getD q 0).toNat) lr0).c)), (34, .int .i64 ((q : Nat) : Int)), (33, .int .i64 (((ms.getD t.toNat lr0).n : Nat) : Int)), (32, .slice ((ms.getD t.toNat lr0).a) ((ms.getD t.toNat lr0).n) ((ms.getD t.toNat lr0).c)), (5, .map (some w4.heap.size)), (4, .slice a1 ((en ++ [bl.getD ((((((F.getD c.toNat lr0).xs).getD ((((ms.getD t.toNat lr0).xs).getD q 0).toNat) lr0).xs).getD r 0).toNat) 0]).length) c1), (3, .pointer (some ⟨w.heap.size, 0, none⟩)), (0, .pointer (some ⟨g, 0, none⟩))]) rfl (((F.getD c.toNat lr0).xs.getD ((ms.getD t.toNat lr0).xs.getD q 0).toNat lr0).xs.length - (r + 1)) (by omega) ⟨r + 1, en ++ [bl.getD ((((((F.getD c.toNat lr0).xs).getD ((((ms.getD t.toNat lr0).xs).getD q 0).toNat) lr0).xs).getD r 0).toNat) 0], a1, c1, putM mo (bl.getD ((((((F.getD c.toNat lr0).xs).getD ((((ms.getD t.toNat lr0).xs).getD q 0).toNat) lr0).xs).getD r 0).toNat) 0) ⟨a2, (((pr.getD bb lr0).xs) ++ [((((F.getD c.toNat lr0).xs).getD ((((ms.getD t.toNat lr0).xs).getD q 0).toNat) lr0).xs).getD r 0]).length, c2, ((pr.getD bb lr0).xs) ++ [((((F.getD c.toNat lr0).xs).getD ((((ms.getD t.toNat lr0).xs).getD q 0).toNat) lr0).xs).getD r 0]⟩, pr.set bb ⟨a2, (((pr.getD bb lr0).xs) ++ [((((F.getD c.toNat lr0).xs).getD ((((ms.getD t.toNat lr0).xs).getD q 0).toNat) lr0).xs).getD r 0]).length, c2, ((pr.getD bb lr0).xs) ++ [((((F.getD c.toNat lr0).xs).getD ((((ms.getD t.toNat lr0).xs).getD q 0).toNat) lr0).xs).getD r 0]⟩, rfl, (H21.re rfl), (by first | assumption | omega | simp), (by first | (have h8 : (pr.getD bb lr0).xs = [] := List.length_eq_zero_iff.1 (by omega); rw [LsN.step (by show r < ((F.getD c.toNat lr0).xs.getD ((ms.getD t.toNat lr0).xs.getD q 0).toNat lr0).xs.length; omega), hbb]; exact hP2.put (x := (((F.getD c.toNat lr0).xs.getD ((ms.getD t.toNat lr0).xs.getD q 0).toNat lr0).xs.getD r 0)) hbb hbn _ (by rw [if_pos h8])) | (have h8 : ¬ (pr.getD bb lr0).xs = [] := (fun e => by have h7 := congrArg List.length e; simp only [List.length_nil] at h7; omega); rw [LsN.step (by show r < ((F.getD c.toNat lr0).xs.getD ((ms.getD t.toNat lr0).xs.getD q 0).toNat lr0).xs.length; omega)]; exact hP2.put (x := (((F.getD c.toNat lr0).xs.getD ((ms.getD t.toNat lr0).xs.getD q 0).toNat lr0).xs.getD r 0)) hbb hbn _ (by rw [if_neg h8]))), (by rw [hbb]; exact hmm2.put (by omega)), rfl⟩
      · skip
        refine W.skip (X.then_code ?_)
        have hpbl : (pr.getD bb lr0).xs.length ≤ 4097 * 4096 := by rw [hP2.val bb hbn]; exact Nat.le_trans (List.length_filter_le _ _) hLl
        refine W.region ?_
        refine WL.op rfl (d_move rfl ?_)
        refine WL.op rfl (d_move rfl ?_)
        refine WL.op rfl (d_move rfl ?_)
        refine WL.op rfl (d_move rfl ?_)
        refine WL.op rfl (d_look1E (ek := (fun a : Int => .int .i64 a)) (evl := (fun p : LR Int => .slice p.a p.n p.c)) (bl.getD ((((((F.getD c.toNat lr0).xs).getD ((((ms.getD t.toNat lr0).xs).getD q 0).toNat) lr0).xs).getD r 0).toNat) 0) lr0 (pr.getD bb lr0) (by rw [hbb]; exact hmm2 bb (by omega)) key3 Try.underlying133 sz22 rfl rfl (H14.mapAt 9 rfl) ?_)
        refine WL.op rfl (d_move rfl ?_)
        refine WL.op rfl (t_buildSlice (T := (tyI .i64)) (xs := [((((F.getD c.toNat lr0).xs).getD ((((ms.getD t.toNat lr0).xs).getD q 0).toNat) lr0).xs).getD r 0]) (cs := #[.int .i64 (((((F.getD c.toNat lr0).xs).getD ((((ms.getD t.toNat lr0).xs).getD q 0).toNat) lr0).xs).getD r 0)]) rfl Try.underlying22 sz3 rfl rfl rfl rfl (by kernel_rfl) rfl rfl fun w15 u9 => ?_)
        have H22 : UpG w [blk g #[.slice fa fn fc, .slice ba bn bc, .slice ma mn mc, .slice ta td.length tc, .slice wa wn wc] 117, fromC fa fn fc F, rowT (tyI .i64) (.slice ba bn bc) 3 bl, rowT tyLR (.slice ma mn mc) 22 ms, manyF (inLR (tyI .i64) 3).row ms, rowT tyTk (.slice ta td.length tc) 119 td, rowT tyLR (.slice wa wn wc) 23 wt, manyF (inLR tyB 4).row wt] w15 [[blk g #[.slice fa fn fc, .slice ba bn bc, .slice ma mn mc, .slice ta td.length tc, .slice wa wn wc] 117], [fromC fa fn fc F], [rowT (tyI .i64) (.slice ba bn bc) 3 bl], [rowT tyLR (.slice ma mn mc) 22 ms], [manyF (inLR (tyI .i64) 3).row ms], [rowT tyTk (.slice ta td.length tc) 119 td], [rowT tyLR (.slice wa wn wc) 23 w1], [manyF (inLR tyB 4).row w1], [blk w.heap.size #[.int .i64 t, .int .i64 c] 119], [mapC (fun a : Int => .int .i64 a) (fun p : LR Int => .slice p.a p.n p.c) w4.heap.size mo], [manyF innP.row pr], [rowT (tyI .i64) (.slice na en.length nc) 3 en], [rowT (tyI .i64) (.slice (some ⟨w9.heap.size, 0, none⟩) ([((((F.getD c.toNat lr0).xs).getD ((((ms.getD t.toNat lr0).xs).getD q 0).toNat) lr0).xs).getD r 0].length) ([((((F.getD c.toNat lr0).xs).getD ((((ms.getD t.toNat lr0).xs).getD q 0).toNat) lr0).xs).getD r 0].length)) 3 [((((F.getD c.toNat lr0).xs).getD ((((ms.getD t.toNat lr0).xs).getD q 0).toNat) lr0).xs).getD r 0]]] := H14.new' u9
        have H23 : UpG w [blk g #[.slice fa fn fc, .slice ba bn bc, .slice ma mn mc, .slice ta td.length tc, .slice wa wn wc] 117, fromC fa fn fc F, rowT (tyI .i64) (.slice ba bn bc) 3 bl, rowT tyLR (.slice ma mn mc) 22 ms, manyF (inLR (tyI .i64) 3).row ms, rowT tyTk (.slice ta td.length tc) 119 td, rowT tyLR (.slice wa wn wc) 23 wt, manyF (inLR tyB 4).row wt] w15 [[blk g #[.slice fa fn fc, .slice ba bn bc, .slice ma mn mc, .slice ta td.length tc, .slice wa wn wc] 117], [fromC fa fn fc F], [rowT (tyI .i64) (.slice ba bn bc) 3 bl], [rowT tyLR (.slice ma mn mc) 22 ms], [manyF (inLR (tyI .i64) 3).row ms], [rowT tyTk (.slice ta td.length tc) 119 td], [rowT tyLR (.slice wa wn wc) 23 w1], [manyF (inLR tyB 4).row w1], [blk w.heap.size #[.int .i64 t, .int .i64 c] 119], [mapC (fun a : Int => .int .i64 a) (fun p : LR Int => .slice p.a p.n p.c) w4.heap.size mo], [manyF innP.row (pr.eraseIdx bb)], [rowT (tyI .i64) (.slice na en.length nc) 3 en], [rowT (tyI .i64) (.slice (some ⟨w9.heap.size, 0, none⟩) ([((((F.getD c.toNat lr0).xs).getD ((((ms.getD t.toNat lr0).xs).getD q 0).toNat) lr0).xs).getD r 0].length) ([((((F.getD c.toNat lr0).xs).getD ((((ms.getD t.toNat lr0).xs).getD q 0).toNat) lr0).xs).getD r 0].length)) 3 [((((F.getD c.toNat lr0).xs).getD ((((ms.getD t.toNat lr0).xs).getD q 0).toNat) lr0).xs).getD r 0]], [rowT (tyI .i64) (.slice ((pr.getD bb lr0).a) ((pr.getD bb lr0).n) ((pr.getD bb lr0).c)) 3 ((pr.getD bb lr0).xs)]] := H22.takeOut (f := innP.row) lr0 10 bb rfl (by omega)
        refine WL.op rfl (t_appendN (T := (tyI .i64)) (xs := ((pr.getD bb lr0).xs)) (ys := [((((F.getD c.toNat lr0).xs).getD ((((ms.getD t.toNat lr0).xs).getD q 0).toNat) lr0).xs).getD r 0]) rfl Try.underlying22 sz3 rfl rfl rfl (H23.rdT 13 rfl).len (H23.ownT 13 rfl) (H23.rdT 12 rfl) (by simp only [List.length_singleton]; omega) (by simp only [List.length_singleton]; omega) fun a3 c3 w16 u10 => ?_)
        have H24 : UpG w [blk g #[.slice fa fn fc, .slice ba bn bc, .slice ma mn mc, .slice ta td.length tc, .slice wa wn wc] 117, fromC fa fn fc F, rowT (tyI .i64) (.slice ba bn bc) 3 bl, rowT tyLR (.slice ma mn mc) 22 ms, manyF (inLR (tyI .i64) 3).row ms, rowT tyTk (.slice ta td.length tc) 119 td, rowT tyLR (.slice wa wn wc) 23 wt, manyF (inLR tyB 4).row wt] w16 [[blk g #[.slice fa fn fc, .slice ba bn bc, .slice ma mn mc, .slice ta td.length tc, .slice wa wn wc] 117], [fromC fa fn fc F], [rowT (tyI .i64) (.slice ba bn bc) 3 bl], [rowT tyLR (.slice ma mn mc) 22 ms], [manyF (inLR (tyI .i64) 3).row ms], [rowT tyTk (.slice ta td.length tc) 119 td], [rowT tyLR (.slice wa wn wc) 23 w1], [manyF (inLR tyB 4).row w1], [blk w.heap.size #[.int .i64 t, .int .i64 c] 119], [mapC (fun a : Int => .int .i64 a) (fun p : LR Int => .slice p.a p.n p.c) w4.heap.size mo], [manyF innP.row (pr.eraseIdx bb)], [rowT (tyI .i64) (.slice na en.length nc) 3 en], [], [rowT (tyI .i64) (.slice a3 ((((pr.getD bb lr0).xs) ++ [((((F.getD c.toNat lr0).xs).getD ((((ms.getD t.toNat lr0).xs).getD q 0).toNat) lr0).xs).getD r 0]).length) c3) 3 (((pr.getD bb lr0).xs) ++ [((((F.getD c.toNat lr0).xs).getD ((((ms.getD t.toNat lr0).xs).getD q 0).toNat) lr0).xs).getD r 0])]] := (H23.on 13 rfl u10).drop 12
        refine WL.op0 (d_mapUpdate (ek := (fun a : Int => .int .i64 a)) (evl := (fun p : LR Int => .slice p.a p.n p.c)) (bl.getD ((((((F.getD c.toNat lr0).xs).getD ((((ms.getD t.toNat lr0).xs).getD q 0).toNat) lr0).xs).getD r 0).toNat) 0) ⟨a3, (((pr.getD bb lr0).xs) ++ [((((F.getD c.toNat lr0).xs).getD ((((ms.getD t.toNat lr0).xs).getD q 0).toNat) lr0).xs).getD r 0]).length, c3, ((pr.getD bb lr0).xs) ++ [((((F.getD c.toNat lr0).xs).getD ((((ms.getD t.toNat lr0).xs).getD q 0).toNat) lr0).xs).getD r 0]⟩ key3 Try.underlying133 rfl rfl rfl (H24.hpOf 9 rfl) fun w17 u11 => ?_)
        have H25 : UpG w [blk g #[.slice fa fn fc, .slice ba bn bc, .slice ma mn mc, .slice ta td.length tc, .slice wa wn wc] 117, fromC fa fn fc F, rowT (tyI .i64) (.slice ba bn bc) 3 bl, rowT tyLR (.slice ma mn mc) 22 ms, manyF (inLR (tyI .i64) 3).row ms, rowT tyTk (.slice ta td.length tc) 119 td, rowT tyLR (.slice wa wn wc) 23 wt, manyF (inLR tyB 4).row wt] w17 [[blk g #[.slice fa fn fc, .slice ba bn bc, .slice ma mn mc, .slice ta td.length tc, .slice wa wn wc] 117], [fromC fa fn fc F], [rowT (tyI .i64) (.slice ba bn bc) 3 bl], [rowT tyLR (.slice ma mn mc) 22 ms], [manyF (inLR (tyI .i64) 3).row ms], [rowT tyTk (.slice ta td.length tc) 119 td], [rowT tyLR (.slice wa wn wc) 23 w1], [manyF (inLR tyB 4).row w1], [blk w.heap.size #[.int .i64 t, .int .i64 c] 119], [mapC (fun a : Int => .int .i64 a) (fun p : LR Int => .slice p.a p.n p.c) w4.heap.size (putM mo (bl.getD ((((((F.getD c.toNat lr0).xs).getD ((((ms.getD t.toNat lr0).xs).getD q 0).toNat) lr0).xs).getD r 0).toNat) 0) ⟨a3, (((pr.getD bb lr0).xs) ++ [((((F.getD c.toNat lr0).xs).getD ((((ms.getD t.toNat lr0).xs).getD q 0).toNat) lr0).xs).getD r 0]).length, c3, ((pr.getD bb lr0).xs) ++ [((((F.getD c.toNat lr0).xs).getD ((((ms.getD t.toNat lr0).xs).getD q 0).toNat) lr0).xs).getD r 0]⟩)], [manyF innP.row (pr.eraseIdx bb)], [rowT (tyI .i64) (.slice na en.length nc) 3 en], [], [rowT (tyI .i64) (.slice a3 ((((pr.getD bb lr0).xs) ++ [((((F.getD c.toNat lr0).xs).getD ((((ms.getD t.toNat lr0).xs).getD q 0).toNat) lr0).xs).getD r 0]).length) c3) 3 (((pr.getD bb lr0).xs) ++ [((((F.getD c.toNat lr0).xs).getD ((((ms.getD t.toNat lr0).xs).getD q 0).toNat) lr0).xs).getD r 0])]] := H24.on 9 rfl u11
        have H26 : UpG w [blk g #[.slice fa fn fc, .slice ba bn bc, .slice ma mn mc, .slice ta td.length tc, .slice wa wn wc] 117, fromC fa fn fc F, rowT (tyI .i64) (.slice ba bn bc) 3 bl, rowT tyLR (.slice ma mn mc) 22 ms, manyF (inLR (tyI .i64) 3).row ms, rowT tyTk (.slice ta td.length tc) 119 td, rowT tyLR (.slice wa wn wc) 23 wt, manyF (inLR tyB 4).row wt] w17 [[blk g #[.slice fa fn fc, .slice ba bn bc, .slice ma mn mc, .slice ta td.length tc, .slice wa wn wc] 117], [fromC fa fn fc F], [rowT (tyI .i64) (.slice ba bn bc) 3 bl], [rowT tyLR (.slice ma mn mc) 22 ms], [manyF (inLR (tyI .i64) 3).row ms], [rowT tyTk (.slice ta td.length tc) 119 td], [rowT tyLR (.slice wa wn wc) 23 w1], [manyF (inLR tyB 4).row w1], [blk w.heap.size #[.int .i64 t, .int .i64 c] 119], [mapC (fun a : Int => .int .i64 a) (fun p : LR Int => .slice p.a p.n p.c) w4.heap.size (putM mo (bl.getD ((((((F.getD c.toNat lr0).xs).getD ((((ms.getD t.toNat lr0).xs).getD q 0).toNat) lr0).xs).getD r 0).toNat) 0) ⟨a3, (((pr.getD bb lr0).xs) ++ [((((F.getD c.toNat lr0).xs).getD ((((ms.getD t.toNat lr0).xs).getD q 0).toNat) lr0).xs).getD r 0]).length, c3, ((pr.getD bb lr0).xs) ++ [((((F.getD c.toNat lr0).xs).getD ((((ms.getD t.toNat lr0).xs).getD q 0).toNat) lr0).xs).getD r 0]⟩)], [manyF innP.row (pr.set bb ⟨a3, (((pr.getD bb lr0).xs) ++ [((((F.getD c.toNat lr0).xs).getD ((((ms.getD t.toNat lr0).xs).getD q 0).toNat) lr0).xs).getD r 0]).length, c3, ((pr.getD bb lr0).xs) ++ [((((F.getD c.toNat lr0).xs).getD ((((ms.getD t.toNat lr0).xs).getD q 0).toNat) lr0).xs).getD r 0]⟩)], [rowT (tyI .i64) (.slice na en.length nc) 3 en], [], []] := (H25.putBack (f := innP.row) (⟨a3, (((pr.getD bb lr0).xs) ++ [((((F.getD c.toNat lr0).xs).getD ((((ms.getD t.toNat lr0).xs).getD q 0).toNat) lr0).xs).getD r 0]).length, c3, ((pr.getD bb lr0).xs) ++ [((((F.getD c.toNat lr0).xs).getD ((((ms.getD t.toNat lr0).xs).getD q 0).toNat) lr0).xs).getD r 0]⟩ : LR Int) 10 13 bb rfl rfl rfl (by omega)).re rfl
        refine WL.done (X.block_normal (X.then_code ?_))
        refine W.pick [50, 49, 48, 34, 33, 32, 5, 4, 3, 0] (Γ' := [(50, .int .i64 ((r : Nat) : Int)), (49, .int .i64 (((((F.getD c.toNat lr0).xs).getD ((((ms.getD t.toNat lr0).xs).getD q 0).toNat) lr0).n : Nat) : Int)), (48, .slice ((((F.getD c.toNat lr0).xs).getD ((((ms.getD t.toNat lr0).xs).getD q 0).toNat) lr0).a) ((((F.getD c.toNat lr0).xs).getD ((((ms.getD t.toNat lr0).xs).getD q 0).toNat) lr0).n) ((((F.getD c.toNat lr0).xs).getD ((((ms.getD t.toNat lr0).xs).getD q 0).toNat) lr0).c)), (34, .int .i64 ((q : Nat) : Int)), (33, .int .i64 (((ms.getD t.toNat lr0).n : Nat) : Int)), (32, .slice ((ms.getD t.toNat lr0).a) ((ms.getD t.toNat lr0).n) ((ms.getD t.toNat lr0).c)), (5, .map (some w4.heap.size)), (4, .slice na en.length nc), (3, .pointer (some ⟨w.heap.size, 0, none⟩)), (0, .pointer (some ⟨g, 0, none⟩))]) rfl ?_
        obtain ⟨ii, hii, hie, _⟩ := (hop.part.mem t.toNat htn ((ms.getD t.toNat lr0).xs.getD q 0)).1 (getD_mem' (by show q < (ms.getD t.toNat lr0).xs.length; omega))
        have hFr := hF.row c.toNat (by omega)
        have hfr9 := RdT.len (show RdT (tyI .i64) w17 (.slice (((F.getD c.toNat lr0).xs.getD ((ms.getD t.toNat lr0).xs.getD q 0).toNat lr0).a) (((F.getD c.toNat lr0).xs.getD ((ms.getD t.toNat lr0).xs.getD q 0).toNat lr0).n) (((F.getD c.toNat lr0).xs.getD ((ms.getD t.toNat lr0).xs.getD q 0).toNat lr0).c)) (((F.getD c.toNat lr0).xs.getD ((ms.getD t.toNat lr0).xs.getD q 0).toNat lr0).xs) from (from_rd2 (H26.hpOf 1 rfl) (show (F.getD c.toNat lr0) ∈ F from getD_mem' (by omega))).get lr0 (((ms.getD t.toNat lr0).xs.getD q 0).toNat) (by omega))
        have hfm := hF.mem c.toNat (by omega) ii hii
        have hfnd := nodup_sub_len (hF.nd c.toNat (by omega) ii hii) (m := (List.range d.acc.length).map fun i : Nat => (i : Int)) (fun x hx => by obtain ⟨j, hj, e, _⟩ := (hfm x).1 hx; exact List.mem_map.2 ⟨j, List.mem_range.2 hj, e.symm⟩)
        have hfe : frL F c.toNat ((ii : Nat) : Int) = ((F.getD c.toNat lr0).xs.getD ((ms.getD t.toNat lr0).xs.getD q 0).toNat lr0).xs := by unfold frL; rw [← hie]
        rw [hfe] at hfnd hfm
        simp only [List.length_map, List.length_range] at hfnd
        refine W.region ?_
        refine WL.op rfl (d_add rfl rfl (by omega) (by omega) ?_)
        refine WL.op rfl (d_move rfl ?_)
        refine WL.done ?_
        exact X.next [50, 49, 48, 34, 33, 32, 5, 4, 3, 0] (Γ' := [(50, .int .i64 (((r + 1) : Nat) : Int)), (49, .int .i64 (((((F.getD c.toNat lr0).xs).getD ((((ms.getD t.toNat lr0).xs).getD q 0).toNat) lr0).n : Nat) : Int)), (48, .slice ((((F.getD c.toNat lr0).xs).getD ((((ms.getD t.toNat lr0).xs).getD q 0).toNat) lr0).a) ((((F.getD c.toNat lr0).xs).getD ((((ms.getD t.toNat lr0).xs).getD q 0).toNat) lr0).n) ((((F.getD c.toNat lr0).xs).getD ((((ms.getD t.toNat lr0).xs).getD q 0).toNat) lr0).c)), (34, .int .i64 ((q : Nat) : Int)), (33, .int .i64 (((ms.getD t.toNat lr0).n : Nat) : Int)), (32, .slice ((ms.getD t.toNat lr0).a) ((ms.getD t.toNat lr0).n) ((ms.getD t.toNat lr0).c)), (5, .map (some w4.heap.size)), (4, .slice na en.length nc), (3, .pointer (some ⟨w.heap.size, 0, none⟩)), (0, .pointer (some ⟨g, 0, none⟩))]) rfl (((F.getD c.toNat lr0).xs.getD ((ms.getD t.toNat lr0).xs.getD q 0).toNat lr0).xs.length - (r + 1)) (by omega) ⟨r + 1, en, na, nc, putM mo (bl.getD ((((((F.getD c.toNat lr0).xs).getD ((((ms.getD t.toNat lr0).xs).getD q 0).toNat) lr0).xs).getD r 0).toNat) 0) ⟨a3, (((pr.getD bb lr0).xs) ++ [((((F.getD c.toNat lr0).xs).getD ((((ms.getD t.toNat lr0).xs).getD q 0).toNat) lr0).xs).getD r 0]).length, c3, ((pr.getD bb lr0).xs) ++ [((((F.getD c.toNat lr0).xs).getD ((((ms.getD t.toNat lr0).xs).getD q 0).toNat) lr0).xs).getD r 0]⟩, pr.set bb ⟨a3, (((pr.getD bb lr0).xs) ++ [((((F.getD c.toNat lr0).xs).getD ((((ms.getD t.toNat lr0).xs).getD q 0).toNat) lr0).xs).getD r 0]).length, c3, ((pr.getD bb lr0).xs) ++ [((((F.getD c.toNat lr0).xs).getD ((((ms.getD t.toNat lr0).xs).getD q 0).toNat) lr0).xs).getD r 0]⟩, rfl, (H26.re rfl), (by first | assumption | omega | simp), (by first | (have h8 : (pr.getD bb lr0).xs = [] := List.length_eq_zero_iff.1 (by omega); rw [LsN.step (by show r < ((F.getD c.toNat lr0).xs.getD ((ms.getD t.toNat lr0).xs.getD q 0).toNat lr0).xs.length; omega), hbb]; exact hP2.put (x := (((F.getD c.toNat lr0).xs.getD ((ms.getD t.toNat lr0).xs.getD q 0).toNat lr0).xs.getD r 0)) hbb hbn _ (by rw [if_pos h8])) | (have h8 : ¬ (pr.getD bb lr0).xs = [] := (fun e => by have h7 := congrArg List.length e; simp only [List.length_nil] at h7; omega); rw [LsN.step (by show r < ((F.getD c.toNat lr0).xs.getD ((ms.getD t.toNat lr0).xs.getD q 0).toNat lr0).xs.length; omega)]; exact hP2.put (x := (((F.getD c.toNat lr0).xs.getD ((ms.getD t.toNat lr0).xs.getD q 0).toNat lr0).xs.getD r 0)) hbb hbn _ (by rw [if_neg h8]))), (by rw [hbb]; exact hmm2.put (by omega)), rfl⟩
    · skip
      refine W.exit (X.then_exit (X.then_exit (X.block_exit (X.block_normal (X.then_code ?_)))))
      have hmt9 := RdT.len (show RdT (tyI .i64) w9 (.slice ((ms.getD t.toNat lr0).a) ((ms.getD t.toNat lr0).n) ((ms.getD t.toNat lr0).c)) ((ms.getD t.toNat lr0).xs) from (Inn.own (H14.hpOf 4 rfl)).get lr0 t.toNat (by omega))
      have hml := hop.part.mlen htn
      unfold mxs at hml
      refine W.region ?_
      refine WL.op rfl (d_add rfl rfl (by omega) (by omega) ?_)
      refine WL.op rfl (d_move rfl ?_)
      refine WL.done ?_
      exact X.next [34, 33, 32, 5, 4, 3, 0] (Γ' := [(34, .int .i64 (((q + 1) : Nat) : Int)), (33, .int .i64 (((ms.getD t.toNat lr0).n : Nat) : Int)), (32, .slice ((ms.getD t.toNat lr0).a) ((ms.getD t.toNat lr0).n) ((ms.getD t.toNat lr0).c)), (5, .map (some w4.heap.size)), (4, .slice na en.length nc), (3, .pointer (some ⟨w.heap.size, 0, none⟩)), (0, .pointer (some ⟨g, 0, none⟩))]) rfl ((ms.getD t.toNat lr0).xs.length - (q + 1)) (by omega) ⟨q + 1, en, na, nc, mo, pr, rfl, H14, (by first | assumption | omega | simp), (by rw [LsN.next (by show q < (ms.getD t.toNat lr0).xs.length; omega) (by show ¬ r < ((F.getD c.toNat lr0).xs.getD ((ms.getD t.toNat lr0).xs.getD q 0).toNat lr0).xs.length; omega)]; exact hP2), (by exact hmm2), rfl⟩
  · skip
    refine W.exit (X.then_exit (X.then_exit (X.block_exit (X.then_code ?_))))
    refine W.seq ?_
    refine W.region ?_
    refine WL.op rfl (d_move rfl ?_)
    refine WL.op rfl (d_lenS Try.underlying22 rfl ?_)
    refine WL.op rfl (d_move rfl ?_)
    refine WL.done (X.then_code ?_)
    refine W.block ?_
    have H27 : UpG w [blk g #[.slice fa fn fc, .slice ba bn bc, .slice ma mn mc, .slice ta td.length tc, .slice wa wn wc] 117, fromC fa fn fc F, rowT (tyI .i64) (.slice ba bn bc) 3 bl, rowT tyLR (.slice ma mn mc) 22 ms, manyF (inLR (tyI .i64) 3).row ms, rowT tyTk (.slice ta td.length tc) 119 td, rowT tyLR (.slice wa wn wc) 23 wt, manyF (inLR tyB 4).row wt] w7 [[blk g #[.slice fa fn fc, .slice ba bn bc, .slice ma mn mc, .slice ta td.length tc, .slice wa wn wc] 117], [fromC fa fn fc F], [rowT (tyI .i64) (.slice ba bn bc) 3 bl], [rowT tyLR (.slice ma mn mc) 22 ms], [manyF (inLR (tyI .i64) 3).row ms], [rowT tyTk (.slice ta td.length tc) 119 td], [rowT tyLR (.slice wa wn wc) 23 w1], [manyF (inLR tyB 4).row w1], [blk w.heap.size #[.int .i64 t, .int .i64 c] 119], [mapC (fun a : Int => .int .i64 a) (fun p : LR Int => .slice p.a p.n p.c) w4.heap.size mm], [manyF innP.row ps], [rowT (tyI .i64) (.slice ea em.length ec) 3 em]] := H12.re rfl
    have hqe : ¬ q < (mxs ms t.toNat).length := (by show ¬ q < (ms.getD t.toNat lr0).xs.length; omega)
    have hL : ∀ x, x ∈ (LsN F c.toNat (mxs ms t.toNat) q 0) ↔ ∃ i : Nat, i < d.acc.length ∧ x = (i : Int) ∧ bl.getD (dl d c.toNat i) 0 = ((t.toNat : Nat) : Int) := by rw [LsN.all hqe]; exact pre_mem hF hop.part (by omega) htn hrt
    have hLn : (LsN F c.toNat (mxs ms t.toNat) q 0).Nodup := by rw [LsN.all hqe]; exact pre_nodup hF hop.part (by omega) htn
    have hfn0 : fn = F.length := RdT.len (from_rd0 (H27.hpOf 1 rfl))
    have hnn : ∀ j, j < em.length → 0 ≤ em.getD j 0 := fun j hj => by obtain ⟨x, hx, e⟩ := (hP.mt _).1 (getD_mem' (d := 0) hj); obtain ⟨i, hi, rfl, _⟩ := (hL x).1 hx; have h9 := hop.part.rng i hi; rw [Int.toNat_natCast] at e; omega
    have heml := hP.mlen
    have hLl0 := LsN_len hF hop.part hrt (show c.toNat < F.length by omega) htn q 0
    have hLi : ∀ x, x ∈ (LsN F c.toNat (mxs ms t.toNat) q 0) → ∃ i : Nat, i < d.acc.length ∧ x = (i : Int) := fun x hx => by obtain ⟨i, hi, e, _⟩ := (hL x).1 hx; exact ⟨i, hi, e⟩
    refine W.pick [82, 81, 80, 5, 0] (Γ' := [(82, .int .i64 0), (81, .int .i64 ((em.length : Nat) : Int)), (80, .slice ea em.length ec), (5, .map (some w4.heap.size)), (0, .pointer (some ⟨g, 0, none⟩))]) rfl ?_
    refine W.loop (fun m Γ' w' => ∃ q2 : Nat, ∃ pq : List (LR Int), ∃ bq : List Int, ∃ mqa : Option Addr, ∃ mq : List (LR Int), ∃ mqc : Nat, ∃ mqn : Nat, ∃ tqa : Option Addr, ∃ tq : List (Int × Int), ∃ tqc : Nat, ∃ wqa : Option Addr, ∃ wq : List (LR Bool), ∃ wqc : Nat, ∃ wqn : Nat, Γ' = [(82, .int .i64 ((q2 : Nat) : Int)), (81, .int .i64 ((em.length : Nat) : Int)), (80, .slice ea em.length ec), (5, .map (some w4.heap.size)), (0, .pointer (some ⟨g, 0, none⟩))] ∧ UpG w [blk g #[.slice fa fn fc, .slice ba bn bc, .slice ma mn mc, .slice ta td.length tc, .slice wa wn wc] 117, fromC fa fn fc F, rowT (tyI .i64) (.slice ba bn bc) 3 bl, rowT tyLR (.slice ma mn mc) 22 ms, manyF (inLR (tyI .i64) 3).row ms, rowT tyTk (.slice ta td.length tc) 119 td, rowT tyLR (.slice wa wn wc) 23 wt, manyF (inLR tyB 4).row wt] w' [[blk g #[.slice fa fn fc, .slice ba bn bc, .slice mqa mqn mqc, .slice tqa tq.length tqc, .slice wqa wqn wqc] 117], [fromC fa fn fc F], [rowT (tyI .i64) (.slice ba bn bc) 3 bq], [rowT tyLR (.slice mqa mqn mqc) 22 mq], [manyF (inLR (tyI .i64) 3).row mq], [rowT tyTk (.slice tqa tq.length tqc) 119 tq], [rowT tyLR (.slice wqa wqn wqc) 23 wq], [manyF (inLR tyB 4).row wq], [blk w.heap.size #[.int .i64 t, .int .i64 c] 119], [mapC (fun a : Int => .int .i64 a) (fun p : LR Int => .slice p.a p.n p.c) w4.heap.size mm], [manyF innP.row pq], [rowT (tyI .i64) (.slice ea em.length ec) 3 em]] ∧ (q2 ≤ em.length) ∧ (TaskI d bl ms td (LsN F c.toNat (mxs ms t.toNat) q 0) em (TaskE d bl t.toNat c.toNat) bq mq tq wq q2) ∧ (pq.length = ms.length ∧ ∀ j, q2 ≤ j → j < em.length → pq.getD (em.getD j 0).toNat lr0 = ps.getD (em.getD j 0).toNat lr0) ∧ m = em.length - q2) (em.length - 0) ⟨0, ps, bl, ma, ms, mc, mn, ta, td, tc, wa, w1, wc, wn, rfl, H27, (by first | assumption | omega | simp), (by exact TaskI.start hop1 hP.mt), (by exact ⟨hP.len, fun j _ _ => rfl⟩), rfl⟩ ?_
    rintro m3 Γ4 w18 ⟨q2, pq, bq, mqa, mq, mqc, mqn, tqa, tq, tqc, wqa, wq, wqc, wqn, rfl, H28, hq2, hT, hpq, rfl⟩
    refine W.seq ?_
    refine W.region ?_
    refine WL.op rfl (d_cmp (decide (((q2 : Nat) : Int) < ((em.length : Nat) : Int))) rfl rfl rfl ?_)
    refine WL.done (X.then_code ?_)
    refine W.seq ?_
    refine W.ite (p := ((q2 : Nat) : Int) < ((em.length : Nat) : Int)) rfl (fun c120 => ?_) (fun c120 => ?_)
    · skip
      refine W.skip (X.then_code ?_)
      refine W.seq ?_
      refine W.block ?_
      refine W.seq ?_
      refine W.region ?_
      refine WL.op rfl (t_addr1 q2 (T := (tyI .i64)) rfl Try.underlying22 sz3 rfl rfl (H28.rdT 11 rfl) rfl (by omega) ?_)
      refine WL.op rfl (t_load1 q2 0 (T := (tyI .i64)) rfl Try.underlying3 rfl rfl (H28.rdT 11 rfl) (by omega) rfl ?_)
      refine WL.op rfl (d_assign rfl ?_)
      refine WL.done (X.then_code ?_)
      refine W.seq ?_
      obtain ⟨b2, hb2⟩ : ∃ b2 : Nat, em.getD q2 0 = ((b2 : Nat) : Int) := (by obtain ⟨x, hx, e⟩ := (hP.mt _).1 (getD_mem' (d := 0) (show q2 < em.length by omega)); obtain ⟨i, hi, rfl, _⟩ := (hL x).1 hx; have h9 := hop.part.rng i hi; rw [Int.toNat_natCast] at e; exact ⟨(em.getD q2 0).toNat, by omega⟩)
      have hb2n : b2 < ms.length := by obtain ⟨x, hx, e⟩ := (hP.mt _).1 (getD_mem' (d := 0) (show q2 < em.length by omega)); obtain ⟨i, hi, rfl, _⟩ := (hL x).1 hx; have h9 := hop.part.rng i hi; rw [Int.toNat_natCast] at e; omega
      have hb3 : (em.getD q2 0).toNat = b2 := by omega
      have hpq2 : pq.getD b2 lr0 = ps.getD b2 lr0 := by have h9 := hpq.2 q2 (Nat.le_refl _) (by omega); rwa [hb3] at h9
      have hpq1 := hpq.1
      have hmp : (getM mm ((b2 : Nat) : Int)).getD lr0 = pq.getD b2 lr0 := (hmm b2 (by rw [hP.len]; exact hb2n)).trans hpq2.symm
      have hmq := hT.cnt.1
      have hmqb := hT.hop.part.bound
      have hpb8 := RdT.len (show RdT (tyI .i64) w18 (.slice ((pq.getD b2 lr0).a) ((pq.getD b2 lr0).n) ((pq.getD b2 lr0).c)) ((pq.getD b2 lr0).xs) from (Inn.own (H28.hpOf 10 rfl)).get lr0 b2 (by omega))
      have hmb8 := RdT.len (show RdT (tyI .i64) w18 (.slice ((mq.getD b2 lr0).a) ((mq.getD b2 lr0).n) ((mq.getD b2 lr0).c)) ((mq.getD b2 lr0).xs) from (Inn.own (H28.hpOf 4 rfl)).get lr0 b2 (by omega))
      refine W.regionD mixed (by kernel_rfl) fun hok4 w19 k4 => ?_
      have H29 : UpG w [blk g #[.slice fa fn fc, .slice ba bn bc, .slice ma mn mc, .slice ta td.length tc, .slice wa wn wc] 117, fromC fa fn fc F, rowT (tyI .i64) (.slice ba bn bc) 3 bl, rowT tyLR (.slice ma mn mc) 22 ms, manyF (inLR (tyI .i64) 3).row ms, rowT tyTk (.slice ta td.length tc) 119 td, rowT tyLR (.slice wa wn wc) 23 wt, manyF (inLR tyB 4).row wt] w19 [[blk g #[.slice fa fn fc, .slice ba bn bc, .slice mqa mqn mqc, .slice tqa tq.length tqc, .slice wqa wqn wqc] 117], [fromC fa fn fc F], [rowT (tyI .i64) (.slice ba bn bc) 3 bq], [rowT tyLR (.slice mqa mqn mqc) 22 mq], [manyF (inLR (tyI .i64) 3).row mq], [rowT tyTk (.slice tqa tq.length tqc) 119 tq], [rowT tyLR (.slice wqa wqn wqc) 23 wq], [manyF (inLR tyB 4).row wq], [blk w.heap.size #[.int .i64 t, .int .i64 c] 119], [mapC (fun a : Int => .int .i64 a) (fun p : LR Int => .slice p.a p.n p.c) w4.heap.size mm], [manyF innP.row pq], [rowT (tyI .i64) (.slice ea em.length ec) 3 em]] := H28.kept k4
      refine WD.take hok4 0 (.map (some w4.heap.size)) (fun _ => True) rfl rfl rfl rfl rfl trivial (.inl ⟨rfl, fun _ _ => d_move rfl ⟨rfl, rfl⟩⟩) ?_
      refine WD.take hok4 1 (.int .i64 (em.getD q2 0)) (fun _ => True) rfl rfl rfl rfl rfl trivial (.inl ⟨rfl, fun _ _ => d_move rfl ⟨rfl, rfl⟩⟩) ?_
      refine WD.take hok4 2 (.slice ((pq.getD b2 lr0).a) ((pq.getD b2 lr0).n) ((pq.getD b2 lr0).c)) (fun w' => MapAt w' (fun a : Int => .int .i64 a) (fun p : LR Int => .slice p.a p.n p.c) w4.heap.size mm) rfl rfl rfl rfl rfl (H29.mapAt 9 rfl) (.inl ⟨rfl, fun _ hC => d_look1E (ek := (fun a : Int => .int .i64 a)) (evl := (fun p : LR Int => .slice p.a p.n p.c)) (em.getD q2 0) lr0 (pq.getD b2 lr0) (by rw [hb2]; exact hmp) key3 Try.underlying133 sz22 rfl rfl hC ⟨rfl, rfl⟩⟩) ?_
      refine WD.take hok4 3 (.int .i64 (((pq.getD b2 lr0).n : Nat) : Int)) (fun _ => True) rfl rfl rfl rfl rfl trivial (.inl ⟨rfl, fun _ _ => d_lenS Try.underlying22 rfl ⟨rfl, rfl⟩⟩) ?_
      refine WD.take hok4 4 (.pointer (some ⟨g, 0, none⟩)) (fun _ => True) rfl rfl rfl rfl rfl trivial (.inl ⟨rfl, fun _ _ => d_move rfl ⟨rfl, rfl⟩⟩) ?_
      refine WD.take hok4 5 (.pointer (some ⟨g, 0, none⟩)) (fun _ => True) rfl rfl rfl rfl rfl trivial (.inl ⟨rfl, fun _ _ => d_nilCheck rfl ⟨rfl, rfl⟩⟩) ?_
      refine WD.take hok4 6 (.pointer (some ⟨g, 2, none⟩)) (fun _ => True) rfl rfl rfl rfl rfl trivial (.inl ⟨rfl, fun _ _ => d_fieldAddrB fld117_2 rfl rfl ⟨rfl, rfl⟩⟩) ?_
      refine WD.take hok4 7 (.slice mqa mqn mqc) (fun w' => w'.heap[g]? = some (.cells #[.slice fa fn fc, .slice ba bn bc, .slice mqa mqn mqc, .slice tqa tq.length tqc, .slice wqa wqn wqc] 117 (0, 0))) rfl rfl rfl rfl rfl (H29.blk 0 rfl) (.inl ⟨rfl, fun _ hC => d_loadB Try.underlying77 rfl rfl hC rfl ⟨rfl, rfl⟩⟩) ?_
      refine WD.take hok4 8 (.int .i64 (em.getD q2 0)) (fun _ => True) rfl rfl rfl rfl rfl trivial (.inl ⟨rfl, fun _ _ => d_move rfl ⟨rfl, rfl⟩⟩) ?_
      refine WD.take hok4 9 (elemPtr (.slice mqa mqn mqc) b2) (fun w' => RdT tyLR w' (.slice mqa mqn mqc) mq) rfl rfl rfl rfl rfl (H29.rdT 3 rfl) (.inl ⟨rfl, fun _ hC => t_addr1 b2 (T := tyLR) rfl Try.underlying77 sz22 rfl rfl hC (by first | exact hb2 | omega) (by first | exact hb2 | omega) ⟨rfl, rfl⟩⟩) ?_
      refine WD.take hok4 10 (.slice ((mq.getD b2 lr0).a) ((mq.getD b2 lr0).n) ((mq.getD b2 lr0).c)) (fun w' => RdT tyLR w' (.slice mqa mqn mqc) mq) rfl rfl rfl rfl rfl (H29.rdT 3 rfl) (.inl ⟨rfl, fun _ hC => t_load1 b2 lr0 (T := tyLR) rfl Try.underlying22 rfl rfl hC (by first | exact hb2 | omega) rfl ⟨rfl, rfl⟩⟩) ?_
      refine WD.take hok4 11 (.int .i64 (((mq.getD b2 lr0).n : Nat) : Int)) (fun _ => True) rfl rfl rfl rfl rfl trivial (.inl ⟨rfl, fun _ _ => d_lenS Try.underlying22 rfl ⟨rfl, rfl⟩⟩) ?_
      refine WD.take hok4 12 (.bool (decide ((((pq.getD b2 lr0).n : Nat) : Int) < (((mq.getD b2 lr0).n : Nat) : Int)))) (fun _ => True) rfl rfl rfl rfl rfl trivial (.inl ⟨rfl, fun _ _ => d_cmp (decide ((((pq.getD b2 lr0).n : Nat) : Int) < (((mq.getD b2 lr0).n : Nat) : Int))) rfl rfl rfl ⟨rfl, rfl⟩⟩) ?_
      refine WD.done hok4 rfl (X.then_code ?_)
      refine W.ite (p := (((pq.getD b2 lr0).n : Nat) : Int) < (((mq.getD b2 lr0).n : Nat) : Int)) rfl (fun c121 => ?_) (fun c121 => ?_)
      · skip
        have H30 : UpG w [blk g #[.slice fa fn fc, .slice ba bn bc, .slice ma mn mc, .slice ta td.length tc, .slice wa wn wc] 117, fromC fa fn fc F, rowT (tyI .i64) (.slice ba bn bc) 3 bl, rowT tyLR (.slice ma mn mc) 22 ms, manyF (inLR (tyI .i64) 3).row ms, rowT tyTk (.slice ta td.length tc) 119 td, rowT tyLR (.slice wa wn wc) 23 wt, manyF (inLR tyB 4).row wt] w19 [[blk g #[.slice fa fn fc, .slice ba bn bc, .slice mqa mqn mqc, .slice tqa tq.length tqc, .slice wqa wqn wqc] 117], [fromC fa fn fc F], [rowT (tyI .i64) (.slice ba bn bc) 3 bq], [rowT tyLR (.slice mqa mqn mqc) 22 mq], [manyF (inLR (tyI .i64) 3).row mq], [rowT tyTk (.slice tqa tq.length tqc) 119 tq], [rowT tyLR (.slice wqa wqn wqc) 23 wq], [manyF (inLR tyB 4).row wq], [blk w.heap.size #[.int .i64 t, .int .i64 c] 119], [mapC (fun a : Int => .int .i64 a) (fun p : LR Int => .slice p.a p.n p.c) w4.heap.size mm], [manyF innP.row (pq.eraseIdx b2)], [rowT (tyI .i64) (.slice ea em.length ec) 3 em], [rowT (tyI .i64) (.slice ((pq.getD b2 lr0).a) ((pq.getD b2 lr0).n) ((pq.getD b2 lr0).c)) 3 ((pq.getD b2 lr0).xs)]] := H29.takeOut (f := innP.row) lr0 10 b2 rfl (by omega)
        have hmo := met_out hT hop.part (fun x hx => by obtain ⟨i, hi, e, _⟩ := (hL x).1 hx; exact ⟨i, hi, e⟩) hP (by omega) hb2 hb2n
        have hqm := hT.hop.part.mlen (b := b2) (by omega)
        have hqw := hT.hop.wait.len
        have hqbl := hT.hop.part.len
        have hcntm : mq.length * (usedI d).length ≤ 4096 * 259 := Nat.mul_le_mul (by omega) (by omega)
        have hcnt := hT.cnt.2
        refine W.region ?_
        refine WL.op rfl (d_move rfl ?_)
        refine WL.op rfl (d_move rfl ?_)
        refine WL.op rfl (d_move rfl ?_)
        refine WL.op rfl (d_move rfl ?_)
        refine WL.op rfl (d_look1E (ek := (fun a : Int => .int .i64 a)) (evl := (fun p : LR Int => .slice p.a p.n p.c)) (em.getD q2 0) lr0 (pq.getD b2 lr0) (by rw [hb2]; exact hmp) key3 Try.underlying133 sz22 rfl rfl (H30.mapAt 9 rfl) ?_)
        have H31 : UpG w [blk g #[.slice fa fn fc, .slice ba bn bc, .slice ma mn mc, .slice ta td.length tc, .slice wa wn wc] 117, fromC fa fn fc F, rowT (tyI .i64) (.slice ba bn bc) 3 bl, rowT tyLR (.slice ma mn mc) 22 ms, manyF (inLR (tyI .i64) 3).row ms, rowT tyTk (.slice ta td.length tc) 119 td, rowT tyLR (.slice wa wn wc) 23 wt, manyF (inLR tyB 4).row wt] w19 [[blk g #[.slice fa fn fc, .slice ba bn bc, .slice mqa mqn mqc, .slice tqa tq.length tqc, .slice wqa wqn wqc] 117, rowT (tyI .i64) (.slice ba bn bc) 3 bq, rowT tyLR (.slice mqa mqn mqc) 22 mq, manyF (inLR (tyI .i64) 3).row mq, rowT tyTk (.slice tqa tq.length tqc) 119 tq, rowT tyLR (.slice wqa wqn wqc) 23 wq, manyF (inLR tyB 4).row wq], [fromC fa fn fc F], [blk w.heap.size #[.int .i64 t, .int .i64 c] 119], [mapC (fun a : Int => .int .i64 a) (fun p : LR Int => .slice p.a p.n p.c) w4.heap.size mm], [manyF innP.row (pq.eraseIdx b2)], [rowT (tyI .i64) (.slice ea em.length ec) 3 em], [rowT (tyI .i64) (.slice ((pq.getD b2 lr0).a) ((pq.getD b2 lr0).n) ((pq.getD b2 lr0).c)) 3 ((pq.getD b2 lr0).xs)]] := UpG.of (Upd.sel H30 (l := [0, 2, 3, 4, 5, 6, 7, 1, 8, 9, 10, 11, 12]) rfl rfl) rfl
        refine WL.op rfl (d_call ok99 rfl (Ret.calls (hsplit_any g (em.getD q2 0) ((pq.getD b2 lr0).a) ((pq.getD b2 lr0).xs) ((pq.getD b2 lr0).c) ((pq.getD b2 lr0).n) fa fc fn ba bq bc bn mqa mq mqc mqn tqa tq tqc wqa wq wqc wqn w19 (H31.hp2 0 6 rfl rfl rfl)  (by omega) hqw (fun i hi => by rw [hT.hop.wait.row i (by omega)]; omega) (fun x hx => by rw [hpq2] at hx; obtain ⟨i, hi, e, _⟩ := (hT.hop.part.mem b2 (by omega) x).1 ((hmo.1 x).1 hx).2; omega) (by omega) (by omega) (by omega) (by rw [hb3]; unfold mxs at hqm; omega)) fun _ w20 p1 => ?_))
        obtain ⟨bl2_1, ma2_1, ms2_1, mc2_1, ta2_1, td2_1, tc2_1, wa2_1, wt2_1, wc2_1, wn2_1, rfl, u12, q1⟩ := p1
        have H32 : UpG w [blk g #[.slice fa fn fc, .slice ba bn bc, .slice ma mn mc, .slice ta td.length tc, .slice wa wn wc] 117, fromC fa fn fc F, rowT (tyI .i64) (.slice ba bn bc) 3 bl, rowT tyLR (.slice ma mn mc) 22 ms, manyF (inLR (tyI .i64) 3).row ms, rowT tyTk (.slice ta td.length tc) 119 td, rowT tyLR (.slice wa wn wc) 23 wt, manyF (inLR tyB 4).row wt] w20 [[blk g #[.slice fa fn fc, .slice ba bn bc, .slice ma2_1 ms2_1.length mc2_1, .slice ta2_1 td2_1.length tc2_1, .slice wa2_1 wn2_1 wc2_1] 117, rowT (tyI .i64) (.slice ba bn bc) 3 bl2_1, rowT tyLR (.slice ma2_1 ms2_1.length mc2_1) 22 ms2_1, manyF (inLR (tyI .i64) 3).row ms2_1, rowT tyTk (.slice ta2_1 td2_1.length tc2_1) 119 td2_1, rowT tyLR (.slice wa2_1 wn2_1 wc2_1) 23 wt2_1, manyF (inLR tyB 4).row wt2_1], [fromC fa fn fc F], [blk w.heap.size #[.int .i64 t, .int .i64 c] 119], [mapC (fun a : Int => .int .i64 a) (fun p : LR Int => .slice p.a p.n p.c) w4.heap.size mm], [manyF innP.row (pq.eraseIdx b2)], [rowT (tyI .i64) (.slice ea em.length ec) 3 em], []] := (H31.on2 (A' := [blk g #[.slice fa fn fc, .slice ba bn bc, .slice ma2_1 ms2_1.length mc2_1, .slice ta2_1 td2_1.length tc2_1, .slice wa2_1 wn2_1 wc2_1] 117, rowT (tyI .i64) (.slice ba bn bc) 3 bl2_1, rowT tyLR (.slice ma2_1 ms2_1.length mc2_1) 22 ms2_1, manyF (inLR (tyI .i64) 3).row ms2_1, rowT tyTk (.slice ta2_1 td2_1.length tc2_1) 119 td2_1, rowT tyLR (.slice wa2_1 wn2_1 wc2_1) 23 wt2_1, manyF (inLR tyB 4).row wt2_1]) (B' := []) (C := []) 0 6 rfl rfl rfl u12).re rfl
        refine WL.done (X.block_normal (X.then_code ?_))
        refine W.region ?_
        refine WL.op rfl (d_add rfl rfl (by omega) (by omega) ?_)
        refine WL.op rfl (d_move rfl ?_)
        refine WL.done ?_
        have H33 : UpG w [blk g #[.slice fa fn fc, .slice ba bn bc, .slice ma mn mc, .slice ta td.length tc, .slice wa wn wc] 117, fromC fa fn fc F, rowT (tyI .i64) (.slice ba bn bc) 3 bl, rowT tyLR (.slice ma mn mc) 22 ms, manyF (inLR (tyI .i64) 3).row ms, rowT tyTk (.slice ta td.length tc) 119 td, rowT tyLR (.slice wa wn wc) 23 wt, manyF (inLR tyB 4).row wt] w20 [[blk g #[.slice fa fn fc, .slice ba bn bc, .slice ma2_1 ms2_1.length mc2_1, .slice ta2_1 td2_1.length tc2_1, .slice wa2_1 wn2_1 wc2_1] 117, rowT (tyI .i64) (.slice ba bn bc) 3 bl2_1, rowT tyLR (.slice ma2_1 ms2_1.length mc2_1) 22 ms2_1, manyF (inLR (tyI .i64) 3).row ms2_1, rowT tyTk (.slice ta2_1 td2_1.length tc2_1) 119 td2_1, rowT tyLR (.slice wa2_1 wn2_1 wc2_1) 23 wt2_1, manyF (inLR tyB 4).row wt2_1], [fromC fa fn fc F], [blk w.heap.size #[.int .i64 t, .int .i64 c] 119], [mapC (fun a : Int => .int .i64 a) (fun p : LR Int => .slice p.a p.n p.c) w4.heap.size mm], [manyF innP.row (pq.eraseIdx b2)], [rowT (tyI .i64) (.slice ea em.length ec) 3 em], [], [rowT (tyI .i64) (.slice none (([] : List Int).length) 0) 3 ([] : List Int)]] := H32.new' (Upd.nilRowT w20 (tyI .i64) 3)
        have H34 : UpG w [blk g #[.slice fa fn fc, .slice ba bn bc, .slice ma mn mc, .slice ta td.length tc, .slice wa wn wc] 117, fromC fa fn fc F, rowT (tyI .i64) (.slice ba bn bc) 3 bl, rowT tyLR (.slice ma mn mc) 22 ms, manyF (inLR (tyI .i64) 3).row ms, rowT tyTk (.slice ta td.length tc) 119 td, rowT tyLR (.slice wa wn wc) 23 wt, manyF (inLR tyB 4).row wt] w20 [[blk g #[.slice fa fn fc, .slice ba bn bc, .slice ma2_1 ms2_1.length mc2_1, .slice ta2_1 td2_1.length tc2_1, .slice wa2_1 wn2_1 wc2_1] 117, rowT (tyI .i64) (.slice ba bn bc) 3 bl2_1, rowT tyLR (.slice ma2_1 ms2_1.length mc2_1) 22 ms2_1, manyF (inLR (tyI .i64) 3).row ms2_1, rowT tyTk (.slice ta2_1 td2_1.length tc2_1) 119 td2_1, rowT tyLR (.slice wa2_1 wn2_1 wc2_1) 23 wt2_1, manyF (inLR tyB 4).row wt2_1], [fromC fa fn fc F], [blk w.heap.size #[.int .i64 t, .int .i64 c] 119], [mapC (fun a : Int => .int .i64 a) (fun p : LR Int => .slice p.a p.n p.c) w4.heap.size mm], [manyF innP.row (pq.set b2 lr0)], [rowT (tyI .i64) (.slice ea em.length ec) 3 em], [], []] := (H33.putBack (f := innP.row) (lr0 : LR Int) 4 7 b2 rfl rfl rfl (by omega)).re rfl
        have H35 : UpG w [blk g #[.slice fa fn fc, .slice ba bn bc, .slice ma mn mc, .slice ta td.length tc, .slice wa wn wc] 117, fromC fa fn fc F, rowT (tyI .i64) (.slice ba bn bc) 3 bl, rowT tyLR (.slice ma mn mc) 22 ms, manyF (inLR (tyI .i64) 3).row ms, rowT tyTk (.slice ta td.length tc) 119 td, rowT tyLR (.slice wa wn wc) 23 wt, manyF (inLR tyB 4).row wt] w20 [[blk g #[.slice fa fn fc, .slice ba bn bc, .slice ma2_1 ms2_1.length mc2_1, .slice ta2_1 td2_1.length tc2_1, .slice wa2_1 wn2_1 wc2_1] 117], [rowT (tyI .i64) (.slice ba bn bc) 3 bl2_1], [rowT tyLR (.slice ma2_1 ms2_1.length mc2_1) 22 ms2_1], [manyF (inLR (tyI .i64) 3).row ms2_1], [rowT tyTk (.slice ta2_1 td2_1.length tc2_1) 119 td2_1], [rowT tyLR (.slice wa2_1 wn2_1 wc2_1) 23 wt2_1], [manyF (inLR tyB 4).row wt2_1], [fromC fa fn fc F], [blk w.heap.size #[.int .i64 t, .int .i64 c] 119], [mapC (fun a : Int => .int .i64 a) (fun p : LR Int => .slice p.a p.n p.c) w4.heap.size mm], [manyF innP.row (pq.set b2 lr0)], [rowT (tyI .i64) (.slice ea em.length ec) 3 em], [], []] := H34.re rfl
        exact X.next [82, 81, 80, 5, 0] (Γ' := [(82, .int .i64 (((q2 + 1) : Nat) : Int)), (81, .int .i64 ((em.length : Nat) : Int)), (80, .slice ea em.length ec), (5, .map (some w4.heap.size)), (0, .pointer (some ⟨g, 0, none⟩))]) rfl (em.length - (q2 + 1)) (by omega) ⟨q2 + 1, pq.set b2 lr0, bl2_1, ma2_1, ms2_1, mc2_1, ms2_1.length, ta2_1, td2_1, tc2_1, wa2_1, wt2_1, wc2_1, wn2_1, rfl, (UpG.of (G := [[blk g #[.slice fa fn fc, .slice ba bn bc, .slice ma2_1 ms2_1.length mc2_1, .slice ta2_1 td2_1.length tc2_1, .slice wa2_1 wn2_1 wc2_1] 117], [fromC fa fn fc F], [rowT (tyI .i64) (.slice ba bn bc) 3 bl2_1], [rowT tyLR (.slice ma2_1 ms2_1.length mc2_1) 22 ms2_1], [manyF (inLR (tyI .i64) 3).row ms2_1], [rowT tyTk (.slice ta2_1 td2_1.length tc2_1) 119 td2_1], [rowT tyLR (.slice wa2_1 wn2_1 wc2_1) 23 wt2_1], [manyF (inLR tyB 4).row wt2_1], [blk w.heap.size #[.int .i64 t, .int .i64 c] 119], [mapC (fun a : Int => .int .i64 a) (fun p : LR Int => .slice p.a p.n p.c) w4.heap.size mm], [manyF innP.row (pq.set b2 lr0)], [rowT (tyI .i64) (.slice ea em.length ec) 3 em]]) (Upd.sel H35 (M := [blk g #[.slice fa fn fc, .slice ba bn bc, .slice ma2_1 ms2_1.length mc2_1, .slice ta2_1 td2_1.length tc2_1, .slice wa2_1 wn2_1 wc2_1] 117, fromC fa fn fc F, rowT (tyI .i64) (.slice ba bn bc) 3 bl2_1, rowT tyLR (.slice ma2_1 ms2_1.length mc2_1) 22 ms2_1, manyF (inLR (tyI .i64) 3).row ms2_1, rowT tyTk (.slice ta2_1 td2_1.length tc2_1) 119 td2_1, rowT tyLR (.slice wa2_1 wn2_1 wc2_1) 23 wt2_1, manyF (inLR tyB 4).row wt2_1, blk w.heap.size #[.int .i64 t, .int .i64 c] 119, mapC (fun a : Int => .int .i64 a) (fun p : LR Int => .slice p.a p.n p.c) w4.heap.size mm, manyF innP.row (pq.set b2 lr0), rowT (tyI .i64) (.slice ea em.length ec) 3 em]) (l := [0, 7, 1, 2, 3, 4, 5, 6, 8, 9, 10, 11]) rfl rfl) rfl), (by first | assumption | omega | simp), (by first | (rw [hb3, hpq2, show fn = (usedI d).length by omega] at q1; exact hT.split hrt hop.part hop.snd hL hcn hLn hP (by omega) hb2 hb2n (by show (ps.getD b2 lr0).xs.length < (mq.getD b2 lr0).xs.length; rw [← hpq2]; omega) q1) | exact hT.skip hop.part hLi hLn hP (by omega) hb2 hb2n (by show ¬ (ps.getD b2 lr0).xs.length < (mq.getD b2 lr0).xs.length; rw [← hpq2]; omega)), (by first | exact pq_next hP.nd hnn hpq (by omega) hb2 hb2n | exact ⟨hpq1, fun j h1 h2 => hpq.2 j (by omega) h2⟩), rfl⟩
      · skip
        refine W.skip (X.block_normal (X.then_code ?_))
        refine W.region ?_
        refine WL.op rfl (d_add rfl rfl (by omega) (by omega) ?_)
        refine WL.op rfl (d_move rfl ?_)
        refine WL.done ?_
        have H36 : UpG w [blk g #[.slice fa fn fc, .slice ba bn bc, .slice ma mn mc, .slice ta td.length tc, .slice wa wn wc] 117, fromC fa fn fc F, rowT (tyI .i64) (.slice ba bn bc) 3 bl, rowT tyLR (.slice ma mn mc) 22 ms, manyF (inLR (tyI .i64) 3).row ms, rowT tyTk (.slice ta td.length tc) 119 td, rowT tyLR (.slice wa wn wc) 23 wt, manyF (inLR tyB 4).row wt] w19 [[blk g #[.slice fa fn fc, .slice ba bn bc, .slice mqa mqn mqc, .slice tqa tq.length tqc, .slice wqa wqn wqc] 117], [fromC fa fn fc F], [rowT (tyI .i64) (.slice ba bn bc) 3 bq], [rowT tyLR (.slice mqa mqn mqc) 22 mq], [manyF (inLR (tyI .i64) 3).row mq], [rowT tyTk (.slice tqa tq.length tqc) 119 tq], [rowT tyLR (.slice wqa wqn wqc) 23 wq], [manyF (inLR tyB 4).row wq], [blk w.heap.size #[.int .i64 t, .int .i64 c] 119], [mapC (fun a : Int => .int .i64 a) (fun p : LR Int => .slice p.a p.n p.c) w4.heap.size mm], [manyF innP.row pq], [rowT (tyI .i64) (.slice ea em.length ec) 3 em]] := H29.re rfl
        exact X.next [82, 81, 80, 5, 0] (Γ' := [(82, .int .i64 (((q2 + 1) : Nat) : Int)), (81, .int .i64 ((em.length : Nat) : Int)), (80, .slice ea em.length ec), (5, .map (some w4.heap.size)), (0, .pointer (some ⟨g, 0, none⟩))]) rfl (em.length - (q2 + 1)) (by omega) ⟨q2 + 1, pq, bq, mqa, mq, mqc, mqn, tqa, tq, tqc, wqa, wq, wqc, wqn, rfl, H36, (by first | assumption | omega | simp), (by first | (rw [hb3, hpq2, show fn = (usedI d).length by omega] at q1; exact hT.split hrt hop.part hop.snd hL hcn hLn hP (by omega) hb2 hb2n (by show (ps.getD b2 lr0).xs.length < (mq.getD b2 lr0).xs.length; rw [← hpq2]; omega) q1) | exact hT.skip hop.part hLi hLn hP (by omega) hb2 hb2n (by show ¬ (ps.getD b2 lr0).xs.length < (mq.getD b2 lr0).xs.length; rw [← hpq2]; omega)), (by first | exact pq_next hP.nd hnn hpq (by omega) hb2 hb2n | exact ⟨hpq1, fun j h1 h2 => hpq.2 j (by omega) h2⟩), rfl⟩
    · skip
      refine W.exit (X.then_exit (X.then_exit (X.block_exit (X.end0 rfl ?_))))
      exact ⟨bq, mqa, mq, mqc, mqn, tqa, tq, tqc, wqa, wq, wqc, wqn, rfl, (Upd.sel H28 (l := [0, 1, 2, 3, 4, 5, 6, 7]) rfl rfl), (hT.fin (by omega) hL), hT.cnt⟩
end Go.Proofs.Ytoeockpkkmgieaa


/- The start of parting states into blocks: who comes from where, class by class; those that accept and the others. Conditions: those of each theorem. -/
namespace Go.Sx
set_option linter.unusedVariables false
/-- The rows of rows of rows, flat; rows of a list that is gone through. -/
abbrev innF : Inn (LR Int) Int := inLR (tyI .i64) 3
abbrev innZ : Inn (LR Int) Int := inLR (tyI .i64) 3
theorem UpG.joinFlat {w w' : World} {L : List Chunk} {G : List (List Chunk)} {f : LR Int → Chunk} {F : List (LR (LR Int))} (p : LR (LR Int)) (h : UpG w L w' G) (i j : Nat) (hij : Nat.beq i j = false) (hi : G[i]? = some [manyF f (F.flatMap LR.xs)]) (hj : G[j]? = some [manyF f p.xs]) :
    UpG w L w' ((G.set i [manyF f ((F ++ [p]).flatMap LR.xs)]).set j [] ++ [[]]) := by
  have h1 := h.joinMany i j hij hi hj
  have e : (F ++ [p]).flatMap LR.xs = F.flatMap LR.xs ++ p.xs := by simp
  rw [e]; exact h1
end Go.Sx
namespace Go.Proofs.Ytoeockpkkmgieaa
open Go Go.Sx
set_option linter.unusedVariables false
set_option linter.unusedSimpArgs false
/-! ### Who comes from where -/
structure PrK (d : DfaD) (k : Nat) (ps : List (LR Int)) (i : Nat) : Prop where
  len : ps.length = d.acc.length
  mem : ∀ t : Nat, t < d.acc.length → ∀ x : Int, x ∈ (ps.getD t lr0).xs ↔ ∃ j : Nat, j < i ∧ x = (j : Int) ∧ dl d k j = t
  nd : ∀ t : Nat, t < d.acc.length → (ps.getD t lr0).xs.Nodup
  size : ∀ t : Nat, t < d.acc.length → (ps.getD t lr0).xs.length ≤ i
theorem PrK.start (d : DfaD) (k : Nat) : PrK d k (List.replicate d.acc.length lr0) 0 := by
  have e : ∀ t : Nat, ((List.replicate d.acc.length (lr0 : LR Int)).getD t lr0).xs = [] := fun t => by
    simp only [List.getD_eq_getElem?_getD, List.getElem?_replicate]; split <;> rfl
  exact ⟨by simp, fun t ht x => by rw [e]; simp, fun t ht => by rw [e]; simp, fun t ht => by rw [e]; simp⟩
theorem PrK.step {d : DfaD} {k i q : Nat} {ps : List (LR Int)} {a : Option Addr} {c m : Nat} (h : PrK d k ps i) (hq : dl d k i = q) (hqn : q < d.acc.length) : PrK d k (ps.set q ⟨a, m, c, (ps.getD q lr0).xs ++ [(i : Int)]⟩) (i + 1) := by
  have hl : q < ps.length := by rw [h.len]; exact hqn
  refine ⟨by simp [h.len], fun t ht x => ?_, fun t ht => ?_, fun t ht => ?_⟩
  · rw [getD_setLP hl]
    by_cases e : q = t
    · subst e
      rw [if_pos rfl]
      show x ∈ (ps.getD q lr0).xs ++ [(i : Int)] ↔ _
      rw [List.mem_append, h.mem q ht, List.mem_singleton]
      constructor
      · rintro (⟨j, h1, h2, h3⟩ | h1)
        · exact ⟨j, by omega, h2, h3⟩
        · exact ⟨i, by omega, h1, hq⟩
      · rintro ⟨j, h1, h2, h3⟩
        by_cases e2 : j = i
        · subst e2; exact .inr h2
        · exact .inl ⟨j, by omega, h2, h3⟩
    · rw [if_neg e, h.mem t ht]
      constructor
      · rintro ⟨j, h1, h2, h3⟩; exact ⟨j, by omega, h2, h3⟩
      · rintro ⟨j, h1, h2, h3⟩
        by_cases e2 : j = i
        · subst e2; exact absurd (hq.symm.trans h3) e
        · exact ⟨j, by omega, h2, h3⟩
  · rw [getD_setLP hl]
    split
    · rename_i e; subst e
      show ((ps.getD q lr0).xs ++ [(i : Int)]).Nodup
      refine List.nodup_append.2 ⟨h.nd q ht, by simp, fun u hu v hv e => ?_⟩
      rw [List.mem_singleton.1 hv] at e
      obtain ⟨j, h1, h2, _⟩ := (h.mem q ht u).1 hu
      omega
    · exact h.nd t ht
  · rw [getD_setLP hl]
    split
    · rename_i e; subst e
      show ((ps.getD q lr0).xs ++ [(i : Int)]).length ≤ i + 1
      have := h.size q ht
      rw [List.length_append, List.length_singleton]; omega
    · have := h.size t ht; omega
structure FromK (d : DfaD) (F : List (LR (LR Int))) (n : Nat) : Prop where
  len : F.length = n
  row : ∀ k, k < n → (F.getD k lr0).xs.length = d.acc.length
  mem : ∀ k, k < n → ∀ t : Nat, t < d.acc.length → ∀ x : Int, x ∈ frL F k (t : Int) ↔ ∃ i : Nat, i < d.acc.length ∧ x = (i : Int) ∧ dl d k i = t
  nd : ∀ k, k < n → ∀ t : Nat, t < d.acc.length → (frL F k (t : Int)).Nodup
theorem FromK.start (d : DfaD) : FromK d [] 0 := ⟨rfl, fun k h => by omega, fun k h => by omega, fun k h => by omega⟩
theorem FromK.step {d : DfaD} {F : List (LR (LR Int))} {k i : Nat} {ps : List (LR Int)} {a : Option Addr} {m c : Nat} (h : FromK d F k) (hp : PrK d k ps i) (hi : i = d.acc.length) : FromK d (F ++ [⟨a, m, c, ps⟩]) (k + 1) := by
  subst hi
  have hl := h.len
  have e1 : ∀ j, j < k → (F ++ [(⟨a, m, c, ps⟩ : LR (LR Int))]).getD j lr0 = F.getD j lr0 := fun j hj => getD_preL (by omega)
  have e2 : (F ++ [(⟨a, m, c, ps⟩ : LR (LR Int))]).getD k lr0 = ⟨a, m, c, ps⟩ := by rw [← hl]; exact getD_snocL
  refine ⟨by simp [hl], fun j hj => ?_, fun j hj t ht x => ?_, fun j hj t ht => ?_⟩
  · by_cases e : j = k
    · subst e; rw [e2]; exact hp.len
    · rw [e1 j (by omega)]; exact h.row j (by omega)
  · unfold frL
    by_cases e : j = k
    · subst e; rw [e2, Int.toNat_natCast]; exact hp.mem t ht x
    · rw [e1 j (by omega)]; exact h.mem j (by omega) t ht x
  · unfold frL
    by_cases e : j = k
    · subst e; rw [e2, Int.toNat_natCast]; exact hp.nd t ht
    · rw [e1 j (by omega)]; exact h.nd j (by omega) t ht
theorem FromK.fin {d : DfaD} {F : List (LR (LR Int))} {k : Nat} (h : FromK d F k) (hk : k = (usedI d).length) : FromP d F := by
  subst hk
  have hl := h.len
  exact ⟨hl, fun k hk => h.row k (by omega), fun k hk => h.mem k (by omega), fun k hk => h.nd k (by omega)⟩
/-! ### Those that accept, and the others -/
def splL (d : DfaD) (b : Bool) (k : Nat) : List Int := List.map (fun i : Nat => (i : Int)) (List.filter (fun i : Nat => d.acc.getD i false == b) (List.range k))
theorem splL_mem {d : DfaD} {b : Bool} {k : Nat} {x : Int} : x ∈ splL d b k ↔ ∃ i : Nat, i < k ∧ x = (i : Int) ∧ d.acc.getD i false = b := by
  simp only [splL, List.mem_map, List.mem_filter, List.mem_range, beq_iff_eq]
  constructor
  · rintro ⟨i, ⟨h1, h2⟩, rfl⟩; exact ⟨i, h1, rfl, h2⟩
  · rintro ⟨i, h1, rfl, h2⟩; exact ⟨i, ⟨h1, h2⟩, rfl⟩
theorem splL_nd (d : DfaD) (b : Bool) (k : Nat) : (splL d b k).Nodup := by
  rw [splL, List.nodup_iff_pairwise_ne, List.pairwise_map]
  exact (List.nodup_iff_pairwise_ne.1 (List.nodup_range.sublist List.filter_sublist)).imp (fun hne e => hne (by omega))
theorem splL_len (d : DfaD) (b : Bool) (k : Nat) : (splL d b k).length ≤ k := by
  have := List.length_filter_le (fun i => d.acc.getD i false == b) (List.range k)
  simp only [splL, List.length_map]; simpa using this
theorem splL_yes {d : DfaD} {b : Bool} {k : Nat} (h : d.acc.getD k false = b) : splL d b k ++ [(k : Int)] = splL d b (k + 1) := by
  rw [List.getD_eq_getElem?_getD] at h; simp [splL, List.range_succ, List.filter_append, h]
theorem splL_no {d : DfaD} {b : Bool} {k : Nat} (h : ¬ d.acc.getD k false = b) : splL d b k = splL d b (k + 1) := by
  rw [List.getD_eq_getElem?_getD] at h; simp [splL, List.range_succ, List.filter_append, h]
def twoL (d : DfaD) : List (List Int) := [splL d false d.acc.length, splL d true d.acc.length]
structure PreI (d : DfaD) (K : Nat) (bq : List Int) (mq : List (LR Int)) (wq : List (LR Bool)) (k : Nat) : Prop where
  bl : bq.length = d.acc.length
  sub : mq.map LR.xs = ((twoL d).take k).filter (fun l => !l.isEmpty)
  bv : ∀ b, b < mq.length → ∀ x, x ∈ mxs mq b → bq.getD x.toNat 0 = ((b : Nat) : Int)
  wl : wq.length = mq.length
  wf : ∀ i, i < wq.length → (wq.getD i lr0).xs = List.replicate K false
theorem PreI.start {d : DfaD} {K n : Nat} (h : n = d.acc.length) : PreI d K (List.replicate n 0) [] [] 0 := ⟨by simp [h], rfl, fun b hb => by simp at hb, rfl, fun i hi => by simp at hi⟩
theorem PreI.mlen {d : DfaD} {K : Nat} {bq : List Int} {mq : List (LR Int)} {wq : List (LR Bool)} {k : Nat} (h : PreI d K bq mq wq k) : mq.length ≤ 2 := by
  have h1 := congrArg List.length h.sub
  rw [List.length_map] at h1
  rw [h1]
  refine Nat.le_trans (List.length_filter_le _ _) ?_
  rw [List.length_take]; exact Nat.min_le_right _ _
theorem mxs_map {mq : List (LR Int)} {b : Nat} (hb : b < mq.length) : (mq.map LR.xs)[b]? = some (mxs mq b) := by
  unfold mxs; rw [List.getElem?_map, List.getElem?_eq_getElem hb]; simp [List.getD_eq_getElem?_getD, List.getElem?_eq_getElem hb]
theorem PreI.block {d : DfaD} {K : Nat} {bq : List Int} {mq : List (LR Int)} {wq : List (LR Bool)} {k : Nat} (h : PreI d K bq mq wq k) {b : Nat} (hb : b < mq.length) : mxs mq b ≠ [] ∧ mxs mq b ∈ (twoL d).take k := by
  have h1 := List.mem_of_getElem? (mxs_map hb)
  rw [h.sub, List.mem_filter] at h1
  exact ⟨fun e => by rw [e] at h1; simp at h1, h1.1⟩
theorem twoL_step (d : DfaD) {k : Nat} (hk : k < 2) : (twoL d).take (k + 1) = (twoL d).take k ++ [splL d (decide (k = 1)) d.acc.length] := by
  rcases (by omega : k = 0 ∨ k = 1) with rfl | rfl <;> rfl
theorem PreI.skip {d : DfaD} {K : Nat} {bq : List Int} {mq : List (LR Int)} {wq : List (LR Bool)} {k : Nat} (h : PreI d K bq mq wq k) (hk : k < 2) (he : splL d (decide (k = 1)) d.acc.length = []) : PreI d K bq mq wq (k + 1) :=
  ⟨h.bl, by rw [twoL_step d hk, List.filter_append, he, h.sub]; simp, h.bv, h.wl, h.wf⟩
theorem PreI.add {d : DfaD} {K ln lc : Nat} {la : Option Addr} {l bq bq' : List Int} {mq : List (LR Int)} {wq wq' : List (LR Bool)} {k : Nat} (h : PreI d K bq mq wq k) (hk : k < 2) (hl : l = splL d (decide (k = 1)) d.acc.length) (he : l ≠ []) (s : AddR l K la ln lc bq mq wq bq' wq') :
    PreI d K bq' (mq ++ [⟨la, ln, lc, l⟩]) wq' (k + 1) := by
  refine ⟨by rw [s.bll]; exact h.bl, ?_, fun b hb x hx => ?_, by rw [s.wl, h.wl]; simp, fun i hi => ?_⟩
  · rw [twoL_step d hk, List.filter_append, List.map_append, h.sub, ← hl]
    congr 1
    have : l.isEmpty = false := by cases l with
      | nil => exact absurd rfl he
      | cons => rfl
    simp [this]
  · simp only [List.length_append, List.length_singleton] at hb
    by_cases e : b = mq.length
    · subst e
      unfold mxs at hx
      rw [getD_snocL] at hx
      have hx' : x ∈ splL d (decide (k = 1)) d.acc.length := hl ▸ hx
      obtain ⟨i, hi, rfl, _⟩ := splL_mem.1 hx'
      rw [Int.toNat_natCast, s.bv i (by rw [h.bl]; exact hi), if_pos hx]
    · have hb' : b < mq.length := by omega
      unfold mxs at hx
      rw [getD_preL hb'] at hx
      have h1 := h.bv b hb' x hx
      have h2 := (h.block hb').2
      rcases (by omega : k = 0 ∨ k = 1) with rfl | rfl
      · simp at h2
      · have h3 : mxs mq b = splL d false d.acc.length := by simpa [twoL] using h2
        have hx2 : x ∈ splL d false d.acc.length := by rw [← h3]; exact hx
        obtain ⟨i, hi, rfl, hf⟩ := splL_mem.1 hx2
        rw [Int.toNat_natCast] at h1 ⊢
        rw [s.bv i (by rw [h.bl]; exact hi), if_neg]
        · exact h1
        · intro h9
          rw [hl] at h9
          obtain ⟨j, hj, e2, ht⟩ := splL_mem.1 h9
          have : i = j := by omega
          subst this
          rw [hf] at ht; cases ht
  · rw [s.wl] at hi
    by_cases e : i = wq.length
    · subst e; exact s.wn
    · rw [s.wo i (by omega)]; exact h.wf i (by omega)
theorem PreI.is {d : DfaD} {K : Nat} {bq : List Int} {mq : List (LR Int)} {wq : List (LR Bool)} (h : PreI d K bq mq wq 2) : (∀ i, i < d.acc.length → ∃ b, b < mq.length ∧ mxs mq b = splL d (d.acc.getD i false) d.acc.length ∧ bq.getD i 0 = ((b : Nat) : Int)) ∧ ∀ b, b < mq.length → ∃ v, mxs mq b = splL d v d.acc.length := by
  constructor
  · intro i hi
    have hm : (i : Int) ∈ splL d (d.acc.getD i false) d.acc.length := splL_mem.2 ⟨i, hi, rfl, rfl⟩
    have h1 : splL d (d.acc.getD i false) d.acc.length ∈ mq.map LR.xs := by
      rw [h.sub, List.mem_filter]
      refine ⟨?_, ?_⟩
      · show _ ∈ (twoL d).take 2
        cases d.acc.getD i false <;> simp [twoL]
      · have := List.ne_nil_of_mem hm
        cases hc : splL d (d.acc.getD i false) d.acc.length with
        | nil => exact absurd hc this
        | cons => rfl
    obtain ⟨b, hb, e⟩ := List.mem_iff_getElem.1 h1
    have hb' : b < mq.length := by simpa using hb
    have e2 : mxs mq b = splL d (d.acc.getD i false) d.acc.length := by
      have := mxs_map hb'
      rw [List.getElem?_eq_getElem hb, e] at this
      exact (Option.some.inj this).symm
    exact ⟨b, hb', e2, by have := h.bv b hb' (i : Int) (by rw [e2]; exact hm); rwa [Int.toNat_natCast] at this⟩
  · intro b hb
    have h1 := (h.block hb).2
    have h2 : mxs mq b = splL d false d.acc.length ∨ mxs mq b = splL d true d.acc.length := by simpa [twoL] using h1
    rcases h2 with h2 | h2
    · exact ⟨_, h2⟩
    · exact ⟨_, h2⟩
theorem PreI.part {d : DfaD} {K : Nat} {bq : List Int} {mq : List (LR Int)} {wq : List (LR Bool)} (h : PreI d K bq mq wq 2) : PartP d.acc.length bq mq ∧ SndI d bq ∧ AccI d bq := by
  obtain ⟨i1, i2⟩ := h.is
  refine ⟨⟨h.bl, fun i hi => ?_, fun b hb x => ?_, fun b hb => ?_, fun b hb => (h.block hb).1⟩, fun p q hp hq hne => ?_, fun p q hp hq e => ?_⟩
  · obtain ⟨b, hb, _, e⟩ := i1 i hi
    omega
  · constructor
    · intro hx
      obtain ⟨v, hv⟩ := i2 b hb
      have hx2 := hx
      rw [hv] at hx2
      obtain ⟨i, hi, rfl, _⟩ := splL_mem.1 hx2
      have := h.bv b hb _ hx
      rw [Int.toNat_natCast] at this
      exact ⟨i, hi, rfl, this⟩
    · rintro ⟨i, hi, rfl, e⟩
      obtain ⟨b', hb', e2, e3⟩ := i1 i hi
      have : b' = b := by omega
      subst this
      rw [e2]; exact splL_mem.2 ⟨i, hi, rfl, rfl⟩
  · obtain ⟨v, hv⟩ := i2 b hb
    rw [hv]; exact splL_nd _ _ _
  · refine ⟨0, fun e => hne ?_⟩
    obtain ⟨b, hb, e2, e3⟩ := i1 p hp
    obtain ⟨b', hb', e4, e5⟩ := i1 q hq
    have hqm : (q : Int) ∈ mxs mq b := by rw [e2, e]; exact splL_mem.2 ⟨q, hq, rfl, rfl⟩
    have := h.bv b hb _ hqm
    rw [Int.toNat_natCast] at this
    rw [e3, this]
  · obtain ⟨b, hb, e2, e3⟩ := i1 p hp
    obtain ⟨b', hb', e4, e5⟩ := i1 q hq
    have : b = b' := by omega
    subst this
    have hpm : (p : Int) ∈ splL d (d.acc.getD q false) d.acc.length := by rw [← e4, e2]; exact splL_mem.2 ⟨p, hp, rfl, rfl⟩
    obtain ⟨i, hi, e6, e7⟩ := splL_mem.1 hpm
    have : p = i := by omega
    subst this; exact e7
theorem PreI.fin1 {d : DfaD} (hr : rightB d = true) {bq : List Int} {mq : List (LR Int)} {wq : List (LR Bool)} (h : PreI d (usedI d).length bq mq wq 2) (hne : ¬ ((mq.length : Nat) : Int) = 2) : HopI d bq mq [] wq (fun _ _ _ => False) := by
  obtain ⟨p1, p2, p3⟩ := h.part
  have hml := h.mlen
  refine ⟨p1, ⟨h.wl, fun b hb => by rw [h.wf b (by rw [h.wl]; exact hb)]; simp, fun b c hb hc h9 => ?_, fun t ht => by simp at ht⟩, fun k p q hk hp hq e hn => ?_, p2, p3⟩
  · rw [cell_rep (h.wf b (by rw [h.wl]; exact hb))] at h9; cases h9
  · have r1 := p1.rng _ (dl_lt hr hk hp).1
    have r2 := p1.rng _ (dl_lt hr hk hq).1
    exact absurd (by omega) hn
structure WpI (K : Nat) (wt : List (LR Bool)) (td : List (Int × Int)) (c : Nat) : Prop where
  len : wt.length = 2
  row : ∀ b, b < 2 → (wt.getD b lr0).xs.length = K
  todo : ∀ b k, b < 2 → k < K → cellB wt b k = true → (((b : Nat) : Int), ((k : Nat) : Int)) ∈ td
  done : ∀ k, k < c → cellB wt 0 k = true ∨ cellB wt 1 k = true
  tl : td.length = c
  bd : ∀ t : Int × Int, t ∈ td → (0 ≤ t.1 ∧ t.1 < 2) ∧ (0 ≤ t.2 ∧ t.2 < (K : Int))
theorem WpI.start {d : DfaD} {K : Nat} {bq : List Int} {mq : List (LR Int)} {wq : List (LR Bool)} (h : PreI d K bq mq wq 2) (h2 : ((mq.length : Nat) : Int) = 2) : WpI K wq [] 0 := by
  have hl : wq.length = 2 := by rw [h.wl]; omega
  refine ⟨hl, fun b hb => by rw [h.wf b (by omega)]; simp, fun b k hb hk h9 => ?_, fun k hk => by omega, rfl, fun t ht => by simp at ht⟩
  rw [cell_rep (h.wf b (by omega))] at h9; cases h9
theorem WpI.step {K c : Nat} {wt wt' : List (LR Bool)} {td : List (Int × Int)} {x : Int} (h : WpI K wt td c) (hc : c < K) (hx : x = 0 ∨ x = 1) (s : WtSet wt x.toNat c true wt') : WpI K wt' (td ++ [(x, ((c : Nat) : Int))]) (c + 1) := by
  refine ⟨by rw [s.len]; exact h.len, fun b hb => by rw [s.row]; exact h.row b hb, fun b k hb hk h9 => ?_, fun k hk => ?_, by simp [h.tl], fun t ht => ?_⟩
  · rw [s.val] at h9
    split at h9
    · rename_i e
      obtain ⟨e1, e2⟩ := e
      subst e2
      have : x = ((b : Nat) : Int) := by omega
      rw [this]; simp
    · exact List.mem_append_left _ (h.todo b k hb hk h9)
  · rw [s.val, s.val]
    by_cases e : k = c
    · subst e
      rcases hx with rfl | rfl
      · left; rw [if_pos ⟨rfl, rfl⟩]
      · right; rw [if_pos ⟨rfl, rfl⟩]
    · rw [if_neg (fun h9 => e h9.2), if_neg (fun h9 => e h9.2)]; exact h.done k (by omega)
  · rcases List.mem_append.1 ht with h9 | h9
    · exact h.bd t h9
    · rw [List.mem_singleton.1 h9]; exact ⟨by simp only; omega, by simp only; omega⟩
theorem PreI.fin2 {d : DfaD} (hr : rightB d = true) {bq : List Int} {mq : List (LR Int)} {wq wt : List (LR Bool)} {td : List (Int × Int)} {c : Nat} (h : PreI d (usedI d).length bq mq wq 2) (h2 : ((mq.length : Nat) : Int) = 2) (hw : WpI (usedI d).length wt td c) (hc : c = (usedI d).length) : HopI d bq mq td wt (fun _ _ _ => False) := by
  obtain ⟨p1, p2, p3⟩ := h.part
  have hml : mq.length = 2 := by omega
  refine ⟨p1, ⟨by rw [hw.len, hml], fun b hb => hw.row b (by omega), fun b k hb hk h9 => hw.todo b k (by omega) hk h9, fun t ht => by rw [hml]; exact hw.bd t ht⟩, fun k p q hk hp hq e hn => ?_, p2, p3⟩
  have r1 := p1.rng _ (dl_lt hr hk hp).1
  have r2 := p1.rng _ (dl_lt hr hk hq).1
  have h0 := hw.done k (by omega)
  have hv : bk bq (dl d k p) = 0 ∧ bk bq (dl d k q) = 1 ∨ bk bq (dl d k p) = 1 ∧ bk bq (dl d k q) = 0 := by unfold bk; omega
  rcases hv with ⟨e1, e2⟩ | ⟨e1, e2⟩
  · rw [e1, e2]
    rcases h0 with h0 | h0
    · exact .inl h0
    · exact .inr (.inl h0)
  · rw [e1, e2]
    rcases h0 with h0 | h0
    · exact .inr (.inl h0)
    · exact .inl h0
end Go.Proofs.Ytoeockpkkmgieaa


/- All tasks: how many are left; the blocks as they are told. Conditions: those of each theorem. -/
namespace Go.Proofs.Ytoeockpkkmgieaa
open Go Go.Sx
set_option linter.unusedVariables false
set_option linter.unusedSimpArgs false
theorem mea_eq {n K m m2 t t2 : Nat} (h : m ≤ m2) (hn : m2 ≤ n) (e : t2 + m * K = t + m2 * K) : (n - m2) * K + t2 = (n - m) * K + t := by
  obtain ⟨a, rfl⟩ := Nat.le.dest h
  obtain ⟨b, rfl⟩ := Nat.le.dest hn
  have e1 : m + a + b - (m + a) = b := by omega
  have e2 : m + a + b - m = a + b := by omega
  rw [e1, e2, Nat.add_mul]
  rw [Nat.add_mul] at e
  omega
theorem td_last {td : List (Int × Int)} {K nb : Nat} {wt : List (LR Bool)} (h : WaitP K nb td wt) (hl : 0 < td.length) :
    td = td.take (td.length - 1) ++ [((((td.getD (td.length - 1) (0, 0)).1.toNat : Nat) : Int), (((td.getD (td.length - 1) (0, 0)).2.toNat : Nat) : Int))] ∧ 0 ≤ (td.getD (td.length - 1) (0, 0)).1 ∧ 0 ≤ (td.getD (td.length - 1) (0, 0)).2 := by
  have hm : td.getD (td.length - 1) (0, 0) ∈ td := getD_mem' (by omega)
  have hb := h.bd _ hm
  refine ⟨?_, hb.1.1, hb.2.1⟩
  rw [Int.toNat_of_nonneg hb.1.1, Int.toNat_of_nonneg hb.2.1]
  have h1 := take_succ_getD (l := td) (k := td.length - 1) (0, 0) (by omega)
  rw [show td.length - 1 + 1 = td.length by omega, List.take_length] at h1
  exact h1
noncomputable def blocksL (d : DfaD) : List Int := if rightB d = true then blkD d else []
noncomputable def blocksN (d : DfaD) : Int := if rightB d = true then ((dd (blkF d)).length : Int) else 0
end Go.Proofs.Ytoeockpkkmgieaa

