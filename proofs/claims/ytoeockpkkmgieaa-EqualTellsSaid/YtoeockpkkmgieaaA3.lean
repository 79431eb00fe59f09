/- The walks of functions, printed by wip/tools/gw.py. -/
import Derived.Test.YtoeockpkkmgieaaF2
import Derived.Test.YtoeockpkkmgieaaSx7
import Derived.Test.YtoeockpkkmgieaaA2
namespace Go.Proofs.Ytoeockpkkmgieaa
open Go Go.Sx
set_option linter.unusedVariables false
set_option linter.unusedSimpArgs false
set_option maxRecDepth 20000 in
theorem word_any (text : ByteArray) (i : Int) (j : Int) (w : World) (hl : text.size ≤ 1000000) :
    Calls Try.prog 39 #[.string text, .int .i64 i, .int .i64 j] w (Ret fun v w' => ∃ a2 : Option Addr, ∃ c2 : Nat, v = .tuple #[.slice a2 ((wordD text i j).length) c2, .bool (wordOk text i j)] ∧ Upd w [] w' [rowT (tyI .i64) (.slice a2 ((wordD text i j).length) c2) 3 (wordD text i j)]) := by
  refine calls_of_W (args := [.string text, .int .i64 i, .int .i64 j]) Try.func39 rfl rfl rfl ?_
  have H0 : UpG w [] w [] := UpG.nil w
  show W _ _ _ _ [(0, .string text), (1, .int .i64 i), (2, .int .i64 j)] w
  refine W.seq ?_
  refine W.region ?_
  refine WL.op rfl (d_assign rfl ?_)
  refine WL.op rfl (d_assign rfl ?_)
  refine WL.done (X.then_code ?_)
  refine W.seq ?_
  refine W.block ?_
  refine W.seq ?_
  refine W.region ?_
  refine WL.op rfl (d_move rfl ?_)
  refine WL.op rfl (d_cmp (decide (i < (0 : Int))) rfl rfl rfl ?_)
  refine WL.op rfl (d_move rfl ?_)
  refine WL.part 14 (p := i < (0 : Int)) rfl (fun g59 => ?_) (fun g59 => ?_)
  · skip
    refine WL.opN rfl rfl rfl rfl ?_
    refine WL.opN rfl rfl rfl rfl ?_
    refine WL.opN rfl rfl rfl rfl ?_
    refine WL.op rfl (d_pick rfl rfl ?_)
    refine WL.op rfl (d_move rfl ?_)
    refine WL.opN rfl rfl rfl rfl ?_
    refine WL.opN rfl rfl rfl rfl ?_
    refine WL.opN rfl rfl rfl rfl ?_
    refine WL.opN rfl rfl rfl rfl ?_
    refine WL.op rfl (d_pick rfl rfl ?_)
    refine WL.op rfl (d_assign rfl ?_)
    refine WL.done (X.then_code ?_)
    refine W.pick [11, 7, 6, 0, 1, 2] (Γ' := [(11, .bool true), (7, .bool false), (6, .slice none 0 0), (0, .string text), (1, .int .i64 i), (2, .int .i64 j)]) rfl ?_
    refine W.ift rfl ?_
    refine W.seq ?_
    refine W.region ?_
    refine WL.op rfl (d_assign rfl ?_)
    refine WL.op rfl (d_assign rfl ?_)
    refine WL.done (X.then_code ?_)
    refine W.ret (X.block_ret (X.then_ret (X.ret2 rfl rfl rfl ?_)))
    obtain ⟨e1, e2⟩ := wordD_no (s := text) (i := i) (j := j) (by omega)
    rw [e1, e2]
    exact ⟨none, 0, (by rfl), nilOwn H0⟩
  · skip
    refine WL.opG rfl rfl rfl (d_move rfl ?_)
    refine WL.opG rfl rfl rfl (d_move rfl ?_)
    refine WL.opG rfl rfl rfl (d_cmp (decide (j < i)) rfl rfl rfl ?_)
    refine WL.op rfl (d_pick rfl rfl ?_)
    refine WL.op rfl (d_move rfl ?_)
    refine WL.part 19 (p := j < i) rfl (fun g59x => ?_) (fun g59x => ?_)
    · skip
      refine WL.opN rfl rfl rfl rfl ?_
      refine WL.opN rfl rfl rfl rfl ?_
      refine WL.opN rfl rfl rfl rfl ?_
      refine WL.opN rfl rfl rfl rfl ?_
      refine WL.op rfl (d_pick rfl rfl ?_)
      refine WL.op rfl (d_assign rfl ?_)
      refine WL.done (X.then_code ?_)
      refine W.pick [11, 7, 6, 0, 1, 2] (Γ' := [(11, .bool true), (7, .bool false), (6, .slice none 0 0), (0, .string text), (1, .int .i64 i), (2, .int .i64 j)]) rfl ?_
      refine W.ift rfl ?_
      refine W.seq ?_
      refine W.region ?_
      refine WL.op rfl (d_assign rfl ?_)
      refine WL.op rfl (d_assign rfl ?_)
      refine WL.done (X.then_code ?_)
      refine W.ret (X.block_ret (X.then_ret (X.ret2 rfl rfl rfl ?_)))
      obtain ⟨e1, e2⟩ := wordD_no (s := text) (i := i) (j := j) (by omega)
      rw [e1, e2]
      exact ⟨none, 0, (by rfl), nilOwn H0⟩
    · skip
      refine WL.opG rfl rfl rfl (d_move rfl ?_)
      refine WL.opG rfl rfl rfl (d_move rfl ?_)
      refine WL.opG rfl rfl rfl (d_lenStr Try.underlying9 rfl ?_)
      refine WL.opG rfl rfl rfl (d_cmp (decide (j > ((text.size : Nat) : Int))) rfl rfl rfl ?_)
      refine WL.op rfl (d_pick rfl rfl ?_)
      refine WL.op rfl (d_assign rfl ?_)
      refine WL.done (X.then_code ?_)
      refine W.pick [11, 7, 6, 0, 1, 2] (Γ' := [(11, .bool (decide (j > ((text.size : Nat) : Int)))), (7, .bool false), (6, .slice none 0 0), (0, .string text), (1, .int .i64 i), (2, .int .i64 j)]) rfl ?_
      refine W.ite (p := j > ((text.size : Nat) : Int)) rfl (fun c59 => ?_) (fun c59 => ?_)
      · skip
        refine W.seq ?_
        refine W.region ?_
        refine WL.op rfl (d_assign rfl ?_)
        refine WL.op rfl (d_assign rfl ?_)
        refine WL.done (X.then_code ?_)
        refine W.ret (X.block_ret (X.then_ret (X.ret2 rfl rfl rfl ?_)))
        obtain ⟨e1, e2⟩ := wordD_no (s := text) (i := i) (j := j) (by omega)
        rw [e1, e2]
        exact ⟨none, 0, (by rfl), nilOwn H0⟩
      · skip
        refine W.seq ?_
        refine W.region ?_
        refine WL.op rfl (d_move rfl ?_)
        refine WL.op rfl (d_streq rfl rfl ?_)
        refine WL.op rfl (d_assign rfl ?_)
        refine WL.done (X.then_code ?_)
        refine W.ite (p := text = ⟨#[]⟩) rfl (fun c61 => ?_) (fun c61 => ?_)
        · skip
          refine W.seq ?_
          refine W.region ?_
          refine WL.op rfl (t_buildSlice (T := (tyI .i64)) (xs := [258]) (cs := #[.int .i64 258]) rfl Try.underlying22 sz3 rfl rfl rfl rfl (by kernel_rfl) rfl rfl fun w1 u1 => ?_)
          have H1 : UpG w [] w1 [[rowT (tyI .i64) (.slice (some ⟨w.heap.size, 0, none⟩) ([258].length) ([258].length)) 3 [258]]] := H0.new' u1
          refine WL.op rfl (d_assign rfl ?_)
          refine WL.op rfl (d_assign rfl ?_)
          refine WL.done (X.then_code ?_)
          refine W.ret (X.block_ret (X.then_ret (X.ret2 rfl rfl rfl ?_)))
          have e2 := wordD_yes (s := text) (i := i) (j := j) (by omega)
          have e1 : wordD text i j = [258] := by rw [wordD, if_neg (by rw [e2]; simp), if_pos c61]
          rw [e1, e2]
          exact ⟨(some ⟨w.heap.size, 0, none⟩), [258].length, (by rfl), (by have hh := H1.one 0 rfl; exact hh)⟩
        · skip
          refine W.skip (X.block_normal (X.then_code ?_))
          refine W.seq ?_
          refine W.region ?_
          refine WL.op rfl (d_assign rfl ?_)
          refine WL.done (X.then_code ?_)
          have H2 : UpG w [] w [[rowT (tyI .i64) (.slice none (([] : List Int).length) 0) 3 ([] : List Int)]] := H0.new' (Upd.nilRowT w (tyI .i64) 3)
          refine W.cut (fun Γ' w' => ∃ o : List Int, ∃ oa : Option Addr, ∃ oc : Nat, Γ' = [(8, .slice oa o.length oc), (7, .bool false), (6, .slice none 0 0), (0, .string text), (1, .int .i64 i), (2, .int .i64 j)] ∧ UpG w [] w' [[rowT (tyI .i64) (.slice oa o.length oc) 3 o]] ∧ (o = (if i = 0 then ([256] : List Int) else [])) ∧ (o.length ≤ 1)) ?_ ?_
          · skip
            refine W.seq ?_
            refine W.region ?_
            refine WL.op rfl (d_move rfl ?_)
            refine WL.op rfl (d_cmp (decide (i = (0 : Int))) rfl rfl rfl ?_)
            refine WL.done (X.then_code ?_)
            refine W.ite (p := i = (0 : Int)) rfl (fun c65 => ?_) (fun c65 => ?_)
            · skip
              refine W.region ?_
              refine WL.op rfl (d_move rfl ?_)
              refine WL.op rfl (t_buildSlice (T := (tyI .i64)) (xs := [256]) (cs := #[.int .i64 256]) rfl Try.underlying22 sz3 rfl rfl rfl rfl (by kernel_rfl) rfl rfl fun w2 u2 => ?_)
              have H3 : UpG w [] w2 [[rowT (tyI .i64) (.slice none (([] : List Int).length) 0) 3 ([] : List Int)], [rowT (tyI .i64) (.slice (some ⟨w.heap.size, 0, none⟩) ([256].length) ([256].length)) 3 [256]]] := H2.new' u2
              refine WL.op rfl (t_append (T := (tyI .i64)) (xs := ([] : List Int)) (ys := [256]) rfl Try.underlying22 sz3 rfl rfl rfl (H3.ownT 0 rfl) (H3.rdT 1 rfl) (by simp) (by simp) fun a1 c1 w3 u3 => ?_)
              have H4 : UpG w [] w3 [[rowT (tyI .i64) (.slice a1 ((([] : List Int) ++ [256]).length) c1) 3 (([] : List Int) ++ [256])], []] := (H3.on 0 rfl u3).drop 1
              refine WL.op rfl (d_assign rfl ?_)
              refine WL.done ?_
              exact X.cut [8, 7, 6, 0, 1, 2] (Γ' := [(8, .slice a1 ((([] : List Int) ++ [256]).length) c1), (7, .bool false), (6, .slice none 0 0), (0, .string text), (1, .int .i64 i), (2, .int .i64 j)]) rfl ⟨([] : List Int) ++ [256], a1, c1, rfl, (H4.re rfl), (by first | (rw [if_pos c65]; rfl) | (rw [if_neg c65])), (by simp)⟩
            · skip
              refine W.skip ?_
              exact X.cut [8, 7, 6, 0, 1, 2] (Γ' := [(8, .slice none (([] : List Int).length) 0), (7, .bool false), (6, .slice none 0 0), (0, .string text), (1, .int .i64 i), (2, .int .i64 j)]) rfl ⟨([] : List Int), none, 0, rfl, H2, (by first | (rw [if_pos c65]; rfl) | (rw [if_neg c65])), (by simp)⟩
          rintro Γ1 w4 ⟨o, oa, oc, rfl, H5, ho, hol⟩
          refine W.seq ?_
          refine W.seq ?_
          have hbl := bytesL_len (text.extract i.toNat j.toNat)
          have hxs : (text.extract i.toNat j.toNat).size ≤ text.size := by simp; omega
          refine W.region ?_
          refine WL.op rfl (d_move rfl ?_)
          refine WL.op rfl (d_move rfl ?_)
          refine WL.op rfl (d_move rfl ?_)
          refine WL.op rfl (d_substrN i j i.toNat j.toNat Try.underlying9 rfl rfl rfl (.inr ⟨_, rfl⟩) (.inr ⟨_, rfl⟩) (by omega) (by omega) ⟨by omega, by omega, by omega⟩ ?_)
          refine WL.op rfl (d_strBytes Try.underlying9 Try.underlying85 Try.underlying5 rfl (by omega) fun c2 w5 u4 => ?_)
          have H6 : UpG w [] w5 [[rowT (tyI .i64) (.slice oa o.length oc) 3 o], [rdC (tyI .u8) (.slice (some ⟨w4.heap.size, 0, none⟩) ((bytesL (text.extract i.toNat j.toNat)).length) c2) (bytesL (text.extract i.toNat j.toNat))]] := H5.new' u4
          refine WL.op rfl (d_lenS Try.underlying85 rfl ?_)
          refine WL.op rfl (d_move rfl ?_)
          refine WL.done (X.then_code ?_)
          refine W.block ?_
          refine W.pick [40, 39, 38, 8, 7, 6, 0, 2] (Γ' := [(40, .int .i64 0), (39, .int .i64 (((bytesL (text.extract i.toNat j.toNat)).length : Nat) : Int)), (38, .slice (some ⟨w4.heap.size, 0, none⟩) ((bytesL (text.extract i.toNat j.toNat)).length) c2), (8, .slice oa o.length oc), (7, .bool false), (6, .slice none 0 0), (0, .string text), (2, .int .i64 j)]) rfl ?_
          refine W.loop (fun m Γ' w' => ∃ k : Nat, ∃ q : List Int, ∃ qa : Option Addr, ∃ qc : Nat, Γ' = [(40, .int .i64 ((k : Nat) : Int)), (39, .int .i64 (((bytesL (text.extract i.toNat j.toNat)).length : Nat) : Int)), (38, .slice (some ⟨w4.heap.size, 0, none⟩) ((bytesL (text.extract i.toNat j.toNat)).length) c2), (8, .slice qa q.length qc), (7, .bool false), (6, .slice none 0 0), (0, .string text), (2, .int .i64 j)] ∧ UpG w [] w' [[rowT (tyI .i64) (.slice qa q.length qc) 3 q], [rdC (tyI .u8) (.slice (some ⟨w4.heap.size, 0, none⟩) ((bytesL (text.extract i.toNat j.toNat)).length) c2) (bytesL (text.extract i.toNat j.toNat))]] ∧ (k ≤ (bytesL (text.extract i.toNat j.toNat)).length) ∧ (q = (if i = 0 then ([256] : List Int) else []) ++ (bytesL (text.extract i.toNat j.toNat)).take k) ∧ (q.length ≤ 1 + k) ∧ m = (bytesL (text.extract i.toNat j.toNat)).length - k) ((bytesL (text.extract i.toNat j.toNat)).length - 0) ⟨0, o, oa, oc, rfl, H6, (by first | assumption | omega | simp), (by simp [ho]), (by omega), rfl⟩ ?_
          rintro m1 Γ2 w6 ⟨k, q, qa, qc, rfl, H7, hk, hq, hql, rfl⟩
          refine W.seq ?_
          have hbl := bytesL_len (text.extract i.toNat j.toNat)
          have hxs : (text.extract i.toNat j.toNat).size ≤ text.size := by simp; omega
          refine W.region ?_
          refine WL.op rfl (d_cmp (decide (((k : Nat) : Int) < (((bytesL (text.extract i.toNat j.toNat)).length : Nat) : Int))) rfl rfl rfl ?_)
          refine WL.done (X.then_code ?_)
          refine W.seq ?_
          refine W.ite (p := ((k : Nat) : Int) < (((bytesL (text.extract i.toNat j.toNat)).length : Nat) : Int)) rfl (fun c68 => ?_) (fun c68 => ?_)
          · skip
            refine W.skip (X.then_code ?_)
            refine W.seq ?_
            refine W.block ?_
            refine W.seq ?_
            have hbl := bytesL_len (text.extract i.toNat j.toNat)
            have hxs : (text.extract i.toNat j.toNat).size ≤ text.size := by simp; omega
            refine W.region ?_
            refine WL.op rfl (t_addr1 k (T := (tyI .u8)) rfl Try.underlying85 sz5 rfl rfl (H7.rdC 1 rfl) rfl (by omega) ?_)
            refine WL.op rfl (t_load1 k 0 (T := (tyI .u8)) rfl Try.underlying5 rfl rfl (H7.rdC 1 rfl) (by omega) rfl ?_)
            refine WL.op rfl (d_assign rfl ?_)
            refine WL.done (X.then_code ?_)
            refine W.region ?_
            refine WL.op rfl (d_move rfl ?_)
            refine WL.op rfl (d_move rfl ?_)
            refine WL.op rfl (d_convI (kd := .i64) Try.underlying5 Try.underlying3 rfl (by have := bt_range (text.extract i.toNat j.toNat) k; rw [bytesL_get _ _ (by omega)]; simp [IntKind.signed, IntKind.bits, IntKind.max]; omega) ?_)
            refine WL.op rfl (t_buildSlice (T := (tyI .i64)) (xs := [(bytesL (text.extract i.toNat j.toNat)).getD k 0]) (cs := #[.int .i64 ((bytesL (text.extract i.toNat j.toNat)).getD k 0)]) rfl Try.underlying22 sz3 rfl rfl rfl rfl (by kernel_rfl) rfl rfl fun w7 u5 => ?_)
            have H8 : UpG w [] w7 [[rowT (tyI .i64) (.slice qa q.length qc) 3 q], [rdC (tyI .u8) (.slice (some ⟨w4.heap.size, 0, none⟩) ((bytesL (text.extract i.toNat j.toNat)).length) c2) (bytesL (text.extract i.toNat j.toNat))], [rowT (tyI .i64) (.slice (some ⟨w6.heap.size, 0, none⟩) ([(bytesL (text.extract i.toNat j.toNat)).getD k 0].length) ([(bytesL (text.extract i.toNat j.toNat)).getD k 0].length)) 3 [(bytesL (text.extract i.toNat j.toNat)).getD k 0]]] := H7.new' u5
            refine WL.op rfl (t_append (T := (tyI .i64)) (xs := q) (ys := [(bytesL (text.extract i.toNat j.toNat)).getD k 0]) rfl Try.underlying22 sz3 rfl rfl rfl (H8.ownT 0 rfl) (H8.rdT 2 rfl) (by simp; omega) (by simp; omega) fun a2 c3 w8 u6 => ?_)
            have H9 : UpG w [] w8 [[rowT (tyI .i64) (.slice a2 ((q ++ [(bytesL (text.extract i.toNat j.toNat)).getD k 0]).length) c3) 3 (q ++ [(bytesL (text.extract i.toNat j.toNat)).getD k 0])], [rdC (tyI .u8) (.slice (some ⟨w4.heap.size, 0, none⟩) ((bytesL (text.extract i.toNat j.toNat)).length) c2) (bytesL (text.extract i.toNat j.toNat))], []] := (H8.on 0 rfl u6).drop 2
            refine WL.op rfl (d_assign rfl ?_)
            refine WL.done (X.block_normal (X.then_code ?_))
            refine W.pick [8, 48, 47, 46, 45, 44, 10, 43, 42, 41, 40, 39, 38, 7, 6, 0, 2] (Γ' := [(8, .slice a2 ((q ++ [(bytesL (text.extract i.toNat j.toNat)).getD k 0]).length) c3), (48, .slice a2 ((q ++ [(bytesL (text.extract i.toNat j.toNat)).getD k 0]).length) c3), (47, .slice (some ⟨w6.heap.size, 0, none⟩) ([(bytesL (text.extract i.toNat j.toNat)).getD k 0].length) ([(bytesL (text.extract i.toNat j.toNat)).getD k 0].length)), (46, .int .i64 ((bytesL (text.extract i.toNat j.toNat)).getD k 0)), (45, .int .u8 ((bytesL (text.extract i.toNat j.toNat)).getD k 0)), (44, .slice qa q.length qc), (10, .int .u8 ((bytesL (text.extract i.toNat j.toNat)).getD k 0)), (43, .int .u8 ((bytesL (text.extract i.toNat j.toNat)).getD k 0)), (42, elemPtr (.slice (some ⟨w4.heap.size, 0, none⟩) ((bytesL (text.extract i.toNat j.toNat)).length) c2) k), (41, .bool (decide (((k : Nat) : Int) < (((bytesL (text.extract i.toNat j.toNat)).length : Nat) : Int)))), (40, .int .i64 ((k : Nat) : Int)), (39, .int .i64 (((bytesL (text.extract i.toNat j.toNat)).length : Nat) : Int)), (38, .slice (some ⟨w4.heap.size, 0, none⟩) ((bytesL (text.extract i.toNat j.toNat)).length) c2), (7, .bool false), (6, .slice none 0 0), (0, .string text), (2, .int .i64 j)]) rfl ?_
            have hbl := bytesL_len (text.extract i.toNat j.toNat)
            have hxs : (text.extract i.toNat j.toNat).size ≤ text.size := by simp; omega
            refine W.region ?_
            refine WL.op rfl (d_add rfl rfl (by omega) (by omega) ?_)
            refine WL.op rfl (d_move rfl ?_)
            refine WL.done ?_
            exact X.next [40, 39, 38, 8, 7, 6, 0, 2] (Γ' := [(40, .int .i64 (((k + 1) : Nat) : Int)), (39, .int .i64 (((bytesL (text.extract i.toNat j.toNat)).length : Nat) : Int)), (38, .slice (some ⟨w4.heap.size, 0, none⟩) ((bytesL (text.extract i.toNat j.toNat)).length) c2), (8, .slice a2 ((q ++ [(bytesL (text.extract i.toNat j.toNat)).getD k 0]).length) c3), (7, .bool false), (6, .slice none 0 0), (0, .string text), (2, .int .i64 j)]) rfl ((bytesL (text.extract i.toNat j.toNat)).length - (k + 1)) (by omega) ⟨k + 1, q ++ [(bytesL (text.extract i.toNat j.toNat)).getD k 0], a2, c3, rfl, (H9.re rfl), (by first | assumption | omega | simp), (by rw [hq, List.append_assoc, take_getD_step (by omega)]), (by simp; omega), rfl⟩
          · skip
            refine W.exit (X.then_exit (X.then_exit (X.block_exit (X.then_code ?_))))
            refine W.seq ?_
            refine W.seq ?_
            refine W.region ?_
            refine WL.op rfl (d_move rfl ?_)
            refine WL.op rfl (d_move rfl ?_)
            refine WL.op rfl (d_lenStr Try.underlying9 rfl ?_)
            refine WL.op rfl (d_cmp (decide (j = ((text.size : Nat) : Int))) rfl rfl rfl ?_)
            refine WL.done (X.then_code ?_)
            refine W.ite (p := j = ((text.size : Nat) : Int)) rfl (fun c71 => ?_) (fun c71 => ?_)
            · skip
              refine W.region ?_
              refine WL.op rfl (d_move rfl ?_)
              refine WL.op rfl (t_buildSlice (T := (tyI .i64)) (xs := [257]) (cs := #[.int .i64 257]) rfl Try.underlying22 sz3 rfl rfl rfl rfl (by kernel_rfl) rfl rfl fun w9 u7 => ?_)
              have H10 : UpG w [] w9 [[rowT (tyI .i64) (.slice qa q.length qc) 3 q], [rdC (tyI .u8) (.slice (some ⟨w4.heap.size, 0, none⟩) ((bytesL (text.extract i.toNat j.toNat)).length) c2) (bytesL (text.extract i.toNat j.toNat))], [rowT (tyI .i64) (.slice (some ⟨w6.heap.size, 0, none⟩) ([257].length) ([257].length)) 3 [257]]] := H7.new' u7
              refine WL.op rfl (t_append (T := (tyI .i64)) (xs := q) (ys := [257]) rfl Try.underlying22 sz3 rfl rfl rfl (H10.ownT 0 rfl) (H10.rdT 2 rfl) (by simp; omega) (by simp; omega) fun a3 c4 w10 u8 => ?_)
              have H11 : UpG w [] w10 [[rowT (tyI .i64) (.slice a3 ((q ++ [257]).length) c4) 3 (q ++ [257])], [rdC (tyI .u8) (.slice (some ⟨w4.heap.size, 0, none⟩) ((bytesL (text.extract i.toNat j.toNat)).length) c2) (bytesL (text.extract i.toNat j.toNat))], []] := (H10.on 0 rfl u8).drop 2
              refine WL.op rfl (d_assign rfl ?_)
              refine WL.done (X.then_code ?_)
              refine W.seq ?_
              refine W.region ?_
              refine WL.op rfl (d_move rfl ?_)
              refine WL.op rfl (d_assign rfl ?_)
              refine WL.op rfl (d_assign rfl ?_)
              refine WL.done (X.then_code ?_)
              refine W.pick [7, 6] (Γ' := [(7, .bool true), (6, .slice a3 ((q ++ [257]).length) c4)]) rfl ?_
              refine W.ret (X.ret2 rfl rfl rfl ?_)
              have e2 := wordD_yes (s := text) (i := i) (j := j) (by omega)
              rw [List.take_of_length_le (by omega)] at hq
              have e1 : wordD text i j = (if i = 0 then ([256] : List Int) else []) ++ bytesL (text.extract i.toNat j.toNat) ++ (if j = (text.size : Int) then [257] else []) := by rw [wordD, if_neg (by rw [e2]; simp), if_neg c61]
              rw [e1, e2, ← hq]
              first | rw [if_pos c71] | (rw [if_neg c71, List.append_nil])
              exact ⟨a3, c4, (by rfl), (by have hh := H11.one 0 rfl; exact hh)⟩
            · skip
              refine W.skip (X.then_code ?_)
              refine W.seq ?_
              refine W.region ?_
              refine WL.op rfl (d_move rfl ?_)
              refine WL.op rfl (d_assign rfl ?_)
              refine WL.op rfl (d_assign rfl ?_)
              refine WL.done (X.then_code ?_)
              refine W.ret (X.ret2 rfl rfl rfl ?_)
              have e2 := wordD_yes (s := text) (i := i) (j := j) (by omega)
              rw [List.take_of_length_le (by omega)] at hq
              have e1 : wordD text i j = (if i = 0 then ([256] : List Int) else []) ++ bytesL (text.extract i.toNat j.toNat) ++ (if j = (text.size : Int) then [257] else []) := by rw [wordD, if_neg (by rw [e2]; simp), if_neg c61]
              rw [e1, e2, ← hq]
              first | rw [if_pos c71] | (rw [if_neg c71, List.append_nil])
              exact ⟨qa, qc, (by rfl), (by have hh := H7.one 0 rfl; exact hh)⟩
end Go.Proofs.Ytoeockpkkmgieaa
