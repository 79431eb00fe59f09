/- The walks of functions, printed by wip/tools/gw.py. -/
import Derived.Test.YtnjjjmpdikpjaabDoorConsoleScriptsB1
import Derived.Lib.SliceRun
import Derived.Sort.Row
import Derived.Sort.Grow
import Derived.Lib.ConvBytes
import Derived.MapKept
import Derived.WideKeyRuns
import Derived.Carry
import Derived.Laws.StructEq
import Derived.Laws.BytesArg
import Derived.Shelf.Strings.Builder1
import Derived.Shelf.Strings.Builder2
import Derived.Shelf.Strings.OnBuilder
import Derived.Shelf.Small.Strs
import Derived.Shelf.Strings.BuilderF
import Derived.Shelf.Strings.BuilderK
import Derived.Shelf.Strconv.Atoi
import Derived.Shelf.Strconv.Itoa0
import Derived.Shelf.Strconv.Itoa1
import Derived.Shelf.LaysM
import Derived.Shelf.Strconv.Itoa2
import Derived.Shelf.Strconv.Itoa3
import Derived.Shelf.Strconv.AtoiErrFast
import Derived.Shelf.Strconv.ParseIntEmpty
import Derived.Shelf.Strconv.AtoiFail
import Derived.Shelf.Strconv.Clone
import Derived.Shelf.Strconv.SyntaxError
import Derived.Shelf.LaysC
import Derived.Shelf.Strconv.ToError
import Derived.Shelf.Strconv.Lower
import Derived.Shelf.Strconv.ParseUint10
import Derived.Shelf.Strconv.ParseUint10Empty
import Derived.Shelf.Strconv.ParseUint10Any
import Derived.Shelf.Strconv.ParseInt10
import Derived.Shelf.Strconv.AtoiLong
import Derived.Shelf.Strconv.AtoiInnerAll
import Derived.Shelf.Strconv.RangeError
import Derived.Shelf.Strconv.ToErrorRange
import Derived.Shelf.Strconv.AtoiAll
import Derived.Shelf.Strings.Search1
import Derived.Shelf.Strings.Search2
import Derived.Shelf.Strings.Search3
import Derived.Shelf.Strings.Count
import Derived.Shelf.Strings.Shaped
import Derived.Shelf.Strings.Prefix
import Derived.Shelf.Strings.Split
import Derived.Shelf.Unicode.DecodeSlow
import Derived.Test.YtnjjjmpdikpjaabDoorProg
import Derived.Lib.ItoaMem
import Derived.Lib.ItoaLen
import Derived.Lib.AtoiAll
import Derived.Lib.AppendStr
import Derived.Lib.AppendIntMem
import Derived.Lib.AtoiErrMem
import Derived.Lib.SplitLaws
import Derived.Lib.IndexLaws
import Derived.Lib.Builder
import Derived.Shelf.Lays
namespace Go.Proofs.YtnjjjmpdikpjaabDoor
open Go Go.Sx
set_option linter.unusedVariables false
set_option linter.unusedSimpArgs false
set_option maxRecDepth 20000 in
theorem rows_any  (w : World) :
   Calls Tryd.prog 36 #[] w (Ret fun v w' => ∃ a2 : Option Addr, ∃ c2 : Nat, v = .slice a2 opRows.length c2 ∧ Upd w [] w' [rowT tyOpRow (.slice a2 opRows.length c2) 82 opRows]) := by
 refine calls_of_W (args := []) Tryd.func36 rfl rfl rfl ?_
 have H0 : UpG w [] w [] := UpG.nil w
 show W _ _ _ _ [] w
 refine sr (ag rfl (dc (W.seq (W.region (oo (d_build (cs := #[.string ⟨#[105, 110, 115, 101, 114, 116]⟩, .string ⟨#[65]⟩, .bool true]) rfl (by kernel_rfl) (oo (d_build (cs := #[.string ⟨#[100, 101, 108, 101, 116, 101]⟩, .string ⟨#[65, 76]⟩, .bool false]) rfl (by kernel_rfl) (oo (d_build (cs := #[.string ⟨#[114, 101, 112, 108, 97, 99, 101]⟩, .string ⟨#[65, 76]⟩, .bool true]) rfl (by kernel_rfl) (oo (d_build (cs := #[.string ⟨#[117, 110, 100, 111]⟩, .string ⟨#[]⟩, .bool false]) rfl (by kernel_rfl) (oo (d_build (cs := #[.string ⟨#[114, 101, 100, 111]⟩, .string ⟨#[]⟩, .bool false]) rfl (by kernel_rfl) (oo (d_build (cs := #[.string ⟨#[114, 101, 103, 105, 115, 116, 101, 114]⟩, .string ⟨#[]⟩, .bool true]) rfl (by kernel_rfl) (oo (d_build (cs := #[.string ⟨#[102, 111, 114, 103, 101, 116]⟩, .string ⟨#[83]⟩, .bool false]) rfl (by kernel_rfl) (oo (d_build (cs := #[.string ⟨#[99, 111, 117, 110, 116]⟩, .string ⟨#[83]⟩, .bool false]) rfl (by kernel_rfl) (oo (d_build (cs := #[.string ⟨#[110, 101, 120, 116]⟩, .string ⟨#[83, 65]⟩, .bool false]) rfl (by kernel_rfl) (oo (d_build (cs := #[.string ⟨#[112, 114, 101, 118]⟩, .string ⟨#[83, 65]⟩, .bool false]) rfl (by kernel_rfl) (oo (d_build (cs := #[.string ⟨#[108, 105, 115, 116]⟩, .string ⟨#[83, 65, 76]⟩, .bool false]) rfl (by kernel_rfl) (oo (d_build (cs := #[.string ⟨#[105, 115]⟩, .string ⟨#[83]⟩, .bool false]) rfl (by kernel_rfl) (oo (d_build (cs := #[.string ⟨#[101, 110, 100]⟩, .string ⟨#[83, 65]⟩, .bool false]) rfl (by kernel_rfl) (oo (d_build (cs := #[.string ⟨#[114, 101, 97, 100]⟩, .string ⟨#[65, 76]⟩, .bool false]) rfl (by kernel_rfl) (oo (d_build (cs := #[.string ⟨#[115, 105, 122, 101]⟩, .string ⟨#[]⟩, .bool false]) rfl (by kernel_rfl) (oo (d_build (cs := #[.string ⟨#[108, 105, 110, 101]⟩, .string ⟨#[65]⟩, .bool false]) rfl (by kernel_rfl) (oo (d_build (cs := #[.string ⟨#[111, 102, 102, 115, 101, 116]⟩, .string ⟨#[65, 76]⟩, .bool false]) rfl (by kernel_rfl) (oo (d_build (cs := #[.string ⟨#[115, 119, 97, 112]⟩, .string ⟨#[83]⟩, .bool true]) rfl (by kernel_rfl) (oo (d_build (cs := #[.string ⟨#[109, 97, 114, 107]⟩, .string ⟨#[65, 76]⟩, .bool false]) rfl (by kernel_rfl) ?_))))))))))))))))))))))))))))))))))))))))))
 refine oo (d_build (cs := #[.string ⟨#[112, 108, 97, 99, 101]⟩, .string ⟨#[83]⟩, .bool false]) rfl (by kernel_rfl) (oo (d_build (cs := #[.string ⟨#[119, 97, 116, 99, 104]⟩, .string ⟨#[83, 76]⟩, .bool false]) rfl (by kernel_rfl) (oo (d_build (cs := #[.string ⟨#[109, 101, 114, 103, 101]⟩, .string ⟨#[65, 76]⟩, .bool false]) rfl (by kernel_rfl) (oo (d_build (cs := #[.string ⟨#[101, 118, 105, 99, 116]⟩, .string ⟨#[76]⟩, .bool false]) rfl (by kernel_rfl) (oo (d_build (cs := #[.string ⟨#[99, 111, 109, 112, 97, 99, 116]⟩, .string ⟨#[]⟩, .bool false]) rfl (by kernel_rfl) ?_)))))))))
 refine oo (t_buildSlice (T := tyOpRow) (xs := ([⟨⟨#[105, 110, 115, 101, 114, 116]⟩, ⟨#[65]⟩, true⟩, ⟨⟨#[100, 101, 108, 101, 116, 101]⟩, ⟨#[65, 76]⟩, false⟩, ⟨⟨#[114, 101, 112, 108, 97, 99, 101]⟩, ⟨#[65, 76]⟩, true⟩, ⟨⟨#[117, 110, 100, 111]⟩, ⟨#[]⟩, false⟩, ⟨⟨#[114, 101, 100, 111]⟩, ⟨#[]⟩, false⟩, ⟨⟨#[114, 101, 103, 105, 115, 116, 101, 114]⟩, ⟨#[]⟩, true⟩, ⟨⟨#[102, 111, 114, 103, 101, 116]⟩, ⟨#[83]⟩, false⟩, ⟨⟨#[99, 111, 117, 110, 116]⟩, ⟨#[83]⟩, false⟩, ⟨⟨#[110, 101, 120, 116]⟩, ⟨#[83, 65]⟩, false⟩, ⟨⟨#[112, 114, 101, 118]⟩, ⟨#[83, 65]⟩, false⟩, ⟨⟨#[108, 105, 115, 116]⟩, ⟨#[83, 65, 76]⟩, false⟩, ⟨⟨#[105, 115]⟩, ⟨#[83]⟩, false⟩, ⟨⟨#[101, 110, 100]⟩, ⟨#[83, 65]⟩, false⟩, ⟨⟨#[114, 101, 97, 100]⟩, ⟨#[65, 76]⟩, false⟩, ⟨⟨#[115, 105, 122, 101]⟩, ⟨#[]⟩, false⟩, ⟨⟨#[108, 105, 110, 101]⟩, ⟨#[65]⟩, false⟩, ⟨⟨#[111, 102, 102, 115, 101, 116]⟩, ⟨#[65, 76]⟩, false⟩, ⟨⟨#[115, 119, 97, 112]⟩, ⟨#[83]⟩, true⟩, ⟨⟨#[109, 97, 114, 107]⟩, ⟨#[65, 76]⟩, false⟩, ⟨⟨#[112, 108, 97, 99, 101]⟩, ⟨#[83]⟩, false⟩, ⟨⟨#[119, 97, 116, 99, 104]⟩, ⟨#[83, 76]⟩, false⟩, ⟨⟨#[109, 101, 114, 103, 101]⟩, ⟨#[65, 76]⟩, false⟩, ⟨⟨#[101, 118, 105, 99, 116]⟩, ⟨#[76]⟩, false⟩, ⟨⟨#[99, 111, 109, 112, 97, 99, 116]⟩, ⟨#[]⟩, false⟩] : List OpRow)) (cs := #[.string ⟨#[105, 110, 115, 101, 114, 116]⟩, .string ⟨#[65]⟩, .bool true, .string ⟨#[100, 101, 108, 101, 116, 101]⟩, .string ⟨#[65, 76]⟩, .bool false, .string ⟨#[114, 101, 112, 108, 97, 99, 101]⟩, .string ⟨#[65, 76]⟩, .bool true, .string ⟨#[117, 110, 100, 111]⟩, .string ⟨#[]⟩, .bool false, .string ⟨#[114, 101, 100, 111]⟩, .string ⟨#[]⟩, .bool false, .string ⟨#[114, 101, 103, 105, 115, 116, 101, 114]⟩, .string ⟨#[]⟩, .bool true, .string ⟨#[102, 111, 114, 103, 101, 116]⟩, .string ⟨#[83]⟩, .bool false, .string ⟨#[99, 111, 117, 110, 116]⟩, .string ⟨#[83]⟩, .bool false, .string ⟨#[110, 101, 120, 116]⟩, .string ⟨#[83, 65]⟩, .bool false, .string ⟨#[112, 114, 101, 118]⟩, .string ⟨#[83, 65]⟩, .bool false, .string ⟨#[108, 105, 115, 116]⟩, .string ⟨#[83, 65, 76]⟩, .bool false, .string ⟨#[105, 115]⟩, .string ⟨#[83]⟩, .bool false, .string ⟨#[101, 110, 100]⟩, .string ⟨#[83, 65]⟩, .bool false, .string ⟨#[114, 101, 97, 100]⟩, .string ⟨#[65, 76]⟩, .bool false, .string ⟨#[115, 105, 122, 101]⟩, .string ⟨#[]⟩, .bool false, .string ⟨#[108, 105, 110, 101]⟩, .string ⟨#[65]⟩, .bool false, .string ⟨#[111, 102, 102, 115, 101, 116]⟩, .string ⟨#[65, 76]⟩, .bool false, .string ⟨#[115, 119, 97, 112]⟩, .string ⟨#[83]⟩, .bool true, .string ⟨#[109, 97, 114, 107]⟩, .string ⟨#[65, 76]⟩, .bool false, .string ⟨#[112, 108, 97, 99, 101]⟩, .string ⟨#[83]⟩, .bool false, .string ⟨#[119, 97, 116, 99, 104]⟩, .string ⟨#[83, 76]⟩, .bool false, .string ⟨#[109, 101, 114, 103, 101]⟩, .string ⟨#[65, 76]⟩, .bool false, .string ⟨#[101, 118, 105, 99, 116]⟩, .string ⟨#[76]⟩, .bool false, .string ⟨#[99, 111, 109, 112, 97, 99, 116]⟩, .string ⟨#[]⟩, .bool false]) rfl y79 sz82 rfl rfl rfl rfl (by kernel_rfl) rfl rfl fun w1 u1 => ?_)
 have H1 : UpG _ _ _ [[_]] := H0.new' u1
 refine ag rfl (dc (W.ret (X.ret1 rfl rfl ?_)))
 exact ⟨(some ⟨w.heap.size, 0, none⟩), ([⟨⟨#[105, 110, 115, 101, 114, 116]⟩, ⟨#[65]⟩, true⟩, ⟨⟨#[100, 101, 108, 101, 116, 101]⟩, ⟨#[65, 76]⟩, false⟩, ⟨⟨#[114, 101, 112, 108, 97, 99, 101]⟩, ⟨#[65, 76]⟩, true⟩, ⟨⟨#[117, 110, 100, 111]⟩, ⟨#[]⟩, false⟩, ⟨⟨#[114, 101, 100, 111]⟩, ⟨#[]⟩, false⟩, ⟨⟨#[114, 101, 103, 105, 115, 116, 101, 114]⟩, ⟨#[]⟩, true⟩, ⟨⟨#[102, 111, 114, 103, 101, 116]⟩, ⟨#[83]⟩, false⟩, ⟨⟨#[99, 111, 117, 110, 116]⟩, ⟨#[83]⟩, false⟩, ⟨⟨#[110, 101, 120, 116]⟩, ⟨#[83, 65]⟩, false⟩, ⟨⟨#[112, 114, 101, 118]⟩, ⟨#[83, 65]⟩, false⟩, ⟨⟨#[108, 105, 115, 116]⟩, ⟨#[83, 65, 76]⟩, false⟩, ⟨⟨#[105, 115]⟩, ⟨#[83]⟩, false⟩, ⟨⟨#[101, 110, 100]⟩, ⟨#[83, 65]⟩, false⟩, ⟨⟨#[114, 101, 97, 100]⟩, ⟨#[65, 76]⟩, false⟩, ⟨⟨#[115, 105, 122, 101]⟩, ⟨#[]⟩, false⟩, ⟨⟨#[108, 105, 110, 101]⟩, ⟨#[65]⟩, false⟩, ⟨⟨#[111, 102, 102, 115, 101, 116]⟩, ⟨#[65, 76]⟩, false⟩, ⟨⟨#[115, 119, 97, 112]⟩, ⟨#[83]⟩, true⟩, ⟨⟨#[109, 97, 114, 107]⟩, ⟨#[65, 76]⟩, false⟩, ⟨⟨#[112, 108, 97, 99, 101]⟩, ⟨#[83]⟩, false⟩, ⟨⟨#[119, 97, 116, 99, 104]⟩, ⟨#[83, 76]⟩, false⟩, ⟨⟨#[109, 101, 114, 103, 101]⟩, ⟨#[65, 76]⟩, false⟩, ⟨⟨#[101, 118, 105, 99, 116]⟩, ⟨#[76]⟩, false⟩, ⟨⟨#[99, 111, 109, 112, 97, 99, 116]⟩, ⟨#[]⟩, false⟩] : List OpRow).length, (by rfl), (by have hh := H1.one 0 rfl; exact hh)⟩

set_option maxRecDepth 20000 in
theorem of_any (kind : Int) (w : World) :
   Calls Tryd.prog 40 #[.int .i64 kind] w (Ret fun v w' => v = .tuple #[.agg #[.string ((opRowAt kind).name), .string ((opRowAt kind).nums), .bool ((opRowAt kind).text)], .bool (okK kind)] ∧ Upd w [] w' []) := by
 have hlen : opRows.length = 24 := rfl
 refine calls_of_W (args := [.int .i64 kind]) Tryd.func40 rfl rfl rfl ?_
 have H0 : UpG w [] w [] := UpG.nil w
 show W _ _ _ _ [(0, _)] w
 refine sr (oo (d_alloc sz82 fun w1 u1 => ?_))
 have H1 : UpG _ _ _ [[_]] := H0.new' u1
 refine ag rfl (dc (W.seq (W.region (oo (d_call ok36 rfl (Ret.calls (rows_any  w1  ) fun _ w2 p1 => ?_))))))
 obtain ⟨a2_1, c2_1, rfl, u2⟩ := p1
 have H2 : UpG _ _ _ [[_], [_]] := (H1.new' u2).re rfl
 refine ag rfl (dc (W.seq (W.seq (W.region (mv rfl (oo (d_cmp _ rfl rfl rfl (mv rfl ?_))))))))
 refine WL.part 8 rfl (fun g27 => ?_) (fun g27 => ?_)
 · refine WL.opN rfl rfl rfl rfl (WL.opN rfl rfl rfl rfl (WL.opN rfl rfl rfl rfl (WL.opN rfl rfl rfl rfl (oo (d_pick rfl rfl (dc (W.ift rfl (W.seq (W.region (oo (d_build (cs := #[.string ⟨#[]⟩, .string ⟨#[]⟩, .bool false]) rfl (by kernel_rfl) (WL.op0 (d_storeAB (us := [_, _, _]) (cs' := #[_, _, _]) sz82 rfl rfl rfl rfl (H2.blk 0 rfl) rfl rfl fun w3 u3 => ?_)))))))))))))
   have H3 : UpG _ _ _ [[_], [_]] := H2.on 0 rfl u3
   refine ag rfl (dc (W.ret (X.then_ret (X.retR2 rfl (rv_cellA [.string ⟨#[]⟩, .string ⟨#[]⟩, .bool false] y82 rfl sz82 rfl (H3.blk 0 rfl) rfl rfl) (rv_tmp rfl) ?_))))
   have e : okK kind = false := by simp [okK]; omega
   have e2 : opRowAt kind = ⟨⟨#[]⟩, ⟨#[]⟩, false⟩ := by simp [opRowAt, e]
   rw [e, e2]
   exact ⟨(by rfl), H3.noneL⟩
 · refine WL.opG rfl rfl rfl (d_move rfl (WL.opG rfl rfl rfl (d_move rfl (WL.opG rfl rfl rfl (d_lenS y79 rfl (WL.opG rfl rfl rfl (d_cmp _ rfl rfl rfl (oo (d_pick rfl rfl (dc ?_))))))))))
   refine W.ite rfl (fun c27 => ?_) (fun c27 => ?_)
   · refine sr (oo (d_build (cs := #[.string ⟨#[]⟩, .string ⟨#[]⟩, .bool false]) rfl (by kernel_rfl) (WL.op0 (d_storeAB (us := [_, _, _]) (cs' := #[_, _, _]) sz82 rfl rfl rfl rfl (H2.blk 0 rfl) rfl rfl fun w4 u4 => ?_))))
     have H4 : UpG _ _ _ [[_], [_]] := H2.on 0 rfl u4
     refine ag rfl (dc (W.ret (X.then_ret (X.retR2 rfl (rv_cellA [.string ⟨#[]⟩, .string ⟨#[]⟩, .bool false] y82 rfl sz82 rfl (H4.blk 0 rfl) rfl rfl) (rv_tmp rfl) ?_))))
     have e : okK kind = false := by simp [okK]; omega
     have e2 : opRowAt kind = ⟨⟨#[]⟩, ⟨#[]⟩, false⟩ := by simp [opRowAt, e]
     rw [e, e2]
     exact ⟨(by rfl), H4.noneL⟩
   · refine sc (W.seq (W.region (mv rfl (mv rfl (oo (d_sub rfl rfl (by omega) (by omega) (oo (t_addrN ((kind - 1).toNat) (T := tyOpRow) rfl y79 sz82 rfl rfl (H2.rdT 1 rfl) (by omega) (by omega) (oo (t_loadN ((kind - 1).toNat) opRow0 (T := tyOpRow) (us := [_, _, _]) rfl y82 rfl sz82 rfl (H2.rdT 1 rfl) (by omega) rfl (WL.op0 (d_storeAB (us := [_, _, _]) (cs' := #[_, _, _]) sz82 rfl rfl rfl rfl (H2.blk 0 rfl) rfl rfl fun w5 u5 => ?_))))))))))))
     have H5 : UpG _ _ _ [[_], [_]] := H2.on 0 rfl u5
     refine ag rfl (dc (W.ret (X.retR2 rfl (rv_cellA [.string ((opRows.getD ((kind - 1).toNat) opRow0).name), .string ((opRows.getD ((kind - 1).toNat) opRow0).nums), .bool ((opRows.getD ((kind - 1).toNat) opRow0).text)] y82 rfl sz82 rfl (H5.blk 0 rfl) rfl rfl) (rv_tmp rfl) ?_)))
     have e : okK kind = true := by simp [okK]; omega
     have e2 : opRowAt kind = opRows.getD (kind - 1).toNat opRow0 := by simp [opRowAt, e]
     rw [e, e2]
     exact ⟨(by rfl), H5.noneL⟩

set_option maxRecDepth 20000 in
theorem fieldL_any (og : Nat) (c : Int) (w : World) (hc1 : ¬ c = 83) (hc2 : ¬ c = 65) :
   Calls Tryd.prog 41 #[.pointer (some ⟨og, 0, none⟩), .int .u8 c] w (Ret fun v w' => v = .pointer (some ⟨og, 3, none⟩) ∧ Upd w [] w' []) := by
 refine calls_of_W (args := [.pointer (some ⟨og, 0, none⟩), .int .u8 c]) Tryd.func41 rfl rfl rfl ?_
 have H0 : UpG w [] w [] := UpG.nil w
 show W _ _ _ _ [(0, _), (1, _)] w
 refine sr (ag rfl (dc (W.seq (W.seq (W.region (mv rfl (dc (W.block (W.seq (W.region (oo (d_cmp _ rfl rfl rfl (ag rfl (dc ?_))))))))))))))
 refine W.ite rfl (fun c52 => ?_) (fun c52 => ?_)
 · exfalso; omega
 · refine sr (oo (d_cmp _ rfl rfl rfl (ag rfl (dc ?_))))
   refine W.ite rfl (fun c54 => ?_) (fun c54 => ?_)
   · exfalso; omega
   · refine W.skip (X.block_normal (X.then_code (W.seq (W.region (mv rfl (oo (d_nilCheck rfl (oo (d_fieldAddrB fld54_3 rfl rfl (ag rfl (dc (W.ret (X.ret1 rfl rfl ?_)))))))))))))
     exact ⟨rfl, H0.noneL⟩

set_option maxRecDepth 20000 in
theorem fieldA_any (og : Nat) (c : Int) (w : World) (hc : c = 65) :
   Calls Tryd.prog 41 #[.pointer (some ⟨og, 0, none⟩), .int .u8 c] w (Ret fun v w' => v = .pointer (some ⟨og, 2, none⟩) ∧ Upd w [] w' []) := by
 refine calls_of_W (args := [.pointer (some ⟨og, 0, none⟩), .int .u8 c]) Tryd.func41 rfl rfl rfl ?_
 have H0 : UpG w [] w [] := UpG.nil w
 show W _ _ _ _ [(0, _), (1, _)] w
 refine sr (ag rfl (dc (W.seq (W.seq (W.region (mv rfl (dc (W.block (W.seq (W.region (oo (d_cmp _ rfl rfl rfl (ag rfl (dc ?_))))))))))))))
 refine W.ite rfl (fun c52 => ?_) (fun c52 => ?_)
 · exfalso; omega
 · refine sr (oo (d_cmp _ rfl rfl rfl (ag rfl (dc ?_))))
   refine W.ite rfl (fun c54 => ?_) (fun c54 => ?_)
   · refine sr (mv rfl (oo (d_nilCheck rfl (oo (d_fieldAddrB fld54_2 rfl rfl (ag rfl (dc (W.ret (X.block_ret (X.then_ret (X.ret1 rfl rfl ?_)))))))))))
     exact ⟨rfl, H0.noneL⟩
   · exfalso; omega

set_option maxRecDepth 20000 in
theorem fieldS_any (og : Nat) (c : Int) (w : World) (hc : c = 83) :
   Calls Tryd.prog 41 #[.pointer (some ⟨og, 0, none⟩), .int .u8 c] w (Ret fun v w' => v = .pointer (some ⟨og, 1, none⟩) ∧ Upd w [] w' []) := by
 refine calls_of_W (args := [.pointer (some ⟨og, 0, none⟩), .int .u8 c]) Tryd.func41 rfl rfl rfl ?_
 have H0 : UpG w [] w [] := UpG.nil w
 show W _ _ _ _ [(0, _), (1, _)] w
 refine sr (ag rfl (dc (W.seq (W.seq (W.region (mv rfl (dc (W.block (W.seq (W.region (oo (d_cmp _ rfl rfl rfl (ag rfl (dc ?_))))))))))))))
 refine W.ite rfl (fun c52 => ?_) (fun c52 => ?_)
 · refine sr (mv rfl (oo (d_nilCheck rfl (oo (d_fieldAddrB fld54_1 rfl rfl (ag rfl (dc (W.ret (X.block_ret (X.then_ret (X.ret1 rfl rfl ?_)))))))))))
   exact ⟨rfl, H0.noneL⟩
 · exfalso; omega

set_option maxRecDepth 20000 in
theorem opOf_any (r : RawD) (ra : Option Addr) (rc : Nat) (w : World) (rr : RdT (tyI .i64) w (.slice ra r.nums.length rc) r.nums) :
   Calls Tryd.prog 20 #[.agg #[.slice ra r.nums.length rc, .string r.text]] w (Ret fun v w' => v = .tuple #[.agg #[.int .i64 ((ofR r).1.kind), .int .i64 ((ofR r).1.slot), .int .i64 ((ofR r).1.at_), .int .i64 ((ofR r).1.len), .string ((ofR r).1.text)], .int .i64 ((ofR r).2)] ∧ Upd w [] w' []) := by
 have le_rr := rr.le
 refine calls_of_W (args := [.agg #[.slice ra r.nums.length rc, .string r.text]]) Tryd.func20 rfl rfl rfl ?_
 have H0 : UpG w [] w [] := UpG.nil w
 show W _ _ _ _ [(0, _)] w
 refine sr (oo (d_box rfl fun w1 u1 => ?_))
 have H1 : UpG _ _ _ [[_]] := H0.new' u1
 refine oo (d_alloc sz54 fun w2 u2 => ?_)
 have H2 : UpG _ _ _ [[_], [_]] := H1.new' u2
 refine ag rfl (dc (W.seq (W.seq (W.region (oo (d_fieldAddrB fld25_0 rfl rfl (oo (d_loadB y23 rfl rfl (H2.blk 0 rfl) rfl (oo (d_lenS y23 rfl (oo (d_cmp _ rfl rfl rfl (dc ?_)))))))))))))
 refine W.ite rfl (fun c62 => ?_) (fun c62 => ?_)
 · refine sr (oo (d_build (cs := #[.int .i64 0, .int .i64 0, .int .i64 0, .int .i64 0, .string ⟨#[]⟩]) rfl (by kernel_rfl) (WL.op0 (d_storeAB (us := [_, _, _, _, _]) (cs' := #[_, _, _, _, _]) sz54 rfl rfl rfl rfl (H2.blk 1 rfl) rfl rfl fun w3 u3 => ?_))))
   have H3 : UpG _ _ _ [[_], [_]] := H2.on 1 rfl u3
   refine ag rfl (dc (W.ret (X.then_ret (X.retR2 rfl (rv_cellA [.int .i64 0, .int .i64 0, .int .i64 0, .int .i64 0, .string ⟨#[]⟩] y54 rfl sz54 rfl (H3.blk 1 rfl) rfl rfl) (rv_tmp rfl) ?_))))
   have e : ofR r = (op0, 9) := by unfold ofR; rw [if_pos (.inl (by omega))]
   rw [e]
   exact ⟨(by rfl), H3.noneL⟩
 · refine sc (W.seq (W.region (oo (d_fieldAddrB fld25_0 rfl rfl (oo (d_loadB y23 rfl rfl (H2.blk 0 rfl) rfl (oo (t_addr1 0 (T := (tyI .i64)) rfl y23 sz3 rfl rfl (rr.at H2) rfl (by omega) (oo (t_load1 0 0 (T := (tyI .i64)) rfl y3 rfl rfl (rr.at H2) (by omega) rfl (oo (d_call ok40 rfl (Ret.calls (of_any _ w2  ) fun _ w4 p1 => ?_)))))))))))))
   obtain ⟨rfl, u4⟩ := p1
   have H4 : UpG _ _ _ [[_], [_]] := H2.call u4
   refine mv rfl (oo (d_extract rfl rfl (oo (d_extract rfl rfl (oo (d_alloc sz82 fun w5 u5 => ?_))))))
   have H5 : UpG _ _ _ [[_], [_], [_]] := H4.new' u5
   refine WL.op0 (d_storeAB (us := [_, _, _]) (cs' := #[_, _, _]) sz82 rfl rfl rfl rfl (H5.blk 2 rfl) rfl rfl fun w6 u6 => ?_)
   have H6 : UpG _ _ _ [[_], [_], [_]] := H5.on 2 rfl u6
   refine ag rfl (dc (W.seq (W.block (W.seq (W.region (mv rfl (oo (d_notB rfl (ag rfl (dc ?_))))))))))
   refine W.iteB rfl (fun c67 => ?_) (fun c67 => ?_)
   · refine sr (oo (d_build (cs := #[.int .i64 0, .int .i64 0, .int .i64 0, .int .i64 0, .string ⟨#[]⟩]) rfl (by kernel_rfl) (WL.op0 (d_storeAB (us := [_, _, _, _, _]) (cs' := #[_, _, _, _, _]) sz54 rfl rfl rfl rfl (H6.blk 1 rfl) rfl rfl fun w7 u7 => ?_))))
     have H7 : UpG _ _ _ [[_], [_], [_]] := H6.on 1 rfl u7
     refine ag rfl (dc (W.ret (X.block_ret (X.then_ret (X.retR2 rfl (rv_cellA [.int .i64 0, .int .i64 0, .int .i64 0, .int .i64 0, .string ⟨#[]⟩] y54 rfl sz54 rfl (H7.blk 1 rfl) rfl rfl) (rv_tmp rfl) ?_)))))
     have e : ofR r = (op0, 9) := by unfold ofR; rw [if_pos (.inr (by simpa using c67))]
     rw [e]
     exact ⟨(by rfl), H7.noneL⟩
   · refine W.seq ?_
     have hok : okK (r.nums.getD 0 0) = true := by simpa using c67
     have hrn := row_nums hok
     have hrt := row_text hok
     have hrs := row_size hok
     have hno : ¬ (r.nums.length = 0 ∨ okK (r.nums.getD 0 0) = false) := by rintro (h | h) <;> first | omega | (rw [hok] at h; cases h)
     refine W.region (oo (d_fieldAddrB fld25_0 rfl rfl (oo (d_loadB y23 rfl rfl (H6.blk 0 rfl) rfl (oo (d_lenS y23 rfl (oo (d_fieldAddrB fld82_1 rfl rfl (oo (d_loadB y9 rfl rfl (H6.blk 2 rfl) rfl (oo (d_lenStr y9 rfl (oo (d_add rfl rfl (by omega) (by omega) (oo (d_cmp _ rfl rfl rfl (mv rfl ?_)))))))))))))))))
     refine WL.part 34 rfl (fun g69 => ?_) (fun g69 => ?_)
     · refine WL.opN rfl rfl rfl rfl (WL.opN rfl rfl rfl rfl (WL.opN rfl rfl rfl rfl (WL.opN rfl rfl rfl rfl (WL.opU rfl rfl rfl (WL.opU rfl rfl rfl (WL.opU rfl rfl rfl (WL.opN rfl rfl rfl rfl (oo (d_pick rfl rfl (ag rfl (dc (W.pick [25, 4, 3, 2, 1] (Γ' := [(25, _), (4, _), (3, _), (2, _), (1, _)]) rfl (W.ift rfl (W.seq (W.region (oo (d_build (cs := #[.int .i64 0, .int .i64 0, .int .i64 0, .int .i64 0, .string ⟨#[]⟩]) rfl (by kernel_rfl) (WL.op0 (d_storeAB (us := [_, _, _, _, _]) (cs' := #[_, _, _, _, _]) sz54 rfl rfl rfl rfl (H6.blk 1 rfl) rfl rfl fun w8 u8 => ?_)))))))))))))))))))
       have H8 : UpG _ _ _ [[_], [_], [_]] := H6.on 1 rfl u8
       refine ag rfl (dc (W.ret (X.block_ret (X.then_ret (X.retR2 rfl (rv_cellA [.int .i64 0, .int .i64 0, .int .i64 0, .int .i64 0, .string ⟨#[]⟩] y54 rfl sz54 rfl (H8.blk 1 rfl) rfl rfl) (rv_tmp rfl) ?_)))))
       have e : ofR r = (op0, 3) := by unfold ofR; rw [if_neg hno, if_pos (by first | exact .inl (by omega) | exact .inr ⟨size_pos g69x, by rw [← hrt]; simpa using c69⟩)]
       rw [e]
       exact ⟨(by rfl), H8.noneL⟩
     · refine WL.opG rfl rfl rfl (d_fieldAddrB fld25_1 rfl rfl (WL.opG rfl rfl rfl (d_loadB y9 rfl rfl (H6.blk 0 rfl) rfl (WL.opG rfl rfl rfl (d_strne rfl rfl (WL.opG rfl rfl rfl (d_move rfl ?_)))))))
       refine WL.part 38 rfl (fun g69x => ?_) (fun g69x => ?_)
       · refine WL.opG rfl rfl rfl (d_fieldAddrB fld82_2 rfl rfl (WL.opG rfl rfl rfl (d_loadB y4 rfl rfl (H6.blk 2 rfl) rfl (WL.opG rfl rfl rfl (d_notB rfl (WL.opG rfl rfl rfl (d_pick rfl rfl (oo (d_pick rfl rfl (ag rfl (dc (W.pick [25, 4, 3, 2, 1] (Γ' := [(25, _), (4, _), (3, _), (2, _), (1, _)]) rfl ?_))))))))))))
         refine W.iteB rfl (fun c69 => ?_) (fun c69 => ?_)
         · refine sr (oo (d_build (cs := #[.int .i64 0, .int .i64 0, .int .i64 0, .int .i64 0, .string ⟨#[]⟩]) rfl (by kernel_rfl) (WL.op0 (d_storeAB (us := [_, _, _, _, _]) (cs' := #[_, _, _, _, _]) sz54 rfl rfl rfl rfl (H6.blk 1 rfl) rfl rfl fun w9 u9 => ?_))))
           have H9 : UpG _ _ _ [[_], [_], [_]] := H6.on 1 rfl u9
           refine ag rfl (dc (W.ret (X.block_ret (X.then_ret (X.retR2 rfl (rv_cellA [.int .i64 0, .int .i64 0, .int .i64 0, .int .i64 0, .string ⟨#[]⟩] y54 rfl sz54 rfl (H9.blk 1 rfl) rfl rfl) (rv_tmp rfl) ?_)))))
           have e : ofR r = (op0, 3) := by unfold ofR; rw [if_neg hno, if_pos (by first | exact .inl (by omega) | exact .inr ⟨size_pos g69x, by rw [← hrt]; simpa using c69⟩)]
           rw [e]
           exact ⟨(by rfl), H9.noneL⟩
         · refine W.seq ?_
           have hmid : ¬ (tot (r.nums.getD 0 0) ≠ r.nums.length ∨ (0 < r.text.size ∧ cT (r.nums.getD 0 0) = false)) := fun h => h.elim (fun h => by omega) (fun h => by first | exact absurd h.1 (nil_size g69x) | (have h2 := h.2; rw [hrt, h2] at c69; exact c69 rfl))
           refine W.region (oo (d_fieldAddrB fld25_1 rfl rfl (oo (d_loadB y9 rfl rfl (H6.blk 0 rfl) rfl (oo (d_lenStr y9 rfl (oo (d_cmp _ rfl rfl rfl (ag rfl (dc ?_))))))))))
           refine W.ite rfl (fun c71 => ?_) (fun c71 => ?_)
           · refine sr (oo (d_build (cs := #[.int .i64 0, .int .i64 0, .int .i64 0, .int .i64 0, .string ⟨#[]⟩]) rfl (by kernel_rfl) (WL.op0 (d_storeAB (us := [_, _, _, _, _]) (cs' := #[_, _, _, _, _]) sz54 rfl rfl rfl rfl (H6.blk 1 rfl) rfl rfl fun w10 u10 => ?_))))
             have H10 : UpG _ _ _ [[_], [_], [_]] := H6.on 1 rfl u10
             refine ag rfl (dc (W.ret (X.block_ret (X.then_ret (X.retR2 rfl (rv_cellA [.int .i64 0, .int .i64 0, .int .i64 0, .int .i64 0, .string ⟨#[]⟩] y54 rfl sz54 rfl (H10.blk 1 rfl) rfl rfl) (rv_tmp rfl) ?_)))))
             have e : ofR r = (op0, 4) := by unfold ofR; rw [if_neg hno, if_neg hmid, if_pos (by omega)]
             rw [e]
             exact ⟨(by rfl), H10.noneL⟩
           · refine W.skip (X.block_normal (X.then_code (W.seq (W.regionD mixed (by kernel_rfl) fun hok1 w11 k1 => ?_))))
             have H11 : UpG _ _ _ [[_], [_], [_]] := H6.kept k1
             refine tq hok1 0 rfl rfl (fun _ => d_fieldAddrB fld25_0 rfl rfl ⟨rfl, rfl⟩) (tb hok1 1 (H11.blk 0 rfl) rfl rfl (fun _ hC => d_loadB y23 rfl rfl hC rfl ⟨rfl, rfl⟩) (tr hok1 2 (rr.at H11) rfl rfl (fun _ hC => t_addr1 0 (T := (tyI .i64)) rfl y23 sz3 rfl rfl hC rfl (by omega) ⟨rfl, rfl⟩) (tr hok1 3 (rr.at H11) rfl rfl (fun _ hC => t_load1 0 0 (T := (tyI .i64)) rfl y3 rfl rfl hC (by omega) rfl ⟨rfl, rfl⟩) (tq hok1 4 rfl rfl (fun _ => d_fieldAddrB fld25_1 rfl rfl ⟨rfl, rfl⟩) (tb hok1 5 (H11.blk 0 rfl) rfl rfl (fun _ hC => d_loadB y9 rfl rfl hC rfl ⟨rfl, rfl⟩) (tq hok1 6 rfl rfl (fun _ => d_build (cs := #[.int .i64 (r.nums.getD 0 0), .int .i64 0, .int .i64 0, .int .i64 0, .string r.text]) rfl (by kernel_rfl) ⟨rfl, rfl⟩) (wo hok1 7 (lo [_, _, _, _, _, _, _] rfl rfl (d_alloc sz54 fun w12 u11 => ?_)))))))))
             have H12 : UpG _ _ _ [[_], [_], [_], [_]] := H11.new' u11
             refine ⟨⟨trivial, (H12.blk 0 rfl), trivial, (rr.at H12), (rr.at H12), (H12.blk 0 rfl), trivial, trivial⟩, (wo hok1 8 (lo [] rfl rfl (d_storeAB (us := [_, _, _, _, _]) (cs' := #[_, _, _, _, _]) sz54 rfl rfl rfl rfl (H12.blk 3 rfl) rfl rfl fun w13 u12 => ?_)))⟩
             have H13 : UpG _ _ _ [[_], [_], [_], [_]] := H12.on 3 rfl u12
             refine ⟨trivial, (WD.done hok1 rfl (X.then_code (W.seq (W.seq (W.region (oo (d_fieldAddrB fld82_1 rfl rfl (oo (d_loadB y9 rfl rfl (H13.blk 2 rfl) rfl (oo (d_lenStr y9 rfl (mv rfl (dc (W.block ?_))))))))))))))⟩
             have H14 : UpG _ _ _ [[_], [_], [_], [_]] := H13.pm [3, 0, 1, 2] rfl rfl
             refine W.lp (B := [(60, _), (6, _), (4, _), (3, _), (2, _), (1, _)]) [61, 60, 6, 4, 3, 2, 1] (fun B R L m Γ' w' => ∃ j : Nat, ∃ o1 : Int, ∃ o2 : Int, ∃ o3 : Int, Γ' = (61, .int .i64 ((j : Nat) : Int)) :: B ∧ UpG w L w' ([blk w11.heap.size #[.int .i64 (r.nums.getD 0 0), .int .i64 o1, .int .i64 o2, .int .i64 o3, .string r.text] 54] :: R) ∧ (j ≤ (opRowAt (r.nums.getD 0 0)).nums.size) ∧ (fieldsTo (opRowAt (r.nums.getD 0 0)).nums r.nums j = (o1, o2, o3)) ∧ m = (opRowAt (r.nums.getD 0 0)).nums.size - j) ((opRowAt (r.nums.getD 0 0)).nums.size - 0) ⟨0, 0, 0, 0, rfl, H14, (by first | assumption | omega | simp), (by rfl), rfl⟩ rfl ?_
             rintro m1 Γ1 w14 ⟨j, o1, o2, o3, rfl, H15, hj, hst, rfl⟩
             refine sr (oo (d_cmp _ rfl rfl rfl (dc (W.seq ?_))))
             refine W.ite rfl (fun c75 => ?_) (fun c75 => ?_)
             · refine sc (W.seq (W.block (W.seq (W.region (mv rfl (ag rfl (dc ?_)))))))
               by_cases hS : bt (opRowAt (r.nums.getD 0 0)).nums j = 83
               · refine W.regionD mixed (by kernel_rfl) fun hok2 w15 k2 => ?_
                 have H16 : UpG _ _ _ [[_], [_], [_], [_]] := H15.kept k2
                 refine tq hok2 0 rfl rfl (fun _ => d_fieldAddrB fld82_1 rfl rfl ⟨rfl, rfl⟩) (tb hok2 1 (H16.blk 3 rfl) rfl rfl (fun _ hC => d_loadB y9 rfl rfl hC rfl ⟨rfl, rfl⟩) (tm hok2 2 rfl rfl (tq hok2 3 rfl rfl (fun _ => d_idxStrN j y9 rfl rfl rfl (by omega) ⟨rfl, rfl⟩) (tq hok2 5 rfl rfl (fun _ => d_fieldAddrB fld25_0 rfl rfl ⟨rfl, rfl⟩) (tb hok2 6 (H16.blk 1 rfl) rfl rfl (fun _ hC => d_loadB y23 rfl rfl hC rfl ⟨rfl, rfl⟩) (tm hok2 7 rfl rfl (tq hok2 8 rfl rfl (fun _ => d_add rfl rfl (by omega) (by omega) ⟨rfl, rfl⟩) (tr hok2 9 (rr.at H16) rfl rfl (fun _ hC => t_addr1 (j + 1) (T := (tyI .i64)) rfl y23 sz3 rfl rfl hC rfl (by omega) ⟨rfl, rfl⟩) (tr hok2 10 (rr.at H16) rfl rfl (fun _ hC => t_load1 (j + 1) 0 (T := (tyI .i64)) rfl y3 rfl rfl hC (by omega) rfl ⟨rfl, rfl⟩) (wo hok2 4 (lo [_, _, _, _, _, _] rfl rfl (d_call ok41 rfl (Ret.calls (fieldS_any _ _ w15  hS) fun _ w16 p2 => ?_)))))))))))))
                 obtain ⟨rfl, u13⟩ := p2
                 have H17 : UpG _ _ _ [[_], [_], [_], [_]] := H16.call u13
                 refine ⟨⟨(rr.at H17), (rr.at H17), trivial, trivial, (H17.blk 1 rfl), trivial, trivial⟩, (tq hok2 11 rfl rfl (fun _ => d_nilCheck rfl ⟨rfl, rfl⟩) (wo hok2 12 (lo [] rfl rfl (d_storeB sz3 rfl rfl rfl (H17.blk 0 rfl) rfl fun w17 u14 => ?_))))⟩
                 have H18 : UpG _ _ _ [[_], [_], [_], [_]] := H17.on 0 rfl u14
                 refine ⟨trivial, (WD.done hok2 rfl (X.block_normal (X.then_code (W.region (oo (d_add rfl rfl (by omega) (by omega) (mv rfl (WL.done ?_))))))))⟩
                 exact X.nx [61, 60, 6, 4, 3, 2, 1] ((opRowAt (r.nums.getD 0 0)).nums.size - (j + 1)) (by omega) ⟨j + 1, r.nums.getD (j + 1) 0, o2, o3, rfl, H18, (by first | assumption | omega | simp), (by rw [fieldsTo, hst]; unfold put; first | rw [if_pos hS] | rw [if_neg hS, if_pos hA] | rw [if_neg hS, if_neg hA]), rfl⟩ rfl
               · by_cases hA : bt (opRowAt (r.nums.getD 0 0)).nums j = 65
                 · refine W.regionD mixed (by kernel_rfl) fun hok3 w18 k3 => ?_
                   have H19 : UpG _ _ _ [[_], [_], [_], [_]] := H15.kept k3
                   refine tq hok3 0 rfl rfl (fun _ => d_fieldAddrB fld82_1 rfl rfl ⟨rfl, rfl⟩) (tb hok3 1 (H19.blk 3 rfl) rfl rfl (fun _ hC => d_loadB y9 rfl rfl hC rfl ⟨rfl, rfl⟩) (tm hok3 2 rfl rfl (tq hok3 3 rfl rfl (fun _ => d_idxStrN j y9 rfl rfl rfl (by omega) ⟨rfl, rfl⟩) (tq hok3 5 rfl rfl (fun _ => d_fieldAddrB fld25_0 rfl rfl ⟨rfl, rfl⟩) (tb hok3 6 (H19.blk 1 rfl) rfl rfl (fun _ hC => d_loadB y23 rfl rfl hC rfl ⟨rfl, rfl⟩) (tm hok3 7 rfl rfl (tq hok3 8 rfl rfl (fun _ => d_add rfl rfl (by omega) (by omega) ⟨rfl, rfl⟩) (tr hok3 9 (rr.at H19) rfl rfl (fun _ hC => t_addr1 (j + 1) (T := (tyI .i64)) rfl y23 sz3 rfl rfl hC rfl (by omega) ⟨rfl, rfl⟩) (tr hok3 10 (rr.at H19) rfl rfl (fun _ hC => t_load1 (j + 1) 0 (T := (tyI .i64)) rfl y3 rfl rfl hC (by omega) rfl ⟨rfl, rfl⟩) (wo hok3 4 (lo [_, _, _, _, _, _] rfl rfl (d_call ok41 rfl (Ret.calls (fieldA_any _ _ w18  hA) fun _ w19 p3 => ?_)))))))))))))
                   obtain ⟨rfl, u15⟩ := p3
                   have H20 : UpG _ _ _ [[_], [_], [_], [_]] := H19.call u15
                   refine ⟨⟨(rr.at H20), (rr.at H20), trivial, trivial, (H20.blk 1 rfl), trivial, trivial⟩, (tq hok3 11 rfl rfl (fun _ => d_nilCheck rfl ⟨rfl, rfl⟩) (wo hok3 12 (lo [] rfl rfl (d_storeB sz3 rfl rfl rfl (H20.blk 0 rfl) rfl fun w20 u16 => ?_))))⟩
                   have H21 : UpG _ _ _ [[_], [_], [_], [_]] := H20.on 0 rfl u16
                   refine ⟨trivial, (WD.done hok3 rfl (X.block_normal (X.then_code (W.region (oo (d_add rfl rfl (by omega) (by omega) (mv rfl (WL.done ?_))))))))⟩
                   exact X.nx [61, 60, 6, 4, 3, 2, 1] ((opRowAt (r.nums.getD 0 0)).nums.size - (j + 1)) (by omega) ⟨j + 1, o1, r.nums.getD (j + 1) 0, o3, rfl, H21, (by first | assumption | omega | simp), (by rw [fieldsTo, hst]; unfold put; first | rw [if_pos hS] | rw [if_neg hS, if_pos hA] | rw [if_neg hS, if_neg hA]), rfl⟩ rfl
                 · refine W.regionD mixed (by kernel_rfl) fun hok4 w21 k4 => ?_
                   have H22 : UpG _ _ _ [[_], [_], [_], [_]] := H15.kept k4
                   refine tq hok4 0 rfl rfl (fun _ => d_fieldAddrB fld82_1 rfl rfl ⟨rfl, rfl⟩) (tb hok4 1 (H22.blk 3 rfl) rfl rfl (fun _ hC => d_loadB y9 rfl rfl hC rfl ⟨rfl, rfl⟩) (tm hok4 2 rfl rfl (tq hok4 3 rfl rfl (fun _ => d_idxStrN j y9 rfl rfl rfl (by omega) ⟨rfl, rfl⟩) (tq hok4 5 rfl rfl (fun _ => d_fieldAddrB fld25_0 rfl rfl ⟨rfl, rfl⟩) (tb hok4 6 (H22.blk 1 rfl) rfl rfl (fun _ hC => d_loadB y23 rfl rfl hC rfl ⟨rfl, rfl⟩) (tm hok4 7 rfl rfl (tq hok4 8 rfl rfl (fun _ => d_add rfl rfl (by omega) (by omega) ⟨rfl, rfl⟩) (tr hok4 9 (rr.at H22) rfl rfl (fun _ hC => t_addr1 (j + 1) (T := (tyI .i64)) rfl y23 sz3 rfl rfl hC rfl (by omega) ⟨rfl, rfl⟩) (tr hok4 10 (rr.at H22) rfl rfl (fun _ hC => t_load1 (j + 1) 0 (T := (tyI .i64)) rfl y3 rfl rfl hC (by omega) rfl ⟨rfl, rfl⟩) (wo hok4 4 (lo [_, _, _, _, _, _] rfl rfl (d_call ok41 rfl (Ret.calls (fieldL_any _ _ w21  hS hA) fun _ w22 p4 => ?_)))))))))))))
                   obtain ⟨rfl, u17⟩ := p4
                   have H23 : UpG _ _ _ [[_], [_], [_], [_]] := H22.call u17
                   refine ⟨⟨(rr.at H23), (rr.at H23), trivial, trivial, (H23.blk 1 rfl), trivial, trivial⟩, (tq hok4 11 rfl rfl (fun _ => d_nilCheck rfl ⟨rfl, rfl⟩) (wo hok4 12 (lo [] rfl rfl (d_storeB sz3 rfl rfl rfl (H23.blk 0 rfl) rfl fun w23 u18 => ?_))))⟩
                   have H24 : UpG _ _ _ [[_], [_], [_], [_]] := H23.on 0 rfl u18
                   refine ⟨trivial, (WD.done hok4 rfl (X.block_normal (X.then_code (W.region (oo (d_add rfl rfl (by omega) (by omega) (mv rfl (WL.done ?_))))))))⟩
                   exact X.nx [61, 60, 6, 4, 3, 2, 1] ((opRowAt (r.nums.getD 0 0)).nums.size - (j + 1)) (by omega) ⟨j + 1, o1, o2, r.nums.getD (j + 1) 0, rfl, H24, (by first | assumption | omega | simp), (by rw [fieldsTo, hst]; unfold put; first | rw [if_pos hS] | rw [if_neg hS, if_pos hA] | rw [if_neg hS, if_neg hA]), rfl⟩ rfl
             · refine W.exit (X.then_exit (X.then_exit (X.block_exit (X.then_code (W.seq (W.region (oo (d_loadAB [_, _, _, _, _] y54 rfl sz54 rfl (H15.blk 0 rfl) rfl rfl (WL.op0 (d_storeAB (us := [_, _, _, _, _]) (cs' := #[_, _, _, _, _]) sz54 rfl rfl rfl rfl (H15.blk 2 rfl) rfl rfl fun w24 u19 => ?_))))))))))
               have H25 : UpG _ _ _ [[_], [_], [_], [_]] := H15.on 2 rfl u19
               refine ag rfl (dc (W.ret (X.retR2 rfl (rv_cellA [.int .i64 (r.nums.getD 0 0), .int .i64 o1, .int .i64 o2, .int .i64 o3, .string r.text] y54 rfl sz54 rfl (H25.blk 2 rfl) rfl rfl) (rv_tmp rfl) ?_)))
               have hjj : j = (opRowAt (r.nums.getD 0 0)).nums.size := by omega
               rw [hjj, row_fields hok] at hst
               obtain ⟨h1, h2, h3⟩ : fS (r.nums.getD 0 0) r.nums = o1 ∧ fA (r.nums.getD 0 0) r.nums = o2 ∧ fL (r.nums.getD 0 0) r.nums = o3 := by simpa using hst
               have e : ofR r = (⟨r.nums.getD 0 0, o1, o2, o3, r.text⟩, 0) := by unfold ofR; rw [if_neg hno, if_neg hmid, if_neg (by omega), h1, h2, h3]
               rw [e]
               exact ⟨(by rfl), H25.noneL⟩
       · refine WL.opN rfl rfl rfl rfl (WL.opN rfl rfl rfl rfl (WL.opN rfl rfl rfl rfl (WL.opG rfl rfl rfl (d_pick rfl rfl (oo (d_pick rfl rfl (ag rfl (dc (W.pick [25, 4, 3, 2, 1] (Γ' := [(25, _), (4, _), (3, _), (2, _), (1, _)]) rfl (W.iff rfl (W.seq ?_)))))))))))
         have hmid : ¬ (tot (r.nums.getD 0 0) ≠ r.nums.length ∨ (0 < r.text.size ∧ cT (r.nums.getD 0 0) = false)) := fun h => h.elim (fun h => by omega) (fun h => by first | exact absurd h.1 (nil_size g69x) | (have h2 := h.2; rw [hrt, h2] at c69; exact c69 rfl))
         refine W.region (oo (d_fieldAddrB fld25_1 rfl rfl (oo (d_loadB y9 rfl rfl (H6.blk 0 rfl) rfl (oo (d_lenStr y9 rfl (oo (d_cmp _ rfl rfl rfl (ag rfl (dc ?_))))))))))
         refine W.ite rfl (fun c71 => ?_) (fun c71 => ?_)
         · refine sr (oo (d_build (cs := #[.int .i64 0, .int .i64 0, .int .i64 0, .int .i64 0, .string ⟨#[]⟩]) rfl (by kernel_rfl) (WL.op0 (d_storeAB (us := [_, _, _, _, _]) (cs' := #[_, _, _, _, _]) sz54 rfl rfl rfl rfl (H6.blk 1 rfl) rfl rfl fun w25 u20 => ?_))))
           have H26 : UpG _ _ _ [[_], [_], [_]] := H6.on 1 rfl u20
           refine ag rfl (dc (W.ret (X.block_ret (X.then_ret (X.retR2 rfl (rv_cellA [.int .i64 0, .int .i64 0, .int .i64 0, .int .i64 0, .string ⟨#[]⟩] y54 rfl sz54 rfl (H26.blk 1 rfl) rfl rfl) (rv_tmp rfl) ?_)))))
           have e : ofR r = (op0, 4) := by unfold ofR; rw [if_neg hno, if_neg hmid, if_pos (by omega)]
           rw [e]
           exact ⟨(by rfl), H26.noneL⟩
         · refine W.skip (X.block_normal (X.then_code (W.seq (W.regionD mixed (by kernel_rfl) fun hok5 w26 k5 => ?_))))
           have H27 : UpG _ _ _ [[_], [_], [_]] := H6.kept k5
           refine tq hok5 0 rfl rfl (fun _ => d_fieldAddrB fld25_0 rfl rfl ⟨rfl, rfl⟩) (tb hok5 1 (H27.blk 0 rfl) rfl rfl (fun _ hC => d_loadB y23 rfl rfl hC rfl ⟨rfl, rfl⟩) (tr hok5 2 (rr.at H27) rfl rfl (fun _ hC => t_addr1 0 (T := (tyI .i64)) rfl y23 sz3 rfl rfl hC rfl (by omega) ⟨rfl, rfl⟩) (tr hok5 3 (rr.at H27) rfl rfl (fun _ hC => t_load1 0 0 (T := (tyI .i64)) rfl y3 rfl rfl hC (by omega) rfl ⟨rfl, rfl⟩) (tq hok5 4 rfl rfl (fun _ => d_fieldAddrB fld25_1 rfl rfl ⟨rfl, rfl⟩) (tb hok5 5 (H27.blk 0 rfl) rfl rfl (fun _ hC => d_loadB y9 rfl rfl hC rfl ⟨rfl, rfl⟩) (tq hok5 6 rfl rfl (fun _ => d_build (cs := #[.int .i64 (r.nums.getD 0 0), .int .i64 0, .int .i64 0, .int .i64 0, .string r.text]) rfl (by kernel_rfl) ⟨rfl, rfl⟩) (wo hok5 7 (lo [_, _, _, _, _, _, _] rfl rfl (d_alloc sz54 fun w27 u21 => ?_)))))))))
           have H28 : UpG _ _ _ [[_], [_], [_], [_]] := H27.new' u21
           refine ⟨⟨trivial, (H28.blk 0 rfl), trivial, (rr.at H28), (rr.at H28), (H28.blk 0 rfl), trivial, trivial⟩, (wo hok5 8 (lo [] rfl rfl (d_storeAB (us := [_, _, _, _, _]) (cs' := #[_, _, _, _, _]) sz54 rfl rfl rfl rfl (H28.blk 3 rfl) rfl rfl fun w28 u22 => ?_)))⟩
           have H29 : UpG _ _ _ [[_], [_], [_], [_]] := H28.on 3 rfl u22
           refine ⟨trivial, (WD.done hok5 rfl (X.then_code (W.seq (W.seq (W.region (oo (d_fieldAddrB fld82_1 rfl rfl (oo (d_loadB y9 rfl rfl (H29.blk 2 rfl) rfl (oo (d_lenStr y9 rfl (mv rfl (dc (W.block ?_))))))))))))))⟩
           have H30 : UpG _ _ _ [[_], [_], [_], [_]] := H29.pm [3, 0, 1, 2] rfl rfl
           refine W.lp (B := [(60, _), (6, _), (4, _), (3, _), (2, _), (1, _)]) [61, 60, 6, 4, 3, 2, 1] (fun B R L m Γ' w' => ∃ j : Nat, ∃ o1 : Int, ∃ o2 : Int, ∃ o3 : Int, Γ' = (61, .int .i64 ((j : Nat) : Int)) :: B ∧ UpG w L w' ([blk w26.heap.size #[.int .i64 (r.nums.getD 0 0), .int .i64 o1, .int .i64 o2, .int .i64 o3, .string r.text] 54] :: R) ∧ (j ≤ (opRowAt (r.nums.getD 0 0)).nums.size) ∧ (fieldsTo (opRowAt (r.nums.getD 0 0)).nums r.nums j = (o1, o2, o3)) ∧ m = (opRowAt (r.nums.getD 0 0)).nums.size - j) ((opRowAt (r.nums.getD 0 0)).nums.size - 0) ⟨0, 0, 0, 0, rfl, H30, (by first | assumption | omega | simp), (by rfl), rfl⟩ rfl ?_
           rintro m2 Γ2 w29 ⟨j_1, o1_1, o2_1, o3_1, rfl, H31, hj, hst, rfl⟩
           refine sr (oo (d_cmp _ rfl rfl rfl (dc (W.seq ?_))))
           refine W.ite rfl (fun c75 => ?_) (fun c75 => ?_)
           · refine sc (W.seq (W.block (W.seq (W.region (mv rfl (ag rfl (dc ?_)))))))
             by_cases hS : bt (opRowAt (r.nums.getD 0 0)).nums j_1 = 83
             · refine W.regionD mixed (by kernel_rfl) fun hok6 w30 k6 => ?_
               have H32 : UpG _ _ _ [[_], [_], [_], [_]] := H31.kept k6
               refine tq hok6 0 rfl rfl (fun _ => d_fieldAddrB fld82_1 rfl rfl ⟨rfl, rfl⟩) (tb hok6 1 (H32.blk 3 rfl) rfl rfl (fun _ hC => d_loadB y9 rfl rfl hC rfl ⟨rfl, rfl⟩) (tm hok6 2 rfl rfl (tq hok6 3 rfl rfl (fun _ => d_idxStrN j_1 y9 rfl rfl rfl (by omega) ⟨rfl, rfl⟩) (tq hok6 5 rfl rfl (fun _ => d_fieldAddrB fld25_0 rfl rfl ⟨rfl, rfl⟩) (tb hok6 6 (H32.blk 1 rfl) rfl rfl (fun _ hC => d_loadB y23 rfl rfl hC rfl ⟨rfl, rfl⟩) (tm hok6 7 rfl rfl (tq hok6 8 rfl rfl (fun _ => d_add rfl rfl (by omega) (by omega) ⟨rfl, rfl⟩) (tr hok6 9 (rr.at H32) rfl rfl (fun _ hC => t_addr1 (j_1 + 1) (T := (tyI .i64)) rfl y23 sz3 rfl rfl hC rfl (by omega) ⟨rfl, rfl⟩) (tr hok6 10 (rr.at H32) rfl rfl (fun _ hC => t_load1 (j_1 + 1) 0 (T := (tyI .i64)) rfl y3 rfl rfl hC (by omega) rfl ⟨rfl, rfl⟩) (wo hok6 4 (lo [_, _, _, _, _, _] rfl rfl (d_call ok41 rfl (Ret.calls (fieldS_any _ _ w30  hS) fun _ w31 p5 => ?_)))))))))))))
               obtain ⟨rfl, u23⟩ := p5
               have H33 : UpG _ _ _ [[_], [_], [_], [_]] := H32.call u23
               refine ⟨⟨(rr.at H33), (rr.at H33), trivial, trivial, (H33.blk 1 rfl), trivial, trivial⟩, (tq hok6 11 rfl rfl (fun _ => d_nilCheck rfl ⟨rfl, rfl⟩) (wo hok6 12 (lo [] rfl rfl (d_storeB sz3 rfl rfl rfl (H33.blk 0 rfl) rfl fun w32 u24 => ?_))))⟩
               have H34 : UpG _ _ _ [[_], [_], [_], [_]] := H33.on 0 rfl u24
               refine ⟨trivial, (WD.done hok6 rfl (X.block_normal (X.then_code (W.region (oo (d_add rfl rfl (by omega) (by omega) (mv rfl (WL.done ?_))))))))⟩
               exact X.nx [61, 60, 6, 4, 3, 2, 1] ((opRowAt (r.nums.getD 0 0)).nums.size - (j_1 + 1)) (by omega) ⟨j_1 + 1, r.nums.getD (j_1 + 1) 0, o2_1, o3_1, rfl, H34, (by first | assumption | omega | simp), (by rw [fieldsTo, hst]; unfold put; first | rw [if_pos hS] | rw [if_neg hS, if_pos hA] | rw [if_neg hS, if_neg hA]), rfl⟩ rfl
             · by_cases hA : bt (opRowAt (r.nums.getD 0 0)).nums j_1 = 65
               · refine W.regionD mixed (by kernel_rfl) fun hok7 w33 k7 => ?_
                 have H35 : UpG _ _ _ [[_], [_], [_], [_]] := H31.kept k7
                 refine tq hok7 0 rfl rfl (fun _ => d_fieldAddrB fld82_1 rfl rfl ⟨rfl, rfl⟩) (tb hok7 1 (H35.blk 3 rfl) rfl rfl (fun _ hC => d_loadB y9 rfl rfl hC rfl ⟨rfl, rfl⟩) (tm hok7 2 rfl rfl (tq hok7 3 rfl rfl (fun _ => d_idxStrN j_1 y9 rfl rfl rfl (by omega) ⟨rfl, rfl⟩) (tq hok7 5 rfl rfl (fun _ => d_fieldAddrB fld25_0 rfl rfl ⟨rfl, rfl⟩) (tb hok7 6 (H35.blk 1 rfl) rfl rfl (fun _ hC => d_loadB y23 rfl rfl hC rfl ⟨rfl, rfl⟩) (tm hok7 7 rfl rfl (tq hok7 8 rfl rfl (fun _ => d_add rfl rfl (by omega) (by omega) ⟨rfl, rfl⟩) (tr hok7 9 (rr.at H35) rfl rfl (fun _ hC => t_addr1 (j_1 + 1) (T := (tyI .i64)) rfl y23 sz3 rfl rfl hC rfl (by omega) ⟨rfl, rfl⟩) (tr hok7 10 (rr.at H35) rfl rfl (fun _ hC => t_load1 (j_1 + 1) 0 (T := (tyI .i64)) rfl y3 rfl rfl hC (by omega) rfl ⟨rfl, rfl⟩) (wo hok7 4 (lo [_, _, _, _, _, _] rfl rfl (d_call ok41 rfl (Ret.calls (fieldA_any _ _ w33  hA) fun _ w34 p6 => ?_)))))))))))))
                 obtain ⟨rfl, u25⟩ := p6
                 have H36 : UpG _ _ _ [[_], [_], [_], [_]] := H35.call u25
                 refine ⟨⟨(rr.at H36), (rr.at H36), trivial, trivial, (H36.blk 1 rfl), trivial, trivial⟩, (tq hok7 11 rfl rfl (fun _ => d_nilCheck rfl ⟨rfl, rfl⟩) (wo hok7 12 (lo [] rfl rfl (d_storeB sz3 rfl rfl rfl (H36.blk 0 rfl) rfl fun w35 u26 => ?_))))⟩
                 have H37 : UpG _ _ _ [[_], [_], [_], [_]] := H36.on 0 rfl u26
                 refine ⟨trivial, (WD.done hok7 rfl (X.block_normal (X.then_code (W.region (oo (d_add rfl rfl (by omega) (by omega) (mv rfl (WL.done ?_))))))))⟩
                 exact X.nx [61, 60, 6, 4, 3, 2, 1] ((opRowAt (r.nums.getD 0 0)).nums.size - (j_1 + 1)) (by omega) ⟨j_1 + 1, o1_1, r.nums.getD (j_1 + 1) 0, o3_1, rfl, H37, (by first | assumption | omega | simp), (by rw [fieldsTo, hst]; unfold put; first | rw [if_pos hS] | rw [if_neg hS, if_pos hA] | rw [if_neg hS, if_neg hA]), rfl⟩ rfl
               · refine W.regionD mixed (by kernel_rfl) fun hok8 w36 k8 => ?_
                 have H38 : UpG _ _ _ [[_], [_], [_], [_]] := H31.kept k8
                 refine tq hok8 0 rfl rfl (fun _ => d_fieldAddrB fld82_1 rfl rfl ⟨rfl, rfl⟩) (tb hok8 1 (H38.blk 3 rfl) rfl rfl (fun _ hC => d_loadB y9 rfl rfl hC rfl ⟨rfl, rfl⟩) (tm hok8 2 rfl rfl (tq hok8 3 rfl rfl (fun _ => d_idxStrN j_1 y9 rfl rfl rfl (by omega) ⟨rfl, rfl⟩) (tq hok8 5 rfl rfl (fun _ => d_fieldAddrB fld25_0 rfl rfl ⟨rfl, rfl⟩) (tb hok8 6 (H38.blk 1 rfl) rfl rfl (fun _ hC => d_loadB y23 rfl rfl hC rfl ⟨rfl, rfl⟩) (tm hok8 7 rfl rfl (tq hok8 8 rfl rfl (fun _ => d_add rfl rfl (by omega) (by omega) ⟨rfl, rfl⟩) (tr hok8 9 (rr.at H38) rfl rfl (fun _ hC => t_addr1 (j_1 + 1) (T := (tyI .i64)) rfl y23 sz3 rfl rfl hC rfl (by omega) ⟨rfl, rfl⟩) (tr hok8 10 (rr.at H38) rfl rfl (fun _ hC => t_load1 (j_1 + 1) 0 (T := (tyI .i64)) rfl y3 rfl rfl hC (by omega) rfl ⟨rfl, rfl⟩) (wo hok8 4 (lo [_, _, _, _, _, _] rfl rfl (d_call ok41 rfl (Ret.calls (fieldL_any _ _ w36  hS hA) fun _ w37 p7 => ?_)))))))))))))
                 obtain ⟨rfl, u27⟩ := p7
                 have H39 : UpG _ _ _ [[_], [_], [_], [_]] := H38.call u27
                 refine ⟨⟨(rr.at H39), (rr.at H39), trivial, trivial, (H39.blk 1 rfl), trivial, trivial⟩, (tq hok8 11 rfl rfl (fun _ => d_nilCheck rfl ⟨rfl, rfl⟩) (wo hok8 12 (lo [] rfl rfl (d_storeB sz3 rfl rfl rfl (H39.blk 0 rfl) rfl fun w38 u28 => ?_))))⟩
                 have H40 : UpG _ _ _ [[_], [_], [_], [_]] := H39.on 0 rfl u28
                 refine ⟨trivial, (WD.done hok8 rfl (X.block_normal (X.then_code (W.region (oo (d_add rfl rfl (by omega) (by omega) (mv rfl (WL.done ?_))))))))⟩
                 exact X.nx [61, 60, 6, 4, 3, 2, 1] ((opRowAt (r.nums.getD 0 0)).nums.size - (j_1 + 1)) (by omega) ⟨j_1 + 1, o1_1, o2_1, r.nums.getD (j_1 + 1) 0, rfl, H40, (by first | assumption | omega | simp), (by rw [fieldsTo, hst]; unfold put; first | rw [if_pos hS] | rw [if_neg hS, if_pos hA] | rw [if_neg hS, if_neg hA]), rfl⟩ rfl
           · refine W.exit (X.then_exit (X.then_exit (X.block_exit (X.then_code (W.seq (W.region (oo (d_loadAB [_, _, _, _, _] y54 rfl sz54 rfl (H31.blk 0 rfl) rfl rfl (WL.op0 (d_storeAB (us := [_, _, _, _, _]) (cs' := #[_, _, _, _, _]) sz54 rfl rfl rfl rfl (H31.blk 2 rfl) rfl rfl fun w39 u29 => ?_))))))))))
             have H41 : UpG _ _ _ [[_], [_], [_], [_]] := H31.on 2 rfl u29
             refine ag rfl (dc (W.ret (X.retR2 rfl (rv_cellA [.int .i64 (r.nums.getD 0 0), .int .i64 o1_1, .int .i64 o2_1, .int .i64 o3_1, .string r.text] y54 rfl sz54 rfl (H41.blk 2 rfl) rfl rfl) (rv_tmp rfl) ?_)))
             have hjj : j_1 = (opRowAt (r.nums.getD 0 0)).nums.size := by omega
             rw [hjj, row_fields hok] at hst
             obtain ⟨h1, h2, h3⟩ : fS (r.nums.getD 0 0) r.nums = o1_1 ∧ fA (r.nums.getD 0 0) r.nums = o2_1 ∧ fL (r.nums.getD 0 0) r.nums = o3_1 := by simpa using hst
             have e : ofR r = (⟨r.nums.getD 0 0, o1_1, o2_1, o3_1, r.text⟩, 0) := by unfold ofR; rw [if_neg hno, if_neg hmid, if_neg (by omega), h1, h2, h3]
             rw [e]
             exact ⟨(by rfl), H41.noneL⟩

set_option maxRecDepth 20000 in
theorem counts_any (k : Int) (w : World) :
   Calls Tryd.prog 44 #[.int .i64 k] w (Ret fun v w' => v = .agg #[.bool (cS k), .bool (cA k), .bool (cL k), .bool (cT k)] ∧ Upd w [] w' []) := by
 refine calls_of_W (args := [.int .i64 k]) Tryd.func44 rfl rfl rfl ?_
 have H0 : UpG w [] w [] := UpG.nil w
 show W _ _ _ _ [(0, _)] w
 refine sr (oo (d_alloc sz91 fun w1 u1 => ?_))
 have H1 : UpG _ _ _ [[_]] := H0.new' u1
 refine dc ?_
 refine W.ct (B := [(2, _), (0, _)]) (R := [[_]]) [2, 0] 0 rfl H1 rfl (fun B R L Γ' w' => ∃ bcS : Bool, Γ' = (3, .bool bcS) :: B ∧ UpG w L w' (R) ∧ (bcS = cS k)) ?_ ?_
 · refine W.region (mv rfl (oo (d_cmp _ rfl rfl rfl (mv rfl ?_))))
   refine WL.part 9 rfl (fun g13 => ?_) (fun g13 => ?_)
   · refine WL.opN rfl rfl rfl rfl (WL.opN rfl rfl rfl rfl (oo (d_pick rfl rfl (mv rfl (WL.opN rfl rfl rfl rfl (WL.opN rfl rfl rfl rfl (oo (d_pick rfl rfl (mv rfl (WL.opN rfl rfl rfl rfl (WL.opN rfl rfl rfl rfl (oo (d_pick rfl rfl (mv rfl (WL.opN rfl rfl rfl rfl (WL.opN rfl rfl rfl rfl (oo (d_pick rfl rfl (mv rfl (WL.opN rfl rfl rfl rfl (WL.opN rfl rfl rfl rfl (oo (d_pick rfl rfl (mv rfl (WL.opN rfl rfl rfl rfl (WL.opN rfl rfl rfl rfl (oo (d_pick rfl rfl (mv rfl ?_)))))))))))))))))))))))))))))
     refine WL.opN rfl rfl rfl rfl (WL.opN rfl rfl rfl rfl (oo (d_pick rfl rfl (mv rfl (WL.opN rfl rfl rfl rfl (WL.opN rfl rfl rfl rfl (oo (d_pick rfl rfl (mv rfl (WL.opN rfl rfl rfl rfl (WL.opN rfl rfl rfl rfl (oo (d_pick rfl rfl (ag rfl (WL.done ?_)))))))))))))))
     exact X.cu [3, 2, 0] ⟨true, rfl, H1, (by first | (simp [cS]; omega) | (simp [cS, *]; done))⟩ rfl
   · refine WL.opG rfl rfl rfl (d_move rfl (WL.opG rfl rfl rfl (d_cmp _ rfl rfl rfl (oo (d_pick rfl rfl (mv rfl ?_))))))
     refine WL.part 13 rfl (fun g13x => ?_) (fun g13x => ?_)
     · refine WL.opN rfl rfl rfl rfl (WL.opN rfl rfl rfl rfl (oo (d_pick rfl rfl (mv rfl (WL.opN rfl rfl rfl rfl (WL.opN rfl rfl rfl rfl (oo (d_pick rfl rfl (mv rfl (WL.opN rfl rfl rfl rfl (WL.opN rfl rfl rfl rfl (oo (d_pick rfl rfl (mv rfl (WL.opN rfl rfl rfl rfl (WL.opN rfl rfl rfl rfl (oo (d_pick rfl rfl (mv rfl (WL.opN rfl rfl rfl rfl (WL.opN rfl rfl rfl rfl (oo (d_pick rfl rfl (mv rfl (WL.opN rfl rfl rfl rfl (WL.opN rfl rfl rfl rfl (oo (d_pick rfl rfl (mv rfl ?_)))))))))))))))))))))))))))))
       refine WL.opN rfl rfl rfl rfl (WL.opN rfl rfl rfl rfl (oo (d_pick rfl rfl (mv rfl (WL.opN rfl rfl rfl rfl (WL.opN rfl rfl rfl rfl (oo (d_pick rfl rfl (ag rfl (WL.done ?_))))))))))
       exact X.cu [3, 2, 0] ⟨true, rfl, H1, (by first | (simp [cS]; omega) | (simp [cS, *]; done))⟩ rfl
     · refine WL.opG rfl rfl rfl (d_move rfl (WL.opG rfl rfl rfl (d_cmp _ rfl rfl rfl (oo (d_pick rfl rfl (mv rfl ?_))))))
       refine WL.part 17 rfl (fun g13xx => ?_) (fun g13xx => ?_)
       · refine WL.opN rfl rfl rfl rfl (WL.opN rfl rfl rfl rfl (oo (d_pick rfl rfl (mv rfl (WL.opN rfl rfl rfl rfl (WL.opN rfl rfl rfl rfl (oo (d_pick rfl rfl (mv rfl (WL.opN rfl rfl rfl rfl (WL.opN rfl rfl rfl rfl (oo (d_pick rfl rfl (mv rfl (WL.opN rfl rfl rfl rfl (WL.opN rfl rfl rfl rfl (oo (d_pick rfl rfl (mv rfl (WL.opN rfl rfl rfl rfl (WL.opN rfl rfl rfl rfl (oo (d_pick rfl rfl (mv rfl (WL.opN rfl rfl rfl rfl (WL.opN rfl rfl rfl rfl (oo (d_pick rfl rfl (mv rfl ?_)))))))))))))))))))))))))))))
         refine WL.opN rfl rfl rfl rfl (WL.opN rfl rfl rfl rfl (oo (d_pick rfl rfl (ag rfl (WL.done ?_)))))
         exact X.cu [3, 2, 0] ⟨true, rfl, H1, (by first | (simp [cS]; omega) | (simp [cS, *]; done))⟩ rfl
       · refine WL.opG rfl rfl rfl (d_move rfl (WL.opG rfl rfl rfl (d_cmp _ rfl rfl rfl (oo (d_pick rfl rfl (mv rfl ?_))))))
         refine WL.part 21 rfl (fun g13xxx => ?_) (fun g13xxx => ?_)
         · refine WL.opN rfl rfl rfl rfl (WL.opN rfl rfl rfl rfl (oo (d_pick rfl rfl (mv rfl (WL.opN rfl rfl rfl rfl (WL.opN rfl rfl rfl rfl (oo (d_pick rfl rfl (mv rfl (WL.opN rfl rfl rfl rfl (WL.opN rfl rfl rfl rfl (oo (d_pick rfl rfl (mv rfl (WL.opN rfl rfl rfl rfl (WL.opN rfl rfl rfl rfl (oo (d_pick rfl rfl (mv rfl (WL.opN rfl rfl rfl rfl (WL.opN rfl rfl rfl rfl (oo (d_pick rfl rfl (mv rfl (WL.opN rfl rfl rfl rfl (WL.opN rfl rfl rfl rfl (oo (d_pick rfl rfl (ag rfl ?_)))))))))))))))))))))))))))))
           refine WL.done ?_
           exact X.cu [3, 2, 0] ⟨true, rfl, H1, (by first | (simp [cS]; omega) | (simp [cS, *]; done))⟩ rfl
         · refine WL.opG rfl rfl rfl (d_move rfl (WL.opG rfl rfl rfl (d_cmp _ rfl rfl rfl (oo (d_pick rfl rfl (mv rfl ?_))))))
           refine WL.part 25 rfl (fun g13xxxx => ?_) (fun g13xxxx => ?_)
           · refine WL.opN rfl rfl rfl rfl (WL.opN rfl rfl rfl rfl (oo (d_pick rfl rfl (mv rfl (WL.opN rfl rfl rfl rfl (WL.opN rfl rfl rfl rfl (oo (d_pick rfl rfl (mv rfl (WL.opN rfl rfl rfl rfl (WL.opN rfl rfl rfl rfl (oo (d_pick rfl rfl (mv rfl (WL.opN rfl rfl rfl rfl (WL.opN rfl rfl rfl rfl (oo (d_pick rfl rfl (mv rfl (WL.opN rfl rfl rfl rfl (WL.opN rfl rfl rfl rfl (oo (d_pick rfl rfl (ag rfl (WL.done ?_)))))))))))))))))))))))))
             exact X.cu [3, 2, 0] ⟨true, rfl, H1, (by first | (simp [cS]; omega) | (simp [cS, *]; done))⟩ rfl
           · refine WL.opG rfl rfl rfl (d_move rfl (WL.opG rfl rfl rfl (d_cmp _ rfl rfl rfl (oo (d_pick rfl rfl (mv rfl ?_))))))
             refine WL.part 29 rfl (fun g13xxxxx => ?_) (fun g13xxxxx => ?_)
             · refine WL.opN rfl rfl rfl rfl (WL.opN rfl rfl rfl rfl (oo (d_pick rfl rfl (mv rfl (WL.opN rfl rfl rfl rfl (WL.opN rfl rfl rfl rfl (oo (d_pick rfl rfl (mv rfl (WL.opN rfl rfl rfl rfl (WL.opN rfl rfl rfl rfl (oo (d_pick rfl rfl (mv rfl (WL.opN rfl rfl rfl rfl (WL.opN rfl rfl rfl rfl (oo (d_pick rfl rfl (ag rfl (WL.done ?_))))))))))))))))))))
               exact X.cu [3, 2, 0] ⟨true, rfl, H1, (by first | (simp [cS]; omega) | (simp [cS, *]; done))⟩ rfl
             · refine WL.opG rfl rfl rfl (d_move rfl (WL.opG rfl rfl rfl (d_cmp _ rfl rfl rfl (oo (d_pick rfl rfl (mv rfl ?_))))))
               refine WL.part 33 rfl (fun g13xxxxxx => ?_) (fun g13xxxxxx => ?_)
               · refine WL.opN rfl rfl rfl rfl (WL.opN rfl rfl rfl rfl (oo (d_pick rfl rfl (mv rfl (WL.opN rfl rfl rfl rfl (WL.opN rfl rfl rfl rfl (oo (d_pick rfl rfl (mv rfl (WL.opN rfl rfl rfl rfl (WL.opN rfl rfl rfl rfl (oo (d_pick rfl rfl (ag rfl (WL.done ?_)))))))))))))))
                 exact X.cu [3, 2, 0] ⟨true, rfl, H1, (by first | (simp [cS]; omega) | (simp [cS, *]; done))⟩ rfl
               · refine WL.opG rfl rfl rfl (d_move rfl (WL.opG rfl rfl rfl (d_cmp _ rfl rfl rfl (oo (d_pick rfl rfl (mv rfl ?_))))))
                 refine WL.part 37 rfl (fun g13xxxxxxx => ?_) (fun g13xxxxxxx => ?_)
                 · refine WL.opN rfl rfl rfl rfl (WL.opN rfl rfl rfl rfl (oo (d_pick rfl rfl (mv rfl (WL.opN rfl rfl rfl rfl (WL.opN rfl rfl rfl rfl (oo (d_pick rfl rfl (ag rfl (WL.done ?_))))))))))
                   exact X.cu [3, 2, 0] ⟨true, rfl, H1, (by first | (simp [cS]; omega) | (simp [cS, *]; done))⟩ rfl
                 · refine WL.opG rfl rfl rfl (d_move rfl (WL.opG rfl rfl rfl (d_cmp _ rfl rfl rfl (oo (d_pick rfl rfl (mv rfl ?_))))))
                   refine WL.part 41 rfl (fun g13xxxxxxxx => ?_) (fun g13xxxxxxxx => ?_)
                   · refine WL.opN rfl rfl rfl rfl (WL.opN rfl rfl rfl rfl (oo (d_pick rfl rfl (ag rfl (WL.done ?_)))))
                     exact X.cu [3, 2, 0] ⟨true, rfl, H1, (by first | (simp [cS]; omega) | (simp [cS, *]; done))⟩ rfl
                   · refine WL.opG rfl rfl rfl (d_move rfl (WL.opG rfl rfl rfl (d_cmp _ rfl rfl rfl (oo (d_pick rfl rfl (ag rfl (WL.done ?_)))))))
                     exact X.cu [3, 2, 0] ⟨decide (k = (21 : Int)), rfl, H1, (by first | (simp [cS]; omega) | (simp [cS, *]; done))⟩ rfl
 rintro Γ1 w2 ⟨bcS, rfl, H2, hcS⟩
 refine W.ct (B := [(3, _), (2, _), (0, _)]) (R := [[_]]) [3, 2, 0] 0 rfl H2 rfl (fun B R L Γ' w' => ∃ bcA : Bool, Γ' = (4, .bool bcA) :: B ∧ UpG w L w' (R) ∧ (bcA = cA k)) ?_ ?_
 · refine W.region (mv rfl (oo (d_cmp _ rfl rfl rfl (mv rfl ?_))))
   refine WL.part 47 rfl (fun g14 => ?_) (fun g14 => ?_)
   · refine WL.opN rfl rfl rfl rfl (WL.opN rfl rfl rfl rfl (oo (d_pick rfl rfl (mv rfl (WL.opN rfl rfl rfl rfl (WL.opN rfl rfl rfl rfl (oo (d_pick rfl rfl (mv rfl (WL.opN rfl rfl rfl rfl (WL.opN rfl rfl rfl rfl (oo (d_pick rfl rfl (mv rfl (WL.opN rfl rfl rfl rfl (WL.opN rfl rfl rfl rfl (oo (d_pick rfl rfl (mv rfl (WL.opN rfl rfl rfl rfl (WL.opN rfl rfl rfl rfl (oo (d_pick rfl rfl (mv rfl (WL.opN rfl rfl rfl rfl (WL.opN rfl rfl rfl rfl (oo (d_pick rfl rfl (mv rfl ?_)))))))))))))))))))))))))))))
     refine WL.opN rfl rfl rfl rfl (WL.opN rfl rfl rfl rfl (oo (d_pick rfl rfl (mv rfl (WL.opN rfl rfl rfl rfl (WL.opN rfl rfl rfl rfl (oo (d_pick rfl rfl (mv rfl (WL.opN rfl rfl rfl rfl (WL.opN rfl rfl rfl rfl (oo (d_pick rfl rfl (mv rfl (WL.opN rfl rfl rfl rfl (WL.opN rfl rfl rfl rfl (oo (d_pick rfl rfl (mv rfl (WL.opN rfl rfl rfl rfl (WL.opN rfl rfl rfl rfl (oo (d_pick rfl rfl (ag rfl (WL.done ?_)))))))))))))))))))))))))
     exact X.cu [4, 3, 2, 0] ⟨true, rfl, H2, (by first | (simp [cA]; omega) | (simp [cA, *]; done))⟩ rfl
   · refine WL.opG rfl rfl rfl (d_move rfl (WL.opG rfl rfl rfl (d_cmp _ rfl rfl rfl (oo (d_pick rfl rfl (mv rfl ?_))))))
     refine WL.part 51 rfl (fun g14x => ?_) (fun g14x => ?_)
     · refine WL.opN rfl rfl rfl rfl (WL.opN rfl rfl rfl rfl (oo (d_pick rfl rfl (mv rfl (WL.opN rfl rfl rfl rfl (WL.opN rfl rfl rfl rfl (oo (d_pick rfl rfl (mv rfl (WL.opN rfl rfl rfl rfl (WL.opN rfl rfl rfl rfl (oo (d_pick rfl rfl (mv rfl (WL.opN rfl rfl rfl rfl (WL.opN rfl rfl rfl rfl (oo (d_pick rfl rfl (mv rfl (WL.opN rfl rfl rfl rfl (WL.opN rfl rfl rfl rfl (oo (d_pick rfl rfl (mv rfl (WL.opN rfl rfl rfl rfl (WL.opN rfl rfl rfl rfl (oo (d_pick rfl rfl (mv rfl ?_)))))))))))))))))))))))))))))
       refine WL.opN rfl rfl rfl rfl (WL.opN rfl rfl rfl rfl (oo (d_pick rfl rfl (mv rfl (WL.opN rfl rfl rfl rfl (WL.opN rfl rfl rfl rfl (oo (d_pick rfl rfl (mv rfl (WL.opN rfl rfl rfl rfl (WL.opN rfl rfl rfl rfl (oo (d_pick rfl rfl (mv rfl (WL.opN rfl rfl rfl rfl (WL.opN rfl rfl rfl rfl (oo (d_pick rfl rfl (ag rfl (WL.done ?_))))))))))))))))))))
       exact X.cu [4, 3, 2, 0] ⟨true, rfl, H2, (by first | (simp [cA]; omega) | (simp [cA, *]; done))⟩ rfl
     · refine WL.opG rfl rfl rfl (d_move rfl (WL.opG rfl rfl rfl (d_cmp _ rfl rfl rfl (oo (d_pick rfl rfl (mv rfl ?_))))))
       refine WL.part 55 rfl (fun g14xx => ?_) (fun g14xx => ?_)
       · refine WL.opN rfl rfl rfl rfl (WL.opN rfl rfl rfl rfl (oo (d_pick rfl rfl (mv rfl (WL.opN rfl rfl rfl rfl (WL.opN rfl rfl rfl rfl (oo (d_pick rfl rfl (mv rfl (WL.opN rfl rfl rfl rfl (WL.opN rfl rfl rfl rfl (oo (d_pick rfl rfl (mv rfl (WL.opN rfl rfl rfl rfl (WL.opN rfl rfl rfl rfl (oo (d_pick rfl rfl (mv rfl (WL.opN rfl rfl rfl rfl (WL.opN rfl rfl rfl rfl (oo (d_pick rfl rfl (mv rfl (WL.opN rfl rfl rfl rfl (WL.opN rfl rfl rfl rfl (oo (d_pick rfl rfl (mv rfl ?_)))))))))))))))))))))))))))))
         refine WL.opN rfl rfl rfl rfl (WL.opN rfl rfl rfl rfl (oo (d_pick rfl rfl (mv rfl (WL.opN rfl rfl rfl rfl (WL.opN rfl rfl rfl rfl (oo (d_pick rfl rfl (mv rfl (WL.opN rfl rfl rfl rfl (WL.opN rfl rfl rfl rfl (oo (d_pick rfl rfl (ag rfl (WL.done ?_)))))))))))))))
         exact X.cu [4, 3, 2, 0] ⟨true, rfl, H2, (by first | (simp [cA]; omega) | (simp [cA, *]; done))⟩ rfl
       · refine WL.opG rfl rfl rfl (d_move rfl (WL.opG rfl rfl rfl (d_cmp _ rfl rfl rfl (oo (d_pick rfl rfl (mv rfl ?_))))))
         refine WL.part 59 rfl (fun g14xxx => ?_) (fun g14xxx => ?_)
         · refine WL.opN rfl rfl rfl rfl (WL.opN rfl rfl rfl rfl (oo (d_pick rfl rfl (mv rfl (WL.opN rfl rfl rfl rfl (WL.opN rfl rfl rfl rfl (oo (d_pick rfl rfl (mv rfl (WL.opN rfl rfl rfl rfl (WL.opN rfl rfl rfl rfl (oo (d_pick rfl rfl (mv rfl (WL.opN rfl rfl rfl rfl (WL.opN rfl rfl rfl rfl (oo (d_pick rfl rfl (mv rfl (WL.opN rfl rfl rfl rfl (WL.opN rfl rfl rfl rfl (oo (d_pick rfl rfl (mv rfl (WL.opN rfl rfl rfl rfl (WL.opN rfl rfl rfl rfl (oo (d_pick rfl rfl (mv rfl ?_)))))))))))))))))))))))))))))
           refine WL.opN rfl rfl rfl rfl (WL.opN rfl rfl rfl rfl (oo (d_pick rfl rfl (mv rfl (WL.opN rfl rfl rfl rfl (WL.opN rfl rfl rfl rfl (oo (d_pick rfl rfl (ag rfl (WL.done ?_))))))))))
           exact X.cu [4, 3, 2, 0] ⟨true, rfl, H2, (by first | (simp [cA]; omega) | (simp [cA, *]; done))⟩ rfl
         · refine WL.opG rfl rfl rfl (d_move rfl (WL.opG rfl rfl rfl (d_cmp _ rfl rfl rfl (oo (d_pick rfl rfl (mv rfl ?_))))))
           refine WL.part 63 rfl (fun g14xxxx => ?_) (fun g14xxxx => ?_)
           · refine WL.opN rfl rfl rfl rfl (WL.opN rfl rfl rfl rfl (oo (d_pick rfl rfl (mv rfl (WL.opN rfl rfl rfl rfl (WL.opN rfl rfl rfl rfl (oo (d_pick rfl rfl (mv rfl (WL.opN rfl rfl rfl rfl (WL.opN rfl rfl rfl rfl (oo (d_pick rfl rfl (mv rfl (WL.opN rfl rfl rfl rfl (WL.opN rfl rfl rfl rfl (oo (d_pick rfl rfl (mv rfl (WL.opN rfl rfl rfl rfl (WL.opN rfl rfl rfl rfl (oo (d_pick rfl rfl (mv rfl (WL.opN rfl rfl rfl rfl (WL.opN rfl rfl rfl rfl (oo (d_pick rfl rfl (mv rfl ?_)))))))))))))))))))))))))))))
             refine WL.opN rfl rfl rfl rfl (WL.opN rfl rfl rfl rfl (oo (d_pick rfl rfl (ag rfl (WL.done ?_)))))
             exact X.cu [4, 3, 2, 0] ⟨true, rfl, H2, (by first | (simp [cA]; omega) | (simp [cA, *]; done))⟩ rfl
           · refine WL.opG rfl rfl rfl (d_move rfl (WL.opG rfl rfl rfl (d_cmp _ rfl rfl rfl (oo (d_pick rfl rfl (mv rfl ?_))))))
             refine WL.part 67 rfl (fun g14xxxxx => ?_) (fun g14xxxxx => ?_)
             · refine WL.opN rfl rfl rfl rfl (WL.opN rfl rfl rfl rfl (oo (d_pick rfl rfl (mv rfl (WL.opN rfl rfl rfl rfl (WL.opN rfl rfl rfl rfl (oo (d_pick rfl rfl (mv rfl (WL.opN rfl rfl rfl rfl (WL.opN rfl rfl rfl rfl (oo (d_pick rfl rfl (mv rfl (WL.opN rfl rfl rfl rfl (WL.opN rfl rfl rfl rfl (oo (d_pick rfl rfl (mv rfl (WL.opN rfl rfl rfl rfl (WL.opN rfl rfl rfl rfl (oo (d_pick rfl rfl (mv rfl (WL.opN rfl rfl rfl rfl (WL.opN rfl rfl rfl rfl (oo (d_pick rfl rfl (ag rfl ?_)))))))))))))))))))))))))))))
               refine WL.done ?_
               exact X.cu [4, 3, 2, 0] ⟨true, rfl, H2, (by first | (simp [cA]; omega) | (simp [cA, *]; done))⟩ rfl
             · refine WL.opG rfl rfl rfl (d_move rfl (WL.opG rfl rfl rfl (d_cmp _ rfl rfl rfl (oo (d_pick rfl rfl (mv rfl ?_))))))
               refine WL.part 71 rfl (fun g14xxxxxx => ?_) (fun g14xxxxxx => ?_)
               · refine WL.opN rfl rfl rfl rfl (WL.opN rfl rfl rfl rfl (oo (d_pick rfl rfl (mv rfl (WL.opN rfl rfl rfl rfl (WL.opN rfl rfl rfl rfl (oo (d_pick rfl rfl (mv rfl (WL.opN rfl rfl rfl rfl (WL.opN rfl rfl rfl rfl (oo (d_pick rfl rfl (mv rfl (WL.opN rfl rfl rfl rfl (WL.opN rfl rfl rfl rfl (oo (d_pick rfl rfl (mv rfl (WL.opN rfl rfl rfl rfl (WL.opN rfl rfl rfl rfl (oo (d_pick rfl rfl (ag rfl (WL.done ?_)))))))))))))))))))))))))
                 exact X.cu [4, 3, 2, 0] ⟨true, rfl, H2, (by first | (simp [cA]; omega) | (simp [cA, *]; done))⟩ rfl
               · refine WL.opG rfl rfl rfl (d_move rfl (WL.opG rfl rfl rfl (d_cmp _ rfl rfl rfl (oo (d_pick rfl rfl (mv rfl ?_))))))
                 refine WL.part 75 rfl (fun g14xxxxxxx => ?_) (fun g14xxxxxxx => ?_)
                 · refine WL.opN rfl rfl rfl rfl (WL.opN rfl rfl rfl rfl (oo (d_pick rfl rfl (mv rfl (WL.opN rfl rfl rfl rfl (WL.opN rfl rfl rfl rfl (oo (d_pick rfl rfl (mv rfl (WL.opN rfl rfl rfl rfl (WL.opN rfl rfl rfl rfl (oo (d_pick rfl rfl (mv rfl (WL.opN rfl rfl rfl rfl (WL.opN rfl rfl rfl rfl (oo (d_pick rfl rfl (ag rfl (WL.done ?_))))))))))))))))))))
                   exact X.cu [4, 3, 2, 0] ⟨true, rfl, H2, (by first | (simp [cA]; omega) | (simp [cA, *]; done))⟩ rfl
                 · refine WL.opG rfl rfl rfl (d_move rfl (WL.opG rfl rfl rfl (d_cmp _ rfl rfl rfl (oo (d_pick rfl rfl (mv rfl ?_))))))
                   refine WL.part 79 rfl (fun g14xxxxxxxx => ?_) (fun g14xxxxxxxx => ?_)
                   · refine WL.opN rfl rfl rfl rfl (WL.opN rfl rfl rfl rfl (oo (d_pick rfl rfl (mv rfl (WL.opN rfl rfl rfl rfl (WL.opN rfl rfl rfl rfl (oo (d_pick rfl rfl (mv rfl (WL.opN rfl rfl rfl rfl (WL.opN rfl rfl rfl rfl (oo (d_pick rfl rfl (ag rfl (WL.done ?_)))))))))))))))
                     exact X.cu [4, 3, 2, 0] ⟨true, rfl, H2, (by first | (simp [cA]; omega) | (simp [cA, *]; done))⟩ rfl
                   · refine WL.opG rfl rfl rfl (d_move rfl (WL.opG rfl rfl rfl (d_cmp _ rfl rfl rfl (oo (d_pick rfl rfl (mv rfl ?_))))))
                     refine WL.part 83 rfl (fun g14xxxxxxxxx => ?_) (fun g14xxxxxxxxx => ?_)
                     · refine WL.opN rfl rfl rfl rfl (WL.opN rfl rfl rfl rfl (oo (d_pick rfl rfl (mv rfl (WL.opN rfl rfl rfl rfl (WL.opN rfl rfl rfl rfl (oo (d_pick rfl rfl (ag rfl (WL.done ?_))))))))))
                       exact X.cu [4, 3, 2, 0] ⟨true, rfl, H2, (by first | (simp [cA]; omega) | (simp [cA, *]; done))⟩ rfl
                     · refine WL.opG rfl rfl rfl (d_move rfl (WL.opG rfl rfl rfl (d_cmp _ rfl rfl rfl (oo (d_pick rfl rfl (mv rfl ?_))))))
                       refine WL.part 87 rfl (fun g14xxxxxxxxxx => ?_) (fun g14xxxxxxxxxx => ?_)
                       · refine WL.opN rfl rfl rfl rfl (WL.opN rfl rfl rfl rfl (oo (d_pick rfl rfl (ag rfl (WL.done ?_)))))
                         exact X.cu [4, 3, 2, 0] ⟨true, rfl, H2, (by first | (simp [cA]; omega) | (simp [cA, *]; done))⟩ rfl
                       · refine WL.opG rfl rfl rfl (d_move rfl (WL.opG rfl rfl rfl (d_cmp _ rfl rfl rfl (oo (d_pick rfl rfl (ag rfl (WL.done ?_)))))))
                         exact X.cu [4, 3, 2, 0] ⟨decide (k = (22 : Int)), rfl, H2, (by first | (simp [cA]; omega) | (simp [cA, *]; done))⟩ rfl
 rintro Γ2 w3 ⟨bcA, rfl, H3, hcA⟩
 refine W.ct (B := [(4, _), (3, _), (2, _), (0, _)]) (R := [[_]]) [4, 3, 2, 0] 0 rfl H3 rfl (fun B R L Γ' w' => ∃ bcL : Bool, Γ' = (5, .bool bcL) :: B ∧ UpG w L w' (R) ∧ (bcL = cL k)) ?_ ?_
 · refine W.region (mv rfl (oo (d_cmp _ rfl rfl rfl (mv rfl ?_))))
   refine WL.part 93 rfl (fun g15 => ?_) (fun g15 => ?_)
   · refine WL.opN rfl rfl rfl rfl (WL.opN rfl rfl rfl rfl (oo (d_pick rfl rfl (mv rfl (WL.opN rfl rfl rfl rfl (WL.opN rfl rfl rfl rfl (oo (d_pick rfl rfl (mv rfl (WL.opN rfl rfl rfl rfl (WL.opN rfl rfl rfl rfl (oo (d_pick rfl rfl (mv rfl (WL.opN rfl rfl rfl rfl (WL.opN rfl rfl rfl rfl (oo (d_pick rfl rfl (mv rfl (WL.opN rfl rfl rfl rfl (WL.opN rfl rfl rfl rfl (oo (d_pick rfl rfl (mv rfl (WL.opN rfl rfl rfl rfl (WL.opN rfl rfl rfl rfl (oo (d_pick rfl rfl (mv rfl ?_)))))))))))))))))))))))))))))
     refine WL.opN rfl rfl rfl rfl (WL.opN rfl rfl rfl rfl (oo (d_pick rfl rfl (mv rfl (WL.opN rfl rfl rfl rfl (WL.opN rfl rfl rfl rfl (oo (d_pick rfl rfl (ag rfl (WL.done ?_))))))))))
     exact X.cu [5, 4, 3, 2, 0] ⟨true, rfl, H3, (by first | (simp [cL]; omega) | (simp [cL, *]; done))⟩ rfl
   · refine WL.opG rfl rfl rfl (d_move rfl (WL.opG rfl rfl rfl (d_cmp _ rfl rfl rfl (oo (d_pick rfl rfl (mv rfl ?_))))))
     refine WL.part 97 rfl (fun g15x => ?_) (fun g15x => ?_)
     · refine WL.opN rfl rfl rfl rfl (WL.opN rfl rfl rfl rfl (oo (d_pick rfl rfl (mv rfl (WL.opN rfl rfl rfl rfl (WL.opN rfl rfl rfl rfl (oo (d_pick rfl rfl (mv rfl (WL.opN rfl rfl rfl rfl (WL.opN rfl rfl rfl rfl (oo (d_pick rfl rfl (mv rfl (WL.opN rfl rfl rfl rfl (WL.opN rfl rfl rfl rfl (oo (d_pick rfl rfl (mv rfl (WL.opN rfl rfl rfl rfl (WL.opN rfl rfl rfl rfl (oo (d_pick rfl rfl (mv rfl (WL.opN rfl rfl rfl rfl (WL.opN rfl rfl rfl rfl (oo (d_pick rfl rfl (mv rfl ?_)))))))))))))))))))))))))))))
       refine WL.opN rfl rfl rfl rfl (WL.opN rfl rfl rfl rfl (oo (d_pick rfl rfl (ag rfl (WL.done ?_)))))
       exact X.cu [5, 4, 3, 2, 0] ⟨true, rfl, H3, (by first | (simp [cL]; omega) | (simp [cL, *]; done))⟩ rfl
     · refine WL.opG rfl rfl rfl (d_move rfl (WL.opG rfl rfl rfl (d_cmp _ rfl rfl rfl (oo (d_pick rfl rfl (mv rfl ?_))))))
       refine WL.part 101 rfl (fun g15xx => ?_) (fun g15xx => ?_)
       · refine WL.opN rfl rfl rfl rfl (WL.opN rfl rfl rfl rfl (oo (d_pick rfl rfl (mv rfl (WL.opN rfl rfl rfl rfl (WL.opN rfl rfl rfl rfl (oo (d_pick rfl rfl (mv rfl (WL.opN rfl rfl rfl rfl (WL.opN rfl rfl rfl rfl (oo (d_pick rfl rfl (mv rfl (WL.opN rfl rfl rfl rfl (WL.opN rfl rfl rfl rfl (oo (d_pick rfl rfl (mv rfl (WL.opN rfl rfl rfl rfl (WL.opN rfl rfl rfl rfl (oo (d_pick rfl rfl (mv rfl (WL.opN rfl rfl rfl rfl (WL.opN rfl rfl rfl rfl (oo (d_pick rfl rfl (ag rfl ?_)))))))))))))))))))))))))))))
         refine WL.done ?_
         exact X.cu [5, 4, 3, 2, 0] ⟨true, rfl, H3, (by first | (simp [cL]; omega) | (simp [cL, *]; done))⟩ rfl
       · refine WL.opG rfl rfl rfl (d_move rfl (WL.opG rfl rfl rfl (d_cmp _ rfl rfl rfl (oo (d_pick rfl rfl (mv rfl ?_))))))
         refine WL.part 105 rfl (fun g15xxx => ?_) (fun g15xxx => ?_)
         · refine WL.opN rfl rfl rfl rfl (WL.opN rfl rfl rfl rfl (oo (d_pick rfl rfl (mv rfl (WL.opN rfl rfl rfl rfl (WL.opN rfl rfl rfl rfl (oo (d_pick rfl rfl (mv rfl (WL.opN rfl rfl rfl rfl (WL.opN rfl rfl rfl rfl (oo (d_pick rfl rfl (mv rfl (WL.opN rfl rfl rfl rfl (WL.opN rfl rfl rfl rfl (oo (d_pick rfl rfl (mv rfl (WL.opN rfl rfl rfl rfl (WL.opN rfl rfl rfl rfl (oo (d_pick rfl rfl (ag rfl (WL.done ?_)))))))))))))))))))))))))
           exact X.cu [5, 4, 3, 2, 0] ⟨true, rfl, H3, (by first | (simp [cL]; omega) | (simp [cL, *]; done))⟩ rfl
         · refine WL.opG rfl rfl rfl (d_move rfl (WL.opG rfl rfl rfl (d_cmp _ rfl rfl rfl (oo (d_pick rfl rfl (mv rfl ?_))))))
           refine WL.part 109 rfl (fun g15xxxx => ?_) (fun g15xxxx => ?_)
           · refine WL.opN rfl rfl rfl rfl (WL.opN rfl rfl rfl rfl (oo (d_pick rfl rfl (mv rfl (WL.opN rfl rfl rfl rfl (WL.opN rfl rfl rfl rfl (oo (d_pick rfl rfl (mv rfl (WL.opN rfl rfl rfl rfl (WL.opN rfl rfl rfl rfl (oo (d_pick rfl rfl (mv rfl (WL.opN rfl rfl rfl rfl (WL.opN rfl rfl rfl rfl (oo (d_pick rfl rfl (ag rfl (WL.done ?_))))))))))))))))))))
             exact X.cu [5, 4, 3, 2, 0] ⟨true, rfl, H3, (by first | (simp [cL]; omega) | (simp [cL, *]; done))⟩ rfl
           · refine WL.opG rfl rfl rfl (d_move rfl (WL.opG rfl rfl rfl (d_cmp _ rfl rfl rfl (oo (d_pick rfl rfl (mv rfl ?_))))))
             refine WL.part 113 rfl (fun g15xxxxx => ?_) (fun g15xxxxx => ?_)
             · refine WL.opN rfl rfl rfl rfl (WL.opN rfl rfl rfl rfl (oo (d_pick rfl rfl (mv rfl (WL.opN rfl rfl rfl rfl (WL.opN rfl rfl rfl rfl (oo (d_pick rfl rfl (mv rfl (WL.opN rfl rfl rfl rfl (WL.opN rfl rfl rfl rfl (oo (d_pick rfl rfl (ag rfl (WL.done ?_)))))))))))))))
               exact X.cu [5, 4, 3, 2, 0] ⟨true, rfl, H3, (by first | (simp [cL]; omega) | (simp [cL, *]; done))⟩ rfl
             · refine WL.opG rfl rfl rfl (d_move rfl (WL.opG rfl rfl rfl (d_cmp _ rfl rfl rfl (oo (d_pick rfl rfl (mv rfl ?_))))))
               refine WL.part 117 rfl (fun g15xxxxxx => ?_) (fun g15xxxxxx => ?_)
               · refine WL.opN rfl rfl rfl rfl (WL.opN rfl rfl rfl rfl (oo (d_pick rfl rfl (mv rfl (WL.opN rfl rfl rfl rfl (WL.opN rfl rfl rfl rfl (oo (d_pick rfl rfl (ag rfl (WL.done ?_))))))))))
                 exact X.cu [5, 4, 3, 2, 0] ⟨true, rfl, H3, (by first | (simp [cL]; omega) | (simp [cL, *]; done))⟩ rfl
               · refine WL.opG rfl rfl rfl (d_move rfl (WL.opG rfl rfl rfl (d_cmp _ rfl rfl rfl (oo (d_pick rfl rfl (mv rfl ?_))))))
                 refine WL.part 121 rfl (fun g15xxxxxxx => ?_) (fun g15xxxxxxx => ?_)
                 · refine WL.opN rfl rfl rfl rfl (WL.opN rfl rfl rfl rfl (oo (d_pick rfl rfl (ag rfl (WL.done ?_)))))
                   exact X.cu [5, 4, 3, 2, 0] ⟨true, rfl, H3, (by first | (simp [cL]; omega) | (simp [cL, *]; done))⟩ rfl
                 · refine WL.opG rfl rfl rfl (d_move rfl (WL.opG rfl rfl rfl (d_cmp _ rfl rfl rfl (oo (d_pick rfl rfl (ag rfl (WL.done ?_)))))))
                   exact X.cu [5, 4, 3, 2, 0] ⟨decide (k = (23 : Int)), rfl, H3, (by first | (simp [cL]; omega) | (simp [cL, *]; done))⟩ rfl
 rintro Γ3 w4 ⟨bcL, rfl, H4, hcL⟩
 refine W.ct (B := [(5, _), (4, _), (3, _), (2, _)]) (R := [[_]]) [5, 4, 3, 2] 0 rfl H4 rfl (fun B R L Γ' w' => ∃ bcT : Bool, Γ' = (6, .bool bcT) :: B ∧ UpG w L w' (R) ∧ (bcT = cT k)) ?_ ?_
 · refine W.region (mv rfl (oo (d_cmp _ rfl rfl rfl (mv rfl ?_))))
   refine WL.part 127 rfl (fun g16 => ?_) (fun g16 => ?_)
   · refine WL.opN rfl rfl rfl rfl (WL.opN rfl rfl rfl rfl (oo (d_pick rfl rfl (mv rfl (WL.opN rfl rfl rfl rfl (WL.opN rfl rfl rfl rfl (oo (d_pick rfl rfl (mv rfl (WL.opN rfl rfl rfl rfl (WL.opN rfl rfl rfl rfl (oo (d_pick rfl rfl (ag rfl (WL.done ?_)))))))))))))))
     exact X.cu [6, 5, 4, 3, 2] ⟨true, rfl, H4, (by first | (simp [cT]; omega) | (simp [cT, *]; done))⟩ rfl
   · refine WL.opG rfl rfl rfl (d_move rfl (WL.opG rfl rfl rfl (d_cmp _ rfl rfl rfl (oo (d_pick rfl rfl (mv rfl ?_))))))
     refine WL.part 131 rfl (fun g16x => ?_) (fun g16x => ?_)
     · refine WL.opN rfl rfl rfl rfl (WL.opN rfl rfl rfl rfl (oo (d_pick rfl rfl (mv rfl (WL.opN rfl rfl rfl rfl (WL.opN rfl rfl rfl rfl (oo (d_pick rfl rfl (ag rfl (WL.done ?_))))))))))
       exact X.cu [6, 5, 4, 3, 2] ⟨true, rfl, H4, (by first | (simp [cT]; omega) | (simp [cT, *]; done))⟩ rfl
     · refine WL.opG rfl rfl rfl (d_move rfl (WL.opG rfl rfl rfl (d_cmp _ rfl rfl rfl (oo (d_pick rfl rfl (mv rfl ?_))))))
       refine WL.part 135 rfl (fun g16xx => ?_) (fun g16xx => ?_)
       · refine WL.opN rfl rfl rfl rfl (WL.opN rfl rfl rfl rfl (oo (d_pick rfl rfl (ag rfl (WL.done ?_)))))
         exact X.cu [6, 5, 4, 3, 2] ⟨true, rfl, H4, (by first | (simp [cT]; omega) | (simp [cT, *]; done))⟩ rfl
       · refine WL.opG rfl rfl rfl (d_move rfl (WL.opG rfl rfl rfl (d_cmp _ rfl rfl rfl (oo (d_pick rfl rfl (ag rfl (WL.done ?_)))))))
         exact X.cu [6, 5, 4, 3, 2] ⟨decide (k = (18 : Int)), rfl, H4, (by first | (simp [cT]; omega) | (simp [cT, *]; done))⟩ rfl
 rintro Γ4 w5 ⟨bcT, rfl, H5, hcT⟩
 refine sr (mv rfl (mv rfl (mv rfl (mv rfl (oo (d_build (cs := #[.bool bcS, .bool bcA, .bool bcL, .bool bcT]) rfl (by kernel_rfl) (WL.op0 (d_storeAB (us := [_, _, _, _]) (cs' := #[_, _, _, _]) sz91 rfl rfl rfl rfl (H5.blk 0 rfl) rfl rfl fun w6 u2 => ?_))))))))
 have H6 : UpG _ _ _ [[_]] := H5.on 0 rfl u2
 refine dc (W.ret (X.retR1 rfl (rv_cellA [.bool bcS, .bool bcA, .bool bcL, .bool bcT] y91 rfl sz91 rfl (H6.blk 0 rfl) rfl rfl) ?_))
 exact ⟨(by rw [hcS, hcA, hcL, hcT]), H6.noneL⟩

set_option maxRecDepth 20000 in
theorem refOf_any (r : RawD) (ra : Option Addr) (rc : Nat) (w : World) (rr : RdT (tyI .i64) w (.slice ra r.nums.length rc) r.nums) :
   Calls Tryd.prog 29 #[.agg #[.slice ra r.nums.length rc, .string r.text]] w (Ret fun v w' => v = .tuple #[.agg #[.int .i64 ((ofR r).1.kind), .int .i64 ((ofR r).1.slot), .int .i64 ((ofR r).1.at_), .int .i64 ((ofR r).1.len), .string ((ofR r).1.text)], .int .i64 ((ofR r).2)] ∧ Upd w [] w' []) := by
 have le_rr := rr.le
 refine calls_of_W (args := [.agg #[.slice ra r.nums.length rc, .string r.text]]) Tryd.func29 rfl rfl rfl ?_
 have H0 : UpG w [] w [] := UpG.nil w
 show W _ _ _ _ [(0, _)] w
 refine sr (oo (d_box rfl fun w1 u1 => ?_))
 have H1 : UpG _ _ _ [[_]] := H0.new' u1
 refine oo (d_alloc sz54 fun w2 u2 => ?_)
 have H2 : UpG _ _ _ [[_], [_]] := H1.new' u2
 refine ag rfl (dc (W.seq (W.seq (W.region (oo (d_fieldAddrB fld25_0 rfl rfl (oo (d_loadB y23 rfl rfl (H2.blk 0 rfl) rfl (oo (d_lenS y23 rfl (oo (d_cmp _ rfl rfl rfl (mv rfl ?_)))))))))))))
 refine WL.part 12 rfl (fun g22 => ?_) (fun g22 => ?_)
 · refine WL.opN rfl rfl rfl rfl (WL.opN rfl rfl rfl rfl (WL.opN rfl rfl rfl rfl (WL.opN rfl rfl rfl rfl (WL.opN rfl rfl rfl rfl (oo (d_pick rfl rfl (mv rfl (WL.opN rfl rfl rfl rfl (WL.opN rfl rfl rfl rfl (WL.opN rfl rfl rfl rfl (WL.opN rfl rfl rfl rfl (WL.opN rfl rfl rfl rfl (oo (d_pick rfl rfl (dc (W.ift rfl (W.seq (W.region (oo (d_build (cs := #[.int .i64 0, .int .i64 0, .int .i64 0, .int .i64 0, .string ⟨#[]⟩]) rfl (by kernel_rfl) (WL.op0 (d_storeAB (us := [_, _, _, _, _]) (cs' := #[_, _, _, _, _]) sz54 rfl rfl rfl rfl (H2.blk 1 rfl) rfl rfl fun w3 u3 => ?_))))))))))))))))))))))
   have H3 : UpG _ _ _ [[_], [_]] := H2.on 1 rfl u3
   refine ag rfl (dc (W.ret (X.then_ret (X.retR2 rfl (rv_cellA [.int .i64 0, .int .i64 0, .int .i64 0, .int .i64 0, .string ⟨#[]⟩] y54 rfl sz54 rfl (H3.blk 1 rfl) rfl rfl) (rv_tmp rfl) ?_))))
   have e : ofR r = (op0, 9) := by unfold ofR; rw [if_pos (by first | exact .inl (by omega) | exact .inr (by simp only [okK, decide_eq_false_iff_not]; omega))]
   rw [e]
   exact ⟨(by rfl), H3.noneL⟩
 · refine WL.opG rfl rfl rfl (d_fieldAddrB fld25_0 rfl rfl (WL.opG rfl rfl rfl (d_loadB y23 rfl rfl (H2.blk 0 rfl) rfl (WL.opG rfl rfl rfl (t_addr1 0 (T := (tyI .i64)) rfl y23 sz3 rfl rfl (rr.at H2) rfl (by omega) (WL.opG rfl rfl rfl (t_load1 0 0 (T := (tyI .i64)) rfl y3 rfl rfl (rr.at H2) (by omega) rfl (WL.opG rfl rfl rfl (d_cmp _ rfl rfl rfl (oo (d_pick rfl rfl (mv rfl ?_))))))))))))
   refine WL.part 19 rfl (fun g22x => ?_) (fun g22x => ?_)
   · refine WL.opN rfl rfl rfl rfl (WL.opN rfl rfl rfl rfl (WL.opN rfl rfl rfl rfl (WL.opN rfl rfl rfl rfl (WL.opN rfl rfl rfl rfl (oo (d_pick rfl rfl (dc (W.ift rfl (W.seq (W.region (oo (d_build (cs := #[.int .i64 0, .int .i64 0, .int .i64 0, .int .i64 0, .string ⟨#[]⟩]) rfl (by kernel_rfl) (WL.op0 (d_storeAB (us := [_, _, _, _, _]) (cs' := #[_, _, _, _, _]) sz54 rfl rfl rfl rfl (H2.blk 1 rfl) rfl rfl fun w4 u4 => ?_))))))))))))))
     have H4 : UpG _ _ _ [[_], [_]] := H2.on 1 rfl u4
     refine ag rfl (dc (W.ret (X.then_ret (X.retR2 rfl (rv_cellA [.int .i64 0, .int .i64 0, .int .i64 0, .int .i64 0, .string ⟨#[]⟩] y54 rfl sz54 rfl (H4.blk 1 rfl) rfl rfl) (rv_tmp rfl) ?_))))
     have e : ofR r = (op0, 9) := by unfold ofR; rw [if_pos (by first | exact .inl (by omega) | exact .inr (by simp only [okK, decide_eq_false_iff_not]; omega))]
     rw [e]
     exact ⟨(by rfl), H4.noneL⟩
   · refine WL.opG rfl rfl rfl (d_fieldAddrB fld25_0 rfl rfl (WL.opG rfl rfl rfl (d_loadB y23 rfl rfl (H2.blk 0 rfl) rfl (WL.opG rfl rfl rfl (t_addr1 0 (T := (tyI .i64)) rfl y23 sz3 rfl rfl (rr.at H2) rfl (by omega) (WL.opG rfl rfl rfl (t_load1 0 0 (T := (tyI .i64)) rfl y3 rfl rfl (rr.at H2) (by omega) rfl (WL.opG rfl rfl rfl (d_cmp _ rfl rfl rfl (oo (d_pick rfl rfl (dc ?_))))))))))))
     refine W.ite rfl (fun c22 => ?_) (fun c22 => ?_)
     · refine sr (oo (d_build (cs := #[.int .i64 0, .int .i64 0, .int .i64 0, .int .i64 0, .string ⟨#[]⟩]) rfl (by kernel_rfl) (WL.op0 (d_storeAB (us := [_, _, _, _, _]) (cs' := #[_, _, _, _, _]) sz54 rfl rfl rfl rfl (H2.blk 1 rfl) rfl rfl fun w5 u5 => ?_))))
       have H5 : UpG _ _ _ [[_], [_]] := H2.on 1 rfl u5
       refine ag rfl (dc (W.ret (X.then_ret (X.retR2 rfl (rv_cellA [.int .i64 0, .int .i64 0, .int .i64 0, .int .i64 0, .string ⟨#[]⟩] y54 rfl sz54 rfl (H5.blk 1 rfl) rfl rfl) (rv_tmp rfl) ?_))))
       have e : ofR r = (op0, 9) := by unfold ofR; rw [if_pos (by first | exact .inl (by omega) | exact .inr (by simp only [okK, decide_eq_false_iff_not]; omega))]
       rw [e]
       exact ⟨(by rfl), H5.noneL⟩
     · refine sc (W.seq ?_)
       have hok : okK (r.nums.getD 0 0) = true := by simp only [okK, decide_eq_true_eq]; omega
       have hno : ¬ (r.nums.length = 0 ∨ okK (r.nums.getD 0 0) = false) := by rintro (h | h) <;> first | omega | (rw [hok] at h; cases h)
       refine W.region (oo (d_fieldAddrB fld25_0 rfl rfl (oo (d_loadB y23 rfl rfl (H2.blk 0 rfl) rfl (oo (t_addr1 0 (T := (tyI .i64)) rfl y23 sz3 rfl rfl (rr.at H2) rfl (by omega) (oo (t_load1 0 0 (T := (tyI .i64)) rfl y3 rfl rfl (rr.at H2) (by omega) rfl (oo (d_call ok44 rfl (Ret.calls (counts_any _ w2  ) fun _ w6 p1 => ?_)))))))))))
       obtain ⟨rfl, u6⟩ := p1
       have H6 : UpG _ _ _ [[_], [_]] := H2.call u6
       refine oo (d_alloc sz91 fun w7 u7 => ?_)
       have H7 : UpG _ _ _ [[_], [_], [_]] := H6.new' u7
       refine WL.op0 (d_storeAB (us := [_, _, _, _]) (cs' := #[_, _, _, _]) sz91 rfl rfl rfl rfl (H7.blk 2 rfl) rfl rfl fun w8 u8 => ?_)
       have H8 : UpG _ _ _ [[_], [_], [_]] := H7.on 2 rfl u8
       refine dc (W.seq (W.region (oo (d_alloc sz93 fun w9 u9 => ?_))))
       have H9 : UpG _ _ _ [[_], [_], [_], [_]] := H8.new' u9
       refine dc (W.seq (W.region (ag rfl (dc (W.seq (W.seq (W.region (ag rfl (dc (W.pick [7, 6, 5, 4, 3, 2, 1] (Γ' := [(7, _), (6, _), (5, _), (4, _), (3, _), (2, _), (1, _)]) rfl (W.block ?_)))))))))))
       have H10 : UpG _ _ _ [[_], [_], [_], [_]] := H9.pm [3, 0, 1, 2] rfl rfl
       refine W.lp (B := [(5, _), (4, _), (3, _), (2, _), (1, _)]) [7, 6, 5, 4, 3, 2, 1] (fun B R L m Γ' w' => ∃ i : Nat, ∃ n : Nat, ∃ v0 : Int, ∃ v1 : Int, ∃ v2 : Int, Γ' = (7, .int .i64 ((i : Nat) : Int)) :: (6, .int .i64 ((n : Nat) : Int)) :: B ∧ UpG w L w' ([blk w8.heap.size #[.int .i64 v0, .int .i64 v1, .int .i64 v2] 93] :: R) ∧ (i ≤ 3) ∧ (TH (r.nums.getD 0 0) r.nums i n v0 v1 v2) ∧ (n ≤ i + 1) ∧ m = 3 - i) (3 - 0) ⟨0, 1, 0, 0, 0, rfl, H10, (by first | assumption | omega | simp), (by exact TH.start _ _), (by first | assumption | omega | simp), rfl⟩ rfl ?_
       rintro m1 Γ1 w10 ⟨i, n, v0, v1, v2, rfl, H11, hi, ht, hn4, rfl⟩
       rcases (by omega : i = 0 ∨ i = 1 ∨ i = 2 ∨ i = 3) with rfl | rfl | rfl | rfl
       · refine W.seq (W.seq (W.region (mv rfl (oo (d_cmp true rfl rfl rfl (dc (W.ift rfl (sc (W.seq (W.block (W.seq (W.region (mv rfl (oo (d_idxAddrArr y91 sz4 rfl rfl (by omega) (by omega) (oo (d_loadB y4 rfl rfl (H11.blk 3 rfl) rfl (dc ?_))))))))))))))))))
         refine W.iteB rfl (fun c29 => ?_) (fun c29 => ?_)
         · refine W.seq (W.seq (W.region (mv rfl (oo (d_fieldAddrB fld25_0 rfl rfl (oo (d_loadB y23 rfl rfl (H11.blk 1 rfl) rfl (oo (d_lenS y23 rfl (oo (d_cmp _ rfl rfl rfl (dc ?_))))))))))))
           refine W.ite rfl (fun c30 => ?_) (fun c30 => ?_)
           · refine W.region (mv rfl (oo (d_fieldAddrB fld25_0 rfl rfl (oo (d_loadB y23 rfl rfl (H11.blk 1 rfl) rfl (mv rfl (oo (t_addr1 n (T := (tyI .i64)) rfl y23 sz3 rfl rfl (rr.at H11) rfl (by omega) (oo (t_load1 n 0 (T := (tyI .i64)) rfl y3 rfl rfl (rr.at H11) (by omega) rfl (oo (d_idxAddrArr y93 sz3 rfl rfl (by omega) (by omega) (WL.op0 (d_storeB sz3 rfl rfl rfl (H11.blk 0 rfl) rfl fun w11 u10 => ?_))))))))))))))
             have H12 : UpG _ _ _ [[_], [_], [_], [_]] := H11.on 0 rfl u10
             refine dc (W.region (mv rfl (oo (d_add rfl rfl (by omega) (by omega) (ag rfl (WL.done (X.block_normal (X.then_code (W.region (mv rfl (oo (d_add rfl rfl (by omega) (by omega) (ag rfl (WL.done ?_))))))))))))))
             exact X.nx [7, 6, 5, 4, 3, 2, 1] (3 - (0 + 1)) (by omega) ⟨0 + 1, n + 1, r.nums.getD n 0, v1, v2, rfl, H12, (by first | assumption | omega | simp), (by first | exact ht.in0 c29 | exact ht.out0 c29 (by omega) | exact ht.no0 c29 | exact ht.in1 c29 | exact ht.out1 c29 (by omega) | exact ht.no1 c29 | exact ht.in2 c29 | exact ht.out2 c29 (by omega) | exact ht.no2 c29), (by first | assumption | omega | simp), rfl⟩ rfl
           · refine sc (W.region (mv rfl (oo (d_add rfl rfl (by omega) (by omega) (ag rfl (WL.done (X.block_normal (X.then_code (W.region (mv rfl (oo (d_add rfl rfl (by omega) (by omega) (ag rfl (WL.done ?_))))))))))))))
             exact X.nx [7, 6, 5, 4, 3, 2, 1] (3 - (0 + 1)) (by omega) ⟨0 + 1, n + 1, v0, v1, v2, rfl, H11, (by first | assumption | omega | simp), (by first | exact ht.in0 c29 | exact ht.out0 c29 (by omega) | exact ht.no0 c29 | exact ht.in1 c29 | exact ht.out1 c29 (by omega) | exact ht.no1 c29 | exact ht.in2 c29 | exact ht.out2 c29 (by omega) | exact ht.no2 c29), (by first | assumption | omega | simp), rfl⟩ rfl
         · refine W.skip (X.block_normal (X.then_code (W.region (mv rfl (oo (d_add rfl rfl (by omega) (by omega) (ag rfl (WL.done ?_))))))))
           exact X.nx [7, 6, 5, 4, 3, 2, 1] (3 - (0 + 1)) (by omega) ⟨0 + 1, n, v0, v1, v2, rfl, H11, (by first | assumption | omega | simp), (by first | exact ht.in0 c29 | exact ht.out0 c29 (by omega) | exact ht.no0 c29 | exact ht.in1 c29 | exact ht.out1 c29 (by omega) | exact ht.no1 c29 | exact ht.in2 c29 | exact ht.out2 c29 (by omega) | exact ht.no2 c29), (by first | assumption | omega | simp), rfl⟩ rfl
       · refine W.seq (W.seq (W.region (mv rfl (oo (d_cmp true rfl rfl rfl (dc (W.ift rfl (sc (W.seq (W.block (W.seq (W.region (mv rfl (oo (d_idxAddrArr y91 sz4 rfl rfl (by omega) (by omega) (oo (d_loadB y4 rfl rfl (H11.blk 3 rfl) rfl (dc ?_))))))))))))))))))
         refine W.iteB rfl (fun c29 => ?_) (fun c29 => ?_)
         · refine W.seq (W.seq (W.region (mv rfl (oo (d_fieldAddrB fld25_0 rfl rfl (oo (d_loadB y23 rfl rfl (H11.blk 1 rfl) rfl (oo (d_lenS y23 rfl (oo (d_cmp _ rfl rfl rfl (dc ?_))))))))))))
           refine W.ite rfl (fun c30 => ?_) (fun c30 => ?_)
           · refine W.region (mv rfl (oo (d_fieldAddrB fld25_0 rfl rfl (oo (d_loadB y23 rfl rfl (H11.blk 1 rfl) rfl (mv rfl (oo (t_addr1 n (T := (tyI .i64)) rfl y23 sz3 rfl rfl (rr.at H11) rfl (by omega) (oo (t_load1 n 0 (T := (tyI .i64)) rfl y3 rfl rfl (rr.at H11) (by omega) rfl (oo (d_idxAddrArr y93 sz3 rfl rfl (by omega) (by omega) (WL.op0 (d_storeB sz3 rfl rfl rfl (H11.blk 0 rfl) rfl fun w12 u11 => ?_))))))))))))))
             have H13 : UpG _ _ _ [[_], [_], [_], [_]] := H11.on 0 rfl u11
             refine dc (W.region (mv rfl (oo (d_add rfl rfl (by omega) (by omega) (ag rfl (WL.done (X.block_normal (X.then_code (W.region (mv rfl (oo (d_add rfl rfl (by omega) (by omega) (ag rfl (WL.done ?_))))))))))))))
             exact X.nx [7, 6, 5, 4, 3, 2, 1] (3 - (1 + 1)) (by omega) ⟨1 + 1, n + 1, v0, r.nums.getD n 0, v2, rfl, H13, (by first | assumption | omega | simp), (by first | exact ht.in0 c29 | exact ht.out0 c29 (by omega) | exact ht.no0 c29 | exact ht.in1 c29 | exact ht.out1 c29 (by omega) | exact ht.no1 c29 | exact ht.in2 c29 | exact ht.out2 c29 (by omega) | exact ht.no2 c29), (by first | assumption | omega | simp), rfl⟩ rfl
           · refine sc (W.region (mv rfl (oo (d_add rfl rfl (by omega) (by omega) (ag rfl (WL.done (X.block_normal (X.then_code (W.region (mv rfl (oo (d_add rfl rfl (by omega) (by omega) (ag rfl (WL.done ?_))))))))))))))
             exact X.nx [7, 6, 5, 4, 3, 2, 1] (3 - (1 + 1)) (by omega) ⟨1 + 1, n + 1, v0, v1, v2, rfl, H11, (by first | assumption | omega | simp), (by first | exact ht.in0 c29 | exact ht.out0 c29 (by omega) | exact ht.no0 c29 | exact ht.in1 c29 | exact ht.out1 c29 (by omega) | exact ht.no1 c29 | exact ht.in2 c29 | exact ht.out2 c29 (by omega) | exact ht.no2 c29), (by first | assumption | omega | simp), rfl⟩ rfl
         · refine W.skip (X.block_normal (X.then_code (W.region (mv rfl (oo (d_add rfl rfl (by omega) (by omega) (ag rfl (WL.done ?_))))))))
           exact X.nx [7, 6, 5, 4, 3, 2, 1] (3 - (1 + 1)) (by omega) ⟨1 + 1, n, v0, v1, v2, rfl, H11, (by first | assumption | omega | simp), (by first | exact ht.in0 c29 | exact ht.out0 c29 (by omega) | exact ht.no0 c29 | exact ht.in1 c29 | exact ht.out1 c29 (by omega) | exact ht.no1 c29 | exact ht.in2 c29 | exact ht.out2 c29 (by omega) | exact ht.no2 c29), (by first | assumption | omega | simp), rfl⟩ rfl
       · refine W.seq (W.seq (W.region (mv rfl (oo (d_cmp true rfl rfl rfl (dc (W.ift rfl (sc (W.seq (W.block (W.seq (W.region (mv rfl (oo (d_idxAddrArr y91 sz4 rfl rfl (by omega) (by omega) (oo (d_loadB y4 rfl rfl (H11.blk 3 rfl) rfl (dc ?_))))))))))))))))))
         refine W.iteB rfl (fun c29 => ?_) (fun c29 => ?_)
         · refine W.seq (W.seq (W.region (mv rfl (oo (d_fieldAddrB fld25_0 rfl rfl (oo (d_loadB y23 rfl rfl (H11.blk 1 rfl) rfl (oo (d_lenS y23 rfl (oo (d_cmp _ rfl rfl rfl (dc ?_))))))))))))
           refine W.ite rfl (fun c30 => ?_) (fun c30 => ?_)
           · refine W.region (mv rfl (oo (d_fieldAddrB fld25_0 rfl rfl (oo (d_loadB y23 rfl rfl (H11.blk 1 rfl) rfl (mv rfl (oo (t_addr1 n (T := (tyI .i64)) rfl y23 sz3 rfl rfl (rr.at H11) rfl (by omega) (oo (t_load1 n 0 (T := (tyI .i64)) rfl y3 rfl rfl (rr.at H11) (by omega) rfl (oo (d_idxAddrArr y93 sz3 rfl rfl (by omega) (by omega) (WL.op0 (d_storeB sz3 rfl rfl rfl (H11.blk 0 rfl) rfl fun w13 u12 => ?_))))))))))))))
             have H14 : UpG _ _ _ [[_], [_], [_], [_]] := H11.on 0 rfl u12
             refine dc (W.region (mv rfl (oo (d_add rfl rfl (by omega) (by omega) (ag rfl (WL.done (X.block_normal (X.then_code (W.region (mv rfl (oo (d_add rfl rfl (by omega) (by omega) (ag rfl (WL.done ?_))))))))))))))
             exact X.nx [7, 6, 5, 4, 3, 2, 1] (3 - (2 + 1)) (by omega) ⟨2 + 1, n + 1, v0, v1, r.nums.getD n 0, rfl, H14, (by first | assumption | omega | simp), (by first | exact ht.in0 c29 | exact ht.out0 c29 (by omega) | exact ht.no0 c29 | exact ht.in1 c29 | exact ht.out1 c29 (by omega) | exact ht.no1 c29 | exact ht.in2 c29 | exact ht.out2 c29 (by omega) | exact ht.no2 c29), (by first | assumption | omega | simp), rfl⟩ rfl
           · refine sc (W.region (mv rfl (oo (d_add rfl rfl (by omega) (by omega) (ag rfl (WL.done (X.block_normal (X.then_code (W.region (mv rfl (oo (d_add rfl rfl (by omega) (by omega) (ag rfl (WL.done ?_))))))))))))))
             exact X.nx [7, 6, 5, 4, 3, 2, 1] (3 - (2 + 1)) (by omega) ⟨2 + 1, n + 1, v0, v1, v2, rfl, H11, (by first | assumption | omega | simp), (by first | exact ht.in0 c29 | exact ht.out0 c29 (by omega) | exact ht.no0 c29 | exact ht.in1 c29 | exact ht.out1 c29 (by omega) | exact ht.no1 c29 | exact ht.in2 c29 | exact ht.out2 c29 (by omega) | exact ht.no2 c29), (by first | assumption | omega | simp), rfl⟩ rfl
         · refine W.skip (X.block_normal (X.then_code (W.region (mv rfl (oo (d_add rfl rfl (by omega) (by omega) (ag rfl (WL.done ?_))))))))
           exact X.nx [7, 6, 5, 4, 3, 2, 1] (3 - (2 + 1)) (by omega) ⟨2 + 1, n, v0, v1, v2, rfl, H11, (by first | assumption | omega | simp), (by first | exact ht.in0 c29 | exact ht.out0 c29 (by omega) | exact ht.no0 c29 | exact ht.in1 c29 | exact ht.out1 c29 (by omega) | exact ht.no1 c29 | exact ht.in2 c29 | exact ht.out2 c29 (by omega) | exact ht.no2 c29), (by first | assumption | omega | simp), rfl⟩ rfl
       · refine W.seq (W.seq (W.region (mv rfl (oo (d_cmp false rfl rfl rfl (dc (W.iff rfl (W.exit (X.then_exit (X.then_exit (X.block_exit (X.then_code (W.seq (W.seq ?_))))))))))))))
         obtain ⟨hn, h0, h1, h2⟩ := ht.fin
         refine W.region (mv rfl (oo (d_fieldAddrB fld25_0 rfl rfl (oo (d_loadB y23 rfl rfl (H11.blk 1 rfl) rfl (oo (d_lenS y23 rfl (oo (d_cmp _ rfl rfl rfl (mv rfl ?_))))))))))
         refine WL.part 58 rfl (fun g36 => ?_) (fun g36 => ?_)
         · refine WL.opN rfl rfl rfl rfl (WL.opN rfl rfl rfl rfl (WL.opN rfl rfl rfl rfl (WL.opN rfl rfl rfl rfl (WL.opN rfl rfl rfl rfl (WL.opU rfl rfl rfl (WL.opU rfl rfl rfl (WL.opU rfl rfl rfl (WL.opN rfl rfl rfl rfl (oo (d_pick rfl rfl (dc (W.ift rfl (W.seq (W.region (oo (d_build (cs := #[.int .i64 0, .int .i64 0, .int .i64 0, .int .i64 0, .string ⟨#[]⟩]) rfl (by kernel_rfl) (WL.op0 (d_storeAB (us := [_, _, _, _, _]) (cs' := #[_, _, _, _, _]) sz54 rfl rfl rfl rfl (H11.blk 2 rfl) rfl rfl fun w14 u13 => ?_))))))))))))))))))
           have H15 : UpG _ _ _ [[_], [_], [_], [_]] := H11.on 2 rfl u13
           refine ag rfl (dc (W.ret (X.then_ret (X.retR2 rfl (rv_cellA [.int .i64 0, .int .i64 0, .int .i64 0, .int .i64 0, .string ⟨#[]⟩] y54 rfl sz54 rfl (H15.blk 2 rfl) rfl rfl) (rv_tmp rfl) ?_))))
           have e : ofR r = (op0, 3) := by unfold ofR; rw [if_neg hno, if_pos (by first | exact .inl (by omega) | exact .inr ⟨by omega, by simpa using c36⟩)]
           rw [e]
           exact ⟨(by rfl), H15.noneL⟩
         · refine WL.opG rfl rfl rfl (d_fieldAddrB fld25_1 rfl rfl (WL.opG rfl rfl rfl (d_loadB y9 rfl rfl (H11.blk 1 rfl) rfl (WL.opG rfl rfl rfl (d_lenStr y9 rfl (WL.opG rfl rfl rfl (d_cmp _ rfl rfl rfl (WL.opG rfl rfl rfl (d_move rfl ?_)))))))))
           refine WL.part 63 rfl (fun g36x => ?_) (fun g36x => ?_)
           · refine WL.opG rfl rfl rfl (d_idxAddrArr y91 sz4 rfl rfl (by omega) (by omega) (WL.opG rfl rfl rfl (d_loadB y4 rfl rfl (H11.blk 3 rfl) rfl (WL.opG rfl rfl rfl (d_notB rfl (WL.opG rfl rfl rfl (d_pick rfl rfl (oo (d_pick rfl rfl (dc ?_))))))))))
             refine W.iteB rfl (fun c36 => ?_) (fun c36 => ?_)
             · refine sr (oo (d_build (cs := #[.int .i64 0, .int .i64 0, .int .i64 0, .int .i64 0, .string ⟨#[]⟩]) rfl (by kernel_rfl) (WL.op0 (d_storeAB (us := [_, _, _, _, _]) (cs' := #[_, _, _, _, _]) sz54 rfl rfl rfl rfl (H11.blk 2 rfl) rfl rfl fun w15 u14 => ?_))))
               have H16 : UpG _ _ _ [[_], [_], [_], [_]] := H11.on 2 rfl u14
               refine ag rfl (dc (W.ret (X.then_ret (X.retR2 rfl (rv_cellA [.int .i64 0, .int .i64 0, .int .i64 0, .int .i64 0, .string ⟨#[]⟩] y54 rfl sz54 rfl (H16.blk 2 rfl) rfl rfl) (rv_tmp rfl) ?_))))
               have e : ofR r = (op0, 3) := by unfold ofR; rw [if_neg hno, if_pos (by first | exact .inl (by omega) | exact .inr ⟨by omega, by simpa using c36⟩)]
               rw [e]
               exact ⟨(by rfl), H16.noneL⟩
             · refine sc (W.seq (W.seq ?_))
               have hmid : ¬ (tot (r.nums.getD 0 0) ≠ r.nums.length ∨ (0 < r.text.size ∧ cT (r.nums.getD 0 0) = false)) := fun h => h.elim (fun h => by omega) (fun h => by have h1 := h.1; have h2 := h.2; first | omega | (rw [h2] at c36; exact c36 rfl))
               refine W.region (oo (d_fieldAddrB fld25_1 rfl rfl (oo (d_loadB y9 rfl rfl (H11.blk 1 rfl) rfl (oo (d_lenStr y9 rfl (oo (d_cmp _ rfl rfl rfl (dc ?_)))))))))
               refine W.ite rfl (fun c39 => ?_) (fun c39 => ?_)
               · refine sr (oo (d_build (cs := #[.int .i64 0, .int .i64 0, .int .i64 0, .int .i64 0, .string ⟨#[]⟩]) rfl (by kernel_rfl) (WL.op0 (d_storeAB (us := [_, _, _, _, _]) (cs' := #[_, _, _, _, _]) sz54 rfl rfl rfl rfl (H11.blk 2 rfl) rfl rfl fun w16 u15 => ?_))))
                 have H17 : UpG _ _ _ [[_], [_], [_], [_]] := H11.on 2 rfl u15
                 refine ag rfl (dc (W.ret (X.then_ret (X.retR2 rfl (rv_cellA [.int .i64 0, .int .i64 0, .int .i64 0, .int .i64 0, .string ⟨#[]⟩] y54 rfl sz54 rfl (H17.blk 2 rfl) rfl rfl) (rv_tmp rfl) ?_))))
                 have e : ofR r = (op0, 4) := by unfold ofR; rw [if_neg hno, if_neg hmid, if_pos (by omega)]
                 rw [e]
                 exact ⟨(by rfl), H17.noneL⟩
               · refine sc (W.seq (W.regionD mixed (by kernel_rfl) fun hok1 w17 k1 => ?_))
                 have H18 : UpG _ _ _ [[_], [_], [_], [_]] := H11.kept k1
                 refine tq hok1 0 rfl rfl (fun _ => d_fieldAddrB fld25_0 rfl rfl ⟨rfl, rfl⟩) (tb hok1 1 (H18.blk 1 rfl) rfl rfl (fun _ hC => d_loadB y23 rfl rfl hC rfl ⟨rfl, rfl⟩) (tr hok1 2 (rr.at H18) rfl rfl (fun _ hC => t_addr1 0 (T := (tyI .i64)) rfl y23 sz3 rfl rfl hC rfl (by omega) ⟨rfl, rfl⟩) (tr hok1 3 (rr.at H18) rfl rfl (fun _ hC => t_load1 0 0 (T := (tyI .i64)) rfl y3 rfl rfl hC (by omega) rfl ⟨rfl, rfl⟩) (tq hok1 4 rfl rfl (fun _ => d_idxAddrArr y93 sz3 rfl rfl (by omega) (by omega) ⟨rfl, rfl⟩) (tb hok1 5 (H18.blk 0 rfl) rfl rfl (fun _ hC => d_loadB y3 rfl rfl hC rfl ⟨rfl, rfl⟩) (tq hok1 6 rfl rfl (fun _ => d_idxAddrArr y93 sz3 rfl rfl (by omega) (by omega) ⟨rfl, rfl⟩) (tb hok1 7 (H18.blk 0 rfl) rfl rfl (fun _ hC => d_loadB y3 rfl rfl hC rfl ⟨rfl, rfl⟩) (tq hok1 8 rfl rfl (fun _ => d_idxAddrArr y93 sz3 rfl rfl (by omega) (by omega) ⟨rfl, rfl⟩) (tb hok1 9 (H18.blk 0 rfl) rfl rfl (fun _ hC => d_loadB y3 rfl rfl hC rfl ⟨rfl, rfl⟩) (tq hok1 10 rfl rfl (fun _ => d_fieldAddrB fld25_1 rfl rfl ⟨rfl, rfl⟩) (tb hok1 11 (H18.blk 1 rfl) rfl rfl (fun _ hC => d_loadB y9 rfl rfl hC rfl ⟨rfl, rfl⟩) (tq hok1 12 rfl rfl (fun _ => d_build (cs := #[.int .i64 (r.nums.getD 0 0), .int .i64 v0, .int .i64 v1, .int .i64 v2, .string r.text]) rfl (by kernel_rfl) ⟨rfl, rfl⟩) (wo hok1 13 (lo [] rfl rfl (d_storeAB (us := [_, _, _, _, _]) (cs' := #[_, _, _, _, _]) sz54 rfl rfl rfl rfl (H18.blk 2 rfl) rfl rfl fun w18 u16 => ?_)))))))))))))))
                 have H19 : UpG _ _ _ [[_], [_], [_], [_]] := H18.on 2 rfl u16
                 refine ⟨trivial, (tq hok1 14 rfl rfl (fun _ => d_assign rfl ⟨rfl, rfl⟩) (WD.done hok1 rfl (X.then_code (W.pick [3, 2] (Γ' := [(3, _), (2, _)]) rfl (W.ret (X.retR2 rfl (rv_cellA [.int .i64 (r.nums.getD 0 0), .int .i64 v0, .int .i64 v1, .int .i64 v2, .string r.text] y54 rfl sz54 rfl (H19.blk 2 rfl) rfl rfl) (rv_tmp rfl) ?_))))))⟩
                 have e : ofR r = (⟨r.nums.getD 0 0, v0, v1, v2, r.text⟩, 0) := by unfold ofR; rw [if_neg hno, if_neg hmid, if_neg (by omega), h0, h1, h2]
                 rw [e]
                 exact ⟨(by rfl), H19.noneL⟩
           · refine WL.opN rfl rfl rfl rfl (WL.opN rfl rfl rfl rfl (WL.opN rfl rfl rfl rfl (WL.opG rfl rfl rfl (d_pick rfl rfl (oo (d_pick rfl rfl (dc (W.iff rfl (sc (W.seq (W.seq ?_)))))))))))
             have hmid : ¬ (tot (r.nums.getD 0 0) ≠ r.nums.length ∨ (0 < r.text.size ∧ cT (r.nums.getD 0 0) = false)) := fun h => h.elim (fun h => by omega) (fun h => by have h1 := h.1; have h2 := h.2; first | omega | (rw [h2] at c36; exact c36 rfl))
             refine W.region (oo (d_fieldAddrB fld25_1 rfl rfl (oo (d_loadB y9 rfl rfl (H11.blk 1 rfl) rfl (oo (d_lenStr y9 rfl (oo (d_cmp _ rfl rfl rfl (dc ?_)))))))))
             refine W.ite rfl (fun c39 => ?_) (fun c39 => ?_)
             · refine sr (oo (d_build (cs := #[.int .i64 0, .int .i64 0, .int .i64 0, .int .i64 0, .string ⟨#[]⟩]) rfl (by kernel_rfl) (WL.op0 (d_storeAB (us := [_, _, _, _, _]) (cs' := #[_, _, _, _, _]) sz54 rfl rfl rfl rfl (H11.blk 2 rfl) rfl rfl fun w19 u17 => ?_))))
               have H20 : UpG _ _ _ [[_], [_], [_], [_]] := H11.on 2 rfl u17
               refine ag rfl (dc (W.ret (X.then_ret (X.retR2 rfl (rv_cellA [.int .i64 0, .int .i64 0, .int .i64 0, .int .i64 0, .string ⟨#[]⟩] y54 rfl sz54 rfl (H20.blk 2 rfl) rfl rfl) (rv_tmp rfl) ?_))))
               have e : ofR r = (op0, 4) := by unfold ofR; rw [if_neg hno, if_neg hmid, if_pos (by omega)]
               rw [e]
               exact ⟨(by rfl), H20.noneL⟩
             · refine sc (W.seq (W.regionD mixed (by kernel_rfl) fun hok2 w20 k2 => ?_))
               have H21 : UpG _ _ _ [[_], [_], [_], [_]] := H11.kept k2
               refine tq hok2 0 rfl rfl (fun _ => d_fieldAddrB fld25_0 rfl rfl ⟨rfl, rfl⟩) (tb hok2 1 (H21.blk 1 rfl) rfl rfl (fun _ hC => d_loadB y23 rfl rfl hC rfl ⟨rfl, rfl⟩) (tr hok2 2 (rr.at H21) rfl rfl (fun _ hC => t_addr1 0 (T := (tyI .i64)) rfl y23 sz3 rfl rfl hC rfl (by omega) ⟨rfl, rfl⟩) (tr hok2 3 (rr.at H21) rfl rfl (fun _ hC => t_load1 0 0 (T := (tyI .i64)) rfl y3 rfl rfl hC (by omega) rfl ⟨rfl, rfl⟩) (tq hok2 4 rfl rfl (fun _ => d_idxAddrArr y93 sz3 rfl rfl (by omega) (by omega) ⟨rfl, rfl⟩) (tb hok2 5 (H21.blk 0 rfl) rfl rfl (fun _ hC => d_loadB y3 rfl rfl hC rfl ⟨rfl, rfl⟩) (tq hok2 6 rfl rfl (fun _ => d_idxAddrArr y93 sz3 rfl rfl (by omega) (by omega) ⟨rfl, rfl⟩) (tb hok2 7 (H21.blk 0 rfl) rfl rfl (fun _ hC => d_loadB y3 rfl rfl hC rfl ⟨rfl, rfl⟩) (tq hok2 8 rfl rfl (fun _ => d_idxAddrArr y93 sz3 rfl rfl (by omega) (by omega) ⟨rfl, rfl⟩) (tb hok2 9 (H21.blk 0 rfl) rfl rfl (fun _ hC => d_loadB y3 rfl rfl hC rfl ⟨rfl, rfl⟩) (tq hok2 10 rfl rfl (fun _ => d_fieldAddrB fld25_1 rfl rfl ⟨rfl, rfl⟩) (tb hok2 11 (H21.blk 1 rfl) rfl rfl (fun _ hC => d_loadB y9 rfl rfl hC rfl ⟨rfl, rfl⟩) (tq hok2 12 rfl rfl (fun _ => d_build (cs := #[.int .i64 (r.nums.getD 0 0), .int .i64 v0, .int .i64 v1, .int .i64 v2, .string r.text]) rfl (by kernel_rfl) ⟨rfl, rfl⟩) (wo hok2 13 (lo [] rfl rfl (d_storeAB (us := [_, _, _, _, _]) (cs' := #[_, _, _, _, _]) sz54 rfl rfl rfl rfl (H21.blk 2 rfl) rfl rfl fun w21 u18 => ?_)))))))))))))))
               have H22 : UpG _ _ _ [[_], [_], [_], [_]] := H21.on 2 rfl u18
               refine ⟨trivial, (tq hok2 14 rfl rfl (fun _ => d_assign rfl ⟨rfl, rfl⟩) (WD.done hok2 rfl (X.then_code (W.pick [3, 2] (Γ' := [(3, _), (2, _)]) rfl (W.ret (X.retR2 rfl (rv_cellA [.int .i64 (r.nums.getD 0 0), .int .i64 v0, .int .i64 v1, .int .i64 v2, .string r.text] y54 rfl sz54 rfl (H22.blk 2 rfl) rfl rfl) (rv_tmp rfl) ?_))))))⟩
               have e : ofR r = (⟨r.nums.getD 0 0, v0, v1, v2, r.text⟩, 0) := by unfold ofR; rw [if_neg hno, if_neg hmid, if_neg (by omega), h0, h1, h2]
               rw [e]
               exact ⟨(by rfl), H22.noneL⟩
end Go.Proofs.YtnjjjmpdikpjaabDoor


/- The walks of functions, printed by wip/tools/gw.py. -/
namespace Go.Proofs.YtnjjjmpdikpjaabDoor
open Go Go.Sx
set_option linter.unusedVariables false
set_option linter.unusedSimpArgs false
set_option maxRecDepth 20000 in
theorem rawSame_any (a : RawD) (aa : Option Addr) (ac : Nat) (b : RawD) (ba : Option Addr) (bc : Nat) (w : World) (ra : RdT (tyI .i64) w (.slice aa a.nums.length ac) a.nums) (rb : RdT (tyI .i64) w (.slice ba b.nums.length bc) b.nums) :
   Calls Tryd.prog 9 #[.agg #[.slice aa a.nums.length ac, .string a.text], .agg #[.slice ba b.nums.length bc, .string b.text]] w (Ret fun v w' => v = .bool (decide (a.nums = b.nums ∧ a.text = b.text)) ∧ Upd w [] w' []) := by
 have le_ra := ra.le
 have le_rb := rb.le
 refine calls_of_W (args := [.agg #[.slice aa a.nums.length ac, .string a.text], .agg #[.slice ba b.nums.length bc, .string b.text]]) Tryd.func9 rfl rfl rfl ?_
 have H0 : UpG w [] w [] := UpG.nil w
 show W _ _ _ _ [(0, _), (1, _)] w
 refine sr (oo (d_box rfl fun w1 u1 => ?_))
 have H1 : UpG _ _ _ [[_]] := H0.new' u1
 refine oo (d_box rfl fun w2 u2 => ?_)
 have H2 : UpG _ _ _ [[_], [_]] := H1.new' u2
 refine ag rfl (dc (W.seq (W.seq (W.region (oo (d_fieldAddrB fld25_0 rfl rfl (oo (d_loadB y23 rfl rfl (H2.blk 0 rfl) rfl (oo (d_lenS y23 rfl (oo (d_fieldAddrB fld25_0 rfl rfl (oo (d_loadB y23 rfl rfl (H2.blk 1 rfl) rfl (oo (d_lenS y23 rfl (oo (d_cmp _ rfl rfl rfl (mv rfl ?_)))))))))))))))))))
 refine WL.part 13 rfl (fun g71 => ?_) (fun g71 => ?_)
 · refine WL.opN rfl rfl rfl rfl (WL.opN rfl rfl rfl rfl (WL.opN rfl rfl rfl rfl (WL.opN rfl rfl rfl rfl (WL.opN rfl rfl rfl rfl (oo (d_pick rfl rfl (dc (W.ift rfl (W.seq (W.region (ag rfl (dc (W.ret (X.then_ret (X.ret1 rfl rfl ?_)))))))))))))))
   have hne : ¬ (a.nums = b.nums ∧ a.text = b.text) := fun h => by first | (have h1 := h.1; rw [h1] at g71; exact g71 rfl) | exact c71 h.2
   exact ⟨(by rw [decide_eq_false hne]), H2.noneL⟩
 · refine WL.opG rfl rfl rfl (d_fieldAddrB fld25_1 rfl rfl (WL.opG rfl rfl rfl (d_loadB y9 rfl rfl (H2.blk 0 rfl) rfl (WL.opG rfl rfl rfl (d_fieldAddrB fld25_1 rfl rfl (WL.opG rfl rfl rfl (d_loadB y9 rfl rfl (H2.blk 1 rfl) rfl (WL.opG rfl rfl rfl (d_strne rfl rfl (oo (d_pick rfl rfl (dc ?_))))))))))))
   refine W.ite rfl (fun c71 => ?_) (fun c71 => ?_)
   · refine sr (ag rfl (dc (W.ret (X.then_ret (X.ret1 rfl rfl ?_)))))
     have hne : ¬ (a.nums = b.nums ∧ a.text = b.text) := fun h => by first | (have h1 := h.1; rw [h1] at g71; exact g71 rfl) | exact c71 h.2
     exact ⟨(by rw [decide_eq_false hne]), H2.noneL⟩
   · refine sc (W.seq (W.seq (W.region (ag rfl (dc (W.block (W.lp (B := [(4, _), (3, _), (2, _)]) [5, 4, 3, 2] (fun B R L m Γ' w' => ∃ k : Nat, Γ' = (5, .int .i64 ((k : Nat) : Int)) :: B ∧ UpG w L w' (R) ∧ (k ≤ a.nums.length) ∧ (a.nums.take k = b.nums.take k) ∧ m = a.nums.length - k) (a.nums.length - 0) ⟨0, rfl, H2, (by first | assumption | omega | simp), (by simp), rfl⟩ rfl ?_)))))))
     rintro m1 Γ1 w3 ⟨k, rfl, H3, hk, hs, rfl⟩
     refine W.seq (W.seq (W.region (mv rfl (oo (d_fieldAddrB fld25_0 rfl rfl (oo (d_loadB y23 rfl rfl (H3.blk 0 rfl) rfl (oo (d_lenS y23 rfl (oo (d_cmp _ rfl rfl rfl (dc ?_))))))))))))
     refine W.ite rfl (fun c74 => ?_) (fun c74 => ?_)
     · refine sc (W.seq (W.block (W.seq (W.regionD mixed (by kernel_rfl) fun hok1 w4 k1 => ?_))))
       have H4 : UpG _ _ _ [[_], [_]] := H3.kept k1
       refine tq hok1 0 rfl rfl (fun _ => d_fieldAddrB fld25_0 rfl rfl ⟨rfl, rfl⟩) (tb hok1 1 (H4.blk 0 rfl) rfl rfl (fun _ hC => d_loadB y23 rfl rfl hC rfl ⟨rfl, rfl⟩) (tm hok1 2 rfl rfl (tr hok1 3 (ra.at H4) rfl rfl (fun _ hC => t_addr1 k (T := (tyI .i64)) rfl y23 sz3 rfl rfl hC rfl (by omega) ⟨rfl, rfl⟩) (tr hok1 4 (ra.at H4) rfl rfl (fun _ hC => t_load1 k 0 (T := (tyI .i64)) rfl y3 rfl rfl hC (by omega) rfl ⟨rfl, rfl⟩) (tq hok1 5 rfl rfl (fun _ => d_fieldAddrB fld25_0 rfl rfl ⟨rfl, rfl⟩) (tb hok1 6 (H4.blk 1 rfl) rfl rfl (fun _ hC => d_loadB y23 rfl rfl hC rfl ⟨rfl, rfl⟩) (tm hok1 7 rfl rfl (tr hok1 8 (rb.at H4) rfl rfl (fun _ hC => t_addr1 k (T := (tyI .i64)) rfl y23 sz3 rfl rfl hC rfl (by omega) ⟨rfl, rfl⟩) (tr hok1 9 (rb.at H4) rfl rfl (fun _ hC => t_load1 k 0 (T := (tyI .i64)) rfl y3 rfl rfl hC (by omega) rfl ⟨rfl, rfl⟩) (tq hok1 10 rfl rfl (fun _ => d_cmp _ rfl rfl rfl ⟨rfl, rfl⟩) (WD.done hok1 rfl (X.then_code ?_))))))))))))
       refine W.ite rfl (fun c75 => ?_) (fun c75 => ?_)
       · refine sr (ag rfl (dc (W.ret (X.block_ret (X.then_ret (X.then_ret (X.block_ret (X.then_ret (X.ret1 rfl rfl ?_)))))))))
         have hne : ¬ (a.nums = b.nums ∧ a.text = b.text) := fun h => by have h1 := h.1; rw [h1] at c75; exact c75 rfl
         exact ⟨(by rw [decide_eq_false hne]), H4.noneL⟩
       · refine W.skip (X.block_normal (X.then_code (W.region (mv rfl (oo (d_add rfl rfl (by omega) (by omega) (ag rfl (WL.done ?_))))))))
         exact X.nx [5, 4, 3, 2] (a.nums.length - (k + 1)) (by omega) ⟨k + 1, rfl, H4, (by first | assumption | omega | simp), (by exact take_sameI hs (by omega) (by omega) (by simpa using c75)), rfl⟩ rfl
     · refine W.exit (X.then_exit (X.then_exit (X.block_exit (X.then_code (W.seq (W.region (ag rfl (dc (W.ret (X.ret1 rfl rfl ?_))))))))))
       have he : a.nums = b.nums ∧ a.text = b.text := ⟨same_takeI hs (by omega) (by omega), by simpa using c71⟩
       exact ⟨(by rw [decide_eq_true he]), H3.noneL⟩

set_option maxRecDepth 20000 in
theorem names_any  (w : World) :
   Calls Tryd.prog 22 #[] w (Ret fun v w' => ∃ a2 : Option Addr, ∃ c2 : Nat, v = .slice a2 opNames.length c2 ∧ Upd w [] w' [rowT tyS (.slice a2 opNames.length c2) 9 opNames]) := by
 refine calls_of_W (args := []) Tryd.func22 rfl rfl rfl ?_
 have H0 : UpG w [] w [] := UpG.nil w
 show W _ _ _ _ [] w
 refine sr (ag rfl (dc (W.seq (W.region (oo (t_buildSlice (T := tyS) (xs := [(⟨#[105, 110, 115, 101, 114, 116]⟩ : ByteArray), (⟨#[100, 101, 108, 101, 116, 101]⟩ : ByteArray), (⟨#[114, 101, 112, 108, 97, 99, 101]⟩ : ByteArray), (⟨#[117, 110, 100, 111]⟩ : ByteArray), (⟨#[114, 101, 100, 111]⟩ : ByteArray), (⟨#[114, 101, 103, 105, 115, 116, 101, 114]⟩ : ByteArray), (⟨#[102, 111, 114, 103, 101, 116]⟩ : ByteArray), (⟨#[99, 111, 117, 110, 116]⟩ : ByteArray), (⟨#[110, 101, 120, 116]⟩ : ByteArray), (⟨#[112, 114, 101, 118]⟩ : ByteArray), (⟨#[108, 105, 115, 116]⟩ : ByteArray), (⟨#[105, 115]⟩ : ByteArray), (⟨#[101, 110, 100]⟩ : ByteArray), (⟨#[114, 101, 97, 100]⟩ : ByteArray), (⟨#[115, 105, 122, 101]⟩ : ByteArray), (⟨#[108, 105, 110, 101]⟩ : ByteArray), (⟨#[111, 102, 102, 115, 101, 116]⟩ : ByteArray), (⟨#[115, 119, 97, 112]⟩ : ByteArray), (⟨#[109, 97, 114, 107]⟩ : ByteArray), (⟨#[112, 108, 97, 99, 101]⟩ : ByteArray), (⟨#[119, 97, 116, 99, 104]⟩ : ByteArray), (⟨#[109, 101, 114, 103, 101]⟩ : ByteArray), (⟨#[101, 118, 105, 99, 116]⟩ : ByteArray), (⟨#[99, 111, 109, 112, 97, 99, 116]⟩ : ByteArray)]) (cs := #[.string ⟨#[105, 110, 115, 101, 114, 116]⟩, .string ⟨#[100, 101, 108, 101, 116, 101]⟩, .string ⟨#[114, 101, 112, 108, 97, 99, 101]⟩, .string ⟨#[117, 110, 100, 111]⟩, .string ⟨#[114, 101, 100, 111]⟩, .string ⟨#[114, 101, 103, 105, 115, 116, 101, 114]⟩, .string ⟨#[102, 111, 114, 103, 101, 116]⟩, .string ⟨#[99, 111, 117, 110, 116]⟩, .string ⟨#[110, 101, 120, 116]⟩, .string ⟨#[112, 114, 101, 118]⟩, .string ⟨#[108, 105, 115, 116]⟩, .string ⟨#[105, 115]⟩, .string ⟨#[101, 110, 100]⟩, .string ⟨#[114, 101, 97, 100]⟩, .string ⟨#[115, 105, 122, 101]⟩, .string ⟨#[108, 105, 110, 101]⟩, .string ⟨#[111, 102, 102, 115, 101, 116]⟩, .string ⟨#[115, 119, 97, 112]⟩, .string ⟨#[109, 97, 114, 107]⟩, .string ⟨#[112, 108, 97, 99, 101]⟩, .string ⟨#[119, 97, 116, 99, 104]⟩, .string ⟨#[109, 101, 114, 103, 101]⟩, .string ⟨#[101, 118, 105, 99, 116]⟩, .string ⟨#[99, 111, 109, 112, 97, 99, 116]⟩]) rfl y48 sz9 rfl rfl rfl rfl (by kernel_rfl) rfl rfl fun w1 u1 => ?_))))))
 have H1 : UpG _ _ _ [[_]] := H0.new' u1
 refine ag rfl (dc (W.ret (X.ret1 rfl rfl ?_)))
 exact ⟨(some ⟨w.heap.size, 0, none⟩), [(⟨#[105, 110, 115, 101, 114, 116]⟩ : ByteArray), (⟨#[100, 101, 108, 101, 116, 101]⟩ : ByteArray), (⟨#[114, 101, 112, 108, 97, 99, 101]⟩ : ByteArray), (⟨#[117, 110, 100, 111]⟩ : ByteArray), (⟨#[114, 101, 100, 111]⟩ : ByteArray), (⟨#[114, 101, 103, 105, 115, 116, 101, 114]⟩ : ByteArray), (⟨#[102, 111, 114, 103, 101, 116]⟩ : ByteArray), (⟨#[99, 111, 117, 110, 116]⟩ : ByteArray), (⟨#[110, 101, 120, 116]⟩ : ByteArray), (⟨#[112, 114, 101, 118]⟩ : ByteArray), (⟨#[108, 105, 115, 116]⟩ : ByteArray), (⟨#[105, 115]⟩ : ByteArray), (⟨#[101, 110, 100]⟩ : ByteArray), (⟨#[114, 101, 97, 100]⟩ : ByteArray), (⟨#[115, 105, 122, 101]⟩ : ByteArray), (⟨#[108, 105, 110, 101]⟩ : ByteArray), (⟨#[111, 102, 102, 115, 101, 116]⟩ : ByteArray), (⟨#[115, 119, 97, 112]⟩ : ByteArray), (⟨#[109, 97, 114, 107]⟩ : ByteArray), (⟨#[112, 108, 97, 99, 101]⟩ : ByteArray), (⟨#[119, 97, 116, 99, 104]⟩ : ByteArray), (⟨#[109, 101, 114, 103, 101]⟩ : ByteArray), (⟨#[101, 118, 105, 99, 116]⟩ : ByteArray), (⟨#[99, 111, 109, 112, 97, 99, 116]⟩ : ByteArray)].length, (by rfl), (by have hh := H1.one 0 rfl; exact hh)⟩

set_option maxRecDepth 20000 in
theorem name_any (kind : Int) (w : World) :
   Calls Tryd.prog 25 #[.int .i64 kind] w (Ret fun v w' => v = .string ((opRowAt kind).name) ∧ Upd w [] w' []) := by
 refine calls_of_W (args := [.int .i64 kind]) Tryd.func25 rfl rfl rfl ?_
 have H0 : UpG w [] w [] := UpG.nil w
 show W _ _ _ _ [(0, _)] w
 refine sr (ag rfl (dc (W.seq (W.region (mv rfl (oo (d_call ok40 rfl (Ret.calls (of_any _ w  ) fun _ w1 p1 => ?_))))))))
 obtain ⟨rfl, u1⟩ := p1
 have H1 : UpG _ _ _ [] := H0.call u1
 refine mv rfl (oo (d_extract rfl rfl (oo (d_extract rfl rfl (oo (d_alloc sz82 fun w2 u2 => ?_))))))
 have H2 : UpG _ _ _ [[_]] := H1.new' u2
 refine WL.op0 (d_storeAB (us := [_, _, _]) (cs' := #[_, _, _]) sz82 rfl rfl rfl rfl (H2.blk 0 rfl) rfl rfl fun w3 u3 => ?_)
 have H3 : UpG _ _ _ [[_]] := H2.on 0 rfl u3
 refine ag rfl (dc (W.seq (W.region (oo (d_fieldAddrB fld82_0 rfl rfl (oo (d_loadB y9 rfl rfl (H3.blk 0 rfl) rfl (ag rfl (dc (W.ret (X.ret1 rfl rfl ?_)))))))))))
 exact ⟨rfl, H3.noneL⟩

set_option maxRecDepth 20000 in
theorem kind_any (name : ByteArray) (w : World) :
   Calls Tryd.prog 18 #[.string name] w (Ret fun v w' => v = .int .i64 ((lastTo name 24 : Nat) : Int) ∧ Upd w [] w' []) := by
 have hlen : opRows.length = 24 := rfl
 refine calls_of_W (args := [.string name]) Tryd.func18 rfl rfl rfl ?_
 have H0 : UpG w [] w [] := UpG.nil w
 show W _ _ _ _ [(0, _)] w
 refine sr (ag rfl (dc (W.seq (W.seq (W.region (oo (d_call ok36 rfl (Ret.calls (rows_any  w  ) fun _ w1 p1 => ?_))))))))
 obtain ⟨a2_1, c2_1, rfl, u1⟩ := p1
 have H1 : UpG _ _ _ [[_]] := (H0.new' u1).re rfl
 refine oo (d_lenS y79 rfl (mv rfl (dc (W.block (W.lp (B := [(6, _), (5, _), (2, _), (0, _)]) [7, 6, 5, 2, 0] (fun B R L m Γ' w' => ∃ j : Nat, Γ' = (7, .int .i64 ((j : Nat) : Int)) :: B ∧ UpG w L w' (R) ∧ (j ≤ 24) ∧ (lastTo name j = 0) ∧ m = 24 - j) (24 - 0) ⟨0, rfl, H1, (by first | assumption | omega | simp), (by rfl), rfl⟩ rfl ?_)))))
 rintro m1 Γ1 w2 ⟨j, rfl, H2, hj, hl, rfl⟩
 refine sr (oo (d_cmp _ rfl rfl rfl (dc (W.seq ?_))))
 refine W.ite rfl (fun c41 => ?_) (fun c41 => ?_)
 · refine sc (W.seq (W.block (W.seq (W.region (mv rfl (oo (t_addrN j (T := tyOpRow) rfl y79 sz82 rfl rfl (H2.rdT 0 rfl) rfl (by omega) (oo (t_loadN j opRow0 (T := tyOpRow) (us := [_, _, _]) rfl y82 rfl sz82 rfl (H2.rdT 0 rfl) (by omega) rfl (oo (d_alloc sz82 fun w3 u2 => ?_)))))))))))
   have H3 : UpG _ _ _ [[_], [_]] := H2.new' u2
   refine ag rfl (WL.op0 (d_storeAB (us := [_, _, _]) (cs' := #[_, _, _]) sz82 rfl rfl rfl rfl (H3.blk 1 rfl) rfl rfl fun w4 u3 => ?_))
   have H4 : UpG _ _ _ [[_], [_]] := H3.on 1 rfl u3
   refine dc (W.seq (W.region (oo (d_fieldAddrB fld82_0 rfl rfl (oo (d_loadB y9 rfl rfl (H4.blk 1 rfl) rfl (mv rfl (oo (d_streq rfl rfl (dc ?_))))))))))
   refine W.ite rfl (fun c42 => ?_) (fun c42 => ?_)
   · refine sr (mv rfl (oo (d_add rfl rfl (by omega) (by omega) (ag rfl (dc (W.ret (X.block_ret (X.then_ret (X.then_ret (X.block_ret (X.then_ret (X.ret1 rfl rfl ?_))))))))))))
     exact ⟨(by rw [last_of (by omega) ((name_at j (by omega)).trans c42)]; rfl), H4.noneL⟩
   · refine W.skip (X.block_normal (X.then_code (W.region (oo (d_add rfl rfl (by omega) (by omega) (mv rfl (WL.done ?_)))))))
     exact X.nx [7, 6, 5, 2, 0] (24 - (j + 1)) (by omega) ⟨j + 1, rfl, (H4.pm [0] rfl rfl), (by first | assumption | omega | simp), (by rw [lastTo, name_at j (by omega), if_neg c42]; exact hl), rfl⟩ rfl
 · refine W.exit (X.then_exit (X.then_exit (X.block_exit (X.then_code (W.seq (W.region (ag rfl (dc (W.ret (X.ret1 rfl rfl ?_))))))))))
   exact ⟨(by rw [show (24 : Nat) = j by omega, hl]; rfl), H2.noneL⟩
end Go.Proofs.YtnjjjmpdikpjaabDoor


/- Lines of a console: words, digits of bytes, as plain functions. Conditions: those of each theorem. -/
namespace Go.Sx
set_option linter.unusedVariables false
set_option linter.unusedSimpArgs false
/-- The words ahead of a place, and where the last one begins. -/
def wordsTo (s : ByteArray) : Nat → List ByteArray × Nat
  | 0 => ([], 0)
  | i + 1 => if bt s i = 32 then ((wordsTo s i).1 ++ [s.extract (wordsTo s i).2 i], i + 1) else wordsTo s i
def wordsR (s : ByteArray) : List ByteArray := (wordsTo s s.size).1 ++ [s.extract (wordsTo s s.size).2 s.size]
theorem wordsTo_yes {s : ByteArray} {i f : Nat} {o : List ByteArray} (h : wordsTo s i = (o, f)) (hb : bt s i = 32) : wordsTo s (i + 1) = (o ++ [s.extract f i], i + 1) := by
  rw [wordsTo, if_pos hb, h]
theorem wordsTo_no {s : ByteArray} {i f : Nat} {o : List ByteArray} (h : wordsTo s i = (o, f)) (hb : ¬ bt s i = 32) : wordsTo s (i + 1) = (o, f) := by
  rw [wordsTo, if_neg hb, h]
/-- A byte of a string. -/
def bn (s : ByteArray) (j : Nat) : Nat := (s.data.toList.getD j 0).toNat
theorem bn_lt (s : ByteArray) (j : Nat) : bn s j < 256 := by unfold bn; have := (s.data.toList.getD j 0).toNat_lt; omega
def digs : ByteArray := ⟨#[48, 49, 50, 51, 52, 53, 54, 55, 56, 57, 97, 98, 99, 100, 101, 102]⟩
def hexI (s : ByteArray) : Nat → List Int
  | 0 => []
  | i + 1 => hexI s i ++ [((bn ⟨#[48, 49, 50, 51, 52, 53, 54, 55, 56, 57, 97, 98, 99, 100, 101, 102]⟩ (bn s i / 16) : Nat) : Int), ((bn ⟨#[48, 49, 50, 51, 52, 53, 54, 55, 56, 57, 97, 98, 99, 100, 101, 102]⟩ (bn s i % 16) : Nat) : Int)]
theorem hexI_len (s : ByteArray) : ∀ i, (hexI s i).length = 2 * i
  | 0 => rfl
  | i + 1 => by rw [hexI, List.length_append, hexI_len s i]; simp; omega
section
variable {P : Program} {Γ : Env} {w : World} {ty : TypeId} {K : Value → World → Prop} {xt yt : TypeId} {x y : Operand}
theorem d_idxStrB {t : TypeId} {ix : Operand} {s : ByteArray} {kd : IntKind} {i : Int} (j : Nat) (ht : P.underlying t = some .string) (hx : ev Γ x = some (.string s)) (hi : ev Γ ix = some (.int kd i)) (hij : i = ((j : Nat) : Int)) (hj : j < s.size) (k : K (.int .u8 ((bn s j : Nat) : Int)) w) : Does P Γ w (.index t x ix) ty K :=
  d_idxStrN j ht hx hi hij hj k
theorem d_shr4 {ky : IntKind} {m : Nat} (hx : ev Γ x = some (.int .u8 ((m : Nat) : Int))) (hy : ev Γ y = some (.int ky 4)) (k : K (.int .u8 ((m / 16 : Nat) : Int)) w) : Does P Γ w (.binOp .shr xt x y yt) ty K :=
  d_shr hx hy (by decide) (by
    have e1 : ((m : Nat) : Int).fdiv (2 ^ (min (4 : Int).toNat IntKind.u8.bits)) = ((m / 16 : Nat) : Int) := by
      show ((m : Nat) : Int).fdiv 16 = _
      rw [Int.fdiv_eq_ediv_of_nonneg _ (by decide)]; simp
    rw [e1]; exact k)
theorem d_and15 {m : Nat} (hm : m < 256) (hx : ev Γ x = some (.int .u8 ((m : Nat) : Int))) (hy : ev Γ y = some (.int .u8 15)) (k : K (.int .u8 ((m % 16 : Nat) : Int)) w) : Does P Γ w (.binOp .and xt x y yt) ty K := by
  have h8 : ∀ m : Fin 256, IntKind.u8.wrap ((BitVec.ofInt 8 ((m.val : Nat) : Int) &&& BitVec.ofInt 8 15).toNat : Int) = ((m.val % 16 : Nat) : Int) := by decide +kernel
  exact d_bits ((m % 16 : Nat) : Int) hx hy (congrArg some (h8 ⟨m, hm⟩)) k
theorem wrap_u8' {z : Int} (h0 : 0 ≤ z) (h1 : z ≤ 255) : IntKind.u8.wrap z = z := by
  simp only [IntKind.wrap, IntKind.signed, IntKind.bits]; simp; omega
theorem d_quo8 {m n : Nat} (hm : m < 256) (hn : 0 < n) (hx : ev Γ x = some (.int .u8 ((m : Nat) : Int))) (hy : ev Γ y = some (.int .u8 ((n : Nat) : Int))) (k : K (.int .u8 ((m / n : Nat) : Int)) w) : Does P Γ w (.binOp .quo xt x y yt) ty K :=
  Does.of_run (fun ρ hρ => by
    have h1 : ((m : Nat) : Int).tdiv ((n : Nat) : Int) = ((m / n : Nat) : Int) := by rw [Int.tdiv_eq_ediv_of_nonneg (Int.natCast_nonneg m)]; simp
    have h3 : m / n ≤ m := Nat.div_le_self m n
    have hb' : ((n : Nat) : Int) ≠ 0 := by omega
    have h4 : m / n ≤ 255 := Nat.le_trans h3 (by omega)
    have hw := wrap_u8' (z := ((m / n : Nat) : Int)) (Int.natCast_nonneg _) (Int.ofNat_le.2 h4)
    have hw2 : IntKind.u8.wrap (((m : Nat) : Int) / ((n : Nat) : Int)) = ((m : Nat) : Int) / ((n : Nat) : Int) := by rw [← Int.natCast_ediv]; exact hw
    have h1' : ((m : Nat) : Int).tdiv ((n : Nat) : Int) = ((m : Nat) : Int) / ((n : Nat) : Int) := by rw [h1]; simp
    have hn0 : n ≠ 0 := by omega
    simp [ex, execOp, hρ x _ hx, hρ y _ hy, eqGuard, binOp, Op.intDiv, hb', hn0, h1', hw2]) k
theorem d_add8 {m n : Nat} (hm : m + n ≤ 255) (hx : ev Γ x = some (.int .u8 ((m : Nat) : Int))) (hy : ev Γ y = some (.int .u8 ((n : Nat) : Int))) (k : K (.int .u8 ((m + n : Nat) : Int)) w) : Does P Γ w (.binOp .add xt x y yt) ty K :=
  d_arith ((m + n : Nat) : Int) hx hy (by show some (IntKind.u8.wrap (((m : Nat) : Int) + ((n : Nat) : Int))) = _; rw [wrap_u8' (by omega) (by omega)]; simp) k
end
def hexT (s : ByteArray) : Nat → ByteArray
  | 0 => ⟨#[]⟩
  | i + 1 => (hexT s i ++ (⟨#[48, 49, 50, 51, 52, 53, 54, 55, 56, 57, 97, 98, 99, 100, 101, 102]⟩ : ByteArray).extract (bn s i / 16) (bn s i / 16 + 1)) ++ (⟨#[48, 49, 50, 51, 52, 53, 54, 55, 56, 57, 97, 98, 99, 100, 101, 102]⟩ : ByteArray).extract (bn s i % 16) (bn s i % 16 + 1)
theorem hexT_size (s : ByteArray) : ∀ i, (hexT s i).size = 2 * i
  | 0 => rfl
  | i + 1 => by
    have := bn_lt s i
    have h16 : (⟨#[48, 49, 50, 51, 52, 53, 54, 55, 56, 57, 97, 98, 99, 100, 101, 102]⟩ : ByteArray).size = 16 := rfl
    rw [hexT, ByteArray.size_append, ByteArray.size_append, hexT_size s i, ByteArray.size_extract, ByteArray.size_extract, h16]; omega
end Go.Sx


/- The walks of functions, printed by wip/tools/gw.py. -/
namespace Go.Proofs.YtnjjjmpdikpjaabDoor
open Go Go.Sx
set_option linter.unusedVariables false
set_option linter.unusedSimpArgs false
set_option maxRecDepth 20000 in
theorem words41_any (s : ByteArray) (w : World) (hs : s.size ≤ 1000000) :
   Calls Tryd.prog 21 #[.string s] w (Ret fun v w' => ∃ a2 : Option Addr, ∃ c2 : Nat, v = .slice a2 ((wordsR s).length) c2 ∧ Upd w [] w' [rowT tyS (.slice a2 ((wordsR s).length) c2) 9 (wordsR s)]) := by
 refine calls_of_W (args := [.string s]) Tryd.func21 rfl rfl rfl ?_
 have H0 : UpG w [] w [] := UpG.nil w
 show W _ _ _ _ [(0, _)] w
 refine sr (ag rfl (dc (W.seq (W.region (ag rfl (dc (W.seq (W.region (ag rfl (dc (W.seq (W.seq (W.region (ag rfl (dc (W.block ?_))))))))))))))))
 have H1 : UpG _ _ _ [[_]] := H0.new' (Upd.nilRowT w tyS 9)
 refine W.lp (B := [(2, _), (0, _)]) [5, 4, 3, 2, 0] (fun B R L m Γ' w' => ∃ i : Nat, ∃ f : Nat, ∃ o : List ByteArray, ∃ a : Option Addr, ∃ c : Nat, Γ' = (5, .int .i64 ((i : Nat) : Int)) :: (4, .int .i64 ((f : Nat) : Int)) :: (3, .slice a o.length c) :: B ∧ UpG w L w' ([rowT tyS (.slice a o.length c) 9 o] :: R) ∧ (i ≤ s.size) ∧ (wordsTo s i = (o, f)) ∧ (f ≤ i) ∧ (o.length ≤ i) ∧ m = s.size - i) (s.size - 0) ⟨0, 0, ([] : List ByteArray), none, 0, rfl, H1, (by first | assumption | omega | simp), (by rfl), (by first | assumption | omega | simp), (by simp), rfl⟩ rfl ?_
 rintro m1 Γ1 w1 ⟨i, f, o, a, c, rfl, H2, hi, hw, hf, ho, rfl⟩
 refine W.seq (W.seq (W.region (mv rfl (mv rfl (oo (d_lenStr y9 rfl (oo (d_cmp _ rfl rfl rfl (dc ?_)))))))))
 refine W.ite rfl (fun c85 => ?_) (fun c85 => ?_)
 · refine sc (W.seq (W.block (W.seq (W.region (mv rfl (mv rfl (oo (d_idxStrN i y9 rfl rfl rfl (by omega) (oo (d_cmp _ rfl rfl rfl (dc ?_)))))))))))
   refine W.ite rfl (fun c86 => ?_) (fun c86 => ?_)
   · refine sr (mv rfl (mv rfl (mv rfl (mv rfl (oo (d_substrN ((f : Nat) : Int) ((i : Nat) : Int) f i y9 rfl rfl rfl (.inr ⟨_, rfl⟩) (.inr ⟨_, rfl⟩) (by omega) (by omega) ⟨by omega, by omega, by omega⟩ (oo (t_buildSlice (T := tyS) (xs := [s.extract f i]) (cs := #[.string (s.extract f i)]) rfl y48 sz9 rfl rfl rfl rfl (by kernel_rfl) rfl rfl fun w2 u1 => ?_))))))))
     have H3 : UpG _ _ _ [[_], [_]] := H2.new' u1
     refine oo (t_append (T := tyS) (xs := o) (ys := [s.extract f i]) rfl y48 sz9 rfl rfl rfl (H3.ownT 0 rfl) (H3.rdT 1 rfl) (by simp; omega) (by simp; omega) fun a1 c1 w3 u2 => ?_)
     have H4 : UpG _ _ _ [[_], []] := (H3.on 0 rfl u2).drop 1
     refine ag rfl (dc (W.region (mv rfl (oo (d_add rfl rfl (by omega) (by omega) (ag rfl (WL.done (X.block_normal (X.then_code (W.region (mv rfl (oo (d_add rfl rfl (by omega) (by omega) (ag rfl (WL.done ?_)))))))))))))))
     exact X.nx [5, 4, 3, 2, 0] (s.size - (i + 1)) (by omega) ⟨i + 1, i + 1, o ++ [s.extract f i], a1, c1, rfl, (H4.re rfl), (by first | assumption | omega | simp), (by first | exact wordsTo_yes hw c86 | exact wordsTo_no hw c86), (by first | assumption | omega | simp), (by first | (simp; omega) | omega), rfl⟩ rfl
   · refine W.skip (X.block_normal (X.then_code (W.region (mv rfl (oo (d_add rfl rfl (by omega) (by omega) (ag rfl (WL.done ?_))))))))
     exact X.nx [5, 4, 3, 2, 0] (s.size - (i + 1)) (by omega) ⟨i + 1, f, o, a, c, rfl, H2, (by first | assumption | omega | simp), (by first | exact wordsTo_yes hw c86 | exact wordsTo_no hw c86), (by first | assumption | omega | simp), (by first | (simp; omega) | omega), rfl⟩ rfl
 · refine W.exit (X.then_exit (X.then_exit (X.block_exit (X.then_code (W.seq (W.region (mv rfl (mv rfl (mv rfl (oo (d_substrN ((f : Nat) : Int) ((s.size : Nat) : Int) f s.size y9 rfl rfl rfl (.inr ⟨_, rfl⟩) (.inl ⟨rfl, rfl⟩) (by omega) (by omega) ⟨by omega, by omega, by omega⟩ (oo (t_buildSlice (T := tyS) (xs := [s.extract f s.size]) (cs := #[.string (s.extract f s.size)]) rfl y48 sz9 rfl rfl rfl rfl (by kernel_rfl) rfl rfl fun w4 u3 => ?_)))))))))))))
   have H5 : UpG _ _ _ [[_], [_]] := H2.new' u3
   refine oo (t_append (T := tyS) (xs := o) (ys := [s.extract f s.size]) rfl y48 sz9 rfl rfl rfl (H5.ownT 0 rfl) (H5.rdT 1 rfl) (by simp; omega) (by simp; omega) fun a2 c2 w5 u4 => ?_)
   have H6 : UpG _ _ _ [[_], []] := (H5.on 0 rfl u4).drop 1
   refine ag rfl (dc (W.ret (X.ret1 rfl rfl ?_)))
   have ei : i = s.size := by omega
   subst ei
   have e : o ++ [s.extract f s.size] = wordsR s := by unfold wordsR; rw [hw]
   rw [e] at H6
   exact ⟨a2, c2, (by rw [e]), (by have hh := H6.one 0 rfl; exact hh)⟩
end Go.Proofs.YtnjjjmpdikpjaabDoor


/- Slices of things that hold slices: lists of parts, owned as one chunk, or read. -/
namespace Go.Sx
set_option linter.unusedVariables false
set_option linter.unusedSimpArgs false
/-- Many chunks, by a list. -/
def manyF {α : Type} (f : α → Chunk) (l : List α) : Chunk := many (l.map f)
theorem RdT.len {α : Type} {T : Ty α} {w : World} {a : Option Addr} {n c : Nat} {xs : List α} (h : RdT T w (.slice a n c) xs) : n = xs.length := by
  obtain ⟨A, cap, e, _⟩ := h
  cases e; rfl
/-- What each of some things has inside. -/
structure Inn (σ α : Type) where
  T : Ty α
  e : TypeId
  A : σ → Option Addr
  C : σ → Nat
  X : σ → List α
  N : σ → Nat
section
variable {σ α : Type} {w w' : World} {L : List Chunk} {G : List (List Chunk)}
def Inn.row (I : Inn σ α) (p : σ) : Chunk := rowT I.T (.slice (I.A p) (I.N p) (I.C p)) I.e (I.X p)
def Inn.Rd (I : Inn σ α) (w : World) (ps : List σ) : Prop := ∀ p, p ∈ ps → RdT I.T w (.slice (I.A p) (I.N p) (I.C p)) (I.X p)
theorem Upd.manyNil {β : Type} (f : β → Chunk) (w : World) : Upd w [] w [manyF f []] :=
  ⟨⟨fun c hc => by simp only [List.mem_singleton] at hc; subst hc; exact Hp.nil w, by simp [ats, manyF, many]⟩, Keep.refl _ _, fun g hg => by simp [ats, manyF, many] at hg⟩
theorem manyF_add {β : Type} {f : β → Chunk} {l : List β} {p : β} {M : List Chunk} (h : Hp w (manyF f l :: f p :: M)) : Hp w (manyF f (l ++ [p]) :: M) := by
  have h1 := (hp_many (M := f p :: M)).1 h
  refine (hp_many (M := M)).2 ?_
  simpa using h1
theorem Upd.absorb {β : Type} {f : β → Chunk} {l : List β} {p : β} (h : Hp w [manyF f l, f p]) : Upd w [manyF f l, f p] w [manyF f (l ++ [p])] :=
  ⟨manyF_add h, Keep.refl _ _, fun g hg => .inl (by simpa [ats, manyF, many] using hg)⟩
theorem UpG.absorb {β : Type} {f : β → Chunk} {l : List β} (p : β) (h : UpG w L w' G) (i j : Nat) (hij : Nat.beq i j = false) (hi : G[i]? = some [manyF f l]) (hj : G[j]? = some [f p]) :
    UpG w L w' ((G.set i [manyF f (l ++ [p])]).set j [] ++ [[]]) :=
  h.on2 (A' := [manyF f (l ++ [p])]) (B' := []) (C := []) i j hij hi hj (Upd.absorb (h.hp2 i j hij hi hj))
theorem manyF_get {β : Type} {f : β → Chunk} {l : List β} {p : β} (h : Hp w [manyF f l]) (hp : p ∈ l) : (f p).holds w :=
  (h.holds (manyF f l) (by simp) : Hp w (l.map f)).holds _ (List.mem_map.2 ⟨p, hp, rfl⟩)
variable {I : Inn σ α} {ps qs : List σ}
theorem Inn.own (h : Hp w [manyF I.row ps]) : I.Rd w ps := fun p hp =>
  own_rd (row_own (v := .slice (I.A p) (I.N p) (I.C p)) (e := I.e) (sz := I.T.sz) (n := (I.X p).length) (vs := I.T.all (I.X p)) (manyF_get (f := I.row) h hp))
theorem Inn.Rd.kept (h : I.Rd w ps) (k : Keep [] w w') : I.Rd w' ps := fun p hp => (h p hp).kept k
theorem Inn.Rd.at (h : I.Rd w ps) (k : UpG w [] w' G) : I.Rd w' ps := fun p hp => (h p hp).at k
theorem Inn.Rd.get (h : I.Rd w ps) (d : σ) (k : Nat) (hk : k < ps.length) : RdT I.T w (.slice (I.A (ps.getD k d)) (I.N (ps.getD k d)) (I.C (ps.getD k d))) (I.X (ps.getD k d)) :=
  h _ (by simp [List.getD_eq_getElem?_getD, List.getElem?_eq_getElem hk])
theorem Inn.Rd.take (h : I.Rd w ps) (k : Nat) : I.Rd w (ps.take k) := fun p hp => h p (List.mem_of_mem_take hp)
theorem Inn.Rd.append (h : I.Rd w ps) (k : I.Rd w qs) : I.Rd w (ps ++ qs) := fun p hp => (List.mem_append.1 hp).elim (h p) (k p)
theorem Inn.Rd.nil (I : Inn σ α) (w : World) : I.Rd w [] := fun p hp => by simp at hp
theorem Inn.Rd.cons {p : σ} (h : RdT I.T w (.slice (I.A p) (I.N p) (I.C p)) (I.X p)) (k : I.Rd w ps) : I.Rd w (p :: ps) := fun q hq => by
  rcases List.mem_cons.1 hq with rfl | h1
  · exact h
  · exact k q h1
theorem getD_mem' {l : List σ} {d : σ} {k : Nat} (hk : k < l.length) : l.getD k d ∈ l := by simp [List.getD_eq_getElem?_getD, List.getElem?_eq_getElem hk]
theorem getD_map' {β : Type} (f : σ → β) (l : List σ) (d : σ) (k : Nat) : f (l.getD k d) = (l.map f).getD k (f d) := by
  simp only [List.getD_eq_getElem?_getD, List.getElem?_map]; cases l[k]? <;> rfl
end
end Go.Sx


/- Structs stored into rows of one's own; rows cleared from a place on. -/
namespace Go.Sx
set_option linter.unusedVariables false
set_option linter.unusedSimpArgs false
section
variable {P : Program} {Γ : Env} {w : World} {ty : TypeId} {K : Value → World → Prop} {α : Type} {T : Ty α}
theorem own_capN {a : Option Addr} {n c sz m : Nat} {e : TypeId} {vs : List Value} (h : w.ownsRow 0 e sz (.slice a n c) m vs) : n ≤ c := by
  rcases h.2 with ⟨h1, h2⟩ | ⟨g, cap, cur, h1, _, _, h2, _⟩
  · injection h1 with _ h1 _; omega
  · injection h1 with _ h3 h1; omega
theorem Inn.Rd.filter {σ β : Type} {I : Inn σ β} {ps : List σ} (h : I.Rd w ps) (q : σ → Bool) : I.Rd w (ps.filter q) := fun p hp => h p (List.mem_filter.1 hp).1
end
end Go.Sx


/- The shelf's words on rows of whole numbers, in those of chunks. -/
namespace Go.Sx
set_option linter.unusedVariables false
set_option linter.unusedSimpArgs false
open Go.Sort
section
variable {w : World} {k : IntKind} {e : TypeId}
theorem all_int (xs : List Int) : (tyI k).all xs = xs.map (Value.int k) := by
  induction xs with
  | nil => rfl
  | cons x xs ih => simp only [Ty.all, tyI, List.flatMap_cons, List.map_cons, List.singleton_append] at *; rw [ih]
end
end Go.Sx


/- Rows that are read alone, owned; strings as bytes. -/
namespace Go.Sx
set_option linter.unusedVariables false
set_option linter.unusedSimpArgs false
section
variable {α : Type} {T : Ty α} {w w' : World} {L : List Chunk} {G : List (List Chunk)} {v : Value} {xs : List α}
theorem rd_local (h : ∀ g, g ∈ (Value.blk? v).toList → w'.heap[g]? = w.heap[g]?) (k : RdT T w v xs) : RdT T w' v xs := by
  obtain ⟨A, cap, rfl, h1, h2, h3⟩ := k
  refine ⟨A, cap, rfl, h1, h2, fun j u hj => ?_⟩
  obtain ⟨ad, rfl, hc⟩ := h3 j u hj
  refine ⟨ad, rfl, ?_⟩
  rw [← hc]
  exact World.cell?_of_block (w := w) (h _ (by rw [add_block]; simp [Value.blk?]))
/-- A slice that is one's own to read. -/
def rdC (T : Ty α) (v : Value) (xs : List α) : Chunk :=
  ⟨(Value.blk? v).toList, fun w => RdT T w v xs ∧ ∀ g, g ∈ (Value.blk? v).toList → g < w.heap.size,
    fun w w' h k => ⟨rd_local h k.1, fun g hg => by
      have h1 := k.2 g hg
      have h2 := h g hg
      rw [Array.getElem?_eq_getElem h1] at h2
      exact (Array.getElem?_eq_some_iff.1 h2).1⟩,
    fun w g hg k => k.2 g hg, fun _ _ => by cases Value.blk? v <;> simp⟩
theorem UpG.rdC (h : UpG w L w' G) (i : Nat) (hi : G[i]? = some [rdC T v xs]) : RdT T w' v xs := ((h.hpOf i hi).holds (Sx.rdC T v xs) (by simp) : (Sx.rdC T v xs).P w').1
end
section
variable {P : Program} {Γ : Env} {w : World} {ty : TypeId} {K : Value → World → Prop}
def bytesL (s : ByteArray) : List Int := (List.range s.size).map (bt s)
theorem bytesL_len (s : ByteArray) : (bytesL s).length = s.size := by simp [bytesL]
theorem bytesL_get (s : ByteArray) (j : Nat) (h : j < s.size) : (bytesL s).getD j 0 = bt s j := by simp [bytesL, List.getD_eq_getElem?_getD, h]
end
end Go.Sx


/- Automata as data; small searches. -/
namespace Go.Sx
set_option linter.unusedVariables false
set_option linter.unusedSimpArgs false
/-- A function value that tells a bool of a number, and only reads what is there. -/
def ClosB (P : Program) (f : FuncId) (fc : List Value) (p : Int → Bool) (w : World) : Prop :=
  ∀ w' : World, Keep [] w w' → ∀ x : Int, Calls P f (#[.int .i64 x] ++ fc.toArray) w' (Ret fun v w'' => v = .bool (p x) ∧ Upd w' [] w'' [])
end Go.Sx
namespace Go.Sx
set_option linter.unusedVariables false
set_option linter.unusedSimpArgs false
theorem ClosB.keep {P : Program} {f : FuncId} {fc : List Value} {p : Int → Bool} {w w' : World} (h : ClosB P f fc p w) (k : Keep [] w w') : ClosB P f fc p w' := fun w2 k2 x => h w2 (k.trans k2) x
end Go.Sx
namespace Go.Sx
set_option linter.unusedVariables false
set_option linter.unusedSimpArgs false
end Go.Sx
namespace Go.Sx
set_option linter.unusedVariables false
set_option linter.unusedSimpArgs false
end Go.Sx
namespace Go.Sx
set_option linter.unusedVariables false
set_option linter.unusedSimpArgs false
end Go.Sx


/- Bytes as strings; lists with each thing once, numbered as met. -/
namespace Go.Sx
set_option linter.unusedVariables false
set_option linter.unusedSimpArgs false
section
variable {P : Program} {Γ : Env} {w : World} {ty : TypeId} {K : Value → World → Prop}
theorem d_bytesStr {src dst e : TypeId} {x : Operand} {a : Option Addr} {n c : Nat} {xs : List Int} (hs : P.underlying src = some (.slice e)) (he : P.underlying e = some (.int .u8)) (hd : P.underlying dst = some .string) (hx : ev Γ x = some (.slice a n c)) (hr : RdT (tyI .u8) w (.slice a n c) xs)
    (k : K (.string (strOfNums xs)) w) : Does P Γ w (.convert src dst x) ty K := by
  have hn := hr.len
  subst hn
  have hrun : (convert src dst (.slice a xs.length c)).run P w = .ok (.string (strOfNums xs)) w := by
    obtain ⟨A, cap, hv, h1, h2, h3⟩ := hr
    cases hv
    cases a with
    | none =>
      have h0 : xs = [] := by
        cases xs with
        | nil => rfl
        | cons y ys =>
          obtain ⟨ad, e1, _⟩ := h3 0 (.int .u8 y) (by simp [all_int])
          cases e1
      subst h0
      have h5 := run_convert_bytes_nil (P := P) w src e hs he 0 c dst hd
      exact h5
    | some ad =>
      have hl : (loadCells ad xs.length).run P w = .ok (xs.map (Value.int .u8)).toArray w := by
        have := run_loadCells_list (P := P) w ad (xs.map (Value.int .u8)) (fun j v hj => by
          obtain ⟨ad', e1, e2⟩ := h3 j v (by rw [all_int]; exact hj)
          cases e1
          exact e2)
        simpa using this
      rw [run_convert_bytes_string w src dst e _ xs.length c hs he hd, run_bytesToString w _ xs.length c xs hl, foldl_push_bytes]
      simp [strOfNums, ByteArray.empty, ByteArray.emptyWithCapacity]
      rfl
  exact Does.of_run (fun ρ hρ => by simp [ex, execOp, hρ x _ hx, hrun]) k
end
section
variable {α : Type} [DecidableEq α]
/-- The first place of a thing. -/
def ix (x : α) : List α → Nat
  | [] => 0
  | y :: l => if x = y then 0 else ix x l + 1
end
end Go.Sx


/- The walks of functions, printed by wip/tools/gw.py. -/
namespace Go.Proofs.YtnjjjmpdikpjaabDoor
open Go Go.Sx
set_option linter.unusedVariables false
set_option linter.unusedSimpArgs false
set_option maxRecDepth 20000 in
theorem hex_any (s : ByteArray) (w : World) (hs : s.size ≤ 1000000) :
   Calls Tryd.prog 27 #[.string s] w (Ret fun v w' => v = .string (strOfNums (hexI s s.size)) ∧ Upd w [] w' []) := by
 refine calls_of_W (args := [.string s]) Tryd.func27 rfl rfl rfl ?_
 have H0 : UpG w [] w [] := UpG.nil w
 show W _ _ _ _ [(0, _)] w
 refine sr (ag rfl (dc (W.seq (W.region (mv rfl (oo (d_lenStr y9 rfl (oo (d_mul rfl rfl (by omega) (by omega) (oo (t_make0 (2 * s.size) (T := (tyI .u8)) rfl y69 sz5 rfl rfl rfl (by omega) (by omega) fun w1 u1 => ?_)))))))))))
 have H1 : UpG _ _ _ [[_]] := H0.new' u1
 refine ag rfl (dc (W.seq (W.seq (W.region (mv rfl (oo (d_lenStr y9 rfl (mv rfl (dc (W.block (W.lp (B := [(10, _), (2, _), (0, _)]) [11, 3, 10, 2, 0] (fun B R L m Γ' w' => ∃ i : Nat, ∃ o : List Int, ∃ a : Option Addr, ∃ c : Nat, Γ' = (11, .int .i64 ((i : Nat) : Int)) :: (3, .slice a o.length c) :: B ∧ UpG w L w' ([rowT (tyI .u8) (.slice a o.length c) 5 o] :: R) ∧ (i ≤ s.size) ∧ (o = hexI s i) ∧ m = s.size - i) (s.size - 0) ⟨0, ([] : List Int), (some ⟨w.heap.size, 0, none⟩), 2 * s.size, rfl, H1, (by first | assumption | omega | simp), (by rfl), rfl⟩ rfl ?_)))))))))))
 rintro m1 Γ1 w2 ⟨i, o, a, c, rfl, H2, hi, ho, rfl⟩
 have hl := congrArg List.length ho
 rw [hexI_len] at hl
 refine sr (oo (d_cmp _ rfl rfl rfl (dc (W.seq ?_))))
 refine W.ite rfl (fun c17 => ?_) (fun c17 => ?_)
 · refine sc (W.seq (W.block (W.seq (W.region (mv rfl (ag rfl (dc ?_)))))))
   have hb := bn_lt s i
   refine W.regionD mixed (by kernel_rfl) fun hok1 w3 k1 => ?_
   have H3 : UpG _ _ _ [[_]] := H2.kept k1
   refine tm hok1 0 rfl rfl (tm hok1 1 rfl rfl (tm hok1 2 rfl rfl (tq hok1 3 rfl rfl (fun _ => d_idxStrB i y9 rfl rfl rfl (by first | omega | (show _ < 16; omega)) ⟨rfl, rfl⟩) (tq hok1 4 rfl rfl (fun _ => d_shr4 (m := bn s i) rfl rfl ⟨rfl, rfl⟩) (tq hok1 5 rfl rfl (fun _ => d_idxStrB ((bn s i) / 16) y9 rfl rfl rfl (by first | omega | (show _ < 16; omega)) ⟨rfl, rfl⟩) (tm hok1 6 rfl rfl (tm hok1 7 rfl rfl (tq hok1 8 rfl rfl (fun _ => d_idxStrB i y9 rfl rfl rfl (by first | omega | (show _ < 16; omega)) ⟨rfl, rfl⟩) (tq hok1 9 rfl rfl (fun _ => d_and15 (m := bn s i) (by omega) rfl rfl ⟨rfl, rfl⟩) (tq hok1 10 rfl rfl (fun _ => d_idxStrB ((bn s i) % 16) y9 rfl rfl rfl (by first | omega | (show _ < 16; omega)) ⟨rfl, rfl⟩) (wo hok1 11 (lo [_] rfl rfl (t_buildSlice (T := (tyI .u8)) (xs := [((bn ⟨#[48, 49, 50, 51, 52, 53, 54, 55, 56, 57, 97, 98, 99, 100, 101, 102]⟩ ((bn s i) / 16) : Nat) : Int), ((bn ⟨#[48, 49, 50, 51, 52, 53, 54, 55, 56, 57, 97, 98, 99, 100, 101, 102]⟩ ((bn s i) % 16) : Nat) : Int)]) (cs := #[.int .u8 ((bn ⟨#[48, 49, 50, 51, 52, 53, 54, 55, 56, 57, 97, 98, 99, 100, 101, 102]⟩ ((bn s i) / 16) : Nat) : Int), .int .u8 ((bn ⟨#[48, 49, 50, 51, 52, 53, 54, 55, 56, 57, 97, 98, 99, 100, 101, 102]⟩ ((bn s i) % 16) : Nat) : Int)]) rfl y69 sz5 rfl rfl rfl rfl (by kernel_rfl) rfl rfl fun w4 u2 => ?_)))))))))))))
   have H4 : UpG _ _ _ [[_], [_]] := H3.new' u2
   refine ⟨⟨trivial, trivial⟩, (wo hok1 12 (lo [] rfl rfl (t_append (T := (tyI .u8)) (xs := o) (ys := [((bn ⟨#[48, 49, 50, 51, 52, 53, 54, 55, 56, 57, 97, 98, 99, 100, 101, 102]⟩ ((bn s i) / 16) : Nat) : Int), ((bn ⟨#[48, 49, 50, 51, 52, 53, 54, 55, 56, 57, 97, 98, 99, 100, 101, 102]⟩ ((bn s i) % 16) : Nat) : Int)]) rfl y69 sz5 rfl rfl rfl (H4.ownT 0 rfl) (H4.rdT 1 rfl) (by simp; omega) (by simp; omega) fun a1 c1 w5 u3 => ?_)))⟩
   have H5 : UpG _ _ _ [[_], []] := (H4.on 0 rfl u3).drop 1
   refine ⟨trivial, (tq hok1 13 rfl rfl (fun _ => d_assign rfl ⟨rfl, rfl⟩) (WD.done hok1 rfl (X.block_normal (X.then_code (W.region (oo (d_add rfl rfl (by omega) (by omega) (mv rfl (WL.done ?_)))))))))⟩
   exact X.nx [11, 3, 10, 2, 0] (s.size - (i + 1)) (by omega) ⟨i + 1, o ++ [((bn ⟨#[48, 49, 50, 51, 52, 53, 54, 55, 56, 57, 97, 98, 99, 100, 101, 102]⟩ ((bn s i) / 16) : Nat) : Int), ((bn ⟨#[48, 49, 50, 51, 52, 53, 54, 55, 56, 57, 97, 98, 99, 100, 101, 102]⟩ ((bn s i) % 16) : Nat) : Int)], a1, c1, rfl, (H5.re rfl), (by first | assumption | omega | simp), (by rw [ho, hexI]), rfl⟩ rfl
 · refine W.exit (X.then_exit (X.then_exit (X.block_exit (X.then_code (W.seq (W.region (mv rfl (oo (d_bytesStr y69 y5 y9 rfl (H2.rdT 0 rfl) (ag rfl (dc (W.ret (X.ret1 rfl rfl ?_)))))))))))))
   have e : o = hexI s s.size := by rw [ho, show i = s.size by omega]
   exact ⟨(by rw [e]), H2.noneL⟩

set_option maxRecDepth 20000 in
theorem rhex_any (s : ByteArray) (w : World) (hs : s.size ≤ 1000000) :
   Calls Tryd.prog 31 #[.string s] w (Ret fun v w' => v = .string (hexT s s.size) ∧ Upd w [] w' []) := by
 refine calls_of_W (args := [.string s]) Tryd.func31 rfl rfl rfl ?_
 have H0 : UpG w [] w [] := UpG.nil w
 show W _ _ _ _ [(0, _)] w
 refine sr (ag rfl (dc (W.seq (W.region (ag rfl (dc (W.seq (W.region (ag rfl (dc (W.seq (W.seq (W.region (ag rfl (dc (W.block (W.lp (B := [(3, _), (2, _), (0, _)]) [5, 4, 3, 2, 0] (fun B R L m Γ' w' => ∃ i : Nat, ∃ o : ByteArray, Γ' = (5, .int .i64 ((i : Nat) : Int)) :: (4, .string o) :: B ∧ UpG w L w' (R) ∧ (i ≤ s.size) ∧ (o = hexT s i) ∧ m = s.size - i) (s.size - 0) ⟨0, ⟨#[]⟩, rfl, H0, (by first | assumption | omega | simp), (by rfl), rfl⟩ rfl ?_)))))))))))))))))
 rintro m1 Γ1 w1 ⟨i, o, rfl, H1, hi, ho, rfl⟩
 have hl := congrArg ByteArray.size ho
 rw [hexT_size] at hl
 refine W.seq (W.seq (W.region (mv rfl (mv rfl (oo (d_lenStr y9 rfl (oo (d_cmp _ rfl rfl rfl (dc ?_)))))))))
 refine W.ite rfl (fun c49 => ?_) (fun c49 => ?_)
 · refine sc (W.seq (W.block (W.seq ?_)))
   have hb := bn_lt s i
   refine W.regionD mixed (by kernel_rfl) fun hok1 w2 k1 => ?_
   have H2 : UpG _ _ _ [] := H1.kept k1
   refine tm hok1 0 rfl rfl (tm hok1 1 rfl rfl (tq hok1 2 rfl rfl (fun _ => d_idxStrB i y9 rfl rfl rfl (by omega) ⟨rfl, rfl⟩) (tq hok1 3 rfl rfl (fun _ => d_quo8 (m := bn s i) (n := 16) (by omega) (by decide) rfl rfl ⟨rfl, rfl⟩) (tm hok1 4 rfl rfl (tm hok1 5 rfl rfl (tq hok1 6 rfl rfl (fun _ => d_idxStrB i y9 rfl rfl rfl (by omega) ⟨rfl, rfl⟩) (tq hok1 7 rfl rfl (fun _ => d_remN rfl rfl (by omega) (by omega) ⟨rfl, rfl⟩) (tq hok1 8 rfl rfl (fun _ => d_assign rfl ⟨rfl, rfl⟩) (tq hok1 9 rfl rfl (fun _ => d_assign rfl ⟨rfl, rfl⟩) (WD.done hok1 rfl (X.then_code (W.regionD mixed (by kernel_rfl) fun hok2 w3 k2 => ?_))))))))))))
   have H3 : UpG _ _ _ [] := H2.kept k2
   refine tm hok2 0 rfl rfl (tm hok2 1 rfl rfl (tm hok2 2 rfl rfl (tm hok2 3 rfl rfl (tq hok2 4 rfl rfl (fun _ => d_add8 (m := (bn s i) / 16) (n := 1) (by first | omega | (show _ ≤ 16; omega)) rfl rfl ⟨rfl, rfl⟩) (tq hok2 5 rfl rfl (fun _ => d_substrN (((bn s i) / 16 : Nat) : Int) ((((bn s i) / 16) + 1 : Nat) : Int) ((bn s i) / 16) (((bn s i) / 16) + 1) y9 rfl rfl rfl (.inr ⟨_, rfl⟩) (.inr ⟨_, rfl⟩) (by omega) (by omega) ⟨by first | omega | (show _ ≤ 16; omega), by first | omega | (show _ ≤ 16; omega), by first | omega | (show _ ≤ 16; omega)⟩ ⟨rfl, rfl⟩) (tq hok2 6 rfl rfl (fun _ => d_concat rfl rfl (by simp; omega) ⟨rfl, rfl⟩) (tm hok2 7 rfl rfl (tm hok2 8 rfl rfl (tm hok2 9 rfl rfl (tq hok2 10 rfl rfl (fun _ => d_add8 (m := (bn s i) % 16) (n := 1) (by first | omega | (show _ ≤ 16; omega)) rfl rfl ⟨rfl, rfl⟩) (tq hok2 11 rfl rfl (fun _ => d_substrN (((bn s i : Nat) : Int) % 16) ((((bn s i) % 16) + 1 : Nat) : Int) ((bn s i) % 16) (((bn s i) % 16) + 1) y9 rfl rfl rfl (.inr ⟨_, rfl⟩) (.inr ⟨_, rfl⟩) (by omega) (by omega) ⟨by first | omega | (show _ ≤ 16; omega), by first | omega | (show _ ≤ 16; omega), by first | omega | (show _ ≤ 16; omega)⟩ ⟨rfl, rfl⟩) (tq hok2 12 rfl rfl (fun _ => d_concat rfl rfl (by simp; omega) ⟨rfl, rfl⟩) (tq hok2 13 rfl rfl (fun _ => d_assign rfl ⟨rfl, rfl⟩) (WD.done hok2 rfl (X.block_normal (X.then_code (W.pick [4, 5, 3, 2, 0] (Γ' := [(4, _), (5, _), (3, _), (2, _), (0, _)]) rfl (W.region (mv rfl (oo (d_add rfl rfl (by omega) (by omega) (ag rfl (WL.done ?_)))))))))))))))))))))))
   exact X.nx [5, 4, 3, 2, 0] (s.size - (i + 1)) (by omega) ⟨i + 1, (o ++ ((⟨#[48, 49, 50, 51, 52, 53, 54, 55, 56, 57, 97, 98, 99, 100, 101, 102]⟩ : ByteArray).extract ((bn s i) / 16) (((bn s i) / 16) + 1))) ++ ((⟨#[48, 49, 50, 51, 52, 53, 54, 55, 56, 57, 97, 98, 99, 100, 101, 102]⟩ : ByteArray).extract ((bn s i) % 16) (((bn s i) % 16) + 1)), rfl, H3, (by first | assumption | omega | simp), (by rw [ho, hexT]), rfl⟩ rfl
 · refine W.exit (X.then_exit (X.then_exit (X.block_exit (X.then_code (W.seq (W.region (mv rfl (ag rfl (dc (W.ret (X.ret1 rfl rfl ?_)))))))))))
   have e : o = hexT s s.size := by rw [ho, show i = s.size by omega]
   exact ⟨(by rw [e]), H1.noneL⟩
end Go.Proofs.YtnjjjmpdikpjaabDoor


/-
  DERIVED: THE SHELF's CONTRACTS AT THIS DUMP, IN PLAIN WORDS (tools/lay-plain.mjs out of 'TrydShelf.lean', which tools/lay-shelf.mjs wrote): THE SAME DECLARATIONS UNDER THE SAME NAMES: 'import', 'namespace', 'open', 'def', 'theorem' AND NOTHING ELSE: no command of the shelf's: FOR A HAND-IN. Each laying: the table of numbers ('.._ren') and one theorem, a field a fact of the dump's own or the kernel's comparison; each contract: ONE APPLICATION.
-/
namespace Go.Proofs
open Go.Shelf
def Tryd.lays169_ren : Go.Shelf.Ren := ⟨fun | 169 => 34 | n => n, fun | 70 => 68 | 9 => 9 | 0 => 0 | 72 => 71 | 37 => 69 | 127 => 94 | 3 => 3 | 5 => 5 | n => n, fun | n => n⟩
theorem Tryd.lays169 : Go.Proofs.Lays.n169 Tryd.prog Tryd.lays169_ren := {
  mixed := by kernel_rfl
  f169 := Tryd.func34.trans (congrArg some (by kernel_rfl))
  t0 := Tryd.underlying0
  a0 := Tryd.isAgg0
  z0 := Tryd.sizeOf0
  v0 := Tryd.zeroValue0
  t3 := Tryd.underlying3
  a3 := Tryd.isAgg3
  z3 := Tryd.sizeOf3
  v3 := Tryd.zeroValue3
  t9 := Tryd.underlying9
  a9 := Tryd.isAgg9
  z9 := Tryd.sizeOf9
  v9 := Tryd.zeroValue9
  t37 := Tryd.underlying69
  a37 := Tryd.isAgg69
  z37 := Tryd.sizeOf69
  v37 := Tryd.zeroValue69
  t70 := Tryd.underlying68
  a70 := Tryd.isAgg68
  z70 := Tryd.sizeOf68
  v70 := Tryd.zeroValue68
  t72 := Tryd.underlying71
  a72 := Tryd.isAgg71
  z72 := Tryd.sizeOf71
  v72 := Tryd.zeroValue71
  t127 := Tryd.underlying94
  a127 := Tryd.isAgg94
  z127 := Tryd.sizeOf94
  v127 := Tryd.zeroValue94 }
theorem Tryd.Builder_Extra_169 : Builder.Extra Tryd.prog Tryd.lays169_ren := {
  sizeBuilder := by kernel_rfl
  liesBuilder := by kernel_rfl
  t5 := Tryd.underlying5
  a5 := Tryd.isAgg5
  z5 := Tryd.sizeOf5
  v5 := Tryd.zeroValue5
  infoByte := by kernel_rfl
  cellsByte := by kernel_rfl
  sizeByte := by kernel_rfl
  neB5 := by decide }
open Go.RowKit in
/-- (*strings.Builder).String: "String returns the accumulated string.": WHATEVER THE BUILDER HOLDS. (LAID: no walk: one application.) -/
theorem Tryd.Builder_String_any (B b : Nat) (l : List UInt8) (w : World) (h : Lib.IsBuilder 71 5 B b (Lib.byteCells l) w) (hBw : B ≤ w.heap.size) :
    Calls Tryd.prog 34 #[.pointer (some ⟨b, 0, none⟩)] w fun e w' => e = .returned (.string ⟨l.toArray⟩) ∧ Below B w w' := Any.Builder_String_any Tryd.lays169 Tryd.Builder_Extra_169 B b l w h hBw
def Tryd.lays156_ren : Go.Shelf.Ren := ⟨fun | 156 => 28 | 165 => 43 | 166 => 32 | 169 => 34 | 240 => 45 | 241 => 54 | 276 => 55 | 277 => 70 | n => n, fun | 31 => 48 | 9 => 9 | 3 => 3 | 4 => 4 | 0 => 0 | 20 => 20 | 72 => 71 | 76 => 74 | 70 => 68 | 37 => 69 | 75 => 73 | 127 => 94 | 164 => 100 | 5 => 5 | 80 => 77 | n => n, fun | n => n⟩
theorem Tryd.lays156 : Go.Proofs.Lays.n156 Tryd.prog Tryd.lays156_ren := {
  mixed := by kernel_rfl
  f156 := Tryd.func28.trans (congrArg some (by kernel_rfl))
  f165 := Tryd.func43.trans (congrArg some (by kernel_rfl))
  f166 := Tryd.func32.trans (congrArg some (by kernel_rfl))
  f169 := Tryd.func34.trans (congrArg some (by kernel_rfl))
  f240 := Tryd.func45.trans (congrArg some (by kernel_rfl))
  f241 := Tryd.func54.trans (congrArg some (by kernel_rfl))
  f276 := Tryd.func55.trans (congrArg some (by kernel_rfl))
  f277 := Tryd.func70.trans (congrArg some (by kernel_rfl))
  t0 := Tryd.underlying0
  a0 := Tryd.isAgg0
  z0 := Tryd.sizeOf0
  v0 := Tryd.zeroValue0
  t3 := Tryd.underlying3
  a3 := Tryd.isAgg3
  z3 := Tryd.sizeOf3
  v3 := Tryd.zeroValue3
  t4 := Tryd.underlying4
  a4 := Tryd.isAgg4
  z4 := Tryd.sizeOf4
  v4 := Tryd.zeroValue4
  t9 := Tryd.underlying9
  a9 := Tryd.isAgg9
  z9 := Tryd.sizeOf9
  v9 := Tryd.zeroValue9
  t20 := Tryd.underlying20
  a20 := Tryd.isAgg20
  z20 := Tryd.sizeOf20
  v20 := Tryd.zeroValue20
  t31 := Tryd.underlying48
  a31 := Tryd.isAgg48
  z31 := Tryd.sizeOf48
  v31 := Tryd.zeroValue48
  t37 := Tryd.underlying69
  a37 := Tryd.isAgg69
  z37 := Tryd.sizeOf69
  v37 := Tryd.zeroValue69
  t70 := Tryd.underlying68
  a70 := Tryd.isAgg68
  z70 := Tryd.sizeOf68
  v70 := Tryd.zeroValue68
  t72 := Tryd.underlying71
  a72 := Tryd.isAgg71
  z72 := Tryd.sizeOf71
  v72 := Tryd.zeroValue71
  t75 := Tryd.underlying73
  a75 := Tryd.isAgg73
  z75 := Tryd.sizeOf73
  v75 := Tryd.zeroValue73
  t76 := Tryd.underlying74
  a76 := Tryd.isAgg74
  z76 := Tryd.sizeOf74
  v76 := Tryd.zeroValue74
  t127 := Tryd.underlying94
  a127 := Tryd.isAgg94
  z127 := Tryd.sizeOf94
  v127 := Tryd.zeroValue94
  t164 := Tryd.underlying100
  a164 := Tryd.isAgg100
  z164 := Tryd.sizeOf100
  v164 := Tryd.zeroValue100 }
theorem Tryd.Builder_Extra_156 : Builder.Extra Tryd.prog Tryd.lays156_ren := {
  sizeBuilder := by kernel_rfl
  liesBuilder := by kernel_rfl
  t5 := Tryd.underlying5
  a5 := Tryd.isAgg5
  z5 := Tryd.sizeOf5
  v5 := Tryd.zeroValue5
  infoByte := by kernel_rfl
  cellsByte := by kernel_rfl
  sizeByte := by kernel_rfl
  neB5 := by decide }
open Go.RowKit in
/-- strings.Join: "Join concatenates the elements of its first argument to create a single string. The separator string sep is placed between elements in the resulting string.": HOWEVER MANY ELEMENTS. Below the heap's end the world is as it was. (LAID: no walk: one application.) -/
theorem Tryd.strings_Join (bk o c : Nat) (xs : List ByteArray) (sep : ByteArray) (w : World) (hcells : ∀ (j : Nat) x, xs[j]? = some x → w.cell? ⟨bk, o + j, none⟩ = some (.string x)) (hbk : bk < w.heap.size) (hN : xs.length ≤ 140737488355328) (hcap : xs.length ≤ c) (hlen : (Lib.join (xs.map (·.data.toList)) sep.data.toList).length ≤ 140737488355328) :
    Calls Tryd.prog 28 #[.slice (some ⟨bk, o, none⟩) xs.length c, .string sep] w fun e w' => e = .returned (.string ⟨(Lib.join (xs.map (·.data.toList)) sep.data.toList).toArray⟩) ∧ Below w.heap.size w w' := Any.strings_Join Tryd.lays156 Tryd.Builder_Extra_156 bk o c xs sep w hcells hbk hN hcap hlen
def Tryd.lays137_ren : Go.Shelf.Ren := ⟨fun | 137 => 50 | 217 => 60 | 266 => 75 | n => n, fun | 9 => 9 | 5 => 5 | 3 => 3 | n => n, fun | n => n⟩
theorem Tryd.lays137 : Go.Proofs.Lays.n137 Tryd.prog Tryd.lays137_ren := {
  mixed := by kernel_rfl
  f137 := Tryd.func50.trans (congrArg some (by kernel_rfl))
  f217 := Tryd.func60.trans (congrArg some (by kernel_rfl))
  f266 := Tryd.func75.trans (congrArg some (by kernel_rfl))
  t3 := Tryd.underlying3
  a3 := Tryd.isAgg3
  z3 := Tryd.sizeOf3
  v3 := Tryd.zeroValue3
  t5 := Tryd.underlying5
  a5 := Tryd.isAgg5
  z5 := Tryd.sizeOf5
  v5 := Tryd.zeroValue5
  t9 := Tryd.underlying9
  a9 := Tryd.isAgg9
  z9 := Tryd.sizeOf9
  v9 := Tryd.zeroValue9 }
open Go.RowKit in
/-- strings.IndexByte: "IndexByte returns the index of the first instance of c in s, or -1 if c is not present in s.": IT RETURNS 'Lib.indexByte s c'; the world is as it was. (LAID: no walk: one application.) -/
theorem Tryd.strings_IndexByte (s : ByteArray) (c : Int) (w : World) :
    Calls Tryd.prog 50 #[.string s, .int .u8 c] w fun e w' => e = .returned (.int .i64 (Lib.indexByte s.data.toList c.toNat.toUInt8)) ∧ w' = w := Any.strings_IndexByte Tryd.lays137 s c w
def Tryd.laysM171_ren : Go.Shelf.Ren := ⟨fun | 171 => 26 | 243 => 42 | 246 => 53 | 283 => 66 | 284 => 67 | 285 => 68 | 286 => 69 | 129 => 80 | 317 => 79 | 318 => 81 | 319 => 82 | 320 => 83 | 337 => 87 | 338 => 88 | n => n, fun | 3 => 3 | 9 => 9 | 2 => 2 | 4 => 4 | 171 => 110 | 0 => 0 | 53 => 111 | 37 => 69 | 5 => 5 | 173 => 114 | 212 => 124 | 51 => 125 | 20 => 20 | 213 => 126 | 46 => 89 | 232 => 140 | 233 => 141 | n => n, fun | 17 => 3 | 18 => 6 | 19 => 7 | n => n⟩
theorem Tryd.laysM171 : Go.Proofs.LaysM.n171 Tryd.prog Tryd.laysM171_ren := {
  mixed := by kernel_rfl
  f129 := Tryd.func80.trans (congrArg some (by kernel_rfl))
  f171 := Tryd.func26.trans (congrArg some (by kernel_rfl))
  f243 := Tryd.func42.trans (congrArg some (by kernel_rfl))
  f246 := Tryd.func53.trans (congrArg some (by kernel_rfl))
  f283 := Tryd.func66.trans (congrArg some (by kernel_rfl))
  f284 := Tryd.func67.trans (congrArg some (by kernel_rfl))
  f285 := Tryd.func68.trans (congrArg some (by kernel_rfl))
  f286 := Tryd.func69.trans (congrArg some (by kernel_rfl))
  f317 := Tryd.func79.trans (congrArg some (by kernel_rfl))
  f318 := Tryd.func81.trans (congrArg some (by kernel_rfl))
  f319 := Tryd.func82.trans (congrArg some (by kernel_rfl))
  f320 := Tryd.func83.trans (congrArg some (by kernel_rfl))
  f337 := Tryd.func87.trans (congrArg some (by kernel_rfl))
  f338 := Tryd.func88.trans (congrArg some (by kernel_rfl))
  t0 := Tryd.underlying0
  a0 := Tryd.isAgg0
  z0 := Tryd.sizeOf0
  v0 := Tryd.zeroValue0
  t2 := Tryd.underlying2
  a2 := Tryd.isAgg2
  z2 := Tryd.sizeOf2
  v2 := Tryd.zeroValue2
  t3 := Tryd.underlying3
  a3 := Tryd.isAgg3
  z3 := Tryd.sizeOf3
  v3 := Tryd.zeroValue3
  t4 := Tryd.underlying4
  a4 := Tryd.isAgg4
  z4 := Tryd.sizeOf4
  v4 := Tryd.zeroValue4
  t5 := Tryd.underlying5
  a5 := Tryd.isAgg5
  z5 := Tryd.sizeOf5
  v5 := Tryd.zeroValue5
  t9 := Tryd.underlying9
  a9 := Tryd.isAgg9
  z9 := Tryd.sizeOf9
  v9 := Tryd.zeroValue9
  t20 := Tryd.underlying20
  a20 := Tryd.isAgg20
  z20 := Tryd.sizeOf20
  v20 := Tryd.zeroValue20
  t37 := Tryd.underlying69
  a37 := Tryd.isAgg69
  z37 := Tryd.sizeOf69
  v37 := Tryd.zeroValue69
  t46 := Tryd.underlying89
  a46 := Tryd.isAgg89
  z46 := Tryd.sizeOf89
  v46 := Tryd.zeroValue89
  t51 := Tryd.underlying125
  a51 := Tryd.isAgg125
  z51 := Tryd.sizeOf125
  v51 := Tryd.zeroValue125
  t53 := Tryd.underlying111
  a53 := Tryd.isAgg111
  z53 := Tryd.sizeOf111
  v53 := Tryd.zeroValue111
  t171 := Tryd.underlying110
  a171 := Tryd.isAgg110
  z171 := Tryd.sizeOf110
  v171 := Tryd.zeroValue110
  t173 := Tryd.underlying114
  a173 := Tryd.isAgg114
  z173 := Tryd.sizeOf114
  v173 := Tryd.zeroValue114
  t212 := Tryd.underlying124
  a212 := Tryd.isAgg124
  z212 := Tryd.sizeOf124
  v212 := Tryd.zeroValue124
  t213 := Tryd.underlying126
  a213 := Tryd.isAgg126
  z213 := Tryd.sizeOf126
  t232 := Tryd.underlying140
  a232 := Tryd.isAgg140
  z232 := Tryd.sizeOf140
  v232 := Tryd.zeroValue140
  t233 := Tryd.underlying141
  a233 := Tryd.isAgg141
  z233 := Tryd.sizeOf141
  v233 := Tryd.zeroValue141
  g17 := by kernel_rfl
  g18 := by kernel_rfl
  g19 := by kernel_rfl
  i0 := by kernel_rfl
  i2 := by kernel_rfl
  i3 := by kernel_rfl
  i4 := by kernel_rfl
  i5 := by kernel_rfl
  i9 := by kernel_rfl
  i20 := by kernel_rfl
  i37 := by kernel_rfl
  i46 := by kernel_rfl
  i51 := by kernel_rfl
  i53 := by kernel_rfl
  i171 := by kernel_rfl
  i173 := by kernel_rfl
  i212 := by kernel_rfl
  i232 := by kernel_rfl
  i233 := by kernel_rfl
  m17 := by kernel_rfl
  m18 := by kernel_rfl
  m19 := by kernel_rfl }
open Go.RowKit Go.Sort Go.Lib in
/-- strconv.Itoa: "Itoa is equivalent to FormatInt(int64(i), 10).": i's DECIMAL NUMERAL ('Lib.itoa': a '-' where i is negative, then the digits), FOR EVERY int. The world behind the call: the world before it, new blocks behind the heap (the library's 'var a [24]byte'), draws. (LAID: no walk: one application.) -/
theorem Tryd.strconv_Itoa (n : Int) (h0 : -9223372036854775808 ≤ n) (h1 : n ≤ 9223372036854775807) (w : World) (htab : Lib.TabIs Tryd.prog w "internal/strconv.uint64pow10" .u64 Lib.pow10Tab) :
    Calls Tryd.prog 26 #[.int .i64 n] w fun e w' => e = .returned (.string ⟨(Lib.itoa n).toArray⟩) ∧ ∃ k os, w' = grow (w.drewN k) os := Any.strconv_Itoa Tryd.laysM171 n h0 h1 w htab
def Tryd.laysC172_ren : Go.Shelf.Ren := ⟨fun | 172 => 39 | 244 => 51 | 245 => 52 | 247 => 61 | 279 => 62 | 280 => 63 | 281 => 64 | 282 => 65 | 287 => 76 | 316 => 77 | 171 => 26 | 205 => 78 | 321 => 85 | 322 => 86 | 243 => 42 | 246 => 53 | 283 => 66 | 284 => 67 | 285 => 68 | 286 => 69 | 129 => 80 | 317 => 79 | 318 => 81 | 319 => 82 | 320 => 83 | 337 => 87 | 338 => 88 | n => n, fun | 9 => 9 | 3 => 3 | 75 => 73 | 76 => 74 | 4 => 4 | 5 => 5 | 167 => 104 | 37 => 69 | 0 => 0 | 85 => 105 | 2 => 2 | 168 => 107 | 53 => 111 | 175 => 118 | 46 => 89 | 210 => 121 | 127 => 94 | 145 => 138 | 143 => 136 | 21 => 21 | 171 => 110 | 173 => 114 | 212 => 124 | 51 => 125 | 20 => 20 | 213 => 126 | 232 => 140 | 233 => 141 | 80 => 77 | n => n, fun | 15 => 1 | 16 => 2 | 17 => 3 | 18 => 6 | 19 => 7 | n => n⟩
theorem Tryd.laysC172 : Go.Proofs.LaysC.n172 Tryd.prog Tryd.laysC172_ren := {
  mixed := by kernel_rfl
  f129 := Tryd.func80.trans (congrArg some (by kernel_rfl))
  f171 := Tryd.func26.trans (congrArg some (by kernel_rfl))
  f172 := Tryd.func39.trans (congrArg some (by kernel_rfl))
  f205 := Tryd.func78.trans (congrArg some (by kernel_rfl))
  f243 := Tryd.func42.trans (congrArg some (by kernel_rfl))
  f244 := Tryd.func51.trans (congrArg some (by kernel_rfl))
  f245 := Tryd.func52.trans (congrArg some (by kernel_rfl))
  f246 := Tryd.func53.trans (congrArg some (by kernel_rfl))
  f247 := Tryd.func61.trans (congrArg some (by kernel_rfl))
  f279 := Tryd.func62.trans (congrArg some (by kernel_rfl))
  f280 := Tryd.func63.trans (congrArg some (by kernel_rfl))
  f281 := Tryd.func64.trans (congrArg some (by kernel_rfl))
  f282 := Tryd.func65.trans (congrArg some (by kernel_rfl))
  f283 := Tryd.func66.trans (congrArg some (by kernel_rfl))
  f284 := Tryd.func67.trans (congrArg some (by kernel_rfl))
  f285 := Tryd.func68.trans (congrArg some (by kernel_rfl))
  f286 := Tryd.func69.trans (congrArg some (by kernel_rfl))
  f287 := Tryd.func76.trans (congrArg some (by kernel_rfl))
  f316 := Tryd.func77.trans (congrArg some (by kernel_rfl))
  f317 := Tryd.func79.trans (congrArg some (by kernel_rfl))
  f318 := Tryd.func81.trans (congrArg some (by kernel_rfl))
  f319 := Tryd.func82.trans (congrArg some (by kernel_rfl))
  f320 := Tryd.func83.trans (congrArg some (by kernel_rfl))
  f321 := Tryd.func85.trans (congrArg some (by kernel_rfl))
  f322 := Tryd.func86.trans (congrArg some (by kernel_rfl))
  f337 := Tryd.func87.trans (congrArg some (by kernel_rfl))
  f338 := Tryd.func88.trans (congrArg some (by kernel_rfl))
  t0 := Tryd.underlying0
  a0 := Tryd.isAgg0
  z0 := Tryd.sizeOf0
  v0 := Tryd.zeroValue0
  t2 := Tryd.underlying2
  a2 := Tryd.isAgg2
  z2 := Tryd.sizeOf2
  v2 := Tryd.zeroValue2
  t3 := Tryd.underlying3
  a3 := Tryd.isAgg3
  z3 := Tryd.sizeOf3
  v3 := Tryd.zeroValue3
  t4 := Tryd.underlying4
  a4 := Tryd.isAgg4
  z4 := Tryd.sizeOf4
  v4 := Tryd.zeroValue4
  t5 := Tryd.underlying5
  a5 := Tryd.isAgg5
  z5 := Tryd.sizeOf5
  v5 := Tryd.zeroValue5
  t9 := Tryd.underlying9
  a9 := Tryd.isAgg9
  z9 := Tryd.sizeOf9
  v9 := Tryd.zeroValue9
  t20 := Tryd.underlying20
  a20 := Tryd.isAgg20
  z20 := Tryd.sizeOf20
  v20 := Tryd.zeroValue20
  t21 := Tryd.underlying21
  a21 := Tryd.isAgg21
  z21 := Tryd.sizeOf21
  v21 := Tryd.zeroValue21
  t37 := Tryd.underlying69
  a37 := Tryd.isAgg69
  z37 := Tryd.sizeOf69
  v37 := Tryd.zeroValue69
  t46 := Tryd.underlying89
  a46 := Tryd.isAgg89
  z46 := Tryd.sizeOf89
  v46 := Tryd.zeroValue89
  t51 := Tryd.underlying125
  a51 := Tryd.isAgg125
  z51 := Tryd.sizeOf125
  v51 := Tryd.zeroValue125
  t53 := Tryd.underlying111
  a53 := Tryd.isAgg111
  z53 := Tryd.sizeOf111
  v53 := Tryd.zeroValue111
  t75 := Tryd.underlying73
  a75 := Tryd.isAgg73
  z75 := Tryd.sizeOf73
  v75 := Tryd.zeroValue73
  t76 := Tryd.underlying74
  a76 := Tryd.isAgg74
  z76 := Tryd.sizeOf74
  v76 := Tryd.zeroValue74
  t85 := Tryd.underlying105
  a85 := Tryd.isAgg105
  z85 := Tryd.sizeOf105
  v85 := Tryd.zeroValue105
  t127 := Tryd.underlying94
  a127 := Tryd.isAgg94
  z127 := Tryd.sizeOf94
  v127 := Tryd.zeroValue94
  t143 := Tryd.underlying136
  a143 := Tryd.isAgg136
  z143 := Tryd.sizeOf136
  v143 := Tryd.zeroValue136
  t145 := Tryd.underlying138
  a145 := Tryd.isAgg138
  z145 := Tryd.sizeOf138
  v145 := Tryd.zeroValue138
  t167 := Tryd.underlying104
  a167 := Tryd.isAgg104
  z167 := Tryd.sizeOf104
  v167 := Tryd.zeroValue104
  t168 := Tryd.underlying107
  a168 := Tryd.isAgg107
  z168 := Tryd.sizeOf107
  v168 := Tryd.zeroValue107
  t171 := Tryd.underlying110
  a171 := Tryd.isAgg110
  z171 := Tryd.sizeOf110
  v171 := Tryd.zeroValue110
  t173 := Tryd.underlying114
  a173 := Tryd.isAgg114
  z173 := Tryd.sizeOf114
  v173 := Tryd.zeroValue114
  t175 := Tryd.underlying118
  a175 := Tryd.isAgg118
  z175 := Tryd.sizeOf118
  v175 := Tryd.zeroValue118
  t210 := Tryd.underlying121
  a210 := Tryd.isAgg121
  z210 := Tryd.sizeOf121
  v210 := Tryd.zeroValue121
  t212 := Tryd.underlying124
  a212 := Tryd.isAgg124
  z212 := Tryd.sizeOf124
  v212 := Tryd.zeroValue124
  t213 := Tryd.underlying126
  a213 := Tryd.isAgg126
  z213 := Tryd.sizeOf126
  t232 := Tryd.underlying140
  a232 := Tryd.isAgg140
  z232 := Tryd.sizeOf140
  v232 := Tryd.zeroValue140
  t233 := Tryd.underlying141
  a233 := Tryd.isAgg141
  z233 := Tryd.sizeOf141
  v233 := Tryd.zeroValue141
  g15 := by kernel_rfl
  g16 := by kernel_rfl
  g17 := by kernel_rfl
  g18 := by kernel_rfl
  g19 := by kernel_rfl
  t80 := Tryd.underlying77
  a80 := Tryd.isAgg77
  z80 := Tryd.sizeOf77
  v80 := Tryd.zeroValue77
  i0 := by kernel_rfl
  i2 := by kernel_rfl
  i3 := by kernel_rfl
  i4 := by kernel_rfl
  i5 := by kernel_rfl
  i9 := by kernel_rfl
  i20 := by kernel_rfl
  i21 := by kernel_rfl
  i37 := by kernel_rfl
  i46 := by kernel_rfl
  i51 := by kernel_rfl
  i53 := by kernel_rfl
  i75 := by kernel_rfl
  i76 := by kernel_rfl
  i80 := by kernel_rfl
  i85 := by kernel_rfl
  i127 := by kernel_rfl
  i143 := by kernel_rfl
  i145 := by kernel_rfl
  i167 := by kernel_rfl
  i168 := by kernel_rfl
  i171 := by kernel_rfl
  i173 := by kernel_rfl
  i175 := by kernel_rfl
  i210 := by kernel_rfl
  i212 := by kernel_rfl
  i232 := by kernel_rfl
  i233 := by kernel_rfl
  m15 := by kernel_rfl
  m16 := by kernel_rfl
  m17 := by kernel_rfl
  m18 := by kernel_rfl
  m19 := by kernel_rfl
  c0 := by kernel_rfl
  c2 := by kernel_rfl
  c3 := by kernel_rfl
  c4 := by kernel_rfl
  c5 := by kernel_rfl
  c9 := by kernel_rfl
  c20 := by kernel_rfl
  c21 := by kernel_rfl
  c37 := by kernel_rfl
  c46 := by kernel_rfl
  c51 := by kernel_rfl
  c53 := by kernel_rfl
  c75 := by kernel_rfl
  c76 := by kernel_rfl
  c80 := by kernel_rfl
  c85 := by kernel_rfl
  c127 := by kernel_rfl
  c143 := by kernel_rfl
  c145 := by kernel_rfl
  c167 := by kernel_rfl
  c168 := by kernel_rfl
  c171 := by kernel_rfl
  c173 := by kernel_rfl
  c175 := by kernel_rfl
  c210 := by kernel_rfl
  c212 := by kernel_rfl
  c213 := by kernel_rfl
  c232 := by kernel_rfl
  c233 := by kernel_rfl }
open Go.RowKit in
/-- strconv.Atoi, AT EVERY STRING THAT SPELLS AN int ('Lib.atoiAll .. = .ok v'; of whatever length: leading zeros count): v, AND NO ERROR. The world: as it was, or with the one new row that '[]byte(..)' lays. (LAID: no walk: one application.) -/
theorem Tryd.strconv_Atoi_ok (s : ByteArray) (hmax : s.size ≤ 9223372036854775806) (v : Int) (h : Lib.atoiAll s.data.toList = .ok v) (w : World) :
    Calls Tryd.prog 39 #[.string s] w fun e w' => e = .returned (.tuple #[.int .i64 v, .nilIface]) ∧ (w' = w ∨ ∃ t, w' = Lib.bytesWorld w 5 t) := Any.strconv_Atoi_ok Tryd.laysC172 s hmax v h w
open Go.RowKit in
/-- strconv.Atoi, AT EVERY NUMERAL THAT NO int HOLDS ('.range'): THE GREATEST OR THE LEAST int, BY THE SIGN ('Lib.atoiSat'), AND AN ERROR THAT IS NOT nil: a *NumError in a new block N: {Func: "Atoi", Num: s's bytes, Err: what the variable ErrRange holds}. Of what was there nothing has turned. (LAID: no walk: one application.) -/
theorem Tryd.strconv_Atoi_range (s : ByteArray) (hlim : s.size ≤ 281474976710656) (h : Lib.atoiAll s.data.toList = .range) (ev : Value) (w : World) (hv : w.cell? ⟨2, 0, none⟩ = some ev) (hev : ev = .nilIface ∨ ∃ te pe, ev = .iface te pe) :
    Calls Tryd.prog 39 #[.string s] w fun e w' => ∃ N, e = .returned (.tuple #[.int .i64 (Lib.atoiSat s.data.toList), .iface 107 (.pointer (some ⟨N, 0, none⟩))]) ∧ w.heap.size ≤ N ∧ w'.heap[N]? = some (.cells #[.string ⟨#[65, 116, 111, 105]⟩, .string s, ev] 121 (0, 0)) ∧ Below w.heap.size w w' := Any.strconv_Atoi_range Tryd.laysC172 s hlim h ev w hv hev
def Tryd.lays99_ren : Go.Shelf.Ren := ⟨fun | 99 => 37 | 206 => 49 | n => n, fun | 9 => 9 | 4 => 4 | 3 => 3 | n => n, fun | n => n⟩
theorem Tryd.lays99 : Go.Proofs.Lays.n99 Tryd.prog Tryd.lays99_ren := {
  mixed := by kernel_rfl
  f99 := Tryd.func37.trans (congrArg some (by kernel_rfl))
  f206 := Tryd.func49.trans (congrArg some (by kernel_rfl))
  t3 := Tryd.underlying3
  a3 := Tryd.isAgg3
  z3 := Tryd.sizeOf3
  v3 := Tryd.zeroValue3
  t4 := Tryd.underlying4
  a4 := Tryd.isAgg4
  z4 := Tryd.sizeOf4
  v4 := Tryd.zeroValue4
  t9 := Tryd.underlying9
  a9 := Tryd.isAgg9
  z9 := Tryd.sizeOf9
  v9 := Tryd.zeroValue9 }
open Go.RowKit Go.Lib in
/-- strings.HasPrefix: "HasPrefix reports whether the string s begins with prefix.": IT RETURNS 'Lib.hasPrefix s prefix'; the world is as it was. (LAID: no walk: one application.) -/
theorem Tryd.strings_HasPrefix (s p : ByteArray) (w : World) :
    Calls Tryd.prog 37 #[.string s, .string p] w fun e w' => e = .returned (.bool (Lib.hasPrefix s.data.toList p.data.toList)) ∧ w' = w := Any.strings_HasPrefix Tryd.lays99 s p w
def Tryd.lays146_ren : Go.Shelf.Ren := ⟨fun | 146 => 17 | 221 => 35 | 268 => 46 | 138 => 47 | 143 => 48 | 195 => 56 | 197 => 57 | 218 => 58 | 219 => 59 | 260 => 71 | 217 => 60 | 225 => 72 | 224 => 73 | 267 => 74 | 266 => 75 | 314 => 84 | n => n, fun | 9 => 9 | 31 => 48 | 3 => 3 | 4 => 4 | 0 => 0 | 105 => 102 | 21 => 21 | 5 => 5 | 46 => 89 | 119 => 129 | 139 => 132 | 138 => 131 | 146 => 133 | 51 => 125 | n => n, fun | 1 => 0 | 3 => 4 | 4 => 5 | n => n⟩
theorem Tryd.lays146 : Go.Proofs.Lays.n146 Tryd.prog Tryd.lays146_ren := {
  mixed := by kernel_rfl
  f138 := Tryd.func47.trans (congrArg some (by kernel_rfl))
  f143 := Tryd.func48.trans (congrArg some (by kernel_rfl))
  f146 := Tryd.func17.trans (congrArg some (by kernel_rfl))
  f195 := Tryd.func56.trans (congrArg some (by kernel_rfl))
  f197 := Tryd.func57.trans (congrArg some (by kernel_rfl))
  f217 := Tryd.func60.trans (congrArg some (by kernel_rfl))
  f218 := Tryd.func58.trans (congrArg some (by kernel_rfl))
  f219 := Tryd.func59.trans (congrArg some (by kernel_rfl))
  f221 := Tryd.func35.trans (congrArg some (by kernel_rfl))
  f224 := Tryd.func73.trans (congrArg some (by kernel_rfl))
  f225 := Tryd.func72.trans (congrArg some (by kernel_rfl))
  f260 := Tryd.func71.trans (congrArg some (by kernel_rfl))
  f266 := Tryd.func75.trans (congrArg some (by kernel_rfl))
  f267 := Tryd.func74.trans (congrArg some (by kernel_rfl))
  f268 := Tryd.func46.trans (congrArg some (by kernel_rfl))
  f314 := Tryd.func84.trans (congrArg some (by kernel_rfl))
  t0 := Tryd.underlying0
  a0 := Tryd.isAgg0
  z0 := Tryd.sizeOf0
  v0 := Tryd.zeroValue0
  t3 := Tryd.underlying3
  a3 := Tryd.isAgg3
  z3 := Tryd.sizeOf3
  v3 := Tryd.zeroValue3
  t4 := Tryd.underlying4
  a4 := Tryd.isAgg4
  z4 := Tryd.sizeOf4
  v4 := Tryd.zeroValue4
  t5 := Tryd.underlying5
  a5 := Tryd.isAgg5
  z5 := Tryd.sizeOf5
  v5 := Tryd.zeroValue5
  t9 := Tryd.underlying9
  a9 := Tryd.isAgg9
  z9 := Tryd.sizeOf9
  v9 := Tryd.zeroValue9
  t21 := Tryd.underlying21
  a21 := Tryd.isAgg21
  z21 := Tryd.sizeOf21
  v21 := Tryd.zeroValue21
  t31 := Tryd.underlying48
  a31 := Tryd.isAgg48
  z31 := Tryd.sizeOf48
  v31 := Tryd.zeroValue48
  t46 := Tryd.underlying89
  a46 := Tryd.isAgg89
  z46 := Tryd.sizeOf89
  v46 := Tryd.zeroValue89
  t51 := Tryd.underlying125
  a51 := Tryd.isAgg125
  z51 := Tryd.sizeOf125
  v51 := Tryd.zeroValue125
  t105 := Tryd.underlying102
  a105 := Tryd.isAgg102
  z105 := Tryd.sizeOf102
  v105 := Tryd.zeroValue102
  t119 := Tryd.underlying129
  a119 := Tryd.isAgg129
  z119 := Tryd.sizeOf129
  t138 := Tryd.underlying131
  a138 := Tryd.isAgg131
  z138 := Tryd.sizeOf131
  v138 := Tryd.zeroValue131
  t139 := Tryd.underlying132
  a139 := Tryd.isAgg132
  z139 := Tryd.sizeOf132
  v139 := Tryd.zeroValue132
  t146 := Tryd.underlying133
  a146 := Tryd.isAgg133
  z146 := Tryd.sizeOf133
  v146 := Tryd.zeroValue133
  g1 := by kernel_rfl
  g3 := by kernel_rfl
  g4 := by kernel_rfl }
open Go.RowKit Go.Lib in
/-- strings.Split. (LAID: no walk: one application.) -/
theorem Tryd.strings_Split (s sep : ByteArray) (m : Int) (w : World) (hs : s.size < 4294967281) (hm : w.cell? ⟨0, 0, none⟩ = some (.int .i64 m)) (h1 : 1 ≤ sep.size) :
    Calls Tryd.prog 17 #[.string s, .string sep] w fun e w' =>
      e = .returned (.slice (some ⟨w.heap.size, 0, none⟩) (Lib.countB s sep + 1) (Lib.countB s sep + 1)) ∧ w' = w.alloc (.cells ((Lib.splitB sep 0 (Lib.countB s sep) s).map Value.string).toArray 9) := Any.strings_Split Tryd.lays146 (by kernel_rfl) s sep m w hs hm h1
end Go.Proofs


/- Numbers as text: the document's digits are the library's; read again they are the number. Conditions: those of each theorem. -/
namespace Go.Sx
set_option linter.unusedVariables false
set_option linter.unusedSimpArgs false
/-- A number as a text. -/
def numB (n : Int) : ByteArray := ⟨(Lib.itoa n).toArray⟩
def dgs : ByteArray := ⟨#[48, 49, 50, 51, 52, 53, 54, 55, 56, 57]⟩
theorem dgs_size : (⟨#[48, 49, 50, 51, 52, 53, 54, 55, 56, 57]⟩ : ByteArray).size = 10 := rfl
theorem minus_size : (⟨#[45]⟩ : ByteArray).size = 1 := rfl
theorem dgs_one : ∀ k : Fin 10, (dgs.extract k.val (k.val + 1)) = ⟨#[UInt8.ofNat (48 + k.val)]⟩ := by decide +kernel
theorem dgs_at {k : Nat} (h : k < 10) : dgs.extract k (k + 1) = ⟨#[UInt8.ofNat (48 + k)]⟩ := dgs_one ⟨k, h⟩
theorem dec_small {u : Nat} (h : u < 10) : Lib.decDigits u = [UInt8.ofNat (48 + u)] := by rw [Lib.decDigits, dif_pos h]
theorem dec_big {u : Nat} (h : ¬ u < 10) : Lib.decDigits u = Lib.decDigits (u / 10) ++ [UInt8.ofNat (48 + u % 10)] := by rw [Lib.decDigits, dif_neg h]
theorem ba_app (a b : List UInt8) : (⟨a.toArray⟩ : ByteArray) ++ ⟨b.toArray⟩ = ⟨(a ++ b).toArray⟩ := by
  apply ByteArray.ext
  simp
theorem numB_neg1 {n : Int} (h : n > -10) (h2 : n < 0) : numB n = ⟨#[45]⟩ ++ dgs.extract (-n).toNat (-n + 1).toNat := by
  rw [show (-n + 1).toNat = (-n).toNat + 1 by omega, dgs_at (by omega)]
  have e := ba_app [45] [UInt8.ofNat (48 + (-n).toNat)]
  have e2 : numB n = ⟨([45] ++ [UInt8.ofNat (48 + (-n).toNat)]).toArray⟩ := by
    unfold numB Lib.itoa
    rw [if_pos h2, dec_small (by omega), show n.natAbs = (-n).toNat by omega]; rfl
  rw [e2, ← e]
theorem numB_pos1 {n : Int} (h : n ≥ 0) (h2 : n < 10) : numB n = dgs.extract n.toNat (n + 1).toNat := by
  rw [show (n + 1).toNat = n.toNat + 1 by omega, dgs_at (by omega)]
  unfold numB Lib.itoa
  rw [if_neg (by omega), dec_small (by omega)]
theorem numB_step {n last : Int} (h : ¬ (n > -10 ∧ n < 0)) (h2 : ¬ (n ≥ 0 ∧ n < 10)) (hl : last = (if n.tmod 10 < 0 then -(n.tmod 10) else n.tmod 10)) :
    numB n = numB (n.tdiv 10) ++ dgs.extract last.toNat (last + 1).toNat ∧ 0 ≤ last ∧ last < 10 := by
  rcases Int.lt_or_le n 0 with hn | hn
  · obtain ⟨u, rfl⟩ : ∃ u : Nat, n = -(u : Int) := ⟨n.natAbs, by omega⟩
    have hd : (-(u : Int)).tdiv 10 = -((u / 10 : Nat) : Int) := by rw [Int.neg_tdiv, Int.tdiv_eq_ediv_of_nonneg (Int.natCast_nonneg _)]; simp
    have hm : (-(u : Int)).tmod 10 = -((u % 10 : Nat) : Int) := by rw [Int.neg_tmod, Int.tmod_eq_emod_of_nonneg (Int.natCast_nonneg _)]; simp
    have hL : last = ((u % 10 : Nat) : Int) := by rw [hl, hm]; split <;> omega
    subst hL
    refine ⟨?_, by omega, by omega⟩
    rw [show (((u % 10 : Nat) : Int) + 1).toNat = u % 10 + 1 by omega, Int.toNat_natCast, dgs_at (by omega), hd]
    have e := ba_app (45 :: Lib.decDigits (u / 10)) [UInt8.ofNat (48 + u % 10)]
    unfold numB
    rw [Lib.itoa_neg u (by omega), Lib.itoa_neg (u / 10) (by omega), dec_big (by omega)]
    exact e.symm
  · obtain ⟨u, rfl⟩ : ∃ u : Nat, n = (u : Int) := ⟨n.natAbs, by omega⟩
    have hd : ((u : Int)).tdiv 10 = ((u / 10 : Nat) : Int) := by rw [Int.tdiv_eq_ediv_of_nonneg (Int.natCast_nonneg _)]; simp
    have hm : ((u : Int)).tmod 10 = ((u % 10 : Nat) : Int) := by rw [Int.tmod_eq_emod_of_nonneg (Int.natCast_nonneg _)]; simp
    have hL : last = ((u % 10 : Nat) : Int) := by rw [hl, hm]; split <;> omega
    subst hL
    refine ⟨?_, by omega, by omega⟩
    rw [show (((u % 10 : Nat) : Int) + 1).toNat = u % 10 + 1 by omega, Int.toNat_natCast, dgs_at (by omega), hd]
    have e := ba_app (Lib.decDigits (u / 10)) [UInt8.ofNat (48 + u % 10)]
    unfold numB
    rw [Lib.itoa_nonneg, Lib.itoa_nonneg, dec_big (by omega)]
    exact e.symm
def i64ok (n : Int) : Prop := -9223372036854775808 ≤ n ∧ n ≤ 9223372036854775807
theorem numB_size {n : Int} (h : i64ok n) : (numB n).size ≤ 21 := by
  have := Lib.itoa_length_le n h.1 h.2
  simpa [numB, ByteArray.size] using this
theorem quo_ok {n : Int} (h : i64ok n) : i64ok (n.tdiv 10) := by
  unfold i64ok at *
  rcases Int.lt_or_le n 0 with hn | hn
  · obtain ⟨u, rfl⟩ : ∃ u : Nat, n = -(u : Int) := ⟨n.natAbs, by omega⟩
    have hd : (-(u : Int)).tdiv 10 = -((u / 10 : Nat) : Int) := by rw [Int.neg_tdiv, Int.tdiv_eq_ediv_of_nonneg (Int.natCast_nonneg _)]; simp
    rw [hd]; omega
  · obtain ⟨u, rfl⟩ : ∃ u : Nat, n = (u : Int) := ⟨n.natAbs, by omega⟩
    have hd : ((u : Int)).tdiv 10 = ((u / 10 : Nat) : Int) := by rw [Int.tdiv_eq_ediv_of_nonneg (Int.natCast_nonneg _)]; simp
    rw [hd]; omega
theorem quo_less {n : Int} (h : ¬ (n > -10 ∧ n < 0)) (h2 : ¬ (n ≥ 0 ∧ n < 10)) : (n.tdiv 10).natAbs < n.natAbs := by
  rcases Int.lt_or_le n 0 with hn | hn
  · obtain ⟨u, rfl⟩ : ∃ u : Nat, n = -(u : Int) := ⟨n.natAbs, by omega⟩
    have hd : (-(u : Int)).tdiv 10 = -((u / 10 : Nat) : Int) := by rw [Int.neg_tdiv, Int.tdiv_eq_ediv_of_nonneg (Int.natCast_nonneg _)]; simp
    rw [hd]; omega
  · obtain ⟨u, rfl⟩ : ∃ u : Nat, n = (u : Int) := ⟨n.natAbs, by omega⟩
    have hd : ((u : Int)).tdiv 10 = ((u / 10 : Nat) : Int) := by rw [Int.tdiv_eq_ediv_of_nonneg (Int.natCast_nonneg _)]; simp
    rw [hd]; omega
theorem tmod_range (n : Int) : n.tmod 10 ≤ 9 ∧ -9 ≤ n.tmod 10 := by
  rcases Int.lt_or_le n 0 with hn | hn
  · obtain ⟨u, rfl⟩ : ∃ u : Nat, n = -(u : Int) := ⟨n.natAbs, by omega⟩
    have hm : (-(u : Int)).tmod 10 = -((u % 10 : Nat) : Int) := by rw [Int.neg_tmod, Int.tmod_eq_emod_of_nonneg (Int.natCast_nonneg _)]; simp
    rw [hm]; omega
  · obtain ⟨u, rfl⟩ : ∃ u : Nat, n = (u : Int) := ⟨n.natAbs, by omega⟩
    have hm : ((u : Int)).tmod 10 = ((u % 10 : Nat) : Int) := by rw [Int.tmod_eq_emod_of_nonneg (Int.natCast_nonneg _)]; simp
    rw [hm]; omega
/-! ### Read again -/
theorem digit_nat {d : Nat} (h : d < 10) : (UInt8.ofNat (48 + d)).toNat = 48 + d := by
  rw [UInt8.toNat_ofNat']; omega
theorem parse_app : ∀ (l : List UInt8) (d acc u : Nat), d < 10 → Lib.parseUint10 acc l = .ok u → u * 10 + d < 18446744073709551616 →
    Lib.parseUint10 acc (l ++ [UInt8.ofNat (48 + d)]) = .ok (u * 10 + d)
  | [], d, acc, u, hd, h, hb => by
    simp only [Lib.parseUint10] at h
    injection h with h
    subst h
    simp only [List.nil_append, Lib.parseUint10, digit_nat hd]
    rw [if_pos (by omega), if_neg (by omega), if_neg (by omega), show 48 + d - 48 = d by omega]
  | c :: r, d, acc, u, hd, h, hb => by
    simp only [List.cons_append, Lib.parseUint10] at h ⊢
    split at h
    · rename_i h1
      rw [if_pos h1]
      split at h
      · cases h
      · rename_i h2
        rw [if_neg h2]
        split at h
        · cases h
        · rename_i h3
          rw [if_neg h3]
          exact parse_app r d _ u hd h hb
    · cases h
theorem parse_dec (u : Nat) (h : u < 18446744073709551616) : Lib.parseUint10 0 (Lib.decDigits u) = .ok u := by
  induction u using Nat.strongRecOn with
  | _ u ih =>
    by_cases hs : u < 10
    · rw [dec_small hs]
      have := parse_app [] u 0 0 hs rfl (by omega)
      simpa using this
    · rw [dec_big hs]
      have := parse_app _ (u % 10) 0 (u / 10) (by omega) (ih (u / 10) (by omega) (by omega)) (by omega)
      rw [this]; congr 1; omega
theorem dec_head (u : Nat) : ∃ d r, Lib.decDigits u = UInt8.ofNat (48 + d) :: r ∧ d < 10 := by
  induction u using Nat.strongRecOn with
  | _ u ih =>
    by_cases hs : u < 10
    · exact ⟨u, [], dec_small hs, hs⟩
    · obtain ⟨d, r, e, hd⟩ := ih (u / 10) (by omega)
      exact ⟨d, r ++ [UInt8.ofNat (48 + u % 10)], by rw [dec_big hs, e]; rfl, hd⟩
theorem dec_ne (u : Nat) : Lib.decDigits u ≠ [] := by obtain ⟨d, r, e, _⟩ := dec_head u; rw [e]; simp
theorem atoi_itoa {n : Int} (h : i64ok n) : Lib.atoiAll (Lib.itoa n) = .ok n := by
  unfold i64ok at h
  rcases Int.lt_or_le n 0 with hn | hn
  · obtain ⟨u, rfl⟩ : ∃ u : Nat, n = -(u : Int) := ⟨n.natAbs, by omega⟩
    rw [Lib.itoa_neg u (by omega)]
    unfold Lib.atoiAll
    simp only [show (45 : UInt8).toNat = 45 from rfl, or_true, if_true, Lib.parseMag, if_neg (dec_ne u), parse_dec u (by omega)]
    rw [if_neg (by simp), if_neg (by omega)]
  · obtain ⟨u, rfl⟩ : ∃ u : Nat, n = (u : Int) := ⟨n.natAbs, by omega⟩
    rw [Lib.itoa_nonneg]
    obtain ⟨d, r, e, hd⟩ := dec_head u
    have hp := parse_dec u (by omega)
    rw [e] at hp ⊢
    unfold Lib.atoiAll
    simp only [digit_nat hd, Lib.parseMag]
    rw [if_neg (by omega : ¬ (48 + d = 43 ∨ 48 + d = 45)), if_neg (by simp), hp]
    simp only []
    rw [if_neg (by omega), if_neg (by omega), if_neg (by omega)]
theorem numB_data (n : Int) : (numB n).data.toList = Lib.itoa n := by simp [numB]
theorem numB_inj {n m : Int} (h : i64ok n) (h2 : i64ok m) (e : numB n = numB m) : n = m := by
  have e2 : Lib.itoa n = Lib.itoa m := by rw [← numB_data, ← numB_data, e]
  have a := atoi_itoa h
  rw [e2, atoi_itoa h2] at a
  injection a with a
  exact a.symm
theorem dec_bytes (u : Nat) : ∀ b, b ∈ Lib.decDigits u → 48 ≤ b.toNat ∧ b.toNat ≤ 57 := by
  induction u using Nat.strongRecOn with
  | _ u ih =>
    intro b hb
    by_cases hs : u < 10
    · rw [dec_small hs] at hb
      simp only [List.mem_singleton] at hb
      subst hb; rw [digit_nat hs]; omega
    · rw [dec_big hs] at hb
      rcases List.mem_append.1 hb with h1 | h1
      · exact ih (u / 10) (by omega) b h1
      · simp only [List.mem_singleton] at h1
        subst h1; rw [digit_nat (by omega)]; omega
theorem itoa_bytes (n : Int) : ∀ b, b ∈ Lib.itoa n → b.toNat = 45 ∨ 48 ≤ b.toNat ∧ b.toNat ≤ 57 := by
  intro b hb
  unfold Lib.itoa at hb
  split at hb
  · rcases List.mem_cons.1 hb with rfl | h1
    · exact .inl rfl
    · exact .inr (dec_bytes _ b h1)
  · exact .inr (dec_bytes _ b hb)
end Go.Sx


/- Scripts as numbers and bytes: plain data. -/
namespace Go.Sx
set_option linter.unusedVariables false
set_option linter.unusedSimpArgs false
structure RawP where
  a : Option Addr
  c : Nat
  d : RawD
def tyRawP : Ty RawP := ⟨2, fun p => [.slice p.a p.d.nums.length p.c, .string p.d.text], fun _ => rfl, fun d u hu => by simp at hu; rcases hu with rfl | rfl <;> rfl, by omega⟩
def rawP0 : RawP := ⟨none, 0, ⟨[], .empty⟩⟩
def rawD0 : RawD := ⟨[], .empty⟩
instance : DecidableEq RawD := fun a b => decidable_of_iff (a.nums = b.nums ∧ a.text = b.text) ⟨fun h => by cases a; cases b; simp only at h; rw [h.1, h.2], fun h => by rw [h]; exact ⟨rfl, rfl⟩⟩
def inRaw : Inn RawP Int := ⟨tyI .i64, 3, RawP.a, RawP.c, fun p => p.d.nums, fun p => p.d.nums.length⟩
def rdsOf (ps : List RawP) : List RawD := ps.map RawP.d
theorem rds_get (ps : List RawP) (k : Nat) : (rdsOf ps).getD k rawD0 = (ps.getD k rawP0).d := (getD_map' RawP.d ps rawP0 k).symm
theorem rds_len (ps : List RawP) : (rdsOf ps).length = ps.length := by simp [rdsOf]
theorem rds_app (a b : List RawP) : rdsOf (a ++ b) = rdsOf a ++ rdsOf b := by simp [rdsOf]
theorem take_sameR {a b : List RawP} {k : Nat} (h : (rdsOf a).take k = (rdsOf b).take k) (ha : k < a.length) (hb : k < b.length) (hx : (a.getD k rawP0).d.nums = (b.getD k rawP0).d.nums ∧ (a.getD k rawP0).d.text = (b.getD k rawP0).d.text) : (rdsOf a).take (k + 1) = (rdsOf b).take (k + 1) := by
  have e : (a.getD k rawP0).d = (b.getD k rawP0).d := by
    rcases h1 : (a.getD k rawP0).d with ⟨x, y⟩; rcases h2 : (b.getD k rawP0).d with ⟨x', y'⟩
    rw [h1, h2] at hx; simp only at hx; rw [hx.1, hx.2]
  rw [← rds_get, ← rds_get] at e
  have ha' : k < (rdsOf a).length := by rw [rds_len]; exact ha
  have hb' : k < (rdsOf b).length := by rw [rds_len]; exact hb
  rw [List.take_add_one, List.take_add_one, h, List.getElem?_eq_getElem ha', List.getElem?_eq_getElem hb']
  simp only [List.getD_eq_getElem?_getD, List.getElem?_eq_getElem ha', List.getElem?_eq_getElem hb', Option.getD_some] at e
  rw [e]
theorem same_takeR {a b : List RawP} {k : Nat} (h : (rdsOf a).take k = (rdsOf b).take k) (ha : a.length ≤ k) (hb : b.length ≤ k) : rdsOf a = rdsOf b := by
  rwa [List.take_of_length_le (by rw [rds_len]; exact ha), List.take_of_length_le (by rw [rds_len]; exact hb)] at h
structure AnsD where
  kind : Int
  err : Int
  nums : List Int
  text : ByteArray
instance : DecidableEq AnsD := fun a b => decidable_of_iff (a.kind = b.kind ∧ a.err = b.err ∧ a.nums = b.nums ∧ a.text = b.text) ⟨fun h => by cases a; cases b; simp only at h; rw [h.1, h.2.1, h.2.2.1, h.2.2.2], fun h => by rw [h]; exact ⟨rfl, rfl, rfl, rfl⟩⟩
structure AnsP where
  a : Option Addr
  c : Nat
  d : AnsD
def ansP0 : AnsP := ⟨none, 0, ⟨0, 0, [], .empty⟩⟩
section
variable {a b : List AnsP} {k : Nat}
end
/-- the first place at which p says yes -/
def noneTo (p : AnsP → Bool) (s : List AnsP) (k : Nat) : Prop := (s.take k).filter p = []
theorem none_keep {p : AnsP → Bool} {s : List AnsP} {k : Nat} (h : noneTo p s k) : (s.take k).filter (fun x => !p x) = s.take k := by
  rw [List.filter_eq_self]
  intro x hx
  have : x ∉ (s.take k).filter p := by rw [show (s.take k).filter p = [] from h]; simp
  simpa [hx] using this
/-- the program's loop -/
structure DelI (p : AnsP → Bool) (s ys : List AnsP) (i j : Nat) : Prop where
  len : ys.length = s.length
  le : i < j
  pre : ys.take i = (s.take j).filter (fun x => !p x)
  post : ys.drop j = s.drop j
theorem DelI.start {p : AnsP → Bool} {s : List AnsP} {k : Nat} (h : noneTo p s k) (hk : k < s.length) (hp : p (s.getD k ansP0) = true) : DelI p s s k (k + 1) := by
  have e : s.getD k ansP0 = s[k] := by simp [List.getD_eq_getElem?_getD, List.getElem?_eq_getElem hk]
  rw [e] at hp
  refine ⟨rfl, by omega, ?_, rfl⟩
  rw [List.take_add_one, List.getElem?_eq_getElem hk, List.filter_append, none_keep h]; simp [hp]
section
variable {p : AnsP → Bool} {s ys : List AnsP} {i j : Nat}
theorem DelI.get (h : DelI p s ys i j) (hj : j < s.length) : ys.getD j ansP0 = s.getD j ansP0 := by
  have h1 := congrArg (fun l => l[0]?) h.post
  simp only [List.getElem?_drop, Nat.add_zero] at h1
  simp only [List.getD_eq_getElem?_getD, h1]
theorem DelI.no (h : DelI p s ys i j) (hj : j < s.length) (hp : p (ys.getD j ansP0) = true) : DelI p s ys i (j + 1) := by
  rw [h.get hj] at hp
  have e : s.getD j ansP0 = s[j] := by simp [List.getD_eq_getElem?_getD, List.getElem?_eq_getElem hj]
  rw [e] at hp
  refine ⟨h.len, by have := h.le; omega, ?_, ?_⟩
  · rw [h.pre, List.take_add_one, List.getElem?_eq_getElem hj, List.filter_append]; simp [hp]
  · have := congrArg (List.drop 1) h.post; simpa [List.drop_drop] using this
theorem DelI.yes (h : DelI p s ys i j) (hj : j < s.length) (hp : ¬ p (ys.getD j ansP0) = true) : DelI p s (ys.set i (ys.getD j ansP0)) (i + 1) (j + 1) := by
  have hg := h.get hj
  rw [hg] at hp ⊢
  have e : s.getD j ansP0 = s[j] := by simp [List.getD_eq_getElem?_getD, List.getElem?_eq_getElem hj]
  rw [e] at hp ⊢
  have hle := h.le; have hlen := h.len
  have hi : i < ys.length := by omega
  refine ⟨by simp [hlen], by omega, ?_, ?_⟩
  · rw [List.take_add_one, List.take_set_of_le (by omega), h.pre, List.getElem?_set_self hi]
    rw [List.take_add_one, List.getElem?_eq_getElem hj, List.filter_append]; simp [hp]
  · rw [List.drop_set_of_lt (by omega)]
    have := congrArg (List.drop 1) h.post; simpa [List.drop_drop] using this
theorem DelI.fin (h : DelI p s ys i j) (hj : ¬ j < s.length) : ys.take i = s.filter (fun x => !p x) := by
  rw [h.pre, List.take_of_length_le (by omega)]
end
end Go.Sx


/- More words on whole numbers: negation, division of what may be negative, half bytes put together. Conditions: those of each theorem. -/
namespace Go.Sx
set_option linter.unusedVariables false
set_option linter.unusedSimpArgs false
section
variable {P : Program} {Γ : Env} {w : World} {ty : TypeId} {K : Value → World → Prop} {xt yt : TypeId} {x y : Operand}
theorem d_neg {a : Int} (hx : ev Γ x = some (.int .i64 a)) (h : -9223372036854775808 ≤ -a) (h' : -a ≤ 9223372036854775807) (k : K (.int .i64 (-a)) w) : Does P Γ w (.unOp .neg xt x) ty K :=
  Does.of_run (fun ρ hρ => by
    have e2 : (Op.unary .neg (.int .i64 a)).run P w = .ok (.int .i64 (IntKind.i64.wrap (0 - a))) w := rfl
    rw [wrap_i64 (by omega) (by omega), show 0 - a = -a by omega] at e2
    simp [ex, execOp, hρ x _ hx, e2]) k
theorem d_sub8 {a b : Int} (hx : ev Γ x = some (.int .u8 a)) (hy : ev Γ y = some (.int .u8 b)) (h : 0 ≤ a - b) (h' : a - b ≤ 255) (k : K (.int .u8 (a - b)) w) : Does P Γ w (.binOp .sub xt x y yt) ty K :=
  d_arith (a - b) hx hy (by show some (IntKind.u8.wrap (a - b)) = _; rw [wrap_u8' h h']) k
theorem d_quoT {a b : Int} (hx : ev Γ x = some (.int .i64 a)) (hy : ev Γ y = some (.int .i64 b)) (hb : b ≠ 0) (h : -9223372036854775808 ≤ a.tdiv b) (h' : a.tdiv b ≤ 9223372036854775807) (k : K (.int .i64 (a.tdiv b)) w) : Does P Γ w (.binOp .quo xt x y yt) ty K :=
  Does.of_run (fun ρ hρ => by
    simp [ex, execOp, hρ x _ hx, hρ y _ hy, eqGuard, binOp, Op.intDiv, hb, wrap_i64 (x := a.tdiv b) h h']) k
theorem d_shl4 {a : Int} {ky : IntKind} (m : Nat) (ha : a = ((m : Nat) : Int)) (hm : m < 16) (hx : ev Γ x = some (.int .i64 a)) (hy : ev Γ y = some (.int ky 4)) (k : K (.int .i64 ((m * 16 : Nat) : Int)) w) : Does P Γ w (.binOp .shl xt x y yt) ty K := by
  subst ha
  refine d_shl hx hy (by decide) ?_
  have e1 : IntKind.i64.wrap (((m : Nat) : Int) * 2 ^ (min (4 : Int).toNat IntKind.i64.bits)) = ((m * 16 : Nat) : Int) := by
    show IntKind.i64.wrap (((m : Nat) : Int) * 16) = _
    rw [wrap_i64 (by omega) (by omega)]; simp
  rw [e1]; exact k
theorem or4 : ∀ m n : Fin 16, IntKind.i64.wrap ((BitVec.ofInt 64 ((m.val * 16 : Nat) : Int) ||| BitVec.ofInt 64 ((n.val : Nat) : Int)).toNat : Int) = ((m.val * 16 + n.val : Nat) : Int) := by decide +kernel
theorem d_or4 {b : Int} (m n : Nat) (hb : b = ((n : Nat) : Int)) (hm : m < 16) (hn : n < 16) (hx : ev Γ x = some (.int .i64 ((m * 16 : Nat) : Int))) (hy : ev Γ y = some (.int .i64 b)) (k : K (.int .i64 ((m * 16 + n : Nat) : Int)) w) : Does P Γ w (.binOp .or xt x y yt) ty K := by
  subst hb
  exact d_bits ((m * 16 + n : Nat) : Int) hx hy (congrArg some (or4 ⟨m, hm⟩ ⟨n, hn⟩)) k
end
/-! ### Operations, not more and not longer than a law's looks go -/
def fewP (p : RawP) : RawP := ⟨p.a, p.c, ⟨p.d.nums.take (min ((p.d.nums.length : Nat) : Int) 6).toNat, p.d.text.extract 0 (min ((p.d.text.size : Nat) : Int) 30).toNat⟩⟩
def fewL (l : List RawP) : List RawP := (l.take 12).map fewP
theorem fewL_len (l : List RawP) : (fewL l).length ≤ 12 := by simp [fewL]; omega
theorem fewL_rd {w : World} {l : List RawP} (h : inRaw.Rd w l) : inRaw.Rd w (fewL l) := fun q hq => by
  obtain ⟨p, hp, rfl⟩ := List.mem_map.1 hq
  have h1 := h p (List.mem_of_mem_take hp)
  exact RdT.take (T := tyI .i64) (xs := p.d.nums) h1 _ (by omega)
theorem take_snoc {α : Type} (l : List α) (d : α) {k : Nat} (h : k < l.length) : l.take (k + 1) = l.take k ++ [l.getD k d] := by
  rw [List.take_add_one]
  simp [List.getD_eq_getElem?_getD, List.getElem?_eq_getElem h]
theorem fewL_snoc (l : List RawP) {k : Nat} (h : k < l.length) : (l.take (k + 1)).map fewP = (l.take k).map fewP ++ [fewP (l.getD k rawP0)] := by
  rw [take_snoc l rawP0 h]; simp
theorem fewL_end {l : List RawP} {k : Nat} (hk : k ≤ l.length) (hk2 : k ≤ 12) (h : ¬ (k < l.length ∧ k < 12)) : (l.take k).map fewP = fewL l := by
  unfold fewL
  by_cases h2 : k = 12
  · rw [h2]
  · have h3 : k = l.length := by omega
    rw [h3, List.take_of_length_le (Nat.le_refl _), List.take_of_length_le (by omega)]
end Go.Sx


/- Digits of bytes: the two ways to write them are one. Conditions: those of each theorem. -/
namespace Go.Sx
set_option linter.unusedVariables false
theorem strOfNums_app (a b : List Int) : strOfNums (a ++ b) = strOfNums a ++ strOfNums b := by
  apply ByteArray.ext
  simp [strOfNums]
theorem two_digits : ∀ h l : Fin 16, strOfNums [((bn digs h.val : Nat) : Int), ((bn digs l.val : Nat) : Int)] = digs.extract h.val (h.val + 1) ++ digs.extract l.val (l.val + 1) := by decide +kernel
theorem hex_same (s : ByteArray) : ∀ i, strOfNums (hexI s i) = hexT s i
  | 0 => rfl
  | i + 1 => by
    have := bn_lt s i
    rw [hexI, strOfNums_app, hex_same s i, hexT, ByteArray.append_assoc]
    congr 1
    exact two_digits ⟨bn s i / 16, by omega⟩ ⟨bn s i % 16, by omega⟩
end Go.Sx


/- What library calls leave as it was; a string's bytes behind a row; errors against nil; words split and joined. Conditions: those of each theorem. -/
namespace Go.Sx
set_option linter.unusedVariables false
set_option linter.unusedSimpArgs false
theorem keep_of_below {w w' : World} (h : RowKit.Below w.heap.size w w') : Keep [] w w' := ⟨h.os, h.tape, h.output, h.size, fun k hk _ => h.block k hk⟩
theorem upd_of_keep {w w' : World} (h : Keep [] w w') : Upd w [] w' [] := ⟨Hp.nil _, h.nil, fun g hg => by simp [ats] at hg⟩
theorem upd_of_below {w w' : World} (h : RowKit.Below w.heap.size w w') : Upd w [] w' [] := upd_of_keep (keep_of_below h)
theorem upd_below {w w' : World} {L : List Chunk} (hp : Hp w L) (h : RowKit.Below w.heap.size w w') : Upd w L w' L :=
  ⟨hp.keep (keep_of_below h) (by simp), (keep_of_below h).nil, fun g hg => .inl hg⟩
section
variable {P : Program} {Γ : Env} {w : World} {ty : TypeId} {K : Value → World → Prop}
theorem strCells_all (s : ByteArray) : Lib.strCells s = (tyI .u8).all (bytesL s) := by
  rw [all_int]
  apply List.ext_getElem?
  intro j
  rw [Lib.strCells, bytesL, List.map_map, List.getElem?_map, List.getElem?_map]
  by_cases h : j < s.size
  · rw [List.getElem?_range h, List.getElem?_eq_getElem (by simpa using h)]
    simp [bt, List.getD_eq_getElem?_getD, h]
  · rw [List.getElem?_eq_none (by simpa using h), List.getElem?_eq_none (by simpa using h)]; rfl
theorem upd_of_grown' {v v' : Value} {e : TypeId} {sz n n' : Nat} {vs vs' : List Value} {w' : World} (h : w'.ownsRow 0 e sz v' n' vs') (hg : w.grownBy w' v.ownBlock) (hb : v'.ownBlock = v.ownBlock ∨ ∀ g, v'.ownBlock = some g → w.heap.size ≤ g) : Upd w [row v e sz n vs] w' [row v' e sz n' vs'] := by
  refine ⟨⟨fun c hc => ?_, ?_⟩, ⟨hg.os, hg.tape, hg.output, hg.size, fun k hk hs => hg.block k hk ?_⟩, fun g hg' => ?_⟩
  · simp only [List.mem_singleton] at hc; subst hc; exact own_row h
  · cases hv : v'.ownBlock <;> simp [ats, row, hv]
  · intro e'; apply hs; simp [ats, row, ← e']
  · have : v'.ownBlock = some g := by
      cases hv : v'.ownBlock <;> simp [ats, row, hv] at hg'
      rw [hg']
    rcases hb with h1 | h1
    · left; rw [this] at h1; simp [ats, row, ← h1]
    · right; exact h1 g this
theorem own_base {base : Nat} {v : Value} {e : TypeId} {sz n : Nat} {vs : List Value} {w' : World} (h : w'.ownsRow base e sz v n vs) : w'.ownsRow 0 e sz v n vs ∧ ∀ g, v.ownBlock = some g → base ≤ g := by
  obtain ⟨h1, h2⟩ := h
  rcases h2 with ⟨rfl, rfl⟩ | ⟨g, cap, cur, rfl, h3, h4⟩
  · exact ⟨⟨h1, .inl ⟨rfl, rfl⟩⟩, fun g hg => by simp [Value.ownBlock] at hg⟩
  · exact ⟨⟨h1, .inr ⟨g, cap, cur, rfl, Nat.zero_le _, h4⟩⟩, fun g' hg => by simp [Value.ownBlock] at hg; omega⟩
theorem t_appendStr {s x : Operand} {t u e : TypeId} {c : Nat} {a : Option Addr} {xs : List Int} {y : ByteArray} (ht : P.underlying t = some (.slice e)) (hu : P.underlying u = some .string) (hs : szOf P e = some (1, 1, some (.int .u8 0)))
    (hev : ev Γ s = some (.slice a xs.length c)) (hx : ev Γ x = some (.string y)) (ho : w.ownsRow 0 e (tyI .u8).sz (.slice a xs.length c) xs.length ((tyI .u8).all xs)) (hb : xs.length + y.size ≤ 140737488355328)
    (k : ∀ a' c' w', Upd w [rowT (tyI .u8) (.slice a xs.length c) e xs] w' [rowT (tyI .u8) (.slice a' (xs ++ bytesL y).length c') e (xs ++ bytesL y)] → K (.slice a' (xs ++ bytesL y).length c') w') : Does P Γ w (.call { callee := .builtin .append, args := #[s, x], argTypes := #[t, u] }) ty K := by
  obtain ⟨i, hi, hsz, hby, hz⟩ := szOf_info hs
  have hlen : xs.length + y.size = (xs ++ bytesL y).length := by rw [List.length_append, bytesL_len]
  have hall : (tyI .u8).all xs ++ Lib.strCells y = (tyI .u8).all (xs ++ bytesL y) := by rw [strCells_all]; simp [Ty.all]
  have h63 : xs.length + y.size ≤ maxLen := by simp only [maxLen]; omega
  obtain ⟨v', w', hrun, hown, hg, hfr⟩ : ∃ v' w', (Builtin.append_ #[t, u] ty #[.slice a xs.length c, .string y]).run P w = .ok v' w' ∧ w'.ownsRow 0 e 1 v' (xs.length + y.size) ((tyI .u8).all xs ++ Lib.strCells y) ∧ w.grownBy w' (Value.slice a xs.length c).ownBlock ∧
      (v'.ownBlock = (Value.slice a xs.length c).ownBlock ∨ ∀ g, v'.ownBlock = some g → w.heap.size ≤ g) := by
    have ho' := ho
    rcases ho'.2 with ⟨h1, h2⟩ | ⟨g, cap, cur, h1, hbg, hgc, hnc, hcm, hcs, htake⟩
    · have hbase : w.ownsRow w.heap.size e 1 (.slice a xs.length c) xs.length ((tyI .u8).all xs) := ⟨ho.1, .inl ⟨h1, h2⟩⟩
      obtain ⟨v', w', hrun, hown, hg, _⟩ := Lib.run_append_own_string (P := P) w w.heap.size t u ty e i ht hu hi hz hsz hby (.slice a xs.length c) xs.length _ hbase y h63 hb (Nat.le_refl _)
      obtain ⟨o1, o2⟩ := own_base hown
      exact ⟨v', w', hrun, o1, hg, .inr o2⟩
    · obtain ⟨v', w', hrun, hown, hg, _⟩ := Lib.run_append_own_string (P := P) w 0 t u ty e i ht hu hi hz hsz hby (.slice a xs.length c) xs.length _ ho y h63 hb (Nat.zero_le _)
      refine ⟨v', w', hrun, hown, hg, ?_⟩
      injection h1 with e1 e2 e3
      subst e1 e3
      have hxl : ((tyI .u8).all xs).length = xs.length := by have := ho.1; simpa [tyI] using this
      by_cases hroom : xs.length + y.size ≤ c
      · have hcz : cur.size = c := by simpa [tyI] using hcs
        have hr := Lib.run_append_room_string (P := P) w t u ty e i ht hu hi hsz g xs.length c cur hgc y hroom (by omega)
        rw [hr] at hrun
        injection hrun with hv _
        left; rw [← hv]; rfl
      · have holds : ∀ j u, ((tyI .u8).all xs)[j]? = some u → w.cell? ((⟨g, 0, none⟩ : Addr).add j) = some u := ho.cells (g := g) rfl
        have hr := Lib.run_append_grow_string (P := P) w t u ty e i (.int .u8 0) ht hu hi hz ⟨g, 0, none⟩ xs.length c _ (by rw [hsz, hxl]; simp) holds y (by omega) (by omega) (by rw [hby]; exact growslice_fits (by omega) (by omega))
        rw [hr] at hrun
        injection hrun with hv _
        right; intro g' hg'
        rw [← hv] at hg'
        simp [Value.ownBlock] at hg'; omega
  obtain ⟨a', c', rfl⟩ := row_slice hown
  rw [hall] at hown
  have hU := upd_of_grown' (n := xs.length) (vs := (tyI .u8).all xs) hown hg hfr
  rw [hlen] at hU hown
  refine Does.of_run (fun ρ hρ => ?_) (k a' c' w' hU)
  rw [← hlen]
  simp only [ex, execOp, resolve, invoke, builtin, Sem.run_bind, Sem.run_pure, Result.andThen_ok, List.map_toArray, List.map_cons, List.map_nil, hρ s _ hev, hρ x _ hx, hrun]
end
/-! ### Errors against nil -/
/-- A word of the kind error: whether it is one. -/
def IsErr (ev : Value) (b : Bool) : Prop := (b = false ∧ ev = .nilIface) ∨ (b = true ∧ ∃ t p, ev = .iface t (.pointer (some p)))
section
variable {P : Program} {Γ : Env} {w : World} {ty : TypeId} {K : Value → World → Prop}
theorem d_ifne {xt yt : TypeId} {x : Operand} {v : Value} {b : Bool} {ms : Array (String × TypeId)} (ht : P.underlying xt = some (.interface ms)) (hx : ev Γ x = some v) (h : IsErr v b) (k : K (.bool b) w) : Does P Γ w (.binOp .neq xt x (.const .nilIface) yt) ty K :=
  Does.of_run (fun ρ hρ => by
    have hc : ρ (.const .nilIface) = .nilIface := hρ _ _ rfl
    rcases h with ⟨rfl, rfl⟩ | ⟨rfl, t, p, rfl⟩
    · have := run_equal (P := P) (w := w) (t := xt) (x := .nilIface) (y := .nilIface) (r := true) (fun d => by simp [Op.equalIn, run_underlying ht])
      simp [ex, execOp, hρ x _ hx, hc, eqGuard, binOp, this]
    · have := run_equal (P := P) (w := w) (t := xt) (x := .iface t (.pointer (some p))) (y := .nilIface) (r := false) (fun d => by simp [Op.equalIn, run_underlying ht])
      simp [ex, execOp, hρ x _ hx, hc, eqGuard, binOp, this]) k
/-- xs[i:] of a row of one's own, to be read alone from here on. -/
theorem all_drop {α : Type} {T : Ty α} : ∀ (xs : List α) (i : Nat), T.all (xs.drop i) = (T.all xs).drop (i * T.sz)
  | [], i => by simp [Ty.all]
  | x :: xs, 0 => by simp
  | x :: xs, i + 1 => by
    have h1 := T.len x
    rw [List.drop_succ_cons, all_drop xs i, Nat.succ_mul, Nat.add_comm (i * T.sz)]
    simp only [Ty.all, List.flatMap_cons]
    rw [← List.drop_drop, List.drop_left' (by rw [h1])]
theorem t_sufRd {α : Type} {T : Ty α} {t e : TypeId} {x lo : Operand} {kd : IntKind} {a : Option Addr} {n c sz b : Nat} {z : Option Value} {l : Int} {xs : List α} (i : Nat) (hT : T.sz = sz) (ht : P.underlying t = some (.slice e)) (hs : szOf P e = some (sz, b, z)) (hx : ev Γ x = some (.slice a n c)) (hl : ev Γ lo = some (.int kd l))
    (ho : w.ownsRow 0 e T.sz (.slice a n c) xs.length (T.all xs)) (hij : l = ((i : Nat) : Int)) (hin : i ≤ xs.length) (k : ∀ sa sc w', Upd w [rowT T (.slice a n c) e xs] w' [rdC T (.slice sa (xs.drop i).length sc) (xs.drop i)] → K (.slice sa (xs.drop i).length sc) w') : Does P Γ w (.slice t x (some lo) none none) ty K := by
  subst hij hT
  have hr : RdT T w (.slice a n c) xs := own_rd ho
  have hn := hr.len
  subst hn
  have hcap : xs.length ≤ c := by
    rcases ho.2 with ⟨h1, h2⟩ | ⟨g, cap, cur, h1, _, _, h2, _⟩
    · omega
    · cases h1; exact h2
  refine d_slice (i : Int) (xs.length : Int) ht hs hx (by simp [evO, hl]) rfl (.inr ⟨kd, rfl⟩) (.inl ⟨rfl, rfl⟩) ⟨by omega, by omega, by omega⟩ ?_
  have hle := hr.le
  rcases ho.2 with ⟨h1, h2⟩ | ⟨g, cap, cur, h1, _, hg, _⟩
  · injection h1 with e1 e2 e3
    subst e1
    have hxs : xs = [] := List.length_eq_zero_iff.1 h2
    subst hxs
    have hi : i = 0 := by simpa using hin
    subst hi
    have hk := k none 0 w ⟨⟨fun c' hc' => by simp only [List.mem_singleton] at hc'; subst hc'; exact ⟨RdT.nil _ _ _, fun g hg => by simp [Value.blk?] at hg⟩, by simp [ats, rdC, Value.blk?]⟩, Keep.refl _ _, fun g hg => by simp [ats, rdC, Value.blk?] at hg⟩
    simpa [subSlice, e3] using hk
  · injection h1 with e1 e2 e3
    subst e1 e3
    have hlt := lt_of_obj hg
    obtain ⟨A', cap', ev', hl1, hl2, hcell⟩ := hr
    injection ev' with q1 q2 q3
    subst q1 q3
    have hlen : (xs.drop i).length = xs.length - i := by simp
    have key : ∀ sa, (sa = (⟨g, 0, none⟩ : Addr) ∧ xs.length - i = 0 ∨ sa = Addr.add ⟨g, 0, none⟩ (i * T.sz)) → RdT T w (.slice (some sa) (xs.drop i).length (c - i)) (xs.drop i) ∧ sa.block = g := by
      rintro sa (⟨rfl, h0⟩ | rfl)
      · have h3 : xs.drop i = [] := List.length_eq_zero_iff.1 (by omega)
        rw [h3]; exact ⟨RdT.nil _ _ _, rfl⟩
      · refine ⟨⟨_, _, rfl, T.all_length _, by omega, fun j u hj => ⟨_, rfl, ?_⟩⟩, add_block _ _⟩
        rw [all_drop, List.getElem?_drop] at hj
        obtain ⟨ad, e9, hc9⟩ := hcell _ u hj
        cases e9
        rw [add_add]; exact hc9
    obtain ⟨sa, hsa, hval⟩ : ∃ sa, (sa = (⟨g, 0, none⟩ : Addr) ∧ xs.length - i = 0 ∨ sa = Addr.add ⟨g, 0, none⟩ (i * T.sz)) ∧ subSlice (.slice (some ⟨g, 0, none⟩) xs.length c) T.sz ((i : Nat) : Int).toNat ((xs.length : Nat) : Int).toNat = .slice (some sa) (xs.drop i).length (c - i) := by
      by_cases hci : c = i
      · exact ⟨_, .inl ⟨rfl, by omega⟩, by simp [subSlice, hci]⟩
      · exact ⟨_, .inr rfl, by simp [subSlice, hci]⟩
    rw [hval]
    obtain ⟨hrd, hbk⟩ := key sa hsa
    refine k (some sa) (c - i) w ⟨⟨fun c' hc' => ?_, by simp [ats, rdC, Value.blk?]⟩, Keep.refl _ _, fun g' hg' => ?_⟩
    · simp only [List.mem_singleton] at hc'; subst hc'
      exact ⟨hrd, fun g' hg' => by simp [Value.blk?, hbk] at hg'; subst hg'; exact hlt⟩
    · left
      simp [ats, rdC, Value.blk?, hbk] at hg'
      simp [ats, rowT, row, Value.ownBlock, hg']
/-- xs[i:] of what is read. -/
theorem t_sufR {α : Type} {T : Ty α} {t e : TypeId} {x lo : Operand} {kd : IntKind} {a : Option Addr} {n c sz b : Nat} {z : Option Value} {l : Int} {xs : List α} {w0 : World} (i : Nat) (hT : T.sz = sz) (ht : P.underlying t = some (.slice e)) (hs : szOf P e = some (sz, b, z)) (hx : ev Γ x = some (.slice a n c)) (hl : ev Γ lo = some (.int kd l))
    (hr : RdT T w0 (.slice a n c) xs) (hij : l = ((i : Nat) : Int)) (hin : i ≤ xs.length) (hcap : xs.length ≤ c) (k : ∀ sa sc, RdT T w0 (.slice sa (xs.drop i).length sc) (xs.drop i) → K (.slice sa (xs.drop i).length sc) w) : Does P Γ w (.slice t x (some lo) none none) ty K := by
  subst hij hT
  have hn := hr.len
  subst hn
  refine d_slice (i : Int) (xs.length : Int) ht hs hx (by simp [evO, hl]) rfl (.inr ⟨kd, rfl⟩) (.inl ⟨rfl, rfl⟩) ⟨by omega, by omega, by omega⟩ ?_
  have hle := hr.le
  have hlen : (xs.drop i).length = xs.length - i := by simp
  have key : ∀ sa, (xs.length - i = 0 ∨ sa = a.map (·.add (i * T.sz))) → RdT T w0 (.slice sa (xs.drop i).length (c - i)) (xs.drop i) := by
    rintro sa (h0 | rfl)
    · have h3 : xs.drop i = [] := List.length_eq_zero_iff.1 (by omega)
      rw [h3]; exact RdT.nil _ _ _
    · obtain ⟨A', cap', ev', hl1, hl2, hcell⟩ := hr
      injection ev' with q1 q2 q3
      subst q1 q3
      refine ⟨_, _, rfl, T.all_length _, by omega, fun j u hj => ?_⟩
      rw [all_drop, List.getElem?_drop] at hj
      obtain ⟨ad, rfl, hc9⟩ := hcell _ u hj
      exact ⟨_, rfl, by rw [add_add]; exact hc9⟩
  obtain ⟨sa, hsa, hval⟩ : ∃ sa, (xs.length - i = 0 ∨ sa = a.map (·.add (i * T.sz))) ∧ subSlice (.slice a xs.length c) T.sz ((i : Nat) : Int).toNat ((xs.length : Nat) : Int).toNat = .slice sa (xs.drop i).length (c - i) := by
    by_cases hci : c = i
    · exact ⟨a, .inl (by omega), by simp [subSlice, hci]⟩
    · exact ⟨_, .inr rfl, by simp [subSlice, hci]⟩
  rw [hval]
  exact k sa (c - i) (key sa hsa)
end
end Go.Sx


/- Proved here: what the library's functions that the console calls do, in the walks' words; conditions: those of each theorem. -/
namespace Go.Proofs.YtnjjjmpdikpjaabDoor
open Go Go.Sx Go.RowKit
set_option linter.unusedVariables false
set_option linter.unusedSimpArgs false
/-- What the program's variables read as. -/
structure Laid (w : World) : Prop where
  tab : Lib.TabIs Tryd.prog w "internal/strconv.uint64pow10" .u64 Lib.pow10Tab
  ml : ∃ m, w.cell? ⟨0, 0, none⟩ = some (.int .i64 m)
  sy : ∃ v, w.cell? ⟨1, 0, none⟩ = some v ∧ (v = .nilIface ∨ ∃ te pe, v = .iface te pe)
  rg : ∃ v, w.cell? ⟨2, 0, none⟩ = some v ∧ (v = .nilIface ∨ ∃ te pe, v = .iface te pe)
theorem Laid.below {w w' : World} (h : Laid w) (b : Below w.heap.size w w') : Laid w' := by
  obtain ⟨m, hm⟩ := h.ml
  obtain ⟨s, hs, hs'⟩ := h.sy
  obtain ⟨r, hr, hr'⟩ := h.rg
  have lt : ∀ {g : Nat} {v : Value}, w.cell? ⟨g, 0, none⟩ = some v → g < w.heap.size := fun {g v} hc => World.block_lt_of_cell? w ⟨g, 0, none⟩ hc
  exact ⟨Lib.tabBelow_of_tabIs h.tab w' b, ⟨m, (b.cell (lt hm)).trans hm⟩, ⟨s, (b.cell (lt hs)).trans hs, hs'⟩, ⟨r, (b.cell (lt hr)).trans hr, hr'⟩⟩
theorem Laid.at {w w' : World} {G : List (List Chunk)} (h : Laid w) (u : UpG w [] w' G) : Laid w' := h.below u.keep0.below
theorem ret_of {f : FuncId} {args : Array Value} {w : World} {Q : Ending → World → Prop} {R : Value → World → Prop} (h : Calls Tryd.prog f args w Q) (k : ∀ e w', Q e w' → ∃ v, e = .returned v ∧ R v w') : Calls Tryd.prog f args w (Ret R) := h.mono k
theorem below_grow (w : World) (k : Nat) (os : Array Obj) : Below w.heap.size w (Go.Sort.grow (w.drewN k) os) :=
  ⟨rfl, rfl, rfl, by show w.heap.size ≤ (w.heap ++ os).size; simp, fun j hj => by show (w.heap ++ os)[j]? = w.heap[j]?; rw [Array.getElem?_append_left hj]⟩
theorem itoa_any (n : Int) (w : World) (lw : Laid w) (hn : i64ok n) : Calls Tryd.prog 26 #[.int .i64 n] w (Ret fun v w' => v = .string (numB n) ∧ Upd w [] w' []) := by
  refine ret_of (Tryd.strconv_Itoa n hn.1 hn.2 w lw.tab) ?_
  rintro e w' ⟨rfl, k, os, rfl⟩
  exact ⟨_, rfl, rfl, upd_of_below (below_grow _ _ _)⟩
theorem atoi_any (s : ByteArray) (w : World) (lw : Laid w) (hs : s.size ≤ 1000000) :
    Calls Tryd.prog 39 #[.string s] w (Ret fun v w' => ∃ av : Int, ∃ ev : Value, ∃ eb : Bool, v = .tuple #[.int .i64 av, ev] ∧ Upd w [] w' [] ∧ IsErr ev eb ∧ ((eb = false ∧ Lib.atoiAll s.data.toList = .ok av ∧ i64ok av) ∨ (eb = true ∧ ∀ u, Lib.atoiAll s.data.toList ≠ .ok u))) := by
  rcases h : Lib.atoiAll s.data.toList with u | _ | _
  · refine ret_of (Tryd.strconv_Atoi_ok s (by omega) u h w) ?_
    rintro e w' ⟨rfl, hw⟩
    refine ⟨_, rfl, u, _, false, rfl, ?_, .inl ⟨rfl, rfl⟩, .inl ⟨rfl, rfl, Lib.atoiAll_bounds h⟩⟩
    rcases hw with rfl | ⟨t, rfl⟩
    · exact Upd.nil _
    · exact upd_of_below (Lib.bytesWorld_below _ _ _)
  · obtain ⟨v, hv, hv'⟩ := lw.sy
    refine ret_of (Any.strconv_Atoi_syntax Tryd.laysC172 s (by omega) h v w hv hv') ?_
    rintro e w' ⟨N, rfl, _, _, hb⟩
    exact ⟨_, rfl, 0, _, true, rfl, upd_of_below hb, .inr ⟨rfl, _, _, rfl⟩, .inr ⟨rfl, fun u hu => by simp at hu⟩⟩
  · obtain ⟨v, hv, hv'⟩ := lw.rg
    refine ret_of (Any.strconv_Atoi_range Tryd.laysC172 s (by omega) h v w hv hv') ?_
    rintro e w' ⟨N, rfl, _, _, hb⟩
    exact ⟨_, rfl, _, _, true, rfl, upd_of_below hb, .inr ⟨rfl, _, _, rfl⟩, .inr ⟨rfl, fun u hu => by simp at hu⟩⟩
theorem hasPrefix_any (s p : ByteArray) (w : World) : Calls Tryd.prog 37 #[.string s, .string p] w (Ret fun v w' => v = .bool (Lib.hasPrefix s.data.toList p.data.toList) ∧ Upd w [] w' []) := by
  refine ret_of (Tryd.strings_HasPrefix s p w) ?_
  rintro e w' ⟨rfl, rfl⟩
  exact ⟨_, rfl, rfl, Upd.nil _⟩
theorem indexByte_any (s : ByteArray) (c : Int) (w : World) : Calls Tryd.prog 50 #[.string s, .int .u8 c] w (Ret fun v w' => v = .int .i64 (Lib.indexByte s.data.toList c.toNat.toUInt8) ∧ Upd w [] w' []) := by
  refine ret_of (Tryd.strings_IndexByte s c w) ?_
  rintro e w' ⟨rfl, rfl⟩
  exact ⟨_, rfl, rfl, Upd.nil _⟩
/-- The pieces of a string at a byte. -/
def splitS (s sep : ByteArray) : List ByteArray := Lib.splitB sep 0 (Lib.countB s sep) s
theorem split_any (s sep : ByteArray) (w : World) (lw : Laid w) (hs : s.size ≤ 1000000) (h1 : 1 ≤ sep.size) :
    Calls Tryd.prog 17 #[.string s, .string sep] w (Ret fun v w' => ∃ a2 : Option Addr, ∃ c2 : Nat, v = .slice a2 (splitS s sep).length c2 ∧ Upd w [] w' [rowT tyS (.slice a2 (splitS s sep).length c2) 9 (splitS s sep)]) := by
  obtain ⟨m, hm⟩ := lw.ml
  refine ret_of (Tryd.strings_Split s sep m w (by omega) hm h1) ?_
  rintro e w' ⟨rfl, rfl⟩
  have hl : (splitS s sep).length = Lib.countB s sep + 1 := Lib.splitB_all sep h1 0 _ s rfl
  have hle := Lib.countB_le sep h1 s.size s (Nat.le_refl _)
  refine ⟨_, rfl, some ⟨w.heap.size, 0, none⟩, (splitS s sep).length, by rw [hl], ?_⟩
  have hm := own_made (n := (splitS s sep).length) (sz := 1) (Upd.alloc w ((splitS s sep).map Value.string).toArray 9) (by simp) (by omega)
  have hx : ((splitS s sep).map Value.string).toArray.toList = tyS.all (splitS s sep) := by
    show (splitS s sep).map Value.string = (splitS s sep).flatMap fun x => [Value.string x]
    generalize splitS s sep = l
    induction l with
    | nil => rfl
    | cons x l ih => simp [ih]
  rw [hx] at hm
  exact hm
theorem join_any (a : Option Addr) (xs : List ByteArray) (c : Nat) (sep : ByteArray) (w : World) (hp : Hp w [rowT tyS (.slice a xs.length c) 9 xs]) (hlen : (Lib.join (xs.map (·.data.toList)) sep.data.toList).length ≤ 1000000000000) (hne : xs ≠ []) (hN : xs.length ≤ 1000000) :
    Calls Tryd.prog 28 #[.slice a xs.length c, .string sep] w (Ret fun v w' => v = .string ⟨(Lib.join (xs.map (·.data.toList)) sep.data.toList).toArray⟩ ∧ Upd w [rowT tyS (.slice a xs.length c) 9 xs] w' [rowT tyS (.slice a xs.length c) 9 xs]) := by
  have ho := row_own (hp.holds _ (List.mem_singleton.2 rfl))
  rcases ho.2 with ⟨h1, h2⟩ | ⟨g, cap, cur, h1, _, hg, hcap, hcm, _⟩
  · exact absurd (List.length_eq_zero_iff.1 h2) hne
  · injection h1 with e1 e2 e3
    subst e1 e3
    have hcell := ho.cells (g := g) rfl
    have hx : ∀ (j : Nat) x, xs[j]? = some x → (tyS.all xs)[j]? = some (.string x) := fun j x hj => by
      have he : tyS.all xs = xs.map Value.string := by
        show (xs.flatMap fun x => [Value.string x]) = _
        generalize xs = l
        induction l with
        | nil => rfl
        | cons x l ih => simp [ih]
      rw [he, List.getElem?_map, hj]; rfl
    have hmx : maxLen = 9223372036854775807 := rfl
    refine ret_of (Tryd.strings_Join g 0 c xs sep w (fun j x hj => by have := hcell j _ (hx j x hj); rw [add_off] at this; exact this) (lt_of_obj hg) (by omega) hcap (by omega)) ?_
    rintro e w' ⟨rfl, hb⟩
    exact ⟨_, rfl, rfl, upd_below hp hb⟩
end Go.Proofs.YtnjjjmpdikpjaabDoor


/- Proved here: what strings.Builder's own check does, and what it holds as a string; conditions: those of each theorem. -/
namespace Go.Proofs.YtnjjjmpdikpjaabDoor
open Go Go.Sx Go.RowKit
set_option linter.unusedVariables false
set_option linter.unusedSimpArgs false
set_option maxRecDepth 100000
theorem info71 : ∃ j, Tryd.prog.info? 71 = some j ∧ j.size = 2 := by
  obtain ⟨j, h1, h2, _⟩ := szOf_info sz71
  exact ⟨j, h1, h2⟩
set_option maxHeartbeats 2000000 in
theorem copyCheck_used (b : Nat) (v : Value) (w : World) (hp : Hp w [blk b #[.pointer (some ⟨b, 0, none⟩), v] 71]) :
    Calls Tryd.prog 45 #[.pointer (some ⟨b, 0, none⟩)] w (Ret fun r w' => r = .tuple #[] ∧ Upd w [blk b #[.pointer (some ⟨b, 0, none⟩), v] 71] w' [blk b #[.pointer (some ⟨b, 0, none⟩), v] 71]) := by
  have hb := hp.blk (List.mem_singleton.2 rfl)
  obtain ⟨j, hj, _⟩ := info71
  have h0 : w.cell? ⟨b, 0, none⟩ = some (.pointer (some ⟨b, 0, none⟩)) := by rw [cells_of_blk hb]; rfl
  refine ret_of (Q := fun e w' => e = .returned (.tuple #[]) ∧ w' = w) ?_ (by rintro e w' ⟨rfl, rfl⟩; exact ⟨_, rfl, rfl, Upd.refl hp⟩)
  have t68 := Tryd.underlying68
  have t100 := Tryd.underlying100
  go_enter Tryd.func45, Tryd.ntmps45
  go_wp2
  rw [Lib.run_neq_ptr_same w _ Tryd.underlying68 hj]
  go_wp2
  go_end0
  exact ⟨rfl, rfl⟩
set_option maxHeartbeats 2000000 in
theorem copyCheck_fresh (b : Nat) (v : Value) (w : World) (hp : Hp w [blk b #[.pointer none, v] 71]) :
    Calls Tryd.prog 45 #[.pointer (some ⟨b, 0, none⟩)] w (Ret fun r w' => r = .tuple #[] ∧ Upd w [blk b #[.pointer none, v] 71] w' [blk b #[.pointer (some ⟨b, 0, none⟩), v] 71]) := by
  have hb := hp.blk (List.mem_singleton.2 rfl)
  obtain ⟨j, hj, hjs⟩ := info71
  have h0 : w.cell? ⟨b, 0, none⟩ = some (.pointer none) := by rw [cells_of_blk hb]; rfl
  have hsh : w.shape? b = some (71, 2) := by simp [World.shape?, hb]
  have hfz : w.frozen? ⟨b, 0, none⟩ = false := by simp [World.frozen?, hb]
  refine ret_of (Q := fun e w' => e = .returned (.tuple #[]) ∧ w' = w.setCell ⟨b, 0, none⟩ (.pointer (some ⟨b, 0, none⟩))) ?_ (by rintro e w' ⟨rfl, rfl⟩; exact ⟨_, rfl, rfl, by have := Upd.setCell hb 0 (.pointer (some ⟨b, 0, none⟩)); simpa using this⟩)
  go_enter Tryd.func45, Tryd.ntmps45
  go_wp2
  rw [Lib.run_to_unsafe w ⟨b, 0, none⟩ Tryd.underlying68 Tryd.underlying100 hj (by rw [hjs]; decide) hsh (Nat.zero_lt_succ 1)]
  simp only [Result.andThen]
  rw [Oper.upon_value]
  go_wp2
  rw [run_callFunc_extern Tryd.func55 (by kernel_rfl) (by kernel_rfl) (by kernel_rfl) (e := Extern.AbiNoEscape.same) (by kernel_rfl)]
  rw [Lib.run_noEscape]
  simp only [Result.andThen]
  rw [Oper.upon_value]
  go_wp2
  rw [Lib.run_from_unsafe w ⟨b, 0, none⟩ Tryd.underlying100 Tryd.underlying68 hj hsh (by kernel_rfl)]
  simp only [Result.andThen]
  rw [Oper.upon_value]
  go_wp2
  go_end0
  exact ⟨rfl, rfl⟩
theorem copyCheck_any (b : Nat) (pv v : Value) (w : World) (hp : Hp w [blk b #[pv, v] 71]) (hpv : pv = .pointer none ∨ pv = .pointer (some ⟨b, 0, none⟩)) :
    Calls Tryd.prog 45 #[.pointer (some ⟨b, 0, none⟩)] w (Ret fun r w' => r = .tuple #[] ∧ Upd w [blk b #[pv, v] 71] w' [blk b #[.pointer (some ⟨b, 0, none⟩), v] 71]) := by
  rcases hpv with rfl | rfl
  · exact copyCheck_fresh b v w hp
  · exact copyCheck_used b v w hp
theorem copyCheck_b (g : Nat) (pv : Value) (ba : Option Addr) (bx : List Int) (bc : Nat) (w : World) (hp : Hp w [blk g #[pv, .slice ba bx.length bc] 71]) (hpv : pv = .pointer none ∨ pv = .pointer (some ⟨g, 0, none⟩)) :
    Calls Tryd.prog 45 #[.pointer (some ⟨g, 0, none⟩)] w (Ret fun r w' => r = .tuple #[] ∧ Upd w [blk g #[pv, .slice ba bx.length bc] 71] w' [blk g #[.pointer (some ⟨g, 0, none⟩), .slice ba bx.length bc] 71]) := copyCheck_any g pv _ w hp hpv
theorem byteCells_all (l : List UInt8) : Lib.byteCells l = (tyI .u8).all (l.map fun b => ((b.toNat : Nat) : Int)) := by
  rw [all_int, List.map_map]; rfl
/-- What a builder holds, as a string. -/
theorem builderString_any (b : Nat) (pv : Value) (a : Option Addr) (xs : List Int) (c : Nat) (w : World) (hp : Hp w [blk b #[pv, .slice a xs.length c] 71, rowT (tyI .u8) (.slice a xs.length c) 5 xs]) (hpv : pv = .pointer none ∨ pv = .pointer (some ⟨b, 0, none⟩)) (hxs : ∀ x, x ∈ xs → 0 ≤ x ∧ x ≤ 255) (w0 : World) (hw0 : w0.heap.size ≤ b) (hk : Keep [] w0 w) (hnew : ∀ g, a = some g → w0.heap.size ≤ g.block) :
    Calls Tryd.prog 34 #[.pointer (some ⟨b, 0, none⟩)] w (Ret fun r w' => r = .string (strOfNums xs) ∧ Upd w0 [] w' []) := by
  have hb := hp.blk (List.mem_cons_self ..)
  have ho := row_own (hp.holds _ (List.mem_cons_of_mem _ (List.mem_singleton.2 rfl)))
  have e1 : (tyI .u8).all xs = Lib.byteCells (xs.map fun n => UInt8.ofNat n.toNat) := by
    rw [byteCells_all, List.map_map]
    congr 1
    have : xs = xs.map id := by simp
    conv => lhs; rw [this]
    refine List.map_congr_left fun x hx => ?_
    obtain ⟨h1, h2⟩ := hxs x hx
    simp only [id, Function.comp]
    rw [UInt8.toNat_ofNat']; omega
  have hB : w0.heap.size ≤ w.heap.size := hk.size
  have hown : w.ownsRow w0.heap.size 5 1 (.slice a xs.length c) (Lib.byteCells (xs.map fun n => UInt8.ofNat n.toNat)).length (Lib.byteCells (xs.map fun n => UInt8.ofNat n.toNat)) := by
    rw [← e1]
    have hl : ((tyI .u8).all xs).length = xs.length := by have := ho.1; simpa [tyI] using this
    rw [hl]
    refine ⟨ho.1, ?_⟩
    rcases ho.2 with ⟨h1, h2⟩ | ⟨g, cap, cur, h1, _, h4⟩
    · exact .inl ⟨h1, h2⟩
    · refine .inr ⟨g, cap, cur, h1, ?_, h4⟩
      injection h1 with e9 _ _
      exact hnew _ e9
  have hne : (Value.slice a xs.length c).ownBlock ≠ some b := fun h => by
    have := hp.nodup
    simp [ats, blk, rowT, row, h] at this
  have hat : Lib.IsBuilder 71 5 w0.heap.size b (Lib.byteCells (xs.map fun n => UInt8.ofNat n.toNat)) w := by
    rcases hpv with rfl | rfl
    · exact .inl ⟨hw0, _, hb, hown, hne⟩
    · exact .inr ⟨hw0, _, hb, hown, hne⟩
  refine ret_of (Tryd.Builder_String_any w0.heap.size b _ w hat hB) ?_
  rintro e w' ⟨rfl, hbel⟩
  refine ⟨_, rfl, rfl, upd_of_keep ⟨hbel.os.trans hk.os, hbel.tape.trans hk.tape, hbel.output.trans hk.output, Nat.le_trans hk.size hbel.size, fun k h1 h2 => (hbel.block k h1).trans (hk.block k h1 h2)⟩⟩
end Go.Proofs.YtnjjjmpdikpjaabDoor


/- Numerals read digit by digit: what has been read of a number's own text. Conditions: those of each theorem. -/
namespace Go.Sx
set_option linter.unusedVariables false
set_option linter.unusedSimpArgs false
theorem nd_le : ∀ (k u : Nat), 1 ≤ k → u < 10 ^ k → Lib.nDigits u ≤ k
  | 0, u, h, _ => by omega
  | k + 1, u, _, h => by
    by_cases hs : u < 10
    · rw [Lib.nDigits_small hs]; omega
    · rw [Lib.nDigits_big hs]
      rw [Nat.pow_succ] at h
      have hk : 1 ≤ k := by
        rcases Nat.eq_zero_or_pos k with rfl | h1
        · simp at h; omega
        · exact h1
      have := nd_le k (u / 10) hk (by omega)
      omega
/-- Where the digits begin. -/
def frZ (n : Int) : Nat := if n < 0 then 1 else 0
/-- What the first j digits say. -/
def pvZ (n : Int) (j : Nat) : Int := if n < 0 then -((n.natAbs / 10 ^ (Lib.nDigits n.natAbs - j) : Nat) : Int) else ((n.natAbs / 10 ^ (Lib.nDigits n.natAbs - j) : Nat) : Int)
theorem itoa_list (n : Int) : Lib.itoa n = (if n < 0 then [45] else []) ++ (List.range (Lib.nDigits n.natAbs)).map fun t => Lib.dg n.natAbs (Lib.nDigits n.natAbs - 1 - t) := by
  unfold Lib.itoa
  split
  · rw [Lib.decDigits_eq]; rfl
  · rw [show n.toNat = n.natAbs by omega, Lib.decDigits_eq]; rfl
theorem numB_len (n : Int) : (numB n).size = frZ n + Lib.nDigits n.natAbs := by
  have : (numB n).size = (Lib.itoa n).length := by simp [numB, ByteArray.size]
  rw [this, itoa_list]
  unfold frZ
  split <;> simp; omega
theorem numB_size20 {n : Int} (h : i64ok n) : (numB n).size ≤ 20 := by
  unfold i64ok at h
  have := nd_le 19 n.natAbs (by omega) (by omega)
  rw [numB_len]; unfold frZ; split <;> omega
theorem numB_head {n : Int} (h : n < 0) : bt (numB n) 0 = 45 := by
  unfold bt; rw [numB_data, itoa_list, if_pos h]; rfl
theorem numB_digit (n : Int) {j : Nat} (h : j < Lib.nDigits n.natAbs) : bt (numB n) (frZ n + j) = 48 + ((n.natAbs / 10 ^ (Lib.nDigits n.natAbs - 1 - j) % 10 : Nat) : Int) := by
  unfold bt; rw [numB_data, itoa_list]
  have key : ((if n < 0 then [45] else []) ++ (List.range (Lib.nDigits n.natAbs)).map fun t => Lib.dg n.natAbs (Lib.nDigits n.natAbs - 1 - t)).getD (frZ n + j) 0 = Lib.dg n.natAbs (Lib.nDigits n.natAbs - 1 - j) := by
    unfold frZ
    split
    · simp [List.getD_eq_getElem?_getD, Nat.add_comm 1 j, h]
    · simp [List.getD_eq_getElem?_getD, h]
  rw [key]
  unfold Lib.dg
  rw [digit_nat (Nat.mod_lt _ (by decide))]
  omega
theorem pv_start (n : Int) : pvZ n 0 = 0 := by
  have h := Lib.lt_pow_nDigits n.natAbs
  unfold pvZ
  rw [Nat.sub_zero, Nat.div_eq_of_lt h]; simp
theorem pv_end (n : Int) : pvZ n (Lib.nDigits n.natAbs) = n := by
  unfold pvZ
  rw [Nat.sub_self, Nat.pow_zero, Nat.div_one]; split <;> omega
theorem pv_step (n : Int) {j : Nat} (h : j < Lib.nDigits n.natAbs) : pvZ n (j + 1) = if n < 0 then pvZ n j * 10 - (bt (numB n) (frZ n + j) - 48) else pvZ n j * 10 + (bt (numB n) (frZ n + j) - 48) := by
  rw [numB_digit n h]
  unfold pvZ
  have e1 : Lib.nDigits n.natAbs - j = (Lib.nDigits n.natAbs - 1 - j) + 1 := by omega
  have e2 : Lib.nDigits n.natAbs - (j + 1) = Lib.nDigits n.natAbs - 1 - j := by omega
  rw [e1, e2, Nat.pow_succ, ← Nat.div_div_eq_div_mul]
  generalize n.natAbs / 10 ^ (Lib.nDigits n.natAbs - 1 - j) = q
  split <;> omega
theorem pv_range {n : Int} (h : i64ok n) (j : Nat) : i64ok (pvZ n j) := by
  have hq : n.natAbs / 10 ^ (Lib.nDigits n.natAbs - j) ≤ n.natAbs := Nat.div_le_self _ _
  unfold pvZ i64ok at *
  generalize n.natAbs / 10 ^ (Lib.nDigits n.natAbs - j) = q at hq ⊢
  split <;> omega
theorem pv_range10 {n : Int} (h : i64ok n) {j : Nat} (hj : j < Lib.nDigits n.natAbs) : i64ok (pvZ n j * 10) := by
  have h1 := pv_range h (j + 1)
  rw [pv_step n hj] at h1
  have hd := numB_digit n hj
  have h9 : n.natAbs / 10 ^ (Lib.nDigits n.natAbs - 1 - j) % 10 < 10 := Nat.mod_lt _ (by decide)
  have h2 : n < 0 → pvZ n j ≤ 0 := fun h => by unfold pvZ; rw [if_pos h]; generalize n.natAbs / _ = q; omega
  have h3 : ¬ n < 0 → 0 ≤ pvZ n j := fun h => by unfold pvZ; rw [if_neg h]; generalize n.natAbs / _ = q; omega
  unfold i64ok at *
  split at h1
  · have := h2 (by assumption); omega
  · have := h3 (by assumption); omega
theorem wrap_ok (x : Int) : i64ok (IntKind.i64.wrap x) := by
  have := Int.emod_nonneg x (show (18446744073709551616 : Int) ≠ 0 by decide)
  have := Int.emod_lt_of_pos x (show (0 : Int) < 18446744073709551616 by decide)
  simp only [IntKind.wrap, IntKind.signed, IntKind.bits, i64ok]
  simp
  omega
theorem wrap_id {x : Int} (h : i64ok x) : IntKind.i64.wrap x = x := wrap_i64 h.1 h.2
theorem from_one {s : ByteArray} {n : Int} (e : s = numB n) (h : bt s 0 = 45) : n < 0 := by
  subst e
  rcases Int.lt_or_le n 0 with h1 | h1
  · exact h1
  · have h0 : 0 < Lib.nDigits n.natAbs := Lib.nDigits_pos _
    have hd := numB_digit n h0
    have hf : frZ n = 0 := by unfold frZ; rw [if_neg (by omega)]
    rw [hf] at hd
    have h9 : n.natAbs / 10 ^ (Lib.nDigits n.natAbs - 1 - 0) % 10 < 10 := Nat.mod_lt _ (by decide)
    simp only [Nat.add_zero] at hd
    rw [hd] at h
    omega
theorem fr_of {s : ByteArray} {n : Int} (e : s = numB n) : frZ n = if 0 < s.size ∧ bt s 0 = 45 then 1 else 0 := by
  by_cases h : n < 0
  · have h1 : bt s 0 = 45 := by rw [e]; exact numB_head h
    have h2 : 0 < s.size := by rw [e, numB_len]; have := Lib.nDigits_pos n.natAbs; omega
    rw [if_pos ⟨h2, h1⟩]; unfold frZ; rw [if_pos h]
  · rw [if_neg (fun h9 => h (from_one e h9.2))]; unfold frZ; rw [if_neg h]
/-- What a reader that goes digit by digit has. -/
def RdI (s : ByteArray) (f i : Nat) (acc : Int) : Prop := i64ok acc ∧ ∀ n, i64ok n → s = numB n → f = frZ n ∧ acc = pvZ n (i - f)
theorem RdI.start {s : ByteArray} {f : Nat} (h : ∀ n, i64ok n → s = numB n → f = frZ n) : RdI s f f 0 := by
  refine ⟨⟨by decide, by decide⟩, fun n hn e => ⟨h n hn e, ?_⟩⟩
  rw [Nat.sub_self, pv_start]
theorem RdI.digit {s : ByteArray} {f i : Nat} {acc : Int} (h : RdI s f i acc) {n : Int} (hn : i64ok n) (e : s = numB n) (hi : i < s.size) (hf : f ≤ i) : ¬ (bt s i < 48 ∨ bt s i > 57) := by
  obtain ⟨h1, h2⟩ := h.2 n hn e
  have hl := numB_len n
  rw [← e] at hl
  have hd := numB_digit n (j := i - f) (by omega)
  rw [← e, ← h1, show f + (i - f) = i by omega] at hd
  have h9 : n.natAbs / 10 ^ (Lib.nDigits n.natAbs - 1 - (i - f)) % 10 < 10 := Nat.mod_lt _ (by decide)
  omega
theorem RdI.minus {s : ByteArray} {f i : Nat} {acc : Int} (h : RdI s f i acc) (hi : i < s.size) (hf : f ≤ i) (h1 : f = 1) (hlo : 48 ≤ bt s i) (hhi : bt s i ≤ 57) : RdI s f (i + 1) (IntKind.i64.wrap (IntKind.i64.wrap (acc * 10) - IntKind.i64.wrap (bt s i - 48))) := by
  refine ⟨wrap_ok _, fun n hn e => ?_⟩
  obtain ⟨e1, e2⟩ := h.2 n hn e
  have hl := numB_len n
  rw [← e] at hl
  have hj : i - f < Lib.nDigits n.natAbs := by omega
  have hneg : n < 0 := by
    rcases Int.lt_or_le n 0 with h2 | h2
    · exact h2
    · unfold frZ at e1; rw [if_neg (by omega)] at e1; omega
  have hs := pv_step n hj
  rw [if_pos hneg, ← e, ← e1, show f + (i - f) = i by omega] at hs
  have hr := pv_range hn (i - f + 1)
  refine ⟨e1, ?_⟩
  rw [e2, wrap_id (pv_range10 hn hj), wrap_id (x := bt s i - 48) (by unfold i64ok; omega), show i + 1 - f = i - f + 1 by omega, hs, wrap_id (by rw [← hs]; exact hr)]
theorem RdI.plus {s : ByteArray} {f i : Nat} {acc : Int} (h : RdI s f i acc) (hi : i < s.size) (hf : f ≤ i) (h1 : ¬ f = 1) (hlo : 48 ≤ bt s i) (hhi : bt s i ≤ 57) : RdI s f (i + 1) (IntKind.i64.wrap (IntKind.i64.wrap (acc * 10) + IntKind.i64.wrap (bt s i - 48))) := by
  refine ⟨wrap_ok _, fun n hn e => ?_⟩
  obtain ⟨e1, e2⟩ := h.2 n hn e
  have hl := numB_len n
  rw [← e] at hl
  have hj : i - f < Lib.nDigits n.natAbs := by omega
  have hneg : ¬ n < 0 := fun h2 => by unfold frZ at e1; rw [if_pos h2] at e1; omega
  have hs := pv_step n hj
  rw [if_neg hneg, ← e, ← e1, show f + (i - f) = i by omega] at hs
  have hr := pv_range hn (i - f + 1)
  refine ⟨e1, ?_⟩
  rw [e2, wrap_id (pv_range10 hn hj), wrap_id (x := bt s i - 48) (by unfold i64ok; omega), show i + 1 - f = i - f + 1 by omega, hs, wrap_id (by rw [← hs]; exact hr)]
theorem RdI.fin {s : ByteArray} {f i : Nat} {acc : Int} (h : RdI s f i acc) (hi : i = s.size) {n : Int} (hn : i64ok n) (e : s = numB n) : acc = n := by
  obtain ⟨e1, e2⟩ := h.2 n hn e
  have hl := numB_len n
  rw [← e] at hl
  rw [e2, hi, show s.size - f = Lib.nDigits n.natAbs by omega, pv_end]
end Go.Sx

