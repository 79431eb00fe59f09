/- The walks of functions, printed by wip/tools/gw.py. -/
import Derived.Test.YtkdcmklkggnblaaF1
import Derived.Test.YtkdcmklkggnblaaSx7
import Derived.Test.YtkdcmklkggnblaaOpd0
import Derived.Test.YtkdcmklkggnblaaSx8
namespace Go.Proofs.Ytkdcmklkggnblaa
open Go Go.Sx
set_option linter.unusedVariables false
set_option linter.unusedSimpArgs false
set_option maxRecDepth 20000 in
theorem rows_any  (w : World) :
    Calls Try.prog 53 #[] w (Ret fun v w' => ∃ a2 : Option Addr, ∃ c2 : Nat, v = .slice a2 opRows.length c2 ∧ Upd w [] w' [rowT tyOpRow (.slice a2 opRows.length c2) 87 opRows]) := by
  refine calls_of_W (args := []) Try.func53 rfl rfl rfl ?_
  have H0 : UpG w [] w [] := UpG.nil w
  show W _ _ _ _ [] w
  refine W.seq ?_
  refine W.region ?_
  refine WL.op rfl (d_assign rfl ?_)
  refine WL.done (X.then_code ?_)
  refine W.seq ?_
  refine W.region ?_
  refine WL.op rfl (d_build (cs := #[.string ⟨#[105, 110, 115, 101, 114, 116]⟩, .string ⟨#[65]⟩, .bool true]) rfl (by kernel_rfl) ?_)
  refine WL.op rfl (d_build (cs := #[.string ⟨#[100, 101, 108, 101, 116, 101]⟩, .string ⟨#[65, 76]⟩, .bool false]) rfl (by kernel_rfl) ?_)
  refine WL.op rfl (d_build (cs := #[.string ⟨#[114, 101, 112, 108, 97, 99, 101]⟩, .string ⟨#[65, 76]⟩, .bool true]) rfl (by kernel_rfl) ?_)
  refine WL.op rfl (d_build (cs := #[.string ⟨#[117, 110, 100, 111]⟩, .string ⟨#[]⟩, .bool false]) rfl (by kernel_rfl) ?_)
  refine WL.op rfl (d_build (cs := #[.string ⟨#[114, 101, 100, 111]⟩, .string ⟨#[]⟩, .bool false]) rfl (by kernel_rfl) ?_)
  refine WL.op rfl (d_build (cs := #[.string ⟨#[114, 101, 103, 105, 115, 116, 101, 114]⟩, .string ⟨#[]⟩, .bool true]) rfl (by kernel_rfl) ?_)
  refine WL.op rfl (d_build (cs := #[.string ⟨#[102, 111, 114, 103, 101, 116]⟩, .string ⟨#[83]⟩, .bool false]) rfl (by kernel_rfl) ?_)
  refine WL.op rfl (d_build (cs := #[.string ⟨#[99, 111, 117, 110, 116]⟩, .string ⟨#[83]⟩, .bool false]) rfl (by kernel_rfl) ?_)
  refine WL.op rfl (d_build (cs := #[.string ⟨#[110, 101, 120, 116]⟩, .string ⟨#[83, 65]⟩, .bool false]) rfl (by kernel_rfl) ?_)
  refine WL.op rfl (d_build (cs := #[.string ⟨#[112, 114, 101, 118]⟩, .string ⟨#[83, 65]⟩, .bool false]) rfl (by kernel_rfl) ?_)
  refine WL.op rfl (d_build (cs := #[.string ⟨#[108, 105, 115, 116]⟩, .string ⟨#[83, 65, 76]⟩, .bool false]) rfl (by kernel_rfl) ?_)
  refine WL.op rfl (d_build (cs := #[.string ⟨#[105, 115]⟩, .string ⟨#[83]⟩, .bool false]) rfl (by kernel_rfl) ?_)
  refine WL.op rfl (d_build (cs := #[.string ⟨#[101, 110, 100]⟩, .string ⟨#[83, 65]⟩, .bool false]) rfl (by kernel_rfl) ?_)
  refine WL.op rfl (d_build (cs := #[.string ⟨#[114, 101, 97, 100]⟩, .string ⟨#[65, 76]⟩, .bool false]) rfl (by kernel_rfl) ?_)
  refine WL.op rfl (d_build (cs := #[.string ⟨#[115, 105, 122, 101]⟩, .string ⟨#[]⟩, .bool false]) rfl (by kernel_rfl) ?_)
  refine WL.op rfl (d_build (cs := #[.string ⟨#[108, 105, 110, 101]⟩, .string ⟨#[65]⟩, .bool false]) rfl (by kernel_rfl) ?_)
  refine WL.op rfl (d_build (cs := #[.string ⟨#[111, 102, 102, 115, 101, 116]⟩, .string ⟨#[65, 76]⟩, .bool false]) rfl (by kernel_rfl) ?_)
  refine WL.op rfl (d_build (cs := #[.string ⟨#[115, 119, 97, 112]⟩, .string ⟨#[83]⟩, .bool true]) rfl (by kernel_rfl) ?_)
  refine WL.op rfl (d_build (cs := #[.string ⟨#[109, 97, 114, 107]⟩, .string ⟨#[65, 76]⟩, .bool false]) rfl (by kernel_rfl) ?_)
  refine WL.op rfl (d_build (cs := #[.string ⟨#[112, 108, 97, 99, 101]⟩, .string ⟨#[83]⟩, .bool false]) rfl (by kernel_rfl) ?_)
  refine WL.op rfl (d_build (cs := #[.string ⟨#[119, 97, 116, 99, 104]⟩, .string ⟨#[83, 76]⟩, .bool false]) rfl (by kernel_rfl) ?_)
  refine WL.op rfl (d_build (cs := #[.string ⟨#[109, 101, 114, 103, 101]⟩, .string ⟨#[65, 76]⟩, .bool false]) rfl (by kernel_rfl) ?_)
  refine WL.op rfl (d_build (cs := #[.string ⟨#[101, 118, 105, 99, 116]⟩, .string ⟨#[76]⟩, .bool false]) rfl (by kernel_rfl) ?_)
  refine WL.op rfl (d_build (cs := #[.string ⟨#[99, 111, 109, 112, 97, 99, 116]⟩, .string ⟨#[]⟩, .bool false]) rfl (by kernel_rfl) ?_)
  refine WL.op rfl (t_buildSlice (T := tyOpRow) (xs := ([⟨⟨#[105, 110, 115, 101, 114, 116]⟩, ⟨#[65]⟩, true⟩, ⟨⟨#[100, 101, 108, 101, 116, 101]⟩, ⟨#[65, 76]⟩, false⟩, ⟨⟨#[114, 101, 112, 108, 97, 99, 101]⟩, ⟨#[65, 76]⟩, true⟩, ⟨⟨#[117, 110, 100, 111]⟩, ⟨#[]⟩, false⟩, ⟨⟨#[114, 101, 100, 111]⟩, ⟨#[]⟩, false⟩, ⟨⟨#[114, 101, 103, 105, 115, 116, 101, 114]⟩, ⟨#[]⟩, true⟩, ⟨⟨#[102, 111, 114, 103, 101, 116]⟩, ⟨#[83]⟩, false⟩, ⟨⟨#[99, 111, 117, 110, 116]⟩, ⟨#[83]⟩, false⟩, ⟨⟨#[110, 101, 120, 116]⟩, ⟨#[83, 65]⟩, false⟩, ⟨⟨#[112, 114, 101, 118]⟩, ⟨#[83, 65]⟩, false⟩, ⟨⟨#[108, 105, 115, 116]⟩, ⟨#[83, 65, 76]⟩, false⟩, ⟨⟨#[105, 115]⟩, ⟨#[83]⟩, false⟩, ⟨⟨#[101, 110, 100]⟩, ⟨#[83, 65]⟩, false⟩, ⟨⟨#[114, 101, 97, 100]⟩, ⟨#[65, 76]⟩, false⟩, ⟨⟨#[115, 105, 122, 101]⟩, ⟨#[]⟩, false⟩, ⟨⟨#[108, 105, 110, 101]⟩, ⟨#[65]⟩, false⟩, ⟨⟨#[111, 102, 102, 115, 101, 116]⟩, ⟨#[65, 76]⟩, false⟩, ⟨⟨#[115, 119, 97, 112]⟩, ⟨#[83]⟩, true⟩, ⟨⟨#[109, 97, 114, 107]⟩, ⟨#[65, 76]⟩, false⟩, ⟨⟨#[112, 108, 97, 99, 101]⟩, ⟨#[83]⟩, false⟩, ⟨⟨#[119, 97, 116, 99, 104]⟩, ⟨#[83, 76]⟩, false⟩, ⟨⟨#[109, 101, 114, 103, 101]⟩, ⟨#[65, 76]⟩, false⟩, ⟨⟨#[101, 118, 105, 99, 116]⟩, ⟨#[76]⟩, false⟩, ⟨⟨#[99, 111, 109, 112, 97, 99, 116]⟩, ⟨#[]⟩, false⟩] : List OpRow)) (cs := #[.string ⟨#[105, 110, 115, 101, 114, 116]⟩, .string ⟨#[65]⟩, .bool true, .string ⟨#[100, 101, 108, 101, 116, 101]⟩, .string ⟨#[65, 76]⟩, .bool false, .string ⟨#[114, 101, 112, 108, 97, 99, 101]⟩, .string ⟨#[65, 76]⟩, .bool true, .string ⟨#[117, 110, 100, 111]⟩, .string ⟨#[]⟩, .bool false, .string ⟨#[114, 101, 100, 111]⟩, .string ⟨#[]⟩, .bool false, .string ⟨#[114, 101, 103, 105, 115, 116, 101, 114]⟩, .string ⟨#[]⟩, .bool true, .string ⟨#[102, 111, 114, 103, 101, 116]⟩, .string ⟨#[83]⟩, .bool false, .string ⟨#[99, 111, 117, 110, 116]⟩, .string ⟨#[83]⟩, .bool false, .string ⟨#[110, 101, 120, 116]⟩, .string ⟨#[83, 65]⟩, .bool false, .string ⟨#[112, 114, 101, 118]⟩, .string ⟨#[83, 65]⟩, .bool false, .string ⟨#[108, 105, 115, 116]⟩, .string ⟨#[83, 65, 76]⟩, .bool false, .string ⟨#[105, 115]⟩, .string ⟨#[83]⟩, .bool false, .string ⟨#[101, 110, 100]⟩, .string ⟨#[83, 65]⟩, .bool false, .string ⟨#[114, 101, 97, 100]⟩, .string ⟨#[65, 76]⟩, .bool false, .string ⟨#[115, 105, 122, 101]⟩, .string ⟨#[]⟩, .bool false, .string ⟨#[108, 105, 110, 101]⟩, .string ⟨#[65]⟩, .bool false, .string ⟨#[111, 102, 102, 115, 101, 116]⟩, .string ⟨#[65, 76]⟩, .bool false, .string ⟨#[115, 119, 97, 112]⟩, .string ⟨#[83]⟩, .bool true, .string ⟨#[109, 97, 114, 107]⟩, .string ⟨#[65, 76]⟩, .bool false, .string ⟨#[112, 108, 97, 99, 101]⟩, .string ⟨#[83]⟩, .bool false, .string ⟨#[119, 97, 116, 99, 104]⟩, .string ⟨#[83, 76]⟩, .bool false, .string ⟨#[109, 101, 114, 103, 101]⟩, .string ⟨#[65, 76]⟩, .bool false, .string ⟨#[101, 118, 105, 99, 116]⟩, .string ⟨#[76]⟩, .bool false, .string ⟨#[99, 111, 109, 112, 97, 99, 116]⟩, .string ⟨#[]⟩, .bool false]) rfl Try.underlying96 sz87 rfl rfl rfl rfl (by kernel_rfl) rfl rfl fun w1 u1 => ?_)
  have H1 : UpG w [] w1 [[rowT tyOpRow (.slice (some ⟨w.heap.size, 0, none⟩) (([⟨⟨#[105, 110, 115, 101, 114, 116]⟩, ⟨#[65]⟩, true⟩, ⟨⟨#[100, 101, 108, 101, 116, 101]⟩, ⟨#[65, 76]⟩, false⟩, ⟨⟨#[114, 101, 112, 108, 97, 99, 101]⟩, ⟨#[65, 76]⟩, true⟩, ⟨⟨#[117, 110, 100, 111]⟩, ⟨#[]⟩, false⟩, ⟨⟨#[114, 101, 100, 111]⟩, ⟨#[]⟩, false⟩, ⟨⟨#[114, 101, 103, 105, 115, 116, 101, 114]⟩, ⟨#[]⟩, true⟩, ⟨⟨#[102, 111, 114, 103, 101, 116]⟩, ⟨#[83]⟩, false⟩, ⟨⟨#[99, 111, 117, 110, 116]⟩, ⟨#[83]⟩, false⟩, ⟨⟨#[110, 101, 120, 116]⟩, ⟨#[83, 65]⟩, false⟩, ⟨⟨#[112, 114, 101, 118]⟩, ⟨#[83, 65]⟩, false⟩, ⟨⟨#[108, 105, 115, 116]⟩, ⟨#[83, 65, 76]⟩, false⟩, ⟨⟨#[105, 115]⟩, ⟨#[83]⟩, false⟩, ⟨⟨#[101, 110, 100]⟩, ⟨#[83, 65]⟩, false⟩, ⟨⟨#[114, 101, 97, 100]⟩, ⟨#[65, 76]⟩, false⟩, ⟨⟨#[115, 105, 122, 101]⟩, ⟨#[]⟩, false⟩, ⟨⟨#[108, 105, 110, 101]⟩, ⟨#[65]⟩, false⟩, ⟨⟨#[111, 102, 102, 115, 101, 116]⟩, ⟨#[65, 76]⟩, false⟩, ⟨⟨#[115, 119, 97, 112]⟩, ⟨#[83]⟩, true⟩, ⟨⟨#[109, 97, 114, 107]⟩, ⟨#[65, 76]⟩, false⟩, ⟨⟨#[112, 108, 97, 99, 101]⟩, ⟨#[83]⟩, false⟩, ⟨⟨#[119, 97, 116, 99, 104]⟩, ⟨#[83, 76]⟩, false⟩, ⟨⟨#[109, 101, 114, 103, 101]⟩, ⟨#[65, 76]⟩, false⟩, ⟨⟨#[101, 118, 105, 99, 116]⟩, ⟨#[76]⟩, false⟩, ⟨⟨#[99, 111, 109, 112, 97, 99, 116]⟩, ⟨#[]⟩, false⟩] : List OpRow).length) (([⟨⟨#[105, 110, 115, 101, 114, 116]⟩, ⟨#[65]⟩, true⟩, ⟨⟨#[100, 101, 108, 101, 116, 101]⟩, ⟨#[65, 76]⟩, false⟩, ⟨⟨#[114, 101, 112, 108, 97, 99, 101]⟩, ⟨#[65, 76]⟩, true⟩, ⟨⟨#[117, 110, 100, 111]⟩, ⟨#[]⟩, false⟩, ⟨⟨#[114, 101, 100, 111]⟩, ⟨#[]⟩, false⟩, ⟨⟨#[114, 101, 103, 105, 115, 116, 101, 114]⟩, ⟨#[]⟩, true⟩, ⟨⟨#[102, 111, 114, 103, 101, 116]⟩, ⟨#[83]⟩, false⟩, ⟨⟨#[99, 111, 117, 110, 116]⟩, ⟨#[83]⟩, false⟩, ⟨⟨#[110, 101, 120, 116]⟩, ⟨#[83, 65]⟩, false⟩, ⟨⟨#[112, 114, 101, 118]⟩, ⟨#[83, 65]⟩, false⟩, ⟨⟨#[108, 105, 115, 116]⟩, ⟨#[83, 65, 76]⟩, false⟩, ⟨⟨#[105, 115]⟩, ⟨#[83]⟩, false⟩, ⟨⟨#[101, 110, 100]⟩, ⟨#[83, 65]⟩, false⟩, ⟨⟨#[114, 101, 97, 100]⟩, ⟨#[65, 76]⟩, false⟩, ⟨⟨#[115, 105, 122, 101]⟩, ⟨#[]⟩, false⟩, ⟨⟨#[108, 105, 110, 101]⟩, ⟨#[65]⟩, false⟩, ⟨⟨#[111, 102, 102, 115, 101, 116]⟩, ⟨#[65, 76]⟩, false⟩, ⟨⟨#[115, 119, 97, 112]⟩, ⟨#[83]⟩, true⟩, ⟨⟨#[109, 97, 114, 107]⟩, ⟨#[65, 76]⟩, false⟩, ⟨⟨#[112, 108, 97, 99, 101]⟩, ⟨#[83]⟩, false⟩, ⟨⟨#[119, 97, 116, 99, 104]⟩, ⟨#[83, 76]⟩, false⟩, ⟨⟨#[109, 101, 114, 103, 101]⟩, ⟨#[65, 76]⟩, false⟩, ⟨⟨#[101, 118, 105, 99, 116]⟩, ⟨#[76]⟩, false⟩, ⟨⟨#[99, 111, 109, 112, 97, 99, 116]⟩, ⟨#[]⟩, false⟩] : List OpRow).length)) 87 ([⟨⟨#[105, 110, 115, 101, 114, 116]⟩, ⟨#[65]⟩, true⟩, ⟨⟨#[100, 101, 108, 101, 116, 101]⟩, ⟨#[65, 76]⟩, false⟩, ⟨⟨#[114, 101, 112, 108, 97, 99, 101]⟩, ⟨#[65, 76]⟩, true⟩, ⟨⟨#[117, 110, 100, 111]⟩, ⟨#[]⟩, false⟩, ⟨⟨#[114, 101, 100, 111]⟩, ⟨#[]⟩, false⟩, ⟨⟨#[114, 101, 103, 105, 115, 116, 101, 114]⟩, ⟨#[]⟩, true⟩, ⟨⟨#[102, 111, 114, 103, 101, 116]⟩, ⟨#[83]⟩, false⟩, ⟨⟨#[99, 111, 117, 110, 116]⟩, ⟨#[83]⟩, false⟩, ⟨⟨#[110, 101, 120, 116]⟩, ⟨#[83, 65]⟩, false⟩, ⟨⟨#[112, 114, 101, 118]⟩, ⟨#[83, 65]⟩, false⟩, ⟨⟨#[108, 105, 115, 116]⟩, ⟨#[83, 65, 76]⟩, false⟩, ⟨⟨#[105, 115]⟩, ⟨#[83]⟩, false⟩, ⟨⟨#[101, 110, 100]⟩, ⟨#[83, 65]⟩, false⟩, ⟨⟨#[114, 101, 97, 100]⟩, ⟨#[65, 76]⟩, false⟩, ⟨⟨#[115, 105, 122, 101]⟩, ⟨#[]⟩, false⟩, ⟨⟨#[108, 105, 110, 101]⟩, ⟨#[65]⟩, false⟩, ⟨⟨#[111, 102, 102, 115, 101, 116]⟩, ⟨#[65, 76]⟩, false⟩, ⟨⟨#[115, 119, 97, 112]⟩, ⟨#[83]⟩, true⟩, ⟨⟨#[109, 97, 114, 107]⟩, ⟨#[65, 76]⟩, false⟩, ⟨⟨#[112, 108, 97, 99, 101]⟩, ⟨#[83]⟩, false⟩, ⟨⟨#[119, 97, 116, 99, 104]⟩, ⟨#[83, 76]⟩, false⟩, ⟨⟨#[109, 101, 114, 103, 101]⟩, ⟨#[65, 76]⟩, false⟩, ⟨⟨#[101, 118, 105, 99, 116]⟩, ⟨#[76]⟩, false⟩, ⟨⟨#[99, 111, 109, 112, 97, 99, 116]⟩, ⟨#[]⟩, false⟩] : List OpRow)]] := H0.new' u1
  refine WL.op rfl (d_assign rfl ?_)
  refine WL.done (X.then_code ?_)
  refine W.pick [0] (Γ' := [(0, .slice (some ⟨w.heap.size, 0, none⟩) (([⟨⟨#[105, 110, 115, 101, 114, 116]⟩, ⟨#[65]⟩, true⟩, ⟨⟨#[100, 101, 108, 101, 116, 101]⟩, ⟨#[65, 76]⟩, false⟩, ⟨⟨#[114, 101, 112, 108, 97, 99, 101]⟩, ⟨#[65, 76]⟩, true⟩, ⟨⟨#[117, 110, 100, 111]⟩, ⟨#[]⟩, false⟩, ⟨⟨#[114, 101, 100, 111]⟩, ⟨#[]⟩, false⟩, ⟨⟨#[114, 101, 103, 105, 115, 116, 101, 114]⟩, ⟨#[]⟩, true⟩, ⟨⟨#[102, 111, 114, 103, 101, 116]⟩, ⟨#[83]⟩, false⟩, ⟨⟨#[99, 111, 117, 110, 116]⟩, ⟨#[83]⟩, false⟩, ⟨⟨#[110, 101, 120, 116]⟩, ⟨#[83, 65]⟩, false⟩, ⟨⟨#[112, 114, 101, 118]⟩, ⟨#[83, 65]⟩, false⟩, ⟨⟨#[108, 105, 115, 116]⟩, ⟨#[83, 65, 76]⟩, false⟩, ⟨⟨#[105, 115]⟩, ⟨#[83]⟩, false⟩, ⟨⟨#[101, 110, 100]⟩, ⟨#[83, 65]⟩, false⟩, ⟨⟨#[114, 101, 97, 100]⟩, ⟨#[65, 76]⟩, false⟩, ⟨⟨#[115, 105, 122, 101]⟩, ⟨#[]⟩, false⟩, ⟨⟨#[108, 105, 110, 101]⟩, ⟨#[65]⟩, false⟩, ⟨⟨#[111, 102, 102, 115, 101, 116]⟩, ⟨#[65, 76]⟩, false⟩, ⟨⟨#[115, 119, 97, 112]⟩, ⟨#[83]⟩, true⟩, ⟨⟨#[109, 97, 114, 107]⟩, ⟨#[65, 76]⟩, false⟩, ⟨⟨#[112, 108, 97, 99, 101]⟩, ⟨#[83]⟩, false⟩, ⟨⟨#[119, 97, 116, 99, 104]⟩, ⟨#[83, 76]⟩, false⟩, ⟨⟨#[109, 101, 114, 103, 101]⟩, ⟨#[65, 76]⟩, false⟩, ⟨⟨#[101, 118, 105, 99, 116]⟩, ⟨#[76]⟩, false⟩, ⟨⟨#[99, 111, 109, 112, 97, 99, 116]⟩, ⟨#[]⟩, false⟩] : List OpRow).length) (([⟨⟨#[105, 110, 115, 101, 114, 116]⟩, ⟨#[65]⟩, true⟩, ⟨⟨#[100, 101, 108, 101, 116, 101]⟩, ⟨#[65, 76]⟩, false⟩, ⟨⟨#[114, 101, 112, 108, 97, 99, 101]⟩, ⟨#[65, 76]⟩, true⟩, ⟨⟨#[117, 110, 100, 111]⟩, ⟨#[]⟩, false⟩, ⟨⟨#[114, 101, 100, 111]⟩, ⟨#[]⟩, false⟩, ⟨⟨#[114, 101, 103, 105, 115, 116, 101, 114]⟩, ⟨#[]⟩, true⟩, ⟨⟨#[102, 111, 114, 103, 101, 116]⟩, ⟨#[83]⟩, false⟩, ⟨⟨#[99, 111, 117, 110, 116]⟩, ⟨#[83]⟩, false⟩, ⟨⟨#[110, 101, 120, 116]⟩, ⟨#[83, 65]⟩, false⟩, ⟨⟨#[112, 114, 101, 118]⟩, ⟨#[83, 65]⟩, false⟩, ⟨⟨#[108, 105, 115, 116]⟩, ⟨#[83, 65, 76]⟩, false⟩, ⟨⟨#[105, 115]⟩, ⟨#[83]⟩, false⟩, ⟨⟨#[101, 110, 100]⟩, ⟨#[83, 65]⟩, false⟩, ⟨⟨#[114, 101, 97, 100]⟩, ⟨#[65, 76]⟩, false⟩, ⟨⟨#[115, 105, 122, 101]⟩, ⟨#[]⟩, false⟩, ⟨⟨#[108, 105, 110, 101]⟩, ⟨#[65]⟩, false⟩, ⟨⟨#[111, 102, 102, 115, 101, 116]⟩, ⟨#[65, 76]⟩, false⟩, ⟨⟨#[115, 119, 97, 112]⟩, ⟨#[83]⟩, true⟩, ⟨⟨#[109, 97, 114, 107]⟩, ⟨#[65, 76]⟩, false⟩, ⟨⟨#[112, 108, 97, 99, 101]⟩, ⟨#[83]⟩, false⟩, ⟨⟨#[119, 97, 116, 99, 104]⟩, ⟨#[83, 76]⟩, false⟩, ⟨⟨#[109, 101, 114, 103, 101]⟩, ⟨#[65, 76]⟩, false⟩, ⟨⟨#[101, 118, 105, 99, 116]⟩, ⟨#[76]⟩, false⟩, ⟨⟨#[99, 111, 109, 112, 97, 99, 116]⟩, ⟨#[]⟩, false⟩] : List OpRow).length))]) rfl ?_
  refine W.ret (X.ret1 rfl rfl ?_)
  exact ⟨(some ⟨w.heap.size, 0, none⟩), ([⟨⟨#[105, 110, 115, 101, 114, 116]⟩, ⟨#[65]⟩, true⟩, ⟨⟨#[100, 101, 108, 101, 116, 101]⟩, ⟨#[65, 76]⟩, false⟩, ⟨⟨#[114, 101, 112, 108, 97, 99, 101]⟩, ⟨#[65, 76]⟩, true⟩, ⟨⟨#[117, 110, 100, 111]⟩, ⟨#[]⟩, false⟩, ⟨⟨#[114, 101, 100, 111]⟩, ⟨#[]⟩, false⟩, ⟨⟨#[114, 101, 103, 105, 115, 116, 101, 114]⟩, ⟨#[]⟩, true⟩, ⟨⟨#[102, 111, 114, 103, 101, 116]⟩, ⟨#[83]⟩, false⟩, ⟨⟨#[99, 111, 117, 110, 116]⟩, ⟨#[83]⟩, false⟩, ⟨⟨#[110, 101, 120, 116]⟩, ⟨#[83, 65]⟩, false⟩, ⟨⟨#[112, 114, 101, 118]⟩, ⟨#[83, 65]⟩, false⟩, ⟨⟨#[108, 105, 115, 116]⟩, ⟨#[83, 65, 76]⟩, false⟩, ⟨⟨#[105, 115]⟩, ⟨#[83]⟩, false⟩, ⟨⟨#[101, 110, 100]⟩, ⟨#[83, 65]⟩, false⟩, ⟨⟨#[114, 101, 97, 100]⟩, ⟨#[65, 76]⟩, false⟩, ⟨⟨#[115, 105, 122, 101]⟩, ⟨#[]⟩, false⟩, ⟨⟨#[108, 105, 110, 101]⟩, ⟨#[65]⟩, false⟩, ⟨⟨#[111, 102, 102, 115, 101, 116]⟩, ⟨#[65, 76]⟩, false⟩, ⟨⟨#[115, 119, 97, 112]⟩, ⟨#[83]⟩, true⟩, ⟨⟨#[109, 97, 114, 107]⟩, ⟨#[65, 76]⟩, false⟩, ⟨⟨#[112, 108, 97, 99, 101]⟩, ⟨#[83]⟩, false⟩, ⟨⟨#[119, 97, 116, 99, 104]⟩, ⟨#[83, 76]⟩, false⟩, ⟨⟨#[109, 101, 114, 103, 101]⟩, ⟨#[65, 76]⟩, false⟩, ⟨⟨#[101, 118, 105, 99, 116]⟩, ⟨#[76]⟩, false⟩, ⟨⟨#[99, 111, 109, 112, 97, 99, 116]⟩, ⟨#[]⟩, false⟩] : List OpRow).length, (by rfl), (by have hh := H1.one 0 rfl; exact hh)⟩

set_option maxRecDepth 20000 in
theorem of_any (kind : Int) (w : World) :
    Calls Try.prog 50 #[.int .i64 kind] w (Ret fun v w' => v = .tuple #[.agg #[.string ((opRowAt kind).name), .string ((opRowAt kind).nums), .bool ((opRowAt kind).text)], .bool (okK kind)] ∧ Upd w [] w' []) := by
  have hlen : opRows.length = 24 := rfl
  refine calls_of_W (args := [.int .i64 kind]) Try.func50 rfl rfl rfl ?_
  have H0 : UpG w [] w [] := UpG.nil w
  show W _ _ _ _ [(0, .int .i64 kind)] w
  refine W.seq ?_
  refine W.region ?_
  refine WL.op rfl (d_alloc sz87 fun w1 u1 => ?_)
  have H1 : UpG w [] w1 [[blk w.heap.size #[.string ⟨#[]⟩, .string ⟨#[]⟩, .bool false] 87]] := H0.new' u1
  refine WL.op rfl (d_assign rfl ?_)
  refine WL.done (X.then_code ?_)
  refine W.seq ?_
  refine W.region ?_
  refine WL.op rfl (d_call ok53 rfl (Ret.calls (rows_any  w1  ) fun _ w2 p1 => ?_))
  obtain ⟨a2_1, c2_1, rfl, u2⟩ := p1
  have H2 : UpG w [] w2 [[blk w.heap.size #[.string ⟨#[]⟩, .string ⟨#[]⟩, .bool false] 87], [rowT tyOpRow (.slice a2_1 opRows.length c2_1) 87 opRows]] := (H1.new' u2).re rfl
  refine WL.op rfl (d_assign rfl ?_)
  refine WL.done (X.then_code ?_)
  refine W.seq ?_
  refine W.seq ?_
  refine W.region ?_
  refine WL.op rfl (d_move rfl ?_)
  refine WL.op rfl (d_cmp (decide (kind < (1 : Int))) rfl rfl rfl ?_)
  refine WL.op rfl (d_move rfl ?_)
  refine WL.part 8 (p := kind < (1 : Int)) rfl (fun g27 => ?_) (fun g27 => ?_)
  · skip
    refine WL.opN rfl rfl rfl rfl ?_
    refine WL.opN rfl rfl rfl rfl ?_
    refine WL.opN rfl rfl rfl rfl ?_
    refine WL.opN rfl rfl rfl rfl ?_
    refine WL.op rfl (d_pick rfl rfl ?_)
    refine WL.done (X.then_code ?_)
    refine W.ift rfl ?_
    refine W.seq ?_
    refine W.region ?_
    refine WL.op rfl (d_build (cs := #[.string ⟨#[]⟩, .string ⟨#[]⟩, .bool false]) rfl (by kernel_rfl) ?_)
    refine WL.op0 (d_storeAB (us := [.string ⟨#[]⟩, .string ⟨#[]⟩, .bool false]) (cs' := #[.string ⟨#[]⟩, .string ⟨#[]⟩, .bool false]) sz87 rfl rfl rfl rfl (H2.blk 0 rfl) rfl rfl fun w3 u3 => ?_)
    have H3 : UpG w [] w3 [[blk w.heap.size #[.string ⟨#[]⟩, .string ⟨#[]⟩, .bool false] 87], [rowT tyOpRow (.slice a2_1 opRows.length c2_1) 87 opRows]] := H2.on 0 rfl u3
    refine WL.op rfl (d_assign rfl ?_)
    refine WL.done (X.then_code ?_)
    refine W.ret (X.then_ret (X.retR2 rfl (rv_cellA [.string ⟨#[]⟩, .string ⟨#[]⟩, .bool false] Try.underlying87 rfl sz87 rfl (H3.blk 0 rfl) rfl rfl) (rv_tmp rfl) ?_))
    have e : okK kind = false := by simp [okK]; omega
    have e2 : opRowAt kind = ⟨⟨#[]⟩, ⟨#[]⟩, false⟩ := by simp [opRowAt, e]
    rw [e, e2]
    exact ⟨(by rfl), H3.noneL⟩
  · skip
    refine WL.opG rfl rfl rfl (d_move rfl ?_)
    refine WL.opG rfl rfl rfl (d_move rfl ?_)
    refine WL.opG rfl rfl rfl (d_lenS Try.underlying96 rfl ?_)
    refine WL.opG rfl rfl rfl (d_cmp (decide (kind > ((opRows.length : Nat) : Int))) rfl rfl rfl ?_)
    refine WL.op rfl (d_pick rfl rfl ?_)
    refine WL.done (X.then_code ?_)
    refine W.ite (p := kind > ((opRows.length : Nat) : Int)) rfl (fun c27 => ?_) (fun c27 => ?_)
    · skip
      refine W.seq ?_
      refine W.region ?_
      refine WL.op rfl (d_build (cs := #[.string ⟨#[]⟩, .string ⟨#[]⟩, .bool false]) rfl (by kernel_rfl) ?_)
      refine WL.op0 (d_storeAB (us := [.string ⟨#[]⟩, .string ⟨#[]⟩, .bool false]) (cs' := #[.string ⟨#[]⟩, .string ⟨#[]⟩, .bool false]) sz87 rfl rfl rfl rfl (H2.blk 0 rfl) rfl rfl fun w4 u4 => ?_)
      have H4 : UpG w [] w4 [[blk w.heap.size #[.string ⟨#[]⟩, .string ⟨#[]⟩, .bool false] 87], [rowT tyOpRow (.slice a2_1 opRows.length c2_1) 87 opRows]] := H2.on 0 rfl u4
      refine WL.op rfl (d_assign rfl ?_)
      refine WL.done (X.then_code ?_)
      refine W.ret (X.then_ret (X.retR2 rfl (rv_cellA [.string ⟨#[]⟩, .string ⟨#[]⟩, .bool false] Try.underlying87 rfl sz87 rfl (H4.blk 0 rfl) rfl rfl) (rv_tmp rfl) ?_))
      have e : okK kind = false := by simp [okK]; omega
      have e2 : opRowAt kind = ⟨⟨#[]⟩, ⟨#[]⟩, false⟩ := by simp [opRowAt, e]
      rw [e, e2]
      exact ⟨(by rfl), H4.noneL⟩
    · skip
      refine W.skip (X.then_code ?_)
      refine W.seq ?_
      refine W.region ?_
      refine WL.op rfl (d_move rfl ?_)
      refine WL.op rfl (d_move rfl ?_)
      refine WL.op rfl (d_sub rfl rfl (by omega) (by omega) ?_)
      refine WL.op rfl (t_addrN ((kind - 1).toNat) (T := tyOpRow) rfl Try.underlying96 sz87 rfl rfl (H2.rdT 1 rfl) (by omega) (by omega) ?_)
      refine WL.op rfl (t_loadN ((kind - 1).toNat) opRow0 (T := tyOpRow) (us := [.string ((opRows.getD ((kind - 1).toNat) opRow0).name), .string ((opRows.getD ((kind - 1).toNat) opRow0).nums), .bool ((opRows.getD ((kind - 1).toNat) opRow0).text)]) rfl Try.underlying87 rfl sz87 rfl (H2.rdT 1 rfl) (by omega) rfl ?_)
      refine WL.op0 (d_storeAB (us := [.string ((opRows.getD ((kind - 1).toNat) opRow0).name), .string ((opRows.getD ((kind - 1).toNat) opRow0).nums), .bool ((opRows.getD ((kind - 1).toNat) opRow0).text)]) (cs' := #[.string ((opRows.getD ((kind - 1).toNat) opRow0).name), .string ((opRows.getD ((kind - 1).toNat) opRow0).nums), .bool ((opRows.getD ((kind - 1).toNat) opRow0).text)]) sz87 rfl rfl rfl rfl (H2.blk 0 rfl) rfl rfl fun w5 u5 => ?_)
      have H5 : UpG w [] w5 [[blk w.heap.size #[.string ((opRows.getD ((kind - 1).toNat) opRow0).name), .string ((opRows.getD ((kind - 1).toNat) opRow0).nums), .bool ((opRows.getD ((kind - 1).toNat) opRow0).text)] 87], [rowT tyOpRow (.slice a2_1 opRows.length c2_1) 87 opRows]] := H2.on 0 rfl u5
      refine WL.op rfl (d_assign rfl ?_)
      refine WL.done (X.then_code ?_)
      refine W.pick [3, 2] (Γ' := [(3, .bool true), (2, .pointer (some ⟨w.heap.size, 0, none⟩))]) rfl ?_
      refine W.ret (X.retR2 rfl (rv_cellA [.string ((opRows.getD ((kind - 1).toNat) opRow0).name), .string ((opRows.getD ((kind - 1).toNat) opRow0).nums), .bool ((opRows.getD ((kind - 1).toNat) opRow0).text)] Try.underlying87 rfl sz87 rfl (H5.blk 0 rfl) rfl rfl) (rv_tmp rfl) ?_)
      have e : okK kind = true := by simp [okK]; omega
      have e2 : opRowAt kind = opRows.getD (kind - 1).toNat opRow0 := by simp [opRowAt, e]
      rw [e, e2]
      exact ⟨(by rfl), H5.noneL⟩

set_option maxRecDepth 20000 in
theorem fieldL_any (og : Nat) (c : Int) (w : World) (hc1 : ¬ c = 83) (hc2 : ¬ c = 65) :
    Calls Try.prog 51 #[.pointer (some ⟨og, 0, none⟩), .int .u8 c] w (Ret fun v w' => v = .pointer (some ⟨og, 3, none⟩) ∧ Upd w [] w' []) := by
  refine calls_of_W (args := [.pointer (some ⟨og, 0, none⟩), .int .u8 c]) Try.func51 rfl rfl rfl ?_
  have H0 : UpG w [] w [] := UpG.nil w
  show W _ _ _ _ [(0, .pointer (some ⟨og, 0, none⟩)), (1, .int .u8 c)] w
  refine W.seq ?_
  refine W.region ?_
  refine WL.op rfl (d_assign rfl ?_)
  refine WL.done (X.then_code ?_)
  refine W.seq ?_
  refine W.seq ?_
  refine W.region ?_
  refine WL.op rfl (d_move rfl ?_)
  refine WL.done (X.then_code ?_)
  refine W.block ?_
  refine W.seq ?_
  refine W.region ?_
  refine WL.op rfl (d_cmp (decide (c = (83 : Int))) rfl rfl rfl ?_)
  refine WL.op rfl (d_assign rfl ?_)
  refine WL.done (X.then_code ?_)
  refine W.ite (p := c = (83 : Int)) rfl (fun c52 => ?_) (fun c52 => ?_)
  · skip
    exfalso; omega
  · skip
    refine W.seq ?_
    refine W.region ?_
    refine WL.op rfl (d_cmp (decide (c = (65 : Int))) rfl rfl rfl ?_)
    refine WL.op rfl (d_assign rfl ?_)
    refine WL.done (X.then_code ?_)
    refine W.ite (p := c = (65 : Int)) rfl (fun c54 => ?_) (fun c54 => ?_)
    · skip
      exfalso; omega
    · skip
      refine W.skip (X.block_normal (X.then_code ?_))
      refine W.seq ?_
      refine W.region ?_
      refine WL.op rfl (d_move rfl ?_)
      refine WL.op rfl (d_nilCheck rfl ?_)
      refine WL.op rfl (d_fieldAddrB fld55_3 rfl rfl ?_)
      refine WL.op rfl (d_assign rfl ?_)
      refine WL.done (X.then_code ?_)
      refine W.ret (X.ret1 rfl rfl ?_)
      exact ⟨rfl, H0.noneL⟩

set_option maxRecDepth 20000 in
theorem fieldA_any (og : Nat) (c : Int) (w : World) (hc : c = 65) :
    Calls Try.prog 51 #[.pointer (some ⟨og, 0, none⟩), .int .u8 c] w (Ret fun v w' => v = .pointer (some ⟨og, 2, none⟩) ∧ Upd w [] w' []) := by
  refine calls_of_W (args := [.pointer (some ⟨og, 0, none⟩), .int .u8 c]) Try.func51 rfl rfl rfl ?_
  have H0 : UpG w [] w [] := UpG.nil w
  show W _ _ _ _ [(0, .pointer (some ⟨og, 0, none⟩)), (1, .int .u8 c)] w
  refine W.seq ?_
  refine W.region ?_
  refine WL.op rfl (d_assign rfl ?_)
  refine WL.done (X.then_code ?_)
  refine W.seq ?_
  refine W.seq ?_
  refine W.region ?_
  refine WL.op rfl (d_move rfl ?_)
  refine WL.done (X.then_code ?_)
  refine W.block ?_
  refine W.seq ?_
  refine W.region ?_
  refine WL.op rfl (d_cmp (decide (c = (83 : Int))) rfl rfl rfl ?_)
  refine WL.op rfl (d_assign rfl ?_)
  refine WL.done (X.then_code ?_)
  refine W.ite (p := c = (83 : Int)) rfl (fun c52 => ?_) (fun c52 => ?_)
  · skip
    exfalso; omega
  · skip
    refine W.seq ?_
    refine W.region ?_
    refine WL.op rfl (d_cmp (decide (c = (65 : Int))) rfl rfl rfl ?_)
    refine WL.op rfl (d_assign rfl ?_)
    refine WL.done (X.then_code ?_)
    refine W.ite (p := c = (65 : Int)) rfl (fun c54 => ?_) (fun c54 => ?_)
    · skip
      refine W.seq ?_
      refine W.region ?_
      refine WL.op rfl (d_move rfl ?_)
      refine WL.op rfl (d_nilCheck rfl ?_)
      refine WL.op rfl (d_fieldAddrB fld55_2 rfl rfl ?_)
      refine WL.op rfl (d_assign rfl ?_)
      refine WL.done (X.then_code ?_)
      refine W.ret (X.block_ret (X.then_ret (X.ret1 rfl rfl ?_)))
      exact ⟨rfl, H0.noneL⟩
    · skip
      exfalso; omega

set_option maxRecDepth 20000 in
theorem fieldS_any (og : Nat) (c : Int) (w : World) (hc : c = 83) :
    Calls Try.prog 51 #[.pointer (some ⟨og, 0, none⟩), .int .u8 c] w (Ret fun v w' => v = .pointer (some ⟨og, 1, none⟩) ∧ Upd w [] w' []) := by
  refine calls_of_W (args := [.pointer (some ⟨og, 0, none⟩), .int .u8 c]) Try.func51 rfl rfl rfl ?_
  have H0 : UpG w [] w [] := UpG.nil w
  show W _ _ _ _ [(0, .pointer (some ⟨og, 0, none⟩)), (1, .int .u8 c)] w
  refine W.seq ?_
  refine W.region ?_
  refine WL.op rfl (d_assign rfl ?_)
  refine WL.done (X.then_code ?_)
  refine W.seq ?_
  refine W.seq ?_
  refine W.region ?_
  refine WL.op rfl (d_move rfl ?_)
  refine WL.done (X.then_code ?_)
  refine W.block ?_
  refine W.seq ?_
  refine W.region ?_
  refine WL.op rfl (d_cmp (decide (c = (83 : Int))) rfl rfl rfl ?_)
  refine WL.op rfl (d_assign rfl ?_)
  refine WL.done (X.then_code ?_)
  refine W.ite (p := c = (83 : Int)) rfl (fun c52 => ?_) (fun c52 => ?_)
  · skip
    refine W.seq ?_
    refine W.region ?_
    refine WL.op rfl (d_move rfl ?_)
    refine WL.op rfl (d_nilCheck rfl ?_)
    refine WL.op rfl (d_fieldAddrB fld55_1 rfl rfl ?_)
    refine WL.op rfl (d_assign rfl ?_)
    refine WL.done (X.then_code ?_)
    refine W.ret (X.block_ret (X.then_ret (X.ret1 rfl rfl ?_)))
    exact ⟨rfl, H0.noneL⟩
  · skip
    exfalso; omega

set_option maxRecDepth 20000 in
theorem opOf_any (r : RawD) (ra : Option Addr) (rc : Nat) (w : World) (rr : RdT (tyI .i64) w (.slice ra r.nums.length rc) r.nums) :
    Calls Try.prog 25 #[.agg #[.slice ra r.nums.length rc, .string r.text]] w (Ret fun v w' => v = .tuple #[.agg #[.int .i64 ((ofR r).1.kind), .int .i64 ((ofR r).1.slot), .int .i64 ((ofR r).1.at_), .int .i64 ((ofR r).1.len), .string ((ofR r).1.text)], .int .i64 ((ofR r).2)] ∧ Upd w [] w' []) := by
  have le_rr := rr.le
  refine calls_of_W (args := [.agg #[.slice ra r.nums.length rc, .string r.text]]) Try.func25 rfl rfl rfl ?_
  have H0 : UpG w [] w [] := UpG.nil w
  show W _ _ _ _ [(0, .agg #[.slice ra r.nums.length rc, .string r.text])] w
  refine W.seq ?_
  refine W.region ?_
  refine WL.op rfl (d_box rfl fun w1 u1 => ?_)
  have H1 : UpG w [] w1 [[blk w.heap.size #[.slice ra r.nums.length rc, .string r.text] 53]] := H0.new' u1
  refine WL.op rfl (d_alloc sz55 fun w2 u2 => ?_)
  have H2 : UpG w [] w2 [[blk w.heap.size #[.slice ra r.nums.length rc, .string r.text] 53], [blk w1.heap.size #[.int .i64 0, .int .i64 0, .int .i64 0, .int .i64 0, .string ⟨#[]⟩] 55]] := H1.new' u2
  refine WL.op rfl (d_assign rfl ?_)
  refine WL.done (X.then_code ?_)
  refine W.seq ?_
  refine W.seq ?_
  refine W.region ?_
  refine WL.op rfl (d_fieldAddrB fld53_0 rfl rfl ?_)
  refine WL.op rfl (d_loadB Try.underlying51 rfl rfl (H2.blk 0 rfl) rfl ?_)
  refine WL.op rfl (d_lenS Try.underlying51 rfl ?_)
  refine WL.op rfl (d_cmp (decide (((r.nums.length : Nat) : Int) = (0 : Int))) rfl rfl rfl ?_)
  refine WL.done (X.then_code ?_)
  refine W.ite (p := ((r.nums.length : Nat) : Int) = (0 : Int)) rfl (fun c62 => ?_) (fun c62 => ?_)
  · skip
    refine W.seq ?_
    refine W.region ?_
    refine WL.op rfl (d_build (cs := #[.int .i64 0, .int .i64 0, .int .i64 0, .int .i64 0, .string ⟨#[]⟩]) rfl (by kernel_rfl) ?_)
    refine WL.op0 (d_storeAB (us := [.int .i64 0, .int .i64 0, .int .i64 0, .int .i64 0, .string ⟨#[]⟩]) (cs' := #[.int .i64 0, .int .i64 0, .int .i64 0, .int .i64 0, .string ⟨#[]⟩]) sz55 rfl rfl rfl rfl (H2.blk 1 rfl) rfl rfl fun w3 u3 => ?_)
    have H3 : UpG w [] w3 [[blk w.heap.size #[.slice ra r.nums.length rc, .string r.text] 53], [blk w1.heap.size #[.int .i64 0, .int .i64 0, .int .i64 0, .int .i64 0, .string ⟨#[]⟩] 55]] := H2.on 1 rfl u3
    refine WL.op rfl (d_assign rfl ?_)
    refine WL.done (X.then_code ?_)
    refine W.ret (X.then_ret (X.retR2 rfl (rv_cellA [.int .i64 0, .int .i64 0, .int .i64 0, .int .i64 0, .string ⟨#[]⟩] Try.underlying55 rfl sz55 rfl (H3.blk 1 rfl) rfl rfl) (rv_tmp rfl) ?_))
    have e : ofR r = (op0, 9) := by unfold ofR; rw [if_pos (.inl (by omega))]
    rw [e]
    exact ⟨(by rfl), H3.noneL⟩
  · skip
    refine W.skip (X.then_code ?_)
    refine W.seq ?_
    refine W.region ?_
    refine WL.op rfl (d_fieldAddrB fld53_0 rfl rfl ?_)
    refine WL.op rfl (d_loadB Try.underlying51 rfl rfl (H2.blk 0 rfl) rfl ?_)
    refine WL.op rfl (t_addr1 0 (T := (tyI .i64)) rfl Try.underlying51 sz3 rfl rfl (rr.at H2) rfl (by omega) ?_)
    refine WL.op rfl (t_load1 0 0 (T := (tyI .i64)) rfl Try.underlying3 rfl rfl (rr.at H2) (by omega) rfl ?_)
    refine WL.op rfl (d_call ok50 rfl (Ret.calls (of_any (r.nums.getD 0 0) w2  ) fun _ w4 p1 => ?_))
    obtain ⟨rfl, u4⟩ := p1
    have H4 : UpG w [] w4 [[blk w.heap.size #[.slice ra r.nums.length rc, .string r.text] 53], [blk w1.heap.size #[.int .i64 0, .int .i64 0, .int .i64 0, .int .i64 0, .string ⟨#[]⟩] 55]] := H2.call u4
    refine WL.op rfl (d_move rfl ?_)
    refine WL.op rfl (d_extract rfl rfl ?_)
    refine WL.op rfl (d_extract rfl rfl ?_)
    refine WL.op rfl (d_alloc sz87 fun w5 u5 => ?_)
    have H5 : UpG w [] w5 [[blk w.heap.size #[.slice ra r.nums.length rc, .string r.text] 53], [blk w1.heap.size #[.int .i64 0, .int .i64 0, .int .i64 0, .int .i64 0, .string ⟨#[]⟩] 55], [blk w4.heap.size #[.string ⟨#[]⟩, .string ⟨#[]⟩, .bool false] 87]] := H4.new' u5
    refine WL.op0 (d_storeAB (us := [.string ((opRowAt (r.nums.getD 0 0)).name), .string ((opRowAt (r.nums.getD 0 0)).nums), .bool ((opRowAt (r.nums.getD 0 0)).text)]) (cs' := #[.string ((opRowAt (r.nums.getD 0 0)).name), .string ((opRowAt (r.nums.getD 0 0)).nums), .bool ((opRowAt (r.nums.getD 0 0)).text)]) sz87 rfl rfl rfl rfl (H5.blk 2 rfl) rfl rfl fun w6 u6 => ?_)
    have H6 : UpG w [] w6 [[blk w.heap.size #[.slice ra r.nums.length rc, .string r.text] 53], [blk w1.heap.size #[.int .i64 0, .int .i64 0, .int .i64 0, .int .i64 0, .string ⟨#[]⟩] 55], [blk w4.heap.size #[.string ((opRowAt (r.nums.getD 0 0)).name), .string ((opRowAt (r.nums.getD 0 0)).nums), .bool ((opRowAt (r.nums.getD 0 0)).text)] 87]] := H5.on 2 rfl u6
    refine WL.op rfl (d_assign rfl ?_)
    refine WL.done (X.then_code ?_)
    refine W.pick [5, 4, 3, 2, 1] (Γ' := [(5, .bool (okK (r.nums.getD 0 0))), (4, .pointer (some ⟨w4.heap.size, 0, none⟩)), (3, .int .i64 0), (2, .pointer (some ⟨w1.heap.size, 0, none⟩)), (1, .pointer (some ⟨w.heap.size, 0, none⟩))]) rfl ?_
    refine W.seq ?_
    refine W.block ?_
    refine W.seq ?_
    refine W.region ?_
    refine WL.op rfl (d_move rfl ?_)
    refine WL.op rfl (d_notB rfl ?_)
    refine WL.op rfl (d_assign rfl ?_)
    refine WL.done (X.then_code ?_)
    refine W.iteB (b := !(okK (r.nums.getD 0 0))) rfl (fun c67 => ?_) (fun c67 => ?_)
    · skip
      refine W.seq ?_
      refine W.region ?_
      refine WL.op rfl (d_build (cs := #[.int .i64 0, .int .i64 0, .int .i64 0, .int .i64 0, .string ⟨#[]⟩]) rfl (by kernel_rfl) ?_)
      refine WL.op0 (d_storeAB (us := [.int .i64 0, .int .i64 0, .int .i64 0, .int .i64 0, .string ⟨#[]⟩]) (cs' := #[.int .i64 0, .int .i64 0, .int .i64 0, .int .i64 0, .string ⟨#[]⟩]) sz55 rfl rfl rfl rfl (H6.blk 1 rfl) rfl rfl fun w7 u7 => ?_)
      have H7 : UpG w [] w7 [[blk w.heap.size #[.slice ra r.nums.length rc, .string r.text] 53], [blk w1.heap.size #[.int .i64 0, .int .i64 0, .int .i64 0, .int .i64 0, .string ⟨#[]⟩] 55], [blk w4.heap.size #[.string ((opRowAt (r.nums.getD 0 0)).name), .string ((opRowAt (r.nums.getD 0 0)).nums), .bool ((opRowAt (r.nums.getD 0 0)).text)] 87]] := H6.on 1 rfl u7
      refine WL.op rfl (d_assign rfl ?_)
      refine WL.done (X.then_code ?_)
      refine W.ret (X.block_ret (X.then_ret (X.retR2 rfl (rv_cellA [.int .i64 0, .int .i64 0, .int .i64 0, .int .i64 0, .string ⟨#[]⟩] Try.underlying55 rfl sz55 rfl (H7.blk 1 rfl) rfl rfl) (rv_tmp rfl) ?_)))
      have e : ofR r = (op0, 9) := by unfold ofR; rw [if_pos (.inr (by simpa using c67))]
      rw [e]
      exact ⟨(by rfl), H7.noneL⟩
    · skip
      refine W.seq ?_
      have hok : okK (r.nums.getD 0 0) = true := by simpa using c67
      have hrn := row_nums hok
      have hrt := row_text hok
      have hrs := row_size hok
      have hno : ¬ (r.nums.length = 0 ∨ okK (r.nums.getD 0 0) = false) := by rintro (h | h) <;> first | omega | (rw [hok] at h; cases h)
      refine W.region ?_
      refine WL.op rfl (d_fieldAddrB fld53_0 rfl rfl ?_)
      refine WL.op rfl (d_loadB Try.underlying51 rfl rfl (H6.blk 0 rfl) rfl ?_)
      refine WL.op rfl (d_lenS Try.underlying51 rfl ?_)
      refine WL.op rfl (d_fieldAddrB fld87_1 rfl rfl ?_)
      refine WL.op rfl (d_loadB Try.underlying9 rfl rfl (H6.blk 2 rfl) rfl ?_)
      refine WL.op rfl (d_lenStr Try.underlying9 rfl ?_)
      refine WL.op rfl (d_add rfl rfl (by omega) (by omega) ?_)
      refine WL.op rfl (d_cmp (decide (((r.nums.length : Nat) : Int) ≠ (1 + ((((opRowAt (r.nums.getD 0 0)).nums).size : Nat) : Int)))) rfl rfl rfl ?_)
      refine WL.op rfl (d_move rfl ?_)
      refine WL.part 34 (p := ((r.nums.length : Nat) : Int) ≠ (1 + ((((opRowAt (r.nums.getD 0 0)).nums).size : Nat) : Int))) rfl (fun g69 => ?_) (fun g69 => ?_)
      · skip
        refine WL.opN rfl rfl rfl rfl ?_
        refine WL.opN rfl rfl rfl rfl ?_
        refine WL.opN rfl rfl rfl rfl ?_
        refine WL.opN rfl rfl rfl rfl ?_
        refine WL.opU rfl rfl rfl ?_
        refine WL.opU rfl rfl rfl ?_
        refine WL.opU rfl rfl rfl ?_
        refine WL.opN rfl rfl rfl rfl ?_
        refine WL.op rfl (d_pick rfl rfl ?_)
        refine WL.op rfl (d_assign rfl ?_)
        refine WL.done (X.then_code ?_)
        refine W.pick [25, 4, 3, 2, 1] (Γ' := [(25, .bool true), (4, .pointer (some ⟨w4.heap.size, 0, none⟩)), (3, .int .i64 0), (2, .pointer (some ⟨w1.heap.size, 0, none⟩)), (1, .pointer (some ⟨w.heap.size, 0, none⟩))]) rfl ?_
        refine W.ift rfl ?_
        refine W.seq ?_
        refine W.region ?_
        refine WL.op rfl (d_build (cs := #[.int .i64 0, .int .i64 0, .int .i64 0, .int .i64 0, .string ⟨#[]⟩]) rfl (by kernel_rfl) ?_)
        refine WL.op0 (d_storeAB (us := [.int .i64 0, .int .i64 0, .int .i64 0, .int .i64 0, .string ⟨#[]⟩]) (cs' := #[.int .i64 0, .int .i64 0, .int .i64 0, .int .i64 0, .string ⟨#[]⟩]) sz55 rfl rfl rfl rfl (H6.blk 1 rfl) rfl rfl fun w8 u8 => ?_)
        have H8 : UpG w [] w8 [[blk w.heap.size #[.slice ra r.nums.length rc, .string r.text] 53], [blk w1.heap.size #[.int .i64 0, .int .i64 0, .int .i64 0, .int .i64 0, .string ⟨#[]⟩] 55], [blk w4.heap.size #[.string ((opRowAt (r.nums.getD 0 0)).name), .string ((opRowAt (r.nums.getD 0 0)).nums), .bool ((opRowAt (r.nums.getD 0 0)).text)] 87]] := H6.on 1 rfl u8
        refine WL.op rfl (d_assign rfl ?_)
        refine WL.done (X.then_code ?_)
        refine W.ret (X.block_ret (X.then_ret (X.retR2 rfl (rv_cellA [.int .i64 0, .int .i64 0, .int .i64 0, .int .i64 0, .string ⟨#[]⟩] Try.underlying55 rfl sz55 rfl (H8.blk 1 rfl) rfl rfl) (rv_tmp rfl) ?_)))
        have e : ofR r = (op0, 3) := by unfold ofR; rw [if_neg hno, if_pos (by first | exact .inl (by omega) | exact .inr ⟨size_pos g69x, by rw [← hrt]; simpa using c69⟩)]
        rw [e]
        exact ⟨(by rfl), H8.noneL⟩
      · skip
        refine WL.opG rfl rfl rfl (d_fieldAddrB fld53_1 rfl rfl ?_)
        refine WL.opG rfl rfl rfl (d_loadB Try.underlying9 rfl rfl (H6.blk 0 rfl) rfl ?_)
        refine WL.opG rfl rfl rfl (d_strne rfl rfl ?_)
        refine WL.opG rfl rfl rfl (d_move rfl ?_)
        refine WL.part 38 (p := r.text ≠ ⟨#[]⟩) rfl (fun g69x => ?_) (fun g69x => ?_)
        · skip
          refine WL.opG rfl rfl rfl (d_fieldAddrB fld87_2 rfl rfl ?_)
          refine WL.opG rfl rfl rfl (d_loadB Try.underlying4 rfl rfl (H6.blk 2 rfl) rfl ?_)
          refine WL.opG rfl rfl rfl (d_notB rfl ?_)
          refine WL.opG rfl rfl rfl (d_pick rfl rfl ?_)
          refine WL.op rfl (d_pick rfl rfl ?_)
          refine WL.op rfl (d_assign rfl ?_)
          refine WL.done (X.then_code ?_)
          refine W.pick [25, 4, 3, 2, 1] (Γ' := [(25, .bool (!((opRowAt (r.nums.getD 0 0)).text))), (4, .pointer (some ⟨w4.heap.size, 0, none⟩)), (3, .int .i64 0), (2, .pointer (some ⟨w1.heap.size, 0, none⟩)), (1, .pointer (some ⟨w.heap.size, 0, none⟩))]) rfl ?_
          refine W.iteB (b := !((opRowAt (r.nums.getD 0 0)).text)) rfl (fun c69 => ?_) (fun c69 => ?_)
          · skip
            refine W.seq ?_
            refine W.region ?_
            refine WL.op rfl (d_build (cs := #[.int .i64 0, .int .i64 0, .int .i64 0, .int .i64 0, .string ⟨#[]⟩]) rfl (by kernel_rfl) ?_)
            refine WL.op0 (d_storeAB (us := [.int .i64 0, .int .i64 0, .int .i64 0, .int .i64 0, .string ⟨#[]⟩]) (cs' := #[.int .i64 0, .int .i64 0, .int .i64 0, .int .i64 0, .string ⟨#[]⟩]) sz55 rfl rfl rfl rfl (H6.blk 1 rfl) rfl rfl fun w9 u9 => ?_)
            have H9 : UpG w [] w9 [[blk w.heap.size #[.slice ra r.nums.length rc, .string r.text] 53], [blk w1.heap.size #[.int .i64 0, .int .i64 0, .int .i64 0, .int .i64 0, .string ⟨#[]⟩] 55], [blk w4.heap.size #[.string ((opRowAt (r.nums.getD 0 0)).name), .string ((opRowAt (r.nums.getD 0 0)).nums), .bool ((opRowAt (r.nums.getD 0 0)).text)] 87]] := H6.on 1 rfl u9
            refine WL.op rfl (d_assign rfl ?_)
            refine WL.done (X.then_code ?_)
            refine W.ret (X.block_ret (X.then_ret (X.retR2 rfl (rv_cellA [.int .i64 0, .int .i64 0, .int .i64 0, .int .i64 0, .string ⟨#[]⟩] Try.underlying55 rfl sz55 rfl (H9.blk 1 rfl) rfl rfl) (rv_tmp rfl) ?_)))
            have e : ofR r = (op0, 3) := by unfold ofR; rw [if_neg hno, if_pos (by first | exact .inl (by omega) | exact .inr ⟨size_pos g69x, by rw [← hrt]; simpa using c69⟩)]
            rw [e]
            exact ⟨(by rfl), H9.noneL⟩
          · skip
            refine W.seq ?_
            have hmid : ¬ (tot (r.nums.getD 0 0) ≠ r.nums.length ∨ (0 < r.text.size ∧ cT (r.nums.getD 0 0) = false)) := fun h => h.elim (fun h => by omega) (fun h => by first | exact absurd h.1 (nil_size g69x) | (have h2 := h.2; rw [hrt, h2] at c69; exact c69 rfl))
            refine W.region ?_
            refine WL.op rfl (d_fieldAddrB fld53_1 rfl rfl ?_)
            refine WL.op rfl (d_loadB Try.underlying9 rfl rfl (H6.blk 0 rfl) rfl ?_)
            refine WL.op rfl (d_lenStr Try.underlying9 rfl ?_)
            refine WL.op rfl (d_cmp (decide (((r.text.size : Nat) : Int) > (1048576 : Int))) rfl rfl rfl ?_)
            refine WL.op rfl (d_assign rfl ?_)
            refine WL.done (X.then_code ?_)
            refine W.ite (p := ((r.text.size : Nat) : Int) > (1048576 : Int)) rfl (fun c71 => ?_) (fun c71 => ?_)
            · skip
              refine W.seq ?_
              refine W.region ?_
              refine WL.op rfl (d_build (cs := #[.int .i64 0, .int .i64 0, .int .i64 0, .int .i64 0, .string ⟨#[]⟩]) rfl (by kernel_rfl) ?_)
              refine WL.op0 (d_storeAB (us := [.int .i64 0, .int .i64 0, .int .i64 0, .int .i64 0, .string ⟨#[]⟩]) (cs' := #[.int .i64 0, .int .i64 0, .int .i64 0, .int .i64 0, .string ⟨#[]⟩]) sz55 rfl rfl rfl rfl (H6.blk 1 rfl) rfl rfl fun w10 u10 => ?_)
              have H10 : UpG w [] w10 [[blk w.heap.size #[.slice ra r.nums.length rc, .string r.text] 53], [blk w1.heap.size #[.int .i64 0, .int .i64 0, .int .i64 0, .int .i64 0, .string ⟨#[]⟩] 55], [blk w4.heap.size #[.string ((opRowAt (r.nums.getD 0 0)).name), .string ((opRowAt (r.nums.getD 0 0)).nums), .bool ((opRowAt (r.nums.getD 0 0)).text)] 87]] := H6.on 1 rfl u10
              refine WL.op rfl (d_assign rfl ?_)
              refine WL.done (X.then_code ?_)
              refine W.ret (X.block_ret (X.then_ret (X.retR2 rfl (rv_cellA [.int .i64 0, .int .i64 0, .int .i64 0, .int .i64 0, .string ⟨#[]⟩] Try.underlying55 rfl sz55 rfl (H10.blk 1 rfl) rfl rfl) (rv_tmp rfl) ?_)))
              have e : ofR r = (op0, 4) := by unfold ofR; rw [if_neg hno, if_neg hmid, if_pos (by omega)]
              rw [e]
              exact ⟨(by rfl), H10.noneL⟩
            · skip
              refine W.skip (X.block_normal (X.then_code ?_))
              refine W.seq ?_
              refine W.regionD mixed (by kernel_rfl) fun hok1 w11 k1 => ?_
              have H11 : UpG w [] w11 [[blk w.heap.size #[.slice ra r.nums.length rc, .string r.text] 53], [blk w1.heap.size #[.int .i64 0, .int .i64 0, .int .i64 0, .int .i64 0, .string ⟨#[]⟩] 55], [blk w4.heap.size #[.string ((opRowAt (r.nums.getD 0 0)).name), .string ((opRowAt (r.nums.getD 0 0)).nums), .bool ((opRowAt (r.nums.getD 0 0)).text)] 87]] := H6.kept k1
              refine WD.take hok1 0 (.pointer (some ⟨w.heap.size, 0, none⟩)) (fun _ => True) rfl rfl rfl rfl rfl trivial (.inl ⟨rfl, fun _ _ => d_fieldAddrB fld53_0 rfl rfl ⟨rfl, rfl⟩⟩) ?_
              refine WD.take hok1 1 (.slice ra r.nums.length rc) (fun w' => w'.heap[w.heap.size]? = some (.cells #[.slice ra r.nums.length rc, .string r.text] 53 (0, 0))) rfl rfl rfl rfl rfl (H11.blk 0 rfl) (.inl ⟨rfl, fun _ hC => d_loadB Try.underlying51 rfl rfl hC rfl ⟨rfl, rfl⟩⟩) ?_
              refine WD.take hok1 2 (elemPtr (.slice ra r.nums.length rc) 0) (fun w' => RdT (tyI .i64) w' (.slice ra r.nums.length rc) r.nums) rfl rfl rfl rfl rfl (rr.at H11) (.inl ⟨rfl, fun _ hC => t_addr1 0 (T := (tyI .i64)) rfl Try.underlying51 sz3 rfl rfl hC rfl (by omega) ⟨rfl, rfl⟩⟩) ?_
              refine WD.take hok1 3 (.int .i64 (r.nums.getD 0 0)) (fun w' => RdT (tyI .i64) w' (.slice ra r.nums.length rc) r.nums) rfl rfl rfl rfl rfl (rr.at H11) (.inl ⟨rfl, fun _ hC => t_load1 0 0 (T := (tyI .i64)) rfl Try.underlying3 rfl rfl hC (by omega) rfl ⟨rfl, rfl⟩⟩) ?_
              refine WD.take hok1 4 (.pointer (some ⟨w.heap.size, 1, none⟩)) (fun _ => True) rfl rfl rfl rfl rfl trivial (.inl ⟨rfl, fun _ _ => d_fieldAddrB fld53_1 rfl rfl ⟨rfl, rfl⟩⟩) ?_
              refine WD.take hok1 5 (.string r.text) (fun w' => w'.heap[w.heap.size]? = some (.cells #[.slice ra r.nums.length rc, .string r.text] 53 (0, 0))) rfl rfl rfl rfl rfl (H11.blk 0 rfl) (.inl ⟨rfl, fun _ hC => d_loadB Try.underlying9 rfl rfl hC rfl ⟨rfl, rfl⟩⟩) ?_
              refine WD.take hok1 6 (.agg #[.int .i64 (r.nums.getD 0 0), .int .i64 0, .int .i64 0, .int .i64 0, .string r.text]) (fun _ => True) rfl rfl rfl rfl rfl trivial (.inl ⟨rfl, fun _ _ => d_build (cs := #[.int .i64 (r.nums.getD 0 0), .int .i64 0, .int .i64 0, .int .i64 0, .string r.text]) rfl (by kernel_rfl) ⟨rfl, rfl⟩⟩) ?_
              refine WD.loud hok1 7 rfl (⟨_, [⟨6, .agg #[.int .i64 (r.nums.getD 0 0), .int .i64 0, .int .i64 0, .int .i64 0, .string r.text], (fun _ => True)⟩, ⟨5, .string r.text, (fun w' => w'.heap[w.heap.size]? = some (.cells #[.slice ra r.nums.length rc, .string r.text] 53 (0, 0)))⟩, ⟨4, .pointer (some ⟨w.heap.size, 1, none⟩), (fun _ => True)⟩, ⟨3, .int .i64 (r.nums.getD 0 0), (fun w' => RdT (tyI .i64) w' (.slice ra r.nums.length rc) r.nums)⟩, ⟨2, elemPtr (.slice ra r.nums.length rc) 0, (fun w' => RdT (tyI .i64) w' (.slice ra r.nums.length rc) r.nums)⟩, ⟨1, .slice ra r.nums.length rc, (fun w' => w'.heap[w.heap.size]? = some (.cells #[.slice ra r.nums.length rc, .string r.text] 53 (0, 0)))⟩, ⟨0, .pointer (some ⟨w.heap.size, 0, none⟩), (fun _ => True)⟩], rfl, rfl, rfl, rfl, rfl, rfl, d_alloc sz55 fun w12 u11 => ?_⟩)
              have H12 : UpG w [] w12 [[blk w.heap.size #[.slice ra r.nums.length rc, .string r.text] 53], [blk w1.heap.size #[.int .i64 0, .int .i64 0, .int .i64 0, .int .i64 0, .string ⟨#[]⟩] 55], [blk w4.heap.size #[.string ((opRowAt (r.nums.getD 0 0)).name), .string ((opRowAt (r.nums.getD 0 0)).nums), .bool ((opRowAt (r.nums.getD 0 0)).text)] 87], [blk w11.heap.size #[.int .i64 0, .int .i64 0, .int .i64 0, .int .i64 0, .string ⟨#[]⟩] 55]] := H11.new' u11
              refine ⟨⟨trivial, (H12.blk 0 rfl), trivial, (rr.at H12), (rr.at H12), (H12.blk 0 rfl), trivial, trivial⟩, ?_⟩
              refine WD.loud hok1 8 rfl (⟨_, [], rfl, rfl, rfl, rfl, rfl, rfl, d_storeAB (us := [.int .i64 (r.nums.getD 0 0), .int .i64 0, .int .i64 0, .int .i64 0, .string r.text]) (cs' := #[.int .i64 (r.nums.getD 0 0), .int .i64 0, .int .i64 0, .int .i64 0, .string r.text]) sz55 rfl rfl rfl rfl (H12.blk 3 rfl) rfl rfl fun w13 u12 => ?_⟩)
              have H13 : UpG w [] w13 [[blk w.heap.size #[.slice ra r.nums.length rc, .string r.text] 53], [blk w1.heap.size #[.int .i64 0, .int .i64 0, .int .i64 0, .int .i64 0, .string ⟨#[]⟩] 55], [blk w4.heap.size #[.string ((opRowAt (r.nums.getD 0 0)).name), .string ((opRowAt (r.nums.getD 0 0)).nums), .bool ((opRowAt (r.nums.getD 0 0)).text)] 87], [blk w11.heap.size #[.int .i64 (r.nums.getD 0 0), .int .i64 0, .int .i64 0, .int .i64 0, .string r.text] 55]] := H12.on 3 rfl u12
              refine ⟨trivial, ?_⟩
              refine WD.done hok1 rfl (X.then_code ?_)
              refine W.pick [6, 4, 3, 2, 1] (Γ' := [(6, .pointer (some ⟨w11.heap.size, 0, none⟩)), (4, .pointer (some ⟨w4.heap.size, 0, none⟩)), (3, .int .i64 0), (2, .pointer (some ⟨w1.heap.size, 0, none⟩)), (1, .pointer (some ⟨w.heap.size, 0, none⟩))]) rfl ?_
              refine W.seq ?_
              refine W.seq ?_
              refine W.region ?_
              refine WL.op rfl (d_fieldAddrB fld87_1 rfl rfl ?_)
              refine WL.op rfl (d_loadB Try.underlying9 rfl rfl (H13.blk 2 rfl) rfl ?_)
              refine WL.op rfl (d_lenStr Try.underlying9 rfl ?_)
              refine WL.op rfl (d_move rfl ?_)
              refine WL.done (X.then_code ?_)
              refine W.block ?_
              refine W.pick [61, 60, 6, 4, 3, 2, 1] (Γ' := [(61, .int .i64 0), (60, .int .i64 ((((opRowAt (r.nums.getD 0 0)).nums).size : Nat) : Int)), (6, .pointer (some ⟨w11.heap.size, 0, none⟩)), (4, .pointer (some ⟨w4.heap.size, 0, none⟩)), (3, .int .i64 0), (2, .pointer (some ⟨w1.heap.size, 0, none⟩)), (1, .pointer (some ⟨w.heap.size, 0, none⟩))]) rfl ?_
              refine W.loop (fun m Γ' w' => ∃ j : Nat, ∃ o1 : Int, ∃ o2 : Int, ∃ o3 : Int, Γ' = [(61, .int .i64 ((j : Nat) : Int)), (60, .int .i64 ((((opRowAt (r.nums.getD 0 0)).nums).size : Nat) : Int)), (6, .pointer (some ⟨w11.heap.size, 0, none⟩)), (4, .pointer (some ⟨w4.heap.size, 0, none⟩)), (3, .int .i64 0), (2, .pointer (some ⟨w1.heap.size, 0, none⟩)), (1, .pointer (some ⟨w.heap.size, 0, none⟩))] ∧ UpG w [] w' [[blk w.heap.size #[.slice ra r.nums.length rc, .string r.text] 53], [blk w1.heap.size #[.int .i64 0, .int .i64 0, .int .i64 0, .int .i64 0, .string ⟨#[]⟩] 55], [blk w4.heap.size #[.string ((opRowAt (r.nums.getD 0 0)).name), .string ((opRowAt (r.nums.getD 0 0)).nums), .bool ((opRowAt (r.nums.getD 0 0)).text)] 87], [blk w11.heap.size #[.int .i64 (r.nums.getD 0 0), .int .i64 o1, .int .i64 o2, .int .i64 o3, .string r.text] 55]] ∧ (j ≤ (opRowAt (r.nums.getD 0 0)).nums.size) ∧ (fieldsTo (opRowAt (r.nums.getD 0 0)).nums r.nums j = (o1, o2, o3)) ∧ m = (opRowAt (r.nums.getD 0 0)).nums.size - j) ((opRowAt (r.nums.getD 0 0)).nums.size - 0) ⟨0, 0, 0, 0, rfl, H13, (by first | assumption | omega | simp), (by rfl), rfl⟩ ?_
              rintro m1 Γ1 w14 ⟨j, o1, o2, o3, rfl, H14, hj, hst, rfl⟩
              refine W.seq ?_
              refine W.region ?_
              refine WL.op rfl (d_cmp (decide (((j : Nat) : Int) < ((((opRowAt (r.nums.getD 0 0)).nums).size : Nat) : Int))) rfl rfl rfl ?_)
              refine WL.done (X.then_code ?_)
              refine W.seq ?_
              refine W.ite (p := ((j : Nat) : Int) < ((((opRowAt (r.nums.getD 0 0)).nums).size : Nat) : Int)) rfl (fun c75 => ?_) (fun c75 => ?_)
              · skip
                refine W.skip (X.then_code ?_)
                refine W.seq ?_
                refine W.block ?_
                refine W.seq ?_
                refine W.region ?_
                refine WL.op rfl (d_move rfl ?_)
                refine WL.op rfl (d_assign rfl ?_)
                refine WL.done (X.then_code ?_)
                by_cases hS : bt (opRowAt (r.nums.getD 0 0)).nums j = 83
                · skip
                  refine W.regionD mixed (by kernel_rfl) fun hok2 w15 k2 => ?_
                  have H15 : UpG w [] w15 [[blk w.heap.size #[.slice ra r.nums.length rc, .string r.text] 53], [blk w1.heap.size #[.int .i64 0, .int .i64 0, .int .i64 0, .int .i64 0, .string ⟨#[]⟩] 55], [blk w4.heap.size #[.string ((opRowAt (r.nums.getD 0 0)).name), .string ((opRowAt (r.nums.getD 0 0)).nums), .bool ((opRowAt (r.nums.getD 0 0)).text)] 87], [blk w11.heap.size #[.int .i64 (r.nums.getD 0 0), .int .i64 o1, .int .i64 o2, .int .i64 o3, .string r.text] 55]] := H14.kept k2
                  refine WD.take hok2 0 (.pointer (some ⟨w4.heap.size, 1, none⟩)) (fun _ => True) rfl rfl rfl rfl rfl trivial (.inl ⟨rfl, fun _ _ => d_fieldAddrB fld87_1 rfl rfl ⟨rfl, rfl⟩⟩) ?_
                  refine WD.take hok2 1 (.string ((opRowAt (r.nums.getD 0 0)).nums)) (fun w' => w'.heap[w4.heap.size]? = some (.cells #[.string ((opRowAt (r.nums.getD 0 0)).name), .string ((opRowAt (r.nums.getD 0 0)).nums), .bool ((opRowAt (r.nums.getD 0 0)).text)] 87 (0, 0))) rfl rfl rfl rfl rfl (H15.blk 2 rfl) (.inl ⟨rfl, fun _ hC => d_loadB Try.underlying9 rfl rfl hC rfl ⟨rfl, rfl⟩⟩) ?_
                  refine WD.take hok2 2 (.int .i64 ((j : Nat) : Int)) (fun _ => True) rfl rfl rfl rfl rfl trivial (.inl ⟨rfl, fun _ _ => d_move rfl ⟨rfl, rfl⟩⟩) ?_
                  refine WD.take hok2 3 (.int .u8 (bt ((opRowAt (r.nums.getD 0 0)).nums) j)) (fun _ => True) rfl rfl rfl rfl rfl trivial (.inl ⟨rfl, fun _ _ => d_idxStrN j Try.underlying9 rfl rfl rfl (by omega) ⟨rfl, rfl⟩⟩) ?_
                  refine WD.take hok2 5 (.pointer (some ⟨w.heap.size, 0, none⟩)) (fun _ => True) rfl rfl rfl rfl rfl trivial (.inl ⟨rfl, fun _ _ => d_fieldAddrB fld53_0 rfl rfl ⟨rfl, rfl⟩⟩) ?_
                  refine WD.take hok2 6 (.slice ra r.nums.length rc) (fun w' => w'.heap[w.heap.size]? = some (.cells #[.slice ra r.nums.length rc, .string r.text] 53 (0, 0))) rfl rfl rfl rfl rfl (H15.blk 0 rfl) (.inl ⟨rfl, fun _ hC => d_loadB Try.underlying51 rfl rfl hC rfl ⟨rfl, rfl⟩⟩) ?_
                  refine WD.take hok2 7 (.int .i64 ((j : Nat) : Int)) (fun _ => True) rfl rfl rfl rfl rfl trivial (.inl ⟨rfl, fun _ _ => d_move rfl ⟨rfl, rfl⟩⟩) ?_
                  refine WD.take hok2 8 (.int .i64 (((j : Nat) : Int) + 1)) (fun _ => True) rfl rfl rfl rfl rfl trivial (.inl ⟨rfl, fun _ _ => d_add rfl rfl (by omega) (by omega) ⟨rfl, rfl⟩⟩) ?_
                  refine WD.take hok2 9 (elemPtr (.slice ra r.nums.length rc) (j + 1)) (fun w' => RdT (tyI .i64) w' (.slice ra r.nums.length rc) r.nums) rfl rfl rfl rfl rfl (rr.at H15) (.inl ⟨rfl, fun _ hC => t_addr1 (j + 1) (T := (tyI .i64)) rfl Try.underlying51 sz3 rfl rfl hC rfl (by omega) ⟨rfl, rfl⟩⟩) ?_
                  refine WD.take hok2 10 (.int .i64 (r.nums.getD (j + 1) 0)) (fun w' => RdT (tyI .i64) w' (.slice ra r.nums.length rc) r.nums) rfl rfl rfl rfl rfl (rr.at H15) (.inl ⟨rfl, fun _ hC => t_load1 (j + 1) 0 (T := (tyI .i64)) rfl Try.underlying3 rfl rfl hC (by omega) rfl ⟨rfl, rfl⟩⟩) ?_
                  refine WD.loud hok2 4 rfl (⟨_, [⟨10, .int .i64 (r.nums.getD (j + 1) 0), (fun w' => RdT (tyI .i64) w' (.slice ra r.nums.length rc) r.nums)⟩, ⟨9, elemPtr (.slice ra r.nums.length rc) (j + 1), (fun w' => RdT (tyI .i64) w' (.slice ra r.nums.length rc) r.nums)⟩, ⟨8, .int .i64 (((j : Nat) : Int) + 1), (fun _ => True)⟩, ⟨7, .int .i64 ((j : Nat) : Int), (fun _ => True)⟩, ⟨6, .slice ra r.nums.length rc, (fun w' => w'.heap[w.heap.size]? = some (.cells #[.slice ra r.nums.length rc, .string r.text] 53 (0, 0)))⟩, ⟨5, .pointer (some ⟨w.heap.size, 0, none⟩), (fun _ => True)⟩], rfl, rfl, rfl, rfl, rfl, rfl, d_call ok51 rfl (Ret.calls (fieldS_any w11.heap.size (bt ((opRowAt (r.nums.getD 0 0)).nums) j) w15  hS) fun _ w16 p2 => ?_)⟩)
                  obtain ⟨rfl, u13⟩ := p2
                  have H16 : UpG w [] w16 [[blk w.heap.size #[.slice ra r.nums.length rc, .string r.text] 53], [blk w1.heap.size #[.int .i64 0, .int .i64 0, .int .i64 0, .int .i64 0, .string ⟨#[]⟩] 55], [blk w4.heap.size #[.string ((opRowAt (r.nums.getD 0 0)).name), .string ((opRowAt (r.nums.getD 0 0)).nums), .bool ((opRowAt (r.nums.getD 0 0)).text)] 87], [blk w11.heap.size #[.int .i64 (r.nums.getD 0 0), .int .i64 o1, .int .i64 o2, .int .i64 o3, .string r.text] 55]] := H15.call u13
                  refine ⟨⟨(rr.at H16), (rr.at H16), trivial, trivial, (H16.blk 0 rfl), trivial, trivial⟩, ?_⟩
                  refine WD.take hok2 11 (.pointer (some ⟨w11.heap.size, 1, none⟩)) (fun _ => True) rfl rfl rfl rfl rfl trivial (.inl ⟨rfl, fun _ _ => d_nilCheck rfl ⟨rfl, rfl⟩⟩) ?_
                  refine WD.loud hok2 12 rfl (⟨_, [], rfl, rfl, rfl, rfl, rfl, rfl, d_storeB sz3 rfl rfl rfl (H16.blk 3 rfl) rfl fun w17 u14 => ?_⟩)
                  have H17 : UpG w [] w17 [[blk w.heap.size #[.slice ra r.nums.length rc, .string r.text] 53], [blk w1.heap.size #[.int .i64 0, .int .i64 0, .int .i64 0, .int .i64 0, .string ⟨#[]⟩] 55], [blk w4.heap.size #[.string ((opRowAt (r.nums.getD 0 0)).name), .string ((opRowAt (r.nums.getD 0 0)).nums), .bool ((opRowAt (r.nums.getD 0 0)).text)] 87], [blk w11.heap.size #[.int .i64 (r.nums.getD 0 0), .int .i64 (r.nums.getD (j + 1) 0), .int .i64 o2, .int .i64 o3, .string r.text] 55]] := H16.on 3 rfl u14
                  refine ⟨trivial, ?_⟩
                  refine WD.done hok2 rfl (X.block_normal (X.then_code ?_))
                  refine W.pick [75, 68, 74, 73, 72, 71, 70, 69, 67, 66, 65, 64, 7, 63, 62, 61, 60, 6, 4, 3, 2, 1] (Γ' := [(75, .pointer (some ⟨w11.heap.size, 1, none⟩)), (68, .pointer (some ⟨w11.heap.size, 1, none⟩)), (74, .int .i64 (r.nums.getD (j + 1) 0)), (73, elemPtr (.slice ra r.nums.length rc) (j + 1)), (72, .int .i64 (((j : Nat) : Int) + 1)), (71, .int .i64 ((j : Nat) : Int)), (70, .slice ra r.nums.length rc), (69, .pointer (some ⟨w.heap.size, 0, none⟩)), (67, .int .u8 (bt ((opRowAt (r.nums.getD 0 0)).nums) j)), (66, .int .i64 ((j : Nat) : Int)), (65, .string ((opRowAt (r.nums.getD 0 0)).nums)), (64, .pointer (some ⟨w4.heap.size, 1, none⟩)), (7, .int .i64 ((j : Nat) : Int)), (63, .int .i64 ((j : Nat) : Int)), (62, .bool (decide (((j : Nat) : Int) < ((((opRowAt (r.nums.getD 0 0)).nums).size : Nat) : Int)))), (61, .int .i64 ((j : Nat) : Int)), (60, .int .i64 ((((opRowAt (r.nums.getD 0 0)).nums).size : Nat) : Int)), (6, .pointer (some ⟨w11.heap.size, 0, none⟩)), (4, .pointer (some ⟨w4.heap.size, 0, none⟩)), (3, .int .i64 0), (2, .pointer (some ⟨w1.heap.size, 0, none⟩)), (1, .pointer (some ⟨w.heap.size, 0, none⟩))]) rfl ?_
                  refine W.region ?_
                  refine WL.op rfl (d_add rfl rfl (by omega) (by omega) ?_)
                  refine WL.op rfl (d_move rfl ?_)
                  refine WL.done ?_
                  exact X.next [61, 60, 6, 4, 3, 2, 1] (Γ' := [(61, .int .i64 (((j + 1) : Nat) : Int)), (60, .int .i64 ((((opRowAt (r.nums.getD 0 0)).nums).size : Nat) : Int)), (6, .pointer (some ⟨w11.heap.size, 0, none⟩)), (4, .pointer (some ⟨w4.heap.size, 0, none⟩)), (3, .int .i64 0), (2, .pointer (some ⟨w1.heap.size, 0, none⟩)), (1, .pointer (some ⟨w.heap.size, 0, none⟩))]) rfl ((opRowAt (r.nums.getD 0 0)).nums.size - (j + 1)) (by omega) ⟨j + 1, r.nums.getD (j + 1) 0, o2, o3, rfl, H17, (by first | assumption | omega | simp), (by rw [fieldsTo, hst]; unfold put; first | rw [if_pos hS] | rw [if_neg hS, if_pos hA] | rw [if_neg hS, if_neg hA]), rfl⟩
                · skip
                  by_cases hA : bt (opRowAt (r.nums.getD 0 0)).nums j = 65
                  · skip
                    refine W.regionD mixed (by kernel_rfl) fun hok3 w18 k3 => ?_
                    have H18 : UpG w [] w18 [[blk w.heap.size #[.slice ra r.nums.length rc, .string r.text] 53], [blk w1.heap.size #[.int .i64 0, .int .i64 0, .int .i64 0, .int .i64 0, .string ⟨#[]⟩] 55], [blk w4.heap.size #[.string ((opRowAt (r.nums.getD 0 0)).name), .string ((opRowAt (r.nums.getD 0 0)).nums), .bool ((opRowAt (r.nums.getD 0 0)).text)] 87], [blk w11.heap.size #[.int .i64 (r.nums.getD 0 0), .int .i64 o1, .int .i64 o2, .int .i64 o3, .string r.text] 55]] := H14.kept k3
                    refine WD.take hok3 0 (.pointer (some ⟨w4.heap.size, 1, none⟩)) (fun _ => True) rfl rfl rfl rfl rfl trivial (.inl ⟨rfl, fun _ _ => d_fieldAddrB fld87_1 rfl rfl ⟨rfl, rfl⟩⟩) ?_
                    refine WD.take hok3 1 (.string ((opRowAt (r.nums.getD 0 0)).nums)) (fun w' => w'.heap[w4.heap.size]? = some (.cells #[.string ((opRowAt (r.nums.getD 0 0)).name), .string ((opRowAt (r.nums.getD 0 0)).nums), .bool ((opRowAt (r.nums.getD 0 0)).text)] 87 (0, 0))) rfl rfl rfl rfl rfl (H18.blk 2 rfl) (.inl ⟨rfl, fun _ hC => d_loadB Try.underlying9 rfl rfl hC rfl ⟨rfl, rfl⟩⟩) ?_
                    refine WD.take hok3 2 (.int .i64 ((j : Nat) : Int)) (fun _ => True) rfl rfl rfl rfl rfl trivial (.inl ⟨rfl, fun _ _ => d_move rfl ⟨rfl, rfl⟩⟩) ?_
                    refine WD.take hok3 3 (.int .u8 (bt ((opRowAt (r.nums.getD 0 0)).nums) j)) (fun _ => True) rfl rfl rfl rfl rfl trivial (.inl ⟨rfl, fun _ _ => d_idxStrN j Try.underlying9 rfl rfl rfl (by omega) ⟨rfl, rfl⟩⟩) ?_
                    refine WD.take hok3 5 (.pointer (some ⟨w.heap.size, 0, none⟩)) (fun _ => True) rfl rfl rfl rfl rfl trivial (.inl ⟨rfl, fun _ _ => d_fieldAddrB fld53_0 rfl rfl ⟨rfl, rfl⟩⟩) ?_
                    refine WD.take hok3 6 (.slice ra r.nums.length rc) (fun w' => w'.heap[w.heap.size]? = some (.cells #[.slice ra r.nums.length rc, .string r.text] 53 (0, 0))) rfl rfl rfl rfl rfl (H18.blk 0 rfl) (.inl ⟨rfl, fun _ hC => d_loadB Try.underlying51 rfl rfl hC rfl ⟨rfl, rfl⟩⟩) ?_
                    refine WD.take hok3 7 (.int .i64 ((j : Nat) : Int)) (fun _ => True) rfl rfl rfl rfl rfl trivial (.inl ⟨rfl, fun _ _ => d_move rfl ⟨rfl, rfl⟩⟩) ?_
                    refine WD.take hok3 8 (.int .i64 (((j : Nat) : Int) + 1)) (fun _ => True) rfl rfl rfl rfl rfl trivial (.inl ⟨rfl, fun _ _ => d_add rfl rfl (by omega) (by omega) ⟨rfl, rfl⟩⟩) ?_
                    refine WD.take hok3 9 (elemPtr (.slice ra r.nums.length rc) (j + 1)) (fun w' => RdT (tyI .i64) w' (.slice ra r.nums.length rc) r.nums) rfl rfl rfl rfl rfl (rr.at H18) (.inl ⟨rfl, fun _ hC => t_addr1 (j + 1) (T := (tyI .i64)) rfl Try.underlying51 sz3 rfl rfl hC rfl (by omega) ⟨rfl, rfl⟩⟩) ?_
                    refine WD.take hok3 10 (.int .i64 (r.nums.getD (j + 1) 0)) (fun w' => RdT (tyI .i64) w' (.slice ra r.nums.length rc) r.nums) rfl rfl rfl rfl rfl (rr.at H18) (.inl ⟨rfl, fun _ hC => t_load1 (j + 1) 0 (T := (tyI .i64)) rfl Try.underlying3 rfl rfl hC (by omega) rfl ⟨rfl, rfl⟩⟩) ?_
                    refine WD.loud hok3 4 rfl (⟨_, [⟨10, .int .i64 (r.nums.getD (j + 1) 0), (fun w' => RdT (tyI .i64) w' (.slice ra r.nums.length rc) r.nums)⟩, ⟨9, elemPtr (.slice ra r.nums.length rc) (j + 1), (fun w' => RdT (tyI .i64) w' (.slice ra r.nums.length rc) r.nums)⟩, ⟨8, .int .i64 (((j : Nat) : Int) + 1), (fun _ => True)⟩, ⟨7, .int .i64 ((j : Nat) : Int), (fun _ => True)⟩, ⟨6, .slice ra r.nums.length rc, (fun w' => w'.heap[w.heap.size]? = some (.cells #[.slice ra r.nums.length rc, .string r.text] 53 (0, 0)))⟩, ⟨5, .pointer (some ⟨w.heap.size, 0, none⟩), (fun _ => True)⟩], rfl, rfl, rfl, rfl, rfl, rfl, d_call ok51 rfl (Ret.calls (fieldA_any w11.heap.size (bt ((opRowAt (r.nums.getD 0 0)).nums) j) w18  hA) fun _ w19 p3 => ?_)⟩)
                    obtain ⟨rfl, u15⟩ := p3
                    have H19 : UpG w [] w19 [[blk w.heap.size #[.slice ra r.nums.length rc, .string r.text] 53], [blk w1.heap.size #[.int .i64 0, .int .i64 0, .int .i64 0, .int .i64 0, .string ⟨#[]⟩] 55], [blk w4.heap.size #[.string ((opRowAt (r.nums.getD 0 0)).name), .string ((opRowAt (r.nums.getD 0 0)).nums), .bool ((opRowAt (r.nums.getD 0 0)).text)] 87], [blk w11.heap.size #[.int .i64 (r.nums.getD 0 0), .int .i64 o1, .int .i64 o2, .int .i64 o3, .string r.text] 55]] := H18.call u15
                    refine ⟨⟨(rr.at H19), (rr.at H19), trivial, trivial, (H19.blk 0 rfl), trivial, trivial⟩, ?_⟩
                    refine WD.take hok3 11 (.pointer (some ⟨w11.heap.size, 2, none⟩)) (fun _ => True) rfl rfl rfl rfl rfl trivial (.inl ⟨rfl, fun _ _ => d_nilCheck rfl ⟨rfl, rfl⟩⟩) ?_
                    refine WD.loud hok3 12 rfl (⟨_, [], rfl, rfl, rfl, rfl, rfl, rfl, d_storeB sz3 rfl rfl rfl (H19.blk 3 rfl) rfl fun w20 u16 => ?_⟩)
                    have H20 : UpG w [] w20 [[blk w.heap.size #[.slice ra r.nums.length rc, .string r.text] 53], [blk w1.heap.size #[.int .i64 0, .int .i64 0, .int .i64 0, .int .i64 0, .string ⟨#[]⟩] 55], [blk w4.heap.size #[.string ((opRowAt (r.nums.getD 0 0)).name), .string ((opRowAt (r.nums.getD 0 0)).nums), .bool ((opRowAt (r.nums.getD 0 0)).text)] 87], [blk w11.heap.size #[.int .i64 (r.nums.getD 0 0), .int .i64 o1, .int .i64 (r.nums.getD (j + 1) 0), .int .i64 o3, .string r.text] 55]] := H19.on 3 rfl u16
                    refine ⟨trivial, ?_⟩
                    refine WD.done hok3 rfl (X.block_normal (X.then_code ?_))
                    refine W.pick [75, 68, 74, 73, 72, 71, 70, 69, 67, 66, 65, 64, 7, 63, 62, 61, 60, 6, 4, 3, 2, 1] (Γ' := [(75, .pointer (some ⟨w11.heap.size, 2, none⟩)), (68, .pointer (some ⟨w11.heap.size, 2, none⟩)), (74, .int .i64 (r.nums.getD (j + 1) 0)), (73, elemPtr (.slice ra r.nums.length rc) (j + 1)), (72, .int .i64 (((j : Nat) : Int) + 1)), (71, .int .i64 ((j : Nat) : Int)), (70, .slice ra r.nums.length rc), (69, .pointer (some ⟨w.heap.size, 0, none⟩)), (67, .int .u8 (bt ((opRowAt (r.nums.getD 0 0)).nums) j)), (66, .int .i64 ((j : Nat) : Int)), (65, .string ((opRowAt (r.nums.getD 0 0)).nums)), (64, .pointer (some ⟨w4.heap.size, 1, none⟩)), (7, .int .i64 ((j : Nat) : Int)), (63, .int .i64 ((j : Nat) : Int)), (62, .bool (decide (((j : Nat) : Int) < ((((opRowAt (r.nums.getD 0 0)).nums).size : Nat) : Int)))), (61, .int .i64 ((j : Nat) : Int)), (60, .int .i64 ((((opRowAt (r.nums.getD 0 0)).nums).size : Nat) : Int)), (6, .pointer (some ⟨w11.heap.size, 0, none⟩)), (4, .pointer (some ⟨w4.heap.size, 0, none⟩)), (3, .int .i64 0), (2, .pointer (some ⟨w1.heap.size, 0, none⟩)), (1, .pointer (some ⟨w.heap.size, 0, none⟩))]) rfl ?_
                    refine W.region ?_
                    refine WL.op rfl (d_add rfl rfl (by omega) (by omega) ?_)
                    refine WL.op rfl (d_move rfl ?_)
                    refine WL.done ?_
                    exact X.next [61, 60, 6, 4, 3, 2, 1] (Γ' := [(61, .int .i64 (((j + 1) : Nat) : Int)), (60, .int .i64 ((((opRowAt (r.nums.getD 0 0)).nums).size : Nat) : Int)), (6, .pointer (some ⟨w11.heap.size, 0, none⟩)), (4, .pointer (some ⟨w4.heap.size, 0, none⟩)), (3, .int .i64 0), (2, .pointer (some ⟨w1.heap.size, 0, none⟩)), (1, .pointer (some ⟨w.heap.size, 0, none⟩))]) rfl ((opRowAt (r.nums.getD 0 0)).nums.size - (j + 1)) (by omega) ⟨j + 1, o1, r.nums.getD (j + 1) 0, o3, rfl, H20, (by first | assumption | omega | simp), (by rw [fieldsTo, hst]; unfold put; first | rw [if_pos hS] | rw [if_neg hS, if_pos hA] | rw [if_neg hS, if_neg hA]), rfl⟩
                  · skip
                    refine W.regionD mixed (by kernel_rfl) fun hok4 w21 k4 => ?_
                    have H21 : UpG w [] w21 [[blk w.heap.size #[.slice ra r.nums.length rc, .string r.text] 53], [blk w1.heap.size #[.int .i64 0, .int .i64 0, .int .i64 0, .int .i64 0, .string ⟨#[]⟩] 55], [blk w4.heap.size #[.string ((opRowAt (r.nums.getD 0 0)).name), .string ((opRowAt (r.nums.getD 0 0)).nums), .bool ((opRowAt (r.nums.getD 0 0)).text)] 87], [blk w11.heap.size #[.int .i64 (r.nums.getD 0 0), .int .i64 o1, .int .i64 o2, .int .i64 o3, .string r.text] 55]] := H14.kept k4
                    refine WD.take hok4 0 (.pointer (some ⟨w4.heap.size, 1, none⟩)) (fun _ => True) rfl rfl rfl rfl rfl trivial (.inl ⟨rfl, fun _ _ => d_fieldAddrB fld87_1 rfl rfl ⟨rfl, rfl⟩⟩) ?_
                    refine WD.take hok4 1 (.string ((opRowAt (r.nums.getD 0 0)).nums)) (fun w' => w'.heap[w4.heap.size]? = some (.cells #[.string ((opRowAt (r.nums.getD 0 0)).name), .string ((opRowAt (r.nums.getD 0 0)).nums), .bool ((opRowAt (r.nums.getD 0 0)).text)] 87 (0, 0))) rfl rfl rfl rfl rfl (H21.blk 2 rfl) (.inl ⟨rfl, fun _ hC => d_loadB Try.underlying9 rfl rfl hC rfl ⟨rfl, rfl⟩⟩) ?_
                    refine WD.take hok4 2 (.int .i64 ((j : Nat) : Int)) (fun _ => True) rfl rfl rfl rfl rfl trivial (.inl ⟨rfl, fun _ _ => d_move rfl ⟨rfl, rfl⟩⟩) ?_
                    refine WD.take hok4 3 (.int .u8 (bt ((opRowAt (r.nums.getD 0 0)).nums) j)) (fun _ => True) rfl rfl rfl rfl rfl trivial (.inl ⟨rfl, fun _ _ => d_idxStrN j Try.underlying9 rfl rfl rfl (by omega) ⟨rfl, rfl⟩⟩) ?_
                    refine WD.take hok4 5 (.pointer (some ⟨w.heap.size, 0, none⟩)) (fun _ => True) rfl rfl rfl rfl rfl trivial (.inl ⟨rfl, fun _ _ => d_fieldAddrB fld53_0 rfl rfl ⟨rfl, rfl⟩⟩) ?_
                    refine WD.take hok4 6 (.slice ra r.nums.length rc) (fun w' => w'.heap[w.heap.size]? = some (.cells #[.slice ra r.nums.length rc, .string r.text] 53 (0, 0))) rfl rfl rfl rfl rfl (H21.blk 0 rfl) (.inl ⟨rfl, fun _ hC => d_loadB Try.underlying51 rfl rfl hC rfl ⟨rfl, rfl⟩⟩) ?_
                    refine WD.take hok4 7 (.int .i64 ((j : Nat) : Int)) (fun _ => True) rfl rfl rfl rfl rfl trivial (.inl ⟨rfl, fun _ _ => d_move rfl ⟨rfl, rfl⟩⟩) ?_
                    refine WD.take hok4 8 (.int .i64 (((j : Nat) : Int) + 1)) (fun _ => True) rfl rfl rfl rfl rfl trivial (.inl ⟨rfl, fun _ _ => d_add rfl rfl (by omega) (by omega) ⟨rfl, rfl⟩⟩) ?_
                    refine WD.take hok4 9 (elemPtr (.slice ra r.nums.length rc) (j + 1)) (fun w' => RdT (tyI .i64) w' (.slice ra r.nums.length rc) r.nums) rfl rfl rfl rfl rfl (rr.at H21) (.inl ⟨rfl, fun _ hC => t_addr1 (j + 1) (T := (tyI .i64)) rfl Try.underlying51 sz3 rfl rfl hC rfl (by omega) ⟨rfl, rfl⟩⟩) ?_
                    refine WD.take hok4 10 (.int .i64 (r.nums.getD (j + 1) 0)) (fun w' => RdT (tyI .i64) w' (.slice ra r.nums.length rc) r.nums) rfl rfl rfl rfl rfl (rr.at H21) (.inl ⟨rfl, fun _ hC => t_load1 (j + 1) 0 (T := (tyI .i64)) rfl Try.underlying3 rfl rfl hC (by omega) rfl ⟨rfl, rfl⟩⟩) ?_
                    refine WD.loud hok4 4 rfl (⟨_, [⟨10, .int .i64 (r.nums.getD (j + 1) 0), (fun w' => RdT (tyI .i64) w' (.slice ra r.nums.length rc) r.nums)⟩, ⟨9, elemPtr (.slice ra r.nums.length rc) (j + 1), (fun w' => RdT (tyI .i64) w' (.slice ra r.nums.length rc) r.nums)⟩, ⟨8, .int .i64 (((j : Nat) : Int) + 1), (fun _ => True)⟩, ⟨7, .int .i64 ((j : Nat) : Int), (fun _ => True)⟩, ⟨6, .slice ra r.nums.length rc, (fun w' => w'.heap[w.heap.size]? = some (.cells #[.slice ra r.nums.length rc, .string r.text] 53 (0, 0)))⟩, ⟨5, .pointer (some ⟨w.heap.size, 0, none⟩), (fun _ => True)⟩], rfl, rfl, rfl, rfl, rfl, rfl, d_call ok51 rfl (Ret.calls (fieldL_any w11.heap.size (bt ((opRowAt (r.nums.getD 0 0)).nums) j) w21  hS hA) fun _ w22 p4 => ?_)⟩)
                    obtain ⟨rfl, u17⟩ := p4
                    have H22 : UpG w [] w22 [[blk w.heap.size #[.slice ra r.nums.length rc, .string r.text] 53], [blk w1.heap.size #[.int .i64 0, .int .i64 0, .int .i64 0, .int .i64 0, .string ⟨#[]⟩] 55], [blk w4.heap.size #[.string ((opRowAt (r.nums.getD 0 0)).name), .string ((opRowAt (r.nums.getD 0 0)).nums), .bool ((opRowAt (r.nums.getD 0 0)).text)] 87], [blk w11.heap.size #[.int .i64 (r.nums.getD 0 0), .int .i64 o1, .int .i64 o2, .int .i64 o3, .string r.text] 55]] := H21.call u17
                    refine ⟨⟨(rr.at H22), (rr.at H22), trivial, trivial, (H22.blk 0 rfl), trivial, trivial⟩, ?_⟩
                    refine WD.take hok4 11 (.pointer (some ⟨w11.heap.size, 3, none⟩)) (fun _ => True) rfl rfl rfl rfl rfl trivial (.inl ⟨rfl, fun _ _ => d_nilCheck rfl ⟨rfl, rfl⟩⟩) ?_
                    refine WD.loud hok4 12 rfl (⟨_, [], rfl, rfl, rfl, rfl, rfl, rfl, d_storeB sz3 rfl rfl rfl (H22.blk 3 rfl) rfl fun w23 u18 => ?_⟩)
                    have H23 : UpG w [] w23 [[blk w.heap.size #[.slice ra r.nums.length rc, .string r.text] 53], [blk w1.heap.size #[.int .i64 0, .int .i64 0, .int .i64 0, .int .i64 0, .string ⟨#[]⟩] 55], [blk w4.heap.size #[.string ((opRowAt (r.nums.getD 0 0)).name), .string ((opRowAt (r.nums.getD 0 0)).nums), .bool ((opRowAt (r.nums.getD 0 0)).text)] 87], [blk w11.heap.size #[.int .i64 (r.nums.getD 0 0), .int .i64 o1, .int .i64 o2, .int .i64 (r.nums.getD (j + 1) 0), .string r.text] 55]] := H22.on 3 rfl u18
                    refine ⟨trivial, ?_⟩
                    refine WD.done hok4 rfl (X.block_normal (X.then_code ?_))
                    refine W.pick [75, 68, 74, 73, 72, 71, 70, 69, 67, 66, 65, 64, 7, 63, 62, 61, 60, 6, 4, 3, 2, 1] (Γ' := [(75, .pointer (some ⟨w11.heap.size, 3, none⟩)), (68, .pointer (some ⟨w11.heap.size, 3, none⟩)), (74, .int .i64 (r.nums.getD (j + 1) 0)), (73, elemPtr (.slice ra r.nums.length rc) (j + 1)), (72, .int .i64 (((j : Nat) : Int) + 1)), (71, .int .i64 ((j : Nat) : Int)), (70, .slice ra r.nums.length rc), (69, .pointer (some ⟨w.heap.size, 0, none⟩)), (67, .int .u8 (bt ((opRowAt (r.nums.getD 0 0)).nums) j)), (66, .int .i64 ((j : Nat) : Int)), (65, .string ((opRowAt (r.nums.getD 0 0)).nums)), (64, .pointer (some ⟨w4.heap.size, 1, none⟩)), (7, .int .i64 ((j : Nat) : Int)), (63, .int .i64 ((j : Nat) : Int)), (62, .bool (decide (((j : Nat) : Int) < ((((opRowAt (r.nums.getD 0 0)).nums).size : Nat) : Int)))), (61, .int .i64 ((j : Nat) : Int)), (60, .int .i64 ((((opRowAt (r.nums.getD 0 0)).nums).size : Nat) : Int)), (6, .pointer (some ⟨w11.heap.size, 0, none⟩)), (4, .pointer (some ⟨w4.heap.size, 0, none⟩)), (3, .int .i64 0), (2, .pointer (some ⟨w1.heap.size, 0, none⟩)), (1, .pointer (some ⟨w.heap.size, 0, none⟩))]) rfl ?_
                    refine W.region ?_
                    refine WL.op rfl (d_add rfl rfl (by omega) (by omega) ?_)
                    refine WL.op rfl (d_move rfl ?_)
                    refine WL.done ?_
                    exact X.next [61, 60, 6, 4, 3, 2, 1] (Γ' := [(61, .int .i64 (((j + 1) : Nat) : Int)), (60, .int .i64 ((((opRowAt (r.nums.getD 0 0)).nums).size : Nat) : Int)), (6, .pointer (some ⟨w11.heap.size, 0, none⟩)), (4, .pointer (some ⟨w4.heap.size, 0, none⟩)), (3, .int .i64 0), (2, .pointer (some ⟨w1.heap.size, 0, none⟩)), (1, .pointer (some ⟨w.heap.size, 0, none⟩))]) rfl ((opRowAt (r.nums.getD 0 0)).nums.size - (j + 1)) (by omega) ⟨j + 1, o1, o2, r.nums.getD (j + 1) 0, rfl, H23, (by first | assumption | omega | simp), (by rw [fieldsTo, hst]; unfold put; first | rw [if_pos hS] | rw [if_neg hS, if_pos hA] | rw [if_neg hS, if_neg hA]), rfl⟩
              · skip
                refine W.exit (X.then_exit (X.then_exit (X.block_exit (X.then_code ?_))))
                refine W.seq ?_
                refine W.region ?_
                refine WL.op rfl (d_loadAB [.int .i64 (r.nums.getD 0 0), .int .i64 o1, .int .i64 o2, .int .i64 o3, .string r.text] Try.underlying55 rfl sz55 rfl (H14.blk 3 rfl) rfl rfl ?_)
                refine WL.op0 (d_storeAB (us := [.int .i64 (r.nums.getD 0 0), .int .i64 o1, .int .i64 o2, .int .i64 o3, .string r.text]) (cs' := #[.int .i64 (r.nums.getD 0 0), .int .i64 o1, .int .i64 o2, .int .i64 o3, .string r.text]) sz55 rfl rfl rfl rfl (H14.blk 1 rfl) rfl rfl fun w24 u19 => ?_)
                have H24 : UpG w [] w24 [[blk w.heap.size #[.slice ra r.nums.length rc, .string r.text] 53], [blk w1.heap.size #[.int .i64 (r.nums.getD 0 0), .int .i64 o1, .int .i64 o2, .int .i64 o3, .string r.text] 55], [blk w4.heap.size #[.string ((opRowAt (r.nums.getD 0 0)).name), .string ((opRowAt (r.nums.getD 0 0)).nums), .bool ((opRowAt (r.nums.getD 0 0)).text)] 87], [blk w11.heap.size #[.int .i64 (r.nums.getD 0 0), .int .i64 o1, .int .i64 o2, .int .i64 o3, .string r.text] 55]] := H14.on 1 rfl u19
                refine WL.op rfl (d_assign rfl ?_)
                refine WL.done (X.then_code ?_)
                refine W.ret (X.retR2 rfl (rv_cellA [.int .i64 (r.nums.getD 0 0), .int .i64 o1, .int .i64 o2, .int .i64 o3, .string r.text] Try.underlying55 rfl sz55 rfl (H24.blk 1 rfl) rfl rfl) (rv_tmp rfl) ?_)
                have hjj : j = (opRowAt (r.nums.getD 0 0)).nums.size := by omega
                rw [hjj, row_fields hok] at hst
                obtain ⟨h1, h2, h3⟩ : fS (r.nums.getD 0 0) r.nums = o1 ∧ fA (r.nums.getD 0 0) r.nums = o2 ∧ fL (r.nums.getD 0 0) r.nums = o3 := by simpa using hst
                have e : ofR r = (⟨r.nums.getD 0 0, o1, o2, o3, r.text⟩, 0) := by unfold ofR; rw [if_neg hno, if_neg hmid, if_neg (by omega), h1, h2, h3]
                rw [e]
                exact ⟨(by rfl), H24.noneL⟩
        · skip
          refine WL.opN rfl rfl rfl rfl ?_
          refine WL.opN rfl rfl rfl rfl ?_
          refine WL.opN rfl rfl rfl rfl ?_
          refine WL.opG rfl rfl rfl (d_pick rfl rfl ?_)
          refine WL.op rfl (d_pick rfl rfl ?_)
          refine WL.op rfl (d_assign rfl ?_)
          refine WL.done (X.then_code ?_)
          refine W.pick [25, 4, 3, 2, 1] (Γ' := [(25, .bool false), (4, .pointer (some ⟨w4.heap.size, 0, none⟩)), (3, .int .i64 0), (2, .pointer (some ⟨w1.heap.size, 0, none⟩)), (1, .pointer (some ⟨w.heap.size, 0, none⟩))]) rfl ?_
          refine W.iff rfl ?_
          refine W.seq ?_
          have hmid : ¬ (tot (r.nums.getD 0 0) ≠ r.nums.length ∨ (0 < r.text.size ∧ cT (r.nums.getD 0 0) = false)) := fun h => h.elim (fun h => by omega) (fun h => by first | exact absurd h.1 (nil_size g69x) | (have h2 := h.2; rw [hrt, h2] at c69; exact c69 rfl))
          refine W.region ?_
          refine WL.op rfl (d_fieldAddrB fld53_1 rfl rfl ?_)
          refine WL.op rfl (d_loadB Try.underlying9 rfl rfl (H6.blk 0 rfl) rfl ?_)
          refine WL.op rfl (d_lenStr Try.underlying9 rfl ?_)
          refine WL.op rfl (d_cmp (decide (((r.text.size : Nat) : Int) > (1048576 : Int))) rfl rfl rfl ?_)
          refine WL.op rfl (d_assign rfl ?_)
          refine WL.done (X.then_code ?_)
          refine W.ite (p := ((r.text.size : Nat) : Int) > (1048576 : Int)) rfl (fun c71 => ?_) (fun c71 => ?_)
          · skip
            refine W.seq ?_
            refine W.region ?_
            refine WL.op rfl (d_build (cs := #[.int .i64 0, .int .i64 0, .int .i64 0, .int .i64 0, .string ⟨#[]⟩]) rfl (by kernel_rfl) ?_)
            refine WL.op0 (d_storeAB (us := [.int .i64 0, .int .i64 0, .int .i64 0, .int .i64 0, .string ⟨#[]⟩]) (cs' := #[.int .i64 0, .int .i64 0, .int .i64 0, .int .i64 0, .string ⟨#[]⟩]) sz55 rfl rfl rfl rfl (H6.blk 1 rfl) rfl rfl fun w25 u20 => ?_)
            have H25 : UpG w [] w25 [[blk w.heap.size #[.slice ra r.nums.length rc, .string r.text] 53], [blk w1.heap.size #[.int .i64 0, .int .i64 0, .int .i64 0, .int .i64 0, .string ⟨#[]⟩] 55], [blk w4.heap.size #[.string ((opRowAt (r.nums.getD 0 0)).name), .string ((opRowAt (r.nums.getD 0 0)).nums), .bool ((opRowAt (r.nums.getD 0 0)).text)] 87]] := H6.on 1 rfl u20
            refine WL.op rfl (d_assign rfl ?_)
            refine WL.done (X.then_code ?_)
            refine W.ret (X.block_ret (X.then_ret (X.retR2 rfl (rv_cellA [.int .i64 0, .int .i64 0, .int .i64 0, .int .i64 0, .string ⟨#[]⟩] Try.underlying55 rfl sz55 rfl (H25.blk 1 rfl) rfl rfl) (rv_tmp rfl) ?_)))
            have e : ofR r = (op0, 4) := by unfold ofR; rw [if_neg hno, if_neg hmid, if_pos (by omega)]
            rw [e]
            exact ⟨(by rfl), H25.noneL⟩
          · skip
            refine W.skip (X.block_normal (X.then_code ?_))
            refine W.seq ?_
            refine W.regionD mixed (by kernel_rfl) fun hok5 w26 k5 => ?_
            have H26 : UpG w [] w26 [[blk w.heap.size #[.slice ra r.nums.length rc, .string r.text] 53], [blk w1.heap.size #[.int .i64 0, .int .i64 0, .int .i64 0, .int .i64 0, .string ⟨#[]⟩] 55], [blk w4.heap.size #[.string ((opRowAt (r.nums.getD 0 0)).name), .string ((opRowAt (r.nums.getD 0 0)).nums), .bool ((opRowAt (r.nums.getD 0 0)).text)] 87]] := H6.kept k5
            refine WD.take hok5 0 (.pointer (some ⟨w.heap.size, 0, none⟩)) (fun _ => True) rfl rfl rfl rfl rfl trivial (.inl ⟨rfl, fun _ _ => d_fieldAddrB fld53_0 rfl rfl ⟨rfl, rfl⟩⟩) ?_
            refine WD.take hok5 1 (.slice ra r.nums.length rc) (fun w' => w'.heap[w.heap.size]? = some (.cells #[.slice ra r.nums.length rc, .string r.text] 53 (0, 0))) rfl rfl rfl rfl rfl (H26.blk 0 rfl) (.inl ⟨rfl, fun _ hC => d_loadB Try.underlying51 rfl rfl hC rfl ⟨rfl, rfl⟩⟩) ?_
            refine WD.take hok5 2 (elemPtr (.slice ra r.nums.length rc) 0) (fun w' => RdT (tyI .i64) w' (.slice ra r.nums.length rc) r.nums) rfl rfl rfl rfl rfl (rr.at H26) (.inl ⟨rfl, fun _ hC => t_addr1 0 (T := (tyI .i64)) rfl Try.underlying51 sz3 rfl rfl hC rfl (by omega) ⟨rfl, rfl⟩⟩) ?_
            refine WD.take hok5 3 (.int .i64 (r.nums.getD 0 0)) (fun w' => RdT (tyI .i64) w' (.slice ra r.nums.length rc) r.nums) rfl rfl rfl rfl rfl (rr.at H26) (.inl ⟨rfl, fun _ hC => t_load1 0 0 (T := (tyI .i64)) rfl Try.underlying3 rfl rfl hC (by omega) rfl ⟨rfl, rfl⟩⟩) ?_
            refine WD.take hok5 4 (.pointer (some ⟨w.heap.size, 1, none⟩)) (fun _ => True) rfl rfl rfl rfl rfl trivial (.inl ⟨rfl, fun _ _ => d_fieldAddrB fld53_1 rfl rfl ⟨rfl, rfl⟩⟩) ?_
            refine WD.take hok5 5 (.string r.text) (fun w' => w'.heap[w.heap.size]? = some (.cells #[.slice ra r.nums.length rc, .string r.text] 53 (0, 0))) rfl rfl rfl rfl rfl (H26.blk 0 rfl) (.inl ⟨rfl, fun _ hC => d_loadB Try.underlying9 rfl rfl hC rfl ⟨rfl, rfl⟩⟩) ?_
            refine WD.take hok5 6 (.agg #[.int .i64 (r.nums.getD 0 0), .int .i64 0, .int .i64 0, .int .i64 0, .string r.text]) (fun _ => True) rfl rfl rfl rfl rfl trivial (.inl ⟨rfl, fun _ _ => d_build (cs := #[.int .i64 (r.nums.getD 0 0), .int .i64 0, .int .i64 0, .int .i64 0, .string r.text]) rfl (by kernel_rfl) ⟨rfl, rfl⟩⟩) ?_
            refine WD.loud hok5 7 rfl (⟨_, [⟨6, .agg #[.int .i64 (r.nums.getD 0 0), .int .i64 0, .int .i64 0, .int .i64 0, .string r.text], (fun _ => True)⟩, ⟨5, .string r.text, (fun w' => w'.heap[w.heap.size]? = some (.cells #[.slice ra r.nums.length rc, .string r.text] 53 (0, 0)))⟩, ⟨4, .pointer (some ⟨w.heap.size, 1, none⟩), (fun _ => True)⟩, ⟨3, .int .i64 (r.nums.getD 0 0), (fun w' => RdT (tyI .i64) w' (.slice ra r.nums.length rc) r.nums)⟩, ⟨2, elemPtr (.slice ra r.nums.length rc) 0, (fun w' => RdT (tyI .i64) w' (.slice ra r.nums.length rc) r.nums)⟩, ⟨1, .slice ra r.nums.length rc, (fun w' => w'.heap[w.heap.size]? = some (.cells #[.slice ra r.nums.length rc, .string r.text] 53 (0, 0)))⟩, ⟨0, .pointer (some ⟨w.heap.size, 0, none⟩), (fun _ => True)⟩], rfl, rfl, rfl, rfl, rfl, rfl, d_alloc sz55 fun w27 u21 => ?_⟩)
            have H27 : UpG w [] w27 [[blk w.heap.size #[.slice ra r.nums.length rc, .string r.text] 53], [blk w1.heap.size #[.int .i64 0, .int .i64 0, .int .i64 0, .int .i64 0, .string ⟨#[]⟩] 55], [blk w4.heap.size #[.string ((opRowAt (r.nums.getD 0 0)).name), .string ((opRowAt (r.nums.getD 0 0)).nums), .bool ((opRowAt (r.nums.getD 0 0)).text)] 87], [blk w26.heap.size #[.int .i64 0, .int .i64 0, .int .i64 0, .int .i64 0, .string ⟨#[]⟩] 55]] := H26.new' u21
            refine ⟨⟨trivial, (H27.blk 0 rfl), trivial, (rr.at H27), (rr.at H27), (H27.blk 0 rfl), trivial, trivial⟩, ?_⟩
            refine WD.loud hok5 8 rfl (⟨_, [], rfl, rfl, rfl, rfl, rfl, rfl, d_storeAB (us := [.int .i64 (r.nums.getD 0 0), .int .i64 0, .int .i64 0, .int .i64 0, .string r.text]) (cs' := #[.int .i64 (r.nums.getD 0 0), .int .i64 0, .int .i64 0, .int .i64 0, .string r.text]) sz55 rfl rfl rfl rfl (H27.blk 3 rfl) rfl rfl fun w28 u22 => ?_⟩)
            have H28 : UpG w [] w28 [[blk w.heap.size #[.slice ra r.nums.length rc, .string r.text] 53], [blk w1.heap.size #[.int .i64 0, .int .i64 0, .int .i64 0, .int .i64 0, .string ⟨#[]⟩] 55], [blk w4.heap.size #[.string ((opRowAt (r.nums.getD 0 0)).name), .string ((opRowAt (r.nums.getD 0 0)).nums), .bool ((opRowAt (r.nums.getD 0 0)).text)] 87], [blk w26.heap.size #[.int .i64 (r.nums.getD 0 0), .int .i64 0, .int .i64 0, .int .i64 0, .string r.text] 55]] := H27.on 3 rfl u22
            refine ⟨trivial, ?_⟩
            refine WD.done hok5 rfl (X.then_code ?_)
            refine W.pick [6, 4, 3, 2, 1] (Γ' := [(6, .pointer (some ⟨w26.heap.size, 0, none⟩)), (4, .pointer (some ⟨w4.heap.size, 0, none⟩)), (3, .int .i64 0), (2, .pointer (some ⟨w1.heap.size, 0, none⟩)), (1, .pointer (some ⟨w.heap.size, 0, none⟩))]) rfl ?_
            refine W.seq ?_
            refine W.seq ?_
            refine W.region ?_
            refine WL.op rfl (d_fieldAddrB fld87_1 rfl rfl ?_)
            refine WL.op rfl (d_loadB Try.underlying9 rfl rfl (H28.blk 2 rfl) rfl ?_)
            refine WL.op rfl (d_lenStr Try.underlying9 rfl ?_)
            refine WL.op rfl (d_move rfl ?_)
            refine WL.done (X.then_code ?_)
            refine W.block ?_
            refine W.pick [61, 60, 6, 4, 3, 2, 1] (Γ' := [(61, .int .i64 0), (60, .int .i64 ((((opRowAt (r.nums.getD 0 0)).nums).size : Nat) : Int)), (6, .pointer (some ⟨w26.heap.size, 0, none⟩)), (4, .pointer (some ⟨w4.heap.size, 0, none⟩)), (3, .int .i64 0), (2, .pointer (some ⟨w1.heap.size, 0, none⟩)), (1, .pointer (some ⟨w.heap.size, 0, none⟩))]) rfl ?_
            refine W.loop (fun m Γ' w' => ∃ j : Nat, ∃ o1 : Int, ∃ o2 : Int, ∃ o3 : Int, Γ' = [(61, .int .i64 ((j : Nat) : Int)), (60, .int .i64 ((((opRowAt (r.nums.getD 0 0)).nums).size : Nat) : Int)), (6, .pointer (some ⟨w26.heap.size, 0, none⟩)), (4, .pointer (some ⟨w4.heap.size, 0, none⟩)), (3, .int .i64 0), (2, .pointer (some ⟨w1.heap.size, 0, none⟩)), (1, .pointer (some ⟨w.heap.size, 0, none⟩))] ∧ UpG w [] w' [[blk w.heap.size #[.slice ra r.nums.length rc, .string r.text] 53], [blk w1.heap.size #[.int .i64 0, .int .i64 0, .int .i64 0, .int .i64 0, .string ⟨#[]⟩] 55], [blk w4.heap.size #[.string ((opRowAt (r.nums.getD 0 0)).name), .string ((opRowAt (r.nums.getD 0 0)).nums), .bool ((opRowAt (r.nums.getD 0 0)).text)] 87], [blk w26.heap.size #[.int .i64 (r.nums.getD 0 0), .int .i64 o1, .int .i64 o2, .int .i64 o3, .string r.text] 55]] ∧ (j ≤ (opRowAt (r.nums.getD 0 0)).nums.size) ∧ (fieldsTo (opRowAt (r.nums.getD 0 0)).nums r.nums j = (o1, o2, o3)) ∧ m = (opRowAt (r.nums.getD 0 0)).nums.size - j) ((opRowAt (r.nums.getD 0 0)).nums.size - 0) ⟨0, 0, 0, 0, rfl, H28, (by first | assumption | omega | simp), (by rfl), rfl⟩ ?_
            rintro m2 Γ2 w29 ⟨j_1, o1_1, o2_1, o3_1, rfl, H29, hj, hst, rfl⟩
            refine W.seq ?_
            refine W.region ?_
            refine WL.op rfl (d_cmp (decide (((j_1 : Nat) : Int) < ((((opRowAt (r.nums.getD 0 0)).nums).size : Nat) : Int))) rfl rfl rfl ?_)
            refine WL.done (X.then_code ?_)
            refine W.seq ?_
            refine W.ite (p := ((j_1 : Nat) : Int) < ((((opRowAt (r.nums.getD 0 0)).nums).size : Nat) : Int)) rfl (fun c75 => ?_) (fun c75 => ?_)
            · skip
              refine W.skip (X.then_code ?_)
              refine W.seq ?_
              refine W.block ?_
              refine W.seq ?_
              refine W.region ?_
              refine WL.op rfl (d_move rfl ?_)
              refine WL.op rfl (d_assign rfl ?_)
              refine WL.done (X.then_code ?_)
              by_cases hS : bt (opRowAt (r.nums.getD 0 0)).nums j_1 = 83
              · skip
                refine W.regionD mixed (by kernel_rfl) fun hok6 w30 k6 => ?_
                have H30 : UpG w [] w30 [[blk w.heap.size #[.slice ra r.nums.length rc, .string r.text] 53], [blk w1.heap.size #[.int .i64 0, .int .i64 0, .int .i64 0, .int .i64 0, .string ⟨#[]⟩] 55], [blk w4.heap.size #[.string ((opRowAt (r.nums.getD 0 0)).name), .string ((opRowAt (r.nums.getD 0 0)).nums), .bool ((opRowAt (r.nums.getD 0 0)).text)] 87], [blk w26.heap.size #[.int .i64 (r.nums.getD 0 0), .int .i64 o1_1, .int .i64 o2_1, .int .i64 o3_1, .string r.text] 55]] := H29.kept k6
                refine WD.take hok6 0 (.pointer (some ⟨w4.heap.size, 1, none⟩)) (fun _ => True) rfl rfl rfl rfl rfl trivial (.inl ⟨rfl, fun _ _ => d_fieldAddrB fld87_1 rfl rfl ⟨rfl, rfl⟩⟩) ?_
                refine WD.take hok6 1 (.string ((opRowAt (r.nums.getD 0 0)).nums)) (fun w' => w'.heap[w4.heap.size]? = some (.cells #[.string ((opRowAt (r.nums.getD 0 0)).name), .string ((opRowAt (r.nums.getD 0 0)).nums), .bool ((opRowAt (r.nums.getD 0 0)).text)] 87 (0, 0))) rfl rfl rfl rfl rfl (H30.blk 2 rfl) (.inl ⟨rfl, fun _ hC => d_loadB Try.underlying9 rfl rfl hC rfl ⟨rfl, rfl⟩⟩) ?_
                refine WD.take hok6 2 (.int .i64 ((j_1 : Nat) : Int)) (fun _ => True) rfl rfl rfl rfl rfl trivial (.inl ⟨rfl, fun _ _ => d_move rfl ⟨rfl, rfl⟩⟩) ?_
                refine WD.take hok6 3 (.int .u8 (bt ((opRowAt (r.nums.getD 0 0)).nums) j_1)) (fun _ => True) rfl rfl rfl rfl rfl trivial (.inl ⟨rfl, fun _ _ => d_idxStrN j_1 Try.underlying9 rfl rfl rfl (by omega) ⟨rfl, rfl⟩⟩) ?_
                refine WD.take hok6 5 (.pointer (some ⟨w.heap.size, 0, none⟩)) (fun _ => True) rfl rfl rfl rfl rfl trivial (.inl ⟨rfl, fun _ _ => d_fieldAddrB fld53_0 rfl rfl ⟨rfl, rfl⟩⟩) ?_
                refine WD.take hok6 6 (.slice ra r.nums.length rc) (fun w' => w'.heap[w.heap.size]? = some (.cells #[.slice ra r.nums.length rc, .string r.text] 53 (0, 0))) rfl rfl rfl rfl rfl (H30.blk 0 rfl) (.inl ⟨rfl, fun _ hC => d_loadB Try.underlying51 rfl rfl hC rfl ⟨rfl, rfl⟩⟩) ?_
                refine WD.take hok6 7 (.int .i64 ((j_1 : Nat) : Int)) (fun _ => True) rfl rfl rfl rfl rfl trivial (.inl ⟨rfl, fun _ _ => d_move rfl ⟨rfl, rfl⟩⟩) ?_
                refine WD.take hok6 8 (.int .i64 (((j_1 : Nat) : Int) + 1)) (fun _ => True) rfl rfl rfl rfl rfl trivial (.inl ⟨rfl, fun _ _ => d_add rfl rfl (by omega) (by omega) ⟨rfl, rfl⟩⟩) ?_
                refine WD.take hok6 9 (elemPtr (.slice ra r.nums.length rc) (j_1 + 1)) (fun w' => RdT (tyI .i64) w' (.slice ra r.nums.length rc) r.nums) rfl rfl rfl rfl rfl (rr.at H30) (.inl ⟨rfl, fun _ hC => t_addr1 (j_1 + 1) (T := (tyI .i64)) rfl Try.underlying51 sz3 rfl rfl hC rfl (by omega) ⟨rfl, rfl⟩⟩) ?_
                refine WD.take hok6 10 (.int .i64 (r.nums.getD (j_1 + 1) 0)) (fun w' => RdT (tyI .i64) w' (.slice ra r.nums.length rc) r.nums) rfl rfl rfl rfl rfl (rr.at H30) (.inl ⟨rfl, fun _ hC => t_load1 (j_1 + 1) 0 (T := (tyI .i64)) rfl Try.underlying3 rfl rfl hC (by omega) rfl ⟨rfl, rfl⟩⟩) ?_
                refine WD.loud hok6 4 rfl (⟨_, [⟨10, .int .i64 (r.nums.getD (j_1 + 1) 0), (fun w' => RdT (tyI .i64) w' (.slice ra r.nums.length rc) r.nums)⟩, ⟨9, elemPtr (.slice ra r.nums.length rc) (j_1 + 1), (fun w' => RdT (tyI .i64) w' (.slice ra r.nums.length rc) r.nums)⟩, ⟨8, .int .i64 (((j_1 : Nat) : Int) + 1), (fun _ => True)⟩, ⟨7, .int .i64 ((j_1 : Nat) : Int), (fun _ => True)⟩, ⟨6, .slice ra r.nums.length rc, (fun w' => w'.heap[w.heap.size]? = some (.cells #[.slice ra r.nums.length rc, .string r.text] 53 (0, 0)))⟩, ⟨5, .pointer (some ⟨w.heap.size, 0, none⟩), (fun _ => True)⟩], rfl, rfl, rfl, rfl, rfl, rfl, d_call ok51 rfl (Ret.calls (fieldS_any w26.heap.size (bt ((opRowAt (r.nums.getD 0 0)).nums) j_1) w30  hS) fun _ w31 p5 => ?_)⟩)
                obtain ⟨rfl, u23⟩ := p5
                have H31 : UpG w [] w31 [[blk w.heap.size #[.slice ra r.nums.length rc, .string r.text] 53], [blk w1.heap.size #[.int .i64 0, .int .i64 0, .int .i64 0, .int .i64 0, .string ⟨#[]⟩] 55], [blk w4.heap.size #[.string ((opRowAt (r.nums.getD 0 0)).name), .string ((opRowAt (r.nums.getD 0 0)).nums), .bool ((opRowAt (r.nums.getD 0 0)).text)] 87], [blk w26.heap.size #[.int .i64 (r.nums.getD 0 0), .int .i64 o1_1, .int .i64 o2_1, .int .i64 o3_1, .string r.text] 55]] := H30.call u23
                refine ⟨⟨(rr.at H31), (rr.at H31), trivial, trivial, (H31.blk 0 rfl), trivial, trivial⟩, ?_⟩
                refine WD.take hok6 11 (.pointer (some ⟨w26.heap.size, 1, none⟩)) (fun _ => True) rfl rfl rfl rfl rfl trivial (.inl ⟨rfl, fun _ _ => d_nilCheck rfl ⟨rfl, rfl⟩⟩) ?_
                refine WD.loud hok6 12 rfl (⟨_, [], rfl, rfl, rfl, rfl, rfl, rfl, d_storeB sz3 rfl rfl rfl (H31.blk 3 rfl) rfl fun w32 u24 => ?_⟩)
                have H32 : UpG w [] w32 [[blk w.heap.size #[.slice ra r.nums.length rc, .string r.text] 53], [blk w1.heap.size #[.int .i64 0, .int .i64 0, .int .i64 0, .int .i64 0, .string ⟨#[]⟩] 55], [blk w4.heap.size #[.string ((opRowAt (r.nums.getD 0 0)).name), .string ((opRowAt (r.nums.getD 0 0)).nums), .bool ((opRowAt (r.nums.getD 0 0)).text)] 87], [blk w26.heap.size #[.int .i64 (r.nums.getD 0 0), .int .i64 (r.nums.getD (j_1 + 1) 0), .int .i64 o2_1, .int .i64 o3_1, .string r.text] 55]] := H31.on 3 rfl u24
                refine ⟨trivial, ?_⟩
                refine WD.done hok6 rfl (X.block_normal (X.then_code ?_))
                refine W.pick [75, 68, 74, 73, 72, 71, 70, 69, 67, 66, 65, 64, 7, 63, 62, 61, 60, 6, 4, 3, 2, 1] (Γ' := [(75, .pointer (some ⟨w26.heap.size, 1, none⟩)), (68, .pointer (some ⟨w26.heap.size, 1, none⟩)), (74, .int .i64 (r.nums.getD (j_1 + 1) 0)), (73, elemPtr (.slice ra r.nums.length rc) (j_1 + 1)), (72, .int .i64 (((j_1 : Nat) : Int) + 1)), (71, .int .i64 ((j_1 : Nat) : Int)), (70, .slice ra r.nums.length rc), (69, .pointer (some ⟨w.heap.size, 0, none⟩)), (67, .int .u8 (bt ((opRowAt (r.nums.getD 0 0)).nums) j_1)), (66, .int .i64 ((j_1 : Nat) : Int)), (65, .string ((opRowAt (r.nums.getD 0 0)).nums)), (64, .pointer (some ⟨w4.heap.size, 1, none⟩)), (7, .int .i64 ((j_1 : Nat) : Int)), (63, .int .i64 ((j_1 : Nat) : Int)), (62, .bool (decide (((j_1 : Nat) : Int) < ((((opRowAt (r.nums.getD 0 0)).nums).size : Nat) : Int)))), (61, .int .i64 ((j_1 : Nat) : Int)), (60, .int .i64 ((((opRowAt (r.nums.getD 0 0)).nums).size : Nat) : Int)), (6, .pointer (some ⟨w26.heap.size, 0, none⟩)), (4, .pointer (some ⟨w4.heap.size, 0, none⟩)), (3, .int .i64 0), (2, .pointer (some ⟨w1.heap.size, 0, none⟩)), (1, .pointer (some ⟨w.heap.size, 0, none⟩))]) rfl ?_
                refine W.region ?_
                refine WL.op rfl (d_add rfl rfl (by omega) (by omega) ?_)
                refine WL.op rfl (d_move rfl ?_)
                refine WL.done ?_
                exact X.next [61, 60, 6, 4, 3, 2, 1] (Γ' := [(61, .int .i64 (((j_1 + 1) : Nat) : Int)), (60, .int .i64 ((((opRowAt (r.nums.getD 0 0)).nums).size : Nat) : Int)), (6, .pointer (some ⟨w26.heap.size, 0, none⟩)), (4, .pointer (some ⟨w4.heap.size, 0, none⟩)), (3, .int .i64 0), (2, .pointer (some ⟨w1.heap.size, 0, none⟩)), (1, .pointer (some ⟨w.heap.size, 0, none⟩))]) rfl ((opRowAt (r.nums.getD 0 0)).nums.size - (j_1 + 1)) (by omega) ⟨j_1 + 1, r.nums.getD (j_1 + 1) 0, o2_1, o3_1, rfl, H32, (by first | assumption | omega | simp), (by rw [fieldsTo, hst]; unfold put; first | rw [if_pos hS] | rw [if_neg hS, if_pos hA] | rw [if_neg hS, if_neg hA]), rfl⟩
              · skip
                by_cases hA : bt (opRowAt (r.nums.getD 0 0)).nums j_1 = 65
                · skip
                  refine W.regionD mixed (by kernel_rfl) fun hok7 w33 k7 => ?_
                  have H33 : UpG w [] w33 [[blk w.heap.size #[.slice ra r.nums.length rc, .string r.text] 53], [blk w1.heap.size #[.int .i64 0, .int .i64 0, .int .i64 0, .int .i64 0, .string ⟨#[]⟩] 55], [blk w4.heap.size #[.string ((opRowAt (r.nums.getD 0 0)).name), .string ((opRowAt (r.nums.getD 0 0)).nums), .bool ((opRowAt (r.nums.getD 0 0)).text)] 87], [blk w26.heap.size #[.int .i64 (r.nums.getD 0 0), .int .i64 o1_1, .int .i64 o2_1, .int .i64 o3_1, .string r.text] 55]] := H29.kept k7
                  refine WD.take hok7 0 (.pointer (some ⟨w4.heap.size, 1, none⟩)) (fun _ => True) rfl rfl rfl rfl rfl trivial (.inl ⟨rfl, fun _ _ => d_fieldAddrB fld87_1 rfl rfl ⟨rfl, rfl⟩⟩) ?_
                  refine WD.take hok7 1 (.string ((opRowAt (r.nums.getD 0 0)).nums)) (fun w' => w'.heap[w4.heap.size]? = some (.cells #[.string ((opRowAt (r.nums.getD 0 0)).name), .string ((opRowAt (r.nums.getD 0 0)).nums), .bool ((opRowAt (r.nums.getD 0 0)).text)] 87 (0, 0))) rfl rfl rfl rfl rfl (H33.blk 2 rfl) (.inl ⟨rfl, fun _ hC => d_loadB Try.underlying9 rfl rfl hC rfl ⟨rfl, rfl⟩⟩) ?_
                  refine WD.take hok7 2 (.int .i64 ((j_1 : Nat) : Int)) (fun _ => True) rfl rfl rfl rfl rfl trivial (.inl ⟨rfl, fun _ _ => d_move rfl ⟨rfl, rfl⟩⟩) ?_
                  refine WD.take hok7 3 (.int .u8 (bt ((opRowAt (r.nums.getD 0 0)).nums) j_1)) (fun _ => True) rfl rfl rfl rfl rfl trivial (.inl ⟨rfl, fun _ _ => d_idxStrN j_1 Try.underlying9 rfl rfl rfl (by omega) ⟨rfl, rfl⟩⟩) ?_
                  refine WD.take hok7 5 (.pointer (some ⟨w.heap.size, 0, none⟩)) (fun _ => True) rfl rfl rfl rfl rfl trivial (.inl ⟨rfl, fun _ _ => d_fieldAddrB fld53_0 rfl rfl ⟨rfl, rfl⟩⟩) ?_
                  refine WD.take hok7 6 (.slice ra r.nums.length rc) (fun w' => w'.heap[w.heap.size]? = some (.cells #[.slice ra r.nums.length rc, .string r.text] 53 (0, 0))) rfl rfl rfl rfl rfl (H33.blk 0 rfl) (.inl ⟨rfl, fun _ hC => d_loadB Try.underlying51 rfl rfl hC rfl ⟨rfl, rfl⟩⟩) ?_
                  refine WD.take hok7 7 (.int .i64 ((j_1 : Nat) : Int)) (fun _ => True) rfl rfl rfl rfl rfl trivial (.inl ⟨rfl, fun _ _ => d_move rfl ⟨rfl, rfl⟩⟩) ?_
                  refine WD.take hok7 8 (.int .i64 (((j_1 : Nat) : Int) + 1)) (fun _ => True) rfl rfl rfl rfl rfl trivial (.inl ⟨rfl, fun _ _ => d_add rfl rfl (by omega) (by omega) ⟨rfl, rfl⟩⟩) ?_
                  refine WD.take hok7 9 (elemPtr (.slice ra r.nums.length rc) (j_1 + 1)) (fun w' => RdT (tyI .i64) w' (.slice ra r.nums.length rc) r.nums) rfl rfl rfl rfl rfl (rr.at H33) (.inl ⟨rfl, fun _ hC => t_addr1 (j_1 + 1) (T := (tyI .i64)) rfl Try.underlying51 sz3 rfl rfl hC rfl (by omega) ⟨rfl, rfl⟩⟩) ?_
                  refine WD.take hok7 10 (.int .i64 (r.nums.getD (j_1 + 1) 0)) (fun w' => RdT (tyI .i64) w' (.slice ra r.nums.length rc) r.nums) rfl rfl rfl rfl rfl (rr.at H33) (.inl ⟨rfl, fun _ hC => t_load1 (j_1 + 1) 0 (T := (tyI .i64)) rfl Try.underlying3 rfl rfl hC (by omega) rfl ⟨rfl, rfl⟩⟩) ?_
                  refine WD.loud hok7 4 rfl (⟨_, [⟨10, .int .i64 (r.nums.getD (j_1 + 1) 0), (fun w' => RdT (tyI .i64) w' (.slice ra r.nums.length rc) r.nums)⟩, ⟨9, elemPtr (.slice ra r.nums.length rc) (j_1 + 1), (fun w' => RdT (tyI .i64) w' (.slice ra r.nums.length rc) r.nums)⟩, ⟨8, .int .i64 (((j_1 : Nat) : Int) + 1), (fun _ => True)⟩, ⟨7, .int .i64 ((j_1 : Nat) : Int), (fun _ => True)⟩, ⟨6, .slice ra r.nums.length rc, (fun w' => w'.heap[w.heap.size]? = some (.cells #[.slice ra r.nums.length rc, .string r.text] 53 (0, 0)))⟩, ⟨5, .pointer (some ⟨w.heap.size, 0, none⟩), (fun _ => True)⟩], rfl, rfl, rfl, rfl, rfl, rfl, d_call ok51 rfl (Ret.calls (fieldA_any w26.heap.size (bt ((opRowAt (r.nums.getD 0 0)).nums) j_1) w33  hA) fun _ w34 p6 => ?_)⟩)
                  obtain ⟨rfl, u25⟩ := p6
                  have H34 : UpG w [] w34 [[blk w.heap.size #[.slice ra r.nums.length rc, .string r.text] 53], [blk w1.heap.size #[.int .i64 0, .int .i64 0, .int .i64 0, .int .i64 0, .string ⟨#[]⟩] 55], [blk w4.heap.size #[.string ((opRowAt (r.nums.getD 0 0)).name), .string ((opRowAt (r.nums.getD 0 0)).nums), .bool ((opRowAt (r.nums.getD 0 0)).text)] 87], [blk w26.heap.size #[.int .i64 (r.nums.getD 0 0), .int .i64 o1_1, .int .i64 o2_1, .int .i64 o3_1, .string r.text] 55]] := H33.call u25
                  refine ⟨⟨(rr.at H34), (rr.at H34), trivial, trivial, (H34.blk 0 rfl), trivial, trivial⟩, ?_⟩
                  refine WD.take hok7 11 (.pointer (some ⟨w26.heap.size, 2, none⟩)) (fun _ => True) rfl rfl rfl rfl rfl trivial (.inl ⟨rfl, fun _ _ => d_nilCheck rfl ⟨rfl, rfl⟩⟩) ?_
                  refine WD.loud hok7 12 rfl (⟨_, [], rfl, rfl, rfl, rfl, rfl, rfl, d_storeB sz3 rfl rfl rfl (H34.blk 3 rfl) rfl fun w35 u26 => ?_⟩)
                  have H35 : UpG w [] w35 [[blk w.heap.size #[.slice ra r.nums.length rc, .string r.text] 53], [blk w1.heap.size #[.int .i64 0, .int .i64 0, .int .i64 0, .int .i64 0, .string ⟨#[]⟩] 55], [blk w4.heap.size #[.string ((opRowAt (r.nums.getD 0 0)).name), .string ((opRowAt (r.nums.getD 0 0)).nums), .bool ((opRowAt (r.nums.getD 0 0)).text)] 87], [blk w26.heap.size #[.int .i64 (r.nums.getD 0 0), .int .i64 o1_1, .int .i64 (r.nums.getD (j_1 + 1) 0), .int .i64 o3_1, .string r.text] 55]] := H34.on 3 rfl u26
                  refine ⟨trivial, ?_⟩
                  refine WD.done hok7 rfl (X.block_normal (X.then_code ?_))
                  refine W.pick [75, 68, 74, 73, 72, 71, 70, 69, 67, 66, 65, 64, 7, 63, 62, 61, 60, 6, 4, 3, 2, 1] (Γ' := [(75, .pointer (some ⟨w26.heap.size, 2, none⟩)), (68, .pointer (some ⟨w26.heap.size, 2, none⟩)), (74, .int .i64 (r.nums.getD (j_1 + 1) 0)), (73, elemPtr (.slice ra r.nums.length rc) (j_1 + 1)), (72, .int .i64 (((j_1 : Nat) : Int) + 1)), (71, .int .i64 ((j_1 : Nat) : Int)), (70, .slice ra r.nums.length rc), (69, .pointer (some ⟨w.heap.size, 0, none⟩)), (67, .int .u8 (bt ((opRowAt (r.nums.getD 0 0)).nums) j_1)), (66, .int .i64 ((j_1 : Nat) : Int)), (65, .string ((opRowAt (r.nums.getD 0 0)).nums)), (64, .pointer (some ⟨w4.heap.size, 1, none⟩)), (7, .int .i64 ((j_1 : Nat) : Int)), (63, .int .i64 ((j_1 : Nat) : Int)), (62, .bool (decide (((j_1 : Nat) : Int) < ((((opRowAt (r.nums.getD 0 0)).nums).size : Nat) : Int)))), (61, .int .i64 ((j_1 : Nat) : Int)), (60, .int .i64 ((((opRowAt (r.nums.getD 0 0)).nums).size : Nat) : Int)), (6, .pointer (some ⟨w26.heap.size, 0, none⟩)), (4, .pointer (some ⟨w4.heap.size, 0, none⟩)), (3, .int .i64 0), (2, .pointer (some ⟨w1.heap.size, 0, none⟩)), (1, .pointer (some ⟨w.heap.size, 0, none⟩))]) rfl ?_
                  refine W.region ?_
                  refine WL.op rfl (d_add rfl rfl (by omega) (by omega) ?_)
                  refine WL.op rfl (d_move rfl ?_)
                  refine WL.done ?_
                  exact X.next [61, 60, 6, 4, 3, 2, 1] (Γ' := [(61, .int .i64 (((j_1 + 1) : Nat) : Int)), (60, .int .i64 ((((opRowAt (r.nums.getD 0 0)).nums).size : Nat) : Int)), (6, .pointer (some ⟨w26.heap.size, 0, none⟩)), (4, .pointer (some ⟨w4.heap.size, 0, none⟩)), (3, .int .i64 0), (2, .pointer (some ⟨w1.heap.size, 0, none⟩)), (1, .pointer (some ⟨w.heap.size, 0, none⟩))]) rfl ((opRowAt (r.nums.getD 0 0)).nums.size - (j_1 + 1)) (by omega) ⟨j_1 + 1, o1_1, r.nums.getD (j_1 + 1) 0, o3_1, rfl, H35, (by first | assumption | omega | simp), (by rw [fieldsTo, hst]; unfold put; first | rw [if_pos hS] | rw [if_neg hS, if_pos hA] | rw [if_neg hS, if_neg hA]), rfl⟩
                · skip
                  refine W.regionD mixed (by kernel_rfl) fun hok8 w36 k8 => ?_
                  have H36 : UpG w [] w36 [[blk w.heap.size #[.slice ra r.nums.length rc, .string r.text] 53], [blk w1.heap.size #[.int .i64 0, .int .i64 0, .int .i64 0, .int .i64 0, .string ⟨#[]⟩] 55], [blk w4.heap.size #[.string ((opRowAt (r.nums.getD 0 0)).name), .string ((opRowAt (r.nums.getD 0 0)).nums), .bool ((opRowAt (r.nums.getD 0 0)).text)] 87], [blk w26.heap.size #[.int .i64 (r.nums.getD 0 0), .int .i64 o1_1, .int .i64 o2_1, .int .i64 o3_1, .string r.text] 55]] := H29.kept k8
                  refine WD.take hok8 0 (.pointer (some ⟨w4.heap.size, 1, none⟩)) (fun _ => True) rfl rfl rfl rfl rfl trivial (.inl ⟨rfl, fun _ _ => d_fieldAddrB fld87_1 rfl rfl ⟨rfl, rfl⟩⟩) ?_
                  refine WD.take hok8 1 (.string ((opRowAt (r.nums.getD 0 0)).nums)) (fun w' => w'.heap[w4.heap.size]? = some (.cells #[.string ((opRowAt (r.nums.getD 0 0)).name), .string ((opRowAt (r.nums.getD 0 0)).nums), .bool ((opRowAt (r.nums.getD 0 0)).text)] 87 (0, 0))) rfl rfl rfl rfl rfl (H36.blk 2 rfl) (.inl ⟨rfl, fun _ hC => d_loadB Try.underlying9 rfl rfl hC rfl ⟨rfl, rfl⟩⟩) ?_
                  refine WD.take hok8 2 (.int .i64 ((j_1 : Nat) : Int)) (fun _ => True) rfl rfl rfl rfl rfl trivial (.inl ⟨rfl, fun _ _ => d_move rfl ⟨rfl, rfl⟩⟩) ?_
                  refine WD.take hok8 3 (.int .u8 (bt ((opRowAt (r.nums.getD 0 0)).nums) j_1)) (fun _ => True) rfl rfl rfl rfl rfl trivial (.inl ⟨rfl, fun _ _ => d_idxStrN j_1 Try.underlying9 rfl rfl rfl (by omega) ⟨rfl, rfl⟩⟩) ?_
                  refine WD.take hok8 5 (.pointer (some ⟨w.heap.size, 0, none⟩)) (fun _ => True) rfl rfl rfl rfl rfl trivial (.inl ⟨rfl, fun _ _ => d_fieldAddrB fld53_0 rfl rfl ⟨rfl, rfl⟩⟩) ?_
                  refine WD.take hok8 6 (.slice ra r.nums.length rc) (fun w' => w'.heap[w.heap.size]? = some (.cells #[.slice ra r.nums.length rc, .string r.text] 53 (0, 0))) rfl rfl rfl rfl rfl (H36.blk 0 rfl) (.inl ⟨rfl, fun _ hC => d_loadB Try.underlying51 rfl rfl hC rfl ⟨rfl, rfl⟩⟩) ?_
                  refine WD.take hok8 7 (.int .i64 ((j_1 : Nat) : Int)) (fun _ => True) rfl rfl rfl rfl rfl trivial (.inl ⟨rfl, fun _ _ => d_move rfl ⟨rfl, rfl⟩⟩) ?_
                  refine WD.take hok8 8 (.int .i64 (((j_1 : Nat) : Int) + 1)) (fun _ => True) rfl rfl rfl rfl rfl trivial (.inl ⟨rfl, fun _ _ => d_add rfl rfl (by omega) (by omega) ⟨rfl, rfl⟩⟩) ?_
                  refine WD.take hok8 9 (elemPtr (.slice ra r.nums.length rc) (j_1 + 1)) (fun w' => RdT (tyI .i64) w' (.slice ra r.nums.length rc) r.nums) rfl rfl rfl rfl rfl (rr.at H36) (.inl ⟨rfl, fun _ hC => t_addr1 (j_1 + 1) (T := (tyI .i64)) rfl Try.underlying51 sz3 rfl rfl hC rfl (by omega) ⟨rfl, rfl⟩⟩) ?_
                  refine WD.take hok8 10 (.int .i64 (r.nums.getD (j_1 + 1) 0)) (fun w' => RdT (tyI .i64) w' (.slice ra r.nums.length rc) r.nums) rfl rfl rfl rfl rfl (rr.at H36) (.inl ⟨rfl, fun _ hC => t_load1 (j_1 + 1) 0 (T := (tyI .i64)) rfl Try.underlying3 rfl rfl hC (by omega) rfl ⟨rfl, rfl⟩⟩) ?_
                  refine WD.loud hok8 4 rfl (⟨_, [⟨10, .int .i64 (r.nums.getD (j_1 + 1) 0), (fun w' => RdT (tyI .i64) w' (.slice ra r.nums.length rc) r.nums)⟩, ⟨9, elemPtr (.slice ra r.nums.length rc) (j_1 + 1), (fun w' => RdT (tyI .i64) w' (.slice ra r.nums.length rc) r.nums)⟩, ⟨8, .int .i64 (((j_1 : Nat) : Int) + 1), (fun _ => True)⟩, ⟨7, .int .i64 ((j_1 : Nat) : Int), (fun _ => True)⟩, ⟨6, .slice ra r.nums.length rc, (fun w' => w'.heap[w.heap.size]? = some (.cells #[.slice ra r.nums.length rc, .string r.text] 53 (0, 0)))⟩, ⟨5, .pointer (some ⟨w.heap.size, 0, none⟩), (fun _ => True)⟩], rfl, rfl, rfl, rfl, rfl, rfl, d_call ok51 rfl (Ret.calls (fieldL_any w26.heap.size (bt ((opRowAt (r.nums.getD 0 0)).nums) j_1) w36  hS hA) fun _ w37 p7 => ?_)⟩)
                  obtain ⟨rfl, u27⟩ := p7
                  have H37 : UpG w [] w37 [[blk w.heap.size #[.slice ra r.nums.length rc, .string r.text] 53], [blk w1.heap.size #[.int .i64 0, .int .i64 0, .int .i64 0, .int .i64 0, .string ⟨#[]⟩] 55], [blk w4.heap.size #[.string ((opRowAt (r.nums.getD 0 0)).name), .string ((opRowAt (r.nums.getD 0 0)).nums), .bool ((opRowAt (r.nums.getD 0 0)).text)] 87], [blk w26.heap.size #[.int .i64 (r.nums.getD 0 0), .int .i64 o1_1, .int .i64 o2_1, .int .i64 o3_1, .string r.text] 55]] := H36.call u27
                  refine ⟨⟨(rr.at H37), (rr.at H37), trivial, trivial, (H37.blk 0 rfl), trivial, trivial⟩, ?_⟩
                  refine WD.take hok8 11 (.pointer (some ⟨w26.heap.size, 3, none⟩)) (fun _ => True) rfl rfl rfl rfl rfl trivial (.inl ⟨rfl, fun _ _ => d_nilCheck rfl ⟨rfl, rfl⟩⟩) ?_
                  refine WD.loud hok8 12 rfl (⟨_, [], rfl, rfl, rfl, rfl, rfl, rfl, d_storeB sz3 rfl rfl rfl (H37.blk 3 rfl) rfl fun w38 u28 => ?_⟩)
                  have H38 : UpG w [] w38 [[blk w.heap.size #[.slice ra r.nums.length rc, .string r.text] 53], [blk w1.heap.size #[.int .i64 0, .int .i64 0, .int .i64 0, .int .i64 0, .string ⟨#[]⟩] 55], [blk w4.heap.size #[.string ((opRowAt (r.nums.getD 0 0)).name), .string ((opRowAt (r.nums.getD 0 0)).nums), .bool ((opRowAt (r.nums.getD 0 0)).text)] 87], [blk w26.heap.size #[.int .i64 (r.nums.getD 0 0), .int .i64 o1_1, .int .i64 o2_1, .int .i64 (r.nums.getD (j_1 + 1) 0), .string r.text] 55]] := H37.on 3 rfl u28
                  refine ⟨trivial, ?_⟩
                  refine WD.done hok8 rfl (X.block_normal (X.then_code ?_))
                  refine W.pick [75, 68, 74, 73, 72, 71, 70, 69, 67, 66, 65, 64, 7, 63, 62, 61, 60, 6, 4, 3, 2, 1] (Γ' := [(75, .pointer (some ⟨w26.heap.size, 3, none⟩)), (68, .pointer (some ⟨w26.heap.size, 3, none⟩)), (74, .int .i64 (r.nums.getD (j_1 + 1) 0)), (73, elemPtr (.slice ra r.nums.length rc) (j_1 + 1)), (72, .int .i64 (((j_1 : Nat) : Int) + 1)), (71, .int .i64 ((j_1 : Nat) : Int)), (70, .slice ra r.nums.length rc), (69, .pointer (some ⟨w.heap.size, 0, none⟩)), (67, .int .u8 (bt ((opRowAt (r.nums.getD 0 0)).nums) j_1)), (66, .int .i64 ((j_1 : Nat) : Int)), (65, .string ((opRowAt (r.nums.getD 0 0)).nums)), (64, .pointer (some ⟨w4.heap.size, 1, none⟩)), (7, .int .i64 ((j_1 : Nat) : Int)), (63, .int .i64 ((j_1 : Nat) : Int)), (62, .bool (decide (((j_1 : Nat) : Int) < ((((opRowAt (r.nums.getD 0 0)).nums).size : Nat) : Int)))), (61, .int .i64 ((j_1 : Nat) : Int)), (60, .int .i64 ((((opRowAt (r.nums.getD 0 0)).nums).size : Nat) : Int)), (6, .pointer (some ⟨w26.heap.size, 0, none⟩)), (4, .pointer (some ⟨w4.heap.size, 0, none⟩)), (3, .int .i64 0), (2, .pointer (some ⟨w1.heap.size, 0, none⟩)), (1, .pointer (some ⟨w.heap.size, 0, none⟩))]) rfl ?_
                  refine W.region ?_
                  refine WL.op rfl (d_add rfl rfl (by omega) (by omega) ?_)
                  refine WL.op rfl (d_move rfl ?_)
                  refine WL.done ?_
                  exact X.next [61, 60, 6, 4, 3, 2, 1] (Γ' := [(61, .int .i64 (((j_1 + 1) : Nat) : Int)), (60, .int .i64 ((((opRowAt (r.nums.getD 0 0)).nums).size : Nat) : Int)), (6, .pointer (some ⟨w26.heap.size, 0, none⟩)), (4, .pointer (some ⟨w4.heap.size, 0, none⟩)), (3, .int .i64 0), (2, .pointer (some ⟨w1.heap.size, 0, none⟩)), (1, .pointer (some ⟨w.heap.size, 0, none⟩))]) rfl ((opRowAt (r.nums.getD 0 0)).nums.size - (j_1 + 1)) (by omega) ⟨j_1 + 1, o1_1, o2_1, r.nums.getD (j_1 + 1) 0, rfl, H38, (by first | assumption | omega | simp), (by rw [fieldsTo, hst]; unfold put; first | rw [if_pos hS] | rw [if_neg hS, if_pos hA] | rw [if_neg hS, if_neg hA]), rfl⟩
            · skip
              refine W.exit (X.then_exit (X.then_exit (X.block_exit (X.then_code ?_))))
              refine W.seq ?_
              refine W.region ?_
              refine WL.op rfl (d_loadAB [.int .i64 (r.nums.getD 0 0), .int .i64 o1_1, .int .i64 o2_1, .int .i64 o3_1, .string r.text] Try.underlying55 rfl sz55 rfl (H29.blk 3 rfl) rfl rfl ?_)
              refine WL.op0 (d_storeAB (us := [.int .i64 (r.nums.getD 0 0), .int .i64 o1_1, .int .i64 o2_1, .int .i64 o3_1, .string r.text]) (cs' := #[.int .i64 (r.nums.getD 0 0), .int .i64 o1_1, .int .i64 o2_1, .int .i64 o3_1, .string r.text]) sz55 rfl rfl rfl rfl (H29.blk 1 rfl) rfl rfl fun w39 u29 => ?_)
              have H39 : UpG w [] w39 [[blk w.heap.size #[.slice ra r.nums.length rc, .string r.text] 53], [blk w1.heap.size #[.int .i64 (r.nums.getD 0 0), .int .i64 o1_1, .int .i64 o2_1, .int .i64 o3_1, .string r.text] 55], [blk w4.heap.size #[.string ((opRowAt (r.nums.getD 0 0)).name), .string ((opRowAt (r.nums.getD 0 0)).nums), .bool ((opRowAt (r.nums.getD 0 0)).text)] 87], [blk w26.heap.size #[.int .i64 (r.nums.getD 0 0), .int .i64 o1_1, .int .i64 o2_1, .int .i64 o3_1, .string r.text] 55]] := H29.on 1 rfl u29
              refine WL.op rfl (d_assign rfl ?_)
              refine WL.done (X.then_code ?_)
              refine W.ret (X.retR2 rfl (rv_cellA [.int .i64 (r.nums.getD 0 0), .int .i64 o1_1, .int .i64 o2_1, .int .i64 o3_1, .string r.text] Try.underlying55 rfl sz55 rfl (H39.blk 1 rfl) rfl rfl) (rv_tmp rfl) ?_)
              have hjj : j_1 = (opRowAt (r.nums.getD 0 0)).nums.size := by omega
              rw [hjj, row_fields hok] at hst
              obtain ⟨h1, h2, h3⟩ : fS (r.nums.getD 0 0) r.nums = o1_1 ∧ fA (r.nums.getD 0 0) r.nums = o2_1 ∧ fL (r.nums.getD 0 0) r.nums = o3_1 := by simpa using hst
              have e : ofR r = (⟨r.nums.getD 0 0, o1_1, o2_1, o3_1, r.text⟩, 0) := by unfold ofR; rw [if_neg hno, if_neg hmid, if_neg (by omega), h1, h2, h3]
              rw [e]
              exact ⟨(by rfl), H39.noneL⟩

set_option maxRecDepth 20000 in
theorem counts_any (k : Int) (w : World) :
    Calls Try.prog 52 #[.int .i64 k] w (Ret fun v w' => v = .agg #[.bool (cS k), .bool (cA k), .bool (cL k), .bool (cT k)] ∧ Upd w [] w' []) := by
  refine calls_of_W (args := [.int .i64 k]) Try.func52 rfl rfl rfl ?_
  have H0 : UpG w [] w [] := UpG.nil w
  show W _ _ _ _ [(0, .int .i64 k)] w
  refine W.seq ?_
  refine W.region ?_
  refine WL.op rfl (d_alloc sz93 fun w1 u1 => ?_)
  have H1 : UpG w [] w1 [[blk w.heap.size #[.bool false, .bool false, .bool false, .bool false] 93]] := H0.new' u1
  refine WL.done (X.then_code ?_)
  refine W.cut (fun Γ' w' => ∃ bcS : Bool, Γ' = [(2, .pointer (some ⟨w.heap.size, 0, none⟩)), (0, .int .i64 k), (3, .bool bcS)] ∧ UpG w [] w' [[blk w.heap.size #[.bool false, .bool false, .bool false, .bool false] 93]] ∧ (bcS = cS k)) ?_ ?_
  · skip
    refine W.region ?_
    refine WL.op rfl (d_move rfl ?_)
    refine WL.op rfl (d_cmp (decide (k = (7 : Int))) rfl rfl rfl ?_)
    refine WL.op rfl (d_move rfl ?_)
    refine WL.part 9 (p := k = (7 : Int)) rfl (fun g13 => ?_) (fun g13 => ?_)
    · skip
      refine WL.opN rfl rfl rfl rfl ?_
      refine WL.opN rfl rfl rfl rfl ?_
      refine WL.op rfl (d_pick rfl rfl ?_)
      refine WL.op rfl (d_move rfl ?_)
      refine WL.opN rfl rfl rfl rfl ?_
      refine WL.opN rfl rfl rfl rfl ?_
      refine WL.op rfl (d_pick rfl rfl ?_)
      refine WL.op rfl (d_move rfl ?_)
      refine WL.opN rfl rfl rfl rfl ?_
      refine WL.opN rfl rfl rfl rfl ?_
      refine WL.op rfl (d_pick rfl rfl ?_)
      refine WL.op rfl (d_move rfl ?_)
      refine WL.opN rfl rfl rfl rfl ?_
      refine WL.opN rfl rfl rfl rfl ?_
      refine WL.op rfl (d_pick rfl rfl ?_)
      refine WL.op rfl (d_move rfl ?_)
      refine WL.opN rfl rfl rfl rfl ?_
      refine WL.opN rfl rfl rfl rfl ?_
      refine WL.op rfl (d_pick rfl rfl ?_)
      refine WL.op rfl (d_move rfl ?_)
      refine WL.opN rfl rfl rfl rfl ?_
      refine WL.opN rfl rfl rfl rfl ?_
      refine WL.op rfl (d_pick rfl rfl ?_)
      refine WL.op rfl (d_move rfl ?_)
      refine WL.opN rfl rfl rfl rfl ?_
      refine WL.opN rfl rfl rfl rfl ?_
      refine WL.op rfl (d_pick rfl rfl ?_)
      refine WL.op rfl (d_move rfl ?_)
      refine WL.opN rfl rfl rfl rfl ?_
      refine WL.opN rfl rfl rfl rfl ?_
      refine WL.op rfl (d_pick rfl rfl ?_)
      refine WL.op rfl (d_move rfl ?_)
      refine WL.opN rfl rfl rfl rfl ?_
      refine WL.opN rfl rfl rfl rfl ?_
      refine WL.op rfl (d_pick rfl rfl ?_)
      refine WL.op rfl (d_assign rfl ?_)
      refine WL.done ?_
      exact X.cut [2, 0, 3] (Γ' := [(2, .pointer (some ⟨w.heap.size, 0, none⟩)), (0, .int .i64 k), (3, .bool true)]) rfl ⟨true, rfl, H1, (by first | (simp [cS]; omega) | (simp [cS, *]; done))⟩
    · skip
      refine WL.opG rfl rfl rfl (d_move rfl ?_)
      refine WL.opG rfl rfl rfl (d_cmp (decide (k = (8 : Int))) rfl rfl rfl ?_)
      refine WL.op rfl (d_pick rfl rfl ?_)
      refine WL.op rfl (d_move rfl ?_)
      refine WL.part 13 (p := k = (8 : Int)) rfl (fun g13x => ?_) (fun g13x => ?_)
      · skip
        refine WL.opN rfl rfl rfl rfl ?_
        refine WL.opN rfl rfl rfl rfl ?_
        refine WL.op rfl (d_pick rfl rfl ?_)
        refine WL.op rfl (d_move rfl ?_)
        refine WL.opN rfl rfl rfl rfl ?_
        refine WL.opN rfl rfl rfl rfl ?_
        refine WL.op rfl (d_pick rfl rfl ?_)
        refine WL.op rfl (d_move rfl ?_)
        refine WL.opN rfl rfl rfl rfl ?_
        refine WL.opN rfl rfl rfl rfl ?_
        refine WL.op rfl (d_pick rfl rfl ?_)
        refine WL.op rfl (d_move rfl ?_)
        refine WL.opN rfl rfl rfl rfl ?_
        refine WL.opN rfl rfl rfl rfl ?_
        refine WL.op rfl (d_pick rfl rfl ?_)
        refine WL.op rfl (d_move rfl ?_)
        refine WL.opN rfl rfl rfl rfl ?_
        refine WL.opN rfl rfl rfl rfl ?_
        refine WL.op rfl (d_pick rfl rfl ?_)
        refine WL.op rfl (d_move rfl ?_)
        refine WL.opN rfl rfl rfl rfl ?_
        refine WL.opN rfl rfl rfl rfl ?_
        refine WL.op rfl (d_pick rfl rfl ?_)
        refine WL.op rfl (d_move rfl ?_)
        refine WL.opN rfl rfl rfl rfl ?_
        refine WL.opN rfl rfl rfl rfl ?_
        refine WL.op rfl (d_pick rfl rfl ?_)
        refine WL.op rfl (d_move rfl ?_)
        refine WL.opN rfl rfl rfl rfl ?_
        refine WL.opN rfl rfl rfl rfl ?_
        refine WL.op rfl (d_pick rfl rfl ?_)
        refine WL.op rfl (d_assign rfl ?_)
        refine WL.done ?_
        exact X.cut [2, 0, 3] (Γ' := [(2, .pointer (some ⟨w.heap.size, 0, none⟩)), (0, .int .i64 k), (3, .bool true)]) rfl ⟨true, rfl, H1, (by first | (simp [cS]; omega) | (simp [cS, *]; done))⟩
      · skip
        refine WL.opG rfl rfl rfl (d_move rfl ?_)
        refine WL.opG rfl rfl rfl (d_cmp (decide (k = (9 : Int))) rfl rfl rfl ?_)
        refine WL.op rfl (d_pick rfl rfl ?_)
        refine WL.op rfl (d_move rfl ?_)
        refine WL.part 17 (p := k = (9 : Int)) rfl (fun g13xx => ?_) (fun g13xx => ?_)
        · skip
          refine WL.opN rfl rfl rfl rfl ?_
          refine WL.opN rfl rfl rfl rfl ?_
          refine WL.op rfl (d_pick rfl rfl ?_)
          refine WL.op rfl (d_move rfl ?_)
          refine WL.opN rfl rfl rfl rfl ?_
          refine WL.opN rfl rfl rfl rfl ?_
          refine WL.op rfl (d_pick rfl rfl ?_)
          refine WL.op rfl (d_move rfl ?_)
          refine WL.opN rfl rfl rfl rfl ?_
          refine WL.opN rfl rfl rfl rfl ?_
          refine WL.op rfl (d_pick rfl rfl ?_)
          refine WL.op rfl (d_move rfl ?_)
          refine WL.opN rfl rfl rfl rfl ?_
          refine WL.opN rfl rfl rfl rfl ?_
          refine WL.op rfl (d_pick rfl rfl ?_)
          refine WL.op rfl (d_move rfl ?_)
          refine WL.opN rfl rfl rfl rfl ?_
          refine WL.opN rfl rfl rfl rfl ?_
          refine WL.op rfl (d_pick rfl rfl ?_)
          refine WL.op rfl (d_move rfl ?_)
          refine WL.opN rfl rfl rfl rfl ?_
          refine WL.opN rfl rfl rfl rfl ?_
          refine WL.op rfl (d_pick rfl rfl ?_)
          refine WL.op rfl (d_move rfl ?_)
          refine WL.opN rfl rfl rfl rfl ?_
          refine WL.opN rfl rfl rfl rfl ?_
          refine WL.op rfl (d_pick rfl rfl ?_)
          refine WL.op rfl (d_assign rfl ?_)
          refine WL.done ?_
          exact X.cut [2, 0, 3] (Γ' := [(2, .pointer (some ⟨w.heap.size, 0, none⟩)), (0, .int .i64 k), (3, .bool true)]) rfl ⟨true, rfl, H1, (by first | (simp [cS]; omega) | (simp [cS, *]; done))⟩
        · skip
          refine WL.opG rfl rfl rfl (d_move rfl ?_)
          refine WL.opG rfl rfl rfl (d_cmp (decide (k = (10 : Int))) rfl rfl rfl ?_)
          refine WL.op rfl (d_pick rfl rfl ?_)
          refine WL.op rfl (d_move rfl ?_)
          refine WL.part 21 (p := k = (10 : Int)) rfl (fun g13xxx => ?_) (fun g13xxx => ?_)
          · skip
            refine WL.opN rfl rfl rfl rfl ?_
            refine WL.opN rfl rfl rfl rfl ?_
            refine WL.op rfl (d_pick rfl rfl ?_)
            refine WL.op rfl (d_move rfl ?_)
            refine WL.opN rfl rfl rfl rfl ?_
            refine WL.opN rfl rfl rfl rfl ?_
            refine WL.op rfl (d_pick rfl rfl ?_)
            refine WL.op rfl (d_move rfl ?_)
            refine WL.opN rfl rfl rfl rfl ?_
            refine WL.opN rfl rfl rfl rfl ?_
            refine WL.op rfl (d_pick rfl rfl ?_)
            refine WL.op rfl (d_move rfl ?_)
            refine WL.opN rfl rfl rfl rfl ?_
            refine WL.opN rfl rfl rfl rfl ?_
            refine WL.op rfl (d_pick rfl rfl ?_)
            refine WL.op rfl (d_move rfl ?_)
            refine WL.opN rfl rfl rfl rfl ?_
            refine WL.opN rfl rfl rfl rfl ?_
            refine WL.op rfl (d_pick rfl rfl ?_)
            refine WL.op rfl (d_move rfl ?_)
            refine WL.opN rfl rfl rfl rfl ?_
            refine WL.opN rfl rfl rfl rfl ?_
            refine WL.op rfl (d_pick rfl rfl ?_)
            refine WL.op rfl (d_assign rfl ?_)
            refine WL.done ?_
            exact X.cut [2, 0, 3] (Γ' := [(2, .pointer (some ⟨w.heap.size, 0, none⟩)), (0, .int .i64 k), (3, .bool true)]) rfl ⟨true, rfl, H1, (by first | (simp [cS]; omega) | (simp [cS, *]; done))⟩
          · skip
            refine WL.opG rfl rfl rfl (d_move rfl ?_)
            refine WL.opG rfl rfl rfl (d_cmp (decide (k = (11 : Int))) rfl rfl rfl ?_)
            refine WL.op rfl (d_pick rfl rfl ?_)
            refine WL.op rfl (d_move rfl ?_)
            refine WL.part 25 (p := k = (11 : Int)) rfl (fun g13xxxx => ?_) (fun g13xxxx => ?_)
            · skip
              refine WL.opN rfl rfl rfl rfl ?_
              refine WL.opN rfl rfl rfl rfl ?_
              refine WL.op rfl (d_pick rfl rfl ?_)
              refine WL.op rfl (d_move rfl ?_)
              refine WL.opN rfl rfl rfl rfl ?_
              refine WL.opN rfl rfl rfl rfl ?_
              refine WL.op rfl (d_pick rfl rfl ?_)
              refine WL.op rfl (d_move rfl ?_)
              refine WL.opN rfl rfl rfl rfl ?_
              refine WL.opN rfl rfl rfl rfl ?_
              refine WL.op rfl (d_pick rfl rfl ?_)
              refine WL.op rfl (d_move rfl ?_)
              refine WL.opN rfl rfl rfl rfl ?_
              refine WL.opN rfl rfl rfl rfl ?_
              refine WL.op rfl (d_pick rfl rfl ?_)
              refine WL.op rfl (d_move rfl ?_)
              refine WL.opN rfl rfl rfl rfl ?_
              refine WL.opN rfl rfl rfl rfl ?_
              refine WL.op rfl (d_pick rfl rfl ?_)
              refine WL.op rfl (d_assign rfl ?_)
              refine WL.done ?_
              exact X.cut [2, 0, 3] (Γ' := [(2, .pointer (some ⟨w.heap.size, 0, none⟩)), (0, .int .i64 k), (3, .bool true)]) rfl ⟨true, rfl, H1, (by first | (simp [cS]; omega) | (simp [cS, *]; done))⟩
            · skip
              refine WL.opG rfl rfl rfl (d_move rfl ?_)
              refine WL.opG rfl rfl rfl (d_cmp (decide (k = (12 : Int))) rfl rfl rfl ?_)
              refine WL.op rfl (d_pick rfl rfl ?_)
              refine WL.op rfl (d_move rfl ?_)
              refine WL.part 29 (p := k = (12 : Int)) rfl (fun g13xxxxx => ?_) (fun g13xxxxx => ?_)
              · skip
                refine WL.opN rfl rfl rfl rfl ?_
                refine WL.opN rfl rfl rfl rfl ?_
                refine WL.op rfl (d_pick rfl rfl ?_)
                refine WL.op rfl (d_move rfl ?_)
                refine WL.opN rfl rfl rfl rfl ?_
                refine WL.opN rfl rfl rfl rfl ?_
                refine WL.op rfl (d_pick rfl rfl ?_)
                refine WL.op rfl (d_move rfl ?_)
                refine WL.opN rfl rfl rfl rfl ?_
                refine WL.opN rfl rfl rfl rfl ?_
                refine WL.op rfl (d_pick rfl rfl ?_)
                refine WL.op rfl (d_move rfl ?_)
                refine WL.opN rfl rfl rfl rfl ?_
                refine WL.opN rfl rfl rfl rfl ?_
                refine WL.op rfl (d_pick rfl rfl ?_)
                refine WL.op rfl (d_assign rfl ?_)
                refine WL.done ?_
                exact X.cut [2, 0, 3] (Γ' := [(2, .pointer (some ⟨w.heap.size, 0, none⟩)), (0, .int .i64 k), (3, .bool true)]) rfl ⟨true, rfl, H1, (by first | (simp [cS]; omega) | (simp [cS, *]; done))⟩
              · skip
                refine WL.opG rfl rfl rfl (d_move rfl ?_)
                refine WL.opG rfl rfl rfl (d_cmp (decide (k = (13 : Int))) rfl rfl rfl ?_)
                refine WL.op rfl (d_pick rfl rfl ?_)
                refine WL.op rfl (d_move rfl ?_)
                refine WL.part 33 (p := k = (13 : Int)) rfl (fun g13xxxxxx => ?_) (fun g13xxxxxx => ?_)
                · skip
                  refine WL.opN rfl rfl rfl rfl ?_
                  refine WL.opN rfl rfl rfl rfl ?_
                  refine WL.op rfl (d_pick rfl rfl ?_)
                  refine WL.op rfl (d_move rfl ?_)
                  refine WL.opN rfl rfl rfl rfl ?_
                  refine WL.opN rfl rfl rfl rfl ?_
                  refine WL.op rfl (d_pick rfl rfl ?_)
                  refine WL.op rfl (d_move rfl ?_)
                  refine WL.opN rfl rfl rfl rfl ?_
                  refine WL.opN rfl rfl rfl rfl ?_
                  refine WL.op rfl (d_pick rfl rfl ?_)
                  refine WL.op rfl (d_assign rfl ?_)
                  refine WL.done ?_
                  exact X.cut [2, 0, 3] (Γ' := [(2, .pointer (some ⟨w.heap.size, 0, none⟩)), (0, .int .i64 k), (3, .bool true)]) rfl ⟨true, rfl, H1, (by first | (simp [cS]; omega) | (simp [cS, *]; done))⟩
                · skip
                  refine WL.opG rfl rfl rfl (d_move rfl ?_)
                  refine WL.opG rfl rfl rfl (d_cmp (decide (k = (18 : Int))) rfl rfl rfl ?_)
                  refine WL.op rfl (d_pick rfl rfl ?_)
                  refine WL.op rfl (d_move rfl ?_)
                  refine WL.part 37 (p := k = (18 : Int)) rfl (fun g13xxxxxxx => ?_) (fun g13xxxxxxx => ?_)
                  · skip
                    refine WL.opN rfl rfl rfl rfl ?_
                    refine WL.opN rfl rfl rfl rfl ?_
                    refine WL.op rfl (d_pick rfl rfl ?_)
                    refine WL.op rfl (d_move rfl ?_)
                    refine WL.opN rfl rfl rfl rfl ?_
                    refine WL.opN rfl rfl rfl rfl ?_
                    refine WL.op rfl (d_pick rfl rfl ?_)
                    refine WL.op rfl (d_assign rfl ?_)
                    refine WL.done ?_
                    exact X.cut [2, 0, 3] (Γ' := [(2, .pointer (some ⟨w.heap.size, 0, none⟩)), (0, .int .i64 k), (3, .bool true)]) rfl ⟨true, rfl, H1, (by first | (simp [cS]; omega) | (simp [cS, *]; done))⟩
                  · skip
                    refine WL.opG rfl rfl rfl (d_move rfl ?_)
                    refine WL.opG rfl rfl rfl (d_cmp (decide (k = (20 : Int))) rfl rfl rfl ?_)
                    refine WL.op rfl (d_pick rfl rfl ?_)
                    refine WL.op rfl (d_move rfl ?_)
                    refine WL.part 41 (p := k = (20 : Int)) rfl (fun g13xxxxxxxx => ?_) (fun g13xxxxxxxx => ?_)
                    · skip
                      refine WL.opN rfl rfl rfl rfl ?_
                      refine WL.opN rfl rfl rfl rfl ?_
                      refine WL.op rfl (d_pick rfl rfl ?_)
                      refine WL.op rfl (d_assign rfl ?_)
                      refine WL.done ?_
                      exact X.cut [2, 0, 3] (Γ' := [(2, .pointer (some ⟨w.heap.size, 0, none⟩)), (0, .int .i64 k), (3, .bool true)]) rfl ⟨true, rfl, H1, (by first | (simp [cS]; omega) | (simp [cS, *]; done))⟩
                    · skip
                      refine WL.opG rfl rfl rfl (d_move rfl ?_)
                      refine WL.opG rfl rfl rfl (d_cmp (decide (k = (21 : Int))) rfl rfl rfl ?_)
                      refine WL.op rfl (d_pick rfl rfl ?_)
                      refine WL.op rfl (d_assign rfl ?_)
                      refine WL.done ?_
                      exact X.cut [2, 0, 3] (Γ' := [(2, .pointer (some ⟨w.heap.size, 0, none⟩)), (0, .int .i64 k), (3, .bool (decide (k = (21 : Int))))]) rfl ⟨decide (k = (21 : Int)), rfl, H1, (by first | (simp [cS]; omega) | (simp [cS, *]; done))⟩
  rintro Γ1 w2 ⟨bcS, rfl, H2, hcS⟩
  refine W.cut (fun Γ' w' => ∃ bcA : Bool, Γ' = [(2, .pointer (some ⟨w.heap.size, 0, none⟩)), (0, .int .i64 k), (3, .bool bcS), (4, .bool bcA)] ∧ UpG w [] w' [[blk w.heap.size #[.bool false, .bool false, .bool false, .bool false] 93]] ∧ (bcA = cA k)) ?_ ?_
  · skip
    refine W.region ?_
    refine WL.op rfl (d_move rfl ?_)
    refine WL.op rfl (d_cmp (decide (k = (1 : Int))) rfl rfl rfl ?_)
    refine WL.op rfl (d_move rfl ?_)
    refine WL.part 47 (p := k = (1 : Int)) rfl (fun g14 => ?_) (fun g14 => ?_)
    · skip
      refine WL.opN rfl rfl rfl rfl ?_
      refine WL.opN rfl rfl rfl rfl ?_
      refine WL.op rfl (d_pick rfl rfl ?_)
      refine WL.op rfl (d_move rfl ?_)
      refine WL.opN rfl rfl rfl rfl ?_
      refine WL.opN rfl rfl rfl rfl ?_
      refine WL.op rfl (d_pick rfl rfl ?_)
      refine WL.op rfl (d_move rfl ?_)
      refine WL.opN rfl rfl rfl rfl ?_
      refine WL.opN rfl rfl rfl rfl ?_
      refine WL.op rfl (d_pick rfl rfl ?_)
      refine WL.op rfl (d_move rfl ?_)
      refine WL.opN rfl rfl rfl rfl ?_
      refine WL.opN rfl rfl rfl rfl ?_
      refine WL.op rfl (d_pick rfl rfl ?_)
      refine WL.op rfl (d_move rfl ?_)
      refine WL.opN rfl rfl rfl rfl ?_
      refine WL.opN rfl rfl rfl rfl ?_
      refine WL.op rfl (d_pick rfl rfl ?_)
      refine WL.op rfl (d_move rfl ?_)
      refine WL.opN rfl rfl rfl rfl ?_
      refine WL.opN rfl rfl rfl rfl ?_
      refine WL.op rfl (d_pick rfl rfl ?_)
      refine WL.op rfl (d_move rfl ?_)
      refine WL.opN rfl rfl rfl rfl ?_
      refine WL.opN rfl rfl rfl rfl ?_
      refine WL.op rfl (d_pick rfl rfl ?_)
      refine WL.op rfl (d_move rfl ?_)
      refine WL.opN rfl rfl rfl rfl ?_
      refine WL.opN rfl rfl rfl rfl ?_
      refine WL.op rfl (d_pick rfl rfl ?_)
      refine WL.op rfl (d_move rfl ?_)
      refine WL.opN rfl rfl rfl rfl ?_
      refine WL.opN rfl rfl rfl rfl ?_
      refine WL.op rfl (d_pick rfl rfl ?_)
      refine WL.op rfl (d_move rfl ?_)
      refine WL.opN rfl rfl rfl rfl ?_
      refine WL.opN rfl rfl rfl rfl ?_
      refine WL.op rfl (d_pick rfl rfl ?_)
      refine WL.op rfl (d_move rfl ?_)
      refine WL.opN rfl rfl rfl rfl ?_
      refine WL.opN rfl rfl rfl rfl ?_
      refine WL.op rfl (d_pick rfl rfl ?_)
      refine WL.op rfl (d_assign rfl ?_)
      refine WL.done ?_
      exact X.cut [2, 0, 3, 4] (Γ' := [(2, .pointer (some ⟨w.heap.size, 0, none⟩)), (0, .int .i64 k), (3, .bool bcS), (4, .bool true)]) rfl ⟨true, rfl, H2, (by first | (simp [cA]; omega) | (simp [cA, *]; done))⟩
    · skip
      refine WL.opG rfl rfl rfl (d_move rfl ?_)
      refine WL.opG rfl rfl rfl (d_cmp (decide (k = (2 : Int))) rfl rfl rfl ?_)
      refine WL.op rfl (d_pick rfl rfl ?_)
      refine WL.op rfl (d_move rfl ?_)
      refine WL.part 51 (p := k = (2 : Int)) rfl (fun g14x => ?_) (fun g14x => ?_)
      · skip
        refine WL.opN rfl rfl rfl rfl ?_
        refine WL.opN rfl rfl rfl rfl ?_
        refine WL.op rfl (d_pick rfl rfl ?_)
        refine WL.op rfl (d_move rfl ?_)
        refine WL.opN rfl rfl rfl rfl ?_
        refine WL.opN rfl rfl rfl rfl ?_
        refine WL.op rfl (d_pick rfl rfl ?_)
        refine WL.op rfl (d_move rfl ?_)
        refine WL.opN rfl rfl rfl rfl ?_
        refine WL.opN rfl rfl rfl rfl ?_
        refine WL.op rfl (d_pick rfl rfl ?_)
        refine WL.op rfl (d_move rfl ?_)
        refine WL.opN rfl rfl rfl rfl ?_
        refine WL.opN rfl rfl rfl rfl ?_
        refine WL.op rfl (d_pick rfl rfl ?_)
        refine WL.op rfl (d_move rfl ?_)
        refine WL.opN rfl rfl rfl rfl ?_
        refine WL.opN rfl rfl rfl rfl ?_
        refine WL.op rfl (d_pick rfl rfl ?_)
        refine WL.op rfl (d_move rfl ?_)
        refine WL.opN rfl rfl rfl rfl ?_
        refine WL.opN rfl rfl rfl rfl ?_
        refine WL.op rfl (d_pick rfl rfl ?_)
        refine WL.op rfl (d_move rfl ?_)
        refine WL.opN rfl rfl rfl rfl ?_
        refine WL.opN rfl rfl rfl rfl ?_
        refine WL.op rfl (d_pick rfl rfl ?_)
        refine WL.op rfl (d_move rfl ?_)
        refine WL.opN rfl rfl rfl rfl ?_
        refine WL.opN rfl rfl rfl rfl ?_
        refine WL.op rfl (d_pick rfl rfl ?_)
        refine WL.op rfl (d_move rfl ?_)
        refine WL.opN rfl rfl rfl rfl ?_
        refine WL.opN rfl rfl rfl rfl ?_
        refine WL.op rfl (d_pick rfl rfl ?_)
        refine WL.op rfl (d_move rfl ?_)
        refine WL.opN rfl rfl rfl rfl ?_
        refine WL.opN rfl rfl rfl rfl ?_
        refine WL.op rfl (d_pick rfl rfl ?_)
        refine WL.op rfl (d_assign rfl ?_)
        refine WL.done ?_
        exact X.cut [2, 0, 3, 4] (Γ' := [(2, .pointer (some ⟨w.heap.size, 0, none⟩)), (0, .int .i64 k), (3, .bool bcS), (4, .bool true)]) rfl ⟨true, rfl, H2, (by first | (simp [cA]; omega) | (simp [cA, *]; done))⟩
      · skip
        refine WL.opG rfl rfl rfl (d_move rfl ?_)
        refine WL.opG rfl rfl rfl (d_cmp (decide (k = (3 : Int))) rfl rfl rfl ?_)
        refine WL.op rfl (d_pick rfl rfl ?_)
        refine WL.op rfl (d_move rfl ?_)
        refine WL.part 55 (p := k = (3 : Int)) rfl (fun g14xx => ?_) (fun g14xx => ?_)
        · skip
          refine WL.opN rfl rfl rfl rfl ?_
          refine WL.opN rfl rfl rfl rfl ?_
          refine WL.op rfl (d_pick rfl rfl ?_)
          refine WL.op rfl (d_move rfl ?_)
          refine WL.opN rfl rfl rfl rfl ?_
          refine WL.opN rfl rfl rfl rfl ?_
          refine WL.op rfl (d_pick rfl rfl ?_)
          refine WL.op rfl (d_move rfl ?_)
          refine WL.opN rfl rfl rfl rfl ?_
          refine WL.opN rfl rfl rfl rfl ?_
          refine WL.op rfl (d_pick rfl rfl ?_)
          refine WL.op rfl (d_move rfl ?_)
          refine WL.opN rfl rfl rfl rfl ?_
          refine WL.opN rfl rfl rfl rfl ?_
          refine WL.op rfl (d_pick rfl rfl ?_)
          refine WL.op rfl (d_move rfl ?_)
          refine WL.opN rfl rfl rfl rfl ?_
          refine WL.opN rfl rfl rfl rfl ?_
          refine WL.op rfl (d_pick rfl rfl ?_)
          refine WL.op rfl (d_move rfl ?_)
          refine WL.opN rfl rfl rfl rfl ?_
          refine WL.opN rfl rfl rfl rfl ?_
          refine WL.op rfl (d_pick rfl rfl ?_)
          refine WL.op rfl (d_move rfl ?_)
          refine WL.opN rfl rfl rfl rfl ?_
          refine WL.opN rfl rfl rfl rfl ?_
          refine WL.op rfl (d_pick rfl rfl ?_)
          refine WL.op rfl (d_move rfl ?_)
          refine WL.opN rfl rfl rfl rfl ?_
          refine WL.opN rfl rfl rfl rfl ?_
          refine WL.op rfl (d_pick rfl rfl ?_)
          refine WL.op rfl (d_move rfl ?_)
          refine WL.opN rfl rfl rfl rfl ?_
          refine WL.opN rfl rfl rfl rfl ?_
          refine WL.op rfl (d_pick rfl rfl ?_)
          refine WL.op rfl (d_assign rfl ?_)
          refine WL.done ?_
          exact X.cut [2, 0, 3, 4] (Γ' := [(2, .pointer (some ⟨w.heap.size, 0, none⟩)), (0, .int .i64 k), (3, .bool bcS), (4, .bool true)]) rfl ⟨true, rfl, H2, (by first | (simp [cA]; omega) | (simp [cA, *]; done))⟩
        · skip
          refine WL.opG rfl rfl rfl (d_move rfl ?_)
          refine WL.opG rfl rfl rfl (d_cmp (decide (k = (9 : Int))) rfl rfl rfl ?_)
          refine WL.op rfl (d_pick rfl rfl ?_)
          refine WL.op rfl (d_move rfl ?_)
          refine WL.part 59 (p := k = (9 : Int)) rfl (fun g14xxx => ?_) (fun g14xxx => ?_)
          · skip
            refine WL.opN rfl rfl rfl rfl ?_
            refine WL.opN rfl rfl rfl rfl ?_
            refine WL.op rfl (d_pick rfl rfl ?_)
            refine WL.op rfl (d_move rfl ?_)
            refine WL.opN rfl rfl rfl rfl ?_
            refine WL.opN rfl rfl rfl rfl ?_
            refine WL.op rfl (d_pick rfl rfl ?_)
            refine WL.op rfl (d_move rfl ?_)
            refine WL.opN rfl rfl rfl rfl ?_
            refine WL.opN rfl rfl rfl rfl ?_
            refine WL.op rfl (d_pick rfl rfl ?_)
            refine WL.op rfl (d_move rfl ?_)
            refine WL.opN rfl rfl rfl rfl ?_
            refine WL.opN rfl rfl rfl rfl ?_
            refine WL.op rfl (d_pick rfl rfl ?_)
            refine WL.op rfl (d_move rfl ?_)
            refine WL.opN rfl rfl rfl rfl ?_
            refine WL.opN rfl rfl rfl rfl ?_
            refine WL.op rfl (d_pick rfl rfl ?_)
            refine WL.op rfl (d_move rfl ?_)
            refine WL.opN rfl rfl rfl rfl ?_
            refine WL.opN rfl rfl rfl rfl ?_
            refine WL.op rfl (d_pick rfl rfl ?_)
            refine WL.op rfl (d_move rfl ?_)
            refine WL.opN rfl rfl rfl rfl ?_
            refine WL.opN rfl rfl rfl rfl ?_
            refine WL.op rfl (d_pick rfl rfl ?_)
            refine WL.op rfl (d_move rfl ?_)
            refine WL.opN rfl rfl rfl rfl ?_
            refine WL.opN rfl rfl rfl rfl ?_
            refine WL.op rfl (d_pick rfl rfl ?_)
            refine WL.op rfl (d_assign rfl ?_)
            refine WL.done ?_
            exact X.cut [2, 0, 3, 4] (Γ' := [(2, .pointer (some ⟨w.heap.size, 0, none⟩)), (0, .int .i64 k), (3, .bool bcS), (4, .bool true)]) rfl ⟨true, rfl, H2, (by first | (simp [cA]; omega) | (simp [cA, *]; done))⟩
          · skip
            refine WL.opG rfl rfl rfl (d_move rfl ?_)
            refine WL.opG rfl rfl rfl (d_cmp (decide (k = (10 : Int))) rfl rfl rfl ?_)
            refine WL.op rfl (d_pick rfl rfl ?_)
            refine WL.op rfl (d_move rfl ?_)
            refine WL.part 63 (p := k = (10 : Int)) rfl (fun g14xxxx => ?_) (fun g14xxxx => ?_)
            · skip
              refine WL.opN rfl rfl rfl rfl ?_
              refine WL.opN rfl rfl rfl rfl ?_
              refine WL.op rfl (d_pick rfl rfl ?_)
              refine WL.op rfl (d_move rfl ?_)
              refine WL.opN rfl rfl rfl rfl ?_
              refine WL.opN rfl rfl rfl rfl ?_
              refine WL.op rfl (d_pick rfl rfl ?_)
              refine WL.op rfl (d_move rfl ?_)
              refine WL.opN rfl rfl rfl rfl ?_
              refine WL.opN rfl rfl rfl rfl ?_
              refine WL.op rfl (d_pick rfl rfl ?_)
              refine WL.op rfl (d_move rfl ?_)
              refine WL.opN rfl rfl rfl rfl ?_
              refine WL.opN rfl rfl rfl rfl ?_
              refine WL.op rfl (d_pick rfl rfl ?_)
              refine WL.op rfl (d_move rfl ?_)
              refine WL.opN rfl rfl rfl rfl ?_
              refine WL.opN rfl rfl rfl rfl ?_
              refine WL.op rfl (d_pick rfl rfl ?_)
              refine WL.op rfl (d_move rfl ?_)
              refine WL.opN rfl rfl rfl rfl ?_
              refine WL.opN rfl rfl rfl rfl ?_
              refine WL.op rfl (d_pick rfl rfl ?_)
              refine WL.op rfl (d_move rfl ?_)
              refine WL.opN rfl rfl rfl rfl ?_
              refine WL.opN rfl rfl rfl rfl ?_
              refine WL.op rfl (d_pick rfl rfl ?_)
              refine WL.op rfl (d_assign rfl ?_)
              refine WL.done ?_
              exact X.cut [2, 0, 3, 4] (Γ' := [(2, .pointer (some ⟨w.heap.size, 0, none⟩)), (0, .int .i64 k), (3, .bool bcS), (4, .bool true)]) rfl ⟨true, rfl, H2, (by first | (simp [cA]; omega) | (simp [cA, *]; done))⟩
            · skip
              refine WL.opG rfl rfl rfl (d_move rfl ?_)
              refine WL.opG rfl rfl rfl (d_cmp (decide (k = (11 : Int))) rfl rfl rfl ?_)
              refine WL.op rfl (d_pick rfl rfl ?_)
              refine WL.op rfl (d_move rfl ?_)
              refine WL.part 67 (p := k = (11 : Int)) rfl (fun g14xxxxx => ?_) (fun g14xxxxx => ?_)
              · skip
                refine WL.opN rfl rfl rfl rfl ?_
                refine WL.opN rfl rfl rfl rfl ?_
                refine WL.op rfl (d_pick rfl rfl ?_)
                refine WL.op rfl (d_move rfl ?_)
                refine WL.opN rfl rfl rfl rfl ?_
                refine WL.opN rfl rfl rfl rfl ?_
                refine WL.op rfl (d_pick rfl rfl ?_)
                refine WL.op rfl (d_move rfl ?_)
                refine WL.opN rfl rfl rfl rfl ?_
                refine WL.opN rfl rfl rfl rfl ?_
                refine WL.op rfl (d_pick rfl rfl ?_)
                refine WL.op rfl (d_move rfl ?_)
                refine WL.opN rfl rfl rfl rfl ?_
                refine WL.opN rfl rfl rfl rfl ?_
                refine WL.op rfl (d_pick rfl rfl ?_)
                refine WL.op rfl (d_move rfl ?_)
                refine WL.opN rfl rfl rfl rfl ?_
                refine WL.opN rfl rfl rfl rfl ?_
                refine WL.op rfl (d_pick rfl rfl ?_)
                refine WL.op rfl (d_move rfl ?_)
                refine WL.opN rfl rfl rfl rfl ?_
                refine WL.opN rfl rfl rfl rfl ?_
                refine WL.op rfl (d_pick rfl rfl ?_)
                refine WL.op rfl (d_assign rfl ?_)
                refine WL.done ?_
                exact X.cut [2, 0, 3, 4] (Γ' := [(2, .pointer (some ⟨w.heap.size, 0, none⟩)), (0, .int .i64 k), (3, .bool bcS), (4, .bool true)]) rfl ⟨true, rfl, H2, (by first | (simp [cA]; omega) | (simp [cA, *]; done))⟩
              · skip
                refine WL.opG rfl rfl rfl (d_move rfl ?_)
                refine WL.opG rfl rfl rfl (d_cmp (decide (k = (13 : Int))) rfl rfl rfl ?_)
                refine WL.op rfl (d_pick rfl rfl ?_)
                refine WL.op rfl (d_move rfl ?_)
                refine WL.part 71 (p := k = (13 : Int)) rfl (fun g14xxxxxx => ?_) (fun g14xxxxxx => ?_)
                · skip
                  refine WL.opN rfl rfl rfl rfl ?_
                  refine WL.opN rfl rfl rfl rfl ?_
                  refine WL.op rfl (d_pick rfl rfl ?_)
                  refine WL.op rfl (d_move rfl ?_)
                  refine WL.opN rfl rfl rfl rfl ?_
                  refine WL.opN rfl rfl rfl rfl ?_
                  refine WL.op rfl (d_pick rfl rfl ?_)
                  refine WL.op rfl (d_move rfl ?_)
                  refine WL.opN rfl rfl rfl rfl ?_
                  refine WL.opN rfl rfl rfl rfl ?_
                  refine WL.op rfl (d_pick rfl rfl ?_)
                  refine WL.op rfl (d_move rfl ?_)
                  refine WL.opN rfl rfl rfl rfl ?_
                  refine WL.opN rfl rfl rfl rfl ?_
                  refine WL.op rfl (d_pick rfl rfl ?_)
                  refine WL.op rfl (d_move rfl ?_)
                  refine WL.opN rfl rfl rfl rfl ?_
                  refine WL.opN rfl rfl rfl rfl ?_
                  refine WL.op rfl (d_pick rfl rfl ?_)
                  refine WL.op rfl (d_assign rfl ?_)
                  refine WL.done ?_
                  exact X.cut [2, 0, 3, 4] (Γ' := [(2, .pointer (some ⟨w.heap.size, 0, none⟩)), (0, .int .i64 k), (3, .bool bcS), (4, .bool true)]) rfl ⟨true, rfl, H2, (by first | (simp [cA]; omega) | (simp [cA, *]; done))⟩
                · skip
                  refine WL.opG rfl rfl rfl (d_move rfl ?_)
                  refine WL.opG rfl rfl rfl (d_cmp (decide (k = (14 : Int))) rfl rfl rfl ?_)
                  refine WL.op rfl (d_pick rfl rfl ?_)
                  refine WL.op rfl (d_move rfl ?_)
                  refine WL.part 75 (p := k = (14 : Int)) rfl (fun g14xxxxxxx => ?_) (fun g14xxxxxxx => ?_)
                  · skip
                    refine WL.opN rfl rfl rfl rfl ?_
                    refine WL.opN rfl rfl rfl rfl ?_
                    refine WL.op rfl (d_pick rfl rfl ?_)
                    refine WL.op rfl (d_move rfl ?_)
                    refine WL.opN rfl rfl rfl rfl ?_
                    refine WL.opN rfl rfl rfl rfl ?_
                    refine WL.op rfl (d_pick rfl rfl ?_)
                    refine WL.op rfl (d_move rfl ?_)
                    refine WL.opN rfl rfl rfl rfl ?_
                    refine WL.opN rfl rfl rfl rfl ?_
                    refine WL.op rfl (d_pick rfl rfl ?_)
                    refine WL.op rfl (d_move rfl ?_)
                    refine WL.opN rfl rfl rfl rfl ?_
                    refine WL.opN rfl rfl rfl rfl ?_
                    refine WL.op rfl (d_pick rfl rfl ?_)
                    refine WL.op rfl (d_assign rfl ?_)
                    refine WL.done ?_
                    exact X.cut [2, 0, 3, 4] (Γ' := [(2, .pointer (some ⟨w.heap.size, 0, none⟩)), (0, .int .i64 k), (3, .bool bcS), (4, .bool true)]) rfl ⟨true, rfl, H2, (by first | (simp [cA]; omega) | (simp [cA, *]; done))⟩
                  · skip
                    refine WL.opG rfl rfl rfl (d_move rfl ?_)
                    refine WL.opG rfl rfl rfl (d_cmp (decide (k = (16 : Int))) rfl rfl rfl ?_)
                    refine WL.op rfl (d_pick rfl rfl ?_)
                    refine WL.op rfl (d_move rfl ?_)
                    refine WL.part 79 (p := k = (16 : Int)) rfl (fun g14xxxxxxxx => ?_) (fun g14xxxxxxxx => ?_)
                    · skip
                      refine WL.opN rfl rfl rfl rfl ?_
                      refine WL.opN rfl rfl rfl rfl ?_
                      refine WL.op rfl (d_pick rfl rfl ?_)
                      refine WL.op rfl (d_move rfl ?_)
                      refine WL.opN rfl rfl rfl rfl ?_
                      refine WL.opN rfl rfl rfl rfl ?_
                      refine WL.op rfl (d_pick rfl rfl ?_)
                      refine WL.op rfl (d_move rfl ?_)
                      refine WL.opN rfl rfl rfl rfl ?_
                      refine WL.opN rfl rfl rfl rfl ?_
                      refine WL.op rfl (d_pick rfl rfl ?_)
                      refine WL.op rfl (d_assign rfl ?_)
                      refine WL.done ?_
                      exact X.cut [2, 0, 3, 4] (Γ' := [(2, .pointer (some ⟨w.heap.size, 0, none⟩)), (0, .int .i64 k), (3, .bool bcS), (4, .bool true)]) rfl ⟨true, rfl, H2, (by first | (simp [cA]; omega) | (simp [cA, *]; done))⟩
                    · skip
                      refine WL.opG rfl rfl rfl (d_move rfl ?_)
                      refine WL.opG rfl rfl rfl (d_cmp (decide (k = (17 : Int))) rfl rfl rfl ?_)
                      refine WL.op rfl (d_pick rfl rfl ?_)
                      refine WL.op rfl (d_move rfl ?_)
                      refine WL.part 83 (p := k = (17 : Int)) rfl (fun g14xxxxxxxxx => ?_) (fun g14xxxxxxxxx => ?_)
                      · skip
                        refine WL.opN rfl rfl rfl rfl ?_
                        refine WL.opN rfl rfl rfl rfl ?_
                        refine WL.op rfl (d_pick rfl rfl ?_)
                        refine WL.op rfl (d_move rfl ?_)
                        refine WL.opN rfl rfl rfl rfl ?_
                        refine WL.opN rfl rfl rfl rfl ?_
                        refine WL.op rfl (d_pick rfl rfl ?_)
                        refine WL.op rfl (d_assign rfl ?_)
                        refine WL.done ?_
                        exact X.cut [2, 0, 3, 4] (Γ' := [(2, .pointer (some ⟨w.heap.size, 0, none⟩)), (0, .int .i64 k), (3, .bool bcS), (4, .bool true)]) rfl ⟨true, rfl, H2, (by first | (simp [cA]; omega) | (simp [cA, *]; done))⟩
                      · skip
                        refine WL.opG rfl rfl rfl (d_move rfl ?_)
                        refine WL.opG rfl rfl rfl (d_cmp (decide (k = (19 : Int))) rfl rfl rfl ?_)
                        refine WL.op rfl (d_pick rfl rfl ?_)
                        refine WL.op rfl (d_move rfl ?_)
                        refine WL.part 87 (p := k = (19 : Int)) rfl (fun g14xxxxxxxxxx => ?_) (fun g14xxxxxxxxxx => ?_)
                        · skip
                          refine WL.opN rfl rfl rfl rfl ?_
                          refine WL.opN rfl rfl rfl rfl ?_
                          refine WL.op rfl (d_pick rfl rfl ?_)
                          refine WL.op rfl (d_assign rfl ?_)
                          refine WL.done ?_
                          exact X.cut [2, 0, 3, 4] (Γ' := [(2, .pointer (some ⟨w.heap.size, 0, none⟩)), (0, .int .i64 k), (3, .bool bcS), (4, .bool true)]) rfl ⟨true, rfl, H2, (by first | (simp [cA]; omega) | (simp [cA, *]; done))⟩
                        · skip
                          refine WL.opG rfl rfl rfl (d_move rfl ?_)
                          refine WL.opG rfl rfl rfl (d_cmp (decide (k = (22 : Int))) rfl rfl rfl ?_)
                          refine WL.op rfl (d_pick rfl rfl ?_)
                          refine WL.op rfl (d_assign rfl ?_)
                          refine WL.done ?_
                          exact X.cut [2, 0, 3, 4] (Γ' := [(2, .pointer (some ⟨w.heap.size, 0, none⟩)), (0, .int .i64 k), (3, .bool bcS), (4, .bool (decide (k = (22 : Int))))]) rfl ⟨decide (k = (22 : Int)), rfl, H2, (by first | (simp [cA]; omega) | (simp [cA, *]; done))⟩
  rintro Γ2 w3 ⟨bcA, rfl, H3, hcA⟩
  refine W.cut (fun Γ' w' => ∃ bcL : Bool, Γ' = [(2, .pointer (some ⟨w.heap.size, 0, none⟩)), (0, .int .i64 k), (3, .bool bcS), (4, .bool bcA), (5, .bool bcL)] ∧ UpG w [] w' [[blk w.heap.size #[.bool false, .bool false, .bool false, .bool false] 93]] ∧ (bcL = cL k)) ?_ ?_
  · skip
    refine W.region ?_
    refine WL.op rfl (d_move rfl ?_)
    refine WL.op rfl (d_cmp (decide (k = (2 : Int))) rfl rfl rfl ?_)
    refine WL.op rfl (d_move rfl ?_)
    refine WL.part 93 (p := k = (2 : Int)) rfl (fun g15 => ?_) (fun g15 => ?_)
    · skip
      refine WL.opN rfl rfl rfl rfl ?_
      refine WL.opN rfl rfl rfl rfl ?_
      refine WL.op rfl (d_pick rfl rfl ?_)
      refine WL.op rfl (d_move rfl ?_)
      refine WL.opN rfl rfl rfl rfl ?_
      refine WL.opN rfl rfl rfl rfl ?_
      refine WL.op rfl (d_pick rfl rfl ?_)
      refine WL.op rfl (d_move rfl ?_)
      refine WL.opN rfl rfl rfl rfl ?_
      refine WL.opN rfl rfl rfl rfl ?_
      refine WL.op rfl (d_pick rfl rfl ?_)
      refine WL.op rfl (d_move rfl ?_)
      refine WL.opN rfl rfl rfl rfl ?_
      refine WL.opN rfl rfl rfl rfl ?_
      refine WL.op rfl (d_pick rfl rfl ?_)
      refine WL.op rfl (d_move rfl ?_)
      refine WL.opN rfl rfl rfl rfl ?_
      refine WL.opN rfl rfl rfl rfl ?_
      refine WL.op rfl (d_pick rfl rfl ?_)
      refine WL.op rfl (d_move rfl ?_)
      refine WL.opN rfl rfl rfl rfl ?_
      refine WL.opN rfl rfl rfl rfl ?_
      refine WL.op rfl (d_pick rfl rfl ?_)
      refine WL.op rfl (d_move rfl ?_)
      refine WL.opN rfl rfl rfl rfl ?_
      refine WL.opN rfl rfl rfl rfl ?_
      refine WL.op rfl (d_pick rfl rfl ?_)
      refine WL.op rfl (d_move rfl ?_)
      refine WL.opN rfl rfl rfl rfl ?_
      refine WL.opN rfl rfl rfl rfl ?_
      refine WL.op rfl (d_pick rfl rfl ?_)
      refine WL.op rfl (d_assign rfl ?_)
      refine WL.done ?_
      exact X.cut [2, 0, 3, 4, 5] (Γ' := [(2, .pointer (some ⟨w.heap.size, 0, none⟩)), (0, .int .i64 k), (3, .bool bcS), (4, .bool bcA), (5, .bool true)]) rfl ⟨true, rfl, H3, (by first | (simp [cL]; omega) | (simp [cL, *]; done))⟩
    · skip
      refine WL.opG rfl rfl rfl (d_move rfl ?_)
      refine WL.opG rfl rfl rfl (d_cmp (decide (k = (3 : Int))) rfl rfl rfl ?_)
      refine WL.op rfl (d_pick rfl rfl ?_)
      refine WL.op rfl (d_move rfl ?_)
      refine WL.part 97 (p := k = (3 : Int)) rfl (fun g15x => ?_) (fun g15x => ?_)
      · skip
        refine WL.opN rfl rfl rfl rfl ?_
        refine WL.opN rfl rfl rfl rfl ?_
        refine WL.op rfl (d_pick rfl rfl ?_)
        refine WL.op rfl (d_move rfl ?_)
        refine WL.opN rfl rfl rfl rfl ?_
        refine WL.opN rfl rfl rfl rfl ?_
        refine WL.op rfl (d_pick rfl rfl ?_)
        refine WL.op rfl (d_move rfl ?_)
        refine WL.opN rfl rfl rfl rfl ?_
        refine WL.opN rfl rfl rfl rfl ?_
        refine WL.op rfl (d_pick rfl rfl ?_)
        refine WL.op rfl (d_move rfl ?_)
        refine WL.opN rfl rfl rfl rfl ?_
        refine WL.opN rfl rfl rfl rfl ?_
        refine WL.op rfl (d_pick rfl rfl ?_)
        refine WL.op rfl (d_move rfl ?_)
        refine WL.opN rfl rfl rfl rfl ?_
        refine WL.opN rfl rfl rfl rfl ?_
        refine WL.op rfl (d_pick rfl rfl ?_)
        refine WL.op rfl (d_move rfl ?_)
        refine WL.opN rfl rfl rfl rfl ?_
        refine WL.opN rfl rfl rfl rfl ?_
        refine WL.op rfl (d_pick rfl rfl ?_)
        refine WL.op rfl (d_move rfl ?_)
        refine WL.opN rfl rfl rfl rfl ?_
        refine WL.opN rfl rfl rfl rfl ?_
        refine WL.op rfl (d_pick rfl rfl ?_)
        refine WL.op rfl (d_assign rfl ?_)
        refine WL.done ?_
        exact X.cut [2, 0, 3, 4, 5] (Γ' := [(2, .pointer (some ⟨w.heap.size, 0, none⟩)), (0, .int .i64 k), (3, .bool bcS), (4, .bool bcA), (5, .bool true)]) rfl ⟨true, rfl, H3, (by first | (simp [cL]; omega) | (simp [cL, *]; done))⟩
      · skip
        refine WL.opG rfl rfl rfl (d_move rfl ?_)
        refine WL.opG rfl rfl rfl (d_cmp (decide (k = (11 : Int))) rfl rfl rfl ?_)
        refine WL.op rfl (d_pick rfl rfl ?_)
        refine WL.op rfl (d_move rfl ?_)
        refine WL.part 101 (p := k = (11 : Int)) rfl (fun g15xx => ?_) (fun g15xx => ?_)
        · skip
          refine WL.opN rfl rfl rfl rfl ?_
          refine WL.opN rfl rfl rfl rfl ?_
          refine WL.op rfl (d_pick rfl rfl ?_)
          refine WL.op rfl (d_move rfl ?_)
          refine WL.opN rfl rfl rfl rfl ?_
          refine WL.opN rfl rfl rfl rfl ?_
          refine WL.op rfl (d_pick rfl rfl ?_)
          refine WL.op rfl (d_move rfl ?_)
          refine WL.opN rfl rfl rfl rfl ?_
          refine WL.opN rfl rfl rfl rfl ?_
          refine WL.op rfl (d_pick rfl rfl ?_)
          refine WL.op rfl (d_move rfl ?_)
          refine WL.opN rfl rfl rfl rfl ?_
          refine WL.opN rfl rfl rfl rfl ?_
          refine WL.op rfl (d_pick rfl rfl ?_)
          refine WL.op rfl (d_move rfl ?_)
          refine WL.opN rfl rfl rfl rfl ?_
          refine WL.opN rfl rfl rfl rfl ?_
          refine WL.op rfl (d_pick rfl rfl ?_)
          refine WL.op rfl (d_move rfl ?_)
          refine WL.opN rfl rfl rfl rfl ?_
          refine WL.opN rfl rfl rfl rfl ?_
          refine WL.op rfl (d_pick rfl rfl ?_)
          refine WL.op rfl (d_assign rfl ?_)
          refine WL.done ?_
          exact X.cut [2, 0, 3, 4, 5] (Γ' := [(2, .pointer (some ⟨w.heap.size, 0, none⟩)), (0, .int .i64 k), (3, .bool bcS), (4, .bool bcA), (5, .bool true)]) rfl ⟨true, rfl, H3, (by first | (simp [cL]; omega) | (simp [cL, *]; done))⟩
        · skip
          refine WL.opG rfl rfl rfl (d_move rfl ?_)
          refine WL.opG rfl rfl rfl (d_cmp (decide (k = (14 : Int))) rfl rfl rfl ?_)
          refine WL.op rfl (d_pick rfl rfl ?_)
          refine WL.op rfl (d_move rfl ?_)
          refine WL.part 105 (p := k = (14 : Int)) rfl (fun g15xxx => ?_) (fun g15xxx => ?_)
          · skip
            refine WL.opN rfl rfl rfl rfl ?_
            refine WL.opN rfl rfl rfl rfl ?_
            refine WL.op rfl (d_pick rfl rfl ?_)
            refine WL.op rfl (d_move rfl ?_)
            refine WL.opN rfl rfl rfl rfl ?_
            refine WL.opN rfl rfl rfl rfl ?_
            refine WL.op rfl (d_pick rfl rfl ?_)
            refine WL.op rfl (d_move rfl ?_)
            refine WL.opN rfl rfl rfl rfl ?_
            refine WL.opN rfl rfl rfl rfl ?_
            refine WL.op rfl (d_pick rfl rfl ?_)
            refine WL.op rfl (d_move rfl ?_)
            refine WL.opN rfl rfl rfl rfl ?_
            refine WL.opN rfl rfl rfl rfl ?_
            refine WL.op rfl (d_pick rfl rfl ?_)
            refine WL.op rfl (d_move rfl ?_)
            refine WL.opN rfl rfl rfl rfl ?_
            refine WL.opN rfl rfl rfl rfl ?_
            refine WL.op rfl (d_pick rfl rfl ?_)
            refine WL.op rfl (d_assign rfl ?_)
            refine WL.done ?_
            exact X.cut [2, 0, 3, 4, 5] (Γ' := [(2, .pointer (some ⟨w.heap.size, 0, none⟩)), (0, .int .i64 k), (3, .bool bcS), (4, .bool bcA), (5, .bool true)]) rfl ⟨true, rfl, H3, (by first | (simp [cL]; omega) | (simp [cL, *]; done))⟩
          · skip
            refine WL.opG rfl rfl rfl (d_move rfl ?_)
            refine WL.opG rfl rfl rfl (d_cmp (decide (k = (17 : Int))) rfl rfl rfl ?_)
            refine WL.op rfl (d_pick rfl rfl ?_)
            refine WL.op rfl (d_move rfl ?_)
            refine WL.part 109 (p := k = (17 : Int)) rfl (fun g15xxxx => ?_) (fun g15xxxx => ?_)
            · skip
              refine WL.opN rfl rfl rfl rfl ?_
              refine WL.opN rfl rfl rfl rfl ?_
              refine WL.op rfl (d_pick rfl rfl ?_)
              refine WL.op rfl (d_move rfl ?_)
              refine WL.opN rfl rfl rfl rfl ?_
              refine WL.opN rfl rfl rfl rfl ?_
              refine WL.op rfl (d_pick rfl rfl ?_)
              refine WL.op rfl (d_move rfl ?_)
              refine WL.opN rfl rfl rfl rfl ?_
              refine WL.opN rfl rfl rfl rfl ?_
              refine WL.op rfl (d_pick rfl rfl ?_)
              refine WL.op rfl (d_move rfl ?_)
              refine WL.opN rfl rfl rfl rfl ?_
              refine WL.opN rfl rfl rfl rfl ?_
              refine WL.op rfl (d_pick rfl rfl ?_)
              refine WL.op rfl (d_assign rfl ?_)
              refine WL.done ?_
              exact X.cut [2, 0, 3, 4, 5] (Γ' := [(2, .pointer (some ⟨w.heap.size, 0, none⟩)), (0, .int .i64 k), (3, .bool bcS), (4, .bool bcA), (5, .bool true)]) rfl ⟨true, rfl, H3, (by first | (simp [cL]; omega) | (simp [cL, *]; done))⟩
            · skip
              refine WL.opG rfl rfl rfl (d_move rfl ?_)
              refine WL.opG rfl rfl rfl (d_cmp (decide (k = (19 : Int))) rfl rfl rfl ?_)
              refine WL.op rfl (d_pick rfl rfl ?_)
              refine WL.op rfl (d_move rfl ?_)
              refine WL.part 113 (p := k = (19 : Int)) rfl (fun g15xxxxx => ?_) (fun g15xxxxx => ?_)
              · skip
                refine WL.opN rfl rfl rfl rfl ?_
                refine WL.opN rfl rfl rfl rfl ?_
                refine WL.op rfl (d_pick rfl rfl ?_)
                refine WL.op rfl (d_move rfl ?_)
                refine WL.opN rfl rfl rfl rfl ?_
                refine WL.opN rfl rfl rfl rfl ?_
                refine WL.op rfl (d_pick rfl rfl ?_)
                refine WL.op rfl (d_move rfl ?_)
                refine WL.opN rfl rfl rfl rfl ?_
                refine WL.opN rfl rfl rfl rfl ?_
                refine WL.op rfl (d_pick rfl rfl ?_)
                refine WL.op rfl (d_assign rfl ?_)
                refine WL.done ?_
                exact X.cut [2, 0, 3, 4, 5] (Γ' := [(2, .pointer (some ⟨w.heap.size, 0, none⟩)), (0, .int .i64 k), (3, .bool bcS), (4, .bool bcA), (5, .bool true)]) rfl ⟨true, rfl, H3, (by first | (simp [cL]; omega) | (simp [cL, *]; done))⟩
              · skip
                refine WL.opG rfl rfl rfl (d_move rfl ?_)
                refine WL.opG rfl rfl rfl (d_cmp (decide (k = (21 : Int))) rfl rfl rfl ?_)
                refine WL.op rfl (d_pick rfl rfl ?_)
                refine WL.op rfl (d_move rfl ?_)
                refine WL.part 117 (p := k = (21 : Int)) rfl (fun g15xxxxxx => ?_) (fun g15xxxxxx => ?_)
                · skip
                  refine WL.opN rfl rfl rfl rfl ?_
                  refine WL.opN rfl rfl rfl rfl ?_
                  refine WL.op rfl (d_pick rfl rfl ?_)
                  refine WL.op rfl (d_move rfl ?_)
                  refine WL.opN rfl rfl rfl rfl ?_
                  refine WL.opN rfl rfl rfl rfl ?_
                  refine WL.op rfl (d_pick rfl rfl ?_)
                  refine WL.op rfl (d_assign rfl ?_)
                  refine WL.done ?_
                  exact X.cut [2, 0, 3, 4, 5] (Γ' := [(2, .pointer (some ⟨w.heap.size, 0, none⟩)), (0, .int .i64 k), (3, .bool bcS), (4, .bool bcA), (5, .bool true)]) rfl ⟨true, rfl, H3, (by first | (simp [cL]; omega) | (simp [cL, *]; done))⟩
                · skip
                  refine WL.opG rfl rfl rfl (d_move rfl ?_)
                  refine WL.opG rfl rfl rfl (d_cmp (decide (k = (22 : Int))) rfl rfl rfl ?_)
                  refine WL.op rfl (d_pick rfl rfl ?_)
                  refine WL.op rfl (d_move rfl ?_)
                  refine WL.part 121 (p := k = (22 : Int)) rfl (fun g15xxxxxxx => ?_) (fun g15xxxxxxx => ?_)
                  · skip
                    refine WL.opN rfl rfl rfl rfl ?_
                    refine WL.opN rfl rfl rfl rfl ?_
                    refine WL.op rfl (d_pick rfl rfl ?_)
                    refine WL.op rfl (d_assign rfl ?_)
                    refine WL.done ?_
                    exact X.cut [2, 0, 3, 4, 5] (Γ' := [(2, .pointer (some ⟨w.heap.size, 0, none⟩)), (0, .int .i64 k), (3, .bool bcS), (4, .bool bcA), (5, .bool true)]) rfl ⟨true, rfl, H3, (by first | (simp [cL]; omega) | (simp [cL, *]; done))⟩
                  · skip
                    refine WL.opG rfl rfl rfl (d_move rfl ?_)
                    refine WL.opG rfl rfl rfl (d_cmp (decide (k = (23 : Int))) rfl rfl rfl ?_)
                    refine WL.op rfl (d_pick rfl rfl ?_)
                    refine WL.op rfl (d_assign rfl ?_)
                    refine WL.done ?_
                    exact X.cut [2, 0, 3, 4, 5] (Γ' := [(2, .pointer (some ⟨w.heap.size, 0, none⟩)), (0, .int .i64 k), (3, .bool bcS), (4, .bool bcA), (5, .bool (decide (k = (23 : Int))))]) rfl ⟨decide (k = (23 : Int)), rfl, H3, (by first | (simp [cL]; omega) | (simp [cL, *]; done))⟩
  rintro Γ3 w4 ⟨bcL, rfl, H4, hcL⟩
  refine W.cut (fun Γ' w' => ∃ bcT : Bool, Γ' = [(2, .pointer (some ⟨w.heap.size, 0, none⟩)), (3, .bool bcS), (4, .bool bcA), (5, .bool bcL), (6, .bool bcT)] ∧ UpG w [] w' [[blk w.heap.size #[.bool false, .bool false, .bool false, .bool false] 93]] ∧ (bcT = cT k)) ?_ ?_
  · skip
    refine W.region ?_
    refine WL.op rfl (d_move rfl ?_)
    refine WL.op rfl (d_cmp (decide (k = (1 : Int))) rfl rfl rfl ?_)
    refine WL.op rfl (d_move rfl ?_)
    refine WL.part 127 (p := k = (1 : Int)) rfl (fun g16 => ?_) (fun g16 => ?_)
    · skip
      refine WL.opN rfl rfl rfl rfl ?_
      refine WL.opN rfl rfl rfl rfl ?_
      refine WL.op rfl (d_pick rfl rfl ?_)
      refine WL.op rfl (d_move rfl ?_)
      refine WL.opN rfl rfl rfl rfl ?_
      refine WL.opN rfl rfl rfl rfl ?_
      refine WL.op rfl (d_pick rfl rfl ?_)
      refine WL.op rfl (d_move rfl ?_)
      refine WL.opN rfl rfl rfl rfl ?_
      refine WL.opN rfl rfl rfl rfl ?_
      refine WL.op rfl (d_pick rfl rfl ?_)
      refine WL.op rfl (d_assign rfl ?_)
      refine WL.done ?_
      exact X.cut [2, 3, 4, 5, 6] (Γ' := [(2, .pointer (some ⟨w.heap.size, 0, none⟩)), (3, .bool bcS), (4, .bool bcA), (5, .bool bcL), (6, .bool true)]) rfl ⟨true, rfl, H4, (by first | (simp [cT]; omega) | (simp [cT, *]; done))⟩
    · skip
      refine WL.opG rfl rfl rfl (d_move rfl ?_)
      refine WL.opG rfl rfl rfl (d_cmp (decide (k = (3 : Int))) rfl rfl rfl ?_)
      refine WL.op rfl (d_pick rfl rfl ?_)
      refine WL.op rfl (d_move rfl ?_)
      refine WL.part 131 (p := k = (3 : Int)) rfl (fun g16x => ?_) (fun g16x => ?_)
      · skip
        refine WL.opN rfl rfl rfl rfl ?_
        refine WL.opN rfl rfl rfl rfl ?_
        refine WL.op rfl (d_pick rfl rfl ?_)
        refine WL.op rfl (d_move rfl ?_)
        refine WL.opN rfl rfl rfl rfl ?_
        refine WL.opN rfl rfl rfl rfl ?_
        refine WL.op rfl (d_pick rfl rfl ?_)
        refine WL.op rfl (d_assign rfl ?_)
        refine WL.done ?_
        exact X.cut [2, 3, 4, 5, 6] (Γ' := [(2, .pointer (some ⟨w.heap.size, 0, none⟩)), (3, .bool bcS), (4, .bool bcA), (5, .bool bcL), (6, .bool true)]) rfl ⟨true, rfl, H4, (by first | (simp [cT]; omega) | (simp [cT, *]; done))⟩
      · skip
        refine WL.opG rfl rfl rfl (d_move rfl ?_)
        refine WL.opG rfl rfl rfl (d_cmp (decide (k = (6 : Int))) rfl rfl rfl ?_)
        refine WL.op rfl (d_pick rfl rfl ?_)
        refine WL.op rfl (d_move rfl ?_)
        refine WL.part 135 (p := k = (6 : Int)) rfl (fun g16xx => ?_) (fun g16xx => ?_)
        · skip
          refine WL.opN rfl rfl rfl rfl ?_
          refine WL.opN rfl rfl rfl rfl ?_
          refine WL.op rfl (d_pick rfl rfl ?_)
          refine WL.op rfl (d_assign rfl ?_)
          refine WL.done ?_
          exact X.cut [2, 3, 4, 5, 6] (Γ' := [(2, .pointer (some ⟨w.heap.size, 0, none⟩)), (3, .bool bcS), (4, .bool bcA), (5, .bool bcL), (6, .bool true)]) rfl ⟨true, rfl, H4, (by first | (simp [cT]; omega) | (simp [cT, *]; done))⟩
        · skip
          refine WL.opG rfl rfl rfl (d_move rfl ?_)
          refine WL.opG rfl rfl rfl (d_cmp (decide (k = (18 : Int))) rfl rfl rfl ?_)
          refine WL.op rfl (d_pick rfl rfl ?_)
          refine WL.op rfl (d_assign rfl ?_)
          refine WL.done ?_
          exact X.cut [2, 3, 4, 5, 6] (Γ' := [(2, .pointer (some ⟨w.heap.size, 0, none⟩)), (3, .bool bcS), (4, .bool bcA), (5, .bool bcL), (6, .bool (decide (k = (18 : Int))))]) rfl ⟨decide (k = (18 : Int)), rfl, H4, (by first | (simp [cT]; omega) | (simp [cT, *]; done))⟩
  rintro Γ4 w5 ⟨bcT, rfl, H5, hcT⟩
  refine W.seq ?_
  refine W.region ?_
  refine WL.op rfl (d_move rfl ?_)
  refine WL.op rfl (d_move rfl ?_)
  refine WL.op rfl (d_move rfl ?_)
  refine WL.op rfl (d_move rfl ?_)
  refine WL.op rfl (d_build (cs := #[.bool bcS, .bool bcA, .bool bcL, .bool bcT]) rfl (by kernel_rfl) ?_)
  refine WL.op0 (d_storeAB (us := [.bool bcS, .bool bcA, .bool bcL, .bool bcT]) (cs' := #[.bool bcS, .bool bcA, .bool bcL, .bool bcT]) sz93 rfl rfl rfl rfl (H5.blk 0 rfl) rfl rfl fun w6 u2 => ?_)
  have H6 : UpG w [] w6 [[blk w.heap.size #[.bool bcS, .bool bcA, .bool bcL, .bool bcT] 93]] := H5.on 0 rfl u2
  refine WL.done (X.then_code ?_)
  refine W.ret (X.retR1 rfl (rv_cellA [.bool bcS, .bool bcA, .bool bcL, .bool bcT] Try.underlying93 rfl sz93 rfl (H6.blk 0 rfl) rfl rfl) ?_)
  exact ⟨(by rw [hcS, hcA, hcL, hcT]), H6.noneL⟩

set_option maxRecDepth 20000 in
theorem refOf_any (r : RawD) (ra : Option Addr) (rc : Nat) (w : World) (rr : RdT (tyI .i64) w (.slice ra r.nums.length rc) r.nums) :
    Calls Try.prog 26 #[.agg #[.slice ra r.nums.length rc, .string r.text]] w (Ret fun v w' => v = .tuple #[.agg #[.int .i64 ((ofR r).1.kind), .int .i64 ((ofR r).1.slot), .int .i64 ((ofR r).1.at_), .int .i64 ((ofR r).1.len), .string ((ofR r).1.text)], .int .i64 ((ofR r).2)] ∧ Upd w [] w' []) := by
  have le_rr := rr.le
  refine calls_of_W (args := [.agg #[.slice ra r.nums.length rc, .string r.text]]) Try.func26 rfl rfl rfl ?_
  have H0 : UpG w [] w [] := UpG.nil w
  show W _ _ _ _ [(0, .agg #[.slice ra r.nums.length rc, .string r.text])] w
  refine W.seq ?_
  refine W.region ?_
  refine WL.op rfl (d_box rfl fun w1 u1 => ?_)
  have H1 : UpG w [] w1 [[blk w.heap.size #[.slice ra r.nums.length rc, .string r.text] 53]] := H0.new' u1
  refine WL.op rfl (d_alloc sz55 fun w2 u2 => ?_)
  have H2 : UpG w [] w2 [[blk w.heap.size #[.slice ra r.nums.length rc, .string r.text] 53], [blk w1.heap.size #[.int .i64 0, .int .i64 0, .int .i64 0, .int .i64 0, .string ⟨#[]⟩] 55]] := H1.new' u2
  refine WL.op rfl (d_assign rfl ?_)
  refine WL.done (X.then_code ?_)
  refine W.seq ?_
  refine W.seq ?_
  refine W.region ?_
  refine WL.op rfl (d_fieldAddrB fld53_0 rfl rfl ?_)
  refine WL.op rfl (d_loadB Try.underlying51 rfl rfl (H2.blk 0 rfl) rfl ?_)
  refine WL.op rfl (d_lenS Try.underlying51 rfl ?_)
  refine WL.op rfl (d_cmp (decide (((r.nums.length : Nat) : Int) = (0 : Int))) rfl rfl rfl ?_)
  refine WL.op rfl (d_move rfl ?_)
  refine WL.part 12 (p := ((r.nums.length : Nat) : Int) = (0 : Int)) rfl (fun g22 => ?_) (fun g22 => ?_)
  · skip
    refine WL.opN rfl rfl rfl rfl ?_
    refine WL.opN rfl rfl rfl rfl ?_
    refine WL.opN rfl rfl rfl rfl ?_
    refine WL.opN rfl rfl rfl rfl ?_
    refine WL.opN rfl rfl rfl rfl ?_
    refine WL.op rfl (d_pick rfl rfl ?_)
    refine WL.op rfl (d_move rfl ?_)
    refine WL.opN rfl rfl rfl rfl ?_
    refine WL.opN rfl rfl rfl rfl ?_
    refine WL.opN rfl rfl rfl rfl ?_
    refine WL.opN rfl rfl rfl rfl ?_
    refine WL.opN rfl rfl rfl rfl ?_
    refine WL.op rfl (d_pick rfl rfl ?_)
    refine WL.done (X.then_code ?_)
    refine W.pick [25, 3, 2, 1] (Γ' := [(25, .bool true), (3, .int .i64 0), (2, .pointer (some ⟨w1.heap.size, 0, none⟩)), (1, .pointer (some ⟨w.heap.size, 0, none⟩))]) rfl ?_
    refine W.ift rfl ?_
    refine W.seq ?_
    refine W.region ?_
    refine WL.op rfl (d_build (cs := #[.int .i64 0, .int .i64 0, .int .i64 0, .int .i64 0, .string ⟨#[]⟩]) rfl (by kernel_rfl) ?_)
    refine WL.op0 (d_storeAB (us := [.int .i64 0, .int .i64 0, .int .i64 0, .int .i64 0, .string ⟨#[]⟩]) (cs' := #[.int .i64 0, .int .i64 0, .int .i64 0, .int .i64 0, .string ⟨#[]⟩]) sz55 rfl rfl rfl rfl (H2.blk 1 rfl) rfl rfl fun w3 u3 => ?_)
    have H3 : UpG w [] w3 [[blk w.heap.size #[.slice ra r.nums.length rc, .string r.text] 53], [blk w1.heap.size #[.int .i64 0, .int .i64 0, .int .i64 0, .int .i64 0, .string ⟨#[]⟩] 55]] := H2.on 1 rfl u3
    refine WL.op rfl (d_assign rfl ?_)
    refine WL.done (X.then_code ?_)
    refine W.ret (X.then_ret (X.retR2 rfl (rv_cellA [.int .i64 0, .int .i64 0, .int .i64 0, .int .i64 0, .string ⟨#[]⟩] Try.underlying55 rfl sz55 rfl (H3.blk 1 rfl) rfl rfl) (rv_tmp rfl) ?_))
    have e : ofR r = (op0, 9) := by unfold ofR; rw [if_pos (by first | exact .inl (by omega) | exact .inr (by simp only [okK, decide_eq_false_iff_not]; omega))]
    rw [e]
    exact ⟨(by rfl), H3.noneL⟩
  · skip
    refine WL.opG rfl rfl rfl (d_fieldAddrB fld53_0 rfl rfl ?_)
    refine WL.opG rfl rfl rfl (d_loadB Try.underlying51 rfl rfl (H2.blk 0 rfl) rfl ?_)
    refine WL.opG rfl rfl rfl (t_addr1 0 (T := (tyI .i64)) rfl Try.underlying51 sz3 rfl rfl (rr.at H2) rfl (by omega) ?_)
    refine WL.opG rfl rfl rfl (t_load1 0 0 (T := (tyI .i64)) rfl Try.underlying3 rfl rfl (rr.at H2) (by omega) rfl ?_)
    refine WL.opG rfl rfl rfl (d_cmp (decide ((r.nums.getD 0 0) < (1 : Int))) rfl rfl rfl ?_)
    refine WL.op rfl (d_pick rfl rfl ?_)
    refine WL.op rfl (d_move rfl ?_)
    refine WL.part 19 (p := (r.nums.getD 0 0) < (1 : Int)) rfl (fun g22x => ?_) (fun g22x => ?_)
    · skip
      refine WL.opN rfl rfl rfl rfl ?_
      refine WL.opN rfl rfl rfl rfl ?_
      refine WL.opN rfl rfl rfl rfl ?_
      refine WL.opN rfl rfl rfl rfl ?_
      refine WL.opN rfl rfl rfl rfl ?_
      refine WL.op rfl (d_pick rfl rfl ?_)
      refine WL.done (X.then_code ?_)
      refine W.pick [25, 3, 2, 1] (Γ' := [(25, .bool true), (3, .int .i64 0), (2, .pointer (some ⟨w1.heap.size, 0, none⟩)), (1, .pointer (some ⟨w.heap.size, 0, none⟩))]) rfl ?_
      refine W.ift rfl ?_
      refine W.seq ?_
      refine W.region ?_
      refine WL.op rfl (d_build (cs := #[.int .i64 0, .int .i64 0, .int .i64 0, .int .i64 0, .string ⟨#[]⟩]) rfl (by kernel_rfl) ?_)
      refine WL.op0 (d_storeAB (us := [.int .i64 0, .int .i64 0, .int .i64 0, .int .i64 0, .string ⟨#[]⟩]) (cs' := #[.int .i64 0, .int .i64 0, .int .i64 0, .int .i64 0, .string ⟨#[]⟩]) sz55 rfl rfl rfl rfl (H2.blk 1 rfl) rfl rfl fun w4 u4 => ?_)
      have H4 : UpG w [] w4 [[blk w.heap.size #[.slice ra r.nums.length rc, .string r.text] 53], [blk w1.heap.size #[.int .i64 0, .int .i64 0, .int .i64 0, .int .i64 0, .string ⟨#[]⟩] 55]] := H2.on 1 rfl u4
      refine WL.op rfl (d_assign rfl ?_)
      refine WL.done (X.then_code ?_)
      refine W.ret (X.then_ret (X.retR2 rfl (rv_cellA [.int .i64 0, .int .i64 0, .int .i64 0, .int .i64 0, .string ⟨#[]⟩] Try.underlying55 rfl sz55 rfl (H4.blk 1 rfl) rfl rfl) (rv_tmp rfl) ?_))
      have e : ofR r = (op0, 9) := by unfold ofR; rw [if_pos (by first | exact .inl (by omega) | exact .inr (by simp only [okK, decide_eq_false_iff_not]; omega))]
      rw [e]
      exact ⟨(by rfl), H4.noneL⟩
    · skip
      refine WL.opG rfl rfl rfl (d_fieldAddrB fld53_0 rfl rfl ?_)
      refine WL.opG rfl rfl rfl (d_loadB Try.underlying51 rfl rfl (H2.blk 0 rfl) rfl ?_)
      refine WL.opG rfl rfl rfl (t_addr1 0 (T := (tyI .i64)) rfl Try.underlying51 sz3 rfl rfl (rr.at H2) rfl (by omega) ?_)
      refine WL.opG rfl rfl rfl (t_load1 0 0 (T := (tyI .i64)) rfl Try.underlying3 rfl rfl (rr.at H2) (by omega) rfl ?_)
      refine WL.opG rfl rfl rfl (d_cmp (decide ((r.nums.getD 0 0) > (24 : Int))) rfl rfl rfl ?_)
      refine WL.op rfl (d_pick rfl rfl ?_)
      refine WL.done (X.then_code ?_)
      refine W.pick [25, 3, 2, 1] (Γ' := [(25, .bool (decide ((r.nums.getD 0 0) > (24 : Int)))), (3, .int .i64 0), (2, .pointer (some ⟨w1.heap.size, 0, none⟩)), (1, .pointer (some ⟨w.heap.size, 0, none⟩))]) rfl ?_
      refine W.ite (p := (r.nums.getD 0 0) > (24 : Int)) rfl (fun c22 => ?_) (fun c22 => ?_)
      · skip
        refine W.seq ?_
        refine W.region ?_
        refine WL.op rfl (d_build (cs := #[.int .i64 0, .int .i64 0, .int .i64 0, .int .i64 0, .string ⟨#[]⟩]) rfl (by kernel_rfl) ?_)
        refine WL.op0 (d_storeAB (us := [.int .i64 0, .int .i64 0, .int .i64 0, .int .i64 0, .string ⟨#[]⟩]) (cs' := #[.int .i64 0, .int .i64 0, .int .i64 0, .int .i64 0, .string ⟨#[]⟩]) sz55 rfl rfl rfl rfl (H2.blk 1 rfl) rfl rfl fun w5 u5 => ?_)
        have H5 : UpG w [] w5 [[blk w.heap.size #[.slice ra r.nums.length rc, .string r.text] 53], [blk w1.heap.size #[.int .i64 0, .int .i64 0, .int .i64 0, .int .i64 0, .string ⟨#[]⟩] 55]] := H2.on 1 rfl u5
        refine WL.op rfl (d_assign rfl ?_)
        refine WL.done (X.then_code ?_)
        refine W.ret (X.then_ret (X.retR2 rfl (rv_cellA [.int .i64 0, .int .i64 0, .int .i64 0, .int .i64 0, .string ⟨#[]⟩] Try.underlying55 rfl sz55 rfl (H5.blk 1 rfl) rfl rfl) (rv_tmp rfl) ?_))
        have e : ofR r = (op0, 9) := by unfold ofR; rw [if_pos (by first | exact .inl (by omega) | exact .inr (by simp only [okK, decide_eq_false_iff_not]; omega))]
        rw [e]
        exact ⟨(by rfl), H5.noneL⟩
      · skip
        refine W.skip (X.then_code ?_)
        refine W.seq ?_
        have hok : okK (r.nums.getD 0 0) = true := by simp only [okK, decide_eq_true_eq]; omega
        have hno : ¬ (r.nums.length = 0 ∨ okK (r.nums.getD 0 0) = false) := by rintro (h | h) <;> first | omega | (rw [hok] at h; cases h)
        refine W.region ?_
        refine WL.op rfl (d_fieldAddrB fld53_0 rfl rfl ?_)
        refine WL.op rfl (d_loadB Try.underlying51 rfl rfl (H2.blk 0 rfl) rfl ?_)
        refine WL.op rfl (t_addr1 0 (T := (tyI .i64)) rfl Try.underlying51 sz3 rfl rfl (rr.at H2) rfl (by omega) ?_)
        refine WL.op rfl (t_load1 0 0 (T := (tyI .i64)) rfl Try.underlying3 rfl rfl (rr.at H2) (by omega) rfl ?_)
        refine WL.op rfl (d_call ok52 rfl (Ret.calls (counts_any (r.nums.getD 0 0) w2  ) fun _ w6 p1 => ?_))
        obtain ⟨rfl, u6⟩ := p1
        have H6 : UpG w [] w6 [[blk w.heap.size #[.slice ra r.nums.length rc, .string r.text] 53], [blk w1.heap.size #[.int .i64 0, .int .i64 0, .int .i64 0, .int .i64 0, .string ⟨#[]⟩] 55]] := H2.call u6
        refine WL.op rfl (d_alloc sz93 fun w7 u7 => ?_)
        have H7 : UpG w [] w7 [[blk w.heap.size #[.slice ra r.nums.length rc, .string r.text] 53], [blk w1.heap.size #[.int .i64 0, .int .i64 0, .int .i64 0, .int .i64 0, .string ⟨#[]⟩] 55], [blk w6.heap.size #[.bool false, .bool false, .bool false, .bool false] 93]] := H6.new' u7
        refine WL.op0 (d_storeAB (us := [.bool (cS (r.nums.getD 0 0)), .bool (cA (r.nums.getD 0 0)), .bool (cL (r.nums.getD 0 0)), .bool (cT (r.nums.getD 0 0))]) (cs' := #[.bool (cS (r.nums.getD 0 0)), .bool (cA (r.nums.getD 0 0)), .bool (cL (r.nums.getD 0 0)), .bool (cT (r.nums.getD 0 0))]) sz93 rfl rfl rfl rfl (H7.blk 2 rfl) rfl rfl fun w8 u8 => ?_)
        have H8 : UpG w [] w8 [[blk w.heap.size #[.slice ra r.nums.length rc, .string r.text] 53], [blk w1.heap.size #[.int .i64 0, .int .i64 0, .int .i64 0, .int .i64 0, .string ⟨#[]⟩] 55], [blk w6.heap.size #[.bool (cS (r.nums.getD 0 0)), .bool (cA (r.nums.getD 0 0)), .bool (cL (r.nums.getD 0 0)), .bool (cT (r.nums.getD 0 0))] 93]] := H7.on 2 rfl u8
        refine WL.done (X.then_code ?_)
        refine W.seq ?_
        refine W.region ?_
        refine WL.op rfl (d_alloc sz95 fun w9 u9 => ?_)
        have H9 : UpG w [] w9 [[blk w.heap.size #[.slice ra r.nums.length rc, .string r.text] 53], [blk w1.heap.size #[.int .i64 0, .int .i64 0, .int .i64 0, .int .i64 0, .string ⟨#[]⟩] 55], [blk w6.heap.size #[.bool (cS (r.nums.getD 0 0)), .bool (cA (r.nums.getD 0 0)), .bool (cL (r.nums.getD 0 0)), .bool (cT (r.nums.getD 0 0))] 93], [blk w8.heap.size #[.int .i64 0, .int .i64 0, .int .i64 0] 95]] := H8.new' u9
        refine WL.done (X.then_code ?_)
        refine W.seq ?_
        refine W.region ?_
        refine WL.op rfl (d_assign rfl ?_)
        refine WL.done (X.then_code ?_)
        refine W.seq ?_
        refine W.seq ?_
        refine W.region ?_
        refine WL.op rfl (d_assign rfl ?_)
        refine WL.done (X.then_code ?_)
        refine W.block ?_
        refine W.pick [7, 6, 5, 4, 3, 2, 1] (Γ' := [(7, .int .i64 0), (6, .int .i64 1), (5, .pointer (some ⟨w8.heap.size, 0, none⟩)), (4, .pointer (some ⟨w6.heap.size, 0, none⟩)), (3, .int .i64 0), (2, .pointer (some ⟨w1.heap.size, 0, none⟩)), (1, .pointer (some ⟨w.heap.size, 0, none⟩))]) rfl ?_
        refine W.loop (fun m Γ' w' => ∃ i : Nat, ∃ n : Nat, ∃ v0 : Int, ∃ v1 : Int, ∃ v2 : Int, Γ' = [(7, .int .i64 ((i : Nat) : Int)), (6, .int .i64 ((n : Nat) : Int)), (5, .pointer (some ⟨w8.heap.size, 0, none⟩)), (4, .pointer (some ⟨w6.heap.size, 0, none⟩)), (3, .int .i64 0), (2, .pointer (some ⟨w1.heap.size, 0, none⟩)), (1, .pointer (some ⟨w.heap.size, 0, none⟩))] ∧ UpG w [] w' [[blk w.heap.size #[.slice ra r.nums.length rc, .string r.text] 53], [blk w1.heap.size #[.int .i64 0, .int .i64 0, .int .i64 0, .int .i64 0, .string ⟨#[]⟩] 55], [blk w6.heap.size #[.bool (cS (r.nums.getD 0 0)), .bool (cA (r.nums.getD 0 0)), .bool (cL (r.nums.getD 0 0)), .bool (cT (r.nums.getD 0 0))] 93], [blk w8.heap.size #[.int .i64 v0, .int .i64 v1, .int .i64 v2] 95]] ∧ (i ≤ 3) ∧ (TH (r.nums.getD 0 0) r.nums i n v0 v1 v2) ∧ (n ≤ i + 1) ∧ m = 3 - i) (3 - 0) ⟨0, 1, 0, 0, 0, rfl, H9, (by first | assumption | omega | simp), (by exact TH.start _ _), (by first | assumption | omega | simp), rfl⟩ ?_
        rintro m1 Γ1 w10 ⟨i, n, v0, v1, v2, rfl, H10, hi, ht, hn4, rfl⟩
        rcases (by omega : i = 0 ∨ i = 1 ∨ i = 2 ∨ i = 3) with rfl | rfl | rfl | rfl
        · skip
          refine W.seq ?_
          refine W.seq ?_
          refine W.region ?_
          refine WL.op rfl (d_move rfl ?_)
          refine WL.op rfl (d_cmp true rfl rfl rfl ?_)
          refine WL.done (X.then_code ?_)
          refine W.ift rfl ?_
          refine W.skip (X.then_code ?_)
          refine W.seq ?_
          refine W.block ?_
          refine W.seq ?_
          refine W.region ?_
          refine WL.op rfl (d_move rfl ?_)
          refine WL.op rfl (d_idxAddrArr Try.underlying93 sz4 rfl rfl (by omega) (by omega) ?_)
          refine WL.op rfl (d_loadB Try.underlying4 rfl rfl (H10.blk 2 rfl) rfl ?_)
          refine WL.done (X.then_code ?_)
          refine W.iteB (b := cS (r.nums.getD 0 0)) rfl (fun c29 => ?_) (fun c29 => ?_)
          · skip
            refine W.seq ?_
            refine W.seq ?_
            refine W.region ?_
            refine WL.op rfl (d_move rfl ?_)
            refine WL.op rfl (d_fieldAddrB fld53_0 rfl rfl ?_)
            refine WL.op rfl (d_loadB Try.underlying51 rfl rfl (H10.blk 0 rfl) rfl ?_)
            refine WL.op rfl (d_lenS Try.underlying51 rfl ?_)
            refine WL.op rfl (d_cmp (decide (((n : Nat) : Int) < ((r.nums.length : Nat) : Int))) rfl rfl rfl ?_)
            refine WL.done (X.then_code ?_)
            refine W.pick [43, 42, 41, 40, 39, 38, 37, 36, 33, 32, 7, 6, 5, 4, 3, 2, 1] (Γ' := [(43, .bool (decide (((n : Nat) : Int) < ((r.nums.length : Nat) : Int)))), (42, .int .i64 ((r.nums.length : Nat) : Int)), (41, .slice ra r.nums.length rc), (40, .pointer (some ⟨w.heap.size, 0, none⟩)), (39, .int .i64 ((n : Nat) : Int)), (38, .bool (cS (r.nums.getD 0 0))), (37, .pointer (some ⟨w6.heap.size, 0, none⟩)), (36, .int .i64 ((0 : Nat) : Int)), (33, .bool true), (32, .int .i64 ((0 : Nat) : Int)), (7, .int .i64 ((0 : Nat) : Int)), (6, .int .i64 ((n : Nat) : Int)), (5, .pointer (some ⟨w8.heap.size, 0, none⟩)), (4, .pointer (some ⟨w6.heap.size, 0, none⟩)), (3, .int .i64 0), (2, .pointer (some ⟨w1.heap.size, 0, none⟩)), (1, .pointer (some ⟨w.heap.size, 0, none⟩))]) rfl ?_
            refine W.ite (p := ((n : Nat) : Int) < ((r.nums.length : Nat) : Int)) rfl (fun c30 => ?_) (fun c30 => ?_)
            · skip
              refine W.region ?_
              refine WL.op rfl (d_move rfl ?_)
              refine WL.op rfl (d_fieldAddrB fld53_0 rfl rfl ?_)
              refine WL.op rfl (d_loadB Try.underlying51 rfl rfl (H10.blk 0 rfl) rfl ?_)
              refine WL.op rfl (d_move rfl ?_)
              refine WL.op rfl (t_addr1 n (T := (tyI .i64)) rfl Try.underlying51 sz3 rfl rfl (rr.at H10) rfl (by omega) ?_)
              refine WL.op rfl (t_load1 n 0 (T := (tyI .i64)) rfl Try.underlying3 rfl rfl (rr.at H10) (by omega) rfl ?_)
              refine WL.op rfl (d_idxAddrArr Try.underlying95 sz3 rfl rfl (by omega) (by omega) ?_)
              refine WL.op0 (d_storeB sz3 rfl rfl rfl (H10.blk 3 rfl) rfl fun w11 u10 => ?_)
              have H11 : UpG w [] w11 [[blk w.heap.size #[.slice ra r.nums.length rc, .string r.text] 53], [blk w1.heap.size #[.int .i64 0, .int .i64 0, .int .i64 0, .int .i64 0, .string ⟨#[]⟩] 55], [blk w6.heap.size #[.bool (cS (r.nums.getD 0 0)), .bool (cA (r.nums.getD 0 0)), .bool (cL (r.nums.getD 0 0)), .bool (cT (r.nums.getD 0 0))] 93], [blk w8.heap.size #[.int .i64 (r.nums.getD n 0), .int .i64 v1, .int .i64 v2] 95]] := H10.on 3 rfl u10
              refine WL.done (X.then_code ?_)
              refine W.pick [50, 49, 48, 47, 46, 45, 44, 43, 42, 41, 40, 39, 38, 37, 36, 33, 32, 7, 6, 5, 4, 3, 2, 1] (Γ' := [(50, .pointer (some ⟨w8.heap.size, 0, none⟩)), (49, .int .i64 (r.nums.getD n 0)), (48, elemPtr (.slice ra r.nums.length rc) n), (47, .int .i64 ((n : Nat) : Int)), (46, .slice ra r.nums.length rc), (45, .pointer (some ⟨w.heap.size, 0, none⟩)), (44, .int .i64 ((0 : Nat) : Int)), (43, .bool (decide (((n : Nat) : Int) < ((r.nums.length : Nat) : Int)))), (42, .int .i64 ((r.nums.length : Nat) : Int)), (41, .slice ra r.nums.length rc), (40, .pointer (some ⟨w.heap.size, 0, none⟩)), (39, .int .i64 ((n : Nat) : Int)), (38, .bool (cS (r.nums.getD 0 0))), (37, .pointer (some ⟨w6.heap.size, 0, none⟩)), (36, .int .i64 ((0 : Nat) : Int)), (33, .bool true), (32, .int .i64 ((0 : Nat) : Int)), (7, .int .i64 ((0 : Nat) : Int)), (6, .int .i64 ((n : Nat) : Int)), (5, .pointer (some ⟨w8.heap.size, 0, none⟩)), (4, .pointer (some ⟨w6.heap.size, 0, none⟩)), (3, .int .i64 0), (2, .pointer (some ⟨w1.heap.size, 0, none⟩)), (1, .pointer (some ⟨w.heap.size, 0, none⟩))]) rfl ?_
              refine W.region ?_
              refine WL.op rfl (d_move rfl ?_)
              refine WL.op rfl (d_add rfl rfl (by omega) (by omega) ?_)
              refine WL.op rfl (d_assign rfl ?_)
              refine WL.done (X.block_normal (X.then_code ?_))
              refine W.pick [6, 52, 51, 50, 49, 48, 47, 46, 45, 44, 43, 42, 41, 40, 39, 38, 37, 36, 33, 32, 7, 5, 4, 3, 2, 1] (Γ' := [(6, .int .i64 (((n : Nat) : Int) + 1)), (52, .int .i64 (((n : Nat) : Int) + 1)), (51, .int .i64 ((n : Nat) : Int)), (50, .pointer (some ⟨w8.heap.size, 0, none⟩)), (49, .int .i64 (r.nums.getD n 0)), (48, elemPtr (.slice ra r.nums.length rc) n), (47, .int .i64 ((n : Nat) : Int)), (46, .slice ra r.nums.length rc), (45, .pointer (some ⟨w.heap.size, 0, none⟩)), (44, .int .i64 ((0 : Nat) : Int)), (43, .bool (decide (((n : Nat) : Int) < ((r.nums.length : Nat) : Int)))), (42, .int .i64 ((r.nums.length : Nat) : Int)), (41, .slice ra r.nums.length rc), (40, .pointer (some ⟨w.heap.size, 0, none⟩)), (39, .int .i64 ((n : Nat) : Int)), (38, .bool (cS (r.nums.getD 0 0))), (37, .pointer (some ⟨w6.heap.size, 0, none⟩)), (36, .int .i64 ((0 : Nat) : Int)), (33, .bool true), (32, .int .i64 ((0 : Nat) : Int)), (7, .int .i64 ((0 : Nat) : Int)), (5, .pointer (some ⟨w8.heap.size, 0, none⟩)), (4, .pointer (some ⟨w6.heap.size, 0, none⟩)), (3, .int .i64 0), (2, .pointer (some ⟨w1.heap.size, 0, none⟩)), (1, .pointer (some ⟨w.heap.size, 0, none⟩))]) rfl ?_
              refine W.region ?_
              refine WL.op rfl (d_move rfl ?_)
              refine WL.op rfl (d_add rfl rfl (by omega) (by omega) ?_)
              refine WL.op rfl (d_assign rfl ?_)
              refine WL.done ?_
              exact X.next [7, 6, 5, 4, 3, 2, 1] (Γ' := [(7, .int .i64 (((0 + 1) : Nat) : Int)), (6, .int .i64 (((n + 1) : Nat) : Int)), (5, .pointer (some ⟨w8.heap.size, 0, none⟩)), (4, .pointer (some ⟨w6.heap.size, 0, none⟩)), (3, .int .i64 0), (2, .pointer (some ⟨w1.heap.size, 0, none⟩)), (1, .pointer (some ⟨w.heap.size, 0, none⟩))]) rfl (3 - (0 + 1)) (by omega) ⟨0 + 1, n + 1, r.nums.getD n 0, v1, v2, rfl, H11, (by first | assumption | omega | simp), (by first | exact ht.in0 c29 | exact ht.out0 c29 (by omega) | exact ht.no0 c29 | exact ht.in1 c29 | exact ht.out1 c29 (by omega) | exact ht.no1 c29 | exact ht.in2 c29 | exact ht.out2 c29 (by omega) | exact ht.no2 c29), (by first | assumption | omega | simp), rfl⟩
            · skip
              refine W.skip (X.then_code ?_)
              refine W.pick [43, 42, 41, 40, 39, 38, 37, 36, 33, 32, 7, 6, 5, 4, 3, 2, 1] (Γ' := [(43, .bool (decide (((n : Nat) : Int) < ((r.nums.length : Nat) : Int)))), (42, .int .i64 ((r.nums.length : Nat) : Int)), (41, .slice ra r.nums.length rc), (40, .pointer (some ⟨w.heap.size, 0, none⟩)), (39, .int .i64 ((n : Nat) : Int)), (38, .bool (cS (r.nums.getD 0 0))), (37, .pointer (some ⟨w6.heap.size, 0, none⟩)), (36, .int .i64 ((0 : Nat) : Int)), (33, .bool true), (32, .int .i64 ((0 : Nat) : Int)), (7, .int .i64 ((0 : Nat) : Int)), (6, .int .i64 ((n : Nat) : Int)), (5, .pointer (some ⟨w8.heap.size, 0, none⟩)), (4, .pointer (some ⟨w6.heap.size, 0, none⟩)), (3, .int .i64 0), (2, .pointer (some ⟨w1.heap.size, 0, none⟩)), (1, .pointer (some ⟨w.heap.size, 0, none⟩))]) rfl ?_
              refine W.region ?_
              refine WL.op rfl (d_move rfl ?_)
              refine WL.op rfl (d_add rfl rfl (by omega) (by omega) ?_)
              refine WL.op rfl (d_assign rfl ?_)
              refine WL.done (X.block_normal (X.then_code ?_))
              refine W.pick [6, 52, 51, 43, 42, 41, 40, 39, 38, 37, 36, 33, 32, 7, 5, 4, 3, 2, 1] (Γ' := [(6, .int .i64 (((n : Nat) : Int) + 1)), (52, .int .i64 (((n : Nat) : Int) + 1)), (51, .int .i64 ((n : Nat) : Int)), (43, .bool (decide (((n : Nat) : Int) < ((r.nums.length : Nat) : Int)))), (42, .int .i64 ((r.nums.length : Nat) : Int)), (41, .slice ra r.nums.length rc), (40, .pointer (some ⟨w.heap.size, 0, none⟩)), (39, .int .i64 ((n : Nat) : Int)), (38, .bool (cS (r.nums.getD 0 0))), (37, .pointer (some ⟨w6.heap.size, 0, none⟩)), (36, .int .i64 ((0 : Nat) : Int)), (33, .bool true), (32, .int .i64 ((0 : Nat) : Int)), (7, .int .i64 ((0 : Nat) : Int)), (5, .pointer (some ⟨w8.heap.size, 0, none⟩)), (4, .pointer (some ⟨w6.heap.size, 0, none⟩)), (3, .int .i64 0), (2, .pointer (some ⟨w1.heap.size, 0, none⟩)), (1, .pointer (some ⟨w.heap.size, 0, none⟩))]) rfl ?_
              refine W.region ?_
              refine WL.op rfl (d_move rfl ?_)
              refine WL.op rfl (d_add rfl rfl (by omega) (by omega) ?_)
              refine WL.op rfl (d_assign rfl ?_)
              refine WL.done ?_
              exact X.next [7, 6, 5, 4, 3, 2, 1] (Γ' := [(7, .int .i64 (((0 + 1) : Nat) : Int)), (6, .int .i64 (((n + 1) : Nat) : Int)), (5, .pointer (some ⟨w8.heap.size, 0, none⟩)), (4, .pointer (some ⟨w6.heap.size, 0, none⟩)), (3, .int .i64 0), (2, .pointer (some ⟨w1.heap.size, 0, none⟩)), (1, .pointer (some ⟨w.heap.size, 0, none⟩))]) rfl (3 - (0 + 1)) (by omega) ⟨0 + 1, n + 1, v0, v1, v2, rfl, H10, (by first | assumption | omega | simp), (by first | exact ht.in0 c29 | exact ht.out0 c29 (by omega) | exact ht.no0 c29 | exact ht.in1 c29 | exact ht.out1 c29 (by omega) | exact ht.no1 c29 | exact ht.in2 c29 | exact ht.out2 c29 (by omega) | exact ht.no2 c29), (by first | assumption | omega | simp), rfl⟩
          · skip
            refine W.skip (X.block_normal (X.then_code ?_))
            refine W.region ?_
            refine WL.op rfl (d_move rfl ?_)
            refine WL.op rfl (d_add rfl rfl (by omega) (by omega) ?_)
            refine WL.op rfl (d_assign rfl ?_)
            refine WL.done ?_
            exact X.next [7, 6, 5, 4, 3, 2, 1] (Γ' := [(7, .int .i64 (((0 + 1) : Nat) : Int)), (6, .int .i64 ((n : Nat) : Int)), (5, .pointer (some ⟨w8.heap.size, 0, none⟩)), (4, .pointer (some ⟨w6.heap.size, 0, none⟩)), (3, .int .i64 0), (2, .pointer (some ⟨w1.heap.size, 0, none⟩)), (1, .pointer (some ⟨w.heap.size, 0, none⟩))]) rfl (3 - (0 + 1)) (by omega) ⟨0 + 1, n, v0, v1, v2, rfl, H10, (by first | assumption | omega | simp), (by first | exact ht.in0 c29 | exact ht.out0 c29 (by omega) | exact ht.no0 c29 | exact ht.in1 c29 | exact ht.out1 c29 (by omega) | exact ht.no1 c29 | exact ht.in2 c29 | exact ht.out2 c29 (by omega) | exact ht.no2 c29), (by first | assumption | omega | simp), rfl⟩
        · skip
          refine W.seq ?_
          refine W.seq ?_
          refine W.region ?_
          refine WL.op rfl (d_move rfl ?_)
          refine WL.op rfl (d_cmp true rfl rfl rfl ?_)
          refine WL.done (X.then_code ?_)
          refine W.ift rfl ?_
          refine W.skip (X.then_code ?_)
          refine W.seq ?_
          refine W.block ?_
          refine W.seq ?_
          refine W.region ?_
          refine WL.op rfl (d_move rfl ?_)
          refine WL.op rfl (d_idxAddrArr Try.underlying93 sz4 rfl rfl (by omega) (by omega) ?_)
          refine WL.op rfl (d_loadB Try.underlying4 rfl rfl (H10.blk 2 rfl) rfl ?_)
          refine WL.done (X.then_code ?_)
          refine W.iteB (b := cA (r.nums.getD 0 0)) rfl (fun c29 => ?_) (fun c29 => ?_)
          · skip
            refine W.seq ?_
            refine W.seq ?_
            refine W.region ?_
            refine WL.op rfl (d_move rfl ?_)
            refine WL.op rfl (d_fieldAddrB fld53_0 rfl rfl ?_)
            refine WL.op rfl (d_loadB Try.underlying51 rfl rfl (H10.blk 0 rfl) rfl ?_)
            refine WL.op rfl (d_lenS Try.underlying51 rfl ?_)
            refine WL.op rfl (d_cmp (decide (((n : Nat) : Int) < ((r.nums.length : Nat) : Int))) rfl rfl rfl ?_)
            refine WL.done (X.then_code ?_)
            refine W.pick [43, 42, 41, 40, 39, 38, 37, 36, 33, 32, 7, 6, 5, 4, 3, 2, 1] (Γ' := [(43, .bool (decide (((n : Nat) : Int) < ((r.nums.length : Nat) : Int)))), (42, .int .i64 ((r.nums.length : Nat) : Int)), (41, .slice ra r.nums.length rc), (40, .pointer (some ⟨w.heap.size, 0, none⟩)), (39, .int .i64 ((n : Nat) : Int)), (38, .bool (cA (r.nums.getD 0 0))), (37, .pointer (some ⟨w6.heap.size, 1, none⟩)), (36, .int .i64 ((1 : Nat) : Int)), (33, .bool true), (32, .int .i64 ((1 : Nat) : Int)), (7, .int .i64 ((1 : Nat) : Int)), (6, .int .i64 ((n : Nat) : Int)), (5, .pointer (some ⟨w8.heap.size, 0, none⟩)), (4, .pointer (some ⟨w6.heap.size, 0, none⟩)), (3, .int .i64 0), (2, .pointer (some ⟨w1.heap.size, 0, none⟩)), (1, .pointer (some ⟨w.heap.size, 0, none⟩))]) rfl ?_
            refine W.ite (p := ((n : Nat) : Int) < ((r.nums.length : Nat) : Int)) rfl (fun c30 => ?_) (fun c30 => ?_)
            · skip
              refine W.region ?_
              refine WL.op rfl (d_move rfl ?_)
              refine WL.op rfl (d_fieldAddrB fld53_0 rfl rfl ?_)
              refine WL.op rfl (d_loadB Try.underlying51 rfl rfl (H10.blk 0 rfl) rfl ?_)
              refine WL.op rfl (d_move rfl ?_)
              refine WL.op rfl (t_addr1 n (T := (tyI .i64)) rfl Try.underlying51 sz3 rfl rfl (rr.at H10) rfl (by omega) ?_)
              refine WL.op rfl (t_load1 n 0 (T := (tyI .i64)) rfl Try.underlying3 rfl rfl (rr.at H10) (by omega) rfl ?_)
              refine WL.op rfl (d_idxAddrArr Try.underlying95 sz3 rfl rfl (by omega) (by omega) ?_)
              refine WL.op0 (d_storeB sz3 rfl rfl rfl (H10.blk 3 rfl) rfl fun w12 u11 => ?_)
              have H12 : UpG w [] w12 [[blk w.heap.size #[.slice ra r.nums.length rc, .string r.text] 53], [blk w1.heap.size #[.int .i64 0, .int .i64 0, .int .i64 0, .int .i64 0, .string ⟨#[]⟩] 55], [blk w6.heap.size #[.bool (cS (r.nums.getD 0 0)), .bool (cA (r.nums.getD 0 0)), .bool (cL (r.nums.getD 0 0)), .bool (cT (r.nums.getD 0 0))] 93], [blk w8.heap.size #[.int .i64 v0, .int .i64 (r.nums.getD n 0), .int .i64 v2] 95]] := H10.on 3 rfl u11
              refine WL.done (X.then_code ?_)
              refine W.pick [50, 49, 48, 47, 46, 45, 44, 43, 42, 41, 40, 39, 38, 37, 36, 33, 32, 7, 6, 5, 4, 3, 2, 1] (Γ' := [(50, .pointer (some ⟨w8.heap.size, 1, none⟩)), (49, .int .i64 (r.nums.getD n 0)), (48, elemPtr (.slice ra r.nums.length rc) n), (47, .int .i64 ((n : Nat) : Int)), (46, .slice ra r.nums.length rc), (45, .pointer (some ⟨w.heap.size, 0, none⟩)), (44, .int .i64 ((1 : Nat) : Int)), (43, .bool (decide (((n : Nat) : Int) < ((r.nums.length : Nat) : Int)))), (42, .int .i64 ((r.nums.length : Nat) : Int)), (41, .slice ra r.nums.length rc), (40, .pointer (some ⟨w.heap.size, 0, none⟩)), (39, .int .i64 ((n : Nat) : Int)), (38, .bool (cA (r.nums.getD 0 0))), (37, .pointer (some ⟨w6.heap.size, 1, none⟩)), (36, .int .i64 ((1 : Nat) : Int)), (33, .bool true), (32, .int .i64 ((1 : Nat) : Int)), (7, .int .i64 ((1 : Nat) : Int)), (6, .int .i64 ((n : Nat) : Int)), (5, .pointer (some ⟨w8.heap.size, 0, none⟩)), (4, .pointer (some ⟨w6.heap.size, 0, none⟩)), (3, .int .i64 0), (2, .pointer (some ⟨w1.heap.size, 0, none⟩)), (1, .pointer (some ⟨w.heap.size, 0, none⟩))]) rfl ?_
              refine W.region ?_
              refine WL.op rfl (d_move rfl ?_)
              refine WL.op rfl (d_add rfl rfl (by omega) (by omega) ?_)
              refine WL.op rfl (d_assign rfl ?_)
              refine WL.done (X.block_normal (X.then_code ?_))
              refine W.pick [6, 52, 51, 50, 49, 48, 47, 46, 45, 44, 43, 42, 41, 40, 39, 38, 37, 36, 33, 32, 7, 5, 4, 3, 2, 1] (Γ' := [(6, .int .i64 (((n : Nat) : Int) + 1)), (52, .int .i64 (((n : Nat) : Int) + 1)), (51, .int .i64 ((n : Nat) : Int)), (50, .pointer (some ⟨w8.heap.size, 1, none⟩)), (49, .int .i64 (r.nums.getD n 0)), (48, elemPtr (.slice ra r.nums.length rc) n), (47, .int .i64 ((n : Nat) : Int)), (46, .slice ra r.nums.length rc), (45, .pointer (some ⟨w.heap.size, 0, none⟩)), (44, .int .i64 ((1 : Nat) : Int)), (43, .bool (decide (((n : Nat) : Int) < ((r.nums.length : Nat) : Int)))), (42, .int .i64 ((r.nums.length : Nat) : Int)), (41, .slice ra r.nums.length rc), (40, .pointer (some ⟨w.heap.size, 0, none⟩)), (39, .int .i64 ((n : Nat) : Int)), (38, .bool (cA (r.nums.getD 0 0))), (37, .pointer (some ⟨w6.heap.size, 1, none⟩)), (36, .int .i64 ((1 : Nat) : Int)), (33, .bool true), (32, .int .i64 ((1 : Nat) : Int)), (7, .int .i64 ((1 : Nat) : Int)), (5, .pointer (some ⟨w8.heap.size, 0, none⟩)), (4, .pointer (some ⟨w6.heap.size, 0, none⟩)), (3, .int .i64 0), (2, .pointer (some ⟨w1.heap.size, 0, none⟩)), (1, .pointer (some ⟨w.heap.size, 0, none⟩))]) rfl ?_
              refine W.region ?_
              refine WL.op rfl (d_move rfl ?_)
              refine WL.op rfl (d_add rfl rfl (by omega) (by omega) ?_)
              refine WL.op rfl (d_assign rfl ?_)
              refine WL.done ?_
              exact X.next [7, 6, 5, 4, 3, 2, 1] (Γ' := [(7, .int .i64 (((1 + 1) : Nat) : Int)), (6, .int .i64 (((n + 1) : Nat) : Int)), (5, .pointer (some ⟨w8.heap.size, 0, none⟩)), (4, .pointer (some ⟨w6.heap.size, 0, none⟩)), (3, .int .i64 0), (2, .pointer (some ⟨w1.heap.size, 0, none⟩)), (1, .pointer (some ⟨w.heap.size, 0, none⟩))]) rfl (3 - (1 + 1)) (by omega) ⟨1 + 1, n + 1, v0, r.nums.getD n 0, v2, rfl, H12, (by first | assumption | omega | simp), (by first | exact ht.in0 c29 | exact ht.out0 c29 (by omega) | exact ht.no0 c29 | exact ht.in1 c29 | exact ht.out1 c29 (by omega) | exact ht.no1 c29 | exact ht.in2 c29 | exact ht.out2 c29 (by omega) | exact ht.no2 c29), (by first | assumption | omega | simp), rfl⟩
            · skip
              refine W.skip (X.then_code ?_)
              refine W.pick [43, 42, 41, 40, 39, 38, 37, 36, 33, 32, 7, 6, 5, 4, 3, 2, 1] (Γ' := [(43, .bool (decide (((n : Nat) : Int) < ((r.nums.length : Nat) : Int)))), (42, .int .i64 ((r.nums.length : Nat) : Int)), (41, .slice ra r.nums.length rc), (40, .pointer (some ⟨w.heap.size, 0, none⟩)), (39, .int .i64 ((n : Nat) : Int)), (38, .bool (cA (r.nums.getD 0 0))), (37, .pointer (some ⟨w6.heap.size, 1, none⟩)), (36, .int .i64 ((1 : Nat) : Int)), (33, .bool true), (32, .int .i64 ((1 : Nat) : Int)), (7, .int .i64 ((1 : Nat) : Int)), (6, .int .i64 ((n : Nat) : Int)), (5, .pointer (some ⟨w8.heap.size, 0, none⟩)), (4, .pointer (some ⟨w6.heap.size, 0, none⟩)), (3, .int .i64 0), (2, .pointer (some ⟨w1.heap.size, 0, none⟩)), (1, .pointer (some ⟨w.heap.size, 0, none⟩))]) rfl ?_
              refine W.region ?_
              refine WL.op rfl (d_move rfl ?_)
              refine WL.op rfl (d_add rfl rfl (by omega) (by omega) ?_)
              refine WL.op rfl (d_assign rfl ?_)
              refine WL.done (X.block_normal (X.then_code ?_))
              refine W.pick [6, 52, 51, 43, 42, 41, 40, 39, 38, 37, 36, 33, 32, 7, 5, 4, 3, 2, 1] (Γ' := [(6, .int .i64 (((n : Nat) : Int) + 1)), (52, .int .i64 (((n : Nat) : Int) + 1)), (51, .int .i64 ((n : Nat) : Int)), (43, .bool (decide (((n : Nat) : Int) < ((r.nums.length : Nat) : Int)))), (42, .int .i64 ((r.nums.length : Nat) : Int)), (41, .slice ra r.nums.length rc), (40, .pointer (some ⟨w.heap.size, 0, none⟩)), (39, .int .i64 ((n : Nat) : Int)), (38, .bool (cA (r.nums.getD 0 0))), (37, .pointer (some ⟨w6.heap.size, 1, none⟩)), (36, .int .i64 ((1 : Nat) : Int)), (33, .bool true), (32, .int .i64 ((1 : Nat) : Int)), (7, .int .i64 ((1 : Nat) : Int)), (5, .pointer (some ⟨w8.heap.size, 0, none⟩)), (4, .pointer (some ⟨w6.heap.size, 0, none⟩)), (3, .int .i64 0), (2, .pointer (some ⟨w1.heap.size, 0, none⟩)), (1, .pointer (some ⟨w.heap.size, 0, none⟩))]) rfl ?_
              refine W.region ?_
              refine WL.op rfl (d_move rfl ?_)
              refine WL.op rfl (d_add rfl rfl (by omega) (by omega) ?_)
              refine WL.op rfl (d_assign rfl ?_)
              refine WL.done ?_
              exact X.next [7, 6, 5, 4, 3, 2, 1] (Γ' := [(7, .int .i64 (((1 + 1) : Nat) : Int)), (6, .int .i64 (((n + 1) : Nat) : Int)), (5, .pointer (some ⟨w8.heap.size, 0, none⟩)), (4, .pointer (some ⟨w6.heap.size, 0, none⟩)), (3, .int .i64 0), (2, .pointer (some ⟨w1.heap.size, 0, none⟩)), (1, .pointer (some ⟨w.heap.size, 0, none⟩))]) rfl (3 - (1 + 1)) (by omega) ⟨1 + 1, n + 1, v0, v1, v2, rfl, H10, (by first | assumption | omega | simp), (by first | exact ht.in0 c29 | exact ht.out0 c29 (by omega) | exact ht.no0 c29 | exact ht.in1 c29 | exact ht.out1 c29 (by omega) | exact ht.no1 c29 | exact ht.in2 c29 | exact ht.out2 c29 (by omega) | exact ht.no2 c29), (by first | assumption | omega | simp), rfl⟩
          · skip
            refine W.skip (X.block_normal (X.then_code ?_))
            refine W.region ?_
            refine WL.op rfl (d_move rfl ?_)
            refine WL.op rfl (d_add rfl rfl (by omega) (by omega) ?_)
            refine WL.op rfl (d_assign rfl ?_)
            refine WL.done ?_
            exact X.next [7, 6, 5, 4, 3, 2, 1] (Γ' := [(7, .int .i64 (((1 + 1) : Nat) : Int)), (6, .int .i64 ((n : Nat) : Int)), (5, .pointer (some ⟨w8.heap.size, 0, none⟩)), (4, .pointer (some ⟨w6.heap.size, 0, none⟩)), (3, .int .i64 0), (2, .pointer (some ⟨w1.heap.size, 0, none⟩)), (1, .pointer (some ⟨w.heap.size, 0, none⟩))]) rfl (3 - (1 + 1)) (by omega) ⟨1 + 1, n, v0, v1, v2, rfl, H10, (by first | assumption | omega | simp), (by first | exact ht.in0 c29 | exact ht.out0 c29 (by omega) | exact ht.no0 c29 | exact ht.in1 c29 | exact ht.out1 c29 (by omega) | exact ht.no1 c29 | exact ht.in2 c29 | exact ht.out2 c29 (by omega) | exact ht.no2 c29), (by first | assumption | omega | simp), rfl⟩
        · skip
          refine W.seq ?_
          refine W.seq ?_
          refine W.region ?_
          refine WL.op rfl (d_move rfl ?_)
          refine WL.op rfl (d_cmp true rfl rfl rfl ?_)
          refine WL.done (X.then_code ?_)
          refine W.ift rfl ?_
          refine W.skip (X.then_code ?_)
          refine W.seq ?_
          refine W.block ?_
          refine W.seq ?_
          refine W.region ?_
          refine WL.op rfl (d_move rfl ?_)
          refine WL.op rfl (d_idxAddrArr Try.underlying93 sz4 rfl rfl (by omega) (by omega) ?_)
          refine WL.op rfl (d_loadB Try.underlying4 rfl rfl (H10.blk 2 rfl) rfl ?_)
          refine WL.done (X.then_code ?_)
          refine W.iteB (b := cL (r.nums.getD 0 0)) rfl (fun c29 => ?_) (fun c29 => ?_)
          · skip
            refine W.seq ?_
            refine W.seq ?_
            refine W.region ?_
            refine WL.op rfl (d_move rfl ?_)
            refine WL.op rfl (d_fieldAddrB fld53_0 rfl rfl ?_)
            refine WL.op rfl (d_loadB Try.underlying51 rfl rfl (H10.blk 0 rfl) rfl ?_)
            refine WL.op rfl (d_lenS Try.underlying51 rfl ?_)
            refine WL.op rfl (d_cmp (decide (((n : Nat) : Int) < ((r.nums.length : Nat) : Int))) rfl rfl rfl ?_)
            refine WL.done (X.then_code ?_)
            refine W.pick [43, 42, 41, 40, 39, 38, 37, 36, 33, 32, 7, 6, 5, 4, 3, 2, 1] (Γ' := [(43, .bool (decide (((n : Nat) : Int) < ((r.nums.length : Nat) : Int)))), (42, .int .i64 ((r.nums.length : Nat) : Int)), (41, .slice ra r.nums.length rc), (40, .pointer (some ⟨w.heap.size, 0, none⟩)), (39, .int .i64 ((n : Nat) : Int)), (38, .bool (cL (r.nums.getD 0 0))), (37, .pointer (some ⟨w6.heap.size, 2, none⟩)), (36, .int .i64 ((2 : Nat) : Int)), (33, .bool true), (32, .int .i64 ((2 : Nat) : Int)), (7, .int .i64 ((2 : Nat) : Int)), (6, .int .i64 ((n : Nat) : Int)), (5, .pointer (some ⟨w8.heap.size, 0, none⟩)), (4, .pointer (some ⟨w6.heap.size, 0, none⟩)), (3, .int .i64 0), (2, .pointer (some ⟨w1.heap.size, 0, none⟩)), (1, .pointer (some ⟨w.heap.size, 0, none⟩))]) rfl ?_
            refine W.ite (p := ((n : Nat) : Int) < ((r.nums.length : Nat) : Int)) rfl (fun c30 => ?_) (fun c30 => ?_)
            · skip
              refine W.region ?_
              refine WL.op rfl (d_move rfl ?_)
              refine WL.op rfl (d_fieldAddrB fld53_0 rfl rfl ?_)
              refine WL.op rfl (d_loadB Try.underlying51 rfl rfl (H10.blk 0 rfl) rfl ?_)
              refine WL.op rfl (d_move rfl ?_)
              refine WL.op rfl (t_addr1 n (T := (tyI .i64)) rfl Try.underlying51 sz3 rfl rfl (rr.at H10) rfl (by omega) ?_)
              refine WL.op rfl (t_load1 n 0 (T := (tyI .i64)) rfl Try.underlying3 rfl rfl (rr.at H10) (by omega) rfl ?_)
              refine WL.op rfl (d_idxAddrArr Try.underlying95 sz3 rfl rfl (by omega) (by omega) ?_)
              refine WL.op0 (d_storeB sz3 rfl rfl rfl (H10.blk 3 rfl) rfl fun w13 u12 => ?_)
              have H13 : UpG w [] w13 [[blk w.heap.size #[.slice ra r.nums.length rc, .string r.text] 53], [blk w1.heap.size #[.int .i64 0, .int .i64 0, .int .i64 0, .int .i64 0, .string ⟨#[]⟩] 55], [blk w6.heap.size #[.bool (cS (r.nums.getD 0 0)), .bool (cA (r.nums.getD 0 0)), .bool (cL (r.nums.getD 0 0)), .bool (cT (r.nums.getD 0 0))] 93], [blk w8.heap.size #[.int .i64 v0, .int .i64 v1, .int .i64 (r.nums.getD n 0)] 95]] := H10.on 3 rfl u12
              refine WL.done (X.then_code ?_)
              refine W.pick [50, 49, 48, 47, 46, 45, 44, 43, 42, 41, 40, 39, 38, 37, 36, 33, 32, 7, 6, 5, 4, 3, 2, 1] (Γ' := [(50, .pointer (some ⟨w8.heap.size, 2, none⟩)), (49, .int .i64 (r.nums.getD n 0)), (48, elemPtr (.slice ra r.nums.length rc) n), (47, .int .i64 ((n : Nat) : Int)), (46, .slice ra r.nums.length rc), (45, .pointer (some ⟨w.heap.size, 0, none⟩)), (44, .int .i64 ((2 : Nat) : Int)), (43, .bool (decide (((n : Nat) : Int) < ((r.nums.length : Nat) : Int)))), (42, .int .i64 ((r.nums.length : Nat) : Int)), (41, .slice ra r.nums.length rc), (40, .pointer (some ⟨w.heap.size, 0, none⟩)), (39, .int .i64 ((n : Nat) : Int)), (38, .bool (cL (r.nums.getD 0 0))), (37, .pointer (some ⟨w6.heap.size, 2, none⟩)), (36, .int .i64 ((2 : Nat) : Int)), (33, .bool true), (32, .int .i64 ((2 : Nat) : Int)), (7, .int .i64 ((2 : Nat) : Int)), (6, .int .i64 ((n : Nat) : Int)), (5, .pointer (some ⟨w8.heap.size, 0, none⟩)), (4, .pointer (some ⟨w6.heap.size, 0, none⟩)), (3, .int .i64 0), (2, .pointer (some ⟨w1.heap.size, 0, none⟩)), (1, .pointer (some ⟨w.heap.size, 0, none⟩))]) rfl ?_
              refine W.region ?_
              refine WL.op rfl (d_move rfl ?_)
              refine WL.op rfl (d_add rfl rfl (by omega) (by omega) ?_)
              refine WL.op rfl (d_assign rfl ?_)
              refine WL.done (X.block_normal (X.then_code ?_))
              refine W.pick [6, 52, 51, 50, 49, 48, 47, 46, 45, 44, 43, 42, 41, 40, 39, 38, 37, 36, 33, 32, 7, 5, 4, 3, 2, 1] (Γ' := [(6, .int .i64 (((n : Nat) : Int) + 1)), (52, .int .i64 (((n : Nat) : Int) + 1)), (51, .int .i64 ((n : Nat) : Int)), (50, .pointer (some ⟨w8.heap.size, 2, none⟩)), (49, .int .i64 (r.nums.getD n 0)), (48, elemPtr (.slice ra r.nums.length rc) n), (47, .int .i64 ((n : Nat) : Int)), (46, .slice ra r.nums.length rc), (45, .pointer (some ⟨w.heap.size, 0, none⟩)), (44, .int .i64 ((2 : Nat) : Int)), (43, .bool (decide (((n : Nat) : Int) < ((r.nums.length : Nat) : Int)))), (42, .int .i64 ((r.nums.length : Nat) : Int)), (41, .slice ra r.nums.length rc), (40, .pointer (some ⟨w.heap.size, 0, none⟩)), (39, .int .i64 ((n : Nat) : Int)), (38, .bool (cL (r.nums.getD 0 0))), (37, .pointer (some ⟨w6.heap.size, 2, none⟩)), (36, .int .i64 ((2 : Nat) : Int)), (33, .bool true), (32, .int .i64 ((2 : Nat) : Int)), (7, .int .i64 ((2 : Nat) : Int)), (5, .pointer (some ⟨w8.heap.size, 0, none⟩)), (4, .pointer (some ⟨w6.heap.size, 0, none⟩)), (3, .int .i64 0), (2, .pointer (some ⟨w1.heap.size, 0, none⟩)), (1, .pointer (some ⟨w.heap.size, 0, none⟩))]) rfl ?_
              refine W.region ?_
              refine WL.op rfl (d_move rfl ?_)
              refine WL.op rfl (d_add rfl rfl (by omega) (by omega) ?_)
              refine WL.op rfl (d_assign rfl ?_)
              refine WL.done ?_
              exact X.next [7, 6, 5, 4, 3, 2, 1] (Γ' := [(7, .int .i64 (((2 + 1) : Nat) : Int)), (6, .int .i64 (((n + 1) : Nat) : Int)), (5, .pointer (some ⟨w8.heap.size, 0, none⟩)), (4, .pointer (some ⟨w6.heap.size, 0, none⟩)), (3, .int .i64 0), (2, .pointer (some ⟨w1.heap.size, 0, none⟩)), (1, .pointer (some ⟨w.heap.size, 0, none⟩))]) rfl (3 - (2 + 1)) (by omega) ⟨2 + 1, n + 1, v0, v1, r.nums.getD n 0, rfl, H13, (by first | assumption | omega | simp), (by first | exact ht.in0 c29 | exact ht.out0 c29 (by omega) | exact ht.no0 c29 | exact ht.in1 c29 | exact ht.out1 c29 (by omega) | exact ht.no1 c29 | exact ht.in2 c29 | exact ht.out2 c29 (by omega) | exact ht.no2 c29), (by first | assumption | omega | simp), rfl⟩
            · skip
              refine W.skip (X.then_code ?_)
              refine W.pick [43, 42, 41, 40, 39, 38, 37, 36, 33, 32, 7, 6, 5, 4, 3, 2, 1] (Γ' := [(43, .bool (decide (((n : Nat) : Int) < ((r.nums.length : Nat) : Int)))), (42, .int .i64 ((r.nums.length : Nat) : Int)), (41, .slice ra r.nums.length rc), (40, .pointer (some ⟨w.heap.size, 0, none⟩)), (39, .int .i64 ((n : Nat) : Int)), (38, .bool (cL (r.nums.getD 0 0))), (37, .pointer (some ⟨w6.heap.size, 2, none⟩)), (36, .int .i64 ((2 : Nat) : Int)), (33, .bool true), (32, .int .i64 ((2 : Nat) : Int)), (7, .int .i64 ((2 : Nat) : Int)), (6, .int .i64 ((n : Nat) : Int)), (5, .pointer (some ⟨w8.heap.size, 0, none⟩)), (4, .pointer (some ⟨w6.heap.size, 0, none⟩)), (3, .int .i64 0), (2, .pointer (some ⟨w1.heap.size, 0, none⟩)), (1, .pointer (some ⟨w.heap.size, 0, none⟩))]) rfl ?_
              refine W.region ?_
              refine WL.op rfl (d_move rfl ?_)
              refine WL.op rfl (d_add rfl rfl (by omega) (by omega) ?_)
              refine WL.op rfl (d_assign rfl ?_)
              refine WL.done (X.block_normal (X.then_code ?_))
              refine W.pick [6, 52, 51, 43, 42, 41, 40, 39, 38, 37, 36, 33, 32, 7, 5, 4, 3, 2, 1] (Γ' := [(6, .int .i64 (((n : Nat) : Int) + 1)), (52, .int .i64 (((n : Nat) : Int) + 1)), (51, .int .i64 ((n : Nat) : Int)), (43, .bool (decide (((n : Nat) : Int) < ((r.nums.length : Nat) : Int)))), (42, .int .i64 ((r.nums.length : Nat) : Int)), (41, .slice ra r.nums.length rc), (40, .pointer (some ⟨w.heap.size, 0, none⟩)), (39, .int .i64 ((n : Nat) : Int)), (38, .bool (cL (r.nums.getD 0 0))), (37, .pointer (some ⟨w6.heap.size, 2, none⟩)), (36, .int .i64 ((2 : Nat) : Int)), (33, .bool true), (32, .int .i64 ((2 : Nat) : Int)), (7, .int .i64 ((2 : Nat) : Int)), (5, .pointer (some ⟨w8.heap.size, 0, none⟩)), (4, .pointer (some ⟨w6.heap.size, 0, none⟩)), (3, .int .i64 0), (2, .pointer (some ⟨w1.heap.size, 0, none⟩)), (1, .pointer (some ⟨w.heap.size, 0, none⟩))]) rfl ?_
              refine W.region ?_
              refine WL.op rfl (d_move rfl ?_)
              refine WL.op rfl (d_add rfl rfl (by omega) (by omega) ?_)
              refine WL.op rfl (d_assign rfl ?_)
              refine WL.done ?_
              exact X.next [7, 6, 5, 4, 3, 2, 1] (Γ' := [(7, .int .i64 (((2 + 1) : Nat) : Int)), (6, .int .i64 (((n + 1) : Nat) : Int)), (5, .pointer (some ⟨w8.heap.size, 0, none⟩)), (4, .pointer (some ⟨w6.heap.size, 0, none⟩)), (3, .int .i64 0), (2, .pointer (some ⟨w1.heap.size, 0, none⟩)), (1, .pointer (some ⟨w.heap.size, 0, none⟩))]) rfl (3 - (2 + 1)) (by omega) ⟨2 + 1, n + 1, v0, v1, v2, rfl, H10, (by first | assumption | omega | simp), (by first | exact ht.in0 c29 | exact ht.out0 c29 (by omega) | exact ht.no0 c29 | exact ht.in1 c29 | exact ht.out1 c29 (by omega) | exact ht.no1 c29 | exact ht.in2 c29 | exact ht.out2 c29 (by omega) | exact ht.no2 c29), (by first | assumption | omega | simp), rfl⟩
          · skip
            refine W.skip (X.block_normal (X.then_code ?_))
            refine W.region ?_
            refine WL.op rfl (d_move rfl ?_)
            refine WL.op rfl (d_add rfl rfl (by omega) (by omega) ?_)
            refine WL.op rfl (d_assign rfl ?_)
            refine WL.done ?_
            exact X.next [7, 6, 5, 4, 3, 2, 1] (Γ' := [(7, .int .i64 (((2 + 1) : Nat) : Int)), (6, .int .i64 ((n : Nat) : Int)), (5, .pointer (some ⟨w8.heap.size, 0, none⟩)), (4, .pointer (some ⟨w6.heap.size, 0, none⟩)), (3, .int .i64 0), (2, .pointer (some ⟨w1.heap.size, 0, none⟩)), (1, .pointer (some ⟨w.heap.size, 0, none⟩))]) rfl (3 - (2 + 1)) (by omega) ⟨2 + 1, n, v0, v1, v2, rfl, H10, (by first | assumption | omega | simp), (by first | exact ht.in0 c29 | exact ht.out0 c29 (by omega) | exact ht.no0 c29 | exact ht.in1 c29 | exact ht.out1 c29 (by omega) | exact ht.no1 c29 | exact ht.in2 c29 | exact ht.out2 c29 (by omega) | exact ht.no2 c29), (by first | assumption | omega | simp), rfl⟩
        · skip
          refine W.seq ?_
          refine W.seq ?_
          refine W.region ?_
          refine WL.op rfl (d_move rfl ?_)
          refine WL.op rfl (d_cmp false rfl rfl rfl ?_)
          refine WL.done (X.then_code ?_)
          refine W.iff rfl ?_
          refine W.exit (X.then_exit (X.then_exit (X.block_exit (X.then_code ?_))))
          refine W.seq ?_
          refine W.seq ?_
          obtain ⟨hn, h0, h1, h2⟩ := ht.fin
          refine W.region ?_
          refine WL.op rfl (d_move rfl ?_)
          refine WL.op rfl (d_fieldAddrB fld53_0 rfl rfl ?_)
          refine WL.op rfl (d_loadB Try.underlying51 rfl rfl (H10.blk 0 rfl) rfl ?_)
          refine WL.op rfl (d_lenS Try.underlying51 rfl ?_)
          refine WL.op rfl (d_cmp (decide (((n : Nat) : Int) ≠ ((r.nums.length : Nat) : Int))) rfl rfl rfl ?_)
          refine WL.op rfl (d_move rfl ?_)
          refine WL.part 58 (p := ((n : Nat) : Int) ≠ ((r.nums.length : Nat) : Int)) rfl (fun g36 => ?_) (fun g36 => ?_)
          · skip
            refine WL.opN rfl rfl rfl rfl ?_
            refine WL.opN rfl rfl rfl rfl ?_
            refine WL.opN rfl rfl rfl rfl ?_
            refine WL.opN rfl rfl rfl rfl ?_
            refine WL.opN rfl rfl rfl rfl ?_
            refine WL.opU rfl rfl rfl ?_
            refine WL.opU rfl rfl rfl ?_
            refine WL.opU rfl rfl rfl ?_
            refine WL.opN rfl rfl rfl rfl ?_
            refine WL.op rfl (d_pick rfl rfl ?_)
            refine WL.done (X.then_code ?_)
            refine W.pick [68, 5, 3, 2, 1] (Γ' := [(68, .bool true), (5, .pointer (some ⟨w8.heap.size, 0, none⟩)), (3, .int .i64 0), (2, .pointer (some ⟨w1.heap.size, 0, none⟩)), (1, .pointer (some ⟨w.heap.size, 0, none⟩))]) rfl ?_
            refine W.ift rfl ?_
            refine W.seq ?_
            refine W.region ?_
            refine WL.op rfl (d_build (cs := #[.int .i64 0, .int .i64 0, .int .i64 0, .int .i64 0, .string ⟨#[]⟩]) rfl (by kernel_rfl) ?_)
            refine WL.op0 (d_storeAB (us := [.int .i64 0, .int .i64 0, .int .i64 0, .int .i64 0, .string ⟨#[]⟩]) (cs' := #[.int .i64 0, .int .i64 0, .int .i64 0, .int .i64 0, .string ⟨#[]⟩]) sz55 rfl rfl rfl rfl (H10.blk 1 rfl) rfl rfl fun w14 u13 => ?_)
            have H14 : UpG w [] w14 [[blk w.heap.size #[.slice ra r.nums.length rc, .string r.text] 53], [blk w1.heap.size #[.int .i64 0, .int .i64 0, .int .i64 0, .int .i64 0, .string ⟨#[]⟩] 55], [blk w6.heap.size #[.bool (cS (r.nums.getD 0 0)), .bool (cA (r.nums.getD 0 0)), .bool (cL (r.nums.getD 0 0)), .bool (cT (r.nums.getD 0 0))] 93], [blk w8.heap.size #[.int .i64 v0, .int .i64 v1, .int .i64 v2] 95]] := H10.on 1 rfl u13
            refine WL.op rfl (d_assign rfl ?_)
            refine WL.done (X.then_code ?_)
            refine W.ret (X.then_ret (X.retR2 rfl (rv_cellA [.int .i64 0, .int .i64 0, .int .i64 0, .int .i64 0, .string ⟨#[]⟩] Try.underlying55 rfl sz55 rfl (H14.blk 1 rfl) rfl rfl) (rv_tmp rfl) ?_))
            have e : ofR r = (op0, 3) := by unfold ofR; rw [if_neg hno, if_pos (by first | exact .inl (by omega) | exact .inr ⟨by omega, by simpa using c36⟩)]
            rw [e]
            exact ⟨(by rfl), H14.noneL⟩
          · skip
            refine WL.opG rfl rfl rfl (d_fieldAddrB fld53_1 rfl rfl ?_)
            refine WL.opG rfl rfl rfl (d_loadB Try.underlying9 rfl rfl (H10.blk 0 rfl) rfl ?_)
            refine WL.opG rfl rfl rfl (d_lenStr Try.underlying9 rfl ?_)
            refine WL.opG rfl rfl rfl (d_cmp (decide (((r.text.size : Nat) : Int) > (0 : Int))) rfl rfl rfl ?_)
            refine WL.opG rfl rfl rfl (d_move rfl ?_)
            refine WL.part 63 (p := ((r.text.size : Nat) : Int) > (0 : Int)) rfl (fun g36x => ?_) (fun g36x => ?_)
            · skip
              refine WL.opG rfl rfl rfl (d_idxAddrArr Try.underlying93 sz4 rfl rfl (by omega) (by omega) ?_)
              refine WL.opG rfl rfl rfl (d_loadB Try.underlying4 rfl rfl (H10.blk 2 rfl) rfl ?_)
              refine WL.opG rfl rfl rfl (d_notB rfl ?_)
              refine WL.opG rfl rfl rfl (d_pick rfl rfl ?_)
              refine WL.op rfl (d_pick rfl rfl ?_)
              refine WL.done (X.then_code ?_)
              refine W.pick [68, 5, 3, 2, 1] (Γ' := [(68, .bool (!(cT (r.nums.getD 0 0)))), (5, .pointer (some ⟨w8.heap.size, 0, none⟩)), (3, .int .i64 0), (2, .pointer (some ⟨w1.heap.size, 0, none⟩)), (1, .pointer (some ⟨w.heap.size, 0, none⟩))]) rfl ?_
              refine W.iteB (b := !(cT (r.nums.getD 0 0))) rfl (fun c36 => ?_) (fun c36 => ?_)
              · skip
                refine W.seq ?_
                refine W.region ?_
                refine WL.op rfl (d_build (cs := #[.int .i64 0, .int .i64 0, .int .i64 0, .int .i64 0, .string ⟨#[]⟩]) rfl (by kernel_rfl) ?_)
                refine WL.op0 (d_storeAB (us := [.int .i64 0, .int .i64 0, .int .i64 0, .int .i64 0, .string ⟨#[]⟩]) (cs' := #[.int .i64 0, .int .i64 0, .int .i64 0, .int .i64 0, .string ⟨#[]⟩]) sz55 rfl rfl rfl rfl (H10.blk 1 rfl) rfl rfl fun w15 u14 => ?_)
                have H15 : UpG w [] w15 [[blk w.heap.size #[.slice ra r.nums.length rc, .string r.text] 53], [blk w1.heap.size #[.int .i64 0, .int .i64 0, .int .i64 0, .int .i64 0, .string ⟨#[]⟩] 55], [blk w6.heap.size #[.bool (cS (r.nums.getD 0 0)), .bool (cA (r.nums.getD 0 0)), .bool (cL (r.nums.getD 0 0)), .bool (cT (r.nums.getD 0 0))] 93], [blk w8.heap.size #[.int .i64 v0, .int .i64 v1, .int .i64 v2] 95]] := H10.on 1 rfl u14
                refine WL.op rfl (d_assign rfl ?_)
                refine WL.done (X.then_code ?_)
                refine W.ret (X.then_ret (X.retR2 rfl (rv_cellA [.int .i64 0, .int .i64 0, .int .i64 0, .int .i64 0, .string ⟨#[]⟩] Try.underlying55 rfl sz55 rfl (H15.blk 1 rfl) rfl rfl) (rv_tmp rfl) ?_))
                have e : ofR r = (op0, 3) := by unfold ofR; rw [if_neg hno, if_pos (by first | exact .inl (by omega) | exact .inr ⟨by omega, by simpa using c36⟩)]
                rw [e]
                exact ⟨(by rfl), H15.noneL⟩
              · skip
                refine W.skip (X.then_code ?_)
                refine W.seq ?_
                refine W.seq ?_
                have hmid : ¬ (tot (r.nums.getD 0 0) ≠ r.nums.length ∨ (0 < r.text.size ∧ cT (r.nums.getD 0 0) = false)) := fun h => h.elim (fun h => by omega) (fun h => by have h1 := h.1; have h2 := h.2; first | omega | (rw [h2] at c36; exact c36 rfl))
                refine W.region ?_
                refine WL.op rfl (d_fieldAddrB fld53_1 rfl rfl ?_)
                refine WL.op rfl (d_loadB Try.underlying9 rfl rfl (H10.blk 0 rfl) rfl ?_)
                refine WL.op rfl (d_lenStr Try.underlying9 rfl ?_)
                refine WL.op rfl (d_cmp (decide (((r.text.size : Nat) : Int) > (1048576 : Int))) rfl rfl rfl ?_)
                refine WL.done (X.then_code ?_)
                refine W.ite (p := ((r.text.size : Nat) : Int) > (1048576 : Int)) rfl (fun c39 => ?_) (fun c39 => ?_)
                · skip
                  refine W.seq ?_
                  refine W.region ?_
                  refine WL.op rfl (d_build (cs := #[.int .i64 0, .int .i64 0, .int .i64 0, .int .i64 0, .string ⟨#[]⟩]) rfl (by kernel_rfl) ?_)
                  refine WL.op0 (d_storeAB (us := [.int .i64 0, .int .i64 0, .int .i64 0, .int .i64 0, .string ⟨#[]⟩]) (cs' := #[.int .i64 0, .int .i64 0, .int .i64 0, .int .i64 0, .string ⟨#[]⟩]) sz55 rfl rfl rfl rfl (H10.blk 1 rfl) rfl rfl fun w16 u15 => ?_)
                  have H16 : UpG w [] w16 [[blk w.heap.size #[.slice ra r.nums.length rc, .string r.text] 53], [blk w1.heap.size #[.int .i64 0, .int .i64 0, .int .i64 0, .int .i64 0, .string ⟨#[]⟩] 55], [blk w6.heap.size #[.bool (cS (r.nums.getD 0 0)), .bool (cA (r.nums.getD 0 0)), .bool (cL (r.nums.getD 0 0)), .bool (cT (r.nums.getD 0 0))] 93], [blk w8.heap.size #[.int .i64 v0, .int .i64 v1, .int .i64 v2] 95]] := H10.on 1 rfl u15
                  refine WL.op rfl (d_assign rfl ?_)
                  refine WL.done (X.then_code ?_)
                  refine W.ret (X.then_ret (X.retR2 rfl (rv_cellA [.int .i64 0, .int .i64 0, .int .i64 0, .int .i64 0, .string ⟨#[]⟩] Try.underlying55 rfl sz55 rfl (H16.blk 1 rfl) rfl rfl) (rv_tmp rfl) ?_))
                  have e : ofR r = (op0, 4) := by unfold ofR; rw [if_neg hno, if_neg hmid, if_pos (by omega)]
                  rw [e]
                  exact ⟨(by rfl), H16.noneL⟩
                · skip
                  refine W.skip (X.then_code ?_)
                  refine W.seq ?_
                  refine W.regionD mixed (by kernel_rfl) fun hok1 w17 k1 => ?_
                  have H17 : UpG w [] w17 [[blk w.heap.size #[.slice ra r.nums.length rc, .string r.text] 53], [blk w1.heap.size #[.int .i64 0, .int .i64 0, .int .i64 0, .int .i64 0, .string ⟨#[]⟩] 55], [blk w6.heap.size #[.bool (cS (r.nums.getD 0 0)), .bool (cA (r.nums.getD 0 0)), .bool (cL (r.nums.getD 0 0)), .bool (cT (r.nums.getD 0 0))] 93], [blk w8.heap.size #[.int .i64 v0, .int .i64 v1, .int .i64 v2] 95]] := H10.kept k1
                  refine WD.take hok1 0 (.pointer (some ⟨w.heap.size, 0, none⟩)) (fun _ => True) rfl rfl rfl rfl rfl trivial (.inl ⟨rfl, fun _ _ => d_fieldAddrB fld53_0 rfl rfl ⟨rfl, rfl⟩⟩) ?_
                  refine WD.take hok1 1 (.slice ra r.nums.length rc) (fun w' => w'.heap[w.heap.size]? = some (.cells #[.slice ra r.nums.length rc, .string r.text] 53 (0, 0))) rfl rfl rfl rfl rfl (H17.blk 0 rfl) (.inl ⟨rfl, fun _ hC => d_loadB Try.underlying51 rfl rfl hC rfl ⟨rfl, rfl⟩⟩) ?_
                  refine WD.take hok1 2 (elemPtr (.slice ra r.nums.length rc) 0) (fun w' => RdT (tyI .i64) w' (.slice ra r.nums.length rc) r.nums) rfl rfl rfl rfl rfl (rr.at H17) (.inl ⟨rfl, fun _ hC => t_addr1 0 (T := (tyI .i64)) rfl Try.underlying51 sz3 rfl rfl hC rfl (by omega) ⟨rfl, rfl⟩⟩) ?_
                  refine WD.take hok1 3 (.int .i64 (r.nums.getD 0 0)) (fun w' => RdT (tyI .i64) w' (.slice ra r.nums.length rc) r.nums) rfl rfl rfl rfl rfl (rr.at H17) (.inl ⟨rfl, fun _ hC => t_load1 0 0 (T := (tyI .i64)) rfl Try.underlying3 rfl rfl hC (by omega) rfl ⟨rfl, rfl⟩⟩) ?_
                  refine WD.take hok1 4 (.pointer (some ⟨w8.heap.size, 0, none⟩)) (fun _ => True) rfl rfl rfl rfl rfl trivial (.inl ⟨rfl, fun _ _ => d_idxAddrArr Try.underlying95 sz3 rfl rfl (by omega) (by omega) ⟨rfl, rfl⟩⟩) ?_
                  refine WD.take hok1 5 (.int .i64 v0) (fun w' => w'.heap[w8.heap.size]? = some (.cells #[.int .i64 v0, .int .i64 v1, .int .i64 v2] 95 (0, 0))) rfl rfl rfl rfl rfl (H17.blk 3 rfl) (.inl ⟨rfl, fun _ hC => d_loadB Try.underlying3 rfl rfl hC rfl ⟨rfl, rfl⟩⟩) ?_
                  refine WD.take hok1 6 (.pointer (some ⟨w8.heap.size, 1, none⟩)) (fun _ => True) rfl rfl rfl rfl rfl trivial (.inl ⟨rfl, fun _ _ => d_idxAddrArr Try.underlying95 sz3 rfl rfl (by omega) (by omega) ⟨rfl, rfl⟩⟩) ?_
                  refine WD.take hok1 7 (.int .i64 v1) (fun w' => w'.heap[w8.heap.size]? = some (.cells #[.int .i64 v0, .int .i64 v1, .int .i64 v2] 95 (0, 0))) rfl rfl rfl rfl rfl (H17.blk 3 rfl) (.inl ⟨rfl, fun _ hC => d_loadB Try.underlying3 rfl rfl hC rfl ⟨rfl, rfl⟩⟩) ?_
                  refine WD.take hok1 8 (.pointer (some ⟨w8.heap.size, 2, none⟩)) (fun _ => True) rfl rfl rfl rfl rfl trivial (.inl ⟨rfl, fun _ _ => d_idxAddrArr Try.underlying95 sz3 rfl rfl (by omega) (by omega) ⟨rfl, rfl⟩⟩) ?_
                  refine WD.take hok1 9 (.int .i64 v2) (fun w' => w'.heap[w8.heap.size]? = some (.cells #[.int .i64 v0, .int .i64 v1, .int .i64 v2] 95 (0, 0))) rfl rfl rfl rfl rfl (H17.blk 3 rfl) (.inl ⟨rfl, fun _ hC => d_loadB Try.underlying3 rfl rfl hC rfl ⟨rfl, rfl⟩⟩) ?_
                  refine WD.take hok1 10 (.pointer (some ⟨w.heap.size, 1, none⟩)) (fun _ => True) rfl rfl rfl rfl rfl trivial (.inl ⟨rfl, fun _ _ => d_fieldAddrB fld53_1 rfl rfl ⟨rfl, rfl⟩⟩) ?_
                  refine WD.take hok1 11 (.string r.text) (fun w' => w'.heap[w.heap.size]? = some (.cells #[.slice ra r.nums.length rc, .string r.text] 53 (0, 0))) rfl rfl rfl rfl rfl (H17.blk 0 rfl) (.inl ⟨rfl, fun _ hC => d_loadB Try.underlying9 rfl rfl hC rfl ⟨rfl, rfl⟩⟩) ?_
                  refine WD.take hok1 12 (.agg #[.int .i64 (r.nums.getD 0 0), .int .i64 v0, .int .i64 v1, .int .i64 v2, .string r.text]) (fun _ => True) rfl rfl rfl rfl rfl trivial (.inl ⟨rfl, fun _ _ => d_build (cs := #[.int .i64 (r.nums.getD 0 0), .int .i64 v0, .int .i64 v1, .int .i64 v2, .string r.text]) rfl (by kernel_rfl) ⟨rfl, rfl⟩⟩) ?_
                  refine WD.loud hok1 13 rfl (⟨_, [], rfl, rfl, rfl, rfl, rfl, rfl, d_storeAB (us := [.int .i64 (r.nums.getD 0 0), .int .i64 v0, .int .i64 v1, .int .i64 v2, .string r.text]) (cs' := #[.int .i64 (r.nums.getD 0 0), .int .i64 v0, .int .i64 v1, .int .i64 v2, .string r.text]) sz55 rfl rfl rfl rfl (H17.blk 1 rfl) rfl rfl fun w18 u16 => ?_⟩)
                  have H18 : UpG w [] w18 [[blk w.heap.size #[.slice ra r.nums.length rc, .string r.text] 53], [blk w1.heap.size #[.int .i64 (r.nums.getD 0 0), .int .i64 v0, .int .i64 v1, .int .i64 v2, .string r.text] 55], [blk w6.heap.size #[.bool (cS (r.nums.getD 0 0)), .bool (cA (r.nums.getD 0 0)), .bool (cL (r.nums.getD 0 0)), .bool (cT (r.nums.getD 0 0))] 93], [blk w8.heap.size #[.int .i64 v0, .int .i64 v1, .int .i64 v2] 95]] := H17.on 1 rfl u16
                  refine ⟨trivial, ?_⟩
                  refine WD.take hok1 14 (.int .i64 0) (fun _ => True) rfl rfl rfl rfl rfl trivial (.inl ⟨rfl, fun _ _ => d_assign rfl ⟨rfl, rfl⟩⟩) ?_
                  refine WD.done hok1 rfl (X.then_code ?_)
                  refine W.pick [3, 2] (Γ' := [(3, .int .i64 0), (2, .pointer (some ⟨w1.heap.size, 0, none⟩))]) rfl ?_
                  refine W.ret (X.retR2 rfl (rv_cellA [.int .i64 (r.nums.getD 0 0), .int .i64 v0, .int .i64 v1, .int .i64 v2, .string r.text] Try.underlying55 rfl sz55 rfl (H18.blk 1 rfl) rfl rfl) (rv_tmp rfl) ?_)
                  have e : ofR r = (⟨r.nums.getD 0 0, v0, v1, v2, r.text⟩, 0) := by unfold ofR; rw [if_neg hno, if_neg hmid, if_neg (by omega), h0, h1, h2]
                  rw [e]
                  exact ⟨(by rfl), H18.noneL⟩
            · skip
              refine WL.opN rfl rfl rfl rfl ?_
              refine WL.opN rfl rfl rfl rfl ?_
              refine WL.opN rfl rfl rfl rfl ?_
              refine WL.opG rfl rfl rfl (d_pick rfl rfl ?_)
              refine WL.op rfl (d_pick rfl rfl ?_)
              refine WL.done (X.then_code ?_)
              refine W.pick [68, 5, 3, 2, 1] (Γ' := [(68, .bool false), (5, .pointer (some ⟨w8.heap.size, 0, none⟩)), (3, .int .i64 0), (2, .pointer (some ⟨w1.heap.size, 0, none⟩)), (1, .pointer (some ⟨w.heap.size, 0, none⟩))]) rfl ?_
              refine W.iff rfl ?_
              refine W.skip (X.then_code ?_)
              refine W.seq ?_
              refine W.seq ?_
              have hmid : ¬ (tot (r.nums.getD 0 0) ≠ r.nums.length ∨ (0 < r.text.size ∧ cT (r.nums.getD 0 0) = false)) := fun h => h.elim (fun h => by omega) (fun h => by have h1 := h.1; have h2 := h.2; first | omega | (rw [h2] at c36; exact c36 rfl))
              refine W.region ?_
              refine WL.op rfl (d_fieldAddrB fld53_1 rfl rfl ?_)
              refine WL.op rfl (d_loadB Try.underlying9 rfl rfl (H10.blk 0 rfl) rfl ?_)
              refine WL.op rfl (d_lenStr Try.underlying9 rfl ?_)
              refine WL.op rfl (d_cmp (decide (((r.text.size : Nat) : Int) > (1048576 : Int))) rfl rfl rfl ?_)
              refine WL.done (X.then_code ?_)
              refine W.ite (p := ((r.text.size : Nat) : Int) > (1048576 : Int)) rfl (fun c39 => ?_) (fun c39 => ?_)
              · skip
                refine W.seq ?_
                refine W.region ?_
                refine WL.op rfl (d_build (cs := #[.int .i64 0, .int .i64 0, .int .i64 0, .int .i64 0, .string ⟨#[]⟩]) rfl (by kernel_rfl) ?_)
                refine WL.op0 (d_storeAB (us := [.int .i64 0, .int .i64 0, .int .i64 0, .int .i64 0, .string ⟨#[]⟩]) (cs' := #[.int .i64 0, .int .i64 0, .int .i64 0, .int .i64 0, .string ⟨#[]⟩]) sz55 rfl rfl rfl rfl (H10.blk 1 rfl) rfl rfl fun w19 u17 => ?_)
                have H19 : UpG w [] w19 [[blk w.heap.size #[.slice ra r.nums.length rc, .string r.text] 53], [blk w1.heap.size #[.int .i64 0, .int .i64 0, .int .i64 0, .int .i64 0, .string ⟨#[]⟩] 55], [blk w6.heap.size #[.bool (cS (r.nums.getD 0 0)), .bool (cA (r.nums.getD 0 0)), .bool (cL (r.nums.getD 0 0)), .bool (cT (r.nums.getD 0 0))] 93], [blk w8.heap.size #[.int .i64 v0, .int .i64 v1, .int .i64 v2] 95]] := H10.on 1 rfl u17
                refine WL.op rfl (d_assign rfl ?_)
                refine WL.done (X.then_code ?_)
                refine W.ret (X.then_ret (X.retR2 rfl (rv_cellA [.int .i64 0, .int .i64 0, .int .i64 0, .int .i64 0, .string ⟨#[]⟩] Try.underlying55 rfl sz55 rfl (H19.blk 1 rfl) rfl rfl) (rv_tmp rfl) ?_))
                have e : ofR r = (op0, 4) := by unfold ofR; rw [if_neg hno, if_neg hmid, if_pos (by omega)]
                rw [e]
                exact ⟨(by rfl), H19.noneL⟩
              · skip
                refine W.skip (X.then_code ?_)
                refine W.seq ?_
                refine W.regionD mixed (by kernel_rfl) fun hok2 w20 k2 => ?_
                have H20 : UpG w [] w20 [[blk w.heap.size #[.slice ra r.nums.length rc, .string r.text] 53], [blk w1.heap.size #[.int .i64 0, .int .i64 0, .int .i64 0, .int .i64 0, .string ⟨#[]⟩] 55], [blk w6.heap.size #[.bool (cS (r.nums.getD 0 0)), .bool (cA (r.nums.getD 0 0)), .bool (cL (r.nums.getD 0 0)), .bool (cT (r.nums.getD 0 0))] 93], [blk w8.heap.size #[.int .i64 v0, .int .i64 v1, .int .i64 v2] 95]] := H10.kept k2
                refine WD.take hok2 0 (.pointer (some ⟨w.heap.size, 0, none⟩)) (fun _ => True) rfl rfl rfl rfl rfl trivial (.inl ⟨rfl, fun _ _ => d_fieldAddrB fld53_0 rfl rfl ⟨rfl, rfl⟩⟩) ?_
                refine WD.take hok2 1 (.slice ra r.nums.length rc) (fun w' => w'.heap[w.heap.size]? = some (.cells #[.slice ra r.nums.length rc, .string r.text] 53 (0, 0))) rfl rfl rfl rfl rfl (H20.blk 0 rfl) (.inl ⟨rfl, fun _ hC => d_loadB Try.underlying51 rfl rfl hC rfl ⟨rfl, rfl⟩⟩) ?_
                refine WD.take hok2 2 (elemPtr (.slice ra r.nums.length rc) 0) (fun w' => RdT (tyI .i64) w' (.slice ra r.nums.length rc) r.nums) rfl rfl rfl rfl rfl (rr.at H20) (.inl ⟨rfl, fun _ hC => t_addr1 0 (T := (tyI .i64)) rfl Try.underlying51 sz3 rfl rfl hC rfl (by omega) ⟨rfl, rfl⟩⟩) ?_
                refine WD.take hok2 3 (.int .i64 (r.nums.getD 0 0)) (fun w' => RdT (tyI .i64) w' (.slice ra r.nums.length rc) r.nums) rfl rfl rfl rfl rfl (rr.at H20) (.inl ⟨rfl, fun _ hC => t_load1 0 0 (T := (tyI .i64)) rfl Try.underlying3 rfl rfl hC (by omega) rfl ⟨rfl, rfl⟩⟩) ?_
                refine WD.take hok2 4 (.pointer (some ⟨w8.heap.size, 0, none⟩)) (fun _ => True) rfl rfl rfl rfl rfl trivial (.inl ⟨rfl, fun _ _ => d_idxAddrArr Try.underlying95 sz3 rfl rfl (by omega) (by omega) ⟨rfl, rfl⟩⟩) ?_
                refine WD.take hok2 5 (.int .i64 v0) (fun w' => w'.heap[w8.heap.size]? = some (.cells #[.int .i64 v0, .int .i64 v1, .int .i64 v2] 95 (0, 0))) rfl rfl rfl rfl rfl (H20.blk 3 rfl) (.inl ⟨rfl, fun _ hC => d_loadB Try.underlying3 rfl rfl hC rfl ⟨rfl, rfl⟩⟩) ?_
                refine WD.take hok2 6 (.pointer (some ⟨w8.heap.size, 1, none⟩)) (fun _ => True) rfl rfl rfl rfl rfl trivial (.inl ⟨rfl, fun _ _ => d_idxAddrArr Try.underlying95 sz3 rfl rfl (by omega) (by omega) ⟨rfl, rfl⟩⟩) ?_
                refine WD.take hok2 7 (.int .i64 v1) (fun w' => w'.heap[w8.heap.size]? = some (.cells #[.int .i64 v0, .int .i64 v1, .int .i64 v2] 95 (0, 0))) rfl rfl rfl rfl rfl (H20.blk 3 rfl) (.inl ⟨rfl, fun _ hC => d_loadB Try.underlying3 rfl rfl hC rfl ⟨rfl, rfl⟩⟩) ?_
                refine WD.take hok2 8 (.pointer (some ⟨w8.heap.size, 2, none⟩)) (fun _ => True) rfl rfl rfl rfl rfl trivial (.inl ⟨rfl, fun _ _ => d_idxAddrArr Try.underlying95 sz3 rfl rfl (by omega) (by omega) ⟨rfl, rfl⟩⟩) ?_
                refine WD.take hok2 9 (.int .i64 v2) (fun w' => w'.heap[w8.heap.size]? = some (.cells #[.int .i64 v0, .int .i64 v1, .int .i64 v2] 95 (0, 0))) rfl rfl rfl rfl rfl (H20.blk 3 rfl) (.inl ⟨rfl, fun _ hC => d_loadB Try.underlying3 rfl rfl hC rfl ⟨rfl, rfl⟩⟩) ?_
                refine WD.take hok2 10 (.pointer (some ⟨w.heap.size, 1, none⟩)) (fun _ => True) rfl rfl rfl rfl rfl trivial (.inl ⟨rfl, fun _ _ => d_fieldAddrB fld53_1 rfl rfl ⟨rfl, rfl⟩⟩) ?_
                refine WD.take hok2 11 (.string r.text) (fun w' => w'.heap[w.heap.size]? = some (.cells #[.slice ra r.nums.length rc, .string r.text] 53 (0, 0))) rfl rfl rfl rfl rfl (H20.blk 0 rfl) (.inl ⟨rfl, fun _ hC => d_loadB Try.underlying9 rfl rfl hC rfl ⟨rfl, rfl⟩⟩) ?_
                refine WD.take hok2 12 (.agg #[.int .i64 (r.nums.getD 0 0), .int .i64 v0, .int .i64 v1, .int .i64 v2, .string r.text]) (fun _ => True) rfl rfl rfl rfl rfl trivial (.inl ⟨rfl, fun _ _ => d_build (cs := #[.int .i64 (r.nums.getD 0 0), .int .i64 v0, .int .i64 v1, .int .i64 v2, .string r.text]) rfl (by kernel_rfl) ⟨rfl, rfl⟩⟩) ?_
                refine WD.loud hok2 13 rfl (⟨_, [], rfl, rfl, rfl, rfl, rfl, rfl, d_storeAB (us := [.int .i64 (r.nums.getD 0 0), .int .i64 v0, .int .i64 v1, .int .i64 v2, .string r.text]) (cs' := #[.int .i64 (r.nums.getD 0 0), .int .i64 v0, .int .i64 v1, .int .i64 v2, .string r.text]) sz55 rfl rfl rfl rfl (H20.blk 1 rfl) rfl rfl fun w21 u18 => ?_⟩)
                have H21 : UpG w [] w21 [[blk w.heap.size #[.slice ra r.nums.length rc, .string r.text] 53], [blk w1.heap.size #[.int .i64 (r.nums.getD 0 0), .int .i64 v0, .int .i64 v1, .int .i64 v2, .string r.text] 55], [blk w6.heap.size #[.bool (cS (r.nums.getD 0 0)), .bool (cA (r.nums.getD 0 0)), .bool (cL (r.nums.getD 0 0)), .bool (cT (r.nums.getD 0 0))] 93], [blk w8.heap.size #[.int .i64 v0, .int .i64 v1, .int .i64 v2] 95]] := H20.on 1 rfl u18
                refine ⟨trivial, ?_⟩
                refine WD.take hok2 14 (.int .i64 0) (fun _ => True) rfl rfl rfl rfl rfl trivial (.inl ⟨rfl, fun _ _ => d_assign rfl ⟨rfl, rfl⟩⟩) ?_
                refine WD.done hok2 rfl (X.then_code ?_)
                refine W.pick [3, 2] (Γ' := [(3, .int .i64 0), (2, .pointer (some ⟨w1.heap.size, 0, none⟩))]) rfl ?_
                refine W.ret (X.retR2 rfl (rv_cellA [.int .i64 (r.nums.getD 0 0), .int .i64 v0, .int .i64 v1, .int .i64 v2, .string r.text] Try.underlying55 rfl sz55 rfl (H21.blk 1 rfl) rfl rfl) (rv_tmp rfl) ?_)
                have e : ofR r = (⟨r.nums.getD 0 0, v0, v1, v2, r.text⟩, 0) := by unfold ofR; rw [if_neg hno, if_neg hmid, if_neg (by omega), h0, h1, h2]
                rw [e]
                exact ⟨(by rfl), H21.noneL⟩
end Go.Proofs.Ytkdcmklkggnblaa
