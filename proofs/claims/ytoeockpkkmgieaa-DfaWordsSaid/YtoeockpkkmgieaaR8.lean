/- Proved here: DfaWords return true at every input that their statements speak of, and leave what was handed in as it read; conditions: none beyond those of the statements. -/
import Derived.Test.YtoeockpkkmgieaaEl25
import Derived.Test.YtoeockpkkmgieaaOp2
import Derived.Test.YtoeockpkkmgieaaA10
namespace Go.Proofs.Ytoeockpkkmgieaa
open Go Go.Sx Go.ChangeShapes Go.WideShapes Go.ChangeAt Go.RowKit
set_option linter.unusedVariables false
namespace dfaWords
theorem own : ownKnob Try.prog.godebug = none := by kernel_rfl
theorem laidOut : laidOutB Try.prog = true := by kernel_rfl
set_option maxRecDepth 100000 in
theorem lifted (os : Os) (started : os.Started) (H : Type) (enc : TypeId × Value → H) :
    ReturnsInHanded {} Try.checked os 9 .any (Rows.dfaWordsSpec.pre6 enc Try.prog Try.f9 Rows.dfaWordsRow.domain false) (Rows.dfaWordsSpec.post enc Try.prog Try.f9 false true false false) := by
  refine returnsInHanded_of_change_sized (C := Try.checked) own started (by kernel_rfl) Try.func9
    (ChangeSpec.witness6 (enc := enc) (C := Try.checked) false ⟨#[], #[.string ByteArray.empty, .agg #[.int .i64 0, .int .i64 0], .agg #[.slice none 0 0, .int .i64 0, .int .i64 0, .slice none 0 0, .slice none 0 0, .slice none 0 0, .int .i64 0, .int .i64 0, .slice none 0 0, .slice none 0 0]], []⟩ 8 (by kernel_rfl) (by kernel_rfl) (by kernel_rfl) (by kernel_rfl)) ?_
  intro W base args ds gs before hval0 hW hcnd hsz0 _
  have hsz : (DataW.weightsEach Try.prog (Try.f9.params.toList ++ Rows.dfaWordsSpec.plain.varTypes Try.prog) (ds ++ gs)).all (· ≤ reachBytes) = true := hsz0
  clear hsz0
  have hval : ∀ (j : Nat) t v, Try.f9.params[j]? = some t → args[j]? = some v → Value.okWide Try.prog W .any base t v := hval0
  have hW' := hW
  obtain ⟨p, q, hA0, hV, rfl, hfz, hnd⟩ := hW
  have hA : DataW.TrodAll enc Try.prog W 0 (fun _ => true) true Try.f9.params.toList args.toList ds p := hA0
  rw [Try.params9] at hA hval hsz
  obtain ⟨v0, vs0, d0, ds0, p0, q0, hargs, rfl, rfl, h0, r0⟩ := trodAll_cons hA
  obtain ⟨v1, vs1, d1, ds1, p1, q1, rfl, rfl, rfl, h1, r1⟩ := trodAll_cons r0
  obtain ⟨v2, vs2, d2, ds2, p2, q2, rfl, rfl, rfl, h2, r2⟩ := trodAll_cons r1
  obtain ⟨rfl, rfl, rfl⟩ := trodAll_nil r2
  obtain rfl : args = #[v0, v1, v2] := by cases args; simp_all
  obtain ⟨rfl, rfl⟩ := trodVars_none hV
  obtain ⟨a0, rfl, rfl, rfl, y0⟩ := Go.ChangeMaps.open_string Try.underlying9 (hval 0 9 v0 rfl rfl) h0
  have sz0 : a0.size ≤ reachBytes := by have z := sized_string hsz (j := 0) (t := 9) rfl rfl; rw [Array.length_toList] at z; exact z
  have k1 := h1
  have lt1 : ∀ x ∈ p1, x.block < W.heap.size := by obtain ⟨m, hm⟩ := k1; exact DataW.trod_lt m _ _ _ hm
  obtain ⟨cs1, rfl, _⟩ := okWide_array Try.underlying54 (hval 1 54 v1 rfl rfl)
  obtain ⟨fuel1, hf1⟩ := h1
  obtain ⟨s1, e1, i1⟩ := (El.two (s := 1) Try.underlying54 (by kernel_rfl) rfl (by kernel_rfl) (El.int Try.underlying3)) _ _ _ hf1 (wt_arg hsz (j := 1) rfl rfl)
  obtain rfl : cs1 = #[.int .i64 s1.1, .int .i64 s1.2] := Array.toList_inj.1 e1
  obtain ⟨_, _, _, wa1, wb1⟩ := i1
  obtain ⟨x1, z1⟩ := s1
  simp only at wa1 wb1
  have k2 := h2
  have lt2 : ∀ x ∈ p2, x.block < W.heap.size := by obtain ⟨m, hm⟩ := k2; exact DataW.trod_lt m _ _ _ hm
  obtain ⟨cs2, rfl, _⟩ := okWide_array Try.underlying58 (hval 2 58 v2 rfl rfl)
  obtain ⟨fuel2, hf2⟩ := h2
  obtain ⟨s2, e2, i2⟩ := (El.two (s := 5) Try.underlying58 (by kernel_rfl) rfl (by kernel_rfl) el25) _ _ _ hf2 (wt_arg hsz (j := 2) rfl rfl)
  obtain rfl : cs2 = #[.slice s2.1.cls.a s2.1.cls.n s2.1.cls.c, .int .i64 s2.1.width, .int .i64 s2.1.start, .slice s2.1.next.a s2.1.next.n s2.1.next.c, .slice s2.1.acc.a s2.1.acc.n s2.1.acc.c, .slice s2.2.cls.a s2.2.cls.n s2.2.cls.c, .int .i64 s2.2.width, .int .i64 s2.2.start, .slice s2.2.next.a s2.2.next.n s2.2.next.c, .slice s2.2.acc.a s2.2.acc.n s2.2.acc.c] := Array.toList_inj.1 e2
  obtain ⟨_, _, _, ia2, ib2⟩ := i2
  obtain ⟨sa2, sb2⟩ := s2
  simp only at ia2 ib2
  obtain ⟨_, _, ⟨_, _, xca2, rca2, ⟨_, _, cpca2⟩, hca2⟩, ⟨_, _, wva2⟩, ⟨_, _, wta2⟩, ⟨_, _, xna2, rna2, ⟨_, _, cpna2⟩, hna2⟩, ⟨_, _, xaa2, raa2, ⟨_, _, cpaa2⟩, haa2⟩⟩ := ia2
  obtain ⟨⟨caa2, cna2, cca2⟩, wda2, sta2, ⟨naa2, nna2, nca2⟩, ⟨baa2, bna2, bca2⟩⟩ := sa2
  simp only at rca2 rna2 raa2 hca2 hna2 haa2 cpca2 cpna2 cpaa2 wva2 wta2
  subst hca2
  subst hna2
  subst haa2
  obtain ⟨_, _, ⟨_, _, xcb2, rcb2, ⟨_, _, cpcb2⟩, hcb2⟩, ⟨_, _, wvb2⟩, ⟨_, _, wtb2⟩, ⟨_, _, xnb2, rnb2, ⟨_, _, cpnb2⟩, hnb2⟩, ⟨_, _, xab2, rab2, ⟨_, _, cpab2⟩, hab2⟩⟩ := ib2
  obtain ⟨⟨cab2, cnb2, ccb2⟩, wdb2, stb2, ⟨nab2, nnb2, ncb2⟩, ⟨bab2, bnb2, bcb2⟩⟩ := sb2
  simp only at rcb2 rnb2 rab2 hcb2 hnb2 hab2 cpcb2 cpnb2 cpab2 wvb2 wtb2
  subst hcb2
  subst hnb2
  subst hab2
  clear hA0 hval0
  refine (dfaWords_any a0 x1 z1 ⟨xca2, wda2, sta2, xna2, xaa2⟩ caa2 naa2 baa2 cca2 nca2 bca2 ⟨xcb2, wdb2, stb2, xnb2, xab2⟩ cab2 nab2 bab2 ccb2 ncb2 bcb2 W rca2 rna2 raa2 rcb2 rnb2 rab2).mono fun e W' ⟨v, he, hv, hu⟩ => ?_
  subst he; subst hv
  have bel := below_of hu
  exact ⟨_, rfl, _, _, _, [], _, [], hW', trodAll_mk1 (shut_bool Try.underlying4 _), (trodAll_cons_mk (Go.ChangeMaps.shut_string Try.underlying9 y0) (trodAll_cons_mk (Below.trod laidOut (by kernel_rfl) (of_decide_eq_true (by kernel_rfl)) k1 bel lt1) (trodAll_cons_mk (Below.trod laidOut (by kernel_rfl) (of_decide_eq_true (by kernel_rfl)) k2 bel lt2) trodAll_mk0))), rfl, bel.frame _, fun h => by cases h⟩
theorem over : Rows.dfaWordsRow.holds Try.pinned (OpenSpec.ofChange Rows.dfaWordsSpec) :=
  OpenClaim.holds_of_wide 9 Try.f9 rfl rfl rfl rfl rfl rfl rfl ⟨rfl, rfl, rfl, rfl, rfl⟩ rfl rfl rfl rfl rfl (by kernel_rfl) Try.func9 (by kernel_rfl)
    (of_decide_eq_true (by kernel_rfl)) (by unfold Func.isWrapper; first | (rw [if_pos (by decide +kernel)]; kernel_rfl) | (rw [if_neg (by decide +kernel)]; exact ⟨rfl, rfl⟩))
    (fun os started H enc _ => lifted os started H enc)
end dfaWords
/-- The law. -/
theorem dfaWords_holds : Rows.DfaWordsSaid := dfaWords.over
end Go.Proofs.Ytoeockpkkmgieaa
