/- Proved here: EqualLeast return true at every input that their statements speak of, and leave what was handed in as it read; conditions: none beyond those of the statements. -/
import Derived.Test.YtoeockpkkmgieaaEqualLeastB1
import Derived.Test.YtoeockpkkmgieaaEqualLeastB7
namespace Go.Proofs.Ytoeockpkkmgieaa
open Go Go.Sx Go.ChangeShapes Go.WideShapes Go.ChangeAt Go.RowKit
set_option linter.unusedVariables false
namespace equalLeast
theorem own : ownKnob Try.prog.godebug = none := by kernel_rfl
theorem laidOut : laidOutB Try.prog = true := by kernel_rfl
set_option maxRecDepth 100000 in
theorem lifted (os : Os) (started : os.Started) (H : Type) (enc : TypeId × Value → H) :
    ReturnsInHanded {} Try.checked os 15 .any (Rows.equalLeastSpec.pre6 enc Try.prog Try.f15 Rows.equalLeastRow.domain false) (Rows.equalLeastSpec.post enc Try.prog Try.f15 false true false false) := by
  refine returnsInHanded_of_change_sized (C := Try.checked) own started (by kernel_rfl) Try.func15
    (ChangeSpec.witness6 (enc := enc) (C := Try.checked) false ⟨#[], #[.agg #[.slice none 0 0, .int .i64 0, .int .i64 0, .slice none 0 0, .slice none 0 0], .agg #[.slice none 0 0, .int .i64 0, .int .i64 0, .slice none 0 0, .slice none 0 0], .slice none 0 0], []⟩ 8 (by kernel_rfl) (by kernel_rfl) (by kernel_rfl) (by kernel_rfl)) ?_
  intro W base args ds gs before hval0 hW hcnd hsz0 _
  have hsz : (DataW.weightsEach Try.prog (Try.f15.params.toList ++ Rows.equalLeastSpec.plain.varTypes Try.prog) (ds ++ gs)).all (· ≤ reachBytes) = true := hsz0
  clear hsz0
  have hval : ∀ (j : Nat) t v, Try.f15.params[j]? = some t → args[j]? = some v → Value.okWide Try.prog W .any base t v := hval0
  have hW' := hW
  obtain ⟨p, q, hA0, hV, rfl, hfz, hnd⟩ := hW
  have hA : DataW.TrodAll enc Try.prog W 0 (fun _ => true) true Try.f15.params.toList args.toList ds p := hA0
  rw [Try.params15] at hA hval hsz
  obtain ⟨v0, vs0, d0, ds0, p0, q0, hargs, rfl, rfl, h0, r0⟩ := trodAll_cons hA
  obtain ⟨v1, vs1, d1, ds1, p1, q1, rfl, rfl, rfl, h1, r1⟩ := trodAll_cons r0
  obtain ⟨v2, vs2, d2, ds2, p2, q2, rfl, rfl, rfl, h2, r2⟩ := trodAll_cons r1
  obtain ⟨rfl, rfl, rfl⟩ := trodAll_nil r2
  obtain rfl : args = #[v0, v1, v2] := by cases args; simp_all
  obtain ⟨rfl, rfl⟩ := trodVars_none hV
  have k0 := h0
  have lt0 : ∀ x ∈ p0, x.block < W.heap.size := by obtain ⟨m, hm⟩ := k0; exact DataW.trod_lt m _ _ _ hm
  obtain ⟨cs0, rfl, _⟩ := okWide_struct Try.underlying25 (hval 0 25 v0 rfl rfl)
  obtain ⟨fuel0, hf0⟩ := h0
  obtain ⟨s0, e0, i0⟩ := el25 _ _ _ hf0 (wt_arg hsz (j := 0) rfl rfl)
  obtain rfl : cs0 = #[.slice s0.cls.a s0.cls.n s0.cls.c, .int .i64 s0.width, .int .i64 s0.start, .slice s0.next.a s0.next.n s0.next.c, .slice s0.acc.a s0.acc.n s0.acc.c] := Array.toList_inj.1 e0
  obtain ⟨ys0, _, ⟨_, _, xc0, rc0, ⟨_, _, cpc0⟩, hc0⟩, ⟨_, _, wv0⟩, ⟨_, _, wt0⟩, ⟨_, _, xn0, rn0, ⟨_, _, cpn0⟩, hn0⟩, ⟨_, _, xa0, ra0, ⟨_, _, cpa0⟩, ha0⟩⟩ := i0
  obtain ⟨⟨ca0, cn0, cc0⟩, wd0, st0, ⟨na0, nn0, nc0⟩, ⟨ba0, bn0, bc0⟩⟩ := s0
  simp only at rc0 rn0 ra0 hc0 hn0 ha0 cpc0 cpn0 cpa0 wv0 wt0
  subst hc0
  subst hn0
  subst ha0
  have k1 := h1
  have lt1 : ∀ x ∈ p1, x.block < W.heap.size := by obtain ⟨m, hm⟩ := k1; exact DataW.trod_lt m _ _ _ hm
  obtain ⟨cs1, rfl, _⟩ := okWide_struct Try.underlying25 (hval 1 25 v1 rfl rfl)
  obtain ⟨fuel1, hf1⟩ := h1
  obtain ⟨s1, e1, i1⟩ := el25 _ _ _ hf1 (wt_arg hsz (j := 1) rfl rfl)
  obtain rfl : cs1 = #[.slice s1.cls.a s1.cls.n s1.cls.c, .int .i64 s1.width, .int .i64 s1.start, .slice s1.next.a s1.next.n s1.next.c, .slice s1.acc.a s1.acc.n s1.acc.c] := Array.toList_inj.1 e1
  obtain ⟨ys1, _, ⟨_, _, xc1, rc1, ⟨_, _, cpc1⟩, hc1⟩, ⟨_, _, wv1⟩, ⟨_, _, wt1⟩, ⟨_, _, xn1, rn1, ⟨_, _, cpn1⟩, hn1⟩, ⟨_, _, xa1, ra1, ⟨_, _, cpa1⟩, ha1⟩⟩ := i1
  obtain ⟨⟨ca1, cn1, cc1⟩, wd1, st1, ⟨na1, nn1, nc1⟩, ⟨ba1, bn1, bc1⟩⟩ := s1
  simp only at rc1 rn1 ra1 hc1 hn1 ha1 cpc1 cpn1 cpa1 wv1 wt1
  subst hc1
  subst hn1
  subst ha1
  obtain ⟨a2, len2, c2, rfl⟩ := okWide_slice Try.underlying22 (hval 2 22 v2 rfl rfl)
  have k2 := h2
  have lt2 : ∀ x ∈ p2, x.block < W.heap.size := by obtain ⟨m, hm⟩ := k2; exact DataW.trod_lt m _ _ _ hm
  obtain ⟨l2, rfl, rd2, dd2, sz2, cp2⟩ := trod_slice_arg (T := (tyI .i64)) (b := 8) (El.slice Try.underlying22 (by kernel_rfl) (by kernel_rfl) (El.int Try.underlying3)) h2 (wt_arg hsz (j := 2) rfl rfl)
  clear hA0 hval0
  refine (equalLeast_any ⟨xc0, wd0, st0, xn0, xa0⟩ ca0 na0 ba0 cc0 nc0 bc0 ⟨xc1, wd1, st1, xn1, xa1⟩ ca1 na1 ba1 cc1 nc1 bc1 a2 l2 c2 W rc0 rn0 ra0 rc1 rn1 ra1 rd2 cp2).mono fun e W' ⟨v, he, hv, hu⟩ => ?_
  subst he; subst hv
  have bel := below_of hu
  exact ⟨_, rfl, _, _, _, [], _, [], hW', trodAll_mk1 (shut_bool Try.underlying4 _), (trodAll_cons_mk (Below.trod laidOut (by kernel_rfl) (of_decide_eq_true (by kernel_rfl)) k0 bel lt0) (trodAll_cons_mk (Below.trod laidOut (by kernel_rfl) (of_decide_eq_true (by kernel_rfl)) k1 bel lt1) (trodAll_cons_mk (Below.trod laidOut (by kernel_rfl) (of_decide_eq_true (by kernel_rfl)) k2 bel lt2) trodAll_mk0))), rfl, bel.frame _, fun h => by cases h⟩
theorem over : Rows.equalLeastRow.holds Try.pinned (OpenSpec.ofChange Rows.equalLeastSpec) :=
  OpenClaim.holds_of_wide 15 Try.f15 rfl rfl rfl rfl rfl rfl rfl ⟨rfl, rfl, rfl, rfl, rfl⟩ rfl rfl rfl rfl rfl (by kernel_rfl) Try.func15 (by kernel_rfl)
    (of_decide_eq_true (by kernel_rfl)) (by unfold Func.isWrapper; first | (rw [if_pos (by decide +kernel)]; kernel_rfl) | (rw [if_neg (by decide +kernel)]; exact ⟨rfl, rfl⟩))
    (fun os started H enc _ => lifted os started H enc)
end equalLeast
/-- The law. -/
theorem equalLeast_holds : Rows.EqualLeastSaid := equalLeast.over
end Go.Proofs.Ytoeockpkkmgieaa

