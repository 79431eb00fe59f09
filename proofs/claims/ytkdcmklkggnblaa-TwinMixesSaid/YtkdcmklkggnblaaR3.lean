/- Proved here: OpReads, OpWrites and OpNames return true at every input that their statements speak of, and leave what was handed in as it read; conditions: none beyond those of the statements. -/
import Derived.Test.YtkdcmklkggnblaaOp1
import Derived.Test.YtkdcmklkggnblaaT7
import Derived.Test.YtkdcmklkggnblaaRows
namespace Go.Proofs.Ytkdcmklkggnblaa
open Go Go.Sx Go.ChangeShapes Go.WideShapes Go.ChangeAt Go.RowKit
set_option linter.unusedVariables false
theorem el53 {H : Type} {enc : TypeId × Value → H} {W : World} : El enc Try.prog W 53 tyRawS (fun a d => ∃ ys, d = .agg ys ∧ (∃ y, ys[0]? = some y ∧ ∃ xs, RdT (tyI .i64) W (.slice a.nums.a a.nums.n a.nums.c) xs ∧ (DSl (fun n _ => (Lit.int .i64 n).wf = true) xs y ∧ xs.length * 8 ≤ reachBytes ∧ xs.length ≤ a.nums.c) ∧ a.nums.n = xs.length) ∧ (∃ y, ys[1]? = some y ∧ y = .lit (.string a.text.data.toList) ∧ a.text.size ≤ reachBytes)) := fun fuel cs x h hw0 => by
  obtain ⟨xs, n, rfl, hx, hl, hn, hf⟩ := DataW.trod_struct Try.underlying53 h
  have hw : Wt Try.prog 53 (.agg (xs.map (·.1))) := by have h9 := hw0; rw [hx] at h9; exact h9
  obtain ⟨a0, e0, y0⟩ := El.field (o := 0) (c := 1) (hf 0 _ rfl) (by rw [hn]; decide) Try.underlying53 rfl hw rfl (by kernel_rfl) (El.slice (T := tyI .i64) (b := 8) Try.underlying51 (by kernel_rfl) (by kernel_rfl) (El.int Try.underlying3))
  obtain ⟨a1, e1, y1⟩ := El.field (o := 1) (c := 1) (hf 1 _ rfl) (by rw [hn]; decide) Try.underlying53 rfl hw rfl (by kernel_rfl) (El.str Try.underlying9)
  exact ⟨⟨a0, a1⟩, (part_cons (o := 0) (c := 1) e0 (part_cons (o := 1) (c := 1) e1 (part_end (hl.trans (by kernel_rfl))))), _, congrArg Prod.fst hx, y0, y1⟩
theorem el55 {H : Type} {enc : TypeId × Value → H} {W : World} : El enc Try.prog W 55 tyOpD (fun a d => ∃ ys, d = .agg ys ∧ (∃ y, ys[0]? = some y ∧ (Lit.int .i64 a.kind).wf = true) ∧ (∃ y, ys[1]? = some y ∧ (Lit.int .i64 a.slot).wf = true) ∧ (∃ y, ys[2]? = some y ∧ (Lit.int .i64 a.at_).wf = true) ∧ (∃ y, ys[3]? = some y ∧ (Lit.int .i64 a.len).wf = true) ∧ (∃ y, ys[4]? = some y ∧ y = .lit (.string a.text.data.toList) ∧ a.text.size ≤ reachBytes)) := fun fuel cs x h hw0 => by
  obtain ⟨xs, n, rfl, hx, hl, hn, hf⟩ := DataW.trod_struct Try.underlying55 h
  have hw : Wt Try.prog 55 (.agg (xs.map (·.1))) := by have h9 := hw0; rw [hx] at h9; exact h9
  obtain ⟨a0, e0, y0⟩ := El.field (o := 0) (c := 1) (hf 0 _ rfl) (by rw [hn]; decide) Try.underlying55 rfl hw rfl (by kernel_rfl) (El.int Try.underlying3)
  obtain ⟨a1, e1, y1⟩ := El.field (o := 1) (c := 1) (hf 1 _ rfl) (by rw [hn]; decide) Try.underlying55 rfl hw rfl (by kernel_rfl) (El.int Try.underlying3)
  obtain ⟨a2, e2, y2⟩ := El.field (o := 2) (c := 1) (hf 2 _ rfl) (by rw [hn]; decide) Try.underlying55 rfl hw rfl (by kernel_rfl) (El.int Try.underlying3)
  obtain ⟨a3, e3, y3⟩ := El.field (o := 3) (c := 1) (hf 3 _ rfl) (by rw [hn]; decide) Try.underlying55 rfl hw rfl (by kernel_rfl) (El.int Try.underlying3)
  obtain ⟨a4, e4, y4⟩ := El.field (o := 4) (c := 1) (hf 4 _ rfl) (by rw [hn]; decide) Try.underlying55 rfl hw rfl (by kernel_rfl) (El.str Try.underlying9)
  exact ⟨⟨a0, a1, a2, a3, a4⟩, (part_cons (o := 0) (c := 1) e0 (part_cons (o := 1) (c := 1) e1 (part_cons (o := 2) (c := 1) e2 (part_cons (o := 3) (c := 1) e3 (part_cons (o := 4) (c := 1) e4 (part_end (hl.trans (by kernel_rfl)))))))), _, congrArg Prod.fst hx, y0, y1, y2, y3, y4⟩
namespace opReads
theorem own : ownKnob Try.prog.godebug = none := by kernel_rfl
theorem laidOut : laidOutB Try.prog = true := by kernel_rfl
set_option maxRecDepth 100000 in
theorem lifted (os : Os) (started : os.Started) (H : Type) (enc : TypeId × Value → H) :
    ReturnsInHanded {} Try.checked os 6 .any (Rows.opReadsSpec.pre6 enc Try.prog Try.f6 Rows.opReadsRow.domain false) (Rows.opReadsSpec.post enc Try.prog Try.f6 false true false false) := by
  refine returnsInHanded_of_change_sized (C := Try.checked) own started (by kernel_rfl) Try.func6
    (ChangeSpec.witness6 (enc := enc) (C := Try.checked) false ⟨#[], #[.agg #[.slice none 0 0, .string ByteArray.empty]], []⟩ 8 (by kernel_rfl) (by kernel_rfl) (by kernel_rfl) (by kernel_rfl)) ?_
  intro W base args ds gs before hval0 hW hcnd hsz0 _
  have hsz : (DataW.weightsEach Try.prog (Try.f6.params.toList ++ Rows.opReadsSpec.plain.varTypes Try.prog) (ds ++ gs)).all (· ≤ reachBytes) = true := hsz0
  clear hsz0
  have hval : ∀ (j : Nat) t v, Try.f6.params[j]? = some t → args[j]? = some v → Value.okWide Try.prog W .any base t v := hval0
  have hW' := hW
  obtain ⟨p, q, hA0, hV, rfl, hfz, hnd⟩ := hW
  have hA : DataW.TrodAll enc Try.prog W 0 (fun _ => true) true Try.f6.params.toList args.toList ds p := hA0
  rw [Try.params6] at hA hval hsz
  obtain ⟨v0, vs0, d0, ds0, p0, q0, hargs, rfl, rfl, h0, r0⟩ := trodAll_cons hA
  obtain ⟨rfl, rfl, rfl⟩ := trodAll_nil r0
  obtain rfl : args = #[v0] := by cases args; simp_all
  obtain ⟨rfl, rfl⟩ := trodVars_none hV
  have k0 := h0
  have lt0 : ∀ x ∈ p0, x.block < W.heap.size := by obtain ⟨m, hm⟩ := k0; exact DataW.trod_lt m _ _ _ hm
  obtain ⟨cs0, rfl, _⟩ := okWide_struct Try.underlying53 (hval 0 53 v0 rfl rfl)
  obtain ⟨fuel0, hf0⟩ := h0
  obtain ⟨s0, e0, i0⟩ := el53 _ _ _ hf0 (wt_arg hsz (j := 0) rfl rfl)
  obtain rfl : cs0 = #[.slice s0.nums.a s0.nums.n s0.nums.c, .string s0.text] := Array.toList_inj.1 e0
  obtain ⟨ys0, _, ⟨y0, _, xs0, rd0, ⟨dd0, sz0, cp0⟩, hn0⟩, _⟩ := i0
  obtain ⟨⟨sa0, sn0, sc0⟩, st0⟩ := s0
  simp only at rd0 cp0 hn0
  subst hn0
  clear hA0 hval0
  refine (opReads_any ⟨xs0, st0⟩ sa0 sc0 W rd0 cp0).mono fun e W' ⟨v, he, hv, hu⟩ => ?_
  subst he; subst hv
  have bel := below_of hu
  exact ⟨_, rfl, _, _, _, [], _, [], hW', trodAll_mk1 (shut_bool Try.underlying4 _), (trodAll_cons_mk (Below.trod laidOut (by kernel_rfl) (of_decide_eq_true (by kernel_rfl)) k0 bel lt0) trodAll_mk0), rfl, bel.frame _, fun h => by cases h⟩
theorem over : Rows.opReadsRow.holds Try.pinned (OpenSpec.ofChange Rows.opReadsSpec) :=
  OpenClaim.holds_of_wide 6 Try.f6 rfl rfl rfl rfl rfl rfl rfl ⟨rfl, rfl, rfl, rfl, rfl⟩ rfl rfl rfl rfl rfl (by kernel_rfl) Try.func6 (by kernel_rfl)
    (of_decide_eq_true (by kernel_rfl)) (by unfold Func.isWrapper; first | (rw [if_pos (by decide +kernel)]; kernel_rfl) | (rw [if_neg (by decide +kernel)]; exact ⟨rfl, rfl⟩))
    (fun os started H enc _ => lifted os started H enc)
end opReads
/-- The law. -/
theorem opReads_holds : Rows.OpReadsSaid := opReads.over
namespace opWrites
theorem own : ownKnob Try.prog.godebug = none := by kernel_rfl
theorem laidOut : laidOutB Try.prog = true := by kernel_rfl
set_option maxRecDepth 100000 in
theorem lifted (os : Os) (started : os.Started) (H : Type) (enc : TypeId × Value → H) :
    ReturnsInHanded {} Try.checked os 7 .any (Rows.opWritesSpec.pre6 enc Try.prog Try.f7 Rows.opWritesRow.domain false) (Rows.opWritesSpec.post enc Try.prog Try.f7 false true false false) := by
  refine returnsInHanded_of_change_sized (C := Try.checked) own started (by kernel_rfl) Try.func7
    (ChangeSpec.witness6 (enc := enc) (C := Try.checked) false ⟨#[], #[.agg #[.int .i64 0, .int .i64 0, .int .i64 0, .int .i64 0, .string ByteArray.empty]], []⟩ 8 (by kernel_rfl) (by kernel_rfl) (by kernel_rfl) (by kernel_rfl)) ?_
  intro W base args ds gs before hval0 hW hcnd hsz0 _
  have hsz : (DataW.weightsEach Try.prog (Try.f7.params.toList ++ Rows.opWritesSpec.plain.varTypes Try.prog) (ds ++ gs)).all (· ≤ reachBytes) = true := hsz0
  clear hsz0
  have hval : ∀ (j : Nat) t v, Try.f7.params[j]? = some t → args[j]? = some v → Value.okWide Try.prog W .any base t v := hval0
  have hW' := hW
  obtain ⟨p, q, hA0, hV, rfl, hfz, hnd⟩ := hW
  have hA : DataW.TrodAll enc Try.prog W 0 (fun _ => true) true Try.f7.params.toList args.toList ds p := hA0
  rw [Try.params7] at hA hval hsz
  obtain ⟨v0, vs0, d0, ds0, p0, q0, hargs, rfl, rfl, h0, r0⟩ := trodAll_cons hA
  obtain ⟨rfl, rfl, rfl⟩ := trodAll_nil r0
  obtain rfl : args = #[v0] := by cases args; simp_all
  obtain ⟨rfl, rfl⟩ := trodVars_none hV
  have k0 := h0
  have lt0 : ∀ x ∈ p0, x.block < W.heap.size := by obtain ⟨m, hm⟩ := k0; exact DataW.trod_lt m _ _ _ hm
  obtain ⟨cs0, rfl, _⟩ := okWide_struct Try.underlying55 (hval 0 55 v0 rfl rfl)
  obtain ⟨fuel0, hf0⟩ := h0
  obtain ⟨s0, e0, i0⟩ := el55 _ _ _ hf0 (wt_arg hsz (j := 0) rfl rfl)
  obtain rfl : cs0 = #[.int .i64 s0.kind, .int .i64 s0.slot, .int .i64 s0.at_, .int .i64 s0.len, .string s0.text] := Array.toList_inj.1 e0
  clear hA0 hval0
  refine (opWrites_any s0 W).mono fun e W' ⟨v, he, hv, hu⟩ => ?_
  subst he; subst hv
  have bel := below_of hu
  exact ⟨_, rfl, _, _, _, [], _, [], hW', trodAll_mk1 (shut_bool Try.underlying4 _), (trodAll_cons_mk (Below.trod laidOut (by kernel_rfl) (of_decide_eq_true (by kernel_rfl)) k0 bel lt0) trodAll_mk0), rfl, bel.frame _, fun h => by cases h⟩
theorem over : Rows.opWritesRow.holds Try.pinned (OpenSpec.ofChange Rows.opWritesSpec) :=
  OpenClaim.holds_of_wide 7 Try.f7 rfl rfl rfl rfl rfl rfl rfl ⟨rfl, rfl, rfl, rfl, rfl⟩ rfl rfl rfl rfl rfl (by kernel_rfl) Try.func7 (by kernel_rfl)
    (of_decide_eq_true (by kernel_rfl)) (by unfold Func.isWrapper; first | (rw [if_pos (by decide +kernel)]; kernel_rfl) | (rw [if_neg (by decide +kernel)]; exact ⟨rfl, rfl⟩))
    (fun os started H enc _ => lifted os started H enc)
end opWrites
/-- The law. -/
theorem opWrites_holds : Rows.OpWritesSaid := opWrites.over
namespace opNames
theorem own : ownKnob Try.prog.godebug = none := by kernel_rfl
set_option maxRecDepth 100000 in
theorem lifted (os : Os) (started : os.Started) (H : Type) (enc : TypeId × Value → H) :
    ReturnsInHanded {} Try.checked os 8 .any (Rows.opNamesSpec.pre6 enc Try.prog Try.f8 Rows.opNamesRow.domain false) (Rows.opNamesSpec.post enc Try.prog Try.f8 false true false false) := by
  refine returnsInHanded_of_change_sized (C := Try.checked) own started (by kernel_rfl) Try.func8
    (ChangeSpec.witness6 (enc := enc) (C := Try.checked) false ⟨#[], #[.int .i64 0, .string ByteArray.empty], []⟩ 8 (by kernel_rfl) (by kernel_rfl) (by kernel_rfl) (by kernel_rfl)) ?_
  intro W base args ds gs before hval0 hW hcnd hsz0 _
  have hsz : (DataW.weightsEach Try.prog (Try.f8.params.toList ++ Rows.opNamesSpec.plain.varTypes Try.prog) (ds ++ gs)).all (· ≤ reachBytes) = true := hsz0
  clear hsz0
  have hval : ∀ (j : Nat) t v, Try.f8.params[j]? = some t → args[j]? = some v → Value.okWide Try.prog W .any base t v := hval0
  have hW' := hW
  obtain ⟨p, q, hA0, hV, rfl, hfz, hnd⟩ := hW
  have hA : DataW.TrodAll enc Try.prog W 0 (fun _ => true) true Try.f8.params.toList args.toList ds p := hA0
  rw [Try.params8] at hA hval hsz
  obtain ⟨v0, vs0, d0, ds0, p0, q0, hargs, rfl, rfl, h0, r0⟩ := trodAll_cons hA
  obtain ⟨v1, vs1, d1, ds1, p1, q1, rfl, rfl, rfl, h1, r1⟩ := trodAll_cons r0
  obtain ⟨rfl, rfl, rfl⟩ := trodAll_nil r1
  obtain rfl : args = #[v0, v1] := by cases args; simp_all
  obtain ⟨rfl, rfl⟩ := trodVars_none hV
  obtain ⟨a0, rfl, rfl, rfl, w0⟩ := open_int Try.underlying3 (hval 0 3 v0 rfl rfl) h0
  obtain ⟨a1, rfl, rfl, rfl, y1⟩ := Go.ChangeMaps.open_string Try.underlying9 (hval 1 9 v1 rfl rfl) h1
  have sz1 : a1.size ≤ reachBytes := by have z := sized_string hsz (j := 1) (t := 9) rfl rfl; rw [Array.length_toList] at z; exact z
  clear hA0 hval0
  refine (opNames_any a0 a1 W).mono fun e W' ⟨v, he, hv, hu⟩ => ?_
  subst he; subst hv
  have bel := below_of hu
  exact ⟨_, rfl, _, _, _, [], _, [], hW', trodAll_mk1 (shut_bool Try.underlying4 _), (trodAll_cons_mk (shut_int Try.underlying3 w0) (trodAll_cons_mk (Go.ChangeMaps.shut_string Try.underlying9 y1) trodAll_mk0)), rfl, bel.frame _, fun h => by cases h⟩
theorem over : Rows.opNamesRow.holds Try.pinned (OpenSpec.ofChange Rows.opNamesSpec) :=
  OpenClaim.holds_of_wide 8 Try.f8 rfl rfl rfl rfl rfl rfl rfl ⟨rfl, rfl, rfl, rfl, rfl⟩ rfl rfl rfl rfl rfl (by kernel_rfl) Try.func8 (by kernel_rfl)
    (of_decide_eq_true (by kernel_rfl)) (by unfold Func.isWrapper; first | (rw [if_pos (by decide +kernel)]; kernel_rfl) | (rw [if_neg (by decide +kernel)]; exact ⟨rfl, rfl⟩))
    (fun os started H enc _ => lifted os started H enc)
end opNames
/-- The law. -/
theorem opNames_holds : Rows.OpNamesSaid := opNames.over
end Go.Proofs.Ytkdcmklkggnblaa
