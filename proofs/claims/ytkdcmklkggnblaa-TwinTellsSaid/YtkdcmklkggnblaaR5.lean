/- Proved here: TwinTells return true at every input that their statements speak of, and leave what was handed in as it read; conditions: none beyond those of the statements. -/
import Derived.Test.YtkdcmklkggnblaaOp1
import Derived.Test.YtkdcmklkggnblaaT9
import Derived.Test.YtkdcmklkggnblaaRows
namespace Go.Proofs.Ytkdcmklkggnblaa
open Go Go.Sx Go.ChangeShapes Go.WideShapes Go.ChangeAt Go.RowKit
set_option linter.unusedVariables false
theorem el102 {H : Type} {enc : TypeId × Value → H} {W : World} : El enc Try.prog W 102 tyAnsS (fun a d => ∃ ys, d = .agg ys ∧ (∃ y, ys[0]? = some y ∧ (Lit.int .i64 a.kind).wf = true) ∧ (∃ y, ys[1]? = some y ∧ (Lit.int .i64 a.err).wf = true) ∧ (∃ y, ys[2]? = some y ∧ ∃ xs, RdT (tyI .i64) W (.slice a.nums.a a.nums.n a.nums.c) xs ∧ (DSl (fun n _ => (Lit.int .i64 n).wf = true) xs y ∧ xs.length * 8 ≤ reachBytes ∧ xs.length ≤ a.nums.c) ∧ a.nums.n = xs.length) ∧ (∃ y, ys[3]? = some y ∧ y = .lit (.string a.text.data.toList) ∧ a.text.size ≤ reachBytes)) := fun fuel cs x h hw0 => by
  obtain ⟨xs, n, rfl, hx, hl, hn, hf⟩ := DataW.trod_struct Try.underlying102 h
  have hw : Wt Try.prog 102 (.agg (xs.map (·.1))) := by have h9 := hw0; rw [hx] at h9; exact h9
  obtain ⟨a0, e0, y0⟩ := El.field (o := 0) (c := 1) (hf 0 _ rfl) (by rw [hn]; decide) Try.underlying102 rfl hw rfl (by kernel_rfl) (El.int Try.underlying3)
  obtain ⟨a1, e1, y1⟩ := El.field (o := 1) (c := 1) (hf 1 _ rfl) (by rw [hn]; decide) Try.underlying102 rfl hw rfl (by kernel_rfl) (El.int Try.underlying37)
  obtain ⟨a2, e2, y2⟩ := El.field (o := 2) (c := 1) (hf 2 _ rfl) (by rw [hn]; decide) Try.underlying102 rfl hw rfl (by kernel_rfl) (El.slice (T := tyI .i64) (b := 8) Try.underlying51 (by kernel_rfl) (by kernel_rfl) (El.int Try.underlying3))
  obtain ⟨a3, e3, y3⟩ := El.field (o := 3) (c := 1) (hf 3 _ rfl) (by rw [hn]; decide) Try.underlying102 rfl hw rfl (by kernel_rfl) (El.str Try.underlying9)
  exact ⟨⟨a0, a1, a2, a3⟩, (part_cons (o := 0) (c := 1) e0 (part_cons (o := 1) (c := 1) e1 (part_cons (o := 2) (c := 1) e2 (part_cons (o := 3) (c := 1) e3 (part_end (hl.trans (by kernel_rfl))))))), _, congrArg Prod.fst hx, y0, y1, y2, y3⟩
theorem el102P {H : Type} {enc : TypeId × Value → H} {W : World} : El enc Try.prog W 102 tyAnsP (fun p _ => RdT (tyI .i64) W (.slice p.a p.d.nums.length p.c) p.d.nums) := fun fuel cs x h hw => by
  obtain ⟨⟨sk, se, ⟨sa, sn, sc⟩, st⟩, e, ys, _, _, _, ⟨y0, _, xs, rd, ⟨_, sz, _⟩, hn⟩, _⟩ := el102 fuel cs x h hw
  simp only at rd hn
  subst hn
  exact ⟨⟨sa, sc, ⟨sk, se, xs, st⟩⟩, e, rd⟩
namespace twinTells
theorem own : ownKnob Try.prog.godebug = none := by kernel_rfl
theorem laidOut : laidOutB Try.prog = true := by kernel_rfl
set_option maxRecDepth 100000 in
theorem lifted (os : Os) (started : os.Started) (H : Type) (enc : TypeId × Value → H) :
    ReturnsInHanded {} Try.checked os 10 .any (Rows.twinTellsSpec.pre6 enc Try.prog Try.f10 Rows.twinTellsRow.domain false) (Rows.twinTellsSpec.post enc Try.prog Try.f10 false true false false) := by
  refine returnsInHanded_of_change_sized (C := Try.checked) own started (by kernel_rfl) Try.func10
    (ChangeSpec.witness6 (enc := enc) (C := Try.checked) false ⟨#[], #[.slice none 0 0, .slice none 0 0], []⟩ 8 (by kernel_rfl) (by kernel_rfl) (by kernel_rfl) (by kernel_rfl)) ?_
  intro W base args ds gs before hval0 hW hcnd hsz0 _
  have hsz : (DataW.weightsEach Try.prog (Try.f10.params.toList ++ Rows.twinTellsSpec.plain.varTypes Try.prog) (ds ++ gs)).all (· ≤ reachBytes) = true := hsz0
  clear hsz0
  have hval : ∀ (j : Nat) t v, Try.f10.params[j]? = some t → args[j]? = some v → Value.okWide Try.prog W .any base t v := hval0
  have hW' := hW
  obtain ⟨p, q, hA0, hV, rfl, hfz, hnd⟩ := hW
  have hA : DataW.TrodAll enc Try.prog W 0 (fun _ => true) true Try.f10.params.toList args.toList ds p := hA0
  rw [Try.params10] at hA hval hsz
  obtain ⟨v0, vs0, d0, ds0, p0, q0, hargs, rfl, rfl, h0, r0⟩ := trodAll_cons hA
  obtain ⟨v1, vs1, d1, ds1, p1, q1, rfl, rfl, rfl, h1, r1⟩ := trodAll_cons r0
  obtain ⟨rfl, rfl, rfl⟩ := trodAll_nil r1
  obtain rfl : args = #[v0, v1] := by cases args; simp_all
  obtain ⟨rfl, rfl⟩ := trodVars_none hV
  obtain ⟨a0, len0, c0, rfl⟩ := okWide_slice Try.underlying74 (hval 0 74 v0 rfl rfl)
  have k0 := h0
  have lt0 : ∀ x ∈ p0, x.block < W.heap.size := by obtain ⟨m, hm⟩ := k0; exact DataW.trod_lt m _ _ _ hm
  obtain ⟨l0, rfl, rd0, dd0, sz0, cp0⟩ := trod_slice_arg (T := tyAnsP) (b := 56) (El.slice Try.underlying74 (by kernel_rfl) (by kernel_rfl) el102P) h0 (wt_arg hsz (j := 0) rfl rfl)
  obtain ⟨a1, len1, c1, rfl⟩ := okWide_slice Try.underlying74 (hval 1 74 v1 rfl rfl)
  have k1 := h1
  have lt1 : ∀ x ∈ p1, x.block < W.heap.size := by obtain ⟨m, hm⟩ := k1; exact DataW.trod_lt m _ _ _ hm
  obtain ⟨l1, rfl, rd1, dd1, sz1, cp1⟩ := trod_slice_arg (T := tyAnsP) (b := 56) (El.slice Try.underlying74 (by kernel_rfl) (by kernel_rfl) el102P) h1 (wt_arg hsz (j := 1) rfl rfl)
  have dl0 : inAns.Rd W l0 := fun p hp => by obtain ⟨_, h9⟩ := dd0.mem hp; exact h9
  have dl1 : inAns.Rd W l1 := fun p hp => by obtain ⟨_, h9⟩ := dd1.mem hp; exact h9
  clear hA0 hval0
  refine (twinTells_any a0 l0 c0 a1 l1 c1 W rd0 rd1 dl0 dl1 cp0 cp1).mono fun e W' ⟨v, he, hv, hu⟩ => ?_
  subst he; subst hv
  have bel := below_of hu
  exact ⟨_, rfl, _, _, _, [], _, [], hW', trodAll_mk1 (shut_bool Try.underlying4 _), (trodAll_cons_mk (Below.trod laidOut (by kernel_rfl) (of_decide_eq_true (by kernel_rfl)) k0 bel lt0) (trodAll_cons_mk (Below.trod laidOut (by kernel_rfl) (of_decide_eq_true (by kernel_rfl)) k1 bel lt1) trodAll_mk0)), rfl, bel.frame _, fun h => by cases h⟩
theorem over : Rows.twinTellsRow.holds Try.pinned (OpenSpec.ofChange Rows.twinTellsSpec) :=
  OpenClaim.holds_of_wide 10 Try.f10 rfl rfl rfl rfl rfl rfl rfl ⟨rfl, rfl, rfl, rfl, rfl⟩ rfl rfl rfl rfl rfl (by kernel_rfl) Try.func10 (by kernel_rfl)
    (of_decide_eq_true (by kernel_rfl)) (by unfold Func.isWrapper; first | (rw [if_pos (by decide +kernel)]; kernel_rfl) | (rw [if_neg (by decide +kernel)]; exact ⟨rfl, rfl⟩))
    (fun os started H enc _ => lifted os started H enc)
end twinTells
/-- The law. -/
theorem twinTells_holds : Rows.TwinTellsSaid := twinTells.over
end Go.Proofs.Ytkdcmklkggnblaa
