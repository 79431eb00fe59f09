/- Proved here: TwinMixes return true at every input that their statements speak of, and leave what was handed in as it read; conditions: none beyond those of the statements. -/
import Derived.Test.YtkdcmklkggnblaaR3
import Derived.Test.YtkdcmklkggnblaaT8b
namespace Go.Proofs.Ytkdcmklkggnblaa
open Go Go.Sx Go.ChangeShapes Go.WideShapes Go.ChangeAt Go.RowKit
set_option linter.unusedVariables false
theorem el53P {H : Type} {enc : TypeId × Value → H} {W : World} : El enc Try.prog W 53 tyRawP (fun p _ => RdT (tyI .i64) W (.slice p.a p.d.nums.length p.c) p.d.nums ∧ p.d.nums.length * 8 ≤ reachBytes) := fun fuel cs x h hw => by
  obtain ⟨⟨⟨sa, sn, sc⟩, st⟩, e, ys, _, ⟨y0, _, xs, rd, ⟨_, sz, _⟩, hn⟩, _⟩ := el53 fuel cs x h hw
  simp only at rd hn
  subst hn
  exact ⟨⟨sa, sc, ⟨xs, st⟩⟩, e, rd, sz⟩
namespace twinMixes
theorem own : ownKnob Try.prog.godebug = none := by kernel_rfl
theorem laidOut : laidOutB Try.prog = true := by kernel_rfl
set_option maxRecDepth 100000 in
theorem lifted (os : Os) (started : os.Started) (H : Type) (enc : TypeId × Value → H) :
    ReturnsInHanded {} Try.checked os 9 .any (Rows.twinMixesSpec.pre6 enc Try.prog Try.f9 Rows.twinMixesRow.domain false) (Rows.twinMixesSpec.post enc Try.prog Try.f9 false true false false) := by
  refine returnsInHanded_of_change_sized (C := Try.checked) own started (by kernel_rfl) Try.func9
    (ChangeSpec.witness6 (enc := enc) (C := Try.checked) false ⟨#[], #[.slice none 0 0, .slice none 0 0], []⟩ 8 (by kernel_rfl) (by kernel_rfl) (by kernel_rfl) (by kernel_rfl)) ?_
  intro W base args ds gs before hval0 hW hcnd hsz0 _
  have hsz : (DataW.weightsEach Try.prog (Try.f9.params.toList ++ Rows.twinMixesSpec.plain.varTypes Try.prog) (ds ++ gs)).all (· ≤ reachBytes) = true := hsz0
  clear hsz0
  have hval : ∀ (j : Nat) t v, Try.f9.params[j]? = some t → args[j]? = some v → Value.okWide Try.prog W .any base t v := hval0
  have hW' := hW
  obtain ⟨p, q, hA0, hV, rfl, hfz, hnd⟩ := hW
  have hA : DataW.TrodAll enc Try.prog W 0 (fun _ => true) true Try.f9.params.toList args.toList ds p := hA0
  rw [Try.params9] at hA hval hsz
  obtain ⟨v0, vs0, d0, ds0, p0, q0, hargs, rfl, rfl, h0, r0⟩ := trodAll_cons hA
  obtain ⟨v1, vs1, d1, ds1, p1, q1, rfl, rfl, rfl, h1, r1⟩ := trodAll_cons r0
  obtain ⟨rfl, rfl, rfl⟩ := trodAll_nil r1
  obtain rfl : args = #[v0, v1] := by cases args; simp_all
  obtain ⟨rfl, rfl⟩ := trodVars_none hV
  obtain ⟨a0, len0, c0, rfl⟩ := okWide_slice Try.underlying70 (hval 0 70 v0 rfl rfl)
  have k0 := h0
  have lt0 : ∀ x ∈ p0, x.block < W.heap.size := by obtain ⟨m, hm⟩ := k0; exact DataW.trod_lt m _ _ _ hm
  obtain ⟨l0, rfl, rd0, dd0, sz0, cp0⟩ := trod_slice_arg (T := tyRawP) (b := 40) (El.slice Try.underlying70 (by kernel_rfl) (by kernel_rfl) el53P) h0 (wt_arg hsz (j := 0) rfl rfl)
  obtain ⟨a1, len1, c1, rfl⟩ := okWide_slice Try.underlying51 (hval 1 51 v1 rfl rfl)
  have k1 := h1
  have lt1 : ∀ x ∈ p1, x.block < W.heap.size := by obtain ⟨m, hm⟩ := k1; exact DataW.trod_lt m _ _ _ hm
  obtain ⟨l1, rfl, rd1, dd1, sz1, cp1⟩ := trod_slice_arg (T := (tyI .i64)) (b := 8) (El.slice Try.underlying51 (by kernel_rfl) (by kernel_rfl) (El.int Try.underlying3)) h1 (wt_arg hsz (j := 1) rfl rfl)
  have dl0 : inRaw.Rd W l0 := fun p hp => by obtain ⟨_, h9, _⟩ := dd0.mem hp; exact h9
  have hs0 : ∀ p, p ∈ l0 → p.d.nums.length * 8 ≤ 140737488355328 := fun p hp => by obtain ⟨_, _, h9⟩ := dd0.mem hp; exact Nat.le_trans h9 (by decide)
  clear hA0 hval0
  refine (twinMixes_any a0 l0 c0 a1 l1 c1 W rd0 rd1 dl0 cp0 cp1 hs0).mono fun e W' ⟨v, he, hv, hu⟩ => ?_
  subst he; subst hv
  have bel := below_of hu
  exact ⟨_, rfl, _, _, _, [], _, [], hW', trodAll_mk1 (shut_bool Try.underlying4 _), (trodAll_cons_mk (Below.trod laidOut (by kernel_rfl) (of_decide_eq_true (by kernel_rfl)) k0 bel lt0) (trodAll_cons_mk (Below.trod laidOut (by kernel_rfl) (of_decide_eq_true (by kernel_rfl)) k1 bel lt1) trodAll_mk0)), rfl, bel.frame _, fun h => by cases h⟩
theorem over : Rows.twinMixesRow.holds Try.pinned (OpenSpec.ofChange Rows.twinMixesSpec) :=
  OpenClaim.holds_of_wide 9 Try.f9 rfl rfl rfl rfl rfl rfl rfl ⟨rfl, rfl, rfl, rfl, rfl⟩ rfl rfl rfl rfl rfl (by kernel_rfl) Try.func9 (by kernel_rfl)
    (of_decide_eq_true (by kernel_rfl)) (by unfold Func.isWrapper; first | (rw [if_pos (by decide +kernel)]; kernel_rfl) | (rw [if_neg (by decide +kernel)]; exact ⟨rfl, rfl⟩))
    (fun os started H enc _ => lifted os started H enc)
end twinMixes
/-- The law. -/
theorem twinMixes_holds : Rows.TwinMixesSaid := twinMixes.over
end Go.Proofs.Ytkdcmklkggnblaa
