/- Proved here: NamedFolds and NamedEscapes return true at every input that their statements speak of, and leave what was handed in as it read; conditions: none beyond those of the statements. -/
import Derived.Test.YtnjjjmpdikpjaaaDoorNamedEscapesB1
import Derived.Test.YtnjjjmpdikpjaaaDoorNamedEscapesB5
import Derived.Test.YtnjjjmpdikpjaaaDoorRows
import Derived.Test.YtnjjjmpdikpjaaaDoorTie
import Derived.Test.YtnjjjmpdikpjaaaDoorCards
import Derived.SevenTiedAt
import Derived.OpenShut
import Derived.LaidMore
import Derived.LaidLaws
import Derived.MakeChecks
import Derived.Stop.Joined
namespace Go.Proofs.YtnjjjmpdikpjaaaDoor
open Go Go.Sx Go.ChangeShapes Go.WideShapes Go.ChangeAt Go.RowKit
set_option linter.unusedVariables false
def laid0 : List (String × DataW Unit) := [("math/bits.deBruijn64tab", Rows.laid_math_bits_deBruijn64tab)]
theorem own : ownKnob Tryd.prog.godebug = none := by kernel_rfl
theorem laidOut : laidOutB Tryd.prog = true := by kernel_rfl
theorem gTab : Tryd.prog.globalNamed "math/bits.deBruijn64tab" = some 0 := by kernel_rfl
theorem tTab : (Tryd.prog.globals[0]?).map (·.type) = some 65 := by kernel_rfl
theorem door_met (os : Os) (args : Array Value) : laidMetH Tryd.prog laid0 ((World.doorLaid Tryd.prog 400 os).forCall (fun _ _ => 0) ⟨#[], args, []⟩).memory :=
  laidMetH_of_parts3 (fuel := 8) (laidMet_of_run' 8 (by kernel_rfl) (by kernel_rfl)) (by kernel_rfl) (by kernel_rfl)
theorem deB_data : (Rows.laid_math_bits_deBruijn64tab : DataW Unit) = .agg (deB.map fun n => .lit (.int .u8 ((n : Nat) : Int))) := rfl
/-- The table, as it is read. -/
theorem rT_of_laid {W : World} (h : laidMetH Tryd.prog laid0 W) : RdT tyN8 W (.slice (some ⟨0, 0, none⟩) deB.length 64) deB := by
  rw [MakeChecks.laidMetH_plain _ _ _ (by kernel_rfl)] at h
  obtain ⟨ps, ⟨g0, t0, cs0, f0, p0, q0, hg0, ht0, hv0, hd0, _, _⟩, _, _⟩ := h
  obtain rfl := Option.some.inj (gTab.symm.trans hg0)
  obtain rfl := Option.some.inj (tTab.symm.trans ht0)
  obtain ⟨xs, m1, rfl, hx1, hlen, hn, hel⟩ := DataW.trod_array Tryd.underlying65 hd0
  have c5 : Tryd.prog.cellsOf 5 = 1 := by kernel_rfl
  have hx2 := congrArg Prod.fst hx1
  rw [deB_data] at hx2
  simp only [DataW.agg.injEq] at hx2
  have hall : tyN8.all deB = deB.map fun n => Value.int .u8 ((n : Nat) : Int) := rfl
  refine ⟨some ⟨0, 0, none⟩, 64, rfl, rfl, by decide, fun j u hj => ⟨⟨0, 0, none⟩, rfl, ?_⟩⟩
  rw [hall, List.getElem?_map] at hj
  obtain ⟨n, hn1, rfl⟩ := Option.map_eq_some_iff.1 hj
  have hj64 : j < 64 := by have := (List.getElem?_eq_some_iff.1 hn1).1; rwa [deB_len] at this
  have h1 := hel j hj64
  rw [c5, Nat.mul_one] at h1
  have hxl : j < xs.length := by omega
  rw [List.getElem?_eq_getElem hxl] at h1
  obtain ⟨k, e1, e2, _⟩ := DataW.trod_int Tryd.underlying5 h1
  have e3 : (xs.map (·.1))[j]? = some (.lit (.int .u8 k)) := by rw [List.getElem?_map, List.getElem?_eq_getElem hxl, e2]; rfl
  rw [← hx2, List.getElem?_map, hn1] at e3
  have e4 : ((n : Nat) : Int) = k := by simpa using e3
  rw [add_off, Nat.zero_add, World.var?_cell gTab hv0 j, e4]
  have e5 : (cs0.toList.drop j).take 1 = [Value.int .u8 k] := e1
  have e6 : ((cs0.toList.drop j).take 1)[0]? = some (Value.int .u8 k) := by rw [e5]; rfl
  rw [List.getElem?_take] at e6
  simpa using e6
def tyBs : Ty Bs := ⟨4, fun s => [.int .u64 ((s.w0.toNat : Nat) : Int), .int .u64 ((s.w1.toNat : Nat) : Int), .int .u64 ((s.w2.toNat : Nat) : Int), .int .u64 ((s.w3.toNat : Nat) : Int)], fun _ => rfl, fun x u h => by simp at h; rcases h with rfl | rfl | rfl | rfl <;> rfl, by omega⟩
theorem word_of {n : Int} (hw : (Lit.int .u64 n).wf = true) : ∃ v : BitVec 64, n = ((v.toNat : Nat) : Int) := by
  have hb : 0 ≤ n ∧ n ≤ 18446744073709551615 := by simpa [Lit.wf, IntKind.signed, IntKind.bits, IntKind.max, IntKind.min] using hw
  refine ⟨BitVec.ofNat 64 n.toNat, ?_⟩
  rw [BitVec.toNat_ofNat]
  omega
/-- A set that comes in: four words. -/
theorem set_of {H : Type} {enc : TypeId × Value → H} {W : World} {fuel : Nat} {cs : List Value} {x : DataW H × List MemPlace} {sp : Nat → Bool} (h : DataW.trod enc Tryd.prog W 0 sp true fuel 24 cs = some x) : ∃ s : Bs, cs = tyBs.enc s := by
  have c22 : Tryd.prog.cellsOf 22 = 1 := by kernel_rfl
  have c24 : Tryd.prog.cellsOf 24 = 4 := by kernel_rfl
  obtain ⟨xs, m1, rfl, hx1, hlen, hn, hel⟩ := DataW.trod_array Tryd.underlying24 h
  rw [c24] at hlen
  match cs, hlen, xs, hn with
  | [a, b, c, d], _, [x0, x1, x2, x3], _ =>
    have h0 := hel 0 (by decide); have h1 := hel 1 (by decide); have h2 := hel 2 (by decide); have h3 := hel 3 (by decide)
    rw [c22] at h0 h1 h2 h3
    obtain ⟨k0, e0, _, w0⟩ := DataW.trod_int Tryd.underlying22 (x := x0) h0
    obtain ⟨k1, e1, _, w1⟩ := DataW.trod_int Tryd.underlying22 (x := x1) h1
    obtain ⟨k2, e2, _, w2⟩ := DataW.trod_int Tryd.underlying22 (x := x2) h2
    obtain ⟨k3, e3, _, w3⟩ := DataW.trod_int Tryd.underlying22 (x := x3) h3
    obtain ⟨v0, rfl⟩ := word_of w0
    obtain ⟨v1, rfl⟩ := word_of w1
    obtain ⟨v2, rfl⟩ := word_of w2
    obtain ⟨v3, rfl⟩ := word_of w3
    simp at e0 e1 e2 e3
    subst e0; subst e1; subst e2; subst e3
    exact ⟨⟨v0, v1, v2, v3⟩, rfl⟩
namespace namedFolds
set_option maxRecDepth 100000 in
theorem lifted (os : Os) (started : os.Started) (H : Type) (enc : TypeId × Value → H) :
    ReturnsInHanded {} Tryd.checked os 3 .any (fun w args => (Rows.namedFoldsSpec.pre enc Tryd.prog Tryd.f3 [] false w args ∧ laidMetH Tryd.prog laid0 w) ∧ sizedMet enc Tryd.prog Tryd.f3 (OpenSpec.ofChange Rows.namedFoldsSpec) false w args)
      (Rows.namedFoldsSpec.post enc Tryd.prog Tryd.f3 false true false false) := by
  refine returnsInHanded_of_change_and (C := Tryd.checked) (X := fun w _ => laidMetH Tryd.prog laid0 w) (fun _ _ _ hh h => h.of_heap hh) own started (by kernel_rfl) Tryd.func3
    (ChangeSpec.witness_shaped (enc := enc) (C := Tryd.checked) (os := os) (X := fun w _ => laidMetH Tryd.prog laid0 w) false (World.doorLaid Tryd.prog 400 os) #[.agg #[.int .u64 0, .int .u64 0, .int .u64 0, .int .u64 0]] 8 rfl (World.shaped_of_RefB (by kernel_rfl) (by kernel_rfl)) (by kernel_rfl) (by kernel_rfl) (by kernel_rfl) (door_met os _)) ?_
  intro W base args ds gs before hval0 hW _ _ hL _
  have hval : ∀ (j : Nat) t v, Tryd.f3.params[j]? = some t → args[j]? = some v → Value.okWide Tryd.prog W .any base t v := hval0
  have hW' := hW
  obtain ⟨p, q, hA0, hV, rfl, hfz, hnd⟩ := hW
  have hA : DataW.TrodAll enc Tryd.prog W 0 (fun _ => true) true Tryd.f3.params.toList args.toList ds p := hA0
  rw [Tryd.params3] at hA hval
  obtain ⟨v0, d0, rfl, rfl, h0⟩ := trodAll_one hA
  obtain ⟨rfl, rfl⟩ := trodVars_none hV
  have hT := rT_of_laid hL
  obtain ⟨cs0, rfl, _⟩ := okWide_array Tryd.underlying24 (hval 0 24 v0 rfl rfl)
  have k0 := h0
  have lt0 : ∀ x ∈ p, x.block < W.heap.size := by obtain ⟨m, hm⟩ := k0; exact DataW.trod_lt m _ _ _ hm
  obtain ⟨fuel0, hf0⟩ := h0
  obtain ⟨s0, e0⟩ := set_of hf0
  obtain rfl : cs0 = #[.int .u64 ((s0.w0.toNat : Nat) : Int), .int .u64 ((s0.w1.toNat : Nat) : Int), .int .u64 ((s0.w2.toNat : Nat) : Int), .int .u64 ((s0.w3.toNat : Nat) : Int)] := Array.toList_inj.1 e0
  clear hA0 hval0
  refine (foldsLaw_any s0 W hT).mono fun e W' ⟨v, he, hv, hu⟩ => ?_
  subst he; subst hv
  have bel := below_of hu
  exact ⟨_, rfl, _, _, _, [], _, [], hW', trodAll_mk1 (shut_bool Tryd.underlying4 _), trodAll_cons_mk (Below.trod laidOut (by kernel_rfl) (of_decide_eq_true (by kernel_rfl)) k0 bel lt0) trodAll_mk0, rfl, bel.frame _, fun h => by cases h⟩
theorem holds : Rows.NamedFoldsSaid :=
  OpenClaim.holds_of_wide 3 Tryd.f3 rfl rfl rfl rfl rfl rfl rfl ⟨rfl, rfl, rfl, rfl, rfl⟩ rfl rfl rfl rfl rfl (by kernel_rfl) Tryd.func3 (by kernel_rfl)
    (of_decide_eq_true (by kernel_rfl)) (by unfold Func.isWrapper; first | (rw [if_pos (by decide +kernel)]; kernel_rfl) | (rw [if_neg (by decide +kernel)]; exact ⟨rfl, rfl⟩))
    (fun os started H enc _ => lifted os started H enc)
end namedFolds
/-- The card. -/
theorem namedFolds_card_holds : Rows.NamedFoldsCardSaid :=
  Claim7.holds_tied_plain_at .later [] [.data] true (true, "e8c33a4724fd020e31ffcd496cca14bea2b53d01967648f700496c547a38884b") false
    namedFolds.holds (fun _ h => by cases h) (by kernel_rfl) (fun _ h => by cases h) namedFolds_row_tie rfl ⟨rfl, rfl⟩ (by kernel_rfl) rfl
    (fun f fn hf hfn => by
      obtain rfl : f = 3 := Option.some.inj ((show Tryd.prog.funcNamed "tatting/tattinglaw02.NamedFolds" = some 3 by kernel_rfl).symm.trans hf) |>.symm
      obtain rfl : fn = Tryd.f3 := (Option.some.inj (Tryd.func3.symm.trans hfn)).symm
      exact ⟨by kernel_rfl, fun j t ht => by
        rw [Tryd.params3] at ht
        have hm : t ∈ [24] := by simpa using Array.mem_of_getElem? ht
        have hall : ([24].all fun u => !Tryd.prog.wantsStandIn u) = true := by kernel_rfl
        exact (show Tryd.prog.wantsStandIn t = false by simpa using List.all_eq_true.1 hall t hm)⟩)
    (by kernel_rfl)
namespace namedEscapes
set_option maxRecDepth 100000 in
theorem lifted (os : Os) (started : os.Started) (H : Type) (enc : TypeId × Value → H) :
    ReturnsInHanded {} Tryd.checked os 4 .any (fun w args => (Rows.namedEscapesSpec.pre enc Tryd.prog Tryd.f4 [] false w args ∧ laidMetH Tryd.prog laid0 w) ∧ sizedMet enc Tryd.prog Tryd.f4 (OpenSpec.ofChange Rows.namedEscapesSpec) false w args)
      (Rows.namedEscapesSpec.post enc Tryd.prog Tryd.f4 false true false false) := by
  refine returnsInHanded_of_change_and (C := Tryd.checked) (X := fun w _ => laidMetH Tryd.prog laid0 w) (fun _ _ _ hh h => h.of_heap hh) own started (by kernel_rfl) Tryd.func4
    (ChangeSpec.witness_shaped (enc := enc) (C := Tryd.checked) (os := os) (X := fun w _ => laidMetH Tryd.prog laid0 w) false (World.doorLaid Tryd.prog 400 os) #[.int .u8 0] 8 rfl (World.shaped_of_RefB (by kernel_rfl) (by kernel_rfl)) (by kernel_rfl) (by kernel_rfl) (by kernel_rfl) (door_met os _)) ?_
  intro W base args ds gs before hval0 hW _ _ hL _
  have hval : ∀ (j : Nat) t v, Tryd.f4.params[j]? = some t → args[j]? = some v → Value.okWide Tryd.prog W .any base t v := hval0
  have hW' := hW
  obtain ⟨p, q, hA0, hV, rfl, hfz, hnd⟩ := hW
  have hA : DataW.TrodAll enc Tryd.prog W 0 (fun _ => true) true Tryd.f4.params.toList args.toList ds p := hA0
  rw [Tryd.params4] at hA hval
  obtain ⟨v0, d0, rfl, rfl, h0⟩ := trodAll_one hA
  obtain ⟨rfl, rfl⟩ := trodVars_none hV
  have hT := rT_of_laid hL
  obtain ⟨c0, rfl, rfl, rfl, w0⟩ := open_int Tryd.underlying5 (hval 0 5 v0 rfl rfl) h0
  obtain ⟨b0, b1⟩ := bounds_u8 w0
  obtain ⟨c, rfl⟩ := Int.eq_ofNat_of_zero_le b0
  clear hA0 hval0
  refine (escLaw_any c W hT (by omega)).mono fun e W' ⟨v, he, hv, hu⟩ => ?_
  subst he; subst hv
  have bel := below_of hu
  exact ⟨_, rfl, _, _, _, [], _, [], hW', trodAll_mk1 (shut_bool Tryd.underlying4 _), trodAll_cons_mk (shut_int Tryd.underlying5 w0) trodAll_mk0, rfl, bel.frame _, fun h => by cases h⟩
theorem holds : Rows.NamedEscapesSaid :=
  OpenClaim.holds_of_wide 4 Tryd.f4 rfl rfl rfl rfl rfl rfl rfl ⟨rfl, rfl, rfl, rfl, rfl⟩ rfl rfl rfl rfl rfl (by kernel_rfl) Tryd.func4 (by kernel_rfl)
    (of_decide_eq_true (by kernel_rfl)) (by unfold Func.isWrapper; first | (rw [if_pos (by decide +kernel)]; kernel_rfl) | (rw [if_neg (by decide +kernel)]; exact ⟨rfl, rfl⟩))
    (fun os started H enc _ => lifted os started H enc)
end namedEscapes
/-- The card. -/
theorem namedEscapes_card_holds : Rows.NamedEscapesCardSaid :=
  Claim7.holds_tied_plain_at .later [] [.data] true (true, "e8c33a4724fd020e31ffcd496cca14bea2b53d01967648f700496c547a38884b") false
    namedEscapes.holds (fun _ h => by cases h) (by kernel_rfl) (fun _ h => by cases h) namedEscapes_row_tie rfl ⟨rfl, rfl⟩ (by kernel_rfl) rfl
    (fun f fn hf hfn => by
      obtain rfl : f = 4 := Option.some.inj ((show Tryd.prog.funcNamed "tatting/tattinglaw02.NamedEscapes" = some 4 by kernel_rfl).symm.trans hf) |>.symm
      obtain rfl : fn = Tryd.f4 := (Option.some.inj (Tryd.func4.symm.trans hfn)).symm
      exact ⟨by kernel_rfl, fun j t ht => by
        rw [Tryd.params4] at ht
        have hm : t ∈ [5] := by simpa using Array.mem_of_getElem? ht
        have hall : ([5].all fun u => !Tryd.prog.wantsStandIn u) = true := by kernel_rfl
        exact (show Tryd.prog.wantsStandIn t = false by simpa using List.all_eq_true.1 hall t hm)⟩)
    (by kernel_rfl)
end Go.Proofs.YtnjjjmpdikpjaaaDoor

