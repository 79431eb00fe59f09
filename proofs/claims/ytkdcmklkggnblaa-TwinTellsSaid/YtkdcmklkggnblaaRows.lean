/-
  No cell of these rows narrows 'for every input' (looked for: loops, veiled, ifaces, maps, wideKeys, modest, calm, conditions, laid).
  DERIVED. THE GIVEN ROWS OF THIS SEAT. 8 by the template 'for every input the law returns true; each argument reads behind the call as it read before'; 0 by the template 'total and deterministic' (their statements: YtkdcmklkggnblaaTotals.lean).
  GIVEN WITH THE SEED: the statements are not yours to turn. If you find one false, say at which input.
  Laid BY PROGRAM, IN A SANDBOX (cutbox-rows.mjs): the forced cells as the released guide's own fill.sh prints them over the translation 9f2a418fd8751387… (all of the seat's roots in one cut). By AI agents, Wed Nov 11 2026. No macro, syntax, notation, axiom, sorry.
-/
import Derived.Test.YtkdcmklkggnblaaChecked
import GoSem.Claim
import GoSem.ClaimJoined
import GoSem.ClaimMapViews
import Derived.JoinedTies
import Derived.KernelRfl
namespace Go.Proofs.Ytkdcmklkggnblaa
/- THE CELL 'sum', in the pinned program and in every row, IS THE sha256 OF THE DUMP (.gsa) THAT YtkdcmklkggnblaaProg.lean LOADS. Nothing in Lean hashes anything: it is a label: what it is worth is what the hold of that sum in a sandbox is worth. -/
noncomputable def Try.pinned : Pinned := { name := "ytkdcmklkggnblaa", sum := "9f2a418fd8751387a101e67ea2579a366ee3bef5a7262a4085a59bfc896e06cf", checked := Try.checked }
namespace Rows
def none {H : Type} : Left H := { results := [], args := [] }

/-- 'tattinglaw25.HistoryPlays': WHATEVER THE INPUT: true; the input reads as it did. -/
def historyPlaysSpec : ChangeSpec := { name := "historyPlays", fn := fun _ => fun
  | [d1, d2, d3] => { results := [.lit (.bool true)], args := [d1, d2, d3] }
  | _ => none }
def historyPlaysRow : OpenClaim := { program := "ytkdcmklkggnblaa", sum := "9f2a418fd8751387a101e67ea2579a366ee3bef5a7262a4085a59bfc896e06cf", func := "tatting/tattinglaw25.HistoryPlays", spec := "historyPlays", unfollowed := true, recurses := true, apart := false }
def HistoryPlaysSaid : Prop := historyPlaysRow.holds Try.pinned (OpenSpec.ofChange historyPlaysSpec)

/-- ITS FALSE NEIGHBOUR: 'it returns false'. Refute it at one input. -/
def historyPlaysWrong : ChangeSpec := { name := "historyPlays", fn := fun _ => fun
  | [d1, d2, d3] => { results := [.lit (.bool false)], args := [d1, d2, d3] }
  | _ => none }
def HistoryPlaysWrongFalsely : Prop := historyPlaysRow.holds Try.pinned (OpenSpec.ofChange historyPlaysWrong)

/-- 'tattinglaw25.HistoryBack': WHATEVER THE INPUT: true; the input reads as it did. -/
def historyBackSpec : ChangeSpec := { name := "historyBack", fn := fun _ => fun
  | [d1, d2, d3] => { results := [.lit (.bool true)], args := [d1, d2, d3] }
  | _ => none }
def historyBackRow : OpenClaim := { program := "ytkdcmklkggnblaa", sum := "9f2a418fd8751387a101e67ea2579a366ee3bef5a7262a4085a59bfc896e06cf", func := "tatting/tattinglaw25.HistoryBack", spec := "historyBack", unfollowed := true, recurses := true, apart := false }
def HistoryBackSaid : Prop := historyBackRow.holds Try.pinned (OpenSpec.ofChange historyBackSpec)

/-- ITS FALSE NEIGHBOUR: 'it returns false'. Refute it at one input. -/
def historyBackWrong : ChangeSpec := { name := "historyBack", fn := fun _ => fun
  | [d1, d2, d3] => { results := [.lit (.bool false)], args := [d1, d2, d3] }
  | _ => none }
def HistoryBackWrongFalsely : Prop := historyBackRow.holds Try.pinned (OpenSpec.ofChange historyBackWrong)

/-- 'tattinglaw25.HistoryEach': WHATEVER THE INPUT: true; the input reads as it did. -/
def historyEachSpec : ChangeSpec := { name := "historyEach", fn := fun _ => fun
  | [d1, d2, d3] => { results := [.lit (.bool true)], args := [d1, d2, d3] }
  | _ => none }
def historyEachRow : OpenClaim := { program := "ytkdcmklkggnblaa", sum := "9f2a418fd8751387a101e67ea2579a366ee3bef5a7262a4085a59bfc896e06cf", func := "tatting/tattinglaw25.HistoryEach", spec := "historyEach", unfollowed := true, recurses := true, apart := false }
def HistoryEachSaid : Prop := historyEachRow.holds Try.pinned (OpenSpec.ofChange historyEachSpec)

/-- ITS FALSE NEIGHBOUR: 'it returns false'. Refute it at one input. -/
def historyEachWrong : ChangeSpec := { name := "historyEach", fn := fun _ => fun
  | [d1, d2, d3] => { results := [.lit (.bool false)], args := [d1, d2, d3] }
  | _ => none }
def HistoryEachWrongFalsely : Prop := historyEachRow.holds Try.pinned (OpenSpec.ofChange historyEachWrong)

/-- 'tattinglaw40.OpReads': WHATEVER THE INPUT: true; the input reads as it did. -/
def opReadsSpec : ChangeSpec := { name := "opReads", fn := fun _ => fun
  | [d] => { results := [.lit (.bool true)], args := [d] }
  | _ => none }
def opReadsRow : OpenClaim := { program := "ytkdcmklkggnblaa", sum := "9f2a418fd8751387a101e67ea2579a366ee3bef5a7262a4085a59bfc896e06cf", func := "tatting/tattinglaw40.OpReads", spec := "opReads", apart := false }
def OpReadsSaid : Prop := opReadsRow.holds Try.pinned (OpenSpec.ofChange opReadsSpec)

/-- ITS FALSE NEIGHBOUR: 'it returns false'. Refute it at one input. -/
def opReadsWrong : ChangeSpec := { name := "opReads", fn := fun _ => fun
  | [d] => { results := [.lit (.bool false)], args := [d] }
  | _ => none }
def OpReadsWrongFalsely : Prop := opReadsRow.holds Try.pinned (OpenSpec.ofChange opReadsWrong)

/-- 'tattinglaw40.OpWrites': WHATEVER THE INPUT: true; the input reads as it did. -/
def opWritesSpec : ChangeSpec := { name := "opWrites", fn := fun _ => fun
  | [d] => { results := [.lit (.bool true)], args := [d] }
  | _ => none }
def opWritesRow : OpenClaim := { program := "ytkdcmklkggnblaa", sum := "9f2a418fd8751387a101e67ea2579a366ee3bef5a7262a4085a59bfc896e06cf", func := "tatting/tattinglaw40.OpWrites", spec := "opWrites", apart := false }
def OpWritesSaid : Prop := opWritesRow.holds Try.pinned (OpenSpec.ofChange opWritesSpec)

/-- ITS FALSE NEIGHBOUR: 'it returns false'. Refute it at one input. -/
def opWritesWrong : ChangeSpec := { name := "opWrites", fn := fun _ => fun
  | [d] => { results := [.lit (.bool false)], args := [d] }
  | _ => none }
def OpWritesWrongFalsely : Prop := opWritesRow.holds Try.pinned (OpenSpec.ofChange opWritesWrong)

/-- 'tattinglaw40.OpNames': WHATEVER THE INPUT: true; the input reads as it did. -/
def opNamesSpec : ChangeSpec := { name := "opNames", fn := fun _ => fun
  | [d1, d2] => { results := [.lit (.bool true)], args := [d1, d2] }
  | _ => none }
def opNamesRow : OpenClaim := { program := "ytkdcmklkggnblaa", sum := "9f2a418fd8751387a101e67ea2579a366ee3bef5a7262a4085a59bfc896e06cf", func := "tatting/tattinglaw40.OpNames", spec := "opNames", apart := false }
def OpNamesSaid : Prop := opNamesRow.holds Try.pinned (OpenSpec.ofChange opNamesSpec)

/-- ITS FALSE NEIGHBOUR: 'it returns false'. Refute it at one input. -/
def opNamesWrong : ChangeSpec := { name := "opNames", fn := fun _ => fun
  | [d1, d2] => { results := [.lit (.bool false)], args := [d1, d2] }
  | _ => none }
def OpNamesWrongFalsely : Prop := opNamesRow.holds Try.pinned (OpenSpec.ofChange opNamesWrong)

/-- 'tattinglaw46.TwinMixes': WHATEVER THE INPUT: true; the input reads as it did. -/
def twinMixesSpec : ChangeSpec := { name := "twinMixes", fn := fun _ => fun
  | [d1, d2] => { results := [.lit (.bool true)], args := [d1, d2] }
  | _ => none }
def twinMixesRow : OpenClaim := { program := "ytkdcmklkggnblaa", sum := "9f2a418fd8751387a101e67ea2579a366ee3bef5a7262a4085a59bfc896e06cf", func := "tatting/tattinglaw46.TwinMixes", spec := "twinMixes", apart := false }
def TwinMixesSaid : Prop := twinMixesRow.holds Try.pinned (OpenSpec.ofChange twinMixesSpec)

/-- ITS FALSE NEIGHBOUR: 'it returns false'. Refute it at one input. -/
def twinMixesWrong : ChangeSpec := { name := "twinMixes", fn := fun _ => fun
  | [d1, d2] => { results := [.lit (.bool false)], args := [d1, d2] }
  | _ => none }
def TwinMixesWrongFalsely : Prop := twinMixesRow.holds Try.pinned (OpenSpec.ofChange twinMixesWrong)

/-- 'tattinglaw46.TwinTells': WHATEVER THE INPUT: true; the input reads as it did. -/
def twinTellsSpec : ChangeSpec := { name := "twinTells", fn := fun _ => fun
  | [d1, d2] => { results := [.lit (.bool true)], args := [d1, d2] }
  | _ => none }
def twinTellsRow : OpenClaim := { program := "ytkdcmklkggnblaa", sum := "9f2a418fd8751387a101e67ea2579a366ee3bef5a7262a4085a59bfc896e06cf", func := "tatting/tattinglaw46.TwinTells", spec := "twinTells", unfollowed := true, recurses := true, apart := false }
def TwinTellsSaid : Prop := twinTellsRow.holds Try.pinned (OpenSpec.ofChange twinTellsSpec)

/-- ITS FALSE NEIGHBOUR: 'it returns false'. Refute it at one input. -/
def twinTellsWrong : ChangeSpec := { name := "twinTells", fn := fun _ => fun
  | [d1, d2] => { results := [.lit (.bool false)], args := [d1, d2] }
  | _ => none }
def TwinTellsWrongFalsely : Prop := twinTellsRow.holds Try.pinned (OpenSpec.ofChange twinTellsWrong)

/- THE SECOND FORM. 'bulk': how many values and letters a reading holds, each counted each time it is reached (what is shared counts as often as it is met; a slice's spare places count too). A statement '..UptoSaid' is the law's where the arguments, and the package variables that the reading takes, are together of bulk at most 1048576: NARROWER than '..Said'. Prove '..Said' where nothing that the law and all that it calls make is longer than what came in: it says more and counts as full. Else prove '..UptoSaid'. A law counts once. -/
mutual
def uptoBulk {H : Type} : DataW H → Nat
  | .lit (.string bytes) => bytes.length + 1
  | .lit _ => 1
  | .nil => 1
  | .ptr d => uptoBulk d + 1
  | .slice elems spare => uptoBulkAll elems + uptoBulkAll spare + 1
  | .agg parts => uptoBulkAll parts + 1
  | .iface _ d => uptoBulk d + 1
  | .map entries => uptoBulkEntries entries + 1
  | .held _ => 1
def uptoBulkAll {H : Type} : List (DataW H) → Nat
  | [] => 0
  | d :: r => uptoBulk d + uptoBulkAll r
def uptoBulkEntries {H : Type} : List (Lit × DataW H) → Nat
  | [] => 0
  | x :: r => uptoBulkEntry x + uptoBulkEntries r
def uptoBulkEntry {H : Type} : Lit × DataW H → Nat
  | (.string bytes, d) => bytes.length + uptoBulk d + 1
  | (_, d) => uptoBulk d + 1
 end
def uptoSmall : (H : Type) → List (DataW H) → Bool := fun _ ds => decide (uptoBulkAll ds ≤ 1048576)
def OpenSpec.upto (s : _root_.Go.ChangeSpec) : _root_.Go.OpenSpec := { _root_.Go.OpenSpec.ofChange s with cond := some uptoSmall }

/-- 'tattinglaw25.HistoryPlays', WHERE WHAT IT READS IS OF BULK AT MOST 1048576: true; the input reads as it did. -/
def historyPlaysUptoRow : OpenClaim := { program := "ytkdcmklkggnblaa", sum := "9f2a418fd8751387a101e67ea2579a366ee3bef5a7262a4085a59bfc896e06cf", func := "tatting/tattinglaw25.HistoryPlays", spec := "historyPlays", unfollowed := true, recurses := true, apart := false, narrowed := true }
def HistoryPlaysUptoSaid : Prop := historyPlaysUptoRow.holds Try.pinned (OpenSpec.upto historyPlaysSpec)

/-- 'tattinglaw25.HistoryBack', WHERE WHAT IT READS IS OF BULK AT MOST 1048576: true; the input reads as it did. -/
def historyBackUptoRow : OpenClaim := { program := "ytkdcmklkggnblaa", sum := "9f2a418fd8751387a101e67ea2579a366ee3bef5a7262a4085a59bfc896e06cf", func := "tatting/tattinglaw25.HistoryBack", spec := "historyBack", unfollowed := true, recurses := true, apart := false, narrowed := true }
def HistoryBackUptoSaid : Prop := historyBackUptoRow.holds Try.pinned (OpenSpec.upto historyBackSpec)

/-- 'tattinglaw25.HistoryEach', WHERE WHAT IT READS IS OF BULK AT MOST 1048576: true; the input reads as it did. -/
def historyEachUptoRow : OpenClaim := { program := "ytkdcmklkggnblaa", sum := "9f2a418fd8751387a101e67ea2579a366ee3bef5a7262a4085a59bfc896e06cf", func := "tatting/tattinglaw25.HistoryEach", spec := "historyEach", unfollowed := true, recurses := true, apart := false, narrowed := true }
def HistoryEachUptoSaid : Prop := historyEachUptoRow.holds Try.pinned (OpenSpec.upto historyEachSpec)

/-- 'tattinglaw40.OpReads', WHERE WHAT IT READS IS OF BULK AT MOST 1048576: true; the input reads as it did. -/
def opReadsUptoRow : OpenClaim := { program := "ytkdcmklkggnblaa", sum := "9f2a418fd8751387a101e67ea2579a366ee3bef5a7262a4085a59bfc896e06cf", func := "tatting/tattinglaw40.OpReads", spec := "opReads", apart := false, narrowed := true }
def OpReadsUptoSaid : Prop := opReadsUptoRow.holds Try.pinned (OpenSpec.upto opReadsSpec)

/-- 'tattinglaw40.OpWrites', WHERE WHAT IT READS IS OF BULK AT MOST 1048576: true; the input reads as it did. -/
def opWritesUptoRow : OpenClaim := { program := "ytkdcmklkggnblaa", sum := "9f2a418fd8751387a101e67ea2579a366ee3bef5a7262a4085a59bfc896e06cf", func := "tatting/tattinglaw40.OpWrites", spec := "opWrites", apart := false, narrowed := true }
def OpWritesUptoSaid : Prop := opWritesUptoRow.holds Try.pinned (OpenSpec.upto opWritesSpec)

/-- 'tattinglaw40.OpNames', WHERE WHAT IT READS IS OF BULK AT MOST 1048576: true; the input reads as it did. -/
def opNamesUptoRow : OpenClaim := { program := "ytkdcmklkggnblaa", sum := "9f2a418fd8751387a101e67ea2579a366ee3bef5a7262a4085a59bfc896e06cf", func := "tatting/tattinglaw40.OpNames", spec := "opNames", apart := false, narrowed := true }
def OpNamesUptoSaid : Prop := opNamesUptoRow.holds Try.pinned (OpenSpec.upto opNamesSpec)

/-- 'tattinglaw46.TwinMixes', WHERE WHAT IT READS IS OF BULK AT MOST 1048576: true; the input reads as it did. -/
def twinMixesUptoRow : OpenClaim := { program := "ytkdcmklkggnblaa", sum := "9f2a418fd8751387a101e67ea2579a366ee3bef5a7262a4085a59bfc896e06cf", func := "tatting/tattinglaw46.TwinMixes", spec := "twinMixes", apart := false, narrowed := true }
def TwinMixesUptoSaid : Prop := twinMixesUptoRow.holds Try.pinned (OpenSpec.upto twinMixesSpec)

/-- 'tattinglaw46.TwinTells', WHERE WHAT IT READS IS OF BULK AT MOST 1048576: true; the input reads as it did. -/
def twinTellsUptoRow : OpenClaim := { program := "ytkdcmklkggnblaa", sum := "9f2a418fd8751387a101e67ea2579a366ee3bef5a7262a4085a59bfc896e06cf", func := "tatting/tattinglaw46.TwinTells", spec := "twinTells", unfollowed := true, recurses := true, apart := false, narrowed := true }
def TwinTellsUptoSaid : Prop := twinTellsUptoRow.holds Try.pinned (OpenSpec.upto twinTellsSpec)

end Rows
end Go.Proofs.Ytkdcmklkggnblaa
