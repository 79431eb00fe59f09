/-
  No cell of these rows narrows 'for every input' (looked for: loops, veiled, ifaces, maps, wideKeys, modest, calm, conditions, laid).
  DERIVED. THE GIVEN ROWS OF THIS SEAT. 13 by the template 'for every input the law returns true; each argument reads behind the call as it read before'; 0 by the template 'total and deterministic' (their statements: YtoeockpkkmgieaaTotals.lean).
  GIVEN WITH THE SEED: the statements are not yours to turn. If you find one false, say at which input.
  Laid BY PROGRAM, IN A SANDBOX (cutbox-rows.mjs): the forced cells as the released guide's own fill.sh prints them over the translation 4697333dadeb2bc2… (all of the seat's roots in one cut). By AI agents, Wed Nov 11 2026. No macro, syntax, notation, axiom, sorry.
-/
import Derived.Test.YtoeockpkkmgieaaChecked
import GoSem.Claim
import GoSem.ClaimJoined
import GoSem.ClaimMapViews
import Derived.JoinedTies
import Derived.KernelRfl
namespace Go.Proofs.Ytoeockpkkmgieaa
/- THE CELL 'sum', in the pinned program and in every row, IS THE sha256 OF THE DUMP (.gsa) THAT YtoeockpkkmgieaaProg.lean LOADS. Nothing in Lean hashes anything: it is a label: what it is worth is what the hold of that sum in a sandbox is worth. -/
noncomputable def Try.pinned : Pinned := { name := "ytoeockpkkmgieaa", sum := "4697333dadeb2bc24135af4c24fd0be3730c7033b06c0eb95ba8ecdb58c87e05", checked := Try.checked }
namespace Rows
def none {H : Type} : Left H := { results := [], args := [] }

/-- 'tattinglaw12.DfaLives': WHATEVER THE INPUT: true; the input reads as it did. -/
def dfaLivesSpec : ChangeSpec := { name := "dfaLives", fn := fun _ => fun
  | [d] => { results := [.lit (.bool true)], args := [d] }
  | _ => none }
def dfaLivesRow : OpenClaim := { program := "ytoeockpkkmgieaa", sum := "4697333dadeb2bc24135af4c24fd0be3730c7033b06c0eb95ba8ecdb58c87e05", func := "tatting/tattinglaw12.DfaLives", spec := "dfaLives", unfollowed := true, recurses := true, plainKeys := false, apart := false }
def DfaLivesSaid : Prop := dfaLivesRow.holds Try.pinned (OpenSpec.ofChange dfaLivesSpec)

/-- ITS FALSE NEIGHBOUR: 'it returns false'. Refute it at one input. -/
def dfaLivesWrong : ChangeSpec := { name := "dfaLives", fn := fun _ => fun
  | [d] => { results := [.lit (.bool false)], args := [d] }
  | _ => none }
def DfaLivesWrongFalsely : Prop := dfaLivesRow.holds Try.pinned (OpenSpec.ofChange dfaLivesWrong)

/-- 'tattinglaw12.DfaRuns': WHATEVER THE INPUT: true; the input reads as it did. -/
def dfaRunsSpec : ChangeSpec := { name := "dfaRuns", fn := fun _ => fun
  | [d1, d2, d3] => { results := [.lit (.bool true)], args := [d1, d2, d3] }
  | _ => none }
def dfaRunsRow : OpenClaim := { program := "ytoeockpkkmgieaa", sum := "4697333dadeb2bc24135af4c24fd0be3730c7033b06c0eb95ba8ecdb58c87e05", func := "tatting/tattinglaw12.DfaRuns", spec := "dfaRuns", unfollowed := true, recurses := true, plainKeys := false, apart := false }
def DfaRunsSaid : Prop := dfaRunsRow.holds Try.pinned (OpenSpec.ofChange dfaRunsSpec)

/-- ITS FALSE NEIGHBOUR: 'it returns false'. Refute it at one input. -/
def dfaRunsWrong : ChangeSpec := { name := "dfaRuns", fn := fun _ => fun
  | [d1, d2, d3] => { results := [.lit (.bool false)], args := [d1, d2, d3] }
  | _ => none }
def DfaRunsWrongFalsely : Prop := dfaRunsRow.holds Try.pinned (OpenSpec.ofChange dfaRunsWrong)

/-- 'tattinglaw18.MonoidElements': WHATEVER THE INPUT: true; the input reads as it did. -/
def monoidElementsSpec : ChangeSpec := { name := "monoidElements", fn := fun _ => fun
  | [d1, d2] => { results := [.lit (.bool true)], args := [d1, d2] }
  | _ => none }
def monoidElementsRow : OpenClaim := { program := "ytoeockpkkmgieaa", sum := "4697333dadeb2bc24135af4c24fd0be3730c7033b06c0eb95ba8ecdb58c87e05", func := "tatting/tattinglaw18.MonoidElements", spec := "monoidElements", unfollowed := true, recurses := true, plainKeys := false, apart := false }
def MonoidElementsSaid : Prop := monoidElementsRow.holds Try.pinned (OpenSpec.ofChange monoidElementsSpec)

/-- ITS FALSE NEIGHBOUR: 'it returns false'. Refute it at one input. -/
def monoidElementsWrong : ChangeSpec := { name := "monoidElements", fn := fun _ => fun
  | [d1, d2] => { results := [.lit (.bool false)], args := [d1, d2] }
  | _ => none }
def MonoidElementsWrongFalsely : Prop := monoidElementsRow.holds Try.pinned (OpenSpec.ofChange monoidElementsWrong)

/-- 'tattinglaw18.MonoidTexts': WHATEVER THE INPUT: true; the input reads as it did. -/
def monoidTextsSpec : ChangeSpec := { name := "monoidTexts", fn := fun _ => fun
  | [d1, d2] => { results := [.lit (.bool true)], args := [d1, d2] }
  | _ => none }
def monoidTextsRow : OpenClaim := { program := "ytoeockpkkmgieaa", sum := "4697333dadeb2bc24135af4c24fd0be3730c7033b06c0eb95ba8ecdb58c87e05", func := "tatting/tattinglaw18.MonoidTexts", spec := "monoidTexts", unfollowed := true, recurses := true, plainKeys := false, apart := false }
def MonoidTextsSaid : Prop := monoidTextsRow.holds Try.pinned (OpenSpec.ofChange monoidTextsSpec)

/-- ITS FALSE NEIGHBOUR: 'it returns false'. Refute it at one input. -/
def monoidTextsWrong : ChangeSpec := { name := "monoidTexts", fn := fun _ => fun
  | [d1, d2] => { results := [.lit (.bool false)], args := [d1, d2] }
  | _ => none }
def MonoidTextsWrongFalsely : Prop := monoidTextsRow.holds Try.pinned (OpenSpec.ofChange monoidTextsWrong)

/-- 'tattinglaw18.MonoidTimes': WHATEVER THE INPUT: true; the input reads as it did. -/
def monoidTimesSpec : ChangeSpec := { name := "monoidTimes", fn := fun _ => fun
  | [d1, d2, d3] => { results := [.lit (.bool true)], args := [d1, d2, d3] }
  | _ => none }
def monoidTimesRow : OpenClaim := { program := "ytoeockpkkmgieaa", sum := "4697333dadeb2bc24135af4c24fd0be3730c7033b06c0eb95ba8ecdb58c87e05", func := "tatting/tattinglaw18.MonoidTimes", spec := "monoidTimes", unfollowed := true, recurses := true, plainKeys := false, apart := false }
def MonoidTimesSaid : Prop := monoidTimesRow.holds Try.pinned (OpenSpec.ofChange monoidTimesSpec)

/-- ITS FALSE NEIGHBOUR: 'it returns false'. Refute it at one input. -/
def monoidTimesWrong : ChangeSpec := { name := "monoidTimes", fn := fun _ => fun
  | [d1, d2, d3] => { results := [.lit (.bool false)], args := [d1, d2, d3] }
  | _ => none }
def MonoidTimesWrongFalsely : Prop := monoidTimesRow.holds Try.pinned (OpenSpec.ofChange monoidTimesWrong)

/-- 'tattinglaw18.MonoidLoose': WHATEVER THE INPUT: true; the input reads as it did. -/
def monoidLooseSpec : ChangeSpec := { name := "monoidLoose", fn := fun _ => fun
  | [d1, d2, d3] => { results := [.lit (.bool true)], args := [d1, d2, d3] }
  | _ => none }
def monoidLooseRow : OpenClaim := { program := "ytoeockpkkmgieaa", sum := "4697333dadeb2bc24135af4c24fd0be3730c7033b06c0eb95ba8ecdb58c87e05", func := "tatting/tattinglaw18.MonoidLoose", spec := "monoidLoose", unfollowed := true, recurses := true, plainKeys := false, apart := false }
def MonoidLooseSaid : Prop := monoidLooseRow.holds Try.pinned (OpenSpec.ofChange monoidLooseSpec)

/-- ITS FALSE NEIGHBOUR: 'it returns false'. Refute it at one input. -/
def monoidLooseWrong : ChangeSpec := { name := "monoidLoose", fn := fun _ => fun
  | [d1, d2, d3] => { results := [.lit (.bool false)], args := [d1, d2, d3] }
  | _ => none }
def MonoidLooseWrongFalsely : Prop := monoidLooseRow.holds Try.pinned (OpenSpec.ofChange monoidLooseWrong)

/-- 'tattinglaw12.DfaWords': WHATEVER THE INPUT: true; the input reads as it did. -/
def dfaWordsSpec : ChangeSpec := { name := "dfaWords", fn := fun _ => fun
  | [d1, d2, d3] => { results := [.lit (.bool true)], args := [d1, d2, d3] }
  | _ => none }
def dfaWordsRow : OpenClaim := { program := "ytoeockpkkmgieaa", sum := "4697333dadeb2bc24135af4c24fd0be3730c7033b06c0eb95ba8ecdb58c87e05", func := "tatting/tattinglaw12.DfaWords", spec := "dfaWords", unfollowed := true, recurses := true, plainKeys := false, apart := false }
def DfaWordsSaid : Prop := dfaWordsRow.holds Try.pinned (OpenSpec.ofChange dfaWordsSpec)

/-- ITS FALSE NEIGHBOUR: 'it returns false'. Refute it at one input. -/
def dfaWordsWrong : ChangeSpec := { name := "dfaWords", fn := fun _ => fun
  | [d1, d2, d3] => { results := [.lit (.bool false)], args := [d1, d2, d3] }
  | _ => none }
def DfaWordsWrongFalsely : Prop := dfaWordsRow.holds Try.pinned (OpenSpec.ofChange dfaWordsWrong)

/-- 'tattinglaw14.EqualApart': WHATEVER THE INPUT: true; the input reads as it did. -/
def equalApartSpec : ChangeSpec := { name := "equalApart", fn := fun _ => fun
  | [d1, d2] => { results := [.lit (.bool true)], args := [d1, d2] }
  | _ => none }
def equalApartRow : OpenClaim := { program := "ytoeockpkkmgieaa", sum := "4697333dadeb2bc24135af4c24fd0be3730c7033b06c0eb95ba8ecdb58c87e05", func := "tatting/tattinglaw14.EqualApart", spec := "equalApart", unfollowed := true, recurses := true, plainKeys := false, apart := false }
def EqualApartSaid : Prop := equalApartRow.holds Try.pinned (OpenSpec.ofChange equalApartSpec)

/-- ITS FALSE NEIGHBOUR: 'it returns false'. Refute it at one input. -/
def equalApartWrong : ChangeSpec := { name := "equalApart", fn := fun _ => fun
  | [d1, d2] => { results := [.lit (.bool false)], args := [d1, d2] }
  | _ => none }
def EqualApartWrongFalsely : Prop := equalApartRow.holds Try.pinned (OpenSpec.ofChange equalApartWrong)

/-- 'tattinglaw14.EqualTells': WHATEVER THE INPUT: true; the input reads as it did. -/
def equalTellsSpec : ChangeSpec := { name := "equalTells", fn := fun _ => fun
  | [d1, d2] => { results := [.lit (.bool true)], args := [d1, d2] }
  | _ => none }
def equalTellsRow : OpenClaim := { program := "ytoeockpkkmgieaa", sum := "4697333dadeb2bc24135af4c24fd0be3730c7033b06c0eb95ba8ecdb58c87e05", func := "tatting/tattinglaw14.EqualTells", spec := "equalTells", unfollowed := true, recurses := true, plainKeys := false, apart := false }
def EqualTellsSaid : Prop := equalTellsRow.holds Try.pinned (OpenSpec.ofChange equalTellsSpec)

/-- ITS FALSE NEIGHBOUR: 'it returns false'. Refute it at one input. -/
def equalTellsWrong : ChangeSpec := { name := "equalTells", fn := fun _ => fun
  | [d1, d2] => { results := [.lit (.bool false)], args := [d1, d2] }
  | _ => none }
def EqualTellsWrongFalsely : Prop := equalTellsRow.holds Try.pinned (OpenSpec.ofChange equalTellsWrong)

/-- 'tattinglaw13.MiniBlocks': WHATEVER THE INPUT: true; the input reads as it did. -/
def miniBlocksSpec : ChangeSpec := { name := "miniBlocks", fn := fun _ => fun
  | [d] => { results := [.lit (.bool true)], args := [d] }
  | _ => none }
def miniBlocksRow : OpenClaim := { program := "ytoeockpkkmgieaa", sum := "4697333dadeb2bc24135af4c24fd0be3730c7033b06c0eb95ba8ecdb58c87e05", func := "tatting/tattinglaw13.MiniBlocks", spec := "miniBlocks", unfollowed := true, recurses := true, plainKeys := false, apart := false }
def MiniBlocksSaid : Prop := miniBlocksRow.holds Try.pinned (OpenSpec.ofChange miniBlocksSpec)

/-- ITS FALSE NEIGHBOUR: 'it returns false'. Refute it at one input. -/
def miniBlocksWrong : ChangeSpec := { name := "miniBlocks", fn := fun _ => fun
  | [d] => { results := [.lit (.bool false)], args := [d] }
  | _ => none }
def MiniBlocksWrongFalsely : Prop := miniBlocksRow.holds Try.pinned (OpenSpec.ofChange miniBlocksWrong)

/-- 'tattinglaw13.MiniOnce': WHATEVER THE INPUT: true; the input reads as it did. -/
def miniOnceSpec : ChangeSpec := { name := "miniOnce", fn := fun _ => fun
  | [d1, d2] => { results := [.lit (.bool true)], args := [d1, d2] }
  | _ => none }
def miniOnceRow : OpenClaim := { program := "ytoeockpkkmgieaa", sum := "4697333dadeb2bc24135af4c24fd0be3730c7033b06c0eb95ba8ecdb58c87e05", func := "tatting/tattinglaw13.MiniOnce", spec := "miniOnce", unfollowed := true, recurses := true, plainKeys := false, apart := false }
def MiniOnceSaid : Prop := miniOnceRow.holds Try.pinned (OpenSpec.ofChange miniOnceSpec)

/-- ITS FALSE NEIGHBOUR: 'it returns false'. Refute it at one input. -/
def miniOnceWrong : ChangeSpec := { name := "miniOnce", fn := fun _ => fun
  | [d1, d2] => { results := [.lit (.bool false)], args := [d1, d2] }
  | _ => none }
def MiniOnceWrongFalsely : Prop := miniOnceRow.holds Try.pinned (OpenSpec.ofChange miniOnceWrong)

/-- 'tattinglaw13.MiniLeast': WHATEVER THE INPUT: true; the input reads as it did. -/
def miniLeastSpec : ChangeSpec := { name := "miniLeast", fn := fun _ => fun
  | [d1, d2] => { results := [.lit (.bool true)], args := [d1, d2] }
  | _ => none }
def miniLeastRow : OpenClaim := { program := "ytoeockpkkmgieaa", sum := "4697333dadeb2bc24135af4c24fd0be3730c7033b06c0eb95ba8ecdb58c87e05", func := "tatting/tattinglaw13.MiniLeast", spec := "miniLeast", unfollowed := true, recurses := true, plainKeys := false, apart := false }
def MiniLeastSaid : Prop := miniLeastRow.holds Try.pinned (OpenSpec.ofChange miniLeastSpec)

/-- ITS FALSE NEIGHBOUR: 'it returns false'. Refute it at one input. -/
def miniLeastWrong : ChangeSpec := { name := "miniLeast", fn := fun _ => fun
  | [d1, d2] => { results := [.lit (.bool false)], args := [d1, d2] }
  | _ => none }
def MiniLeastWrongFalsely : Prop := miniLeastRow.holds Try.pinned (OpenSpec.ofChange miniLeastWrong)

/-- 'tattinglaw14.EqualLeast': WHATEVER THE INPUT: true; the input reads as it did. -/
def equalLeastSpec : ChangeSpec := { name := "equalLeast", fn := fun _ => fun
  | [d1, d2, d3] => { results := [.lit (.bool true)], args := [d1, d2, d3] }
  | _ => none }
def equalLeastRow : OpenClaim := { program := "ytoeockpkkmgieaa", sum := "4697333dadeb2bc24135af4c24fd0be3730c7033b06c0eb95ba8ecdb58c87e05", func := "tatting/tattinglaw14.EqualLeast", spec := "equalLeast", unfollowed := true, recurses := true, plainKeys := false, apart := false }
def EqualLeastSaid : Prop := equalLeastRow.holds Try.pinned (OpenSpec.ofChange equalLeastSpec)

/-- ITS FALSE NEIGHBOUR: 'it returns false'. Refute it at one input. -/
def equalLeastWrong : ChangeSpec := { name := "equalLeast", fn := fun _ => fun
  | [d1, d2, d3] => { results := [.lit (.bool false)], args := [d1, d2, d3] }
  | _ => none }
def EqualLeastWrongFalsely : Prop := equalLeastRow.holds Try.pinned (OpenSpec.ofChange equalLeastWrong)

/- THE SECOND FORM. 'bulk': how many values and letters a reading holds, each counted each time it is reached (what is shared counts as often as it is met; a slice's spare places count too). A statement '..UptoSaid' is the law's where the arguments, and the package variables that the reading takes, are together of bulk at most 1048576: NARROWER than '..Said'. Prove '..Said' where nothing that the law and all that it calls make is longer than what came in: it says more and counts as full. Else prove '..UptoSaid'. A law counts once. -/
mutual
def uptoBulk {H : Type} : DataW H → Nat
  | .lit (.string bytes) => bytes.length + 1
  | .lit _ => 1
  | .nil => 1
  | .ptr d => uptoBulk d + 1
  | .slice elems spare => uptoBulkAll elems + uptoBulkAll spare + 1
  | .agg parts => uptoBulkAll parts + 1
  | .iface _ d => uptoBulk d + 1
  | .map entries => uptoBulkEntries entries + 1
  | .held _ => 1
def uptoBulkAll {H : Type} : List (DataW H) → Nat
  | [] => 0
  | d :: r => uptoBulk d + uptoBulkAll r
def uptoBulkEntries {H : Type} : List (Lit × DataW H) → Nat
  | [] => 0
  | x :: r => uptoBulkEntry x + uptoBulkEntries r
def uptoBulkEntry {H : Type} : Lit × DataW H → Nat
  | (.string bytes, d) => bytes.length + uptoBulk d + 1
  | (_, d) => uptoBulk d + 1
 end
def uptoSmall : (H : Type) → List (DataW H) → Bool := fun _ ds => decide (uptoBulkAll ds ≤ 1048576)
def OpenSpec.upto (s : _root_.Go.ChangeSpec) : _root_.Go.OpenSpec := { _root_.Go.OpenSpec.ofChange s with cond := some uptoSmall }

/-- 'tattinglaw12.DfaLives', WHERE WHAT IT READS IS OF BULK AT MOST 1048576: true; the input reads as it did. -/
def dfaLivesUptoRow : OpenClaim := { program := "ytoeockpkkmgieaa", sum := "4697333dadeb2bc24135af4c24fd0be3730c7033b06c0eb95ba8ecdb58c87e05", func := "tatting/tattinglaw12.DfaLives", spec := "dfaLives", unfollowed := true, recurses := true, plainKeys := false, apart := false, narrowed := true }
def DfaLivesUptoSaid : Prop := dfaLivesUptoRow.holds Try.pinned (OpenSpec.upto dfaLivesSpec)

/-- 'tattinglaw12.DfaRuns', WHERE WHAT IT READS IS OF BULK AT MOST 1048576: true; the input reads as it did. -/
def dfaRunsUptoRow : OpenClaim := { program := "ytoeockpkkmgieaa", sum := "4697333dadeb2bc24135af4c24fd0be3730c7033b06c0eb95ba8ecdb58c87e05", func := "tatting/tattinglaw12.DfaRuns", spec := "dfaRuns", unfollowed := true, recurses := true, plainKeys := false, apart := false, narrowed := true }
def DfaRunsUptoSaid : Prop := dfaRunsUptoRow.holds Try.pinned (OpenSpec.upto dfaRunsSpec)

/-- 'tattinglaw18.MonoidElements', WHERE WHAT IT READS IS OF BULK AT MOST 1048576: true; the input reads as it did. -/
def monoidElementsUptoRow : OpenClaim := { program := "ytoeockpkkmgieaa", sum := "4697333dadeb2bc24135af4c24fd0be3730c7033b06c0eb95ba8ecdb58c87e05", func := "tatting/tattinglaw18.MonoidElements", spec := "monoidElements", unfollowed := true, recurses := true, plainKeys := false, apart := false, narrowed := true }
def MonoidElementsUptoSaid : Prop := monoidElementsUptoRow.holds Try.pinned (OpenSpec.upto monoidElementsSpec)

/-- 'tattinglaw18.MonoidTexts', WHERE WHAT IT READS IS OF BULK AT MOST 1048576: true; the input reads as it did. -/
def monoidTextsUptoRow : OpenClaim := { program := "ytoeockpkkmgieaa", sum := "4697333dadeb2bc24135af4c24fd0be3730c7033b06c0eb95ba8ecdb58c87e05", func := "tatting/tattinglaw18.MonoidTexts", spec := "monoidTexts", unfollowed := true, recurses := true, plainKeys := false, apart := false, narrowed := true }
def MonoidTextsUptoSaid : Prop := monoidTextsUptoRow.holds Try.pinned (OpenSpec.upto monoidTextsSpec)

/-- 'tattinglaw18.MonoidTimes', WHERE WHAT IT READS IS OF BULK AT MOST 1048576: true; the input reads as it did. -/
def monoidTimesUptoRow : OpenClaim := { program := "ytoeockpkkmgieaa", sum := "4697333dadeb2bc24135af4c24fd0be3730c7033b06c0eb95ba8ecdb58c87e05", func := "tatting/tattinglaw18.MonoidTimes", spec := "monoidTimes", unfollowed := true, recurses := true, plainKeys := false, apart := false, narrowed := true }
def MonoidTimesUptoSaid : Prop := monoidTimesUptoRow.holds Try.pinned (OpenSpec.upto monoidTimesSpec)

/-- 'tattinglaw18.MonoidLoose', WHERE WHAT IT READS IS OF BULK AT MOST 1048576: true; the input reads as it did. -/
def monoidLooseUptoRow : OpenClaim := { program := "ytoeockpkkmgieaa", sum := "4697333dadeb2bc24135af4c24fd0be3730c7033b06c0eb95ba8ecdb58c87e05", func := "tatting/tattinglaw18.MonoidLoose", spec := "monoidLoose", unfollowed := true, recurses := true, plainKeys := false, apart := false, narrowed := true }
def MonoidLooseUptoSaid : Prop := monoidLooseUptoRow.holds Try.pinned (OpenSpec.upto monoidLooseSpec)

/-- 'tattinglaw12.DfaWords', WHERE WHAT IT READS IS OF BULK AT MOST 1048576: true; the input reads as it did. -/
def dfaWordsUptoRow : OpenClaim := { program := "ytoeockpkkmgieaa", sum := "4697333dadeb2bc24135af4c24fd0be3730c7033b06c0eb95ba8ecdb58c87e05", func := "tatting/tattinglaw12.DfaWords", spec := "dfaWords", unfollowed := true, recurses := true, plainKeys := false, apart := false, narrowed := true }
def DfaWordsUptoSaid : Prop := dfaWordsUptoRow.holds Try.pinned (OpenSpec.upto dfaWordsSpec)

/-- 'tattinglaw14.EqualApart', WHERE WHAT IT READS IS OF BULK AT MOST 1048576: true; the input reads as it did. -/
def equalApartUptoRow : OpenClaim := { program := "ytoeockpkkmgieaa", sum := "4697333dadeb2bc24135af4c24fd0be3730c7033b06c0eb95ba8ecdb58c87e05", func := "tatting/tattinglaw14.EqualApart", spec := "equalApart", unfollowed := true, recurses := true, plainKeys := false, apart := false, narrowed := true }
def EqualApartUptoSaid : Prop := equalApartUptoRow.holds Try.pinned (OpenSpec.upto equalApartSpec)

/-- 'tattinglaw14.EqualTells', WHERE WHAT IT READS IS OF BULK AT MOST 1048576: true; the input reads as it did. -/
def equalTellsUptoRow : OpenClaim := { program := "ytoeockpkkmgieaa", sum := "4697333dadeb2bc24135af4c24fd0be3730c7033b06c0eb95ba8ecdb58c87e05", func := "tatting/tattinglaw14.EqualTells", spec := "equalTells", unfollowed := true, recurses := true, plainKeys := false, apart := false, narrowed := true }
def EqualTellsUptoSaid : Prop := equalTellsUptoRow.holds Try.pinned (OpenSpec.upto equalTellsSpec)

/-- 'tattinglaw13.MiniBlocks', WHERE WHAT IT READS IS OF BULK AT MOST 1048576: true; the input reads as it did. -/
def miniBlocksUptoRow : OpenClaim := { program := "ytoeockpkkmgieaa", sum := "4697333dadeb2bc24135af4c24fd0be3730c7033b06c0eb95ba8ecdb58c87e05", func := "tatting/tattinglaw13.MiniBlocks", spec := "miniBlocks", unfollowed := true, recurses := true, plainKeys := false, apart := false, narrowed := true }
def MiniBlocksUptoSaid : Prop := miniBlocksUptoRow.holds Try.pinned (OpenSpec.upto miniBlocksSpec)

/-- 'tattinglaw13.MiniOnce', WHERE WHAT IT READS IS OF BULK AT MOST 1048576: true; the input reads as it did. -/
def miniOnceUptoRow : OpenClaim := { program := "ytoeockpkkmgieaa", sum := "4697333dadeb2bc24135af4c24fd0be3730c7033b06c0eb95ba8ecdb58c87e05", func := "tatting/tattinglaw13.MiniOnce", spec := "miniOnce", unfollowed := true, recurses := true, plainKeys := false, apart := false, narrowed := true }
def MiniOnceUptoSaid : Prop := miniOnceUptoRow.holds Try.pinned (OpenSpec.upto miniOnceSpec)

/-- 'tattinglaw13.MiniLeast', WHERE WHAT IT READS IS OF BULK AT MOST 1048576: true; the input reads as it did. -/
def miniLeastUptoRow : OpenClaim := { program := "ytoeockpkkmgieaa", sum := "4697333dadeb2bc24135af4c24fd0be3730c7033b06c0eb95ba8ecdb58c87e05", func := "tatting/tattinglaw13.MiniLeast", spec := "miniLeast", unfollowed := true, recurses := true, plainKeys := false, apart := false, narrowed := true }
def MiniLeastUptoSaid : Prop := miniLeastUptoRow.holds Try.pinned (OpenSpec.upto miniLeastSpec)

/-- 'tattinglaw14.EqualLeast', WHERE WHAT IT READS IS OF BULK AT MOST 1048576: true; the input reads as it did. -/
def equalLeastUptoRow : OpenClaim := { program := "ytoeockpkkmgieaa", sum := "4697333dadeb2bc24135af4c24fd0be3730c7033b06c0eb95ba8ecdb58c87e05", func := "tatting/tattinglaw14.EqualLeast", spec := "equalLeast", unfollowed := true, recurses := true, plainKeys := false, apart := false, narrowed := true }
def EqualLeastUptoSaid : Prop := equalLeastUptoRow.holds Try.pinned (OpenSpec.upto equalLeastSpec)

end Rows
end Go.Proofs.Ytoeockpkkmgieaa
