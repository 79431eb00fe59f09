/- What the program's tables say of types and functions, for walks. -/
import Derived.Test.YtkdcmklkggnblaaProg
import Derived.Test.YtkdcmklkggnblaaSx7
namespace Go.Proofs.Ytkdcmklkggnblaa
open Go Go.Sx
theorem sz2 : szOf Try.prog 2 = some (1, 8, some (.int .i64 0)) := by kernel_rfl
theorem sz3 : szOf Try.prog 3 = some (1, 8, some (.int .i64 0)) := by kernel_rfl
theorem sz4 : szOf Try.prog 4 = some (1, 1, some (.bool false)) := by kernel_rfl
theorem sz5 : szOf Try.prog 5 = some (1, 1, some (.int .u8 0)) := by kernel_rfl
theorem sz7 : szOf Try.prog 7 = some (4, 24, some (.agg #[.int .i64 0, .int .i64 0, .bool false, .int .u8 0])) := by kernel_rfl
theorem fld7_0 : fldOf Try.prog 7 0 = some (0, 1, false) := by kernel_rfl
theorem fld7_1 : fldOf Try.prog 7 1 = some (1, 1, false) := by kernel_rfl
theorem fld7_2 : fldOf Try.prog 7 2 = some (2, 1, false) := by kernel_rfl
theorem fld7_3 : fldOf Try.prog 7 3 = some (3, 1, false) := by kernel_rfl
theorem sz9 : szOf Try.prog 9 = some (1, 16, some (.string ⟨#[]⟩)) := by kernel_rfl
theorem sz12 : szOf Try.prog 12 = some (1, 8, some (.int .u64 0)) := by kernel_rfl
theorem sz13 : szOf Try.prog 13 = some (2, 24, some (.agg #[.string ⟨#[]⟩, .int .u64 0])) := by kernel_rfl
theorem fld13_0 : fldOf Try.prog 13 0 = some (0, 1, false) := by kernel_rfl
theorem fld13_1 : fldOf Try.prog 13 1 = some (1, 1, false) := by kernel_rfl
theorem sz18 : szOf Try.prog 18 = some (1, 8, some (.agg #[.pointer none])) := by kernel_rfl
theorem fld18_0 : fldOf Try.prog 18 0 = some (0, 1, false) := by kernel_rfl
theorem sz21 : szOf Try.prog 21 = some (1, 4, some (.int .i32 0)) := by kernel_rfl
theorem sz22 : szOf Try.prog 22 = some (1, 24, some (.slice none 0 0)) := by kernel_rfl
theorem sz24 : szOf Try.prog 24 = some (1, 8, some (.pointer none)) := by kernel_rfl
theorem sz26 : szOf Try.prog 26 = some (1, 24, some (.slice none 0 0)) := by kernel_rfl
theorem sz27 : szOf Try.prog 27 = some (3, 40, some (.agg #[.slice none 0 0, .int .i64 0, .int .i64 0])) := by kernel_rfl
theorem fld27_0 : fldOf Try.prog 27 0 = some (0, 1, false) := by kernel_rfl
theorem fld27_1 : fldOf Try.prog 27 1 = some (1, 1, false) := by kernel_rfl
theorem fld27_2 : fldOf Try.prog 27 2 = some (2, 1, false) := by kernel_rfl
theorem sz28 : szOf Try.prog 28 = some (3, 40, some (.agg #[.slice none 0 0, .int .i64 0, .int .i64 0])) := by kernel_rfl
theorem fld28_0 : fldOf Try.prog 28 0 = some (0, 1, false) := by kernel_rfl
theorem fld28_1 : fldOf Try.prog 28 1 = some (1, 1, false) := by kernel_rfl
theorem fld28_2 : fldOf Try.prog 28 2 = some (2, 1, false) := by kernel_rfl
theorem sz31 : szOf Try.prog 31 = some (2, 24, some (.agg #[.int .u8 0, .string ⟨#[]⟩])) := by kernel_rfl
theorem fld31_0 : fldOf Try.prog 31 0 = some (0, 1, false) := by kernel_rfl
theorem fld31_1 : fldOf Try.prog 31 1 = some (1, 1, false) := by kernel_rfl
theorem sz32 : szOf Try.prog 32 = some (2, 24, some (.agg #[.int .u8 0, .string ⟨#[]⟩])) := by kernel_rfl
theorem fld32_0 : fldOf Try.prog 32 0 = some (0, 1, false) := by kernel_rfl
theorem fld32_1 : fldOf Try.prog 32 1 = some (1, 1, false) := by kernel_rfl
theorem sz37 : szOf Try.prog 37 = some (1, 8, some (.int .i64 0)) := by kernel_rfl
theorem sz44 : szOf Try.prog 44 = some (1, 8, some (.pointer none)) := by kernel_rfl
theorem sz45 : szOf Try.prog 45 = some (2, 24, some (.agg #[.string ⟨#[]⟩, .int .i64 0])) := by kernel_rfl
theorem fld45_0 : fldOf Try.prog 45 0 = some (0, 1, false) := by kernel_rfl
theorem fld45_1 : fldOf Try.prog 45 1 = some (1, 1, false) := by kernel_rfl
theorem sz46 : szOf Try.prog 46 = some (2, 24, some (.agg #[.string ⟨#[]⟩, .int .i64 0])) := by kernel_rfl
theorem fld46_0 : fldOf Try.prog 46 0 = some (0, 1, false) := by kernel_rfl
theorem fld46_1 : fldOf Try.prog 46 1 = some (1, 1, false) := by kernel_rfl
theorem sz51 : szOf Try.prog 51 = some (1, 24, some (.slice none 0 0)) := by kernel_rfl
theorem sz52 : szOf Try.prog 52 = some (2, 40, some (.agg #[.slice none 0 0, .string ⟨#[]⟩])) := by kernel_rfl
theorem fld52_0 : fldOf Try.prog 52 0 = some (0, 1, false) := by kernel_rfl
theorem fld52_1 : fldOf Try.prog 52 1 = some (1, 1, false) := by kernel_rfl
theorem sz53 : szOf Try.prog 53 = some (2, 40, some (.agg #[.slice none 0 0, .string ⟨#[]⟩])) := by kernel_rfl
theorem fld53_0 : fldOf Try.prog 53 0 = some (0, 1, false) := by kernel_rfl
theorem fld53_1 : fldOf Try.prog 53 1 = some (1, 1, false) := by kernel_rfl
theorem sz54 : szOf Try.prog 54 = some (5, 48, some (.agg #[.int .i64 0, .int .i64 0, .int .i64 0, .int .i64 0, .string ⟨#[]⟩])) := by kernel_rfl
theorem fld54_0 : fldOf Try.prog 54 0 = some (0, 1, false) := by kernel_rfl
theorem fld54_1 : fldOf Try.prog 54 1 = some (1, 1, false) := by kernel_rfl
theorem fld54_2 : fldOf Try.prog 54 2 = some (2, 1, false) := by kernel_rfl
theorem fld54_3 : fldOf Try.prog 54 3 = some (3, 1, false) := by kernel_rfl
theorem fld54_4 : fldOf Try.prog 54 4 = some (4, 1, false) := by kernel_rfl
theorem sz55 : szOf Try.prog 55 = some (5, 48, some (.agg #[.int .i64 0, .int .i64 0, .int .i64 0, .int .i64 0, .string ⟨#[]⟩])) := by kernel_rfl
theorem fld55_0 : fldOf Try.prog 55 0 = some (0, 1, false) := by kernel_rfl
theorem fld55_1 : fldOf Try.prog 55 1 = some (1, 1, false) := by kernel_rfl
theorem fld55_2 : fldOf Try.prog 55 2 = some (2, 1, false) := by kernel_rfl
theorem fld55_3 : fldOf Try.prog 55 3 = some (3, 1, false) := by kernel_rfl
theorem fld55_4 : fldOf Try.prog 55 4 = some (4, 1, false) := by kernel_rfl
theorem sz70 : szOf Try.prog 70 = some (1, 24, some (.slice none 0 0)) := by kernel_rfl
theorem sz74 : szOf Try.prog 74 = some (1, 24, some (.slice none 0 0)) := by kernel_rfl
theorem sz78 : szOf Try.prog 78 = some (4, 72, some (.agg #[.slice none 0 0, .slice none 0 0, .string ⟨#[]⟩, .int .i64 0])) := by kernel_rfl
theorem fld78_0 : fldOf Try.prog 78 0 = some (0, 1, false) := by kernel_rfl
theorem fld78_1 : fldOf Try.prog 78 1 = some (1, 1, false) := by kernel_rfl
theorem fld78_2 : fldOf Try.prog 78 2 = some (2, 1, false) := by kernel_rfl
theorem fld78_3 : fldOf Try.prog 78 3 = some (3, 1, false) := by kernel_rfl
theorem sz79 : szOf Try.prog 79 = some (4, 72, some (.agg #[.slice none 0 0, .slice none 0 0, .string ⟨#[]⟩, .int .i64 0])) := by kernel_rfl
theorem fld79_0 : fldOf Try.prog 79 0 = some (0, 1, false) := by kernel_rfl
theorem fld79_1 : fldOf Try.prog 79 1 = some (1, 1, false) := by kernel_rfl
theorem fld79_2 : fldOf Try.prog 79 2 = some (2, 1, false) := by kernel_rfl
theorem fld79_3 : fldOf Try.prog 79 3 = some (3, 1, false) := by kernel_rfl
theorem sz86 : szOf Try.prog 86 = some (3, 40, some (.agg #[.string ⟨#[]⟩, .string ⟨#[]⟩, .bool false])) := by kernel_rfl
theorem fld86_0 : fldOf Try.prog 86 0 = some (0, 1, false) := by kernel_rfl
theorem fld86_1 : fldOf Try.prog 86 1 = some (1, 1, false) := by kernel_rfl
theorem fld86_2 : fldOf Try.prog 86 2 = some (2, 1, false) := by kernel_rfl
theorem sz87 : szOf Try.prog 87 = some (3, 40, some (.agg #[.string ⟨#[]⟩, .string ⟨#[]⟩, .bool false])) := by kernel_rfl
theorem fld87_0 : fldOf Try.prog 87 0 = some (0, 1, false) := by kernel_rfl
theorem fld87_1 : fldOf Try.prog 87 1 = some (1, 1, false) := by kernel_rfl
theorem fld87_2 : fldOf Try.prog 87 2 = some (2, 1, false) := by kernel_rfl
theorem sz90 : szOf Try.prog 90 = some (1, 8, some (.pointer none)) := by kernel_rfl
theorem sz92 : szOf Try.prog 92 = some (1, 8, some (.pointer none)) := by kernel_rfl
theorem sz93 : szOf Try.prog 93 = some (4, 4, some (.agg #[.bool false, .bool false, .bool false, .bool false])) := by kernel_rfl
theorem sz95 : szOf Try.prog 95 = some (3, 24, some (.agg #[.int .i64 0, .int .i64 0, .int .i64 0])) := by kernel_rfl
theorem sz96 : szOf Try.prog 96 = some (1, 24, some (.slice none 0 0)) := by kernel_rfl
theorem sz101 : szOf Try.prog 101 = some (4, 56, some (.agg #[.int .i64 0, .int .i64 0, .slice none 0 0, .string ⟨#[]⟩])) := by kernel_rfl
theorem fld101_0 : fldOf Try.prog 101 0 = some (0, 1, false) := by kernel_rfl
theorem fld101_1 : fldOf Try.prog 101 1 = some (1, 1, false) := by kernel_rfl
theorem fld101_2 : fldOf Try.prog 101 2 = some (2, 1, false) := by kernel_rfl
theorem fld101_3 : fldOf Try.prog 101 3 = some (3, 1, false) := by kernel_rfl
theorem sz102 : szOf Try.prog 102 = some (4, 56, some (.agg #[.int .i64 0, .int .i64 0, .slice none 0 0, .string ⟨#[]⟩])) := by kernel_rfl
theorem fld102_0 : fldOf Try.prog 102 0 = some (0, 1, false) := by kernel_rfl
theorem fld102_1 : fldOf Try.prog 102 1 = some (1, 1, false) := by kernel_rfl
theorem fld102_2 : fldOf Try.prog 102 2 = some (2, 1, false) := by kernel_rfl
theorem fld102_3 : fldOf Try.prog 102 3 = some (3, 1, false) := by kernel_rfl
theorem sz105 : szOf Try.prog 105 = some (1, 8, some (.nilFunc)) := by kernel_rfl
theorem sz106 : szOf Try.prog 106 = some (1, 8, some (.pointer none)) := by kernel_rfl
theorem sz109 : szOf Try.prog 109 = some (4, 40, some (.agg #[.pointer none, .pointer none, .pointer none, .string ⟨#[]⟩])) := by kernel_rfl
theorem fld109_0 : fldOf Try.prog 109 0 = some (0, 1, false) := by kernel_rfl
theorem fld109_1 : fldOf Try.prog 109 1 = some (1, 1, false) := by kernel_rfl
theorem fld109_2 : fldOf Try.prog 109 2 = some (2, 1, false) := by kernel_rfl
theorem fld109_3 : fldOf Try.prog 109 3 = some (3, 1, false) := by kernel_rfl
theorem sz111 : szOf Try.prog 111 = some (0, 0, some (.agg #[])) := by kernel_rfl
theorem sz112 : szOf Try.prog 112 = some (0, 0, some (.agg #[])) := by kernel_rfl
theorem fld112_0 : fldOf Try.prog 112 0 = some (0, 0, true) := by kernel_rfl
theorem sz115 : szOf Try.prog 115 = some (1, 4, some (.int .u32 0)) := by kernel_rfl
theorem sz119 : szOf Try.prog 119 = some (1, 8, some (.pointer none)) := by kernel_rfl
theorem sz122 : szOf Try.prog 122 = some (11, 48, some (.agg #[.int .u64 0, .int .u64 0, .int .u32 0, .int .u8 0, .int .u8 0, .int .u8 0, .int .u8 0, .nilFunc, .pointer none, .int .i32 0, .int .i32 0])) := by kernel_rfl
theorem fld122_0 : fldOf Try.prog 122 0 = some (0, 1, false) := by kernel_rfl
theorem fld122_1 : fldOf Try.prog 122 1 = some (1, 1, false) := by kernel_rfl
theorem fld122_2 : fldOf Try.prog 122 2 = some (2, 1, false) := by kernel_rfl
theorem fld122_3 : fldOf Try.prog 122 3 = some (3, 1, false) := by kernel_rfl
theorem fld122_4 : fldOf Try.prog 122 4 = some (4, 1, false) := by kernel_rfl
theorem fld122_5 : fldOf Try.prog 122 5 = some (5, 1, false) := by kernel_rfl
theorem fld122_6 : fldOf Try.prog 122 6 = some (6, 1, false) := by kernel_rfl
theorem fld122_7 : fldOf Try.prog 122 7 = some (7, 1, false) := by kernel_rfl
theorem fld122_8 : fldOf Try.prog 122 8 = some (8, 1, false) := by kernel_rfl
theorem fld122_9 : fldOf Try.prog 122 9 = some (9, 1, false) := by kernel_rfl
theorem fld122_10 : fldOf Try.prog 122 10 = some (10, 1, false) := by kernel_rfl
theorem sz124 : szOf Try.prog 124 = some (1, 8, some (.pointer none)) := by kernel_rfl
theorem ok3 : CallOk Try.prog 3 := callOk Try.func3 (by decide) rfl
theorem ok4 : CallOk Try.prog 4 := callOk Try.func4 (by decide) rfl
theorem ok5 : CallOk Try.prog 5 := callOk Try.func5 (by decide) rfl
theorem ok6 : CallOk Try.prog 6 := callOk Try.func6 (by decide) rfl
theorem ok7 : CallOk Try.prog 7 := callOk Try.func7 (by decide) rfl
theorem ok8 : CallOk Try.prog 8 := callOk Try.func8 (by decide) rfl
theorem ok9 : CallOk Try.prog 9 := callOk Try.func9 (by decide) rfl
theorem ok10 : CallOk Try.prog 10 := callOk Try.func10 (by decide) rfl
theorem ok11 : CallOk Try.prog 11 := callOk Try.func11 (by decide) rfl
theorem ok12 : CallOk Try.prog 12 := callOk Try.func12 (by decide) rfl
theorem ok13 : CallOk Try.prog 13 := callOk Try.func13 (by decide) rfl
theorem ok14 : CallOk Try.prog 14 := callOk Try.func14 (by decide) rfl
theorem ok15 : CallOk Try.prog 15 := callOk Try.func15 (by decide) rfl
theorem ok16 : CallOk Try.prog 16 := callOk Try.func16 (by decide) rfl
theorem ok17 : CallOk Try.prog 17 := callOk Try.func17 (by decide) rfl
theorem ok18 : CallOk Try.prog 18 := callOk Try.func18 (by decide) rfl
theorem ok19 : CallOk Try.prog 19 := callOk Try.func19 (by decide) rfl
theorem ok20 : CallOk Try.prog 20 := callOk Try.func20 (by decide) rfl
theorem ok21 : CallOk Try.prog 21 := callOk Try.func21 (by decide) rfl
theorem ok22 : CallOk Try.prog 22 := callOk Try.func22 (by decide) rfl
theorem ok23 : CallOk Try.prog 23 := callOk Try.func23 (by decide) rfl
theorem ok24 : CallOk Try.prog 24 := callOk Try.func24 (by decide) rfl
theorem ok25 : CallOk Try.prog 25 := callOk Try.func25 (by decide) rfl
theorem ok26 : CallOk Try.prog 26 := callOk Try.func26 (by decide) rfl
theorem ok27 : CallOk Try.prog 27 := callOk Try.func27 (by decide) rfl
theorem ok28 : CallOk Try.prog 28 := callOk Try.func28 (by decide) rfl
theorem ok29 : CallOk Try.prog 29 := callOk Try.func29 (by decide) rfl
theorem ok30 : CallOk Try.prog 30 := callOk Try.func30 (by decide) rfl
theorem ok31 : CallOk Try.prog 31 := callOk Try.func31 (by decide) rfl
theorem ok32 : CallOk Try.prog 32 := callOk Try.func32 (by decide) rfl
theorem ok33 : CallOk Try.prog 33 := callOk Try.func33 (by decide) rfl
theorem ok34 : CallOk Try.prog 34 := callOk Try.func34 (by decide) rfl
theorem ok35 : CallOk Try.prog 35 := callOk Try.func35 (by decide) rfl
theorem ok36 : CallOk Try.prog 36 := callOk Try.func36 (by decide) rfl
theorem ok37 : CallOk Try.prog 37 := callOk Try.func37 (by decide) rfl
theorem ok38 : CallOk Try.prog 38 := callOk Try.func38 (by decide) rfl
theorem ok39 : CallOk Try.prog 39 := callOk Try.func39 (by decide) rfl
theorem ok40 : CallOk Try.prog 40 := callOk Try.func40 (by decide) rfl
theorem ok41 : CallOk Try.prog 41 := callOk Try.func41 (by decide) rfl
theorem ok42 : CallOk Try.prog 42 := callOk Try.func42 (by decide) rfl
theorem ok43 : CallOk Try.prog 43 := callOk Try.func43 (by decide) rfl
theorem ok44 : CallOk Try.prog 44 := callOk Try.func44 (by decide) rfl
theorem ok45 : CallOk Try.prog 45 := callOk Try.func45 (by decide) rfl
theorem ok46 : CallOk Try.prog 46 := callOk Try.func46 (by decide) rfl
theorem ok47 : CallOk Try.prog 47 := callOk Try.func47 (by decide) rfl
theorem ok48 : CallOk Try.prog 48 := callOk Try.func48 (by decide) rfl
theorem ok49 : CallOk Try.prog 49 := callOk Try.func49 (by decide) rfl
theorem ok50 : CallOk Try.prog 50 := callOk Try.func50 (by decide) rfl
theorem ok51 : CallOk Try.prog 51 := callOk Try.func51 (by decide) rfl
theorem ok52 : CallOk Try.prog 52 := callOk Try.func52 (by decide) rfl
theorem ok53 : CallOk Try.prog 53 := callOk Try.func53 (by decide) rfl
theorem ok54 : CallOk Try.prog 54 := callOk Try.func54 (by decide) rfl
theorem ok55 : CallOk Try.prog 55 := callOk Try.func55 (by decide) rfl
theorem ok56 : CallOk Try.prog 56 := callOk Try.func56 (by decide) rfl
theorem ok57 : CallOk Try.prog 57 := callOk Try.func57 (by decide) rfl
theorem ok58 : CallOk Try.prog 58 := callOk Try.func58 (by decide) rfl
theorem ok59 : CallOk Try.prog 59 := callOk Try.func59 (by decide) rfl
theorem ok60 : CallOk Try.prog 60 := callOk Try.func60 (by decide) rfl
theorem ok61 : CallOk Try.prog 61 := callOk Try.func61 (by decide) rfl
theorem ok62 : CallOk Try.prog 62 := callOk Try.func62 (by decide) rfl
theorem mixed : Try.prog.follows .mixedOrders = true := by kernel_rfl
end Go.Proofs.Ytkdcmklkggnblaa
