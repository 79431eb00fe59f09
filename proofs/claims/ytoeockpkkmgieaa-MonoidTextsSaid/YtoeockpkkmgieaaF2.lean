/- What the program's tables say of types and functions, for walks. -/
import Derived.Test.YtoeockpkkmgieaaProg
import Derived.Test.YtoeockpkkmgieaaSx7
namespace Go.Proofs.Ytoeockpkkmgieaa
open Go Go.Sx
theorem sz2 : szOf Try.prog 2 = some (1, 8, some (.int .i64 0)) := by kernel_rfl
theorem sz3 : szOf Try.prog 3 = some (1, 8, some (.int .i64 0)) := by kernel_rfl
theorem sz4 : szOf Try.prog 4 = some (1, 1, some (.bool false)) := by kernel_rfl
theorem sz5 : szOf Try.prog 5 = some (1, 1, some (.int .u8 0)) := by kernel_rfl
theorem sz7 : szOf Try.prog 7 = some (4, 24, some (.agg #[.int .i64 0, .int .i64 0, .bool false, .int .u8 0])) := by kernel_rfl
theorem fld7_0 : fldOf Try.prog 7 0 = some (0, 1, false) := by kernel_rfl
theorem fld7_1 : fldOf Try.prog 7 1 = some (1, 1, false) := by kernel_rfl
theorem fld7_2 : fldOf Try.prog 7 2 = some (2, 1, false) := by kernel_rfl
theorem fld7_3 : fldOf Try.prog 7 3 = some (3, 1, false) := by kernel_rfl
theorem sz9 : szOf Try.prog 9 = some (1, 16, some (.string ⟨#[]⟩)) := by kernel_rfl
theorem sz12 : szOf Try.prog 12 = some (1, 8, some (.int .u64 0)) := by kernel_rfl
theorem sz13 : szOf Try.prog 13 = some (2, 24, some (.agg #[.string ⟨#[]⟩, .int .u64 0])) := by kernel_rfl
theorem fld13_0 : fldOf Try.prog 13 0 = some (0, 1, false) := by kernel_rfl
theorem fld13_1 : fldOf Try.prog 13 1 = some (1, 1, false) := by kernel_rfl
theorem sz18 : szOf Try.prog 18 = some (1, 8, some (.agg #[.pointer none])) := by kernel_rfl
theorem fld18_0 : fldOf Try.prog 18 0 = some (0, 1, false) := by kernel_rfl
theorem sz21 : szOf Try.prog 21 = some (1, 4, some (.int .i32 0)) := by kernel_rfl
theorem sz22 : szOf Try.prog 22 = some (1, 24, some (.slice none 0 0)) := by kernel_rfl
theorem sz23 : szOf Try.prog 23 = some (1, 24, some (.slice none 0 0)) := by kernel_rfl
theorem sz24 : szOf Try.prog 24 = some (5, 88, some (.agg #[.slice none 0 0, .int .i64 0, .int .i64 0, .slice none 0 0, .slice none 0 0])) := by kernel_rfl
theorem fld24_0 : fldOf Try.prog 24 0 = some (0, 1, false) := by kernel_rfl
theorem fld24_1 : fldOf Try.prog 24 1 = some (1, 1, false) := by kernel_rfl
theorem fld24_2 : fldOf Try.prog 24 2 = some (2, 1, false) := by kernel_rfl
theorem fld24_3 : fldOf Try.prog 24 3 = some (3, 1, false) := by kernel_rfl
theorem fld24_4 : fldOf Try.prog 24 4 = some (4, 1, false) := by kernel_rfl
theorem sz25 : szOf Try.prog 25 = some (5, 88, some (.agg #[.slice none 0 0, .int .i64 0, .int .i64 0, .slice none 0 0, .slice none 0 0])) := by kernel_rfl
theorem fld25_0 : fldOf Try.prog 25 0 = some (0, 1, false) := by kernel_rfl
theorem fld25_1 : fldOf Try.prog 25 1 = some (1, 1, false) := by kernel_rfl
theorem fld25_2 : fldOf Try.prog 25 2 = some (2, 1, false) := by kernel_rfl
theorem fld25_3 : fldOf Try.prog 25 3 = some (3, 1, false) := by kernel_rfl
theorem fld25_4 : fldOf Try.prog 25 4 = some (4, 1, false) := by kernel_rfl
theorem sz29 : szOf Try.prog 29 = some (1, 24, some (.slice none 0 0)) := by kernel_rfl
theorem sz35 : szOf Try.prog 35 = some (1, 24, some (.slice none 0 0)) := by kernel_rfl
theorem sz36 : szOf Try.prog 36 = some (1, 8, some (.int .i64 0)) := by kernel_rfl
theorem sz41 : szOf Try.prog 41 = some (1, 24, some (.slice none 0 0)) := by kernel_rfl
theorem sz44 : szOf Try.prog 44 = some (2, 40, some (.agg #[.slice none 0 0, .string ⟨#[]⟩])) := by kernel_rfl
theorem fld44_0 : fldOf Try.prog 44 0 = some (0, 1, false) := by kernel_rfl
theorem fld44_1 : fldOf Try.prog 44 1 = some (1, 1, false) := by kernel_rfl
theorem sz45 : szOf Try.prog 45 = some (2, 40, some (.agg #[.slice none 0 0, .string ⟨#[]⟩])) := by kernel_rfl
theorem fld45_0 : fldOf Try.prog 45 0 = some (0, 1, false) := by kernel_rfl
theorem fld45_1 : fldOf Try.prog 45 1 = some (1, 1, false) := by kernel_rfl
theorem sz46 : szOf Try.prog 46 = some (2, 40, some (.agg #[.slice none 0 0, .string ⟨#[]⟩])) := by kernel_rfl
theorem fld46_0 : fldOf Try.prog 46 0 = some (0, 1, false) := by kernel_rfl
theorem fld46_1 : fldOf Try.prog 46 1 = some (1, 1, false) := by kernel_rfl
theorem sz54 : szOf Try.prog 54 = some (2, 16, some (.agg #[.int .i64 0, .int .i64 0])) := by kernel_rfl
theorem sz58 : szOf Try.prog 58 = some (10, 176, some (.agg #[.slice none 0 0, .int .i64 0, .int .i64 0, .slice none 0 0, .slice none 0 0, .slice none 0 0, .int .i64 0, .int .i64 0, .slice none 0 0, .slice none 0 0])) := by kernel_rfl
theorem sz77 : szOf Try.prog 77 = some (1, 24, some (.slice none 0 0)) := by kernel_rfl
theorem sz84 : szOf Try.prog 84 = some (1, 8, some (.map none)) := by kernel_rfl
theorem sz85 : szOf Try.prog 85 = some (1, 24, some (.slice none 0 0)) := by kernel_rfl
theorem sz98 : szOf Try.prog 98 = some (1, 8, some (.pointer none)) := by kernel_rfl
theorem sz99 : szOf Try.prog 99 = some (1, 8, some (.map none)) := by kernel_rfl
theorem sz100 : szOf Try.prog 100 = some (1, 24, some (.slice none 0 0)) := by kernel_rfl
theorem sz101 : szOf Try.prog 101 = some (12, 208, some (.agg #[.slice none 0 0, .int .i64 0, .int .i64 0, .slice none 0 0, .slice none 0 0, .slice none 0 0, .int .i64 0, .int .i64 0, .slice none 0 0, .slice none 0 0, .slice none 0 0, .map none])) := by kernel_rfl
theorem fld101_0 : fldOf Try.prog 101 0 = some (0, 5, true) := by kernel_rfl
theorem fld101_1 : fldOf Try.prog 101 1 = some (5, 5, true) := by kernel_rfl
theorem fld101_2 : fldOf Try.prog 101 2 = some (10, 1, false) := by kernel_rfl
theorem fld101_3 : fldOf Try.prog 101 3 = some (11, 1, false) := by kernel_rfl
theorem sz102 : szOf Try.prog 102 = some (12, 208, some (.agg #[.slice none 0 0, .int .i64 0, .int .i64 0, .slice none 0 0, .slice none 0 0, .slice none 0 0, .int .i64 0, .int .i64 0, .slice none 0 0, .slice none 0 0, .slice none 0 0, .map none])) := by kernel_rfl
theorem fld102_0 : fldOf Try.prog 102 0 = some (0, 5, true) := by kernel_rfl
theorem fld102_1 : fldOf Try.prog 102 1 = some (5, 5, true) := by kernel_rfl
theorem fld102_2 : fldOf Try.prog 102 2 = some (10, 1, false) := by kernel_rfl
theorem fld102_3 : fldOf Try.prog 102 3 = some (11, 1, false) := by kernel_rfl
theorem sz104 : szOf Try.prog 104 = some (2, 16, some (.agg #[.int .i64 0, .int .i64 0])) := by kernel_rfl
theorem fld104_0 : fldOf Try.prog 104 0 = some (0, 1, false) := by kernel_rfl
theorem fld104_1 : fldOf Try.prog 104 1 = some (1, 1, false) := by kernel_rfl
theorem sz105 : szOf Try.prog 105 = some (2, 16, some (.agg #[.int .i64 0, .int .i64 0])) := by kernel_rfl
theorem fld105_0 : fldOf Try.prog 105 0 = some (0, 1, false) := by kernel_rfl
theorem fld105_1 : fldOf Try.prog 105 1 = some (1, 1, false) := by kernel_rfl
theorem sz106 : szOf Try.prog 106 = some (4, 32, some (.agg #[.int .i64 0, .int .i64 0, .int .i64 0, .int .i64 0])) := by kernel_rfl
theorem fld106_0 : fldOf Try.prog 106 0 = some (0, 2, true) := by kernel_rfl
theorem fld106_1 : fldOf Try.prog 106 1 = some (2, 1, false) := by kernel_rfl
theorem fld106_2 : fldOf Try.prog 106 2 = some (3, 1, false) := by kernel_rfl
theorem sz107 : szOf Try.prog 107 = some (4, 32, some (.agg #[.int .i64 0, .int .i64 0, .int .i64 0, .int .i64 0])) := by kernel_rfl
theorem fld107_0 : fldOf Try.prog 107 0 = some (0, 2, true) := by kernel_rfl
theorem fld107_1 : fldOf Try.prog 107 1 = some (2, 1, false) := by kernel_rfl
theorem fld107_2 : fldOf Try.prog 107 2 = some (3, 1, false) := by kernel_rfl
theorem sz108 : szOf Try.prog 108 = some (3, 40, some (.agg #[.int .i64 0, .int .i64 0, .slice none 0 0])) := by kernel_rfl
theorem fld108_0 : fldOf Try.prog 108 0 = some (0, 1, false) := by kernel_rfl
theorem fld108_1 : fldOf Try.prog 108 1 = some (1, 1, false) := by kernel_rfl
theorem fld108_2 : fldOf Try.prog 108 2 = some (2, 1, false) := by kernel_rfl
theorem sz109 : szOf Try.prog 109 = some (3, 40, some (.agg #[.int .i64 0, .int .i64 0, .slice none 0 0])) := by kernel_rfl
theorem fld109_0 : fldOf Try.prog 109 0 = some (0, 1, false) := by kernel_rfl
theorem fld109_1 : fldOf Try.prog 109 1 = some (1, 1, false) := by kernel_rfl
theorem fld109_2 : fldOf Try.prog 109 2 = some (2, 1, false) := by kernel_rfl
theorem sz110 : szOf Try.prog 110 = some (1, 24, some (.slice none 0 0)) := by kernel_rfl
theorem sz112 : szOf Try.prog 112 = some (1, 8, some (.pointer none)) := by kernel_rfl
theorem sz114 : szOf Try.prog 114 = some (1, 24, some (.slice none 0 0)) := by kernel_rfl
theorem sz115 : szOf Try.prog 115 = some (1, 24, some (.slice none 0 0)) := by kernel_rfl
theorem sz116 : szOf Try.prog 116 = some (5, 120, some (.agg #[.slice none 0 0, .slice none 0 0, .slice none 0 0, .slice none 0 0, .slice none 0 0])) := by kernel_rfl
theorem fld116_0 : fldOf Try.prog 116 0 = some (0, 1, false) := by kernel_rfl
theorem fld116_1 : fldOf Try.prog 116 1 = some (1, 1, false) := by kernel_rfl
theorem fld116_2 : fldOf Try.prog 116 2 = some (2, 1, false) := by kernel_rfl
theorem fld116_3 : fldOf Try.prog 116 3 = some (3, 1, false) := by kernel_rfl
theorem fld116_4 : fldOf Try.prog 116 4 = some (4, 1, false) := by kernel_rfl
theorem sz117 : szOf Try.prog 117 = some (5, 120, some (.agg #[.slice none 0 0, .slice none 0 0, .slice none 0 0, .slice none 0 0, .slice none 0 0])) := by kernel_rfl
theorem fld117_0 : fldOf Try.prog 117 0 = some (0, 1, false) := by kernel_rfl
theorem fld117_1 : fldOf Try.prog 117 1 = some (1, 1, false) := by kernel_rfl
theorem fld117_2 : fldOf Try.prog 117 2 = some (2, 1, false) := by kernel_rfl
theorem fld117_3 : fldOf Try.prog 117 3 = some (3, 1, false) := by kernel_rfl
theorem fld117_4 : fldOf Try.prog 117 4 = some (4, 1, false) := by kernel_rfl
theorem sz118 : szOf Try.prog 118 = some (2, 16, some (.agg #[.int .i64 0, .int .i64 0])) := by kernel_rfl
theorem fld118_0 : fldOf Try.prog 118 0 = some (0, 1, false) := by kernel_rfl
theorem fld118_1 : fldOf Try.prog 118 1 = some (1, 1, false) := by kernel_rfl
theorem sz119 : szOf Try.prog 119 = some (2, 16, some (.agg #[.int .i64 0, .int .i64 0])) := by kernel_rfl
theorem fld119_0 : fldOf Try.prog 119 0 = some (0, 1, false) := by kernel_rfl
theorem fld119_1 : fldOf Try.prog 119 1 = some (1, 1, false) := by kernel_rfl
theorem sz126 : szOf Try.prog 126 = some (1, 8, some (.int .u64 0)) := by kernel_rfl
theorem sz128 : szOf Try.prog 128 = some (1, 8, some (.map none)) := by kernel_rfl
theorem sz129 : szOf Try.prog 129 = some (2, 16, some (.agg #[.int .i64 0, .int .i64 0])) := by kernel_rfl
theorem fld129_0 : fldOf Try.prog 129 0 = some (0, 1, false) := by kernel_rfl
theorem fld129_1 : fldOf Try.prog 129 1 = some (1, 1, false) := by kernel_rfl
theorem sz130 : szOf Try.prog 130 = some (2, 16, some (.agg #[.int .i64 0, .int .i64 0])) := by kernel_rfl
theorem fld130_0 : fldOf Try.prog 130 0 = some (0, 1, false) := by kernel_rfl
theorem fld130_1 : fldOf Try.prog 130 1 = some (1, 1, false) := by kernel_rfl
theorem sz133 : szOf Try.prog 133 = some (1, 8, some (.map none)) := by kernel_rfl
theorem sz135 : szOf Try.prog 135 = some (1, 8, some (.map none)) := by kernel_rfl
theorem sz142 : szOf Try.prog 142 = some (1, 8, some (.int .i64 0)) := by kernel_rfl
theorem sz150 : szOf Try.prog 150 = some (1, 4, some (.int .u32 0)) := by kernel_rfl
theorem sz152 : szOf Try.prog 152 = some (1, 8, some (.int .u64 0)) := by kernel_rfl
theorem sz159 : szOf Try.prog 159 = some (1, 8, some (.int .u64 0)) := by kernel_rfl
theorem sz163 : szOf Try.prog 163 = some (1, 8, some (.pointer none)) := by kernel_rfl
theorem sz168 : szOf Try.prog 168 = some (1, 8, some (.pointer none)) := by kernel_rfl
theorem sz173 : szOf Try.prog 173 = some (4, 40, some (.agg #[.pointer none, .pointer none, .pointer none, .string ⟨#[]⟩])) := by kernel_rfl
theorem fld173_0 : fldOf Try.prog 173 0 = some (0, 1, false) := by kernel_rfl
theorem fld173_1 : fldOf Try.prog 173 1 = some (1, 1, false) := by kernel_rfl
theorem fld173_2 : fldOf Try.prog 173 2 = some (2, 1, false) := by kernel_rfl
theorem fld173_3 : fldOf Try.prog 173 3 = some (3, 1, false) := by kernel_rfl
theorem sz175 : szOf Try.prog 175 = some (0, 0, some (.agg #[])) := by kernel_rfl
theorem sz176 : szOf Try.prog 176 = some (0, 0, some (.agg #[])) := by kernel_rfl
theorem fld176_0 : fldOf Try.prog 176 0 = some (0, 0, true) := by kernel_rfl
theorem sz182 : szOf Try.prog 182 = some (1, 8, some (.pointer none)) := by kernel_rfl
theorem sz185 : szOf Try.prog 185 = some (11, 48, some (.agg #[.int .u64 0, .int .u64 0, .int .u32 0, .int .u8 0, .int .u8 0, .int .u8 0, .int .u8 0, .nilFunc, .pointer none, .int .i32 0, .int .i32 0])) := by kernel_rfl
theorem fld185_0 : fldOf Try.prog 185 0 = some (0, 1, false) := by kernel_rfl
theorem fld185_1 : fldOf Try.prog 185 1 = some (1, 1, false) := by kernel_rfl
theorem fld185_2 : fldOf Try.prog 185 2 = some (2, 1, false) := by kernel_rfl
theorem fld185_3 : fldOf Try.prog 185 3 = some (3, 1, false) := by kernel_rfl
theorem fld185_4 : fldOf Try.prog 185 4 = some (4, 1, false) := by kernel_rfl
theorem fld185_5 : fldOf Try.prog 185 5 = some (5, 1, false) := by kernel_rfl
theorem fld185_6 : fldOf Try.prog 185 6 = some (6, 1, false) := by kernel_rfl
theorem fld185_7 : fldOf Try.prog 185 7 = some (7, 1, false) := by kernel_rfl
theorem fld185_8 : fldOf Try.prog 185 8 = some (8, 1, false) := by kernel_rfl
theorem fld185_9 : fldOf Try.prog 185 9 = some (9, 1, false) := by kernel_rfl
theorem fld185_10 : fldOf Try.prog 185 10 = some (10, 1, false) := by kernel_rfl
theorem sz187 : szOf Try.prog 187 = some (1, 8, some (.pointer none)) := by kernel_rfl
theorem ok3 : CallOk Try.prog 3 := callOk Try.func3 (by decide) rfl
theorem ok4 : CallOk Try.prog 4 := callOk Try.func4 (by decide) rfl
theorem ok5 : CallOk Try.prog 5 := callOk Try.func5 (by decide) rfl
theorem ok6 : CallOk Try.prog 6 := callOk Try.func6 (by decide) rfl
theorem ok7 : CallOk Try.prog 7 := callOk Try.func7 (by decide) rfl
theorem ok8 : CallOk Try.prog 8 := callOk Try.func8 (by decide) rfl
theorem ok9 : CallOk Try.prog 9 := callOk Try.func9 (by decide) rfl
theorem ok10 : CallOk Try.prog 10 := callOk Try.func10 (by decide) rfl
theorem ok11 : CallOk Try.prog 11 := callOk Try.func11 (by decide) rfl
theorem ok12 : CallOk Try.prog 12 := callOk Try.func12 (by decide) rfl
theorem ok13 : CallOk Try.prog 13 := callOk Try.func13 (by decide) rfl
theorem ok14 : CallOk Try.prog 14 := callOk Try.func14 (by decide) rfl
theorem ok15 : CallOk Try.prog 15 := callOk Try.func15 (by decide) rfl
theorem ok16 : CallOk Try.prog 16 := callOk Try.func16 (by decide) rfl
theorem ok17 : CallOk Try.prog 17 := callOk Try.func17 (by decide) rfl
theorem ok18 : CallOk Try.prog 18 := callOk Try.func18 (by decide) rfl
theorem ok19 : CallOk Try.prog 19 := callOk Try.func19 (by decide) rfl
theorem ok20 : CallOk Try.prog 20 := callOk Try.func20 (by decide) rfl
theorem ok21 : CallOk Try.prog 21 := callOk Try.func21 (by decide) rfl
theorem ok22 : CallOk Try.prog 22 := callOk Try.func22 (by decide) rfl
theorem ok23 : CallOk Try.prog 23 := callOk Try.func23 (by decide) rfl
theorem ok24 : CallOk Try.prog 24 := callOk Try.func24 (by decide) rfl
theorem ok25 : CallOk Try.prog 25 := callOk Try.func25 (by decide) rfl
theorem ok26 : CallOk Try.prog 26 := callOk Try.func26 (by decide) rfl
theorem ok27 : CallOk Try.prog 27 := callOk Try.func27 (by decide) rfl
theorem ok28 : CallOk Try.prog 28 := callOk Try.func28 (by decide) rfl
theorem ok29 : CallOk Try.prog 29 := callOk Try.func29 (by decide) rfl
theorem ok30 : CallOk Try.prog 30 := callOk Try.func30 (by decide) rfl
theorem ok31 : CallOk Try.prog 31 := callOk Try.func31 (by decide) rfl
theorem ok32 : CallOk Try.prog 32 := callOk Try.func32 (by decide) rfl
theorem ok33 : CallOk Try.prog 33 := callOk Try.func33 (by decide) rfl
theorem ok34 : CallOk Try.prog 34 := callOk Try.func34 (by decide) rfl
theorem ok35 : CallOk Try.prog 35 := callOk Try.func35 (by decide) rfl
theorem ok36 : CallOk Try.prog 36 := callOk Try.func36 (by decide) rfl
theorem ok37 : CallOk Try.prog 37 := callOk Try.func37 (by decide) rfl
theorem ok38 : CallOk Try.prog 38 := callOk Try.func38 (by decide) rfl
theorem ok39 : CallOk Try.prog 39 := callOk Try.func39 (by decide) rfl
theorem ok40 : CallOk Try.prog 40 := callOk Try.func40 (by decide) rfl
theorem ok41 : CallOk Try.prog 41 := callOk Try.func41 (by decide) rfl
theorem ok42 : CallOk Try.prog 42 := callOk Try.func42 (by decide) rfl
theorem ok43 : CallOk Try.prog 43 := callOk Try.func43 (by decide) rfl
theorem ok44 : CallOk Try.prog 44 := callOk Try.func44 (by decide) rfl
theorem ok45 : CallOk Try.prog 45 := callOk Try.func45 (by decide) rfl
theorem ok46 : CallOk Try.prog 46 := callOk Try.func46 (by decide) rfl
theorem ok47 : CallOk Try.prog 47 := callOk Try.func47 (by decide) rfl
theorem ok48 : CallOk Try.prog 48 := callOk Try.func48 (by decide) rfl
theorem ok49 : CallOk Try.prog 49 := callOk Try.func49 (by decide) rfl
theorem ok50 : CallOk Try.prog 50 := callOk Try.func50 (by decide) rfl
theorem ok51 : CallOk Try.prog 51 := callOk Try.func51 (by decide) rfl
theorem ok52 : CallOk Try.prog 52 := callOk Try.func52 (by decide) rfl
theorem ok53 : CallOk Try.prog 53 := callOk Try.func53 (by decide) rfl
theorem ok54 : CallOk Try.prog 54 := callOk Try.func54 (by decide) rfl
theorem ok55 : CallOk Try.prog 55 := callOk Try.func55 (by decide) rfl
theorem ok56 : CallOk Try.prog 56 := callOk Try.func56 (by decide) rfl
theorem ok57 : CallOk Try.prog 57 := callOk Try.func57 (by decide) rfl
theorem ok58 : CallOk Try.prog 58 := callOk Try.func58 (by decide) rfl
theorem ok59 : CallOk Try.prog 59 := callOk Try.func59 (by decide) rfl
theorem ok60 : CallOk Try.prog 60 := callOk Try.func60 (by decide) rfl
theorem ok61 : CallOk Try.prog 61 := callOk Try.func61 (by decide) rfl
theorem ok62 : CallOk Try.prog 62 := callOk Try.func62 (by decide) rfl
theorem ok63 : CallOk Try.prog 63 := callOk Try.func63 (by decide) rfl
theorem ok64 : CallOk Try.prog 64 := callOk Try.func64 (by decide) rfl
theorem ok65 : CallOk Try.prog 65 := callOk Try.func65 (by decide) rfl
theorem ok66 : CallOk Try.prog 66 := callOk Try.func66 (by decide) rfl
theorem ok67 : CallOk Try.prog 67 := callOk Try.func67 (by decide) rfl
theorem ok68 : CallOk Try.prog 68 := callOk Try.func68 (by decide) rfl
theorem ok69 : CallOk Try.prog 69 := callOk Try.func69 (by decide) rfl
theorem ok70 : CallOk Try.prog 70 := callOk Try.func70 (by decide) rfl
theorem ok71 : CallOk Try.prog 71 := callOk Try.func71 (by decide) rfl
theorem ok72 : CallOk Try.prog 72 := callOk Try.func72 (by decide) rfl
theorem ok73 : CallOk Try.prog 73 := callOk Try.func73 (by decide) rfl
theorem ok74 : CallOk Try.prog 74 := callOk Try.func74 (by decide) rfl
theorem ok75 : CallOk Try.prog 75 := callOk Try.func75 (by decide) rfl
theorem ok76 : CallOk Try.prog 76 := callOk Try.func76 (by decide) rfl
theorem ok77 : CallOk Try.prog 77 := callOk Try.func77 (by decide) rfl
theorem ok78 : CallOk Try.prog 78 := callOk Try.func78 (by decide) rfl
theorem ok79 : CallOk Try.prog 79 := callOk Try.func79 (by decide) rfl
theorem ok80 : CallOk Try.prog 80 := callOk Try.func80 (by decide) rfl
theorem ok81 : CallOk Try.prog 81 := callOk Try.func81 (by decide) rfl
theorem ok82 : CallOk Try.prog 82 := callOk Try.func82 (by decide) rfl
theorem ok83 : CallOk Try.prog 83 := callOk Try.func83 (by decide) rfl
theorem ok84 : CallOk Try.prog 84 := callOk Try.func84 (by decide) rfl
theorem ok85 : CallOk Try.prog 85 := callOk Try.func85 (by decide) rfl
theorem ok86 : CallOk Try.prog 86 := callOk Try.func86 (by decide) rfl
theorem ok87 : CallOk Try.prog 87 := callOk Try.func87 (by decide) rfl
theorem ok88 : CallOk Try.prog 88 := callOk Try.func88 (by decide) rfl
theorem ok89 : CallOk Try.prog 89 := callOk Try.func89 (by decide) rfl
theorem ok90 : CallOk Try.prog 90 := callOk Try.func90 (by decide) rfl
theorem ok91 : CallOk Try.prog 91 := callOk Try.func91 (by decide) rfl
theorem ok92 : CallOk Try.prog 92 := callOk Try.func92 (by decide) rfl
theorem ok93 : CallOk Try.prog 93 := callOk Try.func93 (by decide) rfl
theorem ok94 : CallOk Try.prog 94 := callOk Try.func94 (by decide) rfl
theorem ok95 : CallOk Try.prog 95 := callOk Try.func95 (by decide) rfl
theorem ok96 : CallOk Try.prog 96 := callOk Try.func96 (by decide) rfl
theorem ok97 : CallOk Try.prog 97 := callOk Try.func97 (by decide) rfl
theorem ok98 : CallOk Try.prog 98 := callOk Try.func98 (by decide) rfl
theorem ok99 : CallOk Try.prog 99 := callOk Try.func99 (by decide) rfl
theorem ok100 : CallOk Try.prog 100 := callOk Try.func100 (by decide) rfl
theorem ok101 : CallOk Try.prog 101 := callOk Try.func101 (by decide) rfl
theorem ok102 : CallOk Try.prog 102 := callOk Try.func102 (by decide) rfl
theorem ok103 : CallOk Try.prog 103 := callOk Try.func103 (by decide) rfl
theorem ok104 : CallOk Try.prog 104 := callOk Try.func104 (by decide) rfl
theorem ok105 : CallOk Try.prog 105 := callOk Try.func105 (by decide) rfl
theorem ok106 : CallOk Try.prog 106 := callOk Try.func106 (by decide) rfl
theorem ok107 : CallOk Try.prog 107 := callOk Try.func107 (by decide) rfl
theorem ok108 : CallOk Try.prog 108 := callOk Try.func108 (by decide) rfl
theorem ok109 : CallOk Try.prog 109 := callOk Try.func109 (by decide) rfl
theorem ok110 : CallOk Try.prog 110 := callOk Try.func110 (by decide) rfl
theorem ok111 : CallOk Try.prog 111 := callOk Try.func111 (by decide) rfl
theorem ok112 : CallOk Try.prog 112 := callOk Try.func112 (by decide) rfl
theorem ok113 : CallOk Try.prog 113 := callOk Try.func113 (by decide) rfl
theorem ok114 : CallOk Try.prog 114 := callOk Try.func114 (by decide) rfl
theorem ok115 : CallOk Try.prog 115 := callOk Try.func115 (by decide) rfl
theorem ok116 : CallOk Try.prog 116 := callOk Try.func116 (by decide) rfl
theorem ok117 : CallOk Try.prog 117 := callOk Try.func117 (by decide) rfl
theorem ok118 : CallOk Try.prog 118 := callOk Try.func118 (by decide) rfl
theorem ok119 : CallOk Try.prog 119 := callOk Try.func119 (by decide) rfl
theorem ok120 : CallOk Try.prog 120 := callOk Try.func120 (by decide) rfl
theorem ok121 : CallOk Try.prog 121 := callOk Try.func121 (by decide) rfl
theorem ok122 : CallOk Try.prog 122 := callOk Try.func122 (by decide) rfl
theorem ok123 : CallOk Try.prog 123 := callOk Try.func123 (by decide) rfl
theorem ok124 : CallOk Try.prog 124 := callOk Try.func124 (by decide) rfl
theorem ok125 : CallOk Try.prog 125 := callOk Try.func125 (by decide) rfl
theorem ok126 : CallOk Try.prog 126 := callOk Try.func126 (by decide) rfl
theorem ok127 : CallOk Try.prog 127 := callOk Try.func127 (by decide) rfl
theorem ok128 : CallOk Try.prog 128 := callOk Try.func128 (by decide) rfl
theorem ok129 : CallOk Try.prog 129 := callOk Try.func129 (by decide) rfl
theorem ok130 : CallOk Try.prog 130 := callOk Try.func130 (by decide) rfl
theorem ok131 : CallOk Try.prog 131 := callOk Try.func131 (by decide) rfl
theorem ok132 : CallOk Try.prog 132 := callOk Try.func132 (by decide) rfl
theorem ok133 : CallOk Try.prog 133 := callOk Try.func133 (by decide) rfl
theorem ok134 : CallOk Try.prog 134 := callOk Try.func134 (by decide) rfl
theorem ok135 : CallOk Try.prog 135 := callOk Try.func135 (by decide) rfl
theorem ok136 : CallOk Try.prog 136 := callOk Try.func136 (by decide) rfl
theorem ok137 : CallOk Try.prog 137 := callOk Try.func137 (by decide) rfl
theorem ok138 : CallOk Try.prog 138 := callOk Try.func138 (by decide) rfl
theorem mixed : Try.prog.follows .mixedOrders = true := by kernel_rfl
end Go.Proofs.Ytoeockpkkmgieaa
