/- Facts on the types of the program: sizes, places of fields, zero values. Written by program (types.py). A lemma file: no statement of its own. -/
import Derived.Test.YtjjbmmgafclcaaaGreatChecked
import Derived.Test.YtjjbmmgafclcaaaGreatqFwE
set_option linter.unusedSimpArgs false
set_option linter.unusedVariables false
namespace Go.Proofs.Tryz
open Go.Cs
theorem sz3 : szOf Tryz.prog 3 = some 1 := by kernel_rfl
theorem is3 : (Tryz.prog.info? 3).isSome = true := by kernel_rfl
theorem ce3 : Tryz.prog.cellsOf 3 = 1 := by kernel_rfl
theorem ag3 : aggT Tryz.prog 3 = some false := by kernel_rfl
theorem ze3 : czero Tryz.prog 3 = some (.int .i64 0) := by kernel_rfl
theorem sz4 : szOf Tryz.prog 4 = some 1 := by kernel_rfl
theorem is4 : (Tryz.prog.info? 4).isSome = true := by kernel_rfl
theorem ce4 : Tryz.prog.cellsOf 4 = 1 := by kernel_rfl
theorem ag4 : aggT Tryz.prog 4 = some false := by kernel_rfl
theorem ze4 : czero Tryz.prog 4 = some (.bool false) := by kernel_rfl
theorem be4 {x y : Operand} {a b : Bool} : cbin Tryz.prog .eql 4 x y (.bool a) (.bool b) = some (.bool (a == b)) := by kernel_rfl
theorem bn4 {x y : Operand} {a b : Bool} : cbin Tryz.prog .neq 4 x y (.bool a) (.bool b) = some (.bool (!(a == b))) := by kernel_rfl
theorem sz9 : szOf Tryz.prog 9 = some 1 := by kernel_rfl
theorem is9 : (Tryz.prog.info? 9).isSome = true := by kernel_rfl
theorem ce9 : Tryz.prog.cellsOf 9 = 1 := by kernel_rfl
theorem ag9 : aggT Tryz.prog 9 = some false := by kernel_rfl
theorem ze9 : czero Tryz.prog 9 = some (.string ByteArray.empty) := by kernel_rfl
theorem sz22 : szOf Tryz.prog 22 = some 1 := by kernel_rfl
theorem is22 : (Tryz.prog.info? 22).isSome = true := by kernel_rfl
theorem ce22 : Tryz.prog.cellsOf 22 = 1 := by kernel_rfl
theorem ag22 : aggT Tryz.prog 22 = some false := by kernel_rfl
theorem ze22 : czero Tryz.prog 22 = some (.slice none 0 0) := by kernel_rfl
theorem sz23 : szOf Tryz.prog 23 = some 1 := by kernel_rfl
theorem is23 : (Tryz.prog.info? 23).isSome = true := by kernel_rfl
theorem ce23 : Tryz.prog.cellsOf 23 = 1 := by kernel_rfl
theorem ag23 : aggT Tryz.prog 23 = some false := by kernel_rfl
theorem ze23 : czero Tryz.prog 23 = some (.slice none 0 0) := by kernel_rfl
theorem sz25 : szOf Tryz.prog 25 = some 3 := by kernel_rfl
theorem is25 : (Tryz.prog.info? 25).isSome = true := by kernel_rfl
theorem ce25 : Tryz.prog.cellsOf 25 = 3 := by kernel_rfl
theorem ag25 : aggT Tryz.prog 25 = some true := by kernel_rfl
theorem ze25 : czero Tryz.prog 25 = some (.agg #[.int .i64 0, .slice none 0 0, .slice none 0 0]) := by kernel_rfl
theorem fa25x0 : faOk Tryz.prog 25 0 = some 0 := by kernel_rfl
theorem fa25x1 : faOk Tryz.prog 25 1 = some 1 := by kernel_rfl
theorem fa25x2 : faOk Tryz.prog 25 2 = some 2 := by kernel_rfl
theorem sz27 : szOf Tryz.prog 27 = some 3 := by kernel_rfl
theorem is27 : (Tryz.prog.info? 27).isSome = true := by kernel_rfl
theorem ce27 : Tryz.prog.cellsOf 27 = 3 := by kernel_rfl
theorem ag27 : aggT Tryz.prog 27 = some true := by kernel_rfl
theorem ze27 : czero Tryz.prog 27 = some (.agg #[.int .i64 0, .int .i64 0, .string ByteArray.empty]) := by kernel_rfl
theorem fa27x0 : faOk Tryz.prog 27 0 = some 0 := by kernel_rfl
theorem fa27x1 : faOk Tryz.prog 27 1 = some 1 := by kernel_rfl
theorem fa27x2 : faOk Tryz.prog 27 2 = some 2 := by kernel_rfl
theorem sz28 : szOf Tryz.prog 28 = some 1 := by kernel_rfl
theorem is28 : (Tryz.prog.info? 28).isSome = true := by kernel_rfl
theorem ce28 : Tryz.prog.cellsOf 28 = 1 := by kernel_rfl
theorem ag28 : aggT Tryz.prog 28 = some false := by kernel_rfl
theorem ze28 : czero Tryz.prog 28 = some (.slice none 0 0) := by kernel_rfl
theorem sz33 : szOf Tryz.prog 33 = some 7 := by kernel_rfl
theorem is33 : (Tryz.prog.info? 33).isSome = true := by kernel_rfl
theorem ce33 : Tryz.prog.cellsOf 33 = 7 := by kernel_rfl
theorem ag33 : aggT Tryz.prog 33 = some true := by kernel_rfl
theorem ze33 : czero Tryz.prog 33 = some (.agg #[.int .i64 0, .int .i64 0, .slice none 0 0, .slice none 0 0, .int .i64 0, .int .i64 0, .string ByteArray.empty]) := by kernel_rfl
theorem fa33x0 : faOk Tryz.prog 33 0 = some 0 := by kernel_rfl
theorem fa33x1 : faOk Tryz.prog 33 1 = some 1 := by kernel_rfl
theorem fa33x2 : faOk Tryz.prog 33 2 = some 2 := by kernel_rfl
theorem fa33x3 : faOk Tryz.prog 33 3 = some 3 := by kernel_rfl
theorem fa33x4 : faOk Tryz.prog 33 4 = some 4 := by kernel_rfl
theorem sz34 : szOf Tryz.prog 34 = some 1 := by kernel_rfl
theorem is34 : (Tryz.prog.info? 34).isSome = true := by kernel_rfl
theorem ce34 : Tryz.prog.cellsOf 34 = 1 := by kernel_rfl
theorem ag34 : aggT Tryz.prog 34 = some false := by kernel_rfl
theorem sz36 : szOf Tryz.prog 36 = some 1 := by kernel_rfl
theorem is36 : (Tryz.prog.info? 36).isSome = true := by kernel_rfl
theorem ce36 : Tryz.prog.cellsOf 36 = 1 := by kernel_rfl
theorem ag36 : aggT Tryz.prog 36 = some false := by kernel_rfl
theorem ze36 : czero Tryz.prog 36 = some (.slice none 0 0) := by kernel_rfl
theorem sz38 : szOf Tryz.prog 38 = some 5 := by kernel_rfl
theorem is38 : (Tryz.prog.info? 38).isSome = true := by kernel_rfl
theorem ce38 : Tryz.prog.cellsOf 38 = 5 := by kernel_rfl
theorem ag38 : aggT Tryz.prog 38 = some true := by kernel_rfl
theorem ze38 : czero Tryz.prog 38 = some (.agg #[.int .i64 0, .int .i64 0, .int .i64 0, .int .i64 0, .slice none 0 0]) := by kernel_rfl
theorem fa38x0 : faOk Tryz.prog 38 0 = some 0 := by kernel_rfl
theorem fa38x1 : faOk Tryz.prog 38 1 = some 1 := by kernel_rfl
theorem fa38x2 : faOk Tryz.prog 38 2 = some 2 := by kernel_rfl
theorem fa38x3 : faOk Tryz.prog 38 3 = some 3 := by kernel_rfl
theorem fa38x4 : faOk Tryz.prog 38 4 = some 4 := by kernel_rfl
theorem sz41 : szOf Tryz.prog 41 = some 3 := by kernel_rfl
theorem is41 : (Tryz.prog.info? 41).isSome = true := by kernel_rfl
theorem ce41 : Tryz.prog.cellsOf 41 = 3 := by kernel_rfl
theorem ag41 : aggT Tryz.prog 41 = some true := by kernel_rfl
theorem ze41 : czero Tryz.prog 41 = some (.agg #[.int .i64 0, .int .i64 0, .int .i64 0]) := by kernel_rfl
theorem fa41x0 : faOk Tryz.prog 41 0 = some 0 := by kernel_rfl
theorem fa41x1 : faOk Tryz.prog 41 1 = some 1 := by kernel_rfl
theorem fa41x2 : faOk Tryz.prog 41 2 = some 2 := by kernel_rfl
theorem sz54 : szOf Tryz.prog 54 = some 1 := by kernel_rfl
theorem is54 : (Tryz.prog.info? 54).isSome = true := by kernel_rfl
theorem ce54 : Tryz.prog.cellsOf 54 = 1 := by kernel_rfl
theorem ag54 : aggT Tryz.prog 54 = some false := by kernel_rfl
theorem ze54 : czero Tryz.prog 54 = some (.slice none 0 0) := by kernel_rfl
theorem sz55 : szOf Tryz.prog 55 = some 1 := by kernel_rfl
theorem is55 : (Tryz.prog.info? 55).isSome = true := by kernel_rfl
theorem ce55 : Tryz.prog.cellsOf 55 = 1 := by kernel_rfl
theorem ag55 : aggT Tryz.prog 55 = some false := by kernel_rfl
theorem sz66 : szOf Tryz.prog 66 = some 1 := by kernel_rfl
theorem is66 : (Tryz.prog.info? 66).isSome = true := by kernel_rfl
theorem ce66 : Tryz.prog.cellsOf 66 = 1 := by kernel_rfl
theorem ag66 : aggT Tryz.prog 66 = some false := by kernel_rfl
theorem sz89 : szOf Tryz.prog 89 = some 1 := by kernel_rfl
theorem is89 : (Tryz.prog.info? 89).isSome = true := by kernel_rfl
theorem ce89 : Tryz.prog.cellsOf 89 = 1 := by kernel_rfl
theorem ag89 : aggT Tryz.prog 89 = some false := by kernel_rfl
end Go.Proofs.Tryz
