/- Facts on the types of the program: sizes, places of fields, zero values. Written by program (types.py). A lemma file: no statement of its own. -/
import Derived.Test.YtakgfhdaimeafaaGreatChecked
import Derived.Test.YtakgfhdaimeafaaGreatqFwE
set_option linter.unusedSimpArgs false
set_option linter.unusedVariables false
namespace Go.Proofs.Tryz
open Go.Cs
theorem sz3 : szOf Tryz.prog 3 = some 1 := by kernel_rfl
theorem is3 : (Tryz.prog.info? 3).isSome = true := by kernel_rfl
theorem ce3 : Tryz.prog.cellsOf 3 = 1 := by kernel_rfl
theorem ag3 : aggT Tryz.prog 3 = some false := by kernel_rfl
theorem ze3 : czero Tryz.prog 3 = some (.int .i64 0) := by kernel_rfl
theorem sz4 : szOf Tryz.prog 4 = some 1 := by kernel_rfl
theorem is4 : (Tryz.prog.info? 4).isSome = true := by kernel_rfl
theorem ce4 : Tryz.prog.cellsOf 4 = 1 := by kernel_rfl
theorem ag4 : aggT Tryz.prog 4 = some false := by kernel_rfl
theorem ze4 : czero Tryz.prog 4 = some (.bool false) := by kernel_rfl
theorem be4 {x y : Operand} {a b : Bool} : cbin Tryz.prog .eql 4 x y (.bool a) (.bool b) = some (.bool (a == b)) := by kernel_rfl
theorem bn4 {x y : Operand} {a b : Bool} : cbin Tryz.prog .neq 4 x y (.bool a) (.bool b) = some (.bool (!(a == b))) := by kernel_rfl
theorem sz5 : szOf Tryz.prog 5 = some 1 := by kernel_rfl
theorem is5 : (Tryz.prog.info? 5).isSome = true := by kernel_rfl
theorem ce5 : Tryz.prog.cellsOf 5 = 1 := by kernel_rfl
theorem ag5 : aggT Tryz.prog 5 = some false := by kernel_rfl
theorem ze5 : czero Tryz.prog 5 = some (.int .u8 0) := by kernel_rfl
theorem sz9 : szOf Tryz.prog 9 = some 1 := by kernel_rfl
theorem is9 : (Tryz.prog.info? 9).isSome = true := by kernel_rfl
theorem ce9 : Tryz.prog.cellsOf 9 = 1 := by kernel_rfl
theorem ag9 : aggT Tryz.prog 9 = some false := by kernel_rfl
theorem ze9 : czero Tryz.prog 9 = some (.string ByteArray.empty) := by kernel_rfl
theorem sz22 : szOf Tryz.prog 22 = some 1 := by kernel_rfl
theorem is22 : (Tryz.prog.info? 22).isSome = true := by kernel_rfl
theorem ce22 : Tryz.prog.cellsOf 22 = 1 := by kernel_rfl
theorem ag22 : aggT Tryz.prog 22 = some false := by kernel_rfl
theorem ze22 : czero Tryz.prog 22 = some (.slice none 0 0) := by kernel_rfl
theorem sz24 : szOf Tryz.prog 24 = some 1 := by kernel_rfl
theorem is24 : (Tryz.prog.info? 24).isSome = true := by kernel_rfl
theorem ce24 : Tryz.prog.cellsOf 24 = 1 := by kernel_rfl
theorem ag24 : aggT Tryz.prog 24 = some false := by kernel_rfl
theorem ze24 : czero Tryz.prog 24 = some (.pointer none) := by kernel_rfl
theorem nt24 {x y : Operand} : cbin Tryz.prog .eql 24 x y (.pointer none) (.pointer none) = some (.bool true) := by kernel_rfl
theorem nn24 {x y : Operand} : cbin Tryz.prog .neq 24 x y (.pointer none) (.pointer none) = some (.bool false) := by kernel_rfl
theorem nf24 {x y : Operand} {a : Addr} : cbin Tryz.prog .eql 24 x y (.pointer (some a)) (.pointer none) = some (.bool false) := by kernel_rfl
theorem ng24 {x y : Operand} {a : Addr} : cbin Tryz.prog .neq 24 x y (.pointer (some a)) (.pointer none) = some (.bool true) := by kernel_rfl
theorem sz27 : szOf Tryz.prog 27 = some 4 := by kernel_rfl
theorem is27 : (Tryz.prog.info? 27).isSome = true := by kernel_rfl
theorem ce27 : Tryz.prog.cellsOf 27 = 4 := by kernel_rfl
theorem ag27 : aggT Tryz.prog 27 = some true := by kernel_rfl
theorem ze27 : czero Tryz.prog 27 = some (.agg #[.int .i64 0, .int .i64 0, .int .i64 0, .int .i64 0]) := by kernel_rfl
theorem fa27x0 : faOk Tryz.prog 27 0 = some 0 := by kernel_rfl
theorem fa27x1 : faOk Tryz.prog 27 1 = some 1 := by kernel_rfl
theorem fa27x2 : faOk Tryz.prog 27 2 = some 2 := by kernel_rfl
theorem fa27x3 : faOk Tryz.prog 27 3 = some 3 := by kernel_rfl
theorem sz30 : szOf Tryz.prog 30 = some 3 := by kernel_rfl
theorem is30 : (Tryz.prog.info? 30).isSome = true := by kernel_rfl
theorem ce30 : Tryz.prog.cellsOf 30 = 3 := by kernel_rfl
theorem ag30 : aggT Tryz.prog 30 = some true := by kernel_rfl
theorem ze30 : czero Tryz.prog 30 = some (.agg #[.int .i64 0, .int .i64 0, .string ByteArray.empty]) := by kernel_rfl
theorem fa30x0 : faOk Tryz.prog 30 0 = some 0 := by kernel_rfl
theorem fa30x1 : faOk Tryz.prog 30 1 = some 1 := by kernel_rfl
theorem fa30x2 : faOk Tryz.prog 30 2 = some 2 := by kernel_rfl
theorem sz32 : szOf Tryz.prog 32 = some 7 := by kernel_rfl
theorem is32 : (Tryz.prog.info? 32).isSome = true := by kernel_rfl
theorem ce32 : Tryz.prog.cellsOf 32 = 7 := by kernel_rfl
theorem ag32 : aggT Tryz.prog 32 = some true := by kernel_rfl
theorem ze32 : czero Tryz.prog 32 = some (.agg #[.int .i64 0, .int .i64 0, .int .i64 0, .string ByteArray.empty, .int .i64 0, .int .i64 0, .string ByteArray.empty]) := by kernel_rfl
theorem fa32x0 : faOk Tryz.prog 32 0 = some 0 := by kernel_rfl
theorem fa32x1 : faOk Tryz.prog 32 1 = some 1 := by kernel_rfl
theorem fa32x2 : faOk Tryz.prog 32 2 = some 2 := by kernel_rfl
theorem fa32x3 : faOk Tryz.prog 32 3 = some 3 := by kernel_rfl
theorem fa32x4 : faOk Tryz.prog 32 4 = some 4 := by kernel_rfl
theorem sz34 : szOf Tryz.prog 34 = some 1 := by kernel_rfl
theorem is34 : (Tryz.prog.info? 34).isSome = true := by kernel_rfl
theorem ce34 : Tryz.prog.cellsOf 34 = 1 := by kernel_rfl
theorem ag34 : aggT Tryz.prog 34 = some false := by kernel_rfl
theorem ze34 : czero Tryz.prog 34 = some (.pointer none) := by kernel_rfl
theorem nt34 {x y : Operand} : cbin Tryz.prog .eql 34 x y (.pointer none) (.pointer none) = some (.bool true) := by kernel_rfl
theorem nn34 {x y : Operand} : cbin Tryz.prog .neq 34 x y (.pointer none) (.pointer none) = some (.bool false) := by kernel_rfl
theorem nf34 {x y : Operand} {a : Addr} : cbin Tryz.prog .eql 34 x y (.pointer (some a)) (.pointer none) = some (.bool false) := by kernel_rfl
theorem ng34 {x y : Operand} {a : Addr} : cbin Tryz.prog .neq 34 x y (.pointer (some a)) (.pointer none) = some (.bool true) := by kernel_rfl
theorem sz38 : szOf Tryz.prog 38 = some 1 := by kernel_rfl
theorem is38 : (Tryz.prog.info? 38).isSome = true := by kernel_rfl
theorem ce38 : Tryz.prog.cellsOf 38 = 1 := by kernel_rfl
theorem ag38 : aggT Tryz.prog 38 = some false := by kernel_rfl
theorem sz42 : szOf Tryz.prog 42 = some 1 := by kernel_rfl
theorem is42 : (Tryz.prog.info? 42).isSome = true := by kernel_rfl
theorem ce42 : Tryz.prog.cellsOf 42 = 1 := by kernel_rfl
theorem ag42 : aggT Tryz.prog 42 = some false := by kernel_rfl
theorem ze42 : czero Tryz.prog 42 = some (.slice none 0 0) := by kernel_rfl
theorem sz43 : szOf Tryz.prog 43 = some 1 := by kernel_rfl
theorem is43 : (Tryz.prog.info? 43).isSome = true := by kernel_rfl
theorem ce43 : Tryz.prog.cellsOf 43 = 1 := by kernel_rfl
theorem ag43 : aggT Tryz.prog 43 = some false := by kernel_rfl
theorem sz45 : szOf Tryz.prog 45 = some 1 := by kernel_rfl
theorem is45 : (Tryz.prog.info? 45).isSome = true := by kernel_rfl
theorem ce45 : Tryz.prog.cellsOf 45 = 1 := by kernel_rfl
theorem ag45 : aggT Tryz.prog 45 = some false := by kernel_rfl
theorem ze45 : czero Tryz.prog 45 = some (.int .i64 0) := by kernel_rfl
theorem sz53 : szOf Tryz.prog 53 = some 1 := by kernel_rfl
theorem is53 : (Tryz.prog.info? 53).isSome = true := by kernel_rfl
theorem ce53 : Tryz.prog.cellsOf 53 = 1 := by kernel_rfl
theorem ag53 : aggT Tryz.prog 53 = some false := by kernel_rfl
theorem sz58 : szOf Tryz.prog 58 = some 1 := by kernel_rfl
theorem is58 : (Tryz.prog.info? 58).isSome = true := by kernel_rfl
theorem ce58 : Tryz.prog.cellsOf 58 = 1 := by kernel_rfl
theorem ag58 : aggT Tryz.prog 58 = some false := by kernel_rfl
theorem ze58 : czero Tryz.prog 58 = some (.pointer none) := by kernel_rfl
theorem nt58 {x y : Operand} : cbin Tryz.prog .eql 58 x y (.pointer none) (.pointer none) = some (.bool true) := by kernel_rfl
theorem nn58 {x y : Operand} : cbin Tryz.prog .neq 58 x y (.pointer none) (.pointer none) = some (.bool false) := by kernel_rfl
theorem nf58 {x y : Operand} {a : Addr} : cbin Tryz.prog .eql 58 x y (.pointer (some a)) (.pointer none) = some (.bool false) := by kernel_rfl
theorem ng58 {x y : Operand} {a : Addr} : cbin Tryz.prog .neq 58 x y (.pointer (some a)) (.pointer none) = some (.bool true) := by kernel_rfl
theorem sz60 : szOf Tryz.prog 60 = some 1 := by kernel_rfl
theorem is60 : (Tryz.prog.info? 60).isSome = true := by kernel_rfl
theorem ce60 : Tryz.prog.cellsOf 60 = 1 := by kernel_rfl
theorem ag60 : aggT Tryz.prog 60 = some false := by kernel_rfl
theorem ze60 : czero Tryz.prog 60 = some (.pointer none) := by kernel_rfl
theorem nt60 {x y : Operand} : cbin Tryz.prog .eql 60 x y (.pointer none) (.pointer none) = some (.bool true) := by kernel_rfl
theorem nn60 {x y : Operand} : cbin Tryz.prog .neq 60 x y (.pointer none) (.pointer none) = some (.bool false) := by kernel_rfl
theorem nf60 {x y : Operand} {a : Addr} : cbin Tryz.prog .eql 60 x y (.pointer (some a)) (.pointer none) = some (.bool false) := by kernel_rfl
theorem ng60 {x y : Operand} {a : Addr} : cbin Tryz.prog .neq 60 x y (.pointer (some a)) (.pointer none) = some (.bool true) := by kernel_rfl
theorem sz63 : szOf Tryz.prog 63 = some 1 := by kernel_rfl
theorem is63 : (Tryz.prog.info? 63).isSome = true := by kernel_rfl
theorem ce63 : Tryz.prog.cellsOf 63 = 1 := by kernel_rfl
theorem ag63 : aggT Tryz.prog 63 = some false := by kernel_rfl
theorem ze63 : czero Tryz.prog 63 = some (.slice none 0 0) := by kernel_rfl
theorem sz65 : szOf Tryz.prog 65 = some 5 := by kernel_rfl
theorem is65 : (Tryz.prog.info? 65).isSome = true := by kernel_rfl
theorem ce65 : Tryz.prog.cellsOf 65 = 5 := by kernel_rfl
theorem ag65 : aggT Tryz.prog 65 = some true := by kernel_rfl
theorem ze65 : czero Tryz.prog 65 = some (.agg #[.slice none 0 0, .pointer none, .pointer none, .int .i64 0, .int .i64 0]) := by kernel_rfl
theorem fa65x0 : faOk Tryz.prog 65 0 = some 0 := by kernel_rfl
theorem fa65x1 : faOk Tryz.prog 65 1 = some 1 := by kernel_rfl
theorem fa65x2 : faOk Tryz.prog 65 2 = some 2 := by kernel_rfl
theorem fa65x3 : faOk Tryz.prog 65 3 = some 3 := by kernel_rfl
theorem fa65x4 : faOk Tryz.prog 65 4 = some 4 := by kernel_rfl
theorem sz66 : szOf Tryz.prog 66 = some 1 := by kernel_rfl
theorem is66 : (Tryz.prog.info? 66).isSome = true := by kernel_rfl
theorem ce66 : Tryz.prog.cellsOf 66 = 1 := by kernel_rfl
theorem ag66 : aggT Tryz.prog 66 = some false := by kernel_rfl
theorem sz72 : szOf Tryz.prog 72 = some 1 := by kernel_rfl
theorem is72 : (Tryz.prog.info? 72).isSome = true := by kernel_rfl
theorem ce72 : Tryz.prog.cellsOf 72 = 1 := by kernel_rfl
theorem ag72 : aggT Tryz.prog 72 = some false := by kernel_rfl
theorem ze72 : czero Tryz.prog 72 = some (.pointer none) := by kernel_rfl
theorem nt72 {x y : Operand} : cbin Tryz.prog .eql 72 x y (.pointer none) (.pointer none) = some (.bool true) := by kernel_rfl
theorem nn72 {x y : Operand} : cbin Tryz.prog .neq 72 x y (.pointer none) (.pointer none) = some (.bool false) := by kernel_rfl
theorem nf72 {x y : Operand} {a : Addr} : cbin Tryz.prog .eql 72 x y (.pointer (some a)) (.pointer none) = some (.bool false) := by kernel_rfl
theorem ng72 {x y : Operand} {a : Addr} : cbin Tryz.prog .neq 72 x y (.pointer (some a)) (.pointer none) = some (.bool true) := by kernel_rfl
theorem sz74 : szOf Tryz.prog 74 = some 1 := by kernel_rfl
theorem is74 : (Tryz.prog.info? 74).isSome = true := by kernel_rfl
theorem ce74 : Tryz.prog.cellsOf 74 = 1 := by kernel_rfl
theorem ag74 : aggT Tryz.prog 74 = some false := by kernel_rfl
theorem ze74 : czero Tryz.prog 74 = some (.slice none 0 0) := by kernel_rfl
theorem sz76 : szOf Tryz.prog 76 = some 1 := by kernel_rfl
theorem is76 : (Tryz.prog.info? 76).isSome = true := by kernel_rfl
theorem ce76 : Tryz.prog.cellsOf 76 = 1 := by kernel_rfl
theorem ag76 : aggT Tryz.prog 76 = some true := by kernel_rfl
theorem ze76 : czero Tryz.prog 76 = some (.agg #[.slice none 0 0]) := by kernel_rfl
theorem fa76x0 : faOk Tryz.prog 76 0 = some 0 := by kernel_rfl
theorem sz78 : szOf Tryz.prog 78 = some 5 := by kernel_rfl
theorem is78 : (Tryz.prog.info? 78).isSome = true := by kernel_rfl
theorem ce78 : Tryz.prog.cellsOf 78 = 5 := by kernel_rfl
theorem ag78 : aggT Tryz.prog 78 = some true := by kernel_rfl
theorem ze78 : czero Tryz.prog 78 = some (.agg #[.slice none 0 0, .int .i64 0, .int .i64 0, .pointer none, .slice none 0 0]) := by kernel_rfl
theorem fa78x0 : faOk Tryz.prog 78 0 = some 0 := by kernel_rfl
theorem fa78x1 : faOk Tryz.prog 78 1 = some 1 := by kernel_rfl
theorem fa78x2 : faOk Tryz.prog 78 2 = some 2 := by kernel_rfl
theorem fa78x3 : faOk Tryz.prog 78 3 = some 3 := by kernel_rfl
theorem fa78x4 : faOk Tryz.prog 78 4 = some 4 := by kernel_rfl
theorem sz79 : szOf Tryz.prog 79 = some 1 := by kernel_rfl
theorem is79 : (Tryz.prog.info? 79).isSome = true := by kernel_rfl
theorem ce79 : Tryz.prog.cellsOf 79 = 1 := by kernel_rfl
theorem ag79 : aggT Tryz.prog 79 = some false := by kernel_rfl
theorem ze79 : czero Tryz.prog 79 = some (.pointer none) := by kernel_rfl
theorem nt79 {x y : Operand} : cbin Tryz.prog .eql 79 x y (.pointer none) (.pointer none) = some (.bool true) := by kernel_rfl
theorem nn79 {x y : Operand} : cbin Tryz.prog .neq 79 x y (.pointer none) (.pointer none) = some (.bool false) := by kernel_rfl
theorem nf79 {x y : Operand} {a : Addr} : cbin Tryz.prog .eql 79 x y (.pointer (some a)) (.pointer none) = some (.bool false) := by kernel_rfl
theorem ng79 {x y : Operand} {a : Addr} : cbin Tryz.prog .neq 79 x y (.pointer (some a)) (.pointer none) = some (.bool true) := by kernel_rfl
theorem sz82 : szOf Tryz.prog 82 = some 1 := by kernel_rfl
theorem is82 : (Tryz.prog.info? 82).isSome = true := by kernel_rfl
theorem ce82 : Tryz.prog.cellsOf 82 = 1 := by kernel_rfl
theorem ag82 : aggT Tryz.prog 82 = some false := by kernel_rfl
theorem ze82 : czero Tryz.prog 82 = some (.nilIface) := by kernel_rfl
theorem sz84 : szOf Tryz.prog 84 = some 3 := by kernel_rfl
theorem is84 : (Tryz.prog.info? 84).isSome = true := by kernel_rfl
theorem ce84 : Tryz.prog.cellsOf 84 = 3 := by kernel_rfl
theorem ag84 : aggT Tryz.prog 84 = some true := by kernel_rfl
theorem ze84 : czero Tryz.prog 84 = some (.agg #[.nilIface, .int .i64 0, .int .i64 0]) := by kernel_rfl
theorem fa84x0 : faOk Tryz.prog 84 0 = some 0 := by kernel_rfl
theorem fa84x1 : faOk Tryz.prog 84 1 = some 1 := by kernel_rfl
theorem fa84x2 : faOk Tryz.prog 84 2 = some 2 := by kernel_rfl
theorem sz87 : szOf Tryz.prog 87 = some 1 := by kernel_rfl
theorem is87 : (Tryz.prog.info? 87).isSome = true := by kernel_rfl
theorem ce87 : Tryz.prog.cellsOf 87 = 1 := by kernel_rfl
theorem ag87 : aggT Tryz.prog 87 = some false := by kernel_rfl
theorem ze87 : czero Tryz.prog 87 = some (.pointer none) := by kernel_rfl
theorem nt87 {x y : Operand} : cbin Tryz.prog .eql 87 x y (.pointer none) (.pointer none) = some (.bool true) := by kernel_rfl
theorem nn87 {x y : Operand} : cbin Tryz.prog .neq 87 x y (.pointer none) (.pointer none) = some (.bool false) := by kernel_rfl
theorem nf87 {x y : Operand} {a : Addr} : cbin Tryz.prog .eql 87 x y (.pointer (some a)) (.pointer none) = some (.bool false) := by kernel_rfl
theorem ng87 {x y : Operand} {a : Addr} : cbin Tryz.prog .neq 87 x y (.pointer (some a)) (.pointer none) = some (.bool true) := by kernel_rfl
theorem sz89 : szOf Tryz.prog 89 = some 1 := by kernel_rfl
theorem is89 : (Tryz.prog.info? 89).isSome = true := by kernel_rfl
theorem ce89 : Tryz.prog.cellsOf 89 = 1 := by kernel_rfl
theorem ag89 : aggT Tryz.prog 89 = some false := by kernel_rfl
theorem ze89 : czero Tryz.prog 89 = some (.pointer none) := by kernel_rfl
theorem nt89 {x y : Operand} : cbin Tryz.prog .eql 89 x y (.pointer none) (.pointer none) = some (.bool true) := by kernel_rfl
theorem nn89 {x y : Operand} : cbin Tryz.prog .neq 89 x y (.pointer none) (.pointer none) = some (.bool false) := by kernel_rfl
theorem nf89 {x y : Operand} {a : Addr} : cbin Tryz.prog .eql 89 x y (.pointer (some a)) (.pointer none) = some (.bool false) := by kernel_rfl
theorem ng89 {x y : Operand} {a : Addr} : cbin Tryz.prog .neq 89 x y (.pointer (some a)) (.pointer none) = some (.bool true) := by kernel_rfl
theorem sz91 : szOf Tryz.prog 91 = some 1 := by kernel_rfl
theorem is91 : (Tryz.prog.info? 91).isSome = true := by kernel_rfl
theorem ce91 : Tryz.prog.cellsOf 91 = 1 := by kernel_rfl
theorem ag91 : aggT Tryz.prog 91 = some true := by kernel_rfl
theorem ze91 : czero Tryz.prog 91 = some (.agg #[.pointer none]) := by kernel_rfl
theorem fa91x0 : faOk Tryz.prog 91 0 = some 0 := by kernel_rfl
theorem sz93 : szOf Tryz.prog 93 = some 1 := by kernel_rfl
theorem is93 : (Tryz.prog.info? 93).isSome = true := by kernel_rfl
theorem ce93 : Tryz.prog.cellsOf 93 = 1 := by kernel_rfl
theorem ag93 : aggT Tryz.prog 93 = some false := by kernel_rfl
theorem sz94 : szOf Tryz.prog 94 = some 1 := by kernel_rfl
theorem is94 : (Tryz.prog.info? 94).isSome = true := by kernel_rfl
theorem ce94 : Tryz.prog.cellsOf 94 = 1 := by kernel_rfl
theorem ag94 : aggT Tryz.prog 94 = some false := by kernel_rfl
theorem ze94 : czero Tryz.prog 94 = some (.slice none 0 0) := by kernel_rfl
theorem sz96 : szOf Tryz.prog 96 = some 2 := by kernel_rfl
theorem is96 : (Tryz.prog.info? 96).isSome = true := by kernel_rfl
theorem ce96 : Tryz.prog.cellsOf 96 = 2 := by kernel_rfl
theorem ag96 : aggT Tryz.prog 96 = some true := by kernel_rfl
theorem ze96 : czero Tryz.prog 96 = some (.agg #[.int .i64 0, .slice none 0 0]) := by kernel_rfl
theorem fa96x0 : faOk Tryz.prog 96 0 = some 0 := by kernel_rfl
theorem fa96x1 : faOk Tryz.prog 96 1 = some 1 := by kernel_rfl
theorem sz100 : szOf Tryz.prog 100 = some 1 := by kernel_rfl
theorem is100 : (Tryz.prog.info? 100).isSome = true := by kernel_rfl
theorem ce100 : Tryz.prog.cellsOf 100 = 1 := by kernel_rfl
theorem ag100 : aggT Tryz.prog 100 = some false := by kernel_rfl
theorem sz104 : szOf Tryz.prog 104 = some 2 := by kernel_rfl
theorem is104 : (Tryz.prog.info? 104).isSome = true := by kernel_rfl
theorem ce104 : Tryz.prog.cellsOf 104 = 2 := by kernel_rfl
theorem ag104 : aggT Tryz.prog 104 = some true := by kernel_rfl
theorem ze104 : czero Tryz.prog 104 = some (.agg #[.slice none 0 0, .slice none 0 0]) := by kernel_rfl
theorem fa104x0 : faOk Tryz.prog 104 0 = some 0 := by kernel_rfl
theorem fa104x1 : faOk Tryz.prog 104 1 = some 1 := by kernel_rfl
theorem sz106 : szOf Tryz.prog 106 = some 5 := by kernel_rfl
theorem is106 : (Tryz.prog.info? 106).isSome = true := by kernel_rfl
theorem ce106 : Tryz.prog.cellsOf 106 = 5 := by kernel_rfl
theorem ag106 : aggT Tryz.prog 106 = some true := by kernel_rfl
theorem ze106 : czero Tryz.prog 106 = some (.agg #[.int .i64 0, .slice none 0 0, .slice none 0 0, .int .i64 0, .int .i64 0]) := by kernel_rfl
theorem fa106x0 : faOk Tryz.prog 106 0 = some 0 := by kernel_rfl
theorem fa106x1 : faOk Tryz.prog 106 1 = some 1 := by kernel_rfl
theorem fa106x2 : faOk Tryz.prog 106 2 = some 3 := by kernel_rfl
theorem fa106x3 : faOk Tryz.prog 106 3 = some 4 := by kernel_rfl
theorem sz107 : szOf Tryz.prog 107 = some 1 := by kernel_rfl
theorem is107 : (Tryz.prog.info? 107).isSome = true := by kernel_rfl
theorem ce107 : Tryz.prog.cellsOf 107 = 1 := by kernel_rfl
theorem ag107 : aggT Tryz.prog 107 = some false := by kernel_rfl
theorem ze107 : czero Tryz.prog 107 = some (.pointer none) := by kernel_rfl
theorem nt107 {x y : Operand} : cbin Tryz.prog .eql 107 x y (.pointer none) (.pointer none) = some (.bool true) := by kernel_rfl
theorem nn107 {x y : Operand} : cbin Tryz.prog .neq 107 x y (.pointer none) (.pointer none) = some (.bool false) := by kernel_rfl
theorem nf107 {x y : Operand} {a : Addr} : cbin Tryz.prog .eql 107 x y (.pointer (some a)) (.pointer none) = some (.bool false) := by kernel_rfl
theorem ng107 {x y : Operand} {a : Addr} : cbin Tryz.prog .neq 107 x y (.pointer (some a)) (.pointer none) = some (.bool true) := by kernel_rfl
theorem sz111 : szOf Tryz.prog 111 = some 1 := by kernel_rfl
theorem is111 : (Tryz.prog.info? 111).isSome = true := by kernel_rfl
theorem ce111 : Tryz.prog.cellsOf 111 = 1 := by kernel_rfl
theorem ag111 : aggT Tryz.prog 111 = some false := by kernel_rfl
theorem ze111 : czero Tryz.prog 111 = some (.pointer none) := by kernel_rfl
theorem nt111 {x y : Operand} : cbin Tryz.prog .eql 111 x y (.pointer none) (.pointer none) = some (.bool true) := by kernel_rfl
theorem nn111 {x y : Operand} : cbin Tryz.prog .neq 111 x y (.pointer none) (.pointer none) = some (.bool false) := by kernel_rfl
theorem nf111 {x y : Operand} {a : Addr} : cbin Tryz.prog .eql 111 x y (.pointer (some a)) (.pointer none) = some (.bool false) := by kernel_rfl
theorem ng111 {x y : Operand} {a : Addr} : cbin Tryz.prog .neq 111 x y (.pointer (some a)) (.pointer none) = some (.bool true) := by kernel_rfl
theorem sz112 : szOf Tryz.prog 112 = some 1 := by kernel_rfl
theorem ag112 : aggT Tryz.prog 112 = some false := by kernel_rfl
theorem sz114 : szOf Tryz.prog 114 = some 2 := by kernel_rfl
theorem is114 : (Tryz.prog.info? 114).isSome = true := by kernel_rfl
theorem ce114 : Tryz.prog.cellsOf 114 = 2 := by kernel_rfl
theorem ag114 : aggT Tryz.prog 114 = some true := by kernel_rfl
theorem ze114 : czero Tryz.prog 114 = some (.agg #[.pointer none, .slice none 0 0]) := by kernel_rfl
theorem fa114x0 : faOk Tryz.prog 114 0 = some 0 := by kernel_rfl
theorem fa114x1 : faOk Tryz.prog 114 1 = some 1 := by kernel_rfl
theorem sz116 : szOf Tryz.prog 116 = some 1 := by kernel_rfl
theorem is116 : (Tryz.prog.info? 116).isSome = true := by kernel_rfl
theorem ce116 : Tryz.prog.cellsOf 116 = 1 := by kernel_rfl
theorem ag116 : aggT Tryz.prog 116 = some false := by kernel_rfl
theorem ze116 : czero Tryz.prog 116 = some (.nilIface) := by kernel_rfl
theorem sz117 : szOf Tryz.prog 117 = some 1 := by kernel_rfl
theorem is117 : (Tryz.prog.info? 117).isSome = true := by kernel_rfl
theorem ce117 : Tryz.prog.cellsOf 117 = 1 := by kernel_rfl
theorem ag117 : aggT Tryz.prog 117 = some false := by kernel_rfl
theorem sz122 : szOf Tryz.prog 122 = some 1 := by kernel_rfl
theorem is122 : (Tryz.prog.info? 122).isSome = true := by kernel_rfl
theorem ce122 : Tryz.prog.cellsOf 122 = 1 := by kernel_rfl
theorem ag122 : aggT Tryz.prog 122 = some false := by kernel_rfl
theorem ze122 : czero Tryz.prog 122 = some (.map none) := by kernel_rfl
theorem nt122 {x y : Operand} : cbin Tryz.prog .eql 122 x y (.map none) (.map none) = some (.bool true) := by kernel_rfl
theorem nn122 {x y : Operand} : cbin Tryz.prog .neq 122 x y (.map none) (.map none) = some (.bool false) := by kernel_rfl
theorem nf122 {x y : Operand} {a : Nat} : cbin Tryz.prog .eql 122 x y (.map (some a)) (.map none) = some (.bool false) := by kernel_rfl
theorem ng122 {x y : Operand} {a : Nat} : cbin Tryz.prog .neq 122 x y (.map (some a)) (.map none) = some (.bool true) := by kernel_rfl
theorem sz123 : szOf Tryz.prog 123 = some 1 := by kernel_rfl
theorem ag123 : aggT Tryz.prog 123 = some false := by kernel_rfl
theorem sz125 : szOf Tryz.prog 125 = some 3 := by kernel_rfl
theorem is125 : (Tryz.prog.info? 125).isSome = true := by kernel_rfl
theorem ce125 : Tryz.prog.cellsOf 125 = 3 := by kernel_rfl
theorem ag125 : aggT Tryz.prog 125 = some true := by kernel_rfl
theorem ze125 : czero Tryz.prog 125 = some (.agg #[.slice none 0 0, .map none, .int .i64 0]) := by kernel_rfl
theorem fa125x0 : faOk Tryz.prog 125 0 = some 0 := by kernel_rfl
theorem fa125x1 : faOk Tryz.prog 125 1 = some 1 := by kernel_rfl
theorem fa125x2 : faOk Tryz.prog 125 2 = some 2 := by kernel_rfl
theorem sz126 : szOf Tryz.prog 126 = some 1 := by kernel_rfl
theorem is126 : (Tryz.prog.info? 126).isSome = true := by kernel_rfl
theorem ce126 : Tryz.prog.cellsOf 126 = 1 := by kernel_rfl
theorem ag126 : aggT Tryz.prog 126 = some false := by kernel_rfl
theorem ze126 : czero Tryz.prog 126 = some (.map none) := by kernel_rfl
theorem nt126 {x y : Operand} : cbin Tryz.prog .eql 126 x y (.map none) (.map none) = some (.bool true) := by kernel_rfl
theorem nn126 {x y : Operand} : cbin Tryz.prog .neq 126 x y (.map none) (.map none) = some (.bool false) := by kernel_rfl
theorem nf126 {x y : Operand} {a : Nat} : cbin Tryz.prog .eql 126 x y (.map (some a)) (.map none) = some (.bool false) := by kernel_rfl
theorem ng126 {x y : Operand} {a : Nat} : cbin Tryz.prog .neq 126 x y (.map (some a)) (.map none) = some (.bool true) := by kernel_rfl
theorem sz128 : szOf Tryz.prog 128 = some 2 := by kernel_rfl
theorem is128 : (Tryz.prog.info? 128).isSome = true := by kernel_rfl
theorem ce128 : Tryz.prog.cellsOf 128 = 2 := by kernel_rfl
theorem ag128 : aggT Tryz.prog 128 = some true := by kernel_rfl
theorem ze128 : czero Tryz.prog 128 = some (.agg #[.map none, .slice none 0 0]) := by kernel_rfl
theorem fa128x0 : faOk Tryz.prog 128 0 = some 0 := by kernel_rfl
theorem fa128x1 : faOk Tryz.prog 128 1 = some 1 := by kernel_rfl
theorem sz130 : szOf Tryz.prog 130 = some 1 := by kernel_rfl
theorem is130 : (Tryz.prog.info? 130).isSome = true := by kernel_rfl
theorem ce130 : Tryz.prog.cellsOf 130 = 1 := by kernel_rfl
theorem ag130 : aggT Tryz.prog 130 = some false := by kernel_rfl
theorem ze130 : czero Tryz.prog 130 = some (.slice none 0 0) := by kernel_rfl
theorem sz135 : szOf Tryz.prog 135 = some 1 := by kernel_rfl
theorem is135 : (Tryz.prog.info? 135).isSome = true := by kernel_rfl
theorem ce135 : Tryz.prog.cellsOf 135 = 1 := by kernel_rfl
theorem ag135 : aggT Tryz.prog 135 = some false := by kernel_rfl
theorem ze135 : czero Tryz.prog 135 = some (.slice none 0 0) := by kernel_rfl
theorem sz137 : szOf Tryz.prog 137 = some 2 := by kernel_rfl
theorem is137 : (Tryz.prog.info? 137).isSome = true := by kernel_rfl
theorem ce137 : Tryz.prog.cellsOf 137 = 2 := by kernel_rfl
theorem ag137 : aggT Tryz.prog 137 = some true := by kernel_rfl
theorem ze137 : czero Tryz.prog 137 = some (.agg #[.slice none 0 0, .int .i64 0]) := by kernel_rfl
theorem fa137x0 : faOk Tryz.prog 137 0 = some 0 := by kernel_rfl
theorem fa137x1 : faOk Tryz.prog 137 1 = some 1 := by kernel_rfl
theorem sz139 : szOf Tryz.prog 139 = some 1 := by kernel_rfl
theorem is139 : (Tryz.prog.info? 139).isSome = true := by kernel_rfl
theorem ce139 : Tryz.prog.cellsOf 139 = 1 := by kernel_rfl
theorem ag139 : aggT Tryz.prog 139 = some false := by kernel_rfl
theorem sz140 : szOf Tryz.prog 140 = some 1 := by kernel_rfl
theorem ag140 : aggT Tryz.prog 140 = some false := by kernel_rfl
theorem is142 : (Tryz.prog.info? 142).isSome = true := by kernel_rfl
theorem fa142x0 : faOk Tryz.prog 142 0 = some 0 := by kernel_rfl
theorem fa142x1 : faOk Tryz.prog 142 1 = some 1 := by kernel_rfl
theorem sz144 : szOf Tryz.prog 144 = some 5 := by kernel_rfl
theorem is144 : (Tryz.prog.info? 144).isSome = true := by kernel_rfl
theorem ce144 : Tryz.prog.cellsOf 144 = 5 := by kernel_rfl
theorem ag144 : aggT Tryz.prog 144 = some true := by kernel_rfl
theorem ze144 : czero Tryz.prog 144 = some (.agg #[.string ByteArray.empty, .int .i64 0, .int .i64 0, .string ByteArray.empty, .bool false]) := by kernel_rfl
theorem fa144x0 : faOk Tryz.prog 144 0 = some 0 := by kernel_rfl
theorem fa144x1 : faOk Tryz.prog 144 1 = some 1 := by kernel_rfl
theorem fa144x2 : faOk Tryz.prog 144 2 = some 4 := by kernel_rfl
theorem sz149 : szOf Tryz.prog 149 = some 5 := by kernel_rfl
theorem is149 : (Tryz.prog.info? 149).isSome = true := by kernel_rfl
theorem ce149 : Tryz.prog.cellsOf 149 = 5 := by kernel_rfl
theorem ag149 : aggT Tryz.prog 149 = some true := by kernel_rfl
theorem ze149 : czero Tryz.prog 149 = some (.agg #[.int .i64 0, .int .i64 0, .int .i64 0, .int .i64 0, .map none]) := by kernel_rfl
theorem fa149x0 : faOk Tryz.prog 149 0 = some 0 := by kernel_rfl
theorem fa149x1 : faOk Tryz.prog 149 1 = some 1 := by kernel_rfl
theorem fa149x2 : faOk Tryz.prog 149 2 = some 2 := by kernel_rfl
theorem fa149x3 : faOk Tryz.prog 149 3 = some 3 := by kernel_rfl
theorem fa149x4 : faOk Tryz.prog 149 4 = some 4 := by kernel_rfl
theorem nt151 {x y : Operand} : cbin Tryz.prog .eql 151 x y (.pointer none) (.pointer none) = some (.bool true) := by kernel_rfl
theorem nn151 {x y : Operand} : cbin Tryz.prog .neq 151 x y (.pointer none) (.pointer none) = some (.bool false) := by kernel_rfl
theorem nf151 {x y : Operand} {a : Addr} : cbin Tryz.prog .eql 151 x y (.pointer (some a)) (.pointer none) = some (.bool false) := by kernel_rfl
theorem ng151 {x y : Operand} {a : Addr} : cbin Tryz.prog .neq 151 x y (.pointer (some a)) (.pointer none) = some (.bool true) := by kernel_rfl
theorem ze153 : czero Tryz.prog 153 = some (.agg #[.int .u8 0, .int .u8 0, .int .u8 0, .int .u8 0, .int .u8 0, .int .u8 0, .int .u8 0, .int .u8 0, .int .u8 0, .int .u8 0, .int .u8 0, .int .u8 0, .int .u8 0, .int .u8 0, .int .u8 0, .int .u8 0, .int .u8 0, .int .u8 0, .int .u8 0, .int .u8 0]) := by kernel_rfl
theorem sz159 : szOf Tryz.prog 159 = some 2 := by kernel_rfl
theorem is159 : (Tryz.prog.info? 159).isSome = true := by kernel_rfl
theorem ce159 : Tryz.prog.cellsOf 159 = 2 := by kernel_rfl
theorem ag159 : aggT Tryz.prog 159 = some true := by kernel_rfl
theorem ze159 : czero Tryz.prog 159 = some (.agg #[.int .i64 0, .slice none 0 0]) := by kernel_rfl
theorem fa159x0 : faOk Tryz.prog 159 0 = some 0 := by kernel_rfl
theorem fa159x1 : faOk Tryz.prog 159 1 = some 1 := by kernel_rfl
theorem sz160 : szOf Tryz.prog 160 = some 1 := by kernel_rfl
theorem is160 : (Tryz.prog.info? 160).isSome = true := by kernel_rfl
theorem ce160 : Tryz.prog.cellsOf 160 = 1 := by kernel_rfl
theorem ag160 : aggT Tryz.prog 160 = some false := by kernel_rfl
theorem ze160 : czero Tryz.prog 160 = some (.pointer none) := by kernel_rfl
theorem nt160 {x y : Operand} : cbin Tryz.prog .eql 160 x y (.pointer none) (.pointer none) = some (.bool true) := by kernel_rfl
theorem nn160 {x y : Operand} : cbin Tryz.prog .neq 160 x y (.pointer none) (.pointer none) = some (.bool false) := by kernel_rfl
theorem nf160 {x y : Operand} {a : Addr} : cbin Tryz.prog .eql 160 x y (.pointer (some a)) (.pointer none) = some (.bool false) := by kernel_rfl
theorem ng160 {x y : Operand} {a : Addr} : cbin Tryz.prog .neq 160 x y (.pointer (some a)) (.pointer none) = some (.bool true) := by kernel_rfl
end Go.Proofs.Tryz
