/- Facts on the types of the program: sizes, places of fields, zero values. Written by program (types.py). A lemma file: no statement of its own. -/
import Derived.Test.YtnkichmojbanlaaGreatChecked
import Derived.Test.YtnkichmojbanlaaGreatqFwE
set_option linter.unusedSimpArgs false
set_option linter.unusedVariables false
namespace Go.Proofs.Tryz
open Go.Cs
theorem sz3 : szOf Tryz.prog 3 = some 1 := by kernel_rfl
theorem is3 : (Tryz.prog.info? 3).isSome = true := by kernel_rfl
theorem ce3 : Tryz.prog.cellsOf 3 = 1 := by kernel_rfl
theorem ag3 : aggT Tryz.prog 3 = some false := by kernel_rfl
theorem ze3 : czero Tryz.prog 3 = some (.int .i64 0) := by kernel_rfl
theorem sz4 : szOf Tryz.prog 4 = some 1 := by kernel_rfl
theorem is4 : (Tryz.prog.info? 4).isSome = true := by kernel_rfl
theorem ce4 : Tryz.prog.cellsOf 4 = 1 := by kernel_rfl
theorem ag4 : aggT Tryz.prog 4 = some false := by kernel_rfl
theorem ze4 : czero Tryz.prog 4 = some (.bool false) := by kernel_rfl
theorem be4 {x y : Operand} {a b : Bool} : cbin Tryz.prog .eql 4 x y (.bool a) (.bool b) = some (.bool (a == b)) := by kernel_rfl
theorem bn4 {x y : Operand} {a b : Bool} : cbin Tryz.prog .neq 4 x y (.bool a) (.bool b) = some (.bool (!(a == b))) := by kernel_rfl
theorem sz5 : szOf Tryz.prog 5 = some 1 := by kernel_rfl
theorem is5 : (Tryz.prog.info? 5).isSome = true := by kernel_rfl
theorem ce5 : Tryz.prog.cellsOf 5 = 1 := by kernel_rfl
theorem ag5 : aggT Tryz.prog 5 = some false := by kernel_rfl
theorem ze5 : czero Tryz.prog 5 = some (.int .u8 0) := by kernel_rfl
theorem sz9 : szOf Tryz.prog 9 = some 1 := by kernel_rfl
theorem is9 : (Tryz.prog.info? 9).isSome = true := by kernel_rfl
theorem ce9 : Tryz.prog.cellsOf 9 = 1 := by kernel_rfl
theorem ag9 : aggT Tryz.prog 9 = some false := by kernel_rfl
theorem ze9 : czero Tryz.prog 9 = some (.string ByteArray.empty) := by kernel_rfl
theorem sz22 : szOf Tryz.prog 22 = some 1 := by kernel_rfl
theorem is22 : (Tryz.prog.info? 22).isSome = true := by kernel_rfl
theorem ce22 : Tryz.prog.cellsOf 22 = 1 := by kernel_rfl
theorem ag22 : aggT Tryz.prog 22 = some false := by kernel_rfl
theorem ze22 : czero Tryz.prog 22 = some (.slice none 0 0) := by kernel_rfl
theorem sz23 : szOf Tryz.prog 23 = some 1 := by kernel_rfl
theorem is23 : (Tryz.prog.info? 23).isSome = true := by kernel_rfl
theorem ce23 : Tryz.prog.cellsOf 23 = 1 := by kernel_rfl
theorem ag23 : aggT Tryz.prog 23 = some false := by kernel_rfl
theorem ze23 : czero Tryz.prog 23 = some (.pointer none) := by kernel_rfl
theorem nt23 {x y : Operand} : cbin Tryz.prog .eql 23 x y (.pointer none) (.pointer none) = some (.bool true) := by kernel_rfl
theorem nn23 {x y : Operand} : cbin Tryz.prog .neq 23 x y (.pointer none) (.pointer none) = some (.bool false) := by kernel_rfl
theorem nf23 {x y : Operand} {a : Addr} : cbin Tryz.prog .eql 23 x y (.pointer (some a)) (.pointer none) = some (.bool false) := by kernel_rfl
theorem ng23 {x y : Operand} {a : Addr} : cbin Tryz.prog .neq 23 x y (.pointer (some a)) (.pointer none) = some (.bool true) := by kernel_rfl
theorem sz26 : szOf Tryz.prog 26 = some 4 := by kernel_rfl
theorem is26 : (Tryz.prog.info? 26).isSome = true := by kernel_rfl
theorem ce26 : Tryz.prog.cellsOf 26 = 4 := by kernel_rfl
theorem ag26 : aggT Tryz.prog 26 = some true := by kernel_rfl
theorem ze26 : czero Tryz.prog 26 = some (.agg #[.int .i64 0, .int .i64 0, .int .i64 0, .int .i64 0]) := by kernel_rfl
theorem fa26x0 : faOk Tryz.prog 26 0 = some 0 := by kernel_rfl
theorem fa26x1 : faOk Tryz.prog 26 1 = some 1 := by kernel_rfl
theorem fa26x2 : faOk Tryz.prog 26 2 = some 2 := by kernel_rfl
theorem fa26x3 : faOk Tryz.prog 26 3 = some 3 := by kernel_rfl
theorem sz29 : szOf Tryz.prog 29 = some 1 := by kernel_rfl
theorem is29 : (Tryz.prog.info? 29).isSome = true := by kernel_rfl
theorem ce29 : Tryz.prog.cellsOf 29 = 1 := by kernel_rfl
theorem ag29 : aggT Tryz.prog 29 = some false := by kernel_rfl
theorem ze29 : czero Tryz.prog 29 = some (.pointer none) := by kernel_rfl
theorem nt29 {x y : Operand} : cbin Tryz.prog .eql 29 x y (.pointer none) (.pointer none) = some (.bool true) := by kernel_rfl
theorem nn29 {x y : Operand} : cbin Tryz.prog .neq 29 x y (.pointer none) (.pointer none) = some (.bool false) := by kernel_rfl
theorem nf29 {x y : Operand} {a : Addr} : cbin Tryz.prog .eql 29 x y (.pointer (some a)) (.pointer none) = some (.bool false) := by kernel_rfl
theorem ng29 {x y : Operand} {a : Addr} : cbin Tryz.prog .neq 29 x y (.pointer (some a)) (.pointer none) = some (.bool true) := by kernel_rfl
theorem sz31 : szOf Tryz.prog 31 = some 1 := by kernel_rfl
theorem is31 : (Tryz.prog.info? 31).isSome = true := by kernel_rfl
theorem ce31 : Tryz.prog.cellsOf 31 = 1 := by kernel_rfl
theorem ag31 : aggT Tryz.prog 31 = some false := by kernel_rfl
theorem ze31 : czero Tryz.prog 31 = some (.slice none 0 0) := by kernel_rfl
theorem sz33 : szOf Tryz.prog 33 = some 1 := by kernel_rfl
theorem ag33 : aggT Tryz.prog 33 = some false := by kernel_rfl
theorem sz36 : szOf Tryz.prog 36 = some 3 := by kernel_rfl
theorem is36 : (Tryz.prog.info? 36).isSome = true := by kernel_rfl
theorem ce36 : Tryz.prog.cellsOf 36 = 3 := by kernel_rfl
theorem ag36 : aggT Tryz.prog 36 = some true := by kernel_rfl
theorem ze36 : czero Tryz.prog 36 = some (.agg #[.int .i64 0, .int .i64 0, .string ByteArray.empty]) := by kernel_rfl
theorem fa36x0 : faOk Tryz.prog 36 0 = some 0 := by kernel_rfl
theorem fa36x1 : faOk Tryz.prog 36 1 = some 1 := by kernel_rfl
theorem fa36x2 : faOk Tryz.prog 36 2 = some 2 := by kernel_rfl
theorem sz38 : szOf Tryz.prog 38 = some 9 := by kernel_rfl
theorem is38 : (Tryz.prog.info? 38).isSome = true := by kernel_rfl
theorem ce38 : Tryz.prog.cellsOf 38 = 9 := by kernel_rfl
theorem ag38 : aggT Tryz.prog 38 = some true := by kernel_rfl
theorem ze38 : czero Tryz.prog 38 = some (.agg #[.int .i64 0, .int .i64 0, .int .i64 0, .int .i64 0, .int .i64 0, .string ByteArray.empty, .int .i64 0, .int .i64 0, .string ByteArray.empty]) := by kernel_rfl
theorem fa38x0 : faOk Tryz.prog 38 0 = some 0 := by kernel_rfl
theorem fa38x1 : faOk Tryz.prog 38 1 = some 1 := by kernel_rfl
theorem fa38x2 : faOk Tryz.prog 38 2 = some 2 := by kernel_rfl
theorem fa38x3 : faOk Tryz.prog 38 3 = some 3 := by kernel_rfl
theorem fa38x4 : faOk Tryz.prog 38 4 = some 4 := by kernel_rfl
theorem fa38x5 : faOk Tryz.prog 38 5 = some 5 := by kernel_rfl
theorem fa38x6 : faOk Tryz.prog 38 6 = some 6 := by kernel_rfl
theorem sz42 : szOf Tryz.prog 42 = some 1 := by kernel_rfl
theorem is42 : (Tryz.prog.info? 42).isSome = true := by kernel_rfl
theorem ce42 : Tryz.prog.cellsOf 42 = 1 := by kernel_rfl
theorem ag42 : aggT Tryz.prog 42 = some false := by kernel_rfl
theorem ze42 : czero Tryz.prog 42 = some (.slice none 0 0) := by kernel_rfl
theorem sz43 : szOf Tryz.prog 43 = some 1 := by kernel_rfl
theorem is43 : (Tryz.prog.info? 43).isSome = true := by kernel_rfl
theorem ce43 : Tryz.prog.cellsOf 43 = 1 := by kernel_rfl
theorem ag43 : aggT Tryz.prog 43 = some false := by kernel_rfl
theorem sz49 : szOf Tryz.prog 49 = some 1 := by kernel_rfl
theorem is49 : (Tryz.prog.info? 49).isSome = true := by kernel_rfl
theorem ce49 : Tryz.prog.cellsOf 49 = 1 := by kernel_rfl
theorem ag49 : aggT Tryz.prog 49 = some false := by kernel_rfl
theorem ze49 : czero Tryz.prog 49 = some (.slice none 0 0) := by kernel_rfl
theorem sz51 : szOf Tryz.prog 51 = some 5 := by kernel_rfl
theorem is51 : (Tryz.prog.info? 51).isSome = true := by kernel_rfl
theorem ce51 : Tryz.prog.cellsOf 51 = 5 := by kernel_rfl
theorem ag51 : aggT Tryz.prog 51 = some true := by kernel_rfl
theorem ze51 : czero Tryz.prog 51 = some (.agg #[.int .i64 0, .int .i64 0, .int .i64 0, .int .i64 0, .slice none 0 0]) := by kernel_rfl
theorem fa51x0 : faOk Tryz.prog 51 0 = some 0 := by kernel_rfl
theorem fa51x1 : faOk Tryz.prog 51 1 = some 1 := by kernel_rfl
theorem fa51x2 : faOk Tryz.prog 51 2 = some 2 := by kernel_rfl
theorem fa51x3 : faOk Tryz.prog 51 3 = some 3 := by kernel_rfl
theorem fa51x4 : faOk Tryz.prog 51 4 = some 4 := by kernel_rfl
theorem sz53 : szOf Tryz.prog 53 = some 1 := by kernel_rfl
theorem is53 : (Tryz.prog.info? 53).isSome = true := by kernel_rfl
theorem ce53 : Tryz.prog.cellsOf 53 = 1 := by kernel_rfl
theorem ag53 : aggT Tryz.prog 53 = some false := by kernel_rfl
theorem ze53 : czero Tryz.prog 53 = some (.int .i64 0) := by kernel_rfl
theorem sz54 : szOf Tryz.prog 54 = some 1 := by kernel_rfl
theorem is54 : (Tryz.prog.info? 54).isSome = true := by kernel_rfl
theorem ce54 : Tryz.prog.cellsOf 54 = 1 := by kernel_rfl
theorem ag54 : aggT Tryz.prog 54 = some false := by kernel_rfl
theorem sz67 : szOf Tryz.prog 67 = some 1 := by kernel_rfl
theorem is67 : (Tryz.prog.info? 67).isSome = true := by kernel_rfl
theorem ce67 : Tryz.prog.cellsOf 67 = 1 := by kernel_rfl
theorem ag67 : aggT Tryz.prog 67 = some false := by kernel_rfl
theorem ze67 : czero Tryz.prog 67 = some (.pointer none) := by kernel_rfl
theorem nt67 {x y : Operand} : cbin Tryz.prog .eql 67 x y (.pointer none) (.pointer none) = some (.bool true) := by kernel_rfl
theorem nn67 {x y : Operand} : cbin Tryz.prog .neq 67 x y (.pointer none) (.pointer none) = some (.bool false) := by kernel_rfl
theorem nf67 {x y : Operand} {a : Addr} : cbin Tryz.prog .eql 67 x y (.pointer (some a)) (.pointer none) = some (.bool false) := by kernel_rfl
theorem ng67 {x y : Operand} {a : Addr} : cbin Tryz.prog .neq 67 x y (.pointer (some a)) (.pointer none) = some (.bool true) := by kernel_rfl
theorem sz69 : szOf Tryz.prog 69 = some 1 := by kernel_rfl
theorem is69 : (Tryz.prog.info? 69).isSome = true := by kernel_rfl
theorem ce69 : Tryz.prog.cellsOf 69 = 1 := by kernel_rfl
theorem ag69 : aggT Tryz.prog 69 = some false := by kernel_rfl
theorem ze69 : czero Tryz.prog 69 = some (.pointer none) := by kernel_rfl
theorem nt69 {x y : Operand} : cbin Tryz.prog .eql 69 x y (.pointer none) (.pointer none) = some (.bool true) := by kernel_rfl
theorem nn69 {x y : Operand} : cbin Tryz.prog .neq 69 x y (.pointer none) (.pointer none) = some (.bool false) := by kernel_rfl
theorem nf69 {x y : Operand} {a : Addr} : cbin Tryz.prog .eql 69 x y (.pointer (some a)) (.pointer none) = some (.bool false) := by kernel_rfl
theorem ng69 {x y : Operand} {a : Addr} : cbin Tryz.prog .neq 69 x y (.pointer (some a)) (.pointer none) = some (.bool true) := by kernel_rfl
theorem sz72 : szOf Tryz.prog 72 = some 1 := by kernel_rfl
theorem is72 : (Tryz.prog.info? 72).isSome = true := by kernel_rfl
theorem ce72 : Tryz.prog.cellsOf 72 = 1 := by kernel_rfl
theorem ag72 : aggT Tryz.prog 72 = some false := by kernel_rfl
theorem ze72 : czero Tryz.prog 72 = some (.slice none 0 0) := by kernel_rfl
theorem sz74 : szOf Tryz.prog 74 = some 5 := by kernel_rfl
theorem is74 : (Tryz.prog.info? 74).isSome = true := by kernel_rfl
theorem ce74 : Tryz.prog.cellsOf 74 = 5 := by kernel_rfl
theorem ag74 : aggT Tryz.prog 74 = some true := by kernel_rfl
theorem ze74 : czero Tryz.prog 74 = some (.agg #[.slice none 0 0, .pointer none, .pointer none, .int .i64 0, .int .i64 0]) := by kernel_rfl
theorem fa74x0 : faOk Tryz.prog 74 0 = some 0 := by kernel_rfl
theorem fa74x1 : faOk Tryz.prog 74 1 = some 1 := by kernel_rfl
theorem fa74x2 : faOk Tryz.prog 74 2 = some 2 := by kernel_rfl
theorem fa74x3 : faOk Tryz.prog 74 3 = some 3 := by kernel_rfl
theorem fa74x4 : faOk Tryz.prog 74 4 = some 4 := by kernel_rfl
theorem sz82 : szOf Tryz.prog 82 = some 1 := by kernel_rfl
theorem is82 : (Tryz.prog.info? 82).isSome = true := by kernel_rfl
theorem ce82 : Tryz.prog.cellsOf 82 = 1 := by kernel_rfl
theorem ag82 : aggT Tryz.prog 82 = some false := by kernel_rfl
theorem ze82 : czero Tryz.prog 82 = some (.slice none 0 0) := by kernel_rfl
theorem sz84 : szOf Tryz.prog 84 = some 3 := by kernel_rfl
theorem is84 : (Tryz.prog.info? 84).isSome = true := by kernel_rfl
theorem ce84 : Tryz.prog.cellsOf 84 = 3 := by kernel_rfl
theorem ag84 : aggT Tryz.prog 84 = some true := by kernel_rfl
theorem ze84 : czero Tryz.prog 84 = some (.agg #[.slice none 0 0, .int .i64 0, .int .i64 0]) := by kernel_rfl
theorem fa84x0 : faOk Tryz.prog 84 0 = some 0 := by kernel_rfl
theorem fa84x1 : faOk Tryz.prog 84 1 = some 1 := by kernel_rfl
theorem fa84x2 : faOk Tryz.prog 84 2 = some 2 := by kernel_rfl
theorem sz85 : szOf Tryz.prog 85 = some 1 := by kernel_rfl
theorem is85 : (Tryz.prog.info? 85).isSome = true := by kernel_rfl
theorem ce85 : Tryz.prog.cellsOf 85 = 1 := by kernel_rfl
theorem ag85 : aggT Tryz.prog 85 = some false := by kernel_rfl
theorem ze85 : czero Tryz.prog 85 = some (.slice none 0 0) := by kernel_rfl
theorem sz86 : szOf Tryz.prog 86 = some 1 := by kernel_rfl
theorem is86 : (Tryz.prog.info? 86).isSome = true := by kernel_rfl
theorem ce86 : Tryz.prog.cellsOf 86 = 1 := by kernel_rfl
theorem ag86 : aggT Tryz.prog 86 = some false := by kernel_rfl
theorem sz88 : szOf Tryz.prog 88 = some 1 := by kernel_rfl
theorem is88 : (Tryz.prog.info? 88).isSome = true := by kernel_rfl
theorem ce88 : Tryz.prog.cellsOf 88 = 1 := by kernel_rfl
theorem ag88 : aggT Tryz.prog 88 = some false := by kernel_rfl
theorem ze88 : czero Tryz.prog 88 = some (.pointer none) := by kernel_rfl
theorem nt88 {x y : Operand} : cbin Tryz.prog .eql 88 x y (.pointer none) (.pointer none) = some (.bool true) := by kernel_rfl
theorem nn88 {x y : Operand} : cbin Tryz.prog .neq 88 x y (.pointer none) (.pointer none) = some (.bool false) := by kernel_rfl
theorem nf88 {x y : Operand} {a : Addr} : cbin Tryz.prog .eql 88 x y (.pointer (some a)) (.pointer none) = some (.bool false) := by kernel_rfl
theorem ng88 {x y : Operand} {a : Addr} : cbin Tryz.prog .neq 88 x y (.pointer (some a)) (.pointer none) = some (.bool true) := by kernel_rfl
theorem sz90 : szOf Tryz.prog 90 = some 1 := by kernel_rfl
theorem is90 : (Tryz.prog.info? 90).isSome = true := by kernel_rfl
theorem ce90 : Tryz.prog.cellsOf 90 = 1 := by kernel_rfl
theorem ag90 : aggT Tryz.prog 90 = some false := by kernel_rfl
theorem ze90 : czero Tryz.prog 90 = some (.slice none 0 0) := by kernel_rfl
theorem sz92 : szOf Tryz.prog 92 = some 2 := by kernel_rfl
theorem is92 : (Tryz.prog.info? 92).isSome = true := by kernel_rfl
theorem ce92 : Tryz.prog.cellsOf 92 = 2 := by kernel_rfl
theorem ag92 : aggT Tryz.prog 92 = some true := by kernel_rfl
theorem ze92 : czero Tryz.prog 92 = some (.agg #[.int .i64 0, .slice none 0 0]) := by kernel_rfl
theorem fa92x0 : faOk Tryz.prog 92 0 = some 0 := by kernel_rfl
theorem fa92x1 : faOk Tryz.prog 92 1 = some 1 := by kernel_rfl
theorem sz93 : szOf Tryz.prog 93 = some 1 := by kernel_rfl
theorem is93 : (Tryz.prog.info? 93).isSome = true := by kernel_rfl
theorem ce93 : Tryz.prog.cellsOf 93 = 1 := by kernel_rfl
theorem ag93 : aggT Tryz.prog 93 = some false := by kernel_rfl
theorem ze93 : czero Tryz.prog 93 = some (.pointer none) := by kernel_rfl
theorem nt93 {x y : Operand} : cbin Tryz.prog .eql 93 x y (.pointer none) (.pointer none) = some (.bool true) := by kernel_rfl
theorem nn93 {x y : Operand} : cbin Tryz.prog .neq 93 x y (.pointer none) (.pointer none) = some (.bool false) := by kernel_rfl
theorem nf93 {x y : Operand} {a : Addr} : cbin Tryz.prog .eql 93 x y (.pointer (some a)) (.pointer none) = some (.bool false) := by kernel_rfl
theorem ng93 {x y : Operand} {a : Addr} : cbin Tryz.prog .neq 93 x y (.pointer (some a)) (.pointer none) = some (.bool true) := by kernel_rfl
theorem sz96 : szOf Tryz.prog 96 = some 5 := by kernel_rfl
theorem is96 : (Tryz.prog.info? 96).isSome = true := by kernel_rfl
theorem ce96 : Tryz.prog.cellsOf 96 = 5 := by kernel_rfl
theorem ag96 : aggT Tryz.prog 96 = some true := by kernel_rfl
theorem ze96 : czero Tryz.prog 96 = some (.agg #[.bool false, .bool false, .bool false, .string ByteArray.empty, .slice none 0 0]) := by kernel_rfl
theorem fa96x0 : faOk Tryz.prog 96 0 = some 0 := by kernel_rfl
theorem fa96x1 : faOk Tryz.prog 96 1 = some 1 := by kernel_rfl
theorem fa96x2 : faOk Tryz.prog 96 2 = some 2 := by kernel_rfl
theorem fa96x3 : faOk Tryz.prog 96 3 = some 3 := by kernel_rfl
theorem fa96x4 : faOk Tryz.prog 96 4 = some 4 := by kernel_rfl
theorem sz99 : szOf Tryz.prog 99 = some 2 := by kernel_rfl
theorem is99 : (Tryz.prog.info? 99).isSome = true := by kernel_rfl
theorem ce99 : Tryz.prog.cellsOf 99 = 2 := by kernel_rfl
theorem ag99 : aggT Tryz.prog 99 = some true := by kernel_rfl
theorem ze99 : czero Tryz.prog 99 = some (.agg #[.int .i64 0, .int .i64 0]) := by kernel_rfl
theorem fa99x0 : faOk Tryz.prog 99 0 = some 0 := by kernel_rfl
theorem fa99x1 : faOk Tryz.prog 99 1 = some 1 := by kernel_rfl
theorem sz109 : szOf Tryz.prog 109 = some 1 := by kernel_rfl
theorem is109 : (Tryz.prog.info? 109).isSome = true := by kernel_rfl
theorem ce109 : Tryz.prog.cellsOf 109 = 1 := by kernel_rfl
theorem ag109 : aggT Tryz.prog 109 = some false := by kernel_rfl
theorem sz111 : szOf Tryz.prog 111 = some 1 := by kernel_rfl
theorem is111 : (Tryz.prog.info? 111).isSome = true := by kernel_rfl
theorem ce111 : Tryz.prog.cellsOf 111 = 1 := by kernel_rfl
theorem ag111 : aggT Tryz.prog 111 = some false := by kernel_rfl
theorem ze111 : czero Tryz.prog 111 = some (.pointer none) := by kernel_rfl
theorem nt111 {x y : Operand} : cbin Tryz.prog .eql 111 x y (.pointer none) (.pointer none) = some (.bool true) := by kernel_rfl
theorem nn111 {x y : Operand} : cbin Tryz.prog .neq 111 x y (.pointer none) (.pointer none) = some (.bool false) := by kernel_rfl
theorem nf111 {x y : Operand} {a : Addr} : cbin Tryz.prog .eql 111 x y (.pointer (some a)) (.pointer none) = some (.bool false) := by kernel_rfl
theorem ng111 {x y : Operand} {a : Addr} : cbin Tryz.prog .neq 111 x y (.pointer (some a)) (.pointer none) = some (.bool true) := by kernel_rfl
theorem sz112 : szOf Tryz.prog 112 = some 1 := by kernel_rfl
theorem is112 : (Tryz.prog.info? 112).isSome = true := by kernel_rfl
theorem ce112 : Tryz.prog.cellsOf 112 = 1 := by kernel_rfl
theorem ag112 : aggT Tryz.prog 112 = some false := by kernel_rfl
theorem ze112 : czero Tryz.prog 112 = some (.pointer none) := by kernel_rfl
theorem nt112 {x y : Operand} : cbin Tryz.prog .eql 112 x y (.pointer none) (.pointer none) = some (.bool true) := by kernel_rfl
theorem nn112 {x y : Operand} : cbin Tryz.prog .neq 112 x y (.pointer none) (.pointer none) = some (.bool false) := by kernel_rfl
theorem nf112 {x y : Operand} {a : Addr} : cbin Tryz.prog .eql 112 x y (.pointer (some a)) (.pointer none) = some (.bool false) := by kernel_rfl
theorem ng112 {x y : Operand} {a : Addr} : cbin Tryz.prog .neq 112 x y (.pointer (some a)) (.pointer none) = some (.bool true) := by kernel_rfl
theorem sz115 : szOf Tryz.prog 115 = some 1 := by kernel_rfl
theorem is115 : (Tryz.prog.info? 115).isSome = true := by kernel_rfl
theorem ce115 : Tryz.prog.cellsOf 115 = 1 := by kernel_rfl
theorem ag115 : aggT Tryz.prog 115 = some true := by kernel_rfl
theorem ze115 : czero Tryz.prog 115 = some (.agg #[.pointer none]) := by kernel_rfl
theorem fa115x0 : faOk Tryz.prog 115 0 = some 0 := by kernel_rfl
theorem sz117 : szOf Tryz.prog 117 = some 1 := by kernel_rfl
theorem is117 : (Tryz.prog.info? 117).isSome = true := by kernel_rfl
theorem ce117 : Tryz.prog.cellsOf 117 = 1 := by kernel_rfl
theorem ag117 : aggT Tryz.prog 117 = some false := by kernel_rfl
theorem ze117 : czero Tryz.prog 117 = some (.nilIface) := by kernel_rfl
theorem sz119 : szOf Tryz.prog 119 = some 3 := by kernel_rfl
theorem is119 : (Tryz.prog.info? 119).isSome = true := by kernel_rfl
theorem ce119 : Tryz.prog.cellsOf 119 = 3 := by kernel_rfl
theorem ag119 : aggT Tryz.prog 119 = some true := by kernel_rfl
theorem ze119 : czero Tryz.prog 119 = some (.agg #[.nilIface, .int .i64 0, .int .i64 0]) := by kernel_rfl
theorem fa119x0 : faOk Tryz.prog 119 0 = some 0 := by kernel_rfl
theorem fa119x1 : faOk Tryz.prog 119 1 = some 1 := by kernel_rfl
theorem fa119x2 : faOk Tryz.prog 119 2 = some 2 := by kernel_rfl
theorem sz121 : szOf Tryz.prog 121 = some 1 := by kernel_rfl
theorem is121 : (Tryz.prog.info? 121).isSome = true := by kernel_rfl
theorem ce121 : Tryz.prog.cellsOf 121 = 1 := by kernel_rfl
theorem ag121 : aggT Tryz.prog 121 = some false := by kernel_rfl
theorem ze121 : czero Tryz.prog 121 = some (.pointer none) := by kernel_rfl
theorem nt121 {x y : Operand} : cbin Tryz.prog .eql 121 x y (.pointer none) (.pointer none) = some (.bool true) := by kernel_rfl
theorem nn121 {x y : Operand} : cbin Tryz.prog .neq 121 x y (.pointer none) (.pointer none) = some (.bool false) := by kernel_rfl
theorem nf121 {x y : Operand} {a : Addr} : cbin Tryz.prog .eql 121 x y (.pointer (some a)) (.pointer none) = some (.bool false) := by kernel_rfl
theorem ng121 {x y : Operand} {a : Addr} : cbin Tryz.prog .neq 121 x y (.pointer (some a)) (.pointer none) = some (.bool true) := by kernel_rfl
theorem sz125 : szOf Tryz.prog 125 = some 1 := by kernel_rfl
theorem is125 : (Tryz.prog.info? 125).isSome = true := by kernel_rfl
theorem ce125 : Tryz.prog.cellsOf 125 = 1 := by kernel_rfl
theorem ag125 : aggT Tryz.prog 125 = some false := by kernel_rfl
theorem sz135 : szOf Tryz.prog 135 = some 1 := by kernel_rfl
theorem is135 : (Tryz.prog.info? 135).isSome = true := by kernel_rfl
theorem ce135 : Tryz.prog.cellsOf 135 = 1 := by kernel_rfl
theorem ag135 : aggT Tryz.prog 135 = some false := by kernel_rfl
theorem sz140 : szOf Tryz.prog 140 = some 1 := by kernel_rfl
theorem is140 : (Tryz.prog.info? 140).isSome = true := by kernel_rfl
theorem ce140 : Tryz.prog.cellsOf 140 = 1 := by kernel_rfl
theorem ag140 : aggT Tryz.prog 140 = some false := by kernel_rfl
theorem ze140 : czero Tryz.prog 140 = some (.pointer none) := by kernel_rfl
theorem nt140 {x y : Operand} : cbin Tryz.prog .eql 140 x y (.pointer none) (.pointer none) = some (.bool true) := by kernel_rfl
theorem nn140 {x y : Operand} : cbin Tryz.prog .neq 140 x y (.pointer none) (.pointer none) = some (.bool false) := by kernel_rfl
theorem nf140 {x y : Operand} {a : Addr} : cbin Tryz.prog .eql 140 x y (.pointer (some a)) (.pointer none) = some (.bool false) := by kernel_rfl
theorem ng140 {x y : Operand} {a : Addr} : cbin Tryz.prog .neq 140 x y (.pointer (some a)) (.pointer none) = some (.bool true) := by kernel_rfl
theorem sz141 : szOf Tryz.prog 141 = some 1 := by kernel_rfl
theorem ag141 : aggT Tryz.prog 141 = some false := by kernel_rfl
theorem sz143 : szOf Tryz.prog 143 = some 2 := by kernel_rfl
theorem is143 : (Tryz.prog.info? 143).isSome = true := by kernel_rfl
theorem ce143 : Tryz.prog.cellsOf 143 = 2 := by kernel_rfl
theorem ag143 : aggT Tryz.prog 143 = some true := by kernel_rfl
theorem ze143 : czero Tryz.prog 143 = some (.agg #[.pointer none, .slice none 0 0]) := by kernel_rfl
theorem fa143x0 : faOk Tryz.prog 143 0 = some 0 := by kernel_rfl
theorem fa143x1 : faOk Tryz.prog 143 1 = some 1 := by kernel_rfl
theorem sz145 : szOf Tryz.prog 145 = some 1 := by kernel_rfl
theorem is145 : (Tryz.prog.info? 145).isSome = true := by kernel_rfl
theorem ce145 : Tryz.prog.cellsOf 145 = 1 := by kernel_rfl
theorem ag145 : aggT Tryz.prog 145 = some false := by kernel_rfl
theorem ze145 : czero Tryz.prog 145 = some (.nilIface) := by kernel_rfl
theorem sz146 : szOf Tryz.prog 146 = some 1 := by kernel_rfl
theorem is146 : (Tryz.prog.info? 146).isSome = true := by kernel_rfl
theorem ce146 : Tryz.prog.cellsOf 146 = 1 := by kernel_rfl
theorem ag146 : aggT Tryz.prog 146 = some false := by kernel_rfl
theorem sz149 : szOf Tryz.prog 149 = some 1 := by kernel_rfl
theorem is149 : (Tryz.prog.info? 149).isSome = true := by kernel_rfl
theorem ce149 : Tryz.prog.cellsOf 149 = 1 := by kernel_rfl
theorem ag149 : aggT Tryz.prog 149 = some false := by kernel_rfl
theorem sz157 : szOf Tryz.prog 157 = some 1 := by kernel_rfl
theorem is157 : (Tryz.prog.info? 157).isSome = true := by kernel_rfl
theorem ce157 : Tryz.prog.cellsOf 157 = 1 := by kernel_rfl
theorem ag157 : aggT Tryz.prog 157 = some false := by kernel_rfl
theorem sz168 : szOf Tryz.prog 168 = some 1 := by kernel_rfl
theorem is168 : (Tryz.prog.info? 168).isSome = true := by kernel_rfl
theorem ce168 : Tryz.prog.cellsOf 168 = 1 := by kernel_rfl
theorem ag168 : aggT Tryz.prog 168 = some false := by kernel_rfl
theorem ze168 : czero Tryz.prog 168 = some (.map none) := by kernel_rfl
theorem nt168 {x y : Operand} : cbin Tryz.prog .eql 168 x y (.map none) (.map none) = some (.bool true) := by kernel_rfl
theorem nn168 {x y : Operand} : cbin Tryz.prog .neq 168 x y (.map none) (.map none) = some (.bool false) := by kernel_rfl
theorem nf168 {x y : Operand} {a : Nat} : cbin Tryz.prog .eql 168 x y (.map (some a)) (.map none) = some (.bool false) := by kernel_rfl
theorem ng168 {x y : Operand} {a : Nat} : cbin Tryz.prog .neq 168 x y (.map (some a)) (.map none) = some (.bool true) := by kernel_rfl
theorem sz169 : szOf Tryz.prog 169 = some 1 := by kernel_rfl
theorem ag169 : aggT Tryz.prog 169 = some false := by kernel_rfl
theorem sz171 : szOf Tryz.prog 171 = some 3 := by kernel_rfl
theorem is171 : (Tryz.prog.info? 171).isSome = true := by kernel_rfl
theorem ce171 : Tryz.prog.cellsOf 171 = 3 := by kernel_rfl
theorem ag171 : aggT Tryz.prog 171 = some true := by kernel_rfl
theorem ze171 : czero Tryz.prog 171 = some (.agg #[.slice none 0 0, .map none, .int .i64 0]) := by kernel_rfl
theorem fa171x0 : faOk Tryz.prog 171 0 = some 0 := by kernel_rfl
theorem fa171x1 : faOk Tryz.prog 171 1 = some 1 := by kernel_rfl
theorem fa171x2 : faOk Tryz.prog 171 2 = some 2 := by kernel_rfl
theorem sz172 : szOf Tryz.prog 172 = some 1 := by kernel_rfl
theorem is172 : (Tryz.prog.info? 172).isSome = true := by kernel_rfl
theorem ce172 : Tryz.prog.cellsOf 172 = 1 := by kernel_rfl
theorem ag172 : aggT Tryz.prog 172 = some false := by kernel_rfl
theorem ze172 : czero Tryz.prog 172 = some (.map none) := by kernel_rfl
theorem nt172 {x y : Operand} : cbin Tryz.prog .eql 172 x y (.map none) (.map none) = some (.bool true) := by kernel_rfl
theorem nn172 {x y : Operand} : cbin Tryz.prog .neq 172 x y (.map none) (.map none) = some (.bool false) := by kernel_rfl
theorem nf172 {x y : Operand} {a : Nat} : cbin Tryz.prog .eql 172 x y (.map (some a)) (.map none) = some (.bool false) := by kernel_rfl
theorem ng172 {x y : Operand} {a : Nat} : cbin Tryz.prog .neq 172 x y (.map (some a)) (.map none) = some (.bool true) := by kernel_rfl
theorem sz174 : szOf Tryz.prog 174 = some 2 := by kernel_rfl
theorem is174 : (Tryz.prog.info? 174).isSome = true := by kernel_rfl
theorem ce174 : Tryz.prog.cellsOf 174 = 2 := by kernel_rfl
theorem ag174 : aggT Tryz.prog 174 = some true := by kernel_rfl
theorem ze174 : czero Tryz.prog 174 = some (.agg #[.map none, .slice none 0 0]) := by kernel_rfl
theorem fa174x0 : faOk Tryz.prog 174 0 = some 0 := by kernel_rfl
theorem fa174x1 : faOk Tryz.prog 174 1 = some 1 := by kernel_rfl
theorem sz189 : szOf Tryz.prog 189 = some 1 := by kernel_rfl
theorem ag189 : aggT Tryz.prog 189 = some false := by kernel_rfl
theorem is191 : (Tryz.prog.info? 191).isSome = true := by kernel_rfl
theorem fa191x0 : faOk Tryz.prog 191 0 = some 0 := by kernel_rfl
theorem fa191x1 : faOk Tryz.prog 191 1 = some 1 := by kernel_rfl
theorem sz192 : szOf Tryz.prog 192 = some 1 := by kernel_rfl
theorem is192 : (Tryz.prog.info? 192).isSome = true := by kernel_rfl
theorem ce192 : Tryz.prog.cellsOf 192 = 1 := by kernel_rfl
theorem ag192 : aggT Tryz.prog 192 = some false := by kernel_rfl
theorem sz195 : szOf Tryz.prog 195 = some 5 := by kernel_rfl
theorem is195 : (Tryz.prog.info? 195).isSome = true := by kernel_rfl
theorem ce195 : Tryz.prog.cellsOf 195 = 5 := by kernel_rfl
theorem ag195 : aggT Tryz.prog 195 = some true := by kernel_rfl
theorem ze195 : czero Tryz.prog 195 = some (.agg #[.int .i64 0, .int .i64 0, .int .i64 0, .int .i64 0, .map none]) := by kernel_rfl
theorem fa195x0 : faOk Tryz.prog 195 0 = some 0 := by kernel_rfl
theorem fa195x1 : faOk Tryz.prog 195 1 = some 1 := by kernel_rfl
theorem fa195x2 : faOk Tryz.prog 195 2 = some 2 := by kernel_rfl
theorem fa195x3 : faOk Tryz.prog 195 3 = some 3 := by kernel_rfl
theorem fa195x4 : faOk Tryz.prog 195 4 = some 4 := by kernel_rfl
theorem sz200 : szOf Tryz.prog 200 = some 1 := by kernel_rfl
theorem is200 : (Tryz.prog.info? 200).isSome = true := by kernel_rfl
theorem ce200 : Tryz.prog.cellsOf 200 = 1 := by kernel_rfl
theorem ag200 : aggT Tryz.prog 200 = some false := by kernel_rfl
theorem sz206 : szOf Tryz.prog 206 = some 1 := by kernel_rfl
theorem is206 : (Tryz.prog.info? 206).isSome = true := by kernel_rfl
theorem ce206 : Tryz.prog.cellsOf 206 = 1 := by kernel_rfl
theorem ag206 : aggT Tryz.prog 206 = some false := by kernel_rfl
theorem sz209 : szOf Tryz.prog 209 = some 5 := by kernel_rfl
theorem is209 : (Tryz.prog.info? 209).isSome = true := by kernel_rfl
theorem ce209 : Tryz.prog.cellsOf 209 = 5 := by kernel_rfl
theorem ag209 : aggT Tryz.prog 209 = some true := by kernel_rfl
theorem ze209 : czero Tryz.prog 209 = some (.agg #[.string ByteArray.empty, .int .i64 0, .int .i64 0, .string ByteArray.empty, .bool false]) := by kernel_rfl
theorem fa209x0 : faOk Tryz.prog 209 0 = some 0 := by kernel_rfl
theorem fa209x1 : faOk Tryz.prog 209 1 = some 1 := by kernel_rfl
theorem fa209x2 : faOk Tryz.prog 209 2 = some 4 := by kernel_rfl
theorem nt210 {x y : Operand} : cbin Tryz.prog .eql 210 x y (.pointer none) (.pointer none) = some (.bool true) := by kernel_rfl
theorem nn210 {x y : Operand} : cbin Tryz.prog .neq 210 x y (.pointer none) (.pointer none) = some (.bool false) := by kernel_rfl
theorem nf210 {x y : Operand} {a : Addr} : cbin Tryz.prog .eql 210 x y (.pointer (some a)) (.pointer none) = some (.bool false) := by kernel_rfl
theorem ng210 {x y : Operand} {a : Addr} : cbin Tryz.prog .neq 210 x y (.pointer (some a)) (.pointer none) = some (.bool true) := by kernel_rfl
theorem ze213 : czero Tryz.prog 213 = some (.agg #[.int .u8 0, .int .u8 0, .int .u8 0, .int .u8 0, .int .u8 0, .int .u8 0, .int .u8 0, .int .u8 0, .int .u8 0, .int .u8 0, .int .u8 0, .int .u8 0, .int .u8 0, .int .u8 0, .int .u8 0, .int .u8 0, .int .u8 0, .int .u8 0, .int .u8 0, .int .u8 0]) := by kernel_rfl
end Go.Proofs.Tryz
