/- Facts on the types of the program: sizes, places of fields, zero values. Written by program (types.py). A lemma file: no statement of its own. -/
import Derived.Test.YtnkichmojbanlaaChecked
import Derived.Test.YtnkichmojbanlaaqFwE
set_option linter.unusedSimpArgs false
set_option linter.unusedVariables false
namespace Go.Proofs.Try
open Go.Cs
theorem sz3 : szOf Try.prog 3 = some 1 := by kernel_rfl
theorem is3 : (Try.prog.info? 3).isSome = true := by kernel_rfl
theorem ce3 : Try.prog.cellsOf 3 = 1 := by kernel_rfl
theorem ag3 : aggT Try.prog 3 = some false := by kernel_rfl
theorem ze3 : czero Try.prog 3 = some (.int .i64 0) := by kernel_rfl
theorem sz4 : szOf Try.prog 4 = some 1 := by kernel_rfl
theorem is4 : (Try.prog.info? 4).isSome = true := by kernel_rfl
theorem ce4 : Try.prog.cellsOf 4 = 1 := by kernel_rfl
theorem ag4 : aggT Try.prog 4 = some false := by kernel_rfl
theorem ze4 : czero Try.prog 4 = some (.bool false) := by kernel_rfl
theorem be4 {x y : Operand} {a b : Bool} : cbin Try.prog .eql 4 x y (.bool a) (.bool b) = some (.bool (a == b)) := by kernel_rfl
theorem bn4 {x y : Operand} {a b : Bool} : cbin Try.prog .neq 4 x y (.bool a) (.bool b) = some (.bool (!(a == b))) := by kernel_rfl
theorem sz5 : szOf Try.prog 5 = some 1 := by kernel_rfl
theorem is5 : (Try.prog.info? 5).isSome = true := by kernel_rfl
theorem ce5 : Try.prog.cellsOf 5 = 1 := by kernel_rfl
theorem ag5 : aggT Try.prog 5 = some false := by kernel_rfl
theorem ze5 : czero Try.prog 5 = some (.int .u8 0) := by kernel_rfl
theorem sz9 : szOf Try.prog 9 = some 1 := by kernel_rfl
theorem is9 : (Try.prog.info? 9).isSome = true := by kernel_rfl
theorem ce9 : Try.prog.cellsOf 9 = 1 := by kernel_rfl
theorem ag9 : aggT Try.prog 9 = some false := by kernel_rfl
theorem ze9 : czero Try.prog 9 = some (.string ByteArray.empty) := by kernel_rfl
theorem sz22 : szOf Try.prog 22 = some 1 := by kernel_rfl
theorem is22 : (Try.prog.info? 22).isSome = true := by kernel_rfl
theorem ce22 : Try.prog.cellsOf 22 = 1 := by kernel_rfl
theorem ag22 : aggT Try.prog 22 = some false := by kernel_rfl
theorem ze22 : czero Try.prog 22 = some (.slice none 0 0) := by kernel_rfl
theorem sz23 : szOf Try.prog 23 = some 1 := by kernel_rfl
theorem is23 : (Try.prog.info? 23).isSome = true := by kernel_rfl
theorem ce23 : Try.prog.cellsOf 23 = 1 := by kernel_rfl
theorem ag23 : aggT Try.prog 23 = some false := by kernel_rfl
theorem ze23 : czero Try.prog 23 = some (.pointer none) := by kernel_rfl
theorem nt23 {x y : Operand} : cbin Try.prog .eql 23 x y (.pointer none) (.pointer none) = some (.bool true) := by kernel_rfl
theorem nn23 {x y : Operand} : cbin Try.prog .neq 23 x y (.pointer none) (.pointer none) = some (.bool false) := by kernel_rfl
theorem nf23 {x y : Operand} {a : Addr} : cbin Try.prog .eql 23 x y (.pointer (some a)) (.pointer none) = some (.bool false) := by kernel_rfl
theorem ng23 {x y : Operand} {a : Addr} : cbin Try.prog .neq 23 x y (.pointer (some a)) (.pointer none) = some (.bool true) := by kernel_rfl
theorem sz24 : szOf Try.prog 24 = some 1 := by kernel_rfl
theorem is24 : (Try.prog.info? 24).isSome = true := by kernel_rfl
theorem ce24 : Try.prog.cellsOf 24 = 1 := by kernel_rfl
theorem ag24 : aggT Try.prog 24 = some false := by kernel_rfl
theorem ze24 : czero Try.prog 24 = some (.slice none 0 0) := by kernel_rfl
theorem sz26 : szOf Try.prog 26 = some 3 := by kernel_rfl
theorem is26 : (Try.prog.info? 26).isSome = true := by kernel_rfl
theorem ce26 : Try.prog.cellsOf 26 = 3 := by kernel_rfl
theorem ag26 : aggT Try.prog 26 = some true := by kernel_rfl
theorem ze26 : czero Try.prog 26 = some (.agg #[.slice none 0 0, .int .i64 0, .int .i64 0]) := by kernel_rfl
theorem fa26x0 : faOk Try.prog 26 0 = some 0 := by kernel_rfl
theorem fa26x1 : faOk Try.prog 26 1 = some 1 := by kernel_rfl
theorem fa26x2 : faOk Try.prog 26 2 = some 2 := by kernel_rfl
theorem sz27 : szOf Try.prog 27 = some 1 := by kernel_rfl
theorem is27 : (Try.prog.info? 27).isSome = true := by kernel_rfl
theorem ce27 : Try.prog.cellsOf 27 = 1 := by kernel_rfl
theorem ag27 : aggT Try.prog 27 = some false := by kernel_rfl
theorem ze27 : czero Try.prog 27 = some (.slice none 0 0) := by kernel_rfl
theorem sz28 : szOf Try.prog 28 = some 1 := by kernel_rfl
theorem is28 : (Try.prog.info? 28).isSome = true := by kernel_rfl
theorem ce28 : Try.prog.cellsOf 28 = 1 := by kernel_rfl
theorem ag28 : aggT Try.prog 28 = some false := by kernel_rfl
theorem ze28 : czero Try.prog 28 = some (.pointer none) := by kernel_rfl
theorem nt28 {x y : Operand} : cbin Try.prog .eql 28 x y (.pointer none) (.pointer none) = some (.bool true) := by kernel_rfl
theorem nn28 {x y : Operand} : cbin Try.prog .neq 28 x y (.pointer none) (.pointer none) = some (.bool false) := by kernel_rfl
theorem nf28 {x y : Operand} {a : Addr} : cbin Try.prog .eql 28 x y (.pointer (some a)) (.pointer none) = some (.bool false) := by kernel_rfl
theorem ng28 {x y : Operand} {a : Addr} : cbin Try.prog .neq 28 x y (.pointer (some a)) (.pointer none) = some (.bool true) := by kernel_rfl
theorem sz31 : szOf Try.prog 31 = some 4 := by kernel_rfl
theorem is31 : (Try.prog.info? 31).isSome = true := by kernel_rfl
theorem ce31 : Try.prog.cellsOf 31 = 4 := by kernel_rfl
theorem ag31 : aggT Try.prog 31 = some true := by kernel_rfl
theorem ze31 : czero Try.prog 31 = some (.agg #[.int .i64 0, .int .i64 0, .int .i64 0, .int .i64 0]) := by kernel_rfl
theorem fa31x0 : faOk Try.prog 31 0 = some 0 := by kernel_rfl
theorem fa31x1 : faOk Try.prog 31 1 = some 1 := by kernel_rfl
theorem fa31x2 : faOk Try.prog 31 2 = some 2 := by kernel_rfl
theorem fa31x3 : faOk Try.prog 31 3 = some 3 := by kernel_rfl
theorem sz32 : szOf Try.prog 32 = some 1 := by kernel_rfl
theorem is32 : (Try.prog.info? 32).isSome = true := by kernel_rfl
theorem ce32 : Try.prog.cellsOf 32 = 1 := by kernel_rfl
theorem ag32 : aggT Try.prog 32 = some false := by kernel_rfl
theorem ze32 : czero Try.prog 32 = some (.int .i64 0) := by kernel_rfl
theorem sz33 : szOf Try.prog 33 = some 1 := by kernel_rfl
theorem is33 : (Try.prog.info? 33).isSome = true := by kernel_rfl
theorem ce33 : Try.prog.cellsOf 33 = 1 := by kernel_rfl
theorem ag33 : aggT Try.prog 33 = some false := by kernel_rfl
theorem sz37 : szOf Try.prog 37 = some 3 := by kernel_rfl
theorem is37 : (Try.prog.info? 37).isSome = true := by kernel_rfl
theorem ce37 : Try.prog.cellsOf 37 = 3 := by kernel_rfl
theorem ag37 : aggT Try.prog 37 = some true := by kernel_rfl
theorem ze37 : czero Try.prog 37 = some (.agg #[.int .i64 0, .int .i64 0, .string ByteArray.empty]) := by kernel_rfl
theorem fa37x0 : faOk Try.prog 37 0 = some 0 := by kernel_rfl
theorem fa37x1 : faOk Try.prog 37 1 = some 1 := by kernel_rfl
theorem fa37x2 : faOk Try.prog 37 2 = some 2 := by kernel_rfl
theorem sz39 : szOf Try.prog 39 = some 9 := by kernel_rfl
theorem is39 : (Try.prog.info? 39).isSome = true := by kernel_rfl
theorem ce39 : Try.prog.cellsOf 39 = 9 := by kernel_rfl
theorem ag39 : aggT Try.prog 39 = some true := by kernel_rfl
theorem ze39 : czero Try.prog 39 = some (.agg #[.int .i64 0, .int .i64 0, .int .i64 0, .int .i64 0, .int .i64 0, .string ByteArray.empty, .int .i64 0, .int .i64 0, .string ByteArray.empty]) := by kernel_rfl
theorem fa39x0 : faOk Try.prog 39 0 = some 0 := by kernel_rfl
theorem fa39x1 : faOk Try.prog 39 1 = some 1 := by kernel_rfl
theorem fa39x2 : faOk Try.prog 39 2 = some 2 := by kernel_rfl
theorem fa39x3 : faOk Try.prog 39 3 = some 3 := by kernel_rfl
theorem fa39x4 : faOk Try.prog 39 4 = some 4 := by kernel_rfl
theorem fa39x5 : faOk Try.prog 39 5 = some 5 := by kernel_rfl
theorem fa39x6 : faOk Try.prog 39 6 = some 6 := by kernel_rfl
theorem sz46 : szOf Try.prog 46 = some 1 := by kernel_rfl
theorem is46 : (Try.prog.info? 46).isSome = true := by kernel_rfl
theorem ce46 : Try.prog.cellsOf 46 = 1 := by kernel_rfl
theorem ag46 : aggT Try.prog 46 = some false := by kernel_rfl
theorem ze46 : czero Try.prog 46 = some (.slice none 0 0) := by kernel_rfl
theorem sz47 : szOf Try.prog 47 = some 1 := by kernel_rfl
theorem is47 : (Try.prog.info? 47).isSome = true := by kernel_rfl
theorem ce47 : Try.prog.cellsOf 47 = 1 := by kernel_rfl
theorem ag47 : aggT Try.prog 47 = some false := by kernel_rfl
theorem sz49 : szOf Try.prog 49 = some 1 := by kernel_rfl
theorem is49 : (Try.prog.info? 49).isSome = true := by kernel_rfl
theorem ce49 : Try.prog.cellsOf 49 = 1 := by kernel_rfl
theorem ag49 : aggT Try.prog 49 = some false := by kernel_rfl
theorem sz51 : szOf Try.prog 51 = some 1 := by kernel_rfl
theorem is51 : (Try.prog.info? 51).isSome = true := by kernel_rfl
theorem ce51 : Try.prog.cellsOf 51 = 1 := by kernel_rfl
theorem ag51 : aggT Try.prog 51 = some false := by kernel_rfl
theorem sz55 : szOf Try.prog 55 = some 1 := by kernel_rfl
theorem is55 : (Try.prog.info? 55).isSome = true := by kernel_rfl
theorem ce55 : Try.prog.cellsOf 55 = 1 := by kernel_rfl
theorem ag55 : aggT Try.prog 55 = some false := by kernel_rfl
theorem ze55 : czero Try.prog 55 = some (.pointer none) := by kernel_rfl
theorem nt55 {x y : Operand} : cbin Try.prog .eql 55 x y (.pointer none) (.pointer none) = some (.bool true) := by kernel_rfl
theorem nn55 {x y : Operand} : cbin Try.prog .neq 55 x y (.pointer none) (.pointer none) = some (.bool false) := by kernel_rfl
theorem nf55 {x y : Operand} {a : Addr} : cbin Try.prog .eql 55 x y (.pointer (some a)) (.pointer none) = some (.bool false) := by kernel_rfl
theorem ng55 {x y : Operand} {a : Addr} : cbin Try.prog .neq 55 x y (.pointer (some a)) (.pointer none) = some (.bool true) := by kernel_rfl
theorem sz57 : szOf Try.prog 57 = some 1 := by kernel_rfl
theorem is57 : (Try.prog.info? 57).isSome = true := by kernel_rfl
theorem ce57 : Try.prog.cellsOf 57 = 1 := by kernel_rfl
theorem ag57 : aggT Try.prog 57 = some false := by kernel_rfl
theorem ze57 : czero Try.prog 57 = some (.pointer none) := by kernel_rfl
theorem nt57 {x y : Operand} : cbin Try.prog .eql 57 x y (.pointer none) (.pointer none) = some (.bool true) := by kernel_rfl
theorem nn57 {x y : Operand} : cbin Try.prog .neq 57 x y (.pointer none) (.pointer none) = some (.bool false) := by kernel_rfl
theorem nf57 {x y : Operand} {a : Addr} : cbin Try.prog .eql 57 x y (.pointer (some a)) (.pointer none) = some (.bool false) := by kernel_rfl
theorem ng57 {x y : Operand} {a : Addr} : cbin Try.prog .neq 57 x y (.pointer (some a)) (.pointer none) = some (.bool true) := by kernel_rfl
theorem sz60 : szOf Try.prog 60 = some 1 := by kernel_rfl
theorem is60 : (Try.prog.info? 60).isSome = true := by kernel_rfl
theorem ce60 : Try.prog.cellsOf 60 = 1 := by kernel_rfl
theorem ag60 : aggT Try.prog 60 = some false := by kernel_rfl
theorem ze60 : czero Try.prog 60 = some (.slice none 0 0) := by kernel_rfl
theorem sz62 : szOf Try.prog 62 = some 5 := by kernel_rfl
theorem is62 : (Try.prog.info? 62).isSome = true := by kernel_rfl
theorem ce62 : Try.prog.cellsOf 62 = 5 := by kernel_rfl
theorem ag62 : aggT Try.prog 62 = some true := by kernel_rfl
theorem ze62 : czero Try.prog 62 = some (.agg #[.slice none 0 0, .pointer none, .pointer none, .int .i64 0, .int .i64 0]) := by kernel_rfl
theorem fa62x0 : faOk Try.prog 62 0 = some 0 := by kernel_rfl
theorem fa62x1 : faOk Try.prog 62 1 = some 1 := by kernel_rfl
theorem fa62x2 : faOk Try.prog 62 2 = some 2 := by kernel_rfl
theorem fa62x3 : faOk Try.prog 62 3 = some 3 := by kernel_rfl
theorem fa62x4 : faOk Try.prog 62 4 = some 4 := by kernel_rfl
theorem sz63 : szOf Try.prog 63 = some 1 := by kernel_rfl
theorem is63 : (Try.prog.info? 63).isSome = true := by kernel_rfl
theorem ce63 : Try.prog.cellsOf 63 = 1 := by kernel_rfl
theorem ag63 : aggT Try.prog 63 = some false := by kernel_rfl
theorem ze63 : czero Try.prog 63 = some (.pointer none) := by kernel_rfl
theorem nt63 {x y : Operand} : cbin Try.prog .eql 63 x y (.pointer none) (.pointer none) = some (.bool true) := by kernel_rfl
theorem nn63 {x y : Operand} : cbin Try.prog .neq 63 x y (.pointer none) (.pointer none) = some (.bool false) := by kernel_rfl
theorem nf63 {x y : Operand} {a : Addr} : cbin Try.prog .eql 63 x y (.pointer (some a)) (.pointer none) = some (.bool false) := by kernel_rfl
theorem ng63 {x y : Operand} {a : Addr} : cbin Try.prog .neq 63 x y (.pointer (some a)) (.pointer none) = some (.bool true) := by kernel_rfl
theorem sz64 : szOf Try.prog 64 = some 1 := by kernel_rfl
theorem is64 : (Try.prog.info? 64).isSome = true := by kernel_rfl
theorem ce64 : Try.prog.cellsOf 64 = 1 := by kernel_rfl
theorem ag64 : aggT Try.prog 64 = some false := by kernel_rfl
theorem ze64 : czero Try.prog 64 = some (.pointer none) := by kernel_rfl
theorem nt64 {x y : Operand} : cbin Try.prog .eql 64 x y (.pointer none) (.pointer none) = some (.bool true) := by kernel_rfl
theorem nn64 {x y : Operand} : cbin Try.prog .neq 64 x y (.pointer none) (.pointer none) = some (.bool false) := by kernel_rfl
theorem nf64 {x y : Operand} {a : Addr} : cbin Try.prog .eql 64 x y (.pointer (some a)) (.pointer none) = some (.bool false) := by kernel_rfl
theorem ng64 {x y : Operand} {a : Addr} : cbin Try.prog .neq 64 x y (.pointer (some a)) (.pointer none) = some (.bool true) := by kernel_rfl
theorem sz67 : szOf Try.prog 67 = some 1 := by kernel_rfl
theorem is67 : (Try.prog.info? 67).isSome = true := by kernel_rfl
theorem ce67 : Try.prog.cellsOf 67 = 1 := by kernel_rfl
theorem ag67 : aggT Try.prog 67 = some true := by kernel_rfl
theorem ze67 : czero Try.prog 67 = some (.agg #[.pointer none]) := by kernel_rfl
theorem fa67x0 : faOk Try.prog 67 0 = some 0 := by kernel_rfl
theorem sz69 : szOf Try.prog 69 = some 1 := by kernel_rfl
theorem is69 : (Try.prog.info? 69).isSome = true := by kernel_rfl
theorem ce69 : Try.prog.cellsOf 69 = 1 := by kernel_rfl
theorem ag69 : aggT Try.prog 69 = some false := by kernel_rfl
theorem ze69 : czero Try.prog 69 = some (.nilIface) := by kernel_rfl
theorem sz71 : szOf Try.prog 71 = some 3 := by kernel_rfl
theorem is71 : (Try.prog.info? 71).isSome = true := by kernel_rfl
theorem ce71 : Try.prog.cellsOf 71 = 3 := by kernel_rfl
theorem ag71 : aggT Try.prog 71 = some true := by kernel_rfl
theorem ze71 : czero Try.prog 71 = some (.agg #[.nilIface, .int .i64 0, .int .i64 0]) := by kernel_rfl
theorem fa71x0 : faOk Try.prog 71 0 = some 0 := by kernel_rfl
theorem fa71x1 : faOk Try.prog 71 1 = some 1 := by kernel_rfl
theorem fa71x2 : faOk Try.prog 71 2 = some 2 := by kernel_rfl
theorem sz73 : szOf Try.prog 73 = some 1 := by kernel_rfl
theorem is73 : (Try.prog.info? 73).isSome = true := by kernel_rfl
theorem ce73 : Try.prog.cellsOf 73 = 1 := by kernel_rfl
theorem ag73 : aggT Try.prog 73 = some false := by kernel_rfl
theorem ze73 : czero Try.prog 73 = some (.pointer none) := by kernel_rfl
theorem nt73 {x y : Operand} : cbin Try.prog .eql 73 x y (.pointer none) (.pointer none) = some (.bool true) := by kernel_rfl
theorem nn73 {x y : Operand} : cbin Try.prog .neq 73 x y (.pointer none) (.pointer none) = some (.bool false) := by kernel_rfl
theorem nf73 {x y : Operand} {a : Addr} : cbin Try.prog .eql 73 x y (.pointer (some a)) (.pointer none) = some (.bool false) := by kernel_rfl
theorem ng73 {x y : Operand} {a : Addr} : cbin Try.prog .neq 73 x y (.pointer (some a)) (.pointer none) = some (.bool true) := by kernel_rfl
theorem sz74 : szOf Try.prog 74 = some 1 := by kernel_rfl
theorem is74 : (Try.prog.info? 74).isSome = true := by kernel_rfl
theorem ce74 : Try.prog.cellsOf 74 = 1 := by kernel_rfl
theorem ag74 : aggT Try.prog 74 = some false := by kernel_rfl
theorem ze74 : czero Try.prog 74 = some (.slice none 0 0) := by kernel_rfl
theorem sz76 : szOf Try.prog 76 = some 2 := by kernel_rfl
theorem is76 : (Try.prog.info? 76).isSome = true := by kernel_rfl
theorem ce76 : Try.prog.cellsOf 76 = 2 := by kernel_rfl
theorem ag76 : aggT Try.prog 76 = some true := by kernel_rfl
theorem ze76 : czero Try.prog 76 = some (.agg #[.int .i64 0, .slice none 0 0]) := by kernel_rfl
theorem fa76x0 : faOk Try.prog 76 0 = some 0 := by kernel_rfl
theorem fa76x1 : faOk Try.prog 76 1 = some 1 := by kernel_rfl
theorem sz78 : szOf Try.prog 78 = some 1 := by kernel_rfl
theorem is78 : (Try.prog.info? 78).isSome = true := by kernel_rfl
theorem ce78 : Try.prog.cellsOf 78 = 1 := by kernel_rfl
theorem ag78 : aggT Try.prog 78 = some false := by kernel_rfl
theorem ze78 : czero Try.prog 78 = some (.slice none 0 0) := by kernel_rfl
theorem sz79 : szOf Try.prog 79 = some 1 := by kernel_rfl
theorem is79 : (Try.prog.info? 79).isSome = true := by kernel_rfl
theorem ce79 : Try.prog.cellsOf 79 = 1 := by kernel_rfl
theorem ag79 : aggT Try.prog 79 = some false := by kernel_rfl
theorem ze79 : czero Try.prog 79 = some (.slice none 0 0) := by kernel_rfl
theorem sz81 : szOf Try.prog 81 = some 5 := by kernel_rfl
theorem is81 : (Try.prog.info? 81).isSome = true := by kernel_rfl
theorem ce81 : Try.prog.cellsOf 81 = 5 := by kernel_rfl
theorem ag81 : aggT Try.prog 81 = some true := by kernel_rfl
theorem ze81 : czero Try.prog 81 = some (.agg #[.bool false, .bool false, .bool false, .string ByteArray.empty, .slice none 0 0]) := by kernel_rfl
theorem fa81x0 : faOk Try.prog 81 0 = some 0 := by kernel_rfl
theorem fa81x1 : faOk Try.prog 81 1 = some 1 := by kernel_rfl
theorem fa81x2 : faOk Try.prog 81 2 = some 2 := by kernel_rfl
theorem fa81x3 : faOk Try.prog 81 3 = some 3 := by kernel_rfl
theorem fa81x4 : faOk Try.prog 81 4 = some 4 := by kernel_rfl
theorem sz82 : szOf Try.prog 82 = some 1 := by kernel_rfl
theorem is82 : (Try.prog.info? 82).isSome = true := by kernel_rfl
theorem ce82 : Try.prog.cellsOf 82 = 1 := by kernel_rfl
theorem ag82 : aggT Try.prog 82 = some false := by kernel_rfl
theorem ze82 : czero Try.prog 82 = some (.pointer none) := by kernel_rfl
theorem nt82 {x y : Operand} : cbin Try.prog .eql 82 x y (.pointer none) (.pointer none) = some (.bool true) := by kernel_rfl
theorem nn82 {x y : Operand} : cbin Try.prog .neq 82 x y (.pointer none) (.pointer none) = some (.bool false) := by kernel_rfl
theorem nf82 {x y : Operand} {a : Addr} : cbin Try.prog .eql 82 x y (.pointer (some a)) (.pointer none) = some (.bool false) := by kernel_rfl
theorem ng82 {x y : Operand} {a : Addr} : cbin Try.prog .neq 82 x y (.pointer (some a)) (.pointer none) = some (.bool true) := by kernel_rfl
theorem sz85 : szOf Try.prog 85 = some 1 := by kernel_rfl
theorem is85 : (Try.prog.info? 85).isSome = true := by kernel_rfl
theorem ce85 : Try.prog.cellsOf 85 = 1 := by kernel_rfl
theorem ag85 : aggT Try.prog 85 = some false := by kernel_rfl
theorem ze85 : czero Try.prog 85 = some (.pointer none) := by kernel_rfl
theorem nt85 {x y : Operand} : cbin Try.prog .eql 85 x y (.pointer none) (.pointer none) = some (.bool true) := by kernel_rfl
theorem nn85 {x y : Operand} : cbin Try.prog .neq 85 x y (.pointer none) (.pointer none) = some (.bool false) := by kernel_rfl
theorem nf85 {x y : Operand} {a : Addr} : cbin Try.prog .eql 85 x y (.pointer (some a)) (.pointer none) = some (.bool false) := by kernel_rfl
theorem ng85 {x y : Operand} {a : Addr} : cbin Try.prog .neq 85 x y (.pointer (some a)) (.pointer none) = some (.bool true) := by kernel_rfl
theorem sz87 : szOf Try.prog 87 = some 1 := by kernel_rfl
theorem is87 : (Try.prog.info? 87).isSome = true := by kernel_rfl
theorem ce87 : Try.prog.cellsOf 87 = 1 := by kernel_rfl
theorem ag87 : aggT Try.prog 87 = some false := by kernel_rfl
theorem ze87 : czero Try.prog 87 = some (.slice none 0 0) := by kernel_rfl
theorem sz89 : szOf Try.prog 89 = some 5 := by kernel_rfl
theorem is89 : (Try.prog.info? 89).isSome = true := by kernel_rfl
theorem ce89 : Try.prog.cellsOf 89 = 5 := by kernel_rfl
theorem ag89 : aggT Try.prog 89 = some true := by kernel_rfl
theorem ze89 : czero Try.prog 89 = some (.agg #[.int .i64 0, .int .i64 0, .int .i64 0, .int .i64 0, .slice none 0 0]) := by kernel_rfl
theorem fa89x0 : faOk Try.prog 89 0 = some 0 := by kernel_rfl
theorem fa89x1 : faOk Try.prog 89 1 = some 1 := by kernel_rfl
theorem fa89x2 : faOk Try.prog 89 2 = some 2 := by kernel_rfl
theorem fa89x3 : faOk Try.prog 89 3 = some 3 := by kernel_rfl
theorem fa89x4 : faOk Try.prog 89 4 = some 4 := by kernel_rfl
theorem sz95 : szOf Try.prog 95 = some 1 := by kernel_rfl
theorem is95 : (Try.prog.info? 95).isSome = true := by kernel_rfl
theorem ce95 : Try.prog.cellsOf 95 = 1 := by kernel_rfl
theorem ag95 : aggT Try.prog 95 = some false := by kernel_rfl
theorem sz99 : szOf Try.prog 99 = some 1 := by kernel_rfl
theorem is99 : (Try.prog.info? 99).isSome = true := by kernel_rfl
theorem ce99 : Try.prog.cellsOf 99 = 1 := by kernel_rfl
theorem ag99 : aggT Try.prog 99 = some false := by kernel_rfl
theorem sz104 : szOf Try.prog 104 = some 1 := by kernel_rfl
theorem is104 : (Try.prog.info? 104).isSome = true := by kernel_rfl
theorem ce104 : Try.prog.cellsOf 104 = 1 := by kernel_rfl
theorem ag104 : aggT Try.prog 104 = some false := by kernel_rfl
theorem sz108 : szOf Try.prog 108 = some 2 := by kernel_rfl
theorem is108 : (Try.prog.info? 108).isSome = true := by kernel_rfl
theorem ce108 : Try.prog.cellsOf 108 = 2 := by kernel_rfl
theorem ag108 : aggT Try.prog 108 = some true := by kernel_rfl
theorem ze108 : czero Try.prog 108 = some (.agg #[.int .i64 0, .int .i64 0]) := by kernel_rfl
theorem fa108x0 : faOk Try.prog 108 0 = some 0 := by kernel_rfl
theorem fa108x1 : faOk Try.prog 108 1 = some 1 := by kernel_rfl
theorem sz109 : szOf Try.prog 109 = some 1 := by kernel_rfl
theorem is109 : (Try.prog.info? 109).isSome = true := by kernel_rfl
theorem ce109 : Try.prog.cellsOf 109 = 1 := by kernel_rfl
theorem ag109 : aggT Try.prog 109 = some false := by kernel_rfl
theorem ze109 : czero Try.prog 109 = some (.pointer none) := by kernel_rfl
theorem nt109 {x y : Operand} : cbin Try.prog .eql 109 x y (.pointer none) (.pointer none) = some (.bool true) := by kernel_rfl
theorem nn109 {x y : Operand} : cbin Try.prog .neq 109 x y (.pointer none) (.pointer none) = some (.bool false) := by kernel_rfl
theorem nf109 {x y : Operand} {a : Addr} : cbin Try.prog .eql 109 x y (.pointer (some a)) (.pointer none) = some (.bool false) := by kernel_rfl
theorem ng109 {x y : Operand} {a : Addr} : cbin Try.prog .neq 109 x y (.pointer (some a)) (.pointer none) = some (.bool true) := by kernel_rfl
theorem sz110 : szOf Try.prog 110 = some 1 := by kernel_rfl
theorem ag110 : aggT Try.prog 110 = some false := by kernel_rfl
theorem sz112 : szOf Try.prog 112 = some 2 := by kernel_rfl
theorem is112 : (Try.prog.info? 112).isSome = true := by kernel_rfl
theorem ce112 : Try.prog.cellsOf 112 = 2 := by kernel_rfl
theorem ag112 : aggT Try.prog 112 = some true := by kernel_rfl
theorem ze112 : czero Try.prog 112 = some (.agg #[.pointer none, .slice none 0 0]) := by kernel_rfl
theorem fa112x0 : faOk Try.prog 112 0 = some 0 := by kernel_rfl
theorem fa112x1 : faOk Try.prog 112 1 = some 1 := by kernel_rfl
theorem sz115 : szOf Try.prog 115 = some 1 := by kernel_rfl
theorem is115 : (Try.prog.info? 115).isSome = true := by kernel_rfl
theorem ce115 : Try.prog.cellsOf 115 = 1 := by kernel_rfl
theorem ag115 : aggT Try.prog 115 = some false := by kernel_rfl
theorem ze115 : czero Try.prog 115 = some (.nilIface) := by kernel_rfl
theorem sz116 : szOf Try.prog 116 = some 1 := by kernel_rfl
theorem is116 : (Try.prog.info? 116).isSome = true := by kernel_rfl
theorem ce116 : Try.prog.cellsOf 116 = 1 := by kernel_rfl
theorem ag116 : aggT Try.prog 116 = some false := by kernel_rfl
theorem sz119 : szOf Try.prog 119 = some 1 := by kernel_rfl
theorem is119 : (Try.prog.info? 119).isSome = true := by kernel_rfl
theorem ce119 : Try.prog.cellsOf 119 = 1 := by kernel_rfl
theorem ag119 : aggT Try.prog 119 = some false := by kernel_rfl
theorem sz124 : szOf Try.prog 124 = some 1 := by kernel_rfl
theorem is124 : (Try.prog.info? 124).isSome = true := by kernel_rfl
theorem ce124 : Try.prog.cellsOf 124 = 1 := by kernel_rfl
theorem ag124 : aggT Try.prog 124 = some false := by kernel_rfl
theorem ze124 : czero Try.prog 124 = some (.map none) := by kernel_rfl
theorem nt124 {x y : Operand} : cbin Try.prog .eql 124 x y (.map none) (.map none) = some (.bool true) := by kernel_rfl
theorem nn124 {x y : Operand} : cbin Try.prog .neq 124 x y (.map none) (.map none) = some (.bool false) := by kernel_rfl
theorem nf124 {x y : Operand} {a : Nat} : cbin Try.prog .eql 124 x y (.map (some a)) (.map none) = some (.bool false) := by kernel_rfl
theorem ng124 {x y : Operand} {a : Nat} : cbin Try.prog .neq 124 x y (.map (some a)) (.map none) = some (.bool true) := by kernel_rfl
theorem sz125 : szOf Try.prog 125 = some 1 := by kernel_rfl
theorem ag125 : aggT Try.prog 125 = some false := by kernel_rfl
theorem sz127 : szOf Try.prog 127 = some 3 := by kernel_rfl
theorem is127 : (Try.prog.info? 127).isSome = true := by kernel_rfl
theorem ce127 : Try.prog.cellsOf 127 = 3 := by kernel_rfl
theorem ag127 : aggT Try.prog 127 = some true := by kernel_rfl
theorem ze127 : czero Try.prog 127 = some (.agg #[.slice none 0 0, .map none, .int .i64 0]) := by kernel_rfl
theorem fa127x0 : faOk Try.prog 127 0 = some 0 := by kernel_rfl
theorem fa127x1 : faOk Try.prog 127 1 = some 1 := by kernel_rfl
theorem fa127x2 : faOk Try.prog 127 2 = some 2 := by kernel_rfl
theorem sz128 : szOf Try.prog 128 = some 1 := by kernel_rfl
theorem is128 : (Try.prog.info? 128).isSome = true := by kernel_rfl
theorem ce128 : Try.prog.cellsOf 128 = 1 := by kernel_rfl
theorem ag128 : aggT Try.prog 128 = some false := by kernel_rfl
theorem ze128 : czero Try.prog 128 = some (.map none) := by kernel_rfl
theorem nt128 {x y : Operand} : cbin Try.prog .eql 128 x y (.map none) (.map none) = some (.bool true) := by kernel_rfl
theorem nn128 {x y : Operand} : cbin Try.prog .neq 128 x y (.map none) (.map none) = some (.bool false) := by kernel_rfl
theorem nf128 {x y : Operand} {a : Nat} : cbin Try.prog .eql 128 x y (.map (some a)) (.map none) = some (.bool false) := by kernel_rfl
theorem ng128 {x y : Operand} {a : Nat} : cbin Try.prog .neq 128 x y (.map (some a)) (.map none) = some (.bool true) := by kernel_rfl
theorem sz129 : szOf Try.prog 129 = some 1 := by kernel_rfl
theorem ag129 : aggT Try.prog 129 = some false := by kernel_rfl
theorem sz131 : szOf Try.prog 131 = some 2 := by kernel_rfl
theorem is131 : (Try.prog.info? 131).isSome = true := by kernel_rfl
theorem ce131 : Try.prog.cellsOf 131 = 2 := by kernel_rfl
theorem ag131 : aggT Try.prog 131 = some true := by kernel_rfl
theorem ze131 : czero Try.prog 131 = some (.agg #[.map none, .slice none 0 0]) := by kernel_rfl
theorem fa131x0 : faOk Try.prog 131 0 = some 0 := by kernel_rfl
theorem fa131x1 : faOk Try.prog 131 1 = some 1 := by kernel_rfl
theorem sz132 : szOf Try.prog 132 = some 1 := by kernel_rfl
theorem ag132 : aggT Try.prog 132 = some false := by kernel_rfl
theorem is134 : (Try.prog.info? 134).isSome = true := by kernel_rfl
theorem fa134x0 : faOk Try.prog 134 0 = some 0 := by kernel_rfl
theorem fa134x1 : faOk Try.prog 134 1 = some 1 := by kernel_rfl
theorem sz135 : szOf Try.prog 135 = some 1 := by kernel_rfl
theorem is135 : (Try.prog.info? 135).isSome = true := by kernel_rfl
theorem ce135 : Try.prog.cellsOf 135 = 1 := by kernel_rfl
theorem ag135 : aggT Try.prog 135 = some false := by kernel_rfl
theorem sz138 : szOf Try.prog 138 = some 5 := by kernel_rfl
theorem is138 : (Try.prog.info? 138).isSome = true := by kernel_rfl
theorem ce138 : Try.prog.cellsOf 138 = 5 := by kernel_rfl
theorem ag138 : aggT Try.prog 138 = some true := by kernel_rfl
theorem ze138 : czero Try.prog 138 = some (.agg #[.int .i64 0, .int .i64 0, .int .i64 0, .int .i64 0, .map none]) := by kernel_rfl
theorem fa138x0 : faOk Try.prog 138 0 = some 0 := by kernel_rfl
theorem fa138x1 : faOk Try.prog 138 1 = some 1 := by kernel_rfl
theorem fa138x2 : faOk Try.prog 138 2 = some 2 := by kernel_rfl
theorem fa138x3 : faOk Try.prog 138 3 = some 3 := by kernel_rfl
theorem fa138x4 : faOk Try.prog 138 4 = some 4 := by kernel_rfl
theorem sz143 : szOf Try.prog 143 = some 1 := by kernel_rfl
theorem is143 : (Try.prog.info? 143).isSome = true := by kernel_rfl
theorem ce143 : Try.prog.cellsOf 143 = 1 := by kernel_rfl
theorem ag143 : aggT Try.prog 143 = some false := by kernel_rfl
theorem sz148 : szOf Try.prog 148 = some 1 := by kernel_rfl
theorem is148 : (Try.prog.info? 148).isSome = true := by kernel_rfl
theorem ce148 : Try.prog.cellsOf 148 = 1 := by kernel_rfl
theorem ag148 : aggT Try.prog 148 = some false := by kernel_rfl
theorem sz151 : szOf Try.prog 151 = some 5 := by kernel_rfl
theorem is151 : (Try.prog.info? 151).isSome = true := by kernel_rfl
theorem ce151 : Try.prog.cellsOf 151 = 5 := by kernel_rfl
theorem ag151 : aggT Try.prog 151 = some true := by kernel_rfl
theorem ze151 : czero Try.prog 151 = some (.agg #[.string ByteArray.empty, .int .i64 0, .int .i64 0, .string ByteArray.empty, .bool false]) := by kernel_rfl
theorem fa151x0 : faOk Try.prog 151 0 = some 0 := by kernel_rfl
theorem fa151x1 : faOk Try.prog 151 1 = some 1 := by kernel_rfl
theorem fa151x2 : faOk Try.prog 151 2 = some 4 := by kernel_rfl
theorem ze155 : czero Try.prog 155 = some (.agg #[.int .u8 0, .int .u8 0, .int .u8 0, .int .u8 0, .int .u8 0, .int .u8 0, .int .u8 0, .int .u8 0, .int .u8 0, .int .u8 0, .int .u8 0, .int .u8 0, .int .u8 0, .int .u8 0, .int .u8 0, .int .u8 0, .int .u8 0, .int .u8 0, .int .u8 0, .int .u8 0]) := by kernel_rfl
theorem nt159 {x y : Operand} : cbin Try.prog .eql 159 x y (.pointer none) (.pointer none) = some (.bool true) := by kernel_rfl
theorem nn159 {x y : Operand} : cbin Try.prog .neq 159 x y (.pointer none) (.pointer none) = some (.bool false) := by kernel_rfl
theorem nf159 {x y : Operand} {a : Addr} : cbin Try.prog .eql 159 x y (.pointer (some a)) (.pointer none) = some (.bool false) := by kernel_rfl
theorem ng159 {x y : Operand} {a : Addr} : cbin Try.prog .neq 159 x y (.pointer (some a)) (.pointer none) = some (.bool true) := by kernel_rfl
end Go.Proofs.Try
