/- Facts on the types of the program: sizes, places of fields, zero values. Written by program (types.py). A lemma file: no statement of its own. -/
import Derived.Test.YtakgfhdaimeafaaGreatChecked
import Derived.Test.YtakgfhdaimeafaaGreatFwE
set_option linter.unusedSimpArgs false
set_option linter.unusedVariables false
namespace Go.Proofs.Tryz
open Go.Cs
theorem sz0 : szOf Tryz.prog 0 = some 1 := by kernel_rfl
theorem is0 : (Tryz.prog.info? 0).isSome = true := by kernel_rfl
theorem ce0 : Tryz.prog.cellsOf 0 = 1 := by kernel_rfl
theorem ag0 : aggT Tryz.prog 0 = some false := by kernel_rfl
theorem sz1 : szOf Tryz.prog 1 = some 1 := by kernel_rfl
theorem is1 : (Tryz.prog.info? 1).isSome = true := by kernel_rfl
theorem ce1 : Tryz.prog.cellsOf 1 = 1 := by kernel_rfl
theorem ag1 : aggT Tryz.prog 1 = some false := by kernel_rfl
theorem ze1 : czero Tryz.prog 1 = some (.nilFunc) := by kernel_rfl
theorem sz2 : szOf Tryz.prog 2 = some 1 := by kernel_rfl
theorem is2 : (Tryz.prog.info? 2).isSome = true := by kernel_rfl
theorem ce2 : Tryz.prog.cellsOf 2 = 1 := by kernel_rfl
theorem ag2 : aggT Tryz.prog 2 = some false := by kernel_rfl
theorem ze2 : czero Tryz.prog 2 = some (.int .i64 0) := by kernel_rfl
theorem sz3 : szOf Tryz.prog 3 = some 1 := by kernel_rfl
theorem is3 : (Tryz.prog.info? 3).isSome = true := by kernel_rfl
theorem ce3 : Tryz.prog.cellsOf 3 = 1 := by kernel_rfl
theorem ag3 : aggT Tryz.prog 3 = some false := by kernel_rfl
theorem ze3 : czero Tryz.prog 3 = some (.int .i64 0) := by kernel_rfl
theorem sz4 : szOf Tryz.prog 4 = some 1 := by kernel_rfl
theorem is4 : (Tryz.prog.info? 4).isSome = true := by kernel_rfl
theorem ce4 : Tryz.prog.cellsOf 4 = 1 := by kernel_rfl
theorem ag4 : aggT Tryz.prog 4 = some false := by kernel_rfl
theorem ze4 : czero Tryz.prog 4 = some (.bool false) := by kernel_rfl
theorem be4 {x y : Operand} {a b : Bool} : cbin Tryz.prog .eql 4 x y (.bool a) (.bool b) = some (.bool (a == b)) := by kernel_rfl
theorem bn4 {x y : Operand} {a b : Bool} : cbin Tryz.prog .neq 4 x y (.bool a) (.bool b) = some (.bool (!(a == b))) := by kernel_rfl
theorem sz5 : szOf Tryz.prog 5 = some 1 := by kernel_rfl
theorem is5 : (Tryz.prog.info? 5).isSome = true := by kernel_rfl
theorem ce5 : Tryz.prog.cellsOf 5 = 1 := by kernel_rfl
theorem ag5 : aggT Tryz.prog 5 = some false := by kernel_rfl
theorem ze5 : czero Tryz.prog 5 = some (.int .u8 0) := by kernel_rfl
theorem sz6 : szOf Tryz.prog 6 = some 1 := by kernel_rfl
theorem is6 : (Tryz.prog.info? 6).isSome = true := by kernel_rfl
theorem ce6 : Tryz.prog.cellsOf 6 = 1 := by kernel_rfl
theorem ag6 : aggT Tryz.prog 6 = some false := by kernel_rfl
theorem ze6 : czero Tryz.prog 6 = some (.int .u8 0) := by kernel_rfl
theorem sz7 : szOf Tryz.prog 7 = some 4 := by kernel_rfl
theorem is7 : (Tryz.prog.info? 7).isSome = true := by kernel_rfl
theorem ce7 : Tryz.prog.cellsOf 7 = 4 := by kernel_rfl
theorem ag7 : aggT Tryz.prog 7 = some true := by kernel_rfl
theorem ze7 : czero Tryz.prog 7 = some (.agg #[.int .i64 0, .int .i64 0, .bool false, .int .u8 0]) := by kernel_rfl
theorem fa7x0 : faOk Tryz.prog 7 0 = some 0 := by kernel_rfl
theorem fa7x1 : faOk Tryz.prog 7 1 = some 1 := by kernel_rfl
theorem fa7x2 : faOk Tryz.prog 7 2 = some 2 := by kernel_rfl
theorem fa7x3 : faOk Tryz.prog 7 3 = some 3 := by kernel_rfl
theorem sz8 : szOf Tryz.prog 8 = some 4 := by kernel_rfl
theorem is8 : (Tryz.prog.info? 8).isSome = true := by kernel_rfl
theorem ce8 : Tryz.prog.cellsOf 8 = 4 := by kernel_rfl
theorem ag8 : aggT Tryz.prog 8 = some true := by kernel_rfl
theorem ze8 : czero Tryz.prog 8 = some (.agg #[.int .i64 0, .int .i64 0, .bool false, .int .u8 0]) := by kernel_rfl
theorem fa8x0 : faOk Tryz.prog 8 0 = some 0 := by kernel_rfl
theorem fa8x1 : faOk Tryz.prog 8 1 = some 1 := by kernel_rfl
theorem fa8x2 : faOk Tryz.prog 8 2 = some 2 := by kernel_rfl
theorem fa8x3 : faOk Tryz.prog 8 3 = some 3 := by kernel_rfl
theorem sz9 : szOf Tryz.prog 9 = some 1 := by kernel_rfl
theorem is9 : (Tryz.prog.info? 9).isSome = true := by kernel_rfl
theorem ce9 : Tryz.prog.cellsOf 9 = 1 := by kernel_rfl
theorem ag9 : aggT Tryz.prog 9 = some false := by kernel_rfl
theorem ze9 : czero Tryz.prog 9 = some (.string ByteArray.empty) := by kernel_rfl
theorem sz10 : szOf Tryz.prog 10 = some 1 := by kernel_rfl
theorem is10 : (Tryz.prog.info? 10).isSome = true := by kernel_rfl
theorem ce10 : Tryz.prog.cellsOf 10 = 1 := by kernel_rfl
theorem ag10 : aggT Tryz.prog 10 = some false := by kernel_rfl
theorem ze10 : czero Tryz.prog 10 = some (.string ByteArray.empty) := by kernel_rfl
theorem sz11 : szOf Tryz.prog 11 = some 1 := by kernel_rfl
theorem is11 : (Tryz.prog.info? 11).isSome = true := by kernel_rfl
theorem ce11 : Tryz.prog.cellsOf 11 = 1 := by kernel_rfl
theorem ag11 : aggT Tryz.prog 11 = some false := by kernel_rfl
theorem ze11 : czero Tryz.prog 11 = some (.string ByteArray.empty) := by kernel_rfl
theorem sz12 : szOf Tryz.prog 12 = some 1 := by kernel_rfl
theorem is12 : (Tryz.prog.info? 12).isSome = true := by kernel_rfl
theorem ce12 : Tryz.prog.cellsOf 12 = 1 := by kernel_rfl
theorem ag12 : aggT Tryz.prog 12 = some false := by kernel_rfl
theorem ze12 : czero Tryz.prog 12 = some (.int .u64 0) := by kernel_rfl
theorem sz13 : szOf Tryz.prog 13 = some 2 := by kernel_rfl
theorem is13 : (Tryz.prog.info? 13).isSome = true := by kernel_rfl
theorem ce13 : Tryz.prog.cellsOf 13 = 2 := by kernel_rfl
theorem ag13 : aggT Tryz.prog 13 = some true := by kernel_rfl
theorem ze13 : czero Tryz.prog 13 = some (.agg #[.string ByteArray.empty, .int .u64 0]) := by kernel_rfl
theorem fa13x0 : faOk Tryz.prog 13 0 = some 0 := by kernel_rfl
theorem fa13x1 : faOk Tryz.prog 13 1 = some 1 := by kernel_rfl
theorem sz14 : szOf Tryz.prog 14 = some 2 := by kernel_rfl
theorem is14 : (Tryz.prog.info? 14).isSome = true := by kernel_rfl
theorem ce14 : Tryz.prog.cellsOf 14 = 2 := by kernel_rfl
theorem ag14 : aggT Tryz.prog 14 = some true := by kernel_rfl
theorem ze14 : czero Tryz.prog 14 = some (.agg #[.string ByteArray.empty, .int .u64 0]) := by kernel_rfl
theorem fa14x0 : faOk Tryz.prog 14 0 = some 0 := by kernel_rfl
theorem fa14x1 : faOk Tryz.prog 14 1 = some 1 := by kernel_rfl
theorem sz15 : szOf Tryz.prog 15 = some 1 := by kernel_rfl
theorem is15 : (Tryz.prog.info? 15).isSome = true := by kernel_rfl
theorem ce15 : Tryz.prog.cellsOf 15 = 1 := by kernel_rfl
theorem ag15 : aggT Tryz.prog 15 = some false := by kernel_rfl
theorem ze15 : czero Tryz.prog 15 = some (.pointer none) := by kernel_rfl
theorem nt15 {x y : Operand} : cbin Tryz.prog .eql 15 x y (.pointer none) (.pointer none) = some (.bool true) := by kernel_rfl
theorem nn15 {x y : Operand} : cbin Tryz.prog .neq 15 x y (.pointer none) (.pointer none) = some (.bool false) := by kernel_rfl
theorem nf15 {x y : Operand} {a : Addr} : cbin Tryz.prog .eql 15 x y (.pointer (some a)) (.pointer none) = some (.bool false) := by kernel_rfl
theorem ng15 {x y : Operand} {a : Addr} : cbin Tryz.prog .neq 15 x y (.pointer (some a)) (.pointer none) = some (.bool true) := by kernel_rfl
theorem sz16 : szOf Tryz.prog 16 = some 1 := by kernel_rfl
theorem is16 : (Tryz.prog.info? 16).isSome = true := by kernel_rfl
theorem ce16 : Tryz.prog.cellsOf 16 = 1 := by kernel_rfl
theorem ag16 : aggT Tryz.prog 16 = some false := by kernel_rfl
theorem ze16 : czero Tryz.prog 16 = some (.pointer none) := by kernel_rfl
theorem nt16 {x y : Operand} : cbin Tryz.prog .eql 16 x y (.pointer none) (.pointer none) = some (.bool true) := by kernel_rfl
theorem nn16 {x y : Operand} : cbin Tryz.prog .neq 16 x y (.pointer none) (.pointer none) = some (.bool false) := by kernel_rfl
theorem nf16 {x y : Operand} {a : Addr} : cbin Tryz.prog .eql 16 x y (.pointer (some a)) (.pointer none) = some (.bool false) := by kernel_rfl
theorem ng16 {x y : Operand} {a : Addr} : cbin Tryz.prog .neq 16 x y (.pointer (some a)) (.pointer none) = some (.bool true) := by kernel_rfl
theorem sz17 : szOf Tryz.prog 17 = some 1 := by kernel_rfl
theorem is17 : (Tryz.prog.info? 17).isSome = true := by kernel_rfl
theorem ce17 : Tryz.prog.cellsOf 17 = 1 := by kernel_rfl
theorem ag17 : aggT Tryz.prog 17 = some false := by kernel_rfl
theorem ze17 : czero Tryz.prog 17 = some (.pointer none) := by kernel_rfl
theorem nt17 {x y : Operand} : cbin Tryz.prog .eql 17 x y (.pointer none) (.pointer none) = some (.bool true) := by kernel_rfl
theorem nn17 {x y : Operand} : cbin Tryz.prog .neq 17 x y (.pointer none) (.pointer none) = some (.bool false) := by kernel_rfl
theorem nf17 {x y : Operand} {a : Addr} : cbin Tryz.prog .eql 17 x y (.pointer (some a)) (.pointer none) = some (.bool false) := by kernel_rfl
theorem ng17 {x y : Operand} {a : Addr} : cbin Tryz.prog .neq 17 x y (.pointer (some a)) (.pointer none) = some (.bool true) := by kernel_rfl
theorem sz18 : szOf Tryz.prog 18 = some 1 := by kernel_rfl
theorem is18 : (Tryz.prog.info? 18).isSome = true := by kernel_rfl
theorem ce18 : Tryz.prog.cellsOf 18 = 1 := by kernel_rfl
theorem ag18 : aggT Tryz.prog 18 = some true := by kernel_rfl
theorem ze18 : czero Tryz.prog 18 = some (.agg #[.pointer none]) := by kernel_rfl
theorem fa18x0 : faOk Tryz.prog 18 0 = some 0 := by kernel_rfl
theorem sz19 : szOf Tryz.prog 19 = some 1 := by kernel_rfl
theorem is19 : (Tryz.prog.info? 19).isSome = true := by kernel_rfl
theorem ce19 : Tryz.prog.cellsOf 19 = 1 := by kernel_rfl
theorem ag19 : aggT Tryz.prog 19 = some true := by kernel_rfl
theorem ze19 : czero Tryz.prog 19 = some (.agg #[.pointer none]) := by kernel_rfl
theorem fa19x0 : faOk Tryz.prog 19 0 = some 0 := by kernel_rfl
theorem sz20 : szOf Tryz.prog 20 = some 1 := by kernel_rfl
theorem is20 : (Tryz.prog.info? 20).isSome = true := by kernel_rfl
theorem ce20 : Tryz.prog.cellsOf 20 = 1 := by kernel_rfl
theorem ag20 : aggT Tryz.prog 20 = some false := by kernel_rfl
theorem ze20 : czero Tryz.prog 20 = some (.nilIface) := by kernel_rfl
theorem sz21 : szOf Tryz.prog 21 = some 1 := by kernel_rfl
theorem is21 : (Tryz.prog.info? 21).isSome = true := by kernel_rfl
theorem ce21 : Tryz.prog.cellsOf 21 = 1 := by kernel_rfl
theorem ag21 : aggT Tryz.prog 21 = some false := by kernel_rfl
theorem ze21 : czero Tryz.prog 21 = some (.int .i32 0) := by kernel_rfl
theorem sz22 : szOf Tryz.prog 22 = some 1 := by kernel_rfl
theorem is22 : (Tryz.prog.info? 22).isSome = true := by kernel_rfl
theorem ce22 : Tryz.prog.cellsOf 22 = 1 := by kernel_rfl
theorem ag22 : aggT Tryz.prog 22 = some false := by kernel_rfl
theorem ze22 : czero Tryz.prog 22 = some (.slice none 0 0) := by kernel_rfl
theorem sz23 : szOf Tryz.prog 23 = some 1 := by kernel_rfl
theorem is23 : (Tryz.prog.info? 23).isSome = true := by kernel_rfl
theorem ce23 : Tryz.prog.cellsOf 23 = 1 := by kernel_rfl
theorem ag23 : aggT Tryz.prog 23 = some false := by kernel_rfl
theorem ze23 : czero Tryz.prog 23 = some (.nilFunc) := by kernel_rfl
theorem sz24 : szOf Tryz.prog 24 = some 1 := by kernel_rfl
theorem is24 : (Tryz.prog.info? 24).isSome = true := by kernel_rfl
theorem ce24 : Tryz.prog.cellsOf 24 = 1 := by kernel_rfl
theorem ag24 : aggT Tryz.prog 24 = some false := by kernel_rfl
theorem ze24 : czero Tryz.prog 24 = some (.pointer none) := by kernel_rfl
theorem nt24 {x y : Operand} : cbin Tryz.prog .eql 24 x y (.pointer none) (.pointer none) = some (.bool true) := by kernel_rfl
theorem nn24 {x y : Operand} : cbin Tryz.prog .neq 24 x y (.pointer none) (.pointer none) = some (.bool false) := by kernel_rfl
theorem nf24 {x y : Operand} {a : Addr} : cbin Tryz.prog .eql 24 x y (.pointer (some a)) (.pointer none) = some (.bool false) := by kernel_rfl
theorem ng24 {x y : Operand} {a : Addr} : cbin Tryz.prog .neq 24 x y (.pointer (some a)) (.pointer none) = some (.bool true) := by kernel_rfl
theorem sz25 : szOf Tryz.prog 25 = some 1 := by kernel_rfl
theorem is25 : (Tryz.prog.info? 25).isSome = true := by kernel_rfl
theorem ce25 : Tryz.prog.cellsOf 25 = 1 := by kernel_rfl
theorem ag25 : aggT Tryz.prog 25 = some false := by kernel_rfl
theorem ze25 : czero Tryz.prog 25 = some (.nilFunc) := by kernel_rfl
theorem sz26 : szOf Tryz.prog 26 = some 4 := by kernel_rfl
theorem is26 : (Tryz.prog.info? 26).isSome = true := by kernel_rfl
theorem ce26 : Tryz.prog.cellsOf 26 = 4 := by kernel_rfl
theorem ag26 : aggT Tryz.prog 26 = some true := by kernel_rfl
theorem ze26 : czero Tryz.prog 26 = some (.agg #[.int .i64 0, .int .i64 0, .int .i64 0, .int .i64 0]) := by kernel_rfl
theorem fa26x0 : faOk Tryz.prog 26 0 = some 0 := by kernel_rfl
theorem fa26x1 : faOk Tryz.prog 26 1 = some 1 := by kernel_rfl
theorem fa26x2 : faOk Tryz.prog 26 2 = some 2 := by kernel_rfl
theorem fa26x3 : faOk Tryz.prog 26 3 = some 3 := by kernel_rfl
theorem sz27 : szOf Tryz.prog 27 = some 4 := by kernel_rfl
theorem is27 : (Tryz.prog.info? 27).isSome = true := by kernel_rfl
theorem ce27 : Tryz.prog.cellsOf 27 = 4 := by kernel_rfl
theorem ag27 : aggT Tryz.prog 27 = some true := by kernel_rfl
theorem ze27 : czero Tryz.prog 27 = some (.agg #[.int .i64 0, .int .i64 0, .int .i64 0, .int .i64 0]) := by kernel_rfl
theorem fa27x0 : faOk Tryz.prog 27 0 = some 0 := by kernel_rfl
theorem fa27x1 : faOk Tryz.prog 27 1 = some 1 := by kernel_rfl
theorem fa27x2 : faOk Tryz.prog 27 2 = some 2 := by kernel_rfl
theorem fa27x3 : faOk Tryz.prog 27 3 = some 3 := by kernel_rfl
theorem sz28 : szOf Tryz.prog 28 = some 1 := by kernel_rfl
theorem is28 : (Tryz.prog.info? 28).isSome = true := by kernel_rfl
theorem ce28 : Tryz.prog.cellsOf 28 = 1 := by kernel_rfl
theorem ag28 : aggT Tryz.prog 28 = some false := by kernel_rfl
theorem ze28 : czero Tryz.prog 28 = some (.nilFunc) := by kernel_rfl
theorem sz29 : szOf Tryz.prog 29 = some 3 := by kernel_rfl
theorem is29 : (Tryz.prog.info? 29).isSome = true := by kernel_rfl
theorem ce29 : Tryz.prog.cellsOf 29 = 3 := by kernel_rfl
theorem ag29 : aggT Tryz.prog 29 = some true := by kernel_rfl
theorem ze29 : czero Tryz.prog 29 = some (.agg #[.int .i64 0, .int .i64 0, .string ByteArray.empty]) := by kernel_rfl
theorem fa29x0 : faOk Tryz.prog 29 0 = some 0 := by kernel_rfl
theorem fa29x1 : faOk Tryz.prog 29 1 = some 1 := by kernel_rfl
theorem fa29x2 : faOk Tryz.prog 29 2 = some 2 := by kernel_rfl
theorem sz30 : szOf Tryz.prog 30 = some 3 := by kernel_rfl
theorem is30 : (Tryz.prog.info? 30).isSome = true := by kernel_rfl
theorem ce30 : Tryz.prog.cellsOf 30 = 3 := by kernel_rfl
theorem ag30 : aggT Tryz.prog 30 = some true := by kernel_rfl
theorem ze30 : czero Tryz.prog 30 = some (.agg #[.int .i64 0, .int .i64 0, .string ByteArray.empty]) := by kernel_rfl
theorem fa30x0 : faOk Tryz.prog 30 0 = some 0 := by kernel_rfl
theorem fa30x1 : faOk Tryz.prog 30 1 = some 1 := by kernel_rfl
theorem fa30x2 : faOk Tryz.prog 30 2 = some 2 := by kernel_rfl
theorem sz31 : szOf Tryz.prog 31 = some 7 := by kernel_rfl
theorem is31 : (Tryz.prog.info? 31).isSome = true := by kernel_rfl
theorem ce31 : Tryz.prog.cellsOf 31 = 7 := by kernel_rfl
theorem ag31 : aggT Tryz.prog 31 = some true := by kernel_rfl
theorem ze31 : czero Tryz.prog 31 = some (.agg #[.int .i64 0, .int .i64 0, .int .i64 0, .string ByteArray.empty, .int .i64 0, .int .i64 0, .string ByteArray.empty]) := by kernel_rfl
theorem fa31x0 : faOk Tryz.prog 31 0 = some 0 := by kernel_rfl
theorem fa31x1 : faOk Tryz.prog 31 1 = some 1 := by kernel_rfl
theorem fa31x2 : faOk Tryz.prog 31 2 = some 2 := by kernel_rfl
theorem fa31x3 : faOk Tryz.prog 31 3 = some 3 := by kernel_rfl
theorem fa31x4 : faOk Tryz.prog 31 4 = some 4 := by kernel_rfl
theorem sz32 : szOf Tryz.prog 32 = some 7 := by kernel_rfl
theorem is32 : (Tryz.prog.info? 32).isSome = true := by kernel_rfl
theorem ce32 : Tryz.prog.cellsOf 32 = 7 := by kernel_rfl
theorem ag32 : aggT Tryz.prog 32 = some true := by kernel_rfl
theorem ze32 : czero Tryz.prog 32 = some (.agg #[.int .i64 0, .int .i64 0, .int .i64 0, .string ByteArray.empty, .int .i64 0, .int .i64 0, .string ByteArray.empty]) := by kernel_rfl
theorem fa32x0 : faOk Tryz.prog 32 0 = some 0 := by kernel_rfl
theorem fa32x1 : faOk Tryz.prog 32 1 = some 1 := by kernel_rfl
theorem fa32x2 : faOk Tryz.prog 32 2 = some 2 := by kernel_rfl
theorem fa32x3 : faOk Tryz.prog 32 3 = some 3 := by kernel_rfl
theorem fa32x4 : faOk Tryz.prog 32 4 = some 4 := by kernel_rfl
theorem sz33 : szOf Tryz.prog 33 = some 1 := by kernel_rfl
theorem is33 : (Tryz.prog.info? 33).isSome = true := by kernel_rfl
theorem ce33 : Tryz.prog.cellsOf 33 = 1 := by kernel_rfl
theorem ag33 : aggT Tryz.prog 33 = some false := by kernel_rfl
theorem ze33 : czero Tryz.prog 33 = some (.nilFunc) := by kernel_rfl
theorem sz34 : szOf Tryz.prog 34 = some 1 := by kernel_rfl
theorem is34 : (Tryz.prog.info? 34).isSome = true := by kernel_rfl
theorem ce34 : Tryz.prog.cellsOf 34 = 1 := by kernel_rfl
theorem ag34 : aggT Tryz.prog 34 = some false := by kernel_rfl
theorem ze34 : czero Tryz.prog 34 = some (.pointer none) := by kernel_rfl
theorem nt34 {x y : Operand} : cbin Tryz.prog .eql 34 x y (.pointer none) (.pointer none) = some (.bool true) := by kernel_rfl
theorem nn34 {x y : Operand} : cbin Tryz.prog .neq 34 x y (.pointer none) (.pointer none) = some (.bool false) := by kernel_rfl
theorem nf34 {x y : Operand} {a : Addr} : cbin Tryz.prog .eql 34 x y (.pointer (some a)) (.pointer none) = some (.bool false) := by kernel_rfl
theorem ng34 {x y : Operand} {a : Addr} : cbin Tryz.prog .neq 34 x y (.pointer (some a)) (.pointer none) = some (.bool true) := by kernel_rfl
theorem sz35 : szOf Tryz.prog 35 = some 1 := by kernel_rfl
theorem is35 : (Tryz.prog.info? 35).isSome = true := by kernel_rfl
theorem ce35 : Tryz.prog.cellsOf 35 = 1 := by kernel_rfl
theorem ag35 : aggT Tryz.prog 35 = some false := by kernel_rfl
theorem ze35 : czero Tryz.prog 35 = some (.nilFunc) := by kernel_rfl
theorem sz36 : szOf Tryz.prog 36 = some 1 := by kernel_rfl
theorem is36 : (Tryz.prog.info? 36).isSome = true := by kernel_rfl
theorem ce36 : Tryz.prog.cellsOf 36 = 1 := by kernel_rfl
theorem ag36 : aggT Tryz.prog 36 = some false := by kernel_rfl
theorem ze36 : czero Tryz.prog 36 = some (.nilFunc) := by kernel_rfl
theorem sz37 : szOf Tryz.prog 37 = some 1 := by kernel_rfl
theorem is37 : (Tryz.prog.info? 37).isSome = true := by kernel_rfl
theorem ce37 : Tryz.prog.cellsOf 37 = 1 := by kernel_rfl
theorem ag37 : aggT Tryz.prog 37 = some false := by kernel_rfl
theorem ze37 : czero Tryz.prog 37 = some (.nilFunc) := by kernel_rfl
theorem sz38 : szOf Tryz.prog 38 = some 1 := by kernel_rfl
theorem is38 : (Tryz.prog.info? 38).isSome = true := by kernel_rfl
theorem ce38 : Tryz.prog.cellsOf 38 = 1 := by kernel_rfl
theorem ag38 : aggT Tryz.prog 38 = some false := by kernel_rfl
theorem sz39 : szOf Tryz.prog 39 = some 1 := by kernel_rfl
theorem is39 : (Tryz.prog.info? 39).isSome = true := by kernel_rfl
theorem ce39 : Tryz.prog.cellsOf 39 = 1 := by kernel_rfl
theorem ag39 : aggT Tryz.prog 39 = some false := by kernel_rfl
theorem ze39 : czero Tryz.prog 39 = some (.nilFunc) := by kernel_rfl
theorem sz40 : szOf Tryz.prog 40 = some 1 := by kernel_rfl
theorem is40 : (Tryz.prog.info? 40).isSome = true := by kernel_rfl
theorem ce40 : Tryz.prog.cellsOf 40 = 1 := by kernel_rfl
theorem ag40 : aggT Tryz.prog 40 = some false := by kernel_rfl
theorem ze40 : czero Tryz.prog 40 = some (.nilFunc) := by kernel_rfl
theorem sz41 : szOf Tryz.prog 41 = some 1 := by kernel_rfl
theorem is41 : (Tryz.prog.info? 41).isSome = true := by kernel_rfl
theorem ce41 : Tryz.prog.cellsOf 41 = 1 := by kernel_rfl
theorem ag41 : aggT Tryz.prog 41 = some false := by kernel_rfl
theorem ze41 : czero Tryz.prog 41 = some (.nilFunc) := by kernel_rfl
theorem sz42 : szOf Tryz.prog 42 = some 1 := by kernel_rfl
theorem is42 : (Tryz.prog.info? 42).isSome = true := by kernel_rfl
theorem ce42 : Tryz.prog.cellsOf 42 = 1 := by kernel_rfl
theorem ag42 : aggT Tryz.prog 42 = some false := by kernel_rfl
theorem ze42 : czero Tryz.prog 42 = some (.slice none 0 0) := by kernel_rfl
theorem sz43 : szOf Tryz.prog 43 = some 1 := by kernel_rfl
theorem is43 : (Tryz.prog.info? 43).isSome = true := by kernel_rfl
theorem ce43 : Tryz.prog.cellsOf 43 = 1 := by kernel_rfl
theorem ag43 : aggT Tryz.prog 43 = some false := by kernel_rfl
theorem sz44 : szOf Tryz.prog 44 = some 1 := by kernel_rfl
theorem is44 : (Tryz.prog.info? 44).isSome = true := by kernel_rfl
theorem ce44 : Tryz.prog.cellsOf 44 = 1 := by kernel_rfl
theorem ag44 : aggT Tryz.prog 44 = some false := by kernel_rfl
theorem ze44 : czero Tryz.prog 44 = some (.nilFunc) := by kernel_rfl
theorem sz45 : szOf Tryz.prog 45 = some 1 := by kernel_rfl
theorem is45 : (Tryz.prog.info? 45).isSome = true := by kernel_rfl
theorem ce45 : Tryz.prog.cellsOf 45 = 1 := by kernel_rfl
theorem ag45 : aggT Tryz.prog 45 = some false := by kernel_rfl
theorem ze45 : czero Tryz.prog 45 = some (.int .i64 0) := by kernel_rfl
theorem sz46 : szOf Tryz.prog 46 = some 1 := by kernel_rfl
theorem is46 : (Tryz.prog.info? 46).isSome = true := by kernel_rfl
theorem ce46 : Tryz.prog.cellsOf 46 = 1 := by kernel_rfl
theorem ag46 : aggT Tryz.prog 46 = some false := by kernel_rfl
theorem ze46 : czero Tryz.prog 46 = some (.nilFunc) := by kernel_rfl
theorem sz47 : szOf Tryz.prog 47 = some 1 := by kernel_rfl
theorem is47 : (Tryz.prog.info? 47).isSome = true := by kernel_rfl
theorem ce47 : Tryz.prog.cellsOf 47 = 1 := by kernel_rfl
theorem ag47 : aggT Tryz.prog 47 = some false := by kernel_rfl
theorem ze47 : czero Tryz.prog 47 = some (.nilFunc) := by kernel_rfl
theorem sz48 : szOf Tryz.prog 48 = some 1 := by kernel_rfl
theorem is48 : (Tryz.prog.info? 48).isSome = true := by kernel_rfl
theorem ce48 : Tryz.prog.cellsOf 48 = 1 := by kernel_rfl
theorem ag48 : aggT Tryz.prog 48 = some false := by kernel_rfl
theorem ze48 : czero Tryz.prog 48 = some (.nilFunc) := by kernel_rfl
theorem sz49 : szOf Tryz.prog 49 = some 1 := by kernel_rfl
theorem is49 : (Tryz.prog.info? 49).isSome = true := by kernel_rfl
theorem ce49 : Tryz.prog.cellsOf 49 = 1 := by kernel_rfl
theorem ag49 : aggT Tryz.prog 49 = some false := by kernel_rfl
theorem ze49 : czero Tryz.prog 49 = some (.nilFunc) := by kernel_rfl
theorem sz50 : szOf Tryz.prog 50 = some 1 := by kernel_rfl
theorem is50 : (Tryz.prog.info? 50).isSome = true := by kernel_rfl
theorem ce50 : Tryz.prog.cellsOf 50 = 1 := by kernel_rfl
theorem ag50 : aggT Tryz.prog 50 = some false := by kernel_rfl
theorem ze50 : czero Tryz.prog 50 = some (.nilFunc) := by kernel_rfl
theorem sz51 : szOf Tryz.prog 51 = some 1 := by kernel_rfl
theorem is51 : (Tryz.prog.info? 51).isSome = true := by kernel_rfl
theorem ce51 : Tryz.prog.cellsOf 51 = 1 := by kernel_rfl
theorem ag51 : aggT Tryz.prog 51 = some false := by kernel_rfl
theorem ze51 : czero Tryz.prog 51 = some (.nilFunc) := by kernel_rfl
theorem sz52 : szOf Tryz.prog 52 = some 1 := by kernel_rfl
theorem is52 : (Tryz.prog.info? 52).isSome = true := by kernel_rfl
theorem ce52 : Tryz.prog.cellsOf 52 = 1 := by kernel_rfl
theorem ag52 : aggT Tryz.prog 52 = some false := by kernel_rfl
theorem ze52 : czero Tryz.prog 52 = some (.nilFunc) := by kernel_rfl
theorem sz53 : szOf Tryz.prog 53 = some 1 := by kernel_rfl
theorem is53 : (Tryz.prog.info? 53).isSome = true := by kernel_rfl
theorem ce53 : Tryz.prog.cellsOf 53 = 1 := by kernel_rfl
theorem ag53 : aggT Tryz.prog 53 = some false := by kernel_rfl
theorem sz54 : szOf Tryz.prog 54 = some 1 := by kernel_rfl
theorem is54 : (Tryz.prog.info? 54).isSome = true := by kernel_rfl
theorem ce54 : Tryz.prog.cellsOf 54 = 1 := by kernel_rfl
theorem ag54 : aggT Tryz.prog 54 = some false := by kernel_rfl
theorem ze54 : czero Tryz.prog 54 = some (.nilFunc) := by kernel_rfl
theorem sz55 : szOf Tryz.prog 55 = some 1 := by kernel_rfl
theorem is55 : (Tryz.prog.info? 55).isSome = true := by kernel_rfl
theorem ce55 : Tryz.prog.cellsOf 55 = 1 := by kernel_rfl
theorem ag55 : aggT Tryz.prog 55 = some false := by kernel_rfl
theorem ze55 : czero Tryz.prog 55 = some (.nilFunc) := by kernel_rfl
theorem sz56 : szOf Tryz.prog 56 = some 1 := by kernel_rfl
theorem is56 : (Tryz.prog.info? 56).isSome = true := by kernel_rfl
theorem ce56 : Tryz.prog.cellsOf 56 = 1 := by kernel_rfl
theorem ag56 : aggT Tryz.prog 56 = some false := by kernel_rfl
theorem ze56 : czero Tryz.prog 56 = some (.nilFunc) := by kernel_rfl
theorem sz57 : szOf Tryz.prog 57 = some 1 := by kernel_rfl
theorem is57 : (Tryz.prog.info? 57).isSome = true := by kernel_rfl
theorem ce57 : Tryz.prog.cellsOf 57 = 1 := by kernel_rfl
theorem ag57 : aggT Tryz.prog 57 = some false := by kernel_rfl
theorem ze57 : czero Tryz.prog 57 = some (.nilFunc) := by kernel_rfl
theorem sz58 : szOf Tryz.prog 58 = some 1 := by kernel_rfl
theorem is58 : (Tryz.prog.info? 58).isSome = true := by kernel_rfl
theorem ce58 : Tryz.prog.cellsOf 58 = 1 := by kernel_rfl
theorem ag58 : aggT Tryz.prog 58 = some false := by kernel_rfl
theorem ze58 : czero Tryz.prog 58 = some (.pointer none) := by kernel_rfl
theorem nt58 {x y : Operand} : cbin Tryz.prog .eql 58 x y (.pointer none) (.pointer none) = some (.bool true) := by kernel_rfl
theorem nn58 {x y : Operand} : cbin Tryz.prog .neq 58 x y (.pointer none) (.pointer none) = some (.bool false) := by kernel_rfl
theorem nf58 {x y : Operand} {a : Addr} : cbin Tryz.prog .eql 58 x y (.pointer (some a)) (.pointer none) = some (.bool false) := by kernel_rfl
theorem ng58 {x y : Operand} {a : Addr} : cbin Tryz.prog .neq 58 x y (.pointer (some a)) (.pointer none) = some (.bool true) := by kernel_rfl
theorem sz59 : szOf Tryz.prog 59 = some 1 := by kernel_rfl
theorem is59 : (Tryz.prog.info? 59).isSome = true := by kernel_rfl
theorem ce59 : Tryz.prog.cellsOf 59 = 1 := by kernel_rfl
theorem ag59 : aggT Tryz.prog 59 = some false := by kernel_rfl
theorem ze59 : czero Tryz.prog 59 = some (.nilFunc) := by kernel_rfl
theorem sz60 : szOf Tryz.prog 60 = some 1 := by kernel_rfl
theorem is60 : (Tryz.prog.info? 60).isSome = true := by kernel_rfl
theorem ce60 : Tryz.prog.cellsOf 60 = 1 := by kernel_rfl
theorem ag60 : aggT Tryz.prog 60 = some false := by kernel_rfl
theorem ze60 : czero Tryz.prog 60 = some (.pointer none) := by kernel_rfl
theorem nt60 {x y : Operand} : cbin Tryz.prog .eql 60 x y (.pointer none) (.pointer none) = some (.bool true) := by kernel_rfl
theorem nn60 {x y : Operand} : cbin Tryz.prog .neq 60 x y (.pointer none) (.pointer none) = some (.bool false) := by kernel_rfl
theorem nf60 {x y : Operand} {a : Addr} : cbin Tryz.prog .eql 60 x y (.pointer (some a)) (.pointer none) = some (.bool false) := by kernel_rfl
theorem ng60 {x y : Operand} {a : Addr} : cbin Tryz.prog .neq 60 x y (.pointer (some a)) (.pointer none) = some (.bool true) := by kernel_rfl
theorem sz61 : szOf Tryz.prog 61 = some 1 := by kernel_rfl
theorem is61 : (Tryz.prog.info? 61).isSome = true := by kernel_rfl
theorem ce61 : Tryz.prog.cellsOf 61 = 1 := by kernel_rfl
theorem ag61 : aggT Tryz.prog 61 = some false := by kernel_rfl
theorem ze61 : czero Tryz.prog 61 = some (.nilFunc) := by kernel_rfl
theorem sz62 : szOf Tryz.prog 62 = some 1 := by kernel_rfl
theorem is62 : (Tryz.prog.info? 62).isSome = true := by kernel_rfl
theorem ce62 : Tryz.prog.cellsOf 62 = 1 := by kernel_rfl
theorem ag62 : aggT Tryz.prog 62 = some false := by kernel_rfl
theorem ze62 : czero Tryz.prog 62 = some (.nilFunc) := by kernel_rfl
theorem sz63 : szOf Tryz.prog 63 = some 1 := by kernel_rfl
theorem is63 : (Tryz.prog.info? 63).isSome = true := by kernel_rfl
theorem ce63 : Tryz.prog.cellsOf 63 = 1 := by kernel_rfl
theorem ag63 : aggT Tryz.prog 63 = some false := by kernel_rfl
theorem ze63 : czero Tryz.prog 63 = some (.slice none 0 0) := by kernel_rfl
theorem sz64 : szOf Tryz.prog 64 = some 5 := by kernel_rfl
theorem is64 : (Tryz.prog.info? 64).isSome = true := by kernel_rfl
theorem ce64 : Tryz.prog.cellsOf 64 = 5 := by kernel_rfl
theorem ag64 : aggT Tryz.prog 64 = some true := by kernel_rfl
theorem ze64 : czero Tryz.prog 64 = some (.agg #[.slice none 0 0, .pointer none, .pointer none, .int .i64 0, .int .i64 0]) := by kernel_rfl
theorem fa64x0 : faOk Tryz.prog 64 0 = some 0 := by kernel_rfl
theorem fa64x1 : faOk Tryz.prog 64 1 = some 1 := by kernel_rfl
theorem fa64x2 : faOk Tryz.prog 64 2 = some 2 := by kernel_rfl
theorem fa64x3 : faOk Tryz.prog 64 3 = some 3 := by kernel_rfl
theorem fa64x4 : faOk Tryz.prog 64 4 = some 4 := by kernel_rfl
theorem sz65 : szOf Tryz.prog 65 = some 5 := by kernel_rfl
theorem is65 : (Tryz.prog.info? 65).isSome = true := by kernel_rfl
theorem ce65 : Tryz.prog.cellsOf 65 = 5 := by kernel_rfl
theorem ag65 : aggT Tryz.prog 65 = some true := by kernel_rfl
theorem ze65 : czero Tryz.prog 65 = some (.agg #[.slice none 0 0, .pointer none, .pointer none, .int .i64 0, .int .i64 0]) := by kernel_rfl
theorem fa65x0 : faOk Tryz.prog 65 0 = some 0 := by kernel_rfl
theorem fa65x1 : faOk Tryz.prog 65 1 = some 1 := by kernel_rfl
theorem fa65x2 : faOk Tryz.prog 65 2 = some 2 := by kernel_rfl
theorem fa65x3 : faOk Tryz.prog 65 3 = some 3 := by kernel_rfl
theorem fa65x4 : faOk Tryz.prog 65 4 = some 4 := by kernel_rfl
theorem sz66 : szOf Tryz.prog 66 = some 1 := by kernel_rfl
theorem is66 : (Tryz.prog.info? 66).isSome = true := by kernel_rfl
theorem ce66 : Tryz.prog.cellsOf 66 = 1 := by kernel_rfl
theorem ag66 : aggT Tryz.prog 66 = some false := by kernel_rfl
theorem sz67 : szOf Tryz.prog 67 = some 1 := by kernel_rfl
theorem is67 : (Tryz.prog.info? 67).isSome = true := by kernel_rfl
theorem ce67 : Tryz.prog.cellsOf 67 = 1 := by kernel_rfl
theorem ag67 : aggT Tryz.prog 67 = some false := by kernel_rfl
theorem ze67 : czero Tryz.prog 67 = some (.nilFunc) := by kernel_rfl
theorem sz68 : szOf Tryz.prog 68 = some 1 := by kernel_rfl
theorem is68 : (Tryz.prog.info? 68).isSome = true := by kernel_rfl
theorem ce68 : Tryz.prog.cellsOf 68 = 1 := by kernel_rfl
theorem ag68 : aggT Tryz.prog 68 = some false := by kernel_rfl
theorem ze68 : czero Tryz.prog 68 = some (.nilFunc) := by kernel_rfl
theorem sz69 : szOf Tryz.prog 69 = some 1 := by kernel_rfl
theorem is69 : (Tryz.prog.info? 69).isSome = true := by kernel_rfl
theorem ce69 : Tryz.prog.cellsOf 69 = 1 := by kernel_rfl
theorem ag69 : aggT Tryz.prog 69 = some false := by kernel_rfl
theorem ze69 : czero Tryz.prog 69 = some (.nilFunc) := by kernel_rfl
theorem sz70 : szOf Tryz.prog 70 = some 1 := by kernel_rfl
theorem is70 : (Tryz.prog.info? 70).isSome = true := by kernel_rfl
theorem ce70 : Tryz.prog.cellsOf 70 = 1 := by kernel_rfl
theorem ag70 : aggT Tryz.prog 70 = some false := by kernel_rfl
theorem ze70 : czero Tryz.prog 70 = some (.nilFunc) := by kernel_rfl
theorem sz71 : szOf Tryz.prog 71 = some 1 := by kernel_rfl
theorem is71 : (Tryz.prog.info? 71).isSome = true := by kernel_rfl
theorem ce71 : Tryz.prog.cellsOf 71 = 1 := by kernel_rfl
theorem ag71 : aggT Tryz.prog 71 = some false := by kernel_rfl
theorem ze71 : czero Tryz.prog 71 = some (.nilFunc) := by kernel_rfl
theorem sz72 : szOf Tryz.prog 72 = some 1 := by kernel_rfl
theorem is72 : (Tryz.prog.info? 72).isSome = true := by kernel_rfl
theorem ce72 : Tryz.prog.cellsOf 72 = 1 := by kernel_rfl
theorem ag72 : aggT Tryz.prog 72 = some false := by kernel_rfl
theorem ze72 : czero Tryz.prog 72 = some (.pointer none) := by kernel_rfl
theorem nt72 {x y : Operand} : cbin Tryz.prog .eql 72 x y (.pointer none) (.pointer none) = some (.bool true) := by kernel_rfl
theorem nn72 {x y : Operand} : cbin Tryz.prog .neq 72 x y (.pointer none) (.pointer none) = some (.bool false) := by kernel_rfl
theorem nf72 {x y : Operand} {a : Addr} : cbin Tryz.prog .eql 72 x y (.pointer (some a)) (.pointer none) = some (.bool false) := by kernel_rfl
theorem ng72 {x y : Operand} {a : Addr} : cbin Tryz.prog .neq 72 x y (.pointer (some a)) (.pointer none) = some (.bool true) := by kernel_rfl
theorem sz73 : szOf Tryz.prog 73 = some 1 := by kernel_rfl
theorem is73 : (Tryz.prog.info? 73).isSome = true := by kernel_rfl
theorem ce73 : Tryz.prog.cellsOf 73 = 1 := by kernel_rfl
theorem ag73 : aggT Tryz.prog 73 = some false := by kernel_rfl
theorem ze73 : czero Tryz.prog 73 = some (.nilFunc) := by kernel_rfl
theorem sz74 : szOf Tryz.prog 74 = some 1 := by kernel_rfl
theorem is74 : (Tryz.prog.info? 74).isSome = true := by kernel_rfl
theorem ce74 : Tryz.prog.cellsOf 74 = 1 := by kernel_rfl
theorem ag74 : aggT Tryz.prog 74 = some false := by kernel_rfl
theorem ze74 : czero Tryz.prog 74 = some (.slice none 0 0) := by kernel_rfl
theorem sz75 : szOf Tryz.prog 75 = some 1 := by kernel_rfl
theorem is75 : (Tryz.prog.info? 75).isSome = true := by kernel_rfl
theorem ce75 : Tryz.prog.cellsOf 75 = 1 := by kernel_rfl
theorem ag75 : aggT Tryz.prog 75 = some true := by kernel_rfl
theorem ze75 : czero Tryz.prog 75 = some (.agg #[.slice none 0 0]) := by kernel_rfl
theorem fa75x0 : faOk Tryz.prog 75 0 = some 0 := by kernel_rfl
theorem sz76 : szOf Tryz.prog 76 = some 1 := by kernel_rfl
theorem is76 : (Tryz.prog.info? 76).isSome = true := by kernel_rfl
theorem ce76 : Tryz.prog.cellsOf 76 = 1 := by kernel_rfl
theorem ag76 : aggT Tryz.prog 76 = some true := by kernel_rfl
theorem ze76 : czero Tryz.prog 76 = some (.agg #[.slice none 0 0]) := by kernel_rfl
theorem fa76x0 : faOk Tryz.prog 76 0 = some 0 := by kernel_rfl
theorem sz77 : szOf Tryz.prog 77 = some 5 := by kernel_rfl
theorem is77 : (Tryz.prog.info? 77).isSome = true := by kernel_rfl
theorem ce77 : Tryz.prog.cellsOf 77 = 5 := by kernel_rfl
theorem ag77 : aggT Tryz.prog 77 = some true := by kernel_rfl
theorem ze77 : czero Tryz.prog 77 = some (.agg #[.slice none 0 0, .int .i64 0, .int .i64 0, .pointer none, .slice none 0 0]) := by kernel_rfl
theorem fa77x0 : faOk Tryz.prog 77 0 = some 0 := by kernel_rfl
theorem fa77x1 : faOk Tryz.prog 77 1 = some 1 := by kernel_rfl
theorem fa77x2 : faOk Tryz.prog 77 2 = some 2 := by kernel_rfl
theorem fa77x3 : faOk Tryz.prog 77 3 = some 3 := by kernel_rfl
theorem fa77x4 : faOk Tryz.prog 77 4 = some 4 := by kernel_rfl
theorem sz78 : szOf Tryz.prog 78 = some 5 := by kernel_rfl
theorem is78 : (Tryz.prog.info? 78).isSome = true := by kernel_rfl
theorem ce78 : Tryz.prog.cellsOf 78 = 5 := by kernel_rfl
theorem ag78 : aggT Tryz.prog 78 = some true := by kernel_rfl
theorem ze78 : czero Tryz.prog 78 = some (.agg #[.slice none 0 0, .int .i64 0, .int .i64 0, .pointer none, .slice none 0 0]) := by kernel_rfl
theorem fa78x0 : faOk Tryz.prog 78 0 = some 0 := by kernel_rfl
theorem fa78x1 : faOk Tryz.prog 78 1 = some 1 := by kernel_rfl
theorem fa78x2 : faOk Tryz.prog 78 2 = some 2 := by kernel_rfl
theorem fa78x3 : faOk Tryz.prog 78 3 = some 3 := by kernel_rfl
theorem fa78x4 : faOk Tryz.prog 78 4 = some 4 := by kernel_rfl
theorem sz79 : szOf Tryz.prog 79 = some 1 := by kernel_rfl
theorem is79 : (Tryz.prog.info? 79).isSome = true := by kernel_rfl
theorem ce79 : Tryz.prog.cellsOf 79 = 1 := by kernel_rfl
theorem ag79 : aggT Tryz.prog 79 = some false := by kernel_rfl
theorem ze79 : czero Tryz.prog 79 = some (.pointer none) := by kernel_rfl
theorem nt79 {x y : Operand} : cbin Tryz.prog .eql 79 x y (.pointer none) (.pointer none) = some (.bool true) := by kernel_rfl
theorem nn79 {x y : Operand} : cbin Tryz.prog .neq 79 x y (.pointer none) (.pointer none) = some (.bool false) := by kernel_rfl
theorem nf79 {x y : Operand} {a : Addr} : cbin Tryz.prog .eql 79 x y (.pointer (some a)) (.pointer none) = some (.bool false) := by kernel_rfl
theorem ng79 {x y : Operand} {a : Addr} : cbin Tryz.prog .neq 79 x y (.pointer (some a)) (.pointer none) = some (.bool true) := by kernel_rfl
theorem sz80 : szOf Tryz.prog 80 = some 1 := by kernel_rfl
theorem is80 : (Tryz.prog.info? 80).isSome = true := by kernel_rfl
theorem ce80 : Tryz.prog.cellsOf 80 = 1 := by kernel_rfl
theorem ag80 : aggT Tryz.prog 80 = some false := by kernel_rfl
theorem ze80 : czero Tryz.prog 80 = some (.nilFunc) := by kernel_rfl
theorem sz81 : szOf Tryz.prog 81 = some 1 := by kernel_rfl
theorem is81 : (Tryz.prog.info? 81).isSome = true := by kernel_rfl
theorem ce81 : Tryz.prog.cellsOf 81 = 1 := by kernel_rfl
theorem ag81 : aggT Tryz.prog 81 = some false := by kernel_rfl
theorem ze81 : czero Tryz.prog 81 = some (.nilIface) := by kernel_rfl
theorem sz82 : szOf Tryz.prog 82 = some 1 := by kernel_rfl
theorem is82 : (Tryz.prog.info? 82).isSome = true := by kernel_rfl
theorem ce82 : Tryz.prog.cellsOf 82 = 1 := by kernel_rfl
theorem ag82 : aggT Tryz.prog 82 = some false := by kernel_rfl
theorem ze82 : czero Tryz.prog 82 = some (.nilIface) := by kernel_rfl
theorem sz83 : szOf Tryz.prog 83 = some 3 := by kernel_rfl
theorem is83 : (Tryz.prog.info? 83).isSome = true := by kernel_rfl
theorem ce83 : Tryz.prog.cellsOf 83 = 3 := by kernel_rfl
theorem ag83 : aggT Tryz.prog 83 = some true := by kernel_rfl
theorem ze83 : czero Tryz.prog 83 = some (.agg #[.nilIface, .int .i64 0, .int .i64 0]) := by kernel_rfl
theorem fa83x0 : faOk Tryz.prog 83 0 = some 0 := by kernel_rfl
theorem fa83x1 : faOk Tryz.prog 83 1 = some 1 := by kernel_rfl
theorem fa83x2 : faOk Tryz.prog 83 2 = some 2 := by kernel_rfl
theorem sz84 : szOf Tryz.prog 84 = some 3 := by kernel_rfl
theorem is84 : (Tryz.prog.info? 84).isSome = true := by kernel_rfl
theorem ce84 : Tryz.prog.cellsOf 84 = 3 := by kernel_rfl
theorem ag84 : aggT Tryz.prog 84 = some true := by kernel_rfl
theorem ze84 : czero Tryz.prog 84 = some (.agg #[.nilIface, .int .i64 0, .int .i64 0]) := by kernel_rfl
theorem fa84x0 : faOk Tryz.prog 84 0 = some 0 := by kernel_rfl
theorem fa84x1 : faOk Tryz.prog 84 1 = some 1 := by kernel_rfl
theorem fa84x2 : faOk Tryz.prog 84 2 = some 2 := by kernel_rfl
theorem sz85 : szOf Tryz.prog 85 = some 1 := by kernel_rfl
theorem is85 : (Tryz.prog.info? 85).isSome = true := by kernel_rfl
theorem ce85 : Tryz.prog.cellsOf 85 = 1 := by kernel_rfl
theorem ag85 : aggT Tryz.prog 85 = some false := by kernel_rfl
theorem ze85 : czero Tryz.prog 85 = some (.nilFunc) := by kernel_rfl
theorem sz86 : szOf Tryz.prog 86 = some 1 := by kernel_rfl
theorem is86 : (Tryz.prog.info? 86).isSome = true := by kernel_rfl
theorem ce86 : Tryz.prog.cellsOf 86 = 1 := by kernel_rfl
theorem ag86 : aggT Tryz.prog 86 = some false := by kernel_rfl
theorem ze86 : czero Tryz.prog 86 = some (.nilFunc) := by kernel_rfl
theorem sz87 : szOf Tryz.prog 87 = some 1 := by kernel_rfl
theorem is87 : (Tryz.prog.info? 87).isSome = true := by kernel_rfl
theorem ce87 : Tryz.prog.cellsOf 87 = 1 := by kernel_rfl
theorem ag87 : aggT Tryz.prog 87 = some false := by kernel_rfl
theorem ze87 : czero Tryz.prog 87 = some (.pointer none) := by kernel_rfl
theorem nt87 {x y : Operand} : cbin Tryz.prog .eql 87 x y (.pointer none) (.pointer none) = some (.bool true) := by kernel_rfl
theorem nn87 {x y : Operand} : cbin Tryz.prog .neq 87 x y (.pointer none) (.pointer none) = some (.bool false) := by kernel_rfl
theorem nf87 {x y : Operand} {a : Addr} : cbin Tryz.prog .eql 87 x y (.pointer (some a)) (.pointer none) = some (.bool false) := by kernel_rfl
theorem ng87 {x y : Operand} {a : Addr} : cbin Tryz.prog .neq 87 x y (.pointer (some a)) (.pointer none) = some (.bool true) := by kernel_rfl
theorem sz88 : szOf Tryz.prog 88 = some 1 := by kernel_rfl
theorem is88 : (Tryz.prog.info? 88).isSome = true := by kernel_rfl
theorem ce88 : Tryz.prog.cellsOf 88 = 1 := by kernel_rfl
theorem ag88 : aggT Tryz.prog 88 = some false := by kernel_rfl
theorem ze88 : czero Tryz.prog 88 = some (.nilFunc) := by kernel_rfl
theorem sz89 : szOf Tryz.prog 89 = some 1 := by kernel_rfl
theorem is89 : (Tryz.prog.info? 89).isSome = true := by kernel_rfl
theorem ce89 : Tryz.prog.cellsOf 89 = 1 := by kernel_rfl
theorem ag89 : aggT Tryz.prog 89 = some false := by kernel_rfl
theorem ze89 : czero Tryz.prog 89 = some (.pointer none) := by kernel_rfl
theorem nt89 {x y : Operand} : cbin Tryz.prog .eql 89 x y (.pointer none) (.pointer none) = some (.bool true) := by kernel_rfl
theorem nn89 {x y : Operand} : cbin Tryz.prog .neq 89 x y (.pointer none) (.pointer none) = some (.bool false) := by kernel_rfl
theorem nf89 {x y : Operand} {a : Addr} : cbin Tryz.prog .eql 89 x y (.pointer (some a)) (.pointer none) = some (.bool false) := by kernel_rfl
theorem ng89 {x y : Operand} {a : Addr} : cbin Tryz.prog .neq 89 x y (.pointer (some a)) (.pointer none) = some (.bool true) := by kernel_rfl
theorem sz90 : szOf Tryz.prog 90 = some 1 := by kernel_rfl
theorem is90 : (Tryz.prog.info? 90).isSome = true := by kernel_rfl
theorem ce90 : Tryz.prog.cellsOf 90 = 1 := by kernel_rfl
theorem ag90 : aggT Tryz.prog 90 = some true := by kernel_rfl
theorem ze90 : czero Tryz.prog 90 = some (.agg #[.pointer none]) := by kernel_rfl
theorem fa90x0 : faOk Tryz.prog 90 0 = some 0 := by kernel_rfl
theorem sz91 : szOf Tryz.prog 91 = some 1 := by kernel_rfl
theorem is91 : (Tryz.prog.info? 91).isSome = true := by kernel_rfl
theorem ce91 : Tryz.prog.cellsOf 91 = 1 := by kernel_rfl
theorem ag91 : aggT Tryz.prog 91 = some true := by kernel_rfl
theorem ze91 : czero Tryz.prog 91 = some (.agg #[.pointer none]) := by kernel_rfl
theorem fa91x0 : faOk Tryz.prog 91 0 = some 0 := by kernel_rfl
theorem sz92 : szOf Tryz.prog 92 = some 1 := by kernel_rfl
theorem is92 : (Tryz.prog.info? 92).isSome = true := by kernel_rfl
theorem ce92 : Tryz.prog.cellsOf 92 = 1 := by kernel_rfl
theorem ag92 : aggT Tryz.prog 92 = some false := by kernel_rfl
theorem ze92 : czero Tryz.prog 92 = some (.nilFunc) := by kernel_rfl
theorem sz93 : szOf Tryz.prog 93 = some 1 := by kernel_rfl
theorem is93 : (Tryz.prog.info? 93).isSome = true := by kernel_rfl
theorem ce93 : Tryz.prog.cellsOf 93 = 1 := by kernel_rfl
theorem ag93 : aggT Tryz.prog 93 = some false := by kernel_rfl
theorem sz94 : szOf Tryz.prog 94 = some 1 := by kernel_rfl
theorem is94 : (Tryz.prog.info? 94).isSome = true := by kernel_rfl
theorem ce94 : Tryz.prog.cellsOf 94 = 1 := by kernel_rfl
theorem ag94 : aggT Tryz.prog 94 = some false := by kernel_rfl
theorem ze94 : czero Tryz.prog 94 = some (.slice none 0 0) := by kernel_rfl
theorem sz95 : szOf Tryz.prog 95 = some 2 := by kernel_rfl
theorem is95 : (Tryz.prog.info? 95).isSome = true := by kernel_rfl
theorem ce95 : Tryz.prog.cellsOf 95 = 2 := by kernel_rfl
theorem ag95 : aggT Tryz.prog 95 = some true := by kernel_rfl
theorem ze95 : czero Tryz.prog 95 = some (.agg #[.int .i64 0, .slice none 0 0]) := by kernel_rfl
theorem fa95x0 : faOk Tryz.prog 95 0 = some 0 := by kernel_rfl
theorem fa95x1 : faOk Tryz.prog 95 1 = some 1 := by kernel_rfl
theorem sz96 : szOf Tryz.prog 96 = some 2 := by kernel_rfl
theorem is96 : (Tryz.prog.info? 96).isSome = true := by kernel_rfl
theorem ce96 : Tryz.prog.cellsOf 96 = 2 := by kernel_rfl
theorem ag96 : aggT Tryz.prog 96 = some true := by kernel_rfl
theorem ze96 : czero Tryz.prog 96 = some (.agg #[.int .i64 0, .slice none 0 0]) := by kernel_rfl
theorem fa96x0 : faOk Tryz.prog 96 0 = some 0 := by kernel_rfl
theorem fa96x1 : faOk Tryz.prog 96 1 = some 1 := by kernel_rfl
theorem sz97 : szOf Tryz.prog 97 = some 1 := by kernel_rfl
theorem is97 : (Tryz.prog.info? 97).isSome = true := by kernel_rfl
theorem ce97 : Tryz.prog.cellsOf 97 = 1 := by kernel_rfl
theorem ag97 : aggT Tryz.prog 97 = some false := by kernel_rfl
theorem ze97 : czero Tryz.prog 97 = some (.nilFunc) := by kernel_rfl
theorem sz98 : szOf Tryz.prog 98 = some 1 := by kernel_rfl
theorem is98 : (Tryz.prog.info? 98).isSome = true := by kernel_rfl
theorem ce98 : Tryz.prog.cellsOf 98 = 1 := by kernel_rfl
theorem ag98 : aggT Tryz.prog 98 = some false := by kernel_rfl
theorem ze98 : czero Tryz.prog 98 = some (.nilFunc) := by kernel_rfl
theorem sz99 : szOf Tryz.prog 99 = some 1 := by kernel_rfl
theorem is99 : (Tryz.prog.info? 99).isSome = true := by kernel_rfl
theorem ce99 : Tryz.prog.cellsOf 99 = 1 := by kernel_rfl
theorem ag99 : aggT Tryz.prog 99 = some false := by kernel_rfl
theorem ze99 : czero Tryz.prog 99 = some (.nilFunc) := by kernel_rfl
theorem sz100 : szOf Tryz.prog 100 = some 1 := by kernel_rfl
theorem is100 : (Tryz.prog.info? 100).isSome = true := by kernel_rfl
theorem ce100 : Tryz.prog.cellsOf 100 = 1 := by kernel_rfl
theorem ag100 : aggT Tryz.prog 100 = some false := by kernel_rfl
theorem sz101 : szOf Tryz.prog 101 = some 1 := by kernel_rfl
theorem is101 : (Tryz.prog.info? 101).isSome = true := by kernel_rfl
theorem ce101 : Tryz.prog.cellsOf 101 = 1 := by kernel_rfl
theorem ag101 : aggT Tryz.prog 101 = some false := by kernel_rfl
theorem ze101 : czero Tryz.prog 101 = some (.nilFunc) := by kernel_rfl
theorem sz102 : szOf Tryz.prog 102 = some 1 := by kernel_rfl
theorem is102 : (Tryz.prog.info? 102).isSome = true := by kernel_rfl
theorem ce102 : Tryz.prog.cellsOf 102 = 1 := by kernel_rfl
theorem ag102 : aggT Tryz.prog 102 = some false := by kernel_rfl
theorem ze102 : czero Tryz.prog 102 = some (.nilFunc) := by kernel_rfl
theorem sz103 : szOf Tryz.prog 103 = some 2 := by kernel_rfl
theorem is103 : (Tryz.prog.info? 103).isSome = true := by kernel_rfl
theorem ce103 : Tryz.prog.cellsOf 103 = 2 := by kernel_rfl
theorem ag103 : aggT Tryz.prog 103 = some true := by kernel_rfl
theorem ze103 : czero Tryz.prog 103 = some (.agg #[.slice none 0 0, .slice none 0 0]) := by kernel_rfl
theorem fa103x0 : faOk Tryz.prog 103 0 = some 0 := by kernel_rfl
theorem fa103x1 : faOk Tryz.prog 103 1 = some 1 := by kernel_rfl
theorem sz104 : szOf Tryz.prog 104 = some 2 := by kernel_rfl
theorem is104 : (Tryz.prog.info? 104).isSome = true := by kernel_rfl
theorem ce104 : Tryz.prog.cellsOf 104 = 2 := by kernel_rfl
theorem ag104 : aggT Tryz.prog 104 = some true := by kernel_rfl
theorem ze104 : czero Tryz.prog 104 = some (.agg #[.slice none 0 0, .slice none 0 0]) := by kernel_rfl
theorem fa104x0 : faOk Tryz.prog 104 0 = some 0 := by kernel_rfl
theorem fa104x1 : faOk Tryz.prog 104 1 = some 1 := by kernel_rfl
theorem sz105 : szOf Tryz.prog 105 = some 5 := by kernel_rfl
theorem is105 : (Tryz.prog.info? 105).isSome = true := by kernel_rfl
theorem ce105 : Tryz.prog.cellsOf 105 = 5 := by kernel_rfl
theorem ag105 : aggT Tryz.prog 105 = some true := by kernel_rfl
theorem ze105 : czero Tryz.prog 105 = some (.agg #[.int .i64 0, .slice none 0 0, .slice none 0 0, .int .i64 0, .int .i64 0]) := by kernel_rfl
theorem fa105x0 : faOk Tryz.prog 105 0 = some 0 := by kernel_rfl
theorem fa105x1 : faOk Tryz.prog 105 1 = some 1 := by kernel_rfl
theorem fa105x2 : faOk Tryz.prog 105 2 = some 3 := by kernel_rfl
theorem fa105x3 : faOk Tryz.prog 105 3 = some 4 := by kernel_rfl
theorem sz106 : szOf Tryz.prog 106 = some 5 := by kernel_rfl
theorem is106 : (Tryz.prog.info? 106).isSome = true := by kernel_rfl
theorem ce106 : Tryz.prog.cellsOf 106 = 5 := by kernel_rfl
theorem ag106 : aggT Tryz.prog 106 = some true := by kernel_rfl
theorem ze106 : czero Tryz.prog 106 = some (.agg #[.int .i64 0, .slice none 0 0, .slice none 0 0, .int .i64 0, .int .i64 0]) := by kernel_rfl
theorem fa106x0 : faOk Tryz.prog 106 0 = some 0 := by kernel_rfl
theorem fa106x1 : faOk Tryz.prog 106 1 = some 1 := by kernel_rfl
theorem fa106x2 : faOk Tryz.prog 106 2 = some 3 := by kernel_rfl
theorem fa106x3 : faOk Tryz.prog 106 3 = some 4 := by kernel_rfl
theorem sz107 : szOf Tryz.prog 107 = some 1 := by kernel_rfl
theorem is107 : (Tryz.prog.info? 107).isSome = true := by kernel_rfl
theorem ce107 : Tryz.prog.cellsOf 107 = 1 := by kernel_rfl
theorem ag107 : aggT Tryz.prog 107 = some false := by kernel_rfl
theorem ze107 : czero Tryz.prog 107 = some (.pointer none) := by kernel_rfl
theorem nt107 {x y : Operand} : cbin Tryz.prog .eql 107 x y (.pointer none) (.pointer none) = some (.bool true) := by kernel_rfl
theorem nn107 {x y : Operand} : cbin Tryz.prog .neq 107 x y (.pointer none) (.pointer none) = some (.bool false) := by kernel_rfl
theorem nf107 {x y : Operand} {a : Addr} : cbin Tryz.prog .eql 107 x y (.pointer (some a)) (.pointer none) = some (.bool false) := by kernel_rfl
theorem ng107 {x y : Operand} {a : Addr} : cbin Tryz.prog .neq 107 x y (.pointer (some a)) (.pointer none) = some (.bool true) := by kernel_rfl
theorem sz108 : szOf Tryz.prog 108 = some 1 := by kernel_rfl
theorem is108 : (Tryz.prog.info? 108).isSome = true := by kernel_rfl
theorem ce108 : Tryz.prog.cellsOf 108 = 1 := by kernel_rfl
theorem ag108 : aggT Tryz.prog 108 = some false := by kernel_rfl
theorem ze108 : czero Tryz.prog 108 = some (.nilFunc) := by kernel_rfl
theorem sz109 : szOf Tryz.prog 109 = some 1 := by kernel_rfl
theorem is109 : (Tryz.prog.info? 109).isSome = true := by kernel_rfl
theorem ce109 : Tryz.prog.cellsOf 109 = 1 := by kernel_rfl
theorem ag109 : aggT Tryz.prog 109 = some false := by kernel_rfl
theorem ze109 : czero Tryz.prog 109 = some (.nilFunc) := by kernel_rfl
theorem sz110 : szOf Tryz.prog 110 = some 1 := by kernel_rfl
theorem is110 : (Tryz.prog.info? 110).isSome = true := by kernel_rfl
theorem ce110 : Tryz.prog.cellsOf 110 = 1 := by kernel_rfl
theorem ag110 : aggT Tryz.prog 110 = some false := by kernel_rfl
theorem ze110 : czero Tryz.prog 110 = some (.nilFunc) := by kernel_rfl
theorem sz111 : szOf Tryz.prog 111 = some 1 := by kernel_rfl
theorem is111 : (Tryz.prog.info? 111).isSome = true := by kernel_rfl
theorem ce111 : Tryz.prog.cellsOf 111 = 1 := by kernel_rfl
theorem ag111 : aggT Tryz.prog 111 = some false := by kernel_rfl
theorem ze111 : czero Tryz.prog 111 = some (.pointer none) := by kernel_rfl
theorem nt111 {x y : Operand} : cbin Tryz.prog .eql 111 x y (.pointer none) (.pointer none) = some (.bool true) := by kernel_rfl
theorem nn111 {x y : Operand} : cbin Tryz.prog .neq 111 x y (.pointer none) (.pointer none) = some (.bool false) := by kernel_rfl
theorem nf111 {x y : Operand} {a : Addr} : cbin Tryz.prog .eql 111 x y (.pointer (some a)) (.pointer none) = some (.bool false) := by kernel_rfl
theorem ng111 {x y : Operand} {a : Addr} : cbin Tryz.prog .neq 111 x y (.pointer (some a)) (.pointer none) = some (.bool true) := by kernel_rfl
theorem sz112 : szOf Tryz.prog 112 = some 1 := by kernel_rfl
theorem is112 : (Tryz.prog.info? 112).isSome = true := by kernel_rfl
theorem ce112 : Tryz.prog.cellsOf 112 = 1 := by kernel_rfl
theorem ag112 : aggT Tryz.prog 112 = some false := by kernel_rfl
theorem ze112 : czero Tryz.prog 112 = some (.slice none 0 0) := by kernel_rfl
theorem sz113 : szOf Tryz.prog 113 = some 2 := by kernel_rfl
theorem is113 : (Tryz.prog.info? 113).isSome = true := by kernel_rfl
theorem ce113 : Tryz.prog.cellsOf 113 = 2 := by kernel_rfl
theorem ag113 : aggT Tryz.prog 113 = some true := by kernel_rfl
theorem ze113 : czero Tryz.prog 113 = some (.agg #[.pointer none, .slice none 0 0]) := by kernel_rfl
theorem fa113x0 : faOk Tryz.prog 113 0 = some 0 := by kernel_rfl
theorem fa113x1 : faOk Tryz.prog 113 1 = some 1 := by kernel_rfl
theorem sz114 : szOf Tryz.prog 114 = some 2 := by kernel_rfl
theorem is114 : (Tryz.prog.info? 114).isSome = true := by kernel_rfl
theorem ce114 : Tryz.prog.cellsOf 114 = 2 := by kernel_rfl
theorem ag114 : aggT Tryz.prog 114 = some true := by kernel_rfl
theorem ze114 : czero Tryz.prog 114 = some (.agg #[.pointer none, .slice none 0 0]) := by kernel_rfl
theorem fa114x0 : faOk Tryz.prog 114 0 = some 0 := by kernel_rfl
theorem fa114x1 : faOk Tryz.prog 114 1 = some 1 := by kernel_rfl
theorem sz115 : szOf Tryz.prog 115 = some 1 := by kernel_rfl
theorem is115 : (Tryz.prog.info? 115).isSome = true := by kernel_rfl
theorem ce115 : Tryz.prog.cellsOf 115 = 1 := by kernel_rfl
theorem ag115 : aggT Tryz.prog 115 = some false := by kernel_rfl
theorem ze115 : czero Tryz.prog 115 = some (.nilIface) := by kernel_rfl
theorem sz116 : szOf Tryz.prog 116 = some 1 := by kernel_rfl
theorem is116 : (Tryz.prog.info? 116).isSome = true := by kernel_rfl
theorem ce116 : Tryz.prog.cellsOf 116 = 1 := by kernel_rfl
theorem ag116 : aggT Tryz.prog 116 = some false := by kernel_rfl
theorem ze116 : czero Tryz.prog 116 = some (.nilIface) := by kernel_rfl
theorem sz117 : szOf Tryz.prog 117 = some 1 := by kernel_rfl
theorem is117 : (Tryz.prog.info? 117).isSome = true := by kernel_rfl
theorem ce117 : Tryz.prog.cellsOf 117 = 1 := by kernel_rfl
theorem ag117 : aggT Tryz.prog 117 = some false := by kernel_rfl
theorem sz118 : szOf Tryz.prog 118 = some 1 := by kernel_rfl
theorem is118 : (Tryz.prog.info? 118).isSome = true := by kernel_rfl
theorem ce118 : Tryz.prog.cellsOf 118 = 1 := by kernel_rfl
theorem ag118 : aggT Tryz.prog 118 = some false := by kernel_rfl
theorem ze118 : czero Tryz.prog 118 = some (.nilFunc) := by kernel_rfl
theorem sz119 : szOf Tryz.prog 119 = some 1 := by kernel_rfl
theorem is119 : (Tryz.prog.info? 119).isSome = true := by kernel_rfl
theorem ce119 : Tryz.prog.cellsOf 119 = 1 := by kernel_rfl
theorem ag119 : aggT Tryz.prog 119 = some false := by kernel_rfl
theorem ze119 : czero Tryz.prog 119 = some (.nilFunc) := by kernel_rfl
theorem sz120 : szOf Tryz.prog 120 = some 1 := by kernel_rfl
theorem is120 : (Tryz.prog.info? 120).isSome = true := by kernel_rfl
theorem ce120 : Tryz.prog.cellsOf 120 = 1 := by kernel_rfl
theorem ag120 : aggT Tryz.prog 120 = some false := by kernel_rfl
theorem ze120 : czero Tryz.prog 120 = some (.nilFunc) := by kernel_rfl
theorem sz121 : szOf Tryz.prog 121 = some 1 := by kernel_rfl
theorem is121 : (Tryz.prog.info? 121).isSome = true := by kernel_rfl
theorem ce121 : Tryz.prog.cellsOf 121 = 1 := by kernel_rfl
theorem ag121 : aggT Tryz.prog 121 = some false := by kernel_rfl
theorem ze121 : czero Tryz.prog 121 = some (.nilFunc) := by kernel_rfl
theorem sz122 : szOf Tryz.prog 122 = some 1 := by kernel_rfl
theorem is122 : (Tryz.prog.info? 122).isSome = true := by kernel_rfl
theorem ce122 : Tryz.prog.cellsOf 122 = 1 := by kernel_rfl
theorem ag122 : aggT Tryz.prog 122 = some false := by kernel_rfl
theorem ze122 : czero Tryz.prog 122 = some (.map none) := by kernel_rfl
theorem nt122 {x y : Operand} : cbin Tryz.prog .eql 122 x y (.map none) (.map none) = some (.bool true) := by kernel_rfl
theorem nn122 {x y : Operand} : cbin Tryz.prog .neq 122 x y (.map none) (.map none) = some (.bool false) := by kernel_rfl
theorem nf122 {x y : Operand} {a : Nat} : cbin Tryz.prog .eql 122 x y (.map (some a)) (.map none) = some (.bool false) := by kernel_rfl
theorem ng122 {x y : Operand} {a : Nat} : cbin Tryz.prog .neq 122 x y (.map (some a)) (.map none) = some (.bool true) := by kernel_rfl
theorem sz123 : szOf Tryz.prog 123 = some 1 := by kernel_rfl
theorem is123 : (Tryz.prog.info? 123).isSome = true := by kernel_rfl
theorem ce123 : Tryz.prog.cellsOf 123 = 1 := by kernel_rfl
theorem ag123 : aggT Tryz.prog 123 = some false := by kernel_rfl
theorem ze123 : czero Tryz.prog 123 = some (.slice none 0 0) := by kernel_rfl
theorem sz124 : szOf Tryz.prog 124 = some 3 := by kernel_rfl
theorem is124 : (Tryz.prog.info? 124).isSome = true := by kernel_rfl
theorem ce124 : Tryz.prog.cellsOf 124 = 3 := by kernel_rfl
theorem ag124 : aggT Tryz.prog 124 = some true := by kernel_rfl
theorem ze124 : czero Tryz.prog 124 = some (.agg #[.slice none 0 0, .map none, .int .i64 0]) := by kernel_rfl
theorem fa124x0 : faOk Tryz.prog 124 0 = some 0 := by kernel_rfl
theorem fa124x1 : faOk Tryz.prog 124 1 = some 1 := by kernel_rfl
theorem fa124x2 : faOk Tryz.prog 124 2 = some 2 := by kernel_rfl
theorem sz125 : szOf Tryz.prog 125 = some 3 := by kernel_rfl
theorem is125 : (Tryz.prog.info? 125).isSome = true := by kernel_rfl
theorem ce125 : Tryz.prog.cellsOf 125 = 3 := by kernel_rfl
theorem ag125 : aggT Tryz.prog 125 = some true := by kernel_rfl
theorem ze125 : czero Tryz.prog 125 = some (.agg #[.slice none 0 0, .map none, .int .i64 0]) := by kernel_rfl
theorem fa125x0 : faOk Tryz.prog 125 0 = some 0 := by kernel_rfl
theorem fa125x1 : faOk Tryz.prog 125 1 = some 1 := by kernel_rfl
theorem fa125x2 : faOk Tryz.prog 125 2 = some 2 := by kernel_rfl
theorem sz126 : szOf Tryz.prog 126 = some 1 := by kernel_rfl
theorem is126 : (Tryz.prog.info? 126).isSome = true := by kernel_rfl
theorem ce126 : Tryz.prog.cellsOf 126 = 1 := by kernel_rfl
theorem ag126 : aggT Tryz.prog 126 = some false := by kernel_rfl
theorem ze126 : czero Tryz.prog 126 = some (.map none) := by kernel_rfl
theorem nt126 {x y : Operand} : cbin Tryz.prog .eql 126 x y (.map none) (.map none) = some (.bool true) := by kernel_rfl
theorem nn126 {x y : Operand} : cbin Tryz.prog .neq 126 x y (.map none) (.map none) = some (.bool false) := by kernel_rfl
theorem nf126 {x y : Operand} {a : Nat} : cbin Tryz.prog .eql 126 x y (.map (some a)) (.map none) = some (.bool false) := by kernel_rfl
theorem ng126 {x y : Operand} {a : Nat} : cbin Tryz.prog .neq 126 x y (.map (some a)) (.map none) = some (.bool true) := by kernel_rfl
theorem sz127 : szOf Tryz.prog 127 = some 2 := by kernel_rfl
theorem is127 : (Tryz.prog.info? 127).isSome = true := by kernel_rfl
theorem ce127 : Tryz.prog.cellsOf 127 = 2 := by kernel_rfl
theorem ag127 : aggT Tryz.prog 127 = some true := by kernel_rfl
theorem ze127 : czero Tryz.prog 127 = some (.agg #[.map none, .slice none 0 0]) := by kernel_rfl
theorem fa127x0 : faOk Tryz.prog 127 0 = some 0 := by kernel_rfl
theorem fa127x1 : faOk Tryz.prog 127 1 = some 1 := by kernel_rfl
theorem sz128 : szOf Tryz.prog 128 = some 2 := by kernel_rfl
theorem is128 : (Tryz.prog.info? 128).isSome = true := by kernel_rfl
theorem ce128 : Tryz.prog.cellsOf 128 = 2 := by kernel_rfl
theorem ag128 : aggT Tryz.prog 128 = some true := by kernel_rfl
theorem ze128 : czero Tryz.prog 128 = some (.agg #[.map none, .slice none 0 0]) := by kernel_rfl
theorem fa128x0 : faOk Tryz.prog 128 0 = some 0 := by kernel_rfl
theorem fa128x1 : faOk Tryz.prog 128 1 = some 1 := by kernel_rfl
theorem sz129 : szOf Tryz.prog 129 = some 1 := by kernel_rfl
theorem is129 : (Tryz.prog.info? 129).isSome = true := by kernel_rfl
theorem ce129 : Tryz.prog.cellsOf 129 = 1 := by kernel_rfl
theorem ag129 : aggT Tryz.prog 129 = some false := by kernel_rfl
theorem ze129 : czero Tryz.prog 129 = some (.nilFunc) := by kernel_rfl
theorem sz130 : szOf Tryz.prog 130 = some 1 := by kernel_rfl
theorem is130 : (Tryz.prog.info? 130).isSome = true := by kernel_rfl
theorem ce130 : Tryz.prog.cellsOf 130 = 1 := by kernel_rfl
theorem ag130 : aggT Tryz.prog 130 = some false := by kernel_rfl
theorem ze130 : czero Tryz.prog 130 = some (.slice none 0 0) := by kernel_rfl
theorem sz131 : szOf Tryz.prog 131 = some 1 := by kernel_rfl
theorem is131 : (Tryz.prog.info? 131).isSome = true := by kernel_rfl
theorem ce131 : Tryz.prog.cellsOf 131 = 1 := by kernel_rfl
theorem ag131 : aggT Tryz.prog 131 = some false := by kernel_rfl
theorem ze131 : czero Tryz.prog 131 = some (.nilFunc) := by kernel_rfl
theorem sz132 : szOf Tryz.prog 132 = some 1 := by kernel_rfl
theorem is132 : (Tryz.prog.info? 132).isSome = true := by kernel_rfl
theorem ce132 : Tryz.prog.cellsOf 132 = 1 := by kernel_rfl
theorem ag132 : aggT Tryz.prog 132 = some false := by kernel_rfl
theorem ze132 : czero Tryz.prog 132 = some (.nilFunc) := by kernel_rfl
theorem sz133 : szOf Tryz.prog 133 = some 1 := by kernel_rfl
theorem is133 : (Tryz.prog.info? 133).isSome = true := by kernel_rfl
theorem ce133 : Tryz.prog.cellsOf 133 = 1 := by kernel_rfl
theorem ag133 : aggT Tryz.prog 133 = some false := by kernel_rfl
theorem ze133 : czero Tryz.prog 133 = some (.nilFunc) := by kernel_rfl
theorem sz134 : szOf Tryz.prog 134 = some 1 := by kernel_rfl
theorem is134 : (Tryz.prog.info? 134).isSome = true := by kernel_rfl
theorem ce134 : Tryz.prog.cellsOf 134 = 1 := by kernel_rfl
theorem ag134 : aggT Tryz.prog 134 = some false := by kernel_rfl
theorem ze134 : czero Tryz.prog 134 = some (.nilFunc) := by kernel_rfl
theorem sz135 : szOf Tryz.prog 135 = some 1 := by kernel_rfl
theorem is135 : (Tryz.prog.info? 135).isSome = true := by kernel_rfl
theorem ce135 : Tryz.prog.cellsOf 135 = 1 := by kernel_rfl
theorem ag135 : aggT Tryz.prog 135 = some false := by kernel_rfl
theorem ze135 : czero Tryz.prog 135 = some (.slice none 0 0) := by kernel_rfl
theorem sz136 : szOf Tryz.prog 136 = some 2 := by kernel_rfl
theorem is136 : (Tryz.prog.info? 136).isSome = true := by kernel_rfl
theorem ce136 : Tryz.prog.cellsOf 136 = 2 := by kernel_rfl
theorem ag136 : aggT Tryz.prog 136 = some true := by kernel_rfl
theorem ze136 : czero Tryz.prog 136 = some (.agg #[.slice none 0 0, .int .i64 0]) := by kernel_rfl
theorem fa136x0 : faOk Tryz.prog 136 0 = some 0 := by kernel_rfl
theorem fa136x1 : faOk Tryz.prog 136 1 = some 1 := by kernel_rfl
theorem sz137 : szOf Tryz.prog 137 = some 2 := by kernel_rfl
theorem is137 : (Tryz.prog.info? 137).isSome = true := by kernel_rfl
theorem ce137 : Tryz.prog.cellsOf 137 = 2 := by kernel_rfl
theorem ag137 : aggT Tryz.prog 137 = some true := by kernel_rfl
theorem ze137 : czero Tryz.prog 137 = some (.agg #[.slice none 0 0, .int .i64 0]) := by kernel_rfl
theorem fa137x0 : faOk Tryz.prog 137 0 = some 0 := by kernel_rfl
theorem fa137x1 : faOk Tryz.prog 137 1 = some 1 := by kernel_rfl
theorem sz138 : szOf Tryz.prog 138 = some 1 := by kernel_rfl
theorem is138 : (Tryz.prog.info? 138).isSome = true := by kernel_rfl
theorem ce138 : Tryz.prog.cellsOf 138 = 1 := by kernel_rfl
theorem ag138 : aggT Tryz.prog 138 = some false := by kernel_rfl
theorem ze138 : czero Tryz.prog 138 = some (.nilFunc) := by kernel_rfl
theorem sz139 : szOf Tryz.prog 139 = some 1 := by kernel_rfl
theorem is139 : (Tryz.prog.info? 139).isSome = true := by kernel_rfl
theorem ce139 : Tryz.prog.cellsOf 139 = 1 := by kernel_rfl
theorem ag139 : aggT Tryz.prog 139 = some false := by kernel_rfl
theorem sz140 : szOf Tryz.prog 140 = some 1 := by kernel_rfl
theorem is140 : (Tryz.prog.info? 140).isSome = true := by kernel_rfl
theorem ce140 : Tryz.prog.cellsOf 140 = 1 := by kernel_rfl
theorem ag140 : aggT Tryz.prog 140 = some false := by kernel_rfl
theorem ze140 : czero Tryz.prog 140 = some (.slice none 0 0) := by kernel_rfl
theorem sz141 : szOf Tryz.prog 141 = some 2 := by kernel_rfl
theorem is141 : (Tryz.prog.info? 141).isSome = true := by kernel_rfl
theorem ce141 : Tryz.prog.cellsOf 141 = 2 := by kernel_rfl
theorem ag141 : aggT Tryz.prog 141 = some true := by kernel_rfl
theorem ze141 : czero Tryz.prog 141 = some (.agg #[.map none, .slice none 0 0]) := by kernel_rfl
theorem fa141x0 : faOk Tryz.prog 141 0 = some 0 := by kernel_rfl
theorem fa141x1 : faOk Tryz.prog 141 1 = some 1 := by kernel_rfl
theorem sz142 : szOf Tryz.prog 142 = some 2 := by kernel_rfl
theorem is142 : (Tryz.prog.info? 142).isSome = true := by kernel_rfl
theorem ce142 : Tryz.prog.cellsOf 142 = 2 := by kernel_rfl
theorem ag142 : aggT Tryz.prog 142 = some true := by kernel_rfl
theorem ze142 : czero Tryz.prog 142 = some (.agg #[.map none, .slice none 0 0]) := by kernel_rfl
theorem fa142x0 : faOk Tryz.prog 142 0 = some 0 := by kernel_rfl
theorem fa142x1 : faOk Tryz.prog 142 1 = some 1 := by kernel_rfl
theorem sz143 : szOf Tryz.prog 143 = some 5 := by kernel_rfl
theorem is143 : (Tryz.prog.info? 143).isSome = true := by kernel_rfl
theorem ce143 : Tryz.prog.cellsOf 143 = 5 := by kernel_rfl
theorem ag143 : aggT Tryz.prog 143 = some true := by kernel_rfl
theorem ze143 : czero Tryz.prog 143 = some (.agg #[.string ByteArray.empty, .int .i64 0, .int .i64 0, .string ByteArray.empty, .bool false]) := by kernel_rfl
theorem fa143x0 : faOk Tryz.prog 143 0 = some 0 := by kernel_rfl
theorem fa143x1 : faOk Tryz.prog 143 1 = some 1 := by kernel_rfl
theorem fa143x2 : faOk Tryz.prog 143 2 = some 4 := by kernel_rfl
theorem sz144 : szOf Tryz.prog 144 = some 5 := by kernel_rfl
theorem is144 : (Tryz.prog.info? 144).isSome = true := by kernel_rfl
theorem ce144 : Tryz.prog.cellsOf 144 = 5 := by kernel_rfl
theorem ag144 : aggT Tryz.prog 144 = some true := by kernel_rfl
theorem ze144 : czero Tryz.prog 144 = some (.agg #[.string ByteArray.empty, .int .i64 0, .int .i64 0, .string ByteArray.empty, .bool false]) := by kernel_rfl
theorem fa144x0 : faOk Tryz.prog 144 0 = some 0 := by kernel_rfl
theorem fa144x1 : faOk Tryz.prog 144 1 = some 1 := by kernel_rfl
theorem fa144x2 : faOk Tryz.prog 144 2 = some 4 := by kernel_rfl
theorem sz145 : szOf Tryz.prog 145 = some 1 := by kernel_rfl
theorem is145 : (Tryz.prog.info? 145).isSome = true := by kernel_rfl
theorem ce145 : Tryz.prog.cellsOf 145 = 1 := by kernel_rfl
theorem ag145 : aggT Tryz.prog 145 = some false := by kernel_rfl
theorem ze145 : czero Tryz.prog 145 = some (.nilFunc) := by kernel_rfl
theorem sz146 : szOf Tryz.prog 146 = some 1 := by kernel_rfl
theorem is146 : (Tryz.prog.info? 146).isSome = true := by kernel_rfl
theorem ce146 : Tryz.prog.cellsOf 146 = 1 := by kernel_rfl
theorem ag146 : aggT Tryz.prog 146 = some false := by kernel_rfl
theorem ze146 : czero Tryz.prog 146 = some (.nilFunc) := by kernel_rfl
theorem sz147 : szOf Tryz.prog 147 = some 1 := by kernel_rfl
theorem is147 : (Tryz.prog.info? 147).isSome = true := by kernel_rfl
theorem ce147 : Tryz.prog.cellsOf 147 = 1 := by kernel_rfl
theorem ag147 : aggT Tryz.prog 147 = some false := by kernel_rfl
theorem ze147 : czero Tryz.prog 147 = some (.nilFunc) := by kernel_rfl
theorem sz148 : szOf Tryz.prog 148 = some 5 := by kernel_rfl
theorem is148 : (Tryz.prog.info? 148).isSome = true := by kernel_rfl
theorem ce148 : Tryz.prog.cellsOf 148 = 5 := by kernel_rfl
theorem ag148 : aggT Tryz.prog 148 = some true := by kernel_rfl
theorem ze148 : czero Tryz.prog 148 = some (.agg #[.int .i64 0, .int .i64 0, .int .i64 0, .int .i64 0, .map none]) := by kernel_rfl
theorem fa148x0 : faOk Tryz.prog 148 0 = some 0 := by kernel_rfl
theorem fa148x1 : faOk Tryz.prog 148 1 = some 1 := by kernel_rfl
theorem fa148x2 : faOk Tryz.prog 148 2 = some 2 := by kernel_rfl
theorem fa148x3 : faOk Tryz.prog 148 3 = some 3 := by kernel_rfl
theorem fa148x4 : faOk Tryz.prog 148 4 = some 4 := by kernel_rfl
theorem sz149 : szOf Tryz.prog 149 = some 5 := by kernel_rfl
theorem is149 : (Tryz.prog.info? 149).isSome = true := by kernel_rfl
theorem ce149 : Tryz.prog.cellsOf 149 = 5 := by kernel_rfl
theorem ag149 : aggT Tryz.prog 149 = some true := by kernel_rfl
theorem ze149 : czero Tryz.prog 149 = some (.agg #[.int .i64 0, .int .i64 0, .int .i64 0, .int .i64 0, .map none]) := by kernel_rfl
theorem fa149x0 : faOk Tryz.prog 149 0 = some 0 := by kernel_rfl
theorem fa149x1 : faOk Tryz.prog 149 1 = some 1 := by kernel_rfl
theorem fa149x2 : faOk Tryz.prog 149 2 = some 2 := by kernel_rfl
theorem fa149x3 : faOk Tryz.prog 149 3 = some 3 := by kernel_rfl
theorem fa149x4 : faOk Tryz.prog 149 4 = some 4 := by kernel_rfl
theorem sz150 : szOf Tryz.prog 150 = some 1 := by kernel_rfl
theorem is150 : (Tryz.prog.info? 150).isSome = true := by kernel_rfl
theorem ce150 : Tryz.prog.cellsOf 150 = 1 := by kernel_rfl
theorem ag150 : aggT Tryz.prog 150 = some false := by kernel_rfl
theorem ze150 : czero Tryz.prog 150 = some (.nilFunc) := by kernel_rfl
theorem sz151 : szOf Tryz.prog 151 = some 1 := by kernel_rfl
theorem is151 : (Tryz.prog.info? 151).isSome = true := by kernel_rfl
theorem ce151 : Tryz.prog.cellsOf 151 = 1 := by kernel_rfl
theorem ag151 : aggT Tryz.prog 151 = some false := by kernel_rfl
theorem ze151 : czero Tryz.prog 151 = some (.pointer none) := by kernel_rfl
theorem nt151 {x y : Operand} : cbin Tryz.prog .eql 151 x y (.pointer none) (.pointer none) = some (.bool true) := by kernel_rfl
theorem nn151 {x y : Operand} : cbin Tryz.prog .neq 151 x y (.pointer none) (.pointer none) = some (.bool false) := by kernel_rfl
theorem nf151 {x y : Operand} {a : Addr} : cbin Tryz.prog .eql 151 x y (.pointer (some a)) (.pointer none) = some (.bool false) := by kernel_rfl
theorem ng151 {x y : Operand} {a : Addr} : cbin Tryz.prog .neq 151 x y (.pointer (some a)) (.pointer none) = some (.bool true) := by kernel_rfl
theorem sz152 : szOf Tryz.prog 152 = some 1 := by kernel_rfl
theorem is152 : (Tryz.prog.info? 152).isSome = true := by kernel_rfl
theorem ce152 : Tryz.prog.cellsOf 152 = 1 := by kernel_rfl
theorem ag152 : aggT Tryz.prog 152 = some false := by kernel_rfl
theorem ze152 : czero Tryz.prog 152 = some (.nilFunc) := by kernel_rfl
theorem sz153 : szOf Tryz.prog 153 = some 20 := by kernel_rfl
theorem is153 : (Tryz.prog.info? 153).isSome = true := by kernel_rfl
theorem ce153 : Tryz.prog.cellsOf 153 = 20 := by kernel_rfl
theorem ag153 : aggT Tryz.prog 153 = some true := by kernel_rfl
theorem ze153 : czero Tryz.prog 153 = some (.agg #[.int .u8 0, .int .u8 0, .int .u8 0, .int .u8 0, .int .u8 0, .int .u8 0, .int .u8 0, .int .u8 0, .int .u8 0, .int .u8 0, .int .u8 0, .int .u8 0, .int .u8 0, .int .u8 0, .int .u8 0, .int .u8 0, .int .u8 0, .int .u8 0, .int .u8 0, .int .u8 0]) := by kernel_rfl
theorem sz154 : szOf Tryz.prog 154 = some 1 := by kernel_rfl
theorem is154 : (Tryz.prog.info? 154).isSome = true := by kernel_rfl
theorem ce154 : Tryz.prog.cellsOf 154 = 1 := by kernel_rfl
theorem ag154 : aggT Tryz.prog 154 = some false := by kernel_rfl
theorem ze154 : czero Tryz.prog 154 = some (.int .u64 0) := by kernel_rfl
theorem sz155 : szOf Tryz.prog 155 = some 1 := by kernel_rfl
theorem is155 : (Tryz.prog.info? 155).isSome = true := by kernel_rfl
theorem ce155 : Tryz.prog.cellsOf 155 = 1 := by kernel_rfl
theorem ag155 : aggT Tryz.prog 155 = some false := by kernel_rfl
theorem ze155 : czero Tryz.prog 155 = some (.nilFunc) := by kernel_rfl
theorem sz156 : szOf Tryz.prog 156 = some 1 := by kernel_rfl
theorem is156 : (Tryz.prog.info? 156).isSome = true := by kernel_rfl
theorem ce156 : Tryz.prog.cellsOf 156 = 1 := by kernel_rfl
theorem ag156 : aggT Tryz.prog 156 = some false := by kernel_rfl
theorem ze156 : czero Tryz.prog 156 = some (.pointer none) := by kernel_rfl
theorem nt156 {x y : Operand} : cbin Tryz.prog .eql 156 x y (.pointer none) (.pointer none) = some (.bool true) := by kernel_rfl
theorem nn156 {x y : Operand} : cbin Tryz.prog .neq 156 x y (.pointer none) (.pointer none) = some (.bool false) := by kernel_rfl
theorem nf156 {x y : Operand} {a : Addr} : cbin Tryz.prog .eql 156 x y (.pointer (some a)) (.pointer none) = some (.bool false) := by kernel_rfl
theorem ng156 {x y : Operand} {a : Addr} : cbin Tryz.prog .neq 156 x y (.pointer (some a)) (.pointer none) = some (.bool true) := by kernel_rfl
theorem sz157 : szOf Tryz.prog 157 = some 1 := by kernel_rfl
theorem is157 : (Tryz.prog.info? 157).isSome = true := by kernel_rfl
theorem ce157 : Tryz.prog.cellsOf 157 = 1 := by kernel_rfl
theorem ag157 : aggT Tryz.prog 157 = some false := by kernel_rfl
theorem ze157 : czero Tryz.prog 157 = some (.nilFunc) := by kernel_rfl
theorem sz158 : szOf Tryz.prog 158 = some 2 := by kernel_rfl
theorem is158 : (Tryz.prog.info? 158).isSome = true := by kernel_rfl
theorem ce158 : Tryz.prog.cellsOf 158 = 2 := by kernel_rfl
theorem ag158 : aggT Tryz.prog 158 = some true := by kernel_rfl
theorem ze158 : czero Tryz.prog 158 = some (.agg #[.int .i64 0, .slice none 0 0]) := by kernel_rfl
theorem fa158x0 : faOk Tryz.prog 158 0 = some 0 := by kernel_rfl
theorem fa158x1 : faOk Tryz.prog 158 1 = some 1 := by kernel_rfl
theorem sz159 : szOf Tryz.prog 159 = some 2 := by kernel_rfl
theorem is159 : (Tryz.prog.info? 159).isSome = true := by kernel_rfl
theorem ce159 : Tryz.prog.cellsOf 159 = 2 := by kernel_rfl
theorem ag159 : aggT Tryz.prog 159 = some true := by kernel_rfl
theorem ze159 : czero Tryz.prog 159 = some (.agg #[.int .i64 0, .slice none 0 0]) := by kernel_rfl
theorem fa159x0 : faOk Tryz.prog 159 0 = some 0 := by kernel_rfl
theorem fa159x1 : faOk Tryz.prog 159 1 = some 1 := by kernel_rfl
theorem sz160 : szOf Tryz.prog 160 = some 1 := by kernel_rfl
theorem is160 : (Tryz.prog.info? 160).isSome = true := by kernel_rfl
theorem ce160 : Tryz.prog.cellsOf 160 = 1 := by kernel_rfl
theorem ag160 : aggT Tryz.prog 160 = some false := by kernel_rfl
theorem ze160 : czero Tryz.prog 160 = some (.pointer none) := by kernel_rfl
theorem nt160 {x y : Operand} : cbin Tryz.prog .eql 160 x y (.pointer none) (.pointer none) = some (.bool true) := by kernel_rfl
theorem nn160 {x y : Operand} : cbin Tryz.prog .neq 160 x y (.pointer none) (.pointer none) = some (.bool false) := by kernel_rfl
theorem nf160 {x y : Operand} {a : Addr} : cbin Tryz.prog .eql 160 x y (.pointer (some a)) (.pointer none) = some (.bool false) := by kernel_rfl
theorem ng160 {x y : Operand} {a : Addr} : cbin Tryz.prog .neq 160 x y (.pointer (some a)) (.pointer none) = some (.bool true) := by kernel_rfl
theorem sz161 : szOf Tryz.prog 161 = some 1 := by kernel_rfl
theorem is161 : (Tryz.prog.info? 161).isSome = true := by kernel_rfl
theorem ce161 : Tryz.prog.cellsOf 161 = 1 := by kernel_rfl
theorem ag161 : aggT Tryz.prog 161 = some false := by kernel_rfl
theorem ze161 : czero Tryz.prog 161 = some (.nilFunc) := by kernel_rfl
theorem sz162 : szOf Tryz.prog 162 = some 1 := by kernel_rfl
theorem is162 : (Tryz.prog.info? 162).isSome = true := by kernel_rfl
theorem ce162 : Tryz.prog.cellsOf 162 = 1 := by kernel_rfl
theorem ag162 : aggT Tryz.prog 162 = some false := by kernel_rfl
theorem ze162 : czero Tryz.prog 162 = some (.pointer none) := by kernel_rfl
theorem nt162 {x y : Operand} : cbin Tryz.prog .eql 162 x y (.pointer none) (.pointer none) = some (.bool true) := by kernel_rfl
theorem nn162 {x y : Operand} : cbin Tryz.prog .neq 162 x y (.pointer none) (.pointer none) = some (.bool false) := by kernel_rfl
theorem nf162 {x y : Operand} {a : Addr} : cbin Tryz.prog .eql 162 x y (.pointer (some a)) (.pointer none) = some (.bool false) := by kernel_rfl
theorem ng162 {x y : Operand} {a : Addr} : cbin Tryz.prog .neq 162 x y (.pointer (some a)) (.pointer none) = some (.bool true) := by kernel_rfl
theorem sz163 : szOf Tryz.prog 163 = some 1 := by kernel_rfl
theorem is163 : (Tryz.prog.info? 163).isSome = true := by kernel_rfl
theorem ce163 : Tryz.prog.cellsOf 163 = 1 := by kernel_rfl
theorem ag163 : aggT Tryz.prog 163 = some false := by kernel_rfl
theorem ze163 : czero Tryz.prog 163 = some (.nilFunc) := by kernel_rfl
theorem sz164 : szOf Tryz.prog 164 = some 1 := by kernel_rfl
theorem is164 : (Tryz.prog.info? 164).isSome = true := by kernel_rfl
theorem ce164 : Tryz.prog.cellsOf 164 = 1 := by kernel_rfl
theorem ag164 : aggT Tryz.prog 164 = some false := by kernel_rfl
theorem ze164 : czero Tryz.prog 164 = some (.nilFunc) := by kernel_rfl
theorem sz165 : szOf Tryz.prog 165 = some 1 := by kernel_rfl
theorem is165 : (Tryz.prog.info? 165).isSome = true := by kernel_rfl
theorem ce165 : Tryz.prog.cellsOf 165 = 1 := by kernel_rfl
theorem ag165 : aggT Tryz.prog 165 = some false := by kernel_rfl
theorem ze165 : czero Tryz.prog 165 = some (.nilFunc) := by kernel_rfl
theorem sz166 : szOf Tryz.prog 166 = some 1 := by kernel_rfl
theorem is166 : (Tryz.prog.info? 166).isSome = true := by kernel_rfl
theorem ce166 : Tryz.prog.cellsOf 166 = 1 := by kernel_rfl
theorem ag166 : aggT Tryz.prog 166 = some false := by kernel_rfl
theorem ze166 : czero Tryz.prog 166 = some (.nilFunc) := by kernel_rfl
theorem sz167 : szOf Tryz.prog 167 = some 1 := by kernel_rfl
theorem is167 : (Tryz.prog.info? 167).isSome = true := by kernel_rfl
theorem ce167 : Tryz.prog.cellsOf 167 = 1 := by kernel_rfl
theorem ag167 : aggT Tryz.prog 167 = some false := by kernel_rfl
theorem ze167 : czero Tryz.prog 167 = some (.pointer none) := by kernel_rfl
theorem sz168 : szOf Tryz.prog 168 = some 1 := by kernel_rfl
theorem is168 : (Tryz.prog.info? 168).isSome = true := by kernel_rfl
theorem ce168 : Tryz.prog.cellsOf 168 = 1 := by kernel_rfl
theorem ag168 : aggT Tryz.prog 168 = some false := by kernel_rfl
theorem ze168 : czero Tryz.prog 168 = some (.nilFunc) := by kernel_rfl
theorem sz169 : szOf Tryz.prog 169 = some 1 := by kernel_rfl
theorem is169 : (Tryz.prog.info? 169).isSome = true := by kernel_rfl
theorem ce169 : Tryz.prog.cellsOf 169 = 1 := by kernel_rfl
theorem ag169 : aggT Tryz.prog 169 = some false := by kernel_rfl
theorem ze169 : czero Tryz.prog 169 = some (.nilFunc) := by kernel_rfl
theorem sz170 : szOf Tryz.prog 170 = some 1 := by kernel_rfl
theorem is170 : (Tryz.prog.info? 170).isSome = true := by kernel_rfl
theorem ce170 : Tryz.prog.cellsOf 170 = 1 := by kernel_rfl
theorem ag170 : aggT Tryz.prog 170 = some false := by kernel_rfl
theorem ze170 : czero Tryz.prog 170 = some (.int .u64 0) := by kernel_rfl
theorem sz171 : szOf Tryz.prog 171 = some 1 := by kernel_rfl
theorem is171 : (Tryz.prog.info? 171).isSome = true := by kernel_rfl
theorem ce171 : Tryz.prog.cellsOf 171 = 1 := by kernel_rfl
theorem ag171 : aggT Tryz.prog 171 = some false := by kernel_rfl
theorem ze171 : czero Tryz.prog 171 = some (.nilFunc) := by kernel_rfl
theorem sz172 : szOf Tryz.prog 172 = some 4 := by kernel_rfl
theorem is172 : (Tryz.prog.info? 172).isSome = true := by kernel_rfl
theorem ce172 : Tryz.prog.cellsOf 172 = 4 := by kernel_rfl
theorem ag172 : aggT Tryz.prog 172 = some true := by kernel_rfl
theorem ze172 : czero Tryz.prog 172 = some (.agg #[.pointer none, .pointer none, .pointer none, .string ByteArray.empty]) := by kernel_rfl
theorem fa172x0 : faOk Tryz.prog 172 0 = some 0 := by kernel_rfl
theorem fa172x1 : faOk Tryz.prog 172 1 = some 1 := by kernel_rfl
theorem fa172x2 : faOk Tryz.prog 172 2 = some 2 := by kernel_rfl
theorem fa172x3 : faOk Tryz.prog 172 3 = some 3 := by kernel_rfl
theorem sz173 : szOf Tryz.prog 173 = some 4 := by kernel_rfl
theorem is173 : (Tryz.prog.info? 173).isSome = true := by kernel_rfl
theorem ce173 : Tryz.prog.cellsOf 173 = 4 := by kernel_rfl
theorem ag173 : aggT Tryz.prog 173 = some true := by kernel_rfl
theorem ze173 : czero Tryz.prog 173 = some (.agg #[.pointer none, .pointer none, .pointer none, .string ByteArray.empty]) := by kernel_rfl
theorem fa173x0 : faOk Tryz.prog 173 0 = some 0 := by kernel_rfl
theorem fa173x1 : faOk Tryz.prog 173 1 = some 1 := by kernel_rfl
theorem fa173x2 : faOk Tryz.prog 173 2 = some 2 := by kernel_rfl
theorem fa173x3 : faOk Tryz.prog 173 3 = some 3 := by kernel_rfl
theorem sz174 : szOf Tryz.prog 174 = some 0 := by kernel_rfl
theorem is174 : (Tryz.prog.info? 174).isSome = true := by kernel_rfl
theorem ce174 : Tryz.prog.cellsOf 174 = 0 := by kernel_rfl
theorem ag174 : aggT Tryz.prog 174 = some true := by kernel_rfl
theorem ze174 : czero Tryz.prog 174 = some (.agg #[]) := by kernel_rfl
theorem sz175 : szOf Tryz.prog 175 = some 0 := by kernel_rfl
theorem is175 : (Tryz.prog.info? 175).isSome = true := by kernel_rfl
theorem ce175 : Tryz.prog.cellsOf 175 = 0 := by kernel_rfl
theorem ag175 : aggT Tryz.prog 175 = some true := by kernel_rfl
theorem ze175 : czero Tryz.prog 175 = some (.agg #[]) := by kernel_rfl
theorem sz176 : szOf Tryz.prog 176 = some 0 := by kernel_rfl
theorem is176 : (Tryz.prog.info? 176).isSome = true := by kernel_rfl
theorem ce176 : Tryz.prog.cellsOf 176 = 0 := by kernel_rfl
theorem ag176 : aggT Tryz.prog 176 = some true := by kernel_rfl
theorem ze176 : czero Tryz.prog 176 = some (.agg #[]) := by kernel_rfl
theorem sz177 : szOf Tryz.prog 177 = some 1 := by kernel_rfl
theorem is177 : (Tryz.prog.info? 177).isSome = true := by kernel_rfl
theorem ce177 : Tryz.prog.cellsOf 177 = 1 := by kernel_rfl
theorem ag177 : aggT Tryz.prog 177 = some false := by kernel_rfl
theorem ze177 : czero Tryz.prog 177 = some (.int .u32 0) := by kernel_rfl
theorem sz178 : szOf Tryz.prog 178 = some 1 := by kernel_rfl
theorem is178 : (Tryz.prog.info? 178).isSome = true := by kernel_rfl
theorem ce178 : Tryz.prog.cellsOf 178 = 1 := by kernel_rfl
theorem ag178 : aggT Tryz.prog 178 = some false := by kernel_rfl
theorem ze178 : czero Tryz.prog 178 = some (.int .u8 0) := by kernel_rfl
theorem sz179 : szOf Tryz.prog 179 = some 1 := by kernel_rfl
theorem is179 : (Tryz.prog.info? 179).isSome = true := by kernel_rfl
theorem ce179 : Tryz.prog.cellsOf 179 = 1 := by kernel_rfl
theorem ag179 : aggT Tryz.prog 179 = some false := by kernel_rfl
theorem ze179 : czero Tryz.prog 179 = some (.int .u8 0) := by kernel_rfl
theorem sz180 : szOf Tryz.prog 180 = some 1 := by kernel_rfl
theorem is180 : (Tryz.prog.info? 180).isSome = true := by kernel_rfl
theorem ce180 : Tryz.prog.cellsOf 180 = 1 := by kernel_rfl
theorem ag180 : aggT Tryz.prog 180 = some false := by kernel_rfl
theorem ze180 : czero Tryz.prog 180 = some (.nilFunc) := by kernel_rfl
theorem sz181 : szOf Tryz.prog 181 = some 1 := by kernel_rfl
theorem is181 : (Tryz.prog.info? 181).isSome = true := by kernel_rfl
theorem ce181 : Tryz.prog.cellsOf 181 = 1 := by kernel_rfl
theorem ag181 : aggT Tryz.prog 181 = some false := by kernel_rfl
theorem ze181 : czero Tryz.prog 181 = some (.int .i32 0) := by kernel_rfl
theorem sz182 : szOf Tryz.prog 182 = some 1 := by kernel_rfl
theorem is182 : (Tryz.prog.info? 182).isSome = true := by kernel_rfl
theorem ce182 : Tryz.prog.cellsOf 182 = 1 := by kernel_rfl
theorem ag182 : aggT Tryz.prog 182 = some false := by kernel_rfl
theorem ze182 : czero Tryz.prog 182 = some (.int .i32 0) := by kernel_rfl
theorem sz183 : szOf Tryz.prog 183 = some 11 := by kernel_rfl
theorem is183 : (Tryz.prog.info? 183).isSome = true := by kernel_rfl
theorem ce183 : Tryz.prog.cellsOf 183 = 11 := by kernel_rfl
theorem ag183 : aggT Tryz.prog 183 = some true := by kernel_rfl
theorem ze183 : czero Tryz.prog 183 = some (.agg #[.int .u64 0, .int .u64 0, .int .u32 0, .int .u8 0, .int .u8 0, .int .u8 0, .int .u8 0, .nilFunc, .pointer none, .int .i32 0, .int .i32 0]) := by kernel_rfl
theorem fa183x0 : faOk Tryz.prog 183 0 = some 0 := by kernel_rfl
theorem fa183x1 : faOk Tryz.prog 183 1 = some 1 := by kernel_rfl
theorem fa183x2 : faOk Tryz.prog 183 2 = some 2 := by kernel_rfl
theorem fa183x3 : faOk Tryz.prog 183 3 = some 3 := by kernel_rfl
theorem fa183x4 : faOk Tryz.prog 183 4 = some 4 := by kernel_rfl
theorem fa183x5 : faOk Tryz.prog 183 5 = some 5 := by kernel_rfl
theorem fa183x6 : faOk Tryz.prog 183 6 = some 6 := by kernel_rfl
theorem fa183x7 : faOk Tryz.prog 183 7 = some 7 := by kernel_rfl
theorem fa183x8 : faOk Tryz.prog 183 8 = some 8 := by kernel_rfl
theorem fa183x9 : faOk Tryz.prog 183 9 = some 9 := by kernel_rfl
theorem fa183x10 : faOk Tryz.prog 183 10 = some 10 := by kernel_rfl
theorem sz184 : szOf Tryz.prog 184 = some 11 := by kernel_rfl
theorem is184 : (Tryz.prog.info? 184).isSome = true := by kernel_rfl
theorem ce184 : Tryz.prog.cellsOf 184 = 11 := by kernel_rfl
theorem ag184 : aggT Tryz.prog 184 = some true := by kernel_rfl
theorem ze184 : czero Tryz.prog 184 = some (.agg #[.int .u64 0, .int .u64 0, .int .u32 0, .int .u8 0, .int .u8 0, .int .u8 0, .int .u8 0, .nilFunc, .pointer none, .int .i32 0, .int .i32 0]) := by kernel_rfl
theorem fa184x0 : faOk Tryz.prog 184 0 = some 0 := by kernel_rfl
theorem fa184x1 : faOk Tryz.prog 184 1 = some 1 := by kernel_rfl
theorem fa184x2 : faOk Tryz.prog 184 2 = some 2 := by kernel_rfl
theorem fa184x3 : faOk Tryz.prog 184 3 = some 3 := by kernel_rfl
theorem fa184x4 : faOk Tryz.prog 184 4 = some 4 := by kernel_rfl
theorem fa184x5 : faOk Tryz.prog 184 5 = some 5 := by kernel_rfl
theorem fa184x6 : faOk Tryz.prog 184 6 = some 6 := by kernel_rfl
theorem fa184x7 : faOk Tryz.prog 184 7 = some 7 := by kernel_rfl
theorem fa184x8 : faOk Tryz.prog 184 8 = some 8 := by kernel_rfl
theorem fa184x9 : faOk Tryz.prog 184 9 = some 9 := by kernel_rfl
theorem fa184x10 : faOk Tryz.prog 184 10 = some 10 := by kernel_rfl
end Go.Proofs.Tryz
