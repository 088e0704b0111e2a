/- Facts on the types of the program: sizes, places of fields, zero values. Written by program (types.py). A lemma file: no statement of its own. -/
import Derived.Test.YtakgfhdaimeafaaChecked
import Derived.Test.YtakgfhdaimeafaaFwE
set_option linter.unusedSimpArgs false
set_option linter.unusedVariables false
namespace Go.Proofs.Try
open Go.Cs
theorem sz0 : szOf Try.prog 0 = some 1 := by kernel_rfl
theorem is0 : (Try.prog.info? 0).isSome = true := by kernel_rfl
theorem ce0 : Try.prog.cellsOf 0 = 1 := by kernel_rfl
theorem ag0 : aggT Try.prog 0 = some false := by kernel_rfl
theorem sz1 : szOf Try.prog 1 = some 1 := by kernel_rfl
theorem is1 : (Try.prog.info? 1).isSome = true := by kernel_rfl
theorem ce1 : Try.prog.cellsOf 1 = 1 := by kernel_rfl
theorem ag1 : aggT Try.prog 1 = some false := by kernel_rfl
theorem ze1 : czero Try.prog 1 = some (.nilFunc) := by kernel_rfl
theorem sz2 : szOf Try.prog 2 = some 1 := by kernel_rfl
theorem is2 : (Try.prog.info? 2).isSome = true := by kernel_rfl
theorem ce2 : Try.prog.cellsOf 2 = 1 := by kernel_rfl
theorem ag2 : aggT Try.prog 2 = some false := by kernel_rfl
theorem ze2 : czero Try.prog 2 = some (.int .i64 0) := by kernel_rfl
theorem sz3 : szOf Try.prog 3 = some 1 := by kernel_rfl
theorem is3 : (Try.prog.info? 3).isSome = true := by kernel_rfl
theorem ce3 : Try.prog.cellsOf 3 = 1 := by kernel_rfl
theorem ag3 : aggT Try.prog 3 = some false := by kernel_rfl
theorem ze3 : czero Try.prog 3 = some (.int .i64 0) := by kernel_rfl
theorem sz4 : szOf Try.prog 4 = some 1 := by kernel_rfl
theorem is4 : (Try.prog.info? 4).isSome = true := by kernel_rfl
theorem ce4 : Try.prog.cellsOf 4 = 1 := by kernel_rfl
theorem ag4 : aggT Try.prog 4 = some false := by kernel_rfl
theorem ze4 : czero Try.prog 4 = some (.bool false) := by kernel_rfl
theorem be4 {x y : Operand} {a b : Bool} : cbin Try.prog .eql 4 x y (.bool a) (.bool b) = some (.bool (a == b)) := by kernel_rfl
theorem bn4 {x y : Operand} {a b : Bool} : cbin Try.prog .neq 4 x y (.bool a) (.bool b) = some (.bool (!(a == b))) := by kernel_rfl
theorem sz5 : szOf Try.prog 5 = some 1 := by kernel_rfl
theorem is5 : (Try.prog.info? 5).isSome = true := by kernel_rfl
theorem ce5 : Try.prog.cellsOf 5 = 1 := by kernel_rfl
theorem ag5 : aggT Try.prog 5 = some false := by kernel_rfl
theorem ze5 : czero Try.prog 5 = some (.int .u8 0) := by kernel_rfl
theorem sz6 : szOf Try.prog 6 = some 1 := by kernel_rfl
theorem is6 : (Try.prog.info? 6).isSome = true := by kernel_rfl
theorem ce6 : Try.prog.cellsOf 6 = 1 := by kernel_rfl
theorem ag6 : aggT Try.prog 6 = some false := by kernel_rfl
theorem ze6 : czero Try.prog 6 = some (.int .u8 0) := by kernel_rfl
theorem sz7 : szOf Try.prog 7 = some 4 := by kernel_rfl
theorem is7 : (Try.prog.info? 7).isSome = true := by kernel_rfl
theorem ce7 : Try.prog.cellsOf 7 = 4 := by kernel_rfl
theorem ag7 : aggT Try.prog 7 = some true := by kernel_rfl
theorem ze7 : czero Try.prog 7 = some (.agg #[.int .i64 0, .int .i64 0, .bool false, .int .u8 0]) := by kernel_rfl
theorem fa7x0 : faOk Try.prog 7 0 = some 0 := by kernel_rfl
theorem fa7x1 : faOk Try.prog 7 1 = some 1 := by kernel_rfl
theorem fa7x2 : faOk Try.prog 7 2 = some 2 := by kernel_rfl
theorem fa7x3 : faOk Try.prog 7 3 = some 3 := by kernel_rfl
theorem sz8 : szOf Try.prog 8 = some 4 := by kernel_rfl
theorem is8 : (Try.prog.info? 8).isSome = true := by kernel_rfl
theorem ce8 : Try.prog.cellsOf 8 = 4 := by kernel_rfl
theorem ag8 : aggT Try.prog 8 = some true := by kernel_rfl
theorem ze8 : czero Try.prog 8 = some (.agg #[.int .i64 0, .int .i64 0, .bool false, .int .u8 0]) := by kernel_rfl
theorem fa8x0 : faOk Try.prog 8 0 = some 0 := by kernel_rfl
theorem fa8x1 : faOk Try.prog 8 1 = some 1 := by kernel_rfl
theorem fa8x2 : faOk Try.prog 8 2 = some 2 := by kernel_rfl
theorem fa8x3 : faOk Try.prog 8 3 = some 3 := by kernel_rfl
theorem sz9 : szOf Try.prog 9 = some 1 := by kernel_rfl
theorem is9 : (Try.prog.info? 9).isSome = true := by kernel_rfl
theorem ce9 : Try.prog.cellsOf 9 = 1 := by kernel_rfl
theorem ag9 : aggT Try.prog 9 = some false := by kernel_rfl
theorem ze9 : czero Try.prog 9 = some (.string ByteArray.empty) := by kernel_rfl
theorem sz10 : szOf Try.prog 10 = some 1 := by kernel_rfl
theorem is10 : (Try.prog.info? 10).isSome = true := by kernel_rfl
theorem ce10 : Try.prog.cellsOf 10 = 1 := by kernel_rfl
theorem ag10 : aggT Try.prog 10 = some false := by kernel_rfl
theorem ze10 : czero Try.prog 10 = some (.string ByteArray.empty) := by kernel_rfl
theorem sz11 : szOf Try.prog 11 = some 1 := by kernel_rfl
theorem is11 : (Try.prog.info? 11).isSome = true := by kernel_rfl
theorem ce11 : Try.prog.cellsOf 11 = 1 := by kernel_rfl
theorem ag11 : aggT Try.prog 11 = some false := by kernel_rfl
theorem ze11 : czero Try.prog 11 = some (.string ByteArray.empty) := by kernel_rfl
theorem sz12 : szOf Try.prog 12 = some 1 := by kernel_rfl
theorem is12 : (Try.prog.info? 12).isSome = true := by kernel_rfl
theorem ce12 : Try.prog.cellsOf 12 = 1 := by kernel_rfl
theorem ag12 : aggT Try.prog 12 = some false := by kernel_rfl
theorem ze12 : czero Try.prog 12 = some (.int .u64 0) := by kernel_rfl
theorem sz13 : szOf Try.prog 13 = some 2 := by kernel_rfl
theorem is13 : (Try.prog.info? 13).isSome = true := by kernel_rfl
theorem ce13 : Try.prog.cellsOf 13 = 2 := by kernel_rfl
theorem ag13 : aggT Try.prog 13 = some true := by kernel_rfl
theorem ze13 : czero Try.prog 13 = some (.agg #[.string ByteArray.empty, .int .u64 0]) := by kernel_rfl
theorem fa13x0 : faOk Try.prog 13 0 = some 0 := by kernel_rfl
theorem fa13x1 : faOk Try.prog 13 1 = some 1 := by kernel_rfl
theorem sz14 : szOf Try.prog 14 = some 2 := by kernel_rfl
theorem is14 : (Try.prog.info? 14).isSome = true := by kernel_rfl
theorem ce14 : Try.prog.cellsOf 14 = 2 := by kernel_rfl
theorem ag14 : aggT Try.prog 14 = some true := by kernel_rfl
theorem ze14 : czero Try.prog 14 = some (.agg #[.string ByteArray.empty, .int .u64 0]) := by kernel_rfl
theorem fa14x0 : faOk Try.prog 14 0 = some 0 := by kernel_rfl
theorem fa14x1 : faOk Try.prog 14 1 = some 1 := by kernel_rfl
theorem sz15 : szOf Try.prog 15 = some 1 := by kernel_rfl
theorem is15 : (Try.prog.info? 15).isSome = true := by kernel_rfl
theorem ce15 : Try.prog.cellsOf 15 = 1 := by kernel_rfl
theorem ag15 : aggT Try.prog 15 = some false := by kernel_rfl
theorem ze15 : czero Try.prog 15 = some (.pointer none) := by kernel_rfl
theorem nt15 {x y : Operand} : cbin Try.prog .eql 15 x y (.pointer none) (.pointer none) = some (.bool true) := by kernel_rfl
theorem nn15 {x y : Operand} : cbin Try.prog .neq 15 x y (.pointer none) (.pointer none) = some (.bool false) := by kernel_rfl
theorem nf15 {x y : Operand} {a : Addr} : cbin Try.prog .eql 15 x y (.pointer (some a)) (.pointer none) = some (.bool false) := by kernel_rfl
theorem ng15 {x y : Operand} {a : Addr} : cbin Try.prog .neq 15 x y (.pointer (some a)) (.pointer none) = some (.bool true) := by kernel_rfl
theorem sz16 : szOf Try.prog 16 = some 1 := by kernel_rfl
theorem is16 : (Try.prog.info? 16).isSome = true := by kernel_rfl
theorem ce16 : Try.prog.cellsOf 16 = 1 := by kernel_rfl
theorem ag16 : aggT Try.prog 16 = some false := by kernel_rfl
theorem ze16 : czero Try.prog 16 = some (.pointer none) := by kernel_rfl
theorem nt16 {x y : Operand} : cbin Try.prog .eql 16 x y (.pointer none) (.pointer none) = some (.bool true) := by kernel_rfl
theorem nn16 {x y : Operand} : cbin Try.prog .neq 16 x y (.pointer none) (.pointer none) = some (.bool false) := by kernel_rfl
theorem nf16 {x y : Operand} {a : Addr} : cbin Try.prog .eql 16 x y (.pointer (some a)) (.pointer none) = some (.bool false) := by kernel_rfl
theorem ng16 {x y : Operand} {a : Addr} : cbin Try.prog .neq 16 x y (.pointer (some a)) (.pointer none) = some (.bool true) := by kernel_rfl
theorem sz17 : szOf Try.prog 17 = some 1 := by kernel_rfl
theorem is17 : (Try.prog.info? 17).isSome = true := by kernel_rfl
theorem ce17 : Try.prog.cellsOf 17 = 1 := by kernel_rfl
theorem ag17 : aggT Try.prog 17 = some false := by kernel_rfl
theorem ze17 : czero Try.prog 17 = some (.pointer none) := by kernel_rfl
theorem nt17 {x y : Operand} : cbin Try.prog .eql 17 x y (.pointer none) (.pointer none) = some (.bool true) := by kernel_rfl
theorem nn17 {x y : Operand} : cbin Try.prog .neq 17 x y (.pointer none) (.pointer none) = some (.bool false) := by kernel_rfl
theorem nf17 {x y : Operand} {a : Addr} : cbin Try.prog .eql 17 x y (.pointer (some a)) (.pointer none) = some (.bool false) := by kernel_rfl
theorem ng17 {x y : Operand} {a : Addr} : cbin Try.prog .neq 17 x y (.pointer (some a)) (.pointer none) = some (.bool true) := by kernel_rfl
theorem sz18 : szOf Try.prog 18 = some 1 := by kernel_rfl
theorem is18 : (Try.prog.info? 18).isSome = true := by kernel_rfl
theorem ce18 : Try.prog.cellsOf 18 = 1 := by kernel_rfl
theorem ag18 : aggT Try.prog 18 = some true := by kernel_rfl
theorem ze18 : czero Try.prog 18 = some (.agg #[.pointer none]) := by kernel_rfl
theorem fa18x0 : faOk Try.prog 18 0 = some 0 := by kernel_rfl
theorem sz19 : szOf Try.prog 19 = some 1 := by kernel_rfl
theorem is19 : (Try.prog.info? 19).isSome = true := by kernel_rfl
theorem ce19 : Try.prog.cellsOf 19 = 1 := by kernel_rfl
theorem ag19 : aggT Try.prog 19 = some true := by kernel_rfl
theorem ze19 : czero Try.prog 19 = some (.agg #[.pointer none]) := by kernel_rfl
theorem fa19x0 : faOk Try.prog 19 0 = some 0 := by kernel_rfl
theorem sz20 : szOf Try.prog 20 = some 1 := by kernel_rfl
theorem is20 : (Try.prog.info? 20).isSome = true := by kernel_rfl
theorem ce20 : Try.prog.cellsOf 20 = 1 := by kernel_rfl
theorem ag20 : aggT Try.prog 20 = some false := by kernel_rfl
theorem ze20 : czero Try.prog 20 = some (.nilIface) := by kernel_rfl
theorem sz21 : szOf Try.prog 21 = some 1 := by kernel_rfl
theorem is21 : (Try.prog.info? 21).isSome = true := by kernel_rfl
theorem ce21 : Try.prog.cellsOf 21 = 1 := by kernel_rfl
theorem ag21 : aggT Try.prog 21 = some false := by kernel_rfl
theorem ze21 : czero Try.prog 21 = some (.int .i32 0) := by kernel_rfl
theorem sz22 : szOf Try.prog 22 = some 1 := by kernel_rfl
theorem is22 : (Try.prog.info? 22).isSome = true := by kernel_rfl
theorem ce22 : Try.prog.cellsOf 22 = 1 := by kernel_rfl
theorem ag22 : aggT Try.prog 22 = some false := by kernel_rfl
theorem ze22 : czero Try.prog 22 = some (.slice none 0 0) := by kernel_rfl
theorem sz23 : szOf Try.prog 23 = some 4 := by kernel_rfl
theorem is23 : (Try.prog.info? 23).isSome = true := by kernel_rfl
theorem ce23 : Try.prog.cellsOf 23 = 4 := by kernel_rfl
theorem ag23 : aggT Try.prog 23 = some true := by kernel_rfl
theorem ze23 : czero Try.prog 23 = some (.agg #[.int .i64 0, .int .i64 0, .int .i64 0, .int .i64 0]) := by kernel_rfl
theorem fa23x0 : faOk Try.prog 23 0 = some 0 := by kernel_rfl
theorem fa23x1 : faOk Try.prog 23 1 = some 1 := by kernel_rfl
theorem fa23x2 : faOk Try.prog 23 2 = some 2 := by kernel_rfl
theorem fa23x3 : faOk Try.prog 23 3 = some 3 := by kernel_rfl
theorem sz24 : szOf Try.prog 24 = some 4 := by kernel_rfl
theorem is24 : (Try.prog.info? 24).isSome = true := by kernel_rfl
theorem ce24 : Try.prog.cellsOf 24 = 4 := by kernel_rfl
theorem ag24 : aggT Try.prog 24 = some true := by kernel_rfl
theorem ze24 : czero Try.prog 24 = some (.agg #[.int .i64 0, .int .i64 0, .int .i64 0, .int .i64 0]) := by kernel_rfl
theorem fa24x0 : faOk Try.prog 24 0 = some 0 := by kernel_rfl
theorem fa24x1 : faOk Try.prog 24 1 = some 1 := by kernel_rfl
theorem fa24x2 : faOk Try.prog 24 2 = some 2 := by kernel_rfl
theorem fa24x3 : faOk Try.prog 24 3 = some 3 := by kernel_rfl
theorem sz25 : szOf Try.prog 25 = some 1 := by kernel_rfl
theorem is25 : (Try.prog.info? 25).isSome = true := by kernel_rfl
theorem ce25 : Try.prog.cellsOf 25 = 1 := by kernel_rfl
theorem ag25 : aggT Try.prog 25 = some false := by kernel_rfl
theorem ze25 : czero Try.prog 25 = some (.pointer none) := by kernel_rfl
theorem nt25 {x y : Operand} : cbin Try.prog .eql 25 x y (.pointer none) (.pointer none) = some (.bool true) := by kernel_rfl
theorem nn25 {x y : Operand} : cbin Try.prog .neq 25 x y (.pointer none) (.pointer none) = some (.bool false) := by kernel_rfl
theorem nf25 {x y : Operand} {a : Addr} : cbin Try.prog .eql 25 x y (.pointer (some a)) (.pointer none) = some (.bool false) := by kernel_rfl
theorem ng25 {x y : Operand} {a : Addr} : cbin Try.prog .neq 25 x y (.pointer (some a)) (.pointer none) = some (.bool true) := by kernel_rfl
theorem sz26 : szOf Try.prog 26 = some 1 := by kernel_rfl
theorem is26 : (Try.prog.info? 26).isSome = true := by kernel_rfl
theorem ce26 : Try.prog.cellsOf 26 = 1 := by kernel_rfl
theorem ag26 : aggT Try.prog 26 = some false := by kernel_rfl
theorem ze26 : czero Try.prog 26 = some (.nilFunc) := by kernel_rfl
theorem sz27 : szOf Try.prog 27 = some 3 := by kernel_rfl
theorem is27 : (Try.prog.info? 27).isSome = true := by kernel_rfl
theorem ce27 : Try.prog.cellsOf 27 = 3 := by kernel_rfl
theorem ag27 : aggT Try.prog 27 = some true := by kernel_rfl
theorem ze27 : czero Try.prog 27 = some (.agg #[.int .i64 0, .int .i64 0, .string ByteArray.empty]) := by kernel_rfl
theorem fa27x0 : faOk Try.prog 27 0 = some 0 := by kernel_rfl
theorem fa27x1 : faOk Try.prog 27 1 = some 1 := by kernel_rfl
theorem fa27x2 : faOk Try.prog 27 2 = some 2 := by kernel_rfl
theorem sz28 : szOf Try.prog 28 = some 3 := by kernel_rfl
theorem is28 : (Try.prog.info? 28).isSome = true := by kernel_rfl
theorem ce28 : Try.prog.cellsOf 28 = 3 := by kernel_rfl
theorem ag28 : aggT Try.prog 28 = some true := by kernel_rfl
theorem ze28 : czero Try.prog 28 = some (.agg #[.int .i64 0, .int .i64 0, .string ByteArray.empty]) := by kernel_rfl
theorem fa28x0 : faOk Try.prog 28 0 = some 0 := by kernel_rfl
theorem fa28x1 : faOk Try.prog 28 1 = some 1 := by kernel_rfl
theorem fa28x2 : faOk Try.prog 28 2 = some 2 := by kernel_rfl
theorem sz29 : szOf Try.prog 29 = some 7 := by kernel_rfl
theorem is29 : (Try.prog.info? 29).isSome = true := by kernel_rfl
theorem ce29 : Try.prog.cellsOf 29 = 7 := by kernel_rfl
theorem ag29 : aggT Try.prog 29 = some true := by kernel_rfl
theorem ze29 : czero Try.prog 29 = some (.agg #[.int .i64 0, .int .i64 0, .int .i64 0, .string ByteArray.empty, .int .i64 0, .int .i64 0, .string ByteArray.empty]) := by kernel_rfl
theorem fa29x0 : faOk Try.prog 29 0 = some 0 := by kernel_rfl
theorem fa29x1 : faOk Try.prog 29 1 = some 1 := by kernel_rfl
theorem fa29x2 : faOk Try.prog 29 2 = some 2 := by kernel_rfl
theorem fa29x3 : faOk Try.prog 29 3 = some 3 := by kernel_rfl
theorem fa29x4 : faOk Try.prog 29 4 = some 4 := by kernel_rfl
theorem sz30 : szOf Try.prog 30 = some 7 := by kernel_rfl
theorem is30 : (Try.prog.info? 30).isSome = true := by kernel_rfl
theorem ce30 : Try.prog.cellsOf 30 = 7 := by kernel_rfl
theorem ag30 : aggT Try.prog 30 = some true := by kernel_rfl
theorem ze30 : czero Try.prog 30 = some (.agg #[.int .i64 0, .int .i64 0, .int .i64 0, .string ByteArray.empty, .int .i64 0, .int .i64 0, .string ByteArray.empty]) := by kernel_rfl
theorem fa30x0 : faOk Try.prog 30 0 = some 0 := by kernel_rfl
theorem fa30x1 : faOk Try.prog 30 1 = some 1 := by kernel_rfl
theorem fa30x2 : faOk Try.prog 30 2 = some 2 := by kernel_rfl
theorem fa30x3 : faOk Try.prog 30 3 = some 3 := by kernel_rfl
theorem fa30x4 : faOk Try.prog 30 4 = some 4 := by kernel_rfl
theorem sz31 : szOf Try.prog 31 = some 1 := by kernel_rfl
theorem is31 : (Try.prog.info? 31).isSome = true := by kernel_rfl
theorem ce31 : Try.prog.cellsOf 31 = 1 := by kernel_rfl
theorem ag31 : aggT Try.prog 31 = some false := by kernel_rfl
theorem ze31 : czero Try.prog 31 = some (.nilFunc) := by kernel_rfl
theorem sz32 : szOf Try.prog 32 = some 1 := by kernel_rfl
theorem is32 : (Try.prog.info? 32).isSome = true := by kernel_rfl
theorem ce32 : Try.prog.cellsOf 32 = 1 := by kernel_rfl
theorem ag32 : aggT Try.prog 32 = some false := by kernel_rfl
theorem ze32 : czero Try.prog 32 = some (.nilFunc) := by kernel_rfl
theorem sz33 : szOf Try.prog 33 = some 1 := by kernel_rfl
theorem is33 : (Try.prog.info? 33).isSome = true := by kernel_rfl
theorem ce33 : Try.prog.cellsOf 33 = 1 := by kernel_rfl
theorem ag33 : aggT Try.prog 33 = some false := by kernel_rfl
theorem ze33 : czero Try.prog 33 = some (.int .i64 0) := by kernel_rfl
theorem sz34 : szOf Try.prog 34 = some 1 := by kernel_rfl
theorem is34 : (Try.prog.info? 34).isSome = true := by kernel_rfl
theorem ce34 : Try.prog.cellsOf 34 = 1 := by kernel_rfl
theorem ag34 : aggT Try.prog 34 = some false := by kernel_rfl
theorem sz35 : szOf Try.prog 35 = some 1 := by kernel_rfl
theorem is35 : (Try.prog.info? 35).isSome = true := by kernel_rfl
theorem ce35 : Try.prog.cellsOf 35 = 1 := by kernel_rfl
theorem ag35 : aggT Try.prog 35 = some false := by kernel_rfl
theorem ze35 : czero Try.prog 35 = some (.nilFunc) := by kernel_rfl
theorem sz36 : szOf Try.prog 36 = some 1 := by kernel_rfl
theorem is36 : (Try.prog.info? 36).isSome = true := by kernel_rfl
theorem ce36 : Try.prog.cellsOf 36 = 1 := by kernel_rfl
theorem ag36 : aggT Try.prog 36 = some false := by kernel_rfl
theorem ze36 : czero Try.prog 36 = some (.nilFunc) := by kernel_rfl
theorem sz37 : szOf Try.prog 37 = some 1 := by kernel_rfl
theorem is37 : (Try.prog.info? 37).isSome = true := by kernel_rfl
theorem ce37 : Try.prog.cellsOf 37 = 1 := by kernel_rfl
theorem ag37 : aggT Try.prog 37 = some false := by kernel_rfl
theorem ze37 : czero Try.prog 37 = some (.nilFunc) := by kernel_rfl
theorem sz38 : szOf Try.prog 38 = some 1 := by kernel_rfl
theorem is38 : (Try.prog.info? 38).isSome = true := by kernel_rfl
theorem ce38 : Try.prog.cellsOf 38 = 1 := by kernel_rfl
theorem ag38 : aggT Try.prog 38 = some false := by kernel_rfl
theorem ze38 : czero Try.prog 38 = some (.nilFunc) := by kernel_rfl
theorem sz39 : szOf Try.prog 39 = some 1 := by kernel_rfl
theorem is39 : (Try.prog.info? 39).isSome = true := by kernel_rfl
theorem ce39 : Try.prog.cellsOf 39 = 1 := by kernel_rfl
theorem ag39 : aggT Try.prog 39 = some false := by kernel_rfl
theorem ze39 : czero Try.prog 39 = some (.nilFunc) := by kernel_rfl
theorem sz40 : szOf Try.prog 40 = some 1 := by kernel_rfl
theorem is40 : (Try.prog.info? 40).isSome = true := by kernel_rfl
theorem ce40 : Try.prog.cellsOf 40 = 1 := by kernel_rfl
theorem ag40 : aggT Try.prog 40 = some false := by kernel_rfl
theorem ze40 : czero Try.prog 40 = some (.nilFunc) := by kernel_rfl
theorem sz41 : szOf Try.prog 41 = some 1 := by kernel_rfl
theorem is41 : (Try.prog.info? 41).isSome = true := by kernel_rfl
theorem ce41 : Try.prog.cellsOf 41 = 1 := by kernel_rfl
theorem ag41 : aggT Try.prog 41 = some false := by kernel_rfl
theorem ze41 : czero Try.prog 41 = some (.nilFunc) := by kernel_rfl
theorem sz42 : szOf Try.prog 42 = some 1 := by kernel_rfl
theorem is42 : (Try.prog.info? 42).isSome = true := by kernel_rfl
theorem ce42 : Try.prog.cellsOf 42 = 1 := by kernel_rfl
theorem ag42 : aggT Try.prog 42 = some false := by kernel_rfl
theorem ze42 : czero Try.prog 42 = some (.nilFunc) := by kernel_rfl
theorem sz43 : szOf Try.prog 43 = some 1 := by kernel_rfl
theorem is43 : (Try.prog.info? 43).isSome = true := by kernel_rfl
theorem ce43 : Try.prog.cellsOf 43 = 1 := by kernel_rfl
theorem ag43 : aggT Try.prog 43 = some false := by kernel_rfl
theorem ze43 : czero Try.prog 43 = some (.slice none 0 0) := by kernel_rfl
theorem sz44 : szOf Try.prog 44 = some 1 := by kernel_rfl
theorem is44 : (Try.prog.info? 44).isSome = true := by kernel_rfl
theorem ce44 : Try.prog.cellsOf 44 = 1 := by kernel_rfl
theorem ag44 : aggT Try.prog 44 = some false := by kernel_rfl
theorem ze44 : czero Try.prog 44 = some (.pointer none) := by kernel_rfl
theorem nt44 {x y : Operand} : cbin Try.prog .eql 44 x y (.pointer none) (.pointer none) = some (.bool true) := by kernel_rfl
theorem nn44 {x y : Operand} : cbin Try.prog .neq 44 x y (.pointer none) (.pointer none) = some (.bool false) := by kernel_rfl
theorem nf44 {x y : Operand} {a : Addr} : cbin Try.prog .eql 44 x y (.pointer (some a)) (.pointer none) = some (.bool false) := by kernel_rfl
theorem ng44 {x y : Operand} {a : Addr} : cbin Try.prog .neq 44 x y (.pointer (some a)) (.pointer none) = some (.bool true) := by kernel_rfl
theorem sz45 : szOf Try.prog 45 = some 1 := by kernel_rfl
theorem is45 : (Try.prog.info? 45).isSome = true := by kernel_rfl
theorem ce45 : Try.prog.cellsOf 45 = 1 := by kernel_rfl
theorem ag45 : aggT Try.prog 45 = some false := by kernel_rfl
theorem ze45 : czero Try.prog 45 = some (.pointer none) := by kernel_rfl
theorem nt45 {x y : Operand} : cbin Try.prog .eql 45 x y (.pointer none) (.pointer none) = some (.bool true) := by kernel_rfl
theorem nn45 {x y : Operand} : cbin Try.prog .neq 45 x y (.pointer none) (.pointer none) = some (.bool false) := by kernel_rfl
theorem nf45 {x y : Operand} {a : Addr} : cbin Try.prog .eql 45 x y (.pointer (some a)) (.pointer none) = some (.bool false) := by kernel_rfl
theorem ng45 {x y : Operand} {a : Addr} : cbin Try.prog .neq 45 x y (.pointer (some a)) (.pointer none) = some (.bool true) := by kernel_rfl
theorem sz46 : szOf Try.prog 46 = some 5 := by kernel_rfl
theorem is46 : (Try.prog.info? 46).isSome = true := by kernel_rfl
theorem ce46 : Try.prog.cellsOf 46 = 5 := by kernel_rfl
theorem ag46 : aggT Try.prog 46 = some true := by kernel_rfl
theorem ze46 : czero Try.prog 46 = some (.agg #[.slice none 0 0, .pointer none, .pointer none, .int .i64 0, .int .i64 0]) := by kernel_rfl
theorem fa46x0 : faOk Try.prog 46 0 = some 0 := by kernel_rfl
theorem fa46x1 : faOk Try.prog 46 1 = some 1 := by kernel_rfl
theorem fa46x2 : faOk Try.prog 46 2 = some 2 := by kernel_rfl
theorem fa46x3 : faOk Try.prog 46 3 = some 3 := by kernel_rfl
theorem fa46x4 : faOk Try.prog 46 4 = some 4 := by kernel_rfl
theorem sz47 : szOf Try.prog 47 = some 5 := by kernel_rfl
theorem is47 : (Try.prog.info? 47).isSome = true := by kernel_rfl
theorem ce47 : Try.prog.cellsOf 47 = 5 := by kernel_rfl
theorem ag47 : aggT Try.prog 47 = some true := by kernel_rfl
theorem ze47 : czero Try.prog 47 = some (.agg #[.slice none 0 0, .pointer none, .pointer none, .int .i64 0, .int .i64 0]) := by kernel_rfl
theorem fa47x0 : faOk Try.prog 47 0 = some 0 := by kernel_rfl
theorem fa47x1 : faOk Try.prog 47 1 = some 1 := by kernel_rfl
theorem fa47x2 : faOk Try.prog 47 2 = some 2 := by kernel_rfl
theorem fa47x3 : faOk Try.prog 47 3 = some 3 := by kernel_rfl
theorem fa47x4 : faOk Try.prog 47 4 = some 4 := by kernel_rfl
theorem sz48 : szOf Try.prog 48 = some 1 := by kernel_rfl
theorem is48 : (Try.prog.info? 48).isSome = true := by kernel_rfl
theorem ce48 : Try.prog.cellsOf 48 = 1 := by kernel_rfl
theorem ag48 : aggT Try.prog 48 = some false := by kernel_rfl
theorem ze48 : czero Try.prog 48 = some (.slice none 0 0) := by kernel_rfl
theorem sz49 : szOf Try.prog 49 = some 1 := by kernel_rfl
theorem is49 : (Try.prog.info? 49).isSome = true := by kernel_rfl
theorem ce49 : Try.prog.cellsOf 49 = 1 := by kernel_rfl
theorem ag49 : aggT Try.prog 49 = some false := by kernel_rfl
theorem sz50 : szOf Try.prog 50 = some 1 := by kernel_rfl
theorem is50 : (Try.prog.info? 50).isSome = true := by kernel_rfl
theorem ce50 : Try.prog.cellsOf 50 = 1 := by kernel_rfl
theorem ag50 : aggT Try.prog 50 = some false := by kernel_rfl
theorem ze50 : czero Try.prog 50 = some (.nilFunc) := by kernel_rfl
theorem sz51 : szOf Try.prog 51 = some 1 := by kernel_rfl
theorem is51 : (Try.prog.info? 51).isSome = true := by kernel_rfl
theorem ce51 : Try.prog.cellsOf 51 = 1 := by kernel_rfl
theorem ag51 : aggT Try.prog 51 = some false := by kernel_rfl
theorem sz52 : szOf Try.prog 52 = some 1 := by kernel_rfl
theorem is52 : (Try.prog.info? 52).isSome = true := by kernel_rfl
theorem ce52 : Try.prog.cellsOf 52 = 1 := by kernel_rfl
theorem ag52 : aggT Try.prog 52 = some false := by kernel_rfl
theorem ze52 : czero Try.prog 52 = some (.nilFunc) := by kernel_rfl
theorem sz53 : szOf Try.prog 53 = some 1 := by kernel_rfl
theorem is53 : (Try.prog.info? 53).isSome = true := by kernel_rfl
theorem ce53 : Try.prog.cellsOf 53 = 1 := by kernel_rfl
theorem ag53 : aggT Try.prog 53 = some false := by kernel_rfl
theorem ze53 : czero Try.prog 53 = some (.nilFunc) := by kernel_rfl
theorem sz54 : szOf Try.prog 54 = some 1 := by kernel_rfl
theorem is54 : (Try.prog.info? 54).isSome = true := by kernel_rfl
theorem ce54 : Try.prog.cellsOf 54 = 1 := by kernel_rfl
theorem ag54 : aggT Try.prog 54 = some false := by kernel_rfl
theorem ze54 : czero Try.prog 54 = some (.nilFunc) := by kernel_rfl
theorem sz55 : szOf Try.prog 55 = some 1 := by kernel_rfl
theorem is55 : (Try.prog.info? 55).isSome = true := by kernel_rfl
theorem ce55 : Try.prog.cellsOf 55 = 1 := by kernel_rfl
theorem ag55 : aggT Try.prog 55 = some false := by kernel_rfl
theorem ze55 : czero Try.prog 55 = some (.nilFunc) := by kernel_rfl
theorem sz56 : szOf Try.prog 56 = some 1 := by kernel_rfl
theorem is56 : (Try.prog.info? 56).isSome = true := by kernel_rfl
theorem ce56 : Try.prog.cellsOf 56 = 1 := by kernel_rfl
theorem ag56 : aggT Try.prog 56 = some false := by kernel_rfl
theorem ze56 : czero Try.prog 56 = some (.nilFunc) := by kernel_rfl
theorem sz57 : szOf Try.prog 57 = some 1 := by kernel_rfl
theorem is57 : (Try.prog.info? 57).isSome = true := by kernel_rfl
theorem ce57 : Try.prog.cellsOf 57 = 1 := by kernel_rfl
theorem ag57 : aggT Try.prog 57 = some false := by kernel_rfl
theorem ze57 : czero Try.prog 57 = some (.nilFunc) := by kernel_rfl
theorem sz58 : szOf Try.prog 58 = some 1 := by kernel_rfl
theorem is58 : (Try.prog.info? 58).isSome = true := by kernel_rfl
theorem ce58 : Try.prog.cellsOf 58 = 1 := by kernel_rfl
theorem ag58 : aggT Try.prog 58 = some false := by kernel_rfl
theorem ze58 : czero Try.prog 58 = some (.nilFunc) := by kernel_rfl
theorem sz59 : szOf Try.prog 59 = some 1 := by kernel_rfl
theorem is59 : (Try.prog.info? 59).isSome = true := by kernel_rfl
theorem ce59 : Try.prog.cellsOf 59 = 1 := by kernel_rfl
theorem ag59 : aggT Try.prog 59 = some false := by kernel_rfl
theorem ze59 : czero Try.prog 59 = some (.nilFunc) := by kernel_rfl
theorem sz60 : szOf Try.prog 60 = some 1 := by kernel_rfl
theorem is60 : (Try.prog.info? 60).isSome = true := by kernel_rfl
theorem ce60 : Try.prog.cellsOf 60 = 1 := by kernel_rfl
theorem ag60 : aggT Try.prog 60 = some false := by kernel_rfl
theorem ze60 : czero Try.prog 60 = some (.nilFunc) := by kernel_rfl
theorem sz61 : szOf Try.prog 61 = some 1 := by kernel_rfl
theorem is61 : (Try.prog.info? 61).isSome = true := by kernel_rfl
theorem ce61 : Try.prog.cellsOf 61 = 1 := by kernel_rfl
theorem ag61 : aggT Try.prog 61 = some false := by kernel_rfl
theorem ze61 : czero Try.prog 61 = some (.pointer none) := by kernel_rfl
theorem nt61 {x y : Operand} : cbin Try.prog .eql 61 x y (.pointer none) (.pointer none) = some (.bool true) := by kernel_rfl
theorem nn61 {x y : Operand} : cbin Try.prog .neq 61 x y (.pointer none) (.pointer none) = some (.bool false) := by kernel_rfl
theorem nf61 {x y : Operand} {a : Addr} : cbin Try.prog .eql 61 x y (.pointer (some a)) (.pointer none) = some (.bool false) := by kernel_rfl
theorem ng61 {x y : Operand} {a : Addr} : cbin Try.prog .neq 61 x y (.pointer (some a)) (.pointer none) = some (.bool true) := by kernel_rfl
theorem sz62 : szOf Try.prog 62 = some 1 := by kernel_rfl
theorem is62 : (Try.prog.info? 62).isSome = true := by kernel_rfl
theorem ce62 : Try.prog.cellsOf 62 = 1 := by kernel_rfl
theorem ag62 : aggT Try.prog 62 = some false := by kernel_rfl
theorem ze62 : czero Try.prog 62 = some (.pointer none) := by kernel_rfl
theorem nt62 {x y : Operand} : cbin Try.prog .eql 62 x y (.pointer none) (.pointer none) = some (.bool true) := by kernel_rfl
theorem nn62 {x y : Operand} : cbin Try.prog .neq 62 x y (.pointer none) (.pointer none) = some (.bool false) := by kernel_rfl
theorem nf62 {x y : Operand} {a : Addr} : cbin Try.prog .eql 62 x y (.pointer (some a)) (.pointer none) = some (.bool false) := by kernel_rfl
theorem ng62 {x y : Operand} {a : Addr} : cbin Try.prog .neq 62 x y (.pointer (some a)) (.pointer none) = some (.bool true) := by kernel_rfl
theorem sz63 : szOf Try.prog 63 = some 1 := by kernel_rfl
theorem is63 : (Try.prog.info? 63).isSome = true := by kernel_rfl
theorem ce63 : Try.prog.cellsOf 63 = 1 := by kernel_rfl
theorem ag63 : aggT Try.prog 63 = some false := by kernel_rfl
theorem ze63 : czero Try.prog 63 = some (.nilFunc) := by kernel_rfl
theorem sz64 : szOf Try.prog 64 = some 1 := by kernel_rfl
theorem is64 : (Try.prog.info? 64).isSome = true := by kernel_rfl
theorem ce64 : Try.prog.cellsOf 64 = 1 := by kernel_rfl
theorem ag64 : aggT Try.prog 64 = some true := by kernel_rfl
theorem ze64 : czero Try.prog 64 = some (.agg #[.pointer none]) := by kernel_rfl
theorem fa64x0 : faOk Try.prog 64 0 = some 0 := by kernel_rfl
theorem sz65 : szOf Try.prog 65 = some 1 := by kernel_rfl
theorem is65 : (Try.prog.info? 65).isSome = true := by kernel_rfl
theorem ce65 : Try.prog.cellsOf 65 = 1 := by kernel_rfl
theorem ag65 : aggT Try.prog 65 = some true := by kernel_rfl
theorem ze65 : czero Try.prog 65 = some (.agg #[.pointer none]) := by kernel_rfl
theorem fa65x0 : faOk Try.prog 65 0 = some 0 := by kernel_rfl
theorem sz66 : szOf Try.prog 66 = some 1 := by kernel_rfl
theorem is66 : (Try.prog.info? 66).isSome = true := by kernel_rfl
theorem ce66 : Try.prog.cellsOf 66 = 1 := by kernel_rfl
theorem ag66 : aggT Try.prog 66 = some false := by kernel_rfl
theorem ze66 : czero Try.prog 66 = some (.nilIface) := by kernel_rfl
theorem sz67 : szOf Try.prog 67 = some 1 := by kernel_rfl
theorem is67 : (Try.prog.info? 67).isSome = true := by kernel_rfl
theorem ce67 : Try.prog.cellsOf 67 = 1 := by kernel_rfl
theorem ag67 : aggT Try.prog 67 = some false := by kernel_rfl
theorem ze67 : czero Try.prog 67 = some (.nilIface) := by kernel_rfl
theorem sz68 : szOf Try.prog 68 = some 3 := by kernel_rfl
theorem is68 : (Try.prog.info? 68).isSome = true := by kernel_rfl
theorem ce68 : Try.prog.cellsOf 68 = 3 := by kernel_rfl
theorem ag68 : aggT Try.prog 68 = some true := by kernel_rfl
theorem ze68 : czero Try.prog 68 = some (.agg #[.nilIface, .int .i64 0, .int .i64 0]) := by kernel_rfl
theorem fa68x0 : faOk Try.prog 68 0 = some 0 := by kernel_rfl
theorem fa68x1 : faOk Try.prog 68 1 = some 1 := by kernel_rfl
theorem fa68x2 : faOk Try.prog 68 2 = some 2 := by kernel_rfl
theorem sz69 : szOf Try.prog 69 = some 3 := by kernel_rfl
theorem is69 : (Try.prog.info? 69).isSome = true := by kernel_rfl
theorem ce69 : Try.prog.cellsOf 69 = 3 := by kernel_rfl
theorem ag69 : aggT Try.prog 69 = some true := by kernel_rfl
theorem ze69 : czero Try.prog 69 = some (.agg #[.nilIface, .int .i64 0, .int .i64 0]) := by kernel_rfl
theorem fa69x0 : faOk Try.prog 69 0 = some 0 := by kernel_rfl
theorem fa69x1 : faOk Try.prog 69 1 = some 1 := by kernel_rfl
theorem fa69x2 : faOk Try.prog 69 2 = some 2 := by kernel_rfl
theorem sz70 : szOf Try.prog 70 = some 1 := by kernel_rfl
theorem is70 : (Try.prog.info? 70).isSome = true := by kernel_rfl
theorem ce70 : Try.prog.cellsOf 70 = 1 := by kernel_rfl
theorem ag70 : aggT Try.prog 70 = some false := by kernel_rfl
theorem ze70 : czero Try.prog 70 = some (.pointer none) := by kernel_rfl
theorem nt70 {x y : Operand} : cbin Try.prog .eql 70 x y (.pointer none) (.pointer none) = some (.bool true) := by kernel_rfl
theorem nn70 {x y : Operand} : cbin Try.prog .neq 70 x y (.pointer none) (.pointer none) = some (.bool false) := by kernel_rfl
theorem nf70 {x y : Operand} {a : Addr} : cbin Try.prog .eql 70 x y (.pointer (some a)) (.pointer none) = some (.bool false) := by kernel_rfl
theorem ng70 {x y : Operand} {a : Addr} : cbin Try.prog .neq 70 x y (.pointer (some a)) (.pointer none) = some (.bool true) := by kernel_rfl
theorem sz71 : szOf Try.prog 71 = some 1 := by kernel_rfl
theorem is71 : (Try.prog.info? 71).isSome = true := by kernel_rfl
theorem ce71 : Try.prog.cellsOf 71 = 1 := by kernel_rfl
theorem ag71 : aggT Try.prog 71 = some false := by kernel_rfl
theorem ze71 : czero Try.prog 71 = some (.slice none 0 0) := by kernel_rfl
theorem sz72 : szOf Try.prog 72 = some 2 := by kernel_rfl
theorem is72 : (Try.prog.info? 72).isSome = true := by kernel_rfl
theorem ce72 : Try.prog.cellsOf 72 = 2 := by kernel_rfl
theorem ag72 : aggT Try.prog 72 = some true := by kernel_rfl
theorem ze72 : czero Try.prog 72 = some (.agg #[.int .i64 0, .slice none 0 0]) := by kernel_rfl
theorem fa72x0 : faOk Try.prog 72 0 = some 0 := by kernel_rfl
theorem fa72x1 : faOk Try.prog 72 1 = some 1 := by kernel_rfl
theorem sz73 : szOf Try.prog 73 = some 2 := by kernel_rfl
theorem is73 : (Try.prog.info? 73).isSome = true := by kernel_rfl
theorem ce73 : Try.prog.cellsOf 73 = 2 := by kernel_rfl
theorem ag73 : aggT Try.prog 73 = some true := by kernel_rfl
theorem ze73 : czero Try.prog 73 = some (.agg #[.int .i64 0, .slice none 0 0]) := by kernel_rfl
theorem fa73x0 : faOk Try.prog 73 0 = some 0 := by kernel_rfl
theorem fa73x1 : faOk Try.prog 73 1 = some 1 := by kernel_rfl
theorem sz74 : szOf Try.prog 74 = some 1 := by kernel_rfl
theorem is74 : (Try.prog.info? 74).isSome = true := by kernel_rfl
theorem ce74 : Try.prog.cellsOf 74 = 1 := by kernel_rfl
theorem ag74 : aggT Try.prog 74 = some false := by kernel_rfl
theorem ze74 : czero Try.prog 74 = some (.nilFunc) := by kernel_rfl
theorem sz75 : szOf Try.prog 75 = some 1 := by kernel_rfl
theorem is75 : (Try.prog.info? 75).isSome = true := by kernel_rfl
theorem ce75 : Try.prog.cellsOf 75 = 1 := by kernel_rfl
theorem ag75 : aggT Try.prog 75 = some false := by kernel_rfl
theorem ze75 : czero Try.prog 75 = some (.nilFunc) := by kernel_rfl
theorem sz76 : szOf Try.prog 76 = some 1 := by kernel_rfl
theorem is76 : (Try.prog.info? 76).isSome = true := by kernel_rfl
theorem ce76 : Try.prog.cellsOf 76 = 1 := by kernel_rfl
theorem ag76 : aggT Try.prog 76 = some false := by kernel_rfl
theorem ze76 : czero Try.prog 76 = some (.nilFunc) := by kernel_rfl
theorem sz77 : szOf Try.prog 77 = some 1 := by kernel_rfl
theorem is77 : (Try.prog.info? 77).isSome = true := by kernel_rfl
theorem ce77 : Try.prog.cellsOf 77 = 1 := by kernel_rfl
theorem ag77 : aggT Try.prog 77 = some false := by kernel_rfl
theorem ze77 : czero Try.prog 77 = some (.nilFunc) := by kernel_rfl
theorem sz78 : szOf Try.prog 78 = some 1 := by kernel_rfl
theorem is78 : (Try.prog.info? 78).isSome = true := by kernel_rfl
theorem ce78 : Try.prog.cellsOf 78 = 1 := by kernel_rfl
theorem ag78 : aggT Try.prog 78 = some false := by kernel_rfl
theorem sz79 : szOf Try.prog 79 = some 1 := by kernel_rfl
theorem is79 : (Try.prog.info? 79).isSome = true := by kernel_rfl
theorem ce79 : Try.prog.cellsOf 79 = 1 := by kernel_rfl
theorem ag79 : aggT Try.prog 79 = some false := by kernel_rfl
theorem ze79 : czero Try.prog 79 = some (.nilFunc) := by kernel_rfl
theorem sz80 : szOf Try.prog 80 = some 1 := by kernel_rfl
theorem is80 : (Try.prog.info? 80).isSome = true := by kernel_rfl
theorem ce80 : Try.prog.cellsOf 80 = 1 := by kernel_rfl
theorem ag80 : aggT Try.prog 80 = some false := by kernel_rfl
theorem ze80 : czero Try.prog 80 = some (.nilFunc) := by kernel_rfl
theorem sz81 : szOf Try.prog 81 = some 1 := by kernel_rfl
theorem is81 : (Try.prog.info? 81).isSome = true := by kernel_rfl
theorem ce81 : Try.prog.cellsOf 81 = 1 := by kernel_rfl
theorem ag81 : aggT Try.prog 81 = some false := by kernel_rfl
theorem ze81 : czero Try.prog 81 = some (.nilFunc) := by kernel_rfl
theorem sz82 : szOf Try.prog 82 = some 1 := by kernel_rfl
theorem is82 : (Try.prog.info? 82).isSome = true := by kernel_rfl
theorem ce82 : Try.prog.cellsOf 82 = 1 := by kernel_rfl
theorem ag82 : aggT Try.prog 82 = some false := by kernel_rfl
theorem ze82 : czero Try.prog 82 = some (.nilFunc) := by kernel_rfl
theorem sz83 : szOf Try.prog 83 = some 1 := by kernel_rfl
theorem is83 : (Try.prog.info? 83).isSome = true := by kernel_rfl
theorem ce83 : Try.prog.cellsOf 83 = 1 := by kernel_rfl
theorem ag83 : aggT Try.prog 83 = some false := by kernel_rfl
theorem ze83 : czero Try.prog 83 = some (.pointer none) := by kernel_rfl
theorem nt83 {x y : Operand} : cbin Try.prog .eql 83 x y (.pointer none) (.pointer none) = some (.bool true) := by kernel_rfl
theorem nn83 {x y : Operand} : cbin Try.prog .neq 83 x y (.pointer none) (.pointer none) = some (.bool false) := by kernel_rfl
theorem nf83 {x y : Operand} {a : Addr} : cbin Try.prog .eql 83 x y (.pointer (some a)) (.pointer none) = some (.bool false) := by kernel_rfl
theorem ng83 {x y : Operand} {a : Addr} : cbin Try.prog .neq 83 x y (.pointer (some a)) (.pointer none) = some (.bool true) := by kernel_rfl
theorem sz84 : szOf Try.prog 84 = some 1 := by kernel_rfl
theorem is84 : (Try.prog.info? 84).isSome = true := by kernel_rfl
theorem ce84 : Try.prog.cellsOf 84 = 1 := by kernel_rfl
theorem ag84 : aggT Try.prog 84 = some false := by kernel_rfl
theorem ze84 : czero Try.prog 84 = some (.slice none 0 0) := by kernel_rfl
theorem sz85 : szOf Try.prog 85 = some 2 := by kernel_rfl
theorem is85 : (Try.prog.info? 85).isSome = true := by kernel_rfl
theorem ce85 : Try.prog.cellsOf 85 = 2 := by kernel_rfl
theorem ag85 : aggT Try.prog 85 = some true := by kernel_rfl
theorem ze85 : czero Try.prog 85 = some (.agg #[.pointer none, .slice none 0 0]) := by kernel_rfl
theorem fa85x0 : faOk Try.prog 85 0 = some 0 := by kernel_rfl
theorem fa85x1 : faOk Try.prog 85 1 = some 1 := by kernel_rfl
theorem sz86 : szOf Try.prog 86 = some 2 := by kernel_rfl
theorem is86 : (Try.prog.info? 86).isSome = true := by kernel_rfl
theorem ce86 : Try.prog.cellsOf 86 = 2 := by kernel_rfl
theorem ag86 : aggT Try.prog 86 = some true := by kernel_rfl
theorem ze86 : czero Try.prog 86 = some (.agg #[.pointer none, .slice none 0 0]) := by kernel_rfl
theorem fa86x0 : faOk Try.prog 86 0 = some 0 := by kernel_rfl
theorem fa86x1 : faOk Try.prog 86 1 = some 1 := by kernel_rfl
theorem sz87 : szOf Try.prog 87 = some 1 := by kernel_rfl
theorem is87 : (Try.prog.info? 87).isSome = true := by kernel_rfl
theorem ce87 : Try.prog.cellsOf 87 = 1 := by kernel_rfl
theorem ag87 : aggT Try.prog 87 = some false := by kernel_rfl
theorem ze87 : czero Try.prog 87 = some (.nilIface) := by kernel_rfl
theorem sz88 : szOf Try.prog 88 = some 1 := by kernel_rfl
theorem is88 : (Try.prog.info? 88).isSome = true := by kernel_rfl
theorem ce88 : Try.prog.cellsOf 88 = 1 := by kernel_rfl
theorem ag88 : aggT Try.prog 88 = some false := by kernel_rfl
theorem ze88 : czero Try.prog 88 = some (.nilIface) := by kernel_rfl
theorem sz89 : szOf Try.prog 89 = some 1 := by kernel_rfl
theorem is89 : (Try.prog.info? 89).isSome = true := by kernel_rfl
theorem ce89 : Try.prog.cellsOf 89 = 1 := by kernel_rfl
theorem ag89 : aggT Try.prog 89 = some false := by kernel_rfl
theorem sz90 : szOf Try.prog 90 = some 1 := by kernel_rfl
theorem is90 : (Try.prog.info? 90).isSome = true := by kernel_rfl
theorem ce90 : Try.prog.cellsOf 90 = 1 := by kernel_rfl
theorem ag90 : aggT Try.prog 90 = some false := by kernel_rfl
theorem ze90 : czero Try.prog 90 = some (.nilFunc) := by kernel_rfl
theorem sz91 : szOf Try.prog 91 = some 1 := by kernel_rfl
theorem is91 : (Try.prog.info? 91).isSome = true := by kernel_rfl
theorem ce91 : Try.prog.cellsOf 91 = 1 := by kernel_rfl
theorem ag91 : aggT Try.prog 91 = some false := by kernel_rfl
theorem ze91 : czero Try.prog 91 = some (.nilFunc) := by kernel_rfl
theorem sz92 : szOf Try.prog 92 = some 1 := by kernel_rfl
theorem is92 : (Try.prog.info? 92).isSome = true := by kernel_rfl
theorem ce92 : Try.prog.cellsOf 92 = 1 := by kernel_rfl
theorem ag92 : aggT Try.prog 92 = some false := by kernel_rfl
theorem ze92 : czero Try.prog 92 = some (.nilFunc) := by kernel_rfl
theorem sz93 : szOf Try.prog 93 = some 1 := by kernel_rfl
theorem is93 : (Try.prog.info? 93).isSome = true := by kernel_rfl
theorem ce93 : Try.prog.cellsOf 93 = 1 := by kernel_rfl
theorem ag93 : aggT Try.prog 93 = some false := by kernel_rfl
theorem ze93 : czero Try.prog 93 = some (.nilFunc) := by kernel_rfl
theorem sz94 : szOf Try.prog 94 = some 1 := by kernel_rfl
theorem is94 : (Try.prog.info? 94).isSome = true := by kernel_rfl
theorem ce94 : Try.prog.cellsOf 94 = 1 := by kernel_rfl
theorem ag94 : aggT Try.prog 94 = some false := by kernel_rfl
theorem ze94 : czero Try.prog 94 = some (.nilFunc) := by kernel_rfl
theorem sz95 : szOf Try.prog 95 = some 1 := by kernel_rfl
theorem is95 : (Try.prog.info? 95).isSome = true := by kernel_rfl
theorem ce95 : Try.prog.cellsOf 95 = 1 := by kernel_rfl
theorem ag95 : aggT Try.prog 95 = some false := by kernel_rfl
theorem ze95 : czero Try.prog 95 = some (.nilFunc) := by kernel_rfl
theorem sz96 : szOf Try.prog 96 = some 1 := by kernel_rfl
theorem is96 : (Try.prog.info? 96).isSome = true := by kernel_rfl
theorem ce96 : Try.prog.cellsOf 96 = 1 := by kernel_rfl
theorem ag96 : aggT Try.prog 96 = some false := by kernel_rfl
theorem sz97 : szOf Try.prog 97 = some 1 := by kernel_rfl
theorem is97 : (Try.prog.info? 97).isSome = true := by kernel_rfl
theorem ce97 : Try.prog.cellsOf 97 = 1 := by kernel_rfl
theorem ag97 : aggT Try.prog 97 = some false := by kernel_rfl
theorem ze97 : czero Try.prog 97 = some (.nilFunc) := by kernel_rfl
theorem sz98 : szOf Try.prog 98 = some 1 := by kernel_rfl
theorem is98 : (Try.prog.info? 98).isSome = true := by kernel_rfl
theorem ce98 : Try.prog.cellsOf 98 = 1 := by kernel_rfl
theorem ag98 : aggT Try.prog 98 = some false := by kernel_rfl
theorem ze98 : czero Try.prog 98 = some (.nilFunc) := by kernel_rfl
theorem sz99 : szOf Try.prog 99 = some 1 := by kernel_rfl
theorem is99 : (Try.prog.info? 99).isSome = true := by kernel_rfl
theorem ce99 : Try.prog.cellsOf 99 = 1 := by kernel_rfl
theorem ag99 : aggT Try.prog 99 = some false := by kernel_rfl
theorem ze99 : czero Try.prog 99 = some (.nilFunc) := by kernel_rfl
theorem sz100 : szOf Try.prog 100 = some 1 := by kernel_rfl
theorem is100 : (Try.prog.info? 100).isSome = true := by kernel_rfl
theorem ce100 : Try.prog.cellsOf 100 = 1 := by kernel_rfl
theorem ag100 : aggT Try.prog 100 = some false := by kernel_rfl
theorem ze100 : czero Try.prog 100 = some (.map none) := by kernel_rfl
theorem nt100 {x y : Operand} : cbin Try.prog .eql 100 x y (.map none) (.map none) = some (.bool true) := by kernel_rfl
theorem nn100 {x y : Operand} : cbin Try.prog .neq 100 x y (.map none) (.map none) = some (.bool false) := by kernel_rfl
theorem nf100 {x y : Operand} {a : Nat} : cbin Try.prog .eql 100 x y (.map (some a)) (.map none) = some (.bool false) := by kernel_rfl
theorem ng100 {x y : Operand} {a : Nat} : cbin Try.prog .neq 100 x y (.map (some a)) (.map none) = some (.bool true) := by kernel_rfl
theorem sz101 : szOf Try.prog 101 = some 1 := by kernel_rfl
theorem is101 : (Try.prog.info? 101).isSome = true := by kernel_rfl
theorem ce101 : Try.prog.cellsOf 101 = 1 := by kernel_rfl
theorem ag101 : aggT Try.prog 101 = some false := by kernel_rfl
theorem ze101 : czero Try.prog 101 = some (.slice none 0 0) := by kernel_rfl
theorem sz102 : szOf Try.prog 102 = some 3 := by kernel_rfl
theorem is102 : (Try.prog.info? 102).isSome = true := by kernel_rfl
theorem ce102 : Try.prog.cellsOf 102 = 3 := by kernel_rfl
theorem ag102 : aggT Try.prog 102 = some true := by kernel_rfl
theorem ze102 : czero Try.prog 102 = some (.agg #[.slice none 0 0, .map none, .int .i64 0]) := by kernel_rfl
theorem fa102x0 : faOk Try.prog 102 0 = some 0 := by kernel_rfl
theorem fa102x1 : faOk Try.prog 102 1 = some 1 := by kernel_rfl
theorem fa102x2 : faOk Try.prog 102 2 = some 2 := by kernel_rfl
theorem sz103 : szOf Try.prog 103 = some 3 := by kernel_rfl
theorem is103 : (Try.prog.info? 103).isSome = true := by kernel_rfl
theorem ce103 : Try.prog.cellsOf 103 = 3 := by kernel_rfl
theorem ag103 : aggT Try.prog 103 = some true := by kernel_rfl
theorem ze103 : czero Try.prog 103 = some (.agg #[.slice none 0 0, .map none, .int .i64 0]) := by kernel_rfl
theorem fa103x0 : faOk Try.prog 103 0 = some 0 := by kernel_rfl
theorem fa103x1 : faOk Try.prog 103 1 = some 1 := by kernel_rfl
theorem fa103x2 : faOk Try.prog 103 2 = some 2 := by kernel_rfl
theorem sz104 : szOf Try.prog 104 = some 1 := by kernel_rfl
theorem is104 : (Try.prog.info? 104).isSome = true := by kernel_rfl
theorem ce104 : Try.prog.cellsOf 104 = 1 := by kernel_rfl
theorem ag104 : aggT Try.prog 104 = some false := by kernel_rfl
theorem ze104 : czero Try.prog 104 = some (.map none) := by kernel_rfl
theorem nt104 {x y : Operand} : cbin Try.prog .eql 104 x y (.map none) (.map none) = some (.bool true) := by kernel_rfl
theorem nn104 {x y : Operand} : cbin Try.prog .neq 104 x y (.map none) (.map none) = some (.bool false) := by kernel_rfl
theorem nf104 {x y : Operand} {a : Nat} : cbin Try.prog .eql 104 x y (.map (some a)) (.map none) = some (.bool false) := by kernel_rfl
theorem ng104 {x y : Operand} {a : Nat} : cbin Try.prog .neq 104 x y (.map (some a)) (.map none) = some (.bool true) := by kernel_rfl
theorem sz105 : szOf Try.prog 105 = some 1 := by kernel_rfl
theorem is105 : (Try.prog.info? 105).isSome = true := by kernel_rfl
theorem ce105 : Try.prog.cellsOf 105 = 1 := by kernel_rfl
theorem ag105 : aggT Try.prog 105 = some false := by kernel_rfl
theorem ze105 : czero Try.prog 105 = some (.slice none 0 0) := by kernel_rfl
theorem sz106 : szOf Try.prog 106 = some 2 := by kernel_rfl
theorem is106 : (Try.prog.info? 106).isSome = true := by kernel_rfl
theorem ce106 : Try.prog.cellsOf 106 = 2 := by kernel_rfl
theorem ag106 : aggT Try.prog 106 = some true := by kernel_rfl
theorem ze106 : czero Try.prog 106 = some (.agg #[.map none, .slice none 0 0]) := by kernel_rfl
theorem fa106x0 : faOk Try.prog 106 0 = some 0 := by kernel_rfl
theorem fa106x1 : faOk Try.prog 106 1 = some 1 := by kernel_rfl
theorem sz107 : szOf Try.prog 107 = some 2 := by kernel_rfl
theorem is107 : (Try.prog.info? 107).isSome = true := by kernel_rfl
theorem ce107 : Try.prog.cellsOf 107 = 2 := by kernel_rfl
theorem ag107 : aggT Try.prog 107 = some true := by kernel_rfl
theorem ze107 : czero Try.prog 107 = some (.agg #[.map none, .slice none 0 0]) := by kernel_rfl
theorem fa107x0 : faOk Try.prog 107 0 = some 0 := by kernel_rfl
theorem fa107x1 : faOk Try.prog 107 1 = some 1 := by kernel_rfl
theorem sz108 : szOf Try.prog 108 = some 1 := by kernel_rfl
theorem is108 : (Try.prog.info? 108).isSome = true := by kernel_rfl
theorem ce108 : Try.prog.cellsOf 108 = 1 := by kernel_rfl
theorem ag108 : aggT Try.prog 108 = some false := by kernel_rfl
theorem ze108 : czero Try.prog 108 = some (.slice none 0 0) := by kernel_rfl
theorem sz109 : szOf Try.prog 109 = some 2 := by kernel_rfl
theorem is109 : (Try.prog.info? 109).isSome = true := by kernel_rfl
theorem ce109 : Try.prog.cellsOf 109 = 2 := by kernel_rfl
theorem ag109 : aggT Try.prog 109 = some true := by kernel_rfl
theorem ze109 : czero Try.prog 109 = some (.agg #[.map none, .slice none 0 0]) := by kernel_rfl
theorem fa109x0 : faOk Try.prog 109 0 = some 0 := by kernel_rfl
theorem fa109x1 : faOk Try.prog 109 1 = some 1 := by kernel_rfl
theorem sz110 : szOf Try.prog 110 = some 2 := by kernel_rfl
theorem is110 : (Try.prog.info? 110).isSome = true := by kernel_rfl
theorem ce110 : Try.prog.cellsOf 110 = 2 := by kernel_rfl
theorem ag110 : aggT Try.prog 110 = some true := by kernel_rfl
theorem ze110 : czero Try.prog 110 = some (.agg #[.map none, .slice none 0 0]) := by kernel_rfl
theorem fa110x0 : faOk Try.prog 110 0 = some 0 := by kernel_rfl
theorem fa110x1 : faOk Try.prog 110 1 = some 1 := by kernel_rfl
theorem sz111 : szOf Try.prog 111 = some 1 := by kernel_rfl
theorem is111 : (Try.prog.info? 111).isSome = true := by kernel_rfl
theorem ce111 : Try.prog.cellsOf 111 = 1 := by kernel_rfl
theorem ag111 : aggT Try.prog 111 = some false := by kernel_rfl
theorem ze111 : czero Try.prog 111 = some (.nilFunc) := by kernel_rfl
theorem sz112 : szOf Try.prog 112 = some 5 := by kernel_rfl
theorem is112 : (Try.prog.info? 112).isSome = true := by kernel_rfl
theorem ce112 : Try.prog.cellsOf 112 = 5 := by kernel_rfl
theorem ag112 : aggT Try.prog 112 = some true := by kernel_rfl
theorem ze112 : czero Try.prog 112 = some (.agg #[.int .i64 0, .int .i64 0, .int .i64 0, .int .i64 0, .map none]) := by kernel_rfl
theorem fa112x0 : faOk Try.prog 112 0 = some 0 := by kernel_rfl
theorem fa112x1 : faOk Try.prog 112 1 = some 1 := by kernel_rfl
theorem fa112x2 : faOk Try.prog 112 2 = some 2 := by kernel_rfl
theorem fa112x3 : faOk Try.prog 112 3 = some 3 := by kernel_rfl
theorem fa112x4 : faOk Try.prog 112 4 = some 4 := by kernel_rfl
theorem sz113 : szOf Try.prog 113 = some 5 := by kernel_rfl
theorem is113 : (Try.prog.info? 113).isSome = true := by kernel_rfl
theorem ce113 : Try.prog.cellsOf 113 = 5 := by kernel_rfl
theorem ag113 : aggT Try.prog 113 = some true := by kernel_rfl
theorem ze113 : czero Try.prog 113 = some (.agg #[.int .i64 0, .int .i64 0, .int .i64 0, .int .i64 0, .map none]) := by kernel_rfl
theorem fa113x0 : faOk Try.prog 113 0 = some 0 := by kernel_rfl
theorem fa113x1 : faOk Try.prog 113 1 = some 1 := by kernel_rfl
theorem fa113x2 : faOk Try.prog 113 2 = some 2 := by kernel_rfl
theorem fa113x3 : faOk Try.prog 113 3 = some 3 := by kernel_rfl
theorem fa113x4 : faOk Try.prog 113 4 = some 4 := by kernel_rfl
theorem sz114 : szOf Try.prog 114 = some 1 := by kernel_rfl
theorem is114 : (Try.prog.info? 114).isSome = true := by kernel_rfl
theorem ce114 : Try.prog.cellsOf 114 = 1 := by kernel_rfl
theorem ag114 : aggT Try.prog 114 = some false := by kernel_rfl
theorem ze114 : czero Try.prog 114 = some (.nilFunc) := by kernel_rfl
theorem sz115 : szOf Try.prog 115 = some 1 := by kernel_rfl
theorem is115 : (Try.prog.info? 115).isSome = true := by kernel_rfl
theorem ce115 : Try.prog.cellsOf 115 = 1 := by kernel_rfl
theorem ag115 : aggT Try.prog 115 = some false := by kernel_rfl
theorem sz116 : szOf Try.prog 116 = some 5 := by kernel_rfl
theorem is116 : (Try.prog.info? 116).isSome = true := by kernel_rfl
theorem ce116 : Try.prog.cellsOf 116 = 5 := by kernel_rfl
theorem ag116 : aggT Try.prog 116 = some true := by kernel_rfl
theorem ze116 : czero Try.prog 116 = some (.agg #[.string ByteArray.empty, .int .i64 0, .int .i64 0, .string ByteArray.empty, .bool false]) := by kernel_rfl
theorem fa116x0 : faOk Try.prog 116 0 = some 0 := by kernel_rfl
theorem fa116x1 : faOk Try.prog 116 1 = some 1 := by kernel_rfl
theorem fa116x2 : faOk Try.prog 116 2 = some 4 := by kernel_rfl
theorem sz117 : szOf Try.prog 117 = some 5 := by kernel_rfl
theorem is117 : (Try.prog.info? 117).isSome = true := by kernel_rfl
theorem ce117 : Try.prog.cellsOf 117 = 5 := by kernel_rfl
theorem ag117 : aggT Try.prog 117 = some true := by kernel_rfl
theorem ze117 : czero Try.prog 117 = some (.agg #[.string ByteArray.empty, .int .i64 0, .int .i64 0, .string ByteArray.empty, .bool false]) := by kernel_rfl
theorem fa117x0 : faOk Try.prog 117 0 = some 0 := by kernel_rfl
theorem fa117x1 : faOk Try.prog 117 1 = some 1 := by kernel_rfl
theorem fa117x2 : faOk Try.prog 117 2 = some 4 := by kernel_rfl
theorem sz118 : szOf Try.prog 118 = some 1 := by kernel_rfl
theorem is118 : (Try.prog.info? 118).isSome = true := by kernel_rfl
theorem ce118 : Try.prog.cellsOf 118 = 1 := by kernel_rfl
theorem ag118 : aggT Try.prog 118 = some false := by kernel_rfl
theorem ze118 : czero Try.prog 118 = some (.pointer none) := by kernel_rfl
theorem nt118 {x y : Operand} : cbin Try.prog .eql 118 x y (.pointer none) (.pointer none) = some (.bool true) := by kernel_rfl
theorem nn118 {x y : Operand} : cbin Try.prog .neq 118 x y (.pointer none) (.pointer none) = some (.bool false) := by kernel_rfl
theorem nf118 {x y : Operand} {a : Addr} : cbin Try.prog .eql 118 x y (.pointer (some a)) (.pointer none) = some (.bool false) := by kernel_rfl
theorem ng118 {x y : Operand} {a : Addr} : cbin Try.prog .neq 118 x y (.pointer (some a)) (.pointer none) = some (.bool true) := by kernel_rfl
theorem sz119 : szOf Try.prog 119 = some 1 := by kernel_rfl
theorem is119 : (Try.prog.info? 119).isSome = true := by kernel_rfl
theorem ce119 : Try.prog.cellsOf 119 = 1 := by kernel_rfl
theorem ag119 : aggT Try.prog 119 = some false := by kernel_rfl
theorem ze119 : czero Try.prog 119 = some (.nilFunc) := by kernel_rfl
theorem sz120 : szOf Try.prog 120 = some 1 := by kernel_rfl
theorem is120 : (Try.prog.info? 120).isSome = true := by kernel_rfl
theorem ce120 : Try.prog.cellsOf 120 = 1 := by kernel_rfl
theorem ag120 : aggT Try.prog 120 = some false := by kernel_rfl
theorem ze120 : czero Try.prog 120 = some (.slice none 0 0) := by kernel_rfl
theorem sz121 : szOf Try.prog 121 = some 1 := by kernel_rfl
theorem is121 : (Try.prog.info? 121).isSome = true := by kernel_rfl
theorem ce121 : Try.prog.cellsOf 121 = 1 := by kernel_rfl
theorem ag121 : aggT Try.prog 121 = some false := by kernel_rfl
theorem ze121 : czero Try.prog 121 = some (.nilFunc) := by kernel_rfl
theorem sz122 : szOf Try.prog 122 = some 20 := by kernel_rfl
theorem is122 : (Try.prog.info? 122).isSome = true := by kernel_rfl
theorem ce122 : Try.prog.cellsOf 122 = 20 := by kernel_rfl
theorem ag122 : aggT Try.prog 122 = some true := by kernel_rfl
theorem ze122 : czero Try.prog 122 = some (.agg #[.int .u8 0, .int .u8 0, .int .u8 0, .int .u8 0, .int .u8 0, .int .u8 0, .int .u8 0, .int .u8 0, .int .u8 0, .int .u8 0, .int .u8 0, .int .u8 0, .int .u8 0, .int .u8 0, .int .u8 0, .int .u8 0, .int .u8 0, .int .u8 0, .int .u8 0, .int .u8 0]) := by kernel_rfl
theorem sz123 : szOf Try.prog 123 = some 1 := by kernel_rfl
theorem is123 : (Try.prog.info? 123).isSome = true := by kernel_rfl
theorem ce123 : Try.prog.cellsOf 123 = 1 := by kernel_rfl
theorem ag123 : aggT Try.prog 123 = some false := by kernel_rfl
theorem ze123 : czero Try.prog 123 = some (.int .u64 0) := by kernel_rfl
theorem sz124 : szOf Try.prog 124 = some 1 := by kernel_rfl
theorem is124 : (Try.prog.info? 124).isSome = true := by kernel_rfl
theorem ce124 : Try.prog.cellsOf 124 = 1 := by kernel_rfl
theorem ag124 : aggT Try.prog 124 = some false := by kernel_rfl
theorem ze124 : czero Try.prog 124 = some (.nilFunc) := by kernel_rfl
theorem sz125 : szOf Try.prog 125 = some 1 := by kernel_rfl
theorem is125 : (Try.prog.info? 125).isSome = true := by kernel_rfl
theorem ce125 : Try.prog.cellsOf 125 = 1 := by kernel_rfl
theorem ag125 : aggT Try.prog 125 = some false := by kernel_rfl
theorem ze125 : czero Try.prog 125 = some (.pointer none) := by kernel_rfl
theorem nt125 {x y : Operand} : cbin Try.prog .eql 125 x y (.pointer none) (.pointer none) = some (.bool true) := by kernel_rfl
theorem nn125 {x y : Operand} : cbin Try.prog .neq 125 x y (.pointer none) (.pointer none) = some (.bool false) := by kernel_rfl
theorem nf125 {x y : Operand} {a : Addr} : cbin Try.prog .eql 125 x y (.pointer (some a)) (.pointer none) = some (.bool false) := by kernel_rfl
theorem ng125 {x y : Operand} {a : Addr} : cbin Try.prog .neq 125 x y (.pointer (some a)) (.pointer none) = some (.bool true) := by kernel_rfl
theorem sz126 : szOf Try.prog 126 = some 1 := by kernel_rfl
theorem is126 : (Try.prog.info? 126).isSome = true := by kernel_rfl
theorem ce126 : Try.prog.cellsOf 126 = 1 := by kernel_rfl
theorem ag126 : aggT Try.prog 126 = some false := by kernel_rfl
theorem ze126 : czero Try.prog 126 = some (.nilFunc) := by kernel_rfl
theorem sz127 : szOf Try.prog 127 = some 1 := by kernel_rfl
theorem is127 : (Try.prog.info? 127).isSome = true := by kernel_rfl
theorem ce127 : Try.prog.cellsOf 127 = 1 := by kernel_rfl
theorem ag127 : aggT Try.prog 127 = some false := by kernel_rfl
theorem ze127 : czero Try.prog 127 = some (.nilFunc) := by kernel_rfl
theorem sz128 : szOf Try.prog 128 = some 1 := by kernel_rfl
theorem is128 : (Try.prog.info? 128).isSome = true := by kernel_rfl
theorem ce128 : Try.prog.cellsOf 128 = 1 := by kernel_rfl
theorem ag128 : aggT Try.prog 128 = some false := by kernel_rfl
theorem ze128 : czero Try.prog 128 = some (.nilFunc) := by kernel_rfl
theorem sz129 : szOf Try.prog 129 = some 1 := by kernel_rfl
theorem is129 : (Try.prog.info? 129).isSome = true := by kernel_rfl
theorem ce129 : Try.prog.cellsOf 129 = 1 := by kernel_rfl
theorem ag129 : aggT Try.prog 129 = some false := by kernel_rfl
theorem ze129 : czero Try.prog 129 = some (.nilFunc) := by kernel_rfl
theorem sz130 : szOf Try.prog 130 = some 1 := by kernel_rfl
theorem is130 : (Try.prog.info? 130).isSome = true := by kernel_rfl
theorem ce130 : Try.prog.cellsOf 130 = 1 := by kernel_rfl
theorem ag130 : aggT Try.prog 130 = some false := by kernel_rfl
theorem ze130 : czero Try.prog 130 = some (.nilFunc) := by kernel_rfl
theorem sz131 : szOf Try.prog 131 = some 1 := by kernel_rfl
theorem is131 : (Try.prog.info? 131).isSome = true := by kernel_rfl
theorem ce131 : Try.prog.cellsOf 131 = 1 := by kernel_rfl
theorem ag131 : aggT Try.prog 131 = some false := by kernel_rfl
theorem ze131 : czero Try.prog 131 = some (.nilFunc) := by kernel_rfl
theorem sz132 : szOf Try.prog 132 = some 1 := by kernel_rfl
theorem is132 : (Try.prog.info? 132).isSome = true := by kernel_rfl
theorem ce132 : Try.prog.cellsOf 132 = 1 := by kernel_rfl
theorem ag132 : aggT Try.prog 132 = some false := by kernel_rfl
theorem ze132 : czero Try.prog 132 = some (.nilFunc) := by kernel_rfl
theorem sz133 : szOf Try.prog 133 = some 1 := by kernel_rfl
theorem is133 : (Try.prog.info? 133).isSome = true := by kernel_rfl
theorem ce133 : Try.prog.cellsOf 133 = 1 := by kernel_rfl
theorem ag133 : aggT Try.prog 133 = some false := by kernel_rfl
theorem ze133 : czero Try.prog 133 = some (.nilFunc) := by kernel_rfl
theorem sz134 : szOf Try.prog 134 = some 1 := by kernel_rfl
theorem is134 : (Try.prog.info? 134).isSome = true := by kernel_rfl
theorem ce134 : Try.prog.cellsOf 134 = 1 := by kernel_rfl
theorem ag134 : aggT Try.prog 134 = some false := by kernel_rfl
theorem ze134 : czero Try.prog 134 = some (.pointer none) := by kernel_rfl
theorem sz135 : szOf Try.prog 135 = some 1 := by kernel_rfl
theorem is135 : (Try.prog.info? 135).isSome = true := by kernel_rfl
theorem ce135 : Try.prog.cellsOf 135 = 1 := by kernel_rfl
theorem ag135 : aggT Try.prog 135 = some false := by kernel_rfl
theorem ze135 : czero Try.prog 135 = some (.nilFunc) := by kernel_rfl
theorem sz136 : szOf Try.prog 136 = some 1 := by kernel_rfl
theorem is136 : (Try.prog.info? 136).isSome = true := by kernel_rfl
theorem ce136 : Try.prog.cellsOf 136 = 1 := by kernel_rfl
theorem ag136 : aggT Try.prog 136 = some false := by kernel_rfl
theorem ze136 : czero Try.prog 136 = some (.nilFunc) := by kernel_rfl
theorem sz137 : szOf Try.prog 137 = some 1 := by kernel_rfl
theorem is137 : (Try.prog.info? 137).isSome = true := by kernel_rfl
theorem ce137 : Try.prog.cellsOf 137 = 1 := by kernel_rfl
theorem ag137 : aggT Try.prog 137 = some false := by kernel_rfl
theorem ze137 : czero Try.prog 137 = some (.int .u64 0) := by kernel_rfl
theorem sz138 : szOf Try.prog 138 = some 1 := by kernel_rfl
theorem is138 : (Try.prog.info? 138).isSome = true := by kernel_rfl
theorem ce138 : Try.prog.cellsOf 138 = 1 := by kernel_rfl
theorem ag138 : aggT Try.prog 138 = some false := by kernel_rfl
theorem ze138 : czero Try.prog 138 = some (.nilFunc) := by kernel_rfl
theorem sz139 : szOf Try.prog 139 = some 1 := by kernel_rfl
theorem is139 : (Try.prog.info? 139).isSome = true := by kernel_rfl
theorem ce139 : Try.prog.cellsOf 139 = 1 := by kernel_rfl
theorem ag139 : aggT Try.prog 139 = some false := by kernel_rfl
theorem ze139 : czero Try.prog 139 = some (.nilFunc) := by kernel_rfl
theorem sz140 : szOf Try.prog 140 = some 4 := by kernel_rfl
theorem is140 : (Try.prog.info? 140).isSome = true := by kernel_rfl
theorem ce140 : Try.prog.cellsOf 140 = 4 := by kernel_rfl
theorem ag140 : aggT Try.prog 140 = some true := by kernel_rfl
theorem ze140 : czero Try.prog 140 = some (.agg #[.pointer none, .pointer none, .pointer none, .string ByteArray.empty]) := by kernel_rfl
theorem fa140x0 : faOk Try.prog 140 0 = some 0 := by kernel_rfl
theorem fa140x1 : faOk Try.prog 140 1 = some 1 := by kernel_rfl
theorem fa140x2 : faOk Try.prog 140 2 = some 2 := by kernel_rfl
theorem fa140x3 : faOk Try.prog 140 3 = some 3 := by kernel_rfl
theorem sz141 : szOf Try.prog 141 = some 4 := by kernel_rfl
theorem is141 : (Try.prog.info? 141).isSome = true := by kernel_rfl
theorem ce141 : Try.prog.cellsOf 141 = 4 := by kernel_rfl
theorem ag141 : aggT Try.prog 141 = some true := by kernel_rfl
theorem ze141 : czero Try.prog 141 = some (.agg #[.pointer none, .pointer none, .pointer none, .string ByteArray.empty]) := by kernel_rfl
theorem fa141x0 : faOk Try.prog 141 0 = some 0 := by kernel_rfl
theorem fa141x1 : faOk Try.prog 141 1 = some 1 := by kernel_rfl
theorem fa141x2 : faOk Try.prog 141 2 = some 2 := by kernel_rfl
theorem fa141x3 : faOk Try.prog 141 3 = some 3 := by kernel_rfl
theorem sz142 : szOf Try.prog 142 = some 0 := by kernel_rfl
theorem is142 : (Try.prog.info? 142).isSome = true := by kernel_rfl
theorem ce142 : Try.prog.cellsOf 142 = 0 := by kernel_rfl
theorem ag142 : aggT Try.prog 142 = some true := by kernel_rfl
theorem ze142 : czero Try.prog 142 = some (.agg #[]) := by kernel_rfl
theorem sz143 : szOf Try.prog 143 = some 0 := by kernel_rfl
theorem is143 : (Try.prog.info? 143).isSome = true := by kernel_rfl
theorem ce143 : Try.prog.cellsOf 143 = 0 := by kernel_rfl
theorem ag143 : aggT Try.prog 143 = some true := by kernel_rfl
theorem ze143 : czero Try.prog 143 = some (.agg #[]) := by kernel_rfl
theorem sz144 : szOf Try.prog 144 = some 0 := by kernel_rfl
theorem is144 : (Try.prog.info? 144).isSome = true := by kernel_rfl
theorem ce144 : Try.prog.cellsOf 144 = 0 := by kernel_rfl
theorem ag144 : aggT Try.prog 144 = some true := by kernel_rfl
theorem ze144 : czero Try.prog 144 = some (.agg #[]) := by kernel_rfl
theorem sz145 : szOf Try.prog 145 = some 1 := by kernel_rfl
theorem is145 : (Try.prog.info? 145).isSome = true := by kernel_rfl
theorem ce145 : Try.prog.cellsOf 145 = 1 := by kernel_rfl
theorem ag145 : aggT Try.prog 145 = some false := by kernel_rfl
theorem ze145 : czero Try.prog 145 = some (.int .u32 0) := by kernel_rfl
theorem sz146 : szOf Try.prog 146 = some 1 := by kernel_rfl
theorem is146 : (Try.prog.info? 146).isSome = true := by kernel_rfl
theorem ce146 : Try.prog.cellsOf 146 = 1 := by kernel_rfl
theorem ag146 : aggT Try.prog 146 = some false := by kernel_rfl
theorem ze146 : czero Try.prog 146 = some (.int .u8 0) := by kernel_rfl
theorem sz147 : szOf Try.prog 147 = some 1 := by kernel_rfl
theorem is147 : (Try.prog.info? 147).isSome = true := by kernel_rfl
theorem ce147 : Try.prog.cellsOf 147 = 1 := by kernel_rfl
theorem ag147 : aggT Try.prog 147 = some false := by kernel_rfl
theorem ze147 : czero Try.prog 147 = some (.int .u8 0) := by kernel_rfl
theorem sz148 : szOf Try.prog 148 = some 1 := by kernel_rfl
theorem is148 : (Try.prog.info? 148).isSome = true := by kernel_rfl
theorem ce148 : Try.prog.cellsOf 148 = 1 := by kernel_rfl
theorem ag148 : aggT Try.prog 148 = some false := by kernel_rfl
theorem ze148 : czero Try.prog 148 = some (.nilFunc) := by kernel_rfl
theorem sz149 : szOf Try.prog 149 = some 1 := by kernel_rfl
theorem is149 : (Try.prog.info? 149).isSome = true := by kernel_rfl
theorem ce149 : Try.prog.cellsOf 149 = 1 := by kernel_rfl
theorem ag149 : aggT Try.prog 149 = some false := by kernel_rfl
theorem ze149 : czero Try.prog 149 = some (.int .i32 0) := by kernel_rfl
theorem sz150 : szOf Try.prog 150 = some 1 := by kernel_rfl
theorem is150 : (Try.prog.info? 150).isSome = true := by kernel_rfl
theorem ce150 : Try.prog.cellsOf 150 = 1 := by kernel_rfl
theorem ag150 : aggT Try.prog 150 = some false := by kernel_rfl
theorem ze150 : czero Try.prog 150 = some (.int .i32 0) := by kernel_rfl
theorem sz151 : szOf Try.prog 151 = some 11 := by kernel_rfl
theorem is151 : (Try.prog.info? 151).isSome = true := by kernel_rfl
theorem ce151 : Try.prog.cellsOf 151 = 11 := by kernel_rfl
theorem ag151 : aggT Try.prog 151 = some true := by kernel_rfl
theorem ze151 : czero Try.prog 151 = some (.agg #[.int .u64 0, .int .u64 0, .int .u32 0, .int .u8 0, .int .u8 0, .int .u8 0, .int .u8 0, .nilFunc, .pointer none, .int .i32 0, .int .i32 0]) := by kernel_rfl
theorem fa151x0 : faOk Try.prog 151 0 = some 0 := by kernel_rfl
theorem fa151x1 : faOk Try.prog 151 1 = some 1 := by kernel_rfl
theorem fa151x2 : faOk Try.prog 151 2 = some 2 := by kernel_rfl
theorem fa151x3 : faOk Try.prog 151 3 = some 3 := by kernel_rfl
theorem fa151x4 : faOk Try.prog 151 4 = some 4 := by kernel_rfl
theorem fa151x5 : faOk Try.prog 151 5 = some 5 := by kernel_rfl
theorem fa151x6 : faOk Try.prog 151 6 = some 6 := by kernel_rfl
theorem fa151x7 : faOk Try.prog 151 7 = some 7 := by kernel_rfl
theorem fa151x8 : faOk Try.prog 151 8 = some 8 := by kernel_rfl
theorem fa151x9 : faOk Try.prog 151 9 = some 9 := by kernel_rfl
theorem fa151x10 : faOk Try.prog 151 10 = some 10 := by kernel_rfl
theorem sz152 : szOf Try.prog 152 = some 11 := by kernel_rfl
theorem is152 : (Try.prog.info? 152).isSome = true := by kernel_rfl
theorem ce152 : Try.prog.cellsOf 152 = 11 := by kernel_rfl
theorem ag152 : aggT Try.prog 152 = some true := by kernel_rfl
theorem ze152 : czero Try.prog 152 = some (.agg #[.int .u64 0, .int .u64 0, .int .u32 0, .int .u8 0, .int .u8 0, .int .u8 0, .int .u8 0, .nilFunc, .pointer none, .int .i32 0, .int .i32 0]) := by kernel_rfl
theorem fa152x0 : faOk Try.prog 152 0 = some 0 := by kernel_rfl
theorem fa152x1 : faOk Try.prog 152 1 = some 1 := by kernel_rfl
theorem fa152x2 : faOk Try.prog 152 2 = some 2 := by kernel_rfl
theorem fa152x3 : faOk Try.prog 152 3 = some 3 := by kernel_rfl
theorem fa152x4 : faOk Try.prog 152 4 = some 4 := by kernel_rfl
theorem fa152x5 : faOk Try.prog 152 5 = some 5 := by kernel_rfl
theorem fa152x6 : faOk Try.prog 152 6 = some 6 := by kernel_rfl
theorem fa152x7 : faOk Try.prog 152 7 = some 7 := by kernel_rfl
theorem fa152x8 : faOk Try.prog 152 8 = some 8 := by kernel_rfl
theorem fa152x9 : faOk Try.prog 152 9 = some 9 := by kernel_rfl
theorem fa152x10 : faOk Try.prog 152 10 = some 10 := by kernel_rfl
end Go.Proofs.Try
