/- Facts on the types of the program: sizes, places of fields, zero values. Written by program (types.py). A lemma file: no statement of its own. -/
import Derived.Test.YtmjaocgpdbppnaaGreatChecked
import Derived.Test.YtmjaocgpdbppnaaGreatFwE
set_option linter.unusedSimpArgs false
set_option linter.unusedVariables false
namespace Go.Proofs.Tryz
open Go.Cs
theorem sz0 : szOf Tryz.prog 0 = some 1 := by kernel_rfl
theorem is0 : (Tryz.prog.info? 0).isSome = true := by kernel_rfl
theorem ce0 : Tryz.prog.cellsOf 0 = 1 := by kernel_rfl
theorem ag0 : aggT Tryz.prog 0 = some false := by kernel_rfl
theorem sz1 : szOf Tryz.prog 1 = some 1 := by kernel_rfl
theorem is1 : (Tryz.prog.info? 1).isSome = true := by kernel_rfl
theorem ce1 : Tryz.prog.cellsOf 1 = 1 := by kernel_rfl
theorem ag1 : aggT Tryz.prog 1 = some false := by kernel_rfl
theorem ze1 : czero Tryz.prog 1 = some (.nilFunc) := by kernel_rfl
theorem sz2 : szOf Tryz.prog 2 = some 1 := by kernel_rfl
theorem is2 : (Tryz.prog.info? 2).isSome = true := by kernel_rfl
theorem ce2 : Tryz.prog.cellsOf 2 = 1 := by kernel_rfl
theorem ag2 : aggT Tryz.prog 2 = some false := by kernel_rfl
theorem ze2 : czero Tryz.prog 2 = some (.int .i64 0) := by kernel_rfl
theorem sz3 : szOf Tryz.prog 3 = some 1 := by kernel_rfl
theorem is3 : (Tryz.prog.info? 3).isSome = true := by kernel_rfl
theorem ce3 : Tryz.prog.cellsOf 3 = 1 := by kernel_rfl
theorem ag3 : aggT Tryz.prog 3 = some false := by kernel_rfl
theorem ze3 : czero Tryz.prog 3 = some (.int .i64 0) := by kernel_rfl
theorem sz4 : szOf Tryz.prog 4 = some 1 := by kernel_rfl
theorem is4 : (Tryz.prog.info? 4).isSome = true := by kernel_rfl
theorem ce4 : Tryz.prog.cellsOf 4 = 1 := by kernel_rfl
theorem ag4 : aggT Tryz.prog 4 = some false := by kernel_rfl
theorem ze4 : czero Tryz.prog 4 = some (.bool false) := by kernel_rfl
theorem be4 {x y : Operand} {a b : Bool} : cbin Tryz.prog .eql 4 x y (.bool a) (.bool b) = some (.bool (a == b)) := by kernel_rfl
theorem bn4 {x y : Operand} {a b : Bool} : cbin Tryz.prog .neq 4 x y (.bool a) (.bool b) = some (.bool (!(a == b))) := by kernel_rfl
theorem sz5 : szOf Tryz.prog 5 = some 1 := by kernel_rfl
theorem is5 : (Tryz.prog.info? 5).isSome = true := by kernel_rfl
theorem ce5 : Tryz.prog.cellsOf 5 = 1 := by kernel_rfl
theorem ag5 : aggT Tryz.prog 5 = some false := by kernel_rfl
theorem ze5 : czero Tryz.prog 5 = some (.int .u8 0) := by kernel_rfl
theorem sz6 : szOf Tryz.prog 6 = some 1 := by kernel_rfl
theorem is6 : (Tryz.prog.info? 6).isSome = true := by kernel_rfl
theorem ce6 : Tryz.prog.cellsOf 6 = 1 := by kernel_rfl
theorem ag6 : aggT Tryz.prog 6 = some false := by kernel_rfl
theorem ze6 : czero Tryz.prog 6 = some (.int .u8 0) := by kernel_rfl
theorem sz7 : szOf Tryz.prog 7 = some 4 := by kernel_rfl
theorem is7 : (Tryz.prog.info? 7).isSome = true := by kernel_rfl
theorem ce7 : Tryz.prog.cellsOf 7 = 4 := by kernel_rfl
theorem ag7 : aggT Tryz.prog 7 = some true := by kernel_rfl
theorem ze7 : czero Tryz.prog 7 = some (.agg #[.int .i64 0, .int .i64 0, .bool false, .int .u8 0]) := by kernel_rfl
theorem fa7x0 : faOk Tryz.prog 7 0 = some 0 := by kernel_rfl
theorem fa7x1 : faOk Tryz.prog 7 1 = some 1 := by kernel_rfl
theorem fa7x2 : faOk Tryz.prog 7 2 = some 2 := by kernel_rfl
theorem fa7x3 : faOk Tryz.prog 7 3 = some 3 := by kernel_rfl
theorem sz8 : szOf Tryz.prog 8 = some 4 := by kernel_rfl
theorem is8 : (Tryz.prog.info? 8).isSome = true := by kernel_rfl
theorem ce8 : Tryz.prog.cellsOf 8 = 4 := by kernel_rfl
theorem ag8 : aggT Tryz.prog 8 = some true := by kernel_rfl
theorem ze8 : czero Tryz.prog 8 = some (.agg #[.int .i64 0, .int .i64 0, .bool false, .int .u8 0]) := by kernel_rfl
theorem fa8x0 : faOk Tryz.prog 8 0 = some 0 := by kernel_rfl
theorem fa8x1 : faOk Tryz.prog 8 1 = some 1 := by kernel_rfl
theorem fa8x2 : faOk Tryz.prog 8 2 = some 2 := by kernel_rfl
theorem fa8x3 : faOk Tryz.prog 8 3 = some 3 := by kernel_rfl
theorem sz9 : szOf Tryz.prog 9 = some 1 := by kernel_rfl
theorem is9 : (Tryz.prog.info? 9).isSome = true := by kernel_rfl
theorem ce9 : Tryz.prog.cellsOf 9 = 1 := by kernel_rfl
theorem ag9 : aggT Tryz.prog 9 = some false := by kernel_rfl
theorem ze9 : czero Tryz.prog 9 = some (.string ByteArray.empty) := by kernel_rfl
theorem sz10 : szOf Tryz.prog 10 = some 1 := by kernel_rfl
theorem is10 : (Tryz.prog.info? 10).isSome = true := by kernel_rfl
theorem ce10 : Tryz.prog.cellsOf 10 = 1 := by kernel_rfl
theorem ag10 : aggT Tryz.prog 10 = some false := by kernel_rfl
theorem ze10 : czero Tryz.prog 10 = some (.string ByteArray.empty) := by kernel_rfl
theorem sz11 : szOf Tryz.prog 11 = some 1 := by kernel_rfl
theorem is11 : (Tryz.prog.info? 11).isSome = true := by kernel_rfl
theorem ce11 : Tryz.prog.cellsOf 11 = 1 := by kernel_rfl
theorem ag11 : aggT Tryz.prog 11 = some false := by kernel_rfl
theorem ze11 : czero Tryz.prog 11 = some (.string ByteArray.empty) := by kernel_rfl
theorem sz12 : szOf Tryz.prog 12 = some 1 := by kernel_rfl
theorem is12 : (Tryz.prog.info? 12).isSome = true := by kernel_rfl
theorem ce12 : Tryz.prog.cellsOf 12 = 1 := by kernel_rfl
theorem ag12 : aggT Tryz.prog 12 = some false := by kernel_rfl
theorem ze12 : czero Tryz.prog 12 = some (.int .u64 0) := by kernel_rfl
theorem sz13 : szOf Tryz.prog 13 = some 2 := by kernel_rfl
theorem is13 : (Tryz.prog.info? 13).isSome = true := by kernel_rfl
theorem ce13 : Tryz.prog.cellsOf 13 = 2 := by kernel_rfl
theorem ag13 : aggT Tryz.prog 13 = some true := by kernel_rfl
theorem ze13 : czero Tryz.prog 13 = some (.agg #[.string ByteArray.empty, .int .u64 0]) := by kernel_rfl
theorem fa13x0 : faOk Tryz.prog 13 0 = some 0 := by kernel_rfl
theorem fa13x1 : faOk Tryz.prog 13 1 = some 1 := by kernel_rfl
theorem sz14 : szOf Tryz.prog 14 = some 2 := by kernel_rfl
theorem is14 : (Tryz.prog.info? 14).isSome = true := by kernel_rfl
theorem ce14 : Tryz.prog.cellsOf 14 = 2 := by kernel_rfl
theorem ag14 : aggT Tryz.prog 14 = some true := by kernel_rfl
theorem ze14 : czero Tryz.prog 14 = some (.agg #[.string ByteArray.empty, .int .u64 0]) := by kernel_rfl
theorem fa14x0 : faOk Tryz.prog 14 0 = some 0 := by kernel_rfl
theorem fa14x1 : faOk Tryz.prog 14 1 = some 1 := by kernel_rfl
theorem sz15 : szOf Tryz.prog 15 = some 1 := by kernel_rfl
theorem is15 : (Tryz.prog.info? 15).isSome = true := by kernel_rfl
theorem ce15 : Tryz.prog.cellsOf 15 = 1 := by kernel_rfl
theorem ag15 : aggT Tryz.prog 15 = some false := by kernel_rfl
theorem ze15 : czero Tryz.prog 15 = some (.pointer none) := by kernel_rfl
theorem nt15 {x y : Operand} : cbin Tryz.prog .eql 15 x y (.pointer none) (.pointer none) = some (.bool true) := by kernel_rfl
theorem nn15 {x y : Operand} : cbin Tryz.prog .neq 15 x y (.pointer none) (.pointer none) = some (.bool false) := by kernel_rfl
theorem nf15 {x y : Operand} {a : Addr} : cbin Tryz.prog .eql 15 x y (.pointer (some a)) (.pointer none) = some (.bool false) := by kernel_rfl
theorem ng15 {x y : Operand} {a : Addr} : cbin Tryz.prog .neq 15 x y (.pointer (some a)) (.pointer none) = some (.bool true) := by kernel_rfl
theorem sz16 : szOf Tryz.prog 16 = some 1 := by kernel_rfl
theorem is16 : (Tryz.prog.info? 16).isSome = true := by kernel_rfl
theorem ce16 : Tryz.prog.cellsOf 16 = 1 := by kernel_rfl
theorem ag16 : aggT Tryz.prog 16 = some false := by kernel_rfl
theorem ze16 : czero Tryz.prog 16 = some (.pointer none) := by kernel_rfl
theorem nt16 {x y : Operand} : cbin Tryz.prog .eql 16 x y (.pointer none) (.pointer none) = some (.bool true) := by kernel_rfl
theorem nn16 {x y : Operand} : cbin Tryz.prog .neq 16 x y (.pointer none) (.pointer none) = some (.bool false) := by kernel_rfl
theorem nf16 {x y : Operand} {a : Addr} : cbin Tryz.prog .eql 16 x y (.pointer (some a)) (.pointer none) = some (.bool false) := by kernel_rfl
theorem ng16 {x y : Operand} {a : Addr} : cbin Tryz.prog .neq 16 x y (.pointer (some a)) (.pointer none) = some (.bool true) := by kernel_rfl
theorem sz17 : szOf Tryz.prog 17 = some 1 := by kernel_rfl
theorem is17 : (Tryz.prog.info? 17).isSome = true := by kernel_rfl
theorem ce17 : Tryz.prog.cellsOf 17 = 1 := by kernel_rfl
theorem ag17 : aggT Tryz.prog 17 = some false := by kernel_rfl
theorem ze17 : czero Tryz.prog 17 = some (.pointer none) := by kernel_rfl
theorem nt17 {x y : Operand} : cbin Tryz.prog .eql 17 x y (.pointer none) (.pointer none) = some (.bool true) := by kernel_rfl
theorem nn17 {x y : Operand} : cbin Tryz.prog .neq 17 x y (.pointer none) (.pointer none) = some (.bool false) := by kernel_rfl
theorem nf17 {x y : Operand} {a : Addr} : cbin Tryz.prog .eql 17 x y (.pointer (some a)) (.pointer none) = some (.bool false) := by kernel_rfl
theorem ng17 {x y : Operand} {a : Addr} : cbin Tryz.prog .neq 17 x y (.pointer (some a)) (.pointer none) = some (.bool true) := by kernel_rfl
theorem sz18 : szOf Tryz.prog 18 = some 1 := by kernel_rfl
theorem is18 : (Tryz.prog.info? 18).isSome = true := by kernel_rfl
theorem ce18 : Tryz.prog.cellsOf 18 = 1 := by kernel_rfl
theorem ag18 : aggT Tryz.prog 18 = some true := by kernel_rfl
theorem ze18 : czero Tryz.prog 18 = some (.agg #[.pointer none]) := by kernel_rfl
theorem fa18x0 : faOk Tryz.prog 18 0 = some 0 := by kernel_rfl
theorem sz19 : szOf Tryz.prog 19 = some 1 := by kernel_rfl
theorem is19 : (Tryz.prog.info? 19).isSome = true := by kernel_rfl
theorem ce19 : Tryz.prog.cellsOf 19 = 1 := by kernel_rfl
theorem ag19 : aggT Tryz.prog 19 = some true := by kernel_rfl
theorem ze19 : czero Tryz.prog 19 = some (.agg #[.pointer none]) := by kernel_rfl
theorem fa19x0 : faOk Tryz.prog 19 0 = some 0 := by kernel_rfl
theorem sz20 : szOf Tryz.prog 20 = some 1 := by kernel_rfl
theorem is20 : (Tryz.prog.info? 20).isSome = true := by kernel_rfl
theorem ce20 : Tryz.prog.cellsOf 20 = 1 := by kernel_rfl
theorem ag20 : aggT Tryz.prog 20 = some false := by kernel_rfl
theorem ze20 : czero Tryz.prog 20 = some (.nilIface) := by kernel_rfl
theorem sz21 : szOf Tryz.prog 21 = some 1 := by kernel_rfl
theorem is21 : (Tryz.prog.info? 21).isSome = true := by kernel_rfl
theorem ce21 : Tryz.prog.cellsOf 21 = 1 := by kernel_rfl
theorem ag21 : aggT Tryz.prog 21 = some false := by kernel_rfl
theorem ze21 : czero Tryz.prog 21 = some (.int .i32 0) := by kernel_rfl
theorem sz22 : szOf Tryz.prog 22 = some 4 := by kernel_rfl
theorem is22 : (Tryz.prog.info? 22).isSome = true := by kernel_rfl
theorem ce22 : Tryz.prog.cellsOf 22 = 4 := by kernel_rfl
theorem ag22 : aggT Tryz.prog 22 = some true := by kernel_rfl
theorem ze22 : czero Tryz.prog 22 = some (.agg #[.int .i64 0, .int .i64 0, .int .i64 0, .int .i64 0]) := by kernel_rfl
theorem fa22x0 : faOk Tryz.prog 22 0 = some 0 := by kernel_rfl
theorem fa22x1 : faOk Tryz.prog 22 1 = some 1 := by kernel_rfl
theorem fa22x2 : faOk Tryz.prog 22 2 = some 2 := by kernel_rfl
theorem fa22x3 : faOk Tryz.prog 22 3 = some 3 := by kernel_rfl
theorem sz23 : szOf Tryz.prog 23 = some 4 := by kernel_rfl
theorem is23 : (Tryz.prog.info? 23).isSome = true := by kernel_rfl
theorem ce23 : Tryz.prog.cellsOf 23 = 4 := by kernel_rfl
theorem ag23 : aggT Tryz.prog 23 = some true := by kernel_rfl
theorem ze23 : czero Tryz.prog 23 = some (.agg #[.int .i64 0, .int .i64 0, .int .i64 0, .int .i64 0]) := by kernel_rfl
theorem fa23x0 : faOk Tryz.prog 23 0 = some 0 := by kernel_rfl
theorem fa23x1 : faOk Tryz.prog 23 1 = some 1 := by kernel_rfl
theorem fa23x2 : faOk Tryz.prog 23 2 = some 2 := by kernel_rfl
theorem fa23x3 : faOk Tryz.prog 23 3 = some 3 := by kernel_rfl
theorem sz24 : szOf Tryz.prog 24 = some 1 := by kernel_rfl
theorem is24 : (Tryz.prog.info? 24).isSome = true := by kernel_rfl
theorem ce24 : Tryz.prog.cellsOf 24 = 1 := by kernel_rfl
theorem ag24 : aggT Tryz.prog 24 = some false := by kernel_rfl
theorem ze24 : czero Tryz.prog 24 = some (.nilFunc) := by kernel_rfl
theorem sz25 : szOf Tryz.prog 25 = some 1 := by kernel_rfl
theorem is25 : (Tryz.prog.info? 25).isSome = true := by kernel_rfl
theorem ce25 : Tryz.prog.cellsOf 25 = 1 := by kernel_rfl
theorem ag25 : aggT Tryz.prog 25 = some false := by kernel_rfl
theorem ze25 : czero Tryz.prog 25 = some (.int .i64 0) := by kernel_rfl
theorem sz26 : szOf Tryz.prog 26 = some 1 := by kernel_rfl
theorem is26 : (Tryz.prog.info? 26).isSome = true := by kernel_rfl
theorem ce26 : Tryz.prog.cellsOf 26 = 1 := by kernel_rfl
theorem ag26 : aggT Tryz.prog 26 = some false := by kernel_rfl
theorem ze26 : czero Tryz.prog 26 = some (.slice none 0 0) := by kernel_rfl
theorem sz27 : szOf Tryz.prog 27 = some 5 := by kernel_rfl
theorem is27 : (Tryz.prog.info? 27).isSome = true := by kernel_rfl
theorem ce27 : Tryz.prog.cellsOf 27 = 5 := by kernel_rfl
theorem ag27 : aggT Tryz.prog 27 = some true := by kernel_rfl
theorem ze27 : czero Tryz.prog 27 = some (.agg #[.int .i64 0, .int .i64 0, .int .i64 0, .slice none 0 0, .string ByteArray.empty]) := by kernel_rfl
theorem fa27x0 : faOk Tryz.prog 27 0 = some 0 := by kernel_rfl
theorem fa27x1 : faOk Tryz.prog 27 1 = some 1 := by kernel_rfl
theorem fa27x2 : faOk Tryz.prog 27 2 = some 2 := by kernel_rfl
theorem fa27x3 : faOk Tryz.prog 27 3 = some 3 := by kernel_rfl
theorem fa27x4 : faOk Tryz.prog 27 4 = some 4 := by kernel_rfl
theorem sz28 : szOf Tryz.prog 28 = some 5 := by kernel_rfl
theorem is28 : (Tryz.prog.info? 28).isSome = true := by kernel_rfl
theorem ce28 : Tryz.prog.cellsOf 28 = 5 := by kernel_rfl
theorem ag28 : aggT Tryz.prog 28 = some true := by kernel_rfl
theorem ze28 : czero Tryz.prog 28 = some (.agg #[.int .i64 0, .int .i64 0, .int .i64 0, .slice none 0 0, .string ByteArray.empty]) := by kernel_rfl
theorem fa28x0 : faOk Tryz.prog 28 0 = some 0 := by kernel_rfl
theorem fa28x1 : faOk Tryz.prog 28 1 = some 1 := by kernel_rfl
theorem fa28x2 : faOk Tryz.prog 28 2 = some 2 := by kernel_rfl
theorem fa28x3 : faOk Tryz.prog 28 3 = some 3 := by kernel_rfl
theorem fa28x4 : faOk Tryz.prog 28 4 = some 4 := by kernel_rfl
theorem sz29 : szOf Tryz.prog 29 = some 1 := by kernel_rfl
theorem is29 : (Tryz.prog.info? 29).isSome = true := by kernel_rfl
theorem ce29 : Tryz.prog.cellsOf 29 = 1 := by kernel_rfl
theorem ag29 : aggT Tryz.prog 29 = some false := by kernel_rfl
theorem sz30 : szOf Tryz.prog 30 = some 1 := by kernel_rfl
theorem is30 : (Tryz.prog.info? 30).isSome = true := by kernel_rfl
theorem ce30 : Tryz.prog.cellsOf 30 = 1 := by kernel_rfl
theorem ag30 : aggT Tryz.prog 30 = some false := by kernel_rfl
theorem ze30 : czero Tryz.prog 30 = some (.nilFunc) := by kernel_rfl
theorem sz31 : szOf Tryz.prog 31 = some 1 := by kernel_rfl
theorem is31 : (Tryz.prog.info? 31).isSome = true := by kernel_rfl
theorem ce31 : Tryz.prog.cellsOf 31 = 1 := by kernel_rfl
theorem ag31 : aggT Tryz.prog 31 = some false := by kernel_rfl
theorem ze31 : czero Tryz.prog 31 = some (.slice none 0 0) := by kernel_rfl
theorem sz32 : szOf Tryz.prog 32 = some 3 := by kernel_rfl
theorem is32 : (Tryz.prog.info? 32).isSome = true := by kernel_rfl
theorem ce32 : Tryz.prog.cellsOf 32 = 3 := by kernel_rfl
theorem ag32 : aggT Tryz.prog 32 = some true := by kernel_rfl
theorem ze32 : czero Tryz.prog 32 = some (.agg #[.int .i64 0, .int .i64 0, .slice none 0 0]) := by kernel_rfl
theorem fa32x0 : faOk Tryz.prog 32 0 = some 0 := by kernel_rfl
theorem fa32x1 : faOk Tryz.prog 32 1 = some 1 := by kernel_rfl
theorem fa32x2 : faOk Tryz.prog 32 2 = some 2 := by kernel_rfl
theorem sz33 : szOf Tryz.prog 33 = some 3 := by kernel_rfl
theorem is33 : (Tryz.prog.info? 33).isSome = true := by kernel_rfl
theorem ce33 : Tryz.prog.cellsOf 33 = 3 := by kernel_rfl
theorem ag33 : aggT Tryz.prog 33 = some true := by kernel_rfl
theorem ze33 : czero Tryz.prog 33 = some (.agg #[.int .i64 0, .int .i64 0, .slice none 0 0]) := by kernel_rfl
theorem fa33x0 : faOk Tryz.prog 33 0 = some 0 := by kernel_rfl
theorem fa33x1 : faOk Tryz.prog 33 1 = some 1 := by kernel_rfl
theorem fa33x2 : faOk Tryz.prog 33 2 = some 2 := by kernel_rfl
theorem sz34 : szOf Tryz.prog 34 = some 1 := by kernel_rfl
theorem is34 : (Tryz.prog.info? 34).isSome = true := by kernel_rfl
theorem ce34 : Tryz.prog.cellsOf 34 = 1 := by kernel_rfl
theorem ag34 : aggT Tryz.prog 34 = some false := by kernel_rfl
theorem ze34 : czero Tryz.prog 34 = some (.slice none 0 0) := by kernel_rfl
theorem sz35 : szOf Tryz.prog 35 = some 2 := by kernel_rfl
theorem is35 : (Tryz.prog.info? 35).isSome = true := by kernel_rfl
theorem ce35 : Tryz.prog.cellsOf 35 = 2 := by kernel_rfl
theorem ag35 : aggT Tryz.prog 35 = some true := by kernel_rfl
theorem ze35 : czero Tryz.prog 35 = some (.agg #[.int .i64 0, .slice none 0 0]) := by kernel_rfl
theorem fa35x0 : faOk Tryz.prog 35 0 = some 0 := by kernel_rfl
theorem fa35x1 : faOk Tryz.prog 35 1 = some 1 := by kernel_rfl
theorem sz36 : szOf Tryz.prog 36 = some 2 := by kernel_rfl
theorem is36 : (Tryz.prog.info? 36).isSome = true := by kernel_rfl
theorem ce36 : Tryz.prog.cellsOf 36 = 2 := by kernel_rfl
theorem ag36 : aggT Tryz.prog 36 = some true := by kernel_rfl
theorem ze36 : czero Tryz.prog 36 = some (.agg #[.int .i64 0, .slice none 0 0]) := by kernel_rfl
theorem fa36x0 : faOk Tryz.prog 36 0 = some 0 := by kernel_rfl
theorem fa36x1 : faOk Tryz.prog 36 1 = some 1 := by kernel_rfl
theorem sz37 : szOf Tryz.prog 37 = some 7 := by kernel_rfl
theorem is37 : (Tryz.prog.info? 37).isSome = true := by kernel_rfl
theorem ce37 : Tryz.prog.cellsOf 37 = 7 := by kernel_rfl
theorem ag37 : aggT Tryz.prog 37 = some true := by kernel_rfl
theorem ze37 : czero Tryz.prog 37 = some (.agg #[.int .i64 0, .int .i64 0, .int .i64 0, .string ByteArray.empty, .slice none 0 0, .slice none 0 0, .int .i64 0]) := by kernel_rfl
theorem fa37x0 : faOk Tryz.prog 37 0 = some 0 := by kernel_rfl
theorem fa37x1 : faOk Tryz.prog 37 1 = some 1 := by kernel_rfl
theorem fa37x2 : faOk Tryz.prog 37 2 = some 2 := by kernel_rfl
theorem fa37x3 : faOk Tryz.prog 37 3 = some 3 := by kernel_rfl
theorem fa37x4 : faOk Tryz.prog 37 4 = some 4 := by kernel_rfl
theorem fa37x5 : faOk Tryz.prog 37 5 = some 5 := by kernel_rfl
theorem fa37x6 : faOk Tryz.prog 37 6 = some 6 := by kernel_rfl
theorem sz38 : szOf Tryz.prog 38 = some 7 := by kernel_rfl
theorem is38 : (Tryz.prog.info? 38).isSome = true := by kernel_rfl
theorem ce38 : Tryz.prog.cellsOf 38 = 7 := by kernel_rfl
theorem ag38 : aggT Tryz.prog 38 = some true := by kernel_rfl
theorem ze38 : czero Tryz.prog 38 = some (.agg #[.int .i64 0, .int .i64 0, .int .i64 0, .string ByteArray.empty, .slice none 0 0, .slice none 0 0, .int .i64 0]) := by kernel_rfl
theorem fa38x0 : faOk Tryz.prog 38 0 = some 0 := by kernel_rfl
theorem fa38x1 : faOk Tryz.prog 38 1 = some 1 := by kernel_rfl
theorem fa38x2 : faOk Tryz.prog 38 2 = some 2 := by kernel_rfl
theorem fa38x3 : faOk Tryz.prog 38 3 = some 3 := by kernel_rfl
theorem fa38x4 : faOk Tryz.prog 38 4 = some 4 := by kernel_rfl
theorem fa38x5 : faOk Tryz.prog 38 5 = some 5 := by kernel_rfl
theorem fa38x6 : faOk Tryz.prog 38 6 = some 6 := by kernel_rfl
theorem sz39 : szOf Tryz.prog 39 = some 1 := by kernel_rfl
theorem is39 : (Tryz.prog.info? 39).isSome = true := by kernel_rfl
theorem ce39 : Tryz.prog.cellsOf 39 = 1 := by kernel_rfl
theorem ag39 : aggT Tryz.prog 39 = some false := by kernel_rfl
theorem ze39 : czero Tryz.prog 39 = some (.nilFunc) := by kernel_rfl
theorem sz40 : szOf Tryz.prog 40 = some 1 := by kernel_rfl
theorem is40 : (Tryz.prog.info? 40).isSome = true := by kernel_rfl
theorem ce40 : Tryz.prog.cellsOf 40 = 1 := by kernel_rfl
theorem ag40 : aggT Tryz.prog 40 = some false := by kernel_rfl
theorem ze40 : czero Tryz.prog 40 = some (.nilFunc) := by kernel_rfl
theorem sz41 : szOf Tryz.prog 41 = some 3 := by kernel_rfl
theorem is41 : (Tryz.prog.info? 41).isSome = true := by kernel_rfl
theorem ce41 : Tryz.prog.cellsOf 41 = 3 := by kernel_rfl
theorem ag41 : aggT Tryz.prog 41 = some true := by kernel_rfl
theorem ze41 : czero Tryz.prog 41 = some (.agg #[.int .i64 0, .int .i64 0, .string ByteArray.empty]) := by kernel_rfl
theorem fa41x0 : faOk Tryz.prog 41 0 = some 0 := by kernel_rfl
theorem fa41x1 : faOk Tryz.prog 41 1 = some 1 := by kernel_rfl
theorem fa41x2 : faOk Tryz.prog 41 2 = some 2 := by kernel_rfl
theorem sz42 : szOf Tryz.prog 42 = some 3 := by kernel_rfl
theorem is42 : (Tryz.prog.info? 42).isSome = true := by kernel_rfl
theorem ce42 : Tryz.prog.cellsOf 42 = 3 := by kernel_rfl
theorem ag42 : aggT Tryz.prog 42 = some true := by kernel_rfl
theorem ze42 : czero Tryz.prog 42 = some (.agg #[.int .i64 0, .int .i64 0, .string ByteArray.empty]) := by kernel_rfl
theorem fa42x0 : faOk Tryz.prog 42 0 = some 0 := by kernel_rfl
theorem fa42x1 : faOk Tryz.prog 42 1 = some 1 := by kernel_rfl
theorem fa42x2 : faOk Tryz.prog 42 2 = some 2 := by kernel_rfl
theorem sz43 : szOf Tryz.prog 43 = some 13 := by kernel_rfl
theorem is43 : (Tryz.prog.info? 43).isSome = true := by kernel_rfl
theorem ce43 : Tryz.prog.cellsOf 43 = 13 := by kernel_rfl
theorem ag43 : aggT Tryz.prog 43 = some true := by kernel_rfl
theorem ze43 : czero Tryz.prog 43 = some (.agg #[.int .i64 0, .int .i64 0, .int .i64 0, .string ByteArray.empty, .int .i64 0, .int .i64 0, .string ByteArray.empty, .int .i64 0, .int .i64 0, .string ByteArray.empty, .int .i64 0, .int .i64 0, .string ByteArray.empty]) := by kernel_rfl
theorem fa43x0 : faOk Tryz.prog 43 0 = some 0 := by kernel_rfl
theorem fa43x1 : faOk Tryz.prog 43 1 = some 1 := by kernel_rfl
theorem fa43x2 : faOk Tryz.prog 43 2 = some 2 := by kernel_rfl
theorem fa43x3 : faOk Tryz.prog 43 3 = some 3 := by kernel_rfl
theorem fa43x4 : faOk Tryz.prog 43 4 = some 4 := by kernel_rfl
theorem fa43x5 : faOk Tryz.prog 43 5 = some 7 := by kernel_rfl
theorem fa43x6 : faOk Tryz.prog 43 6 = some 10 := by kernel_rfl
theorem sz44 : szOf Tryz.prog 44 = some 13 := by kernel_rfl
theorem is44 : (Tryz.prog.info? 44).isSome = true := by kernel_rfl
theorem ce44 : Tryz.prog.cellsOf 44 = 13 := by kernel_rfl
theorem ag44 : aggT Tryz.prog 44 = some true := by kernel_rfl
theorem ze44 : czero Tryz.prog 44 = some (.agg #[.int .i64 0, .int .i64 0, .int .i64 0, .string ByteArray.empty, .int .i64 0, .int .i64 0, .string ByteArray.empty, .int .i64 0, .int .i64 0, .string ByteArray.empty, .int .i64 0, .int .i64 0, .string ByteArray.empty]) := by kernel_rfl
theorem fa44x0 : faOk Tryz.prog 44 0 = some 0 := by kernel_rfl
theorem fa44x1 : faOk Tryz.prog 44 1 = some 1 := by kernel_rfl
theorem fa44x2 : faOk Tryz.prog 44 2 = some 2 := by kernel_rfl
theorem fa44x3 : faOk Tryz.prog 44 3 = some 3 := by kernel_rfl
theorem fa44x4 : faOk Tryz.prog 44 4 = some 4 := by kernel_rfl
theorem fa44x5 : faOk Tryz.prog 44 5 = some 7 := by kernel_rfl
theorem fa44x6 : faOk Tryz.prog 44 6 = some 10 := by kernel_rfl
theorem sz45 : szOf Tryz.prog 45 = some 1 := by kernel_rfl
theorem is45 : (Tryz.prog.info? 45).isSome = true := by kernel_rfl
theorem ce45 : Tryz.prog.cellsOf 45 = 1 := by kernel_rfl
theorem ag45 : aggT Tryz.prog 45 = some false := by kernel_rfl
theorem ze45 : czero Tryz.prog 45 = some (.nilFunc) := by kernel_rfl
theorem sz46 : szOf Tryz.prog 46 = some 1 := by kernel_rfl
theorem is46 : (Tryz.prog.info? 46).isSome = true := by kernel_rfl
theorem ce46 : Tryz.prog.cellsOf 46 = 1 := by kernel_rfl
theorem ag46 : aggT Tryz.prog 46 = some false := by kernel_rfl
theorem ze46 : czero Tryz.prog 46 = some (.pointer none) := by kernel_rfl
theorem nt46 {x y : Operand} : cbin Tryz.prog .eql 46 x y (.pointer none) (.pointer none) = some (.bool true) := by kernel_rfl
theorem nn46 {x y : Operand} : cbin Tryz.prog .neq 46 x y (.pointer none) (.pointer none) = some (.bool false) := by kernel_rfl
theorem nf46 {x y : Operand} {a : Addr} : cbin Tryz.prog .eql 46 x y (.pointer (some a)) (.pointer none) = some (.bool false) := by kernel_rfl
theorem ng46 {x y : Operand} {a : Addr} : cbin Tryz.prog .neq 46 x y (.pointer (some a)) (.pointer none) = some (.bool true) := by kernel_rfl
theorem sz47 : szOf Tryz.prog 47 = some 1 := by kernel_rfl
theorem is47 : (Tryz.prog.info? 47).isSome = true := by kernel_rfl
theorem ce47 : Tryz.prog.cellsOf 47 = 1 := by kernel_rfl
theorem ag47 : aggT Tryz.prog 47 = some false := by kernel_rfl
theorem ze47 : czero Tryz.prog 47 = some (.pointer none) := by kernel_rfl
theorem nt47 {x y : Operand} : cbin Tryz.prog .eql 47 x y (.pointer none) (.pointer none) = some (.bool true) := by kernel_rfl
theorem nn47 {x y : Operand} : cbin Tryz.prog .neq 47 x y (.pointer none) (.pointer none) = some (.bool false) := by kernel_rfl
theorem nf47 {x y : Operand} {a : Addr} : cbin Tryz.prog .eql 47 x y (.pointer (some a)) (.pointer none) = some (.bool false) := by kernel_rfl
theorem ng47 {x y : Operand} {a : Addr} : cbin Tryz.prog .neq 47 x y (.pointer (some a)) (.pointer none) = some (.bool true) := by kernel_rfl
theorem sz48 : szOf Tryz.prog 48 = some 1 := by kernel_rfl
theorem is48 : (Tryz.prog.info? 48).isSome = true := by kernel_rfl
theorem ce48 : Tryz.prog.cellsOf 48 = 1 := by kernel_rfl
theorem ag48 : aggT Tryz.prog 48 = some false := by kernel_rfl
theorem ze48 : czero Tryz.prog 48 = some (.pointer none) := by kernel_rfl
theorem nt48 {x y : Operand} : cbin Tryz.prog .eql 48 x y (.pointer none) (.pointer none) = some (.bool true) := by kernel_rfl
theorem nn48 {x y : Operand} : cbin Tryz.prog .neq 48 x y (.pointer none) (.pointer none) = some (.bool false) := by kernel_rfl
theorem nf48 {x y : Operand} {a : Addr} : cbin Tryz.prog .eql 48 x y (.pointer (some a)) (.pointer none) = some (.bool false) := by kernel_rfl
theorem ng48 {x y : Operand} {a : Addr} : cbin Tryz.prog .neq 48 x y (.pointer (some a)) (.pointer none) = some (.bool true) := by kernel_rfl
theorem sz49 : szOf Tryz.prog 49 = some 1 := by kernel_rfl
theorem is49 : (Tryz.prog.info? 49).isSome = true := by kernel_rfl
theorem ce49 : Tryz.prog.cellsOf 49 = 1 := by kernel_rfl
theorem ag49 : aggT Tryz.prog 49 = some false := by kernel_rfl
theorem ze49 : czero Tryz.prog 49 = some (.slice none 0 0) := by kernel_rfl
theorem sz50 : szOf Tryz.prog 50 = some 0 := by kernel_rfl
theorem is50 : (Tryz.prog.info? 50).isSome = true := by kernel_rfl
theorem ce50 : Tryz.prog.cellsOf 50 = 0 := by kernel_rfl
theorem ag50 : aggT Tryz.prog 50 = some true := by kernel_rfl
theorem ze50 : czero Tryz.prog 50 = some (.agg #[]) := by kernel_rfl
theorem sz51 : szOf Tryz.prog 51 = some 0 := by kernel_rfl
theorem is51 : (Tryz.prog.info? 51).isSome = true := by kernel_rfl
theorem ce51 : Tryz.prog.cellsOf 51 = 0 := by kernel_rfl
theorem ag51 : aggT Tryz.prog 51 = some true := by kernel_rfl
theorem ze51 : czero Tryz.prog 51 = some (.agg #[]) := by kernel_rfl
theorem sz52 : szOf Tryz.prog 52 = some 0 := by kernel_rfl
theorem is52 : (Tryz.prog.info? 52).isSome = true := by kernel_rfl
theorem ce52 : Tryz.prog.cellsOf 52 = 0 := by kernel_rfl
theorem ag52 : aggT Tryz.prog 52 = some true := by kernel_rfl
theorem ze52 : czero Tryz.prog 52 = some (.agg #[]) := by kernel_rfl
theorem sz53 : szOf Tryz.prog 53 = some 1 := by kernel_rfl
theorem is53 : (Tryz.prog.info? 53).isSome = true := by kernel_rfl
theorem ce53 : Tryz.prog.cellsOf 53 = 1 := by kernel_rfl
theorem ag53 : aggT Tryz.prog 53 = some true := by kernel_rfl
theorem ze53 : czero Tryz.prog 53 = some (.agg #[.int .i64 0]) := by kernel_rfl
theorem fa53x2 : faOk Tryz.prog 53 2 = some 0 := by kernel_rfl
theorem sz54 : szOf Tryz.prog 54 = some 1 := by kernel_rfl
theorem is54 : (Tryz.prog.info? 54).isSome = true := by kernel_rfl
theorem ce54 : Tryz.prog.cellsOf 54 = 1 := by kernel_rfl
theorem ag54 : aggT Tryz.prog 54 = some true := by kernel_rfl
theorem ze54 : czero Tryz.prog 54 = some (.agg #[.int .i64 0]) := by kernel_rfl
theorem fa54x2 : faOk Tryz.prog 54 2 = some 0 := by kernel_rfl
theorem sz55 : szOf Tryz.prog 55 = some 1 := by kernel_rfl
theorem is55 : (Tryz.prog.info? 55).isSome = true := by kernel_rfl
theorem ce55 : Tryz.prog.cellsOf 55 = 1 := by kernel_rfl
theorem ag55 : aggT Tryz.prog 55 = some false := by kernel_rfl
theorem ze55 : czero Tryz.prog 55 = some (.slice none 0 0) := by kernel_rfl
theorem sz56 : szOf Tryz.prog 56 = some 17 := by kernel_rfl
theorem is56 : (Tryz.prog.info? 56).isSome = true := by kernel_rfl
theorem ce56 : Tryz.prog.cellsOf 56 = 17 := by kernel_rfl
theorem ag56 : aggT Tryz.prog 56 = some true := by kernel_rfl
theorem ze56 : czero Tryz.prog 56 = some (.agg #[.pointer none, .pointer none, .int .i64 0, .int .i64 0, .int .i64 0, .int .i64 0, .slice none 0 0, .int .i64 0, .int .i64 0, .int .i64 0, .slice none 0 0, .slice none 0 0, .int .i64 0, .int .i64 0, .int .i64 0, .int .i64 0, .string ByteArray.empty]) := by kernel_rfl
theorem fa56x0 : faOk Tryz.prog 56 0 = some 0 := by kernel_rfl
theorem fa56x1 : faOk Tryz.prog 56 1 = some 1 := by kernel_rfl
theorem fa56x2 : faOk Tryz.prog 56 2 = some 2 := by kernel_rfl
theorem fa56x3 : faOk Tryz.prog 56 3 = some 6 := by kernel_rfl
theorem fa56x4 : faOk Tryz.prog 56 4 = some 7 := by kernel_rfl
theorem fa56x5 : faOk Tryz.prog 56 5 = some 8 := by kernel_rfl
theorem fa56x6 : faOk Tryz.prog 56 6 = some 9 := by kernel_rfl
theorem fa56x7 : faOk Tryz.prog 56 7 = some 10 := by kernel_rfl
theorem fa56x8 : faOk Tryz.prog 56 8 = some 11 := by kernel_rfl
theorem fa56x9 : faOk Tryz.prog 56 9 = some 12 := by kernel_rfl
theorem fa56x10 : faOk Tryz.prog 56 10 = some 13 := by kernel_rfl
theorem fa56x11 : faOk Tryz.prog 56 11 = some 14 := by kernel_rfl
theorem sz57 : szOf Tryz.prog 57 = some 17 := by kernel_rfl
theorem is57 : (Tryz.prog.info? 57).isSome = true := by kernel_rfl
theorem ce57 : Tryz.prog.cellsOf 57 = 17 := by kernel_rfl
theorem ag57 : aggT Tryz.prog 57 = some true := by kernel_rfl
theorem ze57 : czero Tryz.prog 57 = some (.agg #[.pointer none, .pointer none, .int .i64 0, .int .i64 0, .int .i64 0, .int .i64 0, .slice none 0 0, .int .i64 0, .int .i64 0, .int .i64 0, .slice none 0 0, .slice none 0 0, .int .i64 0, .int .i64 0, .int .i64 0, .int .i64 0, .string ByteArray.empty]) := by kernel_rfl
theorem fa57x0 : faOk Tryz.prog 57 0 = some 0 := by kernel_rfl
theorem fa57x1 : faOk Tryz.prog 57 1 = some 1 := by kernel_rfl
theorem fa57x2 : faOk Tryz.prog 57 2 = some 2 := by kernel_rfl
theorem fa57x3 : faOk Tryz.prog 57 3 = some 6 := by kernel_rfl
theorem fa57x4 : faOk Tryz.prog 57 4 = some 7 := by kernel_rfl
theorem fa57x5 : faOk Tryz.prog 57 5 = some 8 := by kernel_rfl
theorem fa57x6 : faOk Tryz.prog 57 6 = some 9 := by kernel_rfl
theorem fa57x7 : faOk Tryz.prog 57 7 = some 10 := by kernel_rfl
theorem fa57x8 : faOk Tryz.prog 57 8 = some 11 := by kernel_rfl
theorem fa57x9 : faOk Tryz.prog 57 9 = some 12 := by kernel_rfl
theorem fa57x10 : faOk Tryz.prog 57 10 = some 13 := by kernel_rfl
theorem fa57x11 : faOk Tryz.prog 57 11 = some 14 := by kernel_rfl
theorem sz58 : szOf Tryz.prog 58 = some 1 := by kernel_rfl
theorem is58 : (Tryz.prog.info? 58).isSome = true := by kernel_rfl
theorem ce58 : Tryz.prog.cellsOf 58 = 1 := by kernel_rfl
theorem ag58 : aggT Tryz.prog 58 = some false := by kernel_rfl
theorem ze58 : czero Tryz.prog 58 = some (.slice none 0 0) := by kernel_rfl
theorem sz59 : szOf Tryz.prog 59 = some 1 := by kernel_rfl
theorem is59 : (Tryz.prog.info? 59).isSome = true := by kernel_rfl
theorem ce59 : Tryz.prog.cellsOf 59 = 1 := by kernel_rfl
theorem ag59 : aggT Tryz.prog 59 = some false := by kernel_rfl
theorem sz60 : szOf Tryz.prog 60 = some 1 := by kernel_rfl
theorem is60 : (Tryz.prog.info? 60).isSome = true := by kernel_rfl
theorem ce60 : Tryz.prog.cellsOf 60 = 1 := by kernel_rfl
theorem ag60 : aggT Tryz.prog 60 = some false := by kernel_rfl
theorem ze60 : czero Tryz.prog 60 = some (.nilFunc) := by kernel_rfl
theorem sz61 : szOf Tryz.prog 61 = some 1 := by kernel_rfl
theorem is61 : (Tryz.prog.info? 61).isSome = true := by kernel_rfl
theorem ce61 : Tryz.prog.cellsOf 61 = 1 := by kernel_rfl
theorem ag61 : aggT Tryz.prog 61 = some false := by kernel_rfl
theorem ze61 : czero Tryz.prog 61 = some (.nilFunc) := by kernel_rfl
theorem sz62 : szOf Tryz.prog 62 = some 1 := by kernel_rfl
theorem is62 : (Tryz.prog.info? 62).isSome = true := by kernel_rfl
theorem ce62 : Tryz.prog.cellsOf 62 = 1 := by kernel_rfl
theorem ag62 : aggT Tryz.prog 62 = some false := by kernel_rfl
theorem ze62 : czero Tryz.prog 62 = some (.nilFunc) := by kernel_rfl
theorem sz63 : szOf Tryz.prog 63 = some 1 := by kernel_rfl
theorem is63 : (Tryz.prog.info? 63).isSome = true := by kernel_rfl
theorem ce63 : Tryz.prog.cellsOf 63 = 1 := by kernel_rfl
theorem ag63 : aggT Tryz.prog 63 = some false := by kernel_rfl
theorem ze63 : czero Tryz.prog 63 = some (.nilFunc) := by kernel_rfl
theorem sz64 : szOf Tryz.prog 64 = some 1 := by kernel_rfl
theorem is64 : (Tryz.prog.info? 64).isSome = true := by kernel_rfl
theorem ce64 : Tryz.prog.cellsOf 64 = 1 := by kernel_rfl
theorem ag64 : aggT Tryz.prog 64 = some false := by kernel_rfl
theorem ze64 : czero Tryz.prog 64 = some (.nilFunc) := by kernel_rfl
theorem sz65 : szOf Tryz.prog 65 = some 1 := by kernel_rfl
theorem is65 : (Tryz.prog.info? 65).isSome = true := by kernel_rfl
theorem ce65 : Tryz.prog.cellsOf 65 = 1 := by kernel_rfl
theorem ag65 : aggT Tryz.prog 65 = some false := by kernel_rfl
theorem ze65 : czero Tryz.prog 65 = some (.nilFunc) := by kernel_rfl
theorem sz66 : szOf Tryz.prog 66 = some 1 := by kernel_rfl
theorem is66 : (Tryz.prog.info? 66).isSome = true := by kernel_rfl
theorem ce66 : Tryz.prog.cellsOf 66 = 1 := by kernel_rfl
theorem ag66 : aggT Tryz.prog 66 = some false := by kernel_rfl
theorem ze66 : czero Tryz.prog 66 = some (.nilFunc) := by kernel_rfl
theorem sz67 : szOf Tryz.prog 67 = some 1 := by kernel_rfl
theorem is67 : (Tryz.prog.info? 67).isSome = true := by kernel_rfl
theorem ce67 : Tryz.prog.cellsOf 67 = 1 := by kernel_rfl
theorem ag67 : aggT Tryz.prog 67 = some false := by kernel_rfl
theorem ze67 : czero Tryz.prog 67 = some (.nilFunc) := by kernel_rfl
theorem sz68 : szOf Tryz.prog 68 = some 1 := by kernel_rfl
theorem is68 : (Tryz.prog.info? 68).isSome = true := by kernel_rfl
theorem ce68 : Tryz.prog.cellsOf 68 = 1 := by kernel_rfl
theorem ag68 : aggT Tryz.prog 68 = some false := by kernel_rfl
theorem ze68 : czero Tryz.prog 68 = some (.nilFunc) := by kernel_rfl
theorem sz69 : szOf Tryz.prog 69 = some 1 := by kernel_rfl
theorem is69 : (Tryz.prog.info? 69).isSome = true := by kernel_rfl
theorem ce69 : Tryz.prog.cellsOf 69 = 1 := by kernel_rfl
theorem ag69 : aggT Tryz.prog 69 = some false := by kernel_rfl
theorem ze69 : czero Tryz.prog 69 = some (.nilFunc) := by kernel_rfl
theorem sz70 : szOf Tryz.prog 70 = some 1 := by kernel_rfl
theorem is70 : (Tryz.prog.info? 70).isSome = true := by kernel_rfl
theorem ce70 : Tryz.prog.cellsOf 70 = 1 := by kernel_rfl
theorem ag70 : aggT Tryz.prog 70 = some false := by kernel_rfl
theorem ze70 : czero Tryz.prog 70 = some (.nilFunc) := by kernel_rfl
theorem sz71 : szOf Tryz.prog 71 = some 1 := by kernel_rfl
theorem is71 : (Tryz.prog.info? 71).isSome = true := by kernel_rfl
theorem ce71 : Tryz.prog.cellsOf 71 = 1 := by kernel_rfl
theorem ag71 : aggT Tryz.prog 71 = some false := by kernel_rfl
theorem ze71 : czero Tryz.prog 71 = some (.nilFunc) := by kernel_rfl
theorem sz72 : szOf Tryz.prog 72 = some 1 := by kernel_rfl
theorem is72 : (Tryz.prog.info? 72).isSome = true := by kernel_rfl
theorem ce72 : Tryz.prog.cellsOf 72 = 1 := by kernel_rfl
theorem ag72 : aggT Tryz.prog 72 = some false := by kernel_rfl
theorem ze72 : czero Tryz.prog 72 = some (.nilFunc) := by kernel_rfl
theorem sz73 : szOf Tryz.prog 73 = some 1 := by kernel_rfl
theorem is73 : (Tryz.prog.info? 73).isSome = true := by kernel_rfl
theorem ce73 : Tryz.prog.cellsOf 73 = 1 := by kernel_rfl
theorem ag73 : aggT Tryz.prog 73 = some false := by kernel_rfl
theorem ze73 : czero Tryz.prog 73 = some (.nilFunc) := by kernel_rfl
theorem sz74 : szOf Tryz.prog 74 = some 1 := by kernel_rfl
theorem is74 : (Tryz.prog.info? 74).isSome = true := by kernel_rfl
theorem ce74 : Tryz.prog.cellsOf 74 = 1 := by kernel_rfl
theorem ag74 : aggT Tryz.prog 74 = some false := by kernel_rfl
theorem ze74 : czero Tryz.prog 74 = some (.nilFunc) := by kernel_rfl
theorem sz75 : szOf Tryz.prog 75 = some 1 := by kernel_rfl
theorem is75 : (Tryz.prog.info? 75).isSome = true := by kernel_rfl
theorem ce75 : Tryz.prog.cellsOf 75 = 1 := by kernel_rfl
theorem ag75 : aggT Tryz.prog 75 = some false := by kernel_rfl
theorem ze75 : czero Tryz.prog 75 = some (.nilFunc) := by kernel_rfl
theorem sz76 : szOf Tryz.prog 76 = some 1 := by kernel_rfl
theorem is76 : (Tryz.prog.info? 76).isSome = true := by kernel_rfl
theorem ce76 : Tryz.prog.cellsOf 76 = 1 := by kernel_rfl
theorem ag76 : aggT Tryz.prog 76 = some false := by kernel_rfl
theorem ze76 : czero Tryz.prog 76 = some (.slice none 0 0) := by kernel_rfl
theorem sz77 : szOf Tryz.prog 77 = some 3 := by kernel_rfl
theorem is77 : (Tryz.prog.info? 77).isSome = true := by kernel_rfl
theorem ce77 : Tryz.prog.cellsOf 77 = 3 := by kernel_rfl
theorem ag77 : aggT Tryz.prog 77 = some true := by kernel_rfl
theorem ze77 : czero Tryz.prog 77 = some (.agg #[.int .i64 0, .slice none 0 0, .slice none 0 0]) := by kernel_rfl
theorem fa77x0 : faOk Tryz.prog 77 0 = some 0 := by kernel_rfl
theorem fa77x1 : faOk Tryz.prog 77 1 = some 1 := by kernel_rfl
theorem fa77x2 : faOk Tryz.prog 77 2 = some 2 := by kernel_rfl
theorem sz78 : szOf Tryz.prog 78 = some 3 := by kernel_rfl
theorem is78 : (Tryz.prog.info? 78).isSome = true := by kernel_rfl
theorem ce78 : Tryz.prog.cellsOf 78 = 3 := by kernel_rfl
theorem ag78 : aggT Tryz.prog 78 = some true := by kernel_rfl
theorem ze78 : czero Tryz.prog 78 = some (.agg #[.int .i64 0, .slice none 0 0, .slice none 0 0]) := by kernel_rfl
theorem fa78x0 : faOk Tryz.prog 78 0 = some 0 := by kernel_rfl
theorem fa78x1 : faOk Tryz.prog 78 1 = some 1 := by kernel_rfl
theorem fa78x2 : faOk Tryz.prog 78 2 = some 2 := by kernel_rfl
theorem sz79 : szOf Tryz.prog 79 = some 1 := by kernel_rfl
theorem is79 : (Tryz.prog.info? 79).isSome = true := by kernel_rfl
theorem ce79 : Tryz.prog.cellsOf 79 = 1 := by kernel_rfl
theorem ag79 : aggT Tryz.prog 79 = some false := by kernel_rfl
theorem ze79 : czero Tryz.prog 79 = some (.pointer none) := by kernel_rfl
theorem nt79 {x y : Operand} : cbin Tryz.prog .eql 79 x y (.pointer none) (.pointer none) = some (.bool true) := by kernel_rfl
theorem nn79 {x y : Operand} : cbin Tryz.prog .neq 79 x y (.pointer none) (.pointer none) = some (.bool false) := by kernel_rfl
theorem nf79 {x y : Operand} {a : Addr} : cbin Tryz.prog .eql 79 x y (.pointer (some a)) (.pointer none) = some (.bool false) := by kernel_rfl
theorem ng79 {x y : Operand} {a : Addr} : cbin Tryz.prog .neq 79 x y (.pointer (some a)) (.pointer none) = some (.bool true) := by kernel_rfl
theorem sz80 : szOf Tryz.prog 80 = some 1 := by kernel_rfl
theorem is80 : (Tryz.prog.info? 80).isSome = true := by kernel_rfl
theorem ce80 : Tryz.prog.cellsOf 80 = 1 := by kernel_rfl
theorem ag80 : aggT Tryz.prog 80 = some false := by kernel_rfl
theorem ze80 : czero Tryz.prog 80 = some (.slice none 0 0) := by kernel_rfl
theorem sz81 : szOf Tryz.prog 81 = some 6 := by kernel_rfl
theorem is81 : (Tryz.prog.info? 81).isSome = true := by kernel_rfl
theorem ce81 : Tryz.prog.cellsOf 81 = 6 := by kernel_rfl
theorem ag81 : aggT Tryz.prog 81 = some true := by kernel_rfl
theorem ze81 : czero Tryz.prog 81 = some (.agg #[.int .i64 0, .slice none 0 0, .slice none 0 0, .pointer none, .slice none 0 0, .int .i64 0]) := by kernel_rfl
theorem fa81x0 : faOk Tryz.prog 81 0 = some 0 := by kernel_rfl
theorem fa81x1 : faOk Tryz.prog 81 1 = some 3 := by kernel_rfl
theorem fa81x2 : faOk Tryz.prog 81 2 = some 4 := by kernel_rfl
theorem fa81x3 : faOk Tryz.prog 81 3 = some 5 := by kernel_rfl
theorem sz82 : szOf Tryz.prog 82 = some 6 := by kernel_rfl
theorem is82 : (Tryz.prog.info? 82).isSome = true := by kernel_rfl
theorem ce82 : Tryz.prog.cellsOf 82 = 6 := by kernel_rfl
theorem ag82 : aggT Tryz.prog 82 = some true := by kernel_rfl
theorem ze82 : czero Tryz.prog 82 = some (.agg #[.int .i64 0, .slice none 0 0, .slice none 0 0, .pointer none, .slice none 0 0, .int .i64 0]) := by kernel_rfl
theorem fa82x0 : faOk Tryz.prog 82 0 = some 0 := by kernel_rfl
theorem fa82x1 : faOk Tryz.prog 82 1 = some 3 := by kernel_rfl
theorem fa82x2 : faOk Tryz.prog 82 2 = some 4 := by kernel_rfl
theorem fa82x3 : faOk Tryz.prog 82 3 = some 5 := by kernel_rfl
theorem sz83 : szOf Tryz.prog 83 = some 1 := by kernel_rfl
theorem is83 : (Tryz.prog.info? 83).isSome = true := by kernel_rfl
theorem ce83 : Tryz.prog.cellsOf 83 = 1 := by kernel_rfl
theorem ag83 : aggT Tryz.prog 83 = some false := by kernel_rfl
theorem ze83 : czero Tryz.prog 83 = some (.slice none 0 0) := by kernel_rfl
theorem sz84 : szOf Tryz.prog 84 = some 1 := by kernel_rfl
theorem is84 : (Tryz.prog.info? 84).isSome = true := by kernel_rfl
theorem ce84 : Tryz.prog.cellsOf 84 = 1 := by kernel_rfl
theorem ag84 : aggT Tryz.prog 84 = some false := by kernel_rfl
theorem ze84 : czero Tryz.prog 84 = some (.nilFunc) := by kernel_rfl
theorem sz85 : szOf Tryz.prog 85 = some 1 := by kernel_rfl
theorem is85 : (Tryz.prog.info? 85).isSome = true := by kernel_rfl
theorem ce85 : Tryz.prog.cellsOf 85 = 1 := by kernel_rfl
theorem ag85 : aggT Tryz.prog 85 = some false := by kernel_rfl
theorem ze85 : czero Tryz.prog 85 = some (.slice none 0 0) := by kernel_rfl
theorem sz86 : szOf Tryz.prog 86 = some 1 := by kernel_rfl
theorem is86 : (Tryz.prog.info? 86).isSome = true := by kernel_rfl
theorem ce86 : Tryz.prog.cellsOf 86 = 1 := by kernel_rfl
theorem ag86 : aggT Tryz.prog 86 = some false := by kernel_rfl
theorem ze86 : czero Tryz.prog 86 = some (.nilFunc) := by kernel_rfl
theorem sz87 : szOf Tryz.prog 87 = some 1 := by kernel_rfl
theorem is87 : (Tryz.prog.info? 87).isSome = true := by kernel_rfl
theorem ce87 : Tryz.prog.cellsOf 87 = 1 := by kernel_rfl
theorem ag87 : aggT Tryz.prog 87 = some false := by kernel_rfl
theorem ze87 : czero Tryz.prog 87 = some (.nilFunc) := by kernel_rfl
theorem sz88 : szOf Tryz.prog 88 = some 1 := by kernel_rfl
theorem is88 : (Tryz.prog.info? 88).isSome = true := by kernel_rfl
theorem ce88 : Tryz.prog.cellsOf 88 = 1 := by kernel_rfl
theorem ag88 : aggT Tryz.prog 88 = some false := by kernel_rfl
theorem ze88 : czero Tryz.prog 88 = some (.pointer none) := by kernel_rfl
theorem nt88 {x y : Operand} : cbin Tryz.prog .eql 88 x y (.pointer none) (.pointer none) = some (.bool true) := by kernel_rfl
theorem nn88 {x y : Operand} : cbin Tryz.prog .neq 88 x y (.pointer none) (.pointer none) = some (.bool false) := by kernel_rfl
theorem nf88 {x y : Operand} {a : Addr} : cbin Tryz.prog .eql 88 x y (.pointer (some a)) (.pointer none) = some (.bool false) := by kernel_rfl
theorem ng88 {x y : Operand} {a : Addr} : cbin Tryz.prog .neq 88 x y (.pointer (some a)) (.pointer none) = some (.bool true) := by kernel_rfl
theorem sz89 : szOf Tryz.prog 89 = some 1 := by kernel_rfl
theorem is89 : (Tryz.prog.info? 89).isSome = true := by kernel_rfl
theorem ce89 : Tryz.prog.cellsOf 89 = 1 := by kernel_rfl
theorem ag89 : aggT Tryz.prog 89 = some false := by kernel_rfl
theorem ze89 : czero Tryz.prog 89 = some (.pointer none) := by kernel_rfl
theorem nt89 {x y : Operand} : cbin Tryz.prog .eql 89 x y (.pointer none) (.pointer none) = some (.bool true) := by kernel_rfl
theorem nn89 {x y : Operand} : cbin Tryz.prog .neq 89 x y (.pointer none) (.pointer none) = some (.bool false) := by kernel_rfl
theorem nf89 {x y : Operand} {a : Addr} : cbin Tryz.prog .eql 89 x y (.pointer (some a)) (.pointer none) = some (.bool false) := by kernel_rfl
theorem ng89 {x y : Operand} {a : Addr} : cbin Tryz.prog .neq 89 x y (.pointer (some a)) (.pointer none) = some (.bool true) := by kernel_rfl
theorem sz90 : szOf Tryz.prog 90 = some 1 := by kernel_rfl
theorem is90 : (Tryz.prog.info? 90).isSome = true := by kernel_rfl
theorem ce90 : Tryz.prog.cellsOf 90 = 1 := by kernel_rfl
theorem ag90 : aggT Tryz.prog 90 = some false := by kernel_rfl
theorem ze90 : czero Tryz.prog 90 = some (.nilFunc) := by kernel_rfl
theorem sz91 : szOf Tryz.prog 91 = some 1 := by kernel_rfl
theorem is91 : (Tryz.prog.info? 91).isSome = true := by kernel_rfl
theorem ce91 : Tryz.prog.cellsOf 91 = 1 := by kernel_rfl
theorem ag91 : aggT Tryz.prog 91 = some false := by kernel_rfl
theorem ze91 : czero Tryz.prog 91 = some (.nilFunc) := by kernel_rfl
theorem sz92 : szOf Tryz.prog 92 = some 1 := by kernel_rfl
theorem is92 : (Tryz.prog.info? 92).isSome = true := by kernel_rfl
theorem ce92 : Tryz.prog.cellsOf 92 = 1 := by kernel_rfl
theorem ag92 : aggT Tryz.prog 92 = some false := by kernel_rfl
theorem ze92 : czero Tryz.prog 92 = some (.slice none 0 0) := by kernel_rfl
theorem sz93 : szOf Tryz.prog 93 = some 1 := by kernel_rfl
theorem is93 : (Tryz.prog.info? 93).isSome = true := by kernel_rfl
theorem ce93 : Tryz.prog.cellsOf 93 = 1 := by kernel_rfl
theorem ag93 : aggT Tryz.prog 93 = some false := by kernel_rfl
theorem ze93 : czero Tryz.prog 93 = some (.slice none 0 0) := by kernel_rfl
theorem sz94 : szOf Tryz.prog 94 = some 5 := by kernel_rfl
theorem is94 : (Tryz.prog.info? 94).isSome = true := by kernel_rfl
theorem ce94 : Tryz.prog.cellsOf 94 = 5 := by kernel_rfl
theorem ag94 : aggT Tryz.prog 94 = some true := by kernel_rfl
theorem ze94 : czero Tryz.prog 94 = some (.agg #[.int .i64 0, .int .i64 0, .slice none 0 0, .slice none 0 0, .slice none 0 0]) := by kernel_rfl
theorem fa94x0 : faOk Tryz.prog 94 0 = some 0 := by kernel_rfl
theorem fa94x1 : faOk Tryz.prog 94 1 = some 1 := by kernel_rfl
theorem fa94x2 : faOk Tryz.prog 94 2 = some 2 := by kernel_rfl
theorem fa94x3 : faOk Tryz.prog 94 3 = some 3 := by kernel_rfl
theorem fa94x4 : faOk Tryz.prog 94 4 = some 4 := by kernel_rfl
theorem sz95 : szOf Tryz.prog 95 = some 5 := by kernel_rfl
theorem is95 : (Tryz.prog.info? 95).isSome = true := by kernel_rfl
theorem ce95 : Tryz.prog.cellsOf 95 = 5 := by kernel_rfl
theorem ag95 : aggT Tryz.prog 95 = some true := by kernel_rfl
theorem ze95 : czero Tryz.prog 95 = some (.agg #[.int .i64 0, .int .i64 0, .slice none 0 0, .slice none 0 0, .slice none 0 0]) := by kernel_rfl
theorem fa95x0 : faOk Tryz.prog 95 0 = some 0 := by kernel_rfl
theorem fa95x1 : faOk Tryz.prog 95 1 = some 1 := by kernel_rfl
theorem fa95x2 : faOk Tryz.prog 95 2 = some 2 := by kernel_rfl
theorem fa95x3 : faOk Tryz.prog 95 3 = some 3 := by kernel_rfl
theorem fa95x4 : faOk Tryz.prog 95 4 = some 4 := by kernel_rfl
theorem sz96 : szOf Tryz.prog 96 = some 1 := by kernel_rfl
theorem is96 : (Tryz.prog.info? 96).isSome = true := by kernel_rfl
theorem ce96 : Tryz.prog.cellsOf 96 = 1 := by kernel_rfl
theorem ag96 : aggT Tryz.prog 96 = some false := by kernel_rfl
theorem ze96 : czero Tryz.prog 96 = some (.slice none 0 0) := by kernel_rfl
theorem sz97 : szOf Tryz.prog 97 = some 5 := by kernel_rfl
theorem is97 : (Tryz.prog.info? 97).isSome = true := by kernel_rfl
theorem ce97 : Tryz.prog.cellsOf 97 = 5 := by kernel_rfl
theorem ag97 : aggT Tryz.prog 97 = some true := by kernel_rfl
theorem ze97 : czero Tryz.prog 97 = some (.agg #[.int .i64 0, .int .i64 0, .int .i64 0, .int .i64 0, .slice none 0 0]) := by kernel_rfl
theorem fa97x0 : faOk Tryz.prog 97 0 = some 0 := by kernel_rfl
theorem fa97x1 : faOk Tryz.prog 97 1 = some 1 := by kernel_rfl
theorem fa97x2 : faOk Tryz.prog 97 2 = some 2 := by kernel_rfl
theorem fa97x3 : faOk Tryz.prog 97 3 = some 3 := by kernel_rfl
theorem fa97x4 : faOk Tryz.prog 97 4 = some 4 := by kernel_rfl
theorem sz98 : szOf Tryz.prog 98 = some 5 := by kernel_rfl
theorem is98 : (Tryz.prog.info? 98).isSome = true := by kernel_rfl
theorem ce98 : Tryz.prog.cellsOf 98 = 5 := by kernel_rfl
theorem ag98 : aggT Tryz.prog 98 = some true := by kernel_rfl
theorem ze98 : czero Tryz.prog 98 = some (.agg #[.int .i64 0, .int .i64 0, .int .i64 0, .int .i64 0, .slice none 0 0]) := by kernel_rfl
theorem fa98x0 : faOk Tryz.prog 98 0 = some 0 := by kernel_rfl
theorem fa98x1 : faOk Tryz.prog 98 1 = some 1 := by kernel_rfl
theorem fa98x2 : faOk Tryz.prog 98 2 = some 2 := by kernel_rfl
theorem fa98x3 : faOk Tryz.prog 98 3 = some 3 := by kernel_rfl
theorem fa98x4 : faOk Tryz.prog 98 4 = some 4 := by kernel_rfl
theorem sz99 : szOf Tryz.prog 99 = some 13 := by kernel_rfl
theorem is99 : (Tryz.prog.info? 99).isSome = true := by kernel_rfl
theorem ce99 : Tryz.prog.cellsOf 99 = 13 := by kernel_rfl
theorem ag99 : aggT Tryz.prog 99 = some true := by kernel_rfl
theorem ze99 : czero Tryz.prog 99 = some (.agg #[.int .i64 0, .slice none 0 0, .slice none 0 0, .int .i64 0, .int .i64 0, .slice none 0 0, .slice none 0 0, .slice none 0 0, .int .i64 0, .int .i64 0, .int .i64 0, .int .i64 0, .slice none 0 0]) := by kernel_rfl
theorem fa99x0 : faOk Tryz.prog 99 0 = some 0 := by kernel_rfl
theorem fa99x1 : faOk Tryz.prog 99 1 = some 3 := by kernel_rfl
theorem fa99x2 : faOk Tryz.prog 99 2 = some 8 := by kernel_rfl
theorem sz100 : szOf Tryz.prog 100 = some 13 := by kernel_rfl
theorem is100 : (Tryz.prog.info? 100).isSome = true := by kernel_rfl
theorem ce100 : Tryz.prog.cellsOf 100 = 13 := by kernel_rfl
theorem ag100 : aggT Tryz.prog 100 = some true := by kernel_rfl
theorem ze100 : czero Tryz.prog 100 = some (.agg #[.int .i64 0, .slice none 0 0, .slice none 0 0, .int .i64 0, .int .i64 0, .slice none 0 0, .slice none 0 0, .slice none 0 0, .int .i64 0, .int .i64 0, .int .i64 0, .int .i64 0, .slice none 0 0]) := by kernel_rfl
theorem fa100x0 : faOk Tryz.prog 100 0 = some 0 := by kernel_rfl
theorem fa100x1 : faOk Tryz.prog 100 1 = some 3 := by kernel_rfl
theorem fa100x2 : faOk Tryz.prog 100 2 = some 8 := by kernel_rfl
theorem sz101 : szOf Tryz.prog 101 = some 1 := by kernel_rfl
theorem is101 : (Tryz.prog.info? 101).isSome = true := by kernel_rfl
theorem ce101 : Tryz.prog.cellsOf 101 = 1 := by kernel_rfl
theorem ag101 : aggT Tryz.prog 101 = some false := by kernel_rfl
theorem ze101 : czero Tryz.prog 101 = some (.slice none 0 0) := by kernel_rfl
theorem sz102 : szOf Tryz.prog 102 = some 8 := by kernel_rfl
theorem is102 : (Tryz.prog.info? 102).isSome = true := by kernel_rfl
theorem ce102 : Tryz.prog.cellsOf 102 = 8 := by kernel_rfl
theorem ag102 : aggT Tryz.prog 102 = some true := by kernel_rfl
theorem ze102 : czero Tryz.prog 102 = some (.agg #[.pointer none, .int .i64 0, .slice none 0 0, .int .i64 0, .int .i64 0, .string ByteArray.empty, .bool false, .bool false]) := by kernel_rfl
theorem fa102x0 : faOk Tryz.prog 102 0 = some 0 := by kernel_rfl
theorem fa102x1 : faOk Tryz.prog 102 1 = some 1 := by kernel_rfl
theorem fa102x2 : faOk Tryz.prog 102 2 = some 2 := by kernel_rfl
theorem fa102x3 : faOk Tryz.prog 102 3 = some 3 := by kernel_rfl
theorem fa102x4 : faOk Tryz.prog 102 4 = some 6 := by kernel_rfl
theorem fa102x5 : faOk Tryz.prog 102 5 = some 7 := by kernel_rfl
theorem sz103 : szOf Tryz.prog 103 = some 8 := by kernel_rfl
theorem is103 : (Tryz.prog.info? 103).isSome = true := by kernel_rfl
theorem ce103 : Tryz.prog.cellsOf 103 = 8 := by kernel_rfl
theorem ag103 : aggT Tryz.prog 103 = some true := by kernel_rfl
theorem ze103 : czero Tryz.prog 103 = some (.agg #[.pointer none, .int .i64 0, .slice none 0 0, .int .i64 0, .int .i64 0, .string ByteArray.empty, .bool false, .bool false]) := by kernel_rfl
theorem fa103x0 : faOk Tryz.prog 103 0 = some 0 := by kernel_rfl
theorem fa103x1 : faOk Tryz.prog 103 1 = some 1 := by kernel_rfl
theorem fa103x2 : faOk Tryz.prog 103 2 = some 2 := by kernel_rfl
theorem fa103x3 : faOk Tryz.prog 103 3 = some 3 := by kernel_rfl
theorem fa103x4 : faOk Tryz.prog 103 4 = some 6 := by kernel_rfl
theorem fa103x5 : faOk Tryz.prog 103 5 = some 7 := by kernel_rfl
theorem sz104 : szOf Tryz.prog 104 = some 1 := by kernel_rfl
theorem is104 : (Tryz.prog.info? 104).isSome = true := by kernel_rfl
theorem ce104 : Tryz.prog.cellsOf 104 = 1 := by kernel_rfl
theorem ag104 : aggT Tryz.prog 104 = some false := by kernel_rfl
theorem ze104 : czero Tryz.prog 104 = some (.slice none 0 0) := by kernel_rfl
theorem sz105 : szOf Tryz.prog 105 = some 1 := by kernel_rfl
theorem is105 : (Tryz.prog.info? 105).isSome = true := by kernel_rfl
theorem ce105 : Tryz.prog.cellsOf 105 = 1 := by kernel_rfl
theorem ag105 : aggT Tryz.prog 105 = some false := by kernel_rfl
theorem ze105 : czero Tryz.prog 105 = some (.nilFunc) := by kernel_rfl
theorem sz106 : szOf Tryz.prog 106 = some 1 := by kernel_rfl
theorem is106 : (Tryz.prog.info? 106).isSome = true := by kernel_rfl
theorem ce106 : Tryz.prog.cellsOf 106 = 1 := by kernel_rfl
theorem ag106 : aggT Tryz.prog 106 = some false := by kernel_rfl
theorem ze106 : czero Tryz.prog 106 = some (.nilFunc) := by kernel_rfl
theorem sz107 : szOf Tryz.prog 107 = some 7 := by kernel_rfl
theorem is107 : (Tryz.prog.info? 107).isSome = true := by kernel_rfl
theorem ce107 : Tryz.prog.cellsOf 107 = 7 := by kernel_rfl
theorem ag107 : aggT Tryz.prog 107 = some true := by kernel_rfl
theorem ze107 : czero Tryz.prog 107 = some (.agg #[.int .i64 0, .int .i64 0, .slice none 0 0, .slice none 0 0, .int .i64 0, .int .i64 0, .string ByteArray.empty]) := by kernel_rfl
theorem fa107x0 : faOk Tryz.prog 107 0 = some 0 := by kernel_rfl
theorem fa107x1 : faOk Tryz.prog 107 1 = some 1 := by kernel_rfl
theorem fa107x2 : faOk Tryz.prog 107 2 = some 2 := by kernel_rfl
theorem fa107x3 : faOk Tryz.prog 107 3 = some 3 := by kernel_rfl
theorem fa107x4 : faOk Tryz.prog 107 4 = some 4 := by kernel_rfl
theorem sz108 : szOf Tryz.prog 108 = some 7 := by kernel_rfl
theorem is108 : (Tryz.prog.info? 108).isSome = true := by kernel_rfl
theorem ce108 : Tryz.prog.cellsOf 108 = 7 := by kernel_rfl
theorem ag108 : aggT Tryz.prog 108 = some true := by kernel_rfl
theorem ze108 : czero Tryz.prog 108 = some (.agg #[.int .i64 0, .int .i64 0, .slice none 0 0, .slice none 0 0, .int .i64 0, .int .i64 0, .string ByteArray.empty]) := by kernel_rfl
theorem fa108x0 : faOk Tryz.prog 108 0 = some 0 := by kernel_rfl
theorem fa108x1 : faOk Tryz.prog 108 1 = some 1 := by kernel_rfl
theorem fa108x2 : faOk Tryz.prog 108 2 = some 2 := by kernel_rfl
theorem fa108x3 : faOk Tryz.prog 108 3 = some 3 := by kernel_rfl
theorem fa108x4 : faOk Tryz.prog 108 4 = some 4 := by kernel_rfl
theorem sz109 : szOf Tryz.prog 109 = some 1 := by kernel_rfl
theorem is109 : (Tryz.prog.info? 109).isSome = true := by kernel_rfl
theorem ce109 : Tryz.prog.cellsOf 109 = 1 := by kernel_rfl
theorem ag109 : aggT Tryz.prog 109 = some false := by kernel_rfl
theorem ze109 : czero Tryz.prog 109 = some (.nilFunc) := by kernel_rfl
theorem sz110 : szOf Tryz.prog 110 = some 8 := by kernel_rfl
theorem is110 : (Tryz.prog.info? 110).isSome = true := by kernel_rfl
theorem ce110 : Tryz.prog.cellsOf 110 = 8 := by kernel_rfl
theorem ag110 : aggT Tryz.prog 110 = some true := by kernel_rfl
theorem ze110 : czero Tryz.prog 110 = some (.agg #[.int .i64 0, .int .i64 0, .int .i64 0, .string ByteArray.empty, .int .i64 0, .int .i64 0, .string ByteArray.empty, .slice none 0 0]) := by kernel_rfl
theorem fa110x0 : faOk Tryz.prog 110 0 = some 0 := by kernel_rfl
theorem fa110x1 : faOk Tryz.prog 110 1 = some 1 := by kernel_rfl
theorem fa110x2 : faOk Tryz.prog 110 2 = some 4 := by kernel_rfl
theorem fa110x3 : faOk Tryz.prog 110 3 = some 7 := by kernel_rfl
theorem sz111 : szOf Tryz.prog 111 = some 8 := by kernel_rfl
theorem is111 : (Tryz.prog.info? 111).isSome = true := by kernel_rfl
theorem ce111 : Tryz.prog.cellsOf 111 = 8 := by kernel_rfl
theorem ag111 : aggT Tryz.prog 111 = some true := by kernel_rfl
theorem ze111 : czero Tryz.prog 111 = some (.agg #[.int .i64 0, .int .i64 0, .int .i64 0, .string ByteArray.empty, .int .i64 0, .int .i64 0, .string ByteArray.empty, .slice none 0 0]) := by kernel_rfl
theorem fa111x0 : faOk Tryz.prog 111 0 = some 0 := by kernel_rfl
theorem fa111x1 : faOk Tryz.prog 111 1 = some 1 := by kernel_rfl
theorem fa111x2 : faOk Tryz.prog 111 2 = some 4 := by kernel_rfl
theorem fa111x3 : faOk Tryz.prog 111 3 = some 7 := by kernel_rfl
theorem sz112 : szOf Tryz.prog 112 = some 1 := by kernel_rfl
theorem is112 : (Tryz.prog.info? 112).isSome = true := by kernel_rfl
theorem ce112 : Tryz.prog.cellsOf 112 = 1 := by kernel_rfl
theorem ag112 : aggT Tryz.prog 112 = some false := by kernel_rfl
theorem ze112 : czero Tryz.prog 112 = some (.nilFunc) := by kernel_rfl
theorem sz113 : szOf Tryz.prog 113 = some 1 := by kernel_rfl
theorem is113 : (Tryz.prog.info? 113).isSome = true := by kernel_rfl
theorem ce113 : Tryz.prog.cellsOf 113 = 1 := by kernel_rfl
theorem ag113 : aggT Tryz.prog 113 = some false := by kernel_rfl
theorem ze113 : czero Tryz.prog 113 = some (.nilFunc) := by kernel_rfl
theorem sz114 : szOf Tryz.prog 114 = some 1 := by kernel_rfl
theorem is114 : (Tryz.prog.info? 114).isSome = true := by kernel_rfl
theorem ce114 : Tryz.prog.cellsOf 114 = 1 := by kernel_rfl
theorem ag114 : aggT Tryz.prog 114 = some false := by kernel_rfl
theorem ze114 : czero Tryz.prog 114 = some (.nilFunc) := by kernel_rfl
theorem sz115 : szOf Tryz.prog 115 = some 1 := by kernel_rfl
theorem is115 : (Tryz.prog.info? 115).isSome = true := by kernel_rfl
theorem ce115 : Tryz.prog.cellsOf 115 = 1 := by kernel_rfl
theorem ag115 : aggT Tryz.prog 115 = some false := by kernel_rfl
theorem ze115 : czero Tryz.prog 115 = some (.pointer none) := by kernel_rfl
theorem nt115 {x y : Operand} : cbin Tryz.prog .eql 115 x y (.pointer none) (.pointer none) = some (.bool true) := by kernel_rfl
theorem nn115 {x y : Operand} : cbin Tryz.prog .neq 115 x y (.pointer none) (.pointer none) = some (.bool false) := by kernel_rfl
theorem nf115 {x y : Operand} {a : Addr} : cbin Tryz.prog .eql 115 x y (.pointer (some a)) (.pointer none) = some (.bool false) := by kernel_rfl
theorem ng115 {x y : Operand} {a : Addr} : cbin Tryz.prog .neq 115 x y (.pointer (some a)) (.pointer none) = some (.bool true) := by kernel_rfl
theorem sz116 : szOf Tryz.prog 116 = some 1 := by kernel_rfl
theorem is116 : (Tryz.prog.info? 116).isSome = true := by kernel_rfl
theorem ce116 : Tryz.prog.cellsOf 116 = 1 := by kernel_rfl
theorem ag116 : aggT Tryz.prog 116 = some false := by kernel_rfl
theorem ze116 : czero Tryz.prog 116 = some (.nilFunc) := by kernel_rfl
theorem sz117 : szOf Tryz.prog 117 = some 1 := by kernel_rfl
theorem is117 : (Tryz.prog.info? 117).isSome = true := by kernel_rfl
theorem ce117 : Tryz.prog.cellsOf 117 = 1 := by kernel_rfl
theorem ag117 : aggT Tryz.prog 117 = some false := by kernel_rfl
theorem ze117 : czero Tryz.prog 117 = some (.slice none 0 0) := by kernel_rfl
theorem sz118 : szOf Tryz.prog 118 = some 11 := by kernel_rfl
theorem is118 : (Tryz.prog.info? 118).isSome = true := by kernel_rfl
theorem ce118 : Tryz.prog.cellsOf 118 = 11 := by kernel_rfl
theorem ag118 : aggT Tryz.prog 118 = some true := by kernel_rfl
theorem ze118 : czero Tryz.prog 118 = some (.agg #[.int .i64 0, .slice none 0 0, .int .i64 0, .int .i64 0, .int .i64 0, .int .i64 0, .pointer none, .slice none 0 0, .int .i64 0, .int .i64 0, .slice none 0 0]) := by kernel_rfl
theorem fa118x0 : faOk Tryz.prog 118 0 = some 0 := by kernel_rfl
theorem fa118x1 : faOk Tryz.prog 118 1 = some 2 := by kernel_rfl
theorem fa118x2 : faOk Tryz.prog 118 2 = some 6 := by kernel_rfl
theorem fa118x3 : faOk Tryz.prog 118 3 = some 7 := by kernel_rfl
theorem fa118x4 : faOk Tryz.prog 118 4 = some 8 := by kernel_rfl
theorem fa118x5 : faOk Tryz.prog 118 5 = some 9 := by kernel_rfl
theorem fa118x6 : faOk Tryz.prog 118 6 = some 10 := by kernel_rfl
theorem sz119 : szOf Tryz.prog 119 = some 11 := by kernel_rfl
theorem is119 : (Tryz.prog.info? 119).isSome = true := by kernel_rfl
theorem ce119 : Tryz.prog.cellsOf 119 = 11 := by kernel_rfl
theorem ag119 : aggT Tryz.prog 119 = some true := by kernel_rfl
theorem ze119 : czero Tryz.prog 119 = some (.agg #[.int .i64 0, .slice none 0 0, .int .i64 0, .int .i64 0, .int .i64 0, .int .i64 0, .pointer none, .slice none 0 0, .int .i64 0, .int .i64 0, .slice none 0 0]) := by kernel_rfl
theorem fa119x0 : faOk Tryz.prog 119 0 = some 0 := by kernel_rfl
theorem fa119x1 : faOk Tryz.prog 119 1 = some 2 := by kernel_rfl
theorem fa119x2 : faOk Tryz.prog 119 2 = some 6 := by kernel_rfl
theorem fa119x3 : faOk Tryz.prog 119 3 = some 7 := by kernel_rfl
theorem fa119x4 : faOk Tryz.prog 119 4 = some 8 := by kernel_rfl
theorem fa119x5 : faOk Tryz.prog 119 5 = some 9 := by kernel_rfl
theorem fa119x6 : faOk Tryz.prog 119 6 = some 10 := by kernel_rfl
theorem sz120 : szOf Tryz.prog 120 = some 5 := by kernel_rfl
theorem is120 : (Tryz.prog.info? 120).isSome = true := by kernel_rfl
theorem ce120 : Tryz.prog.cellsOf 120 = 5 := by kernel_rfl
theorem ag120 : aggT Tryz.prog 120 = some true := by kernel_rfl
theorem ze120 : czero Tryz.prog 120 = some (.agg #[.int .i64 0, .int .i64 0, .int .i64 0, .int .i64 0, .string ByteArray.empty]) := by kernel_rfl
theorem fa120x0 : faOk Tryz.prog 120 0 = some 0 := by kernel_rfl
theorem fa120x1 : faOk Tryz.prog 120 1 = some 1 := by kernel_rfl
theorem fa120x2 : faOk Tryz.prog 120 2 = some 2 := by kernel_rfl
theorem sz121 : szOf Tryz.prog 121 = some 5 := by kernel_rfl
theorem is121 : (Tryz.prog.info? 121).isSome = true := by kernel_rfl
theorem ce121 : Tryz.prog.cellsOf 121 = 5 := by kernel_rfl
theorem ag121 : aggT Tryz.prog 121 = some true := by kernel_rfl
theorem ze121 : czero Tryz.prog 121 = some (.agg #[.int .i64 0, .int .i64 0, .int .i64 0, .int .i64 0, .string ByteArray.empty]) := by kernel_rfl
theorem fa121x0 : faOk Tryz.prog 121 0 = some 0 := by kernel_rfl
theorem fa121x1 : faOk Tryz.prog 121 1 = some 1 := by kernel_rfl
theorem fa121x2 : faOk Tryz.prog 121 2 = some 2 := by kernel_rfl
theorem sz122 : szOf Tryz.prog 122 = some 1 := by kernel_rfl
theorem is122 : (Tryz.prog.info? 122).isSome = true := by kernel_rfl
theorem ce122 : Tryz.prog.cellsOf 122 = 1 := by kernel_rfl
theorem ag122 : aggT Tryz.prog 122 = some false := by kernel_rfl
theorem ze122 : czero Tryz.prog 122 = some (.nilFunc) := by kernel_rfl
theorem sz123 : szOf Tryz.prog 123 = some 1 := by kernel_rfl
theorem is123 : (Tryz.prog.info? 123).isSome = true := by kernel_rfl
theorem ce123 : Tryz.prog.cellsOf 123 = 1 := by kernel_rfl
theorem ag123 : aggT Tryz.prog 123 = some false := by kernel_rfl
theorem ze123 : czero Tryz.prog 123 = some (.nilFunc) := by kernel_rfl
theorem sz124 : szOf Tryz.prog 124 = some 1 := by kernel_rfl
theorem is124 : (Tryz.prog.info? 124).isSome = true := by kernel_rfl
theorem ce124 : Tryz.prog.cellsOf 124 = 1 := by kernel_rfl
theorem ag124 : aggT Tryz.prog 124 = some false := by kernel_rfl
theorem ze124 : czero Tryz.prog 124 = some (.nilFunc) := by kernel_rfl
theorem sz125 : szOf Tryz.prog 125 = some 1 := by kernel_rfl
theorem is125 : (Tryz.prog.info? 125).isSome = true := by kernel_rfl
theorem ce125 : Tryz.prog.cellsOf 125 = 1 := by kernel_rfl
theorem ag125 : aggT Tryz.prog 125 = some false := by kernel_rfl
theorem ze125 : czero Tryz.prog 125 = some (.nilFunc) := by kernel_rfl
theorem sz126 : szOf Tryz.prog 126 = some 1 := by kernel_rfl
theorem is126 : (Tryz.prog.info? 126).isSome = true := by kernel_rfl
theorem ce126 : Tryz.prog.cellsOf 126 = 1 := by kernel_rfl
theorem ag126 : aggT Tryz.prog 126 = some false := by kernel_rfl
theorem sz127 : szOf Tryz.prog 127 = some 1 := by kernel_rfl
theorem is127 : (Tryz.prog.info? 127).isSome = true := by kernel_rfl
theorem ce127 : Tryz.prog.cellsOf 127 = 1 := by kernel_rfl
theorem ag127 : aggT Tryz.prog 127 = some false := by kernel_rfl
theorem ze127 : czero Tryz.prog 127 = some (.nilFunc) := by kernel_rfl
theorem sz128 : szOf Tryz.prog 128 = some 1 := by kernel_rfl
theorem is128 : (Tryz.prog.info? 128).isSome = true := by kernel_rfl
theorem ce128 : Tryz.prog.cellsOf 128 = 1 := by kernel_rfl
theorem ag128 : aggT Tryz.prog 128 = some false := by kernel_rfl
theorem ze128 : czero Tryz.prog 128 = some (.nilFunc) := by kernel_rfl
theorem sz129 : szOf Tryz.prog 129 = some 1 := by kernel_rfl
theorem is129 : (Tryz.prog.info? 129).isSome = true := by kernel_rfl
theorem ce129 : Tryz.prog.cellsOf 129 = 1 := by kernel_rfl
theorem ag129 : aggT Tryz.prog 129 = some false := by kernel_rfl
theorem ze129 : czero Tryz.prog 129 = some (.nilFunc) := by kernel_rfl
theorem sz130 : szOf Tryz.prog 130 = some 1 := by kernel_rfl
theorem is130 : (Tryz.prog.info? 130).isSome = true := by kernel_rfl
theorem ce130 : Tryz.prog.cellsOf 130 = 1 := by kernel_rfl
theorem ag130 : aggT Tryz.prog 130 = some false := by kernel_rfl
theorem ze130 : czero Tryz.prog 130 = some (.nilFunc) := by kernel_rfl
theorem sz131 : szOf Tryz.prog 131 = some 1 := by kernel_rfl
theorem is131 : (Tryz.prog.info? 131).isSome = true := by kernel_rfl
theorem ce131 : Tryz.prog.cellsOf 131 = 1 := by kernel_rfl
theorem ag131 : aggT Tryz.prog 131 = some false := by kernel_rfl
theorem sz132 : szOf Tryz.prog 132 = some 1 := by kernel_rfl
theorem is132 : (Tryz.prog.info? 132).isSome = true := by kernel_rfl
theorem ce132 : Tryz.prog.cellsOf 132 = 1 := by kernel_rfl
theorem ag132 : aggT Tryz.prog 132 = some false := by kernel_rfl
theorem ze132 : czero Tryz.prog 132 = some (.nilFunc) := by kernel_rfl
theorem sz133 : szOf Tryz.prog 133 = some 1 := by kernel_rfl
theorem is133 : (Tryz.prog.info? 133).isSome = true := by kernel_rfl
theorem ce133 : Tryz.prog.cellsOf 133 = 1 := by kernel_rfl
theorem ag133 : aggT Tryz.prog 133 = some false := by kernel_rfl
theorem sz134 : szOf Tryz.prog 134 = some 1 := by kernel_rfl
theorem is134 : (Tryz.prog.info? 134).isSome = true := by kernel_rfl
theorem ce134 : Tryz.prog.cellsOf 134 = 1 := by kernel_rfl
theorem ag134 : aggT Tryz.prog 134 = some false := by kernel_rfl
theorem ze134 : czero Tryz.prog 134 = some (.nilFunc) := by kernel_rfl
theorem sz135 : szOf Tryz.prog 135 = some 1 := by kernel_rfl
theorem is135 : (Tryz.prog.info? 135).isSome = true := by kernel_rfl
theorem ce135 : Tryz.prog.cellsOf 135 = 1 := by kernel_rfl
theorem ag135 : aggT Tryz.prog 135 = some false := by kernel_rfl
theorem ze135 : czero Tryz.prog 135 = some (.nilFunc) := by kernel_rfl
theorem sz136 : szOf Tryz.prog 136 = some 1 := by kernel_rfl
theorem is136 : (Tryz.prog.info? 136).isSome = true := by kernel_rfl
theorem ce136 : Tryz.prog.cellsOf 136 = 1 := by kernel_rfl
theorem ag136 : aggT Tryz.prog 136 = some false := by kernel_rfl
theorem ze136 : czero Tryz.prog 136 = some (.nilFunc) := by kernel_rfl
theorem sz137 : szOf Tryz.prog 137 = some 1 := by kernel_rfl
theorem is137 : (Tryz.prog.info? 137).isSome = true := by kernel_rfl
theorem ce137 : Tryz.prog.cellsOf 137 = 1 := by kernel_rfl
theorem ag137 : aggT Tryz.prog 137 = some false := by kernel_rfl
theorem ze137 : czero Tryz.prog 137 = some (.nilFunc) := by kernel_rfl
theorem sz138 : szOf Tryz.prog 138 = some 1 := by kernel_rfl
theorem is138 : (Tryz.prog.info? 138).isSome = true := by kernel_rfl
theorem ce138 : Tryz.prog.cellsOf 138 = 1 := by kernel_rfl
theorem ag138 : aggT Tryz.prog 138 = some false := by kernel_rfl
theorem ze138 : czero Tryz.prog 138 = some (.nilFunc) := by kernel_rfl
theorem sz139 : szOf Tryz.prog 139 = some 1 := by kernel_rfl
theorem is139 : (Tryz.prog.info? 139).isSome = true := by kernel_rfl
theorem ce139 : Tryz.prog.cellsOf 139 = 1 := by kernel_rfl
theorem ag139 : aggT Tryz.prog 139 = some false := by kernel_rfl
theorem ze139 : czero Tryz.prog 139 = some (.nilFunc) := by kernel_rfl
theorem sz140 : szOf Tryz.prog 140 = some 1 := by kernel_rfl
theorem is140 : (Tryz.prog.info? 140).isSome = true := by kernel_rfl
theorem ce140 : Tryz.prog.cellsOf 140 = 1 := by kernel_rfl
theorem ag140 : aggT Tryz.prog 140 = some false := by kernel_rfl
theorem ze140 : czero Tryz.prog 140 = some (.nilFunc) := by kernel_rfl
theorem sz141 : szOf Tryz.prog 141 = some 1 := by kernel_rfl
theorem is141 : (Tryz.prog.info? 141).isSome = true := by kernel_rfl
theorem ce141 : Tryz.prog.cellsOf 141 = 1 := by kernel_rfl
theorem ag141 : aggT Tryz.prog 141 = some false := by kernel_rfl
theorem ze141 : czero Tryz.prog 141 = some (.nilFunc) := by kernel_rfl
theorem sz142 : szOf Tryz.prog 142 = some 1 := by kernel_rfl
theorem is142 : (Tryz.prog.info? 142).isSome = true := by kernel_rfl
theorem ce142 : Tryz.prog.cellsOf 142 = 1 := by kernel_rfl
theorem ag142 : aggT Tryz.prog 142 = some false := by kernel_rfl
theorem ze142 : czero Tryz.prog 142 = some (.nilFunc) := by kernel_rfl
theorem sz143 : szOf Tryz.prog 143 = some 1 := by kernel_rfl
theorem is143 : (Tryz.prog.info? 143).isSome = true := by kernel_rfl
theorem ce143 : Tryz.prog.cellsOf 143 = 1 := by kernel_rfl
theorem ag143 : aggT Tryz.prog 143 = some false := by kernel_rfl
theorem ze143 : czero Tryz.prog 143 = some (.nilFunc) := by kernel_rfl
theorem sz144 : szOf Tryz.prog 144 = some 1 := by kernel_rfl
theorem is144 : (Tryz.prog.info? 144).isSome = true := by kernel_rfl
theorem ce144 : Tryz.prog.cellsOf 144 = 1 := by kernel_rfl
theorem ag144 : aggT Tryz.prog 144 = some false := by kernel_rfl
theorem ze144 : czero Tryz.prog 144 = some (.pointer none) := by kernel_rfl
theorem nt144 {x y : Operand} : cbin Tryz.prog .eql 144 x y (.pointer none) (.pointer none) = some (.bool true) := by kernel_rfl
theorem nn144 {x y : Operand} : cbin Tryz.prog .neq 144 x y (.pointer none) (.pointer none) = some (.bool false) := by kernel_rfl
theorem nf144 {x y : Operand} {a : Addr} : cbin Tryz.prog .eql 144 x y (.pointer (some a)) (.pointer none) = some (.bool false) := by kernel_rfl
theorem ng144 {x y : Operand} {a : Addr} : cbin Tryz.prog .neq 144 x y (.pointer (some a)) (.pointer none) = some (.bool true) := by kernel_rfl
theorem sz145 : szOf Tryz.prog 145 = some 1 := by kernel_rfl
theorem is145 : (Tryz.prog.info? 145).isSome = true := by kernel_rfl
theorem ce145 : Tryz.prog.cellsOf 145 = 1 := by kernel_rfl
theorem ag145 : aggT Tryz.prog 145 = some false := by kernel_rfl
theorem ze145 : czero Tryz.prog 145 = some (.slice none 0 0) := by kernel_rfl
theorem sz146 : szOf Tryz.prog 146 = some 2 := by kernel_rfl
theorem is146 : (Tryz.prog.info? 146).isSome = true := by kernel_rfl
theorem ce146 : Tryz.prog.cellsOf 146 = 2 := by kernel_rfl
theorem ag146 : aggT Tryz.prog 146 = some true := by kernel_rfl
theorem ze146 : czero Tryz.prog 146 = some (.agg #[.pointer none, .slice none 0 0]) := by kernel_rfl
theorem fa146x0 : faOk Tryz.prog 146 0 = some 0 := by kernel_rfl
theorem fa146x1 : faOk Tryz.prog 146 1 = some 1 := by kernel_rfl
theorem sz147 : szOf Tryz.prog 147 = some 2 := by kernel_rfl
theorem is147 : (Tryz.prog.info? 147).isSome = true := by kernel_rfl
theorem ce147 : Tryz.prog.cellsOf 147 = 2 := by kernel_rfl
theorem ag147 : aggT Tryz.prog 147 = some true := by kernel_rfl
theorem ze147 : czero Tryz.prog 147 = some (.agg #[.pointer none, .slice none 0 0]) := by kernel_rfl
theorem fa147x0 : faOk Tryz.prog 147 0 = some 0 := by kernel_rfl
theorem fa147x1 : faOk Tryz.prog 147 1 = some 1 := by kernel_rfl
theorem sz148 : szOf Tryz.prog 148 = some 1 := by kernel_rfl
theorem is148 : (Tryz.prog.info? 148).isSome = true := by kernel_rfl
theorem ce148 : Tryz.prog.cellsOf 148 = 1 := by kernel_rfl
theorem ag148 : aggT Tryz.prog 148 = some false := by kernel_rfl
theorem ze148 : czero Tryz.prog 148 = some (.nilIface) := by kernel_rfl
theorem sz149 : szOf Tryz.prog 149 = some 1 := by kernel_rfl
theorem is149 : (Tryz.prog.info? 149).isSome = true := by kernel_rfl
theorem ce149 : Tryz.prog.cellsOf 149 = 1 := by kernel_rfl
theorem ag149 : aggT Tryz.prog 149 = some false := by kernel_rfl
theorem ze149 : czero Tryz.prog 149 = some (.nilIface) := by kernel_rfl
theorem sz150 : szOf Tryz.prog 150 = some 1 := by kernel_rfl
theorem is150 : (Tryz.prog.info? 150).isSome = true := by kernel_rfl
theorem ce150 : Tryz.prog.cellsOf 150 = 1 := by kernel_rfl
theorem ag150 : aggT Tryz.prog 150 = some false := by kernel_rfl
theorem sz151 : szOf Tryz.prog 151 = some 1 := by kernel_rfl
theorem is151 : (Tryz.prog.info? 151).isSome = true := by kernel_rfl
theorem ce151 : Tryz.prog.cellsOf 151 = 1 := by kernel_rfl
theorem ag151 : aggT Tryz.prog 151 = some false := by kernel_rfl
theorem ze151 : czero Tryz.prog 151 = some (.nilFunc) := by kernel_rfl
theorem sz152 : szOf Tryz.prog 152 = some 1 := by kernel_rfl
theorem is152 : (Tryz.prog.info? 152).isSome = true := by kernel_rfl
theorem ce152 : Tryz.prog.cellsOf 152 = 1 := by kernel_rfl
theorem ag152 : aggT Tryz.prog 152 = some false := by kernel_rfl
theorem ze152 : czero Tryz.prog 152 = some (.nilFunc) := by kernel_rfl
theorem sz153 : szOf Tryz.prog 153 = some 1 := by kernel_rfl
theorem is153 : (Tryz.prog.info? 153).isSome = true := by kernel_rfl
theorem ce153 : Tryz.prog.cellsOf 153 = 1 := by kernel_rfl
theorem ag153 : aggT Tryz.prog 153 = some false := by kernel_rfl
theorem ze153 : czero Tryz.prog 153 = some (.nilFunc) := by kernel_rfl
theorem sz154 : szOf Tryz.prog 154 = some 1 := by kernel_rfl
theorem is154 : (Tryz.prog.info? 154).isSome = true := by kernel_rfl
theorem ce154 : Tryz.prog.cellsOf 154 = 1 := by kernel_rfl
theorem ag154 : aggT Tryz.prog 154 = some false := by kernel_rfl
theorem ze154 : czero Tryz.prog 154 = some (.nilFunc) := by kernel_rfl
theorem sz155 : szOf Tryz.prog 155 = some 1 := by kernel_rfl
theorem is155 : (Tryz.prog.info? 155).isSome = true := by kernel_rfl
theorem ce155 : Tryz.prog.cellsOf 155 = 1 := by kernel_rfl
theorem ag155 : aggT Tryz.prog 155 = some false := by kernel_rfl
theorem ze155 : czero Tryz.prog 155 = some (.nilFunc) := by kernel_rfl
theorem sz156 : szOf Tryz.prog 156 = some 1 := by kernel_rfl
theorem is156 : (Tryz.prog.info? 156).isSome = true := by kernel_rfl
theorem ce156 : Tryz.prog.cellsOf 156 = 1 := by kernel_rfl
theorem ag156 : aggT Tryz.prog 156 = some false := by kernel_rfl
theorem ze156 : czero Tryz.prog 156 = some (.pointer none) := by kernel_rfl
theorem nt156 {x y : Operand} : cbin Tryz.prog .eql 156 x y (.pointer none) (.pointer none) = some (.bool true) := by kernel_rfl
theorem nn156 {x y : Operand} : cbin Tryz.prog .neq 156 x y (.pointer none) (.pointer none) = some (.bool false) := by kernel_rfl
theorem nf156 {x y : Operand} {a : Addr} : cbin Tryz.prog .eql 156 x y (.pointer (some a)) (.pointer none) = some (.bool false) := by kernel_rfl
theorem ng156 {x y : Operand} {a : Addr} : cbin Tryz.prog .neq 156 x y (.pointer (some a)) (.pointer none) = some (.bool true) := by kernel_rfl
theorem sz157 : szOf Tryz.prog 157 = some 1 := by kernel_rfl
theorem is157 : (Tryz.prog.info? 157).isSome = true := by kernel_rfl
theorem ce157 : Tryz.prog.cellsOf 157 = 1 := by kernel_rfl
theorem ag157 : aggT Tryz.prog 157 = some false := by kernel_rfl
theorem ze157 : czero Tryz.prog 157 = some (.nilFunc) := by kernel_rfl
theorem sz158 : szOf Tryz.prog 158 = some 1 := by kernel_rfl
theorem is158 : (Tryz.prog.info? 158).isSome = true := by kernel_rfl
theorem ce158 : Tryz.prog.cellsOf 158 = 1 := by kernel_rfl
theorem ag158 : aggT Tryz.prog 158 = some false := by kernel_rfl
theorem ze158 : czero Tryz.prog 158 = some (.nilFunc) := by kernel_rfl
theorem sz159 : szOf Tryz.prog 159 = some 1 := by kernel_rfl
theorem is159 : (Tryz.prog.info? 159).isSome = true := by kernel_rfl
theorem ce159 : Tryz.prog.cellsOf 159 = 1 := by kernel_rfl
theorem ag159 : aggT Tryz.prog 159 = some false := by kernel_rfl
theorem ze159 : czero Tryz.prog 159 = some (.nilFunc) := by kernel_rfl
theorem sz160 : szOf Tryz.prog 160 = some 3 := by kernel_rfl
theorem is160 : (Tryz.prog.info? 160).isSome = true := by kernel_rfl
theorem ce160 : Tryz.prog.cellsOf 160 = 3 := by kernel_rfl
theorem ag160 : aggT Tryz.prog 160 = some true := by kernel_rfl
theorem ze160 : czero Tryz.prog 160 = some (.agg #[.int .i64 0, .int .i64 0, .int .i64 0]) := by kernel_rfl
theorem fa160x0 : faOk Tryz.prog 160 0 = some 0 := by kernel_rfl
theorem fa160x1 : faOk Tryz.prog 160 1 = some 1 := by kernel_rfl
theorem fa160x2 : faOk Tryz.prog 160 2 = some 2 := by kernel_rfl
theorem sz161 : szOf Tryz.prog 161 = some 3 := by kernel_rfl
theorem is161 : (Tryz.prog.info? 161).isSome = true := by kernel_rfl
theorem ce161 : Tryz.prog.cellsOf 161 = 3 := by kernel_rfl
theorem ag161 : aggT Tryz.prog 161 = some true := by kernel_rfl
theorem ze161 : czero Tryz.prog 161 = some (.agg #[.int .i64 0, .int .i64 0, .int .i64 0]) := by kernel_rfl
theorem fa161x0 : faOk Tryz.prog 161 0 = some 0 := by kernel_rfl
theorem fa161x1 : faOk Tryz.prog 161 1 = some 1 := by kernel_rfl
theorem fa161x2 : faOk Tryz.prog 161 2 = some 2 := by kernel_rfl
theorem sz162 : szOf Tryz.prog 162 = some 1 := by kernel_rfl
theorem is162 : (Tryz.prog.info? 162).isSome = true := by kernel_rfl
theorem ce162 : Tryz.prog.cellsOf 162 = 1 := by kernel_rfl
theorem ag162 : aggT Tryz.prog 162 = some false := by kernel_rfl
theorem sz163 : szOf Tryz.prog 163 = some 1 := by kernel_rfl
theorem is163 : (Tryz.prog.info? 163).isSome = true := by kernel_rfl
theorem ce163 : Tryz.prog.cellsOf 163 = 1 := by kernel_rfl
theorem ag163 : aggT Tryz.prog 163 = some false := by kernel_rfl
theorem ze163 : czero Tryz.prog 163 = some (.nilFunc) := by kernel_rfl
theorem sz164 : szOf Tryz.prog 164 = some 1 := by kernel_rfl
theorem is164 : (Tryz.prog.info? 164).isSome = true := by kernel_rfl
theorem ce164 : Tryz.prog.cellsOf 164 = 1 := by kernel_rfl
theorem ag164 : aggT Tryz.prog 164 = some false := by kernel_rfl
theorem ze164 : czero Tryz.prog 164 = some (.slice none 0 0) := by kernel_rfl
theorem sz165 : szOf Tryz.prog 165 = some 9 := by kernel_rfl
theorem is165 : (Tryz.prog.info? 165).isSome = true := by kernel_rfl
theorem ce165 : Tryz.prog.cellsOf 165 = 9 := by kernel_rfl
theorem ag165 : aggT Tryz.prog 165 = some true := by kernel_rfl
theorem ze165 : czero Tryz.prog 165 = some (.agg #[.int .i64 0, .int .i64 0, .int .i64 0, .int .i64 0, .int .i64 0, .slice none 0 0, .slice none 0 0, .int .i64 0, .slice none 0 0]) := by kernel_rfl
theorem fa165x0 : faOk Tryz.prog 165 0 = some 0 := by kernel_rfl
theorem fa165x1 : faOk Tryz.prog 165 1 = some 1 := by kernel_rfl
theorem fa165x2 : faOk Tryz.prog 165 2 = some 2 := by kernel_rfl
theorem fa165x3 : faOk Tryz.prog 165 3 = some 3 := by kernel_rfl
theorem fa165x4 : faOk Tryz.prog 165 4 = some 4 := by kernel_rfl
theorem fa165x5 : faOk Tryz.prog 165 5 = some 5 := by kernel_rfl
theorem fa165x6 : faOk Tryz.prog 165 6 = some 6 := by kernel_rfl
theorem fa165x7 : faOk Tryz.prog 165 7 = some 7 := by kernel_rfl
theorem fa165x8 : faOk Tryz.prog 165 8 = some 8 := by kernel_rfl
theorem sz166 : szOf Tryz.prog 166 = some 9 := by kernel_rfl
theorem is166 : (Tryz.prog.info? 166).isSome = true := by kernel_rfl
theorem ce166 : Tryz.prog.cellsOf 166 = 9 := by kernel_rfl
theorem ag166 : aggT Tryz.prog 166 = some true := by kernel_rfl
theorem ze166 : czero Tryz.prog 166 = some (.agg #[.int .i64 0, .int .i64 0, .int .i64 0, .int .i64 0, .int .i64 0, .slice none 0 0, .slice none 0 0, .int .i64 0, .slice none 0 0]) := by kernel_rfl
theorem fa166x0 : faOk Tryz.prog 166 0 = some 0 := by kernel_rfl
theorem fa166x1 : faOk Tryz.prog 166 1 = some 1 := by kernel_rfl
theorem fa166x2 : faOk Tryz.prog 166 2 = some 2 := by kernel_rfl
theorem fa166x3 : faOk Tryz.prog 166 3 = some 3 := by kernel_rfl
theorem fa166x4 : faOk Tryz.prog 166 4 = some 4 := by kernel_rfl
theorem fa166x5 : faOk Tryz.prog 166 5 = some 5 := by kernel_rfl
theorem fa166x6 : faOk Tryz.prog 166 6 = some 6 := by kernel_rfl
theorem fa166x7 : faOk Tryz.prog 166 7 = some 7 := by kernel_rfl
theorem fa166x8 : faOk Tryz.prog 166 8 = some 8 := by kernel_rfl
theorem sz167 : szOf Tryz.prog 167 = some 1 := by kernel_rfl
theorem is167 : (Tryz.prog.info? 167).isSome = true := by kernel_rfl
theorem ce167 : Tryz.prog.cellsOf 167 = 1 := by kernel_rfl
theorem ag167 : aggT Tryz.prog 167 = some false := by kernel_rfl
theorem ze167 : czero Tryz.prog 167 = some (.nilFunc) := by kernel_rfl
theorem sz168 : szOf Tryz.prog 168 = some 1 := by kernel_rfl
theorem is168 : (Tryz.prog.info? 168).isSome = true := by kernel_rfl
theorem ce168 : Tryz.prog.cellsOf 168 = 1 := by kernel_rfl
theorem ag168 : aggT Tryz.prog 168 = some false := by kernel_rfl
theorem sz169 : szOf Tryz.prog 169 = some 1 := by kernel_rfl
theorem is169 : (Tryz.prog.info? 169).isSome = true := by kernel_rfl
theorem ce169 : Tryz.prog.cellsOf 169 = 1 := by kernel_rfl
theorem ag169 : aggT Tryz.prog 169 = some false := by kernel_rfl
theorem ze169 : czero Tryz.prog 169 = some (.nilFunc) := by kernel_rfl
theorem sz170 : szOf Tryz.prog 170 = some 1 := by kernel_rfl
theorem is170 : (Tryz.prog.info? 170).isSome = true := by kernel_rfl
theorem ce170 : Tryz.prog.cellsOf 170 = 1 := by kernel_rfl
theorem ag170 : aggT Tryz.prog 170 = some false := by kernel_rfl
theorem sz171 : szOf Tryz.prog 171 = some 1 := by kernel_rfl
theorem is171 : (Tryz.prog.info? 171).isSome = true := by kernel_rfl
theorem ce171 : Tryz.prog.cellsOf 171 = 1 := by kernel_rfl
theorem ag171 : aggT Tryz.prog 171 = some false := by kernel_rfl
theorem ze171 : czero Tryz.prog 171 = some (.nilFunc) := by kernel_rfl
theorem sz172 : szOf Tryz.prog 172 = some 1 := by kernel_rfl
theorem is172 : (Tryz.prog.info? 172).isSome = true := by kernel_rfl
theorem ce172 : Tryz.prog.cellsOf 172 = 1 := by kernel_rfl
theorem ag172 : aggT Tryz.prog 172 = some false := by kernel_rfl
theorem ze172 : czero Tryz.prog 172 = some (.nilFunc) := by kernel_rfl
theorem sz173 : szOf Tryz.prog 173 = some 1 := by kernel_rfl
theorem is173 : (Tryz.prog.info? 173).isSome = true := by kernel_rfl
theorem ce173 : Tryz.prog.cellsOf 173 = 1 := by kernel_rfl
theorem ag173 : aggT Tryz.prog 173 = some false := by kernel_rfl
theorem ze173 : czero Tryz.prog 173 = some (.slice none 0 0) := by kernel_rfl
theorem sz174 : szOf Tryz.prog 174 = some 1 := by kernel_rfl
theorem is174 : (Tryz.prog.info? 174).isSome = true := by kernel_rfl
theorem ce174 : Tryz.prog.cellsOf 174 = 1 := by kernel_rfl
theorem ag174 : aggT Tryz.prog 174 = some false := by kernel_rfl
theorem sz175 : szOf Tryz.prog 175 = some 1 := by kernel_rfl
theorem is175 : (Tryz.prog.info? 175).isSome = true := by kernel_rfl
theorem ce175 : Tryz.prog.cellsOf 175 = 1 := by kernel_rfl
theorem ag175 : aggT Tryz.prog 175 = some false := by kernel_rfl
theorem sz176 : szOf Tryz.prog 176 = some 1 := by kernel_rfl
theorem is176 : (Tryz.prog.info? 176).isSome = true := by kernel_rfl
theorem ce176 : Tryz.prog.cellsOf 176 = 1 := by kernel_rfl
theorem ag176 : aggT Tryz.prog 176 = some false := by kernel_rfl
theorem ze176 : czero Tryz.prog 176 = some (.nilFunc) := by kernel_rfl
theorem sz177 : szOf Tryz.prog 177 = some 1 := by kernel_rfl
theorem is177 : (Tryz.prog.info? 177).isSome = true := by kernel_rfl
theorem ce177 : Tryz.prog.cellsOf 177 = 1 := by kernel_rfl
theorem ag177 : aggT Tryz.prog 177 = some false := by kernel_rfl
theorem ze177 : czero Tryz.prog 177 = some (.nilFunc) := by kernel_rfl
theorem sz178 : szOf Tryz.prog 178 = some 1 := by kernel_rfl
theorem is178 : (Tryz.prog.info? 178).isSome = true := by kernel_rfl
theorem ce178 : Tryz.prog.cellsOf 178 = 1 := by kernel_rfl
theorem ag178 : aggT Tryz.prog 178 = some false := by kernel_rfl
theorem ze178 : czero Tryz.prog 178 = some (.nilFunc) := by kernel_rfl
theorem sz179 : szOf Tryz.prog 179 = some 1 := by kernel_rfl
theorem is179 : (Tryz.prog.info? 179).isSome = true := by kernel_rfl
theorem ce179 : Tryz.prog.cellsOf 179 = 1 := by kernel_rfl
theorem ag179 : aggT Tryz.prog 179 = some false := by kernel_rfl
theorem ze179 : czero Tryz.prog 179 = some (.nilFunc) := by kernel_rfl
theorem sz180 : szOf Tryz.prog 180 = some 3 := by kernel_rfl
theorem is180 : (Tryz.prog.info? 180).isSome = true := by kernel_rfl
theorem ce180 : Tryz.prog.cellsOf 180 = 3 := by kernel_rfl
theorem ag180 : aggT Tryz.prog 180 = some true := by kernel_rfl
theorem ze180 : czero Tryz.prog 180 = some (.agg #[.int .i64 0, .slice none 0 0, .int .i64 0]) := by kernel_rfl
theorem fa180x0 : faOk Tryz.prog 180 0 = some 0 := by kernel_rfl
theorem fa180x1 : faOk Tryz.prog 180 1 = some 2 := by kernel_rfl
theorem sz181 : szOf Tryz.prog 181 = some 3 := by kernel_rfl
theorem is181 : (Tryz.prog.info? 181).isSome = true := by kernel_rfl
theorem ce181 : Tryz.prog.cellsOf 181 = 3 := by kernel_rfl
theorem ag181 : aggT Tryz.prog 181 = some true := by kernel_rfl
theorem ze181 : czero Tryz.prog 181 = some (.agg #[.int .i64 0, .slice none 0 0, .int .i64 0]) := by kernel_rfl
theorem fa181x0 : faOk Tryz.prog 181 0 = some 0 := by kernel_rfl
theorem fa181x1 : faOk Tryz.prog 181 1 = some 2 := by kernel_rfl
theorem sz182 : szOf Tryz.prog 182 = some 1 := by kernel_rfl
theorem is182 : (Tryz.prog.info? 182).isSome = true := by kernel_rfl
theorem ce182 : Tryz.prog.cellsOf 182 = 1 := by kernel_rfl
theorem ag182 : aggT Tryz.prog 182 = some false := by kernel_rfl
theorem ze182 : czero Tryz.prog 182 = some (.nilFunc) := by kernel_rfl
theorem sz183 : szOf Tryz.prog 183 = some 1 := by kernel_rfl
theorem is183 : (Tryz.prog.info? 183).isSome = true := by kernel_rfl
theorem ce183 : Tryz.prog.cellsOf 183 = 1 := by kernel_rfl
theorem ag183 : aggT Tryz.prog 183 = some false := by kernel_rfl
theorem ze183 : czero Tryz.prog 183 = some (.pointer none) := by kernel_rfl
theorem nt183 {x y : Operand} : cbin Tryz.prog .eql 183 x y (.pointer none) (.pointer none) = some (.bool true) := by kernel_rfl
theorem nn183 {x y : Operand} : cbin Tryz.prog .neq 183 x y (.pointer none) (.pointer none) = some (.bool false) := by kernel_rfl
theorem nf183 {x y : Operand} {a : Addr} : cbin Tryz.prog .eql 183 x y (.pointer (some a)) (.pointer none) = some (.bool false) := by kernel_rfl
theorem ng183 {x y : Operand} {a : Addr} : cbin Tryz.prog .neq 183 x y (.pointer (some a)) (.pointer none) = some (.bool true) := by kernel_rfl
theorem sz184 : szOf Tryz.prog 184 = some 1 := by kernel_rfl
theorem is184 : (Tryz.prog.info? 184).isSome = true := by kernel_rfl
theorem ce184 : Tryz.prog.cellsOf 184 = 1 := by kernel_rfl
theorem ag184 : aggT Tryz.prog 184 = some false := by kernel_rfl
theorem ze184 : czero Tryz.prog 184 = some (.nilFunc) := by kernel_rfl
theorem sz185 : szOf Tryz.prog 185 = some 1 := by kernel_rfl
theorem is185 : (Tryz.prog.info? 185).isSome = true := by kernel_rfl
theorem ce185 : Tryz.prog.cellsOf 185 = 1 := by kernel_rfl
theorem ag185 : aggT Tryz.prog 185 = some false := by kernel_rfl
theorem ze185 : czero Tryz.prog 185 = some (.pointer none) := by kernel_rfl
theorem nt185 {x y : Operand} : cbin Tryz.prog .eql 185 x y (.pointer none) (.pointer none) = some (.bool true) := by kernel_rfl
theorem nn185 {x y : Operand} : cbin Tryz.prog .neq 185 x y (.pointer none) (.pointer none) = some (.bool false) := by kernel_rfl
theorem nf185 {x y : Operand} {a : Addr} : cbin Tryz.prog .eql 185 x y (.pointer (some a)) (.pointer none) = some (.bool false) := by kernel_rfl
theorem ng185 {x y : Operand} {a : Addr} : cbin Tryz.prog .neq 185 x y (.pointer (some a)) (.pointer none) = some (.bool true) := by kernel_rfl
theorem sz186 : szOf Tryz.prog 186 = some 1 := by kernel_rfl
theorem is186 : (Tryz.prog.info? 186).isSome = true := by kernel_rfl
theorem ce186 : Tryz.prog.cellsOf 186 = 1 := by kernel_rfl
theorem ag186 : aggT Tryz.prog 186 = some false := by kernel_rfl
theorem ze186 : czero Tryz.prog 186 = some (.nilFunc) := by kernel_rfl
theorem sz187 : szOf Tryz.prog 187 = some 1 := by kernel_rfl
theorem is187 : (Tryz.prog.info? 187).isSome = true := by kernel_rfl
theorem ce187 : Tryz.prog.cellsOf 187 = 1 := by kernel_rfl
theorem ag187 : aggT Tryz.prog 187 = some false := by kernel_rfl
theorem ze187 : czero Tryz.prog 187 = some (.slice none 0 0) := by kernel_rfl
theorem sz188 : szOf Tryz.prog 188 = some 5 := by kernel_rfl
theorem is188 : (Tryz.prog.info? 188).isSome = true := by kernel_rfl
theorem ce188 : Tryz.prog.cellsOf 188 = 5 := by kernel_rfl
theorem ag188 : aggT Tryz.prog 188 = some true := by kernel_rfl
theorem ze188 : czero Tryz.prog 188 = some (.agg #[.slice none 0 0, .pointer none, .pointer none, .int .i64 0, .int .i64 0]) := by kernel_rfl
theorem fa188x0 : faOk Tryz.prog 188 0 = some 0 := by kernel_rfl
theorem fa188x1 : faOk Tryz.prog 188 1 = some 1 := by kernel_rfl
theorem fa188x2 : faOk Tryz.prog 188 2 = some 2 := by kernel_rfl
theorem fa188x3 : faOk Tryz.prog 188 3 = some 3 := by kernel_rfl
theorem fa188x4 : faOk Tryz.prog 188 4 = some 4 := by kernel_rfl
theorem sz189 : szOf Tryz.prog 189 = some 5 := by kernel_rfl
theorem is189 : (Tryz.prog.info? 189).isSome = true := by kernel_rfl
theorem ce189 : Tryz.prog.cellsOf 189 = 5 := by kernel_rfl
theorem ag189 : aggT Tryz.prog 189 = some true := by kernel_rfl
theorem ze189 : czero Tryz.prog 189 = some (.agg #[.slice none 0 0, .pointer none, .pointer none, .int .i64 0, .int .i64 0]) := by kernel_rfl
theorem fa189x0 : faOk Tryz.prog 189 0 = some 0 := by kernel_rfl
theorem fa189x1 : faOk Tryz.prog 189 1 = some 1 := by kernel_rfl
theorem fa189x2 : faOk Tryz.prog 189 2 = some 2 := by kernel_rfl
theorem fa189x3 : faOk Tryz.prog 189 3 = some 3 := by kernel_rfl
theorem fa189x4 : faOk Tryz.prog 189 4 = some 4 := by kernel_rfl
theorem sz190 : szOf Tryz.prog 190 = some 1 := by kernel_rfl
theorem is190 : (Tryz.prog.info? 190).isSome = true := by kernel_rfl
theorem ce190 : Tryz.prog.cellsOf 190 = 1 := by kernel_rfl
theorem ag190 : aggT Tryz.prog 190 = some false := by kernel_rfl
theorem sz191 : szOf Tryz.prog 191 = some 1 := by kernel_rfl
theorem is191 : (Tryz.prog.info? 191).isSome = true := by kernel_rfl
theorem ce191 : Tryz.prog.cellsOf 191 = 1 := by kernel_rfl
theorem ag191 : aggT Tryz.prog 191 = some false := by kernel_rfl
theorem ze191 : czero Tryz.prog 191 = some (.pointer none) := by kernel_rfl
theorem nt191 {x y : Operand} : cbin Tryz.prog .eql 191 x y (.pointer none) (.pointer none) = some (.bool true) := by kernel_rfl
theorem nn191 {x y : Operand} : cbin Tryz.prog .neq 191 x y (.pointer none) (.pointer none) = some (.bool false) := by kernel_rfl
theorem nf191 {x y : Operand} {a : Addr} : cbin Tryz.prog .eql 191 x y (.pointer (some a)) (.pointer none) = some (.bool false) := by kernel_rfl
theorem ng191 {x y : Operand} {a : Addr} : cbin Tryz.prog .neq 191 x y (.pointer (some a)) (.pointer none) = some (.bool true) := by kernel_rfl
theorem sz192 : szOf Tryz.prog 192 = some 8 := by kernel_rfl
theorem is192 : (Tryz.prog.info? 192).isSome = true := by kernel_rfl
theorem ce192 : Tryz.prog.cellsOf 192 = 8 := by kernel_rfl
theorem ag192 : aggT Tryz.prog 192 = some true := by kernel_rfl
theorem ze192 : czero Tryz.prog 192 = some (.agg #[.slice none 0 0, .int .i64 0, .int .i64 0, .string ByteArray.empty, .int .i64 0, .int .i64 0, .string ByteArray.empty, .bool false]) := by kernel_rfl
theorem fa192x0 : faOk Tryz.prog 192 0 = some 0 := by kernel_rfl
theorem fa192x1 : faOk Tryz.prog 192 1 = some 1 := by kernel_rfl
theorem fa192x2 : faOk Tryz.prog 192 2 = some 4 := by kernel_rfl
theorem fa192x3 : faOk Tryz.prog 192 3 = some 7 := by kernel_rfl
theorem sz193 : szOf Tryz.prog 193 = some 8 := by kernel_rfl
theorem is193 : (Tryz.prog.info? 193).isSome = true := by kernel_rfl
theorem ce193 : Tryz.prog.cellsOf 193 = 8 := by kernel_rfl
theorem ag193 : aggT Tryz.prog 193 = some true := by kernel_rfl
theorem ze193 : czero Tryz.prog 193 = some (.agg #[.slice none 0 0, .int .i64 0, .int .i64 0, .string ByteArray.empty, .int .i64 0, .int .i64 0, .string ByteArray.empty, .bool false]) := by kernel_rfl
theorem fa193x0 : faOk Tryz.prog 193 0 = some 0 := by kernel_rfl
theorem fa193x1 : faOk Tryz.prog 193 1 = some 1 := by kernel_rfl
theorem fa193x2 : faOk Tryz.prog 193 2 = some 4 := by kernel_rfl
theorem fa193x3 : faOk Tryz.prog 193 3 = some 7 := by kernel_rfl
theorem sz194 : szOf Tryz.prog 194 = some 1 := by kernel_rfl
theorem is194 : (Tryz.prog.info? 194).isSome = true := by kernel_rfl
theorem ce194 : Tryz.prog.cellsOf 194 = 1 := by kernel_rfl
theorem ag194 : aggT Tryz.prog 194 = some false := by kernel_rfl
theorem ze194 : czero Tryz.prog 194 = some (.nilFunc) := by kernel_rfl
theorem sz195 : szOf Tryz.prog 195 = some 1 := by kernel_rfl
theorem is195 : (Tryz.prog.info? 195).isSome = true := by kernel_rfl
theorem ce195 : Tryz.prog.cellsOf 195 = 1 := by kernel_rfl
theorem ag195 : aggT Tryz.prog 195 = some false := by kernel_rfl
theorem ze195 : czero Tryz.prog 195 = some (.nilFunc) := by kernel_rfl
theorem sz196 : szOf Tryz.prog 196 = some 1 := by kernel_rfl
theorem is196 : (Tryz.prog.info? 196).isSome = true := by kernel_rfl
theorem ce196 : Tryz.prog.cellsOf 196 = 1 := by kernel_rfl
theorem ag196 : aggT Tryz.prog 196 = some false := by kernel_rfl
theorem ze196 : czero Tryz.prog 196 = some (.nilFunc) := by kernel_rfl
theorem sz197 : szOf Tryz.prog 197 = some 1 := by kernel_rfl
theorem is197 : (Tryz.prog.info? 197).isSome = true := by kernel_rfl
theorem ce197 : Tryz.prog.cellsOf 197 = 1 := by kernel_rfl
theorem ag197 : aggT Tryz.prog 197 = some false := by kernel_rfl
theorem ze197 : czero Tryz.prog 197 = some (.nilFunc) := by kernel_rfl
theorem sz198 : szOf Tryz.prog 198 = some 1 := by kernel_rfl
theorem is198 : (Tryz.prog.info? 198).isSome = true := by kernel_rfl
theorem ce198 : Tryz.prog.cellsOf 198 = 1 := by kernel_rfl
theorem ag198 : aggT Tryz.prog 198 = some false := by kernel_rfl
theorem ze198 : czero Tryz.prog 198 = some (.pointer none) := by kernel_rfl
theorem nt198 {x y : Operand} : cbin Tryz.prog .eql 198 x y (.pointer none) (.pointer none) = some (.bool true) := by kernel_rfl
theorem nn198 {x y : Operand} : cbin Tryz.prog .neq 198 x y (.pointer none) (.pointer none) = some (.bool false) := by kernel_rfl
theorem nf198 {x y : Operand} {a : Addr} : cbin Tryz.prog .eql 198 x y (.pointer (some a)) (.pointer none) = some (.bool false) := by kernel_rfl
theorem ng198 {x y : Operand} {a : Addr} : cbin Tryz.prog .neq 198 x y (.pointer (some a)) (.pointer none) = some (.bool true) := by kernel_rfl
theorem sz199 : szOf Tryz.prog 199 = some 1 := by kernel_rfl
theorem is199 : (Tryz.prog.info? 199).isSome = true := by kernel_rfl
theorem ce199 : Tryz.prog.cellsOf 199 = 1 := by kernel_rfl
theorem ag199 : aggT Tryz.prog 199 = some false := by kernel_rfl
theorem ze199 : czero Tryz.prog 199 = some (.pointer none) := by kernel_rfl
theorem nt199 {x y : Operand} : cbin Tryz.prog .eql 199 x y (.pointer none) (.pointer none) = some (.bool true) := by kernel_rfl
theorem nn199 {x y : Operand} : cbin Tryz.prog .neq 199 x y (.pointer none) (.pointer none) = some (.bool false) := by kernel_rfl
theorem nf199 {x y : Operand} {a : Addr} : cbin Tryz.prog .eql 199 x y (.pointer (some a)) (.pointer none) = some (.bool false) := by kernel_rfl
theorem ng199 {x y : Operand} {a : Addr} : cbin Tryz.prog .neq 199 x y (.pointer (some a)) (.pointer none) = some (.bool true) := by kernel_rfl
theorem sz200 : szOf Tryz.prog 200 = some 1 := by kernel_rfl
theorem is200 : (Tryz.prog.info? 200).isSome = true := by kernel_rfl
theorem ce200 : Tryz.prog.cellsOf 200 = 1 := by kernel_rfl
theorem ag200 : aggT Tryz.prog 200 = some false := by kernel_rfl
theorem ze200 : czero Tryz.prog 200 = some (.nilFunc) := by kernel_rfl
theorem sz201 : szOf Tryz.prog 201 = some 1 := by kernel_rfl
theorem is201 : (Tryz.prog.info? 201).isSome = true := by kernel_rfl
theorem ce201 : Tryz.prog.cellsOf 201 = 1 := by kernel_rfl
theorem ag201 : aggT Tryz.prog 201 = some true := by kernel_rfl
theorem ze201 : czero Tryz.prog 201 = some (.agg #[.pointer none]) := by kernel_rfl
theorem fa201x0 : faOk Tryz.prog 201 0 = some 0 := by kernel_rfl
theorem sz202 : szOf Tryz.prog 202 = some 1 := by kernel_rfl
theorem is202 : (Tryz.prog.info? 202).isSome = true := by kernel_rfl
theorem ce202 : Tryz.prog.cellsOf 202 = 1 := by kernel_rfl
theorem ag202 : aggT Tryz.prog 202 = some true := by kernel_rfl
theorem ze202 : czero Tryz.prog 202 = some (.agg #[.pointer none]) := by kernel_rfl
theorem fa202x0 : faOk Tryz.prog 202 0 = some 0 := by kernel_rfl
theorem sz203 : szOf Tryz.prog 203 = some 1 := by kernel_rfl
theorem is203 : (Tryz.prog.info? 203).isSome = true := by kernel_rfl
theorem ce203 : Tryz.prog.cellsOf 203 = 1 := by kernel_rfl
theorem ag203 : aggT Tryz.prog 203 = some false := by kernel_rfl
theorem ze203 : czero Tryz.prog 203 = some (.nilIface) := by kernel_rfl
theorem sz204 : szOf Tryz.prog 204 = some 1 := by kernel_rfl
theorem is204 : (Tryz.prog.info? 204).isSome = true := by kernel_rfl
theorem ce204 : Tryz.prog.cellsOf 204 = 1 := by kernel_rfl
theorem ag204 : aggT Tryz.prog 204 = some false := by kernel_rfl
theorem ze204 : czero Tryz.prog 204 = some (.nilIface) := by kernel_rfl
theorem sz205 : szOf Tryz.prog 205 = some 3 := by kernel_rfl
theorem is205 : (Tryz.prog.info? 205).isSome = true := by kernel_rfl
theorem ce205 : Tryz.prog.cellsOf 205 = 3 := by kernel_rfl
theorem ag205 : aggT Tryz.prog 205 = some true := by kernel_rfl
theorem ze205 : czero Tryz.prog 205 = some (.agg #[.nilIface, .int .i64 0, .int .i64 0]) := by kernel_rfl
theorem fa205x0 : faOk Tryz.prog 205 0 = some 0 := by kernel_rfl
theorem fa205x1 : faOk Tryz.prog 205 1 = some 1 := by kernel_rfl
theorem fa205x2 : faOk Tryz.prog 205 2 = some 2 := by kernel_rfl
theorem sz206 : szOf Tryz.prog 206 = some 3 := by kernel_rfl
theorem is206 : (Tryz.prog.info? 206).isSome = true := by kernel_rfl
theorem ce206 : Tryz.prog.cellsOf 206 = 3 := by kernel_rfl
theorem ag206 : aggT Tryz.prog 206 = some true := by kernel_rfl
theorem ze206 : czero Tryz.prog 206 = some (.agg #[.nilIface, .int .i64 0, .int .i64 0]) := by kernel_rfl
theorem fa206x0 : faOk Tryz.prog 206 0 = some 0 := by kernel_rfl
theorem fa206x1 : faOk Tryz.prog 206 1 = some 1 := by kernel_rfl
theorem fa206x2 : faOk Tryz.prog 206 2 = some 2 := by kernel_rfl
theorem sz207 : szOf Tryz.prog 207 = some 1 := by kernel_rfl
theorem is207 : (Tryz.prog.info? 207).isSome = true := by kernel_rfl
theorem ce207 : Tryz.prog.cellsOf 207 = 1 := by kernel_rfl
theorem ag207 : aggT Tryz.prog 207 = some false := by kernel_rfl
theorem ze207 : czero Tryz.prog 207 = some (.nilFunc) := by kernel_rfl
theorem sz208 : szOf Tryz.prog 208 = some 1 := by kernel_rfl
theorem is208 : (Tryz.prog.info? 208).isSome = true := by kernel_rfl
theorem ce208 : Tryz.prog.cellsOf 208 = 1 := by kernel_rfl
theorem ag208 : aggT Tryz.prog 208 = some false := by kernel_rfl
theorem ze208 : czero Tryz.prog 208 = some (.pointer none) := by kernel_rfl
theorem nt208 {x y : Operand} : cbin Tryz.prog .eql 208 x y (.pointer none) (.pointer none) = some (.bool true) := by kernel_rfl
theorem nn208 {x y : Operand} : cbin Tryz.prog .neq 208 x y (.pointer none) (.pointer none) = some (.bool false) := by kernel_rfl
theorem nf208 {x y : Operand} {a : Addr} : cbin Tryz.prog .eql 208 x y (.pointer (some a)) (.pointer none) = some (.bool false) := by kernel_rfl
theorem ng208 {x y : Operand} {a : Addr} : cbin Tryz.prog .neq 208 x y (.pointer (some a)) (.pointer none) = some (.bool true) := by kernel_rfl
theorem sz209 : szOf Tryz.prog 209 = some 2 := by kernel_rfl
theorem is209 : (Tryz.prog.info? 209).isSome = true := by kernel_rfl
theorem ce209 : Tryz.prog.cellsOf 209 = 2 := by kernel_rfl
theorem ag209 : aggT Tryz.prog 209 = some true := by kernel_rfl
theorem ze209 : czero Tryz.prog 209 = some (.agg #[.int .i64 0, .slice none 0 0]) := by kernel_rfl
theorem fa209x0 : faOk Tryz.prog 209 0 = some 0 := by kernel_rfl
theorem fa209x1 : faOk Tryz.prog 209 1 = some 1 := by kernel_rfl
theorem sz210 : szOf Tryz.prog 210 = some 2 := by kernel_rfl
theorem is210 : (Tryz.prog.info? 210).isSome = true := by kernel_rfl
theorem ce210 : Tryz.prog.cellsOf 210 = 2 := by kernel_rfl
theorem ag210 : aggT Tryz.prog 210 = some true := by kernel_rfl
theorem ze210 : czero Tryz.prog 210 = some (.agg #[.int .i64 0, .slice none 0 0]) := by kernel_rfl
theorem fa210x0 : faOk Tryz.prog 210 0 = some 0 := by kernel_rfl
theorem fa210x1 : faOk Tryz.prog 210 1 = some 1 := by kernel_rfl
theorem sz211 : szOf Tryz.prog 211 = some 1 := by kernel_rfl
theorem is211 : (Tryz.prog.info? 211).isSome = true := by kernel_rfl
theorem ce211 : Tryz.prog.cellsOf 211 = 1 := by kernel_rfl
theorem ag211 : aggT Tryz.prog 211 = some false := by kernel_rfl
theorem ze211 : czero Tryz.prog 211 = some (.pointer none) := by kernel_rfl
theorem nt211 {x y : Operand} : cbin Tryz.prog .eql 211 x y (.pointer none) (.pointer none) = some (.bool true) := by kernel_rfl
theorem nn211 {x y : Operand} : cbin Tryz.prog .neq 211 x y (.pointer none) (.pointer none) = some (.bool false) := by kernel_rfl
theorem nf211 {x y : Operand} {a : Addr} : cbin Tryz.prog .eql 211 x y (.pointer (some a)) (.pointer none) = some (.bool false) := by kernel_rfl
theorem ng211 {x y : Operand} {a : Addr} : cbin Tryz.prog .neq 211 x y (.pointer (some a)) (.pointer none) = some (.bool true) := by kernel_rfl
theorem sz212 : szOf Tryz.prog 212 = some 1 := by kernel_rfl
theorem is212 : (Tryz.prog.info? 212).isSome = true := by kernel_rfl
theorem ce212 : Tryz.prog.cellsOf 212 = 1 := by kernel_rfl
theorem ag212 : aggT Tryz.prog 212 = some false := by kernel_rfl
theorem ze212 : czero Tryz.prog 212 = some (.nilFunc) := by kernel_rfl
theorem sz213 : szOf Tryz.prog 213 = some 1 := by kernel_rfl
theorem is213 : (Tryz.prog.info? 213).isSome = true := by kernel_rfl
theorem ce213 : Tryz.prog.cellsOf 213 = 1 := by kernel_rfl
theorem ag213 : aggT Tryz.prog 213 = some false := by kernel_rfl
theorem ze213 : czero Tryz.prog 213 = some (.nilFunc) := by kernel_rfl
theorem sz214 : szOf Tryz.prog 214 = some 1 := by kernel_rfl
theorem is214 : (Tryz.prog.info? 214).isSome = true := by kernel_rfl
theorem ce214 : Tryz.prog.cellsOf 214 = 1 := by kernel_rfl
theorem ag214 : aggT Tryz.prog 214 = some false := by kernel_rfl
theorem ze214 : czero Tryz.prog 214 = some (.slice none 0 0) := by kernel_rfl
theorem sz215 : szOf Tryz.prog 215 = some 3 := by kernel_rfl
theorem is215 : (Tryz.prog.info? 215).isSome = true := by kernel_rfl
theorem ce215 : Tryz.prog.cellsOf 215 = 3 := by kernel_rfl
theorem ag215 : aggT Tryz.prog 215 = some true := by kernel_rfl
theorem ze215 : czero Tryz.prog 215 = some (.agg #[.slice none 0 0, .int .i64 0, .int .i64 0]) := by kernel_rfl
theorem fa215x0 : faOk Tryz.prog 215 0 = some 0 := by kernel_rfl
theorem fa215x1 : faOk Tryz.prog 215 1 = some 1 := by kernel_rfl
theorem fa215x2 : faOk Tryz.prog 215 2 = some 2 := by kernel_rfl
theorem sz216 : szOf Tryz.prog 216 = some 3 := by kernel_rfl
theorem is216 : (Tryz.prog.info? 216).isSome = true := by kernel_rfl
theorem ce216 : Tryz.prog.cellsOf 216 = 3 := by kernel_rfl
theorem ag216 : aggT Tryz.prog 216 = some true := by kernel_rfl
theorem ze216 : czero Tryz.prog 216 = some (.agg #[.slice none 0 0, .int .i64 0, .int .i64 0]) := by kernel_rfl
theorem fa216x0 : faOk Tryz.prog 216 0 = some 0 := by kernel_rfl
theorem fa216x1 : faOk Tryz.prog 216 1 = some 1 := by kernel_rfl
theorem fa216x2 : faOk Tryz.prog 216 2 = some 2 := by kernel_rfl
theorem sz217 : szOf Tryz.prog 217 = some 1 := by kernel_rfl
theorem is217 : (Tryz.prog.info? 217).isSome = true := by kernel_rfl
theorem ce217 : Tryz.prog.cellsOf 217 = 1 := by kernel_rfl
theorem ag217 : aggT Tryz.prog 217 = some false := by kernel_rfl
theorem ze217 : czero Tryz.prog 217 = some (.pointer none) := by kernel_rfl
theorem nt217 {x y : Operand} : cbin Tryz.prog .eql 217 x y (.pointer none) (.pointer none) = some (.bool true) := by kernel_rfl
theorem nn217 {x y : Operand} : cbin Tryz.prog .neq 217 x y (.pointer none) (.pointer none) = some (.bool false) := by kernel_rfl
theorem nf217 {x y : Operand} {a : Addr} : cbin Tryz.prog .eql 217 x y (.pointer (some a)) (.pointer none) = some (.bool false) := by kernel_rfl
theorem ng217 {x y : Operand} {a : Addr} : cbin Tryz.prog .neq 217 x y (.pointer (some a)) (.pointer none) = some (.bool true) := by kernel_rfl
theorem sz218 : szOf Tryz.prog 218 = some 1 := by kernel_rfl
theorem is218 : (Tryz.prog.info? 218).isSome = true := by kernel_rfl
theorem ce218 : Tryz.prog.cellsOf 218 = 1 := by kernel_rfl
theorem ag218 : aggT Tryz.prog 218 = some false := by kernel_rfl
theorem ze218 : czero Tryz.prog 218 = some (.nilFunc) := by kernel_rfl
theorem sz219 : szOf Tryz.prog 219 = some 1 := by kernel_rfl
theorem is219 : (Tryz.prog.info? 219).isSome = true := by kernel_rfl
theorem ce219 : Tryz.prog.cellsOf 219 = 1 := by kernel_rfl
theorem ag219 : aggT Tryz.prog 219 = some false := by kernel_rfl
theorem ze219 : czero Tryz.prog 219 = some (.nilFunc) := by kernel_rfl
theorem sz220 : szOf Tryz.prog 220 = some 1 := by kernel_rfl
theorem is220 : (Tryz.prog.info? 220).isSome = true := by kernel_rfl
theorem ce220 : Tryz.prog.cellsOf 220 = 1 := by kernel_rfl
theorem ag220 : aggT Tryz.prog 220 = some false := by kernel_rfl
theorem ze220 : czero Tryz.prog 220 = some (.nilFunc) := by kernel_rfl
theorem sz221 : szOf Tryz.prog 221 = some 5 := by kernel_rfl
theorem is221 : (Tryz.prog.info? 221).isSome = true := by kernel_rfl
theorem ce221 : Tryz.prog.cellsOf 221 = 5 := by kernel_rfl
theorem ag221 : aggT Tryz.prog 221 = some true := by kernel_rfl
theorem ze221 : czero Tryz.prog 221 = some (.agg #[.int .i64 0, .int .i64 0, .int .i64 0, .int .i64 0, .slice none 0 0]) := by kernel_rfl
theorem fa221x0 : faOk Tryz.prog 221 0 = some 0 := by kernel_rfl
theorem fa221x1 : faOk Tryz.prog 221 1 = some 1 := by kernel_rfl
theorem fa221x2 : faOk Tryz.prog 221 2 = some 2 := by kernel_rfl
theorem fa221x3 : faOk Tryz.prog 221 3 = some 3 := by kernel_rfl
theorem fa221x4 : faOk Tryz.prog 221 4 = some 4 := by kernel_rfl
theorem sz222 : szOf Tryz.prog 222 = some 5 := by kernel_rfl
theorem is222 : (Tryz.prog.info? 222).isSome = true := by kernel_rfl
theorem ce222 : Tryz.prog.cellsOf 222 = 5 := by kernel_rfl
theorem ag222 : aggT Tryz.prog 222 = some true := by kernel_rfl
theorem ze222 : czero Tryz.prog 222 = some (.agg #[.int .i64 0, .int .i64 0, .int .i64 0, .int .i64 0, .slice none 0 0]) := by kernel_rfl
theorem fa222x0 : faOk Tryz.prog 222 0 = some 0 := by kernel_rfl
theorem fa222x1 : faOk Tryz.prog 222 1 = some 1 := by kernel_rfl
theorem fa222x2 : faOk Tryz.prog 222 2 = some 2 := by kernel_rfl
theorem fa222x3 : faOk Tryz.prog 222 3 = some 3 := by kernel_rfl
theorem fa222x4 : faOk Tryz.prog 222 4 = some 4 := by kernel_rfl
theorem sz223 : szOf Tryz.prog 223 = some 1 := by kernel_rfl
theorem is223 : (Tryz.prog.info? 223).isSome = true := by kernel_rfl
theorem ce223 : Tryz.prog.cellsOf 223 = 1 := by kernel_rfl
theorem ag223 : aggT Tryz.prog 223 = some false := by kernel_rfl
theorem sz224 : szOf Tryz.prog 224 = some 1 := by kernel_rfl
theorem is224 : (Tryz.prog.info? 224).isSome = true := by kernel_rfl
theorem ce224 : Tryz.prog.cellsOf 224 = 1 := by kernel_rfl
theorem ag224 : aggT Tryz.prog 224 = some false := by kernel_rfl
theorem ze224 : czero Tryz.prog 224 = some (.nilFunc) := by kernel_rfl
theorem sz225 : szOf Tryz.prog 225 = some 1 := by kernel_rfl
theorem is225 : (Tryz.prog.info? 225).isSome = true := by kernel_rfl
theorem ce225 : Tryz.prog.cellsOf 225 = 1 := by kernel_rfl
theorem ag225 : aggT Tryz.prog 225 = some false := by kernel_rfl
theorem ze225 : czero Tryz.prog 225 = some (.nilFunc) := by kernel_rfl
theorem sz226 : szOf Tryz.prog 226 = some 1 := by kernel_rfl
theorem is226 : (Tryz.prog.info? 226).isSome = true := by kernel_rfl
theorem ce226 : Tryz.prog.cellsOf 226 = 1 := by kernel_rfl
theorem ag226 : aggT Tryz.prog 226 = some false := by kernel_rfl
theorem ze226 : czero Tryz.prog 226 = some (.nilFunc) := by kernel_rfl
theorem sz227 : szOf Tryz.prog 227 = some 1 := by kernel_rfl
theorem is227 : (Tryz.prog.info? 227).isSome = true := by kernel_rfl
theorem ce227 : Tryz.prog.cellsOf 227 = 1 := by kernel_rfl
theorem ag227 : aggT Tryz.prog 227 = some false := by kernel_rfl
theorem ze227 : czero Tryz.prog 227 = some (.nilFunc) := by kernel_rfl
theorem sz228 : szOf Tryz.prog 228 = some 1 := by kernel_rfl
theorem is228 : (Tryz.prog.info? 228).isSome = true := by kernel_rfl
theorem ce228 : Tryz.prog.cellsOf 228 = 1 := by kernel_rfl
theorem ag228 : aggT Tryz.prog 228 = some false := by kernel_rfl
theorem sz229 : szOf Tryz.prog 229 = some 1 := by kernel_rfl
theorem is229 : (Tryz.prog.info? 229).isSome = true := by kernel_rfl
theorem ce229 : Tryz.prog.cellsOf 229 = 1 := by kernel_rfl
theorem ag229 : aggT Tryz.prog 229 = some false := by kernel_rfl
theorem ze229 : czero Tryz.prog 229 = some (.nilFunc) := by kernel_rfl
theorem sz230 : szOf Tryz.prog 230 = some 1 := by kernel_rfl
theorem is230 : (Tryz.prog.info? 230).isSome = true := by kernel_rfl
theorem ce230 : Tryz.prog.cellsOf 230 = 1 := by kernel_rfl
theorem ag230 : aggT Tryz.prog 230 = some false := by kernel_rfl
theorem ze230 : czero Tryz.prog 230 = some (.nilFunc) := by kernel_rfl
theorem sz231 : szOf Tryz.prog 231 = some 1 := by kernel_rfl
theorem is231 : (Tryz.prog.info? 231).isSome = true := by kernel_rfl
theorem ce231 : Tryz.prog.cellsOf 231 = 1 := by kernel_rfl
theorem ag231 : aggT Tryz.prog 231 = some false := by kernel_rfl
theorem ze231 : czero Tryz.prog 231 = some (.nilFunc) := by kernel_rfl
theorem sz232 : szOf Tryz.prog 232 = some 1 := by kernel_rfl
theorem is232 : (Tryz.prog.info? 232).isSome = true := by kernel_rfl
theorem ce232 : Tryz.prog.cellsOf 232 = 1 := by kernel_rfl
theorem ag232 : aggT Tryz.prog 232 = some false := by kernel_rfl
theorem ze232 : czero Tryz.prog 232 = some (.nilFunc) := by kernel_rfl
theorem sz233 : szOf Tryz.prog 233 = some 1 := by kernel_rfl
theorem is233 : (Tryz.prog.info? 233).isSome = true := by kernel_rfl
theorem ce233 : Tryz.prog.cellsOf 233 = 1 := by kernel_rfl
theorem ag233 : aggT Tryz.prog 233 = some false := by kernel_rfl
theorem ze233 : czero Tryz.prog 233 = some (.nilFunc) := by kernel_rfl
theorem sz234 : szOf Tryz.prog 234 = some 1 := by kernel_rfl
theorem is234 : (Tryz.prog.info? 234).isSome = true := by kernel_rfl
theorem ce234 : Tryz.prog.cellsOf 234 = 1 := by kernel_rfl
theorem ag234 : aggT Tryz.prog 234 = some false := by kernel_rfl
theorem ze234 : czero Tryz.prog 234 = some (.pointer none) := by kernel_rfl
theorem nt234 {x y : Operand} : cbin Tryz.prog .eql 234 x y (.pointer none) (.pointer none) = some (.bool true) := by kernel_rfl
theorem nn234 {x y : Operand} : cbin Tryz.prog .neq 234 x y (.pointer none) (.pointer none) = some (.bool false) := by kernel_rfl
theorem nf234 {x y : Operand} {a : Addr} : cbin Tryz.prog .eql 234 x y (.pointer (some a)) (.pointer none) = some (.bool false) := by kernel_rfl
theorem ng234 {x y : Operand} {a : Addr} : cbin Tryz.prog .neq 234 x y (.pointer (some a)) (.pointer none) = some (.bool true) := by kernel_rfl
theorem sz235 : szOf Tryz.prog 235 = some 1 := by kernel_rfl
theorem is235 : (Tryz.prog.info? 235).isSome = true := by kernel_rfl
theorem ce235 : Tryz.prog.cellsOf 235 = 1 := by kernel_rfl
theorem ag235 : aggT Tryz.prog 235 = some false := by kernel_rfl
theorem ze235 : czero Tryz.prog 235 = some (.nilFunc) := by kernel_rfl
theorem sz236 : szOf Tryz.prog 236 = some 1 := by kernel_rfl
theorem is236 : (Tryz.prog.info? 236).isSome = true := by kernel_rfl
theorem ce236 : Tryz.prog.cellsOf 236 = 1 := by kernel_rfl
theorem ag236 : aggT Tryz.prog 236 = some false := by kernel_rfl
theorem ze236 : czero Tryz.prog 236 = some (.pointer none) := by kernel_rfl
theorem nt236 {x y : Operand} : cbin Tryz.prog .eql 236 x y (.pointer none) (.pointer none) = some (.bool true) := by kernel_rfl
theorem nn236 {x y : Operand} : cbin Tryz.prog .neq 236 x y (.pointer none) (.pointer none) = some (.bool false) := by kernel_rfl
theorem nf236 {x y : Operand} {a : Addr} : cbin Tryz.prog .eql 236 x y (.pointer (some a)) (.pointer none) = some (.bool false) := by kernel_rfl
theorem ng236 {x y : Operand} {a : Addr} : cbin Tryz.prog .neq 236 x y (.pointer (some a)) (.pointer none) = some (.bool true) := by kernel_rfl
theorem sz237 : szOf Tryz.prog 237 = some 1 := by kernel_rfl
theorem is237 : (Tryz.prog.info? 237).isSome = true := by kernel_rfl
theorem ce237 : Tryz.prog.cellsOf 237 = 1 := by kernel_rfl
theorem ag237 : aggT Tryz.prog 237 = some false := by kernel_rfl
theorem ze237 : czero Tryz.prog 237 = some (.nilFunc) := by kernel_rfl
theorem sz238 : szOf Tryz.prog 238 = some 1 := by kernel_rfl
theorem is238 : (Tryz.prog.info? 238).isSome = true := by kernel_rfl
theorem ce238 : Tryz.prog.cellsOf 238 = 1 := by kernel_rfl
theorem ag238 : aggT Tryz.prog 238 = some false := by kernel_rfl
theorem ze238 : czero Tryz.prog 238 = some (.nilFunc) := by kernel_rfl
theorem sz239 : szOf Tryz.prog 239 = some 1 := by kernel_rfl
theorem is239 : (Tryz.prog.info? 239).isSome = true := by kernel_rfl
theorem ce239 : Tryz.prog.cellsOf 239 = 1 := by kernel_rfl
theorem ag239 : aggT Tryz.prog 239 = some false := by kernel_rfl
theorem ze239 : czero Tryz.prog 239 = some (.nilFunc) := by kernel_rfl
theorem sz240 : szOf Tryz.prog 240 = some 1 := by kernel_rfl
theorem is240 : (Tryz.prog.info? 240).isSome = true := by kernel_rfl
theorem ce240 : Tryz.prog.cellsOf 240 = 1 := by kernel_rfl
theorem ag240 : aggT Tryz.prog 240 = some false := by kernel_rfl
theorem ze240 : czero Tryz.prog 240 = some (.nilFunc) := by kernel_rfl
theorem sz241 : szOf Tryz.prog 241 = some 1 := by kernel_rfl
theorem is241 : (Tryz.prog.info? 241).isSome = true := by kernel_rfl
theorem ce241 : Tryz.prog.cellsOf 241 = 1 := by kernel_rfl
theorem ag241 : aggT Tryz.prog 241 = some false := by kernel_rfl
theorem ze241 : czero Tryz.prog 241 = some (.int .u64 0) := by kernel_rfl
theorem sz242 : szOf Tryz.prog 242 = some 20 := by kernel_rfl
theorem is242 : (Tryz.prog.info? 242).isSome = true := by kernel_rfl
theorem ce242 : Tryz.prog.cellsOf 242 = 20 := by kernel_rfl
theorem ag242 : aggT Tryz.prog 242 = some true := by kernel_rfl
theorem ze242 : czero Tryz.prog 242 = some (.agg #[.int .u8 0, .int .u8 0, .int .u8 0, .int .u8 0, .int .u8 0, .int .u8 0, .int .u8 0, .int .u8 0, .int .u8 0, .int .u8 0, .int .u8 0, .int .u8 0, .int .u8 0, .int .u8 0, .int .u8 0, .int .u8 0, .int .u8 0, .int .u8 0, .int .u8 0, .int .u8 0]) := by kernel_rfl
theorem sz243 : szOf Tryz.prog 243 = some 1 := by kernel_rfl
theorem is243 : (Tryz.prog.info? 243).isSome = true := by kernel_rfl
theorem ce243 : Tryz.prog.cellsOf 243 = 1 := by kernel_rfl
theorem ag243 : aggT Tryz.prog 243 = some false := by kernel_rfl
theorem ze243 : czero Tryz.prog 243 = some (.int .u64 0) := by kernel_rfl
theorem sz244 : szOf Tryz.prog 244 = some 1 := by kernel_rfl
theorem is244 : (Tryz.prog.info? 244).isSome = true := by kernel_rfl
theorem ce244 : Tryz.prog.cellsOf 244 = 1 := by kernel_rfl
theorem ag244 : aggT Tryz.prog 244 = some false := by kernel_rfl
theorem ze244 : czero Tryz.prog 244 = some (.pointer none) := by kernel_rfl
theorem nt244 {x y : Operand} : cbin Tryz.prog .eql 244 x y (.pointer none) (.pointer none) = some (.bool true) := by kernel_rfl
theorem nn244 {x y : Operand} : cbin Tryz.prog .neq 244 x y (.pointer none) (.pointer none) = some (.bool false) := by kernel_rfl
theorem nf244 {x y : Operand} {a : Addr} : cbin Tryz.prog .eql 244 x y (.pointer (some a)) (.pointer none) = some (.bool false) := by kernel_rfl
theorem ng244 {x y : Operand} {a : Addr} : cbin Tryz.prog .neq 244 x y (.pointer (some a)) (.pointer none) = some (.bool true) := by kernel_rfl
theorem sz245 : szOf Tryz.prog 245 = some 1 := by kernel_rfl
theorem is245 : (Tryz.prog.info? 245).isSome = true := by kernel_rfl
theorem ce245 : Tryz.prog.cellsOf 245 = 1 := by kernel_rfl
theorem ag245 : aggT Tryz.prog 245 = some false := by kernel_rfl
theorem sz246 : szOf Tryz.prog 246 = some 1 := by kernel_rfl
theorem is246 : (Tryz.prog.info? 246).isSome = true := by kernel_rfl
theorem ce246 : Tryz.prog.cellsOf 246 = 1 := by kernel_rfl
theorem ag246 : aggT Tryz.prog 246 = some false := by kernel_rfl
theorem ze246 : czero Tryz.prog 246 = some (.nilFunc) := by kernel_rfl
theorem sz247 : szOf Tryz.prog 247 = some 1 := by kernel_rfl
theorem is247 : (Tryz.prog.info? 247).isSome = true := by kernel_rfl
theorem ce247 : Tryz.prog.cellsOf 247 = 1 := by kernel_rfl
theorem ag247 : aggT Tryz.prog 247 = some false := by kernel_rfl
theorem ze247 : czero Tryz.prog 247 = some (.nilFunc) := by kernel_rfl
theorem sz248 : szOf Tryz.prog 248 = some 1 := by kernel_rfl
theorem is248 : (Tryz.prog.info? 248).isSome = true := by kernel_rfl
theorem ce248 : Tryz.prog.cellsOf 248 = 1 := by kernel_rfl
theorem ag248 : aggT Tryz.prog 248 = some false := by kernel_rfl
theorem sz249 : szOf Tryz.prog 249 = some 1 := by kernel_rfl
theorem is249 : (Tryz.prog.info? 249).isSome = true := by kernel_rfl
theorem ce249 : Tryz.prog.cellsOf 249 = 1 := by kernel_rfl
theorem ag249 : aggT Tryz.prog 249 = some false := by kernel_rfl
theorem ze249 : czero Tryz.prog 249 = some (.nilFunc) := by kernel_rfl
theorem sz250 : szOf Tryz.prog 250 = some 1 := by kernel_rfl
theorem is250 : (Tryz.prog.info? 250).isSome = true := by kernel_rfl
theorem ce250 : Tryz.prog.cellsOf 250 = 1 := by kernel_rfl
theorem ag250 : aggT Tryz.prog 250 = some false := by kernel_rfl
theorem sz251 : szOf Tryz.prog 251 = some 1 := by kernel_rfl
theorem is251 : (Tryz.prog.info? 251).isSome = true := by kernel_rfl
theorem ce251 : Tryz.prog.cellsOf 251 = 1 := by kernel_rfl
theorem ag251 : aggT Tryz.prog 251 = some false := by kernel_rfl
theorem ze251 : czero Tryz.prog 251 = some (.nilFunc) := by kernel_rfl
theorem sz252 : szOf Tryz.prog 252 = some 1 := by kernel_rfl
theorem is252 : (Tryz.prog.info? 252).isSome = true := by kernel_rfl
theorem ce252 : Tryz.prog.cellsOf 252 = 1 := by kernel_rfl
theorem ag252 : aggT Tryz.prog 252 = some false := by kernel_rfl
theorem ze252 : czero Tryz.prog 252 = some (.nilFunc) := by kernel_rfl
theorem sz253 : szOf Tryz.prog 253 = some 1 := by kernel_rfl
theorem is253 : (Tryz.prog.info? 253).isSome = true := by kernel_rfl
theorem ce253 : Tryz.prog.cellsOf 253 = 1 := by kernel_rfl
theorem ag253 : aggT Tryz.prog 253 = some false := by kernel_rfl
theorem ze253 : czero Tryz.prog 253 = some (.nilFunc) := by kernel_rfl
theorem sz254 : szOf Tryz.prog 254 = some 1 := by kernel_rfl
theorem is254 : (Tryz.prog.info? 254).isSome = true := by kernel_rfl
theorem ce254 : Tryz.prog.cellsOf 254 = 1 := by kernel_rfl
theorem ag254 : aggT Tryz.prog 254 = some false := by kernel_rfl
theorem ze254 : czero Tryz.prog 254 = some (.nilFunc) := by kernel_rfl
theorem sz255 : szOf Tryz.prog 255 = some 1 := by kernel_rfl
theorem is255 : (Tryz.prog.info? 255).isSome = true := by kernel_rfl
theorem ce255 : Tryz.prog.cellsOf 255 = 1 := by kernel_rfl
theorem ag255 : aggT Tryz.prog 255 = some false := by kernel_rfl
theorem ze255 : czero Tryz.prog 255 = some (.nilFunc) := by kernel_rfl
theorem sz256 : szOf Tryz.prog 256 = some 1 := by kernel_rfl
theorem is256 : (Tryz.prog.info? 256).isSome = true := by kernel_rfl
theorem ce256 : Tryz.prog.cellsOf 256 = 1 := by kernel_rfl
theorem ag256 : aggT Tryz.prog 256 = some false := by kernel_rfl
theorem ze256 : czero Tryz.prog 256 = some (.nilFunc) := by kernel_rfl
theorem sz257 : szOf Tryz.prog 257 = some 1 := by kernel_rfl
theorem is257 : (Tryz.prog.info? 257).isSome = true := by kernel_rfl
theorem ce257 : Tryz.prog.cellsOf 257 = 1 := by kernel_rfl
theorem ag257 : aggT Tryz.prog 257 = some false := by kernel_rfl
theorem ze257 : czero Tryz.prog 257 = some (.nilFunc) := by kernel_rfl
theorem sz258 : szOf Tryz.prog 258 = some 1 := by kernel_rfl
theorem is258 : (Tryz.prog.info? 258).isSome = true := by kernel_rfl
theorem ce258 : Tryz.prog.cellsOf 258 = 1 := by kernel_rfl
theorem ag258 : aggT Tryz.prog 258 = some false := by kernel_rfl
theorem ze258 : czero Tryz.prog 258 = some (.nilFunc) := by kernel_rfl
theorem sz259 : szOf Tryz.prog 259 = some 1 := by kernel_rfl
theorem is259 : (Tryz.prog.info? 259).isSome = true := by kernel_rfl
theorem ce259 : Tryz.prog.cellsOf 259 = 1 := by kernel_rfl
theorem ag259 : aggT Tryz.prog 259 = some false := by kernel_rfl
theorem ze259 : czero Tryz.prog 259 = some (.nilFunc) := by kernel_rfl
theorem sz260 : szOf Tryz.prog 260 = some 1 := by kernel_rfl
theorem is260 : (Tryz.prog.info? 260).isSome = true := by kernel_rfl
theorem ce260 : Tryz.prog.cellsOf 260 = 1 := by kernel_rfl
theorem ag260 : aggT Tryz.prog 260 = some false := by kernel_rfl
theorem ze260 : czero Tryz.prog 260 = some (.nilFunc) := by kernel_rfl
theorem sz261 : szOf Tryz.prog 261 = some 1 := by kernel_rfl
theorem is261 : (Tryz.prog.info? 261).isSome = true := by kernel_rfl
theorem ce261 : Tryz.prog.cellsOf 261 = 1 := by kernel_rfl
theorem ag261 : aggT Tryz.prog 261 = some false := by kernel_rfl
theorem ze261 : czero Tryz.prog 261 = some (.nilFunc) := by kernel_rfl
theorem sz262 : szOf Tryz.prog 262 = some 1 := by kernel_rfl
theorem is262 : (Tryz.prog.info? 262).isSome = true := by kernel_rfl
theorem ce262 : Tryz.prog.cellsOf 262 = 1 := by kernel_rfl
theorem ag262 : aggT Tryz.prog 262 = some false := by kernel_rfl
theorem ze262 : czero Tryz.prog 262 = some (.map none) := by kernel_rfl
theorem nt262 {x y : Operand} : cbin Tryz.prog .eql 262 x y (.map none) (.map none) = some (.bool true) := by kernel_rfl
theorem nn262 {x y : Operand} : cbin Tryz.prog .neq 262 x y (.map none) (.map none) = some (.bool false) := by kernel_rfl
theorem nf262 {x y : Operand} {a : Nat} : cbin Tryz.prog .eql 262 x y (.map (some a)) (.map none) = some (.bool false) := by kernel_rfl
theorem ng262 {x y : Operand} {a : Nat} : cbin Tryz.prog .neq 262 x y (.map (some a)) (.map none) = some (.bool true) := by kernel_rfl
theorem sz263 : szOf Tryz.prog 263 = some 1 := by kernel_rfl
theorem is263 : (Tryz.prog.info? 263).isSome = true := by kernel_rfl
theorem ce263 : Tryz.prog.cellsOf 263 = 1 := by kernel_rfl
theorem ag263 : aggT Tryz.prog 263 = some false := by kernel_rfl
theorem ze263 : czero Tryz.prog 263 = some (.slice none 0 0) := by kernel_rfl
theorem sz264 : szOf Tryz.prog 264 = some 3 := by kernel_rfl
theorem is264 : (Tryz.prog.info? 264).isSome = true := by kernel_rfl
theorem ce264 : Tryz.prog.cellsOf 264 = 3 := by kernel_rfl
theorem ag264 : aggT Tryz.prog 264 = some true := by kernel_rfl
theorem ze264 : czero Tryz.prog 264 = some (.agg #[.slice none 0 0, .map none, .int .i64 0]) := by kernel_rfl
theorem fa264x0 : faOk Tryz.prog 264 0 = some 0 := by kernel_rfl
theorem fa264x1 : faOk Tryz.prog 264 1 = some 1 := by kernel_rfl
theorem fa264x2 : faOk Tryz.prog 264 2 = some 2 := by kernel_rfl
theorem sz265 : szOf Tryz.prog 265 = some 3 := by kernel_rfl
theorem is265 : (Tryz.prog.info? 265).isSome = true := by kernel_rfl
theorem ce265 : Tryz.prog.cellsOf 265 = 3 := by kernel_rfl
theorem ag265 : aggT Tryz.prog 265 = some true := by kernel_rfl
theorem ze265 : czero Tryz.prog 265 = some (.agg #[.slice none 0 0, .map none, .int .i64 0]) := by kernel_rfl
theorem fa265x0 : faOk Tryz.prog 265 0 = some 0 := by kernel_rfl
theorem fa265x1 : faOk Tryz.prog 265 1 = some 1 := by kernel_rfl
theorem fa265x2 : faOk Tryz.prog 265 2 = some 2 := by kernel_rfl
theorem sz266 : szOf Tryz.prog 266 = some 1 := by kernel_rfl
theorem is266 : (Tryz.prog.info? 266).isSome = true := by kernel_rfl
theorem ce266 : Tryz.prog.cellsOf 266 = 1 := by kernel_rfl
theorem ag266 : aggT Tryz.prog 266 = some false := by kernel_rfl
theorem ze266 : czero Tryz.prog 266 = some (.map none) := by kernel_rfl
theorem nt266 {x y : Operand} : cbin Tryz.prog .eql 266 x y (.map none) (.map none) = some (.bool true) := by kernel_rfl
theorem nn266 {x y : Operand} : cbin Tryz.prog .neq 266 x y (.map none) (.map none) = some (.bool false) := by kernel_rfl
theorem nf266 {x y : Operand} {a : Nat} : cbin Tryz.prog .eql 266 x y (.map (some a)) (.map none) = some (.bool false) := by kernel_rfl
theorem ng266 {x y : Operand} {a : Nat} : cbin Tryz.prog .neq 266 x y (.map (some a)) (.map none) = some (.bool true) := by kernel_rfl
theorem sz267 : szOf Tryz.prog 267 = some 2 := by kernel_rfl
theorem is267 : (Tryz.prog.info? 267).isSome = true := by kernel_rfl
theorem ce267 : Tryz.prog.cellsOf 267 = 2 := by kernel_rfl
theorem ag267 : aggT Tryz.prog 267 = some true := by kernel_rfl
theorem ze267 : czero Tryz.prog 267 = some (.agg #[.map none, .slice none 0 0]) := by kernel_rfl
theorem fa267x0 : faOk Tryz.prog 267 0 = some 0 := by kernel_rfl
theorem fa267x1 : faOk Tryz.prog 267 1 = some 1 := by kernel_rfl
theorem sz268 : szOf Tryz.prog 268 = some 2 := by kernel_rfl
theorem is268 : (Tryz.prog.info? 268).isSome = true := by kernel_rfl
theorem ce268 : Tryz.prog.cellsOf 268 = 2 := by kernel_rfl
theorem ag268 : aggT Tryz.prog 268 = some true := by kernel_rfl
theorem ze268 : czero Tryz.prog 268 = some (.agg #[.map none, .slice none 0 0]) := by kernel_rfl
theorem fa268x0 : faOk Tryz.prog 268 0 = some 0 := by kernel_rfl
theorem fa268x1 : faOk Tryz.prog 268 1 = some 1 := by kernel_rfl
theorem sz269 : szOf Tryz.prog 269 = some 1 := by kernel_rfl
theorem is269 : (Tryz.prog.info? 269).isSome = true := by kernel_rfl
theorem ce269 : Tryz.prog.cellsOf 269 = 1 := by kernel_rfl
theorem ag269 : aggT Tryz.prog 269 = some false := by kernel_rfl
theorem ze269 : czero Tryz.prog 269 = some (.nilFunc) := by kernel_rfl
theorem sz270 : szOf Tryz.prog 270 = some 1 := by kernel_rfl
theorem is270 : (Tryz.prog.info? 270).isSome = true := by kernel_rfl
theorem ce270 : Tryz.prog.cellsOf 270 = 1 := by kernel_rfl
theorem ag270 : aggT Tryz.prog 270 = some false := by kernel_rfl
theorem ze270 : czero Tryz.prog 270 = some (.nilFunc) := by kernel_rfl
theorem sz271 : szOf Tryz.prog 271 = some 1 := by kernel_rfl
theorem is271 : (Tryz.prog.info? 271).isSome = true := by kernel_rfl
theorem ce271 : Tryz.prog.cellsOf 271 = 1 := by kernel_rfl
theorem ag271 : aggT Tryz.prog 271 = some false := by kernel_rfl
theorem ze271 : czero Tryz.prog 271 = some (.nilFunc) := by kernel_rfl
theorem sz272 : szOf Tryz.prog 272 = some 1 := by kernel_rfl
theorem is272 : (Tryz.prog.info? 272).isSome = true := by kernel_rfl
theorem ce272 : Tryz.prog.cellsOf 272 = 1 := by kernel_rfl
theorem ag272 : aggT Tryz.prog 272 = some false := by kernel_rfl
theorem ze272 : czero Tryz.prog 272 = some (.nilFunc) := by kernel_rfl
theorem sz273 : szOf Tryz.prog 273 = some 1 := by kernel_rfl
theorem is273 : (Tryz.prog.info? 273).isSome = true := by kernel_rfl
theorem ce273 : Tryz.prog.cellsOf 273 = 1 := by kernel_rfl
theorem ag273 : aggT Tryz.prog 273 = some false := by kernel_rfl
theorem ze273 : czero Tryz.prog 273 = some (.slice none 0 0) := by kernel_rfl
theorem sz274 : szOf Tryz.prog 274 = some 2 := by kernel_rfl
theorem is274 : (Tryz.prog.info? 274).isSome = true := by kernel_rfl
theorem ce274 : Tryz.prog.cellsOf 274 = 2 := by kernel_rfl
theorem ag274 : aggT Tryz.prog 274 = some true := by kernel_rfl
theorem ze274 : czero Tryz.prog 274 = some (.agg #[.map none, .slice none 0 0]) := by kernel_rfl
theorem fa274x0 : faOk Tryz.prog 274 0 = some 0 := by kernel_rfl
theorem fa274x1 : faOk Tryz.prog 274 1 = some 1 := by kernel_rfl
theorem sz275 : szOf Tryz.prog 275 = some 2 := by kernel_rfl
theorem is275 : (Tryz.prog.info? 275).isSome = true := by kernel_rfl
theorem ce275 : Tryz.prog.cellsOf 275 = 2 := by kernel_rfl
theorem ag275 : aggT Tryz.prog 275 = some true := by kernel_rfl
theorem ze275 : czero Tryz.prog 275 = some (.agg #[.map none, .slice none 0 0]) := by kernel_rfl
theorem fa275x0 : faOk Tryz.prog 275 0 = some 0 := by kernel_rfl
theorem fa275x1 : faOk Tryz.prog 275 1 = some 1 := by kernel_rfl
theorem sz276 : szOf Tryz.prog 276 = some 1 := by kernel_rfl
theorem is276 : (Tryz.prog.info? 276).isSome = true := by kernel_rfl
theorem ce276 : Tryz.prog.cellsOf 276 = 1 := by kernel_rfl
theorem ag276 : aggT Tryz.prog 276 = some false := by kernel_rfl
theorem sz277 : szOf Tryz.prog 277 = some 1 := by kernel_rfl
theorem is277 : (Tryz.prog.info? 277).isSome = true := by kernel_rfl
theorem ce277 : Tryz.prog.cellsOf 277 = 1 := by kernel_rfl
theorem ag277 : aggT Tryz.prog 277 = some false := by kernel_rfl
theorem ze277 : czero Tryz.prog 277 = some (.nilFunc) := by kernel_rfl
theorem sz278 : szOf Tryz.prog 278 = some 5 := by kernel_rfl
theorem is278 : (Tryz.prog.info? 278).isSome = true := by kernel_rfl
theorem ce278 : Tryz.prog.cellsOf 278 = 5 := by kernel_rfl
theorem ag278 : aggT Tryz.prog 278 = some true := by kernel_rfl
theorem ze278 : czero Tryz.prog 278 = some (.agg #[.int .i64 0, .int .i64 0, .int .i64 0, .int .i64 0, .map none]) := by kernel_rfl
theorem fa278x0 : faOk Tryz.prog 278 0 = some 0 := by kernel_rfl
theorem fa278x1 : faOk Tryz.prog 278 1 = some 1 := by kernel_rfl
theorem fa278x2 : faOk Tryz.prog 278 2 = some 2 := by kernel_rfl
theorem fa278x3 : faOk Tryz.prog 278 3 = some 3 := by kernel_rfl
theorem fa278x4 : faOk Tryz.prog 278 4 = some 4 := by kernel_rfl
theorem sz279 : szOf Tryz.prog 279 = some 5 := by kernel_rfl
theorem is279 : (Tryz.prog.info? 279).isSome = true := by kernel_rfl
theorem ce279 : Tryz.prog.cellsOf 279 = 5 := by kernel_rfl
theorem ag279 : aggT Tryz.prog 279 = some true := by kernel_rfl
theorem ze279 : czero Tryz.prog 279 = some (.agg #[.int .i64 0, .int .i64 0, .int .i64 0, .int .i64 0, .map none]) := by kernel_rfl
theorem fa279x0 : faOk Tryz.prog 279 0 = some 0 := by kernel_rfl
theorem fa279x1 : faOk Tryz.prog 279 1 = some 1 := by kernel_rfl
theorem fa279x2 : faOk Tryz.prog 279 2 = some 2 := by kernel_rfl
theorem fa279x3 : faOk Tryz.prog 279 3 = some 3 := by kernel_rfl
theorem fa279x4 : faOk Tryz.prog 279 4 = some 4 := by kernel_rfl
theorem sz280 : szOf Tryz.prog 280 = some 1 := by kernel_rfl
theorem is280 : (Tryz.prog.info? 280).isSome = true := by kernel_rfl
theorem ce280 : Tryz.prog.cellsOf 280 = 1 := by kernel_rfl
theorem ag280 : aggT Tryz.prog 280 = some false := by kernel_rfl
theorem ze280 : czero Tryz.prog 280 = some (.slice none 0 0) := by kernel_rfl
theorem sz281 : szOf Tryz.prog 281 = some 1 := by kernel_rfl
theorem is281 : (Tryz.prog.info? 281).isSome = true := by kernel_rfl
theorem ce281 : Tryz.prog.cellsOf 281 = 1 := by kernel_rfl
theorem ag281 : aggT Tryz.prog 281 = some false := by kernel_rfl
theorem ze281 : czero Tryz.prog 281 = some (.slice none 0 0) := by kernel_rfl
theorem sz282 : szOf Tryz.prog 282 = some 5 := by kernel_rfl
theorem is282 : (Tryz.prog.info? 282).isSome = true := by kernel_rfl
theorem ce282 : Tryz.prog.cellsOf 282 = 5 := by kernel_rfl
theorem ag282 : aggT Tryz.prog 282 = some true := by kernel_rfl
theorem ze282 : czero Tryz.prog 282 = some (.agg #[.bool false, .bool false, .bool false, .string ByteArray.empty, .slice none 0 0]) := by kernel_rfl
theorem fa282x0 : faOk Tryz.prog 282 0 = some 0 := by kernel_rfl
theorem fa282x1 : faOk Tryz.prog 282 1 = some 1 := by kernel_rfl
theorem fa282x2 : faOk Tryz.prog 282 2 = some 2 := by kernel_rfl
theorem fa282x3 : faOk Tryz.prog 282 3 = some 3 := by kernel_rfl
theorem fa282x4 : faOk Tryz.prog 282 4 = some 4 := by kernel_rfl
theorem sz283 : szOf Tryz.prog 283 = some 5 := by kernel_rfl
theorem is283 : (Tryz.prog.info? 283).isSome = true := by kernel_rfl
theorem ce283 : Tryz.prog.cellsOf 283 = 5 := by kernel_rfl
theorem ag283 : aggT Tryz.prog 283 = some true := by kernel_rfl
theorem ze283 : czero Tryz.prog 283 = some (.agg #[.bool false, .bool false, .bool false, .string ByteArray.empty, .slice none 0 0]) := by kernel_rfl
theorem fa283x0 : faOk Tryz.prog 283 0 = some 0 := by kernel_rfl
theorem fa283x1 : faOk Tryz.prog 283 1 = some 1 := by kernel_rfl
theorem fa283x2 : faOk Tryz.prog 283 2 = some 2 := by kernel_rfl
theorem fa283x3 : faOk Tryz.prog 283 3 = some 3 := by kernel_rfl
theorem fa283x4 : faOk Tryz.prog 283 4 = some 4 := by kernel_rfl
theorem sz284 : szOf Tryz.prog 284 = some 1 := by kernel_rfl
theorem is284 : (Tryz.prog.info? 284).isSome = true := by kernel_rfl
theorem ce284 : Tryz.prog.cellsOf 284 = 1 := by kernel_rfl
theorem ag284 : aggT Tryz.prog 284 = some false := by kernel_rfl
theorem ze284 : czero Tryz.prog 284 = some (.nilFunc) := by kernel_rfl
theorem sz285 : szOf Tryz.prog 285 = some 1 := by kernel_rfl
theorem is285 : (Tryz.prog.info? 285).isSome = true := by kernel_rfl
theorem ce285 : Tryz.prog.cellsOf 285 = 1 := by kernel_rfl
theorem ag285 : aggT Tryz.prog 285 = some false := by kernel_rfl
theorem ze285 : czero Tryz.prog 285 = some (.nilFunc) := by kernel_rfl
theorem sz286 : szOf Tryz.prog 286 = some 1 := by kernel_rfl
theorem is286 : (Tryz.prog.info? 286).isSome = true := by kernel_rfl
theorem ce286 : Tryz.prog.cellsOf 286 = 1 := by kernel_rfl
theorem ag286 : aggT Tryz.prog 286 = some false := by kernel_rfl
theorem ze286 : czero Tryz.prog 286 = some (.nilFunc) := by kernel_rfl
theorem sz287 : szOf Tryz.prog 287 = some 1 := by kernel_rfl
theorem is287 : (Tryz.prog.info? 287).isSome = true := by kernel_rfl
theorem ce287 : Tryz.prog.cellsOf 287 = 1 := by kernel_rfl
theorem ag287 : aggT Tryz.prog 287 = some false := by kernel_rfl
theorem ze287 : czero Tryz.prog 287 = some (.nilFunc) := by kernel_rfl
theorem sz288 : szOf Tryz.prog 288 = some 2 := by kernel_rfl
theorem is288 : (Tryz.prog.info? 288).isSome = true := by kernel_rfl
theorem ce288 : Tryz.prog.cellsOf 288 = 2 := by kernel_rfl
theorem ag288 : aggT Tryz.prog 288 = some true := by kernel_rfl
theorem ze288 : czero Tryz.prog 288 = some (.agg #[.int .i64 0, .int .i64 0]) := by kernel_rfl
theorem fa288x0 : faOk Tryz.prog 288 0 = some 0 := by kernel_rfl
theorem fa288x1 : faOk Tryz.prog 288 1 = some 1 := by kernel_rfl
theorem sz289 : szOf Tryz.prog 289 = some 2 := by kernel_rfl
theorem is289 : (Tryz.prog.info? 289).isSome = true := by kernel_rfl
theorem ce289 : Tryz.prog.cellsOf 289 = 2 := by kernel_rfl
theorem ag289 : aggT Tryz.prog 289 = some true := by kernel_rfl
theorem ze289 : czero Tryz.prog 289 = some (.agg #[.int .i64 0, .int .i64 0]) := by kernel_rfl
theorem fa289x0 : faOk Tryz.prog 289 0 = some 0 := by kernel_rfl
theorem fa289x1 : faOk Tryz.prog 289 1 = some 1 := by kernel_rfl
theorem sz290 : szOf Tryz.prog 290 = some 1 := by kernel_rfl
theorem is290 : (Tryz.prog.info? 290).isSome = true := by kernel_rfl
theorem ce290 : Tryz.prog.cellsOf 290 = 1 := by kernel_rfl
theorem ag290 : aggT Tryz.prog 290 = some false := by kernel_rfl
theorem ze290 : czero Tryz.prog 290 = some (.nilFunc) := by kernel_rfl
theorem sz291 : szOf Tryz.prog 291 = some 1 := by kernel_rfl
theorem is291 : (Tryz.prog.info? 291).isSome = true := by kernel_rfl
theorem ce291 : Tryz.prog.cellsOf 291 = 1 := by kernel_rfl
theorem ag291 : aggT Tryz.prog 291 = some false := by kernel_rfl
theorem ze291 : czero Tryz.prog 291 = some (.nilFunc) := by kernel_rfl
theorem sz292 : szOf Tryz.prog 292 = some 1 := by kernel_rfl
theorem is292 : (Tryz.prog.info? 292).isSome = true := by kernel_rfl
theorem ce292 : Tryz.prog.cellsOf 292 = 1 := by kernel_rfl
theorem ag292 : aggT Tryz.prog 292 = some false := by kernel_rfl
theorem sz293 : szOf Tryz.prog 293 = some 1 := by kernel_rfl
theorem is293 : (Tryz.prog.info? 293).isSome = true := by kernel_rfl
theorem ce293 : Tryz.prog.cellsOf 293 = 1 := by kernel_rfl
theorem ag293 : aggT Tryz.prog 293 = some false := by kernel_rfl
theorem ze293 : czero Tryz.prog 293 = some (.nilFunc) := by kernel_rfl
theorem sz294 : szOf Tryz.prog 294 = some 1 := by kernel_rfl
theorem is294 : (Tryz.prog.info? 294).isSome = true := by kernel_rfl
theorem ce294 : Tryz.prog.cellsOf 294 = 1 := by kernel_rfl
theorem ag294 : aggT Tryz.prog 294 = some false := by kernel_rfl
theorem ze294 : czero Tryz.prog 294 = some (.nilFunc) := by kernel_rfl
theorem sz295 : szOf Tryz.prog 295 = some 1 := by kernel_rfl
theorem is295 : (Tryz.prog.info? 295).isSome = true := by kernel_rfl
theorem ce295 : Tryz.prog.cellsOf 295 = 1 := by kernel_rfl
theorem ag295 : aggT Tryz.prog 295 = some false := by kernel_rfl
theorem ze295 : czero Tryz.prog 295 = some (.nilFunc) := by kernel_rfl
theorem sz296 : szOf Tryz.prog 296 = some 1 := by kernel_rfl
theorem is296 : (Tryz.prog.info? 296).isSome = true := by kernel_rfl
theorem ce296 : Tryz.prog.cellsOf 296 = 1 := by kernel_rfl
theorem ag296 : aggT Tryz.prog 296 = some false := by kernel_rfl
theorem ze296 : czero Tryz.prog 296 = some (.nilFunc) := by kernel_rfl
theorem sz297 : szOf Tryz.prog 297 = some 1 := by kernel_rfl
theorem is297 : (Tryz.prog.info? 297).isSome = true := by kernel_rfl
theorem ce297 : Tryz.prog.cellsOf 297 = 1 := by kernel_rfl
theorem ag297 : aggT Tryz.prog 297 = some false := by kernel_rfl
theorem sz298 : szOf Tryz.prog 298 = some 1 := by kernel_rfl
theorem is298 : (Tryz.prog.info? 298).isSome = true := by kernel_rfl
theorem ce298 : Tryz.prog.cellsOf 298 = 1 := by kernel_rfl
theorem ag298 : aggT Tryz.prog 298 = some false := by kernel_rfl
theorem ze298 : czero Tryz.prog 298 = some (.nilFunc) := by kernel_rfl
theorem sz299 : szOf Tryz.prog 299 = some 1 := by kernel_rfl
theorem is299 : (Tryz.prog.info? 299).isSome = true := by kernel_rfl
theorem ce299 : Tryz.prog.cellsOf 299 = 1 := by kernel_rfl
theorem ag299 : aggT Tryz.prog 299 = some false := by kernel_rfl
theorem ze299 : czero Tryz.prog 299 = some (.nilFunc) := by kernel_rfl
theorem sz300 : szOf Tryz.prog 300 = some 1 := by kernel_rfl
theorem is300 : (Tryz.prog.info? 300).isSome = true := by kernel_rfl
theorem ce300 : Tryz.prog.cellsOf 300 = 1 := by kernel_rfl
theorem ag300 : aggT Tryz.prog 300 = some false := by kernel_rfl
theorem ze300 : czero Tryz.prog 300 = some (.nilFunc) := by kernel_rfl
theorem sz301 : szOf Tryz.prog 301 = some 1 := by kernel_rfl
theorem is301 : (Tryz.prog.info? 301).isSome = true := by kernel_rfl
theorem ce301 : Tryz.prog.cellsOf 301 = 1 := by kernel_rfl
theorem ag301 : aggT Tryz.prog 301 = some false := by kernel_rfl
theorem ze301 : czero Tryz.prog 301 = some (.pointer none) := by kernel_rfl
theorem sz302 : szOf Tryz.prog 302 = some 1 := by kernel_rfl
theorem is302 : (Tryz.prog.info? 302).isSome = true := by kernel_rfl
theorem ce302 : Tryz.prog.cellsOf 302 = 1 := by kernel_rfl
theorem ag302 : aggT Tryz.prog 302 = some false := by kernel_rfl
theorem ze302 : czero Tryz.prog 302 = some (.nilFunc) := by kernel_rfl
theorem sz303 : szOf Tryz.prog 303 = some 1 := by kernel_rfl
theorem is303 : (Tryz.prog.info? 303).isSome = true := by kernel_rfl
theorem ce303 : Tryz.prog.cellsOf 303 = 1 := by kernel_rfl
theorem ag303 : aggT Tryz.prog 303 = some false := by kernel_rfl
theorem ze303 : czero Tryz.prog 303 = some (.nilFunc) := by kernel_rfl
theorem sz304 : szOf Tryz.prog 304 = some 1 := by kernel_rfl
theorem is304 : (Tryz.prog.info? 304).isSome = true := by kernel_rfl
theorem ce304 : Tryz.prog.cellsOf 304 = 1 := by kernel_rfl
theorem ag304 : aggT Tryz.prog 304 = some false := by kernel_rfl
theorem ze304 : czero Tryz.prog 304 = some (.nilFunc) := by kernel_rfl
theorem sz305 : szOf Tryz.prog 305 = some 1 := by kernel_rfl
theorem is305 : (Tryz.prog.info? 305).isSome = true := by kernel_rfl
theorem ce305 : Tryz.prog.cellsOf 305 = 1 := by kernel_rfl
theorem ag305 : aggT Tryz.prog 305 = some false := by kernel_rfl
theorem ze305 : czero Tryz.prog 305 = some (.nilFunc) := by kernel_rfl
theorem sz306 : szOf Tryz.prog 306 = some 1 := by kernel_rfl
theorem is306 : (Tryz.prog.info? 306).isSome = true := by kernel_rfl
theorem ce306 : Tryz.prog.cellsOf 306 = 1 := by kernel_rfl
theorem ag306 : aggT Tryz.prog 306 = some false := by kernel_rfl
theorem ze306 : czero Tryz.prog 306 = some (.nilFunc) := by kernel_rfl
theorem sz307 : szOf Tryz.prog 307 = some 3 := by kernel_rfl
theorem is307 : (Tryz.prog.info? 307).isSome = true := by kernel_rfl
theorem ce307 : Tryz.prog.cellsOf 307 = 3 := by kernel_rfl
theorem ag307 : aggT Tryz.prog 307 = some true := by kernel_rfl
theorem ze307 : czero Tryz.prog 307 = some (.agg #[.int .i64 0, .int .i64 0, .int .i64 0]) := by kernel_rfl
theorem fa307x0 : faOk Tryz.prog 307 0 = some 0 := by kernel_rfl
theorem fa307x1 : faOk Tryz.prog 307 1 = some 1 := by kernel_rfl
theorem fa307x2 : faOk Tryz.prog 307 2 = some 2 := by kernel_rfl
theorem sz308 : szOf Tryz.prog 308 = some 3 := by kernel_rfl
theorem is308 : (Tryz.prog.info? 308).isSome = true := by kernel_rfl
theorem ce308 : Tryz.prog.cellsOf 308 = 3 := by kernel_rfl
theorem ag308 : aggT Tryz.prog 308 = some true := by kernel_rfl
theorem ze308 : czero Tryz.prog 308 = some (.agg #[.int .i64 0, .int .i64 0, .int .i64 0]) := by kernel_rfl
theorem fa308x0 : faOk Tryz.prog 308 0 = some 0 := by kernel_rfl
theorem fa308x1 : faOk Tryz.prog 308 1 = some 1 := by kernel_rfl
theorem fa308x2 : faOk Tryz.prog 308 2 = some 2 := by kernel_rfl
theorem sz309 : szOf Tryz.prog 309 = some 1 := by kernel_rfl
theorem is309 : (Tryz.prog.info? 309).isSome = true := by kernel_rfl
theorem ce309 : Tryz.prog.cellsOf 309 = 1 := by kernel_rfl
theorem ag309 : aggT Tryz.prog 309 = some false := by kernel_rfl
theorem ze309 : czero Tryz.prog 309 = some (.nilFunc) := by kernel_rfl
theorem sz310 : szOf Tryz.prog 310 = some 1 := by kernel_rfl
theorem is310 : (Tryz.prog.info? 310).isSome = true := by kernel_rfl
theorem ce310 : Tryz.prog.cellsOf 310 = 1 := by kernel_rfl
theorem ag310 : aggT Tryz.prog 310 = some false := by kernel_rfl
theorem ze310 : czero Tryz.prog 310 = some (.nilFunc) := by kernel_rfl
theorem sz311 : szOf Tryz.prog 311 = some 1 := by kernel_rfl
theorem is311 : (Tryz.prog.info? 311).isSome = true := by kernel_rfl
theorem ce311 : Tryz.prog.cellsOf 311 = 1 := by kernel_rfl
theorem ag311 : aggT Tryz.prog 311 = some false := by kernel_rfl
theorem ze311 : czero Tryz.prog 311 = some (.nilFunc) := by kernel_rfl
theorem sz312 : szOf Tryz.prog 312 = some 1 := by kernel_rfl
theorem is312 : (Tryz.prog.info? 312).isSome = true := by kernel_rfl
theorem ce312 : Tryz.prog.cellsOf 312 = 1 := by kernel_rfl
theorem ag312 : aggT Tryz.prog 312 = some false := by kernel_rfl
theorem ze312 : czero Tryz.prog 312 = some (.nilFunc) := by kernel_rfl
theorem sz313 : szOf Tryz.prog 313 = some 9 := by kernel_rfl
theorem is313 : (Tryz.prog.info? 313).isSome = true := by kernel_rfl
theorem ce313 : Tryz.prog.cellsOf 313 = 9 := by kernel_rfl
theorem ag313 : aggT Tryz.prog 313 = some true := by kernel_rfl
theorem ze313 : czero Tryz.prog 313 = some (.agg #[.int .i64 0, .slice none 0 0, .slice none 0 0, .int .i64 0, .int .i64 0, .slice none 0 0, .slice none 0 0, .slice none 0 0, .slice none 0 0]) := by kernel_rfl
theorem fa313x0 : faOk Tryz.prog 313 0 = some 0 := by kernel_rfl
theorem fa313x1 : faOk Tryz.prog 313 1 = some 3 := by kernel_rfl
theorem fa313x2 : faOk Tryz.prog 313 2 = some 8 := by kernel_rfl
theorem sz314 : szOf Tryz.prog 314 = some 9 := by kernel_rfl
theorem is314 : (Tryz.prog.info? 314).isSome = true := by kernel_rfl
theorem ce314 : Tryz.prog.cellsOf 314 = 9 := by kernel_rfl
theorem ag314 : aggT Tryz.prog 314 = some true := by kernel_rfl
theorem ze314 : czero Tryz.prog 314 = some (.agg #[.int .i64 0, .slice none 0 0, .slice none 0 0, .int .i64 0, .int .i64 0, .slice none 0 0, .slice none 0 0, .slice none 0 0, .slice none 0 0]) := by kernel_rfl
theorem fa314x0 : faOk Tryz.prog 314 0 = some 0 := by kernel_rfl
theorem fa314x1 : faOk Tryz.prog 314 1 = some 3 := by kernel_rfl
theorem fa314x2 : faOk Tryz.prog 314 2 = some 8 := by kernel_rfl
theorem sz315 : szOf Tryz.prog 315 = some 1 := by kernel_rfl
theorem is315 : (Tryz.prog.info? 315).isSome = true := by kernel_rfl
theorem ce315 : Tryz.prog.cellsOf 315 = 1 := by kernel_rfl
theorem ag315 : aggT Tryz.prog 315 = some false := by kernel_rfl
theorem ze315 : czero Tryz.prog 315 = some (.nilFunc) := by kernel_rfl
theorem sz316 : szOf Tryz.prog 316 = some 1 := by kernel_rfl
theorem is316 : (Tryz.prog.info? 316).isSome = true := by kernel_rfl
theorem ce316 : Tryz.prog.cellsOf 316 = 1 := by kernel_rfl
theorem ag316 : aggT Tryz.prog 316 = some false := by kernel_rfl
theorem ze316 : czero Tryz.prog 316 = some (.nilFunc) := by kernel_rfl
theorem sz317 : szOf Tryz.prog 317 = some 1 := by kernel_rfl
theorem is317 : (Tryz.prog.info? 317).isSome = true := by kernel_rfl
theorem ce317 : Tryz.prog.cellsOf 317 = 1 := by kernel_rfl
theorem ag317 : aggT Tryz.prog 317 = some false := by kernel_rfl
theorem ze317 : czero Tryz.prog 317 = some (.nilFunc) := by kernel_rfl
theorem sz318 : szOf Tryz.prog 318 = some 1 := by kernel_rfl
theorem is318 : (Tryz.prog.info? 318).isSome = true := by kernel_rfl
theorem ce318 : Tryz.prog.cellsOf 318 = 1 := by kernel_rfl
theorem ag318 : aggT Tryz.prog 318 = some false := by kernel_rfl
theorem ze318 : czero Tryz.prog 318 = some (.nilFunc) := by kernel_rfl
theorem sz319 : szOf Tryz.prog 319 = some 1 := by kernel_rfl
theorem is319 : (Tryz.prog.info? 319).isSome = true := by kernel_rfl
theorem ce319 : Tryz.prog.cellsOf 319 = 1 := by kernel_rfl
theorem ag319 : aggT Tryz.prog 319 = some false := by kernel_rfl
theorem ze319 : czero Tryz.prog 319 = some (.nilFunc) := by kernel_rfl
theorem sz320 : szOf Tryz.prog 320 = some 1 := by kernel_rfl
theorem is320 : (Tryz.prog.info? 320).isSome = true := by kernel_rfl
theorem ce320 : Tryz.prog.cellsOf 320 = 1 := by kernel_rfl
theorem ag320 : aggT Tryz.prog 320 = some false := by kernel_rfl
theorem ze320 : czero Tryz.prog 320 = some (.nilFunc) := by kernel_rfl
theorem sz321 : szOf Tryz.prog 321 = some 1 := by kernel_rfl
theorem is321 : (Tryz.prog.info? 321).isSome = true := by kernel_rfl
theorem ce321 : Tryz.prog.cellsOf 321 = 1 := by kernel_rfl
theorem ag321 : aggT Tryz.prog 321 = some false := by kernel_rfl
theorem ze321 : czero Tryz.prog 321 = some (.nilFunc) := by kernel_rfl
theorem sz322 : szOf Tryz.prog 322 = some 1 := by kernel_rfl
theorem is322 : (Tryz.prog.info? 322).isSome = true := by kernel_rfl
theorem ce322 : Tryz.prog.cellsOf 322 = 1 := by kernel_rfl
theorem ag322 : aggT Tryz.prog 322 = some false := by kernel_rfl
theorem ze322 : czero Tryz.prog 322 = some (.nilFunc) := by kernel_rfl
theorem sz323 : szOf Tryz.prog 323 = some 1 := by kernel_rfl
theorem is323 : (Tryz.prog.info? 323).isSome = true := by kernel_rfl
theorem ce323 : Tryz.prog.cellsOf 323 = 1 := by kernel_rfl
theorem ag323 : aggT Tryz.prog 323 = some false := by kernel_rfl
theorem ze323 : czero Tryz.prog 323 = some (.nilFunc) := by kernel_rfl
theorem sz324 : szOf Tryz.prog 324 = some 1 := by kernel_rfl
theorem is324 : (Tryz.prog.info? 324).isSome = true := by kernel_rfl
theorem ce324 : Tryz.prog.cellsOf 324 = 1 := by kernel_rfl
theorem ag324 : aggT Tryz.prog 324 = some false := by kernel_rfl
theorem ze324 : czero Tryz.prog 324 = some (.nilFunc) := by kernel_rfl
theorem sz325 : szOf Tryz.prog 325 = some 1 := by kernel_rfl
theorem is325 : (Tryz.prog.info? 325).isSome = true := by kernel_rfl
theorem ce325 : Tryz.prog.cellsOf 325 = 1 := by kernel_rfl
theorem ag325 : aggT Tryz.prog 325 = some false := by kernel_rfl
theorem ze325 : czero Tryz.prog 325 = some (.nilFunc) := by kernel_rfl
theorem sz326 : szOf Tryz.prog 326 = some 1 := by kernel_rfl
theorem is326 : (Tryz.prog.info? 326).isSome = true := by kernel_rfl
theorem ce326 : Tryz.prog.cellsOf 326 = 1 := by kernel_rfl
theorem ag326 : aggT Tryz.prog 326 = some false := by kernel_rfl
theorem ze326 : czero Tryz.prog 326 = some (.nilFunc) := by kernel_rfl
theorem sz327 : szOf Tryz.prog 327 = some 1 := by kernel_rfl
theorem is327 : (Tryz.prog.info? 327).isSome = true := by kernel_rfl
theorem ce327 : Tryz.prog.cellsOf 327 = 1 := by kernel_rfl
theorem ag327 : aggT Tryz.prog 327 = some false := by kernel_rfl
theorem ze327 : czero Tryz.prog 327 = some (.pointer none) := by kernel_rfl
theorem nt327 {x y : Operand} : cbin Tryz.prog .eql 327 x y (.pointer none) (.pointer none) = some (.bool true) := by kernel_rfl
theorem nn327 {x y : Operand} : cbin Tryz.prog .neq 327 x y (.pointer none) (.pointer none) = some (.bool false) := by kernel_rfl
theorem nf327 {x y : Operand} {a : Addr} : cbin Tryz.prog .eql 327 x y (.pointer (some a)) (.pointer none) = some (.bool false) := by kernel_rfl
theorem ng327 {x y : Operand} {a : Addr} : cbin Tryz.prog .neq 327 x y (.pointer (some a)) (.pointer none) = some (.bool true) := by kernel_rfl
theorem sz328 : szOf Tryz.prog 328 = some 1 := by kernel_rfl
theorem is328 : (Tryz.prog.info? 328).isSome = true := by kernel_rfl
theorem ce328 : Tryz.prog.cellsOf 328 = 1 := by kernel_rfl
theorem ag328 : aggT Tryz.prog 328 = some false := by kernel_rfl
theorem ze328 : czero Tryz.prog 328 = some (.nilFunc) := by kernel_rfl
theorem sz329 : szOf Tryz.prog 329 = some 1 := by kernel_rfl
theorem is329 : (Tryz.prog.info? 329).isSome = true := by kernel_rfl
theorem ce329 : Tryz.prog.cellsOf 329 = 1 := by kernel_rfl
theorem ag329 : aggT Tryz.prog 329 = some false := by kernel_rfl
theorem sz330 : szOf Tryz.prog 330 = some 1 := by kernel_rfl
theorem is330 : (Tryz.prog.info? 330).isSome = true := by kernel_rfl
theorem ce330 : Tryz.prog.cellsOf 330 = 1 := by kernel_rfl
theorem ag330 : aggT Tryz.prog 330 = some false := by kernel_rfl
theorem ze330 : czero Tryz.prog 330 = some (.nilFunc) := by kernel_rfl
theorem sz331 : szOf Tryz.prog 331 = some 5 := by kernel_rfl
theorem is331 : (Tryz.prog.info? 331).isSome = true := by kernel_rfl
theorem ce331 : Tryz.prog.cellsOf 331 = 5 := by kernel_rfl
theorem ag331 : aggT Tryz.prog 331 = some true := by kernel_rfl
theorem ze331 : czero Tryz.prog 331 = some (.agg #[.string ByteArray.empty, .int .i64 0, .int .i64 0, .string ByteArray.empty, .bool false]) := by kernel_rfl
theorem fa331x0 : faOk Tryz.prog 331 0 = some 0 := by kernel_rfl
theorem fa331x1 : faOk Tryz.prog 331 1 = some 1 := by kernel_rfl
theorem fa331x2 : faOk Tryz.prog 331 2 = some 4 := by kernel_rfl
theorem sz332 : szOf Tryz.prog 332 = some 5 := by kernel_rfl
theorem is332 : (Tryz.prog.info? 332).isSome = true := by kernel_rfl
theorem ce332 : Tryz.prog.cellsOf 332 = 5 := by kernel_rfl
theorem ag332 : aggT Tryz.prog 332 = some true := by kernel_rfl
theorem ze332 : czero Tryz.prog 332 = some (.agg #[.string ByteArray.empty, .int .i64 0, .int .i64 0, .string ByteArray.empty, .bool false]) := by kernel_rfl
theorem fa332x0 : faOk Tryz.prog 332 0 = some 0 := by kernel_rfl
theorem fa332x1 : faOk Tryz.prog 332 1 = some 1 := by kernel_rfl
theorem fa332x2 : faOk Tryz.prog 332 2 = some 4 := by kernel_rfl
theorem sz333 : szOf Tryz.prog 333 = some 1 := by kernel_rfl
theorem is333 : (Tryz.prog.info? 333).isSome = true := by kernel_rfl
theorem ce333 : Tryz.prog.cellsOf 333 = 1 := by kernel_rfl
theorem ag333 : aggT Tryz.prog 333 = some false := by kernel_rfl
theorem ze333 : czero Tryz.prog 333 = some (.nilFunc) := by kernel_rfl
theorem sz334 : szOf Tryz.prog 334 = some 1 := by kernel_rfl
theorem is334 : (Tryz.prog.info? 334).isSome = true := by kernel_rfl
theorem ce334 : Tryz.prog.cellsOf 334 = 1 := by kernel_rfl
theorem ag334 : aggT Tryz.prog 334 = some false := by kernel_rfl
theorem ze334 : czero Tryz.prog 334 = some (.nilFunc) := by kernel_rfl
theorem sz335 : szOf Tryz.prog 335 = some 1 := by kernel_rfl
theorem is335 : (Tryz.prog.info? 335).isSome = true := by kernel_rfl
theorem ce335 : Tryz.prog.cellsOf 335 = 1 := by kernel_rfl
theorem ag335 : aggT Tryz.prog 335 = some false := by kernel_rfl
theorem sz336 : szOf Tryz.prog 336 = some 1 := by kernel_rfl
theorem is336 : (Tryz.prog.info? 336).isSome = true := by kernel_rfl
theorem ce336 : Tryz.prog.cellsOf 336 = 1 := by kernel_rfl
theorem ag336 : aggT Tryz.prog 336 = some false := by kernel_rfl
theorem ze336 : czero Tryz.prog 336 = some (.nilFunc) := by kernel_rfl
theorem sz337 : szOf Tryz.prog 337 = some 1 := by kernel_rfl
theorem is337 : (Tryz.prog.info? 337).isSome = true := by kernel_rfl
theorem ce337 : Tryz.prog.cellsOf 337 = 1 := by kernel_rfl
theorem ag337 : aggT Tryz.prog 337 = some false := by kernel_rfl
theorem ze337 : czero Tryz.prog 337 = some (.nilFunc) := by kernel_rfl
theorem sz338 : szOf Tryz.prog 338 = some 1 := by kernel_rfl
theorem is338 : (Tryz.prog.info? 338).isSome = true := by kernel_rfl
theorem ce338 : Tryz.prog.cellsOf 338 = 1 := by kernel_rfl
theorem ag338 : aggT Tryz.prog 338 = some false := by kernel_rfl
theorem ze338 : czero Tryz.prog 338 = some (.nilFunc) := by kernel_rfl
theorem sz339 : szOf Tryz.prog 339 = some 1 := by kernel_rfl
theorem is339 : (Tryz.prog.info? 339).isSome = true := by kernel_rfl
theorem ce339 : Tryz.prog.cellsOf 339 = 1 := by kernel_rfl
theorem ag339 : aggT Tryz.prog 339 = some false := by kernel_rfl
theorem ze339 : czero Tryz.prog 339 = some (.nilFunc) := by kernel_rfl
theorem sz340 : szOf Tryz.prog 340 = some 1 := by kernel_rfl
theorem is340 : (Tryz.prog.info? 340).isSome = true := by kernel_rfl
theorem ce340 : Tryz.prog.cellsOf 340 = 1 := by kernel_rfl
theorem ag340 : aggT Tryz.prog 340 = some false := by kernel_rfl
theorem ze340 : czero Tryz.prog 340 = some (.nilFunc) := by kernel_rfl
theorem sz341 : szOf Tryz.prog 341 = some 1 := by kernel_rfl
theorem is341 : (Tryz.prog.info? 341).isSome = true := by kernel_rfl
theorem ce341 : Tryz.prog.cellsOf 341 = 1 := by kernel_rfl
theorem ag341 : aggT Tryz.prog 341 = some false := by kernel_rfl
theorem ze341 : czero Tryz.prog 341 = some (.nilFunc) := by kernel_rfl
theorem sz342 : szOf Tryz.prog 342 = some 4 := by kernel_rfl
theorem is342 : (Tryz.prog.info? 342).isSome = true := by kernel_rfl
theorem ce342 : Tryz.prog.cellsOf 342 = 4 := by kernel_rfl
theorem ag342 : aggT Tryz.prog 342 = some true := by kernel_rfl
theorem ze342 : czero Tryz.prog 342 = some (.agg #[.int .i64 0, .int .i64 0, .int .i64 0, .int .i64 0]) := by kernel_rfl
theorem sz343 : szOf Tryz.prog 343 = some 1 := by kernel_rfl
theorem is343 : (Tryz.prog.info? 343).isSome = true := by kernel_rfl
theorem ce343 : Tryz.prog.cellsOf 343 = 1 := by kernel_rfl
theorem ag343 : aggT Tryz.prog 343 = some false := by kernel_rfl
theorem ze343 : czero Tryz.prog 343 = some (.nilFunc) := by kernel_rfl
theorem sz344 : szOf Tryz.prog 344 = some 1 := by kernel_rfl
theorem is344 : (Tryz.prog.info? 344).isSome = true := by kernel_rfl
theorem ce344 : Tryz.prog.cellsOf 344 = 1 := by kernel_rfl
theorem ag344 : aggT Tryz.prog 344 = some false := by kernel_rfl
theorem ze344 : czero Tryz.prog 344 = some (.nilFunc) := by kernel_rfl
theorem sz345 : szOf Tryz.prog 345 = some 1 := by kernel_rfl
theorem is345 : (Tryz.prog.info? 345).isSome = true := by kernel_rfl
theorem ce345 : Tryz.prog.cellsOf 345 = 1 := by kernel_rfl
theorem ag345 : aggT Tryz.prog 345 = some false := by kernel_rfl
theorem ze345 : czero Tryz.prog 345 = some (.nilFunc) := by kernel_rfl
theorem sz346 : szOf Tryz.prog 346 = some 1 := by kernel_rfl
theorem is346 : (Tryz.prog.info? 346).isSome = true := by kernel_rfl
theorem ce346 : Tryz.prog.cellsOf 346 = 1 := by kernel_rfl
theorem ag346 : aggT Tryz.prog 346 = some false := by kernel_rfl
theorem ze346 : czero Tryz.prog 346 = some (.nilFunc) := by kernel_rfl
theorem sz347 : szOf Tryz.prog 347 = some 1 := by kernel_rfl
theorem is347 : (Tryz.prog.info? 347).isSome = true := by kernel_rfl
theorem ce347 : Tryz.prog.cellsOf 347 = 1 := by kernel_rfl
theorem ag347 : aggT Tryz.prog 347 = some false := by kernel_rfl
theorem ze347 : czero Tryz.prog 347 = some (.nilFunc) := by kernel_rfl
theorem sz348 : szOf Tryz.prog 348 = some 1 := by kernel_rfl
theorem is348 : (Tryz.prog.info? 348).isSome = true := by kernel_rfl
theorem ce348 : Tryz.prog.cellsOf 348 = 1 := by kernel_rfl
theorem ag348 : aggT Tryz.prog 348 = some false := by kernel_rfl
theorem ze348 : czero Tryz.prog 348 = some (.nilFunc) := by kernel_rfl
theorem sz349 : szOf Tryz.prog 349 = some 1 := by kernel_rfl
theorem is349 : (Tryz.prog.info? 349).isSome = true := by kernel_rfl
theorem ce349 : Tryz.prog.cellsOf 349 = 1 := by kernel_rfl
theorem ag349 : aggT Tryz.prog 349 = some false := by kernel_rfl
theorem ze349 : czero Tryz.prog 349 = some (.nilFunc) := by kernel_rfl
theorem sz350 : szOf Tryz.prog 350 = some 1 := by kernel_rfl
theorem is350 : (Tryz.prog.info? 350).isSome = true := by kernel_rfl
theorem ce350 : Tryz.prog.cellsOf 350 = 1 := by kernel_rfl
theorem ag350 : aggT Tryz.prog 350 = some false := by kernel_rfl
theorem ze350 : czero Tryz.prog 350 = some (.nilFunc) := by kernel_rfl
theorem sz351 : szOf Tryz.prog 351 = some 1 := by kernel_rfl
theorem is351 : (Tryz.prog.info? 351).isSome = true := by kernel_rfl
theorem ce351 : Tryz.prog.cellsOf 351 = 1 := by kernel_rfl
theorem ag351 : aggT Tryz.prog 351 = some false := by kernel_rfl
theorem ze351 : czero Tryz.prog 351 = some (.nilFunc) := by kernel_rfl
theorem sz352 : szOf Tryz.prog 352 = some 1 := by kernel_rfl
theorem is352 : (Tryz.prog.info? 352).isSome = true := by kernel_rfl
theorem ce352 : Tryz.prog.cellsOf 352 = 1 := by kernel_rfl
theorem ag352 : aggT Tryz.prog 352 = some false := by kernel_rfl
theorem ze352 : czero Tryz.prog 352 = some (.nilFunc) := by kernel_rfl
theorem sz353 : szOf Tryz.prog 353 = some 1 := by kernel_rfl
theorem is353 : (Tryz.prog.info? 353).isSome = true := by kernel_rfl
theorem ce353 : Tryz.prog.cellsOf 353 = 1 := by kernel_rfl
theorem ag353 : aggT Tryz.prog 353 = some false := by kernel_rfl
theorem ze353 : czero Tryz.prog 353 = some (.nilFunc) := by kernel_rfl
theorem sz354 : szOf Tryz.prog 354 = some 1 := by kernel_rfl
theorem is354 : (Tryz.prog.info? 354).isSome = true := by kernel_rfl
theorem ce354 : Tryz.prog.cellsOf 354 = 1 := by kernel_rfl
theorem ag354 : aggT Tryz.prog 354 = some false := by kernel_rfl
theorem ze354 : czero Tryz.prog 354 = some (.nilFunc) := by kernel_rfl
theorem sz355 : szOf Tryz.prog 355 = some 1 := by kernel_rfl
theorem is355 : (Tryz.prog.info? 355).isSome = true := by kernel_rfl
theorem ce355 : Tryz.prog.cellsOf 355 = 1 := by kernel_rfl
theorem ag355 : aggT Tryz.prog 355 = some false := by kernel_rfl
theorem ze355 : czero Tryz.prog 355 = some (.nilFunc) := by kernel_rfl
theorem sz356 : szOf Tryz.prog 356 = some 1 := by kernel_rfl
theorem is356 : (Tryz.prog.info? 356).isSome = true := by kernel_rfl
theorem ce356 : Tryz.prog.cellsOf 356 = 1 := by kernel_rfl
theorem ag356 : aggT Tryz.prog 356 = some false := by kernel_rfl
theorem ze356 : czero Tryz.prog 356 = some (.nilFunc) := by kernel_rfl
theorem sz357 : szOf Tryz.prog 357 = some 1 := by kernel_rfl
theorem is357 : (Tryz.prog.info? 357).isSome = true := by kernel_rfl
theorem ce357 : Tryz.prog.cellsOf 357 = 1 := by kernel_rfl
theorem ag357 : aggT Tryz.prog 357 = some false := by kernel_rfl
theorem ze357 : czero Tryz.prog 357 = some (.nilFunc) := by kernel_rfl
theorem sz358 : szOf Tryz.prog 358 = some 1 := by kernel_rfl
theorem is358 : (Tryz.prog.info? 358).isSome = true := by kernel_rfl
theorem ce358 : Tryz.prog.cellsOf 358 = 1 := by kernel_rfl
theorem ag358 : aggT Tryz.prog 358 = some false := by kernel_rfl
theorem ze358 : czero Tryz.prog 358 = some (.nilFunc) := by kernel_rfl
theorem sz359 : szOf Tryz.prog 359 = some 1 := by kernel_rfl
theorem is359 : (Tryz.prog.info? 359).isSome = true := by kernel_rfl
theorem ce359 : Tryz.prog.cellsOf 359 = 1 := by kernel_rfl
theorem ag359 : aggT Tryz.prog 359 = some false := by kernel_rfl
theorem ze359 : czero Tryz.prog 359 = some (.nilFunc) := by kernel_rfl
theorem sz360 : szOf Tryz.prog 360 = some 1 := by kernel_rfl
theorem is360 : (Tryz.prog.info? 360).isSome = true := by kernel_rfl
theorem ce360 : Tryz.prog.cellsOf 360 = 1 := by kernel_rfl
theorem ag360 : aggT Tryz.prog 360 = some false := by kernel_rfl
theorem ze360 : czero Tryz.prog 360 = some (.nilFunc) := by kernel_rfl
theorem sz361 : szOf Tryz.prog 361 = some 1 := by kernel_rfl
theorem is361 : (Tryz.prog.info? 361).isSome = true := by kernel_rfl
theorem ce361 : Tryz.prog.cellsOf 361 = 1 := by kernel_rfl
theorem ag361 : aggT Tryz.prog 361 = some false := by kernel_rfl
theorem ze361 : czero Tryz.prog 361 = some (.nilFunc) := by kernel_rfl
theorem sz362 : szOf Tryz.prog 362 = some 1 := by kernel_rfl
theorem is362 : (Tryz.prog.info? 362).isSome = true := by kernel_rfl
theorem ce362 : Tryz.prog.cellsOf 362 = 1 := by kernel_rfl
theorem ag362 : aggT Tryz.prog 362 = some false := by kernel_rfl
theorem ze362 : czero Tryz.prog 362 = some (.nilFunc) := by kernel_rfl
theorem sz363 : szOf Tryz.prog 363 = some 1 := by kernel_rfl
theorem is363 : (Tryz.prog.info? 363).isSome = true := by kernel_rfl
theorem ce363 : Tryz.prog.cellsOf 363 = 1 := by kernel_rfl
theorem ag363 : aggT Tryz.prog 363 = some false := by kernel_rfl
theorem ze363 : czero Tryz.prog 363 = some (.nilFunc) := by kernel_rfl
theorem sz364 : szOf Tryz.prog 364 = some 12 := by kernel_rfl
theorem is364 : (Tryz.prog.info? 364).isSome = true := by kernel_rfl
theorem ce364 : Tryz.prog.cellsOf 364 = 12 := by kernel_rfl
theorem ag364 : aggT Tryz.prog 364 = some true := by kernel_rfl
theorem ze364 : czero Tryz.prog 364 = some (.agg #[.string ByteArray.empty, .string ByteArray.empty, .string ByteArray.empty, .string ByteArray.empty, .string ByteArray.empty, .string ByteArray.empty, .string ByteArray.empty, .string ByteArray.empty, .string ByteArray.empty, .string ByteArray.empty, .string ByteArray.empty, .string ByteArray.empty]) := by kernel_rfl
theorem sz365 : szOf Tryz.prog 365 = some 1 := by kernel_rfl
theorem is365 : (Tryz.prog.info? 365).isSome = true := by kernel_rfl
theorem ce365 : Tryz.prog.cellsOf 365 = 1 := by kernel_rfl
theorem ag365 : aggT Tryz.prog 365 = some false := by kernel_rfl
theorem ze365 : czero Tryz.prog 365 = some (.nilFunc) := by kernel_rfl
theorem sz366 : szOf Tryz.prog 366 = some 1 := by kernel_rfl
theorem is366 : (Tryz.prog.info? 366).isSome = true := by kernel_rfl
theorem ce366 : Tryz.prog.cellsOf 366 = 1 := by kernel_rfl
theorem ag366 : aggT Tryz.prog 366 = some false := by kernel_rfl
theorem ze366 : czero Tryz.prog 366 = some (.nilFunc) := by kernel_rfl
theorem sz367 : szOf Tryz.prog 367 = some 1 := by kernel_rfl
theorem is367 : (Tryz.prog.info? 367).isSome = true := by kernel_rfl
theorem ce367 : Tryz.prog.cellsOf 367 = 1 := by kernel_rfl
theorem ag367 : aggT Tryz.prog 367 = some false := by kernel_rfl
theorem ze367 : czero Tryz.prog 367 = some (.nilFunc) := by kernel_rfl
theorem sz368 : szOf Tryz.prog 368 = some 1 := by kernel_rfl
theorem is368 : (Tryz.prog.info? 368).isSome = true := by kernel_rfl
theorem ce368 : Tryz.prog.cellsOf 368 = 1 := by kernel_rfl
theorem ag368 : aggT Tryz.prog 368 = some false := by kernel_rfl
theorem ze368 : czero Tryz.prog 368 = some (.nilFunc) := by kernel_rfl
theorem sz369 : szOf Tryz.prog 369 = some 1 := by kernel_rfl
theorem is369 : (Tryz.prog.info? 369).isSome = true := by kernel_rfl
theorem ce369 : Tryz.prog.cellsOf 369 = 1 := by kernel_rfl
theorem ag369 : aggT Tryz.prog 369 = some false := by kernel_rfl
theorem sz370 : szOf Tryz.prog 370 = some 1 := by kernel_rfl
theorem is370 : (Tryz.prog.info? 370).isSome = true := by kernel_rfl
theorem ce370 : Tryz.prog.cellsOf 370 = 1 := by kernel_rfl
theorem ag370 : aggT Tryz.prog 370 = some false := by kernel_rfl
theorem ze370 : czero Tryz.prog 370 = some (.nilFunc) := by kernel_rfl
theorem sz371 : szOf Tryz.prog 371 = some 1 := by kernel_rfl
theorem is371 : (Tryz.prog.info? 371).isSome = true := by kernel_rfl
theorem ce371 : Tryz.prog.cellsOf 371 = 1 := by kernel_rfl
theorem ag371 : aggT Tryz.prog 371 = some false := by kernel_rfl
theorem ze371 : czero Tryz.prog 371 = some (.int .u32 0) := by kernel_rfl
theorem sz372 : szOf Tryz.prog 372 = some 1 := by kernel_rfl
theorem is372 : (Tryz.prog.info? 372).isSome = true := by kernel_rfl
theorem ce372 : Tryz.prog.cellsOf 372 = 1 := by kernel_rfl
theorem ag372 : aggT Tryz.prog 372 = some false := by kernel_rfl
theorem sz373 : szOf Tryz.prog 373 = some 1 := by kernel_rfl
theorem is373 : (Tryz.prog.info? 373).isSome = true := by kernel_rfl
theorem ce373 : Tryz.prog.cellsOf 373 = 1 := by kernel_rfl
theorem ag373 : aggT Tryz.prog 373 = some false := by kernel_rfl
theorem ze373 : czero Tryz.prog 373 = some (.nilFunc) := by kernel_rfl
theorem sz374 : szOf Tryz.prog 374 = some 1 := by kernel_rfl
theorem is374 : (Tryz.prog.info? 374).isSome = true := by kernel_rfl
theorem ce374 : Tryz.prog.cellsOf 374 = 1 := by kernel_rfl
theorem ag374 : aggT Tryz.prog 374 = some false := by kernel_rfl
theorem sz375 : szOf Tryz.prog 375 = some 1 := by kernel_rfl
theorem is375 : (Tryz.prog.info? 375).isSome = true := by kernel_rfl
theorem ce375 : Tryz.prog.cellsOf 375 = 1 := by kernel_rfl
theorem ag375 : aggT Tryz.prog 375 = some false := by kernel_rfl
theorem ze375 : czero Tryz.prog 375 = some (.nilFunc) := by kernel_rfl
theorem sz376 : szOf Tryz.prog 376 = some 4 := by kernel_rfl
theorem is376 : (Tryz.prog.info? 376).isSome = true := by kernel_rfl
theorem ce376 : Tryz.prog.cellsOf 376 = 4 := by kernel_rfl
theorem ag376 : aggT Tryz.prog 376 = some true := by kernel_rfl
theorem ze376 : czero Tryz.prog 376 = some (.agg #[.pointer none, .pointer none, .pointer none, .string ByteArray.empty]) := by kernel_rfl
theorem fa376x0 : faOk Tryz.prog 376 0 = some 0 := by kernel_rfl
theorem fa376x1 : faOk Tryz.prog 376 1 = some 1 := by kernel_rfl
theorem fa376x2 : faOk Tryz.prog 376 2 = some 2 := by kernel_rfl
theorem fa376x3 : faOk Tryz.prog 376 3 = some 3 := by kernel_rfl
theorem sz377 : szOf Tryz.prog 377 = some 4 := by kernel_rfl
theorem is377 : (Tryz.prog.info? 377).isSome = true := by kernel_rfl
theorem ce377 : Tryz.prog.cellsOf 377 = 4 := by kernel_rfl
theorem ag377 : aggT Tryz.prog 377 = some true := by kernel_rfl
theorem ze377 : czero Tryz.prog 377 = some (.agg #[.pointer none, .pointer none, .pointer none, .string ByteArray.empty]) := by kernel_rfl
theorem fa377x0 : faOk Tryz.prog 377 0 = some 0 := by kernel_rfl
theorem fa377x1 : faOk Tryz.prog 377 1 = some 1 := by kernel_rfl
theorem fa377x2 : faOk Tryz.prog 377 2 = some 2 := by kernel_rfl
theorem fa377x3 : faOk Tryz.prog 377 3 = some 3 := by kernel_rfl
theorem sz378 : szOf Tryz.prog 378 = some 0 := by kernel_rfl
theorem is378 : (Tryz.prog.info? 378).isSome = true := by kernel_rfl
theorem ce378 : Tryz.prog.cellsOf 378 = 0 := by kernel_rfl
theorem ag378 : aggT Tryz.prog 378 = some true := by kernel_rfl
theorem ze378 : czero Tryz.prog 378 = some (.agg #[]) := by kernel_rfl
theorem sz379 : szOf Tryz.prog 379 = some 0 := by kernel_rfl
theorem is379 : (Tryz.prog.info? 379).isSome = true := by kernel_rfl
theorem ce379 : Tryz.prog.cellsOf 379 = 0 := by kernel_rfl
theorem ag379 : aggT Tryz.prog 379 = some true := by kernel_rfl
theorem ze379 : czero Tryz.prog 379 = some (.agg #[]) := by kernel_rfl
theorem sz380 : szOf Tryz.prog 380 = some 0 := by kernel_rfl
theorem is380 : (Tryz.prog.info? 380).isSome = true := by kernel_rfl
theorem ce380 : Tryz.prog.cellsOf 380 = 0 := by kernel_rfl
theorem ag380 : aggT Tryz.prog 380 = some true := by kernel_rfl
theorem ze380 : czero Tryz.prog 380 = some (.agg #[]) := by kernel_rfl
theorem sz381 : szOf Tryz.prog 381 = some 1 := by kernel_rfl
theorem is381 : (Tryz.prog.info? 381).isSome = true := by kernel_rfl
theorem ce381 : Tryz.prog.cellsOf 381 = 1 := by kernel_rfl
theorem ag381 : aggT Tryz.prog 381 = some false := by kernel_rfl
theorem ze381 : czero Tryz.prog 381 = some (.int .u8 0) := by kernel_rfl
theorem sz382 : szOf Tryz.prog 382 = some 1 := by kernel_rfl
theorem is382 : (Tryz.prog.info? 382).isSome = true := by kernel_rfl
theorem ce382 : Tryz.prog.cellsOf 382 = 1 := by kernel_rfl
theorem ag382 : aggT Tryz.prog 382 = some false := by kernel_rfl
theorem ze382 : czero Tryz.prog 382 = some (.int .u8 0) := by kernel_rfl
theorem sz383 : szOf Tryz.prog 383 = some 1 := by kernel_rfl
theorem is383 : (Tryz.prog.info? 383).isSome = true := by kernel_rfl
theorem ce383 : Tryz.prog.cellsOf 383 = 1 := by kernel_rfl
theorem ag383 : aggT Tryz.prog 383 = some false := by kernel_rfl
theorem ze383 : czero Tryz.prog 383 = some (.nilFunc) := by kernel_rfl
theorem sz384 : szOf Tryz.prog 384 = some 1 := by kernel_rfl
theorem is384 : (Tryz.prog.info? 384).isSome = true := by kernel_rfl
theorem ce384 : Tryz.prog.cellsOf 384 = 1 := by kernel_rfl
theorem ag384 : aggT Tryz.prog 384 = some false := by kernel_rfl
theorem ze384 : czero Tryz.prog 384 = some (.int .i32 0) := by kernel_rfl
theorem sz385 : szOf Tryz.prog 385 = some 1 := by kernel_rfl
theorem is385 : (Tryz.prog.info? 385).isSome = true := by kernel_rfl
theorem ce385 : Tryz.prog.cellsOf 385 = 1 := by kernel_rfl
theorem ag385 : aggT Tryz.prog 385 = some false := by kernel_rfl
theorem ze385 : czero Tryz.prog 385 = some (.int .i32 0) := by kernel_rfl
theorem sz386 : szOf Tryz.prog 386 = some 11 := by kernel_rfl
theorem is386 : (Tryz.prog.info? 386).isSome = true := by kernel_rfl
theorem ce386 : Tryz.prog.cellsOf 386 = 11 := by kernel_rfl
theorem ag386 : aggT Tryz.prog 386 = some true := by kernel_rfl
theorem ze386 : czero Tryz.prog 386 = some (.agg #[.int .u64 0, .int .u64 0, .int .u32 0, .int .u8 0, .int .u8 0, .int .u8 0, .int .u8 0, .nilFunc, .pointer none, .int .i32 0, .int .i32 0]) := by kernel_rfl
theorem fa386x0 : faOk Tryz.prog 386 0 = some 0 := by kernel_rfl
theorem fa386x1 : faOk Tryz.prog 386 1 = some 1 := by kernel_rfl
theorem fa386x2 : faOk Tryz.prog 386 2 = some 2 := by kernel_rfl
theorem fa386x3 : faOk Tryz.prog 386 3 = some 3 := by kernel_rfl
theorem fa386x4 : faOk Tryz.prog 386 4 = some 4 := by kernel_rfl
theorem fa386x5 : faOk Tryz.prog 386 5 = some 5 := by kernel_rfl
theorem fa386x6 : faOk Tryz.prog 386 6 = some 6 := by kernel_rfl
theorem fa386x7 : faOk Tryz.prog 386 7 = some 7 := by kernel_rfl
theorem fa386x8 : faOk Tryz.prog 386 8 = some 8 := by kernel_rfl
theorem fa386x9 : faOk Tryz.prog 386 9 = some 9 := by kernel_rfl
theorem fa386x10 : faOk Tryz.prog 386 10 = some 10 := by kernel_rfl
theorem sz387 : szOf Tryz.prog 387 = some 11 := by kernel_rfl
theorem is387 : (Tryz.prog.info? 387).isSome = true := by kernel_rfl
theorem ce387 : Tryz.prog.cellsOf 387 = 11 := by kernel_rfl
theorem ag387 : aggT Tryz.prog 387 = some true := by kernel_rfl
theorem ze387 : czero Tryz.prog 387 = some (.agg #[.int .u64 0, .int .u64 0, .int .u32 0, .int .u8 0, .int .u8 0, .int .u8 0, .int .u8 0, .nilFunc, .pointer none, .int .i32 0, .int .i32 0]) := by kernel_rfl
theorem fa387x0 : faOk Tryz.prog 387 0 = some 0 := by kernel_rfl
theorem fa387x1 : faOk Tryz.prog 387 1 = some 1 := by kernel_rfl
theorem fa387x2 : faOk Tryz.prog 387 2 = some 2 := by kernel_rfl
theorem fa387x3 : faOk Tryz.prog 387 3 = some 3 := by kernel_rfl
theorem fa387x4 : faOk Tryz.prog 387 4 = some 4 := by kernel_rfl
theorem fa387x5 : faOk Tryz.prog 387 5 = some 5 := by kernel_rfl
theorem fa387x6 : faOk Tryz.prog 387 6 = some 6 := by kernel_rfl
theorem fa387x7 : faOk Tryz.prog 387 7 = some 7 := by kernel_rfl
theorem fa387x8 : faOk Tryz.prog 387 8 = some 8 := by kernel_rfl
theorem fa387x9 : faOk Tryz.prog 387 9 = some 9 := by kernel_rfl
theorem fa387x10 : faOk Tryz.prog 387 10 = some 10 := by kernel_rfl
theorem sz388 : szOf Tryz.prog 388 = some 1 := by kernel_rfl
theorem is388 : (Tryz.prog.info? 388).isSome = true := by kernel_rfl
theorem ce388 : Tryz.prog.cellsOf 388 = 1 := by kernel_rfl
theorem ag388 : aggT Tryz.prog 388 = some false := by kernel_rfl
theorem ze388 : czero Tryz.prog 388 = some (.nilFunc) := by kernel_rfl
end Go.Proofs.Tryz
