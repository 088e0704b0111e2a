/- Facts on the types of the program: sizes, places of fields, zero values. Written by program (types.py). A lemma file: no statement of its own. -/
import Derived.Test.YtiachndgldjbfaaChecked
import Derived.Test.YtiachndgldjbfaaFwE
set_option linter.unusedSimpArgs false
set_option linter.unusedVariables false
namespace Go.Proofs.Try
open Go.Cs
theorem sz0 : szOf Try.prog 0 = some 1 := by kernel_rfl
theorem is0 : (Try.prog.info? 0).isSome = true := by kernel_rfl
theorem ce0 : Try.prog.cellsOf 0 = 1 := by kernel_rfl
theorem ag0 : aggT Try.prog 0 = some false := by kernel_rfl
theorem sz1 : szOf Try.prog 1 = some 1 := by kernel_rfl
theorem is1 : (Try.prog.info? 1).isSome = true := by kernel_rfl
theorem ce1 : Try.prog.cellsOf 1 = 1 := by kernel_rfl
theorem ag1 : aggT Try.prog 1 = some false := by kernel_rfl
theorem ze1 : czero Try.prog 1 = some (.nilFunc) := by kernel_rfl
theorem sz2 : szOf Try.prog 2 = some 1 := by kernel_rfl
theorem is2 : (Try.prog.info? 2).isSome = true := by kernel_rfl
theorem ce2 : Try.prog.cellsOf 2 = 1 := by kernel_rfl
theorem ag2 : aggT Try.prog 2 = some false := by kernel_rfl
theorem ze2 : czero Try.prog 2 = some (.int .i64 0) := by kernel_rfl
theorem sz3 : szOf Try.prog 3 = some 1 := by kernel_rfl
theorem is3 : (Try.prog.info? 3).isSome = true := by kernel_rfl
theorem ce3 : Try.prog.cellsOf 3 = 1 := by kernel_rfl
theorem ag3 : aggT Try.prog 3 = some false := by kernel_rfl
theorem ze3 : czero Try.prog 3 = some (.int .i64 0) := by kernel_rfl
theorem sz4 : szOf Try.prog 4 = some 1 := by kernel_rfl
theorem is4 : (Try.prog.info? 4).isSome = true := by kernel_rfl
theorem ce4 : Try.prog.cellsOf 4 = 1 := by kernel_rfl
theorem ag4 : aggT Try.prog 4 = some false := by kernel_rfl
theorem ze4 : czero Try.prog 4 = some (.bool false) := by kernel_rfl
theorem be4 {x y : Operand} {a b : Bool} : cbin Try.prog .eql 4 x y (.bool a) (.bool b) = some (.bool (a == b)) := by kernel_rfl
theorem bn4 {x y : Operand} {a b : Bool} : cbin Try.prog .neq 4 x y (.bool a) (.bool b) = some (.bool (!(a == b))) := by kernel_rfl
theorem sz5 : szOf Try.prog 5 = some 1 := by kernel_rfl
theorem is5 : (Try.prog.info? 5).isSome = true := by kernel_rfl
theorem ce5 : Try.prog.cellsOf 5 = 1 := by kernel_rfl
theorem ag5 : aggT Try.prog 5 = some false := by kernel_rfl
theorem ze5 : czero Try.prog 5 = some (.int .u8 0) := by kernel_rfl
theorem sz6 : szOf Try.prog 6 = some 1 := by kernel_rfl
theorem is6 : (Try.prog.info? 6).isSome = true := by kernel_rfl
theorem ce6 : Try.prog.cellsOf 6 = 1 := by kernel_rfl
theorem ag6 : aggT Try.prog 6 = some false := by kernel_rfl
theorem ze6 : czero Try.prog 6 = some (.int .u8 0) := by kernel_rfl
theorem sz7 : szOf Try.prog 7 = some 4 := by kernel_rfl
theorem is7 : (Try.prog.info? 7).isSome = true := by kernel_rfl
theorem ce7 : Try.prog.cellsOf 7 = 4 := by kernel_rfl
theorem ag7 : aggT Try.prog 7 = some true := by kernel_rfl
theorem ze7 : czero Try.prog 7 = some (.agg #[.int .i64 0, .int .i64 0, .bool false, .int .u8 0]) := by kernel_rfl
theorem fa7x0 : faOk Try.prog 7 0 = some 0 := by kernel_rfl
theorem fa7x1 : faOk Try.prog 7 1 = some 1 := by kernel_rfl
theorem fa7x2 : faOk Try.prog 7 2 = some 2 := by kernel_rfl
theorem fa7x3 : faOk Try.prog 7 3 = some 3 := by kernel_rfl
theorem sz8 : szOf Try.prog 8 = some 4 := by kernel_rfl
theorem is8 : (Try.prog.info? 8).isSome = true := by kernel_rfl
theorem ce8 : Try.prog.cellsOf 8 = 4 := by kernel_rfl
theorem ag8 : aggT Try.prog 8 = some true := by kernel_rfl
theorem ze8 : czero Try.prog 8 = some (.agg #[.int .i64 0, .int .i64 0, .bool false, .int .u8 0]) := by kernel_rfl
theorem fa8x0 : faOk Try.prog 8 0 = some 0 := by kernel_rfl
theorem fa8x1 : faOk Try.prog 8 1 = some 1 := by kernel_rfl
theorem fa8x2 : faOk Try.prog 8 2 = some 2 := by kernel_rfl
theorem fa8x3 : faOk Try.prog 8 3 = some 3 := by kernel_rfl
theorem sz9 : szOf Try.prog 9 = some 1 := by kernel_rfl
theorem is9 : (Try.prog.info? 9).isSome = true := by kernel_rfl
theorem ce9 : Try.prog.cellsOf 9 = 1 := by kernel_rfl
theorem ag9 : aggT Try.prog 9 = some false := by kernel_rfl
theorem ze9 : czero Try.prog 9 = some (.string ByteArray.empty) := by kernel_rfl
theorem sz10 : szOf Try.prog 10 = some 1 := by kernel_rfl
theorem is10 : (Try.prog.info? 10).isSome = true := by kernel_rfl
theorem ce10 : Try.prog.cellsOf 10 = 1 := by kernel_rfl
theorem ag10 : aggT Try.prog 10 = some false := by kernel_rfl
theorem ze10 : czero Try.prog 10 = some (.string ByteArray.empty) := by kernel_rfl
theorem sz11 : szOf Try.prog 11 = some 1 := by kernel_rfl
theorem is11 : (Try.prog.info? 11).isSome = true := by kernel_rfl
theorem ce11 : Try.prog.cellsOf 11 = 1 := by kernel_rfl
theorem ag11 : aggT Try.prog 11 = some false := by kernel_rfl
theorem ze11 : czero Try.prog 11 = some (.string ByteArray.empty) := by kernel_rfl
theorem sz12 : szOf Try.prog 12 = some 1 := by kernel_rfl
theorem is12 : (Try.prog.info? 12).isSome = true := by kernel_rfl
theorem ce12 : Try.prog.cellsOf 12 = 1 := by kernel_rfl
theorem ag12 : aggT Try.prog 12 = some false := by kernel_rfl
theorem ze12 : czero Try.prog 12 = some (.int .u64 0) := by kernel_rfl
theorem sz13 : szOf Try.prog 13 = some 2 := by kernel_rfl
theorem is13 : (Try.prog.info? 13).isSome = true := by kernel_rfl
theorem ce13 : Try.prog.cellsOf 13 = 2 := by kernel_rfl
theorem ag13 : aggT Try.prog 13 = some true := by kernel_rfl
theorem ze13 : czero Try.prog 13 = some (.agg #[.string ByteArray.empty, .int .u64 0]) := by kernel_rfl
theorem fa13x0 : faOk Try.prog 13 0 = some 0 := by kernel_rfl
theorem fa13x1 : faOk Try.prog 13 1 = some 1 := by kernel_rfl
theorem sz14 : szOf Try.prog 14 = some 2 := by kernel_rfl
theorem is14 : (Try.prog.info? 14).isSome = true := by kernel_rfl
theorem ce14 : Try.prog.cellsOf 14 = 2 := by kernel_rfl
theorem ag14 : aggT Try.prog 14 = some true := by kernel_rfl
theorem ze14 : czero Try.prog 14 = some (.agg #[.string ByteArray.empty, .int .u64 0]) := by kernel_rfl
theorem fa14x0 : faOk Try.prog 14 0 = some 0 := by kernel_rfl
theorem fa14x1 : faOk Try.prog 14 1 = some 1 := by kernel_rfl
theorem sz15 : szOf Try.prog 15 = some 1 := by kernel_rfl
theorem is15 : (Try.prog.info? 15).isSome = true := by kernel_rfl
theorem ce15 : Try.prog.cellsOf 15 = 1 := by kernel_rfl
theorem ag15 : aggT Try.prog 15 = some false := by kernel_rfl
theorem ze15 : czero Try.prog 15 = some (.pointer none) := by kernel_rfl
theorem nt15 {x y : Operand} : cbin Try.prog .eql 15 x y (.pointer none) (.pointer none) = some (.bool true) := by kernel_rfl
theorem nn15 {x y : Operand} : cbin Try.prog .neq 15 x y (.pointer none) (.pointer none) = some (.bool false) := by kernel_rfl
theorem nf15 {x y : Operand} {a : Addr} : cbin Try.prog .eql 15 x y (.pointer (some a)) (.pointer none) = some (.bool false) := by kernel_rfl
theorem ng15 {x y : Operand} {a : Addr} : cbin Try.prog .neq 15 x y (.pointer (some a)) (.pointer none) = some (.bool true) := by kernel_rfl
theorem sz16 : szOf Try.prog 16 = some 1 := by kernel_rfl
theorem is16 : (Try.prog.info? 16).isSome = true := by kernel_rfl
theorem ce16 : Try.prog.cellsOf 16 = 1 := by kernel_rfl
theorem ag16 : aggT Try.prog 16 = some false := by kernel_rfl
theorem ze16 : czero Try.prog 16 = some (.pointer none) := by kernel_rfl
theorem nt16 {x y : Operand} : cbin Try.prog .eql 16 x y (.pointer none) (.pointer none) = some (.bool true) := by kernel_rfl
theorem nn16 {x y : Operand} : cbin Try.prog .neq 16 x y (.pointer none) (.pointer none) = some (.bool false) := by kernel_rfl
theorem nf16 {x y : Operand} {a : Addr} : cbin Try.prog .eql 16 x y (.pointer (some a)) (.pointer none) = some (.bool false) := by kernel_rfl
theorem ng16 {x y : Operand} {a : Addr} : cbin Try.prog .neq 16 x y (.pointer (some a)) (.pointer none) = some (.bool true) := by kernel_rfl
theorem sz17 : szOf Try.prog 17 = some 1 := by kernel_rfl
theorem is17 : (Try.prog.info? 17).isSome = true := by kernel_rfl
theorem ce17 : Try.prog.cellsOf 17 = 1 := by kernel_rfl
theorem ag17 : aggT Try.prog 17 = some false := by kernel_rfl
theorem ze17 : czero Try.prog 17 = some (.pointer none) := by kernel_rfl
theorem nt17 {x y : Operand} : cbin Try.prog .eql 17 x y (.pointer none) (.pointer none) = some (.bool true) := by kernel_rfl
theorem nn17 {x y : Operand} : cbin Try.prog .neq 17 x y (.pointer none) (.pointer none) = some (.bool false) := by kernel_rfl
theorem nf17 {x y : Operand} {a : Addr} : cbin Try.prog .eql 17 x y (.pointer (some a)) (.pointer none) = some (.bool false) := by kernel_rfl
theorem ng17 {x y : Operand} {a : Addr} : cbin Try.prog .neq 17 x y (.pointer (some a)) (.pointer none) = some (.bool true) := by kernel_rfl
theorem sz18 : szOf Try.prog 18 = some 1 := by kernel_rfl
theorem is18 : (Try.prog.info? 18).isSome = true := by kernel_rfl
theorem ce18 : Try.prog.cellsOf 18 = 1 := by kernel_rfl
theorem ag18 : aggT Try.prog 18 = some true := by kernel_rfl
theorem ze18 : czero Try.prog 18 = some (.agg #[.pointer none]) := by kernel_rfl
theorem fa18x0 : faOk Try.prog 18 0 = some 0 := by kernel_rfl
theorem sz19 : szOf Try.prog 19 = some 1 := by kernel_rfl
theorem is19 : (Try.prog.info? 19).isSome = true := by kernel_rfl
theorem ce19 : Try.prog.cellsOf 19 = 1 := by kernel_rfl
theorem ag19 : aggT Try.prog 19 = some true := by kernel_rfl
theorem ze19 : czero Try.prog 19 = some (.agg #[.pointer none]) := by kernel_rfl
theorem fa19x0 : faOk Try.prog 19 0 = some 0 := by kernel_rfl
theorem sz20 : szOf Try.prog 20 = some 1 := by kernel_rfl
theorem is20 : (Try.prog.info? 20).isSome = true := by kernel_rfl
theorem ce20 : Try.prog.cellsOf 20 = 1 := by kernel_rfl
theorem ag20 : aggT Try.prog 20 = some false := by kernel_rfl
theorem ze20 : czero Try.prog 20 = some (.nilIface) := by kernel_rfl
theorem sz21 : szOf Try.prog 21 = some 1 := by kernel_rfl
theorem is21 : (Try.prog.info? 21).isSome = true := by kernel_rfl
theorem ce21 : Try.prog.cellsOf 21 = 1 := by kernel_rfl
theorem ag21 : aggT Try.prog 21 = some false := by kernel_rfl
theorem ze21 : czero Try.prog 21 = some (.int .i32 0) := by kernel_rfl
theorem sz22 : szOf Try.prog 22 = some 1 := by kernel_rfl
theorem is22 : (Try.prog.info? 22).isSome = true := by kernel_rfl
theorem ce22 : Try.prog.cellsOf 22 = 1 := by kernel_rfl
theorem ag22 : aggT Try.prog 22 = some false := by kernel_rfl
theorem ze22 : czero Try.prog 22 = some (.slice none 0 0) := by kernel_rfl
theorem sz23 : szOf Try.prog 23 = some 1 := by kernel_rfl
theorem is23 : (Try.prog.info? 23).isSome = true := by kernel_rfl
theorem ce23 : Try.prog.cellsOf 23 = 1 := by kernel_rfl
theorem ag23 : aggT Try.prog 23 = some false := by kernel_rfl
theorem ze23 : czero Try.prog 23 = some (.nilFunc) := by kernel_rfl
theorem sz24 : szOf Try.prog 24 = some 1 := by kernel_rfl
theorem is24 : (Try.prog.info? 24).isSome = true := by kernel_rfl
theorem ce24 : Try.prog.cellsOf 24 = 1 := by kernel_rfl
theorem ag24 : aggT Try.prog 24 = some false := by kernel_rfl
theorem ze24 : czero Try.prog 24 = some (.nilFunc) := by kernel_rfl
theorem sz25 : szOf Try.prog 25 = some 1 := by kernel_rfl
theorem is25 : (Try.prog.info? 25).isSome = true := by kernel_rfl
theorem ce25 : Try.prog.cellsOf 25 = 1 := by kernel_rfl
theorem ag25 : aggT Try.prog 25 = some false := by kernel_rfl
theorem ze25 : czero Try.prog 25 = some (.pointer none) := by kernel_rfl
theorem nt25 {x y : Operand} : cbin Try.prog .eql 25 x y (.pointer none) (.pointer none) = some (.bool true) := by kernel_rfl
theorem nn25 {x y : Operand} : cbin Try.prog .neq 25 x y (.pointer none) (.pointer none) = some (.bool false) := by kernel_rfl
theorem nf25 {x y : Operand} {a : Addr} : cbin Try.prog .eql 25 x y (.pointer (some a)) (.pointer none) = some (.bool false) := by kernel_rfl
theorem ng25 {x y : Operand} {a : Addr} : cbin Try.prog .neq 25 x y (.pointer (some a)) (.pointer none) = some (.bool true) := by kernel_rfl
theorem sz26 : szOf Try.prog 26 = some 1 := by kernel_rfl
theorem is26 : (Try.prog.info? 26).isSome = true := by kernel_rfl
theorem ce26 : Try.prog.cellsOf 26 = 1 := by kernel_rfl
theorem ag26 : aggT Try.prog 26 = some false := by kernel_rfl
theorem ze26 : czero Try.prog 26 = some (.nilFunc) := by kernel_rfl
theorem sz27 : szOf Try.prog 27 = some 1 := by kernel_rfl
theorem is27 : (Try.prog.info? 27).isSome = true := by kernel_rfl
theorem ce27 : Try.prog.cellsOf 27 = 1 := by kernel_rfl
theorem ag27 : aggT Try.prog 27 = some false := by kernel_rfl
theorem ze27 : czero Try.prog 27 = some (.pointer none) := by kernel_rfl
theorem nt27 {x y : Operand} : cbin Try.prog .eql 27 x y (.pointer none) (.pointer none) = some (.bool true) := by kernel_rfl
theorem nn27 {x y : Operand} : cbin Try.prog .neq 27 x y (.pointer none) (.pointer none) = some (.bool false) := by kernel_rfl
theorem nf27 {x y : Operand} {a : Addr} : cbin Try.prog .eql 27 x y (.pointer (some a)) (.pointer none) = some (.bool false) := by kernel_rfl
theorem ng27 {x y : Operand} {a : Addr} : cbin Try.prog .neq 27 x y (.pointer (some a)) (.pointer none) = some (.bool true) := by kernel_rfl
theorem sz28 : szOf Try.prog 28 = some 1 := by kernel_rfl
theorem is28 : (Try.prog.info? 28).isSome = true := by kernel_rfl
theorem ce28 : Try.prog.cellsOf 28 = 1 := by kernel_rfl
theorem ag28 : aggT Try.prog 28 = some true := by kernel_rfl
theorem ze28 : czero Try.prog 28 = some (.agg #[.slice none 0 0]) := by kernel_rfl
theorem fa28x0 : faOk Try.prog 28 0 = some 0 := by kernel_rfl
theorem sz29 : szOf Try.prog 29 = some 1 := by kernel_rfl
theorem is29 : (Try.prog.info? 29).isSome = true := by kernel_rfl
theorem ce29 : Try.prog.cellsOf 29 = 1 := by kernel_rfl
theorem ag29 : aggT Try.prog 29 = some true := by kernel_rfl
theorem ze29 : czero Try.prog 29 = some (.agg #[.slice none 0 0]) := by kernel_rfl
theorem fa29x0 : faOk Try.prog 29 0 = some 0 := by kernel_rfl
theorem sz30 : szOf Try.prog 30 = some 1 := by kernel_rfl
theorem is30 : (Try.prog.info? 30).isSome = true := by kernel_rfl
theorem ce30 : Try.prog.cellsOf 30 = 1 := by kernel_rfl
theorem ag30 : aggT Try.prog 30 = some false := by kernel_rfl
theorem ze30 : czero Try.prog 30 = some (.nilFunc) := by kernel_rfl
theorem sz31 : szOf Try.prog 31 = some 1 := by kernel_rfl
theorem is31 : (Try.prog.info? 31).isSome = true := by kernel_rfl
theorem ce31 : Try.prog.cellsOf 31 = 1 := by kernel_rfl
theorem ag31 : aggT Try.prog 31 = some false := by kernel_rfl
theorem ze31 : czero Try.prog 31 = some (.nilFunc) := by kernel_rfl
theorem sz32 : szOf Try.prog 32 = some 1 := by kernel_rfl
theorem is32 : (Try.prog.info? 32).isSome = true := by kernel_rfl
theorem ce32 : Try.prog.cellsOf 32 = 1 := by kernel_rfl
theorem ag32 : aggT Try.prog 32 = some false := by kernel_rfl
theorem sz33 : szOf Try.prog 33 = some 1 := by kernel_rfl
theorem is33 : (Try.prog.info? 33).isSome = true := by kernel_rfl
theorem ce33 : Try.prog.cellsOf 33 = 1 := by kernel_rfl
theorem ag33 : aggT Try.prog 33 = some false := by kernel_rfl
theorem ze33 : czero Try.prog 33 = some (.nilFunc) := by kernel_rfl
theorem sz34 : szOf Try.prog 34 = some 1 := by kernel_rfl
theorem is34 : (Try.prog.info? 34).isSome = true := by kernel_rfl
theorem ce34 : Try.prog.cellsOf 34 = 1 := by kernel_rfl
theorem ag34 : aggT Try.prog 34 = some false := by kernel_rfl
theorem sz35 : szOf Try.prog 35 = some 1 := by kernel_rfl
theorem is35 : (Try.prog.info? 35).isSome = true := by kernel_rfl
theorem ce35 : Try.prog.cellsOf 35 = 1 := by kernel_rfl
theorem ag35 : aggT Try.prog 35 = some false := by kernel_rfl
theorem ze35 : czero Try.prog 35 = some (.nilFunc) := by kernel_rfl
theorem sz36 : szOf Try.prog 36 = some 1 := by kernel_rfl
theorem is36 : (Try.prog.info? 36).isSome = true := by kernel_rfl
theorem ce36 : Try.prog.cellsOf 36 = 1 := by kernel_rfl
theorem ag36 : aggT Try.prog 36 = some false := by kernel_rfl
theorem ze36 : czero Try.prog 36 = some (.nilFunc) := by kernel_rfl
theorem sz37 : szOf Try.prog 37 = some 1 := by kernel_rfl
theorem is37 : (Try.prog.info? 37).isSome = true := by kernel_rfl
theorem ce37 : Try.prog.cellsOf 37 = 1 := by kernel_rfl
theorem ag37 : aggT Try.prog 37 = some false := by kernel_rfl
theorem ze37 : czero Try.prog 37 = some (.nilFunc) := by kernel_rfl
theorem sz38 : szOf Try.prog 38 = some 1 := by kernel_rfl
theorem is38 : (Try.prog.info? 38).isSome = true := by kernel_rfl
theorem ce38 : Try.prog.cellsOf 38 = 1 := by kernel_rfl
theorem ag38 : aggT Try.prog 38 = some false := by kernel_rfl
theorem ze38 : czero Try.prog 38 = some (.slice none 0 0) := by kernel_rfl
theorem sz39 : szOf Try.prog 39 = some 1 := by kernel_rfl
theorem is39 : (Try.prog.info? 39).isSome = true := by kernel_rfl
theorem ce39 : Try.prog.cellsOf 39 = 1 := by kernel_rfl
theorem ag39 : aggT Try.prog 39 = some false := by kernel_rfl
theorem ze39 : czero Try.prog 39 = some (.map none) := by kernel_rfl
theorem nt39 {x y : Operand} : cbin Try.prog .eql 39 x y (.map none) (.map none) = some (.bool true) := by kernel_rfl
theorem nn39 {x y : Operand} : cbin Try.prog .neq 39 x y (.map none) (.map none) = some (.bool false) := by kernel_rfl
theorem nf39 {x y : Operand} {a : Nat} : cbin Try.prog .eql 39 x y (.map (some a)) (.map none) = some (.bool false) := by kernel_rfl
theorem ng39 {x y : Operand} {a : Nat} : cbin Try.prog .neq 39 x y (.map (some a)) (.map none) = some (.bool true) := by kernel_rfl
theorem sz40 : szOf Try.prog 40 = some 2 := by kernel_rfl
theorem is40 : (Try.prog.info? 40).isSome = true := by kernel_rfl
theorem ce40 : Try.prog.cellsOf 40 = 2 := by kernel_rfl
theorem ag40 : aggT Try.prog 40 = some true := by kernel_rfl
theorem ze40 : czero Try.prog 40 = some (.agg #[.map none, .slice none 0 0]) := by kernel_rfl
theorem fa40x0 : faOk Try.prog 40 0 = some 0 := by kernel_rfl
theorem fa40x1 : faOk Try.prog 40 1 = some 1 := by kernel_rfl
theorem sz41 : szOf Try.prog 41 = some 2 := by kernel_rfl
theorem is41 : (Try.prog.info? 41).isSome = true := by kernel_rfl
theorem ce41 : Try.prog.cellsOf 41 = 2 := by kernel_rfl
theorem ag41 : aggT Try.prog 41 = some true := by kernel_rfl
theorem ze41 : czero Try.prog 41 = some (.agg #[.map none, .slice none 0 0]) := by kernel_rfl
theorem fa41x0 : faOk Try.prog 41 0 = some 0 := by kernel_rfl
theorem fa41x1 : faOk Try.prog 41 1 = some 1 := by kernel_rfl
theorem sz42 : szOf Try.prog 42 = some 1 := by kernel_rfl
theorem is42 : (Try.prog.info? 42).isSome = true := by kernel_rfl
theorem ce42 : Try.prog.cellsOf 42 = 1 := by kernel_rfl
theorem ag42 : aggT Try.prog 42 = some false := by kernel_rfl
theorem ze42 : czero Try.prog 42 = some (.slice none 0 0) := by kernel_rfl
theorem sz43 : szOf Try.prog 43 = some 1 := by kernel_rfl
theorem is43 : (Try.prog.info? 43).isSome = true := by kernel_rfl
theorem ce43 : Try.prog.cellsOf 43 = 1 := by kernel_rfl
theorem ag43 : aggT Try.prog 43 = some false := by kernel_rfl
theorem ze43 : czero Try.prog 43 = some (.nilFunc) := by kernel_rfl
theorem sz44 : szOf Try.prog 44 = some 1 := by kernel_rfl
theorem is44 : (Try.prog.info? 44).isSome = true := by kernel_rfl
theorem ce44 : Try.prog.cellsOf 44 = 1 := by kernel_rfl
theorem ag44 : aggT Try.prog 44 = some false := by kernel_rfl
theorem ze44 : czero Try.prog 44 = some (.int .i64 0) := by kernel_rfl
theorem sz45 : szOf Try.prog 45 = some 1 := by kernel_rfl
theorem is45 : (Try.prog.info? 45).isSome = true := by kernel_rfl
theorem ce45 : Try.prog.cellsOf 45 = 1 := by kernel_rfl
theorem ag45 : aggT Try.prog 45 = some false := by kernel_rfl
theorem sz46 : szOf Try.prog 46 = some 1 := by kernel_rfl
theorem is46 : (Try.prog.info? 46).isSome = true := by kernel_rfl
theorem ce46 : Try.prog.cellsOf 46 = 1 := by kernel_rfl
theorem ag46 : aggT Try.prog 46 = some false := by kernel_rfl
theorem ze46 : czero Try.prog 46 = some (.nilFunc) := by kernel_rfl
theorem sz47 : szOf Try.prog 47 = some 1 := by kernel_rfl
theorem is47 : (Try.prog.info? 47).isSome = true := by kernel_rfl
theorem ce47 : Try.prog.cellsOf 47 = 1 := by kernel_rfl
theorem ag47 : aggT Try.prog 47 = some false := by kernel_rfl
theorem sz48 : szOf Try.prog 48 = some 1 := by kernel_rfl
theorem is48 : (Try.prog.info? 48).isSome = true := by kernel_rfl
theorem ce48 : Try.prog.cellsOf 48 = 1 := by kernel_rfl
theorem ag48 : aggT Try.prog 48 = some false := by kernel_rfl
theorem ze48 : czero Try.prog 48 = some (.nilFunc) := by kernel_rfl
theorem sz49 : szOf Try.prog 49 = some 1 := by kernel_rfl
theorem is49 : (Try.prog.info? 49).isSome = true := by kernel_rfl
theorem ce49 : Try.prog.cellsOf 49 = 1 := by kernel_rfl
theorem ag49 : aggT Try.prog 49 = some false := by kernel_rfl
theorem ze49 : czero Try.prog 49 = some (.nilFunc) := by kernel_rfl
theorem sz50 : szOf Try.prog 50 = some 1 := by kernel_rfl
theorem is50 : (Try.prog.info? 50).isSome = true := by kernel_rfl
theorem ce50 : Try.prog.cellsOf 50 = 1 := by kernel_rfl
theorem ag50 : aggT Try.prog 50 = some false := by kernel_rfl
theorem ze50 : czero Try.prog 50 = some (.nilFunc) := by kernel_rfl
theorem sz51 : szOf Try.prog 51 = some 1 := by kernel_rfl
theorem is51 : (Try.prog.info? 51).isSome = true := by kernel_rfl
theorem ce51 : Try.prog.cellsOf 51 = 1 := by kernel_rfl
theorem ag51 : aggT Try.prog 51 = some false := by kernel_rfl
theorem ze51 : czero Try.prog 51 = some (.nilFunc) := by kernel_rfl
theorem sz52 : szOf Try.prog 52 = some 1 := by kernel_rfl
theorem is52 : (Try.prog.info? 52).isSome = true := by kernel_rfl
theorem ce52 : Try.prog.cellsOf 52 = 1 := by kernel_rfl
theorem ag52 : aggT Try.prog 52 = some false := by kernel_rfl
theorem ze52 : czero Try.prog 52 = some (.nilFunc) := by kernel_rfl
theorem sz53 : szOf Try.prog 53 = some 1 := by kernel_rfl
theorem is53 : (Try.prog.info? 53).isSome = true := by kernel_rfl
theorem ce53 : Try.prog.cellsOf 53 = 1 := by kernel_rfl
theorem ag53 : aggT Try.prog 53 = some false := by kernel_rfl
theorem ze53 : czero Try.prog 53 = some (.nilFunc) := by kernel_rfl
theorem sz54 : szOf Try.prog 54 = some 1 := by kernel_rfl
theorem is54 : (Try.prog.info? 54).isSome = true := by kernel_rfl
theorem ce54 : Try.prog.cellsOf 54 = 1 := by kernel_rfl
theorem ag54 : aggT Try.prog 54 = some false := by kernel_rfl
theorem ze54 : czero Try.prog 54 = some (.nilFunc) := by kernel_rfl
theorem sz55 : szOf Try.prog 55 = some 1 := by kernel_rfl
theorem is55 : (Try.prog.info? 55).isSome = true := by kernel_rfl
theorem ce55 : Try.prog.cellsOf 55 = 1 := by kernel_rfl
theorem ag55 : aggT Try.prog 55 = some false := by kernel_rfl
theorem ze55 : czero Try.prog 55 = some (.nilFunc) := by kernel_rfl
theorem sz56 : szOf Try.prog 56 = some 3 := by kernel_rfl
theorem is56 : (Try.prog.info? 56).isSome = true := by kernel_rfl
theorem ce56 : Try.prog.cellsOf 56 = 3 := by kernel_rfl
theorem ag56 : aggT Try.prog 56 = some true := by kernel_rfl
theorem ze56 : czero Try.prog 56 = some (.agg #[.int .i64 0, .int .i64 0, .string ByteArray.empty]) := by kernel_rfl
theorem fa56x0 : faOk Try.prog 56 0 = some 0 := by kernel_rfl
theorem fa56x1 : faOk Try.prog 56 1 = some 1 := by kernel_rfl
theorem fa56x2 : faOk Try.prog 56 2 = some 2 := by kernel_rfl
theorem sz57 : szOf Try.prog 57 = some 3 := by kernel_rfl
theorem is57 : (Try.prog.info? 57).isSome = true := by kernel_rfl
theorem ce57 : Try.prog.cellsOf 57 = 3 := by kernel_rfl
theorem ag57 : aggT Try.prog 57 = some true := by kernel_rfl
theorem ze57 : czero Try.prog 57 = some (.agg #[.int .i64 0, .int .i64 0, .string ByteArray.empty]) := by kernel_rfl
theorem fa57x0 : faOk Try.prog 57 0 = some 0 := by kernel_rfl
theorem fa57x1 : faOk Try.prog 57 1 = some 1 := by kernel_rfl
theorem fa57x2 : faOk Try.prog 57 2 = some 2 := by kernel_rfl
theorem sz58 : szOf Try.prog 58 = some 1 := by kernel_rfl
theorem is58 : (Try.prog.info? 58).isSome = true := by kernel_rfl
theorem ce58 : Try.prog.cellsOf 58 = 1 := by kernel_rfl
theorem ag58 : aggT Try.prog 58 = some false := by kernel_rfl
theorem ze58 : czero Try.prog 58 = some (.nilFunc) := by kernel_rfl
theorem sz59 : szOf Try.prog 59 = some 1 := by kernel_rfl
theorem is59 : (Try.prog.info? 59).isSome = true := by kernel_rfl
theorem ce59 : Try.prog.cellsOf 59 = 1 := by kernel_rfl
theorem ag59 : aggT Try.prog 59 = some false := by kernel_rfl
theorem ze59 : czero Try.prog 59 = some (.nilFunc) := by kernel_rfl
theorem sz60 : szOf Try.prog 60 = some 1 := by kernel_rfl
theorem is60 : (Try.prog.info? 60).isSome = true := by kernel_rfl
theorem ce60 : Try.prog.cellsOf 60 = 1 := by kernel_rfl
theorem ag60 : aggT Try.prog 60 = some false := by kernel_rfl
theorem ze60 : czero Try.prog 60 = some (.nilFunc) := by kernel_rfl
theorem sz61 : szOf Try.prog 61 = some 1 := by kernel_rfl
theorem is61 : (Try.prog.info? 61).isSome = true := by kernel_rfl
theorem ce61 : Try.prog.cellsOf 61 = 1 := by kernel_rfl
theorem ag61 : aggT Try.prog 61 = some false := by kernel_rfl
theorem ze61 : czero Try.prog 61 = some (.nilFunc) := by kernel_rfl
theorem sz62 : szOf Try.prog 62 = some 1 := by kernel_rfl
theorem is62 : (Try.prog.info? 62).isSome = true := by kernel_rfl
theorem ce62 : Try.prog.cellsOf 62 = 1 := by kernel_rfl
theorem ag62 : aggT Try.prog 62 = some false := by kernel_rfl
theorem ze62 : czero Try.prog 62 = some (.nilFunc) := by kernel_rfl
theorem sz63 : szOf Try.prog 63 = some 1 := by kernel_rfl
theorem is63 : (Try.prog.info? 63).isSome = true := by kernel_rfl
theorem ce63 : Try.prog.cellsOf 63 = 1 := by kernel_rfl
theorem ag63 : aggT Try.prog 63 = some false := by kernel_rfl
theorem ze63 : czero Try.prog 63 = some (.nilFunc) := by kernel_rfl
theorem sz64 : szOf Try.prog 64 = some 20 := by kernel_rfl
theorem is64 : (Try.prog.info? 64).isSome = true := by kernel_rfl
theorem ce64 : Try.prog.cellsOf 64 = 20 := by kernel_rfl
theorem ag64 : aggT Try.prog 64 = some true := by kernel_rfl
theorem ze64 : czero Try.prog 64 = some (.agg #[.int .u8 0, .int .u8 0, .int .u8 0, .int .u8 0, .int .u8 0, .int .u8 0, .int .u8 0, .int .u8 0, .int .u8 0, .int .u8 0, .int .u8 0, .int .u8 0, .int .u8 0, .int .u8 0, .int .u8 0, .int .u8 0, .int .u8 0, .int .u8 0, .int .u8 0, .int .u8 0]) := by kernel_rfl
theorem sz65 : szOf Try.prog 65 = some 1 := by kernel_rfl
theorem is65 : (Try.prog.info? 65).isSome = true := by kernel_rfl
theorem ce65 : Try.prog.cellsOf 65 = 1 := by kernel_rfl
theorem ag65 : aggT Try.prog 65 = some false := by kernel_rfl
theorem ze65 : czero Try.prog 65 = some (.int .u64 0) := by kernel_rfl
theorem sz66 : szOf Try.prog 66 = some 1 := by kernel_rfl
theorem is66 : (Try.prog.info? 66).isSome = true := by kernel_rfl
theorem ce66 : Try.prog.cellsOf 66 = 1 := by kernel_rfl
theorem ag66 : aggT Try.prog 66 = some false := by kernel_rfl
theorem ze66 : czero Try.prog 66 = some (.slice none 0 0) := by kernel_rfl
theorem sz67 : szOf Try.prog 67 = some 1 := by kernel_rfl
theorem is67 : (Try.prog.info? 67).isSome = true := by kernel_rfl
theorem ce67 : Try.prog.cellsOf 67 = 1 := by kernel_rfl
theorem ag67 : aggT Try.prog 67 = some false := by kernel_rfl
theorem ze67 : czero Try.prog 67 = some (.int .u64 0) := by kernel_rfl
theorem sz68 : szOf Try.prog 68 = some 1 := by kernel_rfl
theorem is68 : (Try.prog.info? 68).isSome = true := by kernel_rfl
theorem ce68 : Try.prog.cellsOf 68 = 1 := by kernel_rfl
theorem ag68 : aggT Try.prog 68 = some false := by kernel_rfl
theorem ze68 : czero Try.prog 68 = some (.nilFunc) := by kernel_rfl
theorem sz69 : szOf Try.prog 69 = some 1 := by kernel_rfl
theorem is69 : (Try.prog.info? 69).isSome = true := by kernel_rfl
theorem ce69 : Try.prog.cellsOf 69 = 1 := by kernel_rfl
theorem ag69 : aggT Try.prog 69 = some false := by kernel_rfl
theorem ze69 : czero Try.prog 69 = some (.nilFunc) := by kernel_rfl
theorem sz70 : szOf Try.prog 70 = some 1 := by kernel_rfl
theorem is70 : (Try.prog.info? 70).isSome = true := by kernel_rfl
theorem ce70 : Try.prog.cellsOf 70 = 1 := by kernel_rfl
theorem ag70 : aggT Try.prog 70 = some false := by kernel_rfl
theorem ze70 : czero Try.prog 70 = some (.nilFunc) := by kernel_rfl
theorem sz71 : szOf Try.prog 71 = some 4 := by kernel_rfl
theorem is71 : (Try.prog.info? 71).isSome = true := by kernel_rfl
theorem ce71 : Try.prog.cellsOf 71 = 4 := by kernel_rfl
theorem ag71 : aggT Try.prog 71 = some true := by kernel_rfl
theorem ze71 : czero Try.prog 71 = some (.agg #[.pointer none, .pointer none, .pointer none, .string ByteArray.empty]) := by kernel_rfl
theorem fa71x0 : faOk Try.prog 71 0 = some 0 := by kernel_rfl
theorem fa71x1 : faOk Try.prog 71 1 = some 1 := by kernel_rfl
theorem fa71x2 : faOk Try.prog 71 2 = some 2 := by kernel_rfl
theorem fa71x3 : faOk Try.prog 71 3 = some 3 := by kernel_rfl
theorem sz72 : szOf Try.prog 72 = some 4 := by kernel_rfl
theorem is72 : (Try.prog.info? 72).isSome = true := by kernel_rfl
theorem ce72 : Try.prog.cellsOf 72 = 4 := by kernel_rfl
theorem ag72 : aggT Try.prog 72 = some true := by kernel_rfl
theorem ze72 : czero Try.prog 72 = some (.agg #[.pointer none, .pointer none, .pointer none, .string ByteArray.empty]) := by kernel_rfl
theorem fa72x0 : faOk Try.prog 72 0 = some 0 := by kernel_rfl
theorem fa72x1 : faOk Try.prog 72 1 = some 1 := by kernel_rfl
theorem fa72x2 : faOk Try.prog 72 2 = some 2 := by kernel_rfl
theorem fa72x3 : faOk Try.prog 72 3 = some 3 := by kernel_rfl
theorem sz73 : szOf Try.prog 73 = some 0 := by kernel_rfl
theorem is73 : (Try.prog.info? 73).isSome = true := by kernel_rfl
theorem ce73 : Try.prog.cellsOf 73 = 0 := by kernel_rfl
theorem ag73 : aggT Try.prog 73 = some true := by kernel_rfl
theorem ze73 : czero Try.prog 73 = some (.agg #[]) := by kernel_rfl
theorem sz74 : szOf Try.prog 74 = some 0 := by kernel_rfl
theorem is74 : (Try.prog.info? 74).isSome = true := by kernel_rfl
theorem ce74 : Try.prog.cellsOf 74 = 0 := by kernel_rfl
theorem ag74 : aggT Try.prog 74 = some true := by kernel_rfl
theorem ze74 : czero Try.prog 74 = some (.agg #[]) := by kernel_rfl
theorem sz75 : szOf Try.prog 75 = some 0 := by kernel_rfl
theorem is75 : (Try.prog.info? 75).isSome = true := by kernel_rfl
theorem ce75 : Try.prog.cellsOf 75 = 0 := by kernel_rfl
theorem ag75 : aggT Try.prog 75 = some true := by kernel_rfl
theorem ze75 : czero Try.prog 75 = some (.agg #[]) := by kernel_rfl
theorem sz76 : szOf Try.prog 76 = some 1 := by kernel_rfl
theorem is76 : (Try.prog.info? 76).isSome = true := by kernel_rfl
theorem ce76 : Try.prog.cellsOf 76 = 1 := by kernel_rfl
theorem ag76 : aggT Try.prog 76 = some false := by kernel_rfl
theorem ze76 : czero Try.prog 76 = some (.int .u32 0) := by kernel_rfl
theorem sz77 : szOf Try.prog 77 = some 1 := by kernel_rfl
theorem is77 : (Try.prog.info? 77).isSome = true := by kernel_rfl
theorem ce77 : Try.prog.cellsOf 77 = 1 := by kernel_rfl
theorem ag77 : aggT Try.prog 77 = some false := by kernel_rfl
theorem ze77 : czero Try.prog 77 = some (.int .u8 0) := by kernel_rfl
theorem sz78 : szOf Try.prog 78 = some 1 := by kernel_rfl
theorem is78 : (Try.prog.info? 78).isSome = true := by kernel_rfl
theorem ce78 : Try.prog.cellsOf 78 = 1 := by kernel_rfl
theorem ag78 : aggT Try.prog 78 = some false := by kernel_rfl
theorem ze78 : czero Try.prog 78 = some (.int .u8 0) := by kernel_rfl
theorem sz79 : szOf Try.prog 79 = some 1 := by kernel_rfl
theorem is79 : (Try.prog.info? 79).isSome = true := by kernel_rfl
theorem ce79 : Try.prog.cellsOf 79 = 1 := by kernel_rfl
theorem ag79 : aggT Try.prog 79 = some false := by kernel_rfl
theorem ze79 : czero Try.prog 79 = some (.nilFunc) := by kernel_rfl
theorem sz80 : szOf Try.prog 80 = some 1 := by kernel_rfl
theorem is80 : (Try.prog.info? 80).isSome = true := by kernel_rfl
theorem ce80 : Try.prog.cellsOf 80 = 1 := by kernel_rfl
theorem ag80 : aggT Try.prog 80 = some false := by kernel_rfl
theorem ze80 : czero Try.prog 80 = some (.pointer none) := by kernel_rfl
theorem nt80 {x y : Operand} : cbin Try.prog .eql 80 x y (.pointer none) (.pointer none) = some (.bool true) := by kernel_rfl
theorem nn80 {x y : Operand} : cbin Try.prog .neq 80 x y (.pointer none) (.pointer none) = some (.bool false) := by kernel_rfl
theorem nf80 {x y : Operand} {a : Addr} : cbin Try.prog .eql 80 x y (.pointer (some a)) (.pointer none) = some (.bool false) := by kernel_rfl
theorem ng80 {x y : Operand} {a : Addr} : cbin Try.prog .neq 80 x y (.pointer (some a)) (.pointer none) = some (.bool true) := by kernel_rfl
theorem sz81 : szOf Try.prog 81 = some 1 := by kernel_rfl
theorem is81 : (Try.prog.info? 81).isSome = true := by kernel_rfl
theorem ce81 : Try.prog.cellsOf 81 = 1 := by kernel_rfl
theorem ag81 : aggT Try.prog 81 = some false := by kernel_rfl
theorem ze81 : czero Try.prog 81 = some (.int .i32 0) := by kernel_rfl
theorem sz82 : szOf Try.prog 82 = some 1 := by kernel_rfl
theorem is82 : (Try.prog.info? 82).isSome = true := by kernel_rfl
theorem ce82 : Try.prog.cellsOf 82 = 1 := by kernel_rfl
theorem ag82 : aggT Try.prog 82 = some false := by kernel_rfl
theorem ze82 : czero Try.prog 82 = some (.int .i32 0) := by kernel_rfl
theorem sz83 : szOf Try.prog 83 = some 11 := by kernel_rfl
theorem is83 : (Try.prog.info? 83).isSome = true := by kernel_rfl
theorem ce83 : Try.prog.cellsOf 83 = 11 := by kernel_rfl
theorem ag83 : aggT Try.prog 83 = some true := by kernel_rfl
theorem ze83 : czero Try.prog 83 = some (.agg #[.int .u64 0, .int .u64 0, .int .u32 0, .int .u8 0, .int .u8 0, .int .u8 0, .int .u8 0, .nilFunc, .pointer none, .int .i32 0, .int .i32 0]) := by kernel_rfl
theorem fa83x0 : faOk Try.prog 83 0 = some 0 := by kernel_rfl
theorem fa83x1 : faOk Try.prog 83 1 = some 1 := by kernel_rfl
theorem fa83x2 : faOk Try.prog 83 2 = some 2 := by kernel_rfl
theorem fa83x3 : faOk Try.prog 83 3 = some 3 := by kernel_rfl
theorem fa83x4 : faOk Try.prog 83 4 = some 4 := by kernel_rfl
theorem fa83x5 : faOk Try.prog 83 5 = some 5 := by kernel_rfl
theorem fa83x6 : faOk Try.prog 83 6 = some 6 := by kernel_rfl
theorem fa83x7 : faOk Try.prog 83 7 = some 7 := by kernel_rfl
theorem fa83x8 : faOk Try.prog 83 8 = some 8 := by kernel_rfl
theorem fa83x9 : faOk Try.prog 83 9 = some 9 := by kernel_rfl
theorem fa83x10 : faOk Try.prog 83 10 = some 10 := by kernel_rfl
theorem sz84 : szOf Try.prog 84 = some 11 := by kernel_rfl
theorem is84 : (Try.prog.info? 84).isSome = true := by kernel_rfl
theorem ce84 : Try.prog.cellsOf 84 = 11 := by kernel_rfl
theorem ag84 : aggT Try.prog 84 = some true := by kernel_rfl
theorem ze84 : czero Try.prog 84 = some (.agg #[.int .u64 0, .int .u64 0, .int .u32 0, .int .u8 0, .int .u8 0, .int .u8 0, .int .u8 0, .nilFunc, .pointer none, .int .i32 0, .int .i32 0]) := by kernel_rfl
theorem fa84x0 : faOk Try.prog 84 0 = some 0 := by kernel_rfl
theorem fa84x1 : faOk Try.prog 84 1 = some 1 := by kernel_rfl
theorem fa84x2 : faOk Try.prog 84 2 = some 2 := by kernel_rfl
theorem fa84x3 : faOk Try.prog 84 3 = some 3 := by kernel_rfl
theorem fa84x4 : faOk Try.prog 84 4 = some 4 := by kernel_rfl
theorem fa84x5 : faOk Try.prog 84 5 = some 5 := by kernel_rfl
theorem fa84x6 : faOk Try.prog 84 6 = some 6 := by kernel_rfl
theorem fa84x7 : faOk Try.prog 84 7 = some 7 := by kernel_rfl
theorem fa84x8 : faOk Try.prog 84 8 = some 8 := by kernel_rfl
theorem fa84x9 : faOk Try.prog 84 9 = some 9 := by kernel_rfl
theorem fa84x10 : faOk Try.prog 84 10 = some 10 := by kernel_rfl
theorem sz85 : szOf Try.prog 85 = some 1 := by kernel_rfl
theorem is85 : (Try.prog.info? 85).isSome = true := by kernel_rfl
theorem ce85 : Try.prog.cellsOf 85 = 1 := by kernel_rfl
theorem ag85 : aggT Try.prog 85 = some false := by kernel_rfl
theorem ze85 : czero Try.prog 85 = some (.pointer none) := by kernel_rfl
end Go.Proofs.Try
