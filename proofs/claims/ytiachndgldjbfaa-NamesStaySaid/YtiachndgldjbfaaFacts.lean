/- For each function: the orders of its regions that draw theirs; that it may be walked, and called. Written by program (facts.py). A lemma file: no statement of its own. -/
import Derived.Test.YtiachndgldjbfaaChecked
import Derived.Test.YtiachndgldjbfaaFwD
set_option linter.unusedSimpArgs false
set_option linter.unusedVariables false
namespace Go.Proofs.Try
open Go.Cs
theorem hmix : Try.prog.follows .mixedOrders = true := by kernel_rfl
theorem no0 : callOk Try.prog 0 = false := by kernel_rfl
theorem no1 : callOk Try.prog 1 = false := by kernel_rfl
def ord2 : Ord := []
theorem ok2 : funcOk Try.prog 2 ord2 = true := by kernel_rfl
theorem co2 : callOk Try.prog 2 = true := callOk_of ok2
def ord3 : Ord := [(8, [⟨0, false, []⟩, ⟨1, false, []⟩, ⟨2, false, []⟩, ⟨3, false, []⟩, ⟨4, false, []⟩, ⟨6, false, []⟩, ⟨7, false, []⟩, ⟨8, false, []⟩, ⟨9, false, []⟩, ⟨10, false, []⟩, ⟨5, true, [10, 9, 8, 7, 6]⟩, ⟨11, true, []⟩, ⟨12, false, []⟩, ⟨13, false, []⟩, ⟨14, false, []⟩, ⟨16, false, []⟩, ⟨17, false, []⟩, ⟨18, false, []⟩, ⟨19, false, []⟩, ⟨20, false, []⟩, ⟨15, true, [20, 19, 18, 17, 16]⟩, ⟨21, false, []⟩, ⟨22, false, []⟩])]
theorem ok3 : funcOk Try.prog 3 ord3 = true := by kernel_rfl
theorem co3 : callOk Try.prog 3 = true := callOk_of ok3
def ord4 : Ord := []
theorem ok4 : funcOk Try.prog 4 ord4 = true := by kernel_rfl
theorem co4 : callOk Try.prog 4 = true := callOk_of ok4
def ord5 : Ord := []
theorem ok5 : funcOk Try.prog 5 ord5 = true := by kernel_rfl
theorem co5 : callOk Try.prog 5 = true := callOk_of ok5
def ord6 : Ord := []
theorem ok6 : funcOk Try.prog 6 ord6 = true := by kernel_rfl
theorem co6 : callOk Try.prog 6 = true := callOk_of ok6
def ord7 : Ord := []
theorem ok7 : funcOk Try.prog 7 ord7 = true := by kernel_rfl
theorem co7 : callOk Try.prog 7 = true := callOk_of ok7
def ord8 : Ord := []
theorem ok8 : funcOk Try.prog 8 ord8 = true := by kernel_rfl
theorem co8 : callOk Try.prog 8 = true := callOk_of ok8
def ord9 : Ord := []
theorem ok9 : funcOk Try.prog 9 ord9 = true := by kernel_rfl
theorem co9 : callOk Try.prog 9 = true := callOk_of ok9
def ord10 : Ord := []
theorem ok10 : funcOk Try.prog 10 ord10 = true := by kernel_rfl
theorem co10 : callOk Try.prog 10 = true := callOk_of ok10
def ord11 : Ord := []
theorem ok11 : funcOk Try.prog 11 ord11 = true := by kernel_rfl
theorem co11 : callOk Try.prog 11 = true := callOk_of ok11
def ord12 : Ord := []
theorem ok12 : funcOk Try.prog 12 ord12 = true := by kernel_rfl
theorem co12 : callOk Try.prog 12 = true := callOk_of ok12
def ord13 : Ord := []
theorem ok13 : funcOk Try.prog 13 ord13 = true := by kernel_rfl
theorem co13 : callOk Try.prog 13 = true := callOk_of ok13
def ord14 : Ord := [(1, [⟨0, false, []⟩, ⟨2, false, []⟩, ⟨1, true, [2]⟩, ⟨3, true, []⟩, ⟨4, false, []⟩, ⟨5, false, []⟩, ⟨6, false, []⟩, ⟨7, false, []⟩, ⟨9, false, []⟩, ⟨10, false, []⟩, ⟨8, true, [10, 9]⟩, ⟨11, true, []⟩, ⟨12, false, []⟩, ⟨13, false, []⟩, ⟨14, false, []⟩, ⟨15, false, []⟩, ⟨17, false, []⟩, ⟨16, true, [17]⟩, ⟨18, true, []⟩, ⟨19, false, []⟩, ⟨20, false, []⟩, ⟨21, false, []⟩, ⟨22, false, []⟩, ⟨24, false, []⟩, ⟨25, false, []⟩, ⟨26, false, []⟩, ⟨23, true, [26, 25, 24]⟩, ⟨27, false, []⟩, ⟨28, false, []⟩, ⟨29, false, []⟩, ⟨30, true, []⟩, ⟨31, false, []⟩, ⟨32, true, []⟩])]
theorem ok14 : funcOk Try.prog 14 ord14 = true := by kernel_rfl
theorem co14 : callOk Try.prog 14 = true := callOk_of ok14
def ord15 : Ord := []
theorem ok15 : funcOk Try.prog 15 ord15 = true := by kernel_rfl
theorem co15 : callOk Try.prog 15 = true := callOk_of ok15
def ord16 : Ord := []
theorem ok16 : funcOk Try.prog 16 ord16 = true := by kernel_rfl
theorem co16 : callOk Try.prog 16 = true := callOk_of ok16
def ord17 : Ord := []
theorem ok17 : funcOk Try.prog 17 ord17 = true := by kernel_rfl
theorem co17 : callOk Try.prog 17 = true := callOk_of ok17
def ord18 : Ord := []
theorem ok18 : funcOk Try.prog 18 ord18 = true := by kernel_rfl
theorem co18 : callOk Try.prog 18 = true := callOk_of ok18
def ord19 : Ord := []
theorem ok19 : funcOk Try.prog 19 ord19 = true := by kernel_rfl
theorem co19 : callOk Try.prog 19 = true := callOk_of ok19
def ord20 : Ord := []
theorem ok20 : funcOk Try.prog 20 ord20 = true := by kernel_rfl
theorem co20 : callOk Try.prog 20 = true := callOk_of ok20
def ord21 : Ord := []
theorem ok21 : funcOk Try.prog 21 ord21 = true := by kernel_rfl
theorem co21 : callOk Try.prog 21 = true := callOk_of ok21
def ord22 : Ord := []
theorem ok22 : funcOk Try.prog 22 ord22 = true := by kernel_rfl
theorem co22 : callOk Try.prog 22 = true := callOk_of ok22
def ord23 : Ord := []
theorem ok23 : funcOk Try.prog 23 ord23 = true := by kernel_rfl
theorem co23 : callOk Try.prog 23 = true := callOk_of ok23
def ord24 : Ord := []
theorem ok24 : funcOk Try.prog 24 ord24 = true := by kernel_rfl
theorem co24 : callOk Try.prog 24 = true := callOk_of ok24
def ord25 : Ord := []
theorem ok25 : funcOk Try.prog 25 ord25 = true := by kernel_rfl
theorem co25 : callOk Try.prog 25 = true := callOk_of ok25
def ord26 : Ord := [(14, [⟨0, false, []⟩, ⟨1, true, [0]⟩, ⟨2, true, []⟩])]
theorem ok26 : funcOk Try.prog 26 ord26 = true := by kernel_rfl
theorem co26 : callOk Try.prog 26 = true := callOk_of ok26
def ord27 : Ord := []
theorem ok27 : funcOk Try.prog 27 ord27 = true := by kernel_rfl
theorem co27 : callOk Try.prog 27 = true := callOk_of ok27
def ord28 : Ord := []
theorem ok28 : funcOk Try.prog 28 ord28 = true := by kernel_rfl
theorem co28 : callOk Try.prog 28 = true := callOk_of ok28
def ord29 : Ord := []
theorem ok29 : funcOk Try.prog 29 ord29 = true := by kernel_rfl
theorem co29 : callOk Try.prog 29 = true := callOk_of ok29
def ord30 : Ord := []
theorem ok30 : funcOk Try.prog 30 ord30 = true := by kernel_rfl
theorem co30 : callOk Try.prog 30 = true := callOk_of ok30
def ord31 : Ord := []
theorem ok31 : funcOk Try.prog 31 ord31 = true := by kernel_rfl
theorem co31 : callOk Try.prog 31 = true := callOk_of ok31
def ord32 : Ord := []
theorem ok32 : funcOk Try.prog 32 ord32 = true := by kernel_rfl
theorem co32 : callOk Try.prog 32 = true := callOk_of ok32
def ord33 : Ord := []
theorem ok33 : funcOk Try.prog 33 ord33 = true := by kernel_rfl
theorem co33 : callOk Try.prog 33 = true := callOk_of ok33
def ord34 : Ord := []
theorem ok34 : funcOk Try.prog 34 ord34 = true := by kernel_rfl
theorem co34 : callOk Try.prog 34 = true := callOk_of ok34
def ord35 : Ord := []
theorem ok35 : funcOk Try.prog 35 ord35 = true := by kernel_rfl
theorem co35 : callOk Try.prog 35 = true := callOk_of ok35
def ord36 : Ord := []
theorem ok36 : funcOk Try.prog 36 ord36 = true := by kernel_rfl
theorem co36 : callOk Try.prog 36 = true := callOk_of ok36
def ord37 : Ord := []
theorem ok37 : funcOk Try.prog 37 ord37 = true := by kernel_rfl
theorem co37 : callOk Try.prog 37 = true := callOk_of ok37
def ord38 : Ord := []
theorem ok38 : funcOk Try.prog 38 ord38 = true := by kernel_rfl
theorem co38 : callOk Try.prog 38 = true := callOk_of ok38
def ord39 : Ord := []
theorem ok39 : funcOk Try.prog 39 ord39 = true := by kernel_rfl
theorem co39 : callOk Try.prog 39 = true := callOk_of ok39
def ord40 : Ord := []
theorem ok40 : funcOk Try.prog 40 ord40 = true := by kernel_rfl
theorem co40 : callOk Try.prog 40 = true := callOk_of ok40
def ord41 : Ord := []
theorem ok41 : funcOk Try.prog 41 ord41 = true := by kernel_rfl
theorem co41 : callOk Try.prog 41 = true := callOk_of ok41
def ord42 : Ord := []
theorem ok42 : funcOk Try.prog 42 ord42 = true := by kernel_rfl
theorem co42 : callOk Try.prog 42 = true := callOk_of ok42
def ord43 : Ord := []
theorem ok43 : funcOk Try.prog 43 ord43 = true := by kernel_rfl
theorem co43 : callOk Try.prog 43 = true := callOk_of ok43
def ord44 : Ord := []
theorem ok44 : funcOk Try.prog 44 ord44 = true := by kernel_rfl
theorem co44 : callOk Try.prog 44 = true := callOk_of ok44
def ord45 : Ord := []
theorem ok45 : funcOk Try.prog 45 ord45 = true := by kernel_rfl
theorem co45 : callOk Try.prog 45 = true := callOk_of ok45
def ord46 : Ord := []
theorem ok46 : funcOk Try.prog 46 ord46 = true := by kernel_rfl
theorem co46 : callOk Try.prog 46 = true := callOk_of ok46
def ord47 : Ord := []
theorem ok47 : funcOk Try.prog 47 ord47 = true := by kernel_rfl
theorem co47 : callOk Try.prog 47 = true := callOk_of ok47
def ord48 : Ord := []
theorem ok48 : funcOk Try.prog 48 ord48 = true := by kernel_rfl
theorem co48 : callOk Try.prog 48 = true := callOk_of ok48
def ord49 : Ord := []
theorem ok49 : funcOk Try.prog 49 ord49 = true := by kernel_rfl
theorem co49 : callOk Try.prog 49 = true := callOk_of ok49
def ord50 : Ord := []
theorem ok50 : funcOk Try.prog 50 ord50 = true := by kernel_rfl
theorem co50 : callOk Try.prog 50 = true := callOk_of ok50
def ord51 : Ord := []
theorem ok51 : funcOk Try.prog 51 ord51 = true := by kernel_rfl
theorem co51 : callOk Try.prog 51 = true := callOk_of ok51
def ord52 : Ord := []
theorem ok52 : funcOk Try.prog 52 ord52 = true := by kernel_rfl
theorem co52 : callOk Try.prog 52 = true := callOk_of ok52
def ord53 : Ord := []
theorem ok53 : funcOk Try.prog 53 ord53 = true := by kernel_rfl
theorem co53 : callOk Try.prog 53 = true := callOk_of ok53
def ord54 : Ord := []
theorem ok54 : funcOk Try.prog 54 ord54 = true := by kernel_rfl
theorem co54 : callOk Try.prog 54 = true := callOk_of ok54
def ord55 : Ord := []
theorem ok55 : funcOk Try.prog 55 ord55 = true := by kernel_rfl
theorem co55 : callOk Try.prog 55 = true := callOk_of ok55
def ord56 : Ord := []
theorem ok56 : funcOk Try.prog 56 ord56 = true := by kernel_rfl
theorem co56 : callOk Try.prog 56 = true := callOk_of ok56
def ord57 : Ord := [(12, [⟨0, false, []⟩, ⟨1, false, []⟩, ⟨2, false, []⟩, ⟨3, false, []⟩, ⟨4, false, []⟩, ⟨5, false, []⟩, ⟨6, false, []⟩, ⟨7, false, []⟩, ⟨8, false, []⟩, ⟨9, false, []⟩, ⟨10, true, []⟩, ⟨11, true, []⟩])]
theorem ok57 : funcOk Try.prog 57 ord57 = true := by kernel_rfl
theorem co57 : callOk Try.prog 57 = true := callOk_of ok57
def ord58 : Ord := []
theorem ok58 : funcOk Try.prog 58 ord58 = true := by kernel_rfl
theorem co58 : callOk Try.prog 58 = true := callOk_of ok58
def ord59 : Ord := []
theorem ok59 : funcOk Try.prog 59 ord59 = true := by kernel_rfl
theorem co59 : callOk Try.prog 59 = true := callOk_of ok59
theorem no60 : callOk Try.prog 60 = false := by kernel_rfl
theorem no61 : callOk Try.prog 61 = false := by kernel_rfl
theorem no62 : callOk Try.prog 62 = false := by kernel_rfl
theorem no63 : callOk Try.prog 63 = false := by kernel_rfl
theorem no64 : callOk Try.prog 64 = false := by kernel_rfl
theorem no65 : callOk Try.prog 65 = false := by kernel_rfl
theorem no66 : callOk Try.prog 66 = false := by kernel_rfl
theorem no67 : callOk Try.prog 67 = false := by kernel_rfl
theorem no68 : callOk Try.prog 68 = false := by kernel_rfl
theorem no69 : callOk Try.prog 69 = false := by kernel_rfl
theorem no70 : callOk Try.prog 70 = false := by kernel_rfl
theorem no71 : callOk Try.prog 71 = false := by kernel_rfl
theorem no72 : callOk Try.prog 72 = false := by kernel_rfl
theorem no73 : callOk Try.prog 73 = false := by kernel_rfl
theorem no74 : callOk Try.prog 74 = false := by kernel_rfl
theorem no75 : callOk Try.prog 75 = false := by kernel_rfl
theorem no76 : callOk Try.prog 76 = false := by kernel_rfl
end Go.Proofs.Try
