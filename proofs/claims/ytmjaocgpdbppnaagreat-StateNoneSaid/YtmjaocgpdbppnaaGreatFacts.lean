/- For each function: the orders of its regions that draw theirs; that it may be walked, and called. Written by program (facts.py). A lemma file: no statement of its own. -/
import Derived.Test.YtmjaocgpdbppnaaGreatChecked
import Derived.Test.YtmjaocgpdbppnaaGreatFwD
set_option linter.unusedSimpArgs false
set_option linter.unusedVariables false
namespace Go.Proofs.Tryz
open Go.Cs
theorem hmix : Tryz.prog.follows .mixedOrders = true := by kernel_rfl
theorem no0 : callOk Tryz.prog 0 = false := by kernel_rfl
theorem no1 : callOk Tryz.prog 1 = false := by kernel_rfl
def ord2 : Ord := []
theorem ok2 : funcOk Tryz.prog 2 ord2 = true := by kernel_rfl
theorem co2 : callOk Tryz.prog 2 = true := callOk_of ok2
def ord3 : Ord := [(4, [⟨0, false, []⟩, ⟨2, false, []⟩, ⟨1, true, [2]⟩, ⟨3, false, []⟩, ⟨4, false, []⟩, ⟨5, false, []⟩, ⟨6, false, []⟩, ⟨7, false, []⟩, ⟨8, false, []⟩, ⟨9, false, []⟩, ⟨10, false, []⟩, ⟨11, false, []⟩, ⟨12, false, []⟩, ⟨13, false, []⟩, ⟨14, false, []⟩, ⟨15, false, []⟩, ⟨16, false, []⟩, ⟨17, false, []⟩, ⟨18, false, []⟩, ⟨19, false, []⟩, ⟨20, false, []⟩, ⟨21, false, []⟩, ⟨22, false, []⟩, ⟨23, false, []⟩, ⟨24, false, []⟩, ⟨25, false, []⟩, ⟨26, true, []⟩, ⟨27, false, []⟩, ⟨28, true, []⟩])]
theorem ok3 : funcOk Tryz.prog 3 ord3 = true := by kernel_rfl
theorem co3 : callOk Tryz.prog 3 = true := callOk_of ok3
def ord4 : Ord := [(12, [⟨0, false, []⟩, ⟨1, false, []⟩, ⟨2, false, []⟩, ⟨3, false, []⟩, ⟨9, false, []⟩, ⟨4, true, [9, 2, 1, 0]⟩, ⟨5, true, [9]⟩, ⟨6, false, []⟩, ⟨7, false, []⟩, ⟨8, false, []⟩, ⟨10, true, [8]⟩, ⟨11, true, []⟩])]
theorem ok4 : funcOk Tryz.prog 4 ord4 = true := by kernel_rfl
theorem co4 : callOk Tryz.prog 4 = true := callOk_of ok4
def ord5 : Ord := []
theorem ok5 : funcOk Tryz.prog 5 ord5 = true := by kernel_rfl
theorem co5 : callOk Tryz.prog 5 = true := callOk_of ok5
def ord6 : Ord := [(9, [⟨0, false, []⟩, ⟨1, false, []⟩, ⟨2, false, []⟩, ⟨3, false, []⟩, ⟨4, true, []⟩, ⟨5, false, []⟩, ⟨6, false, []⟩, ⟨7, false, []⟩, ⟨8, false, []⟩, ⟨9, false, []⟩, ⟨10, false, []⟩, ⟨11, false, []⟩, ⟨12, false, []⟩, ⟨13, false, []⟩, ⟨14, true, []⟩, ⟨15, false, []⟩, ⟨16, false, []⟩])]
theorem ok6 : funcOk Tryz.prog 6 ord6 = true := by kernel_rfl
theorem co6 : callOk Tryz.prog 6 = true := callOk_of ok6
def ord7 : Ord := [(1, [⟨0, false, []⟩, ⟨1, false, []⟩, ⟨3, false, []⟩, ⟨4, false, []⟩, ⟨6, false, []⟩, ⟨7, false, []⟩, ⟨9, false, []⟩, ⟨10, false, []⟩, ⟨2, true, [10, 9, 7, 6, 4, 3]⟩, ⟨5, true, [10, 9, 7, 6]⟩, ⟨8, true, [10, 9]⟩, ⟨11, true, []⟩, ⟨12, false, []⟩, ⟨13, true, []⟩])]
theorem ok7 : funcOk Tryz.prog 7 ord7 = true := by kernel_rfl
theorem co7 : callOk Tryz.prog 7 = true := callOk_of ok7
def ord8 : Ord := [(5, [⟨0, false, []⟩, ⟨1, false, []⟩, ⟨2, false, []⟩, ⟨4, false, []⟩, ⟨5, false, []⟩, ⟨6, false, []⟩, ⟨7, false, []⟩, ⟨3, true, [7, 6, 5, 4, 1, 0]⟩, ⟨8, false, []⟩, ⟨9, false, []⟩, ⟨10, true, []⟩]), (7, [⟨0, false, []⟩, ⟨1, false, []⟩, ⟨2, false, []⟩, ⟨3, false, []⟩, ⟨4, false, []⟩, ⟨5, false, []⟩, ⟨6, false, []⟩, ⟨7, false, []⟩, ⟨10, false, []⟩, ⟨8, true, [10, 3, 2, 1, 0]⟩, ⟨9, false, []⟩, ⟨11, true, []⟩]), (10, [⟨0, false, []⟩, ⟨1, false, []⟩, ⟨2, false, []⟩, ⟨3, false, []⟩, ⟨4, false, []⟩, ⟨5, false, []⟩, ⟨6, false, []⟩, ⟨7, true, [6, 5, 4, 3, 2, 1]⟩, ⟨8, true, []⟩])]
theorem ok8 : funcOk Tryz.prog 8 ord8 = true := by kernel_rfl
theorem co8 : callOk Tryz.prog 8 = true := callOk_of ok8
def ord9 : Ord := [(2, [⟨0, false, []⟩, ⟨1, false, []⟩, ⟨2, false, []⟩, ⟨3, false, []⟩, ⟨4, false, []⟩, ⟨5, false, []⟩, ⟨6, false, []⟩, ⟨12, false, []⟩, ⟨7, true, [12, 6, 5, 4, 3, 2, 1, 0]⟩, ⟨8, true, [12]⟩, ⟨9, false, []⟩, ⟨10, false, []⟩, ⟨11, false, []⟩, ⟨13, true, [11]⟩, ⟨14, true, []⟩])]
theorem ok9 : funcOk Tryz.prog 9 ord9 = true := by kernel_rfl
theorem co9 : callOk Tryz.prog 9 = true := callOk_of ok9
def ord10 : Ord := []
theorem ok10 : funcOk Tryz.prog 10 ord10 = true := by kernel_rfl
theorem co10 : callOk Tryz.prog 10 = true := callOk_of ok10
def ord11 : Ord := []
theorem ok11 : funcOk Tryz.prog 11 ord11 = true := by kernel_rfl
theorem co11 : callOk Tryz.prog 11 = true := callOk_of ok11
def ord12 : Ord := []
theorem ok12 : funcOk Tryz.prog 12 ord12 = true := by kernel_rfl
theorem co12 : callOk Tryz.prog 12 = true := callOk_of ok12
def ord13 : Ord := [(3, [⟨0, false, []⟩, ⟨1, false, []⟩, ⟨2, false, []⟩, ⟨3, false, []⟩, ⟨4, false, []⟩, ⟨5, false, []⟩, ⟨6, false, []⟩, ⟨7, false, []⟩, ⟨8, false, []⟩, ⟨9, false, []⟩, ⟨10, false, []⟩, ⟨11, false, []⟩, ⟨12, false, []⟩, ⟨13, true, []⟩, ⟨14, true, []⟩, ⟨15, true, []⟩])]
theorem ok13 : funcOk Tryz.prog 13 ord13 = true := by kernel_rfl
theorem co13 : callOk Tryz.prog 13 = true := callOk_of ok13
def ord14 : Ord := []
theorem ok14 : funcOk Tryz.prog 14 ord14 = true := by kernel_rfl
theorem co14 : callOk Tryz.prog 14 = true := callOk_of ok14
def ord15 : Ord := [(10, [⟨0, false, []⟩, ⟨1, false, []⟩, ⟨2, false, []⟩, ⟨3, false, []⟩, ⟨4, false, []⟩, ⟨5, false, []⟩, ⟨6, false, []⟩, ⟨7, false, []⟩, ⟨8, false, []⟩, ⟨9, true, [0]⟩, ⟨10, false, []⟩, ⟨11, false, []⟩, ⟨12, true, []⟩, ⟨13, false, []⟩, ⟨14, false, []⟩, ⟨15, true, []⟩, ⟨16, true, []⟩])]
theorem ok15 : funcOk Tryz.prog 15 ord15 = true := by kernel_rfl
theorem co15 : callOk Tryz.prog 15 = true := callOk_of ok15
def ord16 : Ord := []
theorem ok16 : funcOk Tryz.prog 16 ord16 = true := by kernel_rfl
theorem co16 : callOk Tryz.prog 16 = true := callOk_of ok16
def ord17 : Ord := [(3, [⟨0, false, []⟩, ⟨1, false, []⟩, ⟨2, false, []⟩, ⟨3, false, []⟩, ⟨4, false, []⟩, ⟨5, false, []⟩, ⟨6, false, []⟩, ⟨7, false, []⟩, ⟨8, true, []⟩, ⟨9, true, []⟩, ⟨10, true, []⟩])]
theorem ok17 : funcOk Tryz.prog 17 ord17 = true := by kernel_rfl
theorem co17 : callOk Tryz.prog 17 = true := callOk_of ok17
def ord18 : Ord := []
theorem ok18 : funcOk Tryz.prog 18 ord18 = true := by kernel_rfl
theorem co18 : callOk Tryz.prog 18 = true := callOk_of ok18
def ord19 : Ord := []
theorem ok19 : funcOk Tryz.prog 19 ord19 = true := by kernel_rfl
theorem co19 : callOk Tryz.prog 19 = true := callOk_of ok19
def ord20 : Ord := []
theorem ok20 : funcOk Tryz.prog 20 ord20 = true := by kernel_rfl
theorem co20 : callOk Tryz.prog 20 = true := callOk_of ok20
def ord21 : Ord := [(3, [⟨0, false, []⟩, ⟨1, false, []⟩, ⟨2, false, []⟩, ⟨3, false, []⟩, ⟨4, false, []⟩, ⟨5, true, [3, 2, 1, 0]⟩, ⟨6, false, []⟩, ⟨7, true, []⟩]), (5, [⟨0, false, []⟩, ⟨1, false, []⟩, ⟨2, false, []⟩, ⟨3, false, []⟩, ⟨4, false, []⟩, ⟨5, false, []⟩, ⟨6, false, []⟩, ⟨7, true, []⟩])]
theorem ok21 : funcOk Tryz.prog 21 ord21 = true := by kernel_rfl
theorem co21 : callOk Tryz.prog 21 = true := callOk_of ok21
def ord22 : Ord := [(3, [⟨0, false, []⟩, ⟨1, false, []⟩, ⟨2, false, []⟩, ⟨3, false, []⟩, ⟨4, false, []⟩, ⟨5, false, []⟩, ⟨6, true, [4, 3, 2, 1, 0]⟩, ⟨7, false, []⟩, ⟨8, true, [0]⟩, ⟨9, false, []⟩, ⟨10, false, []⟩, ⟨11, true, []⟩])]
theorem ok22 : funcOk Tryz.prog 22 ord22 = true := by kernel_rfl
theorem co22 : callOk Tryz.prog 22 = true := callOk_of ok22
def ord23 : Ord := [(3, [⟨0, false, []⟩, ⟨1, false, []⟩, ⟨2, false, []⟩, ⟨3, false, []⟩, ⟨4, false, []⟩, ⟨5, false, []⟩, ⟨6, false, []⟩, ⟨7, true, []⟩])]
theorem ok23 : funcOk Tryz.prog 23 ord23 = true := by kernel_rfl
theorem co23 : callOk Tryz.prog 23 = true := callOk_of ok23
def ord24 : Ord := [(3, [⟨0, false, []⟩, ⟨1, false, []⟩, ⟨2, false, []⟩, ⟨3, false, []⟩, ⟨4, false, []⟩, ⟨5, false, []⟩, ⟨6, false, []⟩, ⟨7, false, []⟩, ⟨8, false, []⟩, ⟨9, false, []⟩])]
theorem ok24 : funcOk Tryz.prog 24 ord24 = true := by kernel_rfl
theorem co24 : callOk Tryz.prog 24 = true := callOk_of ok24
def ord25 : Ord := []
theorem ok25 : funcOk Tryz.prog 25 ord25 = true := by kernel_rfl
theorem co25 : callOk Tryz.prog 25 = true := callOk_of ok25
def ord26 : Ord := [(3, [⟨0, false, []⟩, ⟨1, false, []⟩, ⟨2, false, []⟩, ⟨3, false, []⟩, ⟨4, false, []⟩, ⟨5, false, []⟩, ⟨6, false, []⟩, ⟨7, false, []⟩, ⟨8, false, []⟩, ⟨9, false, []⟩, ⟨10, false, []⟩, ⟨11, false, []⟩, ⟨14, false, []⟩, ⟨12, true, [14, 7, 6, 5, 4, 3, 2, 1, 0]⟩, ⟨13, false, []⟩, ⟨15, true, []⟩])]
theorem ok26 : funcOk Tryz.prog 26 ord26 = true := by kernel_rfl
theorem co26 : callOk Tryz.prog 26 = true := callOk_of ok26
def ord27 : Ord := []
theorem ok27 : funcOk Tryz.prog 27 ord27 = true := by kernel_rfl
theorem co27 : callOk Tryz.prog 27 = true := callOk_of ok27
def ord28 : Ord := []
theorem ok28 : funcOk Tryz.prog 28 ord28 = true := by kernel_rfl
theorem co28 : callOk Tryz.prog 28 = true := callOk_of ok28
def ord29 : Ord := []
theorem ok29 : funcOk Tryz.prog 29 ord29 = true := by kernel_rfl
theorem co29 : callOk Tryz.prog 29 = true := callOk_of ok29
def ord30 : Ord := []
theorem ok30 : funcOk Tryz.prog 30 ord30 = true := by kernel_rfl
theorem co30 : callOk Tryz.prog 30 = true := callOk_of ok30
def ord31 : Ord := [(4, [⟨0, false, []⟩, ⟨1, false, []⟩, ⟨2, false, []⟩, ⟨3, false, []⟩, ⟨4, false, []⟩, ⟨5, false, []⟩, ⟨6, false, []⟩, ⟨7, false, []⟩, ⟨8, false, []⟩, ⟨9, false, []⟩, ⟨10, false, []⟩, ⟨11, false, []⟩, ⟨12, false, []⟩, ⟨13, false, []⟩, ⟨14, false, []⟩, ⟨15, false, []⟩, ⟨16, false, []⟩, ⟨17, false, []⟩, ⟨18, false, []⟩, ⟨19, false, []⟩, ⟨21, false, []⟩, ⟨20, true, [21]⟩, ⟨22, true, []⟩])]
theorem ok31 : funcOk Tryz.prog 31 ord31 = true := by kernel_rfl
theorem co31 : callOk Tryz.prog 31 = true := callOk_of ok31
def ord32 : Ord := []
theorem ok32 : funcOk Tryz.prog 32 ord32 = true := by kernel_rfl
theorem co32 : callOk Tryz.prog 32 = true := callOk_of ok32
def ord33 : Ord := []
theorem ok33 : funcOk Tryz.prog 33 ord33 = true := by kernel_rfl
theorem co33 : callOk Tryz.prog 33 = true := callOk_of ok33
def ord34 : Ord := [(8, [⟨0, false, []⟩, ⟨1, false, []⟩, ⟨2, false, []⟩, ⟨3, false, []⟩, ⟨5, false, []⟩, ⟨6, false, []⟩, ⟨7, false, []⟩, ⟨8, false, []⟩, ⟨4, true, [8, 7, 6, 5]⟩, ⟨10, false, []⟩, ⟨9, true, [10]⟩, ⟨11, true, []⟩, ⟨12, false, []⟩, ⟨13, true, []⟩])]
theorem ok34 : funcOk Tryz.prog 34 ord34 = true := by kernel_rfl
theorem co34 : callOk Tryz.prog 34 = true := callOk_of ok34
def ord35 : Ord := []
theorem ok35 : funcOk Tryz.prog 35 ord35 = true := by kernel_rfl
theorem co35 : callOk Tryz.prog 35 = true := callOk_of ok35
def ord36 : Ord := []
theorem ok36 : funcOk Tryz.prog 36 ord36 = true := by kernel_rfl
theorem co36 : callOk Tryz.prog 36 = true := callOk_of ok36
def ord37 : Ord := []
theorem ok37 : funcOk Tryz.prog 37 ord37 = true := by kernel_rfl
theorem co37 : callOk Tryz.prog 37 = true := callOk_of ok37
def ord38 : Ord := [(2, [⟨0, false, []⟩, ⟨1, false, []⟩, ⟨3, false, []⟩, ⟨4, false, []⟩, ⟨5, false, []⟩, ⟨8, false, []⟩, ⟨2, true, [8, 5, 4, 3]⟩, ⟨6, true, [8, 4, 3]⟩, ⟨7, false, []⟩, ⟨9, true, [7, 4, 3]⟩, ⟨10, false, []⟩, ⟨11, false, []⟩, ⟨12, true, []⟩])]
theorem ok38 : funcOk Tryz.prog 38 ord38 = true := by kernel_rfl
theorem co38 : callOk Tryz.prog 38 = true := callOk_of ok38
def ord39 : Ord := []
theorem ok39 : funcOk Tryz.prog 39 ord39 = true := by kernel_rfl
theorem co39 : callOk Tryz.prog 39 = true := callOk_of ok39
def ord40 : Ord := []
theorem ok40 : funcOk Tryz.prog 40 ord40 = true := by kernel_rfl
theorem co40 : callOk Tryz.prog 40 = true := callOk_of ok40
def ord41 : Ord := [(3, [⟨0, false, []⟩, ⟨1, false, []⟩, ⟨2, false, []⟩, ⟨3, false, []⟩, ⟨4, false, []⟩, ⟨5, false, []⟩, ⟨6, false, []⟩, ⟨7, false, []⟩, ⟨8, false, []⟩, ⟨9, false, []⟩, ⟨10, true, []⟩]), (4, [⟨0, false, []⟩, ⟨1, false, []⟩, ⟨2, false, []⟩, ⟨3, false, []⟩, ⟨4, false, []⟩, ⟨5, false, []⟩, ⟨6, false, []⟩, ⟨7, false, []⟩, ⟨8, false, []⟩, ⟨9, false, []⟩, ⟨10, false, []⟩, ⟨11, false, []⟩, ⟨12, false, []⟩, ⟨13, false, []⟩, ⟨14, true, []⟩])]
theorem ok41 : funcOk Tryz.prog 41 ord41 = true := by kernel_rfl
theorem co41 : callOk Tryz.prog 41 = true := callOk_of ok41
def ord42 : Ord := [(2, [⟨0, false, []⟩, ⟨1, false, []⟩, ⟨2, false, []⟩, ⟨3, false, []⟩, ⟨4, false, []⟩, ⟨5, false, []⟩, ⟨6, false, []⟩, ⟨7, false, []⟩, ⟨8, false, []⟩, ⟨9, false, []⟩, ⟨10, false, []⟩, ⟨11, false, []⟩, ⟨12, false, []⟩, ⟨13, false, []⟩, ⟨14, false, []⟩, ⟨15, false, []⟩, ⟨16, false, []⟩, ⟨17, false, []⟩, ⟨18, false, []⟩, ⟨19, false, []⟩, ⟨20, false, []⟩, ⟨21, false, []⟩, ⟨22, true, []⟩])]
theorem ok42 : funcOk Tryz.prog 42 ord42 = true := by kernel_rfl
theorem co42 : callOk Tryz.prog 42 = true := callOk_of ok42
def ord43 : Ord := [(3, [⟨0, false, []⟩, ⟨1, false, []⟩, ⟨2, false, []⟩, ⟨3, false, []⟩, ⟨4, false, []⟩, ⟨5, false, []⟩, ⟨6, false, []⟩, ⟨7, false, []⟩, ⟨8, false, []⟩, ⟨9, false, []⟩, ⟨10, false, []⟩, ⟨11, false, []⟩, ⟨12, false, []⟩, ⟨13, false, []⟩, ⟨14, false, []⟩, ⟨15, false, []⟩, ⟨16, false, []⟩, ⟨17, false, []⟩, ⟨18, false, []⟩, ⟨19, false, []⟩, ⟨20, false, []⟩, ⟨21, false, []⟩, ⟨22, false, []⟩, ⟨23, false, []⟩, ⟨24, false, []⟩, ⟨27, false, []⟩, ⟨25, true, [27, 11, 10, 9, 8, 7, 6, 5, 4, 3, 2, 1, 0]⟩, ⟨26, false, []⟩, ⟨28, true, []⟩]), (4, [⟨0, false, []⟩, ⟨1, false, []⟩, ⟨2, false, []⟩, ⟨3, false, []⟩, ⟨4, false, []⟩, ⟨5, false, []⟩, ⟨6, false, []⟩, ⟨7, false, []⟩, ⟨8, false, []⟩, ⟨9, false, []⟩, ⟨10, false, []⟩, ⟨11, false, []⟩, ⟨12, false, []⟩, ⟨13, false, []⟩, ⟨14, false, []⟩, ⟨15, true, []⟩]), (6, [⟨0, false, []⟩, ⟨1, false, []⟩, ⟨2, false, []⟩, ⟨3, false, []⟩, ⟨4, false, []⟩, ⟨6, false, []⟩, ⟨5, true, [6, 1, 0]⟩, ⟨7, true, []⟩, ⟨8, false, []⟩, ⟨9, true, []⟩]), (8, [⟨0, false, []⟩, ⟨1, false, []⟩, ⟨2, false, []⟩, ⟨3, false, []⟩, ⟨4, false, []⟩, ⟨5, false, []⟩, ⟨6, false, []⟩, ⟨7, false, []⟩, ⟨8, false, []⟩, ⟨9, false, []⟩, ⟨10, false, []⟩, ⟨11, false, []⟩, ⟨12, false, []⟩, ⟨13, false, []⟩, ⟨14, false, []⟩, ⟨15, true, []⟩]), (9, [⟨0, false, []⟩, ⟨1, false, []⟩, ⟨2, false, []⟩, ⟨3, false, []⟩, ⟨4, false, []⟩, ⟨5, false, []⟩, ⟨6, false, []⟩, ⟨7, false, []⟩, ⟨8, false, []⟩, ⟨9, false, []⟩, ⟨10, false, []⟩, ⟨11, false, []⟩, ⟨12, true, []⟩, ⟨13, false, []⟩, ⟨14, false, []⟩, ⟨15, false, []⟩, ⟨16, true, [15]⟩, ⟨17, true, []⟩]), (10, [⟨0, false, []⟩, ⟨1, false, []⟩, ⟨2, false, []⟩, ⟨3, false, []⟩, ⟨4, false, []⟩, ⟨5, false, []⟩, ⟨6, false, []⟩, ⟨7, false, []⟩, ⟨8, false, []⟩, ⟨9, false, []⟩, ⟨10, false, []⟩, ⟨11, false, []⟩, ⟨12, false, []⟩, ⟨14, false, []⟩, ⟨13, true, [14, 2, 1, 0]⟩, ⟨15, true, []⟩, ⟨16, false, []⟩, ⟨17, true, []⟩])]
theorem ok43 : funcOk Tryz.prog 43 ord43 = true := by kernel_rfl
theorem co43 : callOk Tryz.prog 43 = true := callOk_of ok43
def ord44 : Ord := [(3, [⟨0, false, []⟩, ⟨1, false, []⟩, ⟨2, false, []⟩, ⟨3, false, []⟩, ⟨4, false, []⟩, ⟨5, false, []⟩, ⟨6, false, []⟩, ⟨7, false, []⟩, ⟨8, false, []⟩, ⟨9, false, []⟩, ⟨10, false, []⟩, ⟨11, false, []⟩, ⟨12, false, []⟩, ⟨13, false, []⟩, ⟨14, false, []⟩, ⟨15, true, []⟩])]
theorem ok44 : funcOk Tryz.prog 44 ord44 = true := by kernel_rfl
theorem co44 : callOk Tryz.prog 44 = true := callOk_of ok44
def ord45 : Ord := []
theorem ok45 : funcOk Tryz.prog 45 ord45 = true := by kernel_rfl
theorem co45 : callOk Tryz.prog 45 = true := callOk_of ok45
def ord46 : Ord := []
theorem ok46 : funcOk Tryz.prog 46 ord46 = true := by kernel_rfl
theorem co46 : callOk Tryz.prog 46 = true := callOk_of ok46
def ord47 : Ord := []
theorem ok47 : funcOk Tryz.prog 47 ord47 = true := by kernel_rfl
theorem co47 : callOk Tryz.prog 47 = true := callOk_of ok47
def ord48 : Ord := []
theorem ok48 : funcOk Tryz.prog 48 ord48 = true := by kernel_rfl
theorem co48 : callOk Tryz.prog 48 = true := callOk_of ok48
def ord49 : Ord := []
theorem ok49 : funcOk Tryz.prog 49 ord49 = true := by kernel_rfl
theorem co49 : callOk Tryz.prog 49 = true := callOk_of ok49
def ord50 : Ord := [(1, [⟨0, false, []⟩, ⟨3, false, []⟩, ⟨4, false, []⟩, ⟨6, false, []⟩, ⟨7, false, []⟩, ⟨1, true, [7, 6, 4, 3]⟩, ⟨2, true, [7, 6, 4, 3]⟩, ⟨5, true, [7, 6]⟩, ⟨8, true, []⟩, ⟨9, false, []⟩, ⟨10, false, []⟩, ⟨11, true, []⟩])]
theorem ok50 : funcOk Tryz.prog 50 ord50 = true := by kernel_rfl
theorem co50 : callOk Tryz.prog 50 = true := callOk_of ok50
def ord51 : Ord := []
theorem ok51 : funcOk Tryz.prog 51 ord51 = true := by kernel_rfl
theorem co51 : callOk Tryz.prog 51 = true := callOk_of ok51
def ord52 : Ord := []
theorem ok52 : funcOk Tryz.prog 52 ord52 = true := by kernel_rfl
theorem co52 : callOk Tryz.prog 52 = true := callOk_of ok52
def ord53 : Ord := []
theorem ok53 : funcOk Tryz.prog 53 ord53 = true := by kernel_rfl
theorem co53 : callOk Tryz.prog 53 = true := callOk_of ok53
def ord54 : Ord := []
theorem ok54 : funcOk Tryz.prog 54 ord54 = true := by kernel_rfl
theorem co54 : callOk Tryz.prog 54 = true := callOk_of ok54
def ord55 : Ord := []
theorem ok55 : funcOk Tryz.prog 55 ord55 = true := by kernel_rfl
theorem co55 : callOk Tryz.prog 55 = true := callOk_of ok55
def ord56 : Ord := [(3, [⟨0, false, []⟩, ⟨1, false, []⟩, ⟨2, false, []⟩, ⟨3, false, []⟩, ⟨4, false, []⟩, ⟨5, false, []⟩, ⟨6, false, []⟩, ⟨7, false, []⟩, ⟨8, false, []⟩, ⟨9, false, []⟩, ⟨10, true, []⟩])]
theorem ok56 : funcOk Tryz.prog 56 ord56 = true := by kernel_rfl
theorem co56 : callOk Tryz.prog 56 = true := callOk_of ok56
def ord57 : Ord := []
theorem ok57 : funcOk Tryz.prog 57 ord57 = true := by kernel_rfl
theorem co57 : callOk Tryz.prog 57 = true := callOk_of ok57
def ord58 : Ord := []
theorem ok58 : funcOk Tryz.prog 58 ord58 = true := by kernel_rfl
theorem co58 : callOk Tryz.prog 58 = true := callOk_of ok58
def ord59 : Ord := []
theorem ok59 : funcOk Tryz.prog 59 ord59 = true := by kernel_rfl
theorem co59 : callOk Tryz.prog 59 = true := callOk_of ok59
def ord60 : Ord := []
theorem ok60 : funcOk Tryz.prog 60 ord60 = true := by kernel_rfl
theorem co60 : callOk Tryz.prog 60 = true := callOk_of ok60
def ord61 : Ord := []
theorem ok61 : funcOk Tryz.prog 61 ord61 = true := by kernel_rfl
theorem co61 : callOk Tryz.prog 61 = true := callOk_of ok61
def ord62 : Ord := []
theorem ok62 : funcOk Tryz.prog 62 ord62 = true := by kernel_rfl
theorem co62 : callOk Tryz.prog 62 = true := callOk_of ok62
def ord63 : Ord := []
theorem ok63 : funcOk Tryz.prog 63 ord63 = true := by kernel_rfl
theorem co63 : callOk Tryz.prog 63 = true := callOk_of ok63
def ord64 : Ord := [(4, [⟨0, false, []⟩, ⟨1, false, []⟩, ⟨2, false, []⟩, ⟨3, false, []⟩, ⟨4, false, []⟩, ⟨5, true, []⟩, ⟨6, false, []⟩, ⟨7, true, []⟩]), (6, [⟨0, false, []⟩, ⟨1, false, []⟩, ⟨2, false, []⟩, ⟨3, false, []⟩, ⟨4, false, []⟩, ⟨5, false, []⟩, ⟨6, true, []⟩, ⟨7, false, []⟩]), (8, [⟨0, false, []⟩, ⟨1, false, []⟩, ⟨2, false, []⟩, ⟨3, false, []⟩, ⟨4, false, []⟩, ⟨5, false, []⟩, ⟨6, false, []⟩, ⟨7, false, []⟩, ⟨8, false, []⟩, ⟨9, true, []⟩, ⟨10, false, []⟩, ⟨11, false, []⟩, ⟨12, false, []⟩, ⟨13, true, [12]⟩, ⟨14, true, []⟩]), (12, [⟨0, false, []⟩, ⟨1, false, []⟩, ⟨2, false, []⟩, ⟨3, false, []⟩, ⟨4, true, [0]⟩, ⟨5, true, []⟩, ⟨6, false, []⟩]), (15, [⟨0, false, []⟩, ⟨1, false, []⟩, ⟨2, false, []⟩, ⟨3, false, []⟩, ⟨4, false, []⟩, ⟨5, false, []⟩, ⟨6, false, []⟩, ⟨7, false, []⟩, ⟨8, false, []⟩, ⟨13, false, []⟩, ⟨9, true, [13]⟩, ⟨10, false, []⟩, ⟨11, false, []⟩, ⟨12, false, []⟩, ⟨14, true, [12]⟩, ⟨15, true, []⟩]), (19, [⟨0, false, []⟩, ⟨1, false, []⟩, ⟨2, false, []⟩, ⟨3, false, []⟩, ⟨4, false, []⟩, ⟨5, true, []⟩, ⟨6, true, []⟩]), (23, [⟨0, false, []⟩, ⟨1, false, []⟩, ⟨2, false, []⟩, ⟨3, false, []⟩, ⟨4, false, []⟩, ⟨5, false, []⟩, ⟨6, false, []⟩, ⟨7, false, []⟩, ⟨8, false, []⟩, ⟨9, false, []⟩, ⟨10, false, []⟩, ⟨11, false, []⟩, ⟨12, false, []⟩, ⟨13, true, []⟩, ⟨14, false, []⟩, ⟨15, false, []⟩, ⟨16, false, []⟩, ⟨17, false, []⟩, ⟨18, false, []⟩, ⟨19, true, []⟩, ⟨20, false, []⟩, ⟨21, false, []⟩])]
theorem ok64 : funcOk Tryz.prog 64 ord64 = true := by kernel_rfl
theorem co64 : callOk Tryz.prog 64 = true := callOk_of ok64
def ord65 : Ord := []
theorem ok65 : funcOk Tryz.prog 65 ord65 = true := by kernel_rfl
theorem co65 : callOk Tryz.prog 65 = true := callOk_of ok65
def ord66 : Ord := []
theorem ok66 : funcOk Tryz.prog 66 ord66 = true := by kernel_rfl
theorem co66 : callOk Tryz.prog 66 = true := callOk_of ok66
def ord67 : Ord := [(2, [⟨0, false, []⟩, ⟨1, false, []⟩, ⟨2, false, []⟩, ⟨3, false, []⟩, ⟨4, false, []⟩, ⟨5, false, []⟩, ⟨6, false, []⟩, ⟨7, false, []⟩, ⟨8, true, [5, 4, 2, 1]⟩, ⟨9, false, []⟩, ⟨10, false, []⟩, ⟨11, true, [5, 2]⟩, ⟨12, false, []⟩, ⟨13, false, []⟩, ⟨14, true, []⟩])]
theorem ok67 : funcOk Tryz.prog 67 ord67 = true := by kernel_rfl
theorem co67 : callOk Tryz.prog 67 = true := callOk_of ok67
def ord68 : Ord := []
theorem ok68 : funcOk Tryz.prog 68 ord68 = true := by kernel_rfl
theorem co68 : callOk Tryz.prog 68 = true := callOk_of ok68
def ord69 : Ord := []
theorem ok69 : funcOk Tryz.prog 69 ord69 = true := by kernel_rfl
theorem co69 : callOk Tryz.prog 69 = true := callOk_of ok69
def ord70 : Ord := []
theorem ok70 : funcOk Tryz.prog 70 ord70 = true := by kernel_rfl
theorem co70 : callOk Tryz.prog 70 = true := callOk_of ok70
def ord71 : Ord := []
theorem ok71 : funcOk Tryz.prog 71 ord71 = true := by kernel_rfl
theorem co71 : callOk Tryz.prog 71 = true := callOk_of ok71
def ord72 : Ord := []
theorem ok72 : funcOk Tryz.prog 72 ord72 = true := by kernel_rfl
theorem co72 : callOk Tryz.prog 72 = true := callOk_of ok72
def ord73 : Ord := []
theorem ok73 : funcOk Tryz.prog 73 ord73 = true := by kernel_rfl
theorem co73 : callOk Tryz.prog 73 = true := callOk_of ok73
def ord74 : Ord := []
theorem ok74 : funcOk Tryz.prog 74 ord74 = true := by kernel_rfl
theorem co74 : callOk Tryz.prog 74 = true := callOk_of ok74
def ord75 : Ord := []
theorem ok75 : funcOk Tryz.prog 75 ord75 = true := by kernel_rfl
theorem co75 : callOk Tryz.prog 75 = true := callOk_of ok75
def ord76 : Ord := []
theorem ok76 : funcOk Tryz.prog 76 ord76 = true := by kernel_rfl
theorem co76 : callOk Tryz.prog 76 = true := callOk_of ok76
def ord77 : Ord := []
theorem ok77 : funcOk Tryz.prog 77 ord77 = true := by kernel_rfl
theorem co77 : callOk Tryz.prog 77 = true := callOk_of ok77
def ord78 : Ord := []
theorem ok78 : funcOk Tryz.prog 78 ord78 = true := by kernel_rfl
theorem co78 : callOk Tryz.prog 78 = true := callOk_of ok78
def ord79 : Ord := [(1, [⟨0, false, []⟩, ⟨1, false, []⟩, ⟨2, false, []⟩, ⟨3, false, []⟩, ⟨4, false, []⟩, ⟨5, false, []⟩, ⟨6, false, []⟩, ⟨7, false, []⟩, ⟨8, false, []⟩, ⟨9, false, []⟩, ⟨10, true, []⟩, ⟨11, true, []⟩])]
theorem ok79 : funcOk Tryz.prog 79 ord79 = true := by kernel_rfl
theorem co79 : callOk Tryz.prog 79 = true := callOk_of ok79
def ord80 : Ord := []
theorem ok80 : funcOk Tryz.prog 80 ord80 = true := by kernel_rfl
theorem co80 : callOk Tryz.prog 80 = true := callOk_of ok80
def ord81 : Ord := [(6, [⟨0, false, []⟩, ⟨1, false, []⟩, ⟨2, false, []⟩, ⟨3, false, []⟩, ⟨4, false, []⟩, ⟨5, false, []⟩, ⟨6, false, []⟩, ⟨7, false, []⟩, ⟨8, false, []⟩, ⟨9, false, []⟩, ⟨10, false, []⟩, ⟨11, false, []⟩, ⟨12, false, []⟩, ⟨13, false, []⟩, ⟨14, false, []⟩, ⟨15, false, []⟩, ⟨16, false, []⟩, ⟨17, false, []⟩, ⟨18, false, []⟩, ⟨19, false, []⟩, ⟨20, true, [19, 18, 17, 16, 15, 14, 13, 12, 11, 10, 9, 8, 7, 6, 5, 4]⟩, ⟨21, true, []⟩]), (17, [⟨0, false, []⟩, ⟨1, false, []⟩, ⟨2, false, []⟩, ⟨3, false, []⟩, ⟨4, false, []⟩, ⟨5, true, [2, 1, 0]⟩, ⟨6, false, []⟩, ⟨7, true, []⟩]), (20, [⟨0, false, []⟩, ⟨1, false, []⟩, ⟨2, false, []⟩, ⟨3, false, []⟩, ⟨4, false, []⟩, ⟨5, false, []⟩, ⟨6, false, []⟩, ⟨7, false, []⟩, ⟨8, true, [5, 4, 3, 2, 1, 0]⟩, ⟨9, false, []⟩, ⟨10, true, []⟩])]
theorem ok81 : funcOk Tryz.prog 81 ord81 = true := by kernel_rfl
theorem co81 : callOk Tryz.prog 81 = true := callOk_of ok81
def ord82 : Ord := [(1, [⟨0, false, []⟩, ⟨1, false, []⟩, ⟨2, false, []⟩, ⟨3, false, []⟩, ⟨4, false, []⟩, ⟨5, false, []⟩, ⟨6, true, []⟩, ⟨7, false, []⟩]), (2, [⟨0, false, []⟩, ⟨1, false, []⟩, ⟨2, false, []⟩, ⟨3, false, []⟩, ⟨4, false, []⟩, ⟨5, false, []⟩, ⟨6, false, []⟩, ⟨7, false, []⟩, ⟨8, false, []⟩, ⟨9, false, []⟩, ⟨14, false, []⟩, ⟨10, true, [14]⟩, ⟨11, false, []⟩, ⟨12, false, []⟩, ⟨13, false, []⟩, ⟨15, true, [13]⟩, ⟨16, true, []⟩]), (6, [⟨0, false, []⟩, ⟨1, false, []⟩, ⟨2, false, []⟩, ⟨3, false, []⟩, ⟨4, false, []⟩, ⟨5, false, []⟩, ⟨6, false, []⟩, ⟨7, false, []⟩, ⟨8, false, []⟩, ⟨9, false, []⟩, ⟨10, false, []⟩, ⟨11, false, []⟩, ⟨12, false, []⟩, ⟨13, true, []⟩])]
theorem ok82 : funcOk Tryz.prog 82 ord82 = true := by kernel_rfl
theorem co82 : callOk Tryz.prog 82 = true := callOk_of ok82
def ord83 : Ord := [(3, [⟨0, false, []⟩, ⟨1, false, []⟩, ⟨2, false, []⟩, ⟨3, false, []⟩, ⟨4, false, []⟩, ⟨5, true, []⟩]), (6, [⟨0, false, []⟩, ⟨1, false, []⟩, ⟨2, false, []⟩, ⟨3, false, []⟩, ⟨4, false, []⟩, ⟨5, false, []⟩, ⟨6, false, []⟩, ⟨7, false, []⟩, ⟨8, false, []⟩, ⟨9, true, []⟩])]
theorem ok83 : funcOk Tryz.prog 83 ord83 = true := by kernel_rfl
theorem co83 : callOk Tryz.prog 83 = true := callOk_of ok83
def ord84 : Ord := []
theorem ok84 : funcOk Tryz.prog 84 ord84 = true := by kernel_rfl
theorem co84 : callOk Tryz.prog 84 = true := callOk_of ok84
def ord85 : Ord := [(5, [⟨0, false, []⟩, ⟨1, false, []⟩, ⟨5, false, []⟩, ⟨6, false, []⟩, ⟨10, false, []⟩, ⟨11, false, []⟩, ⟨2, true, [11, 10, 6, 5]⟩, ⟨3, false, []⟩, ⟨4, false, []⟩, ⟨7, true, [4, 3, 11, 10]⟩, ⟨8, false, []⟩, ⟨9, false, []⟩, ⟨12, true, [9, 8, 4, 3]⟩, ⟨13, false, []⟩, ⟨14, true, []⟩])]
theorem ok85 : funcOk Tryz.prog 85 ord85 = true := by kernel_rfl
theorem co85 : callOk Tryz.prog 85 = true := callOk_of ok85
def ord86 : Ord := [(5, [⟨0, false, []⟩, ⟨1, false, []⟩, ⟨2, false, []⟩, ⟨3, false, []⟩, ⟨4, false, []⟩, ⟨5, false, []⟩, ⟨6, false, []⟩, ⟨8, false, []⟩, ⟨7, true, [8, 0]⟩, ⟨9, false, []⟩, ⟨10, false, []⟩, ⟨11, true, []⟩, ⟨12, true, []⟩])]
theorem ok86 : funcOk Tryz.prog 86 ord86 = true := by kernel_rfl
theorem co86 : callOk Tryz.prog 86 = true := callOk_of ok86
def ord87 : Ord := []
theorem ok87 : funcOk Tryz.prog 87 ord87 = true := by kernel_rfl
theorem co87 : callOk Tryz.prog 87 = true := callOk_of ok87
def ord88 : Ord := []
theorem ok88 : funcOk Tryz.prog 88 ord88 = true := by kernel_rfl
theorem co88 : callOk Tryz.prog 88 = true := callOk_of ok88
def ord89 : Ord := []
theorem ok89 : funcOk Tryz.prog 89 ord89 = true := by kernel_rfl
theorem co89 : callOk Tryz.prog 89 = true := callOk_of ok89
def ord90 : Ord := []
theorem ok90 : funcOk Tryz.prog 90 ord90 = true := by kernel_rfl
theorem co90 : callOk Tryz.prog 90 = true := callOk_of ok90
def ord91 : Ord := [(9, [⟨0, false, []⟩, ⟨1, false, []⟩, ⟨2, false, []⟩, ⟨3, false, []⟩, ⟨4, false, []⟩, ⟨5, false, []⟩, ⟨6, false, []⟩, ⟨7, false, []⟩, ⟨9, false, []⟩, ⟨10, false, []⟩, ⟨11, false, []⟩, ⟨8, true, [11, 10, 9]⟩, ⟨12, false, []⟩]), (13, [⟨0, false, []⟩, ⟨1, false, []⟩, ⟨2, false, []⟩, ⟨3, false, []⟩, ⟨4, false, []⟩, ⟨5, false, []⟩, ⟨6, true, []⟩]), (17, [⟨0, false, []⟩, ⟨1, false, []⟩, ⟨2, false, []⟩, ⟨3, false, []⟩, ⟨4, false, []⟩, ⟨5, false, []⟩, ⟨6, false, []⟩, ⟨7, false, []⟩, ⟨8, false, []⟩, ⟨9, true, []⟩]), (20, [⟨0, false, []⟩, ⟨1, false, []⟩, ⟨2, false, []⟩, ⟨3, false, []⟩, ⟨4, false, []⟩, ⟨5, false, []⟩, ⟨6, false, []⟩, ⟨7, false, []⟩, ⟨8, false, []⟩, ⟨9, true, []⟩])]
theorem ok91 : funcOk Tryz.prog 91 ord91 = true := by kernel_rfl
theorem co91 : callOk Tryz.prog 91 = true := callOk_of ok91
def ord92 : Ord := [(6, [⟨0, false, []⟩, ⟨1, false, []⟩, ⟨2, false, []⟩, ⟨3, false, []⟩, ⟨4, false, []⟩, ⟨5, false, []⟩, ⟨6, false, []⟩, ⟨7, false, []⟩, ⟨8, false, []⟩, ⟨9, false, []⟩, ⟨10, false, []⟩, ⟨11, false, []⟩, ⟨12, false, []⟩, ⟨13, false, []⟩, ⟨14, false, []⟩, ⟨15, false, []⟩, ⟨16, false, []⟩, ⟨17, false, []⟩, ⟨18, false, []⟩, ⟨19, true, []⟩]), (8, [⟨0, false, []⟩, ⟨1, false, []⟩, ⟨2, false, []⟩, ⟨3, false, []⟩, ⟨4, false, []⟩, ⟨5, false, []⟩, ⟨6, false, []⟩, ⟨7, false, []⟩, ⟨8, false, []⟩, ⟨9, false, []⟩, ⟨10, false, []⟩, ⟨11, true, []⟩]), (10, [⟨0, false, []⟩, ⟨1, false, []⟩, ⟨2, false, []⟩, ⟨3, false, []⟩, ⟨4, false, []⟩, ⟨5, false, []⟩, ⟨6, false, []⟩, ⟨7, false, []⟩, ⟨8, false, []⟩, ⟨9, false, []⟩, ⟨10, false, []⟩, ⟨11, false, []⟩, ⟨12, false, []⟩, ⟨13, false, []⟩, ⟨14, false, []⟩, ⟨15, true, []⟩]), (12, [⟨0, false, []⟩, ⟨1, false, []⟩, ⟨2, false, []⟩, ⟨3, false, []⟩, ⟨4, false, []⟩, ⟨5, false, []⟩, ⟨6, false, []⟩, ⟨7, false, []⟩, ⟨8, false, []⟩, ⟨9, true, [5, 4, 3, 2, 1, 0]⟩, ⟨10, false, []⟩, ⟨11, true, []⟩]), (14, [⟨0, false, []⟩, ⟨1, false, []⟩, ⟨2, false, []⟩, ⟨3, false, []⟩, ⟨4, false, []⟩, ⟨5, false, []⟩, ⟨6, false, []⟩, ⟨7, false, []⟩, ⟨8, false, []⟩, ⟨9, false, []⟩, ⟨10, false, []⟩, ⟨11, true, []⟩, ⟨12, true, []⟩, ⟨13, true, []⟩]), (16, [⟨0, false, []⟩, ⟨1, false, []⟩, ⟨2, false, []⟩, ⟨3, false, []⟩, ⟨4, false, []⟩, ⟨5, false, []⟩, ⟨6, false, []⟩, ⟨7, false, []⟩, ⟨8, false, []⟩, ⟨9, true, []⟩, ⟨10, true, []⟩, ⟨11, true, []⟩])]
theorem ok92 : funcOk Tryz.prog 92 ord92 = true := by kernel_rfl
theorem co92 : callOk Tryz.prog 92 = true := callOk_of ok92
def ord93 : Ord := [(5, [⟨0, false, []⟩, ⟨1, false, []⟩, ⟨2, false, []⟩, ⟨3, false, []⟩, ⟨4, false, []⟩, ⟨5, false, []⟩, ⟨6, false, []⟩, ⟨7, false, []⟩, ⟨8, false, []⟩, ⟨9, false, []⟩, ⟨10, false, []⟩, ⟨11, false, []⟩, ⟨12, false, []⟩, ⟨13, false, []⟩, ⟨14, false, []⟩, ⟨15, false, []⟩, ⟨16, false, []⟩, ⟨17, false, []⟩, ⟨18, false, []⟩, ⟨19, false, []⟩, ⟨20, false, []⟩, ⟨21, false, []⟩, ⟨22, false, []⟩, ⟨23, false, []⟩, ⟨24, false, []⟩, ⟨25, false, []⟩, ⟨26, false, []⟩, ⟨27, false, []⟩, ⟨28, false, []⟩, ⟨29, false, []⟩, ⟨30, false, []⟩, ⟨31, false, []⟩, ⟨32, false, []⟩, ⟨33, true, []⟩, ⟨34, true, []⟩, ⟨35, true, []⟩]), (7, [⟨0, false, []⟩, ⟨1, false, []⟩, ⟨2, false, []⟩, ⟨3, false, []⟩, ⟨4, false, []⟩, ⟨5, false, []⟩, ⟨6, false, []⟩, ⟨7, false, []⟩, ⟨8, false, []⟩, ⟨9, false, []⟩, ⟨10, false, []⟩, ⟨11, false, []⟩, ⟨12, false, []⟩, ⟨13, false, []⟩, ⟨14, false, []⟩, ⟨15, false, []⟩, ⟨16, true, []⟩, ⟨17, true, []⟩, ⟨18, true, []⟩]), (9, [⟨0, false, []⟩, ⟨1, false, []⟩, ⟨2, false, []⟩, ⟨3, false, []⟩, ⟨4, false, []⟩, ⟨5, false, []⟩, ⟨6, false, []⟩, ⟨7, false, []⟩, ⟨8, false, []⟩, ⟨9, false, []⟩, ⟨10, false, []⟩, ⟨11, false, []⟩, ⟨12, false, []⟩, ⟨13, false, []⟩, ⟨14, false, []⟩, ⟨15, false, []⟩, ⟨16, false, []⟩, ⟨17, false, []⟩, ⟨18, true, []⟩, ⟨19, true, []⟩, ⟨20, true, []⟩]), (11, [⟨0, false, []⟩, ⟨1, false, []⟩, ⟨2, false, []⟩, ⟨3, false, []⟩, ⟨4, false, []⟩, ⟨5, false, []⟩, ⟨6, false, []⟩, ⟨7, false, []⟩, ⟨8, false, []⟩, ⟨9, false, []⟩, ⟨10, false, []⟩, ⟨11, true, []⟩, ⟨12, true, []⟩, ⟨13, true, []⟩]), (13, [⟨0, false, []⟩, ⟨1, false, []⟩, ⟨2, false, []⟩, ⟨3, false, []⟩, ⟨4, false, []⟩, ⟨5, false, []⟩, ⟨6, false, []⟩, ⟨7, false, []⟩, ⟨8, false, []⟩, ⟨9, false, []⟩, ⟨10, false, []⟩, ⟨11, false, []⟩, ⟨12, false, []⟩, ⟨13, true, []⟩, ⟨14, true, []⟩, ⟨15, true, []⟩]), (16, [⟨0, false, []⟩, ⟨2, false, []⟩, ⟨3, false, []⟩, ⟨4, false, []⟩, ⟨5, false, []⟩, ⟨6, false, []⟩, ⟨7, false, []⟩, ⟨8, false, []⟩, ⟨9, false, []⟩, ⟨10, false, []⟩, ⟨11, false, []⟩, ⟨12, false, []⟩, ⟨13, false, []⟩, ⟨14, false, []⟩, ⟨1, true, [14, 13, 12, 11, 10, 9, 8, 7, 6, 5, 4, 3, 2]⟩, ⟨15, true, []⟩])]
theorem ok93 : funcOk Tryz.prog 93 ord93 = true := by kernel_rfl
theorem co93 : callOk Tryz.prog 93 = true := callOk_of ok93
def ord94 : Ord := [(8, [⟨0, false, []⟩, ⟨1, false, []⟩, ⟨2, false, []⟩, ⟨3, false, []⟩, ⟨4, false, []⟩, ⟨5, false, []⟩, ⟨6, false, []⟩, ⟨7, false, []⟩, ⟨8, false, []⟩, ⟨9, false, []⟩, ⟨10, false, []⟩, ⟨11, false, []⟩, ⟨12, false, []⟩, ⟨13, false, []⟩, ⟨14, false, []⟩, ⟨15, false, []⟩, ⟨16, false, []⟩, ⟨17, false, []⟩, ⟨18, false, []⟩, ⟨19, false, []⟩, ⟨20, false, []⟩, ⟨21, false, []⟩, ⟨22, false, []⟩, ⟨23, false, []⟩, ⟨24, false, []⟩, ⟨25, false, []⟩, ⟨26, false, []⟩, ⟨27, false, []⟩, ⟨28, true, []⟩, ⟨29, false, []⟩, ⟨30, false, []⟩, ⟨31, false, []⟩, ⟨32, true, [31]⟩, ⟨33, true, []⟩]), (10, [⟨0, false, []⟩, ⟨1, false, []⟩, ⟨2, false, []⟩, ⟨3, false, []⟩, ⟨4, false, []⟩, ⟨5, false, []⟩, ⟨6, false, []⟩, ⟨7, false, []⟩, ⟨8, false, []⟩, ⟨9, false, []⟩, ⟨10, false, []⟩, ⟨11, true, []⟩, ⟨12, false, []⟩, ⟨13, false, []⟩, ⟨14, false, []⟩, ⟨15, true, [14]⟩, ⟨16, true, []⟩]), (12, [⟨0, false, []⟩, ⟨1, false, []⟩, ⟨2, false, []⟩, ⟨3, false, []⟩, ⟨4, false, []⟩, ⟨5, false, []⟩, ⟨6, false, []⟩, ⟨7, false, []⟩, ⟨8, true, []⟩, ⟨9, false, []⟩, ⟨10, false, []⟩, ⟨11, false, []⟩, ⟨12, true, [11]⟩, ⟨13, true, []⟩]), (14, [⟨0, false, []⟩, ⟨1, false, []⟩, ⟨2, false, []⟩, ⟨3, false, []⟩, ⟨4, false, []⟩, ⟨5, false, []⟩, ⟨6, false, []⟩, ⟨7, false, []⟩, ⟨8, false, []⟩, ⟨9, false, []⟩, ⟨10, false, []⟩, ⟨11, false, []⟩, ⟨12, false, []⟩, ⟨13, true, []⟩, ⟨14, false, []⟩, ⟨15, false, []⟩, ⟨16, false, []⟩, ⟨17, true, [16]⟩, ⟨18, true, []⟩]), (16, [⟨0, false, []⟩, ⟨1, false, []⟩, ⟨2, false, []⟩, ⟨3, false, []⟩, ⟨4, false, []⟩, ⟨5, false, []⟩, ⟨6, true, [2, 1, 0]⟩, ⟨7, true, []⟩, ⟨8, false, []⟩, ⟨9, false, []⟩, ⟨10, false, []⟩, ⟨11, true, [10]⟩, ⟨12, true, []⟩]), (18, [⟨0, false, []⟩, ⟨1, false, []⟩, ⟨2, false, []⟩, ⟨3, false, []⟩, ⟨4, false, []⟩, ⟨5, false, []⟩, ⟨6, false, []⟩, ⟨7, false, []⟩, ⟨8, true, []⟩, ⟨9, true, []⟩, ⟨10, true, []⟩])]
theorem ok94 : funcOk Tryz.prog 94 ord94 = true := by kernel_rfl
theorem co94 : callOk Tryz.prog 94 = true := callOk_of ok94
def ord95 : Ord := [(4, [⟨0, false, []⟩, ⟨1, false, []⟩, ⟨2, false, []⟩, ⟨3, false, []⟩, ⟨4, false, []⟩, ⟨5, false, []⟩, ⟨6, false, []⟩, ⟨7, false, []⟩, ⟨8, false, []⟩, ⟨9, false, []⟩, ⟨10, true, []⟩, ⟨11, true, []⟩])]
theorem ok95 : funcOk Tryz.prog 95 ord95 = true := by kernel_rfl
theorem co95 : callOk Tryz.prog 95 = true := callOk_of ok95
def ord96 : Ord := []
theorem ok96 : funcOk Tryz.prog 96 ord96 = true := by kernel_rfl
theorem co96 : callOk Tryz.prog 96 = true := callOk_of ok96
def ord97 : Ord := []
theorem ok97 : funcOk Tryz.prog 97 ord97 = true := by kernel_rfl
theorem co97 : callOk Tryz.prog 97 = true := callOk_of ok97
def ord98 : Ord := []
theorem ok98 : funcOk Tryz.prog 98 ord98 = true := by kernel_rfl
theorem co98 : callOk Tryz.prog 98 = true := callOk_of ok98
def ord99 : Ord := []
theorem ok99 : funcOk Tryz.prog 99 ord99 = true := by kernel_rfl
theorem co99 : callOk Tryz.prog 99 = true := callOk_of ok99
def ord100 : Ord := []
theorem ok100 : funcOk Tryz.prog 100 ord100 = true := by kernel_rfl
theorem co100 : callOk Tryz.prog 100 = true := callOk_of ok100
def ord101 : Ord := []
theorem ok101 : funcOk Tryz.prog 101 ord101 = true := by kernel_rfl
theorem co101 : callOk Tryz.prog 101 = true := callOk_of ok101
def ord102 : Ord := []
theorem ok102 : funcOk Tryz.prog 102 ord102 = true := by kernel_rfl
theorem co102 : callOk Tryz.prog 102 = true := callOk_of ok102
def ord103 : Ord := []
theorem ok103 : funcOk Tryz.prog 103 ord103 = true := by kernel_rfl
theorem co103 : callOk Tryz.prog 103 = true := callOk_of ok103
def ord104 : Ord := []
theorem ok104 : funcOk Tryz.prog 104 ord104 = true := by kernel_rfl
theorem co104 : callOk Tryz.prog 104 = true := callOk_of ok104
def ord105 : Ord := []
theorem ok105 : funcOk Tryz.prog 105 ord105 = true := by kernel_rfl
theorem co105 : callOk Tryz.prog 105 = true := callOk_of ok105
def ord106 : Ord := [(1, [⟨0, false, []⟩, ⟨1, false, []⟩, ⟨2, false, []⟩, ⟨3, false, []⟩, ⟨4, false, []⟩, ⟨5, false, []⟩, ⟨6, false, []⟩, ⟨7, false, []⟩, ⟨8, false, []⟩, ⟨9, false, []⟩, ⟨10, false, []⟩, ⟨11, false, []⟩, ⟨12, false, []⟩, ⟨13, false, []⟩, ⟨14, true, []⟩, ⟨15, true, []⟩])]
theorem ok106 : funcOk Tryz.prog 106 ord106 = true := by kernel_rfl
theorem co106 : callOk Tryz.prog 106 = true := callOk_of ok106
def ord107 : Ord := [(11, [⟨0, false, []⟩, ⟨1, false, []⟩, ⟨2, false, []⟩, ⟨3, false, []⟩, ⟨4, false, []⟩, ⟨5, false, []⟩, ⟨6, false, []⟩, ⟨7, true, []⟩, ⟨8, true, []⟩]), (12, [⟨0, false, []⟩, ⟨1, false, []⟩, ⟨2, false, []⟩, ⟨3, false, []⟩, ⟨4, false, []⟩, ⟨5, false, []⟩, ⟨6, false, []⟩, ⟨7, true, []⟩])]
theorem ok107 : funcOk Tryz.prog 107 ord107 = true := by kernel_rfl
theorem co107 : callOk Tryz.prog 107 = true := callOk_of ok107
def ord108 : Ord := []
theorem ok108 : funcOk Tryz.prog 108 ord108 = true := by kernel_rfl
theorem co108 : callOk Tryz.prog 108 = true := callOk_of ok108
def ord109 : Ord := []
theorem ok109 : funcOk Tryz.prog 109 ord109 = true := by kernel_rfl
theorem co109 : callOk Tryz.prog 109 = true := callOk_of ok109
def ord110 : Ord := []
theorem ok110 : funcOk Tryz.prog 110 ord110 = true := by kernel_rfl
theorem co110 : callOk Tryz.prog 110 = true := callOk_of ok110
def ord111 : Ord := []
theorem ok111 : funcOk Tryz.prog 111 ord111 = true := by kernel_rfl
theorem co111 : callOk Tryz.prog 111 = true := callOk_of ok111
def ord112 : Ord := []
theorem ok112 : funcOk Tryz.prog 112 ord112 = true := by kernel_rfl
theorem co112 : callOk Tryz.prog 112 = true := callOk_of ok112
def ord113 : Ord := []
theorem ok113 : funcOk Tryz.prog 113 ord113 = true := by kernel_rfl
theorem co113 : callOk Tryz.prog 113 = true := callOk_of ok113
def ord114 : Ord := []
theorem ok114 : funcOk Tryz.prog 114 ord114 = true := by kernel_rfl
theorem co114 : callOk Tryz.prog 114 = true := callOk_of ok114
def ord115 : Ord := []
theorem ok115 : funcOk Tryz.prog 115 ord115 = true := by kernel_rfl
theorem co115 : callOk Tryz.prog 115 = true := callOk_of ok115
def ord116 : Ord := []
theorem ok116 : funcOk Tryz.prog 116 ord116 = true := by kernel_rfl
theorem co116 : callOk Tryz.prog 116 = true := callOk_of ok116
def ord117 : Ord := []
theorem ok117 : funcOk Tryz.prog 117 ord117 = true := by kernel_rfl
theorem co117 : callOk Tryz.prog 117 = true := callOk_of ok117
def ord118 : Ord := [(10, [⟨0, false, []⟩, ⟨1, false, []⟩, ⟨2, false, []⟩, ⟨3, false, []⟩, ⟨4, false, []⟩, ⟨5, true, [2, 1, 0]⟩, ⟨6, false, []⟩, ⟨7, false, []⟩, ⟨8, true, []⟩, ⟨9, false, []⟩, ⟨10, true, []⟩])]
theorem ok118 : funcOk Tryz.prog 118 ord118 = true := by kernel_rfl
theorem co118 : callOk Tryz.prog 118 = true := callOk_of ok118
def ord119 : Ord := [(3, [⟨0, false, []⟩, ⟨1, false, []⟩, ⟨2, false, []⟩, ⟨3, false, []⟩, ⟨4, false, []⟩, ⟨5, false, []⟩, ⟨6, false, []⟩, ⟨7, true, []⟩]), (4, [⟨0, false, []⟩, ⟨1, false, []⟩, ⟨2, false, []⟩, ⟨3, false, []⟩, ⟨4, false, []⟩, ⟨5, true, []⟩, ⟨6, false, []⟩, ⟨7, false, []⟩, ⟨8, false, []⟩, ⟨9, true, [8]⟩, ⟨10, true, []⟩])]
theorem ok119 : funcOk Tryz.prog 119 ord119 = true := by kernel_rfl
theorem co119 : callOk Tryz.prog 119 = true := callOk_of ok119
def ord120 : Ord := []
theorem ok120 : funcOk Tryz.prog 120 ord120 = true := by kernel_rfl
theorem co120 : callOk Tryz.prog 120 = true := callOk_of ok120
def ord121 : Ord := []
theorem ok121 : funcOk Tryz.prog 121 ord121 = true := by kernel_rfl
theorem co121 : callOk Tryz.prog 121 = true := callOk_of ok121
def ord122 : Ord := []
theorem ok122 : funcOk Tryz.prog 122 ord122 = true := by kernel_rfl
theorem co122 : callOk Tryz.prog 122 = true := callOk_of ok122
def ord123 : Ord := []
theorem ok123 : funcOk Tryz.prog 123 ord123 = true := by kernel_rfl
theorem co123 : callOk Tryz.prog 123 = true := callOk_of ok123
def ord124 : Ord := []
theorem ok124 : funcOk Tryz.prog 124 ord124 = true := by kernel_rfl
theorem co124 : callOk Tryz.prog 124 = true := callOk_of ok124
def ord125 : Ord := []
theorem ok125 : funcOk Tryz.prog 125 ord125 = true := by kernel_rfl
theorem co125 : callOk Tryz.prog 125 = true := callOk_of ok125
def ord126 : Ord := []
theorem ok126 : funcOk Tryz.prog 126 ord126 = true := by kernel_rfl
theorem co126 : callOk Tryz.prog 126 = true := callOk_of ok126
def ord127 : Ord := []
theorem ok127 : funcOk Tryz.prog 127 ord127 = true := by kernel_rfl
theorem co127 : callOk Tryz.prog 127 = true := callOk_of ok127
def ord128 : Ord := []
theorem ok128 : funcOk Tryz.prog 128 ord128 = true := by kernel_rfl
theorem co128 : callOk Tryz.prog 128 = true := callOk_of ok128
def ord129 : Ord := [(1, [⟨0, false, []⟩, ⟨1, false, []⟩, ⟨2, false, []⟩, ⟨3, false, []⟩, ⟨4, false, []⟩, ⟨5, false, []⟩, ⟨6, false, []⟩, ⟨7, false, []⟩, ⟨8, false, []⟩, ⟨9, true, []⟩, ⟨10, true, []⟩])]
theorem ok129 : funcOk Tryz.prog 129 ord129 = true := by kernel_rfl
theorem co129 : callOk Tryz.prog 129 = true := callOk_of ok129
def ord130 : Ord := [(12, [⟨0, false, []⟩, ⟨1, false, []⟩, ⟨2, false, []⟩, ⟨3, false, []⟩, ⟨4, false, []⟩, ⟨5, false, []⟩, ⟨6, false, []⟩, ⟨7, false, []⟩, ⟨8, false, []⟩, ⟨9, true, []⟩, ⟨10, true, []⟩])]
theorem ok130 : funcOk Tryz.prog 130 ord130 = true := by kernel_rfl
theorem co130 : callOk Tryz.prog 130 = true := callOk_of ok130
def ord131 : Ord := []
theorem ok131 : funcOk Tryz.prog 131 ord131 = true := by kernel_rfl
theorem co131 : callOk Tryz.prog 131 = true := callOk_of ok131
def ord132 : Ord := []
theorem ok132 : funcOk Tryz.prog 132 ord132 = true := by kernel_rfl
theorem co132 : callOk Tryz.prog 132 = true := callOk_of ok132
theorem no133 : callOk Tryz.prog 133 = false := by kernel_rfl
theorem no134 : callOk Tryz.prog 134 = false := by kernel_rfl
def ord135 : Ord := [(1, [⟨0, false, []⟩, ⟨1, false, []⟩, ⟨2, false, []⟩, ⟨3, false, []⟩, ⟨4, false, []⟩, ⟨5, false, []⟩, ⟨6, true, []⟩])]
theorem ok135 : funcOk Tryz.prog 135 ord135 = true := by kernel_rfl
theorem co135 : callOk Tryz.prog 135 = true := callOk_of ok135
def ord136 : Ord := []
theorem ok136 : funcOk Tryz.prog 136 ord136 = true := by kernel_rfl
theorem co136 : callOk Tryz.prog 136 = true := callOk_of ok136
theorem no137 : callOk Tryz.prog 137 = false := by kernel_rfl
def ord138 : Ord := []
theorem ok138 : funcOk Tryz.prog 138 ord138 = true := by kernel_rfl
theorem co138 : callOk Tryz.prog 138 = true := callOk_of ok138
def ord139 : Ord := []
theorem ok139 : funcOk Tryz.prog 139 ord139 = true := by kernel_rfl
theorem co139 : callOk Tryz.prog 139 = true := callOk_of ok139
def ord140 : Ord := []
theorem ok140 : funcOk Tryz.prog 140 ord140 = true := by kernel_rfl
theorem co140 : callOk Tryz.prog 140 = true := callOk_of ok140
def ord141 : Ord := []
theorem ok141 : funcOk Tryz.prog 141 ord141 = true := by kernel_rfl
theorem co141 : callOk Tryz.prog 141 = true := callOk_of ok141
def ord142 : Ord := [(1, [⟨0, false, []⟩, ⟨1, false, []⟩, ⟨2, false, []⟩, ⟨3, false, []⟩, ⟨4, false, []⟩, ⟨5, false, []⟩, ⟨6, false, []⟩, ⟨7, false, []⟩, ⟨8, false, []⟩, ⟨9, false, []⟩, ⟨10, false, []⟩, ⟨11, false, []⟩, ⟨12, false, []⟩, ⟨13, false, []⟩, ⟨14, false, []⟩, ⟨15, false, []⟩, ⟨16, false, []⟩, ⟨17, false, []⟩, ⟨18, false, []⟩, ⟨19, false, []⟩, ⟨20, false, []⟩, ⟨21, false, []⟩, ⟨22, false, []⟩, ⟨23, false, []⟩, ⟨24, false, []⟩, ⟨25, false, []⟩, ⟨26, false, []⟩, ⟨27, false, []⟩, ⟨28, false, []⟩, ⟨29, false, []⟩, ⟨30, false, []⟩, ⟨31, false, []⟩, ⟨32, false, []⟩, ⟨33, false, []⟩, ⟨34, false, []⟩, ⟨35, false, []⟩, ⟨36, false, []⟩, ⟨37, false, []⟩, ⟨38, false, []⟩, ⟨39, false, []⟩, ⟨40, false, []⟩, ⟨41, false, []⟩, ⟨42, false, []⟩]), (3, [⟨0, false, []⟩, ⟨1, false, []⟩, ⟨2, false, []⟩, ⟨3, false, []⟩, ⟨4, false, []⟩, ⟨5, false, []⟩, ⟨6, false, []⟩, ⟨7, false, []⟩, ⟨8, false, []⟩, ⟨9, false, []⟩, ⟨10, false, []⟩, ⟨11, false, []⟩, ⟨12, false, []⟩, ⟨13, false, []⟩, ⟨14, false, []⟩, ⟨15, false, []⟩, ⟨16, true, []⟩]), (8, [⟨0, false, []⟩, ⟨1, false, []⟩, ⟨2, false, []⟩, ⟨3, false, []⟩, ⟨4, false, []⟩, ⟨5, false, []⟩, ⟨6, false, []⟩, ⟨7, false, []⟩, ⟨8, false, []⟩, ⟨9, false, []⟩, ⟨10, false, []⟩, ⟨11, false, []⟩, ⟨12, false, []⟩]), (18, [⟨0, false, []⟩, ⟨1, false, []⟩, ⟨2, false, []⟩, ⟨3, false, []⟩, ⟨4, false, []⟩, ⟨5, false, []⟩, ⟨6, false, []⟩, ⟨7, false, []⟩, ⟨8, false, []⟩, ⟨9, false, []⟩, ⟨10, false, []⟩, ⟨11, false, []⟩, ⟨12, false, []⟩, ⟨13, false, []⟩, ⟨14, false, []⟩, ⟨15, false, []⟩, ⟨16, false, []⟩, ⟨17, false, []⟩, ⟨18, true, [17, 16, 15, 14]⟩, ⟨19, true, []⟩])]
theorem ok142 : funcOk Tryz.prog 142 ord142 = true := by kernel_rfl
theorem co142 : callOk Tryz.prog 142 = true := callOk_of ok142
def ord143 : Ord := [(7, [⟨0, false, []⟩, ⟨1, false, []⟩, ⟨2, false, []⟩, ⟨4, false, []⟩, ⟨5, false, []⟩, ⟨6, false, []⟩, ⟨3, true, [6, 5, 4]⟩, ⟨7, false, []⟩, ⟨8, true, []⟩])]
theorem ok143 : funcOk Tryz.prog 143 ord143 = true := by kernel_rfl
theorem co143 : callOk Tryz.prog 143 = true := callOk_of ok143
def ord144 : Ord := [(3, [⟨0, false, []⟩, ⟨1, false, []⟩, ⟨2, false, []⟩, ⟨3, false, []⟩, ⟨4, true, [0]⟩, ⟨5, true, []⟩, ⟨6, true, []⟩, ⟨7, true, []⟩]), (5, [⟨0, false, []⟩, ⟨1, false, []⟩, ⟨2, false, []⟩, ⟨3, false, []⟩, ⟨4, false, []⟩, ⟨5, false, []⟩, ⟨6, false, []⟩, ⟨7, false, []⟩, ⟨8, false, []⟩, ⟨9, false, []⟩, ⟨10, true, []⟩]), (8, [⟨0, false, []⟩, ⟨1, false, []⟩, ⟨2, false, []⟩, ⟨3, false, []⟩, ⟨4, false, []⟩, ⟨5, false, []⟩, ⟨6, false, []⟩, ⟨7, true, [0]⟩, ⟨8, true, []⟩, ⟨9, true, []⟩, ⟨10, true, []⟩]), (10, [⟨0, false, []⟩, ⟨1, false, []⟩, ⟨2, false, []⟩, ⟨3, false, []⟩, ⟨4, false, []⟩, ⟨5, false, []⟩, ⟨6, false, []⟩, ⟨7, false, []⟩, ⟨8, false, []⟩, ⟨9, false, []⟩, ⟨10, false, []⟩, ⟨11, false, []⟩, ⟨12, false, []⟩, ⟨13, false, []⟩, ⟨14, false, []⟩, ⟨15, false, []⟩, ⟨16, false, []⟩, ⟨17, false, []⟩, ⟨18, false, []⟩, ⟨19, false, []⟩, ⟨20, false, []⟩, ⟨21, false, []⟩, ⟨22, true, [2, 1, 0]⟩, ⟨23, true, []⟩, ⟨24, true, []⟩, ⟨25, true, []⟩]), (12, [⟨0, false, []⟩, ⟨1, false, []⟩, ⟨2, false, []⟩, ⟨3, false, []⟩, ⟨4, false, []⟩, ⟨5, false, []⟩, ⟨6, false, []⟩, ⟨7, false, []⟩, ⟨8, false, []⟩, ⟨9, false, []⟩, ⟨10, false, []⟩, ⟨11, false, []⟩, ⟨12, false, []⟩, ⟨13, false, []⟩, ⟨14, false, []⟩, ⟨15, false, []⟩, ⟨16, false, []⟩, ⟨17, false, []⟩, ⟨18, false, []⟩, ⟨19, false, []⟩, ⟨20, true, [0]⟩, ⟨21, true, []⟩, ⟨22, true, []⟩, ⟨23, true, []⟩]), (14, [⟨0, false, []⟩, ⟨1, false, []⟩, ⟨2, false, []⟩, ⟨3, false, []⟩, ⟨4, false, []⟩, ⟨5, false, []⟩, ⟨6, false, []⟩, ⟨7, false, []⟩, ⟨8, false, []⟩, ⟨9, false, []⟩, ⟨10, false, []⟩, ⟨11, true, [0]⟩, ⟨12, true, []⟩, ⟨13, true, []⟩, ⟨14, true, []⟩]), (16, [⟨0, false, []⟩, ⟨1, false, []⟩, ⟨2, false, []⟩, ⟨3, false, []⟩, ⟨4, false, []⟩, ⟨5, false, []⟩, ⟨6, false, []⟩, ⟨7, false, []⟩, ⟨8, false, []⟩, ⟨9, false, []⟩, ⟨10, false, []⟩, ⟨11, true, [0]⟩, ⟨12, true, []⟩, ⟨13, true, []⟩, ⟨14, true, []⟩]), (18, [⟨0, false, []⟩, ⟨1, false, []⟩, ⟨2, false, []⟩, ⟨3, false, []⟩, ⟨4, false, []⟩, ⟨5, false, []⟩, ⟨6, false, []⟩, ⟨7, false, []⟩, ⟨8, true, [0]⟩, ⟨9, true, []⟩, ⟨10, true, []⟩, ⟨11, true, []⟩]), (20, [⟨0, false, []⟩, ⟨1, false, []⟩, ⟨2, false, []⟩, ⟨3, false, []⟩, ⟨4, false, []⟩, ⟨5, true, [0]⟩, ⟨6, true, []⟩, ⟨7, true, []⟩, ⟨8, true, []⟩]), (28, [⟨0, false, []⟩, ⟨1, false, []⟩, ⟨2, false, []⟩, ⟨3, false, []⟩, ⟨4, false, []⟩, ⟨5, false, []⟩, ⟨6, false, []⟩, ⟨7, false, []⟩, ⟨8, false, []⟩, ⟨9, false, []⟩, ⟨10, false, []⟩, ⟨11, false, []⟩, ⟨12, false, []⟩, ⟨13, false, []⟩, ⟨14, false, []⟩, ⟨15, false, []⟩, ⟨16, true, []⟩, ⟨17, false, []⟩, ⟨18, false, []⟩, ⟨19, false, []⟩, ⟨20, true, [19]⟩, ⟨21, true, []⟩]), (30, [⟨0, false, []⟩, ⟨1, false, []⟩, ⟨2, false, []⟩, ⟨3, false, []⟩, ⟨4, false, []⟩, ⟨5, false, []⟩, ⟨6, false, []⟩, ⟨7, true, []⟩, ⟨8, false, []⟩, ⟨9, false, []⟩, ⟨10, false, []⟩, ⟨11, true, [10]⟩, ⟨12, true, []⟩]), (32, [⟨0, false, []⟩, ⟨1, false, []⟩, ⟨2, false, []⟩, ⟨3, false, []⟩, ⟨4, false, []⟩, ⟨5, false, []⟩, ⟨6, true, []⟩, ⟨7, false, []⟩, ⟨8, false, []⟩, ⟨9, false, []⟩, ⟨10, true, [9]⟩, ⟨11, true, []⟩]), (34, [⟨0, false, []⟩, ⟨1, false, []⟩, ⟨2, false, []⟩, ⟨3, false, []⟩, ⟨4, false, []⟩, ⟨5, false, []⟩, ⟨6, false, []⟩, ⟨7, false, []⟩, ⟨8, false, []⟩, ⟨9, true, []⟩, ⟨10, false, []⟩, ⟨11, false, []⟩, ⟨12, false, []⟩, ⟨13, true, [12]⟩, ⟨14, true, []⟩])]
theorem ok144 : funcOk Tryz.prog 144 ord144 = true := by kernel_rfl
theorem co144 : callOk Tryz.prog 144 = true := callOk_of ok144
def ord145 : Ord := [(2, [⟨0, false, []⟩, ⟨1, false, []⟩, ⟨2, false, []⟩, ⟨3, false, []⟩, ⟨4, false, []⟩, ⟨5, false, []⟩, ⟨6, false, []⟩, ⟨7, false, []⟩, ⟨8, false, []⟩, ⟨9, false, []⟩, ⟨10, true, [0]⟩, ⟨11, false, []⟩, ⟨12, false, []⟩, ⟨13, true, []⟩])]
theorem ok145 : funcOk Tryz.prog 145 ord145 = true := by kernel_rfl
theorem co145 : callOk Tryz.prog 145 = true := callOk_of ok145
def ord146 : Ord := [(4, [⟨0, false, []⟩, ⟨1, false, []⟩, ⟨2, false, []⟩, ⟨3, false, []⟩, ⟨4, false, []⟩, ⟨5, false, []⟩, ⟨6, false, []⟩, ⟨7, false, []⟩, ⟨8, false, []⟩, ⟨9, true, []⟩]), (5, [⟨0, false, []⟩, ⟨1, false, []⟩, ⟨2, false, []⟩, ⟨3, false, []⟩, ⟨4, false, []⟩, ⟨5, false, []⟩, ⟨6, false, []⟩, ⟨7, false, []⟩, ⟨8, false, []⟩, ⟨9, false, []⟩, ⟨10, true, []⟩])]
theorem ok146 : funcOk Tryz.prog 146 ord146 = true := by kernel_rfl
theorem co146 : callOk Tryz.prog 146 = true := callOk_of ok146
def ord147 : Ord := []
theorem ok147 : funcOk Tryz.prog 147 ord147 = true := by kernel_rfl
theorem co147 : callOk Tryz.prog 147 = true := callOk_of ok147
def ord148 : Ord := [(2, [⟨0, false, []⟩, ⟨1, false, []⟩, ⟨2, false, []⟩, ⟨3, false, []⟩, ⟨4, false, []⟩, ⟨5, false, []⟩, ⟨6, false, []⟩, ⟨7, false, []⟩, ⟨8, false, []⟩, ⟨9, true, []⟩]), (3, [⟨0, false, []⟩, ⟨1, false, []⟩, ⟨2, false, []⟩, ⟨3, false, []⟩, ⟨4, false, []⟩, ⟨6, false, []⟩, ⟨7, false, []⟩, ⟨9, false, []⟩, ⟨10, false, []⟩, ⟨5, true, [10, 9, 7, 6]⟩, ⟨8, true, [10, 9]⟩, ⟨11, false, []⟩, ⟨12, false, []⟩, ⟨13, true, []⟩]), (4, [⟨0, false, []⟩, ⟨1, false, []⟩, ⟨2, false, []⟩, ⟨3, false, []⟩, ⟨4, false, []⟩, ⟨5, false, []⟩, ⟨6, false, []⟩, ⟨7, false, []⟩, ⟨8, false, []⟩, ⟨9, true, []⟩]), (7, [⟨0, false, []⟩, ⟨2, false, []⟩, ⟨3, false, []⟩, ⟨5, false, []⟩, ⟨1, true, [5, 3, 2]⟩, ⟨4, true, [5]⟩, ⟨6, true, []⟩]), (17, [⟨0, false, []⟩, ⟨1, false, []⟩, ⟨2, false, []⟩, ⟨3, false, []⟩, ⟨4, false, []⟩, ⟨5, false, []⟩, ⟨6, false, []⟩, ⟨7, false, []⟩, ⟨8, true, []⟩])]
theorem ok148 : funcOk Tryz.prog 148 ord148 = true := by kernel_rfl
theorem co148 : callOk Tryz.prog 148 = true := callOk_of ok148
def ord149 : Ord := []
theorem ok149 : funcOk Tryz.prog 149 ord149 = true := by kernel_rfl
theorem co149 : callOk Tryz.prog 149 = true := callOk_of ok149
def ord150 : Ord := []
theorem ok150 : funcOk Tryz.prog 150 ord150 = true := by kernel_rfl
theorem co150 : callOk Tryz.prog 150 = true := callOk_of ok150
def ord151 : Ord := []
theorem ok151 : funcOk Tryz.prog 151 ord151 = true := by kernel_rfl
theorem co151 : callOk Tryz.prog 151 = true := callOk_of ok151
def ord152 : Ord := []
theorem ok152 : funcOk Tryz.prog 152 ord152 = true := by kernel_rfl
theorem co152 : callOk Tryz.prog 152 = true := callOk_of ok152
def ord153 : Ord := [(4, [⟨0, false, []⟩, ⟨1, false, []⟩, ⟨2, false, []⟩, ⟨3, false, []⟩, ⟨4, false, []⟩, ⟨5, false, []⟩, ⟨6, false, []⟩, ⟨7, true, []⟩])]
theorem ok153 : funcOk Tryz.prog 153 ord153 = true := by kernel_rfl
theorem co153 : callOk Tryz.prog 153 = true := callOk_of ok153
def ord154 : Ord := [(3, [⟨0, false, []⟩, ⟨1, false, []⟩, ⟨2, false, []⟩, ⟨3, false, []⟩, ⟨4, false, []⟩, ⟨5, false, []⟩, ⟨6, false, []⟩, ⟨7, false, []⟩, ⟨8, false, []⟩, ⟨9, true, [0]⟩, ⟨10, false, []⟩, ⟨11, false, []⟩, ⟨12, true, []⟩, ⟨13, false, []⟩, ⟨14, false, []⟩, ⟨15, true, []⟩, ⟨16, true, []⟩])]
theorem ok154 : funcOk Tryz.prog 154 ord154 = true := by kernel_rfl
theorem co154 : callOk Tryz.prog 154 = true := callOk_of ok154
def ord155 : Ord := [(3, [⟨0, false, []⟩, ⟨2, false, []⟩, ⟨3, false, []⟩, ⟨4, false, []⟩, ⟨9, false, []⟩, ⟨1, true, [9, 4, 3, 2]⟩, ⟨5, true, [9]⟩, ⟨6, false, []⟩, ⟨7, false, []⟩, ⟨8, false, []⟩, ⟨10, true, [8]⟩, ⟨11, true, []⟩])]
theorem ok155 : funcOk Tryz.prog 155 ord155 = true := by kernel_rfl
theorem co155 : callOk Tryz.prog 155 = true := callOk_of ok155
def ord156 : Ord := [(1, [⟨0, false, []⟩, ⟨1, true, []⟩, ⟨2, false, []⟩, ⟨3, false, []⟩, ⟨4, false, []⟩, ⟨5, false, []⟩, ⟨6, false, []⟩, ⟨7, false, []⟩, ⟨8, false, []⟩, ⟨9, true, []⟩, ⟨10, false, []⟩, ⟨11, false, []⟩, ⟨12, false, []⟩, ⟨13, false, []⟩, ⟨14, false, []⟩, ⟨15, false, []⟩, ⟨16, false, []⟩, ⟨17, false, []⟩, ⟨18, false, []⟩, ⟨19, false, []⟩, ⟨20, false, []⟩, ⟨21, false, []⟩, ⟨22, false, []⟩, ⟨23, false, []⟩, ⟨24, false, []⟩, ⟨25, false, []⟩, ⟨26, false, []⟩, ⟨27, false, []⟩, ⟨28, false, []⟩, ⟨29, false, []⟩, ⟨30, false, []⟩, ⟨31, false, []⟩, ⟨32, false, []⟩, ⟨33, false, []⟩, ⟨34, false, []⟩, ⟨35, false, []⟩, ⟨36, false, []⟩, ⟨37, false, []⟩, ⟨38, false, []⟩, ⟨39, false, []⟩, ⟨40, false, []⟩, ⟨41, false, []⟩, ⟨42, false, []⟩, ⟨43, false, []⟩, ⟨44, false, []⟩, ⟨45, false, []⟩, ⟨46, false, []⟩, ⟨47, false, []⟩, ⟨48, false, []⟩, ⟨49, false, []⟩, ⟨50, false, []⟩, ⟨51, false, []⟩, ⟨52, false, []⟩]), (5, [⟨0, false, []⟩, ⟨1, false, []⟩, ⟨2, false, []⟩, ⟨3, false, []⟩, ⟨4, false, []⟩, ⟨7, false, []⟩, ⟨5, true, [7, 1, 0]⟩, ⟨6, false, []⟩, ⟨8, true, []⟩])]
theorem ok156 : funcOk Tryz.prog 156 ord156 = true := by kernel_rfl
theorem co156 : callOk Tryz.prog 156 = true := callOk_of ok156
def ord157 : Ord := []
theorem ok157 : funcOk Tryz.prog 157 ord157 = true := by kernel_rfl
theorem co157 : callOk Tryz.prog 157 = true := callOk_of ok157
def ord158 : Ord := []
theorem ok158 : funcOk Tryz.prog 158 ord158 = true := by kernel_rfl
theorem co158 : callOk Tryz.prog 158 = true := callOk_of ok158
def ord159 : Ord := []
theorem ok159 : funcOk Tryz.prog 159 ord159 = true := by kernel_rfl
theorem co159 : callOk Tryz.prog 159 = true := callOk_of ok159
def ord160 : Ord := [(20, [⟨0, false, []⟩, ⟨1, false, []⟩, ⟨2, false, []⟩, ⟨3, false, []⟩, ⟨4, false, []⟩, ⟨5, false, []⟩, ⟨6, false, []⟩, ⟨7, false, []⟩, ⟨8, false, []⟩, ⟨9, false, []⟩, ⟨10, false, []⟩, ⟨11, false, []⟩, ⟨12, false, []⟩, ⟨13, true, []⟩, ⟨14, false, []⟩, ⟨15, false, []⟩, ⟨16, false, []⟩, ⟨17, false, []⟩, ⟨18, false, []⟩, ⟨19, false, []⟩, ⟨20, false, []⟩, ⟨21, true, []⟩, ⟨22, false, []⟩, ⟨23, false, []⟩, ⟨24, false, []⟩, ⟨25, false, []⟩, ⟨26, false, []⟩, ⟨27, false, []⟩, ⟨28, false, []⟩, ⟨29, true, []⟩, ⟨30, false, []⟩, ⟨31, true, []⟩]), (22, [⟨0, false, []⟩, ⟨1, false, []⟩, ⟨2, false, []⟩, ⟨3, false, []⟩, ⟨4, false, []⟩, ⟨5, false, []⟩, ⟨6, false, []⟩, ⟨7, false, []⟩, ⟨8, false, []⟩, ⟨9, false, []⟩, ⟨10, false, []⟩, ⟨11, false, []⟩, ⟨12, false, []⟩, ⟨13, true, []⟩, ⟨14, false, []⟩, ⟨15, false, []⟩, ⟨16, false, []⟩, ⟨17, false, []⟩, ⟨18, false, []⟩, ⟨19, false, []⟩, ⟨20, false, []⟩, ⟨21, true, []⟩, ⟨22, false, []⟩, ⟨23, true, []⟩])]
theorem ok160 : funcOk Tryz.prog 160 ord160 = true := by kernel_rfl
theorem co160 : callOk Tryz.prog 160 = true := callOk_of ok160
def ord161 : Ord := [(12, [⟨0, false, []⟩, ⟨1, false, []⟩, ⟨2, false, []⟩, ⟨3, false, []⟩, ⟨4, false, []⟩, ⟨5, false, []⟩, ⟨6, false, []⟩, ⟨7, true, [2, 1, 0]⟩, ⟨8, true, []⟩])]
theorem ok161 : funcOk Tryz.prog 161 ord161 = true := by kernel_rfl
theorem co161 : callOk Tryz.prog 161 = true := callOk_of ok161
def ord162 : Ord := []
theorem ok162 : funcOk Tryz.prog 162 ord162 = true := by kernel_rfl
theorem co162 : callOk Tryz.prog 162 = true := callOk_of ok162
def ord163 : Ord := [(10, [⟨0, false, []⟩, ⟨2, false, []⟩, ⟨3, false, []⟩, ⟨4, false, []⟩, ⟨5, false, []⟩, ⟨1, true, [5, 4, 3, 2]⟩, ⟨6, false, []⟩]), (17, [⟨0, false, []⟩, ⟨1, false, []⟩, ⟨2, false, []⟩, ⟨3, false, []⟩, ⟨4, false, []⟩, ⟨5, false, []⟩, ⟨6, false, []⟩, ⟨7, false, []⟩, ⟨8, false, []⟩, ⟨9, true, [2, 1, 0]⟩, ⟨10, false, []⟩, ⟨11, false, []⟩, ⟨12, true, [1]⟩, ⟨13, false, []⟩, ⟨14, false, []⟩, ⟨15, true, []⟩]), (19, [⟨0, false, []⟩, ⟨1, false, []⟩, ⟨3, false, []⟩, ⟨4, false, []⟩, ⟨2, true, [4, 3]⟩, ⟨5, true, []⟩])]
theorem ok163 : funcOk Tryz.prog 163 ord163 = true := by kernel_rfl
theorem co163 : callOk Tryz.prog 163 = true := callOk_of ok163
def ord164 : Ord := [(7, [⟨0, false, []⟩, ⟨1, false, []⟩, ⟨2, false, []⟩, ⟨3, false, []⟩, ⟨4, false, []⟩, ⟨5, false, []⟩, ⟨6, false, []⟩, ⟨7, false, []⟩, ⟨9, false, []⟩, ⟨10, false, []⟩, ⟨11, false, []⟩, ⟨12, false, []⟩, ⟨8, true, [12, 11, 10, 9]⟩, ⟨13, false, []⟩, ⟨14, false, []⟩]), (9, [⟨0, false, []⟩, ⟨1, false, []⟩, ⟨2, false, []⟩, ⟨3, false, []⟩, ⟨4, false, []⟩, ⟨5, false, []⟩, ⟨6, false, []⟩, ⟨7, false, []⟩, ⟨8, false, []⟩, ⟨9, false, []⟩]), (11, [⟨0, false, []⟩, ⟨1, false, []⟩, ⟨2, false, []⟩, ⟨3, false, []⟩, ⟨4, false, []⟩, ⟨5, false, []⟩, ⟨6, false, []⟩, ⟨7, false, []⟩, ⟨8, false, []⟩, ⟨9, true, [2, 1, 0]⟩, ⟨10, false, []⟩, ⟨11, false, []⟩, ⟨12, true, [1]⟩, ⟨13, false, []⟩, ⟨14, false, []⟩, ⟨15, true, []⟩])]
theorem ok164 : funcOk Tryz.prog 164 ord164 = true := by kernel_rfl
theorem co164 : callOk Tryz.prog 164 = true := callOk_of ok164
def ord165 : Ord := []
theorem ok165 : funcOk Tryz.prog 165 ord165 = true := by kernel_rfl
theorem co165 : callOk Tryz.prog 165 = true := callOk_of ok165
def ord166 : Ord := [(1, [⟨0, false, []⟩, ⟨1, false, []⟩, ⟨2, false, []⟩, ⟨3, false, []⟩, ⟨4, false, []⟩, ⟨5, false, []⟩, ⟨6, false, []⟩, ⟨7, false, []⟩, ⟨8, false, []⟩, ⟨9, false, []⟩]), (3, [⟨0, false, []⟩, ⟨1, false, []⟩, ⟨2, false, []⟩, ⟨3, false, []⟩, ⟨4, false, []⟩, ⟨5, false, []⟩, ⟨6, false, []⟩, ⟨7, true, [0]⟩, ⟨8, false, []⟩, ⟨9, false, []⟩, ⟨10, true, []⟩])]
theorem ok166 : funcOk Tryz.prog 166 ord166 = true := by kernel_rfl
theorem co166 : callOk Tryz.prog 166 = true := callOk_of ok166
def ord167 : Ord := []
theorem ok167 : funcOk Tryz.prog 167 ord167 = true := by kernel_rfl
theorem co167 : callOk Tryz.prog 167 = true := callOk_of ok167
def ord168 : Ord := []
theorem ok168 : funcOk Tryz.prog 168 ord168 = true := by kernel_rfl
theorem co168 : callOk Tryz.prog 168 = true := callOk_of ok168
def ord169 : Ord := []
theorem ok169 : funcOk Tryz.prog 169 ord169 = true := by kernel_rfl
theorem co169 : callOk Tryz.prog 169 = true := callOk_of ok169
def ord170 : Ord := []
theorem ok170 : funcOk Tryz.prog 170 ord170 = true := by kernel_rfl
theorem co170 : callOk Tryz.prog 170 = true := callOk_of ok170
def ord171 : Ord := [(1, [⟨0, false, []⟩, ⟨1, false, []⟩, ⟨2, false, []⟩, ⟨4, false, []⟩, ⟨5, false, []⟩, ⟨3, true, [5, 4]⟩, ⟨6, false, []⟩, ⟨7, true, []⟩])]
theorem ok171 : funcOk Tryz.prog 171 ord171 = true := by kernel_rfl
theorem co171 : callOk Tryz.prog 171 = true := callOk_of ok171
def ord172 : Ord := []
theorem ok172 : funcOk Tryz.prog 172 ord172 = true := by kernel_rfl
theorem co172 : callOk Tryz.prog 172 = true := callOk_of ok172
def ord173 : Ord := []
theorem ok173 : funcOk Tryz.prog 173 ord173 = true := by kernel_rfl
theorem co173 : callOk Tryz.prog 173 = true := callOk_of ok173
def ord174 : Ord := [(3, [⟨0, false, []⟩, ⟨2, false, []⟩, ⟨3, false, []⟩, ⟨1, true, [3, 2]⟩, ⟨4, true, []⟩, ⟨5, true, []⟩, ⟨6, true, []⟩])]
theorem ok174 : funcOk Tryz.prog 174 ord174 = true := by kernel_rfl
theorem co174 : callOk Tryz.prog 174 = true := callOk_of ok174
def ord175 : Ord := []
theorem ok175 : funcOk Tryz.prog 175 ord175 = true := by kernel_rfl
theorem co175 : callOk Tryz.prog 175 = true := callOk_of ok175
def ord176 : Ord := []
theorem ok176 : funcOk Tryz.prog 176 ord176 = true := by kernel_rfl
theorem co176 : callOk Tryz.prog 176 = true := callOk_of ok176
def ord177 : Ord := [(1, [⟨0, false, []⟩, ⟨1, false, []⟩, ⟨2, false, []⟩, ⟨3, false, []⟩, ⟨4, false, []⟩, ⟨5, false, []⟩, ⟨6, false, []⟩, ⟨7, false, []⟩, ⟨8, true, []⟩, ⟨9, true, []⟩]), (4, [⟨0, false, []⟩, ⟨1, false, []⟩, ⟨2, false, []⟩, ⟨3, false, []⟩, ⟨4, false, []⟩, ⟨5, false, []⟩, ⟨6, false, []⟩, ⟨7, false, []⟩, ⟨8, true, []⟩, ⟨9, false, []⟩, ⟨10, false, []⟩, ⟨11, true, []⟩, ⟨12, true, []⟩])]
theorem ok177 : funcOk Tryz.prog 177 ord177 = true := by kernel_rfl
theorem co177 : callOk Tryz.prog 177 = true := callOk_of ok177
def ord178 : Ord := []
theorem ok178 : funcOk Tryz.prog 178 ord178 = true := by kernel_rfl
theorem co178 : callOk Tryz.prog 178 = true := callOk_of ok178
def ord179 : Ord := []
theorem ok179 : funcOk Tryz.prog 179 ord179 = true := by kernel_rfl
theorem co179 : callOk Tryz.prog 179 = true := callOk_of ok179
def ord180 : Ord := []
theorem ok180 : funcOk Tryz.prog 180 ord180 = true := by kernel_rfl
theorem co180 : callOk Tryz.prog 180 = true := callOk_of ok180
def ord181 : Ord := []
theorem ok181 : funcOk Tryz.prog 181 ord181 = true := by kernel_rfl
theorem co181 : callOk Tryz.prog 181 = true := callOk_of ok181
def ord182 : Ord := []
theorem ok182 : funcOk Tryz.prog 182 ord182 = true := by kernel_rfl
theorem co182 : callOk Tryz.prog 182 = true := callOk_of ok182
def ord183 : Ord := []
theorem ok183 : funcOk Tryz.prog 183 ord183 = true := by kernel_rfl
theorem co183 : callOk Tryz.prog 183 = true := callOk_of ok183
def ord184 : Ord := []
theorem ok184 : funcOk Tryz.prog 184 ord184 = true := by kernel_rfl
theorem co184 : callOk Tryz.prog 184 = true := callOk_of ok184
theorem no185 : callOk Tryz.prog 185 = false := by kernel_rfl
def ord186 : Ord := [(15, [⟨0, false, []⟩, ⟨1, false, []⟩, ⟨2, false, []⟩, ⟨3, false, []⟩, ⟨4, false, []⟩, ⟨5, false, []⟩, ⟨6, false, []⟩, ⟨7, false, []⟩, ⟨8, true, []⟩, ⟨9, true, []⟩])]
theorem ok186 : funcOk Tryz.prog 186 ord186 = true := by kernel_rfl
theorem co186 : callOk Tryz.prog 186 = true := callOk_of ok186
def ord187 : Ord := []
theorem ok187 : funcOk Tryz.prog 187 ord187 = true := by kernel_rfl
theorem co187 : callOk Tryz.prog 187 = true := callOk_of ok187
def ord188 : Ord := []
theorem ok188 : funcOk Tryz.prog 188 ord188 = true := by kernel_rfl
theorem co188 : callOk Tryz.prog 188 = true := callOk_of ok188
def ord189 : Ord := []
theorem ok189 : funcOk Tryz.prog 189 ord189 = true := by kernel_rfl
theorem co189 : callOk Tryz.prog 189 = true := callOk_of ok189
def ord190 : Ord := []
theorem ok190 : funcOk Tryz.prog 190 ord190 = true := by kernel_rfl
theorem co190 : callOk Tryz.prog 190 = true := callOk_of ok190
def ord191 : Ord := []
theorem ok191 : funcOk Tryz.prog 191 ord191 = true := by kernel_rfl
theorem co191 : callOk Tryz.prog 191 = true := callOk_of ok191
def ord192 : Ord := [(1, [⟨0, false, []⟩, ⟨1, false, []⟩, ⟨2, false, []⟩, ⟨3, false, []⟩, ⟨4, false, []⟩, ⟨5, false, []⟩, ⟨6, false, []⟩, ⟨7, false, []⟩, ⟨8, false, []⟩, ⟨9, true, []⟩, ⟨10, true, []⟩])]
theorem ok192 : funcOk Tryz.prog 192 ord192 = true := by kernel_rfl
theorem co192 : callOk Tryz.prog 192 = true := callOk_of ok192
def ord193 : Ord := [(1, [⟨0, false, []⟩, ⟨1, false, []⟩, ⟨2, false, []⟩, ⟨3, false, []⟩, ⟨4, false, []⟩, ⟨5, false, []⟩, ⟨6, false, []⟩, ⟨7, false, []⟩, ⟨8, true, []⟩, ⟨9, true, []⟩])]
theorem ok193 : funcOk Tryz.prog 193 ord193 = true := by kernel_rfl
theorem co193 : callOk Tryz.prog 193 = true := callOk_of ok193
def ord194 : Ord := [(1, [⟨0, false, []⟩, ⟨1, false, []⟩, ⟨2, false, []⟩, ⟨3, false, []⟩, ⟨4, false, []⟩, ⟨5, false, []⟩, ⟨6, false, []⟩, ⟨7, false, []⟩, ⟨8, false, []⟩, ⟨9, false, []⟩, ⟨10, false, []⟩, ⟨11, false, []⟩, ⟨12, false, []⟩, ⟨13, false, []⟩, ⟨14, false, []⟩, ⟨15, false, []⟩, ⟨16, true, [15, 14, 13, 12]⟩, ⟨17, true, []⟩])]
theorem ok194 : funcOk Tryz.prog 194 ord194 = true := by kernel_rfl
theorem co194 : callOk Tryz.prog 194 = true := callOk_of ok194
def ord195 : Ord := []
theorem ok195 : funcOk Tryz.prog 195 ord195 = true := by kernel_rfl
theorem co195 : callOk Tryz.prog 195 = true := callOk_of ok195
def ord196 : Ord := []
theorem ok196 : funcOk Tryz.prog 196 ord196 = true := by kernel_rfl
theorem co196 : callOk Tryz.prog 196 = true := callOk_of ok196
def ord197 : Ord := []
theorem ok197 : funcOk Tryz.prog 197 ord197 = true := by kernel_rfl
theorem co197 : callOk Tryz.prog 197 = true := callOk_of ok197
def ord198 : Ord := []
theorem ok198 : funcOk Tryz.prog 198 ord198 = true := by kernel_rfl
theorem co198 : callOk Tryz.prog 198 = true := callOk_of ok198
def ord199 : Ord := []
theorem ok199 : funcOk Tryz.prog 199 ord199 = true := by kernel_rfl
theorem co199 : callOk Tryz.prog 199 = true := callOk_of ok199
def ord200 : Ord := []
theorem ok200 : funcOk Tryz.prog 200 ord200 = true := by kernel_rfl
theorem co200 : callOk Tryz.prog 200 = true := callOk_of ok200
def ord201 : Ord := [(9, [⟨0, false, []⟩, ⟨1, false, []⟩, ⟨2, false, []⟩, ⟨3, false, []⟩, ⟨4, false, []⟩, ⟨5, true, []⟩, ⟨6, false, []⟩]), (11, [⟨0, false, []⟩, ⟨1, false, []⟩, ⟨2, false, []⟩, ⟨3, false, []⟩, ⟨4, false, []⟩, ⟨5, true, []⟩, ⟨6, false, []⟩, ⟨7, false, []⟩, ⟨8, false, []⟩, ⟨9, false, []⟩, ⟨10, false, []⟩, ⟨11, false, []⟩, ⟨12, false, []⟩, ⟨13, false, []⟩, ⟨14, false, []⟩, ⟨15, false, []⟩, ⟨16, false, []⟩, ⟨17, false, []⟩, ⟨18, false, []⟩, ⟨19, false, []⟩, ⟨20, false, []⟩, ⟨21, false, []⟩, ⟨22, false, []⟩, ⟨23, true, []⟩, ⟨24, false, []⟩])]
theorem ok201 : funcOk Tryz.prog 201 ord201 = true := by kernel_rfl
theorem co201 : callOk Tryz.prog 201 = true := callOk_of ok201
def ord202 : Ord := []
theorem ok202 : funcOk Tryz.prog 202 ord202 = true := by kernel_rfl
theorem co202 : callOk Tryz.prog 202 = true := callOk_of ok202
def ord203 : Ord := []
theorem ok203 : funcOk Tryz.prog 203 ord203 = true := by kernel_rfl
theorem co203 : callOk Tryz.prog 203 = true := callOk_of ok203
def ord204 : Ord := []
theorem ok204 : funcOk Tryz.prog 204 ord204 = true := by kernel_rfl
theorem co204 : callOk Tryz.prog 204 = true := callOk_of ok204
def ord205 : Ord := []
theorem ok205 : funcOk Tryz.prog 205 ord205 = true := by kernel_rfl
theorem co205 : callOk Tryz.prog 205 = true := callOk_of ok205
def ord206 : Ord := []
theorem ok206 : funcOk Tryz.prog 206 ord206 = true := by kernel_rfl
theorem co206 : callOk Tryz.prog 206 = true := callOk_of ok206
def ord207 : Ord := []
theorem ok207 : funcOk Tryz.prog 207 ord207 = true := by kernel_rfl
theorem co207 : callOk Tryz.prog 207 = true := callOk_of ok207
def ord208 : Ord := [(12, [⟨0, false, []⟩, ⟨1, false, []⟩, ⟨2, false, []⟩, ⟨3, false, []⟩, ⟨4, false, []⟩, ⟨5, false, []⟩, ⟨6, false, []⟩, ⟨7, false, []⟩, ⟨8, true, []⟩]), (14, [⟨0, false, []⟩, ⟨1, false, []⟩, ⟨2, false, []⟩, ⟨3, false, []⟩, ⟨4, false, []⟩, ⟨5, false, []⟩, ⟨6, false, []⟩, ⟨7, false, []⟩, ⟨8, true, []⟩]), (24, [⟨0, false, []⟩, ⟨2, false, []⟩, ⟨3, false, []⟩, ⟨4, false, []⟩, ⟨1, true, [4, 3, 2]⟩, ⟨5, false, []⟩]), (27, [⟨0, false, []⟩, ⟨1, false, []⟩, ⟨2, false, []⟩, ⟨3, false, []⟩, ⟨4, false, []⟩, ⟨5, false, []⟩, ⟨6, true, [1, 0]⟩, ⟨7, true, []⟩, ⟨8, true, []⟩])]
theorem ok208 : funcOk Tryz.prog 208 ord208 = true := by kernel_rfl
theorem co208 : callOk Tryz.prog 208 = true := callOk_of ok208
def ord209 : Ord := []
theorem ok209 : funcOk Tryz.prog 209 ord209 = true := by kernel_rfl
theorem co209 : callOk Tryz.prog 209 = true := callOk_of ok209
def ord210 : Ord := [(3, [⟨0, false, []⟩, ⟨1, false, []⟩, ⟨2, false, []⟩, ⟨3, false, []⟩, ⟨4, false, []⟩, ⟨5, false, []⟩, ⟨6, false, []⟩, ⟨7, false, []⟩, ⟨8, false, []⟩, ⟨9, false, []⟩, ⟨10, true, []⟩]), (5, [⟨0, false, []⟩, ⟨1, false, []⟩, ⟨2, false, []⟩, ⟨3, false, []⟩, ⟨4, false, []⟩, ⟨5, false, []⟩, ⟨6, false, []⟩, ⟨7, false, []⟩, ⟨8, false, []⟩, ⟨9, false, []⟩, ⟨10, true, []⟩]), (8, [⟨0, false, []⟩, ⟨1, false, []⟩, ⟨2, false, []⟩, ⟨3, false, []⟩, ⟨4, false, []⟩, ⟨5, false, []⟩, ⟨6, false, []⟩, ⟨7, false, []⟩, ⟨8, false, []⟩, ⟨9, false, []⟩, ⟨10, false, []⟩, ⟨11, false, []⟩, ⟨12, false, []⟩, ⟨13, true, []⟩, ⟨14, true, []⟩]), (11, [⟨0, false, []⟩, ⟨1, false, []⟩, ⟨2, false, []⟩, ⟨3, false, []⟩, ⟨4, false, []⟩, ⟨5, false, []⟩, ⟨6, false, []⟩, ⟨7, false, []⟩, ⟨8, false, []⟩, ⟨9, false, []⟩, ⟨10, false, []⟩, ⟨11, false, []⟩, ⟨12, false, []⟩, ⟨13, false, []⟩, ⟨14, false, []⟩, ⟨15, true, []⟩, ⟨16, true, []⟩]), (14, [⟨0, false, []⟩, ⟨1, false, []⟩, ⟨2, false, []⟩, ⟨3, false, []⟩, ⟨4, false, []⟩, ⟨5, false, []⟩, ⟨6, false, []⟩, ⟨7, false, []⟩, ⟨8, false, []⟩, ⟨9, false, []⟩, ⟨10, true, []⟩]), (17, [⟨0, false, []⟩, ⟨1, false, []⟩, ⟨2, false, []⟩, ⟨3, false, []⟩, ⟨4, false, []⟩, ⟨5, false, []⟩, ⟨6, false, []⟩, ⟨7, false, []⟩, ⟨8, false, []⟩, ⟨9, false, []⟩, ⟨10, false, []⟩, ⟨11, false, []⟩, ⟨12, true, []⟩]), (19, [⟨0, false, []⟩, ⟨1, false, []⟩, ⟨2, false, []⟩, ⟨3, false, []⟩, ⟨4, false, []⟩, ⟨5, false, []⟩, ⟨6, false, []⟩, ⟨7, false, []⟩, ⟨8, true, [4, 3, 2, 1, 0]⟩, ⟨9, false, []⟩, ⟨10, true, [0]⟩, ⟨11, false, []⟩, ⟨12, false, []⟩, ⟨13, true, []⟩])]
theorem ok210 : funcOk Tryz.prog 210 ord210 = true := by kernel_rfl
theorem co210 : callOk Tryz.prog 210 = true := callOk_of ok210
def ord211 : Ord := []
theorem ok211 : funcOk Tryz.prog 211 ord211 = true := by kernel_rfl
theorem co211 : callOk Tryz.prog 211 = true := callOk_of ok211
def ord212 : Ord := [(3, [⟨0, false, []⟩, ⟨1, false, []⟩, ⟨2, false, []⟩, ⟨3, false, []⟩, ⟨4, false, []⟩, ⟨5, false, []⟩, ⟨6, false, []⟩, ⟨7, false, []⟩, ⟨8, false, []⟩, ⟨9, false, []⟩, ⟨11, false, []⟩, ⟨10, true, [11, 3, 2, 1, 0]⟩, ⟨12, false, []⟩, ⟨13, true, []⟩]), (4, [⟨0, false, []⟩, ⟨1, false, []⟩, ⟨3, false, []⟩, ⟨4, false, []⟩, ⟨2, true, [4, 3]⟩, ⟨5, true, []⟩])]
theorem ok212 : funcOk Tryz.prog 212 ord212 = true := by kernel_rfl
theorem co212 : callOk Tryz.prog 212 = true := callOk_of ok212
def ord213 : Ord := [(6, [⟨0, false, []⟩, ⟨1, false, []⟩, ⟨2, false, []⟩, ⟨3, false, []⟩, ⟨4, false, []⟩, ⟨5, false, []⟩, ⟨6, false, []⟩, ⟨7, false, []⟩, ⟨8, false, []⟩, ⟨9, false, []⟩, ⟨10, true, [4, 3, 2, 1, 0]⟩, ⟨11, true, []⟩, ⟨12, true, []⟩])]
theorem ok213 : funcOk Tryz.prog 213 ord213 = true := by kernel_rfl
theorem co213 : callOk Tryz.prog 213 = true := callOk_of ok213
def ord214 : Ord := [(5, [⟨0, false, []⟩, ⟨1, false, []⟩, ⟨2, false, []⟩, ⟨3, false, []⟩, ⟨4, false, []⟩, ⟨5, false, []⟩, ⟨6, false, []⟩, ⟨7, false, []⟩, ⟨8, true, []⟩]), (7, [⟨0, false, []⟩, ⟨1, false, []⟩, ⟨2, false, []⟩, ⟨3, false, []⟩, ⟨4, false, []⟩, ⟨5, false, []⟩, ⟨6, false, []⟩, ⟨7, false, []⟩, ⟨8, false, []⟩, ⟨9, false, []⟩, ⟨10, true, []⟩]), (8, [⟨0, false, []⟩, ⟨1, false, []⟩, ⟨2, false, []⟩, ⟨3, false, []⟩, ⟨4, false, []⟩, ⟨5, false, []⟩, ⟨6, false, []⟩, ⟨7, false, []⟩, ⟨8, false, []⟩, ⟨9, true, [0]⟩, ⟨10, false, []⟩, ⟨11, false, []⟩, ⟨12, true, []⟩])]
theorem ok214 : funcOk Tryz.prog 214 ord214 = true := by kernel_rfl
theorem co214 : callOk Tryz.prog 214 = true := callOk_of ok214
def ord215 : Ord := []
theorem ok215 : funcOk Tryz.prog 215 ord215 = true := by kernel_rfl
theorem co215 : callOk Tryz.prog 215 = true := callOk_of ok215
def ord216 : Ord := []
theorem ok216 : funcOk Tryz.prog 216 ord216 = true := by kernel_rfl
theorem co216 : callOk Tryz.prog 216 = true := callOk_of ok216
def ord217 : Ord := []
theorem ok217 : funcOk Tryz.prog 217 ord217 = true := by kernel_rfl
theorem co217 : callOk Tryz.prog 217 = true := callOk_of ok217
def ord218 : Ord := []
theorem ok218 : funcOk Tryz.prog 218 ord218 = true := by kernel_rfl
theorem co218 : callOk Tryz.prog 218 = true := callOk_of ok218
def ord219 : Ord := []
theorem ok219 : funcOk Tryz.prog 219 ord219 = true := by kernel_rfl
theorem co219 : callOk Tryz.prog 219 = true := callOk_of ok219
def ord220 : Ord := []
theorem ok220 : funcOk Tryz.prog 220 ord220 = true := by kernel_rfl
theorem co220 : callOk Tryz.prog 220 = true := callOk_of ok220
def ord221 : Ord := []
theorem ok221 : funcOk Tryz.prog 221 ord221 = true := by kernel_rfl
theorem co221 : callOk Tryz.prog 221 = true := callOk_of ok221
def ord222 : Ord := []
theorem ok222 : funcOk Tryz.prog 222 ord222 = true := by kernel_rfl
theorem co222 : callOk Tryz.prog 222 = true := callOk_of ok222
def ord223 : Ord := []
theorem ok223 : funcOk Tryz.prog 223 ord223 = true := by kernel_rfl
theorem co223 : callOk Tryz.prog 223 = true := callOk_of ok223
def ord224 : Ord := []
theorem ok224 : funcOk Tryz.prog 224 ord224 = true := by kernel_rfl
theorem co224 : callOk Tryz.prog 224 = true := callOk_of ok224
def ord225 : Ord := []
theorem ok225 : funcOk Tryz.prog 225 ord225 = true := by kernel_rfl
theorem co225 : callOk Tryz.prog 225 = true := callOk_of ok225
def ord226 : Ord := []
theorem ok226 : funcOk Tryz.prog 226 ord226 = true := by kernel_rfl
theorem co226 : callOk Tryz.prog 226 = true := callOk_of ok226
def ord227 : Ord := [(7, [⟨0, false, []⟩, ⟨1, false, []⟩, ⟨2, false, []⟩, ⟨3, false, []⟩, ⟨4, false, []⟩, ⟨5, false, []⟩, ⟨6, false, []⟩, ⟨7, false, []⟩, ⟨8, false, []⟩, ⟨9, false, []⟩, ⟨10, false, []⟩, ⟨11, false, []⟩, ⟨12, false, []⟩, ⟨13, true, []⟩, ⟨14, true, []⟩])]
theorem ok227 : funcOk Tryz.prog 227 ord227 = true := by kernel_rfl
theorem co227 : callOk Tryz.prog 227 = true := callOk_of ok227
def ord228 : Ord := []
theorem ok228 : funcOk Tryz.prog 228 ord228 = true := by kernel_rfl
theorem co228 : callOk Tryz.prog 228 = true := callOk_of ok228
def ord229 : Ord := []
theorem ok229 : funcOk Tryz.prog 229 ord229 = true := by kernel_rfl
theorem co229 : callOk Tryz.prog 229 = true := callOk_of ok229
def ord230 : Ord := [(0, [⟨0, false, []⟩, ⟨1, false, []⟩, ⟨2, false, []⟩, ⟨3, false, []⟩, ⟨4, false, []⟩, ⟨5, false, []⟩, ⟨6, false, []⟩, ⟨7, false, []⟩, ⟨8, false, []⟩, ⟨9, false, []⟩, ⟨10, false, []⟩, ⟨11, false, []⟩, ⟨12, false, []⟩, ⟨13, false, []⟩, ⟨14, false, []⟩, ⟨15, false, []⟩, ⟨16, false, []⟩, ⟨17, false, []⟩, ⟨18, false, []⟩, ⟨19, false, []⟩]), (5, [⟨0, false, []⟩, ⟨1, false, []⟩, ⟨2, false, []⟩, ⟨3, false, []⟩, ⟨4, false, []⟩, ⟨5, false, []⟩, ⟨6, false, []⟩, ⟨7, true, []⟩])]
theorem ok230 : funcOk Tryz.prog 230 ord230 = true := by kernel_rfl
theorem co230 : callOk Tryz.prog 230 = true := callOk_of ok230
def ord231 : Ord := []
theorem ok231 : funcOk Tryz.prog 231 ord231 = true := by kernel_rfl
theorem co231 : callOk Tryz.prog 231 = true := callOk_of ok231
def ord232 : Ord := []
theorem ok232 : funcOk Tryz.prog 232 ord232 = true := by kernel_rfl
theorem co232 : callOk Tryz.prog 232 = true := callOk_of ok232
def ord233 : Ord := [(10, [⟨0, false, []⟩, ⟨1, false, []⟩, ⟨2, false, []⟩, ⟨3, false, []⟩, ⟨4, false, []⟩, ⟨5, false, []⟩, ⟨6, false, []⟩, ⟨7, false, []⟩, ⟨8, false, []⟩, ⟨9, false, []⟩, ⟨10, false, []⟩, ⟨11, false, []⟩, ⟨12, false, []⟩, ⟨13, false, []⟩, ⟨14, false, []⟩])]
theorem ok233 : funcOk Tryz.prog 233 ord233 = true := by kernel_rfl
theorem co233 : callOk Tryz.prog 233 = true := callOk_of ok233
def ord234 : Ord := []
theorem ok234 : funcOk Tryz.prog 234 ord234 = true := by kernel_rfl
theorem co234 : callOk Tryz.prog 234 = true := callOk_of ok234
def ord235 : Ord := []
theorem ok235 : funcOk Tryz.prog 235 ord235 = true := by kernel_rfl
theorem co235 : callOk Tryz.prog 235 = true := callOk_of ok235
def ord236 : Ord := []
theorem ok236 : funcOk Tryz.prog 236 ord236 = true := by kernel_rfl
theorem co236 : callOk Tryz.prog 236 = true := callOk_of ok236
def ord237 : Ord := []
theorem ok237 : funcOk Tryz.prog 237 ord237 = true := by kernel_rfl
theorem co237 : callOk Tryz.prog 237 = true := callOk_of ok237
def ord238 : Ord := []
theorem ok238 : funcOk Tryz.prog 238 ord238 = true := by kernel_rfl
theorem co238 : callOk Tryz.prog 238 = true := callOk_of ok238
def ord239 : Ord := []
theorem ok239 : funcOk Tryz.prog 239 ord239 = true := by kernel_rfl
theorem co239 : callOk Tryz.prog 239 = true := callOk_of ok239
def ord240 : Ord := []
theorem ok240 : funcOk Tryz.prog 240 ord240 = true := by kernel_rfl
theorem co240 : callOk Tryz.prog 240 = true := callOk_of ok240
def ord241 : Ord := []
theorem ok241 : funcOk Tryz.prog 241 ord241 = true := by kernel_rfl
theorem co241 : callOk Tryz.prog 241 = true := callOk_of ok241
def ord242 : Ord := []
theorem ok242 : funcOk Tryz.prog 242 ord242 = true := by kernel_rfl
theorem co242 : callOk Tryz.prog 242 = true := callOk_of ok242
def ord243 : Ord := []
theorem ok243 : funcOk Tryz.prog 243 ord243 = true := by kernel_rfl
theorem co243 : callOk Tryz.prog 243 = true := callOk_of ok243
def ord244 : Ord := []
theorem ok244 : funcOk Tryz.prog 244 ord244 = true := by kernel_rfl
theorem co244 : callOk Tryz.prog 244 = true := callOk_of ok244
def ord245 : Ord := []
theorem ok245 : funcOk Tryz.prog 245 ord245 = true := by kernel_rfl
theorem co245 : callOk Tryz.prog 245 = true := callOk_of ok245
def ord246 : Ord := []
theorem ok246 : funcOk Tryz.prog 246 ord246 = true := by kernel_rfl
theorem co246 : callOk Tryz.prog 246 = true := callOk_of ok246
def ord247 : Ord := []
theorem ok247 : funcOk Tryz.prog 247 ord247 = true := by kernel_rfl
theorem co247 : callOk Tryz.prog 247 = true := callOk_of ok247
def ord248 : Ord := []
theorem ok248 : funcOk Tryz.prog 248 ord248 = true := by kernel_rfl
theorem co248 : callOk Tryz.prog 248 = true := callOk_of ok248
def ord249 : Ord := []
theorem ok249 : funcOk Tryz.prog 249 ord249 = true := by kernel_rfl
theorem co249 : callOk Tryz.prog 249 = true := callOk_of ok249
def ord250 : Ord := [(6, [⟨0, false, []⟩, ⟨1, false, []⟩, ⟨2, false, []⟩, ⟨3, false, []⟩, ⟨4, false, []⟩, ⟨5, false, []⟩, ⟨6, false, []⟩, ⟨7, false, []⟩, ⟨8, false, []⟩, ⟨9, false, []⟩, ⟨10, false, []⟩, ⟨11, false, []⟩, ⟨12, false, []⟩, ⟨13, true, [9, 8, 7, 6, 5, 4, 3, 2, 1, 0]⟩, ⟨14, true, []⟩, ⟨15, true, []⟩])]
theorem ok250 : funcOk Tryz.prog 250 ord250 = true := by kernel_rfl
theorem co250 : callOk Tryz.prog 250 = true := callOk_of ok250
def ord251 : Ord := [(3, [⟨0, false, []⟩, ⟨1, false, []⟩, ⟨2, false, []⟩, ⟨3, false, []⟩, ⟨4, false, []⟩, ⟨5, false, []⟩, ⟨6, false, []⟩, ⟨7, false, []⟩, ⟨9, false, []⟩, ⟨8, true, [9]⟩, ⟨10, true, []⟩]), (4, [⟨0, false, []⟩, ⟨1, false, []⟩, ⟨2, false, []⟩, ⟨3, false, []⟩, ⟨4, false, []⟩, ⟨5, false, []⟩, ⟨6, false, []⟩, ⟨7, false, []⟩, ⟨8, true, [2, 1, 0]⟩, ⟨9, true, []⟩, ⟨10, true, []⟩])]
theorem ok251 : funcOk Tryz.prog 251 ord251 = true := by kernel_rfl
theorem co251 : callOk Tryz.prog 251 = true := callOk_of ok251
def ord252 : Ord := [(4, [⟨0, false, []⟩, ⟨1, false, []⟩, ⟨2, false, []⟩, ⟨3, false, []⟩, ⟨4, false, []⟩, ⟨5, true, []⟩, ⟨6, false, []⟩, ⟨7, false, []⟩, ⟨8, false, []⟩, ⟨9, true, [8]⟩, ⟨10, true, []⟩]), (6, [⟨0, false, []⟩, ⟨1, false, []⟩, ⟨2, false, []⟩, ⟨3, false, []⟩, ⟨4, false, []⟩, ⟨5, false, []⟩, ⟨6, false, []⟩, ⟨7, false, []⟩, ⟨8, false, []⟩, ⟨9, false, []⟩, ⟨10, false, []⟩, ⟨11, false, []⟩, ⟨12, false, []⟩, ⟨13, true, []⟩, ⟨14, false, []⟩, ⟨15, false, []⟩, ⟨16, false, []⟩, ⟨17, true, [16]⟩, ⟨18, true, []⟩]), (9, [⟨0, false, []⟩, ⟨1, false, []⟩, ⟨2, false, []⟩, ⟨3, false, []⟩, ⟨4, false, []⟩, ⟨5, false, []⟩, ⟨6, false, []⟩, ⟨7, false, []⟩, ⟨8, false, []⟩, ⟨9, false, []⟩, ⟨10, true, []⟩, ⟨11, true, []⟩]), (12, [⟨0, false, []⟩, ⟨1, false, []⟩, ⟨2, false, []⟩, ⟨3, false, []⟩, ⟨4, false, []⟩, ⟨5, false, []⟩, ⟨6, false, []⟩, ⟨7, false, []⟩, ⟨8, false, []⟩, ⟨9, false, []⟩, ⟨10, false, []⟩, ⟨11, false, []⟩, ⟨12, true, []⟩, ⟨13, true, []⟩]), (14, [⟨0, false, []⟩, ⟨1, false, []⟩, ⟨2, false, []⟩, ⟨3, false, []⟩, ⟨4, false, []⟩, ⟨5, false, []⟩, ⟨6, false, []⟩, ⟨7, true, []⟩, ⟨8, true, []⟩])]
theorem ok252 : funcOk Tryz.prog 252 ord252 = true := by kernel_rfl
theorem co252 : callOk Tryz.prog 252 = true := callOk_of ok252
def ord253 : Ord := []
theorem ok253 : funcOk Tryz.prog 253 ord253 = true := by kernel_rfl
theorem co253 : callOk Tryz.prog 253 = true := callOk_of ok253
def ord254 : Ord := []
theorem ok254 : funcOk Tryz.prog 254 ord254 = true := by kernel_rfl
theorem co254 : callOk Tryz.prog 254 = true := callOk_of ok254
def ord255 : Ord := []
theorem ok255 : funcOk Tryz.prog 255 ord255 = true := by kernel_rfl
theorem co255 : callOk Tryz.prog 255 = true := callOk_of ok255
def ord256 : Ord := []
theorem ok256 : funcOk Tryz.prog 256 ord256 = true := by kernel_rfl
theorem co256 : callOk Tryz.prog 256 = true := callOk_of ok256
def ord257 : Ord := []
theorem ok257 : funcOk Tryz.prog 257 ord257 = true := by kernel_rfl
theorem co257 : callOk Tryz.prog 257 = true := callOk_of ok257
def ord258 : Ord := []
theorem ok258 : funcOk Tryz.prog 258 ord258 = true := by kernel_rfl
theorem co258 : callOk Tryz.prog 258 = true := callOk_of ok258
def ord259 : Ord := []
theorem ok259 : funcOk Tryz.prog 259 ord259 = true := by kernel_rfl
theorem co259 : callOk Tryz.prog 259 = true := callOk_of ok259
def ord260 : Ord := [(3, [⟨0, false, []⟩, ⟨1, false, []⟩, ⟨2, false, []⟩, ⟨3, false, []⟩, ⟨4, false, []⟩, ⟨5, false, []⟩, ⟨6, false, []⟩, ⟨7, false, []⟩, ⟨8, false, []⟩, ⟨9, false, []⟩, ⟨10, false, []⟩, ⟨11, false, []⟩, ⟨12, false, []⟩, ⟨13, true, [3, 2]⟩, ⟨14, false, []⟩, ⟨15, true, []⟩])]
theorem ok260 : funcOk Tryz.prog 260 ord260 = true := by kernel_rfl
theorem co260 : callOk Tryz.prog 260 = true := callOk_of ok260
def ord261 : Ord := []
theorem ok261 : funcOk Tryz.prog 261 ord261 = true := by kernel_rfl
theorem co261 : callOk Tryz.prog 261 = true := callOk_of ok261
def ord262 : Ord := []
theorem ok262 : funcOk Tryz.prog 262 ord262 = true := by kernel_rfl
theorem co262 : callOk Tryz.prog 262 = true := callOk_of ok262
def ord263 : Ord := []
theorem ok263 : funcOk Tryz.prog 263 ord263 = true := by kernel_rfl
theorem co263 : callOk Tryz.prog 263 = true := callOk_of ok263
def ord264 : Ord := []
theorem ok264 : funcOk Tryz.prog 264 ord264 = true := by kernel_rfl
theorem co264 : callOk Tryz.prog 264 = true := callOk_of ok264
def ord265 : Ord := []
theorem ok265 : funcOk Tryz.prog 265 ord265 = true := by kernel_rfl
theorem co265 : callOk Tryz.prog 265 = true := callOk_of ok265
def ord266 : Ord := []
theorem ok266 : funcOk Tryz.prog 266 ord266 = true := by kernel_rfl
theorem co266 : callOk Tryz.prog 266 = true := callOk_of ok266
def ord267 : Ord := [(9, [⟨0, false, []⟩, ⟨1, false, []⟩, ⟨2, false, []⟩, ⟨3, false, []⟩, ⟨4, false, []⟩, ⟨5, false, []⟩, ⟨6, false, []⟩, ⟨7, true, [0]⟩, ⟨8, false, []⟩, ⟨9, true, []⟩])]
theorem ok267 : funcOk Tryz.prog 267 ord267 = true := by kernel_rfl
theorem co267 : callOk Tryz.prog 267 = true := callOk_of ok267
def ord268 : Ord := []
theorem ok268 : funcOk Tryz.prog 268 ord268 = true := by kernel_rfl
theorem co268 : callOk Tryz.prog 268 = true := callOk_of ok268
def ord269 : Ord := []
theorem ok269 : funcOk Tryz.prog 269 ord269 = true := by kernel_rfl
theorem co269 : callOk Tryz.prog 269 = true := callOk_of ok269
def ord270 : Ord := []
theorem ok270 : funcOk Tryz.prog 270 ord270 = true := by kernel_rfl
theorem co270 : callOk Tryz.prog 270 = true := callOk_of ok270
def ord271 : Ord := []
theorem ok271 : funcOk Tryz.prog 271 ord271 = true := by kernel_rfl
theorem co271 : callOk Tryz.prog 271 = true := callOk_of ok271
def ord272 : Ord := []
theorem ok272 : funcOk Tryz.prog 272 ord272 = true := by kernel_rfl
theorem co272 : callOk Tryz.prog 272 = true := callOk_of ok272
def ord273 : Ord := []
theorem ok273 : funcOk Tryz.prog 273 ord273 = true := by kernel_rfl
theorem co273 : callOk Tryz.prog 273 = true := callOk_of ok273
def ord274 : Ord := []
theorem ok274 : funcOk Tryz.prog 274 ord274 = true := by kernel_rfl
theorem co274 : callOk Tryz.prog 274 = true := callOk_of ok274
def ord275 : Ord := []
theorem ok275 : funcOk Tryz.prog 275 ord275 = true := by kernel_rfl
theorem co275 : callOk Tryz.prog 275 = true := callOk_of ok275
def ord276 : Ord := []
theorem ok276 : funcOk Tryz.prog 276 ord276 = true := by kernel_rfl
theorem co276 : callOk Tryz.prog 276 = true := callOk_of ok276
def ord277 : Ord := []
theorem ok277 : funcOk Tryz.prog 277 ord277 = true := by kernel_rfl
theorem co277 : callOk Tryz.prog 277 = true := callOk_of ok277
def ord278 : Ord := [(2, [⟨0, false, []⟩, ⟨1, false, []⟩, ⟨2, false, []⟩, ⟨3, false, []⟩, ⟨4, false, []⟩, ⟨5, false, []⟩, ⟨6, false, []⟩, ⟨7, false, []⟩, ⟨8, false, []⟩, ⟨9, false, []⟩]), (4, [⟨0, false, []⟩, ⟨1, false, []⟩, ⟨2, false, []⟩, ⟨3, false, []⟩, ⟨4, false, []⟩, ⟨5, false, []⟩, ⟨6, false, []⟩, ⟨7, false, []⟩, ⟨8, false, []⟩, ⟨9, false, []⟩, ⟨10, false, []⟩, ⟨11, false, []⟩, ⟨12, false, []⟩, ⟨13, false, []⟩]), (6, [⟨0, false, []⟩, ⟨1, false, []⟩, ⟨2, false, []⟩, ⟨3, false, []⟩, ⟨4, false, []⟩, ⟨5, false, []⟩, ⟨6, false, []⟩, ⟨7, false, []⟩, ⟨8, false, []⟩, ⟨9, false, []⟩, ⟨10, true, []⟩]), (7, [⟨0, false, []⟩, ⟨1, false, []⟩, ⟨2, false, []⟩, ⟨3, false, []⟩, ⟨4, false, []⟩, ⟨5, false, []⟩, ⟨6, true, []⟩]), (8, [⟨0, false, []⟩, ⟨1, false, []⟩, ⟨2, false, []⟩, ⟨3, false, []⟩, ⟨4, false, []⟩, ⟨5, false, []⟩, ⟨6, false, []⟩, ⟨7, false, []⟩, ⟨8, false, []⟩, ⟨9, false, []⟩, ⟨10, false, []⟩, ⟨11, true, []⟩])]
theorem ok278 : funcOk Tryz.prog 278 ord278 = true := by kernel_rfl
theorem co278 : callOk Tryz.prog 278 = true := callOk_of ok278
def ord279 : Ord := [(8, [⟨0, false, []⟩, ⟨1, false, []⟩, ⟨2, false, []⟩, ⟨3, false, []⟩, ⟨4, false, []⟩, ⟨5, false, []⟩, ⟨6, false, []⟩, ⟨7, false, []⟩, ⟨8, true, []⟩, ⟨9, false, []⟩, ⟨10, false, []⟩, ⟨11, false, []⟩, ⟨12, true, [11]⟩, ⟨13, true, []⟩]), (18, [⟨0, false, []⟩, ⟨1, false, []⟩, ⟨2, false, []⟩, ⟨3, false, []⟩, ⟨4, false, []⟩, ⟨5, false, []⟩, ⟨6, false, []⟩, ⟨7, false, []⟩, ⟨8, false, []⟩, ⟨9, true, []⟩, ⟨10, false, []⟩, ⟨11, false, []⟩, ⟨12, false, []⟩, ⟨13, true, [12]⟩, ⟨14, true, []⟩]), (24, [⟨0, false, []⟩, ⟨1, false, []⟩, ⟨2, false, []⟩, ⟨3, false, []⟩, ⟨4, false, []⟩, ⟨5, false, []⟩, ⟨6, false, []⟩, ⟨7, false, []⟩, ⟨8, false, []⟩, ⟨13, false, []⟩, ⟨9, true, [13]⟩, ⟨10, false, []⟩, ⟨11, false, []⟩, ⟨12, false, []⟩, ⟨14, true, [12]⟩, ⟨15, true, []⟩]), (33, [⟨0, false, []⟩, ⟨1, false, []⟩, ⟨2, false, []⟩, ⟨3, false, []⟩, ⟨4, false, []⟩, ⟨5, false, []⟩, ⟨6, false, []⟩, ⟨7, false, []⟩, ⟨8, false, []⟩, ⟨9, true, []⟩, ⟨10, true, []⟩])]
theorem ok279 : funcOk Tryz.prog 279 ord279 = true := by kernel_rfl
theorem co279 : callOk Tryz.prog 279 = true := callOk_of ok279
def ord280 : Ord := [(2, [⟨0, false, []⟩, ⟨1, false, []⟩, ⟨2, false, []⟩, ⟨3, false, []⟩, ⟨4, false, []⟩, ⟨5, true, []⟩, ⟨6, true, []⟩])]
theorem ok280 : funcOk Tryz.prog 280 ord280 = true := by kernel_rfl
theorem co280 : callOk Tryz.prog 280 = true := callOk_of ok280
def ord281 : Ord := []
theorem ok281 : funcOk Tryz.prog 281 ord281 = true := by kernel_rfl
theorem co281 : callOk Tryz.prog 281 = true := callOk_of ok281
def ord282 : Ord := []
theorem ok282 : funcOk Tryz.prog 282 ord282 = true := by kernel_rfl
theorem co282 : callOk Tryz.prog 282 = true := callOk_of ok282
def ord283 : Ord := []
theorem ok283 : funcOk Tryz.prog 283 ord283 = true := by kernel_rfl
theorem co283 : callOk Tryz.prog 283 = true := callOk_of ok283
def ord284 : Ord := []
theorem ok284 : funcOk Tryz.prog 284 ord284 = true := by kernel_rfl
theorem co284 : callOk Tryz.prog 284 = true := callOk_of ok284
def ord285 : Ord := []
theorem ok285 : funcOk Tryz.prog 285 ord285 = true := by kernel_rfl
theorem co285 : callOk Tryz.prog 285 = true := callOk_of ok285
theorem no286 : callOk Tryz.prog 286 = false := by kernel_rfl
theorem no287 : callOk Tryz.prog 287 = false := by kernel_rfl
theorem no288 : callOk Tryz.prog 288 = false := by kernel_rfl
theorem no289 : callOk Tryz.prog 289 = false := by kernel_rfl
theorem no290 : callOk Tryz.prog 290 = false := by kernel_rfl
theorem no291 : callOk Tryz.prog 291 = false := by kernel_rfl
theorem no292 : callOk Tryz.prog 292 = false := by kernel_rfl
theorem no293 : callOk Tryz.prog 293 = false := by kernel_rfl
theorem no294 : callOk Tryz.prog 294 = false := by kernel_rfl
theorem no295 : callOk Tryz.prog 295 = false := by kernel_rfl
theorem no296 : callOk Tryz.prog 296 = false := by kernel_rfl
theorem no297 : callOk Tryz.prog 297 = false := by kernel_rfl
theorem no298 : callOk Tryz.prog 298 = false := by kernel_rfl
theorem no299 : callOk Tryz.prog 299 = false := by kernel_rfl
theorem no300 : callOk Tryz.prog 300 = false := by kernel_rfl
theorem no301 : callOk Tryz.prog 301 = false := by kernel_rfl
theorem no302 : callOk Tryz.prog 302 = false := by kernel_rfl
theorem no303 : callOk Tryz.prog 303 = false := by kernel_rfl
theorem no304 : callOk Tryz.prog 304 = false := by kernel_rfl
theorem no305 : callOk Tryz.prog 305 = false := by kernel_rfl
theorem no306 : callOk Tryz.prog 306 = false := by kernel_rfl
theorem no307 : callOk Tryz.prog 307 = false := by kernel_rfl
end Go.Proofs.Tryz
