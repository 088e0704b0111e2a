/- For each function: the orders of its regions that draw theirs; that it may be walked, and called. Written by program (facts.py). A lemma file: no statement of its own. -/
import Derived.Test.YtakgfhdaimeafaaGreatChecked
import Derived.Test.YtakgfhdaimeafaaGreatqFwD
set_option linter.unusedSimpArgs false
set_option linter.unusedVariables false
namespace Go.Proofs.Tryz
open Go.Cs
theorem hmix : Tryz.prog.follows .mixedOrders = true := by kernel_rfl
def ord6 : Ord := []
theorem ok6 : funcOk Tryz.prog 6 ord6 = true := by kernel_rfl
def ord7 : Ord := [(10, [⟨0, false, []⟩, ⟨1, false, []⟩, ⟨2, false, []⟩, ⟨3, false, []⟩, ⟨4, false, []⟩, ⟨5, false, []⟩, ⟨6, false, []⟩, ⟨7, false, []⟩, ⟨8, false, []⟩, ⟨9, false, []⟩, ⟨10, false, []⟩, ⟨11, false, []⟩, ⟨13, false, []⟩, ⟨12, true, [13]⟩, ⟨14, false, []⟩, ⟨15, false, []⟩, ⟨16, false, []⟩, ⟨17, false, []⟩, ⟨18, false, []⟩, ⟨19, false, []⟩, ⟨20, true, []⟩, ⟨21, false, []⟩, ⟨22, false, []⟩, ⟨23, false, []⟩, ⟨24, false, []⟩, ⟨25, true, []⟩, ⟨26, false, []⟩, ⟨27, false, []⟩, ⟨28, true, []⟩])]
theorem ok7 : funcOk Tryz.prog 7 ord7 = true := by kernel_rfl
theorem co7 : callOk Tryz.prog 7 = true := callOk_of ok7
def ord8 : Ord := [(1, [⟨0, false, []⟩, ⟨3, false, []⟩, ⟨4, false, []⟩, ⟨6, false, []⟩, ⟨7, false, []⟩, ⟨1, true, [7, 6, 4, 3]⟩, ⟨2, true, [7, 6, 4, 3]⟩, ⟨5, true, [7, 6]⟩, ⟨8, true, []⟩, ⟨9, false, []⟩, ⟨10, false, []⟩, ⟨11, true, []⟩])]
theorem ok8 : funcOk Tryz.prog 8 ord8 = true := by kernel_rfl
theorem co8 : callOk Tryz.prog 8 = true := callOk_of ok8
def ord9 : Ord := []
theorem ok9 : funcOk Tryz.prog 9 ord9 = true := by kernel_rfl
theorem co9 : callOk Tryz.prog 9 = true := callOk_of ok9
def ord10 : Ord := [(7, [⟨0, false, []⟩, ⟨1, false, []⟩, ⟨2, false, []⟩, ⟨3, false, []⟩, ⟨4, false, []⟩, ⟨5, false, []⟩, ⟨6, false, []⟩, ⟨8, false, []⟩, ⟨9, false, []⟩, ⟨10, false, []⟩, ⟨11, false, []⟩, ⟨12, false, []⟩, ⟨13, false, []⟩, ⟨14, false, []⟩, ⟨7, true, [14, 13, 12, 11, 10, 9, 8]⟩, ⟨15, true, []⟩, ⟨16, false, []⟩, ⟨17, true, []⟩]), (9, [⟨0, false, []⟩, ⟨1, false, []⟩, ⟨2, false, []⟩, ⟨3, false, []⟩, ⟨4, false, []⟩, ⟨6, false, []⟩, ⟨7, false, []⟩, ⟨8, false, []⟩, ⟨9, false, []⟩, ⟨10, false, []⟩, ⟨5, true, [10, 9, 8, 7, 6]⟩, ⟨11, true, []⟩, ⟨12, false, []⟩, ⟨13, true, []⟩]), (11, [⟨0, false, []⟩, ⟨1, false, []⟩, ⟨2, false, []⟩, ⟨3, false, []⟩, ⟨4, false, []⟩, ⟨6, false, []⟩, ⟨7, false, []⟩, ⟨8, false, []⟩, ⟨9, false, []⟩, ⟨10, false, []⟩, ⟨5, true, [10, 9, 8, 7, 6]⟩, ⟨11, true, []⟩, ⟨12, false, []⟩, ⟨13, true, []⟩]), (13, [⟨0, false, []⟩, ⟨1, false, []⟩, ⟨2, false, []⟩, ⟨3, false, []⟩, ⟨4, false, []⟩, ⟨5, false, []⟩, ⟨6, false, []⟩, ⟨8, false, []⟩, ⟨9, false, []⟩, ⟨10, false, []⟩, ⟨11, false, []⟩, ⟨12, false, []⟩, ⟨13, false, []⟩, ⟨14, false, []⟩, ⟨7, true, [14, 13, 12, 11, 10, 9, 8]⟩, ⟨15, true, []⟩, ⟨16, false, []⟩, ⟨17, true, []⟩]), (15, [⟨0, false, []⟩, ⟨1, false, []⟩, ⟨2, false, []⟩, ⟨3, false, []⟩, ⟨4, false, []⟩, ⟨5, false, []⟩, ⟨6, false, []⟩, ⟨8, false, []⟩, ⟨9, false, []⟩, ⟨10, false, []⟩, ⟨11, false, []⟩, ⟨12, false, []⟩, ⟨13, false, []⟩, ⟨14, false, []⟩, ⟨7, true, [14, 13, 12, 11, 10, 9, 8]⟩, ⟨15, true, []⟩, ⟨16, false, []⟩, ⟨17, true, []⟩]), (17, [⟨0, false, []⟩, ⟨1, false, []⟩, ⟨2, false, []⟩, ⟨3, false, []⟩, ⟨4, false, []⟩, ⟨6, false, []⟩, ⟨7, false, []⟩, ⟨8, false, []⟩, ⟨9, false, []⟩, ⟨10, false, []⟩, ⟨5, true, [10, 9, 8, 7, 6]⟩, ⟨11, true, []⟩, ⟨12, false, []⟩, ⟨13, true, []⟩]), (18, [⟨0, false, []⟩, ⟨1, false, []⟩, ⟨2, false, []⟩, ⟨3, false, []⟩, ⟨4, false, []⟩, ⟨6, false, []⟩, ⟨7, false, []⟩, ⟨8, false, []⟩, ⟨9, false, []⟩, ⟨10, false, []⟩, ⟨5, true, [10, 9, 8, 7, 6]⟩, ⟨11, true, []⟩, ⟨12, false, []⟩, ⟨13, true, []⟩])]
theorem ok10 : funcOk Tryz.prog 10 ord10 = true := by kernel_rfl
theorem co10 : callOk Tryz.prog 10 = true := callOk_of ok10
def ord11 : Ord := [(1, [⟨0, false, []⟩, ⟨1, false, []⟩, ⟨3, false, []⟩, ⟨4, false, []⟩, ⟨6, false, []⟩, ⟨2, true, [6, 4, 3]⟩, ⟨5, true, [6]⟩, ⟨7, true, []⟩, ⟨8, false, []⟩, ⟨9, false, []⟩, ⟨10, true, []⟩])]
theorem ok11 : funcOk Tryz.prog 11 ord11 = true := by kernel_rfl
theorem co11 : callOk Tryz.prog 11 = true := callOk_of ok11
def ord12 : Ord := []
theorem ok12 : funcOk Tryz.prog 12 ord12 = true := by kernel_rfl
theorem co12 : callOk Tryz.prog 12 = true := callOk_of ok12
def ord13 : Ord := []
theorem ok13 : funcOk Tryz.prog 13 ord13 = true := by kernel_rfl
theorem co13 : callOk Tryz.prog 13 = true := callOk_of ok13
def ord14 : Ord := []
theorem ok14 : funcOk Tryz.prog 14 ord14 = true := by kernel_rfl
theorem co14 : callOk Tryz.prog 14 = true := callOk_of ok14
def ord15 : Ord := []
theorem ok15 : funcOk Tryz.prog 15 ord15 = true := by kernel_rfl
theorem co15 : callOk Tryz.prog 15 = true := callOk_of ok15
def ord16 : Ord := []
theorem ok16 : funcOk Tryz.prog 16 ord16 = true := by kernel_rfl
theorem co16 : callOk Tryz.prog 16 = true := callOk_of ok16
def ord17 : Ord := []
theorem ok17 : funcOk Tryz.prog 17 ord17 = true := by kernel_rfl
theorem co17 : callOk Tryz.prog 17 = true := callOk_of ok17
def ord18 : Ord := [(10, [⟨0, false, []⟩, ⟨2, false, []⟩, ⟨3, false, []⟩, ⟨4, false, []⟩, ⟨5, false, []⟩, ⟨1, true, [5, 4, 3, 2]⟩, ⟨6, false, []⟩]), (17, [⟨0, false, []⟩, ⟨1, false, []⟩, ⟨2, false, []⟩, ⟨3, false, []⟩, ⟨4, false, []⟩, ⟨5, false, []⟩, ⟨6, false, []⟩, ⟨7, false, []⟩, ⟨8, false, []⟩, ⟨9, true, [2, 1, 0]⟩, ⟨10, false, []⟩, ⟨11, false, []⟩, ⟨12, true, [1]⟩, ⟨13, false, []⟩, ⟨14, false, []⟩, ⟨15, true, []⟩]), (19, [⟨0, false, []⟩, ⟨1, false, []⟩, ⟨3, false, []⟩, ⟨4, false, []⟩, ⟨2, true, [4, 3]⟩, ⟨5, true, []⟩])]
theorem ok18 : funcOk Tryz.prog 18 ord18 = true := by kernel_rfl
theorem co18 : callOk Tryz.prog 18 = true := callOk_of ok18
def ord19 : Ord := []
theorem ok19 : funcOk Tryz.prog 19 ord19 = true := by kernel_rfl
theorem co19 : callOk Tryz.prog 19 = true := callOk_of ok19
def ord20 : Ord := []
theorem ok20 : funcOk Tryz.prog 20 ord20 = true := by kernel_rfl
theorem co20 : callOk Tryz.prog 20 = true := callOk_of ok20
def ord21 : Ord := []
theorem ok21 : funcOk Tryz.prog 21 ord21 = true := by kernel_rfl
theorem co21 : callOk Tryz.prog 21 = true := callOk_of ok21
def ord22 : Ord := [(1, [⟨0, false, []⟩, ⟨2, false, []⟩, ⟨3, false, []⟩, ⟨4, false, []⟩, ⟨5, false, []⟩, ⟨6, false, []⟩, ⟨1, true, [6, 5, 4, 3, 2]⟩, ⟨7, false, []⟩, ⟨8, false, []⟩, ⟨9, false, []⟩, ⟨11, false, []⟩, ⟨10, true, [11]⟩, ⟨12, true, []⟩, ⟨13, false, []⟩, ⟨14, false, []⟩])]
theorem ok22 : funcOk Tryz.prog 22 ord22 = true := by kernel_rfl
theorem co22 : callOk Tryz.prog 22 = true := callOk_of ok22
def ord23 : Ord := [(3, [⟨0, false, []⟩, ⟨1, false, []⟩, ⟨2, false, []⟩, ⟨3, false, []⟩, ⟨4, false, []⟩, ⟨5, false, []⟩, ⟨6, false, []⟩, ⟨7, false, []⟩, ⟨8, false, []⟩, ⟨9, false, []⟩, ⟨10, true, []⟩])]
theorem ok23 : funcOk Tryz.prog 23 ord23 = true := by kernel_rfl
theorem co23 : callOk Tryz.prog 23 = true := callOk_of ok23
def ord24 : Ord := []
theorem ok24 : funcOk Tryz.prog 24 ord24 = true := by kernel_rfl
theorem co24 : callOk Tryz.prog 24 = true := callOk_of ok24
def ord25 : Ord := [(12, [⟨0, false, []⟩, ⟨1, false, []⟩, ⟨2, false, []⟩, ⟨3, false, []⟩, ⟨4, false, []⟩, ⟨5, false, []⟩, ⟨6, false, []⟩, ⟨7, false, []⟩, ⟨8, false, []⟩, ⟨9, true, []⟩, ⟨10, true, []⟩])]
theorem ok25 : funcOk Tryz.prog 25 ord25 = true := by kernel_rfl
theorem co25 : callOk Tryz.prog 25 = true := callOk_of ok25
def ord26 : Ord := []
theorem ok26 : funcOk Tryz.prog 26 ord26 = true := by kernel_rfl
theorem co26 : callOk Tryz.prog 26 = true := callOk_of ok26
def ord27 : Ord := []
theorem ok27 : funcOk Tryz.prog 27 ord27 = true := by kernel_rfl
theorem co27 : callOk Tryz.prog 27 = true := callOk_of ok27
def ord28 : Ord := []
theorem ok28 : funcOk Tryz.prog 28 ord28 = true := by kernel_rfl
theorem co28 : callOk Tryz.prog 28 = true := callOk_of ok28
def ord29 : Ord := []
theorem ok29 : funcOk Tryz.prog 29 ord29 = true := by kernel_rfl
theorem co29 : callOk Tryz.prog 29 = true := callOk_of ok29
def ord30 : Ord := [(1, [⟨0, false, []⟩, ⟨1, false, []⟩, ⟨2, false, []⟩, ⟨3, false, []⟩, ⟨4, false, []⟩, ⟨5, false, []⟩, ⟨6, false, []⟩, ⟨7, false, []⟩, ⟨8, false, []⟩, ⟨9, false, []⟩]), (3, [⟨0, false, []⟩, ⟨1, false, []⟩, ⟨2, false, []⟩, ⟨3, false, []⟩, ⟨4, false, []⟩, ⟨5, false, []⟩, ⟨6, false, []⟩, ⟨7, false, []⟩, ⟨8, false, []⟩, ⟨9, true, [4, 3, 2, 1, 0]⟩, ⟨10, false, []⟩, ⟨11, false, []⟩, ⟨12, false, []⟩, ⟨13, true, [0]⟩, ⟨14, false, []⟩, ⟨15, false, []⟩, ⟨16, true, []⟩])]
theorem ok30 : funcOk Tryz.prog 30 ord30 = true := by kernel_rfl
theorem co30 : callOk Tryz.prog 30 = true := callOk_of ok30
def ord31 : Ord := [(5, [⟨0, false, []⟩, ⟨1, false, []⟩, ⟨2, false, []⟩, ⟨3, false, []⟩, ⟨4, false, []⟩, ⟨5, false, []⟩, ⟨6, false, []⟩, ⟨7, false, []⟩, ⟨8, false, []⟩, ⟨9, false, []⟩, ⟨10, false, []⟩, ⟨11, false, []⟩, ⟨12, false, []⟩, ⟨13, false, []⟩, ⟨14, false, []⟩]), (10, [⟨0, false, []⟩, ⟨1, false, []⟩, ⟨2, false, []⟩, ⟨3, false, []⟩, ⟨4, false, []⟩, ⟨5, true, []⟩])]
theorem ok31 : funcOk Tryz.prog 31 ord31 = true := by kernel_rfl
theorem co31 : callOk Tryz.prog 31 = true := callOk_of ok31
def ord32 : Ord := []
theorem ok32 : funcOk Tryz.prog 32 ord32 = true := by kernel_rfl
theorem co32 : callOk Tryz.prog 32 = true := callOk_of ok32
def ord33 : Ord := [(14, [⟨0, false, []⟩, ⟨1, false, []⟩, ⟨2, false, []⟩, ⟨3, false, []⟩, ⟨4, false, []⟩, ⟨5, false, []⟩, ⟨6, false, []⟩, ⟨7, false, []⟩, ⟨8, false, []⟩, ⟨9, false, []⟩, ⟨10, true, [0]⟩, ⟨11, false, []⟩, ⟨12, false, []⟩, ⟨13, true, []⟩])]
theorem ok33 : funcOk Tryz.prog 33 ord33 = true := by kernel_rfl
theorem co33 : callOk Tryz.prog 33 = true := callOk_of ok33
def ord34 : Ord := [(4, [⟨0, false, []⟩, ⟨1, false, []⟩, ⟨2, false, []⟩, ⟨3, false, []⟩, ⟨4, false, []⟩, ⟨5, false, []⟩, ⟨6, false, []⟩, ⟨7, true, []⟩])]
theorem ok34 : funcOk Tryz.prog 34 ord34 = true := by kernel_rfl
theorem co34 : callOk Tryz.prog 34 = true := callOk_of ok34
def ord35 : Ord := [(3, [⟨0, false, []⟩, ⟨1, false, []⟩, ⟨2, false, []⟩, ⟨3, false, []⟩, ⟨4, false, []⟩, ⟨5, false, []⟩, ⟨6, false, []⟩, ⟨7, false, []⟩, ⟨8, false, []⟩, ⟨9, false, []⟩, ⟨10, false, []⟩, ⟨11, false, []⟩, ⟨12, false, []⟩, ⟨13, false, []⟩, ⟨14, false, []⟩, ⟨15, true, []⟩])]
theorem ok35 : funcOk Tryz.prog 35 ord35 = true := by kernel_rfl
theorem co35 : callOk Tryz.prog 35 = true := callOk_of ok35
def ord36 : Ord := [(7, [⟨0, false, []⟩, ⟨1, false, []⟩, ⟨2, false, []⟩, ⟨3, false, []⟩, ⟨4, false, []⟩, ⟨5, false, []⟩, ⟨6, false, []⟩, ⟨7, false, []⟩, ⟨9, false, []⟩, ⟨10, false, []⟩, ⟨11, false, []⟩, ⟨12, false, []⟩, ⟨8, true, [12, 11, 10, 9]⟩, ⟨13, false, []⟩, ⟨14, false, []⟩]), (9, [⟨0, false, []⟩, ⟨1, false, []⟩, ⟨2, false, []⟩, ⟨3, false, []⟩, ⟨4, false, []⟩, ⟨5, false, []⟩, ⟨6, false, []⟩, ⟨7, false, []⟩, ⟨8, false, []⟩, ⟨9, false, []⟩]), (11, [⟨0, false, []⟩, ⟨1, false, []⟩, ⟨2, false, []⟩, ⟨3, false, []⟩, ⟨4, false, []⟩, ⟨5, false, []⟩, ⟨6, false, []⟩, ⟨7, false, []⟩, ⟨8, false, []⟩, ⟨9, true, [2, 1, 0]⟩, ⟨10, false, []⟩, ⟨11, false, []⟩, ⟨12, true, [1]⟩, ⟨13, false, []⟩, ⟨14, false, []⟩, ⟨15, true, []⟩])]
theorem ok36 : funcOk Tryz.prog 36 ord36 = true := by kernel_rfl
theorem co36 : callOk Tryz.prog 36 = true := callOk_of ok36
def ord37 : Ord := [(4, [⟨0, false, []⟩, ⟨1, false, []⟩, ⟨2, false, []⟩, ⟨3, false, []⟩, ⟨4, false, []⟩, ⟨5, false, []⟩, ⟨6, false, []⟩, ⟨7, false, []⟩, ⟨8, false, []⟩, ⟨9, false, []⟩, ⟨10, false, []⟩, ⟨12, false, []⟩, ⟨13, false, []⟩, ⟨14, false, []⟩, ⟨15, false, []⟩, ⟨11, true, [15, 14, 13, 12]⟩, ⟨16, false, []⟩, ⟨17, false, []⟩]), (6, [⟨0, false, []⟩, ⟨1, false, []⟩, ⟨2, false, []⟩, ⟨3, false, []⟩, ⟨4, false, []⟩, ⟨5, false, []⟩, ⟨6, false, []⟩, ⟨7, false, []⟩, ⟨8, false, []⟩, ⟨9, false, []⟩, ⟨10, false, []⟩]), (9, [⟨0, false, []⟩, ⟨1, false, []⟩, ⟨2, false, []⟩, ⟨3, false, []⟩, ⟨4, false, []⟩, ⟨5, false, []⟩, ⟨6, false, []⟩, ⟨7, false, []⟩, ⟨8, false, []⟩, ⟨9, true, []⟩, ⟨10, false, []⟩, ⟨11, false, []⟩, ⟨12, false, []⟩, ⟨13, true, [12]⟩, ⟨14, true, []⟩]), (10, [⟨0, false, []⟩, ⟨1, false, []⟩, ⟨2, false, []⟩, ⟨3, false, []⟩, ⟨4, false, []⟩, ⟨5, true, []⟩])]
theorem ok37 : funcOk Tryz.prog 37 ord37 = true := by kernel_rfl
theorem co37 : callOk Tryz.prog 37 = true := callOk_of ok37
def ord38 : Ord := [(6, [⟨0, false, []⟩, ⟨1, false, []⟩, ⟨2, false, []⟩, ⟨3, false, []⟩, ⟨4, false, []⟩, ⟨5, false, []⟩, ⟨6, false, []⟩, ⟨7, false, []⟩, ⟨8, false, []⟩, ⟨9, false, []⟩, ⟨10, true, [4, 3, 2, 1, 0]⟩, ⟨11, true, []⟩, ⟨12, true, []⟩])]
theorem ok38 : funcOk Tryz.prog 38 ord38 = true := by kernel_rfl
theorem co38 : callOk Tryz.prog 38 = true := callOk_of ok38
def ord39 : Ord := [(3, [⟨0, false, []⟩, ⟨1, false, []⟩, ⟨2, false, []⟩, ⟨3, false, []⟩, ⟨4, false, []⟩, ⟨5, false, []⟩, ⟨6, false, []⟩, ⟨7, false, []⟩, ⟨8, false, []⟩, ⟨9, true, [4, 3, 2, 1, 0]⟩, ⟨10, true, []⟩, ⟨11, true, []⟩])]
theorem ok39 : funcOk Tryz.prog 39 ord39 = true := by kernel_rfl
theorem co39 : callOk Tryz.prog 39 = true := callOk_of ok39
def ord40 : Ord := []
theorem ok40 : funcOk Tryz.prog 40 ord40 = true := by kernel_rfl
theorem co40 : callOk Tryz.prog 40 = true := callOk_of ok40
def ord41 : Ord := []
theorem ok41 : funcOk Tryz.prog 41 ord41 = true := by kernel_rfl
theorem co41 : callOk Tryz.prog 41 = true := callOk_of ok41
def ord42 : Ord := []
theorem ok42 : funcOk Tryz.prog 42 ord42 = true := by kernel_rfl
theorem co42 : callOk Tryz.prog 42 = true := callOk_of ok42
def ord43 : Ord := []
theorem ok43 : funcOk Tryz.prog 43 ord43 = true := by kernel_rfl
theorem co43 : callOk Tryz.prog 43 = true := callOk_of ok43
def ord44 : Ord := []
theorem ok44 : funcOk Tryz.prog 44 ord44 = true := by kernel_rfl
theorem co44 : callOk Tryz.prog 44 = true := callOk_of ok44
def ord45 : Ord := []
theorem ok45 : funcOk Tryz.prog 45 ord45 = true := by kernel_rfl
theorem co45 : callOk Tryz.prog 45 = true := callOk_of ok45
def ord46 : Ord := [(1, [⟨0, false, []⟩, ⟨1, false, []⟩, ⟨2, false, []⟩, ⟨3, false, []⟩, ⟨4, false, []⟩, ⟨5, false, []⟩, ⟨6, false, []⟩, ⟨7, false, []⟩, ⟨8, true, []⟩, ⟨9, true, []⟩]), (4, [⟨0, false, []⟩, ⟨1, false, []⟩, ⟨2, false, []⟩, ⟨3, false, []⟩, ⟨4, false, []⟩, ⟨5, false, []⟩, ⟨6, false, []⟩, ⟨7, false, []⟩, ⟨8, true, []⟩, ⟨9, false, []⟩, ⟨10, false, []⟩, ⟨11, true, []⟩, ⟨12, true, []⟩])]
theorem ok46 : funcOk Tryz.prog 46 ord46 = true := by kernel_rfl
theorem co46 : callOk Tryz.prog 46 = true := callOk_of ok46
def ord47 : Ord := []
theorem ok47 : funcOk Tryz.prog 47 ord47 = true := by kernel_rfl
theorem co47 : callOk Tryz.prog 47 = true := callOk_of ok47
def ord48 : Ord := []
theorem ok48 : funcOk Tryz.prog 48 ord48 = true := by kernel_rfl
theorem co48 : callOk Tryz.prog 48 = true := callOk_of ok48
def ord49 : Ord := [(3, [⟨0, false, []⟩, ⟨1, false, []⟩, ⟨2, false, []⟩, ⟨3, false, []⟩, ⟨4, false, []⟩, ⟨5, false, []⟩, ⟨6, false, []⟩, ⟨7, false, []⟩, ⟨8, false, []⟩, ⟨9, false, []⟩, ⟨11, false, []⟩, ⟨10, true, [11, 3, 2, 1, 0]⟩, ⟨12, false, []⟩, ⟨13, true, []⟩]), (4, [⟨0, false, []⟩, ⟨1, false, []⟩, ⟨3, false, []⟩, ⟨4, false, []⟩, ⟨2, true, [4, 3]⟩, ⟨5, true, []⟩])]
theorem ok49 : funcOk Tryz.prog 49 ord49 = true := by kernel_rfl
theorem co49 : callOk Tryz.prog 49 = true := callOk_of ok49
def ord50 : Ord := []
theorem ok50 : funcOk Tryz.prog 50 ord50 = true := by kernel_rfl
theorem co50 : callOk Tryz.prog 50 = true := callOk_of ok50
def ord51 : Ord := [(5, [⟨0, false, []⟩, ⟨1, false, []⟩, ⟨2, false, []⟩, ⟨3, false, []⟩, ⟨4, false, []⟩, ⟨5, false, []⟩, ⟨6, false, []⟩, ⟨7, false, []⟩, ⟨8, true, []⟩]), (7, [⟨0, false, []⟩, ⟨1, false, []⟩, ⟨2, false, []⟩, ⟨3, false, []⟩, ⟨4, false, []⟩, ⟨5, false, []⟩, ⟨6, false, []⟩, ⟨7, false, []⟩, ⟨8, false, []⟩, ⟨9, false, []⟩, ⟨10, true, []⟩]), (8, [⟨0, false, []⟩, ⟨1, false, []⟩, ⟨2, false, []⟩, ⟨3, false, []⟩, ⟨4, false, []⟩, ⟨5, false, []⟩, ⟨6, false, []⟩, ⟨7, false, []⟩, ⟨8, false, []⟩, ⟨9, true, [0]⟩, ⟨10, false, []⟩, ⟨11, false, []⟩, ⟨12, true, []⟩])]
theorem ok51 : funcOk Tryz.prog 51 ord51 = true := by kernel_rfl
theorem co51 : callOk Tryz.prog 51 = true := callOk_of ok51
def ord52 : Ord := []
theorem ok52 : funcOk Tryz.prog 52 ord52 = true := by kernel_rfl
theorem co52 : callOk Tryz.prog 52 = true := callOk_of ok52
def ord53 : Ord := []
theorem ok53 : funcOk Tryz.prog 53 ord53 = true := by kernel_rfl
theorem co53 : callOk Tryz.prog 53 = true := callOk_of ok53
def ord54 : Ord := []
theorem ok54 : funcOk Tryz.prog 54 ord54 = true := by kernel_rfl
theorem co54 : callOk Tryz.prog 54 = true := callOk_of ok54
def ord55 : Ord := [(6, [⟨0, false, []⟩, ⟨1, false, []⟩, ⟨2, false, []⟩, ⟨3, false, []⟩, ⟨7, false, []⟩, ⟨8, false, []⟩, ⟨9, false, []⟩, ⟨10, false, []⟩, ⟨4, true, [10, 9, 8, 7, 1, 0]⟩, ⟨5, false, []⟩, ⟨6, false, []⟩, ⟨11, true, [6, 5, 1, 0]⟩, ⟨12, false, []⟩, ⟨13, true, []⟩]), (10, [⟨0, false, []⟩, ⟨1, false, []⟩, ⟨2, false, []⟩, ⟨3, false, []⟩, ⟨4, false, []⟩, ⟨5, false, []⟩, ⟨6, false, []⟩, ⟨7, false, []⟩, ⟨8, false, []⟩, ⟨9, false, []⟩, ⟨10, false, []⟩, ⟨11, false, []⟩, ⟨12, false, []⟩, ⟨13, false, []⟩, ⟨14, false, []⟩, ⟨15, false, []⟩, ⟨16, false, []⟩, ⟨17, false, []⟩, ⟨18, false, []⟩, ⟨19, false, []⟩, ⟨20, true, [11, 10, 9, 8, 7, 6, 5, 4, 3, 2, 1, 0]⟩, ⟨21, false, []⟩, ⟨22, true, []⟩])]
theorem ok55 : funcOk Tryz.prog 55 ord55 = true := by kernel_rfl
theorem co55 : callOk Tryz.prog 55 = true := callOk_of ok55
def ord56 : Ord := []
theorem ok56 : funcOk Tryz.prog 56 ord56 = true := by kernel_rfl
theorem co56 : callOk Tryz.prog 56 = true := callOk_of ok56
def ord57 : Ord := []
theorem ok57 : funcOk Tryz.prog 57 ord57 = true := by kernel_rfl
theorem co57 : callOk Tryz.prog 57 = true := callOk_of ok57
def ord58 : Ord := []
theorem ok58 : funcOk Tryz.prog 58 ord58 = true := by kernel_rfl
theorem co58 : callOk Tryz.prog 58 = true := callOk_of ok58
def ord59 : Ord := []
theorem ok59 : funcOk Tryz.prog 59 ord59 = true := by kernel_rfl
theorem co59 : callOk Tryz.prog 59 = true := callOk_of ok59
def ord60 : Ord := []
theorem ok60 : funcOk Tryz.prog 60 ord60 = true := by kernel_rfl
theorem co60 : callOk Tryz.prog 60 = true := callOk_of ok60
def ord61 : Ord := []
theorem ok61 : funcOk Tryz.prog 61 ord61 = true := by kernel_rfl
theorem co61 : callOk Tryz.prog 61 = true := callOk_of ok61
def ord62 : Ord := []
theorem ok62 : funcOk Tryz.prog 62 ord62 = true := by kernel_rfl
theorem co62 : callOk Tryz.prog 62 = true := callOk_of ok62
def ord63 : Ord := []
theorem ok63 : funcOk Tryz.prog 63 ord63 = true := by kernel_rfl
theorem co63 : callOk Tryz.prog 63 = true := callOk_of ok63
def ord64 : Ord := []
theorem ok64 : funcOk Tryz.prog 64 ord64 = true := by kernel_rfl
theorem co64 : callOk Tryz.prog 64 = true := callOk_of ok64
def ord65 : Ord := []
theorem ok65 : funcOk Tryz.prog 65 ord65 = true := by kernel_rfl
theorem co65 : callOk Tryz.prog 65 = true := callOk_of ok65
def ord66 : Ord := []
theorem ok66 : funcOk Tryz.prog 66 ord66 = true := by kernel_rfl
theorem co66 : callOk Tryz.prog 66 = true := callOk_of ok66
def ord67 : Ord := []
theorem ok67 : funcOk Tryz.prog 67 ord67 = true := by kernel_rfl
theorem co67 : callOk Tryz.prog 67 = true := callOk_of ok67
def ord68 : Ord := []
theorem ok68 : funcOk Tryz.prog 68 ord68 = true := by kernel_rfl
theorem co68 : callOk Tryz.prog 68 = true := callOk_of ok68
def ord69 : Ord := []
theorem ok69 : funcOk Tryz.prog 69 ord69 = true := by kernel_rfl
theorem co69 : callOk Tryz.prog 69 = true := callOk_of ok69
def ord70 : Ord := []
theorem ok70 : funcOk Tryz.prog 70 ord70 = true := by kernel_rfl
theorem co70 : callOk Tryz.prog 70 = true := callOk_of ok70
def ord71 : Ord := []
theorem ok71 : funcOk Tryz.prog 71 ord71 = true := by kernel_rfl
theorem co71 : callOk Tryz.prog 71 = true := callOk_of ok71
def ord72 : Ord := []
theorem ok72 : funcOk Tryz.prog 72 ord72 = true := by kernel_rfl
theorem co72 : callOk Tryz.prog 72 = true := callOk_of ok72
def ord73 : Ord := [(1, [⟨0, false, []⟩, ⟨1, false, []⟩, ⟨2, false, []⟩, ⟨3, false, []⟩, ⟨4, false, []⟩, ⟨5, false, []⟩, ⟨6, false, []⟩, ⟨7, false, []⟩, ⟨8, false, []⟩, ⟨9, false, []⟩, ⟨10, true, []⟩, ⟨11, true, []⟩])]
theorem ok73 : funcOk Tryz.prog 73 ord73 = true := by kernel_rfl
theorem co73 : callOk Tryz.prog 73 = true := callOk_of ok73
def ord74 : Ord := []
theorem ok74 : funcOk Tryz.prog 74 ord74 = true := by kernel_rfl
theorem co74 : callOk Tryz.prog 74 = true := callOk_of ok74
def ord75 : Ord := []
theorem ok75 : funcOk Tryz.prog 75 ord75 = true := by kernel_rfl
theorem co75 : callOk Tryz.prog 75 = true := callOk_of ok75
def ord76 : Ord := [(3, [⟨0, false, []⟩, ⟨1, false, []⟩, ⟨2, false, []⟩, ⟨3, false, []⟩, ⟨4, false, []⟩, ⟨5, false, []⟩, ⟨6, false, []⟩, ⟨7, true, []⟩]), (6, [⟨0, false, []⟩, ⟨1, false, []⟩, ⟨2, false, []⟩, ⟨3, false, []⟩, ⟨4, false, []⟩, ⟨5, false, []⟩, ⟨6, false, []⟩, ⟨7, true, [0]⟩, ⟨8, false, []⟩, ⟨9, false, []⟩, ⟨10, true, []⟩])]
theorem ok76 : funcOk Tryz.prog 76 ord76 = true := by kernel_rfl
theorem co76 : callOk Tryz.prog 76 = true := callOk_of ok76
def ord77 : Ord := []
theorem ok77 : funcOk Tryz.prog 77 ord77 = true := by kernel_rfl
theorem co77 : callOk Tryz.prog 77 = true := callOk_of ok77
def ord78 : Ord := []
theorem ok78 : funcOk Tryz.prog 78 ord78 = true := by kernel_rfl
theorem co78 : callOk Tryz.prog 78 = true := callOk_of ok78
def ord79 : Ord := []
theorem ok79 : funcOk Tryz.prog 79 ord79 = true := by kernel_rfl
theorem co79 : callOk Tryz.prog 79 = true := callOk_of ok79
def ord80 : Ord := [(7, [⟨0, false, []⟩, ⟨1, false, []⟩, ⟨2, false, []⟩, ⟨3, false, []⟩, ⟨4, false, []⟩, ⟨5, false, []⟩, ⟨6, false, []⟩, ⟨7, false, []⟩, ⟨8, false, []⟩, ⟨9, false, []⟩, ⟨10, false, []⟩, ⟨11, false, []⟩, ⟨12, false, []⟩, ⟨13, false, []⟩, ⟨14, false, []⟩, ⟨15, false, []⟩, ⟨16, false, []⟩, ⟨17, false, []⟩, ⟨18, false, []⟩, ⟨19, false, []⟩, ⟨20, false, []⟩, ⟨21, false, []⟩, ⟨22, false, []⟩, ⟨23, false, []⟩, ⟨24, false, []⟩, ⟨25, false, []⟩, ⟨26, false, []⟩, ⟨27, false, []⟩, ⟨28, false, []⟩, ⟨29, false, []⟩, ⟨30, false, []⟩, ⟨31, false, []⟩, ⟨32, true, []⟩, ⟨33, false, []⟩])]
theorem ok80 : funcOk Tryz.prog 80 ord80 = true := by kernel_rfl
theorem co80 : callOk Tryz.prog 80 = true := callOk_of ok80
def ord81 : Ord := []
theorem ok81 : funcOk Tryz.prog 81 ord81 = true := by kernel_rfl
theorem co81 : callOk Tryz.prog 81 = true := callOk_of ok81
def ord82 : Ord := []
theorem ok82 : funcOk Tryz.prog 82 ord82 = true := by kernel_rfl
theorem co82 : callOk Tryz.prog 82 = true := callOk_of ok82
def ord83 : Ord := []
theorem ok83 : funcOk Tryz.prog 83 ord83 = true := by kernel_rfl
theorem co83 : callOk Tryz.prog 83 = true := callOk_of ok83
def ord84 : Ord := [(7, [⟨0, false, []⟩, ⟨1, false, []⟩, ⟨2, false, []⟩, ⟨3, false, []⟩, ⟨4, false, []⟩, ⟨5, false, []⟩, ⟨6, false, []⟩, ⟨7, false, []⟩, ⟨8, false, []⟩, ⟨9, false, []⟩, ⟨10, false, []⟩, ⟨11, false, []⟩, ⟨12, false, []⟩, ⟨13, true, []⟩, ⟨14, true, []⟩])]
theorem ok84 : funcOk Tryz.prog 84 ord84 = true := by kernel_rfl
theorem co84 : callOk Tryz.prog 84 = true := callOk_of ok84
def ord85 : Ord := []
theorem ok85 : funcOk Tryz.prog 85 ord85 = true := by kernel_rfl
theorem co85 : callOk Tryz.prog 85 = true := callOk_of ok85
def ord86 : Ord := []
theorem ok86 : funcOk Tryz.prog 86 ord86 = true := by kernel_rfl
theorem co86 : callOk Tryz.prog 86 = true := callOk_of ok86
def ord87 : Ord := [(4, [⟨0, false, []⟩, ⟨1, false, []⟩, ⟨2, false, []⟩, ⟨3, false, []⟩, ⟨4, false, []⟩, ⟨5, false, []⟩, ⟨6, false, []⟩, ⟨7, false, []⟩, ⟨8, false, []⟩, ⟨9, false, []⟩, ⟨10, false, []⟩, ⟨11, false, []⟩, ⟨12, false, []⟩, ⟨13, true, [9, 8, 7, 6, 5, 4, 3, 2, 1, 0]⟩, ⟨14, false, []⟩, ⟨15, true, []⟩, ⟨16, true, []⟩])]
theorem ok87 : funcOk Tryz.prog 87 ord87 = true := by kernel_rfl
theorem co87 : callOk Tryz.prog 87 = true := callOk_of ok87
def ord88 : Ord := []
theorem ok88 : funcOk Tryz.prog 88 ord88 = true := by kernel_rfl
theorem co88 : callOk Tryz.prog 88 = true := callOk_of ok88
def ord89 : Ord := []
theorem ok89 : funcOk Tryz.prog 89 ord89 = true := by kernel_rfl
theorem co89 : callOk Tryz.prog 89 = true := callOk_of ok89
def ord90 : Ord := []
theorem ok90 : funcOk Tryz.prog 90 ord90 = true := by kernel_rfl
theorem co90 : callOk Tryz.prog 90 = true := callOk_of ok90
def ord91 : Ord := []
theorem ok91 : funcOk Tryz.prog 91 ord91 = true := by kernel_rfl
theorem co91 : callOk Tryz.prog 91 = true := callOk_of ok91
def ord92 : Ord := []
theorem ok92 : funcOk Tryz.prog 92 ord92 = true := by kernel_rfl
theorem co92 : callOk Tryz.prog 92 = true := callOk_of ok92
def ord93 : Ord := []
theorem ok93 : funcOk Tryz.prog 93 ord93 = true := by kernel_rfl
theorem co93 : callOk Tryz.prog 93 = true := callOk_of ok93
def ord94 : Ord := []
theorem ok94 : funcOk Tryz.prog 94 ord94 = true := by kernel_rfl
theorem co94 : callOk Tryz.prog 94 = true := callOk_of ok94
def ord95 : Ord := []
theorem ok95 : funcOk Tryz.prog 95 ord95 = true := by kernel_rfl
theorem co95 : callOk Tryz.prog 95 = true := callOk_of ok95
def ord96 : Ord := []
theorem ok96 : funcOk Tryz.prog 96 ord96 = true := by kernel_rfl
theorem co96 : callOk Tryz.prog 96 = true := callOk_of ok96
def ord97 : Ord := []
theorem ok97 : funcOk Tryz.prog 97 ord97 = true := by kernel_rfl
theorem co97 : callOk Tryz.prog 97 = true := callOk_of ok97
def ord98 : Ord := []
theorem ok98 : funcOk Tryz.prog 98 ord98 = true := by kernel_rfl
theorem co98 : callOk Tryz.prog 98 = true := callOk_of ok98
def ord99 : Ord := []
theorem ok99 : funcOk Tryz.prog 99 ord99 = true := by kernel_rfl
theorem co99 : callOk Tryz.prog 99 = true := callOk_of ok99
def ord100 : Ord := []
theorem ok100 : funcOk Tryz.prog 100 ord100 = true := by kernel_rfl
theorem co100 : callOk Tryz.prog 100 = true := callOk_of ok100
def ord101 : Ord := []
theorem ok101 : funcOk Tryz.prog 101 ord101 = true := by kernel_rfl
theorem co101 : callOk Tryz.prog 101 = true := callOk_of ok101
def ord102 : Ord := []
theorem ok102 : funcOk Tryz.prog 102 ord102 = true := by kernel_rfl
theorem co102 : callOk Tryz.prog 102 = true := callOk_of ok102
def ord103 : Ord := []
theorem ok103 : funcOk Tryz.prog 103 ord103 = true := by kernel_rfl
theorem co103 : callOk Tryz.prog 103 = true := callOk_of ok103
def ord104 : Ord := [(1, [⟨0, false, []⟩, ⟨1, false, []⟩, ⟨2, false, []⟩, ⟨3, false, []⟩, ⟨4, false, []⟩, ⟨5, false, []⟩, ⟨6, false, []⟩, ⟨7, false, []⟩, ⟨8, false, []⟩, ⟨9, false, []⟩]), (3, [⟨0, false, []⟩, ⟨1, false, []⟩, ⟨2, false, []⟩, ⟨3, false, []⟩, ⟨4, false, []⟩, ⟨5, false, []⟩, ⟨6, false, []⟩, ⟨7, true, [0]⟩, ⟨8, false, []⟩, ⟨9, false, []⟩, ⟨10, true, []⟩])]
theorem ok104 : funcOk Tryz.prog 104 ord104 = true := by kernel_rfl
theorem co104 : callOk Tryz.prog 104 = true := callOk_of ok104
def ord105 : Ord := [(0, [⟨0, false, []⟩, ⟨1, false, []⟩, ⟨2, false, []⟩, ⟨3, false, []⟩, ⟨4, false, []⟩, ⟨5, false, []⟩, ⟨6, false, []⟩, ⟨7, false, []⟩, ⟨8, false, []⟩, ⟨9, false, []⟩, ⟨10, false, []⟩, ⟨11, false, []⟩, ⟨12, false, []⟩, ⟨13, false, []⟩, ⟨14, false, []⟩, ⟨15, false, []⟩, ⟨16, false, []⟩, ⟨17, false, []⟩, ⟨18, false, []⟩, ⟨19, false, []⟩]), (5, [⟨0, false, []⟩, ⟨1, false, []⟩, ⟨2, false, []⟩, ⟨3, false, []⟩, ⟨4, false, []⟩, ⟨5, false, []⟩, ⟨6, false, []⟩, ⟨7, true, []⟩])]
theorem ok105 : funcOk Tryz.prog 105 ord105 = true := by kernel_rfl
theorem co105 : callOk Tryz.prog 105 = true := callOk_of ok105
def ord106 : Ord := []
theorem ok106 : funcOk Tryz.prog 106 ord106 = true := by kernel_rfl
theorem co106 : callOk Tryz.prog 106 = true := callOk_of ok106
def ord107 : Ord := []
theorem ok107 : funcOk Tryz.prog 107 ord107 = true := by kernel_rfl
theorem co107 : callOk Tryz.prog 107 = true := callOk_of ok107
def ord108 : Ord := []
theorem ok108 : funcOk Tryz.prog 108 ord108 = true := by kernel_rfl
theorem co108 : callOk Tryz.prog 108 = true := callOk_of ok108
def ord109 : Ord := []
theorem ok109 : funcOk Tryz.prog 109 ord109 = true := by kernel_rfl
theorem co109 : callOk Tryz.prog 109 = true := callOk_of ok109
def ord110 : Ord := [(4, [⟨0, false, []⟩, ⟨1, false, []⟩, ⟨2, false, []⟩, ⟨3, false, []⟩, ⟨4, false, []⟩, ⟨5, false, []⟩, ⟨6, false, []⟩, ⟨7, false, []⟩, ⟨8, false, []⟩, ⟨9, false, []⟩, ⟨10, false, []⟩, ⟨11, false, []⟩, ⟨12, false, []⟩, ⟨13, false, []⟩, ⟨14, false, []⟩, ⟨15, false, []⟩, ⟨16, false, []⟩, ⟨17, false, []⟩, ⟨18, false, []⟩, ⟨19, false, []⟩, ⟨20, false, []⟩, ⟨21, false, []⟩, ⟨22, true, []⟩, ⟨23, false, []⟩]), (6, [⟨0, false, []⟩, ⟨1, false, []⟩, ⟨2, false, []⟩, ⟨3, false, []⟩, ⟨4, false, []⟩, ⟨5, false, []⟩, ⟨6, false, []⟩, ⟨7, false, []⟩, ⟨8, false, []⟩, ⟨9, false, []⟩]), (8, [⟨0, false, []⟩, ⟨1, false, []⟩, ⟨2, false, []⟩, ⟨3, false, []⟩, ⟨4, false, []⟩, ⟨5, false, []⟩, ⟨6, false, []⟩, ⟨7, true, [0]⟩, ⟨8, false, []⟩, ⟨9, false, []⟩, ⟨10, true, []⟩])]
theorem ok110 : funcOk Tryz.prog 110 ord110 = true := by kernel_rfl
theorem co110 : callOk Tryz.prog 110 = true := callOk_of ok110
def ord111 : Ord := []
theorem ok111 : funcOk Tryz.prog 111 ord111 = true := by kernel_rfl
theorem co111 : callOk Tryz.prog 111 = true := callOk_of ok111
def ord112 : Ord := [(6, [⟨0, false, []⟩, ⟨1, false, []⟩, ⟨2, false, []⟩, ⟨3, false, []⟩, ⟨4, false, []⟩, ⟨5, false, []⟩, ⟨6, false, []⟩, ⟨7, false, []⟩, ⟨8, false, []⟩])]
theorem ok112 : funcOk Tryz.prog 112 ord112 = true := by kernel_rfl
theorem co112 : callOk Tryz.prog 112 = true := callOk_of ok112
def ord113 : Ord := []
theorem ok113 : funcOk Tryz.prog 113 ord113 = true := by kernel_rfl
theorem co113 : callOk Tryz.prog 113 = true := callOk_of ok113
def ord114 : Ord := []
theorem ok114 : funcOk Tryz.prog 114 ord114 = true := by kernel_rfl
theorem co114 : callOk Tryz.prog 114 = true := callOk_of ok114
def ord115 : Ord := [(3, [⟨0, false, []⟩, ⟨1, false, []⟩, ⟨2, false, []⟩, ⟨3, false, []⟩, ⟨4, false, []⟩, ⟨5, false, []⟩, ⟨6, false, []⟩, ⟨7, false, []⟩, ⟨8, false, []⟩, ⟨9, false, []⟩, ⟨10, false, []⟩, ⟨11, false, []⟩, ⟨12, false, []⟩, ⟨13, true, [3, 2]⟩, ⟨14, false, []⟩, ⟨15, true, []⟩])]
theorem ok115 : funcOk Tryz.prog 115 ord115 = true := by kernel_rfl
theorem co115 : callOk Tryz.prog 115 = true := callOk_of ok115
def ord116 : Ord := [(2, [⟨0, false, []⟩, ⟨1, false, []⟩, ⟨2, false, []⟩, ⟨3, false, []⟩, ⟨4, false, []⟩, ⟨5, true, []⟩, ⟨6, true, []⟩])]
theorem ok116 : funcOk Tryz.prog 116 ord116 = true := by kernel_rfl
theorem co116 : callOk Tryz.prog 116 = true := callOk_of ok116
def ord117 : Ord := []
theorem ok117 : funcOk Tryz.prog 117 ord117 = true := by kernel_rfl
theorem co117 : callOk Tryz.prog 117 = true := callOk_of ok117
def ord118 : Ord := [(12, [⟨0, false, []⟩, ⟨1, false, []⟩, ⟨2, false, []⟩, ⟨3, false, []⟩, ⟨4, false, []⟩, ⟨5, false, []⟩, ⟨6, false, []⟩, ⟨7, false, []⟩, ⟨8, false, []⟩, ⟨9, false, []⟩, ⟨10, true, []⟩, ⟨11, true, []⟩])]
theorem ok118 : funcOk Tryz.prog 118 ord118 = true := by kernel_rfl
theorem co118 : callOk Tryz.prog 118 = true := callOk_of ok118
def ord119 : Ord := []
theorem ok119 : funcOk Tryz.prog 119 ord119 = true := by kernel_rfl
theorem co119 : callOk Tryz.prog 119 = true := callOk_of ok119
def ord120 : Ord := []
theorem ok120 : funcOk Tryz.prog 120 ord120 = true := by kernel_rfl
theorem co120 : callOk Tryz.prog 120 = true := callOk_of ok120
def ord121 : Ord := []
theorem ok121 : funcOk Tryz.prog 121 ord121 = true := by kernel_rfl
theorem co121 : callOk Tryz.prog 121 = true := callOk_of ok121
theorem no122 : callOk Tryz.prog 122 = false := by kernel_rfl
def ord123 : Ord := []
theorem ok123 : funcOk Tryz.prog 123 ord123 = true := by kernel_rfl
theorem co123 : callOk Tryz.prog 123 = true := callOk_of ok123
def ord124 : Ord := []
theorem ok124 : funcOk Tryz.prog 124 ord124 = true := by kernel_rfl
theorem co124 : callOk Tryz.prog 124 = true := callOk_of ok124
def ord125 : Ord := []
theorem ok125 : funcOk Tryz.prog 125 ord125 = true := by kernel_rfl
theorem co125 : callOk Tryz.prog 125 = true := callOk_of ok125
end Go.Proofs.Tryz
