/- For each function: the orders of its regions that draw theirs; that it may be walked, and called. Written by program (facts.py). A lemma file: no statement of its own. -/
import Derived.Test.YtnkichmojbanlaaGreatChecked
import Derived.Test.YtnkichmojbanlaaGreatqFwD
set_option linter.unusedSimpArgs false
set_option linter.unusedVariables false
namespace Go.Proofs.Tryz
open Go.Cs
theorem hmix : Tryz.prog.follows .mixedOrders = true := by kernel_rfl
def ord4 : Ord := [(19, [⟨0, false, []⟩, ⟨1, false, []⟩, ⟨2, false, []⟩, ⟨3, false, []⟩, ⟨4, false, []⟩, ⟨5, false, []⟩, ⟨6, false, []⟩, ⟨7, false, []⟩, ⟨8, false, []⟩, ⟨9, false, []⟩, ⟨11, false, []⟩, ⟨12, false, []⟩, ⟨13, false, []⟩, ⟨14, false, []⟩, ⟨15, false, []⟩, ⟨10, true, [15, 14, 13, 12, 11]⟩, ⟨16, true, []⟩, ⟨17, false, []⟩, ⟨18, true, []⟩]), (21, [⟨0, false, []⟩, ⟨1, false, []⟩, ⟨2, false, []⟩, ⟨3, false, []⟩, ⟨4, false, []⟩, ⟨5, false, []⟩, ⟨6, false, []⟩, ⟨7, false, []⟩, ⟨8, false, []⟩, ⟨9, false, []⟩, ⟨10, false, []⟩, ⟨11, false, []⟩, ⟨13, false, []⟩, ⟨14, false, []⟩, ⟨15, false, []⟩, ⟨16, false, []⟩, ⟨17, false, []⟩, ⟨18, false, []⟩, ⟨19, false, []⟩, ⟨12, true, [19, 18, 17, 16, 15, 14, 13]⟩, ⟨20, true, []⟩, ⟨21, false, []⟩, ⟨22, true, []⟩]), (23, [⟨0, false, []⟩, ⟨1, false, []⟩, ⟨2, false, []⟩, ⟨3, false, []⟩, ⟨4, false, []⟩, ⟨5, false, []⟩, ⟨6, false, []⟩, ⟨8, false, []⟩, ⟨9, false, []⟩, ⟨10, false, []⟩, ⟨11, false, []⟩, ⟨12, false, []⟩, ⟨13, false, []⟩, ⟨14, false, []⟩, ⟨7, true, [14, 13, 12, 11, 10, 9, 8]⟩, ⟨15, true, []⟩, ⟨16, false, []⟩, ⟨17, true, []⟩]), (25, [⟨0, false, []⟩, ⟨1, false, []⟩, ⟨2, false, []⟩, ⟨3, false, []⟩, ⟨4, false, []⟩, ⟨6, false, []⟩, ⟨7, false, []⟩, ⟨8, false, []⟩, ⟨9, false, []⟩, ⟨10, false, []⟩, ⟨5, true, [10, 9, 8, 7, 6]⟩, ⟨11, true, []⟩, ⟨12, false, []⟩, ⟨13, true, []⟩]), (27, [⟨0, false, []⟩, ⟨1, false, []⟩, ⟨2, false, []⟩, ⟨3, false, []⟩, ⟨4, false, []⟩, ⟨6, false, []⟩, ⟨7, false, []⟩, ⟨8, false, []⟩, ⟨9, false, []⟩, ⟨10, false, []⟩, ⟨5, true, [10, 9, 8, 7, 6]⟩, ⟨11, true, []⟩, ⟨12, false, []⟩, ⟨13, true, []⟩])]
theorem ok4 : funcOk Tryz.prog 4 ord4 = true := by kernel_rfl
def ord6 : Ord := [(1, [⟨0, false, []⟩, ⟨3, false, []⟩, ⟨4, false, []⟩, ⟨6, false, []⟩, ⟨7, false, []⟩, ⟨1, true, [7, 6, 4, 3]⟩, ⟨2, true, [7, 6, 4, 3]⟩, ⟨5, true, [7, 6]⟩, ⟨8, true, []⟩, ⟨9, false, []⟩, ⟨10, false, []⟩, ⟨11, true, []⟩])]
theorem ok6 : funcOk Tryz.prog 6 ord6 = true := by kernel_rfl
theorem co6 : callOk Tryz.prog 6 = true := callOk_of ok6
def ord8 : Ord := [(5, [⟨0, false, []⟩, ⟨1, false, []⟩, ⟨2, false, []⟩, ⟨3, false, []⟩, ⟨4, false, []⟩, ⟨5, false, []⟩, ⟨6, false, []⟩, ⟨7, false, []⟩, ⟨8, false, []⟩, ⟨9, false, []⟩, ⟨10, true, [0]⟩, ⟨11, false, []⟩, ⟨12, false, []⟩, ⟨13, true, []⟩])]
theorem ok8 : funcOk Tryz.prog 8 ord8 = true := by kernel_rfl
theorem co8 : callOk Tryz.prog 8 = true := callOk_of ok8
def ord9 : Ord := []
theorem ok9 : funcOk Tryz.prog 9 ord9 = true := by kernel_rfl
theorem co9 : callOk Tryz.prog 9 = true := callOk_of ok9
def ord10 : Ord := []
theorem ok10 : funcOk Tryz.prog 10 ord10 = true := by kernel_rfl
theorem co10 : callOk Tryz.prog 10 = true := callOk_of ok10
def ord11 : Ord := []
theorem ok11 : funcOk Tryz.prog 11 ord11 = true := by kernel_rfl
theorem co11 : callOk Tryz.prog 11 = true := callOk_of ok11
def ord12 : Ord := []
theorem ok12 : funcOk Tryz.prog 12 ord12 = true := by kernel_rfl
theorem co12 : callOk Tryz.prog 12 = true := callOk_of ok12
def ord17 : Ord := [(3, [⟨0, false, []⟩, ⟨1, false, []⟩, ⟨2, false, []⟩, ⟨3, false, []⟩, ⟨4, false, []⟩, ⟨5, false, []⟩, ⟨6, false, []⟩, ⟨7, false, []⟩, ⟨8, false, []⟩, ⟨9, false, []⟩, ⟨10, true, []⟩])]
theorem ok17 : funcOk Tryz.prog 17 ord17 = true := by kernel_rfl
theorem co17 : callOk Tryz.prog 17 = true := callOk_of ok17
def ord18 : Ord := []
theorem ok18 : funcOk Tryz.prog 18 ord18 = true := by kernel_rfl
theorem co18 : callOk Tryz.prog 18 = true := callOk_of ok18
def ord19 : Ord := []
theorem ok19 : funcOk Tryz.prog 19 ord19 = true := by kernel_rfl
theorem co19 : callOk Tryz.prog 19 = true := callOk_of ok19
def ord20 : Ord := [(11, [⟨0, false, []⟩, ⟨1, false, []⟩, ⟨2, false, []⟩, ⟨3, false, []⟩, ⟨4, false, []⟩, ⟨5, false, []⟩, ⟨6, false, []⟩, ⟨7, true, []⟩, ⟨8, true, []⟩]), (12, [⟨0, false, []⟩, ⟨1, false, []⟩, ⟨2, false, []⟩, ⟨3, false, []⟩, ⟨4, false, []⟩, ⟨5, false, []⟩, ⟨6, false, []⟩, ⟨7, true, []⟩])]
theorem ok20 : funcOk Tryz.prog 20 ord20 = true := by kernel_rfl
theorem co20 : callOk Tryz.prog 20 = true := callOk_of ok20
def ord21 : Ord := [(10, [⟨0, false, []⟩, ⟨2, false, []⟩, ⟨3, false, []⟩, ⟨4, false, []⟩, ⟨5, false, []⟩, ⟨1, true, [5, 4, 3, 2]⟩, ⟨6, false, []⟩]), (17, [⟨0, false, []⟩, ⟨1, false, []⟩, ⟨2, false, []⟩, ⟨3, false, []⟩, ⟨4, false, []⟩, ⟨5, false, []⟩, ⟨6, false, []⟩, ⟨7, false, []⟩, ⟨8, false, []⟩, ⟨9, true, [2, 1, 0]⟩, ⟨10, false, []⟩, ⟨11, false, []⟩, ⟨12, true, [1]⟩, ⟨13, false, []⟩, ⟨14, false, []⟩, ⟨15, true, []⟩]), (19, [⟨0, false, []⟩, ⟨1, false, []⟩, ⟨3, false, []⟩, ⟨4, false, []⟩, ⟨2, true, [4, 3]⟩, ⟨5, true, []⟩])]
theorem ok21 : funcOk Tryz.prog 21 ord21 = true := by kernel_rfl
theorem co21 : callOk Tryz.prog 21 = true := callOk_of ok21
def ord22 : Ord := []
theorem ok22 : funcOk Tryz.prog 22 ord22 = true := by kernel_rfl
theorem co22 : callOk Tryz.prog 22 = true := callOk_of ok22
def ord23 : Ord := [(12, [⟨0, false, []⟩, ⟨1, false, []⟩, ⟨2, false, []⟩, ⟨3, false, []⟩, ⟨4, false, []⟩, ⟨5, false, []⟩, ⟨6, false, []⟩, ⟨7, false, []⟩, ⟨8, false, []⟩, ⟨9, true, []⟩, ⟨10, true, []⟩])]
theorem ok23 : funcOk Tryz.prog 23 ord23 = true := by kernel_rfl
theorem co23 : callOk Tryz.prog 23 = true := callOk_of ok23
def ord24 : Ord := [(4, [⟨0, false, []⟩, ⟨1, false, []⟩, ⟨2, false, []⟩, ⟨3, false, []⟩, ⟨4, false, []⟩, ⟨5, false, []⟩, ⟨6, false, []⟩, ⟨7, false, []⟩, ⟨8, false, []⟩, ⟨9, false, []⟩, ⟨10, false, []⟩, ⟨11, false, []⟩, ⟨12, false, []⟩, ⟨13, false, []⟩, ⟨14, false, []⟩, ⟨15, false, []⟩, ⟨16, false, []⟩, ⟨17, false, []⟩, ⟨18, false, []⟩, ⟨19, false, []⟩, ⟨20, false, []⟩, ⟨21, true, []⟩])]
theorem ok24 : funcOk Tryz.prog 24 ord24 = true := by kernel_rfl
theorem co24 : callOk Tryz.prog 24 = true := callOk_of ok24
def ord25 : Ord := []
theorem ok25 : funcOk Tryz.prog 25 ord25 = true := by kernel_rfl
theorem co25 : callOk Tryz.prog 25 = true := callOk_of ok25
def ord26 : Ord := []
theorem ok26 : funcOk Tryz.prog 26 ord26 = true := by kernel_rfl
theorem co26 : callOk Tryz.prog 26 = true := callOk_of ok26
def ord29 : Ord := []
theorem ok29 : funcOk Tryz.prog 29 ord29 = true := by kernel_rfl
theorem co29 : callOk Tryz.prog 29 = true := callOk_of ok29
def ord30 : Ord := []
theorem ok30 : funcOk Tryz.prog 30 ord30 = true := by kernel_rfl
theorem co30 : callOk Tryz.prog 30 = true := callOk_of ok30
def ord31 : Ord := []
theorem ok31 : funcOk Tryz.prog 31 ord31 = true := by kernel_rfl
theorem co31 : callOk Tryz.prog 31 = true := callOk_of ok31
def ord35 : Ord := []
theorem ok35 : funcOk Tryz.prog 35 ord35 = true := by kernel_rfl
theorem co35 : callOk Tryz.prog 35 = true := callOk_of ok35
def ord36 : Ord := []
theorem ok36 : funcOk Tryz.prog 36 ord36 = true := by kernel_rfl
theorem co36 : callOk Tryz.prog 36 = true := callOk_of ok36
def ord45 : Ord := []
theorem ok45 : funcOk Tryz.prog 45 ord45 = true := by kernel_rfl
theorem co45 : callOk Tryz.prog 45 = true := callOk_of ok45
def ord46 : Ord := []
theorem ok46 : funcOk Tryz.prog 46 ord46 = true := by kernel_rfl
theorem co46 : callOk Tryz.prog 46 = true := callOk_of ok46
def ord47 : Ord := []
theorem ok47 : funcOk Tryz.prog 47 ord47 = true := by kernel_rfl
theorem co47 : callOk Tryz.prog 47 = true := callOk_of ok47
def ord48 : Ord := []
theorem ok48 : funcOk Tryz.prog 48 ord48 = true := by kernel_rfl
theorem co48 : callOk Tryz.prog 48 = true := callOk_of ok48
def ord49 : Ord := []
theorem ok49 : funcOk Tryz.prog 49 ord49 = true := by kernel_rfl
theorem co49 : callOk Tryz.prog 49 = true := callOk_of ok49
def ord50 : Ord := []
theorem ok50 : funcOk Tryz.prog 50 ord50 = true := by kernel_rfl
theorem co50 : callOk Tryz.prog 50 = true := callOk_of ok50
def ord51 : Ord := []
theorem ok51 : funcOk Tryz.prog 51 ord51 = true := by kernel_rfl
theorem co51 : callOk Tryz.prog 51 = true := callOk_of ok51
def ord52 : Ord := []
theorem ok52 : funcOk Tryz.prog 52 ord52 = true := by kernel_rfl
theorem co52 : callOk Tryz.prog 52 = true := callOk_of ok52
def ord53 : Ord := []
theorem ok53 : funcOk Tryz.prog 53 ord53 = true := by kernel_rfl
theorem co53 : callOk Tryz.prog 53 = true := callOk_of ok53
def ord54 : Ord := []
theorem ok54 : funcOk Tryz.prog 54 ord54 = true := by kernel_rfl
theorem co54 : callOk Tryz.prog 54 = true := callOk_of ok54
def ord55 : Ord := []
theorem ok55 : funcOk Tryz.prog 55 ord55 = true := by kernel_rfl
theorem co55 : callOk Tryz.prog 55 = true := callOk_of ok55
def ord56 : Ord := [(10, [⟨0, false, []⟩, ⟨1, false, []⟩, ⟨2, false, []⟩, ⟨3, false, []⟩, ⟨4, false, []⟩, ⟨5, true, [2, 1, 0]⟩, ⟨6, false, []⟩, ⟨7, false, []⟩, ⟨8, true, []⟩, ⟨9, false, []⟩, ⟨10, true, []⟩])]
theorem ok56 : funcOk Tryz.prog 56 ord56 = true := by kernel_rfl
theorem co56 : callOk Tryz.prog 56 = true := callOk_of ok56
def ord57 : Ord := [(3, [⟨0, false, []⟩, ⟨1, false, []⟩, ⟨2, false, []⟩, ⟨3, false, []⟩, ⟨4, false, []⟩, ⟨5, false, []⟩, ⟨6, false, []⟩, ⟨7, true, []⟩]), (4, [⟨0, false, []⟩, ⟨1, false, []⟩, ⟨2, false, []⟩, ⟨3, false, []⟩, ⟨4, false, []⟩, ⟨5, true, []⟩, ⟨6, false, []⟩, ⟨7, false, []⟩, ⟨8, false, []⟩, ⟨9, true, [8]⟩, ⟨10, true, []⟩])]
theorem ok57 : funcOk Tryz.prog 57 ord57 = true := by kernel_rfl
theorem co57 : callOk Tryz.prog 57 = true := callOk_of ok57
def ord58 : Ord := []
theorem ok58 : funcOk Tryz.prog 58 ord58 = true := by kernel_rfl
theorem co58 : callOk Tryz.prog 58 = true := callOk_of ok58
def ord59 : Ord := []
theorem ok59 : funcOk Tryz.prog 59 ord59 = true := by kernel_rfl
theorem co59 : callOk Tryz.prog 59 = true := callOk_of ok59
def ord60 : Ord := [(7, [⟨0, false, []⟩, ⟨1, false, []⟩, ⟨2, false, []⟩, ⟨3, false, []⟩, ⟨4, false, []⟩, ⟨5, false, []⟩, ⟨6, false, []⟩, ⟨7, false, []⟩, ⟨9, false, []⟩, ⟨10, false, []⟩, ⟨11, false, []⟩, ⟨12, false, []⟩, ⟨8, true, [12, 11, 10, 9]⟩, ⟨13, false, []⟩, ⟨14, false, []⟩]), (9, [⟨0, false, []⟩, ⟨1, false, []⟩, ⟨2, false, []⟩, ⟨3, false, []⟩, ⟨4, false, []⟩, ⟨5, false, []⟩, ⟨6, false, []⟩, ⟨7, false, []⟩, ⟨8, false, []⟩, ⟨9, false, []⟩]), (11, [⟨0, false, []⟩, ⟨1, false, []⟩, ⟨2, false, []⟩, ⟨3, false, []⟩, ⟨4, false, []⟩, ⟨5, false, []⟩, ⟨6, false, []⟩, ⟨7, false, []⟩, ⟨8, false, []⟩, ⟨9, true, [2, 1, 0]⟩, ⟨10, false, []⟩, ⟨11, false, []⟩, ⟨12, true, [1]⟩, ⟨13, false, []⟩, ⟨14, false, []⟩, ⟨15, true, []⟩])]
theorem ok60 : funcOk Tryz.prog 60 ord60 = true := by kernel_rfl
theorem co60 : callOk Tryz.prog 60 = true := callOk_of ok60
def ord61 : Ord := [(4, [⟨0, false, []⟩, ⟨1, false, []⟩, ⟨2, false, []⟩, ⟨3, false, []⟩, ⟨4, false, []⟩, ⟨5, false, []⟩, ⟨6, false, []⟩, ⟨7, true, []⟩])]
theorem ok61 : funcOk Tryz.prog 61 ord61 = true := by kernel_rfl
theorem co61 : callOk Tryz.prog 61 = true := callOk_of ok61
def ord62 : Ord := []
theorem ok62 : funcOk Tryz.prog 62 ord62 = true := by kernel_rfl
theorem co62 : callOk Tryz.prog 62 = true := callOk_of ok62
def ord63 : Ord := [(3, [⟨0, false, []⟩, ⟨1, false, []⟩, ⟨2, false, []⟩, ⟨3, false, []⟩, ⟨4, false, []⟩, ⟨5, false, []⟩, ⟨6, false, []⟩, ⟨7, false, []⟩, ⟨8, false, []⟩, ⟨9, false, []⟩, ⟨11, false, []⟩, ⟨10, true, [11, 3, 2, 1, 0]⟩, ⟨12, false, []⟩, ⟨13, true, []⟩]), (4, [⟨0, false, []⟩, ⟨1, false, []⟩, ⟨3, false, []⟩, ⟨4, false, []⟩, ⟨2, true, [4, 3]⟩, ⟨5, true, []⟩])]
theorem ok63 : funcOk Tryz.prog 63 ord63 = true := by kernel_rfl
theorem co63 : callOk Tryz.prog 63 = true := callOk_of ok63
def ord64 : Ord := []
theorem ok64 : funcOk Tryz.prog 64 ord64 = true := by kernel_rfl
theorem co64 : callOk Tryz.prog 64 = true := callOk_of ok64
def ord65 : Ord := [(6, [⟨0, false, []⟩, ⟨1, false, []⟩, ⟨2, false, []⟩, ⟨3, false, []⟩, ⟨4, false, []⟩, ⟨5, false, []⟩, ⟨6, false, []⟩, ⟨7, false, []⟩, ⟨8, false, []⟩, ⟨9, false, []⟩, ⟨10, true, [4, 3, 2, 1, 0]⟩, ⟨11, true, []⟩, ⟨12, true, []⟩])]
theorem ok65 : funcOk Tryz.prog 65 ord65 = true := by kernel_rfl
theorem co65 : callOk Tryz.prog 65 = true := callOk_of ok65
def ord66 : Ord := []
theorem ok66 : funcOk Tryz.prog 66 ord66 = true := by kernel_rfl
theorem co66 : callOk Tryz.prog 66 = true := callOk_of ok66
def ord67 : Ord := [(5, [⟨0, false, []⟩, ⟨1, false, []⟩, ⟨2, false, []⟩, ⟨3, false, []⟩, ⟨4, false, []⟩, ⟨5, false, []⟩, ⟨6, false, []⟩, ⟨7, false, []⟩, ⟨8, true, []⟩]), (7, [⟨0, false, []⟩, ⟨1, false, []⟩, ⟨2, false, []⟩, ⟨3, false, []⟩, ⟨4, false, []⟩, ⟨5, false, []⟩, ⟨6, false, []⟩, ⟨7, false, []⟩, ⟨8, false, []⟩, ⟨9, false, []⟩, ⟨10, true, []⟩]), (8, [⟨0, false, []⟩, ⟨1, false, []⟩, ⟨2, false, []⟩, ⟨3, false, []⟩, ⟨4, false, []⟩, ⟨5, false, []⟩, ⟨6, false, []⟩, ⟨7, false, []⟩, ⟨8, false, []⟩, ⟨9, true, [0]⟩, ⟨10, false, []⟩, ⟨11, false, []⟩, ⟨12, true, []⟩])]
theorem ok67 : funcOk Tryz.prog 67 ord67 = true := by kernel_rfl
theorem co67 : callOk Tryz.prog 67 = true := callOk_of ok67
def ord68 : Ord := []
theorem ok68 : funcOk Tryz.prog 68 ord68 = true := by kernel_rfl
theorem co68 : callOk Tryz.prog 68 = true := callOk_of ok68
def ord69 : Ord := []
theorem ok69 : funcOk Tryz.prog 69 ord69 = true := by kernel_rfl
theorem co69 : callOk Tryz.prog 69 = true := callOk_of ok69
def ord70 : Ord := []
theorem ok70 : funcOk Tryz.prog 70 ord70 = true := by kernel_rfl
theorem co70 : callOk Tryz.prog 70 = true := callOk_of ok70
def ord71 : Ord := []
theorem ok71 : funcOk Tryz.prog 71 ord71 = true := by kernel_rfl
theorem co71 : callOk Tryz.prog 71 = true := callOk_of ok71
def ord72 : Ord := []
theorem ok72 : funcOk Tryz.prog 72 ord72 = true := by kernel_rfl
theorem co72 : callOk Tryz.prog 72 = true := callOk_of ok72
def ord73 : Ord := []
theorem ok73 : funcOk Tryz.prog 73 ord73 = true := by kernel_rfl
theorem co73 : callOk Tryz.prog 73 = true := callOk_of ok73
def ord74 : Ord := []
theorem ok74 : funcOk Tryz.prog 74 ord74 = true := by kernel_rfl
theorem co74 : callOk Tryz.prog 74 = true := callOk_of ok74
def ord75 : Ord := []
theorem ok75 : funcOk Tryz.prog 75 ord75 = true := by kernel_rfl
theorem co75 : callOk Tryz.prog 75 = true := callOk_of ok75
def ord76 : Ord := []
theorem ok76 : funcOk Tryz.prog 76 ord76 = true := by kernel_rfl
theorem co76 : callOk Tryz.prog 76 = true := callOk_of ok76
def ord77 : Ord := []
theorem ok77 : funcOk Tryz.prog 77 ord77 = true := by kernel_rfl
theorem co77 : callOk Tryz.prog 77 = true := callOk_of ok77
def ord78 : Ord := []
theorem ok78 : funcOk Tryz.prog 78 ord78 = true := by kernel_rfl
theorem co78 : callOk Tryz.prog 78 = true := callOk_of ok78
def ord79 : Ord := [(1, [⟨0, false, []⟩, ⟨1, false, []⟩, ⟨2, false, []⟩, ⟨3, false, []⟩, ⟨4, false, []⟩, ⟨5, false, []⟩, ⟨6, false, []⟩, ⟨7, false, []⟩, ⟨8, false, []⟩, ⟨9, false, []⟩, ⟨10, true, []⟩, ⟨11, true, []⟩])]
theorem ok79 : funcOk Tryz.prog 79 ord79 = true := by kernel_rfl
theorem co79 : callOk Tryz.prog 79 = true := callOk_of ok79
def ord102 : Ord := [(1, [⟨0, false, []⟩, ⟨1, false, []⟩, ⟨2, false, []⟩, ⟨3, false, []⟩, ⟨4, false, []⟩, ⟨5, false, []⟩, ⟨6, false, []⟩, ⟨7, false, []⟩, ⟨8, false, []⟩, ⟨9, false, []⟩]), (3, [⟨0, false, []⟩, ⟨1, false, []⟩, ⟨2, false, []⟩, ⟨3, false, []⟩, ⟨4, false, []⟩, ⟨5, false, []⟩, ⟨6, false, []⟩, ⟨7, true, [0]⟩, ⟨8, false, []⟩, ⟨9, false, []⟩, ⟨10, true, []⟩])]
theorem ok102 : funcOk Tryz.prog 102 ord102 = true := by kernel_rfl
theorem co102 : callOk Tryz.prog 102 = true := callOk_of ok102
def ord103 : Ord := []
theorem ok103 : funcOk Tryz.prog 103 ord103 = true := by kernel_rfl
theorem co103 : callOk Tryz.prog 103 = true := callOk_of ok103
def ord104 : Ord := []
theorem ok104 : funcOk Tryz.prog 104 ord104 = true := by kernel_rfl
theorem co104 : callOk Tryz.prog 104 = true := callOk_of ok104
def ord105 : Ord := []
theorem ok105 : funcOk Tryz.prog 105 ord105 = true := by kernel_rfl
theorem co105 : callOk Tryz.prog 105 = true := callOk_of ok105
def ord106 : Ord := [(1, [⟨0, false, []⟩, ⟨1, false, []⟩, ⟨2, false, []⟩, ⟨4, false, []⟩, ⟨5, false, []⟩, ⟨3, true, [5, 4]⟩, ⟨6, false, []⟩, ⟨7, true, []⟩])]
theorem ok106 : funcOk Tryz.prog 106 ord106 = true := by kernel_rfl
theorem co106 : callOk Tryz.prog 106 = true := callOk_of ok106
def ord107 : Ord := []
theorem ok107 : funcOk Tryz.prog 107 ord107 = true := by kernel_rfl
theorem co107 : callOk Tryz.prog 107 = true := callOk_of ok107
def ord108 : Ord := [(3, [⟨0, false, []⟩, ⟨2, false, []⟩, ⟨3, false, []⟩, ⟨1, true, [3, 2]⟩, ⟨4, true, []⟩, ⟨5, true, []⟩, ⟨6, true, []⟩])]
theorem ok108 : funcOk Tryz.prog 108 ord108 = true := by kernel_rfl
theorem co108 : callOk Tryz.prog 108 = true := callOk_of ok108
def ord109 : Ord := []
theorem ok109 : funcOk Tryz.prog 109 ord109 = true := by kernel_rfl
theorem co109 : callOk Tryz.prog 109 = true := callOk_of ok109
def ord110 : Ord := []
theorem ok110 : funcOk Tryz.prog 110 ord110 = true := by kernel_rfl
theorem co110 : callOk Tryz.prog 110 = true := callOk_of ok110
def ord111 : Ord := []
theorem ok111 : funcOk Tryz.prog 111 ord111 = true := by kernel_rfl
theorem co111 : callOk Tryz.prog 111 = true := callOk_of ok111
def ord112 : Ord := []
theorem ok112 : funcOk Tryz.prog 112 ord112 = true := by kernel_rfl
theorem co112 : callOk Tryz.prog 112 = true := callOk_of ok112
def ord113 : Ord := []
theorem ok113 : funcOk Tryz.prog 113 ord113 = true := by kernel_rfl
theorem co113 : callOk Tryz.prog 113 = true := callOk_of ok113
def ord114 : Ord := []
theorem ok114 : funcOk Tryz.prog 114 ord114 = true := by kernel_rfl
theorem co114 : callOk Tryz.prog 114 = true := callOk_of ok114
def ord115 : Ord := []
theorem ok115 : funcOk Tryz.prog 115 ord115 = true := by kernel_rfl
theorem co115 : callOk Tryz.prog 115 = true := callOk_of ok115
def ord116 : Ord := []
theorem ok116 : funcOk Tryz.prog 116 ord116 = true := by kernel_rfl
theorem co116 : callOk Tryz.prog 116 = true := callOk_of ok116
def ord117 : Ord := [(7, [⟨0, false, []⟩, ⟨1, false, []⟩, ⟨2, false, []⟩, ⟨3, false, []⟩, ⟨4, false, []⟩, ⟨5, false, []⟩, ⟨6, false, []⟩, ⟨7, false, []⟩, ⟨8, false, []⟩, ⟨9, false, []⟩, ⟨10, false, []⟩, ⟨11, false, []⟩, ⟨12, false, []⟩, ⟨13, true, []⟩, ⟨14, true, []⟩])]
theorem ok117 : funcOk Tryz.prog 117 ord117 = true := by kernel_rfl
theorem co117 : callOk Tryz.prog 117 = true := callOk_of ok117
def ord118 : Ord := []
theorem ok118 : funcOk Tryz.prog 118 ord118 = true := by kernel_rfl
theorem co118 : callOk Tryz.prog 118 = true := callOk_of ok118
def ord119 : Ord := [(1, [⟨0, false, []⟩, ⟨1, false, []⟩, ⟨2, false, []⟩, ⟨3, false, []⟩, ⟨4, false, []⟩, ⟨5, false, []⟩, ⟨6, false, []⟩, ⟨7, false, []⟩, ⟨8, true, []⟩, ⟨9, true, []⟩]), (4, [⟨0, false, []⟩, ⟨1, false, []⟩, ⟨2, false, []⟩, ⟨3, false, []⟩, ⟨4, false, []⟩, ⟨5, false, []⟩, ⟨6, false, []⟩, ⟨7, false, []⟩, ⟨8, true, []⟩, ⟨9, false, []⟩, ⟨10, false, []⟩, ⟨11, true, []⟩, ⟨12, true, []⟩])]
theorem ok119 : funcOk Tryz.prog 119 ord119 = true := by kernel_rfl
theorem co119 : callOk Tryz.prog 119 = true := callOk_of ok119
def ord120 : Ord := []
theorem ok120 : funcOk Tryz.prog 120 ord120 = true := by kernel_rfl
theorem co120 : callOk Tryz.prog 120 = true := callOk_of ok120
def ord121 : Ord := [(0, [⟨0, false, []⟩, ⟨1, false, []⟩, ⟨2, false, []⟩, ⟨3, false, []⟩, ⟨4, false, []⟩, ⟨5, false, []⟩, ⟨6, false, []⟩, ⟨7, false, []⟩, ⟨8, false, []⟩, ⟨9, false, []⟩, ⟨10, false, []⟩, ⟨11, false, []⟩, ⟨12, false, []⟩, ⟨13, false, []⟩, ⟨14, false, []⟩, ⟨15, false, []⟩, ⟨16, false, []⟩, ⟨17, false, []⟩, ⟨18, false, []⟩, ⟨19, false, []⟩]), (5, [⟨0, false, []⟩, ⟨1, false, []⟩, ⟨2, false, []⟩, ⟨3, false, []⟩, ⟨4, false, []⟩, ⟨5, false, []⟩, ⟨6, false, []⟩, ⟨7, true, []⟩])]
theorem ok121 : funcOk Tryz.prog 121 ord121 = true := by kernel_rfl
theorem co121 : callOk Tryz.prog 121 = true := callOk_of ok121
def ord122 : Ord := []
theorem ok122 : funcOk Tryz.prog 122 ord122 = true := by kernel_rfl
theorem co122 : callOk Tryz.prog 122 = true := callOk_of ok122
def ord123 : Ord := []
theorem ok123 : funcOk Tryz.prog 123 ord123 = true := by kernel_rfl
theorem co123 : callOk Tryz.prog 123 = true := callOk_of ok123
def ord124 : Ord := []
theorem ok124 : funcOk Tryz.prog 124 ord124 = true := by kernel_rfl
theorem co124 : callOk Tryz.prog 124 = true := callOk_of ok124
def ord125 : Ord := []
theorem ok125 : funcOk Tryz.prog 125 ord125 = true := by kernel_rfl
theorem co125 : callOk Tryz.prog 125 = true := callOk_of ok125
def ord126 : Ord := []
theorem ok126 : funcOk Tryz.prog 126 ord126 = true := by kernel_rfl
theorem co126 : callOk Tryz.prog 126 = true := callOk_of ok126
def ord127 : Ord := []
theorem ok127 : funcOk Tryz.prog 127 ord127 = true := by kernel_rfl
theorem co127 : callOk Tryz.prog 127 = true := callOk_of ok127
def ord139 : Ord := []
theorem ok139 : funcOk Tryz.prog 139 ord139 = true := by kernel_rfl
theorem co139 : callOk Tryz.prog 139 = true := callOk_of ok139
def ord140 : Ord := []
theorem ok140 : funcOk Tryz.prog 140 ord140 = true := by kernel_rfl
theorem co140 : callOk Tryz.prog 140 = true := callOk_of ok140
def ord141 : Ord := []
theorem ok141 : funcOk Tryz.prog 141 ord141 = true := by kernel_rfl
theorem co141 : callOk Tryz.prog 141 = true := callOk_of ok141
def ord142 : Ord := []
theorem ok142 : funcOk Tryz.prog 142 ord142 = true := by kernel_rfl
theorem co142 : callOk Tryz.prog 142 = true := callOk_of ok142
def ord143 : Ord := []
theorem ok143 : funcOk Tryz.prog 143 ord143 = true := by kernel_rfl
theorem co143 : callOk Tryz.prog 143 = true := callOk_of ok143
def ord144 : Ord := []
theorem ok144 : funcOk Tryz.prog 144 ord144 = true := by kernel_rfl
theorem co144 : callOk Tryz.prog 144 = true := callOk_of ok144
def ord145 : Ord := []
theorem ok145 : funcOk Tryz.prog 145 ord145 = true := by kernel_rfl
theorem co145 : callOk Tryz.prog 145 = true := callOk_of ok145
def ord146 : Ord := []
theorem ok146 : funcOk Tryz.prog 146 ord146 = true := by kernel_rfl
theorem co146 : callOk Tryz.prog 146 = true := callOk_of ok146
def ord147 : Ord := []
theorem ok147 : funcOk Tryz.prog 147 ord147 = true := by kernel_rfl
theorem co147 : callOk Tryz.prog 147 = true := callOk_of ok147
def ord148 : Ord := [(3, [⟨0, false, []⟩, ⟨1, false, []⟩, ⟨2, false, []⟩, ⟨3, false, []⟩, ⟨4, false, []⟩, ⟨5, false, []⟩, ⟨6, false, []⟩, ⟨7, false, []⟩, ⟨8, false, []⟩, ⟨9, false, []⟩, ⟨10, false, []⟩, ⟨11, false, []⟩, ⟨12, false, []⟩, ⟨13, true, [3, 2]⟩, ⟨14, false, []⟩, ⟨15, true, []⟩])]
theorem ok148 : funcOk Tryz.prog 148 ord148 = true := by kernel_rfl
theorem co148 : callOk Tryz.prog 148 = true := callOk_of ok148
theorem no149 : callOk Tryz.prog 149 = false := by kernel_rfl
def ord150 : Ord := []
theorem ok150 : funcOk Tryz.prog 150 ord150 = true := by kernel_rfl
theorem co150 : callOk Tryz.prog 150 = true := callOk_of ok150
def ord151 : Ord := []
theorem ok151 : funcOk Tryz.prog 151 ord151 = true := by kernel_rfl
theorem co151 : callOk Tryz.prog 151 = true := callOk_of ok151
def ord154 : Ord := [(2, [⟨0, false, []⟩, ⟨1, false, []⟩, ⟨2, false, []⟩, ⟨3, false, []⟩, ⟨4, false, []⟩, ⟨5, true, []⟩, ⟨6, true, []⟩])]
theorem ok154 : funcOk Tryz.prog 154 ord154 = true := by kernel_rfl
theorem co154 : callOk Tryz.prog 154 = true := callOk_of ok154
def ord155 : Ord := []
theorem ok155 : funcOk Tryz.prog 155 ord155 = true := by kernel_rfl
theorem co155 : callOk Tryz.prog 155 = true := callOk_of ok155
end Go.Proofs.Tryz
