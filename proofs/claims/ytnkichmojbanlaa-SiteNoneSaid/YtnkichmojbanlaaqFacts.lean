/- For each function: the orders of its regions that draw theirs; that it may be walked, and called. Written by program (facts.py). A lemma file: no statement of its own. -/
import Derived.Test.YtnkichmojbanlaaChecked
import Derived.Test.YtnkichmojbanlaaqFwD
set_option linter.unusedSimpArgs false
set_option linter.unusedVariables false
namespace Go.Proofs.Try
open Go.Cs
theorem hmix : Try.prog.follows .mixedOrders = true := by kernel_rfl
def ord3 : Ord := [(18, [⟨0, false, []⟩, ⟨1, false, []⟩, ⟨2, false, []⟩, ⟨3, false, []⟩, ⟨4, false, []⟩, ⟨5, false, []⟩, ⟨6, false, []⟩, ⟨7, false, []⟩, ⟨8, false, []⟩, ⟨9, false, []⟩, ⟨10, false, []⟩, ⟨11, false, []⟩, ⟨12, false, []⟩, ⟨13, false, []⟩, ⟨14, false, []⟩, ⟨15, false, []⟩, ⟨16, false, []⟩, ⟨17, false, []⟩, ⟨18, false, []⟩, ⟨19, false, []⟩, ⟨20, false, []⟩, ⟨21, false, []⟩, ⟨23, false, []⟩, ⟨24, false, []⟩, ⟨25, false, []⟩, ⟨26, false, []⟩, ⟨27, false, []⟩, ⟨28, false, []⟩, ⟨29, false, []⟩, ⟨30, false, []⟩, ⟨31, false, []⟩, ⟨32, false, []⟩, ⟨33, false, []⟩, ⟨22, true, [33, 32, 31, 30, 29, 28, 27, 26, 25, 24, 23]⟩, ⟨34, true, []⟩, ⟨35, false, []⟩, ⟨36, false, []⟩, ⟨37, false, []⟩, ⟨38, false, []⟩, ⟨39, false, []⟩, ⟨40, false, []⟩, ⟨41, false, []⟩, ⟨42, false, []⟩, ⟨43, false, []⟩, ⟨44, false, []⟩, ⟨45, false, []⟩, ⟨46, false, []⟩, ⟨47, false, []⟩, ⟨48, false, []⟩, ⟨49, false, []⟩, ⟨50, false, []⟩, ⟨51, false, []⟩, ⟨52, false, []⟩, ⟨53, false, []⟩, ⟨55, false, []⟩, ⟨56, false, []⟩, ⟨57, false, []⟩, ⟨58, false, []⟩, ⟨59, false, []⟩, ⟨60, false, []⟩, ⟨54, true, [60, 59, 58, 57, 56, 55]⟩, ⟨61, true, []⟩, ⟨62, false, []⟩, ⟨63, false, []⟩])]
theorem ok3 : funcOk Try.prog 3 ord3 = true := by kernel_rfl
def ord4 : Ord := [(1, [⟨0, false, []⟩, ⟨3, false, []⟩, ⟨4, false, []⟩, ⟨6, false, []⟩, ⟨7, false, []⟩, ⟨1, true, [7, 6, 4, 3]⟩, ⟨2, true, [7, 6, 4, 3]⟩, ⟨5, true, [7, 6]⟩, ⟨8, true, []⟩, ⟨9, false, []⟩, ⟨10, false, []⟩, ⟨11, true, []⟩])]
theorem ok4 : funcOk Try.prog 4 ord4 = true := by kernel_rfl
theorem co4 : callOk Try.prog 4 = true := callOk_of ok4
def ord5 : Ord := [(3, [⟨0, false, []⟩, ⟨1, false, []⟩, ⟨2, false, []⟩, ⟨3, false, []⟩, ⟨4, false, []⟩, ⟨5, false, []⟩, ⟨6, false, []⟩, ⟨7, false, []⟩, ⟨8, false, []⟩, ⟨9, false, []⟩, ⟨10, true, []⟩])]
theorem ok5 : funcOk Try.prog 5 ord5 = true := by kernel_rfl
theorem co5 : callOk Try.prog 5 = true := callOk_of ok5
def ord6 : Ord := []
theorem ok6 : funcOk Try.prog 6 ord6 = true := by kernel_rfl
theorem co6 : callOk Try.prog 6 = true := callOk_of ok6
def ord7 : Ord := []
theorem ok7 : funcOk Try.prog 7 ord7 = true := by kernel_rfl
theorem co7 : callOk Try.prog 7 = true := callOk_of ok7
def ord8 : Ord := [(4, [⟨0, false, []⟩, ⟨1, false, []⟩, ⟨2, false, []⟩, ⟨3, false, []⟩, ⟨4, false, []⟩, ⟨5, false, []⟩, ⟨6, false, []⟩, ⟨7, false, []⟩, ⟨8, false, []⟩, ⟨9, false, []⟩, ⟨10, false, []⟩, ⟨11, false, []⟩, ⟨12, false, []⟩, ⟨13, false, []⟩, ⟨14, false, []⟩, ⟨15, false, []⟩, ⟨16, false, []⟩, ⟨17, false, []⟩, ⟨18, false, []⟩, ⟨19, false, []⟩, ⟨20, false, []⟩, ⟨21, true, []⟩])]
theorem ok8 : funcOk Try.prog 8 ord8 = true := by kernel_rfl
theorem co8 : callOk Try.prog 8 = true := callOk_of ok8
def ord9 : Ord := []
theorem ok9 : funcOk Try.prog 9 ord9 = true := by kernel_rfl
theorem co9 : callOk Try.prog 9 = true := callOk_of ok9
def ord10 : Ord := [(11, [⟨0, false, []⟩, ⟨1, false, []⟩, ⟨2, false, []⟩, ⟨3, false, []⟩, ⟨4, false, []⟩, ⟨5, false, []⟩, ⟨6, false, []⟩, ⟨7, true, []⟩, ⟨8, true, []⟩]), (12, [⟨0, false, []⟩, ⟨1, false, []⟩, ⟨2, false, []⟩, ⟨3, false, []⟩, ⟨4, false, []⟩, ⟨5, false, []⟩, ⟨6, false, []⟩, ⟨7, true, []⟩])]
theorem ok10 : funcOk Try.prog 10 ord10 = true := by kernel_rfl
theorem co10 : callOk Try.prog 10 = true := callOk_of ok10
def ord11 : Ord := [(10, [⟨0, false, []⟩, ⟨2, false, []⟩, ⟨3, false, []⟩, ⟨4, false, []⟩, ⟨5, false, []⟩, ⟨1, true, [5, 4, 3, 2]⟩, ⟨6, false, []⟩]), (17, [⟨0, false, []⟩, ⟨1, false, []⟩, ⟨2, false, []⟩, ⟨3, false, []⟩, ⟨4, false, []⟩, ⟨5, false, []⟩, ⟨6, false, []⟩, ⟨7, false, []⟩, ⟨8, false, []⟩, ⟨9, true, [2, 1, 0]⟩, ⟨10, false, []⟩, ⟨11, false, []⟩, ⟨12, true, [1]⟩, ⟨13, false, []⟩, ⟨14, false, []⟩, ⟨15, true, []⟩]), (19, [⟨0, false, []⟩, ⟨1, false, []⟩, ⟨3, false, []⟩, ⟨4, false, []⟩, ⟨2, true, [4, 3]⟩, ⟨5, true, []⟩])]
theorem ok11 : funcOk Try.prog 11 ord11 = true := by kernel_rfl
theorem co11 : callOk Try.prog 11 = true := callOk_of ok11
def ord12 : Ord := []
theorem ok12 : funcOk Try.prog 12 ord12 = true := by kernel_rfl
theorem co12 : callOk Try.prog 12 = true := callOk_of ok12
def ord13 : Ord := []
theorem ok13 : funcOk Try.prog 13 ord13 = true := by kernel_rfl
theorem co13 : callOk Try.prog 13 = true := callOk_of ok13
def ord14 : Ord := []
theorem ok14 : funcOk Try.prog 14 ord14 = true := by kernel_rfl
theorem co14 : callOk Try.prog 14 = true := callOk_of ok14
def ord15 : Ord := [(4, [⟨0, false, []⟩, ⟨1, false, []⟩, ⟨2, false, []⟩, ⟨3, false, []⟩, ⟨4, false, []⟩, ⟨5, false, []⟩, ⟨6, false, []⟩, ⟨7, false, []⟩, ⟨8, true, [7, 6, 5, 4]⟩, ⟨9, true, []⟩, ⟨10, true, []⟩])]
theorem ok15 : funcOk Try.prog 15 ord15 = true := by kernel_rfl
theorem co15 : callOk Try.prog 15 = true := callOk_of ok15
def ord16 : Ord := [(3, [⟨0, false, []⟩, ⟨1, false, []⟩, ⟨2, false, []⟩, ⟨3, false, []⟩, ⟨4, false, []⟩, ⟨5, false, []⟩, ⟨6, false, []⟩, ⟨7, false, []⟩, ⟨8, true, [7, 6, 5, 4]⟩, ⟨9, true, []⟩])]
theorem ok16 : funcOk Try.prog 16 ord16 = true := by kernel_rfl
theorem co16 : callOk Try.prog 16 = true := callOk_of ok16
def ord17 : Ord := []
theorem ok17 : funcOk Try.prog 17 ord17 = true := by kernel_rfl
theorem co17 : callOk Try.prog 17 = true := callOk_of ok17
def ord18 : Ord := []
theorem ok18 : funcOk Try.prog 18 ord18 = true := by kernel_rfl
theorem co18 : callOk Try.prog 18 = true := callOk_of ok18
def ord19 : Ord := []
theorem ok19 : funcOk Try.prog 19 ord19 = true := by kernel_rfl
theorem co19 : callOk Try.prog 19 = true := callOk_of ok19
def ord20 : Ord := []
theorem ok20 : funcOk Try.prog 20 ord20 = true := by kernel_rfl
theorem co20 : callOk Try.prog 20 = true := callOk_of ok20
def ord21 : Ord := []
theorem ok21 : funcOk Try.prog 21 ord21 = true := by kernel_rfl
theorem co21 : callOk Try.prog 21 = true := callOk_of ok21
def ord22 : Ord := []
theorem ok22 : funcOk Try.prog 22 ord22 = true := by kernel_rfl
theorem co22 : callOk Try.prog 22 = true := callOk_of ok22
def ord23 : Ord := []
theorem ok23 : funcOk Try.prog 23 ord23 = true := by kernel_rfl
theorem co23 : callOk Try.prog 23 = true := callOk_of ok23
def ord25 : Ord := []
theorem ok25 : funcOk Try.prog 25 ord25 = true := by kernel_rfl
theorem co25 : callOk Try.prog 25 = true := callOk_of ok25
def ord26 : Ord := []
theorem ok26 : funcOk Try.prog 26 ord26 = true := by kernel_rfl
theorem co26 : callOk Try.prog 26 = true := callOk_of ok26
def ord32 : Ord := []
theorem ok32 : funcOk Try.prog 32 ord32 = true := by kernel_rfl
theorem co32 : callOk Try.prog 32 = true := callOk_of ok32
def ord34 : Ord := []
theorem ok34 : funcOk Try.prog 34 ord34 = true := by kernel_rfl
theorem co34 : callOk Try.prog 34 = true := callOk_of ok34
def ord35 : Ord := []
theorem ok35 : funcOk Try.prog 35 ord35 = true := by kernel_rfl
theorem co35 : callOk Try.prog 35 = true := callOk_of ok35
def ord36 : Ord := [(3, [⟨0, false, []⟩, ⟨1, false, []⟩, ⟨2, false, []⟩, ⟨3, false, []⟩, ⟨4, false, []⟩, ⟨5, false, []⟩, ⟨6, false, []⟩, ⟨7, false, []⟩, ⟨8, false, []⟩, ⟨9, false, []⟩, ⟨11, false, []⟩, ⟨10, true, [11, 3, 2, 1, 0]⟩, ⟨12, false, []⟩, ⟨13, true, []⟩]), (4, [⟨0, false, []⟩, ⟨1, false, []⟩, ⟨3, false, []⟩, ⟨4, false, []⟩, ⟨2, true, [4, 3]⟩, ⟨5, true, []⟩])]
theorem ok36 : funcOk Try.prog 36 ord36 = true := by kernel_rfl
theorem co36 : callOk Try.prog 36 = true := callOk_of ok36
def ord37 : Ord := []
theorem ok37 : funcOk Try.prog 37 ord37 = true := by kernel_rfl
theorem co37 : callOk Try.prog 37 = true := callOk_of ok37
def ord38 : Ord := [(6, [⟨0, false, []⟩, ⟨1, false, []⟩, ⟨2, false, []⟩, ⟨3, false, []⟩, ⟨4, false, []⟩, ⟨5, false, []⟩, ⟨6, false, []⟩, ⟨7, false, []⟩, ⟨8, false, []⟩, ⟨9, false, []⟩, ⟨10, true, [4, 3, 2, 1, 0]⟩, ⟨11, true, []⟩, ⟨12, true, []⟩])]
theorem ok38 : funcOk Try.prog 38 ord38 = true := by kernel_rfl
theorem co38 : callOk Try.prog 38 = true := callOk_of ok38
def ord39 : Ord := []
theorem ok39 : funcOk Try.prog 39 ord39 = true := by kernel_rfl
theorem co39 : callOk Try.prog 39 = true := callOk_of ok39
def ord40 : Ord := [(5, [⟨0, false, []⟩, ⟨1, false, []⟩, ⟨2, false, []⟩, ⟨3, false, []⟩, ⟨4, false, []⟩, ⟨5, false, []⟩, ⟨6, false, []⟩, ⟨7, false, []⟩, ⟨8, true, []⟩]), (7, [⟨0, false, []⟩, ⟨1, false, []⟩, ⟨2, false, []⟩, ⟨3, false, []⟩, ⟨4, false, []⟩, ⟨5, false, []⟩, ⟨6, false, []⟩, ⟨7, false, []⟩, ⟨8, false, []⟩, ⟨9, false, []⟩, ⟨10, true, []⟩]), (8, [⟨0, false, []⟩, ⟨1, false, []⟩, ⟨2, false, []⟩, ⟨3, false, []⟩, ⟨4, false, []⟩, ⟨5, false, []⟩, ⟨6, false, []⟩, ⟨7, false, []⟩, ⟨8, false, []⟩, ⟨9, true, [0]⟩, ⟨10, false, []⟩, ⟨11, false, []⟩, ⟨12, true, []⟩])]
theorem ok40 : funcOk Try.prog 40 ord40 = true := by kernel_rfl
theorem co40 : callOk Try.prog 40 = true := callOk_of ok40
def ord45 : Ord := []
theorem ok45 : funcOk Try.prog 45 ord45 = true := by kernel_rfl
theorem co45 : callOk Try.prog 45 = true := callOk_of ok45
def ord46 : Ord := []
theorem ok46 : funcOk Try.prog 46 ord46 = true := by kernel_rfl
theorem co46 : callOk Try.prog 46 = true := callOk_of ok46
def ord47 : Ord := []
theorem ok47 : funcOk Try.prog 47 ord47 = true := by kernel_rfl
theorem co47 : callOk Try.prog 47 = true := callOk_of ok47
def ord48 : Ord := []
theorem ok48 : funcOk Try.prog 48 ord48 = true := by kernel_rfl
theorem co48 : callOk Try.prog 48 = true := callOk_of ok48
def ord49 : Ord := []
theorem ok49 : funcOk Try.prog 49 ord49 = true := by kernel_rfl
theorem co49 : callOk Try.prog 49 = true := callOk_of ok49
def ord50 : Ord := []
theorem ok50 : funcOk Try.prog 50 ord50 = true := by kernel_rfl
theorem co50 : callOk Try.prog 50 = true := callOk_of ok50
def ord51 : Ord := []
theorem ok51 : funcOk Try.prog 51 ord51 = true := by kernel_rfl
theorem co51 : callOk Try.prog 51 = true := callOk_of ok51
def ord52 : Ord := []
theorem ok52 : funcOk Try.prog 52 ord52 = true := by kernel_rfl
theorem co52 : callOk Try.prog 52 = true := callOk_of ok52
def ord53 : Ord := []
theorem ok53 : funcOk Try.prog 53 ord53 = true := by kernel_rfl
theorem co53 : callOk Try.prog 53 = true := callOk_of ok53
def ord54 : Ord := [(1, [⟨0, false, []⟩, ⟨1, false, []⟩, ⟨2, false, []⟩, ⟨3, false, []⟩, ⟨4, false, []⟩, ⟨5, false, []⟩, ⟨6, false, []⟩, ⟨7, false, []⟩, ⟨8, false, []⟩, ⟨9, false, []⟩, ⟨10, true, []⟩, ⟨11, true, []⟩])]
theorem ok54 : funcOk Try.prog 54 ord54 = true := by kernel_rfl
theorem co54 : callOk Try.prog 54 = true := callOk_of ok54
def ord55 : Ord := [(1, [⟨0, false, []⟩, ⟨1, false, []⟩, ⟨2, false, []⟩, ⟨3, false, []⟩, ⟨4, false, []⟩, ⟨5, false, []⟩, ⟨6, false, []⟩, ⟨7, false, []⟩, ⟨8, false, []⟩, ⟨9, false, []⟩]), (3, [⟨0, false, []⟩, ⟨1, false, []⟩, ⟨2, false, []⟩, ⟨3, false, []⟩, ⟨4, false, []⟩, ⟨5, false, []⟩, ⟨6, false, []⟩, ⟨7, true, [0]⟩, ⟨8, false, []⟩, ⟨9, false, []⟩, ⟨10, true, []⟩])]
theorem ok55 : funcOk Try.prog 55 ord55 = true := by kernel_rfl
theorem co55 : callOk Try.prog 55 = true := callOk_of ok55
def ord60 : Ord := []
theorem ok60 : funcOk Try.prog 60 ord60 = true := by kernel_rfl
theorem co60 : callOk Try.prog 60 = true := callOk_of ok60
def ord61 : Ord := []
theorem ok61 : funcOk Try.prog 61 ord61 = true := by kernel_rfl
theorem co61 : callOk Try.prog 61 = true := callOk_of ok61
def ord64 : Ord := []
theorem ok64 : funcOk Try.prog 64 ord64 = true := by kernel_rfl
theorem co64 : callOk Try.prog 64 = true := callOk_of ok64
def ord65 : Ord := []
theorem ok65 : funcOk Try.prog 65 ord65 = true := by kernel_rfl
theorem co65 : callOk Try.prog 65 = true := callOk_of ok65
def ord66 : Ord := []
theorem ok66 : funcOk Try.prog 66 ord66 = true := by kernel_rfl
theorem co66 : callOk Try.prog 66 = true := callOk_of ok66
def ord67 : Ord := []
theorem ok67 : funcOk Try.prog 67 ord67 = true := by kernel_rfl
theorem co67 : callOk Try.prog 67 = true := callOk_of ok67
def ord68 : Ord := []
theorem ok68 : funcOk Try.prog 68 ord68 = true := by kernel_rfl
theorem co68 : callOk Try.prog 68 = true := callOk_of ok68
def ord69 : Ord := [(7, [⟨0, false, []⟩, ⟨1, false, []⟩, ⟨2, false, []⟩, ⟨3, false, []⟩, ⟨4, false, []⟩, ⟨5, false, []⟩, ⟨6, false, []⟩, ⟨7, false, []⟩, ⟨8, false, []⟩, ⟨9, false, []⟩, ⟨10, false, []⟩, ⟨11, false, []⟩, ⟨12, false, []⟩, ⟨13, true, []⟩, ⟨14, true, []⟩])]
theorem ok69 : funcOk Try.prog 69 ord69 = true := by kernel_rfl
theorem co69 : callOk Try.prog 69 = true := callOk_of ok69
def ord70 : Ord := []
theorem ok70 : funcOk Try.prog 70 ord70 = true := by kernel_rfl
theorem co70 : callOk Try.prog 70 = true := callOk_of ok70
def ord71 : Ord := [(1, [⟨0, false, []⟩, ⟨1, false, []⟩, ⟨2, false, []⟩, ⟨3, false, []⟩, ⟨4, false, []⟩, ⟨5, false, []⟩, ⟨6, false, []⟩, ⟨7, false, []⟩, ⟨8, true, []⟩, ⟨9, true, []⟩]), (4, [⟨0, false, []⟩, ⟨1, false, []⟩, ⟨2, false, []⟩, ⟨3, false, []⟩, ⟨4, false, []⟩, ⟨5, false, []⟩, ⟨6, false, []⟩, ⟨7, false, []⟩, ⟨8, true, []⟩, ⟨9, false, []⟩, ⟨10, false, []⟩, ⟨11, true, []⟩, ⟨12, true, []⟩])]
theorem ok71 : funcOk Try.prog 71 ord71 = true := by kernel_rfl
theorem co71 : callOk Try.prog 71 = true := callOk_of ok71
def ord72 : Ord := []
theorem ok72 : funcOk Try.prog 72 ord72 = true := by kernel_rfl
theorem co72 : callOk Try.prog 72 = true := callOk_of ok72
def ord77 : Ord := []
theorem ok77 : funcOk Try.prog 77 ord77 = true := by kernel_rfl
theorem co77 : callOk Try.prog 77 = true := callOk_of ok77
def ord78 : Ord := []
theorem ok78 : funcOk Try.prog 78 ord78 = true := by kernel_rfl
theorem co78 : callOk Try.prog 78 = true := callOk_of ok78
def ord79 : Ord := []
theorem ok79 : funcOk Try.prog 79 ord79 = true := by kernel_rfl
theorem co79 : callOk Try.prog 79 = true := callOk_of ok79
def ord80 : Ord := []
theorem ok80 : funcOk Try.prog 80 ord80 = true := by kernel_rfl
theorem co80 : callOk Try.prog 80 = true := callOk_of ok80
def ord81 : Ord := []
theorem ok81 : funcOk Try.prog 81 ord81 = true := by kernel_rfl
theorem co81 : callOk Try.prog 81 = true := callOk_of ok81
def ord82 : Ord := []
theorem ok82 : funcOk Try.prog 82 ord82 = true := by kernel_rfl
theorem co82 : callOk Try.prog 82 = true := callOk_of ok82
def ord83 : Ord := []
theorem ok83 : funcOk Try.prog 83 ord83 = true := by kernel_rfl
theorem co83 : callOk Try.prog 83 = true := callOk_of ok83
def ord85 : Ord := []
theorem ok85 : funcOk Try.prog 85 ord85 = true := by kernel_rfl
theorem co85 : callOk Try.prog 85 = true := callOk_of ok85
def ord86 : Ord := []
theorem ok86 : funcOk Try.prog 86 ord86 = true := by kernel_rfl
theorem co86 : callOk Try.prog 86 = true := callOk_of ok86
def ord87 : Ord := []
theorem ok87 : funcOk Try.prog 87 ord87 = true := by kernel_rfl
theorem co87 : callOk Try.prog 87 = true := callOk_of ok87
def ord88 : Ord := []
theorem ok88 : funcOk Try.prog 88 ord88 = true := by kernel_rfl
theorem co88 : callOk Try.prog 88 = true := callOk_of ok88
theorem no90 : callOk Try.prog 90 = false := by kernel_rfl
def ord91 : Ord := []
theorem ok91 : funcOk Try.prog 91 ord91 = true := by kernel_rfl
theorem co91 : callOk Try.prog 91 = true := callOk_of ok91
def ord92 : Ord := []
theorem ok92 : funcOk Try.prog 92 ord92 = true := by kernel_rfl
theorem co92 : callOk Try.prog 92 = true := callOk_of ok92
def ord93 : Ord := [(2, [⟨0, false, []⟩, ⟨1, false, []⟩, ⟨2, false, []⟩, ⟨3, false, []⟩, ⟨4, false, []⟩, ⟨5, true, []⟩, ⟨6, true, []⟩])]
theorem ok93 : funcOk Try.prog 93 ord93 = true := by kernel_rfl
theorem co93 : callOk Try.prog 93 = true := callOk_of ok93
def ord94 : Ord := [(3, [⟨0, false, []⟩, ⟨1, false, []⟩, ⟨2, false, []⟩, ⟨3, false, []⟩, ⟨4, false, []⟩, ⟨5, false, []⟩, ⟨6, false, []⟩, ⟨7, false, []⟩, ⟨8, false, []⟩, ⟨9, false, []⟩, ⟨10, false, []⟩, ⟨11, false, []⟩, ⟨12, false, []⟩, ⟨13, true, [3, 2]⟩, ⟨14, false, []⟩, ⟨15, true, []⟩])]
theorem ok94 : funcOk Try.prog 94 ord94 = true := by kernel_rfl
theorem co94 : callOk Try.prog 94 = true := callOk_of ok94
end Go.Proofs.Try
