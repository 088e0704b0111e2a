/- For each function: the orders of its regions that draw theirs; that it may be walked, and called. Written by program (facts.py). A lemma file: no statement of its own. -/
import Derived.Test.YtjjbmmgafclcaaaGreatChecked
import Derived.Test.YtjjbmmgafclcaaaGreatqFwD
set_option linter.unusedSimpArgs false
set_option linter.unusedVariables false
namespace Go.Proofs.Tryz
open Go.Cs
theorem hmix : Tryz.prog.follows .mixedOrders = true := by kernel_rfl
def ord3 : Ord := [(15, [⟨0, false, []⟩, ⟨1, false, []⟩, ⟨2, false, []⟩, ⟨3, false, []⟩, ⟨4, false, []⟩, ⟨5, false, []⟩, ⟨6, false, []⟩])]
theorem ok3 : funcOk Tryz.prog 3 ord3 = true := by kernel_rfl
def ord4 : Ord := []
theorem ok4 : funcOk Tryz.prog 4 ord4 = true := by kernel_rfl
theorem co4 : callOk Tryz.prog 4 = true := callOk_of ok4
def ord5 : Ord := []
theorem ok5 : funcOk Tryz.prog 5 ord5 = true := by kernel_rfl
theorem co5 : callOk Tryz.prog 5 = true := callOk_of ok5
def ord6 : Ord := []
theorem ok6 : funcOk Tryz.prog 6 ord6 = true := by kernel_rfl
theorem co6 : callOk Tryz.prog 6 = true := callOk_of ok6
def ord7 : Ord := [(4, [⟨0, false, []⟩, ⟨1, false, []⟩, ⟨2, false, []⟩, ⟨3, false, []⟩, ⟨4, false, []⟩, ⟨5, false, []⟩, ⟨6, false, []⟩, ⟨7, false, []⟩, ⟨8, false, []⟩, ⟨9, true, []⟩]), (5, [⟨0, false, []⟩, ⟨1, false, []⟩, ⟨2, false, []⟩, ⟨3, false, []⟩, ⟨4, false, []⟩, ⟨5, false, []⟩, ⟨6, false, []⟩, ⟨7, false, []⟩, ⟨8, false, []⟩, ⟨9, false, []⟩, ⟨10, true, []⟩])]
theorem ok7 : funcOk Tryz.prog 7 ord7 = true := by kernel_rfl
theorem co7 : callOk Tryz.prog 7 = true := callOk_of ok7
def ord8 : Ord := []
theorem ok8 : funcOk Tryz.prog 8 ord8 = true := by kernel_rfl
theorem co8 : callOk Tryz.prog 8 = true := callOk_of ok8
def ord12 : Ord := []
theorem ok12 : funcOk Tryz.prog 12 ord12 = true := by kernel_rfl
theorem co12 : callOk Tryz.prog 12 = true := callOk_of ok12
def ord13 : Ord := []
theorem ok13 : funcOk Tryz.prog 13 ord13 = true := by kernel_rfl
theorem co13 : callOk Tryz.prog 13 = true := callOk_of ok13
def ord14 : Ord := [(16, [⟨0, false, []⟩, ⟨1, false, []⟩, ⟨2, false, []⟩, ⟨3, false, []⟩, ⟨4, false, []⟩, ⟨5, false, []⟩, ⟨6, false, []⟩, ⟨7, false, []⟩, ⟨8, false, []⟩, ⟨9, false, []⟩, ⟨10, false, []⟩, ⟨11, false, []⟩, ⟨12, false, []⟩, ⟨13, false, []⟩, ⟨14, false, []⟩]), (25, [⟨0, false, []⟩, ⟨1, false, []⟩, ⟨2, false, []⟩, ⟨3, false, []⟩, ⟨4, false, []⟩, ⟨5, false, []⟩, ⟨6, false, []⟩, ⟨7, false, []⟩, ⟨8, false, []⟩, ⟨9, false, []⟩, ⟨10, false, []⟩, ⟨11, false, []⟩, ⟨12, false, []⟩, ⟨13, false, []⟩, ⟨14, false, []⟩, ⟨15, false, []⟩, ⟨16, false, []⟩, ⟨17, false, []⟩, ⟨18, false, []⟩, ⟨19, false, []⟩, ⟨20, false, []⟩, ⟨21, false, []⟩, ⟨22, false, []⟩, ⟨23, false, []⟩, ⟨24, false, []⟩, ⟨25, false, []⟩, ⟨26, false, []⟩, ⟨27, false, []⟩, ⟨28, false, []⟩, ⟨29, false, []⟩, ⟨30, false, []⟩, ⟨31, false, []⟩, ⟨32, false, []⟩, ⟨33, false, []⟩, ⟨34, false, []⟩])]
theorem ok14 : funcOk Tryz.prog 14 ord14 = true := by kernel_rfl
theorem co14 : callOk Tryz.prog 14 = true := callOk_of ok14
def ord20 : Ord := []
theorem ok20 : funcOk Tryz.prog 20 ord20 = true := by kernel_rfl
theorem co20 : callOk Tryz.prog 20 = true := callOk_of ok20
def ord21 : Ord := []
theorem ok21 : funcOk Tryz.prog 21 ord21 = true := by kernel_rfl
theorem co21 : callOk Tryz.prog 21 = true := callOk_of ok21
def ord34 : Ord := []
theorem ok34 : funcOk Tryz.prog 34 ord34 = true := by kernel_rfl
theorem co34 : callOk Tryz.prog 34 = true := callOk_of ok34
end Go.Proofs.Tryz
