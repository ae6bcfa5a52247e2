/- The image of the law HandlesNames, as plain lists. Nothing of the program. -/
import Derived.Test.YteiocllnhljpjaaL18b
set_option linter.unusedVariables false
set_option linter.unusedSimpArgs false
namespace Go.Proofs.Yteiocllnhljpjaa.L18
open L02

def fillX : Nat → List UInt64
  | 0 => List.replicate 256 0
  | k + 1 => (fillX k).set (112 + k) 9223372066919547008
theorem fillX_len : ∀ k, (fillX k).length = 256
  | 0 => List.length_replicate
  | k + 1 => by rw [fillX, List.length_set]; exact fillX_len k
def M0 : List UInt64 := fillX 16
def M1 : List UInt64 := M0.set 120 9223372032559808512
def M2 : List UInt64 := M1.set 121 38654705664
def M3 : List UInt64 := M2.set 127 1
theorem M0_len : M0.length = 256 := fillX_len 16
theorem M1_len : M1.length = 256 := by rw [M1, List.length_set]; exact M0_len
theorem M2_len : M2.length = 256 := by rw [M2, List.length_set]; exact M1_len
theorem M3_len : M3.length = 256 := by rw [M3, List.length_set]; exact M2_len
theorem M0_new : newErr M0 128 = 23 ∧ newSlot M0 128 = 0 ∧ newGen M0 128 = 0 ∧ newAt M0 128 = 0 ∧ newVal M0 128 = 0 := by decide +kernel
theorem M1_new : newErr M1 128 = 23 ∧ newSlot M1 128 = 0 ∧ newGen M1 128 = 0 ∧ newAt M1 128 = 0 ∧ newVal M1 128 = 0 := by decide +kernel
theorem M2_new : newErr M2 2047 = 0 ∧ newSlot M2 2047 = 9 ∧ newGen M2 2047 = 10 ∧ newAt M2 2047 = 121 ∧ newVal M2 2047 = 9223372079804450815 := by decide +kernel
theorem M2_new1 : newErr M2 127 = 2 ∧ newSlot M2 127 = 0 ∧ newGen M2 127 = 0 ∧ newAt M2 127 = 0 ∧ newVal M2 127 = 0 := by decide +kernel
theorem M2_new2 : newErr M2 2048 = 2 ∧ newSlot M2 2048 = 0 ∧ newGen M2 2048 = 0 ∧ newAt M2 2048 = 0 ∧ newVal M2 2048 = 0 := by decide +kernel
theorem M2_res16 : resErr M2 16 7 = 2 ∧ res M2 16 7 = 0 := by decide +kernel
theorem M2_resm : resErr M2 (-1) 7 = 2 ∧ res M2 (-1) 7 = 0 := by decide +kernel
theorem M2_res1 : resErr M2 1 8 = 28 ∧ res M2 1 8 = 0 := by decide +kernel
theorem M2_res9 : resErr M2 9 9 = 28 ∧ res M2 9 9 = 0 := by decide +kernel
theorem M2_res15 : resErr M2 15 7 = 0 ∧ res M2 15 7 = 128 := by decide +kernel
theorem M2_drop : dropAt M2 15 7 = 127 ∧ dropVal M2 15 7 = 30064771072 := by decide +kernel
theorem M3_all : openErr M3 = 50 ∧ all M3 = [] := by decide +kernel
theorem M3_drop : resErr M3 99 0 = 50 ∧ dropAt M3 99 0 = 0 ∧ dropVal M3 99 0 = 0 := by decide +kernel
theorem nil_all : openErr [] = 8 ∧ all [] = [] := by decide +kernel
def bad18 : List Sl := [⟨-1, false, 0⟩, ⟨2147483648, false, 0⟩, ⟨0, false, 1⟩, ⟨2, false, 128⟩, ⟨0, true, 128⟩, ⟨1, true, 127⟩, ⟨1, true, 2048⟩, ⟨1, true, 0⟩]
theorem bad18_no : ∀ s ∈ bad18, ¬ Right s := by decide
theorem spl128 : splErr 128 = 50 ∧ spl0 128 = .none := by decide +kernel
theorem spl63 : splErr 9223372036854775808 = 50 ∧ spl0 9223372036854775808 = .none := by decide +kernel
theorem spl2048 : splErr 9223372041149745152 = 50 ∧ spl0 9223372041149745152 = .none := by decide +kernel
theorem splmost : splErr 18446744069414586367 = 0 ∧ spl0 18446744069414586367 = ⟨2147483647, true, 2047⟩ := by decide +kernel
end Go.Proofs.Yteiocllnhljpjaa.L18
