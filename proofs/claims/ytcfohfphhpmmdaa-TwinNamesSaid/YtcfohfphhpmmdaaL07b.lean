/- The images of the law TwinNames, as plain lists. Nothing of the program. -/
import Derived.Test.YtcfohfphhpmmdaaL07
set_option linter.unusedVariables false
set_option linter.unusedSimpArgs false
namespace Go.Proofs.Ytcfohfphhpmmdaa.L07
open L02 L05 L06

def z240 : List UInt64 := List.replicate 240 0
def mA : List UInt64 := made 256 1
def mB : List UInt64 := made 256 2
def mC : List UInt64 := made 264 1
def two : List UInt64 := mA.take 8 ++ mB.drop 8
def far : List UInt64 := mC.take 8 ++ mB.drop 8
def short : List UInt64 := mC.take 16 ++ mA.drop 16
def a255 : List UInt64 := mA.take 255
def z256 : List UInt64 := List.replicate 256 0
theorem ok1 : SupOk 256 1 := by decide
theorem ok2 : SupOk 256 2 := by decide
theorem ok3 : SupOk 264 1 := by decide
theorem take8 (W T : Int) : (made W T).take 8 = wordsOf W T := c0_app (len_words W T)
theorem drop8 (W T : Int) : (made W T).drop 8 = wordsOf W T ++ List.replicate (W.toNat - 16) 0 := by
  rw [made, List.drop_append_of_le_length (by rw [len_words]; omega), List.drop_of_length_le (by rw [len_words]; omega), List.nil_append]
theorem take16 (W T : Int) : (made W T).take 16 = wordsOf W T ++ wordsOf W T := by
  rw [made, ← List.append_assoc, List.take_append_of_le_length (by simp [len_words]), List.take_of_length_le (by simp [len_words])]
theorem two_is : two = wordsOf 256 1 ++ (wordsOf 256 2 ++ z240) := by rw [two, mA, mB, take8, drop8]; rfl
theorem far_is : far = wordsOf 264 1 ++ (wordsOf 256 2 ++ z240) := by rw [far, mC, mB, take8, drop8]; rfl
theorem short_is : short = wordsOf 264 1 ++ (wordsOf 264 1 ++ z240) := by
  rw [short, mC, mA, take16, made, d16_app (len_words _ _) (len_words _ _), List.append_assoc]; rfl
theorem two_len : two.length = 256 := by rw [two_is, List.length_append, List.length_append, len_words, len_words, z240, List.length_replicate]
theorem far_len : far.length = 256 := by rw [far_is, List.length_append, List.length_append, len_words, len_words, z240, List.length_replicate]
theorem short_len : short.length = 256 := by rw [short_is, List.length_append, List.length_append, len_words, z240, List.length_replicate]
theorem mA_len : mA.length = 256 := by rw [mA, made_len ok1]; rfl
theorem mB_len : mB.length = 256 := by rw [mB, made_len ok2]; rfl
theorem mC_len : mC.length = 264 := by rw [mC, made_len ok3]; rfl
theorem two_n : (heals two).length = 2 := by
  have two_first := first_one ok1 ok2 (m := two) two_is
  have h := two_first.1
  rw [heals_to h, two_first.2.2.2.2.2.1, two_is, made, List.length_map]
  rw [diffsTo_congr (a' := wordsOf 256 1 ++ wordsOf 256 2) (b' := wordsOf 256 1 ++ wordsOf 256 1) (fun i hi => by rw [← List.append_assoc, List.getElem?_append_left (by simp [len_words]; omega)]) (fun i hi => by rw [← List.append_assoc, List.getElem?_append_left (by simp [len_words]; omega)])]
  decide +kernel
theorem no264 : ¬ CopyOk 256 (wordsOf 264 1) := fun h => by
  have := h.2
  rw [at2_words ok3] at this
  omega
theorem far_spec : rErr far = 0 ∧ sW far = 256 ∧ sT far = 2 ∧ is0 far = false ∧ is1 far = true := by
  have hs : SizeOk far.length := by rw [far_len]; decide
  obtain ⟨e0, e1, _, e2⟩ := two_spec far_is (len_words 264 1) (len_words 256 2) hs
  have hn : ¬ CopyOk far.length (wordsOf 264 1) := by rw [far_len]; exact no264
  have hg : CopyOk far.length (wordsOf 256 2) := good_words ok2 (by rw [far_len]; rfl)
  obtain ⟨e3, e4, _⟩ := e2 hn hg
  exact ⟨e3, by rw [sW, if_pos e3, far_len]; rfl, by rw [sT, if_pos e3, e4, at3_words ok2], by rw [e0]; exact decide_eq_false hn, by rw [e1]; exact decide_eq_true hg⟩
theorem short_spec : rErr short = 50 ∧ is0 short = false ∧ is1 short = false := by
  have hs : SizeOk short.length := by rw [short_len]; decide
  obtain ⟨e0, e1, _, _⟩ := two_spec short_is (len_words 264 1) (len_words 264 1) hs
  have hn : ¬ CopyOk short.length (wordsOf 264 1) := by rw [short_len]; exact no264
  rw [decide_eq_false hn] at e0 e1
  exact ⟨rErr_50 hs e0 e1, e0, e1⟩
theorem zero_spec : rErr z256 = 50 ∧ is0 z256 = false ∧ is1 z256 = false := by
  have hl : z256.length = 256 := List.length_replicate
  have hs : SizeOk z256.length := by rw [hl]; decide
  have h0 : ¬ CopyOk z256.length (c0 z256) := fun h => absurd h.1.1.1.1 (by decide +kernel)
  have h1 : ¬ CopyOk z256.length (c1 z256) := fun h => absurd h.1.1.1.1 (by decide +kernel)
  have e0 : is0 z256 = false := by rw [is0_good hs]; exact decide_eq_false h0
  have e1 : is1 z256 = false := by rw [is1_good hs]; exact decide_eq_false h1
  exact ⟨rErr_50 hs e0 e1, e0, e1⟩
theorem a255_no : ¬ SizeOk a255.length := by rw [a255, List.length_take, mA_len]; decide
theorem nil_no : ¬ SizeOk ([] : List UInt64).length := by decide
theorem mA_none : heals mA = [] := (first_one ok1 ok1 (m := mA) rfl).2.2.2.2.2.2.1.2 rfl
end Go.Proofs.Ytcfohfphhpmmdaa.L07
