/- The walk of the law KindsTables. -/
import Derived.Test.YtnooiiojlkkpeaaC13g
import Derived.Test.YtnooiiojlkkpeaaC02b
set_option linter.unusedVariables false
set_option linter.unusedSimpArgs false
namespace Go.Proofs.Ytnooiiojlkkpeaa
open Go.RowKit L02 L05 L13

theorem KindsTables_walk (v0 : Value) (l : List UInt64) (n : Int) (w : World) (h0 : Words w v0 l) (f1 : -9223372036854775808 ≤ n ∧ n ≤ 9223372036854775807) :
    Calls Try.prog 7 #[v0, .int .i64 n] w fun e w' => e = .returned (.bool true) ∧ Below w.heap.size w w' := by
  have B : Below w.heap.size w w := Below.refl _ _
  have H := Lib.hid h0; clear h0
  by_cases hg : 2100 < l.length
  · have G := Great_any v0 l
    rw [decide_eq_true hg] at G
    have HG := Lib.hid G; clear G
    go_enter Try.func7, Try.ntmps7
    go_wp2_with fail
    refine (HG.out _ H.out).mono ?_
    rintro e w2 ⟨rfl, rfl⟩
    go_wp2
    go_ret
    exact ⟨rfl, B⟩
  · have G := Great_any v0 l
    rw [decide_eq_false hg] at G
    have HG := Lib.hid G; clear G
    have hl : l.length ≤ 1048576 := by omega
    have HL := Lib.hid hl; clear hl hg
    obtain ⟨L, hL⟩ : ∃ L, L = tabT l n := ⟨_, rfl⟩
    obtain ⟨r, hr⟩ : ∃ r, r = tabErr l n := ⟨_, rfl⟩
    have HT := Lib.hid hL; have HR := Lib.hid hr; clear hL hr
    go_enter Try.func7, Try.ntmps7
    go_wp2_with fail
    refine (HG.out _ H.out).mono ?_
    rintro e w2 ⟨rfl, rfl⟩
    go_wp2_with fail
    refine (Twin_any v0 l _ H.out HL.out).mono ?_
    rintro e w2 ⟨y, rfl, oy, b⟩
    replace B := B.trans (b.mono B.size); clear b
    have HY := Lib.hid oy; clear oy
    go_wp2_with fail
    refine (KTable_any v0 l n L r HT.out HR.out _ (H.out.below B)).mono ?_
    rintro e w3 ⟨x1, rfl, o1, b⟩
    replace B := B.trans (b.mono B.size)
    have HY2 := Lib.hid (HY.out.below b)
    have HX := Lib.hid o1
    clear b o1 HY
    go_wp2_with fail
    refine (KTableR_any y l n L r HT.out HR.out _ HY2.out.rd).mono ?_
    rintro e w4 ⟨x2, rfl, o2, b⟩
    replace B := B.trans (b.mono B.size)
    have HY := Lib.hid (HY2.out.below b)
    have HX1 := Lib.hid (HX.out.below b)
    have HX2 := Lib.hid o2
    clear b o2 HY2 HX
    go_wp2_with fail
    refine (SameT_any x1 x2 L L true (by simp) _ HX1.out.rd HX2.out.rd).mono ?_
    rintro e w5 ⟨rfl, b⟩
    replace B := B.trans (b.mono B.size)
    have HY3 := Lib.hid (HY.out.below b)
    clear b HY HX1 HX2
    go_wp2_with fail
    refine (Same_r v0 y l l true (by simp [L02.same]) _ (H.out.below B) HY3.out.rd).mono ?_
    rintro e w6 ⟨rfl, b⟩
    replace B := B.trans (b.mono B.size)
    go_wp2
    go_ret
    exact ⟨rfl, B⟩
end Go.Proofs.Ytnooiiojlkkpeaa
