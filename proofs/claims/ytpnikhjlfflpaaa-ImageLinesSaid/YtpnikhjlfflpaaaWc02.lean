/- The walks of the laws ImageLines, ImageGet. -/
import Derived.Test.YtpnikhjlfflpaaaWb02
set_option linter.unusedVariables false
set_option linter.unusedSimpArgs false
namespace Go.Proofs.Ytpnikhjlfflpaaa
open Go.RowKit L02

theorem inR1 {l : List UInt64} {at_ : Int} (h0 : 0 ≤ at_) (h1 : at_ < l.length) : InR l at_ 1 := by unfold InR; omega

theorem line_facts {l : List UInt64} {at_ : Int} (hs : SizeOk l.length) (h0 : 0 ≤ at_) (h1 : at_ < l.length) :
    rng l at_ 1 = 0 ∧ lineNo l at_ = at_ / 8 ∧ lineAt l at_ = at_ - at_ % 8 := by
  have h := rng_ok hs (inR1 h0 h1)
  exact ⟨h, by simp [lineNo, h], by simp [lineAt, h]⟩

set_option maxHeartbeats 2000000 in
theorem ImageLines_walk (v0 : Value) (l : List UInt64) (at_ to : Int) (w : World) (h0 : Words w v0 l)
    (h1 : -9223372036854775808 ≤ at_ ∧ at_ ≤ 9223372036854775807) (h2 : -9223372036854775808 ≤ to ∧ to ≤ 9223372036854775807) :
    Calls Try.prog 6 #[v0, .int .i64 at_, .int .i64 to] w (True_ w) := by
  have B : Below w.heap.size w w := Below.refl _ _
  have l1 := Rd.len h0 Try.underlying22
  clear h1 h2
  by_cases hs : SizeOk l.length
  · by_cases hr : (0 ≤ at_ ∧ at_ < l.length) ∧ 0 ≤ to ∧ to < l.length
    · obtain ⟨⟨a1, a2⟩, t1, t2⟩ := hr
      obtain ⟨f1, f2, f3⟩ := line_facts hs a1 a2
      obtain ⟨g1, g2, g3⟩ := line_facts hs t1 t2
      have hsz := hs.2.1
      have hm8 := hs.2.2
      obtain ⟨s, e1⟩ : ∃ s, s = at_ - at_ % 8 := ⟨_, rfl⟩
      obtain ⟨a, e2⟩ : ∃ a, a = at_ / 8 := ⟨_, rfl⟩
      obtain ⟨t, e3⟩ : ∃ t, t = to - to % 8 := ⟨_, rfl⟩
      obtain ⟨b, e4⟩ : ∃ b, b = to / 8 := ⟨_, rfl⟩
      rw [← e1] at f3; rw [← e2] at f2; rw [← e3] at g3; rw [← e4] at g2
      have c1 : 0 ≤ s := by omega
      have c2 : (s % 8 != 0) = false := by rw [bne_eq_false_iff_eq]; omega
      have c3 : s ≤ at_ := by omega
      have c4 : at_ ≤ s + 7 := by omega
      have c5 : 0 ≤ a := by omega
      have c6 : a < (l.length : Int) / 8 := by omega
      have c7 : (s == 8 * a) = true := by rw [beq_iff_eq]; omega
      have c8 : s ≤ 2048 := by omega
      have c9 : a ≤ 2048 := by omega
      have HC := Lib.hid hs; have HF := Lib.hid (And.intro f1 (And.intro f2 f3)); have HG := Lib.hid (And.intro g1 (And.intro g2 g3))
      clear f1 f2 f3 g1 g2 g3 hs hm8
      by_cases hab : a = b
      · have d1 : (a == b) = true := by rw [beq_iff_eq]; exact hab
        have d2 : (s == t) = true := by rw [beq_iff_eq]; omega
        have d3 : s ≤ to := by omega
        have d4 : to ≤ s + 7 := by omega
        clear e1 e2 e3 e4 hab
        go_enter Try.func6, Try.ntmps6
        go_wp2_with fail
        refine (CheckR_any _ _ _ h0).mono ?_
        rw [chk_ok HC.out]
        rintro e w' ⟨rfl, rfl⟩
        go_wp2_with fail
        refine (Line_any _ _ _ _ h0).mono ?_
        rw [HF.out.1, HF.out.2.1, HF.out.2.2]
        rintro e w' ⟨rfl, rfl⟩
        go_wp2_with fail
        refine (Line_any _ _ _ _ h0).mono ?_
        rw [HG.out.1, HG.out.2.1, HG.out.2.2]
        rintro e w' ⟨rfl, rfl⟩
        go_wp2_with fail
        refine (alive_any _).mono ?_
        rintro e w' ⟨rfl, b⟩
        go_wp2
        go_ret
        exact ⟨rfl, b⟩
      · have d1 : (a == b) = false := by rw [beq_eq_false_iff_ne]; exact hab
        have d2 : (s == t) = false := by rw [beq_eq_false_iff_ne]; omega
        have d3 : to < s ∨ s + 7 < to := by omega
        clear e1 e2 e3 e4 hab
        rcases d3 with d3 | d3
        all_goals try have d5 : decide (to ≤ s + 7) = false := decide_eq_false (by omega)
        all_goals
          go_enter Try.func6, Try.ntmps6
          go_wp2_with fail
          refine (CheckR_any _ _ _ h0).mono ?_
          rw [chk_ok HC.out]
          rintro e w' ⟨rfl, rfl⟩
          go_wp2_with fail
          refine (Line_any _ _ _ _ h0).mono ?_
          rw [HF.out.1, HF.out.2.1, HF.out.2.2]
          rintro e w' ⟨rfl, rfl⟩
          go_wp2_with fail
          refine (Line_any _ _ _ _ h0).mono ?_
          rw [HG.out.1, HG.out.2.1, HG.out.2.2]
          rintro e w' ⟨rfl, rfl⟩
          go_wp2_with fail
          refine (alive_any _).mono ?_
          rintro e w' ⟨rfl, b⟩
          go_wp2
          go_ret
          exact ⟨rfl, b⟩
    · have HC := Lib.hid hs; have HR := Lib.hid hr
      clear hs hr
      go_enter Try.func6, Try.ntmps6
      go_wp2_with fail
      refine (CheckR_any _ _ _ h0).mono ?_
      rw [chk_ok HC.out]
      rintro e w' ⟨rfl, rfl⟩
      go_wp2_with (go_at_call 26; refine (alive_any _).mono ?_; rintro e w' ⟨rfl, b⟩)
      all_goals
        first
        | (exfalso; have := HR.out; omega)
        | (go_ret
           exact ⟨rfl, ‹_›⟩)
  · have HC := Lib.hid hs
    clear hs
    go_enter Try.func6, Try.ntmps6
    go_wp2_with fail
    refine (CheckR_any _ _ _ h0).mono ?_
    rw [chk_no HC.out]
    rintro e w' ⟨rfl, rfl⟩
    go_wp2_with fail
    refine (alive_any _).mono ?_
    rintro e w' ⟨rfl, b⟩
    go_wp2
    go_ret
    exact ⟨rfl, b⟩
end Go.Proofs.Ytpnikhjlfflpaaa
