/- The walk of the law SuperBack. -/
import Derived.Test.YtkaifjihinlbgaaWb06
set_option linter.unusedVariables false
set_option linter.unusedSimpArgs false
namespace Go.Proofs.Ytkaifjihinlbgaa
open Go.RowKit L02 L05 L06

theorem sup_eql (a b c d : Int) (W : World) : (binOp .eql 23 (.agg #[.int .i64 a, .int .i64 b]) (.agg #[.int .i64 c, .int .i64 d])).run Try.prog W = .ok (.bool (a == c && b == d)) W := by
  cases h : (a == c) <;> cases h2 : (b == d) <;> simp [go_sem, h, h2]
theorem sup_neq (a b c d : Int) (W : World) : (binOp .neq 23 (.agg #[.int .i64 a, .int .i64 b]) (.agg #[.int .i64 c, .int .i64 d])).run Try.prog W = .ok (.bool (!(a == c && b == d))) W := by
  cases h : (a == c) <;> cases h2 : (b == d) <;> simp [go_sem, h, h2]

theorem Quiet.of_drewN {w w' : World} {n : Nat} (h : Quiet (w.drewN n) w') : Below w.heap.size w w' := (below_drewN (Below.refl _ _) n).trans h.below
theorem Below.of_drewN {w w' : World} {n : Nat} (h : Below (w.drewN n).heap.size (w.drewN n) w') : Below w.heap.size w w' := (below_drewN (Below.refl w.heap.size w) n).trans h

set_option maxHeartbeats 4000000 in
theorem SuperBack_walk (a b c d : Int) (w : World) (ha : -9223372036854775808 ≤ a ∧ a ≤ 9223372036854775807) (hb : -9223372036854775808 ≤ b ∧ b ≤ 9223372036854775807)
    (hc : -9223372036854775808 ≤ c ∧ c ≤ 9223372036854775807) (hd : -9223372036854775808 ≤ d ∧ d ≤ 9223372036854775807) :
    Calls Try.prog 5 #[.agg #[.int .i64 a, .int .i64 b], .agg #[.int .i64 c, .int .i64 d]] w (True_ w) := by
  clear ha hb hc hd
  have start : ∀ V : World, V = (w.alloc (.cells #[.int .i64 a, .int .i64 b] 23)).alloc (.cells #[.int .i64 c, .int .i64 d] 23) →
      Bx V w.heap.size 23 #[.int .i64 a, .int .i64 b] ∧ Bx V (w.heap.size + 1) 23 #[.int .i64 c, .int .i64 d] ∧ Below w.heap.size w V := by
    rintro V rfl
    refine ⟨(Bx.new _ _ _).alloc _, ?_, ((Below.refl _ w).alloc (Nat.le_refl _) _).alloc (by simp) _⟩
    have := Bx.new (w.alloc (.cells #[.int .i64 a, .int .i64 b] 23)) 23 #[.int .i64 c, .int .i64 d]
    rwa [alloc_sz] at this
  have ST := Lib.hid start; clear start
  by_cases h1 : SupOk a b
  · by_cases h2 : SupOk c d
    · have he1 : supErr a b = 0 := if_pos h1
      have he2 : supErr c d = 0 := if_pos h2
      have hw1 : write a b = wordsOf a b := if_pos h1
      have hw2 : write c d = wordsOf c d := if_pos h2
      obtain ⟨q1, q2, q3⟩ := rd_words h1
      have hsame : same (wordsOf a b) (wordsOf c d) = (a == c && b == d) := by
        unfold same
        by_cases h : a = c ∧ b = d
        · obtain ⟨rfl, rfl⟩ := h; simp
        · have : ¬ wordsOf a b = wordsOf c d := fun e => h (words_inj h1 h2 e)
          rw [decide_eq_false this]
          by_cases h3 : a = c
          · have h4 : ¬ b = d := fun h5 => h ⟨h3, h5⟩
            simp [h3, h4]
          · simp [h3]
      have hne := fun W => sup_neq a b a b W
      simp only [beq_self_eq_true, Bool.and_self, Bool.not_true] at hne
      have heq := fun W => sup_eql a b c d W
      obtain ⟨sb, hsb⟩ : ∃ sb, sb = (a == c && b == d) := ⟨_, rfl⟩
      rw [← hsb] at hsame heq
      have t2 : (wordsOf a b).take (2 : Int).toNat = [magic, 1] := rfl
      have t3 : (wordsOf c d).take (2 : Int).toNat = [magic, 1] := rfl
      have K := Lib.hid (And.intro he1 (And.intro he2 (And.intro hw1 (And.intro hw2 (And.intro q1 (And.intro q2 (And.intro q3 (And.intro hsame (And.intro t2 t3)))))))))
      clear he1 he2 hw1 hw2 q1 q2 q3 hsame hsb t2 t3 h1 h2
      go_enter Try.func5, Try.ntmps5
      go_wp2_with fail
      refine calls_gen (fun V => Bx V w.heap.size 23 #[.int .i64 a, .int .i64 b] ∧ Bx V (w.heap.size + 1) 23 #[.int .i64 c, .int .i64 d] ∧ Below w.heap.size w V) (ST.out _ rfl) ?_
      rintro w1 ⟨g1, g2, B⟩
      have c_g1 := g1.cell; have c_g2 := g2.cell
      refine (Check6R_any a b _).mono ?_
      rw [K.out.1]
      rintro e w' ⟨rfl, b⟩
      clear c_g1 c_g2
      replace g1 := g1.below b; have c_g1 := g1.cell; replace g2 := g2.below b; have c_g2 := g2.cell; replace B := B.trans (b.mono B.size); clear b
      go_wp2_with fail
      refine (Check6R_any c d _).mono ?_
      rw [K.out.2.1]
      rintro e w' ⟨rfl, b⟩
      clear c_g1 c_g2
      replace g1 := g1.below b; have c_g1 := g1.cell; replace g2 := g2.below b; have c_g2 := g2.cell; replace B := B.trans (b.mono B.size); clear b
      go_wp2_with fail
      refine (Write6_any a b _).mono ?_
      rw [K.out.1, K.out.2.2.1]
      rintro e w' ⟨x1, rfl, ⟨E, o⟩, b⟩
      have r1 := o.rd
      clear c_g1 c_g2
      replace g1 := g1.below b; have c_g1 := g1.cell; replace g2 := g2.below b; have c_g2 := g2.cell; replace B := B.trans (b.mono B.size); clear b o
      go_wp2_with fail
      refine (Write6_any c d _).mono ?_
      rw [K.out.2.1, K.out.2.2.2.1]
      rintro e w' ⟨x2, rfl, ⟨E2, o⟩, b⟩
      have r2 := o.rd
      clear c_g1 c_g2
      replace r1 := r1.below b; replace g1 := g1.below b; have c_g1 := g1.cell; replace g2 := g2.below b; have c_g2 := g2.cell; replace B := B.trans (b.mono B.size); clear b o
      have l1 := Rd.len r1 Try.underlying25
      have l2 := Rd.len r2 Try.underlying25
      rw [len_words] at l1 l2
      go_wp2_with fail
      refine (Read6_any _ _ _ r1).mono ?_
      rw [K.out.2.2.2.2.1, K.out.2.2.2.2.2.1, K.out.2.2.2.2.2.2.1]
      unfold supV
      rintro e w5 ⟨rfl, b⟩
      clear c_g1 c_g2
      replace r1 := r1.below b; replace r2 := r2.below b; replace g1 := g1.below b; replace g2 := g2.below b; replace B := B.trans (b.mono B.size); clear b
      obtain ⟨v1, s1, rv1⟩ := r1.cutTo Try.underlying25 one_u64 (hi := (2 : Int)) (by omega) (by rw [len_words]; omega)
      obtain ⟨v2, s2, rv2⟩ := r2.cutTo Try.underlying25 one_u64 (hi := (2 : Int)) (by omega) (by rw [len_words]; omega)
      rw [K.out.2.2.2.2.2.2.2.2.1] at rv1
      rw [K.out.2.2.2.2.2.2.2.2.2] at rv2
      have z1 : ∀ o, (w5.alloc o).heap.size = w5.heap.size + 1 := fun o => by simp
      have c_g1 : ∀ o i, (w5.alloc o).cell? ⟨w.heap.size, i, none⟩ = (#[.int .i64 a, .int .i64 b] : Array Value)[i]? := fun o i => (g1.alloc o).cell i
      have G1 := Lib.hid g1; have G2 := Lib.hid g2; have R1 := Lib.hid r1; have R2 := Lib.hid r2; have V1 := Lib.hid rv1; have V2 := Lib.hid rv2; have HB := Lib.hid B
      clear g1 g2 r1 r2 rv1 rv2 B z1
      go_wp2
      refine wp_gen (fun V => (Words V v1 [magic, 1] ∧ Words V v2 [magic, 1] ∧ Words V x1 (wordsOf a b) ∧ Words V x2 (wordsOf c d)) ∧ Bx V w.heap.size 23 #[.int .i64 a, .int .i64 b] ∧ Bx V (w.heap.size + 1) 23 #[.int .i64 c, .int .i64 d] ∧ Below w.heap.size w V)
        ⟨⟨V1.out.alloc _, V2.out.alloc _, R1.out.alloc _, R2.out.alloc _⟩, G1.out.alloc _, G2.out.alloc _, HB.out.alloc HB.out.size _⟩ ?_
      clear c_g1 V1 V2 R1 R2 G1 G2 HB
      rintro w6 ⟨⟨rv1, rv2, r1, r2⟩, g1, g2, B⟩
      have RR := Lib.hid (And.intro rv1 (And.intro rv2 (And.intro r1 r2))); have G1 := Lib.hid g1; have G2 := Lib.hid g2; have HB := Lib.hid B
      have i0 : w6.cell? ⟨w.heap.size, 0, none⟩ = some (.int .i64 a) := g1.cell 0
      have i1 : w6.cell? ⟨w.heap.size, 1, none⟩ = some (.int .i64 b) := g1.cell 1
      have i2 : w6.cell? ⟨w.heap.size + 1, 0, none⟩ = some (.int .i64 c) := g2.cell 0
      have i3 : w6.cell? ⟨w.heap.size + 1, 1, none⟩ = some (.int .i64 d) := g2.cell 1
      clear rv1 rv2 r1 r2 g1 g2 B
      go_region_held3 (fun V => V.cell? ⟨w.heap.size, 0, none⟩ = some (.int .i64 a) ∧ V.cell? ⟨w.heap.size, 1, none⟩ = some (.int .i64 b) ∧ V.cell? ⟨w.heap.size + 1, 0, none⟩ = some (.int .i64 c) ∧ V.cell? ⟨w.heap.size + 1, 1, none⟩ = some (.int .i64 d))
        (first | exact ⟨i0, i1, i2, i3⟩ | exact ⟨(G1.out.below k9).cell 0, (G1.out.below k9).cell 1, (G2.out.below k9).cell 0, (G2.out.below k9).cell 1⟩ | exact ⟨(G1.out.below k8).cell 0, (G1.out.below k8).cell 1, (G2.out.below k8).cell 0, (G2.out.below k8).cell 1⟩ | exact ⟨(G1.out.below k7).cell 0, (G1.out.below k7).cell 1, (G2.out.below k7).cell 0, (G2.out.below k7).cell 1⟩)
        (first
          | (go_at_call 24; (with_reducible refine (Same_any v1 v2 [magic, 1] [magic, 1] _ ?h1 ?h2).mono ?_); (case h1 => exact RR.out.1); (case h2 => exact RR.out.2.1); rw [same_refl]; rintro e w7 ⟨rfl, q⟩; have k7 : Below w6.heap.size w6 w7 := q.of_drewN)
          | (go_at_call 24; (with_reducible refine (Same_any x1 x2 (wordsOf a b) (wordsOf c d) _ ?h3 ?h4).mono ?_); (case h3 => exact RR.out.2.2.1.below k7); (case h4 => exact RR.out.2.2.2.below k7); rw [K.out.2.2.2.2.2.2.2.1]; rintro e w8 ⟨rfl, q⟩; have k8 : Below w6.heap.size w6 w8 := k7.trans (q.below.mono k7.size))
          | (go_at_call 19; refine (alive6_any _).mono ?_; rintro e w9 ⟨rfl, b⟩; have k9 : Below w6.heap.size w6 w9 := k8.trans (b.mono k8.size)))
      go_wp2
      go_ret
      exact ⟨rfl, HB.out.trans (k9.mono HB.out.size)⟩
    · have he1 : supErr a b = 0 := if_pos h1
      have he2 : supErr c d = 8 := if_neg h2
      have K := Lib.hid (And.intro he1 he2)
      clear he1 he2 h1 h2
      go_enter Try.func5, Try.ntmps5
      go_wp2_with fail
      refine calls_gen (fun V => Bx V w.heap.size 23 #[.int .i64 a, .int .i64 b] ∧ Bx V (w.heap.size + 1) 23 #[.int .i64 c, .int .i64 d] ∧ Below w.heap.size w V) (ST.out _ rfl) ?_
      rintro w1 ⟨g1, g2, B⟩
      have c_g1 := g1.cell; have c_g2 := g2.cell
      refine (Check6R_any a b _).mono ?_
      rw [K.out.1]
      rintro e w' ⟨rfl, k⟩
      clear c_g1 c_g2
      replace g2 := g2.below k; have c_g2 := g2.cell; replace B := B.trans (k.mono B.size); clear k
      go_wp2_with fail
      refine (Check6R_any c d _).mono ?_
      rw [K.out.2]
      rintro e w' ⟨rfl, k⟩
      replace B := B.trans (k.mono B.size); clear k c_g2 g1 g2
      go_wp2_with fail
      refine (alive6_any _).mono ?_
      rintro e w' ⟨rfl, k⟩
      replace B := B.trans (k.mono B.size); clear k
      go_wp2
      go_ret
      exact ⟨rfl, B⟩
  · have he1 : supErr a b = 8 := if_neg h1
    have K := Lib.hid he1
    clear he1 h1
    go_enter Try.func5, Try.ntmps5
    go_wp2_with fail
    refine calls_gen (fun V => Bx V w.heap.size 23 #[.int .i64 a, .int .i64 b] ∧ Bx V (w.heap.size + 1) 23 #[.int .i64 c, .int .i64 d] ∧ Below w.heap.size w V) (ST.out _ rfl) ?_
    rintro w1 ⟨g1, g2, B⟩
    refine (Check6R_any a b _).mono ?_
    rw [K.out]
    rintro e w' ⟨rfl, k⟩
    replace B := B.trans (k.mono B.size); clear k g1 g2
    go_wp2_with fail
    refine (alive6_any _).mono ?_
    rintro e w' ⟨rfl, k⟩
    replace B := B.trans (k.mono B.size); clear k
    go_wp2
    go_ret
    exact ⟨rfl, B⟩
end Go.Proofs.Ytkaifjihinlbgaa
