/- The walk of the law SuperSum. -/
import Derived.Test.YtkaifjihinlbgaaWc06
set_option linter.unusedVariables false
set_option linter.unusedSimpArgs false
namespace Go.Proofs.Ytkaifjihinlbgaa
open Go.RowKit L02 L05 L06

theorem Words.atX {P : Program} {w : World} {v : Value} {l : List UInt64} {t e : TypeId} (h : Words w v l) (ht : P.underlying t = some (.slice e)) (hi : (P.info? e).map (·.size) = some 1) {k : Int} (h0 : 0 ≤ k) {x : UInt64} (hx : l[k.toNat]? = some x) :
    ∃ ad, (∀ W, (Instr.indexAt t v (.int .i64 k)).run P W = .ok (.pointer (some ad)) W) ∧ w.cell? ad = some (.int .u64 x.toNat) ∧ ad.block < w.heap.size := by
  have hlt : k < l.length := by
    have := (List.getElem?_eq_some_iff.1 hx).1; omega
  obtain ⟨ad, y, i, c, hy⟩ := h.atI ht hi h0 hlt
  have : y = x := by have := hy.out; rw [hx] at this; exact (Option.some.inj this).symm
  subst this
  exact ⟨ad, i, c, World.block_lt_of_cell? w _ c⟩

theorem Check6_agg (W T : Int) (w : World) : Calls Try.prog 16 #[.agg #[.int .i64 W, .int .i64 T]] w fun e w' => e = .returned (.int .i64 (supErr W T)) ∧ Below w.heap.size w w' := Check6_any W T w
theorem Check6R_agg (W T : Int) (w : World) : Calls Try.prog 23 #[.agg #[.int .i64 W, .int .i64 T]] w fun e w' => e = .returned (.int .i64 (supErr W T)) ∧ Below w.heap.size w w' := Check6R_any W T w

set_option maxHeartbeats 4000000 in
theorem SuperSum_walk (a b : Int) (w : World) (ha : -9223372036854775808 ≤ a ∧ a ≤ 9223372036854775807) (hb : -9223372036854775808 ≤ b ∧ b ≤ 9223372036854775807) :
    Calls Try.prog 8 #[.agg #[.int .i64 a, .int .i64 b]] w (True_ w) := by
  clear ha hb
  by_cases h1 : SupOk a b
  · have he1 : supErr a b = 0 := if_pos h1
    have hw1 : write a b = wordsOf a b := if_pos h1
    have n1 := u_nat (n := a) (by have := h1.1.1; omega) (by have := h1.1.2.1; omega)
    have n2 := u_nat (n := b) h1.2.1 (by have := h1.2.2; omega)
    have p1 : 0 ≤ a ∧ a ≤ 2048 ∧ 0 ≤ b ∧ b ≤ 8 := ⟨by have := h1.1.1; omega, h1.1.2.1, h1.2.1, h1.2.2⟩
    obtain ⟨pa, pb, pc, pd⟩ := p1
    have hwa : IntKind.u64.wrap a = a := by rw [wrap_u64]; omega
    have hwb : IntKind.u64.wrap b = b := by rw [wrap_u64]; omega
    have t7 : (wordsOf a b).take (7 : Int).toNat = body a b := rfl
    have K := Lib.hid (And.intro he1 (And.intro hw1 (And.intro n1 (And.intro n2 t7))))
    clear he1 hw1 n1 n2 t7 h1
    go_enter Try.func8, Try.ntmps8
    go_wp2_with fail
    refine calls_gen (fun V => Bx V w.heap.size 23 #[.int .i64 a, .int .i64 b] ∧ Below w.heap.size w V) ⟨Bx.new _ _ _, (Below.refl _ w).alloc (Nat.le_refl _) _⟩ ?_
    rintro w1 ⟨g1, B⟩
    have c_g1 := g1.cell
    refine (Check6R_any a b _).mono ?_
    rw [K.out.1]
    rintro e w' ⟨rfl, k⟩
    clear c_g1
    replace g1 := g1.below k; have c_g1 := g1.cell; replace B := B.trans (k.mono B.size); clear k
    go_wp2_with fail
    refine (Write6_any a b _).mono ?_
    rw [K.out.1, K.out.2.1]
    rintro e w' ⟨x1, rfl, ⟨E, o⟩, k⟩
    have r1 := o.rd
    clear c_g1
    replace g1 := g1.below k; replace B := B.trans (k.mono B.size); clear k o
    have l1 := Rd.len r1 Try.underlying25
    rw [len_words] at l1
    obtain ⟨v7, s7, rv7⟩ := r1.cutTo Try.underlying25 one_u64 (hi := (7 : Int)) (by omega) (by rw [len_words]; omega)
    rw [K.out.2.2.2.2] at rv7
    go_wp2_with fail
    refine (Of_any _ _ _ rv7 (by simp [body])).mono ?_
    rintro e w6 ⟨rfl, k⟩
    replace g1 := g1.below k; replace r1 := r1.below k; replace B := B.trans (k.mono B.size); clear k rv7
    obtain ⟨S, hS⟩ : ∃ S, S = sum (body a b) := ⟨_, rfl⟩
    rw [← hS]
    have hl : wordsOf a b = [magic, 1, u a, u b, 0, 0, 0, S] := by rw [hS]; rfl
    rw [hl] at r1
    clear hl hS s7
    obtain ⟨d7, i7, c7, b7⟩ := r1.atX (P := Try.prog) Try.underlying25 one_u64 (k := (7 : Int)) (by omega) (x := S) rfl
    obtain ⟨d2, i2, c2, b2⟩ := r1.atX (P := Try.prog) Try.underlying25 one_u64 (k := (2 : Int)) (by omega) (x := u a) rfl
    obtain ⟨d3, i3, c3, b3⟩ := r1.atX (P := Try.prog) Try.underlying25 one_u64 (k := (3 : Int)) (by omega) (x := u b) rfl
    obtain ⟨d4, i4, c4, b4⟩ := r1.atX (P := Try.prog) Try.underlying25 one_u64 (k := (4 : Int)) (by omega) (x := 0) rfl
    obtain ⟨d5, i5, c5, b5⟩ := r1.atX (P := Try.prog) Try.underlying25 one_u64 (k := (5 : Int)) (by omega) (x := 0) rfl
    obtain ⟨d6, i6, c6, b6⟩ := r1.atX (P := Try.prog) Try.underlying25 one_u64 (k := (6 : Int)) (by omega) (x := 0) rfl
    rw [K.out.2.2.1] at c2
    rw [K.out.2.2.2.1] at c3
    have c4' : w6.cell? d4 = some (.int .u64 0) := c4
    have c5' : w6.cell? d5 = some (.int .u64 0) := c5
    have c6' : w6.cell? d6 = some (.int .u64 0) := c6
    have c0 : w6.cell? ⟨w.heap.size, 0, none⟩ = some (.int .i64 a) := g1.cell 0
    have c1 : w6.cell? ⟨w.heap.size, 1, none⟩ = some (.int .i64 b) := g1.cell 1
    have b0 := g1.lt
    have HBL := Lib.hid (And.intro b0 (And.intro b2 (And.intro b3 (And.intro b4 (And.intro b5 (And.intro b6 b7))))))
    have HB := Lib.hid B
    clear r1 g1 B c4 c5 c6 b0 b2 b3 b4 b5 b6 b7
    have HS := Lib.hid (And.intro c0 (And.intro c1 (And.intro c2 (And.intro c3 (And.intro c4' (And.intro c5' (And.intro c6' c7)))))))
    go_wp2
    go_region_held3 (fun V => V.cell? ⟨w.heap.size, 0, none⟩ = some (.int .i64 a) ∧ V.cell? ⟨w.heap.size, 1, none⟩ = some (.int .i64 b) ∧ V.cell? d2 = some (.int .u64 a) ∧ V.cell? d3 = some (.int .u64 b) ∧ V.cell? d4 = some (.int .u64 0) ∧ V.cell? d5 = some (.int .u64 0) ∧ V.cell? d6 = some (.int .u64 0) ∧ V.cell? d7 = some (.int .u64 S.toNat))
      (first
        | exact ⟨c0, c1, c2, c3, c4', c5', c6', c7⟩
        | exact ⟨(k8.cell HBL.out.1).trans HS.out.1, (k8.cell HBL.out.1).trans HS.out.2.1, (k8.cell HBL.out.2.1).trans HS.out.2.2.1, (k8.cell HBL.out.2.2.1).trans HS.out.2.2.2.1, (k8.cell HBL.out.2.2.2.1).trans HS.out.2.2.2.2.1, (k8.cell HBL.out.2.2.2.2.1).trans HS.out.2.2.2.2.2.1, (k8.cell HBL.out.2.2.2.2.2.1).trans HS.out.2.2.2.2.2.2.1, (k8.cell HBL.out.2.2.2.2.2.2).trans HS.out.2.2.2.2.2.2.2⟩
        | exact ⟨(k7.cell HBL.out.1).trans HS.out.1, (k7.cell HBL.out.1).trans HS.out.2.1, (k7.cell HBL.out.2.1).trans HS.out.2.2.1, (k7.cell HBL.out.2.2.1).trans HS.out.2.2.2.1, (k7.cell HBL.out.2.2.2.1).trans HS.out.2.2.2.2.1, (k7.cell HBL.out.2.2.2.2.1).trans HS.out.2.2.2.2.2.1, (k7.cell HBL.out.2.2.2.2.2.1).trans HS.out.2.2.2.2.2.2.1, (k7.cell HBL.out.2.2.2.2.2.2).trans HS.out.2.2.2.2.2.2.2⟩)
      (first
        | (go_at_call 16; (with_reducible refine (Check6_agg a b _).mono ?_); rw [K.out.1]; rintro e w7 ⟨rfl, k⟩; have k7 : Below w6.heap.size w6 w7 := ((Below.refl w6.heap.size w6).drew).trans k)
        | (go_at_call 19; (with_reducible refine (alive6_any _).mono ?_); rintro e w8 ⟨rfl, k⟩; have k8 : Below w6.heap.size w6 w8 := k7.trans (k.mono k7.size)))
    go_wp2
    go_ret
    exact ⟨rfl, HB.out.trans (k8.mono HB.out.size)⟩
  · have he1 : supErr a b = 8 := if_neg h1
    have K := Lib.hid he1
    clear he1 h1
    go_enter Try.func8, Try.ntmps8
    go_wp2_with fail
    refine calls_gen (fun V => Bx V w.heap.size 23 #[.int .i64 a, .int .i64 b] ∧ Below w.heap.size w V) ⟨Bx.new _ _ _, (Below.refl _ w).alloc (Nat.le_refl _) _⟩ ?_
    rintro w1 ⟨g1, B⟩
    refine (Check6R_any a b _).mono ?_
    rw [K.out]
    rintro e w' ⟨rfl, k⟩
    replace g1 := g1.below k; have c_g1 := g1.cell; replace B := B.trans (k.mono B.size); clear k
    go_wp2_with fail
    refine (Check6_any a b _).mono ?_
    rw [K.out]
    rintro e w' ⟨rfl, k⟩
    replace B := B.trans (k.mono B.size); clear k g1 c_g1
    go_wp2_with fail
    refine (alive6_any _).mono ?_
    rintro e w' ⟨rfl, k⟩
    replace B := B.trans (k.mono B.size); clear k
    go_wp2
    go_ret
    exact ⟨rfl, B⟩
end Go.Proofs.Ytkaifjihinlbgaa
