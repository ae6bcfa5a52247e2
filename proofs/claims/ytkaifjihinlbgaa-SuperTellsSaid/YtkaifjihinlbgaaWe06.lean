/- The walk of the law SuperTells. -/
import Derived.Test.YtkaifjihinlbgaaWd06
set_option linter.unusedVariables false
set_option linter.unusedSimpArgs false
namespace Go.Proofs.Ytkaifjihinlbgaa
open Go.RowKit L02 L05 L06

set_option maxHeartbeats 4000000 in
theorem SuperTells_walk (a b : Int) (v1 : Value) (l : List UInt64) (w : World) (ha : -9223372036854775808 ≤ a ∧ a ≤ 9223372036854775807) (hb : -9223372036854775808 ≤ b ∧ b ≤ 9223372036854775807) (h1 : Words w v1 l) :
    Calls Try.prog 4 #[.agg #[.int .i64 a, .int .i64 b], v1] w (True_ w) := by
  clear ha hb
  have l1 := Rd.len h1 Try.underlying25
  by_cases hbig : 20 < l.length
  · go_enter Try.func4, Try.ntmps4
    go_wp2
    go_ret
    exact ⟨rfl, (Below.refl _ w).alloc (Nat.le_refl _) _⟩
  have hsm : l.length ≤ 20 := by omega
  clear hbig
  obtain ⟨e1, he1⟩ : ∃ e1, e1 = supErr a b := ⟨_, rfl⟩
  obtain ⟨e2, he2⟩ : ∃ e2, e2 = rdErr l := ⟨_, rfl⟩
  obtain ⟨W, hW⟩ : ∃ W, W = rdW l := ⟨_, rfl⟩
  obtain ⟨T, hT⟩ : ∃ T, T = rdT l := ⟨_, rfl⟩
  obtain ⟨m, hm⟩ : ∃ m, m = write a b := ⟨_, rfl⟩
  have K := Lib.hid (And.intro he1 (And.intro he2 (And.intro hW (And.intro hT hm))))
  clear he1 he2 hW hT hm
  have heq := fun V => sup_eql W T W T V
  simp only [beq_self_eq_true, Bool.and_self] at heq
  go_enter Try.func4, Try.ntmps4
  go_wp2_with fail
  refine calls_gen (fun V => Bx V w.heap.size 23 #[.int .i64 a, .int .i64 b] ∧ Words V v1 l ∧ Below w.heap.size w V) ⟨Bx.new _ _ _, h1.alloc _, (Below.refl _ w).alloc (Nat.le_refl _) _⟩ ?_
  clear h1
  rintro w1 ⟨g1, h1, B⟩
  refine (Twin_any _ _ _ h1 (by omega)).mono ?_
  rintro e w' ⟨x1, rfl, o, k⟩
  have r1 := o.rd
  replace g1 := g1.below k; have c_g1 := g1.cell; replace h1 := h1.below k; replace B := B.trans (k.mono B.size); clear k o
  go_wp2_with fail
  refine (Write6_any a b _).mono ?_
  rw [← K.out.1, ← K.out.2.2.2.2]
  rintro e w' ⟨x2, rfl, ⟨E, o⟩, k⟩
  have r2 := o.rd
  clear c_g1
  replace g1 := g1.below k; have c_g1 := g1.cell; replace h1 := h1.below k; replace r1 := r1.below k; replace B := B.trans (k.mono B.size); clear k o
  go_wp2_with fail
  refine (Write6R_any a b _).mono ?_
  rw [← K.out.1, ← K.out.2.2.2.2]
  rintro e w' ⟨x3, rfl, ⟨E2, o⟩, k⟩
  have r3 := o.rd
  clear c_g1
  replace g1 := g1.below k; replace h1 := h1.below k; replace r1 := r1.below k; replace r2 := r2.below k; replace B := B.trans (k.mono B.size); clear k o
  go_wp2_with fail
  refine (Read6_any _ _ _ r1).mono ?_
  rw [← K.out.2.1, ← K.out.2.2.1, ← K.out.2.2.2.1]
  unfold supV
  rintro e w5 ⟨rfl, k⟩
  replace g1 := g1.below k; replace h1 := h1.below k; replace r1 := r1.below k; replace r2 := r2.below k; replace r3 := r3.below k; replace B := B.trans (k.mono B.size); clear k
  go_wp2_with fail
  refine calls_gen (fun V => Bx V w.heap.size 23 #[.int .i64 a, .int .i64 b] ∧ Bx V w5.heap.size 23 #[.int .i64 W, .int .i64 T] ∧ Words V v1 l ∧ Words V x1 l ∧ Words V x2 m ∧ Words V x3 m ∧ Below w.heap.size w V)
    ⟨g1.alloc _, Bx.new _ _ _, h1.alloc _, r1.alloc _, r2.alloc _, r3.alloc _, B.alloc B.size _⟩ ?_
  clear g1 h1 r1 r2 r3 B
  rintro w6 ⟨g1, g2, h1, r1, r2, r3, B⟩
  refine (Read6R_any _ _ _ h1 (by omega)).mono ?_
  rw [← K.out.2.1, ← K.out.2.2.1, ← K.out.2.2.2.1]
  unfold supV
  rintro e w7 ⟨rfl, k⟩
  replace g1 := g1.below k; replace g2 := g2.below k; replace h1 := h1.below k; replace r1 := r1.below k; replace r2 := r2.below k; replace r3 := r3.below k; replace B := B.trans (k.mono B.size); clear k
  have RR := Lib.hid (And.intro g1 (And.intro g2 (And.intro h1 (And.intro r1 (And.intro r2 (And.intro r3 B))))))
  clear g1 g2 h1 r1 r2 r3 B
  go_wp2
  refine wp_gen (fun V => Bx V w.heap.size 23 #[.int .i64 a, .int .i64 b] ∧ Bx V w5.heap.size 23 #[.int .i64 W, .int .i64 T] ∧ Bx V w7.heap.size 23 #[.int .i64 W, .int .i64 T] ∧ Words V v1 l ∧ Words V x1 l ∧ Words V x2 m ∧ Words V x3 m ∧ Below w.heap.size w V)
    ⟨RR.out.1.alloc _, RR.out.2.1.alloc _, Bx.new _ _ _, RR.out.2.2.1.alloc _, RR.out.2.2.2.1.alloc _, RR.out.2.2.2.2.1.alloc _, RR.out.2.2.2.2.2.1.alloc _, RR.out.2.2.2.2.2.2.alloc RR.out.2.2.2.2.2.2.size _⟩ ?_
  clear RR
  rintro w8 ⟨g1, g2, g3, h1, r1, r2, r3, B⟩
  have i0 : w8.cell? ⟨w.heap.size, 0, none⟩ = some (.int .i64 a) := g1.cell 0
  have i1 : w8.cell? ⟨w.heap.size, 1, none⟩ = some (.int .i64 b) := g1.cell 1
  have i2 : w8.cell? ⟨w5.heap.size, 0, none⟩ = some (.int .i64 W) := g2.cell 0
  have i3 : w8.cell? ⟨w5.heap.size, 1, none⟩ = some (.int .i64 T) := g2.cell 1
  have i4 : w8.cell? ⟨w7.heap.size, 0, none⟩ = some (.int .i64 W) := g3.cell 0
  have i5 : w8.cell? ⟨w7.heap.size, 1, none⟩ = some (.int .i64 T) := g3.cell 1
  have G := Lib.hid (And.intro g1 (And.intro g2 g3)); have R := Lib.hid (And.intro h1 (And.intro r1 (And.intro r2 r3))); have HB := Lib.hid B
  clear g1 g2 g3 h1 r1 r2 r3 B
  go_region_held3 (fun V => V.cell? ⟨w.heap.size, 0, none⟩ = some (.int .i64 a) ∧ V.cell? ⟨w.heap.size, 1, none⟩ = some (.int .i64 b) ∧ V.cell? ⟨w5.heap.size, 0, none⟩ = some (.int .i64 W) ∧ V.cell? ⟨w5.heap.size, 1, none⟩ = some (.int .i64 T) ∧ V.cell? ⟨w7.heap.size, 0, none⟩ = some (.int .i64 W) ∧ V.cell? ⟨w7.heap.size, 1, none⟩ = some (.int .i64 T))
    (first
      | exact ⟨i0, i1, i2, i3, i4, i5⟩
      | exact ⟨(G.out.1.below k4).cell 0, (G.out.1.below k4).cell 1, (G.out.2.1.below k4).cell 0, (G.out.2.1.below k4).cell 1, (G.out.2.2.below k4).cell 0, (G.out.2.2.below k4).cell 1⟩
      | exact ⟨(G.out.1.below k3).cell 0, (G.out.1.below k3).cell 1, (G.out.2.1.below k3).cell 0, (G.out.2.1.below k3).cell 1, (G.out.2.2.below k3).cell 0, (G.out.2.2.below k3).cell 1⟩
      | exact ⟨(G.out.1.below k2).cell 0, (G.out.1.below k2).cell 1, (G.out.2.1.below k2).cell 0, (G.out.2.1.below k2).cell 1, (G.out.2.2.below k2).cell 0, (G.out.2.2.below k2).cell 1⟩
      | exact ⟨(G.out.1.below k1).cell 0, (G.out.1.below k1).cell 1, (G.out.2.1.below k1).cell 0, (G.out.2.1.below k1).cell 1, (G.out.2.2.below k1).cell 0, (G.out.2.2.below k1).cell 1⟩)
    (first
      | (go_at_call 16; (with_reducible refine (Check6_agg a b _).mono ?_); rw [← K.out.1]; rintro e y1 ⟨rfl, k⟩; have k1 : Below w8.heap.size w8 y1 := ((Below.refl w8.heap.size w8).drew).trans k)
      | (go_at_call 23; (with_reducible refine (Check6R_agg a b _).mono ?_); rw [← K.out.1]; rintro e y2 ⟨rfl, k⟩; have k2 : Below w8.heap.size w8 y2 := k1.trans (k.mono k1.size))
      | (go_at_call 24; (with_reducible refine (Same_any x2 x3 m m _ ?h1 ?h2).mono ?_); (case h1 => exact R.out.2.2.1.below k2); (case h2 => exact R.out.2.2.2.below k2); rw [same_refl]; rintro e y3 ⟨rfl, q⟩; have k3 : Below w8.heap.size w8 y3 := k2.trans (q.below.mono k2.size))
      | (go_at_call 24; (with_reducible refine (Same_any x1 v1 l l _ ?h3 ?h4).mono ?_); (case h3 => exact R.out.2.1.below k3); (case h4 => exact R.out.1.below k3); rw [same_refl]; rintro e y4 ⟨rfl, q⟩; have k4 : Below w8.heap.size w8 y4 := k3.trans (q.below.mono k3.size)))
  go_wp2
  go_ret
  exact ⟨rfl, HB.out.trans (k4.mono HB.out.size)⟩
end Go.Proofs.Ytkaifjihinlbgaa
