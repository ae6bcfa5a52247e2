/- The walks of the laws SuperOnce, SuperBack. -/
import Derived.Test.YtkaifjihinlbgaaWa06
set_option linter.unusedVariables false
set_option linter.unusedSimpArgs false
namespace Go.Proofs.Ytkaifjihinlbgaa
open Go.RowKit L02 L05 L06

theorem once_err {l : List UInt64} (h : rdErr l ≠ 0) : ¬ ReadOk l := fun hr => h (by rw [rdErr, if_pos (readOk_len hr), if_pos hr])
theorem once_ok {l : List UInt64} (h : rdErr l = 0) : ReadOk l := by
  unfold rdErr at h
  split at h
  · split at h
    · assumption
    · omega
  · omega
theorem write_of_read {l : List UInt64} (h : ReadOk l) : write (rdW l) (rdT l) = l ∧ supErr (rdW l) (rdT l) = 0 := by
  have h1 : rdW l = at2 l := if_pos h
  have h2 : rdT l = at3 l := if_pos h
  rw [h1, h2]
  exact ⟨by rw [write, if_pos h.1]; exact h.2.symm, if_pos h.1⟩

set_option maxHeartbeats 2000000 in
theorem SuperOnce_walk (v0 : Value) (l : List UInt64) (w : World) (h0 : Words w v0 l) : Calls Try.prog 6 #[v0] w (True_ w) := by
  have B : Below w.heap.size w w := Below.refl _ _
  have l1 := Rd.len h0 Try.underlying25
  by_cases hbig : 20 < l.length
  · go_enter Try.func6, Try.ntmps6
    go_wp2_with fail
    refine (alive6_any _).mono ?_
    rintro e w' ⟨rfl, b⟩
    replace B := B.trans (b.mono B.size); clear b
    go_wp2
    go_ret
    exact ⟨rfl, B⟩
  have hsm : l.length ≤ 20 := by omega
  clear hbig
  by_cases hr : rdErr l = 0
  · have hok := once_ok hr
    obtain ⟨hw, he⟩ := write_of_read hok
    have HR := Lib.hid hr; have HW := Lib.hid hw; have HE := Lib.hid he; clear hr hok hw he
    obtain ⟨W, hW⟩ : ∃ W, W = rdW l := ⟨_, rfl⟩
    obtain ⟨T, hT⟩ : ∃ T, T = rdT l := ⟨_, rfl⟩
    rw [← hW, ← hT] at HW HE
    have HWW := Lib.hid hW; have HTT := Lib.hid hT; clear hW hT
    go_enter Try.func6, Try.ntmps6
    go_wp2_with fail
    refine (Read6_any _ _ _ h0).mono ?_
    rw [HR.out, ← HWW.out, ← HTT.out]
    unfold supV
    rintro e w1 ⟨rfl, b⟩
    replace h0 := h0.below b; replace B := B.trans (b.mono B.size); clear b
    go_wp2_with fail
    refine calls_gen (fun V => Words V v0 l ∧ Bx V w1.heap.size 23 #[.int .i64 W, .int .i64 T] ∧ Below w.heap.size w V) ⟨h0.alloc _, Bx.new _ _ _, B.alloc B.size _⟩ ?_
    clear h0 B
    rintro w2 ⟨h0, g1, B⟩
    have c_g1 := g1.cell
    refine (Write6_any W T _).mono ?_
    rw [HE.out, HW.out]
    rintro e w3 ⟨x3, rfl, ⟨E, o⟩, b⟩
    have r3 := o.rd
    clear c_g1
    replace h0 := h0.below b; replace g1 := g1.below b; replace B := B.trans (b.mono B.size); have c_g1 := g1.cell; clear o b
    go_wp2_with fail
    refine (Same_any _ _ _ _ _ h0 r3).mono ?_
    rw [same_refl]
    rintro e w' ⟨rfl, q⟩
    have b := q.below; try clear c_g1 f_g1 a_g1 d_g1 e_g1
    replace g1 := g1.below b; have c_g1 := g1.cell; have f_g1 := g1.free; have a_g1 := fun o => (g1.alloc o).cell; have d_g1 := fun o o2 => ((g1.alloc o).alloc o2).cell; have e_g1 := fun o => (g1.alloc o).free; replace B := B.trans (b.mono B.size); clear q b
    go_wp2_with fail
    refine (Check6R_any W T _).mono ?_
    rintro e w' ⟨rfl, b⟩
    replace B := B.trans (b.mono B.size); clear b
    rw [HE.out]
    go_wp2_with fail
    refine (alive6_any _).mono ?_
    rintro e w' ⟨rfl, b⟩
    replace B := B.trans (b.mono B.size); clear b
    go_wp2
    go_ret
    exact ⟨rfl, B⟩
  · have hno := once_err hr
    have hcase : (l.length ≠ 8 ∧ rdErr l = 2) ∨ (l.length = 8 ∧ rdErr l = 50) := by
      by_cases h8 : l.length = 8
      · exact .inr ⟨h8, by rw [rdErr, if_pos h8, if_neg hno]⟩
      · exact .inl ⟨h8, by rw [rdErr, if_neg h8]⟩
    have HN := Lib.hid hno; clear hr hno
    rcases hcase with ⟨h8, he⟩ | ⟨h8, he⟩
    · have HE := Lib.hid he; clear he
      have t1 : ((l.length : Int) != 8) = true := by simp; omega
      clear h8
      go_enter Try.func6, Try.ntmps6
      go_wp2_with fail
      refine (Read6_any _ _ _ h0).mono ?_
      rw [HE.out, (rd_no HN.out).1, (rd_no HN.out).2]
      unfold supV
      rintro e w1 ⟨rfl, b⟩
      replace B := B.trans (b.mono B.size); clear b h0
      go_wp2_with fail
      refine (alive6_any _).mono ?_
      rintro e w2 ⟨rfl, b⟩
      have B2 := (B.alloc B.size (.cells #[.int .i64 0, .int .i64 0] 23)).trans (b.mono (Nat.le_trans B.size (by simp)))
      go_wp2
      go_ret
      exact ⟨rfl, B2⟩
    · have HE := Lib.hid he; clear he
      rw [h8] at l1
      clear h8
      go_enter Try.func6, Try.ntmps6
      go_wp2_with fail
      refine (Read6_any _ _ _ h0).mono ?_
      rw [HE.out, (rd_no HN.out).1, (rd_no HN.out).2]
      unfold supV
      rintro e w1 ⟨rfl, b⟩
      replace B := B.trans (b.mono B.size); clear b h0
      go_wp2_with fail
      refine (alive6_any _).mono ?_
      rintro e w2 ⟨rfl, b⟩
      have B2 := (B.alloc B.size (.cells #[.int .i64 0, .int .i64 0] 23)).trans (b.mono (Nat.le_trans B.size (by simp)))
      go_wp2
      go_ret
      exact ⟨rfl, B2⟩
end Go.Proofs.Ytkaifjihinlbgaa
