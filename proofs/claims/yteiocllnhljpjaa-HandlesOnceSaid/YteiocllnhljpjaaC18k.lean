/- Contracts of the laws' own functions on slots, continued. -/
import Derived.Test.YteiocllnhljpjaaC18j
import Derived.Test.YteiocllnhljpjaaL18b
set_option linter.unusedVariables false
set_option linter.unusedSimpArgs false
namespace Go.Proofs.Yteiocllnhljpjaa
open Go.RowKit L01 L02 L18

set_option maxRecDepth 100000 in
set_option maxHeartbeats 2000000 in
theorem same18_any (vl vy : Value) (L : List Sl) (ly : List UInt64) (bt : Int) (hL : L.length = 16) (h0 : openErr ly = 0) (hs : ∀ i : Nat, (i : Int) ≠ bt → L[i]? = (slots ly)[i]?) (w : World) (h1 : Slots w vl L) (h2 : Words w vy ly) :
    Calls Try.prog 28 #[vl, vy, .int .i64 bt] w fun e w' => e = .returned (.bool true) ∧ Below w.heap.size w w' := by
  have B : Below w.heap.size w w := Below.refl _ _
  have l1 := Rd.len h1 Try.underlying42
  rw [hL] at l1
  have AT := fun w h => All18_any vy ly (slots ly) 0 (all_ok h0).symm h0.symm w h
  have HA := Lib.hid AT; have H1 := Lib.hid h1; have H2 := Lib.hid h2; have HS := Lib.hid hs; have HL := Lib.hid hL; have H0 := Lib.hid h0
  clear AT h1 h2 hs hL h0
  go_enter Try.func28, Try.ntmps28
  go_wp2_with fail
  refine (HA.out _ (H2.out.below B)).mono ?_
  rintro e w' ⟨x, E, rfl, o1, b⟩
  replace B := B.trans (b.mono B.size); clear b
  have l2 := Rd.len o1.rd Try.underlying42
  rw [slots16 H0.out] at l2
  go_wp2
  have HO := Lib.hid o1; have HB := Lib.hid B; clear o1 B
  obtain ⟨w1, hw1⟩ : ∃ w1, w1 = w' := ⟨_, rfl⟩
  subst hw1
  go_loopw [9] (fun i wr => ∃ k : Nat, k ≤ 16 ∧ i = .int .i64 k ∧ Below w1.heap.size w1 wr) (fun i _ => 16 - (intOf i).toNat)
  case atStart => exact ⟨0, by omega, rfl, Below.refl _ _⟩
  case round =>
    obtain ⟨k, hk, rfl, B⟩ := hrel
    by_cases hlt : k < 16
    · obtain ⟨b, o, s, ia, m0, m1, m2, hsk⟩ := (H1.out.below (HB.out.trans (B.mono HB.out.size))).at_ (P := Try.prog) Try.underlying42 size_slot (k := k) (by rw [HL.out]; exact hlt)
      obtain ⟨b', o', t, ib, m3, m4, m5, htk⟩ := (HO.out.rd.below B).at_ (P := Try.prog) Try.underlying42 size_slot (k := k) (by rw [slots16 H0.out]; exact hlt)
      have n0 : (0 : Int) ≤ (k : Int) := by omega
      by_cases hb : (k : Int) = bt
      · have hb' : ((k : Int) != bt) = false := by rw [bne_eq_false_iff_eq]; exact hb
        clear hb hsk htk
        go_wp2
        refine wp_region_calm (by kernel_rfl) (by kernel_rfl) ?_
        have c_m0 := fun x : Fut _ => cell_later x.h m0
        have c_m1 := fun x : Fut _ => cell_later x.h m1
        have c_m2 := fun x : Fut _ => cell_later x.h m2
        have c_m3 := fun x : Fut _ => cell_later x.h m3
        have c_m4 := fun x : Fut _ => cell_later x.h m4
        have c_m5 := fun x : Fut _ => cell_later x.h m5
        repeat (go_big_quiet_step (fail))
        refine wpQuiet_nil ?_
        intro _ hw'
        obtain ⟨xq, hw''⟩ := hw'
        subst hw''
        clear c_m0; replace m0 := cell_later xq.h m0
        clear c_m1; replace m1 := cell_later xq.h m1
        clear c_m2; replace m2 := cell_later xq.h m2
        clear c_m3; replace m3 := cell_later xq.h m3
        clear c_m4; replace m4 := cell_later xq.h m4
        clear c_m5; replace m5 := cell_later xq.h m5
        replace B := B.trans (xq.h.mono B.size)
        go_wp2
        go_roundw
        case rel => exact ⟨k + 1, by omega, by go_num, B⟩
        case measure => simp [intOf]; omega
      · have hb' : ((k : Int) != bt) = true := by rw [bne_iff_ne]; exact hb
        have hst : s = t := by
          have h3 := HS.out k hb
          rw [hsk.out, htk.out] at h3
          injection h3
        subst hst
        have q := fun W => slot_neq s s false (by simp) W
        clear hb hsk htk
        go_wp2
        refine wp_region_calm (by kernel_rfl) (by kernel_rfl) ?_
        have c_m0 := fun x : Fut _ => cell_later x.h m0
        have c_m1 := fun x : Fut _ => cell_later x.h m1
        have c_m2 := fun x : Fut _ => cell_later x.h m2
        have c_m3 := fun x : Fut _ => cell_later x.h m3
        have c_m4 := fun x : Fut _ => cell_later x.h m4
        have c_m5 := fun x : Fut _ => cell_later x.h m5
        repeat (go_big_quiet_step (fail))
        refine wpQuiet_nil ?_
        intro _ hw'
        obtain ⟨xq, hw''⟩ := hw'
        subst hw''
        clear c_m0; replace m0 := cell_later xq.h m0
        clear c_m1; replace m1 := cell_later xq.h m1
        clear c_m2; replace m2 := cell_later xq.h m2
        clear c_m3; replace m3 := cell_later xq.h m3
        clear c_m4; replace m4 := cell_later xq.h m4
        clear c_m5; replace m5 := cell_later xq.h m5
        replace B := B.trans (xq.h.mono B.size)
        go_wp2
        go_roundw
        case rel => exact ⟨k + 1, by omega, by go_num, B⟩
        case measure => simp [intOf]; omega
    · obtain rfl : k = 16 := by omega
      go_wp2
      go_ret
      exact ⟨rfl, HB.out.trans (B.mono HB.out.size)⟩
end Go.Proofs.Yteiocllnhljpjaa
