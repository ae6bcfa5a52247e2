/- Contracts of the reference of images, continued: Diff, SameInts. -/
import Derived.Test.YtpnikhjlfflpaaaC02c
set_option linter.unusedVariables false
set_option linter.unusedSimpArgs false
namespace Go.Proofs.Ytpnikhjlfflpaaa
open Go.RowKit L02

theorem sameI_step {a b : List Int} {k : Nat} {x y : Int} (h : a.take k = b.take k) (hx : a[k]? = some x) (hy : b[k]? = some y) (e : (x != y) = false) : a.take (k+1) = b.take (k+1) := by
  have : x = y := by simpa using e
  rw [List.take_add_one, List.take_add_one, h, hx, hy, this]
theorem sameI_no {a b : List Int} {k : Nat} {x y : Int} (hx : a[k]? = some x) (hy : b[k]? = some y) (e : (x != y) = true) : sameI a b = false := by
  simp [sameI]; rintro rfl; rw [hx] at hy; cases hy; simp at e
theorem sameI_len {a b : List Int} (h : a.length ≠ b.length) : sameI a b = false := by
  simp [sameI]; rintro rfl; exact h rfl
theorem sameI_end {a b : List Int} {k : Nat} (h : a.take k = b.take k) (ha : a.length ≤ k) (hb : b.length ≤ k) : sameI a b = true := by
  rw [List.take_of_length_le ha, List.take_of_length_le hb] at h; simp [sameI, h]

set_option maxHeartbeats 400000 in
theorem SameInts_any (va vb : Value) (la lb : List Int) (w : World) (ha : Ints w va la) (hb : Ints w vb lb) :
    Calls Try.prog 16 #[va, vb] w fun e w' => e = .returned (.bool (sameI la lb)) ∧ Quiet w w' := by
  have la1 := Rd.len ha Try.underlying29; have lb1 := Rd.len hb Try.underlying29
  have la2 := Rd.len_le ha; have lb2 := Rd.len_le hb
  have HA := Lib.hid ha; have HB := Lib.hid hb; clear ha hb
  obtain ⟨na, hna⟩ : ∃ na, na = la.length := ⟨_, rfl⟩
  obtain ⟨nb, hnb⟩ : ∃ nb, nb = lb.length := ⟨_, rfl⟩
  rw [← hna] at la1 la2; rw [← hnb] at lb1 lb2
  have Hna := Lib.hid hna; have Hnb := Lib.hid hnb; clear hna hnb
  by_cases hl : na = nb
  · subst hl
    go_enter Try.func16, Try.ntmps16
    go_wp2
    go_loopw [5] (fun i wr => ∃ k n : Nat, k ≤ na ∧ i = .int .i64 k ∧ wr = w.drewN n ∧ la.take k = lb.take k) (fun i _ => na - (intOf i).toNat)
    case atStart => exact ⟨0, 0, Nat.zero_le _, rfl, rfl, by simp⟩
    case round =>
      obtain ⟨k, n, hk, rfl, rfl, heq⟩ := hrel
      have HE := Lib.hid heq; clear heq
      by_cases hlt : k < na
      · obtain ⟨ad, x, ia, ca', hx⟩ := HA.out.at_ Try.underlying29 one_int (k := k) (by have := Hna.out; omega)
        obtain ⟨bd, y, ib, cb', hy⟩ := HB.out.at_ Try.underlying29 one_int (k := k) (by have := Hnb.out; omega)
        go_wp2
        go_quiet (fail)
        go_wp2
        · go_ret
          exact ⟨ret_bool (sameI_no hx.out hy.out ‹_›).symm, _, World.drewN_drewN _ _ _⟩
        · go_roundw
          case rel => exact ⟨k + 1, _, by omega, by go_num, rfl, sameI_step HE.out hx.out hy.out ‹_›⟩
          case measure => simp [intOf]; omega
      · go_wp2
        go_ret
        exact ⟨ret_bool (sameI_end HE.out (by have := Hna.out; omega) (by have := Hnb.out; omega)).symm, _, rfl⟩
  · have hl' : ((na : Int) != nb) = true := by simp; omega
    go_enter Try.func16, Try.ntmps16
    go_wp2
    go_ret
    exact ⟨ret_bool (sameI_len (by have := Hna.out; have := Hnb.out; omega)).symm, 0, rfl⟩

set_option maxHeartbeats 600000 in
theorem DiffR_any (va vb : Value) (la lb : List UInt64) (w : World) (ha : Words w va la) (hb : Words w vb lb) :
    Calls Try.prog 14 #[va, vb] w (RetIE w (diffs la lb) (diffErr la lb)) := by
  have la1 := Rd.len ha Try.underlying22; have lb1 := Rd.len hb Try.underlying22
  by_cases hs : SizeOk la.length ∧ SizeOk lb.length
  · by_cases hl : la.length = lb.length
    · have l2 := hs.1.2.1
      have h0 : diffErr la lb = 0 := by simp [diffErr, hs, hl]
      obtain ⟨na, hna⟩ : ∃ na, na = la.length := ⟨_, rfl⟩
      rw [← hl] at lb1
      rw [← hna] at la1 lb1 l2
      have Hna := Lib.hid hna; have Hl := Lib.hid hl; have HA := Lib.hid ha; have HB := Lib.hid hb; have H0 := Lib.hid h0; have HS := Lib.hid hs
      clear hna hl ha hb h0 hs
      have B0 : Below w.heap.size w w := Below.refl _ _
      go_enter Try.func14, Try.ntmps14
      go_wp2_with fail
      refine (CheckR_any _ la _ HA.out).mono ?_
      rw [chk_ok HS.out.1]
      rintro e w' ⟨rfl, rfl⟩
      go_wp2_with fail
      refine (CheckR_any _ lb _ HB.out).mono ?_
      rw [chk_ok HS.out.2]
      rintro e w' ⟨rfl, rfl⟩
      go_wp2
      go_loopw [6, 7] (fun v i wr => ∃ k : Nat, k ≤ na ∧ i = .int .i64 k ∧ OwnI wr w.heap.size 3 v (diffsTo la lb k) ∧ Below w.heap.size w wr) (fun _ i _ => na - (intOf i).toNat)
      case atStart => exact ⟨0, Nat.zero_le _, rfl, OwnI.nil _ _ _, B0⟩
      case round =>
        obtain ⟨k, hk, rfl, hown, hbel⟩ := hrel
        by_cases hlt : k < na
        · obtain ⟨ad, x, ia, ca', hx⟩ := (HA.out.below hbel).at_ Try.underlying22 one_u64 (k := k) (by have := Hna.out; omega)
          obtain ⟨bd, y, ib, cb', hy⟩ := (HB.out.below hbel).at_ Try.underlying22 one_u64 (k := k) (by have := Hna.out; have := Hl.out; omega)
          have hlen := length_diffsTo la lb k
          have HO := Lib.hid hown; have HBel := Lib.hid hbel; clear hown hbel
          go_wp2
          go_quiet (fail)
          go_wp2_with (at_builtin; refine wpList_append (by rfl) rfl rfl rfl Try.underlying29 info_int rfl (by omega) (by exact HO.out.alloc _) (by exact lit_rd) (by simp [Value.oneCell']) (by omega) (by omega) (by exact (below_drewN HBel.out _).alloc HBel.out.size _) (Nat.le_refl _) ?_; intro v1 w1 hown1 hbel1 hv1; clear hv1)
          · go_roundw
            case rel => exact ⟨k + 1, by omega, by go_num, by rw [diff_step_yes hx.out hy.out ‹_›]; exact OwnI.push hown1 rfl, hbel1⟩
            case measure => simp [intOf]; omega
          · go_roundw
            case rel => exact ⟨k + 1, by omega, by go_num, by rw [diff_step_no hx.out hy.out ‹_›]; exact HO.out, below_drewN HBel.out _⟩
            case measure => simp [intOf]; omega
        · obtain rfl : k = na := by omega
          have HO := Lib.hid hown; have HBel := Lib.hid hbel; clear hown hbel
          go_wp2
          go_ret2
          refine ⟨_, ret_ve H0.out.symm, ?_, HBel.out⟩
          rw [diffs, if_pos H0.out, ← Hna.out]
          exact HO.out
    · have HA := Lib.hid ha; have HB := Lib.hid hb; have HS := Lib.hid hs
      have h0 : diffErr la lb = 2 := by simp [diffErr, hs, hl]
      have H0 := Lib.hid h0; clear h0
      have hne : ((la.length : Int) != lb.length) = true := by simp; omega
      clear hl ha hb hs
      go_enter Try.func14, Try.ntmps14
      go_wp2_with fail
      refine (CheckR_any _ la _ HA.out).mono ?_
      rw [chk_ok HS.out.1]
      rintro e w' ⟨rfl, rfl⟩
      go_wp2_with fail
      refine (CheckR_any _ lb _ HB.out).mono ?_
      rw [chk_ok HS.out.2]
      rintro e w' ⟨rfl, rfl⟩
      go_wp2
      go_ret2
      refine ⟨_, ret_ve H0.out.symm, ?_, Below.refl _ _⟩
      rw [diffs, if_neg (by rw [H0.out]; omega)]
      exact OwnI.nil _ _ _
  · have HA := Lib.hid ha; have HB := Lib.hid hb
    have h0 : diffErr la lb = 8 := by simp only [diffErr, if_neg hs]
    have H0 := Lib.hid h0
    have hc : chk la = 8 ∨ chk la = 0 ∧ chk lb = 8 := by
      by_cases ha : SizeOk la.length
      · by_cases hb : SizeOk lb.length
        · exact absurd ⟨ha, hb⟩ hs
        · rw [chk_ok ha, chk_no hb]; simp
      · rw [chk_no ha]; simp
    clear h0 ha hb hs
    rcases hc with c1 | ⟨c1, c2⟩
    · have C1 := Lib.hid c1; clear c1
      go_enter Try.func14, Try.ntmps14
      go_wp2_with fail
      refine (CheckR_any _ la _ HA.out).mono ?_
      rw [C1.out]
      rintro e w' ⟨rfl, rfl⟩
      go_wp2
      go_ret2
      refine ⟨_, ret_ve H0.out.symm, ?_, Below.refl _ _⟩
      rw [diffs, if_neg (by rw [H0.out]; omega)]
      exact OwnI.nil _ _ _
    · have C1 := Lib.hid c1; have C2 := Lib.hid c2; clear c1 c2
      go_enter Try.func14, Try.ntmps14
      go_wp2_with fail
      refine (CheckR_any _ la _ HA.out).mono ?_
      rw [C1.out]
      rintro e w' ⟨rfl, rfl⟩
      go_wp2_with fail
      refine (CheckR_any _ lb _ HB.out).mono ?_
      rw [C2.out]
      rintro e w' ⟨rfl, rfl⟩
      go_wp2
      go_ret2
      refine ⟨_, ret_ve H0.out.symm, ?_, Below.refl _ _⟩
      rw [diffs, if_neg (by rw [H0.out]; omega)]
      exact OwnI.nil _ _ _
end Go.Proofs.Ytpnikhjlfflpaaa
