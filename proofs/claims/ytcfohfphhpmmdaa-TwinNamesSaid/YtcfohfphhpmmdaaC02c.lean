/- Contracts of the functions of images and of their reference, continued: Put, Line, Diff. -/
import Derived.Test.YtcfohfphhpmmdaaC02b
set_option linter.unusedVariables false
set_option linter.unusedSimpArgs false
namespace Go.Proofs.Ytcfohfphhpmmdaa
open Go.RowKit L02

theorem rng_zero {l : List UInt64} {at_ n : Int} (h : rng l at_ n = 0) : SizeOk l.length ∧ InR l at_ n := by
  by_cases hs : SizeOk l.length
  · by_cases hr : InR l at_ n
    · exact ⟨hs, hr⟩
    · rw [rng_no hs hr] at h; omega
  · rw [rng_bad hs] at h; omega

theorem put_cells {l m : List UInt64} {k : Nat} (h : k + m.length ≤ l.length) (hr : rng l k m.length = 0) : splice (l.map u64) k ((m.map u64).take (l.length - k)) = (L02.put l k m).map u64 := by
  rw [List.take_of_length_le (by simp; omega)]
  simp [L02.put, hr, splice]

theorem Put_any (v mv : Value) (l m : List UInt64) (at_ : Int) (w : World) (h : Words w v l) (hm : Words w mv m) :
    Calls Try.prog 23 #[v, .int .i64 at_, mv] w (RetWE w (L02.put l at_ m) (rng l at_ m.length)) := by
  have l1 := Rd.len h Try.underlying22; have l2 := Rd.len hm Try.underlying22
  by_cases h0 : rng l at_ m.length = 0
  · obtain ⟨hs, r1, r2, r3, r4⟩ := rng_zero h0
    have hsz := hs.2.1
    obtain ⟨k, rfl⟩ := Int.eq_ofNat_of_zero_le r1
    have H := Lib.hid h; have HM := Lib.hid hm; have H0 := Lib.hid h0; clear h hm h0 hs
    go_enter Try.func23, Try.ntmps23
    go_wp2_with fail
    refine (check_any _ l _ _ _ H.out).mono ?_
    rw [H0.out]
    rintro e w' ⟨rfl, rfl⟩
    go_wp2_with fail
    refine (clone_any _ _ _ H.out (by omega)).mono ?_
    rintro e w1 ⟨v1, rfl, hown, hbel⟩
    obtain ⟨dv, hsl, hcut⟩ := own_cutFrom hown Try.underlying22 one_u64 (lo := (k : Int)) r1 (by omega)
    go_wp2_with fail
    obtain ⟨w2, hrun, hown2, hbel2⟩ := run_copy 22 3 Try.underlying22 one_u64 hown hcut (HM.out.below hbel) (one_u64s _) hbel (Nat.le_refl _)
    rw [hrun, Result.andThen_ok]
    clear hrun hsl hcut
    go_wp2
    go_ret2
    refine ⟨v1, ret_ve H0.out.symm, OwnW.of hown2 ?_, hbel2⟩
    simp only [Int.toNat_natCast]
    exact put_cells (by omega) H0.out
  · have H := Lib.hid h; have H0 := Lib.hid h0; clear h
    have hne : (rng l at_ m.length != 0) = true := by simpa using h0
    clear h0
    go_enter Try.func23, Try.ntmps23
    go_wp2_with fail
    refine (check_any _ l _ _ _ H.out).mono ?_
    rintro e w' ⟨rfl, rfl⟩
    go_wp2
    go_ret2
    refine ⟨_, rfl, ?_, Below.refl _ _⟩
    rw [L02.put, if_neg H0.out]
    exact OwnW.nil _ _ _

theorem andNot7_fin : ∀ n : Fin 2048, bits .andNot .i64 (n.val : Int) 7 = (n.val : Int) - (n.val : Int) % 8 := by decide +kernel
theorem andNot7 {n : Int} (h0 : 0 ≤ n) (h1 : n ≤ 2047) : bits .andNot .i64 n 7 = n - n % 8 := by
  obtain ⟨m, rfl⟩ := Int.eq_ofNat_of_zero_le h0
  exact andNot7_fin ⟨m, by omega⟩

theorem diff_step_no {a b : List UInt64} {k : Nat} {x y : UInt64} (hx : a[k]? = some x) (hy : b[k]? = some y) (e : ((x.toNat : Int) != y.toNat) = false) : diffsTo a b (k + 1) = diffsTo a b k := by
  have : x = y := by simp at e; exact UInt64.toNat_inj.1 (by omega)
  rw [diffsTo_succ, hx, hy, this]; simp
theorem diff_step_yes {a b : List UInt64} {k : Nat} {x y : UInt64} (hx : a[k]? = some x) (hy : b[k]? = some y) (e : ((x.toNat : Int) != y.toNat) = true) : diffsTo a b (k + 1) = diffsTo a b k ++ [(k : Int)] := by
  have : x ≠ y := by rintro rfl; simp at e
  rw [diffsTo_succ, hx, hy]; simp [this]
theorem OwnI.push {w : World} {B E n : Nat} {v : Value} {l : List Int} {x : Int} {xs : List Value} (h : w.ownsRow B E 1 v n (xs ++ [Value.int .i64 x])) (hx : xs = l.map i64) : OwnI w B E v (l ++ [x]) :=
  OwnI.of h (by subst hx; simp [i64])

set_option maxHeartbeats 600000 in
theorem Diff_any (va vb : Value) (la lb : List UInt64) (w : World) (ha : Words w va la) (hb : Words w vb lb) :
    Calls Try.prog 21 #[va, vb] w (RetIE w (diffs la lb) (diffErr la lb)) := by
  have la1 := Rd.len ha Try.underlying22; have lb1 := Rd.len hb Try.underlying22
  by_cases hs : SizeOk la.length ∧ SizeOk lb.length
  · by_cases hl : la.length = lb.length
    · have l2 := hs.1.2.1
      have h0 : diffErr la lb = 0 := by simp [diffErr, hs, hl]
      obtain ⟨na, hna⟩ : ∃ na, na = la.length := ⟨_, rfl⟩
      rw [← hl] at lb1
      rw [← hna] at la1 lb1 l2
      have Hna := Lib.hid hna; have Hl := Lib.hid hl; have HA := Lib.hid ha; have HB := Lib.hid hb; have H0 := Lib.hid h0; have HS := Lib.hid hs
      clear hna hl ha hb h0 hs
      have B0 : Below w.heap.size w w := Below.refl _ _
      go_enter Try.func21, Try.ntmps21
      go_wp2_with fail
      refine (Check_any _ la _ HA.out).mono ?_
      rw [chk_ok HS.out.1]
      rintro e w' ⟨rfl, rfl⟩
      go_wp2_with fail
      refine (Check_any _ lb _ HB.out).mono ?_
      rw [chk_ok HS.out.2]
      rintro e w' ⟨rfl, rfl⟩
      go_wp2
      go_loopw [7, 24] (fun v i wr => ∃ k : Nat, k ≤ na ∧ i = .int .i64 k ∧ OwnI wr w.heap.size 3 v (diffsTo la lb k) ∧ Below w.heap.size w wr) (fun _ i _ => na - (intOf i).toNat)
      case atStart => exact ⟨0, Nat.zero_le _, rfl, OwnI.nil _ _ _, B0⟩
      case round =>
        obtain ⟨k, hk, rfl, hown, hbel⟩ := hrel
        by_cases hlt : k < na
        · obtain ⟨ad, x, ia, ca', hx⟩ := (HA.out.below hbel).at_ Try.underlying22 one_u64 (k := k) (by have := Hna.out; omega)
          obtain ⟨bd, y, ib, cb', hy⟩ := (HB.out.below hbel).at_ Try.underlying22 one_u64 (k := k) (by have := Hna.out; have := Hl.out; omega)
          have hlen := length_diffsTo la lb k
          have HO := Lib.hid hown; have HBel := Lib.hid hbel; clear hown hbel
          go_wp2
          go_quiet (fail)
          go_wp2_with (at_builtin; refine wpList_append (by rfl) rfl rfl rfl Try.underlying47 info_int rfl (by omega) (by exact HO.out.alloc _) (by exact lit_rd) (by simp [Value.oneCell']) (by omega) (by omega) (by exact (below_drewN HBel.out _).alloc HBel.out.size _) (Nat.le_refl _) ?_; intro v1 w1 hown1 hbel1 hv1; clear hv1)
          · go_roundw
            case rel => exact ⟨k + 1, by omega, by go_num, by rw [diff_step_yes hx.out hy.out ‹_›]; exact OwnI.push hown1 rfl, hbel1⟩
            case measure => simp [intOf]; omega
          · go_roundw
            case rel => exact ⟨k + 1, by omega, by go_num, by rw [diff_step_no hx.out hy.out ‹_›]; exact HO.out, below_drewN HBel.out _⟩
            case measure => simp [intOf]; omega
        · obtain rfl : k = na := by omega
          have HO := Lib.hid hown; have HBel := Lib.hid hbel; clear hown hbel
          go_wp2
          go_ret2
          refine ⟨_, ret_ve H0.out.symm, ?_, HBel.out⟩
          rw [diffs, if_pos H0.out, ← Hna.out]
          exact HO.out
    · have HA := Lib.hid ha; have HB := Lib.hid hb; have HS := Lib.hid hs
      have h0 : diffErr la lb = 2 := by simp [diffErr, hs, hl]
      have H0 := Lib.hid h0; clear h0
      have hne : ((la.length : Int) != lb.length) = true := by simp; omega
      clear hl ha hb hs
      go_enter Try.func21, Try.ntmps21
      go_wp2_with fail
      refine (Check_any _ la _ HA.out).mono ?_
      rw [chk_ok HS.out.1]
      rintro e w' ⟨rfl, rfl⟩
      go_wp2_with fail
      refine (Check_any _ lb _ HB.out).mono ?_
      rw [chk_ok HS.out.2]
      rintro e w' ⟨rfl, rfl⟩
      go_wp2
      go_ret2
      refine ⟨_, ret_ve H0.out.symm, ?_, Below.refl _ _⟩
      rw [diffs, if_neg (by rw [H0.out]; omega)]
      exact OwnI.nil _ _ _
  · have HA := Lib.hid ha; have HB := Lib.hid hb
    have h0 : diffErr la lb = 8 := by simp only [diffErr, if_neg hs]
    have H0 := Lib.hid h0
    have hc : chk la = 8 ∧ chk lb = 8 ∨ chk la = 8 ∧ chk lb = 0 ∨ chk la = 0 ∧ chk lb = 8 := by
      by_cases ha : SizeOk la.length
      · by_cases hb : SizeOk lb.length
        · exact absurd ⟨ha, hb⟩ hs
        · rw [chk_ok ha, chk_no hb]; simp
      · by_cases hb : SizeOk lb.length
        · rw [chk_no ha, chk_ok hb]; simp
        · rw [chk_no ha, chk_no hb]; simp
    clear h0 ha hb hs
    rcases hc with ⟨c1, c2⟩ | ⟨c1, c2⟩ | ⟨c1, c2⟩
    all_goals
      have C1 := Lib.hid c1; have C2 := Lib.hid c2; clear c1 c2
      go_enter Try.func21, Try.ntmps21
      go_wp2_with fail
      refine (Check_any _ la _ HA.out).mono ?_
      rw [C1.out]
      rintro e w' ⟨rfl, rfl⟩
      go_wp2_with fail
      refine (Check_any _ lb _ HB.out).mono ?_
      rw [C2.out]
      rintro e w' ⟨rfl, rfl⟩
      go_wp2
      go_ret2
      refine ⟨_, ret_ve H0.out.symm, ?_, Below.refl _ _⟩
      rw [diffs, if_neg (by rw [H0.out]; omega)]
      exact OwnI.nil _ _ _
end Go.Proofs.Ytcfohfphhpmmdaa
