/- Contracts of the two copies of the superblock: the reference's Heal, Same; the laws' own image. -/
import Derived.Test.YtcfohfphhpmmdaaC07d
import Derived.Test.YtcfohfphhpmmdaaChain
set_option linter.unusedVariables false
set_option linter.unusedSimpArgs false
namespace Go.Proofs.Ytcfohfphhpmmdaa
open Go.RowKit L02 L05 L06 L07

set_option maxRecDepth 100000 in
set_option maxHeartbeats 2000000 in
theorem THealR_any (v : Value) (m : List UInt64) (E : List (Int × UInt64)) (r : Int) (hE' : E = heals m) (hr : r = rErr m) (w : World) (h : Words w v m) : Calls Try.prog 16 #[v] w (RetEE w E r) := by
  have B : Below w.heap.size w w := Below.refl _ _
  obtain ⟨V, hV⟩ : ∃ x, x = view m := ⟨_, rfl⟩
  have VT := Lib.hid (fun w h => TViewR_any v m V r hV hr w h)
  have l1 := Rd.len h Try.underlying22
  have H := Lib.hid h
  by_cases h0 : rErr m = 0
  rotate_left
  · have hne : (r != 0) = true := by rw [bne_iff_ne, hr]; exact h0
    have hE0 : E = [] := by rw [hE']; exact (heals_no h0).2.1
    clear hV hr h hE' h0 l1
    subst hE0
    go_enter Try.func16, Try.ntmps16
    go_wp2_with fail
    refine (VT.out _ (H.out.below B)).mono ?_
    rintro e wa1 ⟨x, rfl, o1, b⟩
    replace B := B.trans (b.mono B.size); clear b
    go_wp2
    go_ret2
    exact ⟨_, rfl, OwnE.nil _ _, B⟩
  · obtain ⟨n, hn⟩ : ∃ n, n = m.length := ⟨_, rfl⟩
    rw [← hn] at l1
    have hVl : V.length = n := by rw [hV, view_len h0, hn]
    have hEE : E = hE V (diffsTo m V n) := by rw [hE', heals, if_pos h0, hV, hn, ← (diff_ok h0).2]; rfl
    have hsm : n ≤ 2048 := by rw [hn]; have := (rErr_ok h0).1.2.1; omega
    rw [h0] at hr
    subst hr
    have HEE := Lib.hid hEE; have HN := Lib.hid hn; have HVL := Lib.hid hVl
    clear hV h hE' h0 hEE hn hVl
    go_enter Try.func16, Try.ntmps16
    go_wp2_with fail
    refine (VT.out _ (H.out.below B)).mono ?_
    rintro e wa1 ⟨x, rfl, o1, b⟩
    replace B := B.trans (b.mono B.size); clear b
    have B1 : Below wa1.heap.size wa1 wa1 := Below.refl _ _
    have O1 := Lib.hid o1.rd; have HB := Lib.hid B
    clear o1 B
    go_wp2
    go_loopg [6, 7] n (fun g ov i wr => ∃ k : Nat, k ≤ n ∧ g = n - k ∧ i = .int .i64 k ∧ Hid (OwnE wr wa1.heap.size ov (hE V (diffsTo m V k)) ∧ Below wa1.heap.size wa1 wr))
    case atStart => exact ⟨0, by omega, by omega, rfl, Lib.hid ⟨OwnE.nil _ _, B1⟩⟩
    case round =>
      clear B1
      obtain ⟨k, hk, rfl, rfl, hh⟩ := hrel
      by_cases hlt : k < n
      · obtain ⟨ad, x1, ix, cx, hx⟩ := (H.out.below (HB.out.trans (hh.out.2.mono HB.out.size))).at_ (P := Try.prog) Try.underlying22 one_u64 (k := k) (by have := HN.out; omega)
        obtain ⟨bd, y1, iz, cz, hy⟩ := (O1.out.below hh.out.2).at_ (P := Try.prog) Try.underlying22 one_u64 (k := k) (by have := HVL.out; omega)
        have hll : (hE V (diffsTo m V k)).length ≤ 2048 := by rw [hE_len]; have := length_diffsTo m V k; omega
        by_cases hxy : x1 = y1
        · have hq : ((y1.toNat : Int) != (x1.toNat : Int)) = false := by rw [bne_eq_false_iff_eq, hxy]
          have HS := Lib.hid (diff_step_no hx.out hy.out (by rw [bne_eq_false_iff_eq, hxy]))
          clear hxy hx hy
          go_wp2
          go_quiet (fail)
          go_wp2
          go_roundg (n - (k + 1))
          case measure => omega
          case rel => exact ⟨k + 1, by omega, rfl, by go_num, Lib.hid ⟨by rw [HS.out]; exact own_below hh.out.1 (below_drewN (Below.refl _ _) _), below_drewN hh.out.2 _⟩⟩
        · have hq : ((y1.toNat : Int) != (x1.toNat : Int)) = true := by rw [bne_iff_ne]; intro h; exact hxy (UInt64.toNat_inj.1 (by omega))
          have HS := Lib.hid (diff_step_yes hx.out hy.out (by rw [bne_iff_ne]; intro h; exact hxy (UInt64.toNat_inj.1 (by omega))))
          have HT := Lib.hid (hE_snoc (l := diffsTo m V k) hy.out)
          clear hxy hx hy
          go_wp2
          go_quiet (fail)
          go_wp2_with (at_builtin; refine wpList_append (by rfl) rfl rfl rfl Try.underlying37 info_ent rfl (by omega) (by exact own_below hh.out.1 ((below_drewN (Below.refl _ _) _).alloc (Nat.le_refl _) _)) (by exact lit_ent (k : Int) y1 (by simp)) (by simp [Value.oneCell']) (by omega) (by omega) (by exact (below_drewN hh.out.2 _).alloc hh.out.2.size _) (Nat.le_refl _) ?_; intro v1 w3 o3 B3 g3; clear g3)
          have HH := Lib.hid (And.intro (OwnE.of o3 (by rw [eC_snoc, HT.out, ← HS.out])) B3)
          clear o3 B3
          go_roundg (n - (k + 1))
          case measure => omega
          case rel => exact ⟨k + 1, by omega, rfl, by go_num, HH⟩
      · obtain rfl : k = n := by omega
        have ⟨o3, B3⟩ := hh.out
        rw [← HEE.out] at o3
        have O3 := Lib.hid o3; have BB3 := Lib.hid B3; clear o3 B3 hh
        go_wp2
        go_ret2
        exact ⟨_, rfl, own_mono O3.out HB.out.size, HB.out.trans (BB3.out.mono HB.out.size)⟩

def sameE (a b : List (Int × UInt64)) : Bool := decide (a = b)
set_option maxRecDepth 100000 in
set_option maxHeartbeats 1000000 in
theorem SameE_any (va vb : Value) (La Lb : List (Int × UInt64)) (r : Bool) (hr : r = sameE La Lb) (w : World) (ha : Ents w va La) (hb : Ents w vb Lb) :
    Calls Try.prog 18 #[va, vb] w fun e w' => e = .returned (.bool r) ∧ Below w.heap.size w w' := by
  have B : Below w.heap.size w w := Below.refl _ _
  have la1 := Rd.len ha Try.underlying37; have lb1 := Rd.len hb Try.underlying37
  have la2 := Rd.len_le ha; have lb2 := Rd.len_le hb
  have HA := Lib.hid ha; have HB := Lib.hid hb; have HR := Lib.hid hr; clear ha hb hr
  obtain ⟨na, hna⟩ : ∃ na, na = La.length := ⟨_, rfl⟩
  obtain ⟨nb, hnb⟩ : ∃ nb, nb = Lb.length := ⟨_, rfl⟩
  rw [← hna] at la1 la2; rw [← hnb] at lb1 lb2
  have Hna := Lib.hid hna; have Hnb := Lib.hid hnb; clear hna hnb
  by_cases hl : na = nb
  · subst hl
    go_enter Try.func18, Try.ntmps18
    go_wp2
    have HB0 := Lib.hid B; clear B
    go_loopg [5] na (fun g i wr => ∃ k : Nat, k ≤ na ∧ g = na - k ∧ i = .int .i64 k ∧ Hid (Below w.heap.size w wr) ∧ Hid (La.take k = Lb.take k))
    case atStart => exact ⟨0, Nat.zero_le _, by omega, rfl, HB0, Lib.hid (by simp)⟩
    case round =>
      obtain ⟨k, hk, rfl, rfl, hB, heq⟩ := hrel
      by_cases hlt : k < na
      · obtain ⟨b1, o1, a, x, ia, m0, m1, hx⟩ := (HA.out.below hB.out).at_ (k := k) (by have := Hna.out; omega)
        obtain ⟨b2, o2, c, y, ib, m2, m3, hy⟩ := (HB.out.below hB.out).at_ (k := k) (by have := Hnb.out; omega)
        by_cases hxy : a = c ∧ x = y
        · obtain ⟨rfl, rfl⟩ := hxy
          have q := fun W => ent_neq a a x x false (by simp) W
          have HE := Lib.hid (show La.take (k + 1) = Lb.take (k + 1) by rw [List.take_add_one, List.take_add_one, heq.out, hx.out, hy.out])
          clear hx hy heq
          have B := hB.out
          go_wp2
          refine wp_region_calm (by kernel_rfl) (by kernel_rfl) ?_
          have c_m0 := fun x : Fut _ => cell_later x.h m0
          have c_m1 := fun x : Fut _ => cell_later x.h m1
          have c_m2 := fun x : Fut _ => cell_later x.h m2
          have c_m3 := fun x : Fut _ => cell_later x.h m3
          repeat (go_big_quiet_step (fail))
          refine wpQuiet_nil ?_
          intro _ hw'
          obtain ⟨xq, hw''⟩ := hw'
          subst hw''
          clear c_m0; replace m0 := cell_later xq.h m0
          clear c_m1; replace m1 := cell_later xq.h m1
          clear c_m2; replace m2 := cell_later xq.h m2
          clear c_m3; replace m3 := cell_later xq.h m3
          replace B := B.trans (xq.h.mono B.size)
          have HBB := Lib.hid B; clear B
          go_wp2
          go_roundg (na - (k + 1))
          case measure => omega
          case rel => exact ⟨k + 1, by omega, rfl, by go_num, HBB, HE⟩
        · have q := fun W => ent_neq a c x y true (by
            symm; rw [Bool.not_eq_true', Bool.and_eq_false_iff]
            by_cases h : a = c
            · right; rw [beq_eq_false_iff_ne]; exact fun h' => hxy ⟨h, h'⟩
            · left; rw [beq_eq_false_iff_ne]; exact h) W
          have hr0 : r = false := by
            rw [HR.out, sameE, decide_eq_false_iff_not]
            rintro rfl
            have := hx.out.symm.trans hy.out
            injection this with this
            injection this with h1 h2
            exact hxy ⟨h1, h2⟩
          clear hx hy heq hxy HR
          subst hr0
          have B := hB.out
          go_wp2
          refine wp_region_calm (by kernel_rfl) (by kernel_rfl) ?_
          have c_m0 := fun x : Fut _ => cell_later x.h m0
          have c_m1 := fun x : Fut _ => cell_later x.h m1
          have c_m2 := fun x : Fut _ => cell_later x.h m2
          have c_m3 := fun x : Fut _ => cell_later x.h m3
          repeat (go_big_quiet_step (fail))
          refine wpQuiet_nil ?_
          intro _ hw'
          obtain ⟨xq, hw''⟩ := hw'
          subst hw''
          clear c_m0; replace m0 := cell_later xq.h m0
          clear c_m1; replace m1 := cell_later xq.h m1
          clear c_m2; replace m2 := cell_later xq.h m2
          clear c_m3; replace m3 := cell_later xq.h m3
          replace B := B.trans (xq.h.mono B.size)
          have HBB := Lib.hid B; clear B
          go_wp2
          go_ret
          exact ⟨rfl, HBB.out⟩
      · obtain rfl : k = na := by omega
        have hr1 : r = true := by
          have h1 := heq.out
          rw [List.take_of_length_le (by have := Hna.out; omega), List.take_of_length_le (by have := Hnb.out; omega)] at h1
          rw [HR.out, sameE, h1]; simp
        clear HR
        subst hr1
        go_wp2
        go_ret
        exact ⟨rfl, hB.out⟩
  · have hl' : ((na : Int) != nb) = true := by simp; omega
    have hr0 : r = false := by
      rw [HR.out, sameE, decide_eq_false_iff_not]
      intro h; have := Hna.out; have := Hnb.out; rw [h] at *; omega
    clear HR
    subst hr0
    go_enter Try.func18, Try.ntmps18
    go_wp2
    go_ret
    exact ⟨rfl, B⟩
end Go.Proofs.Ytcfohfphhpmmdaa
