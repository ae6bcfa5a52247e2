/- Contracts of the two copies of the superblock: View; lists of entries. -/
import Derived.Test.YtcfohfphhpmmdaaC07b
import Derived.Test.YtcfohfphhpmmdaaC02c
set_option linter.unusedVariables false
set_option linter.unusedSimpArgs false
namespace Go.Proofs.Ytcfohfphhpmmdaa
open Go.RowKit L02 L05 L06 L07

theorem Clone_any (v : Value) (l : List UInt64) (w : World) (h : Words w v l) (h0 : 0 < l.length) (hl : l.length ≤ 1048576) : Calls Try.prog 31 #[v] w (RetW w l) := by
  obtain ⟨b, o, c, rfl, _⟩ := Rd.form h h0
  have nn : ∀ W, (binOp .eql 22 (.slice (some ⟨b, o, none⟩) l.length c) (.slice none 0 0)).run Try.prog W = .ok (.bool false) W := fun W => Lib.run_eql_slice_nil W 22 50 _ _ _ _ _ Try.underlying22
  have H := Lib.hid h; clear h
  go_enter Try.func31, Try.ntmps31
  go_wp2_with (at_builtin
               refine wpList_append (by rfl) rfl rfl rfl Try.underlying22 info_u64 rfl (by omega) (lit0_own (Nat.le_refl _)) (by exact H.out.alloc _) (one_u64s _) (by omega) (by omega) ((Below.refl _ w).alloc (Nat.le_refl _) _) (Nat.le_refl _) ?_
               intro v1 w1 hown hbel hv)
  go_ret
  exact ⟨v1, rfl, OwnW.of hown (by simp), hbel⟩
theorem Write6_r (W T : Int) (l : List UInt64) (r : Int) (hl : l = write W T) (hr : r = supErr W T) (w : World) : Calls Try.prog 30 #[.agg #[.int .i64 W, .int .i64 T]] w (RetWB w l r) := by subst hl hr; exact Write6_any W T w

set_option maxRecDepth 100000 in
set_option maxHeartbeats 2000000 in
theorem TView_any (v : Value) (m : List UInt64) (V : List UInt64) (r : Int) (hV : V = view m) (hr : r = rErr m) (w : World) (h : Words w v m) : Calls Try.prog 13 #[v] w (RetWE w V r) := by
  have B : Below w.heap.size w w := Below.refl _ _
  obtain ⟨W, hW⟩ : ∃ x, x = sW m := ⟨_, rfl⟩
  obtain ⟨T, hT⟩ : ∃ x, x = sT m := ⟨_, rfl⟩
  obtain ⟨b0, hb0⟩ : ∃ x, x = is0 m := ⟨_, rfl⟩
  obtain ⟨b1, hb1⟩ : ∃ x, x = is1 m := ⟨_, rfl⟩
  have RT := Lib.hid (fun w h => TRead_any v m W T b0 b1 r hW hT hb0 hb1 hr w h)
  have H := Lib.hid h
  by_cases h0 : rErr m = 0
  rotate_left
  · have hne : (r != 0) = true := by rw [bne_iff_ne, hr]; exact h0
    have hV0 : V = [] := by rw [hV]; exact (heals_no h0).1
    clear hV hr h hW hT hb0 hb1 h0
    subst hV0
    go_enter Try.func13, Try.ntmps13
    go_wp2_with fail
    refine (RT.out _ (H.out.below B)).mono ?_
    rintro e wa1 ⟨rfl, b⟩
    replace B := B.trans (b.mono B.size); clear b
    go_wp2
    go_ret2
    exact ⟨_, rfl, OwnW.nil _ _ _, (B.alloc B.size _).alloc (by have := B.size; simp; omega) _⟩
  · obtain ⟨ho, hok⟩ := one_words h0
    have hn := (rErr_ok h0).1
    rw [← hW, ← hT] at ho hok
    have hwr : write W T = one m := by rw [write, if_pos hok, ho]
    have hse : supErr W T = 0 := if_pos hok
    rw [h0] at hr
    subst hr
    have WT := Lib.hid (fun w => Write6_r W T (one m) 0 hwr.symm hse.symm w)
    have hol := one_len h0
    have hlen : 256 ≤ m.length ∧ m.length ≤ 2048 := by have := hn.1; have := hn.2.1; omega
    have CT := Lib.hid (fun w h => Clone_any v m w h (by omega) (by omega))
    rw [view_ok h0] at hV
    obtain ⟨L, hL⟩ : ∃ L, L = one m := ⟨_, rfl⟩
    rw [← hL] at hol hV WT
    have HL := Lib.hid (And.intro hol hV); have HLEN := Lib.hid hlen
    clear hV h hW hT hb0 hb1 h0 ho hok hn hwr hse hlen hol hL
    go_enter Try.func13, Try.ntmps13
    go_wp2_with fail
    refine (RT.out _ (H.out.below B)).mono ?_
    rintro e wa1 ⟨rfl, b⟩
    replace B := B.trans (b.mono B.size); clear b
    go_upto_region 2 with (fail)
    refine wp_gen (fun Wv => Bx Wv (wa1.heap.size) (26) (#[.int .i64 W, .int .i64 T]) ∧ Below wa1.heap.size wa1 Wv) ⟨(((Bx.at_ (by simp)).alloc _)), (((Below.refl _ wa1).alloc (by simp <;> omega) _).alloc (by simp <;> omega) _)⟩ ?_
    rintro wa2 ⟨g4, b⟩
    replace B := B.trans (b.mono B.size); clear b
    have c_g4 := g4.cell; have f_g4 := g4.free; have a_g4 := fun o => (g4.alloc o).cell; have d_g4 := fun o o2 => ((g4.alloc o).alloc o2).cell; have e_g4 := fun o => (g4.alloc o).free
    go_wp2_with fail
    refine (WT.out _).mono ?_
    rintro e wx ⟨x, rfl, ⟨E, o⟩, b⟩
    have ox := o.rd
    replace B := B.trans (b.mono B.size)
    clear o b g4 c_g4 f_g4 a_g4 d_g4 e_g4
    have B1 : Below wx.heap.size wx wx := Below.refl _ _
    have OX := Lib.hid ox; clear ox
    have HBX := Lib.hid B
    go_wp2_with fail
    refine (CT.out _ (H.out.below B)).mono ?_
    rintro e wa3 ⟨vo, rfl, o1, b⟩
    replace B1 := B1.trans (b.mono B1.size); replace B := B.trans (b.mono B.size); clear b
    obtain ⟨hlen1, hlen2⟩ := HLEN.out
    go_wp2_with fail
    refine (starts_any _).mono ?_
    rintro e wa4 ⟨rfl, b⟩
    replace B1 := B1.trans (b.mono B1.size); replace o1 := o1.below b; replace B := B.trans (b.mono B.size); clear b
    have ix0 := fun W => (index_two 0 8 W).1
    have ix1 := fun W => (index_two 0 8 W).2
    have HH := Lib.hid (And.intro o1 B1)
    have lx := Rd.len OX.out Try.underlying22
    clear o1 B1 B
    go_wp2
    go_loopg [31] 2 (fun g i wr => ∃ k : Nat, k ≤ 2 ∧ g = 2 - k ∧ i = .int .i64 k ∧ Hid (OwnW wr wx.heap.size 50 vo (if k = 0 then m else if k = 1 then L ++ m.drop 8 else L ++ (L ++ m.drop 16)) ∧ Below wx.heap.size wx wr))
    case atStart => exact ⟨0, by omega, by omega, rfl, HH⟩
    case round =>
      clear HH
      obtain ⟨k, hk, rfl, rfl, hh⟩ := hrel
      have hk3 : k = 0 ∨ k = 1 ∨ k = 2 := by omega
      clear hk
      rcases hk3 with rfl | rfl | rfl
      · obtain ⟨o1, B1⟩ := hh.out
        rw [if_pos rfl] at o1
        clear hh
        obtain ⟨hol, hV⟩ := HL.out
        have hll : m.length = m.length := rfl
        obtain ⟨dv, hsl, hcut⟩ := own_cutFrom (P := Try.prog) o1 Try.underlying22 one_u64 (lo := 0) (by omega) (by omega)
        have O1 := Lib.hid o1; have BB := Lib.hid B1; have HVV := Lib.hid hV; have HOL := Lib.hid hol
        clear o1 B1 hV hll hol
        go_wp2_with fail
        obtain ⟨w2, hrun, hown2, hbel2⟩ := run_copy (P := Try.prog) 22 3 Try.underlying22 one_u64 O1.out hcut (OX.out.below BB.out) (one_u64s _) BB.out (Nat.le_refl _)
        rw [hrun, Result.andThen_ok]
        have hol := HOL.out
        have hll : m.length = m.length := rfl
        have e2 : splice ((m).map u64) ((0 : Int).toNat) ((L.map u64).take ((m).length - (0 : Int).toNat)) = (L ++ m.drop 8).map u64 := by
          
          rw [List.take_of_length_le (by simp [hol]; omega)]
          simp [splice, hol, List.take_append, List.drop_append, List.drop_drop]
        have HH := Lib.hid (And.intro (OwnW.of hown2 e2) hbel2)
        clear hown2 hbel2 hrun e2 hll hol
        go_wp2
        go_roundg (2 - 1)
        case measure => omega
        case rel => exact ⟨1, by omega, rfl, by go_num, HH⟩
      · obtain ⟨o1, B1⟩ := hh.out
        rw [if_neg (by omega), if_pos rfl] at o1
        clear hh
        obtain ⟨hol, hV⟩ := HL.out
        have hll : (L ++ m.drop 8).length = m.length := by simp [hol]; omega
        obtain ⟨dv, hsl, hcut⟩ := own_cutFrom (P := Try.prog) o1 Try.underlying22 one_u64 (lo := 8) (by omega) (by rw [hll]; omega)
        have O1 := Lib.hid o1; have BB := Lib.hid B1; have HVV := Lib.hid hV; have HOL := Lib.hid hol
        clear o1 B1 hV hll hol
        go_wp2_with fail
        obtain ⟨w2, hrun, hown2, hbel2⟩ := run_copy (P := Try.prog) 22 3 Try.underlying22 one_u64 O1.out hcut (OX.out.below BB.out) (one_u64s _) BB.out (Nat.le_refl _)
        rw [hrun, Result.andThen_ok]
        have hol := HOL.out
        have hll : (L ++ m.drop 8).length = m.length := by simp [hol]; omega
        have e2 : splice ((L ++ m.drop 8).map u64) ((8 : Int).toNat) ((L.map u64).take ((L ++ m.drop 8).length - (8 : Int).toNat)) = (L ++ (L ++ m.drop 16)).map u64 := by
          rw [hll]
          rw [List.take_of_length_le (by simp [hol]; omega)]
          simp [splice, hol, List.take_append, List.drop_append, List.drop_drop, List.take_of_length_le (show L.length ≤ 8 by omega), List.drop_of_length_le (show L.length ≤ 16 by omega)]
        have HH := Lib.hid (And.intro (OwnW.of hown2 e2) hbel2)
        clear hown2 hbel2 hrun e2 hll hol
        go_wp2
        go_roundg (2 - 2)
        case measure => omega
        case rel => exact ⟨2, by omega, rfl, by go_num, HH⟩
      · obtain ⟨o1, B1⟩ := hh.out
        rw [if_neg (by omega), if_neg (by omega)] at o1
        clear hh ix0 ix1
        go_wp2
        go_ret2
        exact ⟨_, rfl, by rw [HL.out.2]; exact own_mono o1 HBX.out.size, HBX.out.trans (B1.mono HBX.out.size)⟩
end Go.Proofs.Ytcfohfphhpmmdaa
