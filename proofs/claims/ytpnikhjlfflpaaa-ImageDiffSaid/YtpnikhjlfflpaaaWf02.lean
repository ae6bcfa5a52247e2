/- The walk of the law ImageDiff. -/
import Derived.Test.YtpnikhjlfflpaaaWb02
import Derived.Test.YtpnikhjlfflpaaaL02c
import Derived.Deep.RegionHeld3
set_option linter.unusedVariables false
set_option linter.unusedSimpArgs false
namespace Go.Proofs.Ytpnikhjlfflpaaa
open Go.RowKit L02

theorem getD_of {l : List Int} {k : Nat} {x : Int} (h : l[k]? = some x) : x ∈ l := List.mem_of_getElem? h
theorem sorted_at {l : List Int} (h : l.Pairwise (· < ·)) {k : Nat} {x y : Int} (hk : 0 < k) (hx : l[k - 1]? = some x) (hy : l[k]? = some y) : x < y := by
  obtain ⟨h1, rfl⟩ := List.getElem?_eq_some_iff.1 hx
  obtain ⟨h2, rfl⟩ := List.getElem?_eq_some_iff.1 hy
  exact List.pairwise_iff_getElem.1 h _ _ h1 h2 (by omega)

set_option maxRecDepth 100000 in
set_option maxHeartbeats 1500000 in
theorem ImageDiff_walk (va : Value) (a : List UInt64) (vb : Value) (b : List UInt64) (w : World) (h0 : Words w va a) (h1 : Words w vb b) :
    Calls Try.prog 5 #[va, vb] w (True_ w) := by
  have B : Below w.heap.size w w := Below.refl _ _
  have l0 := Rd.len h0 Try.underlying22; have l1 := Rd.len h1 Try.underlying22
  by_cases hs : SizeOk a.length
  · have hsz := hs.2.1
    by_cases hl : a.length = b.length
    · have hs2 : SizeOk b.length := by rw [← hl]; exact hs
      have e1 : diffErr a b = 0 := by simp [diffErr, hs, hl, hs2]
      have e2 : diffErr b a = 0 := by rw [diffErr_comm]; exact e1
      have e3 := diffs_comm hl
      have e4 := diffs_nil e1 hl
      have e5 : diffs a b = diffsTo a b a.length := by rw [diffs, if_pos e1]
      obtain ⟨D, hD⟩ : ∃ D, D = diffs a b := ⟨_, rfl⟩
      obtain ⟨M, hM⟩ : ∃ M, M = a.length := ⟨_, rfl⟩
      have hDm : ∀ x ∈ D, 0 ≤ x ∧ x < M := fun x hx => by
        rw [hD, e5] at hx; obtain ⟨j, rfl, h, _⟩ := diffsTo_mem hx; omega
      have hDs : D.Pairwise (· < ·) := by rw [hD, e5]; exact diffsTo_sorted _ _ _
      have hDe : patch a b D = b := by rw [hD, e5]; exact patch_end hl
      rw [← hl] at l1
      rw [← hM] at l0 l1 hsz
      have HC := Lib.hid hs; have HL := Lib.hid hl; have HE1 := Lib.hid e1; have HE2 := Lib.hid e2; have HE3 := Lib.hid e3; have HE4 := Lib.hid e4; have HD := Lib.hid hD; have HM := Lib.hid hM; have HDm := Lib.hid hDm; have HDs := Lib.hid hDs; have HDe := Lib.hid hDe
      clear hs hl hs2 e1 e2 e3 e4 e5 hD hM hDm hDs hDe
      have hnil : ((D.length : Int) == 0) = same a b := by
        rw [HD.out]
        unfold same
        by_cases h : a = b
        · rw [(HE4.out).2 h]; simp [h]
        · have : diffs a b ≠ [] := fun h' => h (HE4.out.1 h')
          simp [h, this]
      by_cases hbig : 40 < D.length
      · have t1 : ((D.length : Int) == 0) = false := by rw [beq_eq_false_iff_ne]; omega
        rw [t1] at hnil
        have HN := Lib.hid hnil; clear hnil
        go_enter Try.func5, Try.ntmps5
        go_wp2_with fail
        refine (CheckR_any _ _ _ h0).mono ?_
        rw [chk_ok HC.out]
        rintro e w' ⟨rfl, rfl⟩
        go_wp2_with fail
        refine (Diff_any _ _ _ _ _ h0 h1).mono ?_
        rw [HE1.out, ← HD.out]
        rintro e w1 ⟨x1, rfl, o, b1⟩
        have r1 := o.rd; replace h0 := h0.below b1; replace h1 := h1.below b1; replace B := B.trans (b1.mono B.size); clear o b1
        go_wp2_with fail
        refine (Diff_any _ _ _ _ _ h1 h0).mono ?_
        rw [HE2.out, ← HE3.out, ← HD.out]
        rintro e w2 ⟨x2, rfl, o, b1⟩
        have r2 := o.rd; replace h0 := h0.below b1; replace h1 := h1.below b1; replace r1 := r1.below b1; replace B := B.trans (b1.mono B.size); clear o b1
        have l2 := Rd.len r1 Try.underlying29
        go_wp2_with fail
        refine (SameInts_any _ _ _ _ _ r1 r2).mono ?_
        rw [sameI_refl]
        rintro e w3 ⟨rfl, q⟩
        have b1 := q.below; replace h0 := h0.below b1; replace h1 := h1.below b1; replace B := B.trans (b1.mono B.size); clear q b1
        go_wp2_with fail
        refine (Same_any _ _ _ _ _ h0 h1).mono ?_
        rw [← HN.out]
        rintro e w4 ⟨rfl, q⟩
        have b1 := q.below; replace B := B.trans (b1.mono B.size); clear q b1
        go_wp2_with fail
        refine (alive_any _).mono ?_
        rintro e w' ⟨rfl, b1⟩
        replace B := B.trans (b1.mono B.size)
        go_wp2
        go_ret
        exact ⟨rfl, B⟩
      · obtain ⟨N, hN⟩ : ∃ N, N = D.length := ⟨_, rfl⟩
        rw [← hN] at hnil hbig
        have HNN := Lib.hid hN; clear hN
        obtain ⟨sb, hsb⟩ : ∃ sb, sb = same a b := ⟨_, rfl⟩
        rw [← hsb] at hnil
        have HSB := Lib.hid hsb; clear hsb
        have HN := Lib.hid hnil; clear hnil
        · have t1 := HN.out
          go_enter Try.func5, Try.ntmps5
          go_wp2_with fail
          refine (CheckR_any _ _ _ h0).mono ?_
          rw [chk_ok HC.out]
          rintro e w' ⟨rfl, rfl⟩
          go_wp2_with fail
          refine (Diff_any _ _ _ _ _ h0 h1).mono ?_
          rw [HE1.out, ← HD.out]
          rintro e w1 ⟨x1, rfl, o, b1⟩
          have r1 := o.rd; replace h0 := h0.below b1; replace h1 := h1.below b1; replace B := B.trans (b1.mono B.size); clear o b1
          go_wp2_with fail
          refine (Diff_any _ _ _ _ _ h1 h0).mono ?_
          rw [HE2.out, ← HE3.out, ← HD.out]
          rintro e w2 ⟨x2, rfl, o, b1⟩
          have r2 := o.rd; replace h0 := h0.below b1; replace h1 := h1.below b1; replace r1 := r1.below b1; replace B := B.trans (b1.mono B.size); clear o b1
          have l2 := Rd.len r1 Try.underlying29
          rw [← HNN.out] at l2
          go_wp2_with fail
          refine (SameInts_any _ _ _ _ _ r1 r2).mono ?_
          rw [sameI_refl]
          rintro e w3 ⟨rfl, q⟩
          have b1 := q.below; replace h0 := h0.below b1; replace h1 := h1.below b1; replace r1 := r1.below b1; replace B := B.trans (b1.mono B.size); clear q b1
          go_wp2_with fail
          refine (Same_any _ _ _ _ _ h0 h1).mono ?_
          rw [← HSB.out]
          rintro e w4 ⟨rfl, q⟩
          have b1 := q.below; replace h0 := h0.below b1; replace h1 := h1.below b1; replace r1 := r1.below b1; replace B := B.trans (b1.mono B.size); clear q b1 r2
          go_wp2_with fail
          refine (Twin_any _ _ _ h0 (by have := HM.out; omega)).mono ?_
          rintro e w5 ⟨x5, rfl, o, b1⟩
          have r5 := o.rd; replace h1 := h1.below b1; replace r1 := r1.below b1; replace B := B.trans (b1.mono B.size); clear o b1 h0 t1
          have HB := Lib.hid B; have HR1 := Lib.hid r1; have HH1 := Lib.hid h1; have HR5 := Lib.hid r5
          clear B r1 h1 r5
          go_wp2
          go_loopw [9, 10] (fun v i wr => ∃ k : Int, 0 ≤ k ∧ k ≤ N ∧ i = .int .i64 k ∧ Words wr v (patch a b (D.take k.toNat)) ∧ Words wr vb b ∧ Ints wr x1 D ∧ Below w.heap.size w wr) (fun _ i _ => N - (intOf i).toNat)
          case atStart => exact ⟨0, Int.le_refl _, by omega, rfl, HR5.out, HH1.out, HR1.out, HB.out⟩
          case round =>
            obtain ⟨k, hk0, hk, rfl, hv, hvb, hx1, hbel⟩ := hrel
            by_cases hlt : k < N
            · obtain ⟨ad, x, ia, ca, hx⟩ := hx1.atI Try.underlying29 one_int (k := k) hk0 (by have := HNN.out; omega)
              obtain ⟨d1, d2⟩ := HDm.out x (getD_of hx.out)
              obtain ⟨vy, sl, hvy⟩ := hvb.cut Try.underlying22 one_u64 (lo := x) (hi := x + 1) d1 (by omega) (by have := HL.out; have := HM.out; omega)
              obtain ⟨y, hy⟩ : ∃ y, b[x.toNat]? = some y := ⟨b[x.toNat]'(by have := HL.out; have := HM.out; omega), List.getElem?_eq_getElem _⟩
              have hvy' : Words wr vy [y] := by
                have e : List.take ((x + 1).toNat - x.toNat) (List.drop x.toNat b) = [y] := by
                  rw [show (x + 1).toNat - x.toNat = 1 by omega, List.drop_eq_getElem_cons (by have := HL.out; have := HM.out; omega)]
                  obtain ⟨h1, h2⟩ := List.getElem?_eq_some_iff.1 hy
                  simp [h2]
                rwa [e] at hvy
              have hp := put_one (m := patch a b (D.take k.toNat)) (k := x.toNat) (y := y) (by rw [patch_len]; exact HC.out) (by rw [patch_len]; have := HM.out; omega)
              have hpx : ((x.toNat : Nat) : Int) = x := by omega
              rw [hpx] at hp
              have hnext : patch a b (D.take (k + 1).toNat) = L02.put (patch a b (D.take k.toNat)) x [y] := by
                rw [hp.2, show (k + 1).toNat = k.toNat + 1 by omega, List.take_add_one, hx.out]
                simp only [Option.toList_some]
                rw [patch_snoc, hy]
              obtain ⟨pk, hpk⟩ : ∃ pk, pk = patch a b (D.take k.toNat) := ⟨_, rfl⟩
              rw [← hpk] at hp hnext hv
              clear hpk
              have HP := Lib.hid hp.1; have HNX := Lib.hid hnext; have HV := Lib.hid hv; have HVB := Lib.hid hvb; have HX1 := Lib.hid hx1; have HBE := Lib.hid hbel; have HVY := Lib.hid hvy'
              have lvb : ∀ ty W, (Builtin.len_ #[22] ty #[vb]).run Try.prog W = .ok (.int .i64 (M : Int)) W := l1
              have wx : IntKind.i64.wrap (x + 1) = x + 1 := IntWalk.i64_in _ (by omega)
              have wk : IntKind.i64.wrap (k - 1) = k - 1 := IntWalk.i64_in _ (by omega)
              clear hp hnext hv hvb hx1 hbel hvy' hvy hpx hy
              by_cases h0 : 0 < k
              · obtain ⟨bd, z, ib, cb, hz⟩ := HX1.out.atI Try.underlying29 one_int (k := k - 1) (by omega) (by have := HNN.out; omega)
                have hzx : z < x := sorted_at HDs.out (k := k.toNat) (by omega) (by have := hz.out; rwa [show (k - 1).toNat = k.toNat - 1 by omega] at this) hx.out
                clear hz
                have t2 : decide (x < 0) = false := decide_eq_false (by omega)
                have t3 : decide ((M : Int) ≤ x) = false := decide_eq_false (by omega)
                have t4 : decide (x ≤ z) = false := decide_eq_false (by omega)
                have t5 : decide (0 < k) = true := decide_eq_true h0
                go_wp2
                go_big_quiet (fail)
                go_wp2
                clear ib cb hzx wk t2 t3 t4 t5
                go_region_held3 (fun w' => w'.cell? ad = some (.int .i64 x)) (first | exact ca | exact (b6.cell (World.block_lt_of_cell? _ _ ca)).trans ca)
                  (first | (go_at_call 20; refine (Put_any _ _ _ _ _ _ (by exact HV.out.drewN _) (by exact HVY.out.drewN _)).mono ?_; rw [show rng pk x ([y] : List UInt64).length = 0 from HP.out]; rintro e w6 ⟨x6, rfl, o6, b6⟩))
                have r6 := o6.rd
                rw [← HNX.out] at r6
                have HR6 := Lib.hid r6; have HB6 := Lib.hid b6
                clear r6 b6 o6
                go_wp2
                go_roundw
                case rel => exact ⟨k + 1, by omega, by omega, by go_num, HR6.out, (HVB.out.drewN _).below HB6.out, (HX1.out.drewN _).below HB6.out, (below_drewN HBE.out _).trans (HB6.out.mono (by exact HBE.out.size))⟩
                case measure => simp [intOf]; omega
              · obtain rfl : k = 0 := by omega
                clear h0 hk0 hk wk
                have t2 : decide (x < 0) = false := decide_eq_false (by omega)
                have t3 : decide ((M : Int) ≤ x) = false := decide_eq_false (by omega)
                go_wp2
                
                go_big_quiet (fail)
                
                clear t2 t3
                go_wp2
                go_region_held3 (fun w' => w'.cell? ad = some (.int .i64 x)) (first | exact ca | exact (b6.cell (World.block_lt_of_cell? _ _ ca)).trans ca)
                  (first | (go_at_call 20; refine (Put_any _ _ _ _ _ _ (by exact HV.out.drewN _) (by exact HVY.out.drewN _)).mono ?_; rw [show rng pk x ([y] : List UInt64).length = 0 from HP.out]; rintro e w6 ⟨x6, rfl, o6, b6⟩))
                have r6 := o6.rd
                rw [← HNX.out] at r6
                have HR6 := Lib.hid r6; have HB6 := Lib.hid b6
                clear r6 b6 o6
                go_wp2
                go_roundw
                case rel => exact ⟨0 + 1, by omega, by omega, by go_num, HR6.out, (HVB.out.drewN _).below HB6.out, (HX1.out.drewN _).below HB6.out, (below_drewN HBE.out _).trans (HB6.out.mono (by exact HBE.out.size))⟩
                case measure => simp [intOf]; omega
            · obtain rfl : k = N := by omega
              have HV := Lib.hid hv; have HVB := Lib.hid hvb; have HBE := Lib.hid hbel
              clear hv hvb hx1 hbel
              go_wp2_with fail
              refine (Same_any _ _ _ _ _ HV.out HVB.out).mono ?_
              rw [show patch a b (D.take (N : Int).toNat) = b by rw [Int.toNat_natCast, HNN.out, List.take_length]; exact HDe.out, same_refl]
              rintro e w6 ⟨rfl, q⟩
              have B6 := HBE.out.trans (q.below.mono HBE.out.size)
              clear q
              go_wp2_with fail
              refine (alive_any _).mono ?_
              rintro e w' ⟨rfl, b1⟩
              replace B6 := B6.trans (b1.mono B6.size)
              go_wp2
              go_ret
              exact ⟨rfl, B6⟩
    · have hne : ((a.length : Int) != b.length) = true := by simp; omega
      have HC := Lib.hid hs
      clear hs hl
      go_enter Try.func5, Try.ntmps5
      go_wp2_with fail
      refine (CheckR_any _ _ _ h0).mono ?_
      rw [chk_ok HC.out]
      rintro e w' ⟨rfl, rfl⟩
      go_wp2_with fail
      refine (alive_any _).mono ?_
      rintro e w' ⟨rfl, b⟩
      go_wp2
      go_ret
      exact ⟨rfl, b⟩
  · have HC := Lib.hid hs
    clear hs
    go_enter Try.func5, Try.ntmps5
    go_wp2_with fail
    refine (CheckR_any _ _ _ h0).mono ?_
    rw [chk_no HC.out]
    rintro e w' ⟨rfl, rfl⟩
    go_wp2_with fail
    refine (alive_any _).mono ?_
    rintro e w' ⟨rfl, b⟩
    go_wp2
    go_ret
    exact ⟨rfl, b⟩
end Go.Proofs.Ytpnikhjlfflpaaa
