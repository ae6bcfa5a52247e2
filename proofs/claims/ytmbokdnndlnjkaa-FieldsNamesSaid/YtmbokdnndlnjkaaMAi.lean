/- Contracts of the functions that the laws 'A' reach, part 9. No condition. -/
import Derived.Test.YtmbokdnndlnjkaaMAh
set_option linter.unusedVariables false
set_option linter.unusedSimpArgs false
namespace Go.Proofs.Ytmbokdnndlnjkaa
open Go.RowKit L02 L05 L06
set_option maxHeartbeats 1000000 in
theorem Read6_bad (v : Value) (l : List UInt64) (w : World) (h : Words w v l) (hl : l.length ≠ 8) :
    Calls Try.prog 62 #[v] w fun e w' => e = .returned (.tuple #[supV 0 0, .int .i64 2]) ∧ Below w.heap.size w w' := by
  have l1 := Rd.len h Try.underlying22
  have hne : ((l.length : Int) != 8) = true := by simp; omega
  clear h hl
  go_enter Try.func62, Try.ntmps62
  go_wp2
  go_step3
  go_wp2
  try rw [Exit.noGoto_ret]
  refine bodyPost_ret (v := .tuple #[supV 0 0, .int .i64 2]) ?_ rfl ⟨rfl, ?_⟩
  · simp [results, Try.results62, go_sem, supV]
  · exact (Below.refl _ _).alloc (Nat.le_refl _) _
set_option maxHeartbeats 1000000 in
theorem Read6_eight (v : Value) (l : List UInt64) (w : World) (h : Words w v l) (hl : l.length = 8) :
    Calls Try.prog 62 #[v] w fun e w' => e = .returned (.tuple #[supV (rdW l) (rdT l), .int .i64 (if ReadOk l then 0 else 50)]) ∧ Below w.heap.size w w' := by
  match l, hl with
  | [x0, x1, x2, x3, x4, x5, x6, x7], _ =>
  obtain ⟨b, o, c, rfl, hb, hc, hcell⟩ := Rd.form h (by simp)
  have c0 := hcell 0 (.int .u64 x0.toNat) rfl
  have c1 := hcell 1 (.int .u64 x1.toNat) rfl
  have c2 := hcell 2 (.int .u64 x2.toNat) rfl
  have c3 := hcell 3 (.int .u64 x3.toNat) rfl
  have c4 := hcell 4 (.int .u64 x4.toNat) rfl
  have c5 := hcell 5 (.int .u64 x5.toNat) rfl
  have c6 := hcell 6 (.int .u64 x6.toNat) rfl
  have c7 := hcell 7 (.int .u64 x7.toNat) rfl
  simp only [Nat.add_zero] at c0
  clear h hcell
  go_enter Try.func62, Try.ntmps62
  go_wp2
  have ha : ∀ W, (Instr.arrayAt 159 (.slice (some ⟨b, o, none⟩) 8 c)).run Try.prog W = .ok (.pointer (some ⟨b, o, none⟩)) W := fun W => by simp [Instr.arrayAt, run_underlying Try.underlying159]
  go_step3
  go_wp2
  go_step3
  go_wp2
  obtain ⟨A, hA⟩ : ∃ A, A = (x2.toNat : Int) := ⟨_, rfl⟩
  obtain ⟨T, hT⟩ : ∃ T, T = (x3.toNat : Int) := ⟨_, rfl⟩
  have hA0 : 0 ≤ A := by omega
  have hT0 : 0 ≤ T := by omega
  rw [← hA, ← hT]
  have HA := Lib.hid hA; have HT := Lib.hid hT
  clear hA hT c0 c1 c2 c3 c4 c5 c6 c7 ha
  go_loop [6] (fun n => ∃ k : Int, 256 ≤ k ∧ k ≤ 2056 ∧ k % 8 = 0 ∧ n = .int .i64 k ∧ ¬ (256 ≤ A ∧ A < k ∧ A % 8 = 0 ∧ T ≤ 8)) (fun n => (2056 - intOf n).toNat)
  case atStart => exact ⟨256, by omega, by omega, by omega, rfl, by omega⟩
  case round =>
    obtain ⟨n, n1, n2, n3, rfl, n4⟩ := hrel
    have N3 := Lib.hid n3; have N4 := Lib.hid n4; clear n3 n4
    by_cases hlt : n ≤ 2048
    · by_cases hnA : n = A
      · subst hnA
        go_wp2
        go_loop [19] (fun t => ∃ j : Int, 0 ≤ j ∧ j ≤ 9 ∧ t = .int .i64 j ∧ ¬ T < j) (fun t => (9 - intOf t).toNat)
        case atStart => exact ⟨0, by omega, by omega, rfl, by omega⟩
        case round =>
          obtain ⟨t, t1, t2, rfl, t3⟩ := hrel
          by_cases htl : t < 9
          · by_cases htT : t = T
            · subst htT
              go_wp2
              refine wp_gen (fun W => W.heap[w.heap.size]? = some (.cells #[.int .i64 0, .int .i64 0] 66 (0, 0)) ∧ W.heap[w.heap.size + 1]? = some (.cells #[.int .i64 n, .int .i64 t] 66 (0, 0)) ∧
                W.heap[w.heap.size + 1 + 1]? = some (.cells #[.int .u64 x0.toNat, .int .u64 x1.toNat, .int .u64 n, .int .u64 t, .int .u64 x4.toNat, .int .u64 x5.toNat, .int .u64 x6.toNat, .int .u64 x7.toNat] 159 (0, 0)) ∧ Below w.heap.size w W ∧ w.heap.size + 3 ≤ W.heap.size)
                ⟨by simp only [alloc_heap, Array.getElem?_push, Array.size_push]; simp <;> omega, by simp only [alloc_heap, Array.getElem?_push, Array.size_push]; simp <;> omega, by simp only [alloc_heap, Array.getElem?_push, Array.size_push]; simp <;> omega, (((Below.refl _ w).alloc (Nat.le_refl _) _).alloc (by simp) _).alloc (by simp; omega) _, by simp⟩ ?_
              rintro w1 ⟨g0, g1, g2, B, hz⟩
              have c0 := blk_cell g0; have c1 := blk_cell g1; have c2 := blk_cell g2; have f0 := blk_free g0
              have HB := Lib.hid B; clear B
              have s0 : w1.cell? ⟨w.heap.size + 1, 0, none⟩ = some (.int .i64 n) := c1 0
              have s1 : w1.cell? ⟨w.heap.size + 1, 1, none⟩ = some (.int .i64 t) := c1 1
              have a0 : w1.cell? ⟨w.heap.size + 1 + 1, 0, none⟩ = some (.int .u64 x0.toNat) := c2 0
              have a1 : w1.cell? ⟨w.heap.size + 1 + 1, 1, none⟩ = some (.int .u64 x1.toNat) := c2 1
              have a2 : w1.cell? ⟨w.heap.size + 1 + 1, 2, none⟩ = some (.int .u64 n) := c2 2
              have a3 : w1.cell? ⟨w.heap.size + 1 + 1, 3, none⟩ = some (.int .u64 t) := c2 3
              have a4 : w1.cell? ⟨w.heap.size + 1 + 1, 4, none⟩ = some (.int .u64 x4.toNat) := c2 4
              have a5 : w1.cell? ⟨w.heap.size + 1 + 1, 5, none⟩ = some (.int .u64 x5.toNat) := c2 5
              have a6 : w1.cell? ⟨w.heap.size + 1 + 1, 6, none⟩ = some (.int .u64 x6.toNat) := c2 6
              have a7 : w1.cell? ⟨w.heap.size + 1 + 1, 7, none⟩ = some (.int .u64 x7.toNat) := c2 7
              have G0 := Lib.hid g0; have G1 := Lib.hid g1; have G2 := Lib.hid g2; have HT0 := Lib.hid t3
              have hok : SupOk n t := ⟨⟨n1, hlt, N3.out⟩, t1, by omega⟩
              have HOK := Lib.hid hok
              have hcmp := fun W => run_neq_words (P := Try.prog) (n := 8) Try.underlying159 (by kernel_rfl) Try.underlying24 (by kernel_rfl) (fun X j u W h => run_part_plain W (by kernel_rfl) h) (wordsOf n t) [x0, x1, x2, x3, x4, x5, x6, x7] rfl rfl W
              have e1 : (List.map u64 [x0, x1, x2, x3, x4, x5, x6, x7]).toArray = #[.int .u64 x0.toNat, .int .u64 x1.toNat, .int .u64 n, .int .u64 t, .int .u64 x4.toNat, .int .u64 x5.toNat, .int .u64 x6.toNat, .int .u64 x7.toNat] := by rw [HA.out, HT.out]; rfl
              rw [e1] at hcmp
              obtain ⟨V, hV⟩ : ∃ V, V = (List.map u64 (wordsOf n t)).toArray := ⟨_, rfl⟩
              rw [← hV] at hcmp
              have HV := Lib.hid hV
              have hz0 : (n == 0) = false := by rw [beq_eq_false_iff_ne]; omega
              have heql : ∀ W, (binOp .eql 66 (.agg #[.int .i64 n, .int .i64 t]) (.agg #[.int .i64 0, .int .i64 0])).run Try.prog W = .ok (.bool false) W := by
                intro W
                simp [go_sem, hz0]
              clear g0 g1 g2 c1 c2 t3 hok e1 hV hz0
              obtain ⟨dB, hdB⟩ : ∃ dB, dB = decide (wordsOf n t = [x0, x1, x2, x3, x4, x5, x6, x7]) := ⟨_, rfl⟩
              rw [← hdB] at hcmp
              have HDB := Lib.hid hdB; clear hdB
              have hat : at2 [x0, x1, x2, x3, x4, x5, x6, x7] = n ∧ at3 [x0, x1, x2, x3, x4, x5, x6, x7] = t := ⟨HA.out.symm, HT.out.symm⟩
              have HAT := Lib.hid hat; clear hat
              have k3 : ∀ (W : World), Below w1.heap.size w1 W → W.heap[w.heap.size]? = some (.cells #[.int .i64 0, .int .i64 0] 66 (0, 0)) := fun W b => blk_below G0.out b
              have K3 := Lib.hid k3; clear k3
              cases dB
              all_goals
                go_region_held3 (fun w' => w'.cell? ⟨w.heap.size + 1, 0, none⟩ = some (.int .i64 n) ∧ w'.cell? ⟨w.heap.size + 1, 1, none⟩ = some (.int .i64 t) ∧ w'.cell? ⟨w.heap.size + 1 + 1, 0, none⟩ = some (.int .u64 x0.toNat) ∧ w'.cell? ⟨w.heap.size + 1 + 1, 1, none⟩ = some (.int .u64 x1.toNat) ∧ w'.cell? ⟨w.heap.size + 1 + 1, 2, none⟩ = some (.int .u64 n) ∧ w'.cell? ⟨w.heap.size + 1 + 1, 3, none⟩ = some (.int .u64 t) ∧ w'.cell? ⟨w.heap.size + 1 + 1, 4, none⟩ = some (.int .u64 x4.toNat) ∧ w'.cell? ⟨w.heap.size + 1 + 1, 5, none⟩ = some (.int .u64 x5.toNat) ∧ w'.cell? ⟨w.heap.size + 1 + 1, 6, none⟩ = some (.int .u64 x6.toNat) ∧ w'.cell? ⟨w.heap.size + 1 + 1, 7, none⟩ = some (.int .u64 x7.toNat))
                  (first | exact ⟨s0, s1, a0, a1, a2, a3, a4, a5, a6, a7⟩ | exact ⟨(k2 _ _ (by omega)).trans s0, (k2 _ _ (by omega)).trans s1, (k2 _ _ (by omega)).trans a0, (k2 _ _ (by omega)).trans a1, (k2 _ _ (by omega)).trans a2, (k2 _ _ (by omega)).trans a3, (k2 _ _ (by omega)).trans a4, (k2 _ _ (by omega)).trans a5, (k2 _ _ (by omega)).trans a6, (k2 _ _ (by omega)).trans a7⟩)
                  (first | (go_at_call 101; refine (words_any n t _ HOK.out).mono ?_; rw [show arr8 (wordsOf n t) = .agg V by rw [HV.out]; rfl]; rintro e w2 ⟨rfl, b2⟩; have k2 : ∀ (g q : Nat), g < w1.heap.size → w2.cell? ⟨g, q, none⟩ = w1.cell? ⟨g, q, none⟩ := fun g q hg => b2.cell (p := ⟨g, q, none⟩) hg))
                have b3 := (below_drewN (Below.refl w1.heap.size w1) 1).trans b2
                have z0 := blk_cell (K3.out _ b3); have zf := blk_free (K3.out _ b3); have z1 := blk_cell (blk_below G1.out b3)
                have HB2 := Lib.hid b3
                clear k2 b2 b3
                go_wp2
                try rw [Exit.noGoto_ret]
              · have hno : ¬ ReadOk [x0, x1, x2, x3, x4, x5, x6, x7] := by
                  rintro ⟨_, h2⟩
                  rw [HAT.out.1, HAT.out.2] at h2
                  exact absurd h2.symm (of_decide_eq_false HDB.out.symm)
                refine bodyPost_ret (v := .tuple #[supV 0 0, .int .i64 50]) ?_ rfl ⟨?_, ?_⟩
                · simp [results, Try.results62, go_sem, supV, z0, zf]
                · rw [if_neg hno, (rd_no hno).1, (rd_no hno).2]
                · exact ((HB.out.trans (HB2.out.mono HB.out.size)).setCell (Nat.le_refl _) _).setCell (Nat.le_refl _) _
              · have hyes : ReadOk [x0, x1, x2, x3, x4, x5, x6, x7] := by
                  unfold ReadOk
                  rw [HAT.out.1, HAT.out.2]
                  exact ⟨HOK.out, (of_decide_eq_true HDB.out.symm).symm⟩
                refine bodyPost_ret (v := .tuple #[supV n t, .int .i64 0]) ?_ rfl ⟨?_, ?_⟩
                · simp [results, Try.results62, go_sem, supV, z0, zf]
                · rw [if_pos hyes, rdW, if_pos hyes, rdT, if_pos hyes, HAT.out.1, HAT.out.2]
                · exact ((HB.out.trans (HB2.out.mono HB.out.size)).setCell (Nat.le_refl _) _).setCell (Nat.le_refl _) _
            · have hne : (t == T) = false := by rw [beq_eq_false_iff_ne]; exact htT
              go_wp2
              go_round
              case rel => exact ⟨t + 1, by omega, by omega, rfl, by omega⟩
              case measure => simp [intOf]; omega
          · go_wp2
            go_round
            case rel => exact ⟨n + 8, by omega, by omega, by have := N3.out; omega, rfl, by omega⟩
            case measure => simp [intOf]; omega
      · have hne : (n == A) = false := by rw [beq_eq_false_iff_ne]; exact hnA
        go_wp2
        go_loop [19] (fun t => ∃ j : Int, 0 ≤ j ∧ j ≤ 9 ∧ t = .int .i64 j) (fun t => (9 - intOf t).toNat)
        case atStart => exact ⟨0, by omega, by omega, rfl⟩
        case round =>
          obtain ⟨t, t1, t2, rfl⟩ := hrel
          by_cases htl : t < 9
          · go_wp2
            go_round
            case rel => exact ⟨t + 1, by omega, by omega, rfl⟩
            case measure => simp [intOf]; omega
          · go_wp2
            go_round
            case rel => exact ⟨n + 8, by omega, by omega, by have := N3.out; omega, rfl, by have := N3.out; have := N4.out; omega⟩
            case measure => simp [intOf]; omega
    · go_wp2
      refine wp_gen (fun W => W.heap[w.heap.size]? = some (.cells #[.int .i64 0, .int .i64 0] 66 (0, 0)) ∧ W.heap[w.heap.size + 1]? = some (.cells #[.int .i64 0, .int .i64 0] 66 (0, 0)) ∧
        W.heap[w.heap.size + 1 + 1]? = some (.cells #[.int .u64 x0.toNat, .int .u64 x1.toNat, .int .u64 A, .int .u64 T, .int .u64 x4.toNat, .int .u64 x5.toNat, .int .u64 x6.toNat, .int .u64 x7.toNat] 159 (0, 0)) ∧ Below w.heap.size w W ∧ w.heap.size + 3 ≤ W.heap.size)
        ⟨by simp only [alloc_heap, Array.getElem?_push, Array.size_push]; simp <;> omega, by simp only [alloc_heap, Array.getElem?_push, Array.size_push]; simp <;> omega, by simp only [alloc_heap, Array.getElem?_push, Array.size_push]; simp <;> omega, (((Below.refl _ w).alloc (Nat.le_refl _) _).alloc (by simp) _).alloc (by simp; omega) _, by simp⟩ ?_
      rintro w1 ⟨g0, g1, g2, B, hz⟩
      have c0 := blk_cell g0; have c1 := blk_cell g1; have c2 := blk_cell g2; have f0 := blk_free g0
      have HB := Lib.hid B; clear B
      have G0 := Lib.hid g0; clear g0 g1 g2
      go_big_quiet (fail)
      go_wp2
      try rw [Exit.noGoto_ret]
      have hno : ¬ ReadOk [x0, x1, x2, x3, x4, x5, x6, x7] := by
        rintro ⟨⟨⟨h1, h2, h3⟩, h4, h5⟩, _⟩
        have h6 : at2 [x0, x1, x2, x3, x4, x5, x6, x7] = A := HA.out.symm
        have h7 : at3 [x0, x1, x2, x3, x4, x5, x6, x7] = T := HT.out.symm
        rw [h6] at h1 h2 h3
        rw [h7] at h4 h5
        exact N4.out ⟨h1, by omega, h3, h5⟩
      refine bodyPost_ret (v := .tuple #[supV 0 0, .int .i64 50]) ?_ rfl ⟨?_, ?_⟩
      · simp [results, Try.results62, go_sem, supV, c0, f0]
      · rw [if_neg hno, (rd_no hno).1, (rd_no hno).2]
      · exact ((below_drewN HB.out _).setCell (Nat.le_refl _) _).setCell (Nat.le_refl _) _
theorem Read6_any (v : Value) (l : List UInt64) (w : World) (h : Words w v l) :
    Calls Try.prog 62 #[v] w fun e w' => e = .returned (.tuple #[supV (rdW l) (rdT l), .int .i64 (rdErr l)]) ∧ Below w.heap.size w w' := by
  by_cases hl : l.length = 8
  · rw [rdErr, if_pos hl]; exact Read6_eight v l w h hl
  · have hno : ¬ ReadOk l := fun hr => hl (readOk_len hr)
    rw [rdErr, if_neg hl, (rd_no hno).1, (rd_no hno).2]; exact Read6_bad v l w h hl
end Go.Proofs.Ytmbokdnndlnjkaa
namespace Go.Proofs.Ytmbokdnndlnjkaa
open Go.RowKit L02 L05 L06
set_option maxHeartbeats 1000000 in
theorem Written_any (W T : Int) (w : World) (h : SupOk W T) : Calls Try.prog 47 #[supV W T] w fun e w' => ∃ v, e = .returned v ∧ OwnW w' w.heap.size 24 v (wordsOf W T) ∧ Below w.heap.size w w' := by
  have h1 := h.1.1; have h2 := h.1.2.1; have h3 := h.2.1; have h4 := h.2.2
  have hu1 := u_nat (n := W) (by omega) (by omega)
  have hu2 := u_nat (n := T) (by omega) (by omega)
  have HU1 := Lib.hid hu1; have HU2 := Lib.hid hu2; clear hu1 hu2 h
  unfold supV
  go_enter Try.func47, Try.ntmps47
  go_wp2_with fail
  refine calls_gen (fun W' => W'.ownsRow w.heap.size 24 1 (.slice (some ⟨w.heap.size + 1, 0, none⟩) 7 7) 7 ((body W T).map u64) ∧ Below w.heap.size w W') ⟨?_, ((Below.refl _ w).alloc (Nat.le_refl _) _).alloc (by simp) _⟩ ?_
  · have := World.ownsRow_lit (base := w.heap.size) (size := 1) (e := 24) (w.alloc (.cells #[.int .i64 W, .int .i64 T] 66)) #[.int .u64 32777959566500194, .int .u64 1, .int .u64 W, .int .u64 T, .int .u64 0, .int .u64 0, .int .u64 0] 7 (by simp) (by simp [maxLen]) rfl
    rw [alloc_sz] at this
    have e : (body W T).map u64 = [.int .u64 32777959566500194, .int .u64 1, .int .u64 W, .int .u64 T, .int .u64 0, .int .u64 0, .int .u64 0] := by simp [body, u64, HU1.out, HU2.out, magic]
    rw [e]
    exact this
  rintro w1 ⟨o1, B⟩
  refine (SumR_any _ _ _ (OwnW.rd (OwnW.of o1 rfl)) (by simp [body])).mono ?_
  rintro e w2 ⟨rfl, b⟩
  replace o1 := own_below o1 b; replace B := B.trans (b.mono B.size); clear b
  have HO := Lib.hid o1; have HB := Lib.hid B; clear o1 B
  obtain ⟨S, hS⟩ : ∃ S, S = sum (body W T) := ⟨_, rfl⟩
  rw [← hS]
  have HS := Lib.hid hS; clear hS
  go_wp2_with (at_builtin; refine wpList_append (by rfl) rfl rfl rfl Try.underlying22 info_u64 rfl (by omega) (by exact own_below HO.out ((Below.refl _ _).alloc (Nat.le_refl _) _)) (by exact lit_rd) (by simp [Value.oneCell']) (by omega) (by omega) (by exact HB.out.alloc HB.out.size _) (Nat.le_refl _) ?_; intro v1 w3 o3 B3 g3; clear g3)
  go_ret
  refine ⟨v1, rfl, OwnW.of o3 ?_, B3⟩
  rw [wordsOf, List.map_append, HS.out]; rfl
end Go.Proofs.Ytmbokdnndlnjkaa
namespace Go.Proofs.Ytmbokdnndlnjkaa
open Go.RowKit L02 L05 L06 L07
theorem starts_any (w : World) : Calls Try.prog 61 #[] w fun e w' => e = .returned (.agg #[.int .i64 0, .int .i64 8]) ∧ Below w.heap.size w w' := by
  have B : Below w.heap.size w w := Below.refl _ _
  go_enter Try.func61, Try.ntmps61
  go_upto_region 1 with (fail)
  refine wp_gen (fun Wv => Bx Wv (w.heap.size) (114) (#[.int .i64 0, .int .i64 0]) ∧ Below w.heap.size w Wv) ⟨((Bx.at_ (by simp))), ((Below.refl _ w).alloc (by simp <;> omega) _)⟩ ?_
  rintro w' ⟨g1, b⟩
  replace B := B.trans (b.mono B.size); clear b
  have c_g1 := g1.cell; have f_g1 := g1.free; have a_g1 := fun o => (g1.alloc o).cell; have d_g1 := fun o o2 => ((g1.alloc o).alloc o2).cell; have e_g1 := fun o => (g1.alloc o).free
  go_wp2
  refine bodyPost_ret (v := .agg #[.int .i64 0, .int .i64 8]) (by simp [results, Try.results61, go_sem, c_g1, f_g1, a_g1, e_g1]) rfl ?_
  exact ⟨rfl, by (repeat (first | refine Below.setCell ?_ (by first | exact Nat.le_refl _ | (simp <;> omega)) _ | refine Below.alloc ?_ (by first | exact B.size | (have := B.size; simp <;> omega)) _)); exact B⟩
theorem Read6_r (v : Value) (l : List UInt64) (W T r : Int) (hW : W = rdW l) (hT : T = rdT l) (hr : r = rdErr l) (w : World) (h : Words w v l) :
    Calls Try.prog 62 #[v] w fun e w' => e = .returned (.tuple #[.agg #[.int .i64 W, .int .i64 T], .int .i64 r]) ∧ Below w.heap.size w w' := by subst hW hT hr; exact Read6_any v l w h
theorem good_rd {n : Nat} {l : List UInt64} (hl : l.length = 8) : CopyOk n l ↔ rdErr l = 0 ∧ rdW l = (n : Int) := by
  unfold CopyOk rdErr rdW
  rw [if_pos hl]
  by_cases h : ReadOk l
  · simp [h]
  · simp [h]
theorem rd_ok3 {l : List UInt64} (h : ReadOk l) : rdW l = at2 l ∧ rdT l = at3 l := ⟨if_pos h, if_pos h⟩
theorem index_two (a b : Int) (W : World) : (Instr.index 114 (.agg #[.int .i64 a, .int .i64 b]) (.int .i64 0)).run Try.prog W = .ok (.int .i64 a) W ∧ (Instr.index 114 (.agg #[.int .i64 a, .int .i64 b]) (.int .i64 1)).run Try.prog W = .ok (.int .i64 b) W := by
  obtain ⟨i, hi, hsz⟩ := Option.map_eq_some_iff.1 one_int
  constructor <;> simp [Instr.index, run_underlying Try.underlying114, asIntOf, sizeOf, typeInfo, go_sem, hi, hsz]
def fnd (a0 t0 a1 t1 : Int) : Nat → Array Value
  | 0 => #[.int .i64 0, .int .i64 0, .int .i64 0, .int .i64 0]
  | 1 => #[.int .i64 a0, .int .i64 t0, .int .i64 0, .int .i64 0]
  | _ => #[.int .i64 a0, .int .i64 t0, .int .i64 a1, .int .i64 t1]
def rgt (b0 b1 : Bool) : Nat → Array Value
  | 0 => #[.bool false, .bool false]
  | 1 => #[.bool b0, .bool false]
  | _ => #[.bool b0, .bool b1]
/-- what a copy says -/
theorem copy_cases {n : Nat} {l : List UInt64} (hl : l.length = 8) (b : Bool) (hb : b = decide (CopyOk n l)) : (rdErr l = 0 ∧ (rdW l == (n : Int)) = b) ∨ ((rdErr l == 0) = false ∧ b = false) := by
  by_cases h : rdErr l = 0
  · refine .inl ⟨h, ?_⟩
    rw [hb]
    by_cases h2 : rdW l = (n : Int)
    · rw [decide_eq_true ((good_rd hl).2 ⟨h, h2⟩), beq_iff_eq]; exact h2
    · rw [decide_eq_false (fun hg => h2 ((good_rd hl).1 hg).2), beq_eq_false_iff_ne]; exact h2
  · refine .inr ⟨by rw [beq_eq_false_iff_ne]; exact h, ?_⟩
    rw [hb]; exact decide_eq_false (fun hg => h ((good_rd hl).1 hg).1)
set_option maxRecDepth 100000 in
set_option maxHeartbeats 4000000 in
theorem TRead_any (v : Value) (m : List UInt64) (W T : Int) (b0 b1 : Bool) (r : Int) (hW : W = sW m) (hT : T = sT m) (h0 : b0 = is0 m) (h1 : b1 = is1 m) (hr : r = rErr m) (w : World) (h : Words w v m) :
    Calls Try.prog 31 #[v] w fun e w' => e = .returned (.tuple #[.agg #[.int .i64 W, .int .i64 T], .agg #[.bool b0, .bool b1], .int .i64 r]) ∧ Below w.heap.size w w' := by
  have B : Below w.heap.size w w := Below.refl _ _
  have CT := fun w h => Check_any v m w h
  by_cases hs : SizeOk m.length
  rotate_left
  · rw [chk_no hs] at CT
    obtain rfl : W = 0 := by rw [hW, sW, if_neg (by rw [rErr_no hs]; omega)]
    obtain rfl : T = 0 := by rw [hT, sT, if_neg (by rw [rErr_no hs]; omega)]
    obtain rfl : b0 = false := by rw [h0, is0_no hs]
    obtain rfl : b1 = false := by rw [h1, is1_no hs]
    obtain rfl : r = 8 := by rw [hr, rErr_no hs]
    have HC := Lib.hid CT; have H := Lib.hid h; clear CT h hs hW hT h0 h1 hr
    go_enter Try.func31, Try.ntmps31
    go_upto_region 1 with (fail)
    refine wp_gen (fun Wv => Bx Wv (w.heap.size) (66) (#[.int .i64 0, .int .i64 0]) ∧ Bx Wv (w.heap.size + 1) (67) (#[.bool false, .bool false]) ∧ Below w.heap.size w Wv) ⟨(((Bx.at_ (by simp)).alloc _)), ((Bx.at_ (by simp))), (((Below.refl _ w).alloc (by simp <;> omega) _).alloc (by simp <;> omega) _)⟩ ?_
    rintro w' ⟨g2, g3, b⟩
    replace B := B.trans (b.mono B.size); clear b
    have c_g2 := g2.cell; have f_g2 := g2.free; have a_g2 := fun o => (g2.alloc o).cell; have d_g2 := fun o o2 => ((g2.alloc o).alloc o2).cell; have e_g2 := fun o => (g2.alloc o).free
    have c_g3 := g3.cell; have f_g3 := g3.free; have a_g3 := fun o => (g3.alloc o).cell; have d_g3 := fun o o2 => ((g3.alloc o).alloc o2).cell; have e_g3 := fun o => (g3.alloc o).free
    go_wp2_with fail
    refine (HC.out _ (H.out.below B)).mono ?_
    rintro e w' ⟨rfl, rfl⟩
    go_wp2
    refine bodyPost_ret (v := .tuple #[.agg #[.int .i64 0, .int .i64 0], .agg #[.bool false, .bool false], .int .i64 8]) (by simp [results, Try.results31, go_sem, c_g2, f_g2, a_g2, e_g2, c_g3, f_g3, a_g3, e_g3]) rfl ?_
    exact ⟨rfl, by (repeat (first | refine Below.setCell ?_ (by first | exact Nat.le_refl _ | (simp <;> omega)) _ | refine Below.alloc ?_ (by first | exact B.size | (have := B.size; simp <;> omega)) _)); exact B⟩
  rw [chk_ok hs] at CT
  have hn := hs.1
  obtain ⟨v0, sl0, hv0⟩ := h.cut (P := Try.prog) Try.underlying22 one_u64 (lo := 0) (hi := 8) (by omega) (by omega) (by omega)
  obtain ⟨v1, sl1, hv1⟩ := h.cut (P := Try.prog) Try.underlying22 one_u64 (lo := 8) (hi := 16) (by omega) (by omega) (by omega)
  have hv0' : Words w v0 (c0 m) := hv0
  have hv1' : Words w v1 (c1 m) := hv1
  have l1 := Rd.len h Try.underlying22
  obtain ⟨n, hnn⟩ : ∃ n, n = m.length := ⟨_, rfl⟩
  rw [← hnn] at l1
  obtain ⟨a0, ha0⟩ : ∃ x, x = rdW (c0 m) := ⟨_, rfl⟩
  obtain ⟨t0, ht0⟩ : ∃ x, x = rdT (c0 m) := ⟨_, rfl⟩
  obtain ⟨e0, he0⟩ : ∃ x, x = rdErr (c0 m) := ⟨_, rfl⟩
  obtain ⟨a1, ha1⟩ : ∃ x, x = rdW (c1 m) := ⟨_, rfl⟩
  obtain ⟨t1, ht1⟩ : ∃ x, x = rdT (c1 m) := ⟨_, rfl⟩
  obtain ⟨e1, he1⟩ : ∃ x, x = rdErr (c1 m) := ⟨_, rfl⟩
  have R0 := Lib.hid (fun w h => Read6_r v0 (c0 m) a0 t0 e0 ha0 ht0 he0 w h)
  have R1 := Lib.hid (fun w h => Read6_r v1 (c1 m) a1 t1 e1 ha1 ht1 he1 w h)
  have K0 : (e0 = 0 ∧ (a0 == (n : Int)) = b0) ∨ ((e0 == 0) = false ∧ b0 = false) := by rw [he0, ha0, hnn]; exact copy_cases (c0_len hs) b0 (by rw [h0, is0_good hs])
  have K1 : (e1 = 0 ∧ (a1 == (n : Int)) = b1) ∨ ((e1 == 0) = false ∧ b1 = false) := by rw [he1, ha1, hnn]; exact copy_cases (c1_len hs) b1 (by rw [h1, is1_good hs])
  -- what comes out
  have F0 : b0 = true → W = a0 ∧ T = t0 ∧ r = 0 := by
    intro h
    have hi : is0 m = true := by rw [← h0]; exact h
    have hr0 := rErr_mk hs (.inl hi)
    have hg : CopyOk m.length (c0 m) := (of_decide_eq_true hi).2
    have ho : one m = c0 m := if_pos hi
    exact ⟨by rw [hW, sW, if_pos hr0, ha0, (rd_ok3 hg.1).1, hg.2], by rw [hT, sT, if_pos hr0, ht0, (rd_ok3 hg.1).2, ho], by rw [hr, hr0]⟩
  have F1 : b0 = false → b1 = true → W = a1 ∧ T = t1 ∧ r = 0 := by
    intro h h'
    have hi : is1 m = true := by rw [← h1]; exact h'
    have hi0 : is0 m = false := by rw [← h0]; exact h
    have hr0 := rErr_mk hs (.inr hi)
    have hg : CopyOk m.length (c1 m) := (of_decide_eq_true hi).2
    have ho : one m = c1 m := if_neg (by simp [hi0])
    exact ⟨by rw [hW, sW, if_pos hr0, ha1, (rd_ok3 hg.1).1, hg.2], by rw [hT, sT, if_pos hr0, ht1, (rd_ok3 hg.1).2, ho], by rw [hr, hr0]⟩
  have F2 : b0 = false → b1 = false → W = 0 ∧ T = 0 ∧ r = 50 := by
    intro h h'
    have hr0 := rErr_50 hs (by rw [← h0]; exact h) (by rw [← h1]; exact h')
    exact ⟨by rw [hW, sW, if_neg (by rw [hr0]; omega)], by rw [hT, sT, if_neg (by rw [hr0]; omega)], by rw [hr, hr0]⟩
  have FF := Lib.hid (And.intro F0 (And.intro F1 F2))
  have KK := Lib.hid (And.intro K0 K1)
  have HC := Lib.hid CT; have H := Lib.hid h; have HV0 := Lib.hid hv0'; have HV1 := Lib.hid hv1'
  clear CT h hs hW hT h0 h1 hr hv0 hv1 hv0' hv1' ha0 ht0 he0 ha1 ht1 he1 F0 F1 F2 K0 K1 hn hnn
  go_enter Try.func31, Try.ntmps31
  go_upto_region 1 with (fail)
  refine wp_gen (fun Wv => Bx Wv (w.heap.size) (66) (#[.int .i64 0, .int .i64 0]) ∧ Bx Wv (w.heap.size + 1) (67) (#[.bool false, .bool false]) ∧ Below w.heap.size w Wv) ⟨(((Bx.at_ (by simp)).alloc _)), ((Bx.at_ (by simp))), (((Below.refl _ w).alloc (by simp <;> omega) _).alloc (by simp <;> omega) _)⟩ ?_
  rintro wa1 ⟨g2, g3, b⟩
  replace B := B.trans (b.mono B.size); clear b
  have c_g2 := g2.cell; have f_g2 := g2.free; have a_g2 := fun o => (g2.alloc o).cell; have d_g2 := fun o o2 => ((g2.alloc o).alloc o2).cell; have e_g2 := fun o => (g2.alloc o).free
  have c_g3 := g3.cell; have f_g3 := g3.free; have a_g3 := fun o => (g3.alloc o).cell; have d_g3 := fun o o2 => ((g3.alloc o).alloc o2).cell; have e_g3 := fun o => (g3.alloc o).free
  go_wp2_with fail
  refine (HC.out _ (H.out.below B)).mono ?_
  rintro e w' ⟨rfl, rfl⟩
  have hz1 := B.size
  have d2 := g2.lt; have d3 := g3.lt
  go_upto_region 6 with (fail)
  refine wp_gen (fun Wv => Bx Wv (wa1.heap.size) (113) (fnd a0 t0 a1 t1 0) ∧ Bx Wv (wa1.heap.size + 1) (67) (rgt b0 b1 0) ∧ Below wa1.heap.size wa1 Wv) ⟨(((Bx.at_ (by simp)).alloc _)), ((Bx.at_ (by simp))), (((Below.refl _ wa1).alloc (by simp <;> omega) _).alloc (by simp <;> omega) _)⟩ ?_
  rintro wa2 ⟨g6, g7, b⟩
  try clear c_g2 f_g2 a_g2 d_g2 e_g2
  replace g2 := g2.below b; have c_g2 := g2.cell; have f_g2 := g2.free; have a_g2 := fun o => (g2.alloc o).cell; have d_g2 := fun o o2 => ((g2.alloc o).alloc o2).cell; have e_g2 := fun o => (g2.alloc o).free; try clear c_g3 f_g3 a_g3 d_g3 e_g3
  replace g3 := g3.below b; have c_g3 := g3.cell; have f_g3 := g3.free; have a_g3 := fun o => (g3.alloc o).cell; have d_g3 := fun o o2 => ((g3.alloc o).alloc o2).cell; have e_g3 := fun o => (g3.alloc o).free; replace B := B.trans (b.mono B.size); clear b
  have c_g6 := g6.cell; have f_g6 := g6.free; have a_g6 := fun o => (g6.alloc o).cell; have d_g6 := fun o o2 => ((g6.alloc o).alloc o2).cell; have e_g6 := fun o => (g6.alloc o).free
  have c_g7 := g7.cell; have f_g7 := g7.free; have a_g7 := fun o => (g7.alloc o).cell; have d_g7 := fun o o2 => ((g7.alloc o).alloc o2).cell; have e_g7 := fun o => (g7.alloc o).free
  obtain ⟨p2, hp2⟩ : ∃ p, p = w.heap.size := ⟨_, rfl⟩
  obtain ⟨p6, hp6⟩ : ∃ p, p = wa1.heap.size := ⟨_, rfl⟩
  obtain ⟨p3, hp3⟩ : ∃ p, p = p2 + 1 := ⟨_, rfl⟩
  obtain ⟨p7, hp7⟩ : ∃ p, p = p6 + 1 := ⟨_, rfl⟩
  have hB6 : w.heap.size ≤ p6 := by omega
  have hB7 : w.heap.size ≤ p7 := by omega
  have hB2 : w.heap.size ≤ p2 := by omega
  have hB3 : w.heap.size ≤ p3 := by omega
  have q1 : p2 < p6 := by omega
  have q2 : p3 < p6 := by omega
  have q3 : p2 ≠ p3 := by omega
  rw [← hp2] at g2 g3 ⊢
  rw [← hp3] at g3 ⊢
  rw [← hp6] at g6 g7 ⊢
  rw [← hp7] at g7 ⊢
  have q4 : p6 < p7 := by omega
  clear hp2 hp3 hp6 d2 d3 hz1
  clear hp7
  clear c_g2 f_g2 a_g2 d_g2 e_g2 c_g3 f_g3 a_g3 d_g3 e_g3 c_g6 f_g6 a_g6 d_g6 e_g6 c_g7 f_g7 a_g7 d_g7 e_g7
  have c_g2 := 0; have f_g2 := 0; have a_g2 := 0; have d_g2 := 0; have e_g2 := 0
  have c_g3 := 0; have f_g3 := 0; have a_g3 := 0; have d_g3 := 0; have e_g3 := 0
  have c_g6 := 0; have f_g6 := 0; have a_g6 := 0; have d_g6 := 0; have e_g6 := 0
  have c_g7 := 0; have f_g7 := 0; have a_g7 := 0; have d_g7 := 0; have e_g7 := 0
  go_wp2_with fail
  refine (starts_any _).mono ?_
  rintro e wa3 ⟨rfl, b⟩
  try clear c_g2 f_g2 a_g2 d_g2 e_g2
  replace g2 := g2.below b; have c_g2 := g2.cell; have f_g2 := g2.free; have a_g2 := fun o => (g2.alloc o).cell; have d_g2 := fun o o2 => ((g2.alloc o).alloc o2).cell; have e_g2 := fun o => (g2.alloc o).free; try clear c_g3 f_g3 a_g3 d_g3 e_g3
  replace g3 := g3.below b; have c_g3 := g3.cell; have f_g3 := g3.free; have a_g3 := fun o => (g3.alloc o).cell; have d_g3 := fun o o2 => ((g3.alloc o).alloc o2).cell; have e_g3 := fun o => (g3.alloc o).free; try clear c_g6 f_g6 a_g6 d_g6 e_g6
  replace g6 := g6.below b; have c_g6 := g6.cell; have f_g6 := g6.free; have a_g6 := fun o => (g6.alloc o).cell; have d_g6 := fun o o2 => ((g6.alloc o).alloc o2).cell; have e_g6 := fun o => (g6.alloc o).free; try clear c_g7 f_g7 a_g7 d_g7 e_g7
  replace g7 := g7.below b; have c_g7 := g7.cell; have f_g7 := g7.free; have a_g7 := fun o => (g7.alloc o).cell; have d_g7 := fun o o2 => ((g7.alloc o).alloc o2).cell; have e_g7 := fun o => (g7.alloc o).free; replace B := B.trans (b.mono B.size); clear b
  have HH := Lib.hid (And.intro g2 (And.intro g3 (And.intro g6 (And.intro g7 B))))
  clear c_g2 f_g2 a_g2 d_g2 e_g2 c_g3 f_g3 a_g3 d_g3 e_g3 c_g6 f_g6 a_g6 d_g6 e_g6 c_g7 f_g7 a_g7 d_g7 e_g7 g2 g3 g6 g7 B
  have hE6 : p6 < wa3.heap.size := HH.out.2.2.1.lt
  clear hE6
  go_wp2
  go_loopg [20] 2 (fun g i wr => ∃ k : Nat, k ≤ 2 ∧ g = 2 - k ∧ i = .int .i64 k ∧ Hid (Bx wr p2 66 #[.int .i64 0, .int .i64 0] ∧ Bx wr p3 67 #[.bool false, .bool false] ∧ Bx wr p6 113 (fnd a0 t0 a1 t1 k) ∧ Bx wr p7 67 (rgt b0 b1 k) ∧ Below w.heap.size w wr))
  case atStart => exact ⟨0, by omega, by omega, rfl, HH⟩
  case round =>
    clear HH
    obtain ⟨k, hk, rfl, rfl, hh⟩ := hrel
    have ix0 := fun W => (index_two 0 8 W).1
    have ix1 := fun W => (index_two 0 8 W).2
    have hk3 : k = 0 ∨ k = 1 ∨ k = 2 := by omega
    clear hk
    rcases hk3 with rfl | rfl | rfl
    · obtain ⟨G2, G3, G6, G7, B⟩ := hh.out
      go_wp2_with fail
      refine (R0.out _ (HV0.out.below B)).mono ?_
      rintro e wx ⟨rfl, b⟩
      have g2 := G2.below b; have g3 := G3.below b; have g6 := G6.below b; have g7 := G7.below b
      replace B := B.trans (b.mono B.size)
      clear b G2 G3 G6 G7 hh
      go_upto_region 10 with (fail)
      refine wp_gen (fun V => Bx V wx.heap.size 66 #[.int .i64 a0, .int .i64 t0] ∧ Below wx.heap.size wx V) ⟨Bx.at_ (by simp), (Below.refl _ _).alloc (Nat.le_refl _) _⟩ ?_
      rintro wy ⟨g10, b⟩
      have d2 := g2.lt; have d3 := g3.lt; have d6 := g6.lt; have d7 := g7.lt
      replace g2 := g2.below b; replace g3 := g3.below b; replace g6 := g6.below b; replace g7 := g7.below b
      replace B := B.trans (b.mono B.size)
      clear b
      obtain ⟨p10, hp10⟩ : ∃ p, p = wx.heap.size := ⟨_, rfl⟩
      rw [← hp10] at g10 d2 d3 d6 d7 ⊢
      clear hp10
      obtain ⟨L, hL⟩ : ∃ L, L = [Bk.mk p6 113 13 (fnd a0 t0 a1 t1 0) (fnd a0 t0 a1 t1 1), Bk.mk p7 67 15 (rgt b0 b1 0) (rgt b0 b1 1), Bk.mk p10 66 13 (#[.int .i64 a0, .int .i64 t0]) (#[.int .i64 a0, .int .i64 t0]), Bk.mk p2 66 13 (#[.int .i64 0, .int .i64 0]) (#[.int .i64 0, .int .i64 0]), Bk.mk p3 67 13 (#[.bool false, .bool false]) (#[.bool false, .bool false])] := ⟨_, rfl⟩
      have ST : FBx w (w.heap.size) L (fun _ => false) (World.drew wy) := FBx.start B (by subst hL; exact List.forall_mem_cons.2 ⟨g6, List.forall_mem_cons.2 ⟨g7, List.forall_mem_cons.2 ⟨g10, List.forall_mem_cons.2 ⟨g2, List.forall_mem_cons.2 ⟨g3, fun _ h => by cases h⟩⟩⟩⟩⟩)
      have DP : Dep (FBx w (w.heap.size) L) [13, 15] := FBx.dep (by subst hL; simp)
      have kb2 := fun x : FXN (FBx w (w.heap.size) L) => FBx.cell (Bk.mk p10 66 13 (#[.int .i64 a0, .int .i64 t0]) (#[.int .i64 a0, .int .i64 t0])) (by subst hL; simp) rfl x
      dsimp only at kb2
      have kb3 := fun x : FXN (FBx w (w.heap.size) L) => FBx.cell (Bk.mk p2 66 13 (#[.int .i64 0, .int .i64 0]) (#[.int .i64 0, .int .i64 0])) (by subst hL; simp) rfl x
      dsimp only at kb3
      have kb4 := fun x : FXN (FBx w (w.heap.size) L) => FBx.cell (Bk.mk p3 67 13 (#[.bool false, .bool false]) (#[.bool false, .bool false])) (by subst hL; simp) rfl x
      dsimp only at kb4
      have S1 := FBx.stepRow (P := Try.prog) (w0 := w) (B := w.heap.size) (L := L) (k := 13) (Bk.mk p6 113 13 (fnd a0 t0 a1 t1 0) (fnd a0 t0 a1 t1 1)) (by subst hL; simp) hB6 rfl (q := 0) (cells := #[.int .i64 a0, .int .i64 t0]) (by simp [fnd, rgt]) (by simp [fnd, rgt]) (by simp [putL, fnd, rgt]) (by simp [putL, fnd, rgt]) (by subst hL; exact List.forall_mem_cons.2 ⟨.inl rfl, List.forall_mem_cons.2 ⟨.inr ⟨by show p7 ≠ p6; omega, .inl (by show (15 : Nat) ≠ 13; decide)⟩, List.forall_mem_cons.2 ⟨.inr ⟨by show p10 ≠ p6; omega, .inr rfl⟩, List.forall_mem_cons.2 ⟨.inr ⟨by show p2 ≠ p6; omega, .inr rfl⟩, List.forall_mem_cons.2 ⟨.inr ⟨by show p3 ≠ p6; omega, .inr rfl⟩, fun _ h => by cases h⟩⟩⟩⟩⟩) (ty := 66) (by kernel_rfl) (by simp [Value.oneCell'])
      dsimp only at S1
      have HS1 := Lib.hid S1; clear S1
      have S1 := FBx.step1 (P := Try.prog) (w0 := w) (B := w.heap.size) (L := L) (k := 15) (Bk.mk p7 67 15 (rgt b0 b1 0) (rgt b0 b1 1)) (by subst hL; simp) hB7 rfl (q := 0) (u := .bool b0) (u0 := .bool false) (u1 := .bool b0) rfl rfl (by simp [rgt, fnd]) (by simp [rgt, fnd]) (by subst hL; exact List.forall_mem_cons.2 ⟨.inr ⟨by show p6 ≠ p7; omega, .inl (by show (13 : Nat) ≠ 15; decide)⟩, List.forall_mem_cons.2 ⟨.inl rfl, List.forall_mem_cons.2 ⟨.inr ⟨by show p10 ≠ p7; omega, .inr rfl⟩, List.forall_mem_cons.2 ⟨.inr ⟨by show p2 ≠ p7; omega, .inr rfl⟩, List.forall_mem_cons.2 ⟨.inr ⟨by show p3 ≠ p7; omega, .inr rfl⟩, fun _ h => by cases h⟩⟩⟩⟩⟩) (ty := 4) (fun W u0 h1 h2 => store_bool (by kernel_rfl) W _ u0 _ h1 h2)
      dsimp only at S1
      have HS2 := Lib.hid S1; clear S1
      have HST := Lib.hid ST; clear ST; have HL := Lib.hid hL; clear hL
      haveI : Nonempty (FXN (FBx w (w.heap.size) L)) := ⟨⟨_, _, HST.out⟩⟩
      clear kb3 kb4 g2 g3 g6 g7 g10 B d2 d3 d6 d7
      rcases KK.out.1 with ⟨rfl, hq⟩ | ⟨hq, rfl⟩
      all_goals
        refine wp_region_N (FBx w (w.heap.size) L) [13, 15] DP (by kernel_rfl) (by kernel_rfl) (by kernel_rfl) HST.out ?_
        iterate 6 (refine wpN_read DP rfl (by decide) ?_; go_big_quiet_step (fail); refine wpQuiet_nil ?_)
        iterate 3 (first | (refine wpN_skip DP (by decide) rfl ?_; simp only [Act.put, List.setIfInBounds_toArray, List.set_cons_zero, List.set_cons_succ]) | (refine wpN_read DP rfl (by decide) ?_; go_big_quiet_step (fail); refine wpQuiet_nil ?_))
        first | (refine wpN_skip DP (by decide) rfl ?_; simp only [Act.put, List.setIfInBounds_toArray, List.set_cons_zero, List.set_cons_succ]) | (refine wpN_len DP rfl (by decide) rfl (fun W => l1 _ W) ?_; simp only [Act.put, List.setIfInBounds_toArray, List.set_cons_zero, List.set_cons_succ])
        iterate 1 (first | (refine wpN_skip DP (by decide) rfl ?_; simp only [Act.put, List.setIfInBounds_toArray, List.set_cons_zero, List.set_cons_succ]) | (refine wpN_read DP rfl (by decide) ?_; go_big_quiet_step (fail); refine wpQuiet_nil ?_))
        iterate 2 (refine wpN_read DP rfl (by decide) ?_; go_big_quiet_step (fail); refine wpQuiet_nil ?_)
        refine wpN_store DP 66 (.tmp 45) (.tmp 35) rfl rfl (p := .pointer (some ⟨p6, 0, none⟩)) (u := .agg #[.int .i64 a0, .int .i64 t0]) (by rfl) (by rfl) HS1.out ?_
        simp only [Act.put, List.setIfInBounds_toArray, List.set_cons_zero, List.set_cons_succ]
        iterate 1 (refine wpN_read DP rfl (by decide) ?_; go_big_quiet_step (fail); refine wpQuiet_nil ?_)
        refine wpN_store DP 4 (.tmp 46) (.tmp 44) rfl rfl (p := .pointer (some ⟨p7, 0, none⟩)) (u := _) (by rfl) (by rfl) HS2.out ?_
        simp only [Act.put, List.setIfInBounds_toArray, List.set_cons_zero, List.set_cons_succ]
        intro wz hd
        obtain ⟨B, hd⟩ := FBx.done hd
        rw [HL.out] at hd
        obtain ⟨g6, hd⟩ := List.forall_mem_cons.1 hd
        obtain ⟨g7, hd⟩ := List.forall_mem_cons.1 hd
        obtain ⟨g10, hd⟩ := List.forall_mem_cons.1 hd
        obtain ⟨g2, hd⟩ := List.forall_mem_cons.1 hd
        obtain ⟨g3, hd⟩ := List.forall_mem_cons.1 hd
        dsimp only at g6 g7 g10 g2 g3
        clear hd HST HL DP this
        have HH := Lib.hid (And.intro g2 (And.intro g3 (And.intro g6 (And.intro g7 B))))
        clear g2 g3 g6 g7 g10 B HS1 HS2
        go_wp2
        go_roundg (2 - 1)
        case measure => omega
        case rel => exact ⟨1, by omega, rfl, by go_num, HH⟩
    · obtain ⟨G2, G3, G6, G7, B⟩ := hh.out
      go_wp2_with fail
      refine (R1.out _ (HV1.out.below B)).mono ?_
      rintro e wx ⟨rfl, b⟩
      have g2 := G2.below b; have g3 := G3.below b; have g6 := G6.below b; have g7 := G7.below b
      replace B := B.trans (b.mono B.size)
      clear b G2 G3 G6 G7 hh
      go_upto_region 10 with (fail)
      refine wp_gen (fun V => Bx V wx.heap.size 66 #[.int .i64 a1, .int .i64 t1] ∧ Below wx.heap.size wx V) ⟨Bx.at_ (by simp), (Below.refl _ _).alloc (Nat.le_refl _) _⟩ ?_
      rintro wy ⟨g10, b⟩
      have d2 := g2.lt; have d3 := g3.lt; have d6 := g6.lt; have d7 := g7.lt
      replace g2 := g2.below b; replace g3 := g3.below b; replace g6 := g6.below b; replace g7 := g7.below b
      replace B := B.trans (b.mono B.size)
      clear b
      obtain ⟨p10, hp10⟩ : ∃ p, p = wx.heap.size := ⟨_, rfl⟩
      rw [← hp10] at g10 d2 d3 d6 d7 ⊢
      clear hp10
      obtain ⟨L, hL⟩ : ∃ L, L = [Bk.mk p6 113 13 (fnd a0 t0 a1 t1 1) (fnd a0 t0 a1 t1 2), Bk.mk p7 67 15 (rgt b0 b1 1) (rgt b0 b1 2), Bk.mk p10 66 13 (#[.int .i64 a1, .int .i64 t1]) (#[.int .i64 a1, .int .i64 t1]), Bk.mk p2 66 13 (#[.int .i64 0, .int .i64 0]) (#[.int .i64 0, .int .i64 0]), Bk.mk p3 67 13 (#[.bool false, .bool false]) (#[.bool false, .bool false])] := ⟨_, rfl⟩
      have ST : FBx w (w.heap.size) L (fun _ => false) (World.drew wy) := FBx.start B (by subst hL; exact List.forall_mem_cons.2 ⟨g6, List.forall_mem_cons.2 ⟨g7, List.forall_mem_cons.2 ⟨g10, List.forall_mem_cons.2 ⟨g2, List.forall_mem_cons.2 ⟨g3, fun _ h => by cases h⟩⟩⟩⟩⟩)
      have DP : Dep (FBx w (w.heap.size) L) [13, 15] := FBx.dep (by subst hL; simp)
      have kb2 := fun x : FXN (FBx w (w.heap.size) L) => FBx.cell (Bk.mk p10 66 13 (#[.int .i64 a1, .int .i64 t1]) (#[.int .i64 a1, .int .i64 t1])) (by subst hL; simp) rfl x
      dsimp only at kb2
      have kb3 := fun x : FXN (FBx w (w.heap.size) L) => FBx.cell (Bk.mk p2 66 13 (#[.int .i64 0, .int .i64 0]) (#[.int .i64 0, .int .i64 0])) (by subst hL; simp) rfl x
      dsimp only at kb3
      have kb4 := fun x : FXN (FBx w (w.heap.size) L) => FBx.cell (Bk.mk p3 67 13 (#[.bool false, .bool false]) (#[.bool false, .bool false])) (by subst hL; simp) rfl x
      dsimp only at kb4
      have S1 := FBx.stepRow (P := Try.prog) (w0 := w) (B := w.heap.size) (L := L) (k := 13) (Bk.mk p6 113 13 (fnd a0 t0 a1 t1 1) (fnd a0 t0 a1 t1 2)) (by subst hL; simp) hB6 rfl (q := 2) (cells := #[.int .i64 a1, .int .i64 t1]) (by simp [fnd, rgt]) (by simp [fnd, rgt]) (by simp [putL, fnd, rgt]) (by simp [putL, fnd, rgt]) (by subst hL; exact List.forall_mem_cons.2 ⟨.inl rfl, List.forall_mem_cons.2 ⟨.inr ⟨by show p7 ≠ p6; omega, .inl (by show (15 : Nat) ≠ 13; decide)⟩, List.forall_mem_cons.2 ⟨.inr ⟨by show p10 ≠ p6; omega, .inr rfl⟩, List.forall_mem_cons.2 ⟨.inr ⟨by show p2 ≠ p6; omega, .inr rfl⟩, List.forall_mem_cons.2 ⟨.inr ⟨by show p3 ≠ p6; omega, .inr rfl⟩, fun _ h => by cases h⟩⟩⟩⟩⟩) (ty := 66) (by kernel_rfl) (by simp [Value.oneCell'])
      dsimp only at S1
      have HS1 := Lib.hid S1; clear S1
      have S1 := FBx.step1 (P := Try.prog) (w0 := w) (B := w.heap.size) (L := L) (k := 15) (Bk.mk p7 67 15 (rgt b0 b1 1) (rgt b0 b1 2)) (by subst hL; simp) hB7 rfl (q := 1) (u := .bool b1) (u0 := .bool false) (u1 := .bool b1) rfl rfl (by simp [rgt, fnd]) (by simp [rgt, fnd]) (by subst hL; exact List.forall_mem_cons.2 ⟨.inr ⟨by show p6 ≠ p7; omega, .inl (by show (13 : Nat) ≠ 15; decide)⟩, List.forall_mem_cons.2 ⟨.inl rfl, List.forall_mem_cons.2 ⟨.inr ⟨by show p10 ≠ p7; omega, .inr rfl⟩, List.forall_mem_cons.2 ⟨.inr ⟨by show p2 ≠ p7; omega, .inr rfl⟩, List.forall_mem_cons.2 ⟨.inr ⟨by show p3 ≠ p7; omega, .inr rfl⟩, fun _ h => by cases h⟩⟩⟩⟩⟩) (ty := 4) (fun W u0 h1 h2 => store_bool (by kernel_rfl) W _ u0 _ h1 h2)
      dsimp only at S1
      have HS2 := Lib.hid S1; clear S1
      have HST := Lib.hid ST; clear ST; have HL := Lib.hid hL; clear hL
      haveI : Nonempty (FXN (FBx w (w.heap.size) L)) := ⟨⟨_, _, HST.out⟩⟩
      clear kb3 kb4 g2 g3 g6 g7 g10 B d2 d3 d6 d7
      rcases KK.out.2 with ⟨rfl, hq⟩ | ⟨hq, rfl⟩
      all_goals
        refine wp_region_N (FBx w (w.heap.size) L) [13, 15] DP (by kernel_rfl) (by kernel_rfl) (by kernel_rfl) HST.out ?_
        iterate 6 (refine wpN_read DP rfl (by decide) ?_; go_big_quiet_step (fail); refine wpQuiet_nil ?_)
        iterate 3 (first | (refine wpN_skip DP (by decide) rfl ?_; simp only [Act.put, List.setIfInBounds_toArray, List.set_cons_zero, List.set_cons_succ]) | (refine wpN_read DP rfl (by decide) ?_; go_big_quiet_step (fail); refine wpQuiet_nil ?_))
        first | (refine wpN_skip DP (by decide) rfl ?_; simp only [Act.put, List.setIfInBounds_toArray, List.set_cons_zero, List.set_cons_succ]) | (refine wpN_len DP rfl (by decide) rfl (fun W => l1 _ W) ?_; simp only [Act.put, List.setIfInBounds_toArray, List.set_cons_zero, List.set_cons_succ])
        iterate 1 (first | (refine wpN_skip DP (by decide) rfl ?_; simp only [Act.put, List.setIfInBounds_toArray, List.set_cons_zero, List.set_cons_succ]) | (refine wpN_read DP rfl (by decide) ?_; go_big_quiet_step (fail); refine wpQuiet_nil ?_))
        iterate 2 (refine wpN_read DP rfl (by decide) ?_; go_big_quiet_step (fail); refine wpQuiet_nil ?_)
        refine wpN_store DP 66 (.tmp 45) (.tmp 35) rfl rfl (p := .pointer (some ⟨p6, 2, none⟩)) (u := .agg #[.int .i64 a1, .int .i64 t1]) (by rfl) (by rfl) HS1.out ?_
        simp only [Act.put, List.setIfInBounds_toArray, List.set_cons_zero, List.set_cons_succ]
        iterate 1 (refine wpN_read DP rfl (by decide) ?_; go_big_quiet_step (fail); refine wpQuiet_nil ?_)
        refine wpN_store DP 4 (.tmp 46) (.tmp 44) rfl rfl (p := .pointer (some ⟨p7, 1, none⟩)) (u := _) (by rfl) (by rfl) HS2.out ?_
        simp only [Act.put, List.setIfInBounds_toArray, List.set_cons_zero, List.set_cons_succ]
        intro wz hd
        obtain ⟨B, hd⟩ := FBx.done hd
        rw [HL.out] at hd
        obtain ⟨g6, hd⟩ := List.forall_mem_cons.1 hd
        obtain ⟨g7, hd⟩ := List.forall_mem_cons.1 hd
        obtain ⟨g10, hd⟩ := List.forall_mem_cons.1 hd
        obtain ⟨g2, hd⟩ := List.forall_mem_cons.1 hd
        obtain ⟨g3, hd⟩ := List.forall_mem_cons.1 hd
        dsimp only at g6 g7 g10 g2 g3
        clear hd HST HL DP this
        have HH := Lib.hid (And.intro g2 (And.intro g3 (And.intro g6 (And.intro g7 B))))
        clear g2 g3 g6 g7 g10 B HS1 HS2
        go_wp2
        go_roundg (2 - 2)
        case measure => omega
        case rel => exact ⟨2, by omega, rfl, by go_num, HH⟩
    · obtain ⟨G2, G3, G6, G7, B⟩ := hh.out
      have g2 := G2; have g3 := G3; have g6 := G6; have g7 := G7
      have d2 := g2.lt; have d3 := g3.lt; have d6 := g6.lt; have d7 := g7.lt
      clear G2 G3 G6 G7 hh ix0 ix1 R0 R1 HV0 HV1 sl0 sl1
      cases b0
      · cases b1
        · obtain ⟨rfl, rfl, rfl⟩ := FF.out.2.2 rfl rfl
          have c7 : wr.cell? ⟨p7, 0, none⟩ = some (.bool false) := g7.cell 0; have c7b : wr.cell? ⟨p7, 1, none⟩ = some (.bool false) := g7.cell 1; have c2 := g2.cell; have f2 := g2.free; have c3 := g3.cell; have f3 := g3.free
          go_wp2
          refine bodyPost_ret (v := .tuple #[.agg #[.int .i64 0, .int .i64 0], .agg #[.bool false, .bool false], .int .i64 50]) (by simp [results, Try.results31, go_sem, c2, c3, f2, f3]) rfl ⟨rfl, ?_⟩
          (repeat (first | refine Below.setCell ?_ (by first | exact hB2 | exact hB3 | (simp <;> omega)) _)); exact B
        · obtain ⟨rfl, rfl, rfl⟩ := FF.out.2.1 rfl rfl
          have c7 : wr.cell? ⟨p7, 0, none⟩ = some (.bool false) := g7.cell 0; have c7b : wr.cell? ⟨p7, 1, none⟩ = some (.bool true) := g7.cell 1
          go_upto_region 15 with (fail)
          clear c7 c7b
          obtain ⟨L, hL⟩ : ∃ L, L = [Bk.mk p2 66 3 (#[.int .i64 0, .int .i64 0]) (#[.int .i64 W, .int .i64 T]), Bk.mk p3 67 4 (#[.bool false, .bool false]) (#[.bool false, .bool true]), Bk.mk p6 113 3 (#[.int .i64 a0, .int .i64 t0, .int .i64 W, .int .i64 T]) (#[.int .i64 a0, .int .i64 t0, .int .i64 W, .int .i64 T]), Bk.mk p7 67 3 (#[.bool false, .bool true]) (#[.bool false, .bool true])] := ⟨_, rfl⟩
          have ST : FBx w (w.heap.size) L (fun _ => false) (World.drew wr) := FBx.start B (by subst hL; exact List.forall_mem_cons.2 ⟨g2, List.forall_mem_cons.2 ⟨g3, List.forall_mem_cons.2 ⟨g6, List.forall_mem_cons.2 ⟨g7, fun _ h => by cases h⟩⟩⟩⟩)
          have DP : Dep (FBx w (w.heap.size) L) [3, 4] := FBx.dep (by subst hL; simp)
          have kb2 := fun x : FXN (FBx w (w.heap.size) L) => FBx.cell (Bk.mk p6 113 3 (#[.int .i64 a0, .int .i64 t0, .int .i64 W, .int .i64 T]) (#[.int .i64 a0, .int .i64 t0, .int .i64 W, .int .i64 T])) (by subst hL; simp) rfl x
          dsimp only at kb2
          have kb3 := fun x : FXN (FBx w (w.heap.size) L) => FBx.cell (Bk.mk p7 67 3 (#[.bool false, .bool true]) (#[.bool false, .bool true])) (by subst hL; simp) rfl x
          dsimp only at kb3
          have S1 := FBx.stepRow (P := Try.prog) (w0 := w) (B := w.heap.size) (L := L) (k := 3) (Bk.mk p2 66 3 (#[.int .i64 0, .int .i64 0]) (#[.int .i64 W, .int .i64 T])) (by subst hL; simp) hB2 rfl (q := 0) (cells := #[.int .i64 W, .int .i64 T]) (by simp [fnd, rgt]) (by simp [fnd, rgt]) (by simp [putL, fnd, rgt]) (by simp [putL, fnd, rgt]) (by subst hL; exact List.forall_mem_cons.2 ⟨.inl rfl, List.forall_mem_cons.2 ⟨.inr ⟨by show p3 ≠ p2; omega, .inl (by show (4 : Nat) ≠ 3; decide)⟩, List.forall_mem_cons.2 ⟨.inr ⟨by show p6 ≠ p2; omega, .inr rfl⟩, List.forall_mem_cons.2 ⟨.inr ⟨by show p7 ≠ p2; omega, .inr rfl⟩, fun _ h => by cases h⟩⟩⟩⟩) (ty := 66) (by kernel_rfl) (by simp [Value.oneCell'])
          dsimp only at S1
          have HS1 := Lib.hid S1; clear S1
          have S1 := FBx.stepRow (P := Try.prog) (w0 := w) (B := w.heap.size) (L := L) (k := 4) (Bk.mk p3 67 4 (#[.bool false, .bool false]) (#[.bool false, .bool true])) (by subst hL; simp) hB3 rfl (q := 0) (cells := #[.bool false, .bool true]) (by simp [fnd, rgt]) (by simp [fnd, rgt]) (by simp [putL, fnd, rgt]) (by simp [putL, fnd, rgt]) (by subst hL; exact List.forall_mem_cons.2 ⟨.inr ⟨by show p2 ≠ p3; omega, .inl (by show (3 : Nat) ≠ 4; decide)⟩, List.forall_mem_cons.2 ⟨.inl rfl, List.forall_mem_cons.2 ⟨.inr ⟨by show p6 ≠ p3; omega, .inr rfl⟩, List.forall_mem_cons.2 ⟨.inr ⟨by show p7 ≠ p3; omega, .inr rfl⟩, fun _ h => by cases h⟩⟩⟩⟩) (ty := 67) (by kernel_rfl) (by simp [Value.oneCell'])
          dsimp only at S1
          have HS2 := Lib.hid S1; clear S1
          have HST := Lib.hid ST; clear ST; have HL := Lib.hid hL; clear hL
          haveI : Nonempty (FXN (FBx w (w.heap.size) L)) := ⟨⟨_, _, HST.out⟩⟩
          clear g2 g3 g6 g7 B d2 d3 d6 d7
          refine wp_region_N (FBx w (w.heap.size) L) [3, 4] DP (by kernel_rfl) (by kernel_rfl) (by kernel_rfl) HST.out ?_
          iterate 3 (refine wpN_read DP rfl (by decide) ?_; go_big_quiet_step (fail); refine wpQuiet_nil ?_)
          refine wpN_store DP 66 (.tmp 2) (.tmp 58) rfl rfl (p := .pointer (some ⟨p2, 0, none⟩)) (u := _) (by rfl) (by rfl) HS1.out ?_
          simp only [Act.put, List.setIfInBounds_toArray, List.set_cons_zero, List.set_cons_succ]
          refine wpN_store DP 67 (.tmp 3) (.tmp 59) rfl rfl (p := .pointer (some ⟨p3, 0, none⟩)) (u := _) (by rfl) (by rfl) HS2.out ?_
          simp only [Act.put, List.setIfInBounds_toArray, List.set_cons_zero, List.set_cons_succ]
          iterate 1 (refine wpN_read DP rfl (by decide) ?_; go_big_quiet_step (fail); refine wpQuiet_nil ?_)
          intro wz hd
          obtain ⟨B, hd⟩ := FBx.done hd
          rw [HL.out] at hd
          obtain ⟨g2, hd⟩ := List.forall_mem_cons.1 hd
          obtain ⟨g3, hd⟩ := List.forall_mem_cons.1 hd
          obtain ⟨g6, hd⟩ := List.forall_mem_cons.1 hd
          obtain ⟨g7, hd⟩ := List.forall_mem_cons.1 hd
          dsimp only at g2 g3 g6 g7
          clear hd HST HL DP this
          have c2 := g2.cell; have f2 := g2.free; have c3 := g3.cell; have f3 := g3.free
          go_wp2
          refine bodyPost_ret (v := .tuple #[.agg #[.int .i64 W, .int .i64 T], .agg #[.bool false, .bool true], .int .i64 0]) (by simp [results, Try.results31, go_sem, c2, c3, f2, f3]) rfl ⟨rfl, B⟩
      · obtain ⟨rfl, rfl, rfl⟩ := FF.out.1 rfl
        have c7 : wr.cell? ⟨p7, 0, none⟩ = some (.bool true) := g7.cell 0
        go_upto_region 13 with (fail)
        clear c7
        obtain ⟨L, hL⟩ : ∃ L, L = [Bk.mk p2 66 3 (#[.int .i64 0, .int .i64 0]) (#[.int .i64 W, .int .i64 T]), Bk.mk p3 67 4 (#[.bool false, .bool false]) (#[.bool true, .bool b1]), Bk.mk p6 113 3 (#[.int .i64 W, .int .i64 T, .int .i64 a1, .int .i64 t1]) (#[.int .i64 W, .int .i64 T, .int .i64 a1, .int .i64 t1]), Bk.mk p7 67 3 (#[.bool true, .bool b1]) (#[.bool true, .bool b1])] := ⟨_, rfl⟩
        have ST : FBx w (w.heap.size) L (fun _ => false) (World.drew wr) := FBx.start B (by subst hL; exact List.forall_mem_cons.2 ⟨g2, List.forall_mem_cons.2 ⟨g3, List.forall_mem_cons.2 ⟨g6, List.forall_mem_cons.2 ⟨g7, fun _ h => by cases h⟩⟩⟩⟩)
        have DP : Dep (FBx w (w.heap.size) L) [3, 4] := FBx.dep (by subst hL; simp)
        have kb2 := fun x : FXN (FBx w (w.heap.size) L) => FBx.cell (Bk.mk p6 113 3 (#[.int .i64 W, .int .i64 T, .int .i64 a1, .int .i64 t1]) (#[.int .i64 W, .int .i64 T, .int .i64 a1, .int .i64 t1])) (by subst hL; simp) rfl x
        dsimp only at kb2
        have kb3 := fun x : FXN (FBx w (w.heap.size) L) => FBx.cell (Bk.mk p7 67 3 (#[.bool true, .bool b1]) (#[.bool true, .bool b1])) (by subst hL; simp) rfl x
        dsimp only at kb3
        have S1 := FBx.stepRow (P := Try.prog) (w0 := w) (B := w.heap.size) (L := L) (k := 3) (Bk.mk p2 66 3 (#[.int .i64 0, .int .i64 0]) (#[.int .i64 W, .int .i64 T])) (by subst hL; simp) hB2 rfl (q := 0) (cells := #[.int .i64 W, .int .i64 T]) (by simp [fnd, rgt]) (by simp [fnd, rgt]) (by simp [putL, fnd, rgt]) (by simp [putL, fnd, rgt]) (by subst hL; exact List.forall_mem_cons.2 ⟨.inl rfl, List.forall_mem_cons.2 ⟨.inr ⟨by show p3 ≠ p2; omega, .inl (by show (4 : Nat) ≠ 3; decide)⟩, List.forall_mem_cons.2 ⟨.inr ⟨by show p6 ≠ p2; omega, .inr rfl⟩, List.forall_mem_cons.2 ⟨.inr ⟨by show p7 ≠ p2; omega, .inr rfl⟩, fun _ h => by cases h⟩⟩⟩⟩) (ty := 66) (by kernel_rfl) (by simp [Value.oneCell'])
        dsimp only at S1
        have HS1 := Lib.hid S1; clear S1
        have S1 := FBx.stepRow (P := Try.prog) (w0 := w) (B := w.heap.size) (L := L) (k := 4) (Bk.mk p3 67 4 (#[.bool false, .bool false]) (#[.bool true, .bool b1])) (by subst hL; simp) hB3 rfl (q := 0) (cells := #[.bool true, .bool b1]) (by simp [fnd, rgt]) (by simp [fnd, rgt]) (by simp [putL, fnd, rgt]) (by simp [putL, fnd, rgt]) (by subst hL; exact List.forall_mem_cons.2 ⟨.inr ⟨by show p2 ≠ p3; omega, .inl (by show (3 : Nat) ≠ 4; decide)⟩, List.forall_mem_cons.2 ⟨.inl rfl, List.forall_mem_cons.2 ⟨.inr ⟨by show p6 ≠ p3; omega, .inr rfl⟩, List.forall_mem_cons.2 ⟨.inr ⟨by show p7 ≠ p3; omega, .inr rfl⟩, fun _ h => by cases h⟩⟩⟩⟩) (ty := 67) (by kernel_rfl) (by simp [Value.oneCell'])
        dsimp only at S1
        have HS2 := Lib.hid S1; clear S1
        have HST := Lib.hid ST; clear ST; have HL := Lib.hid hL; clear hL
        haveI : Nonempty (FXN (FBx w (w.heap.size) L)) := ⟨⟨_, _, HST.out⟩⟩
        clear g2 g3 g6 g7 B d2 d3 d6 d7
        refine wp_region_N (FBx w (w.heap.size) L) [3, 4] DP (by kernel_rfl) (by kernel_rfl) (by kernel_rfl) HST.out ?_
        iterate 3 (refine wpN_read DP rfl (by decide) ?_; go_big_quiet_step (fail); refine wpQuiet_nil ?_)
        refine wpN_store DP 66 (.tmp 2) (.tmp 52) rfl rfl (p := .pointer (some ⟨p2, 0, none⟩)) (u := _) (by rfl) (by rfl) HS1.out ?_
        simp only [Act.put, List.setIfInBounds_toArray, List.set_cons_zero, List.set_cons_succ]
        refine wpN_store DP 67 (.tmp 3) (.tmp 53) rfl rfl (p := .pointer (some ⟨p3, 0, none⟩)) (u := _) (by rfl) (by rfl) HS2.out ?_
        simp only [Act.put, List.setIfInBounds_toArray, List.set_cons_zero, List.set_cons_succ]
        iterate 1 (refine wpN_read DP rfl (by decide) ?_; go_big_quiet_step (fail); refine wpQuiet_nil ?_)
        intro wz hd
        obtain ⟨B, hd⟩ := FBx.done hd
        rw [HL.out] at hd
        obtain ⟨g2, hd⟩ := List.forall_mem_cons.1 hd
        obtain ⟨g3, hd⟩ := List.forall_mem_cons.1 hd
        obtain ⟨g6, hd⟩ := List.forall_mem_cons.1 hd
        obtain ⟨g7, hd⟩ := List.forall_mem_cons.1 hd
        dsimp only at g2 g3 g6 g7
        clear hd HST HL DP this
        have c2 := g2.cell; have f2 := g2.free; have c3 := g3.cell; have f3 := g3.free
        go_wp2
        refine bodyPost_ret (v := .tuple #[.agg #[.int .i64 W, .int .i64 T], .agg #[.bool true, .bool b1], .int .i64 0]) (by simp [results, Try.results31, go_sem, c2, c3, f2, f3]) rfl ⟨rfl, B⟩
end Go.Proofs.Ytmbokdnndlnjkaa
