/- Contracts of superblocks: reading. -/
import Derived.Test.YtcfohfphhpmmdaaC06
import Derived.Test.YtcfohfphhpmmdaaEq
set_option linter.unusedVariables false
set_option linter.unusedSimpArgs false
namespace Go.Proofs.Ytcfohfphhpmmdaa
open Go.RowKit L02 L05 L06

set_option maxHeartbeats 1000000 in
theorem Read6_bad (v : Value) (l : List UInt64) (w : World) (h : Words w v l) (hl : l.length ≠ 8) :
    Calls Try.prog 24 #[v] w fun e w' => e = .returned (.tuple #[supV 0 0, .int .i64 2]) ∧ Below w.heap.size w w' := by
  have l1 := Rd.len h Try.underlying22
  have hne : ((l.length : Int) != 8) = true := by simp; omega
  clear h hl
  go_enter Try.func24, Try.ntmps24
  go_wp2
  go_step3
  go_wp2
  try rw [Exit.noGoto_ret]
  refine bodyPost_ret (v := .tuple #[supV 0 0, .int .i64 2]) ?_ rfl ⟨rfl, ?_⟩
  · simp [results, Try.results24, go_sem, supV]
  · exact (Below.refl _ _).alloc (Nat.le_refl _) _

set_option maxHeartbeats 1000000 in
theorem Read6_eight (v : Value) (l : List UInt64) (w : World) (h : Words w v l) (hl : l.length = 8) :
    Calls Try.prog 24 #[v] w fun e w' => e = .returned (.tuple #[supV (rdW l) (rdT l), .int .i64 (if ReadOk l then 0 else 50)]) ∧ Below w.heap.size w w' := by
  match l, hl with
  | [x0, x1, x2, x3, x4, x5, x6, x7], _ =>
  obtain ⟨b, o, c, rfl, hb, hc, hcell⟩ := Rd.form h (by simp)
  have c0 := hcell 0 (.int .u64 x0.toNat) rfl
  have c1 := hcell 1 (.int .u64 x1.toNat) rfl
  have c2 := hcell 2 (.int .u64 x2.toNat) rfl
  have c3 := hcell 3 (.int .u64 x3.toNat) rfl
  have c4 := hcell 4 (.int .u64 x4.toNat) rfl
  have c5 := hcell 5 (.int .u64 x5.toNat) rfl
  have c6 := hcell 6 (.int .u64 x6.toNat) rfl
  have c7 := hcell 7 (.int .u64 x7.toNat) rfl
  simp only [Nat.add_zero] at c0
  clear h hcell
  go_enter Try.func24, Try.ntmps24
  go_wp2
  have ha : ∀ W, (Instr.arrayAt 73 (.slice (some ⟨b, o, none⟩) 8 c)).run Try.prog W = .ok (.pointer (some ⟨b, o, none⟩)) W := fun W => by simp [Instr.arrayAt, run_underlying Try.underlying73]
  go_step3
  go_wp2
  go_step3
  go_wp2
  obtain ⟨A, hA⟩ : ∃ A, A = (x2.toNat : Int) := ⟨_, rfl⟩
  obtain ⟨T, hT⟩ : ∃ T, T = (x3.toNat : Int) := ⟨_, rfl⟩
  have hA0 : 0 ≤ A := by omega
  have hT0 : 0 ≤ T := by omega
  rw [← hA, ← hT]
  have HA := Lib.hid hA; have HT := Lib.hid hT
  clear hA hT c0 c1 c2 c3 c4 c5 c6 c7 ha
  go_loop [6] (fun n => ∃ k : Int, 256 ≤ k ∧ k ≤ 2056 ∧ k % 8 = 0 ∧ n = .int .i64 k ∧ ¬ (256 ≤ A ∧ A < k ∧ A % 8 = 0 ∧ T ≤ 8)) (fun n => (2056 - intOf n).toNat)
  case atStart => exact ⟨256, by omega, by omega, by omega, rfl, by omega⟩
  case round =>
    obtain ⟨n, n1, n2, n3, rfl, n4⟩ := hrel
    have N3 := Lib.hid n3; have N4 := Lib.hid n4; clear n3 n4
    by_cases hlt : n ≤ 2048
    · by_cases hnA : n = A
      · subst hnA
        go_wp2
        go_loop [19] (fun t => ∃ j : Int, 0 ≤ j ∧ j ≤ 9 ∧ t = .int .i64 j ∧ ¬ T < j) (fun t => (9 - intOf t).toNat)
        case atStart => exact ⟨0, by omega, by omega, rfl, by omega⟩
        case round =>
          obtain ⟨t, t1, t2, rfl, t3⟩ := hrel
          by_cases htl : t < 9
          · by_cases htT : t = T
            · subst htT
              go_wp2
              refine wp_gen (fun W => W.heap[w.heap.size]? = some (.cells #[.int .i64 0, .int .i64 0] 26 (0, 0)) ∧ W.heap[w.heap.size + 1]? = some (.cells #[.int .i64 n, .int .i64 t] 26 (0, 0)) ∧
                W.heap[w.heap.size + 1 + 1]? = some (.cells #[.int .u64 x0.toNat, .int .u64 x1.toNat, .int .u64 n, .int .u64 t, .int .u64 x4.toNat, .int .u64 x5.toNat, .int .u64 x6.toNat, .int .u64 x7.toNat] 73 (0, 0)) ∧ Below w.heap.size w W ∧ w.heap.size + 3 ≤ W.heap.size)
                ⟨by simp only [alloc_heap, Array.getElem?_push, Array.size_push]; simp <;> omega, by simp only [alloc_heap, Array.getElem?_push, Array.size_push]; simp <;> omega, by simp only [alloc_heap, Array.getElem?_push, Array.size_push]; simp <;> omega, (((Below.refl _ w).alloc (Nat.le_refl _) _).alloc (by simp) _).alloc (by simp; omega) _, by simp⟩ ?_
              rintro w1 ⟨g0, g1, g2, B, hz⟩
              have c0 := blk_cell g0; have c1 := blk_cell g1; have c2 := blk_cell g2; have f0 := blk_free g0
              have HB := Lib.hid B; clear B
              have s0 : w1.cell? ⟨w.heap.size + 1, 0, none⟩ = some (.int .i64 n) := c1 0
              have s1 : w1.cell? ⟨w.heap.size + 1, 1, none⟩ = some (.int .i64 t) := c1 1
              have a0 : w1.cell? ⟨w.heap.size + 1 + 1, 0, none⟩ = some (.int .u64 x0.toNat) := c2 0
              have a1 : w1.cell? ⟨w.heap.size + 1 + 1, 1, none⟩ = some (.int .u64 x1.toNat) := c2 1
              have a2 : w1.cell? ⟨w.heap.size + 1 + 1, 2, none⟩ = some (.int .u64 n) := c2 2
              have a3 : w1.cell? ⟨w.heap.size + 1 + 1, 3, none⟩ = some (.int .u64 t) := c2 3
              have a4 : w1.cell? ⟨w.heap.size + 1 + 1, 4, none⟩ = some (.int .u64 x4.toNat) := c2 4
              have a5 : w1.cell? ⟨w.heap.size + 1 + 1, 5, none⟩ = some (.int .u64 x5.toNat) := c2 5
              have a6 : w1.cell? ⟨w.heap.size + 1 + 1, 6, none⟩ = some (.int .u64 x6.toNat) := c2 6
              have a7 : w1.cell? ⟨w.heap.size + 1 + 1, 7, none⟩ = some (.int .u64 x7.toNat) := c2 7
              have G0 := Lib.hid g0; have G1 := Lib.hid g1; have G2 := Lib.hid g2; have HT0 := Lib.hid t3
              have hok : SupOk n t := ⟨⟨n1, hlt, N3.out⟩, t1, by omega⟩
              have HOK := Lib.hid hok
              have hcmp := fun W => run_neq_words (P := Try.prog) (n := 8) Try.underlying73 (by kernel_rfl) Try.underlying50 (by kernel_rfl) (fun X j u W h => run_part_plain W (by kernel_rfl) h) (wordsOf n t) [x0, x1, x2, x3, x4, x5, x6, x7] rfl rfl W
              have e1 : (List.map u64 [x0, x1, x2, x3, x4, x5, x6, x7]).toArray = #[.int .u64 x0.toNat, .int .u64 x1.toNat, .int .u64 n, .int .u64 t, .int .u64 x4.toNat, .int .u64 x5.toNat, .int .u64 x6.toNat, .int .u64 x7.toNat] := by rw [HA.out, HT.out]; rfl
              rw [e1] at hcmp
              obtain ⟨V, hV⟩ : ∃ V, V = (List.map u64 (wordsOf n t)).toArray := ⟨_, rfl⟩
              rw [← hV] at hcmp
              have HV := Lib.hid hV
              have hz0 : (n == 0) = false := by rw [beq_eq_false_iff_ne]; omega
              have heql : ∀ W, (binOp .eql 26 (.agg #[.int .i64 n, .int .i64 t]) (.agg #[.int .i64 0, .int .i64 0])).run Try.prog W = .ok (.bool false) W := by
                intro W
                simp [go_sem, hz0]
              clear g0 g1 g2 c1 c2 t3 hok e1 hV hz0
              obtain ⟨dB, hdB⟩ : ∃ dB, dB = decide (wordsOf n t = [x0, x1, x2, x3, x4, x5, x6, x7]) := ⟨_, rfl⟩
              rw [← hdB] at hcmp
              have HDB := Lib.hid hdB; clear hdB
              have hat : at2 [x0, x1, x2, x3, x4, x5, x6, x7] = n ∧ at3 [x0, x1, x2, x3, x4, x5, x6, x7] = t := ⟨HA.out.symm, HT.out.symm⟩
              have HAT := Lib.hid hat; clear hat
              have k3 : ∀ (W : World), Below w1.heap.size w1 W → W.heap[w.heap.size]? = some (.cells #[.int .i64 0, .int .i64 0] 26 (0, 0)) := fun W b => blk_below G0.out b
              have K3 := Lib.hid k3; clear k3
              cases dB
              all_goals
                go_region_held3 (fun w' => w'.cell? ⟨w.heap.size + 1, 0, none⟩ = some (.int .i64 n) ∧ w'.cell? ⟨w.heap.size + 1, 1, none⟩ = some (.int .i64 t) ∧ w'.cell? ⟨w.heap.size + 1 + 1, 0, none⟩ = some (.int .u64 x0.toNat) ∧ w'.cell? ⟨w.heap.size + 1 + 1, 1, none⟩ = some (.int .u64 x1.toNat) ∧ w'.cell? ⟨w.heap.size + 1 + 1, 2, none⟩ = some (.int .u64 n) ∧ w'.cell? ⟨w.heap.size + 1 + 1, 3, none⟩ = some (.int .u64 t) ∧ w'.cell? ⟨w.heap.size + 1 + 1, 4, none⟩ = some (.int .u64 x4.toNat) ∧ w'.cell? ⟨w.heap.size + 1 + 1, 5, none⟩ = some (.int .u64 x5.toNat) ∧ w'.cell? ⟨w.heap.size + 1 + 1, 6, none⟩ = some (.int .u64 x6.toNat) ∧ w'.cell? ⟨w.heap.size + 1 + 1, 7, none⟩ = some (.int .u64 x7.toNat))
                  (first | exact ⟨s0, s1, a0, a1, a2, a3, a4, a5, a6, a7⟩ | exact ⟨(k2 _ _ (by omega)).trans s0, (k2 _ _ (by omega)).trans s1, (k2 _ _ (by omega)).trans a0, (k2 _ _ (by omega)).trans a1, (k2 _ _ (by omega)).trans a2, (k2 _ _ (by omega)).trans a3, (k2 _ _ (by omega)).trans a4, (k2 _ _ (by omega)).trans a5, (k2 _ _ (by omega)).trans a6, (k2 _ _ (by omega)).trans a7⟩)
                  (first | (go_at_call 37; refine (words_any n t _ HOK.out).mono ?_; rw [show arr8 (wordsOf n t) = .agg V by rw [HV.out]; rfl]; rintro e w2 ⟨rfl, b2⟩; have k2 : ∀ (g q : Nat), g < w1.heap.size → w2.cell? ⟨g, q, none⟩ = w1.cell? ⟨g, q, none⟩ := fun g q hg => b2.cell (p := ⟨g, q, none⟩) hg))
                have b3 := (below_drewN (Below.refl w1.heap.size w1) 1).trans b2
                have z0 := blk_cell (K3.out _ b3); have zf := blk_free (K3.out _ b3); have z1 := blk_cell (blk_below G1.out b3)
                have HB2 := Lib.hid b3
                clear k2 b2 b3
                go_wp2
                try rw [Exit.noGoto_ret]
              · have hno : ¬ ReadOk [x0, x1, x2, x3, x4, x5, x6, x7] := by
                  rintro ⟨_, h2⟩
                  rw [HAT.out.1, HAT.out.2] at h2
                  exact absurd h2.symm (of_decide_eq_false HDB.out.symm)
                refine bodyPost_ret (v := .tuple #[supV 0 0, .int .i64 50]) ?_ rfl ⟨?_, ?_⟩
                · simp [results, Try.results24, go_sem, supV, z0, zf]
                · rw [if_neg hno, (rd_no hno).1, (rd_no hno).2]
                · exact ((HB.out.trans (HB2.out.mono HB.out.size)).setCell (Nat.le_refl _) _).setCell (Nat.le_refl _) _
              · have hyes : ReadOk [x0, x1, x2, x3, x4, x5, x6, x7] := by
                  unfold ReadOk
                  rw [HAT.out.1, HAT.out.2]
                  exact ⟨HOK.out, (of_decide_eq_true HDB.out.symm).symm⟩
                refine bodyPost_ret (v := .tuple #[supV n t, .int .i64 0]) ?_ rfl ⟨?_, ?_⟩
                · simp [results, Try.results24, go_sem, supV, z0, zf]
                · rw [if_pos hyes, rdW, if_pos hyes, rdT, if_pos hyes, HAT.out.1, HAT.out.2]
                · exact ((HB.out.trans (HB2.out.mono HB.out.size)).setCell (Nat.le_refl _) _).setCell (Nat.le_refl _) _
            · have hne : (t == T) = false := by rw [beq_eq_false_iff_ne]; exact htT
              go_wp2
              go_round
              case rel => exact ⟨t + 1, by omega, by omega, rfl, by omega⟩
              case measure => simp [intOf]; omega
          · go_wp2
            go_round
            case rel => exact ⟨n + 8, by omega, by omega, by have := N3.out; omega, rfl, by omega⟩
            case measure => simp [intOf]; omega
      · have hne : (n == A) = false := by rw [beq_eq_false_iff_ne]; exact hnA
        go_wp2
        go_loop [19] (fun t => ∃ j : Int, 0 ≤ j ∧ j ≤ 9 ∧ t = .int .i64 j) (fun t => (9 - intOf t).toNat)
        case atStart => exact ⟨0, by omega, by omega, rfl⟩
        case round =>
          obtain ⟨t, t1, t2, rfl⟩ := hrel
          by_cases htl : t < 9
          · go_wp2
            go_round
            case rel => exact ⟨t + 1, by omega, by omega, rfl⟩
            case measure => simp [intOf]; omega
          · go_wp2
            go_round
            case rel => exact ⟨n + 8, by omega, by omega, by have := N3.out; omega, rfl, by have := N3.out; have := N4.out; omega⟩
            case measure => simp [intOf]; omega
    · go_wp2
      refine wp_gen (fun W => W.heap[w.heap.size]? = some (.cells #[.int .i64 0, .int .i64 0] 26 (0, 0)) ∧ W.heap[w.heap.size + 1]? = some (.cells #[.int .i64 0, .int .i64 0] 26 (0, 0)) ∧
        W.heap[w.heap.size + 1 + 1]? = some (.cells #[.int .u64 x0.toNat, .int .u64 x1.toNat, .int .u64 A, .int .u64 T, .int .u64 x4.toNat, .int .u64 x5.toNat, .int .u64 x6.toNat, .int .u64 x7.toNat] 73 (0, 0)) ∧ Below w.heap.size w W ∧ w.heap.size + 3 ≤ W.heap.size)
        ⟨by simp only [alloc_heap, Array.getElem?_push, Array.size_push]; simp <;> omega, by simp only [alloc_heap, Array.getElem?_push, Array.size_push]; simp <;> omega, by simp only [alloc_heap, Array.getElem?_push, Array.size_push]; simp <;> omega, (((Below.refl _ w).alloc (Nat.le_refl _) _).alloc (by simp) _).alloc (by simp; omega) _, by simp⟩ ?_
      rintro w1 ⟨g0, g1, g2, B, hz⟩
      have c0 := blk_cell g0; have c1 := blk_cell g1; have c2 := blk_cell g2; have f0 := blk_free g0
      have HB := Lib.hid B; clear B
      have G0 := Lib.hid g0; clear g0 g1 g2
      go_big_quiet (fail)
      go_wp2
      try rw [Exit.noGoto_ret]
      have hno : ¬ ReadOk [x0, x1, x2, x3, x4, x5, x6, x7] := by
        rintro ⟨⟨⟨h1, h2, h3⟩, h4, h5⟩, _⟩
        have h6 : at2 [x0, x1, x2, x3, x4, x5, x6, x7] = A := HA.out.symm
        have h7 : at3 [x0, x1, x2, x3, x4, x5, x6, x7] = T := HT.out.symm
        rw [h6] at h1 h2 h3
        rw [h7] at h4 h5
        exact N4.out ⟨h1, by omega, h3, h5⟩
      refine bodyPost_ret (v := .tuple #[supV 0 0, .int .i64 50]) ?_ rfl ⟨?_, ?_⟩
      · simp [results, Try.results24, go_sem, supV, c0, f0]
      · rw [if_neg hno, (rd_no hno).1, (rd_no hno).2]
      · exact ((below_drewN HB.out _).setCell (Nat.le_refl _) _).setCell (Nat.le_refl _) _

theorem Read6_any (v : Value) (l : List UInt64) (w : World) (h : Words w v l) :
    Calls Try.prog 24 #[v] w fun e w' => e = .returned (.tuple #[supV (rdW l) (rdT l), .int .i64 (rdErr l)]) ∧ Below w.heap.size w w' := by
  by_cases hl : l.length = 8
  · rw [rdErr, if_pos hl]; exact Read6_eight v l w h hl
  · have hno : ¬ ReadOk l := fun hr => hl (readOk_len hr)
    rw [rdErr, if_neg hl, (rd_no hno).1, (rd_no hno).2]; exact Read6_bad v l w h hl
end Go.Proofs.Ytcfohfphhpmmdaa
