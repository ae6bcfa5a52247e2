/- Contracts of the functions that the laws 'N' reach, part 6. No condition. -/
import Derived.Test.YtodbbacmdjcheaaMNd
set_option linter.unusedVariables false
set_option linter.unusedSimpArgs false
namespace Go.Proofs.Ytodbbacmdjcheaa
open Go.RowKit L02 L05 L06
set_option maxHeartbeats 1000000 in
theorem Read6_bad (v : Value) (l : List UInt64) (w : World) (h : Words w v l) (hl : l.length ≠ 8) :
    Calls Try.prog 69 #[v] w fun e w' => e = .returned (.tuple #[supV 0 0, .int .i64 2]) ∧ Below w.heap.size w w' := by
  have l1 := Rd.len h Try.underlying25
  have hne : ((l.length : Int) != 8) = true := by simp; omega
  clear h hl
  go_enter Try.func69, Try.ntmps69
  go_wp2
  go_step3
  go_wp2
  try rw [Exit.noGoto_ret]
  refine bodyPost_ret (v := .tuple #[supV 0 0, .int .i64 2]) ?_ rfl ⟨rfl, ?_⟩
  · simp [results, Try.results69, go_sem, supV]
  · exact (Below.refl _ _).alloc (Nat.le_refl _) _
set_option maxHeartbeats 1000000 in
theorem Read6_eight (v : Value) (l : List UInt64) (w : World) (h : Words w v l) (hl : l.length = 8) :
    Calls Try.prog 69 #[v] w fun e w' => e = .returned (.tuple #[supV (rdW l) (rdT l), .int .i64 (if ReadOk l then 0 else 50)]) ∧ Below w.heap.size w w' := by
  match l, hl with
  | [x0, x1, x2, x3, x4, x5, x6, x7], _ =>
  obtain ⟨b, o, c, rfl, hb, hc, hcell⟩ := Rd.form h (by simp)
  have c0 := hcell 0 (.int .u64 x0.toNat) rfl
  have c1 := hcell 1 (.int .u64 x1.toNat) rfl
  have c2 := hcell 2 (.int .u64 x2.toNat) rfl
  have c3 := hcell 3 (.int .u64 x3.toNat) rfl
  have c4 := hcell 4 (.int .u64 x4.toNat) rfl
  have c5 := hcell 5 (.int .u64 x5.toNat) rfl
  have c6 := hcell 6 (.int .u64 x6.toNat) rfl
  have c7 := hcell 7 (.int .u64 x7.toNat) rfl
  simp only [Nat.add_zero] at c0
  clear h hcell
  go_enter Try.func69, Try.ntmps69
  go_wp2
  have ha : ∀ W, (Instr.arrayAt 125 (.slice (some ⟨b, o, none⟩) 8 c)).run Try.prog W = .ok (.pointer (some ⟨b, o, none⟩)) W := fun W => by simp [Instr.arrayAt, run_underlying Try.underlying125]
  go_step3
  go_wp2
  go_step3
  go_wp2
  obtain ⟨A, hA⟩ : ∃ A, A = (x2.toNat : Int) := ⟨_, rfl⟩
  obtain ⟨T, hT⟩ : ∃ T, T = (x3.toNat : Int) := ⟨_, rfl⟩
  have hA0 : 0 ≤ A := by omega
  have hT0 : 0 ≤ T := by omega
  rw [← hA, ← hT]
  have HA := Lib.hid hA; have HT := Lib.hid hT
  clear hA hT c0 c1 c2 c3 c4 c5 c6 c7 ha
  go_loop [6] (fun n => ∃ k : Int, 256 ≤ k ∧ k ≤ 2056 ∧ k % 8 = 0 ∧ n = .int .i64 k ∧ ¬ (256 ≤ A ∧ A < k ∧ A % 8 = 0 ∧ T ≤ 8)) (fun n => (2056 - intOf n).toNat)
  case atStart => exact ⟨256, by omega, by omega, by omega, rfl, by omega⟩
  case round =>
    obtain ⟨n, n1, n2, n3, rfl, n4⟩ := hrel
    have N3 := Lib.hid n3; have N4 := Lib.hid n4; clear n3 n4
    by_cases hlt : n ≤ 2048
    · by_cases hnA : n = A
      · subst hnA
        go_wp2
        go_loop [19] (fun t => ∃ j : Int, 0 ≤ j ∧ j ≤ 9 ∧ t = .int .i64 j ∧ ¬ T < j) (fun t => (9 - intOf t).toNat)
        case atStart => exact ⟨0, by omega, by omega, rfl, by omega⟩
        case round =>
          obtain ⟨t, t1, t2, rfl, t3⟩ := hrel
          by_cases htl : t < 9
          · by_cases htT : t = T
            · subst htT
              go_wp2
              refine wp_gen (fun W => W.heap[w.heap.size]? = some (.cells #[.int .i64 0, .int .i64 0] 80 (0, 0)) ∧ W.heap[w.heap.size + 1]? = some (.cells #[.int .i64 n, .int .i64 t] 80 (0, 0)) ∧
                W.heap[w.heap.size + 1 + 1]? = some (.cells #[.int .u64 x0.toNat, .int .u64 x1.toNat, .int .u64 n, .int .u64 t, .int .u64 x4.toNat, .int .u64 x5.toNat, .int .u64 x6.toNat, .int .u64 x7.toNat] 125 (0, 0)) ∧ Below w.heap.size w W ∧ w.heap.size + 3 ≤ W.heap.size)
                ⟨by simp only [alloc_heap, Array.getElem?_push, Array.size_push]; simp <;> omega, by simp only [alloc_heap, Array.getElem?_push, Array.size_push]; simp <;> omega, by simp only [alloc_heap, Array.getElem?_push, Array.size_push]; simp <;> omega, (((Below.refl _ w).alloc (Nat.le_refl _) _).alloc (by simp) _).alloc (by simp; omega) _, by simp⟩ ?_
              rintro w1 ⟨g0, g1, g2, B, hz⟩
              have c0 := blk_cell g0; have c1 := blk_cell g1; have c2 := blk_cell g2; have f0 := blk_free g0
              have HB := Lib.hid B; clear B
              have s0 : w1.cell? ⟨w.heap.size + 1, 0, none⟩ = some (.int .i64 n) := c1 0
              have s1 : w1.cell? ⟨w.heap.size + 1, 1, none⟩ = some (.int .i64 t) := c1 1
              have a0 : w1.cell? ⟨w.heap.size + 1 + 1, 0, none⟩ = some (.int .u64 x0.toNat) := c2 0
              have a1 : w1.cell? ⟨w.heap.size + 1 + 1, 1, none⟩ = some (.int .u64 x1.toNat) := c2 1
              have a2 : w1.cell? ⟨w.heap.size + 1 + 1, 2, none⟩ = some (.int .u64 n) := c2 2
              have a3 : w1.cell? ⟨w.heap.size + 1 + 1, 3, none⟩ = some (.int .u64 t) := c2 3
              have a4 : w1.cell? ⟨w.heap.size + 1 + 1, 4, none⟩ = some (.int .u64 x4.toNat) := c2 4
              have a5 : w1.cell? ⟨w.heap.size + 1 + 1, 5, none⟩ = some (.int .u64 x5.toNat) := c2 5
              have a6 : w1.cell? ⟨w.heap.size + 1 + 1, 6, none⟩ = some (.int .u64 x6.toNat) := c2 6
              have a7 : w1.cell? ⟨w.heap.size + 1 + 1, 7, none⟩ = some (.int .u64 x7.toNat) := c2 7
              have G0 := Lib.hid g0; have G1 := Lib.hid g1; have G2 := Lib.hid g2; have HT0 := Lib.hid t3
              have hok : SupOk n t := ⟨⟨n1, hlt, N3.out⟩, t1, by omega⟩
              have HOK := Lib.hid hok
              have hcmp := fun W => run_neq_words (P := Try.prog) (n := 8) Try.underlying125 (by kernel_rfl) Try.underlying64 (by kernel_rfl) (fun X j u W h => run_part_plain W (by kernel_rfl) h) (wordsOf n t) [x0, x1, x2, x3, x4, x5, x6, x7] rfl rfl W
              have e1 : (List.map u64 [x0, x1, x2, x3, x4, x5, x6, x7]).toArray = #[.int .u64 x0.toNat, .int .u64 x1.toNat, .int .u64 n, .int .u64 t, .int .u64 x4.toNat, .int .u64 x5.toNat, .int .u64 x6.toNat, .int .u64 x7.toNat] := by rw [HA.out, HT.out]; rfl
              rw [e1] at hcmp
              obtain ⟨V, hV⟩ : ∃ V, V = (List.map u64 (wordsOf n t)).toArray := ⟨_, rfl⟩
              rw [← hV] at hcmp
              have HV := Lib.hid hV
              have hz0 : (n == 0) = false := by rw [beq_eq_false_iff_ne]; omega
              have heql : ∀ W, (binOp .eql 80 (.agg #[.int .i64 n, .int .i64 t]) (.agg #[.int .i64 0, .int .i64 0])).run Try.prog W = .ok (.bool false) W := by
                intro W
                simp [go_sem, hz0]
              clear g0 g1 g2 c1 c2 t3 hok e1 hV hz0
              obtain ⟨dB, hdB⟩ : ∃ dB, dB = decide (wordsOf n t = [x0, x1, x2, x3, x4, x5, x6, x7]) := ⟨_, rfl⟩
              rw [← hdB] at hcmp
              have HDB := Lib.hid hdB; clear hdB
              have hat : at2 [x0, x1, x2, x3, x4, x5, x6, x7] = n ∧ at3 [x0, x1, x2, x3, x4, x5, x6, x7] = t := ⟨HA.out.symm, HT.out.symm⟩
              have HAT := Lib.hid hat; clear hat
              have k3 : ∀ (W : World), Below w1.heap.size w1 W → W.heap[w.heap.size]? = some (.cells #[.int .i64 0, .int .i64 0] 80 (0, 0)) := fun W b => blk_below G0.out b
              have K3 := Lib.hid k3; clear k3
              cases dB
              all_goals
                go_region_held3 (fun w' => w'.cell? ⟨w.heap.size + 1, 0, none⟩ = some (.int .i64 n) ∧ w'.cell? ⟨w.heap.size + 1, 1, none⟩ = some (.int .i64 t) ∧ w'.cell? ⟨w.heap.size + 1 + 1, 0, none⟩ = some (.int .u64 x0.toNat) ∧ w'.cell? ⟨w.heap.size + 1 + 1, 1, none⟩ = some (.int .u64 x1.toNat) ∧ w'.cell? ⟨w.heap.size + 1 + 1, 2, none⟩ = some (.int .u64 n) ∧ w'.cell? ⟨w.heap.size + 1 + 1, 3, none⟩ = some (.int .u64 t) ∧ w'.cell? ⟨w.heap.size + 1 + 1, 4, none⟩ = some (.int .u64 x4.toNat) ∧ w'.cell? ⟨w.heap.size + 1 + 1, 5, none⟩ = some (.int .u64 x5.toNat) ∧ w'.cell? ⟨w.heap.size + 1 + 1, 6, none⟩ = some (.int .u64 x6.toNat) ∧ w'.cell? ⟨w.heap.size + 1 + 1, 7, none⟩ = some (.int .u64 x7.toNat))
                  (first | exact ⟨s0, s1, a0, a1, a2, a3, a4, a5, a6, a7⟩ | exact ⟨(k2 _ _ (by omega)).trans s0, (k2 _ _ (by omega)).trans s1, (k2 _ _ (by omega)).trans a0, (k2 _ _ (by omega)).trans a1, (k2 _ _ (by omega)).trans a2, (k2 _ _ (by omega)).trans a3, (k2 _ _ (by omega)).trans a4, (k2 _ _ (by omega)).trans a5, (k2 _ _ (by omega)).trans a6, (k2 _ _ (by omega)).trans a7⟩)
                  (first | (go_at_call 56; refine (words_any n t _ HOK.out).mono ?_; rw [show arr8 (wordsOf n t) = .agg V by rw [HV.out]; rfl]; rintro e w2 ⟨rfl, b2⟩; have k2 : ∀ (g q : Nat), g < w1.heap.size → w2.cell? ⟨g, q, none⟩ = w1.cell? ⟨g, q, none⟩ := fun g q hg => b2.cell (p := ⟨g, q, none⟩) hg))
                have b3 := (below_drewN (Below.refl w1.heap.size w1) 1).trans b2
                have z0 := blk_cell (K3.out _ b3); have zf := blk_free (K3.out _ b3); have z1 := blk_cell (blk_below G1.out b3)
                have HB2 := Lib.hid b3
                clear k2 b2 b3
                go_wp2
                try rw [Exit.noGoto_ret]
              · have hno : ¬ ReadOk [x0, x1, x2, x3, x4, x5, x6, x7] := by
                  rintro ⟨_, h2⟩
                  rw [HAT.out.1, HAT.out.2] at h2
                  exact absurd h2.symm (of_decide_eq_false HDB.out.symm)
                refine bodyPost_ret (v := .tuple #[supV 0 0, .int .i64 50]) ?_ rfl ⟨?_, ?_⟩
                · simp [results, Try.results69, go_sem, supV, z0, zf]
                · rw [if_neg hno, (rd_no hno).1, (rd_no hno).2]
                · exact ((HB.out.trans (HB2.out.mono HB.out.size)).setCell (Nat.le_refl _) _).setCell (Nat.le_refl _) _
              · have hyes : ReadOk [x0, x1, x2, x3, x4, x5, x6, x7] := by
                  unfold ReadOk
                  rw [HAT.out.1, HAT.out.2]
                  exact ⟨HOK.out, (of_decide_eq_true HDB.out.symm).symm⟩
                refine bodyPost_ret (v := .tuple #[supV n t, .int .i64 0]) ?_ rfl ⟨?_, ?_⟩
                · simp [results, Try.results69, go_sem, supV, z0, zf]
                · rw [if_pos hyes, rdW, if_pos hyes, rdT, if_pos hyes, HAT.out.1, HAT.out.2]
                · exact ((HB.out.trans (HB2.out.mono HB.out.size)).setCell (Nat.le_refl _) _).setCell (Nat.le_refl _) _
            · have hne : (t == T) = false := by rw [beq_eq_false_iff_ne]; exact htT
              go_wp2
              go_round
              case rel => exact ⟨t + 1, by omega, by omega, rfl, by omega⟩
              case measure => simp [intOf]; omega
          · go_wp2
            go_round
            case rel => exact ⟨n + 8, by omega, by omega, by have := N3.out; omega, rfl, by omega⟩
            case measure => simp [intOf]; omega
      · have hne : (n == A) = false := by rw [beq_eq_false_iff_ne]; exact hnA
        go_wp2
        go_loop [19] (fun t => ∃ j : Int, 0 ≤ j ∧ j ≤ 9 ∧ t = .int .i64 j) (fun t => (9 - intOf t).toNat)
        case atStart => exact ⟨0, by omega, by omega, rfl⟩
        case round =>
          obtain ⟨t, t1, t2, rfl⟩ := hrel
          by_cases htl : t < 9
          · go_wp2
            go_round
            case rel => exact ⟨t + 1, by omega, by omega, rfl⟩
            case measure => simp [intOf]; omega
          · go_wp2
            go_round
            case rel => exact ⟨n + 8, by omega, by omega, by have := N3.out; omega, rfl, by have := N3.out; have := N4.out; omega⟩
            case measure => simp [intOf]; omega
    · go_wp2
      refine wp_gen (fun W => W.heap[w.heap.size]? = some (.cells #[.int .i64 0, .int .i64 0] 80 (0, 0)) ∧ W.heap[w.heap.size + 1]? = some (.cells #[.int .i64 0, .int .i64 0] 80 (0, 0)) ∧
        W.heap[w.heap.size + 1 + 1]? = some (.cells #[.int .u64 x0.toNat, .int .u64 x1.toNat, .int .u64 A, .int .u64 T, .int .u64 x4.toNat, .int .u64 x5.toNat, .int .u64 x6.toNat, .int .u64 x7.toNat] 125 (0, 0)) ∧ Below w.heap.size w W ∧ w.heap.size + 3 ≤ W.heap.size)
        ⟨by simp only [alloc_heap, Array.getElem?_push, Array.size_push]; simp <;> omega, by simp only [alloc_heap, Array.getElem?_push, Array.size_push]; simp <;> omega, by simp only [alloc_heap, Array.getElem?_push, Array.size_push]; simp <;> omega, (((Below.refl _ w).alloc (Nat.le_refl _) _).alloc (by simp) _).alloc (by simp; omega) _, by simp⟩ ?_
      rintro w1 ⟨g0, g1, g2, B, hz⟩
      have c0 := blk_cell g0; have c1 := blk_cell g1; have c2 := blk_cell g2; have f0 := blk_free g0
      have HB := Lib.hid B; clear B
      have G0 := Lib.hid g0; clear g0 g1 g2
      go_big_quiet (fail)
      go_wp2
      try rw [Exit.noGoto_ret]
      have hno : ¬ ReadOk [x0, x1, x2, x3, x4, x5, x6, x7] := by
        rintro ⟨⟨⟨h1, h2, h3⟩, h4, h5⟩, _⟩
        have h6 : at2 [x0, x1, x2, x3, x4, x5, x6, x7] = A := HA.out.symm
        have h7 : at3 [x0, x1, x2, x3, x4, x5, x6, x7] = T := HT.out.symm
        rw [h6] at h1 h2 h3
        rw [h7] at h4 h5
        exact N4.out ⟨h1, by omega, h3, h5⟩
      refine bodyPost_ret (v := .tuple #[supV 0 0, .int .i64 50]) ?_ rfl ⟨?_, ?_⟩
      · simp [results, Try.results69, go_sem, supV, c0, f0]
      · rw [if_neg hno, (rd_no hno).1, (rd_no hno).2]
      · exact ((below_drewN HB.out _).setCell (Nat.le_refl _) _).setCell (Nat.le_refl _) _
theorem Read6_any (v : Value) (l : List UInt64) (w : World) (h : Words w v l) :
    Calls Try.prog 69 #[v] w fun e w' => e = .returned (.tuple #[supV (rdW l) (rdT l), .int .i64 (rdErr l)]) ∧ Below w.heap.size w w' := by
  by_cases hl : l.length = 8
  · rw [rdErr, if_pos hl]; exact Read6_eight v l w h hl
  · have hno : ¬ ReadOk l := fun hr => hl (readOk_len hr)
    rw [rdErr, if_neg hl, (rd_no hno).1, (rd_no hno).2]; exact Read6_bad v l w h hl
end Go.Proofs.Ytodbbacmdjcheaa
namespace Go.Proofs.Ytodbbacmdjcheaa
open Go.RowKit L02 L05 L06
end Go.Proofs.Ytodbbacmdjcheaa
namespace Go.Proofs.Ytodbbacmdjcheaa
open Go Go.RowKit
section
variable {P : Program} {ops : Array Oper} {md : Region.Mode} {C : Array Bool → World → Prop}
def uponF (P : Program) (Post : World → Prop) (v : Value) : Result Next → Prop
  | .ok (.value u) w' => u = v ∧ Post w'
  | .ok .skip w' => v = undef ∧ Post w'
  | .ok (.enter f args) w' => Calls P f args w' (fun e w'' => e = .returned v ∧ Post w'')
  | _ => False
def YieldsF (P : Program) (md : Region.Mode) (ops : Array Oper) (C : Array Bool → World → Prop) (i : Nat) (o : Oper) (v : Value) (a : Act) : Prop :=
  (Region.wanted o (yielded ops a.tmps) = true ∧ ∀ listed w, i ∈ Region.ready md ops listed → C listed w → uponF P (C (listed.setIfInBounds i true)) v ((execOp a.eval o).run P w)) ∨
  (Region.wanted o (yielded ops a.tmps) = false ∧ v = undef ∧ ∀ listed w, i ∈ Region.ready md ops listed → C listed w → C (listed.setIfInBounds i true) w)
def qOpF (P : Program) (md : Region.Mode) (ops : Array Oper) (C : Array Bool → World → Prop) (i : Nat) (K : Act → Prop) (a : Act) : Prop :=
  match ops[i]? with
  | none => False
  | some o => ∃ v, YieldsF P md ops C i o v a ∧ K (a.put o.dst v)
theorem qOpF_mono {i : Nat} {a : Act} {K K' : Act → Prop} (h : ∀ a, K a → K' a) (hh : qOpF P md ops C i K a) : qOpF P md ops C i K' a := by
  unfold qOpF at *
  split
  · rename_i ho; simp only [ho] at hh
  · rename_i o ho
    simp only [ho] at hh
    obtain ⟨v, h1, h2⟩ := hh
    exact ⟨v, h1, h _ h2⟩
def wpAnyF (P : Program) (md : Region.Mode) (ops : Array Oper) (C : Array Bool → World → Prop) (Q : Array Bool → Act → Prop) : Nat → Array Bool → Act → Prop
  | 0, listed, a => Region.ready md ops listed = [] ∧ Q listed a
  | fuel + 1, listed, a =>
    (Region.ready md ops listed = [] → Q listed a) ∧
    ∀ i ∈ Region.ready md ops listed, qOpF P md ops C i (wpAnyF P md ops C Q fuel (listed.setIfInBounds i true)) a
theorem wpOp_of_qOpF {i : Nat} {a : Act} {listed : Array Bool} {K : Act → Prop} {K' : Act → World → Prop} {Q' : Exit → Act → World → Prop} {w : World} (hl : i ∈ Region.ready md ops listed) (hC : C listed w)
    (h : ∀ a w', C (listed.setIfInBounds i true) w' → K a → K' a w') (hh : qOpF P md ops C i K a) : wpOp P ops Q' i K' a w := by
  unfold qOpF at hh
  unfold wpOp
  split
  · rename_i ho; simp only [ho] at hh
  · rename_i o ho
    simp only [ho] at hh
    obtain ⟨v, hy, h2⟩ := hh
    rcases hy with ⟨hw, hv⟩ | ⟨hw, rfl, hv⟩
    · rw [if_pos hw]
      left
      have h3 := hv listed w hl hC
      unfold Oper.wp
      generalize (execOp a.eval o).run P w = r at *
      cases r with
      | ok n w' =>
        cases n <;> simp only [uponF] at h3 <;> simp only [Oper.upon]
        case value u => obtain ⟨e1, e2⟩ := h3; rw [e1]; exact h _ _ e2 h2
        case skip => obtain ⟨e1, e2⟩ := h3; rw [← e1]; exact h _ _ e2 h2
        case enter f args => exact h3.mono fun e w'' ⟨he, hw''⟩ => by subst he; exact h _ _ hw'' h2
      | halt x w' => simp only [uponF] at h3
    · rw [if_neg (by rw [hw]; exact Bool.false_ne_true)]
      exact h _ _ (hv listed w hl hC) h2
theorem wpAny_of_F {Q : Array Bool → Act → Prop} {Q' : Exit → Act → World → Prop} (hQ : ∀ listed a w, C listed w → Q listed a → Q' .normal a w) : ∀ (fuel : Nat) (listed : Array Bool) (a : Act) (w : World), C listed w →
    wpAnyF P md ops C Q fuel listed a → wpAny P md ops Q' fuel listed a w
  | 0, _, _, _, hw, h => ⟨h.1, hQ _ _ _ hw h.2⟩
  | fuel + 1, listed, _, _, hw, h => ⟨fun h0 => hQ _ _ _ hw (h.1 h0), fun i hi => wpOp_of_qOpF hi hw (fun a' w' hw' => wpAny_of_F hQ fuel _ a' w' hw') (h.2 i hi)⟩
theorem YieldsF.of_same {i : Nat} {o : Oper} {v : Value} {a a' : Act} (hy : YieldsF P md ops C i o v a) (he : execOp a'.eval o = execOp a.eval o)
    (hw : Region.wanted o (yielded ops a'.tmps) = Region.wanted o (yielded ops a.tmps)) : YieldsF P md ops C i o v a' := by
  unfold YieldsF at *
  rw [he, hw]
  exact hy
theorem qOpF_put {i j : Nat} {oi oj : Oper} {v : Value} (hj : ops[j]? = some oj) (hap : oi.apart ops oj = true)
    (hsi : ∀ cs b, oi.op ≠ .select cs b) (hsj : ∀ cs b, oj.op ≠ .select cs b) {K : Act → Prop} {a : Act}
    (hy : YieldsF P md ops C i oi v a) (h : qOpF P md ops C j K (a.put oi.dst v)) :
    qOpF P md ops C j (fun a' => YieldsF P md ops C i oi v a' ∧ K (a'.put oi.dst v)) a := by
  obtain ⟨h1, h2, h3⟩ := Oper.apart_spec hap
  unfold qOpF at *
  simp only [hj] at *
  obtain ⟨u, hu, hn⟩ := h
  refine ⟨u, hu.of_same ?_ ?_, hy.of_same ?_ ?_, ?_⟩
  · exact (execOp_put oj hsj a oi.dst v h1).symm
  · exact (wanted_put oj a oi.dst v h1).symm
  · exact execOp_put oi hsi a oj.dst u h3
  · exact wanted_put oi a oj.dst u h3
  · rw [← Act.put_comm a v u h2]; exact hn
theorem wpAnyF_first {Q : Array Bool → Act → Prop} {i : Nat} {oi : Oper} {v : Value} (hi : ops[i]? = some oi) (hsel : ∀ (j : Nat) (o : Oper) cs b, ops[j]? = some o → o.op ≠ .select cs b) :
    ∀ (fuel : Nat) (listed : Array Bool) (a : Act),
      (∀ j oj, ops[j]? = some oj → j ≠ i → listed.getD j true = false → (∀ e ∈ oj.after, Region.binds md e = true → e.on ≠ i) → oi.apart ops oj = true) →
      i ∈ Region.ready md ops listed → YieldsF P md ops C i oi v a →
      wpAnyF P md ops C Q fuel (listed.setIfInBounds i true) (a.put oi.dst v) → wpAnyF P md ops C Q (fuel + 1) listed a := by
  intro fuel
  induction fuel with
  | zero =>
    intro listed a _ hr hy H
    refine ⟨fun h => (by rw [h] at hr; cases hr), fun j hj => ?_⟩
    by_cases hji : j = i
    · subst hji
      unfold qOpF; simp only [hi]
      exact ⟨v, hy, H⟩
    · have := ready_mono hj hji
      rw [H.1] at this
      cases this
  | succ fuel ih =>
    intro listed a hfree hr hy H
    refine ⟨fun h => (by rw [h] at hr; cases hr), fun j hj => ?_⟩
    by_cases hji : j = i
    · subst hji
      unfold qOpF; simp only [hi]
      exact ⟨v, hy, H⟩
    · have h1 := H.2 j (ready_mono hj hji)
      obtain ⟨hjun, oj, hoj, hall⟩ := mem_ready.1 hj
      have hnot : ∀ e ∈ oj.after, Region.binds md e = true → e.on ≠ i := fun e he hb heq => by
        have h1 := hall e he hb
        have h0 := (mem_ready.1 hr).1
        rw [heq] at h1
        rcases Nat.lt_or_ge i listed.size with h' | h'
        · simp [h'] at h0 h1; rw [h0] at h1; cases h1
        · simp [Array.getElem?_eq_none h'] at h1
      have h2 := qOpF_put hoj (hfree j oj hoj hji hjun hnot) (fun cs b => hsel i oi cs b hi) (fun cs b => hsel j oj cs b hoj) hy h1
      have hfree' : ∀ k ok, ops[k]? = some ok → k ≠ i → (listed.setIfInBounds j true).getD k true = false →
          (∀ e ∈ ok.after, Region.binds md e = true → e.on ≠ i) → oi.apart ops ok = true := fun k ok hk hki hun hno => by
        refine hfree k ok hk hki ?_ hno
        by_cases hjk : j = k
        · subst hjk; exact hjun
        · rw [getD_set_ne true hjk] at hun; exact hun
      refine qOpF_mono (fun a' h3 => ih (listed.setIfInBounds j true) a' hfree' (ready_mono hr (Ne.symm hji)) h3.1 ?_) h2
      rw [Array.setIfInBounds_comm _ _ hji]
      exact h3.2
/-- the walk in the order of the text, number k first -/
def wpF (P : Program) (md : Region.Mode) (ops : Array Oper) (C : Array Bool → World → Prop) (Q : Act → Prop) : List Oper → Nat → Act → Prop
  | [], _, a => Q a
  | o :: rest, k, a => ∃ v, YieldsF P md ops C k o v a ∧ wpF P md ops C Q rest (k + 1) (a.put o.dst v)
def setAll : Nat → Nat → Array Bool → Array Bool
  | 0, _, l => l
  | n + 1, k, l => setAll n (k + 1) (l.setIfInBounds k true)
theorem wpAnyF_lex {Q : Array Bool → Act → Prop} (hs : Region.noSelect ops = true) : ∀ (l : List Oper) (k : Nat) (listed : Array Bool) (a : Act), (∀ j, l[j]? = ops[k + j]?) →
    Region.lexFrom md ops l.length k listed = true → wpF P md ops C (Q (setAll l.length k listed)) l k a → wpAnyF P md ops C Q l.length listed a
  | [], _, _, _, _, hB, h => ⟨by simpa [Region.lexFrom] using hB, h⟩
  | o :: l, k, listed, a, hl, hB, h => by
    have h0 : ops[k]? = some o := by simpa using (hl 0).symm
    simp only [List.length_cons, Region.lexFrom, Bool.and_eq_true] at hB
    obtain ⟨⟨hr, hf⟩, hB'⟩ := hB
    obtain ⟨v, hy, hK⟩ := h
    exact wpAnyF_first h0 (Region.noSelect_spec hs) l.length listed a (Region.free_spec h0 hf) (by simpa using hr) hy
      (wpAnyF_lex hs l (k + 1) _ _ (fun j => by have := hl (j + 1); simpa [Nat.add_assoc, Nat.add_comm 1 j] using this) hB' hK)
theorem wp_region_F {id : Nat} {Q : Exit → Act → World → Prop} {a : Act} {w : World} {l : List Oper} (C : Array Bool → World → Prop) (hm : P.follows .mixedOrders = true) (hB : Region.lexB .any l.toArray = true)
    (hC : C (Array.replicate l.length false) { w with drawn := w.drawn + 1 })
    (h : wpF P .any l.toArray C (fun a' => ∀ w', C (setAll l.length 0 (Array.replicate l.length false)) w' → Q .normal a' w') l 0 a) : (Code.region id l.toArray true).wp P Q a w := by
  simp only [Region.lexB, Bool.and_eq_true] at hB
  refine wp_region_any hm (wpAny_of_F (C := C) (Q := fun listed a' => ∀ w', C listed w' → Q .normal a' w') (fun _ _ w' hw' h => h w' hw') _ _ _ _ (by simpa using hC) ?_)
  have := wpAnyF_lex (C := C) (md := .any) (Q := fun listed a' => ∀ w', C listed w' → Q .normal a' w') hB.1 l 0 (Array.replicate l.length false) a (by simp) (by simpa using hB.2) h
  simpa using this
end
/-! two flagged operations, numbers j1, j2 (a number that no operation bears: none) -/
/-- the operations that yield a value without entering a function -/
def isV : Op → Bool
  | .move _ | .assign _ | .pick .. | .build .. | .load .. | .binOp .. | .unOp .. | .convert .. | .slice .. | .fieldAddr .. | .field .. | .indexAddr .. | .index .. | .extract .. | .sliceToArrayPointer .. => true
  | _ => false
theorem run_v {P : Program} {s : Sem Value} {w w' : World} {n : Next} (h : (do pure (Next.value (← s)) : Sem Next).run P w = .ok n w') : ∃ u, n = .value u := by
  rw [Sem.run_bind] at h
  cases hs : s.run P w with
  | ok u w1 => rw [hs] at h; simp [Result.andThen] at h; exact ⟨u, h.1.symm⟩
  | halt x w1 => rw [hs] at h; simp [Result.andThen] at h
theorem isV_value {P : Program} {o : Oper} {ev : Operand → Value} {w w' : World} {n : Next} (hV : isV o.op = true) (h : (execOp ev o).run P w = .ok n w') : ∃ u, n = .value u := by
  unfold execOp at h
  cases ho : o.op <;> rw [ho] at h hV <;> simp only [isV, Bool.false_eq_true] at hV <;> dsimp only at h
  case move x => simp at h; exact ⟨_, h.1.symm⟩
  case assign x => simp at h; exact ⟨_, h.1.symm⟩
  case pick c x y =>
    rw [Sem.run_bind] at h
    cases hs : (asBool (ev c)).run P w with
    | ok u w1 => rw [hs] at h; simp [Result.andThen] at h; exact ⟨_, h.1.symm⟩
    | halt x w1 => rw [hs] at h; simp [Result.andThen] at h
  all_goals exact run_v h
structure FX (F : Bool → Bool → World → Prop) where
  W : World
  h : ∃ b1 b2, F b1 b2 W
section
variable {P : Program} {ops : Array Oper} {rest : List Oper} {o : Oper} {a : Act} {Q : Act → Prop} {F : Bool → Bool → World → Prop} {j1 j2 k : Nat} {md : Region.Mode}
theorem ready_after {i j : Nat} {oi : Oper} {listed : Array Bool} (hi : ops[i]? = some oi) (hd : (oi.after.any fun e => Region.binds md e && e.on == j) = true) (hr : i ∈ Region.ready md ops listed) : listed.getD j false = true := by
  obtain ⟨_, o', ho', hall⟩ := mem_ready.1 hr
  have : o' = oi := Option.some.inj (ho'.symm.trans hi)
  subst this
  obtain ⟨e, he, hb⟩ := Array.any_eq_true'.1 hd
  simp only [Bool.and_eq_true, beq_iff_eq] at hb
  rw [← hb.2]; exact hall e he hb.1
structure FX1 (F : Bool → Bool → World → Prop) where
  W : World
  h : ∃ b2, F true b2 W
theorem getD_on {listed : Array Bool} {i : Nat} (h : listed.getD i true = false) : listed.getD i false = false ∧ (listed.setIfInBounds i true).getD i false = true := by
  rcases Nat.lt_or_ge i listed.size with h' | h'
  · simp [h'] at h ⊢; exact h
  · simp [Array.getElem?_eq_none h'] at h
end
/-- the flagged operation is a call that makes just one block -/
def FNew (w0 : World) (t : TypeId) (cs : Array Value) : Bool → Bool → World → Prop := fun b1 _ W => Below w0.heap.size w0 W ∧ (b1 = false → W.heap.size = w0.heap.size) ∧ (b1 = true → Bx W w0.heap.size t cs)
theorem FNew.start (w0 : World) (t : TypeId) (cs : Array Value) : FNew w0 t cs false false w0.drew := ⟨(Below.refl _ _).drew, fun _ => rfl, (fun h => by cases h)⟩
theorem FNew.below {w0 : World} {t : TypeId} {cs : Array Value} (x : FX (FNew w0 t cs)) : Below w0.heap.size w0 x.W := by obtain ⟨W, b1, b2, h⟩ := x; exact h.1
instance (w0 : World) (t : TypeId) (cs : Array Value) : Nonempty (FX (FNew w0 t cs)) := ⟨⟨w0.drew, false, false, FNew.start w0 t cs⟩⟩
instance (w0 : World) (t : TypeId) (cs : Array Value) : Nonempty (FX1 (FNew w0 t cs)) := ⟨⟨w0.alloc (.cells cs t), false, (Below.refl _ _).alloc (Nat.le_refl _) _, (fun h => by cases h), fun _ => Bx.new _ _ _⟩⟩
theorem FNew.call {P : Program} {f : FuncId} {av : Array Value} {w0 : World} {t : TypeId} {cs : Array Value} {n c : Nat}
    (h : ∀ W, Calls P f av W (fun e w' => e = .returned (.slice (some ⟨W.heap.size, 0, none⟩) n c) ∧ Bx w' W.heap.size t cs ∧ Below W.heap.size W w')) (b2 : Bool) (W : World) (hW : FNew w0 t cs false b2 W) :
    Calls P f av W (fun e W' => e = .returned (.slice (some ⟨w0.heap.size, 0, none⟩) n c) ∧ FNew w0 t cs true b2 W') := by
  have hz := hW.2.1 rfl
  refine (h W).mono fun e w' ⟨h1, h2, h3⟩ => ?_
  rw [hz] at h1 h2
  exact ⟨h1, hW.1.trans (h3.mono (by rw [hz]; exact Nat.le_refl _)), (fun h => by cases h), fun _ => h2⟩
end Go.Proofs.Ytodbbacmdjcheaa
namespace Go.Proofs.Ytodbbacmdjcheaa
open Go Go.RowKit
def CN (F : (Nat → Bool) → World → Prop) : Array Bool → World → Prop := fun listed W => F (fun j => listed.getD j false) W
def Dep (F : (Nat → Bool) → World → Prop) (js : List Nat) : Prop := ∀ f g W, (∀ j ∈ js, f j = g j) → F f W → F g W
structure FXN (F : (Nat → Bool) → World → Prop) where
  W : World
  h : ∃ f, F f W
section
variable {P : Program} {ops : Array Oper} {rest : List Oper} {o : Oper} {a : Act} {Q : Act → Prop} {F : (Nat → Bool) → World → Prop} {js : List Nat} {k : Nat} {md : Region.Mode}
theorem CN.skip (hD : Dep F js) (hk : k ∉ js) {listed : Array Bool} {W : World} (hW : CN F listed W) : CN F (listed.setIfInBounds k true) W := by
  refine hD _ _ _ (fun j hj => ?_) hW
  have hne : k ≠ j := fun e => hk (e ▸ hj)
  rw [getD_set_ne false hne]
theorem wpN_read (hD : Dep F js) (hV : isV o.op = true) (hk : k ∉ js) (h : wpQuiet P ops (fun W => ∃ x : FXN F, W = x.W) (fun a' => wpF P md ops (CN F) Q rest (k + 1) a') [o] a) : wpF P md ops (CN F) Q (o :: rest) k a := by
  unfold wpQuiet at h
  split at h
  · rename_i hw
    obtain ⟨v, h1, h2⟩ := h
    refine ⟨v, .inl ⟨hw, fun listed W hl hW => ?_⟩, h2⟩
    have h3 := h1 W ⟨⟨W, _, hW⟩, rfl⟩
    unfold Oper.quietAt at h3
    cases hr : (execOp a.eval o).run P W with
    | ok n w' =>
      obtain ⟨u, rfl⟩ := isV_value hV hr
      rw [hr] at h3
      simp only [Oper.quietUpon] at h3
      simp only [uponF]
      obtain ⟨e1, e2⟩ := h3
      subst e1
      exact ⟨e2, hW.skip hD hk⟩
    | halt x w' => rw [hr] at h3; simp only [Oper.quietUpon] at h3
  · rename_i hw
    exact ⟨undef, .inr ⟨by simpa using hw, rfl, fun listed W hl hW => hW.skip hD hk⟩, h⟩
theorem wpN_store (hD : Dep F js) (ty : TypeId) (x y : Operand) (ho : o.op = .store ty x y) (hw : Region.wanted o (yielded ops a.tmps) = true) {p u : Value} (hx : a.eval x = p) (hy : a.eval y = u)
    (hs : ∀ f W, F f W → ∃ W', (Instr.storeAt ty p u).run P W = .ok () W' ∧ F (fun i => i == k || f i) W') (h : wpF P md ops (CN F) Q rest (k + 1) (a.put o.dst undef)) : wpF P md ops (CN F) Q (o :: rest) k a := by
  refine ⟨undef, .inl ⟨hw, fun listed W hl hW => ?_⟩, h⟩
  obtain ⟨W', h1, h2⟩ := hs _ W hW
  unfold execOp
  simp only [ho, hx, hy, Sem.run_bind, h1, Result.andThen_ok, Sem.run_pure, uponF, true_and]
  refine hD _ _ _ (fun j hj => ?_) h2
  by_cases hjk : j = k
  · subst hjk
    rw [(getD_on (mem_ready.1 hl).1).2]; simp
  · have hne : k ≠ j := Ne.symm hjk
    rw [getD_set_ne false hne]; simp [hjk]
end
theorem wp_region_N {P : Program} {id : Nat} {Q : Exit → Act → World → Prop} {a : Act} {w : World} {l : List Oper} (F : (Nat → Bool) → World → Prop) (js : List Nat) (hD : Dep F js) (hm : P.follows .mixedOrders = true) (hB : Region.lexB .any l.toArray = true)
    (hf : (js.all fun j => (setAll l.length 0 (Array.replicate l.length false)).getD j false) = true)
    (hC : F (fun _ => false) w.drew)
    (h : wpF P .any l.toArray (CN F) (fun a' => ∀ w', F (fun _ => true) w' → Q .normal a' w') l 0 a) : (Code.region id l.toArray true).wp P Q a w := by
  have e : ∀ j, (Array.replicate l.length false).getD j false = false := fun j => getD_replicate_false _ _
  refine wp_region_F (CN F) hm hB ?_ ?_
  · exact hD _ _ _ (fun j _ => (e j).symm) hC
  · have e2 : ∀ w', CN F (setAll l.length 0 (Array.replicate l.length false)) w' → F (fun _ => true) w' := fun w' h' => hD _ _ _ (fun j hj => by simpa using List.all_eq_true.1 hf j hj) h'
    have mono : ∀ (r : List Oper) (k : Nat) (a' : Act), wpF P .any l.toArray (CN F) (fun a' => ∀ w', F (fun _ => true) w' → Q .normal a' w') r k a' → wpF P .any l.toArray (CN F) (fun a' => ∀ w', CN F (setAll l.length 0 (Array.replicate l.length false)) w' → Q .normal a' w') r k a' := by
      intro r
      induction r with
      | nil => intro k a' h0 w' h'; exact h0 w' (e2 w' h')
      | cons o r ih => intro k a' h0; obtain ⟨v, h1, h2⟩ := h0; exact ⟨v, h1, ih _ _ h2⟩
    exact mono l 0 a h
end Go.Proofs.Ytodbbacmdjcheaa
namespace Go.Proofs.Ytodbbacmdjcheaa
open Go Go.RowKit
/-- a block, and the store number k that makes 'new' of 'old' -/
structure Bk where
  g : Nat
  t : TypeId
  k : Nat
  old : Array Value
  new : Array Value
def FBx (w0 : World) (B : Nat) (L : List Bk) : (Nat → Bool) → World → Prop := fun f W => Below B w0 W ∧ ∀ p ∈ L, Bx W p.g p.t (if f p.k = true then p.new else p.old)
section
variable {w0 : World} {B : Nat} {L : List Bk} {js : List Nat}
theorem FBx.dep (h : ∀ p ∈ L, p.k ∈ js) : Dep (FBx w0 B L) js := by
  rintro f g W hfg ⟨h1, h2⟩
  exact ⟨h1, fun p hp => by rw [← hfg p.k (h p hp)]; exact h2 p hp⟩
theorem FBx.start {W : World} (h1 : Below B w0 W) (h2 : ∀ p ∈ L, Bx W p.g p.t p.old) : FBx w0 B L (fun _ => false) W.drew := ⟨h1.drew, fun p hp => by rw [if_neg (by simp)]; exact h2 p hp⟩
theorem FBx.done {W : World} (h : FBx w0 B L (fun _ => true) W) : Below B w0 W ∧ ∀ p ∈ L, Bx W p.g p.t p.new := ⟨h.1, fun p hp => by have := h.2 p hp; rwa [if_pos rfl] at this⟩
theorem FBx.cell (p : Bk) (hp : p ∈ L) (he : p.old = p.new) (x : FXN (FBx w0 B L)) (i : Nat) : x.W.cell? ⟨p.g, i, none⟩ = p.old[i]? := by
  obtain ⟨W, f, h⟩ := x
  have := h.2 p hp
  rw [← he] at this
  split at this <;> exact this.cell i
theorem FBx.base (x : FXN (FBx w0 B L)) : Below B w0 x.W := by obtain ⟨W, f, h⟩ := x; exact h.1
variable {P : Program} {k : Nat}
theorem FBx.step1 (p : Bk) (hp : p ∈ L) (hB : B ≤ p.g) (hk : p.k = k) {q : Nat} {u u0 u1 : Value} (ho : p.old[q]? = some u0) (hn : p.new[q]? = some u1) (h1 : p.old.setIfInBounds q u = p.new) (h2 : p.new.setIfInBounds q u = p.new)
    (hoth : ∀ p' ∈ L, p' = p ∨ (p'.g ≠ p.g ∧ (p'.k ≠ k ∨ p'.old = p'.new))) {ty : TypeId}
    (hs : ∀ (W : World) (u0 : Value), W.cell? ⟨p.g, q, none⟩ = some u0 → W.frozen? ⟨p.g, q, none⟩ = false → (Instr.storeAt ty (.pointer (some ⟨p.g, q, none⟩)) u).run P W = .ok () (W.setCell ⟨p.g, q, none⟩ u))
    (f : Nat → Bool) (W : World) (h : FBx w0 B L f W) : ∃ W', (Instr.storeAt ty (.pointer (some ⟨p.g, q, none⟩)) u).run P W = .ok () W' ∧ FBx w0 B L (fun i => i == k || f i) W' := by
  have hb := h.2 p hp
  have hc : ∃ v, W.cell? ⟨p.g, q, none⟩ = some v := by
    rw [hb.cell]; split
    · exact ⟨_, hn⟩
    · exact ⟨_, ho⟩
  obtain ⟨v, hc⟩ := hc
  refine ⟨_, hs W v hc (hb.free q), h.1.setCell (p := ⟨p.g, q, none⟩) hB _, fun p' hp' => ?_⟩
  rcases hoth p' hp' with rfl | ⟨e1, e2⟩
  · have := hb.set (i := q) u
    rw [if_pos (by simp [hk])]
    split at this
    · rwa [h2] at this
    · rwa [h1] at this
  · have := (h.2 p' hp').far (p := ⟨p.g, q, none⟩) e1 u
    rcases e2 with e2 | e2
    · simp only [show (p'.k == k) = false by rw [beq_eq_false_iff_ne]; exact e2, Bool.false_or]; exact this
    · rw [e2] at this ⊢
      split at this <;> split <;> exact this
theorem FBx.stepRow (p : Bk) (hp : p ∈ L) (hB : B ≤ p.g) (hk : p.k = k) {q : Nat} {cells : Array Value} (ho : q + cells.size ≤ p.old.size) (hn : q + cells.size ≤ p.new.size) (h1 : putL p.old q cells.toList = p.new) (h2 : putL p.new q cells.toList = p.new)
    (hoth : ∀ p' ∈ L, p' = p ∨ (p'.g ≠ p.g ∧ (p'.k ≠ k ∨ p'.old = p'.new))) {ty : TypeId} (hi : (P.info? ty).map (·.size) = some cells.size) (hc1 : cells.all (·.oneCell') = true)
    (f : Nat → Bool) (W : World) (h : FBx w0 B L f W) : ∃ W', (Instr.storeAt ty (.pointer (some ⟨p.g, q, none⟩)) (.agg cells)).run P W = .ok () W' ∧ FBx w0 B L (fun i => i == k || f i) W' := by
  have hb := h.2 p hp
  have ht : W.there p.g q cells.size := fun j hj => by
    refine ⟨?_, hb.free _⟩
    rw [hb.cell]
    split
    · rw [Array.getElem?_eq_getElem (by omega)]; rfl
    · rw [Array.getElem?_eq_getElem (by omega)]; rfl
  refine ⟨_, run_storeAt_mid (P := P) W p.g q ty cells ht hi hc1, below_setCells hB _ _ _ h.1, fun p' hp' => ?_⟩
  rcases hoth p' hp' with rfl | ⟨e1, e2⟩
  · have := Bx.setCells cells.toList q hb
    rw [if_pos (by simp [hk])]
    split at this
    · rwa [h2] at this
    · rwa [h1] at this
  · have := setCells_far e1 cells.toList q W (h.2 p' hp')
    rcases e2 with e2 | e2
    · simp only [show (p'.k == k) = false by rw [beq_eq_false_iff_ne]; exact e2, Bool.false_or]; exact this
    · rw [e2] at this ⊢
      split at this <;> split <;> exact this
end
section
variable {P : Program} {ops : Array Oper} {rest : List Oper} {o : Oper} {a : Act} {Q : Act → Prop} {F : (Nat → Bool) → World → Prop} {js : List Nat} {k : Nat} {md : Region.Mode}
/-- len(..) -/
theorem wpN_len (hD : Dep F js) {x : Operand} {ats : Array TypeId} (ho : o.op = .call { callee := .builtin .len, args := #[x], argTypes := ats }) (hk : k ∉ js) (hw : Region.wanted o (yielded ops a.tmps) = true) {v : Value}
    (hl : ∀ W, (Builtin.len_ ats o.type #[a.eval x]).run P W = .ok v W) (h : wpF P md ops (CN F) Q rest (k + 1) (a.put o.dst v)) : wpF P md ops (CN F) Q (o :: rest) k a := by
  refine ⟨v, .inl ⟨hw, fun listed W hl' hW => ?_⟩, h⟩
  have : (execOp a.eval o).run P W = .ok (.value v) W := by
    simp [execOp, ho, resolve, invoke, builtin, hl]
  rw [this]
  exact ⟨rfl, hW.skip hD hk⟩
/-- an operation that is passed over -/
theorem wpN_skip (hD : Dep F js) (hk : k ∉ js) (hw : Region.wanted o (yielded ops a.tmps) = false) (h : wpF P md ops (CN F) Q rest (k + 1) (a.put o.dst undef)) : wpF P md ops (CN F) Q (o :: rest) k a :=
  ⟨undef, .inr ⟨hw, rfl, fun listed W hl hW => hW.skip hD hk⟩, h⟩
end
theorem store_bool {P : Program} {ty : TypeId} (hi : (P.info? ty).map (·.size) = some 1) (W : World) (ad : Addr) (u0 : Value) (b : Bool) (hc : W.cell? ad = some u0) (hf : W.frozen? ad = false) : (Instr.storeAt ty (.pointer (some ad)) (.bool b)).run P W = .ok () (W.setCell ad (.bool b)) := by
  obtain ⟨i, hi', e⟩ := Option.map_eq_some_iff.1 hi
  simp [go_sem, hc, hf, sizeOf, typeInfo, hi', e]
end Go.Proofs.Ytodbbacmdjcheaa
