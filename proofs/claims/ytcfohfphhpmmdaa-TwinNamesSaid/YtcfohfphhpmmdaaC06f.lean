/- Contracts of the reference of superblocks. -/
import Derived.Test.YtcfohfphhpmmdaaC06r
import Derived.Test.YtcfohfphhpmmdaaC02
import Derived.RegionTactic
import Derived.ChangeAlike
set_option linter.unusedVariables false
set_option linter.unusedSimpArgs false
namespace Go.Proofs.Ytcfohfphhpmmdaa
open Go.RowKit L02 L05 L06

set_option maxHeartbeats 600000 in
theorem Check6R_any (W T : Int) (w : World) : Calls Try.prog 22 #[supV W T] w fun e w' => e = .returned (.int .i64 (supErr W T)) ∧ Below w.heap.size w w' := by
  unfold supV
  by_cases hs : SizeOk W
  · have HS := Lib.hid hs; clear hs
    go_enter Try.func22, Try.ntmps22
    go_wp2_with (go_at_call 34; refine (SizeR_any _ true (decide_eq_true HS.out).symm _).mono ?_; rintro e w' ⟨rfl, rfl⟩)
    all_goals
      go_ret
      refine ⟨ret_int ?_, (Below.refl _ _).alloc (Nat.le_refl _) _⟩
      first
      | exact (if_pos ⟨HS.out, by omega, by omega⟩).symm
      | exact (if_neg (fun h => by have := h.2; omega)).symm
  · have HS := Lib.hid hs; clear hs
    go_enter Try.func22, Try.ntmps22
    go_wp2_with (go_at_call 34; refine (SizeR_any _ false (decide_eq_false HS.out).symm _).mono ?_; rintro e w' ⟨rfl, rfl⟩)
    go_ret
    exact ⟨ret_int (if_neg (fun h => HS.out h.1)).symm, (Below.refl _ _).alloc (Nat.le_refl _) _⟩

set_option maxHeartbeats 1000000 in
theorem Written_any (W T : Int) (w : World) (h : SupOk W T) : Calls Try.prog 32 #[supV W T] w fun e w' => ∃ v, e = .returned v ∧ OwnW w' w.heap.size 50 v (wordsOf W T) ∧ Below w.heap.size w w' := by
  have h1 := h.1.1; have h2 := h.1.2.1; have h3 := h.2.1; have h4 := h.2.2
  have hu1 := u_nat (n := W) (by omega) (by omega)
  have hu2 := u_nat (n := T) (by omega) (by omega)
  have HU1 := Lib.hid hu1; have HU2 := Lib.hid hu2; clear hu1 hu2 h
  unfold supV
  go_enter Try.func32, Try.ntmps32
  go_wp2_with fail
  refine calls_gen (fun W' => W'.ownsRow w.heap.size 50 1 (.slice (some ⟨w.heap.size + 1, 0, none⟩) 7 7) 7 ((body W T).map u64) ∧ Below w.heap.size w W') ⟨?_, ((Below.refl _ w).alloc (Nat.le_refl _) _).alloc (by simp) _⟩ ?_
  · have := World.ownsRow_lit (base := w.heap.size) (size := 1) (e := 50) (w.alloc (.cells #[.int .i64 W, .int .i64 T] 26)) #[.int .u64 32777959566500194, .int .u64 1, .int .u64 W, .int .u64 T, .int .u64 0, .int .u64 0, .int .u64 0] 7 (by simp) (by simp [maxLen]) rfl
    rw [alloc_sz] at this
    have e : (body W T).map u64 = [.int .u64 32777959566500194, .int .u64 1, .int .u64 W, .int .u64 T, .int .u64 0, .int .u64 0, .int .u64 0] := by simp [body, u64, HU1.out, HU2.out, magic]
    rw [e]
    exact this
  rintro w1 ⟨o1, B⟩
  refine (SumR_any _ _ _ (OwnW.rd (OwnW.of o1 rfl)) (by simp [body])).mono ?_
  rintro e w2 ⟨rfl, b⟩
  replace o1 := own_below o1 b; replace B := B.trans (b.mono B.size); clear b
  have HO := Lib.hid o1; have HB := Lib.hid B; clear o1 B
  obtain ⟨S, hS⟩ : ∃ S, S = sum (body W T) := ⟨_, rfl⟩
  rw [← hS]
  have HS := Lib.hid hS; clear hS
  go_wp2_with (at_builtin; refine wpList_append (by rfl) rfl rfl rfl Try.underlying22 info_u64 rfl (by omega) (by exact own_below HO.out ((Below.refl _ _).alloc (Nat.le_refl _) _)) (by exact lit_rd) (by simp [Value.oneCell']) (by omega) (by omega) (by exact HB.out.alloc HB.out.size _) (Nat.le_refl _) ?_; intro v1 w3 o3 B3 g3; clear g3)
  go_ret
  refine ⟨v1, rfl, OwnW.of o3 ?_, B3⟩
  rw [wordsOf, List.map_append, HS.out]; rfl

set_option maxHeartbeats 2000000 in
theorem Read6R_any (v : Value) (l : List UInt64) (w : World) (h : Words w v l) (hmax : l.length ≤ 2100) :
    Calls Try.prog 39 #[v] w fun e w' => e = .returned (.tuple #[supV (rdW l) (rdT l), .int .i64 (rdErr l)]) ∧ Below w.heap.size w w' := by
  have l1 := Rd.len h Try.underlying22
  by_cases hl : l.length = 8
  · rw [rdErr, if_pos hl]
    obtain ⟨E, hE⟩ : ∃ E, E = (if ReadOk l then (0 : Int) else 50) := ⟨_, rfl⟩
    rw [← hE]
    have HE := Lib.hid hE; clear hE
    have hlt2 : (2 : Int) < l.length := by omega
    have hlt3 : (3 : Int) < l.length := by omega
    obtain ⟨ad2, x2, i2, c2, e2⟩ := h.atI Try.underlying22 one_u64 (k := (2 : Int)) (by omega) hlt2
    obtain ⟨ad3, x3, i3, c3, e3⟩ := h.atI Try.underlying22 one_u64 (k := (3 : Int)) (by omega) hlt3
    have hA : at2 l = (x2.toNat : Int) := by unfold at2; rw [List.getD_eq_getElem?_getD, show l[2]? = some x2 from e2.out]; rfl
    have hT : at3 l = (x3.toNat : Int) := by unfold at3; rw [List.getD_eq_getElem?_getD, show l[3]? = some x3 from e3.out]; rfl
    rw [hl] at l1
    obtain ⟨A, hAA⟩ : ∃ A, A = (x2.toNat : Int) := ⟨_, rfl⟩
    obtain ⟨T, hTT⟩ : ∃ T, T = (x3.toNat : Int) := ⟨_, rfl⟩
    have hA0 : 0 ≤ A := by omega
    have hT0 : 0 ≤ T := by omega
    rw [← hAA] at hA c2; rw [← hTT] at hT c3
    have d2 : ∀ o, (w.alloc o).cell? ad2 = some (.int .u64 A) := fun o => (World.cell?_alloc_lt w o ad2 (World.block_lt_of_cell? w _ c2)).trans c2
    have d3 : ∀ o, (w.alloc o).cell? ad3 = some (.int .u64 T) := fun o => (World.cell?_alloc_lt w o ad3 (World.block_lt_of_cell? w _ c3)).trans c3
    have H := Lib.hid h; have HA := Lib.hid hA; have HT := Lib.hid hT
    clear h hlt2 hlt3 hA hT hAA hTT e2 e3
    by_cases hbig : 1000000 < A ∨ 1000000 < T
    · have hno : ¬ ReadOk l := by
        rintro ⟨⟨⟨_, h2, _⟩, _, h5⟩, _⟩
        rw [HA.out] at h2; rw [HT.out] at h5; omega
      have hE := HE.out
      rw [if_neg hno] at hE
      subst hE
      rw [(rd_no hno).1, (rd_no hno).2]
      clear hno
      rcases hbig with hb | hb
      · go_enter Try.func39, Try.ntmps39
        go_wp2
        refine bodyPost_ret (v := .tuple #[supV 0 0, .int .i64 50]) ?_ rfl ⟨rfl, ?_⟩
        · simp [results, Try.results39, go_sem, supV]
        · exact (Below.refl _ _).alloc (Nat.le_refl _) _
      · by_cases hb' : 1000000 < A
        all_goals
          go_enter Try.func39, Try.ntmps39
          go_wp2
          refine bodyPost_ret (v := .tuple #[supV 0 0, .int .i64 50]) ?_ rfl ⟨rfl, ?_⟩
          · simp [results, Try.results39, go_sem, supV]
          · exact (Below.refl _ _).alloc (Nat.le_refl _) _
    · have hb1 : A ≤ 1000000 := by omega
      have hb2 : T ≤ 1000000 := by omega
      clear hbig
      go_enter Try.func39, Try.ntmps39
      go_wp2
      refine wp_gen (fun W => W.heap[w.heap.size]? = some (.cells #[.int .i64 0, .int .i64 0] 26 (0, 0)) ∧ Below w.heap.size w W ∧ w.heap.size + 1 ≤ W.heap.size ∧ W.cell? ad2 = some (.int .u64 A) ∧ W.cell? ad3 = some (.int .u64 T))
        ⟨by simp only [alloc_heap, Array.getElem?_push]; simp, (Below.refl _ w).alloc (Nat.le_refl _) _, by simp, d2 _, d3 _⟩ ?_
      clear c2 c3 d2 d3
      rintro w1 ⟨g0, B, hz, c2, c3⟩
      have d2 : ∀ o, (w1.alloc o).cell? ad2 = some (.int .u64 A) := fun o => (World.cell?_alloc_lt w1 o ad2 (World.block_lt_of_cell? w1 _ c2)).trans c2
      have d3 : ∀ o, (w1.alloc o).cell? ad3 = some (.int .u64 T) := fun o => (World.cell?_alloc_lt w1 o ad3 (World.block_lt_of_cell? w1 _ c3)).trans c3
      have G0 := Lib.hid g0; have HB := Lib.hid B; clear g0 B
      go_region
      clear c2 c3 d2 d3
      go_wp2_with fail
      refine calls_gen (fun W => W.heap[w.heap.size]? = some (.cells #[.int .i64 0, .int .i64 0] 26 (0, 0)) ∧ W.heap[w1.heap.size]? = some (.cells #[.int .i64 A, .int .i64 T] 26 (0, 0)) ∧ Below w.heap.size w W ∧ w1.heap.size + 1 ≤ W.heap.size)
        ⟨blk_old (w := w1) G0.out _, blk_new w1 _, (HB.out.alloc HB.out.size _).drew, by simp⟩ ?_
      rintro w2 ⟨g0, g1, B, hz2⟩
      refine (Check6R_any A T _).mono ?_
      by_cases hok : SupOk A T
      · have hrd : ReadOk l ↔ wordsOf A T = l := by
          unfold ReadOk; rw [HA.out, HT.out]
          exact ⟨fun h => h.2.symm, fun h => ⟨hok, h.symm⟩⟩
        have HRD := Lib.hid hrd
        rw [show supErr A T = 0 from if_pos hok]
        have HOK := Lib.hid hok
        clear hrd hok
        rintro e w3 ⟨rfl, b⟩
        replace g0 := blk_below g0 b; replace g1 := blk_below g1 b; replace B := B.trans (b.mono B.size)
        have h2 : Words w3 v l := H.out.below B
        have c1 := blk_cell g1
        have hz3 := b.size
        have G0 := Lib.hid g0; have G1 := Lib.hid g1; have HB := Lib.hid B; have H2 := Lib.hid h2
        clear g0 g1 b B h2
        go_wp2_with fail
        refine (Written_any A T _ HOK.out).mono ?_
        rintro e w4 ⟨x, rfl, o, b⟩
        have G0' := Lib.hid (blk_below G0.out b); have G1' := Lib.hid (blk_below G1.out b); have HB' := Lib.hid (HB.out.trans (b.mono HB.out.size)); have H2' := Lib.hid (H2.out.below b)
        have r := o.rd
        clear o b c1
        go_wp2_with fail
        refine (Same_any _ _ _ _ _ r H2'.out).mono ?_
        obtain ⟨dB, hdB⟩ : ∃ dB, dB = same (wordsOf A T) l := ⟨_, rfl⟩
        rw [← hdB]
        have HDB := Lib.hid hdB
        clear hdB r
        rintro e w5 ⟨rfl, q⟩
        have b := q.below
        have z0 := blk_cell (blk_below G0'.out b); have zf := blk_free (blk_below G0'.out b); have z1 := blk_cell (blk_below G1'.out b)
        have HB5 := Lib.hid (HB'.out.trans (b.mono HB'.out.size))
        clear b q
        cases dB
        all_goals go_wp2
        · have hno : ¬ ReadOk l := fun hr => by
            have := HRD.out.1 hr
            have h6 := HDB.out
            rw [this, same_refl] at h6; cases h6
          rw [HE.out, if_neg hno, (rd_no hno).1, (rd_no hno).2]
          refine bodyPost_ret (v := .tuple #[supV 0 0, .int .i64 50]) ?_ rfl ⟨rfl, ?_⟩
          · simp [results, Try.results39, go_sem, supV, z0, zf]
          · exact (HB5.out.setCell (Nat.le_refl _) _).setCell (Nat.le_refl _) _
        · have hyes : ReadOk l := HRD.out.2 (by have := HDB.out.symm; simpa [same] using this)
          rw [HE.out, if_pos hyes, rdW, if_pos hyes, rdT, if_pos hyes, HA.out, HT.out]
          refine bodyPost_ret (v := .tuple #[supV A T, .int .i64 0]) ?_ rfl ⟨rfl, ?_⟩
          · simp [results, Try.results39, go_sem, supV, z0, zf]
          · exact (HB5.out.setCell (Nat.le_refl _) _).setCell (Nat.le_refl _) _
      · have hno : ¬ ReadOk l := fun hr => hok (by have := hr.1; rwa [HA.out, HT.out] at this)
        rw [show supErr A T = 8 from if_neg hok]
        have HNO := Lib.hid hno
        clear hno hok
        rintro e w3 ⟨rfl, b⟩
        have z0 := blk_cell (blk_below g0 b); have zf := blk_free (blk_below g0 b)
        have HB5 := Lib.hid (B.trans (b.mono B.size))
        clear g0 g1 b B
        go_wp2
        rw [HE.out, if_neg HNO.out, (rd_no HNO.out).1, (rd_no HNO.out).2]
        refine bodyPost_ret (v := .tuple #[supV 0 0, .int .i64 50]) ?_ rfl ⟨rfl, ?_⟩
        · simp [results, Try.results39, go_sem, supV, z0, zf]
        · exact (HB5.out.setCell (Nat.le_refl _) _).setCell (Nat.le_refl _) _
  · have hno : ¬ ReadOk l := fun hr => hl (readOk_len hr)
    rw [rdErr, if_neg hl, (rd_no hno).1, (rd_no hno).2]
    have hne : ((l.length : Int) != 8) = true := by simp; omega
    clear h hl hno
    go_enter Try.func39, Try.ntmps39
    go_wp2
    refine bodyPost_ret (v := .tuple #[supV 0 0, .int .i64 2]) ?_ rfl ⟨rfl, ?_⟩
    · simp [results, Try.results39, go_sem, supV]
    · exact (Below.refl _ _).alloc (Nat.le_refl _) _
end Go.Proofs.Ytcfohfphhpmmdaa
