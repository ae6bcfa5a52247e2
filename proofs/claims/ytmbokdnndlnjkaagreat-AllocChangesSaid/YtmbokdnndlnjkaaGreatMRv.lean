/- Contracts of the functions that the laws 'R' reach, part 22. No condition. -/
import Derived.Test.YtmbokdnndlnjkaaGreatMRu
set_option linter.unusedVariables false
set_option linter.unusedSimpArgs false
namespace Go.Proofs.YtmbokdnndlnjkaaGreat
open Go.RowKit L01 L02 L05 L06 L07 L13 L14 L15 L16 L18 L19
theorem objIdx_first : ∀ {L : List Hb} {a : Int} {j k : Nat} {b : Hb}, L[j]? = some b → b.at_ = a → b.kind = 1 → (∀ i c, i < j → L[i]? = some c → ¬ (c.at_ = a ∧ c.kind = 1)) → objIdx L a k = some (k + j)
  | [], _, _, _, _, h, _, _, _ => by cases h
  | c :: L, a, 0, k, b, h, e, e2, _ => by
    simp at h; subst h
    rw [objIdx, if_pos ⟨e, e2⟩]; rfl
  | c :: L, a, j + 1, k, b, h, e, e2, hz => by
    have hc := hz 0 c (by omega) rfl
    rw [objIdx, if_neg hc, objIdx_first (j := j) (by simpa using h) e e2 (fun i c' hi hc' => hz (i + 1) c' (by omega) (by simpa using hc'))]
    congr 1; omega
set_option maxRecDepth 100000 in
set_option maxHeartbeats 8000000 in
theorem Around_any (v : Value) (l : List UInt64) (a : Int) (b : Hb) (r : Int) (hb : b = around l a) (hr : r = arErr l a) (w : World) (h : Words w v l) :
    Calls Tryz.prog 59 #[v, .int .i64 a] w fun e w' => e = .returned (.tuple #[.agg #[.int .i64 b.at_, .int .i64 b.size, .int .i64 b.kind, .int .i64 b.ty, .bool b.mark, .int .u64 b.next.toNat], .int .i64 r]) ∧ Below w.heap.size w w' := by
  have B : Below w.heap.size w w := Below.refl _ _
  have H := Lib.hid h
  obtain ⟨L, hL⟩ : ∃ L, L = allL l := ⟨_, rfl⟩
  obtain ⟨c, hc⟩ : ∃ c, c = allErr l := ⟨_, rfl⟩
  have WT := Lib.hid (fun w h => AllW_any v l L c hL hc w h)
  by_cases h0 : c = 0
  case neg =>
    have hr0 : r = c := by rw [hr, arErr, if_neg (by rw [← hc]; exact h0), hc]
    have hb0 : b = .none := by rw [hb, around, if_neg (by rw [← hr, hr0]; exact h0)]
    subst hr0; subst hb0
    have n1 : (r != 0) = true := by rw [bne_iff_ne]; exact h0
    clear hb hr h hL hc h0
    go_enter Tryz.func59, Tryz.ntmps59
    go_upto_region 1 with (fail)
    refine wp_gen (fun Wv => Bx Wv (w.heap.size) (82) (#[.int .i64 0, .int .i64 0, .int .i64 0, .int .i64 0, .bool false, .int .u64 0]) ∧ Below w.heap.size w Wv) ⟨((Bx.at_ (by simp))), ((Below.refl _ w).alloc (by simp <;> omega) _)⟩ ?_
    rintro wa1 ⟨g1, b⟩
    replace B := B.trans (b.mono B.size); clear b
    have c_g1 := g1.cell; have f_g1 := g1.free; have a_g1 := fun o => (g1.alloc o).cell; have d_g1 := fun o o2 => ((g1.alloc o).alloc o2).cell; have e_g1 := fun o => (g1.alloc o).free
    go_wp2_with fail
    refine (WT.out _ (H.out.below B)).mono ?_
    rintro e wa2 ⟨xl, rfl, ol, b⟩
    try clear c_g1 f_g1 a_g1 d_g1 e_g1
    replace g1 := g1.below b; have c_g1 := g1.cell; have f_g1 := g1.free; have a_g1 := fun o => (g1.alloc o).cell; have d_g1 := fun o o2 => ((g1.alloc o).alloc o2).cell; have e_g1 := fun o => (g1.alloc o).free; replace B := B.trans (b.mono B.size); clear b
    go_wp2
    refine bodyPost_ret (v := .tuple #[.agg #[.int .i64 0, .int .i64 0, .int .i64 0, .int .i64 0, .bool false, .int .u64 0], .int .i64 r]) (by simp [results, Tryz.results59, go_sem, c_g1, f_g1, a_g1, e_g1]) rfl ?_
    refine ⟨rfl, ?_⟩
    (repeat (first | refine Below.setCell ?_ (by first | exact Nat.le_refl _ | (simp <;> omega)) _ | refine Below.alloc ?_ (by first | exact B.size | (have := B.size; simp <;> omega)) _)); exact B
  case pos =>
    subst h0
    have hl9 : L.length ≤ 960 := by rw [hL]; exact all_len hc.symm
    have hszs : ∀ x ∈ L, 0 ≤ x.size ∧ x.size ≤ 100000 := fun x hx => by
      rw [hL] at hx
      obtain ⟨y, _, _, hs, h4, _⟩ := all_mem hc.symm hx
      have hz := szN_ge hs
      have : x.size = szN l y := by rw [h4]; exact stand_size hs
      omega
    have hrb : (∀ i, objIdx L a 0 = some i → b = becomes L i ∧ r = 0) ∧ (objIdx L a 0 = none → b = .none ∧ r = 6) := by
      constructor
      · intro i hi
        have hr0 : r = 0 := by rw [hr, arErr, if_pos hc.symm, ← hL, hi]; rfl
        exact ⟨by rw [hb, around, if_pos (by rw [← hr]; exact hr0), ← hL, hi]; rfl, hr0⟩
      · intro hf
        have hr0 : r = 6 := by rw [hr, arErr, if_pos hc.symm, ← hL, hf]; rfl
        exact ⟨by rw [hb, around, if_neg (by rw [← hr, hr0]; decide)], hr0⟩
    obtain ⟨N, hN⟩ : ∃ N, N = L.length := ⟨_, rfl⟩
    have HN := Lib.hid hN; have HRB := Lib.hid hrb; have HSZ := Lib.hid hszs
    have hN9 : N ≤ 960 := by omega
    clear hb hr h hL hc hl9 hN hrb hszs
    go_enter Tryz.func59, Tryz.ntmps59
    go_upto_region 1 with (fail)
    refine wp_gen (fun Wv => Bx Wv (w.heap.size) (82) (#[.int .i64 0, .int .i64 0, .int .i64 0, .int .i64 0, .bool false, .int .u64 0]) ∧ Below w.heap.size w Wv) ⟨((Bx.at_ (by simp))), ((Below.refl _ w).alloc (by simp <;> omega) _)⟩ ?_
    rintro wa1 ⟨g1, b⟩
    replace B := B.trans (b.mono B.size); clear b
    have c_g1 := g1.cell; have f_g1 := g1.free; have a_g1 := fun o => (g1.alloc o).cell; have d_g1 := fun o o2 => ((g1.alloc o).alloc o2).cell; have e_g1 := fun o => (g1.alloc o).free
    go_wp2_with fail
    refine (WT.out _ (H.out.below B)).mono ?_
    rintro e wa2 ⟨xl, rfl, ol, b⟩
    try clear c_g1 f_g1 a_g1 d_g1 e_g1
    replace g1 := g1.below b; have c_g1 := g1.cell; have f_g1 := g1.free; have a_g1 := fun o => (g1.alloc o).cell; have d_g1 := fun o o2 => ((g1.alloc o).alloc o2).cell; have e_g1 := fun o => (g1.alloc o).free; replace B := B.trans (b.mono B.size); clear b
    have lx := ol.rd.len
    rw [← HN.out] at lx
    have HO := Lib.hid ol.rd
    have hB1 := B.size
    have HB := Lib.hid (And.intro g1 B)
    have HBB := Lib.hid (Below.refl wa2.heap.size wa2)
    clear ol g1 B c_g1 f_g1 a_g1 d_g1 e_g1
    go_wp2
    go_loopg [23] N (fun g i wr => ∃ j : Nat, j ≤ N ∧ g = N - j ∧ i = .int .i64 j ∧ Hid (Below wa2.heap.size wa2 wr ∧ ∀ i c, i < j → L[i]? = some c → ¬ (c.at_ = a ∧ c.kind = 1)))
    case atStart => exact ⟨0, by omega, by omega, rfl, Lib.hid ⟨HBB.out, fun i c hi => by omega⟩⟩
    case round =>
      obtain ⟨j, hj, rfl, rfl, hh⟩ := hrel
      clear HBB
      have B2 := hh.out.1
      have HZ := Lib.hid hh.out.2
      have g1 := HB.out.1.below B2
      have B := HB.out.2.trans (B2.mono hB1)
      clear hh
      by_cases hlt : j < N
      · obtain ⟨bb, oo, x, ia, m0, m1, m2, m3, m4, m5, hx, _⟩ := (Blks.below HO.out B2).at_ (k := j) (by rw [← HN.out]; exact hlt)
        have HX := Lib.hid hx.out
        by_cases he : x.at_ = a ∧ x.kind = 1
        · have k1 : (x.at_ != a) = false := by rw [bne_eq_false_iff_eq]; exact he.1
          have k2 : (x.kind != 1) = false := by rw [bne_eq_false_iff_eq]; exact he.2
          have hidx := objIdx_first (k := 0) hx.out he.1 he.2 HZ.out
          rw [Nat.zero_add] at hidx
          obtain ⟨q1, q2⟩ := HRB.out.1 j hidx
          subst q2
          have HQ := Lib.hid q1; have HK := Lib.hid he.2
          have RB := Blks.below HO.out B2
          have hne0 : w.heap.size ≠ wr.heap.size := by have := g1.lt; omega
          obtain ⟨lo, hlo⟩ : ∃ lo, lo = if lowF L j = true then j - 1 else j := ⟨_, rfl⟩
          obtain ⟨hi, hhi⟩ : ∃ hi, hi = if highF L j = true then j + 1 else j := ⟨_, rfl⟩
          obtain ⟨jb1, jb2, jb3, jb4, jb5⟩ := join_becomes hx.out he.2 lo hi hlo hhi
          obtain ⟨sv, hcut, hsv⟩ := RB.cut (lo := lo) (hi := hi + 1) (by omega) (by omega)
          have JT := Lib.hid (fun w h => joined_any sv ((L.drop lo).take (hi + 1 - lo)) (becomes L j) jb1.symm (by rw [List.length_take, List.length_drop]; omega) (by rw [List.length_take]; omega) (fun c hc => HSZ.out c (List.mem_of_mem_drop (List.mem_of_mem_take hc))) w h)
          have HSV := Lib.hid hsv
          obtain ⟨bq, hbq⟩ : ∃ bq, bq = becomes L j := ⟨_, rfl⟩
          rw [← hbq] at JT q1
          have HQ := Lib.hid q1
          have wj1 : IntKind.i64.wrap ((j : Int) - 1) = (j : Int) - 1 := IntWalk.i64_in _ (by omega)
          have wj2 : IntKind.i64.wrap ((j : Int) + 1) = (j : Int) + 1 := IntWalk.i64_in _ (by omega)
          have wj3 : IntKind.i64.wrap ((j : Int) + 1 + 1) = (j : Int) + 1 + 1 := IntWalk.i64_in _ (by omega)
          have wj4 : IntKind.i64.wrap ((j : Int) - 1 + 1) = (j : Int) := by rw [show (j : Int) - 1 + 1 = (j : Int) by omega]; exact IntWalk.i64_in _ (by omega)
          have HLH := Lib.hid (And.intro hlo hhi); have HJ3 := Lib.hid (And.intro jb2 (And.intro jb3 jb4))
          clear he q1 hx hidx hlo hhi jb1 jb2 jb3 jb4 jb5 hsv hbq
          by_cases hj0 : 0 < j
          · obtain ⟨pb, po, px, ip, _, _, m8, _, _, _, hpx, _⟩ := RB.at_ (k := j - 1) (by rw [← HN.out]; omega)
            have ip2 : ∀ W, (Instr.indexAt 77 xl (.int .i64 ((j : Int) - 1))).run Tryz.prog W = .ok (.pointer (some ⟨pb, po, none⟩)) W := fun W => by rw [show ((j : Int) - 1) = ((j - 1 : Nat) : Int) by omega]; exact ip W
            have gj0 : decide ((0 : Int) < (j : Int)) = true := decide_eq_true (by omega)
            have gj0' : decide (0 < j) = true := decide_eq_true hj0
            have hlf : lowF L j = decide (px.kind = 2) := by
              unfold lowF
              rw [gj0', List.getD_eq_getElem?_getD, hpx.out]; rfl
            have HLF := Lib.hid hlf; have HPX := Lib.hid hpx.out
            clear ip hpx hlf
            by_cases hk2 : px.kind = 2
            · have kp : (px.kind == 2) = true := by rw [beq_iff_eq]; exact hk2
              have hloe : lo = j - 1 := by rw [HLH.out.1, HLF.out, if_pos (decide_eq_true hk2)]
              clear hk2
              by_cases hjn : j + 1 < N
              · obtain ⟨nb, no, nx, inn, _, _, m9, _, _, _, hnx, _⟩ := RB.at_ (k := j + 1) (by rw [← HN.out]; exact hjn)
                have in2 : ∀ W, (Instr.indexAt 77 xl (.int .i64 ((j : Int) + 1))).run Tryz.prog W = .ok (.pointer (some ⟨nb, no, none⟩)) W := inn
                have gn : decide ((j : Int) + 1 < (N : Int)) = true := decide_eq_true (by omega)
                have gn' : decide (j + 1 < N) = true := decide_eq_true hjn
                have hhf : highF L j = decide (nx.kind = 2) := by
                  unfold highF
                  rw [List.getD_eq_getElem?_getD, hnx.out]; rfl
                have HHF := Lib.hid hhf
                clear inn hnx hhf
                by_cases hk3 : nx.kind = 2
                · have kn : (nx.kind == 2) = true := by rw [beq_iff_eq]; exact hk3
                  have hhie : hi = j + 1 := by rw [HLH.out.2, HHF.out, if_pos (decide_eq_true hk3)]
                  clear hk3
                  have hcut2 : ∀ W, (Instr.sliceAt 77 xl (some (.int .i64 ((j : Int) - 1))) (some (.int .i64 ((j : Int) + 1 + 1))) none).run Tryz.prog W = .ok sv W := fun W => by
                    have := hcut W
                    rw [show ((lo : Nat) : Int) = ((j : Int) - 1) by have := hloe; omega, show ((hi + 1 : Nat) : Int) = (j : Int) + 1 + 1 by have := hhie; omega] at this
                    exact this
                  clear hcut
                  have B8 : Below wr.heap.size wr wr := Below.refl _ _
                  go_upto_region 7 with (fail)
                  refine wp_gen (fun Wv => Bx Wv (wr.heap.size) (82) (#[.int .i64 x.at_, .int .i64 x.size, .int .i64 x.kind, .int .i64 x.ty, .bool x.mark, .int .u64 x.next.toNat]) ∧ Below wr.heap.size wr Wv) ⟨((Bx.at_ (by simp))), ((Below.refl _ wr).alloc (by simp <;> omega) _)⟩ ?_
                  rintro wa3 ⟨g2, b⟩
                  try clear c_g1 f_g1 a_g1 d_g1 e_g1
                  replace g1 := g1.below b; have c_g1 := g1.cell; have f_g1 := g1.free; have a_g1 := fun o => (g1.alloc o).cell; have d_g1 := fun o o2 => ((g1.alloc o).alloc o2).cell; have e_g1 := fun o => (g1.alloc o).free; replace B8 := B8.trans (b.mono B8.size); replace m0 := cell_later b m0; replace m1 := cell_later b m1; replace m2 := cell_later b m2; replace m3 := cell_later b m3; replace m4 := cell_later b m4; replace m5 := cell_later b m5; replace m8 := cell_later b m8; replace m9 := cell_later b m9; replace B := B.trans (b.mono B.size); clear b
                  have c_g2 := g2.cell; have f_g2 := g2.free; have a_g2 := fun o => (g2.alloc o).cell; have d_g2 := fun o o2 => ((g2.alloc o).alloc o2).cell; have e_g2 := fun o => (g2.alloc o).free
                  have HSV2 := Lib.hid (Blks.below HSV.out B8)
                  clear a_g1 d_g1 e_g1 a_g2 d_g2 e_g2 f_g2
                  go_wp2_with fail
                  refine (JT.out _ HSV2.out).mono ?_
                  rintro e w9 ⟨rfl, b9⟩
                  replace g1 := g1.below b9
                  replace B := B.trans (b9.mono B.size)
                  have c_1 := g1.cell; have f_1 := g1.free
                  clear c_g1 f_g1 c_g2 b9
                  go_wp2
                  refine bodyPost_ret (v := .tuple #[.agg #[.int .i64 bq.at_, .int .i64 bq.size, .int .i64 bq.kind, .int .i64 bq.ty, .bool bq.mark, .int .u64 bq.next.toNat], .int .i64 0]) (by simp [results, Tryz.results59, go_sem, c_1, f_1]) rfl ?_
                  refine ⟨by rw [HQ.out], ?_⟩
                  (repeat (first | refine Below.setCell ?_ (by first | exact Nat.le_refl _ | (simp <;> omega)) _ | refine Below.alloc ?_ (by first | exact B.size | (have := B.size; simp <;> omega)) _)); exact B
                · have kn : (nx.kind == 2) = false := by rw [beq_eq_false_iff_ne]; exact hk3
                  have hhie : hi = j := by rw [HLH.out.2, HHF.out, if_neg (by simpa using hk3)]
                  clear hk3
                  have hcut2 : ∀ W, (Instr.sliceAt 77 xl (some (.int .i64 ((j : Int) - 1))) (some (.int .i64 ((j : Int) + 1))) none).run Tryz.prog W = .ok sv W := fun W => by
                    have := hcut W
                    rw [show ((lo : Nat) : Int) = ((j : Int) - 1) by have := hloe; omega, show ((hi + 1 : Nat) : Int) = (j : Int) + 1 by have := hhie; omega] at this
                    exact this
                  clear hcut
                  have B8 : Below wr.heap.size wr wr := Below.refl _ _
                  go_upto_region 7 with (fail)
                  refine wp_gen (fun Wv => Bx Wv (wr.heap.size) (82) (#[.int .i64 x.at_, .int .i64 x.size, .int .i64 x.kind, .int .i64 x.ty, .bool x.mark, .int .u64 x.next.toNat]) ∧ Below wr.heap.size wr Wv) ⟨((Bx.at_ (by simp))), ((Below.refl _ wr).alloc (by simp <;> omega) _)⟩ ?_
                  rintro wa4 ⟨g2, b⟩
                  try clear c_g1 f_g1 a_g1 d_g1 e_g1
                  replace g1 := g1.below b; have c_g1 := g1.cell; have f_g1 := g1.free; have a_g1 := fun o => (g1.alloc o).cell; have d_g1 := fun o o2 => ((g1.alloc o).alloc o2).cell; have e_g1 := fun o => (g1.alloc o).free; replace B8 := B8.trans (b.mono B8.size); replace m0 := cell_later b m0; replace m1 := cell_later b m1; replace m2 := cell_later b m2; replace m3 := cell_later b m3; replace m4 := cell_later b m4; replace m5 := cell_later b m5; replace m8 := cell_later b m8; replace m9 := cell_later b m9; replace B := B.trans (b.mono B.size); clear b
                  have c_g2 := g2.cell; have f_g2 := g2.free; have a_g2 := fun o => (g2.alloc o).cell; have d_g2 := fun o o2 => ((g2.alloc o).alloc o2).cell; have e_g2 := fun o => (g2.alloc o).free
                  have HSV2 := Lib.hid (Blks.below HSV.out B8)
                  clear a_g1 d_g1 e_g1 a_g2 d_g2 e_g2 f_g2
                  go_wp2_with fail
                  refine (JT.out _ HSV2.out).mono ?_
                  rintro e w9 ⟨rfl, b9⟩
                  replace g1 := g1.below b9
                  replace B := B.trans (b9.mono B.size)
                  have c_1 := g1.cell; have f_1 := g1.free
                  clear c_g1 f_g1 c_g2 b9
                  go_wp2
                  refine bodyPost_ret (v := .tuple #[.agg #[.int .i64 bq.at_, .int .i64 bq.size, .int .i64 bq.kind, .int .i64 bq.ty, .bool bq.mark, .int .u64 bq.next.toNat], .int .i64 0]) (by simp [results, Tryz.results59, go_sem, c_1, f_1]) rfl ?_
                  refine ⟨by rw [HQ.out], ?_⟩
                  (repeat (first | refine Below.setCell ?_ (by first | exact Nat.le_refl _ | (simp <;> omega)) _ | refine Below.alloc ?_ (by first | exact B.size | (have := B.size; simp <;> omega)) _)); exact B
              · have gn : decide ((j : Int) + 1 < (N : Int)) = false := decide_eq_false (by omega)
                have gn' : decide (j + 1 < N) = false := decide_eq_false hjn
                have hhie : hi = j := by
                  have : highF L j = false := by
                    unfold highF
                    rw [List.getD_eq_getElem?_getD, List.getElem?_eq_none (by rw [← HN.out]; omega)]; rfl
                  rw [HLH.out.2, this]; rfl
                have hcut2 : ∀ W, (Instr.sliceAt 77 xl (some (.int .i64 ((j : Int) - 1))) (some (.int .i64 ((j : Int) + 1))) none).run Tryz.prog W = .ok sv W := fun W => by
                  have := hcut W
                  rw [show ((lo : Nat) : Int) = ((j : Int) - 1) by have := hloe; omega, show ((hi + 1 : Nat) : Int) = (j : Int) + 1 by have := hhie; omega] at this
                  exact this
                clear hcut
                have B8 : Below wr.heap.size wr wr := Below.refl _ _
                go_upto_region 7 with (fail)
                refine wp_gen (fun Wv => Bx Wv (wr.heap.size) (82) (#[.int .i64 x.at_, .int .i64 x.size, .int .i64 x.kind, .int .i64 x.ty, .bool x.mark, .int .u64 x.next.toNat]) ∧ Below wr.heap.size wr Wv) ⟨((Bx.at_ (by simp))), ((Below.refl _ wr).alloc (by simp <;> omega) _)⟩ ?_
                rintro wa5 ⟨g2, b⟩
                try clear c_g1 f_g1 a_g1 d_g1 e_g1
                replace g1 := g1.below b; have c_g1 := g1.cell; have f_g1 := g1.free; have a_g1 := fun o => (g1.alloc o).cell; have d_g1 := fun o o2 => ((g1.alloc o).alloc o2).cell; have e_g1 := fun o => (g1.alloc o).free; replace B8 := B8.trans (b.mono B8.size); replace m0 := cell_later b m0; replace m1 := cell_later b m1; replace m2 := cell_later b m2; replace m3 := cell_later b m3; replace m4 := cell_later b m4; replace m5 := cell_later b m5; replace m8 := cell_later b m8; replace B := B.trans (b.mono B.size); clear b
                have c_g2 := g2.cell; have f_g2 := g2.free; have a_g2 := fun o => (g2.alloc o).cell; have d_g2 := fun o o2 => ((g2.alloc o).alloc o2).cell; have e_g2 := fun o => (g2.alloc o).free
                have HSV2 := Lib.hid (Blks.below HSV.out B8)
                clear a_g1 d_g1 e_g1 a_g2 d_g2 e_g2 f_g2
                go_wp2_with fail
                refine (JT.out _ HSV2.out).mono ?_
                rintro e w9 ⟨rfl, b9⟩
                replace g1 := g1.below b9
                replace B := B.trans (b9.mono B.size)
                have c_1 := g1.cell; have f_1 := g1.free
                clear c_g1 f_g1 c_g2 b9
                go_wp2
                refine bodyPost_ret (v := .tuple #[.agg #[.int .i64 bq.at_, .int .i64 bq.size, .int .i64 bq.kind, .int .i64 bq.ty, .bool bq.mark, .int .u64 bq.next.toNat], .int .i64 0]) (by simp [results, Tryz.results59, go_sem, c_1, f_1]) rfl ?_
                refine ⟨by rw [HQ.out], ?_⟩
                (repeat (first | refine Below.setCell ?_ (by first | exact Nat.le_refl _ | (simp <;> omega)) _ | refine Below.alloc ?_ (by first | exact B.size | (have := B.size; simp <;> omega)) _)); exact B
            · have kp : (px.kind == 2) = false := by rw [beq_eq_false_iff_ne]; exact hk2
              have hloe : lo = j := by rw [HLH.out.1, HLF.out, if_neg (by simpa using hk2)]
              clear hk2
              by_cases hjn : j + 1 < N
              · obtain ⟨nb, no, nx, inn, _, _, m9, _, _, _, hnx, _⟩ := RB.at_ (k := j + 1) (by rw [← HN.out]; exact hjn)
                have in2 : ∀ W, (Instr.indexAt 77 xl (.int .i64 ((j : Int) + 1))).run Tryz.prog W = .ok (.pointer (some ⟨nb, no, none⟩)) W := inn
                have gn : decide ((j : Int) + 1 < (N : Int)) = true := decide_eq_true (by omega)
                have gn' : decide (j + 1 < N) = true := decide_eq_true hjn
                have hhf : highF L j = decide (nx.kind = 2) := by
                  unfold highF
                  rw [List.getD_eq_getElem?_getD, hnx.out]; rfl
                have HHF := Lib.hid hhf
                clear inn hnx hhf
                by_cases hk3 : nx.kind = 2
                · have kn : (nx.kind == 2) = true := by rw [beq_iff_eq]; exact hk3
                  have hhie : hi = j + 1 := by rw [HLH.out.2, HHF.out, if_pos (decide_eq_true hk3)]
                  clear hk3
                  have hcut2 : ∀ W, (Instr.sliceAt 77 xl (some (.int .i64 (j : Int))) (some (.int .i64 ((j : Int) + 1 + 1))) none).run Tryz.prog W = .ok sv W := fun W => by
                    have := hcut W
                    rw [show ((lo : Nat) : Int) = (j : Int) by have := hloe; omega, show ((hi + 1 : Nat) : Int) = (j : Int) + 1 + 1 by have := hhie; omega] at this
                    exact this
                  clear hcut
                  have B8 : Below wr.heap.size wr wr := Below.refl _ _
                  go_upto_region 7 with (fail)
                  refine wp_gen (fun Wv => Bx Wv (wr.heap.size) (82) (#[.int .i64 x.at_, .int .i64 x.size, .int .i64 x.kind, .int .i64 x.ty, .bool x.mark, .int .u64 x.next.toNat]) ∧ Below wr.heap.size wr Wv) ⟨((Bx.at_ (by simp))), ((Below.refl _ wr).alloc (by simp <;> omega) _)⟩ ?_
                  rintro wa6 ⟨g2, b⟩
                  try clear c_g1 f_g1 a_g1 d_g1 e_g1
                  replace g1 := g1.below b; have c_g1 := g1.cell; have f_g1 := g1.free; have a_g1 := fun o => (g1.alloc o).cell; have d_g1 := fun o o2 => ((g1.alloc o).alloc o2).cell; have e_g1 := fun o => (g1.alloc o).free; replace B8 := B8.trans (b.mono B8.size); replace m0 := cell_later b m0; replace m1 := cell_later b m1; replace m2 := cell_later b m2; replace m3 := cell_later b m3; replace m4 := cell_later b m4; replace m5 := cell_later b m5; replace m8 := cell_later b m8; replace m9 := cell_later b m9; replace B := B.trans (b.mono B.size); clear b
                  have c_g2 := g2.cell; have f_g2 := g2.free; have a_g2 := fun o => (g2.alloc o).cell; have d_g2 := fun o o2 => ((g2.alloc o).alloc o2).cell; have e_g2 := fun o => (g2.alloc o).free
                  have HSV2 := Lib.hid (Blks.below HSV.out B8)
                  clear a_g1 d_g1 e_g1 a_g2 d_g2 e_g2 f_g2
                  go_wp2_with fail
                  refine (JT.out _ HSV2.out).mono ?_
                  rintro e w9 ⟨rfl, b9⟩
                  replace g1 := g1.below b9
                  replace B := B.trans (b9.mono B.size)
                  have c_1 := g1.cell; have f_1 := g1.free
                  clear c_g1 f_g1 c_g2 b9
                  go_wp2
                  refine bodyPost_ret (v := .tuple #[.agg #[.int .i64 bq.at_, .int .i64 bq.size, .int .i64 bq.kind, .int .i64 bq.ty, .bool bq.mark, .int .u64 bq.next.toNat], .int .i64 0]) (by simp [results, Tryz.results59, go_sem, c_1, f_1]) rfl ?_
                  refine ⟨by rw [HQ.out], ?_⟩
                  (repeat (first | refine Below.setCell ?_ (by first | exact Nat.le_refl _ | (simp <;> omega)) _ | refine Below.alloc ?_ (by first | exact B.size | (have := B.size; simp <;> omega)) _)); exact B
                · have kn : (nx.kind == 2) = false := by rw [beq_eq_false_iff_ne]; exact hk3
                  have hhie : hi = j := by rw [HLH.out.2, HHF.out, if_neg (by simpa using hk3)]
                  clear hk3
                  have hcut2 : ∀ W, (Instr.sliceAt 77 xl (some (.int .i64 (j : Int))) (some (.int .i64 ((j : Int) + 1))) none).run Tryz.prog W = .ok sv W := fun W => by
                    have := hcut W
                    rw [show ((lo : Nat) : Int) = (j : Int) by have := hloe; omega, show ((hi + 1 : Nat) : Int) = (j : Int) + 1 by have := hhie; omega] at this
                    exact this
                  clear hcut
                  have B8 : Below wr.heap.size wr wr := Below.refl _ _
                  go_upto_region 7 with (fail)
                  refine wp_gen (fun Wv => Bx Wv (wr.heap.size) (82) (#[.int .i64 x.at_, .int .i64 x.size, .int .i64 x.kind, .int .i64 x.ty, .bool x.mark, .int .u64 x.next.toNat]) ∧ Below wr.heap.size wr Wv) ⟨((Bx.at_ (by simp))), ((Below.refl _ wr).alloc (by simp <;> omega) _)⟩ ?_
                  rintro wa7 ⟨g2, b⟩
                  try clear c_g1 f_g1 a_g1 d_g1 e_g1
                  replace g1 := g1.below b; have c_g1 := g1.cell; have f_g1 := g1.free; have a_g1 := fun o => (g1.alloc o).cell; have d_g1 := fun o o2 => ((g1.alloc o).alloc o2).cell; have e_g1 := fun o => (g1.alloc o).free; replace B8 := B8.trans (b.mono B8.size); replace m0 := cell_later b m0; replace m1 := cell_later b m1; replace m2 := cell_later b m2; replace m3 := cell_later b m3; replace m4 := cell_later b m4; replace m5 := cell_later b m5; replace m8 := cell_later b m8; replace m9 := cell_later b m9; replace B := B.trans (b.mono B.size); clear b
                  have c_g2 := g2.cell; have f_g2 := g2.free; have a_g2 := fun o => (g2.alloc o).cell; have d_g2 := fun o o2 => ((g2.alloc o).alloc o2).cell; have e_g2 := fun o => (g2.alloc o).free
                  have HSV2 := Lib.hid (Blks.below HSV.out B8)
                  clear a_g1 d_g1 e_g1 a_g2 d_g2 e_g2 f_g2
                  go_wp2_with fail
                  refine (JT.out _ HSV2.out).mono ?_
                  rintro e w9 ⟨rfl, b9⟩
                  replace g1 := g1.below b9
                  replace B := B.trans (b9.mono B.size)
                  have c_1 := g1.cell; have f_1 := g1.free
                  clear c_g1 f_g1 c_g2 b9
                  go_wp2
                  refine bodyPost_ret (v := .tuple #[.agg #[.int .i64 bq.at_, .int .i64 bq.size, .int .i64 bq.kind, .int .i64 bq.ty, .bool bq.mark, .int .u64 bq.next.toNat], .int .i64 0]) (by simp [results, Tryz.results59, go_sem, c_1, f_1]) rfl ?_
                  refine ⟨by rw [HQ.out], ?_⟩
                  (repeat (first | refine Below.setCell ?_ (by first | exact Nat.le_refl _ | (simp <;> omega)) _ | refine Below.alloc ?_ (by first | exact B.size | (have := B.size; simp <;> omega)) _)); exact B
              · have gn : decide ((j : Int) + 1 < (N : Int)) = false := decide_eq_false (by omega)
                have gn' : decide (j + 1 < N) = false := decide_eq_false hjn
                have hhie : hi = j := by
                  have : highF L j = false := by
                    unfold highF
                    rw [List.getD_eq_getElem?_getD, List.getElem?_eq_none (by rw [← HN.out]; omega)]; rfl
                  rw [HLH.out.2, this]; rfl
                have hcut2 : ∀ W, (Instr.sliceAt 77 xl (some (.int .i64 (j : Int))) (some (.int .i64 ((j : Int) + 1))) none).run Tryz.prog W = .ok sv W := fun W => by
                  have := hcut W
                  rw [show ((lo : Nat) : Int) = (j : Int) by have := hloe; omega, show ((hi + 1 : Nat) : Int) = (j : Int) + 1 by have := hhie; omega] at this
                  exact this
                clear hcut
                have B8 : Below wr.heap.size wr wr := Below.refl _ _
                go_upto_region 7 with (fail)
                refine wp_gen (fun Wv => Bx Wv (wr.heap.size) (82) (#[.int .i64 x.at_, .int .i64 x.size, .int .i64 x.kind, .int .i64 x.ty, .bool x.mark, .int .u64 x.next.toNat]) ∧ Below wr.heap.size wr Wv) ⟨((Bx.at_ (by simp))), ((Below.refl _ wr).alloc (by simp <;> omega) _)⟩ ?_
                rintro wa8 ⟨g2, b⟩
                try clear c_g1 f_g1 a_g1 d_g1 e_g1
                replace g1 := g1.below b; have c_g1 := g1.cell; have f_g1 := g1.free; have a_g1 := fun o => (g1.alloc o).cell; have d_g1 := fun o o2 => ((g1.alloc o).alloc o2).cell; have e_g1 := fun o => (g1.alloc o).free; replace B8 := B8.trans (b.mono B8.size); replace m0 := cell_later b m0; replace m1 := cell_later b m1; replace m2 := cell_later b m2; replace m3 := cell_later b m3; replace m4 := cell_later b m4; replace m5 := cell_later b m5; replace m8 := cell_later b m8; replace B := B.trans (b.mono B.size); clear b
                have c_g2 := g2.cell; have f_g2 := g2.free; have a_g2 := fun o => (g2.alloc o).cell; have d_g2 := fun o o2 => ((g2.alloc o).alloc o2).cell; have e_g2 := fun o => (g2.alloc o).free
                have HSV2 := Lib.hid (Blks.below HSV.out B8)
                clear a_g1 d_g1 e_g1 a_g2 d_g2 e_g2 f_g2
                go_wp2_with fail
                refine (JT.out _ HSV2.out).mono ?_
                rintro e w9 ⟨rfl, b9⟩
                replace g1 := g1.below b9
                replace B := B.trans (b9.mono B.size)
                have c_1 := g1.cell; have f_1 := g1.free
                clear c_g1 f_g1 c_g2 b9
                go_wp2
                refine bodyPost_ret (v := .tuple #[.agg #[.int .i64 bq.at_, .int .i64 bq.size, .int .i64 bq.kind, .int .i64 bq.ty, .bool bq.mark, .int .u64 bq.next.toNat], .int .i64 0]) (by simp [results, Tryz.results59, go_sem, c_1, f_1]) rfl ?_
                refine ⟨by rw [HQ.out], ?_⟩
                (repeat (first | refine Below.setCell ?_ (by first | exact Nat.le_refl _ | (simp <;> omega)) _ | refine Below.alloc ?_ (by first | exact B.size | (have := B.size; simp <;> omega)) _)); exact B
          · have gj0 : decide ((0 : Int) < (j : Int)) = false := decide_eq_false (by omega)
            have gj0' : decide (0 < j) = false := decide_eq_false hj0
            have hloe : lo = j := by
              have : lowF L j = false := by unfold lowF; rw [gj0']; rfl
              rw [HLH.out.1, this]; rfl
            clear hj0
            by_cases hjn : j + 1 < N
            · obtain ⟨nb, no, nx, inn, _, _, m9, _, _, _, hnx, _⟩ := RB.at_ (k := j + 1) (by rw [← HN.out]; exact hjn)
              have in2 : ∀ W, (Instr.indexAt 77 xl (.int .i64 ((j : Int) + 1))).run Tryz.prog W = .ok (.pointer (some ⟨nb, no, none⟩)) W := inn
              have gn : decide ((j : Int) + 1 < (N : Int)) = true := decide_eq_true (by omega)
              have gn' : decide (j + 1 < N) = true := decide_eq_true hjn
              have hhf : highF L j = decide (nx.kind = 2) := by
                unfold highF
                rw [List.getD_eq_getElem?_getD, hnx.out]; rfl
              have HHF := Lib.hid hhf
              clear inn hnx hhf
              by_cases hk3 : nx.kind = 2
              · have kn : (nx.kind == 2) = true := by rw [beq_iff_eq]; exact hk3
                have hhie : hi = j + 1 := by rw [HLH.out.2, HHF.out, if_pos (decide_eq_true hk3)]
                clear hk3
                have hcut2 : ∀ W, (Instr.sliceAt 77 xl (some (.int .i64 (j : Int))) (some (.int .i64 ((j : Int) + 1 + 1))) none).run Tryz.prog W = .ok sv W := fun W => by
                  have := hcut W
                  rw [show ((lo : Nat) : Int) = (j : Int) by have := hloe; omega, show ((hi + 1 : Nat) : Int) = (j : Int) + 1 + 1 by have := hhie; omega] at this
                  exact this
                clear hcut
                have B8 : Below wr.heap.size wr wr := Below.refl _ _
                go_upto_region 7 with (fail)
                refine wp_gen (fun Wv => Bx Wv (wr.heap.size) (82) (#[.int .i64 x.at_, .int .i64 x.size, .int .i64 x.kind, .int .i64 x.ty, .bool x.mark, .int .u64 x.next.toNat]) ∧ Below wr.heap.size wr Wv) ⟨((Bx.at_ (by simp))), ((Below.refl _ wr).alloc (by simp <;> omega) _)⟩ ?_
                rintro wa9 ⟨g2, b⟩
                try clear c_g1 f_g1 a_g1 d_g1 e_g1
                replace g1 := g1.below b; have c_g1 := g1.cell; have f_g1 := g1.free; have a_g1 := fun o => (g1.alloc o).cell; have d_g1 := fun o o2 => ((g1.alloc o).alloc o2).cell; have e_g1 := fun o => (g1.alloc o).free; replace B8 := B8.trans (b.mono B8.size); replace m0 := cell_later b m0; replace m1 := cell_later b m1; replace m2 := cell_later b m2; replace m3 := cell_later b m3; replace m4 := cell_later b m4; replace m5 := cell_later b m5; replace m9 := cell_later b m9; replace B := B.trans (b.mono B.size); clear b
                have c_g2 := g2.cell; have f_g2 := g2.free; have a_g2 := fun o => (g2.alloc o).cell; have d_g2 := fun o o2 => ((g2.alloc o).alloc o2).cell; have e_g2 := fun o => (g2.alloc o).free
                have HSV2 := Lib.hid (Blks.below HSV.out B8)
                clear a_g1 d_g1 e_g1 a_g2 d_g2 e_g2 f_g2
                go_wp2_with fail
                refine (JT.out _ HSV2.out).mono ?_
                rintro e w9 ⟨rfl, b9⟩
                replace g1 := g1.below b9
                replace B := B.trans (b9.mono B.size)
                have c_1 := g1.cell; have f_1 := g1.free
                clear c_g1 f_g1 c_g2 b9
                go_wp2
                refine bodyPost_ret (v := .tuple #[.agg #[.int .i64 bq.at_, .int .i64 bq.size, .int .i64 bq.kind, .int .i64 bq.ty, .bool bq.mark, .int .u64 bq.next.toNat], .int .i64 0]) (by simp [results, Tryz.results59, go_sem, c_1, f_1]) rfl ?_
                refine ⟨by rw [HQ.out], ?_⟩
                (repeat (first | refine Below.setCell ?_ (by first | exact Nat.le_refl _ | (simp <;> omega)) _ | refine Below.alloc ?_ (by first | exact B.size | (have := B.size; simp <;> omega)) _)); exact B
              · have kn : (nx.kind == 2) = false := by rw [beq_eq_false_iff_ne]; exact hk3
                have hhie : hi = j := by rw [HLH.out.2, HHF.out, if_neg (by simpa using hk3)]
                clear hk3
                have hcut2 : ∀ W, (Instr.sliceAt 77 xl (some (.int .i64 (j : Int))) (some (.int .i64 ((j : Int) + 1))) none).run Tryz.prog W = .ok sv W := fun W => by
                  have := hcut W
                  rw [show ((lo : Nat) : Int) = (j : Int) by have := hloe; omega, show ((hi + 1 : Nat) : Int) = (j : Int) + 1 by have := hhie; omega] at this
                  exact this
                clear hcut
                have B8 : Below wr.heap.size wr wr := Below.refl _ _
                go_upto_region 7 with (fail)
                refine wp_gen (fun Wv => Bx Wv (wr.heap.size) (82) (#[.int .i64 x.at_, .int .i64 x.size, .int .i64 x.kind, .int .i64 x.ty, .bool x.mark, .int .u64 x.next.toNat]) ∧ Below wr.heap.size wr Wv) ⟨((Bx.at_ (by simp))), ((Below.refl _ wr).alloc (by simp <;> omega) _)⟩ ?_
                rintro wa10 ⟨g2, b⟩
                try clear c_g1 f_g1 a_g1 d_g1 e_g1
                replace g1 := g1.below b; have c_g1 := g1.cell; have f_g1 := g1.free; have a_g1 := fun o => (g1.alloc o).cell; have d_g1 := fun o o2 => ((g1.alloc o).alloc o2).cell; have e_g1 := fun o => (g1.alloc o).free; replace B8 := B8.trans (b.mono B8.size); replace m0 := cell_later b m0; replace m1 := cell_later b m1; replace m2 := cell_later b m2; replace m3 := cell_later b m3; replace m4 := cell_later b m4; replace m5 := cell_later b m5; replace m9 := cell_later b m9; replace B := B.trans (b.mono B.size); clear b
                have c_g2 := g2.cell; have f_g2 := g2.free; have a_g2 := fun o => (g2.alloc o).cell; have d_g2 := fun o o2 => ((g2.alloc o).alloc o2).cell; have e_g2 := fun o => (g2.alloc o).free
                have HSV2 := Lib.hid (Blks.below HSV.out B8)
                clear a_g1 d_g1 e_g1 a_g2 d_g2 e_g2 f_g2
                go_wp2_with fail
                refine (JT.out _ HSV2.out).mono ?_
                rintro e w9 ⟨rfl, b9⟩
                replace g1 := g1.below b9
                replace B := B.trans (b9.mono B.size)
                have c_1 := g1.cell; have f_1 := g1.free
                clear c_g1 f_g1 c_g2 b9
                go_wp2
                refine bodyPost_ret (v := .tuple #[.agg #[.int .i64 bq.at_, .int .i64 bq.size, .int .i64 bq.kind, .int .i64 bq.ty, .bool bq.mark, .int .u64 bq.next.toNat], .int .i64 0]) (by simp [results, Tryz.results59, go_sem, c_1, f_1]) rfl ?_
                refine ⟨by rw [HQ.out], ?_⟩
                (repeat (first | refine Below.setCell ?_ (by first | exact Nat.le_refl _ | (simp <;> omega)) _ | refine Below.alloc ?_ (by first | exact B.size | (have := B.size; simp <;> omega)) _)); exact B
            · have gn : decide ((j : Int) + 1 < (N : Int)) = false := decide_eq_false (by omega)
              have gn' : decide (j + 1 < N) = false := decide_eq_false hjn
              have hhie : hi = j := by
                have : highF L j = false := by
                  unfold highF
                  rw [List.getD_eq_getElem?_getD, List.getElem?_eq_none (by rw [← HN.out]; omega)]; rfl
                rw [HLH.out.2, this]; rfl
              have hcut2 : ∀ W, (Instr.sliceAt 77 xl (some (.int .i64 (j : Int))) (some (.int .i64 ((j : Int) + 1))) none).run Tryz.prog W = .ok sv W := fun W => by
                have := hcut W
                rw [show ((lo : Nat) : Int) = (j : Int) by have := hloe; omega, show ((hi + 1 : Nat) : Int) = (j : Int) + 1 by have := hhie; omega] at this
                exact this
              clear hcut
              have B8 : Below wr.heap.size wr wr := Below.refl _ _
              go_upto_region 7 with (fail)
              refine wp_gen (fun Wv => Bx Wv (wr.heap.size) (82) (#[.int .i64 x.at_, .int .i64 x.size, .int .i64 x.kind, .int .i64 x.ty, .bool x.mark, .int .u64 x.next.toNat]) ∧ Below wr.heap.size wr Wv) ⟨((Bx.at_ (by simp))), ((Below.refl _ wr).alloc (by simp <;> omega) _)⟩ ?_
              rintro wa11 ⟨g2, b⟩
              try clear c_g1 f_g1 a_g1 d_g1 e_g1
              replace g1 := g1.below b; have c_g1 := g1.cell; have f_g1 := g1.free; have a_g1 := fun o => (g1.alloc o).cell; have d_g1 := fun o o2 => ((g1.alloc o).alloc o2).cell; have e_g1 := fun o => (g1.alloc o).free; replace B8 := B8.trans (b.mono B8.size); replace m0 := cell_later b m0; replace m1 := cell_later b m1; replace m2 := cell_later b m2; replace m3 := cell_later b m3; replace m4 := cell_later b m4; replace m5 := cell_later b m5; replace B := B.trans (b.mono B.size); clear b
              have c_g2 := g2.cell; have f_g2 := g2.free; have a_g2 := fun o => (g2.alloc o).cell; have d_g2 := fun o o2 => ((g2.alloc o).alloc o2).cell; have e_g2 := fun o => (g2.alloc o).free
              have HSV2 := Lib.hid (Blks.below HSV.out B8)
              clear a_g1 d_g1 e_g1 a_g2 d_g2 e_g2 f_g2
              go_wp2_with fail
              refine (JT.out _ HSV2.out).mono ?_
              rintro e w9 ⟨rfl, b9⟩
              replace g1 := g1.below b9
              replace B := B.trans (b9.mono B.size)
              have c_1 := g1.cell; have f_1 := g1.free
              clear c_g1 f_g1 c_g2 b9
              go_wp2
              refine bodyPost_ret (v := .tuple #[.agg #[.int .i64 bq.at_, .int .i64 bq.size, .int .i64 bq.kind, .int .i64 bq.ty, .bool bq.mark, .int .u64 bq.next.toNat], .int .i64 0]) (by simp [results, Tryz.results59, go_sem, c_1, f_1]) rfl ?_
              refine ⟨by rw [HQ.out], ?_⟩
              (repeat (first | refine Below.setCell ?_ (by first | exact Nat.le_refl _ | (simp <;> omega)) _ | refine Below.alloc ?_ (by first | exact B.size | (have := B.size; simp <;> omega)) _)); exact B
        · have HZ2 : Hid (∀ i c, i < j + 1 → L[i]? = some c → ¬ (c.at_ = a ∧ c.kind = 1)) := Lib.hid (fun i c hi hc => by
            by_cases e : i = j
            · subst e; rw [HX.out] at hc; injection hc with hc; subst hc; exact he
            · exact HZ.out i c (by omega) hc)
          have hcase : (x.at_ != a) = true ∨ ((x.at_ != a) = false ∧ (x.kind != 1) = true) := by
            by_cases e : x.at_ = a
            · exact .inr ⟨by rw [bne_eq_false_iff_eq]; exact e, by rw [bne_iff_ne]; exact fun e2 => he ⟨e, e2⟩⟩
            · exact .inl (by rw [bne_iff_ne]; exact e)
          clear he hx
          rcases hcase with k1 | ⟨k1, k2⟩
          all_goals
            go_upto_region 7 with (fail)
            refine wp_gen (fun Wv => Bx Wv (wr.heap.size) (82) (#[.int .i64 x.at_, .int .i64 x.size, .int .i64 x.kind, .int .i64 x.ty, .bool x.mark, .int .u64 x.next.toNat]) ∧ Below wr.heap.size wr Wv) ⟨((Bx.at_ (by simp))), ((Below.refl _ wr).alloc (by simp <;> omega) _)⟩ ?_
            rintro wa12 ⟨g2, b⟩
            replace B2 := B2.trans (b.mono B2.size); replace B := B.trans (b.mono B.size); clear b
            have c_g2 := g2.cell; have f_g2 := g2.free; have a_g2 := fun o => (g2.alloc o).cell; have d_g2 := fun o o2 => ((g2.alloc o).alloc o2).cell; have e_g2 := fun o => (g2.alloc o).free
            have HQ := Lib.hid (And.intro B2 HZ2.out)
            go_wp2
            go_roundg (N - (j + 1))
            case measure => omega
            case rel => exact ⟨j + 1, by omega, rfl, by go_num, HQ⟩
      · obtain rfl : j = N := by omega
        have hf : objIdx L a 0 = none := objIdx_none.2 (fun y hy => by
          obtain ⟨i, hi⟩ := List.getElem?_of_mem hy
          exact HZ.out i y (by rw [HN.out]; exact (List.getElem?_eq_some_iff.1 hi).1) hi)
        obtain ⟨q1, q2⟩ := HRB.out.2 hf
        subst q2
        have HQ := Lib.hid q1
        clear hf q1
        have c_g1 := g1.cell; have f_g1 := g1.free
        go_wp2
        refine bodyPost_ret (v := .tuple #[.agg #[.int .i64 0, .int .i64 0, .int .i64 0, .int .i64 0, .bool false, .int .u64 0], .int .i64 6]) (by simp [results, Tryz.results59, go_sem, c_g1, f_g1]) rfl ?_
        refine ⟨by rw [HQ.out]; rfl, ?_⟩
        (repeat (first | refine Below.setCell ?_ (by first | exact Nat.le_refl _ | (simp <;> omega)) _ | refine Below.alloc ?_ (by first | exact B.size | (have := B.size; simp <;> omega)) _)); exact B
end Go.Proofs.YtmbokdnndlnjkaaGreat
namespace Go.Proofs.YtmbokdnndlnjkaaGreat
open Go.RowKit L01 L02 L05 L06 L07 L13 L14 L15 L16 L18 L19 L20
theorem L19.Hd.res_drop {l : List UInt64} {k a nn q : Nat} {sg : Int} {b : Hb} {t : List UInt8} (h : L19.Hd l k a nn q sg b t) : dropAt l k sg = ((112 + k : Nat) : Int) ∧ dropVal l k sg = pk ⟨sg, false, 0⟩ := by
  refine ⟨by rw [dropAt, if_pos h.hr]; omega, by rw [dropVal, if_pos h.hr]⟩
theorem ent_own2 {w : World} {base : Nat} {a b : Int} {x y : UInt64} (h : base ≤ w.heap.size) : OwnE (w.alloc (.cells #[.int .i64 a, .int .u64 x.toNat, .int .i64 b, .int .u64 y.toNat] 120)) base (.slice (some ⟨w.heap.size, 0, none⟩) 2 2) [(a, x), (b, y)] :=
  ⟨rfl, .inr ⟨w.heap.size, 2, #[.int .i64 a, .int .u64 x.toNat, .int .i64 b, .int .u64 y.toNat], rfl, h, Bx.new _ _ _, Nat.le_refl _, by decide, rfl, rfl⟩⟩
set_option maxRecDepth 100000 in
set_option maxHeartbeats 4000000 in
theorem Free23_any (v : Value) (l : List UInt64) (sl g : Int) (E : List (Int × UInt64)) (r : Int) (hx : E = fiL l sl g) (hr : r = fiE l sl g) (w : World) (h : Words w v l) :
    Calls Tryz.prog 16 #[v, .agg #[.int .i64 sl, .int .i64 g]] w fun e w' => ∃ y, e = .returned (.tuple #[y, .int .i64 r]) ∧ OwnE w' w.heap.size y E ∧ Below w.heap.size w w' := by
  have B : Below w.heap.size w w := Below.refl _ _
  have H := Lib.hid h
  obtain ⟨p, hp⟩ : ∃ c, c = atI l sl g := ⟨_, rfl⟩
  obtain ⟨d, hd⟩ : ∃ c, c = askI l sl g := ⟨_, rfl⟩
  obtain ⟨bb, hbb⟩ : ∃ c, c = biE l sl g := ⟨_, rfl⟩
  have OT := Lib.hid (fun w h => open23_any v l sl g p d hp hd w h)
  have BT := Lib.hid (fun w h => Busy23_any v l sl g bb d hbb hd w h)
  by_cases h0 : d = 0
  case neg =>
    have hrd : r = d := by rw [hr, fiE, if_neg (by rw [← hd]; exact h0), hd]
    obtain rfl : E = [] := by rw [hx, fiL, if_neg (by rw [← hr, hrd]; exact h0)]
    subst hrd
    have n1 : (r != 0) = true := by rw [bne_iff_ne]; exact h0
    clear hx hr h hp hd hbb h0 BT
    go_enter Tryz.func16, Tryz.ntmps16
    go_upto_region 1 with (fail)
    refine wp_gen (fun Wv => Bx Wv (w.heap.size) (39) (#[.int .i64 sl, .int .i64 g]) ∧ Below w.heap.size w Wv) ⟨((Bx.at_ (by simp))), ((Below.refl _ w).alloc (by simp <;> omega) _)⟩ ?_
    rintro wa1 ⟨g1, b⟩
    replace B := B.trans (b.mono B.size); clear b
    have c_g1 := g1.cell; have f_g1 := g1.free; have a_g1 := fun o => (g1.alloc o).cell; have d_g1 := fun o o2 => ((g1.alloc o).alloc o2).cell; have e_g1 := fun o => (g1.alloc o).free
    go_wp2_with fail
    refine (OT.out _ (H.out.below B)).mono ?_
    rintro e wa2 ⟨rfl, b⟩
    try clear c_g1 f_g1 a_g1 d_g1 e_g1
    replace g1 := g1.below b; have c_g1 := g1.cell; have f_g1 := g1.free; have a_g1 := fun o => (g1.alloc o).cell; have d_g1 := fun o o2 => ((g1.alloc o).alloc o2).cell; have e_g1 := fun o => (g1.alloc o).free; replace B := B.trans (b.mono B.size); clear b
    go_wp2
    go_ret2
    exact ⟨_, rfl, OwnE.nil _ _, B⟩
  case pos =>
    subst h0
    obtain ⟨k, a, nn, q0, bk, t0, rfl, hh⟩ := Hd.of hd.symm
    obtain rfl : p = (a : Int) := by rw [hp]; exact hh.hati
    cases bb
    case true =>
      have hB : Busy (L19.seen l) k (L20.own (L19.seen l) k) := by
        have := hbb
        rw [biE, decide_eq_true hd.symm, Bool.true_and] at this
        exact of_decide_eq_true this.symm
      have hrd : r = 45 := by rw [hr, fiE, if_pos hd.symm, if_pos hB]
      obtain rfl : E = [] := by rw [hx, fiL, if_neg (by rw [← hr, hrd]; decide)]
      subst hrd
      clear hx hr h hp hd hbb hB hh
      go_enter Tryz.func16, Tryz.ntmps16
      go_upto_region 1 with (fail)
      refine wp_gen (fun Wv => Bx Wv (w.heap.size) (39) (#[.int .i64 k, .int .i64 g]) ∧ Below w.heap.size w Wv) ⟨((Bx.at_ (by simp))), ((Below.refl _ w).alloc (by simp <;> omega) _)⟩ ?_
      rintro wa1 ⟨g1, b⟩
      replace B := B.trans (b.mono B.size); clear b
      have c_g1 := g1.cell; have f_g1 := g1.free; have a_g1 := fun o => (g1.alloc o).cell; have d_g1 := fun o o2 => ((g1.alloc o).alloc o2).cell; have e_g1 := fun o => (g1.alloc o).free
      go_wp2_with fail
      refine (OT.out _ (H.out.below B)).mono ?_
      rintro e wa2 ⟨rfl, b⟩
      try clear c_g1 f_g1 a_g1 d_g1 e_g1
      replace g1 := g1.below b; have c_g1 := g1.cell; have f_g1 := g1.free; have a_g1 := fun o => (g1.alloc o).cell; have d_g1 := fun o o2 => ((g1.alloc o).alloc o2).cell; have e_g1 := fun o => (g1.alloc o).free; replace B := B.trans (b.mono B.size); clear b
      go_wp2_with fail
      refine (BT.out _ (H.out.below B)).mono ?_
      rintro e wa3 ⟨rfl, b⟩
      try clear c_g1 f_g1 a_g1 d_g1 e_g1
      replace g1 := g1.below b; have c_g1 := g1.cell; have f_g1 := g1.free; have a_g1 := fun o => (g1.alloc o).cell; have d_g1 := fun o o2 => ((g1.alloc o).alloc o2).cell; have e_g1 := fun o => (g1.alloc o).free; replace B := B.trans (b.mono B.size); clear b
      go_wp2
      go_ret2
      exact ⟨_, rfl, OwnE.nil _ _, B⟩
    case false =>
      have hB : ¬ Busy (L19.seen l) k (L20.own (L19.seen l) k) := by
        have := hbb
        rw [biE, decide_eq_true hd.symm, Bool.true_and] at this
        exact of_decide_eq_false this.symm
      have hrd : r = 0 := by rw [hr, fiE, if_pos hd.symm, if_neg hB]
      obtain ⟨i, m, p, f1, f2, f3, f4, f5, f6, f7, f8, _⟩ := hh.free (by rw [← hr]; exact hrd)
      obtain ⟨x0, x1, x2, x3, x4⟩ := hh.block
      have ham : around l (a : Int) = m := by have := f3; unfold fiB at this; rwa [hh.hres] at this
      have hg := hh.res_drop
      obtain ⟨ev, hev⟩ : ∃ c, c = pk ⟨g, false, 0⟩ := ⟨_, rfl⟩
      obtain ⟨mv, hmv⟩ : ∃ c, c = L14.word m := ⟨_, rfl⟩
      have DT := Lib.hid (fun w h => Drop18_any v l k g ((112 + k : Nat) : Int) ev 0 (by rw [hg.1]) (by rw [hg.2, hev]) hh.hr.symm w h)
      have AT := Lib.hid (fun w h => Around_any v l (a : Int) m 0 ham.symm x3.symm w h)
      have WT := Lib.hid (fun w => HWord_any m mv 0 hmv (hErr_ok f6).symm w)
      rw [f8, ← hev, ← hmv] at hx
      subst hx; subst hrd
      obtain ⟨mat, msz, mk, mty, mm, mn⟩ := m
      dsimp only at f4 WT AT
      subst f4
      clear hr h hp hd hbb hB hh f1 f2 f3 f5 f6 f7 f8 x1 x2 x3 x4 ham hg hev hmv
      go_enter Tryz.func16, Tryz.ntmps16
      go_upto_region 1 with (fail)
      refine wp_gen (fun Wv => Bx Wv (w.heap.size) (39) (#[.int .i64 k, .int .i64 g]) ∧ Below w.heap.size w Wv) ⟨((Bx.at_ (by simp))), ((Below.refl _ w).alloc (by simp <;> omega) _)⟩ ?_
      rintro wa1 ⟨g1, b⟩
      replace B := B.trans (b.mono B.size); clear b
      have c_g1 := g1.cell; have f_g1 := g1.free; have a_g1 := fun o => (g1.alloc o).cell; have d_g1 := fun o o2 => ((g1.alloc o).alloc o2).cell; have e_g1 := fun o => (g1.alloc o).free
      go_wp2_with fail
      refine (OT.out _ (H.out.below B)).mono ?_
      rintro e wa2 ⟨rfl, b⟩
      try clear c_g1 f_g1 a_g1 d_g1 e_g1
      replace g1 := g1.below b; have c_g1 := g1.cell; have f_g1 := g1.free; have a_g1 := fun o => (g1.alloc o).cell; have d_g1 := fun o o2 => ((g1.alloc o).alloc o2).cell; have e_g1 := fun o => (g1.alloc o).free; replace B := B.trans (b.mono B.size); clear b
      go_wp2_with fail
      refine (BT.out _ (H.out.below B)).mono ?_
      rintro e wa3 ⟨rfl, b⟩
      try clear c_g1 f_g1 a_g1 d_g1 e_g1
      replace g1 := g1.below b; have c_g1 := g1.cell; have f_g1 := g1.free; have a_g1 := fun o => (g1.alloc o).cell; have d_g1 := fun o o2 => ((g1.alloc o).alloc o2).cell; have e_g1 := fun o => (g1.alloc o).free; replace B := B.trans (b.mono B.size); clear b
      go_wp2_with fail
      refine (DT.out _ (H.out.below B)).mono ?_
      rintro e wa4 ⟨rfl, b⟩
      try clear c_g1 f_g1 a_g1 d_g1 e_g1
      replace g1 := g1.below b; have c_g1 := g1.cell; have f_g1 := g1.free; have a_g1 := fun o => (g1.alloc o).cell; have d_g1 := fun o o2 => ((g1.alloc o).alloc o2).cell; have e_g1 := fun o => (g1.alloc o).free; replace B := B.trans (b.mono B.size); clear b
      clear c_g1 f_g1 a_g1 d_g1 e_g1
      clear g1
      go_upto_region 8 with (fail)
      refine wp_gen (fun Wv => Bx Wv (wa4.heap.size) (120) (#[.int .i64 ((112 + k : Nat) : Int), .int .u64 ev.toNat]) ∧ Below wa4.heap.size wa4 Wv) ⟨((Bx.at_ (by simp))), ((Below.refl _ wa4).alloc (by simp <;> omega) _)⟩ ?_
      rintro wa5 ⟨g2, b⟩
      replace B := B.trans (b.mono B.size); clear b
      have c_g2 := g2.cell; have f_g2 := g2.free; have a_g2 := fun o => (g2.alloc o).cell; have d_g2 := fun o o2 => ((g2.alloc o).alloc o2).cell; have e_g2 := fun o => (g2.alloc o).free
      go_wp2_with fail
      refine (AT.out _ (H.out.below B)).mono ?_
      rintro e wa6 ⟨rfl, b⟩
      try clear c_g2 f_g2 a_g2 d_g2 e_g2
      replace g2 := g2.below b; have c_g2 := g2.cell; have f_g2 := g2.free; have a_g2 := fun o => (g2.alloc o).cell; have d_g2 := fun o o2 => ((g2.alloc o).alloc o2).cell; have e_g2 := fun o => (g2.alloc o).free; replace B := B.trans (b.mono B.size); clear b
      go_upto_region 11 with (fail)
      refine wp_gen (fun Wv => Bx Wv (wa6.heap.size) (82) (#[.int .i64 p, .int .i64 msz, .int .i64 mk, .int .i64 mty, .bool mm, .int .u64 mn.toNat]) ∧ Below wa6.heap.size wa6 Wv) ⟨((Bx.at_ (by simp))), ((Below.refl _ wa6).alloc (by simp <;> omega) _)⟩ ?_
      rintro wa7 ⟨g3, b⟩
      try clear c_g2 f_g2 a_g2 d_g2 e_g2
      replace g2 := g2.below b; have c_g2 := g2.cell; have f_g2 := g2.free; have a_g2 := fun o => (g2.alloc o).cell; have d_g2 := fun o o2 => ((g2.alloc o).alloc o2).cell; have e_g2 := fun o => (g2.alloc o).free; replace B := B.trans (b.mono B.size); clear b
      have c_g3 := g3.cell; have f_g3 := g3.free; have a_g3 := fun o => (g3.alloc o).cell; have d_g3 := fun o o2 => ((g3.alloc o).alloc o2).cell; have e_g3 := fun o => (g3.alloc o).free
      go_wp2_with fail
      refine (WT.out _).mono ?_
      rintro e wa8 ⟨rfl, b⟩
      try clear c_g2 f_g2 a_g2 d_g2 e_g2
      replace g2 := g2.below b; have c_g2 := g2.cell; have f_g2 := g2.free; have a_g2 := fun o => (g2.alloc o).cell; have d_g2 := fun o o2 => ((g2.alloc o).alloc o2).cell; have e_g2 := fun o => (g2.alloc o).free; try clear c_g3 f_g3 a_g3 d_g3 e_g3
      replace g3 := g3.below b; have c_g3 := g3.cell; have f_g3 := g3.free; have a_g3 := fun o => (g3.alloc o).cell; have d_g3 := fun o o2 => ((g3.alloc o).alloc o2).cell; have e_g3 := fun o => (g3.alloc o).free; replace B := B.trans (b.mono B.size); clear b
      go_upto_region 14 with (fail)
      go_wp2
      go_ret2
      exact ⟨_, rfl, ent_own2 B.size, B.alloc B.size _⟩
end Go.Proofs.YtmbokdnndlnjkaaGreat
namespace Go.Proofs.YtmbokdnndlnjkaaGreat
open Go Go.RowKit
def Φ2 (k0 k1 : Nat) (Ψ0 Ψ1 : Value → World → Prop) (k : Nat) (g : Nat → Value) (W : World) : Prop := (k = k0 → Ψ0 (g k0) W) ∧ (k = k1 → Ψ1 (g k1) W)
def V2 (k0 k1 : Nat) (V0 V1 : Value → Prop) (k : Nat) (v : Value) : Prop := (k = k0 → V0 v) ∧ (k = k1 → V1 v)
end Go.Proofs.YtmbokdnndlnjkaaGreat
namespace Go.Proofs.YtmbokdnndlnjkaaGreat
open Go Go.RowKit
def V1 (k0 : Nat) (V0 : Value → Prop) (k : Nat) (v : Value) : Prop := k = k0 → V0 v
def dep1 (_k : Nat) : List Nat := []
end Go.Proofs.YtmbokdnndlnjkaaGreat
namespace Go.Proofs.YtmbokdnndlnjkaaGreat
open Go Go.RowKit
theorem wp_region_f3 {P : Program} {id : Nat} {Q : Exit → Act → World → Prop} {a : Act} {w : World} {l : List Oper} (n k0 k1 : Nat) (V0 V1 : Value → Prop) (Ψ0 Ψ1 : Value → World → Prop) (hk : k0 ≠ k1) (e0 : ∃ v, V0 v) (e1 : ∃ v, V1 v)
    (hst0 : ∀ v W W', Ψ0 v W → Below W.heap.size W W' → Ψ0 v W') (hst1 : ∀ v W W', Ψ1 v W → Below W.heap.size W W' → Ψ1 v W')
    (hm : P.follows .mixedOrders = true) (hB : Region.lexTailB .any l.toArray n = true)
    (hnj : (([k0, k1] : List Nat).all fun k => decide (k < n) && match l.toArray[k]? with | some o => (dep1 k).all (fun j => ([k0, k1] : List Nat).contains j && o.after.any fun e => Region.binds .any e && e.on == j) | none => false) = true)
    (h : ∀ g, V0 (g k0) → V1 (g k1) → wpM P .any l.toArray (CH w [k0, k1] dep1 (Φ2 k0 k1 Ψ0 Ψ1) g) (fun i => ([k0, k1] : List Nat).contains i) g (TS P w dep1 (V2 k0 k1 V0 V1) (Φ2 k0 k1 Ψ0 Ψ1) g)
      (fun a' => ∀ W, Below w.heap.size w W → Ψ0 (g k0) W → Ψ1 (g k1) W → wpList P l.toArray Q (l.drop n) a' W) (l.take n) 0 a) : (Code.region id l.toArray true).wp P Q a w := by
  refine wp_region_ftail n [k0, k1] dep1 (V2 k0 k1 V0 V1) (Φ2 k0 k1 Ψ0 Ψ1) hm hB hnj ?_ ?_ ?_ ?_
  · intro k hk g W W' h hb
    exact ⟨fun e => hst0 _ _ _ (h.1 e) hb, fun e => hst1 _ _ _ (h.2 e) hb⟩
  · intro k hk g g' W he h
    refine ⟨fun e => ?_, fun e => ?_⟩
    · subst e; rw [← he k (.inl rfl)]; exact h.1 rfl
    · subst e; rw [← he k (.inl rfl)]; exact h.2 rfl
  · intro k _
    obtain ⟨v0, h0⟩ := e0
    obtain ⟨v1, h1⟩ := e1
    by_cases e : k = k0
    · exact ⟨v0, fun _ => h0, fun e' => absurd (e.symm.trans e') hk⟩
    · exact ⟨v1, fun e' => absurd e' e, fun _ => h1⟩
  · intro g hV
    have h1 := h g ((hV k0 (by simp)).1 rfl) ((hV k1 (by simp)).2 rfl)
    have mono : ∀ (C : Array Bool → World → Prop) (nn : Nat → Bool) (T : Nat → Sem Next → Prop) (r : List Oper) (k : Nat) (a' : Act), wpM P .any l.toArray C nn g T
        (fun a' => ∀ W, Below w.heap.size w W → Ψ0 (g k0) W → Ψ1 (g k1) W → wpList P l.toArray Q (l.drop n) a' W) r k a' → wpM P .any l.toArray C nn g T
        (fun a' => ∀ W, Below w.heap.size w W → (∀ k ∈ [k0, k1], Φ2 k0 k1 Ψ0 Ψ1 k g W) → wpList P l.toArray Q (l.drop n) a' W) r k a' := by
      intro C nn T r
      induction r with
      | nil =>
        intro k a' h0 W hW hΦ
        exact h0 W hW ((hΦ k0 (by simp)).1 rfl) ((hΦ k1 (by simp)).2 rfl)
      | cons o r ih => intro k a' h0; obtain ⟨v, h1, h2⟩ := h0; exact ⟨v, h1, ih _ _ h2⟩
    exact mono _ _ _ _ _ _ h1
end Go.Proofs.YtmbokdnndlnjkaaGreat
namespace Go.Proofs.YtmbokdnndlnjkaaGreat.L19
open L02 L05 L06 L07 L13 L14 L15 L18
/-- words written from an address on -/
def putW (l : List UInt64) (a : Nat) : List UInt64 → List UInt64
  | [] => l
  | x :: xs => putW (l.set a x) (a + 1) xs
theorem putW_len : ∀ (xs : List UInt64) (l : List UInt64) (a : Nat), (putW l a xs).length = l.length
  | [], l, a => rfl
  | x :: xs, l, a => by rw [putW, putW_len xs]; simp
end Go.Proofs.YtmbokdnndlnjkaaGreat.L19
namespace Go.Proofs.YtmbokdnndlnjkaaGreat.L19
open L02 L05 L06 L07 L13 L14 L15 L16 L18 L20
theorem putW_eq : ∀ (m l : List UInt64) (a : Nat), a + m.length ≤ l.length → putW l a m = l.take a ++ (m ++ l.drop (a + m.length))
  | [], l, a, h => by simp [putW]
  | x :: xs, l, a, h => by
    rw [List.length_cons] at h
    rw [putW, putW_eq xs _ _ (by rw [List.length_set]; omega), List.length_cons]
    have h1 : (l.set a x).take (a + 1) = l.take a ++ [x] := by
      rw [List.take_add_one, List.take_set_of_le (Nat.le_refl a), List.getElem?_set_self (by omega)]; rfl
    have h2 : (l.set a x).drop (a + 1 + xs.length) = l.drop (a + 1 + xs.length) := by
      rw [List.drop_set_of_lt (by omega)]
    rw [h1, h2, List.append_assoc, List.cons_append, List.nil_append, show a + 1 + xs.length = a + (xs.length + 1) by omega]
    rfl
end Go.Proofs.YtmbokdnndlnjkaaGreat.L19
