/- Contracts of the functions that the laws 'R' reach, part 13. No condition. -/
import Derived.Test.YtmbokdnndlnjkaaGreatMRl
set_option linter.unusedVariables false
set_option linter.unusedSimpArgs false
namespace Go.Proofs.YtmbokdnndlnjkaaGreat
open Go.RowKit L01 L02 L05 L07 L13 L14 L15 L18 L19
theorem in19_of {l : List UInt64} (h : allErr l = 0) {b : Hb} (hb : b ∈ O19 l) : In19 l b := by
  obtain ⟨a, h1, h2, h3, h4, h5, h6, _⟩ := objs_at h hb
  exact ⟨a, h2, by rw [h6]; exact stand_ok h5, by omega⟩
/-- the first that fails of five -/
theorem whyO_at {l : List UInt64} {T : List (List UInt8)} {O : List Hb} : ∀ (f r k : Nat), k < f → (∀ i, i < k → AllGood l T O (r + i)) → ¬ AllGood l T O (r + k) → whyO l T O f r = r + k
  | 0, r, k, hk, _, _ => by omega
  | f + 1, r, 0, hk, h1, h2 => by
    rw [Nat.add_zero] at h2
    rw [whyO, if_neg h2]; rfl
  | f + 1, r, k + 1, hk, h1, h2 => by
    have h0 := h1 0 (by omega)
    rw [Nat.add_zero] at h0
    rw [whyO, if_pos h0, whyO_at f (r + 1) k (by omega) (fun i hi => by have := h1 (i + 1) (by omega); rwa [show r + 1 + i = r + (i + 1) by omega]) (by rwa [show r + 1 + k = r + (k + 1) by omega])]
    omega
set_option maxRecDepth 100000 in
set_option maxHeartbeats 8000000 in
theorem Reason_any (v : Value) (l : List UInt64) (n : Nat) (r : Int) (hn : n = rea l) (hr : r = reaE l) (w : World) (h : Words w v l) :
    Calls Tryz.prog 24 #[v] w fun e w' => e = .returned (.tuple #[.int .i64 n, .int .i64 r]) ∧ Below w.heap.size w w' := by
  have B : Below w.heap.size w w := Below.refl _ _
  obtain ⟨vA, vn, vc, rfl⟩ : ∃ A n c, v = .slice A n c := by obtain ⟨A, c, e, _⟩ := h; exact ⟨A, _, c, e⟩
  have H := Lib.hid h
  obtain ⟨c, hc⟩ : ∃ c, c = chk l := ⟨_, rfl⟩
  have CT : Hid (∀ w, Words w (.slice vA vn vc) l → Calls Tryz.prog 83 #[.slice vA vn vc] w fun e w' => e = .returned (.int .i64 c) ∧ w = w') := by rw [hc]; exact Lib.hid (fun w h => Check_any _ l w h)
  by_cases hs : SizeOk l.length
  case neg =>
    have hr0 : r = 8 := by rw [hr, reaE, if_neg hs]
    have hn0 : n = 0 := by rw [hn, rea, if_neg hs]
    have hc8 : c = 8 := by rw [hc, chk_no hs]
    subst hr0; subst hn0; subst hc8
    clear hr hn hs hc h
    go_enter Tryz.func24, Tryz.ntmps24
    go_wp2_with fail
    refine (CT.out _ (H.out.below B)).mono ?_
    rintro e w' ⟨rfl, rfl⟩
    go_wp2
    go_ret2
    exact ⟨rfl, B⟩
  case pos =>
    have hr0 : r = 0 := by rw [hr, reaE, if_pos hs]
    have hnw : n = why l := by rw [hn, rea, if_pos hs]
    have hc0 : c = 0 := by rw [hc, chk_ok hs]
    subst hr0; subst hc0
    obtain ⟨r6, hr6⟩ : ∃ x, x = why6 l := ⟨_, rfl⟩
    have PT := Lib.hid (fun w h => parts_any (.slice vA vn vc) l hs r6 hr6 w h)
    by_cases h6 : r6 = 0
    case neg =>
      have hn0 : n = r6 := by rw [hnw, why, if_pos (by rw [← hr6]; exact h6), hr6]
      have n1 : ((r6 : Int) != 0) = true := by rw [bne_iff_ne]; omega
      have h6' := h6
      subst hn0
      clear hr hn hs hc h hnw hr6 h6
      go_enter Tryz.func24, Tryz.ntmps24
      go_wp2_with fail
      refine (CT.out _ (H.out.below B)).mono ?_
      rintro e w' ⟨rfl, rfl⟩
      go_wp2_with fail
      refine (PT.out _ (H.out.below B)).mono ?_
      rintro e wa1 ⟨a, b, c, d, m, rfl, -, hz, b⟩
      replace B := B.trans (b.mono B.size); clear b
      obtain ⟨rfl, rfl, rfl, rfl, rfl⟩ := hz h6'
      go_wp2
      go_ret2
      refine ⟨rfl, ?_⟩
      (repeat (first | refine Below.setCell ?_ (by first | exact Nat.le_refl _ | (simp <;> omega)) _ | refine Below.alloc ?_ (by first | exact B.size | (have := B.size; simp <;> omega)) _)); exact B
    case pos =>
      subst h6
      obtain ⟨e1, e2, e3, e4, e5, e6⟩ := why6_zero.1 hr6.symm
      have hT := (T19_ok e4).2
      have hIn : ∀ b ∈ O19 l, In19 l b := fun b hb => in19_of e6 hb
      have hOl : ∀ b ∈ O19 l, b.at_ < l.length := fun b hb => by obtain ⟨a, _, h2, h3, h4, _, _, _, h8, _⟩ := objs_at e6 hb; omega
      have hl1 : l.length ≤ 1000000 := by have := hs.2.1; omega
      have hsn := slots_len' e5
      obtain ⟨c7, hc7⟩ : ∃ c, c = decide (AllGood l (T19 l) (O19 l) 7) := ⟨_, rfl⟩
      obtain ⟨c8, hc8⟩ : ∃ c, c = decide (AllGood l (T19 l) (O19 l) 8) := ⟨_, rfl⟩
      obtain ⟨c9, hc9⟩ : ∃ c, c = decide (AllGood l (T19 l) (O19 l) 9) := ⟨_, rfl⟩
      obtain ⟨c10, hc10⟩ : ∃ c, c = decide (AllGood l (T19 l) (O19 l) 10) := ⟨_, rfl⟩
      obtain ⟨c11, hc11⟩ : ∃ c, c = decide (AllGood l (T19 l) (O19 l) 11) := ⟨_, rfl⟩
      have E7 := Lib.hid (fun (tv sv bv : Value) (g gn : Nat) (w : World) (h : Sg w (.slice vA vn vc) tv sv bv g gn l (T19 l) (slots l) (O19 l)) => each_any 85 (.slice vA vn vc) tv sv bv g (O19 l) (fun b => decide (Idle b)) c7 (by rw [hc7]; simp only [decide_eq_true_iff]; rfl) (fun _ _ => rfl) w h.b (fun b hb W hW => idleB_any _ tv sv bv g b _ rfl W))
      have E8 := Lib.hid (fun (tv sv bv : Value) (g gn : Nat) (w : World) (h : Sg w (.slice vA vn vc) tv sv bv g gn l (T19 l) (slots l) (O19 l)) => each_any 86 (.slice vA vn vc) tv sv bv g (O19 l) (fun b => decide (Typed (T19 l) b)) c8 (by rw [hc8]; simp only [decide_eq_true_iff]; rfl) (fun _ _ => rfl) w h.b (fun b hb W hW => typedB_any _ tv sv bv g (T19 l) b _ rfl (by obtain ⟨a, _, hk, _⟩ := hIn b hb; exact hk.bounds.2.2.2.2.1) hT W (h.t.below hW)))
      have E9 := Lib.hid (fun (h8 : AllGood l (T19 l) (O19 l) 8) (tv sv bv : Value) (g gn : Nat) (w : World) (h : Sg w (.slice vA vn vc) tv sv bv g gn l (T19 l) (slots l) (O19 l)) => each_any 87 (.slice vA vn vc) tv sv bv g (O19 l) (fun b => decide (Padded l (T19 l) b)) c9 (by rw [hc9]; simp only [decide_eq_true_iff]; rfl) (fun _ _ => rfl) w h.b (fun b hb W hW => paddedB_any _ tv sv bv g l (T19 l) b _ rfl (hIn b hb) (h8 b hb) hl1 W (h.w.below hW) (h.t.below hW)))
      have E10 := Lib.hid (fun (h8 : AllGood l (T19 l) (O19 l) 8) (tv sv bv : Value) (g gn : Nat) (w : World) (h : Sg w (.slice vA vn vc) tv sv bv g gn l (T19 l) (slots l) (O19 l)) => each_any 88 (.slice vA vn vc) tv sv bv g (O19 l) (fun b => decide (FloatsB l (T19 l) b)) c10 (by rw [hc10]; simp only [decide_eq_true_iff]; rfl) (fun _ _ => rfl) w h.b (fun b hb W hW => floatsB_any _ tv sv bv g l (T19 l) b _ rfl (hIn b hb) (h8 b hb) hl1 W (h.w.below hW) (h.t.below hW)))
      have E11 := Lib.hid (fun (h8 : AllGood l (T19 l) (O19 l) 8) (tv sv bv : Value) (g gn : Nat) (w : World) (h : Sg w (.slice vA vn vc) tv sv bv g gn l (T19 l) (slots l) (O19 l)) => each_any 89 (.slice vA vn vc) tv sv bv g (O19 l) (fun b => decide (RefsB l (T19 l) (O19 l) b)) c11 (by rw [hc11]; simp only [decide_eq_true_iff]; rfl) (fun _ _ => rfl) w h.b (fun b hb W hW => refsB_any _ tv sv bv g gn l (T19 l) (slots l) (O19 l) b _ rfl (hIn b hb) (h8 b hb) hl1 hOl W (h.below hW)))
      have hwO : n = if whyO l (T19 l) (O19 l) 5 7 ≠ 0 then whyO l (T19 l) (O19 l) 5 7 else if SlotsGood (slots l) (O19 l) then 0 else 12 := by
        rw [hnw, why, if_neg (by rw [← hr6]; exact fun h => h rfl)]
      have HW := Lib.hid hwO
      have HCS := Lib.hid (And.intro hc7 (And.intro hc8 (And.intro hc9 (And.intro hc10 hc11))))
      have HSN := Lib.hid hsn
      have hI64 : ∀ s ∈ slots l, s.used = true → i64Ok s.at_ := fun s hs' hu => by
        obtain ⟨x, hx, rfl⟩ := List.mem_map.1 hs'
        have := (allR_of e5 x hx).2.2.2 hu
        exact ⟨by omega, by omega⟩
      have HI := Lib.hid hI64
      clear hr hn hs hc h hnw hr6 e1 e2 e3 e4 e5 e6 hT hIn hOl hl1 hsn hc7 hc8 hc9 hc10 hc11 hwO hI64
      go_enter Tryz.func24, Tryz.ntmps24
      go_wp2_with fail
      refine (CT.out _ (H.out.below B)).mono ?_
      rintro e w' ⟨rfl, rfl⟩
      go_wp2_with fail
      refine (PT.out _ (H.out.below B)).mono ?_
      rintro e wa1 ⟨a, tv, sv, bv, m, rfl, hsg, -, b⟩
      replace B := B.trans (b.mono B.size); clear b
      obtain ⟨rfl, g, gn, rfl, sg⟩ := hsg (by trivial)
      obtain ⟨tA, tn, tc, rfl⟩ : ∃ A n c, tv = .slice A n c := by obtain ⟨_, _, ⟨A, c, e, _⟩, _⟩ := sg.t; exact ⟨A, _, c, e⟩
      obtain ⟨sA, sn, sc, rfl⟩ : ∃ A n c, sv = .slice A n c := by obtain ⟨A, c, e, _⟩ := sg.s; exact ⟨A, _, c, e⟩
      obtain ⟨bA, bn, bc, rfl⟩ : ∃ A n c, bv = .slice A n c := by obtain ⟨A, c, e⟩ := sg.b.form; exact ⟨A, _, c, e⟩
      go_upto_region 5 with (fail)
      refine wp_gen (fun Wv => Bx Wv (wa1.heap.size) (158) (#[.slice vA vn vc, .slice tA tn tc, .slice sA sn sc, .slice bA bn bc, .map (some g)]) ∧ Below wa1.heap.size wa1 Wv) ⟨((Bx.at_ (by simp))), ((Below.refl _ wa1).alloc (by simp <;> omega) _)⟩ ?_
      rintro wa2 ⟨g1, b⟩
      replace sg := sg.below b; replace B := B.trans (b.mono B.size); clear b
      have c_g1 := g1.cell; have f_g1 := g1.free; have a_g1 := fun o => (g1.alloc o).cell; have d_g1 := fun o o2 => ((g1.alloc o).alloc o2).cell; have e_g1 := fun o => (g1.alloc o).free
      go_upto_region 7 with (fail)
      go_wp2
      refine wp_gen (fun Wv => Bx Wv (wa2.heap.size) (161) (#[.func (.func 85) #[.agg #[.slice vA vn vc, .slice tA tn tc, .slice sA sn sc, .slice bA bn bc, .map (some g)]] #[], .func (.func 86) #[.agg #[.slice vA vn vc, .slice tA tn tc, .slice sA sn sc, .slice bA bn bc, .map (some g)]] #[], .func (.func 87) #[.agg #[.slice vA vn vc, .slice tA tn tc, .slice sA sn sc, .slice bA bn bc, .map (some g)]] #[], .func (.func 88) #[.agg #[.slice vA vn vc, .slice tA tn tc, .slice sA sn sc, .slice bA bn bc, .map (some g)]] #[], .func (.func 89) #[.agg #[.slice vA vn vc, .slice tA tn tc, .slice sA sn sc, .slice bA bn bc, .map (some g)]] #[]]) ∧ Below wa2.heap.size wa2 Wv) ⟨((Bx.at_ (by simp))), ((Below.refl _ wa2).alloc (by simp <;> omega) _)⟩ ?_
      rintro wa3 ⟨g2, b⟩
      replace sg := sg.below b; try clear c_g1 f_g1 a_g1 d_g1 e_g1
      replace g1 := g1.below b; have c_g1 := g1.cell; have f_g1 := g1.free; have a_g1 := fun o => (g1.alloc o).cell; have d_g1 := fun o o2 => ((g1.alloc o).alloc o2).cell; have e_g1 := fun o => (g1.alloc o).free; replace B := B.trans (b.mono B.size); clear b
      have c_g2 := g2.cell; have f_g2 := g2.free; have a_g2 := fun o => (g2.alloc o).cell; have d_g2 := fun o o2 => ((g2.alloc o).alloc o2).cell; have e_g2 := fun o => (g2.alloc o).free
      have HG0 := Lib.hid (And.intro g1 (And.intro g2 (And.intro sg B)))
      clear g1 g2 sg B c_g1 f_g1 a_g1 d_g1 e_g1 c_g2 f_g2 a_g2 d_g2 e_g2
      go_loopg [36] 5 (fun gg i wr => ∃ j : Nat, j ≤ 5 ∧ gg = 5 - j ∧ i = .int .i64 j ∧ Hid (Bx wr wa1.heap.size 158 #[.slice vA vn vc, .slice tA tn tc, .slice sA sn sc, .slice bA bn bc, .map (some g)] ∧ Bx wr wa2.heap.size 161 #[.func (.func 85) #[.agg #[.slice vA vn vc, .slice tA tn tc, .slice sA sn sc, .slice bA bn bc, .map (some g)]] #[], .func (.func 86) #[.agg #[.slice vA vn vc, .slice tA tn tc, .slice sA sn sc, .slice bA bn bc, .map (some g)]] #[], .func (.func 87) #[.agg #[.slice vA vn vc, .slice tA tn tc, .slice sA sn sc, .slice bA bn bc, .map (some g)]] #[], .func (.func 88) #[.agg #[.slice vA vn vc, .slice tA tn tc, .slice sA sn sc, .slice bA bn bc, .map (some g)]] #[], .func (.func 89) #[.agg #[.slice vA vn vc, .slice tA tn tc, .slice sA sn sc, .slice bA bn bc, .map (some g)]] #[]] ∧ Sg wr (.slice vA vn vc) (.slice tA tn tc) (.slice sA sn sc) (.slice bA bn bc) g gn l (T19 l) (slots l) (O19 l) ∧ Below w.heap.size w wr ∧ ∀ i, i < j → AllGood l (T19 l) (O19 l) (7 + i)))
      case atStart =>
        obtain ⟨g1, g2, sg, B⟩ := HG0.out
        exact ⟨0, by omega, by omega, rfl, Lib.hid ⟨g1, g2, sg, B, fun i hi => by omega⟩⟩
      case round =>
        obtain ⟨j, hj, hgj, rfl, hh⟩ := hrel
        clear HG0
        obtain ⟨g1, g2, sg, B, -⟩ := hh.out
        have c_g1 := g1.cell; have c_g2 := g2.cell
        rcases (show j = 0 ∨ j = 1 ∨ j = 2 ∨ j = 3 ∨ j = 4 ∨ j = 5 by omega) with rfl | rfl | rfl | rfl | rfl | rfl
        all_goals subst hgj
        · -- reason 7
          have EK := Lib.hid (fun w h => E7.out (.slice tA tn tc) (.slice sA sn sc) (.slice bA bn bc) g gn w h)
          cases c7
          · have hno : ¬ AllGood l (T19 l) (O19 l) (7 + 0) := of_decide_eq_false HCS.out.1.symm
            have hw := whyO_at (l := l) (T := T19 l) (O := O19 l) 5 7 0 (by omega) (fun i hi => hh.out.2.2.2.2 i (by omega)) hno
            have hn0 : n = 7 + 0 := by rw [HW.out, hw, if_pos (by omega)]
            subst hn0
            clear hno hw
            go_wp2_with fail
            refine (EK.out _ sg).mono ?_
            rintro e wa4 ⟨rfl, b⟩
            try clear c_g1 f_g1 a_g1 d_g1 e_g1
            replace g1 := g1.below b; have c_g1 := g1.cell; have f_g1 := g1.free; have a_g1 := fun o => (g1.alloc o).cell; have d_g1 := fun o o2 => ((g1.alloc o).alloc o2).cell; have e_g1 := fun o => (g1.alloc o).free; try clear c_g2 f_g2 a_g2 d_g2 e_g2
            replace g2 := g2.below b; have c_g2 := g2.cell; have f_g2 := g2.free; have a_g2 := fun o => (g2.alloc o).cell; have d_g2 := fun o o2 => ((g2.alloc o).alloc o2).cell; have e_g2 := fun o => (g2.alloc o).free; replace sg := sg.below b; replace B := B.trans (b.mono B.size); clear b
            go_wp2
            go_ret2
            exact ⟨rfl, B⟩
          · have hyes : AllGood l (T19 l) (O19 l) (7 + 0) := of_decide_eq_true HCS.out.1.symm
            have HA : Hid (∀ i, i < 0 + 1 → AllGood l (T19 l) (O19 l) (7 + i)) := Lib.hid (fun i hi => by
              by_cases e : i = 0
              · subst e; exact hyes
              · exact hh.out.2.2.2.2 i (by omega))
            clear hyes
            go_wp2_with fail
            refine (EK.out _ sg).mono ?_
            rintro e wa5 ⟨rfl, b⟩
            try clear c_g1 f_g1 a_g1 d_g1 e_g1
            replace g1 := g1.below b; have c_g1 := g1.cell; have f_g1 := g1.free; have a_g1 := fun o => (g1.alloc o).cell; have d_g1 := fun o o2 => ((g1.alloc o).alloc o2).cell; have e_g1 := fun o => (g1.alloc o).free; try clear c_g2 f_g2 a_g2 d_g2 e_g2
            replace g2 := g2.below b; have c_g2 := g2.cell; have f_g2 := g2.free; have a_g2 := fun o => (g2.alloc o).cell; have d_g2 := fun o o2 => ((g2.alloc o).alloc o2).cell; have e_g2 := fun o => (g2.alloc o).free; replace sg := sg.below b; replace B := B.trans (b.mono B.size); clear b
            have HG := Lib.hid (And.intro g1 (And.intro g2 (And.intro sg (And.intro B HA.out))))
            go_wp2
            go_roundg (5 - (0 + 1))
            case measure => omega
            case rel => exact ⟨0 + 1, by omega, rfl, by go_num, HG⟩
        · -- reason 8
          have EK := Lib.hid (fun w h => E8.out (.slice tA tn tc) (.slice sA sn sc) (.slice bA bn bc) g gn w h)
          cases c8
          · have hno : ¬ AllGood l (T19 l) (O19 l) (7 + 1) := of_decide_eq_false HCS.out.2.1.symm
            have hw := whyO_at (l := l) (T := T19 l) (O := O19 l) 5 7 1 (by omega) (fun i hi => hh.out.2.2.2.2 i (by omega)) hno
            have hn0 : n = 7 + 1 := by rw [HW.out, hw, if_pos (by omega)]
            subst hn0
            clear hno hw
            go_wp2_with fail
            refine (EK.out _ sg).mono ?_
            rintro e wa6 ⟨rfl, b⟩
            try clear c_g1 f_g1 a_g1 d_g1 e_g1
            replace g1 := g1.below b; have c_g1 := g1.cell; have f_g1 := g1.free; have a_g1 := fun o => (g1.alloc o).cell; have d_g1 := fun o o2 => ((g1.alloc o).alloc o2).cell; have e_g1 := fun o => (g1.alloc o).free; try clear c_g2 f_g2 a_g2 d_g2 e_g2
            replace g2 := g2.below b; have c_g2 := g2.cell; have f_g2 := g2.free; have a_g2 := fun o => (g2.alloc o).cell; have d_g2 := fun o o2 => ((g2.alloc o).alloc o2).cell; have e_g2 := fun o => (g2.alloc o).free; replace sg := sg.below b; replace B := B.trans (b.mono B.size); clear b
            go_wp2
            go_ret2
            exact ⟨rfl, B⟩
          · have hyes : AllGood l (T19 l) (O19 l) (7 + 1) := of_decide_eq_true HCS.out.2.1.symm
            have HA : Hid (∀ i, i < 1 + 1 → AllGood l (T19 l) (O19 l) (7 + i)) := Lib.hid (fun i hi => by
              by_cases e : i = 1
              · subst e; exact hyes
              · exact hh.out.2.2.2.2 i (by omega))
            clear hyes
            go_wp2_with fail
            refine (EK.out _ sg).mono ?_
            rintro e wa7 ⟨rfl, b⟩
            try clear c_g1 f_g1 a_g1 d_g1 e_g1
            replace g1 := g1.below b; have c_g1 := g1.cell; have f_g1 := g1.free; have a_g1 := fun o => (g1.alloc o).cell; have d_g1 := fun o o2 => ((g1.alloc o).alloc o2).cell; have e_g1 := fun o => (g1.alloc o).free; try clear c_g2 f_g2 a_g2 d_g2 e_g2
            replace g2 := g2.below b; have c_g2 := g2.cell; have f_g2 := g2.free; have a_g2 := fun o => (g2.alloc o).cell; have d_g2 := fun o o2 => ((g2.alloc o).alloc o2).cell; have e_g2 := fun o => (g2.alloc o).free; replace sg := sg.below b; replace B := B.trans (b.mono B.size); clear b
            have HG := Lib.hid (And.intro g1 (And.intro g2 (And.intro sg (And.intro B HA.out))))
            go_wp2
            go_roundg (5 - (1 + 1))
            case measure => omega
            case rel => exact ⟨1 + 1, by omega, rfl, by go_num, HG⟩
        · -- reason 9
          have EK := Lib.hid (fun w h => E9.out (hh.out.2.2.2.2 1 (by omega)) (.slice tA tn tc) (.slice sA sn sc) (.slice bA bn bc) g gn w h)
          cases c9
          · have hno : ¬ AllGood l (T19 l) (O19 l) (7 + 2) := of_decide_eq_false HCS.out.2.2.1.symm
            have hw := whyO_at (l := l) (T := T19 l) (O := O19 l) 5 7 2 (by omega) (fun i hi => hh.out.2.2.2.2 i (by omega)) hno
            have hn0 : n = 7 + 2 := by rw [HW.out, hw, if_pos (by omega)]
            subst hn0
            clear hno hw
            go_wp2_with fail
            refine (EK.out _ sg).mono ?_
            rintro e wa8 ⟨rfl, b⟩
            try clear c_g1 f_g1 a_g1 d_g1 e_g1
            replace g1 := g1.below b; have c_g1 := g1.cell; have f_g1 := g1.free; have a_g1 := fun o => (g1.alloc o).cell; have d_g1 := fun o o2 => ((g1.alloc o).alloc o2).cell; have e_g1 := fun o => (g1.alloc o).free; try clear c_g2 f_g2 a_g2 d_g2 e_g2
            replace g2 := g2.below b; have c_g2 := g2.cell; have f_g2 := g2.free; have a_g2 := fun o => (g2.alloc o).cell; have d_g2 := fun o o2 => ((g2.alloc o).alloc o2).cell; have e_g2 := fun o => (g2.alloc o).free; replace sg := sg.below b; replace B := B.trans (b.mono B.size); clear b
            go_wp2
            go_ret2
            exact ⟨rfl, B⟩
          · have hyes : AllGood l (T19 l) (O19 l) (7 + 2) := of_decide_eq_true HCS.out.2.2.1.symm
            have HA : Hid (∀ i, i < 2 + 1 → AllGood l (T19 l) (O19 l) (7 + i)) := Lib.hid (fun i hi => by
              by_cases e : i = 2
              · subst e; exact hyes
              · exact hh.out.2.2.2.2 i (by omega))
            clear hyes
            go_wp2_with fail
            refine (EK.out _ sg).mono ?_
            rintro e wa9 ⟨rfl, b⟩
            try clear c_g1 f_g1 a_g1 d_g1 e_g1
            replace g1 := g1.below b; have c_g1 := g1.cell; have f_g1 := g1.free; have a_g1 := fun o => (g1.alloc o).cell; have d_g1 := fun o o2 => ((g1.alloc o).alloc o2).cell; have e_g1 := fun o => (g1.alloc o).free; try clear c_g2 f_g2 a_g2 d_g2 e_g2
            replace g2 := g2.below b; have c_g2 := g2.cell; have f_g2 := g2.free; have a_g2 := fun o => (g2.alloc o).cell; have d_g2 := fun o o2 => ((g2.alloc o).alloc o2).cell; have e_g2 := fun o => (g2.alloc o).free; replace sg := sg.below b; replace B := B.trans (b.mono B.size); clear b
            have HG := Lib.hid (And.intro g1 (And.intro g2 (And.intro sg (And.intro B HA.out))))
            go_wp2
            go_roundg (5 - (2 + 1))
            case measure => omega
            case rel => exact ⟨2 + 1, by omega, rfl, by go_num, HG⟩
        · -- reason 10
          have EK := Lib.hid (fun w h => E10.out (hh.out.2.2.2.2 1 (by omega)) (.slice tA tn tc) (.slice sA sn sc) (.slice bA bn bc) g gn w h)
          cases c10
          · have hno : ¬ AllGood l (T19 l) (O19 l) (7 + 3) := of_decide_eq_false HCS.out.2.2.2.1.symm
            have hw := whyO_at (l := l) (T := T19 l) (O := O19 l) 5 7 3 (by omega) (fun i hi => hh.out.2.2.2.2 i (by omega)) hno
            have hn0 : n = 7 + 3 := by rw [HW.out, hw, if_pos (by omega)]
            subst hn0
            clear hno hw
            go_wp2_with fail
            refine (EK.out _ sg).mono ?_
            rintro e wa10 ⟨rfl, b⟩
            try clear c_g1 f_g1 a_g1 d_g1 e_g1
            replace g1 := g1.below b; have c_g1 := g1.cell; have f_g1 := g1.free; have a_g1 := fun o => (g1.alloc o).cell; have d_g1 := fun o o2 => ((g1.alloc o).alloc o2).cell; have e_g1 := fun o => (g1.alloc o).free; try clear c_g2 f_g2 a_g2 d_g2 e_g2
            replace g2 := g2.below b; have c_g2 := g2.cell; have f_g2 := g2.free; have a_g2 := fun o => (g2.alloc o).cell; have d_g2 := fun o o2 => ((g2.alloc o).alloc o2).cell; have e_g2 := fun o => (g2.alloc o).free; replace sg := sg.below b; replace B := B.trans (b.mono B.size); clear b
            go_wp2
            go_ret2
            exact ⟨rfl, B⟩
          · have hyes : AllGood l (T19 l) (O19 l) (7 + 3) := of_decide_eq_true HCS.out.2.2.2.1.symm
            have HA : Hid (∀ i, i < 3 + 1 → AllGood l (T19 l) (O19 l) (7 + i)) := Lib.hid (fun i hi => by
              by_cases e : i = 3
              · subst e; exact hyes
              · exact hh.out.2.2.2.2 i (by omega))
            clear hyes
            go_wp2_with fail
            refine (EK.out _ sg).mono ?_
            rintro e wa11 ⟨rfl, b⟩
            try clear c_g1 f_g1 a_g1 d_g1 e_g1
            replace g1 := g1.below b; have c_g1 := g1.cell; have f_g1 := g1.free; have a_g1 := fun o => (g1.alloc o).cell; have d_g1 := fun o o2 => ((g1.alloc o).alloc o2).cell; have e_g1 := fun o => (g1.alloc o).free; try clear c_g2 f_g2 a_g2 d_g2 e_g2
            replace g2 := g2.below b; have c_g2 := g2.cell; have f_g2 := g2.free; have a_g2 := fun o => (g2.alloc o).cell; have d_g2 := fun o o2 => ((g2.alloc o).alloc o2).cell; have e_g2 := fun o => (g2.alloc o).free; replace sg := sg.below b; replace B := B.trans (b.mono B.size); clear b
            have HG := Lib.hid (And.intro g1 (And.intro g2 (And.intro sg (And.intro B HA.out))))
            go_wp2
            go_roundg (5 - (3 + 1))
            case measure => omega
            case rel => exact ⟨3 + 1, by omega, rfl, by go_num, HG⟩
        · -- reason 11
          have EK := Lib.hid (fun w h => E11.out (hh.out.2.2.2.2 1 (by omega)) (.slice tA tn tc) (.slice sA sn sc) (.slice bA bn bc) g gn w h)
          cases c11
          · have hno : ¬ AllGood l (T19 l) (O19 l) (7 + 4) := of_decide_eq_false HCS.out.2.2.2.2.symm
            have hw := whyO_at (l := l) (T := T19 l) (O := O19 l) 5 7 4 (by omega) (fun i hi => hh.out.2.2.2.2 i (by omega)) hno
            have hn0 : n = 7 + 4 := by rw [HW.out, hw, if_pos (by omega)]
            subst hn0
            clear hno hw
            go_wp2_with fail
            refine (EK.out _ sg).mono ?_
            rintro e wa12 ⟨rfl, b⟩
            try clear c_g1 f_g1 a_g1 d_g1 e_g1
            replace g1 := g1.below b; have c_g1 := g1.cell; have f_g1 := g1.free; have a_g1 := fun o => (g1.alloc o).cell; have d_g1 := fun o o2 => ((g1.alloc o).alloc o2).cell; have e_g1 := fun o => (g1.alloc o).free; try clear c_g2 f_g2 a_g2 d_g2 e_g2
            replace g2 := g2.below b; have c_g2 := g2.cell; have f_g2 := g2.free; have a_g2 := fun o => (g2.alloc o).cell; have d_g2 := fun o o2 => ((g2.alloc o).alloc o2).cell; have e_g2 := fun o => (g2.alloc o).free; replace sg := sg.below b; replace B := B.trans (b.mono B.size); clear b
            go_wp2
            go_ret2
            exact ⟨rfl, B⟩
          · have hyes : AllGood l (T19 l) (O19 l) (7 + 4) := of_decide_eq_true HCS.out.2.2.2.2.symm
            have HA : Hid (∀ i, i < 4 + 1 → AllGood l (T19 l) (O19 l) (7 + i)) := Lib.hid (fun i hi => by
              by_cases e : i = 4
              · subst e; exact hyes
              · exact hh.out.2.2.2.2 i (by omega))
            clear hyes
            go_wp2_with fail
            refine (EK.out _ sg).mono ?_
            rintro e wa13 ⟨rfl, b⟩
            try clear c_g1 f_g1 a_g1 d_g1 e_g1
            replace g1 := g1.below b; have c_g1 := g1.cell; have f_g1 := g1.free; have a_g1 := fun o => (g1.alloc o).cell; have d_g1 := fun o o2 => ((g1.alloc o).alloc o2).cell; have e_g1 := fun o => (g1.alloc o).free; try clear c_g2 f_g2 a_g2 d_g2 e_g2
            replace g2 := g2.below b; have c_g2 := g2.cell; have f_g2 := g2.free; have a_g2 := fun o => (g2.alloc o).cell; have d_g2 := fun o o2 => ((g2.alloc o).alloc o2).cell; have e_g2 := fun o => (g2.alloc o).free; replace sg := sg.below b; replace B := B.trans (b.mono B.size); clear b
            have HG := Lib.hid (And.intro g1 (And.intro g2 (And.intro sg (And.intro B HA.out))))
            go_wp2
            go_roundg (5 - (4 + 1))
            case measure => omega
            case rel => exact ⟨4 + 1, by omega, rfl, by go_num, HG⟩
        · have hall : ∀ i, 7 ≤ i → i < 7 + 5 → AllGood l (T19 l) (O19 l) i := fun i h1 h2 => by
            have := hh.out.2.2.2.2 (i - 7) (by omega)
            rwa [show 7 + (i - 7) = i by omega] at this
          have hw0 := (whyO_zero (l := l) (T := T19 l) (O := O19 l) 5 7 (by omega)).2 hall
          have hn0 : n = if SlotsGood (slots l) (O19 l) then 0 else 12 := by rw [HW.out, hw0, if_neg (by omega)]
          have HN := Lib.hid hn0
          have ls := Rd.len sg.s Tryz.underlying29
          rw [HSN.out] at ls
          clear hall hw0 hn0 g2 c_g2
          go_wp2
          have HG1 := Lib.hid (And.intro g1 (And.intro sg B))
          clear g1 sg B c_g1
          go_loopg [51] 16 (fun gg i wr2 => ∃ j : Nat, j ≤ 16 ∧ gg = 16 - j ∧ i = .int .i64 j ∧ Hid (Bx wr2 wa1.heap.size 158 #[.slice vA vn vc, .slice tA tn tc, .slice sA sn sc, .slice bA bn bc, .map (some g)] ∧ Sg wr2 (.slice vA vn vc) (.slice tA tn tc) (.slice sA sn sc) (.slice bA bn bc) g gn l (T19 l) (slots l) (O19 l) ∧ Below w.heap.size w wr2 ∧ ∀ i s, i < j → (slots l)[i]? = some s → s.used = true → IsObj (O19 l) s.at_))
          case atStart =>
            obtain ⟨g1, sg, B⟩ := HG1.out
            exact ⟨0, by omega, by omega, rfl, Lib.hid ⟨g1, sg, B, fun i s hi => by omega⟩⟩
          case round =>
            obtain ⟨j, hj, rfl, rfl, hh2⟩ := hrel
            clear HG1
            obtain ⟨g1, sg, B, -⟩ := hh2.out
            have c_g1 := g1.cell
            by_cases hlt : j < 16
            · obtain ⟨bb, oo, t, ia, m0, m1, m2, ht⟩ := sg.s.at_ (P := Tryz.prog) Tryz.underlying29 size_slot (k := j) (by rw [HSN.out]; exact hlt)
              obtain ⟨tg, tu, ta⟩ := t
              dsimp only at m0 m1 m2
              have HT := Lib.hid ht.out
              clear ht
              cases tu
              · have HZ : Hid (∀ i s, i < j + 1 → (slots l)[i]? = some s → s.used = true → IsObj (O19 l) s.at_) := Lib.hid (fun i s hi hs hu => by
                  by_cases e : i = j
                  · subst e; rw [HT.out] at hs; injection hs with hs; subst hs; cases hu
                  · exact hh2.out.2.2.2 i s (by omega) hs hu)
                go_upto_region 16 with (fail)
                refine wp_gen (fun Wv => Bx Wv (wr.heap.size) (37) (#[.int .i64 tg, .bool false, .int .i64 ta]) ∧ Below wr.heap.size wr Wv) ⟨((Bx.at_ (by simp))), ((Below.refl _ wr).alloc (by simp <;> omega) _)⟩ ?_
                rintro wa14 ⟨g2, b⟩
                try clear c_g1 f_g1 a_g1 d_g1 e_g1
                replace g1 := g1.below b; have c_g1 := g1.cell; have f_g1 := g1.free; have a_g1 := fun o => (g1.alloc o).cell; have d_g1 := fun o o2 => ((g1.alloc o).alloc o2).cell; have e_g1 := fun o => (g1.alloc o).free; replace sg := sg.below b; replace B := B.trans (b.mono B.size); clear b
                have c_g2 := g2.cell; have f_g2 := g2.free; have a_g2 := fun o => (g2.alloc o).cell; have d_g2 := fun o o2 => ((g2.alloc o).alloc o2).cell; have e_g2 := fun o => (g2.alloc o).free
                have HG := Lib.hid (And.intro g1 (And.intro sg (And.intro B HZ.out)))
                go_wp2
                go_roundg (16 - (j + 1))
                case measure => omega
                case rel => exact ⟨j + 1, by omega, rfl, by go_num, HG⟩
              · have hi64 := HI.out _ (List.mem_of_getElem? HT.out) rfl
                obtain ⟨q, hq⟩ : ∃ q, q = decide (IsObj (O19 l) ta) := ⟨_, rfl⟩
                go_upto_region 16 with (fail)
                refine wp_gen (fun Wv => Bx Wv (wr.heap.size) (37) (#[.int .i64 tg, .bool true, .int .i64 ta]) ∧ Below wr.heap.size wr Wv) ⟨((Bx.at_ (by simp))), ((Below.refl _ wr).alloc (by simp <;> omega) _)⟩ ?_
                rintro wa15 ⟨g2, b⟩
                try clear c_g1 f_g1 a_g1 d_g1 e_g1
                replace g1 := g1.below b; have c_g1 := g1.cell; have f_g1 := g1.free; have a_g1 := fun o => (g1.alloc o).cell; have d_g1 := fun o o2 => ((g1.alloc o).alloc o2).cell; have e_g1 := fun o => (g1.alloc o).free; replace sg := sg.below b; replace B := B.trans (b.mono B.size); clear b
                have c_g2 := g2.cell; have f_g2 := g2.free; have a_g2 := fun o => (g2.alloc o).cell; have d_g2 := fun o o2 => ((g2.alloc o).alloc o2).cell; have e_g2 := fun o => (g2.alloc o).free
                have hlk := sg.look (a := ta) hi64
                rw [← hq] at hlk
                cases q
                · have hno : ¬ SlotsGood (slots l) (O19 l) := fun hg => of_decide_eq_false hq.symm (hg _ (List.mem_of_getElem? HT.out) rfl)
                  have hn0 : n = 12 := by rw [HN.out, if_neg hno]
                  subst hn0
                  clear hno hq
                  go_wp2
                  go_ret2
                  exact ⟨rfl, B⟩
                · have HZ : Hid (∀ i s, i < j + 1 → (slots l)[i]? = some s → s.used = true → IsObj (O19 l) s.at_) := Lib.hid (fun i s hi hs hu => by
                    by_cases e : i = j
                    · subst e; rw [HT.out] at hs; injection hs with hs; subst hs; exact of_decide_eq_true hq.symm
                    · exact hh2.out.2.2.2 i s (by omega) hs hu)
                  have HG := Lib.hid (And.intro g1 (And.intro sg (And.intro B HZ.out)))
                  clear hq
                  go_wp2
                  go_roundg (16 - (j + 1))
                  case measure => omega
                  case rel => exact ⟨j + 1, by omega, rfl, by go_num, HG⟩
            · obtain rfl : j = 16 := by omega
              have hsg : SlotsGood (slots l) (O19 l) := fun s hs hu => by
                obtain ⟨i, hi, e⟩ := List.mem_iff_getElem.1 hs
                exact hh2.out.2.2.2 i s (by rw [← HSN.out]; exact hi) (by rw [List.getElem?_eq_getElem hi, e]) hu
              have hn0 : n = 0 := by rw [HN.out, if_pos hsg]
              subst hn0
              clear hsg
              go_wp2
              go_ret2
              exact ⟨rfl, B⟩
theorem Check19_any (v : Value) (l : List UInt64) (r : Int) (hr : r = chk19 l) (w : World) (h : Words w v l) :
    Calls Tryz.prog 7 #[v] w fun e w' => e = .returned (.int .i64 r) ∧ Below w.heap.size w w' := by
  have B : Below w.heap.size w w := Below.refl _ _
  have H := Lib.hid h
  obtain ⟨n, hn⟩ : ∃ n, n = rea l := ⟨_, rfl⟩
  obtain ⟨q, hq⟩ : ∃ q, q = reaE l := ⟨_, rfl⟩
  have RT := Lib.hid (fun w h => Reason_any v l n q hn hq w h)
  have hcase : (q = 0 ∧ n = 0 ∧ r = 0) ∨ (q = 0 ∧ 0 < n ∧ r = 50) ∨ (q = 8 ∧ r = 8) := by
    rw [hr, hn, hq]
    by_cases hs : SizeOk l.length
    · by_cases h0 : why l = 0
      · exact .inl ⟨by rw [reaE, if_pos hs], by rw [rea, if_pos hs, h0], by rw [chk19, if_pos hs, if_pos h0]⟩
      · exact .inr (.inl ⟨by rw [reaE, if_pos hs], by rw [rea, if_pos hs]; omega, by rw [chk19, if_pos hs, if_neg h0]⟩)
    · exact .inr (.inr ⟨by rw [reaE, if_neg hs], by rw [chk19, if_neg hs]⟩)
  clear hn hq hr h
  rcases hcase with ⟨rfl, rfl, rfl⟩ | ⟨rfl, h1, rfl⟩ | ⟨rfl, rfl⟩
  · skip
    go_enter Tryz.func7, Tryz.ntmps7
    go_wp2_with fail
    refine (RT.out _ (H.out.below B)).mono ?_
    rintro e wa1 ⟨rfl, b⟩
    replace B := B.trans (b.mono B.size); clear b
    go_wp2
    go_ret
    exact ⟨rfl, B⟩
  · have n1 : (0 : Int) < (n : Int) := by omega
    go_enter Tryz.func7, Tryz.ntmps7
    go_wp2_with fail
    refine (RT.out _ (H.out.below B)).mono ?_
    rintro e wa1 ⟨rfl, b⟩
    replace B := B.trans (b.mono B.size); clear b
    go_wp2
    go_ret
    exact ⟨rfl, B⟩
  · skip
    go_enter Tryz.func7, Tryz.ntmps7
    go_wp2_with fail
    refine (RT.out _ (H.out.below B)).mono ?_
    rintro e wa1 ⟨rfl, b⟩
    replace B := B.trans (b.mono B.size); clear b
    go_wp2
    go_ret
    exact ⟨rfl, B⟩
end Go.Proofs.YtmbokdnndlnjkaaGreat
namespace Go.Proofs.YtmbokdnndlnjkaaGreat
open Go.RowKit L02 L05 L06 L07
set_option maxHeartbeats 2000000 in
theorem TCopyR_any (v : Value) (m : List UInt64) (hs : SizeOk m.length) (k : Int) (l : List UInt64) (hk : k = 0 ∧ l = c0 m ∨ k = 1 ∧ l = c1 m) (W T : Int) (b : Bool) (hb : b = decide (CopyOk m.length l)) (hW : W = if CopyOk m.length l then (m.length : Int) else 0) (hT : T = if CopyOk m.length l then at3 l else 0) (w : World) (h : Words w v m) :
    Calls Tryz.prog 146 #[v, .int .i64 k] w fun e w' => e = .returned (.tuple #[.agg #[.int .i64 W, .int .i64 T], .bool b]) ∧ Below w.heap.size w w' := by
  have B : Below w.heap.size w w := Below.refl _ _
  have hn := hs.1
  have l1 := Rd.len h Tryz.underlying22
  have hl : l.length = 8 := by rcases hk with ⟨_, rfl⟩ | ⟨_, rfl⟩; exact c0_len hs; exact c1_len hs
  have sl : ∃ v', (∀ W, (Instr.sliceAt 22 v (some (.int .i64 (8 * k))) (some (.int .i64 (8 * k + 8))) none).run Tryz.prog W = .ok v' W) ∧ Words w v' l := by
    rcases hk with ⟨rfl, rfl⟩ | ⟨rfl, rfl⟩
    · exact h.cut (P := Tryz.prog) Tryz.underlying22 one_u64 (lo := 0) (hi := 8) (by omega) (by omega) (by omega)
    · exact h.cut (P := Tryz.prog) Tryz.underlying22 one_u64 (lo := 8) (hi := 16) (by omega) (by omega) (by omega)
  obtain ⟨v', sl', hv'⟩ := sl
  obtain ⟨a0, ha0⟩ : ∃ x, x = rdW l := ⟨_, rfl⟩
  obtain ⟨t0, ht0⟩ : ∃ x, x = rdT l := ⟨_, rfl⟩
  obtain ⟨e0, he0⟩ : ∃ x, x = rdErr l := ⟨_, rfl⟩
  have R0 := Lib.hid (fun w h => Read6R_r v' l (by omega) a0 t0 e0 ha0 ht0 he0 w h)
  obtain ⟨n, hnn⟩ : ∃ n, n = m.length := ⟨_, rfl⟩
  rw [← hnn] at l1
  have K : (e0 = 0 ∧ (a0 != (n : Int)) = false ∧ b = true ∧ W = a0 ∧ T = t0) ∨ (e0 = 0 ∧ (a0 != (n : Int)) = true ∧ b = false ∧ W = 0 ∧ T = 0) ∨ ((e0 != 0) = true ∧ b = false ∧ W = 0 ∧ T = 0) := by
    by_cases hg : CopyOk m.length l
    · obtain ⟨g1, g2⟩ := (good_rd hl).1 hg
      rw [if_pos hg] at hW hT
      exact .inl ⟨by rw [he0]; exact g1, by rw [bne_eq_false_iff_eq, ha0, g2, hnn], by rw [hb]; exact decide_eq_true hg, by rw [hW, ha0, g2], by rw [hT, ht0, (rd_ok3 hg.1).2]⟩
    · rw [if_neg hg] at hW hT
      rw [decide_eq_false hg] at hb
      by_cases h0 : e0 = 0
      · refine .inr (.inl ⟨h0, ?_, hb, hW, hT⟩)
        rw [bne_iff_ne]; intro ha; exact hg ((good_rd hl).2 ⟨by rw [← he0]; exact h0, by rw [← ha0, ha, hnn]⟩)
      · exact .inr (.inr ⟨by rw [bne_iff_ne]; exact h0, hb, hW, hT⟩)
  have hk2 : 0 ≤ k ∧ k ≤ 1 := by omega
  have w1 : IntKind.i64.wrap (8 * k) = 8 * k := IntWalk.i64_in _ (by omega)
  have w2 : IntKind.i64.wrap (8 * k + 8) = 8 * k + 8 := IntWalk.i64_in _ (by omega)
  have HV := Lib.hid hv'
  clear h hs hk hb hW hT hl hv' ha0 ht0 he0 hnn hn hk2
  rcases K with ⟨rfl, hq, rfl, rfl, rfl⟩ | ⟨rfl, hq, rfl, rfl, rfl⟩ | ⟨hq, rfl, rfl, rfl⟩
  all_goals
    go_enter Tryz.func146, Tryz.ntmps146
    go_upto_region 1 with (fail)
    refine wp_gen (fun Wv => Bx Wv (w.heap.size) (69) (#[.int .i64 0, .int .i64 0]) ∧ Below w.heap.size w Wv) ⟨((Bx.at_ (by simp))), ((Below.refl _ w).alloc (by simp <;> omega) _)⟩ ?_
    rintro wa1 ⟨g4, b⟩
    replace B := B.trans (b.mono B.size); clear b
    have c_g4 := g4.cell; have f_g4 := g4.free; have a_g4 := fun o => (g4.alloc o).cell; have d_g4 := fun o o2 => ((g4.alloc o).alloc o2).cell; have e_g4 := fun o => (g4.alloc o).free
    go_wp2_with fail
    refine (R0.out _ (HV.out.below B)).mono ?_
    rintro e wx ⟨rfl, b⟩
    clear c_g4 f_g4 a_g4 d_g4 e_g4
    replace g4 := g4.below b; replace B := B.trans (b.mono B.size); clear b
    have c_g4 := g4.cell; have f_g4 := g4.free; have a_g4 := fun o => (g4.alloc o).cell; have e_g4 := fun o => (g4.alloc o).free
    go_wp2
    refine bodyPost_ret (by simp [results, Tryz.results146, go_sem, c_g4, f_g4, a_g4, e_g4]) rfl ⟨rfl, ?_⟩
    (repeat (first | refine Below.setCell ?_ (by first | exact Nat.le_refl _ | (simp <;> omega)) _ | refine Below.alloc ?_ (by first | exact B.size | (have := B.size; simp <;> omega)) _)); exact B
set_option maxHeartbeats 2000000 in
theorem TReadR_any (v : Value) (m : List UInt64) (W T : Int) (b0 b1 : Bool) (r : Int) (hW : W = sW m) (hT : T = sT m) (h0 : b0 = is0 m) (h1 : b1 = is1 m) (hr : r = rErr m) (w : World) (h : Words w v m) :
    Calls Tryz.prog 126 #[v] w fun e w' => e = .returned (.tuple #[.agg #[.int .i64 W, .int .i64 T], .agg #[.bool b0, .bool b1], .int .i64 r]) ∧ Below w.heap.size w w' := by
  have B : Below w.heap.size w w := Below.refl _ _
  have CT := fun w h => CheckR_any v m w h
  by_cases hs : SizeOk m.length
  rotate_left
  · rw [chk_no hs] at CT
    obtain rfl : W = 0 := by rw [hW, sW, if_neg (by rw [rErr_no hs]; omega)]
    obtain rfl : T = 0 := by rw [hT, sT, if_neg (by rw [rErr_no hs]; omega)]
    obtain rfl : b0 = false := by rw [h0, is0_no hs]
    obtain rfl : b1 = false := by rw [h1, is1_no hs]
    obtain rfl : r = 8 := by rw [hr, rErr_no hs]
    have HC := Lib.hid CT; have H := Lib.hid h; clear CT h hs hW hT h0 h1 hr
    go_enter Tryz.func126, Tryz.ntmps126
    go_upto_region 1 with (fail)
    refine wp_gen (fun Wv => Bx Wv (w.heap.size) (69) (#[.int .i64 0, .int .i64 0]) ∧ Bx Wv (w.heap.size + 1) (70) (#[.bool false, .bool false]) ∧ Below w.heap.size w Wv) ⟨(((Bx.at_ (by simp)).alloc _)), ((Bx.at_ (by simp))), (((Below.refl _ w).alloc (by simp <;> omega) _).alloc (by simp <;> omega) _)⟩ ?_
    rintro w' ⟨g2, g3, b⟩
    replace B := B.trans (b.mono B.size); clear b
    have c_g2 := g2.cell; have f_g2 := g2.free; have a_g2 := fun o => (g2.alloc o).cell; have d_g2 := fun o o2 => ((g2.alloc o).alloc o2).cell; have e_g2 := fun o => (g2.alloc o).free
    have c_g3 := g3.cell; have f_g3 := g3.free; have a_g3 := fun o => (g3.alloc o).cell; have d_g3 := fun o o2 => ((g3.alloc o).alloc o2).cell; have e_g3 := fun o => (g3.alloc o).free
    go_wp2_with fail
    refine (HC.out _ (H.out.below B)).mono ?_
    rintro e w' ⟨rfl, rfl⟩
    go_wp2
    refine bodyPost_ret (v := .tuple #[.agg #[.int .i64 0, .int .i64 0], .agg #[.bool false, .bool false], .int .i64 8]) (by simp [results, Tryz.results126, go_sem, c_g2, f_g2, a_g2, e_g2, c_g3, f_g3, a_g3, e_g3]) rfl ?_
    exact ⟨rfl, by (repeat (first | refine Below.setCell ?_ (by first | exact Nat.le_refl _ | (simp <;> omega)) _ | refine Below.alloc ?_ (by first | exact B.size | (have := B.size; simp <;> omega)) _)); exact B⟩
  rw [chk_ok hs] at CT
  obtain ⟨a0, ha0⟩ : ∃ x, x = (if CopyOk m.length (c0 m) then (m.length : Int) else 0) := ⟨_, rfl⟩
  obtain ⟨t0, ht0⟩ : ∃ x, x = (if CopyOk m.length (c0 m) then at3 (c0 m) else 0) := ⟨_, rfl⟩
  obtain ⟨a1, ha1⟩ : ∃ x, x = (if CopyOk m.length (c1 m) then (m.length : Int) else 0) := ⟨_, rfl⟩
  obtain ⟨t1, ht1⟩ : ∃ x, x = (if CopyOk m.length (c1 m) then at3 (c1 m) else 0) := ⟨_, rfl⟩
  have R0 := Lib.hid (fun w h => TCopyR_any v m hs 0 (c0 m) (.inl ⟨rfl, rfl⟩) a0 t0 b0 (by rw [h0, is0_good hs]) ha0 ht0 w h)
  have R1 := Lib.hid (fun w h => TCopyR_any v m hs 1 (c1 m) (.inr ⟨rfl, rfl⟩) a1 t1 b1 (by rw [h1, is1_good hs]) ha1 ht1 w h)
  have F0 : b0 = true → W = a0 ∧ T = t0 ∧ r = 0 := by
    intro h
    have hi : is0 m = true := by rw [← h0]; exact h
    have hr0 := rErr_mk hs (.inl hi)
    have hg : CopyOk m.length (c0 m) := (of_decide_eq_true hi).2
    have ho : one m = c0 m := if_pos hi
    exact ⟨by rw [hW, sW, if_pos hr0, ha0, if_pos hg], by rw [hT, sT, if_pos hr0, ht0, if_pos hg, ho], by rw [hr, hr0]⟩
  have F1 : b0 = false → b1 = true → W = a1 ∧ T = t1 ∧ r = 0 := by
    intro h h'
    have hi : is1 m = true := by rw [← h1]; exact h'
    have hi0 : is0 m = false := by rw [← h0]; exact h
    have hr0 := rErr_mk hs (.inr hi)
    have hg : CopyOk m.length (c1 m) := (of_decide_eq_true hi).2
    have ho : one m = c1 m := if_neg (by simp [hi0])
    exact ⟨by rw [hW, sW, if_pos hr0, ha1, if_pos hg], by rw [hT, sT, if_pos hr0, ht1, if_pos hg, ho], by rw [hr, hr0]⟩
  have F2 : b0 = false → b1 = false → W = 0 ∧ T = 0 ∧ r = 50 := by
    intro h h'
    have hr0 := rErr_50 hs (by rw [← h0]; exact h) (by rw [← h1]; exact h')
    exact ⟨by rw [hW, sW, if_neg (by rw [hr0]; omega)], by rw [hT, sT, if_neg (by rw [hr0]; omega)], by rw [hr, hr0]⟩
  have KK : (b0 = true ∧ a0 = W ∧ t0 = T ∧ r = 0) ∨ (b0 = false ∧ b1 = true ∧ a1 = W ∧ t1 = T ∧ r = 0) ∨ (b0 = false ∧ b1 = false ∧ W = 0 ∧ T = 0 ∧ r = 50) := by
    cases b0
    · cases b1
      · exact .inr (.inr ⟨rfl, rfl, F2 rfl rfl⟩)
      · exact .inr (.inl ⟨rfl, rfl, (F1 rfl rfl).1.symm, (F1 rfl rfl).2.1.symm, (F1 rfl rfl).2.2⟩)
    · exact .inl ⟨rfl, (F0 rfl).1.symm, (F0 rfl).2.1.symm, (F0 rfl).2.2⟩
  have HC := Lib.hid CT; have H := Lib.hid h
  clear CT h hs hW hT h0 h1 hr ha0 ht0 ha1 ht1 F0 F1 F2
  rcases KK with ⟨rfl, rfl, rfl, rfl⟩ | ⟨rfl, rfl, rfl, rfl, rfl⟩ | ⟨rfl, rfl, rfl, rfl, rfl⟩
  all_goals
    go_enter Tryz.func126, Tryz.ntmps126
    go_upto_region 1 with (fail)
    refine wp_gen (fun Wv => Bx Wv (w.heap.size) (69) (#[.int .i64 0, .int .i64 0]) ∧ Bx Wv (w.heap.size + 1) (70) (#[.bool false, .bool false]) ∧ Below w.heap.size w Wv) ⟨(((Bx.at_ (by simp)).alloc _)), ((Bx.at_ (by simp))), (((Below.refl _ w).alloc (by simp <;> omega) _).alloc (by simp <;> omega) _)⟩ ?_
    rintro wa1 ⟨g2, g3, b⟩
    replace B := B.trans (b.mono B.size); clear b
    have c_g2 := g2.cell; have f_g2 := g2.free; have a_g2 := fun o => (g2.alloc o).cell; have d_g2 := fun o o2 => ((g2.alloc o).alloc o2).cell; have e_g2 := fun o => (g2.alloc o).free
    have c_g3 := g3.cell; have f_g3 := g3.free; have a_g3 := fun o => (g3.alloc o).cell; have d_g3 := fun o o2 => ((g3.alloc o).alloc o2).cell; have e_g3 := fun o => (g3.alloc o).free
    go_wp2_with fail
    refine (HC.out _ (H.out.below B)).mono ?_
    rintro e w' ⟨rfl, rfl⟩
    go_wp2_with fail
    refine (R0.out _ (H.out.below B)).mono ?_
    rintro e wa2 ⟨rfl, b⟩
    try clear c_g2 f_g2 a_g2 d_g2 e_g2
    replace g2 := g2.below b; have c_g2 := g2.cell; have f_g2 := g2.free; have a_g2 := fun o => (g2.alloc o).cell; have d_g2 := fun o o2 => ((g2.alloc o).alloc o2).cell; have e_g2 := fun o => (g2.alloc o).free; try clear c_g3 f_g3 a_g3 d_g3 e_g3
    replace g3 := g3.below b; have c_g3 := g3.cell; have f_g3 := g3.free; have a_g3 := fun o => (g3.alloc o).cell; have d_g3 := fun o o2 => ((g3.alloc o).alloc o2).cell; have e_g3 := fun o => (g3.alloc o).free; replace B := B.trans (b.mono B.size); clear b
    go_upto_region 4 with (fail)
    refine wp_gen (fun Wv => Bx Wv (wa2.heap.size) (69) (#[.int .i64 a0, .int .i64 t0]) ∧ Below wa2.heap.size wa2 Wv) ⟨((Bx.at_ (by simp))), ((Below.refl _ wa2).alloc (by simp <;> omega) _)⟩ ?_
    rintro wa3 ⟨g5, b⟩
    try clear c_g2 f_g2 a_g2 d_g2 e_g2
    replace g2 := g2.below b; have c_g2 := g2.cell; have f_g2 := g2.free; have a_g2 := fun o => (g2.alloc o).cell; have d_g2 := fun o o2 => ((g2.alloc o).alloc o2).cell; have e_g2 := fun o => (g2.alloc o).free; try clear c_g3 f_g3 a_g3 d_g3 e_g3
    replace g3 := g3.below b; have c_g3 := g3.cell; have f_g3 := g3.free; have a_g3 := fun o => (g3.alloc o).cell; have d_g3 := fun o o2 => ((g3.alloc o).alloc o2).cell; have e_g3 := fun o => (g3.alloc o).free; replace B := B.trans (b.mono B.size); clear b
    have c_g5 := g5.cell; have f_g5 := g5.free; have a_g5 := fun o => (g5.alloc o).cell; have d_g5 := fun o o2 => ((g5.alloc o).alloc o2).cell; have e_g5 := fun o => (g5.alloc o).free
    go_wp2_with fail
    refine (R1.out _ (H.out.below B)).mono ?_
    rintro e wa4 ⟨rfl, b⟩
    try clear c_g2 f_g2 a_g2 d_g2 e_g2
    replace g2 := g2.below b; have c_g2 := g2.cell; have f_g2 := g2.free; have a_g2 := fun o => (g2.alloc o).cell; have d_g2 := fun o o2 => ((g2.alloc o).alloc o2).cell; have e_g2 := fun o => (g2.alloc o).free; try clear c_g3 f_g3 a_g3 d_g3 e_g3
    replace g3 := g3.below b; have c_g3 := g3.cell; have f_g3 := g3.free; have a_g3 := fun o => (g3.alloc o).cell; have d_g3 := fun o o2 => ((g3.alloc o).alloc o2).cell; have e_g3 := fun o => (g3.alloc o).free; try clear c_g5 f_g5 a_g5 d_g5 e_g5
    replace g5 := g5.below b; have c_g5 := g5.cell; have f_g5 := g5.free; have a_g5 := fun o => (g5.alloc o).cell; have d_g5 := fun o o2 => ((g5.alloc o).alloc o2).cell; have e_g5 := fun o => (g5.alloc o).free; replace B := B.trans (b.mono B.size); clear b
    go_upto_region 5 with (fail)
    refine wp_gen (fun Wv => Bx Wv (wa4.heap.size) (69) (#[.int .i64 a1, .int .i64 t1]) ∧ Below wa4.heap.size wa4 Wv) ⟨((Bx.at_ (by simp))), ((Below.refl _ wa4).alloc (by simp <;> omega) _)⟩ ?_
    rintro wa5 ⟨g7, b⟩
    try clear c_g2 f_g2 a_g2 d_g2 e_g2
    replace g2 := g2.below b; have c_g2 := g2.cell; have f_g2 := g2.free; have a_g2 := fun o => (g2.alloc o).cell; have d_g2 := fun o o2 => ((g2.alloc o).alloc o2).cell; have e_g2 := fun o => (g2.alloc o).free; try clear c_g3 f_g3 a_g3 d_g3 e_g3
    replace g3 := g3.below b; have c_g3 := g3.cell; have f_g3 := g3.free; have a_g3 := fun o => (g3.alloc o).cell; have d_g3 := fun o o2 => ((g3.alloc o).alloc o2).cell; have e_g3 := fun o => (g3.alloc o).free; try clear c_g5 f_g5 a_g5 d_g5 e_g5
    replace g5 := g5.below b; have c_g5 := g5.cell; have f_g5 := g5.free; have a_g5 := fun o => (g5.alloc o).cell; have d_g5 := fun o o2 => ((g5.alloc o).alloc o2).cell; have e_g5 := fun o => (g5.alloc o).free; replace B := B.trans (b.mono B.size); clear b
    have c_g7 := g7.cell; have f_g7 := g7.free; have a_g7 := fun o => (g7.alloc o).cell; have d_g7 := fun o o2 => ((g7.alloc o).alloc o2).cell; have e_g7 := fun o => (g7.alloc o).free
    go_wp2
    refine bodyPost_ret (by simp [results, Tryz.results126, go_sem, c_g2, f_g2, a_g2, e_g2, c_g3, f_g3, a_g3, e_g3]) rfl ⟨rfl, ?_⟩
    (repeat (first | refine Below.setCell ?_ (by first | exact Nat.le_refl _ | (simp <;> omega)) _ | refine Below.alloc ?_ (by first | exact B.size | (have := B.size; simp <;> omega)) _)); exact B
end Go.Proofs.YtmbokdnndlnjkaaGreat
