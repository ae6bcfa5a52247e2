/- Contracts of the functions that the laws 'N' reach, part 12. No condition. -/
import Derived.Test.YtodbbacmdjcheaaMNk
set_option linter.unusedVariables false
set_option linter.unusedSimpArgs false
namespace Go.Proofs.Ytodbbacmdjcheaa
open Go.RowKit L01 L02 L05 L07 L13 L14 L15 L18 L19
theorem in19_of {l : List UInt64} (h : allErr l = 0) {b : Hb} (hb : b ∈ O19 l) : In19 l b := by
  obtain ⟨a, h1, h2, h3, h4, h5, h6, _⟩ := objs_at h hb
  exact ⟨a, h2, by rw [h6]; exact stand_ok h5, by omega⟩
/-- the first that fails of five -/
theorem whyO_at {l : List UInt64} {T : List (List UInt8)} {O : List Hb} : ∀ (f r k : Nat), k < f → (∀ i, i < k → AllGood l T O (r + i)) → ¬ AllGood l T O (r + k) → whyO l T O f r = r + k
  | 0, r, k, hk, _, _ => by omega
  | f + 1, r, 0, hk, h1, h2 => by
    rw [Nat.add_zero] at h2
    rw [whyO, if_neg h2]; rfl
  | f + 1, r, k + 1, hk, h1, h2 => by
    have h0 := h1 0 (by omega)
    rw [Nat.add_zero] at h0
    rw [whyO, if_pos h0, whyO_at f (r + 1) k (by omega) (fun i hi => by have := h1 (i + 1) (by omega); rwa [show r + 1 + i = r + (i + 1) by omega]) (by rwa [show r + 1 + k = r + (k + 1) by omega])]
    omega
set_option maxRecDepth 100000 in
set_option maxHeartbeats 8000000 in
theorem Reason_any (v : Value) (l : List UInt64) (n : Nat) (r : Int) (hn : n = rea l) (hr : r = reaE l) (w : World) (h : Words w v l) :
    Calls Try.prog 46 #[v] w fun e w' => e = .returned (.tuple #[.int .i64 n, .int .i64 r]) ∧ Below w.heap.size w w' := by
  have B : Below w.heap.size w w := Below.refl _ _
  obtain ⟨vA, vn, vc, rfl⟩ : ∃ A n c, v = .slice A n c := by obtain ⟨A, c, e, _⟩ := h; exact ⟨A, _, c, e⟩
  have H := Lib.hid h
  obtain ⟨c, hc⟩ : ∃ c, c = chk l := ⟨_, rfl⟩
  have CT : Hid (∀ w, Words w (.slice vA vn vc) l → Calls Try.prog 63 #[.slice vA vn vc] w fun e w' => e = .returned (.int .i64 c) ∧ w = w') := by rw [hc]; exact Lib.hid (fun w h => Check_any _ l w h)
  by_cases hs : SizeOk l.length
  case neg =>
    have hr0 : r = 8 := by rw [hr, reaE, if_neg hs]
    have hn0 : n = 0 := by rw [hn, rea, if_neg hs]
    have hc8 : c = 8 := by rw [hc, chk_no hs]
    subst hr0; subst hn0; subst hc8
    clear hr hn hs hc h
    go_enter Try.func46, Try.ntmps46
    go_wp2_with fail
    refine (CT.out _ (H.out.below B)).mono ?_
    rintro e w' ⟨rfl, rfl⟩
    go_wp2
    go_ret2
    exact ⟨rfl, B⟩
  case pos =>
    have hr0 : r = 0 := by rw [hr, reaE, if_pos hs]
    have hnw : n = why l := by rw [hn, rea, if_pos hs]
    have hc0 : c = 0 := by rw [hc, chk_ok hs]
    subst hr0; subst hc0
    obtain ⟨r6, hr6⟩ : ∃ x, x = why6 l := ⟨_, rfl⟩
    have PT := Lib.hid (fun w h => parts_any (.slice vA vn vc) l hs r6 hr6 w h)
    by_cases h6 : r6 = 0
    case neg =>
      have hn0 : n = r6 := by rw [hnw, why, if_pos (by rw [← hr6]; exact h6), hr6]
      have n1 : ((r6 : Int) != 0) = true := by rw [bne_iff_ne]; omega
      have h6' := h6
      subst hn0
      clear hr hn hs hc h hnw hr6 h6
      go_enter Try.func46, Try.ntmps46
      go_wp2_with fail
      refine (CT.out _ (H.out.below B)).mono ?_
      rintro e w' ⟨rfl, rfl⟩
      go_wp2_with fail
      refine (PT.out _ (H.out.below B)).mono ?_
      rintro e wa1 ⟨a, b, c, d, m, rfl, -, hz, b⟩
      replace B := B.trans (b.mono B.size); clear b
      obtain ⟨rfl, rfl, rfl, rfl, rfl⟩ := hz h6'
      go_wp2
      go_ret2
      refine ⟨rfl, ?_⟩
      (repeat (first | refine Below.setCell ?_ (by first | exact Nat.le_refl _ | (simp <;> omega)) _ | refine Below.alloc ?_ (by first | exact B.size | (have := B.size; simp <;> omega)) _)); exact B
    case pos =>
      subst h6
      obtain ⟨e1, e2, e3, e4, e5, e6⟩ := why6_zero.1 hr6.symm
      have hT := (T19_ok e4).2
      have hIn : ∀ b ∈ O19 l, In19 l b := fun b hb => in19_of e6 hb
      have hOl : ∀ b ∈ O19 l, b.at_ < l.length := fun b hb => by obtain ⟨a, _, h2, h3, h4, _, _, _, h8, _⟩ := objs_at e6 hb; omega
      have hl1 : l.length ≤ 1000000 := by have := hs.2.1; omega
      have hsn := slots_len' e5
      obtain ⟨c7, hc7⟩ : ∃ c, c = decide (AllGood l (T19 l) (O19 l) 7) := ⟨_, rfl⟩
      obtain ⟨c8, hc8⟩ : ∃ c, c = decide (AllGood l (T19 l) (O19 l) 8) := ⟨_, rfl⟩
      obtain ⟨c9, hc9⟩ : ∃ c, c = decide (AllGood l (T19 l) (O19 l) 9) := ⟨_, rfl⟩
      obtain ⟨c10, hc10⟩ : ∃ c, c = decide (AllGood l (T19 l) (O19 l) 10) := ⟨_, rfl⟩
      obtain ⟨c11, hc11⟩ : ∃ c, c = decide (AllGood l (T19 l) (O19 l) 11) := ⟨_, rfl⟩
      have E7 := Lib.hid (fun (tv sv bv : Value) (g gn : Nat) (w : World) (h : Sg w (.slice vA vn vc) tv sv bv g gn l (T19 l) (slots l) (O19 l)) => each_any 75 (.slice vA vn vc) tv sv bv g (O19 l) (fun b => decide (Idle b)) c7 (by rw [hc7]; simp only [decide_eq_true_iff]; rfl) (fun _ _ => rfl) w h.b (fun b hb W hW => idleB_any _ tv sv bv g b _ rfl W))
      have E8 := Lib.hid (fun (tv sv bv : Value) (g gn : Nat) (w : World) (h : Sg w (.slice vA vn vc) tv sv bv g gn l (T19 l) (slots l) (O19 l)) => each_any 76 (.slice vA vn vc) tv sv bv g (O19 l) (fun b => decide (Typed (T19 l) b)) c8 (by rw [hc8]; simp only [decide_eq_true_iff]; rfl) (fun _ _ => rfl) w h.b (fun b hb W hW => typedB_any _ tv sv bv g (T19 l) b _ rfl (by obtain ⟨a, _, hk, _⟩ := hIn b hb; exact hk.bounds.2.2.2.2.1) hT W (h.t.below hW)))
      have E9 := Lib.hid (fun (h8 : AllGood l (T19 l) (O19 l) 8) (tv sv bv : Value) (g gn : Nat) (w : World) (h : Sg w (.slice vA vn vc) tv sv bv g gn l (T19 l) (slots l) (O19 l)) => each_any 77 (.slice vA vn vc) tv sv bv g (O19 l) (fun b => decide (Padded l (T19 l) b)) c9 (by rw [hc9]; simp only [decide_eq_true_iff]; rfl) (fun _ _ => rfl) w h.b (fun b hb W hW => paddedB_any _ tv sv bv g l (T19 l) b _ rfl (hIn b hb) (h8 b hb) hl1 W (h.w.below hW) (h.t.below hW)))
      have E10 := Lib.hid (fun (h8 : AllGood l (T19 l) (O19 l) 8) (tv sv bv : Value) (g gn : Nat) (w : World) (h : Sg w (.slice vA vn vc) tv sv bv g gn l (T19 l) (slots l) (O19 l)) => each_any 78 (.slice vA vn vc) tv sv bv g (O19 l) (fun b => decide (FloatsB l (T19 l) b)) c10 (by rw [hc10]; simp only [decide_eq_true_iff]; rfl) (fun _ _ => rfl) w h.b (fun b hb W hW => floatsB_any _ tv sv bv g l (T19 l) b _ rfl (hIn b hb) (h8 b hb) hl1 W (h.w.below hW) (h.t.below hW)))
      have E11 := Lib.hid (fun (h8 : AllGood l (T19 l) (O19 l) 8) (tv sv bv : Value) (g gn : Nat) (w : World) (h : Sg w (.slice vA vn vc) tv sv bv g gn l (T19 l) (slots l) (O19 l)) => each_any 79 (.slice vA vn vc) tv sv bv g (O19 l) (fun b => decide (RefsB l (T19 l) (O19 l) b)) c11 (by rw [hc11]; simp only [decide_eq_true_iff]; rfl) (fun _ _ => rfl) w h.b (fun b hb W hW => refsB_any _ tv sv bv g gn l (T19 l) (slots l) (O19 l) b _ rfl (hIn b hb) (h8 b hb) hl1 hOl W (h.below hW)))
      have hwO : n = if whyO l (T19 l) (O19 l) 5 7 ≠ 0 then whyO l (T19 l) (O19 l) 5 7 else if SlotsGood (slots l) (O19 l) then 0 else 12 := by
        rw [hnw, why, if_neg (by rw [← hr6]; exact fun h => h rfl)]
      have HW := Lib.hid hwO
      have HCS := Lib.hid (And.intro hc7 (And.intro hc8 (And.intro hc9 (And.intro hc10 hc11))))
      have HSN := Lib.hid hsn
      have hI64 : ∀ s ∈ slots l, s.used = true → i64Ok s.at_ := fun s hs' hu => by
        obtain ⟨x, hx, rfl⟩ := List.mem_map.1 hs'
        have := (allR_of e5 x hx).2.2.2 hu
        exact ⟨by omega, by omega⟩
      have HI := Lib.hid hI64
      clear hr hn hs hc h hnw hr6 e1 e2 e3 e4 e5 e6 hT hIn hOl hl1 hsn hc7 hc8 hc9 hc10 hc11 hwO hI64
      go_enter Try.func46, Try.ntmps46
      go_wp2_with fail
      refine (CT.out _ (H.out.below B)).mono ?_
      rintro e w' ⟨rfl, rfl⟩
      go_wp2_with fail
      refine (PT.out _ (H.out.below B)).mono ?_
      rintro e wa1 ⟨a, tv, sv, bv, m, rfl, hsg, -, b⟩
      replace B := B.trans (b.mono B.size); clear b
      obtain ⟨rfl, g, gn, rfl, sg⟩ := hsg (by trivial)
      obtain ⟨tA, tn, tc, rfl⟩ : ∃ A n c, tv = .slice A n c := by obtain ⟨_, _, ⟨A, c, e, _⟩, _⟩ := sg.t; exact ⟨A, _, c, e⟩
      obtain ⟨sA, sn, sc, rfl⟩ : ∃ A n c, sv = .slice A n c := by obtain ⟨A, c, e, _⟩ := sg.s; exact ⟨A, _, c, e⟩
      obtain ⟨bA, bn, bc, rfl⟩ : ∃ A n c, bv = .slice A n c := by obtain ⟨A, c, e⟩ := sg.b.form; exact ⟨A, _, c, e⟩
      go_upto_region 5 with (fail)
      refine wp_gen (fun Wv => Bx Wv (wa1.heap.size) (155) (#[.slice vA vn vc, .slice tA tn tc, .slice sA sn sc, .slice bA bn bc, .map (some g)]) ∧ Below wa1.heap.size wa1 Wv) ⟨((Bx.at_ (by simp))), ((Below.refl _ wa1).alloc (by simp <;> omega) _)⟩ ?_
      rintro wa2 ⟨g1, b⟩
      replace sg := sg.below b; replace B := B.trans (b.mono B.size); clear b
      have c_g1 := g1.cell; have f_g1 := g1.free; have a_g1 := fun o => (g1.alloc o).cell; have d_g1 := fun o o2 => ((g1.alloc o).alloc o2).cell; have e_g1 := fun o => (g1.alloc o).free
      go_upto_region 7 with (fail)
      go_wp2
      refine wp_gen (fun Wv => Bx Wv (wa2.heap.size) (158) (#[.func (.func 75) #[.agg #[.slice vA vn vc, .slice tA tn tc, .slice sA sn sc, .slice bA bn bc, .map (some g)]] #[], .func (.func 76) #[.agg #[.slice vA vn vc, .slice tA tn tc, .slice sA sn sc, .slice bA bn bc, .map (some g)]] #[], .func (.func 77) #[.agg #[.slice vA vn vc, .slice tA tn tc, .slice sA sn sc, .slice bA bn bc, .map (some g)]] #[], .func (.func 78) #[.agg #[.slice vA vn vc, .slice tA tn tc, .slice sA sn sc, .slice bA bn bc, .map (some g)]] #[], .func (.func 79) #[.agg #[.slice vA vn vc, .slice tA tn tc, .slice sA sn sc, .slice bA bn bc, .map (some g)]] #[]]) ∧ Below wa2.heap.size wa2 Wv) ⟨((Bx.at_ (by simp))), ((Below.refl _ wa2).alloc (by simp <;> omega) _)⟩ ?_
      rintro wa3 ⟨g2, b⟩
      replace sg := sg.below b; try clear c_g1 f_g1 a_g1 d_g1 e_g1
      replace g1 := g1.below b; have c_g1 := g1.cell; have f_g1 := g1.free; have a_g1 := fun o => (g1.alloc o).cell; have d_g1 := fun o o2 => ((g1.alloc o).alloc o2).cell; have e_g1 := fun o => (g1.alloc o).free; replace B := B.trans (b.mono B.size); clear b
      have c_g2 := g2.cell; have f_g2 := g2.free; have a_g2 := fun o => (g2.alloc o).cell; have d_g2 := fun o o2 => ((g2.alloc o).alloc o2).cell; have e_g2 := fun o => (g2.alloc o).free
      have HG0 := Lib.hid (And.intro g1 (And.intro g2 (And.intro sg B)))
      clear g1 g2 sg B c_g1 f_g1 a_g1 d_g1 e_g1 c_g2 f_g2 a_g2 d_g2 e_g2
      go_loopg [36] 5 (fun gg i wr => ∃ j : Nat, j ≤ 5 ∧ gg = 5 - j ∧ i = .int .i64 j ∧ Hid (Bx wr wa1.heap.size 155 #[.slice vA vn vc, .slice tA tn tc, .slice sA sn sc, .slice bA bn bc, .map (some g)] ∧ Bx wr wa2.heap.size 158 #[.func (.func 75) #[.agg #[.slice vA vn vc, .slice tA tn tc, .slice sA sn sc, .slice bA bn bc, .map (some g)]] #[], .func (.func 76) #[.agg #[.slice vA vn vc, .slice tA tn tc, .slice sA sn sc, .slice bA bn bc, .map (some g)]] #[], .func (.func 77) #[.agg #[.slice vA vn vc, .slice tA tn tc, .slice sA sn sc, .slice bA bn bc, .map (some g)]] #[], .func (.func 78) #[.agg #[.slice vA vn vc, .slice tA tn tc, .slice sA sn sc, .slice bA bn bc, .map (some g)]] #[], .func (.func 79) #[.agg #[.slice vA vn vc, .slice tA tn tc, .slice sA sn sc, .slice bA bn bc, .map (some g)]] #[]] ∧ Sg wr (.slice vA vn vc) (.slice tA tn tc) (.slice sA sn sc) (.slice bA bn bc) g gn l (T19 l) (slots l) (O19 l) ∧ Below w.heap.size w wr ∧ ∀ i, i < j → AllGood l (T19 l) (O19 l) (7 + i)))
      case atStart =>
        obtain ⟨g1, g2, sg, B⟩ := HG0.out
        exact ⟨0, by omega, by omega, rfl, Lib.hid ⟨g1, g2, sg, B, fun i hi => by omega⟩⟩
      case round =>
        obtain ⟨j, hj, hgj, rfl, hh⟩ := hrel
        clear HG0
        obtain ⟨g1, g2, sg, B, -⟩ := hh.out
        have c_g1 := g1.cell; have c_g2 := g2.cell
        rcases (show j = 0 ∨ j = 1 ∨ j = 2 ∨ j = 3 ∨ j = 4 ∨ j = 5 by omega) with rfl | rfl | rfl | rfl | rfl | rfl
        all_goals subst hgj
        · -- reason 7
          have EK := Lib.hid (fun w h => E7.out (.slice tA tn tc) (.slice sA sn sc) (.slice bA bn bc) g gn w h)
          cases c7
          · have hno : ¬ AllGood l (T19 l) (O19 l) (7 + 0) := of_decide_eq_false HCS.out.1.symm
            have hw := whyO_at (l := l) (T := T19 l) (O := O19 l) 5 7 0 (by omega) (fun i hi => hh.out.2.2.2.2 i (by omega)) hno
            have hn0 : n = 7 + 0 := by rw [HW.out, hw, if_pos (by omega)]
            subst hn0
            clear hno hw
            go_wp2_with fail
            refine (EK.out _ sg).mono ?_
            rintro e wa4 ⟨rfl, b⟩
            try clear c_g1 f_g1 a_g1 d_g1 e_g1
            replace g1 := g1.below b; have c_g1 := g1.cell; have f_g1 := g1.free; have a_g1 := fun o => (g1.alloc o).cell; have d_g1 := fun o o2 => ((g1.alloc o).alloc o2).cell; have e_g1 := fun o => (g1.alloc o).free; try clear c_g2 f_g2 a_g2 d_g2 e_g2
            replace g2 := g2.below b; have c_g2 := g2.cell; have f_g2 := g2.free; have a_g2 := fun o => (g2.alloc o).cell; have d_g2 := fun o o2 => ((g2.alloc o).alloc o2).cell; have e_g2 := fun o => (g2.alloc o).free; replace sg := sg.below b; replace B := B.trans (b.mono B.size); clear b
            go_wp2
            go_ret2
            exact ⟨rfl, B⟩
          · have hyes : AllGood l (T19 l) (O19 l) (7 + 0) := of_decide_eq_true HCS.out.1.symm
            have HA : Hid (∀ i, i < 0 + 1 → AllGood l (T19 l) (O19 l) (7 + i)) := Lib.hid (fun i hi => by
              by_cases e : i = 0
              · subst e; exact hyes
              · exact hh.out.2.2.2.2 i (by omega))
            clear hyes
            go_wp2_with fail
            refine (EK.out _ sg).mono ?_
            rintro e wa5 ⟨rfl, b⟩
            try clear c_g1 f_g1 a_g1 d_g1 e_g1
            replace g1 := g1.below b; have c_g1 := g1.cell; have f_g1 := g1.free; have a_g1 := fun o => (g1.alloc o).cell; have d_g1 := fun o o2 => ((g1.alloc o).alloc o2).cell; have e_g1 := fun o => (g1.alloc o).free; try clear c_g2 f_g2 a_g2 d_g2 e_g2
            replace g2 := g2.below b; have c_g2 := g2.cell; have f_g2 := g2.free; have a_g2 := fun o => (g2.alloc o).cell; have d_g2 := fun o o2 => ((g2.alloc o).alloc o2).cell; have e_g2 := fun o => (g2.alloc o).free; replace sg := sg.below b; replace B := B.trans (b.mono B.size); clear b
            have HG := Lib.hid (And.intro g1 (And.intro g2 (And.intro sg (And.intro B HA.out))))
            go_wp2
            go_roundg (5 - (0 + 1))
            case measure => omega
            case rel => exact ⟨0 + 1, by omega, rfl, by go_num, HG⟩
        · -- reason 8
          have EK := Lib.hid (fun w h => E8.out (.slice tA tn tc) (.slice sA sn sc) (.slice bA bn bc) g gn w h)
          cases c8
          · have hno : ¬ AllGood l (T19 l) (O19 l) (7 + 1) := of_decide_eq_false HCS.out.2.1.symm
            have hw := whyO_at (l := l) (T := T19 l) (O := O19 l) 5 7 1 (by omega) (fun i hi => hh.out.2.2.2.2 i (by omega)) hno
            have hn0 : n = 7 + 1 := by rw [HW.out, hw, if_pos (by omega)]
            subst hn0
            clear hno hw
            go_wp2_with fail
            refine (EK.out _ sg).mono ?_
            rintro e wa6 ⟨rfl, b⟩
            try clear c_g1 f_g1 a_g1 d_g1 e_g1
            replace g1 := g1.below b; have c_g1 := g1.cell; have f_g1 := g1.free; have a_g1 := fun o => (g1.alloc o).cell; have d_g1 := fun o o2 => ((g1.alloc o).alloc o2).cell; have e_g1 := fun o => (g1.alloc o).free; try clear c_g2 f_g2 a_g2 d_g2 e_g2
            replace g2 := g2.below b; have c_g2 := g2.cell; have f_g2 := g2.free; have a_g2 := fun o => (g2.alloc o).cell; have d_g2 := fun o o2 => ((g2.alloc o).alloc o2).cell; have e_g2 := fun o => (g2.alloc o).free; replace sg := sg.below b; replace B := B.trans (b.mono B.size); clear b
            go_wp2
            go_ret2
            exact ⟨rfl, B⟩
          · have hyes : AllGood l (T19 l) (O19 l) (7 + 1) := of_decide_eq_true HCS.out.2.1.symm
            have HA : Hid (∀ i, i < 1 + 1 → AllGood l (T19 l) (O19 l) (7 + i)) := Lib.hid (fun i hi => by
              by_cases e : i = 1
              · subst e; exact hyes
              · exact hh.out.2.2.2.2 i (by omega))
            clear hyes
            go_wp2_with fail
            refine (EK.out _ sg).mono ?_
            rintro e wa7 ⟨rfl, b⟩
            try clear c_g1 f_g1 a_g1 d_g1 e_g1
            replace g1 := g1.below b; have c_g1 := g1.cell; have f_g1 := g1.free; have a_g1 := fun o => (g1.alloc o).cell; have d_g1 := fun o o2 => ((g1.alloc o).alloc o2).cell; have e_g1 := fun o => (g1.alloc o).free; try clear c_g2 f_g2 a_g2 d_g2 e_g2
            replace g2 := g2.below b; have c_g2 := g2.cell; have f_g2 := g2.free; have a_g2 := fun o => (g2.alloc o).cell; have d_g2 := fun o o2 => ((g2.alloc o).alloc o2).cell; have e_g2 := fun o => (g2.alloc o).free; replace sg := sg.below b; replace B := B.trans (b.mono B.size); clear b
            have HG := Lib.hid (And.intro g1 (And.intro g2 (And.intro sg (And.intro B HA.out))))
            go_wp2
            go_roundg (5 - (1 + 1))
            case measure => omega
            case rel => exact ⟨1 + 1, by omega, rfl, by go_num, HG⟩
        · -- reason 9
          have EK := Lib.hid (fun w h => E9.out (hh.out.2.2.2.2 1 (by omega)) (.slice tA tn tc) (.slice sA sn sc) (.slice bA bn bc) g gn w h)
          cases c9
          · have hno : ¬ AllGood l (T19 l) (O19 l) (7 + 2) := of_decide_eq_false HCS.out.2.2.1.symm
            have hw := whyO_at (l := l) (T := T19 l) (O := O19 l) 5 7 2 (by omega) (fun i hi => hh.out.2.2.2.2 i (by omega)) hno
            have hn0 : n = 7 + 2 := by rw [HW.out, hw, if_pos (by omega)]
            subst hn0
            clear hno hw
            go_wp2_with fail
            refine (EK.out _ sg).mono ?_
            rintro e wa8 ⟨rfl, b⟩
            try clear c_g1 f_g1 a_g1 d_g1 e_g1
            replace g1 := g1.below b; have c_g1 := g1.cell; have f_g1 := g1.free; have a_g1 := fun o => (g1.alloc o).cell; have d_g1 := fun o o2 => ((g1.alloc o).alloc o2).cell; have e_g1 := fun o => (g1.alloc o).free; try clear c_g2 f_g2 a_g2 d_g2 e_g2
            replace g2 := g2.below b; have c_g2 := g2.cell; have f_g2 := g2.free; have a_g2 := fun o => (g2.alloc o).cell; have d_g2 := fun o o2 => ((g2.alloc o).alloc o2).cell; have e_g2 := fun o => (g2.alloc o).free; replace sg := sg.below b; replace B := B.trans (b.mono B.size); clear b
            go_wp2
            go_ret2
            exact ⟨rfl, B⟩
          · have hyes : AllGood l (T19 l) (O19 l) (7 + 2) := of_decide_eq_true HCS.out.2.2.1.symm
            have HA : Hid (∀ i, i < 2 + 1 → AllGood l (T19 l) (O19 l) (7 + i)) := Lib.hid (fun i hi => by
              by_cases e : i = 2
              · subst e; exact hyes
              · exact hh.out.2.2.2.2 i (by omega))
            clear hyes
            go_wp2_with fail
            refine (EK.out _ sg).mono ?_
            rintro e wa9 ⟨rfl, b⟩
            try clear c_g1 f_g1 a_g1 d_g1 e_g1
            replace g1 := g1.below b; have c_g1 := g1.cell; have f_g1 := g1.free; have a_g1 := fun o => (g1.alloc o).cell; have d_g1 := fun o o2 => ((g1.alloc o).alloc o2).cell; have e_g1 := fun o => (g1.alloc o).free; try clear c_g2 f_g2 a_g2 d_g2 e_g2
            replace g2 := g2.below b; have c_g2 := g2.cell; have f_g2 := g2.free; have a_g2 := fun o => (g2.alloc o).cell; have d_g2 := fun o o2 => ((g2.alloc o).alloc o2).cell; have e_g2 := fun o => (g2.alloc o).free; replace sg := sg.below b; replace B := B.trans (b.mono B.size); clear b
            have HG := Lib.hid (And.intro g1 (And.intro g2 (And.intro sg (And.intro B HA.out))))
            go_wp2
            go_roundg (5 - (2 + 1))
            case measure => omega
            case rel => exact ⟨2 + 1, by omega, rfl, by go_num, HG⟩
        · -- reason 10
          have EK := Lib.hid (fun w h => E10.out (hh.out.2.2.2.2 1 (by omega)) (.slice tA tn tc) (.slice sA sn sc) (.slice bA bn bc) g gn w h)
          cases c10
          · have hno : ¬ AllGood l (T19 l) (O19 l) (7 + 3) := of_decide_eq_false HCS.out.2.2.2.1.symm
            have hw := whyO_at (l := l) (T := T19 l) (O := O19 l) 5 7 3 (by omega) (fun i hi => hh.out.2.2.2.2 i (by omega)) hno
            have hn0 : n = 7 + 3 := by rw [HW.out, hw, if_pos (by omega)]
            subst hn0
            clear hno hw
            go_wp2_with fail
            refine (EK.out _ sg).mono ?_
            rintro e wa10 ⟨rfl, b⟩
            try clear c_g1 f_g1 a_g1 d_g1 e_g1
            replace g1 := g1.below b; have c_g1 := g1.cell; have f_g1 := g1.free; have a_g1 := fun o => (g1.alloc o).cell; have d_g1 := fun o o2 => ((g1.alloc o).alloc o2).cell; have e_g1 := fun o => (g1.alloc o).free; try clear c_g2 f_g2 a_g2 d_g2 e_g2
            replace g2 := g2.below b; have c_g2 := g2.cell; have f_g2 := g2.free; have a_g2 := fun o => (g2.alloc o).cell; have d_g2 := fun o o2 => ((g2.alloc o).alloc o2).cell; have e_g2 := fun o => (g2.alloc o).free; replace sg := sg.below b; replace B := B.trans (b.mono B.size); clear b
            go_wp2
            go_ret2
            exact ⟨rfl, B⟩
          · have hyes : AllGood l (T19 l) (O19 l) (7 + 3) := of_decide_eq_true HCS.out.2.2.2.1.symm
            have HA : Hid (∀ i, i < 3 + 1 → AllGood l (T19 l) (O19 l) (7 + i)) := Lib.hid (fun i hi => by
              by_cases e : i = 3
              · subst e; exact hyes
              · exact hh.out.2.2.2.2 i (by omega))
            clear hyes
            go_wp2_with fail
            refine (EK.out _ sg).mono ?_
            rintro e wa11 ⟨rfl, b⟩
            try clear c_g1 f_g1 a_g1 d_g1 e_g1
            replace g1 := g1.below b; have c_g1 := g1.cell; have f_g1 := g1.free; have a_g1 := fun o => (g1.alloc o).cell; have d_g1 := fun o o2 => ((g1.alloc o).alloc o2).cell; have e_g1 := fun o => (g1.alloc o).free; try clear c_g2 f_g2 a_g2 d_g2 e_g2
            replace g2 := g2.below b; have c_g2 := g2.cell; have f_g2 := g2.free; have a_g2 := fun o => (g2.alloc o).cell; have d_g2 := fun o o2 => ((g2.alloc o).alloc o2).cell; have e_g2 := fun o => (g2.alloc o).free; replace sg := sg.below b; replace B := B.trans (b.mono B.size); clear b
            have HG := Lib.hid (And.intro g1 (And.intro g2 (And.intro sg (And.intro B HA.out))))
            go_wp2
            go_roundg (5 - (3 + 1))
            case measure => omega
            case rel => exact ⟨3 + 1, by omega, rfl, by go_num, HG⟩
        · -- reason 11
          have EK := Lib.hid (fun w h => E11.out (hh.out.2.2.2.2 1 (by omega)) (.slice tA tn tc) (.slice sA sn sc) (.slice bA bn bc) g gn w h)
          cases c11
          · have hno : ¬ AllGood l (T19 l) (O19 l) (7 + 4) := of_decide_eq_false HCS.out.2.2.2.2.symm
            have hw := whyO_at (l := l) (T := T19 l) (O := O19 l) 5 7 4 (by omega) (fun i hi => hh.out.2.2.2.2 i (by omega)) hno
            have hn0 : n = 7 + 4 := by rw [HW.out, hw, if_pos (by omega)]
            subst hn0
            clear hno hw
            go_wp2_with fail
            refine (EK.out _ sg).mono ?_
            rintro e wa12 ⟨rfl, b⟩
            try clear c_g1 f_g1 a_g1 d_g1 e_g1
            replace g1 := g1.below b; have c_g1 := g1.cell; have f_g1 := g1.free; have a_g1 := fun o => (g1.alloc o).cell; have d_g1 := fun o o2 => ((g1.alloc o).alloc o2).cell; have e_g1 := fun o => (g1.alloc o).free; try clear c_g2 f_g2 a_g2 d_g2 e_g2
            replace g2 := g2.below b; have c_g2 := g2.cell; have f_g2 := g2.free; have a_g2 := fun o => (g2.alloc o).cell; have d_g2 := fun o o2 => ((g2.alloc o).alloc o2).cell; have e_g2 := fun o => (g2.alloc o).free; replace sg := sg.below b; replace B := B.trans (b.mono B.size); clear b
            go_wp2
            go_ret2
            exact ⟨rfl, B⟩
          · have hyes : AllGood l (T19 l) (O19 l) (7 + 4) := of_decide_eq_true HCS.out.2.2.2.2.symm
            have HA : Hid (∀ i, i < 4 + 1 → AllGood l (T19 l) (O19 l) (7 + i)) := Lib.hid (fun i hi => by
              by_cases e : i = 4
              · subst e; exact hyes
              · exact hh.out.2.2.2.2 i (by omega))
            clear hyes
            go_wp2_with fail
            refine (EK.out _ sg).mono ?_
            rintro e wa13 ⟨rfl, b⟩
            try clear c_g1 f_g1 a_g1 d_g1 e_g1
            replace g1 := g1.below b; have c_g1 := g1.cell; have f_g1 := g1.free; have a_g1 := fun o => (g1.alloc o).cell; have d_g1 := fun o o2 => ((g1.alloc o).alloc o2).cell; have e_g1 := fun o => (g1.alloc o).free; try clear c_g2 f_g2 a_g2 d_g2 e_g2
            replace g2 := g2.below b; have c_g2 := g2.cell; have f_g2 := g2.free; have a_g2 := fun o => (g2.alloc o).cell; have d_g2 := fun o o2 => ((g2.alloc o).alloc o2).cell; have e_g2 := fun o => (g2.alloc o).free; replace sg := sg.below b; replace B := B.trans (b.mono B.size); clear b
            have HG := Lib.hid (And.intro g1 (And.intro g2 (And.intro sg (And.intro B HA.out))))
            go_wp2
            go_roundg (5 - (4 + 1))
            case measure => omega
            case rel => exact ⟨4 + 1, by omega, rfl, by go_num, HG⟩
        · have hall : ∀ i, 7 ≤ i → i < 7 + 5 → AllGood l (T19 l) (O19 l) i := fun i h1 h2 => by
            have := hh.out.2.2.2.2 (i - 7) (by omega)
            rwa [show 7 + (i - 7) = i by omega] at this
          have hw0 := (whyO_zero (l := l) (T := T19 l) (O := O19 l) 5 7 (by omega)).2 hall
          have hn0 : n = if SlotsGood (slots l) (O19 l) then 0 else 12 := by rw [HW.out, hw0, if_neg (by omega)]
          have HN := Lib.hid hn0
          have ls := Rd.len sg.s Try.underlying48
          rw [HSN.out] at ls
          clear hall hw0 hn0 g2 c_g2
          go_wp2
          have HG1 := Lib.hid (And.intro g1 (And.intro sg B))
          clear g1 sg B c_g1
          go_loopg [51] 16 (fun gg i wr2 => ∃ j : Nat, j ≤ 16 ∧ gg = 16 - j ∧ i = .int .i64 j ∧ Hid (Bx wr2 wa1.heap.size 155 #[.slice vA vn vc, .slice tA tn tc, .slice sA sn sc, .slice bA bn bc, .map (some g)] ∧ Sg wr2 (.slice vA vn vc) (.slice tA tn tc) (.slice sA sn sc) (.slice bA bn bc) g gn l (T19 l) (slots l) (O19 l) ∧ Below w.heap.size w wr2 ∧ ∀ i s, i < j → (slots l)[i]? = some s → s.used = true → IsObj (O19 l) s.at_))
          case atStart =>
            obtain ⟨g1, sg, B⟩ := HG1.out
            exact ⟨0, by omega, by omega, rfl, Lib.hid ⟨g1, sg, B, fun i s hi => by omega⟩⟩
          case round =>
            obtain ⟨j, hj, rfl, rfl, hh2⟩ := hrel
            clear HG1
            obtain ⟨g1, sg, B, -⟩ := hh2.out
            have c_g1 := g1.cell
            by_cases hlt : j < 16
            · obtain ⟨bb, oo, t, ia, m0, m1, m2, ht⟩ := sg.s.at_ (P := Try.prog) Try.underlying48 size_slot (k := j) (by rw [HSN.out]; exact hlt)
              obtain ⟨tg, tu, ta⟩ := t
              dsimp only at m0 m1 m2
              have HT := Lib.hid ht.out
              clear ht
              cases tu
              · have HZ : Hid (∀ i s, i < j + 1 → (slots l)[i]? = some s → s.used = true → IsObj (O19 l) s.at_) := Lib.hid (fun i s hi hs hu => by
                  by_cases e : i = j
                  · subst e; rw [HT.out] at hs; injection hs with hs; subst hs; cases hu
                  · exact hh2.out.2.2.2 i s (by omega) hs hu)
                go_upto_region 16 with (fail)
                refine wp_gen (fun Wv => Bx Wv (wr.heap.size) (56) (#[.int .i64 tg, .bool false, .int .i64 ta]) ∧ Below wr.heap.size wr Wv) ⟨((Bx.at_ (by simp))), ((Below.refl _ wr).alloc (by simp <;> omega) _)⟩ ?_
                rintro wa14 ⟨g2, b⟩
                try clear c_g1 f_g1 a_g1 d_g1 e_g1
                replace g1 := g1.below b; have c_g1 := g1.cell; have f_g1 := g1.free; have a_g1 := fun o => (g1.alloc o).cell; have d_g1 := fun o o2 => ((g1.alloc o).alloc o2).cell; have e_g1 := fun o => (g1.alloc o).free; replace sg := sg.below b; replace B := B.trans (b.mono B.size); clear b
                have c_g2 := g2.cell; have f_g2 := g2.free; have a_g2 := fun o => (g2.alloc o).cell; have d_g2 := fun o o2 => ((g2.alloc o).alloc o2).cell; have e_g2 := fun o => (g2.alloc o).free
                have HG := Lib.hid (And.intro g1 (And.intro sg (And.intro B HZ.out)))
                go_wp2
                go_roundg (16 - (j + 1))
                case measure => omega
                case rel => exact ⟨j + 1, by omega, rfl, by go_num, HG⟩
              · have hi64 := HI.out _ (List.mem_of_getElem? HT.out) rfl
                obtain ⟨q, hq⟩ : ∃ q, q = decide (IsObj (O19 l) ta) := ⟨_, rfl⟩
                go_upto_region 16 with (fail)
                refine wp_gen (fun Wv => Bx Wv (wr.heap.size) (56) (#[.int .i64 tg, .bool true, .int .i64 ta]) ∧ Below wr.heap.size wr Wv) ⟨((Bx.at_ (by simp))), ((Below.refl _ wr).alloc (by simp <;> omega) _)⟩ ?_
                rintro wa15 ⟨g2, b⟩
                try clear c_g1 f_g1 a_g1 d_g1 e_g1
                replace g1 := g1.below b; have c_g1 := g1.cell; have f_g1 := g1.free; have a_g1 := fun o => (g1.alloc o).cell; have d_g1 := fun o o2 => ((g1.alloc o).alloc o2).cell; have e_g1 := fun o => (g1.alloc o).free; replace sg := sg.below b; replace B := B.trans (b.mono B.size); clear b
                have c_g2 := g2.cell; have f_g2 := g2.free; have a_g2 := fun o => (g2.alloc o).cell; have d_g2 := fun o o2 => ((g2.alloc o).alloc o2).cell; have e_g2 := fun o => (g2.alloc o).free
                have hlk := sg.look (a := ta) hi64
                rw [← hq] at hlk
                cases q
                · have hno : ¬ SlotsGood (slots l) (O19 l) := fun hg => of_decide_eq_false hq.symm (hg _ (List.mem_of_getElem? HT.out) rfl)
                  have hn0 : n = 12 := by rw [HN.out, if_neg hno]
                  subst hn0
                  clear hno hq
                  go_wp2
                  go_ret2
                  exact ⟨rfl, B⟩
                · have HZ : Hid (∀ i s, i < j + 1 → (slots l)[i]? = some s → s.used = true → IsObj (O19 l) s.at_) := Lib.hid (fun i s hi hs hu => by
                    by_cases e : i = j
                    · subst e; rw [HT.out] at hs; injection hs with hs; subst hs; exact of_decide_eq_true hq.symm
                    · exact hh2.out.2.2.2 i s (by omega) hs hu)
                  have HG := Lib.hid (And.intro g1 (And.intro sg (And.intro B HZ.out)))
                  clear hq
                  go_wp2
                  go_roundg (16 - (j + 1))
                  case measure => omega
                  case rel => exact ⟨j + 1, by omega, rfl, by go_num, HG⟩
            · obtain rfl : j = 16 := by omega
              have hsg : SlotsGood (slots l) (O19 l) := fun s hs hu => by
                obtain ⟨i, hi, e⟩ := List.mem_iff_getElem.1 hs
                exact hh2.out.2.2.2 i s (by rw [← HSN.out]; exact hi) (by rw [List.getElem?_eq_getElem hi, e]) hu
              have hn0 : n = 0 := by rw [HN.out, if_pos hsg]
              subst hn0
              clear hsg
              go_wp2
              go_ret2
              exact ⟨rfl, B⟩
theorem Check19_any (v : Value) (l : List UInt64) (r : Int) (hr : r = chk19 l) (w : World) (h : Words w v l) :
    Calls Try.prog 22 #[v] w fun e w' => e = .returned (.int .i64 r) ∧ Below w.heap.size w w' := by
  have B : Below w.heap.size w w := Below.refl _ _
  have H := Lib.hid h
  obtain ⟨n, hn⟩ : ∃ n, n = rea l := ⟨_, rfl⟩
  obtain ⟨q, hq⟩ : ∃ q, q = reaE l := ⟨_, rfl⟩
  have RT := Lib.hid (fun w h => Reason_any v l n q hn hq w h)
  have hcase : (q = 0 ∧ n = 0 ∧ r = 0) ∨ (q = 0 ∧ 0 < n ∧ r = 50) ∨ (q = 8 ∧ r = 8) := by
    rw [hr, hn, hq]
    by_cases hs : SizeOk l.length
    · by_cases h0 : why l = 0
      · exact .inl ⟨by rw [reaE, if_pos hs], by rw [rea, if_pos hs, h0], by rw [chk19, if_pos hs, if_pos h0]⟩
      · exact .inr (.inl ⟨by rw [reaE, if_pos hs], by rw [rea, if_pos hs]; omega, by rw [chk19, if_pos hs, if_neg h0]⟩)
    · exact .inr (.inr ⟨by rw [reaE, if_neg hs], by rw [chk19, if_neg hs]⟩)
  clear hn hq hr h
  rcases hcase with ⟨rfl, rfl, rfl⟩ | ⟨rfl, h1, rfl⟩ | ⟨rfl, rfl⟩
  · skip
    go_enter Try.func22, Try.ntmps22
    go_wp2_with fail
    refine (RT.out _ (H.out.below B)).mono ?_
    rintro e wa1 ⟨rfl, b⟩
    replace B := B.trans (b.mono B.size); clear b
    go_wp2
    go_ret
    exact ⟨rfl, B⟩
  · have n1 : (0 : Int) < (n : Int) := by omega
    go_enter Try.func22, Try.ntmps22
    go_wp2_with fail
    refine (RT.out _ (H.out.below B)).mono ?_
    rintro e wa1 ⟨rfl, b⟩
    replace B := B.trans (b.mono B.size); clear b
    go_wp2
    go_ret
    exact ⟨rfl, B⟩
  · skip
    go_enter Try.func22, Try.ntmps22
    go_wp2_with fail
    refine (RT.out _ (H.out.below B)).mono ?_
    rintro e wa1 ⟨rfl, b⟩
    replace B := B.trans (b.mono B.size); clear b
    go_wp2
    go_ret
    exact ⟨rfl, B⟩
end Go.Proofs.Ytodbbacmdjcheaa
namespace Go.Proofs.Ytodbbacmdjcheaa
open Go.RowKit L02 L05 L06 L07
end Go.Proofs.Ytodbbacmdjcheaa
namespace Go.Proofs.Ytodbbacmdjcheaa
open Go.RowKit L01 L02 L05 L06 L07 L13 L14 L15 L18 L19
end Go.Proofs.Ytodbbacmdjcheaa
namespace Go.Proofs.Ytodbbacmdjcheaa
open Go.RowKit L01 L02 L05 L06 L07 L13 L14 L15 L18 L19
end Go.Proofs.Ytodbbacmdjcheaa
namespace Go.Proofs.Ytodbbacmdjcheaa
open Go.RowKit L01 L02 L05 L06 L07 L13 L14 L15 L18 L19
end Go.Proofs.Ytodbbacmdjcheaa
namespace Go.Proofs.Ytodbbacmdjcheaa
open Go.RowKit L01 L02 L05 L06 L07 L13 L14 L15 L18 L19
/-- what the reference knows of an image -/
structure Rs19 (W : World) (v tv sv bv : Value) (l : List UInt64) (T : List (List UInt8)) (S : List Sl) (O : List Hb) : Prop where
  w : Words W v l
  t : Typs W tv T
  s : Slots W sv S
  b : Blks W bv O
theorem Rs19.below {W W' : World} {v tv sv bv : Value} {l : List UInt64} {T : List (List UInt8)} {S : List Sl} {O : List Hb} (h : Rs19 W v tv sv bv l T S O) (hb : Below W.heap.size W W') : Rs19 W' v tv sv bv l T S O :=
  ⟨h.w.below hb, h.t.below hb, Slots.below h.s hb, h.b.below hb⟩
end Go.Proofs.Ytodbbacmdjcheaa
namespace Go.Proofs.Ytodbbacmdjcheaa
open Go.RowKit L01 L02 L05 L06 L07 L13 L14 L15 L18 L19
end Go.Proofs.Ytodbbacmdjcheaa
namespace Go.Proofs.Ytodbbacmdjcheaa.L19
open L02 L07 L13 L14 L15 L16 L18
/-- blocks that stand one behind the other, from an address to another -/
inductive Seg (l : List UInt64) : Nat → List Hb → Nat → Prop where
  | nil {k : Nat} : k ≤ l.length → Seg l k [] k
  | cons {k q : Nat} {L : List Hb} : k < l.length → StOk l k → Seg l (k + szN l k) L q → Seg l k (stand l k :: L) q
section
variable {l l' : List UInt64} {k p q : Nat} {A B L : List Hb} {b : Hb}
theorem Seg.le (h : Seg l k L q) : k ≤ q ∧ q ≤ l.length := by
  induction h with
  | nil h => exact ⟨Nat.le_refl _, h⟩
  | cons hk hs _ ih => have := szN_ge hs; omega
theorem Seg.of_chain (h : Chain l k L) : Seg l k L l.length := by
  induction h with
  | nil => exact .nil (Nat.le_refl _)
  | cons hk hs _ ih => exact .cons hk hs ih
theorem Seg.chain (h : Seg l k L q) (e : q = l.length) : Chain l k L := by
  induction h with
  | nil h => subst e; exact .nil
  | cons hk hs _ ih => exact .cons hk hs (ih e)
theorem Seg.append (h1 : Seg l k A p) (h2 : Seg l p B q) : Seg l k (A ++ B) q := by
  induction h1 with
  | nil h => exact h2
  | cons hk hs _ ih => exact .cons hk hs (ih h2)
theorem Seg.split : ∀ {A : List Hb} {k : Nat}, Seg l k (A ++ B) q → ∃ p, Seg l k A p ∧ Seg l p B q
  | [], k, h => ⟨k, .nil (Nat.le_trans (Seg.le h).1 (Seg.le h).2), h⟩
  | a :: A, k, h => by
    rw [List.cons_append] at h
    cases h with
    | cons hk hs ht =>
      obtain ⟨p, h1, h2⟩ := Seg.split ht
      exact ⟨p, .cons hk hs h1, h2⟩
theorem Seg.congr (h : Seg l k L q) (hl : l'.length = l.length) (he : ∀ i, k ≤ i → i < q → l'.getD i 0 = l.getD i 0) : Seg l' k L q := by
  induction h with
  | nil h => exact .nil (by omega)
  | cons hk hs ht ih =>
    rename_i k q L
    have hz := szN_ge hs
    have hle := ht.le
    have e0 := he k (Nat.le_refl _) (by omega)
    have e1 := he (k + 1) (by omega) (by omega)
    have es : stand l' k = stand l k := by unfold stand; rw [e0, e1]
    have ez : szN l' k = szN l k := by unfold szN; rw [e0]
    rw [← es]
    refine .cons (by omega) ?_ ?_
    · unfold StOk; rw [e0, hl]; exact hs
    · rw [ez]; exact ih (fun i h1 h2 => he i (by omega) h2)
/-- the first block -/
theorem Seg.head (h : Seg l k (b :: L) q) : b.at_ = k ∧ BkOk b ∧ b = stand l k ∧ StOk l k ∧ ((k + szN l k : Nat) : Int) = k + b.size ∧ Seg l (k + szN l k) L q := by
  cases h with
  | cons hk hs ht =>
    have hz := szN_ge hs
    refine ⟨rfl, stand_ok hs, rfl, hs, ?_, ht⟩
    rw [stand_size hs]; omega
theorem Seg.one (h : Seg l k [b] q) : b.at_ = k ∧ (q : Int) = k + b.size ∧ BkOk b := by
  obtain ⟨h1, h2, _, _, h3, h4⟩ := h.head
  cases h4 with
  | nil => exact ⟨h1, h3, h2⟩
theorem Seg.even (h : Seg l k L q) (hk : k % 2 = 0) : q % 2 = 0 := by
  induction h with
  | nil h => exact hk
  | cons _ hs _ ih => have := szN_ge hs; exact ih (by omega)
theorem Seg.mem (h : Seg l k L q) : ∀ b ∈ L, ∃ a : Nat, k ≤ a ∧ StOk l a ∧ b = stand l a ∧ a + szN l a ≤ q := by
  induction h with
  | nil h => intro b hb; cases hb
  | cons hk hs ht ih =>
    intro b hb
    have hle := ht.le
    have hz := szN_ge hs
    rcases List.mem_cons.1 hb with rfl | hb
    · exact ⟨_, Nat.le_refl _, hs, rfl, by omega⟩
    · obtain ⟨a, h1, h2⟩ := ih b hb
      exact ⟨a, by omega, h2⟩
/-- where the blocks of a part lie -/
theorem Seg.bound (h : Seg l k L q) {b : Hb} (hb : b ∈ L) : (k : Int) ≤ b.at_ ∧ b.at_ + b.size ≤ q ∧ 2 ≤ b.size := by
  obtain ⟨a, h1, h2, h3, h4⟩ := h.mem b hb
  have hz := szN_ge h2
  have e1 : b.size = szN l a := by rw [h3]; exact stand_size h2
  have e2 : b.at_ = a := by rw [h3]; rfl
  omega
/-- a block stands where its word does -/
theorem stand_put (hok : BkOk b) (hw : l.getD k 0 = word b) (ha : b.at_ = k) (hn : b.next = l.getD (k + 1) 0) (hle : (k : Int) + b.size ≤ l.length) : StOk l k ∧ stand l k = b ∧ (szN l k : Int) = b.size := by
  have hsp := split_word hok
  have hb := hok.bounds
  refine ⟨⟨by rw [hw]; exact hd_word hok, by rw [hw, hsp]; exact hle⟩, ?_, ?_⟩
  · unfold stand
    rw [hw, hsp, ← hn, ← ha]
  · unfold szN
    rw [hw, hsp]
    show ((b.size.toNat : Nat) : Int) = b.size
    omega
theorem Seg.put (hok : BkOk b) (hw : l.getD k 0 = word b) (ha : b.at_ = k) (hn : b.next = l.getD (k + 1) 0) (hq : (q : Int) = k + b.size) (hle : q ≤ l.length) : Seg l k [b] q := by
  obtain ⟨h1, h2, h3⟩ := stand_put hok hw ha hn (by omega)
  have hb := hok.bounds
  have e : q = k + szN l k := by omega
  have := Seg.cons (l := l) (k := k) (q := q) (L := []) (by omega) h1 (by rw [← e]; exact .nil hle)
  rw [h2] at this
  exact this
/-- the whole heap -/
theorem all_of_seg (hs : SizeOk l.length) (h : Seg l 128 L l.length) (ha : ¬ Adj L) : allErr l = 0 ∧ allL l = L := by
  have hp : parsed l = some L := parsed_ok.2 ⟨from_chain (h.chain rfl), ha⟩
  have he : allErr l = 0 := by unfold allErr; rw [if_pos hs, hp]; rfl
  exact ⟨he, by rw [allL, if_pos he, hp]; rfl⟩
theorem seg_of_all (h : allErr l = 0) : Seg l 128 (allL l) l.length ∧ ¬ Adj (allL l) := by
  obtain ⟨hs, hp⟩ := allErr_ok h
  obtain ⟨hfr, hadj⟩ := parsed_ok.1 hp
  exact ⟨.of_chain (chain_iff.1 hfr), hadj⟩
end
/-- the last block of a list is free; the first one is -/
def LastF (L : List Hb) : Prop := ∃ P f, L = P ++ [f] ∧ f.kind = 2
def HeadF (L : List Hb) : Prop := ∃ f S, L = f :: S ∧ f.kind = 2
theorem adj_app : ∀ {A B : List Hb}, Adj (A ++ B) ↔ Adj A ∨ Adj B ∨ (LastF A ∧ HeadF B)
  | [], B => by
    simp only [List.nil_append, Adj, false_or]
    constructor
    · intro h; exact .inl h
    · rintro (h | ⟨⟨P, f, h, _⟩, _⟩)
      · exact h
      · simp at h
  | [a], [] => by
    simp only [List.append_nil, Adj, false_or]
    constructor
    · intro h; exact h.elim
    · rintro ⟨_, f, S, h, _⟩; cases h
  | [a], b :: B => by
    show (a.kind = 2 ∧ b.kind = 2) ∨ Adj (b :: B) ↔ _
    constructor
    · rintro (⟨h1, h2⟩ | h)
      · exact .inr (.inr ⟨⟨[], a, rfl, h1⟩, b, B, rfl, h2⟩)
      · exact .inr (.inl h)
    · rintro (h | h | ⟨⟨P, f, h1, h2⟩, g, S, h3, h4⟩)
      · exact h.elim
      · exact .inr h
      · left
        injection h3 with h3 _
        subst h3
        rcases P with _ | ⟨x, P⟩
        · simp at h1; subst h1; exact ⟨h2, h4⟩
        · simp at h1
  | a :: a' :: A, B => by
    show (a.kind = 2 ∧ a'.kind = 2) ∨ Adj (a' :: A ++ B) ↔ ((a.kind = 2 ∧ a'.kind = 2) ∨ Adj (a' :: A)) ∨ Adj B ∨ (LastF (a :: a' :: A) ∧ HeadF B)
    rw [adj_app (A := a' :: A)]
    have e : LastF (a :: a' :: A) ↔ LastF (a' :: A) := by
      constructor
      · rintro ⟨P, f, h1, h2⟩
        rcases P with _ | ⟨x, P⟩
        · simp at h1
        · injection h1 with _ h1
          exact ⟨P, f, h1, h2⟩
      · rintro ⟨P, f, h1, h2⟩
        exact ⟨a :: P, f, by rw [h1]; rfl, h2⟩
    rw [e]
    constructor
    · rintro (h | h | h | h)
      · exact .inl (.inl h)
      · exact .inl (.inr h)
      · exact .inr (.inl h)
      · exact .inr (.inr h)
    · rintro ((h | h) | h | h)
      · exact .inl h
      · exact .inr (.inl h)
      · exact .inr (.inr (.inl h))
      · exact .inr (.inr (.inr h))
theorem headF_cons {a : Hb} {L : List Hb} : HeadF (a :: L) ↔ a.kind = 2 := by
  constructor
  · rintro ⟨f, S, h, hk⟩; injection h with h _; subst h; exact hk
  · intro h; exact ⟨a, L, rfl, h⟩
theorem lastF_snoc {a : Hb} {L : List Hb} : LastF (L ++ [a]) ↔ a.kind = 2 := by
  constructor
  · rintro ⟨P, f, h, hk⟩
    have := List.append_inj' h rfl
    have := this.2
    injection this with this _; subst this; exact hk
  · intro h; exact ⟨L, a, rfl, h⟩
theorem objs_app (A B : List Hb) : objs (A ++ B) = objs A ++ objs B := List.filter_append ..
theorem free_app (A B : List Hb) : free (A ++ B) = free A ++ free B := List.filter_append ..
/-- a part of the heap: what stands before it, it, what stands behind it -/
structure Cut (l : List UInt64) (P M S : List Hb) (p q : Nat) : Prop where
  eq : allL l = P ++ (M ++ S)
  s1 : Seg l 128 P p
  s2 : Seg l p M q
  s3 : Seg l q S l.length
  na : ¬ Adj (P ++ (M ++ S))
theorem Cut.of {l : List UInt64} (h : allErr l = 0) {P M S : List Hb} (e : allL l = P ++ (M ++ S)) : ∃ p q, Cut l P M S p q := by
  obtain ⟨h1, h2⟩ := seg_of_all h
  rw [e] at h1 h2
  obtain ⟨p, a1, a2⟩ := Seg.split h1
  obtain ⟨q, a3, a4⟩ := Seg.split a2
  exact ⟨p, q, e, a1, a3, a4, h2⟩
/-- the part written anew -/
theorem Cut.new {l l' : List UInt64} {P M S N : List Hb} {p q : Nat} (hs : SizeOk l.length) (h : Cut l P M S p q) (hl : l'.length = l.length) (he : ∀ i, 128 ≤ i → i < p ∨ q ≤ i → l'.getD i 0 = l.getD i 0) (hN : Seg l' p N q) (hna : ¬ Adj (P ++ (N ++ S))) :
    allErr l' = 0 ∧ allL l' = P ++ (N ++ S) ∧ Cut l' P N S p q := by
  have b1 := h.s1.le
  have b2 := h.s2.le
  have c1 : Seg l' 128 P p := h.s1.congr hl (fun i h1 h2 => he i h1 (.inl h2))
  have c3 : Seg l' q S l'.length := by rw [hl]; exact h.s3.congr hl (fun i h1 h2 => he i (by omega) (.inr h1))
  have c := c1.append (hN.append c3)
  obtain ⟨a1, a2⟩ := all_of_seg (by rw [hl]; exact hs) c hna
  exact ⟨a1, a2, a2, c1, hN, c3, hna⟩
/-- what an object would become: the part that it merges -/
theorem merge_part {l : List UInt64} (h : allErr l = 0) {i : Nat} {b : Hb} (hb : (allL l)[i]? = some b) (hk : b.kind = 1) :
    ∃ P lo hi S p q, Cut l P (lo ++ b :: hi) S p q ∧ (becomes (allL l) i).at_ = p ∧ (becomes (allL l) i).size = q - p ∧ BkOk (becomes (allL l) i) ∧ (∀ f ∈ lo, f.kind = 2) ∧ (∀ f ∈ hi, f.kind = 2) ∧ lo.length ≤ 1 ∧ hi.length ≤ 1 ∧
      (∀ m : Hb, ¬ Adj (P ++ ([m] ++ S))) ∧ i = P.length + lo.length ∧ 128 ≤ p ∧ (p : Int) ≤ b.at_ ∧ b.at_ + b.size ≤ q ∧ q ≤ l.length := by
  obtain ⟨hs, _⟩ := allErr_ok h
  obtain ⟨hseg, hna⟩ := seg_of_all h
  obtain ⟨L, hL⟩ : ∃ L, L = allL l := ⟨_, rfl⟩
  rw [← hL] at hb hseg hna ⊢
  have hil := (List.getElem?_eq_some_iff.1 hb).1
  -- the parts before and behind
  obtain ⟨A, C, hAC, hAi⟩ : ∃ A C, L = A ++ (b :: C) ∧ A.length = i := by
    refine ⟨L.take i, L.drop (i + 1), ?_, by rw [List.length_take]; omega⟩
    have := (List.getElem?_eq_some_iff.1 hb).2
    rw [← this, ← List.drop_eq_getElem_cons hil, List.take_append_drop]
  have hgb : L.getD i .none = b := by rw [List.getD_eq_getElem?_getD, hb]; rfl
  have low : ∃ P lo, A = P ++ lo ∧ lo.length ≤ 1 ∧ (∀ f ∈ lo, f.kind = 2) ∧ ¬ LastF P ∧ ((lo = [] ∧ lowF L i = false) ∨ ∃ f, lo = [f] ∧ lowF L i = true ∧ L.getD (i - 1) .none = f) := by
    rcases List.eq_nil_or_concat A with e | ⟨P, f, e⟩
    · subst e
      refine ⟨[], [], rfl, by simp, by simp, ?_, .inl ⟨rfl, ?_⟩⟩
      · rintro ⟨P, f, h, _⟩; simp at h
      · have : i = 0 := by simpa using hAi.symm
        unfold lowF; rw [this]; rfl
    · rw [List.concat_eq_append] at e
      have hP : P.length + 1 = i := by rw [← hAi, e]; simp
      have hg : L.getD (i - 1) .none = f := by
        rw [hAC, e, List.getD_eq_getElem?_getD, List.append_assoc, show i - 1 = P.length by omega, List.getElem?_append_right (Nat.le_refl _), Nat.sub_self]; rfl
      have h0 : decide (0 < i) = true := decide_eq_true (by omega)
      by_cases hf : f.kind = 2
      · refine ⟨P, [f], e, by simp, by simp [hf], ?_, .inr ⟨f, rfl, ?_, hg⟩⟩
        · intro hP2
          apply hna
          rw [hAC, e, adj_app, adj_app]
          exact .inl (.inr (.inr ⟨hP2, f, [], rfl, hf⟩))
        · unfold lowF; rw [hg, h0, decide_eq_true hf]; rfl
      · refine ⟨A, [], by simp, by simp, by simp, ?_, .inl ⟨rfl, ?_⟩⟩
        · rw [e, lastF_snoc]; exact hf
        · unfold lowF; rw [hg, decide_eq_false hf]; simp
  have high : ∃ hi S, C = hi ++ S ∧ hi.length ≤ 1 ∧ (∀ f ∈ hi, f.kind = 2) ∧ ¬ HeadF S ∧ ((hi = [] ∧ highF L i = false) ∨ ∃ f, hi = [f] ∧ highF L i = true ∧ L.getD (i + 1) .none = f) := by
    rcases C with _ | ⟨f, S⟩
    · refine ⟨[], [], rfl, by simp, by simp, ?_, .inl ⟨rfl, ?_⟩⟩
      · rintro ⟨f, S, h, _⟩; cases h
      · have : L.getD (i + 1) .none = .none := by
          rw [List.getD_eq_getElem?_getD, List.getElem?_eq_none (by rw [hAC]; simp; omega)]; rfl
        unfold highF; rw [this]; rfl
    · have hg : L.getD (i + 1) .none = f := by
        rw [hAC, List.getD_eq_getElem?_getD, List.getElem?_append_right (by omega), show i + 1 - A.length = 1 by omega]; rfl
      by_cases hf : f.kind = 2
      · refine ⟨[f], S, rfl, by simp, by simp [hf], ?_, .inr ⟨f, rfl, ?_, hg⟩⟩
        · intro hS
          apply hna
          rw [hAC, adj_app, show b :: f :: S = [b] ++ ([f] ++ S) from rfl, adj_app (A := [b]), adj_app (A := [f])]
          exact .inr (.inl (.inr (.inl (.inr (.inr ⟨⟨[], f, rfl, hf⟩, hS⟩)))))
        · unfold highF; rw [hg, decide_eq_true hf]
      · refine ⟨[], f :: S, rfl, by simp, by simp, ?_, .inl ⟨rfl, ?_⟩⟩
        · rw [headF_cons]; exact hf
        · unfold highF; rw [hg, decide_eq_false hf]
  obtain ⟨P, lo, e1, l1, k1, n1, d1⟩ := low
  obtain ⟨hi, S, e2, l2, k2, n2, d2⟩ := high
  have eL : L = P ++ ((lo ++ b :: hi) ++ S) := by rw [hAC, e1, e2]; simp
  obtain ⟨p, q, hc⟩ := Cut.of h (P := P) (M := lo ++ b :: hi) (S := S) (by rw [← hL, eL])
  have b1 := hc.s1.le
  have b2 := hc.s2.le
  have hm := hc.s2
  have hbm := hm.bound (b := b) (by simp)
  have pev := hc.s1.even (by decide)
  have qev := hm.even pev
  have hsz : (becomes L i).at_ = p ∧ (becomes L i).size = q - p := by
    obtain ⟨x, m1, m2⟩ := Seg.split hm
    obtain ⟨h1, _, _, _, h3, h4⟩ := m2.head
    unfold becomes
    dsimp only
    rw [hgb]
    rcases d1 with ⟨rfl, f1⟩ | ⟨f, rfl, f1, g1⟩ <;> rcases d2 with ⟨rfl, f2⟩ | ⟨f', rfl, f2, g2⟩
    · rw [f1, f2]
      cases m1; cases h4
      simp only [Bool.false_eq_true, if_false]
      omega
    · rw [f1, f2, g2]
      cases m1
      obtain ⟨y1, y2, _⟩ := h4.one
      simp only [Bool.false_eq_true, if_false, if_true]
      omega
    · rw [f1, f2, g1]
      obtain ⟨y1, y2, _⟩ := m1.one
      cases h4
      simp only [Bool.false_eq_true, if_false, if_true]
      omega
    · rw [f1, f2, g1, g2]
      obtain ⟨y1, y2, _⟩ := m1.one
      obtain ⟨z1, z2, _⟩ := h4.one
      simp only [if_true]
      omega
  refine ⟨P, lo, hi, S, p, q, hc, hsz.1, hsz.2, ?_, k1, k2, l1, l2, ?_, by rw [← hAi, e1]; simp, b1.1, hbm.1, hbm.2.1, b2.2⟩
  · have hz := hsz.2
    have hs2 := hs.2.1
    have ho : BkOk (becomes L i) ↔ BkOk ⟨0, (becomes L i).size, 2, 0, false, 0⟩ := Iff.rfl
    rw [ho, hz]
    refine ⟨⟨?_, ?_⟩, .inr ⟨rfl, rfl, rfl, ?_⟩⟩ <;> dsimp only <;> omega
  · intro m
    rw [adj_app]
    rintro (h1 | h1 | ⟨h1, _⟩)
    · apply hna; rw [eL, adj_app]; exact .inl h1
    · rw [adj_app] at h1
      rcases h1 with h1 | h1 | ⟨_, h1⟩
      · exact h1
      · apply hna; rw [eL, adj_app, adj_app]; exact .inr (.inl (.inr (.inl h1)))
      · exact n2 h1
    · exact n1 h1
end Go.Proofs.Ytodbbacmdjcheaa.L19
namespace Go.Proofs.Ytodbbacmdjcheaa.L20
open L02 L13 L18
def dropM (m : Mo) (sl g : Int) : Mo := if asked m sl g = 0 then ⟨m.types, m.objs, m.slots.set sl.toNat ⟨g, false, 0⟩⟩ else .nil
def allE (m : Mo) (t : Int) : Int := if chk m = 0 then (if 0 ≤ t ∧ t < m.types.length then (if next m.slots = none then 23 else if m.objs.length = 960 then 4 else 0) else 2) else chk m
def newO (m : Mo) (t : Int) : Ob := ⟨t, List.replicate (m.types.getD t.toNat []).length 0⟩
def allM (m : Mo) (t : Int) : Mo := if allE m t = 0 then ⟨m.types, m.objs ++ [newO m t], givS m m.objs.length ((next m.slots).getD 0)⟩ else .nil
def allS (m : Mo) (t : Int) : Int := if allE m t = 0 then ((next m.slots).getD 0 : Nat) else 0
def allG (m : Mo) (t : Int) : Int := if allE m t = 0 then (m.slots.getD ((next m.slots).getD 0) .none).gen + 1 else 0
/-- a reference to object n -/
def isRef (m : Mo) (o : Ob) (k : Nat) (n : Nat) : Prop := ((ty m.types o).getD k 0).toNat = 3 ∧ (o.fs.getD k 0).toNat = n + 1
instance (m : Mo) (o : Ob) (k n : Nat) : Decidable (isRef m o k n) := inferInstanceAs (Decidable (_ ∧ _))
/-- another slot, or a field of another object, refers to object n -/
def Busy (m : Mo) (sl : Int) (n : Nat) : Prop := (∃ i, i < m.slots.length ∧ (i : Int) ≠ sl ∧ (m.slots.getD i .none).used = true ∧ (m.slots.getD i .none).at_ = n) ∨ ∃ i, i < m.objs.length ∧ i ≠ n ∧ ∃ k, k < (ob m i).fs.length ∧ isRef m (ob m i) k n
instance (m : Mo) (sl : Int) (n : Nat) : Decidable (Busy m sl n) := inferInstanceAs (Decidable ((∃ i, i < m.slots.length ∧ (i : Int) ≠ sl ∧ (m.slots.getD i .none).used = true ∧ (m.slots.getD i .none).at_ = n) ∨ ∃ i, i < m.objs.length ∧ i ≠ n ∧ ∃ k, k < (ob m i).fs.length ∧ isRef m (ob m i) k n))
def freeE (m : Mo) (sl g : Int) : Int := if asked m sl g = 0 then (if Busy m sl (own m sl) then 45 else 0) else asked m sl g
/-- a number behind object n, one lower -/
def lowA (n : Nat) (a : Int) : Int := if (n : Int) < a then a - 1 else a
def lowV (n : Nat) (k : UInt8) (v : UInt64) : UInt64 := if k.toNat = 3 ∧ n + 1 < v.toNat then v - 1 else v
def lowO (m : Mo) (n : Nat) (o : Ob) : Ob := ⟨o.ty, (List.range o.fs.length).map fun i => lowV n ((ty m.types o).getD i 0) (o.fs.getD i 0)⟩
def lowS (n : Nat) (s : Sl) : Sl := if s.used = true then ⟨s.gen, true, lowA n s.at_⟩ else s
def freeM (m : Mo) (sl g : Int) : Mo := if freeE m sl g = 0 then ⟨m.types, (m.objs.map (lowO m (own m sl))).eraseIdx (own m sl), ((m.slots.set sl.toNat ⟨g, false, 0⟩).map (lowS (own m sl)))⟩ else .nil
end Go.Proofs.Ytodbbacmdjcheaa.L20
namespace Go.Proofs.Ytodbbacmdjcheaa.L20
open L02 L13 L18
def numV (ns : List Int) (k : UInt8) (v : UInt64) : UInt64 := if k.toNat = 3 ∧ 0 < v.toNat then UInt64.ofNat (ns.getD (v.toNat - 1) 0 + 1).toNat else v
def numO (m : Mo) (ns : List Int) (o : Ob) : Ob := ⟨o.ty, (List.range o.fs.length).map fun i => numV ns ((ty m.types o).getD i 0) (o.fs.getD i 0)⟩
def numN (m : Mo) (ns : List Int) (want k : Nat) : List Ob := ((List.range k).filter fun n => decide (ns.getD n (-2) = (want : Int))).map fun n => numO m ns (ob m n)
def numJ (m : Mo) (ns : List Int) (j : Nat) : List Ob := (List.range j).flatMap fun want => numN m ns want ns.length
def numS (ns : List Int) (s : Sl) : Sl := if s.used = true then ⟨s.gen, true, ns.getD s.at_.toNat 0⟩ else s
def numM (m : Mo) (ns : List Int) : Mo := ⟨m.types, numJ m ns ns.length, m.slots.map (numS ns)⟩
theorem numJ_succ (m : Mo) (ns : List Int) (j : Nat) : numJ m ns (j + 1) = numJ m ns j ++ numN m ns j ns.length := by
  simp [numJ, List.range_succ, List.flatMap_append]
theorem numV_other {ns : List Int} {k : UInt8} {v : UInt64} (h : ¬ (k.toNat = 3 ∧ 0 < v.toNat)) : numV ns k v = v := if_neg h
end Go.Proofs.Ytodbbacmdjcheaa.L20
namespace Go.Proofs.Ytodbbacmdjcheaa.L20
open L02 L13 L18
def kidAt (m : Mo) (o : Ob) (i : Nat) : Option Nat := if ((ty m.types o).getD i 0).toNat = 3 ∧ 0 < (o.fs.getD i 0).toNat then some ((o.fs.getD i 0).toNat - 1) else none
def kidsTo (m : Mo) (o : Ob) (p : Nat) : List Nat := (List.range p).filterMap (kidAt m o)
def kids (m : Mo) (n : Nat) : List Nat := kidsTo m (ob m n) (ob m n).fs.length
/-- out is what is found, ord has been found, l is to be looked at -/
inductive Rs (m : Mo) : List Nat → List Nat → List Nat → Prop
  | nil (ord : List Nat) : Rs m ord [] ord
  | seen {ord l out : List Nat} {n : Nat} : n ∈ ord → Rs m ord l out → Rs m ord (n :: l) out
  | new {ord l out : List Nat} {n : Nat} : n ∉ ord → Rs m (ord ++ [n]) (kids m n ++ l) out → Rs m ord (n :: l) out
section
variable {m : Mo} {ord l out : List Nat}
theorem Rs.join {mid : List Nat} {a : List Nat} (h : Rs m ord a mid) : ∀ {b out}, Rs m mid b out → Rs m ord (a ++ b) out := by
  induction h with
  | nil ord => intro b out h; exact h
  | seen h1 _ ih => intro b out h; exact .seen h1 (ih h)
  | new h1 _ ih =>
    intro b out h
    have h2 := ih h
    rw [List.append_assoc] at h2
    exact .new h1 h2
theorem Rs.pre (h : Rs m ord l out) : ord <+: out := by
  induction h with
  | nil ord => exact List.prefix_refl _
  | seen _ _ ih => exact ih
  | new _ _ ih => exact (List.prefix_append _ _).trans ih
theorem Rs.all {p : Nat → Prop} (hk : ∀ n, p n → ∀ k ∈ kids m n, p k) (h : Rs m ord l out) : (∀ n ∈ ord, p n) → (∀ n ∈ l, p n) → ∀ n ∈ out, p n := by
  induction h with
  | nil ord => intro h _; exact h
  | seen _ _ ih => intro h1 h2; exact ih h1 fun n hn => h2 n (List.mem_cons_of_mem _ hn)
  | @new ord l out n _ _ ih =>
    intro h1 h2
    have hpn := h2 n List.mem_cons_self
    refine ih (fun x hx => ?_) fun x hx => ?_
    · rcases List.mem_append.1 hx with h | h
      · exact h1 x h
      · rw [List.mem_singleton.1 h]; exact hpn
    · rcases List.mem_append.1 hx with h | h
      · exact hk n hpn x h
      · exact h2 x (List.mem_cons_of_mem _ h)
theorem Rs.mem (h : Rs m ord l out) : ∀ n ∈ l, n ∈ out := by
  induction h with
  | nil ord => intro n h; cases h
  | seen h1 h2 ih =>
    intro x hx
    rcases List.mem_cons.1 hx with h | h
    · rw [h]; exact h2.pre.subset h1
    · exact ih x h
  | new h1 h2 ih =>
    intro x hx
    rcases List.mem_cons.1 hx with h | h
    · rw [h]; exact h2.pre.subset (List.mem_append_right _ (by simp))
    · exact ih x (List.mem_append_right _ h)
end
/-- .. in so many steps -/
inductive Rn (m : Mo) : Nat → List Nat → List Nat → List Nat → Prop
  | nil (ord : List Nat) : Rn m 0 ord [] ord
  | seen {ord l out : List Nat} {n d : Nat} : n ∈ ord → Rn m d ord l out → Rn m (d + 1) ord (n :: l) out
  | new {ord l out : List Nat} {n d : Nat} : n ∉ ord → Rn m d (ord ++ [n]) (kids m n ++ l) out → Rn m (d + 1) ord (n :: l) out
theorem Rs.steps {m : Mo} {ord l out : List Nat} (h : Rs m ord l out) : ∃ d, Rn m d ord l out := by
  induction h with
  | nil ord => exact ⟨0, .nil _⟩
  | seen h1 _ ih => obtain ⟨d, h⟩ := ih; exact ⟨d + 1, .seen h1 h⟩
  | new h1 _ ih => obtain ⟨d, h⟩ := ih; exact ⟨d + 1, .new h1 h⟩
theorem Rn.rs {m : Mo} {ord l out : List Nat} {d : Nat} (h : Rn m d ord l out) : Rs m ord l out := by
  induction h with
  | nil ord => exact .nil _
  | seen h1 _ ih => exact .seen h1 ih
  | new h1 _ ih => exact .new h1 ih
theorem Rn.len {m : Mo} {ord l out : List Nat} {d : Nat} (h : Rn m d ord l out) : l.length ≤ d := by
  induction h with
  | nil ord => simp
  | seen h1 _ ih => simp; exact ih
  | new h1 _ ih => simp at ih ⊢; omega
theorem Rn.all {m : Mo} {p : Nat → Prop} (hk : ∀ n, p n → ∀ k ∈ kids m n, p k) {ord l out : List Nat} {d : Nat} (h : Rn m d ord l out) (h1 : ∀ n ∈ ord, p n) (h2 : ∀ n ∈ l, p n) : ∀ n ∈ out, p n := h.rs.all hk h1 h2
theorem Rn.end {m : Mo} {ord out : List Nat} {d : Nat} (h : Rn m d ord [] out) : out = ord := by cases h; rfl
end Go.Proofs.Ytodbbacmdjcheaa.L20
namespace Go.Proofs.Ytodbbacmdjcheaa.L20
open L02 L13 L18
/-- of the same types -/
def Like (m m' : Mo) : Prop := m'.types = m.types ∧ m'.objs.length = m.objs.length ∧ ∀ k, (ob m' k).ty = (ob m k).ty ∧ (ob m' k).fs.length = (ob m k).fs.length
theorem Like.refl (m : Mo) : Like m m := ⟨rfl, rfl, fun _ => ⟨rfl, rfl⟩⟩
section
variable {φ : UInt8 → UInt64 → UInt64} {m : Mo} {n i : Nat}
end
end Go.Proofs.Ytodbbacmdjcheaa.L20
namespace Go.Proofs.Ytodbbacmdjcheaa.L20
open L02 L13 L18
section
variable {α : Type} {f : α → α} {L : List α} {k : Nat} {s : α}
end
section
variable {m : Mo} {q n i : Nat}
end
theorem range_filter (a : Nat) : ∀ N, (List.range N).filter (fun n => decide (n = a)) = if a < N then [a] else []
  | 0 => by simp
  | N + 1 => by
    rw [List.range_succ, List.filter_append, range_filter a N]
    by_cases h : a < N
    · rw [if_pos h, if_pos (by omega)]
      have : ¬ N = a := by omega
      simp [this]
    · rw [if_neg h]
      by_cases h2 : a = N
      · subst h2; simp
      · rw [if_neg (by omega)]
        have : ¬ N = a := fun e => h2 e.symm
        simp [this]
def sk (q w : Nat) : Nat := if w < q then w else w + 1
end Go.Proofs.Ytodbbacmdjcheaa.L20
