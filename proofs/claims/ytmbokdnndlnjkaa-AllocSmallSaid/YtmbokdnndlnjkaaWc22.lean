/- The walk of the law AllocSmall. -/
import Derived.Test.YtmbokdnndlnjkaaMAs
set_option linter.unusedVariables false
set_option linter.unusedSimpArgs false
namespace Go.Proofs.Ytmbokdnndlnjkaa
open Go.RowKit L01 L02 L05 L06 L07 L13 L14 L15 L16 L18 L19 L20

set_option maxRecDepth 100000 in
set_option maxHeartbeats 16000000 in
theorem AllocSmall_walk (v0 : Value) (l : List UInt64) (ti : Int) (w : World) (h0 : Words w v0 l) (_f1 : -9223372036854775808 ≤ ti ∧ ti ≤ 9223372036854775807) :
    Calls Try.prog 5 #[v0, .int .i64 ti] w fun e w' => e = .returned (.bool true) ∧ Below w.heap.size w w' := by
  have B : Below w.heap.size w w := Below.refl _ _
  have H := Lib.hid h0; clear h0 _f1
  have AL := Lib.hid alive22_any
  have G := Lib.hid (fun w h => Great_any v0 l w h)
  obtain ⟨gr, hgr⟩ : ∃ g, g = decide (2100 < l.length) := ⟨_, rfl⟩
  have HGR := Lib.hid hgr
  rw [← hgr] at G
  clear hgr
  cases gr
  case true =>
    go_enter Try.func5, Try.ntmps5
    go_wp2_with fail
    refine (AL.out _).mono ?_
    rintro e wa1 ⟨rfl, b⟩
    replace B := B.trans (b.mono B.size); clear b
    go_wp2_with fail
    refine (G.out _ (H.out.below B)).mono ?_
    rintro e w2 ⟨rfl, rfl⟩
    go_wp2
    go_ret
    exact ⟨rfl, B⟩
  case false =>
    have hln : l.length ≤ 2100 := by have := HGR.out; simp at this; omega
    obtain ⟨c9, hc⟩ : ∃ v, v = chk19 l := ⟨_, rfl⟩
    have CK := Lib.hid (fun w h => Check19_any v0 l c9 hc w h)
    by_cases h0 : c9 = 0
    case neg =>
      have n1 : (c9 != 0) = true := by rw [bne_iff_ne]; exact h0
      clear hc h0 hln
      go_enter Try.func5, Try.ntmps5
      go_wp2_with fail
      refine (AL.out _).mono ?_
      rintro e wa1 ⟨rfl, b⟩
      replace B := B.trans (b.mono B.size); clear b
      go_wp2_with fail
      refine (G.out _ (H.out.below B)).mono ?_
      rintro e w2 ⟨rfl, rfl⟩
      go_wp2_with fail
      refine (CK.out _ (H.out.below B)).mono ?_
      rintro e wa2 ⟨rfl, b⟩
      replace B := B.trans (b.mono B.size); clear b
      go_wp2
      go_ret
      exact ⟨rfl, B⟩
    case pos =>
      subst h0
      have rt : Rt l := Rt.of hc.symm
      obtain ⟨E, hE⟩ : ∃ x, x = aiL l ti := ⟨_, rfl⟩
      obtain ⟨s1, hs1⟩ : ∃ x, x = aiS l ti := ⟨_, rfl⟩
      obtain ⟨s2, hs2⟩ : ∃ x, x = aiG l ti := ⟨_, rfl⟩
      obtain ⟨r, hr⟩ : ∃ x, x = aiE l ti := ⟨_, rfl⟩
      have CH := Lib.hid (fun w h => Change_any v0 l ti E s1 s2 r hE hs1 hs2 hr w h)
      by_cases hr0 : r = 0
      case neg =>
        have n1 : (r != 0) = true := by rw [bne_iff_ne]; exact hr0
        obtain rfl : E = [] := by rw [hE, aiL, if_neg (by rw [← hr]; exact hr0)]
        clear hc rt hE hs1 hs2 hr hr0 hln
        go_enter Try.func5, Try.ntmps5
        go_wp2_with fail
        refine (AL.out _).mono ?_
        rintro e wa1 ⟨rfl, b⟩
        replace B := B.trans (b.mono B.size); clear b
        go_wp2_with fail
        refine (G.out _ (H.out.below B)).mono ?_
        rintro e w2 ⟨rfl, rfl⟩
        go_wp2_with fail
        refine (CK.out _ (H.out.below B)).mono ?_
        rintro e wa2 ⟨rfl, b⟩
        replace B := B.trans (b.mono B.size); clear b
        go_wp2_with fail
        refine (CH.out _ (H.out.below B)).mono ?_
        rintro e wa3 ⟨y, rfl, o1, b⟩
        replace B := B.trans (b.mono B.size); clear b
        have q1 := o1.rd
        clear o1
        go_upto_region 5 with (fail)
        refine wp_gen (fun Wv => Bx Wv (wa3.heap.size) (35) (#[.int .i64 s1, .int .i64 s2]) ∧ Below wa3.heap.size wa3 Wv) ⟨((Bx.at_ (by simp))), ((Below.refl _ wa3).alloc (by simp <;> omega) _)⟩ ?_
        rintro wa4 ⟨g1, b⟩
        replace q1 := q1.below b; replace B := B.trans (b.mono B.size); clear b
        have c_g1 := g1.cell; have f_g1 := g1.free; have a_g1 := fun o => (g1.alloc o).cell; have d_g1 := fun o o2 => ((g1.alloc o).alloc o2).cell; have e_g1 := fun o => (g1.alloc o).free
        have le := Rd.len q1 Try.underlying30
        have le' : ∀ ty W, (Builtin.len_ #[30] ty #[y]).run Try.prog W = .ok (.int .i64 0) W := le
        clear le q1
        go_wp2
        go_ret
        exact ⟨rfl, B⟩
      case pos =>
        subst hr0
        obtain ⟨q, k, p, n, c, g0, b, t, PP, SS, rfl, al⟩ := Al.of hr.symm
        obtain ⟨l', hl'⟩ : ∃ x, x = made l (aiL l q) := ⟨_, rfl⟩
        rw [← hl'] at al
        obtain rfl : s1 = (k : Int) := by rw [hs1, al.hS]
        obtain rfl : s2 = g0 + 1 := by rw [hs2, al.hG]
        have hlE : made l E = l' := by rw [hE, hl']
        have ac := al.hc; have an := al.hn2; have ap := al.hp; have ak := al.hk; have ag := al.hg
        have all' := al.len
        obtain ⟨ar1, ar2⟩ := al.res
        obtain ⟨NE, ne1, ne2, ne3, ne4, ne5⟩ := al.small
        obtain ⟨hf1, hf2⟩ := al.ext
        rw [← hE] at ne3 ne5
        obtain ⟨F, hF⟩ : ∃ F, F = freeL l := ⟨_, rfl⟩
        obtain ⟨SL', hSL⟩ : ∃ S, S = slots l := ⟨_, rfl⟩
        have FW := Lib.hid (fun w h => FreeW_any v0 l F 0 hF rt.al.symm w h)
        have SL := Lib.hid (fun w h => All18_own v0 l SL' hSL rt.sl w h)
        have HSL := Lib.hid (show SL'.length = 16 by rw [hSL, slots_len' rt.sl])
        have HSK := Lib.hid (show SL'[k]? = some ⟨g0, false, 0⟩ by rw [hSL]; exact al.hs)
        have HEL := Lib.hid ne3
        have HAD := Lib.hid ne5
        rw [← hF] at hf1 hf2
        have HF1 := Lib.hid hf1; have HF2 := Lib.hid hf2
        have HBA := Lib.hid al.hat
        obtain ⟨NF, hNF⟩ : ∃ N, N = F.length := ⟨_, rfl⟩
        have HNF := Lib.hid hNF
        have hNF9 : NF ≤ 960 := by rw [hNF, hF]; exact Nat.le_trans (List.length_filter_le _ _) (all_len rt.al)
        have OR := Lib.hid (fun y' w h he => Ordered_any v0 y' l E (fun j e he => by
            have h1 := ne5 j e he
            have h2 := (List.getElem?_eq_some_iff.1 he).1
            rw [ne3] at h2
            rw [h1]
            unfold adrE
            split <;> omega) (fun j e f he hf => by
            have h1 := ne5 j e he
            have h2 := ne5 (j + 1) f hf
            rw [h1, h2]
            unfold adrE
            rw [if_neg (show ¬ j + 1 = 0 by omega)]
            split <;> omega) (by rw [ne3]; exact ne2) w h he)
        clear hc rt hE hs1 hs2 hr hlE hl' al ar1 ar2 ne3 ne5 hf1 hf2 hF hSL hNF ag all'
        go_enter Try.func5, Try.ntmps5
        go_wp2_with fail
        refine (AL.out _).mono ?_
        rintro e wa1 ⟨rfl, b⟩
        replace B := B.trans (b.mono B.size); clear b
        go_wp2_with fail
        refine (G.out _ (H.out.below B)).mono ?_
        rintro e w2 ⟨rfl, rfl⟩
        go_wp2_with fail
        refine (CK.out _ (H.out.below B)).mono ?_
        rintro e wa2 ⟨rfl, b⟩
        replace B := B.trans (b.mono B.size); clear b
        go_wp2_with fail
        refine (CH.out _ (H.out.below B)).mono ?_
        rintro e wa3 ⟨y, rfl, o1, b⟩
        replace B := B.trans (b.mono B.size); clear b
        have q1 := o1.rd
        clear o1
        go_upto_region 5 with (fail)
        refine wp_gen (fun Wv => Bx Wv (wa3.heap.size) (35) (#[.int .i64 (k : Int), .int .i64 (g0 + 1)]) ∧ Below wa3.heap.size wa3 Wv) ⟨((Bx.at_ (by simp))), ((Below.refl _ wa3).alloc (by simp <;> omega) _)⟩ ?_
        rintro wa4 ⟨g1, b⟩
        replace q1 := q1.below b; replace B := B.trans (b.mono B.size); clear b
        have c_g1 := g1.cell; have f_g1 := g1.free; have a_g1 := fun o => (g1.alloc o).cell; have d_g1 := fun o o2 => ((g1.alloc o).alloc o2).cell; have e_g1 := fun o => (g1.alloc o).free
        go_wp2_with fail
        refine (FW.out _ (H.out.below B)).mono ?_
        rintro e wa5 ⟨xf, rfl, of, b⟩
        replace q1 := q1.below b; try clear c_g1 f_g1 a_g1 d_g1 e_g1
        replace g1 := g1.below b; have c_g1 := g1.cell; have f_g1 := g1.free; have a_g1 := fun o => (g1.alloc o).cell; have d_g1 := fun o o2 => ((g1.alloc o).alloc o2).cell; have e_g1 := fun o => (g1.alloc o).free; replace B := B.trans (b.mono B.size); clear b
        have rf : Blks wa5 xf F := of.rd
        clear of
        go_wp2_with fail
        refine (SL.out _ (H.out.below B)).mono ?_
        rintro e wa6 ⟨xs, rfl, os, b⟩
        try clear c_g1 f_g1 a_g1 d_g1 e_g1
        replace g1 := g1.below b; have c_g1 := g1.cell; have f_g1 := g1.free; have a_g1 := fun o => (g1.alloc o).cell; have d_g1 := fun o o2 => ((g1.alloc o).alloc o2).cell; have e_g1 := fun o => (g1.alloc o).free; replace q1 := q1.below b; replace rf := rf.below b; replace B := B.trans (b.mono B.size); clear b
        have rs := OwnS.rd os
        clear os
        have ls := Rd.len rs Try.underlying60
        rw [HSL.out] at ls
        have le := Rd.len q1 Try.underlying30
        rw [HEL.out] at le
        obtain ⟨b0, o0, s0, is, n4, m5, n6, hs⟩ := rs.at_ (P := Try.prog) Try.underlying60 size_slot (k := k) (by rw [HSL.out]; omega)
        obtain ⟨gg, uu, aa⟩ := s0
        have e0 := hs.out
        rw [HSK.out] at e0
        obtain rfl : uu = false := by injection e0 with e0; injection e0 with _ e0 _; exact e0.symm
        clear n4 n6 hs e0
        obtain ⟨b1, o1, a1, x1, i1, m1, n1, h1⟩ := q1.at_ (k := 0) (by rw [HEL.out]; omega)
        obtain rfl : a1 = 112 + (k : Int) := HAD.out 0 _ h1.out
        have i1' : ∀ W, (Instr.indexAt 30 y (.int .i64 0)).run Try.prog W = .ok (.pointer (some ⟨b1, o1, none⟩)) W := i1
        clear i1 n1 h1
        have dd1 : decide (NE < 3) = false := decide_eq_false (by omega)
        have dd2 : decide ((NE : Int) < 3) = false := decide_eq_false (by omega)
        have dd3 : decide (16 ≤ k) = false := decide_eq_false (by omega)
        have dd4 : decide ((16 : Int) ≤ (k : Int)) = false := decide_eq_false (by omega)
        have dd5 : decide ((k : Int) < 0) = false := decide_eq_false (by omega)
        have wk9 : IntKind.i64.wrap (112 + (k : Int)) = 112 + (k : Int) := IntWalk.i64_in _ (by omega)
        have rw0 := H.out.below B
        have HC9 := Lib.hid (fun x : Fut wa6 => And.intro (rw0.below x.h) (q1.below x.h))
        go_upto_region 9 with (fail)
        refine wp_region_calm (by kernel_rfl) (by kernel_rfl) ?_
        try clear c_g1 f_g1 a_g1 d_g1 e_g1
        have c_g1 := fun x : Fut _ => (g1.below x.h).cell
        have c_m5 := fun x : Fut _ => cell_later x.h m5
        have c_m1 := fun x : Fut _ => cell_later x.h m1
        repeat (go_big_quiet_step (exact Fut.call (OR.out _ _ (HC9.out _).1 (HC9.out _).2)))
        refine wpQuiet_nil ?_
        intro _ hw'
        obtain ⟨xq, hw''⟩ := hw'
        subst hw''
        clear c_g1; replace g1 := g1.below xq.h; have c_g1 := g1.cell; have f_g1 := g1.free; have a_g1 := fun o => (g1.alloc o).cell; have d_g1 := fun o o2 => ((g1.alloc o).alloc o2).cell; have e_g1 := fun o => (g1.alloc o).free
        replace q1 := q1.below xq.h
        replace rf := rf.below xq.h
        clear c_m5; replace m5 := cell_later xq.h m5
        clear c_m1; replace m1 := cell_later xq.h m1
        replace B := B.trans (xq.h.mono B.size)
        clear m1 m5 i1' is HC9 rw0 ls
        generalize xq.W = wb at *
        obtain ⟨b2, o2, a2, x2, i2, m2, n2, h2⟩ := q1.at_ (k := 1) (by rw [HEL.out]; omega)
        obtain rfl : a2 = (p : Int) := by have h3 := HAD.out 1 _ h2.out; rw [adrE, if_neg (by omega)] at h3; rw [show ((p + 1 - 1 : Nat) : Int) = (p : Int) by omega] at h3; exact h3
        have i2' : ∀ W, (Instr.indexAt 30 y (.int .i64 1)).run Try.prog W = .ok (.pointer (some ⟨b2, o2, none⟩)) W := i2
        obtain ⟨b3, o3, a3, x3, i3, m3, n3, h3⟩ := q1.at_ (k := NE - 1) (by rw [HEL.out]; omega)
        obtain rfl : a3 = ((p + (NE - 1) - 1 : Nat) : Int) := by have h4 := HAD.out (NE - 1) _ h3.out; rw [adrE, if_neg (by omega)] at h4; exact h4
        have wne : IntKind.i64.wrap ((NE : Int) - 1) = ((NE - 1 : Nat) : Int) := by rw [show ((NE - 1 : Nat) : Int) = (NE : Int) - 1 by omega]; exact IntWalk.i64_in _ (by omega)
        clear i2 h2 h3 n2 n3
        have HQ := Lib.hid (And.intro rf (And.intro m2 (And.intro m3 B)))
        have lf := rf.len
        rw [← HNF.out] at lf
        clear rf m2 m3 q1 g1 c_g1 f_g1 a_g1 d_g1 e_g1 B
        go_wp2
        go_loopg [13] NF (fun g i wr => ∃ j : Nat, j ≤ NF ∧ g = NF - j ∧ i = .int .i64 j ∧ (∀ (i : Nat) d, i < j → F[i]? = some d → d.at_ ≠ (p : Int)) ∧ Hid (Blks wr xf F ∧ wr.cell? ⟨b2, o2, none⟩ = some (.int .i64 p) ∧ wr.cell? ⟨b3, o3, none⟩ = some (.int .i64 ((p + (NE - 1) - 1 : Nat) : Int)) ∧ Below w.heap.size w wr))
        case atStart => exact ⟨0, by omega, by omega, rfl, fun i d hi => by omega, HQ⟩
        case round =>
          obtain ⟨j, hj, rfl, rfl, hno, hh⟩ := hrel
          clear HQ
          obtain ⟨rf, m2, m3, B⟩ := hh.out
          by_cases hlt : j < NF
          · obtain ⟨bb, oo, d, id, m4, m5, n6, n7, n8, n9, hd, _⟩ := rf.at_ (k := j) (by rw [← HNF.out]; exact hlt)
            clear n6 n7 n8 n9
            by_cases hdp : d.at_ = (p : Int)
            · have hsum := HF2.out d (List.mem_of_getElem? hd.out) hdp
              have wds : IntKind.i64.wrap (d.at_ + d.size) = d.at_ + d.size := IntWalk.i64_in _ (by omega)
              have t1 : (d.at_ != (p : Int)) = false := by rw [bne_eq_false_iff_eq]; exact hdp
              have t2 : decide (((p + (NE - 1) - 1 : Nat) : Int) < d.at_ + d.size) = true := decide_eq_true (by omega)
              have HX := Lib.hid hno
              clear hno hdp hsum hd hh rf
              go_wp2
              refine wp_region_calm (by kernel_rfl) (by kernel_rfl) ?_
              have c_m2 := fun x : Fut _ => cell_later x.h m2
              have c_m3 := fun x : Fut _ => cell_later x.h m3
              have c_m4 := fun x : Fut _ => cell_later x.h m4
              have c_m5 := fun x : Fut _ => cell_later x.h m5
              repeat (go_big_quiet_step (fail))
              refine wpQuiet_nil ?_
              intro _ hw'
              obtain ⟨xq, hw''⟩ := hw'
              subst hw''
              clear c_m2; replace m2 := cell_later xq.h m2
              clear c_m3; replace m3 := cell_later xq.h m3
              clear c_m4; replace m4 := cell_later xq.h m4
              clear c_m5; replace m5 := cell_later xq.h m5
              replace B := B.trans (xq.h.mono B.size)
              go_wp2
              refine wp_region_calm (by kernel_rfl) (by kernel_rfl) ?_
              have c_m2 := fun x : Fut _ => cell_later x.h m2
              have c_m3 := fun x : Fut _ => cell_later x.h m3
              have c_m4 := fun x : Fut _ => cell_later x.h m4
              have c_m5 := fun x : Fut _ => cell_later x.h m5
              repeat (go_big_quiet_step (fail))
              refine wpQuiet_nil ?_
              intro _ hw'
              obtain ⟨xq, hw''⟩ := hw'
              subst hw''
              clear c_m2; replace m2 := cell_later xq.h m2
              clear c_m3; replace m3 := cell_later xq.h m3
              clear c_m4; replace m4 := cell_later xq.h m4
              clear c_m5; replace m5 := cell_later xq.h m5
              replace B := B.trans (xq.h.mono B.size)
              clear m2 m3 m4 m5
              go_wp2
              go_ret
              exact ⟨rfl, B⟩
            · have t1 : (d.at_ != (p : Int)) = true := by rw [bne_iff_ne]; exact hdp
              have HX := Lib.hid (fun (i : Nat) d' (hi : i < j + 1) (h' : F[i]? = some d') => show d'.at_ ≠ (p : Int) from by
                by_cases e : i = j
                · subst e; rw [hd.out] at h'; injection h' with h'; rw [← h']; exact hdp
                · exact hno i d' (by omega) h')
              clear hno hdp hd hh
              go_wp2
              refine wp_region_calm (by kernel_rfl) (by kernel_rfl) ?_
              have c_m2 := fun x : Fut _ => cell_later x.h m2
              have c_m3 := fun x : Fut _ => cell_later x.h m3
              have c_m4 := fun x : Fut _ => cell_later x.h m4
              repeat (go_big_quiet_step (fail))
              refine wpQuiet_nil ?_
              intro _ hw'
              obtain ⟨xq, hw''⟩ := hw'
              subst hw''
              replace rf := rf.below xq.h
              clear c_m2; replace m2 := cell_later xq.h m2
              clear c_m3; replace m3 := cell_later xq.h m3
              clear c_m4; replace m4 := cell_later xq.h m4
              replace B := B.trans (xq.h.mono B.size)
              have HR := Lib.hid (And.intro rf (And.intro m2 (And.intro m3 B)))
              clear rf m2 m3 m4 m5 B
              go_wp2
              go_roundg (NF - (j + 1))
              case measure => omega
              case rel => exact ⟨j + 1, by omega, rfl, by go_num, HX.out, HR⟩
          · exfalso
            obtain ⟨i, hi⟩ := HF1.out
            exact hno i b (by have := (List.getElem?_eq_some_iff.1 hi).1; have := HNF.out; omega) hi HBA.out
end Go.Proofs.Ytmbokdnndlnjkaa
