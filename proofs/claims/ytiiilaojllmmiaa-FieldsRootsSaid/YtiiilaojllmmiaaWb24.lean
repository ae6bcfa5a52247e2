/- The walk of the law FieldsLast. -/
import Derived.Test.YtiiilaojllmmiaaMFt
set_option linter.unusedVariables false
set_option linter.unusedSimpArgs false
namespace Go.Proofs.Ytiiilaojllmmiaa
open Go.RowKit L02 L05 L13 L19 L20

theorem setV_or (k : UInt8) (x : UInt64) : setV k x = x ∨ setV k x = no := by
  unfold setV
  split
  · exact .inr rfl
  · exact .inl rfl
/-- what the law FieldsLast needs of an image -/
theorem last_law {l : List UInt64} {sl g n : Int} (h : giE l sl g n = 0) (x u : UInt64) (l' : List UInt64) (hl' : l' = made l (siL l sl g n x)) :
    giE l' sl g n = 0 ∧ (giV l' sl g n = x ∨ giV l' sl g n = no) ∧ chk19 l' = 0 ∧ made l' (siL l' sl g n u) = made l (siL l sl g n u) ∧ made l' (siL l' sl g n (giV l sl g n)) = l ∧ made l (siL l sl g n (giV l sl g n)) = l ∧ l'.length = l.length := by
  have hk : kiErr l sl g n = 0 := by
    unfold giE at h
    split at h
    · rename_i hk; exact hk
    · exact h
  obtain ⟨k, a, nn, q, i, b, t, kd, y, rfl, rfl, f⟩ := Fd.of hk
  have h3 : kd.toNat ≠ 3 := fun h3 => by have := f.gE; rw [h, if_pos h3] at this; omega
  obtain ⟨f', e1, e2, e3⟩ := f.last h3 x
  rw [← hl'] at f' e1 e2
  have hv : giV l' k g i = setV kd x := f'.gV h3
  have hv0 : giV l k g i = y := f.gV h3
  rw [hv, hv0]
  refine ⟨by rw [f'.gE, if_neg h3], setV_or _ _, f'.hd.rt.chk, e1 u, e2, e3, by rw [hl', made_len]⟩

set_option maxRecDepth 100000 in
set_option maxHeartbeats 8000000 in
theorem FieldsLast_walk (v0 : Value) (l : List UInt64) (a0 b0 : Int) (fi : Int) (x u : UInt64) (w : World) (h0 : Words w v0 l) (_f1 : -9223372036854775808 ≤ a0 ∧ a0 ≤ 9223372036854775807) (_f2 : -9223372036854775808 ≤ b0 ∧ b0 ≤ 9223372036854775807) (_f3 : -9223372036854775808 ≤ fi ∧ fi ≤ 9223372036854775807) :
    Calls Try.prog 3 #[v0, .agg #[.int .i64 a0, .int .i64 b0], .int .i64 fi, .int .u64 x.toNat, .int .u64 u.toNat] w fun e w' => e = .returned (.bool true) ∧ Below w.heap.size w w' := by
  have B : Below w.heap.size w w := Below.refl _ _
  have H := Lib.hid h0; clear h0 _f1 _f2 _f3
  have AL := Lib.hid alive24_any
  have G := Lib.hid (fun w h => Great_any v0 l w h)
  obtain ⟨gr, hgr⟩ : ∃ g, g = decide (2100 < l.length) := ⟨_, rfl⟩
  have HGR := Lib.hid hgr
  rw [← hgr] at G
  clear hgr
  cases gr
  case true =>
    go_enter Try.func3, Try.ntmps3
    go_upto_region 1 with (fail)
    refine wp_gen (fun Wv => Bx Wv (w.heap.size) (24) (#[.int .i64 a0, .int .i64 b0]) ∧ Below w.heap.size w Wv) ⟨((Bx.at_ (by simp))), ((Below.refl _ w).alloc (by simp <;> omega) _)⟩ ?_
    rintro wa1 ⟨g1, b⟩
    replace B := B.trans (b.mono B.size); clear b
    have c_g1 := g1.cell; have f_g1 := g1.free; have a_g1 := fun o => (g1.alloc o).cell; have d_g1 := fun o o2 => ((g1.alloc o).alloc o2).cell; have e_g1 := fun o => (g1.alloc o).free
    go_wp2_with fail
    refine (AL.out _).mono ?_
    rintro e wa2 ⟨rfl, b⟩
    try clear c_g1 f_g1 a_g1 d_g1 e_g1
    replace g1 := g1.below b; have c_g1 := g1.cell; have f_g1 := g1.free; have a_g1 := fun o => (g1.alloc o).cell; have d_g1 := fun o o2 => ((g1.alloc o).alloc o2).cell; have e_g1 := fun o => (g1.alloc o).free; replace B := B.trans (b.mono B.size); clear b
    go_wp2_with fail
    refine (G.out _ (H.out.below B)).mono ?_
    rintro e w2 ⟨rfl, rfl⟩
    go_wp2
    go_ret
    exact ⟨rfl, B⟩
  case false =>
    have hl : l.length ≤ 1048576 := by have := HGR.out; simp at this; omega
    have HL := Lib.hid hl
    clear hl
    obtain ⟨c, hc⟩ : ∃ v, v = chk19 l := ⟨_, rfl⟩
    have CK := Lib.hid (fun w h => Check19_any v0 l c hc w h)
    by_cases h0 : c = 0
    case neg =>
      have n1 : (c != 0) = true := by rw [bne_iff_ne]; exact h0
      clear hc h0
      go_enter Try.func3, Try.ntmps3
      go_upto_region 1 with (fail)
      refine wp_gen (fun Wv => Bx Wv (w.heap.size) (24) (#[.int .i64 a0, .int .i64 b0]) ∧ Below w.heap.size w Wv) ⟨((Bx.at_ (by simp))), ((Below.refl _ w).alloc (by simp <;> omega) _)⟩ ?_
      rintro wa1 ⟨g1, b⟩
      replace B := B.trans (b.mono B.size); clear b
      have c_g1 := g1.cell; have f_g1 := g1.free; have a_g1 := fun o => (g1.alloc o).cell; have d_g1 := fun o o2 => ((g1.alloc o).alloc o2).cell; have e_g1 := fun o => (g1.alloc o).free
      go_wp2_with fail
      refine (AL.out _).mono ?_
      rintro e wa2 ⟨rfl, b⟩
      try clear c_g1 f_g1 a_g1 d_g1 e_g1
      replace g1 := g1.below b; have c_g1 := g1.cell; have f_g1 := g1.free; have a_g1 := fun o => (g1.alloc o).cell; have d_g1 := fun o o2 => ((g1.alloc o).alloc o2).cell; have e_g1 := fun o => (g1.alloc o).free; replace B := B.trans (b.mono B.size); clear b
      go_wp2_with fail
      refine (G.out _ (H.out.below B)).mono ?_
      rintro e w2 ⟨rfl, rfl⟩
      go_wp2_with fail
      refine (CK.out _ (H.out.below B)).mono ?_
      rintro e wa3 ⟨rfl, b⟩
      try clear c_g1 f_g1 a_g1 d_g1 e_g1
      replace g1 := g1.below b; have c_g1 := g1.cell; have f_g1 := g1.free; have a_g1 := fun o => (g1.alloc o).cell; have d_g1 := fun o o2 => ((g1.alloc o).alloc o2).cell; have e_g1 := fun o => (g1.alloc o).free; replace B := B.trans (b.mono B.size); clear b
      go_wp2
      go_ret
      exact ⟨rfl, B⟩
    case pos =>
      subst h0
      obtain ⟨x1, h1⟩ : ∃ v, v = giV l a0 b0 fi := ⟨_, rfl⟩
      obtain ⟨r1, h2⟩ : ∃ v, v = giE l a0 b0 fi := ⟨_, rfl⟩
      obtain ⟨E2, h3⟩ : ∃ v, v = siL l a0 b0 fi x := ⟨_, rfl⟩
      have T1 := Lib.hid (fun w h => Get24_any v0 l a0 b0 fi x1 r1 h1 h2 w h)
      have T2 := Lib.hid (fun w h => Set24_any v0 l a0 b0 fi x E2 r1 h3 h2 w h)
      by_cases hr : r1 = 0
      case neg =>
        have n1 : (r1 != 0) = true := by rw [bne_iff_ne]; exact hr
        obtain rfl : E2 = [] := by rw [h3, siL, if_neg (by rw [← h2]; exact hr)]
        clear h1 h2 h3 hc hr
        go_enter Try.func3, Try.ntmps3
        go_upto_region 1 with (fail)
        refine wp_gen (fun Wv => Bx Wv (w.heap.size) (24) (#[.int .i64 a0, .int .i64 b0]) ∧ Below w.heap.size w Wv) ⟨((Bx.at_ (by simp))), ((Below.refl _ w).alloc (by simp <;> omega) _)⟩ ?_
        rintro wa1 ⟨g1, b⟩
        replace B := B.trans (b.mono B.size); clear b
        have c_g1 := g1.cell; have f_g1 := g1.free; have a_g1 := fun o => (g1.alloc o).cell; have d_g1 := fun o o2 => ((g1.alloc o).alloc o2).cell; have e_g1 := fun o => (g1.alloc o).free
        go_wp2_with fail
        refine (AL.out _).mono ?_
        rintro e wa2 ⟨rfl, b⟩
        try clear c_g1 f_g1 a_g1 d_g1 e_g1
        replace g1 := g1.below b; have c_g1 := g1.cell; have f_g1 := g1.free; have a_g1 := fun o => (g1.alloc o).cell; have d_g1 := fun o o2 => ((g1.alloc o).alloc o2).cell; have e_g1 := fun o => (g1.alloc o).free; replace B := B.trans (b.mono B.size); clear b
        go_wp2_with fail
        refine (G.out _ (H.out.below B)).mono ?_
        rintro e w2 ⟨rfl, rfl⟩
        go_wp2_with fail
        refine (CK.out _ (H.out.below B)).mono ?_
        rintro e wa3 ⟨rfl, b⟩
        try clear c_g1 f_g1 a_g1 d_g1 e_g1
        replace g1 := g1.below b; have c_g1 := g1.cell; have f_g1 := g1.free; have a_g1 := fun o => (g1.alloc o).cell; have d_g1 := fun o o2 => ((g1.alloc o).alloc o2).cell; have e_g1 := fun o => (g1.alloc o).free; replace B := B.trans (b.mono B.size); clear b
        go_wp2_with fail
        refine (T1.out _ (H.out.below B)).mono ?_
        rintro e wa4 ⟨rfl, b⟩
        try clear c_g1 f_g1 a_g1 d_g1 e_g1
        replace g1 := g1.below b; have c_g1 := g1.cell; have f_g1 := g1.free; have a_g1 := fun o => (g1.alloc o).cell; have d_g1 := fun o o2 => ((g1.alloc o).alloc o2).cell; have e_g1 := fun o => (g1.alloc o).free; replace B := B.trans (b.mono B.size); clear b
        go_wp2_with fail
        refine (T2.out _ (H.out.below B)).mono ?_
        rintro e wa5 ⟨y1, rfl, o1, b⟩
        try clear c_g1 f_g1 a_g1 d_g1 e_g1
        replace g1 := g1.below b; have c_g1 := g1.cell; have f_g1 := g1.free; have a_g1 := fun o => (g1.alloc o).cell; have d_g1 := fun o o2 => ((g1.alloc o).alloc o2).cell; have e_g1 := fun o => (g1.alloc o).free; replace B := B.trans (b.mono B.size); clear b
        have le := Rd.len o1.rd Try.underlying32
        have le0 : ∀ ty W, (Builtin.len_ #[32] ty #[y1]).run Try.prog W = .ok (.int .i64 0) W := le
        clear le o1
        go_wp2
        go_ret
        exact ⟨rfl, B⟩
      case pos =>
        subst hr
        obtain ⟨l', hl'⟩ : ∃ v, v = made l E2 := ⟨_, rfl⟩
        obtain ⟨q1, q2, q3, q4, q5, q6, q7⟩ := last_law h2.symm x u l' (by rw [hl', h3])
        rw [← h1] at q5 q6
        obtain ⟨x2, hx2⟩ : ∃ v, v = giV l' a0 b0 fi := ⟨_, rfl⟩
        obtain ⟨E3, hE3⟩ : ∃ v, v = siL l' a0 b0 fi u := ⟨_, rfl⟩
        obtain ⟨E4, hE4⟩ : ∃ v, v = siL l a0 b0 fi u := ⟨_, rfl⟩
        obtain ⟨E5, hE5⟩ : ∃ v, v = siL l' a0 b0 fi x1 := ⟨_, rfl⟩
        obtain ⟨E6, hE6⟩ : ∃ v, v = siL l a0 b0 fi x1 := ⟨_, rfl⟩
        obtain ⟨l2, hl2⟩ : ∃ v, v = made l' E3 := ⟨_, rfl⟩
        have hln := HL.out
        have hl2n : l2.length ≤ 1048576 := by rw [hl2, made_len, q7]; exact hln
        have T3 := Lib.hid (fun v w h => Get24_any v l' a0 b0 fi x2 0 hx2 q1.symm w h)
        have T4 := Lib.hid (fun v w h => Set24_any v l' a0 b0 fi u E3 0 hE3 q1.symm w h)
        have T5 := Lib.hid (fun w h => Set24_any v0 l a0 b0 fi u E4 0 hE4 h2 w h)
        have T6 := Lib.hid (fun v w h => Set24_any v l' a0 b0 fi x1 E5 0 hE5 q1.symm w h)
        have T7 := Lib.hid (fun w h => Set24_any v0 l a0 b0 fi x1 E6 0 hE6 h2 w h)
        have CK2 := Lib.hid (fun v w h => Check19_any v l' 0 q3.symm w h)
        have M1 := Lib.hid (fun ev w h he => Made_any v0 ev l E2 hln w h he)
        have M2 := Lib.hid (fun v ev w h he => Made_any v ev l' E3 (by rw [q7]; exact hln) w h he)
        have M3 := Lib.hid (fun ev w h he => Made_any v0 ev l E4 hln w h he)
        have M4 := Lib.hid (fun v ev w h he => Made_any v ev l' E5 (by rw [q7]; exact hln) w h he)
        have M5 := Lib.hid (fun ev w h he => Made_any v0 ev l E6 hln w h he)
        rw [← hl'] at M1
        rw [← hl2] at M2
        have e3 : made l E4 = l2 := by rw [hE4, hl2, hE3]; exact q4.symm
        have e4 : made l' E5 = l := by rw [hE5]; exact q5
        have e5 : made l E6 = l := by rw [hE6]; exact q6
        rw [e3] at M3; rw [e4] at M4; rw [e5] at M5
        have hv : ((x2.toNat : Int) != (x.toNat : Int)) = false ∨ (((x2.toNat : Int) != (x.toNat : Int)) = true ∧ ((x2.toNat : Int) != 9221120237041090561) = false) := by
          rw [← hx2] at q2
          by_cases e9 : (x2.toNat : Int) = x.toNat
          · exact .inl (by rw [bne_eq_false_iff_eq]; exact e9)
          · refine .inr ⟨by rw [bne_iff_ne]; exact e9, ?_⟩
            rcases q2 with rfl | e
            · exact absurd rfl e9
            · rw [bne_eq_false_iff_eq, e]; rfl
        clear h1 h2 h3 hc hl' q1 q2 q3 q4 q5 q6 q7 hx2 hE3 hE4 hE5 hE6 hl2 e3 e4 e5 hln hl2n
        go_enter Try.func3, Try.ntmps3
        go_upto_region 1 with (fail)
        refine wp_gen (fun Wv => Bx Wv (w.heap.size) (24) (#[.int .i64 a0, .int .i64 b0]) ∧ Below w.heap.size w Wv) ⟨((Bx.at_ (by simp))), ((Below.refl _ w).alloc (by simp <;> omega) _)⟩ ?_
        rintro wa1 ⟨g1, b⟩
        replace B := B.trans (b.mono B.size); clear b
        have c_g1 := g1.cell; have f_g1 := g1.free; have a_g1 := fun o => (g1.alloc o).cell; have d_g1 := fun o o2 => ((g1.alloc o).alloc o2).cell; have e_g1 := fun o => (g1.alloc o).free
        go_wp2_with fail
        refine (AL.out _).mono ?_
        rintro e wa2 ⟨rfl, b⟩
        try clear c_g1 f_g1 a_g1 d_g1 e_g1
        replace g1 := g1.below b; have c_g1 := g1.cell; have f_g1 := g1.free; have a_g1 := fun o => (g1.alloc o).cell; have d_g1 := fun o o2 => ((g1.alloc o).alloc o2).cell; have e_g1 := fun o => (g1.alloc o).free; replace B := B.trans (b.mono B.size); clear b
        go_wp2_with fail
        refine (G.out _ (H.out.below B)).mono ?_
        rintro e w2 ⟨rfl, rfl⟩
        go_wp2_with fail
        refine (CK.out _ (H.out.below B)).mono ?_
        rintro e wa3 ⟨rfl, b⟩
        try clear c_g1 f_g1 a_g1 d_g1 e_g1
        replace g1 := g1.below b; have c_g1 := g1.cell; have f_g1 := g1.free; have a_g1 := fun o => (g1.alloc o).cell; have d_g1 := fun o o2 => ((g1.alloc o).alloc o2).cell; have e_g1 := fun o => (g1.alloc o).free; replace B := B.trans (b.mono B.size); clear b
        go_wp2_with fail
        refine (T1.out _ (H.out.below B)).mono ?_
        rintro e wa4 ⟨rfl, b⟩
        try clear c_g1 f_g1 a_g1 d_g1 e_g1
        replace g1 := g1.below b; have c_g1 := g1.cell; have f_g1 := g1.free; have a_g1 := fun o => (g1.alloc o).cell; have d_g1 := fun o o2 => ((g1.alloc o).alloc o2).cell; have e_g1 := fun o => (g1.alloc o).free; replace B := B.trans (b.mono B.size); clear b
        go_wp2_with fail
        refine (T2.out _ (H.out.below B)).mono ?_
        rintro e wa5 ⟨y1, rfl, o1, b⟩
        try clear c_g1 f_g1 a_g1 d_g1 e_g1
        replace g1 := g1.below b; have c_g1 := g1.cell; have f_g1 := g1.free; have a_g1 := fun o => (g1.alloc o).cell; have d_g1 := fun o o2 => ((g1.alloc o).alloc o2).cell; have e_g1 := fun o => (g1.alloc o).free; replace B := B.trans (b.mono B.size); clear b
        go_wp2_with fail
        refine (M1.out _ _ (H.out.below B) o1.rd).mono ?_
        rintro e wa6 ⟨z1, rfl, oz, b⟩
        try clear c_g1 f_g1 a_g1 d_g1 e_g1
        replace g1 := g1.below b; have c_g1 := g1.cell; have f_g1 := g1.free; have a_g1 := fun o => (g1.alloc o).cell; have d_g1 := fun o o2 => ((g1.alloc o).alloc o2).cell; have e_g1 := fun o => (g1.alloc o).free; replace B := B.trans (b.mono B.size); clear b
        have rz := oz.rd
        clear o1 oz
        go_wp2_with fail
        refine (T3.out _ _ rz).mono ?_
        rintro e wa7 ⟨rfl, b⟩
        try clear c_g1 f_g1 a_g1 d_g1 e_g1
        replace g1 := g1.below b; have c_g1 := g1.cell; have f_g1 := g1.free; have a_g1 := fun o => (g1.alloc o).cell; have d_g1 := fun o o2 => ((g1.alloc o).alloc o2).cell; have e_g1 := fun o => (g1.alloc o).free; replace rz := rz.below b; replace B := B.trans (b.mono B.size); clear b
        go_wp2_with fail
        refine (T4.out _ _ rz).mono ?_
        rintro e wa8 ⟨y2, rfl, o2, b⟩
        try clear c_g1 f_g1 a_g1 d_g1 e_g1
        replace g1 := g1.below b; have c_g1 := g1.cell; have f_g1 := g1.free; have a_g1 := fun o => (g1.alloc o).cell; have d_g1 := fun o o2 => ((g1.alloc o).alloc o2).cell; have e_g1 := fun o => (g1.alloc o).free; replace rz := rz.below b; replace B := B.trans (b.mono B.size); clear b
        have p2 := o2.rd
        clear o2
        go_wp2_with fail
        refine (T5.out _ (H.out.below B)).mono ?_
        rintro e wa9 ⟨y3, rfl, o3, b⟩
        try clear c_g1 f_g1 a_g1 d_g1 e_g1
        replace g1 := g1.below b; have c_g1 := g1.cell; have f_g1 := g1.free; have a_g1 := fun o => (g1.alloc o).cell; have d_g1 := fun o o2 => ((g1.alloc o).alloc o2).cell; have e_g1 := fun o => (g1.alloc o).free; replace rz := rz.below b; replace p2 := p2.below b; replace B := B.trans (b.mono B.size); clear b
        have p3 := o3.rd
        clear o3
        go_wp2_with fail
        refine (T6.out _ _ rz).mono ?_
        rintro e wa10 ⟨y4, rfl, o4, b⟩
        try clear c_g1 f_g1 a_g1 d_g1 e_g1
        replace g1 := g1.below b; have c_g1 := g1.cell; have f_g1 := g1.free; have a_g1 := fun o => (g1.alloc o).cell; have d_g1 := fun o o2 => ((g1.alloc o).alloc o2).cell; have e_g1 := fun o => (g1.alloc o).free; replace rz := rz.below b; replace p2 := p2.below b; replace p3 := p3.below b; replace B := B.trans (b.mono B.size); clear b
        have p4 := o4.rd
        clear o4
        go_wp2_with fail
        refine (CK2.out _ _ rz).mono ?_
        rintro e wa11 ⟨rfl, b⟩
        try clear c_g1 f_g1 a_g1 d_g1 e_g1
        replace g1 := g1.below b; have c_g1 := g1.cell; have f_g1 := g1.free; have a_g1 := fun o => (g1.alloc o).cell; have d_g1 := fun o o2 => ((g1.alloc o).alloc o2).cell; have e_g1 := fun o => (g1.alloc o).free; replace rz := rz.below b; replace p2 := p2.below b; replace p3 := p3.below b; replace p4 := p4.below b; replace B := B.trans (b.mono B.size); clear b
        rcases hv with hv | ⟨hv1, hv2⟩
        all_goals
          go_wp2_with fail
          refine (T7.out _ (H.out.below B)).mono ?_
          rintro e wa12 ⟨y5, rfl, o5, b⟩
          try clear c_g1 f_g1 a_g1 d_g1 e_g1
          replace g1 := g1.below b; have c_g1 := g1.cell; have f_g1 := g1.free; have a_g1 := fun o => (g1.alloc o).cell; have d_g1 := fun o o2 => ((g1.alloc o).alloc o2).cell; have e_g1 := fun o => (g1.alloc o).free; replace rz := rz.below b; replace p2 := p2.below b; replace p3 := p3.below b; replace p4 := p4.below b; replace B := B.trans (b.mono B.size); clear b
          have p5 := o5.rd
          clear o5
          go_wp2_with fail
          refine (M2.out _ _ _ rz p2).mono ?_
          rintro e wa13 ⟨z2, rfl, o6, b⟩
          replace rz := rz.below b; replace p2 := p2.below b; replace p3 := p3.below b; replace p4 := p4.below b; replace p5 := p5.below b; replace B := B.trans (b.mono B.size); clear b
          have s6 := o6.rd
          clear o6
          go_wp2_with fail
          refine (M3.out _ _ (H.out.below B) p3).mono ?_
          rintro e wa14 ⟨z3, rfl, o7, b⟩
          replace rz := rz.below b; replace p2 := p2.below b; replace p3 := p3.below b; replace p4 := p4.below b; replace p5 := p5.below b; replace s6 := s6.below b; replace B := B.trans (b.mono B.size); clear b
          have s7 := o7.rd
          clear o7
          go_wp2_with fail
          refine (Same_r z2 z3 l2 l2 true (by simp [L02.same]) _ s6 s7).mono ?_
          rintro e wa15 ⟨rfl, b⟩
          replace rz := rz.below b; replace p2 := p2.below b; replace p3 := p3.below b; replace p4 := p4.below b; replace p5 := p5.below b; replace s6 := s6.below b; replace s7 := s7.below b; replace B := B.trans (b.mono B.size); clear b
          go_wp2_with fail
          refine (M4.out _ _ _ rz p4).mono ?_
          rintro e wa16 ⟨z4, rfl, o8, b⟩
          replace rz := rz.below b; replace p2 := p2.below b; replace p3 := p3.below b; replace p4 := p4.below b; replace p5 := p5.below b; replace s6 := s6.below b; replace s7 := s7.below b; replace B := B.trans (b.mono B.size); clear b
          have s8 := o8.rd
          clear o8
          go_wp2_with fail
          refine (Same_r z4 v0 l l true (by simp [L02.same]) _ s8 (H.out.below B)).mono ?_
          rintro e wa17 ⟨rfl, b⟩
          replace rz := rz.below b; replace p2 := p2.below b; replace p3 := p3.below b; replace p4 := p4.below b; replace p5 := p5.below b; replace s8 := s8.below b; replace B := B.trans (b.mono B.size); clear b
          go_wp2_with fail
          refine (M5.out _ _ (H.out.below B) p5).mono ?_
          rintro e wa18 ⟨z5, rfl, o9, b⟩
          replace rz := rz.below b; replace p2 := p2.below b; replace p3 := p3.below b; replace p4 := p4.below b; replace p5 := p5.below b; replace s8 := s8.below b; replace B := B.trans (b.mono B.size); clear b
          have s9 := o9.rd
          clear o9
          go_wp2_with fail
          refine (Same_r z5 v0 l l true (by simp [L02.same]) _ s9 (H.out.below B)).mono ?_
          rintro e wa19 ⟨rfl, b⟩
          replace s9 := s9.below b; replace B := B.trans (b.mono B.size); clear b
          go_wp2
          go_ret
          exact ⟨rfl, B⟩
end Go.Proofs.Ytiiilaojllmmiaa
