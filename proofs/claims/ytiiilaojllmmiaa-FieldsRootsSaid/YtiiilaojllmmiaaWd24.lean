/- The walk of the law FieldsRoots. -/
import Derived.Test.YtiiilaojllmmiaaMFt
import Derived.Test.YtiiilaojllmmiaaWc24
set_option linter.unusedVariables false
set_option linter.unusedSimpArgs false
namespace Go.Proofs.Ytiiilaojllmmiaa
open Go.RowKit L02 L05 L13 L15 L18 L19 L20

theorem set_same {l : List UInt64} {p : Nat} {x : UInt64} (h : l[p]? = some x) : l.set p x = l := by
  have := set_back (y := x) h
  rwa [List.set_set] at this
/-- what the law FieldsRoots needs of an image -/
theorem roots_law {l : List UInt64} {sl g n : Int} (ho : oiE l sl g n = 0) {l' : List UInt64} (hl' : l' = made l (oiL l sl g n)) :
    ∃ (p : Int) (x : UInt64), resErr l sl g = 0 ∧ res l sl g = p ∧ resErr l' (oiS l sl g n) (oiG l sl g n) = 0 ∧ res l' (oiS l sl g n) (oiG l sl g n) = (x.toNat : Int) ∧ 0 ≤ n ∧ n ≤ 8 ∧ 0 ≤ p ∧ p ≤ 2048 ∧ p + 2 + n < l.length ∧ l[(p + 2 + n).toNat]? = some x ∧ (x.toNat : Int) ≤ 2048 ∧
      riE l' sl g n (some (oiS l sl g n, oiG l sl g n)) = 0 ∧ made l' (riL l' sl g n (some (oiS l sl g n, oiG l sl g n))) = l' ∧ l'.length = l.length := by
  have ho0 := ho
  unfold oiE at ho
  split at ho
  case isFalse hk => exact absurd ho hk
  case isTrue hk =>
  obtain ⟨k, a, nn, q, i, b, t, kd, x, rfl, rfl, f⟩ := Fd.of hk
  rw [f.hK, f.hW] at ho
  split at ho
  case isFalse h3 => omega
  case isTrue h3 =>
  split at ho
  case isTrue hx => omega
  case isFalse hx =>
  have rt := f.hd.rt
  have hob := (f.ref h3).resolve_left hx
  obtain ⟨kk, s, n1, n2, n3, n4, n5, n6, n7, n8, n9, n10, _⟩ := new_spec ho
  have eS : oiS l k g i = (kk : Int) := by unfold oiS; rw [if_pos ho0, f.hW, n7]
  have eG : oiG l k g i = s.gen + 1 := by unfold oiG; rw [if_pos ho0, f.hW, n8]
  have eL : oiL l k g i = [(((112 + kk : Nat) : Int), pk ⟨s.gen + 1, true, x.toNat⟩)] := by
    unfold oiL; rw [if_pos ho0, f.hW, n9, n10]; congr 2
  obtain ⟨r1, r2, r3, r4, r5⟩ := seen_slot_set rt n1 n6 (fun _ => hob)
  rw [eL, made_one (by have := rt.sz.1; omega)] at hl'
  rw [← hl'] at r1 r3 r4
  have hln : l'.length = l.length := by rw [hl', List.length_set]
  have hne : k ≠ kk := fun e => by
    subst e
    have := f.hd.hs
    rw [n2] at this; injection this with this; rw [this] at n3; cases n3
  have hsk : (slots l')[k]? = some ⟨g, true, (a : Int)⟩ := by rw [hl', set_ne n1 hne]; exact f.hd.hs
  have hsn : (slots l')[kk]? = some ⟨s.gen + 1, true, (x.toNat : Int)⟩ := by rw [hl', set_at rt.sl n1, spl_pk n6]
  obtain ⟨q', t', h'⟩ := Hd.mk2 r1 f.hd.hk hsk (by rw [r3]; exact f.hd.ho) f.hd.hat
  have hq : q' = q := by have := h'.hty; have := f.hd.hty; omega
  subst hq
  have ht : t' = t := by have h1 := h'.hT; have h2 := f.hd.hT; rw [r4, h2] at h1; injection h1 with h1; exact h1.symm
  subst ht
  obtain ⟨kd', x', f'⟩ := Fd.mk2 h' f.hi
  have hkd : kd' = kd := by have h1 := f'.hkd; rw [f.hkd] at h1; injection h1 with h1; exact h1.symm
  subst hkd
  have hxx : x' = x := by
    have h1 := f'.hx
    have := f.hd.ha1
    rw [hl', List.getElem?_set_ne (by omega), f.hx] at h1
    injection h1 with h1; exact h1.symm
  subst hxx
  obtain ⟨c, hc, e⟩ := hob
  obtain ⟨a', g1, g2, g3', g4, _, _, _, g8, _⟩ := objs_at rt.al hc
  have hsz := rt.sz.2.1
  have hR := resErr_at r1.sl hsn (s.gen + 1)
  have hr0 : resErr l' (kk : Int) (s.gen + 1) = 0 := by rw [hR.1, if_pos ⟨rfl, rfl⟩]
  have hrr : res l' (kk : Int) (s.gen + 1) = (x'.toNat : Int) := hR.2 rfl rfl
  have hE : riE l' k g i (some ((kk : Int), s.gen + 1)) = 0 := by
    unfold riE; rw [if_pos f'.hE, f'.hK, if_pos h3]; exact hr0
  have h1 := f.hd.ha1; have h2 := f.hd.ha2; have h5 := f.hd.hn8; have h6 := f.hi; have h7 := f.lt
  rw [eS, eG]
  refine ⟨(a : Int), x', f.hd.hr, f.hd.hres, hr0, hrr, by omega, by omega, by omega, by omega, by omega, ?_, by omega, hE, ?_, hln⟩
  · rw [show ((a : Int) + 2 + (i : Int)).toNat = a + 2 + i by omega]; exact f.hx
  · have hv : riV l' (some ((kk : Int), s.gen + 1)) = x' := by
      show UInt64.ofNat (res l' kk (s.gen + 1)).toNat = _
      rw [hrr, Int.toNat_natCast]
      apply UInt64.toNat.inj
      rw [UInt64.toNat_ofNat', Nat.mod_eq_of_lt x'.toNat_lt]
    have : riL l' k g i (some ((kk : Int), s.gen + 1)) = [(((a + 2 + i : Nat) : Int), x')] := by
      unfold riL; rw [if_pos hE, f'.hAt, hv]
    rw [this, made_one (by rw [hln]; exact f.lt), set_same f'.hx]

theorem enter_made22 (a b : Value) (W : World) : (callFunc 18 (#[] ++ #[a, b] ++ #[])).run Try.prog W = .ok (.enter 18 #[a, b]) W := by
  simp [go_sem]
theorem enter_get24 (a b c : Value) (W : World) : (callFunc 16 (#[] ++ #[a, b, c] ++ #[])).run Try.prog W = .ok (.enter 16 #[a, b, c]) W := by
  simp [go_sem]
theorem giE_siL {l : List UInt64} {sl g n : Int} (h : giE l sl g n = 0) (x : UInt64) : ∃ y, siL l sl g n x = [(res l sl g + 2 + n, y)] ∧ resErr l sl g = 0 ∧ 0 ≤ n ∧ n ≤ 8 := by
  have hk : kiErr l sl g n = 0 := by
    unfold giE at h
    split at h
    · rename_i hk; exact hk
    · exact h
  obtain ⟨k, a, nn, q, i, b, t, kd, y, rfl, rfl, f⟩ := Fd.of hk
  have h5 := f.hd.hn8; have h6 := f.hi
  refine ⟨setV (kiK l k g i) x, ?_, f.hd.hr, by omega, by omega⟩
  · rw [siL, if_pos h, f.hAt, f.hd.hres]
    rw [show ((a + 2 + i : Nat) : Int) = (a : Int) + 2 + (i : Int) by omega]

set_option maxRecDepth 100000 in
set_option maxHeartbeats 8000000 in
theorem FieldsRoots_walk (v0 : Value) (l : List UInt64) (a0 b0 : Int) (fi ot : Int) (x : UInt64) (w : World) (h0 : Words w v0 l) (_f1 : -9223372036854775808 ≤ a0 ∧ a0 ≤ 9223372036854775807) (_f2 : -9223372036854775808 ≤ b0 ∧ b0 ≤ 9223372036854775807) (_f3 : -9223372036854775808 ≤ fi ∧ fi ≤ 9223372036854775807) (_f4 : -9223372036854775808 ≤ ot ∧ ot ≤ 9223372036854775807) :
    Calls Try.prog 8 #[v0, .agg #[.int .i64 a0, .int .i64 b0], .int .i64 fi, .int .i64 ot, .int .u64 x.toNat] w fun e w' => e = .returned (.bool true) ∧ Below w.heap.size w w' := by
  have B : Below w.heap.size w w := Below.refl _ _
  have H := Lib.hid h0; clear h0 _f1 _f2 _f3 _f4
  have AL := Lib.hid alive24_any
  have G := Lib.hid (fun w h => Great_any v0 l w h)
  obtain ⟨gr, hgr⟩ : ∃ g, g = decide (2100 < l.length) := ⟨_, rfl⟩
  have HGR := Lib.hid hgr
  rw [← hgr] at G
  clear hgr
  cases gr
  case true =>
    go_enter Try.func8, Try.ntmps8
    go_upto_region 1 with (fail)
    refine wp_gen (fun Wv => Bx Wv (w.heap.size) (24) (#[.int .i64 a0, .int .i64 b0]) ∧ Below w.heap.size w Wv) ⟨((Bx.at_ (by simp))), ((Below.refl _ w).alloc (by simp <;> omega) _)⟩ ?_
    rintro wa1 ⟨g1, b⟩
    replace B := B.trans (b.mono B.size); clear b
    have c_g1 := g1.cell; have f_g1 := g1.free; have a_g1 := fun o => (g1.alloc o).cell; have d_g1 := fun o o2 => ((g1.alloc o).alloc o2).cell; have e_g1 := fun o => (g1.alloc o).free
    go_wp2_with fail
    refine (AL.out _).mono ?_
    rintro e wa2 ⟨rfl, b⟩
    try clear c_g1 f_g1 a_g1 d_g1 e_g1
    replace g1 := g1.below b; have c_g1 := g1.cell; have f_g1 := g1.free; have a_g1 := fun o => (g1.alloc o).cell; have d_g1 := fun o o2 => ((g1.alloc o).alloc o2).cell; have e_g1 := fun o => (g1.alloc o).free; replace B := B.trans (b.mono B.size); clear b
    go_wp2_with fail
    refine (G.out _ (H.out.below B)).mono ?_
    rintro e w2 ⟨rfl, rfl⟩
    go_wp2
    go_ret
    exact ⟨rfl, B⟩
  case false =>
    have hl : l.length ≤ 1048576 := by have := HGR.out; simp at this; omega
    have HL := Lib.hid hl
    clear hl
    obtain ⟨c, hc⟩ : ∃ v, v = chk19 l := ⟨_, rfl⟩
    have CK := Lib.hid (fun w h => Check19_any v0 l c hc w h)
    by_cases h0 : c = 0
    case neg =>
      have n1 : (c != 0) = true := by rw [bne_iff_ne]; exact h0
      clear hc h0
      go_enter Try.func8, Try.ntmps8
      go_upto_region 1 with (fail)
      refine wp_gen (fun Wv => Bx Wv (w.heap.size) (24) (#[.int .i64 a0, .int .i64 b0]) ∧ Below w.heap.size w Wv) ⟨((Bx.at_ (by simp))), ((Below.refl _ w).alloc (by simp <;> omega) _)⟩ ?_
      rintro wa1 ⟨g1, b⟩
      replace B := B.trans (b.mono B.size); clear b
      have c_g1 := g1.cell; have f_g1 := g1.free; have a_g1 := fun o => (g1.alloc o).cell; have d_g1 := fun o o2 => ((g1.alloc o).alloc o2).cell; have e_g1 := fun o => (g1.alloc o).free
      go_wp2_with fail
      refine (AL.out _).mono ?_
      rintro e wa2 ⟨rfl, b⟩
      try clear c_g1 f_g1 a_g1 d_g1 e_g1
      replace g1 := g1.below b; have c_g1 := g1.cell; have f_g1 := g1.free; have a_g1 := fun o => (g1.alloc o).cell; have d_g1 := fun o o2 => ((g1.alloc o).alloc o2).cell; have e_g1 := fun o => (g1.alloc o).free; replace B := B.trans (b.mono B.size); clear b
      go_wp2_with fail
      refine (G.out _ (H.out.below B)).mono ?_
      rintro e w2 ⟨rfl, rfl⟩
      go_wp2_with fail
      refine (CK.out _ (H.out.below B)).mono ?_
      rintro e wa3 ⟨rfl, b⟩
      try clear c_g1 f_g1 a_g1 d_g1 e_g1
      replace g1 := g1.below b; have c_g1 := g1.cell; have f_g1 := g1.free; have a_g1 := fun o => (g1.alloc o).cell; have d_g1 := fun o o2 => ((g1.alloc o).alloc o2).cell; have e_g1 := fun o => (g1.alloc o).free; replace B := B.trans (b.mono B.size); clear b
      go_wp2
      go_ret
      exact ⟨rfl, B⟩
    case pos =>
      subst h0
      obtain ⟨E4, h6⟩ : ∃ v, v = oiL l a0 b0 fi := ⟨_, rfl⟩
      obtain ⟨s4, h7⟩ : ∃ v, v = oiS l a0 b0 fi := ⟨_, rfl⟩
      obtain ⟨g4, h8⟩ : ∃ v, v = oiG l a0 b0 fi := ⟨_, rfl⟩
      obtain ⟨r4, h9⟩ : ∃ v, v = oiE l a0 b0 fi := ⟨_, rfl⟩
      have T7 := Lib.hid (fun w h => Root24_any v0 l a0 b0 fi E4 s4 g4 r4 h6 h7 h8 h9 w h)
      by_cases hr : r4 = 0
      case neg =>
        have n1 : (r4 != 0) = true := by rw [bne_iff_ne]; exact hr
        obtain rfl : E4 = [] := by rw [h6, oiL, if_neg (by rw [← h9]; exact hr)]
        clear h6 h7 h8 h9 hc hr
        go_enter Try.func8, Try.ntmps8
        go_upto_region 1 with (fail)
        refine wp_gen (fun Wv => Bx Wv (w.heap.size) (24) (#[.int .i64 a0, .int .i64 b0]) ∧ Below w.heap.size w Wv) ⟨((Bx.at_ (by simp))), ((Below.refl _ w).alloc (by simp <;> omega) _)⟩ ?_
        rintro wa1 ⟨g1, b⟩
        replace B := B.trans (b.mono B.size); clear b
        have c_g1 := g1.cell; have f_g1 := g1.free; have a_g1 := fun o => (g1.alloc o).cell; have d_g1 := fun o o2 => ((g1.alloc o).alloc o2).cell; have e_g1 := fun o => (g1.alloc o).free
        go_wp2_with fail
        refine (AL.out _).mono ?_
        rintro e wa2 ⟨rfl, b⟩
        try clear c_g1 f_g1 a_g1 d_g1 e_g1
        replace g1 := g1.below b; have c_g1 := g1.cell; have f_g1 := g1.free; have a_g1 := fun o => (g1.alloc o).cell; have d_g1 := fun o o2 => ((g1.alloc o).alloc o2).cell; have e_g1 := fun o => (g1.alloc o).free; replace B := B.trans (b.mono B.size); clear b
        go_wp2_with fail
        refine (G.out _ (H.out.below B)).mono ?_
        rintro e w2 ⟨rfl, rfl⟩
        go_wp2_with fail
        refine (CK.out _ (H.out.below B)).mono ?_
        rintro e wa3 ⟨rfl, b⟩
        try clear c_g1 f_g1 a_g1 d_g1 e_g1
        replace g1 := g1.below b; have c_g1 := g1.cell; have f_g1 := g1.free; have a_g1 := fun o => (g1.alloc o).cell; have d_g1 := fun o o2 => ((g1.alloc o).alloc o2).cell; have e_g1 := fun o => (g1.alloc o).free; replace B := B.trans (b.mono B.size); clear b
        go_wp2_with fail
        refine (T7.out _ (H.out.below B)).mono ?_
        rintro e wa4 ⟨y1, rfl, o1, b⟩
        try clear c_g1 f_g1 a_g1 d_g1 e_g1
        replace g1 := g1.below b; have c_g1 := g1.cell; have f_g1 := g1.free; have a_g1 := fun o => (g1.alloc o).cell; have d_g1 := fun o o2 => ((g1.alloc o).alloc o2).cell; have e_g1 := fun o => (g1.alloc o).free; replace B := B.trans (b.mono B.size); clear b
        have le := Rd.len o1.rd Try.underlying32
        have le0 : ∀ ty W, (Builtin.len_ #[32] ty #[y1]).run Try.prog W = .ok (.int .i64 0) W := le
        have hb1 := B.size
        clear le o1
        go_upto_region 5 with (fail)
        refine wp_gen (fun Wv => Bx Wv (wa4.heap.size) (24) (#[.int .i64 s4, .int .i64 g4]) ∧ Below wa4.heap.size wa4 Wv) ⟨((Bx.at_ (by simp))), ((Below.refl _ wa4).alloc (by simp <;> omega) _)⟩ ?_
        rintro wa5 ⟨g3, b⟩
        try clear c_g1 f_g1 a_g1 d_g1 e_g1
        replace g1 := g1.below b; have c_g1 := g1.cell; have f_g1 := g1.free; have a_g1 := fun o => (g1.alloc o).cell; have d_g1 := fun o o2 => ((g1.alloc o).alloc o2).cell; have e_g1 := fun o => (g1.alloc o).free; replace B := B.trans (b.mono B.size); clear b
        have c_g3 := g3.cell; have f_g3 := g3.free; have a_g3 := fun o => (g3.alloc o).cell; have d_g3 := fun o o2 => ((g3.alloc o).alloc o2).cell; have e_g3 := fun o => (g3.alloc o).free
        go_wp2
        go_ret
        exact ⟨rfl, B⟩
      case pos =>
        subst hr
        obtain ⟨l', hl'⟩ : ∃ v, v = made l E4 := ⟨_, rfl⟩
        obtain ⟨p, tw, q1, q2, q3, q4, q5, q6, q7, q8, q9, q10, q11, q12, q13, q14⟩ := roots_law h9.symm (l' := l') (by rw [hl', h6])
        rw [← h7, ← h8] at q3 q4 q12 q13
        obtain ⟨E5, hE5⟩ : ∃ v, v = riL l' a0 b0 fi (some (s4, g4)) := ⟨_, rfl⟩
        rw [← hE5] at q13
        obtain ⟨E6, hE6⟩ : ∃ v, v = siL l' s4 g4 ot x := ⟨_, rfl⟩
        obtain ⟨r6, hr6⟩ : ∃ v, v = giE l' s4 g4 ot := ⟨_, rfl⟩
        obtain ⟨l3, hl3⟩ : ∃ v, v = made l' E6 := ⟨_, rfl⟩
        obtain ⟨x7, hx7⟩ : ∃ v, v = giV l3 s4 g4 ot := ⟨_, rfl⟩
        obtain ⟨r7, hr7⟩ : ∃ v, v = giE l3 s4 g4 ot := ⟨_, rfl⟩
        have hln := HL.out
        have RT := Lib.hid (fun w h => ResolveR_any v0 l a0 b0 p 0 q2.symm q1.symm w h)
        have M1 := Lib.hid (fun ev w h he => Made_any v0 ev l E4 hln w h he)
        have RT2 := Lib.hid (fun v w h => ResolveR_any v l' s4 g4 (tw.toNat : Int) 0 q4.symm q3.symm w h)
        have T5 := Lib.hid (fun v pv w h hp => SetRef24_any v pv l' a0 b0 fi (some (s4, g4)) E5 0 hE5 q12.symm w h hp)
        have M2 := Lib.hid (fun v ev w h he => Made_any v ev l' E5 (by rw [q14]; exact hln) w h he)
        have T6 := Lib.hid (fun v w h => Set24_any v l' s4 g4 ot x E6 r6 hE6 hr6 w h)
        have M3 := Lib.hid (fun v ev w h he => Made_any v ev l' E6 (by rw [q14]; exact hln) w h he)
        have T8 := Lib.hid (fun v w h => Get24_any v l3 s4 g4 ot x7 r7 hx7 hr7 w h)
        rw [← hl'] at M1
        rw [q13] at M2
        rw [← hl3] at M3
        have hend : (r6 != 0) = true ∨ (r6 = 0 ∧ r7 = 0 ∧ (∃ y, E6 = [((tw.toNat : Int) + 2 + ot, y)]) ∧ 0 ≤ ot ∧ ot ≤ 8 ∧ (((x7.toNat : Int) == (x.toNat : Int)) = true ∨ (((x7.toNat : Int) == (x.toNat : Int)) = false ∧ ((x7.toNat : Int) == 9221120237041090561) = true))) := by
          by_cases h6 : r6 = 0
          · right
            obtain ⟨z1, z2, _⟩ := last_law (by rw [← hr6]; exact h6) x 0 l3 (by rw [hl3, hE6])
            obtain ⟨y, z3, _, z4, z5⟩ := giE_siL (by rw [← hr6]; exact h6) x
            rw [q4, ← hE6] at z3
            refine ⟨h6, by rw [hr7]; exact z1, ⟨y, z3⟩, z4, z5, ?_⟩
            rw [← hx7] at z2
            by_cases e9 : (x7.toNat : Int) = x.toNat
            · exact .inl (by rw [beq_iff_eq]; exact e9)
            · refine .inr ⟨by rw [beq_eq_false_iff_ne]; exact e9, ?_⟩
              rcases z2 with rfl | e
              · exact absurd rfl e9
              · rw [beq_iff_eq, e]; rfl
          · left; rw [bne_iff_ne]; exact h6
        have wp1 : IntKind.i64.wrap (p + 2) = p + 2 := IntWalk.i64_in _ (by omega)
        have wp2 : IntKind.i64.wrap (p + 2 + fi) = p + 2 + fi := IntWalk.i64_in _ (by omega)
        have wp3 : IntKind.u64.wrap (tw.toNat : Int) = (tw.toNat : Int) := by show (tw.toNat : Int) % 18446744073709551616 = _; omega
        have k1 : decide (fi < 0) = false := decide_eq_false (by omega)
        have k2 : decide ((l.length : Int) ≤ p + 2 + fi) = false := decide_eq_false (by omega)
        have HX := Lib.hid (And.intro (show 0 ≤ p + 2 + fi by omega) (And.intro q9 q10))
        have ht2 : (tw.toNat : Int) ≤ 2048 := q11
        clear h6 h7 h8 h9 hc hl' q1 q2 q3 q4 q5 q6 q7 q8 q9 q10 q11 q12 q13 q14 hE5 hE6 hr6 hl3 hx7 hr7 hln
        go_enter Try.func8, Try.ntmps8
        go_upto_region 1 with (fail)
        refine wp_gen (fun Wv => Bx Wv (w.heap.size) (24) (#[.int .i64 a0, .int .i64 b0]) ∧ Below w.heap.size w Wv) ⟨((Bx.at_ (by simp))), ((Below.refl _ w).alloc (by simp <;> omega) _)⟩ ?_
        rintro wa1 ⟨g1, b⟩
        replace B := B.trans (b.mono B.size); clear b
        have c_g1 := g1.cell; have f_g1 := g1.free; have a_g1 := fun o => (g1.alloc o).cell; have d_g1 := fun o o2 => ((g1.alloc o).alloc o2).cell; have e_g1 := fun o => (g1.alloc o).free
        go_wp2_with fail
        refine (AL.out _).mono ?_
        rintro e wa2 ⟨rfl, b⟩
        try clear c_g1 f_g1 a_g1 d_g1 e_g1
        replace g1 := g1.below b; have c_g1 := g1.cell; have f_g1 := g1.free; have a_g1 := fun o => (g1.alloc o).cell; have d_g1 := fun o o2 => ((g1.alloc o).alloc o2).cell; have e_g1 := fun o => (g1.alloc o).free; replace B := B.trans (b.mono B.size); clear b
        go_wp2_with fail
        refine (G.out _ (H.out.below B)).mono ?_
        rintro e w2 ⟨rfl, rfl⟩
        go_wp2_with fail
        refine (CK.out _ (H.out.below B)).mono ?_
        rintro e wa3 ⟨rfl, b⟩
        try clear c_g1 f_g1 a_g1 d_g1 e_g1
        replace g1 := g1.below b; have c_g1 := g1.cell; have f_g1 := g1.free; have a_g1 := fun o => (g1.alloc o).cell; have d_g1 := fun o o2 => ((g1.alloc o).alloc o2).cell; have e_g1 := fun o => (g1.alloc o).free; replace B := B.trans (b.mono B.size); clear b
        go_wp2_with fail
        refine (T7.out _ (H.out.below B)).mono ?_
        rintro e wa4 ⟨y1, rfl, o1, b⟩
        try clear c_g1 f_g1 a_g1 d_g1 e_g1
        replace g1 := g1.below b; have c_g1 := g1.cell; have f_g1 := g1.free; have a_g1 := fun o => (g1.alloc o).cell; have d_g1 := fun o o2 => ((g1.alloc o).alloc o2).cell; have e_g1 := fun o => (g1.alloc o).free; replace B := B.trans (b.mono B.size); clear b
        have p1 := o1.rd
        have hb1 := B.size
        clear o1
        go_upto_region 5 with (fail)
        refine wp_gen (fun Wv => Bx Wv (wa4.heap.size) (24) (#[.int .i64 s4, .int .i64 g4]) ∧ Below wa4.heap.size wa4 Wv) ⟨((Bx.at_ (by simp))), ((Below.refl _ wa4).alloc (by simp <;> omega) _)⟩ ?_
        rintro wa5 ⟨g3, b⟩
        try clear c_g1 f_g1 a_g1 d_g1 e_g1
        replace g1 := g1.below b; have c_g1 := g1.cell; have f_g1 := g1.free; have a_g1 := fun o => (g1.alloc o).cell; have d_g1 := fun o o2 => ((g1.alloc o).alloc o2).cell; have e_g1 := fun o => (g1.alloc o).free; replace p1 := p1.below b; replace B := B.trans (b.mono B.size); clear b
        have c_g3 := g3.cell; have f_g3 := g3.free; have a_g3 := fun o => (g3.alloc o).cell; have d_g3 := fun o o2 => ((g3.alloc o).alloc o2).cell; have e_g3 := fun o => (g3.alloc o).free
        go_wp2_with fail
        refine (RT.out _ (H.out.below B)).mono ?_
        rintro e wa6 ⟨rfl, b⟩
        try clear c_g1 f_g1 a_g1 d_g1 e_g1
        replace g1 := g1.below b; have c_g1 := g1.cell; have f_g1 := g1.free; have a_g1 := fun o => (g1.alloc o).cell; have d_g1 := fun o o2 => ((g1.alloc o).alloc o2).cell; have e_g1 := fun o => (g1.alloc o).free; replace p1 := p1.below b; try clear c_g3 f_g3 a_g3 d_g3 e_g3
        replace g3 := g3.below b; have c_g3 := g3.cell; have f_g3 := g3.free; have a_g3 := fun o => (g3.alloc o).cell; have d_g3 := fun o o2 => ((g3.alloc o).alloc o2).cell; have e_g3 := fun o => (g3.alloc o).free; replace B := B.trans (b.mono B.size); clear b
        go_wp2_with fail
        refine (M1.out _ _ (H.out.below B) p1).mono ?_
        rintro e wa7 ⟨z1, rfl, oz, b⟩
        try clear c_g1 f_g1 a_g1 d_g1 e_g1
        replace g1 := g1.below b; have c_g1 := g1.cell; have f_g1 := g1.free; have a_g1 := fun o => (g1.alloc o).cell; have d_g1 := fun o o2 => ((g1.alloc o).alloc o2).cell; have e_g1 := fun o => (g1.alloc o).free; replace p1 := p1.below b; try clear c_g3 f_g3 a_g3 d_g3 e_g3
        replace g3 := g3.below b; have c_g3 := g3.cell; have f_g3 := g3.free; have a_g3 := fun o => (g3.alloc o).cell; have d_g3 := fun o o2 => ((g3.alloc o).alloc o2).cell; have e_g3 := fun o => (g3.alloc o).free; replace B := B.trans (b.mono B.size); clear b
        have rz := oz.rd
        clear oz p1
        go_wp2_with fail
        refine (RT2.out _ _ rz).mono ?_
        rintro e wa8 ⟨rfl, b⟩
        try clear c_g1 f_g1 a_g1 d_g1 e_g1
        replace g1 := g1.below b; have c_g1 := g1.cell; have f_g1 := g1.free; have a_g1 := fun o => (g1.alloc o).cell; have d_g1 := fun o o2 => ((g1.alloc o).alloc o2).cell; have e_g1 := fun o => (g1.alloc o).free; try clear c_g3 f_g3 a_g3 d_g3 e_g3
        replace g3 := g3.below b; have c_g3 := g3.cell; have f_g3 := g3.free; have a_g3 := fun o => (g3.alloc o).cell; have d_g3 := fun o o2 => ((g3.alloc o).alloc o2).cell; have e_g3 := fun o => (g3.alloc o).free; replace rz := rz.below b; replace B := B.trans (b.mono B.size); clear b
        obtain ⟨ad, x2, ia, m0, hx2⟩ := (H.out.below B).atI (P := Try.prog) Try.underlying22 one_u64 HX.out.1 HX.out.2.1
        obtain rfl : x2 = tw := by have := hx2.out; rw [HX.out.2.2] at this; injection this with e; exact e.symm
        have lv := Rd.len (H.out.below B) Try.underlying22
        clear hx2
        go_wp2_with fail
        refine (T5.out _ _ _ rz ⟨_, rfl, g3⟩).mono ?_
        rintro e wa9 ⟨y2, rfl, o2, b⟩
        try clear c_g1 f_g1 a_g1 d_g1 e_g1
        replace g1 := g1.below b; have c_g1 := g1.cell; have f_g1 := g1.free; have a_g1 := fun o => (g1.alloc o).cell; have d_g1 := fun o o2 => ((g1.alloc o).alloc o2).cell; have e_g1 := fun o => (g1.alloc o).free; try clear c_g3 f_g3 a_g3 d_g3 e_g3
        replace g3 := g3.below b; have c_g3 := g3.cell; have f_g3 := g3.free; have a_g3 := fun o => (g3.alloc o).cell; have d_g3 := fun o o2 => ((g3.alloc o).alloc o2).cell; have e_g3 := fun o => (g3.alloc o).free; replace rz := rz.below b; replace B := B.trans (b.mono B.size); clear b
        have p2 := o2.rd
        clear o2 m0 ia lv
        go_wp2_with fail
        refine (M2.out _ _ _ rz p2).mono ?_
        rintro e wa10 ⟨z2, rfl, o3, b⟩
        try clear c_g1 f_g1 a_g1 d_g1 e_g1
        replace g1 := g1.below b; have c_g1 := g1.cell; have f_g1 := g1.free; have a_g1 := fun o => (g1.alloc o).cell; have d_g1 := fun o o2 => ((g1.alloc o).alloc o2).cell; have e_g1 := fun o => (g1.alloc o).free; try clear c_g3 f_g3 a_g3 d_g3 e_g3
        replace g3 := g3.below b; have c_g3 := g3.cell; have f_g3 := g3.free; have a_g3 := fun o => (g3.alloc o).cell; have d_g3 := fun o o2 => ((g3.alloc o).alloc o2).cell; have e_g3 := fun o => (g3.alloc o).free; replace rz := rz.below b; replace p2 := p2.below b; replace B := B.trans (b.mono B.size); clear b
        have r3 := o3.rd
        clear o3 p2
        go_wp2_with fail
        refine (Same_r z2 z1 l' l' true (by simp [L02.same]) _ r3 rz).mono ?_
        rintro e wa11 ⟨rfl, b⟩
        try clear c_g1 f_g1 a_g1 d_g1 e_g1
        replace g1 := g1.below b; have c_g1 := g1.cell; have f_g1 := g1.free; have a_g1 := fun o => (g1.alloc o).cell; have d_g1 := fun o o2 => ((g1.alloc o).alloc o2).cell; have e_g1 := fun o => (g1.alloc o).free; try clear c_g3 f_g3 a_g3 d_g3 e_g3
        replace g3 := g3.below b; have c_g3 := g3.cell; have f_g3 := g3.free; have a_g3 := fun o => (g3.alloc o).cell; have d_g3 := fun o o2 => ((g3.alloc o).alloc o2).cell; have e_g3 := fun o => (g3.alloc o).free; replace rz := rz.below b; replace r3 := r3.below b; replace B := B.trans (b.mono B.size); clear b
        go_wp2_with fail
        refine (T6.out _ _ rz).mono ?_
        rintro e wa12 ⟨y3, rfl, o4, b⟩
        try clear c_g1 f_g1 a_g1 d_g1 e_g1
        replace g1 := g1.below b; have c_g1 := g1.cell; have f_g1 := g1.free; have a_g1 := fun o => (g1.alloc o).cell; have d_g1 := fun o o2 => ((g1.alloc o).alloc o2).cell; have e_g1 := fun o => (g1.alloc o).free; try clear c_g3 f_g3 a_g3 d_g3 e_g3
        replace g3 := g3.below b; have c_g3 := g3.cell; have f_g3 := g3.free; have a_g3 := fun o => (g3.alloc o).cell; have d_g3 := fun o o2 => ((g3.alloc o).alloc o2).cell; have e_g3 := fun o => (g3.alloc o).free; replace rz := rz.below b; replace r3 := r3.below b; replace B := B.trans (b.mono B.size); clear b
        have p4 := o4.rd
        clear o4 r3
        clear c_g1 f_g1 a_g1 d_g1 e_g1
        clear g1
        go_upto_region 16 with (fail)
        have hz := B.size
        clear c_g3 f_g3 a_g3 d_g3 e_g3
        have c_1 := fun x : Fut wa12 => (g3.below x.h).cell
        refine wp_region_f2 10 2 5 (fun _ => True) (fun v => v = .tuple #[.int .u64 x7.toNat, .int .i64 r7]) (fun v W => Words W v l3) (fun v W => True) (by decide) ⟨undef, trivial⟩ ⟨_, rfl⟩ (fun v W W' h b => h.below b) (fun v W W' h b => trivial) (by kernel_rfl) (by kernel_rfl) (by kernel_rfl) ?_
        intro gg _ hv1
        simp only [List.take_succ_cons, List.take_zero, List.drop_succ_cons, List.drop_zero]
        iterate 2 (refine wpH_read0 rfl rfl ?_; go_big_quiet_step (fail); refine wpQuiet_nil ?_)
        refine wpH_new rfl rfl (TS.call (av := #[z1, y3]) (by simp [Act.eval]) (fun W => enter_made22 _ _ W) ?_) ?_
        · intro W hW _
          refine (M3.out _ _ W (rz.below hW) (Rd.below p4 hW)).mono ?_
          rintro e W' ⟨xx, rfl, o, bb⟩
          exact ⟨_, rfl, ⟨fun _ => trivial, fun e => (by cases e)⟩, bb, fun g' hg' _ => ⟨fun _ => by rw [hg']; exact o.rd, fun e => (by cases e)⟩⟩
        simp only [Act.put, List.setIfInBounds_toArray, List.set_cons_zero, List.set_cons_succ]
        iterate 2 (refine wpH_read0 rfl rfl ?_; go_big_quiet_step (fail); refine wpQuiet_nil ?_)
        refine wpH_new rfl rfl (TS.call (av := #[gg 2, .agg #[.int .i64 s4, .int .i64 g4], .int .i64 ot]) (by simp [Act.eval]) (fun W => enter_get24 _ _ _ W) ?_) ?_
        · intro W hW hd
          have o0 := (hd 2 (by simp [dep2])).1 rfl
          refine (T8.out _ W o0).mono ?_
          rintro e W' ⟨rfl, bb⟩
          exact ⟨_, rfl, ⟨fun e => (by cases e), fun _ => rfl⟩, bb, fun g' hg' _ => ⟨fun e => (by cases e), fun _ => trivial⟩⟩
        rw [hv1]
        simp only [Act.put, List.setIfInBounds_toArray, List.set_cons_zero, List.set_cons_succ]
        iterate 4 (refine wpH_read0 rfl rfl ?_; go_big_quiet_step (fail); refine wpQuiet_nil ?_)
        refine wpH_nil ?_
        intro W1 bW _ _
        have p5 := Rd.below p4 bW
        replace B := B.trans (bW.mono hz)
        clear c_1 g3 rz p4 bW
        rcases hend with n6 | ⟨rfl, rfl, ⟨y6, rfl⟩, o1, o2, hv⟩
        · clear p5
          go_wp2
          go_ret
          exact ⟨rfl, B⟩
        · obtain ⟨le1, bb, oo, ie, me0, me1⟩ := Ents.at0 p5
          have wt1 : IntKind.i64.wrap ((x2.toNat : Int) + 2) = (x2.toNat : Int) + 2 := IntWalk.i64_in _ (by omega)
          have wt2 : IntKind.i64.wrap ((x2.toNat : Int) + 2 + ot) = (x2.toNat : Int) + 2 + ot := IntWalk.i64_in _ (by omega)
          clear me1 p5 o1 o2
          rcases hv with hv | ⟨hv, hv2⟩
          · go_wp2
            go_ret
            exact ⟨rfl, B⟩
          · go_wp2
            go_ret
            exact ⟨rfl, B⟩
end Go.Proofs.Ytiiilaojllmmiaa
