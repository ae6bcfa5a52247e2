/- Contracts of the functions that the laws 'R' reach, part 24. No condition. -/
import Derived.Test.YtmbokdnndlnjkaaGreatMRw
set_option linter.unusedVariables false
set_option linter.unusedSimpArgs false
namespace Go.Proofs.YtmbokdnndlnjkaaGreat
open Go.RowKit L01 L02 L05 L06 L07 L13 L14 L15 L16 L18 L19 L20
theorem enter_of14 (a : Value) (W : World) : (callFunc 64 (#[] ++ #[a] ++ #[])).run Tryz.prog W = .ok (.enter 64 #[a]) W := by
  kernel_rfl
theorem mod_forms {w : World} {tv ov sv : Value} {m : Mo} (h : Mod w tv ov sv m) : (∃ A n c, tv = .slice A n c) ∧ (∃ A n c, ov = .slice A n c) ∧ ∃ A n c, sv = .slice A n c := by
  obtain ⟨⟨_, _, ⟨A, c, e, _⟩, _⟩, ⟨_, _, ⟨A', c', e', _⟩, _⟩, ⟨A'', c'', e'', _⟩⟩ := h
  exact ⟨⟨A, _, c, e⟩, ⟨A', _, c', e'⟩, ⟨A'', _, c'', e''⟩⟩
theorem bx_ents {w : World} {base p : Nat} {a b : Int} {x y : UInt64} (h : Bx w p 120 #[.int .i64 a, .int .u64 x.toNat, .int .i64 b, .int .u64 y.toNat]) (hb : base ≤ p) : OwnE w base (.slice (some ⟨p, 0, none⟩) 2 2) [(a, x), (b, y)] :=
  ⟨rfl, .inr ⟨p, 2, #[.int .i64 a, .int .u64 x.toNat, .int .i64 b, .int .u64 y.toNat], rfl, hb, h, Nat.le_refl _, by decide, rfl, rfl⟩⟩
set_option maxRecDepth 100000 in
set_option maxHeartbeats 4000000 in
theorem BusyR23_any (v : Value) (l : List UInt64) (sl g : Int) (b : Bool) (r : Int) (hb : b = biE l sl g) (hr : r = askI l sl g) (w : World) (h : Words w v l) :
    Calls Tryz.prog 19 #[v, .agg #[.int .i64 sl, .int .i64 g]] w fun e w' => e = .returned (.tuple #[.bool b, .int .i64 r]) ∧ Below w.heap.size w w' := by
  have B : Below w.heap.size w w := Below.refl _ _
  have H := Lib.hid h
  obtain ⟨p, hp⟩ : ∃ c, c = atI l sl g := ⟨_, rfl⟩
  have OT := Lib.hid (fun w h => AskedR_any v l sl g p r hp hr w h)
  by_cases h0 : r = 0
  case neg =>
    obtain rfl : b = false := by rw [hb, biE, decide_eq_false (by rw [← hr]; exact h0), Bool.false_and]
    have n1 : (r != 0) = true := by rw [bne_iff_ne]; exact h0
    clear hb hr h hp h0
    go_enter Tryz.func19, Tryz.ntmps19
    go_upto_region 1 with (fail)
    refine wp_gen (fun Wv => Bx Wv (w.heap.size) (39) (#[.int .i64 sl, .int .i64 g]) ∧ Below w.heap.size w Wv) ⟨((Bx.at_ (by simp))), ((Below.refl _ w).alloc (by simp <;> omega) _)⟩ ?_
    rintro wa1 ⟨g1, b⟩
    replace B := B.trans (b.mono B.size); clear b
    have c_g1 := g1.cell; have f_g1 := g1.free; have a_g1 := fun o => (g1.alloc o).cell; have d_g1 := fun o o2 => ((g1.alloc o).alloc o2).cell; have e_g1 := fun o => (g1.alloc o).free
    go_wp2_with fail
    refine (OT.out _ (H.out.below B)).mono ?_
    rintro e wa2 ⟨rfl, b⟩
    try clear c_g1 f_g1 a_g1 d_g1 e_g1
    replace g1 := g1.below b; have c_g1 := g1.cell; have f_g1 := g1.free; have a_g1 := fun o => (g1.alloc o).cell; have d_g1 := fun o o2 => ((g1.alloc o).alloc o2).cell; have e_g1 := fun o => (g1.alloc o).free; replace B := B.trans (b.mono B.size); clear b
    go_wp2
    go_ret2
    exact ⟨rfl, B⟩
  case pos =>
    subst h0
    obtain ⟨k, a, nn, q0, bk, t0, rfl, hh⟩ := Hd.of hr.symm
    have rt := hh.rt
    have hask : asked (L19.seen l) k g = 0 := by rw [asked_seen rt]; exact hr.symm
    obtain ⟨c0, _, k2, s, n', o, t, hk2, hk16, hs, hu, hg, hso, hat, hown, _⟩ := asked_ok hask
    obtain rfl : k2 = k := by omega
    have hnn : n' = nn := by rw [← hown]; exact hh.own
    have hn9 := hh.hnn
    have hb2 : b = decide (Busy (L19.seen l) k2 n') := by rw [hb, biE, decide_eq_true hr.symm, Bool.true_and, hown]
    have SR := Lib.hid (fun w h => SeenR_any v l rt w h)
    have BB := Lib.hid (fun t o s w h => Busy_any t o s (L19.seen l) k2 n' b hb2 c0 (by omega) w h)
    have HS := Lib.hid hs; have HAT := Lib.hid hat
    have H16 := Lib.hid (chk_ok c0).2.2.1
    clear hb hr h hp hh rt hask c0 hk2 hs hu hg hso hat hown hnn hb2
    go_enter Tryz.func19, Tryz.ntmps19
    go_upto_region 1 with (fail)
    refine wp_gen (fun Wv => Bx Wv (w.heap.size) (39) (#[.int .i64 k2, .int .i64 g]) ∧ Below w.heap.size w Wv) ⟨((Bx.at_ (by simp))), ((Below.refl _ w).alloc (by simp <;> omega) _)⟩ ?_
    rintro wa1 ⟨g1, b⟩
    replace B := B.trans (b.mono B.size); clear b
    have c_g1 := g1.cell; have f_g1 := g1.free; have a_g1 := fun o => (g1.alloc o).cell; have d_g1 := fun o o2 => ((g1.alloc o).alloc o2).cell; have e_g1 := fun o => (g1.alloc o).free
    go_wp2_with fail
    refine (OT.out _ (H.out.below B)).mono ?_
    rintro e wa2 ⟨rfl, b⟩
    try clear c_g1 f_g1 a_g1 d_g1 e_g1
    replace g1 := g1.below b; have c_g1 := g1.cell; have f_g1 := g1.free; have a_g1 := fun o => (g1.alloc o).cell; have d_g1 := fun o o2 => ((g1.alloc o).alloc o2).cell; have e_g1 := fun o => (g1.alloc o).free; replace B := B.trans (b.mono B.size); clear b
    go_wp2_with fail
    refine (SR.out _ (H.out.below B)).mono ?_
    rintro e wa3 ⟨tm, om, sm, rfl, mm, b⟩
    try clear c_g1 f_g1 a_g1 d_g1 e_g1
    replace g1 := g1.below b; have c_g1 := g1.cell; have f_g1 := g1.free; have a_g1 := fun o => (g1.alloc o).cell; have d_g1 := fun o o2 => ((g1.alloc o).alloc o2).cell; have e_g1 := fun o => (g1.alloc o).free; replace B := B.trans (b.mono B.size); clear b
    have rm := mm.rd
    obtain ⟨⟨tA, tn, tc, rfl⟩, ⟨oA, on, oc, rfl⟩, ⟨sA, sn, sc, rfl⟩⟩ := mod_forms mm.rd
    clear mm
    go_upto_region 5 with (fail)
    refine wp_gen (fun Wv => Bx Wv (wa3.heap.size) (31) (#[.slice tA tn tc, .slice oA on oc, .slice sA sn sc]) ∧ Below wa3.heap.size wa3 Wv) ⟨((Bx.at_ (by simp))), ((Below.refl _ wa3).alloc (by simp <;> omega) _)⟩ ?_
    rintro wa4 ⟨g2, b⟩
    try clear c_g1 f_g1 a_g1 d_g1 e_g1
    replace g1 := g1.below b; have c_g1 := g1.cell; have f_g1 := g1.free; have a_g1 := fun o => (g1.alloc o).cell; have d_g1 := fun o o2 => ((g1.alloc o).alloc o2).cell; have e_g1 := fun o => (g1.alloc o).free; replace rm := rm.below b; replace B := B.trans (b.mono B.size); clear b
    have c_g2 := g2.cell; have f_g2 := g2.free; have a_g2 := fun o => (g2.alloc o).cell; have d_g2 := fun o o2 => ((g2.alloc o).alloc o2).cell; have e_g2 := fun o => (g2.alloc o).free
    obtain ⟨bs, qs, s2, is, k0, k1, m2, hs2⟩ := rm.s.at_ (P := Tryz.prog) Tryz.underlying29 size_slot (k := k2) (by rw [H16.out]; exact hk16)
    obtain rfl : s2 = s := by have := hs2.out; rw [HS.out] at this; injection this with e; exact e.symm
    rw [HAT.out] at m2
    clear k0 k1 hs2
    have HM := Lib.hid (fun x : Fut wa4 => rm.below x.h)
    refine wp_region_calm (by kernel_rfl) (by kernel_rfl) ?_
    try clear c_g1 f_g1 a_g1 d_g1 e_g1
    have c_g1 := fun x : Fut _ => (g1.below x.h).cell
    try clear c_g2 f_g2 a_g2 d_g2 e_g2
    have c_g2 := fun x : Fut _ => (g2.below x.h).cell
    have c_m2 := fun x : Fut _ => cell_later x.h m2
    repeat (go_big_quiet_step (exact Fut.call (BB.out _ _ _ _ (HM.out _))))
    refine wpQuiet_nil ?_
    intro _ hw'
    obtain ⟨xq, hw''⟩ := hw'
    subst hw''
    clear c_g1; replace g1 := g1.below xq.h; have c_g1 := g1.cell; have f_g1 := g1.free; have a_g1 := fun o => (g1.alloc o).cell; have d_g1 := fun o o2 => ((g1.alloc o).alloc o2).cell; have e_g1 := fun o => (g1.alloc o).free
    clear c_g2; replace g2 := g2.below xq.h; have c_g2 := g2.cell; have f_g2 := g2.free; have a_g2 := fun o => (g2.alloc o).cell; have d_g2 := fun o o2 => ((g2.alloc o).alloc o2).cell; have e_g2 := fun o => (g2.alloc o).free
    clear c_m2; replace m2 := cell_later xq.h m2
    replace B := B.trans (xq.h.mono B.size)
    clear m2 is HM rm
    go_wp2
    go_ret2
    exact ⟨rfl, B⟩
theorem all_idx_at {l : List UInt64} (h : allErr l = 0) {i : Nat} {b : Hb} (hi : (allL l)[i]? = some b) : idxI (allL l) b.at_ = i := by
  unfold idxI
  cases hx : idx (allL l) b.at_ with
  | none => exact absurd ⟨b, List.mem_of_getElem? hi, rfl⟩ (idx_none.1 hx)
  | some j =>
    obtain ⟨c, hc, he⟩ := idx_some hx
    have h1 := all_size h (List.mem_of_getElem? hi)
    have h2 := all_size h (List.mem_of_getElem? hc)
    have e : c = b := by
      rcases all_apart h (List.mem_of_getElem? hc) (List.mem_of_getElem? hi) with e | e | e
      · exact e
      · omega
      · omega
    subst e
    show (j : Int) = i
    rw [all_idx h hc hi]
set_option maxRecDepth 100000 in
set_option maxHeartbeats 4000000 in
theorem FreeR23_any (v : Value) (l : List UInt64) (sl g : Int) (E : List (Int × UInt64)) (r : Int) (hx : E = fiL l sl g) (hr : r = fiE l sl g) (w : World) (h : Words w v l) :
    Calls Tryz.prog 17 #[v, .agg #[.int .i64 sl, .int .i64 g]] w fun e w' => ∃ y, e = .returned (.tuple #[y, .int .i64 r]) ∧ OwnE w' w.heap.size y E ∧ Below w.heap.size w w' := by
  have B : Below w.heap.size w w := Below.refl _ _
  have H := Lib.hid h
  obtain ⟨p, hp⟩ : ∃ c, c = atI l sl g := ⟨_, rfl⟩
  obtain ⟨d, hd⟩ : ∃ c, c = askI l sl g := ⟨_, rfl⟩
  obtain ⟨bb, hbb⟩ : ∃ c, c = biE l sl g := ⟨_, rfl⟩
  have OT := Lib.hid (fun w h => AskedR_any v l sl g p d hp hd w h)
  have BT := Lib.hid (fun w h => BusyR23_any v l sl g bb d hbb hd w h)
  by_cases h0 : d = 0
  case neg =>
    have hrd : r = d := by rw [hr, fiE, if_neg (by rw [← hd]; exact h0), hd]
    obtain rfl : E = [] := by rw [hx, fiL, if_neg (by rw [← hr, hrd]; exact h0)]
    subst hrd
    have n1 : (r != 0) = true := by rw [bne_iff_ne]; exact h0
    clear hx hr h hp hd hbb h0 BT
    go_enter Tryz.func17, Tryz.ntmps17
    go_upto_region 1 with (fail)
    refine wp_gen (fun Wv => Bx Wv (w.heap.size) (39) (#[.int .i64 sl, .int .i64 g]) ∧ Below w.heap.size w Wv) ⟨((Bx.at_ (by simp))), ((Below.refl _ w).alloc (by simp <;> omega) _)⟩ ?_
    rintro wa1 ⟨g1, b⟩
    replace B := B.trans (b.mono B.size); clear b
    have c_g1 := g1.cell; have f_g1 := g1.free; have a_g1 := fun o => (g1.alloc o).cell; have d_g1 := fun o o2 => ((g1.alloc o).alloc o2).cell; have e_g1 := fun o => (g1.alloc o).free
    go_wp2_with fail
    refine (OT.out _ (H.out.below B)).mono ?_
    rintro e wa2 ⟨rfl, b⟩
    try clear c_g1 f_g1 a_g1 d_g1 e_g1
    replace g1 := g1.below b; have c_g1 := g1.cell; have f_g1 := g1.free; have a_g1 := fun o => (g1.alloc o).cell; have d_g1 := fun o o2 => ((g1.alloc o).alloc o2).cell; have e_g1 := fun o => (g1.alloc o).free; replace B := B.trans (b.mono B.size); clear b
    go_wp2
    go_ret2
    exact ⟨_, rfl, OwnE.nil _ _, B⟩
  case pos =>
    subst h0
    obtain ⟨k, a, nn, q0, bk, t0, rfl, hh⟩ := Hd.of hd.symm
    obtain rfl : p = (a : Int) := by rw [hp]; exact hh.hati
    cases bb
    case true =>
      have hB : Busy (L19.seen l) k (L20.own (L19.seen l) k) := by
        have := hbb
        rw [biE, decide_eq_true hd.symm, Bool.true_and] at this
        exact of_decide_eq_true this.symm
      have hrd : r = 45 := by rw [hr, fiE, if_pos hd.symm, if_pos hB]
      obtain rfl : E = [] := by rw [hx, fiL, if_neg (by rw [← hr, hrd]; decide)]
      subst hrd
      clear hx hr h hp hd hbb hB hh
      go_enter Tryz.func17, Tryz.ntmps17
      go_upto_region 1 with (fail)
      refine wp_gen (fun Wv => Bx Wv (w.heap.size) (39) (#[.int .i64 k, .int .i64 g]) ∧ Below w.heap.size w Wv) ⟨((Bx.at_ (by simp))), ((Below.refl _ w).alloc (by simp <;> omega) _)⟩ ?_
      rintro wa1 ⟨g1, b⟩
      replace B := B.trans (b.mono B.size); clear b
      have c_g1 := g1.cell; have f_g1 := g1.free; have a_g1 := fun o => (g1.alloc o).cell; have d_g1 := fun o o2 => ((g1.alloc o).alloc o2).cell; have e_g1 := fun o => (g1.alloc o).free
      go_wp2_with fail
      refine (OT.out _ (H.out.below B)).mono ?_
      rintro e wa2 ⟨rfl, b⟩
      try clear c_g1 f_g1 a_g1 d_g1 e_g1
      replace g1 := g1.below b; have c_g1 := g1.cell; have f_g1 := g1.free; have a_g1 := fun o => (g1.alloc o).cell; have d_g1 := fun o o2 => ((g1.alloc o).alloc o2).cell; have e_g1 := fun o => (g1.alloc o).free; replace B := B.trans (b.mono B.size); clear b
      go_wp2_with fail
      refine (BT.out _ (H.out.below B)).mono ?_
      rintro e wa3 ⟨rfl, b⟩
      try clear c_g1 f_g1 a_g1 d_g1 e_g1
      replace g1 := g1.below b; have c_g1 := g1.cell; have f_g1 := g1.free; have a_g1 := fun o => (g1.alloc o).cell; have d_g1 := fun o o2 => ((g1.alloc o).alloc o2).cell; have e_g1 := fun o => (g1.alloc o).free; replace B := B.trans (b.mono B.size); clear b
      go_wp2
      go_ret2
      exact ⟨_, rfl, OwnE.nil _ _, B⟩
    case false =>
      have hB : ¬ Busy (L19.seen l) k (L20.own (L19.seen l) k) := by
        have := hbb
        rw [biE, decide_eq_true hd.symm, Bool.true_and] at this
        exact of_decide_eq_false this.symm
      have hrd : r = 0 := by rw [hr, fiE, if_pos hd.symm, if_neg hB]
      have rt := hh.rt
      obtain ⟨i, m, p, f1, f2, f3, f4, f5, f6, f7, f8, _⟩ := hh.free (by rw [← hr]; exact hrd)
      have hg := hh.res_drop
      obtain ⟨ev, hev⟩ : ∃ c, c = pk ⟨g, false, 0⟩ := ⟨_, rfl⟩
      obtain ⟨mv, hmv⟩ : ∃ c, c = L14.word m := ⟨_, rfl⟩
      obtain ⟨L, hL⟩ : ∃ L, L = allL l := ⟨_, rfl⟩
      have hab : a ≤ 100000 := by have := hh.ha2; omega
      have hua : (UInt64.ofNat a).toNat = a := UInt64.toNat_ofNat_of_lt' (by unfold UInt64.size; omega)
      have hL9 : L.length ≤ 960 := by rw [hL]; exact all_len rt.al
      have hbd : ∀ c ∈ L, (0 ≤ c.at_ ∧ c.at_ ≤ 1000000) ∧ 0 ≤ c.size ∧ c.size ≤ 100000 := fun c hc => by
        rw [hL] at hc
        obtain ⟨x, x1, x2, x3, x4, x5⟩ := all_mem rt.al hc
        have e1 : c.at_ = x := by rw [x4]; rfl
        have e2 : c.size = szN l x := by rw [x4]; exact stand_size x3
        have := rt.sz.2.1
        have hz := szN_ge x3
        omega
      have hidx : (i : Int) = idxI L (UInt64.ofNat a).toNat := by
        rw [hua, hL, ← hh.hat]
        exact (all_idx_at rt.al f1).symm
      have DT := Lib.hid (fun w h => DropR18_any v l k g ((112 + k : Nat) : Int) ev 0 (by rw [hg.1]) (by rw [hg.2, hev]) hh.hr.symm w h)
      have PT := Lib.hid (fun w h => ParsedR_any v l rt.sz L true hL (by rw [decide_eq_true rt.al]) w h)
      have II := Lib.hid (fun v w h => idxR_any v L (UInt64.ofNat a) i hidx (fun c hc => (hbd c hc).1) (by omega) w h)
      rw [hua] at II
      have BC := Lib.hid (fun v w h => BecomesR_any v L i m (by rw [hL]; exact f2) (by rw [hL]; exact (List.getElem?_eq_some_iff.1 f1).1) (by omega) (fun c hc => (hbd c hc).2) w h)
      have WT := Lib.hid (fun w => OfHR_any m f6 mv hmv w)
      have wc : IntKind.u64.wrap (a : Int) = (a : Int) := by show (a : Int) % 18446744073709551616 = _; omega
      rw [f8, ← hev, ← hmv] at hx
      subst hx; subst hrd
      obtain ⟨mat, msz, mk, mty, mm, mn⟩ := m
      dsimp only at f4 WT BC
      subst f4
      clear hr h hp hd hbb hB hh f1 f2 f3 f5 f6 f7 f8 hg hev hmv rt hua hL9 hbd hidx hL
      go_enter Tryz.func17, Tryz.ntmps17
      go_upto_region 1 with (fail)
      refine wp_gen (fun Wv => Bx Wv (w.heap.size) (39) (#[.int .i64 k, .int .i64 g]) ∧ Below w.heap.size w Wv) ⟨((Bx.at_ (by simp))), ((Below.refl _ w).alloc (by simp <;> omega) _)⟩ ?_
      rintro wa1 ⟨g1, b⟩
      replace B := B.trans (b.mono B.size); clear b
      have c_g1 := g1.cell; have f_g1 := g1.free; have a_g1 := fun o => (g1.alloc o).cell; have d_g1 := fun o o2 => ((g1.alloc o).alloc o2).cell; have e_g1 := fun o => (g1.alloc o).free
      go_wp2_with fail
      refine (OT.out _ (H.out.below B)).mono ?_
      rintro e wa2 ⟨rfl, b⟩
      try clear c_g1 f_g1 a_g1 d_g1 e_g1
      replace g1 := g1.below b; have c_g1 := g1.cell; have f_g1 := g1.free; have a_g1 := fun o => (g1.alloc o).cell; have d_g1 := fun o o2 => ((g1.alloc o).alloc o2).cell; have e_g1 := fun o => (g1.alloc o).free; replace B := B.trans (b.mono B.size); clear b
      go_wp2_with fail
      refine (BT.out _ (H.out.below B)).mono ?_
      rintro e wa3 ⟨rfl, b⟩
      try clear c_g1 f_g1 a_g1 d_g1 e_g1
      replace g1 := g1.below b; have c_g1 := g1.cell; have f_g1 := g1.free; have a_g1 := fun o => (g1.alloc o).cell; have d_g1 := fun o o2 => ((g1.alloc o).alloc o2).cell; have e_g1 := fun o => (g1.alloc o).free; replace B := B.trans (b.mono B.size); clear b
      go_wp2_with fail
      refine (DT.out _ (H.out.below B)).mono ?_
      rintro e wa4 ⟨rfl, b⟩
      try clear c_g1 f_g1 a_g1 d_g1 e_g1
      replace g1 := g1.below b; have c_g1 := g1.cell; have f_g1 := g1.free; have a_g1 := fun o => (g1.alloc o).cell; have d_g1 := fun o o2 => ((g1.alloc o).alloc o2).cell; have e_g1 := fun o => (g1.alloc o).free; replace B := B.trans (b.mono B.size); clear b
      clear c_g1 f_g1 a_g1 d_g1 e_g1
      clear g1
      go_upto_region 8 with (fail)
      refine wp_gen (fun Wv => Bx Wv (wa4.heap.size) (120) (#[.int .i64 ((112 + k : Nat) : Int), .int .u64 ev.toNat]) ∧ Below wa4.heap.size wa4 Wv) ⟨((Bx.at_ (by simp))), ((Below.refl _ wa4).alloc (by simp <;> omega) _)⟩ ?_
      rintro wa5 ⟨g2, b⟩
      replace B := B.trans (b.mono B.size); clear b
      have c_g2 := g2.cell; have f_g2 := g2.free; have a_g2 := fun o => (g2.alloc o).cell; have d_g2 := fun o o2 => ((g2.alloc o).alloc o2).cell; have e_g2 := fun o => (g2.alloc o).free
      go_wp2_with fail
      refine (PT.out _ (H.out.below B)).mono ?_
      rintro e wa6 ⟨xl, rfl, ol, b⟩
      try clear c_g2 f_g2 a_g2 d_g2 e_g2
      replace g2 := g2.below b; have c_g2 := g2.cell; have f_g2 := g2.free; have a_g2 := fun o => (g2.alloc o).cell; have d_g2 := fun o o2 => ((g2.alloc o).alloc o2).cell; have e_g2 := fun o => (g2.alloc o).free; replace B := B.trans (b.mono B.size); clear b
      have rl : Blks wa6 xl L := ol.rd
      clear ol
      go_wp2_with fail
      refine (II.out _ _ rl).mono ?_
      rintro e w7 ⟨rfl, rfl⟩
      go_wp2_with fail
      refine (BC.out _ _ rl).mono ?_
      rintro e wa7 ⟨rfl, b⟩
      try clear c_g2 f_g2 a_g2 d_g2 e_g2
      replace g2 := g2.below b; have c_g2 := g2.cell; have f_g2 := g2.free; have a_g2 := fun o => (g2.alloc o).cell; have d_g2 := fun o o2 => ((g2.alloc o).alloc o2).cell; have e_g2 := fun o => (g2.alloc o).free; replace rl := rl.below b; replace B := B.trans (b.mono B.size); clear b
      clear rl
      go_upto_region 10 with (fail)
      refine wp_gen (fun Wv => Bx Wv (wa7.heap.size) (82) (#[.int .i64 p, .int .i64 msz, .int .i64 mk, .int .i64 mty, .bool mm, .int .u64 mn.toNat]) ∧ Below wa7.heap.size wa7 Wv) ⟨((Bx.at_ (by simp))), ((Below.refl _ wa7).alloc (by simp <;> omega) _)⟩ ?_
      rintro wa8 ⟨g3, b⟩
      try clear c_g2 f_g2 a_g2 d_g2 e_g2
      replace g2 := g2.below b; have c_g2 := g2.cell; have f_g2 := g2.free; have a_g2 := fun o => (g2.alloc o).cell; have d_g2 := fun o o2 => ((g2.alloc o).alloc o2).cell; have e_g2 := fun o => (g2.alloc o).free; replace B := B.trans (b.mono B.size); clear b
      have c_g3 := g3.cell; have f_g3 := g3.free; have a_g3 := fun o => (g3.alloc o).cell; have d_g3 := fun o o2 => ((g3.alloc o).alloc o2).cell; have e_g3 := fun o => (g3.alloc o).free
      have hz := B.size
      have c_2 := fun x : Fut wa8 => (g2.below x.h).cell
      have c_3 := fun x : Fut wa8 => (g3.below x.h).cell
      refine wp_region_f3 7 4 6 (fun v => v = .int .u64 mv.toNat) (fun v => ∃ p, v = .slice (some ⟨p, 0, none⟩) 2 2) (fun _ _ => True) (fun v W => ∃ q, v = .slice (some ⟨q, 0, none⟩) 2 2 ∧ wa8.heap.size ≤ q ∧ Bx W q 120 #[.int .i64 ((112 + k : Nat) : Int), .int .u64 ev.toNat, .int .i64 p, .int .u64 mv.toNat]) (by decide) ⟨_, rfl⟩ ⟨_, 0, rfl⟩ (fun _ _ _ _ _ => trivial) (fun v W W' ⟨q, h1, h2, h3⟩ b => ⟨q, h1, h2, h3.below b⟩) (by kernel_rfl) (by kernel_rfl) (by kernel_rfl) ?_
      intro gg hv0 hv1
      obtain ⟨pq, hy1⟩ := hv1
      simp only [List.take_succ_cons, List.take_zero, List.drop_succ_cons, List.drop_zero]
      iterate 4 (refine wpH_read0 rfl rfl ?_; go_big_quiet_step (fail); refine wpQuiet_nil ?_)
      refine wpH_new rfl rfl (TS.call (av := #[.agg #[.int .i64 p, .int .i64 msz, .int .i64 mk, .int .i64 mty, .bool mm, .int .u64 mn.toNat]]) (by simp [Act.eval]) (fun W => enter_of14 _ W) ?_) ?_
      · intro W hW _
        refine (WT.out W).mono ?_
        rintro e W' ⟨rfl, bb⟩
        exact ⟨_, rfl, ⟨fun _ => rfl, fun e => (by cases e)⟩, bb, fun g' hg' _ => ⟨fun _ => trivial, fun e => (by cases e)⟩⟩
      rw [hv0]
      simp only [Act.put, List.setIfInBounds_toArray, List.set_cons_zero, List.set_cons_succ]
      iterate 1 (refine wpH_read0 rfl rfl ?_; go_big_quiet_step (fail); refine wpQuiet_nil ?_)
      refine wpH_new rfl rfl (TS.val ?_) ?_
      · intro W hW _
        exact ⟨.slice (some ⟨W.heap.size, 0, none⟩) 2 2, W.alloc (.cells #[.int .i64 ((112 + k : Nat) : Int), .int .u64 ev.toNat, .int .i64 p, .int .u64 mv.toNat] 120), by simp [execOp, go_sem], ⟨fun e => (by cases e), fun _ => ⟨_, rfl⟩⟩, (Below.refl _ _).alloc (Nat.le_refl _) _, fun g' hg' _ => ⟨fun e => (by cases e), fun _ => ⟨_, hg', hW.size, Bx.new _ _ _⟩⟩⟩
      rw [hy1]
      simp only [Act.put, List.setIfInBounds_toArray, List.set_cons_zero, List.set_cons_succ]
      refine wpH_nil ?_
      intro W2 bW _ o1
      obtain ⟨q2, e1, hq2, hbx⟩ := o1
      obtain rfl : pq = q2 := by injection e1 with e1; injection e1 with e1; injection e1
      have HR := Lib.hid (And.intro (bx_ents hbx (Nat.le_trans hz hq2)) (B.trans (bW.mono hz)))
      clear hbx hq2 e1 hy1 hv0 c_2 c_3 g2 g3 c_g2 f_g2 a_g2 d_g2 e_g2 c_g3 f_g3 a_g3 d_g3 e_g3 B bW hz
      go_wp2
      go_ret2
      exact ⟨_, rfl, HR.out⟩
end Go.Proofs.YtmbokdnndlnjkaaGreat
namespace Go.Proofs.YtmbokdnndlnjkaaGreat
open Go.RowKit L01 L02 L05 L06 L07 L13 L14 L15 L16 L18 L19
set_option maxRecDepth 100000 in
set_option maxHeartbeats 1000000 in
theorem FreeR16_any (v : Value) (l : List UInt64) (hs : SizeOk l.length) (F : List Hb) (r : Bool) (hF : F = freeL l) (hr : r = decide (allErr l = 0)) (w : World) (h : Words w v l) :
    Calls Tryz.prog 78 #[v] w fun e w' => ∃ x, e = .returned (.tuple #[x, .bool r]) ∧ OwnK w' w.heap.size x F ∧ Below w.heap.size w w' := by
  have B : Below w.heap.size w w := Below.refl _ _
  obtain ⟨L, hL⟩ : ∃ L, L = allL l := ⟨_, rfl⟩
  have PT := Lib.hid (fun w h => ParsedR_any v l hs L r hL hr w h)
  have HF := Lib.hid (show F = free L by rw [hF, hL]; rfl)
  obtain ⟨N, hN⟩ : ∃ N, N = L.length := ⟨_, rfl⟩
  have hN9 : N ≤ 1000000 := by
    rw [hN, hL]
    by_cases h0 : allErr l = 0
    · exact Nat.le_trans (all_len h0) (by decide)
    · rw [allL, if_neg h0]; simp
  have H := Lib.hid h; have HN := Lib.hid hN
  clear h hs hF hr hL hN
  go_enter Tryz.func78, Tryz.ntmps78
  go_wp2_with fail
  refine (PT.out _ (H.out.below B)).mono ?_
  rintro e wa1 ⟨xl, rfl, ol, b⟩
  replace B := B.trans (b.mono B.size); clear b
  have lx := ol.rd.len
  rw [← HN.out] at lx
  have HL := Lib.hid ol.rd
  have hB1 := B.size
  have HB := Lib.hid B
  have HBB := Lib.hid (And.intro (OwnK.nil wa1 wa1.heap.size) (Below.refl wa1.heap.size wa1))
  clear ol B
  go_wp2
  go_loopg [6, 7] N (fun g xv i wr => ∃ j : Nat, j ≤ N ∧ g = N - j ∧ i = .int .i64 j ∧ Hid (OwnK wr wa1.heap.size xv (free (L.take j)) ∧ Below wa1.heap.size wa1 wr))
  case atStart => exact ⟨0, by omega, by omega, rfl, by rw [List.take_zero]; exact HBB⟩
  case round =>
    obtain ⟨j, hj, rfl, rfl, hh⟩ := hrel
    clear HBB
    have o1 := hh.out.1
    have B2 := hh.out.2
    have B := HB.out.trans (B2.mono hB1)
    by_cases hlt : j < N
    · have hB0 := B.size
      have hB9 := B2.size
      obtain ⟨bb, oo, b, ia, m0, m1, m2, m3, m4, m5, hb, _⟩ := (Blks.below HL.out B2).at_ (k := j) (by rw [← HN.out]; exact hlt)
      have htk : L.take (j + 1) = L.take j ++ [b] := by rw [List.take_add_one, hb.out]; rfl
      have hsn := free_snoc (L := L.take j) (b := b)
      rw [← htk] at hsn
      by_cases hk : b.kind = 2
      · rw [if_pos hk] at hsn
        have k1 : (b.kind == 2) = true := by rw [beq_iff_eq]; exact hk
        have HS := Lib.hid hsn
        have hol : (free (L.take j)).length ≤ j := Nat.le_trans (List.length_filter_le _ _) (by rw [List.length_take]; omega)
        clear hsn htk hk
        have hne := own_fresh o1
        go_wp2_with (at_builtin; refine wpList_append (by rfl) rfl rfl rfl Tryz.underlying77 info_block rfl (by omega) (by exact own_below o1 ((Below.refl _ _).alloc (Nat.le_refl _) _)) (by exact lit_block b (by simp)) (bkL_one b) (by omega) (by omega) (by exact B2.alloc B2.size _) (Nat.le_refl _) ?_; intro v1 w3 o3 B3 g3)
        have o4 : OwnK w3 wa1.heap.size v1 (free (L.take (j + 1))) := by rw [HS.out]; exact OwnK.of o3 (tabB_snoc _ b)
        have HZ := Lib.hid (And.intro o4 B3)
        go_roundg (N - (j + 1))
        case measure => omega
        case rel => exact ⟨j + 1, by omega, rfl, by go_num, HZ⟩
      · rw [if_neg hk, List.append_nil] at hsn
        have k1 : (b.kind == 2) = false := by rw [beq_eq_false_iff_ne]; exact hk
        have HZ := hh
        rw [← hsn] at HZ
        clear hsn htk hk
        go_wp2
        go_roundg (N - (j + 1))
        case measure => omega
        case rel => exact ⟨j + 1, by omega, rfl, by go_num, HZ⟩
    · obtain rfl : j = N := by omega
      have e : free (L.take j) = F := by rw [HF.out, HN.out, List.take_length]
      rw [e] at o1
      clear e
      go_wp2
      go_ret2
      exact ⟨_, rfl, own_mono o1 hB1, B⟩
end Go.Proofs.YtmbokdnndlnjkaaGreat
namespace Go.Proofs.YtmbokdnndlnjkaaGreat.L19
open L02 L07 L13 L14 L15 L16 L18 L20
theorem bl_one : Lib.bitLen 1 = 1 := by decide
theorem bl_two {n : Nat} (h : 2 ≤ n) (h2 : n ≤ 1920) : 2 ≤ Lib.bitLen n ∧ Lib.bitLen n ≤ 11 := by
  have h1 := Lib.bitLen_half n (by omega) (by omega)
  have h3 := Lib.bitLen_half (n / 2) (by omega) (by omega)
  have h4 := Lib.bitLen_le n 11 (by omega) (by omega)
  omega
theorem takesF_keep {n : Int} : ∀ {L : List Hb} {c : Hb}, (∀ d ∈ L, n ≤ d.size → bl c ≤ bl d) → takesF n L (some c) = some c
  | [], c, h => rfl
  | d :: L, c, h => by
    have hb : betterB n d (some c) = false := by
      unfold betterB
      by_cases hn : n ≤ d.size
      · have := h d List.mem_cons_self hn
        rw [decide_eq_true hn, Bool.true_and]
        exact decide_eq_false (by omega)
      · rw [decide_eq_false hn, Bool.false_and]
    rw [takesF, if_neg (by rw [hb]; simp)]
    exact takesF_keep (fun e he => h e (List.mem_cons_of_mem _ he))
theorem takesF_first {n : Int} {c : Hb} (hc : n ≤ c.size) : ∀ {L : List Hb} {i : Nat} {o : Option Hb}, L[i]? = some c → (∀ d, o = some d → bl c < bl d) → (∀ d ∈ L, n ≤ d.size → bl c ≤ bl d) → (∀ (j : Nat) d, j < i → L[j]? = some d → n ≤ d.size → bl c < bl d) → takesF n L o = some c
  | [], i, o, hi, _, _, _ => by cases hi
  | d :: L, 0, o, hi, ho, hm, _ => by
    simp at hi
    subst hi
    have hb : betterB n d o = true := by
      unfold betterB
      rw [decide_eq_true hc, Bool.true_and]
      cases o with
      | none => rfl
      | some x => exact decide_eq_true (ho x rfl)
    rw [takesF, if_pos hb]
    exact takesF_keep (fun e he => hm e (List.mem_cons_of_mem _ he))
  | d :: L, i + 1, o, hi, ho, hm, hj => by
    rw [takesF]
    refine takesF_first hc (i := i) (by simpa using hi) ?_ (fun e he => hm e (List.mem_cons_of_mem _ he)) (fun j e h1 h2 => hj (j + 1) e (by omega) (by simpa using h2))
    intro e he
    split at he
    · rename_i hb
      injection he with he
      subst he
      unfold betterB at hb
      rw [Bool.and_eq_true, decide_eq_true_iff] at hb
      exact hj 0 d (by omega) rfl hb.1
    · exact ho e he
theorem takesF_no {n : Int} : ∀ {L : List Hb}, (∀ d ∈ L, ¬ n ≤ d.size) → takesF n L none = none
  | [], _ => rfl
  | d :: L, h => by
    have hb : betterB n d none = false := by unfold betterB; rw [decide_eq_false (h d List.mem_cons_self), Bool.false_and]
    rw [takesF, if_neg (by rw [hb]; simp)]
    exact takesF_no (fun e he => h e (List.mem_cons_of_mem _ he))
/-- no extent of a class below k is large enough -/
def NoT (L : List Hb) (n : Int) (k : Nat) : Prop := ∀ d ∈ L, n ≤ d.size → k ≤ bl d - 1
theorem NoT.step {L : List Hb} {n : Int} {k : Nat} (h : NoT L n k) (h2 : ∀ (j : Nat) d, j < L.length → L[j]? = some d → n ≤ d.size → ¬ bl d - 1 = k) : NoT L n (k + 1) := fun d hd hn => by
  obtain ⟨j, hj⟩ := List.getElem?_of_mem hd
  have h3 := h2 j d (List.getElem?_eq_some_iff.1 hj).1 hj hn
  have := h d hd hn
  omega
theorem takes_hit {L : List Hb} {n : Int} {k i : Nat} {c : Hb} (hs : ∀ d ∈ L, 2 ≤ d.size ∧ d.size ≤ 1920) (h : NoT L n k) (hi : L[i]? = some c) (hk : bl c - 1 = k) (hc : n ≤ c.size) (h2 : ∀ (j : Nat) d, j < i → L[j]? = some d → n ≤ d.size → ¬ bl d - 1 = k) : takes L n = some c := by
  have hb : ∀ d ∈ L, 2 ≤ bl d := fun d hd => by have := hs d hd; exact (bl_two (n := d.size.toNat) (by omega) (by omega)).1
  have hcb := hb c (List.mem_of_getElem? hi)
  refine takesF_first hc hi (fun d hd => by cases hd) (fun d hd hn => ?_) (fun j d hj hd hn => ?_)
  · have := h d hd hn; have := hb d hd; omega
  · have h3 := h2 j d hj hd hn
    have h4 := List.mem_of_getElem? hd
    have := h d h4 hn; have := hb d h4; omega
theorem takes_miss {L : List Hb} {n : Int} (hs : ∀ d ∈ L, 2 ≤ d.size ∧ d.size ≤ 1920) (h : NoT L n 11) : takes L n = none := takesF_no fun d hd hn => by
  have h1 := h d hd hn
  have h2 := hs d hd
  have := (bl_two (n := d.size.toNat) (by omega) (by omega)).2
  unfold bl at h1
  omega
end Go.Proofs.YtmbokdnndlnjkaaGreat.L19
namespace Go.Proofs.YtmbokdnndlnjkaaGreat
open Go.RowKit L01 L02 L05 L06 L07 L13 L14 L15 L16 L18 L19
theorem quo2 (m : Nat) (q : Int) (hq : q = ((m / 2 : Nat) : Int)) (hm : m ≤ 4000) (W : World) : (binOp .quo 3 (.int .i64 (m : Int)) (.int .i64 2)).run Tryz.prog W = .ok (.int .i64 q) W := by
  subst hq
  have e : (m : Int).tdiv 2 = ((m / 2 : Nat) : Int) := by rw [Int.tdiv_eq_ediv_of_nonneg (by omega)]; omega
  have e2 : IntKind.i64.wrap ((m / 2 : Nat) : Int) = ((m / 2 : Nat) : Int) := IntWalk.i64_in _ (by omega)
  simp [go_sem, e]
  exact IntWalk.i64_in _ (by omega)
set_option maxRecDepth 100000 in
theorem Of17_any (n : Nat) (hn : 1 ≤ n ∧ n ≤ 4000) (r : Int) (hr : r = (Lib.bitLen n : Int) - 1) (w : World) :
    Calls Tryz.prog 129 #[.int .i64 (n : Int)] w fun e w' => e = .returned (.int .i64 r) ∧ w' = w := by
  have HR := Lib.hid hr
  have HN := Lib.hid hn
  clear hr hn
  go_enter Tryz.func129, Tryz.ntmps129
  go_wp2
  go_loopg [0, 3] n (fun g s k wr => ∃ (m j : Nat), m = g ∧ s = .int .i64 (m : Int) ∧ k = .int .i64 (j : Int) ∧ Hid (1 ≤ m ∧ m ≤ n ∧ j + Lib.bitLen m = Lib.bitLen n) ∧ wr = w)
  case atStart => exact ⟨n, 0, rfl, rfl, rfl, Lib.hid ⟨HN.out.1, Nat.le_refl _, by omega⟩, rfl⟩
  case round =>
    obtain ⟨m, j, rfl, rfl, rfl, hh, rfl⟩ := hrel
    have h1 := hh.out.1; have h2 := hh.out.2.1; have h4 := HN.out.2
    have hbm : Lib.bitLen n ≤ 12 := Lib.bitLen_le n 12 (by omega) (by omega)
    have hj9 : j ≤ 12 := by have := hh.out.2.2; omega
    by_cases hlt : 1 < m
    · have g1 : decide ((1 : Int) < (m : Int)) = true := decide_eq_true (by omega)
      have hb := Lib.bitLen_half m (by omega) (by omega)
      obtain ⟨m2, hm2⟩ : ∃ m2, m2 = m / 2 := ⟨_, rfl⟩
      have q1 := fun W => quo2 m ((m2 : Nat) : Int) (by rw [hm2]) (by omega) W
      have hm3 : 1 ≤ m2 ∧ m2 < m := by omega
      have HZ := Lib.hid (show 1 ≤ m2 ∧ m2 ≤ n ∧ (j + 1) + Lib.bitLen m2 = Lib.bitLen n by have := hh.out.2.2; rw [← hm2] at hb; omega)
      obtain ⟨j2, hj2⟩ : ∃ j2, j2 = j + 1 := ⟨_, rfl⟩
      rw [← hj2] at HZ
      have w1 : IntKind.i64.wrap ((j : Int) + 1) = ((j2 : Nat) : Int) := by rw [show ((j2 : Nat) : Int) = (j : Int) + 1 by omega]; exact IntWalk.i64_in _ (by omega)
      have HM2 := Lib.hid hm2
      clear hm2 hb hj2 hbm
      go_wp2
      go_roundg m2
      case measure => omega
      case rel => exact ⟨m2, j2, rfl, by simp [HM2.out], rfl, HZ, rfl⟩
    · have g1 : decide ((1 : Int) < (m : Int)) = false := decide_eq_false (by omega)
      have e : r = (j : Int) := by
        have h3 := hh.out.2.2
        have : m = 1 := by omega
        rw [this, bl_one] at h3
        rw [HR.out]
        omega
      clear hh h1 h2 hlt hbm hj9
      subst e
      go_wp2
      go_ret
      exact ⟨rfl, rfl⟩
set_option maxRecDepth 100000 in
theorem Rest21_any (p n c : Nat) (b : Hb) (hb : b.at_ = (p : Int)) (hs : b.size = (c : Int)) (hn : n ≤ c) (hp : p ≤ 1000000 ∧ c ≤ 1000000) (w : World) :
    Calls Tryz.prog 82 #[.agg #[.int .i64 b.at_, .int .i64 b.size, .int .i64 b.kind, .int .i64 b.ty, .bool b.mark, .int .u64 b.next.toNat], .int .i64 (n : Int)] w fun e w' => (c = n → e = .returned (.agg #[.int .i64 0, .int .i64 0, .int .i64 0, .int .i64 0, .bool false, .int .u64 0])) ∧ (c ≠ n → e = .returned (.agg #[.int .i64 ((p : Int) + (n : Int)), .int .i64 ((c : Int) - (n : Int)), .int .i64 2, .int .i64 0, .bool false, .int .u64 0])) ∧ Below w.heap.size w w' := by
  have B : Below w.heap.size w w := Below.refl _ _
  obtain ⟨bat, bsz, bk1, bty, bmk, bnx⟩ := b
  dsimp only at hb hs
  subst hb; subst hs
  by_cases he : c = n
  · subst he
    clear hn
    go_enter Tryz.func82, Tryz.ntmps82
    go_upto_region 1 with (fail)
    refine wp_gen (fun Wv => Bx Wv (w.heap.size) (82) (#[.int .i64 p, .int .i64 c, .int .i64 bk1, .int .i64 bty, .bool bmk, .int .u64 bnx.toNat]) ∧ Bx Wv (w.heap.size + 1) (82) (#[.int .i64 0, .int .i64 0, .int .i64 0, .int .i64 0, .bool false, .int .u64 0]) ∧ Below w.heap.size w Wv) ⟨(((Bx.at_ (by simp)).alloc _)), ((Bx.at_ (by simp))), (((Below.refl _ w).alloc (by simp <;> omega) _).alloc (by simp <;> omega) _)⟩ ?_
    rintro wa1 ⟨g1, g2, b⟩
    replace B := B.trans (b.mono B.size); clear b
    have c_g1 := g1.cell; have f_g1 := g1.free; have a_g1 := fun o => (g1.alloc o).cell; have d_g1 := fun o o2 => ((g1.alloc o).alloc o2).cell; have e_g1 := fun o => (g1.alloc o).free
    have c_g2 := g2.cell; have f_g2 := g2.free; have a_g2 := fun o => (g2.alloc o).cell; have d_g2 := fun o o2 => ((g2.alloc o).alloc o2).cell; have e_g2 := fun o => (g2.alloc o).free
    go_wp2
    refine bodyPost_ret (v := .agg #[.int .i64 0, .int .i64 0, .int .i64 0, .int .i64 0, .bool false, .int .u64 0]) (by simp [results, Tryz.results82, go_sem, c_g1, f_g1, a_g1, e_g1, c_g2, f_g2, a_g2, e_g2]) rfl ?_
    refine ⟨fun _ => rfl, fun h => absurd rfl h, ?_⟩
    (repeat (first | refine Below.setCell ?_ (by first | exact Nat.le_refl _ | (simp <;> omega)) _ | refine Below.alloc ?_ (by first | exact B.size | (have := B.size; simp <;> omega)) _)); exact B
  · have g2 : ((c : Int) == (n : Int)) = false := by rw [beq_eq_false_iff_ne]; omega
    have w1 : IntKind.i64.wrap ((p : Int) + (n : Int)) = (p : Int) + (n : Int) := IntWalk.i64_in _ (by omega)
    have w2 : IntKind.i64.wrap ((c : Int) - (n : Int)) = (c : Int) - (n : Int) := IntWalk.i64_in _ (by omega)
    clear hn
    go_enter Tryz.func82, Tryz.ntmps82
    go_upto_region 1 with (fail)
    refine wp_gen (fun Wv => Bx Wv (w.heap.size) (82) (#[.int .i64 p, .int .i64 c, .int .i64 bk1, .int .i64 bty, .bool bmk, .int .u64 bnx.toNat]) ∧ Bx Wv (w.heap.size + 1) (82) (#[.int .i64 0, .int .i64 0, .int .i64 0, .int .i64 0, .bool false, .int .u64 0]) ∧ Below w.heap.size w Wv) ⟨(((Bx.at_ (by simp)).alloc _)), ((Bx.at_ (by simp))), (((Below.refl _ w).alloc (by simp <;> omega) _).alloc (by simp <;> omega) _)⟩ ?_
    rintro wa1 ⟨g1, g2, b⟩
    replace B := B.trans (b.mono B.size); clear b
    have c_g1 := g1.cell; have f_g1 := g1.free; have a_g1 := fun o => (g1.alloc o).cell; have d_g1 := fun o o2 => ((g1.alloc o).alloc o2).cell; have e_g1 := fun o => (g1.alloc o).free
    have c_g2 := g2.cell; have f_g2 := g2.free; have a_g2 := fun o => (g2.alloc o).cell; have d_g2 := fun o o2 => ((g2.alloc o).alloc o2).cell; have e_g2 := fun o => (g2.alloc o).free
    go_wp2
    refine bodyPost_ret (v := .agg #[.int .i64 ((p : Int) + (n : Int)), .int .i64 ((c : Int) - (n : Int)), .int .i64 2, .int .i64 0, .bool false, .int .u64 0]) (by simp [results, Tryz.results82, go_sem, c_g1, f_g1, a_g1, e_g1, c_g2, f_g2, a_g2, e_g2]) rfl ?_
    refine ⟨fun h => absurd h he, fun _ => rfl, ?_⟩
    (repeat (first | refine Below.setCell ?_ (by first | exact Nat.le_refl _ | (simp <;> omega)) _ | refine Below.alloc ?_ (by first | exact B.size | (have := B.size; simp <;> omega)) _)); exact B
/-- the classes that are left: no extent of a class below k is large enough, nor one of class k ahead of place i -/
def Ahd (F : List Hb) (n : Int) (k i : Nat) : Prop := NoT F n k ∧ ∀ (j : Nat) d, j < i → F[j]? = some d → n ≤ d.size → ¬ bl d - 1 = k
set_option maxRecDepth 100000 in
set_option maxHeartbeats 4000000 in
theorem Takes21_any (v : Value) (F : List Hb) (n : Int) (hs : ∀ d ∈ F, 2 ≤ d.size ∧ d.size ≤ 1920) (hl : F.length ≤ 960) (w : World) (h : Blks w v F) :
    Calls Tryz.prog 79 #[v, .int .i64 n] w fun e w' => (∀ b, takes F n = some b → e = .returned (.tuple #[.agg #[.int .i64 b.at_, .int .i64 b.size, .int .i64 b.kind, .int .i64 b.ty, .bool b.mark, .int .u64 b.next.toNat], .bool true])) ∧ (takes F n = none → e = .returned (.tuple #[.agg #[.int .i64 0, .int .i64 0, .int .i64 0, .int .i64 0, .bool false, .int .u64 0], .bool false])) ∧ Below w.heap.size w w' := by
  have B : Below w.heap.size w w := Below.refl _ _
  have H := Lib.hid h
  have HS := Lib.hid hs
  obtain ⟨N, hN⟩ : ∃ N, N = F.length := ⟨_, rfl⟩
  have HN := Lib.hid hN
  have hN9 : N ≤ 960 := by omega
  clear h hs hN hl
  go_enter Tryz.func79, Tryz.ntmps79
  go_upto_region 1 with (fail)
  refine wp_gen (fun Wv => Bx Wv (w.heap.size) (82) (#[.int .i64 0, .int .i64 0, .int .i64 0, .int .i64 0, .bool false, .int .u64 0]) ∧ Below w.heap.size w Wv) ⟨((Bx.at_ (by simp))), ((Below.refl _ w).alloc (by simp <;> omega) _)⟩ ?_
  rintro wa1 ⟨g1, b⟩
  replace B := B.trans (b.mono B.size); clear b
  have c_g1 := g1.cell; have f_g1 := g1.free; have a_g1 := fun o => (g1.alloc o).cell; have d_g1 := fun o o2 => ((g1.alloc o).alloc o2).cell; have e_g1 := fun o => (g1.alloc o).free
  have HF := Lib.hid (H.out.below B)
  have lx := HF.out.len
  rw [← HN.out] at lx
  have HZ := Lib.hid (show Ahd F n 1 0 from ⟨fun d hd hn => by have := (bl_two (n := d.size.toNat) (by have := HS.out d hd; omega) (by have := HS.out d hd; omega)).1; unfold bl; omega, fun j d h => by omega⟩)
  go_wp2
  go_loopg [6] 11 (fun g k wr => ∃ c : Nat, 1 ≤ c ∧ c ≤ 11 ∧ g = 12 - c ∧ k = .int .i64 (c : Int) ∧ Hid (Ahd F n c 0) ∧ wa1 = wr)
  case atStart => exact ⟨1, by omega, by omega, by omega, rfl, HZ, rfl⟩
  case round =>
    clear HZ
    obtain ⟨c, hc1, hc2, rfl, rfl, hh, rfl⟩ := hrel
    by_cases hlt : c ≤ 10
    · have g3 : decide ((c : Int) ≤ 10) = true := decide_eq_true (by omega)
      go_wp2
      go_loopg [7] N (fun g i wr => ∃ j : Nat, j ≤ N ∧ g = N - j ∧ i = .int .i64 (j : Int) ∧ Hid (Ahd F n c j) ∧ wa1 = wr)
      case atStart => exact ⟨0, by omega, by omega, rfl, hh, rfl⟩
      case round =>
        clear hh
        obtain ⟨j, hj, rfl, rfl, hh, rfl⟩ := hrel
        by_cases hlj : j < N
        · have g4 : decide ((j : Int) < (N : Int)) = true := decide_eq_true (by omega)
          obtain ⟨bb, oo, y, ia, m0, m1, m2, m3, m4, m5, hy, _⟩ := HF.out.at_ (k := j) (by rw [← HN.out]; exact hlj)
          have hys := HS.out y (List.mem_of_getElem? hy.out)
          obtain ⟨kk, hkk⟩ : ∃ kk, kk = (bl y : Int) - 1 := ⟨_, rfl⟩
          have OT : Hid (∀ W, Calls Tryz.prog 129 #[.int .i64 y.size] W fun e w' => e = .returned (.int .i64 kk) ∧ w' = W) := Lib.hid (fun W => by
            have := Of17_any y.size.toNat (by omega) kk hkk W
            rwa [Int.toNat_of_nonneg (by omega)] at this)
          by_cases hk : kk = (c : Int) ∧ n ≤ y.size
          · obtain ⟨hk1, hk2⟩ := hk
            have HT := Lib.hid (takes_hit HS.out hh.out.1 hy.out (by omega) hk2 hh.out.2)
            have g5 : (kk == (c : Int)) = true := by rw [hk1]; exact beq_self_eq_true _
            have g6 : decide (n ≤ y.size) = true := decide_eq_true hk2
            clear hh hy hys hkk hk1 hk2
            go_wp2_with fail
            refine (OT.out _).mono ?_
            rintro e w7 ⟨rfl, rfl⟩
            go_wp2
            refine bodyPost_ret (v := .tuple #[.agg #[.int .i64 y.at_, .int .i64 y.size, .int .i64 y.kind, .int .i64 y.ty, .bool y.mark, .int .u64 y.next.toNat], .bool true]) (by simp [results, Tryz.results79, go_sem, c_g1, f_g1, a_g1, e_g1]) rfl ?_
            refine ⟨fun b hb => (by rw [HT.out] at hb; injection hb with hb; rw [hb]), fun hb => (by rw [HT.out] at hb; cases hb), ?_⟩
            (repeat (first | refine Below.setCell ?_ (by first | exact Nat.le_refl _ | (simp <;> omega)) _ | refine Below.alloc ?_ (by first | exact B.size | (have := B.size; simp <;> omega)) _)); exact B
          · have HH := Lib.hid (show Ahd F n c (j + 1) from ⟨hh.out.1, fun i d hi hd hn he => by
              rcases Nat.lt_succ_iff_lt_or_eq.1 hi with hi | rfl
              · exact hh.out.2 i d hi hd hn he
              · have hd2 := hy.out; rw [hd] at hd2; injection hd2 with hd2; subst hd2
                have h2 := (bl_two (n := d.size.toNat) (by omega) (by omega)).1
                unfold bl at he hkk
                exact hk ⟨by omega, hn⟩⟩)
            obtain ⟨j2, hj2⟩ : ∃ j2, j2 = j + 1 := ⟨_, rfl⟩
            rw [← hj2] at HH
            have w1 : IntKind.i64.wrap ((j : Int) + 1) = ((j2 : Nat) : Int) := by rw [show ((j2 : Nat) : Int) = (j : Int) + 1 by omega]; exact IntWalk.i64_in _ (by omega)
            have hj3 : j2 ≤ N ∧ N - j2 < N - j := by omega
            by_cases hk1 : kk = (c : Int)
            · have g5 : (kk == (c : Int)) = true := by rw [hk1]; exact beq_self_eq_true _
              have g6 : decide (n ≤ y.size) = false := decide_eq_false (fun h => hk ⟨hk1, h⟩)
              clear hh hy hys hkk hk hk1 hj2
              go_wp2_with fail
              refine (OT.out _).mono ?_
              rintro e w7 ⟨rfl, rfl⟩
              go_wp2
              go_roundg (N - j2)
              case measure => exact hj3.2
              case rel => exact ⟨j2, hj3.1, rfl, rfl, HH, rfl⟩
            · have g5 : (kk == (c : Int)) = false := by rw [beq_eq_false_iff_ne]; exact hk1
              clear hh hy hys hkk hk hk1 hj2
              go_wp2_with fail
              refine (OT.out _).mono ?_
              rintro e w7 ⟨rfl, rfl⟩
              go_wp2
              go_roundg (N - j2)
              case measure => exact hj3.2
              case rel => exact ⟨j2, hj3.1, rfl, rfl, HH, rfl⟩
        · obtain rfl : j = N := by omega
          have HH := Lib.hid (show Ahd F n (c + 1) 0 from ⟨hh.out.1.step (by rw [← HN.out]; exact hh.out.2), fun j d h => by omega⟩)
          obtain ⟨c2, hc5⟩ : ∃ c2, c2 = c + 1 := ⟨_, rfl⟩
          rw [← hc5] at HH
          have w1 : IntKind.i64.wrap ((c : Int) + 1) = ((c2 : Nat) : Int) := by rw [show ((c2 : Nat) : Int) = (c : Int) + 1 by omega]; exact IntWalk.i64_in _ (by omega)
          have hc6 : 1 ≤ c2 ∧ c2 ≤ 11 ∧ 12 - c2 < 12 - c := by omega
          clear hh hc5
          go_wp2
          go_roundg (12 - c2)
          case measure => exact hc6.2.2
          case rel => exact ⟨c2, hc6.1, hc6.2.1, rfl, rfl, HH, rfl⟩
    · obtain rfl : c = 11 := by omega
      have HT := Lib.hid (takes_miss HS.out hh.out.1)
      clear hh
      go_wp2
      refine bodyPost_ret (v := .tuple #[.agg #[.int .i64 0, .int .i64 0, .int .i64 0, .int .i64 0, .bool false, .int .u64 0], .bool false]) (by simp [results, Tryz.results79, go_sem, c_g1, f_g1, a_g1, e_g1]) rfl ?_
      refine ⟨fun b hb => (by rw [HT.out] at hb; cases hb), fun _ => rfl, ?_⟩
      (repeat (first | refine Below.setCell ?_ (by first | exact Nat.le_refl _ | (simp <;> omega)) _ | refine Below.alloc ?_ (by first | exact B.size | (have := B.size; simp <;> omega)) _)); exact B
end Go.Proofs.YtmbokdnndlnjkaaGreat
namespace Go.Proofs.YtmbokdnndlnjkaaGreat
open Go.RowKit L01 L02 L05 L06 L07 L13 L14 L15 L16 L18 L19
set_option maxHeartbeats 4000000 in
set_option maxRecDepth 100000 in
theorem Len64_any (x : Int) (w : World) (h0 : 0 ≤ x) (h1 : x ≤ 1920) :
    Calls Tryz.prog 159 #[.int .u64 x] w fun e w' => e = .returned (.int .i64 (Lib.bitLen x.toNat)) ∧ w = w' := by
  have us := Tryz.underlying9
  have g1 : decide (4294967296 ≤ x) = false := decide_eq_false (by omega)
  have g2 : decide (65536 ≤ x) = false := decide_eq_false (by omega)
  by_cases hx : x < 256
  · have g3 : decide (256 ≤ x) = false := decide_eq_false (by omega)
    have i1 : ∀ W, (Instr.index 9 (.string Lib.len8tab) (.int .u8 x)).run Tryz.prog W = .ok (.int .u8 (Lib.len8 x)) W := fun W => Lib.run_index_len8tab W _ _ _ us h0 (by omega)
    have e1 : Lib.len8 x = (Lib.bitLen x.toNat : Int) := Lib.len8_of x h0 (by omega)
    have e2 := Lib.bitLen_le8' x h0 (by omega)
    have c1 : IntKind.u8.wrap x = x := by show x % 256 = x; omega
    rw [e1] at i1
    generalize hq : Lib.bitLen x.toNat = q at *
    have w1 : IntKind.i64.wrap (q : Int) = (q : Int) := IntWalk.i64_in _ (by omega)
    clear e1 hq
    go_enter Tryz.func159, Tryz.ntmps159
    go_wp2
    go_ret
    exact ⟨rfl, rfl⟩
  · have g3 : decide (256 ≤ x) = true := decide_eq_true (by omega)
    obtain ⟨y, hy⟩ : ∃ y, y = x / 256 := ⟨_, rfl⟩
    have i1 : ∀ W, (Instr.index 9 (.string Lib.len8tab) (.int .u8 y)).run Tryz.prog W = .ok (.int .u8 (Lib.len8 y)) W := fun W => Lib.run_index_len8tab W _ _ _ us (by omega) (by omega)
    have e1 : Lib.len8 y = (Lib.bitLen y.toNat : Int) := Lib.len8_of y (by omega) (by omega)
    have e2 := Lib.bitLen_le8' y (by omega) (by omega)
    have e3 := Lib.bitLen_shift8 x.toNat (by omega) (by omega)
    have e4 : y.toNat = x.toNat / 256 := by omega
    rw [← e4] at e3
    rw [e3]
    rw [e1] at i1
    generalize hq : Lib.bitLen y.toNat = q at *
    have w1 : IntKind.i64.wrap (q : Int) = (q : Int) := IntWalk.i64_in _ (by omega)
    have w2 : IntKind.i64.wrap (8 + (q : Int)) = 8 + (q : Int) := IntWalk.i64_in _ (by omega)
    have c1 : IntKind.u8.wrap y = y := by show y % 256 = y; omega
    have c2 : IntKind.u8.wrap (x / 256) = x / 256 := by show (x / 256) % 256 = x / 256; omega
    rw [hy] at i1
    clear e1 hq hy e3 e4 c1
    go_enter Tryz.func159, Tryz.ntmps159
    go_wp2
    go_ret
    exact ⟨rfl, rfl⟩
set_option maxHeartbeats 1000000 in
theorem Len_any (x : Int) (w : World) (h0 : 0 ≤ x) (h1 : x ≤ 1920) :
    Calls Tryz.prog 143 #[.int .u64 x] w fun e w' => e = .returned (.int .i64 (Lib.bitLen x.toNat)) ∧ w = w' := by
  have LT := Lib.hid (fun w => Len64_any x w h0 h1)
  generalize Lib.bitLen x.toNat = q at *
  clear h0 h1
  go_enter Tryz.func143, Tryz.ntmps143
  go_wp2_with fail
  refine (LT.out _).mono ?_
  rintro e w' ⟨rfl, rfl⟩
  go_wp2
  go_ret
  exact ⟨rfl, rfl⟩
theorem bitLen_two {n : Nat} (h : 2 ≤ n) (h2 : n ≤ 1920) : 2 ≤ Lib.bitLen n ∧ Lib.bitLen n ≤ 16 := by
  have h1 := Lib.bitLen_half n (by omega) (by omega)
  have h3 := Lib.bitLen_half (n / 2) (by omega) (by omega)
  by_cases h8 : n < 256
  · have := Lib.bitLen_le8' (n : Int) (by omega) (by omega)
    rw [Int.toNat_natCast] at this
    omega
  · have e := Lib.bitLen_shift8 n (by omega) (by omega)
    have := Lib.bitLen_le8' ((n / 256 : Nat) : Int) (by omega) (by omega)
    rw [Int.toNat_natCast] at this
    omega
set_option maxHeartbeats 1000000 in
/-- the class of a size -/
theorem Class_any (n : Int) (hn : 2 ≤ n ∧ n ≤ 1920) (w : World) :
    Calls Tryz.prog 124 #[.int .i64 n] w fun e w' => e = .returned (.tuple #[.int .i64 ((Lib.bitLen n.toNat : Int) - 1), .int .i64 0]) ∧ w = w' := by
  have LT := Lib.hid (fun w => Len_any n w (by omega) (by omega))
  have hb := bitLen_two (n := n.toNat) (by omega) (by omega)
  obtain ⟨hn1, hn2⟩ := hn
  generalize Lib.bitLen n.toNat = q at *
  have c1 : IntKind.u64.wrap n = n := by show n % 18446744073709551616 = n; omega
  have w1 : IntKind.i64.wrap ((q : Int) - 1) = (q : Int) - 1 := IntWalk.i64_in _ (by omega)
  have g1 : decide (n < 2) = false := decide_eq_false (by omega)
  have g2 : decide (1920 < n) = false := decide_eq_false (by omega)
  clear hb
  go_enter Tryz.func124, Tryz.ntmps124
  go_wp2_with fail
  refine (LT.out _).mono ?_
  rintro e w' ⟨rfl, rfl⟩
  go_wp2
  go_ret2
  exact ⟨rfl, rfl⟩
set_option maxHeartbeats 1000000 in
theorem right21_any (n : Int) (b : Bool) (hb : b = decide (RightN n)) (w : World) :
    Calls Tryz.prog 123 #[.int .i64 n] w fun e w' => e = .returned (.bool b) ∧ w = w' := by
  by_cases h1 : 2 ≤ n
  · by_cases h2 : n ≤ 10
    · have hw : n % 2 = 0 ∨ n % 2 = 1 := by omega
      have hm : n.tmod 2 = n % 2 := Int.tmod_eq_emod_of_nonneg (by omega)
      rcases hw with hw | hw
      · obtain rfl : b = true := by rw [hb]; exact decide_eq_true ⟨h1, h2, hw⟩
        rw [hw] at hm
        clear hb hw
        go_enter Tryz.func123, Tryz.ntmps123
        go_wp2
        go_ret
        exact ⟨rfl, rfl⟩
      · obtain rfl : b = false := by rw [hb]; exact decide_eq_false (fun h => by have := h.2.2; omega)
        rw [hw] at hm
        clear hb hw
        go_enter Tryz.func123, Tryz.ntmps123
        go_wp2
        go_ret
        exact ⟨rfl, rfl⟩
    · obtain rfl : b = false := by rw [hb]; exact decide_eq_false (fun h => h2 h.2.1)
      clear hb
      go_enter Tryz.func123, Tryz.ntmps123
      go_wp2
      go_ret
      exact ⟨rfl, rfl⟩
  · obtain rfl : b = false := by rw [hb]; exact decide_eq_false (fun h => h1 h.1)
    clear hb
    go_enter Tryz.func123, Tryz.ntmps123
    go_wp2
    go_ret
    exact ⟨rfl, rfl⟩
end Go.Proofs.YtmbokdnndlnjkaaGreat
