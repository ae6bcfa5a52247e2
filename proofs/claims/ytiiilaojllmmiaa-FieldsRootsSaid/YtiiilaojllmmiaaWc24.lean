/- The walk of the law FieldsOthers. -/
import Derived.Test.YtiiilaojllmmiaaMFt
import Derived.Test.YtiiilaojllmmiaaWb24
set_option linter.unusedVariables false
set_option linter.unusedSimpArgs false
namespace Go.Proofs.Ytiiilaojllmmiaa
open Go.RowKit L02 L05 L13 L18 L19 L20

theorem Ents.at0 {w : World} {v : Value} {a : Int} {x : UInt64} (h : Ents w v [(a, x)]) : (∀ ty W, (Builtin.len_ #[32] ty #[v]).run Try.prog W = .ok (.int .i64 1) W) ∧ ∃ b o, (∀ W, (Instr.indexAt 32 v (.int .i64 0)).run Try.prog W = .ok (.pointer (some ⟨b, o, none⟩)) W) ∧ w.cell? ⟨b, o, none⟩ = some (.int .i64 a) ∧ w.cell? ⟨b, o + 1, none⟩ = some (.int .u64 x.toNat) := by
  refine ⟨Rd.len h Try.underlying32, ?_⟩
  obtain ⟨b, o, a', x', ia, m0, m1, hs⟩ := h.at_ (k := 0) (by simp)
  have e := hs.out
  simp at e
  obtain ⟨rfl, rfl⟩ := e
  exact ⟨b, o, ia, m0, m1⟩
/-- what the law FieldsOthers needs of an image -/
theorem others_law {l : List UInt64} (hc : chk19 l = 0) (sl g n : Int) :
    (resErr l sl g ≠ 0 ∧ giE l sl g n = resErr l sl g ∧ (∀ tq, riE l sl g n tq = resErr l sl g) ∧ oiE l sl g n = resErr l sl g) ∨
    (resErr l sl g = 0 ∧ giE l sl g n = 2 ∧ (∀ tq, riE l sl g n tq = 2) ∧ oiE l sl g n = 2) ∨
    ((resErr l sl g = 0 ∧ 128 ≤ res l sl g ∧ res l sl g ≤ 2048 ∧ 0 ≤ n ∧ n ≤ 8) ∧
      ((giE l sl g n = 0 ∧ (∀ x, ∃ y, siL l sl g n x = [(res l sl g + 2 + n, y)]) ∧ (∀ tq, riE l sl g n tq = 42) ∧ oiE l sl g n = 42) ∨
       (giE l sl g n = 42 ∧ (∀ tq, riE l sl g n tq = 0 → ∃ y, riL l sl g n tq = [(res l sl g + 2 + n, y)]) ∧ (oiE l sl g n = 0 → ∃ (k : Nat) (s : Sl) (y : UInt64), oiL l sl g n = [(112 + (k : Int), y)] ∧ oiS l sl g n = k ∧ oiG l sl g n = s.gen + 1 ∧ k < 16 ∧ (slots l)[k]? = some s ∧ s.used = false ∧ 0 ≤ s.gen ∧ s.gen < 2147483647)))) := by
  have ha : askI l sl g = resErr l sl g := by rw [askI, if_pos hc]
  by_cases h0 : askI l sl g = 0
  case neg =>
    left
    have hk : kiErr l sl g n = resErr l sl g := by rw [kiErr, if_neg h0, ha]
    have hk0 : kiErr l sl g n ≠ 0 := by rw [hk, ← ha]; exact h0
    refine ⟨by rw [← ha]; exact h0, ?_, fun tq => ?_, ?_⟩
    · rw [giE, if_neg hk0, hk]
    · unfold riE; rw [if_neg hk0, hk]
    · rw [oiE, if_neg hk0, hk]
  case pos =>
    right
    by_cases hk : kiErr l sl g n = 0
    case neg =>
      left
      have h2 : kiErr l sl g n = 2 := by
        unfold kiErr at hk ⊢
        rw [if_pos h0] at hk ⊢
        split
        · rename_i h; rw [if_pos h] at hk; exact absurd rfl hk
        · rfl
      refine ⟨by rw [← ha]; exact h0, ?_, fun tq => ?_, ?_⟩
      · rw [giE, if_neg hk, h2]
      · unfold riE; rw [if_neg hk, h2]
      · rw [oiE, if_neg hk, h2]
    case pos =>
      right
      obtain ⟨k, a, nn, q, i, b, t, kd, x, rfl, rfl, f⟩ := Fd.of hk
      have hres := f.hd.hres
      have h1 := f.hd.ha1; have h2 := f.hd.ha2; have h3 := f.hd.hn8; have h4 := f.hi
      refine ⟨⟨by rw [← ha]; exact h0, by rw [hres]; omega, by rw [hres]; omega, by omega, by omega⟩, ?_⟩
      have hAt : kiAt l k g i = res l k g + 2 + i := by rw [f.hAt, hres]; omega
      by_cases h3 : kd.toNat = 3
      · right
        refine ⟨by rw [f.gE, if_pos h3], fun tq hr => ?_, fun ho => ?_⟩
        · unfold riL; rw [if_pos hr, hAt]; exact ⟨_, rfl⟩
        · have ho0 := ho
          unfold oiE at ho
          rw [if_pos hk, f.hK, if_pos h3, f.hW] at ho
          by_cases hx : x = 0
          · rw [if_pos hx] at ho; omega
          · rw [if_neg hx] at ho
            obtain ⟨kk, s, n1, n2, n3, n4, n5, n6, n7, n8, n9, n10, _⟩ := new_spec ho
            have hb := n5.2.1
            refine ⟨kk, s, pk ⟨s.gen + 1, true, x.toNat⟩, ?_, ?_, ?_, n1, n2, n3, n5.1, by omega⟩
            · unfold oiL; rw [if_pos ho0, f.hW, n9, n10]
            · unfold oiS; rw [if_pos ho0, f.hW, n7]
            · unfold oiG; rw [if_pos ho0, f.hW, n8]
      · left
        refine ⟨by rw [f.gE, if_neg h3], fun y => ⟨setV kd y, ?_⟩, fun tq => ?_, ?_⟩
        · rw [siL, f.gE, if_neg h3, if_pos rfl, hAt, f.hK]
        · unfold riE; rw [if_pos hk, f.hK, if_neg h3]
        · rw [oiE, if_pos hk, f.hK, if_neg h3]

set_option maxRecDepth 100000 in
set_option maxHeartbeats 8000000 in
theorem FieldsOthers_walk (v0 : Value) (l : List UInt64) (a0 b0 a1 b1 : Int) (fi : Int) (x : UInt64) (w : World) (h0 : Words w v0 l) (_f1 : -9223372036854775808 ≤ a0 ∧ a0 ≤ 9223372036854775807) (_f2 : -9223372036854775808 ≤ b0 ∧ b0 ≤ 9223372036854775807) (_f3 : -9223372036854775808 ≤ a1 ∧ a1 ≤ 9223372036854775807) (_f4 : -9223372036854775808 ≤ b1 ∧ b1 ≤ 9223372036854775807) (_f5 : -9223372036854775808 ≤ fi ∧ fi ≤ 9223372036854775807) :
    Calls Try.prog 6 #[v0, .agg #[.int .i64 a0, .int .i64 b0], .agg #[.int .i64 a1, .int .i64 b1], .int .i64 fi, .int .u64 x.toNat] w fun e w' => e = .returned (.bool true) ∧ Below w.heap.size w w' := by
  have B : Below w.heap.size w w := Below.refl _ _
  have H := Lib.hid h0; clear h0 _f1 _f2 _f3 _f4 _f5
  have AL := Lib.hid alive24_any
  have G := Lib.hid (fun w h => Great_any v0 l w h)
  obtain ⟨gr, hgr⟩ : ∃ g, g = decide (2100 < l.length) := ⟨_, rfl⟩
  have HGR := Lib.hid hgr
  rw [← hgr] at G
  clear hgr
  cases gr
  case true =>
    go_enter Try.func6, Try.ntmps6
    go_upto_region 1 with (fail)
    refine wp_gen (fun Wv => Bx Wv (w.heap.size) (24) (#[.int .i64 a0, .int .i64 b0]) ∧ Bx Wv (w.heap.size + 1) (24) (#[.int .i64 a1, .int .i64 b1]) ∧ Below w.heap.size w Wv) ⟨(((Bx.at_ (by simp)).alloc _)), ((Bx.at_ (by simp))), (((Below.refl _ w).alloc (by simp <;> omega) _).alloc (by simp <;> omega) _)⟩ ?_
    rintro wa1 ⟨g1, g2, b⟩
    replace B := B.trans (b.mono B.size); clear b
    have c_g1 := g1.cell; have f_g1 := g1.free; have a_g1 := fun o => (g1.alloc o).cell; have d_g1 := fun o o2 => ((g1.alloc o).alloc o2).cell; have e_g1 := fun o => (g1.alloc o).free
    have c_g2 := g2.cell; have f_g2 := g2.free; have a_g2 := fun o => (g2.alloc o).cell; have d_g2 := fun o o2 => ((g2.alloc o).alloc o2).cell; have e_g2 := fun o => (g2.alloc o).free
    go_wp2_with fail
    refine (AL.out _).mono ?_
    rintro e wa2 ⟨rfl, b⟩
    try clear c_g1 f_g1 a_g1 d_g1 e_g1
    replace g1 := g1.below b; have c_g1 := g1.cell; have f_g1 := g1.free; have a_g1 := fun o => (g1.alloc o).cell; have d_g1 := fun o o2 => ((g1.alloc o).alloc o2).cell; have e_g1 := fun o => (g1.alloc o).free; try clear c_g2 f_g2 a_g2 d_g2 e_g2
    replace g2 := g2.below b; have c_g2 := g2.cell; have f_g2 := g2.free; have a_g2 := fun o => (g2.alloc o).cell; have d_g2 := fun o o2 => ((g2.alloc o).alloc o2).cell; have e_g2 := fun o => (g2.alloc o).free; replace B := B.trans (b.mono B.size); clear b
    go_wp2_with fail
    refine (G.out _ (H.out.below B)).mono ?_
    rintro e w2 ⟨rfl, rfl⟩
    go_wp2
    go_ret
    exact ⟨rfl, B⟩
  case false =>
    obtain ⟨c, hc⟩ : ∃ v, v = chk19 l := ⟨_, rfl⟩
    have CK := Lib.hid (fun w h => Check19_any v0 l c hc w h)
    by_cases h0 : c = 0
    case neg =>
      have n1 : (c != 0) = true := by rw [bne_iff_ne]; exact h0
      clear hc h0
      go_enter Try.func6, Try.ntmps6
      go_upto_region 1 with (fail)
      refine wp_gen (fun Wv => Bx Wv (w.heap.size) (24) (#[.int .i64 a0, .int .i64 b0]) ∧ Bx Wv (w.heap.size + 1) (24) (#[.int .i64 a1, .int .i64 b1]) ∧ Below w.heap.size w Wv) ⟨(((Bx.at_ (by simp)).alloc _)), ((Bx.at_ (by simp))), (((Below.refl _ w).alloc (by simp <;> omega) _).alloc (by simp <;> omega) _)⟩ ?_
      rintro wa1 ⟨g1, g2, b⟩
      replace B := B.trans (b.mono B.size); clear b
      have c_g1 := g1.cell; have f_g1 := g1.free; have a_g1 := fun o => (g1.alloc o).cell; have d_g1 := fun o o2 => ((g1.alloc o).alloc o2).cell; have e_g1 := fun o => (g1.alloc o).free
      have c_g2 := g2.cell; have f_g2 := g2.free; have a_g2 := fun o => (g2.alloc o).cell; have d_g2 := fun o o2 => ((g2.alloc o).alloc o2).cell; have e_g2 := fun o => (g2.alloc o).free
      go_wp2_with fail
      refine (AL.out _).mono ?_
      rintro e wa2 ⟨rfl, b⟩
      try clear c_g1 f_g1 a_g1 d_g1 e_g1
      replace g1 := g1.below b; have c_g1 := g1.cell; have f_g1 := g1.free; have a_g1 := fun o => (g1.alloc o).cell; have d_g1 := fun o o2 => ((g1.alloc o).alloc o2).cell; have e_g1 := fun o => (g1.alloc o).free; try clear c_g2 f_g2 a_g2 d_g2 e_g2
      replace g2 := g2.below b; have c_g2 := g2.cell; have f_g2 := g2.free; have a_g2 := fun o => (g2.alloc o).cell; have d_g2 := fun o o2 => ((g2.alloc o).alloc o2).cell; have e_g2 := fun o => (g2.alloc o).free; replace B := B.trans (b.mono B.size); clear b
      go_wp2_with fail
      refine (G.out _ (H.out.below B)).mono ?_
      rintro e w2 ⟨rfl, rfl⟩
      go_wp2_with fail
      refine (CK.out _ (H.out.below B)).mono ?_
      rintro e wa3 ⟨rfl, b⟩
      try clear c_g1 f_g1 a_g1 d_g1 e_g1
      replace g1 := g1.below b; have c_g1 := g1.cell; have f_g1 := g1.free; have a_g1 := fun o => (g1.alloc o).cell; have d_g1 := fun o o2 => ((g1.alloc o).alloc o2).cell; have e_g1 := fun o => (g1.alloc o).free; try clear c_g2 f_g2 a_g2 d_g2 e_g2
      replace g2 := g2.below b; have c_g2 := g2.cell; have f_g2 := g2.free; have a_g2 := fun o => (g2.alloc o).cell; have d_g2 := fun o o2 => ((g2.alloc o).alloc o2).cell; have e_g2 := fun o => (g2.alloc o).free; replace B := B.trans (b.mono B.size); clear b
      go_wp2
      go_ret
      exact ⟨rfl, B⟩
    case pos =>
      subst h0
      have hla := others_law hc.symm a0 b0 fi
      have rt : Rt l := Rt.of hc.symm
      obtain ⟨p, hp⟩ : ∃ v, v = res l a0 b0 := ⟨_, rfl⟩
      obtain ⟨d, hd⟩ : ∃ v, v = resErr l a0 b0 := ⟨_, rfl⟩
      obtain ⟨r2, h2⟩ : ∃ v, v = giE l a0 b0 fi := ⟨_, rfl⟩
      obtain ⟨E2, h3⟩ : ∃ v, v = siL l a0 b0 fi x := ⟨_, rfl⟩
      obtain ⟨E3, h4⟩ : ∃ v, v = riL l a0 b0 fi (some (a1, b1)) := ⟨_, rfl⟩
      obtain ⟨r3, h5⟩ : ∃ v, v = riE l a0 b0 fi (some (a1, b1)) := ⟨_, rfl⟩
      obtain ⟨E4, h6⟩ : ∃ v, v = oiL l a0 b0 fi := ⟨_, rfl⟩
      obtain ⟨s4, h7⟩ : ∃ v, v = oiS l a0 b0 fi := ⟨_, rfl⟩
      obtain ⟨g4, h8⟩ : ∃ v, v = oiG l a0 b0 fi := ⟨_, rfl⟩
      obtain ⟨r4, h9⟩ : ∃ v, v = oiE l a0 b0 fi := ⟨_, rfl⟩
      obtain ⟨S, hS⟩ : ∃ S, S = slots l := ⟨_, rfl⟩
      have RT := Lib.hid (fun w h => ResolveR_any v0 l a0 b0 p d hp hd w h)
      have T3 := Lib.hid (fun w h => Set24_any v0 l a0 b0 fi x E2 r2 h3 h2 w h)
      have T5 := Lib.hid (fun pv w h hp => SetRef24_any v0 pv l a0 b0 fi (some (a1, b1)) E3 r3 h4 h5 w h hp)
      have T7 := Lib.hid (fun w h => Root24_any v0 l a0 b0 fi E4 s4 g4 r4 h6 h7 h8 h9 w h)
      have ST := Lib.hid (fun w h => SlotsR_any v0 l rt.sz S (by rw [hS, all, if_pos rt.sl]) w h)
      have hS16 : S.length = 16 := by rw [hS]; exact slots_len' rt.sl
      rw [← hp, ← hd, ← h2, ← h9, ← h6, ← h7, ← h8, ← hS] at hla
      have HS16 := Lib.hid hS16
      clear rt hS hS16
      rcases hla with ⟨l1, l2, l3, l4⟩ | ⟨l1, l2, l3, l4⟩ | ⟨⟨l1, b1', b2', b3', b4'⟩, ⟨l2, l3, l4, l5⟩ | ⟨l2, l3, l4⟩⟩
      · replace l3 := l3 (some (a1, b1))
        rw [← h5] at l3
        have n1 : (d != 0) = true := by rw [bne_iff_ne]; exact l1
        clear hc hp hd h2 h3 h4 h5 h6 h7 h8 h9 l1
        subst l2; subst l3; subst l4
        go_enter Try.func6, Try.ntmps6
        go_upto_region 1 with (fail)
        refine wp_gen (fun Wv => Bx Wv (w.heap.size) (24) (#[.int .i64 a0, .int .i64 b0]) ∧ Bx Wv (w.heap.size + 1) (24) (#[.int .i64 a1, .int .i64 b1]) ∧ Below w.heap.size w Wv) ⟨(((Bx.at_ (by simp)).alloc _)), ((Bx.at_ (by simp))), (((Below.refl _ w).alloc (by simp <;> omega) _).alloc (by simp <;> omega) _)⟩ ?_
        rintro wa1 ⟨g1, g2, b⟩
        replace B := B.trans (b.mono B.size); clear b
        have c_g1 := g1.cell; have f_g1 := g1.free; have a_g1 := fun o => (g1.alloc o).cell; have d_g1 := fun o o2 => ((g1.alloc o).alloc o2).cell; have e_g1 := fun o => (g1.alloc o).free
        have c_g2 := g2.cell; have f_g2 := g2.free; have a_g2 := fun o => (g2.alloc o).cell; have d_g2 := fun o o2 => ((g2.alloc o).alloc o2).cell; have e_g2 := fun o => (g2.alloc o).free
        go_wp2_with fail
        refine (AL.out _).mono ?_
        rintro e wa2 ⟨rfl, b⟩
        try clear c_g1 f_g1 a_g1 d_g1 e_g1
        replace g1 := g1.below b; have c_g1 := g1.cell; have f_g1 := g1.free; have a_g1 := fun o => (g1.alloc o).cell; have d_g1 := fun o o2 => ((g1.alloc o).alloc o2).cell; have e_g1 := fun o => (g1.alloc o).free; try clear c_g2 f_g2 a_g2 d_g2 e_g2
        replace g2 := g2.below b; have c_g2 := g2.cell; have f_g2 := g2.free; have a_g2 := fun o => (g2.alloc o).cell; have d_g2 := fun o o2 => ((g2.alloc o).alloc o2).cell; have e_g2 := fun o => (g2.alloc o).free; replace B := B.trans (b.mono B.size); clear b
        go_wp2_with fail
        refine (G.out _ (H.out.below B)).mono ?_
        rintro e w2 ⟨rfl, rfl⟩
        go_wp2_with fail
        refine (CK.out _ (H.out.below B)).mono ?_
        rintro e wa3 ⟨rfl, b⟩
        try clear c_g1 f_g1 a_g1 d_g1 e_g1
        replace g1 := g1.below b; have c_g1 := g1.cell; have f_g1 := g1.free; have a_g1 := fun o => (g1.alloc o).cell; have d_g1 := fun o o2 => ((g1.alloc o).alloc o2).cell; have e_g1 := fun o => (g1.alloc o).free; try clear c_g2 f_g2 a_g2 d_g2 e_g2
        replace g2 := g2.below b; have c_g2 := g2.cell; have f_g2 := g2.free; have a_g2 := fun o => (g2.alloc o).cell; have d_g2 := fun o o2 => ((g2.alloc o).alloc o2).cell; have e_g2 := fun o => (g2.alloc o).free; replace B := B.trans (b.mono B.size); clear b
        go_wp2_with fail
        refine (RT.out _ (H.out.below B)).mono ?_
        rintro e wa4 ⟨rfl, b⟩
        try clear c_g1 f_g1 a_g1 d_g1 e_g1
        replace g1 := g1.below b; have c_g1 := g1.cell; have f_g1 := g1.free; have a_g1 := fun o => (g1.alloc o).cell; have d_g1 := fun o o2 => ((g1.alloc o).alloc o2).cell; have e_g1 := fun o => (g1.alloc o).free; try clear c_g2 f_g2 a_g2 d_g2 e_g2
        replace g2 := g2.below b; have c_g2 := g2.cell; have f_g2 := g2.free; have a_g2 := fun o => (g2.alloc o).cell; have d_g2 := fun o o2 => ((g2.alloc o).alloc o2).cell; have e_g2 := fun o => (g2.alloc o).free; replace B := B.trans (b.mono B.size); clear b
        go_wp2_with fail
        refine (T3.out _ (H.out.below B)).mono ?_
        rintro e wa5 ⟨y1, rfl, o1, b⟩
        try clear c_g1 f_g1 a_g1 d_g1 e_g1
        replace g1 := g1.below b; have c_g1 := g1.cell; have f_g1 := g1.free; have a_g1 := fun o => (g1.alloc o).cell; have d_g1 := fun o o2 => ((g1.alloc o).alloc o2).cell; have e_g1 := fun o => (g1.alloc o).free; try clear c_g2 f_g2 a_g2 d_g2 e_g2
        replace g2 := g2.below b; have c_g2 := g2.cell; have f_g2 := g2.free; have a_g2 := fun o => (g2.alloc o).cell; have d_g2 := fun o o2 => ((g2.alloc o).alloc o2).cell; have e_g2 := fun o => (g2.alloc o).free; replace B := B.trans (b.mono B.size); clear b
        have q3 := o1.rd
        clear o1
        go_wp2_with fail
        refine (T5.out _ _ (H.out.below B) ⟨_, rfl, g2⟩).mono ?_
        rintro e wa6 ⟨y2, rfl, o2, b⟩
        try clear c_g1 f_g1 a_g1 d_g1 e_g1
        replace g1 := g1.below b; have c_g1 := g1.cell; have f_g1 := g1.free; have a_g1 := fun o => (g1.alloc o).cell; have d_g1 := fun o o2 => ((g1.alloc o).alloc o2).cell; have e_g1 := fun o => (g1.alloc o).free; try clear c_g2 f_g2 a_g2 d_g2 e_g2
        replace g2 := g2.below b; have c_g2 := g2.cell; have f_g2 := g2.free; have a_g2 := fun o => (g2.alloc o).cell; have d_g2 := fun o o2 => ((g2.alloc o).alloc o2).cell; have e_g2 := fun o => (g2.alloc o).free; replace q3 := q3.below b; replace B := B.trans (b.mono B.size); clear b
        have q5 := o2.rd
        clear o2
        go_wp2_with fail
        refine (T7.out _ (H.out.below B)).mono ?_
        rintro e wa7 ⟨y3, rfl, o3, b⟩
        try clear c_g1 f_g1 a_g1 d_g1 e_g1
        replace g1 := g1.below b; have c_g1 := g1.cell; have f_g1 := g1.free; have a_g1 := fun o => (g1.alloc o).cell; have d_g1 := fun o o2 => ((g1.alloc o).alloc o2).cell; have e_g1 := fun o => (g1.alloc o).free; try clear c_g2 f_g2 a_g2 d_g2 e_g2
        replace g2 := g2.below b; have c_g2 := g2.cell; have f_g2 := g2.free; have a_g2 := fun o => (g2.alloc o).cell; have d_g2 := fun o o2 => ((g2.alloc o).alloc o2).cell; have e_g2 := fun o => (g2.alloc o).free; replace q3 := q3.below b; replace q5 := q5.below b; replace B := B.trans (b.mono B.size); clear b
        have q7 := o3.rd
        clear o3
        clear c_g1 f_g1 a_g1 d_g1 e_g1 c_g2 f_g2 a_g2 d_g2 e_g2
        clear g1 g2
        go_upto_region 8 with (fail)
        refine wp_gen (fun Wv => Bx Wv (wa7.heap.size) (24) (#[.int .i64 s4, .int .i64 g4]) ∧ Below wa7.heap.size wa7 Wv) ⟨((Bx.at_ (by simp))), ((Below.refl _ wa7).alloc (by simp <;> omega) _)⟩ ?_
        rintro wa8 ⟨g3, b⟩
        replace q3 := q3.below b; replace q5 := q5.below b; replace q7 := q7.below b; replace B := B.trans (b.mono B.size); clear b
        have c_g3 := g3.cell; have f_g3 := g3.free; have a_g3 := fun o => (g3.alloc o).cell; have d_g3 := fun o o2 => ((g3.alloc o).alloc o2).cell; have e_g3 := fun o => (g3.alloc o).free
        go_wp2
        go_ret
        exact ⟨rfl, B⟩
      · replace l3 := l3 (some (a1, b1))
        rw [← h5] at l3
        subst l1; subst l2; subst l3; subst l4
        clear hc hp hd h2 h3 h4 h5 h6 h7 h8 h9
        go_enter Try.func6, Try.ntmps6
        go_upto_region 1 with (fail)
        refine wp_gen (fun Wv => Bx Wv (w.heap.size) (24) (#[.int .i64 a0, .int .i64 b0]) ∧ Bx Wv (w.heap.size + 1) (24) (#[.int .i64 a1, .int .i64 b1]) ∧ Below w.heap.size w Wv) ⟨(((Bx.at_ (by simp)).alloc _)), ((Bx.at_ (by simp))), (((Below.refl _ w).alloc (by simp <;> omega) _).alloc (by simp <;> omega) _)⟩ ?_
        rintro wa1 ⟨g1, g2, b⟩
        replace B := B.trans (b.mono B.size); clear b
        have c_g1 := g1.cell; have f_g1 := g1.free; have a_g1 := fun o => (g1.alloc o).cell; have d_g1 := fun o o2 => ((g1.alloc o).alloc o2).cell; have e_g1 := fun o => (g1.alloc o).free
        have c_g2 := g2.cell; have f_g2 := g2.free; have a_g2 := fun o => (g2.alloc o).cell; have d_g2 := fun o o2 => ((g2.alloc o).alloc o2).cell; have e_g2 := fun o => (g2.alloc o).free
        go_wp2_with fail
        refine (AL.out _).mono ?_
        rintro e wa2 ⟨rfl, b⟩
        try clear c_g1 f_g1 a_g1 d_g1 e_g1
        replace g1 := g1.below b; have c_g1 := g1.cell; have f_g1 := g1.free; have a_g1 := fun o => (g1.alloc o).cell; have d_g1 := fun o o2 => ((g1.alloc o).alloc o2).cell; have e_g1 := fun o => (g1.alloc o).free; try clear c_g2 f_g2 a_g2 d_g2 e_g2
        replace g2 := g2.below b; have c_g2 := g2.cell; have f_g2 := g2.free; have a_g2 := fun o => (g2.alloc o).cell; have d_g2 := fun o o2 => ((g2.alloc o).alloc o2).cell; have e_g2 := fun o => (g2.alloc o).free; replace B := B.trans (b.mono B.size); clear b
        go_wp2_with fail
        refine (G.out _ (H.out.below B)).mono ?_
        rintro e w2 ⟨rfl, rfl⟩
        go_wp2_with fail
        refine (CK.out _ (H.out.below B)).mono ?_
        rintro e wa3 ⟨rfl, b⟩
        try clear c_g1 f_g1 a_g1 d_g1 e_g1
        replace g1 := g1.below b; have c_g1 := g1.cell; have f_g1 := g1.free; have a_g1 := fun o => (g1.alloc o).cell; have d_g1 := fun o o2 => ((g1.alloc o).alloc o2).cell; have e_g1 := fun o => (g1.alloc o).free; try clear c_g2 f_g2 a_g2 d_g2 e_g2
        replace g2 := g2.below b; have c_g2 := g2.cell; have f_g2 := g2.free; have a_g2 := fun o => (g2.alloc o).cell; have d_g2 := fun o o2 => ((g2.alloc o).alloc o2).cell; have e_g2 := fun o => (g2.alloc o).free; replace B := B.trans (b.mono B.size); clear b
        go_wp2_with fail
        refine (RT.out _ (H.out.below B)).mono ?_
        rintro e wa4 ⟨rfl, b⟩
        try clear c_g1 f_g1 a_g1 d_g1 e_g1
        replace g1 := g1.below b; have c_g1 := g1.cell; have f_g1 := g1.free; have a_g1 := fun o => (g1.alloc o).cell; have d_g1 := fun o o2 => ((g1.alloc o).alloc o2).cell; have e_g1 := fun o => (g1.alloc o).free; try clear c_g2 f_g2 a_g2 d_g2 e_g2
        replace g2 := g2.below b; have c_g2 := g2.cell; have f_g2 := g2.free; have a_g2 := fun o => (g2.alloc o).cell; have d_g2 := fun o o2 => ((g2.alloc o).alloc o2).cell; have e_g2 := fun o => (g2.alloc o).free; replace B := B.trans (b.mono B.size); clear b
        go_wp2_with fail
        refine (T3.out _ (H.out.below B)).mono ?_
        rintro e wa5 ⟨y1, rfl, o1, b⟩
        try clear c_g1 f_g1 a_g1 d_g1 e_g1
        replace g1 := g1.below b; have c_g1 := g1.cell; have f_g1 := g1.free; have a_g1 := fun o => (g1.alloc o).cell; have d_g1 := fun o o2 => ((g1.alloc o).alloc o2).cell; have e_g1 := fun o => (g1.alloc o).free; try clear c_g2 f_g2 a_g2 d_g2 e_g2
        replace g2 := g2.below b; have c_g2 := g2.cell; have f_g2 := g2.free; have a_g2 := fun o => (g2.alloc o).cell; have d_g2 := fun o o2 => ((g2.alloc o).alloc o2).cell; have e_g2 := fun o => (g2.alloc o).free; replace B := B.trans (b.mono B.size); clear b
        have q3 := o1.rd
        clear o1
        go_wp2_with fail
        refine (T5.out _ _ (H.out.below B) ⟨_, rfl, g2⟩).mono ?_
        rintro e wa6 ⟨y2, rfl, o2, b⟩
        try clear c_g1 f_g1 a_g1 d_g1 e_g1
        replace g1 := g1.below b; have c_g1 := g1.cell; have f_g1 := g1.free; have a_g1 := fun o => (g1.alloc o).cell; have d_g1 := fun o o2 => ((g1.alloc o).alloc o2).cell; have e_g1 := fun o => (g1.alloc o).free; try clear c_g2 f_g2 a_g2 d_g2 e_g2
        replace g2 := g2.below b; have c_g2 := g2.cell; have f_g2 := g2.free; have a_g2 := fun o => (g2.alloc o).cell; have d_g2 := fun o o2 => ((g2.alloc o).alloc o2).cell; have e_g2 := fun o => (g2.alloc o).free; replace q3 := q3.below b; replace B := B.trans (b.mono B.size); clear b
        have q5 := o2.rd
        clear o2
        go_wp2_with fail
        refine (T7.out _ (H.out.below B)).mono ?_
        rintro e wa7 ⟨y3, rfl, o3, b⟩
        try clear c_g1 f_g1 a_g1 d_g1 e_g1
        replace g1 := g1.below b; have c_g1 := g1.cell; have f_g1 := g1.free; have a_g1 := fun o => (g1.alloc o).cell; have d_g1 := fun o o2 => ((g1.alloc o).alloc o2).cell; have e_g1 := fun o => (g1.alloc o).free; try clear c_g2 f_g2 a_g2 d_g2 e_g2
        replace g2 := g2.below b; have c_g2 := g2.cell; have f_g2 := g2.free; have a_g2 := fun o => (g2.alloc o).cell; have d_g2 := fun o o2 => ((g2.alloc o).alloc o2).cell; have e_g2 := fun o => (g2.alloc o).free; replace q3 := q3.below b; replace q5 := q5.below b; replace B := B.trans (b.mono B.size); clear b
        have q7 := o3.rd
        clear o3
        clear c_g1 f_g1 a_g1 d_g1 e_g1 c_g2 f_g2 a_g2 d_g2 e_g2
        clear g1 g2
        go_upto_region 8 with (fail)
        refine wp_gen (fun Wv => Bx Wv (wa7.heap.size) (24) (#[.int .i64 s4, .int .i64 g4]) ∧ Below wa7.heap.size wa7 Wv) ⟨((Bx.at_ (by simp))), ((Below.refl _ wa7).alloc (by simp <;> omega) _)⟩ ?_
        rintro wa8 ⟨g3, b⟩
        replace q3 := q3.below b; replace q5 := q5.below b; replace q7 := q7.below b; replace B := B.trans (b.mono B.size); clear b
        have c_g3 := g3.cell; have f_g3 := g3.free; have a_g3 := fun o => (g3.alloc o).cell; have d_g3 := fun o o2 => ((g3.alloc o).alloc o2).cell; have e_g3 := fun o => (g3.alloc o).free
        go_wp2
        go_ret
        exact ⟨rfl, B⟩
      · obtain ⟨y, l3⟩ := l3 x
        replace l4 := l4 (some (a1, b1))
        rw [← h3] at l3
        rw [← h5] at l4
        subst l1; subst l2; subst l3; subst l4; subst l5
        have w1 : IntKind.i64.wrap (p + 2) = p + 2 := IntWalk.i64_in _ (by omega)
        have w2 : IntKind.i64.wrap (p + 2 + fi) = p + 2 + fi := IntWalk.i64_in _ (by omega)
        clear hc hp hd h2 h3 h4 h5 h6 h7 h8 h9 b1' b2' b3' b4'
        go_enter Try.func6, Try.ntmps6
        go_upto_region 1 with (fail)
        refine wp_gen (fun Wv => Bx Wv (w.heap.size) (24) (#[.int .i64 a0, .int .i64 b0]) ∧ Bx Wv (w.heap.size + 1) (24) (#[.int .i64 a1, .int .i64 b1]) ∧ Below w.heap.size w Wv) ⟨(((Bx.at_ (by simp)).alloc _)), ((Bx.at_ (by simp))), (((Below.refl _ w).alloc (by simp <;> omega) _).alloc (by simp <;> omega) _)⟩ ?_
        rintro wa1 ⟨g1, g2, b⟩
        replace B := B.trans (b.mono B.size); clear b
        have c_g1 := g1.cell; have f_g1 := g1.free; have a_g1 := fun o => (g1.alloc o).cell; have d_g1 := fun o o2 => ((g1.alloc o).alloc o2).cell; have e_g1 := fun o => (g1.alloc o).free
        have c_g2 := g2.cell; have f_g2 := g2.free; have a_g2 := fun o => (g2.alloc o).cell; have d_g2 := fun o o2 => ((g2.alloc o).alloc o2).cell; have e_g2 := fun o => (g2.alloc o).free
        go_wp2_with fail
        refine (AL.out _).mono ?_
        rintro e wa2 ⟨rfl, b⟩
        try clear c_g1 f_g1 a_g1 d_g1 e_g1
        replace g1 := g1.below b; have c_g1 := g1.cell; have f_g1 := g1.free; have a_g1 := fun o => (g1.alloc o).cell; have d_g1 := fun o o2 => ((g1.alloc o).alloc o2).cell; have e_g1 := fun o => (g1.alloc o).free; try clear c_g2 f_g2 a_g2 d_g2 e_g2
        replace g2 := g2.below b; have c_g2 := g2.cell; have f_g2 := g2.free; have a_g2 := fun o => (g2.alloc o).cell; have d_g2 := fun o o2 => ((g2.alloc o).alloc o2).cell; have e_g2 := fun o => (g2.alloc o).free; replace B := B.trans (b.mono B.size); clear b
        go_wp2_with fail
        refine (G.out _ (H.out.below B)).mono ?_
        rintro e w2 ⟨rfl, rfl⟩
        go_wp2_with fail
        refine (CK.out _ (H.out.below B)).mono ?_
        rintro e wa3 ⟨rfl, b⟩
        try clear c_g1 f_g1 a_g1 d_g1 e_g1
        replace g1 := g1.below b; have c_g1 := g1.cell; have f_g1 := g1.free; have a_g1 := fun o => (g1.alloc o).cell; have d_g1 := fun o o2 => ((g1.alloc o).alloc o2).cell; have e_g1 := fun o => (g1.alloc o).free; try clear c_g2 f_g2 a_g2 d_g2 e_g2
        replace g2 := g2.below b; have c_g2 := g2.cell; have f_g2 := g2.free; have a_g2 := fun o => (g2.alloc o).cell; have d_g2 := fun o o2 => ((g2.alloc o).alloc o2).cell; have e_g2 := fun o => (g2.alloc o).free; replace B := B.trans (b.mono B.size); clear b
        go_wp2_with fail
        refine (RT.out _ (H.out.below B)).mono ?_
        rintro e wa4 ⟨rfl, b⟩
        try clear c_g1 f_g1 a_g1 d_g1 e_g1
        replace g1 := g1.below b; have c_g1 := g1.cell; have f_g1 := g1.free; have a_g1 := fun o => (g1.alloc o).cell; have d_g1 := fun o o2 => ((g1.alloc o).alloc o2).cell; have e_g1 := fun o => (g1.alloc o).free; try clear c_g2 f_g2 a_g2 d_g2 e_g2
        replace g2 := g2.below b; have c_g2 := g2.cell; have f_g2 := g2.free; have a_g2 := fun o => (g2.alloc o).cell; have d_g2 := fun o o2 => ((g2.alloc o).alloc o2).cell; have e_g2 := fun o => (g2.alloc o).free; replace B := B.trans (b.mono B.size); clear b
        go_wp2_with fail
        refine (T3.out _ (H.out.below B)).mono ?_
        rintro e wa5 ⟨y1, rfl, o1, b⟩
        try clear c_g1 f_g1 a_g1 d_g1 e_g1
        replace g1 := g1.below b; have c_g1 := g1.cell; have f_g1 := g1.free; have a_g1 := fun o => (g1.alloc o).cell; have d_g1 := fun o o2 => ((g1.alloc o).alloc o2).cell; have e_g1 := fun o => (g1.alloc o).free; try clear c_g2 f_g2 a_g2 d_g2 e_g2
        replace g2 := g2.below b; have c_g2 := g2.cell; have f_g2 := g2.free; have a_g2 := fun o => (g2.alloc o).cell; have d_g2 := fun o o2 => ((g2.alloc o).alloc o2).cell; have e_g2 := fun o => (g2.alloc o).free; replace B := B.trans (b.mono B.size); clear b
        have q3 := o1.rd
        clear o1
        go_wp2_with fail
        refine (T5.out _ _ (H.out.below B) ⟨_, rfl, g2⟩).mono ?_
        rintro e wa6 ⟨y2, rfl, o2, b⟩
        try clear c_g1 f_g1 a_g1 d_g1 e_g1
        replace g1 := g1.below b; have c_g1 := g1.cell; have f_g1 := g1.free; have a_g1 := fun o => (g1.alloc o).cell; have d_g1 := fun o o2 => ((g1.alloc o).alloc o2).cell; have e_g1 := fun o => (g1.alloc o).free; try clear c_g2 f_g2 a_g2 d_g2 e_g2
        replace g2 := g2.below b; have c_g2 := g2.cell; have f_g2 := g2.free; have a_g2 := fun o => (g2.alloc o).cell; have d_g2 := fun o o2 => ((g2.alloc o).alloc o2).cell; have e_g2 := fun o => (g2.alloc o).free; replace q3 := q3.below b; replace B := B.trans (b.mono B.size); clear b
        have q5 := o2.rd
        clear o2
        go_wp2_with fail
        refine (T7.out _ (H.out.below B)).mono ?_
        rintro e wa7 ⟨y3, rfl, o3, b⟩
        try clear c_g1 f_g1 a_g1 d_g1 e_g1
        replace g1 := g1.below b; have c_g1 := g1.cell; have f_g1 := g1.free; have a_g1 := fun o => (g1.alloc o).cell; have d_g1 := fun o o2 => ((g1.alloc o).alloc o2).cell; have e_g1 := fun o => (g1.alloc o).free; try clear c_g2 f_g2 a_g2 d_g2 e_g2
        replace g2 := g2.below b; have c_g2 := g2.cell; have f_g2 := g2.free; have a_g2 := fun o => (g2.alloc o).cell; have d_g2 := fun o o2 => ((g2.alloc o).alloc o2).cell; have e_g2 := fun o => (g2.alloc o).free; replace q3 := q3.below b; replace q5 := q5.below b; replace B := B.trans (b.mono B.size); clear b
        have q7 := o3.rd
        clear o3
        clear c_g1 f_g1 a_g1 d_g1 e_g1 c_g2 f_g2 a_g2 d_g2 e_g2
        clear g1 g2
        go_upto_region 8 with (fail)
        refine wp_gen (fun Wv => Bx Wv (wa7.heap.size) (24) (#[.int .i64 s4, .int .i64 g4]) ∧ Below wa7.heap.size wa7 Wv) ⟨((Bx.at_ (by simp))), ((Below.refl _ wa7).alloc (by simp <;> omega) _)⟩ ?_
        rintro wa8 ⟨g3, b⟩
        replace q3 := q3.below b; replace q5 := q5.below b; replace q7 := q7.below b; replace B := B.trans (b.mono B.size); clear b
        have c_g3 := g3.cell; have f_g3 := g3.free; have a_g3 := fun o => (g3.alloc o).cell; have d_g3 := fun o o2 => ((g3.alloc o).alloc o2).cell; have e_g3 := fun o => (g3.alloc o).free
        obtain ⟨le1, bb, oo, ie, me0, me1⟩ := q3.at0
        clear me1
        go_wp2
        go_ret
        exact ⟨rfl, B⟩
      · subst l1; subst l2
        replace l3 := l3 (some (a1, b1))
        rw [← h5, ← h4] at l3
        have w1 : IntKind.i64.wrap (p + 2) = p + 2 := IntWalk.i64_in _ (by omega)
        have w2 : IntKind.i64.wrap (p + 2 + fi) = p + 2 + fi := IntWalk.i64_in _ (by omega)
        clear hc hp hd h2 h3 h4 h5 h6 h7 h8 h9 b1' b2' b3' b4'
        have hr3 : (r3 = 0 ∧ ∃ y, E3 = [(p + 2 + fi, y)]) ∨ (r3 == 0) = false := by
          by_cases e : r3 = 0
          · exact .inl ⟨e, l3 e⟩
          · exact .inr (by rw [beq_eq_false_iff_ne]; exact e)
        clear l3
        by_cases h4 : r4 = 0
        case neg =>
          have n4 : (r4 != 0) = true := by rw [bne_iff_ne]; exact h4
          clear h4 l4
          rcases hr3 with ⟨rfl, y, rfl⟩ | n3
          · skip
            go_enter Try.func6, Try.ntmps6
            go_upto_region 1 with (fail)
            refine wp_gen (fun Wv => Bx Wv (w.heap.size) (24) (#[.int .i64 a0, .int .i64 b0]) ∧ Bx Wv (w.heap.size + 1) (24) (#[.int .i64 a1, .int .i64 b1]) ∧ Below w.heap.size w Wv) ⟨(((Bx.at_ (by simp)).alloc _)), ((Bx.at_ (by simp))), (((Below.refl _ w).alloc (by simp <;> omega) _).alloc (by simp <;> omega) _)⟩ ?_
            rintro wa1 ⟨g1, g2, b⟩
            replace B := B.trans (b.mono B.size); clear b
            have c_g1 := g1.cell; have f_g1 := g1.free; have a_g1 := fun o => (g1.alloc o).cell; have d_g1 := fun o o2 => ((g1.alloc o).alloc o2).cell; have e_g1 := fun o => (g1.alloc o).free
            have c_g2 := g2.cell; have f_g2 := g2.free; have a_g2 := fun o => (g2.alloc o).cell; have d_g2 := fun o o2 => ((g2.alloc o).alloc o2).cell; have e_g2 := fun o => (g2.alloc o).free
            go_wp2_with fail
            refine (AL.out _).mono ?_
            rintro e wa2 ⟨rfl, b⟩
            try clear c_g1 f_g1 a_g1 d_g1 e_g1
            replace g1 := g1.below b; have c_g1 := g1.cell; have f_g1 := g1.free; have a_g1 := fun o => (g1.alloc o).cell; have d_g1 := fun o o2 => ((g1.alloc o).alloc o2).cell; have e_g1 := fun o => (g1.alloc o).free; try clear c_g2 f_g2 a_g2 d_g2 e_g2
            replace g2 := g2.below b; have c_g2 := g2.cell; have f_g2 := g2.free; have a_g2 := fun o => (g2.alloc o).cell; have d_g2 := fun o o2 => ((g2.alloc o).alloc o2).cell; have e_g2 := fun o => (g2.alloc o).free; replace B := B.trans (b.mono B.size); clear b
            go_wp2_with fail
            refine (G.out _ (H.out.below B)).mono ?_
            rintro e w2 ⟨rfl, rfl⟩
            go_wp2_with fail
            refine (CK.out _ (H.out.below B)).mono ?_
            rintro e wa3 ⟨rfl, b⟩
            try clear c_g1 f_g1 a_g1 d_g1 e_g1
            replace g1 := g1.below b; have c_g1 := g1.cell; have f_g1 := g1.free; have a_g1 := fun o => (g1.alloc o).cell; have d_g1 := fun o o2 => ((g1.alloc o).alloc o2).cell; have e_g1 := fun o => (g1.alloc o).free; try clear c_g2 f_g2 a_g2 d_g2 e_g2
            replace g2 := g2.below b; have c_g2 := g2.cell; have f_g2 := g2.free; have a_g2 := fun o => (g2.alloc o).cell; have d_g2 := fun o o2 => ((g2.alloc o).alloc o2).cell; have e_g2 := fun o => (g2.alloc o).free; replace B := B.trans (b.mono B.size); clear b
            go_wp2_with fail
            refine (RT.out _ (H.out.below B)).mono ?_
            rintro e wa4 ⟨rfl, b⟩
            try clear c_g1 f_g1 a_g1 d_g1 e_g1
            replace g1 := g1.below b; have c_g1 := g1.cell; have f_g1 := g1.free; have a_g1 := fun o => (g1.alloc o).cell; have d_g1 := fun o o2 => ((g1.alloc o).alloc o2).cell; have e_g1 := fun o => (g1.alloc o).free; try clear c_g2 f_g2 a_g2 d_g2 e_g2
            replace g2 := g2.below b; have c_g2 := g2.cell; have f_g2 := g2.free; have a_g2 := fun o => (g2.alloc o).cell; have d_g2 := fun o o2 => ((g2.alloc o).alloc o2).cell; have e_g2 := fun o => (g2.alloc o).free; replace B := B.trans (b.mono B.size); clear b
            go_wp2_with fail
            refine (T3.out _ (H.out.below B)).mono ?_
            rintro e wa5 ⟨y1, rfl, o1, b⟩
            try clear c_g1 f_g1 a_g1 d_g1 e_g1
            replace g1 := g1.below b; have c_g1 := g1.cell; have f_g1 := g1.free; have a_g1 := fun o => (g1.alloc o).cell; have d_g1 := fun o o2 => ((g1.alloc o).alloc o2).cell; have e_g1 := fun o => (g1.alloc o).free; try clear c_g2 f_g2 a_g2 d_g2 e_g2
            replace g2 := g2.below b; have c_g2 := g2.cell; have f_g2 := g2.free; have a_g2 := fun o => (g2.alloc o).cell; have d_g2 := fun o o2 => ((g2.alloc o).alloc o2).cell; have e_g2 := fun o => (g2.alloc o).free; replace B := B.trans (b.mono B.size); clear b
            have q3 := o1.rd
            clear o1
            go_wp2_with fail
            refine (T5.out _ _ (H.out.below B) ⟨_, rfl, g2⟩).mono ?_
            rintro e wa6 ⟨y2, rfl, o2, b⟩
            try clear c_g1 f_g1 a_g1 d_g1 e_g1
            replace g1 := g1.below b; have c_g1 := g1.cell; have f_g1 := g1.free; have a_g1 := fun o => (g1.alloc o).cell; have d_g1 := fun o o2 => ((g1.alloc o).alloc o2).cell; have e_g1 := fun o => (g1.alloc o).free; try clear c_g2 f_g2 a_g2 d_g2 e_g2
            replace g2 := g2.below b; have c_g2 := g2.cell; have f_g2 := g2.free; have a_g2 := fun o => (g2.alloc o).cell; have d_g2 := fun o o2 => ((g2.alloc o).alloc o2).cell; have e_g2 := fun o => (g2.alloc o).free; replace q3 := q3.below b; replace B := B.trans (b.mono B.size); clear b
            have q5 := o2.rd
            clear o2
            go_wp2_with fail
            refine (T7.out _ (H.out.below B)).mono ?_
            rintro e wa7 ⟨y3, rfl, o3, b⟩
            try clear c_g1 f_g1 a_g1 d_g1 e_g1
            replace g1 := g1.below b; have c_g1 := g1.cell; have f_g1 := g1.free; have a_g1 := fun o => (g1.alloc o).cell; have d_g1 := fun o o2 => ((g1.alloc o).alloc o2).cell; have e_g1 := fun o => (g1.alloc o).free; try clear c_g2 f_g2 a_g2 d_g2 e_g2
            replace g2 := g2.below b; have c_g2 := g2.cell; have f_g2 := g2.free; have a_g2 := fun o => (g2.alloc o).cell; have d_g2 := fun o o2 => ((g2.alloc o).alloc o2).cell; have e_g2 := fun o => (g2.alloc o).free; replace q3 := q3.below b; replace q5 := q5.below b; replace B := B.trans (b.mono B.size); clear b
            have q7 := o3.rd
            clear o3
            clear c_g1 f_g1 a_g1 d_g1 e_g1 c_g2 f_g2 a_g2 d_g2 e_g2
            clear g1 g2
            go_upto_region 8 with (fail)
            refine wp_gen (fun Wv => Bx Wv (wa7.heap.size) (24) (#[.int .i64 s4, .int .i64 g4]) ∧ Below wa7.heap.size wa7 Wv) ⟨((Bx.at_ (by simp))), ((Below.refl _ wa7).alloc (by simp <;> omega) _)⟩ ?_
            rintro wa8 ⟨g3, b⟩
            replace q3 := q3.below b; replace q5 := q5.below b; replace q7 := q7.below b; replace B := B.trans (b.mono B.size); clear b
            have c_g3 := g3.cell; have f_g3 := g3.free; have a_g3 := fun o => (g3.alloc o).cell; have d_g3 := fun o o2 => ((g3.alloc o).alloc o2).cell; have e_g3 := fun o => (g3.alloc o).free
            obtain ⟨le1, bb, oo, ie, me0, me1⟩ := q5.at0
            clear me1
            go_wp2
            go_ret
            exact ⟨rfl, B⟩
          · skip
            go_enter Try.func6, Try.ntmps6
            go_upto_region 1 with (fail)
            refine wp_gen (fun Wv => Bx Wv (w.heap.size) (24) (#[.int .i64 a0, .int .i64 b0]) ∧ Bx Wv (w.heap.size + 1) (24) (#[.int .i64 a1, .int .i64 b1]) ∧ Below w.heap.size w Wv) ⟨(((Bx.at_ (by simp)).alloc _)), ((Bx.at_ (by simp))), (((Below.refl _ w).alloc (by simp <;> omega) _).alloc (by simp <;> omega) _)⟩ ?_
            rintro wa1 ⟨g1, g2, b⟩
            replace B := B.trans (b.mono B.size); clear b
            have c_g1 := g1.cell; have f_g1 := g1.free; have a_g1 := fun o => (g1.alloc o).cell; have d_g1 := fun o o2 => ((g1.alloc o).alloc o2).cell; have e_g1 := fun o => (g1.alloc o).free
            have c_g2 := g2.cell; have f_g2 := g2.free; have a_g2 := fun o => (g2.alloc o).cell; have d_g2 := fun o o2 => ((g2.alloc o).alloc o2).cell; have e_g2 := fun o => (g2.alloc o).free
            go_wp2_with fail
            refine (AL.out _).mono ?_
            rintro e wa2 ⟨rfl, b⟩
            try clear c_g1 f_g1 a_g1 d_g1 e_g1
            replace g1 := g1.below b; have c_g1 := g1.cell; have f_g1 := g1.free; have a_g1 := fun o => (g1.alloc o).cell; have d_g1 := fun o o2 => ((g1.alloc o).alloc o2).cell; have e_g1 := fun o => (g1.alloc o).free; try clear c_g2 f_g2 a_g2 d_g2 e_g2
            replace g2 := g2.below b; have c_g2 := g2.cell; have f_g2 := g2.free; have a_g2 := fun o => (g2.alloc o).cell; have d_g2 := fun o o2 => ((g2.alloc o).alloc o2).cell; have e_g2 := fun o => (g2.alloc o).free; replace B := B.trans (b.mono B.size); clear b
            go_wp2_with fail
            refine (G.out _ (H.out.below B)).mono ?_
            rintro e w2 ⟨rfl, rfl⟩
            go_wp2_with fail
            refine (CK.out _ (H.out.below B)).mono ?_
            rintro e wa3 ⟨rfl, b⟩
            try clear c_g1 f_g1 a_g1 d_g1 e_g1
            replace g1 := g1.below b; have c_g1 := g1.cell; have f_g1 := g1.free; have a_g1 := fun o => (g1.alloc o).cell; have d_g1 := fun o o2 => ((g1.alloc o).alloc o2).cell; have e_g1 := fun o => (g1.alloc o).free; try clear c_g2 f_g2 a_g2 d_g2 e_g2
            replace g2 := g2.below b; have c_g2 := g2.cell; have f_g2 := g2.free; have a_g2 := fun o => (g2.alloc o).cell; have d_g2 := fun o o2 => ((g2.alloc o).alloc o2).cell; have e_g2 := fun o => (g2.alloc o).free; replace B := B.trans (b.mono B.size); clear b
            go_wp2_with fail
            refine (RT.out _ (H.out.below B)).mono ?_
            rintro e wa4 ⟨rfl, b⟩
            try clear c_g1 f_g1 a_g1 d_g1 e_g1
            replace g1 := g1.below b; have c_g1 := g1.cell; have f_g1 := g1.free; have a_g1 := fun o => (g1.alloc o).cell; have d_g1 := fun o o2 => ((g1.alloc o).alloc o2).cell; have e_g1 := fun o => (g1.alloc o).free; try clear c_g2 f_g2 a_g2 d_g2 e_g2
            replace g2 := g2.below b; have c_g2 := g2.cell; have f_g2 := g2.free; have a_g2 := fun o => (g2.alloc o).cell; have d_g2 := fun o o2 => ((g2.alloc o).alloc o2).cell; have e_g2 := fun o => (g2.alloc o).free; replace B := B.trans (b.mono B.size); clear b
            go_wp2_with fail
            refine (T3.out _ (H.out.below B)).mono ?_
            rintro e wa5 ⟨y1, rfl, o1, b⟩
            try clear c_g1 f_g1 a_g1 d_g1 e_g1
            replace g1 := g1.below b; have c_g1 := g1.cell; have f_g1 := g1.free; have a_g1 := fun o => (g1.alloc o).cell; have d_g1 := fun o o2 => ((g1.alloc o).alloc o2).cell; have e_g1 := fun o => (g1.alloc o).free; try clear c_g2 f_g2 a_g2 d_g2 e_g2
            replace g2 := g2.below b; have c_g2 := g2.cell; have f_g2 := g2.free; have a_g2 := fun o => (g2.alloc o).cell; have d_g2 := fun o o2 => ((g2.alloc o).alloc o2).cell; have e_g2 := fun o => (g2.alloc o).free; replace B := B.trans (b.mono B.size); clear b
            have q3 := o1.rd
            clear o1
            go_wp2_with fail
            refine (T5.out _ _ (H.out.below B) ⟨_, rfl, g2⟩).mono ?_
            rintro e wa6 ⟨y2, rfl, o2, b⟩
            try clear c_g1 f_g1 a_g1 d_g1 e_g1
            replace g1 := g1.below b; have c_g1 := g1.cell; have f_g1 := g1.free; have a_g1 := fun o => (g1.alloc o).cell; have d_g1 := fun o o2 => ((g1.alloc o).alloc o2).cell; have e_g1 := fun o => (g1.alloc o).free; try clear c_g2 f_g2 a_g2 d_g2 e_g2
            replace g2 := g2.below b; have c_g2 := g2.cell; have f_g2 := g2.free; have a_g2 := fun o => (g2.alloc o).cell; have d_g2 := fun o o2 => ((g2.alloc o).alloc o2).cell; have e_g2 := fun o => (g2.alloc o).free; replace q3 := q3.below b; replace B := B.trans (b.mono B.size); clear b
            have q5 := o2.rd
            clear o2
            go_wp2_with fail
            refine (T7.out _ (H.out.below B)).mono ?_
            rintro e wa7 ⟨y3, rfl, o3, b⟩
            try clear c_g1 f_g1 a_g1 d_g1 e_g1
            replace g1 := g1.below b; have c_g1 := g1.cell; have f_g1 := g1.free; have a_g1 := fun o => (g1.alloc o).cell; have d_g1 := fun o o2 => ((g1.alloc o).alloc o2).cell; have e_g1 := fun o => (g1.alloc o).free; try clear c_g2 f_g2 a_g2 d_g2 e_g2
            replace g2 := g2.below b; have c_g2 := g2.cell; have f_g2 := g2.free; have a_g2 := fun o => (g2.alloc o).cell; have d_g2 := fun o o2 => ((g2.alloc o).alloc o2).cell; have e_g2 := fun o => (g2.alloc o).free; replace q3 := q3.below b; replace q5 := q5.below b; replace B := B.trans (b.mono B.size); clear b
            have q7 := o3.rd
            clear o3
            clear c_g1 f_g1 a_g1 d_g1 e_g1 c_g2 f_g2 a_g2 d_g2 e_g2
            clear g1 g2
            go_upto_region 8 with (fail)
            refine wp_gen (fun Wv => Bx Wv (wa7.heap.size) (24) (#[.int .i64 s4, .int .i64 g4]) ∧ Below wa7.heap.size wa7 Wv) ⟨((Bx.at_ (by simp))), ((Below.refl _ wa7).alloc (by simp <;> omega) _)⟩ ?_
            rintro wa8 ⟨g3, b⟩
            replace q3 := q3.below b; replace q5 := q5.below b; replace q7 := q7.below b; replace B := B.trans (b.mono B.size); clear b
            have c_g3 := g3.cell; have f_g3 := g3.free; have a_g3 := fun o => (g3.alloc o).cell; have d_g3 := fun o o2 => ((g3.alloc o).alloc o2).cell; have e_g3 := fun o => (g3.alloc o).free
            go_wp2
            go_ret
            exact ⟨rfl, B⟩
        case pos =>
          subst h4
          obtain ⟨k, s, y4, rfl, rfl, rfl, hk, hs, hu, hg0, hg1⟩ := l4 rfl
          obtain ⟨sg, su, sa⟩ := s
          dsimp only at hu hg0 hg1
          subst hu
          have HSK := Lib.hid hs
          have k1 : decide ((0 : Int) ≤ (k : Int)) = true := decide_eq_true (by omega)
          have k2 : decide ((k : Int) < 16) = true := decide_eq_true (by omega)
          have w3 : IntKind.i64.wrap (112 + (k : Int)) = 112 + (k : Int) := IntWalk.i64_in _ (by omega)
          have w4 : IntKind.i64.wrap (sg + 1) = sg + 1 := IntWalk.i64_in _ (by omega)
          clear hs hg0 hg1
          rcases hr3 with ⟨rfl, y, rfl⟩ | n3
          · skip
            go_enter Try.func6, Try.ntmps6
            go_upto_region 1 with (fail)
            refine wp_gen (fun Wv => Bx Wv (w.heap.size) (24) (#[.int .i64 a0, .int .i64 b0]) ∧ Bx Wv (w.heap.size + 1) (24) (#[.int .i64 a1, .int .i64 b1]) ∧ Below w.heap.size w Wv) ⟨(((Bx.at_ (by simp)).alloc _)), ((Bx.at_ (by simp))), (((Below.refl _ w).alloc (by simp <;> omega) _).alloc (by simp <;> omega) _)⟩ ?_
            rintro wa1 ⟨g1, g2, b⟩
            replace B := B.trans (b.mono B.size); clear b
            have c_g1 := g1.cell; have f_g1 := g1.free; have a_g1 := fun o => (g1.alloc o).cell; have d_g1 := fun o o2 => ((g1.alloc o).alloc o2).cell; have e_g1 := fun o => (g1.alloc o).free
            have c_g2 := g2.cell; have f_g2 := g2.free; have a_g2 := fun o => (g2.alloc o).cell; have d_g2 := fun o o2 => ((g2.alloc o).alloc o2).cell; have e_g2 := fun o => (g2.alloc o).free
            go_wp2_with fail
            refine (AL.out _).mono ?_
            rintro e wa2 ⟨rfl, b⟩
            try clear c_g1 f_g1 a_g1 d_g1 e_g1
            replace g1 := g1.below b; have c_g1 := g1.cell; have f_g1 := g1.free; have a_g1 := fun o => (g1.alloc o).cell; have d_g1 := fun o o2 => ((g1.alloc o).alloc o2).cell; have e_g1 := fun o => (g1.alloc o).free; try clear c_g2 f_g2 a_g2 d_g2 e_g2
            replace g2 := g2.below b; have c_g2 := g2.cell; have f_g2 := g2.free; have a_g2 := fun o => (g2.alloc o).cell; have d_g2 := fun o o2 => ((g2.alloc o).alloc o2).cell; have e_g2 := fun o => (g2.alloc o).free; replace B := B.trans (b.mono B.size); clear b
            go_wp2_with fail
            refine (G.out _ (H.out.below B)).mono ?_
            rintro e w2 ⟨rfl, rfl⟩
            go_wp2_with fail
            refine (CK.out _ (H.out.below B)).mono ?_
            rintro e wa3 ⟨rfl, b⟩
            try clear c_g1 f_g1 a_g1 d_g1 e_g1
            replace g1 := g1.below b; have c_g1 := g1.cell; have f_g1 := g1.free; have a_g1 := fun o => (g1.alloc o).cell; have d_g1 := fun o o2 => ((g1.alloc o).alloc o2).cell; have e_g1 := fun o => (g1.alloc o).free; try clear c_g2 f_g2 a_g2 d_g2 e_g2
            replace g2 := g2.below b; have c_g2 := g2.cell; have f_g2 := g2.free; have a_g2 := fun o => (g2.alloc o).cell; have d_g2 := fun o o2 => ((g2.alloc o).alloc o2).cell; have e_g2 := fun o => (g2.alloc o).free; replace B := B.trans (b.mono B.size); clear b
            go_wp2_with fail
            refine (RT.out _ (H.out.below B)).mono ?_
            rintro e wa4 ⟨rfl, b⟩
            try clear c_g1 f_g1 a_g1 d_g1 e_g1
            replace g1 := g1.below b; have c_g1 := g1.cell; have f_g1 := g1.free; have a_g1 := fun o => (g1.alloc o).cell; have d_g1 := fun o o2 => ((g1.alloc o).alloc o2).cell; have e_g1 := fun o => (g1.alloc o).free; try clear c_g2 f_g2 a_g2 d_g2 e_g2
            replace g2 := g2.below b; have c_g2 := g2.cell; have f_g2 := g2.free; have a_g2 := fun o => (g2.alloc o).cell; have d_g2 := fun o o2 => ((g2.alloc o).alloc o2).cell; have e_g2 := fun o => (g2.alloc o).free; replace B := B.trans (b.mono B.size); clear b
            go_wp2_with fail
            refine (T3.out _ (H.out.below B)).mono ?_
            rintro e wa5 ⟨y1, rfl, o1, b⟩
            try clear c_g1 f_g1 a_g1 d_g1 e_g1
            replace g1 := g1.below b; have c_g1 := g1.cell; have f_g1 := g1.free; have a_g1 := fun o => (g1.alloc o).cell; have d_g1 := fun o o2 => ((g1.alloc o).alloc o2).cell; have e_g1 := fun o => (g1.alloc o).free; try clear c_g2 f_g2 a_g2 d_g2 e_g2
            replace g2 := g2.below b; have c_g2 := g2.cell; have f_g2 := g2.free; have a_g2 := fun o => (g2.alloc o).cell; have d_g2 := fun o o2 => ((g2.alloc o).alloc o2).cell; have e_g2 := fun o => (g2.alloc o).free; replace B := B.trans (b.mono B.size); clear b
            have q3 := o1.rd
            clear o1
            go_wp2_with fail
            refine (T5.out _ _ (H.out.below B) ⟨_, rfl, g2⟩).mono ?_
            rintro e wa6 ⟨y2, rfl, o2, b⟩
            try clear c_g1 f_g1 a_g1 d_g1 e_g1
            replace g1 := g1.below b; have c_g1 := g1.cell; have f_g1 := g1.free; have a_g1 := fun o => (g1.alloc o).cell; have d_g1 := fun o o2 => ((g1.alloc o).alloc o2).cell; have e_g1 := fun o => (g1.alloc o).free; try clear c_g2 f_g2 a_g2 d_g2 e_g2
            replace g2 := g2.below b; have c_g2 := g2.cell; have f_g2 := g2.free; have a_g2 := fun o => (g2.alloc o).cell; have d_g2 := fun o o2 => ((g2.alloc o).alloc o2).cell; have e_g2 := fun o => (g2.alloc o).free; replace q3 := q3.below b; replace B := B.trans (b.mono B.size); clear b
            have q5 := o2.rd
            clear o2
            go_wp2_with fail
            refine (T7.out _ (H.out.below B)).mono ?_
            rintro e wa7 ⟨y3, rfl, o3, b⟩
            try clear c_g1 f_g1 a_g1 d_g1 e_g1
            replace g1 := g1.below b; have c_g1 := g1.cell; have f_g1 := g1.free; have a_g1 := fun o => (g1.alloc o).cell; have d_g1 := fun o o2 => ((g1.alloc o).alloc o2).cell; have e_g1 := fun o => (g1.alloc o).free; try clear c_g2 f_g2 a_g2 d_g2 e_g2
            replace g2 := g2.below b; have c_g2 := g2.cell; have f_g2 := g2.free; have a_g2 := fun o => (g2.alloc o).cell; have d_g2 := fun o o2 => ((g2.alloc o).alloc o2).cell; have e_g2 := fun o => (g2.alloc o).free; replace q3 := q3.below b; replace q5 := q5.below b; replace B := B.trans (b.mono B.size); clear b
            have q7 := o3.rd
            clear o3
            clear c_g1 f_g1 a_g1 d_g1 e_g1 c_g2 f_g2 a_g2 d_g2 e_g2
            clear g1 g2
            go_upto_region 8 with (fail)
            refine wp_gen (fun Wv => Bx Wv (wa7.heap.size) (24) (#[.int .i64 (k : Int), .int .i64 (sg + 1)]) ∧ Below wa7.heap.size wa7 Wv) ⟨((Bx.at_ (by simp))), ((Below.refl _ wa7).alloc (by simp <;> omega) _)⟩ ?_
            rintro wa8 ⟨g3, b⟩
            replace q3 := q3.below b; replace q5 := q5.below b; replace q7 := q7.below b; replace B := B.trans (b.mono B.size); clear b
            have c_g3 := g3.cell; have f_g3 := g3.free; have a_g3 := fun o => (g3.alloc o).cell; have d_g3 := fun o o2 => ((g3.alloc o).alloc o2).cell; have e_g3 := fun o => (g3.alloc o).free
            obtain ⟨le1, bb, oo, ie, me0, me1⟩ := q5.at0
            clear me1
            go_wp2_with fail
            refine (ST.out _ (H.out.below B)).mono ?_
            rintro e wa9 ⟨xs, rfl, os, b⟩
            replace q3 := q3.below b; replace q5 := q5.below b; replace q7 := q7.below b; try clear c_g3 f_g3 a_g3 d_g3 e_g3
            replace g3 := g3.below b; have c_g3 := g3.cell; have f_g3 := g3.free; have a_g3 := fun o => (g3.alloc o).cell; have d_g3 := fun o o2 => ((g3.alloc o).alloc o2).cell; have e_g3 := fun o => (g3.alloc o).free; replace B := B.trans (b.mono B.size); clear b
            have hsl : Slots wa9 xs S := os.rd
            clear os
            obtain ⟨le4, bb4, oo4, ie4, me4, me5⟩ := q7.at0
            obtain ⟨bs, qs, s5, is, ms0, ms1, ms2, hs5⟩ := hsl.at_ (P := Try.prog) Try.underlying50 size_slot (k := k) (by rw [HS16.out]; exact hk)
            obtain rfl : s5 = ⟨sg, false, sa⟩ := by have := hs5.out; rw [HSK.out] at this; injection this with e; exact e.symm
            have ls := Rd.len hsl Try.underlying50
            rw [HS16.out] at ls
            have ls16 : ∀ ty W, (Builtin.len_ #[50] ty #[xs]).run Try.prog W = .ok (.int .i64 16) W := ls
            clear ls me5 ms2 hs5 hsl
            go_upto_region 15 with (fail)
            go_big_quiet (fail)
            go_wp2
            go_ret
            exact ⟨rfl, below_drewN B _⟩
          · skip
            go_enter Try.func6, Try.ntmps6
            go_upto_region 1 with (fail)
            refine wp_gen (fun Wv => Bx Wv (w.heap.size) (24) (#[.int .i64 a0, .int .i64 b0]) ∧ Bx Wv (w.heap.size + 1) (24) (#[.int .i64 a1, .int .i64 b1]) ∧ Below w.heap.size w Wv) ⟨(((Bx.at_ (by simp)).alloc _)), ((Bx.at_ (by simp))), (((Below.refl _ w).alloc (by simp <;> omega) _).alloc (by simp <;> omega) _)⟩ ?_
            rintro wa1 ⟨g1, g2, b⟩
            replace B := B.trans (b.mono B.size); clear b
            have c_g1 := g1.cell; have f_g1 := g1.free; have a_g1 := fun o => (g1.alloc o).cell; have d_g1 := fun o o2 => ((g1.alloc o).alloc o2).cell; have e_g1 := fun o => (g1.alloc o).free
            have c_g2 := g2.cell; have f_g2 := g2.free; have a_g2 := fun o => (g2.alloc o).cell; have d_g2 := fun o o2 => ((g2.alloc o).alloc o2).cell; have e_g2 := fun o => (g2.alloc o).free
            go_wp2_with fail
            refine (AL.out _).mono ?_
            rintro e wa2 ⟨rfl, b⟩
            try clear c_g1 f_g1 a_g1 d_g1 e_g1
            replace g1 := g1.below b; have c_g1 := g1.cell; have f_g1 := g1.free; have a_g1 := fun o => (g1.alloc o).cell; have d_g1 := fun o o2 => ((g1.alloc o).alloc o2).cell; have e_g1 := fun o => (g1.alloc o).free; try clear c_g2 f_g2 a_g2 d_g2 e_g2
            replace g2 := g2.below b; have c_g2 := g2.cell; have f_g2 := g2.free; have a_g2 := fun o => (g2.alloc o).cell; have d_g2 := fun o o2 => ((g2.alloc o).alloc o2).cell; have e_g2 := fun o => (g2.alloc o).free; replace B := B.trans (b.mono B.size); clear b
            go_wp2_with fail
            refine (G.out _ (H.out.below B)).mono ?_
            rintro e w2 ⟨rfl, rfl⟩
            go_wp2_with fail
            refine (CK.out _ (H.out.below B)).mono ?_
            rintro e wa3 ⟨rfl, b⟩
            try clear c_g1 f_g1 a_g1 d_g1 e_g1
            replace g1 := g1.below b; have c_g1 := g1.cell; have f_g1 := g1.free; have a_g1 := fun o => (g1.alloc o).cell; have d_g1 := fun o o2 => ((g1.alloc o).alloc o2).cell; have e_g1 := fun o => (g1.alloc o).free; try clear c_g2 f_g2 a_g2 d_g2 e_g2
            replace g2 := g2.below b; have c_g2 := g2.cell; have f_g2 := g2.free; have a_g2 := fun o => (g2.alloc o).cell; have d_g2 := fun o o2 => ((g2.alloc o).alloc o2).cell; have e_g2 := fun o => (g2.alloc o).free; replace B := B.trans (b.mono B.size); clear b
            go_wp2_with fail
            refine (RT.out _ (H.out.below B)).mono ?_
            rintro e wa4 ⟨rfl, b⟩
            try clear c_g1 f_g1 a_g1 d_g1 e_g1
            replace g1 := g1.below b; have c_g1 := g1.cell; have f_g1 := g1.free; have a_g1 := fun o => (g1.alloc o).cell; have d_g1 := fun o o2 => ((g1.alloc o).alloc o2).cell; have e_g1 := fun o => (g1.alloc o).free; try clear c_g2 f_g2 a_g2 d_g2 e_g2
            replace g2 := g2.below b; have c_g2 := g2.cell; have f_g2 := g2.free; have a_g2 := fun o => (g2.alloc o).cell; have d_g2 := fun o o2 => ((g2.alloc o).alloc o2).cell; have e_g2 := fun o => (g2.alloc o).free; replace B := B.trans (b.mono B.size); clear b
            go_wp2_with fail
            refine (T3.out _ (H.out.below B)).mono ?_
            rintro e wa5 ⟨y1, rfl, o1, b⟩
            try clear c_g1 f_g1 a_g1 d_g1 e_g1
            replace g1 := g1.below b; have c_g1 := g1.cell; have f_g1 := g1.free; have a_g1 := fun o => (g1.alloc o).cell; have d_g1 := fun o o2 => ((g1.alloc o).alloc o2).cell; have e_g1 := fun o => (g1.alloc o).free; try clear c_g2 f_g2 a_g2 d_g2 e_g2
            replace g2 := g2.below b; have c_g2 := g2.cell; have f_g2 := g2.free; have a_g2 := fun o => (g2.alloc o).cell; have d_g2 := fun o o2 => ((g2.alloc o).alloc o2).cell; have e_g2 := fun o => (g2.alloc o).free; replace B := B.trans (b.mono B.size); clear b
            have q3 := o1.rd
            clear o1
            go_wp2_with fail
            refine (T5.out _ _ (H.out.below B) ⟨_, rfl, g2⟩).mono ?_
            rintro e wa6 ⟨y2, rfl, o2, b⟩
            try clear c_g1 f_g1 a_g1 d_g1 e_g1
            replace g1 := g1.below b; have c_g1 := g1.cell; have f_g1 := g1.free; have a_g1 := fun o => (g1.alloc o).cell; have d_g1 := fun o o2 => ((g1.alloc o).alloc o2).cell; have e_g1 := fun o => (g1.alloc o).free; try clear c_g2 f_g2 a_g2 d_g2 e_g2
            replace g2 := g2.below b; have c_g2 := g2.cell; have f_g2 := g2.free; have a_g2 := fun o => (g2.alloc o).cell; have d_g2 := fun o o2 => ((g2.alloc o).alloc o2).cell; have e_g2 := fun o => (g2.alloc o).free; replace q3 := q3.below b; replace B := B.trans (b.mono B.size); clear b
            have q5 := o2.rd
            clear o2
            go_wp2_with fail
            refine (T7.out _ (H.out.below B)).mono ?_
            rintro e wa7 ⟨y3, rfl, o3, b⟩
            try clear c_g1 f_g1 a_g1 d_g1 e_g1
            replace g1 := g1.below b; have c_g1 := g1.cell; have f_g1 := g1.free; have a_g1 := fun o => (g1.alloc o).cell; have d_g1 := fun o o2 => ((g1.alloc o).alloc o2).cell; have e_g1 := fun o => (g1.alloc o).free; try clear c_g2 f_g2 a_g2 d_g2 e_g2
            replace g2 := g2.below b; have c_g2 := g2.cell; have f_g2 := g2.free; have a_g2 := fun o => (g2.alloc o).cell; have d_g2 := fun o o2 => ((g2.alloc o).alloc o2).cell; have e_g2 := fun o => (g2.alloc o).free; replace q3 := q3.below b; replace q5 := q5.below b; replace B := B.trans (b.mono B.size); clear b
            have q7 := o3.rd
            clear o3
            clear c_g1 f_g1 a_g1 d_g1 e_g1 c_g2 f_g2 a_g2 d_g2 e_g2
            clear g1 g2
            go_upto_region 8 with (fail)
            refine wp_gen (fun Wv => Bx Wv (wa7.heap.size) (24) (#[.int .i64 (k : Int), .int .i64 (sg + 1)]) ∧ Below wa7.heap.size wa7 Wv) ⟨((Bx.at_ (by simp))), ((Below.refl _ wa7).alloc (by simp <;> omega) _)⟩ ?_
            rintro wa8 ⟨g3, b⟩
            replace q3 := q3.below b; replace q5 := q5.below b; replace q7 := q7.below b; replace B := B.trans (b.mono B.size); clear b
            have c_g3 := g3.cell; have f_g3 := g3.free; have a_g3 := fun o => (g3.alloc o).cell; have d_g3 := fun o o2 => ((g3.alloc o).alloc o2).cell; have e_g3 := fun o => (g3.alloc o).free
            go_wp2_with fail
            refine (ST.out _ (H.out.below B)).mono ?_
            rintro e wa9 ⟨xs, rfl, os, b⟩
            replace q3 := q3.below b; replace q5 := q5.below b; replace q7 := q7.below b; try clear c_g3 f_g3 a_g3 d_g3 e_g3
            replace g3 := g3.below b; have c_g3 := g3.cell; have f_g3 := g3.free; have a_g3 := fun o => (g3.alloc o).cell; have d_g3 := fun o o2 => ((g3.alloc o).alloc o2).cell; have e_g3 := fun o => (g3.alloc o).free; replace B := B.trans (b.mono B.size); clear b
            have hsl : Slots wa9 xs S := os.rd
            clear os
            obtain ⟨le4, bb4, oo4, ie4, me4, me5⟩ := q7.at0
            obtain ⟨bs, qs, s5, is, ms0, ms1, ms2, hs5⟩ := hsl.at_ (P := Try.prog) Try.underlying50 size_slot (k := k) (by rw [HS16.out]; exact hk)
            obtain rfl : s5 = ⟨sg, false, sa⟩ := by have := hs5.out; rw [HSK.out] at this; injection this with e; exact e.symm
            have ls := Rd.len hsl Try.underlying50
            rw [HS16.out] at ls
            have ls16 : ∀ ty W, (Builtin.len_ #[50] ty #[xs]).run Try.prog W = .ok (.int .i64 16) W := ls
            clear ls me5 ms2 hs5 hsl
            go_upto_region 15 with (fail)
            go_big_quiet (fail)
            go_wp2
            go_ret
            exact ⟨rfl, below_drewN B _⟩
end Go.Proofs.Ytiiilaojllmmiaa
