/- The walk of the law AllocWords. -/
import Derived.Test.YtmbokdnndlnjkaaMAs
set_option linter.unusedVariables false
set_option linter.unusedSimpArgs false
namespace Go.Proofs.Ytmbokdnndlnjkaa
open Go.RowKit L01 L02 L05 L06 L07 L13 L14 L15 L16 L18 L19 L20

set_option maxRecDepth 100000 in
set_option maxHeartbeats 16000000 in
theorem AllocWords_walk (v0 : Value) (l : List UInt64) (ti : Int) (w : World) (h0 : Words w v0 l) (_f1 : -9223372036854775808 ≤ ti ∧ ti ≤ 9223372036854775807) :
    Calls Try.prog 7 #[v0, .int .i64 ti] w fun e w' => e = .returned (.bool true) ∧ Below w.heap.size w w' := by
  have B : Below w.heap.size w w := Below.refl _ _
  have H := Lib.hid h0; clear h0 _f1
  have AL := Lib.hid alive22_any
  have G := Lib.hid (fun w h => Great_any v0 l w h)
  obtain ⟨gr, hgr⟩ : ∃ g, g = decide (2100 < l.length) := ⟨_, rfl⟩
  have HGR := Lib.hid hgr
  rw [← hgr] at G
  clear hgr
  cases gr
  case true =>
    go_enter Try.func7, Try.ntmps7
    go_wp2_with fail
    refine (AL.out _).mono ?_
    rintro e wa1 ⟨rfl, b⟩
    replace B := B.trans (b.mono B.size); clear b
    go_wp2_with fail
    refine (G.out _ (H.out.below B)).mono ?_
    rintro e w2 ⟨rfl, rfl⟩
    go_wp2
    go_ret
    exact ⟨rfl, B⟩
  case false =>
    have hln : l.length ≤ 2100 := by have := HGR.out; simp at this; omega
    obtain ⟨c9, hc⟩ : ∃ v, v = chk19 l := ⟨_, rfl⟩
    have CK := Lib.hid (fun w h => Check19_any v0 l c9 hc w h)
    by_cases h0 : c9 = 0
    case neg =>
      have n1 : (c9 != 0) = true := by rw [bne_iff_ne]; exact h0
      clear hc h0 hln
      go_enter Try.func7, Try.ntmps7
      go_wp2_with fail
      refine (AL.out _).mono ?_
      rintro e wa1 ⟨rfl, b⟩
      replace B := B.trans (b.mono B.size); clear b
      go_wp2_with fail
      refine (G.out _ (H.out.below B)).mono ?_
      rintro e w2 ⟨rfl, rfl⟩
      go_wp2_with fail
      refine (CK.out _ (H.out.below B)).mono ?_
      rintro e wa2 ⟨rfl, b⟩
      replace B := B.trans (b.mono B.size); clear b
      go_wp2
      go_ret
      exact ⟨rfl, B⟩
    case pos =>
      subst h0
      have rt : Rt l := Rt.of hc.symm
      obtain ⟨E, hE⟩ : ∃ x, x = aiL l ti := ⟨_, rfl⟩
      obtain ⟨s1, hs1⟩ : ∃ x, x = aiS l ti := ⟨_, rfl⟩
      obtain ⟨s2, hs2⟩ : ∃ x, x = aiG l ti := ⟨_, rfl⟩
      obtain ⟨r, hr⟩ : ∃ x, x = aiE l ti := ⟨_, rfl⟩
      have CH := Lib.hid (fun w h => Change_any v0 l ti E s1 s2 r hE hs1 hs2 hr w h)
      by_cases hr0 : r = 0
      case neg =>
        have n1 : (r != 0) = true := by rw [bne_iff_ne]; exact hr0
        clear hc rt hE hs1 hs2 hr hr0 hln
        go_enter Try.func7, Try.ntmps7
        go_wp2_with fail
        refine (AL.out _).mono ?_
        rintro e wa1 ⟨rfl, b⟩
        replace B := B.trans (b.mono B.size); clear b
        go_wp2_with fail
        refine (G.out _ (H.out.below B)).mono ?_
        rintro e w2 ⟨rfl, rfl⟩
        go_wp2_with fail
        refine (CK.out _ (H.out.below B)).mono ?_
        rintro e wa2 ⟨rfl, b⟩
        replace B := B.trans (b.mono B.size); clear b
        go_wp2_with fail
        refine (CH.out _ (H.out.below B)).mono ?_
        rintro e wa3 ⟨y, rfl, o1, b⟩
        replace B := B.trans (b.mono B.size); clear b
        have q1 := o1.rd
        clear o1
        go_upto_region 5 with (fail)
        refine wp_gen (fun Wv => Bx Wv (wa3.heap.size) (35) (#[.int .i64 s1, .int .i64 s2]) ∧ Below wa3.heap.size wa3 Wv) ⟨((Bx.at_ (by simp))), ((Below.refl _ wa3).alloc (by simp <;> omega) _)⟩ ?_
        rintro wa4 ⟨g1, b⟩
        replace q1 := q1.below b; replace B := B.trans (b.mono B.size); clear b
        have c_g1 := g1.cell; have f_g1 := g1.free; have a_g1 := fun o => (g1.alloc o).cell; have d_g1 := fun o o2 => ((g1.alloc o).alloc o2).cell; have e_g1 := fun o => (g1.alloc o).free
        go_wp2
        go_ret
        exact ⟨rfl, B⟩
      case pos =>
        subst hr0
        obtain ⟨q, k, p, n, c, g0, b, t, PP, SS, rfl, al⟩ := Al.of hr.symm
        obtain ⟨l', hl'⟩ : ∃ x, x = made l (aiL l q) := ⟨_, rfl⟩
        rw [← hl'] at al
        obtain rfl : s1 = (k : Int) := by rw [hs1, al.hS]
        obtain rfl : s2 = g0 + 1 := by rw [hs2, al.hG]
        have hlE : made l E = l' := by rw [hE, hl']
        have ac := al.hc; have an := al.hn2; have ap := al.hp; have ak := al.hk; have ag := al.hg
        have all' := al.len
        obtain ⟨ar1, ar2⟩ := al.res
        obtain ⟨af1, af2⟩ := al.found
        obtain ⟨aw1, aw2, aw3⟩ := al.words
        obtain ⟨_, _, _, rt', _⟩ := al.after
        have MK := Lib.hid (fun ev w h he => Made_any v0 ev l E (by omega) w h he)
        rw [hlE] at MK
        have RV := Lib.hid (fun v w h => Resolve_any v l' k (g0 + 1) (p : Int) 0 ar2.symm ar1.symm w h)
        have FI : Hid (∀ v w, Words w v l' → Calls Try.prog 37 #[v, .int .i64 p] w fun e w' => e = .returned (.tuple #[.agg #[.int .i64 p, .int .i64 n, .int .i64 1, .int .i64 q, .bool false, .int .u64 0], .int .i64 0]) ∧ Below w.heap.size w w') := Lib.hid (fun v w h => Find_any v l' (p : Int) (objH p n q) 0 af2.symm af1.symm w h)
        obtain ⟨s, hs⟩ : ∃ s, s = sumE l := ⟨_, rfl⟩
        obtain ⟨s', hs'⟩ : ∃ s, s = sumE l' := ⟨_, rfl⟩
        have S0 := Lib.hid (fun w h => Words16_any v0 l s 0 hs rt.al.symm w h)
        have S1 := Lib.hid (fun v w h => Words16_any v l' s' 0 hs' rt'.al.symm w h)
        rw [← hs, ← hs'] at aw1
        rw [← hs'] at aw2
        rw [← hs] at aw3
        obtain ⟨LL, hLL⟩ : ∃ x, x = l'.length := ⟨_, rfl⟩
        have HLL := Lib.hid hLL.symm
        rw [← hLL] at all'
        have wpn : IntKind.i64.wrap ((p : Int) + (n : Int)) = (p : Int) + (n : Int) := IntWalk.i64_in _ (by omega)
        have wss : IntKind.i64.wrap (s - s') = (n : Int) := by rw [IntWalk.i64_in _ (by omega)]; omega
        have t1 : decide ((p : Int) < 128) = false := decide_eq_false (by omega)
        have t2 : decide ((LL : Int) < (p : Int) + (n : Int)) = false := decide_eq_false (by omega)
        have HZ := Lib.hid al.zero
        clear hc rt hE hs1 hs2 hr hlE hl' al ar1 ar2 af1 af2 aw1 aw2 aw3 rt' hs hs' hLL ag
        go_enter Try.func7, Try.ntmps7
        go_wp2_with fail
        refine (AL.out _).mono ?_
        rintro e wa1 ⟨rfl, b⟩
        replace B := B.trans (b.mono B.size); clear b
        go_wp2_with fail
        refine (G.out _ (H.out.below B)).mono ?_
        rintro e w2 ⟨rfl, rfl⟩
        go_wp2_with fail
        refine (CK.out _ (H.out.below B)).mono ?_
        rintro e wa2 ⟨rfl, b⟩
        replace B := B.trans (b.mono B.size); clear b
        go_wp2_with fail
        refine (CH.out _ (H.out.below B)).mono ?_
        rintro e wa3 ⟨y, rfl, o1, b⟩
        replace B := B.trans (b.mono B.size); clear b
        have q1 := o1.rd
        clear o1
        go_upto_region 5 with (fail)
        refine wp_gen (fun Wv => Bx Wv (wa3.heap.size) (35) (#[.int .i64 (k : Int), .int .i64 (g0 + 1)]) ∧ Below wa3.heap.size wa3 Wv) ⟨((Bx.at_ (by simp))), ((Below.refl _ wa3).alloc (by simp <;> omega) _)⟩ ?_
        rintro wa4 ⟨g1, b⟩
        replace q1 := q1.below b; replace B := B.trans (b.mono B.size); clear b
        have c_g1 := g1.cell; have f_g1 := g1.free; have a_g1 := fun o => (g1.alloc o).cell; have d_g1 := fun o o2 => ((g1.alloc o).alloc o2).cell; have e_g1 := fun o => (g1.alloc o).free
        go_wp2_with fail
        refine (MK.out _ _ (H.out.below B) q1).mono ?_
        rintro e wa5 ⟨z, rfl, oz, b⟩
        replace q1 := q1.below b; try clear c_g1 f_g1 a_g1 d_g1 e_g1
        replace g1 := g1.below b; have c_g1 := g1.cell; have f_g1 := g1.free; have a_g1 := fun o => (g1.alloc o).cell; have d_g1 := fun o o2 => ((g1.alloc o).alloc o2).cell; have e_g1 := fun o => (g1.alloc o).free; replace B := B.trans (b.mono B.size); clear b
        have rz := oz.rd
        clear oz q1
        have lz := Rd.len rz Try.underlying22
        rw [HLL.out] at lz
        go_wp2_with fail
        refine (RV.out _ _ rz).mono ?_
        rintro e wa6 ⟨rfl, b⟩
        try clear c_g1 f_g1 a_g1 d_g1 e_g1
        replace g1 := g1.below b; have c_g1 := g1.cell; have f_g1 := g1.free; have a_g1 := fun o => (g1.alloc o).cell; have d_g1 := fun o o2 => ((g1.alloc o).alloc o2).cell; have e_g1 := fun o => (g1.alloc o).free; replace rz := rz.below b; replace B := B.trans (b.mono B.size); clear b
        go_wp2_with fail
        refine (FI.out _ _ rz).mono ?_
        rintro e wa7 ⟨rfl, b⟩
        try clear c_g1 f_g1 a_g1 d_g1 e_g1
        replace g1 := g1.below b; have c_g1 := g1.cell; have f_g1 := g1.free; have a_g1 := fun o => (g1.alloc o).cell; have d_g1 := fun o o2 => ((g1.alloc o).alloc o2).cell; have e_g1 := fun o => (g1.alloc o).free; replace rz := rz.below b; replace B := B.trans (b.mono B.size); clear b
        go_upto_region 10 with (fail)
        refine wp_gen (fun Wv => Bx Wv (wa7.heap.size) (54) (#[.int .i64 p, .int .i64 n, .int .i64 1, .int .i64 q, .bool false, .int .u64 0]) ∧ Below wa7.heap.size wa7 Wv) ⟨((Bx.at_ (by simp))), ((Below.refl _ wa7).alloc (by simp <;> omega) _)⟩ ?_
        rintro wa8 ⟨g2, b⟩
        try clear c_g1 f_g1 a_g1 d_g1 e_g1
        replace g1 := g1.below b; have c_g1 := g1.cell; have f_g1 := g1.free; have a_g1 := fun o => (g1.alloc o).cell; have d_g1 := fun o o2 => ((g1.alloc o).alloc o2).cell; have e_g1 := fun o => (g1.alloc o).free; replace rz := rz.below b; replace B := B.trans (b.mono B.size); clear b
        have c_g2 := g2.cell; have f_g2 := g2.free; have a_g2 := fun o => (g2.alloc o).cell; have d_g2 := fun o o2 => ((g2.alloc o).alloc o2).cell; have e_g2 := fun o => (g2.alloc o).free
        go_wp2_with fail
        refine (S0.out _ (H.out.below B)).mono ?_
        rintro e wa9 ⟨x1, rfl, b⟩
        try clear c_g1 f_g1 a_g1 d_g1 e_g1
        replace g1 := g1.below b; have c_g1 := g1.cell; have f_g1 := g1.free; have a_g1 := fun o => (g1.alloc o).cell; have d_g1 := fun o o2 => ((g1.alloc o).alloc o2).cell; have e_g1 := fun o => (g1.alloc o).free; replace rz := rz.below b; try clear c_g2 f_g2 a_g2 d_g2 e_g2
        replace g2 := g2.below b; have c_g2 := g2.cell; have f_g2 := g2.free; have a_g2 := fun o => (g2.alloc o).cell; have d_g2 := fun o o2 => ((g2.alloc o).alloc o2).cell; have e_g2 := fun o => (g2.alloc o).free; replace B := B.trans (b.mono B.size); clear b
        go_wp2_with fail
        refine (S1.out _ _ rz).mono ?_
        rintro e wa10 ⟨x2, rfl, b⟩
        try clear c_g1 f_g1 a_g1 d_g1 e_g1
        replace g1 := g1.below b; have c_g1 := g1.cell; have f_g1 := g1.free; have a_g1 := fun o => (g1.alloc o).cell; have d_g1 := fun o o2 => ((g1.alloc o).alloc o2).cell; have e_g1 := fun o => (g1.alloc o).free; replace rz := rz.below b; try clear c_g2 f_g2 a_g2 d_g2 e_g2
        replace g2 := g2.below b; have c_g2 := g2.cell; have f_g2 := g2.free; have a_g2 := fun o => (g2.alloc o).cell; have d_g2 := fun o o2 => ((g2.alloc o).alloc o2).cell; have e_g2 := fun o => (g2.alloc o).free; replace B := B.trans (b.mono B.size); clear b
        have HQ := Lib.hid (And.intro rz (And.intro g2 B))
        clear rz g1 c_g1 f_g1 a_g1 d_g1 e_g1 B
        go_wp2
        clear g2 c_g2 f_g2 a_g2 d_g2 e_g2
        go_loopg [20] (n - 1) (fun g i wr => ∃ m : Nat, p + 1 ≤ m ∧ m ≤ p + n ∧ g = p + n - m ∧ i = .int .i64 (m : Int) ∧ Hid (Words wr z l' ∧ Bx wr wa7.heap.size 54 #[.int .i64 p, .int .i64 n, .int .i64 1, .int .i64 q, .bool false, .int .u64 0] ∧ Below w.heap.size w wr))
        case atStart => exact ⟨p + 1, by omega, by omega, by omega, by rw [show ((p + 1 : Nat) : Int) = (p : Int) + 1 by omega], HQ⟩
        case round =>
          obtain ⟨m, hm1, hm2, rfl, rfl, hh⟩ := hrel
          clear HQ
          have c_2 := hh.out.2.1.cell
          by_cases hlt : m < p + n
          · obtain ⟨ad3, x3, ia3, ca3, hx3⟩ := hh.out.1.at_ (P := Try.prog) Try.underlying22 one_u64 (k := m) (by rw [HLL.out]; omega)
            have c3 : wr.cell? ad3 = some (.int .u64 0) := by
              have h1 := hx3.out
              rw [HZ.out m (by omega) (by omega)] at h1
              injection h1 with h1
              rw [ca3, ← h1]; rfl
            have c1 : decide ((m : Int) < (p : Int) + (n : Int)) = true := decide_eq_true (by omega)
            clear ca3 hx3
            go_wp2
            go_roundg (p + n - (m + 1))
            case measure => omega
            case rel => exact ⟨m + 1, by omega, by omega, rfl, by go_num, hh⟩
          · have c1 : decide ((m : Int) < (p : Int) + (n : Int)) = false := decide_eq_false (by omega)
            have B := hh.out.2.2
            go_wp2
            go_ret
            exact ⟨rfl, B⟩
end Go.Proofs.Ytmbokdnndlnjkaa
