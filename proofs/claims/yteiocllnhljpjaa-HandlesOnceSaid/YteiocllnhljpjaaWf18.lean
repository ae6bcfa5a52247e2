/- The walk of the law HandlesOnce. -/
import Derived.Test.YteiocllnhljpjaaC18l
import Derived.Test.YteiocllnhljpjaaFrame3
import Derived.Deep.DeepCutAuto
set_option linter.unusedVariables false
set_option linter.unusedSimpArgs false
namespace Go.Proofs.Yteiocllnhljpjaa
open Go.RowKit L01 L02 L18

set_option maxRecDepth 100000 in
set_option maxHeartbeats 8000000 in
theorem HandlesOnce_walk (v0 : Value) (l : List UInt64) (vc : Value) (C : List Int) (w : World) (h0 : Words w v0 l) (hc : Ints w vc C) :
    Calls Try.prog 7 #[v0, vc] w fun e w' => e = .returned (.bool true) ∧ Below w.heap.size w w' := by
  have B : Below w.heap.size w w := Below.refl _ _
  have lc := Rd.len hc Try.underlying64
  have H := Lib.hid h0; have HK := Lib.hid hc; clear h0 hc
  by_cases hbig : 2100 < l.length
  · skip
    go_enter Try.func7, Try.ntmps7
    go_wp2_with fail
    refine (alive18_any _).mono ?_
    rintro e w' ⟨rfl, b⟩
    replace B := B.trans (b.mono B.size); clear b
    go_wp2_with fail
    refine (Great_any _ _ _ (H.out.below B)).mono ?_
    rw [decide_eq_true hbig]
    rintro e w' ⟨rfl, rfl⟩
    go_wp2
    go_ret
    exact ⟨rfl, B⟩
  have CT := fun w h => CheckR_any v0 l w h
  by_cases hs : SizeOk l.length
  rotate_left
  · rw [chk_no hs] at CT
    have HC := Lib.hid CT; clear CT
    go_enter Try.func7, Try.ntmps7
    go_wp2_with fail
    refine (alive18_any _).mono ?_
    rintro e w' ⟨rfl, b⟩
    replace B := B.trans (b.mono B.size); clear b
    go_wp2_with fail
    refine (Great_any _ _ _ (H.out.below B)).mono ?_
    rw [decide_eq_false hbig]
    rintro e w' ⟨rfl, rfl⟩
    go_wp2_with fail
    refine (HC.out _ (H.out.below B)).mono ?_
    rintro e w' ⟨rfl, rfl⟩
    go_wp2
    go_ret
    exact ⟨rfl, B⟩
  rw [chk_ok hs] at CT
  have HC := Lib.hid CT; clear CT
  by_cases hmany : 60 < (C.length : Int)
  · clear hs
    go_enter Try.func7, Try.ntmps7
    go_wp2_with fail
    refine (alive18_any _).mono ?_
    rintro e w' ⟨rfl, b⟩
    replace B := B.trans (b.mono B.size); clear b
    go_wp2_with fail
    refine (Great_any _ _ _ (H.out.below B)).mono ?_
    rw [decide_eq_false hbig]
    rintro e w' ⟨rfl, rfl⟩
    go_wp2_with fail
    refine (HC.out _ (H.out.below B)).mono ?_
    rintro e w' ⟨rfl, rfl⟩
    go_wp2
    go_ret
    exact ⟨rfl, B⟩
  by_cases h0 : openErr l = 0
  rotate_left
  · obtain ⟨oe, hoe⟩ : ∃ oe, oe = openErr l := ⟨_, rfl⟩
    have hne : (oe != 0) = true := by rw [bne_iff_ne, hoe]; exact h0
    have AT := fun v w h => All18_any v l _ oe rfl hoe w h
    have HA := Lib.hid AT
    clear AT h0 hoe hs
    go_enter Try.func7, Try.ntmps7
    go_wp2_with fail
    refine (alive18_any _).mono ?_
    rintro e w' ⟨rfl, b⟩
    replace B := B.trans (b.mono B.size); clear b
    go_wp2_with fail
    refine (Great_any _ _ _ (H.out.below B)).mono ?_
    rw [decide_eq_false hbig]
    rintro e w' ⟨rfl, rfl⟩
    go_wp2_with fail
    refine (HC.out _ (H.out.below B)).mono ?_
    rintro e w' ⟨rfl, rfl⟩
    go_wp2_with fail
    refine (HA.out _ _ (H.out.below B)).mono ?_
    rintro e w' ⟨xl, E, rfl, o1, b⟩
    replace B := B.trans (b.mono B.size); clear b
    go_wp2
    go_ret
    exact ⟨rfl, B⟩
  have AT := fun v w h => All18_any v l (slots l) 0 (all_ok h0).symm h0.symm w h
  have HA := Lib.hid AT
  have HL16 := Lib.hid (slots16 h0)
  have HSZ := Lib.hid hs
  have HOP := Lib.hid h0
  clear AT hs h0
  go_enter Try.func7, Try.ntmps7
  go_wp2_with fail
  refine (alive18_any _).mono ?_
  rintro e w' ⟨rfl, b⟩
  replace B := B.trans (b.mono B.size); clear b
  go_wp2_with fail
  refine (Great_any _ _ _ (H.out.below B)).mono ?_
  rw [decide_eq_false hbig]
  rintro e w' ⟨rfl, rfl⟩
  go_wp2_with fail
  refine (HC.out _ (H.out.below B)).mono ?_
  rintro e w' ⟨rfl, rfl⟩
  go_wp2_with fail
  refine (HA.out _ _ (H.out.below B)).mono ?_
  rintro e w' ⟨xl, E, rfl, o1, b⟩
  replace B := B.trans (b.mono B.size); clear b
  have l1 := Rd.len o1.rd Try.underlying42
  rw [HL16.out] at l1
  obtain ⟨w3, hw3⟩ : ∃ w3, w3 = w' := ⟨_, rfl⟩
  rw [← hw3] at o1 B ⊢
  clear hw3
  have HW := Lib.hid (H.out.below B)
  have HO := Lib.hid o1; have HB := Lib.hid B; clear o1 B
  clear HC HA hbig
  go_wp2
  go_loopg [8, 9, 10] 16 (fun g hv lv i wr => ∃ (k : Nat) (Hs : List (Int × Int)) (V : List Bool), k ≤ 16 ∧ g = 16 - k ∧ i = .int .i64 k ∧ Hid (Env w3 v0 l wr v0 hv lv l Hs V) ∧ Hid (Once l Hs V ∧ ∀ x ∈ Hs, x.1 < (k : Int)) ∧ Hs.length ≤ k)
  case atStart => exact ⟨0, [], [], by omega, by omega, rfl, Lib.hid ⟨.inl ⟨rfl, rfl⟩, World.ownsRow_nil _ _ _ _, World.ownsRow_nil _ _ _ _, Below.refl _ _⟩, Lib.hid ⟨Once.nil HOP.out, by simp⟩, by simp⟩
  case round =>
    obtain ⟨k, Hs, V, hk, rfl, rfl, E, O, hn⟩ := hrel
    by_cases hlt : k < 16
    · obtain ⟨bb, oo, t, ia, c0, c1, c2, ht⟩ := (HO.out.rd.below E.out.b).at_ (P := Try.prog) Try.underlying42 size_slot (k := k) (by rw [HL16.out]; omega)
      obtain ⟨gn, us, at_⟩ := t
      dsimp only at c0 c1 c2 ht
      have hvl := O.out.1.len
      cases us
      · go_wp2
        go_roundg (16 - (k + 1))
        case measure => omega
        case rel => exact ⟨k + 1, Hs, V, by omega, rfl, by go_num, E, Lib.hid ⟨O.out.1, fun x hx => by have := O.out.2 x hx; omega⟩, by omega⟩
      · have O2 := Lib.hid (O.out.1.add ht.out rfl (fresh_of_lt O.out.2))
        have O3 := Lib.hid (fun (x : Int × Int) (hx : x ∈ Hs ++ [((k : Int), gn)]) => show x.1 < ((k + 1 : Nat) : Int) by
          rcases List.mem_append.1 hx with h | h
          · have := O.out.2 x h; omega
          · simp at h; subst h; simp only; omega)
        go_wp2_with (at_builtin; first
          | (refine wpList_append (by rfl) rfl rfl rfl Try.underlying66 info_hdl rfl (by omega) (by exact (E.out.alloc _).hh) (by exact lit_hdl (k : Int) gn (by simp)) (by simp [Value.oneCell']) (by omega) (by omega) (by exact (E.out.alloc _).b) (Nat.le_refl _) ?_; intro v1 w4 o4 B4 g4; have E2 := Lib.hid ((E.out.alloc _).addH o4 B4 g4); clear o4 B4 g4)
          | (refine wpList_append (by rfl) rfl rfl rfl Try.underlying67 info_bool rfl (by omega) (by exact (E2.out.alloc _).hl) (by exact lit_rd) (by simp [Value.oneCell']) (by omega) (by omega) (by exact (E2.out.alloc _).b) (Nat.le_refl _) ?_; intro v2 w5 o5 B5 g5; have E3 := Lib.hid ((E2.out.alloc _).addL o5 B5 g5); clear o5 B5 g5))
        go_roundg (16 - (k + 1))
        case measure => omega
        case rel => exact ⟨k + 1, _, _, by omega, rfl, by go_num, E3, Lib.hid ⟨O2.out, O3.out⟩, by rw [List.length_append]; simp; omega⟩
    · obtain rfl : k = 16 := by omega
      obtain ⟨N, hN⟩ : ∃ N, N = C.length := ⟨_, rfl⟩
      rw [← hN] at lc hmany
      have HN := Lib.hid hN; clear hN
      have O1 := Lib.hid O.out.1
      have B3 := HB.out
      go_wp2
      clear hlt l1 hk HL16 HO O
      go_loopg [0, 8, 9, 11] N (fun g wv hv lv i wx => ∃ (k : Nat) (l1 : List UInt64) (Hs : List (Int × Int)) (V : List Bool), k ≤ N ∧ g = N - k ∧ i = .int .i64 k ∧ Hid (Env w3 v0 l wx wv hv lv l1 Hs V) ∧ Hid (Once l1 Hs V) ∧ Hs.length ≤ 16 + k)
      case atStart => exact ⟨0, l, Hs, V, by omega, by omega, rfl, E, O1, hn⟩
      case round =>
        clear E O1 hn
        obtain ⟨k, l1, Hs2, V2, hk, rfl, rfl, E, O, hn⟩ := hrel
        by_cases hlt : k < N
        · have hkN : k < C.length := by have := HN.out; omega
          obtain ⟨cd, c, ic, cc, hcx⟩ := (HK.out.below (HB.out.trans (E.out.b.mono HB.out.size))).at_ (P := Try.prog) Try.underlying64 one_int hkN
          have lh := E.out.lenH
          obtain ⟨n, hnH⟩ : ∃ n, n = Hs2.length := ⟨_, rfl⟩
          have hvl := O.out.len
          rw [← hnH] at lh hn hvl
          have HNH := Lib.hid hnH; have HVL := Lib.hid hvl
          clear hnH hcx hvl
          obtain ⟨b, hb⟩ : ∃ b : Bool, b = decide (0 ≤ c ∧ c < (n : Int)) := ⟨_, rfl⟩
          have Hbb := Lib.hid hb; clear hb
          go_upto_region 19 with (fail)
          go_cut [93] (fun s wx => s = .bool b ∧ wr = wx)
          case first =>
            have hcase : (c < 0 ∧ b = false) ∨ (0 ≤ c ∧ ¬ c < (n : Int) ∧ b = false) ∨ (0 ≤ c ∧ c < (n : Int) ∧ b = true) := by
              rw [Hbb.out]
              by_cases h1 : 0 ≤ c
              · by_cases h2 : c < (n : Int)
                · exact .inr (.inr ⟨h1, h2, decide_eq_true ⟨h1, h2⟩⟩)
                · exact .inr (.inl ⟨h1, h2, decide_eq_false (fun h => h2 h.2)⟩)
              · exact .inl ⟨by omega, decide_eq_false (fun h => h1 h.1)⟩
            clear Hbb
            rcases hcase with ⟨a1, rfl⟩ | ⟨a1, a2, rfl⟩ | ⟨a1, a2, rfl⟩
            all_goals
              go_wp2
              go_meet
              exact ⟨rfl, rfl⟩
          case rest =>
            obtain ⟨rfl, rfl⟩ := hcut
            go_upto_if 93 with (fail)
            go_cut [0, 8, 9] (fun wv hv lv wx => ∃ (l2 : List UInt64) (H2 : List (Int × Int)) (V2 : List Bool), Hid (Env w3 v0 l wx wv hv lv l2 H2 V2) ∧ Hid (Once l2 H2 V2) ∧ H2.length ≤ 17 + k)
            case first =>
              cases b
              · obtain ⟨s1, k1⟩ : ∃ r, r = newSlot l1 (128 + (k : Int)) := ⟨_, rfl⟩
                obtain ⟨s2, k2⟩ : ∃ r, r = newGen l1 (128 + (k : Int)) := ⟨_, rfl⟩
                obtain ⟨s3, k3⟩ : ∃ r, r = newAt l1 (128 + (k : Int)) := ⟨_, rfl⟩
                obtain ⟨s4, k4⟩ : ∃ r, r = newVal l1 (128 + (k : Int)) := ⟨_, rfl⟩
                obtain ⟨ne, k5⟩ : ∃ r, r = L18.newErr l1 (128 + (k : Int)) := ⟨_, rfl⟩
                have HNW := Lib.hid (fun v w h => New18_any v l1 (128 + (k : Int)) s1 s2 s3 s4 ne k1 k2 k3 k4 k5 w h)
                have HNO : ne = 0 → ∃ j : Nat, j < 16 ∧ s1 = (j : Int) ∧ s3 = 112 + (j : Int) ∧ ((j : Int), s2) ∉ Hs2 ∧ Once (l1.set (112 + j) s4) (Hs2 ++ [((j : Int), s2)]) (V2 ++ [true]) := by
                  intro h
                  rw [k1, k2, k3, k4]
                  exact O.out.new (k5.symm.trans h)
                have HNO2 := Lib.hid HNO
                have hcase : ne = 0 ∨ (ne == 0) = false := by by_cases h : ne = 0; exact .inl h; exact .inr (by rw [beq_eq_false_iff_ne]; exact h)
                clear k1 k2 k3 k4 k5 HNO Hbb
                have hw1 : IntKind.i64.wrap (128 + (k : Int)) = 128 + (k : Int) := IntWalk.i64_in _ (by omega)
                rcases hcase with rfl | hne
                · obtain ⟨j, hj, rfl, rfl, hno, ho⟩ := HNO2.out rfl
                  have HX := Lib.hid (And.intro hno ho); clear hno ho
                  replace E := E.out
                  have B := E.b
                  go_wp2_with fail
                  refine (HNW.out _ _ (E.words HW.out)).mono ?_
                  rintro e wa1 ⟨rfl, b⟩
                  replace E := E.below b; replace B := B.trans (b.mono B.size); clear b
                  go_upto_region 30 with (fail)
                  refine wp_gen (fun Wv => Bx Wv (wa1.heap.size) (39) (#[.int .i64 (j : Int), .int .i64 s2]) ∧ Bx Wv (wa1.heap.size + 1) (52) (#[.int .i64 (112 + j), .int .u64 s4.toNat]) ∧ Below wa1.heap.size wa1 Wv) ⟨(((Bx.at_ (by simp)).alloc _)), ((Bx.at_ (by simp))), (((Below.refl _ wa1).alloc (by simp <;> omega) _).alloc (by simp <;> omega) _)⟩ ?_
                  rintro wa2 ⟨g10, g11, b⟩
                  replace E := E.below b; replace B := B.trans (b.mono B.size); clear b
                  have c_g10 := g10.cell; have f_g10 := g10.free; have a_g10 := fun o => (g10.alloc o).cell; have d_g10 := fun o o2 => ((g10.alloc o).alloc o2).cell; have e_g10 := fun o => (g10.alloc o).free
                  have c_g11 := g11.cell; have f_g11 := g11.free; have a_g11 := fun o => (g11.alloc o).cell; have d_g11 := fun o o2 => ((g11.alloc o).alloc o2).cell; have e_g11 := fun o => (g11.alloc o).free
                  have HE := Lib.hid E; have G10 := Lib.hid g10; have G11 := Lib.hid g11
                  clear E B g10 g11 c_g10 f_g10 a_g10 d_g10 e_g10 c_g11 f_g11 a_g11 d_g11 e_g11
                  go_wp2
                  go_loopg [20] n (fun g i wx => ∃ j : Nat, j ≤ n ∧ g = n - j ∧ i = .int .i64 j ∧ Below wa2.heap.size wa2 wx)
                  case atStart => exact ⟨0, by omega, by omega, rfl, Below.refl _ _⟩
                  case round =>
                    obtain ⟨q, hq, rfl, rfl, B⟩ := hrel
                    by_cases hlq : q < n
                    · obtain ⟨bb, oo, a, g, ia, m0, m1, hh⟩ := (HE.out.below B).hh.at_ (k := q) (by have := HNH.out; omega)
                      have qe := fun W => hdl_eql a g (j : Int) s2 false (Once.ne hh.out HX.out.1) W
                      have g10 := G10.out.below B
                      have n0 : (0 : Int) ≤ (q : Int) := by omega
                      clear hh
                      have c_g10 := 0; have f_g10 := 0; have a_g10 := 0; have d_g10 := 0; have e_g10 := 0
                      go_wp2
                      refine wp_region_calm (by kernel_rfl) (by kernel_rfl) ?_
                      try clear c_g10 f_g10 a_g10 d_g10 e_g10
                      have c_g10 := fun x : Fut _ => (g10.below x.h).cell
                      have c_m0 := fun x : Fut _ => cell_later x.h m0
                      have c_m1 := fun x : Fut _ => cell_later x.h m1
                      repeat (go_big_quiet_step (fail))
                      refine wpQuiet_nil ?_
                      intro _ hw'
                      obtain ⟨xq, hw''⟩ := hw'
                      subst hw''
                      clear c_m0; replace m0 := cell_later xq.h m0
                      clear c_m1; replace m1 := cell_later xq.h m1
                      clear c_g10; replace g10 := g10.below xq.h; have c_g10 := g10.cell; have f_g10 := g10.free; have a_g10 := fun o => (g10.alloc o).cell; have d_g10 := fun o o2 => ((g10.alloc o).alloc o2).cell; have e_g10 := fun o => (g10.alloc o).free
                      replace B := B.trans (xq.h.mono B.size)
                      go_wp2
                      go_roundg (n - (q + 1))
                      case measure => omega
                      case rel => exact ⟨q + 1, by omega, rfl, by go_num, B⟩
                    · obtain rfl : q = n := by omega
                      replace E := HE.out.below B
                      have g10 := G10.out.below B; have g11 := G11.out.below B
                      have c_g11 := g11.cell
                      have hz := E.b.size
                      go_wp2_with fail
                      refine (made_any _ l1 (112 + (j : Int)) s4 _ (E.words HW.out) (size_of O.out.op) (by omega)).mono ?_
                      rintro e w2 ⟨y, rfl, o2, b⟩
                      rw [show (112 + (j : Int)).toNat = 112 + j by omega] at o2
                      have HE2 := Lib.hid (E.image o2 b)
                      replace g10 := g10.below b
                      clear g11 c_g11 o2 b E hz
                      have c_g10 := g10.cell
                      have hb1 : Hs2.length ≤ 100 := by have := HNH.out; omega
                      have hb2 : V2.length ≤ 100 := by have := HVL.out; omega
                      go_wp2_with (at_builtin; first
                        | (refine wpList_append (by rfl) rfl rfl rfl Try.underlying66 info_hdl rfl (by omega) (by exact (HE2.out.alloc _).hh) (by exact lit_hdl (j : Int) s2 (by simp)) (by simp [Value.oneCell']) (by omega) (by omega) (by exact (HE2.out.alloc _).b) (Nat.le_refl _) ?_; intro v1 w4 o4 B4 g4; have E2 := Lib.hid ((HE2.out.alloc _).addH o4 B4 g4); clear o4 B4 g4)
                        | (refine wpList_append (by rfl) rfl rfl rfl Try.underlying67 info_bool rfl (by omega) (by exact (E2.out.alloc _).hl) (by exact lit_rd) (by simp [Value.oneCell']) (by omega) (by omega) (by exact (E2.out.alloc _).b) (Nat.le_refl _) ?_; intro v2 w5 o5 B5 g5; have E3 := Lib.hid ((E2.out.alloc _).addL o5 B5 g5); clear o5 B5 g5))
                      go_meet
                      exact ⟨_, _, _, E3, Lib.hid HX.out.2, by rw [List.length_append]; have := HNH.out; simp; omega⟩
                · have hno : Hid (Hs2.length ≤ 17 + k) := Lib.hid (by have := HNH.out; omega)
                  replace E := E.out
                  have B := E.b
                  go_wp2_with fail
                  refine (HNW.out _ _ (E.words HW.out)).mono ?_
                  rintro e wa1 ⟨rfl, b⟩
                  replace E := E.below b; replace B := B.trans (b.mono B.size); clear b
                  go_upto_region 30 with (fail)
                  refine wp_gen (fun Wv => Bx Wv (wa1.heap.size) (39) (#[.int .i64 s1, .int .i64 s2]) ∧ Below wa1.heap.size wa1 Wv) ⟨(((Bx.at_ (by simp)).alloc _)), (((Below.refl _ wa1).alloc (by simp <;> omega) _).alloc (by simp <;> omega) _)⟩ ?_
                  rintro wa2 ⟨g10, b⟩
                  replace E := E.below b; replace B := B.trans (b.mono B.size); clear b
                  have c_g10 := g10.cell; have f_g10 := g10.free; have a_g10 := fun o => (g10.alloc o).cell; have d_g10 := fun o o2 => ((g10.alloc o).alloc o2).cell; have e_g10 := fun o => (g10.alloc o).free
                  have HE := Lib.hid E; have G10 := Lib.hid g10
                  clear E B g10 c_g10 f_g10 a_g10 d_g10 e_g10
                  go_wp2
                  go_loopg [20] n (fun g i wx => ∃ j : Nat, j ≤ n ∧ g = n - j ∧ i = .int .i64 j ∧ Below wa2.heap.size wa2 wx)
                  case atStart => exact ⟨0, by omega, by omega, rfl, Below.refl _ _⟩
                  case round =>
                    obtain ⟨q, hq, rfl, rfl, B⟩ := hrel
                    by_cases hlq : q < n
                    · have g10 := G10.out.below B
                      have c_g10 := 0; have f_g10 := 0; have a_g10 := 0; have d_g10 := 0; have e_g10 := 0
                      go_wp2
                      refine wp_region_calm (by kernel_rfl) (by kernel_rfl) ?_
                      try clear c_g10 f_g10 a_g10 d_g10 e_g10
                      have c_g10 := fun x : Fut _ => (g10.below x.h).cell
                      repeat (go_big_quiet_step (fail))
                      refine wpQuiet_nil ?_
                      intro _ hw'
                      obtain ⟨xq, hw''⟩ := hw'
                      subst hw''
                      clear c_g10; replace g10 := g10.below xq.h; have c_g10 := g10.cell; have f_g10 := g10.free; have a_g10 := fun o => (g10.alloc o).cell; have d_g10 := fun o o2 => ((g10.alloc o).alloc o2).cell; have e_g10 := fun o => (g10.alloc o).free
                      replace B := B.trans (xq.h.mono B.size)
                      go_wp2
                      go_roundg (n - (q + 1))
                      case measure => omega
                      case rel => exact ⟨q + 1, by omega, rfl, by go_num, B⟩
                    · obtain rfl : q = n := by omega
                      go_wp2
                      go_meet
                      exact ⟨_, _, _, Lib.hid (HE.out.below B), O, hno.out⟩
              · have hb2 := of_decide_eq_true Hbb.out.symm
                obtain ⟨j, rfl⟩ := Int.eq_ofNat_of_zero_le hb2.1
                have hj : j < n := by omega
                have hno : Hid (Hs2.length ≤ 17 + k) := Lib.hid (by have := HNH.out; omega)
                obtain ⟨bb, oo, a, g, ia, m0, m1, hh⟩ := E.out.hh.at_ (k := j) (by have := HNH.out; omega)
                obtain ⟨d1, k6⟩ : ∃ r, r = dropAt l1 a g := ⟨_, rfl⟩
                obtain ⟨d2, k7⟩ : ∃ r, r = dropVal l1 a g := ⟨_, rfl⟩
                obtain ⟨de, k8⟩ : ∃ r, r = resErr l1 a g := ⟨_, rfl⟩
                have HD := Lib.hid (fun v w h => Drop18_any v l1 a g d1 d2 de k6 k7 k8 w h)
                have HDO : de = 0 → ∃ j' : Nat, j' < 16 ∧ d1 = 112 + (j' : Int) ∧ Once (l1.set (112 + j') d2) Hs2 (V2.set j false) := by
                  intro h
                  rw [k6, k7]
                  exact O.out.drop hh.out (k8.symm.trans h)
                have HDO2 := Lib.hid HDO
                have HEQ : ∀ v, V2[j]? = some v → (de == 0) = v := by intro v hv; rw [k8]; exact O.out.eq hh.out hv
                have HEQ2 := Lib.hid HEQ
                clear HEQ HDO k6 k7 k8 hh Hbb hb2
                replace E := E.out
                have B := E.b
                have n0 : (0 : Int) ≤ (j : Int) := by omega
                go_wp2_with fail
                refine (HD.out _ _ (E.words HW.out)).mono ?_
                rintro e wa1 ⟨rfl, b⟩
                replace E := E.below b; replace B := B.trans (b.mono B.size); clear b
                go_upto_region 21 with (fail)
                refine wp_gen (fun Wv => Bx Wv (wa1.heap.size) (52) (#[.int .i64 d1, .int .u64 d2.toNat]) ∧ Below wa1.heap.size wa1 Wv) ⟨((Bx.at_ (by simp))), ((Below.refl _ wa1).alloc (by simp <;> omega) _)⟩ ?_
                rintro wa2 ⟨g11, b⟩
                replace E := E.below b; replace B := B.trans (b.mono B.size); clear b
                have c_g11 := g11.cell; have f_g11 := g11.free; have a_g11 := fun o => (g11.alloc o).cell; have d_g11 := fun o o2 => ((g11.alloc o).alloc o2).cell; have e_g11 := fun o => (g11.alloc o).free
                obtain ⟨fd, x, ix, fx, fz, hv, henv, hfar⟩ := E.flag (k := j) (by have := HVL.out; omega)
                have hxd := HEQ2.out x hv.out
                have hl := hfar.out _ _ _ g11 (by decide)
                have EF := Lib.hid (henv.out false)
                have GF := Lib.hid (g11.far hl (.bool false))
                have HV := Lib.hid hv.out
                have hxc : x = true ∧ de = 0 ∨ x = false := by
                  cases x
                  · exact .inr rfl
                  · exact .inl ⟨rfl, by simpa using hxd⟩
                clear hl hv henv hfar E B c_g11 f_g11 a_g11 d_g11 e_g11 m0 m1 ia
                rcases hxc with ⟨rfl, rfl⟩ | rfl
                · go_upto_region 24 with (fail)
                  refine wp_gen (fun W => Env w3 v0 l W u0 u8 u9 l1 Hs2 (V2.set j false) ∧ Bx W wa1.heap.size 52 #[.int .i64 d1, .int .u64 d2.toNat]) ⟨EF.out, GF.out⟩ ?_
                  clear EF GF g11 ix fx fz
                  rintro w4 ⟨E, g11⟩
                  obtain ⟨j', hj', rfl, ho⟩ := HDO2.out rfl
                  have HX := Lib.hid ho; clear ho
                  have c_g11 := g11.cell
                  have hz := E.b.size
                  go_wp2_with fail
                  refine (made_any _ l1 (112 + (j' : Int)) d2 _ (E.words HW.out) (size_of O.out.op) (by omega)).mono ?_
                  rintro e w2 ⟨y, rfl, o2, b⟩
                  rw [show (112 + (j' : Int)).toNat = 112 + j' by omega] at o2
                  have HE2 := Lib.hid (E.image o2 b)
                  clear g11 c_g11 o2 b E hz
                  go_wp2
                  go_meet
                  exact ⟨_, _, _, HE2, HX, hno.out⟩
                · go_upto_region 24 with (fail)
                  refine wp_gen (fun W => Env w3 v0 l W u0 u8 u9 l1 Hs2 (V2.set j false)) EF.out ?_
                  clear EF GF g11 ix fx fz
                  intro w4 E
                  have HE2 := Lib.hid E; clear E
                  go_wp2
                  go_meet
                  exact ⟨_, _, _, HE2, Lib.hid (O.out.same HV.out), hno.out⟩
            case rest =>
              obtain ⟨l2, H2, V3, E, O, hn⟩ := hcut
              have lh := E.out.lenH
              obtain ⟨n2, hnH⟩ : ∃ n, n = H2.length := ⟨_, rfl⟩
              have hvl := O.out.len
              rw [← hnH] at lh hn hvl
              have HNH := Lib.hid hnH; have HVL := Lib.hid hvl
              clear hnH hvl
              go_wp2
              go_loopg [23] n2 (fun g i wx => ∃ j : Nat, j ≤ n2 ∧ g = n2 - j ∧ i = .int .i64 j ∧ Below wc.heap.size wc wx)
              case atStart => exact ⟨0, by omega, by omega, rfl, Below.refl _ _⟩
              case round =>
                obtain ⟨q, hq, rfl, rfl, B⟩ := hrel
                by_cases hlq : q < n2
                · have E1 := E.out.below B
                  obtain ⟨bb, oo, a, g, ia, m0, m1, hh⟩ := E1.hh.at_ (k := q) (by have := HNH.out; omega)
                  obtain ⟨rx, k1⟩ : ∃ r, r = res l2 a g := ⟨_, rfl⟩
                  obtain ⟨re, k2⟩ : ∃ r, r = resErr l2 a g := ⟨_, rfl⟩
                  have HR := Lib.hid (fun v w h => Resolve_any v l2 a g rx re k1 k2 w h)
                  have HEQ : ∀ v, V3[q]? = some v → (re == 0) = v := by intro v hv; rw [k2]; exact O.out.eq hh.out hv
                  have HEQ2 := Lib.hid HEQ
                  clear HEQ k1 k2 hh
                  go_wp2_with fail
                  refine (HR.out _ _ (E1.words HW.out)).mono ?_
                  rintro e w2 ⟨rfl, b⟩
                  obtain ⟨fd, x, ix, fx, fz, hv, henv, hfar⟩ := (E1.below b).flag (k := q) (by have := HVL.out; omega)
                  have hxd := HEQ2.out x hv.out
                  replace B := B.trans (b.mono B.size)
                  clear hv henv hfar E1 b ia m0 m1
                  go_wp2
                  go_roundg (n2 - (q + 1))
                  case measure => omega
                  case rel => exact ⟨q + 1, by omega, rfl, by go_num, B⟩
                · obtain rfl : q = n2 := by omega
                  go_wp2
                  go_roundg (N - (k + 1))
                  case measure => omega
                  case rel => exact ⟨k + 1, _, _, _, by omega, rfl, by go_num, Lib.hid (E.out.below B), O, by have := HNH.out; omega⟩
        · go_wp2
          go_ret
          exact ⟨rfl, HB.out.trans (E.out.b.mono HB.out.size)⟩
end Go.Proofs.Yteiocllnhljpjaa
