/- Contracts of the functions that the laws 'R' reach, part 13. No condition. -/
import Derived.Test.YtodbbacmdjcheaaMRl
set_option linter.unusedVariables false
set_option linter.unusedSimpArgs false
namespace Go.Proofs.Ytodbbacmdjcheaa
open Go.RowKit L01 L02 L05 L06 L07 L13 L14 L15 L18 L19 L20
theorem plain_i64 {a : Int} (h : i64Ok a) : plainElem (H := Unit) Try.prog 3 (.int .i64 a) = some (.lit (.int .i64 a), []) := plainElem_int Try.underlying3 (lit_wf h)
theorem zero_int (W : World) : (zeroValue 3).run Try.prog W = .ok (.int .i64 0) W := by kernel_rfl
theorem MapN.congr {P : Program} {k e : TypeId} {z0 : Lit} {W : World} {g n n' : Nat} {f f' : Int → Lit} {K K' : Int → Bool} (h : MapN P k e z0 W g n f K) (hn : n = n') (hf : ∀ a, f a = f' a) (hK : ∀ a, K a = K' a) : MapN P k e z0 W g n' f' K' := by
  have e1 : f = f' := funext hf
  have e2 : K = K' := funext hK
  rw [← hn, ← e1, ← e2]; exact h
theorem mix_get {α : Type} {A R : List α} {p : Nat} {x y : α} (hA : A[p]? = some x) (hR : R[p]? = some y) : (A.take p ++ R.drop p)[p]? = some y := by
  have h1 := (List.getElem?_eq_some_iff.1 hA).1
  rw [List.getElem?_append_right (by rw [List.length_take]; omega), List.length_take, Nat.min_eq_left (by omega), Nat.sub_self, List.getElem?_drop, Nat.add_zero, hR]
theorem mix_set {α : Type} {A R : List α} {p : Nat} {x y : α} (hA : A[p]? = some x) (hR : R[p]? = some y) : (A.take p ++ R.drop p).set p x = A.take (p + 1) ++ R.drop (p + 1) := by
  have h1 := (List.getElem?_eq_some_iff.1 hA).1
  have h2 := (List.getElem?_eq_some_iff.1 hR).1
  rw [List.set_append_right _ _ (by rw [List.length_take]; omega), List.length_take, Nat.min_eq_left (by omega), Nat.sub_self, List.drop_eq_getElem_cons h2, List.set_cons_zero, List.take_add_one, hA]
  simp
theorem mix_same {α : Type} {A R : List α} {p : Nat} {x : α} (hA : A[p]? = some x) (hR : R[p]? = some x) : A.take (p + 1) ++ R.drop (p + 1) = A.take p ++ R.drop p := by
  have h2 := (List.getElem?_eq_some_iff.1 hR)
  rw [List.take_add_one, hA, show R.drop p = x :: R.drop (p + 1) by rw [List.drop_eq_getElem_cons h2.1, h2.2]]
  simp
set_option maxRecDepth 100000 in
set_option maxHeartbeats 16000000 in
theorem OfM_any (v : Value) (l : List UInt64) (m : Mo) (r : Int) (hm : m = ofM l) (hr : r = chk19 l) (w : World) (h : Words w v l) :
    Calls Try.prog 20 #[v] w fun e w' => ∃ t' o' s', e = .returned (.tuple #[.agg #[t', o', s'], .int .i64 r]) ∧ OwnM w' w.heap.size 146 t' o' s' m ∧ Below w.heap.size w w' := by
  have B : Below w.heap.size w w := Below.refl _ _
  have H := Lib.hid h
  have CK := Lib.hid (fun w h => Check19_any v l r hr w h)
  by_cases h0 : r = 0
  case neg =>
    have hm0 : m = .nil := by rw [hm, ofM, if_neg (by rw [← hr]; exact h0)]
    subst hm0
    have n1 : (r != 0) = true := by rw [bne_iff_ne]; exact h0
    clear hm hr h h0
    go_enter Try.func20, Try.ntmps20
    go_upto_region 1 with (fail)
    refine wp_gen (fun Wv => Bx Wv (w.heap.size) (50) (#[.slice none 0 0, .slice none 0 0, .slice none 0 0]) ∧ Below w.heap.size w Wv) ⟨((Bx.at_ (by simp))), ((Below.refl _ w).alloc (by simp <;> omega) _)⟩ ?_
    rintro wa1 ⟨g1, b⟩
    replace B := B.trans (b.mono B.size); clear b
    have c_g1 := g1.cell; have f_g1 := g1.free; have a_g1 := fun o => (g1.alloc o).cell; have d_g1 := fun o o2 => ((g1.alloc o).alloc o2).cell; have e_g1 := fun o => (g1.alloc o).free
    go_wp2_with fail
    refine (CK.out _ (H.out.below B)).mono ?_
    rintro e wa2 ⟨rfl, b⟩
    try clear c_g1 f_g1 a_g1 d_g1 e_g1
    replace g1 := g1.below b; have c_g1 := g1.cell; have f_g1 := g1.free; have a_g1 := fun o => (g1.alloc o).cell; have d_g1 := fun o o2 => ((g1.alloc o).alloc o2).cell; have e_g1 := fun o => (g1.alloc o).free; replace B := B.trans (b.mono B.size); clear b
    go_wp2
    refine bodyPost_ret (v := .tuple #[.agg #[.slice none 0 0, .slice none 0 0, .slice none 0 0], .int .i64 r]) (by simp [results, Try.results20, go_sem, c_g1, f_g1]) rfl ?_
    refine ⟨_, _, _, rfl, ⟨OwnT.nil _ _, OwnO.nil _ _, OwnS.nil _ _ _⟩, ?_⟩
    exact ((B.setCell (p := ⟨w.heap.size, 0, none⟩) (by simp) _).setCell (p := ⟨w.heap.size, 1, none⟩) (by simp) _).setCell (p := ⟨w.heap.size, 2, none⟩) (by simp) _
  case pos =>
    subst h0
    have rt : Rt l := Rt.of hr.symm
    obtain ⟨T, hT⟩ : ∃ T, T = T19 l := ⟨_, rfl⟩
    obtain ⟨S, hS⟩ : ∃ S, S = slots l := ⟨_, rfl⟩
    obtain ⟨L, hL⟩ : ∃ L, L = allL l := ⟨_, rfl⟩
    obtain ⟨O, hO⟩ : ∃ O, O = O19 l := ⟨_, rfl⟩
    have hOL : O = objs L := by rw [hO, hL]; rfl
    obtain ⟨sw, hsw⟩ : ∃ x, x = sW l := ⟨_, rfl⟩
    obtain ⟨st, hst⟩ : ∃ x, x = sT l := ⟨_, rfl⟩
    obtain ⟨i0, hi0⟩ : ∃ x, x = is0 l := ⟨_, rfl⟩
    obtain ⟨i1, hi1⟩ : ∃ x, x = is1 l := ⟨_, rfl⟩
    have T3 := Lib.hid (fun w h => TRead_any v l sw st i0 i1 0 hsw hst hi0 hi1 rt.tw.symm w h)
    have KT := Lib.hid (fun w h => KTable_any v l st T 0 (by rw [hT, hst]; rfl) (by rw [hst]; exact rt.ty.symm) w h)
    have AT := Lib.hid (fun w h => All18_own v l S hS rt.sl w h)
    have WT := Lib.hid (fun w h => AllW_any v l L 0 hL rt.al.symm w h)
    have hm2 : m = ⟨T, O.map (obOf l T O), S.map (slOf O)⟩ := by rw [hm, ofM, if_pos hr.symm]; unfold L19.seen; rw [hT, hO, hS]
    subst hm2
    have hO9 : O.length ≤ 960 := by rw [hO]; exact objs_len rt.al
    have hL9 : L.length ≤ 960 := by rw [hL]; exact all_len rt.al
    have hS16 : S.length = 16 := by rw [hS]; exact slots_len' rt.sl
    obtain ⟨N, hN⟩ : ∃ N, N = L.length := ⟨_, rfl⟩
    have hN9 : N ≤ 960 := by omega
    have hab : ∀ b ∈ L, 0 ≤ b.at_ ∧ b.at_ ≤ 1000000 := fun b hb => by
      rw [hL] at hb
      obtain ⟨x, h1, h2, _, h4, _⟩ := all_mem rt.al hb
      have := rt.sz.2.1
      have : b.at_ = x := by rw [h4]; rfl
      omega
    have HRT := Lib.hid rt; have HT := Lib.hid hT; have HS := Lib.hid hS; have HO := Lib.hid hO; have HOL := Lib.hid hOL; have HN := Lib.hid hN; have HO9 := Lib.hid hO9; have HS16 := Lib.hid hS16; have HL := Lib.hid hL; have HAB := Lib.hid hab
    have hmm := @run_makeMap Try.prog
    clear h rt hT hS hL hO hOL hO9 hL9 hS16 hN hm hr hsw hst hi0 hi1 hab
    go_enter Try.func20, Try.ntmps20
    go_upto_region 1 with (fail)
    refine wp_gen (fun Wv => Bx Wv (w.heap.size) (50) (#[.slice none 0 0, .slice none 0 0, .slice none 0 0]) ∧ Below w.heap.size w Wv) ⟨((Bx.at_ (by simp))), ((Below.refl _ w).alloc (by simp <;> omega) _)⟩ ?_
    rintro wa1 ⟨g1, b⟩
    replace B := B.trans (b.mono B.size); clear b
    have c_g1 := g1.cell; have f_g1 := g1.free; have a_g1 := fun o => (g1.alloc o).cell; have d_g1 := fun o o2 => ((g1.alloc o).alloc o2).cell; have e_g1 := fun o => (g1.alloc o).free
    have hz1 := B.size; have hp1 := g1.lt
    go_wp2_with fail
    refine (CK.out _ (H.out.below B)).mono ?_
    rintro e wa2 ⟨rfl, b⟩
    try clear c_g1 f_g1 a_g1 d_g1 e_g1
    replace g1 := g1.below b; have c_g1 := g1.cell; have f_g1 := g1.free; have a_g1 := fun o => (g1.alloc o).cell; have d_g1 := fun o o2 => ((g1.alloc o).alloc o2).cell; have e_g1 := fun o => (g1.alloc o).free; replace B := B.trans (b.mono B.size); clear b
    go_wp2_with fail
    refine (T3.out _ (H.out.below B)).mono ?_
    rintro e wa3 ⟨rfl, b⟩
    try clear c_g1 f_g1 a_g1 d_g1 e_g1
    replace g1 := g1.below b; have c_g1 := g1.cell; have f_g1 := g1.free; have a_g1 := fun o => (g1.alloc o).cell; have d_g1 := fun o o2 => ((g1.alloc o).alloc o2).cell; have e_g1 := fun o => (g1.alloc o).free; replace B := B.trans (b.mono B.size); clear b
    have hz3 := B.size
    go_upto_region 5 with (fail)
    refine wp_gen (fun Wv => Bx Wv (wa3.heap.size) (80) (#[.int .i64 sw, .int .i64 st]) ∧ Below wa3.heap.size wa3 Wv) ⟨(((Bx.at_ (by simp)).alloc _)), (((Below.refl _ wa3).alloc (by simp <;> omega) _).alloc (by simp <;> omega) _)⟩ ?_
    rintro wa4 ⟨g2, b⟩
    try clear c_g1 f_g1 a_g1 d_g1 e_g1
    replace g1 := g1.below b; have c_g1 := g1.cell; have f_g1 := g1.free; have a_g1 := fun o => (g1.alloc o).cell; have d_g1 := fun o o2 => ((g1.alloc o).alloc o2).cell; have e_g1 := fun o => (g1.alloc o).free; replace B := B.trans (b.mono B.size); clear b
    have c_g2 := g2.cell; have f_g2 := g2.free; have a_g2 := fun o => (g2.alloc o).cell; have d_g2 := fun o o2 => ((g2.alloc o).alloc o2).cell; have e_g2 := fun o => (g2.alloc o).free
    have hz4 := B.size
    go_wp2_with fail
    refine (KT.out _ (H.out.below B)).mono ?_
    rintro e wa5 ⟨xt, rfl, ot, b⟩
    try clear c_g1 f_g1 a_g1 d_g1 e_g1
    replace g1 := g1.below b; have c_g1 := g1.cell; have f_g1 := g1.free; have a_g1 := fun o => (g1.alloc o).cell; have d_g1 := fun o o2 => ((g1.alloc o).alloc o2).cell; have e_g1 := fun o => (g1.alloc o).free; try clear c_g2 f_g2 a_g2 d_g2 e_g2
    replace g2 := g2.below b; have c_g2 := g2.cell; have f_g2 := g2.free; have a_g2 := fun o => (g2.alloc o).cell; have d_g2 := fun o o2 => ((g2.alloc o).alloc o2).cell; have e_g2 := fun o => (g2.alloc o).free; replace B := B.trans (b.mono B.size); clear b
    have hz5 := B.size
    obtain ⟨tA, tn, tc, rfl⟩ := form_T ot
    clear c_g2 f_g2 a_g2 d_g2 e_g2
    clear g2
    go_wp2_with fail
    refine (AT.out _ (H.out.below B)).mono ?_
    rintro e wa6 ⟨xs, rfl, os, b⟩
    try clear c_g1 f_g1 a_g1 d_g1 e_g1
    replace g1 := g1.below b; have c_g1 := g1.cell; have f_g1 := g1.free; have a_g1 := fun o => (g1.alloc o).cell; have d_g1 := fun o o2 => ((g1.alloc o).alloc o2).cell; have e_g1 := fun o => (g1.alloc o).free; replace ot := ot.below b; replace B := B.trans (b.mono B.size); clear b
    have hz6 := B.size
    obtain ⟨gS, sc, rfl⟩ : ∃ g c, xs = .slice (some ⟨g, 0, none⟩) 16 c := by obtain ⟨g, n, c, e, e2⟩ := os.form (by rw [HS16.out]; omega); rw [e2, HS16.out] at e; exact ⟨g, c, e⟩
    go_wp2_with fail
    refine (WT.out _ (H.out.below B)).mono ?_
    rintro e wa7 ⟨xl, rfl, ol, b⟩
    try clear c_g1 f_g1 a_g1 d_g1 e_g1
    replace g1 := g1.below b; have c_g1 := g1.cell; have f_g1 := g1.free; have a_g1 := fun o => (g1.alloc o).cell; have d_g1 := fun o o2 => ((g1.alloc o).alloc o2).cell; have e_g1 := fun o => (g1.alloc o).free; replace ot := ot.below b; replace os := os.below b; replace B := B.trans (b.mono B.size); clear b
    have hz7 := B.size
    obtain ⟨lA, ln, lc, rfl⟩ : ∃ A n c, xl = .slice A n c := row_form ol
    go_upto_region 10 with (fail)
    have hp7 := g1.lt
    have hp5 : w.heap.size + 1 ≤ wa7.heap.size := hp7
    have HPK := Lib.hid (show OwnT wa7 w.heap.size (.slice tA tn tc) T ∧ OwnS wa7 w.heap.size 146 (.slice (some ⟨gS, 0, none⟩) 16 sc) S ∧ OwnK wa7 w.heap.size (.slice lA ln lc) L ∧ Bx wa7 w.heap.size 50 #[.slice none 0 0, .slice none 0 0, .slice none 0 0] ∧ Below w.heap.size w wa7 from ⟨ot.mono (by omega), own_mono os (by omega), ol.mono (by omega), g1, B⟩)
    clear ot os ol g1 B hz1 hp1 hz3 hz4 hz5 hz6 hz7 hp7 c_g1 f_g1 a_g1 d_g1 e_g1
    refine wp_gen (fun V => OwnT V w.heap.size (.slice tA tn tc) T ∧ OwnS V w.heap.size 146 (.slice (some ⟨gS, 0, none⟩) 16 sc) S ∧ OwnK V w.heap.size (.slice lA ln lc) L ∧ Bx V w.heap.size 50 #[.slice none 0 0, .slice none 0 0, .slice none 0 0] ∧ Bx V wa7.heap.size 50 #[.slice tA tn tc, .slice none 0 0, .slice (some ⟨gS, 0, none⟩) 16 sc] ∧
      MapN Try.prog 3 3 (.int .i64 0) V (wa7.heap.size + 1) (objs (L.take 0)).length (fun a => .int .i64 (numI (objs (L.take 0)) a)) (fun a => decide (IsObj (objs (L.take 0)) a)) ∧ Below w.heap.size w V) ?_ ?_
    · obtain ⟨k1, k2, k3, k4, k5⟩ := HPK.out
      have bb : Below wa7.heap.size wa7 ((wa7.alloc (.cells #[.slice tA tn tc, .slice none 0 0, .slice (some ⟨gS, 0, none⟩) 16 sc] 50)).alloc (.map #[] 0)) := ((Below.refl _ wa7).alloc (Nat.le_refl _) _).alloc (by simp) _
      refine ⟨k1.below bb, k2.below bb, k3.below bb, k4.below bb, (Bx.new wa7 _ _).alloc _, ?_, k5.trans (bb.mono k5.size)⟩
      have := MapN.made (P := Try.prog) (k := 3) (e := 3) (z0 := .int .i64 0) (wa7.alloc (.cells #[.slice tA tn tc, .slice none 0 0, .slice (some ⟨gS, 0, none⟩) 16 sc] 50))
      rw [show (wa7.alloc (.cells #[.slice tA tn tc, .slice none 0 0, .slice (some ⟨gS, 0, none⟩) 16 sc] 50)).heap.size = wa7.heap.size + 1 by simp] at this
      refine this.congr rfl (fun a => rfl) (fun a => ?_)
      symm
      rw [decide_eq_false_iff_not]
      rintro ⟨b, hb, _⟩
      simp [objs] at hb
    clear HPK hmm
    generalize wa7.heap.size = p5 at *
    generalize hpm : p5 + 1 = pm
    intro V0 hV0
    have HV := Lib.hid hV0
    clear hV0
    have lx := HV.out.2.2.1.rd.len
    rw [← HN.out] at lx
    go_wp2
    clear lx
    go_loopg [60] N (fun g i wr => ∃ j : Nat, j ≤ N ∧ g = N - j ∧ i = .int .i64 j ∧ Hid (OwnT wr w.heap.size (.slice tA tn tc) T ∧ OwnS wr w.heap.size 146 (.slice (some ⟨gS, 0, none⟩) 16 sc) S ∧ OwnK wr w.heap.size (.slice lA ln lc) L ∧ Bx wr w.heap.size 50 #[.slice none 0 0, .slice none 0 0, .slice none 0 0] ∧ Bx wr p5 50 #[.slice tA tn tc, .slice none 0 0, .slice (some ⟨gS, 0, none⟩) 16 sc] ∧
      MapN Try.prog 3 3 (.int .i64 0) wr pm (objs (L.take j)).length (fun a => .int .i64 (numI (objs (L.take j)) a)) (fun a => decide (IsObj (objs (L.take j)) a)) ∧ Below w.heap.size w wr))
    case atStart => exact ⟨0, by omega, by omega, rfl, HV⟩
    case round =>
      clear HV
      obtain ⟨j, hj, rfl, rfl, hh⟩ := hrel
      by_cases hlt : j < N
      · obtain ⟨oT, oS, oK, g1, g5, mp, B⟩ := hh.out
        obtain ⟨bb, oo, b, ia, m0, m1, m2, m3, m4, m5, hb, _⟩ := oK.rd.at_ (k := j) (by rw [← HN.out]; exact hlt)
        have htk : L.take (j + 1) = L.take j ++ [b] := by rw [List.take_add_one, hb.out]; rfl
        have hB0 := B.size
        by_cases hk : b.kind = 1
        · have k1 : (b.kind == 1) = true := by rw [beq_iff_eq]; exact hk
          have hob : objs (L.take (j + 1)) = objs (L.take j) ++ [b] := by rw [htk, objs_snoc, if_pos hk]
          have hnew : ¬ IsObj (objs (L.take j)) b.at_ := by rw [HL.out]; exact objs_new HRT.out.al (by rw [← HL.out]; exact hb.out)
          have hol : (objs (L.take j)).length ≤ j := Nat.le_trans (List.length_filter_le _ _) (by rw [List.length_take]; omega)
          obtain ⟨a1, a2⟩ := HAB.out b (List.mem_of_getElem? hb.out)
          have hia : i64Ok b.at_ := ⟨by omega, by omega⟩
          have hkf : decide (IsObj (objs (L.take j)) b.at_) = false := decide_eq_false hnew
          obtain ⟨Q, hQ⟩ : ∃ Q, Q = objs (L.take j) := ⟨_, rfl⟩
          rw [← hQ] at hol hkf mp hob hnew
          obtain ⟨qn, hqn⟩ : ∃ q, q = Q.length := ⟨_, rfl⟩
          rw [← hqn] at hol mp
          have HOB := Lib.hid hob; have HNEW := Lib.hid hnew; have HQN := Lib.hid hqn
          clear htk hk hob hnew hb hh hQ hqn
          go_upto_region 13 with (fail)
          refine wp_gen (fun Wv => Bx Wv (wr.heap.size) (84) (#[.int .i64 b.at_, .int .i64 b.size, .int .i64 b.kind, .int .i64 b.ty, .bool b.mark, .int .u64 b.next.toNat]) ∧ Below wr.heap.size wr Wv) ⟨((Bx.at_ (by simp))), ((Below.refl _ wr).alloc (by simp <;> omega) _)⟩ ?_
          rintro wa8 ⟨g7, b⟩
          replace oT := oT.below b; replace oS := oS.below b; replace oK := oK.below b; try clear c_g1 f_g1 a_g1 d_g1 e_g1
          replace g1 := g1.below b; have c_g1 := g1.cell; have f_g1 := g1.free; have a_g1 := fun o => (g1.alloc o).cell; have d_g1 := fun o o2 => ((g1.alloc o).alloc o2).cell; have e_g1 := fun o => (g1.alloc o).free; try clear c_g5 f_g5 a_g5 d_g5 e_g5
          replace g5 := g5.below b; have c_g5 := g5.cell; have f_g5 := g5.free; have a_g5 := fun o => (g5.alloc o).cell; have d_g5 := fun o o2 => ((g5.alloc o).alloc o2).cell; have e_g5 := fun o => (g5.alloc o).free; replace mp := mp.below b; replace B := B.trans (b.mono B.size); clear b
          have c_g7 := g7.cell; have f_g7 := g7.free; have a_g7 := fun o => (g7.alloc o).cell; have d_g7 := fun o o2 => ((g7.alloc o).alloc o2).cell; have e_g7 := fun o => (g7.alloc o).free
          have lm := mp.len Try.underlying106
          go_wp2_with (at_mapUpdate; refine wpList_mapPutN rfl rfl Try.underlying3 Try.underlying106 rfl rfl rfl mp (by unfold maxLen; omega) hia hkf (plain_i64 ⟨by omega, by omega⟩) ?_; intro w5 mp5 g5')
          obtain ⟨es, ck, hmb⟩ := mp.mapL.block
          have HZ := Lib.hid (show OwnT w5 w.heap.size (.slice tA tn tc) T ∧ OwnS w5 w.heap.size 146 (.slice (some ⟨gS, 0, none⟩) 16 sc) S ∧ OwnK w5 w.heap.size (.slice lA ln lc) L ∧ Bx w5 w.heap.size 50 #[.slice none 0 0, .slice none 0 0, .slice none 0 0] ∧ Bx w5 p5 50 #[.slice tA tn tc, .slice none 0 0, .slice (some ⟨gS, 0, none⟩) 16 sc] ∧
            MapN Try.prog 3 3 (.int .i64 0) w5 pm (objs (L.take (j + 1))).length (fun a => .int .i64 (numI (objs (L.take (j + 1))) a)) (fun a => decide (IsObj (objs (L.take (j + 1))) a)) ∧ Below w.heap.size w w5 from
            ⟨oT.keptM hmb g5', row_keptM oS hmb g5', row_keptM oK hmb g5', g1.keptM hmb g5', g5.keptM hmb g5', by
              rw [HOB.out]
              refine mp5.congr (by rw [List.length_append, ← HQN.out]; rfl) (fun a => ?_) (fun a => ?_)
              · rw [numI_snoc HNEW.out]
                by_cases e : a = b.at_
                · rw [if_pos e, if_pos e, HQN.out]
                · rw [if_neg e, if_neg e]
              · rw [Bool.eq_iff_iff, Bool.or_eq_true, decide_eq_true_iff, decide_eq_true_iff, decide_eq_true_iff, isObj_snoc], B.grown g5' B.size (fun k hk => by injection hk with hk; omega)⟩)
          clear oT oS oK g1 g5 mp mp5 g5' B lm hmb
          go_roundg (N - (j + 1))
          case measure => omega
          case rel => exact ⟨j + 1, by omega, rfl, by go_num, HZ⟩
        · have k1 : (b.kind == 1) = false := by rw [beq_eq_false_iff_ne]; exact hk
          have hob : objs (L.take (j + 1)) = objs (L.take j) := by rw [htk, objs_snoc, if_neg hk, List.append_nil]
          have HOB := Lib.hid hob
          clear htk hk hob hb hh
          go_upto_region 13 with (fail)
          refine wp_gen (fun Wv => Bx Wv (wr.heap.size) (84) (#[.int .i64 b.at_, .int .i64 b.size, .int .i64 b.kind, .int .i64 b.ty, .bool b.mark, .int .u64 b.next.toNat]) ∧ Below wr.heap.size wr Wv) ⟨((Bx.at_ (by simp))), ((Below.refl _ wr).alloc (by simp <;> omega) _)⟩ ?_
          rintro wa9 ⟨g7, b⟩
          replace oT := oT.below b; replace oS := oS.below b; replace oK := oK.below b; try clear c_g1 f_g1 a_g1 d_g1 e_g1
          replace g1 := g1.below b; have c_g1 := g1.cell; have f_g1 := g1.free; have a_g1 := fun o => (g1.alloc o).cell; have d_g1 := fun o o2 => ((g1.alloc o).alloc o2).cell; have e_g1 := fun o => (g1.alloc o).free; try clear c_g5 f_g5 a_g5 d_g5 e_g5
          replace g5 := g5.below b; have c_g5 := g5.cell; have f_g5 := g5.free; have a_g5 := fun o => (g5.alloc o).cell; have d_g5 := fun o o2 => ((g5.alloc o).alloc o2).cell; have e_g5 := fun o => (g5.alloc o).free; replace mp := mp.below b; replace B := B.trans (b.mono B.size); clear b
          have c_g7 := g7.cell; have f_g7 := g7.free; have a_g7 := fun o => (g7.alloc o).cell; have d_g7 := fun o o2 => ((g7.alloc o).alloc o2).cell; have e_g7 := fun o => (g7.alloc o).free
          have HZ := Lib.hid (And.intro oT (And.intro oS (And.intro oK (And.intro g1 (And.intro g5 (And.intro mp B))))))
          rw [← HOB.out] at HZ
          go_wp2
          go_roundg (N - (j + 1))
          case measure => omega
          case rel => exact ⟨j + 1, by omega, rfl, by go_num, HZ⟩
      · obtain rfl : j = N := by omega
        have htk : L.take j = L := List.take_of_length_le (by rw [← HN.out]; exact Nat.le_refl _)
        rw [htk, ← HOL.out] at hh
        clear htk
        obtain ⟨oT, oS, oK, g1, g5, mp, B⟩ := hh.out
        have HV := Lib.hid (show OwnT wr w.heap.size (.slice tA tn tc) T ∧ OwnO wr w.heap.size (.slice none 0 0) ((objs (L.take 0)).map (obOf l T O)) ∧ OwnS wr w.heap.size 146 (.slice (some ⟨gS, 0, none⟩) 16 sc) S ∧ OwnK wr w.heap.size (.slice lA ln lc) L ∧ Bx wr w.heap.size 50 #[.slice none 0 0, .slice none 0 0, .slice none 0 0] ∧ Bx wr p5 50 #[.slice tA tn tc, (.slice none 0 0), .slice (some ⟨gS, 0, none⟩) 16 sc] ∧ MapN Try.prog 3 3 (.int .i64 0) wr pm O.length (fun a => .int .i64 (numI O a)) (fun a => decide (IsObj O a)) ∧ Below w.heap.size w wr from ⟨oT, OwnO.nil _ _, oS, oK, g1, g5, mp, B⟩)
        have lx := oK.rd.len
        rw [← HN.out] at lx
        clear hh oT oS oK g1 g5 mp B
        go_wp2
        clear lx
        go_loopg [75] j (fun g i wr => ∃ j2 : Nat, j2 ≤ j ∧ g = j - j2 ∧ i = .int .i64 j2 ∧ Hid (∃ ov, OwnT wr w.heap.size (.slice tA tn tc) T ∧ OwnO wr w.heap.size ov ((objs (L.take j2)).map (obOf l T O)) ∧ OwnS wr w.heap.size 146 (.slice (some ⟨gS, 0, none⟩) 16 sc) S ∧ OwnK wr w.heap.size (.slice lA ln lc) L ∧ Bx wr w.heap.size 50 #[.slice none 0 0, .slice none 0 0, .slice none 0 0] ∧ Bx wr p5 50 #[.slice tA tn tc, ov, .slice (some ⟨gS, 0, none⟩) 16 sc] ∧ MapN Try.prog 3 3 (.int .i64 0) wr pm O.length (fun a => .int .i64 (numI O a)) (fun a => decide (IsObj O a)) ∧ Below w.heap.size w wr))
        case atStart => exact ⟨0, by omega, by omega, rfl, Lib.hid ⟨_, HV.out⟩⟩
        case round =>
          clear HV
          obtain ⟨j2, hj2, rfl, rfl, hh⟩ := hrel
          by_cases hlt2 : j2 < j
          · obtain ⟨ov, oT, oO, oS, oK, g1, g5, mp, B⟩ := hh.out
            obtain ⟨wn, hwn⟩ : ∃ W, W = wr := ⟨_, rfl⟩
            subst hwn
            obtain ⟨bb, oo, b, ia, m0, m1, m2, m3, m4, m5, hb, _⟩ := oK.rd.at_ (k := j2) (by rw [← HN.out]; exact hlt2)
            have htk : L.take (j2 + 1) = L.take j2 ++ [b] := by rw [List.take_add_one, hb.out]; rfl
            have hB0 := B.size
            have HG := Lib.hid (And.intro oT (And.intro oO (And.intro oS (And.intro oK (And.intro g1 (And.intro g5 (And.intro mp B)))))))
            by_cases hk : b.kind = 1
            · have k1 : (b.kind == 1) = true := by rw [beq_iff_eq]; exact hk
              have k1' : (b.kind != 1) = false := by rw [bne_eq_false_iff_eq]; exact hk
              have hob : objs (L.take (j2 + 1)) = objs (L.take j2) ++ [b] := by rw [htk, objs_snoc, if_pos hk]
              have hbO : b ∈ O19 l := by rw [← HO.out, HOL.out]; exact objs_mem.2 ⟨List.mem_of_getElem? hb.out, hk⟩
              have hol : (objs (L.take j2)).length ≤ 960 := by have := HO9.out; have h1 : (objs (L.take j2)).length ≤ j2 := Nat.le_trans (List.length_filter_le _ _) (by rw [List.length_take]; omega); omega
              obtain ⟨a, q, t, ha, hq, hTq, hkB, ha1, ha2, hle, hn8⟩ := inKinds HRT.out hbO
              rw [← HT.out] at hTq hkB
              obtain ⟨nf, hnf⟩ : ∃ N, N = t.length := ⟨_, rfl⟩
              rw [← hnf] at hle hn8
              have hqT := (List.getElem?_eq_some_iff.1 hTq).1
              have hrf : RefsB l T O b := by rw [HT.out, HO.out]; exact HRT.out.good 11 (by omega) (by omega) b hbO
              have HOB := Lib.hid hob; have HTQ := Lib.hid hTq; have HKB := Lib.hid hkB; have HNF := Lib.hid hnf; have HQT := Lib.hid hqT; have HLE := Lib.hid hle; have HRF := Lib.hid hrf; have HOL9 := Lib.hid hol
              obtain ⟨bat, bsz, bkd, bty, bmk, bnx⟩ := b
              dsimp only at ha hq m0 m1 m2 m3 m4 m5 k1 k1'
              subst ha; subst hq
              clear hob htk hk hbO hTq hkB hnf hqT hle hrf hol hb hh
              clear oO oS oK g1 g5 mp
              clear oT
              have B1 : Below wn.heap.size wn wn := Below.refl _ _
              go_upto_region 19 with (fail)
              refine wp_gen (fun Wv => Bx Wv (wn.heap.size) (84) (#[.int .i64 a, .int .i64 bsz, .int .i64 bkd, .int .i64 q, .bool bmk, .int .u64 bnx.toNat]) ∧ Below wn.heap.size wn Wv) ⟨((Bx.at_ (by simp))), ((Below.refl _ wn).alloc (by simp <;> omega) _)⟩ ?_
              rintro wa10 ⟨g8, b⟩
              replace B1 := B1.trans (b.mono B1.size); replace B := B.trans (b.mono B.size); clear b
              have c_g8 := g8.cell; have f_g8 := g8.free; have a_g8 := fun o => (g8.alloc o).cell; have d_g8 := fun o o2 => ((g8.alloc o).alloc o2).cell; have e_g8 := fun o => (g8.alloc o).free
              obtain ⟨ad, yt, t2, iy, m3n, ht2, hby⟩ := HG.out.1.rd.at_ HQT.out
              have m3' := cell_later B1 m3n
              obtain rfl : t2 = t := by have := ht2.out; rw [HTQ.out] at this; injection this with e; exact e.symm
              have lx := Rd.len hby.out Try.underlying69
              rw [← HNF.out] at lx
              obtain ⟨dv, hcut, hW⟩ := (H.out.below B).cut (P := Try.prog) Try.underlying25 one_u64 (lo := (a : Int) + 2) (hi := (a : Int) + 2 + (nf : Int)) (by omega) (by omega) (by have := HLE.out; omega)
              obtain ⟨raw, hraw⟩ : ∃ m, m = (l.drop (a + 2)).take nf := ⟨_, rfl⟩
              rw [show ((a : Int) + 2 + (nf : Int)).toNat - ((a : Int) + 2).toNat = nf by omega, show ((a : Int) + 2).toNat = a + 2 by omega, ← hraw] at hW
              have hrl : raw.length = nf := by rw [hraw, List.length_take, List.length_drop]; have := HLE.out; omega
              have HRG := Lib.hid (show ∀ p, p < nf → raw[p]? = some (fw l ⟨(a : Int), bsz, bkd, (q : Int), bmk, bnx⟩ p) from fun p hp => by
                have h1 := HLE.out
                rw [hraw, List.getElem?_take_of_lt hp, List.getElem?_drop]
                unfold fw
                rw [Int.toNat_natCast, List.getD_eq_getElem?_getD, List.getElem?_eq_getElem (by omega)]; rfl)
              have HRL := Lib.hid hrl; have HW := Lib.hid hW
              have w1 : IntKind.i64.wrap ((a : Int) + 2) = (a : Int) + 2 := IntWalk.i64_in _ (by omega)
              have w2 : IntKind.i64.wrap ((a : Int) + 2 + (nf : Int)) = (a : Int) + 2 + (nf : Int) := IntWalk.i64_in _ (by omega)
              have HBY := Lib.hid hby.out
              have hB1 := B1.size
              clear ht2 hby hrl hraw hW m3n f_g8 a_g8 d_g8 e_g8
              go_upto_region 20 with (fail)
              refine wp_region_qtail 15 (by kernel_rfl) (by kernel_rfl) ?_
              simp only [List.take_succ_cons, List.take_zero, List.drop_succ_cons, List.drop_zero]
              iterate 15 (go_big_quiet_step (fail))
              refine wpQuiet_nil ?_
              go_wp2_with fail
              refine (CloneW_any dv raw (by rw [HRL.out]; omega) _ (HW.out.drew)).mono ?_
              rintro e wc ⟨y, rfl, oy, bC⟩
              obtain ⟨yA, yn, yc, rfl⟩ : ∃ A n c, y = .slice A n c := by obtain ⟨A, c, e⟩ := own_form' oy; exact ⟨A, _, c, e⟩
              have m3c := cell_later ((Below.refl _ _).drew.trans bC) m3'
              have g8c := (show Bx (World.drew _) wn.heap.size 84 #[.int .i64 a, .int .i64 bsz, .int .i64 bkd, .int .i64 q, .bool bmk, .int .u64 bnx.toNat] from g8).below bC
              have HC := Lib.hid (show OwnW wc wn.heap.size 64 (.slice yA yn yc) raw ∧ Bx wc wn.heap.size 84 #[.int .i64 a, .int .i64 bsz, .int .i64 bkd, .int .i64 q, .bool bmk, .int .u64 bnx.toNat] ∧ Below wn.heap.size wn wc from ⟨own_mono oy hB1, g8c, B1.drew.trans (bC.mono hB1)⟩)
              have c_8 := g8c.cell
              obtain ⟨A, hA⟩ : ∃ A, A = obFs l T O ⟨(a : Int), bsz, bkd, (q : Int), bmk, bnx⟩ := ⟨_, rfl⟩
              have hAl : A.length = nf := by rw [hA, obFs_len, HKB.out, ← HNF.out]
              have HAG := Lib.hid (show ∀ p, p < nf → A[p]? = some (fldV O (t2.getD p 0) (fw l ⟨(a : Int), bsz, bkd, (q : Int), bmk, bnx⟩ p)) from fun p hp => by
                rw [hA, obFs_get (by rw [HKB.out, ← HNF.out]; exact hp), HKB.out])
              have HAL := Lib.hid hAl; have HA := Lib.hid hA
              clear oy bC m3' g8 c_g8 g8c B B1 hB1 hcut w1 w2 HW hA hAl
              go_wp2
              clear c_8 m3c
              go_loopg [104] nf (fun g i wr => ∃ p : Nat, p ≤ nf ∧ g = nf - p ∧ i = .int .i64 p ∧ Hid (OwnW wr wn.heap.size 64 (.slice yA yn yc) (A.take p ++ raw.drop p) ∧ Bx wr wn.heap.size 84 #[.int .i64 a, .int .i64 bsz, .int .i64 bkd, .int .i64 q, .bool bmk, .int .u64 bnx.toNat] ∧ Below wn.heap.size wn wr))
              case atStart => exact ⟨0, by omega, by omega, rfl, Lib.hid (by simpa using HC.out)⟩
              case round =>
                clear HC
                obtain ⟨p, hp, rfl, rfl, hh3⟩ := hrel
                obtain ⟨oy, g8, b1⟩ := hh3.out
                by_cases hlp : p < nf
                · have hAp := HAG.out p hlp
                  have hRp := HRG.out p hlp
                  obtain ⟨v5, hv5⟩ : ∃ x, x = fw l ⟨(a : Int), bsz, bkd, (q : Int), bmk, bnx⟩ p := ⟨_, rfl⟩
                  rw [← hv5] at hAp hRp
                  obtain ⟨bd, kk, ib, m4, hkk⟩ := (HBY.out.below b1).at_ (P := Try.prog) Try.underlying69 one_u8 (k := p) (by rw [← HNF.out]; exact hlp)
                  have hkk2 : t2.getD p 0 = kk := by rw [List.getD_eq_getElem?_getD, hkk.out]; rfl
                  rw [hkk2] at hAp
                  have hFl : (A.take p ++ raw.drop p).length = nf := by rw [List.length_append, List.length_take, List.length_drop]; have := HAL.out; have := HRL.out; omega
                  obtain ⟨yd, iyy, my, fy, hyb, hyo, hset⟩ := OwnW.at_ oy (k := p) (by rw [hFl]; exact hlp)
                  have hFp : (A.take p ++ raw.drop p).getD p 0 = v5 := by rw [List.getD_eq_getElem?_getD, mix_get hAp hRp]; rfl
                  rw [hFp] at my
                  have HAp := Lib.hid hAp; have HRp := Lib.hid hRp
                  by_cases h3 : kk.toNat = 3
                  · have k3 : ((kk.toNat : Int) == 3) = true := by rw [beq_iff_eq]; omega
                    have hro : v5 = 0 ∨ IsObj O v5.toNat := by
                      have := HRF.out p (by rw [HKB.out, ← HNF.out]; exact hlp) (by rw [HKB.out, hkk2]; exact h3)
                      rw [← hv5] at this; exact this
                    by_cases hv0 : v5 = 0
                    · have e0 : ((v5.toNat : Int) != 0) = false := by rw [hv0]; rfl
                      have HE := Lib.hid (mix_same (A := A) (R := raw) (x := v5) (by
                        rw [hAp, fldV_ref h3, hv0, refV_none]
                        rw [HO.out]; exact no_zero HRT.out.al (objs_low HRT.out.al)) hRp)
                      clear hAp hRp hv5 hkk hkk2 hFl hFp hro hv0 h3 hset oy g8
                      go_wp2
                      go_roundg (nf - (p + 1))
                      case measure => omega
                      case rel =>
                        refine ⟨p + 1, by omega, rfl, by go_num, ?_⟩
                        rw [HE.out]; exact hh3
                    · have e0 : ((v5.toNat : Int) != 0) = true := by rw [bne_iff_ne]; intro e; exact hv0 (UInt64.toNat.inj (by simp; omega))
                      have hob := hro.resolve_left hv0
                      obtain ⟨c, hcm, hce⟩ := hob
                      have hcb := HAB.out c (by rw [HOL.out] at hcm; exact (objs_mem.1 hcm).1)
                      obtain ⟨k, hk⟩ := Int.eq_ofNat_of_zero_le (numI_rng (a := (v5.toNat : Int)) HO9.out).1
                      have hk9 := (numI_rng (a := (v5.toNat : Int)) HO9.out).2
                      have hxe : ((refV O v5).toNat : Int) = (k : Int) + 1 := by rw [refV_idxI HO9.out, ← numI_idxI ⟨c, hcm, hce⟩, hk]
                      have hv5b : (v5.toNat : Int) ≤ 1000000 := by rw [← hce]; exact hcb.2
                      have ml := (HG.out.2.2.2.2.2.2.1.mapL.below b1).lookI Try.underlying3 Try.underlying106 Try.underlying3 (zero_int wr) (a := (v5.toNat : Int)) ⟨by omega, by omega⟩
                      rw [hk] at ml hk9
                      have w1 : IntKind.i64.wrap (v5.toNat : Int) = (v5.toNat : Int) := IntWalk.i64_in _ (by omega)
                      have w2 : IntKind.u64.wrap (k : Int) = (k : Int) := by show (k : Int) % 18446744073709551616 = _; omega
                      have w3 : IntKind.u64.wrap ((k : Int) + 1) = (k : Int) + 1 := by show ((k : Int) + 1) % 18446744073709551616 = _; omega
                      have hst := hset (refV O v5)
                      rw [hxe, ← fldV_ref h3] at hst
                      have hE := mix_set hAp hRp
                      have hne : yd.block ≠ wn.heap.size := by
                        rcases own_not_bx oy g8 (by decide) with h | h
                        · rw [h] at hyo; cases hyo
                        · intro e; rw [hyo, e] at h; exact h rfl
                      have HZ := Lib.hid (show OwnW (wr.setCell yd (.int .u64 ((k : Int) + 1))) wn.heap.size 64 (.slice yA yn yc) (A.take (p + 1) ++ raw.drop (p + 1)) ∧ Bx (wr.setCell yd (.int .u64 ((k : Int) + 1))) wn.heap.size 84 #[.int .i64 a, .int .i64 bsz, .int .i64 bkd, .int .i64 q, .bool bmk, .int .u64 bnx.toNat] ∧ Below wn.heap.size wn (wr.setCell yd (.int .u64 ((k : Int) + 1))) from
                        ⟨by rw [← hE]; exact hst, g8.far hne.symm _, b1.setCell hyb _⟩)
                      clear hAp hRp hv5 hkk hkk2 hFl hFp hro hv0 h3 hset oy g8 hcm hce hcb hk hxe hst hE hne
                      go_wp2
                      go_roundg (nf - (p + 1))
                      case measure => omega
                      case rel => exact ⟨p + 1, by omega, rfl, by go_num, HZ⟩
                  · have k3 : ((kk.toNat : Int) == 3) = false := by rw [beq_eq_false_iff_ne]; omega
                    have HE := Lib.hid (mix_same (A := A) (R := raw) (x := v5) (by rw [hAp, fldV_not h3]) hRp)
                    clear hAp hRp hv5 hkk hkk2 hFl hFp h3 hset oy g8
                    go_wp2
                    go_roundg (nf - (p + 1))
                    case measure => omega
                    case rel =>
                      refine ⟨p + 1, by omega, rfl, by go_num, ?_⟩
                      rw [HE.out]; exact hh3
                · obtain rfl : p = nf := by omega
                  have hfs : A.take p ++ raw.drop p = A := by rw [List.take_of_length_le (by rw [HAL.out]; exact Nat.le_refl _), List.drop_of_length_le (by rw [HRL.out]; exact Nat.le_refl _), List.append_nil]
                  rw [hfs] at oy
                  obtain ⟨oT, oO, oS, oK, g1, g5, mp, B⟩ := HG.out
                  obtain ⟨oA2, on2, oc2, rfl⟩ : ∃ A n c, ov = .slice A n c := by obtain ⟨vs, z1, z2, _⟩ := oO; obtain ⟨A, c, e⟩ := own_form' z2; exact ⟨A, _, c, e⟩
                  obtain ⟨vs, z1, z2, z4, z5⟩ := oO
                  have c5 := (g5.below b1).cell
                  have c_8 := g8.cell
                  have ba := b1.alloc b1.size (.cells #[.int .i64 (q : Int), .slice yA yn yc] 109)
                  have hoy : OwnW wr wn.heap.size 64 (.slice yA yn yc) (obOf l T O ⟨(a : Int), bsz, bkd, (q : Int), bmk, bnx⟩).fs := by rw [HA.out] at oy; exact oy
                  have HAA := Lib.hid (And.intro z1 (And.intro z2 (And.intro z4 (And.intro z5 (And.intro g5 (And.intro B (And.intro hoy (And.intro b1 ba))))))))
                  have hL1 : ((objs (L.take j2)).map (obOf l T O)).length ≤ 960 := by rw [List.length_map]; exact HOL9.out
                  clear z1 z4 z5 oT oS oK g1 g5 mp B oy b1 g8 hoy hh3
                  have Z2 := Lib.hid (own_below z2 ba); have BA := Lib.hid ba
                  clear z2 ba hfs
                  have HL1 := Lib.hid hL1
                  clear hL1
                  go_upto_region 27 with (fail)
                  go_wp2_with (at_builtin; refine wpList_append (by rfl) rfl rfl rfl Try.underlying47 info_obj rfl (by omega) (by exact Z2.out) (by exact lit_obj) (by exact one_obj rfl) (by have := HL1.out; omega) (by have := HL1.out; omega) (by exact HAA.out.2.2.2.2.2.1.trans (BA.out.mono hB0)) (by omega) ?_; intro v1 w3 oo3 B3 g3'; obtain ⟨vA, vn1, vc, rfl⟩ : ∃ A n c, v1 = .slice A n c := by { obtain ⟨A, c, e⟩ := own_form' oo3; exact ⟨A, _, c, e⟩ }; have MM := Lib.hid (pushO (o := obOf l T O ⟨(a : Int), bsz, bkd, (q : Int), bmk, bnx⟩) HAA.out.1 HAA.out.2.1 HAA.out.2.2.1 HAA.out.2.2.2.1 HAA.out.2.2.2.2.2.2.1 HAA.out.2.2.2.2.2.2.2.1 oo3 g3' HAA.out.2.2.2.2.1 HAA.out.2.2.2.2.2.1 hB0 (by omega)); have hc := MM.out.1.1; have hf := MM.out.1.2; clear oo3 B3 g3')
                  have HM := Lib.hid MM.out.2
                  clear MM hc hf c5 c_8 HAA Z2 BA
                  go_roundg (j - (j2 + 1))
                  case measure => omega
                  case rel =>
                    have P := HM.out
                    obtain ⟨oT, oO, oS, oK, g1, g5, mp, B⟩ := HG.out
                    refine ⟨j2 + 1, by omega, rfl, by go_num, Lib.hid ⟨_, P.t oT, ?_, P.row oS (by decide) (by decide), P.row oK (by decide) (by decide), P.bx g1 (by omega) (by decide), P.md, P.map mp, P.below⟩⟩
                    rw [HOB.out, List.map_append]; exact P.own
            · have k1 : (b.kind == 1) = false := by rw [beq_eq_false_iff_ne]; exact hk
              have k1' : (b.kind != 1) = true := by rw [bne_iff_ne]; exact hk
              have hob : objs (L.take (j2 + 1)) = objs (L.take j2) := by rw [htk, objs_snoc, if_neg hk, List.append_nil]
              have HOB := Lib.hid hob
              clear htk hk hob hb hh
              go_upto_region 19 with (fail)
              refine wp_gen (fun Wv => Bx Wv (wn.heap.size) (84) (#[.int .i64 b.at_, .int .i64 b.size, .int .i64 b.kind, .int .i64 b.ty, .bool b.mark, .int .u64 b.next.toNat]) ∧ Below wn.heap.size wn Wv) ⟨((Bx.at_ (by simp))), ((Below.refl _ wn).alloc (by simp <;> omega) _)⟩ ?_
              rintro wa11 ⟨g8, b⟩
              replace oT := oT.below b; replace oO := oO.below b; replace oS := oS.below b; replace oK := oK.below b; try clear c_g1 f_g1 a_g1 d_g1 e_g1
              replace g1 := g1.below b; have c_g1 := g1.cell; have f_g1 := g1.free; have a_g1 := fun o => (g1.alloc o).cell; have d_g1 := fun o o2 => ((g1.alloc o).alloc o2).cell; have e_g1 := fun o => (g1.alloc o).free; try clear c_g5 f_g5 a_g5 d_g5 e_g5
              replace g5 := g5.below b; have c_g5 := g5.cell; have f_g5 := g5.free; have a_g5 := fun o => (g5.alloc o).cell; have d_g5 := fun o o2 => ((g5.alloc o).alloc o2).cell; have e_g5 := fun o => (g5.alloc o).free; replace mp := mp.below b; replace B := B.trans (b.mono B.size); clear b
              have c_g8 := g8.cell; have f_g8 := g8.free; have a_g8 := fun o => (g8.alloc o).cell; have d_g8 := fun o o2 => ((g8.alloc o).alloc o2).cell; have e_g8 := fun o => (g8.alloc o).free
              have HZ := Lib.hid (And.intro oT (And.intro oO (And.intro oS (And.intro oK (And.intro g1 (And.intro g5 (And.intro mp B)))))))
              rw [← HOB.out] at HZ
              go_wp2
              go_roundg (j - (j2 + 1))
              case measure => omega
              case rel => exact ⟨j2 + 1, by omega, rfl, by go_num, Lib.hid ⟨_, HZ.out⟩⟩
          · obtain rfl : j2 = j := by omega
            obtain ⟨ov, oT, oO, oS, oK, g1, g5, mp, B⟩ := hh.out
            obtain ⟨oA2, on2, oc2, rfl⟩ : ∃ A n c, ov = .slice A n c := by obtain ⟨vs, z1, z2, _⟩ := oO; obtain ⟨A, c, e⟩ := own_form' z2; exact ⟨A, _, c, e⟩
            have htk : L.take j2 = L := List.take_of_length_le (by rw [← HN.out]; exact Nat.le_refl _)
            rw [htk, ← HOL.out] at oO
            have HM := Lib.hid (And.intro (OwnM.mk (m := ⟨T, O.map (obOf l T O), S⟩) oT oO oS) (And.intro g1 (And.intro g5 (And.intro mp B))))
            have c_g5 := g5.cell
            clear hh oT oO oS oK g1 g5 mp B htk
            go_wp2
            clear c_g5
            go_loopg [144] 16 (fun g i wr => ∃ j3 : Nat, j3 ≤ 16 ∧ g = 16 - j3 ∧ i = .int .i64 j3 ∧ Hid (OwnM wr w.heap.size 146 (.slice tA tn tc) (.slice oA2 on2 oc2) (.slice (some ⟨gS, 0, none⟩) 16 sc) ⟨T, O.map (obOf l T O), mapT (slOf O) S j3⟩ ∧ Bx wr w.heap.size 50 #[.slice none 0 0, .slice none 0 0, .slice none 0 0] ∧ Bx wr p5 50 #[.slice tA tn tc, .slice oA2 on2 oc2, .slice (some ⟨gS, 0, none⟩) 16 sc] ∧
              MapN Try.prog 3 3 (.int .i64 0) wr pm O.length (fun a => .int .i64 (numI O a)) (fun a => decide (IsObj O a)) ∧ Below w.heap.size w wr))
            case atStart => exact ⟨0, by omega, by omega, rfl, Lib.hid (by rw [mapT_zero]; exact HM.out)⟩
            case round =>
              clear HM
              obtain ⟨j3, hj3, rfl, rfl, hh⟩ := hrel
              obtain ⟨om, g3, g5, mp, B⟩ := hh.out
              have hB0 := B.size
              by_cases hlt3 : j3 < 16
              · obtain ⟨s, hs⟩ : ∃ s, S[j3]? = some s := ⟨_, List.getElem?_eq_getElem (by rw [HS16.out]; exact hlt3)⟩
                have hs2 := mapT_get (f := slOf O) hs
                have hsm : s ∈ slots l := by rw [← HS.out]; exact List.mem_of_getElem? hs
                have hso := seen_slot HRT.out hsm
                obtain ⟨ix, q0, q1, q2⟩ := OwnS.cells om.s hs2
                have q0' := q0; have q1' := q1; have q2' := q2
                have HJ := Lib.hid (And.intro om (And.intro g3 (And.intro g5 (And.intro mp B))))
                have B1 : Below wr.heap.size wr wr := Below.refl _ _
                cases hu : s.used
                · rw [hu] at q1
                  have HE := Lib.hid (mapT_same (f := slOf O) hs (slOf_not hu))
                  have hB3 := HJ.out.2.2.2.2
                  clear hs hs2 hso hsm om g3 g5 mp B q0' q1' q2' hh
                  obtain ⟨sg, su, sa⟩ := s
                  dsimp only at q0 q1 q2 hu
                  subst hu
                  have B := hB3
                  go_upto_region 32 with (fail)
                  refine wp_gen (fun Wv => Bx Wv (wr.heap.size) (56) (#[.int .i64 sg, .bool false, .int .i64 sa]) ∧ Below wr.heap.size wr Wv) ⟨((Bx.at_ (by simp))), ((Below.refl _ wr).alloc (by simp <;> omega) _)⟩ ?_
                  rintro wa12 ⟨g8, b⟩
                  replace B1 := B1.trans (b.mono B1.size); replace B := B.trans (b.mono B.size); clear b
                  have c_g8 := g8.cell; have f_g8 := g8.free; have a_g8 := fun o => (g8.alloc o).cell; have d_g8 := fun o o2 => ((g8.alloc o).alloc o2).cell; have e_g8 := fun o => (g8.alloc o).free
                  have HZ := Lib.hid (And.intro (HJ.out.1.below B1) (And.intro (HJ.out.2.1.below B1) (And.intro (HJ.out.2.2.1.below B1) (And.intro (HJ.out.2.2.2.1.below B1) B))))
                  clear ix q0 q1 q2
                  go_wp2
                  go_roundg (16 - (j3 + 1))
                  case measure => omega
                  case rel =>
                    refine ⟨j3 + 1, by omega, rfl, by go_num, ?_⟩
                    rw [HE.out]; exact HZ
                · rw [hu] at q1
                  obtain ⟨a1, a2, a3⟩ := hso.2.2.2 hu
                  obtain ⟨c, hcm, hce⟩ : IsObj O s.at_ := by rw [HO.out]; exact HRT.out.slots s hsm hu
                  have hnr := numI_rng (a := s.at_) HO9.out
                  obtain ⟨k, hk⟩ : ∃ k, k = numI O s.at_ := ⟨_, rfl⟩
                  have HE := Lib.hid (show (mapT (slOf O) S j3).set j3 ⟨s.gen, s.used, k⟩ = mapT (slOf O) S (j3 + 1) by
                    rw [← mapT_set hs, slOf_used hu, hu, hk, numI_idxI ⟨c, hcm, hce⟩])
                  have hB3 := HJ.out.2.2.2.2
                  have HSS := Lib.hid hs2
                  obtain ⟨sg, su, sa⟩ := s
                  dsimp only at q0 q1 q2 hu a1 a2 a3 hk hnr
                  subst hu
                  have HK := Lib.hid hk
                  clear hs hs2 hso hsm om g3 g5 mp B q0' q1' q2' hh hcm hce hk hnr
                  have B := hB3
                  go_upto_region 32 with (fail)
                  refine wp_gen (fun Wv => Bx Wv (wr.heap.size) (56) (#[.int .i64 sg, .bool true, .int .i64 sa]) ∧ Below wr.heap.size wr Wv) ⟨((Bx.at_ (by simp))), ((Below.refl _ wr).alloc (by simp <;> omega) _)⟩ ?_
                  rintro wa13 ⟨g8, b⟩
                  replace B1 := B1.trans (b.mono B1.size); replace B := B.trans (b.mono B.size); clear b
                  have c_g8 := g8.cell; have f_g8 := g8.free; have a_g8 := fun o => (g8.alloc o).cell; have d_g8 := fun o o2 => ((g8.alloc o).alloc o2).cell; have e_g8 := fun o => (g8.alloc o).free
                  have om := HJ.out.1.below B1; have g3 := HJ.out.2.1.below B1; have g5 := HJ.out.2.2.1.below B1; have mp := HJ.out.2.2.2.1.below B1
                  clear q0 q1 q2
                  obtain ⟨_, _, _, q2⟩ := OwnS.cells om.s HSS.out
                  dsimp only at q2
                  have ml := mp.mapL.lookI Try.underlying3 Try.underlying106 Try.underlying3 (zero_int _) (a := sa) ⟨by omega, by omega⟩
                  rw [← HK.out] at ml
                  have HP := Lib.hid (OwnS.put1 om.s HSS.out k)
                  have fz := HP.out.2.2.2.2
                  have hM3 := OwnM.slotsE om HP.out.2.1 HP.out.1 (by decide) (by decide) (by decide) (by decide)
                  have n3 : gS ≠ w.heap.size := own_ne_bx om.s g3 (by decide)
                  have n5 : gS ≠ p5 := own_ne_bx om.s g5 (by decide)
                  have r3 := g3.grown HP.out.2.1 (.inr (fun e => n3 (by injection e)))
                  have r4 := g5.grown HP.out.2.1 (.inr (fun e => n5 (by injection e)))
                  obtain ⟨es, ck, hmb⟩ := mp.mapL.block
                  have r5 := mp.kept HP.out.2.1 (fun e => by
                    rcases own_ne_map om.s hmb with h | h
                    · cases h
                    · exact h (by injection e with e; rw [e]; rfl))
                  have hb3 := B.grown HP.out.2.1 B.size (fun k hk => by injection hk with hk; rw [← hk]; exact HP.out.2.2.1)
                  have HZ := Lib.hid (And.intro hM3 (And.intro r3 (And.intro r4 (And.intro r5 hb3))))
                  have c_g5 := g5.cell
                  clear hM3 r3 r4 r5 hb3 om g3 g5 mp hmb f_g8 a_g8 d_g8 e_g8
                  go_wp2
                  clear q2 fz ml c_g5 c_g8 g8
                  go_roundg (16 - (j3 + 1))
                  case measure => omega
                  case rel =>
                    refine ⟨j3 + 1, by omega, rfl, by go_num, Lib.hid ?_⟩
                    rw [← HE.out]; exact HZ.out
              · obtain rfl : j3 = 16 := by omega
                rw [mapT_done (by rw [HS16.out]; exact Nat.le_refl _)] at om
                have HOM := Lib.hid om
                clear hh om mp
                have c_g3 := g3.cell
                have f_g3 := g3.free
                have c_g5 := g5.cell
                go_wp2
                refine bodyPost_ret (v := .tuple #[.agg #[.slice tA tn tc, .slice oA2 on2 oc2, .slice (some ⟨gS, 0, none⟩) 16 sc], .int .i64 0]) (by simp [results, Try.results20, go_sem, c_g3, f_g3]) rfl ?_
                refine ⟨_, _, _, rfl, OwnM.set3E HOM.out g3 (by decide), ?_⟩
                exact ((B.setCell (p := ⟨w.heap.size, 0, none⟩) (by simp) _).setCell (p := ⟨w.heap.size, 1, none⟩) (by simp) _).setCell (p := ⟨w.heap.size, 2, none⟩) (by simp) _
end Go.Proofs.Ytodbbacmdjcheaa
namespace Go.Proofs.Ytodbbacmdjcheaa.L74
open L02 L05 L06 L07 L13 L14 L15 L16 L18 L19 L73
theorem ext0 {a b : List UInt64} (hl : a.length = b.length) (h : ∀ i, i < a.length → a.getD i 0 = b.getD i 0) : a = b := by
  apply List.ext_getElem hl
  intro i h1 h2
  have := h i h1
  rw [List.getD_eq_getElem?_getD, List.getD_eq_getElem?_getD, List.getElem?_eq_getElem h1, List.getElem?_eq_getElem h2] at this
  exact this
theorem tysP_far (l : List UInt64) (T : List (List UInt8)) (hl : 112 ≤ l.length) : ∀ k, k ≤ 8 → ∀ i, (i < 96 ∨ 96 + 2 * k ≤ i) → (tysP l T k).getD i 0 = l.getD i 0
  | 0, _, i, h => rfl
  | k + 1, hk, i, h => by
    rw [tysP, putP_getD _ _ _ _ (by rw [tysP_len]; simp; omega), if_neg (by simp; omega)]
    exact tysP_far l T hl k (by omega) i (by omega)
/-- every word of a new image -/
theorem imageP_getD {n : Nat} {T : List (List UInt8)} (hn : 256 ≤ n) (hT : T.length ≤ 8) (i : Nat) : (imageP n T).getD i 0 =
    if i = 128 then word ⟨0, (n : Int) - 128, 2, 0, false, 0⟩ else if 8 ≤ i ∧ i < 16 then (wordsOf n T.length).getD (i - 8) 0 else if i < 8 then (wordsOf n T.length).getD i 0 else (tysP (List.replicate n 0) T T.length).getD i 0 := by
  have h8 : (wordsOf n T.length).length = 8 := len_words _ _
  have hl : (tysP (List.replicate n 0) T T.length).length = n := by rw [tysP_len, List.length_replicate]
  rw [imageP, putP_getD _ _ _ _ (by rw [putW_len, putW_len, hl]; simp; omega)]
  by_cases e : i = 128
  · subst e; rw [if_pos (by simp), if_pos rfl]; rfl
  · rw [if_neg (by simp; omega), if_neg e, putP_getD _ _ _ _ (by rw [putW_len, hl, h8]; omega), putP_getD _ _ _ _ (by rw [hl, h8]; omega), h8]
    by_cases a : 8 ≤ i ∧ i < 16
    · rw [if_pos (show 8 ≤ i ∧ i < 8 + 8 from a), if_pos a]
    · rw [if_neg (show ¬ (8 ≤ i ∧ i < 8 + 8) from a), if_neg a]
      by_cases b : i < 8
      · rw [if_pos (show 0 ≤ i ∧ i < 0 + 8 by omega), if_pos b]; rfl
      · rw [if_neg (show ¬ (0 ≤ i ∧ i < 0 + 8) by omega), if_neg b]
theorem imageP_zero {n : Nat} {T : List (List UInt8)} (hn : 256 ≤ n) (hT : T.length ≤ 8) {i : Nat} (h1 : 16 ≤ i) (h2 : i < 96 ∨ 96 + 2 * T.length ≤ i) (h3 : i ≠ 128) : (imageP n T).getD i 0 = 0 := by
  rw [imageP_getD hn hT, if_neg h3, if_neg (by omega), if_neg (by omega), tysP_far _ _ (by simp; omega) _ hT _ h2, List.getD_eq_getElem?_getD]
  by_cases h : i < n
  · rw [List.getElem?_replicate_of_lt h]; rfl
  · rw [List.getElem?_eq_none (by simp; omega)]; rfl
/-- what a right new image is asked for -/
structure Nw (n : Nat) (T : List (List UInt8)) : Prop where
  sz : SizeOk n
  len : T.length ≤ 8
  ok : ∀ t ∈ T, kErr t = 0
variable {n : Nat} {T : List (List UInt8)}
theorem Nw.le (h : Nw n T) : 256 ≤ n ∧ n ≤ 2048 := by have h1 := h.sz.1; have h2 := h.sz.2.1; omega
theorem Nw.sizeOk (h : Nw n T) : SizeOk (imageP n T).length := by rw [imageP_len]; exact h.sz
theorem Nw.sup (h : Nw n T) : SupOk n T.length := ⟨h.sz, by omega, by have := h.len; omega⟩
theorem Nw.bk (h : Nw n T) : BkOk ⟨0, (n : Int) - 128, 2, 0, false, 0⟩ := by
  have := h.sz; unfold SizeOk at this
  exact ⟨⟨show (2 : Int) ≤ (n : Int) - 128 by omega, show ((n : Int) - 128) % 2 = 0 by omega⟩, .inr ⟨rfl, rfl, rfl, show (n : Int) - 128 ≤ 1920 by omega⟩⟩
theorem getD_take {l : List UInt64} {k i : Nat} (h : i < k) : (l.take k).getD i 0 = l.getD i 0 := by
  rw [List.getD_eq_getElem?_getD, List.getD_eq_getElem?_getD, List.getElem?_take_of_lt h]
theorem getD_drop (l : List UInt64) (k i : Nat) : (l.drop k).getD i 0 = l.getD (k + i) 0 := by
  rw [List.getD_eq_getElem?_getD, List.getD_eq_getElem?_getD, List.getElem?_drop]
theorem Nw.c0 (h : Nw n T) : c0 (imageP n T) = wordsOf n T.length := by
  have hl := h.le
  refine ext0 (by rw [c0_len h.sizeOk, len_words]) fun i hi => ?_
  rw [c0_len h.sizeOk] at hi
  rw [L07.c0, getD_take hi, imageP_getD hl.1 h.len, if_neg (by omega), if_neg (by omega), if_pos hi]
theorem Nw.c1 (h : Nw n T) : c1 (imageP n T) = wordsOf n T.length := by
  have hl := h.le
  refine ext0 (by rw [c1_len h.sizeOk, len_words]) fun i hi => ?_
  rw [c1_len h.sizeOk] at hi
  rw [L07.c1, getD_take hi, getD_drop, imageP_getD hl.1 h.len, if_neg (by omega), if_pos (by omega), Nat.add_sub_cancel_left]
theorem Nw.copy (h : Nw n T) : CopyOk (imageP n T).length (wordsOf n T.length) := good_words h.sup (by rw [imageP_len])
theorem Nw.is (h : Nw n T) : is0 (imageP n T) = true ∧ is1 (imageP n T) = true := by
  rw [is0_good h.sizeOk, is1_good h.sizeOk, h.c0, h.c1]
  exact ⟨decide_eq_true h.copy, decide_eq_true h.copy⟩
theorem Nw.tw (h : Nw n T) : rErr (imageP n T) = 0 := rErr_mk h.sizeOk (.inl h.is.1)
theorem Nw.sT (h : Nw n T) : sT (imageP n T) = T.length := by
  rw [L07.sT, if_pos h.tw, one, if_pos h.is.1, h.c0, at3_words h.sup]
theorem Nw.ta (h : Nw n T) {i : Nat} (hi : i < T.length) : ta (imageP n T) i = w0 (T.getD i []) ∧ tb (imageP n T) i = L13.w1 (T.getD i []) := (imageP_at h.le.1 h.len).2 i hi
theorem Nw.tz (h : Nw n T) {i : Nat} (h1 : T.length ≤ i) (h2 : i < 8) : L13.ta (imageP n T) i = 0 ∧ tb (imageP n T) i = 0 :=
  ⟨imageP_zero h.le.1 h.len (by omega) (by omega) (by omega), imageP_zero h.le.1 h.len (by omega) (by omega) (by omega)⟩
theorem Nw.okD (h : Nw n T) {i : Nat} (hi : i < T.length) : kErr (T.getD i []) = 0 := by
  rw [List.getD_eq_getElem?_getD, List.getElem?_eq_getElem hi]; exact h.ok _ (List.getElem_mem hi)
theorem Nw.tys (h : Nw n T) : TysOk (imageP n T) T.length := fun i hi => by
  unfold TyOk
  by_cases e : i < T.length
  · rw [if_pos e, (h.ta e).1, (h.ta e).2]; exact (rd_of_write (h.okD e)).1
  · rw [if_neg e]; exact h.tz (by omega) hi
theorem Nw.tab (h : Nw n T) : tabErr (imageP n T) (L07.sT (imageP n T)) = 0 := by
  rw [h.sT, tabErr, if_pos h.sizeOk, if_pos ⟨by omega, by have := h.len; omega⟩, if_pos (by rw [Int.toNat_natCast]; exact h.tys)]
theorem Nw.tyT (h : Nw n T) : T19 (imageP n T) = T := by
  rw [T19, tabT, if_pos h.tab, h.sT, Int.toNat_natCast]
  apply List.ext_getElem
  · rw [tysTo_len]
  · intro i h1 h2
    simp only [tysTo, List.getElem_map, List.getElem_range]
    rw [(h.ta h2).1, (h.ta h2).2, (rd_of_write (h.okD h2)).2, List.getD_eq_getElem?_getD, List.getElem?_eq_getElem h2]; rfl
theorem Nw.ws (h : Nw n T) : ws (imageP n T) = List.replicate 16 0 := by
  have hl := h.le
  refine ext0 (by rw [L18.ws, List.length_take, List.length_drop, imageP_len, List.length_replicate]; omega) fun i hi => ?_
  rw [L18.ws, List.length_take, List.length_drop, imageP_len] at hi
  rw [L18.ws, getD_take (by omega), getD_drop, imageP_zero hl.1 h.len (by omega) (by have := h.len; omega) (by omega), List.getD_eq_getElem?_getD, List.getElem?_replicate_of_lt (by omega)]; rfl
theorem Nw.slots (h : Nw n T) : slots (imageP n T) = List.replicate 16 .none := by
  rw [L18.slots, h.ws, List.map_replicate]; rw [show spl 0 = Sl.none by decide]
theorem Nw.sl (h : Nw n T) : openErr (imageP n T) = 0 := by
  rw [openErr, if_pos h.sizeOk, if_pos]
  intro x hx
  rw [h.ws] at hx
  rw [List.eq_of_mem_replicate hx]; decide
/-- the one block -/
def nwB (n : Nat) : Hb := ⟨128, (n : Int) - 128, 2, 0, false, 0⟩
theorem Nw.head (h : Nw n T) : (imageP n T).getD 128 0 = word ⟨0, (n : Int) - 128, 2, 0, false, 0⟩ := by rw [imageP_getD h.le.1 h.len, if_pos rfl]
theorem Nw.stOk (h : Nw n T) : StOk (imageP n T) 128 := by
  have hl := h.le
  refine ⟨by rw [h.head]; exact hd_word h.bk, ?_⟩
  rw [h.head, split_word h.bk, imageP_len]; show (128 : Int) + ((n : Int) - 128) ≤ n; omega
theorem Nw.stand (h : Nw n T) : stand (imageP n T) 128 = nwB n := by
  rw [L15.stand, h.head, split_word h.bk, imageP_zero h.le.1 h.len (by omega) (by have := h.len; omega) (by omega)]; rfl
theorem Nw.parsed (h : Nw n T) : parsed (imageP n T) = some [nwB n] := by
  have hl := h.le
  rw [parsed_ok]
  have hz : szN (imageP n T) 128 = n - 128 := by
    rw [szN, h.head, split_word h.bk]; show ((n : Int) - 128).toNat = n - 128; omega
  refine ⟨?_, fun a => by simp [Adj] at a⟩
  rw [from_step (by rw [imageP_len]; omega) h.stOk, hz, h.stand, show 128 + (n - 128) = (imageP n T).length by rw [imageP_len]; omega, from_end]; rfl
theorem Nw.al (h : Nw n T) : allErr (imageP n T) = 0 := by rw [allErr, if_pos h.sizeOk, if_pos (by rw [h.parsed]; rfl)]
theorem Nw.allL (h : Nw n T) : allL (imageP n T) = [nwB n] := by rw [L15.allL, if_pos h.al, h.parsed]; rfl
theorem Nw.objs (h : Nw n T) : O19 (imageP n T) = [] := by rw [O19, h.allL]; rfl
theorem Nw.free (h : Nw n T) : freeL (imageP n T) = [nwB n] := by rw [freeL, h.allL]; rfl
theorem Nw.rt (h : Nw n T) : Rt (imageP n T) := by
  have hl := h.le
  refine ⟨h.sizeOk, h.tw, fun i hi => imageP_zero hl.1 h.len (by omega) (by omega) (by omega), fun i hi => imageP_zero hl.1 h.len (by omega) (by omega) (by omega), h.tab, h.sl, h.al, fun i _ _ b hb => ?_, fun s hs hu => ?_⟩
  · rw [h.objs] at hb; simp at hb
  · rw [h.slots] at hs; rw [List.eq_of_mem_replicate hs] at hu; cases hu
theorem Nw.seen (h : Nw n T) : L19.seen (imageP n T) = ⟨T, [], List.replicate 16 .none⟩ := by
  rw [L19.seen, h.tyT, h.objs, h.slots, List.map_replicate]; rfl
end Go.Proofs.Ytodbbacmdjcheaa.L74
