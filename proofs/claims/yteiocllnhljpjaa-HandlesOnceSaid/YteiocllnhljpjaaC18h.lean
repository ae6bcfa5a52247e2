/- Contracts of the reference of slots: tables. -/
import Derived.Test.YteiocllnhljpjaaC18g
set_option linter.unusedVariables false
set_option linter.unusedSimpArgs false
namespace Go.Proofs.Yteiocllnhljpjaa
open Go.RowKit L01 L02 L18

theorem info_slot : (Try.prog.info? 23).map (fun i => (i.zero, i.size, i.bytes)) = some (some (.agg #[.int .i64 0, .bool false, .int .i64 0]), 3, 24) := by kernel_rfl
theorem lit_slot {w : World} {e : TypeId} {n : Nat} (s : Sl) (hn : w.heap.size = n) : Rd (w.alloc (.cells #[.int .i64 s.gen, .bool s.used, .int .i64 s.at_] e)) 3 (.slice (some ⟨n, 0, none⟩) 1 1) 1 (slC s) := by
  subst hn; exact lit_rdK (n := 1) (sz := 3) rfl (by omega)
theorem slC_one (s : Sl) : ∀ u ∈ slC s, u.oneCell' = true := by
  intro u hu
  simp [slC] at hu
  rcases hu with rfl | rfl | rfl <;> rfl
theorem OwnS.of {w : World} {B E n : Nat} {v : Value} {xs : List Value} {L : List Sl} (h : w.ownsRow B E 3 v n xs) (hx : xs = tabL L) : OwnS w B E v L := by
  subst hx
  have hn : n = L.length := by have := h.1; rw [tabL_len] at this; omega
  subst hn; exact h
theorem tabL_snoc (L : List Sl) (s : Sl) : tabL L ++ slC s = tabL (L ++ [s]) := by simp [tabL, List.flatMap_append]

set_option maxRecDepth 100000 in
set_option maxHeartbeats 1000000 in
theorem ToldR_any (v : Value) (l : List UInt64) (hs : SizeOk l.length) (L : List Sl) (r : Bool) (hL : L = all l) (hr : r = decide (openErr l = 0)) (w : World) (h : Words w v l) :
    Calls Try.prog 35 #[v] w fun e w' => ∃ x, e = .returned (.tuple #[x, .bool r]) ∧ OwnS w' w.heap.size 23 x L ∧ Below w.heap.size w w' := by
  have B : Below w.heap.size w w := Below.refl _ _
  have H := Lib.hid h; have HS := Lib.hid hs; have HL := Lib.hid hL; have HR := Lib.hid hr
  have hlen := hs.1
  clear h hs hL hr
  go_enter Try.func35, Try.ntmps35
  go_wp2
  have HB := Lib.hid B; clear B
  go_loopw [4, 5] (fun xv i wr => ∃ k : Nat, k ≤ 16 ∧ i = .int .i64 k ∧ Hid (OwnS wr w.heap.size 23 xv ((slots l).take k) ∧ ∀ x ∈ (ws l).take k, Right (spl x)) ∧ Below w.heap.size w wr) (fun _ i _ => 16 - (intOf i).toNat)
  case atStart => exact ⟨0, by omega, rfl, Lib.hid ⟨OwnS.nil _ _ _, by simp⟩, HB.out⟩
  case round =>
    obtain ⟨k, hk, rfl, hh, B⟩ := hrel
    by_cases hlt : k < 16
    · obtain ⟨ad, x, ia, ca, hx⟩ := (H.out.below B).atI Try.underlying37 one_u64 (k := 112 + (k : Int)) (by omega) (by omega)
      have hx' : (ws l)[k]? = some x := ws_get hlt (by have := hx.out; rwa [show (112 + (k : Int)).toNat = 112 + k by omega] at this)
      have HX := Lib.hid hx'; clear hx hx'
      by_cases hr : Right (spl x)
      · have SP := SplitR_r x (spl x) 0 (by rw [spl0, if_pos hr]) (by rw [splErr, if_pos hr])
        obtain ⟨s, hs⟩ : ∃ s, s = spl x := ⟨_, rfl⟩
        rw [← hs] at SP
        have HSP := Lib.hid SP; have HRR := Lib.hid hr; have HSX := Lib.hid hs; clear SP hr hs
        go_wp2_with fail
        refine (HSP.out _).mono ?_
        rintro e w2 ⟨rfl, b⟩
        have o := hh.out.1.below b
        replace B := B.trans (b.mono B.size)
        have HO := Lib.hid o; have HBB := Lib.hid B; clear b o B
        have hlk : ((slots l).take k).length ≤ 16 := by have := List.length_take_le k (slots l); omega
        go_wp2_with (at_builtin; refine wpList_append (by rfl) rfl rfl rfl Try.underlying42 info_slot rfl (by omega) (by exact own_below HO.out (((Below.refl _ _).alloc (Nat.le_refl _) _).alloc (by simp) _)) (by exact lit_slot s (by simp)) (slC_one s) (by omega) (by omega) (by exact (HBB.out.alloc HBB.out.size _).alloc (by have := HBB.out.size; simp; omega) _) (Nat.le_refl _) ?_; intro v1 w3 o3 B3 g3; clear g3)
        have hgS : (slots l)[k]? = some s := by rw [slots, List.getElem?_map, HX.out, HSX.out]; rfl
        have o4 : OwnS w3 w.heap.size 23 v1 ((slots l).take (k + 1)) := OwnS.of o3 (by rw [tabL_snoc, List.take_add_one, hgS]; rfl)
        have HO4 := Lib.hid o4; have HB3 := Lib.hid B3; clear o3 o4 B3 hgS
        go_roundw
        case rel => exact ⟨k + 1, by omega, by go_num, Lib.hid ⟨HO4.out, right_take hh.out.2 HX.out HRR.out⟩, HB3.out⟩
        case measure => simp [intOf]; omega
      · have SP := SplitR_r x .none 50 (by rw [spl0, if_neg hr]) (by rw [splErr, if_neg hr])
        have he := openErr_no HS.out HX.out hr
        have HSP := Lib.hid SP; have HE := Lib.hid he; clear SP hr he
        go_wp2_with fail
        refine (HSP.out _).mono ?_
        rintro e w2 ⟨rfl, b⟩
        replace B := B.trans (b.mono B.size); clear b
        go_wp2
        go_ret2
        have hr1 : r = false := by rw [HR.out, decide_eq_false (by rw [HE.out]; omega)]
        subst hr1
        refine ⟨_, rfl, ?_, B.alloc B.size _⟩
        rw [HL.out, all_nil (by rw [HE.out]; omega)]; exact OwnS.nil _ _ _
    · obtain rfl : k = 16 := by omega
      have he := openErr_of HS.out hh.out.2
      have HE := Lib.hid he; clear he
      go_wp2
      go_ret2
      have hr1 : r = true := by rw [HR.out, decide_eq_true HE.out]
      subst hr1
      refine ⟨_, rfl, ?_, B⟩
      have := hh.out.1
      rw [List.take_of_length_le (by rw [slots16 HE.out]; omega)] at this
      rw [HL.out, all_ok HE.out]; exact this

set_option maxRecDepth 100000 in
set_option maxHeartbeats 1000000 in
theorem AllR_any (v : Value) (l : List UInt64) (L : List Sl) (r : Int) (hL : L = all l) (hr : r = openErr l) (w : World) (h : Words w v l) :
    Calls Try.prog 17 #[v] w fun e w' => ∃ x E, e = .returned (.tuple #[x, .int .i64 r]) ∧ OwnS w' w.heap.size E x L ∧ Below w.heap.size w w' := by
  have B : Below w.heap.size w w := Below.refl _ _
  have CT := fun w h => CheckR_any v l w h
  by_cases hs : SizeOk l.length
  · rw [chk_ok hs] at CT
    by_cases h0 : openErr l = 0
    · have TT := fun w h => ToldR_any v l hs L true hL (by rw [decide_eq_true h0]) w h
      have HC := Lib.hid CT; have HT := Lib.hid TT; have H := Lib.hid h
      rw [h0] at hr
      subst hr
      clear CT TT h h0 hL hs
      go_enter Try.func17, Try.ntmps17
      go_wp2_with fail
      refine (HC.out _ H.out).mono ?_
      rintro e w1 ⟨rfl, rfl⟩
      go_wp2_with fail
      refine (HT.out _ H.out).mono ?_
      rintro e w1 ⟨x, rfl, o, b⟩
      go_wp2
      go_ret2
      exact ⟨x, _, rfl, o, b⟩
    · have h50 : openErr l = 50 := by
        unfold openErr at h0 ⊢
        rw [if_pos hs] at h0 ⊢
        split <;> simp_all
      have TT := fun w h => ToldR_any v l hs L false hL (by rw [decide_eq_false h0]) w h
      have HC := Lib.hid CT; have HT := Lib.hid TT; have H := Lib.hid h
      rw [h50] at hr
      have hL0 := hL.trans (all_nil h0)
      subst hr hL0
      clear CT TT h h0 hL hs h50
      go_enter Try.func17, Try.ntmps17
      go_wp2_with fail
      refine (HC.out _ H.out).mono ?_
      rintro e w1 ⟨rfl, rfl⟩
      go_wp2_with fail
      refine (HT.out _ H.out).mono ?_
      rintro e w1 ⟨x, rfl, o, b⟩
      go_wp2
      go_ret2
      exact ⟨_, 0, rfl, OwnS.nil _ _ _, b⟩
  · have h8 : openErr l = 8 := by rw [openErr, if_neg hs]
    rw [chk_no hs] at CT
    have HC := Lib.hid CT; have H := Lib.hid h
    have hL0 := hL.trans (all_nil (by rw [h8]; omega))
    rw [h8] at hr
    subst hr hL0
    clear CT h hL hs h8
    go_enter Try.func17, Try.ntmps17
    go_wp2_with fail
    refine (HC.out _ H.out).mono ?_
    rintro e w1 ⟨rfl, rfl⟩
    go_wp2
    go_ret2
    exact ⟨_, 0, rfl, OwnS.nil _ _ _, B⟩

set_option maxRecDepth 100000 in
set_option maxHeartbeats 1000000 in
theorem ResolveR_any (v : Value) (l : List UInt64) (sl g : Int) (x r : Int) (hx : x = res l sl g) (hr : r = resErr l sl g) (w : World) (h : Words w v l) :
    Calls Try.prog 19 #[v, .agg #[.int .i64 sl, .int .i64 g]] w fun e w' => e = .returned (.tuple #[.int .i64 x, .int .i64 r]) ∧ Below w.heap.size w w' := by
  have B : Below w.heap.size w w := Below.refl _ _
  obtain ⟨L, hL⟩ : ∃ L, L = all l := ⟨_, rfl⟩
  obtain ⟨oe, hoe⟩ : ∃ oe, oe = openErr l := ⟨_, rfl⟩
  have AT := fun w h => AllR_any v l L oe hL hoe w h
  have HAT := Lib.hid AT; have H := Lib.hid h; clear AT h
  by_cases h0 : openErr l = 0
  · have hr0 : r = rightErr L sl g := by rw [hr, resErr, if_pos h0, hL, all_ok h0]
    have RT := fun v w h => RightR_any v L sl g r hr0 w h
    have HRT := Lib.hid RT; clear RT
    rw [h0] at hoe
    subst hoe
    by_cases hrr : r = 0
    · obtain ⟨p1, p2, s, p3, p4, p5⟩ := rightErr_ok (hr0.symm.trans hrr)
      obtain ⟨k, rfl⟩ := Int.eq_ofNat_of_zero_le p1
      have hx0 : x = s.at_ := by
        rw [hx, res, if_pos (by rw [← hr]; exact hrr), ← all_ok h0, ← hL]
        simp at p3
        simp [List.getD_eq_getElem?_getD, p3]
      have hk : k < L.length := by omega
      simp only [Int.toNat_natCast] at p3
      have HP := Lib.hid p3
      clear hx hr h0 hr0 p4 p5 hL p2 p3
      subst hrr hx0
      go_enter Try.func19, Try.ntmps19
      go_upto_region 1 with (fail)
      refine wp_gen (fun Wv => Bx Wv (w.heap.size) (39) (#[.int .i64 k, .int .i64 g]) ∧ Below w.heap.size w Wv) ⟨((Bx.at_ (by simp))), ((Below.refl _ w).alloc (by simp <;> omega) _)⟩ ?_
      rintro w' ⟨g1, b⟩
      replace B := B.trans (b.mono B.size); clear b
      have c_g1 := g1.cell; have f_g1 := g1.free; have a_g1 := fun o => (g1.alloc o).cell; have d_g1 := fun o o2 => ((g1.alloc o).alloc o2).cell; have e_g1 := fun o => (g1.alloc o).free
      go_wp2_with fail
      refine (HAT.out _ (H.out.below B)).mono ?_
      rintro e w' ⟨xv, E, rfl, r1, b⟩
      try clear c_g1 f_g1 a_g1 d_g1 e_g1
      replace g1 := g1.below b; have c_g1 := g1.cell; have f_g1 := g1.free; have a_g1 := fun o => (g1.alloc o).cell; have d_g1 := fun o o2 => ((g1.alloc o).alloc o2).cell; have e_g1 := fun o => (g1.alloc o).free; replace B := B.trans (b.mono B.size); clear b
      go_wp2_with fail
      refine (HRT.out _ _ r1.rd).mono ?_
      rintro e w' ⟨rfl, b⟩
      try clear c_g1 f_g1 a_g1 d_g1 e_g1
      replace g1 := g1.below b; have c_g1 := g1.cell; have f_g1 := g1.free; have a_g1 := fun o => (g1.alloc o).cell; have d_g1 := fun o o2 => ((g1.alloc o).alloc o2).cell; have e_g1 := fun o => (g1.alloc o).free; replace r1 := r1.below b; replace B := B.trans (b.mono B.size); clear b
      obtain ⟨b, o, t, ia, c0, c1, c2, ht⟩ := r1.rd.at_ (P := Try.prog) Try.underlying42 size_slot (k := k) hk
      have hts : t = s := by have h1 := ht.out; rw [HP.out] at h1; injection h1 with h1; exact h1.symm
      subst hts
      have n0 : (0 : Int) ≤ (k : Int) := by omega
      go_wp2
      go_ret2
      exact ⟨rfl, B⟩
    · have hne : (r != 0) = true := by rw [bne_iff_ne]; exact hrr
      have hx0 : x = 0 := by rw [hx, res, if_neg (by rw [← hr]; exact hrr)]
      clear hx hr h0 hr0 hrr hL
      subst hx0
      go_enter Try.func19, Try.ntmps19
      go_upto_region 1 with (fail)
      refine wp_gen (fun Wv => Bx Wv (w.heap.size) (39) (#[.int .i64 sl, .int .i64 g]) ∧ Below w.heap.size w Wv) ⟨((Bx.at_ (by simp))), ((Below.refl _ w).alloc (by simp <;> omega) _)⟩ ?_
      rintro w' ⟨g1, b⟩
      replace B := B.trans (b.mono B.size); clear b
      have c_g1 := g1.cell; have f_g1 := g1.free; have a_g1 := fun o => (g1.alloc o).cell; have d_g1 := fun o o2 => ((g1.alloc o).alloc o2).cell; have e_g1 := fun o => (g1.alloc o).free
      go_wp2_with fail
      refine (HAT.out _ (H.out.below B)).mono ?_
      rintro e w' ⟨xv, E, rfl, r1, b⟩
      try clear c_g1 f_g1 a_g1 d_g1 e_g1
      replace g1 := g1.below b; have c_g1 := g1.cell; have f_g1 := g1.free; have a_g1 := fun o => (g1.alloc o).cell; have d_g1 := fun o o2 => ((g1.alloc o).alloc o2).cell; have e_g1 := fun o => (g1.alloc o).free; replace B := B.trans (b.mono B.size); clear b
      go_wp2_with fail
      refine (HRT.out _ _ r1.rd).mono ?_
      rintro e w' ⟨rfl, b⟩
      try clear c_g1 f_g1 a_g1 d_g1 e_g1
      replace g1 := g1.below b; have c_g1 := g1.cell; have f_g1 := g1.free; have a_g1 := fun o => (g1.alloc o).cell; have d_g1 := fun o o2 => ((g1.alloc o).alloc o2).cell; have e_g1 := fun o => (g1.alloc o).free; replace r1 := r1.below b; replace B := B.trans (b.mono B.size); clear b
      go_wp2
      go_ret2
      exact ⟨rfl, B⟩
  · have hne : (oe != 0) = true := by rw [bne_iff_ne, hoe]; exact h0
    have hr0 : r = oe := by rw [hr, resErr, if_neg h0, hoe]
    have hx0 : x = 0 := by rw [hx, res, resErr, if_neg h0, if_neg h0]
    clear hr h0 hx hoe hL
    subst hr0 hx0
    go_enter Try.func19, Try.ntmps19
    go_upto_region 1 with (fail)
    refine wp_gen (fun Wv => Bx Wv (w.heap.size) (39) (#[.int .i64 sl, .int .i64 g]) ∧ Below w.heap.size w Wv) ⟨((Bx.at_ (by simp))), ((Below.refl _ w).alloc (by simp <;> omega) _)⟩ ?_
    rintro w' ⟨g1, b⟩
    replace B := B.trans (b.mono B.size); clear b
    have c_g1 := g1.cell; have f_g1 := g1.free; have a_g1 := fun o => (g1.alloc o).cell; have d_g1 := fun o o2 => ((g1.alloc o).alloc o2).cell; have e_g1 := fun o => (g1.alloc o).free
    go_wp2_with fail
    refine (HAT.out _ (H.out.below B)).mono ?_
    rintro e w' ⟨xv, E, rfl, r1, b⟩
    try clear c_g1 f_g1 a_g1 d_g1 e_g1
    replace g1 := g1.below b; have c_g1 := g1.cell; have f_g1 := g1.free; have a_g1 := fun o => (g1.alloc o).cell; have d_g1 := fun o o2 => ((g1.alloc o).alloc o2).cell; have e_g1 := fun o => (g1.alloc o).free; replace B := B.trans (b.mono B.size); clear b
    go_wp2
    go_ret2
    exact ⟨rfl, B⟩
end Go.Proofs.Yteiocllnhljpjaa
