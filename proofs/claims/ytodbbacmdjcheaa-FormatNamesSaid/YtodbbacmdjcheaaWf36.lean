/- The walk of the law FormatNames: limits, types that are none, images that are not empty, and errors. -/
import Derived.Test.YtodbbacmdjcheaaMNr
set_option linter.unusedVariables false
set_option linter.unusedSimpArgs false
namespace Go.Proofs.Ytodbbacmdjcheaa
open Go.RowKit L02 L05 L06 L07 L13 L14 L15 L16 L18 L19 L20 L73 L74 L75 L77 L78

def sizes36 : List Int := [-8, 0, 248, 255, 260, 2052, 2056, 9223372036854775807]
theorem sizes36_bad : ∀ s ∈ sizes36, ¬ SizeOk s := by decide +kernel
theorem names_call (n : Int) (T : List (List UInt8)) (r : Int) (h : imgErr n T = r) (h0 : r ≠ 0) (v : Value) (w : World) (hT : Typs w v T) : Calls Try.prog 10 #[.int .i64 n, v] w (RetWE w [] r) := by
  have := Image_any n v T w hT
  rw [imgP, if_neg (by rw [h]; exact h0), h] at this
  exact this
theorem enter_image (a b : Value) (W : World) : (callFunc 10 (#[] ++ #[a, b] ++ #[])).run Try.prog W = .ok (.enter 10 #[a, b]) W := by kernel_rfl

theorem names_full : ∃ l, imgErr 2048 allT = 0 ∧ imgP 2048 allT = l ∧ l.length = 2048 ∧ (∃ x, l[111]? = some x ∧ x ≠ 0) ∧ chk19 l = 0 ∧ emp l = true := by
  have e : imgErr 2048 allT = 0 := by decide +kernel
  refine ⟨imageP 2048 allT, e, by rw [imgP, if_pos e]; rfl, imageP_len _ _, all111, nwA.rt.chk, ?_⟩
  rw [emp, if_pos nwA.rt.chk, nwA.allL, nwA.slots]; rfl
theorem names_zero : chk19 (List.replicate 256 0) = 50 ∧ emp (List.replicate 256 0) = false ∧ chk19 [] = 8 ∧ emp [] = false := by
  refine ⟨zero_chk.1, ?_, zero_chk.2, ?_⟩
  · rw [emp, if_neg (by rw [zero_chk.1]; decide)]
  · rw [emp, if_neg (by rw [zero_chk.2]; decide)]
theorem whole_two {L : List Hb} (h : L.length = 2) : whole L = false := by
  rcases L with _ | ⟨a, _ | ⟨b, L⟩⟩
  · rfl
  · cases h
  · rfl
theorem whole_map {L : List Hb} (h : L.map (·.kind) = [2]) : whole L = true := by
  obtain ⟨b, rfl⟩ := List.length_eq_one_iff.1 (show L.length = 1 by have := congrArg List.length h; simpa using this)
  have h' : b.kind = 2 := by simpa using h
  exact decide_eq_true h'
theorem names_obj : ∃ l E, imgErr 256 [[3]] = 0 ∧ imgP 256 [[3]] = l ∧ l.length = 256 ∧ aiE l 0 = 0 ∧ aiS l 0 = 0 ∧ aiG l 0 = 1 ∧ aiL l 0 = E ∧ (∀ e ∈ E, 0 ≤ e.1 ∧ e.1 < 256) ∧
    chk19 (E.foldl put1 l) = 0 ∧ emp (E.foldl put1 l) = false ∧ chk19 ((E.foldl put1 l).set 112 4294967296) = 0 ∧ emp ((E.foldl put1 l).set 112 4294967296) = false := by
  have e : imgErr 256 [[3]] = 0 := by decide +kernel
  have h0 : aiE (imageP 256 [[3]]) 0 = 0 := by rw [Nw.rE nwR, if_pos (by decide)]
  obtain ⟨q, hq, _, _, h100, hb⟩ := Nw.rL nwR h0
  obtain ⟨h1, h2⟩ := Nw.rAfter nwR h0
  have hm : L19.made (imageP 256 [[3]]) (aiL (imageP 256 [[3]]) 0) = (aiL (imageP 256 [[3]]) 0).foldl put1 (imageP 256 [[3]]) := by unfold L19.made; rw [List.take_of_length_le h100]
  have hD : lD = ((aiL (imageP 256 [[3]]) 0).foldl put1 (imageP 256 [[3]])).set 112 4294967296 := by rw [← hm]; rfl
  rw [hm] at h1 h2
  refine ⟨imageP 256 [[3]], _, e, by rw [imgP, if_pos e]; rfl, imageP_len _ _, h0, (Nw.rS nwR h0).1, (Nw.rS nwR h0).2, rfl, hb, h1, room_emp h1 h2, by rw [← hD]; exact lD_chk, ?_⟩
  rw [← hD, emp, if_pos lD_chk, whole_two lD_all]; rfl
theorem names_old : ∃ l, imgErr 256 [] = 0 ∧ imgP 256 [] = l ∧ l.length = 256 ∧ chk19 (l.set 112 30064771072) = 0 ∧ emp (l.set 112 30064771072) = true := by
  have e : imgErr 256 [] = 0 := by decide +kernel
  refine ⟨imageP 256 [], e, by rw [imgP, if_pos e]; rfl, imageP_len _ _, lS_chk, ?_⟩
  have h : emp lS = true := by
    rw [emp, if_pos lS_chk, whole_map lS_all.1]
    have : anyU (slots lS) = false := lS_all.2
    rw [this]; rfl
  exact h

set_option maxRecDepth 100000 in
set_option maxHeartbeats 16000000 in
theorem FormatNames_walk (w : World) : Calls Try.prog 7 #[] w fun e w' => e = .returned (.bool true) ∧ Below w.heap.size w w' := by
  have B : Below w.heap.size w w := Below.refl _ _
  have AL := Lib.hid alive36_any
  obtain ⟨T9, hT9⟩ : ∃ T : List (List UInt8), T = List.replicate 9 [] := ⟨_, rfl⟩
  have IA := Lib.hid (fun s (hs : s ∈ sizes36) => names_call s T9 2 (by rw [imgErr, if_pos (sizes36_bad s hs)]) (by decide))
  have IB := Lib.hid (names_call 256 T9 4 (by rw [imgErr, if_neg (by decide +kernel), hT9, if_pos (by decide)]) (by decide))
  have DA := Lib.hid (fun s (hs : s ∈ sizes36) => Device_no s (.slice none 0 0) [] 2 (by rw [imgErr, if_pos (sizes36_bad s hs)]) (by decide))
  have M9 := Lib.hid (fun W => (show ∃ v W', (Instr.makeSlice 22 (.int .i64 9) (.int .i64 9)).run Try.prog W = .ok v W' ∧ OwnT W' W.heap.size v T9 ∧ Below W.heap.size W W' from by rw [hT9]; exact make_typs W 9 (by omega)))
  have HT9 := Lib.hid hT9; clear hT9
  obtain ⟨t9, ht9⟩ : ∃ t : List UInt8, t = List.replicate 9 0 := ⟨_, rfl⟩
  have IC := Lib.hid (names_call 256 [[1], t9] 4 (by rw [ht9]; decide +kernel) (by decide))
  have ID := Lib.hid (names_call 256 [[4], t9] 8 (by rw [ht9]; decide +kernel) (by decide))
  have DE := Lib.hid (fun v => Device_no 256 v [[1, 0]] 8 (by decide +kernel) (by decide))
  have HT := Lib.hid ht9; clear ht9
  go_enter Try.func7, Try.ntmps7
  go_upto_region 2 with (fail)
  refine wp_gen (fun Wv => Bx Wv (w.heap.size) (3) (#[.int .i64 (-8), .int .i64 0, .int .i64 248, .int .i64 255, .int .i64 260, .int .i64 2052, .int .i64 2056, .int .i64 9223372036854775807]) ∧ Below w.heap.size w Wv) ⟨((Bx.at_ (by simp))), ((Below.refl _ w).alloc (by simp <;> omega) _)⟩ ?_
  rintro wa1 ⟨g1, b⟩
  replace B := B.trans (b.mono B.size); clear b
  have c_g1 := g1.cell; have f_g1 := g1.free; have a_g1 := fun o => (g1.alloc o).cell; have d_g1 := fun o o2 => ((g1.alloc o).alloc o2).cell; have e_g1 := fun o => (g1.alloc o).free
  have HI : Hid (Ints wa1 (.slice (some ⟨w.heap.size, 0, none⟩) 8 8) sizes36) := Lib.hid (g1.rdK (n := 8) (sz := 1) rfl (by omega))
  have HBw := Lib.hid B
  have HBl := Lib.hid (Below.refl wa1.heap.size wa1)
  clear B
  go_wp2
  go_loopg [2, 3, 4, 5, 6] 8 (fun g i a b c d wr => ∃ j : Nat, j ≤ 8 ∧ g = 8 - j ∧ i = .int .i64 j ∧ Hid (Below wa1.heap.size wa1 wr))
  case atStart => exact ⟨0, by omega, by omega, rfl, HBl⟩
  case round =>
    clear HBl
    obtain ⟨j, hj, rfl, rfl, hB⟩ := hrel
    by_cases hlt : j < 8
    · obtain ⟨ad, s, ix, m0, hs⟩ := (HI.out.below hB.out).at_ (P := Try.prog) Try.underlying68 one_int (k := j) hlt
      have hms : s ∈ sizes36 := List.mem_of_getElem? hs.out
      have IS := Lib.hid (IA.out s hms); have DS := Lib.hid (DA.out s hms)
      have B := hB.out
      clear hs hms hB
      have cf := fun x : Fut wr => cell_later x.h m0
      go_upto_region 5 with (fail)
      refine wp_region_f2 10 4 5 (fun _ => True) (fun v => ∃ y, v = .tuple #[y, .int .i64 2]) (fun v W => Typs W v T9) (fun v W => ∃ y, v = .tuple #[y, .int .i64 2] ∧ Words W y []) (by decide) ⟨undef, trivial⟩ ⟨_, undef, rfl⟩ (fun v W W' h b => Typs.below h b) (fun v W W' ⟨y, h1, h2⟩ b => ⟨y, h1, h2.below b⟩) (by kernel_rfl) (by kernel_rfl) (by kernel_rfl) ?_
      intro gg _ hv1
      obtain ⟨y2, hy1⟩ := hv1
      simp only [List.take_succ_cons, List.take_zero, List.drop_succ_cons, List.drop_zero]
      iterate 4 (refine wpH_read0 rfl rfl ?_; go_big_quiet_step (fail); refine wpQuiet_nil ?_)
      refine wpH_new rfl rfl (TS.make (lv := .int .i64 9) (cv := .int .i64 9) (by rfl) (by rfl) (by rfl) ?_) ?_
      · intro W hW _
        obtain ⟨v, W', h1, h2, h3⟩ := M9.out W
        exact ⟨v, W', h1, ⟨fun _ => trivial, fun e => (by cases e)⟩, h3, fun g' hg' _ => ⟨fun _ => by rw [hg']; exact h2.rd, fun e => (by cases e)⟩⟩
      simp only [Act.put, List.setIfInBounds_toArray, List.set_cons_zero, List.set_cons_succ]
      refine wpH_new rfl rfl (TS.call (av := #[.int .i64 s, gg 4]) (by simp [Act.eval]) (fun W => enter_image _ _ W) ?_) ?_
      · intro W hW hd
        have o0 := (hd 4 (by simp [dep2])).1 rfl
        refine (IS.out _ W o0).mono ?_
        rintro e W' ⟨y, rfl, o, bb⟩
        exact ⟨_, rfl, ⟨fun e => (by cases e), fun _ => ⟨y, rfl⟩⟩, bb, fun g' hg' _ => ⟨fun e => (by cases e), fun _ => ⟨y, hg', o.rd⟩⟩⟩
      rw [hy1]
      simp only [Act.put, List.setIfInBounds_toArray, List.set_cons_zero, List.set_cons_succ]
      iterate 4 (refine wpH_read0 rfl rfl ?_; go_big_quiet_step (fail); refine wpQuiet_nil ?_)
      refine wpH_nil ?_
      intro W2 bW _ o1
      obtain ⟨y, e1, q2⟩ := o1
      try rw [hy1] at e1
      obtain rfl : y2 = y := by injection e1 with e1; injection e1 with e1; injection e1
      have m2 := m0
      have hz := B.size
      replace m0 := cell_later bW m0
      replace B := B.trans (bW.mono hz)
      have lq : ∀ ty W, (Builtin.len_ #[25] ty #[y2]).run Try.prog W = .ok (.int .i64 0) W := Rd.len q2 Try.underlying25
      clear cf hy1 e1 m2 bW hz q2
      go_wp2_with fail
      refine (DS.out _ (OwnT.nil _ 0).rd).mono ?_
      rintro e wa2 ⟨rfl, b⟩
      replace m0 := cell_later b m0; replace B := B.trans (b.mono B.size); clear b
      go_upto_region 7 with (fail)
      refine wp_gen (fun Wv => Bx Wv (wa2.heap.size) (33) (#[.slice none 0 0, .slice none 0 0, .int .i64 0, .bool false]) ∧ Below wa2.heap.size wa2 Wv) ⟨((Bx.at_ (by simp))), ((Below.refl _ wa2).alloc (by simp <;> omega) _)⟩ ?_
      rintro wa3 ⟨g1, b⟩
      replace B := B.trans (b.mono B.size); clear b
      have c_g1 := g1.cell; have f_g1 := g1.free; have a_g1 := fun o => (g1.alloc o).cell; have d_g1 := fun o o2 => ((g1.alloc o).alloc o2).cell; have e_g1 := fun o => (g1.alloc o).free
      have HBN := Lib.hid B
      clear B
      go_wp2
      go_roundg (8 - (j + 1))
      case measure => omega
      case rel => exact ⟨j + 1, by omega, rfl, by go_num, HBN⟩
    · obtain rfl : j = 8 := by omega
      have B := HBw.out.trans (hB.out.mono HBw.out.size)
      clear hB HI hlt IA DA HBw hj
      go_wp2_with (first
        | (at_make; refine wpList_makeI (by rfl) rfl rfl rfl Try.underlying69 info_u8 rfl (by omega) (by omega) (by omega) B (Nat.le_refl _) ?_; intro v9 wm o1 b1 b2; replace o1 : wm.ownsRow w.heap.size 5 1 v9 9 (List.replicate 9 (.int .u8 0)) := o1; obtain ⟨g9, c9, cur9, rfl, _⟩ := id (own_form o1 (by omega)))
        | (at_make; refine wpList_makeI (by rfl) rfl rfl rfl Try.underlying22 info_bytes rfl (by omega) (by omega) (by omega) b1 (Nat.le_refl _) ?_; intro vT wn o2 b3 b4; replace o2 : wn.ownsRow w.heap.size 69 1 vT 9 (List.replicate 9 (.slice none 0 0)) := o2))
      have p9 : Byts wn (.slice (some ⟨g9, 0, none⟩) 9 c9) t9 := by rw [HT.out]; exact (OwnB.of o1 rfl).rd.below b4
      have pT : Typs wn vT T9 := by have := (ownT_rep o2).rd; rwa [← HT9.out] at this
      have B := b3
      clear o1 o2 b1 b2 b3 b4
      go_wp2_with fail
      refine (IB.out _ _ pT).mono ?_
      rintro e wa4 ⟨x10, rfl, o, b⟩
      replace p9 := p9.below b; replace B := B.trans (b.mono B.size); clear b
      clear o
      go_wp2_with fail
      refine calls_gen (fun Wv => Bx Wv (wa4.heap.size) (5) (#[.int .u8 1]) ∧ Bx Wv (wa4.heap.size + 1) (69) (#[.slice (some ⟨wa4.heap.size, 0, none⟩) 1 1, .slice (some ⟨g9, 0, none⟩) 9 c9]) ∧ Below wa4.heap.size wa4 Wv) ⟨(((Bx.at_ (by simp)).alloc _)), ((Bx.at_ (by simp))), (((Below.refl _ wa4).alloc (by simp <;> omega) _).alloc (by simp <;> omega) _)⟩ ?_
      rintro wa5 ⟨g1, g2, b⟩
      replace p9 := p9.below b; replace B := B.trans (b.mono B.size); clear b
      have c_g1 := g1.cell; have f_g1 := g1.free; have a_g1 := fun o => (g1.alloc o).cell; have d_g1 := fun o o2 => ((g1.alloc o).alloc o2).cell; have e_g1 := fun o => (g1.alloc o).free
      have c_g2 := g2.cell; have f_g2 := g2.free; have a_g2 := fun o => (g2.alloc o).cell; have d_g2 := fun o o2 => ((g2.alloc o).alloc o2).cell; have e_g2 := fun o => (g2.alloc o).free
      refine (IC.out _ _ (typs_bx2 (t := [1]) g2 (g1.rdK (n := 1) (sz := 1) rfl (by omega)) p9)).mono ?_
      rintro e wc1 ⟨x11, rfl, o, b⟩
      clear o
      replace p9 := Byts.below p9 b
      replace B := B.trans (b.mono B.size)
      clear b g1 g2
      go_wp2_with fail
      refine calls_gen (fun Wv => Bx Wv (wc1.heap.size) (5) (#[.int .u8 4]) ∧ Bx Wv (wc1.heap.size + 1) (69) (#[.slice (some ⟨wc1.heap.size, 0, none⟩) 1 1, .slice (some ⟨g9, 0, none⟩) 9 c9]) ∧ Below wc1.heap.size wc1 Wv) ⟨(((Bx.at_ (by simp)).alloc _)), ((Bx.at_ (by simp))), (((Below.refl _ wc1).alloc (by simp <;> omega) _).alloc (by simp <;> omega) _)⟩ ?_
      rintro wa6 ⟨g1, g2, b⟩
      replace p9 := p9.below b; replace B := B.trans (b.mono B.size); clear b
      have c_g1 := g1.cell; have f_g1 := g1.free; have a_g1 := fun o => (g1.alloc o).cell; have d_g1 := fun o o2 => ((g1.alloc o).alloc o2).cell; have e_g1 := fun o => (g1.alloc o).free
      have c_g2 := g2.cell; have f_g2 := g2.free; have a_g2 := fun o => (g2.alloc o).cell; have d_g2 := fun o o2 => ((g2.alloc o).alloc o2).cell; have e_g2 := fun o => (g2.alloc o).free
      refine (ID.out _ _ (typs_bx2 (t := [4]) g2 (g1.rdK (n := 1) (sz := 1) rfl (by omega)) p9)).mono ?_
      rintro e wc2 ⟨x12, rfl, o, b⟩
      clear o p9
      replace B := B.trans (b.mono B.size)
      clear b g1 g2
      go_wp2_with fail
      refine calls_gen (fun Wv => Bx Wv (wc2.heap.size) (5) (#[.int .u8 1, .int .u8 0]) ∧ Bx Wv (wc2.heap.size + 1) (69) (#[.slice (some ⟨wc2.heap.size, 0, none⟩) 2 2]) ∧ Below wc2.heap.size wc2 Wv) ⟨(((Bx.at_ (by simp)).alloc _)), ((Bx.at_ (by simp))), (((Below.refl _ wc2).alloc (by simp <;> omega) _).alloc (by simp <;> omega) _)⟩ ?_
      rintro wa7 ⟨g1, g2, b⟩
      replace B := B.trans (b.mono B.size); clear b
      have c_g1 := g1.cell; have f_g1 := g1.free; have a_g1 := fun o => (g1.alloc o).cell; have d_g1 := fun o o2 => ((g1.alloc o).alloc o2).cell; have e_g1 := fun o => (g1.alloc o).free
      have c_g2 := g2.cell; have f_g2 := g2.free; have a_g2 := fun o => (g2.alloc o).cell; have d_g2 := fun o o2 => ((g2.alloc o).alloc o2).cell; have e_g2 := fun o => (g2.alloc o).free
      refine (DE.out _ _ (typs_bx1 (t := [1, 0]) g2 (g1.rdK (n := 2) (sz := 1) rfl (by omega)))).mono ?_
      rintro e wc3 ⟨rfl, b⟩
      replace B := B.trans (b.mono B.size)
      clear b g1 g2
      go_upto_region 14 with (fail)
      refine wp_gen (fun Wv => Bx Wv (wc3.heap.size) (33) (#[.slice none 0 0, .slice none 0 0, .int .i64 0, .bool false]) ∧ Below wc3.heap.size wc3 Wv) ⟨((Bx.at_ (by simp))), ((Below.refl _ wc3).alloc (by simp <;> omega) _)⟩ ?_
      rintro wa8 ⟨g1, b⟩
      replace B := B.trans (b.mono B.size); clear b
      have c_g1 := g1.cell; have f_g1 := g1.free; have a_g1 := fun o => (g1.alloc o).cell; have d_g1 := fun o o2 => ((g1.alloc o).alloc o2).cell; have e_g1 := fun o => (g1.alloc o).free
      clear g1 c_g1 f_g1 a_g1 d_g1 e_g1 IB IC ID DE M9 HT9 HT
      go_wp2_with (at_make; refine wpList_makeI (by rfl) rfl rfl rfl Try.underlying69 info_u8 rfl (by omega) (by omega) (by omega) B (Nat.le_refl _) ?_; intro vF wf o1 b1 b2; replace o1 : wf.ownsRow w.heap.size 5 1 vF 8 (List.replicate 8 (.int .u8 0)) := o1; obtain ⟨gF, cF, curF, rfl, _⟩ := id (own_form o1 (by omega)))
      have HO := Lib.hid (show wf.ownsRow w.heap.size 5 1 (.slice (some ⟨gF, 0, none⟩) 8 cF) 8 (fil8 (.int .u8 2) (.int .u8 0) 0) from o1)
      have HB := Lib.hid b1
      clear o1 b1 b2 B
      go_loopg [17] 8 (fun g i wr => ∃ j : Nat, j ≤ 8 ∧ g = 8 - j ∧ i = .int .i64 j ∧ Hid (wr.ownsRow w.heap.size 5 1 (.slice (some ⟨gF, 0, none⟩) 8 cF) 8 (fil8 (.int .u8 2) (.int .u8 0) j)) ∧ Hid (Below w.heap.size w wr))
      case atStart => exact ⟨0, by omega, by omega, rfl, HO, HB⟩
      case round =>
        clear HO HB
        obtain ⟨j, hj, rfl, rfl, hO, hB⟩ := hrel
        by_cases hlt : j < 8
        · have ix := own_ix36 (P := Try.prog) (t := 69) hO.out Try.underlying69 one_u8 (j := j) hlt
          obtain ⟨⟨z0, ca⟩, fa, hset, hge, _⟩ := own_put36 hO.out hlt (.int .u8 2)
          have HR := Lib.hid (And.intro hset (hB.out.setCell (p := ⟨gF, j, none⟩) hge (.int .u8 2)))
          clear hset hge hO hB
          go_wp2
          go_roundg (8 - (j + 1))
          case measure => omega
          case rel => exact ⟨j + 1, by omega, rfl, by go_num, Lib.hid HR.out.1, Lib.hid HR.out.2⟩
        · obtain rfl : j = 8 := by omega
          have pF := hO.out
          rw [fil8_end] at pF
          have HF : Hid (Byts wr (.slice (some ⟨gF, 0, none⟩) 8 cF) (List.replicate 8 2)) := Lib.hid (OwnB.of pF rfl).rd
          clear pF hO hlt hj
          obtain ⟨wl, hwl⟩ : ∃ W : World, W = wr := ⟨wr, rfl⟩
          subst hwl
          go_wp2_with (at_make; refine wpList_makeI (by rfl) rfl rfl rfl Try.underlying22 info_bytes rfl (by omega) (by omega) (by omega) (Below.refl wl.heap.size wl) (Nat.le_refl _) ?_; intro vA wg o1 b1 b2; replace o1 : wg.ownsRow wl.heap.size 69 1 vA 8 (List.replicate 8 (.slice none 0 0)) := o1; obtain ⟨gA, cA, curA, rfl, _⟩ := id (own_form o1 (by omega)))
          have HO := Lib.hid (show wg.ownsRow wl.heap.size 69 1 (.slice (some ⟨gA, 0, none⟩) 8 cA) 8 (fil8 (.slice (some ⟨gF, 0, none⟩) 8 cF) (.slice none 0 0) 0) from o1)
          have HB := Lib.hid b1
          clear o1 b1 b2
          go_loopg [19] 8 (fun g i wr => ∃ j : Nat, j ≤ 8 ∧ g = 8 - j ∧ i = .int .i64 j ∧ Hid (wr.ownsRow wl.heap.size 69 1 (.slice (some ⟨gA, 0, none⟩) 8 cA) 8 (fil8 (.slice (some ⟨gF, 0, none⟩) 8 cF) (.slice none 0 0) j)) ∧ Hid (Below wl.heap.size wl wr))
          case atStart => exact ⟨0, by omega, by omega, rfl, HO, HB⟩
          case round =>
            clear HO HB
            obtain ⟨j, hj, rfl, rfl, hO, hB2⟩ := hrel
            by_cases hlt : j < 8
            · have ix := own_ix36 (P := Try.prog) (t := 22) hO.out Try.underlying22 one_bytes (j := j) hlt
              obtain ⟨⟨z0, ca⟩, fa, hset, hge, _⟩ := own_put36 hO.out hlt (.slice (some ⟨gF, 0, none⟩) 8 cF)
              have HR := Lib.hid (And.intro hset (hB2.out.setCell (p := ⟨gA, j, none⟩) hge (.slice (some ⟨gF, 0, none⟩) 8 cF)))
              clear hset hge hO hB2
              go_wp2
              go_roundg (8 - (j + 1))
              case measure => omega
              case rel => exact ⟨j + 1, by omega, rfl, by go_num, Lib.hid HR.out.1, Lib.hid HR.out.2⟩
            · obtain rfl : j = 8 := by omega
              have pA := hO.out
              rw [fil8_end] at pA
              have pT : Typs wr (.slice (some ⟨gA, 0, none⟩) 8 cA) allT := typs_rep (Rd.of_own pA) (Byts.below HF.out hB2.out)
              have B := hB.out.trans (hB2.out.mono hB.out.size)
              clear pA hO hlt hj hB hB2 HF
              obtain ⟨lA, a1, a2, a3, a4, a5, a6⟩ := names_full
              have IF := Lib.hid (fun v w h => (show Calls Try.prog 10 #[.int .i64 2048, v] w (RetWE w lA 0) from by have := Image_any 2048 v allT w h; rw [a1, a2] at this; exact this))
              have EF := Lib.hid (fun v w h => Empty36_any v lA true 0 a6.symm a5.symm w h)
              have HA3 := Lib.hid a3; have HA4 := Lib.hid a4
              clear a1 a2 a3 a4 a5 a6
              obtain ⟨a1, a2, a3, a4⟩ := names_zero
              have EN := Lib.hid (fun w => Empty36_any (.slice none 0 0) [] false 8 a4.symm a3.symm w (OwnW.nil w 0 64).rd)
              obtain ⟨lZ, hZ⟩ : ∃ l : List UInt64, l = List.replicate 256 0 := ⟨_, rfl⟩
              rw [← hZ] at a1 a2
              have EZ := Lib.hid (fun v w h => Empty36_any v lZ false 50 a2.symm a1.symm w h)
              have HZ := Lib.hid hZ
              clear a1 a2 a3 a4 hZ
              go_wp2_with fail
              refine (IF.out _ _ pT).mono ?_
              rintro e wa9 ⟨x20, rfl, o, b⟩
              replace B := B.trans (b.mono B.size); clear b
              have p20 := o.rd
              clear o pT
              go_wp2_with fail
              refine (EF.out _ _ p20).mono ?_
              rintro e wa10 ⟨rfl, b⟩
              replace p20 := p20.below b; replace B := B.trans (b.mono B.size); clear b
              go_wp2_with fail
              refine (EN.out _).mono ?_
              rintro e wa11 ⟨rfl, b⟩
              replace p20 := p20.below b; replace B := B.trans (b.mono B.size); clear b
              go_wp2_with (at_make; refine wpList_makeI (by rfl) rfl rfl rfl Try.underlying25 info_u64 rfl (by omega) (by omega) (by omega) B (Nat.le_refl _) ?_; intro v27 wh o1 b1 b2; replace o1 : wh.ownsRow w.heap.size 64 1 v27 256 (List.replicate 256 (.int .u64 0)) := o1)
              have p27 : Words wh v27 lZ := by rw [HZ.out]; exact (OwnW.of o1 (by rw [List.map_replicate]; rfl)).rd
              replace p20 := Words.below p20 b2
              replace B := b1
              clear o1 b1 b2
              go_wp2_with fail
              refine (EZ.out _ _ p27).mono ?_
              rintro e wa12 ⟨rfl, b⟩
              replace p20 := p20.below b; replace B := B.trans (b.mono B.size); clear b
              clear p27
              -- an object
              obtain ⟨lX, E, a1, a2, a3, a4, a5, a6, a7, a8, a9, a10, a11, a12⟩ := names_obj
              have IX := Lib.hid (fun v w h => (show Calls Try.prog 10 #[.int .i64 256, v] w (RetWE w lX 0) from by have := Image_any 256 v [[3]] w h; rw [a1, a2] at this; exact this))
              have CX := Lib.hid (fun v w h => Change_any v lX 0 E 0 1 0 a7.symm a5.symm a6.symm a4.symm w h)
              obtain ⟨lO, hO⟩ : ∃ l, l = E.foldl put1 lX := ⟨_, rfl⟩
              rw [← hO] at a9 a10 a11 a12
              obtain ⟨lD, hD⟩ : ∃ l, l = lO.set 112 4294967296 := ⟨_, rfl⟩
              rw [← hD] at a11 a12
              have EO := Lib.hid (fun v w h => Empty36_any v lO false 0 a10.symm a9.symm w h)
              have ED := Lib.hid (fun v w h => Empty36_any v lD false 0 a12.symm a11.symm w h)
              have H3 := Lib.hid a3; have H8 := Lib.hid a8; have HO := Lib.hid hO; have HD := Lib.hid hD
              clear a1 a2 a3 a4 a5 a6 a7 a8 a9 a10 a11 a12 hO hD
              obtain ⟨lY, b1, b2, b3, b4, b5⟩ := names_old
              have IY := Lib.hid (fun w => (show Calls Try.prog 10 #[.int .i64 256, .slice none 0 0] w (RetWE w lY 0) from by have := Image_any 256 (.slice none 0 0) [] w (OwnT.nil w 0).rd; rw [b1, b2] at this; exact this))
              obtain ⟨lS, hS⟩ : ∃ l, l = lY.set 112 30064771072 := ⟨_, rfl⟩
              rw [← hS] at b4 b5
              have EY := Lib.hid (fun v w h => Empty36_any v lS true 0 b5.symm b4.symm w h)
              have H5 := Lib.hid b3; have HS := Lib.hid hS
              clear b1 b2 b3 b4 b5 hS
              have l20 : ∀ ty W, (Builtin.len_ #[25] ty #[x20]).run Try.prog W = .ok (.int .i64 2048) W := by have q := Rd.len p20 Try.underlying25; rw [HA3.out] at q; exact q
              have HP := Lib.hid p20; have HB0 := Lib.hid B
              clear p20 B IF EF EN EZ HZ
              have B : Below wa12.heap.size wa12 wa12 := Below.refl _ _
              have RT := Lib.hid ref36_any
              go_wp2_with fail
              refine (RT.out _).mono ?_
              rintro e wa13 ⟨r28, rfl, y28, b⟩
              replace B := B.trans (b.mono B.size); clear b
              have hb := B.size
              go_wp2_with fail
              refine (IX.out _ _ y28).mono ?_
              rintro e wa14 ⟨x28, rfl, o, b⟩
              replace B := B.trans (b.mono B.size); clear b
              have ox : OwnW wa14 wa12.heap.size 64 x28 lX := own_mono o hb
              have p28 := ox.rd
              have ox' := ox
              unfold OwnW at ox'
              rw [H3.out] at ox'
              obtain ⟨gX, cX, cur, rfl, _, hgX, _⟩ := own_form ox' (by omega)
              have l28 : ∀ ty W, (Builtin.len_ #[25] ty #[.slice (some ⟨gX, 0, none⟩) 256 cX]).run Try.prog W = .ok (.int .i64 256) W := Rd.len (Rd.of_own ox') Try.underlying25
              have HG := Lib.hid ((Array.getElem?_eq_some_iff.1 hgX).1)
              clear ox' o hb y28 hgX
              go_wp2_with fail
              refine (CX.out _ _ p28).mono ?_
              rintro e wa15 ⟨y30, rfl, oe, b⟩
              replace p28 := p28.below b; replace ox := ox.below b; replace B := B.trans (b.mono B.size); clear b
              obtain ⟨L, hL⟩ : ∃ L, L = E.length := ⟨_, rfl⟩
              have lle : ∀ ty W, (Builtin.len_ #[59] ty #[y30]).run Try.prog W = .ok (.int .i64 (L : Int)) W := by rw [hL]; exact Rd.len oe.rd Try.underlying59
              have hLm : L ≤ 9223372036854775807 := by rw [hL]; exact Rd.len_le oe.rd
              have LE := Lib.hid hL
              clear p28 hL
              go_upto_region 30 with (fail)
              refine wp_gen (fun Wv => Bx Wv (wa15.heap.size) (61) (#[.int .i64 0, .int .i64 1]) ∧ Below wa15.heap.size wa15 Wv) ⟨((Bx.at_ (by simp))), ((Below.refl _ wa15).alloc (by simp <;> omega) _)⟩ ?_
              rintro wa16 ⟨g1, b⟩
              replace ox := ox.below b; replace oe := oe.below b; replace B := B.trans (b.mono B.size); clear b
              have c_g1 := g1.cell; have f_g1 := g1.free; have a_g1 := fun o => (g1.alloc o).cell; have d_g1 := fun o o2 => ((g1.alloc o).alloc o2).cell; have e_g1 := fun o => (g1.alloc o).free
              clear g1 c_g1 f_g1 a_g1 d_g1 e_g1
              unfold OwnW at ox
              rw [H3.out] at ox
              have HX := Lib.hid ox; have HE := Lib.hid oe; have HB := Lib.hid B
              clear ox oe B IX CX RT
              go_wp2
              go_loopg [33] L (fun g i wr => ∃ j : Nat, j ≤ L ∧ g = L - j ∧ i = .int .i64 j ∧ Hid (wr.ownsRow wa12.heap.size 64 1 (.slice (some ⟨gX, 0, none⟩) 256 cX) 256 (((E.take j).foldl put1 lX).map Go.Proofs.Ytodbbacmdjcheaa.u64)) ∧ Hid (OwnE wr wa14.heap.size y30 E) ∧ Hid (Below wa12.heap.size wa12 wr))
              case atStart => exact ⟨0, by omega, by omega, rfl, HX, HE, HB⟩
              case round =>
                clear HX HE HB
                obtain ⟨j, hj, rfl, rfl, hX, hE, hB⟩ := hrel
                by_cases hlt : j < L
                · obtain ⟨b, o, s1, s2, ia, m0, m1, hs⟩ := hE.out.rd.at_ (k := j) (by rw [← LE.out]; exact hlt)
                  obtain ⟨z0, z1⟩ := H8.out _ (List.mem_of_getElem? hs.out)
                  dsimp only at z0 z1
                  obtain ⟨p, rfl⟩ := Int.eq_ofNat_of_zero_le z0
                  have hpN : p < 256 := by omega
                  have ix := own_ix36 (P := Try.prog) (t := 25) hX.out Try.underlying25 one_u64 (j := p) hpN
                  obtain ⟨⟨q0, ca⟩, fa, hset, hge, _⟩ := own_put36 hX.out hpN (.int .u64 s2.toNat)
                  have HR := Lib.hid (show (wr.setCell ⟨gX, p, none⟩ (.int .u64 s2.toNat)).ownsRow wa12.heap.size 64 1 (.slice (some ⟨gX, 0, none⟩) 256 cX) 256 (((E.take (j + 1)).foldl put1 lX).map Go.Proofs.Ytodbbacmdjcheaa.u64) ∧ OwnE (wr.setCell ⟨gX, p, none⟩ (.int .u64 s2.toNat)) wa14.heap.size y30 E ∧ Below wa12.heap.size wa12 (wr.setCell ⟨gX, p, none⟩ (.int .u64 s2.toNat)) from by
                    refine ⟨?_, ownsRow_setCell_below hE.out (by exact HG.out) _, hB.out.setCell (p := ⟨gX, p, none⟩) hge _⟩
                    rw [room_fold hs.out, put1_set (by rw [room_len, H3.out]; exact hpN), List.map_set]; exact hset)
                  have n0 : (0 : Int) ≤ (p : Int) := by omega
                  have n1 : (p : Int) < 256 := by omega
                  clear hset hge hs hX hE hB z0 z1
                  go_upto_region 36 with (fail)
                  refine wp_region_qtail 12 (by kernel_rfl) (by kernel_rfl) ?_
                  simp only [List.take_succ_cons, List.take_zero, List.drop_succ_cons, List.drop_zero]
                  iterate 12 (go_big_quiet_step (fail))
                  refine wpQuiet_nil ?_
                  go_wp2
                  go_roundg (L - (j + 1))
                  case measure => omega
                  case rel => exact ⟨j + 1, by omega, rfl, by go_num, Lib.hid HR.out.1, Lib.hid HR.out.2.1, Lib.hid HR.out.2.2.drew⟩
                · obtain rfl : j = L := by omega
                  have hX' := hX.out
                  rw [List.take_of_length_le (by rw [← LE.out]; exact Nat.le_refl _), ← HO.out] at hX'
                  have lO256 : lO.length = 256 := by rw [HO.out, room_len, H3.out]
                  have ox : OwnW wr wa12.heap.size 64 (.slice (some ⟨gX, 0, none⟩) 256 cX) lO := OwnW.of hX' rfl
                  have px := ox.rd
                  have B := hB.out
                  have HL := Lib.hid lO256
                  clear hX hE hB hX' LE HG lO256
                  go_wp2_with fail
                  refine (EO.out _ _ px).mono ?_
                  rintro e wa17 ⟨rfl, b⟩
                  replace ox := ox.below b; replace B := B.trans (b.mono B.size); clear b
                  clear px lle
                  have o7 := ox
                  unfold OwnW at o7
                  rw [HL.out] at o7
                  have ix := own_ix36 (P := Try.prog) (t := 25) o7 Try.underlying25 one_u64 (j := 112) (by omega)
                  replace ix : ∀ W', (Instr.indexAt 25 (.slice (some ⟨gX, 0, none⟩) 256 cX) (.int .i64 112)).run Try.prog W' = .ok (.pointer (some ⟨gX, 112, none⟩)) W' := ix
                  obtain ⟨⟨q0, ca⟩, fa, hset, hge, _⟩ := own_put36 o7 (j := 112) (by omega) (.int .u64 4294967296)
                  have HR := Lib.hid (show OwnW (wa17.setCell ⟨gX, 112, none⟩ (.int .u64 4294967296)) wa12.heap.size 64 (.slice (some ⟨gX, 0, none⟩) 256 cX) lD ∧ Below wa12.heap.size wa12 (wa17.setCell ⟨gX, 112, none⟩ (.int .u64 4294967296)) from
                    ⟨by rw [HD.out]; exact OwnW.of hset (by rw [List.map_set]; rfl), B.setCell (p := ⟨gX, 112, none⟩) hge _⟩)
                  clear o7 hset hge ox B EO
                  go_wp2_with fail
                  refine calls_gen (fun W => OwnW W wa12.heap.size 64 (.slice (some ⟨gX, 0, none⟩) 256 cX) lD ∧ Below wa12.heap.size wa12 W) HR.out ?_
                  rintro wk ⟨ox, B⟩
                  clear HR ix ca fa
                  have px := ox.rd
                  go_wp2_with fail
                  refine (ED.out _ _ px).mono ?_
                  rintro e wa18 ⟨rfl, b⟩
                  replace B := B.trans (b.mono B.size); clear b
                  clear px ox ED
                  have hb := B.size
                  go_wp2_with fail
                  refine (IY.out _).mono ?_
                  rintro e wa19 ⟨x38, rfl, o, b⟩
                  replace B := B.trans (b.mono B.size); clear b
                  have oy : OwnW wa19 wa12.heap.size 64 x38 lY := own_mono o hb
                  clear o hb
                  have o7 := oy
                  unfold OwnW at o7
                  rw [H5.out] at o7
                  obtain ⟨gY, cY, cur, rfl, _⟩ := own_form o7 (by omega)
                  have l38 : ∀ ty W, (Builtin.len_ #[25] ty #[.slice (some ⟨gY, 0, none⟩) 256 cY]).run Try.prog W = .ok (.int .i64 256) W := Rd.len (Rd.of_own o7) Try.underlying25
                  have ix := own_ix36 (P := Try.prog) (t := 25) o7 Try.underlying25 one_u64 (j := 112) (by omega)
                  replace ix : ∀ W', (Instr.indexAt 25 (.slice (some ⟨gY, 0, none⟩) 256 cY) (.int .i64 112)).run Try.prog W' = .ok (.pointer (some ⟨gY, 112, none⟩)) W' := ix
                  obtain ⟨⟨q0, ca⟩, fa, hset, hge, _⟩ := own_put36 o7 (j := 112) (by omega) (.int .u64 30064771072)
                  have HR := Lib.hid (show OwnW (wa19.setCell ⟨gY, 112, none⟩ (.int .u64 30064771072)) wa12.heap.size 64 (.slice (some ⟨gY, 0, none⟩) 256 cY) lS ∧ Below wa12.heap.size wa12 (wa19.setCell ⟨gY, 112, none⟩ (.int .u64 30064771072)) from
                    ⟨by rw [HS.out]; exact OwnW.of hset (by rw [List.map_set]; rfl), B.setCell (p := ⟨gY, 112, none⟩) hge _⟩)
                  clear o7 hset hge oy B IY
                  go_wp2_with fail
                  refine calls_gen (fun W => OwnW W wa12.heap.size 64 (.slice (some ⟨gY, 0, none⟩) 256 cY) lS ∧ Below wa12.heap.size wa12 W) HR.out ?_
                  rintro wk2 ⟨oy, B⟩
                  clear HR ix ca fa
                  have py := oy.rd
                  have p20 := Words.below HP.out B
                  go_wp2_with fail
                  refine (EY.out _ _ py).mono ?_
                  rintro e wa20 ⟨rfl, b⟩
                  replace p20 := p20.below b; replace B := B.trans (b.mono B.size); clear b
                  clear py oy EY
                  obtain ⟨xw, hxw, hx0⟩ := HA4.out
                  obtain ⟨ad, z, ix, m0, hz⟩ := Words.at_ (P := Try.prog) p20 Try.underlying25 one_u64 (k := 111) (by rw [HA3.out]; omega)
                  obtain rfl : z = xw := by have := hz.out; rw [hxw] at this; injection this with this; exact this.symm
                  replace ix : ∀ W', (Instr.indexAt 25 x20 (.int .i64 111)).run Try.prog W' = .ok (.pointer (some ad)) W' := ix
                  have n0 : ((z.toNat : Int) != 0) = true := by
                    rw [bne_iff_ne]
                    intro e
                    refine hx0 (UInt64.toNat_inj.1 ?_)
                    have e' : z.toNat = 0 := by omega
                    rw [e']; rfl
                  clear hz hxw hx0 HA4 p20
                  go_wp2_with fail
                  refine (AL.out _).mono ?_
                  rintro e wa21 ⟨rfl, b⟩
                  replace m0 := cell_later b m0; replace B := B.trans (b.mono B.size); clear b
                  have BB := Lib.hid (HB0.out.trans (B.mono HB0.out.size))
                  clear B
                  go_wp2
                  go_ret
                  exact ⟨rfl, BB.out⟩

end Go.Proofs.Ytodbbacmdjcheaa
