/- The walk of the law FormatRoom: all words of the heap of a new image are free, and an object of any type goes there. -/
import Derived.Test.YtodbbacmdjcheaaMOq
import Derived.Test.YtodbbacmdjcheaaMOr
set_option linter.unusedVariables false
set_option linter.unusedSimpArgs false
namespace Go.Proofs.Ytodbbacmdjcheaa
open Go.RowKit L02 L05 L06 L07 L13 L14 L15 L16 L18 L19 L20 L73 L74 L75 L77

theorem room_most {n : Nat} {T : List (List UInt8)} (h : Nw n T) : mostF (freeL (imageP n T)) 0 = (n : Int) - 128 := by
  have := h.le
  rw [h.free]
  show (if (0 : Int) < (n : Int) - 128 then (n : Int) - 128 else 0) = _
  rw [if_pos (by omega)]
theorem room_fold {l : List UInt64} {E : List (Int × UInt64)} {j : Nat} {e : Int × UInt64} (h : E[j]? = some e) : (E.take (j + 1)).foldl put1 l = put1 ((E.take j).foldl put1 l) e := by
  rw [List.take_add_one, h, List.foldl_append]; rfl
theorem room_len (l : List UInt64) (E : List (Int × UInt64)) : (E.foldl put1 l).length = l.length := by
  induction E generalizing l with
  | nil => rfl
  | cons e F ih => rw [List.foldl_cons, ih, put1_len]
theorem room_emp {l : List UInt64} (h : chk19 l = 0) (hs : ∃ s ∈ slots l, s.used = true) : emp l = false := by
  rw [emp, if_pos h]
  have : anyU (slots l) = true := by
    obtain ⟨s, h1, h2⟩ := hs
    exact List.any_eq_true.2 ⟨s, h1, h2⟩
  rw [this]; simp

set_option maxRecDepth 100000 in
set_option maxHeartbeats 8000000 in
theorem FormatRoom_walk (n : Int) (v1 : Value) (T : List (List UInt8)) (t : Int) (w : World) (f0 : -9223372036854775808 ≤ n ∧ n ≤ 9223372036854775807) (h1 : Typs w v1 T) (f2 : -9223372036854775808 ≤ t ∧ t ≤ 9223372036854775807) :
    Calls Try.prog 6 #[.int .i64 n, v1, .int .i64 t] w fun e w' => e = .returned (.bool true) ∧ Below w.heap.size w w' := by
  clear f0 f2
  have B : Below w.heap.size w w := Below.refl _ _
  have AL := Lib.hid alive36_any
  obtain ⟨r, hr⟩ : ∃ r, r = imgErr n T := ⟨_, rfl⟩
  have A1 := Lib.hid (fun w h => Asked_any n v1 T r hr w h)
  have HR := Lib.hid hr
  have lt := h1.len
  obtain ⟨K, hK⟩ : ∃ K, K = T.length := ⟨_, rfl⟩
  rw [← hK] at lt
  have H := Lib.hid h1
  clear hr h1
  go_enter Try.func6, Try.ntmps6
  go_wp2_with fail
  refine (AL.out _).mono ?_
  rintro e wa1 ⟨rfl, b⟩
  replace B := B.trans (b.mono B.size); clear b
  go_wp2_with fail
  refine (A1.out _ (H.out.below B)).mono ?_
  rintro e w2 ⟨rfl, rfl⟩
  by_cases h0 : r = 0
  rotate_left
  · go_wp2
    go_ret
    exact ⟨rfl, B⟩
  subst h0
  obtain ⟨N, rfl, sN, t8, gT, iN⟩ := imgErr_ok HR.out.symm
  have nw : Nw N T := ⟨sN, t8, gT⟩
  have hN := nw.le
  obtain ⟨l, hl⟩ : ∃ l, l = imageP N T := ⟨_, rfl⟩
  have hll : l.length = N := by rw [hl, imageP_len]
  have I1 := Lib.hid (fun w h => (show Calls Try.prog 10 #[.int .i64 N, v1] w (RetWE w l 0) from by
    have := Image_any N v1 T w h; rw [← HR.out, iN, ← hl] at this; exact this))
  have I2 := Lib.hid (fun v w h => (show Calls Try.prog 23 #[v] w fun e w' => e = .returned (.tuple #[.int .i64 ((N : Int) - 128), .int .i64 ((N : Int) - 128), .int .i64 0]) ∧ Below w.heap.size w w' from
    Words16m_any v l ((N : Int) - 128) ((N : Int) - 128) 0 (by rw [hl, Nw.rSum nw]) (by rw [hl, room_most nw]) (by rw [hl]; exact nw.al) rfl w h))
  obtain ⟨r2, hr2⟩ : ∃ r, r = aiE l t := ⟨_, rfl⟩
  obtain ⟨s1, hs1⟩ : ∃ r, r = aiS l t := ⟨_, rfl⟩
  obtain ⟨s2, hs2⟩ : ∃ r, r = aiG l t := ⟨_, rfl⟩
  obtain ⟨E, hE⟩ : ∃ r, r = aiL l t := ⟨_, rfl⟩
  have I3 := Lib.hid (fun v w h => Change_any v l t E s1 s2 r2 hE hs1 hs2 hr2 w h)
  have hw : IntKind.i64.wrap ((N : Int) - 128) = (N : Int) - 128 := IntWalk.i64_in _ (by omega)
  have c0 := Nw.rE nw t
  rw [← hl, ← hr2, ← hK] at c0
  clear hK sN t8 gT iN A1 HR
  go_wp2_with fail
  refine (I1.out _ (H.out.below B)).mono ?_
  rintro e w2 ⟨x, rfl, o, b⟩
  have hb1 := B.size
  replace B := B.trans (b.mono hb1)
  have ox : OwnW w2 w.heap.size 64 x l := own_mono o hb1
  clear b o hb1
  have p1 := ox.rd
  have ox' := ox
  unfold OwnW at ox'
  rw [hll] at ox'
  obtain ⟨g6, c6, cur, rfl, hg6a, hg6b, _⟩ := own_form ox' (by omega)
  clear ox'
  have hbx : Bx w2 g6 64 cur := hg6b
  clear hg6b
  go_wp2_with fail
  refine (I2.out _ _ p1).mono ?_
  rintro e wa2 ⟨rfl, b⟩
  replace p1 := p1.below b; replace ox := ox.below b; replace hbx := hbx.below b; replace B := B.trans (b.mono B.size); clear b
  have hg6 : g6 < wa2.heap.size := hbx.lt
  have HG := Lib.hid hg6
  clear hbx hg6
  go_wp2_with fail
  refine (I3.out _ _ p1).mono ?_
  rintro e wa3 ⟨y, rfl, oe, b⟩
  replace p1 := p1.below b; replace ox := ox.below b; replace B := B.trans (b.mono B.size); clear b
  by_cases ht : 0 ≤ t ∧ t < (K : Int)
  rotate_left
  · obtain rfl : r2 = 2 := by rw [c0, if_neg ht]
    clear p1 ox oe c0 hr2 hs1 hs2 hE I1 I2 I3
    go_upto_region 9 with (fail)
    refine wp_gen (fun Wv => Bx Wv (wa3.heap.size) (61) (#[.int .i64 s1, .int .i64 s2]) ∧ Below wa3.heap.size wa3 Wv) ⟨((Bx.at_ (by simp))), ((Below.refl _ wa3).alloc (by simp <;> omega) _)⟩ ?_
    rintro wa4 ⟨g1, b⟩
    replace B := B.trans (b.mono B.size); clear b
    have c_g1 := g1.cell; have f_g1 := g1.free; have a_g1 := fun o => (g1.alloc o).cell; have d_g1 := fun o o2 => ((g1.alloc o).alloc o2).cell; have e_g1 := fun o => (g1.alloc o).free
    by_cases ht0 : t < 0
    · go_wp2
      go_ret
      exact ⟨rfl, B⟩
    · have ht1 : ¬ t < (K : Int) := fun h => ht ⟨by omega, h⟩
      go_wp2
      go_ret
      exact ⟨rfl, B⟩
  obtain rfl : r2 = 0 := by rw [c0, if_pos ht]
  have hE0 : aiE (imageP N T) t = 0 := by rw [← hl, ← hr2]
  obtain ⟨q, rfl, ⟨xv, hx1⟩, hE3, hE100, hEb⟩ := Nw.rL nw hE0
  obtain ⟨hc19, hus⟩ := Nw.rAfter nw hE0
  obtain ⟨hz1, hz2⟩ := Nw.rS nw hE0
  rw [← hl] at hx1 hE3 hE100 hEb hc19 hus hz1 hz2
  rw [← hE] at hx1 hE3 hE100 hEb hc19 hus
  obtain rfl : s1 = 0 := hs1.trans hz1
  obtain rfl : s2 = 1 := hs2.trans hz2
  obtain ⟨L, hL⟩ : ∃ L, L = E.length := ⟨_, rfl⟩
  have hmade : L19.made l E = E.foldl put1 l := by unfold L19.made; rw [List.take_of_length_le hE100]
  rw [hmade] at hc19 hus
  have I7 := Lib.hid (fun w h => Empty36_any (.slice (some ⟨g6, 0, none⟩) N c6) (E.foldl put1 l) false 0 (room_emp hc19 hus).symm hc19.symm w h)
  have HB1 := Lib.hid (show w.heap.size ≤ wa3.heap.size from B.size)
  have LE := Lib.hid hL; have LB := Lib.hid hEb; have LX := Lib.hid hx1
  have lle : ∀ ty W, (Builtin.len_ #[59] ty #[y]).run Try.prog W = .ok (.int .i64 (L : Int)) W := by rw [hL]; exact Rd.len oe.rd Try.underlying59
  have llx : ∀ ty W, (Builtin.len_ #[25] ty #[.slice (some ⟨g6, 0, none⟩) N c6]).run Try.prog W = .ok (.int .i64 (N : Int)) W := by have q := ox; unfold OwnW at q; rw [hll] at q; exact Rd.len (Rd.of_own q) Try.underlying25
  have hL3 : 3 ≤ L := by rw [hL]; exact hE3
  have hL100 : L ≤ 100 := by rw [hL]; exact hE100
  have HL := Lib.hid hl; have HLL := Lib.hid hll
  clear hE0 hx1 hE3 hE100 hEb hc19 hus hz1 hz2 hs1 hs2 hL hmade p1 hr2 hE I1 I2 I3 c0 nw hl hll
  have n3 : ¬ (L : Int) < 3 := by omega
  have q0 : ¬ ((q : Nat) : Int) < 0 := by omega
  have q1 : ¬ K ≤ q := by omega
  have q2 : ¬ (K : Int) ≤ (q : Int) := by omega
  go_upto_region 9 with (fail)
  refine wp_gen (fun Wv => Bx Wv (wa3.heap.size) (61) (#[.int .i64 0, .int .i64 1]) ∧ Below wa3.heap.size wa3 Wv) ⟨((Bx.at_ (by simp))), ((Below.refl _ wa3).alloc (by simp <;> omega) _)⟩ ?_
  rintro wa5 ⟨g1, b⟩
  replace ox := ox.below b; replace oe := oe.below b; replace B := B.trans (b.mono B.size); clear b
  have c_g1 := g1.cell; have f_g1 := g1.free; have a_g1 := fun o => (g1.alloc o).cell; have d_g1 := fun o o2 => ((g1.alloc o).alloc o2).cell; have e_g1 := fun o => (g1.alloc o).free
  unfold OwnW at ox
  rw [HLL.out] at ox
  have HX := Lib.hid ox; have HE := Lib.hid oe; have HB := Lib.hid B
  clear ox oe B
  go_wp2
  go_loopg [16] L (fun g i wr => ∃ j : Nat, j ≤ L ∧ g = L - j ∧ i = .int .i64 j ∧ Hid (wr.ownsRow w.heap.size 64 1 (.slice (some ⟨g6, 0, none⟩) N c6) N (((E.take j).foldl put1 l).map Go.Proofs.Ytodbbacmdjcheaa.u64)) ∧ Hid (OwnE wr wa2.heap.size y E) ∧ Hid (Below w.heap.size w wr))
  case atStart => exact ⟨0, by omega, by omega, rfl, HX, HE, HB⟩
  case round =>
    clear HX HE HB
    obtain ⟨j, hj, rfl, rfl, hX, hE, hB⟩ := hrel
    by_cases hlt : j < L
    · obtain ⟨b, o, s1, s2, ia, m0, m1, hs⟩ := hE.out.rd.at_ (k := j) (by rw [← LE.out]; exact hlt)
      obtain ⟨z0, z1⟩ := LB.out _ (List.mem_of_getElem? hs.out)
      dsimp only at z0 z1
      obtain ⟨p, rfl⟩ := Int.eq_ofNat_of_zero_le z0
      have hpN : p < N := by omega
      have ix := own_ix36 (P := Try.prog) (t := 25) hX.out Try.underlying25 one_u64 (j := p) hpN
      obtain ⟨⟨u0, ca⟩, fa, hset, hge, _⟩ := own_put36 hX.out hpN (.int .u64 s2.toNat)
      have HR := Lib.hid (show (wr.setCell ⟨g6, p, none⟩ (.int .u64 s2.toNat)).ownsRow w.heap.size 64 1 (.slice (some ⟨g6, 0, none⟩) N c6) N (((E.take (j + 1)).foldl put1 l).map Go.Proofs.Ytodbbacmdjcheaa.u64) ∧ OwnE (wr.setCell ⟨g6, p, none⟩ (.int .u64 s2.toNat)) wa2.heap.size y E ∧ Below w.heap.size w (wr.setCell ⟨g6, p, none⟩ (.int .u64 s2.toNat)) from by
        refine ⟨?_, ownsRow_setCell_below hE.out (by exact HG.out) _, hB.out.setCell (p := ⟨g6, p, none⟩) hge _⟩
        rw [room_fold hs.out, put1_set (by rw [room_len, HLL.out]; exact hpN), List.map_set]; exact hset)
      have n0 : ¬ (p : Int) < 0 := by omega
      have n1 : ¬ (N : Int) ≤ (p : Int) := by omega
      clear hset hge hs hX hE hB z0 z1
      go_upto_region 18 with (fail)
      refine wp_region_qtail 12 (by kernel_rfl) (by kernel_rfl) ?_
      simp only [List.take_succ_cons, List.take_zero, List.drop_succ_cons, List.drop_zero]
      iterate 12 (go_big_quiet_step (fail))
      refine wpQuiet_nil ?_
      go_wp2
      go_roundg (L - (j + 1))
      case measure => omega
      case rel =>
        exact ⟨j + 1, by omega, rfl, by go_num, Lib.hid HR.out.1, Lib.hid HR.out.2.1, Lib.hid HR.out.2.2.drew⟩
    · obtain rfl : j = L := by omega
      have hX' := hX.out
      rw [List.take_of_length_le (by rw [← LE.out]; exact Nat.le_refl _)] at hX'
      have px : Words wr (.slice (some ⟨g6, 0, none⟩) N c6) (E.foldl put1 l) := (OwnW.of hX' rfl).rd
      have pe := hE.out.rd
      have B := hB.out
      clear hX hE hB hX'
      go_wp2_with fail
      refine (I7.out _ px).mono ?_
      rintro e wa1 ⟨rfl, b⟩
      replace pe := pe.below b; replace B := B.trans (b.mono B.size); clear b
      obtain ⟨b, o, s1, s2, ia, m0, m1, hs⟩ := pe.at_ (k := 1) (by rw [← LE.out]; omega)
      have e1 := LX.out
      rw [hs.out] at e1
      obtain rfl : s1 = 128 := by injection e1 with e1; injection e1
      have ia' : ∀ W, (Instr.indexAt 59 y (.int .i64 1)).run Try.prog W = .ok (.pointer (some ⟨b, o, none⟩)) W := ia
      clear ia pe hs e1
      go_wp2
      go_ret
      exact ⟨rfl, B⟩

end Go.Proofs.Ytodbbacmdjcheaa
