/- Contracts of the functions that the laws 'A' reach, part 8. No condition. -/
import Derived.Test.YtodbbacmdjcheaaMAg
set_option linter.unusedVariables false
set_option linter.unusedSimpArgs false
namespace Go.Proofs.Ytodbbacmdjcheaa.L19
open L02 L07 L13 L14 L15 L16 L18 L20
/-- images that are the same in front of the heap -/
structure Front (l l' : List UInt64) : Prop where
  len : l'.length = l.length
  take : l'.take 128 = l.take 128
section
variable {l l' : List UInt64}
theorem Front.get (h : Front l l') {i : Nat} (hi : i < 128) : l'.getD i 0 = l.getD i 0 := by
  rw [List.getD_eq_getElem?_getD, List.getD_eq_getElem?_getD, ← List.getElem?_take_of_lt hi, h.take, List.getElem?_take_of_lt hi]
theorem Front.part (h : Front l l') {a n : Nat} (ha : a + n ≤ 128) : (l'.drop a).take n = (l.drop a).take n := by
  have e : ∀ m : List UInt64, (m.drop a).take n = ((m.take 128).drop a).take n := fun m => by
    rw [List.drop_take, List.take_take, Nat.min_eq_left (by omega)]
  rw [e l', e l, h.take]
theorem Front.super (h : Front l l') : rErr l' = rErr l ∧ sT l' = sT l := by
  have h0 : c0 l' = c0 l := by have := h.part (a := 0) (n := 8) (by omega); rwa [List.drop_zero, List.drop_zero] at this
  have h1 : c1 l' = c1 l := h.part (a := 8) (n := 8) (by omega)
  have e0 : is0 l' = is0 l := by unfold is0; rw [h0, h.len]
  have e1 : is1 l' = is1 l := by unfold is1; rw [h1, h.len]
  have e2 : rErr l' = rErr l := by unfold rErr; rw [e0, e1, h.len]
  exact ⟨e2, by unfold sT one; rw [e2, e0, h0, h1]⟩
theorem Front.tab (h : Front l l') (n : Int) : tabErr l' n = tabErr l n ∧ tabT l' n = tabT l n := by
  have e0 : ∀ i, i < 8 → ta l' i = ta l i ∧ tb l' i = tb l i := fun i hi => by unfold ta tb; exact ⟨h.get (by omega), h.get (by omega)⟩
  have e : ∀ k, TysOk l' k ↔ TysOk l k := fun k => by
    unfold TysOk
    constructor <;> intro hh i hi <;> have := hh i hi <;> unfold TyOk at * <;> rw [(e0 i hi).1, (e0 i hi).2] at * <;> exact this
  have e2 : tabErr l' n = tabErr l n := by unfold tabErr; rw [h.len]; simp only [e]
  refine ⟨e2, ?_⟩
  unfold tabT
  rw [e2]
  by_cases h0 : tabErr l n = 0
  · rw [if_pos h0, if_pos h0]
    have hn : n.toNat ≤ 8 := by
      unfold tabErr at h0
      split at h0
      · split at h0
        · omega
        · omega
      · omega
    unfold tysTo
    refine List.map_congr_left fun i hi => ?_
    have := List.mem_range.1 hi
    rw [(e0 i (by omega)).1, (e0 i (by omega)).2]
  · rw [if_neg h0, if_neg h0]
theorem Front.types (h : Front l l') : T19 l' = T19 l := by unfold T19; rw [h.super.2, (h.tab _).2]
theorem Front.refl (l : List UInt64) : Front l l := ⟨rfl, rfl⟩
theorem Front.trans {m : List UInt64} (h : Front l l') (h2 : Front l' m) : Front l m := ⟨h2.len.trans h.len, h2.take.trans h.take⟩
end
end Go.Proofs.Ytodbbacmdjcheaa.L19
namespace Go.Proofs.Ytodbbacmdjcheaa
open Go.RowKit L01 L02 L05 L06 L07 L13 L14 L15 L16 L18 L19
theorem free_snoc {L : List Hb} {b : Hb} : free (L ++ [b]) = free L ++ (if b.kind = 2 then [b] else []) := by
  rw [free_app]; congr 1
  unfold free
  by_cases h : b.kind = 2
  · rw [if_pos h, List.filter_cons_of_pos (by simpa using h)]; rfl
  · rw [if_neg h, List.filter_cons_of_neg (by simpa using h)]; rfl
set_option maxRecDepth 100000 in
set_option maxHeartbeats 1000000 in
theorem FreeW_any (v : Value) (l : List UInt64) (F : List Hb) (r : Int) (hF : F = freeL l) (hr : r = allErr l) (w : World) (h : Words w v l) :
    Calls Try.prog 35 #[v] w fun e w' => ∃ x, e = .returned (.tuple #[x, .int .i64 r]) ∧ OwnK w' w.heap.size x F ∧ Below w.heap.size w w' := by
  have B : Below w.heap.size w w := Below.refl _ _
  have H := Lib.hid h
  obtain ⟨L, hL⟩ : ∃ L, L = allL l := ⟨_, rfl⟩
  have WT := Lib.hid (fun w h => AllW_any v l L r hL hr w h)
  by_cases h0 : r = 0
  case neg =>
    have hF0 : F = [] := by rw [hF, freeL, allL, if_neg (by rw [← hr]; exact h0)]; rfl
    subst hF0
    have n1 : (r != 0) = true := by rw [bne_iff_ne]; exact h0
    clear hF hr h hL h0
    go_enter Try.func35, Try.ntmps35
    go_wp2_with fail
    refine (WT.out _ (H.out.below B)).mono ?_
    rintro e wa1 ⟨xl, rfl, ol, b⟩
    replace B := B.trans (b.mono B.size); clear b
    go_wp2
    go_ret2
    exact ⟨_, rfl, OwnK.nil _ _, B⟩
  case pos =>
    subst h0
    have hl9 : L.length ≤ 960 := by rw [hL]; exact all_len hr.symm
    have HF := Lib.hid (show F = free L by rw [hF, hL]; rfl)
    obtain ⟨N, hN⟩ : ∃ N, N = L.length := ⟨_, rfl⟩
    have HN := Lib.hid hN
    have hN9 : N ≤ 960 := by omega
    clear hF hr h hL hl9 hN
    go_enter Try.func35, Try.ntmps35
    go_wp2_with fail
    refine (WT.out _ (H.out.below B)).mono ?_
    rintro e wa1 ⟨xl, rfl, ol, b⟩
    replace B := B.trans (b.mono B.size); clear b
    have HO := Lib.hid ol.rd
    have lx := HO.out.len
    rw [← HN.out] at lx
    have hB1 := B.size
    have HB := Lib.hid (And.intro B hB1)
    have BB : Below wa1.heap.size wa1 wa1 := Below.refl _ _
    have HBB := Lib.hid BB
    clear ol B BB hB1
    go_wp2
    go_loopg [6, 19] N (fun g xv i wr => ∃ j : Nat, j ≤ N ∧ g = N - j ∧ i = .int .i64 j ∧ Hid (OwnK wr wa1.heap.size xv (free (L.take j)) ∧ Below wa1.heap.size wa1 wr))
    case atStart => exact ⟨0, by omega, by omega, rfl, Lib.hid ⟨by rw [List.take_zero]; exact OwnK.nil _ _, HBB.out⟩⟩
    case round =>
      obtain ⟨j, hj, rfl, rfl, hh⟩ := hrel
      clear HBB
      obtain ⟨o1, B⟩ := hh.out
      by_cases hlt : j < N
      · obtain ⟨bb, oo, b, ia, m0, m1, m2, m3, m4, m5, hb, _⟩ := (Blks.below HO.out B).at_ (k := j) (by rw [← HN.out]; exact hlt)
        have htk : L.take (j + 1) = L.take j ++ [b] := by rw [List.take_add_one, hb.out]; rfl
        have hsn := free_snoc (L := L.take j) (b := b)
        rw [← htk] at hsn
        have hB0 := B.size
        by_cases hk : b.kind = 2
        · rw [if_pos hk] at hsn
          have k1 : (b.kind == 2) = true := by rw [beq_iff_eq]; exact hk
          have HS := Lib.hid hsn
          have hol : (free (L.take j)).length ≤ j := Nat.le_trans (List.length_filter_le _ _) (by rw [List.length_take]; omega)
          clear hsn htk hk hb
          go_upto_region 8 with (fail)
          refine wp_gen (fun Wv => Bx Wv (wr.heap.size) (84) (#[.int .i64 b.at_, .int .i64 b.size, .int .i64 b.kind, .int .i64 b.ty, .bool b.mark, .int .u64 b.next.toNat]) ∧ Below wr.heap.size wr Wv) ⟨((Bx.at_ (by simp))), ((Below.refl _ wr).alloc (by simp <;> omega) _)⟩ ?_
          rintro wa2 ⟨g2, b⟩
          replace o1 := o1.below b; replace B := B.trans (b.mono B.size); clear b
          have c_g2 := g2.cell; have f_g2 := g2.free; have a_g2 := fun o => (g2.alloc o).cell; have d_g2 := fun o o2 => ((g2.alloc o).alloc o2).cell; have e_g2 := fun o => (g2.alloc o).free
          have hne := own_fresh o1
          go_wp2_with (at_builtin; refine wpList_append (by rfl) rfl rfl rfl Try.underlying92 info_block rfl (by omega) (by exact own_below o1 ((Below.refl _ _).alloc (Nat.le_refl _) _)) (by exact lit_block b (by simp)) (bkL_one b) (by omega) (by omega) (by exact B.alloc B.size _) (Nat.le_refl _) ?_; intro v1 w3 o3 B3 g3)
          have o4 : OwnK w3 wa1.heap.size v1 (free (L.take (j + 1))) := by rw [HS.out]; exact OwnK.of o3 (tabB_snoc _ b)
          have HZ := Lib.hid (And.intro o4 B3)
          go_roundg (N - (j + 1))
          case measure => omega
          case rel => exact ⟨j + 1, by omega, rfl, by go_num, HZ⟩
        · rw [if_neg hk, List.append_nil] at hsn
          have k1 : (b.kind == 2) = false := by rw [beq_eq_false_iff_ne]; exact hk
          have HS := Lib.hid hsn
          clear hsn htk hk hb
          go_upto_region 8 with (fail)
          refine wp_gen (fun Wv => Bx Wv (wr.heap.size) (84) (#[.int .i64 b.at_, .int .i64 b.size, .int .i64 b.kind, .int .i64 b.ty, .bool b.mark, .int .u64 b.next.toNat]) ∧ Below wr.heap.size wr Wv) ⟨((Bx.at_ (by simp))), ((Below.refl _ wr).alloc (by simp <;> omega) _)⟩ ?_
          rintro wa3 ⟨g2, b⟩
          replace o1 := o1.below b; replace B := B.trans (b.mono B.size); clear b
          have c_g2 := g2.cell; have f_g2 := g2.free; have a_g2 := fun o => (g2.alloc o).cell; have d_g2 := fun o o2 => ((g2.alloc o).alloc o2).cell; have e_g2 := fun o => (g2.alloc o).free
          have HZ := Lib.hid (And.intro o1 B)
          rw [← HS.out] at HZ
          go_wp2
          go_roundg (N - (j + 1))
          case measure => omega
          case rel => exact ⟨j + 1, by omega, rfl, by go_num, HZ⟩
      · obtain rfl : j = N := by omega
        have e : free (L.take j) = F := by rw [HF.out, HN.out, List.take_length]
        rw [e] at o1
        clear e
        obtain ⟨B0, hB1⟩ := HB.out
        have HBZ := Lib.hid (And.intro (o1.mono hB1) (B0.trans (B.mono hB1)))
        clear o1 B B0
        go_wp2
        go_ret2
        exact ⟨_, rfl, HBZ.out⟩
end Go.Proofs.Ytodbbacmdjcheaa
namespace Go.Proofs.Ytodbbacmdjcheaa
open Go.RowKit L02 L05 L06 L07 L13 L14 L15 L16 L19 L73 L75
theorem lit_typs1 {w : World} {t : List UInt8} {x : Value} {n : Nat} (hn : w.heap.size = n) (hx : Byts w x t) : Typs (w.alloc (.cells #[x] 69)) (.slice (some ⟨n, 0, none⟩) 1 1) [t] := by
  subst hn
  have hb : Below w.heap.size w (w.alloc (.cells #[x] 69)) := (Below.refl _ _).alloc (Nat.le_refl _) _
  refine ⟨[x], rfl, lit_rdN (n := 1) rfl (by omega), fun i y l h1 h2 => ?_⟩
  rcases i with _ | i
  · simp at h1 h2; subst h1; subst h2; exact Byts.below hx hb
  · simp at h1
theorem ref36_any (w : World) : Calls Try.prog 25 #[] w fun e w' => ∃ x, e = .returned x ∧ Typs w' x [[3]] ∧ Below w.heap.size w w' := by
  go_enter Try.func25, Try.ntmps25
  go_wp2
  go_ret
  have hb : Byts (w.alloc (.cells #[.int .u8 3] 5)) (.slice (some ⟨w.heap.size, 0, none⟩) 1 1) [3] := lit_byts [3] rfl rfl rfl (by simp)
  exact ⟨_, rfl, lit_typs1 (by simp) hb, ((Below.refl _ w).alloc (Nat.le_refl _) _).alloc (by simp) _⟩
theorem sup36_eql (a b c d : Int) (r : Bool) (hr : r = (a == c && b == d)) (W : World) : (binOp .eql 80 (.agg #[.int .i64 a, .int .i64 b]) (.agg #[.int .i64 c, .int .i64 d])).run Try.prog W = .ok (.bool r) W := by
  subst hr
  cases h : (a == c) <;> cases h2 : (b == d) <;> simp [go_sem, h, h2]
theorem bb36_items (a b c d : Bool) (W : World) : (Op.eqItems 9999 4 1 #[.bool a, .bool b] #[.bool c, .bool d] (List.range 2)).run Try.prog W = .ok (a == c && b == d) W := by
  cases a <;> cases b <;> cases c <;> cases d <;> kernel_rfl
theorem bb36_eql (a b c d : Bool) (r : Bool) (hr : r = (a == c && b == d)) (W : World) : (binOp .eql 95 (.agg #[.bool a, .bool b]) (.agg #[.bool c, .bool d])).run Try.prog W = .ok (.bool r) W := by
  subst hr
  obtain ⟨i, hi⟩ := Option.isSome_iff_exists.1 (show (Try.prog.info? 4).isSome = true by kernel_rfl)
  rw [run_eql_struct, run_equalIn_array (w := W) 9999 _ _ Try.underlying95 hi, show Try.prog.cellsOf 4 = 1 from by kernel_rfl, bb36_items]
  rfl
set_option maxRecDepth 100000 in
set_option maxHeartbeats 4000000 in
theorem alive36_any (w : World) : Calls Try.prog 17 #[] w fun e w' => e = .returned (.bool true) ∧ Below w.heap.size w w' := by
  have B : Below w.heap.size w w := Below.refl _ _
  obtain ⟨l0, hl0⟩ : ∃ l, l = imageP 256 [] := ⟨_, rfl⟩
  obtain ⟨l1, hl1⟩ : ∃ l, l = imageP 256 [[3]] := ⟨_, rfl⟩
  obtain ⟨f1, f2, f3⟩ := im0_all
  obtain ⟨t1, t2, t3, t4, t5, t6, t7⟩ := im1_tw
  rw [← hl0] at f1 f2 f3; rw [← hl1] at t1 t2 t3 t4 t5 t6 t7
  have n0 : l0.length = 256 := by rw [hl0, imageP_len]
  have n1 : l1.length = 256 := by rw [hl1, imageP_len]
  obtain ⟨a, ha⟩ : ∃ a, a = w0 [3] := ⟨_, rfl⟩
  obtain ⟨c, hc⟩ : ∃ a, a = L13.w1 [3] := ⟨_, rfl⟩
  rw [← ha] at t6; rw [← hc] at t7
  have I0 := Lib.hid (fun w => (show Calls Try.prog 10 #[.int .i64 256, .slice none 0 0] w (RetWE w l0 0) from by
    have := Image_any 256 (.slice none 0 0) [] w ⟨[], rfl, Rd.nil _ _, fun i x l h => by simp at h⟩
    rw [show imgErr 256 [] = 0 by decide, show imgP 256 [] = l0 from by rw [hl0]; rfl] at this; exact this))
  have I1 := Lib.hid (fun v w h => (show Calls Try.prog 10 #[.int .i64 256, v] w (RetWE w l1 0) from by
    have := Image_any 256 v [[3]] w h
    rw [show imgErr 256 [[3]] = 0 by decide, show imgP 256 [[3]] = l1 from by rw [hl1]; rfl] at this; exact this))
  have KT := Lib.hid (fun v w h => KWrite_any v [3] a c 0 ha hc (by decide) w h)
  have FT := Lib.hid (fun v w h => FreeW_any v l0 [⟨128, 128, 2, 0, false, 0⟩] 0 f2.symm f1.symm w h)
  have TT := Lib.hid (fun v w h => TRead_any v l1 256 1 true true 0 t2.symm t3.symm t4.symm t5.symm t1.symm w h)
  have RT := Lib.hid ref36_any
  have HF := Lib.hid f3; have H6 := Lib.hid t6; have H7 := Lib.hid t7; have N0 := Lib.hid n0; have N1 := Lib.hid n1
  have q1 := Lib.hid (sup36_eql 256 1 256 1 true (by simp)); have q2 := Lib.hid (bb36_eql true true true true true (by simp))
  clear hl0 hl1 f1 f2 f3 t1 t2 t3 t4 t5 t6 t7 n0 n1 ha hc
  go_enter Try.func17, Try.ntmps17
  go_wp2_with fail
  refine (I0.out _).mono ?_
  rintro e wa1 ⟨v0, rfl, o0, b⟩
  replace B := B.trans (b.mono B.size); clear b
  have p0 := o0.rd
  clear o0
  go_wp2_with fail
  refine (RT.out _).mono ?_
  rintro e wa2 ⟨r0, rfl, y0, b⟩
  replace p0 := p0.below b; replace B := B.trans (b.mono B.size); clear b
  go_wp2_with fail
  refine (I1.out _ _ y0).mono ?_
  rintro e wa3 ⟨v1, rfl, o1, b⟩
  replace p0 := p0.below b; replace B := B.trans (b.mono B.size); clear b
  have p1 := o1.rd
  clear o1 y0
  go_wp2_with fail
  refine (RT.out _).mono ?_
  rintro e wa4 ⟨r1, rfl, y1, b⟩
  replace p0 := p0.below b; replace p1 := p1.below b; replace B := B.trans (b.mono B.size); clear b
  obtain ⟨ad, x, tl, hix, hcx, htl, hbx⟩ := y1.at_ (k := 0) (by simp)
  obtain rfl : tl = [3] := by have := htl.out; simpa using this.symm
  have hix' : ∀ W, (Instr.indexAt 22 r1 (.int .i64 0)).run Try.prog W = .ok (.pointer (some ad)) W := hix
  have one := hbx.out.oneCell
  clear hix
  go_wp2_with fail
  refine (KT.out _ _ hbx.out).mono ?_
  rintro e wa5 ⟨rfl, b⟩
  replace p0 := p0.below b; replace p1 := p1.below b; replace B := B.trans (b.mono B.size); clear b
  clear hbx hcx hix' one y1 htl
  go_upto_region 4 with (fail)
  refine wp_gen (fun Wv => Bx Wv (wa5.heap.size) (76) (#[.int .u64 a.toNat, .int .u64 c.toNat]) ∧ Below wa5.heap.size wa5 Wv) ⟨((Bx.at_ (by simp))), ((Below.refl _ wa5).alloc (by simp <;> omega) _)⟩ ?_
  rintro wa6 ⟨g5, b⟩
  replace p0 := p0.below b; replace p1 := p1.below b; replace B := B.trans (b.mono B.size); clear b
  have c_g5 := g5.cell; have f_g5 := g5.free; have a_g5 := fun o => (g5.alloc o).cell; have d_g5 := fun o o2 => ((g5.alloc o).alloc o2).cell; have e_g5 := fun o => (g5.alloc o).free
  go_wp2_with fail
  refine (FT.out _ _ p0).mono ?_
  rintro e wa7 ⟨x2, rfl, o2, b⟩
  replace p0 := p0.below b; replace p1 := p1.below b; try clear c_g5 f_g5 a_g5 d_g5 e_g5
  replace g5 := g5.below b; have c_g5 := g5.cell; have f_g5 := g5.free; have a_g5 := fun o => (g5.alloc o).cell; have d_g5 := fun o o2 => ((g5.alloc o).alloc o2).cell; have e_g5 := fun o => (g5.alloc o).free; replace B := B.trans (b.mono B.size); clear b
  have p2 := o2.rd
  clear o2
  have e0 := Rd.len p0 Try.underlying25; have e1 := Rd.len p1 Try.underlying25; have e2 := Rd.len p2 Try.underlying92
  rw [N0.out] at e0; rw [N1.out] at e1
  have e0' : ∀ ty W, (Builtin.len_ #[25] ty #[v0]).run Try.prog W = .ok (.int .i64 256) W := e0
  have e1' : ∀ ty W, (Builtin.len_ #[25] ty #[v1]).run Try.prog W = .ok (.int .i64 256) W := e1
  have e2' : ∀ ty W, (Builtin.len_ #[92] ty #[x2]).run Try.prog W = .ok (.int .i64 1) W := e2
  clear e0 e1 e2
  go_wp2_with fail
  refine (TT.out _ _ p1).mono ?_
  rintro e wa8 ⟨rfl, b⟩
  replace p0 := p0.below b; replace p1 := p1.below b; replace p2 := p2.below b; try clear c_g5 f_g5 a_g5 d_g5 e_g5
  replace g5 := g5.below b; have c_g5 := g5.cell; have f_g5 := g5.free; have a_g5 := fun o => (g5.alloc o).cell; have d_g5 := fun o o2 => ((g5.alloc o).alloc o2).cell; have e_g5 := fun o => (g5.alloc o).free; replace B := B.trans (b.mono B.size); clear b
  go_upto_region 8 with (fail)
  refine wp_gen (fun Wv => Bx Wv (wa8.heap.size) (80) (#[.int .i64 256, .int .i64 1]) ∧ Bx Wv (wa8.heap.size + 1) (95) (#[.bool true, .bool true]) ∧ Below wa8.heap.size wa8 Wv) ⟨(((Bx.at_ (by simp)).alloc _)), ((Bx.at_ (by simp))), (((Below.refl _ wa8).alloc (by simp <;> omega) _).alloc (by simp <;> omega) _)⟩ ?_
  rintro wa9 ⟨g9, g10, b⟩
  replace p0 := p0.below b; replace p1 := p1.below b; replace p2 := p2.below b; try clear c_g5 f_g5 a_g5 d_g5 e_g5
  replace g5 := g5.below b; have c_g5 := g5.cell; have f_g5 := g5.free; have a_g5 := fun o => (g5.alloc o).cell; have d_g5 := fun o o2 => ((g5.alloc o).alloc o2).cell; have e_g5 := fun o => (g5.alloc o).free; replace B := B.trans (b.mono B.size); clear b
  have c_g9 := g9.cell; have f_g9 := g9.free; have a_g9 := fun o => (g9.alloc o).cell; have d_g9 := fun o o2 => ((g9.alloc o).alloc o2).cell; have e_g9 := fun o => (g9.alloc o).free
  have c_g10 := g10.cell; have f_g10 := g10.free; have a_g10 := fun o => (g10.alloc o).cell; have d_g10 := fun o o2 => ((g10.alloc o).alloc o2).cell; have e_g10 := fun o => (g10.alloc o).free
  obtain ⟨a6, z6, i6, m6, h6⟩ := Words.at_ (P := Try.prog) p1 Try.underlying25 one_u64 (k := 96) (by rw [N1.out]; omega)
  obtain ⟨a7, z7, i7, m7, h7⟩ := Words.at_ (P := Try.prog) p1 Try.underlying25 one_u64 (k := 97) (by rw [N1.out]; omega)
  obtain ⟨a8, z8, i8, m8, h8⟩ := Words.at_ (P := Try.prog) p0 Try.underlying25 one_u64 (k := 96) (by rw [N0.out]; omega)
  obtain ⟨b, o, s, ib, k0, k1, -, -, -, -, hs, -⟩ := p2.at_ (k := 0) (by simp)
  obtain rfl : z6 = a := by have := h6.out; rw [H6.out] at this; injection this with this; exact this.symm
  obtain rfl : z7 = c := by have := h7.out; rw [H7.out] at this; injection this with this; exact this.symm
  obtain rfl : z8 = 0 := by have := h8.out; rw [HF.out] at this; injection this with this; exact this.symm
  obtain rfl : s = ⟨128, 128, 2, 0, false, 0⟩ := by have := hs.out; simpa using this.symm
  have i6' : ∀ W, (Instr.indexAt 25 v1 (.int .i64 96)).run Try.prog W = .ok (.pointer (some a6)) W := i6
  have i7' : ∀ W, (Instr.indexAt 25 v1 (.int .i64 97)).run Try.prog W = .ok (.pointer (some a7)) W := i7
  have i8' : ∀ W, (Instr.indexAt 25 v0 (.int .i64 96)).run Try.prog W = .ok (.pointer (some a8)) W := i8
  have ib' : ∀ W, (Instr.indexAt 92 x2 (.int .i64 0)).run Try.prog W = .ok (.pointer (some ⟨b, o, none⟩)) W := ib
  have m8' : wa9.cell? a8 = some (.int .u64 0) := m8
  have k0' : wa9.cell? ⟨b, o, none⟩ = some (.int .i64 128) := k0
  have k1' : wa9.cell? ⟨b, o + 1, none⟩ = some (.int .i64 128) := k1
  clear i6 i7 i8 ib m8 h6 h7 h8 hs k0 k1
  have r1 := q1.out; have r2 := q2.out
  go_big_quiet (fail)
  go_wp2
  go_ret
  exact ⟨rfl, below_drewN B _⟩
end Go.Proofs.Ytodbbacmdjcheaa
