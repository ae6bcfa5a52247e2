/- Contracts of the functions that the laws 'R' reach, part 11. No condition. -/
import Derived.Test.YtodbbacmdjcheaaMRj
set_option linter.unusedVariables false
set_option linter.unusedSimpArgs false
namespace Go.Proofs.Ytodbbacmdjcheaa
open Go.RowKit L01 L02 L05 L06 L07 L13 L14 L15 L16 L18 L19
theorem free_snoc {L : List Hb} {b : Hb} : free (L ++ [b]) = free L ++ (if b.kind = 2 then [b] else []) := by
  rw [free_app]; congr 1
  unfold free
  by_cases h : b.kind = 2
  · rw [if_pos h, List.filter_cons_of_pos (by simpa using h)]; rfl
  · rw [if_neg h, List.filter_cons_of_neg (by simpa using h)]; rfl
set_option maxRecDepth 100000 in
set_option maxHeartbeats 1000000 in
theorem FreeW_any (v : Value) (l : List UInt64) (F : List Hb) (r : Int) (hF : F = freeL l) (hr : r = allErr l) (w : World) (h : Words w v l) :
    Calls Try.prog 35 #[v] w fun e w' => ∃ x, e = .returned (.tuple #[x, .int .i64 r]) ∧ OwnK w' w.heap.size x F ∧ Below w.heap.size w w' := by
  have B : Below w.heap.size w w := Below.refl _ _
  have H := Lib.hid h
  obtain ⟨L, hL⟩ : ∃ L, L = allL l := ⟨_, rfl⟩
  have WT := Lib.hid (fun w h => AllW_any v l L r hL hr w h)
  by_cases h0 : r = 0
  case neg =>
    have hF0 : F = [] := by rw [hF, freeL, allL, if_neg (by rw [← hr]; exact h0)]; rfl
    subst hF0
    have n1 : (r != 0) = true := by rw [bne_iff_ne]; exact h0
    clear hF hr h hL h0
    go_enter Try.func35, Try.ntmps35
    go_wp2_with fail
    refine (WT.out _ (H.out.below B)).mono ?_
    rintro e wa1 ⟨xl, rfl, ol, b⟩
    replace B := B.trans (b.mono B.size); clear b
    go_wp2
    go_ret2
    exact ⟨_, rfl, OwnK.nil _ _, B⟩
  case pos =>
    subst h0
    have hl9 : L.length ≤ 960 := by rw [hL]; exact all_len hr.symm
    have HF := Lib.hid (show F = free L by rw [hF, hL]; rfl)
    obtain ⟨N, hN⟩ : ∃ N, N = L.length := ⟨_, rfl⟩
    have HN := Lib.hid hN
    have hN9 : N ≤ 960 := by omega
    clear hF hr h hL hl9 hN
    go_enter Try.func35, Try.ntmps35
    go_wp2_with fail
    refine (WT.out _ (H.out.below B)).mono ?_
    rintro e wa1 ⟨xl, rfl, ol, b⟩
    replace B := B.trans (b.mono B.size); clear b
    have HO := Lib.hid ol.rd
    have lx := HO.out.len
    rw [← HN.out] at lx
    have hB1 := B.size
    have HB := Lib.hid (And.intro B hB1)
    have BB : Below wa1.heap.size wa1 wa1 := Below.refl _ _
    have HBB := Lib.hid BB
    clear ol B BB hB1
    go_wp2
    go_loopg [6, 19] N (fun g xv i wr => ∃ j : Nat, j ≤ N ∧ g = N - j ∧ i = .int .i64 j ∧ Hid (OwnK wr wa1.heap.size xv (free (L.take j)) ∧ Below wa1.heap.size wa1 wr))
    case atStart => exact ⟨0, by omega, by omega, rfl, Lib.hid ⟨by rw [List.take_zero]; exact OwnK.nil _ _, HBB.out⟩⟩
    case round =>
      obtain ⟨j, hj, rfl, rfl, hh⟩ := hrel
      clear HBB
      obtain ⟨o1, B⟩ := hh.out
      by_cases hlt : j < N
      · obtain ⟨bb, oo, b, ia, m0, m1, m2, m3, m4, m5, hb, _⟩ := (Blks.below HO.out B).at_ (k := j) (by rw [← HN.out]; exact hlt)
        have htk : L.take (j + 1) = L.take j ++ [b] := by rw [List.take_add_one, hb.out]; rfl
        have hsn := free_snoc (L := L.take j) (b := b)
        rw [← htk] at hsn
        have hB0 := B.size
        by_cases hk : b.kind = 2
        · rw [if_pos hk] at hsn
          have k1 : (b.kind == 2) = true := by rw [beq_iff_eq]; exact hk
          have HS := Lib.hid hsn
          have hol : (free (L.take j)).length ≤ j := Nat.le_trans (List.length_filter_le _ _) (by rw [List.length_take]; omega)
          clear hsn htk hk hb
          go_upto_region 8 with (fail)
          refine wp_gen (fun Wv => Bx Wv (wr.heap.size) (84) (#[.int .i64 b.at_, .int .i64 b.size, .int .i64 b.kind, .int .i64 b.ty, .bool b.mark, .int .u64 b.next.toNat]) ∧ Below wr.heap.size wr Wv) ⟨((Bx.at_ (by simp))), ((Below.refl _ wr).alloc (by simp <;> omega) _)⟩ ?_
          rintro wa2 ⟨g2, b⟩
          replace o1 := o1.below b; replace B := B.trans (b.mono B.size); clear b
          have c_g2 := g2.cell; have f_g2 := g2.free; have a_g2 := fun o => (g2.alloc o).cell; have d_g2 := fun o o2 => ((g2.alloc o).alloc o2).cell; have e_g2 := fun o => (g2.alloc o).free
          have hne := own_fresh o1
          go_wp2_with (at_builtin; refine wpList_append (by rfl) rfl rfl rfl Try.underlying92 info_block rfl (by omega) (by exact own_below o1 ((Below.refl _ _).alloc (Nat.le_refl _) _)) (by exact lit_block b (by simp)) (bkL_one b) (by omega) (by omega) (by exact B.alloc B.size _) (Nat.le_refl _) ?_; intro v1 w3 o3 B3 g3)
          have o4 : OwnK w3 wa1.heap.size v1 (free (L.take (j + 1))) := by rw [HS.out]; exact OwnK.of o3 (tabB_snoc _ b)
          have HZ := Lib.hid (And.intro o4 B3)
          go_roundg (N - (j + 1))
          case measure => omega
          case rel => exact ⟨j + 1, by omega, rfl, by go_num, HZ⟩
        · rw [if_neg hk, List.append_nil] at hsn
          have k1 : (b.kind == 2) = false := by rw [beq_eq_false_iff_ne]; exact hk
          have HS := Lib.hid hsn
          clear hsn htk hk hb
          go_upto_region 8 with (fail)
          refine wp_gen (fun Wv => Bx Wv (wr.heap.size) (84) (#[.int .i64 b.at_, .int .i64 b.size, .int .i64 b.kind, .int .i64 b.ty, .bool b.mark, .int .u64 b.next.toNat]) ∧ Below wr.heap.size wr Wv) ⟨((Bx.at_ (by simp))), ((Below.refl _ wr).alloc (by simp <;> omega) _)⟩ ?_
          rintro wa3 ⟨g2, b⟩
          replace o1 := o1.below b; replace B := B.trans (b.mono B.size); clear b
          have c_g2 := g2.cell; have f_g2 := g2.free; have a_g2 := fun o => (g2.alloc o).cell; have d_g2 := fun o o2 => ((g2.alloc o).alloc o2).cell; have e_g2 := fun o => (g2.alloc o).free
          have HZ := Lib.hid (And.intro o1 B)
          rw [← HS.out] at HZ
          go_wp2
          go_roundg (N - (j + 1))
          case measure => omega
          case rel => exact ⟨j + 1, by omega, rfl, by go_num, HZ⟩
      · obtain rfl : j = N := by omega
        have e : free (L.take j) = F := by rw [HF.out, HN.out, List.take_length]
        rw [e] at o1
        clear e
        obtain ⟨B0, hB1⟩ := HB.out
        have HBZ := Lib.hid (And.intro (o1.mono hB1) (B0.trans (B.mono hB1)))
        clear o1 B B0
        go_wp2
        go_ret2
        exact ⟨_, rfl, HBZ.out⟩
def anyU (S : List Sl) : Bool := S.any (·.used)
theorem closE_any (s : Sl) (w : World) : Calls Try.prog 41 #[.agg #[.int .i64 s.gen, .bool s.used, .int .i64 s.at_]] w fun e w' => e = .returned (.bool s.used) ∧ Below w.heap.size w w' := by
  have B : Below w.heap.size w w := Below.refl _ _
  obtain ⟨sg, su, sa⟩ := s
  dsimp only
  go_enter Try.func41, Try.ntmps41
  go_wp2
  go_ret
  refine ⟨rfl, ?_⟩
  (repeat (first | refine Below.setCell ?_ (by first | exact Nat.le_refl _ | (simp <;> omega)) _ | refine Below.alloc ?_ (by first | exact B.size | (have := B.size; simp <;> omega)) _)); exact B
set_option maxRecDepth 100000 in
set_option maxHeartbeats 1000000 in
theorem idxFun_any (v : Value) (S : List Sl) (w : World) (h : Slots w v S) (hl : S.length ≤ 1000000) :
    Calls Try.prog 71 #[v, .func (.func 41) #[] #[]] w fun e w' => ∃ r : Int, e = .returned (.int .i64 r) ∧ (r = -1 ∧ anyU S = false ∨ 0 ≤ r ∧ anyU S = true) ∧ Below w.heap.size w w' := by
  have B : Below w.heap.size w w := Below.refl _ _
  have H := Lib.hid h
  have lx := Rd.len h Try.underlying48
  obtain ⟨N, hN⟩ : ∃ N, N = S.length := ⟨_, rfl⟩
  rw [← hN] at lx hl
  have HN := Lib.hid hN
  have CL := Lib.hid closE_any
  have HB := Lib.hid B
  clear h hN B
  go_enter Try.func71, Try.ntmps71
  go_wp2
  go_loopg [8] N (fun g i wr => ∃ j : Nat, j ≤ N ∧ g = N - j ∧ i = .int .i64 j ∧ Hid (Below w.heap.size w wr ∧ ∀ i s, i < j → S[i]? = some s → s.used = false))
  case atStart => exact ⟨0, by omega, by omega, rfl, Lib.hid ⟨HB.out, fun i s hi => by omega⟩⟩
  case round =>
    obtain ⟨j, hj, rfl, rfl, hh⟩ := hrel
    clear HB
    obtain ⟨B, hz⟩ := hh.out
    have HZ := Lib.hid hz
    clear hz
    by_cases hlt : j < N
    · obtain ⟨bb, oo, s, it, m0, m1, m2, hs⟩ := (Slots.below H.out B).at_ (P := Try.prog) Try.underlying48 size_slot (k := j) (by rw [← HN.out]; exact hlt)
      obtain ⟨q, hq⟩ : ∃ q, q = s.used := ⟨_, rfl⟩
      have CL2 : Hid (∀ W, Calls Try.prog 41 #[.agg #[.int .i64 s.gen, .bool s.used, .int .i64 s.at_]] W fun e w' => e = .returned (.bool q) ∧ Below W.heap.size W w') := by rw [hq]; exact Lib.hid (CL.out s)
      have HS := Lib.hid (show S[j]? = some s ∧ q = s.used from ⟨hs.out, hq⟩)
      clear hs hq
      cases q
      · have HZ2 : Hid (∀ i s, i < j + 1 → S[i]? = some s → s.used = false) := Lib.hid (fun i s' hi hs' => by
          by_cases e : i = j
          · subst e; rw [HS.out.1] at hs'; injection hs' with hs'; subst hs'; exact HS.out.2.symm
          · exact HZ.out i s' (by omega) hs')
        go_wp2_with fail
        refine (CL2.out _).mono ?_
        rintro e w2 ⟨rfl, b⟩
        replace B := B.trans (b.mono B.size)
        have HB2 := Lib.hid (And.intro B HZ2.out)
        clear b B
        go_wp2
        go_roundg (N - (j + 1))
        case measure => omega
        case rel => exact ⟨j + 1, by omega, rfl, by go_num, HB2⟩
      · have hany : anyU S = true := by
          unfold anyU
          rw [List.any_eq_true]
          exact ⟨s, List.mem_of_getElem? HS.out.1, HS.out.2.symm⟩
        have HA := Lib.hid hany
        clear hany
        go_wp2_with fail
        refine (CL2.out _).mono ?_
        rintro e w2 ⟨rfl, b⟩
        replace B := B.trans (b.mono B.size)
        clear b
        go_wp2
        go_ret
        exact ⟨_, rfl, .inr ⟨by omega, HA.out⟩, B⟩
    · obtain rfl : j = N := by omega
      have hany : anyU S = false := by
        unfold anyU
        rw [List.any_eq_false]
        intro s hs
        obtain ⟨i, hi⟩ := List.getElem?_of_mem hs
        have := HZ.out i s (by have := (List.getElem?_eq_some_iff.1 hi).1; rw [HN.out]; exact this) hi
        rw [this]; decide
      have HA := Lib.hid hany
      clear hany
      go_wp2
      go_ret
      exact ⟨_, rfl, .inl ⟨rfl, HA.out⟩, B⟩
set_option maxRecDepth 100000 in
theorem anyFun_any (v : Value) (S : List Sl) (c : Bool) (hc : c = anyU S) (w : World) (h : Slots w v S) (hl : S.length ≤ 1000000) :
    Calls Try.prog 40 #[v, .func (.func 41) #[] #[]] w fun e w' => e = .returned (.bool c) ∧ Below w.heap.size w w' := by
  have IX := Lib.hid (idxFun_any v S w h hl)
  have HC := Lib.hid hc
  clear hc h
  go_enter Try.func40, Try.ntmps40
  go_wp2_with fail
  refine IX.out.mono ?_
  rintro e w2 ⟨r, rfl, hr, b⟩
  have HR := Lib.hid hr
  clear hr
  go_wp2
  go_ret
  refine ⟨ret_bool ?_, b⟩
  rw [HC.out]
  rcases HR.out with ⟨h1, h2⟩ | ⟨h1, h2⟩ <;> rw [h2] <;> simp <;> omega
end Go.Proofs.Ytodbbacmdjcheaa
namespace Go.Proofs.Ytodbbacmdjcheaa
open Go.RowKit L02 L05 L06 L07 L13 L14 L15 L16 L19 L73 L75
theorem lit_typs1 {w : World} {t : List UInt8} {x : Value} {n : Nat} (hn : w.heap.size = n) (hx : Byts w x t) : Typs (w.alloc (.cells #[x] 69)) (.slice (some ⟨n, 0, none⟩) 1 1) [t] := by
  subst hn
  have hb : Below w.heap.size w (w.alloc (.cells #[x] 69)) := (Below.refl _ _).alloc (Nat.le_refl _) _
  refine ⟨[x], rfl, lit_rdN (n := 1) rfl (by omega), fun i y l h1 h2 => ?_⟩
  rcases i with _ | i
  · simp at h1 h2; subst h1; subst h2; exact Byts.below hx hb
  · simp at h1
theorem ref36_any (w : World) : Calls Try.prog 25 #[] w fun e w' => ∃ x, e = .returned x ∧ Typs w' x [[3]] ∧ Below w.heap.size w w' := by
  go_enter Try.func25, Try.ntmps25
  go_wp2
  go_ret
  have hb : Byts (w.alloc (.cells #[.int .u8 3] 5)) (.slice (some ⟨w.heap.size, 0, none⟩) 1 1) [3] := lit_byts [3] rfl rfl rfl (by simp)
  exact ⟨_, rfl, lit_typs1 (by simp) hb, ((Below.refl _ w).alloc (Nat.le_refl _) _).alloc (by simp) _⟩
theorem sup36_eql (a b c d : Int) (r : Bool) (hr : r = (a == c && b == d)) (W : World) : (binOp .eql 80 (.agg #[.int .i64 a, .int .i64 b]) (.agg #[.int .i64 c, .int .i64 d])).run Try.prog W = .ok (.bool r) W := by
  subst hr
  cases h : (a == c) <;> cases h2 : (b == d) <;> simp [go_sem, h, h2]
theorem bb36_items (a b c d : Bool) (W : World) : (Op.eqItems 9999 4 1 #[.bool a, .bool b] #[.bool c, .bool d] (List.range 2)).run Try.prog W = .ok (a == c && b == d) W := by
  cases a <;> cases b <;> cases c <;> cases d <;> kernel_rfl
theorem bb36_eql (a b c d : Bool) (r : Bool) (hr : r = (a == c && b == d)) (W : World) : (binOp .eql 95 (.agg #[.bool a, .bool b]) (.agg #[.bool c, .bool d])).run Try.prog W = .ok (.bool r) W := by
  subst hr
  obtain ⟨i, hi⟩ := Option.isSome_iff_exists.1 (show (Try.prog.info? 4).isSome = true by kernel_rfl)
  rw [run_eql_struct, run_equalIn_array (w := W) 9999 _ _ Try.underlying95 hi, show Try.prog.cellsOf 4 = 1 from by kernel_rfl, bb36_items]
  rfl
set_option maxRecDepth 100000 in
set_option maxHeartbeats 4000000 in
theorem alive36_any (w : World) : Calls Try.prog 17 #[] w fun e w' => e = .returned (.bool true) ∧ Below w.heap.size w w' := by
  have B : Below w.heap.size w w := Below.refl _ _
  obtain ⟨l0, hl0⟩ : ∃ l, l = imageP 256 [] := ⟨_, rfl⟩
  obtain ⟨l1, hl1⟩ : ∃ l, l = imageP 256 [[3]] := ⟨_, rfl⟩
  obtain ⟨f1, f2, f3⟩ := im0_all
  obtain ⟨t1, t2, t3, t4, t5, t6, t7⟩ := im1_tw
  rw [← hl0] at f1 f2 f3; rw [← hl1] at t1 t2 t3 t4 t5 t6 t7
  have n0 : l0.length = 256 := by rw [hl0, imageP_len]
  have n1 : l1.length = 256 := by rw [hl1, imageP_len]
  obtain ⟨a, ha⟩ : ∃ a, a = w0 [3] := ⟨_, rfl⟩
  obtain ⟨c, hc⟩ : ∃ a, a = L13.w1 [3] := ⟨_, rfl⟩
  rw [← ha] at t6; rw [← hc] at t7
  have I0 := Lib.hid (fun w => (show Calls Try.prog 10 #[.int .i64 256, .slice none 0 0] w (RetWE w l0 0) from by
    have := Image_any 256 (.slice none 0 0) [] w ⟨[], rfl, Rd.nil _ _, fun i x l h => by simp at h⟩
    rw [show imgErr 256 [] = 0 by decide, show imgP 256 [] = l0 from by rw [hl0]; rfl] at this; exact this))
  have I1 := Lib.hid (fun v w h => (show Calls Try.prog 10 #[.int .i64 256, v] w (RetWE w l1 0) from by
    have := Image_any 256 v [[3]] w h
    rw [show imgErr 256 [[3]] = 0 by decide, show imgP 256 [[3]] = l1 from by rw [hl1]; rfl] at this; exact this))
  have KT := Lib.hid (fun v w h => KWrite_any v [3] a c 0 ha hc (by decide) w h)
  have FT := Lib.hid (fun v w h => FreeW_any v l0 [⟨128, 128, 2, 0, false, 0⟩] 0 f2.symm f1.symm w h)
  have TT := Lib.hid (fun v w h => TRead_any v l1 256 1 true true 0 t2.symm t3.symm t4.symm t5.symm t1.symm w h)
  have RT := Lib.hid ref36_any
  have HF := Lib.hid f3; have H6 := Lib.hid t6; have H7 := Lib.hid t7; have N0 := Lib.hid n0; have N1 := Lib.hid n1
  have q1 := Lib.hid (sup36_eql 256 1 256 1 true (by simp)); have q2 := Lib.hid (bb36_eql true true true true true (by simp))
  clear hl0 hl1 f1 f2 f3 t1 t2 t3 t4 t5 t6 t7 n0 n1 ha hc
  go_enter Try.func17, Try.ntmps17
  go_wp2_with fail
  refine (I0.out _).mono ?_
  rintro e wa1 ⟨v0, rfl, o0, b⟩
  replace B := B.trans (b.mono B.size); clear b
  have p0 := o0.rd
  clear o0
  go_wp2_with fail
  refine (RT.out _).mono ?_
  rintro e wa2 ⟨r0, rfl, y0, b⟩
  replace p0 := p0.below b; replace B := B.trans (b.mono B.size); clear b
  go_wp2_with fail
  refine (I1.out _ _ y0).mono ?_
  rintro e wa3 ⟨v1, rfl, o1, b⟩
  replace p0 := p0.below b; replace B := B.trans (b.mono B.size); clear b
  have p1 := o1.rd
  clear o1 y0
  go_wp2_with fail
  refine (RT.out _).mono ?_
  rintro e wa4 ⟨r1, rfl, y1, b⟩
  replace p0 := p0.below b; replace p1 := p1.below b; replace B := B.trans (b.mono B.size); clear b
  obtain ⟨ad, x, tl, hix, hcx, htl, hbx⟩ := y1.at_ (k := 0) (by simp)
  obtain rfl : tl = [3] := by have := htl.out; simpa using this.symm
  have hix' : ∀ W, (Instr.indexAt 22 r1 (.int .i64 0)).run Try.prog W = .ok (.pointer (some ad)) W := hix
  have one := hbx.out.oneCell
  clear hix
  go_wp2_with fail
  refine (KT.out _ _ hbx.out).mono ?_
  rintro e wa5 ⟨rfl, b⟩
  replace p0 := p0.below b; replace p1 := p1.below b; replace B := B.trans (b.mono B.size); clear b
  clear hbx hcx hix' one y1 htl
  go_upto_region 4 with (fail)
  refine wp_gen (fun Wv => Bx Wv (wa5.heap.size) (76) (#[.int .u64 a.toNat, .int .u64 c.toNat]) ∧ Below wa5.heap.size wa5 Wv) ⟨((Bx.at_ (by simp))), ((Below.refl _ wa5).alloc (by simp <;> omega) _)⟩ ?_
  rintro wa6 ⟨g5, b⟩
  replace p0 := p0.below b; replace p1 := p1.below b; replace B := B.trans (b.mono B.size); clear b
  have c_g5 := g5.cell; have f_g5 := g5.free; have a_g5 := fun o => (g5.alloc o).cell; have d_g5 := fun o o2 => ((g5.alloc o).alloc o2).cell; have e_g5 := fun o => (g5.alloc o).free
  go_wp2_with fail
  refine (FT.out _ _ p0).mono ?_
  rintro e wa7 ⟨x2, rfl, o2, b⟩
  replace p0 := p0.below b; replace p1 := p1.below b; try clear c_g5 f_g5 a_g5 d_g5 e_g5
  replace g5 := g5.below b; have c_g5 := g5.cell; have f_g5 := g5.free; have a_g5 := fun o => (g5.alloc o).cell; have d_g5 := fun o o2 => ((g5.alloc o).alloc o2).cell; have e_g5 := fun o => (g5.alloc o).free; replace B := B.trans (b.mono B.size); clear b
  have p2 := o2.rd
  clear o2
  have e0 := Rd.len p0 Try.underlying25; have e1 := Rd.len p1 Try.underlying25; have e2 := Rd.len p2 Try.underlying92
  rw [N0.out] at e0; rw [N1.out] at e1
  have e0' : ∀ ty W, (Builtin.len_ #[25] ty #[v0]).run Try.prog W = .ok (.int .i64 256) W := e0
  have e1' : ∀ ty W, (Builtin.len_ #[25] ty #[v1]).run Try.prog W = .ok (.int .i64 256) W := e1
  have e2' : ∀ ty W, (Builtin.len_ #[92] ty #[x2]).run Try.prog W = .ok (.int .i64 1) W := e2
  clear e0 e1 e2
  go_wp2_with fail
  refine (TT.out _ _ p1).mono ?_
  rintro e wa8 ⟨rfl, b⟩
  replace p0 := p0.below b; replace p1 := p1.below b; replace p2 := p2.below b; try clear c_g5 f_g5 a_g5 d_g5 e_g5
  replace g5 := g5.below b; have c_g5 := g5.cell; have f_g5 := g5.free; have a_g5 := fun o => (g5.alloc o).cell; have d_g5 := fun o o2 => ((g5.alloc o).alloc o2).cell; have e_g5 := fun o => (g5.alloc o).free; replace B := B.trans (b.mono B.size); clear b
  go_upto_region 8 with (fail)
  refine wp_gen (fun Wv => Bx Wv (wa8.heap.size) (80) (#[.int .i64 256, .int .i64 1]) ∧ Bx Wv (wa8.heap.size + 1) (95) (#[.bool true, .bool true]) ∧ Below wa8.heap.size wa8 Wv) ⟨(((Bx.at_ (by simp)).alloc _)), ((Bx.at_ (by simp))), (((Below.refl _ wa8).alloc (by simp <;> omega) _).alloc (by simp <;> omega) _)⟩ ?_
  rintro wa9 ⟨g9, g10, b⟩
  replace p0 := p0.below b; replace p1 := p1.below b; replace p2 := p2.below b; try clear c_g5 f_g5 a_g5 d_g5 e_g5
  replace g5 := g5.below b; have c_g5 := g5.cell; have f_g5 := g5.free; have a_g5 := fun o => (g5.alloc o).cell; have d_g5 := fun o o2 => ((g5.alloc o).alloc o2).cell; have e_g5 := fun o => (g5.alloc o).free; replace B := B.trans (b.mono B.size); clear b
  have c_g9 := g9.cell; have f_g9 := g9.free; have a_g9 := fun o => (g9.alloc o).cell; have d_g9 := fun o o2 => ((g9.alloc o).alloc o2).cell; have e_g9 := fun o => (g9.alloc o).free
  have c_g10 := g10.cell; have f_g10 := g10.free; have a_g10 := fun o => (g10.alloc o).cell; have d_g10 := fun o o2 => ((g10.alloc o).alloc o2).cell; have e_g10 := fun o => (g10.alloc o).free
  obtain ⟨a6, z6, i6, m6, h6⟩ := Words.at_ (P := Try.prog) p1 Try.underlying25 one_u64 (k := 96) (by rw [N1.out]; omega)
  obtain ⟨a7, z7, i7, m7, h7⟩ := Words.at_ (P := Try.prog) p1 Try.underlying25 one_u64 (k := 97) (by rw [N1.out]; omega)
  obtain ⟨a8, z8, i8, m8, h8⟩ := Words.at_ (P := Try.prog) p0 Try.underlying25 one_u64 (k := 96) (by rw [N0.out]; omega)
  obtain ⟨b, o, s, ib, k0, k1, -, -, -, -, hs, -⟩ := p2.at_ (k := 0) (by simp)
  obtain rfl : z6 = a := by have := h6.out; rw [H6.out] at this; injection this with this; exact this.symm
  obtain rfl : z7 = c := by have := h7.out; rw [H7.out] at this; injection this with this; exact this.symm
  obtain rfl : z8 = 0 := by have := h8.out; rw [HF.out] at this; injection this with this; exact this.symm
  obtain rfl : s = ⟨128, 128, 2, 0, false, 0⟩ := by have := hs.out; simpa using this.symm
  have i6' : ∀ W, (Instr.indexAt 25 v1 (.int .i64 96)).run Try.prog W = .ok (.pointer (some a6)) W := i6
  have i7' : ∀ W, (Instr.indexAt 25 v1 (.int .i64 97)).run Try.prog W = .ok (.pointer (some a7)) W := i7
  have i8' : ∀ W, (Instr.indexAt 25 v0 (.int .i64 96)).run Try.prog W = .ok (.pointer (some a8)) W := i8
  have ib' : ∀ W, (Instr.indexAt 92 x2 (.int .i64 0)).run Try.prog W = .ok (.pointer (some ⟨b, o, none⟩)) W := ib
  have m8' : wa9.cell? a8 = some (.int .u64 0) := m8
  have k0' : wa9.cell? ⟨b, o, none⟩ = some (.int .i64 128) := k0
  have k1' : wa9.cell? ⟨b, o + 1, none⟩ = some (.int .i64 128) := k1
  clear i6 i7 i8 ib m8 h6 h7 h8 hs k0 k1
  have r1 := q1.out; have r2 := q2.out
  go_big_quiet (fail)
  go_wp2
  go_ret
  exact ⟨rfl, below_drewN B _⟩
end Go.Proofs.Ytodbbacmdjcheaa
namespace Go.Proofs.Ytodbbacmdjcheaa
open Go.RowKit L02 L05 L06 L07 L13 L14 L15 L16 L19 L73 L75
theorem errT_all : ∀ {T : List (List UInt8)}, errT T = 0 → ∀ t ∈ T, kErr t = 0
  | [], _, t, h => by simp at h
  | x :: T, h, t, ht => by
    rw [errT] at h
    by_cases h0 : kErr x = 0
    · rw [if_pos h0] at h
      rcases List.mem_cons.1 ht with rfl | ht
      · exact h0
      · exact errT_all h t ht
    · rw [if_neg h0] at h; exact absurd h h0
/-- no error: the words are right, the types few and right -/
theorem imgErr_ok {n : Int} {T : List (List UInt8)} (h : imgErr n T = 0) : ∃ N : Nat, n = N ∧ SizeOk (N : Int) ∧ T.length ≤ 8 ∧ (∀ t ∈ T, kErr t = 0) ∧ imgP n T = imageP N T := by
  have h0 := h
  rw [imgErr] at h
  by_cases hs : ¬ SizeOk n
  · rw [if_pos hs] at h; cases h
  · rw [if_neg hs] at h
    by_cases h8 : 8 < T.length
    · rw [if_pos h8] at h; cases h
    · rw [if_neg h8] at h
      have hs' := Decidable.not_not.1 hs
      obtain ⟨N, rfl⟩ := Int.eq_ofNat_of_zero_le (show 0 ≤ n by have := hs'.1; omega)
      exact ⟨N, rfl, hs', by omega, errT_all h, by rw [imgP, if_pos h0]; rfl⟩
end Go.Proofs.Ytodbbacmdjcheaa
namespace Go.Proofs.Ytodbbacmdjcheaa
open Go.RowKit L02
theorem OwnI.push {w : World} {B E n : Nat} {v : Value} {l : List Int} {x : Int} {xs : List Value} (h : w.ownsRow B E 1 v n (xs ++ [Value.int .i64 x])) (hx : xs = l.map i64) : OwnI w B E v (l ++ [x]) :=
  OwnI.of h (by subst hx; simp [i64])
end Go.Proofs.Ytodbbacmdjcheaa
namespace Go.Proofs.Ytodbbacmdjcheaa
open Go.RowKit L02 L05 L06 L07
theorem Clone_any (v : Value) (l : List UInt64) (w : World) (h : Words w v l) (h0 : 0 < l.length) (hl : l.length ≤ 1048576) : Calls Try.prog 44 #[v] w (RetW w l) := by
  obtain ⟨b, o, c, rfl, _⟩ := Rd.form h h0
  have nn : ∀ W, (binOp .eql 25 (.slice (some ⟨b, o, none⟩) l.length c) (.slice none 0 0)).run Try.prog W = .ok (.bool false) W := fun W => Lib.run_eql_slice_nil W 25 64 _ _ _ _ _ Try.underlying25
  have H := Lib.hid h; clear h
  go_enter Try.func44, Try.ntmps44
  go_wp2_with (at_builtin
               refine wpList_append (by rfl) rfl rfl rfl Try.underlying25 info_u64 rfl (by omega) (lit0_own (Nat.le_refl _)) (by exact H.out.alloc _) (one_u64s _) (by omega) (by omega) ((Below.refl _ w).alloc (Nat.le_refl _) _) (Nat.le_refl _) ?_
               intro v1 w1 hown hbel hv)
  go_ret
  exact ⟨v1, rfl, OwnW.of hown (by simp), hbel⟩
end Go.Proofs.Ytodbbacmdjcheaa
namespace Go.Proofs.Ytodbbacmdjcheaa
open Go.RowKit L02 L05 L06 L13 L14 L19 L73
def RetD (w : World) (l : List UInt64) (e : Ending) (w' : World) : Prop := ∃ v, e = .returned (.tuple #[.agg #[v, .slice none 0 0, .int .i64 (-1), .bool false], .int .i64 0]) ∧ OwnW w' w.heap.size 64 v l ∧ Below w.heap.size w w'
set_option maxRecDepth 100000 in
set_option maxHeartbeats 2000000 in
theorem NewC_any (v : Value) (l : List UInt64) (hs : SizeOk l.length) (w : World) (h : Words w v l) : Calls Try.prog 32 #[v] w (RetD w l) := by
  have B : Below w.heap.size w w := Below.refl _ _
  have CT := Lib.hid (fun w h => (show Calls Try.prog 63 #[v] w (fun e w' => e = .returned (.int .i64 0) ∧ w = w') from by have := Check_any v l w h; rw [chk_ok hs] at this; exact this))
  have H := Lib.hid h; clear h
  go_enter Try.func32, Try.ntmps32
  go_upto_region 1 with (fail)
  refine wp_gen (fun Wv => Bx Wv (w.heap.size) (33) (#[.slice none 0 0, .slice none 0 0, .int .i64 0, .bool false]) ∧ Below w.heap.size w Wv) ⟨((Bx.at_ (by simp))), ((Below.refl _ w).alloc (by simp <;> omega) _)⟩ ?_
  rintro wa1 ⟨g2, b⟩
  replace B := B.trans (b.mono B.size); clear b
  have c_g2 := g2.cell; have f_g2 := g2.free; have a_g2 := fun o => (g2.alloc o).cell; have d_g2 := fun o o2 => ((g2.alloc o).alloc o2).cell; have e_g2 := fun o => (g2.alloc o).free
  go_wp2_with fail
  refine (CT.out _ (H.out.below B)).mono ?_
  rintro e w2 ⟨rfl, rfl⟩
  have CL := Lib.hid (fun w h => Clone_any v l w h (by have := hs.1; omega) (by have := hs.2.1; omega))
  clear hs
  have hg2 := g2.lt
  have hb1 := B.size
  go_wp2_with fail
  refine (CL.out _ (H.out.below B)).mono ?_
  rintro e wa2 ⟨y, rfl, o, b⟩
  try clear c_g2 f_g2 a_g2 d_g2 e_g2
  replace g2 := g2.below b; have c_g2 := g2.cell; have f_g2 := g2.free; have a_g2 := fun o => (g2.alloc o).cell; have d_g2 := fun o o2 => ((g2.alloc o).alloc o2).cell; have e_g2 := fun o => (g2.alloc o).free; replace B := B.trans (b.mono B.size); clear b
  obtain ⟨A0, n0, c0, rfl⟩ := own_one94 o
  have HO := Lib.hid (And.intro hg2 (And.intro hb1 o)); clear hg2 hb1 o
  go_wp2
  refine bodyPost_ret (v := .tuple #[.agg #[.slice A0 n0 c0, .slice none 0 0, .int .i64 (-1), .bool false], .int .i64 0]) (by simp [results, Try.results32, go_sem, c_g2, f_g2, a_g2, e_g2]) rfl ?_
  obtain ⟨hg2, hb1, o⟩ := HO.out
  refine ⟨_, rfl, own_mono (B := wa1.heap.size) ?_ hb1, ?_⟩
  · repeat refine ownsRow_setCell_below ?_ (by exact hg2) _
    exact o
  (repeat (first | refine Below.setCell ?_ (by first | exact Nat.le_refl _ | (simp <;> omega)) _ | refine Below.alloc ?_ (by first | exact B.size | (have := B.size; simp <;> omega)) _)); exact B
set_option maxRecDepth 100000 in
set_option maxHeartbeats 2000000 in
/-- format.Device, of right words and types -/
theorem Device_ok (n : Int) (tv : Value) (T : List (List UInt8)) (l : List UInt64) (h0 : imgErr n T = 0) (hl : l = imgP n T) (hs : SizeOk l.length) (w : World) (h : Typs w tv T) : Calls Try.prog 12 #[.int .i64 n, tv] w (RetD w l) := by
  have B : Below w.heap.size w w := Below.refl _ _
  have IT := Lib.hid (fun w h => (show Calls Try.prog 10 #[.int .i64 n, tv] w (RetWE w l 0) from by have := Image_any n tv T w h; rw [h0, ← hl] at this; exact this))
  have NT := Lib.hid (fun v w h => NewC_any v l hs w h)
  have H := Lib.hid h; clear h h0 hl hs
  go_enter Try.func12, Try.ntmps12
  go_upto_region 1 with (fail)
  refine wp_gen (fun Wv => Bx Wv (w.heap.size) (33) (#[.slice none 0 0, .slice none 0 0, .int .i64 0, .bool false]) ∧ Below w.heap.size w Wv) ⟨((Bx.at_ (by simp))), ((Below.refl _ w).alloc (by simp <;> omega) _)⟩ ?_
  rintro wa1 ⟨g2, b⟩
  replace B := B.trans (b.mono B.size); clear b
  have c_g2 := g2.cell; have f_g2 := g2.free; have a_g2 := fun o => (g2.alloc o).cell; have d_g2 := fun o o2 => ((g2.alloc o).alloc o2).cell; have e_g2 := fun o => (g2.alloc o).free
  go_wp2_with fail
  refine (IT.out _ (H.out.below B)).mono ?_
  rintro e wa2 ⟨v, rfl, o, b⟩
  try clear c_g2 f_g2 a_g2 d_g2 e_g2
  replace g2 := g2.below b; have c_g2 := g2.cell; have f_g2 := g2.free; have a_g2 := fun o => (g2.alloc o).cell; have d_g2 := fun o o2 => ((g2.alloc o).alloc o2).cell; have e_g2 := fun o => (g2.alloc o).free; replace B := B.trans (b.mono B.size); clear b
  have p := o.rd
  clear o
  have hg2 := g2.lt
  have hb1 := B.size
  have HB1 := Lib.hid (And.intro hg2 hb1); clear hg2 hb1
  go_wp2_with fail
  refine (NT.out _ _ p).mono ?_
  rintro e wa3 ⟨y, rfl, o, b⟩
  try clear c_g2 f_g2 a_g2 d_g2 e_g2
  replace g2 := g2.below b; have c_g2 := g2.cell; have f_g2 := g2.free; have a_g2 := fun o => (g2.alloc o).cell; have d_g2 := fun o o2 => ((g2.alloc o).alloc o2).cell; have e_g2 := fun o => (g2.alloc o).free; replace B := B.trans (b.mono B.size); clear b
  obtain ⟨A0, n0, c0, rfl⟩ := own_one94 o
  have HO := Lib.hid o; clear o p
  go_wp2
  refine bodyPost_ret (v := .tuple #[.agg #[.slice A0 n0 c0, .slice none 0 0, .int .i64 (-1), .bool false], .int .i64 0]) (by simp [results, Try.results12, go_sem, c_g2, f_g2, a_g2, e_g2]) rfl ?_
  refine ⟨_, rfl, own_mono (B := wa2.heap.size) ?_ HB1.out.2, ?_⟩
  · have hg2 := HB1.out.1
    repeat refine ownsRow_setCell_below ?_ (by exact hg2) _
    exact HO.out
  (repeat (first | refine Below.setCell ?_ (by first | exact Nat.le_refl _ | (simp <;> omega)) _ | refine Below.alloc ?_ (by first | exact B.size | (have := B.size; simp <;> omega)) _)); exact B
end Go.Proofs.Ytodbbacmdjcheaa
namespace Go.Proofs.Ytodbbacmdjcheaa
open Go.RowKit L02 L05 L06 L13 L14 L19 L73
set_option maxRecDepth 100000 in
set_option maxHeartbeats 2000000 in
theorem CheckC_any (v : Value) (l : List UInt64) (hs : SizeOk l.length) (w : World) (h : Words w v l) : Calls Try.prog 45 #[.agg #[v, .slice none 0 0, .int .i64 (-1), .bool false]] w fun e w' => e = .returned (.int .i64 0) ∧ Below w.heap.size w w' := by
  have B : Below w.heap.size w w := Below.refl _ _
  obtain ⟨A, c, rfl, _⟩ := id h
  have CT := Lib.hid (fun w h => (show Calls Try.prog 63 #[.slice A l.length c] w (fun e w' => e = .returned (.int .i64 0) ∧ w = w') from by have := Check_any (.slice A l.length c) l w h; rw [chk_ok hs] at this; exact this))
  obtain ⟨n, hn⟩ : ∃ n, n = l.length := ⟨_, rfl⟩
  rw [← hn] at h CT ⊢
  have H := Lib.hid h; clear h hs hn
  go_enter Try.func45, Try.ntmps45
  go_upto_region 1 with (fail)
  refine wp_gen (fun Wv => Bx Wv (w.heap.size) (33) (#[.slice A n c, .slice none 0 0, .int .i64 (-1), .bool false]) ∧ Below w.heap.size w Wv) ⟨((Bx.at_ (by simp))), ((Below.refl _ w).alloc (by simp <;> omega) _)⟩ ?_
  rintro wa1 ⟨g1, b⟩
  replace B := B.trans (b.mono B.size); clear b
  have c_g1 := g1.cell; have f_g1 := g1.free; have a_g1 := fun o => (g1.alloc o).cell; have d_g1 := fun o o2 => ((g1.alloc o).alloc o2).cell; have e_g1 := fun o => (g1.alloc o).free
  go_wp2_with fail
  refine (CT.out _ (H.out.below B)).mono ?_
  rintro e w2 ⟨rfl, rfl⟩
  go_wp2
  have HB := Lib.hid B
  go_loopw [33] (fun i wr => i = .int .i64 0 ∧ Hid (wr = wa1)) (fun _ _ => 0)
  case atStart => exact ⟨rfl, Lib.hid rfl⟩
  case round =>
    obtain ⟨rfl, hw⟩ := hrel
    obtain rfl : wr = wa1 := hw.out
    go_wp2
    go_ret
    exact ⟨rfl, HB.out⟩
set_option maxRecDepth 100000 in
set_option maxHeartbeats 2000000 in
theorem ViewC_any (v : Value) (l : List UInt64) (hs : SizeOk l.length) (w : World) (h : Words w v l) : Calls Try.prog 21 #[.agg #[v, .slice none 0 0, .int .i64 (-1), .bool false]] w (RetWE w l 0) := by
  have B : Below w.heap.size w w := Below.refl _ _
  have KT := Lib.hid (fun v w h => CheckC_any v l hs w h)
  have CL := Lib.hid (fun v w h => Clone_any v l w h (by have := hs.1; omega) (by have := hs.2.1; omega))
  obtain ⟨A, c, rfl, _⟩ := id h
  obtain ⟨n, hn⟩ : ∃ n, n = l.length := ⟨_, rfl⟩
  rw [← hn] at h ⊢
  have H := Lib.hid h; clear h hs hn
  go_enter Try.func21, Try.ntmps21
  go_upto_region 1 with (fail)
  refine wp_gen (fun Wv => Bx Wv (w.heap.size) (33) (#[.slice A n c, .slice none 0 0, .int .i64 (-1), .bool false]) ∧ Below w.heap.size w Wv) ⟨((Bx.at_ (by simp))), ((Below.refl _ w).alloc (by simp <;> omega) _)⟩ ?_
  rintro wa1 ⟨g1, b⟩
  replace B := B.trans (b.mono B.size); clear b
  have c_g1 := g1.cell; have f_g1 := g1.free; have a_g1 := fun o => (g1.alloc o).cell; have d_g1 := fun o o2 => ((g1.alloc o).alloc o2).cell; have e_g1 := fun o => (g1.alloc o).free
  go_wp2_with fail
  refine (KT.out _ _ (H.out.below B)).mono ?_
  rintro e wa2 ⟨rfl, b⟩
  try clear c_g1 f_g1 a_g1 d_g1 e_g1
  replace g1 := g1.below b; have c_g1 := g1.cell; have f_g1 := g1.free; have a_g1 := fun o => (g1.alloc o).cell; have d_g1 := fun o o2 => ((g1.alloc o).alloc o2).cell; have e_g1 := fun o => (g1.alloc o).free; replace B := B.trans (b.mono B.size); clear b
  have hb1 := Lib.hid B.size
  go_wp2_with fail
  refine (CL.out _ _ (H.out.below B)).mono ?_
  rintro e wa3 ⟨y, rfl, o, b⟩
  try clear c_g1 f_g1 a_g1 d_g1 e_g1
  replace g1 := g1.below b; have c_g1 := g1.cell; have f_g1 := g1.free; have a_g1 := fun o => (g1.alloc o).cell; have d_g1 := fun o o2 => ((g1.alloc o).alloc o2).cell; have e_g1 := fun o => (g1.alloc o).free; replace B := B.trans (b.mono B.size); clear b
  have HO := Lib.hid (own_mono o hb1.out); clear o
  have HB := Lib.hid B
  go_wp2
  go_loopw [19] (fun i wr => i = .int .i64 0 ∧ Hid (wr = wa3)) (fun _ _ => 0)
  case atStart => exact ⟨rfl, Lib.hid rfl⟩
  case round =>
    obtain ⟨rfl, hw⟩ := hrel
    obtain rfl : wr = wa3 := hw.out
    go_wp2
    go_ret2
    exact ⟨_, rfl, HO.out, HB.out⟩
end Go.Proofs.Ytodbbacmdjcheaa

namespace Go.Proofs.Ytodbbacmdjcheaa
open Go.RowKit L02 L13 L18 L20
theorem size_obj : (Try.prog.info? 109).map (·.size) = some 2 := by kernel_rfl
theorem info_obj : (Try.prog.info? 109).map (fun i => (i.zero, i.size, i.bytes)) = some (some (.agg #[.int .i64 0, .slice none 0 0]), 2, 32) := by kernel_rfl
/-- the cells of objects, whose fields are the slices vs -/
def obC : List Ob → List Value → List Value
  | o :: L, x :: vs => i64 o.ty :: x :: obC L vs
  | _, _ => []
theorem obC_len : ∀ {L : List Ob} {vs : List Value}, vs.length = L.length → (obC L vs).length = L.length * 2
  | [], _, _ => rfl
  | o :: L, [], h => by simp at h
  | o :: L, x :: vs, h => by rw [obC, List.length_cons, List.length_cons, obC_len (by simpa using h), List.length_cons]; omega
theorem obC_get : ∀ {L : List Ob} {vs : List Value} {k : Nat} {o : Ob} {x : Value}, L[k]? = some o → vs[k]? = some x → (obC L vs)[k * 2]? = some (i64 o.ty) ∧ (obC L vs)[k * 2 + 1]? = some x
  | [], _, _, _, _, h, _ => by simp at h
  | o :: L, [], _, _, _, _, h => by simp at h
  | o :: L, x :: vs, 0, o', x', h, h' => by simp at h h'; subst h; subst h'; simp [obC]
  | o :: L, x :: vs, k + 1, o', x', h, h' => by
    have := obC_get (L := L) (vs := vs) (k := k) (by simpa using h) (by simpa using h')
    rw [obC, show (k + 1) * 2 = k * 2 + 1 + 1 by omega, show k * 2 + 1 + 1 + 1 = (k * 2 + 1) + 1 + 1 by omega]
    simpa using this
theorem obC_snoc : ∀ {L : List Ob} {vs : List Value} {o : Ob} {x : Value}, vs.length = L.length → obC (L ++ [o]) (vs ++ [x]) = obC L vs ++ [i64 o.ty, x]
  | [], [], _, _, _ => rfl
  | [], x :: vs, _, _, h => by simp at h
  | o :: L, [], _, _, h => by simp at h
  | o :: L, x :: vs, o', x', h => by
    rw [List.cons_append, List.cons_append, obC, obC_snoc (by simpa using h), obC]; rfl
/-- A slice of objects. -/
def Objs (w : World) (v : Value) (L : List Ob) : Prop := ∃ vs : List Value, vs.length = L.length ∧ Rd w 2 v L.length (obC L vs) ∧ ∀ (i : Nat) x o, vs[i]? = some x → L[i]? = some o → Words w x o.fs
/-- .. of the call's own, their fields too, which lie apart -/
def OwnO (w : World) (base : Nat) (v : Value) (L : List Ob) : Prop := ∃ vs : List Value, vs.length = L.length ∧ w.ownsRow base 109 2 v L.length (obC L vs) ∧ (∀ (i : Nat) x o, vs[i]? = some x → L[i]? = some o → OwnW w base 64 x o.fs) ∧
  ∀ (i j : Nat) x y, i ≠ j → vs[i]? = some x → vs[j]? = some y → x.ownBlock = none ∨ x.ownBlock ≠ y.ownBlock
theorem OwnO.rd {w : World} {base : Nat} {v : Value} {L : List Ob} (h : OwnO w base v L) : Objs w v L := by
  obtain ⟨vs, h1, h2, h4, _⟩ := h; exact ⟨vs, h1, Rd.of_own h2, fun i x l h5 h6 => (h4 i x l h5 h6).rd⟩
theorem Objs.below {w w' : World} {v : Value} {L : List Ob} (h : Objs w v L) (hb : Below w.heap.size w w') : Objs w' v L := by
  obtain ⟨vs, h1, h2, h3⟩ := h; exact ⟨vs, h1, h2.below hb, fun i x l h4 h5 => (h3 i x l h4 h5).below hb⟩
theorem OwnO.below {w w' : World} {base : Nat} {v : Value} {L : List Ob} (h : OwnO w base v L) (hb : Below w.heap.size w w') : OwnO w' base v L := by
  obtain ⟨vs, h1, h2, h4, h5⟩ := h; exact ⟨vs, h1, own_below h2 hb, fun i x l h5 h6 => (h4 i x l h5 h6).below hb, h5⟩
theorem OwnO.mono {w : World} {base base' : Nat} {v : Value} {L : List Ob} (h : OwnO w base v L) (hb : base' ≤ base) : OwnO w base' v L := by
  obtain ⟨vs, h1, h2, h4, h5⟩ := h; exact ⟨vs, h1, own_mono h2 hb, fun i x l h5 h6 => own_mono (h4 i x l h5 h6) hb, h5⟩
theorem OwnT.mono {w : World} {base base' : Nat} {v : Value} {L : List (List UInt8)} (h : OwnT w base v L) (hb : base' ≤ base) : OwnT w base' v L := by
  obtain ⟨vs, h1, h2, h4⟩ := h; exact ⟨vs, h1, own_mono h2 hb, fun i x l h5 h6 => own_mono (h4 i x l h5 h6) hb⟩
theorem OwnO.nil (w : World) (base : Nat) : OwnO w base (.slice none 0 0) [] := ⟨[], rfl, World.ownsRow_nil w base _ 2, fun i x l h => by simp at h, fun i j x y _ h => by simp at h⟩
theorem Objs.nil (w : World) : Objs w (.slice none 0 0) [] := (OwnO.nil w 0).rd
theorem Typs.nil (w : World) : Typs w (.slice none 0 0) [] := (OwnT.nil w 0).rd
theorem Slots.nil (w : World) : Slots w (.slice none 0 0) [] := Rd.nil w 3
theorem Objs.len {w : World} {v : Value} {L : List Ob} (h : Objs w v L) : ∀ ty W, (Builtin.len_ #[47] ty #[v]).run Try.prog W = .ok (.int .i64 (L.length : Int)) W := by
  obtain ⟨vs, h1, h2, h3⟩ := h; exact Rd.len h2 Try.underlying47
theorem Objs.len_le {w : World} {v : Value} {L : List Ob} (h : Objs w v L) : L.length ≤ 9223372036854775807 := by
  obtain ⟨vs, h1, h2, h3⟩ := h; exact Rd.len_le h2
theorem Slots.len {w : World} {v : Value} {L : List Sl} (h : Slots w v L) : ∀ ty W, (Builtin.len_ #[48] ty #[v]).run Try.prog W = .ok (.int .i64 (L.length : Int)) W := Rd.len h Try.underlying48
theorem Slots.len_le {w : World} {v : Value} {L : List Sl} (h : Slots w v L) : L.length ≤ 9223372036854775807 := Rd.len_le h
theorem Objs.at_ {w : World} {v : Value} {L : List Ob} (h : Objs w v L) {k : Nat} (hk : k < L.length) :
    ∃ b q x o, (∀ W, (Instr.indexAt 47 v (.int .i64 (k : Int))).run Try.prog W = .ok (.pointer (some ⟨b, q, none⟩)) W) ∧ w.cell? ⟨b, q, none⟩ = some (.int .i64 o.ty) ∧ w.cell? ⟨b, q + 1, none⟩ = some x ∧ Hid (L[k]? = some o) ∧ Hid (Words w x o.fs) ∧ b < w.heap.size := by
  obtain ⟨vs, h1, h2, h3⟩ := h
  have hv : vs[k]? = some vs[k] := List.getElem?_eq_getElem (by omega)
  have hl : L[k]? = some L[k] := List.getElem?_eq_getElem hk
  have hix := fun W => Rd.ixN h2 Try.underlying47 size_obj hk W
  obtain ⟨b, q, c, rfl, hb, hc, hcell⟩ := Rd.form h2 (by omega)
  obtain ⟨c0, c1⟩ := obC_get hl hv
  exact ⟨b, q + k * 2, vs[k], L[k], fun W => hix W, hcell _ _ c0, hcell _ _ c1, Lib.hid hl, Lib.hid (h3 k _ _ hv hl), hb⟩
theorem Words.oneCell {w : World} {x : Value} {l : List UInt64} (h : Words w x l) : x.oneCell' = true := by
  obtain ⟨A, c, rfl, _⟩ := h; rfl
theorem Typs.oneCell {w : World} {x : Value} {l : List (List UInt8)} (h : Typs w x l) : x.oneCell' = true := by
  obtain ⟨_, _, ⟨A, c, rfl, _⟩, _⟩ := h; rfl
theorem Objs.oneCell {w : World} {x : Value} {l : List Ob} (h : Objs w x l) : x.oneCell' = true := by
  obtain ⟨_, _, ⟨A, c, rfl, _⟩, _⟩ := h; rfl
theorem Slots.oneCell {w : World} {x : Value} {l : List Sl} (h : Slots w x l) : x.oneCell' = true := by
  obtain ⟨A, c, rfl, _⟩ := h; rfl
/-- A model: three slices. -/
structure Mod (w : World) (tv ov sv : Value) (m : Mo) : Prop where
  t : Typs w tv m.types
  o : Objs w ov m.objs
  s : Slots w sv m.slots
structure OwnM (w : World) (base E : Nat) (tv ov sv : Value) (m : Mo) : Prop where
  t : OwnT w base tv m.types
  o : OwnO w base ov m.objs
  s : OwnS w base E sv m.slots
theorem Mod.below {w w' : World} {tv ov sv : Value} {m : Mo} (h : Mod w tv ov sv m) (hb : Below w.heap.size w w') : Mod w' tv ov sv m := ⟨h.t.below hb, h.o.below hb, h.s.below hb⟩
theorem OwnM.below {w w' : World} {base E : Nat} {tv ov sv : Value} {m : Mo} (h : OwnM w base E tv ov sv m) (hb : Below w.heap.size w w') : OwnM w' base E tv ov sv m := ⟨h.t.below hb, h.o.below hb, h.s.below hb⟩
theorem OwnM.rd {w : World} {base E : Nat} {tv ov sv : Value} {m : Mo} (h : OwnM w base E tv ov sv m) : Mod w tv ov sv m := ⟨h.t.rd, h.o.rd, h.s.rd⟩
theorem OwnM.mono {w : World} {base base' E : Nat} {tv ov sv : Value} {m : Mo} (h : OwnM w base E tv ov sv m) (hb : base' ≤ base) : OwnM w base' E tv ov sv m := ⟨h.t.mono hb, h.o.mono hb, own_mono h.s hb⟩
theorem Mod.nil (w : World) : Mod w (.slice none 0 0) (.slice none 0 0) (.slice none 0 0) .nil := ⟨Typs.nil w, Objs.nil w, Slots.nil w⟩
end Go.Proofs.Ytodbbacmdjcheaa
namespace Go.Proofs.Ytodbbacmdjcheaa
open Go.RowKit L02 L13 L18 L20
end Go.Proofs.Ytodbbacmdjcheaa
namespace Go.Proofs.Ytodbbacmdjcheaa
open Go.RowKit L02 L13 L18 L20
end Go.Proofs.Ytodbbacmdjcheaa
namespace Go.Proofs.Ytodbbacmdjcheaa
open Go.RowKit L02 L13 L18 L20
end Go.Proofs.Ytodbbacmdjcheaa
namespace Go.Proofs.Ytodbbacmdjcheaa
open Go.RowKit L02 L13 L18 L20
end Go.Proofs.Ytodbbacmdjcheaa
namespace Go.Proofs.Ytodbbacmdjcheaa
open Go.RowKit L02 L13 L18 L20
end Go.Proofs.Ytodbbacmdjcheaa
namespace Go.Proofs.Ytodbbacmdjcheaa
open Go Go.RowKit
section
variable {P : Program} {ops : Array Oper} {md : Region.Mode}
def uponV (Post : World → Prop) (v : Value) : Result Next → Prop
  | .ok (.value u) w' => u = v ∧ Post w'
  | .ok .skip w' => v = undef ∧ Post w'
  | _ => False
def YieldsV (P : Program) (md : Region.Mode) (ops : Array Oper) (C : Array Bool → World → Prop) (i : Nat) (o : Oper) (v : Value) (a : Act) : Prop :=
  (Region.wanted o (yielded ops a.tmps) = true ∧ ∀ listed w, i ∈ Region.ready md ops listed → C listed w → uponV (C (listed.setIfInBounds i true)) v ((execOp a.eval o).run P w)) ∨
  (Region.wanted o (yielded ops a.tmps) = false ∧ v = undef ∧ ∀ listed w, i ∈ Region.ready md ops listed → C listed w → C (listed.setIfInBounds i true) w)
/-- number k0 yields the value x, whatever its world; the others as they do -/
def YieldsG (P : Program) (md : Region.Mode) (ops : Array Oper) (C : Array Bool → World → Prop) (k0 : Nat) (x : Value) (i : Nat) (o : Oper) (v : Value) (a : Act) : Prop :=
  (i = k0 ∧ v = x ∧ Region.wanted o (yielded ops a.tmps) = true) ∨ (i ≠ k0 ∧ YieldsV P md ops C i o v a)
theorem YieldsV.of_same {C : Array Bool → World → Prop} {i : Nat} {o : Oper} {v : Value} {a a' : Act} (hy : YieldsV P md ops C i o v a) (he : execOp a'.eval o = execOp a.eval o)
    (hw : Region.wanted o (yielded ops a'.tmps) = Region.wanted o (yielded ops a.tmps)) : YieldsV P md ops C i o v a' := by
  unfold YieldsV at *
  rw [he, hw]
  exact hy
/-- what is known of the operation k0: whatever it runs on, it runs alike at two acts -/
def G0 (k0 : Nat) (T : Act → Prop) (ops : Array Oper) : Prop := ∀ o, ops[k0]? = some o → ∀ a a' : Act, execOp a'.eval o = execOp a.eval o → T a → T a'
theorem YieldsG.of_same {C : Array Bool → World → Prop} {k0 : Nat} {x : Value} {i : Nat} {o : Oper} {v : Value} {a a' : Act} (hy : YieldsG P md ops C k0 x i o v a) (he : execOp a'.eval o = execOp a.eval o)
    (hw : Region.wanted o (yielded ops a'.tmps) = Region.wanted o (yielded ops a.tmps)) : YieldsG P md ops C k0 x i o v a' := by
  rcases hy with ⟨h1, h2, h3⟩ | ⟨h1, h2⟩
  · exact .inl ⟨h1, h2, by rw [hw]; exact h3⟩
  · exact .inr ⟨h1, h2.of_same he hw⟩
variable {C : Array Bool → World → Prop} {k0 : Nat} {x : Value} {T : Sem Next → Prop}
end
section
variable {P : Program} {ops : Array Oper} {rest : List Oper} {o : Oper} {a : Act} {Q : Act → Prop} {F : (Nat → Bool) → World → Prop} {js : List Nat} {k k0 : Nat} {md : Region.Mode} {x : Value} {T : Sem Next → Prop}
end
end Go.Proofs.Ytodbbacmdjcheaa
namespace Go.Proofs.Ytodbbacmdjcheaa
open Go.RowKit L02 L13 L18 L20
set_option maxRecDepth 100000 in
set_option maxHeartbeats 1000000 in
theorem CloneW_rd (x : Value) (n : Nat) (xs : List Value) (hn : n ≤ 1000) (h1 : ∀ u ∈ xs, u.oneCell' = true) (w : World) (h : Rd w 1 x n xs) :
    Calls Try.prog 44 #[x] w fun e w' => ∃ y, e = .returned y ∧ w'.ownsRow w.heap.size 64 1 y n xs ∧ Below w.heap.size w w' := by
  have B : Below w.heap.size w w := Below.refl _ _
  have HX := Lib.hid h; have HU := Lib.hid h1
  obtain ⟨A, c, rfl, hc, _, hl, hA, _⟩ := h
  rcases A with _ | ad
  · have hc0 := hA rfl
    subst hc0
    obtain rfl : n = 0 := by omega
    obtain rfl : xs = [] := List.eq_nil_of_length_eq_zero (by simpa using hl)
    clear hl hA hc
    have q : ∀ W, (binOp .eql 25 (.slice none 0 0) (.slice none 0 0)).run Try.prog W = .ok (.bool true) W := fun W => Lib.run_eql_slice_nil W _ _ _ _ _ _ _ Try.underlying25
    go_enter Try.func44, Try.ntmps44
    go_wp2
    go_ret
    exact ⟨_, rfl, World.ownsRow_nil _ _ _ _, B⟩
  · clear hl hA hc
    have q : ∀ W, (binOp .eql 25 (.slice (some ad) n c) (.slice none 0 0)).run Try.prog W = .ok (.bool false) W := fun W => Lib.run_eql_slice_nil W _ _ _ _ _ _ _ Try.underlying25
    go_enter Try.func44, Try.ntmps44
    go_wp2_with (at_builtin; refine wpList_append (by rfl) rfl rfl rfl Try.underlying25 info_u64 rfl (by omega) (by exact lit0_own (Nat.le_refl _)) (by exact HX.out.alloc _) HU.out (by omega) (by omega) (by exact B.alloc B.size _) (Nat.le_refl _) ?_; intro v1 w3 o3 B3 g3; clear g3)
    go_ret
    exact ⟨_, rfl, by simpa using o3, B3⟩
theorem CloneW_any (x : Value) (l : List UInt64) (hn : l.length ≤ 1000) (w : World) (h : Words w x l) :
    Calls Try.prog 44 #[x] w fun e w' => ∃ y, e = .returned y ∧ OwnW w' w.heap.size 64 y l ∧ Below w.heap.size w w' := CloneW_rd x _ _ hn (one_u64s l) w h
end Go.Proofs.Ytodbbacmdjcheaa
namespace Go.Proofs.Ytodbbacmdjcheaa
open Go.RowKit L02 L13 L18 L20
theorem OwnT.set {w : World} {B p i : Nat} {v u : Value} {L : List (List UInt8)} {t : TypeId} {cs : Array Value} (h : OwnT w B v L) (hg : Bx w p t cs) (h1 : 69 ≠ t) (h2 : 5 ≠ t) : OwnT (w.setCell ⟨p, i, none⟩ u) B v L := by
  obtain ⟨vs, a1, a2, a4⟩ := h; exact ⟨vs, a1, own_set a2 hg h1, fun i x l h5 h6 => own_set (a4 i x l h5 h6) hg h2⟩
theorem OwnO.set {w : World} {B p i : Nat} {v u : Value} {L : List Ob} {t : TypeId} {cs : Array Value} (h : OwnO w B v L) (hg : Bx w p t cs) (h1 : 109 ≠ t) (h2 : 64 ≠ t) : OwnO (w.setCell ⟨p, i, none⟩ u) B v L := by
  obtain ⟨vs, a1, a2, a4, a5⟩ := h; exact ⟨vs, a1, own_set a2 hg h1, fun i x l h5 h6 => own_set (a4 i x l h5 h6) hg h2, a5⟩
/-- one more object: xs the slices of fields, x the new one; the row was appended to. -/
theorem OwnO.snoc {w w' : World} {base n : Nat} {v v' x : Value} {L : List Ob} {o : Ob} {vs : List Value} (h1 : vs.length = L.length) (ho0 : w.ownsRow base 109 2 v L.length (obC L vs)) (ho : w'.ownsRow base 109 2 v' n (obC L vs ++ [i64 o.ty, x]))
    (h4 : ∀ (i : Nat) x l, vs[i]? = some x → L[i]? = some l → OwnW w base 64 x l.fs) (h5 : ∀ (i j : Nat) x y, i ≠ j → vs[i]? = some x → vs[j]? = some y → x.ownBlock = none ∨ x.ownBlock ≠ y.ownBlock)
    (hx : OwnW w base 64 x o.fs) (hap : ∀ (i : Nat) y, vs[i]? = some y → (x.ownBlock = none ∨ x.ownBlock ≠ y.ownBlock) ∧ (y.ownBlock = none ∨ y.ownBlock ≠ x.ownBlock)) (hg : w.grownBy w' v.ownBlock) : OwnO w' base v' (L ++ [o]) := by
  have hn : n = (L ++ [o]).length := by have := ho.1; rw [List.length_append, obC_len h1] at this; simp at this ⊢; omega
  subst hn
  have keep : ∀ y m, OwnW w base 64 y m → OwnW w' base 64 y m := fun y m hy => World.ownsRow.kept hy hg (own_unlike hy ho0 (by decide))
  have idx : ∀ i, i ≥ vs.length → ∀ y, (vs ++ [x])[i]? = some y → i = vs.length ∧ y = x := by
    intro i hi y hy
    rw [List.getElem?_append_right hi] at hy
    have h0 : i - vs.length = 0 := by
      rcases Nat.eq_zero_or_pos (i - vs.length) with h | h
      · exact h
      · rw [List.getElem?_eq_none (by simp; omega)] at hy; cases hy
    rw [h0] at hy
    simp at hy
    exact ⟨by omega, hy.symm⟩
  refine ⟨vs ++ [x], by simp [h1], by rw [obC_snoc h1]; exact ho, fun i y l hy hl => ?_, fun i j y z hij hy hz => ?_⟩
  · by_cases hi : i < vs.length
    · rw [List.getElem?_append_left hi] at hy
      rw [List.getElem?_append_left (by omega)] at hl
      exact keep _ _ (h4 i y l hy hl)
    · obtain ⟨rfl, rfl⟩ := idx i (by omega) y hy
      rw [List.getElem?_append_right (by omega), h1] at hl
      simp at hl; subst hl
      exact keep _ _ hx
  · by_cases hi : i < vs.length
    · rw [List.getElem?_append_left hi] at hy
      by_cases hj : j < vs.length
      · rw [List.getElem?_append_left hj] at hz
        exact h5 i j y z hij hy hz
      · obtain ⟨_, rfl⟩ := idx j (by omega) z hz
        exact (hap i y hy).2
    · obtain ⟨e1, rfl⟩ := idx i (by omega) y hy
      by_cases hj : j < vs.length
      · rw [List.getElem?_append_left hj] at hz
        exact (hap j z hz).1
      · obtain ⟨e2, rfl⟩ := idx j (by omega) z hz
        omega
theorem own_form' {w : World} {B e sz n : Nat} {v : Value} {xs : List Value} (h : w.ownsRow B e sz v n xs) : ∃ A c, v = .slice A n c := by
  obtain ⟨A, c, e, _⟩ := Rd.of_own h; exact ⟨A, c, e⟩
theorem OwnT.kept {w w' : World} {B B2 e n sz : Nat} {v a : Value} {L : List (List UInt8)} {xs : List Value} (h : OwnT w B v L) (ha : w.ownsRow B2 e sz a n xs) (hg : w.grownBy w' a.ownBlock) (h1 : 69 ≠ e) (h2 : 5 ≠ e) : OwnT w' B v L := by
  obtain ⟨vs, a1, a2, a4⟩ := h
  exact ⟨vs, a1, World.ownsRow.kept a2 hg (own_unlike a2 ha h1), fun i x l h5 h6 => World.ownsRow.kept (a4 i x l h5 h6) hg (own_unlike (a4 i x l h5 h6) ha h2)⟩
/-- a literal of one object -/
theorem lit_obj {w : World} {ty : Int} {x : Value} : Rd (w.alloc (.cells #[i64 ty, x] 109)) 2 (.slice (some ⟨w.heap.size, 0, none⟩) 1 1) 1 [i64 ty, x] := lit_rdK (n := 1) (sz := 2) rfl (by omega)
theorem one_obj {ty : Int} {x : Value} (h : x.oneCell' = true) : ∀ u ∈ [i64 ty, x], u.oneCell' = true := by
  intro u hu
  rcases List.mem_cons.1 hu with rfl | hu
  · rfl
  · simp at hu; subst hu; exact h
theorem OwnM.set {w : World} {B p i : Nat} {tv ov sv u : Value} {m : Mo} {cs : Array Value} (h : OwnM w B 56 tv ov sv m) (hg : Bx w p 50 cs) : OwnM (w.setCell ⟨p, i, none⟩ u) B 56 tv ov sv m :=
  ⟨h.t.set hg (by decide) (by decide), h.o.set hg (by decide) (by decide), own_set h.s hg (by decide)⟩
end Go.Proofs.Ytodbbacmdjcheaa
namespace Go.Proofs.Ytodbbacmdjcheaa
open Go.RowKit L02 L13 L18 L20
theorem tabL_set (S : List Sl) (k : Nat) (s : Sl) (hk : k < S.length) : (((tabL S).set (k * 3) (.int .i64 s.gen)).set (k * 3 + 1) (.bool s.used)).set (k * 3 + 2) (.int .i64 s.at_) = tabL (S.set k s) := by
  apply List.ext_getElem?
  intro i
  by_cases hi : i < S.length * 3
  · obtain ⟨q, r, hr, rfl⟩ : ∃ q r, r < 3 ∧ i = q * 3 + r := ⟨i / 3, i % 3, Nat.mod_lt _ (by omega), by omega⟩
    have hq : q < S.length := by omega
    by_cases hqk : q = k
    · subst hqk
      have h1 := tabL_get (S.set q s) q s (by simp [hq]) r hr
      rw [h1]
      have hl : (tabL S).length = S.length * 3 := tabL_len S
      have : r = 0 ∨ r = 1 ∨ r = 2 := by omega
      rcases this with rfl | rfl | rfl
      · rw [List.getElem?_set_ne (by omega), List.getElem?_set_ne (by omega), Nat.add_zero, List.getElem?_set_self (by omega)]; rfl
      · rw [List.getElem?_set_ne (by omega), List.getElem?_set_self (by simp; omega)]; rfl
      · rw [List.getElem?_set_self (by simp; omega)]; rfl
    · have hs : S[q]? = some S[q] := List.getElem?_eq_getElem hq
      have h1 := tabL_get (S.set k s) q S[q] (by rw [List.getElem?_set_ne (Ne.symm hqk)]; exact hs) r hr
      have h2 := tabL_get S q S[q] hs r hr
      rw [h1, List.getElem?_set_ne (by omega), List.getElem?_set_ne (by omega), List.getElem?_set_ne (by omega), h2]
  · rw [List.getElem?_eq_none (by simp [tabL_len]; omega), List.getElem?_eq_none (by simp [tabL_len]; omega)]
theorem OwnS.form {w : World} {B E : Nat} {v : Value} {S : List Sl} (h : OwnS w B E v S) (hn : 0 < S.length) : ∃ g n c, v = .slice (some ⟨g, 0, none⟩) n c ∧ n = S.length := by
  obtain ⟨g, cap, cur, hv, _⟩ := own_form h hn
  exact ⟨g, _, cap, hv, rfl⟩
theorem OwnS.cells {w : World} {B E g n c k : Nat} {S : List Sl} {s : Sl} (h : OwnS w B E (.slice (some ⟨g, 0, none⟩) n c) S) (hs : S[k]? = some s) :
    (∀ W, (Instr.indexAt 48 (.slice (some ⟨g, 0, none⟩) n c) (.int .i64 (k : Int))).run Try.prog W = .ok (.pointer (some ⟨g, k * 3, none⟩)) W) ∧ w.cell? ⟨g, k * 3, none⟩ = some (.int .i64 s.gen) ∧ w.cell? ⟨g, k * 3 + 1, none⟩ = some (.bool s.used) ∧ w.cell? ⟨g, k * 3 + 2, none⟩ = some (.int .i64 s.at_) := by
  have hk : k < S.length := (List.getElem?_eq_some_iff.1 hs).1
  have t0 := Rd.cell (OwnS.rd h) (tabL_get S k s hs 0 (by omega))
  have t1 := Rd.cell (OwnS.rd h) (tabL_get S k s hs 1 (by omega))
  have t2 := Rd.cell (OwnS.rd h) (tabL_get S k s hs 2 (by omega))
  refine ⟨fun W => ?_, ?_, ?_, ?_⟩
  · have := Rd.ixN (P := Try.prog) (OwnS.rd h) Try.underlying48 size_slot hk W
    simpa [cellAt] using this
  · simpa [cellAt] using t0
  · simpa [cellAt] using t1
  · simpa [cellAt] using t2
/-- a model's own slots changed, all else kept -/
theorem OwnM.slots {w W : World} {B g n c : Nat} {tv ov : Value} {m : Mo} {S : List Sl} (h : OwnM w B 56 tv ov (.slice (some ⟨g, 0, none⟩) n c) m) (hg : w.grownBy W (some g)) (hS : OwnS W B 56 (.slice (some ⟨g, 0, none⟩) n c) S) :
    OwnM W B 56 tv ov (.slice (some ⟨g, 0, none⟩) n c) ⟨m.types, m.objs, S⟩ := by
  refine ⟨OwnT.kept h.t h.s hg (by decide) (by decide), ?_, hS⟩
  obtain ⟨vs, a1, a2, a4, a5⟩ := h.o
  exact ⟨vs, a1, World.ownsRow.kept a2 hg (own_unlike a2 h.s (by decide)), fun i x l h5 h6 => World.ownsRow.kept (a4 i x l h5 h6) hg (own_unlike (a4 i x l h5 h6) h.s (by decide)), a5⟩
/-- all old blocks but one are as they were -/
def Keep (w w' : World) (row : Option Nat) : Prop := w.heap.size ≤ w'.heap.size ∧ ∀ k, k < w.heap.size → some k ≠ row → w'.heap[k]? = w.heap[k]?
theorem Keep.grown {w w' w'' : World} {row : Option Nat} (h : Keep w w' row) (hg : w'.grownBy w'' row) : Keep w w'' row := ⟨Nat.le_trans h.1 hg.size, fun k hk hr => (hg.block k (Nat.lt_of_lt_of_le hk h.1) hr).trans (h.2 k hk hr)⟩
theorem Keep.setCell {w w' : World} {row : Option Nat} (h : Keep w w' row) {p : Addr} (hp : w.heap.size ≤ p.block) (u : Value) : Keep w (w'.setCell p u) row :=
  ⟨by simpa [World.setCell] using h.1, fun k hk hr => (Below.heap_setCell w' p u k (by omega)).trans (h.2 k hk hr)⟩
theorem Bx.keep {w w' : World} {g : Nat} {t : TypeId} {cs : Array Value} {row : Option Nat} (h : Bx w g t cs) (hk : Keep w w' row) (hne : row = none ∨ row ≠ some g) : Bx w' g t cs := by
  have hl := h.lt
  unfold Bx at *
  rw [hk.2 g hl (by
    rcases hne with rfl | h
    · simp
    · exact fun e => h e.symm)]
  exact h
end Go.Proofs.Ytodbbacmdjcheaa
namespace Go.Proofs.Ytodbbacmdjcheaa
open Go.RowKit L02 L13 L18 L20
/-- the number of a slot is stored -/
theorem OwnS.put1 {w : World} {B E g n c k : Nat} {S : List Sl} {s : Sl} (h : OwnS w B E (.slice (some ⟨g, 0, none⟩) n c) S) (hs : S[k]? = some s) (a : Int) :
    OwnS (w.setCell ⟨g, k * 3 + 2, none⟩ (.int .i64 a)) B E (.slice (some ⟨g, 0, none⟩) n c) (S.set k ⟨s.gen, s.used, a⟩) ∧
      w.grownBy (w.setCell ⟨g, k * 3 + 2, none⟩ (.int .i64 a)) (some g) ∧ B ≤ g ∧ g < w.heap.size ∧ ∀ j, w.frozen? ⟨g, j, none⟩ = false := by
  have hk : k < S.length := (List.getElem?_eq_some_iff.1 hs).1
  have hn : n = S.length := by
    obtain ⟨g', cap, cur, hv, _⟩ := own_form h (by omega)
    injection hv
  subst hn
  have h3 := World.ownsRow.stored h (k * 3 + 2) (.int .i64 a)
  have hl := h.lt g rfl
  have hsame : ∀ i : Nat, i < 3 → ∀ u, (slC s)[i]? = some u → (tabL S).set (k * 3 + i) u = tabL S := by
    intro i hi u hu
    have t0 := tabL_get S k s hs i hi
    rw [hu] at t0
    apply List.ext_getElem?
    intro j
    by_cases hj : j = k * 3 + i
    · subst hj
      rw [List.getElem?_set_self (List.getElem?_eq_some_iff.1 t0).1, t0]
    · rw [List.getElem?_set_ne (Ne.symm hj)]
  have h0 := hsame 0 (by omega) (.int .i64 s.gen) rfl
  have h1 := hsame 1 (by omega) (.bool s.used) rfl
  rw [Nat.add_zero] at h0
  refine ⟨?_, h3.2, hl.1, hl.2, fun j => h.frozenAt j⟩
  unfold OwnS
  rw [← tabL_set S k ⟨s.gen, s.used, a⟩ hk, List.length_set]
  show World.ownsRow _ _ _ _ _ _ ((((tabL S).set (k * 3) (.int .i64 s.gen)).set (k * 3 + 1) (.bool s.used)).set (k * 3 + 2) (.int .i64 a))
  rw [h0, h1]
  exact h3.1
theorem own_ne_bx {w : World} {B e sz n n' p g c : Nat} {xs : List Value} {t : TypeId} {cs : Array Value} (h : w.ownsRow B e sz (.slice (some ⟨g, 0, none⟩) n c) n' xs) (hg : Bx w p t cs) (hne : e ≠ t) : g ≠ p := by
  rintro rfl
  rcases own_not_bx h hg hne with h | h
  · cases h
  · exact h rfl
end Go.Proofs.Ytodbbacmdjcheaa
