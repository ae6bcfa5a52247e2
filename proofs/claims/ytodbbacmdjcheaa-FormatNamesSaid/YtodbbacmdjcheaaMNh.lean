/- Contracts of the functions that the laws 'N' reach, part 8. No condition. -/
import Derived.Test.YtodbbacmdjcheaaMNg
set_option linter.unusedVariables false
set_option linter.unusedSimpArgs false
namespace Go.Proofs.Ytodbbacmdjcheaa
open Go.RowKit L01 L02 L05 L14 L15
/-- the worlds of two stores into a block -/
def wsK (W : World) (g : Nat) (a : Int) (x : Nat) : Nat → World
  | 0 => W.drew
  | 1 => W.drew.setCell ⟨g, 0, none⟩ (.int .i64 a)
  | _ + 2 => (W.drew.setCell ⟨g, 0, none⟩ (.int .i64 a)).setCell ⟨g, 5, none⟩ (.int .u64 x)
theorem stOk_of {l : List UInt64} {k : Nat} {x : UInt64} (hx : l[k]? = some x) : StOk l k ↔ HdOk x ∧ (k : Int) + (split x).size ≤ l.length := by
  unfold StOk
  rw [show l.getD k 0 = x by rw [List.getD_eq_getElem?_getD, hx]; rfl]
set_option maxRecDepth 100000 in
set_option maxHeartbeats 2000000 in
theorem stands_any (v : Value) (l : List UInt64) (k : Nat) (b : Hb) (r : Int) (hk : k < l.length) (hb : b = if StOk l k then stand l k else .none) (hr : r = if StOk l k then 0 else 50) (w : World) (h : Words w v l) :
    Calls Try.prog 91 #[v, .int .i64 k] w fun e w' => e = .returned (.tuple #[.agg #[.int .i64 b.at_, .int .i64 b.size, .int .i64 b.kind, .int .i64 b.ty, .bool b.mark, .int .u64 b.next.toNat], .int .i64 r]) ∧ Below w.heap.size w w' := by
  have B : Below w.heap.size w w := Below.refl _ _
  have H := Lib.hid h
  have hlen := Rd.len_le h
  have lw := Rd.len h Try.underlying25
  obtain ⟨ad, x, ia, m0, hx⟩ := h.at_ (P := Try.prog) Try.underlying25 one_u64 hk
  obtain ⟨N, hN⟩ : ∃ N, N = l.length := ⟨_, rfl⟩
  rw [← hN] at lw hlen
  have hst := stOk_of hx.out
  obtain ⟨s, hs⟩ : ∃ s, s = split x := ⟨_, rfl⟩
  obtain ⟨z, hz⟩ : ∃ z, z = splE x := ⟨_, rfl⟩
  have ST := Lib.hid (fun w => HSplit_any x s z hs hz w)
  have hgk : l.getD k 0 = x := by rw [List.getD_eq_getElem?_getD, hx.out]; rfl
  by_cases hd : HdOk x
  · have hz0 : z = 0 := by rw [hz, splE, if_pos hd]
    subst hz0
    obtain ⟨s1, s2, s3, s4, s5, s6⟩ := (by rw [hs]; exact (split_ok hd).bounds : 2 ≤ s.size ∧ s.size % 2 = 0 ∧ s.size ≤ 1920 ∧ (s.kind = 1 ∨ s.kind = 2) ∧ 0 ≤ s.ty ∧ s.ty < 8)
    have hw : IntKind.i64.wrap ((N : Int) - (k : Int)) = (N : Int) - k := IntWalk.i64_in _ (by omega)
    by_cases hl : (k : Int) + s.size ≤ N
    · have hok : StOk l k := hst.2 ⟨hd, by rw [← hs, ← hN]; exact hl⟩
      obtain ⟨ad2, y, ia2, m1, hy⟩ := h.at_ (P := Try.prog) Try.underlying25 one_u64 (k := k + 1) (by omega)
      have hr0 : r = 0 := by rw [hr, if_pos hok]
      have hb0 : b = ⟨k, s.size, s.kind, s.ty, s.mark, y⟩ := by
        rw [hb, if_pos hok, stand, hgk, ← hs, show l.getD (k + 1) 0 = y by rw [List.getD_eq_getElem?_getD, hy.out]; rfl]
      have hw1 : IntKind.i64.wrap ((k : Int) + 1) = (k : Int) + 1 := IntWalk.i64_in _ (by omega)
      have ia3 : ∀ W, (Instr.indexAt 25 v (.int .i64 ((k : Int) + 1))).run Try.prog W = .ok (.pointer (some ad2)) W := ia2
      have n1 : ¬ ((N : Int) - k < s.size) := by omega
      have n2 : decide ((N : Int) - k < s.size) = false := decide_eq_false n1
      have hs0 : s.at_ = 0 := by rw [hs, split_told hd]; rfl
      have hs5 : s.next = 0 := by rw [hs, split_told hd]; rfl
      obtain ⟨sa, sz, sk, sty, sm, sn⟩ := s
      dsimp only at *
      subst hs0; subst hs5; subst hr0; subst hb0
      have ST' : Hid (∀ w, Calls Try.prog 102 #[.int .u64 x.toNat] w fun e w' => e = .returned (.tuple #[.agg #[.int .i64 0, .int .i64 sz, .int .i64 sk, .int .i64 sty, .bool sm, .int .u64 0], .int .i64 0]) ∧ Below w.heap.size w w') := ST
      have HK := Lib.hid (And.intro hk hN)
      have M0 := Lib.hid m1
      clear hst hs hz hgk hd hl hok hb hr hx hy h ST hk hN
      go_enter Try.func91, Try.ntmps91
      go_upto_region 1 with (fail)
      refine wp_gen (fun Wv => Bx Wv (w.heap.size) (84) (#[.int .i64 0, .int .i64 0, .int .i64 0, .int .i64 0, .bool false, .int .u64 0]) ∧ Below w.heap.size w Wv) ⟨((Bx.at_ (by simp))), ((Below.refl _ w).alloc (by simp <;> omega) _)⟩ ?_
      rintro wa1 ⟨g1, b⟩
      replace m0 := cell_later b m0; replace m1 := cell_later b m1; replace B := B.trans (b.mono B.size); clear b
      have c_g1 := g1.cell; have f_g1 := g1.free; have a_g1 := fun o => (g1.alloc o).cell; have d_g1 := fun o o2 => ((g1.alloc o).alloc o2).cell; have e_g1 := fun o => (g1.alloc o).free
      go_wp2_with fail
      refine (ST'.out _).mono ?_
      rintro e wa2 ⟨rfl, b⟩
      replace m0 := cell_later b m0; replace m1 := cell_later b m1; try clear c_g1 f_g1 a_g1 d_g1 e_g1
      replace g1 := g1.below b; have c_g1 := g1.cell; have f_g1 := g1.free; have a_g1 := fun o => (g1.alloc o).cell; have d_g1 := fun o o2 => ((g1.alloc o).alloc o2).cell; have e_g1 := fun o => (g1.alloc o).free; replace B := B.trans (b.mono B.size); clear b
      have hl1 : w.heap.size < wa2.heap.size := g1.lt
      go_upto_region 2 with (fail)
      refine wp_gen (fun Wv => Bx Wv (wa2.heap.size) (84) (#[.int .i64 0, .int .i64 sz, .int .i64 sk, .int .i64 sty, .bool sm, .int .u64 0]) ∧ Below wa2.heap.size wa2 Wv) ⟨((Bx.at_ (by simp))), ((Below.refl _ wa2).alloc (by simp <;> omega) _)⟩ ?_
      rintro wa3 ⟨g2, b⟩
      replace m0 := cell_later b m0; replace m1 := cell_later b m1; try clear c_g1 f_g1 a_g1 d_g1 e_g1
      replace g1 := g1.below b; have c_g1 := g1.cell; have f_g1 := g1.free; have a_g1 := fun o => (g1.alloc o).cell; have d_g1 := fun o o2 => ((g1.alloc o).alloc o2).cell; have e_g1 := fun o => (g1.alloc o).free; replace B := B.trans (b.mono B.size); clear b
      have c_g2 := g2.cell; have f_g2 := g2.free; have a_g2 := fun o => (g2.alloc o).cell; have d_g2 := fun o o2 => ((g2.alloc o).alloc o2).cell; have e_g2 := fun o => (g2.alloc o).free
      go_upto_region 4 with (fail)
      have hz2 := B.size
      have hp := g2.lt
      have k0 := g2.cell 0; have k5 := (g2.set (i := 0) (.int .i64 (k : Int))).cell 5; have kf := g2.free
      have ne : w.heap.size ≠ wa2.heap.size := by omega
      have A1 : ∀ d, d ≤ 2 → Bx (wsK wa3 wa2.heap.size k y.toNat d) w.heap.size 84 #[.int .i64 0, .int .i64 0, .int .i64 0, .int .i64 0, .bool false, .int .u64 0] := by
        intro d hd
        rcases d with _ | _ | d
        · exact g1
        · exact Bx.far (w := wa3.drew) g1 (p := ⟨wa2.heap.size, 0, none⟩) ne _
        · exact (Bx.far (w := wa3.drew) g1 (p := ⟨wa2.heap.size, 0, none⟩) ne _).far (p := ⟨wa2.heap.size, 5, none⟩) ne _
      have BW : ∀ d, d ≤ 2 → Below w.heap.size w (wsK wa3 wa2.heap.size k y.toNat d) := by
        intro d hd
        rcases d with _ | _ | d
        · exact B.drew
        · exact (B.drew).setCell (p := ⟨wa2.heap.size, 0, none⟩) (by show w.heap.size ≤ wa2.heap.size; omega) _
        · exact ((B.drew).setCell (p := ⟨wa2.heap.size, 0, none⟩) (by show w.heap.size ≤ wa2.heap.size; omega) _).setCell (p := ⟨wa2.heap.size, 5, none⟩) (by show w.heap.size ≤ wa2.heap.size; omega) _
      have BX : ∀ d, d ≤ 2 → Below wa3.heap.size wa3 (wsK wa3 wa2.heap.size k y.toNat d) → True := fun _ _ _ => trivial
      have M1 : ∀ d, d ≤ 2 → (wsK wa3 wa2.heap.size k y.toNat d).cell? ad2 = some (.int .u64 y.toNat) := by
        intro d hd
        exact cell_later (BW d hd) M0.out
      have G2 : Bx (wsK wa3 wa2.heap.size k y.toNat 2) wa2.heap.size 84 #[.int .i64 k, .int .i64 sz, .int .i64 sk, .int .i64 sty, .bool sm, .int .u64 y.toNat] :=
        ((Bx.set (w := wa3.drew) g2 (i := 0) (.int .i64 (k : Int))).set (i := 5) (.int .u64 y.toNat))
      have a1 := fun x : FXN (FL [7, 9] (wsK wa3 wa2.heap.size k y.toNat) 7 2) => (FL.all (ks := [7, 9]) (Ws := wsK wa3 wa2.heap.size k y.toNat) (p := fun V => V.cell? ad2 = some (.int .u64 y.toNat)) M1 x)
      have HX := Lib.hid (And.intro (A1 2 (by omega)) (And.intro G2 (BW 2 (by omega))))
      have s0 : wa3.cell? ⟨wa2.heap.size, 0, none⟩ = some (.int .i64 0) := g2.cell 0
      have s1 : ∀ i, wa3.frozen? ⟨wa2.heap.size, i, none⟩ = false := g2.free
      have s2 : (wa3.setCell ⟨wa2.heap.size, 0, none⟩ (.int .i64 k)).cell? ⟨wa2.heap.size, 5, none⟩ = some (.int .u64 0) := (g2.set (i := 0) (.int .i64 (k : Int))).cell 5
      clear A1 BW BX M1 G2 k0 k5 kf c_g1 f_g1 a_g1 d_g1 e_g1 c_g2 f_g2 a_g2 d_g2 e_g2 m0 m1
      haveI : Nonempty (FXN (FL [7, 9] (wsK wa3 wa2.heap.size k y.toNat) 7 2)) := ⟨⟨_, _, FL.start⟩⟩
      refine wp_region_N (FL [7, 9] (wsK wa3 wa2.heap.size k y.toNat) 7 2) [7, 7, 9] FL.dep (by kernel_rfl) (by kernel_rfl) (by kernel_rfl) FL.start ?_
      iterate 7 (refine wpN_read FL.dep rfl (by decide) ?_; go_big_quiet_step (fail); refine wpQuiet_nil ?_)
      refine wpN_storeD FL.dep rfl 3 (.tmp 34) (.tmp 28) rfl (by rfl) (p := .pointer (some ⟨wa2.heap.size, 0, none⟩)) (u := .int .i64 k) (by rfl) (by rfl) [] (by kernel_rfl) (fun f W' hF h0 h1 => ?_) ?_
      · obtain ⟨rfl, h2⟩ := FL.step (i := 0) rfl (by decide) hF h0 (by intro p hp; omega) (by omega)
        refine ⟨_, ?_, h2⟩
        simp [go_sem, wsK, s0, s1]
      simp only [Act.put, List.setIfInBounds_toArray, List.set_cons_zero, List.set_cons_succ]
      iterate 1 (refine wpN_read FL.dep rfl (by decide) ?_; go_big_quiet_step (fail); refine wpQuiet_nil ?_)
      refine wpN_storeD FL.dep rfl 64 (.tmp 35) (.tmp 33) rfl (by rfl) (p := .pointer (some ⟨wa2.heap.size, 5, none⟩)) (u := .int .u64 y.toNat) (by rfl) (by rfl) [7] (by kernel_rfl) (fun f W' hF h0 h1 => ?_) ?_
      · obtain ⟨rfl, h2⟩ := FL.step (i := 1) rfl (by decide) hF h0 (FL.prev rfl (h1 7 (by simp))) (by omega)
        refine ⟨_, ?_, h2⟩
        simp [go_sem, wsK, s2, s1]
      simp only [Act.put, List.setIfInBounds_toArray, List.set_cons_zero, List.set_cons_succ]
      show ∀ w', _ → _
      intro w' hw'
      obtain rfl := FL.done hw'
      clear a1 s0 s1 s2 hw'
      have hW : wsK wa3 wa2.heap.size k y.toNat ([7, 9] : List Nat).length = wsK wa3 wa2.heap.size k y.toNat 2 := rfl
      rw [hW]
      generalize wsK wa3 wa2.heap.size k y.toNat 2 = V at HX ⊢
      obtain ⟨g1, g2, B⟩ := HX.out
      have c_g1 := g1.cell; have c_g2 := g2.cell; have f_g1 := g1.free; have f_g2 := g2.free
      go_wp2
      refine bodyPost_ret (v := .tuple #[.agg #[.int .i64 k, .int .i64 sz, .int .i64 sk, .int .i64 sty, .bool sm, .int .u64 y.toNat], .int .i64 0]) (by simp [results, Try.results91, go_sem, c_g1, c_g2, f_g1, f_g2, ne]) rfl ?_
      refine ⟨rfl, ?_⟩
      (repeat (first | refine Below.setCell ?_ (by first | exact Nat.le_refl _ | (simp <;> omega)) _ | refine Below.alloc ?_ (by first | exact B.size | (have := B.size; simp <;> omega)) _)); exact B
    · have hno : ¬ StOk l k := fun h => hl (by have := (hst.1 h).2; rw [← hs, ← hN] at this; exact this)
      have hr0 : r = 50 := by rw [hr, if_neg hno]
      have hb0 : b = .none := by rw [hb, if_neg hno]
      have n1 : (N : Int) - k < s.size := by omega
      subst hr0; subst hb0
      clear hst hs hz hgk hd hl hno hb hr hx h hN hk
      go_enter Try.func91, Try.ntmps91
      go_upto_region 1 with (fail)
      refine wp_gen (fun Wv => Bx Wv (w.heap.size) (84) (#[.int .i64 0, .int .i64 0, .int .i64 0, .int .i64 0, .bool false, .int .u64 0]) ∧ Below w.heap.size w Wv) ⟨((Bx.at_ (by simp))), ((Below.refl _ w).alloc (by simp <;> omega) _)⟩ ?_
      rintro wa1 ⟨g1, b⟩
      replace m0 := cell_later b m0; replace B := B.trans (b.mono B.size); clear b
      have c_g1 := g1.cell; have f_g1 := g1.free; have a_g1 := fun o => (g1.alloc o).cell; have d_g1 := fun o o2 => ((g1.alloc o).alloc o2).cell; have e_g1 := fun o => (g1.alloc o).free
      go_wp2_with fail
      refine (ST.out _).mono ?_
      rintro e wa2 ⟨rfl, b⟩
      replace m0 := cell_later b m0; try clear c_g1 f_g1 a_g1 d_g1 e_g1
      replace g1 := g1.below b; have c_g1 := g1.cell; have f_g1 := g1.free; have a_g1 := fun o => (g1.alloc o).cell; have d_g1 := fun o o2 => ((g1.alloc o).alloc o2).cell; have e_g1 := fun o => (g1.alloc o).free; replace B := B.trans (b.mono B.size); clear b
      go_upto_region 2 with (fail)
      refine wp_gen (fun Wv => Bx Wv (wa2.heap.size) (84) (#[.int .i64 s.at_, .int .i64 s.size, .int .i64 s.kind, .int .i64 s.ty, .bool s.mark, .int .u64 s.next.toNat]) ∧ Below wa2.heap.size wa2 Wv) ⟨((Bx.at_ (by simp))), ((Below.refl _ wa2).alloc (by simp <;> omega) _)⟩ ?_
      rintro wa3 ⟨g2, b⟩
      replace m0 := cell_later b m0; try clear c_g1 f_g1 a_g1 d_g1 e_g1
      replace g1 := g1.below b; have c_g1 := g1.cell; have f_g1 := g1.free; have a_g1 := fun o => (g1.alloc o).cell; have d_g1 := fun o o2 => ((g1.alloc o).alloc o2).cell; have e_g1 := fun o => (g1.alloc o).free; replace B := B.trans (b.mono B.size); clear b
      have c_g2 := g2.cell; have f_g2 := g2.free; have a_g2 := fun o => (g2.alloc o).cell; have d_g2 := fun o o2 => ((g2.alloc o).alloc o2).cell; have e_g2 := fun o => (g2.alloc o).free
      go_wp2
      refine bodyPost_ret (v := .tuple #[.agg #[.int .i64 0, .int .i64 0, .int .i64 0, .int .i64 0, .bool false, .int .u64 0], .int .i64 50]) (by simp [results, Try.results91, go_sem, c_g1, f_g1, a_g1, e_g1, c_g2, f_g2, a_g2, e_g2]) rfl ?_
      refine ⟨rfl, ?_⟩
      (repeat (first | refine Below.setCell ?_ (by first | exact Nat.le_refl _ | (simp <;> omega)) _ | refine Below.alloc ?_ (by first | exact B.size | (have := B.size; simp <;> omega)) _)); exact B
  · have hz0 : z = 50 := by rw [hz, splE, if_neg hd]
    have hno : ¬ StOk l k := fun h => hd (hst.1 h).1
    have hr0 : r = 50 := by rw [hr, if_neg hno]
    have hb0 : b = .none := by rw [hb, if_neg hno]
    subst hr0; subst hb0; subst hz0
    clear hst hs hz hgk hd hno hb hr hx h hN hk
    go_enter Try.func91, Try.ntmps91
    go_upto_region 1 with (fail)
    refine wp_gen (fun Wv => Bx Wv (w.heap.size) (84) (#[.int .i64 0, .int .i64 0, .int .i64 0, .int .i64 0, .bool false, .int .u64 0]) ∧ Below w.heap.size w Wv) ⟨((Bx.at_ (by simp))), ((Below.refl _ w).alloc (by simp <;> omega) _)⟩ ?_
    rintro wa1 ⟨g1, b⟩
    replace m0 := cell_later b m0; replace B := B.trans (b.mono B.size); clear b
    have c_g1 := g1.cell; have f_g1 := g1.free; have a_g1 := fun o => (g1.alloc o).cell; have d_g1 := fun o o2 => ((g1.alloc o).alloc o2).cell; have e_g1 := fun o => (g1.alloc o).free
    go_wp2_with fail
    refine (ST.out _).mono ?_
    rintro e wa2 ⟨rfl, b⟩
    replace m0 := cell_later b m0; try clear c_g1 f_g1 a_g1 d_g1 e_g1
    replace g1 := g1.below b; have c_g1 := g1.cell; have f_g1 := g1.free; have a_g1 := fun o => (g1.alloc o).cell; have d_g1 := fun o o2 => ((g1.alloc o).alloc o2).cell; have e_g1 := fun o => (g1.alloc o).free; replace B := B.trans (b.mono B.size); clear b
    go_upto_region 2 with (fail)
    refine wp_gen (fun Wv => Bx Wv (wa2.heap.size) (84) (#[.int .i64 s.at_, .int .i64 s.size, .int .i64 s.kind, .int .i64 s.ty, .bool s.mark, .int .u64 s.next.toNat]) ∧ Below wa2.heap.size wa2 Wv) ⟨((Bx.at_ (by simp))), ((Below.refl _ wa2).alloc (by simp <;> omega) _)⟩ ?_
    rintro wa3 ⟨g2, b⟩
    replace m0 := cell_later b m0; try clear c_g1 f_g1 a_g1 d_g1 e_g1
    replace g1 := g1.below b; have c_g1 := g1.cell; have f_g1 := g1.free; have a_g1 := fun o => (g1.alloc o).cell; have d_g1 := fun o o2 => ((g1.alloc o).alloc o2).cell; have e_g1 := fun o => (g1.alloc o).free; replace B := B.trans (b.mono B.size); clear b
    have c_g2 := g2.cell; have f_g2 := g2.free; have a_g2 := fun o => (g2.alloc o).cell; have d_g2 := fun o o2 => ((g2.alloc o).alloc o2).cell; have e_g2 := fun o => (g2.alloc o).free
    go_wp2
    refine bodyPost_ret (v := .tuple #[.agg #[.int .i64 0, .int .i64 0, .int .i64 0, .int .i64 0, .bool false, .int .u64 0], .int .i64 50]) (by simp [results, Try.results91, go_sem, c_g1, f_g1, a_g1, e_g1, c_g2, f_g2, a_g2, e_g2]) rfl ?_
    refine ⟨rfl, ?_⟩
    (repeat (first | refine Below.setCell ?_ (by first | exact Nat.le_refl _ | (simp <;> omega)) _ | refine Below.alloc ?_ (by first | exact B.size | (have := B.size; simp <;> omega)) _)); exact B
end Go.Proofs.Ytodbbacmdjcheaa
namespace Go.Proofs.Ytodbbacmdjcheaa
open Go.RowKit L01 L02 L05 L14 L15
theorem map_append_cons {o : Option (List Hb)} {L0 : List Hb} {b : Hb} : (o.map (b :: ·)).map (L0 ++ ·) = o.map ((L0 ++ [b]) ++ ·) := by
  cases o <;> simp
set_option maxRecDepth 100000 in
set_option maxHeartbeats 2000000 in
theorem From_any (v : Value) (l : List UInt64) (a : Int) (L : List Hb) (r : Int) (hL : L = fromL l a) (hr : r = fromErr l a) (w : World) (h : Words w v l) :
    Calls Try.prog 73 #[v, .int .i64 a] w fun e w' => ∃ x, e = .returned (.tuple #[x, .int .i64 r]) ∧ OwnK w' w.heap.size x L ∧ Below w.heap.size w w' := by
  have B : Below w.heap.size w w := Below.refl _ _
  have H := Lib.hid h
  have hlen := Rd.len_le h
  have lw := Rd.len h Try.underlying25
  obtain ⟨c, hc⟩ : ∃ c, c = chk l := ⟨_, rfl⟩
  have CT : Hid (∀ w, Words w v l → Calls Try.prog 63 #[v] w fun e w' => e = .returned (.int .i64 c) ∧ w = w') := by rw [hc]; exact Lib.hid (fun w h => Check_any v l w h)
  by_cases hs : SizeOk l.length
  case neg =>
    have hr0 : r = 8 := by rw [hr, fromErr, if_neg hs]
    have hL0 : L = [] := by rw [hL, fromL, ← hr, hr0]; rfl
    have hc8 : c = 8 := by rw [hc, chk_no hs]
    subst hr0; subst hL0; subst hc8
    clear hr hL hs hc h lw hlen
    go_enter Try.func73, Try.ntmps73
    go_wp2_with fail
    refine (CT.out _ (H.out.below B)).mono ?_
    rintro e w' ⟨rfl, rfl⟩
    go_wp2
    go_ret2
    exact ⟨_, rfl, OwnK.nil _ _, B⟩
  case pos =>
    have hc0 : c = 0 := by rw [hc, chk_ok hs]
    subst hc0
    obtain ⟨N, hN⟩ : ∃ N, N = l.length := ⟨_, rfl⟩
    rw [← hN] at lw hlen
    have hs2 := hs
    rw [← hN] at hs2
    obtain ⟨hn1, hn2, hn3⟩ := hs2
    by_cases hin : 128 ≤ a ∧ a ≤ N ∧ a % 2 = 0
    case neg =>
      have hr0 : r = 2 := by rw [hr, fromErr, if_pos hs, if_neg (by rw [← hN]; exact hin)]
      have hL0 : L = [] := by rw [hL, fromL, ← hr, hr0]; rfl
      subst hr0; subst hL0
      have hcase : a < 128 ∨ (128 ≤ a ∧ (N : Int) < a) ∨ (128 ≤ a ∧ a ≤ (N : Int) ∧ (a % 2 != 0) = true) := by
        by_cases h1 : a < 128
        · exact .inl h1
        · by_cases h2 : (N : Int) < a
          · exact .inr (.inl ⟨by omega, h2⟩)
          · exact .inr (.inr ⟨by omega, by omega, by rw [bne_iff_ne]; omega⟩)
      clear hr hL hs hc h hin hN
      rcases hcase with h1 | ⟨h0, h1⟩ | ⟨h0, h1, h2⟩
      all_goals
        go_enter Try.func73, Try.ntmps73
        go_wp2_with fail
        refine (CT.out _ (H.out.below B)).mono ?_
        rintro e w' ⟨rfl, rfl⟩
        go_wp2
        go_ret2
        exact ⟨_, rfl, OwnK.nil _ _, B⟩
    case pos =>
      obtain ⟨h1, h2, h3⟩ := hin
      obtain ⟨k, rfl⟩ := Int.eq_ofNat_of_zero_le (show 0 ≤ a by omega)
      have hre : r = if (from_ l k).isSome then 0 else 50 := by rw [hr, fromErr, if_pos hs, if_pos (by rw [← hN]; exact ⟨h1, h2, h3⟩), Int.toNat_natCast]
      have hLe : L = (from_ l k).getD [] := by
        rw [hL, fromL, ← hr, hre, Int.toNat_natCast]
        cases from_ l k with
        | none => rfl
        | some M => rfl
      have n1 : ¬ (k : Int) < 128 := by omega
      have n2 : ¬ (N : Int) < (k : Int) := by omega
      have n4 : decide ((k : Int) < 128) = false := decide_eq_false n1
      have n5 : decide (N < k) = false := decide_eq_false (by omega)
      have n6 : ¬ N < k := by omega
      have n3 : (k : Int).tmod 2 = 0 := by rw [Int.tmod_eq_emod_of_nonneg (by omega)]; omega
      have HR := Lib.hid (And.intro hre hLe); have HN := Lib.hid hN
      have hkN : k ≤ N := by omega
      clear hr hL hs hc h hre hLe h1 h2 h3 hN
      go_enter Try.func73, Try.ntmps73
      go_wp2_with fail
      refine (CT.out _ (H.out.below B)).mono ?_
      rintro e w' ⟨rfl, rfl⟩
      go_wp2
      have HB := Lib.hid B; clear B
      go_loopg [1, 7] (N - k) (fun g i xv wr => ∃ (q : Nat) (L0 : List Hb), q ≤ N ∧ g = N - q ∧ i = .int .i64 q ∧ Hid (OwnK wr w.heap.size xv L0 ∧ from_ l k = (from_ l q).map (L0 ++ ·) ∧ 2 * L0.length ≤ q ∧ Below w.heap.size w wr))
      case atStart => exact ⟨k, [], hkN, rfl, rfl, Lib.hid ⟨OwnK.nil _ _, by cases from_ l k <;> rfl, by simp, HB.out⟩⟩
      case round =>
        obtain ⟨q, L0, hq, rfl, rfl, hh⟩ := hrel
        clear HB
        by_cases hlt : q < N
        · by_cases hso : StOk l q
          · obtain ⟨b, hb⟩ : ∃ b, b = stand l q := ⟨_, rfl⟩
            have ST := Lib.hid (fun w h => stands_any v l q b 0 (by rw [← HN.out]; exact hlt) (by rw [if_pos hso, hb]) (by rw [if_pos hso]) w h)
            have hsz := szN_ge hso
            have hbs : b.size = (szN l q : Int) := by rw [hb]; exact stand_size hso
            have hst := from_step (by rw [← HN.out]; exact hlt) hso
            rw [← hb] at hst
            obtain ⟨z, hz⟩ : ∃ z, z = szN l q := ⟨_, rfl⟩
            rw [← hz] at hsz hbs hst
            rw [← HN.out] at hsz
            obtain ⟨hz1, -, -, hz4, -⟩ := hsz
            have o1 := hh.out.1
            have B := hh.out.2.2.2
            have hl0 := hh.out.2.2.1
            have hfr := hh.out.2.1
            rw [hst, map_append_cons] at hfr
            have HF := Lib.hid hfr
            have hB0 := B.size
            have hwq : IntKind.i64.wrap ((q : Int) + b.size) = ((q + z : Nat) : Int) := by rw [hbs, show ((q + z : Nat) : Int) = (q : Int) + z by omega]; exact IntWalk.i64_in _ (by omega)
            have HZ := Lib.hid (And.intro hz1 hz4)
            clear hb hst hfr hz hbs hso
            go_wp2_with fail
            refine (ST.out _ (H.out.below B)).mono ?_
            rintro e wa1 ⟨rfl, b⟩
            replace o1 := o1.below b; replace B := B.trans (b.mono B.size); clear b
            have hne := own_fresh o1
            go_upto_region 9 with (fail)
            refine wp_gen (fun Wv => Bx Wv (wa1.heap.size) (84) (#[.int .i64 b.at_, .int .i64 b.size, .int .i64 b.kind, .int .i64 b.ty, .bool b.mark, .int .u64 b.next.toNat]) ∧ Below wa1.heap.size wa1 Wv) ⟨((Bx.at_ (by simp))), ((Below.refl _ wa1).alloc (by simp <;> omega) _)⟩ ?_
            rintro wa2 ⟨g2, b⟩
            replace o1 := o1.below b; replace B := B.trans (b.mono B.size); clear b
            have c_g2 := g2.cell; have f_g2 := g2.free; have a_g2 := fun o => (g2.alloc o).cell; have d_g2 := fun o o2 => ((g2.alloc o).alloc o2).cell; have e_g2 := fun o => (g2.alloc o).free
            clear f_g2 a_g2 d_g2 e_g2
            go_wp2_with (at_builtin; refine wpList_append (by rfl) rfl rfl rfl Try.underlying92 info_block rfl (by omega) (by exact own_below o1 ((Below.refl _ _).alloc (Nat.le_refl _) _)) (by exact lit_block b (by simp)) (bkL_one b) (by omega) (by omega) (by exact B.alloc B.size _) (Nat.le_refl _) ?_; intro v1 w3 o3 B3 g3; have c_4 := ((g2.alloc _).grown g3 hne).cell; clear c_g2)
            have o4 : OwnK w3 w.heap.size v1 (L0 ++ [b]) := OwnK.of o3 (tabB_snoc L0 b)
            have HO := Lib.hid (And.intro o4 B3)
            go_roundg (N - (q + z))
            case measure => have := HZ.out.1; omega
            case rel => exact ⟨q + z, L0 ++ [b], by have := HZ.out.2; omega, rfl, rfl, Lib.hid ⟨HO.out.1, HF.out, by have := HZ.out.1; simp only [List.length_append, List.length_cons, List.length_nil]; omega, HO.out.2⟩⟩
          · have ST := Lib.hid (fun w h => stands_any v l q .none 50 (by rw [← HN.out]; exact hlt) (by rw [if_neg hso]) (by rw [if_neg hso]) w h)
            have hno := from_no (by rw [← HN.out]; exact hlt) hso
            have hfr := hh.out.2.1
            rw [hno] at hfr
            have hr0 : r = 50 := by rw [HR.out.1, hfr]; rfl
            have hL0 : L = [] := by rw [HR.out.2, hfr]; rfl
            subst hr0; subst hL0
            have B := hh.out.2.2.2
            clear hso hno hfr
            go_wp2_with fail
            refine (ST.out _ (H.out.below B)).mono ?_
            rintro e wa3 ⟨rfl, b⟩
            replace B := B.trans (b.mono B.size); clear b
            go_wp2
            go_ret2
            refine ⟨_, rfl, OwnK.nil _ _, ?_⟩
            (repeat (first | refine Below.setCell ?_ (by first | exact Nat.le_refl _ | (simp <;> omega)) _ | refine Below.alloc ?_ (by first | exact B.size | (have := B.size; simp <;> omega)) _)); exact B
        · obtain rfl : q = N := by omega
          have hfr := hh.out.2.1
          rw [show from_ l q = some [] by rw [HN.out]; exact from_end] at hfr
          have hr0 : r = 0 := by rw [HR.out.1, hfr]; rfl
          have hL0 : L = L0 := by rw [HR.out.2, hfr]; simp
          subst hr0; subst hL0
          have o1 := hh.out.1
          have B := hh.out.2.2.2
          clear hfr
          go_wp2
          go_ret2
          exact ⟨_, rfl, o1, B⟩
end Go.Proofs.Ytodbbacmdjcheaa
namespace Go.Proofs.Ytodbbacmdjcheaa
open Go.RowKit L01 L02 L05 L14 L15
/-- no two free extents side by side among the first j blocks -/
def NoAdj (L : List Hb) (j : Nat) : Prop := ∀ (i : Nat) (a b : Hb), i + 1 < j → L[i]? = some a → L[i + 1]? = some b → ¬ (a.kind = 2 ∧ b.kind = 2)
theorem noAdj_all {L : List Hb} (h : NoAdj L L.length) : ¬ Adj L := fun ha => by
  obtain ⟨i, a, b, h1, h2, h3, h4⟩ := adj_iff.1 ha
  exact h i a b (List.getElem?_eq_some_iff.1 h2).1 h1 h2 ⟨h3, h4⟩
theorem noAdj_step {L : List Hb} {j : Nat} (h : NoAdj L j) (h2 : ∀ (i : Nat) (a b : Hb), j = i + 1 → L[i]? = some a → L[i + 1]? = some b → ¬ (a.kind = 2 ∧ b.kind = 2)) : NoAdj L (j + 1) := fun i a b hi h3 h4 => by
  by_cases e : i + 1 = j
  · exact h2 i a b e.symm h3 h4
  · exact h i a b (by omega) h3 h4
theorem adj_at {L : List Hb} {i : Nat} {a b : Hb} (h1 : L[i]? = some a) (h2 : L[i + 1]? = some b) (h3 : a.kind = 2) (h4 : b.kind = 2) : Adj L := adj_iff.2 ⟨i, a, b, h1, h2, h3, h4⟩
theorem from128 {l : List UInt64} (hs : SizeOk l.length) : fromErr l 128 = if (from_ l 128).isSome then 0 else 50 := by
  have e : (128 : Int).toNat = 128 := rfl
  rw [fromErr, if_pos hs, if_pos (by have := hs.1; omega), e]
theorem fromL128 {l : List UInt64} {M : List Hb} (hs : SizeOk l.length) (hf : from_ l 128 = some M) : fromL l 128 = M := by
  have e : (128 : Int).toNat = 128 := rfl
  rw [fromL, if_pos (by rw [from128 hs, hf, if_pos Option.isSome_some]), e, hf]; rfl
theorem parsed_none {l : List UInt64} (hf : from_ l 128 = none) : parsed l = none := by
  unfold parsed
  generalize from_ l 128 = x at *
  subst hf; rfl
theorem parsed_some {l : List UInt64} {M : List Hb} (hf : from_ l 128 = some M) : parsed l = if Adj M then none else some M := by
  unfold parsed
  generalize from_ l 128 = x at *
  subst hf; rfl
set_option maxRecDepth 100000 in
set_option maxHeartbeats 2000000 in
theorem AllW_any (v : Value) (l : List UInt64) (L : List Hb) (r : Int) (hL : L = allL l) (hr : r = allErr l) (w : World) (h : Words w v l) :
    Calls Try.prog 43 #[v] w fun e w' => ∃ x, e = .returned (.tuple #[x, .int .i64 r]) ∧ OwnK w' w.heap.size x L ∧ Below w.heap.size w w' := by
  have B : Below w.heap.size w w := Below.refl _ _
  have H := Lib.hid h
  obtain ⟨L0, hL0⟩ : ∃ L0, L0 = fromL l 128 := ⟨_, rfl⟩
  obtain ⟨r0, hr0⟩ : ∃ r0, r0 = fromErr l 128 := ⟨_, rfl⟩
  have FT := Lib.hid (fun w h => From_any v l 128 L0 r0 hL0 hr0 w h)
  by_cases h0 : r0 = 0
  case neg =>
    have hn : (r0 != 0) = true := by rw [bne_iff_ne]; exact h0
    have hre : r = r0 := by
      rw [hr, allErr]
      by_cases hs : SizeOk l.length
      · rw [if_pos hs]
        rw [from128 hs] at hr0
        cases hf : from_ l 128 with
        | none => rw [hf, if_neg (by simp)] at hr0; rw [hr0, parsed_none hf, if_neg (by simp)]
        | some M => rw [hf, if_pos Option.isSome_some] at hr0; exact absurd hr0 h0
      · rw [if_neg hs, hr0, fromErr, if_neg hs]
    have hL1 : L = [] := by rw [hL, allL, ← hr, hre, if_neg h0]
    subst hL1; subst hre
    clear hL hr hL0 hr0 h h0
    go_enter Try.func43, Try.ntmps43
    go_wp2_with fail
    refine (FT.out _ (H.out.below B)).mono ?_
    rintro e wa1 ⟨x1, rfl, o1, b⟩
    replace B := B.trans (b.mono B.size); clear b
    go_wp2
    go_ret2
    exact ⟨_, rfl, OwnK.nil _ _, B⟩
  case pos =>
    have hs : SizeOk l.length := by
      rw [h0] at hr0
      by_cases hs : SizeOk l.length
      · exact hs
      · rw [fromErr, if_neg hs] at hr0; omega
    have hf : from_ l 128 = some L0 := by
      rw [h0, from128 hs] at hr0
      cases hf : from_ l 128 with
      | none => rw [hf, if_neg (by simp)] at hr0; omega
      | some M => rw [hL0, fromL128 hs hf]
    have hre : r = if Adj L0 then 50 else 0 := by
      rw [hr, allErr, if_pos hs, parsed_some hf]
      by_cases ha : Adj L0 <;> simp [ha]
    have hLe : L = if Adj L0 then [] else L0 := by
      rw [hL, allL, ← hr, hre, parsed_some hf]
      by_cases ha : Adj L0 <;> simp [ha]
    have HR := Lib.hid (And.intro hre hLe)
    subst h0
    obtain ⟨N, hN⟩ : ∃ N, N = L0.length := ⟨_, rfl⟩
    have HN := Lib.hid hN
    clear hL hr hL0 hr0 h hs hf hre hLe
    go_enter Try.func43, Try.ntmps43
    go_wp2_with fail
    refine (FT.out _ (H.out.below B)).mono ?_
    rintro e wa1 ⟨x1, rfl, o1, b⟩
    replace B := B.trans (b.mono B.size); clear b
    have lx := o1.rd.len
    have hlen := o1.rd.len_le
    rw [← hN] at lx hlen
    clear hN
    go_wp2
    go_loopg [17] N (fun g i wr => ∃ j : Nat, j ≤ N ∧ g = N - j ∧ i = .int .i64 j ∧ wr = wa1 ∧ Hid (NoAdj L0 j))
    case atStart => exact ⟨0, by omega, by omega, rfl, rfl, Lib.hid (fun i a b h1 => by omega)⟩
    case round =>
      obtain ⟨j, hj, rfl, rfl, rfl, hna⟩ := hrel
      by_cases hlt : j < N
      · obtain ⟨bb, oo, s, ia, _, _, m0, _, _, _, hs, _⟩ := o1.rd.at_ (k := j) (by rw [← HN.out]; exact hlt)
        rcases j with _ | i
        · have n1 : ¬ (0 : Int) < ((0 : Nat) : Int) := by omega
          go_wp2
          go_roundg (N - 1)
          case measure => omega
          case rel => exact ⟨1, by omega, rfl, by go_num, rfl, Lib.hid (noAdj_step hna.out (fun i a b h1 => by omega))⟩
        · obtain ⟨b2, o2, t, ia2, _, _, m1, _, _, _, ht, _⟩ := o1.rd.at_ (k := i) (by rw [← HN.out]; omega)
          have ia3 : ∀ W, (Instr.indexAt 92 x1 (.int .i64 ((i : Int) + 1))).run Try.prog W = .ok (.pointer (some ⟨bb, oo, none⟩)) W := ia
          have hw : IntKind.i64.wrap ((i : Int) + 1 - 1) = (i : Int) := by rw [show (i : Int) + 1 - 1 = (i : Int) by omega]; exact IntWalk.i64_in _ (by omega)
          have hw2 : IntKind.i64.wrap (i : Int) = (i : Int) := IntWalk.i64_in _ (by omega)
          have n1 : (0 : Int) < (i : Int) + 1 := by omega
          by_cases hk : t.kind = 2 ∧ s.kind = 2
          · have ha := adj_at ht.out hs.out hk.1 hk.2
            have hr0 : r = 50 := by rw [HR.out.1, if_pos ha]
            have hL0 : L = [] := by rw [HR.out.2, if_pos ha]
            rw [hk.2] at m0; rw [hk.1] at m1
            subst hr0; subst hL0
            clear hk ha
            go_wp2
            go_ret2
            exact ⟨_, rfl, OwnK.nil _ _, B⟩
          · have hna2 : NoAdj L0 (i + 1 + 1) := noAdj_step hna.out (fun i' a b h1 h2 h3 => by
              obtain rfl : i' = i := by omega
              rw [ht.out] at h2; rw [hs.out] at h3
              injection h2 with h2; injection h3 with h3; subst h2; subst h3; exact hk)
            have HNA := Lib.hid hna2; clear hna2
            by_cases hs2 : s.kind = 2
            · have ht2 : (t.kind == 2) = false := by rw [beq_eq_false_iff_ne]; exact fun e => hk ⟨e, hs2⟩
              rw [hs2] at m0
              clear hk hs2
              go_wp2
              go_roundg (N - (i + 1 + 1))
              case measure => omega
              case rel => exact ⟨i + 1 + 1, by omega, rfl, by go_num, rfl, HNA⟩
            · have ht2 : (s.kind == 2) = false := by rw [beq_eq_false_iff_ne]; exact hs2
              clear hk hs2
              go_wp2
              go_roundg (N - (i + 1 + 1))
              case measure => omega
              case rel => exact ⟨i + 1 + 1, by omega, rfl, by go_num, rfl, HNA⟩
      · obtain rfl : j = N := by omega
        have ha : ¬ Adj L0 := noAdj_all (by rw [← HN.out]; exact hna.out)
        have hr0 : r = 0 := by rw [HR.out.1, if_neg ha]
        have hL0 : L = L0 := by rw [HR.out.2, if_neg ha]
        subst hr0; subst hL0
        clear ha
        go_wp2
        go_ret2
        exact ⟨_, rfl, o1, B⟩
end Go.Proofs.Ytodbbacmdjcheaa
namespace Go.Proofs.Ytodbbacmdjcheaa
open Go.RowKit L01 L02 L05 L14 L15
end Go.Proofs.Ytodbbacmdjcheaa
namespace Go.Proofs.Ytodbbacmdjcheaa
open Go.RowKit
end Go.Proofs.Ytodbbacmdjcheaa
namespace Go.Proofs.Ytodbbacmdjcheaa
open Go.RowKit L01 L02 L05 L14 L15
/-- A slice of bools of the call's own. -/
def OwnBl (w : World) (base : Nat) (v : Value) (R : List Bool) : Prop := w.ownsRow base 4 1 v R.length (R.map .bool)
theorem OwnBl.below {w w' : World} {base : Nat} {v : Value} {R : List Bool} (h : OwnBl w base v R) (hb : Below w.heap.size w w') : OwnBl w' base v R := own_below h hb
theorem OwnBl.of {w : World} {B n : Nat} {v : Value} {xs : List Value} {R : List Bool} (h : w.ownsRow B 4 1 v n xs) (hx : xs = R.map .bool) : OwnBl w B v R := by
  subst hx
  have hn : n = R.length := by have := h.1; simp at this; omega
  subst hn; exact h
end Go.Proofs.Ytodbbacmdjcheaa
namespace Go.Proofs.Ytodbbacmdjcheaa
open Go.RowKit Go.Maps
def i64Ok (a : Int) : Prop := -9223372036854775808 ≤ a ∧ a ≤ 9223372036854775807
theorem lit_wf {a : Int} (h : i64Ok a) : (Lit.int .i64 a).wf = true := by
  unfold i64Ok at h
  have e1 : IntKind.i64.min = -9223372036854775808 := by decide
  have e2 : IntKind.i64.max = 9223372036854775807 := by decide
  simp [Lit.wf, e1, e2]
  omega
/-- block g is a map of at most n entries that yields the literal f a at a, z0 where nothing stands -/
def MapL (P : Program) (k e : TypeId) (z0 : Lit) (W : World) (g n : Nat) (f : Int → Lit) : Prop :=
  ∃ D : DataW Unit, W.ownsMap P k (plainElem P e) g n D ∧ ∀ a, D.atKey (.int .i64 a) (.lit z0) = .lit (f a)
section
variable {P : Program} {k e : TypeId} {z0 : Lit} {W : World} {g n : Nat} {f : Int → Lit}
theorem MapL.made (W : World) : MapL P k e z0 (W.alloc (.map #[] 0)) W.heap.size 0 (fun _ => z0) :=
  ⟨.map [], World.ownsMap_made W P k _, fun a => rfl⟩
theorem MapL.lt (h : MapL P k e z0 W g n f) : g < W.heap.size := by obtain ⟨D, h1, _⟩ := h; exact h1.lt
theorem MapL.kept {W' : World} {row : Option Nat} (h : MapL P k e z0 W g n f) (hg : W.grownBy W' row) (hne : some g ≠ row) : MapL P k e z0 W' g n f := by
  obtain ⟨D, h1, h2⟩ := h; exact ⟨D, h1.kept hg hne, h2⟩
theorem MapL.below {W' : World} (h : MapL P k e z0 W g n f) (hb : Below W.heap.size W W') : MapL P k e z0 W' g n f := by
  obtain ⟨D, ⟨es, clock, hh, F, hs, hD⟩, h2⟩ := h
  exact ⟨D, ⟨es, clock, (hb.block g (Array.getElem?_eq_some_iff.1 hh).1).trans hh, F, hs, hD⟩, h2⟩
theorem MapL.mono {n' : Nat} (h : MapL P k e z0 W g n f) (hn : n ≤ n') : MapL P k e z0 W g n' f := by
  obtain ⟨D, h1, h2⟩ := h; exact ⟨D, h1.mono hn, h2⟩
/-- a store, as an equation on its run -/
theorem MapL.put {t : TypeId} (h : MapL P k e z0 W g n f) (hk : P.underlying k = some (.int .i64)) (ht : P.underlying t = some (.map k e)) (hn : n < maxLen) {a : Int} (ha : i64Ok a) {v : Value} {l : Lit} (hv : plainElem (H := Unit) P e v = some (.lit l, [])) :
    ∃ W', (Instr.mapUpdate t (.map (some g)) (.int .i64 a) v).run P W = .ok () W' ∧ MapL P k e z0 W' g (n + 1) (fun b => if b = a then l else f b) ∧ W.grownBy W' (some g) := by
  obtain ⟨D, h1, h2⟩ := h
  obtain ⟨W', r1, r2, r3⟩ := h1.update (int_keyed hk) ht hn (keyOf_int_mk hk (lit_wf ha)) hv
  refine ⟨W', r1, ⟨_, r2, fun b => ?_⟩, r3⟩
  by_cases hb : b = a
  · subst hb
    show _ = DataW.lit (if b = b then l else f b)
    rw [if_pos rfl]
    exact atKey_put_same (h1.isMap) ((int_keyed hk).key (keyOf_int_mk hk (lit_wf ha))) _ _
  · show _ = DataW.lit (if b = a then l else f b)
    rw [if_neg hb, atKey_put_other (by intro e; injection e with _ e; exact hb e), h2]
theorem plainElem_bool_inv {v : Value} {b : Bool} {ps : List MemPlace} (he : P.underlying e = some .bool) (h : plainElem (H := Unit) P e v = some (.lit (.bool b), ps)) : v = .bool b := by
  unfold plainElem at h
  rw [he] at h
  cases v <;> simp at h
  rw [h.1]
/-- a look-up -/
theorem MapL.lookB {t : TypeId} {S : Int → Bool} (h : MapL P k e (.bool false) W g n (fun a => .bool (S a))) (hk : P.underlying k = some (.int .i64)) (ht : P.underlying t = some (.map k e)) (he : P.underlying e = some .bool) (hz : (zeroValue e).run P W = .ok (.bool false) W) {a : Int} (ha : i64Ok a) :
    (Instr.lookup t (.map (some g)) (.int .i64 a) false).run P W = .ok (.bool (S a)) W := by
  obtain ⟨D, h1, h2⟩ := h
  obtain ⟨v, ps, hrun, hv⟩ := h1.lookup (int_keyed hk) ht hz (plainElem_bool he false) (keyOf_int_mk hk (lit_wf ha))
  rw [h2] at hv
  rw [hrun, plainElem_bool_inv he hv]
/-- a store at the operation, for the walk -/
theorem wpList_mapPut {ops : Array Oper} {rest : List Oper} {o : Oper} {a : Act} {Q : Exit → Act → World → Prop} (hg : o.guard = none) {m x v : Operand} {t : TypeId} (hop : o.op = Op.mapUpdate t m x v) (hk : P.underlying k = some (.int .i64)) (ht : P.underlying t = some (.map k e))
    (hm : a.eval m = .map (some g)) {key : Int} {val : Value} {l : Lit} (hx : a.eval x = .int .i64 key) (hv : a.eval v = val) (h : MapL P k e z0 W g n f) (hn : n < maxLen) (hkey : i64Ok key) (hval : plainElem (H := Unit) P e val = some (.lit l, []))
    (hK : ∀ W', MapL P k e z0 W' g (n + 1) (fun b => if b = key then l else f b) → W.grownBy W' (some g) → wpList P ops Q rest (a.put o.dst undef) W') : wpList P ops Q (o :: rest) a W := by
  refine wpList_plain hg fun K' hK' => ?_
  obtain ⟨W', hrun, r1, r2⟩ := h.put hk ht hn hkey hval
  unfold Oper.wp
  simp [execOp, hop, hm, hx, hv, hrun, Result.andThen]
  exact hK' _ _ (hK W' r1 r2)
end
end Go.Proofs.Ytodbbacmdjcheaa
namespace Go.Proofs.Ytodbbacmdjcheaa
open Go.RowKit L01 L02 L18
def slV (s : Sl) : Value := .agg #[.int .i64 s.gen, .bool s.used, .int .i64 s.at_]
set_option maxHeartbeats 600000 in
theorem right_any (s : Sl) (b : Bool) (hb : b = decide (Right s)) (w : World) : Calls Try.prog 101 #[.agg #[.int .i64 s.gen, .bool s.used, .int .i64 s.at_]] w fun e w' => e = .returned (.bool b) ∧ Below w.heap.size w w' := by
  have HB := Lib.hid hb; clear hb
  obtain ⟨g, u, a⟩ := s
  dsimp only at *
  cases u
  all_goals
    go_enter Try.func101, Try.ntmps101
    go_wp2
    all_goals
      go_ret
      refine ⟨ret_bool ?_, (Below.refl _ _).alloc (Nat.le_refl _) _⟩
      rw [HB.out]
      exact bool_dec (by simp [Right]; try omega)
set_option maxHeartbeats 600000 in
theorem pack_any (s : Sl) (x : UInt64) (hx : x = pk s) (hs : Right s) (w : World) : Calls Try.prog 81 #[.agg #[.int .i64 s.gen, .bool s.used, .int .i64 s.at_]] w fun e w' => e = .returned (.int .u64 x.toNat) ∧ Below w.heap.size w w' := by
  have hn := pk_nat hs
  rw [← hx] at hn
  obtain ⟨h1, h2, h3, h4⟩ := hs
  clear hx
  obtain ⟨g, u, a⟩ := s
  dsimp only at *
  cases u
  · have h5 := h3 rfl
    subst h5
    have e1 := or_int (a := 0) (b := g * 4294967296) 32 g.toNat (by omega) (by decide) (by omega) (by omega) (by omega)
    rw [pkN_f ⟨h1, h2, h3, h4⟩ rfl] at hn
    have HN := Lib.hid hn; clear hn h3 h4
    go_enter Try.func81, Try.ntmps81
    go_wp2
    go_ret
    exact ⟨ret_int (by have := HN.out; omega), (Below.refl _ _).alloc (Nat.le_refl _) _⟩
  · obtain ⟨h5, h6, h7⟩ := h4 rfl
    have e1 := or_int (a := a) (b := g * 4294967296) 32 g.toNat (by omega) (by simp; omega) (by omega) (by omega) (by omega)
    have e2 := or_int (a := a + g * 4294967296) (b := 9223372036854775808) 63 1 (by omega) (by simp; omega) (by decide) (by omega) (by omega)
    rw [pkN_t rfl] at hn
    have HN := Lib.hid hn; clear hn h3 h4
    go_enter Try.func81, Try.ntmps81
    go_wp2
    go_ret
    exact ⟨ret_int (by have := HN.out; omega), (Below.refl _ _).alloc (Nat.le_refl _) _⟩
end Go.Proofs.Ytodbbacmdjcheaa
namespace Go.Proofs.Ytodbbacmdjcheaa
open Go.RowKit L01 L02 L18
theorem spl_int (x : UInt64) (s : Sl) (h : s = spl x) : (x.toNat : Int) / 4294967296 % 2147483648 = s.gen ∧ ((x.toNat : Int) / 9223372036854775808 == 1) = s.used ∧ (x.toNat : Int) % 4294967296 = s.at_ := by
  subst h
  refine ⟨?_, ?_, ?_⟩
  · show _ = ((x.toNat / 4294967296 % 2147483648 : Nat) : Int); omega
  · show _ = decide (x.toNat / 9223372036854775808 = 1)
    rw [Bool.eq_iff_iff, beq_iff_eq, decide_eq_true_iff]; omega
  · show _ = ((x.toNat % 4294967296 : Nat) : Int); omega
set_option maxHeartbeats 1000000 in
theorem Split_any (x : UInt64) (w : World) : Calls Try.prog 90 #[.int .u64 x.toNat] w fun e w' => e = .returned (.tuple #[slV (spl0 x), .int .i64 (splErr x)]) ∧ Below w.heap.size w w' := by
  have B : Below w.heap.size w w := Below.refl _ _
  have hxl := toNat_lt x
  obtain ⟨s, hs⟩ : ∃ s, s = spl x := ⟨_, rfl⟩
  obtain ⟨i1, i2, i3⟩ := spl_int x s hs
  have e1 := and_int (a := (x.toNat : Int) / 4294967296) 31 (by omega) (by omega) 2147483647 (by decide) (by omega)
  have e2 := and_int (a := (x.toNat : Int)) 32 (by omega) (by omega) 4294967295 (by decide) (by omega)
  rw [show ((2 ^ 31 : Nat) : Int) = 2147483648 from rfl, i1] at e1
  rw [show ((2 ^ 32 : Nat) : Int) = 4294967296 from rfl, i3] at e2
  have b1 : 0 ≤ s.gen ∧ s.gen ≤ 2147483647 := by omega
  have b3 : 0 ≤ s.at_ ∧ s.at_ ≤ 4294967295 := by omega
  clear i1 i3
  by_cases hr : Right s
  · have k0 : spl0 x = s := by rw [spl0, ← hs, if_pos hr]
    have k1 : splErr x = 0 := by rw [splErr, ← hs, if_pos hr]
    have RT := fun w => right_any s true (decide_eq_true hr).symm w
    rw [k0, k1]
    have RT := Lib.hid RT; clear hs hr k0 k1
    obtain ⟨g, u, a⟩ := s
    dsimp only at *
    obtain ⟨b1, b2⟩ := b1
    obtain ⟨b3, b4⟩ := b3
    unfold slV
    go_enter Try.func90, Try.ntmps90
    go_wp2_with fail
    refine calls_gen (fun Wv => Bx Wv (w.heap.size) (56) (#[.int .i64 0, .bool false, .int .i64 0]) ∧ Bx Wv (w.heap.size + 1) (56) (#[.int .i64 g, .bool u, .int .i64 a]) ∧ Below w.heap.size w Wv) ⟨(((Bx.at_ (by simp)).alloc _)), ((Bx.at_ (by simp))), (((Below.refl _ w).alloc (by simp <;> omega) _).alloc (by simp <;> omega) _)⟩ ?_
    rintro w' ⟨g0, g1, b⟩
    replace B := B.trans (b.mono B.size); clear b
    have c_g0 := g0.cell; have f_g0 := g0.free; have a_g0 := fun o => (g0.alloc o).cell; have d_g0 := fun o o2 => ((g0.alloc o).alloc o2).cell; have e_g0 := fun o => (g0.alloc o).free
    have c_g1 := g1.cell; have f_g1 := g1.free; have a_g1 := fun o => (g1.alloc o).cell; have d_g1 := fun o o2 => ((g1.alloc o).alloc o2).cell; have e_g1 := fun o => (g1.alloc o).free
    go_wp2_with fail
    refine (RT.out _).mono ?_
    rintro e w' ⟨rfl, b⟩
    try clear c_g0 f_g0 a_g0 d_g0 e_g0
    replace g0 := g0.below b; have c_g0 := g0.cell; have f_g0 := g0.free; have a_g0 := fun o => (g0.alloc o).cell; have d_g0 := fun o o2 => ((g0.alloc o).alloc o2).cell; have e_g0 := fun o => (g0.alloc o).free; try clear c_g1 f_g1 a_g1 d_g1 e_g1
    replace g1 := g1.below b; have c_g1 := g1.cell; have f_g1 := g1.free; have a_g1 := fun o => (g1.alloc o).cell; have d_g1 := fun o o2 => ((g1.alloc o).alloc o2).cell; have e_g1 := fun o => (g1.alloc o).free; replace B := B.trans (b.mono B.size); clear b
    go_wp2
    refine bodyPost_ret (v := .tuple #[.agg #[.int .i64 g, .bool u, .int .i64 a], .int .i64 0]) (by simp [results, Try.results90, go_sem, c_g0, f_g0, a_g0, e_g0, c_g1, f_g1, a_g1, e_g1]) rfl ?_
    refine ⟨rfl, ?_⟩
    (repeat (first | refine Below.setCell ?_ (by first | exact Nat.le_refl _ | (simp <;> omega)) _ | refine Below.alloc ?_ (by first | exact B.size | (have := B.size; simp <;> omega)) _)); exact B
  · have k0 : spl0 x = .none := by rw [spl0, ← hs, if_neg hr]
    have k1 : splErr x = 50 := by rw [splErr, ← hs, if_neg hr]
    have RT := fun w => right_any s false (decide_eq_false hr).symm w
    rw [k0, k1]
    have RT := Lib.hid RT; clear hs hr k0 k1
    obtain ⟨g, u, a⟩ := s
    dsimp only at *
    obtain ⟨b1, b2⟩ := b1
    obtain ⟨b3, b4⟩ := b3
    unfold slV Sl.none
    dsimp only
    go_enter Try.func90, Try.ntmps90
    go_wp2_with fail
    refine calls_gen (fun Wv => Bx Wv (w.heap.size) (56) (#[.int .i64 0, .bool false, .int .i64 0]) ∧ Bx Wv (w.heap.size + 1) (56) (#[.int .i64 g, .bool u, .int .i64 a]) ∧ Below w.heap.size w Wv) ⟨(((Bx.at_ (by simp)).alloc _)), ((Bx.at_ (by simp))), (((Below.refl _ w).alloc (by simp <;> omega) _).alloc (by simp <;> omega) _)⟩ ?_
    rintro w' ⟨g0, g1, b⟩
    replace B := B.trans (b.mono B.size); clear b
    have c_g0 := g0.cell; have f_g0 := g0.free; have a_g0 := fun o => (g0.alloc o).cell; have d_g0 := fun o o2 => ((g0.alloc o).alloc o2).cell; have e_g0 := fun o => (g0.alloc o).free
    have c_g1 := g1.cell; have f_g1 := g1.free; have a_g1 := fun o => (g1.alloc o).cell; have d_g1 := fun o o2 => ((g1.alloc o).alloc o2).cell; have e_g1 := fun o => (g1.alloc o).free
    go_wp2_with fail
    refine (RT.out _).mono ?_
    rintro e w' ⟨rfl, b⟩
    try clear c_g0 f_g0 a_g0 d_g0 e_g0
    replace g0 := g0.below b; have c_g0 := g0.cell; have f_g0 := g0.free; have a_g0 := fun o => (g0.alloc o).cell; have d_g0 := fun o o2 => ((g0.alloc o).alloc o2).cell; have e_g0 := fun o => (g0.alloc o).free; try clear c_g1 f_g1 a_g1 d_g1 e_g1
    replace g1 := g1.below b; have c_g1 := g1.cell; have f_g1 := g1.free; have a_g1 := fun o => (g1.alloc o).cell; have d_g1 := fun o o2 => ((g1.alloc o).alloc o2).cell; have e_g1 := fun o => (g1.alloc o).free; replace B := B.trans (b.mono B.size); clear b
    go_wp2
    refine bodyPost_ret (v := .tuple #[.agg #[.int .i64 0, .bool false, .int .i64 0], .int .i64 50]) (by simp [results, Try.results90, go_sem, c_g0, f_g0, a_g0, e_g0, c_g1, f_g1, a_g1, e_g1]) rfl ?_
    refine ⟨rfl, ?_⟩
    (repeat (first | refine Below.setCell ?_ (by first | exact Nat.le_refl _ | (simp <;> omega)) _ | refine Below.alloc ?_ (by first | exact B.size | (have := B.size; simp <;> omega)) _)); exact B
theorem Split_r (x : UInt64) (s : Sl) (r : Int) (hx : s = spl0 x) (hr : r = splErr x) (w : World) : Calls Try.prog 90 #[.int .u64 x.toNat] w fun e w' => e = .returned (.tuple #[.agg #[.int .i64 s.gen, .bool s.used, .int .i64 s.at_], .int .i64 r]) ∧ Below w.heap.size w w' := by
  subst hx hr; exact Split_any x w
end Go.Proofs.Ytodbbacmdjcheaa
