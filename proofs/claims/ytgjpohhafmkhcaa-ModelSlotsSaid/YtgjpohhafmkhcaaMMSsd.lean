/- Contracts of the functions that the law 'ModelSlots' reaches, part 4. No condition. -/
import Derived.Test.YtgjpohhafmkhcaaMMSsc
set_option linter.unusedVariables false
set_option linter.unusedSimpArgs false
namespace Go.Proofs.Ytgjpohhafmkhcaa
open Go.RowKit L02 L13 L18 L20
/-- a row of an own table -/
theorem OwnT.at1 {w : World} {base : Nat} {v : Value} {L : List (List UInt8)} (h : OwnT w base v L) {k : Nat} {l : List UInt8} (hl : L[k]? = some l) :
    ∃ ad y, (∀ W, (Instr.indexAt 22 v (.int .i64 (k : Int))).run Try.prog W = .ok (.pointer (some ad)) W) ∧ w.cell? ad = some y ∧ (∀ ty W, (Builtin.len_ #[74] ty #[y]).run Try.prog W = .ok (.int .i64 (l.length : Int)) W) ∧ v.ownBlock = some ad.block := by
  obtain ⟨vs, h1, h2, h4⟩ := h
  have hk : k < L.length := (List.getElem?_eq_some_iff.1 hl).1
  have hv : vs[k]? = some vs[k] := List.getElem?_eq_getElem (by omega)
  have hr := h4 k _ _ hv hl
  obtain ⟨g, c, cur, e, hg, _⟩ := own_form h2 (by omega)
  refine ⟨cellAt v (k * 1), vs[k], fun W => Rd.ixN (Rd.of_own h2) Try.underlying22 one_bytes hk W, by rw [Nat.mul_one]; exact Rd.cell (Rd.of_own h2) hv, Rd.len (OwnB.rd hr) Try.underlying74, ?_⟩
  rw [e]; rfl
/-- make([]uint64, n) -/
theorem run_make_words {w : World} (n : Nat) (hn : n ≤ 1000) : ∃ w', (Instr.makeSlice 70 (.int .i64 (n : Int)) (.int .i64 (n : Int))).run Try.prog w = .ok (.slice (some ⟨w.heap.size, 0, none⟩) n n) w' ∧ OwnW w' w.heap.size 29 (.slice (some ⟨w.heap.size, 0, none⟩) n n) (List.replicate n 0) ∧ Below w.heap.size w w' := by
  obtain ⟨i, hi1, hi2, hi3, hi4⟩ := info3 info_u64
  obtain ⟨w', hrun, g1, g2⟩ := run_make_full (P := Try.prog) w w.heap.size 70 _ i _ 1 Try.underlying70 hi1 hi2 hi3 .i64 .i64 n (by rw [hi4]; omega) (by unfold maxLen; omega) (Nat.le_refl _)
  refine ⟨w', hrun, OwnW.of g1 ?_, (Below.refl _ w).grown g2 (Nat.le_refl _) (fun _ hk => by cases hk)⟩
  rw [Nat.mul_one, show (Value.int IntKind.u64 0).cells = #[Value.int IntKind.u64 0] from rfl, toList_madeCells_one]
  simp [u64]
set_option maxRecDepth 100000 in
set_option maxHeartbeats 8000000 in
theorem Alloc20_any (tv ov sv : Value) (m : Mo) (t : Int) (M : Mo) (r hs hg : Int) (hM : M = allM m t) (hr : r = allE m t) (hhs : hs = allS m t) (hhg : hg = allG m t) (w : World) (h : Mod w tv ov sv m) :
    Calls Try.prog 26 #[.agg #[tv, ov, sv], .int .i64 t] w fun e w' => ∃ t' o' s', e = .returned (.tuple #[.agg #[t', o', s'], .agg #[.int .i64 hs, .int .i64 hg], .int .i64 r]) ∧ Mod w' t' o' s' M ∧ Below w.heap.size w w' := by
  have B : Below w.heap.size w w := Below.refl _ _
  have H := Lib.hid h
  have hno : r ≠ 0 → M = .nil ∧ hs = 0 ∧ hg = 0 := fun h => ⟨by rw [hM, allM, ← hr, if_neg h], by rw [hhs, allS, ← hr, if_neg h], by rw [hhg, allG, ← hr, if_neg h]⟩
  obtain ⟨c, hc⟩ : ∃ c, c = chk m := ⟨_, rfl⟩
  have CT := Lib.hid (fun w h => Check20_any tv ov sv m c hc w h)
  have lt := h.t.len
  obtain ⟨NT, hNT⟩ : ∃ N, N = m.types.length := ⟨_, rfl⟩
  rw [← hNT] at lt
  by_cases h0 : chk m = 0
  · have hc0 : c = 0 := by rw [hc, h0]
    subst hc0
    by_cases ht : 0 ≤ t ∧ t < NT
    · obtain ⟨q, rfl⟩ := Int.eq_ofNat_of_zero_le ht.1
      have n1 : ¬ (q : Int) < 0 := by omega
      have n2 : ¬ (NT : Int) ≤ (q : Int) := by omega
      have n3 : ¬ NT ≤ q := by omega
      have hq : q < m.types.length := by omega
      obtain ⟨l, hl⟩ : ∃ l, m.types[q]? = some l := ⟨_, List.getElem?_eq_getElem hq⟩
      obtain ⟨k1, k2, k3⟩ := chk_ok h0
      have hl8 : l.length ≤ 8 := (kErr_ok (k3.2.1 l (List.mem_of_getElem? hl))).1
      have CP := Lib.hid (fun w h => copied_any tv ov sv m (small_chk h0) w h)
      obtain ⟨NO, hNO⟩ : ∃ N, N = m.objs.length := ⟨_, rfl⟩
      obtain ⟨a, b, ok, m2, hHC, hway⟩ := handle_way (m := m) (n := (NO : Int)) h0 (by omega)
      have HC := Lib.hid hHC; have HW := Lib.hid hway
      have hr1 : next m.slots = none → r = 23 := fun hn => by rw [hr, allE, if_pos h0, if_pos (by omega), if_pos hn]
      have hr2 : ∀ k, next m.slots = some k → NO = 960 → r = 4 := fun k hn h9 => by rw [hr, allE, if_pos h0, if_pos (by omega), if_neg (by rw [hn]; exact fun e => by cases e), if_pos (by omega)]
      have hr3 : ∀ k, next m.slots = some k → ¬ NO = 960 → r = 0 := fun k hn h9 => by rw [hr, allE, if_pos h0, if_pos (by omega), if_neg (by rw [hn]; exact fun e => by cases e), if_neg (by omega)]
      have hyes : r = 0 → M = ⟨m.types, m.objs ++ [⟨(q : Int), List.replicate l.length 0⟩], givS m m.objs.length ((next m.slots).getD 0)⟩ ∧ hs = ((next m.slots).getD 0 : Nat) ∧ hg = (m.slots.getD ((next m.slots).getD 0) .none).gen + 1 := fun h => ⟨by rw [hM, allM, ← hr, if_pos h, newO]; simp [List.getD_eq_getElem?_getD, hl], by rw [hhs, allS, ← hr, if_pos h], by rw [hhg, allG, ← hr, if_pos h]⟩
      have HR1 := Lib.hid hr1; have HR2 := Lib.hid hr2; have HR3 := Lib.hid hr3; have HNO := Lib.hid hno; have HYES := Lib.hid hyes
      have HLL := Lib.hid hl; have HNN := Lib.hid hNO
      have HX960 := Lib.hid k2
      clear hr hM hhs hhg hno h0 h hHC hway hr1 hr2 hr3 hyes hc ht hq k1 k2 k3 hl hNO hNT
      go_enter Try.func26, Try.ntmps26
      go_upto_region 1 with (fail)
      refine wp_gen (fun Wv => Bx Wv (w.heap.size) (26) (#[tv, ov, sv]) ∧ Bx Wv (w.heap.size + 1) (26) (#[.slice none 0 0, .slice none 0 0, .slice none 0 0]) ∧ Bx Wv (w.heap.size + 1 + 1) (28) (#[.int .i64 0, .int .i64 0]) ∧ Below w.heap.size w Wv) ⟨((((Bx.at_ (by simp)).alloc _).alloc _)), (((Bx.at_ (by simp)).alloc _)), ((Bx.at_ (by simp))), ((((Below.refl _ w).alloc (by simp <;> omega) _).alloc (by simp <;> omega) _).alloc (by simp <;> omega) _)⟩ ?_
      rintro wa1 ⟨g1, g3, g7, b⟩
      replace B := B.trans (b.mono B.size); clear b
      have c_g1 := g1.cell; have f_g1 := g1.free; have a_g1 := fun o => (g1.alloc o).cell; have d_g1 := fun o o2 => ((g1.alloc o).alloc o2).cell; have e_g1 := fun o => (g1.alloc o).free
      have c_g3 := g3.cell; have f_g3 := g3.free; have a_g3 := fun o => (g3.alloc o).cell; have d_g3 := fun o o2 => ((g3.alloc o).alloc o2).cell; have e_g3 := fun o => (g3.alloc o).free
      have c_g7 := g7.cell; have f_g7 := g7.free; have a_g7 := fun o => (g7.alloc o).cell; have d_g7 := fun o o2 => ((g7.alloc o).alloc o2).cell; have e_g7 := fun o => (g7.alloc o).free
      go_wp2_with fail
      refine (CT.out _ (H.out.below B)).mono ?_
      rintro e wa2 ⟨rfl, b⟩
      try clear c_g1 f_g1 a_g1 d_g1 e_g1
      replace g1 := g1.below b; have c_g1 := g1.cell; have f_g1 := g1.free; have a_g1 := fun o => (g1.alloc o).cell; have d_g1 := fun o o2 => ((g1.alloc o).alloc o2).cell; have e_g1 := fun o => (g1.alloc o).free; try clear c_g3 f_g3 a_g3 d_g3 e_g3
      replace g3 := g3.below b; have c_g3 := g3.cell; have f_g3 := g3.free; have a_g3 := fun o => (g3.alloc o).cell; have d_g3 := fun o o2 => ((g3.alloc o).alloc o2).cell; have e_g3 := fun o => (g3.alloc o).free; try clear c_g7 f_g7 a_g7 d_g7 e_g7
      replace g7 := g7.below b; have c_g7 := g7.cell; have f_g7 := g7.free; have a_g7 := fun o => (g7.alloc o).cell; have d_g7 := fun o o2 => ((g7.alloc o).alloc o2).cell; have e_g7 := fun o => (g7.alloc o).free; replace B := B.trans (b.mono B.size); clear b
      have hz1 := B.size; have hp7 := g7.lt
      go_wp2_with fail
      refine (CP.out _ (H.out.below B)).mono ?_
      rintro e wa3 ⟨t', o', s', rfl, om, b⟩
      try clear c_g1 f_g1 a_g1 d_g1 e_g1
      replace g1 := g1.below b; have c_g1 := g1.cell; have f_g1 := g1.free; have a_g1 := fun o => (g1.alloc o).cell; have d_g1 := fun o o2 => ((g1.alloc o).alloc o2).cell; have e_g1 := fun o => (g1.alloc o).free; try clear c_g3 f_g3 a_g3 d_g3 e_g3
      replace g3 := g3.below b; have c_g3 := g3.cell; have f_g3 := g3.free; have a_g3 := fun o => (g3.alloc o).cell; have d_g3 := fun o o2 => ((g3.alloc o).alloc o2).cell; have e_g3 := fun o => (g3.alloc o).free; try clear c_g7 f_g7 a_g7 d_g7 e_g7
      replace g7 := g7.below b; have c_g7 := g7.cell; have f_g7 := g7.free; have a_g7 := fun o => (g7.alloc o).cell; have d_g7 := fun o o2 => ((g7.alloc o).alloc o2).cell; have e_g7 := fun o => (g7.alloc o).free; replace B := B.trans (b.mono B.size); clear b
      replace om : OwnM _ w.heap.size 67 t' o' s' m := OwnM.mono om hz1
      obtain ⟨⟨tA, tn, tc, rfl⟩, ⟨oA, on, oc, rfl⟩, ⟨sA, sn, sc, rfl⟩⟩ := om.forms
      have lo := om.rd.o.len
      rw [← HNN.out] at lo
      have hpc := g7.lt
      go_upto_region 7 with (fail)
      refine wp_gen (fun Wv => Bx Wv (wa3.heap.size) (26) (#[.slice tA tn tc, .slice oA on oc, .slice sA sn sc]) ∧ Below wa3.heap.size wa3 Wv) ⟨((Bx.at_ (by simp))), ((Below.refl _ wa3).alloc (by simp <;> omega) _)⟩ ?_
      rintro wa4 ⟨g4, b⟩
      try clear c_g1 f_g1 a_g1 d_g1 e_g1
      replace g1 := g1.below b; have c_g1 := g1.cell; have f_g1 := g1.free; have a_g1 := fun o => (g1.alloc o).cell; have d_g1 := fun o o2 => ((g1.alloc o).alloc o2).cell; have e_g1 := fun o => (g1.alloc o).free; try clear c_g3 f_g3 a_g3 d_g3 e_g3
      replace g3 := g3.below b; have c_g3 := g3.cell; have f_g3 := g3.free; have a_g3 := fun o => (g3.alloc o).cell; have d_g3 := fun o o2 => ((g3.alloc o).alloc o2).cell; have e_g3 := fun o => (g3.alloc o).free; try clear c_g7 f_g7 a_g7 d_g7 e_g7
      replace g7 := g7.below b; have c_g7 := g7.cell; have f_g7 := g7.free; have a_g7 := fun o => (g7.alloc o).cell; have d_g7 := fun o o2 => ((g7.alloc o).alloc o2).cell; have e_g7 := fun o => (g7.alloc o).free; replace om := om.below b; replace B := B.trans (b.mono B.size); clear b
      have c_g4 := g4.cell; have f_g4 := g4.free; have a_g4 := fun o => (g4.alloc o).cell; have d_g4 := fun o o2 => ((g4.alloc o).alloc o2).cell; have e_g4 := fun o => (g4.alloc o).free
      go_wp2_with fail
      have hs1 := own_not_bx om.s g1 (by decide); have hs3 := own_not_bx om.s g3 (by decide); have hs7 := own_not_bx om.s g7 (by decide); have hs4 := own_not_bx om.s g4 (by decide)
      refine (HC.out _ _ _ w.heap.size _ om B.size).mono ?_
      rintro e w5 ⟨rfl, om2, B2, K⟩
      replace g1 := g1.keep K hs1; replace g3 := g3.keep K hs3; replace g7 := g7.keep K hs7; replace g4 := g4.keep K hs4
      replace B := B.trans B2
      clear om B2 K hs1 hs3 hs7 hs4 c_g1 f_g1 a_g1 d_g1 e_g1 c_g3 f_g3 a_g3 d_g3 e_g3 c_g7 f_g7 a_g7 d_g7 e_g7 c_g4 f_g4 a_g4 d_g4 e_g4
      have c_g1 := g1.cell; have c_g3 := g3.cell; have f_g3 := g3.free; have c_g7 := g7.cell; have f_g7 := g7.free; have c_g4 := g4.cell
      have om := om2
      clear om2
      have hp34 := g4.lt
      go_upto_region 8 with (fail)
      refine wp_gen (fun Wv => Bx Wv (w5.heap.size) (28) (#[.int .i64 a, .int .i64 b]) ∧ Below w5.heap.size w5 Wv) ⟨((Bx.at_ (by simp))), ((Below.refl _ w5).alloc (by simp <;> omega) _)⟩ ?_
      rintro wa5 ⟨g9, b⟩
      try clear c_g1 f_g1 a_g1 d_g1 e_g1
      replace g1 := g1.below b; have c_g1 := g1.cell; have f_g1 := g1.free; have a_g1 := fun o => (g1.alloc o).cell; have d_g1 := fun o o2 => ((g1.alloc o).alloc o2).cell; have e_g1 := fun o => (g1.alloc o).free; try clear c_g3 f_g3 a_g3 d_g3 e_g3
      replace g3 := g3.below b; have c_g3 := g3.cell; have f_g3 := g3.free; have a_g3 := fun o => (g3.alloc o).cell; have d_g3 := fun o o2 => ((g3.alloc o).alloc o2).cell; have e_g3 := fun o => (g3.alloc o).free; try clear c_g7 f_g7 a_g7 d_g7 e_g7
      replace g7 := g7.below b; have c_g7 := g7.cell; have f_g7 := g7.free; have a_g7 := fun o => (g7.alloc o).cell; have d_g7 := fun o o2 => ((g7.alloc o).alloc o2).cell; have e_g7 := fun o => (g7.alloc o).free; try clear c_g4 f_g4 a_g4 d_g4 e_g4
      replace g4 := g4.below b; have c_g4 := g4.cell; have f_g4 := g4.free; have a_g4 := fun o => (g4.alloc o).cell; have d_g4 := fun o o2 => ((g4.alloc o).alloc o2).cell; have e_g4 := fun o => (g4.alloc o).free; replace om := om.below b; replace B := B.trans (b.mono B.size); clear b
      have c_g9 := g9.cell; have f_g9 := g9.free; have a_g9 := fun o => (g9.alloc o).cell; have d_g9 := fun o o2 => ((g9.alloc o).alloc o2).cell; have e_g9 := fun o => (g9.alloc o).free
      cases ok
      · have hn : next m.slots = none := by
          rcases HW.out with ⟨_, h⟩ | ⟨h, _⟩
          · exact h
          · cases h
        obtain rfl : r = 23 := HR1.out hn
        obtain ⟨rfl, rfl, rfl⟩ := HNO.out (by decide)
        clear om
        go_wp2
        refine bodyPost_ret (v := .tuple #[.agg #[.slice none 0 0, .slice none 0 0, .slice none 0 0], .agg #[.int .i64 0, .int .i64 0], .int .i64 23]) (by simp [results, Try.results26, go_sem, c_g3, f_g3, c_g7, f_g7]) rfl ?_
        refine ⟨_, _, _, rfl, Mod.nil _, ?_⟩
        (repeat (first | refine Below.setCell ?_ (by first | exact Nat.le_refl _ | (simp <;> omega)) _ | refine Below.alloc ?_ (by first | exact B.size | (have := B.size; simp <;> omega)) _)); exact B
      · obtain ⟨k, s, hnx, hsk, ea, eb, em⟩ : ∃ k s, next m.slots = some k ∧ m.slots[k]? = some s ∧ a = (k : Int) ∧ b = s.gen + 1 ∧ m2 = ⟨m.types, m.objs, m.slots.set k ⟨s.gen + 1, true, (NO : Int)⟩⟩ := by
          rcases HW.out with ⟨h, _⟩ | ⟨_, h⟩
          · cases h
          · exact h
        by_cases h9 : NO = 960
        · obtain rfl : r = 4 := HR2.out k hnx h9
          obtain ⟨rfl, rfl, rfl⟩ := HNO.out (by decide)
          have q9 : ((NO : Int) == 960) = true := by rw [beq_iff_eq]; omega
          clear om
          go_wp2
          refine bodyPost_ret (v := .tuple #[.agg #[.slice none 0 0, .slice none 0 0, .slice none 0 0], .agg #[.int .i64 0, .int .i64 0], .int .i64 4]) (by simp [results, Try.results26, go_sem, c_g3, f_g3, c_g7, f_g7]) rfl ?_
          refine ⟨_, _, _, rfl, Mod.nil _, ?_⟩
          (repeat (first | refine Below.setCell ?_ (by first | exact Nat.le_refl _ | (simp <;> omega)) _ | refine Below.alloc ?_ (by first | exact B.size | (have := B.size; simp <;> omega)) _)); exact B
        · obtain rfl : r = 0 := HR3.out k hnx h9
          have q9 : ((NO : Int) == 960) = false := by rw [beq_eq_false_iff_ne]; omega
          obtain ⟨e1, e2, e3⟩ := HYES.out rfl
          rw [hnx] at e1 e2 e3
          have hgd : m.slots.getD k .none = s := by simp [List.getD_eq_getElem?_getD, hsk]
          have hMM : M = ⟨m2.types, m2.objs ++ [⟨(q : Int), List.replicate l.length 0⟩], m2.slots⟩ := by
            rw [e1, em, ← HNN.out]
            show (⟨m.types, _, m.slots.set k ⟨(m.slots.getD k .none).gen + 1, true, _⟩⟩ : Mo) = _
            rw [hgd]
          have hha : hs = a := by rw [e2, ea]; rfl
          have hhb : hg = b := by rw [e3, eb]; show (m.slots.getD k .none).gen + 1 = _; rw [hgd]
          have hT2 : m2.types[q]? = some l := by rw [em]; exact HLL.out
          have hO2 : m2.objs.length = NO := by rw [em]; exact HNN.out.symm
          subst hha; subst hhb
          have HMM := Lib.hid hMM; have HT2 := Lib.hid hT2; have HO2 := Lib.hid hO2
          have hNO : NO < 960 := by have : m.objs.length ≤ 960 := HX960.out; have := HNN.out; omega
          clear e1 e2 e3 ea eb em hgd hnx hsk hMM hT2 hO2 h9
          go_upto_region 12 with (fail)
          have h59 := g9.lt
          have hB := B.size
          obtain ⟨W1, r1, oy, b1⟩ := run_make_words (w := wa5.drew) l.length (by omega)
          replace r1 : (Instr.makeSlice 70 (.int .i64 (l.length : Int)) (.int .i64 (l.length : Int))).run Try.prog wa5.drew = .ok (.slice (some ⟨wa5.heap.size, 0, none⟩) l.length l.length) W1 := r1
          replace oy : OwnW W1 wa5.heap.size 29 (.slice (some ⟨wa5.heap.size, 0, none⟩) l.length l.length) (List.replicate l.length 0) := oy
          replace b1 : Below wa5.heap.size wa5 W1 := (Below.refl _ wa5).drew.trans b1
          obtain ⟨ad, yr, it, mad, lyr, had⟩ := om.t.at1 HT2.out
          obtain ⟨tvs, t1, t2, t4⟩ := om.t
          obtain ⟨vs, z1, z2, z4, z5⟩ := om.o
          have hz := b1.size
          obtain ⟨v, W3, r3, o3, gr3⟩ := run_append_rd (P := Try.prog) (w := W1.alloc (.cells #[i64 (q : Int), .slice (some ⟨wa5.heap.size, 0, none⟩) l.length l.length] 72)) (ty := 23) (B := w.heap.size) Try.underlying23 info_obj rfl (by omega) (own_below z2 (b1.alloc hz _)) lit_obj (one_obj rfl) (by have := HO2.out; omega) (by have := HO2.out; omega) (by simp; omega)
          have hs9 := own_not_bx z2 g9 (by decide); have hs7 := own_not_bx z2 g7 (by decide)
          have MM := Lib.hid (copyO_mem (o := ⟨(q : Int), List.replicate l.length 0⟩) (a := w.heap.size) (b := w.heap.size + 1) (p := wa3.heap.size) z1 z2 z4 z5 oy b1 o3 gr3 g1 g3 g4 om.t om.s B hB (by omega) (by omega) (by omega) g9 hs9 (by omega))
          have b3 := b1.alloc hz (.cells #[i64 (q : Int), .slice (some ⟨wa5.heap.size, 0, none⟩) l.length l.length] 72)
          have z2' := own_below z2 b3
          have q43 : Bx W3 wa3.heap.size 26 #[.slice tA tn tc, .slice oA on oc, .slice sA sn sc] := Bx.grown (g4.below b3) gr3 (own_not_bx z2' (g4.below b3) (by decide))
          have q7 : Bx (W3.setCell ⟨wa3.heap.size, 1, none⟩ v) (w.heap.size + 1 + 1) 28 #[.int .i64 0, .int .i64 0] := ((g7.below b3).grown gr3 hs7).far (p := ⟨wa3.heap.size, 1, none⟩) (by show w.heap.size + 1 + 1 ≠ wa3.heap.size; omega) v
          have hadO : some ad.block ≠ (Value.slice oA on oc).ownBlock := by
            have := own_unlike t2 z2 (by decide)
            rw [had] at this
            rcases this with h | h
            · cases h
            · exact h
          have hadP : ad.block ≠ wa3.heap.size := by
            have := ne_of_or (own_not_bx t2 g4 (by decide))
            rw [had] at this
            exact fun e => this (by rw [e])
          have m3 : W3.cell? ad = some yr := gr3.cell (cell_later b3 mad) hadO
          obtain ⟨vA, vn, vc, rfl⟩ : ∃ A n c, v = .slice A n c := by obtain ⟨A, c, e⟩ := own_form' o3; exact ⟨A, _, c, e⟩
          have AL : ∀ d, d ≤ 5 → ((wsO wa5 wa3.heap.size (q : Int) ⟨.slice (some ⟨wa5.heap.size, 0, none⟩) l.length l.length, W1, .slice vA vn vc, W3⟩) d).cell? ⟨wa3.heap.size, 0, none⟩ = some (.slice tA tn tc) ∧ ((wsO wa5 wa3.heap.size (q : Int) ⟨.slice (some ⟨wa5.heap.size, 0, none⟩) l.length l.length, W1, .slice vA vn vc, W3⟩) d).cell? ad = some yr := by
            intro d hd
            rcases d with _ | _ | _ | _ | _ | d
            · exact ⟨g4.cell 0, mad⟩
            · exact ⟨(g4.below b1).cell 0, cell_later b1 mad⟩
            · exact ⟨(g4.below b1).cell 0, cell_later b1 mad⟩
            · exact ⟨(g4.below b3).cell 0, cell_later b3 mad⟩
            · exact ⟨q43.cell 0, m3⟩
            · exact ⟨MM.out.2.2.2.2.1.cell 0, cell_far m3 hadP⟩
          have ca := fun x : FXN (FL [9, 10, 11, 12, 14] (wsO wa5 wa3.heap.size (q : Int) ⟨.slice (some ⟨wa5.heap.size, 0, none⟩) l.length l.length, W1, .slice vA vn vc, W3⟩) 1 3) => (FL.all (ks := [9, 10, 11, 12, 14]) (Ws := (wsO wa5 wa3.heap.size (q : Int) ⟨.slice (some ⟨wa5.heap.size, 0, none⟩) l.length l.length, W1, .slice vA vn vc, W3⟩)) (p := fun W => W.cell? ⟨wa3.heap.size, 0, none⟩ = some (.slice tA tn tc) ∧ W.cell? ad = some yr) AL x).1
          have cb := fun x : FXN (FL [9, 10, 11, 12, 14] (wsO wa5 wa3.heap.size (q : Int) ⟨.slice (some ⟨wa5.heap.size, 0, none⟩) l.length l.length, W1, .slice vA vn vc, W3⟩) 1 3) => (FL.all (ks := [9, 10, 11, 12, 14]) (Ws := (wsO wa5 wa3.heap.size (q : Int) ⟨.slice (some ⟨wa5.heap.size, 0, none⟩) l.length l.length, W1, .slice vA vn vc, W3⟩)) (p := fun W => W.cell? ⟨wa3.heap.size, 0, none⟩ = some (.slice tA tn tc) ∧ W.cell? ad = some yr) AL x).2
          have p0 := g4.cell 1; have p1 := (g4.below b1).cell 1; have p3 := (g4.below b3).cell 1
          haveI : Nonempty (FXN (FL [9, 10, 11, 12, 14] (wsO wa5 wa3.heap.size (q : Int) ⟨.slice (some ⟨wa5.heap.size, 0, none⟩) l.length l.length, W1, .slice vA vn vc, W3⟩) 1 3)) := ⟨⟨_, _, FL.start⟩⟩
          clear c_g1 f_g1 a_g1 d_g1 e_g1 c_g3 f_g3 a_g3 d_g3 e_g3 c_g7 f_g7 a_g7 d_g7 e_g7 c_g4 f_g4 a_g4 d_g4 e_g4 c_g9 f_g9 a_g9 d_g9 e_g9
          refine wp_region_N (FL [9, 10, 11, 12, 14] (wsO wa5 wa3.heap.size (q : Int) ⟨.slice (some ⟨wa5.heap.size, 0, none⟩) l.length l.length, W1, .slice vA vn vc, W3⟩) 1 3) [1, 9, 10, 11, 12, 14] FL.dep (by kernel_rfl) (by kernel_rfl) (by kernel_rfl) FL.start ?_
          refine wpN_read FL.dep rfl (by decide) ?_; go_big_quiet_step (fail); refine wpQuiet_nil ?_
          refine wpN_step FL.dep rfl (by rfl) (v := .slice oA on oc) [] rfl (fun f W hF h0 _ => ?_) ?_
          · obtain ⟨⟨d, hd, hd2, rfl⟩, hF'⟩ := FL.read (by decide) hF h0
            refine ⟨_, ?_, hF'⟩
            have hc : ((wsO wa5 wa3.heap.size (q : Int) ⟨.slice (some ⟨wa5.heap.size, 0, none⟩) l.length l.length, W1, .slice vA vn vc, W3⟩) d).cell? ⟨wa3.heap.size, 1, none⟩ = some (.slice oA on oc) := by
              rcases d with _ | _ | _ | _ | d
              · exact p0
              · exact p1
              · exact p1
              · exact p3
              · omega
            simp [execOp, go_sem, hc]
          simp only [Act.put, List.setIfInBounds_toArray, List.set_cons_zero, List.set_cons_succ]
          iterate 6 (refine wpN_read FL.dep rfl (by decide) ?_; go_big_quiet_step (fail); refine wpQuiet_nil ?_)
          refine wpN_len FL.dep rfl (by decide) rfl (fun W => lyr _ W) ?_
          simp only [Act.put, List.setIfInBounds_toArray, List.set_cons_zero, List.set_cons_succ]
          refine wpN_step FL.dep rfl (by rfl) (v := .slice (some ⟨wa5.heap.size, 0, none⟩) l.length l.length) [] (by kernel_rfl) (fun f W hF h0 h1 => ?_) ?_
          · obtain ⟨rfl, h2⟩ := FL.step (i := 0) rfl (by decide) hF h0 (by intro p hp; omega) (by omega)
            exact ⟨_, by simp [execOp, Act.eval, wsO, r1], h2⟩
          simp only [Act.put, List.setIfInBounds_toArray, List.set_cons_zero, List.set_cons_succ]
          refine wpN_step FL.dep rfl (by rfl) (v := .agg #[i64 (q : Int), .slice (some ⟨wa5.heap.size, 0, none⟩) l.length l.length]) [9] (by kernel_rfl) (fun f W hF h0 h1 => ?_) ?_
          · obtain ⟨rfl, h2⟩ := FL.step (i := 1) rfl (by decide) hF h0 (FL.prev (p := 0) (q := 9) rfl (h1 9 (by simp))) (by omega)
            exact ⟨_, by simp [execOp, go_sem, wsO, i64], h2⟩
          simp only [Act.put, List.setIfInBounds_toArray, List.set_cons_zero, List.set_cons_succ]
          refine wpN_step FL.dep rfl (by rfl) (v := .slice (some ⟨W1.heap.size, 0, none⟩) 1 1) [10] (by kernel_rfl) (fun f W hF h0 h1 => ?_) ?_
          · obtain ⟨rfl, h2⟩ := FL.step (i := 2) rfl (by decide) hF h0 (FL.prev (p := 1) (q := 10) rfl (h1 10 (by simp))) (by omega)
            exact ⟨_, by simp [execOp, go_sem, wsO, i64], h2⟩
          simp only [Act.put, List.setIfInBounds_toArray, List.set_cons_zero, List.set_cons_succ]
          refine wpN_step FL.dep rfl (by rfl) (v := .slice vA vn vc) [11, 1] (by kernel_rfl) (fun f W hF h0 h1 => ?_) ?_
          · obtain ⟨rfl, h2⟩ := FL.step (i := 3) rfl (by decide) hF h0 (FL.prev (p := 2) (q := 11) rfl (h1 11 (by simp))) (fun _ => h1 1 (by simp))
            exact ⟨_, by simp [execOp, resolve, invoke, builtin, Act.eval, wsO, r3], h2⟩
          simp only [Act.put, List.setIfInBounds_toArray, List.set_cons_zero, List.set_cons_succ]
          refine wpN_read FL.dep rfl (by decide) ?_; go_big_quiet_step (fail); refine wpQuiet_nil ?_
          refine wpN_storeD FL.dep rfl 23 (.tmp 62) (.tmp 61) rfl (by rfl) (p := .pointer (some ⟨wa3.heap.size, 1, none⟩)) (u := .slice vA vn vc) (by rfl) (by rfl) [12] (by kernel_rfl) (fun f W hF h0 h1 => ?_) ?_
          · obtain ⟨rfl, h2⟩ := FL.step (i := 4) rfl (by decide) hF h0 (FL.prev (p := 3) (q := 12) rfl (h1 12 (by simp))) (by omega)
            refine ⟨_, ?_, h2⟩
            have hc := MM.out.1.1; have hf := MM.out.1.2
            simp [go_sem, wsO, hc, hf]
          simp only [Act.put]
          show ∀ w', _ → _
          intro w' hw'
          obtain rfl := FL.done hw'
          have HM := Lib.hid (And.intro MM.out.2 q7)
          clear this ca cb AL MM q7 q43 m3 p0 p1 p3 om B g1 g3 g7 g4 g9 z1 z2 z4 z5 t1 t2 t4 z2' b1 b3 r1 r3 o3 gr3 oy mad hs9 hs7 hw'
          go_upto_region 13 with (fail)
          obtain ⟨⟨k1, k2, k3, k4, k5, k6, k7, _, k9⟩, k8⟩ := HM.out
          have oM : OwnM (W3.setCell ⟨wa3.heap.size, 1, none⟩ (.slice vA vn vc)) w.heap.size 67 (.slice tA tn tc) (.slice vA vn vc) (.slice sA sn sc) M := by rw [HMM.out]; exact ⟨k5, k1, k6⟩
          refine wp_gen (fun Wv => OwnM Wv w.heap.size 67 (.slice tA tn tc) (.slice vA vn vc) (.slice sA sn sc) M ∧ Bx Wv (w.heap.size + 1) 26 #[.slice none 0 0, .slice none 0 0, .slice none 0 0] ∧ Bx Wv (w.heap.size + 1 + 1) 28 #[.int .i64 0, .int .i64 0] ∧ Bx Wv wa3.heap.size 26 #[.slice tA tn tc, .slice vA vn vc, .slice sA sn sc] ∧ Bx Wv w5.heap.size 28 #[.int .i64 hs, .int .i64 hg] ∧ Below w.heap.size w Wv) ⟨oM, k3, k8, k4, k9, k7⟩ ?_
          rintro wz ⟨om, g3, g7, g4, g9, B⟩
          clear k1 k2 k3 k4 k5 k6 k7 k8 k9 oM HM
          have START : (FTwoR w w.heap.size (.slice tA tn tc) (.slice vA vn vc) (.slice sA sn sc) M (w.heap.size + 1 + 1) wa3.heap.size w5.heap.size (w.heap.size + 1) hs hg) (fun _ => false) wz.drew := ⟨B.drew, ⟨om.t, om.o, om.s⟩, g3, g7, g4, g9⟩
          haveI : Nonempty (FXN (FTwoR w w.heap.size (.slice tA tn tc) (.slice vA vn vc) (.slice sA sn sc) M (w.heap.size + 1 + 1) wa3.heap.size w5.heap.size (w.heap.size + 1) hs hg)) := ⟨⟨_, _, START⟩⟩
          have ca := fun x : FXN (FTwoR w w.heap.size (.slice tA tn tc) (.slice vA vn vc) (.slice sA sn sc) M (w.heap.size + 1 + 1) wa3.heap.size w5.heap.size (w.heap.size + 1) hs hg) => (by obtain ⟨_, h⟩ := x.h; exact h.2.2.2.2.1 : Bx x.W wa3.heap.size 26 #[.slice tA tn tc, .slice vA vn vc, .slice sA sn sc]).cell
          have cb := fun x : FXN (FTwoR w w.heap.size (.slice tA tn tc) (.slice vA vn vc) (.slice sA sn sc) M (w.heap.size + 1 + 1) wa3.heap.size w5.heap.size (w.heap.size + 1) hs hg) => (by obtain ⟨_, h⟩ := x.h; exact h.2.2.2.2.2 : Bx x.W w5.heap.size 28 #[.int .i64 hs, .int .i64 hg]).cell
          clear om B g3 g7 g4 g9
          refine wp_region_N (FTwoR w w.heap.size (.slice tA tn tc) (.slice vA vn vc) (.slice sA sn sc) M (w.heap.size + 1 + 1) wa3.heap.size w5.heap.size (w.heap.size + 1) hs hg) [2, 3] FTwoR.dep (by kernel_rfl) (by kernel_rfl) (by kernel_rfl) START ?_
          iterate 2 (refine wpN_read FTwoR.dep rfl (by decide) ?_; go_big_quiet_step (fail); refine wpQuiet_nil ?_)
          refine wpN_storeD FTwoR.dep rfl 26 (.tmp 4) (.tmp 63) rfl (by rfl) (p := .pointer (some ⟨w.heap.size + 1, 0, none⟩)) (u := .agg #[.slice tA tn tc, .slice vA vn vc, .slice sA sn sc]) (by rfl) (by rfl) [] (by kernel_rfl) (fun f W hF h0 h1 => ?_) ?_
          · obtain ⟨k0, k1, h2⟩ := FTwoR.store2 hF h0 (by omega) (by omega) (by omega) (by omega)
            refine ⟨_, ?_, h2⟩
            simp [go_sem, k0, k1]
          simp only [Act.put, List.setIfInBounds_toArray, List.set_cons_zero, List.set_cons_succ]
          refine wpN_storeD FTwoR.dep rfl 28 (.tmp 5) (.tmp 64) rfl (by rfl) (p := .pointer (some ⟨w.heap.size + 1 + 1, 0, none⟩)) (u := .agg #[.int .i64 hs, .int .i64 hg]) (by rfl) (by rfl) [] (by kernel_rfl) (fun f W hF h0 h1 => ?_) ?_
          · obtain ⟨k0, k1, h2⟩ := FTwoR.store3 hF h0 (by omega) (by omega) (by omega) (by omega)
            refine ⟨_, ?_, h2⟩
            simp [go_sem, k0, k1]
          simp only [Act.put, List.setIfInBounds_toArray, List.set_cons_zero, List.set_cons_succ]
          iterate 1 (refine wpN_read FTwoR.dep rfl (by decide) ?_; go_big_quiet_step (fail); refine wpQuiet_nil ?_)
          show ∀ w', _ → _
          intro w' hF
          obtain ⟨B, om, g3, g7, _, _⟩ := hF
          have c3 := g3.cell; have c7 := g7.cell
          simp only [if_true] at c3 c7
          clear this ca cb START
          go_wp2
          refine bodyPost_ret (v := .tuple #[.agg #[.slice tA tn tc, .slice vA vn vc, .slice sA sn sc], .agg #[.int .i64 hs, .int .i64 hg], .int .i64 0]) (by simp [results, Try.results26, go_sem, c3, c7]) rfl ?_
          exact ⟨_, _, _, rfl, om.rd, B⟩
    · have hr1 : r = 2 := by rw [hr, allE, if_pos h0, if_neg (by omega)]
      obtain ⟨e1, e2, e3⟩ := hno (by rw [hr1]; decide)
      have hcase : t < 0 ∨ ¬ t < 0 ∧ (NT : Int) ≤ t := by omega
      subst hr1; subst e1; subst e2; subst e3
      clear hr hM hhs hhg hno h0 h hc ht hNT
      rcases hcase with n1 | ⟨n1, n2⟩
      all_goals
        go_enter Try.func26, Try.ntmps26
        go_upto_region 1 with (fail)
        refine wp_gen (fun Wv => Bx Wv (w.heap.size) (26) (#[tv, ov, sv]) ∧ Bx Wv (w.heap.size + 1) (26) (#[.slice none 0 0, .slice none 0 0, .slice none 0 0]) ∧ Bx Wv (w.heap.size + 1 + 1) (28) (#[.int .i64 0, .int .i64 0]) ∧ Below w.heap.size w Wv) ⟨((((Bx.at_ (by simp)).alloc _).alloc _)), (((Bx.at_ (by simp)).alloc _)), ((Bx.at_ (by simp))), ((((Below.refl _ w).alloc (by simp <;> omega) _).alloc (by simp <;> omega) _).alloc (by simp <;> omega) _)⟩ ?_
        rintro wa1 ⟨g1, g3, g7, b⟩
        replace B := B.trans (b.mono B.size); clear b
        have c_g1 := g1.cell; have f_g1 := g1.free; have a_g1 := fun o => (g1.alloc o).cell; have d_g1 := fun o o2 => ((g1.alloc o).alloc o2).cell; have e_g1 := fun o => (g1.alloc o).free
        have c_g3 := g3.cell; have f_g3 := g3.free; have a_g3 := fun o => (g3.alloc o).cell; have d_g3 := fun o o2 => ((g3.alloc o).alloc o2).cell; have e_g3 := fun o => (g3.alloc o).free
        have c_g7 := g7.cell; have f_g7 := g7.free; have a_g7 := fun o => (g7.alloc o).cell; have d_g7 := fun o o2 => ((g7.alloc o).alloc o2).cell; have e_g7 := fun o => (g7.alloc o).free
        go_wp2_with fail
        refine (CT.out _ (H.out.below B)).mono ?_
        rintro e wa2 ⟨rfl, b⟩
        try clear c_g1 f_g1 a_g1 d_g1 e_g1
        replace g1 := g1.below b; have c_g1 := g1.cell; have f_g1 := g1.free; have a_g1 := fun o => (g1.alloc o).cell; have d_g1 := fun o o2 => ((g1.alloc o).alloc o2).cell; have e_g1 := fun o => (g1.alloc o).free; try clear c_g3 f_g3 a_g3 d_g3 e_g3
        replace g3 := g3.below b; have c_g3 := g3.cell; have f_g3 := g3.free; have a_g3 := fun o => (g3.alloc o).cell; have d_g3 := fun o o2 => ((g3.alloc o).alloc o2).cell; have e_g3 := fun o => (g3.alloc o).free; try clear c_g7 f_g7 a_g7 d_g7 e_g7
        replace g7 := g7.below b; have c_g7 := g7.cell; have f_g7 := g7.free; have a_g7 := fun o => (g7.alloc o).cell; have d_g7 := fun o o2 => ((g7.alloc o).alloc o2).cell; have e_g7 := fun o => (g7.alloc o).free; replace B := B.trans (b.mono B.size); clear b
        go_wp2
        refine bodyPost_ret (v := .tuple #[.agg #[.slice none 0 0, .slice none 0 0, .slice none 0 0], .agg #[.int .i64 0, .int .i64 0], .int .i64 2]) (by simp [results, Try.results26, go_sem, c_g3, f_g3, c_g7, f_g7]) rfl ?_
        refine ⟨_, _, _, rfl, Mod.nil _, ?_⟩
        (repeat (first | refine Below.setCell ?_ (by first | exact Nat.le_refl _ | (simp <;> omega)) _ | refine Below.alloc ?_ (by first | exact B.size | (have := B.size; simp <;> omega)) _)); exact B
  · have hr1 : r = c := by rw [hr, allE, if_neg h0, hc]
    have hne : (c != 0) = true := by rw [bne_iff_ne, hc]; exact h0
    obtain ⟨e1, e2, e3⟩ := hno (by rw [hr1, hc]; exact h0)
    subst hr1; subst e1; subst e2; subst e3
    clear hr hM hhs hhg hno h0 h hc hNT
    go_enter Try.func26, Try.ntmps26
    go_upto_region 1 with (fail)
    refine wp_gen (fun Wv => Bx Wv (w.heap.size) (26) (#[tv, ov, sv]) ∧ Bx Wv (w.heap.size + 1) (26) (#[.slice none 0 0, .slice none 0 0, .slice none 0 0]) ∧ Bx Wv (w.heap.size + 1 + 1) (28) (#[.int .i64 0, .int .i64 0]) ∧ Below w.heap.size w Wv) ⟨((((Bx.at_ (by simp)).alloc _).alloc _)), (((Bx.at_ (by simp)).alloc _)), ((Bx.at_ (by simp))), ((((Below.refl _ w).alloc (by simp <;> omega) _).alloc (by simp <;> omega) _).alloc (by simp <;> omega) _)⟩ ?_
    rintro wa1 ⟨g1, g3, g7, b⟩
    replace B := B.trans (b.mono B.size); clear b
    have c_g1 := g1.cell; have f_g1 := g1.free; have a_g1 := fun o => (g1.alloc o).cell; have d_g1 := fun o o2 => ((g1.alloc o).alloc o2).cell; have e_g1 := fun o => (g1.alloc o).free
    have c_g3 := g3.cell; have f_g3 := g3.free; have a_g3 := fun o => (g3.alloc o).cell; have d_g3 := fun o o2 => ((g3.alloc o).alloc o2).cell; have e_g3 := fun o => (g3.alloc o).free
    have c_g7 := g7.cell; have f_g7 := g7.free; have a_g7 := fun o => (g7.alloc o).cell; have d_g7 := fun o o2 => ((g7.alloc o).alloc o2).cell; have e_g7 := fun o => (g7.alloc o).free
    go_wp2_with fail
    refine (CT.out _ (H.out.below B)).mono ?_
    rintro e wa2 ⟨rfl, b⟩
    try clear c_g1 f_g1 a_g1 d_g1 e_g1
    replace g1 := g1.below b; have c_g1 := g1.cell; have f_g1 := g1.free; have a_g1 := fun o => (g1.alloc o).cell; have d_g1 := fun o o2 => ((g1.alloc o).alloc o2).cell; have e_g1 := fun o => (g1.alloc o).free; try clear c_g3 f_g3 a_g3 d_g3 e_g3
    replace g3 := g3.below b; have c_g3 := g3.cell; have f_g3 := g3.free; have a_g3 := fun o => (g3.alloc o).cell; have d_g3 := fun o o2 => ((g3.alloc o).alloc o2).cell; have e_g3 := fun o => (g3.alloc o).free; try clear c_g7 f_g7 a_g7 d_g7 e_g7
    replace g7 := g7.below b; have c_g7 := g7.cell; have f_g7 := g7.free; have a_g7 := fun o => (g7.alloc o).cell; have d_g7 := fun o o2 => ((g7.alloc o).alloc o2).cell; have e_g7 := fun o => (g7.alloc o).free; replace B := B.trans (b.mono B.size); clear b
    go_wp2
    refine bodyPost_ret (v := .tuple #[.agg #[.slice none 0 0, .slice none 0 0, .slice none 0 0], .agg #[.int .i64 0, .int .i64 0], .int .i64 r]) (by simp [results, Try.results26, go_sem, c_g3, f_g3, c_g7, f_g7]) rfl ?_
    refine ⟨_, _, _, rfl, Mod.nil _, ?_⟩
    (repeat (first | refine Below.setCell ?_ (by first | exact Nat.le_refl _ | (simp <;> omega)) _ | refine Below.alloc ?_ (by first | exact B.size | (have := B.size; simp <;> omega)) _)); exact B
end Go.Proofs.Ytgjpohhafmkhcaa
namespace Go.Proofs.Ytgjpohhafmkhcaa
open Go.RowKit L02 L13 L18 L20
set_option maxRecDepth 100000 in
set_option maxHeartbeats 8000000 in
theorem AllocR20_any (tv ov sv : Value) (m : Mo) (t : Int) (M : Mo) (r hs hg : Int) (hM : M = allM m t) (hr : r = allE m t) (hhs : hs = allS m t) (hhg : hg = allG m t) (w : World) (h : Mod w tv ov sv m) :
    Calls Try.prog 27 #[.agg #[tv, ov, sv], .int .i64 t] w fun e w' => ∃ t' o' s', e = .returned (.tuple #[.agg #[t', o', s'], .agg #[.int .i64 hs, .int .i64 hg], .int .i64 r]) ∧ Mod w' t' o' s' M ∧ Below w.heap.size w w' := by
  have B : Below w.heap.size w w := Below.refl _ _
  have H := Lib.hid h
  have hno : r ≠ 0 → M = .nil ∧ hs = 0 ∧ hg = 0 := fun h => ⟨by rw [hM, allM, ← hr, if_neg h], by rw [hhs, allS, ← hr, if_neg h], by rw [hhg, allG, ← hr, if_neg h]⟩
  obtain ⟨c, hc⟩ : ∃ c, c = chk m := ⟨_, rfl⟩
  have CT := Lib.hid (fun w h => CheckR20_any tv ov sv m c hc w h)
  have lt := h.t.len
  obtain ⟨NT, hNT⟩ : ∃ N, N = m.types.length := ⟨_, rfl⟩
  rw [← hNT] at lt
  by_cases h0 : chk m = 0
  · have hc0 : c = 0 := by rw [hc, h0]
    subst hc0
    by_cases ht : 0 ≤ t ∧ t < NT
    · obtain ⟨q, rfl⟩ := Int.eq_ofNat_of_zero_le ht.1
      have n1 : ¬ (q : Int) < 0 := by omega
      have n2 : ¬ (NT : Int) ≤ (q : Int) := by omega
      have n3 : ¬ NT ≤ q := by omega
      have hq : q < m.types.length := by omega
      obtain ⟨ad, yr, l, it, mad, hl', hby⟩ := h.t.at_ hq
      have hl : m.types[q]? = some l := hl'.out
      have lyr := Rd.len hby.out Try.underlying74
      have lo := h.o.len
      obtain ⟨k1, k2, k3⟩ := chk_ok h0
      have hl8 : l.length ≤ 8 := (kErr_ok (k3.2.1 l (List.mem_of_getElem? hl))).1
      obtain ⟨NO, hNO⟩ : ∃ N, N = m.objs.length := ⟨_, rfl⟩
      rw [← hNO] at lo
      cases hnx : next m.slots with
      | none =>
        have GV := Lib.hid (fun w h => given_no tv ov sv m (NO : Int) h0 hnx w h)
        have hr1 : r = 23 := by rw [hr, allE, if_pos h0, if_pos (by omega), if_pos hnx]
        obtain ⟨e1, e2, e3⟩ := hno (by rw [hr1]; decide)
        subst hr1; subst e1; subst e2; subst e3
        clear hr hM hhs hhg hno h0 h hc ht hq k1 k2 k3 hl hNO hNT hnx hl' hby mad it lyr
        go_enter Try.func27, Try.ntmps27
        go_upto_region 1 with (fail)
        refine wp_gen (fun Wv => Bx Wv (w.heap.size) (26) (#[tv, ov, sv]) ∧ Bx Wv (w.heap.size + 1) (26) (#[.slice none 0 0, .slice none 0 0, .slice none 0 0]) ∧ Bx Wv (w.heap.size + 1 + 1) (28) (#[.int .i64 0, .int .i64 0]) ∧ Below w.heap.size w Wv) ⟨((((Bx.at_ (by simp)).alloc _).alloc _)), (((Bx.at_ (by simp)).alloc _)), ((Bx.at_ (by simp))), ((((Below.refl _ w).alloc (by simp <;> omega) _).alloc (by simp <;> omega) _).alloc (by simp <;> omega) _)⟩ ?_
        rintro wa1 ⟨g1, g3, g7, b⟩
        replace B := B.trans (b.mono B.size); clear b
        have c_g1 := g1.cell; have f_g1 := g1.free; have a_g1 := fun o => (g1.alloc o).cell; have d_g1 := fun o o2 => ((g1.alloc o).alloc o2).cell; have e_g1 := fun o => (g1.alloc o).free
        have c_g3 := g3.cell; have f_g3 := g3.free; have a_g3 := fun o => (g3.alloc o).cell; have d_g3 := fun o o2 => ((g3.alloc o).alloc o2).cell; have e_g3 := fun o => (g3.alloc o).free
        have c_g7 := g7.cell; have f_g7 := g7.free; have a_g7 := fun o => (g7.alloc o).cell; have d_g7 := fun o o2 => ((g7.alloc o).alloc o2).cell; have e_g7 := fun o => (g7.alloc o).free
        go_wp2_with fail
        refine (CT.out _ (H.out.below B)).mono ?_
        rintro e wa2 ⟨rfl, b⟩
        try clear c_g1 f_g1 a_g1 d_g1 e_g1
        replace g1 := g1.below b; have c_g1 := g1.cell; have f_g1 := g1.free; have a_g1 := fun o => (g1.alloc o).cell; have d_g1 := fun o o2 => ((g1.alloc o).alloc o2).cell; have e_g1 := fun o => (g1.alloc o).free; try clear c_g3 f_g3 a_g3 d_g3 e_g3
        replace g3 := g3.below b; have c_g3 := g3.cell; have f_g3 := g3.free; have a_g3 := fun o => (g3.alloc o).cell; have d_g3 := fun o o2 => ((g3.alloc o).alloc o2).cell; have e_g3 := fun o => (g3.alloc o).free; try clear c_g7 f_g7 a_g7 d_g7 e_g7
        replace g7 := g7.below b; have c_g7 := g7.cell; have f_g7 := g7.free; have a_g7 := fun o => (g7.alloc o).cell; have d_g7 := fun o o2 => ((g7.alloc o).alloc o2).cell; have e_g7 := fun o => (g7.alloc o).free; replace B := B.trans (b.mono B.size); clear b
        go_wp2_with fail
        refine (GV.out _ (H.out.below B)).mono ?_
        rintro e wa3 ⟨rfl, b⟩
        try clear c_g1 f_g1 a_g1 d_g1 e_g1
        replace g1 := g1.below b; have c_g1 := g1.cell; have f_g1 := g1.free; have a_g1 := fun o => (g1.alloc o).cell; have d_g1 := fun o o2 => ((g1.alloc o).alloc o2).cell; have e_g1 := fun o => (g1.alloc o).free; try clear c_g3 f_g3 a_g3 d_g3 e_g3
        replace g3 := g3.below b; have c_g3 := g3.cell; have f_g3 := g3.free; have a_g3 := fun o => (g3.alloc o).cell; have d_g3 := fun o o2 => ((g3.alloc o).alloc o2).cell; have e_g3 := fun o => (g3.alloc o).free; try clear c_g7 f_g7 a_g7 d_g7 e_g7
        replace g7 := g7.below b; have c_g7 := g7.cell; have f_g7 := g7.free; have a_g7 := fun o => (g7.alloc o).cell; have d_g7 := fun o o2 => ((g7.alloc o).alloc o2).cell; have e_g7 := fun o => (g7.alloc o).free; replace B := B.trans (b.mono B.size); clear b
        go_upto_region 7 with (fail)
        refine wp_gen (fun Wv => Bx Wv (wa3.heap.size) (26) (#[.slice none 0 0, .slice none 0 0, .slice none 0 0]) ∧ Bx Wv (wa3.heap.size + 1) (28) (#[.int .i64 0, .int .i64 0]) ∧ Below wa3.heap.size wa3 Wv) ⟨(((Bx.at_ (by simp)).alloc _)), ((Bx.at_ (by simp))), (((Below.refl _ wa3).alloc (by simp <;> omega) _).alloc (by simp <;> omega) _)⟩ ?_
        rintro wa4 ⟨g4, g9, b⟩
        try clear c_g1 f_g1 a_g1 d_g1 e_g1
        replace g1 := g1.below b; have c_g1 := g1.cell; have f_g1 := g1.free; have a_g1 := fun o => (g1.alloc o).cell; have d_g1 := fun o o2 => ((g1.alloc o).alloc o2).cell; have e_g1 := fun o => (g1.alloc o).free; try clear c_g3 f_g3 a_g3 d_g3 e_g3
        replace g3 := g3.below b; have c_g3 := g3.cell; have f_g3 := g3.free; have a_g3 := fun o => (g3.alloc o).cell; have d_g3 := fun o o2 => ((g3.alloc o).alloc o2).cell; have e_g3 := fun o => (g3.alloc o).free; try clear c_g7 f_g7 a_g7 d_g7 e_g7
        replace g7 := g7.below b; have c_g7 := g7.cell; have f_g7 := g7.free; have a_g7 := fun o => (g7.alloc o).cell; have d_g7 := fun o o2 => ((g7.alloc o).alloc o2).cell; have e_g7 := fun o => (g7.alloc o).free; replace B := B.trans (b.mono B.size); clear b
        have c_g4 := g4.cell; have f_g4 := g4.free; have a_g4 := fun o => (g4.alloc o).cell; have d_g4 := fun o o2 => ((g4.alloc o).alloc o2).cell; have e_g4 := fun o => (g4.alloc o).free
        have c_g9 := g9.cell; have f_g9 := g9.free; have a_g9 := fun o => (g9.alloc o).cell; have d_g9 := fun o o2 => ((g9.alloc o).alloc o2).cell; have e_g9 := fun o => (g9.alloc o).free
        go_wp2
        refine bodyPost_ret (v := .tuple #[.agg #[.slice none 0 0, .slice none 0 0, .slice none 0 0], .agg #[.int .i64 0, .int .i64 0], .int .i64 23]) (by simp [results, Try.results27, go_sem, c_g3, f_g3, c_g7, f_g7]) rfl ?_
        refine ⟨_, _, _, rfl, Mod.nil _, ?_⟩
        (repeat (first | refine Below.setCell ?_ (by first | exact Nat.le_refl _ | (simp <;> omega)) _ | refine Below.alloc ?_ (by first | exact B.size | (have := B.size; simp <;> omega)) _)); exact B
      | some k =>
        obtain ⟨_, ⟨s, hsk, _⟩, _⟩ := nextFrom_some hnx
        rw [Nat.sub_zero] at hsk
        have GV0 := fun w h => given_ok tv ov sv m (NO : Int) k s h0 hnx hsk w h
        have hgd : m.slots.getD k .none = s := by simp [List.getD_eq_getElem?_getD, hsk]
        by_cases h9 : NO = 960
        · have hr1 : r = 4 := by rw [hr, allE, if_pos h0, if_pos (by omega), if_neg (by rw [hnx]; exact fun e => by cases e), if_pos (by omega)]
          obtain ⟨e1, e2, e3⟩ := hno (by rw [hr1]; decide)
          have q9 : 960 ≤ NO := by omega
          have q9' : (960 : Int) ≤ (NO : Int) := by omega
          have GV := Lib.hid GV0
          subst hr1; subst e1; subst e2; subst e3
          clear hr hM hhs hhg hno h0 h hc ht hq k1 k2 k3 hl hNO hNT hnx hl' hby mad it lyr GV0 hgd hsk h9
          go_enter Try.func27, Try.ntmps27
          go_upto_region 1 with (fail)
          refine wp_gen (fun Wv => Bx Wv (w.heap.size) (26) (#[tv, ov, sv]) ∧ Bx Wv (w.heap.size + 1) (26) (#[.slice none 0 0, .slice none 0 0, .slice none 0 0]) ∧ Bx Wv (w.heap.size + 1 + 1) (28) (#[.int .i64 0, .int .i64 0]) ∧ Below w.heap.size w Wv) ⟨((((Bx.at_ (by simp)).alloc _).alloc _)), (((Bx.at_ (by simp)).alloc _)), ((Bx.at_ (by simp))), ((((Below.refl _ w).alloc (by simp <;> omega) _).alloc (by simp <;> omega) _).alloc (by simp <;> omega) _)⟩ ?_
          rintro wa1 ⟨g1, g3, g7, b⟩
          replace B := B.trans (b.mono B.size); clear b
          have c_g1 := g1.cell; have f_g1 := g1.free; have a_g1 := fun o => (g1.alloc o).cell; have d_g1 := fun o o2 => ((g1.alloc o).alloc o2).cell; have e_g1 := fun o => (g1.alloc o).free
          have c_g3 := g3.cell; have f_g3 := g3.free; have a_g3 := fun o => (g3.alloc o).cell; have d_g3 := fun o o2 => ((g3.alloc o).alloc o2).cell; have e_g3 := fun o => (g3.alloc o).free
          have c_g7 := g7.cell; have f_g7 := g7.free; have a_g7 := fun o => (g7.alloc o).cell; have d_g7 := fun o o2 => ((g7.alloc o).alloc o2).cell; have e_g7 := fun o => (g7.alloc o).free
          go_wp2_with fail
          refine (CT.out _ (H.out.below B)).mono ?_
          rintro e wa2 ⟨rfl, b⟩
          try clear c_g1 f_g1 a_g1 d_g1 e_g1
          replace g1 := g1.below b; have c_g1 := g1.cell; have f_g1 := g1.free; have a_g1 := fun o => (g1.alloc o).cell; have d_g1 := fun o o2 => ((g1.alloc o).alloc o2).cell; have e_g1 := fun o => (g1.alloc o).free; try clear c_g3 f_g3 a_g3 d_g3 e_g3
          replace g3 := g3.below b; have c_g3 := g3.cell; have f_g3 := g3.free; have a_g3 := fun o => (g3.alloc o).cell; have d_g3 := fun o o2 => ((g3.alloc o).alloc o2).cell; have e_g3 := fun o => (g3.alloc o).free; try clear c_g7 f_g7 a_g7 d_g7 e_g7
          replace g7 := g7.below b; have c_g7 := g7.cell; have f_g7 := g7.free; have a_g7 := fun o => (g7.alloc o).cell; have d_g7 := fun o o2 => ((g7.alloc o).alloc o2).cell; have e_g7 := fun o => (g7.alloc o).free; replace B := B.trans (b.mono B.size); clear b
          have hz1 := B.size; have hp7 := g7.lt
          go_wp2_with fail
          refine (GV.out _ (H.out.below B)).mono ?_
          rintro e wa3 ⟨t', o', s', rfl, om, b⟩
          try clear c_g1 f_g1 a_g1 d_g1 e_g1
          replace g1 := g1.below b; have c_g1 := g1.cell; have f_g1 := g1.free; have a_g1 := fun o => (g1.alloc o).cell; have d_g1 := fun o o2 => ((g1.alloc o).alloc o2).cell; have e_g1 := fun o => (g1.alloc o).free; try clear c_g3 f_g3 a_g3 d_g3 e_g3
          replace g3 := g3.below b; have c_g3 := g3.cell; have f_g3 := g3.free; have a_g3 := fun o => (g3.alloc o).cell; have d_g3 := fun o o2 => ((g3.alloc o).alloc o2).cell; have e_g3 := fun o => (g3.alloc o).free; try clear c_g7 f_g7 a_g7 d_g7 e_g7
          replace g7 := g7.below b; have c_g7 := g7.cell; have f_g7 := g7.free; have a_g7 := fun o => (g7.alloc o).cell; have d_g7 := fun o o2 => ((g7.alloc o).alloc o2).cell; have e_g7 := fun o => (g7.alloc o).free; replace B := B.trans (b.mono B.size); clear b
          replace om : OwnM _ w.heap.size 67 t' o' s' _ := OwnM.mono om hz1
          obtain ⟨⟨tA, tn, tc, rfl⟩, ⟨oA, on, oc, rfl⟩, ⟨sA, sn, sc, rfl⟩⟩ := om.forms
          have hpc := g7.lt
          go_upto_region 7 with (fail)
          refine wp_gen (fun Wv => Bx Wv (wa3.heap.size) (26) (#[.slice tA tn tc, .slice oA on oc, .slice sA sn sc]) ∧ Bx Wv (wa3.heap.size + 1) (28) (#[.int .i64 k, .int .i64 (s.gen + 1)]) ∧ Below wa3.heap.size wa3 Wv) ⟨(((Bx.at_ (by simp)).alloc _)), ((Bx.at_ (by simp))), (((Below.refl _ wa3).alloc (by simp <;> omega) _).alloc (by simp <;> omega) _)⟩ ?_
          rintro wa4 ⟨g4, g9, b⟩
          try clear c_g1 f_g1 a_g1 d_g1 e_g1
          replace g1 := g1.below b; have c_g1 := g1.cell; have f_g1 := g1.free; have a_g1 := fun o => (g1.alloc o).cell; have d_g1 := fun o o2 => ((g1.alloc o).alloc o2).cell; have e_g1 := fun o => (g1.alloc o).free; try clear c_g3 f_g3 a_g3 d_g3 e_g3
          replace g3 := g3.below b; have c_g3 := g3.cell; have f_g3 := g3.free; have a_g3 := fun o => (g3.alloc o).cell; have d_g3 := fun o o2 => ((g3.alloc o).alloc o2).cell; have e_g3 := fun o => (g3.alloc o).free; try clear c_g7 f_g7 a_g7 d_g7 e_g7
          replace g7 := g7.below b; have c_g7 := g7.cell; have f_g7 := g7.free; have a_g7 := fun o => (g7.alloc o).cell; have d_g7 := fun o o2 => ((g7.alloc o).alloc o2).cell; have e_g7 := fun o => (g7.alloc o).free; replace om := om.below b; replace B := B.trans (b.mono B.size); clear b
          have c_g4 := g4.cell; have f_g4 := g4.free; have a_g4 := fun o => (g4.alloc o).cell; have d_g4 := fun o o2 => ((g4.alloc o).alloc o2).cell; have e_g4 := fun o => (g4.alloc o).free
          have c_g9 := g9.cell; have f_g9 := g9.free; have a_g9 := fun o => (g9.alloc o).cell; have d_g9 := fun o o2 => ((g9.alloc o).alloc o2).cell; have e_g9 := fun o => (g9.alloc o).free
          clear om
          go_wp2
          refine bodyPost_ret (v := .tuple #[.agg #[.slice none 0 0, .slice none 0 0, .slice none 0 0], .agg #[.int .i64 0, .int .i64 0], .int .i64 4]) (by simp [results, Try.results27, go_sem, c_g3, f_g3, c_g7, f_g7]) rfl ?_
          refine ⟨_, _, _, rfl, Mod.nil _, ?_⟩
          (repeat (first | refine Below.setCell ?_ (by first | exact Nat.le_refl _ | (simp <;> omega)) _ | refine Below.alloc ?_ (by first | exact B.size | (have := B.size; simp <;> omega)) _)); exact B
        · have hr1 : r = 0 := by rw [hr, allE, if_pos h0, if_pos (by omega), if_neg (by rw [hnx]; exact fun e => by cases e), if_neg (by omega)]
          have q9 : ¬ 960 ≤ NO := by omega
          have q9' : ¬ (960 : Int) ≤ (NO : Int) := by omega
          obtain ⟨m2, hm2⟩ : ∃ m2 : Mo, m2 = ⟨m.types, m.objs, m.slots.set k ⟨s.gen + 1, true, (NO : Int)⟩⟩ := ⟨_, rfl⟩
          have hMM : M = ⟨m2.types, m2.objs ++ [⟨(q : Int), List.replicate l.length 0⟩], m2.slots⟩ := by
            rw [hM, allM, ← hr, if_pos hr1, newO, hnx, hm2, hNO]
            show (⟨m.types, _, m.slots.set k ⟨(m.slots.getD k .none).gen + 1, true, _⟩⟩ : Mo) = _
            rw [hgd]
            simp [List.getD_eq_getElem?_getD, hl]
          have e2 : (k : Int) = hs := by rw [hhs, allS, ← hr, if_pos hr1, hnx]; rfl
          have e3 : s.gen + 1 = hg := by rw [hhg, allG, ← hr, if_pos hr1, hnx]; show _ = (m.slots.getD k .none).gen + 1; rw [hgd]
          have hO2 : m2.objs.length = NO := by rw [hm2]; exact hNO.symm
          rw [← hm2, e2, e3] at GV0
          have GV := Lib.hid GV0
          have HMM := Lib.hid hMM; have HO2 := Lib.hid hO2
          have hNO9 : NO < 960 := by omega
          subst hr1
          clear hr hM hhs hhg hno h0 h hc ht hq k1 k2 k3 hl hNO hNT hnx hl' hby GV0 hgd hsk h9 hMM e2 e3 hO2 hm2
          have HAD := Lib.hid mad; clear mad
          go_enter Try.func27, Try.ntmps27
          go_upto_region 1 with (fail)
          refine wp_gen (fun Wv => Bx Wv (w.heap.size) (26) (#[tv, ov, sv]) ∧ Bx Wv (w.heap.size + 1) (26) (#[.slice none 0 0, .slice none 0 0, .slice none 0 0]) ∧ Bx Wv (w.heap.size + 1 + 1) (28) (#[.int .i64 0, .int .i64 0]) ∧ Below w.heap.size w Wv) ⟨((((Bx.at_ (by simp)).alloc _).alloc _)), (((Bx.at_ (by simp)).alloc _)), ((Bx.at_ (by simp))), ((((Below.refl _ w).alloc (by simp <;> omega) _).alloc (by simp <;> omega) _).alloc (by simp <;> omega) _)⟩ ?_
          rintro wa1 ⟨g1, g3, g7, b⟩
          replace B := B.trans (b.mono B.size); clear b
          have c_g1 := g1.cell; have f_g1 := g1.free; have a_g1 := fun o => (g1.alloc o).cell; have d_g1 := fun o o2 => ((g1.alloc o).alloc o2).cell; have e_g1 := fun o => (g1.alloc o).free
          have c_g3 := g3.cell; have f_g3 := g3.free; have a_g3 := fun o => (g3.alloc o).cell; have d_g3 := fun o o2 => ((g3.alloc o).alloc o2).cell; have e_g3 := fun o => (g3.alloc o).free
          have c_g7 := g7.cell; have f_g7 := g7.free; have a_g7 := fun o => (g7.alloc o).cell; have d_g7 := fun o o2 => ((g7.alloc o).alloc o2).cell; have e_g7 := fun o => (g7.alloc o).free
          go_wp2_with fail
          refine (CT.out _ (H.out.below B)).mono ?_
          rintro e wa2 ⟨rfl, b⟩
          try clear c_g1 f_g1 a_g1 d_g1 e_g1
          replace g1 := g1.below b; have c_g1 := g1.cell; have f_g1 := g1.free; have a_g1 := fun o => (g1.alloc o).cell; have d_g1 := fun o o2 => ((g1.alloc o).alloc o2).cell; have e_g1 := fun o => (g1.alloc o).free; try clear c_g3 f_g3 a_g3 d_g3 e_g3
          replace g3 := g3.below b; have c_g3 := g3.cell; have f_g3 := g3.free; have a_g3 := fun o => (g3.alloc o).cell; have d_g3 := fun o o2 => ((g3.alloc o).alloc o2).cell; have e_g3 := fun o => (g3.alloc o).free; try clear c_g7 f_g7 a_g7 d_g7 e_g7
          replace g7 := g7.below b; have c_g7 := g7.cell; have f_g7 := g7.free; have a_g7 := fun o => (g7.alloc o).cell; have d_g7 := fun o o2 => ((g7.alloc o).alloc o2).cell; have e_g7 := fun o => (g7.alloc o).free; replace B := B.trans (b.mono B.size); clear b
          have hz1 := B.size; have hp7 := g7.lt
          go_wp2_with fail
          refine (GV.out _ (H.out.below B)).mono ?_
          rintro e wa3 ⟨t', o', s', rfl, om, b⟩
          try clear c_g1 f_g1 a_g1 d_g1 e_g1
          replace g1 := g1.below b; have c_g1 := g1.cell; have f_g1 := g1.free; have a_g1 := fun o => (g1.alloc o).cell; have d_g1 := fun o o2 => ((g1.alloc o).alloc o2).cell; have e_g1 := fun o => (g1.alloc o).free; try clear c_g3 f_g3 a_g3 d_g3 e_g3
          replace g3 := g3.below b; have c_g3 := g3.cell; have f_g3 := g3.free; have a_g3 := fun o => (g3.alloc o).cell; have d_g3 := fun o o2 => ((g3.alloc o).alloc o2).cell; have e_g3 := fun o => (g3.alloc o).free; try clear c_g7 f_g7 a_g7 d_g7 e_g7
          replace g7 := g7.below b; have c_g7 := g7.cell; have f_g7 := g7.free; have a_g7 := fun o => (g7.alloc o).cell; have d_g7 := fun o o2 => ((g7.alloc o).alloc o2).cell; have e_g7 := fun o => (g7.alloc o).free; replace B := B.trans (b.mono B.size); clear b
          replace om : OwnM _ w.heap.size 67 t' o' s' m2 := OwnM.mono om hz1
          obtain ⟨⟨tA, tn, tc, rfl⟩, ⟨oA, on, oc, rfl⟩, ⟨sA, sn, sc, rfl⟩⟩ := om.forms
          have hpc := g7.lt
          go_upto_region 7 with (fail)
          refine wp_gen (fun Wv => Bx Wv (wa3.heap.size) (26) (#[.slice tA tn tc, .slice oA on oc, .slice sA sn sc]) ∧ Bx Wv (wa3.heap.size + 1) (28) (#[.int .i64 hs, .int .i64 hg]) ∧ Below wa3.heap.size wa3 Wv) ⟨(((Bx.at_ (by simp)).alloc _)), ((Bx.at_ (by simp))), (((Below.refl _ wa3).alloc (by simp <;> omega) _).alloc (by simp <;> omega) _)⟩ ?_
          rintro wa4 ⟨g4, g9, b⟩
          try clear c_g1 f_g1 a_g1 d_g1 e_g1
          replace g1 := g1.below b; have c_g1 := g1.cell; have f_g1 := g1.free; have a_g1 := fun o => (g1.alloc o).cell; have d_g1 := fun o o2 => ((g1.alloc o).alloc o2).cell; have e_g1 := fun o => (g1.alloc o).free; try clear c_g3 f_g3 a_g3 d_g3 e_g3
          replace g3 := g3.below b; have c_g3 := g3.cell; have f_g3 := g3.free; have a_g3 := fun o => (g3.alloc o).cell; have d_g3 := fun o o2 => ((g3.alloc o).alloc o2).cell; have e_g3 := fun o => (g3.alloc o).free; try clear c_g7 f_g7 a_g7 d_g7 e_g7
          replace g7 := g7.below b; have c_g7 := g7.cell; have f_g7 := g7.free; have a_g7 := fun o => (g7.alloc o).cell; have d_g7 := fun o o2 => ((g7.alloc o).alloc o2).cell; have e_g7 := fun o => (g7.alloc o).free; replace om := om.below b; replace B := B.trans (b.mono B.size); clear b
          have c_g4 := g4.cell; have f_g4 := g4.free; have a_g4 := fun o => (g4.alloc o).cell; have d_g4 := fun o o2 => ((g4.alloc o).alloc o2).cell; have e_g4 := fun o => (g4.alloc o).free
          have c_g9 := g9.cell; have f_g9 := g9.free; have a_g9 := fun o => (g9.alloc o).cell; have d_g9 := fun o o2 => ((g9.alloc o).alloc o2).cell; have e_g9 := fun o => (g9.alloc o).free
          go_upto_region 11 with (fail)
          have h59 := g9.lt
          have hB := B.size
          obtain ⟨W1, r1, oy, b1⟩ := run_make_words (w := wa4.drew) l.length (by omega)
          replace r1 : (Instr.makeSlice 70 (.int .i64 (l.length : Int)) (.int .i64 (l.length : Int))).run Try.prog wa4.drew = .ok (.slice (some ⟨wa4.heap.size, 0, none⟩) l.length l.length) W1 := r1
          replace oy : OwnW W1 wa4.heap.size 29 (.slice (some ⟨wa4.heap.size, 0, none⟩) l.length l.length) (List.replicate l.length 0) := oy
          replace b1 : Below wa4.heap.size wa4 W1 := (Below.refl _ wa4).drew.trans b1
          obtain ⟨vs, z1, z2, z4, z5⟩ := om.o
          have hz := b1.size
          obtain ⟨v, W3, r3, o3, gr3⟩ := run_append_rd (P := Try.prog) (w := W1.alloc (.cells #[i64 (q : Int), .slice (some ⟨wa4.heap.size, 0, none⟩) l.length l.length] 72)) (ty := 23) (B := w.heap.size) Try.underlying23 info_obj rfl (by omega) (own_below z2 (b1.alloc hz _)) lit_obj (one_obj rfl) (by have := HO2.out; omega) (by have := HO2.out; omega) (by simp; omega)
          have hs9 := own_not_bx z2 g9 (by decide); have hs7 := own_not_bx z2 g7 (by decide)
          have MM := Lib.hid (copyO_mem (o := ⟨(q : Int), List.replicate l.length 0⟩) (a := w.heap.size) (b := w.heap.size + 1) (p := wa3.heap.size) z1 z2 z4 z5 oy b1 o3 gr3 g1 g3 g4 om.t om.s B hB (by omega) (by omega) (by omega) g9 hs9 (by omega))
          have b3 := b1.alloc hz (.cells #[i64 (q : Int), .slice (some ⟨wa4.heap.size, 0, none⟩) l.length l.length] 72)
          have z2' := own_below z2 b3
          have q43 : Bx W3 wa3.heap.size 26 #[.slice tA tn tc, .slice oA on oc, .slice sA sn sc] := Bx.grown (g4.below b3) gr3 (own_not_bx z2' (g4.below b3) (by decide))
          have q7 : Bx (W3.setCell ⟨wa3.heap.size, 1, none⟩ v) (w.heap.size + 1 + 1) 28 #[.int .i64 0, .int .i64 0] := ((g7.below b3).grown gr3 hs7).far (p := ⟨wa3.heap.size, 1, none⟩) (by show w.heap.size + 1 + 1 ≠ wa3.heap.size; omega) v
          have b43 : Below w.heap.size w W3 := (B.trans (b3.mono hB)).grown gr3 (Nat.le_trans hB b3.size) (fun k hk => (z2'.lt k hk).1)
          have q13 : Bx W3 w.heap.size 26 #[tv, ov, sv] := Bx.grown (g1.below b3) gr3 (own_not_bx z2' (g1.below b3) (by decide))
          obtain ⟨vA, vn, vc, rfl⟩ : ∃ A n c, v = .slice A n c := by obtain ⟨A, c, e⟩ := own_form' o3; exact ⟨A, _, c, e⟩
          have AL : ∀ d, d ≤ 5 → Below w.heap.size w ((wsO wa4 wa3.heap.size (q : Int) ⟨.slice (some ⟨wa4.heap.size, 0, none⟩) l.length l.length, W1, .slice vA vn vc, W3⟩) d) ∧ Bx ((wsO wa4 wa3.heap.size (q : Int) ⟨.slice (some ⟨wa4.heap.size, 0, none⟩) l.length l.length, W1, .slice vA vn vc, W3⟩) d) w.heap.size 26 #[tv, ov, sv] := by
            intro d hd
            rcases d with _ | _ | _ | _ | _ | d
            · exact ⟨B.drew, g1⟩
            · exact ⟨B.trans (b1.mono hB), g1.below b1⟩
            · exact ⟨B.trans (b1.mono hB), g1.below b1⟩
            · exact ⟨B.trans (b3.mono hB), g1.below b3⟩
            · exact ⟨b43, q13⟩
            · exact ⟨MM.out.2.2.2.2.2.2.2.1, MM.out.2.2.1⟩
          have AA := Lib.hid (fun x : FXN (FL [9, 10, 11, 12, 14] (wsO wa4 wa3.heap.size (q : Int) ⟨.slice (some ⟨wa4.heap.size, 0, none⟩) l.length l.length, W1, .slice vA vn vc, W3⟩) 1 3) => FL.all (ks := [9, 10, 11, 12, 14]) (Ws := (wsO wa4 wa3.heap.size (q : Int) ⟨.slice (some ⟨wa4.heap.size, 0, none⟩) l.length l.length, W1, .slice vA vn vc, W3⟩)) (p := fun W => Below w.heap.size w W ∧ Bx W w.heap.size 26 #[tv, ov, sv]) AL x)
          have ca := fun x : FXN (FL [9, 10, 11, 12, 14] (wsO wa4 wa3.heap.size (q : Int) ⟨.slice (some ⟨wa4.heap.size, 0, none⟩) l.length l.length, W1, .slice vA vn vc, W3⟩) 1 3) => (AA.out x).2.cell
          have cb := fun x : FXN (FL [9, 10, 11, 12, 14] (wsO wa4 wa3.heap.size (q : Int) ⟨.slice (some ⟨wa4.heap.size, 0, none⟩) l.length l.length, W1, .slice vA vn vc, W3⟩) 1 3) => cell_later (AA.out x).1 HAD.out
          have p0 := g4.cell 1; have p1 := (g4.below b1).cell 1; have p3 := (g4.below b3).cell 1
          haveI : Nonempty (FXN (FL [9, 10, 11, 12, 14] (wsO wa4 wa3.heap.size (q : Int) ⟨.slice (some ⟨wa4.heap.size, 0, none⟩) l.length l.length, W1, .slice vA vn vc, W3⟩) 1 3)) := ⟨⟨_, _, FL.start⟩⟩
          clear c_g1 f_g1 a_g1 d_g1 e_g1 c_g3 f_g3 a_g3 d_g3 e_g3 c_g7 f_g7 a_g7 d_g7 e_g7 c_g4 f_g4 a_g4 d_g4 e_g4 c_g9 f_g9 a_g9 d_g9 e_g9
          refine wp_region_N (FL [9, 10, 11, 12, 14] (wsO wa4 wa3.heap.size (q : Int) ⟨.slice (some ⟨wa4.heap.size, 0, none⟩) l.length l.length, W1, .slice vA vn vc, W3⟩) 1 3) [1, 9, 10, 11, 12, 14] FL.dep (by kernel_rfl) (by kernel_rfl) (by kernel_rfl) FL.start ?_
          refine wpN_read FL.dep rfl (by decide) ?_; go_big_quiet_step (fail); refine wpQuiet_nil ?_
          refine wpN_step FL.dep rfl (by rfl) (v := .slice oA on oc) [] rfl (fun f W hF h0 _ => ?_) ?_
          · obtain ⟨⟨d, hd, hd2, rfl⟩, hF'⟩ := FL.read (by decide) hF h0
            refine ⟨_, ?_, hF'⟩
            have hc : ((wsO wa4 wa3.heap.size (q : Int) ⟨.slice (some ⟨wa4.heap.size, 0, none⟩) l.length l.length, W1, .slice vA vn vc, W3⟩) d).cell? ⟨wa3.heap.size, 1, none⟩ = some (.slice oA on oc) := by
              rcases d with _ | _ | _ | _ | d
              · exact p0
              · exact p1
              · exact p1
              · exact p3
              · omega
            simp [execOp, go_sem, hc]
          simp only [Act.put, List.setIfInBounds_toArray, List.set_cons_zero, List.set_cons_succ]
          iterate 6 (refine wpN_read FL.dep rfl (by decide) ?_; go_big_quiet_step (fail); refine wpQuiet_nil ?_)
          refine wpN_len FL.dep rfl (by decide) rfl (fun W => lyr _ W) ?_
          simp only [Act.put, List.setIfInBounds_toArray, List.set_cons_zero, List.set_cons_succ]
          refine wpN_step FL.dep rfl (by rfl) (v := .slice (some ⟨wa4.heap.size, 0, none⟩) l.length l.length) [] (by kernel_rfl) (fun f W hF h0 h1 => ?_) ?_
          · obtain ⟨rfl, h2⟩ := FL.step (i := 0) rfl (by decide) hF h0 (by intro p hp; omega) (by omega)
            exact ⟨_, by simp [execOp, Act.eval, wsO, r1], h2⟩
          simp only [Act.put, List.setIfInBounds_toArray, List.set_cons_zero, List.set_cons_succ]
          refine wpN_step FL.dep rfl (by rfl) (v := .agg #[i64 (q : Int), .slice (some ⟨wa4.heap.size, 0, none⟩) l.length l.length]) [9] (by kernel_rfl) (fun f W hF h0 h1 => ?_) ?_
          · obtain ⟨rfl, h2⟩ := FL.step (i := 1) rfl (by decide) hF h0 (FL.prev (p := 0) (q := 9) rfl (h1 9 (by simp))) (by omega)
            exact ⟨_, by simp [execOp, go_sem, wsO, i64], h2⟩
          simp only [Act.put, List.setIfInBounds_toArray, List.set_cons_zero, List.set_cons_succ]
          refine wpN_step FL.dep rfl (by rfl) (v := .slice (some ⟨W1.heap.size, 0, none⟩) 1 1) [10] (by kernel_rfl) (fun f W hF h0 h1 => ?_) ?_
          · obtain ⟨rfl, h2⟩ := FL.step (i := 2) rfl (by decide) hF h0 (FL.prev (p := 1) (q := 10) rfl (h1 10 (by simp))) (by omega)
            exact ⟨_, by simp [execOp, go_sem, wsO, i64], h2⟩
          simp only [Act.put, List.setIfInBounds_toArray, List.set_cons_zero, List.set_cons_succ]
          refine wpN_step FL.dep rfl (by rfl) (v := .slice vA vn vc) [11, 1] (by kernel_rfl) (fun f W hF h0 h1 => ?_) ?_
          · obtain ⟨rfl, h2⟩ := FL.step (i := 3) rfl (by decide) hF h0 (FL.prev (p := 2) (q := 11) rfl (h1 11 (by simp))) (fun _ => h1 1 (by simp))
            exact ⟨_, by simp [execOp, resolve, invoke, builtin, Act.eval, wsO, r3], h2⟩
          simp only [Act.put, List.setIfInBounds_toArray, List.set_cons_zero, List.set_cons_succ]
          refine wpN_read FL.dep rfl (by decide) ?_; go_big_quiet_step (fail); refine wpQuiet_nil ?_
          refine wpN_storeD FL.dep rfl 23 (.tmp 61) (.tmp 60) rfl (by rfl) (p := .pointer (some ⟨wa3.heap.size, 1, none⟩)) (u := .slice vA vn vc) (by rfl) (by rfl) [12] (by kernel_rfl) (fun f W hF h0 h1 => ?_) ?_
          · obtain ⟨rfl, h2⟩ := FL.step (i := 4) rfl (by decide) hF h0 (FL.prev (p := 3) (q := 12) rfl (h1 12 (by simp))) (by omega)
            refine ⟨_, ?_, h2⟩
            have hc := MM.out.1.1; have hf := MM.out.1.2
            simp [go_sem, wsO, hc, hf]
          simp only [Act.put]
          show ∀ w', _ → _
          intro w' hw'
          obtain rfl := FL.done hw'
          have HM := Lib.hid (And.intro MM.out.2 q7)
          clear this ca cb AL AA MM q7 q43 b43 q13 p0 p1 p3 om B g1 g3 g7 g4 g9 z1 z2 z4 z5 z2' b1 b3 r1 r3 o3 gr3 oy hs9 hs7 hw'
          go_upto_region 12 with (fail)
          obtain ⟨⟨k1, k2, k3, k4, k5, k6, k7, _, k9⟩, k8⟩ := HM.out
          have oM : OwnM (W3.setCell ⟨wa3.heap.size, 1, none⟩ (.slice vA vn vc)) w.heap.size 67 (.slice tA tn tc) (.slice vA vn vc) (.slice sA sn sc) M := by rw [HMM.out]; exact ⟨k5, k1, k6⟩
          refine wp_gen (fun Wv => OwnM Wv w.heap.size 67 (.slice tA tn tc) (.slice vA vn vc) (.slice sA sn sc) M ∧ Bx Wv (w.heap.size + 1) 26 #[.slice none 0 0, .slice none 0 0, .slice none 0 0] ∧ Bx Wv (w.heap.size + 1 + 1) 28 #[.int .i64 0, .int .i64 0] ∧ Bx Wv wa3.heap.size 26 #[.slice tA tn tc, .slice vA vn vc, .slice sA sn sc] ∧ Bx Wv (wa3.heap.size + 1) 28 #[.int .i64 hs, .int .i64 hg] ∧ Below w.heap.size w Wv) ⟨oM, k3, k8, k4, k9, k7⟩ ?_
          rintro wz ⟨om, g3, g7, g4, g9, B⟩
          clear k1 k2 k3 k4 k5 k6 k7 k8 k9 oM HM
          have START : (FTwoR w w.heap.size (.slice tA tn tc) (.slice vA vn vc) (.slice sA sn sc) M (w.heap.size + 1 + 1) wa3.heap.size (wa3.heap.size + 1) (w.heap.size + 1) hs hg) (fun _ => false) wz.drew := ⟨B.drew, ⟨om.t, om.o, om.s⟩, g3, g7, g4, g9⟩
          haveI : Nonempty (FXN (FTwoR w w.heap.size (.slice tA tn tc) (.slice vA vn vc) (.slice sA sn sc) M (w.heap.size + 1 + 1) wa3.heap.size (wa3.heap.size + 1) (w.heap.size + 1) hs hg)) := ⟨⟨_, _, START⟩⟩
          have ca := fun x : FXN (FTwoR w w.heap.size (.slice tA tn tc) (.slice vA vn vc) (.slice sA sn sc) M (w.heap.size + 1 + 1) wa3.heap.size (wa3.heap.size + 1) (w.heap.size + 1) hs hg) => (by obtain ⟨_, h⟩ := x.h; exact h.2.2.2.2.1 : Bx x.W wa3.heap.size 26 #[.slice tA tn tc, .slice vA vn vc, .slice sA sn sc]).cell
          have cb := fun x : FXN (FTwoR w w.heap.size (.slice tA tn tc) (.slice vA vn vc) (.slice sA sn sc) M (w.heap.size + 1 + 1) wa3.heap.size (wa3.heap.size + 1) (w.heap.size + 1) hs hg) => (by obtain ⟨_, h⟩ := x.h; exact h.2.2.2.2.2 : Bx x.W (wa3.heap.size + 1) 28 #[.int .i64 hs, .int .i64 hg]).cell
          clear om B g3 g7 g4 g9
          refine wp_region_N (FTwoR w w.heap.size (.slice tA tn tc) (.slice vA vn vc) (.slice sA sn sc) M (w.heap.size + 1 + 1) wa3.heap.size (wa3.heap.size + 1) (w.heap.size + 1) hs hg) [2, 3] FTwoR.dep (by kernel_rfl) (by kernel_rfl) (by kernel_rfl) START ?_
          iterate 2 (refine wpN_read FTwoR.dep rfl (by decide) ?_; go_big_quiet_step (fail); refine wpQuiet_nil ?_)
          refine wpN_storeD FTwoR.dep rfl 26 (.tmp 4) (.tmp 62) rfl (by rfl) (p := .pointer (some ⟨w.heap.size + 1, 0, none⟩)) (u := .agg #[.slice tA tn tc, .slice vA vn vc, .slice sA sn sc]) (by rfl) (by rfl) [] (by kernel_rfl) (fun f W hF h0 h1 => ?_) ?_
          · obtain ⟨k0, k1, h2⟩ := FTwoR.store2 hF h0 (by omega) (by omega) (by omega) (by omega)
            refine ⟨_, ?_, h2⟩
            simp [go_sem, k0, k1]
          simp only [Act.put, List.setIfInBounds_toArray, List.set_cons_zero, List.set_cons_succ]
          refine wpN_storeD FTwoR.dep rfl 28 (.tmp 5) (.tmp 63) rfl (by rfl) (p := .pointer (some ⟨w.heap.size + 1 + 1, 0, none⟩)) (u := .agg #[.int .i64 hs, .int .i64 hg]) (by rfl) (by rfl) [] (by kernel_rfl) (fun f W hF h0 h1 => ?_) ?_
          · obtain ⟨k0, k1, h2⟩ := FTwoR.store3 hF h0 (by omega) (by omega) (by omega) (by omega)
            refine ⟨_, ?_, h2⟩
            simp [go_sem, k0, k1]
          simp only [Act.put, List.setIfInBounds_toArray, List.set_cons_zero, List.set_cons_succ]
          iterate 1 (refine wpN_read FTwoR.dep rfl (by decide) ?_; go_big_quiet_step (fail); refine wpQuiet_nil ?_)
          show ∀ w', _ → _
          intro w' hF
          obtain ⟨B, om, g3, g7, _, _⟩ := hF
          have c3 := g3.cell; have c7 := g7.cell
          simp only [if_true] at c3 c7
          clear this ca cb START
          go_wp2
          refine bodyPost_ret (v := .tuple #[.agg #[.slice tA tn tc, .slice vA vn vc, .slice sA sn sc], .agg #[.int .i64 hs, .int .i64 hg], .int .i64 0]) (by simp [results, Try.results27, go_sem, c3, c7]) rfl ?_
          exact ⟨_, _, _, rfl, om.rd, B⟩
    · have hr1 : r = 2 := by rw [hr, allE, if_pos h0, if_neg (by omega)]
      obtain ⟨e1, e2, e3⟩ := hno (by rw [hr1]; decide)
      have hcase : t < 0 ∨ ¬ t < 0 ∧ (NT : Int) ≤ t := by omega
      subst hr1; subst e1; subst e2; subst e3
      clear hr hM hhs hhg hno h0 h hc ht hNT
      rcases hcase with n1 | ⟨n1, n2⟩
      all_goals
        go_enter Try.func27, Try.ntmps27
        go_upto_region 1 with (fail)
        refine wp_gen (fun Wv => Bx Wv (w.heap.size) (26) (#[tv, ov, sv]) ∧ Bx Wv (w.heap.size + 1) (26) (#[.slice none 0 0, .slice none 0 0, .slice none 0 0]) ∧ Bx Wv (w.heap.size + 1 + 1) (28) (#[.int .i64 0, .int .i64 0]) ∧ Below w.heap.size w Wv) ⟨((((Bx.at_ (by simp)).alloc _).alloc _)), (((Bx.at_ (by simp)).alloc _)), ((Bx.at_ (by simp))), ((((Below.refl _ w).alloc (by simp <;> omega) _).alloc (by simp <;> omega) _).alloc (by simp <;> omega) _)⟩ ?_
        rintro wa1 ⟨g1, g3, g7, b⟩
        replace B := B.trans (b.mono B.size); clear b
        have c_g1 := g1.cell; have f_g1 := g1.free; have a_g1 := fun o => (g1.alloc o).cell; have d_g1 := fun o o2 => ((g1.alloc o).alloc o2).cell; have e_g1 := fun o => (g1.alloc o).free
        have c_g3 := g3.cell; have f_g3 := g3.free; have a_g3 := fun o => (g3.alloc o).cell; have d_g3 := fun o o2 => ((g3.alloc o).alloc o2).cell; have e_g3 := fun o => (g3.alloc o).free
        have c_g7 := g7.cell; have f_g7 := g7.free; have a_g7 := fun o => (g7.alloc o).cell; have d_g7 := fun o o2 => ((g7.alloc o).alloc o2).cell; have e_g7 := fun o => (g7.alloc o).free
        go_wp2_with fail
        refine (CT.out _ (H.out.below B)).mono ?_
        rintro e wa2 ⟨rfl, b⟩
        try clear c_g1 f_g1 a_g1 d_g1 e_g1
        replace g1 := g1.below b; have c_g1 := g1.cell; have f_g1 := g1.free; have a_g1 := fun o => (g1.alloc o).cell; have d_g1 := fun o o2 => ((g1.alloc o).alloc o2).cell; have e_g1 := fun o => (g1.alloc o).free; try clear c_g3 f_g3 a_g3 d_g3 e_g3
        replace g3 := g3.below b; have c_g3 := g3.cell; have f_g3 := g3.free; have a_g3 := fun o => (g3.alloc o).cell; have d_g3 := fun o o2 => ((g3.alloc o).alloc o2).cell; have e_g3 := fun o => (g3.alloc o).free; try clear c_g7 f_g7 a_g7 d_g7 e_g7
        replace g7 := g7.below b; have c_g7 := g7.cell; have f_g7 := g7.free; have a_g7 := fun o => (g7.alloc o).cell; have d_g7 := fun o o2 => ((g7.alloc o).alloc o2).cell; have e_g7 := fun o => (g7.alloc o).free; replace B := B.trans (b.mono B.size); clear b
        go_wp2
        refine bodyPost_ret (v := .tuple #[.agg #[.slice none 0 0, .slice none 0 0, .slice none 0 0], .agg #[.int .i64 0, .int .i64 0], .int .i64 2]) (by simp [results, Try.results27, go_sem, c_g3, f_g3, c_g7, f_g7]) rfl ?_
        refine ⟨_, _, _, rfl, Mod.nil _, ?_⟩
        (repeat (first | refine Below.setCell ?_ (by first | exact Nat.le_refl _ | (simp <;> omega)) _ | refine Below.alloc ?_ (by first | exact B.size | (have := B.size; simp <;> omega)) _)); exact B
  · have hr1 : r = c := by rw [hr, allE, if_neg h0, hc]
    have hne : (c != 0) = true := by rw [bne_iff_ne, hc]; exact h0
    obtain ⟨e1, e2, e3⟩ := hno (by rw [hr1, hc]; exact h0)
    subst hr1; subst e1; subst e2; subst e3
    clear hr hM hhs hhg hno h0 h hc hNT
    go_enter Try.func27, Try.ntmps27
    go_upto_region 1 with (fail)
    refine wp_gen (fun Wv => Bx Wv (w.heap.size) (26) (#[tv, ov, sv]) ∧ Bx Wv (w.heap.size + 1) (26) (#[.slice none 0 0, .slice none 0 0, .slice none 0 0]) ∧ Bx Wv (w.heap.size + 1 + 1) (28) (#[.int .i64 0, .int .i64 0]) ∧ Below w.heap.size w Wv) ⟨((((Bx.at_ (by simp)).alloc _).alloc _)), (((Bx.at_ (by simp)).alloc _)), ((Bx.at_ (by simp))), ((((Below.refl _ w).alloc (by simp <;> omega) _).alloc (by simp <;> omega) _).alloc (by simp <;> omega) _)⟩ ?_
    rintro wa1 ⟨g1, g3, g7, b⟩
    replace B := B.trans (b.mono B.size); clear b
    have c_g1 := g1.cell; have f_g1 := g1.free; have a_g1 := fun o => (g1.alloc o).cell; have d_g1 := fun o o2 => ((g1.alloc o).alloc o2).cell; have e_g1 := fun o => (g1.alloc o).free
    have c_g3 := g3.cell; have f_g3 := g3.free; have a_g3 := fun o => (g3.alloc o).cell; have d_g3 := fun o o2 => ((g3.alloc o).alloc o2).cell; have e_g3 := fun o => (g3.alloc o).free
    have c_g7 := g7.cell; have f_g7 := g7.free; have a_g7 := fun o => (g7.alloc o).cell; have d_g7 := fun o o2 => ((g7.alloc o).alloc o2).cell; have e_g7 := fun o => (g7.alloc o).free
    go_wp2_with fail
    refine (CT.out _ (H.out.below B)).mono ?_
    rintro e wa2 ⟨rfl, b⟩
    try clear c_g1 f_g1 a_g1 d_g1 e_g1
    replace g1 := g1.below b; have c_g1 := g1.cell; have f_g1 := g1.free; have a_g1 := fun o => (g1.alloc o).cell; have d_g1 := fun o o2 => ((g1.alloc o).alloc o2).cell; have e_g1 := fun o => (g1.alloc o).free; try clear c_g3 f_g3 a_g3 d_g3 e_g3
    replace g3 := g3.below b; have c_g3 := g3.cell; have f_g3 := g3.free; have a_g3 := fun o => (g3.alloc o).cell; have d_g3 := fun o o2 => ((g3.alloc o).alloc o2).cell; have e_g3 := fun o => (g3.alloc o).free; try clear c_g7 f_g7 a_g7 d_g7 e_g7
    replace g7 := g7.below b; have c_g7 := g7.cell; have f_g7 := g7.free; have a_g7 := fun o => (g7.alloc o).cell; have d_g7 := fun o o2 => ((g7.alloc o).alloc o2).cell; have e_g7 := fun o => (g7.alloc o).free; replace B := B.trans (b.mono B.size); clear b
    go_wp2
    refine bodyPost_ret (v := .tuple #[.agg #[.slice none 0 0, .slice none 0 0, .slice none 0 0], .agg #[.int .i64 0, .int .i64 0], .int .i64 r]) (by simp [results, Try.results27, go_sem, c_g3, f_g3, c_g7, f_g7]) rfl ?_
    refine ⟨_, _, _, rfl, Mod.nil _, ?_⟩
    (repeat (first | refine Below.setCell ?_ (by first | exact Nat.le_refl _ | (simp <;> omega)) _ | refine Below.alloc ?_ (by first | exact B.size | (have := B.size; simp <;> omega)) _)); exact B
end Go.Proofs.Ytgjpohhafmkhcaa
namespace Go.Proofs.Ytgjpohhafmkhcaa
open Go.RowKit L02 L13 L18 L20
theorem ob_at {m : Mo} {i : Nat} {o : Ob} (h : m.objs[i]? = some o) : ob m i = o := by simp [ob, List.getD_eq_getElem?_getD, h]
theorem busy_cases (d : Int) (sl : Int) (s : Sl) (n : Nat) : ((d != sl) = false) ∨ ((d != sl) = true ∧ s.used = false) ∨ ((d != sl) = true ∧ s.used = true ∧ (s.at_ == (n : Int)) = false) ∨ ((d != sl) = true ∧ s.used = true ∧ (s.at_ == (n : Int)) = true) := by
  by_cases h : d = sl
  · exact .inl (by rw [bne_eq_false_iff_eq]; exact h)
  · have h' : (d != sl) = true := by rw [bne_iff_ne]; exact h
    cases hu : s.used
    · exact .inr (.inl ⟨h', rfl⟩)
    · by_cases ha : s.at_ = n
      · exact .inr (.inr (.inr ⟨h', rfl, by rw [beq_iff_eq]; exact ha⟩))
      · exact .inr (.inr (.inl ⟨h', rfl, by rw [beq_eq_false_iff_ne]; exact ha⟩))
set_option maxRecDepth 100000 in
set_option maxHeartbeats 16000000 in
theorem Busy_any (tv ov sv : Value) (m : Mo) (sl : Int) (n : Nat) (b : Bool) (hb : b = decide (Busy m sl n)) (hc : chk m = 0) (hn : n ≤ 1000) (w : World) (h : Mod w tv ov sv m) :
    Calls Try.prog 35 #[.agg #[tv, ov, sv], .int .i64 sl, .int .i64 n] w fun e w' => e = .returned (.bool b) ∧ Below w.heap.size w w' := by
  have B : Below w.heap.size w w := Below.refl _ _
  have lo := h.o.len; have ls := h.s.len
  have hyes : Busy m sl n → b = true := fun h2 => by rw [hb, decide_eq_true h2]
  obtain ⟨k1, k2, k3⟩ := chk_ok hc
  obtain ⟨NO, hNO⟩ : ∃ N, N = m.objs.length := ⟨_, rfl⟩
  obtain ⟨NS, hNS⟩ : ∃ N, N = m.slots.length := ⟨_, rfl⟩
  rw [← hNO] at lo; rw [← hNS] at ls
  have hw1 : IntKind.i64.wrap ((n : Int) + 1) = (n : Int) + 1 := IntWalk.i64_in _ (by omega)
  have hw2 : IntKind.u64.wrap ((n : Int) + 1) = (n : Int) + 1 := by show ((n : Int) + 1) % 18446744073709551616 = _; omega
  have hNO2 : NO ≤ 960 := by omega
  have hNS2 : NS = 16 := by rw [hNS]; exact k3.1
  have H := Lib.hid h; have HNO := Lib.hid hNO; have HNS := Lib.hid hNS; have HY := Lib.hid hyes; have HB0 := Lib.hid hb; have HK := Lib.hid k3.2.2.1; have HSM := Lib.hid (small_chk hc); have hNS3 : NS ≤ 16 := by omega
  clear h hNO hNS hyes hb k1 k2 k3 hc hNS2
  go_enter Try.func35, Try.ntmps35
  go_upto_region 1 with (fail)
  refine wp_gen (fun Wv => Bx Wv (w.heap.size) (26) (#[tv, ov, sv]) ∧ Below w.heap.size w Wv) ⟨((Bx.at_ (by simp))), ((Below.refl _ w).alloc (by simp <;> omega) _)⟩ ?_
  rintro wa1 ⟨g1, b⟩
  replace B := B.trans (b.mono B.size); clear b
  have c_g1 := g1.cell; have f_g1 := g1.free; have a_g1 := fun o => (g1.alloc o).cell; have d_g1 := fun o o2 => ((g1.alloc o).alloc o2).cell; have e_g1 := fun o => (g1.alloc o).free
  have HB := Lib.hid B; clear B
  go_wp2
  have HG1 := Lib.hid g1
  clear g1 c_g1 f_g1 a_g1 d_g1 e_g1
  go_loopg [7] NS (fun g i wr => ∃ j : Nat, j ≤ NS ∧ g = NS - j ∧ i = .int .i64 j ∧ Hid ((∀ i : Nat, i < j → ¬ ((i : Int) ≠ sl ∧ (m.slots.getD i .none).used = true ∧ (m.slots.getD i .none).at_ = n)) ∧ Bx wr w.heap.size 26 #[tv, ov, sv] ∧ Below w.heap.size w wr))
  case atStart => exact ⟨0, by omega, by omega, rfl, Lib.hid ⟨fun i hi => by omega, HG1.out, HB.out⟩⟩
  case round =>
    clear HG1 HB
    obtain ⟨j, hj, rfl, rfl, hh⟩ := hrel
    have g1 := hh.out.2.1
    have c_g1 := g1.cell
    by_cases hlt : j < NS
    · obtain ⟨bb, q, s, ix, m0, m1, m2, hs⟩ := (H.out.s.below hh.out.2.2).at_ (P := Try.prog) Try.underlying24 size_slot (k := j) (by have := HNS.out; omega)
      have hgd : m.slots.getD j .none = s := by simp [List.getD_eq_getElem?_getD, hs.out]
      have hcase := busy_cases (j : Int) sl s n
      obtain ⟨gn, us, a⟩ := s
      have HS := Lib.hid hgd
      clear hgd hs
      dsimp only at *
      have HJ := Lib.hid (fun (hx : ¬ ((j : Int) ≠ sl ∧ us = true ∧ a = (n : Int))) => show ∀ i : Nat, i < j + 1 → ¬ ((i : Int) ≠ sl ∧ (m.slots.getD i .none).used = true ∧ (m.slots.getD i .none).at_ = n) from fun i hi => by
        by_cases hij : i < j
        · exact hh.out.1 i hij
        · obtain rfl : i = j := by omega
          rw [HS.out]; exact hx)
      rcases hcase with e1 | ⟨e1, rfl⟩ | ⟨e1, rfl, e3⟩ | ⟨e1, rfl, e3⟩
      · have HR := Lib.hid (HJ.out (fun hx => by rw [bne_eq_false_iff_eq] at e1; exact hx.1 e1))
        clear HJ
        go_wp2
        go_roundg (NS - (j + 1))
        case measure => omega
        case rel => exact ⟨j + 1, by omega, rfl, by go_num, Lib.hid ⟨HR.out, hh.out.2⟩⟩
      · have HR := Lib.hid (HJ.out (fun hx => by cases hx.2.1))
        clear HJ
        go_wp2
        go_roundg (NS - (j + 1))
        case measure => omega
        case rel => exact ⟨j + 1, by omega, rfl, by go_num, Lib.hid ⟨HR.out, hh.out.2⟩⟩
      · have HR := Lib.hid (HJ.out (fun hx => by rw [beq_eq_false_iff_ne] at e3; exact e3 hx.2.2))
        clear HJ
        go_wp2
        go_roundg (NS - (j + 1))
        case measure => omega
        case rel => exact ⟨j + 1, by omega, rfl, by go_num, Lib.hid ⟨HR.out, hh.out.2⟩⟩
      · obtain rfl := HY.out (.inl ⟨j, by have := HNS.out; omega, by rw [bne_iff_ne] at e1; exact e1, by rw [HS.out], by rw [HS.out]; rw [beq_iff_eq] at e3; exact e3⟩)
        clear HJ
        go_wp2
        go_ret
        exact ⟨rfl, hh.out.2.2⟩
    · obtain rfl : j = NS := by omega
      have HT := Lib.hid hh.out.1; have HB := Lib.hid hh.out.2.2
      clear hh
      go_wp2
      have HG1 := Lib.hid g1
      clear g1 c_g1
      go_loopg [8] NO (fun g i wr => ∃ k : Nat, k ≤ NO ∧ g = NO - k ∧ i = .int .i64 k ∧ Hid ((∀ i : Nat, i < k → ¬ (i ≠ n ∧ ∃ p, p < (ob m i).fs.length ∧ isRef m (ob m i) p n)) ∧ Bx wr w.heap.size 26 #[tv, ov, sv] ∧ Below w.heap.size w wr))
      case atStart => exact ⟨0, by omega, by omega, rfl, Lib.hid ⟨fun i hi => by omega, HG1.out, HB.out⟩⟩
      case round =>
        clear HG1 HB
        obtain ⟨k, hk, rfl, rfl, hh⟩ := hrel
        have g1 := hh.out.2.1
        have c_g1 := g1.cell
        by_cases hltk : k < NO
        · obtain ⟨o, ho⟩ : ∃ o, m.objs[k]? = some o := ⟨_, List.getElem?_eq_getElem (by have := HNO.out; omega)⟩
          have hoo := HK.out o (List.mem_of_getElem? ho)
          obtain ⟨q, hq⟩ := Int.eq_ofNat_of_zero_le hoo.1.1
          have hqt : q < m.types.length := by have := hoo.1.2; omega
          obtain ⟨t, ht⟩ : ∃ t, m.types[q]? = some t := ⟨_, List.getElem?_eq_getElem hqt⟩
          have htt : ty m.types o = t := by rw [ty, hq]; simp [List.getD_eq_getElem?_getD, ht]
          obtain ⟨nf, hnf⟩ : ∃ N, N = o.fs.length := ⟨_, rfl⟩
          have hlt2 : nf = t.length := by rw [hnf, hoo.2.1, htt]
          have hnf20 : nf ≤ 20 := by rw [hnf]; exact HSM.out.2.2.2.2 o (List.mem_of_getElem? ho)
          have HE := Lib.hid (show ob m k = o from ob_at ho)
          have hall := hh.out
          have HNF := Lib.hid hnf; have HO := Lib.hid ho; have HT := Lib.hid ht; have HQ := Lib.hid hq; have HL := Lib.hid hlt2; have HTT := Lib.hid htt; have HQT := Lib.hid hqt
          clear hoo hq hqt ht htt hnf hlt2 ho
          go_wp2
          have HALL := Lib.hid hall
          clear g1 c_g1 hh hall
          go_loopg [9] nf (fun g i wr2 => ∃ p : Nat, p ≤ nf ∧ g = nf - p ∧ i = .int .i64 p ∧ Hid ((∀ p', p' < p → ¬ (k ≠ n ∧ isRef m o p' n)) ∧ Bx wr2 w.heap.size 26 #[tv, ov, sv] ∧ Below w.heap.size w wr2))
          case atStart => exact ⟨0, by omega, by omega, rfl, Lib.hid ⟨fun i hi => by omega, HALL.out.2⟩⟩
          case round =>
            obtain ⟨p, hp, rfl, rfl, hh⟩ := hrel
            have g1 := hh.out.2.1
            have c_g1 := g1.cell
            have B := hh.out.2.2
            obtain ⟨bo, oq, x, o2, ix, m0, m1, ho2, hx, hob⟩ := (H.out.o.below B).at_ (k := k) (by have := HNO.out; omega)
            obtain rfl : o2 = o := by have := ho2.out; rw [HO.out] at this; injection this with e; exact e.symm
            have hxx := hx.out
            obtain ⟨xA, xn, xc, rfl⟩ : ∃ A n c, x = .slice A n c := by obtain ⟨A, c, e, _⟩ := hx.out; exact ⟨A, _, c, e⟩
            have lx := Rd.len hxx Try.underlying70
            rw [← HNF.out] at lx
            clear hx ho2
            by_cases hltp : p < nf
            · obtain ⟨ad, y, t2, iy, m2, ht2, hby⟩ := (H.out.t.below B).at_ HQT.out
              obtain rfl : t2 = t := by have := ht2.out; rw [HT.out] at this; injection this with e; exact e.symm
              obtain ⟨bd, kk, ib, m3, hkk⟩ := hby.out.at_ (P := Try.prog) Try.underlying74 one_u8 (k := p) (by have := HL.out; omega)
              obtain ⟨cd, v, ic, m4, hv⟩ := hxx.at_ (P := Try.prog) Try.underlying70 one_u64 (k := p) (by have := HNF.out; omega)
              have hir : isRef m o2 p n ↔ kk.toNat = 3 ∧ v.toNat = n + 1 := by rw [isRef, HTT.out]; simp [List.getD_eq_getElem?_getD, hkk.out, hv.out]
              have HJ := Lib.hid (fun (hx : ¬ (k ≠ n ∧ kk.toNat = 3 ∧ v.toNat = n + 1)) => show ∀ p', p' < p + 1 → ¬ (k ≠ n ∧ isRef m o2 p' n) from fun i hi => by
                by_cases hij : i < p
                · exact hh.out.1 i hij
                · obtain rfl : i = p := by omega
                  rw [hir]; exact hx)
              have HI := Lib.hid hir
              rw [HQ.out] at m0
              clear ht2 hby hkk hv hir hh
              have hcase : ((k : Int) != (n : Int)) = false ∨ (((k : Int) != (n : Int)) = true ∧ ((kk.toNat : Int) == 3) = false) ∨ (((k : Int) != (n : Int)) = true ∧ ((kk.toNat : Int) == 3) = true ∧ ((v.toNat : Int) == (n : Int) + 1) = false) ∨ (((k : Int) != (n : Int)) = true ∧ ((kk.toNat : Int) == 3) = true ∧ ((v.toNat : Int) == (n : Int) + 1) = true) := by
                by_cases h1 : k = n
                · exact .inl (by rw [bne_eq_false_iff_eq]; omega)
                · have h1' : ((k : Int) != (n : Int)) = true := by rw [bne_iff_ne]; omega
                  by_cases h2 : kk.toNat = 3
                  · have h2' : ((kk.toNat : Int) == 3) = true := by rw [beq_iff_eq]; omega
                    by_cases h3 : v.toNat = n + 1
                    · exact .inr (.inr (.inr ⟨h1', h2', by rw [beq_iff_eq]; omega⟩))
                    · exact .inr (.inr (.inl ⟨h1', h2', by rw [beq_eq_false_iff_ne]; omega⟩))
                  · exact .inr (.inl ⟨h1', by rw [beq_eq_false_iff_ne]; omega⟩)
              rcases hcase with e1 | ⟨e1, e2⟩ | ⟨e1, e2, e3⟩ | ⟨e1, e2, e3⟩
              · have HR := Lib.hid (HJ.out (fun hx => by rw [bne_eq_false_iff_eq] at e1; omega))
                clear HJ
                go_wp2
                refine wp_region_calm (by kernel_rfl) (by kernel_rfl) ?_
                try clear c_g1 f_g1 a_g1 d_g1 e_g1
                have c_g1 := fun x : Fut _ => (g1.below x.h).cell
                have c_m0 := fun x : Fut _ => cell_later x.h m0
                have c_m1 := fun x : Fut _ => cell_later x.h m1
                have c_m2 := fun x : Fut _ => cell_later x.h m2
                have c_m3 := fun x : Fut _ => cell_later x.h m3
                have c_m4 := fun x : Fut _ => cell_later x.h m4
                repeat (go_big_quiet_step (fail))
                refine wpQuiet_nil ?_
                intro _ hw'
                obtain ⟨xq, hw''⟩ := hw'
                subst hw''
                clear c_g1; replace g1 := g1.below xq.h; have c_g1 := g1.cell; have f_g1 := g1.free; have a_g1 := fun o => (g1.alloc o).cell; have d_g1 := fun o o2 => ((g1.alloc o).alloc o2).cell; have e_g1 := fun o => (g1.alloc o).free
                clear c_m0; replace m0 := cell_later xq.h m0
                clear c_m1; replace m1 := cell_later xq.h m1
                clear c_m2; replace m2 := cell_later xq.h m2
                clear c_m3; replace m3 := cell_later xq.h m3
                clear c_m4; replace m4 := cell_later xq.h m4
                replace hxx := hxx.below xq.h
                replace B := B.trans (xq.h.mono B.size)
                go_wp2
                have HH := Lib.hid (And.intro HR.out (And.intro g1 B))
                clear g1 c_g1 f_g1 a_g1 d_g1 e_g1 B m0 m1 m2 m3 m4 hxx
                go_roundg (nf - (p + 1))
                case measure => omega
                case rel => exact ⟨p + 1, by omega, rfl, by go_num, Lib.hid HH.out⟩
              · have HR := Lib.hid (HJ.out (fun hx => by rw [beq_eq_false_iff_ne] at e2; omega))
                clear HJ
                go_wp2
                refine wp_region_calm (by kernel_rfl) (by kernel_rfl) ?_
                try clear c_g1 f_g1 a_g1 d_g1 e_g1
                have c_g1 := fun x : Fut _ => (g1.below x.h).cell
                have c_m0 := fun x : Fut _ => cell_later x.h m0
                have c_m1 := fun x : Fut _ => cell_later x.h m1
                have c_m2 := fun x : Fut _ => cell_later x.h m2
                have c_m3 := fun x : Fut _ => cell_later x.h m3
                have c_m4 := fun x : Fut _ => cell_later x.h m4
                repeat (go_big_quiet_step (fail))
                refine wpQuiet_nil ?_
                intro _ hw'
                obtain ⟨xq, hw''⟩ := hw'
                subst hw''
                clear c_g1; replace g1 := g1.below xq.h; have c_g1 := g1.cell; have f_g1 := g1.free; have a_g1 := fun o => (g1.alloc o).cell; have d_g1 := fun o o2 => ((g1.alloc o).alloc o2).cell; have e_g1 := fun o => (g1.alloc o).free
                clear c_m0; replace m0 := cell_later xq.h m0
                clear c_m1; replace m1 := cell_later xq.h m1
                clear c_m2; replace m2 := cell_later xq.h m2
                clear c_m3; replace m3 := cell_later xq.h m3
                clear c_m4; replace m4 := cell_later xq.h m4
                replace hxx := hxx.below xq.h
                replace B := B.trans (xq.h.mono B.size)
                go_wp2
                have HH := Lib.hid (And.intro HR.out (And.intro g1 B))
                clear g1 c_g1 f_g1 a_g1 d_g1 e_g1 B m0 m1 m2 m3 m4 hxx
                go_roundg (nf - (p + 1))
                case measure => omega
                case rel => exact ⟨p + 1, by omega, rfl, by go_num, Lib.hid HH.out⟩
              · have HR := Lib.hid (HJ.out (fun hx => by rw [beq_eq_false_iff_ne] at e3; omega))
                clear HJ
                go_wp2
                refine wp_region_calm (by kernel_rfl) (by kernel_rfl) ?_
                try clear c_g1 f_g1 a_g1 d_g1 e_g1
                have c_g1 := fun x : Fut _ => (g1.below x.h).cell
                have c_m0 := fun x : Fut _ => cell_later x.h m0
                have c_m1 := fun x : Fut _ => cell_later x.h m1
                have c_m2 := fun x : Fut _ => cell_later x.h m2
                have c_m3 := fun x : Fut _ => cell_later x.h m3
                have c_m4 := fun x : Fut _ => cell_later x.h m4
                repeat (go_big_quiet_step (fail))
                refine wpQuiet_nil ?_
                intro _ hw'
                obtain ⟨xq, hw''⟩ := hw'
                subst hw''
                clear c_g1; replace g1 := g1.below xq.h; have c_g1 := g1.cell; have f_g1 := g1.free; have a_g1 := fun o => (g1.alloc o).cell; have d_g1 := fun o o2 => ((g1.alloc o).alloc o2).cell; have e_g1 := fun o => (g1.alloc o).free
                clear c_m0; replace m0 := cell_later xq.h m0
                clear c_m1; replace m1 := cell_later xq.h m1
                clear c_m2; replace m2 := cell_later xq.h m2
                clear c_m3; replace m3 := cell_later xq.h m3
                clear c_m4; replace m4 := cell_later xq.h m4
                replace hxx := hxx.below xq.h
                replace B := B.trans (xq.h.mono B.size)
                go_wp2
                have HH := Lib.hid (And.intro HR.out (And.intro g1 B))
                clear g1 c_g1 f_g1 a_g1 d_g1 e_g1 B m0 m1 m2 m3 m4 hxx
                go_roundg (nf - (p + 1))
                case measure => omega
                case rel => exact ⟨p + 1, by omega, rfl, by go_num, Lib.hid HH.out⟩
              · obtain rfl := HY.out (.inr ⟨k, by have := HNO.out; omega, by rw [bne_iff_ne] at e1; omega, p, by rw [HE.out, ← HNF.out]; exact hltp, by rw [HE.out]; exact HI.out.2 ⟨by rw [beq_iff_eq] at e2; omega, by rw [beq_iff_eq] at e3; omega⟩⟩)
                clear HJ
                go_wp2
                refine wp_region_calm (by kernel_rfl) (by kernel_rfl) ?_
                try clear c_g1 f_g1 a_g1 d_g1 e_g1
                have c_g1 := fun x : Fut _ => (g1.below x.h).cell
                have c_m0 := fun x : Fut _ => cell_later x.h m0
                have c_m1 := fun x : Fut _ => cell_later x.h m1
                have c_m2 := fun x : Fut _ => cell_later x.h m2
                have c_m3 := fun x : Fut _ => cell_later x.h m3
                have c_m4 := fun x : Fut _ => cell_later x.h m4
                repeat (go_big_quiet_step (fail))
                refine wpQuiet_nil ?_
                intro _ hw'
                obtain ⟨xq, hw''⟩ := hw'
                subst hw''
                clear c_g1; replace g1 := g1.below xq.h; have c_g1 := g1.cell; have f_g1 := g1.free; have a_g1 := fun o => (g1.alloc o).cell; have d_g1 := fun o o2 => ((g1.alloc o).alloc o2).cell; have e_g1 := fun o => (g1.alloc o).free
                clear c_m0; replace m0 := cell_later xq.h m0
                clear c_m1; replace m1 := cell_later xq.h m1
                clear c_m2; replace m2 := cell_later xq.h m2
                clear c_m3; replace m3 := cell_later xq.h m3
                clear c_m4; replace m4 := cell_later xq.h m4
                replace hxx := hxx.below xq.h
                replace B := B.trans (xq.h.mono B.size)
                go_wp2
                go_ret
                exact ⟨rfl, B⟩
            · obtain rfl : p = nf := by omega
              have HH := Lib.hid (And.intro hh.out.1 (And.intro g1 B))
              clear hh B
              go_wp2
              clear g1 c_g1 m0 m1 hxx
              go_roundg (NO - (k + 1))
              case measure => omega
              case rel =>
                refine ⟨k + 1, by omega, rfl, by go_num, Lib.hid ⟨fun i hi => ?_, HH.out.2⟩⟩
                by_cases hij : i < k
                · exact HALL.out.1 i hij
                · obtain rfl : i = k := by omega
                  rw [HE.out]
                  rintro ⟨h1, p', h2, h3⟩
                  exact HH.out.1 p' (by rw [HNF.out]; exact h2) ⟨h1, h3⟩
        · obtain rfl : k = NO := by omega
          have HA := Lib.hid hh.out.1; have B := hh.out.2.2
          clear hh
          go_wp2
          go_ret
          refine ⟨ret_bool ?_, B⟩
          rw [HB0.out, eq_comm, decide_eq_false_iff_not]
          rintro (⟨i, h1, h2, h3, h4⟩ | ⟨i, h1, h2, h3⟩)
          · exact HT.out i (by have := HNS.out; omega) ⟨h2, h3, h4⟩
          · exact HA.out i (by have := HNO.out; omega) ⟨h2, h3⟩
end Go.Proofs.Ytgjpohhafmkhcaa
namespace Go.Proofs.Ytgjpohhafmkhcaa.L20
open L02 L13 L18
def numV (ns : List Int) (k : UInt8) (v : UInt64) : UInt64 := if k.toNat = 3 ∧ 0 < v.toNat then UInt64.ofNat (ns.getD (v.toNat - 1) 0 + 1).toNat else v
def numO (m : Mo) (ns : List Int) (o : Ob) : Ob := ⟨o.ty, (List.range o.fs.length).map fun i => numV ns ((ty m.types o).getD i 0) (o.fs.getD i 0)⟩
def numN (m : Mo) (ns : List Int) (want k : Nat) : List Ob := ((List.range k).filter fun n => decide (ns.getD n (-2) = (want : Int))).map fun n => numO m ns (ob m n)
def numJ (m : Mo) (ns : List Int) (j : Nat) : List Ob := (List.range j).flatMap fun want => numN m ns want ns.length
def numS (ns : List Int) (s : Sl) : Sl := if s.used = true then ⟨s.gen, true, ns.getD s.at_.toNat 0⟩ else s
def numM (m : Mo) (ns : List Int) : Mo := ⟨m.types, numJ m ns ns.length, m.slots.map (numS ns)⟩
def NumOk (m : Mo) (ns : List Int) : Prop := ns.length = m.objs.length ∧ ∀ x ∈ ns, -1 ≤ x ∧ x ≤ 1000
theorem numN_eq {m : Mo} {ns : List Int} {want k : Nat} (h : ns[k]? = some (want : Int)) : numN m ns want (k + 1) = numN m ns want k ++ [numO m ns (ob m k)] := by
  simp [numN, List.range_succ, List.filter_append, List.getD_eq_getElem?_getD, h]
theorem numN_ne {m : Mo} {ns : List Int} {want k : Nat} {x : Int} (h : ns[k]? = some x) (hx : x ≠ (want : Int)) : numN m ns want (k + 1) = numN m ns want k := by
  simp [numN, List.range_succ, List.filter_append, List.getD_eq_getElem?_getD, h, hx]
theorem numN_len (m : Mo) (ns : List Int) (want k : Nat) : (numN m ns want k).length ≤ k := by
  rw [numN, List.length_map]
  exact Nat.le_trans (List.length_filter_le _ _) (by simp)
theorem numJ_succ (m : Mo) (ns : List Int) (j : Nat) : numJ m ns (j + 1) = numJ m ns j ++ numN m ns j ns.length := by
  simp [numJ, List.range_succ, List.flatMap_append]
theorem numJ_len (m : Mo) (ns : List Int) : ∀ j, (numJ m ns j).length ≤ j * ns.length
  | 0 => by simp [numJ]
  | j + 1 => by
    have h1 := numJ_len m ns j
    have h2 := numN_len m ns j ns.length
    rw [numJ_succ, List.length_append, Nat.succ_mul]; omega
theorem numO_take {m : Mo} {ns : List Int} {o : Ob} {p : Nat} {k : UInt8} {v : UInt64} (hk : (ty m.types o)[p]? = some k) (hv : o.fs[p]? = some v) : (numO m ns o).fs.take (p + 1) = (numO m ns o).fs.take p ++ [numV ns k v] := by
  have hp : p < o.fs.length := (List.getElem?_eq_some_iff.1 hv).1
  have : (numO m ns o).fs[p]? = some (numV ns k v) := by
    have hv' : o.fs[p] = v := (List.getElem?_eq_some_iff.1 hv).2
    simp [numO, hp, List.getD_eq_getElem?_getD, hk, hv']
  rw [List.take_add_one, this]; rfl
theorem numO_len (m : Mo) (ns : List Int) (o : Ob) : (numO m ns o).fs.length = o.fs.length := by simp [numO]
theorem numV_other {ns : List Int} {k : UInt8} {v : UInt64} (h : ¬ (k.toNat = 3 ∧ 0 < v.toNat)) : numV ns k v = v := if_neg h
theorem numV_ref {ns : List Int} {k : UInt8} {v : UInt64} {q : Nat} {x : Int} (h : k.toNat = 3) (hv : v.toNat = q + 1) (hx : ns[q]? = some x) (h1 : -1 ≤ x) (h2 : x ≤ 1000) : ((numV ns k v).toNat : Int) = x + 1 := by
  have : ns.getD (v.toNat - 1) 0 = x := by rw [hv, Nat.add_sub_cancel]; simp [List.getD_eq_getElem?_getD, hx]
  rw [numV, if_pos ⟨h, by omega⟩, this]
  rw [UInt64.toNat_ofNat_of_lt' (by simp [UInt64.size]; omega)]
  omega
theorem numS_take {ns : List Int} {L : List Sl} {k : Nat} {s : Sl} (hs : L[k]? = some s) : ((L.take k).map (numS ns) ++ L.drop k).set k (numS ns s) = (L.take (k + 1)).map (numS ns) ++ L.drop (k + 1) := by
  have hk : k < L.length := (List.getElem?_eq_some_iff.1 hs).1
  have hd : L.drop k = s :: L.drop (k + 1) := by
    rw [List.drop_eq_getElem_cons hk]; congr 1
    rw [List.getElem?_eq_getElem hk] at hs; injection hs
  rw [List.take_add_one, hs, hd]
  rw [List.set_append_right _ _ (by simp; omega)]
  simp [Nat.min_eq_left (Nat.le_of_lt hk)]
theorem numS_get {ns : List Int} {L : List Sl} {k : Nat} {s : Sl} (hs : L[k]? = some s) : ((L.take k).map (numS ns) ++ L.drop k)[k]? = some s := by
  have hk : k < L.length := (List.getElem?_eq_some_iff.1 hs).1
  rw [List.getElem?_append_right (by simp; omega)]
  simp [Nat.min_eq_left (Nat.le_of_lt hk), hs]
theorem numS_same {ns : List Int} {L : List Sl} {k : Nat} {s : Sl} (hs : L[k]? = some s) (hu : s.used = false) : (L.take (k + 1)).map (numS ns) ++ L.drop (k + 1) = (L.take k).map (numS ns) ++ L.drop k := by
  rw [← numS_take hs]
  have : numS ns s = s := by rw [numS, hu]; simp
  rw [this]
  apply List.ext_getElem?
  intro i
  by_cases hi : i = k
  · subst hi
    rw [List.getElem?_set_self (by have := (List.getElem?_eq_some_iff.1 hs).1; simp; omega), numS_get hs]
  · rw [List.getElem?_set_ne (Ne.symm hi)]
end Go.Proofs.Ytgjpohhafmkhcaa.L20
namespace Go.Proofs.Ytgjpohhafmkhcaa
open Go.RowKit L02 L13 L18 L20
/-- the number of a slot is stored -/
theorem OwnS.put1 {w : World} {B E g n c k : Nat} {S : List Sl} {s : Sl} (h : OwnS w B E (.slice (some ⟨g, 0, none⟩) n c) S) (hs : S[k]? = some s) (a : Int) :
    OwnS (w.setCell ⟨g, k * 3 + 2, none⟩ (.int .i64 a)) B E (.slice (some ⟨g, 0, none⟩) n c) (S.set k ⟨s.gen, s.used, a⟩) ∧
      w.grownBy (w.setCell ⟨g, k * 3 + 2, none⟩ (.int .i64 a)) (some g) ∧ B ≤ g ∧ g < w.heap.size ∧ ∀ j, w.frozen? ⟨g, j, none⟩ = false := by
  have hk : k < S.length := (List.getElem?_eq_some_iff.1 hs).1
  have hn : n = S.length := by
    obtain ⟨g', cap, cur, hv, _⟩ := own_form h (by omega)
    injection hv
  subst hn
  have h3 := World.ownsRow.stored h (k * 3 + 2) (.int .i64 a)
  have hl := h.lt g rfl
  have hsame : ∀ i : Nat, i < 3 → ∀ u, (slC s)[i]? = some u → (tabL S).set (k * 3 + i) u = tabL S := by
    intro i hi u hu
    have t0 := tabL_get S k s hs i hi
    rw [hu] at t0
    apply List.ext_getElem?
    intro j
    by_cases hj : j = k * 3 + i
    · subst hj
      rw [List.getElem?_set_self (List.getElem?_eq_some_iff.1 t0).1, t0]
    · rw [List.getElem?_set_ne (Ne.symm hj)]
  have h0 := hsame 0 (by omega) (.int .i64 s.gen) rfl
  have h1 := hsame 1 (by omega) (.bool s.used) rfl
  rw [Nat.add_zero] at h0
  refine ⟨?_, h3.2, hl.1, hl.2, fun j => h.frozenAt j⟩
  unfold OwnS
  rw [← tabL_set S k ⟨s.gen, s.used, a⟩ hk, List.length_set]
  show World.ownsRow _ _ _ _ _ _ ((((tabL S).set (k * 3) (.int .i64 s.gen)).set (k * 3 + 1) (.bool s.used)).set (k * 3 + 2) (.int .i64 a))
  rw [h0, h1]
  exact h3.1
theorem own_ne_bx {w : World} {B e sz n n' p g c : Nat} {xs : List Value} {t : TypeId} {cs : Array Value} (h : w.ownsRow B e sz (.slice (some ⟨g, 0, none⟩) n c) n' xs) (hg : Bx w p t cs) (hne : e ≠ t) : g ≠ p := by
  rintro rfl
  rcases own_not_bx h hg hne with h | h
  · cases h
  · exact h rfl
/-- an index of another kind -/
theorem Rd.ixU {w : World} {sz n : Nat} {v : Value} {xs : List Value} {t e : TypeId} (h : Rd w sz v n xs) (ht : Try.prog.underlying t = some (.slice e)) (hi : (Try.prog.info? e).map (·.size) = some sz) {k : Nat} (hk : k < n) (W : World) :
    (Instr.indexAt t v (.int .u64 (k : Int))).run Try.prog W = .ok (.pointer (some (cellAt v (k * sz)))) W := by
  obtain ⟨i, hi', rfl⟩ := Option.map_eq_some_iff.1 hi
  clear hi
  obtain ⟨A, c, rfl, h1, _, h2, h3, h4⟩ := h
  cases A with
  | none => have := h3 rfl; omega
  | some ad =>
    obtain ⟨b, o, s⟩ := ad
    have := (h4 (by omega) _ rfl).1
    simp at this; subst this
    simp [Instr.indexAt, run_underlying ht, asIntOf, hk, sizeOf, typeInfo, hi', cellAt, Addr.add]
theorem Ints.atU {w : World} {v : Value} {l : List Int} (h : Ints w v l) {k : Nat} (hk : k < l.length) :
    ∃ ad x, (∀ W, (Instr.indexAt 52 v (.int .u64 (k : Int))).run Try.prog W = .ok (.pointer (some ad)) W) ∧ w.cell? ad = some (.int .i64 x) ∧ Hid (l[k]? = some x) :=
  ⟨_, l[k], fun W => Rd.ixU h Try.underlying52 one_int hk W, by rw [Nat.mul_one]; exact Rd.cell h (by simp [hk]; rfl), by unfold Hid; simp [hk]⟩
set_option maxRecDepth 100000 in
set_option maxHeartbeats 16000000 in
theorem Numbered_any (tv ov sv nv : Value) (m : Mo) (ns : List Int) (hc : chk m = 0) (hns : NumOk m ns) (w : World) (h : Mod w tv ov sv m) (hn : Ints w nv ns) :
    Calls Try.prog 23 #[.agg #[tv, ov, sv], nv] w fun e w' => ∃ t' o' s', e = .returned (.agg #[t', o', s']) ∧ OwnM w' w.heap.size 67 t' o' s' (numM m ns) ∧ Below w.heap.size w w' := by
  have B : Below w.heap.size w w := Below.refl _ _
  have ln := Rd.len hn Try.underlying52
  obtain ⟨k1, k2, k3⟩ := chk_ok hc
  obtain ⟨NO, hNO⟩ : ∃ N, N = ns.length := ⟨_, rfl⟩
  rw [← hNO] at ln
  have hNO2 : NO ≤ 960 := by rw [hNO, hns.1]; exact k2
  have hb1 : ∀ j, j ≤ NO → (numJ m ns j).length ≤ 921600 := fun j hj => Nat.le_trans (numJ_len m ns j) (by rw [← hNO]; exact Nat.le_trans (Nat.mul_le_mul hj (Nat.le_refl _)) (Nat.le_trans (Nat.mul_le_mul hNO2 hNO2) (by decide)))
  have TT := Lib.hid (fun w h => Twin_any tv ov sv m (small_chk hc) w h)
  have H := Lib.hid h; have HN := Lib.hid hn; have HNO := Lib.hid hNO; have HK := Lib.hid k3; have HSM := Lib.hid (small_chk hc); have HNS := Lib.hid hns; have HB1 := Lib.hid hb1
  clear h hn hNO k1 k2 k3 hc hns hb1
  go_enter Try.func23, Try.ntmps23
  go_upto_region 1 with (fail)
  refine wp_gen (fun Wv => Bx Wv (w.heap.size) (26) (#[tv, ov, sv]) ∧ Bx Wv (w.heap.size + 1) (26) (#[.slice none 0 0, .slice none 0 0, .slice none 0 0]) ∧ Below w.heap.size w Wv) ⟨(((Bx.at_ (by simp)).alloc _)), ((Bx.at_ (by simp))), (((Below.refl _ w).alloc (by simp <;> omega) _).alloc (by simp <;> omega) _)⟩ ?_
  rintro wa1 ⟨g1, g3, b⟩
  replace B := B.trans (b.mono B.size); clear b
  have c_g1 := g1.cell; have f_g1 := g1.free; have a_g1 := fun o => (g1.alloc o).cell; have d_g1 := fun o o2 => ((g1.alloc o).alloc o2).cell; have e_g1 := fun o => (g1.alloc o).free
  have c_g3 := g3.cell; have f_g3 := g3.free; have a_g3 := fun o => (g3.alloc o).cell; have d_g3 := fun o o2 => ((g3.alloc o).alloc o2).cell; have e_g3 := fun o => (g3.alloc o).free
  have hz1 := B.size; have hp3 := g3.lt
  go_wp2_with fail
  refine (TT.out _ (H.out.below B)).mono ?_
  rintro e wa2 ⟨t', o', s', rfl, om, b⟩
  try clear c_g1 f_g1 a_g1 d_g1 e_g1
  replace g1 := g1.below b; have c_g1 := g1.cell; have f_g1 := g1.free; have a_g1 := fun o => (g1.alloc o).cell; have d_g1 := fun o o2 => ((g1.alloc o).alloc o2).cell; have e_g1 := fun o => (g1.alloc o).free; try clear c_g3 f_g3 a_g3 d_g3 e_g3
  replace g3 := g3.below b; have c_g3 := g3.cell; have f_g3 := g3.free; have a_g3 := fun o => (g3.alloc o).cell; have d_g3 := fun o o2 => ((g3.alloc o).alloc o2).cell; have e_g3 := fun o => (g3.alloc o).free; replace B := B.trans (b.mono B.size); clear b
  obtain ⟨⟨tA, tn, tc, rfl⟩, ⟨oA, on, oc, rfl⟩, ⟨sA, sn, sc, rfl⟩⟩ := om.forms
  obtain ⟨gS, sc', hS1⟩ : ∃ g c, Value.slice sA sn sc = .slice (some ⟨g, 0, none⟩) 16 c := by obtain ⟨g, n, c, e, e2⟩ := om.s.form (by have := HK.out.1; omega); rw [e2, HK.out.1] at e; exact ⟨g, c, e⟩
  cases hS1
  have hp3' := g3.lt
  go_upto_region 2 with (fail)
  refine wp_gen (fun Wv => Bx Wv (wa2.heap.size) (26) (#[.slice tA tn tc, .slice oA on oc, .slice (some ⟨gS, 0, none⟩) 16 sc]) ∧ Below wa2.heap.size wa2 Wv) ⟨((Bx.at_ (by simp))), ((Below.refl _ wa2).alloc (by simp <;> omega) _)⟩ ?_
  rintro wa3 ⟨g4, b⟩
  try clear c_g1 f_g1 a_g1 d_g1 e_g1
  replace g1 := g1.below b; have c_g1 := g1.cell; have f_g1 := g1.free; have a_g1 := fun o => (g1.alloc o).cell; have d_g1 := fun o o2 => ((g1.alloc o).alloc o2).cell; have e_g1 := fun o => (g1.alloc o).free; try clear c_g3 f_g3 a_g3 d_g3 e_g3
  replace g3 := g3.below b; have c_g3 := g3.cell; have f_g3 := g3.free; have a_g3 := fun o => (g3.alloc o).cell; have d_g3 := fun o o2 => ((g3.alloc o).alloc o2).cell; have e_g3 := fun o => (g3.alloc o).free; replace om := om.below b; replace B := B.trans (b.mono B.size); clear b
  have c_g4 := g4.cell; have f_g4 := g4.free; have a_g4 := fun o => (g4.alloc o).cell; have d_g4 := fun o o2 => ((g4.alloc o).alloc o2).cell; have e_g4 := fun o => (g4.alloc o).free
  generalize hpp : wa2.heap.size = p5 at *
  have hp5 : w.heap.size + 1 + 1 ≤ p5 := by omega
  go_upto_region 3 with (fail)
  refine wp_gen (fun Wv => OwnT Wv w.heap.size (.slice tA tn tc) m.types ∧ OwnO Wv w.heap.size (.slice none 0 0) (numJ m ns 0) ∧ OwnS Wv w.heap.size 67 (.slice (some ⟨gS, 0, none⟩) 16 sc) m.slots ∧ Bx Wv w.heap.size 26 #[tv, ov, sv] ∧ Bx Wv (w.heap.size + 1) 26 #[.slice none 0 0, .slice none 0 0, .slice none 0 0] ∧ Bx Wv p5 26 #[.slice tA tn tc, .slice none 0 0, .slice (some ⟨gS, 0, none⟩) 16 sc] ∧ Below w.heap.size w Wv) ?_ ?_
  · have om2 := (om.mono hz1).set (p := p5) (i := 1) (u := .slice none 0 0) g4
    refine ⟨om2.t, OwnO.nil _ _, om2.s, g1.far (p := ⟨p5, 1, none⟩) (by show _ ≠ p5; omega) _, g3.far (p := ⟨p5, 1, none⟩) (by show _ ≠ p5; omega) _, ?_, B.setCell (p := ⟨p5, 1, none⟩) (by show _ ≤ p5; omega) _⟩
    have := g4.set (i := 1) (.slice none 0 0)
    simpa using this
  clear om g1 g3 g4 B c_g1 f_g1 a_g1 d_g1 e_g1 c_g3 f_g3 a_g3 d_g3 e_g3 c_g4 f_g4 a_g4 d_g4 e_g4 hpp hp3 hp3' hz1
  intro wz hz
  have HZ := Lib.hid hz; clear hz
  go_wp2
  go_loopg [6] NO (fun g i wr => ∃ j : Nat, j ≤ NO ∧ g = NO - j ∧ i = .int .i64 j ∧ Hid (∃ ov2, OwnT wr w.heap.size (.slice tA tn tc) m.types ∧ OwnO wr w.heap.size ov2 (numJ m ns j) ∧ OwnS wr w.heap.size 67 (.slice (some ⟨gS, 0, none⟩) 16 sc) m.slots ∧ Bx wr w.heap.size 26 #[tv, ov, sv] ∧ Bx wr (w.heap.size + 1) 26 #[.slice none 0 0, .slice none 0 0, .slice none 0 0] ∧ Bx wr p5 26 #[.slice tA tn tc, ov2, .slice (some ⟨gS, 0, none⟩) 16 sc] ∧ Below w.heap.size w wr))
  case atStart => exact ⟨0, by omega, by omega, rfl, Lib.hid ⟨_, HZ.out⟩⟩
  case round =>
    clear HZ
    obtain ⟨j, hj, rfl, rfl, hh⟩ := hrel
    by_cases hlt : j < NO
    · have HJ := hh
      clear hh
      go_wp2
      go_loopg [7] NO (fun g i wr => ∃ k : Nat, k ≤ NO ∧ g = NO - k ∧ i = .int .i64 k ∧ Hid (∃ ov2, OwnT wr w.heap.size (.slice tA tn tc) m.types ∧ OwnO wr w.heap.size ov2 (numJ m ns j ++ numN m ns j k) ∧ OwnS wr w.heap.size 67 (.slice (some ⟨gS, 0, none⟩) 16 sc) m.slots ∧ Bx wr w.heap.size 26 #[tv, ov, sv] ∧ Bx wr (w.heap.size + 1) 26 #[.slice none 0 0, .slice none 0 0, .slice none 0 0] ∧ Bx wr p5 26 #[.slice tA tn tc, ov2, .slice (some ⟨gS, 0, none⟩) 16 sc] ∧ Below w.heap.size w wr))
      case atStart => exact ⟨0, by omega, by omega, rfl, Lib.hid (by simpa [numN] using HJ.out)⟩
      case round =>
        clear HJ
        obtain ⟨k, hk, rfl, rfl, hh⟩ := hrel
        by_cases hltk : k < NO
        · obtain ⟨ov2, oT, oO, oS, g1, g3, g5, B⟩ := hh.out
          obtain ⟨na, x, ia, m0, hx⟩ := (HN.out.below B).at_ (P := Try.prog) Try.underlying52 one_int (k := k) (by have := HNO.out; omega)
          by_cases hxj : x = (j : Int)
          · have e1 : (x != (j : Int)) = false := by rw [bne_eq_false_iff_eq]; exact hxj
            subst hxj
            obtain ⟨o, ho⟩ : ∃ o, m.objs[k]? = some o := ⟨_, List.getElem?_eq_getElem (by have := HNO.out; have := HNS.out.1; omega)⟩
            have hoo := HK.out.2.2.1 o (List.mem_of_getElem? ho)
            obtain ⟨q, hq⟩ := Int.eq_ofNat_of_zero_le hoo.1.1
            have hqt : q < m.types.length := by have := hoo.1.2; omega
            obtain ⟨t, ht⟩ : ∃ t, m.types[q]? = some t := ⟨_, List.getElem?_eq_getElem hqt⟩
            have htt : ty m.types o = t := by rw [ty, hq]; simp [List.getD_eq_getElem?_getD, ht]
            obtain ⟨nf, hnf⟩ : ∃ N, N = o.fs.length := ⟨_, rfl⟩
            have hlt2 : nf = t.length := by rw [hnf, hoo.2.1, htt]
            have hnf20 : nf ≤ 20 := by rw [hnf]; exact HSM.out.2.2.2.2 o (List.mem_of_getElem? ho)
            have HFD := Lib.hid hoo.2.2
            have HE := Lib.hid (show ob m k = o from ob_at ho)
            have HNF := Lib.hid hnf; have HO := Lib.hid ho; have HT := Lib.hid ht; have HQ := Lib.hid hq; have HL := Lib.hid hlt2; have HTT := Lib.hid htt; have HQT := Lib.hid hqt
            have HX := hx
            clear hoo hqt ht htt hnf hlt2 ho
            obtain ⟨bo, oq, x0, o2, ix, m1, m2, ho2, hx0, hob⟩ := (H.out.o.below B).at_ (k := k) (by have := HNO.out; have := HNS.out.1; omega)
            obtain rfl : o2 = o := by have := ho2.out; rw [HO.out] at this; injection this with e; exact e.symm
            rw [hq] at m1
            clear hx0 hx ho2 hq hh
            obtain ⟨wn, hwn⟩ : ∃ W, W = wr := ⟨_, rfl⟩
            subst hwn
            have hB0 := B.size
            have c_g1 := g1.cell
            have HG := Lib.hid (And.intro oT (And.intro oO (And.intro oS (And.intro g1 (And.intro g3 (And.intro g5 B))))))
            clear oT oO oS g3 g5
            go_upto_region 11 with (fail)
            refine wp_gen (fun Wv => Bx Wv wn.heap.size 72 #[.int .i64 q, .slice none 0 0] ∧ Below wn.heap.size wn Wv) ⟨Bx.at_ (by simp), (Below.refl _ wn).alloc (by simp) _⟩ ?_
            rintro wa ⟨g8, b⟩
            have G8 := Lib.hid (And.intro g8 b)
            clear g8 b g1 c_g1 m0 m1 m2 B ix hob
            go_wp2
            go_loopg [9] nf (fun g i wr2 => ∃ p : Nat, p ≤ nf ∧ g = nf - p ∧ i = .int .i64 p ∧ Hid (∃ y, OwnW wr2 wn.heap.size 29 y ((numO m ns o2).fs.take p) ∧ Bx wr2 wn.heap.size 72 #[.int .i64 q, y] ∧ Below wn.heap.size wn wr2))
            case atStart => exact ⟨0, by omega, by omega, rfl, Lib.hid ⟨_, OwnW.nil _ _ _, G8.out.1, G8.out.2⟩⟩
            case round =>
              clear G8
              obtain ⟨p, hp, rfl, rfl, hh2⟩ := hrel
              obtain ⟨y, oy, g8, b⟩ := hh2.out
              obtain ⟨yA, yn, yc, rfl⟩ : ∃ A n c, y = .slice A n c := by obtain ⟨A, c, e⟩ := own_form' oy; exact ⟨A, _, c, e⟩
              have B2 := HG.out.2.2.2.2.2.2.trans (b.mono hB0)
              have c_g1 := (HG.out.2.2.2.1.below b).cell
              have c_g8 := g8.cell
              obtain ⟨bo, oq, x0, o3, ix, m1, m2, ho3, hx0, hob⟩ := (H.out.o.below B2).at_ (k := k) (by have := HNO.out; have := HNS.out.1; omega)
              obtain rfl : o3 = o2 := by have := ho3.out; rw [HO.out] at this; injection this with e; exact e.symm
              have hxx := hx0.out
              obtain ⟨xA, xn, xc, rfl⟩ : ∃ A n c, x0 = .slice A n c := by obtain ⟨A, c, e, _⟩ := hx0.out; exact ⟨A, _, c, e⟩
              have lx := Rd.len hxx Try.underlying70
              rw [← HNF.out] at lx
              clear hx0 ho3 hh2
              by_cases hltp : p < nf
              · obtain ⟨ad, yt, t2, iy, m3, ht2, hby⟩ := (H.out.t.below B2).at_ HQT.out
                obtain rfl : t2 = t := by have := ht2.out; rw [HT.out] at this; injection this with e; exact e.symm
                obtain ⟨bd, kk, ib, m4, hkk⟩ := hby.out.at_ (P := Try.prog) Try.underlying74 one_u8 (k := p) (by have := HL.out; omega)
                obtain ⟨cd, v, ic, m5, hv⟩ := hxx.at_ (P := Try.prog) Try.underlying70 one_u64 (k := p) (by have := HNF.out; omega)
                have HTK := Lib.hid (numO_take (ns := ns) (m := m) (o := o3) (p := p) (by rw [HTT.out]; exact hkk.out) hv.out)
                have hfd := HFD.out p (by have := HNF.out; omega)
                have HLK := Lib.hid (show ((numO m ns o3).fs.take p).length = p by rw [List.length_take, numO_len]; have := HNF.out; omega)
                rw [HTT.out] at hfd
                simp only [List.getD_eq_getElem?_getD, hkk.out, hv.out, Option.getD_some] at hfd
                have OY := Lib.hid oy; have BB := Lib.hid b; have G8 := Lib.hid g8
                have HFD2 := Lib.hid hfd.2
                clear ht2 hby hkk hv hfd oy b hxx
                obtain ⟨vn, hvn⟩ : ∃ q, q = v.toNat := ⟨_, rfl⟩
                rw [← hvn] at m5
                by_cases h3 : kk.toNat = 3
                · have k3 : ((kk.toNat : Int) == 3) = true := by rw [beq_iff_eq]; omega
                  by_cases h0 : 0 < vn
                  · obtain ⟨q2, rfl⟩ : ∃ q2, vn = q2 + 1 := ⟨vn - 1, by omega⟩
                    clear h0
                    have m5' : wr.cell? cd = some (.int .u64 ((q2 : Int) + 1)) := by rw [m5]; rfl
                    obtain ⟨nd, x2, ind, m6, hx2⟩ := (HN.out.below B2).atU (k := q2) (by have := HFD2.out h3; have := HNS.out.1; omega)
                    have hxr := HNS.out.2 x2 (List.mem_of_getElem? hx2.out)
                    have HV := Lib.hid (show Go.Proofs.Ytgjpohhafmkhcaa.u64 (numV ns kk v) = .int .u64 (x2 + 1) by rw [Go.Proofs.Ytgjpohhafmkhcaa.u64, numV_ref h3 hvn.symm hx2.out hxr.1 hxr.2])
                    have z1 : (0 : Int) < (q2 : Int) + 1 := by omega
                    have hq2 : q2 < 961 := by have := HFD2.out h3; have := HNS.out.1; have := HNO.out; omega
                    have z2 : IntKind.u64.wrap (q2 : Int) = (q2 : Int) := by show (q2 : Int) % 18446744073709551616 = _; omega
                    have z3 : IntKind.i64.wrap (x2 + 1) = x2 + 1 := IntWalk.i64_in _ (by omega)
                    have z4 : IntKind.u64.wrap (x2 + 1) = x2 + 1 := by show (x2 + 1) % 18446744073709551616 = _; omega
                    clear m5 hvn h3 hx2 hxr
                    go_upto_region 17 with (fail)
                    go_wp2_with (at_builtin; refine wpList_append (by rfl) rfl rfl rfl Try.underlying70 info_u64 rfl (by omega) (by exact own_below OY.out ((Below.refl _ wr).alloc (Nat.le_refl _) _)) (by exact lit_rd) (by simp [Value.oneCell']) (by rw [HLK.out]; omega) (by rw [HLK.out]; omega) (by exact BB.out.alloc BB.out.size _) (Nat.le_refl _) ?_; intro v1 w3 oo3 B3 g3'; obtain ⟨vA, vn1, vc, rfl⟩ : ∃ A n c, v1 = .slice A n c := by { obtain ⟨A, c, e⟩ := own_form' oo3; exact ⟨A, _, c, e⟩ }; have q8 := Bx.grown (G8.out.below ((Below.refl _ wr).alloc (Nat.le_refl _) (.cells #[.int .u64 (x2 + 1)] 29))) g3' (own_not_bx (own_below OY.out ((Below.refl _ wr).alloc (Nat.le_refl _) (.cells #[.int .u64 (x2 + 1)] 29))) (G8.out.below ((Below.refl _ wr).alloc (Nat.le_refl _) (.cells #[.int .u64 (x2 + 1)] 29))) (by decide)); have c8 := q8.cell; have f8 := q8.free)
                    have HQ8 := Lib.hid (And.intro q8 (And.intro oo3 B3))
                    clear q8 c8 f8 oo3 B3 g3' g8 c_g8 c_g1 m1 m2 lx
                    go_roundg (nf - (p + 1))
                    case measure => omega
                    case rel =>
                      obtain ⟨q8, oo3, B3⟩ := HQ8.out
                      refine ⟨p + 1, by omega, rfl, by go_num, Lib.hid ⟨_, own_set (OwnW.of (l := (numO m ns o3).fs.take (p + 1)) oo3 ?_) q8 (by decide), ?_, B3.setCell (p := ⟨wn.heap.size, 1, none⟩) (Nat.le_refl _) _⟩⟩
                      · rw [HTK.out, List.map_append, ← HV.out]; rfl
                      · have := q8.set (i := 1) (.slice vA vn1 vc)
                        simpa using this
                  · have HV := Lib.hid (show Go.Proofs.Ytgjpohhafmkhcaa.u64 (numV ns kk v) = .int .u64 vn by rw [numV_other (by omega), Go.Proofs.Ytgjpohhafmkhcaa.u64, hvn])
                    have z1 : decide ((0 : Int) < (vn : Int)) = false := by rw [decide_eq_false_iff_not]; omega
                    clear hvn h3
                    go_upto_region 17 with (fail)
                    go_wp2_with (at_builtin; refine wpList_append (by rfl) rfl rfl rfl Try.underlying70 info_u64 rfl (by omega) (by exact own_below OY.out ((Below.refl _ wr).alloc (Nat.le_refl _) _)) (by exact lit_rd) (by simp [Value.oneCell']) (by rw [HLK.out]; omega) (by rw [HLK.out]; omega) (by exact BB.out.alloc BB.out.size _) (Nat.le_refl _) ?_; intro v1 w3 oo3 B3 g3'; obtain ⟨vA, vn1, vc, rfl⟩ : ∃ A n c, v1 = .slice A n c := by { obtain ⟨A, c, e⟩ := own_form' oo3; exact ⟨A, _, c, e⟩ }; have q8 := Bx.grown (G8.out.below ((Below.refl _ wr).alloc (Nat.le_refl _) (.cells #[.int .u64 (vn : Int)] 29))) g3' (own_not_bx (own_below OY.out ((Below.refl _ wr).alloc (Nat.le_refl _) (.cells #[.int .u64 (vn : Int)] 29))) (G8.out.below ((Below.refl _ wr).alloc (Nat.le_refl _) (.cells #[.int .u64 (vn : Int)] 29))) (by decide)); have c8 := q8.cell; have f8 := q8.free)
                    have HQ8 := Lib.hid (And.intro q8 (And.intro oo3 B3))
                    clear q8 c8 f8 oo3 B3 g3' g8 c_g8 c_g1 m1 m2 lx
                    go_roundg (nf - (p + 1))
                    case measure => omega
                    case rel =>
                      obtain ⟨q8, oo3, B3⟩ := HQ8.out
                      refine ⟨p + 1, by omega, rfl, by go_num, Lib.hid ⟨_, own_set (OwnW.of (l := (numO m ns o3).fs.take (p + 1)) oo3 ?_) q8 (by decide), ?_, B3.setCell (p := ⟨wn.heap.size, 1, none⟩) (Nat.le_refl _) _⟩⟩
                      · rw [HTK.out, List.map_append, ← HV.out]; rfl
                      · have := q8.set (i := 1) (.slice vA vn1 vc)
                        simpa using this
                · have k3 : ((kk.toNat : Int) == 3) = false := by rw [beq_eq_false_iff_ne]; omega
                  have HV := Lib.hid (show Go.Proofs.Ytgjpohhafmkhcaa.u64 (numV ns kk v) = .int .u64 vn by rw [numV_other (by omega), Go.Proofs.Ytgjpohhafmkhcaa.u64, hvn])
                  clear hvn h3
                  go_upto_region 17 with (fail)
                  go_wp2_with (at_builtin; refine wpList_append (by rfl) rfl rfl rfl Try.underlying70 info_u64 rfl (by omega) (by exact own_below OY.out ((Below.refl _ wr).alloc (Nat.le_refl _) _)) (by exact lit_rd) (by simp [Value.oneCell']) (by rw [HLK.out]; omega) (by rw [HLK.out]; omega) (by exact BB.out.alloc BB.out.size _) (Nat.le_refl _) ?_; intro v1 w3 oo3 B3 g3'; obtain ⟨vA, vn1, vc, rfl⟩ : ∃ A n c, v1 = .slice A n c := by { obtain ⟨A, c, e⟩ := own_form' oo3; exact ⟨A, _, c, e⟩ }; have q8 := Bx.grown (G8.out.below ((Below.refl _ wr).alloc (Nat.le_refl _) (.cells #[.int .u64 (vn : Int)] 29))) g3' (own_not_bx (own_below OY.out ((Below.refl _ wr).alloc (Nat.le_refl _) (.cells #[.int .u64 (vn : Int)] 29))) (G8.out.below ((Below.refl _ wr).alloc (Nat.le_refl _) (.cells #[.int .u64 (vn : Int)] 29))) (by decide)); have c8 := q8.cell; have f8 := q8.free)
                  have HQ8 := Lib.hid (And.intro q8 (And.intro oo3 B3))
                  clear q8 c8 f8 oo3 B3 g3' g8 c_g8 c_g1 m1 m2 lx
                  go_roundg (nf - (p + 1))
                  case measure => omega
                  case rel =>
                    obtain ⟨q8, oo3, B3⟩ := HQ8.out
                    refine ⟨p + 1, by omega, rfl, by go_num, Lib.hid ⟨_, own_set (OwnW.of (l := (numO m ns o3).fs.take (p + 1)) oo3 ?_) q8 (by decide), ?_, B3.setCell (p := ⟨wn.heap.size, 1, none⟩) (Nat.le_refl _) _⟩⟩
                    · rw [HTK.out, List.map_append, ← HV.out]; rfl
                    · have := q8.set (i := 1) (.slice vA vn1 vc)
                      simpa using this
              · obtain rfl : p = nf := by omega
                have hfs : (numO m ns o3).fs.take p = (numO m ns o3).fs := by rw [List.take_of_length_le]; rw [numO_len]; have := HNF.out; omega
                rw [hfs] at oy
                have hqq : (numO m ns o3).ty = (q : Int) := HQ.out
                have hL1 : (numJ m ns j ++ numN m ns j k).length ≤ 922600 := by
                  rw [List.length_append]
                  have h1 := HB1.out j (by omega); have h2 := numN_len m ns j k
                  omega
                obtain ⟨oT, oO, oS, g1, g3, g5, B⟩ := HG.out
                obtain ⟨oA2, on2, oc2, rfl⟩ : ∃ A n c, ov2 = .slice A n c := by obtain ⟨vs, z1, z2, _⟩ := oO; obtain ⟨A, c, e⟩ := own_form' z2; exact ⟨A, _, c, e⟩
                obtain ⟨vs, z1, z2, z4, z5⟩ := oO
                have c5 := (g5.below b).cell
                have ba := b.alloc b.size (.cells #[.int .i64 (q : Int), .slice yA yn yc] 72)
                have HA := Lib.hid (And.intro z1 (And.intro z2 (And.intro z4 (And.intro z5 (And.intro oT (And.intro oS (And.intro g1 (And.intro g3 (And.intro g5 (And.intro B (And.intro oy (And.intro b (And.intro ba g8)))))))))))))
                clear z1 z4 z5 oT oS g1 g3 g5 B oy b g8
                have Z2 := Lib.hid (own_below z2 ba); have BA := Lib.hid ba
                clear z2 ba hfs m1
                have hn5 := hp5; have hqqH := Lib.hid hqq; have HL1 := Lib.hid hL1
                clear hqq hL1
                go_upto_region 18 with (fail)
                go_wp2_with (at_builtin; refine wpList_append (by rfl) rfl rfl rfl Try.underlying23 info_obj rfl (by omega) (by exact Z2.out) (by exact lit_obj) (by exact one_obj rfl) (by have := HL1.out; omega) (by have := HL1.out; omega) (by exact HA.out.2.2.2.2.2.2.2.2.2.1.trans (BA.out.mono hB0)) (by omega) ?_; intro v1 w3 oo3 B3 g3'; obtain ⟨vA, vn1, vc, rfl⟩ : ∃ A n c, v1 = .slice A n c := by { obtain ⟨A, c, e⟩ := own_form' oo3; exact ⟨A, _, c, e⟩ }; have MM := Lib.hid (copyO_mem (o := numO m ns o3) (a := w.heap.size) (b := w.heap.size + 1) (p := p5) HA.out.1 HA.out.2.1 HA.out.2.2.1 HA.out.2.2.2.1 HA.out.2.2.2.2.2.2.2.2.2.2.1 HA.out.2.2.2.2.2.2.2.2.2.2.2.1 (by rw [hqqH.out]; exact oo3) (by rw [hqqH.out]; exact g3') HA.out.2.2.2.2.2.2.1 HA.out.2.2.2.2.2.2.2.1 HA.out.2.2.2.2.2.2.2.2.1 HA.out.2.2.2.2.1 HA.out.2.2.2.2.2.1 HA.out.2.2.2.2.2.2.2.2.2.1 hB0 (by omega) (by omega) (by omega) HA.out.2.2.2.2.2.2.1 (own_not_bx HA.out.2.1 HA.out.2.2.2.2.2.2.1 (by decide)) (by omega)); have hc := MM.out.1.1; have hf := MM.out.1.2; clear oo3 B3 g3')
                have HM := Lib.hid MM.out.2
                clear MM hc hf c5 c_g8 c_g1 m2 lx HA Z2 BA
                go_roundg (NO - (k + 1))
                case measure => omega
                case rel =>
                  obtain ⟨k1, k2, k3, k4, k5, k6, k7, _⟩ := HM.out
                  refine ⟨k + 1, by omega, rfl, by go_num, Lib.hid ⟨_, k5, ?_, k6, k2, k3, k4, k7⟩⟩
                  rw [numN_eq HX.out, HE.out, ← List.append_assoc]; exact k1
          · have e1 : (x != (j : Int)) = true := by rw [bne_iff_ne]; exact hxj
            have HE := Lib.hid (numN_ne (m := m) hx.out hxj)
            clear hxj oT oO oS g1 g3 g5
            go_wp2
            go_roundg (NO - (k + 1))
            case measure => omega
            case rel =>
              refine ⟨k + 1, by omega, rfl, by go_num, ?_⟩
              rw [HE.out]; exact hh
        · obtain rfl : k = NO := by omega
          have HJ := hh; clear hh
          go_wp2
          go_roundg (k - (j + 1))
          case measure => omega
          case rel =>
            refine ⟨j + 1, by omega, rfl, by go_num, Lib.hid ?_⟩
            rw [numJ_succ, ← HNO.out]; exact HJ.out
    · obtain rfl : j = NO := by omega
      obtain ⟨ov2, oT, oO, oS, g1, g3, g5, B⟩ := hh.out
      obtain ⟨oA2, on2, oc2, rfl⟩ : ∃ A n c, ov2 = .slice A n c := by obtain ⟨vs, z1, z2, _⟩ := oO; obtain ⟨A, c, e⟩ := own_form' z2; exact ⟨A, _, c, e⟩
      have HM := Lib.hid (And.intro (OwnM.mk (m := ⟨m.types, numJ m ns j, m.slots⟩) oT oO oS) (And.intro g3 (And.intro g5 B)))
      clear hh oT oO oS g1 g3 g5 B
      go_wp2
      go_loopg [11] 16 (fun g i wr => ∃ j2 : Nat, j2 ≤ 16 ∧ g = 16 - j2 ∧ i = .int .i64 j2 ∧ Hid (OwnM wr w.heap.size 67 (.slice tA tn tc) (.slice oA2 on2 oc2) (.slice (some ⟨gS, 0, none⟩) 16 sc) ⟨m.types, numJ m ns j, (m.slots.take j2).map (numS ns) ++ m.slots.drop j2⟩ ∧ Bx wr (w.heap.size + 1) 26 #[.slice none 0 0, .slice none 0 0, .slice none 0 0] ∧ Bx wr p5 26 #[.slice tA tn tc, .slice oA2 on2 oc2, .slice (some ⟨gS, 0, none⟩) 16 sc] ∧ Below w.heap.size w wr))
      case atStart => exact ⟨0, by omega, by omega, rfl, Lib.hid (by simpa using HM.out)⟩
      case round =>
        clear HM
        obtain ⟨j2, hj2, rfl, rfl, hh⟩ := hrel
        obtain ⟨om, g3, g5, B⟩ := hh.out
        have c_g5 := g5.cell
        have hgS := om.s.lt gS rfl
        by_cases hlt2 : j2 < 16
        · obtain ⟨s, hs⟩ : ∃ s, m.slots[j2]? = some s := ⟨_, List.getElem?_eq_getElem (by have := HK.out.1; omega)⟩
          have hs2 := numS_get (ns := ns) hs
          have hso := HK.out.2.2.2 s (List.mem_of_getElem? hs)
          obtain ⟨ix, q0, q1, q2⟩ := OwnS.cells om.s hs2
          cases hu : s.used
          · rw [hu] at q1
            have HE := Lib.hid (numS_same (ns := ns) hs hu)
            clear hs hs2 hso q0 q2 om g3 B
            go_wp2
            go_roundg (16 - (j2 + 1))
            case measure => omega
            case rel =>
              refine ⟨j2 + 1, by omega, rfl, by go_num, ?_⟩
              rw [HE.out]; exact hh
          · rw [hu] at q1
            obtain ⟨a1, a2, a3⟩ := hso.2.2 hu
            obtain ⟨na, hna⟩ := Int.eq_ofNat_of_zero_le a2
            rw [hna] at q2
            obtain ⟨xa, x, ia, mx, hx⟩ := (HN.out.below B).at_ (P := Try.prog) Try.underlying52 one_int (k := na) (by have := HNO.out; have := HNS.out.1; omega)
            have HP := Lib.hid (OwnS.put1 om.s hs2 x)
            have fz := HP.out.2.2.2.2
            have hM3 := OwnM.slots om HP.out.2.1 HP.out.1
            have nx := fun {q : Nat} {tq : TypeId} {cs : Array Value} (hb : Bx wr q tq cs) (hne : gS ≠ q) => hb.grown HP.out.2.1 (.inr (fun e => hne (by injection e)))
            have n3 : gS ≠ w.heap.size + 1 := own_ne_bx om.s g3 (by decide)
            have n5 : gS ≠ p5 := own_ne_bx om.s g5 (by decide)
            have r3 := nx g3 n3; have r4 := nx g5 n5
            have hb3 := B.grown HP.out.2.1 B.size (fun k hk => by injection hk with hk; rw [← hk]; exact HP.out.2.2.1)
            have HH := Lib.hid (And.intro hM3 (And.intro r3 (And.intro r4 hb3)))
            have HE := Lib.hid (show ((m.slots.take j2).map (numS ns) ++ m.slots.drop j2).set j2 ⟨s.gen, s.used, x⟩ = (m.slots.take (j2 + 1)).map (numS ns) ++ m.slots.drop (j2 + 1) by
              rw [← numS_take hs]; congr 1; rw [numS, if_pos hu, hna, hu]; simp [List.getD_eq_getElem?_getD, hx.out])
            clear nx r3 r4 hb3 hM3 hh
            go_upto_region 23 with (fail)
            go_still_tail 14, (by kernel_rfl)
            change wpList _ _ _ _ _ wr.drew
            have q2' : wr.drew.cell? ⟨gS, j2 * 3 + 2, none⟩ = some (.int .i64 na) := q2
            have fz' : ∀ j, wr.drew.frozen? ⟨gS, j, none⟩ = false := fz
            clear om g3 g5 c_g5 B ix q0 q1 q2 ia mx fz hs hs2 hso a1 a2 a3
            go_wp2
            clear q2' fz'
            go_roundg (16 - (j2 + 1))
            case measure => omega
            case rel =>
              refine ⟨j2 + 1, by omega, rfl, by go_num, Lib.hid ?_⟩
              rw [← HE.out]
              exact ⟨⟨HH.out.1.t, HH.out.1.o, HH.out.1.s⟩, HH.out.2.1, HH.out.2.2.1, HH.out.2.2.2.drew⟩
        · obtain rfl : j2 = 16 := by omega
          have hm2 : (m.slots.take 16).map (numS ns) ++ m.slots.drop 16 = m.slots.map (numS ns) := by
            rw [List.take_of_length_le (by have := HK.out.1; omega), List.drop_of_length_le (by have := HK.out.1; omega), List.append_nil]
          rw [hm2, HNO.out] at om
          have HOM := Lib.hid om
          clear hh om hm2
          have c_g3 := g3.cell
          have f_g3 := g3.free
          go_wp2
          refine bodyPost_ret (v := .agg #[.slice tA tn tc, .slice oA2 on2 oc2, .slice (some ⟨gS, 0, none⟩) 16 sc]) (by simp [results, Try.results23, go_sem, c_g3, f_g3]) rfl ?_
          refine ⟨_, _, _, rfl, OwnM.set3 HOM.out g3, ?_⟩
          exact ((B.setCell (p := ⟨w.heap.size + 1, 0, none⟩) (by simp) _).setCell (p := ⟨w.heap.size + 1, 1, none⟩) (by simp) _).setCell (p := ⟨w.heap.size + 1, 2, none⟩) (by simp) _
end Go.Proofs.Ytgjpohhafmkhcaa
namespace Go.Proofs.Ytgjpohhafmkhcaa.L20
open L02 L13 L18
def kidAt (m : Mo) (o : Ob) (i : Nat) : Option Nat := if ((ty m.types o).getD i 0).toNat = 3 ∧ 0 < (o.fs.getD i 0).toNat then some ((o.fs.getD i 0).toNat - 1) else none
def kidsTo (m : Mo) (o : Ob) (p : Nat) : List Nat := (List.range p).filterMap (kidAt m o)
def kids (m : Mo) (n : Nat) : List Nat := kidsTo m (ob m n) (ob m n).fs.length
def rootOf (s : Sl) : Option Nat := if s.used = true then some s.at_.toNat else none
def roots (m : Mo) : List Nat := m.slots.filterMap rootOf
/-- out is what is found, ord has been found, l is to be looked at -/
inductive Rs (m : Mo) : List Nat → List Nat → List Nat → Prop
  | nil (ord : List Nat) : Rs m ord [] ord
  | seen {ord l out : List Nat} {n : Nat} : n ∈ ord → Rs m ord l out → Rs m ord (n :: l) out
  | new {ord l out : List Nat} {n : Nat} : n ∉ ord → Rs m (ord ++ [n]) (kids m n ++ l) out → Rs m ord (n :: l) out
section
variable {m : Mo} {ord l out : List Nat}
theorem Rs.det (h : Rs m ord l out) : ∀ {out'}, Rs m ord l out' → out = out' := by
  induction h with
  | nil ord => intro o h; cases h; rfl
  | seen h1 _ ih => intro o h; cases h with
    | seen _ h => exact ih h
    | new h2 _ => exact absurd h1 h2
  | new h1 _ ih => intro o h; cases h with
    | seen h2 _ => exact absurd h2 h1
    | new _ h => exact ih h
theorem Rs.app (h : Rs m ord l out) : ∀ {a b}, l = a ++ b → ∃ mid, Rs m ord a mid ∧ Rs m mid b out := by
  induction h with
  | nil ord =>
    intro a b h
    obtain ⟨rfl, rfl⟩ := List.append_eq_nil_iff.1 h.symm
    exact ⟨_, .nil _, .nil _⟩
  | @seen ord l out n h1 h2 ih =>
    intro a b h
    cases a with
    | nil => rw [List.nil_append] at h; subst h; exact ⟨_, .nil _, .seen h1 h2⟩
    | cons x a =>
      rw [List.cons_append] at h; injection h with e1 e2; subst e1
      obtain ⟨mid, p1, p2⟩ := ih e2
      exact ⟨mid, .seen h1 p1, p2⟩
  | @new ord l out n h1 h2 ih =>
    intro a b h
    cases a with
    | nil => rw [List.nil_append] at h; subst h; exact ⟨_, .nil _, .new h1 h2⟩
    | cons x a =>
      rw [List.cons_append] at h; injection h with e1 e2; subst e1
      obtain ⟨mid, p1, p2⟩ := ih (a := kids m n ++ a) (b := b) (by rw [e2, List.append_assoc])
      exact ⟨mid, .new h1 p1, p2⟩
theorem Rs.join {mid : List Nat} {a : List Nat} (h : Rs m ord a mid) : ∀ {b out}, Rs m mid b out → Rs m ord (a ++ b) out := by
  induction h with
  | nil ord => intro b out h; exact h
  | seen h1 _ ih => intro b out h; exact .seen h1 (ih h)
  | new h1 _ ih =>
    intro b out h
    have h2 := ih h
    rw [List.append_assoc] at h2
    exact .new h1 h2
theorem Rs.pre (h : Rs m ord l out) : ord <+: out := by
  induction h with
  | nil ord => exact List.prefix_refl _
  | seen _ _ ih => exact ih
  | new _ _ ih => exact (List.prefix_append _ _).trans ih
theorem Rs.nodup (h : Rs m ord l out) : ord.Nodup → out.Nodup := by
  induction h with
  | nil ord => exact id
  | seen _ _ ih => exact ih
  | @new ord l out n h1 _ ih =>
    intro hn
    refine ih (List.nodup_append.2 ⟨hn, by simp, ?_⟩)
    intro x hx y hy e
    rw [List.mem_singleton] at hy
    exact h1 (by rw [← hy, ← e]; exact hx)
theorem Rs.all {p : Nat → Prop} (hk : ∀ n, p n → ∀ k ∈ kids m n, p k) (h : Rs m ord l out) : (∀ n ∈ ord, p n) → (∀ n ∈ l, p n) → ∀ n ∈ out, p n := by
  induction h with
  | nil ord => intro h _; exact h
  | seen _ _ ih => intro h1 h2; exact ih h1 fun n hn => h2 n (List.mem_cons_of_mem _ hn)
  | @new ord l out n _ _ ih =>
    intro h1 h2
    have hpn := h2 n List.mem_cons_self
    refine ih (fun x hx => ?_) fun x hx => ?_
    · rcases List.mem_append.1 hx with h | h
      · exact h1 x h
      · rw [List.mem_singleton.1 h]; exact hpn
    · rcases List.mem_append.1 hx with h | h
      · exact hk n hpn x h
      · exact h2 x (List.mem_cons_of_mem _ h)
theorem Rs.mem (h : Rs m ord l out) : ∀ n ∈ l, n ∈ out := by
  induction h with
  | nil ord => intro n h; cases h
  | seen h1 h2 ih =>
    intro x hx
    rcases List.mem_cons.1 hx with h | h
    · rw [h]; exact h2.pre.subset h1
    · exact ih x h
  | new h1 h2 ih =>
    intro x hx
    rcases List.mem_cons.1 hx with h | h
    · rw [h]; exact h2.pre.subset (List.mem_append_right _ (by simp))
    · exact ih x (List.mem_append_right _ h)
theorem Rs.closed (h : Rs m ord l out) : (∀ n ∈ ord, ∀ k ∈ kids m n, k ∈ ord ∨ k ∈ l) → ∀ n ∈ out, ∀ k ∈ kids m n, k ∈ out := by
  induction h with
  | nil ord =>
    intro h n hn k hk
    rcases h n hn k hk with h | h
    · exact h
    · cases h
  | seen h1 h2 ih =>
    intro h
    refine ih fun x hx k hk => ?_
    rcases h x hx k hk with h | h
    · exact .inl h
    · rcases List.mem_cons.1 h with h | h
      · rw [h]; exact .inl h1
      · exact .inr h
  | new h1 h2 ih =>
    intro h
    refine ih fun x hx k hk => ?_
    rcases List.mem_append.1 hx with hx | hx
    · rcases h x hx k hk with h | h
      · exact .inl (List.mem_append_left _ h)
      · rcases List.mem_cons.1 h with h | h
        · rw [h]; exact .inl (List.mem_append_right _ (by simp))
        · exact .inr (List.mem_append_right _ h)
    · rw [List.mem_singleton.1 hx] at hk
      exact .inr (List.mem_append_left _ hk)
/-- what is found is found in turn -/
theorem nodup_lt {N : Nat} {l : List Nat} (h : l.Nodup) (hl : ∀ n ∈ l, n < N) : l.length ≤ N := by
  have := List.Nodup.length_le_of_subset (l₁ := l) (l₂ := List.range N) h (fun x hx => List.mem_range.2 (hl x hx))
  simpa using this
theorem Rs.ex {N : Nat} (hk : ∀ n, n < N → ∀ k ∈ kids m n, k < N) : ∀ (d : Nat) (ord l : List Nat), N - ord.length = d → ord.Nodup → (∀ n ∈ ord, n < N) → (∀ n ∈ l, n < N) → ∃ out, Rs m ord l out := by
  intro d
  induction d using Nat.strongRecOn with
  | ind d ih =>
    intro ord l hd hn ho
    induction l with
    | nil => intro _; exact ⟨_, .nil _⟩
    | cons n l ihl =>
      intro hl
      have hl' : ∀ x ∈ l, x < N := fun x hx => hl x (List.mem_cons_of_mem _ hx)
      have hnN := hl n List.mem_cons_self
      by_cases hm : n ∈ ord
      · obtain ⟨out, h⟩ := ihl hl'
        exact ⟨out, .seen hm h⟩
      · have hn2 : (ord ++ [n]).Nodup := List.nodup_append.2 ⟨hn, by simp, fun x hx y hy e => hm (by rw [← List.mem_singleton.1 hy, ← e]; exact hx)⟩
        have ho2 : ∀ x ∈ ord ++ [n], x < N := fun x hx => by
          rcases List.mem_append.1 hx with h | h
          · exact ho x h
          · rw [List.mem_singleton.1 h]; exact hnN
        have h1 := nodup_lt hn2 ho2
        simp at h1
        obtain ⟨out, h⟩ := ih (N - (ord ++ [n]).length) (by simp; omega) (ord ++ [n]) (kids m n ++ l) rfl hn2 ho2 (fun x hx => by
          rcases List.mem_append.1 hx with h | h
          · exact hk n hnN x h
          · exact hl' x h)
        exact ⟨out, .new hm h⟩
end
/-- .. in so many steps -/
inductive Rn (m : Mo) : Nat → List Nat → List Nat → List Nat → Prop
  | nil (ord : List Nat) : Rn m 0 ord [] ord
  | seen {ord l out : List Nat} {n d : Nat} : n ∈ ord → Rn m d ord l out → Rn m (d + 1) ord (n :: l) out
  | new {ord l out : List Nat} {n d : Nat} : n ∉ ord → Rn m d (ord ++ [n]) (kids m n ++ l) out → Rn m (d + 1) ord (n :: l) out
theorem Rs.steps {m : Mo} {ord l out : List Nat} (h : Rs m ord l out) : ∃ d, Rn m d ord l out := by
  induction h with
  | nil ord => exact ⟨0, .nil _⟩
  | seen h1 _ ih => obtain ⟨d, h⟩ := ih; exact ⟨d + 1, .seen h1 h⟩
  | new h1 _ ih => obtain ⟨d, h⟩ := ih; exact ⟨d + 1, .new h1 h⟩
theorem Rn.rs {m : Mo} {ord l out : List Nat} {d : Nat} (h : Rn m d ord l out) : Rs m ord l out := by
  induction h with
  | nil ord => exact .nil _
  | seen h1 _ ih => exact .seen h1 ih
  | new h1 _ ih => exact .new h1 ih
def kidSum (m : Mo) (l : List Nat) : Nat := (l.map fun n => (kids m n).length).sum
theorem Rn.count {m : Mo} {ord l out : List Nat} {d : Nat} (h : Rn m d ord l out) : d + kidSum m ord = l.length + kidSum m out := by
  induction h with
  | nil ord => simp
  | seen h1 _ ih => simp; omega
  | new h1 _ ih => simp [kidSum] at ih ⊢; omega
theorem Rn.len {m : Mo} {ord l out : List Nat} {d : Nat} (h : Rn m d ord l out) : l.length ≤ d := by
  induction h with
  | nil ord => simp
  | seen h1 _ ih => simp; exact ih
  | new h1 _ ih => simp at ih ⊢; omega
theorem kids_len (m : Mo) (n : Nat) : (kids m n).length ≤ (ob m n).fs.length := by
  rw [kids, kidsTo]
  exact Nat.le_trans (List.length_filterMap_le _ _) (by simp)
theorem kidSum_le {m : Mo} {c : Nat} : ∀ (l : List Nat), (∀ n ∈ l, (ob m n).fs.length ≤ c) → kidSum m l ≤ c * l.length
  | [], _ => by simp [kidSum]
  | n :: l, h => by
    have h1 := kidSum_le l (fun x hx => h x (List.mem_cons_of_mem _ hx))
    have h2 := kids_len m n
    have h3 := h n List.mem_cons_self
    simp only [kidSum, List.map_cons, List.sum_cons, List.length_cons] at h1 ⊢
    rw [Nat.mul_add, Nat.mul_one]; omega
theorem Rn.all {m : Mo} {p : Nat → Prop} (hk : ∀ n, p n → ∀ k ∈ kids m n, p k) {ord l out : List Nat} {d : Nat} (h : Rn m d ord l out) (h1 : ∀ n ∈ ord, p n) (h2 : ∀ n ∈ l, p n) : ∀ n ∈ out, p n := h.rs.all hk h1 h2
/-- the first that is looked at -/
theorem Rn.pop {m : Mo} {ord l out : List Nat} {n d : Nat} (h : Rn m d ord (n :: l) out) : ∃ d', d = d' + 1 ∧ ((n ∈ ord ∧ Rn m d' ord l out) ∨ (n ∉ ord ∧ Rn m d' (ord ++ [n]) (kids m n ++ l) out)) := by
  cases h with
  | seen h1 h2 => exact ⟨_, rfl, .inl ⟨h1, h2⟩⟩
  | new h1 h2 => exact ⟨_, rfl, .inr ⟨h1, h2⟩⟩
theorem Rn.end {m : Mo} {ord out : List Nat} {d : Nat} (h : Rn m d ord [] out) : out = ord := by cases h; rfl
/-- the kids from field p on -/
def kidsFrom (m : Mo) (o : Ob) (p : Nat) : List Nat := ((List.range o.fs.length).drop p).filterMap (kidAt m o)
theorem kidsFrom_zero (m : Mo) (n : Nat) : kidsFrom m (ob m n) 0 = kids m n := rfl
theorem kidsFrom_end (m : Mo) (o : Ob) : kidsFrom m o o.fs.length = [] := by rw [kidsFrom, List.drop_of_length_le (by simp)]; rfl
theorem kidsFrom_step {m : Mo} {o : Ob} {p : Nat} (hp : p < o.fs.length) : kidsFrom m o p = (match kidAt m o p with | none => [] | some c => [c]) ++ kidsFrom m o (p + 1) := by
  have hd : (List.range o.fs.length).drop p = p :: (List.range o.fs.length).drop (p + 1) := by
    rw [List.drop_eq_getElem_cons (by simpa using hp)]; simp
  rw [kidsFrom, hd, List.filterMap_cons]
  cases kidAt m o p <;> rfl
theorem kidsTo_step {m : Mo} {o : Ob} {p : Nat} : kidsTo m o (p + 1) = kidsTo m o p ++ (match kidAt m o p with | none => [] | some c => [c]) := by
  rw [kidsTo, List.range_succ, List.filterMap_append]
  congr 1
  cases h : kidAt m o p <;> simp [h]
/-- the first kids and the others -/
theorem kids_split {m : Mo} {o : Ob} {p : Nat} (hp : p ≤ o.fs.length) : kidsTo m o o.fs.length = kidsTo m o p ++ kidsFrom m o p := by
  rw [kidsTo, kidsTo, kidsFrom, ← List.filterMap_append]
  congr 1
  have := List.take_append_drop p (List.range o.fs.length)
  rw [← this]
  congr 1
  · apply List.ext_getElem?
    intro i
    rw [List.getElem?_take]
    rcases Nat.lt_or_ge i p with h | h
    · rw [if_pos h, List.getElem?_range (by omega), List.getElem?_range h]
    · rw [if_neg (by omega), List.getElem?_eq_none (by simpa using h)]
  · simp [List.drop_append, Nat.min_eq_left hp]
/-- the numbers of what is found -/
def canN (m : Mo) (out : List Nat) : List Int := (List.range m.objs.length).map fun n => if n ∈ out then (out.idxOf n : Int) else -1
def canM (m : Mo) (out : List Nat) : Mo := numM m (canN m out)
end Go.Proofs.Ytgjpohhafmkhcaa.L20
namespace Go.Proofs.Ytgjpohhafmkhcaa.L20
open L02 L13 L18
/-- of the same types -/
def Like (m m' : Mo) : Prop := m'.types = m.types ∧ m'.objs.length = m.objs.length ∧ ∀ k, (ob m' k).ty = (ob m k).ty ∧ (ob m' k).fs.length = (ob m k).fs.length
theorem Like.refl (m : Mo) : Like m m := ⟨rfl, rfl, fun _ => ⟨rfl, rfl⟩⟩
/-- the first i fields changed -/
def mapO (φ : UInt8 → UInt64 → UInt64) (T : List (List UInt8)) (o : Ob) (i : Nat) : Ob := ⟨o.ty, (List.range o.fs.length).map fun j => if j < i then φ ((ty T o).getD j 0) (o.fs.getD j 0) else o.fs.getD j 0⟩
/-- the objects before n changed, and i fields of n -/
def mapP (φ : UInt8 → UInt64 → UInt64) (m : Mo) (n i : Nat) : Mo := ⟨m.types, (List.range m.objs.length).map fun k => if k < n then mapO φ m.types (ob m k) (ob m k).fs.length else if k = n then mapO φ m.types (ob m k) i else ob m k, m.slots⟩
section
variable {φ : UInt8 → UInt64 → UInt64} {m : Mo} {n i : Nat}
theorem mapO_zero (T : List (List UInt8)) (o : Ob) : mapO φ T o 0 = o := by
  obtain ⟨t, fs⟩ := o
  have : (List.range fs.length).map (fun j => fs.getD j 0) = fs := by
    apply List.ext_getElem?
    intro k
    rcases Nat.lt_or_ge k fs.length with h | h
    · simp [h, List.getD_eq_getElem?_getD]
    · rw [List.getElem?_eq_none (by simpa using h), List.getElem?_eq_none h]
  simp only [List.getD_eq_getElem?_getD] at this
  simp [mapO, this]
theorem mapO_len (T : List (List UInt8)) (o : Ob) (i : Nat) : (mapO φ T o i).fs.length = o.fs.length := by simp [mapO]
theorem ob_mapP (k : Nat) (hk : k < m.objs.length) : ob (mapP φ m n i) k = if k < n then mapO φ m.types (ob m k) (ob m k).fs.length else if k = n then mapO φ m.types (ob m k) i else ob m k := by
  rw [ob, List.getD_eq_getElem?_getD]
  simp [mapP, hk]
theorem mapP_zero : mapP φ m 0 0 = m := by
  obtain ⟨T, L, S⟩ := m
  simp only [mapP]
  congr 1
  apply List.ext_getElem?
  intro k
  rcases Nat.lt_or_ge k L.length with h | h
  · simp [h, mapO_zero, ob, List.getD_eq_getElem?_getD]
  · rw [List.getElem?_eq_none (by simpa using h), List.getElem?_eq_none h]
theorem mapP_next : mapP φ m n (ob m n).fs.length = mapP φ m (n + 1) 0 := by
  simp only [mapP]
  congr 1
  refine List.map_congr_left fun k _ => ?_
  by_cases h1 : k < n
  · rw [if_pos h1, if_pos (by omega)]
  · by_cases h2 : k = n
    · subst h2; rw [if_neg h1, if_pos rfl, if_pos (by omega)]
    · rw [if_neg h1, if_neg h2, if_neg (by omega)]
      by_cases h3 : k = n + 1
      · rw [if_pos h3, mapO_zero]
      · rw [if_neg h3]
theorem mapP_like : Like m (mapP φ m n i) := by
  refine ⟨rfl, by simp [mapP], fun k => ?_⟩
  rcases Nat.lt_or_ge k m.objs.length with h | h
  · rw [ob_mapP k h]
    split
    · exact ⟨rfl, mapO_len _ _ _⟩
    · split
      · exact ⟨rfl, mapO_len _ _ _⟩
      · exact ⟨rfl, rfl⟩
  · rw [ob, ob, List.getD_eq_getElem?_getD, List.getD_eq_getElem?_getD, List.getElem?_eq_none (by simpa [mapP] using h), List.getElem?_eq_none h]
    exact ⟨rfl, rfl⟩
theorem mapO_get (T : List (List UInt8)) (o : Ob) {i j : Nat} (hj : j < o.fs.length) : (mapO φ T o i).fs[j]? = some (if j < i then φ ((ty T o).getD j 0) (o.fs.getD j 0) else o.fs.getD j 0) := by
  simp [mapO, hj]
theorem mapO_set (T : List (List UInt8)) (o : Ob) {i : Nat} (hi : i < o.fs.length) : (mapO φ T o i).fs.set i (φ ((ty T o).getD i 0) (o.fs.getD i 0)) = (mapO φ T o (i + 1)).fs := by
  apply List.ext_getElem?
  intro j
  rcases Nat.lt_or_ge j o.fs.length with h | h
  · by_cases hij : i = j
    · subst hij
      rw [List.getElem?_set_self (by rw [mapO_len]; exact hi), mapO_get T o hi, if_pos (by omega)]
    · rw [List.getElem?_set_ne hij, mapO_get T o h, mapO_get T o h]
      by_cases h1 : j < i
      · rw [if_pos h1, if_pos (by omega)]
      · rw [if_neg h1, if_neg (by omega)]
  · rw [List.getElem?_eq_none (by rw [List.length_set, mapO_len]; exact h), List.getElem?_eq_none (by rw [mapO_len]; exact h)]
/-- one more reference is changed -/
theorem mapP_step (hn : n < m.objs.length) (hi : i < (ob m n).fs.length) : putF (mapP φ m n i) n i (φ ((ty m.types (ob m n)).getD i 0) ((ob m n).fs.getD i 0)) = mapP φ m n (i + 1) := by
  have hob : ob (mapP φ m n i) n = mapO φ m.types (ob m n) i := by rw [ob_mapP n hn, if_neg (by omega), if_pos rfl]
  rw [putF, hob]
  show (⟨m.types, (mapP φ m n i).objs.set n ⟨(ob m n).ty, _⟩, m.slots⟩ : Mo) = ⟨m.types, (mapP φ m n (i + 1)).objs, m.slots⟩
  congr 1
  rw [mapO_set m.types _ hi]
  apply List.ext_getElem?
  intro k
  rcases Nat.lt_or_ge k m.objs.length with h | h
  · by_cases hk : n = k
    · subst hk
      rw [List.getElem?_set_self (by simpa [mapP] using h)]
      simp [mapP, h, mapO]
    · rw [List.getElem?_set_ne hk]
      simp only [mapP, List.getElem?_map, List.getElem?_range h, Option.map_some]
      by_cases h1 : k < n
      · rw [if_pos h1, if_pos h1]
      · rw [if_neg h1, if_neg h1, if_neg (Ne.symm hk), if_neg (Ne.symm hk)]
  · rw [List.getElem?_eq_none (by simpa [mapP] using h), List.getElem?_eq_none (by simpa [mapP] using h)]
/-- a field that does not change -/
theorem mapP_skip (h : φ ((ty m.types (ob m n)).getD i 0) ((ob m n).fs.getD i 0) = (ob m n).fs.getD i 0) : mapP φ m n (i + 1) = mapP φ m n i := by
  simp only [mapP]
  congr 1
  refine List.map_congr_left fun k _ => ?_
  by_cases h1 : k < n
  · rw [if_pos h1, if_pos h1]
  · by_cases h2 : k = n
    · subst h2
      rw [if_neg h1, if_pos rfl, if_neg h1, if_pos rfl]
      simp only [mapO]
      congr 1
      refine List.map_congr_left fun j _ => ?_
      by_cases h3 : j < k
      all_goals
        by_cases h4 : j = i
        · subst h4; simp only [List.getD_eq_getElem?_getD] at h; simp [h]
        · have : (j < i + 1) = (j < i) := by rw [eq_iff_iff]; omega
          simp only [this]
    · rw [if_neg h1, if_neg h2, if_neg h1, if_neg h2]
/-- what stands in a field now -/
theorem mapP_fld (hn : n < m.objs.length) (hi : i < (ob m n).fs.length) : ∃ o, (mapP φ m n i).objs[n]? = some o ∧ o.fs[i]? = some ((ob m n).fs.getD i 0) := by
  refine ⟨mapO φ m.types (ob m n) i, ?_, ?_⟩
  · simp [mapP, hn]
  · rw [mapO_get _ _ hi, if_neg (by omega)]
theorem mapP_done : mapP φ m m.objs.length 0 = ⟨m.types, m.objs.map fun o => mapO φ m.types o o.fs.length, m.slots⟩ := by
  simp only [mapP]
  congr 1
  apply List.ext_getElem?
  intro k
  rcases Nat.lt_or_ge k m.objs.length with h | h
  · simp [h, ob, List.getD_eq_getElem?_getD]
  · rw [List.getElem?_eq_none (by simpa using h), List.getElem?_eq_none (by simpa using h)]
end
end Go.Proofs.Ytgjpohhafmkhcaa.L20
