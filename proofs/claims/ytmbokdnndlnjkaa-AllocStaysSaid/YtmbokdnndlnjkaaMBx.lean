/- Contracts of the functions that the laws 'B' reach, part 24. No condition. -/
import Derived.Test.YtmbokdnndlnjkaaMBw
set_option linter.unusedVariables false
set_option linter.unusedSimpArgs false
namespace Go.Proofs.Ytmbokdnndlnjkaa
open Go.RowKit L02 L13 L18 L20
/-- an index of another kind -/
theorem Rd.ixU {w : World} {sz n : Nat} {v : Value} {xs : List Value} {t e : TypeId} (h : Rd w sz v n xs) (ht : Try.prog.underlying t = some (.slice e)) (hi : (Try.prog.info? e).map (·.size) = some sz) {k : Nat} (hk : k < n) (W : World) :
    (Instr.indexAt t v (.int .u64 (k : Int))).run Try.prog W = .ok (.pointer (some (cellAt v (k * sz)))) W := by
  obtain ⟨i, hi', rfl⟩ := Option.map_eq_some_iff.1 hi
  clear hi
  obtain ⟨A, c, rfl, h1, _, h2, h3, h4⟩ := h
  cases A with
  | none => have := h3 rfl; omega
  | some ad =>
    obtain ⟨b, o, s⟩ := ad
    have := (h4 (by omega) _ rfl).1
    simp at this; subst this
    simp [Instr.indexAt, run_underlying ht, asIntOf, hk, sizeOf, typeInfo, hi', cellAt, Addr.add]
theorem Ints.atU {w : World} {v : Value} {l : List Int} (h : Ints w v l) {k : Nat} (hk : k < l.length) :
    ∃ ad x, (∀ W, (Instr.indexAt 91 v (.int .u64 (k : Int))).run Try.prog W = .ok (.pointer (some ad)) W) ∧ w.cell? ad = some (.int .i64 x) ∧ Hid (l[k]? = some x) :=
  ⟨_, l[k], fun W => Rd.ixU h Try.underlying91 one_int hk W, by rw [Nat.mul_one]; exact Rd.cell h (by simp [hk]; rfl), by unfold Hid; simp [hk]⟩
set_option maxRecDepth 100000 in
set_option maxHeartbeats 16000000 in
theorem Numbered_any (tv ov sv nv : Value) (m : Mo) (ns : List Int) (hc : chk m = 0) (hns : NumOk m ns) (w : World) (h : Mod w tv ov sv m) (hn : Ints w nv ns) :
    Calls Try.prog 46 #[.agg #[tv, ov, sv], nv] w fun e w' => ∃ t' o' s', e = .returned (.agg #[t', o', s']) ∧ OwnM w' w.heap.size 46 t' o' s' (numM m ns) ∧ Below w.heap.size w w' := by
  have B : Below w.heap.size w w := Below.refl _ _
  have ln := Rd.len hn Try.underlying91
  obtain ⟨k1, k2, k3⟩ := chk_ok hc
  obtain ⟨NO, hNO⟩ : ∃ N, N = ns.length := ⟨_, rfl⟩
  rw [← hNO] at ln
  have hNO2 : NO ≤ 960 := by rw [hNO, hns.1]; exact k2
  have hb1 : ∀ j, j ≤ NO → (numJ m ns j).length ≤ 921600 := fun j hj => Nat.le_trans (numJ_len m ns j) (by rw [← hNO]; exact Nat.le_trans (Nat.mul_le_mul hj (Nat.le_refl _)) (Nat.le_trans (Nat.mul_le_mul hNO2 hNO2) (by decide)))
  have TT := Lib.hid (fun w h => TwinM_any tv ov sv m (small_chk hc) w h)
  have H := Lib.hid h; have HN := Lib.hid hn; have HNO := Lib.hid hNO; have HK := Lib.hid k3; have HSM := Lib.hid (small_chk hc); have HNS := Lib.hid hns; have HB1 := Lib.hid hb1
  clear h hn hNO k1 k2 k3 hc hns hb1
  go_enter Try.func46, Try.ntmps46
  go_upto_region 1 with (fail)
  refine wp_gen (fun Wv => Bx Wv (w.heap.size) (85) (#[tv, ov, sv]) ∧ Bx Wv (w.heap.size + 1) (85) (#[.slice none 0 0, .slice none 0 0, .slice none 0 0]) ∧ Below w.heap.size w Wv) ⟨(((Bx.at_ (by simp)).alloc _)), ((Bx.at_ (by simp))), (((Below.refl _ w).alloc (by simp <;> omega) _).alloc (by simp <;> omega) _)⟩ ?_
  rintro wa1 ⟨g1, g3, b⟩
  replace B := B.trans (b.mono B.size); clear b
  have c_g1 := g1.cell; have f_g1 := g1.free; have a_g1 := fun o => (g1.alloc o).cell; have d_g1 := fun o o2 => ((g1.alloc o).alloc o2).cell; have e_g1 := fun o => (g1.alloc o).free
  have c_g3 := g3.cell; have f_g3 := g3.free; have a_g3 := fun o => (g3.alloc o).cell; have d_g3 := fun o o2 => ((g3.alloc o).alloc o2).cell; have e_g3 := fun o => (g3.alloc o).free
  have hz1 := B.size; have hp3 := g3.lt
  go_wp2_with fail
  refine (TT.out _ (H.out.below B)).mono ?_
  rintro e wa2 ⟨t', o', s', rfl, om, b⟩
  try clear c_g1 f_g1 a_g1 d_g1 e_g1
  replace g1 := g1.below b; have c_g1 := g1.cell; have f_g1 := g1.free; have a_g1 := fun o => (g1.alloc o).cell; have d_g1 := fun o o2 => ((g1.alloc o).alloc o2).cell; have e_g1 := fun o => (g1.alloc o).free; try clear c_g3 f_g3 a_g3 d_g3 e_g3
  replace g3 := g3.below b; have c_g3 := g3.cell; have f_g3 := g3.free; have a_g3 := fun o => (g3.alloc o).cell; have d_g3 := fun o o2 => ((g3.alloc o).alloc o2).cell; have e_g3 := fun o => (g3.alloc o).free; replace B := B.trans (b.mono B.size); clear b
  obtain ⟨⟨tA, tn, tc, rfl⟩, ⟨oA, on, oc, rfl⟩, ⟨sA, sn, sc, rfl⟩⟩ := om.forms
  obtain ⟨gS, sc', hS1⟩ : ∃ g c, Value.slice sA sn sc = .slice (some ⟨g, 0, none⟩) 16 c := by obtain ⟨g, n, c, e, e2⟩ := om.s.form (by have := HK.out.1; omega); rw [e2, HK.out.1] at e; exact ⟨g, c, e⟩
  cases hS1
  have hp3' := g3.lt
  go_upto_region 2 with (fail)
  refine wp_gen (fun Wv => Bx Wv (wa2.heap.size) (85) (#[.slice tA tn tc, .slice oA on oc, .slice (some ⟨gS, 0, none⟩) 16 sc]) ∧ Below wa2.heap.size wa2 Wv) ⟨((Bx.at_ (by simp))), ((Below.refl _ wa2).alloc (by simp <;> omega) _)⟩ ?_
  rintro wa3 ⟨g4, b⟩
  try clear c_g1 f_g1 a_g1 d_g1 e_g1
  replace g1 := g1.below b; have c_g1 := g1.cell; have f_g1 := g1.free; have a_g1 := fun o => (g1.alloc o).cell; have d_g1 := fun o o2 => ((g1.alloc o).alloc o2).cell; have e_g1 := fun o => (g1.alloc o).free; try clear c_g3 f_g3 a_g3 d_g3 e_g3
  replace g3 := g3.below b; have c_g3 := g3.cell; have f_g3 := g3.free; have a_g3 := fun o => (g3.alloc o).cell; have d_g3 := fun o o2 => ((g3.alloc o).alloc o2).cell; have e_g3 := fun o => (g3.alloc o).free; replace om := om.below b; replace B := B.trans (b.mono B.size); clear b
  have c_g4 := g4.cell; have f_g4 := g4.free; have a_g4 := fun o => (g4.alloc o).cell; have d_g4 := fun o o2 => ((g4.alloc o).alloc o2).cell; have e_g4 := fun o => (g4.alloc o).free
  generalize hpp : wa2.heap.size = p5 at *
  have hp5 : w.heap.size + 1 + 1 ≤ p5 := by omega
  go_upto_region 3 with (fail)
  refine wp_gen (fun Wv => OwnT Wv w.heap.size (.slice tA tn tc) m.types ∧ OwnO Wv w.heap.size (.slice none 0 0) (numJ m ns 0) ∧ OwnS Wv w.heap.size 46 (.slice (some ⟨gS, 0, none⟩) 16 sc) m.slots ∧ Bx Wv w.heap.size 85 #[tv, ov, sv] ∧ Bx Wv (w.heap.size + 1) 85 #[.slice none 0 0, .slice none 0 0, .slice none 0 0] ∧ Bx Wv p5 85 #[.slice tA tn tc, .slice none 0 0, .slice (some ⟨gS, 0, none⟩) 16 sc] ∧ Below w.heap.size w Wv) ?_ ?_
  · have om2 := (om.mono hz1).set (p := p5) (i := 1) (u := .slice none 0 0) g4
    refine ⟨om2.t, OwnO.nil _ _, om2.s, g1.far (p := ⟨p5, 1, none⟩) (by show _ ≠ p5; omega) _, g3.far (p := ⟨p5, 1, none⟩) (by show _ ≠ p5; omega) _, ?_, B.setCell (p := ⟨p5, 1, none⟩) (by show _ ≤ p5; omega) _⟩
    have := g4.set (i := 1) (.slice none 0 0)
    simpa using this
  clear om g1 g3 g4 B c_g1 f_g1 a_g1 d_g1 e_g1 c_g3 f_g3 a_g3 d_g3 e_g3 c_g4 f_g4 a_g4 d_g4 e_g4 hpp hp3 hp3' hz1
  intro wz hz
  have HZ := Lib.hid hz; clear hz
  go_wp2
  go_loopg [6] NO (fun g i wr => ∃ j : Nat, j ≤ NO ∧ g = NO - j ∧ i = .int .i64 j ∧ Hid (∃ ov2, OwnT wr w.heap.size (.slice tA tn tc) m.types ∧ OwnO wr w.heap.size ov2 (numJ m ns j) ∧ OwnS wr w.heap.size 46 (.slice (some ⟨gS, 0, none⟩) 16 sc) m.slots ∧ Bx wr w.heap.size 85 #[tv, ov, sv] ∧ Bx wr (w.heap.size + 1) 85 #[.slice none 0 0, .slice none 0 0, .slice none 0 0] ∧ Bx wr p5 85 #[.slice tA tn tc, ov2, .slice (some ⟨gS, 0, none⟩) 16 sc] ∧ Below w.heap.size w wr))
  case atStart => exact ⟨0, by omega, by omega, rfl, Lib.hid ⟨_, HZ.out⟩⟩
  case round =>
    clear HZ
    obtain ⟨j, hj, rfl, rfl, hh⟩ := hrel
    by_cases hlt : j < NO
    · have HJ := hh
      clear hh
      go_wp2
      go_loopg [7] NO (fun g i wr => ∃ k : Nat, k ≤ NO ∧ g = NO - k ∧ i = .int .i64 k ∧ Hid (∃ ov2, OwnT wr w.heap.size (.slice tA tn tc) m.types ∧ OwnO wr w.heap.size ov2 (numJ m ns j ++ numN m ns j k) ∧ OwnS wr w.heap.size 46 (.slice (some ⟨gS, 0, none⟩) 16 sc) m.slots ∧ Bx wr w.heap.size 85 #[tv, ov, sv] ∧ Bx wr (w.heap.size + 1) 85 #[.slice none 0 0, .slice none 0 0, .slice none 0 0] ∧ Bx wr p5 85 #[.slice tA tn tc, ov2, .slice (some ⟨gS, 0, none⟩) 16 sc] ∧ Below w.heap.size w wr))
      case atStart => exact ⟨0, by omega, by omega, rfl, Lib.hid (by simpa [numN] using HJ.out)⟩
      case round =>
        clear HJ
        obtain ⟨k, hk, rfl, rfl, hh⟩ := hrel
        by_cases hltk : k < NO
        · obtain ⟨ov2, oT, oO, oS, g1, g3, g5, B⟩ := hh.out
          obtain ⟨na, x, ia, m0, hx⟩ := (HN.out.below B).at_ (P := Try.prog) Try.underlying91 one_int (k := k) (by have := HNO.out; omega)
          by_cases hxj : x = (j : Int)
          · have e1 : (x != (j : Int)) = false := by rw [bne_eq_false_iff_eq]; exact hxj
            subst hxj
            obtain ⟨o, ho⟩ : ∃ o, m.objs[k]? = some o := ⟨_, List.getElem?_eq_getElem (by have := HNO.out; have := HNS.out.1; omega)⟩
            have hoo := HK.out.2.2.1 o (List.mem_of_getElem? ho)
            obtain ⟨q, hq⟩ := Int.eq_ofNat_of_zero_le hoo.1.1
            have hqt : q < m.types.length := by have := hoo.1.2; omega
            obtain ⟨t, ht⟩ : ∃ t, m.types[q]? = some t := ⟨_, List.getElem?_eq_getElem hqt⟩
            have htt : ty m.types o = t := by rw [ty, hq]; simp [List.getD_eq_getElem?_getD, ht]
            obtain ⟨nf, hnf⟩ : ∃ N, N = o.fs.length := ⟨_, rfl⟩
            have hlt2 : nf = t.length := by rw [hnf, hoo.2.1, htt]
            have hnf20 : nf ≤ 20 := by rw [hnf]; exact HSM.out.2.2.2.2 o (List.mem_of_getElem? ho)
            have HFD := Lib.hid hoo.2.2
            have HE := Lib.hid (show ob m k = o from ob_at ho)
            have HNF := Lib.hid hnf; have HO := Lib.hid ho; have HT := Lib.hid ht; have HQ := Lib.hid hq; have HL := Lib.hid hlt2; have HTT := Lib.hid htt; have HQT := Lib.hid hqt
            have HX := hx
            clear hoo hqt ht htt hnf hlt2 ho
            obtain ⟨bo, oq, x0, o2, ix, m1, m2, ho2, hx0, hob⟩ := (H.out.o.below B).at_ (k := k) (by have := HNO.out; have := HNS.out.1; omega)
            obtain rfl : o2 = o := by have := ho2.out; rw [HO.out] at this; injection this with e; exact e.symm
            rw [hq] at m1
            clear hx0 hx ho2 hq hh
            obtain ⟨wn, hwn⟩ : ∃ W, W = wr := ⟨_, rfl⟩
            subst hwn
            have hB0 := B.size
            have c_g1 := g1.cell
            have HG := Lib.hid (And.intro oT (And.intro oO (And.intro oS (And.intro g1 (And.intro g3 (And.intro g5 B))))))
            clear oT oO oS g3 g5
            go_upto_region 11 with (fail)
            refine wp_gen (fun Wv => Bx Wv wn.heap.size 135 #[.int .i64 q, .slice none 0 0] ∧ Below wn.heap.size wn Wv) ⟨Bx.at_ (by simp), (Below.refl _ wn).alloc (by simp) _⟩ ?_
            rintro wa ⟨g8, b⟩
            have G8 := Lib.hid (And.intro g8 b)
            clear g8 b g1 c_g1 m0 m1 m2 B ix hob
            go_wp2
            go_loopg [9] nf (fun g i wr2 => ∃ p : Nat, p ≤ nf ∧ g = nf - p ∧ i = .int .i64 p ∧ Hid (∃ y, OwnW wr2 wn.heap.size 24 y ((numO m ns o2).fs.take p) ∧ Bx wr2 wn.heap.size 135 #[.int .i64 q, y] ∧ Below wn.heap.size wn wr2))
            case atStart => exact ⟨0, by omega, by omega, rfl, Lib.hid ⟨_, OwnW.nil _ _ _, G8.out.1, G8.out.2⟩⟩
            case round =>
              clear G8
              obtain ⟨p, hp, rfl, rfl, hh2⟩ := hrel
              obtain ⟨y, oy, g8, b⟩ := hh2.out
              obtain ⟨yA, yn, yc, rfl⟩ : ∃ A n c, y = .slice A n c := by obtain ⟨A, c, e⟩ := own_form' oy; exact ⟨A, _, c, e⟩
              have B2 := HG.out.2.2.2.2.2.2.trans (b.mono hB0)
              have c_g1 := (HG.out.2.2.2.1.below b).cell
              have c_g8 := g8.cell
              obtain ⟨bo, oq, x0, o3, ix, m1, m2, ho3, hx0, hob⟩ := (H.out.o.below B2).at_ (k := k) (by have := HNO.out; have := HNS.out.1; omega)
              obtain rfl : o3 = o2 := by have := ho3.out; rw [HO.out] at this; injection this with e; exact e.symm
              have hxx := hx0.out
              obtain ⟨xA, xn, xc, rfl⟩ : ∃ A n c, x0 = .slice A n c := by obtain ⟨A, c, e, _⟩ := hx0.out; exact ⟨A, _, c, e⟩
              have lx := Rd.len hxx Try.underlying22
              rw [← HNF.out] at lx
              clear hx0 ho3 hh2
              by_cases hltp : p < nf
              · obtain ⟨ad, yt, t2, iy, m3, ht2, hby⟩ := (H.out.t.below B2).at_ HQT.out
                obtain rfl : t2 = t := by have := ht2.out; rw [HT.out] at this; injection this with e; exact e.symm
                obtain ⟨bd, kk, ib, m4, hkk⟩ := hby.out.at_ (P := Try.prog) Try.underlying28 one_u8 (k := p) (by have := HL.out; omega)
                obtain ⟨cd, v, ic, m5, hv⟩ := hxx.at_ (P := Try.prog) Try.underlying22 one_u64 (k := p) (by have := HNF.out; omega)
                have HTK := Lib.hid (numO_take (ns := ns) (m := m) (o := o3) (p := p) (by rw [HTT.out]; exact hkk.out) hv.out)
                have hfd := HFD.out p (by have := HNF.out; omega)
                have HLK := Lib.hid (show ((numO m ns o3).fs.take p).length = p by rw [List.length_take, numO_len]; have := HNF.out; omega)
                rw [HTT.out] at hfd
                simp only [List.getD_eq_getElem?_getD, hkk.out, hv.out, Option.getD_some] at hfd
                have OY := Lib.hid oy; have BB := Lib.hid b; have G8 := Lib.hid g8
                have HFD2 := Lib.hid hfd.2
                clear ht2 hby hkk hv hfd oy b hxx
                obtain ⟨vn, hvn⟩ : ∃ q, q = v.toNat := ⟨_, rfl⟩
                rw [← hvn] at m5
                by_cases h3 : kk.toNat = 3
                · have k3 : ((kk.toNat : Int) == 3) = true := by rw [beq_iff_eq]; omega
                  by_cases h0 : 0 < vn
                  · obtain ⟨q2, rfl⟩ : ∃ q2, vn = q2 + 1 := ⟨vn - 1, by omega⟩
                    clear h0
                    have m5' : wr.cell? cd = some (.int .u64 ((q2 : Int) + 1)) := by rw [m5]; rfl
                    obtain ⟨nd, x2, ind, m6, hx2⟩ := (HN.out.below B2).atU (k := q2) (by have := HFD2.out h3; have := HNS.out.1; omega)
                    have hxr := HNS.out.2 x2 (List.mem_of_getElem? hx2.out)
                    have HV := Lib.hid (show Go.Proofs.Ytmbokdnndlnjkaa.u64 (numV ns kk v) = .int .u64 (x2 + 1) by rw [Go.Proofs.Ytmbokdnndlnjkaa.u64, numV_ref h3 hvn.symm hx2.out hxr.1 hxr.2])
                    have z1 : (0 : Int) < (q2 : Int) + 1 := by omega
                    have hq2 : q2 < 961 := by have := HFD2.out h3; have := HNS.out.1; have := HNO.out; omega
                    have z2 : IntKind.u64.wrap (q2 : Int) = (q2 : Int) := by show (q2 : Int) % 18446744073709551616 = _; omega
                    have z3 : IntKind.i64.wrap (x2 + 1) = x2 + 1 := IntWalk.i64_in _ (by omega)
                    have z4 : IntKind.u64.wrap (x2 + 1) = x2 + 1 := by show (x2 + 1) % 18446744073709551616 = _; omega
                    clear m5 hvn h3 hx2 hxr
                    go_upto_region 17 with (fail)
                    go_wp2_with (at_builtin; refine wpList_append (by rfl) rfl rfl rfl Try.underlying22 info_u64 rfl (by omega) (by exact own_below OY.out ((Below.refl _ wr).alloc (Nat.le_refl _) _)) (by exact lit_rd) (by simp [Value.oneCell']) (by rw [HLK.out]; omega) (by rw [HLK.out]; omega) (by exact BB.out.alloc BB.out.size _) (Nat.le_refl _) ?_; intro v1 w3 oo3 B3 g3'; obtain ⟨vA, vn1, vc, rfl⟩ : ∃ A n c, v1 = .slice A n c := by { obtain ⟨A, c, e⟩ := own_form' oo3; exact ⟨A, _, c, e⟩ }; have q8 := Bx.grown (G8.out.below ((Below.refl _ wr).alloc (Nat.le_refl _) (.cells #[.int .u64 (x2 + 1)] 24))) g3' (own_not_bx (own_below OY.out ((Below.refl _ wr).alloc (Nat.le_refl _) (.cells #[.int .u64 (x2 + 1)] 24))) (G8.out.below ((Below.refl _ wr).alloc (Nat.le_refl _) (.cells #[.int .u64 (x2 + 1)] 24))) (by decide)); have c8 := q8.cell; have f8 := q8.free)
                    have HQ8 := Lib.hid (And.intro q8 (And.intro oo3 B3))
                    clear q8 c8 f8 oo3 B3 g3' g8 c_g8 c_g1 m1 m2 lx
                    go_roundg (nf - (p + 1))
                    case measure => omega
                    case rel =>
                      obtain ⟨q8, oo3, B3⟩ := HQ8.out
                      refine ⟨p + 1, by omega, rfl, by go_num, Lib.hid ⟨_, own_set (OwnW.of (l := (numO m ns o3).fs.take (p + 1)) oo3 ?_) q8 (by decide), ?_, B3.setCell (p := ⟨wn.heap.size, 1, none⟩) (Nat.le_refl _) _⟩⟩
                      · rw [HTK.out, List.map_append, ← HV.out]; rfl
                      · have := q8.set (i := 1) (.slice vA vn1 vc)
                        simpa using this
                  · have HV := Lib.hid (show Go.Proofs.Ytmbokdnndlnjkaa.u64 (numV ns kk v) = .int .u64 vn by rw [numV_other (by omega), Go.Proofs.Ytmbokdnndlnjkaa.u64, hvn])
                    have z1 : decide ((0 : Int) < (vn : Int)) = false := by rw [decide_eq_false_iff_not]; omega
                    clear hvn h3
                    go_upto_region 17 with (fail)
                    go_wp2_with (at_builtin; refine wpList_append (by rfl) rfl rfl rfl Try.underlying22 info_u64 rfl (by omega) (by exact own_below OY.out ((Below.refl _ wr).alloc (Nat.le_refl _) _)) (by exact lit_rd) (by simp [Value.oneCell']) (by rw [HLK.out]; omega) (by rw [HLK.out]; omega) (by exact BB.out.alloc BB.out.size _) (Nat.le_refl _) ?_; intro v1 w3 oo3 B3 g3'; obtain ⟨vA, vn1, vc, rfl⟩ : ∃ A n c, v1 = .slice A n c := by { obtain ⟨A, c, e⟩ := own_form' oo3; exact ⟨A, _, c, e⟩ }; have q8 := Bx.grown (G8.out.below ((Below.refl _ wr).alloc (Nat.le_refl _) (.cells #[.int .u64 (vn : Int)] 24))) g3' (own_not_bx (own_below OY.out ((Below.refl _ wr).alloc (Nat.le_refl _) (.cells #[.int .u64 (vn : Int)] 24))) (G8.out.below ((Below.refl _ wr).alloc (Nat.le_refl _) (.cells #[.int .u64 (vn : Int)] 24))) (by decide)); have c8 := q8.cell; have f8 := q8.free)
                    have HQ8 := Lib.hid (And.intro q8 (And.intro oo3 B3))
                    clear q8 c8 f8 oo3 B3 g3' g8 c_g8 c_g1 m1 m2 lx
                    go_roundg (nf - (p + 1))
                    case measure => omega
                    case rel =>
                      obtain ⟨q8, oo3, B3⟩ := HQ8.out
                      refine ⟨p + 1, by omega, rfl, by go_num, Lib.hid ⟨_, own_set (OwnW.of (l := (numO m ns o3).fs.take (p + 1)) oo3 ?_) q8 (by decide), ?_, B3.setCell (p := ⟨wn.heap.size, 1, none⟩) (Nat.le_refl _) _⟩⟩
                      · rw [HTK.out, List.map_append, ← HV.out]; rfl
                      · have := q8.set (i := 1) (.slice vA vn1 vc)
                        simpa using this
                · have k3 : ((kk.toNat : Int) == 3) = false := by rw [beq_eq_false_iff_ne]; omega
                  have HV := Lib.hid (show Go.Proofs.Ytmbokdnndlnjkaa.u64 (numV ns kk v) = .int .u64 vn by rw [numV_other (by omega), Go.Proofs.Ytmbokdnndlnjkaa.u64, hvn])
                  clear hvn h3
                  go_upto_region 17 with (fail)
                  go_wp2_with (at_builtin; refine wpList_append (by rfl) rfl rfl rfl Try.underlying22 info_u64 rfl (by omega) (by exact own_below OY.out ((Below.refl _ wr).alloc (Nat.le_refl _) _)) (by exact lit_rd) (by simp [Value.oneCell']) (by rw [HLK.out]; omega) (by rw [HLK.out]; omega) (by exact BB.out.alloc BB.out.size _) (Nat.le_refl _) ?_; intro v1 w3 oo3 B3 g3'; obtain ⟨vA, vn1, vc, rfl⟩ : ∃ A n c, v1 = .slice A n c := by { obtain ⟨A, c, e⟩ := own_form' oo3; exact ⟨A, _, c, e⟩ }; have q8 := Bx.grown (G8.out.below ((Below.refl _ wr).alloc (Nat.le_refl _) (.cells #[.int .u64 (vn : Int)] 24))) g3' (own_not_bx (own_below OY.out ((Below.refl _ wr).alloc (Nat.le_refl _) (.cells #[.int .u64 (vn : Int)] 24))) (G8.out.below ((Below.refl _ wr).alloc (Nat.le_refl _) (.cells #[.int .u64 (vn : Int)] 24))) (by decide)); have c8 := q8.cell; have f8 := q8.free)
                  have HQ8 := Lib.hid (And.intro q8 (And.intro oo3 B3))
                  clear q8 c8 f8 oo3 B3 g3' g8 c_g8 c_g1 m1 m2 lx
                  go_roundg (nf - (p + 1))
                  case measure => omega
                  case rel =>
                    obtain ⟨q8, oo3, B3⟩ := HQ8.out
                    refine ⟨p + 1, by omega, rfl, by go_num, Lib.hid ⟨_, own_set (OwnW.of (l := (numO m ns o3).fs.take (p + 1)) oo3 ?_) q8 (by decide), ?_, B3.setCell (p := ⟨wn.heap.size, 1, none⟩) (Nat.le_refl _) _⟩⟩
                    · rw [HTK.out, List.map_append, ← HV.out]; rfl
                    · have := q8.set (i := 1) (.slice vA vn1 vc)
                      simpa using this
              · obtain rfl : p = nf := by omega
                have hfs : (numO m ns o3).fs.take p = (numO m ns o3).fs := by rw [List.take_of_length_le]; rw [numO_len]; have := HNF.out; omega
                rw [hfs] at oy
                have hqq : (numO m ns o3).ty = (q : Int) := HQ.out
                have hL1 : (numJ m ns j ++ numN m ns j k).length ≤ 922600 := by
                  rw [List.length_append]
                  have h1 := HB1.out j (by omega); have h2 := numN_len m ns j k
                  omega
                obtain ⟨oT, oO, oS, g1, g3, g5, B⟩ := HG.out
                obtain ⟨oA2, on2, oc2, rfl⟩ : ∃ A n c, ov2 = .slice A n c := by obtain ⟨vs, z1, z2, _⟩ := oO; obtain ⟨A, c, e⟩ := own_form' z2; exact ⟨A, _, c, e⟩
                obtain ⟨vs, z1, z2, z4, z5⟩ := oO
                have c5 := (g5.below b).cell
                have ba := b.alloc b.size (.cells #[.int .i64 (q : Int), .slice yA yn yc] 135)
                have HA := Lib.hid (And.intro z1 (And.intro z2 (And.intro z4 (And.intro z5 (And.intro oT (And.intro oS (And.intro g1 (And.intro g3 (And.intro g5 (And.intro B (And.intro oy (And.intro b (And.intro ba g8)))))))))))))
                clear z1 z4 z5 oT oS g1 g3 g5 B oy b g8
                have Z2 := Lib.hid (own_below z2 ba); have BA := Lib.hid ba
                clear z2 ba hfs m1
                have hn5 := hp5; have hqqH := Lib.hid hqq; have HL1 := Lib.hid hL1
                clear hqq hL1
                go_upto_region 18 with (fail)
                go_wp2_with (at_builtin; refine wpList_append (by rfl) rfl rfl rfl Try.underlying83 info_obj rfl (by omega) (by exact Z2.out) (by exact lit_obj) (by exact one_obj rfl) (by have := HL1.out; omega) (by have := HL1.out; omega) (by exact HA.out.2.2.2.2.2.2.2.2.2.1.trans (BA.out.mono hB0)) (by omega) ?_; intro v1 w3 oo3 B3 g3'; obtain ⟨vA, vn1, vc, rfl⟩ : ∃ A n c, v1 = .slice A n c := by { obtain ⟨A, c, e⟩ := own_form' oo3; exact ⟨A, _, c, e⟩ }; have MM := Lib.hid (copyO_mem (o := numO m ns o3) (a := w.heap.size) (b := w.heap.size + 1) (p := p5) HA.out.1 HA.out.2.1 HA.out.2.2.1 HA.out.2.2.2.1 HA.out.2.2.2.2.2.2.2.2.2.2.1 HA.out.2.2.2.2.2.2.2.2.2.2.2.1 (by rw [hqqH.out]; exact oo3) (by rw [hqqH.out]; exact g3') HA.out.2.2.2.2.2.2.1 HA.out.2.2.2.2.2.2.2.1 HA.out.2.2.2.2.2.2.2.2.1 HA.out.2.2.2.2.1 HA.out.2.2.2.2.2.1 HA.out.2.2.2.2.2.2.2.2.2.1 hB0 (by omega) (by omega) (by omega) HA.out.2.2.2.2.2.2.1 (own_not_bx HA.out.2.1 HA.out.2.2.2.2.2.2.1 (by decide)) (by omega)); have hc := MM.out.1.1; have hf := MM.out.1.2; clear oo3 B3 g3')
                have HM := Lib.hid MM.out.2
                clear MM hc hf c5 c_g8 c_g1 m2 lx HA Z2 BA
                go_roundg (NO - (k + 1))
                case measure => omega
                case rel =>
                  obtain ⟨k1, k2, k3, k4, k5, k6, k7, _⟩ := HM.out
                  refine ⟨k + 1, by omega, rfl, by go_num, Lib.hid ⟨_, k5, ?_, k6, k2, k3, k4, k7⟩⟩
                  rw [numN_eq HX.out, HE.out, ← List.append_assoc]; exact k1
          · have e1 : (x != (j : Int)) = true := by rw [bne_iff_ne]; exact hxj
            have HE := Lib.hid (numN_ne (m := m) hx.out hxj)
            clear hxj oT oO oS g1 g3 g5
            go_wp2
            go_roundg (NO - (k + 1))
            case measure => omega
            case rel =>
              refine ⟨k + 1, by omega, rfl, by go_num, ?_⟩
              rw [HE.out]; exact hh
        · obtain rfl : k = NO := by omega
          have HJ := hh; clear hh
          go_wp2
          go_roundg (k - (j + 1))
          case measure => omega
          case rel =>
            refine ⟨j + 1, by omega, rfl, by go_num, Lib.hid ?_⟩
            rw [numJ_succ, ← HNO.out]; exact HJ.out
    · obtain rfl : j = NO := by omega
      obtain ⟨ov2, oT, oO, oS, g1, g3, g5, B⟩ := hh.out
      obtain ⟨oA2, on2, oc2, rfl⟩ : ∃ A n c, ov2 = .slice A n c := by obtain ⟨vs, z1, z2, _⟩ := oO; obtain ⟨A, c, e⟩ := own_form' z2; exact ⟨A, _, c, e⟩
      have HM := Lib.hid (And.intro (OwnM.mk (m := ⟨m.types, numJ m ns j, m.slots⟩) oT oO oS) (And.intro g3 (And.intro g5 B)))
      clear hh oT oO oS g1 g3 g5 B
      go_wp2
      go_loopg [11] 16 (fun g i wr => ∃ j2 : Nat, j2 ≤ 16 ∧ g = 16 - j2 ∧ i = .int .i64 j2 ∧ Hid (OwnM wr w.heap.size 46 (.slice tA tn tc) (.slice oA2 on2 oc2) (.slice (some ⟨gS, 0, none⟩) 16 sc) ⟨m.types, numJ m ns j, (m.slots.take j2).map (numS ns) ++ m.slots.drop j2⟩ ∧ Bx wr (w.heap.size + 1) 85 #[.slice none 0 0, .slice none 0 0, .slice none 0 0] ∧ Bx wr p5 85 #[.slice tA tn tc, .slice oA2 on2 oc2, .slice (some ⟨gS, 0, none⟩) 16 sc] ∧ Below w.heap.size w wr))
      case atStart => exact ⟨0, by omega, by omega, rfl, Lib.hid (by simpa using HM.out)⟩
      case round =>
        clear HM
        obtain ⟨j2, hj2, rfl, rfl, hh⟩ := hrel
        obtain ⟨om, g3, g5, B⟩ := hh.out
        have c_g5 := g5.cell
        have hgS := om.s.lt gS rfl
        by_cases hlt2 : j2 < 16
        · obtain ⟨s, hs⟩ : ∃ s, m.slots[j2]? = some s := ⟨_, List.getElem?_eq_getElem (by have := HK.out.1; omega)⟩
          have hs2 := numS_get (ns := ns) hs
          have hso := HK.out.2.2.2 s (List.mem_of_getElem? hs)
          obtain ⟨ix, q0, q1, q2⟩ := OwnS.cells om.s hs2
          cases hu : s.used
          · rw [hu] at q1
            have HE := Lib.hid (numS_same (ns := ns) hs hu)
            clear hs hs2 hso q0 q2 om g3 B
            go_wp2
            go_roundg (16 - (j2 + 1))
            case measure => omega
            case rel =>
              refine ⟨j2 + 1, by omega, rfl, by go_num, ?_⟩
              rw [HE.out]; exact hh
          · rw [hu] at q1
            obtain ⟨a1, a2, a3⟩ := hso.2.2 hu
            obtain ⟨na, hna⟩ := Int.eq_ofNat_of_zero_le a2
            rw [hna] at q2
            obtain ⟨xa, x, ia, mx, hx⟩ := (HN.out.below B).at_ (P := Try.prog) Try.underlying91 one_int (k := na) (by have := HNO.out; have := HNS.out.1; omega)
            have HP := Lib.hid (OwnS.put1 om.s hs2 x)
            have fz := HP.out.2.2.2.2
            have hM3 := OwnM.slots om HP.out.2.1 HP.out.1
            have nx := fun {q : Nat} {tq : TypeId} {cs : Array Value} (hb : Bx wr q tq cs) (hne : gS ≠ q) => hb.grown HP.out.2.1 (.inr (fun e => hne (by injection e)))
            have n3 : gS ≠ w.heap.size + 1 := own_ne_bx om.s g3 (by decide)
            have n5 : gS ≠ p5 := own_ne_bx om.s g5 (by decide)
            have r3 := nx g3 n3; have r4 := nx g5 n5
            have hb3 := B.grown HP.out.2.1 B.size (fun k hk => by injection hk with hk; rw [← hk]; exact HP.out.2.2.1)
            have HH := Lib.hid (And.intro hM3 (And.intro r3 (And.intro r4 hb3)))
            have HE := Lib.hid (show ((m.slots.take j2).map (numS ns) ++ m.slots.drop j2).set j2 ⟨s.gen, s.used, x⟩ = (m.slots.take (j2 + 1)).map (numS ns) ++ m.slots.drop (j2 + 1) by
              rw [← numS_take hs]; congr 1; rw [numS, if_pos hu, hna, hu]; simp [List.getD_eq_getElem?_getD, hx.out])
            clear nx r3 r4 hb3 hM3 hh
            go_upto_region 23 with (fail)
            go_still_tail 14, (by kernel_rfl)
            change wpList _ _ _ _ _ wr.drew
            have q2' : wr.drew.cell? ⟨gS, j2 * 3 + 2, none⟩ = some (.int .i64 na) := q2
            have fz' : ∀ j, wr.drew.frozen? ⟨gS, j, none⟩ = false := fz
            clear om g3 g5 c_g5 B ix q0 q1 q2 ia mx fz hs hs2 hso a1 a2 a3
            go_wp2
            clear q2' fz'
            go_roundg (16 - (j2 + 1))
            case measure => omega
            case rel =>
              refine ⟨j2 + 1, by omega, rfl, by go_num, Lib.hid ?_⟩
              rw [← HE.out]
              exact ⟨⟨HH.out.1.t, HH.out.1.o, HH.out.1.s⟩, HH.out.2.1, HH.out.2.2.1, HH.out.2.2.2.drew⟩
        · obtain rfl : j2 = 16 := by omega
          have hm2 : (m.slots.take 16).map (numS ns) ++ m.slots.drop 16 = m.slots.map (numS ns) := by
            rw [List.take_of_length_le (by have := HK.out.1; omega), List.drop_of_length_le (by have := HK.out.1; omega), List.append_nil]
          rw [hm2, HNO.out] at om
          have HOM := Lib.hid om
          clear hh om hm2
          have c_g3 := g3.cell
          have f_g3 := g3.free
          go_wp2
          refine bodyPost_ret (v := .agg #[.slice tA tn tc, .slice oA2 on2 oc2, .slice (some ⟨gS, 0, none⟩) 16 sc]) (by simp [results, Try.results46, go_sem, c_g3, f_g3]) rfl ?_
          refine ⟨_, _, _, rfl, OwnM.set3 HOM.out g3, ?_⟩
          exact ((B.setCell (p := ⟨w.heap.size + 1, 0, none⟩) (by simp) _).setCell (p := ⟨w.heap.size + 1, 1, none⟩) (by simp) _).setCell (p := ⟨w.heap.size + 1, 2, none⟩) (by simp) _
end Go.Proofs.Ytmbokdnndlnjkaa
namespace Go.Proofs.Ytmbokdnndlnjkaa
open Go Go.RowKit
section
variable {P : Program} {ops : Array Oper} {md : Region.Mode} {C : Array Bool → World → Prop} {nn : Nat → Bool} {x : Nat → Value} {T : Nat → Sem Next → Prop}
def wpAnyH (P : Program) (md : Region.Mode) (ops : Array Oper) (C : Array Bool → World → Prop) (nn : Nat → Bool) (x : Nat → Value) (T : Nat → Sem Next → Prop) (n : Nat) (L : Array Bool → Act → Prop) : Nat → Array Bool → Act → Prop
  | 0, listed, a => L listed a
  | f + 1, listed, a =>
    Region.ready md ops listed ≠ [] ∧ ∀ i ∈ Region.ready md ops listed, i < n ∧ qOpM P md ops C nn x T i (wpAnyH P md ops C nn x T n L f (listed.setIfInBounds i true)) a
theorem wpAnyH_first {n i : Nat} {oi : Oper} {v : Value} {L : Array Bool → Act → Prop} (hi : ops[i]? = some oi) (hsel : ∀ (j : Nat) (o : Oper) cs b, ops[j]? = some o → o.op ≠ .select cs b)
    (hs : Region.sinkB md ops n = true) (hc : Region.chainB md ops n = true) (hn : n < ops.size) (hin : i < n)
    (hdone : ∀ listed a, L listed a → ∀ j ∈ Region.ready md ops listed, n ≤ j) :
    ∀ (f : Nat) (listed : Array Bool) (a : Act), HeadInv md ops n listed →
      (∀ j oj, ops[j]? = some oj → j ≠ i → listed.getD j true = false → (∀ e ∈ oj.after, Region.binds md e = true → e.on ≠ i) → oi.apart ops oj = true) →
      i ∈ Region.ready md ops listed → YieldsM P md ops C nn x i oi v a ∧ (nn i = true → T i (execOp a.eval oi)) →
      wpAnyH P md ops C nn x T n L f (listed.setIfInBounds i true) (a.put oi.dst v) → wpAnyH P md ops C nn x T n L (f + 1) listed a := by
  intro f
  induction f with
  | zero =>
    intro listed a inv _ hr hy H
    have hun := (mem_ready.1 hr).1
    refine ⟨fun h => (by rw [h] at hr; cases hr), fun j hj => ?_⟩
    have hjn : j < n := by
      rcases Nat.lt_or_ge j n with h | h
      · exact h
      · exact absurd hj (tail_waits hs hc hn inv _ i rfl hin hun j h)
    refine ⟨hjn, ?_⟩
    by_cases hji : j = i
    · subst hji; unfold qOpM; simp only [hi]; exact ⟨v, hy, H⟩
    · have := hdone _ _ H j (ready_mono hj hji)
      omega
  | succ f ih =>
    intro listed a inv hfree hr hy H
    have hun := (mem_ready.1 hr).1
    refine ⟨fun h => (by rw [h] at hr; cases hr), fun j hj => ?_⟩
    have hjn : j < n := by
      rcases Nat.lt_or_ge j n with h | h
      · exact h
      · exact absurd hj (tail_waits hs hc hn inv _ i rfl hin hun j h)
    refine ⟨hjn, ?_⟩
    by_cases hji : j = i
    · subst hji; unfold qOpM; simp only [hi]; exact ⟨v, hy, H⟩
    · have h1 := (H.2 j (ready_mono hj hji)).2
      obtain ⟨hjun, oj, hoj, hall⟩ := mem_ready.1 hj
      have hnot : ∀ e ∈ oj.after, Region.binds md e = true → e.on ≠ i := fun e he hb heq => by
        have h1 := hall e he hb
        rw [heq, getD_both hun] at h1
        cases h1
      have h2 := qOpM_put hoj (hfree j oj hoj hji hjun hnot) (fun cs b => hsel i oi cs b hi) (fun cs b => hsel j oj cs b hoj) hy h1
      have hfree' : ∀ k ok, ops[k]? = some ok → k ≠ i → (listed.setIfInBounds j true).getD k true = false →
          (∀ e ∈ ok.after, Region.binds md e = true → e.on ≠ i) → oi.apart ops ok = true := fun k ok hk hki hun hno => by
        refine hfree k ok hk hki ?_ hno
        by_cases hjk : j = k
        · subst hjk; exact hjun
        · rw [getD_set_ne true hjk] at hun; exact hun
      refine qOpM_mono (fun a' h3 => ih (listed.setIfInBounds j true) a' (inv.set hj hjn) hfree' (ready_mono hr (Ne.symm hji)) h3.1 ?_) h2
      rw [Array.setIfInBounds_comm _ _ hji]
      exact h3.2
theorem wpAnyH_lex {n g : Nat} {Lq : Act → Prop} (hsel : Region.noSelect ops = true) (hs : Region.sinkB md ops n = true) (hc : Region.chainB md ops n = true) (hn : n < ops.size) :
    ∀ (l : List Oper) (k : Nat) (listed : Array Bool) (a : Act), (∀ j, j < l.length → l[j]? = ops[k + j]?) → k + l.length = n → HeadInv md ops n listed → (∀ j, j < k → listed.getD j false = true) →
    Region.lexHead md ops g l.length k listed = true → wpM P md ops C nn x T Lq l k a →
    wpAnyH P md ops C nn x T n (fun listed' a' => Region.seqB md ops g n listed' = true ∧ (∀ j, j < n → listed'.getD j false = true) ∧ Lq a') l.length listed a
  | [], k, listed, a, _, hk, _, hd, hB, h => by
    have : k = n := by simpa using hk
    subst this
    exact ⟨by simpa [Region.lexHead] using hB, hd, h⟩
  | o :: l, k, listed, a, hl, hk, inv, hd, hB, h => by
    have h0 : ops[k]? = some o := by simpa using (hl 0 (by simp)).symm
    simp only [List.length_cons, Region.lexHead, Bool.and_eq_true] at hB
    obtain ⟨⟨hr, hf⟩, hB'⟩ := hB
    have hkn : k < n := by simp only [List.length_cons] at hk; omega
    have hr' : k ∈ Region.ready md ops listed := by simpa using hr
    obtain ⟨v, hy, hK⟩ := h
    have hun := (mem_ready.1 hr').1
    exact wpAnyH_first h0 (Region.noSelect_spec hsel) hs hc hn hkn (fun listed' a' hL => seqB_ready hL.1) l.length listed a inv (Region.free_spec h0 hf) hr' hy
      (wpAnyH_lex hsel hs hc hn l (k + 1) _ _ (fun j hj => by have := hl (j + 1) (by simp; omega); simpa [Nat.add_assoc, Nat.add_comm 1 j] using this) (by simp only [List.length_cons] at hk; omega) (inv.set hr' hkn) (fun j hj => by
        by_cases hjk : j = k
        · subst hjk; exact (getD_on hun).2
        · rw [getD_set_ne false (Ne.symm hjk)]; exact hd j (by omega)) hB' hK)
theorem wpAny_of_H {G : Type} {val : G → Nat → Value} {V : G → Prop} {Ag : Array Bool → G → G → Prop} {Cg : G → Array Bool → World → Prop} {Tg : G → Nat → Sem Next → Prop} {Q' : Exit → Act → World → Prop} {n gt : Nat} {L : G → Array Bool → Act → Prop}
    (hL : ∀ g l a w, Cg g l w → L g l a → wpAny P md ops Q' gt l a w)
    (hrf : ∀ (l : Array Bool) g, Ag l g g) (htr : ∀ (l : Array Bool) g g' g'', Ag l g g' → Ag l g' g'' → Ag l g g'') (hmn : ∀ (l : Array Bool) i g g', Ag (l.setIfInBounds i true) g g' → l.getD i true = false → Ag l g g')
    (hvl : ∀ (l : Array Bool) i g g', nn i = true → l.getD i true = false → Ag (l.setIfInBounds i true) g g' → val g i = val g' i) (hag : ∀ (l : Array Bool) g g' w, Ag l g g' → Cg g l w → Cg g' l w)
    (hT : ∀ i s (l : Array Bool) w g, nn i = true → Tg g i s → V g → i ∈ Region.ready md ops l → Cg g l w → uponN P (fun v w' => ∃ g', V g' ∧ Ag l g g' ∧ v = val g' i ∧ Cg g' (l.setIfInBounds i true) w') (s.run P w)) :
    ∀ (fuel : Nat) (l : Array Bool) (a : Act) (w : World) (g0 : G), V g0 → Cg g0 l w →
    (∀ g, V g → Ag l g0 g → wpAnyH P md ops (Cg g) nn (val g) (Tg g) n (L g) fuel l a) → wpAny P md ops Q' (fuel + gt) l a w
  | 0, l, a, w, g0, hg0, hC, h => by rw [Nat.zero_add]; exact hL g0 l a w hC (h g0 hg0 (hrf _ _))
  | fuel + 1, l, a, w, g0, hg0, hC, h => by
    rw [show fuel + 1 + gt = (fuel + gt) + 1 by omega]
    refine ⟨fun h0 => absurd h0 (h g0 hg0 (hrf _ _)).1, fun i hi => ?_⟩
    have hun := (mem_ready.1 hi).1
    have h1 := ((h g0 hg0 (hrf _ _)).2 i hi).2
    unfold qOpM at h1
    unfold wpOp
    split
    · rename_i ho; simp only [ho] at h1
    · rename_i o ho
      simp only [ho] at h1
      obtain ⟨v, ⟨h2, hT0⟩, h3⟩ := h1
      have next : nn i = true → ∀ g', V g' → Ag l g0 g' → ∀ w', Cg g' (l.setIfInBounds i true) w' → wpAny P md ops Q' (fuel + gt) (l.setIfInBounds i true) (a.put o.dst (val g' i)) w' := by
        intro hn g' hg' hA w' hC'
        refine wpAny_of_H (n := n) hL hrf htr hmn hvl hag hT fuel _ _ w' g' hg' hC' fun g hg hA2 => ?_
        have h4 := ((h g hg (htr _ _ _ _ hA (hmn _ _ _ _ hA2 hun))).2 i hi).2
        unfold qOpM at h4
        simp only [ho] at h4
        obtain ⟨v', ⟨h5, _⟩, h6⟩ := h4
        rcases h5 with ⟨_, e5, _⟩ | ⟨hne, _⟩
        · rw [hvl _ _ _ _ hn hun hA2, ← e5]; exact h6
        · rw [hn] at hne; cases hne
      rcases h2 with ⟨hn, hv, hw⟩ | ⟨hn, h2⟩
      · rw [if_pos hw]
        left
        have h5 := hT i _ l w g0 hn (hT0 hn) hg0 hi hC
        unfold Oper.wp
        generalize (execOp a.eval o).run P w = r at *
        cases r with
        | ok n w' =>
          cases n <;> simp only [uponN] at h5 <;> simp only [Oper.upon]
          case value u => obtain ⟨g', e1, e2, rfl, e4⟩ := h5; exact next hn g' e1 e2 _ e4
          case enter f args =>
            refine h5.mono fun e w'' ⟨u, he, g', e1, e2, e3, e4⟩ => ?_
            subst he; subst e3
            exact next hn g' e1 e2 _ e4
        | halt y w' => simp only [uponN] at h5
      · have hval : ∀ g, V g → Ag (l.setIfInBounds i true) g0 g → wpAnyH P md ops (Cg g) nn (val g) (Tg g) n (L g) fuel (l.setIfInBounds i true) (a.put o.dst v) := by
          intro g hg hA2
          have hA := hmn _ _ _ _ hA2 hun
          have h4 := ((h g hg hA).2 i hi).2
          unfold qOpM at h4
          simp only [ho] at h4
          obtain ⟨v', ⟨h5, _⟩, h6⟩ := h4
          rcases h5 with ⟨e, _⟩ | ⟨_, h5⟩
          · rw [hn] at e; cases e
          · have hvv : v = v' := by
              rcases h2 with ⟨hw, ha⟩ | ⟨hw, rfl, _⟩
              · rcases h5 with ⟨_, hb⟩ | ⟨hw', _⟩
                · exact uponV_val (ha l w hi hC) (hb l w hi (hag _ _ _ _ hA hC))
                · rw [hw] at hw'; cases hw'
              · rcases h5 with ⟨hw', _⟩ | ⟨_, e, _⟩
                · rw [hw] at hw'; cases hw'
                · exact e.symm
            rw [hvv]; exact h6
        rcases h2 with ⟨hw, ha⟩ | ⟨hw, rfl, hv⟩
        · rw [if_pos hw]
          left
          have h5 := ha l w hi hC
          unfold Oper.wp
          generalize (execOp a.eval o).run P w = r at *
          cases r with
          | ok n w' =>
            cases n <;> simp only [uponV] at h5 <;> simp only [Oper.upon]
            case value u => obtain ⟨e1, e2⟩ := h5; rw [e1]; exact wpAny_of_H (n := n) hL hrf htr hmn hvl hag hT fuel _ _ w' g0 hg0 e2 hval
            case skip => obtain ⟨e1, e2⟩ := h5; rw [← e1]; exact wpAny_of_H (n := n) hL hrf htr hmn hvl hag hT fuel _ _ w' g0 hg0 e2 hval
          | halt y w' => simp only [uponV] at h5
        · rw [if_neg (by rw [hw]; exact Bool.false_ne_true)]
          exact wpAny_of_H (n := n) hL hrf htr hmn hvl hag hT fuel _ _ w g0 hg0 (hv l w hi hC) hval
end
/-- a world behind w, of which p holds besides -/
structure FutP (w : World) (p : World → Prop) where
  W : World
  h : Below w.heap.size w W
  hp : p W
/-- what holds at the head: no old block is changed; of the operations ns that are done, what is known of their values -/
def CH (w : World) (ns : List Nat) (dep : Nat → List Nat) (Φ : Nat → (Nat → Value) → World → Prop) (g : Nat → Value) : Array Bool → World → Prop := fun listed W =>
  Below w.heap.size w W ∧ ∀ k ∈ ns, listed.getD k false = true → Φ k g W ∧ ∀ j ∈ dep k, listed.getD j false = true
section
variable {P : Program} {ops : Array Oper} {rest : List Oper} {o : Oper} {a : Act} {Q : Act → Prop} {k : Nat} {md : Region.Mode} {T : Nat → Sem Next → Prop} {w : World} {ns : List Nat} {dep : Nat → List Nat} {Φ : Nat → (Nat → Value) → World → Prop} {g : Nat → Value}
theorem wpH_nil {C : Array Bool → World → Prop} {nn : Nat → Bool} {x : Nat → Value} (h : Q a) : wpM P md ops C nn x T Q [] k a := h
/-- an operation that only reads what was there before -/
theorem wpH_read0 (hV : isV o.op = true) (hn : (ns.contains k) = false)
    (h : wpQuiet P ops (fun W => ∃ x : Fut w, W = x.W) (fun a' => wpM P md ops (CH w ns dep Φ g) (fun i => ns.contains i) g T Q rest (k + 1) a') [o] a) : wpM P md ops (CH w ns dep Φ g) (fun i => ns.contains i) g T Q (o :: rest) k a := by
  have skip : ∀ {listed : Array Bool} {W : World}, CH w ns dep Φ g listed W → CH w ns dep Φ g (listed.setIfInBounds k true) W := fun {listed W} hW => by
    refine ⟨hW.1, fun j hj hl => ?_⟩
    have hjk : k ≠ j := fun e => by subst e; rw [List.contains_iff_mem.2 hj] at hn; cases hn
    rw [getD_set_ne false hjk] at hl
    obtain ⟨h1, h2⟩ := hW.2 j hj hl
    exact ⟨h1, fun i hi => getD_set_true (h2 i hi)⟩
  unfold wpQuiet at h
  split at h
  · rename_i hw
    obtain ⟨v, h1, h2⟩ := h
    refine ⟨v, ⟨.inr ⟨hn, .inl ⟨hw, fun listed W hl hW => ?_⟩⟩, fun e => (by have e' : ns.contains k = true := e; rw [hn] at e'; cases e')⟩, h2⟩
    have h3 := h1 W ⟨⟨W, hW.1⟩, rfl⟩
    unfold Oper.quietAt at h3
    cases hr : (execOp a.eval o).run P W with
    | ok n w' =>
      obtain ⟨u, rfl⟩ := isV_value hV hr
      rw [hr] at h3
      simp only [Oper.quietUpon] at h3
      simp only [uponV]
      obtain ⟨e1, e2⟩ := h3
      subst e1
      exact ⟨e2, skip hW⟩
    | halt x w' => rw [hr] at h3; simp only [Oper.quietUpon] at h3
  · rename_i hw
    exact ⟨undef, ⟨.inr ⟨hn, .inr ⟨by simpa using hw, rfl, fun listed W hl hW => skip hW⟩⟩, fun e => (by have e' : ns.contains k = true := e; rw [hn] at e'; cases e')⟩, h⟩
/-- an operation that yields one value in every world -/
theorem wpH_pure (hn : ns.contains k = false) (hw : Region.wanted o (yielded ops a.tmps) = true) {v : Value} (hr : ∀ W, (execOp a.eval o).run P W = .ok (.value v) W) (h : wpM P md ops (CH w ns dep Φ g) (fun i => ns.contains i) g T Q rest (k + 1) (a.put o.dst v)) : wpM P md ops (CH w ns dep Φ g) (fun i => ns.contains i) g T Q (o :: rest) k a := by
  refine ⟨v, ⟨.inr ⟨hn, .inl ⟨hw, fun listed W hl hW => ?_⟩⟩, fun e => (by have e' : ns.contains k = true := e; rw [hn] at e'; cases e')⟩, h⟩
  rw [hr W]
  refine ⟨rfl, hW.1, fun j hj hl' => ?_⟩
  have hjk : k ≠ j := fun e => by subst e; rw [List.contains_iff_mem.2 hj] at hn; cases hn
  rw [getD_set_ne false hjk] at hl'
  obtain ⟨h1, h2⟩ := hW.2 j hj hl'
  exact ⟨h1, fun i hi => getD_set_true (h2 i hi)⟩
/-- an operation that makes fresh memory -/
theorem wpH_new (hn : ns.contains k = true) (hw : Region.wanted o (yielded ops a.tmps) = true) (hT : T k (execOp a.eval o)) (h : wpM P md ops (CH w ns dep Φ g) (fun i => ns.contains i) g T Q rest (k + 1) (a.put o.dst (g k))) : wpM P md ops (CH w ns dep Φ g) (fun i => ns.contains i) g T Q (o :: rest) k a :=
  ⟨g k, ⟨.inl ⟨hn, rfl, hw⟩, fun _ => hT⟩, h⟩
end
/-- what a fresh operation does: no old block is changed; its value is of the shape V, and Φ is known of it -/
def TS (P : Program) (w : World) (dep : Nat → List Nat) (V : Nat → Value → Prop) (Φ : Nat → (Nat → Value) → World → Prop) (g : Nat → Value) (k : Nat) (s : Sem Next) : Prop :=
  ∀ W, Below w.heap.size w W → (∀ j ∈ dep k, Φ j g W) → uponN P (fun v W' => V k v ∧ Below W.heap.size W W' ∧ ∀ g', g' k = v → (∀ j ∈ dep k, g' j = g j) → Φ k g' W') (s.run P W)
section
variable {P : Program} {w : World} {dep : Nat → List Nat} {V : Nat → Value → Prop} {Φ : Nat → (Nat → Value) → World → Prop} {g : Nat → Value} {k : Nat} {o : Oper} {a : Act}
/-- a call -/
theorem TS.call {f : FuncId} {xs : Array Operand} {ats : Array TypeId} {dst : Option Tmp} {ty : TypeId} {pos : String} {after : Array Edge} {gd : Option (Nat × Bool)} {av : Array Value} (hav : xs.map a.eval = av) (hf : ∀ W, (callFunc f (#[] ++ av ++ #[])).run P W = .ok (.enter f av) W)
    (h : ∀ W, Below w.heap.size w W → (∀ j ∈ dep k, Φ j g W) → Calls P f av W fun e W' => ∃ v, e = .returned v ∧ V k v ∧ Below W.heap.size W W' ∧ ∀ g', g' k = v → (∀ j ∈ dep k, g' j = g j) → Φ k g' W') :
    TS P w dep V Φ g k (execOp a.eval ⟨dst, .call ⟨.value (.func f), xs, ats⟩, ty, pos, after, gd⟩) := by
  intro W hW hd
  rw [execOp_call_go, hav, hf]
  exact h W hW hd
/-- what yields a value -/
theorem TS.val {s : Sem Next} (h : ∀ W, Below w.heap.size w W → (∀ j ∈ dep k, Φ j g W) → ∃ v W', s.run P W = .ok (.value v) W' ∧ V k v ∧ Below W.heap.size W W' ∧ ∀ g', g' k = v → (∀ j ∈ dep k, g' j = g j) → Φ k g' W') : TS P w dep V Φ g k s := by
  intro W hW hd
  obtain ⟨v, W', h1, h2⟩ := h W hW hd
  rw [h1]; exact h2
/-- a slice is made -/
theorem TS.make {t : TypeId} {l c : Operand} (ho : o.op = .makeSlice t l c) {lv cv : Value} (hl : a.eval l = lv) (hc : a.eval c = cv)
    (h : ∀ W, Below w.heap.size w W → (∀ j ∈ dep k, Φ j g W) → ∃ v W', (Instr.makeSlice t lv cv).run P W = .ok v W' ∧ V k v ∧ Below W.heap.size W W' ∧ ∀ g', g' k = v → (∀ j ∈ dep k, g' j = g j) → Φ k g' W') : TS P w dep V Φ g k (execOp a.eval o) := by
  refine TS.val fun W hW hd => ?_
  obtain ⟨v, W', h1, h2⟩ := h W hW hd
  refine ⟨v, W', ?_, h2⟩
  simp [execOp, ho, hl, hc, h1]
/-- what is run for a value -/
theorem TS.sem {s : Sem Value} (hs : execOp a.eval o = (do pure (Next.value (← s)))) (h : ∀ W, Below w.heap.size w W → (∀ j ∈ dep k, Φ j g W) → ∃ v W', s.run P W = .ok v W' ∧ V k v ∧ Below W.heap.size W W' ∧ ∀ g', g' k = v → (∀ j ∈ dep k, g' j = g j) → Φ k g' W') : TS P w dep V Φ g k (execOp a.eval o) := by
  refine TS.val fun W hW hd => ?_
  obtain ⟨v, W', h1, h2⟩ := h W hW hd
  refine ⟨v, W', ?_, h2⟩
  rw [hs, Sem.run_bind, h1]; rfl
end
/-- the region: the first n are the head; ns those that make fresh memory; dep which of these each of them waits for; Φ what is known of their values; T what they run -/
theorem wp_region_ftail {P : Program} {id : Nat} {Q : Exit → Act → World → Prop} {a : Act} {w : World} {l : List Oper} (n : Nat) (ns : List Nat) (dep : Nat → List Nat) (V : Nat → Value → Prop) (Φ : Nat → (Nat → Value) → World → Prop)
    (hm : P.follows .mixedOrders = true) (hB : Region.lexTailB .any l.toArray n = true)
    (hnj : (ns.all fun k => decide (k < n) && match l.toArray[k]? with | some o => (dep k).all (fun j => ns.contains j && o.after.any fun e => Region.binds .any e && e.on == j) | none => false) = true)
    (hst : ∀ k ∈ ns, ∀ g W W', Φ k g W → Below W.heap.size W W' → Φ k g W')
    (hdp : ∀ k ∈ ns, ∀ g g' W, (∀ j, (j = k ∨ j ∈ dep k) → g j = g' j) → Φ k g W → Φ k g' W)
    (hV0 : ∀ k ∈ ns, ∃ v, V k v)
    (h : ∀ g, (∀ k ∈ ns, V k (g k)) → wpM P .any l.toArray (CH w ns dep Φ g) (fun i => ns.contains i) g (TS P w dep V Φ g) (fun a' => ∀ W, Below w.heap.size w W → (∀ k ∈ ns, Φ k g W) → wpList P l.toArray Q (l.drop n) a' W) (l.take n) 0 a) : (Code.region id l.toArray true).wp P Q a w := by
  simp only [Region.lexTailB, Bool.and_eq_true, decide_eq_true_eq] at hB
  obtain ⟨⟨⟨⟨hsel, hn⟩, hs⟩, hc⟩, hlex⟩ := hB
  have hn' : n < l.length := by simpa using hn
  have htl : (l.take n).length = n := by simp; omega
  have hdl : (l.drop n).length = l.toArray.size - n := by simp
  have inv0 : HeadInv .any l.toArray n (Array.replicate l.toArray.size false) :=
    ⟨by simp, fun j oj _ hl => (by rw [getD_replicate_false] at hl; cases hl), fun t _ ht => getD_in (by simpa using ht) (getD_replicate_false _ _)⟩
  have H := fun g hg => wpAnyH_lex (md := .any) (g := l.toArray.size - n) hsel hs hc hn (l.take n) 0 _ a (fun j hj => by
    have hj' : j < n := by rw [htl] at hj; exact hj
    simp [hj']) (by simpa using htl) inv0 (fun j hj => by omega) (by rw [htl]; exact hlex) (h g hg)
  have un : ∀ {listed : Array Bool} {i : Nat}, listed.getD i true = false → listed.getD i false = false := fun {listed i} h1 => getD_both h1
  obtain ⟨g0, hg0⟩ : ∃ g0 : Nat → Value, ∀ k ∈ ns, V k (g0 k) := by
    have h1 : ∀ k, ∃ v, k ∈ ns → V k v := fun k => by
      by_cases hk : k ∈ ns
      · obtain ⟨v, hv⟩ := hV0 k hk; exact ⟨v, fun _ => hv⟩
      · exact ⟨undef, fun h => absurd h hk⟩
    obtain ⟨f, hf⟩ := Classical.axiomOfChoice h1
    exact ⟨f, hf⟩
  refine wp_region_any hm ?_
  have := wpAny_of_H (P := P) (md := .any) (ops := l.toArray) (Q' := Q) (gt := l.toArray.size - n) (n := n) (nn := fun i => ns.contains i) (G := Nat → Value) (val := fun g => g) (V := fun g => ∀ k ∈ ns, V k (g k))
    (Ag := fun listed g g' => ∀ k ∈ ns, listed.getD k false = true → g k = g' k) (Cg := CH w ns dep Φ) (Tg := TS P w dep V Φ)
    (L := fun g listed' a' => Region.seqB .any l.toArray (l.toArray.size - n) n listed' = true ∧ (∀ j, j < n → listed'.getD j false = true) ∧ ∀ W, Below w.heap.size w W → (∀ k ∈ ns, Φ k g W) → wpList P l.toArray Q (l.drop n) a' W)
    (fun g listed a' W hC hL => by
      obtain ⟨h1, h2, h3⟩ := hL
      have hlt : ∀ k ∈ ns, k < n := fun k hk => by
        have := List.all_eq_true.1 hnj k hk
        simp only [Bool.and_eq_true, decide_eq_true_eq] at this
        exact this.1
      have := wpAny_of_seq (md := .any) (Q' := Q) (l.drop n) n listed a' W (fun j => by simp [List.getElem?_drop]) (by rw [hdl]; exact h1) (h3 W hC.1 (fun k hk => (hC.2 k hk (h2 k (hlt k hk))).1))
      rwa [hdl] at this)
    (fun _ _ _ _ _ => rfl) (fun l g g' g'' h1 h2 k hk hl => (h1 k hk hl).trans (h2 k hk hl))
    (fun listed i g g' h1 h2 k hk hl => h1 k hk (getD_set_true hl))
    (fun listed i g g' hi h1 h2 => h2 i (List.contains_iff_mem.1 hi) (getD_on h1).2)
    (fun listed g g' W hA hC => ⟨hC.1, fun k hk hl => ⟨hdp k hk g g' W (fun j hj => by
      rcases hj with rfl | hj
      · exact hA j hk hl
      · have hdj := List.all_eq_true.1 hnj k hk
        simp only [Bool.and_eq_true] at hdj
        have h2 := (hC.2 k hk hl).2 j hj
        cases ho : l.toArray[k]? with
        | none => rw [ho] at hdj; cases hdj.2
        | some o =>
          have h3 := hdj.2
          simp only [ho] at h3
          have h4 := List.all_eq_true.1 h3 j hj
          simp only [Bool.and_eq_true] at h4
          exact hA j (List.contains_iff_mem.1 h4.1) h2) (hC.2 k hk hl).1, (hC.2 k hk hl).2⟩⟩)
    (fun i s listed W g hi hTs hg hr hC => by
      have hin : i ∈ ns := List.contains_iff_mem.1 hi
      have hun := (mem_ready.1 hr).1
      have hdj := List.all_eq_true.1 hnj i hin
      simp only [Bool.and_eq_true] at hdj
      obtain ⟨o, ho, _⟩ := (mem_ready.1 hr).2
      have h3 := hdj.2
      simp only [ho] at h3
      have hdeps : ∀ j ∈ dep i, j ∈ ns ∧ listed.getD j false = true := fun j hj => by
        have h4 := List.all_eq_true.1 h3 j hj
        simp only [Bool.and_eq_true] at h4
        exact ⟨List.contains_iff_mem.1 h4.1, ready_after ho h4.2 hr⟩
      have h5 := hTs W hC.1 (fun j hj => (hC.2 j (hdeps j hj).1 (hdeps j hj).2).1)
      refine uponN_mono (fun v W' ⟨e0, e1, e2⟩ => ?_) h5
      refine ⟨fun j => if j = i then v else g j, fun k hk => ?_, fun k hk hl => ?_, by simp, hC.1.trans (e1.mono hC.1.size), fun k hk hl => ?_⟩
      · by_cases hki : k = i
        · subst hki; simpa using e0
        · simpa [hki] using hg k hk
      · have hki : k ≠ i := fun e => by subst e; rw [un hun] at hl; cases hl
        simp [hki]
      · by_cases hki : k = i
        · subst hki
          refine ⟨e2 _ (by simp) (fun j hj => ?_), fun j hj => getD_set_true (hdeps j hj).2⟩
          have hjk : j ≠ k := fun e => by subst e; have := (hdeps j hj).2; rw [un hun] at this; cases this
          simp [hjk]
        · rw [getD_set_ne false (Ne.symm hki)] at hl
          obtain ⟨f1, f2⟩ := hC.2 k hk hl
          refine ⟨hdp k hk g _ W' (fun j hj => ?_) (hst k hk g W W' f1 e1), fun j hj => getD_set_true (f2 j hj)⟩
          have hji : j ≠ i := fun e => by
            subst e
            rcases hj with e | hj
            · exact hki e.symm
            · have := f2 j hj; rw [un hun] at this; cases this
          simp [hji])
    _ _ a (World.drew w) g0 hg0 ⟨(Below.refl _ _).drew, fun k hk hl => by rw [getD_replicate_false] at hl; cases hl⟩ (fun g hg _ => H g hg)
  rw [htl, show n + (l.toArray.size - n) = l.toArray.size by omega] at this
  exact this
/-- the same with one fresh operation, which makes one block -/
def ΦB (b k0 : Nat) (mk : Nat → Value) (t : TypeId) (cs : Array Value) (k : Nat) (g : Nat → Value) (W : World) : Prop := k = k0 → ∃ p, g k0 = mk p ∧ Bx W p t cs ∧ b ≤ p
def VB (mk : Nat → Value) (_k : Nat) (v : Value) : Prop := ∃ p, v = mk p
theorem TS.block {P : Program} {w : World} {mk : Nat → Value} {t : TypeId} {cs : Array Value} {g : Nat → Value} {k0 : Nat} {o : Oper} {a : Act} (s : Sem Value) (hs : execOp a.eval o = (do pure (Next.value (← s)))) (hr : ∀ W, s.run P W = .ok (mk W.heap.size) (W.alloc (.cells cs t))) :
    TS P w (fun _ => []) (VB mk) (ΦB w.heap.size k0 mk t cs) g k0 (execOp a.eval o) :=
  TS.sem hs fun W hW _ => ⟨_, _, hr W, ⟨_, rfl⟩, (Below.refl _ _).alloc (Nat.le_refl _) _, fun g' hg' _ _ => ⟨_, hg', Bx.new _ _ _, hW.size⟩⟩
end Go.Proofs.Ytmbokdnndlnjkaa
namespace Go.Proofs.Ytmbokdnndlnjkaa
open Go Go.RowKit
def Φ1 (k0 : Nat) (Ψ0 : Value → World → Prop) (k : Nat) (g : Nat → Value) (W : World) : Prop := k = k0 → Ψ0 (g k0) W
def V1 (k0 : Nat) (V0 : Value → Prop) (k : Nat) (v : Value) : Prop := k = k0 → V0 v
def dep1 (_k : Nat) : List Nat := []
theorem wp_region_f1 {P : Program} {id : Nat} {Q : Exit → Act → World → Prop} {a : Act} {w : World} {l : List Oper} (n k0 : Nat) (V0 : Value → Prop) (Ψ0 : Value → World → Prop) (e0 : ∃ v, V0 v)
    (hst0 : ∀ v W W', Ψ0 v W → Below W.heap.size W W' → Ψ0 v W')
    (hm : P.follows .mixedOrders = true) (hB : Region.lexTailB .any l.toArray n = true)
    (hnj : (([k0] : List Nat).all fun k => decide (k < n) && match l.toArray[k]? with | some o => (dep1 k).all (fun j => ([k0] : List Nat).contains j && o.after.any fun e => Region.binds .any e && e.on == j) | none => false) = true)
    (h : ∀ g, V0 (g k0) → wpM P .any l.toArray (CH w [k0] dep1 (Φ1 k0 Ψ0) g) (fun i => ([k0] : List Nat).contains i) g (TS P w dep1 (V1 k0 V0) (Φ1 k0 Ψ0) g)
      (fun a' => ∀ W, Below w.heap.size w W → Ψ0 (g k0) W → wpList P l.toArray Q (l.drop n) a' W) (l.take n) 0 a) : (Code.region id l.toArray true).wp P Q a w := by
  refine wp_region_ftail n [k0] dep1 (V1 k0 V0) (Φ1 k0 Ψ0) hm hB hnj ?_ ?_ ?_ ?_
  · intro k hk g W W' h hb e
    exact hst0 _ _ _ (h e) hb
  · intro k hk g g' W he h e
    subst e; rw [← he k (.inl rfl)]; exact h rfl
  · intro k _
    obtain ⟨v0, h0⟩ := e0
    exact ⟨v0, fun _ => h0⟩
  · intro g hV
    have h1 := h g (hV k0 (by simp) rfl)
    have mono : ∀ (C : Array Bool → World → Prop) (nn : Nat → Bool) (T : Nat → Sem Next → Prop) (r : List Oper) (k : Nat) (a' : Act), wpM P .any l.toArray C nn g T
        (fun a' => ∀ W, Below w.heap.size w W → Ψ0 (g k0) W → wpList P l.toArray Q (l.drop n) a' W) r k a' → wpM P .any l.toArray C nn g T
        (fun a' => ∀ W, Below w.heap.size w W → (∀ k ∈ [k0], Φ1 k0 Ψ0 k g W) → wpList P l.toArray Q (l.drop n) a' W) r k a' := by
      intro C nn T r
      induction r with
      | nil =>
        intro k a' h0 W hW hΦ
        exact h0 W hW (hΦ k0 (by simp) rfl)
      | cons o r ih => intro k a' h0; obtain ⟨v, h1, h2⟩ := h0; exact ⟨v, h1, ih _ _ h2⟩
    exact mono _ _ _ _ _ _ h1
end Go.Proofs.Ytmbokdnndlnjkaa
namespace Go.Proofs.Ytmbokdnndlnjkaa.L20
open L02 L13 L18
def natI (l : List Nat) : List Int := l.map fun n : Nat => (n : Int)
/-- what is known of a kid -/
theorem kidAt_some {m : Mo} {o : Ob} {i c : Nat} (h : kidAt m o i = some c) : ((ty m.types o).getD i 0).toNat = 3 ∧ (o.fs.getD i 0).toNat = c + 1 := by
  unfold kidAt at h
  split at h
  · rename_i h1; injection h with h; exact ⟨h1.1, by omega⟩
  · cases h
theorem kids_lt {m : Mo} (hc : chk m = 0) : ∀ n, n < m.objs.length → ∀ k ∈ kids m n, k < m.objs.length := by
  intro n hn k hk
  obtain ⟨_, _, h3⟩ := chk_ok hc
  rw [kids, kidsTo, List.mem_filterMap] at hk
  obtain ⟨i, hi, hk⟩ := hk
  have hi := List.mem_range.1 hi
  have h1 := kidAt_some hk
  have hoo : ObOk m.types m.objs.length (ob m n) := h3.2.2.1 _ (by rw [ob, List.getD_eq_getElem?_getD, List.getElem?_eq_getElem hn]; exact List.getElem_mem hn)
  have := (hoo.2.2 i hi).2 h1.1
  omega
theorem roots_lt {m : Mo} (hc : chk m = 0) : ∀ n ∈ roots m, n < m.objs.length := by
  intro n hn
  obtain ⟨_, _, h3⟩ := chk_ok hc
  rw [roots, List.mem_filterMap] at hn
  obtain ⟨s, hs, hn⟩ := hn
  unfold rootOf at hn
  split at hn
  · rename_i hu
    injection hn with hn
    obtain ⟨a1, a2, a3⟩ := (h3.2.2.2 s hs).2.2 hu
    omega
  · cases hn
/-- what is reached -/
structure Reach (m : Mo) (out : List Nat) : Prop where
  rs : Rs m [] (roots m) out
  nd : out.Nodup
  lt : ∀ n ∈ out, n < m.objs.length
  len : out.length ≤ m.objs.length
theorem Reach.of {m : Mo} (hc : chk m = 0) {out : List Nat} (h : Rs m [] (roots m) out) : Reach m out := by
  have nd := h.nodup List.nodup_nil
  have lt := h.all (p := fun n => n < m.objs.length) (kids_lt hc) (by simp) (roots_lt hc)
  exact ⟨h, nd, lt, nodup_lt nd lt⟩
/-- the next kid -/
theorem Rs.kid {m : Mo} {o : Ob} {ord mid out : List Nat} {i c : Nat} (hi : i < o.fs.length) (h : Rs m ord (kidsTo m o o.fs.length) out) (h1 : Rs m ord (kidsTo m o i) mid) (hc : kidAt m o i = some c) : ∃ mid2, Rs m mid [c] mid2 ∧ Rs m ord (kidsTo m o (i + 1)) mid2 := by
  rw [kids_split (Nat.le_of_lt hi), kidsFrom_step hi, hc] at h
  obtain ⟨mid', a1, a2⟩ := h.app rfl
  obtain rfl := a1.det h1
  obtain ⟨mid2, b1, b2⟩ := a2.app (a := [c]) rfl
  exact ⟨mid2, b1, by rw [kidsTo_step, hc]; exact a1.join b1⟩
end Go.Proofs.Ytmbokdnndlnjkaa.L20
namespace Go.Proofs.Ytmbokdnndlnjkaa.L20
open L02 L13 L18
end Go.Proofs.Ytmbokdnndlnjkaa.L20
