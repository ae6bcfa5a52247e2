/- Contracts of the functions that the laws 'R' reach, part 17. No condition. -/
import Derived.Test.YtmbokdnndlnjkaaGreatMRp
set_option linter.unusedVariables false
set_option linter.unusedSimpArgs false
namespace Go.Proofs.YtmbokdnndlnjkaaGreat
open Go.RowKit L01 L02 L05 L06 L07 L13 L14 L15 L18 L19 L20
theorem idxI_rng {O : List Hb} {a : Int} (h : O.length ≤ 960) : -1 ≤ idxI O a ∧ idxI O a ≤ 960 := by
  unfold idxI
  cases h2 : idx O a with
  | none => exact ⟨Int.le_refl _, by decide⟩
  | some i =>
    obtain ⟨b, h3, _⟩ := idx_some h2
    have := (List.getElem?_eq_some_iff.1 h3).1
    show -1 ≤ (i : Int) ∧ (i : Int) ≤ 960
    exact ⟨by omega, by omega⟩
theorem refV_idxI {O : List Hb} {v : UInt64} (h : O.length ≤ 960) : ((refV O v).toNat : Int) = idxI O v.toNat + 1 := by
  unfold refV idxI
  cases h2 : idx O v.toNat with
  | none => simp
  | some i =>
    obtain ⟨b, h3, _⟩ := idx_some h2
    have := (List.getElem?_eq_some_iff.1 h3).1
    show ((UInt64.ofNat (i + 1)).toNat : Int) = (i : Int) + 1
    rw [UInt64.toNat_ofNat', Nat.mod_eq_of_lt (by omega)]; omega
theorem slOf_used {O : List Hb} {s : Sl} (h : s.used = true) : slOf O s = ⟨s.gen, true, idxI O s.at_⟩ := by
  unfold slOf; rw [if_pos h]; rfl
theorem slOf_not {O : List Hb} {s : Sl} (h : s.used = false) : slOf O s = s := by unfold slOf; rw [h]; rfl
theorem obFs_take {l : List UInt64} {T : List (List UInt8)} {O : List Hb} {b : Hb} {p : Nat} {k : UInt8} {v : UInt64} (hp : p < (kindsB T b).length) (hk : (kindsB T b).getD p 0 = k) (hv : fw l b p = v) : (obFs l T O b).take (p + 1) = (obFs l T O b).take p ++ [fldV O k v] := by
  rw [List.take_add_one, obFs_get hp, hk, hv]; rfl
theorem form_T {w : World} {B : Nat} {v : Value} {L : List (List UInt8)} (h : OwnT w B v L) : ∃ A n c, v = .slice A n c := by
  obtain ⟨vs, _, h2, _⟩ := h
  obtain ⟨A, c, e⟩ := own_form' h2
  exact ⟨A, _, c, e⟩
set_option maxRecDepth 100000 in
set_option maxHeartbeats 16000000 in
theorem SeenR_any (v : Value) (l : List UInt64) (rt : Rt l) (w : World) (h : Words w v l) :
    Calls Tryz.prog 65 #[v] w fun e w' => ∃ t' o' s', e = .returned (.agg #[t', o', s']) ∧ OwnM w' w.heap.size 37 t' o' s' (L19.seen l) ∧ Below w.heap.size w w' := by
  have B : Below w.heap.size w w := Below.refl _ _
  obtain ⟨T, hT⟩ : ∃ T, T = T19 l := ⟨_, rfl⟩
  obtain ⟨S, hS⟩ : ∃ S, S = slots l := ⟨_, rfl⟩
  obtain ⟨L, hL⟩ : ∃ L, L = allL l := ⟨_, rfl⟩
  obtain ⟨O, hO⟩ : ∃ O, O = O19 l := ⟨_, rfl⟩
  have hOL : O = objs L := by rw [hO, hL]; rfl
  have TT := Lib.hid (fun w h => TypesR19_any v l rt.sz T true (by rw [eq_comm, decide_eq_true_iff]; exact ⟨rt.tw, rt.ty⟩) (by rw [hT]; rfl) w h)
  have LT := Lib.hid (fun w h => ParsedR_any v l rt.sz L true hL (by rw [eq_comm, decide_eq_true_iff]; exact rt.al) w h)
  have OT := Lib.hid (fun x w (h : Blks w x L) => objsR_any x L O hOL w h (by rw [hL]; have := all_len rt.al; omega))
  have ST := Lib.hid (fun w h => SlotsR_any v l rt.sz S (by rw [hS, all, if_pos rt.sl]) w h)
  have hO9 : O.length ≤ 960 := by rw [hO]; exact objs_len rt.al
  have hOb : ∀ b ∈ O, 0 ≤ b.at_ ∧ b.at_ ≤ 1000000 := fun b hb => by
    rw [hO] at hb
    obtain ⟨a, h1, h2, h3, h4, _⟩ := objs_at rt.al hb
    have := rt.sz.2.1
    omega
  have IT := Lib.hid (fun (x : Value) (a : UInt64) (r : Int) (hr : r = idxI O a.toNat) w (h : Blks w x O) => idxR_any x O a r hr hOb (by omega) w h)
  have hS16 : S.length = 16 := by rw [hS]; exact slots_len' rt.sl
  obtain ⟨NO, hNO⟩ : ∃ N, N = O.length := ⟨_, rfl⟩
  have hNO2 : NO ≤ 960 := by omega
  have H := Lib.hid h; have HRT := Lib.hid rt; have HT := Lib.hid hT; have HS := Lib.hid hS; have HO := Lib.hid hO; have HNO := Lib.hid hNO; have HO9 := Lib.hid hO9; have HS16 := Lib.hid hS16
  clear h rt hT hS hL hO hOL hO9 hOb hS16 hNO
  go_enter Tryz.func65, Tryz.ntmps65
  go_upto_region 1 with (fail)
  refine wp_gen (fun Wv => Bx Wv (w.heap.size) (31) (#[.slice none 0 0, .slice none 0 0, .slice none 0 0]) ∧ Below w.heap.size w Wv) ⟨((Bx.at_ (by simp))), ((Below.refl _ w).alloc (by simp <;> omega) _)⟩ ?_
  rintro wa1 ⟨g3, b⟩
  replace B := B.trans (b.mono B.size); clear b
  have c_g3 := g3.cell; have f_g3 := g3.free; have a_g3 := fun o => (g3.alloc o).cell; have d_g3 := fun o o2 => ((g3.alloc o).alloc o2).cell; have e_g3 := fun o => (g3.alloc o).free
  have hz1 := B.size; have hp3 := g3.lt
  go_wp2_with fail
  refine (TT.out _ (H.out.below B)).mono ?_
  rintro e wa2 ⟨xt, rfl, ot, b⟩
  try clear c_g3 f_g3 a_g3 d_g3 e_g3
  replace g3 := g3.below b; have c_g3 := g3.cell; have f_g3 := g3.free; have a_g3 := fun o => (g3.alloc o).cell; have d_g3 := fun o o2 => ((g3.alloc o).alloc o2).cell; have e_g3 := fun o => (g3.alloc o).free; replace B := B.trans (b.mono B.size); clear b
  obtain ⟨tA, tn, tc, rfl⟩ := form_T ot
  have oT : OwnT wa2 w.heap.size (.slice tA tn tc) T := ot.mono hz1
  clear ot
  have hz2 := B.size
  go_wp2_with fail
  refine (LT.out _ (H.out.below B)).mono ?_
  rintro e wa3 ⟨xl, rfl, ol, b⟩
  try clear c_g3 f_g3 a_g3 d_g3 e_g3
  replace g3 := g3.below b; have c_g3 := g3.cell; have f_g3 := g3.free; have a_g3 := fun o => (g3.alloc o).cell; have d_g3 := fun o o2 => ((g3.alloc o).alloc o2).cell; have e_g3 := fun o => (g3.alloc o).free; replace oT := oT.below b; replace B := B.trans (b.mono B.size); clear b
  have hz3 := B.size
  go_wp2_with fail
  refine (OT.out _ _ ol.rd).mono ?_
  rintro e wa4 ⟨xo, rfl, ok, b⟩
  try clear c_g3 f_g3 a_g3 d_g3 e_g3
  replace g3 := g3.below b; have c_g3 := g3.cell; have f_g3 := g3.free; have a_g3 := fun o => (g3.alloc o).cell; have d_g3 := fun o o2 => ((g3.alloc o).alloc o2).cell; have e_g3 := fun o => (g3.alloc o).free; replace oT := oT.below b; replace ol := ol.below b; replace B := B.trans (b.mono B.size); clear b
  obtain ⟨oA, on, oc, rfl⟩ : ∃ A n c, xo = .slice A n c := row_form ok
  have oK : OwnK wa4 w.heap.size (.slice oA on oc) O := ok.mono (by omega)
  clear ok
  have hz4 := B.size
  clear ol
  go_wp2_with fail
  refine (ST.out _ (H.out.below B)).mono ?_
  rintro e wa5 ⟨xs, rfl, os, b⟩
  try clear c_g3 f_g3 a_g3 d_g3 e_g3
  replace g3 := g3.below b; have c_g3 := g3.cell; have f_g3 := g3.free; have a_g3 := fun o => (g3.alloc o).cell; have d_g3 := fun o o2 => ((g3.alloc o).alloc o2).cell; have e_g3 := fun o => (g3.alloc o).free; replace oT := oT.below b; replace oK := oK.below b; replace B := B.trans (b.mono B.size); clear b
  obtain ⟨gS, sc, rfl⟩ : ∃ g c, xs = .slice (some ⟨g, 0, none⟩) 16 c := by obtain ⟨g, n, c, e, e2⟩ := os.form (by rw [HS16.out]; omega); rw [e2, HS16.out] at e; exact ⟨g, c, e⟩
  have oS : OwnS wa5 w.heap.size 37 (.slice (some ⟨gS, 0, none⟩) 16 sc) S := own_mono os hz4
  clear os
  have hlt5 := g3.lt
  go_upto_region 5 with (fail)
  refine wp_gen (fun Wv => Bx Wv (wa5.heap.size) (31) (#[.slice tA tn tc, .slice none 0 0, .slice (some ⟨gS, 0, none⟩) 16 sc]) ∧ Below wa5.heap.size wa5 Wv) ⟨((Bx.at_ (by simp))), ((Below.refl _ wa5).alloc (by simp <;> omega) _)⟩ ?_
  rintro wa6 ⟨g5, b⟩
  try clear c_g3 f_g3 a_g3 d_g3 e_g3
  replace g3 := g3.below b; have c_g3 := g3.cell; have f_g3 := g3.free; have a_g3 := fun o => (g3.alloc o).cell; have d_g3 := fun o o2 => ((g3.alloc o).alloc o2).cell; have e_g3 := fun o => (g3.alloc o).free; replace oT := oT.below b; replace oK := oK.below b; replace oS := oS.below b; replace B := B.trans (b.mono B.size); clear b
  have c_g5 := g5.cell; have f_g5 := g5.free; have a_g5 := fun o => (g5.alloc o).cell; have d_g5 := fun o o2 => ((g5.alloc o).alloc o2).cell; have e_g5 := fun o => (g5.alloc o).free
  have hz5 := B.size
  generalize hpp : wa5.heap.size = p5 at *
  have hp5 : w.heap.size + 1 ≤ p5 := by omega
  have HZ := Lib.hid (show OwnT wa6 w.heap.size (.slice tA tn tc) T ∧ OwnO wa6 w.heap.size (.slice none 0 0) ((O.map (obOf l T O)).take 0) ∧ OwnS wa6 w.heap.size 37 (.slice (some ⟨gS, 0, none⟩) 16 sc) S ∧ OwnK wa6 w.heap.size (.slice oA on oc) O ∧ Bx wa6 w.heap.size 31 #[.slice none 0 0, .slice none 0 0, .slice none 0 0] ∧ Bx wa6 p5 31 #[.slice tA tn tc, .slice none 0 0, .slice (some ⟨gS, 0, none⟩) 16 sc] ∧ Below w.heap.size w wa6 from ⟨oT, OwnO.nil _ _, oS, oK, g3, g5, B⟩)
  clear oT oS oK g3 g5 B c_g3 f_g3 a_g3 d_g3 e_g3 c_g5 f_g5 a_g5 d_g5 e_g5 hpp hz1 hz2 hz3 hz4 hz5 hlt5 hp3
  have lo0 := HZ.out.2.2.2.1.rd.len
  rw [← HNO.out] at lo0
  go_wp2
  go_loopg [9] NO (fun g i wr => ∃ j : Nat, j ≤ NO ∧ g = NO - j ∧ i = .int .i64 j ∧ Hid (∃ ov2, OwnT wr w.heap.size (.slice tA tn tc) T ∧ OwnO wr w.heap.size ov2 ((O.map (obOf l T O)).take j) ∧ OwnS wr w.heap.size 37 (.slice (some ⟨gS, 0, none⟩) 16 sc) S ∧ OwnK wr w.heap.size (.slice oA on oc) O ∧ Bx wr w.heap.size 31 #[.slice none 0 0, .slice none 0 0, .slice none 0 0] ∧ Bx wr p5 31 #[.slice tA tn tc, ov2, .slice (some ⟨gS, 0, none⟩) 16 sc] ∧ Below w.heap.size w wr))
  case atStart => exact ⟨0, by omega, by omega, rfl, Lib.hid ⟨_, HZ.out⟩⟩
  case round =>
    clear HZ
    obtain ⟨j, hj, rfl, rfl, hh⟩ := hrel
    by_cases hlt : j < NO
    · obtain ⟨ov2, oT, oO, oS, oK, g3, g5, B⟩ := hh.out
      obtain ⟨wn, hwn⟩ : ∃ W, W = wr := ⟨_, rfl⟩
      subst hwn
      have hB0 := B.size
      obtain ⟨bb, oo, b0, ia, m0, _, _, m3, _, _, hb0, _⟩ := oK.rd.at_ (k := j) (by rw [← HNO.out]; exact hlt)
      have hbO : b0 ∈ O19 l := by rw [← HO.out]; exact List.mem_of_getElem? hb0.out
      have hty : Typed T b0 := by rw [HT.out]; exact HRT.out.good 8 (by omega) (by omega) b0 hbO
      obtain ⟨a, q, t, ha, hq, hTq, hkB, _, hle, _⟩ := in_kinds (in19_of HRT.out.al hbO) hty
      have hqT := (List.getElem?_eq_some_iff.1 hTq).1
      obtain ⟨nf, hnf⟩ : ∃ N, N = t.length := ⟨_, rfl⟩
      have hkE : kErr t = 0 := by rw [HT.out] at hTq; exact (T19_ok HRT.out.ty).2 t (List.mem_of_getElem? hTq)
      have hnf8 : nf ≤ 8 := by rw [hnf]; exact (kErr_ok hkE).1
      rw [← hnf] at hle
      have hl2 := HRT.out.sz.2.1
      have HB0 := Lib.hid hb0.out; have HTQ := Lib.hid hTq; have HKB := Lib.hid hkB; have HNF := Lib.hid hnf; have HLE := Lib.hid hle; have HQT := Lib.hid hqT
      have HA := Lib.hid (And.intro ha hq)
      rw [hq] at m3
      have ha5 : a ≤ 100000 := by omega
      clear hb0 hbO hty ha hq hTq hkB hle hqT hnf hkE hl2 hh
      have HG := Lib.hid (And.intro oT (And.intro oO (And.intro oS (And.intro oK (And.intro g3 (And.intro g5 B))))))
      clear oT oO oS oK g3 g5
      go_upto_region 9 with (fail)
      refine wp_gen (fun Wv => Bx Wv wn.heap.size 85 #[.int .i64 q, .slice none 0 0] ∧ Below wn.heap.size wn Wv) ⟨Bx.at_ (by simp), (Below.refl _ wn).alloc (by simp) _⟩ ?_
      rintro wa ⟨g8, b⟩
      have G8 := Lib.hid (And.intro g8 b)
      clear g8 b m0 m3 B ia
      go_wp2
      go_loopg [11] nf (fun g i wr2 => ∃ p : Nat, p ≤ nf ∧ g = nf - p ∧ i = .int .i64 p ∧ Hid (∃ y, OwnW wr2 wn.heap.size 42 y ((obFs l T O b0).take p) ∧ Bx wr2 wn.heap.size 85 #[.int .i64 q, y] ∧ Below wn.heap.size wn wr2))
      case atStart => exact ⟨0, by omega, by omega, rfl, Lib.hid ⟨_, OwnW.nil _ _ _, G8.out.1, G8.out.2⟩⟩
      case round =>
        clear G8
        obtain ⟨p, hp, rfl, rfl, hh2⟩ := hrel
        obtain ⟨y, oy, g8, b⟩ := hh2.out
        obtain ⟨yA, yn, yc, rfl⟩ : ∃ A n c, y = .slice A n c := by obtain ⟨A, c, e⟩ := own_form' oy; exact ⟨A, _, c, e⟩
        have B2 := HG.out.2.2.2.2.2.2.trans (b.mono hB0)
        have c_g8 := g8.cell
        obtain ⟨ad, yt, t2, iy, m3, ht2, hby⟩ := (HG.out.1.rd.below b).at_ HQT.out
        obtain rfl : t2 = t := by have := ht2.out; rw [HTQ.out] at this; injection this with e; exact e.symm
        have lx := Rd.len hby.out Tryz.underlying83
        rw [← HNF.out] at lx
        clear hh2 ht2
        by_cases hltp : p < nf
        · obtain ⟨bd, kk, ib, m4, hkk⟩ := hby.out.at_ (P := Tryz.prog) Tryz.underlying83 one_u8 (k := p) (by rw [← HNF.out]; exact hltp)
          obtain ⟨bb, oo, b1, ia, m0, _, _, _, _, _, hb1, _⟩ := (HG.out.2.2.2.1.rd.below b).at_ (k := j) (by rw [← HNO.out]; exact hlt)
          obtain rfl : b1 = b0 := by have := hb1.out; rw [HB0.out] at this; injection this with e; exact e.symm
          rw [HA.out.1] at m0
          obtain ⟨cd, v5, ic, m5, hv⟩ := (H.out.below B2).at_ (P := Tryz.prog) Tryz.underlying22 one_u64 (k := a + 2 + p) (by have := HLE.out; omega)
          have ic2 : ∀ W, (Instr.indexAt 22 v (.int .i64 ((a : Int) + 2 + (p : Int)))).run Tryz.prog W = .ok (.pointer (some cd)) W := ic
          have w1 : IntKind.i64.wrap ((a : Int) + 2) = (a : Int) + 2 := IntWalk.i64_in _ (by omega)
          have w2 : IntKind.i64.wrap ((a : Int) + 2 + (p : Int)) = (a : Int) + 2 + (p : Int) := IntWalk.i64_in _ (by omega)
          have hkk' : (kindsB T b1).getD p 0 = kk := by rw [HKB.out, List.getD_eq_getElem?_getD, hkk.out]; rfl
          have hfw : fw l b1 p = v5 := by unfold fw; rw [HA.out.1, Int.toNat_natCast, List.getD_eq_getElem?_getD, hv.out]; rfl
          have HTK := Lib.hid (obFs_take (O := O) (by rw [HKB.out, ← HNF.out]; exact hltp) hkk' hfw)
          have HLK := Lib.hid (show ((obFs l T O b1).take p).length = p by rw [List.length_take, obFs_len, HKB.out, ← HNF.out]; omega)
          have OY := Lib.hid oy; have BB := Lib.hid b; have G8 := Lib.hid g8
          clear hby hkk hv oy ic hb1 hkk' hfw
          by_cases h3 : kk.toNat = 3
          · have k3 : ((kk.toNat : Int) == 3) = true := by rw [beq_iff_eq]; omega
            obtain ⟨r, hr⟩ : ∃ r, r = idxI O v5.toNat := ⟨_, rfl⟩
            have hrr := idxI_rng (a := v5.toNat) HO9.out
            rw [← hr] at hrr
            have HV := Lib.hid (show Go.Proofs.YtmbokdnndlnjkaaGreat.u64 (fldV O kk v5) = .int .u64 (r + 1) by rw [Go.Proofs.YtmbokdnndlnjkaaGreat.u64, fldV_ref h3, refV_idxI HO9.out, hr])
            have z3 : IntKind.i64.wrap (r + 1) = r + 1 := IntWalk.i64_in _ (by omega)
            have z4 : IntKind.u64.wrap (r + 1) = r + 1 := by show (r + 1) % 18446744073709551616 = _; omega
            have II := Lib.hid (fun w h => IT.out (.slice oA on oc) v5 r hr w h)
            have KB := Lib.hid (HG.out.2.2.2.1.rd.below b)
            clear hr hrr h3 b
            go_wp2_with fail
            refine (II.out _ KB.out).mono ?_
            rintro e wz ⟨rfl, rfl⟩
            go_upto_region 15 with (fail)
            go_wp2_with (at_builtin; refine wpList_append (by rfl) rfl rfl rfl Tryz.underlying22 info_u64 rfl (by omega) (by exact own_below OY.out ((Below.refl _ wr).alloc (Nat.le_refl _) _)) (by exact lit_rd) (by simp [Value.oneCell']) (by rw [HLK.out]; omega) (by rw [HLK.out]; omega) (by exact BB.out.alloc BB.out.size _) (Nat.le_refl _) ?_; intro v1 w3 oo3 B3 g3'; obtain ⟨vA, vn1, vc, rfl⟩ : ∃ A n c, v1 = .slice A n c := by { obtain ⟨A, c, e⟩ := own_form' oo3; exact ⟨A, _, c, e⟩ }; have q8 := Bx.grown (G8.out.below ((Below.refl _ wr).alloc (Nat.le_refl _) (.cells #[.int .u64 (r + 1)] 42))) g3' (own_not_bx (own_below OY.out ((Below.refl _ wr).alloc (Nat.le_refl _) (.cells #[.int .u64 (r + 1)] 42))) (G8.out.below ((Below.refl _ wr).alloc (Nat.le_refl _) (.cells #[.int .u64 (r + 1)] 42))) (by decide)); have c8 := q8.cell; have f8 := q8.free)
            have HQ8 := Lib.hid (And.intro q8 (And.intro oo3 B3))
            clear q8 c8 f8 oo3 B3 g3' g8 c_g8 lx
            go_roundg (nf - (p + 1))
            case measure => omega
            case rel =>
              obtain ⟨q8, oo3, B3⟩ := HQ8.out
              refine ⟨p + 1, by omega, rfl, by go_num, Lib.hid ⟨_, own_set (OwnW.of (l := (obFs l T O b1).take (p + 1)) oo3 ?_) q8 (by decide), ?_, B3.setCell (p := ⟨wn.heap.size, 1, none⟩) (Nat.le_refl _) _⟩⟩
              · rw [HTK.out, List.map_append, ← HV.out]; rfl
              · have := q8.set (i := 1) (.slice vA vn1 vc)
                simpa using this
          · have k3 : ((kk.toNat : Int) == 3) = false := by rw [beq_eq_false_iff_ne]; omega
            obtain ⟨vn, hvn⟩ : ∃ q, q = v5.toNat := ⟨_, rfl⟩
            rw [← hvn] at m5
            have HV := Lib.hid (show Go.Proofs.YtmbokdnndlnjkaaGreat.u64 (fldV O kk v5) = .int .u64 vn by rw [fldV_not h3, Go.Proofs.YtmbokdnndlnjkaaGreat.u64, hvn])
            clear hvn h3 b
            go_upto_region 15 with (fail)
            go_wp2_with (at_builtin; refine wpList_append (by rfl) rfl rfl rfl Tryz.underlying22 info_u64 rfl (by omega) (by exact own_below OY.out ((Below.refl _ wr).alloc (Nat.le_refl _) _)) (by exact lit_rd) (by simp [Value.oneCell']) (by rw [HLK.out]; omega) (by rw [HLK.out]; omega) (by exact BB.out.alloc BB.out.size _) (Nat.le_refl _) ?_; intro v1 w3 oo3 B3 g3'; obtain ⟨vA, vn1, vc, rfl⟩ : ∃ A n c, v1 = .slice A n c := by { obtain ⟨A, c, e⟩ := own_form' oo3; exact ⟨A, _, c, e⟩ }; have q8 := Bx.grown (G8.out.below ((Below.refl _ wr).alloc (Nat.le_refl _) (.cells #[.int .u64 (vn : Int)] 42))) g3' (own_not_bx (own_below OY.out ((Below.refl _ wr).alloc (Nat.le_refl _) (.cells #[.int .u64 (vn : Int)] 42))) (G8.out.below ((Below.refl _ wr).alloc (Nat.le_refl _) (.cells #[.int .u64 (vn : Int)] 42))) (by decide)); have c8 := q8.cell; have f8 := q8.free)
            have HQ8 := Lib.hid (And.intro q8 (And.intro oo3 B3))
            clear q8 c8 f8 oo3 B3 g3' g8 c_g8 lx
            go_roundg (nf - (p + 1))
            case measure => omega
            case rel =>
              obtain ⟨q8, oo3, B3⟩ := HQ8.out
              refine ⟨p + 1, by omega, rfl, by go_num, Lib.hid ⟨_, own_set (OwnW.of (l := (obFs l T O b1).take (p + 1)) oo3 ?_) q8 (by decide), ?_, B3.setCell (p := ⟨wn.heap.size, 1, none⟩) (Nat.le_refl _) _⟩⟩
              · rw [HTK.out, List.map_append, ← HV.out]; rfl
              · have := q8.set (i := 1) (.slice vA vn1 vc)
                simpa using this
        · obtain rfl : p = nf := by omega
          have hfs : (obFs l T O b0).take p = obFs l T O b0 := by rw [List.take_of_length_le]; rw [obFs_len, HKB.out, ← HNF.out]; exact Nat.le_refl _
          rw [hfs] at oy
          obtain ⟨oT, oO, oS, oK, g3, g5, B⟩ := HG.out
          obtain ⟨oA2, on2, oc2, rfl⟩ : ∃ A n c, ov2 = .slice A n c := by obtain ⟨vs, z1, z2, _⟩ := oO; obtain ⟨A, c, e⟩ := own_form' z2; exact ⟨A, _, c, e⟩
          obtain ⟨vs, z1, z2, z4, z5⟩ := oO
          have c5 := (g5.below b).cell
          have ba := b.alloc b.size (.cells #[.int .i64 (q : Int), .slice yA yn yc] 85)
          have hoy : OwnW wr wn.heap.size 42 (.slice yA yn yc) (obOf l T O b0).fs := oy
          have hqq : (obOf l T O b0).ty = (q : Int) := HA.out.2
          have HAA := Lib.hid (And.intro z1 (And.intro z2 (And.intro z4 (And.intro z5 (And.intro oT (And.intro oS (And.intro g3 (And.intro g5 (And.intro B (And.intro hoy (And.intro b (And.intro ba (And.intro g8 oK)))))))))))))
          have hL1 : ((O.map (obOf l T O)).take j).length ≤ 960 := by rw [List.length_take, List.length_map]; have := HO9.out; omega
          clear z1 z4 z5 oT oS oK g3 g5 B oy b g8 hoy
          have Z2 := Lib.hid (own_below z2 ba); have BA := Lib.hid ba
          clear z2 ba hfs
          have hqqH := Lib.hid hqq; have HL1 := Lib.hid hL1
          clear hqq hL1
          go_upto_region 16 with (fail)
          clear m3 iy lx hby
          go_wp2_with (at_builtin; refine wpList_append (by rfl) rfl rfl rfl Tryz.underlying28 info_obj rfl (by omega) (by exact Z2.out) (by exact lit_obj) (by exact one_obj rfl) (by have := HL1.out; omega) (by have := HL1.out; omega) (by exact HAA.out.2.2.2.2.2.2.2.2.1.trans (BA.out.mono hB0)) (by omega) ?_; intro v1 w3 oo3 B3 g3'; obtain ⟨vA, vn1, vc, rfl⟩ : ∃ A n c, v1 = .slice A n c := by { obtain ⟨A, c, e⟩ := own_form' oo3; exact ⟨A, _, c, e⟩ }; have MM := Lib.hid (copyO_mem (o := obOf l T O b0) (a := w.heap.size) (b := w.heap.size) (p := p5) HAA.out.1 HAA.out.2.1 HAA.out.2.2.1 HAA.out.2.2.2.1 HAA.out.2.2.2.2.2.2.2.2.2.1 HAA.out.2.2.2.2.2.2.2.2.2.2.1 (by rw [hqqH.out]; exact oo3) (by rw [hqqH.out]; exact g3') HAA.out.2.2.2.2.2.2.1 HAA.out.2.2.2.2.2.2.1 HAA.out.2.2.2.2.2.2.2.1 HAA.out.2.2.2.2.1 HAA.out.2.2.2.2.2.1 HAA.out.2.2.2.2.2.2.2.2.1 hB0 (by omega) (by omega) (by omega) HAA.out.2.2.2.2.2.2.1 (own_not_bx HAA.out.2.1 HAA.out.2.2.2.2.2.2.1 (by decide)) (by omega)); have KK := Lib.hid (own_set (World.ownsRow.kept (own_below HAA.out.2.2.2.2.2.2.2.2.2.2.2.2.2 BA.out) g3' (own_unlike (own_below HAA.out.2.2.2.2.2.2.2.2.2.2.2.2.2 BA.out) Z2.out (by decide))) (i := 1) (u := .slice vA vn1 vc) (Bx.grown (HAA.out.2.2.2.2.2.2.2.1.below BA.out) g3' (own_not_bx Z2.out (HAA.out.2.2.2.2.2.2.2.1.below BA.out) (by decide))) (by decide)); have hc := MM.out.1.1; have hf := MM.out.1.2; clear oo3 B3 g3')
          have HM := Lib.hid MM.out.2
          clear MM hc hf c5 c_g8 HAA Z2 BA
          go_roundg (NO - (j + 1))
          case measure => omega
          case rel =>
            obtain ⟨k1, k2, k3, k4, k5, k6, k7, _⟩ := HM.out
            refine ⟨j + 1, by omega, rfl, by go_num, Lib.hid ⟨_, k5, ?_, k6, KK.out, k2, k4, k7⟩⟩
            rw [List.take_add_one, List.getElem?_map, HB0.out]; exact k1
    · obtain rfl : j = NO := by omega
      obtain ⟨ov2, oT, oO, oS, oK, g3, g5, B⟩ := hh.out
      obtain ⟨oA2, on2, oc2, rfl⟩ : ∃ A n c, ov2 = .slice A n c := by obtain ⟨vs, z1, z2, _⟩ := oO; obtain ⟨A, c, e⟩ := own_form' z2; exact ⟨A, _, c, e⟩
      rw [List.take_of_length_le (by rw [List.length_map, HNO.out]; exact Nat.le_refl _)] at oO
      have HM := Lib.hid (And.intro (OwnM.mk (m := ⟨T, O.map (obOf l T O), S⟩) oT oO oS) (And.intro oK (And.intro g3 (And.intro g5 B))))
      clear hh oT oO oS oK g3 g5 B
      go_wp2
      go_loopg [13] 16 (fun g i wr => ∃ j2 : Nat, j2 ≤ 16 ∧ g = 16 - j2 ∧ i = .int .i64 j2 ∧ Hid (OwnM wr w.heap.size 37 (.slice tA tn tc) (.slice oA2 on2 oc2) (.slice (some ⟨gS, 0, none⟩) 16 sc) ⟨T, O.map (obOf l T O), mapT (slOf O) S j2⟩ ∧ OwnK wr w.heap.size (.slice oA on oc) O ∧ Bx wr w.heap.size 31 #[.slice none 0 0, .slice none 0 0, .slice none 0 0] ∧ Bx wr p5 31 #[.slice tA tn tc, .slice oA2 on2 oc2, .slice (some ⟨gS, 0, none⟩) 16 sc] ∧ Below w.heap.size w wr))
      case atStart => exact ⟨0, by omega, by omega, rfl, Lib.hid (by rw [mapT_zero]; exact HM.out)⟩
      case round =>
        clear HM
        obtain ⟨j2, hj2, rfl, rfl, hh⟩ := hrel
        obtain ⟨om, oK, g3, g5, B⟩ := hh.out
        have c_g5 := g5.cell
        have hgS := om.s.lt gS rfl
        by_cases hlt2 : j2 < 16
        · obtain ⟨s, hs⟩ : ∃ s, S[j2]? = some s := ⟨_, List.getElem?_eq_getElem (by rw [HS16.out]; exact hlt2)⟩
          have hs2 := mapT_get (f := slOf O) hs
          have hso := seen_slot HRT.out (s := s) (by rw [← HS.out]; exact List.mem_of_getElem? hs)
          obtain ⟨ix, q0, q1, q2⟩ := OwnS.cells om.s hs2
          cases hu : s.used
          · rw [hu] at q1
            have HE := Lib.hid (mapT_same (f := slOf O) hs (slOf_not hu))
            clear hs hs2 hso q0 q2 om g3 oK B
            go_wp2
            go_roundg (16 - (j2 + 1))
            case measure => omega
            case rel =>
              refine ⟨j2 + 1, by omega, rfl, by go_num, ?_⟩
              rw [HE.out]; exact hh
          · rw [hu] at q1
            obtain ⟨a1, a2, a3⟩ := hso.2.2.2 hu
            obtain ⟨x, hx⟩ : ∃ x : UInt64, s.at_ = (x.toNat : Int) := ⟨UInt64.ofNat s.at_.toNat, by
              rw [UInt64.toNat_ofNat_of_lt' (by show s.at_.toNat < 18446744073709551616; omega)]; omega⟩
            rw [hx] at q2 a2 a3
            have hwx : IntKind.u64.wrap (x.toNat : Int) = (x.toNat : Int) := by show (x.toNat : Int) % 18446744073709551616 = _; omega
            obtain ⟨r, hr⟩ : ∃ r, r = idxI O x.toNat := ⟨_, rfl⟩
            have II := Lib.hid (fun w h => IT.out (.slice oA on oc) x r hr w h)
            have HE := Lib.hid (show (mapT (slOf O) S j2).set j2 ⟨s.gen, s.used, r⟩ = mapT (slOf O) S (j2 + 1) by
              rw [← mapT_set hs, slOf_used hu, hu, hx, ← hr])
            have HP := Lib.hid (OwnS.put1 om.s hs2 r)
            have fz := HP.out.2.2.2.2
            have hM3 := OwnM.slots om HP.out.2.1 HP.out.1
            have nx := fun {q : Nat} {tq : TypeId} {cs : Array Value} (hb : Bx wr q tq cs) (hne : gS ≠ q) => hb.grown HP.out.2.1 (.inr (fun e => hne (by injection e)))
            have n3 : gS ≠ w.heap.size := own_ne_bx om.s g3 (by decide)
            have n5 : gS ≠ p5 := own_ne_bx om.s g5 (by decide)
            have r3 := nx g3 n3; have r4 := nx g5 n5
            have hb3 := B.grown HP.out.2.1 B.size (fun k hk => by injection hk with hk; rw [← hk]; exact HP.out.2.2.1)
            have oK3 := World.ownsRow.kept oK HP.out.2.1 (own_unlike oK om.s (by decide))
            have HH := Lib.hid (And.intro hM3 (And.intro oK3 (And.intro r3 (And.intro r4 hb3))))
            have KB := Lib.hid oK.rd
            clear nx r3 r4 hb3 hM3 oK3 hh hr
            go_upto_region 21 with (fail)
            refine wp_region_qtail 14 (by kernel_rfl) (by kernel_rfl) ?_
            simp only [List.take_succ_cons, List.take_zero, List.drop_succ_cons, List.drop_zero]
            iterate 14 (go_big_quiet_step (exact (show Calls Tryz.prog 63 #[.slice oA on oc, .int .u64 x.toNat] wr.drew (fun e w'' => e = .returned (.int .i64 r) ∧ w'' = wr.drew) from (II.out wr.drew KB.out).mono (fun _ _ hx => ⟨hx.1, hx.2.symm⟩)) _))
            refine wpQuiet_nil ?_
            change wpList _ _ _ _ _ wr.drew
            have q2' : wr.drew.cell? ⟨gS, j2 * 3 + 2, none⟩ = some (.int .i64 x.toNat) := q2
            have fz' : ∀ j, wr.drew.frozen? ⟨gS, j, none⟩ = false := fz
            clear om g3 g5 oK c_g5 B ix q0 q1 q2 fz hs hs2 hso a1 a2 a3
            go_wp2
            clear q2' fz'
            go_roundg (16 - (j2 + 1))
            case measure => omega
            case rel =>
              refine ⟨j2 + 1, by omega, rfl, by go_num, Lib.hid ?_⟩
              rw [← HE.out]
              exact ⟨⟨HH.out.1.t, HH.out.1.o, HH.out.1.s⟩, HH.out.2.1, HH.out.2.2.1, HH.out.2.2.2.1, HH.out.2.2.2.2.drew⟩
        · obtain rfl : j2 = 16 := by omega
          rw [mapT_done (by rw [HS16.out]; exact Nat.le_refl _)] at om
          have HOM := Lib.hid om
          clear hh om oK
          have c_g3 := g3.cell
          have f_g3 := g3.free
          go_wp2
          refine bodyPost_ret (v := .agg #[.slice tA tn tc, .slice oA2 on2 oc2, .slice (some ⟨gS, 0, none⟩) 16 sc]) (by simp [results, Tryz.results65, go_sem, c_g3, f_g3]) rfl ?_
          refine ⟨_, _, _, rfl, ?_, ?_⟩
          · have := OwnM.set3 HOM.out g3 (a := .slice tA tn tc) (b := .slice oA2 on2 oc2) (c := .slice (some ⟨gS, 0, none⟩) 16 sc)
            rw [show L19.seen l = ⟨T, O.map (obOf l T O), S.map (slOf O)⟩ by unfold L19.seen; rw [HT.out, HO.out, HS.out]]
            exact this
          · exact ((B.setCell (p := ⟨w.heap.size, 0, none⟩) (by simp) _).setCell (p := ⟨w.heap.size, 1, none⟩) (by simp) _).setCell (p := ⟨w.heap.size, 2, none⟩) (by simp) _
end Go.Proofs.YtmbokdnndlnjkaaGreat
namespace Go.Proofs.YtmbokdnndlnjkaaGreat
open Go.RowKit L01 L02 L18
theorem next_get : ∀ {L : List Sl} {j k : Nat}, nextFrom L j = some k → j ≤ k ∧ ∃ s, L[k - j]? = some s ∧ s.used = false ∧ s.gen ≠ 2147483647
  | [], _, _, h => by cases h
  | s :: L, j, k, h => by
    rw [nextFrom] at h
    split at h
    · rename_i h2
      injection h with h
      subst h
      exact ⟨Nat.le_refl _, s, by simp, h2⟩
    · obtain ⟨h1, t, h2, h3⟩ := next_get h
      exact ⟨by omega, t, by rw [show k - j = (k - (j + 1)) + 1 by omega, List.getElem?_cons_succ]; exact h2, h3⟩
theorem gen_le {l : List UInt64} (h0 : openErr l = 0) : ∀ s ∈ slots l, s.gen ≤ 2147483647 := fun s hs => (right_of h0 s hs).2.1
set_option maxRecDepth 100000 in
set_option maxHeartbeats 1000000 in
theorem NewR18_any (v : Value) (l : List UInt64) (a sl g ea : Int) (ev : UInt64) (r : Int) (h1 : sl = newSlot l a) (h2 : g = newGen l a) (h3 : ea = newAt l a) (h4 : ev = newVal l a) (h5 : r = L18.newErr l a) (w : World) (h : Words w v l) :
    Calls Tryz.prog 80 #[v, .int .i64 a] w fun e w' => e = .returned (.tuple #[.agg #[.int .i64 sl, .int .i64 g], .agg #[.int .i64 ea, .int .u64 ev.toNat], .int .i64 r]) ∧ Below w.heap.size w w' := by
  have B : Below w.heap.size w w := Below.refl _ _
  obtain ⟨L, hL⟩ : ∃ L, L = all l := ⟨_, rfl⟩
  obtain ⟨oe, hoe⟩ : ∃ oe, oe = openErr l := ⟨_, rfl⟩
  have AT := fun w h => AllR_any v l L oe hL hoe w h
  have HAT := Lib.hid AT; have H := Lib.hid h; clear AT h
  by_cases h0 : openErr l = 0
  · by_cases ha : 128 ≤ a ∧ a < 2048
    · have hLs : L = slots l := hL.trans (all_ok h0)
      obtain ⟨nx, hnx⟩ : ∃ nx, nx = nextI L := ⟨_, rfl⟩
      have NT := fun v w h => NextR_any v L nx hnx w h (by rw [hLs]; exact gen_le h0)
      have HNT := Lib.hid NT
      obtain ⟨a1, a2⟩ := ha
      cases hn : next (slots l) with
      | none =>
        have herr : L18.newErr l a = 23 := by rw [L18.newErr, if_pos h0, if_pos ⟨a1, a2⟩, if_pos hn]
        have e1 : sl = 0 := h1.trans (if_neg (by rw [herr]; omega))
        have e2 : g = 0 := h2.trans (if_neg (by rw [herr]; omega))
        have e3 : ea = 0 := h3.trans (if_neg (by rw [herr]; omega))
        have e4 : ev = 0 := h4.trans (if_neg (by rw [herr]; omega))
        rw [herr] at h5
        have hx : nx = -1 := by rw [hnx, nextI, hLs, hn]
        rw [h0] at hoe
        clear h1 h2 h3 h4 herr NT hn hnx hLs hL h0
        subst e1 e2 e3 e4 h5 hx hoe
        go_enter Tryz.func80, Tryz.ntmps80
        go_upto_region 1 with (fail)
        refine wp_gen (fun Wv => Bx Wv (w.heap.size) (39) (#[.int .i64 0, .int .i64 0]) ∧ Bx Wv (w.heap.size + 1) (120) (#[.int .i64 0, .int .u64 0]) ∧ Below w.heap.size w Wv) ⟨(((Bx.at_ (by simp)).alloc _)), ((Bx.at_ (by simp))), (((Below.refl _ w).alloc (by simp <;> omega) _).alloc (by simp <;> omega) _)⟩ ?_
        rintro w' ⟨g4, g5, b⟩
        replace B := B.trans (b.mono B.size); clear b
        have c_g4 := g4.cell; have f_g4 := g4.free; have a_g4 := fun o => (g4.alloc o).cell; have d_g4 := fun o o2 => ((g4.alloc o).alloc o2).cell; have e_g4 := fun o => (g4.alloc o).free
        have c_g5 := g5.cell; have f_g5 := g5.free; have a_g5 := fun o => (g5.alloc o).cell; have d_g5 := fun o o2 => ((g5.alloc o).alloc o2).cell; have e_g5 := fun o => (g5.alloc o).free
        go_wp2_with fail
        refine (HAT.out _ (H.out.below B)).mono ?_
        rintro e w' ⟨xv, E, rfl, r1, b⟩
        try clear c_g4 f_g4 a_g4 d_g4 e_g4
        replace g4 := g4.below b; have c_g4 := g4.cell; have f_g4 := g4.free; have a_g4 := fun o => (g4.alloc o).cell; have d_g4 := fun o o2 => ((g4.alloc o).alloc o2).cell; have e_g4 := fun o => (g4.alloc o).free; try clear c_g5 f_g5 a_g5 d_g5 e_g5
        replace g5 := g5.below b; have c_g5 := g5.cell; have f_g5 := g5.free; have a_g5 := fun o => (g5.alloc o).cell; have d_g5 := fun o o2 => ((g5.alloc o).alloc o2).cell; have e_g5 := fun o => (g5.alloc o).free; replace B := B.trans (b.mono B.size); clear b
        go_wp2_with fail
        refine (HNT.out _ _ r1.rd).mono ?_
        rintro e w2 ⟨rfl, rfl⟩
        go_wp2
        refine bodyPost_ret (v := .tuple #[.agg #[.int .i64 0, .int .i64 0], .agg #[.int .i64 0, .int .u64 0], .int .i64 23]) (by simp [results, Tryz.results80, go_sem, c_g4, f_g4, a_g4, e_g4, c_g5, f_g5, a_g5, e_g5]) rfl ?_
        refine ⟨rfl, ?_⟩
        (repeat (first | refine Below.setCell ?_ (by first | exact Nat.le_refl _ | (simp <;> omega)) _ | refine Below.alloc ?_ (by first | exact B.size | (have := B.size; simp <;> omega)) _)); exact B
      | some k =>
        have herr : L18.newErr l a = 0 := by rw [L18.newErr, if_pos h0, if_pos ⟨a1, a2⟩, if_neg (by rw [hn]; simp)]
        obtain ⟨_, s, p3, p4, p5⟩ := next_get hn
        rw [Nat.sub_zero, ← hLs] at p3
        have hR := right_of h0 s (by rw [← hLs]; exact List.mem_of_getElem? p3)
        have q0 := hR.1; have q1 := hR.2.1
        have e1 : sl = k := by rw [h1, newSlot, if_pos herr, hn]; rfl
        have e2 : g = s.gen + 1 := by rw [h2, newGen, if_pos herr, hn, ← hLs]; simp [List.getD_eq_getElem?_getD, p3]
        have e3 : ea = 112 + k := by rw [h3, newAt, if_pos herr, hn]; rfl
        have e4 : ev = pk ⟨s.gen + 1, true, a⟩ := by rw [h4, newVal, if_pos herr, ← h2, e2]
        have hR2 : Right ⟨s.gen + 1, true, a⟩ := ⟨by show 0 ≤ s.gen + 1; omega, by show s.gen + 1 ≤ 2147483647; omega, by simp, fun _ => ⟨by show 0 < s.gen + 1; omega, a1, a2⟩⟩
        have OT := fun w => OfR_any ⟨s.gen + 1, true, a⟩ ev e4 hR2 w
        dsimp only at OT
        have HOT := Lib.hid OT
        have hx : nx = k := by rw [hnx, nextI, hLs, hn]
        have hkL : k < L.length := (List.getElem?_eq_some_iff.1 p3).1
        have hk16 : k < 16 := by rw [hLs, slots16 h0] at hkL; exact hkL
        have HP := Lib.hid p3
        have hge : s.gen < 2147483647 := by omega
        rw [h0] at hoe; rw [herr] at h5
        clear h1 h2 h3 h4 herr NT OT hn hnx hLs hL h0 hR hR2 e4 p3 p5 p4
        subst e1 e2 e3 hx hoe h5
        go_enter Tryz.func80, Tryz.ntmps80
        go_upto_region 1 with (fail)
        refine wp_gen (fun Wv => Bx Wv (w.heap.size) (39) (#[.int .i64 0, .int .i64 0]) ∧ Bx Wv (w.heap.size + 1) (120) (#[.int .i64 0, .int .u64 0]) ∧ Below w.heap.size w Wv) ⟨(((Bx.at_ (by simp)).alloc _)), ((Bx.at_ (by simp))), (((Below.refl _ w).alloc (by simp <;> omega) _).alloc (by simp <;> omega) _)⟩ ?_
        rintro w' ⟨g4, g5, b⟩
        replace B := B.trans (b.mono B.size); clear b
        have c_g4 := g4.cell; have f_g4 := g4.free; have a_g4 := fun o => (g4.alloc o).cell; have d_g4 := fun o o2 => ((g4.alloc o).alloc o2).cell; have e_g4 := fun o => (g4.alloc o).free
        have c_g5 := g5.cell; have f_g5 := g5.free; have a_g5 := fun o => (g5.alloc o).cell; have d_g5 := fun o o2 => ((g5.alloc o).alloc o2).cell; have e_g5 := fun o => (g5.alloc o).free
        go_wp2_with fail
        refine (HAT.out _ (H.out.below B)).mono ?_
        rintro e w' ⟨xv, E, rfl, r1, b⟩
        try clear c_g4 f_g4 a_g4 d_g4 e_g4
        replace g4 := g4.below b; have c_g4 := g4.cell; have f_g4 := g4.free; have a_g4 := fun o => (g4.alloc o).cell; have d_g4 := fun o o2 => ((g4.alloc o).alloc o2).cell; have e_g4 := fun o => (g4.alloc o).free; try clear c_g5 f_g5 a_g5 d_g5 e_g5
        replace g5 := g5.below b; have c_g5 := g5.cell; have f_g5 := g5.free; have a_g5 := fun o => (g5.alloc o).cell; have d_g5 := fun o o2 => ((g5.alloc o).alloc o2).cell; have e_g5 := fun o => (g5.alloc o).free; replace B := B.trans (b.mono B.size); clear b
        go_wp2_with fail
        refine (HNT.out _ _ r1.rd).mono ?_
        rintro e w2 ⟨rfl, rfl⟩
        obtain ⟨b, o, t, ia, c0, c1, c2, ht⟩ := r1.rd.at_ (P := Tryz.prog) Tryz.underlying29 size_slot (k := k) hkL
        have hts : t = s := by have h1 := ht.out; rw [HP.out] at h1; injection h1 with h1; exact h1.symm
        subst hts
        clear ht
        have n0 : (0 : Int) ≤ (k : Int) := by omega
        go_wp2_with fail
        refine (HOT.out _).mono ?_
        rintro e w2 ⟨rfl, b⟩
        clear c0 c1 c2
        replace g4 := g4.below b; replace g5 := g5.below b; replace B := B.trans (b.mono B.size)
        clear c_g4 f_g4 a_g4 d_g4 e_g4 c_g5 f_g5 a_g5 d_g5 e_g5
        have k4 := g4.cell; have l4 := g4.free; have k5 := g5.cell; have l5 := g5.free
        go_wp2
        refine bodyPost_ret (v := .tuple #[.agg #[.int .i64 k, .int .i64 (t.gen + 1)], .agg #[.int .i64 (112 + k), .int .u64 ev.toNat], .int .i64 0]) (by simp [results, Tryz.results80, go_sem, k4, l4, k5, l5]) rfl ⟨rfl, ?_⟩
        (repeat (first | refine Below.setCell ?_ (by first | exact Nat.le_refl _ | (simp <;> omega)) _ | refine Below.alloc ?_ (by first | exact B.size | (have := B.size; simp <;> omega)) _)); exact B
    · have herr : L18.newErr l a = 2 := by rw [L18.newErr, if_pos h0, if_neg ha]
      have e1 : sl = 0 := h1.trans (if_neg (by rw [herr]; omega))
      have e2 : g = 0 := h2.trans (if_neg (by rw [herr]; omega))
      have e3 : ea = 0 := h3.trans (if_neg (by rw [herr]; omega))
      have e4 : ev = 0 := h4.trans (if_neg (by rw [herr]; omega))
      rw [herr] at h5; rw [h0] at hoe
      clear h1 h2 h3 h4 herr hL h0
      subst e1 e2 e3 e4 h5 hoe
      have hcase : a < 128 ∨ 128 ≤ a ∧ 2048 ≤ a := by omega
      clear ha
      rcases hcase with a1 | ⟨a1, a2⟩
      all_goals
        go_enter Tryz.func80, Tryz.ntmps80
        go_upto_region 1 with (fail)
        refine wp_gen (fun Wv => Bx Wv (w.heap.size) (39) (#[.int .i64 0, .int .i64 0]) ∧ Bx Wv (w.heap.size + 1) (120) (#[.int .i64 0, .int .u64 0]) ∧ Below w.heap.size w Wv) ⟨(((Bx.at_ (by simp)).alloc _)), ((Bx.at_ (by simp))), (((Below.refl _ w).alloc (by simp <;> omega) _).alloc (by simp <;> omega) _)⟩ ?_
        rintro w' ⟨g4, g5, b⟩
        replace B := B.trans (b.mono B.size); clear b
        have c_g4 := g4.cell; have f_g4 := g4.free; have a_g4 := fun o => (g4.alloc o).cell; have d_g4 := fun o o2 => ((g4.alloc o).alloc o2).cell; have e_g4 := fun o => (g4.alloc o).free
        have c_g5 := g5.cell; have f_g5 := g5.free; have a_g5 := fun o => (g5.alloc o).cell; have d_g5 := fun o o2 => ((g5.alloc o).alloc o2).cell; have e_g5 := fun o => (g5.alloc o).free
        go_wp2_with fail
        refine (HAT.out _ (H.out.below B)).mono ?_
        rintro e w' ⟨xv, E, rfl, r1, b⟩
        try clear c_g4 f_g4 a_g4 d_g4 e_g4
        replace g4 := g4.below b; have c_g4 := g4.cell; have f_g4 := g4.free; have a_g4 := fun o => (g4.alloc o).cell; have d_g4 := fun o o2 => ((g4.alloc o).alloc o2).cell; have e_g4 := fun o => (g4.alloc o).free; try clear c_g5 f_g5 a_g5 d_g5 e_g5
        replace g5 := g5.below b; have c_g5 := g5.cell; have f_g5 := g5.free; have a_g5 := fun o => (g5.alloc o).cell; have d_g5 := fun o o2 => ((g5.alloc o).alloc o2).cell; have e_g5 := fun o => (g5.alloc o).free; replace B := B.trans (b.mono B.size); clear b
        go_wp2
        refine bodyPost_ret (v := .tuple #[.agg #[.int .i64 0, .int .i64 0], .agg #[.int .i64 0, .int .u64 0], .int .i64 2]) (by simp [results, Tryz.results80, go_sem, c_g4, f_g4, a_g4, e_g4, c_g5, f_g5, a_g5, e_g5]) rfl ?_
        refine ⟨rfl, ?_⟩
        (repeat (first | refine Below.setCell ?_ (by first | exact Nat.le_refl _ | (simp <;> omega)) _ | refine Below.alloc ?_ (by first | exact B.size | (have := B.size; simp <;> omega)) _)); exact B
  · have herr : L18.newErr l a = openErr l := by rw [L18.newErr, if_neg h0]
    have e1 : sl = 0 := h1.trans (if_neg (by rw [herr]; exact h0))
    have e2 : g = 0 := h2.trans (if_neg (by rw [herr]; exact h0))
    have e3 : ea = 0 := h3.trans (if_neg (by rw [herr]; exact h0))
    have e4 : ev = 0 := h4.trans (if_neg (by rw [herr]; exact h0))
    have hr0 : r = oe := by rw [h5, herr, hoe]
    have hne : (oe != 0) = true := by rw [bne_iff_ne, hoe]; exact h0
    clear h1 h2 h3 h4 herr h0 hoe hL h5
    subst e1 e2 e3 e4 hr0
    go_enter Tryz.func80, Tryz.ntmps80
    go_upto_region 1 with (fail)
    refine wp_gen (fun Wv => Bx Wv (w.heap.size) (39) (#[.int .i64 0, .int .i64 0]) ∧ Bx Wv (w.heap.size + 1) (120) (#[.int .i64 0, .int .u64 0]) ∧ Below w.heap.size w Wv) ⟨(((Bx.at_ (by simp)).alloc _)), ((Bx.at_ (by simp))), (((Below.refl _ w).alloc (by simp <;> omega) _).alloc (by simp <;> omega) _)⟩ ?_
    rintro w' ⟨g4, g5, b⟩
    replace B := B.trans (b.mono B.size); clear b
    have c_g4 := g4.cell; have f_g4 := g4.free; have a_g4 := fun o => (g4.alloc o).cell; have d_g4 := fun o o2 => ((g4.alloc o).alloc o2).cell; have e_g4 := fun o => (g4.alloc o).free
    have c_g5 := g5.cell; have f_g5 := g5.free; have a_g5 := fun o => (g5.alloc o).cell; have d_g5 := fun o o2 => ((g5.alloc o).alloc o2).cell; have e_g5 := fun o => (g5.alloc o).free
    go_wp2_with fail
    refine (HAT.out _ (H.out.below B)).mono ?_
    rintro e w' ⟨xv, E, rfl, r1, b⟩
    try clear c_g4 f_g4 a_g4 d_g4 e_g4
    replace g4 := g4.below b; have c_g4 := g4.cell; have f_g4 := g4.free; have a_g4 := fun o => (g4.alloc o).cell; have d_g4 := fun o o2 => ((g4.alloc o).alloc o2).cell; have e_g4 := fun o => (g4.alloc o).free; try clear c_g5 f_g5 a_g5 d_g5 e_g5
    replace g5 := g5.below b; have c_g5 := g5.cell; have f_g5 := g5.free; have a_g5 := fun o => (g5.alloc o).cell; have d_g5 := fun o o2 => ((g5.alloc o).alloc o2).cell; have e_g5 := fun o => (g5.alloc o).free; replace B := B.trans (b.mono B.size); clear b
    go_wp2
    refine bodyPost_ret (v := .tuple #[.agg #[.int .i64 0, .int .i64 0], .agg #[.int .i64 0, .int .u64 0], .int .i64 r]) (by simp [results, Tryz.results80, go_sem, c_g4, f_g4, a_g4, e_g4, c_g5, f_g5, a_g5, e_g5]) rfl ?_
    refine ⟨rfl, ?_⟩
    (repeat (first | refine Below.setCell ?_ (by first | exact Nat.le_refl _ | (simp <;> omega)) _ | refine Below.alloc ?_ (by first | exact B.size | (have := B.size; simp <;> omega)) _)); exact B
set_option maxRecDepth 100000 in
set_option maxHeartbeats 1000000 in
theorem DropR18_any (v : Value) (l : List UInt64) (sl g ea : Int) (ev : UInt64) (r : Int) (h1 : ea = dropAt l sl g) (h2 : ev = dropVal l sl g) (h3 : r = resErr l sl g) (w : World) (h : Words w v l) :
    Calls Tryz.prog 58 #[v, .agg #[.int .i64 sl, .int .i64 g]] w fun e w' => e = .returned (.tuple #[.agg #[.int .i64 ea, .int .u64 ev.toNat], .int .i64 r]) ∧ Below w.heap.size w w' := by
  have B : Below w.heap.size w w := Below.refl _ _
  obtain ⟨rx, hrx⟩ : ∃ rx, rx = res l sl g := ⟨_, rfl⟩
  have RT := fun w h => ResolveR_any v l sl g rx r hrx h3 w h
  have HRT := Lib.hid RT; have H := Lib.hid h; clear RT h hrx
  by_cases hrr : r = 0
  · have hre : resErr l sl g = 0 := h3.symm.trans hrr
    have h0 : openErr l = 0 := by
      rcases Classical.em (openErr l = 0) with h | h
      · exact h
      · rw [resErr, if_neg h] at hre; exact hre
    obtain ⟨hR, p1, p2⟩ := drop_right h0 (by rw [resErr, if_pos h0] at hre; exact hre)
    have e1 : ea = 112 + sl := by rw [h1, dropAt, if_pos hre]
    have e2 : ev = pk ⟨g, false, 0⟩ := by rw [h2, dropVal, if_pos hre]
    have PT := fun w => OfR_any ⟨g, false, 0⟩ ev e2 hR w
    dsimp only at PT
    have HPT := Lib.hid PT
    clear h0 h1 h2 h3 hR e2 PT hre
    subst e1 hrr
    go_enter Tryz.func58, Tryz.ntmps58
    go_upto_region 1 with (fail)
    refine wp_gen (fun Wv => Bx Wv (w.heap.size) (39) (#[.int .i64 sl, .int .i64 g]) ∧ Bx Wv (w.heap.size + 1) (120) (#[.int .i64 0, .int .u64 0]) ∧ Below w.heap.size w Wv) ⟨(((Bx.at_ (by simp)).alloc _)), ((Bx.at_ (by simp))), (((Below.refl _ w).alloc (by simp <;> omega) _).alloc (by simp <;> omega) _)⟩ ?_
    rintro w' ⟨g3, g4, b⟩
    replace B := B.trans (b.mono B.size); clear b
    have c_g3 := g3.cell; have f_g3 := g3.free; have a_g3 := fun o => (g3.alloc o).cell; have d_g3 := fun o o2 => ((g3.alloc o).alloc o2).cell; have e_g3 := fun o => (g3.alloc o).free
    have c_g4 := g4.cell; have f_g4 := g4.free; have a_g4 := fun o => (g4.alloc o).cell; have d_g4 := fun o o2 => ((g4.alloc o).alloc o2).cell; have e_g4 := fun o => (g4.alloc o).free
    go_wp2_with fail
    refine (HRT.out _ (H.out.below B)).mono ?_
    rintro e w' ⟨rfl, b⟩
    try clear c_g3 f_g3 a_g3 d_g3 e_g3
    replace g3 := g3.below b; have c_g3 := g3.cell; have f_g3 := g3.free; have a_g3 := fun o => (g3.alloc o).cell; have d_g3 := fun o o2 => ((g3.alloc o).alloc o2).cell; have e_g3 := fun o => (g3.alloc o).free; try clear c_g4 f_g4 a_g4 d_g4 e_g4
    replace g4 := g4.below b; have c_g4 := g4.cell; have f_g4 := g4.free; have a_g4 := fun o => (g4.alloc o).cell; have d_g4 := fun o o2 => ((g4.alloc o).alloc o2).cell; have e_g4 := fun o => (g4.alloc o).free; replace B := B.trans (b.mono B.size); clear b
    go_wp2
    have i0 : w'.cell? ⟨w.heap.size, 0, none⟩ = some (.int .i64 sl) := g3.cell 0
    have i1 : w'.cell? ⟨w.heap.size, 1, none⟩ = some (.int .i64 g) := g3.cell 1
    clear c_g3 f_g3 a_g3 d_g3 e_g3 c_g4 f_g4 a_g4 d_g4 e_g4
    have n4 : w.heap.size ≠ w.heap.size + 1 := by omega
    have hwk : IntKind.i64.wrap (112 + sl) = 112 + sl := IntWalk.i64_in _ (by omega)
    obtain ⟨W0, hW0⟩ : ∃ W0, W0 = w' := ⟨_, rfl⟩
    subst hW0
    go_region_held3 (fun Z => Z.cell? ⟨w.heap.size, 0, none⟩ = some (.int .i64 sl) ∧ Z.cell? ⟨w.heap.size, 1, none⟩ = some (.int .i64 g))
      (first
        | with_reducible exact ⟨j0, j1⟩
        | with_reducible exact ⟨cell_far (cell_far j0 n4) n4, cell_far (cell_far j1 n4) n4⟩
        | exact ⟨i0, i1⟩)
      ((go_at_call 115; (with_reducible refine (HPT.out _).mono ?_); rintro e W1 ⟨rfl, b⟩; have bb : Below W0.heap.size W0 W1 := ((Below.refl W0.heap.size W0).drew).trans b; have m3 := g3.below bb; have j0 : W1.cell? ⟨w.heap.size, 0, none⟩ = some (.int .i64 sl) := m3.cell 0; have j1 : W1.cell? ⟨w.heap.size, 1, none⟩ = some (.int .i64 g) := m3.cell 1; have m4 := g4.below bb; have k4 := m4.cell; have l4 := m4.free))
    go_wp2
    refine bodyPost_ret (v := .tuple #[.agg #[.int .i64 (112 + sl), .int .u64 ev.toNat], .int .i64 0]) (by simp [results, Tryz.results58, go_sem, k4, l4]) rfl ⟨rfl, ?_⟩
    replace B := B.trans (bb.mono B.size)
    (repeat (first | refine Below.setCell ?_ (by first | exact Nat.le_refl _ | (simp <;> omega)) _ | refine Below.alloc ?_ (by first | exact B.size | (have := B.size; simp <;> omega)) _)); exact B
  · have hne : (r != 0) = true := by rw [bne_iff_ne]; exact hrr
    have e1 : ea = 0 := by rw [h1, dropAt, if_neg (by rw [← h3]; exact hrr)]
    have e2 : ev = 0 := by rw [h2, dropVal, if_neg (by rw [← h3]; exact hrr)]
    clear h1 h2 h3 hrr
    subst e1 e2
    go_enter Tryz.func58, Tryz.ntmps58
    go_upto_region 1 with (fail)
    refine wp_gen (fun Wv => Bx Wv (w.heap.size) (39) (#[.int .i64 sl, .int .i64 g]) ∧ Bx Wv (w.heap.size + 1) (120) (#[.int .i64 0, .int .u64 0]) ∧ Below w.heap.size w Wv) ⟨(((Bx.at_ (by simp)).alloc _)), ((Bx.at_ (by simp))), (((Below.refl _ w).alloc (by simp <;> omega) _).alloc (by simp <;> omega) _)⟩ ?_
    rintro w' ⟨g3, g4, b⟩
    replace B := B.trans (b.mono B.size); clear b
    have c_g3 := g3.cell; have f_g3 := g3.free; have a_g3 := fun o => (g3.alloc o).cell; have d_g3 := fun o o2 => ((g3.alloc o).alloc o2).cell; have e_g3 := fun o => (g3.alloc o).free
    have c_g4 := g4.cell; have f_g4 := g4.free; have a_g4 := fun o => (g4.alloc o).cell; have d_g4 := fun o o2 => ((g4.alloc o).alloc o2).cell; have e_g4 := fun o => (g4.alloc o).free
    go_wp2_with fail
    refine (HRT.out _ (H.out.below B)).mono ?_
    rintro e w' ⟨rfl, b⟩
    try clear c_g3 f_g3 a_g3 d_g3 e_g3
    replace g3 := g3.below b; have c_g3 := g3.cell; have f_g3 := g3.free; have a_g3 := fun o => (g3.alloc o).cell; have d_g3 := fun o o2 => ((g3.alloc o).alloc o2).cell; have e_g3 := fun o => (g3.alloc o).free; try clear c_g4 f_g4 a_g4 d_g4 e_g4
    replace g4 := g4.below b; have c_g4 := g4.cell; have f_g4 := g4.free; have a_g4 := fun o => (g4.alloc o).cell; have d_g4 := fun o o2 => ((g4.alloc o).alloc o2).cell; have e_g4 := fun o => (g4.alloc o).free; replace B := B.trans (b.mono B.size); clear b
    go_wp2
    refine bodyPost_ret (v := .tuple #[.agg #[.int .i64 0, .int .u64 0], .int .i64 r]) (by simp [results, Tryz.results58, go_sem, c_g3, f_g3, a_g3, e_g3, c_g4, f_g4, a_g4, e_g4]) rfl ?_
    refine ⟨rfl, ?_⟩
    (repeat (first | refine Below.setCell ?_ (by first | exact Nat.le_refl _ | (simp <;> omega)) _ | refine Below.alloc ?_ (by first | exact B.size | (have := B.size; simp <;> omega)) _)); exact B
end Go.Proofs.YtmbokdnndlnjkaaGreat
namespace Go.Proofs.YtmbokdnndlnjkaaGreat
open Go.RowKit L01 L02 L05 L06 L07 L13 L14 L15 L18 L19 L20
end Go.Proofs.YtmbokdnndlnjkaaGreat
namespace Go.Proofs.YtmbokdnndlnjkaaGreat
open Go.RowKit L01 L02 L05 L06 L07 L13 L14 L15 L18 L19 L20
set_option maxRecDepth 100000 in
set_option maxHeartbeats 2000000 in
theorem AskedR_any (v : Value) (l : List UInt64) (sl g : Int) (p r : Int) (hp : p = atI l sl g) (hr : r = askI l sl g) (w : World) (h : Words w v l) :
    Calls Tryz.prog 57 #[v, .agg #[.int .i64 sl, .int .i64 g]] w fun e w' => e = .returned (.tuple #[.int .i64 p, .int .i64 r]) ∧ Below w.heap.size w w' := by
  have B : Below w.heap.size w w := Below.refl _ _
  have H := Lib.hid h
  obtain ⟨c, hc⟩ : ∃ c, c = chk19 l := ⟨_, rfl⟩
  have CK := Lib.hid (fun w h => Check19R_any v l c hc w h)
  have hno : r ≠ 0 → p = 0 := fun h0 => by rw [hp, atI, if_neg (by rw [← hr]; exact h0)]
  by_cases h0 : c = 0
  case neg =>
    have hra : r = c := by rw [hr, askI, if_neg (by rw [← hc]; exact h0), hc]
    obtain rfl := hno (by rw [hra]; exact h0)
    subst hra
    have n1 : (r != 0) = true := by rw [bne_iff_ne]; exact h0
    clear hp hr hno h hc h0
    go_enter Tryz.func57, Tryz.ntmps57
    go_upto_region 1 with (fail)
    refine wp_gen (fun Wv => Bx Wv (w.heap.size) (39) (#[.int .i64 sl, .int .i64 g]) ∧ Below w.heap.size w Wv) ⟨((Bx.at_ (by simp))), ((Below.refl _ w).alloc (by simp <;> omega) _)⟩ ?_
    rintro wa1 ⟨g1, b⟩
    replace B := B.trans (b.mono B.size); clear b
    have c_g1 := g1.cell; have f_g1 := g1.free; have a_g1 := fun o => (g1.alloc o).cell; have d_g1 := fun o o2 => ((g1.alloc o).alloc o2).cell; have e_g1 := fun o => (g1.alloc o).free
    go_wp2_with fail
    refine (CK.out _ (H.out.below B)).mono ?_
    rintro e wa2 ⟨rfl, b⟩
    try clear c_g1 f_g1 a_g1 d_g1 e_g1
    replace g1 := g1.below b; have c_g1 := g1.cell; have f_g1 := g1.free; have a_g1 := fun o => (g1.alloc o).cell; have d_g1 := fun o o2 => ((g1.alloc o).alloc o2).cell; have e_g1 := fun o => (g1.alloc o).free; replace B := B.trans (b.mono B.size); clear b
    go_wp2
    go_ret2
    exact ⟨rfl, B⟩
  case pos =>
    subst h0
    have rt : Rt l := Rt.of hc.symm
    obtain ⟨S, hS⟩ : ∃ S, S = slots l := ⟨_, rfl⟩
    have ST := Lib.hid (fun w h => SlotsR_any v l rt.sz S (by rw [hS, all, if_pos rt.sl]) w h)
    obtain ⟨d, hd⟩ : ∃ d, d = rightErr S sl g := ⟨_, rfl⟩
    have RT := Lib.hid (fun x w (h : Slots w x S) => RightR_any x S sl g d hd w h)
    have hra : r = d := by rw [hr, askI, if_pos hc.symm, resErr, if_pos rt.sl, hd, hS]
    by_cases h1 : d = 0
    case neg =>
      obtain rfl := hno (by rw [hra]; exact h1)
      subst hra
      have n1 : (r != 0) = true := by rw [bne_iff_ne]; exact h1
      clear hp hr hno h hc hd h1 rt hS
      go_enter Tryz.func57, Tryz.ntmps57
      go_upto_region 1 with (fail)
      refine wp_gen (fun Wv => Bx Wv (w.heap.size) (39) (#[.int .i64 sl, .int .i64 g]) ∧ Below w.heap.size w Wv) ⟨((Bx.at_ (by simp))), ((Below.refl _ w).alloc (by simp <;> omega) _)⟩ ?_
      rintro wa1 ⟨g1, b⟩
      replace B := B.trans (b.mono B.size); clear b
      have c_g1 := g1.cell; have f_g1 := g1.free; have a_g1 := fun o => (g1.alloc o).cell; have d_g1 := fun o o2 => ((g1.alloc o).alloc o2).cell; have e_g1 := fun o => (g1.alloc o).free
      go_wp2_with fail
      refine (CK.out _ (H.out.below B)).mono ?_
      rintro e wa2 ⟨rfl, b⟩
      try clear c_g1 f_g1 a_g1 d_g1 e_g1
      replace g1 := g1.below b; have c_g1 := g1.cell; have f_g1 := g1.free; have a_g1 := fun o => (g1.alloc o).cell; have d_g1 := fun o o2 => ((g1.alloc o).alloc o2).cell; have e_g1 := fun o => (g1.alloc o).free; replace B := B.trans (b.mono B.size); clear b
      go_wp2_with fail
      refine (ST.out _ (H.out.below B)).mono ?_
      rintro e wa3 ⟨xs, rfl, os, b⟩
      try clear c_g1 f_g1 a_g1 d_g1 e_g1
      replace g1 := g1.below b; have c_g1 := g1.cell; have f_g1 := g1.free; have a_g1 := fun o => (g1.alloc o).cell; have d_g1 := fun o o2 => ((g1.alloc o).alloc o2).cell; have e_g1 := fun o => (g1.alloc o).free; replace B := B.trans (b.mono B.size); clear b
      go_wp2_with fail
      refine (RT.out _ _ os.rd).mono ?_
      rintro e wa4 ⟨rfl, b⟩
      try clear c_g1 f_g1 a_g1 d_g1 e_g1
      replace g1 := g1.below b; have c_g1 := g1.cell; have f_g1 := g1.free; have a_g1 := fun o => (g1.alloc o).cell; have d_g1 := fun o o2 => ((g1.alloc o).alloc o2).cell; have e_g1 := fun o => (g1.alloc o).free; replace os := os.below b; replace B := B.trans (b.mono B.size); clear b
      go_wp2
      go_ret2
      exact ⟨rfl, B⟩
    case pos =>
      subst h1; subst hra
      have ha : askI l sl g = 0 := hr.symm
      obtain ⟨k, a, nn, q, b, t, rfl, hh⟩ := Hd.of ha
      have hpa : p = (a : Int) := by rw [hp]; exact hh.hati
      subst hpa
      have hS16 : S.length = 16 := by rw [hS]; exact slots_len' rt.sl
      have hk16 := hh.hk
      have hSk : S[k]? = some ⟨g, true, a⟩ := by rw [hS]; exact hh.hs
      have HSK := Lib.hid hSk; have HS16 := Lib.hid hS16
      clear hp hr hno h hc hd rt hS hh ha hSk hS16
      go_enter Tryz.func57, Tryz.ntmps57
      go_upto_region 1 with (fail)
      refine wp_gen (fun Wv => Bx Wv (w.heap.size) (39) (#[.int .i64 k, .int .i64 g]) ∧ Below w.heap.size w Wv) ⟨((Bx.at_ (by simp))), ((Below.refl _ w).alloc (by simp <;> omega) _)⟩ ?_
      rintro wa1 ⟨g1, b⟩
      replace B := B.trans (b.mono B.size); clear b
      have c_g1 := g1.cell; have f_g1 := g1.free; have a_g1 := fun o => (g1.alloc o).cell; have d_g1 := fun o o2 => ((g1.alloc o).alloc o2).cell; have e_g1 := fun o => (g1.alloc o).free
      go_wp2_with fail
      refine (CK.out _ (H.out.below B)).mono ?_
      rintro e wa2 ⟨rfl, b⟩
      try clear c_g1 f_g1 a_g1 d_g1 e_g1
      replace g1 := g1.below b; have c_g1 := g1.cell; have f_g1 := g1.free; have a_g1 := fun o => (g1.alloc o).cell; have d_g1 := fun o o2 => ((g1.alloc o).alloc o2).cell; have e_g1 := fun o => (g1.alloc o).free; replace B := B.trans (b.mono B.size); clear b
      go_wp2_with fail
      refine (ST.out _ (H.out.below B)).mono ?_
      rintro e wa3 ⟨xs, rfl, os, b⟩
      try clear c_g1 f_g1 a_g1 d_g1 e_g1
      replace g1 := g1.below b; have c_g1 := g1.cell; have f_g1 := g1.free; have a_g1 := fun o => (g1.alloc o).cell; have d_g1 := fun o o2 => ((g1.alloc o).alloc o2).cell; have e_g1 := fun o => (g1.alloc o).free; replace B := B.trans (b.mono B.size); clear b
      go_wp2_with fail
      refine (RT.out _ _ os.rd).mono ?_
      rintro e wa4 ⟨rfl, b⟩
      try clear c_g1 f_g1 a_g1 d_g1 e_g1
      replace g1 := g1.below b; have c_g1 := g1.cell; have f_g1 := g1.free; have a_g1 := fun o => (g1.alloc o).cell; have d_g1 := fun o o2 => ((g1.alloc o).alloc o2).cell; have e_g1 := fun o => (g1.alloc o).free; replace os := os.below b; replace B := B.trans (b.mono B.size); clear b
      obtain ⟨b8, o8, s, it, c0, c1, c2, hs⟩ := os.rd.at_ (P := Tryz.prog) Tryz.underlying29 size_slot (k := k) (by rw [HS16.out]; exact hk16)
      obtain rfl : s = ⟨g, true, a⟩ := by have := hs.out; rw [HSK.out] at this; injection this with e; exact e.symm
      dsimp only at c0 c1 c2
      clear hs os
      go_wp2
      go_ret2
      exact ⟨rfl, B⟩
end Go.Proofs.YtmbokdnndlnjkaaGreat
namespace Go.Proofs.YtmbokdnndlnjkaaGreat
open Go.RowKit
/-- a pointer to a handle, or none -/
def PtrH (w : World) (v : Value) (tt : Option (Int × Int)) : Prop := match tt with
  | none => v = .pointer none
  | some t => ∃ g, v = .pointer (some ⟨g, 0, none⟩) ∧ Bx w g 39 #[.int .i64 t.1, .int .i64 t.2]
theorem PtrH.below {w w' : World} {v : Value} {tt : Option (Int × Int)} (h : PtrH w v tt) (hb : Below w.heap.size w w') : PtrH w' v tt := by
  cases tt with
  | none => exact h
  | some t => obtain ⟨g, h1, h2⟩ := h; exact ⟨g, h1, h2.below hb⟩
end Go.Proofs.YtmbokdnndlnjkaaGreat
namespace Go.Proofs.YtmbokdnndlnjkaaGreat
open Go.RowKit L01 L02 L05 L06 L07 L13 L14 L15 L18 L19 L20
theorem ent_own {w : World} {base : Nat} {a : Int} {x : UInt64} (h : base ≤ w.heap.size) : OwnE (w.alloc (.cells #[.int .i64 a, .int .u64 x.toNat] 120)) base (.slice (some ⟨w.heap.size, 0, none⟩) 1 1) [(a, x)] :=
  ⟨rfl, .inr ⟨w.heap.size, 1, #[.int .i64 a, .int .u64 x.toNat], rfl, h, blk_new w _, Nat.le_refl _, by decide, rfl, rfl⟩⟩
end Go.Proofs.YtmbokdnndlnjkaaGreat
