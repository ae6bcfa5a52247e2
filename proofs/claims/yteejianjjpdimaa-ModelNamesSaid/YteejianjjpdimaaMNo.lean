/- Contracts of the functions that the laws 'N' reach, part 15. No condition. -/
import Derived.Test.YteejianjjpdimaaMNn
set_option linter.unusedVariables false
set_option linter.unusedSimpArgs false
namespace Go.Proofs.Yteejianjjpdimaa
open Go.RowKit L02 L13 L18 L20
/-- where an own object lies, its fields of the call's own -/
theorem OwnO.atW {w : World} {base : Nat} {v : Value} {L : List Ob} (h : OwnO w base v L) {n : Nat} {o : Ob} (ho : L[n]? = some o) :
    ∃ b q x, (∀ W, (Instr.indexAt 23 v (.int .i64 (n : Int))).run Try.prog W = .ok (.pointer (some ⟨b, q, none⟩)) W) ∧ w.cell? ⟨b, q, none⟩ = some (.int .i64 o.ty) ∧ w.cell? ⟨b, q + 1, none⟩ = some x ∧ OwnW w base 46 x o.fs := by
  obtain ⟨vs, h1, h2, h4, h5⟩ := h
  have hk : n < L.length := (List.getElem?_eq_some_iff.1 ho).1
  have hv : vs[n]? = some vs[n] := List.getElem?_eq_getElem (by omega)
  have hix := fun W => Rd.ixN (P := Try.prog) (Rd.of_own h2) Try.underlying23 size_obj hk W
  obtain ⟨b, q, c, rfl, hb, hc, hcell⟩ := Rd.form (Rd.of_own h2) (by omega)
  obtain ⟨c0, c1⟩ := obC_get ho hv
  exact ⟨b, q + n * 2, vs[n], fun W => hix W, hcell _ _ c0, hcell _ _ c1, h4 n _ _ hv ho⟩
set_option maxRecDepth 100000 in
set_option maxHeartbeats 16000000 in
theorem visit_any (m : Mo) (hc : chk m = 0) (b pf : Nat) (tv ov sv nv : Value) : ∀ (d : Nat) (ord : List Nat) (n : Nat) (rv : Value) (w : World) (out : List Nat), m.objs.length - ord.length = d → n < m.objs.length → ord.Nodup → (∀ x ∈ ord, x < m.objs.length) → Rs m ord [n] out →
    Fi b w pf tv ov sv nv rv m ord ord → b ≤ w.heap.size → Calls Try.prog 26 #[.pointer (some ⟨pf, 0, none⟩), .int .i64 n] w fun e w' => e = .returned (.tuple #[]) ∧ ∃ rv', Fi b w' pf tv ov sv nv rv' m out out ∧ FrT w w' ∧ Below b w w' := by
  obtain ⟨N, hN⟩ : ∃ N, N = m.objs.length := ⟨_, rfl⟩
  obtain ⟨k1, k2, k3⟩ := chk_ok hc
  have hN1 : N ≤ 960 := by rw [hN]; exact k2
  have HN := Lib.hid hN; have HC := Lib.hid hc; have HK := Lib.hid k3
  intro d
  induction d using Nat.strongRecOn with
  | ind d ih =>
  intro ord n rv w out hd hn hnd hol hrs hfi hbw
  have IH := Lib.hid ih
  clear ih hN k1 k2 k3 hc
  have c_g := hfi.g.cell
  obtain ⟨na, x, ia, mx, hx⟩ := (OwnI.rd hfi.hn).at_ (P := Try.prog) Try.underlying30 one_int (k := n) (by rw [numsI_len]; exact hn)
  have hxx := hx.out
  rw [numsI_get hn] at hxx
  by_cases hin : n ∈ ord
  · rw [if_pos hin] at hxx
    injection hxx with hxx
    subst hxx
    have hout : out = ord := by
      cases hrs with
      | seen _ h => cases h; rfl
      | new h _ => exact absurd hin h
    obtain ⟨id, hid⟩ : ∃ q, q = ord.idxOf n := ⟨_, rfl⟩
    rw [← hid] at mx
    have z1 : (0 : Int) < (id : Int) + 1 := by omega
    have HF := Lib.hid hfi
    clear hfi hx hid hin hrs IH
    go_enter Try.func26, Try.ntmps26
    go_wp2
    refine bodyPost_ret (results_none rfl _ _ _) rfl ?_
    refine ⟨rfl, rv, ?_, FrT.refl _, Below.refl _ _⟩
    rw [hout]; exact HF.out
  · rw [if_neg hin] at hxx
    injection hxx with hxx
    subst hxx
    have hrs2 : Rs m (ord ++ [n]) (kids m n) out := by
      cases hrs with
      | seen h _ => exact absurd h hin
      | new _ h => rw [List.append_nil] at h; exact h
    have hnd2 : (ord ++ [n]).Nodup := List.nodup_append.2 ⟨hnd, by simp, fun x hx y hy e => hin (by rw [← List.mem_singleton.1 hy, ← e]; exact hx)⟩
    have hol2 : ∀ x ∈ ord ++ [n], x < m.objs.length := fun x hx => by
      rcases List.mem_append.1 hx with h | h
      · exact hol x h
      · rw [List.mem_singleton.1 h]; exact hn
    have hlen := nodup_lt hnd2 hol2
    rw [List.length_append, List.length_singleton] at hlen
    obtain ⟨L, hL⟩ : ∃ L, L = ord.length := ⟨_, rfl⟩
    have HL := Lib.hid hL
    have hL1 : L + 1 ≤ N := by rw [HN.out, hL]; exact hlen
    have hNL : (natI ord).length = L := by rw [natI_len, hL]
    have HNL := Lib.hid hNL
    obtain ⟨o, ho⟩ : ∃ o, m.objs[n]? = some o := ⟨_, List.getElem?_eq_getElem hn⟩
    have hoo := HK.out.2.2.1 o (List.mem_of_getElem? ho)
    obtain ⟨q, hq⟩ := Int.eq_ofNat_of_zero_le hoo.1.1
    have hqt : q < m.types.length := by have := hoo.1.2; omega
    obtain ⟨t, ht⟩ : ∃ t, m.types[q]? = some t := ⟨_, List.getElem?_eq_getElem hqt⟩
    have htt : ty m.types o = t := by rw [ty, hq]; simp [List.getD_eq_getElem?_getD, ht]
    obtain ⟨nf, hnf⟩ : ∃ N, N = o.fs.length := ⟨_, rfl⟩
    have hlt2 : nf = t.length := by rw [hnf, hoo.2.1, htt]
    have hnf20 : nf ≤ 20 := by rw [hnf]; exact (small_chk HC.out).2.2.2.2 o (List.mem_of_getElem? ho)
    have HOB := Lib.hid (show ob m n = o from ob_at ho)
    have HRS := Lib.hid (show Rs m (ord ++ [n]) (kidsTo m o o.fs.length) out by rw [← HOB.out]; exact hrs2)
    have HO := Lib.hid hoo; have HOI := Lib.hid ho; have HTT := Lib.hid htt; have HNF := Lib.hid hnf; have HLT := Lib.hid hlt2; have HQ := Lib.hid hq; have HT := Lib.hid ht
    have HIN := Lib.hid hin; have HND := Lib.hid (And.intro hnd2 hol2); have HNN := Lib.hid hn; have HD := Lib.hid hd
    have HF := Lib.hid hfi
    clear hoo ho htt hnf hlt2 hq ht hqt hfi hx hin hrs hrs2 hnd hol hnd2 hol2 hlen hL hNL hn hd
    go_enter Try.func26, Try.ntmps26
    go_upto_region 1 with (fail)
    clear mx ia
    go_wp2_with (at_builtin; refine wpList_append2 (by rfl) rfl rfl rfl Try.underlying30 info_int rfl (by omega) (by exact own_below HF.out.hr (lit_b w n)) (by exact lit_rd) (by simp [Value.oneCell']) (by omega) (by rw [HNL.out]; omega) (by rw [HNL.out]; omega) (by exact (Below.refl b w).alloc hbw _) hbw ?_; intro v1 w1 o1 b1 g1 n1; obtain ⟨vA, vn1, vc, rfl⟩ : ∃ A n c, v1 = .slice A n c := by { obtain ⟨A, c, e⟩ := own_form' o1; exact ⟨A, _, c, e⟩ }; have FP := Lib.hid (HF.out.push hbw o1 g1 n1); clear o1 b1 g1 n1; have c_g1 := FP.out.1.cell; have f_g1 := FP.out.1.free; clear c_g)
    refine wp_gen (fun Wv => Fi b Wv pf tv ov sv nv (.slice vA vn1 vc) m ord (ord ++ [n]) ∧ FrT w Wv ∧ Below b w Wv) FP.out.2 ?_
    clear FP c_g1 f_g1
    rintro w2 ⟨f2, t2, b2⟩
    have f2d := f2.below ((Below.refl _ w2).drew)
    obtain ⟨gs, ix, mc, mf, f3, t3, hgB⟩ := f2d.num HIN.out HNN.out
    obtain ⟨u0, hu0⟩ := Option.isSome_iff_exists.1 mc
    have ln := Rd.len (OwnI.rd f2.hr) Try.underlying30
    rw [show (natI (ord ++ [n])).length = L + 1 by rw [natI_len, List.length_append, ← HL.out]; rfl] at ln
    have c2 := f2.g.cell
    have FX := Lib.hid (And.intro f3 (And.intro (t2.trans ((FrT.of_below ((Below.refl _ w2).drew)).trans t3)) ((b2.drew).setCell (p := ⟨gs, n, none⟩) hgB (.int .i64 ((ord.length : Int) + 1)))))
    rw [← HL.out] at FX
    clear f2 f2d f3 t2 t3 b2 mc hgB w1 HF
    refine wp_region_qtail 11 (by kernel_rfl) (by kernel_rfl) ?_
    simp only [List.take_succ_cons, List.take_zero, List.drop_succ_cons, List.drop_zero]
    iterate 11 (go_big_quiet_step (fail))
    refine wpQuiet_nil ?_
    clear c2 ln ix
    go_upto_region 3 with (fail)
    refine wp_gen (fun Wv => Fi b Wv pf tv ov sv nv (.slice vA vn1 vc) m (ord ++ [n]) (ord ++ [n]) ∧ FrT w Wv ∧ Below b w Wv) ?_ ?_
    · exact FX.out
    clear FX hu0 mf w2
    rintro w3 ⟨f3, t3, b3⟩
    obtain ⟨bo, bq, x0, ixo, p0, p1, ow⟩ := f3.om.o.atW HOI.out
    obtain ⟨xA, xn, xc, rfl⟩ : ∃ A n c, x0 = .slice A n c := by obtain ⟨A, c, e⟩ := own_form' ow; exact ⟨A, _, c, e⟩
    rw [HQ.out] at p0
    have c_g := f3.g.cell
    have hp3 := f3.g.lt
    have hbw3 : b ≤ w3.heap.size := Nat.le_trans hbw t3.1
    go_upto_region 4 with (fail)
    have bz := (Below.refl w3.heap.size w3).alloc (Nat.le_refl _) (.cells #[.int .i64 (q : Int), .slice xA xn xc] 45)
    refine wp_gen (fun Wv => Fi b Wv pf tv ov sv nv (.slice vA vn1 vc) m (ord ++ [n]) (ord ++ [n]) ∧ FrT w Wv ∧ Below b w Wv ∧ Bx Wv w3.heap.size 45 #[.int .i64 q, .slice xA xn xc] ∧ OwnW Wv b 46 (.slice xA xn xc) o.fs ∧ w3.heap.size < Wv.heap.size) ⟨f3.below bz, t3.trans (FrT.of_below bz), b3.trans (bz.mono hbw3), Bx.new w3 _ _, own_below ow bz, by simp⟩ ?_
    clear f3 t3 b3 ow p0 p1 ixo c_g bz
    generalize w3.heap.size = p4 at *
    clear w3
    rintro w4 ⟨f4, t4, b4, g4, ow, hz4⟩
    obtain ⟨ad, yt, iy, m3, oy⟩ := f4.om.t.atB HT.out
    have c_g := f4.g.cell
    have c_4 := g4.cell
    have ly := Rd.len (OwnB.rd oy) Try.underlying41
    rw [← HLT.out] at ly
    have F4 := Lib.hid (And.intro f4 (And.intro t4 (And.intro b4 (And.intro g4 (And.intro ow (And.intro oy hz4))))))
    clear f4 t4 b4 g4 ow oy
    go_big_quiet (fail)
    clear c_g c_4 m3 iy
    have bq := (Below.refl w4.heap.size w4).drew
    have F5 := Lib.hid (show Fi b (w4.drewN nq) pf tv ov sv nv (.slice vA vn1 vc) m (ord ++ [n]) (ord ++ [n]) ∧ FrT w (w4.drewN nq) ∧ Below b w (w4.drewN nq) ∧ Bx (w4.drewN nq) p4 45 #[.int .i64 q, .slice xA xn xc] ∧ OwnW (w4.drewN nq) b 46 (.slice xA xn xc) o.fs ∧ OwnB (w4.drewN nq) b 5 yt t ∧ p4 < (w4.drewN nq).heap.size from by
      obtain ⟨f4, t4, b4, g4, ow, oy, hz⟩ := F4.out
      have bz := below_drewN (Below.refl w4.heap.size w4) nq
      exact ⟨f4.below bz, t4.trans (FrT.of_below bz), b4.trans (bz.mono (Nat.le_trans hbw t4.1)), g4, ow, oy, hz⟩)
    have HBW := Lib.hid hbw
    clear F4 bq
    go_wp2
    go_loopg [54] nf (fun gg i wr => ∃ k : Nat, k ≤ nf ∧ gg = nf - k ∧ i = .int .i64 k ∧ Hid (∃ mid rv', Rs m (ord ++ [n]) (kidsTo m o k) mid ∧ Fi b wr pf tv ov sv nv rv' m mid mid ∧ FrT w wr ∧ Below b w wr ∧ Bx wr p4 45 #[.int .i64 q, .slice xA xn xc] ∧ OwnW wr b 46 (.slice xA xn xc) o.fs ∧ OwnB wr b 5 yt t ∧ p4 < wr.heap.size))
    case atStart => exact ⟨0, by omega, by omega, rfl, Lib.hid ⟨_, _, .nil _, F5.out⟩⟩
    case round =>
      clear F5
      obtain ⟨k, hk, rfl, rfl, hh⟩ := hrel
      obtain ⟨mid, rv', hmid, f, tt, bb, g4, ow, oy, hz⟩ := hh.out
      by_cases hlt : k < nf
      · have c_4 := g4.cell
        obtain ⟨bd, kk, ib, m4, hkk⟩ := ((OwnB.rd oy).at_ (P := Try.prog) Try.underlying41 one_u8 (k := k) (by have := HLT.out; omega))
        obtain ⟨cd, v, ic, m5, hv⟩ := ((OwnW.rd ow).at_ (P := Try.prog) Try.underlying43 one_u64 (k := k) (by have := HNF.out; omega))
        have hkd : (ty m.types o).getD k 0 = kk := by rw [HTT.out]; simp [List.getD_eq_getElem?_getD, hkk.out]
        have hvd : o.fs.getD k 0 = v := by simp [List.getD_eq_getElem?_getD, hv.out]
        have hkid : kidAt m o k = if kk.toNat = 3 ∧ 0 < v.toNat then some (v.toNat - 1) else none := by rw [kidAt, hkd, hvd]
        have hvl : kk.toNat = 3 → v.toNat ≤ N := fun h => by
          have := HO.out.2.2 k (by have := HNF.out; omega)
          rw [hkd, hvd] at this
          have := this.2 h
          rw [HN.out]; exact this
        obtain ⟨vn, hvn⟩ : ∃ q, q = v.toNat := ⟨_, rfl⟩
        rw [← hvn] at m5 hkid hvl
        clear hkk hv hkd hvd hvn
        by_cases h3 : kk.toNat = 3
        · have k3 : ((kk.toNat : Int) == 3) = true := by rw [beq_iff_eq]; omega
          by_cases h0 : 0 < vn
          · rw [if_pos ⟨h3, h0⟩] at hkid
            obtain ⟨c, rfl⟩ : ∃ c, vn = c + 1 := ⟨vn - 1, by omega⟩
            rw [Nat.add_sub_cancel] at hkid
            have hcl : c < N := by have := hvl h3; omega
            have m5' : wr.cell? cd = some (.int .u64 ((c : Int) + 1)) := by rw [m5]; rfl
            have z1 : ((c : Int) + 1 != 0) = true := by rw [bne_iff_ne]; omega
            have z2 : IntKind.u64.wrap (c : Int) = (c : Int) := by show (c : Int) % 18446744073709551616 = _; omega
            have z3 : IntKind.i64.wrap (c : Int) = (c : Int) := IntWalk.i64_in _ (by omega)
            obtain ⟨mid2, r1, r2⟩ := HRS.out.kid (by have := HNF.out; omega) hmid hkid
            have hpre := hmid.pre.length_le
            rw [List.length_append, List.length_singleton] at hpre
            have hND2 := hmid.nodup HND.out.1
            have hol3 := hmid.all (p := fun x => x < m.objs.length) (kids_lt HC.out) HND.out.2 (fun x hx => by
              rw [kidsTo, List.mem_filterMap] at hx
              obtain ⟨i, hi, hx⟩ := hx
              have hi := List.mem_range.1 hi
              have h1 := kidAt_some hx
              have := (HO.out.2.2 i (by have := HNF.out; omega)).2 h1.1
              omega)
            have hln : (ord ++ [n]).length ≤ m.objs.length := nodup_lt HND.out.1 HND.out.2
            rw [List.length_append, List.length_singleton] at hln
            have CL := Lib.hid (IH.out (m.objs.length - mid.length) (by rw [← HD.out]; omega) mid c rv' wr mid2 rfl (by rw [← HN.out]; exact hcl) hND2 hol3 r1 f (Nat.le_trans HBW.out tt.1))
            have HR2 := Lib.hid r2
            have HG := Lib.hid (And.intro tt (And.intro bb (And.intro g4 (And.intro ow (And.intro oy hz)))))
            clear hh hmid f tt bb g4 ow oy hz hkid m5 hvl h3 h0 r1 r2 hpre hND2 hol3 hln
            go_wp2_with fail
            refine CL.out.mono ?_
            rintro e wf ⟨rfl, rv2, f, t2, b2⟩
            obtain ⟨tt, bb, g4, ow, oy, hz⟩ := HG.out
            have HJ := Lib.hid (And.intro HR2.out (And.intro f (And.intro (tt.trans t2) (And.intro (bb.trans b2) (And.intro (g4.frT t2 (by decide) (by decide)) (And.intro (own_frT ow t2 (by decide) (by decide)) (And.intro (own_frT oy t2 (by decide) (by decide)) (Nat.lt_of_lt_of_le hz t2.1))))))))
            clear f t2 b2 tt bb g4 ow oy hz HG CL HR2
            go_wp2
            go_roundg (nf - (k + 1))
            case measure => omega
            case rel => exact ⟨k + 1, by omega, rfl, by go_num, Lib.hid ⟨_, _, HJ.out⟩⟩
          · obtain rfl : vn = 0 := by omega
            rw [if_neg (by omega)] at hkid
            have m5' : wr.cell? cd = some (.int .u64 0) := by rw [m5]; rfl
            have HJ := Lib.hid (show Rs m (ord ++ [n]) (kidsTo m o (k + 1)) mid by rw [kidsTo_step, hkid, List.append_nil]; exact hmid)
            have HG := Lib.hid (And.intro f (And.intro tt (And.intro bb (And.intro g4 (And.intro ow (And.intro oy hz))))))
            clear hh hmid f tt bb g4 ow oy hz hkid m5 hvl h0
            go_wp2
            go_roundg (nf - (k + 1))
            case measure => omega
            case rel => exact ⟨k + 1, by omega, rfl, by go_num, Lib.hid ⟨_, _, HJ.out, HG.out⟩⟩
        · have k3 : ((kk.toNat : Int) == 3) = false := by rw [beq_eq_false_iff_ne]; omega
          rw [if_neg (fun h => h3 h.1)] at hkid
          have HJ := Lib.hid (show Rs m (ord ++ [n]) (kidsTo m o (k + 1)) mid by rw [kidsTo_step, hkid, List.append_nil]; exact hmid)
          have HG := Lib.hid (And.intro f (And.intro tt (And.intro bb (And.intro g4 (And.intro ow (And.intro oy hz))))))
          clear hh hmid f tt bb g4 ow oy hz hkid hvl h3
          go_wp2
          go_roundg (nf - (k + 1))
          case measure => omega
          case rel => exact ⟨k + 1, by omega, rfl, by go_num, Lib.hid ⟨_, _, HJ.out, HG.out⟩⟩
      · obtain rfl : k = nf := by omega
        have hfin : mid = out := by
          have := HRS.out
          rw [← HNF.out] at this
          exact hmid.det this
        subst hfin
        have HJ := Lib.hid (And.intro f (And.intro tt bb))
        clear hh hmid f tt bb g4 ow oy hz
        go_wp2
        refine bodyPost_end (results_none rfl _ _ _) rfl ?_
        exact ⟨rfl, rv', HJ.out⟩
end Go.Proofs.Yteejianjjpdimaa
namespace Go.Proofs.Yteejianjjpdimaa
open Go.RowKit L02 L13 L18 L20
def rootsTo (m : Mo) (j : Nat) : List Nat := (m.slots.take j).filterMap rootOf
theorem rootsTo_step {m : Mo} {j : Nat} {s : Sl} (hs : m.slots[j]? = some s) : rootsTo m (j + 1) = rootsTo m j ++ (match rootOf s with | none => [] | some c => [c]) := by
  rw [rootsTo, List.take_add_one, hs, List.filterMap_append]
  congr 1
  cases h : rootOf s <;> simp [h]
theorem rootsTo_end {m : Mo} {j : Nat} (h : m.slots.length ≤ j) : rootsTo m j = roots m := by rw [rootsTo, List.take_of_length_le h]; rfl
theorem roots_split (m : Mo) (j : Nat) : roots m = rootsTo m j ++ rootsFrom m j := by
  rw [rootsTo, rootsFrom, ← List.filterMap_append, List.take_append_drop]; rfl
set_option maxRecDepth 100000 in
set_option maxHeartbeats 8000000 in
theorem roots_any (m : Mo) (hc : chk m = 0) (b pf : Nat) (tv ov sv nv rv : Value) (out : List Nat) (hr : Rs m [] (roots m) out) (w : World) (hfi : Fi b w pf tv ov sv nv rv m [] []) (hbw : b ≤ w.heap.size) :
    Calls Try.prog 25 #[.agg #[tv, ov, sv], .func (.func 26) #[.pointer (some ⟨pf, 0, none⟩)] #[]] w fun e w' => e = .returned (.tuple #[]) ∧ ∃ rv', Fi b w' pf tv ov sv nv rv' m out out ∧ FrT w w' ∧ Below b w w' := by
  obtain ⟨k1, k2, k3⟩ := chk_ok hc
  have HC := Lib.hid hc; have HK := Lib.hid k3; have HR := Lib.hid hr
  obtain ⟨⟨tA, tn, tc, rfl⟩, ⟨oA, on, oc, rfl⟩, ⟨sA, sn, sc, rfl⟩⟩ := hfi.om.forms
  obtain ⟨gS, sc', hS1⟩ : ∃ g c, Value.slice sA sn sc = .slice (some ⟨g, 0, none⟩) 16 c := by obtain ⟨g, n, c, e, e2⟩ := hfi.om.s.form (by have := k3.1; omega); rw [e2, k3.1] at e; exact ⟨g, c, e⟩
  cases hS1
  clear hc k1 k2 k3 hr
  go_enter Try.func25, Try.ntmps25
  go_upto_region 1 with (fail)
  have bz := (Below.refl w.heap.size w).alloc (Nat.le_refl _) (.cells #[.slice tA tn tc, .slice oA on oc, .slice (some ⟨gS, 0, none⟩) 16 sc] 26)
  refine wp_gen (fun Wv => Bx Wv w.heap.size 26 #[.slice tA tn tc, .slice oA on oc, .slice (some ⟨gS, 0, none⟩) 16 sc] ∧ Fi b Wv pf (.slice tA tn tc) (.slice oA on oc) (.slice (some ⟨gS, 0, none⟩) 16 sc) nv rv m [] [] ∧ FrT w Wv ∧ Below b w Wv) ⟨Bx.at_ (by simp), hfi.below bz, FrT.of_below bz, bz.mono hbw⟩ ?_
  clear bz hfi
  rintro wa ⟨g1, f0, t0, b0⟩
  have c_g1 := g1.cell
  have H0 := Lib.hid (And.intro f0 (And.intro t0 b0))
  clear g1 f0 t0 b0
  go_wp2
  clear c_g1
  go_loopg [9] 16 (fun gg i wr => ∃ j : Nat, j ≤ 16 ∧ gg = 16 - j ∧ i = .int .i64 j ∧ Hid (∃ mid rv', Rs m [] (rootsTo m j) mid ∧ Fi b wr pf (.slice tA tn tc) (.slice oA on oc) (.slice (some ⟨gS, 0, none⟩) 16 sc) nv rv' m mid mid ∧ FrT w wr ∧ Below b w wr))
  case atStart => exact ⟨0, by omega, by omega, rfl, Lib.hid ⟨_, _, .nil _, H0.out⟩⟩
  case round =>
    clear H0
    obtain ⟨j, hj, rfl, rfl, hh⟩ := hrel
    obtain ⟨mid, rv', hmid, f, tt, bb⟩ := hh.out
    by_cases hlt : j < 16
    · obtain ⟨s, hs⟩ : ∃ s, m.slots[j]? = some s := ⟨_, List.getElem?_eq_getElem (by rw [HK.out.1]; exact hlt)⟩
      obtain ⟨ix, q0, q1, q2⟩ := OwnS.cells f.om.s hs
      have hso := HK.out.2.2.2 s (List.mem_of_getElem? hs)
      have hst := rootsTo_step hs
      have hsf := rootsFrom_step hs
      have hbr : b ≤ wr.heap.size := Nat.le_trans hbw tt.1
      have bz := (Below.refl wr.heap.size wr).alloc (Nat.le_refl _) (.cells #[.int .i64 s.gen, .bool s.used, .int .i64 s.at_] 48)
      have HX := Lib.hid (And.intro (f.below bz) (And.intro (tt.trans (FrT.of_below bz)) (bb.trans (bz.mono hbr))))
      have HM := Lib.hid hmid
      clear hh f tt bb hmid bz hs
      go_upto_region 4 with (fail)
      refine wp_gen (fun Wv => Bx Wv wr.heap.size 48 #[.int .i64 s.gen, .bool s.used, .int .i64 s.at_] ∧ Fi b Wv pf (.slice tA tn tc) (.slice oA on oc) (.slice (some ⟨gS, 0, none⟩) 16 sc) nv rv' m mid mid ∧ FrT w Wv ∧ Below b w Wv) ⟨Bx.new wr _ _, HX.out⟩ ?_
      clear HX ix q0 q1 q2 hbr
      rintro w3 ⟨g5, f, tt, bb⟩
      have c5 := g5.cell
      cases hu : s.used
      · rw [hu] at c5
        rw [show rootOf s = none by rw [rootOf, hu]; rfl] at hst
        have HJ := Lib.hid (show Rs m [] (rootsTo m (j + 1)) mid by rw [hst, List.append_nil]; exact HM.out)
        have HG := Lib.hid (And.intro f (And.intro tt bb))
        clear hst hsf hso HM g5 f tt bb
        go_wp2
        go_roundg (16 - (j + 1))
        case measure => omega
        case rel => exact ⟨j + 1, by omega, rfl, by go_num, Lib.hid ⟨_, _, HJ.out, HG.out⟩⟩
      · rw [hu] at c5
        obtain ⟨a1, a2, a3⟩ := hso.2.2 hu
        obtain ⟨x, hx⟩ := Int.eq_ofNat_of_zero_le a2
        rw [hx] at c5
        rw [show rootOf s = some x by rw [rootOf, hu, hx]; rfl] at hst hsf
        have hxl : x < m.objs.length := by omega
        have hall : Rs m [] (rootsTo m j ++ ([x] ++ rootsFrom m (j + 1))) out := by rw [← hsf, ← roots_split]; exact HR.out
        obtain ⟨mid', e1, e2⟩ := hall.app rfl
        obtain rfl := e1.det HM.out
        obtain ⟨mid2, e3, e4⟩ := e2.app rfl
        have hnd := e1.nodup List.nodup_nil
        have hol := e1.all (p := fun x => x < m.objs.length) (kids_lt HC.out) (by simp) (fun n hn => roots_lt HC.out n (by rw [roots_split m j]; exact List.mem_append_left _ hn))
        have CL := Lib.hid (visit_any m HC.out b pf _ _ _ nv _ mid' x rv' w3 mid2 rfl hxl hnd hol e3 f (Nat.le_trans hbw tt.1))
        have HJ := Lib.hid (show Rs m [] (rootsTo m (j + 1)) mid2 by rw [hst]; exact e1.join e3)
        have HT := Lib.hid (And.intro tt bb)
        clear hst hsf hso HM g5 f tt bb a1 a2 a3 hx hall e1 e2 e3 e4 hnd hol
        go_wp2_with fail
        refine CL.out.mono ?_
        rintro e wf ⟨rfl, rv2, f, t2, b2⟩
        have HG := Lib.hid (And.intro f (And.intro (HT.out.1.trans t2) (HT.out.2.trans b2)))
        clear f t2 b2 HT CL c5
        go_wp2
        go_roundg (16 - (j + 1))
        case measure => omega
        case rel => exact ⟨j + 1, by omega, rfl, by go_num, Lib.hid ⟨_, _, HJ.out, HG.out⟩⟩
    · obtain rfl : j = 16 := by omega
      rw [rootsTo_end (by rw [HK.out.1]; exact Nat.le_refl _)] at hmid
      obtain rfl := hmid.det HR.out
      have HG := Lib.hid (And.intro f (And.intro tt bb))
      clear hh f tt bb hmid
      go_wp2
      refine bodyPost_end (results_none rfl _ _ _) rfl ?_
      exact ⟨rfl, rv', HG.out⟩
end Go.Proofs.Yteejianjjpdimaa
namespace Go.Proofs.Yteejianjjpdimaa
open Go Go.RowKit
section
variable {P : Program} {ops : Array Oper} {md : Region.Mode} {C : Array Bool → World → Prop} {nn : Nat → Bool} {x : Nat → Value} {T : Nat → Sem Next → Prop}
def wpAnyH (P : Program) (md : Region.Mode) (ops : Array Oper) (C : Array Bool → World → Prop) (nn : Nat → Bool) (x : Nat → Value) (T : Nat → Sem Next → Prop) (n : Nat) (L : Array Bool → Act → Prop) : Nat → Array Bool → Act → Prop
  | 0, listed, a => L listed a
  | f + 1, listed, a =>
    Region.ready md ops listed ≠ [] ∧ ∀ i ∈ Region.ready md ops listed, i < n ∧ qOpM P md ops C nn x T i (wpAnyH P md ops C nn x T n L f (listed.setIfInBounds i true)) a
theorem wpAnyH_first {n i : Nat} {oi : Oper} {v : Value} {L : Array Bool → Act → Prop} (hi : ops[i]? = some oi) (hsel : ∀ (j : Nat) (o : Oper) cs b, ops[j]? = some o → o.op ≠ .select cs b)
    (hs : Region.sinkB md ops n = true) (hc : Region.chainB md ops n = true) (hn : n < ops.size) (hin : i < n)
    (hdone : ∀ listed a, L listed a → ∀ j ∈ Region.ready md ops listed, n ≤ j) :
    ∀ (f : Nat) (listed : Array Bool) (a : Act), HeadInv md ops n listed →
      (∀ j oj, ops[j]? = some oj → j ≠ i → listed.getD j true = false → (∀ e ∈ oj.after, Region.binds md e = true → e.on ≠ i) → oi.apart ops oj = true) →
      i ∈ Region.ready md ops listed → YieldsM P md ops C nn x i oi v a ∧ (nn i = true → T i (execOp a.eval oi)) →
      wpAnyH P md ops C nn x T n L f (listed.setIfInBounds i true) (a.put oi.dst v) → wpAnyH P md ops C nn x T n L (f + 1) listed a := by
  intro f
  induction f with
  | zero =>
    intro listed a inv _ hr hy H
    have hun := (mem_ready.1 hr).1
    refine ⟨fun h => (by rw [h] at hr; cases hr), fun j hj => ?_⟩
    have hjn : j < n := by
      rcases Nat.lt_or_ge j n with h | h
      · exact h
      · exact absurd hj (tail_waits hs hc hn inv _ i rfl hin hun j h)
    refine ⟨hjn, ?_⟩
    by_cases hji : j = i
    · subst hji; unfold qOpM; simp only [hi]; exact ⟨v, hy, H⟩
    · have := hdone _ _ H j (ready_mono hj hji)
      omega
  | succ f ih =>
    intro listed a inv hfree hr hy H
    have hun := (mem_ready.1 hr).1
    refine ⟨fun h => (by rw [h] at hr; cases hr), fun j hj => ?_⟩
    have hjn : j < n := by
      rcases Nat.lt_or_ge j n with h | h
      · exact h
      · exact absurd hj (tail_waits hs hc hn inv _ i rfl hin hun j h)
    refine ⟨hjn, ?_⟩
    by_cases hji : j = i
    · subst hji; unfold qOpM; simp only [hi]; exact ⟨v, hy, H⟩
    · have h1 := (H.2 j (ready_mono hj hji)).2
      obtain ⟨hjun, oj, hoj, hall⟩ := mem_ready.1 hj
      have hnot : ∀ e ∈ oj.after, Region.binds md e = true → e.on ≠ i := fun e he hb heq => by
        have h1 := hall e he hb
        rw [heq, getD_both hun] at h1
        cases h1
      have h2 := qOpM_put hoj (hfree j oj hoj hji hjun hnot) (fun cs b => hsel i oi cs b hi) (fun cs b => hsel j oj cs b hoj) hy h1
      have hfree' : ∀ k ok, ops[k]? = some ok → k ≠ i → (listed.setIfInBounds j true).getD k true = false →
          (∀ e ∈ ok.after, Region.binds md e = true → e.on ≠ i) → oi.apart ops ok = true := fun k ok hk hki hun hno => by
        refine hfree k ok hk hki ?_ hno
        by_cases hjk : j = k
        · subst hjk; exact hjun
        · rw [getD_set_ne true hjk] at hun; exact hun
      refine qOpM_mono (fun a' h3 => ih (listed.setIfInBounds j true) a' (inv.set hj hjn) hfree' (ready_mono hr (Ne.symm hji)) h3.1 ?_) h2
      rw [Array.setIfInBounds_comm _ _ hji]
      exact h3.2
theorem wpAnyH_lex {n g : Nat} {Lq : Act → Prop} (hsel : Region.noSelect ops = true) (hs : Region.sinkB md ops n = true) (hc : Region.chainB md ops n = true) (hn : n < ops.size) :
    ∀ (l : List Oper) (k : Nat) (listed : Array Bool) (a : Act), (∀ j, j < l.length → l[j]? = ops[k + j]?) → k + l.length = n → HeadInv md ops n listed → (∀ j, j < k → listed.getD j false = true) →
    Region.lexHead md ops g l.length k listed = true → wpM P md ops C nn x T Lq l k a →
    wpAnyH P md ops C nn x T n (fun listed' a' => Region.seqB md ops g n listed' = true ∧ (∀ j, j < n → listed'.getD j false = true) ∧ Lq a') l.length listed a
  | [], k, listed, a, _, hk, _, hd, hB, h => by
    have : k = n := by simpa using hk
    subst this
    exact ⟨by simpa [Region.lexHead] using hB, hd, h⟩
  | o :: l, k, listed, a, hl, hk, inv, hd, hB, h => by
    have h0 : ops[k]? = some o := by simpa using (hl 0 (by simp)).symm
    simp only [List.length_cons, Region.lexHead, Bool.and_eq_true] at hB
    obtain ⟨⟨hr, hf⟩, hB'⟩ := hB
    have hkn : k < n := by simp only [List.length_cons] at hk; omega
    have hr' : k ∈ Region.ready md ops listed := by simpa using hr
    obtain ⟨v, hy, hK⟩ := h
    have hun := (mem_ready.1 hr').1
    exact wpAnyH_first h0 (Region.noSelect_spec hsel) hs hc hn hkn (fun listed' a' hL => seqB_ready hL.1) l.length listed a inv (Region.free_spec h0 hf) hr' hy
      (wpAnyH_lex hsel hs hc hn l (k + 1) _ _ (fun j hj => by have := hl (j + 1) (by simp; omega); simpa [Nat.add_assoc, Nat.add_comm 1 j] using this) (by simp only [List.length_cons] at hk; omega) (inv.set hr' hkn) (fun j hj => by
        by_cases hjk : j = k
        · subst hjk; exact (getD_on hun).2
        · rw [getD_set_ne false (Ne.symm hjk)]; exact hd j (by omega)) hB' hK)
theorem wpAny_of_H {G : Type} {val : G → Nat → Value} {V : G → Prop} {Ag : Array Bool → G → G → Prop} {Cg : G → Array Bool → World → Prop} {Tg : G → Nat → Sem Next → Prop} {Q' : Exit → Act → World → Prop} {n gt : Nat} {L : G → Array Bool → Act → Prop}
    (hL : ∀ g l a w, Cg g l w → L g l a → wpAny P md ops Q' gt l a w)
    (hrf : ∀ (l : Array Bool) g, Ag l g g) (htr : ∀ (l : Array Bool) g g' g'', Ag l g g' → Ag l g' g'' → Ag l g g'') (hmn : ∀ (l : Array Bool) i g g', Ag (l.setIfInBounds i true) g g' → l.getD i true = false → Ag l g g')
    (hvl : ∀ (l : Array Bool) i g g', nn i = true → l.getD i true = false → Ag (l.setIfInBounds i true) g g' → val g i = val g' i) (hag : ∀ (l : Array Bool) g g' w, Ag l g g' → Cg g l w → Cg g' l w)
    (hT : ∀ i s (l : Array Bool) w g, nn i = true → Tg g i s → V g → i ∈ Region.ready md ops l → Cg g l w → uponN P (fun v w' => ∃ g', V g' ∧ Ag l g g' ∧ v = val g' i ∧ Cg g' (l.setIfInBounds i true) w') (s.run P w)) :
    ∀ (fuel : Nat) (l : Array Bool) (a : Act) (w : World) (g0 : G), V g0 → Cg g0 l w →
    (∀ g, V g → Ag l g0 g → wpAnyH P md ops (Cg g) nn (val g) (Tg g) n (L g) fuel l a) → wpAny P md ops Q' (fuel + gt) l a w
  | 0, l, a, w, g0, hg0, hC, h => by rw [Nat.zero_add]; exact hL g0 l a w hC (h g0 hg0 (hrf _ _))
  | fuel + 1, l, a, w, g0, hg0, hC, h => by
    rw [show fuel + 1 + gt = (fuel + gt) + 1 by omega]
    refine ⟨fun h0 => absurd h0 (h g0 hg0 (hrf _ _)).1, fun i hi => ?_⟩
    have hun := (mem_ready.1 hi).1
    have h1 := ((h g0 hg0 (hrf _ _)).2 i hi).2
    unfold qOpM at h1
    unfold wpOp
    split
    · rename_i ho; simp only [ho] at h1
    · rename_i o ho
      simp only [ho] at h1
      obtain ⟨v, ⟨h2, hT0⟩, h3⟩ := h1
      have next : nn i = true → ∀ g', V g' → Ag l g0 g' → ∀ w', Cg g' (l.setIfInBounds i true) w' → wpAny P md ops Q' (fuel + gt) (l.setIfInBounds i true) (a.put o.dst (val g' i)) w' := by
        intro hn g' hg' hA w' hC'
        refine wpAny_of_H (n := n) hL hrf htr hmn hvl hag hT fuel _ _ w' g' hg' hC' fun g hg hA2 => ?_
        have h4 := ((h g hg (htr _ _ _ _ hA (hmn _ _ _ _ hA2 hun))).2 i hi).2
        unfold qOpM at h4
        simp only [ho] at h4
        obtain ⟨v', ⟨h5, _⟩, h6⟩ := h4
        rcases h5 with ⟨_, e5, _⟩ | ⟨hne, _⟩
        · rw [hvl _ _ _ _ hn hun hA2, ← e5]; exact h6
        · rw [hn] at hne; cases hne
      rcases h2 with ⟨hn, hv, hw⟩ | ⟨hn, h2⟩
      · rw [if_pos hw]
        left
        have h5 := hT i _ l w g0 hn (hT0 hn) hg0 hi hC
        unfold Oper.wp
        generalize (execOp a.eval o).run P w = r at *
        cases r with
        | ok n w' =>
          cases n <;> simp only [uponN] at h5 <;> simp only [Oper.upon]
          case value u => obtain ⟨g', e1, e2, rfl, e4⟩ := h5; exact next hn g' e1 e2 _ e4
          case enter f args =>
            refine h5.mono fun e w'' ⟨u, he, g', e1, e2, e3, e4⟩ => ?_
            subst he; subst e3
            exact next hn g' e1 e2 _ e4
        | halt y w' => simp only [uponN] at h5
      · have hval : ∀ g, V g → Ag (l.setIfInBounds i true) g0 g → wpAnyH P md ops (Cg g) nn (val g) (Tg g) n (L g) fuel (l.setIfInBounds i true) (a.put o.dst v) := by
          intro g hg hA2
          have hA := hmn _ _ _ _ hA2 hun
          have h4 := ((h g hg hA).2 i hi).2
          unfold qOpM at h4
          simp only [ho] at h4
          obtain ⟨v', ⟨h5, _⟩, h6⟩ := h4
          rcases h5 with ⟨e, _⟩ | ⟨_, h5⟩
          · rw [hn] at e; cases e
          · have hvv : v = v' := by
              rcases h2 with ⟨hw, ha⟩ | ⟨hw, rfl, _⟩
              · rcases h5 with ⟨_, hb⟩ | ⟨hw', _⟩
                · exact uponV_val (ha l w hi hC) (hb l w hi (hag _ _ _ _ hA hC))
                · rw [hw] at hw'; cases hw'
              · rcases h5 with ⟨hw', _⟩ | ⟨_, e, _⟩
                · rw [hw] at hw'; cases hw'
                · exact e.symm
            rw [hvv]; exact h6
        rcases h2 with ⟨hw, ha⟩ | ⟨hw, rfl, hv⟩
        · rw [if_pos hw]
          left
          have h5 := ha l w hi hC
          unfold Oper.wp
          generalize (execOp a.eval o).run P w = r at *
          cases r with
          | ok n w' =>
            cases n <;> simp only [uponV] at h5 <;> simp only [Oper.upon]
            case value u => obtain ⟨e1, e2⟩ := h5; rw [e1]; exact wpAny_of_H (n := n) hL hrf htr hmn hvl hag hT fuel _ _ w' g0 hg0 e2 hval
            case skip => obtain ⟨e1, e2⟩ := h5; rw [← e1]; exact wpAny_of_H (n := n) hL hrf htr hmn hvl hag hT fuel _ _ w' g0 hg0 e2 hval
          | halt y w' => simp only [uponV] at h5
        · rw [if_neg (by rw [hw]; exact Bool.false_ne_true)]
          exact wpAny_of_H (n := n) hL hrf htr hmn hvl hag hT fuel _ _ w g0 hg0 (hv l w hi hC) hval
end
/-- a world behind w, of which p holds besides -/
structure FutP (w : World) (p : World → Prop) where
  W : World
  h : Below w.heap.size w W
  hp : p W
/-- what holds at the head: no old block is changed; of the operations ns that are done, what is known of their values -/
def CH (w : World) (ns : List Nat) (dep : Nat → List Nat) (Φ : Nat → (Nat → Value) → World → Prop) (g : Nat → Value) : Array Bool → World → Prop := fun listed W =>
  Below w.heap.size w W ∧ ∀ k ∈ ns, listed.getD k false = true → Φ k g W ∧ ∀ j ∈ dep k, listed.getD j false = true
section
variable {P : Program} {ops : Array Oper} {rest : List Oper} {o : Oper} {a : Act} {Q : Act → Prop} {k : Nat} {md : Region.Mode} {T : Nat → Sem Next → Prop} {w : World} {ns : List Nat} {dep : Nat → List Nat} {Φ : Nat → (Nat → Value) → World → Prop} {g : Nat → Value}
theorem wpH_nil {C : Array Bool → World → Prop} {nn : Nat → Bool} {x : Nat → Value} (h : Q a) : wpM P md ops C nn x T Q [] k a := h
/-- an operation that only reads what was there before -/
theorem wpH_read0 (hV : isV o.op = true) (hn : (ns.contains k) = false)
    (h : wpQuiet P ops (fun W => ∃ x : Fut w, W = x.W) (fun a' => wpM P md ops (CH w ns dep Φ g) (fun i => ns.contains i) g T Q rest (k + 1) a') [o] a) : wpM P md ops (CH w ns dep Φ g) (fun i => ns.contains i) g T Q (o :: rest) k a := by
  have skip : ∀ {listed : Array Bool} {W : World}, CH w ns dep Φ g listed W → CH w ns dep Φ g (listed.setIfInBounds k true) W := fun {listed W} hW => by
    refine ⟨hW.1, fun j hj hl => ?_⟩
    have hjk : k ≠ j := fun e => by subst e; rw [List.contains_iff_mem.2 hj] at hn; cases hn
    rw [getD_set_ne false hjk] at hl
    obtain ⟨h1, h2⟩ := hW.2 j hj hl
    exact ⟨h1, fun i hi => getD_set_true (h2 i hi)⟩
  unfold wpQuiet at h
  split at h
  · rename_i hw
    obtain ⟨v, h1, h2⟩ := h
    refine ⟨v, ⟨.inr ⟨hn, .inl ⟨hw, fun listed W hl hW => ?_⟩⟩, fun e => (by have e' : ns.contains k = true := e; rw [hn] at e'; cases e')⟩, h2⟩
    have h3 := h1 W ⟨⟨W, hW.1⟩, rfl⟩
    unfold Oper.quietAt at h3
    cases hr : (execOp a.eval o).run P W with
    | ok n w' =>
      obtain ⟨u, rfl⟩ := isV_value hV hr
      rw [hr] at h3
      simp only [Oper.quietUpon] at h3
      simp only [uponV]
      obtain ⟨e1, e2⟩ := h3
      subst e1
      exact ⟨e2, skip hW⟩
    | halt x w' => rw [hr] at h3; simp only [Oper.quietUpon] at h3
  · rename_i hw
    exact ⟨undef, ⟨.inr ⟨hn, .inr ⟨by simpa using hw, rfl, fun listed W hl hW => skip hW⟩⟩, fun e => (by have e' : ns.contains k = true := e; rw [hn] at e'; cases e')⟩, h⟩
/-- an operation that yields one value in every world -/
theorem wpH_pure (hn : ns.contains k = false) (hw : Region.wanted o (yielded ops a.tmps) = true) {v : Value} (hr : ∀ W, (execOp a.eval o).run P W = .ok (.value v) W) (h : wpM P md ops (CH w ns dep Φ g) (fun i => ns.contains i) g T Q rest (k + 1) (a.put o.dst v)) : wpM P md ops (CH w ns dep Φ g) (fun i => ns.contains i) g T Q (o :: rest) k a := by
  refine ⟨v, ⟨.inr ⟨hn, .inl ⟨hw, fun listed W hl hW => ?_⟩⟩, fun e => (by have e' : ns.contains k = true := e; rw [hn] at e'; cases e')⟩, h⟩
  rw [hr W]
  refine ⟨rfl, hW.1, fun j hj hl' => ?_⟩
  have hjk : k ≠ j := fun e => by subst e; rw [List.contains_iff_mem.2 hj] at hn; cases hn
  rw [getD_set_ne false hjk] at hl'
  obtain ⟨h1, h2⟩ := hW.2 j hj hl'
  exact ⟨h1, fun i hi => getD_set_true (h2 i hi)⟩
/-- an operation that makes fresh memory -/
theorem wpH_new (hn : ns.contains k = true) (hw : Region.wanted o (yielded ops a.tmps) = true) (hT : T k (execOp a.eval o)) (h : wpM P md ops (CH w ns dep Φ g) (fun i => ns.contains i) g T Q rest (k + 1) (a.put o.dst (g k))) : wpM P md ops (CH w ns dep Φ g) (fun i => ns.contains i) g T Q (o :: rest) k a :=
  ⟨g k, ⟨.inl ⟨hn, rfl, hw⟩, fun _ => hT⟩, h⟩
end
/-- what a fresh operation does: no old block is changed; its value is of the shape V, and Φ is known of it -/
def TS (P : Program) (w : World) (dep : Nat → List Nat) (V : Nat → Value → Prop) (Φ : Nat → (Nat → Value) → World → Prop) (g : Nat → Value) (k : Nat) (s : Sem Next) : Prop :=
  ∀ W, Below w.heap.size w W → (∀ j ∈ dep k, Φ j g W) → uponN P (fun v W' => V k v ∧ Below W.heap.size W W' ∧ ∀ g', g' k = v → (∀ j ∈ dep k, g' j = g j) → Φ k g' W') (s.run P W)
section
variable {P : Program} {w : World} {dep : Nat → List Nat} {V : Nat → Value → Prop} {Φ : Nat → (Nat → Value) → World → Prop} {g : Nat → Value} {k : Nat} {o : Oper} {a : Act}
/-- a call -/
theorem TS.call {f : FuncId} {xs : Array Operand} {ats : Array TypeId} {dst : Option Tmp} {ty : TypeId} {pos : String} {after : Array Edge} {gd : Option (Nat × Bool)} {av : Array Value} (hav : xs.map a.eval = av) (hf : ∀ W, (callFunc f (#[] ++ av ++ #[])).run P W = .ok (.enter f av) W)
    (h : ∀ W, Below w.heap.size w W → (∀ j ∈ dep k, Φ j g W) → Calls P f av W fun e W' => ∃ v, e = .returned v ∧ V k v ∧ Below W.heap.size W W' ∧ ∀ g', g' k = v → (∀ j ∈ dep k, g' j = g j) → Φ k g' W') :
    TS P w dep V Φ g k (execOp a.eval ⟨dst, .call ⟨.value (.func f), xs, ats⟩, ty, pos, after, gd⟩) := by
  intro W hW hd
  rw [execOp_call_go, hav, hf]
  exact h W hW hd
/-- what yields a value -/
theorem TS.val {s : Sem Next} (h : ∀ W, Below w.heap.size w W → (∀ j ∈ dep k, Φ j g W) → ∃ v W', s.run P W = .ok (.value v) W' ∧ V k v ∧ Below W.heap.size W W' ∧ ∀ g', g' k = v → (∀ j ∈ dep k, g' j = g j) → Φ k g' W') : TS P w dep V Φ g k s := by
  intro W hW hd
  obtain ⟨v, W', h1, h2⟩ := h W hW hd
  rw [h1]; exact h2
/-- a slice is made -/
theorem TS.make {t : TypeId} {l c : Operand} (ho : o.op = .makeSlice t l c) {lv cv : Value} (hl : a.eval l = lv) (hc : a.eval c = cv)
    (h : ∀ W, Below w.heap.size w W → (∀ j ∈ dep k, Φ j g W) → ∃ v W', (Instr.makeSlice t lv cv).run P W = .ok v W' ∧ V k v ∧ Below W.heap.size W W' ∧ ∀ g', g' k = v → (∀ j ∈ dep k, g' j = g j) → Φ k g' W') : TS P w dep V Φ g k (execOp a.eval o) := by
  refine TS.val fun W hW hd => ?_
  obtain ⟨v, W', h1, h2⟩ := h W hW hd
  refine ⟨v, W', ?_, h2⟩
  simp [execOp, ho, hl, hc, h1]
/-- what is run for a value -/
theorem TS.sem {s : Sem Value} (hs : execOp a.eval o = (do pure (Next.value (← s)))) (h : ∀ W, Below w.heap.size w W → (∀ j ∈ dep k, Φ j g W) → ∃ v W', s.run P W = .ok v W' ∧ V k v ∧ Below W.heap.size W W' ∧ ∀ g', g' k = v → (∀ j ∈ dep k, g' j = g j) → Φ k g' W') : TS P w dep V Φ g k (execOp a.eval o) := by
  refine TS.val fun W hW hd => ?_
  obtain ⟨v, W', h1, h2⟩ := h W hW hd
  refine ⟨v, W', ?_, h2⟩
  rw [hs, Sem.run_bind, h1]; rfl
end
/-- the region: the first n are the head; ns those that make fresh memory; dep which of these each of them waits for; Φ what is known of their values; T what they run -/
theorem wp_region_ftail {P : Program} {id : Nat} {Q : Exit → Act → World → Prop} {a : Act} {w : World} {l : List Oper} (n : Nat) (ns : List Nat) (dep : Nat → List Nat) (V : Nat → Value → Prop) (Φ : Nat → (Nat → Value) → World → Prop)
    (hm : P.follows .mixedOrders = true) (hB : Region.lexTailB .any l.toArray n = true)
    (hnj : (ns.all fun k => decide (k < n) && match l.toArray[k]? with | some o => (dep k).all (fun j => ns.contains j && o.after.any fun e => Region.binds .any e && e.on == j) | none => false) = true)
    (hst : ∀ k ∈ ns, ∀ g W W', Φ k g W → Below W.heap.size W W' → Φ k g W')
    (hdp : ∀ k ∈ ns, ∀ g g' W, (∀ j, (j = k ∨ j ∈ dep k) → g j = g' j) → Φ k g W → Φ k g' W)
    (hV0 : ∀ k ∈ ns, ∃ v, V k v)
    (h : ∀ g, (∀ k ∈ ns, V k (g k)) → wpM P .any l.toArray (CH w ns dep Φ g) (fun i => ns.contains i) g (TS P w dep V Φ g) (fun a' => ∀ W, Below w.heap.size w W → (∀ k ∈ ns, Φ k g W) → wpList P l.toArray Q (l.drop n) a' W) (l.take n) 0 a) : (Code.region id l.toArray true).wp P Q a w := by
  simp only [Region.lexTailB, Bool.and_eq_true, decide_eq_true_eq] at hB
  obtain ⟨⟨⟨⟨hsel, hn⟩, hs⟩, hc⟩, hlex⟩ := hB
  have hn' : n < l.length := by simpa using hn
  have htl : (l.take n).length = n := by simp; omega
  have hdl : (l.drop n).length = l.toArray.size - n := by simp
  have inv0 : HeadInv .any l.toArray n (Array.replicate l.toArray.size false) :=
    ⟨by simp, fun j oj _ hl => (by rw [getD_replicate_false] at hl; cases hl), fun t _ ht => getD_in (by simpa using ht) (getD_replicate_false _ _)⟩
  have H := fun g hg => wpAnyH_lex (md := .any) (g := l.toArray.size - n) hsel hs hc hn (l.take n) 0 _ a (fun j hj => by
    have hj' : j < n := by rw [htl] at hj; exact hj
    simp [hj']) (by simpa using htl) inv0 (fun j hj => by omega) (by rw [htl]; exact hlex) (h g hg)
  have un : ∀ {listed : Array Bool} {i : Nat}, listed.getD i true = false → listed.getD i false = false := fun {listed i} h1 => getD_both h1
  obtain ⟨g0, hg0⟩ : ∃ g0 : Nat → Value, ∀ k ∈ ns, V k (g0 k) := by
    have h1 : ∀ k, ∃ v, k ∈ ns → V k v := fun k => by
      by_cases hk : k ∈ ns
      · obtain ⟨v, hv⟩ := hV0 k hk; exact ⟨v, fun _ => hv⟩
      · exact ⟨undef, fun h => absurd h hk⟩
    obtain ⟨f, hf⟩ := Classical.axiomOfChoice h1
    exact ⟨f, hf⟩
  refine wp_region_any hm ?_
  have := wpAny_of_H (P := P) (md := .any) (ops := l.toArray) (Q' := Q) (gt := l.toArray.size - n) (n := n) (nn := fun i => ns.contains i) (G := Nat → Value) (val := fun g => g) (V := fun g => ∀ k ∈ ns, V k (g k))
    (Ag := fun listed g g' => ∀ k ∈ ns, listed.getD k false = true → g k = g' k) (Cg := CH w ns dep Φ) (Tg := TS P w dep V Φ)
    (L := fun g listed' a' => Region.seqB .any l.toArray (l.toArray.size - n) n listed' = true ∧ (∀ j, j < n → listed'.getD j false = true) ∧ ∀ W, Below w.heap.size w W → (∀ k ∈ ns, Φ k g W) → wpList P l.toArray Q (l.drop n) a' W)
    (fun g listed a' W hC hL => by
      obtain ⟨h1, h2, h3⟩ := hL
      have hlt : ∀ k ∈ ns, k < n := fun k hk => by
        have := List.all_eq_true.1 hnj k hk
        simp only [Bool.and_eq_true, decide_eq_true_eq] at this
        exact this.1
      have := wpAny_of_seq (md := .any) (Q' := Q) (l.drop n) n listed a' W (fun j => by simp [List.getElem?_drop]) (by rw [hdl]; exact h1) (h3 W hC.1 (fun k hk => (hC.2 k hk (h2 k (hlt k hk))).1))
      rwa [hdl] at this)
    (fun _ _ _ _ _ => rfl) (fun l g g' g'' h1 h2 k hk hl => (h1 k hk hl).trans (h2 k hk hl))
    (fun listed i g g' h1 h2 k hk hl => h1 k hk (getD_set_true hl))
    (fun listed i g g' hi h1 h2 => h2 i (List.contains_iff_mem.1 hi) (getD_on h1).2)
    (fun listed g g' W hA hC => ⟨hC.1, fun k hk hl => ⟨hdp k hk g g' W (fun j hj => by
      rcases hj with rfl | hj
      · exact hA j hk hl
      · have hdj := List.all_eq_true.1 hnj k hk
        simp only [Bool.and_eq_true] at hdj
        have h2 := (hC.2 k hk hl).2 j hj
        cases ho : l.toArray[k]? with
        | none => rw [ho] at hdj; cases hdj.2
        | some o =>
          have h3 := hdj.2
          simp only [ho] at h3
          have h4 := List.all_eq_true.1 h3 j hj
          simp only [Bool.and_eq_true] at h4
          exact hA j (List.contains_iff_mem.1 h4.1) h2) (hC.2 k hk hl).1, (hC.2 k hk hl).2⟩⟩)
    (fun i s listed W g hi hTs hg hr hC => by
      have hin : i ∈ ns := List.contains_iff_mem.1 hi
      have hun := (mem_ready.1 hr).1
      have hdj := List.all_eq_true.1 hnj i hin
      simp only [Bool.and_eq_true] at hdj
      obtain ⟨o, ho, _⟩ := (mem_ready.1 hr).2
      have h3 := hdj.2
      simp only [ho] at h3
      have hdeps : ∀ j ∈ dep i, j ∈ ns ∧ listed.getD j false = true := fun j hj => by
        have h4 := List.all_eq_true.1 h3 j hj
        simp only [Bool.and_eq_true] at h4
        exact ⟨List.contains_iff_mem.1 h4.1, ready_after ho h4.2 hr⟩
      have h5 := hTs W hC.1 (fun j hj => (hC.2 j (hdeps j hj).1 (hdeps j hj).2).1)
      refine uponN_mono (fun v W' ⟨e0, e1, e2⟩ => ?_) h5
      refine ⟨fun j => if j = i then v else g j, fun k hk => ?_, fun k hk hl => ?_, by simp, hC.1.trans (e1.mono hC.1.size), fun k hk hl => ?_⟩
      · by_cases hki : k = i
        · subst hki; simpa using e0
        · simpa [hki] using hg k hk
      · have hki : k ≠ i := fun e => by subst e; rw [un hun] at hl; cases hl
        simp [hki]
      · by_cases hki : k = i
        · subst hki
          refine ⟨e2 _ (by simp) (fun j hj => ?_), fun j hj => getD_set_true (hdeps j hj).2⟩
          have hjk : j ≠ k := fun e => by subst e; have := (hdeps j hj).2; rw [un hun] at this; cases this
          simp [hjk]
        · rw [getD_set_ne false (Ne.symm hki)] at hl
          obtain ⟨f1, f2⟩ := hC.2 k hk hl
          refine ⟨hdp k hk g _ W' (fun j hj => ?_) (hst k hk g W W' f1 e1), fun j hj => getD_set_true (f2 j hj)⟩
          have hji : j ≠ i := fun e => by
            subst e
            rcases hj with e | hj
            · exact hki e.symm
            · have := f2 j hj; rw [un hun] at this; cases this
          simp [hji])
    _ _ a (World.drew w) g0 hg0 ⟨(Below.refl _ _).drew, fun k hk hl => by rw [getD_replicate_false] at hl; cases hl⟩ (fun g hg _ => H g hg)
  rw [htl, show n + (l.toArray.size - n) = l.toArray.size by omega] at this
  exact this
/-- the same with one fresh operation, which makes one block -/
def ΦB (b k0 : Nat) (mk : Nat → Value) (t : TypeId) (cs : Array Value) (k : Nat) (g : Nat → Value) (W : World) : Prop := k = k0 → ∃ p, g k0 = mk p ∧ Bx W p t cs ∧ b ≤ p
def VB (mk : Nat → Value) (_k : Nat) (v : Value) : Prop := ∃ p, v = mk p
theorem TS.block {P : Program} {w : World} {mk : Nat → Value} {t : TypeId} {cs : Array Value} {g : Nat → Value} {k0 : Nat} {o : Oper} {a : Act} (s : Sem Value) (hs : execOp a.eval o = (do pure (Next.value (← s)))) (hr : ∀ W, s.run P W = .ok (mk W.heap.size) (W.alloc (.cells cs t))) :
    TS P w (fun _ => []) (VB mk) (ΦB w.heap.size k0 mk t cs) g k0 (execOp a.eval o) :=
  TS.sem hs fun W hW _ => ⟨_, _, hr W, ⟨_, rfl⟩, (Below.refl _ _).alloc (Nat.le_refl _) _, fun g' hg' _ _ => ⟨_, hg', Bx.new _ _ _, hW.size⟩⟩
theorem wp_region_fblock {P : Program} {id : Nat} {Q : Exit → Act → World → Prop} {a : Act} {w : World} {l : List Oper} (n k0 : Nat) (mk : Nat → Value) (t : TypeId) (cs : Array Value) (hmk : ∀ p q, mk p = mk q → p = q)
    (hm : P.follows .mixedOrders = true) (hB : Region.lexTailB .any l.toArray n = true)
    (hnj : (([k0] : List Nat).all fun k => decide (k < n) && match l.toArray[k]? with | some o => (([] : List Nat)).all (fun j => ([k0] : List Nat).contains j && o.after.any fun e => Region.binds .any e && e.on == j) | none => false) = true)
    (h : ∀ g p, g k0 = mk p → wpM P .any l.toArray (CH w [k0] (fun _ => []) (ΦB w.heap.size k0 mk t cs) g) (fun i => ([k0] : List Nat).contains i) g (TS P w (fun _ => []) (VB mk) (ΦB w.heap.size k0 mk t cs) g)
      (fun a' => ∀ W, Below w.heap.size w W → Bx W p t cs → w.heap.size ≤ p → wpList P l.toArray Q (l.drop n) a' W) (l.take n) 0 a) : (Code.region id l.toArray true).wp P Q a w := by
  refine wp_region_ftail n [k0] (fun _ => []) (VB mk) (ΦB w.heap.size k0 mk t cs) hm hB hnj ?_ ?_ ?_ ?_
  · intro k hk g W W' h hb e
    obtain ⟨p, a1, a2, a3⟩ := h e
    exact ⟨p, a1, a2.below hb, a3⟩
  · intro k hk g g' W he h e
    obtain ⟨p, a1, a2, a3⟩ := h e
    subst e
    exact ⟨p, by rw [← he k (.inl rfl)]; exact a1, a2, a3⟩
  · intro k _; exact ⟨mk 0, 0, rfl⟩
  · intro g hV
    obtain ⟨p, hp⟩ := hV k0 (by simp)
    have h1 := h g p hp
    have mono : ∀ (r : List Oper) (k : Nat) (a' : Act), wpM P .any l.toArray (CH w [k0] (fun _ => []) (ΦB w.heap.size k0 mk t cs) g) (fun i => ([k0] : List Nat).contains i) g (TS P w (fun _ => []) (VB mk) (ΦB w.heap.size k0 mk t cs) g)
        (fun a' => ∀ W, Below w.heap.size w W → Bx W p t cs → w.heap.size ≤ p → wpList P l.toArray Q (l.drop n) a' W) r k a' → wpM P .any l.toArray (CH w [k0] (fun _ => []) (ΦB w.heap.size k0 mk t cs) g) (fun i => ([k0] : List Nat).contains i) g (TS P w (fun _ => []) (VB mk) (ΦB w.heap.size k0 mk t cs) g)
        (fun a' => ∀ W, Below w.heap.size w W → (∀ k ∈ [k0], ΦB w.heap.size k0 mk t cs k g W) → wpList P l.toArray Q (l.drop n) a' W) r k a' := by
      intro r
      induction r with
      | nil =>
        intro k a' h0 W hW hΦ
        obtain ⟨q, b1, b2, b3⟩ := hΦ k0 (by simp) rfl
        obtain rfl := hmk _ _ (hp.symm.trans b1)
        exact h0 W hW b2 b3
      | cons o r ih => intro k a' h0; obtain ⟨v, h1, h2⟩ := h0; exact ⟨v, h1, ih _ _ h2⟩
    exact mono _ _ _ h1
theorem Bx.rdK {w : World} {p n sz : Nat} {t : TypeId} {cs : Array Value} (h : Bx w p t cs) (hs : cs.size = n * sz) (hn : n ≤ 1048576) : Rd w sz (.slice (some ⟨p, 0, none⟩) n n) n cs.toList := by
  refine ⟨_, n, rfl, by omega, by omega, by simpa using hs, fun h => (by cases h), fun _ ad hh => ?_⟩
  cases hh
  refine ⟨rfl, h.lt, fun j u hu => ?_⟩
  rw [show (0 + j) = j by omega, h.cell]
  simpa using hu
theorem mk_ptr (p q : Nat) (h : Value.pointer (some ⟨p, 0, none⟩) = Value.pointer (some ⟨q, 0, none⟩)) : p = q := by
  injection h with h; injection h with h; injection h with h
theorem mk_sl (n p q : Nat) (h : Value.slice (some ⟨p, 0, none⟩) n n = Value.slice (some ⟨q, 0, none⟩) n n) : p = q := by
  injection h with h; injection h with h; injection h with h
end Go.Proofs.Yteejianjjpdimaa
