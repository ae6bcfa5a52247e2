/- Contracts of the functions that the laws 'N' reach, part 13. No condition. -/
import Derived.Test.YteejianjjpdimaaMNl
set_option linter.unusedVariables false
set_option linter.unusedSimpArgs false
namespace Go.Proofs.Yteejianjjpdimaa
open Go.RowKit L02 L13 L18 L20
/-- all blocks from b on, but rows of words, are as they were -/
def Fr (b : Nat) (w w' : World) : Prop := w.heap.size ≤ w'.heap.size ∧ ∀ (g : Nat) (t : TypeId) (cs : Array Value), b ≤ g → t ≠ 46 → Bx w g t cs → Bx w' g t cs
theorem Bx.fr {b g : Nat} {w w' : World} {t : TypeId} {cs : Array Value} (h : Bx w g t cs) (hf : Fr b w w') (hb : b ≤ g) (ht : t ≠ 46) : Bx w' g t cs := hf.2 g t cs hb ht h
/-- rows of bytes stay -/
def KeepB (B : Nat) (w w' : World) : Prop := ∀ (v : Value) (l : List UInt8), OwnB w B 5 v l → OwnB w' B 5 v l
theorem OwnT.atB {w : World} {base : Nat} {v : Value} {L : List (List UInt8)} (h : OwnT w base v L) {k : Nat} {l : List UInt8} (hl : L[k]? = some l) :
    ∃ ad y, (∀ W, (Instr.indexAt 22 v (.int .i64 (k : Int))).run Try.prog W = .ok (.pointer (some ad)) W) ∧ w.cell? ad = some y ∧ OwnB w base 5 y l := by
  obtain ⟨vs, h1, h2, h4⟩ := h
  have hk : k < L.length := (List.getElem?_eq_some_iff.1 hl).1
  have hv : vs[k]? = some vs[k] := List.getElem?_eq_getElem (by omega)
  exact ⟨cellAt v (k * 1), vs[k], fun W => Rd.ixN (Rd.of_own h2) Try.underlying22 one_bytes hk W, by rw [Nat.mul_one]; exact Rd.cell (Rd.of_own h2) hv, h4 k _ _ hv hl⟩
/-- right types, not great -/
structure Rough (m : Mo) : Prop where
  n : m.objs.length ≤ 1000
  o : ∀ o ∈ m.objs, (0 ≤ o.ty ∧ o.ty < m.types.length) ∧ o.fs.length = (ty m.types o).length ∧ o.fs.length ≤ 20
set_option maxRecDepth 100000 in
set_option maxHeartbeats 16000000 in
theorem refs_any (m : Mo) (tv ov sv : Value) (fid : Nat) (first cap : Array Value) (B0 : Nat) (J : Nat → Nat → Mo → World → Prop) (w : World) (hw : B0 ≤ w.heap.size) (hr : Rough m) (hcf : ∀ args W, (callFunc fid args).run Try.prog W = .ok (.enter fid args) W)
    (hst : ∀ n i m' W W', J n i m' W → Below W.heap.size W W' → J n i m' W')
    (hnx : ∀ n m' W, n < m.objs.length → J n (ob m n).fs.length m' W → J (n + 1) 0 m' W)
    (hno : ∀ n i m' W, n < m.objs.length → i < (ob m n).fs.length → ((ty m.types (ob m n)).getD i 0).toNat ≠ 3 → J n i m' W → J n (i + 1) m' W)
    (hcl : ∀ n i m' gf W, n < m.objs.length → i < (ob m n).fs.length → ((ty m.types (ob m n)).getD i 0).toNat = 3 → Like m m' → w.heap.size ≤ W.heap.size → OwnM W B0 48 tv ov sv m' → OwnF W B0 ov m'.objs n gf → J n i m' W →
      Calls Try.prog fid (first ++ (#[.int .i64 n, .pointer (some ⟨gf, i, none⟩)] ++ cap)) W fun e W' => e = .returned (.tuple #[]) ∧ ∃ m'', Like m m'' ∧ OwnM W' B0 48 tv ov sv m'' ∧ OwnF W' B0 ov m''.objs n gf ∧ J n (i + 1) m'' W' ∧ Fr w.heap.size W W' ∧ KeepB B0 W W')
    (m0 : Mo) (hl : Like m m0) (h : OwnM w B0 48 tv ov sv m0) (hj : J 0 0 m0 w) :
    Calls Try.prog 27 #[.agg #[tv, ov, sv], .func (.func fid) first cap] w fun e w' => e = .returned (.tuple #[]) ∧ ∃ m', Like m m' ∧ OwnM w' B0 48 tv ov sv m' ∧ J m.objs.length 0 m' w' := by
  obtain ⟨N, hN⟩ : ∃ N, N = m.objs.length := ⟨_, rfl⟩
  have HST := Lib.hid hst; have HNX := Lib.hid hnx; have HNO := Lib.hid hno; have HCL := Lib.hid hcl; have HR := Lib.hid hr; have HN := Lib.hid hN; have HL0 := Lib.hid hl
  have hN1 : N ≤ 1000 := by rw [hN]; exact hr.n
  clear hst hnx hno hcl hr hl hN
  obtain ⟨tA, tn, tc, rfl⟩ := h.forms.1
  obtain ⟨oA, on, oc, rfl⟩ := h.forms.2.1
  obtain ⟨sA, sn, sc, rfl⟩ := h.forms.2.2
  go_enter Try.func27, Try.ntmps27
  go_upto_region 1 with (fail)
  have b := (Below.refl w.heap.size w).alloc (Nat.le_refl _) (.cells #[.slice tA tn tc, .slice oA on oc, .slice sA sn sc] 26)
  refine wp_gen (fun Wv => Bx Wv w.heap.size 26 #[.slice tA tn tc, .slice oA on oc, .slice sA sn sc] ∧ OwnM Wv B0 48 (.slice tA tn tc) (.slice oA on oc) (.slice sA sn sc) m0 ∧ J 0 0 m0 Wv ∧ w.heap.size < Wv.heap.size) ⟨Bx.at_ (by simp), h.below b, HST.out _ _ _ _ _ hj b, by simp⟩ ?_
  clear b h hj
  rintro wa ⟨g1, om, hj, hz⟩
  have c_g1 := g1.cell
  have lo := om.o.rd.len
  rw [HL0.out.2.1, ← HN.out] at lo
  have HI := Lib.hid (And.intro g1 (And.intro om (And.intro HL0.out (And.intro hj hz))))
  clear g1 om hj HL0
  go_wp2
  clear c_g1 lo
  go_loopg [11] N (fun g i wr => ∃ n : Nat, n ≤ N ∧ g = N - n ∧ i = .int .i64 n ∧ Hid (∃ m', Bx wr w.heap.size 26 #[.slice tA tn tc, .slice oA on oc, .slice sA sn sc] ∧ OwnM wr B0 48 (.slice tA tn tc) (.slice oA on oc) (.slice sA sn sc) m' ∧ Like m m' ∧ J n 0 m' wr ∧ w.heap.size < wr.heap.size))
  case atStart => exact ⟨0, by omega, by omega, rfl, Lib.hid ⟨_, HI.out⟩⟩
  case round =>
    clear HI hz
    obtain ⟨n, hn, rfl, rfl, hh⟩ := hrel
    obtain ⟨m', g1, om, hl, hj, hz⟩ := hh.out
    by_cases hlt : n < N
    · have hnm : n < m.objs.length := by rw [← HN.out]; exact hlt
      obtain ⟨o, ho⟩ : ∃ o, m'.objs[n]? = some o := ⟨_, List.getElem?_eq_getElem (by rw [hl.2.1]; exact hnm)⟩
      have hob : ob m' n = o := ob_at ho
      obtain ⟨oo, hoo⟩ : ∃ o, m.objs[n]? = some o := ⟨_, List.getElem?_eq_getElem hnm⟩
      have hoob : ob m n = oo := ob_at hoo
      have hlk := hl.2.2 n
      rw [hob, hoob] at hlk
      obtain ⟨⟨hq0, hq1⟩, hfl, hf20⟩ := HR.out.o oo (List.mem_of_getElem? hoo)
      obtain ⟨q, hq⟩ := Int.eq_ofNat_of_zero_le hq0
      have hqt : q < m'.types.length := by rw [hl.1]; omega
      obtain ⟨t, ht⟩ : ∃ t, m'.types[q]? = some t := ⟨_, List.getElem?_eq_getElem hqt⟩
      have htt : ty m.types oo = t := by rw [ty, hq, ← hl.1]; simp [List.getD_eq_getElem?_getD, ht]
      have hoq : o.ty = (q : Int) := by rw [hlk.1, hq]
      obtain ⟨nt, hnt⟩ : ∃ nt, nt = t.length := ⟨_, rfl⟩
      have hofl : o.fs.length = nt := by rw [hlk.2, hfl, htt, hnt]
      have hnt20 : nt ≤ 20 := by omega
      have HOF := Lib.hid hofl
      have c_g1 := g1.cell
      obtain ⟨ad, yt, iy, m3, hby⟩ := om.t.atB ht
      have ly := Rd.len (OwnB.rd hby) Try.underlying41
      rw [← hnt] at ly
      by_cases hf : 0 < nt
      · obtain ⟨b, bq, gf, nf, cf, ix, p0, p1, hb, of_, hnf, hix⟩ := om.o.at_ ho (by omega)
        rw [hoq] at p0
        rw [hofl] at hix hnf
        obtain rfl : nt = nf := hnf.symm
        have HNT := Lib.hid hnt; clear hnt hofl
        have HC := Lib.hid (And.intro hl (And.intro hj (And.intro om of_)))
        obtain ⟨wn, hwn⟩ : ∃ W, W = wr := ⟨_, rfl⟩
        subst hwn
        clear hh
        go_upto_region 4 with (fail)
        have b' := (Below.refl wn.heap.size wn).alloc (Nat.le_refl _) (.cells #[.int .i64 (q : Int), .slice (some ⟨gf, 0, none⟩) nt cf] 45)
        refine wp_gen (fun Wv => Bx Wv wn.heap.size 45 #[.int .i64 (q : Int), .slice (some ⟨gf, 0, none⟩) nt cf] ∧ Below wn.heap.size wn Wv ∧ wn.heap.size < Wv.heap.size) ?_ ?_
        · exact ⟨Bx.new wn _ _, b', by simp⟩
        clear b' p0 p1 ix
        rintro wb ⟨g5, b5, hz5⟩
        have HX := Lib.hid (And.intro (g1.below b5) (And.intro g5 (And.intro (OwnM.below HC.out.2.2.1 b5) (And.intro (OwnF.below HC.out.2.2.2 b5) (And.intro HC.out.1 (And.intro (HST.out _ _ _ _ _ HC.out.2.1 b5) (And.intro hz5 (own_below hby b5))))))))
        have c_g1 := (g1.below b5).cell
        have c_g5 := g5.cell
        have m3' := cell_later b5 m3
        clear g1 g5 b5 m3 HC om of_ hj hl hby
        go_wp2
        clear c_g1 c_g5 m3' iy
        go_loopg [23] nt (fun g i wr => ∃ p : Nat, p ≤ nt ∧ g = nt - p ∧ i = .int .i64 p ∧ Hid (∃ m', Bx wr w.heap.size 26 #[.slice tA tn tc, .slice oA on oc, .slice sA sn sc] ∧ Bx wr wn.heap.size 45 #[.int .i64 (q : Int), .slice (some ⟨gf, 0, none⟩) nt cf] ∧ OwnM wr B0 48 (.slice tA tn tc) (.slice oA on oc) (.slice sA sn sc) m' ∧ OwnF wr B0 (.slice oA on oc) m'.objs n gf ∧ Like m m' ∧ J n p m' wr ∧ wn.heap.size < wr.heap.size ∧ OwnB wr B0 5 yt t))
        case atStart => exact ⟨0, by omega, by omega, rfl, Lib.hid ⟨_, HX.out⟩⟩
        case round =>
          clear HX
          obtain ⟨p, hp, rfl, rfl, hh⟩ := hrel
          obtain ⟨m2, g1, g5, om, of_, hl, hj, hz2, hby⟩ := hh.out
          have c_g1 := g1.cell
          have c_g5 := g5.cell
          have ix := hix p
          by_cases hltp : p < nt
          · have ix := hix p (by omega)
            obtain ⟨bd, kk, ib, m4, hkk⟩ := ((OwnB.rd hby).at_ (P := Try.prog) Try.underlying41 one_u8 (k := p) (by rw [← HNT.out]; exact hltp))
            have hpm : p < (ob m n).fs.length := by rw [hoob, ← hlk.2, HOF.out]; exact hltp
            have hkm : (ty m.types (ob m n)).getD p 0 = kk := by rw [hoob, htt]; simp [List.getD_eq_getElem?_getD, hkk.out]
            clear hkk
            by_cases h3 : kk.toNat = 3
            · have k3 : ((kk.toNat : Int) == 3) = true := by rw [beq_iff_eq]; omega
              have HCC := Lib.hid (HCL.out n p m2 gf wr hnm hpm (by rw [hkm]; exact h3) hl (by omega) om of_ hj)
              have HG := Lib.hid (And.intro g1 (And.intro g5 (And.intro hby hz2)))
              clear g1 g5 hby hz2 om of_ hl hj
              go_upto_region 8 with (fail)
              go_wp2_with fail
              refine HCC.out.mono ?_
              rintro e w' ⟨rfl, m3, a1, a2, a3, a4, a5, a6⟩
              obtain ⟨g1, g5, hby, hz2⟩ := HG.out
              have HJ := Lib.hid (And.intro (g1.fr a5 (Nat.le_refl _) (by decide)) (And.intro (g5.fr a5 (by omega) (by decide)) (And.intro a2 (And.intro a3 (And.intro a1 (And.intro a4 (And.intro (Nat.lt_of_lt_of_le hz2 a5.1) (a6 _ _ hby))))))))
              clear a1 a2 a3 a4 a5 a6 g1 g5 hby hz2 HG HCC
              go_wp2
              go_roundg (nt - (p + 1))
              case measure => omega
              case rel => exact ⟨p + 1, by omega, rfl, by go_num, Lib.hid ⟨m3, HJ.out⟩⟩
            · have k3 : ((kk.toNat : Int) == 3) = false := by rw [beq_eq_false_iff_ne]; omega
              have HJ := Lib.hid (HNO.out n p m2 wr hnm hpm (by rw [hkm]; exact h3) hj)
              clear hj
              go_wp2
              go_roundg (nt - (p + 1))
              case measure => omega
              case rel => exact ⟨p + 1, by omega, rfl, by go_num, Lib.hid ⟨m2, g1, g5, om, of_, hl, HJ.out, hz2, hby⟩⟩
          · obtain rfl : p = nt := by omega
            have HJ := Lib.hid (HNX.out n m2 wr hnm (by rw [hoob, ← hlk.2, HOF.out]; exact hj))
            clear hj ix
            go_wp2
            go_roundg (N - (n + 1))
            case measure => omega
            case rel => exact ⟨n + 1, by omega, rfl, by go_num, Lib.hid ⟨m2, g1, om, hl, HJ.out, by omega⟩⟩
      · obtain ⟨bo, bq, x0, o2, ix, p0, p1, ho2, hx0, hob2⟩ := (om.o.rd).at_ (k := n) (by rw [hl.2.1]; exact hnm)
        obtain rfl : o2 = o := by have := ho2.out; rw [ho] at this; injection this with e; exact e.symm
        obtain ⟨xA, xn, xc, rfl⟩ : ∃ A n c, x0 = .slice A n c := by obtain ⟨A, c, e, _⟩ := hx0.out; exact ⟨A, _, c, e⟩
        rw [hoq] at p0
        obtain rfl : nt = 0 := by omega
        clear hx0 ho2 hnt
        have HC := Lib.hid (And.intro hl (And.intro hj om))
        obtain ⟨wn, hwn⟩ : ∃ W, W = wr := ⟨_, rfl⟩
        subst hwn
        clear hh
        go_upto_region 4 with (fail)
        have b' := (Below.refl wn.heap.size wn).alloc (Nat.le_refl _) (.cells #[.int .i64 (q : Int), .slice xA xn xc] 45)
        refine wp_gen (fun Wv => Bx Wv wn.heap.size 45 #[.int .i64 (q : Int), .slice xA xn xc] ∧ Below wn.heap.size wn Wv ∧ wn.heap.size < Wv.heap.size) ?_ ?_
        · exact ⟨Bx.new wn _ _, b', by simp⟩
        clear b' p0 p1 ix
        rintro wb ⟨g5, b5, hz5⟩
        have HX := Lib.hid (And.intro (g1.below b5) (And.intro (OwnM.below HC.out.2.2 b5) (And.intro HC.out.1 (And.intro (HST.out _ _ _ _ _ HC.out.2.1 b5) hz5))))
        have c_g1 := (g1.below b5).cell
        have c_g5 := g5.cell
        have m3' := cell_later b5 m3
        clear g1 g5 b5 m3 HC om hj hl hby
        go_wp2
        clear c_g1 c_g5 m3' iy
        go_loopg [23] 0 (fun g i wr => g = 0 ∧ i = .int .i64 0 ∧ Hid (Bx wr w.heap.size 26 #[.slice tA tn tc, .slice oA on oc, .slice sA sn sc] ∧ OwnM wr B0 48 (.slice tA tn tc) (.slice oA on oc) (.slice sA sn sc) m' ∧ Like m m' ∧ J n 0 m' wr ∧ wn.heap.size < wr.heap.size))
        case atStart => exact ⟨rfl, rfl, HX⟩
        case round =>
          clear HX
          obtain ⟨rfl, rfl, hh⟩ := hrel
          obtain ⟨g1, om, hl, hj, hz2⟩ := hh.out
          have HJ := Lib.hid (HNX.out n m' wr hnm (by rw [hoob, ← hlk.2, HOF.out]; exact hj))
          go_wp2
          go_roundg (N - (n + 1))
          case measure => omega
          case rel => exact ⟨n + 1, by omega, rfl, by go_num, Lib.hid ⟨m', g1, om, hl, HJ.out, by omega⟩⟩
    · obtain rfl : n = N := by omega
      go_wp2
      refine bodyPost_end (results_none rfl _ _ _) rfl ?_
      refine ⟨rfl, m', hl, om, ?_⟩
      rw [← HN.out]; exact hj
end Go.Proofs.Yteejianjjpdimaa
namespace Go.Proofs.Yteejianjjpdimaa
open Go Go.RowKit
section
variable {P : Program} {ops : Array Oper} {w : World}
theorem wpStill_of_quiet {Q : Act → Prop} : ∀ (l : List Oper) (a : Act), wpQuiet P ops (fun W => W = w) Q l a → wpStill P ops w Q l a
  | [], a, h => h
  | o :: l, a, h => by
    unfold wpQuiet at h
    unfold wpStill
    by_cases hw : Region.wanted o (yielded ops a.tmps) = true
    · rw [if_pos hw] at h ⊢
      obtain ⟨v, h1, h2⟩ := h
      have h3 := h1 w rfl
      have h4 := wpStill_of_quiet l _ h2
      unfold Oper.quietAt at h3
      unfold Oper.still
      cases hr : (execOp a.eval o).run P w with
      | ok n w' =>
        rw [hr] at h3
        cases n with
        | value u => obtain ⟨e1, e2⟩ := h3; subst e2; exact ⟨e1, h4⟩
        | skip => obtain ⟨e1, e2⟩ := h3; subst e2; exact ⟨e1, h4⟩
        | enter f args => obtain ⟨e1, e2⟩ := h3; exact ⟨e1, v, e2, h4⟩
        | _ => exact absurd h3 id
      | halt x w' => rw [hr] at h3; exact absurd h3 id
    · rw [if_neg hw] at h ⊢
      exact wpStill_of_quiet l _ h
theorem wp_region_qtail {id : Nat} {Q : Exit → Act → World → Prop} {a : Act} {l : List Oper} (n : Nat) (hm : P.follows .mixedOrders = true) (hB : Region.lexTailB .any l.toArray n = true)
    (h : wpQuiet P l.toArray (fun W => W = w.drew) (fun a' => wpList P l.toArray Q (l.drop n) a' w.drew) (l.take n) a) : (Code.region id l.toArray true).wp P Q a w :=
  wp_region_still_tail n hm hB (wpStill_of_quiet _ _ h)
end
end Go.Proofs.Yteejianjjpdimaa
namespace Go.Proofs.Yteejianjjpdimaa
open Go.RowKit L02 L13 L18 L20
set_option maxRecDepth 100000 in
set_option maxHeartbeats 4000000 in
theorem Free1_any (k own gf i pb po : Nat) (v : UInt64) (b b' : Bool) (hb' : b' = (b || (decide (k ≠ own) && decide (v.toNat = own + 1)))) (ho : own ≤ 1000) (w : World)
    (hv : w.cell? ⟨gf, i, none⟩ = some (.int .u64 v.toNat)) (hf : w.frozen? ⟨gf, i, none⟩ = false) (g1 : Bx w pb 4 #[.bool b]) (g2 : Bx w po 3 #[.int .i64 own]) (n1 : gf ≠ pb) (n2 : po ≠ pb) :
    Calls Try.prog 41 #[.int .i64 k, .pointer (some ⟨gf, i, none⟩), .pointer (some ⟨pb, 0, none⟩), .pointer (some ⟨po, 0, none⟩)] w fun e w' => e = .returned (.tuple #[]) ∧
      ∃ q, w' = if own + 1 < v.toNat then (((w.drew).setCell ⟨pb, 0, none⟩ (.bool b')).drewN q).setCell ⟨gf, i, none⟩ (.int .u64 (v.toNat - 1 : Nat)) else ((w.drew).setCell ⟨pb, 0, none⟩ (.bool b')).drewN q := by
  obtain ⟨vn, hvn⟩ : ∃ n, n = v.toNat := ⟨_, rfl⟩
  have hvl := v.toNat_lt
  rw [← hvn] at hv hb' hvl ⊢
  have c1 := g1.cell; have f1 := g1.free; have c2 := g2.cell
  have hw1 : IntKind.u64.wrap (own : Int) = (own : Int) := by show (own : Int) % 18446744073709551616 = _; omega
  have hw2 : IntKind.u64.wrap ((own : Int) + 1) = (own : Int) + 1 := by show ((own : Int) + 1) % 18446744073709551616 = _; omega
  have HB := Lib.hid hb'
  clear hb' hvn
  obtain ⟨R, hR⟩ : ∃ R : World → Prop, R = fun w' => ∃ q, w' = if own + 1 < vn then (((w.drew).setCell ⟨pb, 0, none⟩ (.bool b')).drewN q).setCell ⟨gf, i, none⟩ (.int .u64 (vn - 1 : Nat)) else ((w.drew).setCell ⟨pb, 0, none⟩ (.bool b')).drewN q := ⟨_, rfl⟩
  have HR := Lib.hid hR
  have HG := Lib.hid (And.intro (show Bx w.drew pb 4 #[.bool b] from g1) (And.intro (show Bx w.drew po 3 #[.int .i64 own] from g2) (And.intro (show w.drew.cell? ⟨gf, i, none⟩ = some (.int .u64 vn) from hv) (show w.drew.frozen? ⟨gf, i, none⟩ = false from hf))))
  have main : Calls Try.prog 41 #[.int .i64 k, .pointer (some ⟨gf, i, none⟩), .pointer (some ⟨pb, 0, none⟩), .pointer (some ⟨po, 0, none⟩)] w fun e w' => e = .returned (.tuple #[]) ∧ R w' := by
    clear hR g1 g2
    have cases : (b = true ∧ b' = true) ∨ (b = false ∧ b' = false ∧ ((k : Int) != (own : Int)) = false) ∨ (b = false ∧ b' = false ∧ ((k : Int) != (own : Int)) = true ∧ ((vn : Int) == (own : Int) + 1) = false) ∨ (b = false ∧ b' = true ∧ ((k : Int) != (own : Int)) = true ∧ ((vn : Int) == (own : Int) + 1) = true) := by
      rw [HB.out]
      cases b
      · refine .inr ?_
        by_cases hk : k = own
        · exact .inl ⟨rfl, by simp [hk], by rw [bne_eq_false_iff_eq]; omega⟩
        · refine .inr ?_
          by_cases h2 : vn = own + 1
          · exact .inr ⟨rfl, by simp [hk, h2], by rw [bne_iff_ne]; omega, by rw [beq_iff_eq]; omega⟩
          · exact .inl ⟨rfl, by simp [h2], by rw [bne_iff_ne]; omega, by rw [beq_eq_false_iff_ne]; omega⟩
      · exact .inl ⟨rfl, by simp⟩
    rcases cases with ⟨rfl, rfl⟩ | ⟨rfl, rfl, hk1⟩ | ⟨rfl, rfl, hk1, hv1⟩ | ⟨rfl, rfl, hk1, hv1⟩
    all_goals
      clear HB
      go_enter Try.func41, Try.ntmps41
      go_upto_region 0 with (fail)
      refine wp_region_qtail 15 (by kernel_rfl) (by kernel_rfl) ?_
      simp only [List.take_succ_cons, List.take_zero, List.drop_succ_cons, List.drop_zero]
      iterate 15 (go_big_quiet_step (fail))
      refine wpQuiet_nil ?_
      clear c1 f1 c2 hv hf
      have c1 := HG.out.1.cell; have f1 := HG.out.1.free
      go_upto_region 1 with (fail)
      refine wp_gen (fun Wv => Wv = (w.drew).setCell ⟨pb, 0, none⟩ (.bool _)) rfl ?_
      intro W hW
      have hv : W.cell? ⟨gf, i, none⟩ = some (.int .u64 vn) := by rw [hW]; exact cell_far (q := ⟨pb, 0, none⟩) HG.out.2.2.1 n1
      have hf : W.frozen? ⟨gf, i, none⟩ = false := by rw [hW, World.frozen?_setCell]; exact HG.out.2.2.2
      have c2 : ∀ i : Nat, W.cell? ⟨po, i, none⟩ = #[Value.int .i64 (own : Int)][i]? := fun i => by rw [hW]; exact (HG.out.2.1.far (p := ⟨pb, 0, none⟩) n2 _).cell i
      have HW := Lib.hid hW
      clear hW HG c1 f1
      try clear hk1 hv1
      try clear hk1
      by_cases hlt : own + 1 < vn
      · have hd : decide ((own : Int) + 1 < (vn : Int)) = true := by rw [decide_eq_true_iff]; omega
        have hw3 : IntKind.u64.wrap ((vn : Int) - 1) = (vn : Int) - 1 := by show ((vn : Int) - 1) % 18446744073709551616 = _; omega
        go_big_quiet (fail)
        go_wp2
        refine bodyPost_end (results_none rfl _ _ _) rfl ⟨rfl, ?_⟩
        rw [HR.out]
        refine ⟨nq, ?_⟩
        rw [if_pos hlt, ← HW.out]
        congr 2; omega
      · have hd : decide ((own : Int) + 1 < (vn : Int)) = false := by rw [decide_eq_false_iff_not]; omega
        go_big_quiet (fail)
        go_wp2
        refine bodyPost_end (results_none rfl _ _ _) rfl ⟨rfl, ?_⟩
        rw [HR.out]
        refine ⟨nq, ?_⟩
        rw [if_neg hlt, ← HW.out]
  subst hR; exact main
set_option maxRecDepth 100000 in
set_option maxHeartbeats 4000000 in
theorem Canon1_any (k gf i pc pf : Nat) (v : UInt64) (tv ov sv nv rv : Value) (ks : List Int) (x : Int) (w : World) (hx : 0 < v.toNat → ks[v.toNat - 1]? = some x) (hx0 : 0 ≤ x ∧ x ≤ 1000) (hl : v.toNat ≤ 1000)
    (hv : w.cell? ⟨gf, i, none⟩ = some (.int .u64 v.toNat)) (hf : w.frozen? ⟨gf, i, none⟩ = false) (g1 : Bx w pc 62 #[.pointer (some ⟨pf, 0, none⟩)]) (g2 : Bx w pf 64 #[tv, ov, sv, nv, rv]) (hn : Ints w nv ks) :
    Calls Try.prog 28 #[.int .i64 k, .pointer (some ⟨gf, i, none⟩), .pointer (some ⟨pc, 0, none⟩)] w fun e w' => e = .returned (.tuple #[]) ∧
      w' = if 0 < v.toNat then (w.drew).setCell ⟨gf, i, none⟩ (.int .u64 x) else w := by
  obtain ⟨vn, hvn⟩ : ∃ n, n = v.toNat := ⟨_, rfl⟩
  rw [← hvn] at hv hx hl ⊢
  have c1 := g1.cell; have c2 := g2.cell
  have hw3 : IntKind.u64.wrap x = x := by show x % 18446744073709551616 = _; omega
  obtain ⟨R, hR⟩ : ∃ R : World → Prop, R = fun w' => w' = if 0 < vn then (w.drew).setCell ⟨gf, i, none⟩ (.int .u64 x) else w := ⟨_, rfl⟩
  have HR := Lib.hid hR; have HN := Lib.hid hn; have HX := Lib.hid hx
  have main : Calls Try.prog 28 #[.int .i64 k, .pointer (some ⟨gf, i, none⟩), .pointer (some ⟨pc, 0, none⟩)] w fun e w' => e = .returned (.tuple #[]) ∧ R w' := by
    clear hR g1 g2 hn hvn hx
    by_cases h0 : 0 < vn
    · obtain ⟨q, rfl⟩ : ∃ q, vn = q + 1 := ⟨vn - 1, by omega⟩
      have hxx := HX.out h0
      rw [Nat.add_sub_cancel] at hxx
      obtain ⟨nd, x2, ind, m6, hx2⟩ := HN.out.atU (k := q) (List.getElem?_eq_some_iff.1 hxx).1
      obtain rfl : x2 = x := by have := hx2.out; rw [hxx] at this; injection this with e; exact e.symm
      have hv' : w.cell? ⟨gf, i, none⟩ = some (.int .u64 ((q : Int) + 1)) := by rw [hv]; rfl
      have hne : ((q : Int) + 1 != 0) = true := by rw [bne_iff_ne]; omega
      have z2 : IntKind.u64.wrap (q : Int) = (q : Int) := by show (q : Int) % 18446744073709551616 = _; omega
      clear hv h0 hx2 hxx
      go_enter Try.func28, Try.ntmps28
      go_upto_region 1 with (fail)
      refine wp_region_qtail 13 (by kernel_rfl) (by kernel_rfl) ?_
      simp only [List.take_succ_cons, List.take_zero, List.drop_succ_cons, List.drop_zero]
      iterate 13 (go_big_quiet_step (fail))
      refine wpQuiet_nil ?_
      have hv2 : w.drew.cell? ⟨gf, i, none⟩ = some (.int .u64 ((q : Int) + 1)) := hv'
      have hf2 : w.drew.frozen? ⟨gf, i, none⟩ = false := hf
      clear c1 c2 m6 hv' hf
      go_wp2
      refine bodyPost_end (results_none rfl _ _ _) rfl ⟨rfl, ?_⟩
      rw [HR.out]
      show _ = if 0 < q + 1 then _ else _
      rw [if_pos (by omega)]
      rfl
    · obtain rfl : vn = 0 := by omega
      have hv' : w.cell? ⟨gf, i, none⟩ = some (.int .u64 0) := by rw [hv]; rfl
      clear hv
      go_enter Try.func28, Try.ntmps28
      go_wp2
      refine bodyPost_end (results_none rfl _ _ _) rfl ⟨rfl, ?_⟩
      rw [HR.out]
      rfl
  subst hR; exact main
end Go.Proofs.Yteejianjjpdimaa
namespace Go.Proofs.Yteejianjjpdimaa
open Go.RowKit L02 L13 L18 L20
theorem obC_erase : ∀ {L : List Ob} {vs : List Value} {i : Nat}, vs.length = L.length → obC (L.eraseIdx i) (vs.eraseIdx i) = (obC L vs).take (i * 2) ++ (obC L vs).drop ((i + 1) * 2)
  | [], [], i, _ => by simp [obC]
  | [], _ :: _, _, h => by simp at h
  | _ :: _, [], _, h => by simp at h
  | o :: L, x :: vs, 0, h => by simp [obC]
  | o :: L, x :: vs, i + 1, h => by
    rw [List.eraseIdx_cons_succ, List.eraseIdx_cons_succ, obC, obC_erase (by simpa using h), obC]
    rw [show (i + 1) * 2 = i * 2 + 1 + 1 by omega, show (i + 1 + 1) * 2 = (i * 2 + 1 + 1) + 1 + 1 by omega]
    simp
theorem run_clear_obj (w : World) (ty : TypeId) (b o c : Nat) (hc : ∀ j, j < 2 → (w.cell? ⟨b, o + j, none⟩).isSome = true) (hf : ∀ j, j < 2 → w.frozen? ⟨b, o + j, none⟩ = false) :
    (Builtin.clear_ #[23] ty #[.slice (some ⟨b, o, none⟩) 1 c]).run Try.prog w = .ok (.tuple #[]) (w.setCells b o [.int .i64 0, .slice none 0 0]) := by
  have hst := run_storeCells_cells (P := Try.prog) b o [.int .i64 0, .slice none 0 0] 0 w (by simpa using hc) (by simpa using hf) (by simp [Value.oneCell'])
  simp only [Nat.add_zero] at hst
  obtain ⟨i, hi1, hi2, hi3, hi4⟩ := info3 info_obj
  have hz : (zeroValue 45).run Try.prog w = .ok (.agg #[.int .i64 0, .slice none 0 0]) w := by
    simp [zeroValue, typeInfo, hi1, hi2, go_sem]
  have hzc : (Builtin.zeroCells (Value.agg #[.int .i64 0, .slice none 0 0]).cells 1).toList = [.int .i64 0, .slice none 0 0] := by kernel_rfl
  simp [Builtin.clear_, run_underlying Try.underlying23, hz, hzc, hst]
section
variable {P : Program} {ops : Array Oper} {rest : List Oper} {o : Oper} {a : Act} {Q : Exit → Act → World → Prop} {w : World}
/-- append where there is room -/
theorem wpList_appendRoom (hgd : Region.wanted o (yielded ops a.tmps) = true) {s x : Operand} {t e : TypeId} (ho : o.op = .call { callee := .builtin .append, args := #[s, x], argTypes := #[t, t] }) (ht : P.underlying t = some (.slice e)) {size : Nat} (hi : (P.info? e).map (·.size) = some size)
    {b off n cap : Nat} (hs : a.eval s = .slice (some ⟨b, off, none⟩) n cap) {ad : Addr} {m c : Nat} (news : List Value) (hx : a.eval x = .slice (some ad) m c) (hn : news.length = m * size) (hc : ∀ j u, news[j]? = some u → w.cell? (ad.add j) = some u) (h1 : ∀ u ∈ news, u.oneCell' = true)
    (hroom : n + m ≤ cap) (hspare : ∀ j, j < news.length → (w.cell? ⟨b, off + n * size + j, none⟩).isSome = true ∧ w.frozen? ⟨b, off + n * size + j, none⟩ = false)
    (h : wpList P ops Q rest (a.put o.dst (.slice (some ⟨b, off, none⟩) (n + m) cap)) (w.setCells b (off + n * size) news)) : wpList P ops Q (o :: rest) a w := by
  obtain ⟨i, hi', rfl⟩ := Option.map_eq_some_iff.1 hi
  have hrun := run_append_room_cells (P := P) w t o.type e i ht hi' b off n cap ad m c news hn hc h1 hroom (fun j hj => (hspare j hj).1) (fun j hj => (hspare j hj).2)
  refine wpList_wanted hgd fun K hK => ?_
  unfold Oper.wp
  simp [execOp, ho, resolve, invoke, builtin, hs, hx, hrun, Result.andThen]
  exact hK _ _ h
end
theorem setCells_size (g : Nat) : ∀ (l : List Value) (o : Nat) (w : World), (w.setCells g o l).heap.size = w.heap.size
  | [], _, _ => rfl
  | v :: r, o, w => by rw [World.setCells, setCells_size g r]; simp [World.setCell]
theorem setCells_os (g : Nat) : ∀ (l : List Value) (o : Nat) (w : World), (w.setCells g o l).os = w.os ∧ (w.setCells g o l).tape = w.tape ∧ (w.setCells g o l).output = w.output
  | [], _, _ => ⟨rfl, rfl, rfl⟩
  | v :: r, o, w => by rw [World.setCells]; exact setCells_os g r (o + 1) _
theorem setCells_block (g : Nat) {k : Nat} (hk : k ≠ g) : ∀ (l : List Value) (o : Nat) (w : World), (w.setCells g o l).heap[k]? = w.heap[k]?
  | [], _, _ => rfl
  | v :: r, o, w => by rw [World.setCells, setCells_block g hk r]; exact Below.heap_setCell w ⟨g, o, none⟩ v k hk
theorem setCells_grown (g o : Nat) (l : List Value) (w : World) : w.grownBy (w.setCells g o l) (some g) :=
  ⟨(setCells_os g l o w).1, (setCells_os g l o w).2.1, (setCells_os g l o w).2.2, by rw [setCells_size]; exact Nat.le_refl _, fun k hk hne => setCells_block g (by intro e; exact hne (by rw [e])) l o w⟩
set_option maxRecDepth 100000 in
set_option maxHeartbeats 4000000 in
theorem Delete_any (g n cap i j B : Nat) (xs : List Value) (hj : j = i + 1) (hi : i < n) (hn : n ≤ 1000) (w : World) (h : w.ownsRow B 45 2 (.slice (some ⟨g, 0, none⟩) n cap) n xs) (h1 : ∀ u ∈ xs, u.oneCell' = true) :
    Calls Try.prog 42 #[.slice (some ⟨g, 0, none⟩) n cap, .int .i64 i, .int .i64 j] w fun e w' => e = .returned (.slice (some ⟨g, 0, none⟩) (n - 1 : Nat) cap) ∧
      w'.ownsRow B 45 2 (.slice (some ⟨g, 0, none⟩) (n - 1) cap) (n - 1) (xs.take (i * 2) ++ xs.drop ((i + 1) * 2)) ∧ w.grownBy w' (some g) := by
  obtain ⟨g', cap', cur, hv, hB, hg, hnc, hcm, hcs, htk⟩ := own_form h (by omega)
  injection hv with e1 e2 e3; injection e1 with e1; injection e1 with e1; subst e1; subst e3
  have hxl := h.1
  obtain ⟨news, hnews⟩ : ∃ l, l = xs.drop ((i + 1) * 2) := ⟨_, rfl⟩
  have hnl : news.length = (n - j) * 2 := by rw [hnews, List.length_drop, hxl]; omega
  have hcell : ∀ (k : Nat) u, xs[k]? = some u → w.cell? ⟨g, k, none⟩ = some u := fun k u hu => by
    rw [blk_cell hg]
    rw [← htk, List.getElem?_take] at hu
    split at hu
    · simpa using hu
    · cases hu
  obtain ⟨A, hA, hsrc⟩ : ∃ A : Addr, (if cap = j then some (⟨g, 0, none⟩ : Addr) else some ⟨g, j * 2, none⟩) = some A ∧ ∀ t u, news[t]? = some u → w.drew.cell? (A.add t) = some u := by
    by_cases hc : cap = j
    · refine ⟨⟨g, 0, none⟩, by simp [hc], fun t u hu => ?_⟩
      have h0 : news.length = 0 := by rw [hnl]; omega
      rw [List.length_eq_zero_iff.1 h0] at hu
      simp at hu
    · refine ⟨⟨g, j * 2, none⟩, by simp [hc], fun t u hu => ?_⟩
      rw [hnews, List.getElem?_drop] at hu
      rw [Addr.add_lit]
      have := hcell _ u hu
      rw [hj]; exact this
  have hone : ∀ u ∈ news, u.oneCell' = true := fun u hu => h1 u (by rw [hnews] at hu; exact List.mem_of_mem_drop hu)
  have hspare : ∀ t, t < news.length → (w.drew.cell? ⟨g, 0 + i * 2 + t, none⟩).isSome = true ∧ w.drew.frozen? ⟨g, 0 + i * 2 + t, none⟩ = false := fun t ht => by
    refine ⟨?_, blk_free (w := w.drew) hg _⟩
    have := blk_cell (w := w.drew) hg (0 + i * 2 + t)
    rw [this, Array.getElem?_eq_getElem (by rw [hcs, hnl] at *; omega)]; rfl
  obtain ⟨W1, hW1⟩ : ∃ W, W = w.drew.setCells g (0 + i * 2) news := ⟨_, rfl⟩
  have hg1 : Bx W1 g 45 (putL cur (0 + i * 2) news) := by rw [hW1]; exact Bx.setCells news (0 + i * 2) (show Bx w.drew g _ cur from hg)
  have hsz1 : (putL cur (0 + i * 2) news).size = cap * 2 := by rw [putL_size]; exact hcs
  have hcl := run_clear_obj W1 0 g ((n - 1) * 2) (cap - (n - 1)) (fun k hk => by rw [hg1.cell, Array.getElem?_eq_getElem (by rw [hsz1]; omega)]; rfl) (fun k hk => hg1.free _)
  obtain ⟨W2, hW2⟩ : ∃ W, W = W1.setCells g ((n - 1) * 2) [.int .i64 0, .slice none 0 0] := ⟨_, rfl⟩
  rw [← hW2] at hcl
  have hg2 : Bx W2 g 45 (putL (putL cur (0 + i * 2) news) ((n - 1) * 2) [.int .i64 0, .slice none 0 0]) := by rw [hW2]; exact hg1.setCells _ _
  have HFIN := Lib.hid (show W2.ownsRow B 45 2 (.slice (some ⟨g, 0, none⟩) (n - 1) cap) (n - 1) (xs.take (i * 2) ++ xs.drop ((i + 1) * 2)) ∧ w.grownBy W2 (some g) from by
    refine ⟨⟨by rw [List.length_append, List.length_take, List.length_drop, hxl]; omega, .inr ⟨g, cap, _, rfl, hB, hg2, by omega, hcm, by rw [putL_size]; exact hsz1, ?_⟩⟩, ?_⟩
    · apply List.ext_getElem?
      intro k
      rw [List.getElem?_take]
      split
      · rename_i hk
        rw [Array.getElem?_toList, putL_get _ _ _ _ (by rw [hsz1]; simp; omega), if_neg (by omega), putL_get _ _ _ _ (by rw [hnl, hcs]; omega)]
        by_cases hki : k < i * 2
        · rw [if_neg (by omega), List.getElem?_append_left (by rw [List.length_take, hxl]; omega), List.getElem?_take, if_pos hki, ← htk, List.getElem?_take, if_pos (by omega), Array.getElem?_toList]
        · rw [if_pos (by rw [hnl]; omega), List.getElem?_append_right (by rw [List.length_take, hxl]; omega), hnews, List.length_take, hxl]
          congr 1; omega
      · rename_i hk
        rw [List.getElem?_eq_none (by rw [List.length_append, List.length_take, List.length_drop, hxl]; omega)]
    · have k1 := setCells_grown g (0 + i * 2) news w.drew
      have k2 := setCells_grown g ((n - 1) * 2) [.int .i64 0, .slice none 0 0] W1
      rw [← hW1] at k1; rw [← hW2] at k2
      exact ⟨k2.os.trans k1.os, k2.tape.trans k1.tape, k2.output.trans k1.output, Nat.le_trans k1.size k2.size, fun k hk hne => (k2.block k (Nat.lt_of_lt_of_le hk k1.size) hne).trans (k1.block k hk hne)⟩)
  have HA := Lib.hid (And.intro hA (And.intro hsrc (And.intro hone (And.intro hspare (And.intro hnl (And.intro hW1 hj))))))
  have hb1 : i ≤ cap := by omega
  have hb2 : j ≤ cap := by omega
  have hb3 : i ≤ j := by omega
  have hb4 : j ≤ n := by omega
  have hne : ((i : Int) == (j : Int)) = false := by rw [beq_eq_false_iff_ne]; omega
  clear hW2 hg2 hW1 hg1 hsz1 hspare hone hsrc hcell hnl hnews htk hcs hcm hg hB h hxl h1 hj
  go_enter Try.func42, Try.ntmps42
  go_upto_region 5 with (fail)
  refine wp_region_qtail 6 (by kernel_rfl) (by kernel_rfl) ?_
  simp only [List.take_succ_cons, List.take_zero, List.drop_succ_cons, List.drop_zero]
  iterate 6 (go_big_quiet_step (fail))
  refine wpQuiet_nil ?_
  refine wpList_appendRoom (by rfl) (s := .tmp 22) (x := .tmp 25) rfl Try.underlying23 size_obj (b := g) (off := 0) (n := i) (cap := cap) (by rfl) (ad := A) (m := n - j) (c := cap - j) news (by rw [← HA.out.1]; rfl) HA.out.2.2.2.2.1 HA.out.2.1 HA.out.2.2.1 (by omega) HA.out.2.2.2.1 ?_
  rw [← HA.out.2.2.2.2.2.1]
  have hij : i + (n - j) = n - 1 := by have := HA.out.2.2.2.2.2.2; omega
  rw [hij]
  simp only [Act.put, List.setIfInBounds_toArray, List.set_cons_zero, List.set_cons_succ]
  obtain ⟨n1, hn1⟩ : ∃ n1, n1 = n - 1 := ⟨_, rfl⟩
  rw [← hn1] at hcl ⊢
  have hc1 : ¬ cap = n1 := by omega
  have hc2 : n - n1 = 1 := by omega
  have hc3 : n1 ≤ n := by omega
  have hc4 : n ≤ cap := hnc
  have HN := Lib.hid hn1
  clear hij hn1 hne hb1 hb2 hb3 hb4 hi
  go_wp2
  go_ret
  rw [← HN.out] at HFIN ⊢
  exact ⟨rfl, HFIN.out⟩
/-- an object is taken away -/
theorem OwnO.erase {w : World} {B g n cap : Nat} {L : List Ob} (h : OwnO w B (.slice (some ⟨g, 0, none⟩) n cap) L) {i : Nat} (hi : i < L.length) (hn : L.length ≤ 1000) :
    n = L.length ∧ ∃ xs, w.ownsRow B 45 2 (.slice (some ⟨g, 0, none⟩) n cap) n xs ∧ (∀ u ∈ xs, u.oneCell' = true) ∧ ∀ W, w.grownBy W (some g) → W.ownsRow B 45 2 (.slice (some ⟨g, 0, none⟩) (n - 1) cap) (n - 1) (xs.take (i * 2) ++ xs.drop ((i + 1) * 2)) → OwnO W B (.slice (some ⟨g, 0, none⟩) (n - 1) cap) (L.eraseIdx i) := by
  obtain ⟨vs, h1, h2, h4, h5⟩ := h
  obtain ⟨g', cap', cur, hv, _⟩ := own_form h2 (by omega)
  injection hv with e1 e2 e3
  subst e2
  refine ⟨rfl, _, h2, ?_, fun W hg ho => ⟨vs.eraseIdx i, ?_, ?_, ?_, ?_⟩⟩
  · intro u hu
    have : ∀ (L : List Ob) (vs : List Value), (∀ x ∈ vs, x.oneCell' = true) → ∀ u ∈ obC L vs, u.oneCell' = true := by
      intro L
      induction L with
      | nil => intro vs _ u hu; simp [obC] at hu
      | cons o L ih =>
        intro vs hvs u hu
        cases vs with
        | nil => simp [obC] at hu
        | cons x vs =>
          rw [obC] at hu
          rcases List.mem_cons.1 hu with h | h
          · rw [h]; rfl
          · rcases List.mem_cons.1 h with h | h
            · rw [h]; exact hvs x List.mem_cons_self
            · exact ih vs (fun y hy => hvs y (List.mem_cons_of_mem _ hy)) u h
    refine this L vs (fun x hx => ?_) u hu
    obtain ⟨k, hk⟩ := List.mem_iff_getElem?.1 hx
    have hkl : k < L.length := by rw [← h1]; exact (List.getElem?_eq_some_iff.1 hk).1
    exact (h4 k x _ hk (List.getElem?_eq_getElem hkl)).rd.oneCell
  · rw [List.length_eraseIdx_of_lt (by omega), List.length_eraseIdx_of_lt hi, h1]
  · rw [List.length_eraseIdx_of_lt hi, obC_erase h1]; exact ho
  · intro k x o hx ho2
    rw [List.getElem?_eraseIdx] at hx ho2
    split at hx
    · rename_i hk
      rw [if_pos hk] at ho2
      have := h4 k x o hx ho2
      exact World.ownsRow.kept this hg (own_unlike this h2 (by decide))
    · rename_i hk
      rw [if_neg hk] at ho2
      have := h4 _ x o hx ho2
      exact World.ownsRow.kept this hg (own_unlike this h2 (by decide))
  · intro a b x y hab hx hy
    rw [List.getElem?_eraseIdx] at hx hy
    split at hx <;> split at hy <;> exact h5 _ _ x y (by omega) hx hy
end Go.Proofs.Yteejianjjpdimaa
