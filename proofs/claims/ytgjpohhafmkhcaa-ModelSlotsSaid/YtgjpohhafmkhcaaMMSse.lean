/- Contracts of the functions that the law 'ModelSlots' reaches, part 5. No condition. -/
import Derived.Test.YtgjpohhafmkhcaaMMSsd
set_option linter.unusedVariables false
set_option linter.unusedSimpArgs false
namespace Go.Proofs.Ytgjpohhafmkhcaa
open Go.RowKit L02 L13 L18 L20
/-- all blocks from b on, but rows of words, are as they were -/
def Fr (b : Nat) (w w' : World) : Prop := w.heap.size ≤ w'.heap.size ∧ ∀ (g : Nat) (t : TypeId) (cs : Array Value), b ≤ g → t ≠ 29 → Bx w g t cs → Bx w' g t cs
theorem Bx.fr {b g : Nat} {w w' : World} {t : TypeId} {cs : Array Value} (h : Bx w g t cs) (hf : Fr b w w') (hb : b ≤ g) (ht : t ≠ 29) : Bx w' g t cs := hf.2 g t cs hb ht h
/-- rows of bytes stay -/
def KeepB (B : Nat) (w w' : World) : Prop := ∀ (v : Value) (l : List UInt8), OwnB w B 5 v l → OwnB w' B 5 v l
theorem OwnT.atB {w : World} {base : Nat} {v : Value} {L : List (List UInt8)} (h : OwnT w base v L) {k : Nat} {l : List UInt8} (hl : L[k]? = some l) :
    ∃ ad y, (∀ W, (Instr.indexAt 22 v (.int .i64 (k : Int))).run Try.prog W = .ok (.pointer (some ad)) W) ∧ w.cell? ad = some y ∧ OwnB w base 5 y l := by
  obtain ⟨vs, h1, h2, h4⟩ := h
  have hk : k < L.length := (List.getElem?_eq_some_iff.1 hl).1
  have hv : vs[k]? = some vs[k] := List.getElem?_eq_getElem (by omega)
  exact ⟨cellAt v (k * 1), vs[k], fun W => Rd.ixN (Rd.of_own h2) Try.underlying22 one_bytes hk W, by rw [Nat.mul_one]; exact Rd.cell (Rd.of_own h2) hv, h4 k _ _ hv hl⟩
/-- right types, not great -/
structure Rough (m : Mo) : Prop where
  n : m.objs.length ≤ 1000
  o : ∀ o ∈ m.objs, (0 ≤ o.ty ∧ o.ty < m.types.length) ∧ o.fs.length = (ty m.types o).length ∧ o.fs.length ≤ 20
set_option maxRecDepth 100000 in
set_option maxHeartbeats 16000000 in
theorem refs_any (m : Mo) (tv ov sv : Value) (fid : Nat) (first cap : Array Value) (B0 : Nat) (J : Nat → Nat → Mo → World → Prop) (w : World) (hw : B0 ≤ w.heap.size) (hr : Rough m) (hcf : ∀ args W, (callFunc fid args).run Try.prog W = .ok (.enter fid args) W)
    (hst : ∀ n i m' W W', J n i m' W → Below W.heap.size W W' → J n i m' W')
    (hnx : ∀ n m' W, n < m.objs.length → J n (ob m n).fs.length m' W → J (n + 1) 0 m' W)
    (hno : ∀ n i m' W, n < m.objs.length → i < (ob m n).fs.length → ((ty m.types (ob m n)).getD i 0).toNat ≠ 3 → J n i m' W → J n (i + 1) m' W)
    (hcl : ∀ n i m' gf W, n < m.objs.length → i < (ob m n).fs.length → ((ty m.types (ob m n)).getD i 0).toNat = 3 → Like m m' → w.heap.size ≤ W.heap.size → OwnM W B0 67 tv ov sv m' → OwnF W B0 ov m'.objs n gf → J n i m' W →
      Calls Try.prog fid (first ++ (#[.int .i64 n, .pointer (some ⟨gf, i, none⟩)] ++ cap)) W fun e W' => e = .returned (.tuple #[]) ∧ ∃ m'', Like m m'' ∧ OwnM W' B0 67 tv ov sv m'' ∧ OwnF W' B0 ov m''.objs n gf ∧ J n (i + 1) m'' W' ∧ Fr w.heap.size W W' ∧ KeepB B0 W W')
    (m0 : Mo) (hl : Like m m0) (h : OwnM w B0 67 tv ov sv m0) (hj : J 0 0 m0 w) :
    Calls Try.prog 52 #[.agg #[tv, ov, sv], .func (.func fid) first cap] w fun e w' => e = .returned (.tuple #[]) ∧ ∃ m', Like m m' ∧ OwnM w' B0 67 tv ov sv m' ∧ J m.objs.length 0 m' w' := by
  obtain ⟨N, hN⟩ : ∃ N, N = m.objs.length := ⟨_, rfl⟩
  have HST := Lib.hid hst; have HNX := Lib.hid hnx; have HNO := Lib.hid hno; have HCL := Lib.hid hcl; have HR := Lib.hid hr; have HN := Lib.hid hN; have HL0 := Lib.hid hl
  have hN1 : N ≤ 1000 := by rw [hN]; exact hr.n
  clear hst hnx hno hcl hr hl hN
  obtain ⟨tA, tn, tc, rfl⟩ := h.forms.1
  obtain ⟨oA, on, oc, rfl⟩ := h.forms.2.1
  obtain ⟨sA, sn, sc, rfl⟩ := h.forms.2.2
  go_enter Try.func52, Try.ntmps52
  go_upto_region 1 with (fail)
  have b := (Below.refl w.heap.size w).alloc (Nat.le_refl _) (.cells #[.slice tA tn tc, .slice oA on oc, .slice sA sn sc] 26)
  refine wp_gen (fun Wv => Bx Wv w.heap.size 26 #[.slice tA tn tc, .slice oA on oc, .slice sA sn sc] ∧ OwnM Wv B0 67 (.slice tA tn tc) (.slice oA on oc) (.slice sA sn sc) m0 ∧ J 0 0 m0 Wv ∧ w.heap.size < Wv.heap.size) ⟨Bx.at_ (by simp), h.below b, HST.out _ _ _ _ _ hj b, by simp⟩ ?_
  clear b h hj
  rintro wa ⟨g1, om, hj, hz⟩
  have c_g1 := g1.cell
  have lo := om.o.rd.len
  rw [HL0.out.2.1, ← HN.out] at lo
  have HI := Lib.hid (And.intro g1 (And.intro om (And.intro HL0.out (And.intro hj hz))))
  clear g1 om hj HL0
  go_wp2
  clear c_g1 lo
  go_loopg [11] N (fun g i wr => ∃ n : Nat, n ≤ N ∧ g = N - n ∧ i = .int .i64 n ∧ Hid (∃ m', Bx wr w.heap.size 26 #[.slice tA tn tc, .slice oA on oc, .slice sA sn sc] ∧ OwnM wr B0 67 (.slice tA tn tc) (.slice oA on oc) (.slice sA sn sc) m' ∧ Like m m' ∧ J n 0 m' wr ∧ w.heap.size < wr.heap.size))
  case atStart => exact ⟨0, by omega, by omega, rfl, Lib.hid ⟨_, HI.out⟩⟩
  case round =>
    clear HI hz
    obtain ⟨n, hn, rfl, rfl, hh⟩ := hrel
    obtain ⟨m', g1, om, hl, hj, hz⟩ := hh.out
    by_cases hlt : n < N
    · have hnm : n < m.objs.length := by rw [← HN.out]; exact hlt
      obtain ⟨o, ho⟩ : ∃ o, m'.objs[n]? = some o := ⟨_, List.getElem?_eq_getElem (by rw [hl.2.1]; exact hnm)⟩
      have hob : ob m' n = o := ob_at ho
      obtain ⟨oo, hoo⟩ : ∃ o, m.objs[n]? = some o := ⟨_, List.getElem?_eq_getElem hnm⟩
      have hoob : ob m n = oo := ob_at hoo
      have hlk := hl.2.2 n
      rw [hob, hoob] at hlk
      obtain ⟨⟨hq0, hq1⟩, hfl, hf20⟩ := HR.out.o oo (List.mem_of_getElem? hoo)
      obtain ⟨q, hq⟩ := Int.eq_ofNat_of_zero_le hq0
      have hqt : q < m'.types.length := by rw [hl.1]; omega
      obtain ⟨t, ht⟩ : ∃ t, m'.types[q]? = some t := ⟨_, List.getElem?_eq_getElem hqt⟩
      have htt : ty m.types oo = t := by rw [ty, hq, ← hl.1]; simp [List.getD_eq_getElem?_getD, ht]
      have hoq : o.ty = (q : Int) := by rw [hlk.1, hq]
      obtain ⟨nt, hnt⟩ : ∃ nt, nt = t.length := ⟨_, rfl⟩
      have hofl : o.fs.length = nt := by rw [hlk.2, hfl, htt, hnt]
      have hnt20 : nt ≤ 20 := by omega
      have HOF := Lib.hid hofl
      have c_g1 := g1.cell
      obtain ⟨ad, yt, iy, m3, hby⟩ := om.t.atB ht
      have ly := Rd.len (OwnB.rd hby) Try.underlying74
      rw [← hnt] at ly
      by_cases hf : 0 < nt
      · obtain ⟨b, bq, gf, nf, cf, ix, p0, p1, hb, of_, hnf, hix⟩ := om.o.at_ ho (by omega)
        rw [hoq] at p0
        rw [hofl] at hix hnf
        obtain rfl : nt = nf := hnf.symm
        have HNT := Lib.hid hnt; clear hnt hofl
        have HC := Lib.hid (And.intro hl (And.intro hj (And.intro om of_)))
        obtain ⟨wn, hwn⟩ : ∃ W, W = wr := ⟨_, rfl⟩
        subst hwn
        clear hh
        go_upto_region 4 with (fail)
        have b' := (Below.refl wn.heap.size wn).alloc (Nat.le_refl _) (.cells #[.int .i64 (q : Int), .slice (some ⟨gf, 0, none⟩) nt cf] 72)
        refine wp_gen (fun Wv => Bx Wv wn.heap.size 72 #[.int .i64 (q : Int), .slice (some ⟨gf, 0, none⟩) nt cf] ∧ Below wn.heap.size wn Wv ∧ wn.heap.size < Wv.heap.size) ?_ ?_
        · exact ⟨Bx.new wn _ _, b', by simp⟩
        clear b' p0 p1 ix
        rintro wb ⟨g5, b5, hz5⟩
        have HX := Lib.hid (And.intro (g1.below b5) (And.intro g5 (And.intro (OwnM.below HC.out.2.2.1 b5) (And.intro (OwnF.below HC.out.2.2.2 b5) (And.intro HC.out.1 (And.intro (HST.out _ _ _ _ _ HC.out.2.1 b5) (And.intro hz5 (own_below hby b5))))))))
        have c_g1 := (g1.below b5).cell
        have c_g5 := g5.cell
        have m3' := cell_later b5 m3
        clear g1 g5 b5 m3 HC om of_ hj hl hby
        go_wp2
        clear c_g1 c_g5 m3' iy
        go_loopg [23] nt (fun g i wr => ∃ p : Nat, p ≤ nt ∧ g = nt - p ∧ i = .int .i64 p ∧ Hid (∃ m', Bx wr w.heap.size 26 #[.slice tA tn tc, .slice oA on oc, .slice sA sn sc] ∧ Bx wr wn.heap.size 72 #[.int .i64 (q : Int), .slice (some ⟨gf, 0, none⟩) nt cf] ∧ OwnM wr B0 67 (.slice tA tn tc) (.slice oA on oc) (.slice sA sn sc) m' ∧ OwnF wr B0 (.slice oA on oc) m'.objs n gf ∧ Like m m' ∧ J n p m' wr ∧ wn.heap.size < wr.heap.size ∧ OwnB wr B0 5 yt t))
        case atStart => exact ⟨0, by omega, by omega, rfl, Lib.hid ⟨_, HX.out⟩⟩
        case round =>
          clear HX
          obtain ⟨p, hp, rfl, rfl, hh⟩ := hrel
          obtain ⟨m2, g1, g5, om, of_, hl, hj, hz2, hby⟩ := hh.out
          have c_g1 := g1.cell
          have c_g5 := g5.cell
          have ix := hix p
          by_cases hltp : p < nt
          · have ix := hix p (by omega)
            obtain ⟨bd, kk, ib, m4, hkk⟩ := ((OwnB.rd hby).at_ (P := Try.prog) Try.underlying74 one_u8 (k := p) (by rw [← HNT.out]; exact hltp))
            have hpm : p < (ob m n).fs.length := by rw [hoob, ← hlk.2, HOF.out]; exact hltp
            have hkm : (ty m.types (ob m n)).getD p 0 = kk := by rw [hoob, htt]; simp [List.getD_eq_getElem?_getD, hkk.out]
            clear hkk
            by_cases h3 : kk.toNat = 3
            · have k3 : ((kk.toNat : Int) == 3) = true := by rw [beq_iff_eq]; omega
              have HCC := Lib.hid (HCL.out n p m2 gf wr hnm hpm (by rw [hkm]; exact h3) hl (by omega) om of_ hj)
              have HG := Lib.hid (And.intro g1 (And.intro g5 (And.intro hby hz2)))
              clear g1 g5 hby hz2 om of_ hl hj
              go_upto_region 8 with (fail)
              go_wp2_with fail
              refine HCC.out.mono ?_
              rintro e w' ⟨rfl, m3, a1, a2, a3, a4, a5, a6⟩
              obtain ⟨g1, g5, hby, hz2⟩ := HG.out
              have HJ := Lib.hid (And.intro (g1.fr a5 (Nat.le_refl _) (by decide)) (And.intro (g5.fr a5 (by omega) (by decide)) (And.intro a2 (And.intro a3 (And.intro a1 (And.intro a4 (And.intro (Nat.lt_of_lt_of_le hz2 a5.1) (a6 _ _ hby))))))))
              clear a1 a2 a3 a4 a5 a6 g1 g5 hby hz2 HG HCC
              go_wp2
              go_roundg (nt - (p + 1))
              case measure => omega
              case rel => exact ⟨p + 1, by omega, rfl, by go_num, Lib.hid ⟨m3, HJ.out⟩⟩
            · have k3 : ((kk.toNat : Int) == 3) = false := by rw [beq_eq_false_iff_ne]; omega
              have HJ := Lib.hid (HNO.out n p m2 wr hnm hpm (by rw [hkm]; exact h3) hj)
              clear hj
              go_wp2
              go_roundg (nt - (p + 1))
              case measure => omega
              case rel => exact ⟨p + 1, by omega, rfl, by go_num, Lib.hid ⟨m2, g1, g5, om, of_, hl, HJ.out, hz2, hby⟩⟩
          · obtain rfl : p = nt := by omega
            have HJ := Lib.hid (HNX.out n m2 wr hnm (by rw [hoob, ← hlk.2, HOF.out]; exact hj))
            clear hj ix
            go_wp2
            go_roundg (N - (n + 1))
            case measure => omega
            case rel => exact ⟨n + 1, by omega, rfl, by go_num, Lib.hid ⟨m2, g1, om, hl, HJ.out, by omega⟩⟩
      · obtain ⟨bo, bq, x0, o2, ix, p0, p1, ho2, hx0, hob2⟩ := (om.o.rd).at_ (k := n) (by rw [hl.2.1]; exact hnm)
        obtain rfl : o2 = o := by have := ho2.out; rw [ho] at this; injection this with e; exact e.symm
        obtain ⟨xA, xn, xc, rfl⟩ : ∃ A n c, x0 = .slice A n c := by obtain ⟨A, c, e, _⟩ := hx0.out; exact ⟨A, _, c, e⟩
        rw [hoq] at p0
        obtain rfl : nt = 0 := by omega
        clear hx0 ho2 hnt
        have HC := Lib.hid (And.intro hl (And.intro hj om))
        obtain ⟨wn, hwn⟩ : ∃ W, W = wr := ⟨_, rfl⟩
        subst hwn
        clear hh
        go_upto_region 4 with (fail)
        have b' := (Below.refl wn.heap.size wn).alloc (Nat.le_refl _) (.cells #[.int .i64 (q : Int), .slice xA xn xc] 72)
        refine wp_gen (fun Wv => Bx Wv wn.heap.size 72 #[.int .i64 (q : Int), .slice xA xn xc] ∧ Below wn.heap.size wn Wv ∧ wn.heap.size < Wv.heap.size) ?_ ?_
        · exact ⟨Bx.new wn _ _, b', by simp⟩
        clear b' p0 p1 ix
        rintro wb ⟨g5, b5, hz5⟩
        have HX := Lib.hid (And.intro (g1.below b5) (And.intro (OwnM.below HC.out.2.2 b5) (And.intro HC.out.1 (And.intro (HST.out _ _ _ _ _ HC.out.2.1 b5) hz5))))
        have c_g1 := (g1.below b5).cell
        have c_g5 := g5.cell
        have m3' := cell_later b5 m3
        clear g1 g5 b5 m3 HC om hj hl hby
        go_wp2
        clear c_g1 c_g5 m3' iy
        go_loopg [23] 0 (fun g i wr => g = 0 ∧ i = .int .i64 0 ∧ Hid (Bx wr w.heap.size 26 #[.slice tA tn tc, .slice oA on oc, .slice sA sn sc] ∧ OwnM wr B0 67 (.slice tA tn tc) (.slice oA on oc) (.slice sA sn sc) m' ∧ Like m m' ∧ J n 0 m' wr ∧ wn.heap.size < wr.heap.size))
        case atStart => exact ⟨rfl, rfl, HX⟩
        case round =>
          clear HX
          obtain ⟨rfl, rfl, hh⟩ := hrel
          obtain ⟨g1, om, hl, hj, hz2⟩ := hh.out
          have HJ := Lib.hid (HNX.out n m' wr hnm (by rw [hoob, ← hlk.2, HOF.out]; exact hj))
          go_wp2
          go_roundg (N - (n + 1))
          case measure => omega
          case rel => exact ⟨n + 1, by omega, rfl, by go_num, Lib.hid ⟨m', g1, om, hl, HJ.out, by omega⟩⟩
    · obtain rfl : n = N := by omega
      go_wp2
      refine bodyPost_end (results_none rfl _ _ _) rfl ?_
      refine ⟨rfl, m', hl, om, ?_⟩
      rw [← HN.out]; exact hj
end Go.Proofs.Ytgjpohhafmkhcaa
namespace Go.Proofs.Ytgjpohhafmkhcaa
open Go Go.RowKit
section
variable {P : Program} {ops : Array Oper} {w : World}
theorem wpStill_of_quiet {Q : Act → Prop} : ∀ (l : List Oper) (a : Act), wpQuiet P ops (fun W => W = w) Q l a → wpStill P ops w Q l a
  | [], a, h => h
  | o :: l, a, h => by
    unfold wpQuiet at h
    unfold wpStill
    by_cases hw : Region.wanted o (yielded ops a.tmps) = true
    · rw [if_pos hw] at h ⊢
      obtain ⟨v, h1, h2⟩ := h
      have h3 := h1 w rfl
      have h4 := wpStill_of_quiet l _ h2
      unfold Oper.quietAt at h3
      unfold Oper.still
      cases hr : (execOp a.eval o).run P w with
      | ok n w' =>
        rw [hr] at h3
        cases n with
        | value u => obtain ⟨e1, e2⟩ := h3; subst e2; exact ⟨e1, h4⟩
        | skip => obtain ⟨e1, e2⟩ := h3; subst e2; exact ⟨e1, h4⟩
        | enter f args => obtain ⟨e1, e2⟩ := h3; exact ⟨e1, v, e2, h4⟩
        | _ => exact absurd h3 id
      | halt x w' => rw [hr] at h3; exact absurd h3 id
    · rw [if_neg hw] at h ⊢
      exact wpStill_of_quiet l _ h
theorem wp_region_qtail {id : Nat} {Q : Exit → Act → World → Prop} {a : Act} {l : List Oper} (n : Nat) (hm : P.follows .mixedOrders = true) (hB : Region.lexTailB .any l.toArray n = true)
    (h : wpQuiet P l.toArray (fun W => W = w.drew) (fun a' => wpList P l.toArray Q (l.drop n) a' w.drew) (l.take n) a) : (Code.region id l.toArray true).wp P Q a w :=
  wp_region_still_tail n hm hB (wpStill_of_quiet _ _ h)
end
end Go.Proofs.Ytgjpohhafmkhcaa
namespace Go.Proofs.Ytgjpohhafmkhcaa
open Go.RowKit L02 L13 L18 L20
set_option maxRecDepth 100000 in
set_option maxHeartbeats 4000000 in
theorem Free1_any (k own gf i pb po : Nat) (v : UInt64) (b b' : Bool) (hb' : b' = (b || (decide (k ≠ own) && decide (v.toNat = own + 1)))) (ho : own ≤ 1000) (w : World)
    (hv : w.cell? ⟨gf, i, none⟩ = some (.int .u64 v.toNat)) (hf : w.frozen? ⟨gf, i, none⟩ = false) (g1 : Bx w pb 4 #[.bool b]) (g2 : Bx w po 3 #[.int .i64 own]) (n1 : gf ≠ pb) (n2 : po ≠ pb) :
    Calls Try.prog 57 #[.int .i64 k, .pointer (some ⟨gf, i, none⟩), .pointer (some ⟨pb, 0, none⟩), .pointer (some ⟨po, 0, none⟩)] w fun e w' => e = .returned (.tuple #[]) ∧
      ∃ q, w' = if own + 1 < v.toNat then (((w.drew).setCell ⟨pb, 0, none⟩ (.bool b')).drewN q).setCell ⟨gf, i, none⟩ (.int .u64 (v.toNat - 1 : Nat)) else ((w.drew).setCell ⟨pb, 0, none⟩ (.bool b')).drewN q := by
  obtain ⟨vn, hvn⟩ : ∃ n, n = v.toNat := ⟨_, rfl⟩
  have hvl := v.toNat_lt
  rw [← hvn] at hv hb' hvl ⊢
  have c1 := g1.cell; have f1 := g1.free; have c2 := g2.cell
  have hw1 : IntKind.u64.wrap (own : Int) = (own : Int) := by show (own : Int) % 18446744073709551616 = _; omega
  have hw2 : IntKind.u64.wrap ((own : Int) + 1) = (own : Int) + 1 := by show ((own : Int) + 1) % 18446744073709551616 = _; omega
  have HB := Lib.hid hb'
  clear hb' hvn
  obtain ⟨R, hR⟩ : ∃ R : World → Prop, R = fun w' => ∃ q, w' = if own + 1 < vn then (((w.drew).setCell ⟨pb, 0, none⟩ (.bool b')).drewN q).setCell ⟨gf, i, none⟩ (.int .u64 (vn - 1 : Nat)) else ((w.drew).setCell ⟨pb, 0, none⟩ (.bool b')).drewN q := ⟨_, rfl⟩
  have HR := Lib.hid hR
  have HG := Lib.hid (And.intro (show Bx w.drew pb 4 #[.bool b] from g1) (And.intro (show Bx w.drew po 3 #[.int .i64 own] from g2) (And.intro (show w.drew.cell? ⟨gf, i, none⟩ = some (.int .u64 vn) from hv) (show w.drew.frozen? ⟨gf, i, none⟩ = false from hf))))
  have main : Calls Try.prog 57 #[.int .i64 k, .pointer (some ⟨gf, i, none⟩), .pointer (some ⟨pb, 0, none⟩), .pointer (some ⟨po, 0, none⟩)] w fun e w' => e = .returned (.tuple #[]) ∧ R w' := by
    clear hR g1 g2
    have cases : (b = true ∧ b' = true) ∨ (b = false ∧ b' = false ∧ ((k : Int) != (own : Int)) = false) ∨ (b = false ∧ b' = false ∧ ((k : Int) != (own : Int)) = true ∧ ((vn : Int) == (own : Int) + 1) = false) ∨ (b = false ∧ b' = true ∧ ((k : Int) != (own : Int)) = true ∧ ((vn : Int) == (own : Int) + 1) = true) := by
      rw [HB.out]
      cases b
      · refine .inr ?_
        by_cases hk : k = own
        · exact .inl ⟨rfl, by simp [hk], by rw [bne_eq_false_iff_eq]; omega⟩
        · refine .inr ?_
          by_cases h2 : vn = own + 1
          · exact .inr ⟨rfl, by simp [hk, h2], by rw [bne_iff_ne]; omega, by rw [beq_iff_eq]; omega⟩
          · exact .inl ⟨rfl, by simp [h2], by rw [bne_iff_ne]; omega, by rw [beq_eq_false_iff_ne]; omega⟩
      · exact .inl ⟨rfl, by simp⟩
    rcases cases with ⟨rfl, rfl⟩ | ⟨rfl, rfl, hk1⟩ | ⟨rfl, rfl, hk1, hv1⟩ | ⟨rfl, rfl, hk1, hv1⟩
    all_goals
      clear HB
      go_enter Try.func57, Try.ntmps57
      go_upto_region 0 with (fail)
      refine wp_region_qtail 15 (by kernel_rfl) (by kernel_rfl) ?_
      simp only [List.take_succ_cons, List.take_zero, List.drop_succ_cons, List.drop_zero]
      iterate 15 (go_big_quiet_step (fail))
      refine wpQuiet_nil ?_
      clear c1 f1 c2 hv hf
      have c1 := HG.out.1.cell; have f1 := HG.out.1.free
      go_upto_region 1 with (fail)
      refine wp_gen (fun Wv => Wv = (w.drew).setCell ⟨pb, 0, none⟩ (.bool _)) rfl ?_
      intro W hW
      have hv : W.cell? ⟨gf, i, none⟩ = some (.int .u64 vn) := by rw [hW]; exact cell_far (q := ⟨pb, 0, none⟩) HG.out.2.2.1 n1
      have hf : W.frozen? ⟨gf, i, none⟩ = false := by rw [hW, World.frozen?_setCell]; exact HG.out.2.2.2
      have c2 : ∀ i : Nat, W.cell? ⟨po, i, none⟩ = #[Value.int .i64 (own : Int)][i]? := fun i => by rw [hW]; exact (HG.out.2.1.far (p := ⟨pb, 0, none⟩) n2 _).cell i
      have HW := Lib.hid hW
      clear hW HG c1 f1
      try clear hk1 hv1
      try clear hk1
      by_cases hlt : own + 1 < vn
      · have hd : decide ((own : Int) + 1 < (vn : Int)) = true := by rw [decide_eq_true_iff]; omega
        have hw3 : IntKind.u64.wrap ((vn : Int) - 1) = (vn : Int) - 1 := by show ((vn : Int) - 1) % 18446744073709551616 = _; omega
        go_big_quiet (fail)
        go_wp2
        refine bodyPost_end (results_none rfl _ _ _) rfl ⟨rfl, ?_⟩
        rw [HR.out]
        refine ⟨nq, ?_⟩
        rw [if_pos hlt, ← HW.out]
        congr 2; omega
      · have hd : decide ((own : Int) + 1 < (vn : Int)) = false := by rw [decide_eq_false_iff_not]; omega
        go_big_quiet (fail)
        go_wp2
        refine bodyPost_end (results_none rfl _ _ _) rfl ⟨rfl, ?_⟩
        rw [HR.out]
        refine ⟨nq, ?_⟩
        rw [if_neg hlt, ← HW.out]
  subst hR; exact main
set_option maxRecDepth 100000 in
set_option maxHeartbeats 4000000 in
theorem Canon1_any (k gf i pc pf : Nat) (v : UInt64) (tv ov sv nv rv : Value) (ks : List Int) (x : Int) (w : World) (hx : 0 < v.toNat → ks[v.toNat - 1]? = some x) (hx0 : 0 ≤ x ∧ x ≤ 1000) (hl : v.toNat ≤ 1000)
    (hv : w.cell? ⟨gf, i, none⟩ = some (.int .u64 v.toNat)) (hf : w.frozen? ⟨gf, i, none⟩ = false) (g1 : Bx w pc 93 #[.pointer (some ⟨pf, 0, none⟩)]) (g2 : Bx w pf 95 #[tv, ov, sv, nv, rv]) (hn : Ints w nv ks) :
    Calls Try.prog 53 #[.int .i64 k, .pointer (some ⟨gf, i, none⟩), .pointer (some ⟨pc, 0, none⟩)] w fun e w' => e = .returned (.tuple #[]) ∧
      w' = if 0 < v.toNat then (w.drew).setCell ⟨gf, i, none⟩ (.int .u64 x) else w := by
  obtain ⟨vn, hvn⟩ : ∃ n, n = v.toNat := ⟨_, rfl⟩
  rw [← hvn] at hv hx hl ⊢
  have c1 := g1.cell; have c2 := g2.cell
  have hw3 : IntKind.u64.wrap x = x := by show x % 18446744073709551616 = _; omega
  obtain ⟨R, hR⟩ : ∃ R : World → Prop, R = fun w' => w' = if 0 < vn then (w.drew).setCell ⟨gf, i, none⟩ (.int .u64 x) else w := ⟨_, rfl⟩
  have HR := Lib.hid hR; have HN := Lib.hid hn; have HX := Lib.hid hx
  have main : Calls Try.prog 53 #[.int .i64 k, .pointer (some ⟨gf, i, none⟩), .pointer (some ⟨pc, 0, none⟩)] w fun e w' => e = .returned (.tuple #[]) ∧ R w' := by
    clear hR g1 g2 hn hvn hx
    by_cases h0 : 0 < vn
    · obtain ⟨q, rfl⟩ : ∃ q, vn = q + 1 := ⟨vn - 1, by omega⟩
      have hxx := HX.out h0
      rw [Nat.add_sub_cancel] at hxx
      obtain ⟨nd, x2, ind, m6, hx2⟩ := HN.out.atU (k := q) (List.getElem?_eq_some_iff.1 hxx).1
      obtain rfl : x2 = x := by have := hx2.out; rw [hxx] at this; injection this with e; exact e.symm
      have hv' : w.cell? ⟨gf, i, none⟩ = some (.int .u64 ((q : Int) + 1)) := by rw [hv]; rfl
      have hne : ((q : Int) + 1 != 0) = true := by rw [bne_iff_ne]; omega
      have z2 : IntKind.u64.wrap (q : Int) = (q : Int) := by show (q : Int) % 18446744073709551616 = _; omega
      clear hv h0 hx2 hxx
      go_enter Try.func53, Try.ntmps53
      go_upto_region 1 with (fail)
      refine wp_region_qtail 13 (by kernel_rfl) (by kernel_rfl) ?_
      simp only [List.take_succ_cons, List.take_zero, List.drop_succ_cons, List.drop_zero]
      iterate 13 (go_big_quiet_step (fail))
      refine wpQuiet_nil ?_
      have hv2 : w.drew.cell? ⟨gf, i, none⟩ = some (.int .u64 ((q : Int) + 1)) := hv'
      have hf2 : w.drew.frozen? ⟨gf, i, none⟩ = false := hf
      clear c1 c2 m6 hv' hf
      go_wp2
      refine bodyPost_end (results_none rfl _ _ _) rfl ⟨rfl, ?_⟩
      rw [HR.out]
      show _ = if 0 < q + 1 then _ else _
      rw [if_pos (by omega)]
      rfl
    · obtain rfl : vn = 0 := by omega
      have hv' : w.cell? ⟨gf, i, none⟩ = some (.int .u64 0) := by rw [hv]; rfl
      clear hv
      go_enter Try.func53, Try.ntmps53
      go_wp2
      refine bodyPost_end (results_none rfl _ _ _) rfl ⟨rfl, ?_⟩
      rw [HR.out]
      rfl
  subst hR; exact main
end Go.Proofs.Ytgjpohhafmkhcaa
namespace Go.Proofs.Ytgjpohhafmkhcaa
open Go.RowKit L02 L13 L18 L20
theorem obC_erase : ∀ {L : List Ob} {vs : List Value} {i : Nat}, vs.length = L.length → obC (L.eraseIdx i) (vs.eraseIdx i) = (obC L vs).take (i * 2) ++ (obC L vs).drop ((i + 1) * 2)
  | [], [], i, _ => by simp [obC]
  | [], _ :: _, _, h => by simp at h
  | _ :: _, [], _, h => by simp at h
  | o :: L, x :: vs, 0, h => by simp [obC]
  | o :: L, x :: vs, i + 1, h => by
    rw [List.eraseIdx_cons_succ, List.eraseIdx_cons_succ, obC, obC_erase (by simpa using h), obC]
    rw [show (i + 1) * 2 = i * 2 + 1 + 1 by omega, show (i + 1 + 1) * 2 = (i * 2 + 1 + 1) + 1 + 1 by omega]
    simp
theorem run_clear_obj (w : World) (ty : TypeId) (b o c : Nat) (hc : ∀ j, j < 2 → (w.cell? ⟨b, o + j, none⟩).isSome = true) (hf : ∀ j, j < 2 → w.frozen? ⟨b, o + j, none⟩ = false) :
    (Builtin.clear_ #[23] ty #[.slice (some ⟨b, o, none⟩) 1 c]).run Try.prog w = .ok (.tuple #[]) (w.setCells b o [.int .i64 0, .slice none 0 0]) := by
  have hst := run_storeCells_cells (P := Try.prog) b o [.int .i64 0, .slice none 0 0] 0 w (by simpa using hc) (by simpa using hf) (by simp [Value.oneCell'])
  simp only [Nat.add_zero] at hst
  obtain ⟨i, hi1, hi2, hi3, hi4⟩ := info3 info_obj
  have hz : (zeroValue 72).run Try.prog w = .ok (.agg #[.int .i64 0, .slice none 0 0]) w := by
    simp [zeroValue, typeInfo, hi1, hi2, go_sem]
  have hzc : (Builtin.zeroCells (Value.agg #[.int .i64 0, .slice none 0 0]).cells 1).toList = [.int .i64 0, .slice none 0 0] := by kernel_rfl
  simp [Builtin.clear_, run_underlying Try.underlying23, hz, hzc, hst]
section
variable {P : Program} {ops : Array Oper} {rest : List Oper} {o : Oper} {a : Act} {Q : Exit → Act → World → Prop} {w : World}
/-- append where there is room -/
theorem wpList_appendRoom (hgd : Region.wanted o (yielded ops a.tmps) = true) {s x : Operand} {t e : TypeId} (ho : o.op = .call { callee := .builtin .append, args := #[s, x], argTypes := #[t, t] }) (ht : P.underlying t = some (.slice e)) {size : Nat} (hi : (P.info? e).map (·.size) = some size)
    {b off n cap : Nat} (hs : a.eval s = .slice (some ⟨b, off, none⟩) n cap) {ad : Addr} {m c : Nat} (news : List Value) (hx : a.eval x = .slice (some ad) m c) (hn : news.length = m * size) (hc : ∀ j u, news[j]? = some u → w.cell? (ad.add j) = some u) (h1 : ∀ u ∈ news, u.oneCell' = true)
    (hroom : n + m ≤ cap) (hspare : ∀ j, j < news.length → (w.cell? ⟨b, off + n * size + j, none⟩).isSome = true ∧ w.frozen? ⟨b, off + n * size + j, none⟩ = false)
    (h : wpList P ops Q rest (a.put o.dst (.slice (some ⟨b, off, none⟩) (n + m) cap)) (w.setCells b (off + n * size) news)) : wpList P ops Q (o :: rest) a w := by
  obtain ⟨i, hi', rfl⟩ := Option.map_eq_some_iff.1 hi
  have hrun := run_append_room_cells (P := P) w t o.type e i ht hi' b off n cap ad m c news hn hc h1 hroom (fun j hj => (hspare j hj).1) (fun j hj => (hspare j hj).2)
  refine wpList_wanted hgd fun K hK => ?_
  unfold Oper.wp
  simp [execOp, ho, resolve, invoke, builtin, hs, hx, hrun, Result.andThen]
  exact hK _ _ h
end
theorem setCells_size (g : Nat) : ∀ (l : List Value) (o : Nat) (w : World), (w.setCells g o l).heap.size = w.heap.size
  | [], _, _ => rfl
  | v :: r, o, w => by rw [World.setCells, setCells_size g r]; simp [World.setCell]
theorem setCells_os (g : Nat) : ∀ (l : List Value) (o : Nat) (w : World), (w.setCells g o l).os = w.os ∧ (w.setCells g o l).tape = w.tape ∧ (w.setCells g o l).output = w.output
  | [], _, _ => ⟨rfl, rfl, rfl⟩
  | v :: r, o, w => by rw [World.setCells]; exact setCells_os g r (o + 1) _
theorem setCells_block (g : Nat) {k : Nat} (hk : k ≠ g) : ∀ (l : List Value) (o : Nat) (w : World), (w.setCells g o l).heap[k]? = w.heap[k]?
  | [], _, _ => rfl
  | v :: r, o, w => by rw [World.setCells, setCells_block g hk r]; exact Below.heap_setCell w ⟨g, o, none⟩ v k hk
theorem setCells_grown (g o : Nat) (l : List Value) (w : World) : w.grownBy (w.setCells g o l) (some g) :=
  ⟨(setCells_os g l o w).1, (setCells_os g l o w).2.1, (setCells_os g l o w).2.2, by rw [setCells_size]; exact Nat.le_refl _, fun k hk hne => setCells_block g (by intro e; exact hne (by rw [e])) l o w⟩
set_option maxRecDepth 100000 in
set_option maxHeartbeats 4000000 in
theorem Delete_any (g n cap i j B : Nat) (xs : List Value) (hj : j = i + 1) (hi : i < n) (hn : n ≤ 1000) (w : World) (h : w.ownsRow B 72 2 (.slice (some ⟨g, 0, none⟩) n cap) n xs) (h1 : ∀ u ∈ xs, u.oneCell' = true) :
    Calls Try.prog 58 #[.slice (some ⟨g, 0, none⟩) n cap, .int .i64 i, .int .i64 j] w fun e w' => e = .returned (.slice (some ⟨g, 0, none⟩) (n - 1 : Nat) cap) ∧
      w'.ownsRow B 72 2 (.slice (some ⟨g, 0, none⟩) (n - 1) cap) (n - 1) (xs.take (i * 2) ++ xs.drop ((i + 1) * 2)) ∧ w.grownBy w' (some g) := by
  obtain ⟨g', cap', cur, hv, hB, hg, hnc, hcm, hcs, htk⟩ := own_form h (by omega)
  injection hv with e1 e2 e3; injection e1 with e1; injection e1 with e1; subst e1; subst e3
  have hxl := h.1
  obtain ⟨news, hnews⟩ : ∃ l, l = xs.drop ((i + 1) * 2) := ⟨_, rfl⟩
  have hnl : news.length = (n - j) * 2 := by rw [hnews, List.length_drop, hxl]; omega
  have hcell : ∀ (k : Nat) u, xs[k]? = some u → w.cell? ⟨g, k, none⟩ = some u := fun k u hu => by
    rw [blk_cell hg]
    rw [← htk, List.getElem?_take] at hu
    split at hu
    · simpa using hu
    · cases hu
  obtain ⟨A, hA, hsrc⟩ : ∃ A : Addr, (if cap = j then some (⟨g, 0, none⟩ : Addr) else some ⟨g, j * 2, none⟩) = some A ∧ ∀ t u, news[t]? = some u → w.drew.cell? (A.add t) = some u := by
    by_cases hc : cap = j
    · refine ⟨⟨g, 0, none⟩, by simp [hc], fun t u hu => ?_⟩
      have h0 : news.length = 0 := by rw [hnl]; omega
      rw [List.length_eq_zero_iff.1 h0] at hu
      simp at hu
    · refine ⟨⟨g, j * 2, none⟩, by simp [hc], fun t u hu => ?_⟩
      rw [hnews, List.getElem?_drop] at hu
      rw [Addr.add_lit]
      have := hcell _ u hu
      rw [hj]; exact this
  have hone : ∀ u ∈ news, u.oneCell' = true := fun u hu => h1 u (by rw [hnews] at hu; exact List.mem_of_mem_drop hu)
  have hspare : ∀ t, t < news.length → (w.drew.cell? ⟨g, 0 + i * 2 + t, none⟩).isSome = true ∧ w.drew.frozen? ⟨g, 0 + i * 2 + t, none⟩ = false := fun t ht => by
    refine ⟨?_, blk_free (w := w.drew) hg _⟩
    have := blk_cell (w := w.drew) hg (0 + i * 2 + t)
    rw [this, Array.getElem?_eq_getElem (by rw [hcs, hnl] at *; omega)]; rfl
  obtain ⟨W1, hW1⟩ : ∃ W, W = w.drew.setCells g (0 + i * 2) news := ⟨_, rfl⟩
  have hg1 : Bx W1 g 72 (putL cur (0 + i * 2) news) := by rw [hW1]; exact Bx.setCells news (0 + i * 2) (show Bx w.drew g _ cur from hg)
  have hsz1 : (putL cur (0 + i * 2) news).size = cap * 2 := by rw [putL_size]; exact hcs
  have hcl := run_clear_obj W1 0 g ((n - 1) * 2) (cap - (n - 1)) (fun k hk => by rw [hg1.cell, Array.getElem?_eq_getElem (by rw [hsz1]; omega)]; rfl) (fun k hk => hg1.free _)
  obtain ⟨W2, hW2⟩ : ∃ W, W = W1.setCells g ((n - 1) * 2) [.int .i64 0, .slice none 0 0] := ⟨_, rfl⟩
  rw [← hW2] at hcl
  have hg2 : Bx W2 g 72 (putL (putL cur (0 + i * 2) news) ((n - 1) * 2) [.int .i64 0, .slice none 0 0]) := by rw [hW2]; exact hg1.setCells _ _
  have HFIN := Lib.hid (show W2.ownsRow B 72 2 (.slice (some ⟨g, 0, none⟩) (n - 1) cap) (n - 1) (xs.take (i * 2) ++ xs.drop ((i + 1) * 2)) ∧ w.grownBy W2 (some g) from by
    refine ⟨⟨by rw [List.length_append, List.length_take, List.length_drop, hxl]; omega, .inr ⟨g, cap, _, rfl, hB, hg2, by omega, hcm, by rw [putL_size]; exact hsz1, ?_⟩⟩, ?_⟩
    · apply List.ext_getElem?
      intro k
      rw [List.getElem?_take]
      split
      · rename_i hk
        rw [Array.getElem?_toList, putL_get _ _ _ _ (by rw [hsz1]; simp; omega), if_neg (by omega), putL_get _ _ _ _ (by rw [hnl, hcs]; omega)]
        by_cases hki : k < i * 2
        · rw [if_neg (by omega), List.getElem?_append_left (by rw [List.length_take, hxl]; omega), List.getElem?_take, if_pos hki, ← htk, List.getElem?_take, if_pos (by omega), Array.getElem?_toList]
        · rw [if_pos (by rw [hnl]; omega), List.getElem?_append_right (by rw [List.length_take, hxl]; omega), hnews, List.length_take, hxl]
          congr 1; omega
      · rename_i hk
        rw [List.getElem?_eq_none (by rw [List.length_append, List.length_take, List.length_drop, hxl]; omega)]
    · have k1 := setCells_grown g (0 + i * 2) news w.drew
      have k2 := setCells_grown g ((n - 1) * 2) [.int .i64 0, .slice none 0 0] W1
      rw [← hW1] at k1; rw [← hW2] at k2
      exact ⟨k2.os.trans k1.os, k2.tape.trans k1.tape, k2.output.trans k1.output, Nat.le_trans k1.size k2.size, fun k hk hne => (k2.block k (Nat.lt_of_lt_of_le hk k1.size) hne).trans (k1.block k hk hne)⟩)
  have HA := Lib.hid (And.intro hA (And.intro hsrc (And.intro hone (And.intro hspare (And.intro hnl (And.intro hW1 hj))))))
  have hb1 : i ≤ cap := by omega
  have hb2 : j ≤ cap := by omega
  have hb3 : i ≤ j := by omega
  have hb4 : j ≤ n := by omega
  have hne : ((i : Int) == (j : Int)) = false := by rw [beq_eq_false_iff_ne]; omega
  clear hW2 hg2 hW1 hg1 hsz1 hspare hone hsrc hcell hnl hnews htk hcs hcm hg hB h hxl h1 hj
  go_enter Try.func58, Try.ntmps58
  go_upto_region 5 with (fail)
  refine wp_region_qtail 6 (by kernel_rfl) (by kernel_rfl) ?_
  simp only [List.take_succ_cons, List.take_zero, List.drop_succ_cons, List.drop_zero]
  iterate 6 (go_big_quiet_step (fail))
  refine wpQuiet_nil ?_
  refine wpList_appendRoom (by rfl) (s := .tmp 22) (x := .tmp 25) rfl Try.underlying23 size_obj (b := g) (off := 0) (n := i) (cap := cap) (by rfl) (ad := A) (m := n - j) (c := cap - j) news (by rw [← HA.out.1]; rfl) HA.out.2.2.2.2.1 HA.out.2.1 HA.out.2.2.1 (by omega) HA.out.2.2.2.1 ?_
  rw [← HA.out.2.2.2.2.2.1]
  have hij : i + (n - j) = n - 1 := by have := HA.out.2.2.2.2.2.2; omega
  rw [hij]
  simp only [Act.put, List.setIfInBounds_toArray, List.set_cons_zero, List.set_cons_succ]
  obtain ⟨n1, hn1⟩ : ∃ n1, n1 = n - 1 := ⟨_, rfl⟩
  rw [← hn1] at hcl ⊢
  have hc1 : ¬ cap = n1 := by omega
  have hc2 : n - n1 = 1 := by omega
  have hc3 : n1 ≤ n := by omega
  have hc4 : n ≤ cap := hnc
  have HN := Lib.hid hn1
  clear hij hn1 hne hb1 hb2 hb3 hb4 hi
  go_wp2
  go_ret
  rw [← HN.out] at HFIN ⊢
  exact ⟨rfl, HFIN.out⟩
/-- an object is taken away -/
theorem OwnO.erase {w : World} {B g n cap : Nat} {L : List Ob} (h : OwnO w B (.slice (some ⟨g, 0, none⟩) n cap) L) {i : Nat} (hi : i < L.length) (hn : L.length ≤ 1000) :
    n = L.length ∧ ∃ xs, w.ownsRow B 72 2 (.slice (some ⟨g, 0, none⟩) n cap) n xs ∧ (∀ u ∈ xs, u.oneCell' = true) ∧ ∀ W, w.grownBy W (some g) → W.ownsRow B 72 2 (.slice (some ⟨g, 0, none⟩) (n - 1) cap) (n - 1) (xs.take (i * 2) ++ xs.drop ((i + 1) * 2)) → OwnO W B (.slice (some ⟨g, 0, none⟩) (n - 1) cap) (L.eraseIdx i) := by
  obtain ⟨vs, h1, h2, h4, h5⟩ := h
  obtain ⟨g', cap', cur, hv, _⟩ := own_form h2 (by omega)
  injection hv with e1 e2 e3
  subst e2
  refine ⟨rfl, _, h2, ?_, fun W hg ho => ⟨vs.eraseIdx i, ?_, ?_, ?_, ?_⟩⟩
  · intro u hu
    have : ∀ (L : List Ob) (vs : List Value), (∀ x ∈ vs, x.oneCell' = true) → ∀ u ∈ obC L vs, u.oneCell' = true := by
      intro L
      induction L with
      | nil => intro vs _ u hu; simp [obC] at hu
      | cons o L ih =>
        intro vs hvs u hu
        cases vs with
        | nil => simp [obC] at hu
        | cons x vs =>
          rw [obC] at hu
          rcases List.mem_cons.1 hu with h | h
          · rw [h]; rfl
          · rcases List.mem_cons.1 h with h | h
            · rw [h]; exact hvs x List.mem_cons_self
            · exact ih vs (fun y hy => hvs y (List.mem_cons_of_mem _ hy)) u h
    refine this L vs (fun x hx => ?_) u hu
    obtain ⟨k, hk⟩ := List.mem_iff_getElem?.1 hx
    have hkl : k < L.length := by rw [← h1]; exact (List.getElem?_eq_some_iff.1 hk).1
    exact (h4 k x _ hk (List.getElem?_eq_getElem hkl)).rd.oneCell
  · rw [List.length_eraseIdx_of_lt (by omega), List.length_eraseIdx_of_lt hi, h1]
  · rw [List.length_eraseIdx_of_lt hi, obC_erase h1]; exact ho
  · intro k x o hx ho2
    rw [List.getElem?_eraseIdx] at hx ho2
    split at hx
    · rename_i hk
      rw [if_pos hk] at ho2
      have := h4 k x o hx ho2
      exact World.ownsRow.kept this hg (own_unlike this h2 (by decide))
    · rename_i hk
      rw [if_neg hk] at ho2
      have := h4 _ x o hx ho2
      exact World.ownsRow.kept this hg (own_unlike this h2 (by decide))
  · intro a b x y hab hx hy
    rw [List.getElem?_eraseIdx] at hx hy
    split at hx <;> split at hy <;> exact h5 _ _ x y (by omega) hx hy
end Go.Proofs.Ytgjpohhafmkhcaa
namespace Go.Proofs.Ytgjpohhafmkhcaa.L20
open L02 L13 L18
/-- the first j of a list changed -/
def mapT {α : Type} (f : α → α) (L : List α) (j : Nat) : List α := (L.take j).map f ++ L.drop j
section
variable {α : Type} {f : α → α} {L : List α} {k : Nat} {s : α}
theorem mapT_zero : mapT f L 0 = L := by simp [mapT]
theorem mapT_done (h : L.length ≤ k) : mapT f L k = L.map f := by simp [mapT, List.take_of_length_le h, List.drop_of_length_le h]
theorem mapT_len : (mapT f L k).length = L.length := by simp [mapT]; omega
theorem mapT_get (hs : L[k]? = some s) : (mapT f L k)[k]? = some s := by
  have hk : k < L.length := (List.getElem?_eq_some_iff.1 hs).1
  rw [mapT, List.getElem?_append_right (by simp; omega)]
  simp [Nat.min_eq_left (Nat.le_of_lt hk), hs]
theorem mapT_set (hs : L[k]? = some s) : (mapT f L k).set k (f s) = mapT f L (k + 1) := by
  have hk : k < L.length := (List.getElem?_eq_some_iff.1 hs).1
  have hd : L.drop k = s :: L.drop (k + 1) := by
    rw [List.drop_eq_getElem_cons hk]; congr 1
    rw [List.getElem?_eq_getElem hk] at hs; injection hs
  rw [mapT, mapT, List.take_add_one, hs, hd]
  rw [List.set_append_right _ _ (by simp; omega)]
  simp [Nat.min_eq_left (Nat.le_of_lt hk)]
theorem mapT_same (hs : L[k]? = some s) (hf : f s = s) : mapT f L (k + 1) = mapT f L k := by
  rw [← mapT_set hs, hf]
  apply List.ext_getElem?
  intro i
  by_cases hi : i = k
  · subst hi
    rw [List.getElem?_set_self (by rw [mapT_len]; exact (List.getElem?_eq_some_iff.1 hs).1), mapT_get hs]
  · rw [List.getElem?_set_ne (Ne.symm hi)]
end
/-- a field of another object, before field i of object n, refers to q -/
def refTo (m : Mo) (q n i : Nat) : Prop := ∃ a b, (a < n ∨ a = n ∧ b < i) ∧ a < m.objs.length ∧ b < (ob m a).fs.length ∧ a ≠ q ∧ isRef m (ob m a) b q
/-- a slot before j refers to q -/
def sloTo (S : List Sl) (q j : Nat) : Prop := ∃ a s, a < j ∧ S[a]? = some s ∧ s.used = true ∧ s.at_ = (q : Int)
section
variable {m : Mo} {q n i : Nat}
theorem refTo_zero : ¬ refTo m q 0 0 := by rintro ⟨a, b, h, _⟩; omega
theorem refTo_next (hn : n < m.objs.length) : refTo m q n (ob m n).fs.length ↔ refTo m q (n + 1) 0 := by
  constructor
  · rintro ⟨a, b, h, h1, h2, h3⟩; exact ⟨a, b, by omega, h1, h2, h3⟩
  · rintro ⟨a, b, h, h1, h2, h3⟩
    refine ⟨a, b, ?_, h1, h2, h3⟩
    by_cases ha : a = n
    · subst ha; exact .inr ⟨rfl, h2⟩
    · exact .inl (by omega)
theorem refTo_step (hn : n < m.objs.length) (hi : i < (ob m n).fs.length) : refTo m q n (i + 1) ↔ (refTo m q n i ∨ (n ≠ q ∧ isRef m (ob m n) i q)) := by
  constructor
  · rintro ⟨a, b, h, h1, h2, h3, h4⟩
    by_cases hab : a = n ∧ b = i
    · obtain ⟨rfl, rfl⟩ := hab; exact .inr ⟨h3, h4⟩
    · exact .inl ⟨a, b, by omega, h1, h2, h3, h4⟩
  · rintro (⟨a, b, h, h1, h2, h3, h4⟩ | ⟨h3, h4⟩)
    · exact ⟨a, b, by omega, h1, h2, h3, h4⟩
    · exact ⟨n, i, by omega, hn, hi, h3, h4⟩
theorem refTo_done : refTo m q m.objs.length 0 ↔ ∃ i, i < m.objs.length ∧ i ≠ q ∧ ∃ k, k < (ob m i).fs.length ∧ isRef m (ob m i) k q := by
  constructor
  · rintro ⟨a, b, h, h1, h2, h3, h4⟩; exact ⟨a, h1, h3, b, h2, h4⟩
  · rintro ⟨a, h1, h3, b, h2, h4⟩; exact ⟨a, b, .inl h1, h1, h2, h3, h4⟩
theorem sloTo_zero {S : List Sl} : ¬ sloTo S q 0 := by rintro ⟨a, s, h, _⟩; omega
theorem sloTo_step {S : List Sl} {j : Nat} {s : Sl} (hs : S[j]? = some s) : sloTo S q (j + 1) ↔ (sloTo S q j ∨ (s.used = true ∧ s.at_ = (q : Int))) := by
  constructor
  · rintro ⟨a, t, h, h1, h2⟩
    by_cases ha : a = j
    · subst ha; rw [hs] at h1; injection h1 with h1; subst h1; exact .inr h2
    · exact .inl ⟨a, t, by omega, h1, h2⟩
  · rintro (⟨a, t, h, h1, h2⟩ | h2)
    · exact ⟨a, t, by omega, h1, h2⟩
    · exact ⟨j, s, by omega, hs, h2⟩
/-- what keeps an object from being freed -/
theorem busy_iff {k : Nat} {g : Int} (hk : k < m.slots.length) (n : Nat) : Busy m (k : Int) n ↔ (sloTo (m.slots.set k ⟨g, false, 0⟩) n m.slots.length ∨ refTo m n m.objs.length 0) := by
  rw [refTo_done]
  refine or_congr ?_ Iff.rfl
  constructor
  · rintro ⟨i, hi, hne, hu, ha⟩
    refine ⟨i, m.slots[i], hi, ?_, ?_⟩
    · rw [List.getElem?_set_ne (by omega), List.getElem?_eq_getElem hi]
    · simp only [List.getD_eq_getElem?_getD, List.getElem?_eq_getElem hi, Option.getD_some] at hu ha
      exact ⟨hu, ha⟩
  · rintro ⟨i, s, hi, hs, hu, ha⟩
    by_cases hik : k = i
    · subst hik
      rw [List.getElem?_set_self hk] at hs
      injection hs with hs; subst hs; cases hu
    · rw [List.getElem?_set_ne hik] at hs
      refine ⟨i, hi, by omega, ?_, ?_⟩
      · simp [List.getD_eq_getElem?_getD, hs, hu]
      · simp [List.getD_eq_getElem?_getD, hs, ha]
end
/-- the numbers behind an object that is taken away -/
def freeN (N q : Nat) : List Int := (List.range N).map fun n => if n < q then (n : Int) else if n = q then -1 else (n : Int) - 1
theorem freeN_get {N q n : Nat} (h : n < N) : (freeN N q)[n]? = some (if n < q then (n : Int) else if n = q then -1 else (n : Int) - 1) := by simp [freeN, h]
theorem freeN_snoc (N q : Nat) : freeN (N + 1) q = freeN N q ++ [if N < q then (N : Int) else if N = q then -1 else (N : Int) - 1] := by simp [freeN, List.range_succ]
theorem range_filter (a : Nat) : ∀ N, (List.range N).filter (fun n => decide (n = a)) = if a < N then [a] else []
  | 0 => by simp
  | N + 1 => by
    rw [List.range_succ, List.filter_append, range_filter a N]
    by_cases h : a < N
    · rw [if_pos h, if_pos (by omega)]
      have : ¬ N = a := by omega
      simp [this]
    · rw [if_neg h]
      by_cases h2 : a = N
      · subst h2; simp
      · rw [if_neg (by omega)]
        have : ¬ N = a := fun e => h2 e.symm
        simp [this]
def sk (q w : Nat) : Nat := if w < q then w else w + 1
theorem numN_free (m : Mo) (N q w : Nat) (hw : w < N) (hq : q < N) : numN m (freeN N q) w N = if sk q w < N then [numO m (freeN N q) (ob m (sk q w))] else [] := by
  have e : (List.range N).filter (fun n => decide ((freeN N q).getD n (-2) = (w : Int))) = (List.range N).filter (fun n => decide (n = sk q w)) := by
    refine List.filter_congr fun n hn => ?_
    have hn := List.mem_range.1 hn
    rw [List.getD_eq_getElem?_getD, freeN_get hn, Option.getD_some]
    congr 1
    rw [sk, eq_iff_iff]
    by_cases h1 : n < q
    · rw [if_pos h1]
      split <;> omega
    · rw [if_neg h1]
      by_cases h2 : n = q
      · rw [if_pos h2]; split <;> omega
      · rw [if_neg h2]; split <;> omega
  rw [numN, e, range_filter]
  split <;> simp
theorem numJ_free (m : Mo) (N q : Nat) (hq : q < N) (hl : (freeN N q).length = N) : ∀ j, j ≤ N → numJ m (freeN N q) j = (List.range (min j (N - 1))).map fun w => numO m (freeN N q) (ob m (sk q w))
  | 0, _ => by simp [numJ]
  | j + 1, h => by
    rw [numJ_succ, numJ_free m N q hq hl j (by omega), hl, numN_free m N q j (by omega) hq]
    by_cases hj : j < N - 1
    · rw [if_pos (by rw [sk]; split <;> omega), Nat.min_eq_left (by omega), Nat.min_eq_left (by omega), List.range_succ, List.map_append]; rfl
    · rw [if_neg (by rw [sk]; split <;> omega), Nat.min_eq_right (by omega), Nat.min_eq_right (by omega), List.append_nil]
theorem eraseIdx_range {α : Type} (L : List α) (d : α) {q : Nat} (hq : q < L.length) : L.eraseIdx q = (List.range (L.length - 1)).map fun w => L.getD (sk q w) d := by
  apply List.ext_getElem?
  intro i
  rcases Nat.lt_or_ge i (L.length - 1) with h | h
  · rw [List.getElem?_map, List.getElem?_range h, Option.map_some, List.getElem?_eraseIdx]
    rw [sk]
    split
    · rw [List.getD_eq_getElem?_getD, List.getElem?_eq_getElem (by omega)]; rfl
    · rw [List.getD_eq_getElem?_getD, List.getElem?_eq_getElem (by omega)]; rfl
  · rw [List.getElem?_eq_none (by rw [List.length_eraseIdx_of_lt hq]; exact h), List.getElem?_eq_none (by simpa using h)]
/-- freeing is dropping and numbering anew -/
theorem free_num {m : Mo} {sl g : Int} (h : freeE m sl g = 0) : freeM m sl g = numM (dropM m sl g) (freeN m.objs.length (own m sl)) := by
  have ha : asked m sl g = 0 := by
    unfold freeE at h
    split at h
    · assumption
    · assumption
  have hnb : ¬ Busy m sl (own m sl) := by
    unfold freeE at h
    rw [if_pos ha] at h
    split at h
    · omega
    · assumption
  obtain ⟨c0, hr0, k, s, n', o, t, hk, hk16, hs, hu, hg, hso, hat, hown, hobj, _⟩ := asked_ok ha
  obtain ⟨_, hobjs, hok⟩ := chk_ok c0
  have hq : own m sl < m.objs.length := by rw [hown]; exact (List.getElem?_eq_some_iff.1 hobj).1
  rw [freeM, if_pos h, dropM, if_pos ha]
  have hlen : (freeN m.objs.length (own m sl)).length = m.objs.length := by simp [freeN]
  have hnn : ∀ (x : Nat), 0 < x → x ≤ m.objs.length → (freeN m.objs.length (own m sl)).getD (x - 1) 0 = if x - 1 < own m sl then ((x - 1 : Nat) : Int) else if x - 1 = own m sl then -1 else ((x - 1 : Nat) : Int) - 1 := fun x h0 h1 => by
    rw [List.getD_eq_getElem?_getD, freeN_get (by omega)]; rfl
  rw [numM]
  congr 1
  · rw [hlen, numJ_free _ _ _ hq hlen _ (Nat.le_refl _), Nat.min_eq_right (by omega)]
    rw [eraseIdx_range _ ⟨0, []⟩ (by simpa using hq), List.length_map]
    refine List.map_congr_left fun w hw => ?_
    have hw := List.mem_range.1 hw
    have hsk : sk (own m sl) w < m.objs.length := by rw [sk]; split <;> omega
    have hne : sk (own m sl) w ≠ own m sl := by rw [sk]; split <;> omega
    have e1 : (m.objs.map (lowO m (own m sl))).getD (sk (own m sl) w) ⟨0, []⟩ = lowO m (own m sl) (ob m (sk (own m sl) w)) := by
      rw [List.getD_eq_getElem?_getD, List.getElem?_map, List.getElem?_eq_getElem hsk, ob, List.getD_eq_getElem?_getD, List.getElem?_eq_getElem hsk]; rfl
    rw [e1]
    have hoo : ObOk m.types m.objs.length (ob m (sk (own m sl) w)) := by
      refine hok.2.2.1 _ ?_
      rw [ob, List.getD_eq_getElem?_getD, List.getElem?_eq_getElem hsk]; exact List.getElem_mem hsk
    show lowO m _ _ = numO ⟨m.types, m.objs, _⟩ _ (ob m (sk (own m sl) w))
    rw [lowO, numO]
    congr 1
    refine List.map_congr_left fun i hi => ?_
    have hi := List.mem_range.1 hi
    have hfd := hoo.2.2 i hi
    show lowV _ ((ty m.types _).getD i 0) _ = numV _ ((ty m.types _).getD i 0) _
    rw [lowV, numV]
    have hnr : 0 < ((ob m (sk (own m sl) w)).fs.getD i 0).toNat → ((ty m.types (ob m (sk (own m sl) w))).getD i 0).toNat = 3 → ((ob m (sk (own m sl) w)).fs.getD i 0).toNat ≠ own m sl + 1 := fun _ h3 e => hnb (.inr ⟨_, hsk, hne, i, hi, h3, e⟩)
    generalize (ob m (sk (own m sl) w)).fs.getD i 0 = v at hfd hnr ⊢
    have hvl := v.toNat_lt
    by_cases h3 : ((ty m.types (ob m (sk (own m sl) w))).getD i 0).toNat = 3
    · have hle := hfd.2 h3
      by_cases h0 : 0 < v.toNat
      · have hnr := hnr h0 h3
        rw [if_pos (show _ ∧ _ from ⟨h3, h0⟩), hnn _ h0 hle]
        by_cases h1 : own m sl + 1 < v.toNat
        · rw [if_pos ⟨h3, h1⟩, if_neg (by omega), if_neg (by omega)]
          apply UInt64.toNat_inj.1
          have hone : (1 : UInt64) ≤ v := by rw [UInt64.le_iff_toNat_le]; show 1 ≤ v.toNat; omega
          rw [UInt64.toNat_sub_of_le _ _ hone, UInt64.toNat_ofNat_of_lt' (by unfold UInt64.size; omega)]
          show v.toNat - 1 = _
          omega
        · rw [if_neg (by omega), if_pos (by omega)]
          apply UInt64.toNat_inj.1
          rw [UInt64.toNat_ofNat_of_lt' (by unfold UInt64.size; omega)]
          omega
      · rw [if_neg (by omega), if_neg (by omega)]
    · rw [if_neg (by omega), if_neg (by omega)]
  · refine List.map_congr_left fun s2 hs2 => ?_
    rw [lowS, numS]
    by_cases hu2 : s2.used = true
    · rw [if_pos hu2, if_pos hu2]
      obtain ⟨i, hi⟩ := List.mem_iff_getElem?.1 hs2
      have hki : ¬ k = i := by
        rintro rfl
        rw [hk, Int.toNat_natCast, List.getElem?_set_self (by rw [hok.1]; exact hk16)] at hi
        injection hi with hi; rw [← hi] at hu2; cases hu2
      rw [hk, Int.toNat_natCast, List.getElem?_set_ne hki] at hi
      have hso2 := hok.2.2.2 s2 (List.mem_of_getElem? hi)
      obtain ⟨a1, a2, a3⟩ := hso2.2.2 hu2
      have hne : s2.at_ ≠ (own m sl : Nat) := fun e => hnb (.inl ⟨i, (List.getElem?_eq_some_iff.1 hi).1, by omega, by simp [List.getD_eq_getElem?_getD, hi, hu2], by simp [List.getD_eq_getElem?_getD, hi, e]⟩)
      congr 1
      obtain ⟨x, hx⟩ := Int.eq_ofNat_of_zero_le a2
      rw [hx] at hne a3 ⊢
      have e2 : (freeN m.objs.length (own m sl)).getD x 0 = if x < own m sl then (x : Int) else if x = own m sl then -1 else (x : Int) - 1 := by rw [List.getD_eq_getElem?_getD, freeN_get (by omega), Option.getD_some]
      rw [Int.toNat_natCast, e2, lowA]
      repeat' split
      all_goals omega
    · rw [if_neg hu2, if_neg hu2]
/-- .. and what it is made of -/
theorem free_map {m : Mo} {q : Nat} {S : List Sl} : mapP (lowV q) ⟨m.types, m.objs, S⟩ m.objs.length 0 = ⟨m.types, m.objs.map (lowO m q), S⟩ := by
  have := mapP_done (φ := lowV q) (m := ⟨m.types, m.objs, S⟩)
  dsimp only at this
  rw [this]
  congr 1
  refine List.map_congr_left fun o _ => ?_
  rw [mapO, lowO]
  congr 1
  refine List.map_congr_left fun j hj => ?_
  rw [if_pos (List.mem_range.1 hj)]
end Go.Proofs.Ytgjpohhafmkhcaa.L20
namespace Go.Proofs.Ytgjpohhafmkhcaa
open Go.RowKit L02 L13 L18 L20
theorem OwnF.ne_bx {w : World} {base n gf p : Nat} {v : Value} {L : List Ob} {t : TypeId} {cs : Array Value} (h : OwnF w base v L n gf) (ho : n < L.length) (hg : Bx w p t cs) (hne : 29 ≠ t) : gf ≠ p := by
  obtain ⟨vs, nf, cf, h1, h2, h4, h5, h6⟩ := h
  exact own_ne_bx (h4 n _ _ h6 (List.getElem?_eq_getElem ho)) hg hne
theorem rough_chk {m : Mo} (h : chk m = 0) (S : List Sl) : Rough ⟨m.types, m.objs, S⟩ := by
  obtain ⟨h1, h2, h3⟩ := chk_ok h
  refine ⟨by show m.objs.length ≤ 1000; omega, fun o ho => ⟨(h3.2.2.1 o ho).1, (h3.2.2.1 o ho).2.1, ?_⟩⟩
  exact (small_chk h).2.2.2.2 o ho
theorem low_cases (n : Nat) (s : Sl) : (s.used = false ∨ (s.used = true ∧ (s.at_ == (n : Int)) = true ∧ decide ((n : Int) < s.at_) = false) ∨ (s.used = true ∧ (s.at_ == (n : Int)) = false ∧ decide ((n : Int) < s.at_) = false)) ∨ (s.used = true ∧ (s.at_ == (n : Int)) = false ∧ decide ((n : Int) < s.at_) = true) := by
  cases hu : s.used
  · exact .inl (.inl rfl)
  · by_cases h1 : s.at_ = n
    · exact .inl (.inr (.inl ⟨rfl, by rw [beq_iff_eq]; exact h1, by rw [decide_eq_false_iff_not]; omega⟩))
    · by_cases h2 : (n : Int) < s.at_
      · exact .inr ⟨rfl, by rw [beq_eq_false_iff_ne]; exact h1, by rw [decide_eq_true_iff]; exact h2⟩
      · exact .inl (.inr (.inr ⟨rfl, by rw [beq_eq_false_iff_ne]; exact h1, by rw [decide_eq_false_iff_not]; exact h2⟩))
theorem low_same {n : Nat} {s : Sl} (h : s.used = false ∨ decide ((n : Int) < s.at_) = false) : lowS n s = s := by
  rw [lowS]
  split
  · rename_i hu
    rcases h with h | h
    · rw [h] at hu; cases hu
    · rw [decide_eq_false_iff_not] at h
      rw [lowA, if_neg h, ← hu]
  · rfl
theorem low_less {n : Nat} {s : Sl} (hu : s.used = true) (h : decide ((n : Int) < s.at_) = true) : lowS n s = ⟨s.gen, s.used, s.at_ - 1⟩ := by
  rw [lowS, if_pos hu, lowA, if_pos (by rw [decide_eq_true_iff] at h; exact h), hu]
set_option maxRecDepth 100000 in
set_option maxHeartbeats 4000000 in
/-- one reference, while an object is freed -/
theorem free_step {m m2 m' : Mo} {S1 : List Sl} {w wr W : World} {n i n' gf b1 p6 pb z : Nat} {t o s : Value} {r3c r4c : Array Value} {b : Bool} {X : Prop} (hm2 : m2 = ⟨m.types, m.objs, S1.map (lowS n')⟩) (hn : n < m2.objs.length) (hi : i < (ob m2 n).fs.length) (hk3 : ((ty m2.types (ob m2 n)).getD i 0).toNat = 3) (hn1 : n' ≤ 1000) (hz : z ≤ pb)
    (omW : OwnM W b1 67 t o s m') (ofW : OwnF W b1 o m'.objs n gf) (a1 : m' = mapP (lowV n') m2 n i) (a2 : b = true ↔ X ∨ refTo m n' n i) (a3 : Bx W z 26 r3c) (a4 : Bx W p6 26 r4c) (a5 : Bx W (p6 + 1) 3 #[.int .i64 n']) (a6 : Bx W pb 4 #[.bool b]) (a7 : Below w.heap.size w W)
    (hpbw : w.heap.size ≤ pb) (hp7 : p6 + 1 < pb) (hpz : pb < wr.heap.size) (hb1 : w.heap.size ≤ b1) :
    Calls Try.prog 57 (#[] ++ (#[.int .i64 n, .pointer (some ⟨gf, i, none⟩)] ++ #[.pointer (some ⟨pb, 0, none⟩), .pointer (some ⟨p6 + 1, 0, none⟩)])) W fun e W' => e = .returned (.tuple #[]) ∧ ∃ m'', Like m2 m'' ∧ OwnM W' b1 67 t o s m'' ∧ OwnF W' b1 o m''.objs n gf ∧
      (m'' = mapP (lowV n') m2 n (i + 1) ∧ ∃ b : Bool, (b = true ↔ X ∨ refTo m n' n (i + 1)) ∧ Bx W' z 26 r3c ∧ Bx W' p6 26 r4c ∧ Bx W' (p6 + 1) 3 #[.int .i64 n'] ∧ Bx W' pb 4 #[.bool b] ∧ Below w.heap.size w W') ∧ Fr wr.heap.size W W' ∧ KeepB b1 W W' := by
  obtain ⟨o', ho', hfi⟩ := mapP_fld (φ := lowV n') (m := m2) hn hi
  rw [← a1] at ho'
  obtain ⟨mc, mf, gB, gL⟩ := ofW.cell ho' hfi
  have hnl : n < m'.objs.length := (List.getElem?_eq_some_iff.1 ho').1
  have ne1 : gf ≠ pb := ofW.ne_bx hnl a6 (by decide)
  have ne3 : gf ≠ z := ofW.ne_bx hnl a3 (by decide)
  have ne4 : gf ≠ p6 := ofW.ne_bx hnl a4 (by decide)
  have ne5 : gf ≠ p6 + 1 := ofW.ne_bx hnl a5 (by decide)
  have hzp : z ≠ pb := by
    rintro rfl
    have e1 := a3; have e2 := a6
    unfold Bx at e1 e2; rw [e1] at e2; injection e2 with e2; injection e2 with _ e3; exact absurd e3 (by decide)
  refine (Free1_any n n' gf i pb (p6 + 1) ((ob m2 n).fs.getD i 0) b _ rfl hn1 W mc mf a6 a5 ne1 (by omega)).mono ?_
  rintro e w' ⟨rfl, q, hw'⟩
  refine ⟨rfl, ?_⟩
  obtain ⟨b', hb'⟩ : ∃ b', b' = (b || (decide (n ≠ n') && decide (((ob m2 n).fs.getD i 0).toNat = n' + 1))) := ⟨_, rfl⟩
  rw [← hb'] at hw'
  obtain ⟨W1, hW1⟩ : ∃ W1, W1 = ((W.drew).setCell ⟨pb, 0, none⟩ (.bool b')).drewN q := ⟨_, rfl⟩
  rw [← hW1] at hw'
  have hRT : b' = true ↔ X ∨ refTo m n' n (i + 1) := by
    have e0 : refTo m2 n' n (i + 1) ↔ refTo m n' n (i + 1) := by subst hm2; exact Iff.rfl
    have e1 : refTo m2 n' n i ↔ refTo m n' n i := by subst hm2; exact Iff.rfl
    rw [← e0, refTo_step hn hi, e1, ← or_assoc, ← a2, hb', isRef]
    simp only [Bool.or_eq_true, Bool.and_eq_true, decide_eq_true_iff]
    exact or_congr Iff.rfl ⟨fun h => ⟨h.1, hk3, h.2⟩, fun h => ⟨h.1, h.2.2⟩⟩
  have oM1 : OwnM W1 b1 67 t o s m' := by
    rw [hW1]
    exact ⟨OwnT.set (w := W.drew) omW.t a6 (by decide) (by decide), OwnO.set (w := W.drew) omW.o a6 (by decide) (by decide), own_set (w := W.drew) omW.s a6 (by decide)⟩
  have oF1 : OwnF W1 b1 o m'.objs n gf := by rw [hW1]; exact OwnF.set (w := W.drew) ofW a6 (by decide) (by decide)
  have x3 : Bx W1 z 26 r3c := by rw [hW1]; exact Bx.far (w := W.drew) a3 (p := ⟨pb, 0, none⟩) hzp _
  have x4 : Bx W1 p6 26 r4c := by rw [hW1]; exact Bx.far (w := W.drew) a4 (p := ⟨pb, 0, none⟩) (by show _ ≠ pb; omega) _
  have x5 : Bx W1 (p6 + 1) 3 #[.int .i64 n'] := by rw [hW1]; exact Bx.far (w := W.drew) a5 (p := ⟨pb, 0, none⟩) (by show _ ≠ pb; omega) _
  have x9 : Bx W1 pb 4 #[.bool b'] := by
    rw [hW1]
    have k : Bx (W.drew.setCell ⟨pb, 0, none⟩ (.bool b')) pb 4 #[.bool b'] := by
      have := Bx.set (w := W.drew) (i := 0) a6 (.bool b')
      simpa using this
    exact k
  have xB : Below w.heap.size w W1 := by rw [hW1]; exact (below_drewN (((a7.drew).setCell (p := ⟨pb, 0, none⟩) hpbw _)) q)
  have hs1 : W1.heap.size = W.heap.size := by rw [hW1]; show (W.setCell ⟨pb, 0, none⟩ (.bool b')).heap.size = _; simp [World.setCell]
  have fr1 : Fr wr.heap.size W W1 := ⟨by rw [hs1]; exact Nat.le_refl _, fun g t' cs hg _ hx => by rw [hW1]; exact Bx.far (w := W.drew) hx (p := ⟨pb, 0, none⟩) (by show _ ≠ pb; omega) _⟩
  have kb1 : KeepB b1 W W1 := fun v l hv => by rw [hW1]; exact own_set (w := W.drew) hv a6 (by decide)
  have hlv : lowV n' ((ty m2.types (ob m2 n)).getD i 0) ((ob m2 n).fs.getD i 0) = if n' + 1 < ((ob m2 n).fs.getD i 0).toNat then (ob m2 n).fs.getD i 0 - 1 else (ob m2 n).fs.getD i 0 := by
    rw [lowV]
    by_cases h : n' + 1 < ((ob m2 n).fs.getD i 0).toNat
    · rw [if_pos ⟨hk3, h⟩, if_pos h]
    · rw [if_neg (fun hh => h hh.2), if_neg h]
  by_cases hlt : n' + 1 < ((ob m2 n).fs.getD i 0).toNat
  · rw [if_pos hlt] at hw' hlv
    have e1 : (((ob m2 n).fs.getD i 0) - 1).toNat = ((ob m2 n).fs.getD i 0).toNat - 1 := by
      have hone : (1 : UInt64) ≤ (ob m2 n).fs.getD i 0 := by rw [UInt64.le_iff_toNat_le]; show 1 ≤ _; omega
      rw [UInt64.toNat_sub_of_le _ _ hone]; rfl
    have hst := OwnM.storeF oM1 oF1 ho' hfi ((ob m2 n).fs.getD i 0 - 1)
    have hmp : putF m' n i ((ob m2 n).fs.getD i 0 - 1) = mapP (lowV n') m2 n (i + 1) := by rw [a1, ← hlv]; exact mapP_step hn hi
    rw [e1, ← hw', hmp] at hst
    obtain ⟨k1, k2, k3⟩ := hst
    have far : ∀ {g t' cs}, gf ≠ g → Bx W1 g t' cs → Bx w' g t' cs := fun hne hx => hx.grown k3 (.inr (fun e => hne (by injection e)))
    refine ⟨_, mapP_like, k1, k2, ⟨rfl, b', hRT, far ne3 x3, far ne4 x4, far ne5 x5, far ne1 x9, xB.grown k3 (by have := a7.size; have := hs1; omega) (fun k hk => by injection hk with hk; omega)⟩, ⟨by rw [← hs1]; exact k3.size, fun g t' cs hg hne hx => ?_⟩, fun v l hv => ?_⟩
    · have := fr1.2 g t' cs hg hne hx
      exact far (ofW.ne_bx hnl hx (Ne.symm hne)) this
    · obtain ⟨vs, nf, cf, h1, h2, h4, h5, h6⟩ := oF1
      exact World.ownsRow.kept (kb1 v l hv) k3 (own_unlike (kb1 v l hv) (h4 n _ _ h6 (List.getElem?_eq_getElem hnl)) (by decide))
  · rw [if_neg hlt] at hw' hlv
    have hmp : m' = mapP (lowV n') m2 n (i + 1) := by rw [a1]; exact (mapP_skip hlv).symm
    subst hw'
    exact ⟨m', by rw [hmp]; exact mapP_like, oM1, oF1, ⟨hmp, b', hRT, x3, x4, x5, x9, xB⟩, fr1, kb1⟩
/-- freeing where the model or the handle is not right -/
theorem Free20_no (tv ov sv : Value) (m : Mo) (sl g : Int) (r : Int) (hr : r = asked m sl g) (ha : ¬ asked m sl g = 0) (w : World) (h : Mod w tv ov sv m) :
    Calls Try.prog 30 #[.agg #[tv, ov, sv], .agg #[.int .i64 sl, .int .i64 g]] w fun e w' => ∃ t' o' s', e = .returned (.tuple #[.agg #[t', o', s'], .int .i64 r]) ∧ Mod w' t' o' s' .nil ∧ Below w.heap.size w w' := by
  have B : Below w.heap.size w w := Below.refl _ _
  have H := Lib.hid h
  have OT := Lib.hid (fun w h => open20_no tv ov sv m sl g r hr (by rw [hr]; exact ha) w h)
  have hne : (r != 0) = true := by rw [bne_iff_ne, hr]; exact ha
  clear hr ha h
  go_enter Try.func30, Try.ntmps30
  go_upto_region 1 with (fail)
  refine wp_gen (fun Wv => Bx Wv (w.heap.size) (26) (#[tv, ov, sv]) ∧ Bx Wv (w.heap.size + 1) (28) (#[.int .i64 sl, .int .i64 g]) ∧ Bx Wv (w.heap.size + 1 + 1) (26) (#[.slice none 0 0, .slice none 0 0, .slice none 0 0]) ∧ Below w.heap.size w Wv) ⟨((((Bx.at_ (by simp)).alloc _).alloc _)), (((Bx.at_ (by simp)).alloc _)), ((Bx.at_ (by simp))), ((((Below.refl _ w).alloc (by simp <;> omega) _).alloc (by simp <;> omega) _).alloc (by simp <;> omega) _)⟩ ?_
  rintro wa1 ⟨g1, g2, g3, b⟩
  replace B := B.trans (b.mono B.size); clear b
  have c_g1 := g1.cell; have f_g1 := g1.free; have a_g1 := fun o => (g1.alloc o).cell; have d_g1 := fun o o2 => ((g1.alloc o).alloc o2).cell; have e_g1 := fun o => (g1.alloc o).free
  have c_g2 := g2.cell; have f_g2 := g2.free; have a_g2 := fun o => (g2.alloc o).cell; have d_g2 := fun o o2 => ((g2.alloc o).alloc o2).cell; have e_g2 := fun o => (g2.alloc o).free
  have c_g3 := g3.cell; have f_g3 := g3.free; have a_g3 := fun o => (g3.alloc o).cell; have d_g3 := fun o o2 => ((g3.alloc o).alloc o2).cell; have e_g3 := fun o => (g3.alloc o).free
  go_wp2_with fail
  refine (OT.out _ (H.out.below B)).mono ?_
  rintro e wa2 ⟨rfl, b⟩
  try clear c_g1 f_g1 a_g1 d_g1 e_g1
  replace g1 := g1.below b; have c_g1 := g1.cell; have f_g1 := g1.free; have a_g1 := fun o => (g1.alloc o).cell; have d_g1 := fun o o2 => ((g1.alloc o).alloc o2).cell; have e_g1 := fun o => (g1.alloc o).free; try clear c_g2 f_g2 a_g2 d_g2 e_g2
  replace g2 := g2.below b; have c_g2 := g2.cell; have f_g2 := g2.free; have a_g2 := fun o => (g2.alloc o).cell; have d_g2 := fun o o2 => ((g2.alloc o).alloc o2).cell; have e_g2 := fun o => (g2.alloc o).free; try clear c_g3 f_g3 a_g3 d_g3 e_g3
  replace g3 := g3.below b; have c_g3 := g3.cell; have f_g3 := g3.free; have a_g3 := fun o => (g3.alloc o).cell; have d_g3 := fun o o2 => ((g3.alloc o).alloc o2).cell; have e_g3 := fun o => (g3.alloc o).free; replace B := B.trans (b.mono B.size); clear b
  go_upto_region 2 with (fail)
  refine wp_gen (fun Wv => Bx Wv (wa2.heap.size) (26) (#[.slice none 0 0, .slice none 0 0, .slice none 0 0]) ∧ Below wa2.heap.size wa2 Wv) ⟨(((Bx.at_ (by simp)).alloc _)), (((Below.refl _ wa2).alloc (by simp <;> omega) _).alloc (by simp <;> omega) _)⟩ ?_
  rintro wa3 ⟨g4, b⟩
  try clear c_g1 f_g1 a_g1 d_g1 e_g1
  replace g1 := g1.below b; have c_g1 := g1.cell; have f_g1 := g1.free; have a_g1 := fun o => (g1.alloc o).cell; have d_g1 := fun o o2 => ((g1.alloc o).alloc o2).cell; have e_g1 := fun o => (g1.alloc o).free; try clear c_g2 f_g2 a_g2 d_g2 e_g2
  replace g2 := g2.below b; have c_g2 := g2.cell; have f_g2 := g2.free; have a_g2 := fun o => (g2.alloc o).cell; have d_g2 := fun o o2 => ((g2.alloc o).alloc o2).cell; have e_g2 := fun o => (g2.alloc o).free; try clear c_g3 f_g3 a_g3 d_g3 e_g3
  replace g3 := g3.below b; have c_g3 := g3.cell; have f_g3 := g3.free; have a_g3 := fun o => (g3.alloc o).cell; have d_g3 := fun o o2 => ((g3.alloc o).alloc o2).cell; have e_g3 := fun o => (g3.alloc o).free; replace B := B.trans (b.mono B.size); clear b
  have c_g4 := g4.cell; have f_g4 := g4.free; have a_g4 := fun o => (g4.alloc o).cell; have d_g4 := fun o o2 => ((g4.alloc o).alloc o2).cell; have e_g4 := fun o => (g4.alloc o).free
  go_wp2
  refine bodyPost_ret (v := .tuple #[.agg #[.slice none 0 0, .slice none 0 0, .slice none 0 0], .int .i64 r]) (by simp [results, Try.results30, go_sem, c_g3, f_g3]) rfl ?_
  refine ⟨_, _, _, rfl, Mod.nil _, ?_⟩
  (repeat (first | refine Below.setCell ?_ (by first | exact Nat.le_refl _ | (simp <;> omega)) _ | refine Below.alloc ?_ (by first | exact B.size | (have := B.size; simp <;> omega)) _)); exact B
set_option maxRecDepth 100000 in
set_option maxHeartbeats 8000000 in
theorem Free20_any (tv ov sv : Value) (m : Mo) (sl g : Int) (M : Mo) (r : Int) (hM : M = freeM m sl g) (hr : r = freeE m sl g) (w : World) (h : Mod w tv ov sv m) :
    Calls Try.prog 30 #[.agg #[tv, ov, sv], .agg #[.int .i64 sl, .int .i64 g]] w fun e w' => ∃ t' o' s', e = .returned (.tuple #[.agg #[t', o', s'], .int .i64 r]) ∧ Mod w' t' o' s' M ∧ Below w.heap.size w w' := by
  by_cases ha : asked m sl g = 0
  · have B : Below w.heap.size w w := Below.refl _ _
    have H := Lib.hid h
    obtain ⟨c0, hr0, k, s, n', o, t, hk, hk16, hs, hu, hg, hso, hat, hown, hob1, _⟩ := asked_ok ha
    have OT := Lib.hid (fun w h => open20_ok tv ov sv m sl g n' ha hown w h)
    obtain ⟨_, hobjs, h16, _⟩ := chk_ok c0
    have hn' : n' < m.objs.length := (List.getElem?_eq_some_iff.1 hob1).1
    have hBU := fun n => busy_iff (m := m) (k := k) (g := g) (by rw [h16]; exact hk16) n
    subst hk
    have hM1 : M = if Busy m (k : Int) n' then .nil else ⟨m.types, (m.objs.map (lowO m n')).eraseIdx n', (m.slots.set k ⟨g, false, 0⟩).map (lowS n')⟩ := by
      rw [hM, freeM, freeE, if_pos ha, hown]
      by_cases hb : Busy m (k : Int) n'
      · rw [if_pos hb, if_pos hb]; rfl
      · rw [if_neg hb, if_neg hb]; rfl
    have hr1 : r = if Busy m (k : Int) n' then 45 else 0 := by rw [hr, freeE, if_pos ha, hown]
    have HM := Lib.hid hM1; have HRR := Lib.hid hr1; have HBU := Lib.hid (hBU n')
    have HS := Lib.hid hs; have H16 := Lib.hid h16; have HOB := Lib.hid hobjs; have HN := Lib.hid hn'; have HRO := Lib.hid (rough_chk c0)
    obtain ⟨S1, hS1⟩ : ∃ S, S = m.slots.set k ⟨g, false, 0⟩ := ⟨_, rfl⟩
    have HS1 := Lib.hid hS1
    have H1L := Lib.hid (show S1.length = 16 by rw [hS1, List.length_set]; exact h16)
    have H1B := Lib.hid (show ∀ s ∈ S1, s.used = true → 0 ≤ s.at_ ∧ s.at_ ≤ 1000 from by
      intro s2 hs2 hu2
      rw [hS1] at hs2
      rcases List.mem_or_eq_of_mem_set hs2 with h | h
      · have := ((chk_ok c0).2.2.2.2.2 s2 h).2.2 hu2; omega
      · rw [h] at hu2; cases hu2)
    clear hr hM ha c0 hr0 hu hso hat hown h hs h16 hM1 hr1 hBU hS1 hobjs hob1
    have hn1 : n' ≤ 1000 := by have := HN.out; have := HOB.out; omega
    clear hn'
    go_enter Try.func30, Try.ntmps30
    go_upto_region 1 with (fail)
    refine wp_gen (fun Wv => Bx Wv (w.heap.size) (26) (#[tv, ov, sv]) ∧ Bx Wv (w.heap.size + 1) (28) (#[.int .i64 k, .int .i64 g]) ∧ Bx Wv (w.heap.size + 1 + 1) (26) (#[.slice none 0 0, .slice none 0 0, .slice none 0 0]) ∧ Below w.heap.size w Wv) ⟨((((Bx.at_ (by simp)).alloc _).alloc _)), (((Bx.at_ (by simp)).alloc _)), ((Bx.at_ (by simp))), ((((Below.refl _ w).alloc (by simp <;> omega) _).alloc (by simp <;> omega) _).alloc (by simp <;> omega) _)⟩ ?_
    rintro wa1 ⟨g1, g2, g3, b⟩
    replace B := B.trans (b.mono B.size); clear b
    have c_g1 := g1.cell; have f_g1 := g1.free; have a_g1 := fun o => (g1.alloc o).cell; have d_g1 := fun o o2 => ((g1.alloc o).alloc o2).cell; have e_g1 := fun o => (g1.alloc o).free
    have c_g2 := g2.cell; have f_g2 := g2.free; have a_g2 := fun o => (g2.alloc o).cell; have d_g2 := fun o o2 => ((g2.alloc o).alloc o2).cell; have e_g2 := fun o => (g2.alloc o).free
    have c_g3 := g3.cell; have f_g3 := g3.free; have a_g3 := fun o => (g3.alloc o).cell; have d_g3 := fun o o2 => ((g3.alloc o).alloc o2).cell; have e_g3 := fun o => (g3.alloc o).free
    have hz1 := B.size; have hp1 := g3.lt
    go_wp2_with fail
    refine (OT.out _ (H.out.below B)).mono ?_
    rintro e wa2 ⟨t', o', s', rfl, om, b⟩
    try clear c_g1 f_g1 a_g1 d_g1 e_g1
    replace g1 := g1.below b; have c_g1 := g1.cell; have f_g1 := g1.free; have a_g1 := fun o => (g1.alloc o).cell; have d_g1 := fun o o2 => ((g1.alloc o).alloc o2).cell; have e_g1 := fun o => (g1.alloc o).free; try clear c_g2 f_g2 a_g2 d_g2 e_g2
    replace g2 := g2.below b; have c_g2 := g2.cell; have f_g2 := g2.free; have a_g2 := fun o => (g2.alloc o).cell; have d_g2 := fun o o2 => ((g2.alloc o).alloc o2).cell; have e_g2 := fun o => (g2.alloc o).free; try clear c_g3 f_g3 a_g3 d_g3 e_g3
    replace g3 := g3.below b; have c_g3 := g3.cell; have f_g3 := g3.free; have a_g3 := fun o => (g3.alloc o).cell; have d_g3 := fun o o2 => ((g3.alloc o).alloc o2).cell; have e_g3 := fun o => (g3.alloc o).free; replace B := B.trans (b.mono B.size); clear b
    obtain ⟨⟨tA, tn, tc, rfl⟩, ⟨oA, on, oc, rfl⟩, _⟩ := om.forms
    obtain ⟨gS, sc, rfl⟩ : ∃ g c, s' = .slice (some ⟨g, 0, none⟩) 16 c := by obtain ⟨g, n, c, e, e2⟩ := om.s.form (by have := H16.out; omega); rw [e2, H16.out] at e; exact ⟨g, c, e⟩
    have hgS := om.s.lt gS rfl; have hz_ := (om.s.lt gS rfl).1
    go_upto_region 2 with (fail)
    refine wp_gen (fun Wv => Bx Wv (wa2.heap.size) (26) (#[.slice tA tn tc, .slice oA on oc, .slice (some ⟨gS, 0, none⟩) 16 sc]) ∧ Bx Wv (wa2.heap.size + 1) (3) (#[.int .i64 n']) ∧ Below wa2.heap.size wa2 Wv) ⟨(((Bx.at_ (by simp)).alloc _)), ((Bx.at_ (by simp))), (((Below.refl _ wa2).alloc (by simp <;> omega) _).alloc (by simp <;> omega) _)⟩ ?_
    rintro wa3 ⟨g4, g5, b⟩
    try clear c_g1 f_g1 a_g1 d_g1 e_g1
    replace g1 := g1.below b; have c_g1 := g1.cell; have f_g1 := g1.free; have a_g1 := fun o => (g1.alloc o).cell; have d_g1 := fun o o2 => ((g1.alloc o).alloc o2).cell; have e_g1 := fun o => (g1.alloc o).free; try clear c_g2 f_g2 a_g2 d_g2 e_g2
    replace g2 := g2.below b; have c_g2 := g2.cell; have f_g2 := g2.free; have a_g2 := fun o => (g2.alloc o).cell; have d_g2 := fun o o2 => ((g2.alloc o).alloc o2).cell; have e_g2 := fun o => (g2.alloc o).free; try clear c_g3 f_g3 a_g3 d_g3 e_g3
    replace g3 := g3.below b; have c_g3 := g3.cell; have f_g3 := g3.free; have a_g3 := fun o => (g3.alloc o).cell; have d_g3 := fun o o2 => ((g3.alloc o).alloc o2).cell; have e_g3 := fun o => (g3.alloc o).free; replace om := om.below b; replace B := B.trans (b.mono B.size); clear b
    have c_g4 := g4.cell; have f_g4 := g4.free; have a_g4 := fun o => (g4.alloc o).cell; have d_g4 := fun o o2 => ((g4.alloc o).alloc o2).cell; have e_g4 := fun o => (g4.alloc o).free
    have c_g5 := g5.cell; have f_g5 := g5.free; have a_g5 := fun o => (g5.alloc o).cell; have d_g5 := fun o o2 => ((g5.alloc o).alloc o2).cell; have e_g5 := fun o => (g5.alloc o).free
    have HP := Lib.hid (OwnS.put3 (k := k) om.s (by have := H16.out; omega) ⟨g, false, 0⟩)
    obtain ⟨ix, p0, p1, p2⟩ := OwnS.cells om.s HS.out
    have fz := HP.out.2.2.2.2
    have hM3 := OwnM.slots om HP.out.2.1 HP.out.1
    have nx := fun {q : Nat} {tq : TypeId} {cs : Array Value} (hb : Bx wa3 q tq cs) (hne : gS ≠ q) => hb.grown HP.out.2.1 (.inr (fun e => hne (by injection e)))
    have r3 := nx g3 (by omega); have r4 := nx g4 (by omega); have r5 := nx g5 (by omega)
    have hb3 := B.grown HP.out.2.1 B.size (fun k hk => by injection hk with hk; rw [← hk]; have := HP.out.2.2.1; omega)
    rw [← HS1.out] at hM3
    have HH := Lib.hid (And.intro hM3 (And.intro r3 (And.intro r4 (And.intro r5 hb3))))
    clear nx r3 r4 r5 hb3 hM3
    go_upto_region 5 with (fail)
    generalize hp6 : wa2.heap.size = p6 at *
    refine wp_gen (fun Wv => OwnM Wv wa1.heap.size 67 (.slice tA tn tc) (.slice oA on oc) (.slice (some ⟨gS, 0, none⟩) 16 sc) ⟨m.types, m.objs, S1⟩ ∧ Bx Wv (w.heap.size + 1 + 1) 26 #[.slice none 0 0, .slice none 0 0, .slice none 0 0] ∧ Bx Wv p6 26 #[.slice tA tn tc, .slice oA on oc, .slice (some ⟨gS, 0, none⟩) 16 sc] ∧ Bx Wv (p6 + 1) 3 #[.int .i64 n'] ∧ Below w.heap.size w Wv) HH.out ?_
    rintro wz ⟨om2, r3, r4, r5, B2⟩
    obtain ⟨b1, hb1⟩ : ∃ b, b = wa1.heap.size := ⟨_, rfl⟩
    rw [← hb1] at om2
    have hb13 : w.heap.size + 1 + 1 < b1 := by omega
    have hb16 : b1 ≤ p6 := by omega
    have hg6 : gS < p6 := by omega
    clear HH om g1 g2 g3 g4 g5 B p0 p1 p2 fz ix HP c_g1 f_g1 a_g1 d_g1 e_g1 c_g2 f_g2 a_g2 d_g2 e_g2 c_g3 f_g3 a_g3 d_g3 e_g3 c_g4 f_g4 a_g4 d_g4 e_g4 c_g5 f_g5 a_g5 d_g5 e_g5 hb1 hp6 hz1 hp1 hgS hz_
    have hp7 := r5.lt
    have bz := (Below.refl wz.heap.size wz).alloc (Nat.le_refl _) (.cells #[.bool false] 4)
    have HZ := Lib.hid (And.intro (OwnM.below om2 bz) (And.intro (r3.below bz) (And.intro (r4.below bz) (And.intro (r5.below bz) (And.intro (Bx.new wz 4 #[.bool false]) (And.intro (B2.trans (bz.mono B2.size)) (show wz.heap.size < (wz.alloc (.cells #[.bool false] 4)).heap.size by simp)))))))
    clear om2 r3 r4 r5 B2 bz
    go_upto_region 6 with (fail)
    generalize hpb : wz.heap.size = pb at *
    refine wp_gen (fun Wv => OwnM Wv b1 67 (.slice tA tn tc) (.slice oA on oc) (.slice (some ⟨gS, 0, none⟩) 16 sc) ⟨m.types, m.objs, S1⟩ ∧ Bx Wv (w.heap.size + 1 + 1) 26 #[.slice none 0 0, .slice none 0 0, .slice none 0 0] ∧ Bx Wv p6 26 #[.slice tA tn tc, .slice oA on oc, .slice (some ⟨gS, 0, none⟩) 16 sc] ∧ Bx Wv (p6 + 1) 3 #[.int .i64 n'] ∧ Bx Wv pb 4 #[.bool false] ∧ Below w.heap.size w Wv ∧ pb < Wv.heap.size) ?_ ?_
    · exact HZ.out
    clear hpb
    rintro wy hy
    have HY := Lib.hid hy
    have c4 := hy.2.2.1.cell
    clear HZ hy
    go_wp2
    clear c4
    go_loopg [34] 16 (fun g i wr => ∃ j : Nat, j ≤ 16 ∧ g = 16 - j ∧ i = .int .i64 j ∧ Hid (∃ bb : Bool, (bb = true ↔ sloTo S1 n' j) ∧ OwnM wr b1 67 (.slice tA tn tc) (.slice oA on oc) (.slice (some ⟨gS, 0, none⟩) 16 sc) ⟨m.types, m.objs, mapT (lowS n') S1 j⟩ ∧ Bx wr (w.heap.size + 1 + 1) 26 #[.slice none 0 0, .slice none 0 0, .slice none 0 0] ∧ Bx wr p6 26 #[.slice tA tn tc, .slice oA on oc, .slice (some ⟨gS, 0, none⟩) 16 sc] ∧ Bx wr (p6 + 1) 3 #[.int .i64 n'] ∧ Bx wr pb 4 #[.bool bb] ∧ Below w.heap.size w wr ∧ pb < wr.heap.size))
    case atStart => exact ⟨0, by omega, by omega, rfl, Lib.hid ⟨false, ⟨fun h => by (cases h), fun h => absurd h sloTo_zero⟩, by rw [mapT_zero]; exact HY.out⟩⟩
    case round =>
      clear HY
      obtain ⟨j, hj, rfl, rfl, hh⟩ := hrel
      obtain ⟨bb, hbb, om, r3, r4, r5, r9, B, hpz⟩ := hh.out
      by_cases hlt : j < 16
      · obtain ⟨s1, hs1⟩ : ∃ s, S1[j]? = some s := ⟨_, List.getElem?_eq_getElem (by rw [H1L.out]; exact hlt)⟩
        have hbs := H1B.out s1 (List.mem_of_getElem? hs1)
        have hs2 := mapT_get (f := lowS n') hs1
        obtain ⟨ix, q0, q1, q2⟩ := OwnS.cells om.s hs2
        have HSL := Lib.hid hs1
        obtain ⟨b0, hb0⟩ : ∃ b, b = bb := ⟨_, rfl⟩
        have HB1 := Lib.hid (fun (b' : Bool) (e : b' = (b0 || (s1.used && (s1.at_ == (n' : Int))))) => show b' = true ↔ sloTo S1 n' (j + 1) from by
          rw [sloTo_step hs1, e, hb0, ← hbb]; simp [Bool.or_eq_true, Bool.and_eq_true])
        have HX := Lib.hid (And.intro om (And.intro r3 (And.intro r4 (And.intro r5 (And.intro r9 (And.intro B hpz))))))
        obtain ⟨wn, hwn⟩ : ∃ W, W = wr := ⟨_, rfl⟩
        subst hwn
        clear hh om r3 r4 r5 r9 B hbb hs1
        go_upto_region 9 with (fail)
        refine wp_gen (fun Wv => Bx Wv wn.heap.size 67 #[.int .i64 s1.gen, .bool s1.used, .int .i64 s1.at_] ∧ Below wn.heap.size wn Wv) ?_ ?_
        · exact ⟨Bx.new wn _ _, (Below.refl _ wn).alloc (Nat.le_refl _) _⟩
        rintro wx ⟨g11, b⟩
        generalize hp11 : wn.heap.size = p11 at *
        have hp11b : pb < p11 := by have := HX.out.2.2.2.2.2.2; omega
        have SX : ∀ x : Bool, OwnM (wx.setCell ⟨pb, 0, none⟩ (.bool x)) b1 67 (.slice tA tn tc) (.slice oA on oc) (.slice (some ⟨gS, 0, none⟩) 16 sc) ⟨m.types, m.objs, mapT (lowS n') S1 j⟩ ∧ Bx (wx.setCell ⟨pb, 0, none⟩ (.bool x)) (w.heap.size + 1 + 1) 26 #[.slice none 0 0, .slice none 0 0, .slice none 0 0] ∧ Bx (wx.setCell ⟨pb, 0, none⟩ (.bool x)) p6 26 #[.slice tA tn tc, .slice oA on oc, .slice (some ⟨gS, 0, none⟩) 16 sc] ∧ Bx (wx.setCell ⟨pb, 0, none⟩ (.bool x)) (p6 + 1) 3 #[.int .i64 n'] ∧ Bx (wx.setCell ⟨pb, 0, none⟩ (.bool x)) pb 4 #[.bool x] ∧ Bx (wx.setCell ⟨pb, 0, none⟩ (.bool x)) p11 67 #[.int .i64 s1.gen, .bool s1.used, .int .i64 s1.at_] ∧ Below w.heap.size w (wx.setCell ⟨pb, 0, none⟩ (.bool x)) ∧ pb < (wx.setCell ⟨pb, 0, none⟩ (.bool x)).heap.size := fun x => by
          subst hp11
          obtain ⟨om, r3, r4, r5, r9, B, hpz⟩ := HX.out
          have om2 := om.below b
          have r92 := r9.below b
          refine ⟨⟨om2.t.set r92 (by decide) (by decide), om2.o.set r92 (by decide) (by decide), own_set om2.s r92 (by decide)⟩, (r3.below b).far (p := ⟨pb, 0, none⟩) (by show _ ≠ pb; omega) _, (r4.below b).far (p := ⟨pb, 0, none⟩) (by show _ ≠ pb; omega) _, (r5.below b).far (p := ⟨pb, 0, none⟩) (by show _ ≠ pb; omega) _, ?_, g11.far (p := ⟨pb, 0, none⟩) (by show _ ≠ pb; omega) _, (B.trans (b.mono B.size)).setCell (p := ⟨pb, 0, none⟩) (by show _ ≤ pb; omega) _, ?_⟩
          · have := r92.set (i := 0) (.bool x); simpa using this
          · have := b.size; simp [World.setCell]; omega
        have c9 := (HX.out.2.2.2.2.1.below (hp11 ▸ b)).cell
        have f9 := (HX.out.2.2.2.2.1.below (hp11 ▸ b)).free
        have c5 := (HX.out.2.2.2.1.below (hp11 ▸ b)).cell
        have c11 := g11.cell
        have SX := Lib.hid SX
        clear g11 b hp11 HX ix q0 q1 q2
        have hlc := low_cases n' s1
        rcases hlc with hlc | ⟨hu, e1, e2⟩
        · have HE := Lib.hid (mapT_same HSL.out (low_same (by rcases hlc with h | h | h; exact .inl h; exact .inr h.2.2; exact .inr h.2.2)))
          rcases bb with _ | _
          all_goals
            rcases hlc with hu | ⟨hu, e1, e2⟩ | ⟨hu, e1, e2⟩
            all_goals
              rw [hu] at c11
              go_upto_region 10 with (fail)
              refine wp_gen (fun Wv => ∃ x : Bool, x = (b0 || (s1.used && (s1.at_ == (n' : Int)))) ∧ OwnM Wv b1 67 (.slice tA tn tc) (.slice oA on oc) (.slice (some ⟨gS, 0, none⟩) 16 sc) ⟨m.types, m.objs, mapT (lowS n') S1 j⟩ ∧ Bx Wv (w.heap.size + 1 + 1) 26 #[.slice none 0 0, .slice none 0 0, .slice none 0 0] ∧ Bx Wv p6 26 #[.slice tA tn tc, .slice oA on oc, .slice (some ⟨gS, 0, none⟩) 16 sc] ∧ Bx Wv (p6 + 1) 3 #[.int .i64 n'] ∧ Bx Wv pb 4 #[.bool x] ∧ Bx Wv p11 67 #[.int .i64 s1.gen, .bool s1.used, .int .i64 s1.at_] ∧ Below w.heap.size w Wv ∧ pb < Wv.heap.size) ⟨_, by first | (rw [hb0, hu, e1]; rfl) | (rw [hb0, hu]; rfl), SX.out _⟩ ?_
              rintro wq ⟨x, hx, om, r3, r4, r5, r9, r11, B, hpz⟩
              have HF := Lib.hid (And.intro (HB1.out x hx) (And.intro om (And.intro r3 (And.intro r4 (And.intro r5 (And.intro r9 (And.intro B hpz)))))))
              clear c9 f9 c5 c11 hx om r3 r4 r9 B
              have c5 := r5.cell
              have c11 := r11.cell
              rw [hu] at c11
              clear r5 r11
              go_wp2
              clear c5 c11
              go_roundg (16 - (j + 1))
              case measure => omega
              case rel =>
                refine ⟨j + 1, by omega, rfl, by go_num, Lib.hid ⟨x, ?_⟩⟩
                rw [HE.out]; exact HF.out
        · have HE := Lib.hid (mapT_set (f := lowS n') HSL.out)
          have HLS := Lib.hid (low_less hu e2)
          have hbd := hbs hu
          have hwr : IntKind.i64.wrap (s1.at_ - 1) = s1.at_ - 1 := IntWalk.i64_in _ (by omega)
          rcases bb with _ | _
          all_goals
            rw [hu] at c11
            go_upto_region 10 with (fail)
            refine wp_gen (fun Wv => ∃ x : Bool, x = (b0 || (s1.used && (s1.at_ == (n' : Int)))) ∧ OwnM Wv b1 67 (.slice tA tn tc) (.slice oA on oc) (.slice (some ⟨gS, 0, none⟩) 16 sc) ⟨m.types, m.objs, mapT (lowS n') S1 j⟩ ∧ Bx Wv (w.heap.size + 1 + 1) 26 #[.slice none 0 0, .slice none 0 0, .slice none 0 0] ∧ Bx Wv p6 26 #[.slice tA tn tc, .slice oA on oc, .slice (some ⟨gS, 0, none⟩) 16 sc] ∧ Bx Wv (p6 + 1) 3 #[.int .i64 n'] ∧ Bx Wv pb 4 #[.bool x] ∧ Bx Wv p11 67 #[.int .i64 s1.gen, .bool s1.used, .int .i64 s1.at_] ∧ Below w.heap.size w Wv ∧ pb < Wv.heap.size) ⟨_, by first | (rw [hb0, hu, e1]; rfl) | (rw [hb0, hu]; rfl), SX.out _⟩ ?_
            rintro wq ⟨x, hx, om, r3, r4, r5, r9, r11, B, hpz⟩
            have HF := Lib.hid (HB1.out x hx)
            clear c9 f9 c5 c11 hx
            have c4 := r4.cell; have c5 := r5.cell
            have c11 := r11.cell
            rw [hu] at c11
            obtain ⟨ix, q0, q1, q2⟩ := OwnS.cells om.s hs2
            have HP := Lib.hid (OwnS.put1 om.s hs2 (s1.at_ - 1))
            have fz := HP.out.2.2.2.2
            have hM3 := OwnM.slots om HP.out.2.1 HP.out.1
            have nx := fun {q : Nat} {tq : TypeId} {cs : Array Value} (hb : Bx wq q tq cs) (hne : gS ≠ q) => hb.grown HP.out.2.1 (.inr (fun e => hne (by injection e)))
            have y3 := nx r3 (own_ne_bx om.s r3 (by decide)); have y4 := nx r4 (own_ne_bx om.s r4 (by decide)); have y5 := nx r5 (own_ne_bx om.s r5 (by decide)); have y9 := nx r9 (own_ne_bx om.s r9 (by decide))
            have hb3 := B.grown HP.out.2.1 B.size (fun k hk => by injection hk with hk; rw [← hk]; have := HP.out.2.2.1; omega)
            have HH := Lib.hid (And.intro hM3 (And.intro y3 (And.intro y4 (And.intro y5 (And.intro y9 (And.intro hb3 (Nat.lt_of_lt_of_le hpz HP.out.2.1.size)))))))
            clear nx y3 y4 y5 y9 hb3 hM3 om r3 r4 r5 r9 r11 B q0 q1
            go_wp2
            clear c4 c5 c11 ix q2 fz
            go_roundg (16 - (j + 1))
            case measure => omega
            case rel =>
              refine ⟨j + 1, by omega, rfl, by go_num, Lib.hid ⟨x, HF.out, ?_⟩⟩
              rw [← HE.out, HLS.out]; exact HH.out
      · obtain rfl : j = 16 := by omega
        rw [mapT_done (by rw [H1L.out]; omega)] at om
        obtain ⟨m2, hm2⟩ : ∃ m2 : Mo, m2 = ⟨m.types, m.objs, S1.map (lowS n')⟩ := ⟨_, rfl⟩
        rw [← hm2] at om
        have hb1r : b1 ≤ wr.heap.size := by have := r4.lt; omega
        obtain ⟨J, hJ⟩ : ∃ J : Nat → Nat → Mo → World → Prop, J = fun n i m' W => m' = mapP (lowV n') m2 n i ∧ ∃ b : Bool, (b = true ↔ sloTo S1 n' 16 ∨ refTo m n' n i) ∧ Bx W (w.heap.size + 1 + 1) 26 #[.slice none 0 0, .slice none 0 0, .slice none 0 0] ∧ Bx W p6 26 #[.slice tA tn tc, .slice oA on oc, .slice (some ⟨gS, 0, none⟩) 16 sc] ∧ Bx W (p6 + 1) 3 #[.int .i64 n'] ∧ Bx W pb 4 #[.bool b] ∧ Below w.heap.size w W := ⟨_, rfl⟩
        have RF := refs_any m2 (.slice tA tn tc) (.slice oA on oc) (.slice (some ⟨gS, 0, none⟩) 16 sc) 57 #[] #[.pointer (some ⟨pb, 0, none⟩), .pointer (some ⟨p6 + 1, 0, none⟩)] b1 J wr hb1r (by rw [hm2]; exact HRO.out _) (fun _ _ => rfl)
          (by
            intro n i m' W W' hj hb
            subst hJ
            obtain ⟨a1, b, a2, a3, a4, a5, a6, a7⟩ := hj
            exact ⟨a1, b, a2, a3.below hb, a4.below hb, a5.below hb, a6.below hb, a7.trans (hb.mono a7.size)⟩)
          (by
            intro n m' W hn hj
            subst hJ; subst hm2
            obtain ⟨a1, b, a2, a3⟩ := hj
            exact ⟨a1.trans mapP_next, b, a2.trans (or_congr Iff.rfl (refTo_next (m := m) hn)), a3⟩)
          (by
            intro n i m' W hn hi hk3 hj
            subst hJ; subst hm2
            obtain ⟨a1, b, a2, a3⟩ := hj
            refine ⟨a1.trans (mapP_skip (if_neg (fun h => hk3 h.1))).symm, b, a2.trans (or_congr Iff.rfl ?_), a3⟩
            rw [refTo_step (m := m) hn hi]
            exact ⟨.inl, fun h => h.elim id (fun h => absurd h.2.1 hk3)⟩)
          (by
            intro n i m' gf W hn hi hk3 hl hW omW ofW hj
            subst hJ
            obtain ⟨a1, b, a2, a3, a4, a5, a6, a7⟩ := hj
            exact free_step hm2 hn hi hk3 hn1 (z := w.heap.size + 1 + 1) (by omega) omW ofW a1 a2 a3 a4 a5 a6 a7 (by omega) (by omega) hpz (by omega))
          m2 (Like.refl _) om (by subst hJ; exact ⟨by rw [mapP_zero], bb, hbb.trans ⟨.inl, fun h => h.elim id (fun h => absurd h refTo_zero)⟩, r3, r4, r5, r9, B⟩)
        have RF := Lib.hid RF; have HM2 := Lib.hid hm2; have HJ := Lib.hid hJ
        have c4 := r4.cell
        clear hh om r3 r4 r5 r9 hbb hJ hm2 B hb1r
        go_wp2_with fail
        refine RF.out.mono ?_
        rintro e wf ⟨rfl, m3, hl3, om, hj3⟩
        rw [HJ.out] at hj3
        obtain ⟨a1, b, a2, r3, r4, r5, r9, B⟩ := hj3
        have hm3 : m3 = ⟨m.types, m.objs.map (lowO m n'), S1.map (lowS n')⟩ := by
          rw [a1, HM2.out]
          exact free_map
        have hN3 : m2.objs.length = m.objs.length := by rw [HM2.out]
        rw [hN3] at a2
        have hbz : b = true ↔ Busy m (k : Int) n' := by rw [HBU.out, a2, HS1.out, H16.out]
        rw [hm3] at om
        clear a1 a2 hl3 c4 RF hN3 hm3
        have c9 := r9.cell; have c3 := r3.cell; have f3 := r3.free
        rcases b with _ | _
        · have hnb : ¬ Busy m (k : Int) n' := fun h => by have := hbz.2 h; cases this
          have hM1 : M = ⟨m.types, (m.objs.map (lowO m n')).eraseIdx n', S1.map (lowS n')⟩ := by rw [HM.out, if_neg hnb, HS1.out]
          have hr1 : r = 0 := by rw [HRR.out, if_neg hnb]
          obtain ⟨gO, oc', hO⟩ : ∃ g c, Value.slice oA on oc = .slice (some ⟨g, 0, none⟩) on c := by
            obtain ⟨vs, z1, z2, _⟩ := om.o
            obtain ⟨g, c, cur, e, _⟩ := own_form z2 (by simp; have := HN.out; omega)
            refine ⟨g, c, ?_⟩
            rw [e]; injection e with _ e2; rw [e2]
          cases hO
          obtain ⟨hon, xs, z2, z1, HER⟩ := om.o.erase (i := n') (by simpa using HN.out) (by simp; have := HOB.out; omega)
          have hon2 : on = m.objs.length := by simpa using hon
          have hni : n' < on := by rw [hon2]; exact HN.out
          have DE := Lib.hid (Delete_any gO on oc n' (n' + 1) b1 xs rfl hni (by have := HOB.out; omega) wf z2 z1)
          have OM := Lib.hid om; have HER := Lib.hid HER
          have c4 := r4.cell; have c5 := r5.cell
          have hw1 : IntKind.i64.wrap ((n' : Int) + 1) = (n' : Int) + 1 := IntWalk.i64_in _ (by omega)
          clear om z1 z2 hon hon2 hbz hnb
          subst hM1; subst hr1
          go_wp2_with fail
          refine DE.out.mono ?_
          rintro e wd ⟨rfl, od, gd⟩
          have oO2 := HER.out wd gd od
          have neq : ∀ {q : Nat} {tq : TypeId} {cs : Array Value}, Bx wf q tq cs → 72 ≠ tq → gO ≠ q := fun hx hne => by
            obtain ⟨vs, z1, z2, _⟩ := OM.out.o
            exact own_ne_bx z2 hx hne
          have nx := fun {q : Nat} {tq : TypeId} {cs : Array Value} (hb : Bx wf q tq cs) (hne : gO ≠ q) => hb.grown gd (.inr (fun e => hne (by injection e)))
          have y3 := nx r3 (neq r3 (by decide)); have y4 := nx r4 (neq r4 (by decide))
          have hgO : b1 ≤ gO := by
            obtain ⟨vs, z1, z2, _⟩ := OM.out.o
            exact (z2.lt gO rfl).1
          have B2 := B.grown gd B.size (fun k hk => by injection hk with hk; omega)
          have om2 : OwnM wd b1 67 (.slice tA tn tc) (.slice (some ⟨gO, 0, none⟩) (on - 1) oc) (.slice (some ⟨gS, 0, none⟩) 16 sc) ⟨m.types, (m.objs.map (lowO m n')).eraseIdx n', S1.map (lowS n')⟩ := by
            obtain ⟨vs, z1, z2, _⟩ := OM.out.o
            exact ⟨OwnT.kept OM.out.t z2 gd (by decide) (by decide), oO2, World.ownsRow.kept OM.out.s gd (own_unlike OM.out.s z2 (by decide))⟩
          obtain ⟨on1, hon1⟩ : ∃ n, n = on - 1 := ⟨_, rfl⟩
          rw [← hon1] at om2 ⊢
          have om3 := om2.set (i := 1) (u := .slice (some ⟨gO, 0, none⟩) on1 oc) y4
          have y43 := y4.set (i := 1) (.slice (some ⟨gO, 0, none⟩) on1 oc)
          have y33 := y3.far (p := ⟨p6, 1, none⟩) (by show _ ≠ p6; omega) (.slice (some ⟨gO, 0, none⟩) on1 oc)
          have B3 := B2.setCell (p := ⟨p6, 1, none⟩) (by show _ ≤ p6; omega) (.slice (some ⟨gO, 0, none⟩) on1 oc)
          have HF := Lib.hid (And.intro om3 (And.intro y33 (And.intro (show Bx (wd.setCell ⟨p6, 1, none⟩ (.slice (some ⟨gO, 0, none⟩) on1 oc)) p6 26 #[.slice tA tn tc, .slice (some ⟨gO, 0, none⟩) on1 oc, .slice (some ⟨gS, 0, none⟩) 16 sc] by simpa using y43) B3)))
          have cy4 := y4.cell; have fy4 := y4.free
          clear om3 y33 y43 B3 om2 y3 y4 nx neq B2 oO2 gd od r3 r4 r5 r9 B c9 c3 f3 c4 c5 hon1 OM HER DE
          go_upto_region 17 with (fail)
          refine wp_gen (fun Wv => OwnM Wv b1 67 (.slice tA tn tc) (.slice (some ⟨gO, 0, none⟩) on1 oc) (.slice (some ⟨gS, 0, none⟩) 16 sc) ⟨m.types, (m.objs.map (lowO m n')).eraseIdx n', S1.map (lowS n')⟩ ∧ Bx Wv (w.heap.size + 1 + 1) 26 #[.slice none 0 0, .slice none 0 0, .slice none 0 0] ∧ Bx Wv p6 26 #[.slice tA tn tc, .slice (some ⟨gO, 0, none⟩) on1 oc, .slice (some ⟨gS, 0, none⟩) 16 sc] ∧ Below w.heap.size w Wv) HF.out ?_
          clear HF cy4 fy4
          rintro wl ⟨om3, r3, r4, B3⟩
          have c3 := r3.cell; have f3 := r3.free; have c4 := r4.cell
          go_wp2
          refine bodyPost_ret (v := .tuple #[.agg #[.slice tA tn tc, .slice (some ⟨gO, 0, none⟩) on1 oc, .slice (some ⟨gS, 0, none⟩) 16 sc], .int .i64 0]) (by simp [results, Try.results30, go_sem, c3, f3]) rfl ?_
          refine ⟨_, _, _, rfl, (OwnM.set3 om3 r3).rd, ?_⟩
          exact ((B3.setCell (p := ⟨w.heap.size + 1 + 1, 0, none⟩) (by simp; omega) _).setCell (p := ⟨w.heap.size + 1 + 1, 1, none⟩) (by simp; omega) _).setCell (p := ⟨w.heap.size + 1 + 1, 2, none⟩) (by simp; omega) _
        · have hM1 : M = .nil := by rw [HM.out, if_pos (hbz.1 rfl)]
          have hr1 : r = 45 := by rw [HRR.out, if_pos (hbz.1 rfl)]
          subst hM1; subst hr1
          clear om r4 r5 hbz
          go_wp2
          refine bodyPost_ret (v := .tuple #[.agg #[.slice none 0 0, .slice none 0 0, .slice none 0 0], .int .i64 45]) (by simp [results, Try.results30, go_sem, c3, f3]) rfl ?_
          refine ⟨_, _, _, rfl, Mod.nil _, ?_⟩
          exact ((B.setCell (p := ⟨w.heap.size + 1 + 1, 0, none⟩) (by simp; omega) _).setCell (p := ⟨w.heap.size + 1 + 1, 1, none⟩) (by simp; omega) _).setCell (p := ⟨w.heap.size + 1 + 1, 2, none⟩) (by simp; omega) _
  · have hr1 : r = asked m sl g := by rw [hr, freeE, if_neg ha]
    have hM1 : M = .nil := by
      rw [hM, freeM, if_neg]; rw [freeE, if_neg ha]; exact ha
    rw [hM1]
    exact Free20_no tv ov sv m sl g r hr1 ha w h
end Go.Proofs.Ytgjpohhafmkhcaa
namespace Go.Proofs.Ytgjpohhafmkhcaa
open Go.RowKit L02 L13 L18 L20
theorem chk_drop {m : Mo} {sl g : Int} (h : asked m sl g = 0) : chk (dropM m sl g) = 0 := by
  obtain ⟨c0, hr0, k, s, n', o, t, hk, hk16, hs, hu, hg, hso, hat, hown, hob1, _⟩ := asked_ok h
  obtain ⟨h1, h2, h3⟩ := chk_ok c0
  rw [dropM, if_pos h]
  refine chk_zero (by show ¬ (8 < m.types.length ∨ 960 < m.objs.length); omega) ⟨by show (m.slots.set _ _).length = 16; rw [List.length_set]; exact h3.1, h3.2.1, h3.2.2.1, ?_⟩
  intro s2 hs2
  rcases List.mem_or_eq_of_mem_set hs2 with h | h
  · exact h3.2.2.2 s2 h
  · rw [h]
    exact ⟨by rw [← hg]; exact hso.1, fun _ => rfl, fun h => by cases h⟩
set_option maxRecDepth 100000 in
set_option maxHeartbeats 8000000 in
theorem FreeR20_any (tv ov sv : Value) (m : Mo) (sl g : Int) (M : Mo) (r : Int) (hM : M = freeM m sl g) (hr : r = freeE m sl g) (w : World) (h : Mod w tv ov sv m) :
    Calls Try.prog 31 #[.agg #[tv, ov, sv], .agg #[.int .i64 sl, .int .i64 g]] w fun e w' => ∃ t' o' s', e = .returned (.tuple #[.agg #[t', o', s'], .int .i64 r]) ∧ Mod w' t' o' s' M ∧ Below w.heap.size w w' := by
  have B : Below w.heap.size w w := Below.refl _ _
  have H := Lib.hid h
  have AT := Lib.hid (fun w h => Asked_any tv ov sv m sl g _ rfl w h)
  by_cases ha : asked m sl g = 0
  · obtain ⟨c0, hr0, k, s, n', o, t, hk, hk16, hs, hu, hg, hso, hat, hown, hob1, _⟩ := asked_ok ha
    obtain ⟨_, hobjs, h16, _⟩ := chk_ok c0
    have hn' : n' < m.objs.length := (List.getElem?_eq_some_iff.1 hob1).1
    rw [ha] at AT
    obtain ⟨b, hb⟩ : ∃ b, b = decide (Busy m sl n') := ⟨_, rfl⟩
    have BT := Lib.hid (fun w h => Busy_any tv ov sv m sl n' b hb c0 (by omega) w h)
    have DT := Lib.hid (fun w h => DropR20_any tv ov sv m sl g _ _ rfl ha.symm w h)
    have HD := Lib.hid (chk_drop ha)
    have HDO := Lib.hid (show (dropM m sl g).objs = m.objs by rw [dropM, if_pos ha])
    have HFM := Lib.hid (fun (hnb : ¬ Busy m sl n') => show M = numM (dropM m sl g) (freeN m.objs.length n') from by
      rw [hM, free_num, hown]; rw [freeE, if_pos ha, hown, if_neg hnb])
    have HRR := Lib.hid (show r = if Busy m sl n' then 45 else 0 by rw [hr, freeE, if_pos ha, hown])
    have HMB := Lib.hid (fun (hbu : Busy m sl n') => show M = .nil from by rw [hM, freeM, freeE, if_pos ha, hown, if_pos hbu]; rfl)
    have HBB := Lib.hid hb
    subst hk
    obtain ⟨N, hN⟩ : ∃ N, N = m.objs.length := ⟨_, rfl⟩
    have HN := Lib.hid hN
    have hN1 : N ≤ 960 := by omega
    have hnN : n' < N := by omega
    obtain ⟨bs, qs, s2, is, k0, k1, k2, hs2⟩ := H.out.s.at_ (P := Try.prog) Try.underlying24 size_slot (k := k) (by omega)
    obtain rfl : s2 = s := by have := hs2.out; rw [hs] at this; injection this with e; exact e.symm
    rw [hat] at k2
    have lo := h.o.len
    rw [← hN] at lo
    clear hM hr ha c0 hr0 hu hso hat hown hs hk16 h16 hobjs hb hN hn' hob1 hs2 k0 k1 h
    have m2 := k2; clear k2
    go_enter Try.func31, Try.ntmps31
    go_upto_region 1 with (fail)
    refine wp_gen (fun Wv => Bx Wv (w.heap.size) (26) (#[tv, ov, sv]) ∧ Bx Wv (w.heap.size + 1) (28) (#[.int .i64 k, .int .i64 g]) ∧ Bx Wv (w.heap.size + 1 + 1) (26) (#[.slice none 0 0, .slice none 0 0, .slice none 0 0]) ∧ Below w.heap.size w Wv) ⟨((((Bx.at_ (by simp)).alloc _).alloc _)), (((Bx.at_ (by simp)).alloc _)), ((Bx.at_ (by simp))), ((((Below.refl _ w).alloc (by simp <;> omega) _).alloc (by simp <;> omega) _).alloc (by simp <;> omega) _)⟩ ?_
    rintro wa1 ⟨g1, g2, g3, b⟩
    replace m2 := cell_later b m2; replace B := B.trans (b.mono B.size); clear b
    have c_g1 := g1.cell; have f_g1 := g1.free; have a_g1 := fun o => (g1.alloc o).cell; have d_g1 := fun o o2 => ((g1.alloc o).alloc o2).cell; have e_g1 := fun o => (g1.alloc o).free
    have c_g2 := g2.cell; have f_g2 := g2.free; have a_g2 := fun o => (g2.alloc o).cell; have d_g2 := fun o o2 => ((g2.alloc o).alloc o2).cell; have e_g2 := fun o => (g2.alloc o).free
    have c_g3 := g3.cell; have f_g3 := g3.free; have a_g3 := fun o => (g3.alloc o).cell; have d_g3 := fun o o2 => ((g3.alloc o).alloc o2).cell; have e_g3 := fun o => (g3.alloc o).free
    have hp1 := g3.lt; have hz1 := B.size
    go_wp2_with fail
    refine (AT.out _ (H.out.below B)).mono ?_
    rintro e wa2 ⟨rfl, b⟩
    replace m2 := cell_later b m2; try clear c_g1 f_g1 a_g1 d_g1 e_g1
    replace g1 := g1.below b; have c_g1 := g1.cell; have f_g1 := g1.free; have a_g1 := fun o => (g1.alloc o).cell; have d_g1 := fun o o2 => ((g1.alloc o).alloc o2).cell; have e_g1 := fun o => (g1.alloc o).free; try clear c_g2 f_g2 a_g2 d_g2 e_g2
    replace g2 := g2.below b; have c_g2 := g2.cell; have f_g2 := g2.free; have a_g2 := fun o => (g2.alloc o).cell; have d_g2 := fun o o2 => ((g2.alloc o).alloc o2).cell; have e_g2 := fun o => (g2.alloc o).free; try clear c_g3 f_g3 a_g3 d_g3 e_g3
    replace g3 := g3.below b; have c_g3 := g3.cell; have f_g3 := g3.free; have a_g3 := fun o => (g3.alloc o).cell; have d_g3 := fun o o2 => ((g3.alloc o).alloc o2).cell; have e_g3 := fun o => (g3.alloc o).free; replace B := B.trans (b.mono B.size); clear b
    go_wp2_with fail
    refine (BT.out _ (H.out.below B)).mono ?_
    rintro e wa3 ⟨rfl, b⟩
    replace m2 := cell_later b m2; try clear c_g1 f_g1 a_g1 d_g1 e_g1
    replace g1 := g1.below b; have c_g1 := g1.cell; have f_g1 := g1.free; have a_g1 := fun o => (g1.alloc o).cell; have d_g1 := fun o o2 => ((g1.alloc o).alloc o2).cell; have e_g1 := fun o => (g1.alloc o).free; try clear c_g2 f_g2 a_g2 d_g2 e_g2
    replace g2 := g2.below b; have c_g2 := g2.cell; have f_g2 := g2.free; have a_g2 := fun o => (g2.alloc o).cell; have d_g2 := fun o o2 => ((g2.alloc o).alloc o2).cell; have e_g2 := fun o => (g2.alloc o).free; try clear c_g3 f_g3 a_g3 d_g3 e_g3
    replace g3 := g3.below b; have c_g3 := g3.cell; have f_g3 := g3.free; have a_g3 := fun o => (g3.alloc o).cell; have d_g3 := fun o o2 => ((g3.alloc o).alloc o2).cell; have e_g3 := fun o => (g3.alloc o).free; replace B := B.trans (b.mono B.size); clear b
    rcases b with _ | _
    · have hnb : ¬ Busy m (k : Int) n' := of_decide_eq_false HBB.out.symm
      have hM1 := HFM.out hnb
      have hr1 : r = 0 := by rw [HRR.out, if_neg hnb]
      subst hM1; subst hr1
      clear hnb HBB HMB HRR HFM
      have hp2 := g3.lt; have hz2 := B.size
      go_wp2_with fail
      refine (DT.out _ (H.out.below B)).mono ?_
      rintro e wa4 ⟨t', o', s', rfl, om, b⟩
      replace m2 := cell_later b m2; try clear c_g1 f_g1 a_g1 d_g1 e_g1
      replace g1 := g1.below b; have c_g1 := g1.cell; have f_g1 := g1.free; have a_g1 := fun o => (g1.alloc o).cell; have d_g1 := fun o o2 => ((g1.alloc o).alloc o2).cell; have e_g1 := fun o => (g1.alloc o).free; try clear c_g2 f_g2 a_g2 d_g2 e_g2
      replace g2 := g2.below b; have c_g2 := g2.cell; have f_g2 := g2.free; have a_g2 := fun o => (g2.alloc o).cell; have d_g2 := fun o o2 => ((g2.alloc o).alloc o2).cell; have e_g2 := fun o => (g2.alloc o).free; try clear c_g3 f_g3 a_g3 d_g3 e_g3
      replace g3 := g3.below b; have c_g3 := g3.cell; have f_g3 := g3.free; have a_g3 := fun o => (g3.alloc o).cell; have d_g3 := fun o o2 => ((g3.alloc o).alloc o2).cell; have e_g3 := fun o => (g3.alloc o).free; replace B := B.trans (b.mono B.size); clear b
      obtain ⟨tA, tn, tc, rfl⟩ : ∃ A n c, t' = .slice A n c := by obtain ⟨_, _, ⟨A, c, e, _⟩, _⟩ := om.t; exact ⟨A, _, c, e⟩
      obtain ⟨oA, on, oc, rfl⟩ : ∃ A n c, o' = .slice A n c := by obtain ⟨_, _, ⟨A, c, e, _⟩, _⟩ := om.o; exact ⟨A, _, c, e⟩
      obtain ⟨sA, sn, sc, rfl⟩ : ∃ A n c, s' = .slice A n c := by obtain ⟨A, c, e, _⟩ := om.s; exact ⟨A, _, c, e⟩
      go_upto_region 8 with (fail)
      refine wp_gen (fun Wv => Bx Wv (wa4.heap.size) (26) (#[.slice tA tn tc, .slice oA on oc, .slice sA sn sc]) ∧ Below wa4.heap.size wa4 Wv) ⟨((Bx.at_ (by simp))), ((Below.refl _ wa4).alloc (by simp <;> omega) _)⟩ ?_
      rintro wa5 ⟨g4, b⟩
      replace m2 := cell_later b m2; try clear c_g1 f_g1 a_g1 d_g1 e_g1
      replace g1 := g1.below b; have c_g1 := g1.cell; have f_g1 := g1.free; have a_g1 := fun o => (g1.alloc o).cell; have d_g1 := fun o o2 => ((g1.alloc o).alloc o2).cell; have e_g1 := fun o => (g1.alloc o).free; try clear c_g2 f_g2 a_g2 d_g2 e_g2
      replace g2 := g2.below b; have c_g2 := g2.cell; have f_g2 := g2.free; have a_g2 := fun o => (g2.alloc o).cell; have d_g2 := fun o o2 => ((g2.alloc o).alloc o2).cell; have e_g2 := fun o => (g2.alloc o).free; try clear c_g3 f_g3 a_g3 d_g3 e_g3
      replace g3 := g3.below b; have c_g3 := g3.cell; have f_g3 := g3.free; have a_g3 := fun o => (g3.alloc o).cell; have d_g3 := fun o o2 => ((g3.alloc o).alloc o2).cell; have e_g3 := fun o => (g3.alloc o).free; replace om := om.below b; replace B := B.trans (b.mono B.size); clear b
      have c_g4 := g4.cell; have f_g4 := g4.free; have a_g4 := fun o => (g4.alloc o).cell; have d_g4 := fun o o2 => ((g4.alloc o).alloc o2).cell; have e_g4 := fun o => (g4.alloc o).free
      have hz3 := B.size
      have hp4 := g4.lt
      have HG := Lib.hid (And.intro g1 (And.intro g3 (And.intro g4 (And.intro om B))))
      clear c_g1 f_g1 a_g1 d_g1 e_g1 c_g2 f_g2 a_g2 d_g2 e_g2 c_g3 f_g3 a_g3 d_g3 e_g3 c_g4 f_g4 a_g4 d_g4 e_g4
      clear g1 g2 g3 g4 om B
      generalize hp8 : wa4.heap.size = p8 at *
      go_wp2
      go_loopg [10, 11] N (fun gg nv i wr => ∃ j : Nat, j ≤ N ∧ gg = N - j ∧ i = .int .i64 j ∧ Hid (OwnI wr wa5.heap.size 3 nv (freeN j n') ∧ Below wa5.heap.size wa5 wr))
      case atStart => exact ⟨0, by omega, by omega, rfl, Lib.hid ⟨OwnI.nil _ _ _, Below.refl _ _⟩⟩
      case round =>
        obtain ⟨j, hj, rfl, rfl, hh⟩ := hrel
        have bb := hh.out.2
        have c1 := (HG.out.1.below bb).cell
        by_cases hlt : j < N
        · have HO := Lib.hid hh.out.1
          have HL := Lib.hid (show (freeN j n').length = j by simp [freeN])
          have HBb := Lib.hid bb
          clear hh bb
          have hcs : (decide (j < n') = true) ∨ (decide (j < n') = false ∧ ((j : Int) == (n' : Int)) = true) ∨ (decide (j < n') = false ∧ ((j : Int) == (n' : Int)) = false) := by
            by_cases h1 : j < n'
            · exact .inl (by rw [decide_eq_true_iff]; omega)
            · by_cases h2 : j = n'
              · exact .inr (.inl ⟨by rw [decide_eq_false_iff_not]; omega, by rw [beq_iff_eq]; omega⟩)
              · exact .inr (.inr ⟨by rw [decide_eq_false_iff_not]; omega, by rw [beq_eq_false_iff_ne]; omega⟩)
          have hx : ∀ x : Int, (if j < n' then (j : Int) else if j = n' then -1 else (j : Int) - 1) = x → (freeN j n').map i64 ++ [i64 x] = (freeN (j + 1) n').map i64 := fun x e => by rw [freeN_snoc, e, List.map_append]; rfl
          rcases hcs with e1 | ⟨e1, e2⟩ | ⟨e1, e2⟩
          · have HX := Lib.hid (hx (j : Int) (by rw [decide_eq_true_iff] at e1; rw [if_pos (by omega)]))
            clear hx
            go_wp2_with (at_builtin; refine wpList_append (by rfl) rfl rfl rfl Try.underlying52 info_int rfl (by omega) (by exact own_below HO.out ((Below.refl _ wr).alloc (Nat.le_refl _) _)) (by exact lit_rd) (by simp [Value.oneCell']) (by rw [HL.out]; omega) (by rw [HL.out]; omega) (by exact HBb.out.alloc HBb.out.size _) (Nat.le_refl _) ?_; intro v1 w1 hown1 hbel1 hv1; clear hv1)
            go_roundg (N - (j + 1))
            case measure => omega
            case rel => exact ⟨j + 1, by omega, rfl, by go_num, Lib.hid ⟨OwnI.of hown1 HX.out, hbel1⟩⟩
          · have HX := Lib.hid (hx (-1) (by rw [decide_eq_false_iff_not] at e1; rw [beq_iff_eq] at e2; rw [if_neg (by omega), if_pos (by omega)]))
            clear hx
            go_wp2_with (at_builtin; refine wpList_append (by rfl) rfl rfl rfl Try.underlying52 info_int rfl (by omega) (by exact own_below HO.out ((Below.refl _ wr).alloc (Nat.le_refl _) _)) (by exact lit_rd) (by simp [Value.oneCell']) (by rw [HL.out]; omega) (by rw [HL.out]; omega) (by exact HBb.out.alloc HBb.out.size _) (Nat.le_refl _) ?_; intro v1 w1 hown1 hbel1 hv1; clear hv1)
            go_roundg (N - (j + 1))
            case measure => omega
            case rel => exact ⟨j + 1, by omega, rfl, by go_num, Lib.hid ⟨OwnI.of hown1 HX.out, hbel1⟩⟩
          · have HX := Lib.hid (hx ((j : Int) - 1) (by rw [decide_eq_false_iff_not] at e1; rw [beq_eq_false_iff_ne] at e2; rw [if_neg (by omega), if_neg (by omega)]))
            have hwr : IntKind.i64.wrap ((j : Int) - 1) = (j : Int) - 1 := IntWalk.i64_in _ (by omega)
            clear hx
            go_wp2_with (at_builtin; refine wpList_append (by rfl) rfl rfl rfl Try.underlying52 info_int rfl (by omega) (by exact own_below HO.out ((Below.refl _ wr).alloc (Nat.le_refl _) _)) (by exact lit_rd) (by simp [Value.oneCell']) (by rw [HL.out]; omega) (by rw [HL.out]; omega) (by exact HBb.out.alloc HBb.out.size _) (Nat.le_refl _) ?_; intro v1 w1 hown1 hbel1 hv1; clear hv1)
            go_roundg (N - (j + 1))
            case measure => omega
            case rel => exact ⟨j + 1, by omega, rfl, by go_num, Lib.hid ⟨OwnI.of hown1 HX.out, hbel1⟩⟩
        · obtain rfl : j = N := by omega
          obtain ⟨g1, g3, g4, om, B⟩ := HG.out
          have NT := Lib.hid (Numbered_any (.slice tA tn tc) (.slice oA on oc) (.slice sA sn sc) _ _ (freeN j n') HD.out ⟨by rw [HDO.out, ← HN.out]; simp [freeN], fun x hx => by
            obtain ⟨a, ha, rfl⟩ := List.mem_map.1 hx
            have ha := List.mem_range.1 ha
            by_cases h1 : a < n'
            · rw [if_pos h1]; omega
            · rw [if_neg h1]
              by_cases h2 : a = n'
              · rw [if_pos h2]; omega
              · rw [if_neg h2]; omega⟩ wr (om.below bb) hh.out.1.rd)
          replace g3 := g3.below bb; replace g4 := g4.below bb
          replace B := B.trans (bb.mono hz3)
          have c4 := g4.cell
          clear g1 om hh bb
          go_wp2_with fail
          refine NT.out.mono ?_
          rintro e wf ⟨t2, o2, s2, rfl, om2, b2⟩
          have om3 : OwnM wf wr.heap.size 67 t2 o2 s2 (numM (dropM m (k : Int) g) (freeN m.objs.length n')) := by rw [← HN.out]; exact om2
          obtain ⟨t2A, t2n, t2c, rfl⟩ : ∃ A n c, t2 = .slice A n c := by obtain ⟨_, _, ⟨A, c, e, _⟩, _⟩ := om3.rd.t; exact ⟨A, _, c, e⟩
          obtain ⟨o2A, o2n, o2c, rfl⟩ : ∃ A n c, o2 = .slice A n c := by obtain ⟨_, _, ⟨A, c, e, _⟩, _⟩ := om3.rd.o; exact ⟨A, _, c, e⟩
          obtain ⟨s2A, s2n, s2c, rfl⟩ : ∃ A n c, s2 = .slice A n c := by obtain ⟨A, c, e, _⟩ := om3.rd.s; exact ⟨A, _, c, e⟩
          have h3 := g3.below b2
          have c3 := h3.cell; have f3 := h3.free
          replace B := B.trans (b2.mono B.size)
          have HOM := Lib.hid om3
          clear om2 om3 g3 g4 c4 c1 b2 NT
          go_wp2
          refine bodyPost_ret (v := .tuple #[.agg #[.slice t2A t2n t2c, .slice o2A o2n o2c, .slice s2A s2n s2c], .int .i64 0]) (by simp [results, Try.results31, go_sem, c3, f3]) rfl ?_
          refine ⟨_, _, _, rfl, (OwnM.set3 HOM.out h3).rd, ?_⟩
          exact ((B.setCell (p := ⟨w.heap.size + 1 + 1, 0, none⟩) (by simp; omega) _).setCell (p := ⟨w.heap.size + 1 + 1, 1, none⟩) (by simp; omega) _).setCell (p := ⟨w.heap.size + 1 + 1, 2, none⟩) (by simp; omega) _
    · have hbu : Busy m (k : Int) n' := of_decide_eq_true HBB.out.symm
      have hM1 := HMB.out hbu
      have hr1 : r = 45 := by rw [HRR.out, if_pos hbu]
      subst hM1; subst hr1
      clear hbu HBB HMB HRR
      go_wp2
      refine bodyPost_ret (v := .tuple #[.agg #[.slice none 0 0, .slice none 0 0, .slice none 0 0], .int .i64 45]) (by simp [results, Try.results31, go_sem, c_g3, f_g3]) rfl ?_
      refine ⟨_, _, _, rfl, Mod.nil _, ?_⟩
      (repeat (first | refine Below.setCell ?_ (by first | exact Nat.le_refl _ | (simp <;> omega)) _ | refine Below.alloc ?_ (by first | exact B.size | (have := B.size; simp <;> omega)) _)); exact B
  · have hr1 : r = asked m sl g := by rw [hr, freeE, if_neg ha]
    have hM1 : M = .nil := by
      rw [hM, freeM, if_neg]; rw [freeE, if_neg ha]; exact ha
    have hne : (r != 0) = true := by rw [bne_iff_ne, hr1]; exact ha
    subst hM1
    rw [← hr1] at AT
    clear hr hM ha h hr1
    go_enter Try.func31, Try.ntmps31
    go_upto_region 1 with (fail)
    refine wp_gen (fun Wv => Bx Wv (w.heap.size) (26) (#[tv, ov, sv]) ∧ Bx Wv (w.heap.size + 1) (28) (#[.int .i64 sl, .int .i64 g]) ∧ Bx Wv (w.heap.size + 1 + 1) (26) (#[.slice none 0 0, .slice none 0 0, .slice none 0 0]) ∧ Below w.heap.size w Wv) ⟨((((Bx.at_ (by simp)).alloc _).alloc _)), (((Bx.at_ (by simp)).alloc _)), ((Bx.at_ (by simp))), ((((Below.refl _ w).alloc (by simp <;> omega) _).alloc (by simp <;> omega) _).alloc (by simp <;> omega) _)⟩ ?_
    rintro wa1 ⟨g1, g2, g3, b⟩
    replace B := B.trans (b.mono B.size); clear b
    have c_g1 := g1.cell; have f_g1 := g1.free; have a_g1 := fun o => (g1.alloc o).cell; have d_g1 := fun o o2 => ((g1.alloc o).alloc o2).cell; have e_g1 := fun o => (g1.alloc o).free
    have c_g2 := g2.cell; have f_g2 := g2.free; have a_g2 := fun o => (g2.alloc o).cell; have d_g2 := fun o o2 => ((g2.alloc o).alloc o2).cell; have e_g2 := fun o => (g2.alloc o).free
    have c_g3 := g3.cell; have f_g3 := g3.free; have a_g3 := fun o => (g3.alloc o).cell; have d_g3 := fun o o2 => ((g3.alloc o).alloc o2).cell; have e_g3 := fun o => (g3.alloc o).free
    go_wp2_with fail
    refine (AT.out _ (H.out.below B)).mono ?_
    rintro e wa2 ⟨rfl, b⟩
    try clear c_g1 f_g1 a_g1 d_g1 e_g1
    replace g1 := g1.below b; have c_g1 := g1.cell; have f_g1 := g1.free; have a_g1 := fun o => (g1.alloc o).cell; have d_g1 := fun o o2 => ((g1.alloc o).alloc o2).cell; have e_g1 := fun o => (g1.alloc o).free; try clear c_g2 f_g2 a_g2 d_g2 e_g2
    replace g2 := g2.below b; have c_g2 := g2.cell; have f_g2 := g2.free; have a_g2 := fun o => (g2.alloc o).cell; have d_g2 := fun o o2 => ((g2.alloc o).alloc o2).cell; have e_g2 := fun o => (g2.alloc o).free; try clear c_g3 f_g3 a_g3 d_g3 e_g3
    replace g3 := g3.below b; have c_g3 := g3.cell; have f_g3 := g3.free; have a_g3 := fun o => (g3.alloc o).cell; have d_g3 := fun o o2 => ((g3.alloc o).alloc o2).cell; have e_g3 := fun o => (g3.alloc o).free; replace B := B.trans (b.mono B.size); clear b
    go_wp2
    refine bodyPost_ret (v := .tuple #[.agg #[.slice none 0 0, .slice none 0 0, .slice none 0 0], .int .i64 r]) (by simp [results, Try.results31, go_sem, c_g3, f_g3]) rfl ?_
    refine ⟨_, _, _, rfl, Mod.nil _, ?_⟩
    (repeat (first | refine Below.setCell ?_ (by first | exact Nat.le_refl _ | (simp <;> omega)) _ | refine Below.alloc ?_ (by first | exact B.size | (have := B.size; simp <;> omega)) _)); exact B
end Go.Proofs.Ytgjpohhafmkhcaa
namespace Go.Proofs.Ytgjpohhafmkhcaa.L20
open L02 L13 L18
def rootsFrom (m : Mo) (j : Nat) : List Nat := (m.slots.drop j).filterMap rootOf
theorem rootsFrom_zero (m : Mo) : rootsFrom m 0 = roots m := rfl
theorem rootsFrom_end (m : Mo) : rootsFrom m m.slots.length = [] := by rw [rootsFrom, List.drop_of_length_le (Nat.le_refl _)]; rfl
theorem rootsFrom_step {m : Mo} {j : Nat} {s : Sl} (hs : m.slots[j]? = some s) : rootsFrom m j = (match rootOf s with | none => [] | some c => [c]) ++ rootsFrom m (j + 1) := by
  have hj : j < m.slots.length := (List.getElem?_eq_some_iff.1 hs).1
  have hd : m.slots.drop j = s :: m.slots.drop (j + 1) := by
    rw [List.drop_eq_getElem_cons hj]; congr 1
    rw [List.getElem?_eq_getElem hj] at hs; injection hs
  rw [rootsFrom, hd, List.filterMap_cons]
  cases rootOf s <;> rfl
theorem rootsFrom_len (m : Mo) (j : Nat) : (rootsFrom m j).length ≤ m.slots.length := Nat.le_trans (List.length_filterMap_le _ _) (by simp)
def natI (l : List Nat) : List Int := l.map fun n : Nat => (n : Int)
theorem natI_len (l : List Nat) : (natI l).length = l.length := by simp [natI]
theorem natI_snoc (l : List Nat) (x : Nat) : natI (l ++ [x]) = natI l ++ [(x : Int)] := by simp [natI]
def seenV (N : Nat) (ord : List Nat) : List Bool := (List.range N).map fun i => decide (i ∈ ord)
theorem seenV_len (N : Nat) (ord : List Nat) : (seenV N ord).length = N := by simp [seenV]
theorem seenV_get {N n : Nat} (ord : List Nat) (h : n < N) : (seenV N ord)[n]? = some (decide (n ∈ ord)) := by simp [seenV, h]
theorem seenV_set {N n : Nat} (ord : List Nat) (h : n < N) : (seenV N ord).set n true = seenV N (ord ++ [n]) := by
  apply List.ext_getElem?
  intro i
  rcases Nat.lt_or_ge i N with hi | hi
  · by_cases hn : n = i
    · subst hn
      rw [List.getElem?_set_self (by rw [seenV_len]; exact h), seenV_get _ h]; simp
    · rw [List.getElem?_set_ne hn, seenV_get _ hi, seenV_get _ hi]
      simp [Ne.symm hn]
  · rw [List.getElem?_eq_none (by rw [List.length_set, seenV_len]; exact hi), List.getElem?_eq_none (by rw [seenV_len]; exact hi)]
theorem seenV_nil (N : Nat) : seenV N [] = List.replicate N false := by
  apply List.ext_getElem?
  intro i
  rcases Nat.lt_or_ge i N with hi | hi
  · rw [seenV_get _ hi, List.getElem?_replicate, if_pos hi]; rfl
  · rw [List.getElem?_eq_none (by rw [seenV_len]; exact hi), List.getElem?_eq_none (by simpa using hi)]
/-- one before -/
def iOf : Nat → Int
  | 0 => -1
  | k + 1 => (k : Int)
theorem iOf_pred (k : Nat) : (k : Int) - 1 = iOf k := by cases k with | zero => rfl | succ k => simp only [iOf]; omega
theorem iOf_le (k : Nat) : iOf k = (k : Int) - 1 := (iOf_pred k).symm
/-- what is known of a kid -/
theorem kidAt_some {m : Mo} {o : Ob} {i c : Nat} (h : kidAt m o i = some c) : ((ty m.types o).getD i 0).toNat = 3 ∧ (o.fs.getD i 0).toNat = c + 1 := by
  unfold kidAt at h
  split at h
  · rename_i h1; injection h with h; exact ⟨h1.1, by omega⟩
  · cases h
theorem kids_lt {m : Mo} (hc : chk m = 0) : ∀ n, n < m.objs.length → ∀ k ∈ kids m n, k < m.objs.length := by
  intro n hn k hk
  obtain ⟨_, _, h3⟩ := chk_ok hc
  rw [kids, kidsTo, List.mem_filterMap] at hk
  obtain ⟨i, hi, hk⟩ := hk
  have hi := List.mem_range.1 hi
  have h1 := kidAt_some hk
  have hoo : ObOk m.types m.objs.length (ob m n) := h3.2.2.1 _ (by rw [ob, List.getD_eq_getElem?_getD, List.getElem?_eq_getElem hn]; exact List.getElem_mem hn)
  have := (hoo.2.2 i hi).2 h1.1
  omega
theorem roots_lt {m : Mo} (hc : chk m = 0) : ∀ n ∈ roots m, n < m.objs.length := by
  intro n hn
  obtain ⟨_, _, h3⟩ := chk_ok hc
  rw [roots, List.mem_filterMap] at hn
  obtain ⟨s, hs, hn⟩ := hn
  unfold rootOf at hn
  split at hn
  · rename_i hu
    injection hn with hn
    obtain ⟨a1, a2, a3⟩ := (h3.2.2.2 s hs).2.2 hu
    omega
  · cases hn
theorem reach_ex {m : Mo} (hc : chk m = 0) : ∃ out, Rs m [] (roots m) out := Rs.ex (N := m.objs.length) (kids_lt hc) _ [] (roots m) rfl List.nodup_nil (by simp) (roots_lt hc)
/-- what is reached -/
structure Reach (m : Mo) (out : List Nat) : Prop where
  rs : Rs m [] (roots m) out
  nd : out.Nodup
  lt : ∀ n ∈ out, n < m.objs.length
  len : out.length ≤ m.objs.length
theorem Reach.of {m : Mo} (hc : chk m = 0) {out : List Nat} (h : Rs m [] (roots m) out) : Reach m out := by
  have nd := h.nodup List.nodup_nil
  have lt := h.all (p := fun n => n < m.objs.length) (kids_lt hc) (by simp) (roots_lt hc)
  exact ⟨h, nd, lt, nodup_lt nd lt⟩
theorem canN_len (m : Mo) (out : List Nat) : (canN m out).length = m.objs.length := by simp [canN]
theorem canN_get {m : Mo} {out : List Nat} {n : Nat} (h : n < m.objs.length) : (canN m out)[n]? = some (if n ∈ out then (out.idxOf n : Int) else -1) := by simp [canN, h]
theorem canN_nil (m : Mo) : canN m [] = List.replicate m.objs.length (-1) := by
  apply List.ext_getElem?
  intro i
  rcases Nat.lt_or_ge i m.objs.length with hi | hi
  · rw [canN_get hi, List.getElem?_replicate, if_pos hi]; simp
  · rw [List.getElem?_eq_none (by rw [canN_len]; exact hi), List.getElem?_eq_none (by simpa using hi)]
theorem idxOf_snoc {l : List Nat} {x y : Nat} (hx : x ∉ l) : (l ++ [x]).idxOf y = if y ∈ l then l.idxOf y else if y = x then l.length else l.length + 1 := by
  rw [List.idxOf_append]
  by_cases h : y ∈ l
  · rw [if_pos h, if_pos h]
  · rw [if_neg h, if_neg h]
    by_cases h2 : y = x
    · subst h2; simp
    · rw [if_neg h2]
      have : (x == y) = false := by rw [beq_eq_false_iff_ne]; exact Ne.symm h2
      simp [List.idxOf_cons, this]; omega
/-- one more is numbered -/
theorem canN_step {m : Mo} {out : List Nat} {i n : Nat} (hn : out.Nodup) (hi : out[i]? = some n) (hlt : n < m.objs.length) : (canN m (out.take i)).set n (i : Int) = canN m (out.take (i + 1)) := by
  have hil : i < out.length := (List.getElem?_eq_some_iff.1 hi).1
  have ht : out.take (i + 1) = out.take i ++ [n] := by rw [List.take_add_one, hi]; rfl
  have hni : n ∉ out.take i := by
    have := hn.sublist (List.take_sublist (i + 1) out)
    rw [ht] at this
    intro h
    exact (List.nodup_append.1 this).2.2 n h n (by simp) rfl
  have hlen : (out.take i).length = i := by rw [List.length_take]; omega
  apply List.ext_getElem?
  intro k
  rcases Nat.lt_or_ge k m.objs.length with hk | hk
  · by_cases hkn : n = k
    · subst hkn
      rw [List.getElem?_set_self (by rw [canN_len]; exact hk), canN_get hk, ht, if_pos (by simp), idxOf_snoc hni, if_neg hni, if_pos rfl, hlen]
    · rw [List.getElem?_set_ne hkn, canN_get hk, canN_get hk, ht]
      by_cases hm : k ∈ out.take i
      · rw [if_pos hm, if_pos (List.mem_append_left _ hm), idxOf_snoc hni, if_pos hm]
      · rw [if_neg hm, if_neg (by simp [hm]; exact fun e => hkn e.symm)]
  · rw [List.getElem?_eq_none (by rw [List.length_set, canN_len]; exact hk), List.getElem?_eq_none (by rw [canN_len]; exact hk)]
theorem canN_ok {m : Mo} {out : List Nat} (hc : chk m = 0) (h : Reach m out) : NumOk m (canN m out) := by
  refine ⟨canN_len m out, fun x hx => ?_⟩
  obtain ⟨n, hn, rfl⟩ := List.mem_map.1 hx
  split
  · rename_i hm
    have := List.idxOf_lt_length_of_mem hm
    have := h.len; have := (chk_ok hc).2.1
    omega
  · omega
/-- the numbers of what is found, and 1 -/
def numsI (m : Mo) (ord : List Nat) : List Int := (List.range m.objs.length).map fun n => if n ∈ ord then (ord.idxOf n : Int) + 1 else 0
theorem numsI_len (m : Mo) (ord : List Nat) : (numsI m ord).length = m.objs.length := by simp [numsI]
theorem numsI_get {m : Mo} {ord : List Nat} {n : Nat} (h : n < m.objs.length) : (numsI m ord)[n]? = some (if n ∈ ord then (ord.idxOf n : Int) + 1 else 0) := by simp [numsI, h]
theorem numsI_nil (m : Mo) : numsI m [] = List.replicate m.objs.length 0 := by
  apply List.ext_getElem?
  intro i
  rcases Nat.lt_or_ge i m.objs.length with hi | hi
  · rw [numsI_get hi, List.getElem?_replicate, if_pos hi]; simp
  · rw [List.getElem?_eq_none (by rw [numsI_len]; exact hi), List.getElem?_eq_none (by simpa using hi)]
theorem numsI_step {m : Mo} {ord : List Nat} {n : Nat} (hni : n ∉ ord) (hlt : n < m.objs.length) : (numsI m ord).set n ((ord.length : Int) + 1) = numsI m (ord ++ [n]) := by
  apply List.ext_getElem?
  intro k
  rcases Nat.lt_or_ge k m.objs.length with hk | hk
  · by_cases hkn : n = k
    · subst hkn
      rw [List.getElem?_set_self (by rw [numsI_len]; exact hk), numsI_get hk, if_pos (by simp), idxOf_snoc hni, if_neg hni, if_pos rfl]
    · rw [List.getElem?_set_ne hkn, numsI_get hk, numsI_get hk]
      by_cases hm : k ∈ ord
      · rw [if_pos hm, if_pos (List.mem_append_left _ hm), idxOf_snoc hni, if_pos hm]
      · rw [if_neg hm, if_neg (by simp [hm]; exact fun e => hkn e.symm)]
  · rw [List.getElem?_eq_none (by rw [List.length_set, numsI_len]; exact hk), List.getElem?_eq_none (by rw [numsI_len]; exact hk)]
/-- the next kid -/
theorem Rs.kid {m : Mo} {o : Ob} {ord mid out : List Nat} {i c : Nat} (hi : i < o.fs.length) (h : Rs m ord (kidsTo m o o.fs.length) out) (h1 : Rs m ord (kidsTo m o i) mid) (hc : kidAt m o i = some c) : ∃ mid2, Rs m mid [c] mid2 ∧ Rs m ord (kidsTo m o (i + 1)) mid2 := by
  rw [kids_split (Nat.le_of_lt hi), kidsFrom_step hi, hc] at h
  obtain ⟨mid', a1, a2⟩ := h.app rfl
  obtain rfl := a1.det h1
  obtain ⟨mid2, b1, b2⟩ := a2.app (a := [c]) rfl
  exact ⟨mid2, b1, by rw [kidsTo_step, hc]; exact a1.join b1⟩
end Go.Proofs.Ytgjpohhafmkhcaa.L20
namespace Go.Proofs.Ytgjpohhafmkhcaa
open Go Go.RowKit
section
variable {P : Program} {ops : Array Oper} {rest : List Oper} {o : Oper} {a : Act} {Q : Exit → Act → World → Prop} {w : World}
theorem run_append_own2 (base : Nat) (t ty e : TypeId) (i : TypeInfo) (z : Value) (size bytes : Nat) (ht : P.underlying t = some (.slice e)) (hi : P.info? e = some i) (hz : i.zero = some z)
    (hsize : i.size = size) (hby : i.bytes = bytes) (hzs : z.cells.size = size) (hsz : 0 < size) (v : Value) (n : Nat) (xs : List Value) (hown : w.ownsRow base e size v n xs)
    (ad : Addr) (m c : Nat) (news : List Value) (hl : news.length = m * size) (hnews : ∀ j u, news[j]? = some u → w.cell? (ad.add j) = some u) (h1 : ∀ u ∈ news, u.oneCell' = true)
    (h63 : n + m ≤ maxLen) (hbytes : (n + m) * bytes ≤ 140737488355328) (hbase : base ≤ w.heap.size) :
    ∃ v' w', (Builtin.append_ #[t, t] ty #[v, .slice (some ad) m c]).run P w = .ok v' w' ∧ w'.ownsRow base e size v' (n + m) (xs ++ news) ∧ w.grownBy w' v.ownBlock ∧ ∀ g, v'.ownBlock = some g → v.ownBlock = some g ∨ w.heap.size ≤ g := by
  obtain ⟨v', w', hrun, r1, r2, _⟩ := run_append_own (P := P) w base t ty e i z size bytes ht hi hz hsize hby hzs hsz v n xs hown ad m c news hl hnews h1 h63 hbytes hbase
  refine ⟨v', w', hrun, r1, r2, fun g hg => ?_⟩
  rcases hown.2 with ⟨rfl, rfl⟩ | ⟨g0, cap, cur, rfl, hB, hg0, hc, hm, hcs, htk⟩
  · have hxs : xs = [] := List.eq_nil_of_length_eq_zero (by have := hown.1; simpa using this)
    obtain ⟨v2, w2, hrun2, r3, _⟩ := run_append_own (P := P) w w.heap.size t ty e i z size bytes ht hi hz hsize hby hzs hsz (.slice none 0 0) 0 [] (World.ownsRow_nil w _ _ _) ad m c news hl hnews h1 h63 hbytes (Nat.le_refl _)
    rw [hrun] at hrun2
    injection hrun2 with e1 e2
    subst e1; subst e2
    exact .inr (r3.lt g hg).1
  · subst hsize
    have hcell : ∀ j u, xs[j]? = some u → w.cell? ((⟨g0, 0, none⟩ : Addr).add j) = some u := fun j u hu => hown.cells (g := g0) rfl j u hu
    by_cases hroom : n + m ≤ cap
    · have hr := run_append_room_cells (P := P) w t ty e i ht hi g0 0 n cap ad m c news hl hnews h1 hroom (fun j hj => by
        have hlt : 0 + n * i.size + j < cur.size := by
          have : (n + m) * i.size ≤ cap * i.size := Nat.mul_le_mul hroom (Nat.le_refl _)
          rw [Nat.add_mul] at this; rw [hcs]; rw [hl] at hj; omega
        have := cell_of_row w g0 (0 + n * i.size + j) cur e (0, 0) hg0
        rw [this, Array.getElem?_eq_getElem hlt]; rfl) (fun j hj => frozen_of_row w g0 _ cur e hg0)
      rw [hrun] at hr
      injection hr with e1 e2
      subst e1
      exact .inl hg
    · obtain ⟨v2, w2, hrun2, r3, _⟩ := run_append_arg_grows (P := P) w t ty e i z i.size bytes ht hi hz rfl hby hzs hsz ⟨g0, 0, none⟩ n cap xs hown.1 hcell ad m c news hl hnews (by omega) h63 hbytes
      rw [hrun] at hrun2
      injection hrun2 with e1 e2
      subst e1; subst e2
      exact .inr (r3.lt g hg).1
theorem wpList_append2 (hgd : Region.wanted o (yielded ops a.tmps) = true) {s x : Operand} {t e B sz by_ : Nat} (ho : o.op = .call { callee := .builtin .append, args := #[s, x], argTypes := #[t, t] })
    {v z : Value} {n m c : Nat} {xs ys : List Value} (hs : a.eval s = v) {ad : Addr} (hx : a.eval x = .slice (some ad) m c) (ht : P.underlying t = some (.slice e))
    (hi : (P.info? e).map (fun i => (i.zero, i.size, i.bytes)) = some (some z, sz, by_)) (hzs : z.cells.size = sz) (hsz : 0 < sz)
    (hown : w.ownsRow B e sz v n xs) (hrd : Rd w sz (.slice (some ad) m c) m ys) (h1 : ∀ u ∈ ys, u.oneCell' = true) (hm : 0 < m) (h63 : n + m ≤ 9223372036854775807) (hbytes : (n + m) * by_ ≤ 140737488355328)
    {w0 : World} (hb : Below B w0 w) (hB : B ≤ w0.heap.size)
    (h : ∀ v' w', w'.ownsRow B e sz v' (n + m) (xs ++ ys) → Below B w0 w' → w.grownBy w' v.ownBlock → (∀ g, v'.ownBlock = some g → v.ownBlock = some g ∨ w.heap.size ≤ g) → wpList P ops Q rest (a.put o.dst v') w') : wpList P ops Q (o :: rest) a w := by
  obtain ⟨i, hi1, hi2, hi3, hi4⟩ := info3 hi
  have hcell : ∀ j u, ys[j]? = some u → w.cell? (ad.add j) = some u := by
    obtain ⟨A, c', e1, s1, s2, s3, s4, s5⟩ := hrd
    injection e1 with e1 _ _
    intro j u hu
    obtain ⟨p1, p2, p3⟩ := s5 hm ad e1.symm
    obtain ⟨b, q, sp⟩ := ad
    simp at p1; subst p1
    rw [show ((⟨b, q, none⟩ : Addr).add j) = ⟨b, q + j, none⟩ by unfold Addr.add; split <;> simp_all]
    exact p3 j u hu
  have hyl : ys.length = m * sz := by obtain ⟨A, c', e1, s1, s2, s3, _⟩ := hrd; exact s3
  obtain ⟨v', w', hrun, r1, r2, r3⟩ := run_append_own2 (P := P) (w := w) B t o.type e i z sz by_ ht hi1 hi2 hi3 hi4 hzs hsz v n xs hown ad m c ys hyl hcell h1 (by unfold maxLen; omega) hbytes (Nat.le_trans hB hb.size)
  refine wpList_wanted hgd fun K hK => ?_
  unfold Oper.wp
  simp [execOp, ho, resolve, invoke, builtin, hs, hx, hrun, Result.andThen]
  exact hK _ _ (h v' w' r1 (hb.grown r2 (Nat.le_trans hB hb.size) fun k hk => (hown.lt k hk).1) r2 r3)
end
end Go.Proofs.Ytgjpohhafmkhcaa
namespace Go.Proofs.Ytgjpohhafmkhcaa
open Go.RowKit L02 L13 L18 L20
theorem info_boolF : (Try.prog.info? 4).map (fun i => (i.zero, i.size, i.bytes)) = some (some (.bool false), 1, 1) := by kernel_rfl
theorem one_bool : (Try.prog.info? 4).map (·.size) = some 1 := by kernel_rfl
/-- memory while the reference searches: seen, what is found, the stack -/
structure Fnd (w wr : World) (tv ov sv : Value) (N : Nat) (sn on st : Value) (od ord S : List Nat) : Prop where
  g1 : Bx wr w.heap.size 26 #[tv, ov, sv]
  hs : wr.ownsRow w.heap.size 4 1 sn N ((seenV N od).map .bool)
  ho : OwnI wr w.heap.size 3 on (natI ord)
  ht : OwnI wr w.heap.size 3 st (natI S)
  ne : ∀ g, st.ownBlock = some g → on.ownBlock ≠ some g
  B : Below w.heap.size w wr
section
variable {w wr w' : World} {tv ov sv sn on st v' : Value} {N x : Nat} {od ord S : List Nat}
theorem Fnd.below (e : Fnd w wr tv ov sv N sn on st od ord S) (b : Below wr.heap.size wr w') : Fnd w w' tv ov sv N sn on st od ord S :=
  ⟨e.g1.below b, own_below e.hs b, OwnI.below e.ho b, OwnI.below e.ht b, e.ne, e.B.trans (b.mono e.B.size)⟩
theorem lit_b (wr : World) (x : Nat) : Below wr.heap.size wr (wr.alloc (.cells #[.int .i64 (x : Int)] 3)) := (Below.refl _ wr).alloc (Nat.le_refl _) _
theorem ne_swap {a b : Value} (h : ∀ g, b.ownBlock = some g → a.ownBlock ≠ some g) : a.ownBlock = none ∨ a.ownBlock ≠ b.ownBlock := by
  cases hb : b.ownBlock with
  | none => cases a.ownBlock <;> simp
  | some g => exact .inr (h g hb)
theorem ne_swap' {a b : Value} (h : ∀ g, b.ownBlock = some g → a.ownBlock ≠ some g) : b.ownBlock = none ∨ b.ownBlock ≠ a.ownBlock := by
  cases hb : b.ownBlock with
  | none => exact .inl rfl
  | some g => exact .inr (fun e => h g hb e.symm)
theorem Fnd.pushS (e : Fnd w wr tv ov sv N sn on st od ord S) {n : Nat} (o : w'.ownsRow w.heap.size 3 1 v' n ((natI S).map i64 ++ [.int .i64 (x : Int)])) (b : Below w.heap.size w w') (hg : (wr.alloc (.cells #[.int .i64 (x : Int)] 3)).grownBy w' st.ownBlock)
    (hk : ∀ g, v'.ownBlock = some g → st.ownBlock = some g ∨ (wr.alloc (.cells #[.int .i64 (x : Int)] 3)).heap.size ≤ g) : Fnd w w' tv ov sv N sn on v' od ord (S ++ [x]) := by
  have e2 := e.below (lit_b wr x)
  refine ⟨e2.g1.grown hg (own_not_bx e2.ht e2.g1 (by decide)), World.ownsRow.kept e2.hs hg (own_unlike e2.hs e2.ht (by decide)), World.ownsRow.kept e2.ho hg (ne_swap e.ne), OwnI.of o (by rw [natI_snoc, List.map_append]; rfl), fun g hv => ?_, b⟩
  rcases hk g hv with h | h
  · exact e.ne g h
  · intro ho
    have := (World.ownsRow.lt e.ho g ho).2
    simp at h; omega
theorem Fnd.pushO (e : Fnd w wr tv ov sv N sn on st od ord S) {n : Nat} (o : w'.ownsRow w.heap.size 3 1 v' n ((natI ord).map i64 ++ [.int .i64 (x : Int)])) (b : Below w.heap.size w w') (hg : (wr.alloc (.cells #[.int .i64 (x : Int)] 3)).grownBy w' on.ownBlock)
    (hk : ∀ g, v'.ownBlock = some g → on.ownBlock = some g ∨ (wr.alloc (.cells #[.int .i64 (x : Int)] 3)).heap.size ≤ g) : Fnd w w' tv ov sv N sn v' st od (ord ++ [x]) S := by
  have e2 := e.below (lit_b wr x)
  refine ⟨e2.g1.grown hg (own_not_bx e2.ho e2.g1 (by decide)), World.ownsRow.kept e2.hs hg (own_unlike e2.hs e2.ho (by decide)), OwnI.of o (by rw [natI_snoc, List.map_append]; rfl), World.ownsRow.kept e2.ht hg (ne_swap' e.ne), fun g hv ho => ?_, b⟩
  rcases hk g ho with h | h
  · exact e.ne g hv h
  · have := (World.ownsRow.lt e.ht g hv).2
    simp at h; omega
/-- the mark of an object -/
theorem Fnd.mark (e : Fnd w wr tv ov sv N sn on st od ord S) {n : Nat} (hn : n < N) : ∃ gs, (∀ W, (Instr.indexAt 100 sn (.int .i64 (n : Int))).run Try.prog W = .ok (.pointer (some ⟨gs, n, none⟩)) W) ∧ wr.cell? ⟨gs, n, none⟩ = some (.bool (decide (n ∈ od))) ∧ wr.frozen? ⟨gs, n, none⟩ = false ∧
    Fnd w (wr.setCell ⟨gs, n, none⟩ (.bool true)) tv ov sv N sn on st (od ++ [n]) ord S := by
  obtain ⟨gs, cap, cur, rfl, hB, hg, hnc, hcm, hcs, htake⟩ := own_form e.hs (by omega)
  have hix := fun W => Rd.ixN (Rd.of_own e.hs) Try.underlying100 one_bool hn W
  have hc := Rd.cell (Rd.of_own e.hs) (j := n) (u := .bool (decide (n ∈ od))) (by rw [List.getElem?_map, seenV_get _ hn]; rfl)
  have hst := World.ownsRow.stored e.hs n (.bool true)
  have e1 : ((seenV N od).map Value.bool).set n (.bool true) = (seenV N (od ++ [n])).map .bool := by rw [← seenV_set od hn, List.map_set]
  rw [e1] at hst
  have fg := hst.2
  refine ⟨gs, fun W => by have := hix W; simpa [cellAt] using this, by simpa [cellAt] using hc, e.hs.frozenAt n, e.g1.grown fg (own_not_bx e.hs e.g1 (by decide)), hst.1, World.ownsRow.kept e.ho fg (own_unlike e.ho e.hs (by decide)), World.ownsRow.kept e.ht fg (own_unlike e.ht e.hs (by decide)), e.ne, e.B.setCell (p := ⟨gs, n, none⟩) hB _⟩
end
theorem own_cutTo {P : Program} {w : World} {v : Value} {n B e t : Nat} {xs : List Value} (h : w.ownsRow B e 1 v n xs) {e' : Nat} (ht : P.underlying t = some (.slice e')) (hs : (P.info? e').map (·.size) = some 1) {hi : Nat} (h1 : hi ≤ n) :
    ∃ v', (∀ W, (Instr.sliceAt t v none (some (.int .i64 (hi : Int))) none).run P W = .ok v' W) ∧ w.ownsRow B e 1 v' hi (xs.take hi) ∧ v'.ownBlock = v.ownBlock := by
  obtain ⟨v', _, _, r, _, A, c, r3, r4⟩ := Rd.cutN (Rd.of_own h) ht hs (lo := 0) (hi := hi) (by omega) h1
  refine ⟨v', r rfl, ?_⟩
  rcases h.2 with ⟨rfl, hn⟩ | ⟨g, cap, cur, rfl, hB, hg, hc, hm, hcs, htk⟩
  · injection r3 with a1 a2 a3
    subst a1; subst a3
    obtain rfl : hi = 0 := by omega
    subst r4
    exact ⟨World.ownsRow_nil _ _ _ _, rfl⟩
  · injection r3 with a1 a2 a3
    subst a1; subst a3
    have e1 : v' = .slice (some ⟨g, 0, none⟩) hi cap := by
      rw [r4]; simp only [Nat.sub_zero, Nat.zero_mul]; split <;> simp [Addr.add]
    subst e1
    have hxl := h.1
    refine ⟨⟨by rw [List.length_take, hxl]; omega, .inr ⟨g, cap, cur, rfl, hB, hg, by omega, hm, hcs, ?_⟩⟩, rfl⟩
    rw [← htk, List.take_take]; congr 1; omega
end Go.Proofs.Ytgjpohhafmkhcaa
namespace Go.Proofs.Ytgjpohhafmkhcaa
open Go.RowKit L02 L13 L18 L20
theorem Fnd.popS {w wr : World} {tv ov sv sn on st st' : Value} {N : Nat} {od ord S S' : List Nat} (e : Fnd w wr tv ov sv N sn on st od ord S) {n : Nat} {xs : List Value} (o : wr.ownsRow w.heap.size 3 1 st' n xs) (hx : xs = (natI S').map i64) (hb : st'.ownBlock = st.ownBlock) : Fnd w wr tv ov sv N sn on st' od ord S' :=
  ⟨e.g1, e.hs, e.ho, OwnI.of o hx, by rw [hb]; exact e.ne, e.B⟩
/-- how a stack ends -/
theorem snoc_cases (S : List Nat) : S = [] ∨ ∃ S' n, S = S' ++ [n] := by
  rcases List.eq_nil_or_concat S with h | ⟨l, a, h⟩
  · exact .inl h
  · exact .inr ⟨l, a, by rw [h, List.concat_eq_append]⟩
set_option maxRecDepth 100000 in
set_option maxHeartbeats 16000000 in
theorem Found_any (tv ov sv : Value) (m : Mo) (hc : chk m = 0) (out : List Nat) (hr : Rs m [] (roots m) out) (w : World) (h : Mod w tv ov sv m) :
    Calls Try.prog 25 #[.agg #[tv, ov, sv]] w fun e w' => ∃ v, e = .returned v ∧ OwnI w' w.heap.size 3 v (natI out) ∧ Below w.heap.size w w' := by
  have B : Below w.heap.size w w := Below.refl _ _
  have lo := h.o.len; have ls := h.s.len
  obtain ⟨k1, k2, k3⟩ := chk_ok hc
  obtain ⟨N, hN⟩ : ∃ N, N = m.objs.length := ⟨_, rfl⟩
  rw [← hN] at lo; rw [k3.1] at ls
  obtain ⟨d0, hd0⟩ := hr.steps
  have hRe := Reach.of hc hr
  have hks : kidSum m out ≤ 19200 := by
    have := kidSum_le (m := m) (c := 20) out (fun n hn => (small_chk hc).2.2.2.2 _ (by rw [ob, List.getD_eq_getElem?_getD, List.getElem?_eq_getElem (hRe.lt n hn)]; exact List.getElem_mem _))
    have := hRe.len; omega
  have hdb : d0 ≤ 19216 := by
    have h1 := hd0.count
    have h2 := rootsFrom_len m 0
    rw [rootsFrom_zero, k3.1] at h2
    have : kidSum m [] = 0 := rfl
    omega
  have H := Lib.hid h; have HN := Lib.hid hN; have HK := Lib.hid k3; have HC := Lib.hid hc; have HD := Lib.hid hd0; have HRE := Lib.hid hRe
  have hN1 : N ≤ 960 := by omega
  clear h hN k1 k2 k3 hc hr hd0 hRe hks
  go_enter Try.func25, Try.ntmps25
  go_upto_region 1 with (fail)
  have hb := (Below.refl w.heap.size w).alloc (Nat.le_refl _) (.cells #[tv, ov, sv] 26)
  refine wp_gen (fun Wv => Bx Wv w.heap.size 26 #[tv, ov, sv] ∧ Below w.heap.size w Wv) ⟨Bx.at_ (by simp), hb⟩ ?_
  clear hb
  rintro wa ⟨g1, B1⟩
  have c_g1 := g1.cell
  go_wp2_with (at_make; refine wpList_makeI (by rfl) rfl (by rfl) (by rfl) Try.underlying100 info_boolF rfl (by omega) (by omega) (by omega) B1 (Nat.le_refl _) ?_; intro vS wb oS bS bS2; have c_g2 := (g1.below bS2).cell)
  have hF0 : Fnd w wb tv ov sv N vS (.slice none 0 0) (.slice none 0 0) [] [] [] := ⟨g1.below bS2, by
    rw [seenV_nil, List.map_replicate]
    simpa using oS, OwnI.nil _ _ _, OwnI.nil _ _ _, fun g hg => (by cases hg), bS⟩
  have HF0 := Lib.hid hF0
  clear oS bS bS2 hF0 g1 c_g1 c_g2 B1 B
  go_loopg [5, 6] 16 (fun gg st i wr => ∃ j : Nat, j ≤ 16 ∧ gg = j ∧ i = .int .i64 (iOf j) ∧ Hid (Fnd w wr tv ov sv N vS (.slice none 0 0) st [] [] (rootsFrom m j).reverse))
  case atStart => exact ⟨16, by omega, rfl, rfl, Lib.hid (by rw [← HK.out.1, rootsFrom_end]; exact HF0.out)⟩
  case round =>
    clear HF0
    obtain ⟨j, hj, hgj, rfl, hh⟩ := hrel
    have c_g1 := hh.out.g1.cell
    rcases j with _ | k
    all_goals subst hgj
    · rw [show iOf 0 = -1 from rfl]
      rw [rootsFrom_zero] at hh
      have HD0 := Lib.hid (show Rn m d0 [] ((roots m).reverse).reverse out by rw [List.reverse_reverse]; exact HD.out)
      have HRL := Lib.hid (show ∀ n ∈ (roots m).reverse, n < N from fun n hn => by rw [HN.out]; exact roots_lt HC.out n (List.mem_reverse.1 hn))
      clear c_g1
      go_wp2
      go_loopg [4, 5] d0 (fun gg on st wr => ∃ od S, Hid (Rn m gg od S.reverse out) ∧ Hid (∀ n ∈ S, n < N) ∧ gg ≤ d0 ∧ Hid (Fnd w wr tv ov sv N vS on st od od S))
      case atStart => exact ⟨_, _, HD0, HRL, Nat.le_refl _, hh⟩
      case round =>
        clear hh HD0 HRL
        obtain ⟨od, S, hrn, hsl, hgd, hf⟩ := hrel
        rcases snoc_cases S with rfl | ⟨S', n, rfl⟩
        · have ln : ∀ ty W, (Builtin.len_ #[52] ty #[_]).run Try.prog W = .ok (.int .i64 0) W := Rd.len (OwnI.rd hf.out.ht) Try.underlying52
          have HE := Lib.hid (show out = od from Rn.end hrn.out)
          go_wp2
          go_ret
          exact ⟨_, rfl, by rw [HE.out]; exact hf.out.ho, hf.out.B⟩
        · obtain ⟨L, hL⟩ : ∃ L, L = S'.length := ⟨_, rfl⟩
          have hn : n < N := hsl.out n (by simp)
          have hlen : (natI (S' ++ [n])).length = L + 1 := by rw [natI_len, hL]; simp
          have hLb : L + 1 ≤ 19216 := by
            have := hrn.out.len
            rw [List.length_reverse, List.length_append, ← hL] at this
            simp at this; omega
          have ln := Rd.len (OwnI.rd hf.out.ht) Try.underlying52
          rw [hlen] at ln
          obtain ⟨xa, x, ixx, mx, hx⟩ := (OwnI.rd hf.out.ht).at_ (P := Try.prog) Try.underlying52 one_int (k := L) (by rw [hlen]; omega)
          obtain rfl : x = (n : Int) := by
            have h1 := hx.out
            rw [natI_snoc, List.getElem?_append_right (by rw [natI_len, hL]; exact Nat.le_refl _), natI_len, hL, Nat.sub_self] at h1
            simpa using h1.symm
          obtain ⟨st', rc, oc, hcb⟩ := own_cutTo (P := Try.prog) hf.out.ht Try.underlying52 one_int (hi := L) (by rw [hlen]; omega)
          have HF := Lib.hid (hf.out.popS (S' := S') oc (by rw [← List.map_take, natI_snoc, List.take_append_of_le_length (by rw [natI_len, hL]; exact Nat.le_refl _), List.take_of_length_le (by rw [natI_len, hL]; exact Nat.le_refl _)]) hcb)
          have hwL : IntKind.i64.wrap (L : Int) = (L : Int) := IntWalk.i64_in _ (by omega)
          obtain ⟨gs, im, mm, fm, hmk⟩ := HF.out.mark hn
          have hpop := hrn.out
          rw [List.reverse_append] at hpop
          obtain ⟨d', hd', hcs⟩ := hpop.pop
          subst hd'
          have HSL := Lib.hid (show ∀ n ∈ S', n < N from fun x hx => hsl.out x (by simp [hx]))
          have HLL := Lib.hid hL
          clear hx oc hcb hpop hlen hf hrn hsl hL
          rcases hcs with ⟨hin, hrn⟩ | ⟨hni, hrn⟩
          · rw [decide_eq_true hin] at mm
            have HR := Lib.hid hrn
            clear hin hrn hmk fm
            go_wp2
            go_roundg d'
            case measure => omega
            case rel => exact ⟨od, S', HR, HSL, by omega, HF⟩
          · rw [decide_eq_false hni] at mm
            have HR := Lib.hid hrn; have HMK := Lib.hid hmk
            clear hni hrn hmk
            obtain ⟨o, ho⟩ : ∃ o, m.objs[n]? = some o := ⟨_, List.getElem?_eq_getElem (by rw [← HN.out]; exact hn)⟩
            have hoo := HK.out.2.2.1 o (List.mem_of_getElem? ho)
            obtain ⟨q, hq⟩ := Int.eq_ofNat_of_zero_le hoo.1.1
            have hqt : q < m.types.length := by have := hoo.1.2; omega
            obtain ⟨t, ht⟩ : ∃ t, m.types[q]? = some t := ⟨_, List.getElem?_eq_getElem hqt⟩
            have htt : ty m.types o = t := by rw [ty, hq]; simp [List.getD_eq_getElem?_getD, ht]
            obtain ⟨nf, hnf⟩ : ∃ N, N = o.fs.length := ⟨_, rfl⟩
            have hlt2 : nf = t.length := by rw [hnf, hoo.2.1, htt]
            have hnf20 : nf ≤ 20 := by rw [hnf]; exact (small_chk HC.out).2.2.2.2 o (List.mem_of_getElem? ho)
            have HOB := Lib.hid (show ob m n = o from ob_at ho)
            obtain ⟨bo, bq, x0, o2, ixo, p0, p1, ho2, hx0, hob⟩ := H.out.o.at_ (k := n) (by rw [← HN.out]; exact hn)
            obtain rfl : o2 = o := by have := ho2.out; rw [ho] at this; injection this with e; exact e.symm
            obtain ⟨xA, xn, xc, rfl⟩ : ∃ A n c, x0 = .slice A n c := by obtain ⟨A, c, e, _⟩ := hx0.out; exact ⟨A, _, c, e⟩
            obtain ⟨ad, yt, t2, iy, m3, ht2, hby⟩ := H.out.t.at_ hqt
            obtain rfl : t2 = t := by have := ht2.out; rw [ht] at this; injection this with e; exact e.symm
            rw [hq] at p0
            have lx := Rd.len hx0.out Try.underlying70
            rw [← hnf] at lx
            have HO := Lib.hid hoo; have HTT := Lib.hid htt; have HNF := Lib.hid hnf; have HLT := Lib.hid hlt2; have HQ := Lib.hid hq
            have P0 := Lib.hid p0; have P1 := Lib.hid p1; have M3 := Lib.hid m3
            clear hoo htt hnf hlt2 hq ho ho2 ht2 ht p0 p1 m3 hqt hob
            go_upto_region 13 with (fail)
            refine wp_gen (fun Wv => Fnd w Wv tv ov sv N vS _ st' (od ++ [n]) od S') HMK.out ?_
            clear HMK HF mm fm im mx ixx ln rc
            intro w2 F2
            have HF := Lib.hid F2
            have HOL := Lib.hid (show (natI od).length + 1 ≤ 1000 from by
              rw [natI_len]
              have h1 := HR.out.rs.pre.length_le
              have h2 := HRE.out.len
              rw [List.length_append, List.length_singleton] at h1
              rw [HN.out] at hN1; omega)
            clear F2
            go_wp2_with (at_builtin; refine wpList_append2 (by rfl) rfl rfl rfl Try.underlying52 info_int rfl (by omega) (by exact own_below HF.out.ho (lit_b w2 n)) (by exact lit_rd) (by simp [Value.oneCell']) (by omega) (by have := HOL.out; omega) (by have := HOL.out; omega) (by exact HF.out.B.alloc HF.out.B.size _) (Nat.le_refl _) ?_; intro v1 w3 o1 b1 g1 n1; have F3 := Lib.hid (HF.out.pushO o1 b1 g1 n1); clear o1 b1 g1 n1; have c_g1 := F3.out.g1.cell; have q0 := cell_later F3.out.B P0.out; have q1 := cell_later F3.out.B P1.out)
            clear c_g1 q0 q1
            have hp8 : w.heap.size < w3.heap.size := F3.out.g1.lt
            refine wp_gen (fun Wv => Fnd w Wv tv ov sv N vS v1 st' (od ++ [n]) (od ++ [n]) S' ∧ Bx Wv w3.heap.size 72 #[.int .i64 q, .slice xA xn xc]) ⟨F3.out.below ((Below.refl _ w3).alloc (Nat.le_refl _) _), Bx.new w3 _ _⟩ ?_
            clear F3
            generalize w3.heap.size = p8 at *
            clear w3
            rintro w4 h4
            have H4 := Lib.hid h4
            clear h4 HF
            go_loopg [5, 9] nf (fun gg st i wr2 => ∃ j : Nat, j ≤ nf ∧ gg = j ∧ i = .int .i64 (iOf j) ∧ Hid (Fnd w wr2 tv ov sv N vS v1 st (od ++ [n]) (od ++ [n]) (S' ++ (kidsFrom m o2 j).reverse) ∧ Bx wr2 p8 72 #[.int .i64 q, .slice xA xn xc]))
            case atStart =>
              refine ⟨nf, by omega, rfl, by first | rfl | (rw [iOf_le]), Lib.hid ?_⟩
              rw [HNF.out, kidsFrom_end]
              simpa using H4.out
            case round =>
              clear H4
              obtain ⟨j, hj, hgj, rfl, hh⟩ := hrel
              have c_g1 := hh.out.1.g1.cell
              have c_g8 := hh.out.2.cell
              rcases j with _ | k
              all_goals subst hgj
              · rw [show iOf 0 = -1 from rfl]
                have HF := Lib.hid (show Fnd w wr tv ov sv N vS v1 _ (od ++ [n]) (od ++ [n]) (S' ++ (kids m n).reverse) by have := hh.out.1; rw [← kidsFrom_zero, HOB.out]; exact this)
                clear hh c_g1 c_g8
                go_wp2
                go_roundg d'
                case measure => omega
                case rel =>
                  refine ⟨od ++ [n], S' ++ (kids m n).reverse, Lib.hid (by rw [List.reverse_append, List.reverse_reverse]; exact HR.out), Lib.hid (fun x hx => ?_), by omega, HF⟩
                  rcases List.mem_append.1 hx with h | h
                  · exact HSL.out x h
                  · rw [HN.out]; exact kids_lt HC.out n (by rw [← HN.out]; exact hn) x (List.mem_reverse.1 h)
              · rw [show iOf (k + 1) = (k : Int) from rfl]
                have hst := kidsFrom_step (m := m) (o := o2) (p := k) (by have := HNF.out; omega)
                have hip := Lib.hid (iOf_pred k)
                have hwr : IntKind.i64.wrap ((k : Int) - 1) = (k : Int) - 1 := IntWalk.i64_in _ (by omega)
                have m3 := cell_later hh.out.1.B M3.out
                obtain ⟨bd, kk, ib, m4, hkk⟩ := (hby.out.below hh.out.1.B).at_ (P := Try.prog) Try.underlying74 one_u8 (k := k) (by have := HLT.out; omega)
                obtain ⟨cd, v, ic, m5, hv⟩ := (hx0.out.below hh.out.1.B).at_ (P := Try.prog) Try.underlying70 one_u64 (k := k) (by have := HNF.out; omega)
                have hkd : (ty m.types o2).getD k 0 = kk := by rw [HTT.out]; simp [List.getD_eq_getElem?_getD, hkk.out]
                have hvd : o2.fs.getD k 0 = v := by simp [List.getD_eq_getElem?_getD, hv.out]
                have hkid : kidAt m o2 k = if kk.toNat = 3 ∧ 0 < v.toNat then some (v.toNat - 1) else none := by rw [kidAt, hkd, hvd]
                have hvl : kk.toNat = 3 → v.toNat ≤ 960 := fun h => by
                  have := HO.out.2.2 k (by have := HNF.out; omega)
                  rw [hkd, hvd] at this
                  have := this.2 h
                  rw [← HN.out] at this; omega
                obtain ⟨vn, hvn⟩ : ∃ q, q = v.toNat := ⟨_, rfl⟩
                rw [← hvn] at m5 hkid hvl
                clear hkk hv hkd hvd hvn
                by_cases h3 : kk.toNat = 3
                · have k3 : ((kk.toNat : Int) == 3) = true := by rw [beq_iff_eq]; omega
                  by_cases h0 : 0 < vn
                  · rw [if_pos ⟨h3, h0⟩] at hkid
                    obtain ⟨c, rfl⟩ : ∃ c, vn = c + 1 := ⟨vn - 1, by omega⟩
                    rw [Nat.add_sub_cancel] at hkid
                    rw [hkid] at hst
                    have hcl : c < 960 := by have := hvl h3; omega
                    have m5' : wr.cell? cd = some (.int .u64 ((c : Int) + 1)) := by rw [m5]; rfl
                    have z1 : (0 : Int) < (c : Int) + 1 := by omega
                    have z3 : IntKind.i64.wrap ((c : Int) + 1) = (c : Int) + 1 := IntWalk.i64_in _ (by omega)
                    have z4 : IntKind.i64.wrap (c : Int) = (c : Int) := IntWalk.i64_in _ (by omega)
                    have HST := Lib.hid hst; have HF := hh
                    have HL := Lib.hid (show (natI (S' ++ (kidsFrom m o2 (k + 1)).reverse)).length ≤ 20000 from by
                      rw [natI_len, List.length_append, List.length_reverse]
                      have h1 := HR.out.len
                      have h2 : (kidsFrom m o2 (k + 1)).length ≤ 20 := Nat.le_trans (List.length_filterMap_le _ _) (by simp; have := HNF.out; omega)
                      simp at h1
                      omega)
                    clear hst hkid m5 hvl h3 h0 hh
                    go_wp2_with (at_builtin; refine wpList_append2 (by rfl) rfl rfl rfl Try.underlying52 info_int rfl (by omega) (by exact own_below HF.out.1.ht (lit_b wr c)) (by exact lit_rd) (by simp [Value.oneCell']) (by omega) (by have := HL.out; omega) (by have := HL.out; omega) (by exact HF.out.1.B.alloc HF.out.1.B.size _) (Nat.le_refl _) ?_; intro v2 w5 o1 b1 g1 n1)
                    have HF2 := Lib.hid (HF.out.1.pushS o1 b1 g1 n1)
                    have HG2 := Lib.hid (Bx.grown (HF.out.2.below (lit_b wr c)) g1 (own_not_bx (own_below HF.out.1.ht (lit_b wr c)) (HF.out.2.below (lit_b wr c)) (by decide)))
                    clear o1 b1 g1 n1 c_g1 c_g8 m3 m4 m5' ib ic
                    go_roundg k
                    case measure => omega
                    case rel =>
                      refine ⟨k, by omega, rfl, by rw [hip.out], Lib.hid ⟨?_, HG2.out⟩⟩
                      have := HF2.out
                      rw [HST.out]
                      simpa using this
                  · obtain rfl : vn = 0 := by omega
                    rw [if_neg (by omega)] at hkid
                    rw [hkid] at hst
                    have HST := Lib.hid hst; have HF := hh
                    have m5' : wr.cell? cd = some (.int .u64 0) := by rw [m5]; rfl
                    clear hst hkid hvl hh m5
                    go_wp2
                    go_roundg k
                    case measure => omega
                    case rel =>
                      refine ⟨k, by omega, rfl, by rw [hip.out], Lib.hid ?_⟩
                      rw [HST.out]; exact HF.out
                · have k3 : ((kk.toNat : Int) == 3) = false := by rw [beq_eq_false_iff_ne]; omega
                  rw [if_neg (fun h => h3 h.1)] at hkid
                  rw [hkid] at hst
                  have HST := Lib.hid hst; have HF := hh
                  clear hst hkid hvl hh
                  go_wp2
                  go_roundg k
                  case measure => omega
                  case rel =>
                    refine ⟨k, by omega, rfl, by rw [hip.out], Lib.hid ?_⟩
                    rw [HST.out]; exact HF.out
    · rw [show iOf (k + 1) = (k : Int) from rfl]
      obtain ⟨s, hs⟩ : ∃ s, m.slots[k]? = some s := ⟨_, List.getElem?_eq_getElem (by rw [HK.out.1]; omega)⟩
      obtain ⟨bs, qs, s2, is, k0, k1, k2, hs2⟩ := (H.out.s.below hh.out.B).at_ (P := Try.prog) Try.underlying24 size_slot (k := k) (by rw [HK.out.1]; omega)
      obtain rfl : s2 = s := by have := hs2.out; rw [hs] at this; injection this with e; exact e.symm
      have hso := HK.out.2.2.2 s2 (List.mem_of_getElem? hs)
      have hst := rootsFrom_step hs
      have hip := iOf_pred k
      have hwr : IntKind.i64.wrap ((k : Int) - 1) = (k : Int) - 1 := IntWalk.i64_in _ (by omega)
      clear hs2 k0
      cases hu : s2.used
      · rw [hu] at k1
        rw [show rootOf s2 = none by rw [rootOf, hu]; rfl] at hst
        have HF := Lib.hid (show Fnd w wr tv ov sv N vS (.slice none 0 0) _ [] [] (rootsFrom m k).reverse by rw [hst]; exact hh.out)
        have HI := Lib.hid hip
        clear hst hso hh hs k2 hip
        go_wp2
        clear c_g1
        go_roundg k
        case measure => omega
        case rel => exact ⟨k, by omega, rfl, by rw [HI.out], HF⟩
      · rw [hu] at k1
        obtain ⟨a1, a2, a3⟩ := hso.2.2 hu
        obtain ⟨x, hx⟩ := Int.eq_ofNat_of_zero_le a2
        rw [hx] at k2
        rw [show rootOf s2 = some x by rw [rootOf, hu, hx]; rfl] at hst
        have HST := Lib.hid hst; have HI := Lib.hid hip
        have HL := Lib.hid (show (natI (rootsFrom m (k + 1)).reverse).length ≤ 16 by rw [natI_len, List.length_reverse, ← HK.out.1]; exact rootsFrom_len m _)
        have HF := hh
        clear hst hso hh hs a1 a2 a3 hx hip
        go_wp2_with (at_builtin; refine wpList_append2 (by rfl) rfl rfl rfl Try.underlying52 info_int rfl (by omega) (by exact own_below HF.out.ht (lit_b wr x)) (by exact lit_rd) (by simp [Value.oneCell']) (by omega) (by have := HL.out; omega) (by have := HL.out; omega) (by exact HF.out.B.alloc HF.out.B.size _) (Nat.le_refl _) ?_; intro v1 w1 o1 b1 g1 n1)
        have HF2 := Lib.hid (HF.out.pushS o1 b1 g1 n1)
        clear o1 b1 g1 n1 c_g1 k1 k2 is
        go_roundg k
        case measure => omega
        case rel =>
          refine ⟨k, by omega, rfl, by rw [HI.out], ?_⟩
          rw [HST.out]
          exact Lib.hid (by simpa using HF2.out)
end Go.Proofs.Ytgjpohhafmkhcaa
