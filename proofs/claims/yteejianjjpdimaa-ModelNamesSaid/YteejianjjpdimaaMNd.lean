/- Contracts of the functions that the laws 'N' reach, part 4. No condition. -/
import Derived.Test.YteejianjjpdimaaMNc
set_option linter.unusedVariables false
set_option linter.unusedSimpArgs false
namespace Go.Proofs.Yteejianjjpdimaa
open Go.RowKit L02 L13 L18 L20
set_option maxRecDepth 100000 in
set_option maxHeartbeats 8000000 in
theorem Check20_any (tv ov sv : Value) (m : Mo) (r : Int) (hr : r = chk m) (w : World) (h : Mod w tv ov sv m) :
    Calls Try.prog 16 #[.agg #[tv, ov, sv]] w fun e w' => e = .returned (.int .i64 r) ∧ Below w.heap.size w w' := by
  have B : Below w.heap.size w w := Below.refl _ _
  have lt := h.t.len; have lo := h.o.len; have ls := h.s.len
  have lt' := h.t.len_le; have lo' := h.o.len_le; have ls' := h.s.len_le
  have hbig : 8 < m.types.length ∨ 960 < m.objs.length → r = 4 := fun hm => by rw [hr, chk_many hm]
  have hbad : ¬ (8 < m.types.length ∨ 960 < m.objs.length) → ¬ MoOk m → r = 8 := fun h1 h2 => by rw [hr, chk_bad h1 h2]
  have hgood : ¬ (8 < m.types.length ∨ 960 < m.objs.length) → MoOk m → r = 0 := fun h1 h2 => by rw [hr, chk_zero h1 h2]
  obtain ⟨NT, hNT⟩ : ∃ N, N = m.types.length := ⟨_, rfl⟩
  obtain ⟨NO, hNO⟩ : ∃ N, N = m.objs.length := ⟨_, rfl⟩
  obtain ⟨NS, hNS⟩ : ∃ N, N = m.slots.length := ⟨_, rfl⟩
  rw [← hNT] at lt lt' hbig hbad hgood; rw [← hNO] at lo lo' hbig hbad hgood; rw [← hNS] at ls ls'
  have H := Lib.hid h; have HNT := Lib.hid hNT; have HNO := Lib.hid hNO; have HNS := Lib.hid hNS
  clear h hr hNT hNO hNS
  by_cases h1 : 8 < NT
  · have hr4 := hbig (.inl h1)
    clear hbig hbad hgood
    subst hr4
    go_enter Try.func16, Try.ntmps16
    go_wp2
    go_ret
    exact ⟨rfl, B.alloc B.size _⟩
  by_cases h2 : 960 < NO
  · have hr4 := hbig (.inr h2)
    clear hbig hbad hgood
    subst hr4
    go_enter Try.func16, Try.ntmps16
    go_wp2
    go_ret
    exact ⟨rfl, B.alloc B.size _⟩
  have hnm : ¬ (8 < NT ∨ 960 < NO) := by omega
  have HBAD := Lib.hid (hbad hnm); have HGOOD := Lib.hid (hgood hnm)
  clear hbig hbad hgood hnm
  by_cases h3 : NS = 16
  · have h3' : ((NS : Int) != 16) = false := by rw [bne_eq_false_iff_eq]; omega
    have HS3 := Lib.hid h3; clear h3
    go_enter Try.func16, Try.ntmps16
    go_upto_region 1 with (fail)
    refine wp_gen (fun Wv => Bx Wv (w.heap.size) (26) (#[tv, ov, sv]) ∧ Below w.heap.size w Wv) ⟨((Bx.at_ (by simp))), ((Below.refl _ w).alloc (by simp <;> omega) _)⟩ ?_
    rintro wa1 ⟨g1, b⟩
    replace B := B.trans (b.mono B.size); clear b
    have c_g1 := g1.cell; have f_g1 := g1.free; have a_g1 := fun o => (g1.alloc o).cell; have d_g1 := fun o o2 => ((g1.alloc o).alloc o2).cell; have e_g1 := fun o => (g1.alloc o).free
    have HB := Lib.hid B; clear B
    go_wp2
    have HG1 := Lib.hid g1
    clear g1 c_g1 f_g1 a_g1 d_g1 e_g1
    go_loopg [26] NT (fun g i wr => ∃ j : Nat, j ≤ NT ∧ g = NT - j ∧ i = .int .i64 j ∧ Hid ((∀ (i : Nat) t, i < j → m.types[i]? = some t → kErr t = 0) ∧ Bx wr w.heap.size 26 #[tv, ov, sv] ∧ Below w.heap.size w wr))
    case atStart => exact ⟨0, by omega, by omega, rfl, Lib.hid ⟨fun i t hi => by omega, HG1.out, HB.out⟩⟩
    case round =>
      clear HG1 HB
      obtain ⟨j, hj, rfl, rfl, hh⟩ := hrel
      by_cases hlt : j < NT
      · obtain ⟨ad, y, t, iy, m0, ht, hby⟩ := (H.out.t.below hh.out.2.2).at_ (k := j) (by have := HNT.out; omega)
        by_cases hk : kErr t = 0
        · have KT := Lib.hid (fun w h => KCheck_any y t 0 hk.symm w h)
          have HK := Lib.hid hk; clear hk
          go_wp2_with fail
          refine (KT.out _ hby.out).mono ?_
          rintro e w2 ⟨rfl, rfl⟩
          go_wp2
          go_roundg (NT - (j + 1))
          case measure => omega
          case rel =>
            refine ⟨j + 1, by omega, rfl, by go_num, Lib.hid ⟨fun i u hi hu => ?_, hh.out.2⟩⟩
            by_cases hij : i < j
            · exact hh.out.1 i u hij hu
            · obtain rfl : i = j := by omega
              have := ht.out; rw [hu] at this; injection this with this; subst this; exact HK.out
        · have hr8 := HBAD.out (no_type ht.out hk)
          subst hr8
          obtain ⟨z, hz⟩ : ∃ z, z = kErr t := ⟨_, rfl⟩
          have KT := Lib.hid (fun w h => KCheck_any y t z hz w h)
          have hne : (z != 0) = true := by rw [bne_iff_ne, hz]; exact hk
          clear hk hz
          go_wp2_with fail
          refine (KT.out _ hby.out).mono ?_
          rintro e w2 ⟨rfl, rfl⟩
          go_wp2
          go_ret
          exact ⟨rfl, hh.out.2.2⟩
      · obtain rfl : j = NT := by omega
        have HT := Lib.hid (fun i t hi => hh.out.1 i t hi); have g1 := hh.out.2.1; have HB := Lib.hid hh.out.2.2
        clear hh
        have c_g1 := g1.cell
        go_wp2
        have HG1 := Lib.hid g1
        clear g1 c_g1
        go_loopg [37] NO (fun g i wr => ∃ k : Nat, k ≤ NO ∧ g = NO - k ∧ i = .int .i64 k ∧ Hid ((∀ (i : Nat) o, i < k → m.objs[i]? = some o → ObOk m.types m.objs.length o) ∧ Bx wr w.heap.size 26 #[tv, ov, sv] ∧ Below w.heap.size w wr))
        case atStart => exact ⟨0, by omega, by omega, rfl, Lib.hid ⟨fun i t hi => by omega, HG1.out, HB.out⟩⟩
        case round =>
          clear HG1 HB
          obtain ⟨k, hk, rfl, rfl, hh⟩ := hrel
          by_cases hltk : k < NO
          · obtain ⟨ob, oq, x, o, ix, m0, m1, ho, hx, hob⟩ := (H.out.o.below hh.out.2.2).at_ (k := k) (by have := HNO.out; omega)
            obtain ⟨z, hz⟩ : ∃ z, z = decide (ObOk m.types m.objs.length o) := ⟨_, rfl⟩
            have OT := Lib.hid (fun w h hx => object_any tv ov sv x m o z hz w h hx)
            have HZ := Lib.hid hz; clear hz
            have g1 := hh.out.2.1; have B := hh.out.2.2; have HA := Lib.hid hh.out.1
            have hxx := hx.out
            obtain ⟨xA, xn, xc, rfl⟩ : ∃ A n c, x = .slice A n c := by obtain ⟨A, c, e, _⟩ := hx.out; exact ⟨A, _, c, e⟩
            clear hx
            have H1 := Lib.hid (H.out.below B)
            have c_g1 := g1.cell
            go_upto_region 14 with (fail)
            refine wp_gen (fun Wv => Bx Wv (wr.heap.size) (45) (#[.int .i64 o.ty, .slice xA xn xc]) ∧ Below wr.heap.size wr Wv) ⟨((Bx.at_ (by simp))), ((Below.refl _ wr).alloc (by simp <;> omega) _)⟩ ?_
            rintro wa1 ⟨g2, b⟩
            try clear c_g1 f_g1 a_g1 d_g1 e_g1
            replace g1 := g1.below b; have c_g1 := g1.cell; have f_g1 := g1.free; have a_g1 := fun o => (g1.alloc o).cell; have d_g1 := fun o o2 => ((g1.alloc o).alloc o2).cell; have e_g1 := fun o => (g1.alloc o).free; replace hxx := hxx.below b; replace B := B.trans (b.mono B.size); clear b
            have c_g2 := g2.cell; have f_g2 := g2.free; have a_g2 := fun o => (g2.alloc o).cell; have d_g2 := fun o o2 => ((g2.alloc o).alloc o2).cell; have e_g2 := fun o => (g2.alloc o).free
            go_wp2_with fail
            refine (OT.out _ (H.out.below B) hxx).mono ?_
            rintro e w2 ⟨rfl, b2⟩
            replace B := B.trans (b2.mono B.size)
            cases z
            · have hbad := HBAD.out (no_obj ho.out (by have := HZ.out; rw [eq_comm, decide_eq_false_iff_not] at this; exact this))
              subst hbad
              clear b2
              go_wp2
              go_ret
              exact ⟨rfl, B⟩
            · have HH := Lib.hid (And.intro (g1.below b2) B)
              clear b2 g1 g2 c_g1 c_g2 f_g1 f_g2 a_g1 a_g2 d_g1 d_g2 e_g1 e_g2 B m0 m1
              go_wp2
              go_roundg (NO - (k + 1))
              case measure => omega
              case rel =>
                refine ⟨k + 1, by omega, rfl, by go_num, Lib.hid ⟨fun i u hi hu => ?_, HH.out⟩⟩
                by_cases hik : i < k
                · exact HA.out i u hik hu
                · obtain rfl : i = k := by omega
                  have := ho.out; rw [hu] at this; injection this with this; subst this
                  have := HZ.out; rw [eq_comm, decide_eq_true_iff] at this; exact this
          · obtain rfl : k = NO := by omega
            have HO := Lib.hid (fun i t hi => hh.out.1 i t hi); have g1 := hh.out.2.1; have HB := Lib.hid hh.out.2.2
            clear hh
            have c_g1 := g1.cell
            go_wp2
            have HG1 := Lib.hid g1
            clear g1 c_g1
            go_loopg [49] 16 (fun g i wr => ∃ q : Nat, q ≤ 16 ∧ g = 16 - q ∧ i = .int .i64 q ∧ Hid ((∀ (i : Nat) o, i < q → m.slots[i]? = some o → SlOk m.objs.length o) ∧ Bx wr w.heap.size 26 #[tv, ov, sv] ∧ Below w.heap.size w wr))
            case atStart => exact ⟨0, by omega, by omega, rfl, Lib.hid ⟨fun i t hi => by omega, HG1.out, HB.out⟩⟩
            case round =>
              clear HG1 HB
              obtain ⟨q, hq, rfl, rfl, hh⟩ := hrel
              by_cases hltq : q < 16
              · have hqn : q < NS := by have := HS3.out; omega
                obtain ⟨sb, sq, s, ix, m0, m1, m2, hs⟩ := (H.out.s.below hh.out.2.2).at_ (P := Try.prog) Try.underlying24 size_slot (k := q) (by have := HNS.out; omega)
                obtain ⟨z, hz⟩ : ∃ z, z = decide (SlOk m.objs.length s) := ⟨_, rfl⟩
                have ST := Lib.hid (fun w h => slot_any tv ov sv m s z hz w h)
                have HZ := Lib.hid hz; clear hz
                have g1 := hh.out.2.1; have B := hh.out.2.2; have HA := Lib.hid hh.out.1
                have c_g1 := g1.cell
                go_upto_region 20 with (fail)
                refine wp_gen (fun Wv => Bx Wv (wr.heap.size) (48) (#[.int .i64 s.gen, .bool s.used, .int .i64 s.at_]) ∧ Below wr.heap.size wr Wv) ⟨((Bx.at_ (by simp))), ((Below.refl _ wr).alloc (by simp <;> omega) _)⟩ ?_
                rintro wa1 ⟨g2, b⟩
                try clear c_g1 f_g1 a_g1 d_g1 e_g1
                replace g1 := g1.below b; have c_g1 := g1.cell; have f_g1 := g1.free; have a_g1 := fun o => (g1.alloc o).cell; have d_g1 := fun o o2 => ((g1.alloc o).alloc o2).cell; have e_g1 := fun o => (g1.alloc o).free; replace B := B.trans (b.mono B.size); clear b
                have c_g2 := g2.cell; have f_g2 := g2.free; have a_g2 := fun o => (g2.alloc o).cell; have d_g2 := fun o o2 => ((g2.alloc o).alloc o2).cell; have e_g2 := fun o => (g2.alloc o).free
                go_wp2_with fail
                refine (ST.out _ (H.out.below B)).mono ?_
                rintro e w2 ⟨rfl, b2⟩
                replace B := B.trans (b2.mono B.size)
                cases z
                · have hbad := HBAD.out (no_slot hs.out (by have := HZ.out; rw [eq_comm, decide_eq_false_iff_not] at this; exact this))
                  subst hbad
                  clear b2
                  go_wp2
                  go_ret
                  exact ⟨rfl, B⟩
                · have HH := Lib.hid (And.intro (g1.below b2) B)
                  clear b2 g1 g2 c_g1 c_g2 f_g1 f_g2 a_g1 a_g2 d_g1 d_g2 e_g1 e_g2 B m0 m1 m2
                  go_wp2
                  go_roundg (16 - (q + 1))
                  case measure => omega
                  case rel =>
                    refine ⟨q + 1, by omega, rfl, by go_num, Lib.hid ⟨fun i u hi hu => ?_, HH.out⟩⟩
                    by_cases hik : i < q
                    · exact HA.out i u hik hu
                    · obtain rfl : i = q := by omega
                      have := hs.out; rw [hu] at this; injection this with this; subst this
                      have := HZ.out; rw [eq_comm, decide_eq_true_iff] at this; exact this
              · obtain rfl : q = 16 := by omega
                have hmo : MoOk m := by
                  refine ⟨by rw [← HNS.out]; exact HS3.out, fun t ht => ?_, fun o ho => ?_, fun s hs => ?_⟩
                  · obtain ⟨i, hi, hit⟩ := List.getElem_of_mem ht
                    exact HT.out i t (by rw [HNT.out]; exact hi) (by rw [List.getElem?_eq_getElem hi, hit])
                  · obtain ⟨i, hi, hit⟩ := List.getElem_of_mem ho
                    exact HO.out i o (by rw [HNO.out]; exact hi) (by rw [List.getElem?_eq_getElem hi, hit])
                  · obtain ⟨i, hi, hit⟩ := List.getElem_of_mem hs
                    exact hh.out.1 i s (by have := HNS.out; have := HS3.out; omega) (by rw [List.getElem?_eq_getElem hi, hit])
                have hr0 := HGOOD.out hmo
                subst hr0
                have hns : ¬ (16 : Int) < NS := by have := HS3.out; omega
                have hns' : decide ((16 : Int) < NS) = false := decide_eq_false hns
                obtain rfl := HS3.out
                go_wp2
                go_ret
                exact ⟨rfl, hh.out.2.2⟩
  · have hr8 := HBAD.out (fun hm => h3 (by rw [HNS.out]; exact hm.1))
    subst hr8
    have h3' : ((NS : Int) != 16) = true := by rw [bne_iff_ne]; omega
    clear h3
    go_enter Try.func16, Try.ntmps16
    go_wp2
    go_ret
    exact ⟨rfl, B.alloc B.size _⟩
end Go.Proofs.Yteejianjjpdimaa
namespace Go.Proofs.Yteejianjjpdimaa
open Go.RowKit L02 L13 L18 L20
end Go.Proofs.Yteejianjjpdimaa
namespace Go.Proofs.Yteejianjjpdimaa
open Go.RowKit L02 L13 L18 L20
end Go.Proofs.Yteejianjjpdimaa
namespace Go.Proofs.Yteejianjjpdimaa
open Go Go.RowKit
section
variable {P : Program} {ops : Array Oper} {md : Region.Mode} {C : Array Bool → World → Prop}
def uponF (P : Program) (Post : World → Prop) (v : Value) : Result Next → Prop
  | .ok (.value u) w' => u = v ∧ Post w'
  | .ok .skip w' => v = undef ∧ Post w'
  | .ok (.enter f args) w' => Calls P f args w' (fun e w'' => e = .returned v ∧ Post w'')
  | _ => False
def YieldsF (P : Program) (md : Region.Mode) (ops : Array Oper) (C : Array Bool → World → Prop) (i : Nat) (o : Oper) (v : Value) (a : Act) : Prop :=
  (Region.wanted o (yielded ops a.tmps) = true ∧ ∀ listed w, i ∈ Region.ready md ops listed → C listed w → uponF P (C (listed.setIfInBounds i true)) v ((execOp a.eval o).run P w)) ∨
  (Region.wanted o (yielded ops a.tmps) = false ∧ v = undef ∧ ∀ listed w, i ∈ Region.ready md ops listed → C listed w → C (listed.setIfInBounds i true) w)
def qOpF (P : Program) (md : Region.Mode) (ops : Array Oper) (C : Array Bool → World → Prop) (i : Nat) (K : Act → Prop) (a : Act) : Prop :=
  match ops[i]? with
  | none => False
  | some o => ∃ v, YieldsF P md ops C i o v a ∧ K (a.put o.dst v)
theorem qOpF_mono {i : Nat} {a : Act} {K K' : Act → Prop} (h : ∀ a, K a → K' a) (hh : qOpF P md ops C i K a) : qOpF P md ops C i K' a := by
  unfold qOpF at *
  split
  · rename_i ho; simp only [ho] at hh
  · rename_i o ho
    simp only [ho] at hh
    obtain ⟨v, h1, h2⟩ := hh
    exact ⟨v, h1, h _ h2⟩
def wpAnyF (P : Program) (md : Region.Mode) (ops : Array Oper) (C : Array Bool → World → Prop) (Q : Array Bool → Act → Prop) : Nat → Array Bool → Act → Prop
  | 0, listed, a => Region.ready md ops listed = [] ∧ Q listed a
  | fuel + 1, listed, a =>
    (Region.ready md ops listed = [] → Q listed a) ∧
    ∀ i ∈ Region.ready md ops listed, qOpF P md ops C i (wpAnyF P md ops C Q fuel (listed.setIfInBounds i true)) a
theorem wpOp_of_qOpF {i : Nat} {a : Act} {listed : Array Bool} {K : Act → Prop} {K' : Act → World → Prop} {Q' : Exit → Act → World → Prop} {w : World} (hl : i ∈ Region.ready md ops listed) (hC : C listed w)
    (h : ∀ a w', C (listed.setIfInBounds i true) w' → K a → K' a w') (hh : qOpF P md ops C i K a) : wpOp P ops Q' i K' a w := by
  unfold qOpF at hh
  unfold wpOp
  split
  · rename_i ho; simp only [ho] at hh
  · rename_i o ho
    simp only [ho] at hh
    obtain ⟨v, hy, h2⟩ := hh
    rcases hy with ⟨hw, hv⟩ | ⟨hw, rfl, hv⟩
    · rw [if_pos hw]
      left
      have h3 := hv listed w hl hC
      unfold Oper.wp
      generalize (execOp a.eval o).run P w = r at *
      cases r with
      | ok n w' =>
        cases n <;> simp only [uponF] at h3 <;> simp only [Oper.upon]
        case value u => obtain ⟨e1, e2⟩ := h3; rw [e1]; exact h _ _ e2 h2
        case skip => obtain ⟨e1, e2⟩ := h3; rw [← e1]; exact h _ _ e2 h2
        case enter f args => exact h3.mono fun e w'' ⟨he, hw''⟩ => by subst he; exact h _ _ hw'' h2
      | halt x w' => simp only [uponF] at h3
    · rw [if_neg (by rw [hw]; exact Bool.false_ne_true)]
      exact h _ _ (hv listed w hl hC) h2
theorem wpAny_of_F {Q : Array Bool → Act → Prop} {Q' : Exit → Act → World → Prop} (hQ : ∀ listed a w, C listed w → Q listed a → Q' .normal a w) : ∀ (fuel : Nat) (listed : Array Bool) (a : Act) (w : World), C listed w →
    wpAnyF P md ops C Q fuel listed a → wpAny P md ops Q' fuel listed a w
  | 0, _, _, _, hw, h => ⟨h.1, hQ _ _ _ hw h.2⟩
  | fuel + 1, listed, _, _, hw, h => ⟨fun h0 => hQ _ _ _ hw (h.1 h0), fun i hi => wpOp_of_qOpF hi hw (fun a' w' hw' => wpAny_of_F hQ fuel _ a' w' hw') (h.2 i hi)⟩
theorem YieldsF.of_same {i : Nat} {o : Oper} {v : Value} {a a' : Act} (hy : YieldsF P md ops C i o v a) (he : execOp a'.eval o = execOp a.eval o)
    (hw : Region.wanted o (yielded ops a'.tmps) = Region.wanted o (yielded ops a.tmps)) : YieldsF P md ops C i o v a' := by
  unfold YieldsF at *
  rw [he, hw]
  exact hy
theorem qOpF_put {i j : Nat} {oi oj : Oper} {v : Value} (hj : ops[j]? = some oj) (hap : oi.apart ops oj = true)
    (hsi : ∀ cs b, oi.op ≠ .select cs b) (hsj : ∀ cs b, oj.op ≠ .select cs b) {K : Act → Prop} {a : Act}
    (hy : YieldsF P md ops C i oi v a) (h : qOpF P md ops C j K (a.put oi.dst v)) :
    qOpF P md ops C j (fun a' => YieldsF P md ops C i oi v a' ∧ K (a'.put oi.dst v)) a := by
  obtain ⟨h1, h2, h3⟩ := Oper.apart_spec hap
  unfold qOpF at *
  simp only [hj] at *
  obtain ⟨u, hu, hn⟩ := h
  refine ⟨u, hu.of_same ?_ ?_, hy.of_same ?_ ?_, ?_⟩
  · exact (execOp_put oj hsj a oi.dst v h1).symm
  · exact (wanted_put oj a oi.dst v h1).symm
  · exact execOp_put oi hsi a oj.dst u h3
  · exact wanted_put oi a oj.dst u h3
  · rw [← Act.put_comm a v u h2]; exact hn
theorem wpAnyF_first {Q : Array Bool → Act → Prop} {i : Nat} {oi : Oper} {v : Value} (hi : ops[i]? = some oi) (hsel : ∀ (j : Nat) (o : Oper) cs b, ops[j]? = some o → o.op ≠ .select cs b) :
    ∀ (fuel : Nat) (listed : Array Bool) (a : Act),
      (∀ j oj, ops[j]? = some oj → j ≠ i → listed.getD j true = false → (∀ e ∈ oj.after, Region.binds md e = true → e.on ≠ i) → oi.apart ops oj = true) →
      i ∈ Region.ready md ops listed → YieldsF P md ops C i oi v a →
      wpAnyF P md ops C Q fuel (listed.setIfInBounds i true) (a.put oi.dst v) → wpAnyF P md ops C Q (fuel + 1) listed a := by
  intro fuel
  induction fuel with
  | zero =>
    intro listed a _ hr hy H
    refine ⟨fun h => (by rw [h] at hr; cases hr), fun j hj => ?_⟩
    by_cases hji : j = i
    · subst hji
      unfold qOpF; simp only [hi]
      exact ⟨v, hy, H⟩
    · have := ready_mono hj hji
      rw [H.1] at this
      cases this
  | succ fuel ih =>
    intro listed a hfree hr hy H
    refine ⟨fun h => (by rw [h] at hr; cases hr), fun j hj => ?_⟩
    by_cases hji : j = i
    · subst hji
      unfold qOpF; simp only [hi]
      exact ⟨v, hy, H⟩
    · have h1 := H.2 j (ready_mono hj hji)
      obtain ⟨hjun, oj, hoj, hall⟩ := mem_ready.1 hj
      have hnot : ∀ e ∈ oj.after, Region.binds md e = true → e.on ≠ i := fun e he hb heq => by
        have h1 := hall e he hb
        have h0 := (mem_ready.1 hr).1
        rw [heq] at h1
        rcases Nat.lt_or_ge i listed.size with h' | h'
        · simp [h'] at h0 h1; rw [h0] at h1; cases h1
        · simp [Array.getElem?_eq_none h'] at h1
      have h2 := qOpF_put hoj (hfree j oj hoj hji hjun hnot) (fun cs b => hsel i oi cs b hi) (fun cs b => hsel j oj cs b hoj) hy h1
      have hfree' : ∀ k ok, ops[k]? = some ok → k ≠ i → (listed.setIfInBounds j true).getD k true = false →
          (∀ e ∈ ok.after, Region.binds md e = true → e.on ≠ i) → oi.apart ops ok = true := fun k ok hk hki hun hno => by
        refine hfree k ok hk hki ?_ hno
        by_cases hjk : j = k
        · subst hjk; exact hjun
        · rw [getD_set_ne true hjk] at hun; exact hun
      refine qOpF_mono (fun a' h3 => ih (listed.setIfInBounds j true) a' hfree' (ready_mono hr (Ne.symm hji)) h3.1 ?_) h2
      rw [Array.setIfInBounds_comm _ _ hji]
      exact h3.2
/-- the walk in the order of the text, number k first -/
def wpF (P : Program) (md : Region.Mode) (ops : Array Oper) (C : Array Bool → World → Prop) (Q : Act → Prop) : List Oper → Nat → Act → Prop
  | [], _, a => Q a
  | o :: rest, k, a => ∃ v, YieldsF P md ops C k o v a ∧ wpF P md ops C Q rest (k + 1) (a.put o.dst v)
def setAll : Nat → Nat → Array Bool → Array Bool
  | 0, _, l => l
  | n + 1, k, l => setAll n (k + 1) (l.setIfInBounds k true)
theorem wpAnyF_lex {Q : Array Bool → Act → Prop} (hs : Region.noSelect ops = true) : ∀ (l : List Oper) (k : Nat) (listed : Array Bool) (a : Act), (∀ j, l[j]? = ops[k + j]?) →
    Region.lexFrom md ops l.length k listed = true → wpF P md ops C (Q (setAll l.length k listed)) l k a → wpAnyF P md ops C Q l.length listed a
  | [], _, _, _, _, hB, h => ⟨by simpa [Region.lexFrom] using hB, h⟩
  | o :: l, k, listed, a, hl, hB, h => by
    have h0 : ops[k]? = some o := by simpa using (hl 0).symm
    simp only [List.length_cons, Region.lexFrom, Bool.and_eq_true] at hB
    obtain ⟨⟨hr, hf⟩, hB'⟩ := hB
    obtain ⟨v, hy, hK⟩ := h
    exact wpAnyF_first h0 (Region.noSelect_spec hs) l.length listed a (Region.free_spec h0 hf) (by simpa using hr) hy
      (wpAnyF_lex hs l (k + 1) _ _ (fun j => by have := hl (j + 1); simpa [Nat.add_assoc, Nat.add_comm 1 j] using this) hB' hK)
theorem wp_region_F {id : Nat} {Q : Exit → Act → World → Prop} {a : Act} {w : World} {l : List Oper} (C : Array Bool → World → Prop) (hm : P.follows .mixedOrders = true) (hB : Region.lexB .any l.toArray = true)
    (hC : C (Array.replicate l.length false) { w with drawn := w.drawn + 1 })
    (h : wpF P .any l.toArray C (fun a' => ∀ w', C (setAll l.length 0 (Array.replicate l.length false)) w' → Q .normal a' w') l 0 a) : (Code.region id l.toArray true).wp P Q a w := by
  simp only [Region.lexB, Bool.and_eq_true] at hB
  refine wp_region_any hm (wpAny_of_F (C := C) (Q := fun listed a' => ∀ w', C listed w' → Q .normal a' w') (fun _ _ w' hw' h => h w' hw') _ _ _ _ (by simpa using hC) ?_)
  have := wpAnyF_lex (C := C) (md := .any) (Q := fun listed a' => ∀ w', C listed w' → Q .normal a' w') hB.1 l 0 (Array.replicate l.length false) a (by simp) (by simpa using hB.2) h
  simpa using this
end
/-! two flagged operations, numbers j1, j2 (a number that no operation bears: none) -/
/-- the operations that yield a value without entering a function -/
def isV : Op → Bool
  | .move _ | .assign _ | .pick .. | .build .. | .load .. | .binOp .. | .unOp .. | .convert .. | .slice .. | .fieldAddr .. | .field .. | .indexAddr .. | .index .. | .extract .. | .sliceToArrayPointer .. => true
  | _ => false
theorem run_v {P : Program} {s : Sem Value} {w w' : World} {n : Next} (h : (do pure (Next.value (← s)) : Sem Next).run P w = .ok n w') : ∃ u, n = .value u := by
  rw [Sem.run_bind] at h
  cases hs : s.run P w with
  | ok u w1 => rw [hs] at h; simp [Result.andThen] at h; exact ⟨u, h.1.symm⟩
  | halt x w1 => rw [hs] at h; simp [Result.andThen] at h
theorem isV_value {P : Program} {o : Oper} {ev : Operand → Value} {w w' : World} {n : Next} (hV : isV o.op = true) (h : (execOp ev o).run P w = .ok n w') : ∃ u, n = .value u := by
  unfold execOp at h
  cases ho : o.op <;> rw [ho] at h hV <;> simp only [isV, Bool.false_eq_true] at hV <;> dsimp only at h
  case move x => simp at h; exact ⟨_, h.1.symm⟩
  case assign x => simp at h; exact ⟨_, h.1.symm⟩
  case pick c x y =>
    rw [Sem.run_bind] at h
    cases hs : (asBool (ev c)).run P w with
    | ok u w1 => rw [hs] at h; simp [Result.andThen] at h; exact ⟨_, h.1.symm⟩
    | halt x w1 => rw [hs] at h; simp [Result.andThen] at h
  all_goals exact run_v h
structure FX (F : Bool → Bool → World → Prop) where
  W : World
  h : ∃ b1 b2, F b1 b2 W
section
variable {P : Program} {ops : Array Oper} {rest : List Oper} {o : Oper} {a : Act} {Q : Act → Prop} {F : Bool → Bool → World → Prop} {j1 j2 k : Nat} {md : Region.Mode}
theorem ready_after {i j : Nat} {oi : Oper} {listed : Array Bool} (hi : ops[i]? = some oi) (hd : (oi.after.any fun e => Region.binds md e && e.on == j) = true) (hr : i ∈ Region.ready md ops listed) : listed.getD j false = true := by
  obtain ⟨_, o', ho', hall⟩ := mem_ready.1 hr
  have : o' = oi := Option.some.inj (ho'.symm.trans hi)
  subst this
  obtain ⟨e, he, hb⟩ := Array.any_eq_true'.1 hd
  simp only [Bool.and_eq_true, beq_iff_eq] at hb
  rw [← hb.2]; exact hall e he hb.1
structure FX1 (F : Bool → Bool → World → Prop) where
  W : World
  h : ∃ b2, F true b2 W
theorem getD_on {listed : Array Bool} {i : Nat} (h : listed.getD i true = false) : listed.getD i false = false ∧ (listed.setIfInBounds i true).getD i false = true := by
  rcases Nat.lt_or_ge i listed.size with h' | h'
  · simp [h'] at h ⊢; exact h
  · simp [Array.getElem?_eq_none h'] at h
end
/-- the flagged operation is a call that makes just one block -/
def FNew (w0 : World) (t : TypeId) (cs : Array Value) : Bool → Bool → World → Prop := fun b1 _ W => Below w0.heap.size w0 W ∧ (b1 = false → W.heap.size = w0.heap.size) ∧ (b1 = true → Bx W w0.heap.size t cs)
theorem FNew.start (w0 : World) (t : TypeId) (cs : Array Value) : FNew w0 t cs false false w0.drew := ⟨(Below.refl _ _).drew, fun _ => rfl, (fun h => by cases h)⟩
theorem FNew.below {w0 : World} {t : TypeId} {cs : Array Value} (x : FX (FNew w0 t cs)) : Below w0.heap.size w0 x.W := by obtain ⟨W, b1, b2, h⟩ := x; exact h.1
instance (w0 : World) (t : TypeId) (cs : Array Value) : Nonempty (FX (FNew w0 t cs)) := ⟨⟨w0.drew, false, false, FNew.start w0 t cs⟩⟩
instance (w0 : World) (t : TypeId) (cs : Array Value) : Nonempty (FX1 (FNew w0 t cs)) := ⟨⟨w0.alloc (.cells cs t), false, (Below.refl _ _).alloc (Nat.le_refl _) _, (fun h => by cases h), fun _ => Bx.new _ _ _⟩⟩
theorem FNew.call {P : Program} {f : FuncId} {av : Array Value} {w0 : World} {t : TypeId} {cs : Array Value} {n c : Nat}
    (h : ∀ W, Calls P f av W (fun e w' => e = .returned (.slice (some ⟨W.heap.size, 0, none⟩) n c) ∧ Bx w' W.heap.size t cs ∧ Below W.heap.size W w')) (b2 : Bool) (W : World) (hW : FNew w0 t cs false b2 W) :
    Calls P f av W (fun e W' => e = .returned (.slice (some ⟨w0.heap.size, 0, none⟩) n c) ∧ FNew w0 t cs true b2 W') := by
  have hz := hW.2.1 rfl
  refine (h W).mono fun e w' ⟨h1, h2, h3⟩ => ?_
  rw [hz] at h1 h2
  exact ⟨h1, hW.1.trans (h3.mono (by rw [hz]; exact Nat.le_refl _)), (fun h => by cases h), fun _ => h2⟩
end Go.Proofs.Yteejianjjpdimaa
namespace Go.Proofs.Yteejianjjpdimaa
open Go Go.RowKit
def CN (F : (Nat → Bool) → World → Prop) : Array Bool → World → Prop := fun listed W => F (fun j => listed.getD j false) W
def Dep (F : (Nat → Bool) → World → Prop) (js : List Nat) : Prop := ∀ f g W, (∀ j ∈ js, f j = g j) → F f W → F g W
structure FXN (F : (Nat → Bool) → World → Prop) where
  W : World
  h : ∃ f, F f W
section
variable {P : Program} {ops : Array Oper} {rest : List Oper} {o : Oper} {a : Act} {Q : Act → Prop} {F : (Nat → Bool) → World → Prop} {js : List Nat} {k : Nat} {md : Region.Mode}
theorem CN.skip (hD : Dep F js) (hk : k ∉ js) {listed : Array Bool} {W : World} (hW : CN F listed W) : CN F (listed.setIfInBounds k true) W := by
  refine hD _ _ _ (fun j hj => ?_) hW
  have hne : k ≠ j := fun e => hk (e ▸ hj)
  rw [getD_set_ne false hne]
theorem wpN_read (hD : Dep F js) (hV : isV o.op = true) (hk : k ∉ js) (h : wpQuiet P ops (fun W => ∃ x : FXN F, W = x.W) (fun a' => wpF P md ops (CN F) Q rest (k + 1) a') [o] a) : wpF P md ops (CN F) Q (o :: rest) k a := by
  unfold wpQuiet at h
  split at h
  · rename_i hw
    obtain ⟨v, h1, h2⟩ := h
    refine ⟨v, .inl ⟨hw, fun listed W hl hW => ?_⟩, h2⟩
    have h3 := h1 W ⟨⟨W, _, hW⟩, rfl⟩
    unfold Oper.quietAt at h3
    cases hr : (execOp a.eval o).run P W with
    | ok n w' =>
      obtain ⟨u, rfl⟩ := isV_value hV hr
      rw [hr] at h3
      simp only [Oper.quietUpon] at h3
      simp only [uponF]
      obtain ⟨e1, e2⟩ := h3
      subst e1
      exact ⟨e2, hW.skip hD hk⟩
    | halt x w' => rw [hr] at h3; simp only [Oper.quietUpon] at h3
  · rename_i hw
    exact ⟨undef, .inr ⟨by simpa using hw, rfl, fun listed W hl hW => hW.skip hD hk⟩, h⟩
end
theorem wp_region_N {P : Program} {id : Nat} {Q : Exit → Act → World → Prop} {a : Act} {w : World} {l : List Oper} (F : (Nat → Bool) → World → Prop) (js : List Nat) (hD : Dep F js) (hm : P.follows .mixedOrders = true) (hB : Region.lexB .any l.toArray = true)
    (hf : (js.all fun j => (setAll l.length 0 (Array.replicate l.length false)).getD j false) = true)
    (hC : F (fun _ => false) w.drew)
    (h : wpF P .any l.toArray (CN F) (fun a' => ∀ w', F (fun _ => true) w' → Q .normal a' w') l 0 a) : (Code.region id l.toArray true).wp P Q a w := by
  have e : ∀ j, (Array.replicate l.length false).getD j false = false := fun j => getD_replicate_false _ _
  refine wp_region_F (CN F) hm hB ?_ ?_
  · exact hD _ _ _ (fun j _ => (e j).symm) hC
  · have e2 : ∀ w', CN F (setAll l.length 0 (Array.replicate l.length false)) w' → F (fun _ => true) w' := fun w' h' => hD _ _ _ (fun j hj => by simpa using List.all_eq_true.1 hf j hj) h'
    have mono : ∀ (r : List Oper) (k : Nat) (a' : Act), wpF P .any l.toArray (CN F) (fun a' => ∀ w', F (fun _ => true) w' → Q .normal a' w') r k a' → wpF P .any l.toArray (CN F) (fun a' => ∀ w', CN F (setAll l.length 0 (Array.replicate l.length false)) w' → Q .normal a' w') r k a' := by
      intro r
      induction r with
      | nil => intro k a' h0 w' h'; exact h0 w' (e2 w' h')
      | cons o r ih => intro k a' h0; obtain ⟨v, h1, h2⟩ := h0; exact ⟨v, h1, ih _ _ h2⟩
    exact mono l 0 a h
end Go.Proofs.Yteejianjjpdimaa
namespace Go.Proofs.Yteejianjjpdimaa
open Go Go.RowKit
/-- a block, and the store number k that makes 'new' of 'old' -/
structure Bk where
  g : Nat
  t : TypeId
  k : Nat
  old : Array Value
  new : Array Value
def FBx (w0 : World) (B : Nat) (L : List Bk) : (Nat → Bool) → World → Prop := fun f W => Below B w0 W ∧ ∀ p ∈ L, Bx W p.g p.t (if f p.k = true then p.new else p.old)
section
variable {w0 : World} {B : Nat} {L : List Bk} {js : List Nat}
theorem FBx.dep (h : ∀ p ∈ L, p.k ∈ js) : Dep (FBx w0 B L) js := by
  rintro f g W hfg ⟨h1, h2⟩
  exact ⟨h1, fun p hp => by rw [← hfg p.k (h p hp)]; exact h2 p hp⟩
theorem FBx.start {W : World} (h1 : Below B w0 W) (h2 : ∀ p ∈ L, Bx W p.g p.t p.old) : FBx w0 B L (fun _ => false) W.drew := ⟨h1.drew, fun p hp => by rw [if_neg (by simp)]; exact h2 p hp⟩
theorem FBx.done {W : World} (h : FBx w0 B L (fun _ => true) W) : Below B w0 W ∧ ∀ p ∈ L, Bx W p.g p.t p.new := ⟨h.1, fun p hp => by have := h.2 p hp; rwa [if_pos rfl] at this⟩
theorem FBx.cell (p : Bk) (hp : p ∈ L) (he : p.old = p.new) (x : FXN (FBx w0 B L)) (i : Nat) : x.W.cell? ⟨p.g, i, none⟩ = p.old[i]? := by
  obtain ⟨W, f, h⟩ := x
  have := h.2 p hp
  rw [← he] at this
  split at this <;> exact this.cell i
theorem FBx.base (x : FXN (FBx w0 B L)) : Below B w0 x.W := by obtain ⟨W, f, h⟩ := x; exact h.1
variable {P : Program} {k : Nat}
end
section
variable {P : Program} {ops : Array Oper} {rest : List Oper} {o : Oper} {a : Act} {Q : Act → Prop} {F : (Nat → Bool) → World → Prop} {js : List Nat} {k : Nat} {md : Region.Mode}
/-- len(..) -/
theorem wpN_len (hD : Dep F js) {x : Operand} {ats : Array TypeId} (ho : o.op = .call { callee := .builtin .len, args := #[x], argTypes := ats }) (hk : k ∉ js) (hw : Region.wanted o (yielded ops a.tmps) = true) {v : Value}
    (hl : ∀ W, (Builtin.len_ ats o.type #[a.eval x]).run P W = .ok v W) (h : wpF P md ops (CN F) Q rest (k + 1) (a.put o.dst v)) : wpF P md ops (CN F) Q (o :: rest) k a := by
  refine ⟨v, .inl ⟨hw, fun listed W hl' hW => ?_⟩, h⟩
  have : (execOp a.eval o).run P W = .ok (.value v) W := by
    simp [execOp, ho, resolve, invoke, builtin, hl]
  rw [this]
  exact ⟨rfl, hW.skip hD hk⟩
end
theorem store_int {P : Program} {ty : TypeId} (hi : (P.info? ty).map (·.size) = some 1) (W : World) (ad : Addr) (u0 : Value) (k : IntKind) (n : Int) (hc : W.cell? ad = some u0) (hf : W.frozen? ad = false) : (Instr.storeAt ty (.pointer (some ad)) (.int k n)).run P W = .ok () (W.setCell ad (.int k n)) := by
  obtain ⟨i, hi', e⟩ := Option.map_eq_some_iff.1 hi
  simp [go_sem, hc, hf, sizeOf, typeInfo, hi', e]
end Go.Proofs.Yteejianjjpdimaa
namespace Go.Proofs.Yteejianjjpdimaa
open Go Go.RowKit
section
variable {P : Program} {ops : Array Oper} {rest : List Oper} {o : Oper} {a : Act} {Q : Act → Prop} {F : (Nat → Bool) → World → Prop} {js : List Nat} {k : Nat} {md : Region.Mode}
/-- an operation that changes the world, where others that it waits for are done -/
theorem wpN_step (hD : Dep F js) (hi : ops[k]? = some o) (hw : Region.wanted o (yielded ops a.tmps) = true) {v : Value} (dep : List Nat) (hd : (dep.all fun j => o.after.any fun e => Region.binds md e && e.on == j) = true)
    (hs : ∀ f W, F f W → f k = false → (∀ j ∈ dep, f j = true) → ∃ W', (execOp a.eval o).run P W = .ok (.value v) W' ∧ F (fun i => i == k || f i) W') (h : wpF P md ops (CN F) Q rest (k + 1) (a.put o.dst v)) : wpF P md ops (CN F) Q (o :: rest) k a := by
  refine ⟨v, .inl ⟨hw, fun listed W hl hW => ?_⟩, h⟩
  have hk : listed.getD k false = false := by
    have h1 := (mem_ready.1 hl).1
    rcases Nat.lt_or_ge k listed.size with h' | h'
    · simp [h'] at h1 ⊢; exact h1
    · simp [Array.getElem?_eq_none h'] at h1 
  obtain ⟨W', h1, h2⟩ := hs _ W hW hk (fun j hj => ready_after hi (List.all_eq_true.1 hd j hj) hl)
  rw [h1]
  refine ⟨rfl, hD _ _ _ (fun j hj => ?_) h2⟩
  by_cases hjk : j = k
  · subst hjk
    rw [(getD_on (mem_ready.1 hl).1).2]; simp
  · have hne : k ≠ j := Ne.symm hjk
    rw [getD_set_ne false hne]; simp [hjk]
/-- an operation that yields one value in every world, and changes none -/
theorem wpN_pure (hD : Dep F js) (hk : k ∉ js) (hw : Region.wanted o (yielded ops a.tmps) = true) {v : Value} (hr : ∀ W, (execOp a.eval o).run P W = .ok (.value v) W) (h : wpF P md ops (CN F) Q rest (k + 1) (a.put o.dst v)) : wpF P md ops (CN F) Q (o :: rest) k a :=
  ⟨v, .inl ⟨hw, fun listed W hl hW => by rw [hr W]; exact ⟨rfl, hW.skip hD hk⟩⟩, h⟩
theorem run_append_rd {w : World} {t ty e B sz by_ : Nat} {v lv z : Value} {n m : Nat} {xs ys : List Value} (ht : P.underlying t = some (.slice e))
    (hi : (P.info? e).map (fun i => (i.zero, i.size, i.bytes)) = some (some z, sz, by_)) (hzs : z.cells.size = sz) (hsz : 0 < sz)
    (hown : w.ownsRow B e sz v n xs) (hrd : Rd w sz lv m ys) (h1 : ∀ u ∈ ys, u.oneCell' = true) (h63 : n + m ≤ 9223372036854775807) (hbytes : (n + m) * by_ ≤ 140737488355328) (hB : B ≤ w.heap.size) :
    ∃ v' w', (Builtin.append_ #[t, t] ty #[v, lv]).run P w = .ok v' w' ∧ w'.ownsRow B e sz v' (n + m) (xs ++ ys) ∧ w.grownBy w' v.ownBlock := by
  obtain ⟨i, hi1, hi2, hi3, hi4⟩ := info3 hi
  obtain ⟨A, c, rfl, s1, s2, s3, s4, s5⟩ := hrd
  rcases A with _ | ad
  · have hc := s4 rfl
    have hm : m = 0 := by omega
    subst hc; subst hm
    have hy : ys = [] := List.eq_nil_of_length_eq_zero (by simpa using s3)
    subst hy
    exact ⟨v, w, run_append_owned_none (P := P) w B t ty e i sz ht hi1 v n xs hown, by simpa using hown, World.grownBy.refl w _⟩
  · obtain ⟨b, q, sp⟩ := ad
    have hcell : ∀ j u, ys[j]? = some u → w.cell? ((⟨b, q, sp⟩ : Addr).add j) = some u := by
      intro j u hu
      have hm : 0 < m := by
        rcases Nat.eq_zero_or_pos m with h0 | h0
        · subst h0
          have : ys = [] := List.eq_nil_of_length_eq_zero (by simpa using s3)
          subst this; simp at hu
        · exact h0
      obtain ⟨p1, p2, p3⟩ := s5 hm _ rfl
      simp at p1; subst p1
      rw [show ((⟨b, q, none⟩ : Addr).add j) = ⟨b, q + j, none⟩ by unfold Addr.add; split <;> simp_all]
      exact p3 j u hu
    obtain ⟨v', w', hrun, r1, r2, _⟩ := run_append_own (P := P) w B t ty e i z sz by_ ht hi1 hi2 hi3 hi4 hzs hsz v n xs hown ⟨b, q, sp⟩ m c ys s3 hcell h1 (by unfold maxLen; omega) hbytes hB
    exact ⟨v', w', hrun, r1, r2⟩
end
/-- one of five worlds, by which of four operations are done, one behind the other -/
def FCh (k1 k2 k3 k4 : Nat) (W0 W1 W2 W3 W4 : World) : (Nat → Bool) → World → Prop := fun f W =>
  (f k2 = true → f k1 = true) ∧ (f k3 = true → f k2 = true) ∧ (f k4 = true → f k3 = true) ∧ W = (if f k4 = true then W4 else if f k3 = true then W3 else if f k2 = true then W2 else if f k1 = true then W1 else W0)
section
variable {k1 k2 k3 k4 : Nat} {W0 W1 W2 W3 W4 : World}
theorem FCh.dep : Dep (FCh k1 k2 k3 k4 W0 W1 W2 W3 W4) [k1, k2, k3, k4] := by
  rintro f g W hfg ⟨h1, h2, h3, h4⟩
  have e1 := hfg k1 (by simp); have e2 := hfg k2 (by simp); have e3 := hfg k3 (by simp); have e4 := hfg k4 (by simp)
  rw [e1, e2] at h1; rw [e2, e3] at h2; rw [e3, e4] at h3; rw [e1, e2, e3, e4] at h4
  exact ⟨h1, h2, h3, h4⟩
theorem FCh.start : FCh k1 k2 k3 k4 W0 W1 W2 W3 W4 (fun _ => false) W0 := ⟨by simp, by simp, by simp, by simp⟩
theorem FCh.done {W : World} (h : FCh k1 k2 k3 k4 W0 W1 W2 W3 W4 (fun _ => true) W) : W = W4 := by have := h.2.2.2; simpa using this
theorem no_of {b c : Bool} (h : b = true → c = true) (hc : c = false) : b = false := by cases b; rfl; rw [h rfl] at hc; cases hc
theorem FCh.s1 (hk : k1 ≠ k2 ∧ k1 ≠ k3 ∧ k1 ≠ k4) {f : Nat → Bool} {W : World} (h : FCh k1 k2 k3 k4 W0 W1 W2 W3 W4 f W) (h0 : f k1 = false) : W = W0 ∧ FCh k1 k2 k3 k4 W0 W1 W2 W3 W4 (fun i => i == k1 || f i) W1 := by
  obtain ⟨a1, a2, a3, a4⟩ := h
  have b2 := no_of a1 h0; have b3 := no_of a2 b2; have b4 := no_of a3 b3
  refine ⟨by rw [a4]; simp [h0, b2, b3, b4], by simp, ?_, ?_, ?_⟩
  · simp only [b3, Bool.or_false]; intro h; rw [beq_iff_eq] at h; exact absurd h.symm hk.2.1
  · simp only [b4, Bool.or_false]; intro h; rw [beq_iff_eq] at h; exact absurd h.symm hk.2.2
  · have e2 : (k2 == k1) = false := by rw [beq_eq_false_iff_ne]; exact hk.1.symm
    have e3 : (k3 == k1) = false := by rw [beq_eq_false_iff_ne]; exact hk.2.1.symm
    have e4 : (k4 == k1) = false := by rw [beq_eq_false_iff_ne]; exact hk.2.2.symm
    simp [b2, b3, b4, e2, e3, e4]
theorem FCh.s2 (hk : k2 ≠ k1 ∧ k2 ≠ k3 ∧ k2 ≠ k4) {f : Nat → Bool} {W : World} (h : FCh k1 k2 k3 k4 W0 W1 W2 W3 W4 f W) (h0 : f k2 = false) (h1 : f k1 = true) : W = W1 ∧ FCh k1 k2 k3 k4 W0 W1 W2 W3 W4 (fun i => i == k2 || f i) W2 := by
  obtain ⟨a1, a2, a3, a4⟩ := h
  have b3 := no_of a2 h0; have b4 := no_of a3 b3
  have e1 : (k1 == k2) = false := by rw [beq_eq_false_iff_ne]; exact hk.1.symm
  have e3 : (k3 == k2) = false := by rw [beq_eq_false_iff_ne]; exact hk.2.1.symm
  have e4 : (k4 == k2) = false := by rw [beq_eq_false_iff_ne]; exact hk.2.2.symm
  exact ⟨by rw [a4]; simp [h0, h1, b3, b4], by simp [h1], by simp, by simp [b4, e4], by simp [b3, b4, e3, e4]⟩
theorem FCh.s3 (hk : k3 ≠ k1 ∧ k3 ≠ k2 ∧ k3 ≠ k4) {f : Nat → Bool} {W : World} (h : FCh k1 k2 k3 k4 W0 W1 W2 W3 W4 f W) (h0 : f k3 = false) (h1 : f k2 = true) : W = W2 ∧ FCh k1 k2 k3 k4 W0 W1 W2 W3 W4 (fun i => i == k3 || f i) W3 := by
  obtain ⟨a1, a2, a3, a4⟩ := h
  have b4 := no_of a3 h0
  have e4 : (k4 == k3) = false := by rw [beq_eq_false_iff_ne]; exact hk.2.2.symm
  exact ⟨by rw [a4]; simp [h0, h1, b4], by simp [a1 h1], by simp [h1], by simp, by simp [b4, e4]⟩
theorem FCh.s4 (hk : k4 ≠ k1 ∧ k4 ≠ k2 ∧ k4 ≠ k3) {f : Nat → Bool} {W : World} (h : FCh k1 k2 k3 k4 W0 W1 W2 W3 W4 f W) (h0 : f k4 = false) (h1 : f k3 = true) : W = W3 ∧ FCh k1 k2 k3 k4 W0 W1 W2 W3 W4 (fun i => i == k4 || f i) W4 := by
  obtain ⟨a1, a2, a3, a4⟩ := h
  exact ⟨by rw [a4]; simp [h0, h1], by simp [a1 (a2 h1)], by simp [a2 h1], by simp [h1], by simp⟩
end
/-- one of four worlds, by which of three operations are done, one behind the other -/
def FC3 (k1 k2 k3 : Nat) (W0 W1 W2 W3 : World) : (Nat → Bool) → World → Prop := fun f W =>
  (f k2 = true → f k1 = true) ∧ (f k3 = true → f k2 = true) ∧ W = (if f k3 = true then W3 else if f k2 = true then W2 else if f k1 = true then W1 else W0)
section
variable {k1 k2 k3 : Nat} {W0 W1 W2 W3 : World}
theorem FC3.dep : Dep (FC3 k1 k2 k3 W0 W1 W2 W3) [k1, k2, k3] := by
  rintro f g W hfg ⟨h1, h2, h4⟩
  have e1 := hfg k1 (by simp); have e2 := hfg k2 (by simp); have e3 := hfg k3 (by simp)
  rw [e1, e2] at h1; rw [e2, e3] at h2; rw [e1, e2, e3] at h4
  exact ⟨h1, h2, h4⟩
theorem FC3.start : FC3 k1 k2 k3 W0 W1 W2 W3 (fun _ => false) W0 := ⟨by simp, by simp, by simp⟩
theorem FC3.done {W : World} (h : FC3 k1 k2 k3 W0 W1 W2 W3 (fun _ => true) W) : W = W3 := by have := h.2.2; simpa using this
theorem FC3.s1 (hk : k1 ≠ k2 ∧ k1 ≠ k3) {f : Nat → Bool} {W : World} (h : FC3 k1 k2 k3 W0 W1 W2 W3 f W) (h0 : f k1 = false) : W = W0 ∧ FC3 k1 k2 k3 W0 W1 W2 W3 (fun i => i == k1 || f i) W1 := by
  obtain ⟨a1, a2, a4⟩ := h
  have b2 := no_of a1 h0; have b3 := no_of a2 b2
  have e2 : (k2 == k1) = false := by rw [beq_eq_false_iff_ne]; exact hk.1.symm
  have e3 : (k3 == k1) = false := by rw [beq_eq_false_iff_ne]; exact hk.2.symm
  exact ⟨by rw [a4]; simp [h0, b2, b3], by simp, by simp [b3, e3], by simp [b2, b3, e2, e3]⟩
theorem FC3.s2 (hk : k2 ≠ k1 ∧ k2 ≠ k3) {f : Nat → Bool} {W : World} (h : FC3 k1 k2 k3 W0 W1 W2 W3 f W) (h0 : f k2 = false) (h1 : f k1 = true) : W = W1 ∧ FC3 k1 k2 k3 W0 W1 W2 W3 (fun i => i == k2 || f i) W2 := by
  obtain ⟨a1, a2, a4⟩ := h
  have b3 := no_of a2 h0
  have e3 : (k3 == k2) = false := by rw [beq_eq_false_iff_ne]; exact hk.2.symm
  exact ⟨by rw [a4]; simp [h0, h1, b3], by simp [h1], by simp, by simp [b3, e3]⟩
theorem FC3.s3 (hk : k3 ≠ k1 ∧ k3 ≠ k2) {f : Nat → Bool} {W : World} (h : FC3 k1 k2 k3 W0 W1 W2 W3 f W) (h0 : f k3 = false) (h1 : f k2 = true) : W = W2 ∧ FC3 k1 k2 k3 W0 W1 W2 W3 (fun i => i == k3 || f i) W3 := by
  obtain ⟨a1, a2, a4⟩ := h
  exact ⟨by rw [a4]; simp [h0, h1], by simp [a1 h1], by simp [h1], by simp⟩
end
end Go.Proofs.Yteejianjjpdimaa
namespace Go.Proofs.Yteejianjjpdimaa
open Go Go.RowKit
/-- the first d of the operations ks are done, the world is Ws d; the read r comes before the operation number m. -/
def FL (ks : List Nat) (Ws : Nat → World) (r m : Nat) : (Nat → Bool) → World → Prop := fun f W =>
  ∃ d, d ≤ ks.length ∧ (∀ i k, ks[i]? = some k → f k = decide (i < d)) ∧ W = Ws d ∧ (m < d → f r = true)
section
variable {ks : List Nat} {Ws : Nat → World} {r m : Nat}
theorem FL.dep : Dep (FL ks Ws r m) (r :: ks) := by
  rintro f g W hfg ⟨d, h1, h2, h3, h4⟩
  refine ⟨d, h1, fun i k hk => ?_, h3, fun hm => ?_⟩
  · rw [← hfg k (List.mem_cons_of_mem _ (List.mem_of_getElem? hk))]; exact h2 i k hk
  · rw [← hfg r List.mem_cons_self]; exact h4 hm
theorem FL.start : FL ks Ws r m (fun _ => false) (Ws 0) := ⟨0, Nat.zero_le _, fun i k _ => by simp, rfl, fun h => by omega⟩
theorem FL.done {W : World} (h : FL ks Ws r m (fun _ => true) W) : W = Ws ks.length := by
  obtain ⟨d, h1, h2, h3, h4⟩ := h
  rw [h3]
  congr 1
  by_cases hd : d = ks.length
  · exact hd
  · have hlt : d < ks.length := by omega
    have := h2 d ks[d] (List.getElem?_eq_getElem hlt)
    simp at this
theorem FL.step {i k : Nat} (hk : ks[i]? = some k) (hn : ks.Nodup) {f : Nat → Bool} {W : World} (h : FL ks Ws r m f W) (h0 : f k = false) (hp : ∀ p, i = p + 1 → ∀ k', ks[p]? = some k' → f k' = true) (hm : i = m → f r = true) :
    W = Ws i ∧ FL ks Ws r m (fun j => j == k || f j) (Ws (i + 1)) := by
  obtain ⟨d, h1, h2, h3, h4⟩ := h
  have hil : i < ks.length := (List.getElem?_eq_some_iff.1 hk).1
  have hd1 : ¬ i < d := by have := h2 i k hk; rw [h0] at this; simpa using this.symm
  have hd2 : i ≤ d := by
    rcases i with _ | p
    · omega
    · have hp' : ks[p]? = some ks[p] := List.getElem?_eq_getElem (by omega)
      have e1 := hp p rfl _ hp'
      rw [h2 p _ hp'] at e1
      have := of_decide_eq_true e1
      omega
  obtain rfl : d = i := by omega
  refine ⟨h3, d + 1, by omega, fun j k' hk' => ?_, rfl, fun hmd => ?_⟩
  · by_cases hj : j = d
    · subst hj
      rw [hk] at hk'; injection hk' with hk'; subst hk'
      simp
    · have hne : k' ≠ k := fun e => by
        subst e
        exact hj ((List.getElem?_inj (List.getElem?_eq_some_iff.1 hk').1 hn).1 (hk'.trans hk.symm))
      have e1 : (k' == k) = false := by rw [beq_eq_false_iff_ne]; exact hne
      simp only [e1, Bool.false_or]
      rw [h2 j k' hk']
      have : (j < d) = (j < d + 1) := by rw [eq_iff_iff]; omega
      simp only [this]
  · by_cases hmi : d = m
    · simp [hm hmi]
    · simp [h4 (by omega)]
theorem FL.prev {p q : Nat} {f : Nat → Bool} (hq : ks[p]? = some q) (h : f q = true) : ∀ p', p + 1 = p' + 1 → ∀ k', ks[p']? = some k' → f k' = true := by
  intro p' hp k' hk
  obtain rfl : p = p' := by omega
  rw [hq] at hk; injection hk with hk; subst hk; exact h
theorem FL.read (hr : r ∉ ks) {f : Nat → Bool} {W : World} (h : FL ks Ws r m f W) (h0 : f r = false) : (∃ d, d ≤ ks.length ∧ d ≤ m ∧ W = Ws d) ∧ FL ks Ws r m (fun j => j == r || f j) W := by
  obtain ⟨d, h1, h2, h3, h4⟩ := h
  have hdm : d ≤ m := by
    rcases Nat.lt_or_ge m d with h | h
    · rw [h4 h] at h0; cases h0
    · exact h
  refine ⟨⟨d, h1, hdm, h3⟩, d, h1, fun i k hk => ?_, h3, fun _ => by simp⟩
  have hne : (k == r) = false := by rw [beq_eq_false_iff_ne]; exact fun e => hr (e ▸ List.mem_of_getElem? hk)
  simp only [hne, Bool.false_or]
  exact h2 i k hk
theorem FL.agree {Ws' : Nat → World} {k0 : Nat} (hk : ks[0]? = some k0) (h0 : Ws 0 = Ws' 0) {f : Nat → Bool} {W : World} (hf : f k0 = false) (h : FL ks Ws r m f W) : FL ks Ws' r m f W := by
  obtain ⟨d, h1, h2, h3, h4⟩ := h
  have := h2 0 k0 hk
  rw [hf] at this
  have hd : d = 0 := by
    rcases Nat.eq_zero_or_pos d with h | h
    · exact h
    · rw [decide_eq_true h] at this; cases this
  subst hd
  exact ⟨0, h1, h2, h3.trans h0, h4⟩
theorem FL.all {p : World → Prop} (h : ∀ d, d ≤ ks.length → p (Ws d)) (x : FXN (FL ks Ws r m)) : p x.W := by
  obtain ⟨W, f, d, h1, _, h3, _⟩ := x
  subst h3; exact h d h1
end
section
variable {P : Program} {ops : Array Oper} {rest : List Oper} {o : Oper} {a : Act} {Q : Act → Prop} {F : (Nat → Bool) → World → Prop} {js : List Nat} {k : Nat} {md : Region.Mode}
/-- a store, where others that it waits for are done -/
theorem wpN_storeD (hD : Dep F js) (hi : ops[k]? = some o) (ty : TypeId) (px py : Operand) (ho : o.op = .store ty px py) (hw : Region.wanted o (yielded ops a.tmps) = true) {p u : Value} (hx : a.eval px = p) (hy : a.eval py = u) (dep : List Nat) (hd : (dep.all fun j => o.after.any fun e => Region.binds md e && e.on == j) = true)
    (hs : ∀ f W, F f W → f k = false → (∀ j ∈ dep, f j = true) → ∃ W', (Instr.storeAt ty p u).run P W = .ok () W' ∧ F (fun i => i == k || f i) W') (h : wpF P md ops (CN F) Q rest (k + 1) (a.put o.dst undef)) : wpF P md ops (CN F) Q (o :: rest) k a := by
  refine ⟨undef, .inl ⟨hw, fun listed W hl hW => ?_⟩, h⟩
  have hk : listed.getD k false = false := by
    have h1 := (mem_ready.1 hl).1
    rcases Nat.lt_or_ge k listed.size with h' | h'
    · simp [h'] at h1 ⊢; exact h1
    · simp [Array.getElem?_eq_none h'] at h1 
  obtain ⟨W', h1, h2⟩ := hs _ W hW hk (fun j hj => ready_after hi (List.all_eq_true.1 hd j hj) hl)
  unfold execOp
  simp only [ho, hx, hy, Sem.run_bind, h1, Result.andThen_ok, Sem.run_pure, uponF, true_and]
  refine hD _ _ _ (fun j hj => ?_) h2
  by_cases hjk : j = k
  · subst hjk
    rw [(getD_on (mem_ready.1 hl).1).2]; simp
  · have hne : k ≠ j := Ne.symm hjk
    rw [getD_set_ne false hne]; simp [hjk]
end
end Go.Proofs.Yteejianjjpdimaa
