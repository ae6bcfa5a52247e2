/- Contracts of models: greatness, sameness. -/
import Derived.Test.YtgjpohhafmkhcaaC20j
set_option linter.unusedVariables false
set_option linter.unusedSimpArgs false
namespace Go.Proofs.Ytgjpohhafmkhcaa
open Go.RowKit L02 L13 L18 L20

set_option maxRecDepth 100000 in
set_option maxHeartbeats 4000000 in
theorem Great20_any (tv ov sv : Value) (m : Mo) (b : Bool) (hb : b = decide (Great m)) (w : World) (h : Mod w tv ov sv m) :
    Calls Try.prog 9 #[.agg #[tv, ov, sv]] w fun e w' => e = .returned (.bool b) ∧ Below w.heap.size w w' := by
  have B : Below w.heap.size w w := Below.refl _ _
  have lt := h.t.len; have lo := h.o.len; have ls := h.s.len
  have lt' := h.t.len_le; have lo' := h.o.len_le
  have hyes : Great m → b = true := fun hg => by rw [hb, decide_eq_true hg]
  have hno : ¬ Great m → b = false := fun hg => by rw [hb, decide_eq_false hg]
  obtain ⟨NT, hNT⟩ : ∃ N, N = m.types.length := ⟨_, rfl⟩
  obtain ⟨NO, hNO⟩ : ∃ N, N = m.objs.length := ⟨_, rfl⟩
  obtain ⟨NS, hNS⟩ : ∃ N, N = m.slots.length := ⟨_, rfl⟩
  rw [← hNT] at lt lt'; rw [← hNO] at lo lo'; rw [← hNS] at ls
  have H := Lib.hid h; have HNT := Lib.hid hNT; have HNO := Lib.hid hNO; have HNS := Lib.hid hNS; have HY := Lib.hid hyes; have HN := Lib.hid hno
  clear h hb hNT hNO hNS hyes hno
  by_cases h0 : (40 < NO ∧ NO < 960) ∨ 962 < NO ∨ 20 < NT ∨ 30 < NS
  · have hbt : b = true := HY.out (by
      have h1 := HNT.out; have h2 := HNO.out; have h3 := HNS.out
      unfold Great; rw [← h1, ← h2, ← h3]
      rcases h0 with h | h | h | h
      · exact .inl h
      · exact .inr (.inl h)
      · exact .inr (.inr (.inl h))
      · exact .inr (.inr (.inr (.inl h))))
    subst hbt
    have hcase : (40 < NO ∧ NO < 960) ∨ (40 < NO ∧ ¬ NO < 960 ∧ 962 < NO) ∨ (40 < NO ∧ ¬ NO < 960 ∧ ¬ 962 < NO ∧ 20 < NT) ∨ (40 < NO ∧ ¬ NO < 960 ∧ ¬ 962 < NO ∧ ¬ 20 < NT ∧ 30 < NS) ∨ (¬ 40 < NO ∧ ¬ 962 < NO ∧ 20 < NT) ∨ (¬ 40 < NO ∧ ¬ 962 < NO ∧ ¬ 20 < NT ∧ 30 < NS) := by omega
    clear h0
    rcases hcase with ⟨a1, a2⟩ | ⟨a1, a2, a3⟩ | ⟨a1, a2, a3, a4⟩ | ⟨a1, a2, a3, a4, a5⟩ | ⟨a1, a2, a3⟩ | ⟨a1, a2, a3, a4⟩
    all_goals
      go_enter Try.func9, Try.ntmps9
      go_wp2
      go_ret
      exact ⟨rfl, B.alloc B.size _⟩
  · have hcase : (¬ 40 < NO ∧ ¬ 962 < NO) ∨ (40 < NO ∧ ¬ NO < 960 ∧ ¬ 962 < NO) := by omega
    have n1 : ¬ 20 < NT := by omega
    have n2 : ¬ 30 < NS := by omega
    have H0 := Lib.hid h0; clear h0
    have hfin : (∀ (i : Nat) t, i < NT → m.types[i]? = some t → ¬ 20 < t.length) → (∀ (i : Nat) o, i < NO → m.objs[i]? = some o → ¬ 20 < o.fs.length) → b = false := fun ht ho => HN.out (by
      have h1 := HNT.out; have h2 := HNO.out; have h3 := HNS.out; have h4 := H0.out
      unfold Great; rw [← h1, ← h2, ← h3]
      rintro (h | h | h | h | ⟨t, h, hl⟩ | ⟨o, h, hl⟩)
      · exact h4 (.inl h)
      · exact h4 (.inr (.inl h))
      · exact h4 (.inr (.inr (.inl h)))
      · exact h4 (.inr (.inr (.inr h)))
      · obtain ⟨i, hi, hit⟩ := List.getElem_of_mem h
        exact ht i t (by omega) (by rw [List.getElem?_eq_getElem hi, hit]) hl
      · obtain ⟨i, hi, hit⟩ := List.getElem_of_mem h
        exact ho i o (by omega) (by rw [List.getElem?_eq_getElem hi, hit]) hl)
    have HF := Lib.hid hfin; clear hfin
    rcases hcase with ⟨a1, a2⟩ | ⟨a1, a2, a3⟩
    all_goals
      go_enter Try.func9, Try.ntmps9
      go_upto_region 1 with (fail)
      refine wp_gen (fun Wv => Bx Wv (w.heap.size) (26) (#[tv, ov, sv]) ∧ Below w.heap.size w Wv) ⟨((Bx.at_ (by simp))), ((Below.refl _ w).alloc (by simp <;> omega) _)⟩ ?_
      rintro wa1 ⟨g1, b⟩
      replace B := B.trans (b.mono B.size); clear b
      have c_g1 := g1.cell; have f_g1 := g1.free; have a_g1 := fun o => (g1.alloc o).cell; have d_g1 := fun o o2 => ((g1.alloc o).alloc o2).cell; have e_g1 := fun o => (g1.alloc o).free
      have HB := Lib.hid B; clear B
      go_wp2
      have HG1 := Lib.hid g1
      clear g1 c_g1 f_g1 a_g1 d_g1 e_g1
      go_loopg [3] NT (fun g i wr => ∃ j : Nat, j ≤ NT ∧ g = NT - j ∧ i = .int .i64 j ∧ Hid ((∀ (i : Nat) t, i < j → m.types[i]? = some t → ¬ 20 < t.length) ∧ Bx wr w.heap.size 26 #[tv, ov, sv] ∧ Below w.heap.size w wr))
      case atStart => exact ⟨0, by omega, by omega, rfl, Lib.hid ⟨fun i t hi => by omega, HG1.out, HB.out⟩⟩
      case round =>
        clear HG1 HB
        obtain ⟨j, hj, rfl, rfl, hh⟩ := hrel
        have g1 := hh.out.2.1
        have c_g1 := g1.cell
        by_cases hlt : j < NT
        · obtain ⟨ad, y, t, iy, m0, ht, hby⟩ := (H.out.t.below hh.out.2.2).at_ (k := j) (by have := HNT.out; omega)
          have ly := Rd.len hby.out Try.underlying74
          obtain ⟨nt, hnt⟩ : ∃ N, N = t.length := ⟨_, rfl⟩
          rw [← hnt] at ly
          have HNt := Lib.hid hnt; clear hnt
          by_cases hk : 20 < nt
          · have hbt : b = true := HY.out (.inr (.inr (.inr (.inr (.inl ⟨t, List.mem_of_getElem? ht.out, by rw [← HNt.out]; exact hk⟩)))))
            subst hbt
            go_wp2
            go_ret
            exact ⟨rfl, hh.out.2.2⟩
          · go_wp2
            go_roundg (NT - (j + 1))
            case measure => omega
            case rel =>
              refine ⟨j + 1, by omega, rfl, by go_num, Lib.hid ⟨fun i u hi hu => ?_, hh.out.2⟩⟩
              by_cases hij : i < j
              · exact hh.out.1 i u hij hu
              · obtain rfl : i = j := by omega
                have := ht.out; rw [hu] at this; injection this with this; subst this; rw [← HNt.out]; exact hk
        · obtain rfl : j = NT := by omega
          have HT := Lib.hid (fun i t hi => hh.out.1 i t hi); have HB := Lib.hid hh.out.2.2
          clear hh
          go_wp2
          have HG1 := Lib.hid g1
          clear g1 c_g1
          go_loopg [4] NO (fun g i wr => ∃ k : Nat, k ≤ NO ∧ g = NO - k ∧ i = .int .i64 k ∧ Hid ((∀ (i : Nat) o, i < k → m.objs[i]? = some o → ¬ 20 < o.fs.length) ∧ Bx wr w.heap.size 26 #[tv, ov, sv] ∧ Below w.heap.size w wr))
          case atStart => exact ⟨0, by omega, by omega, rfl, Lib.hid ⟨fun i t hi => by omega, HG1.out, HB.out⟩⟩
          case round =>
            clear HG1 HB
            obtain ⟨k, hk, rfl, rfl, hh⟩ := hrel
            have g1 := hh.out.2.1
            have c_g1 := g1.cell
            by_cases hltk : k < NO
            · obtain ⟨ob, oq, x, o, ix, m0, m1, ho, hx, hob⟩ := (H.out.o.below hh.out.2.2).at_ (k := k) (by have := HNO.out; omega)
              have lx := Rd.len hx.out Try.underlying70
              obtain ⟨nt, hnt⟩ : ∃ N, N = o.fs.length := ⟨_, rfl⟩
              rw [← hnt] at lx
              have HNt := Lib.hid hnt; clear hnt
              by_cases hk2 : 20 < nt
              · have hbt : b = true := HY.out (.inr (.inr (.inr (.inr (.inr ⟨o, List.mem_of_getElem? ho.out, by rw [← HNt.out]; exact hk2⟩)))))
                subst hbt
                go_wp2
                go_ret
                exact ⟨rfl, hh.out.2.2⟩
              · go_wp2
                go_roundg (NO - (k + 1))
                case measure => omega
                case rel =>
                  refine ⟨k + 1, by omega, rfl, by go_num, Lib.hid ⟨fun i u hi hu => ?_, hh.out.2⟩⟩
                  by_cases hij : i < k
                  · exact hh.out.1 i u hij hu
                  · obtain rfl : i = k := by omega
                    have := ho.out; rw [hu] at this; injection this with this; subst this; rw [← HNt.out]; exact hk2
            · obtain rfl : k = NO := by omega
              have hbf := HF.out (fun i t hi => HT.out i t hi) (fun i o hi => hh.out.1 i o hi)
              subst hbf
              go_wp2
              go_ret
              exact ⟨rfl, hh.out.2.2⟩
end Go.Proofs.Ytgjpohhafmkhcaa
