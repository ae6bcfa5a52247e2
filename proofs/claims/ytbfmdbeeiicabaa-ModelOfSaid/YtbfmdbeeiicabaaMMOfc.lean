/- Contracts of the functions that the law 'ModelOf' reaches, part 3. No condition. -/
import Derived.Test.YtbfmdbeeiicabaaMMOfb
set_option linter.unusedVariables false
set_option linter.unusedSimpArgs false
namespace Go.Proofs.Ytbfmdbeeiicabaa
open Go.RowKit L02 L13 L18 L20
theorem mo_ne {a b : Mo} (h : ¬ (a.types = b.types ∧ a.objs = b.objs ∧ a.slots = b.slots)) : ¬ a = b := fun e => h (by rw [e]; exact ⟨rfl, rfl, rfl⟩)
theorem mo_eq {a b : Mo} (h1 : a.types = b.types) (h2 : a.objs = b.objs) (h3 : a.slots = b.slots) : a = b := by cases a; cases b; simp_all
theorem ob_eq {a b : Ob} (h1 : a.ty = b.ty) (h2 : a.fs = b.fs) : a = b := by cases a; cases b; simp_all
set_option maxRecDepth 100000 in
set_option maxHeartbeats 4000000 in
theorem Same20_any (ta oa sa tb ob sb : Value) (a b : Mo) (r : Bool) (hr : r = decide (a = b)) (w : World) (ha : Mod w ta oa sa a) (hb : Mod w tb ob sb b) :
    Calls Try.prog 44 #[.agg #[ta, oa, sa], .agg #[tb, ob, sb]] w fun e w' => e = .returned (.bool r) ∧ Below w.heap.size w w' := by
  have B : Below w.heap.size w w := Below.refl _ _
  have lo := ha.o.len; have lo2 := hb.o.len
  have lo' := ha.o.len_le; have lo2' := hb.o.len_le
  obtain ⟨z1, hz1⟩ : ∃ z, z = decide (a.types = b.types) := ⟨_, rfl⟩
  obtain ⟨z3, hz3⟩ : ∃ z, z = sameS a.slots b.slots := ⟨_, rfl⟩
  have TT := Lib.hid (fun w h1 h2 => SameT_any ta tb a.types b.types z1 hz1 w h1 h2)
  have ST := Lib.hid (fun w h1 h2 => SameS_any sa sb a.slots b.slots z3 hz3 w h1 h2)
  obtain ⟨NA, hNA⟩ : ∃ N, N = a.objs.length := ⟨_, rfl⟩
  obtain ⟨NB, hNB⟩ : ∃ N, N = b.objs.length := ⟨_, rfl⟩
  rw [← hNA] at lo lo'; rw [← hNB] at lo2 lo2'
  have HA := Lib.hid ha; have HB := Lib.hid hb; have HNA := Lib.hid hNA; have HNB := Lib.hid hNB; have HR := Lib.hid hr; have HZ1 := Lib.hid hz1; have HZ3 := Lib.hid hz3
  have hno : ¬ (a.types = b.types ∧ a.objs = b.objs ∧ a.slots = b.slots) → r = false := fun h => by rw [hr]; exact decide_eq_false (mo_ne h)
  have HNO := Lib.hid hno
  clear ha hb hNA hNB hr hz1 hz3 hno
  go_enter Try.func44, Try.ntmps44
  go_upto_region 1 with (fail)
  refine wp_gen (fun Wv => Bx Wv (w.heap.size) (79) (#[ta, oa, sa]) ∧ Bx Wv (w.heap.size + 1) (79) (#[tb, ob, sb]) ∧ Below w.heap.size w Wv) ⟨(((Bx.at_ (by simp)).alloc _)), ((Bx.at_ (by simp))), (((Below.refl _ w).alloc (by simp <;> omega) _).alloc (by simp <;> omega) _)⟩ ?_
  rintro wa1 ⟨g1, g2, b⟩
  replace B := B.trans (b.mono B.size); clear b
  have c_g1 := g1.cell; have f_g1 := g1.free; have a_g1 := fun o => (g1.alloc o).cell; have d_g1 := fun o o2 => ((g1.alloc o).alloc o2).cell; have e_g1 := fun o => (g1.alloc o).free
  have c_g2 := g2.cell; have f_g2 := g2.free; have a_g2 := fun o => (g2.alloc o).cell; have d_g2 := fun o o2 => ((g2.alloc o).alloc o2).cell; have e_g2 := fun o => (g2.alloc o).free
  go_wp2_with fail
  refine (TT.out _ (HA.out.t.below B) (HB.out.t.below B)).mono ?_
  rintro e w2 ⟨rfl, b2⟩
  replace g1 := g1.below b2; replace g2 := g2.below b2; replace B := B.trans (b2.mono B.size)
  clear b2 c_g1 c_g2 f_g1 f_g2 a_g1 a_g2 d_g1 d_g2 e_g1 e_g2
  have c_g1 := g1.cell; have c_g2 := g2.cell
  cases z1
  · have hrf := HNO.out (fun h => by have := HZ1.out; rw [eq_comm, decide_eq_false_iff_not] at this; exact this h.1)
    subst hrf
    go_wp2
    go_ret
    exact ⟨rfl, B⟩
  · by_cases hl : NA = NB
    · have hl1 : ((NA : Int) != (NB : Int)) = false := by rw [bne_eq_false_iff_eq]; omega
      have HL := Lib.hid hl; clear hl
      go_wp2_with fail
      refine (ST.out _ (HA.out.s.below B) (HB.out.s.below B)).mono ?_
      rintro e w3 ⟨rfl, b2⟩
      replace g1 := g1.below b2; replace g2 := g2.below b2; replace B := B.trans (b2.mono B.size)
      clear b2 c_g1 c_g2
      cases z3
      · have hrf := HNO.out (fun h => by have := HZ3.out; rw [sameS, eq_comm, decide_eq_false_iff_not] at this; exact this h.2.2)
        subst hrf
        go_wp2
        go_ret
        exact ⟨rfl, B⟩
      · have HG := Lib.hid (And.intro g1 (And.intro g2 B))
        clear g1 g2 B
        go_wp2
        go_loopg [5] NA (fun g i wr => ∃ k : Nat, k ≤ NA ∧ g = NA - k ∧ i = .int .i64 k ∧ Hid (a.objs.take k = b.objs.take k ∧ Bx wr w.heap.size 79 #[ta, oa, sa] ∧ Bx wr (w.heap.size + 1) 79 #[tb, ob, sb] ∧ Below w.heap.size w wr))
        case atStart => exact ⟨0, by omega, by omega, rfl, Lib.hid ⟨by simp, HG.out⟩⟩
        case round =>
          clear HG
          obtain ⟨k, hk, rfl, rfl, hh⟩ := hrel
          obtain ⟨heq, g1, g2, B⟩ := hh.out
          have HEQ := Lib.hid heq
          clear hh heq
          have c_g1 := g1.cell; have c_g2 := g2.cell
          by_cases hlt : k < NA
          · obtain ⟨bb, bq, x, o, ix, m0, m1, ho, hx, hxb⟩ := (HA.out.o.below B).at_ (k := k) (by have := HNA.out; omega)
            obtain ⟨cb, cq, y, p, iy, m2, m3, hp, hy, hyb⟩ := (HB.out.o.below B).at_ (k := k) (by have := HNB.out; have := HL.out; omega)
            have hxx := hx.out; have hyy := hy.out
            by_cases hty : o.ty = p.ty
            · have ht : (o.ty != p.ty) = false := by rw [bne_eq_false_iff_eq]; exact hty
              obtain ⟨q, hq⟩ : ∃ q, q = L02.same o.fs p.fs := ⟨_, rfl⟩
              have SW := Lib.hid (fun w h1 h2 => Same_r x y o.fs p.fs q hq w h1 h2)
              have HQ := Lib.hid hq; have HTY := Lib.hid hty; clear hq hty
              have HXX := Lib.hid hxx; have HYY := Lib.hid hyy
              go_upto_region 6 with (fail)
              have HC := Lib.hid (fun z : Fut wr => And.intro (HXX.out.below z.h) (HYY.out.below z.h))
              clear hxx hyy
              refine wp_region_calm (by kernel_rfl) (by kernel_rfl) ?_
              try clear c_g1 f_g1 a_g1 d_g1 e_g1
              have c_g1 := fun x : Fut _ => (g1.below x.h).cell
              try clear c_g2 f_g2 a_g2 d_g2 e_g2
              have c_g2 := fun x : Fut _ => (g2.below x.h).cell
              have c_m0 := fun x : Fut _ => cell_later x.h m0
              have c_m1 := fun x : Fut _ => cell_later x.h m1
              have c_m2 := fun x : Fut _ => cell_later x.h m2
              have c_m3 := fun x : Fut _ => cell_later x.h m3
              repeat (go_big_quiet_step (exact Fut.call (SW.out _ (HC.out _).1 (HC.out _).2)))
              refine wpQuiet_nil ?_
              intro _ hw'
              obtain ⟨xq, hw''⟩ := hw'
              subst hw''
              clear c_g1; replace g1 := g1.below xq.h; have c_g1 := g1.cell; have f_g1 := g1.free; have a_g1 := fun o => (g1.alloc o).cell; have d_g1 := fun o o2 => ((g1.alloc o).alloc o2).cell; have e_g1 := fun o => (g1.alloc o).free
              clear c_g2; replace g2 := g2.below xq.h; have c_g2 := g2.cell; have f_g2 := g2.free; have a_g2 := fun o => (g2.alloc o).cell; have d_g2 := fun o o2 => ((g2.alloc o).alloc o2).cell; have e_g2 := fun o => (g2.alloc o).free
              clear c_m0; replace m0 := cell_later xq.h m0
              clear c_m1; replace m1 := cell_later xq.h m1
              clear c_m2; replace m2 := cell_later xq.h m2
              clear c_m3; replace m3 := cell_later xq.h m3
              replace B := B.trans (xq.h.mono B.size)
              cases q
              · have hrf := HNO.out (fun h => by
                  have h1 := ho.out; have h2 := hp.out
                  rw [h.2.1, h2] at h1; injection h1 with h1
                  have := HQ.out; rw [h1] at this
                  simp [L02.same] at this)
                subst hrf
                go_wp2
                go_ret
                exact ⟨rfl, B⟩
              · have hs : o.fs = p.fs := by have := HQ.out; simpa [L02.same, eq_comm] using this
                have HS := Lib.hid (ob_eq HTY.out hs); clear hs
                have HH := Lib.hid (And.intro g1 (And.intro g2 B))
                clear g1 g2 B c_g1 c_g2 f_g1 f_g2 a_g1 a_g2 d_g1 d_g2 e_g1 e_g2 m0 m1 m2 m3
                go_wp2
                go_roundg (NA - (k + 1))
                case measure => omega
                case rel =>
                  refine ⟨k + 1, by omega, rfl, by go_num, Lib.hid ⟨?_, HH.out⟩⟩
                  rw [List.take_add_one, List.take_add_one, HEQ.out, ho.out, hp.out, HS.out]
            · have ht : (o.ty != p.ty) = true := by rw [bne_iff_ne]; exact hty
              have hrf := HNO.out (fun h => by
                have h1 := ho.out; have h2 := hp.out
                rw [h.2.1, h2] at h1; injection h1 with h1
                exact hty (by rw [h1]))
              subst hrf
              clear hxx hyy hty
              go_upto_region 6 with (fail)
              refine wp_region_calm (by kernel_rfl) (by kernel_rfl) ?_
              try clear c_g1 f_g1 a_g1 d_g1 e_g1
              have c_g1 := fun x : Fut _ => (g1.below x.h).cell
              try clear c_g2 f_g2 a_g2 d_g2 e_g2
              have c_g2 := fun x : Fut _ => (g2.below x.h).cell
              have c_m0 := fun x : Fut _ => cell_later x.h m0
              have c_m1 := fun x : Fut _ => cell_later x.h m1
              have c_m2 := fun x : Fut _ => cell_later x.h m2
              have c_m3 := fun x : Fut _ => cell_later x.h m3
              repeat (go_big_quiet_step (fail))
              refine wpQuiet_nil ?_
              intro _ hw'
              obtain ⟨xq, hw''⟩ := hw'
              subst hw''
              clear c_g1; replace g1 := g1.below xq.h; have c_g1 := g1.cell; have f_g1 := g1.free; have a_g1 := fun o => (g1.alloc o).cell; have d_g1 := fun o o2 => ((g1.alloc o).alloc o2).cell; have e_g1 := fun o => (g1.alloc o).free
              clear c_g2; replace g2 := g2.below xq.h; have c_g2 := g2.cell; have f_g2 := g2.free; have a_g2 := fun o => (g2.alloc o).cell; have d_g2 := fun o o2 => ((g2.alloc o).alloc o2).cell; have e_g2 := fun o => (g2.alloc o).free
              clear c_m0; replace m0 := cell_later xq.h m0
              clear c_m1; replace m1 := cell_later xq.h m1
              clear c_m2; replace m2 := cell_later xq.h m2
              clear c_m3; replace m3 := cell_later xq.h m3
              replace B := B.trans (xq.h.mono B.size)
              go_wp2
              go_ret
              exact ⟨rfl, B⟩
          · obtain rfl : k = NA := by omega
            have hrt : r = true := by
              rw [HR.out, decide_eq_true_iff]
              have h1 := HEQ.out
              rw [List.take_of_length_le (by have := HNA.out; omega), List.take_of_length_le (by have := HNB.out; have := HL.out; omega)] at h1
              have h2 := HZ1.out; have h3 := HZ3.out
              rw [eq_comm, decide_eq_true_iff] at h2
              rw [sameS, eq_comm, decide_eq_true_iff] at h3
              exact mo_eq h2 h1 h3
            subst hrt
            go_wp2
            go_ret
            exact ⟨rfl, B⟩
    · have hl1 : ((NA : Int) != (NB : Int)) = true := by rw [bne_iff_ne]; omega
      have hrf := HNO.out (fun h => hl (by rw [HNA.out, HNB.out, h.2.1]))
      subst hrf
      clear hl
      go_wp2
      go_ret
      exact ⟨rfl, B⟩
end Go.Proofs.Ytbfmdbeeiicabaa
namespace Go.Proofs.Ytbfmdbeeiicabaa
open Go Go.RowKit
section
variable {P : Program} {ops : Array Oper} {md : Region.Mode}
/-- a number of nn yields its value, whatever its world; the others as they do -/
def YieldsM (P : Program) (md : Region.Mode) (ops : Array Oper) (C : Array Bool → World → Prop) (nn : Nat → Bool) (x : Nat → Value) (i : Nat) (o : Oper) (v : Value) (a : Act) : Prop :=
  (nn i = true ∧ v = x i ∧ Region.wanted o (yielded ops a.tmps) = true) ∨ (nn i = false ∧ YieldsV P md ops C i o v a)
theorem YieldsM.of_same {C : Array Bool → World → Prop} {nn : Nat → Bool} {x : Nat → Value} {i : Nat} {o : Oper} {v : Value} {a a' : Act} (hy : YieldsM P md ops C nn x i o v a) (he : execOp a'.eval o = execOp a.eval o)
    (hw : Region.wanted o (yielded ops a'.tmps) = Region.wanted o (yielded ops a.tmps)) : YieldsM P md ops C nn x i o v a' := by
  rcases hy with ⟨h1, h2, h3⟩ | ⟨h1, h2⟩
  · exact .inl ⟨h1, h2, by rw [hw]; exact h3⟩
  · exact .inr ⟨h1, h2.of_same he hw⟩
variable {C : Array Bool → World → Prop} {nn : Nat → Bool} {x : Nat → Value} {T : Nat → Sem Next → Prop}
end
section
variable {P : Program} {ops : Array Oper} {rest : List Oper} {o : Oper} {a : Act} {Q : Act → Prop} {F : (Nat → Bool) → World → Prop} {js : List Nat} {k : Nat} {nn : Nat → Bool} {md : Region.Mode} {x : Nat → Value} {T : Nat → Sem Next → Prop}
end
end Go.Proofs.Ytbfmdbeeiicabaa
namespace Go.Proofs.Ytbfmdbeeiicabaa
open Go.RowKit L02 L13 L18 L20
structure GMod where
  t : Value
  o : Value
  s : Value
  W1 : World
def GMod.val (g : GMod) : Value := .agg #[g.t, g.o, g.s]
theorem OwnM.forms {w : World} {B E : Nat} {tv ov sv : Value} {m : Mo} (h : OwnM w B E tv ov sv m) : (∃ A n c, tv = .slice A n c) ∧ (∃ A n c, ov = .slice A n c) ∧ ∃ A n c, sv = .slice A n c := by
  obtain ⟨⟨_, _, z2, _⟩, ⟨_, _, y2, _⟩, s⟩ := h
  obtain ⟨A, c, e⟩ := own_form' z2; obtain ⟨A', c', e'⟩ := own_form' y2; obtain ⟨A'', c'', e''⟩ := own_form' s
  exact ⟨⟨A, _, c, e⟩, ⟨A', _, c', e'⟩, ⟨A'', _, c'', e''⟩⟩
end Go.Proofs.Ytbfmdbeeiicabaa
namespace Go.Proofs.Ytbfmdbeeiicabaa.L18
open L02
theorem size_of {l : List UInt64} (h : openErr l = 0) : SizeOk l.length := by
  unfold openErr at h
  split at h
  · assumption
  · omega
theorem allR_of {l : List UInt64} (h : openErr l = 0) : AllR l := by
  unfold openErr at h
  split at h
  · split at h
    · assumption
    · omega
  · omega
theorem slots_len' {l : List UInt64} (h : openErr l = 0) : (slots l).length = 16 := by
  have := (size_of h).1
  simp [slots, ws]; omega
end Go.Proofs.Ytbfmdbeeiicabaa.L18
namespace Go.Proofs.Ytbfmdbeeiicabaa
open Go.RowKit L02 L13 L18 L20
theorem tabL_set (S : List Sl) (k : Nat) (s : Sl) (hk : k < S.length) : (((tabL S).set (k * 3) (.int .i64 s.gen)).set (k * 3 + 1) (.bool s.used)).set (k * 3 + 2) (.int .i64 s.at_) = tabL (S.set k s) := by
  apply List.ext_getElem?
  intro i
  by_cases hi : i < S.length * 3
  · obtain ⟨q, r, hr, rfl⟩ : ∃ q r, r < 3 ∧ i = q * 3 + r := ⟨i / 3, i % 3, Nat.mod_lt _ (by omega), by omega⟩
    have hq : q < S.length := by omega
    by_cases hqk : q = k
    · subst hqk
      have h1 := tabL_get (S.set q s) q s (by simp [hq]) r hr
      rw [h1]
      have hl : (tabL S).length = S.length * 3 := tabL_len S
      have : r = 0 ∨ r = 1 ∨ r = 2 := by omega
      rcases this with rfl | rfl | rfl
      · rw [List.getElem?_set_ne (by omega), List.getElem?_set_ne (by omega), Nat.add_zero, List.getElem?_set_self (by omega)]; rfl
      · rw [List.getElem?_set_ne (by omega), List.getElem?_set_self (by simp; omega)]; rfl
      · rw [List.getElem?_set_self (by simp; omega)]; rfl
    · have hs : S[q]? = some S[q] := List.getElem?_eq_getElem hq
      have h1 := tabL_get (S.set k s) q S[q] (by rw [List.getElem?_set_ne (Ne.symm hqk)]; exact hs) r hr
      have h2 := tabL_get S q S[q] hs r hr
      rw [h1, List.getElem?_set_ne (by omega), List.getElem?_set_ne (by omega), List.getElem?_set_ne (by omega), h2]
  · rw [List.getElem?_eq_none (by simp [tabL_len]; omega), List.getElem?_eq_none (by simp [tabL_len]; omega)]
theorem OwnS.form {w : World} {B E : Nat} {v : Value} {S : List Sl} (h : OwnS w B E v S) (hn : 0 < S.length) : ∃ g n c, v = .slice (some ⟨g, 0, none⟩) n c ∧ n = S.length := by
  obtain ⟨g, cap, cur, hv, _⟩ := own_form h hn
  exact ⟨g, _, cap, hv, rfl⟩
theorem OwnS.cells {w : World} {B E g n c k : Nat} {S : List Sl} {s : Sl} (h : OwnS w B E (.slice (some ⟨g, 0, none⟩) n c) S) (hs : S[k]? = some s) :
    (∀ W, (Instr.indexAt 64 (.slice (some ⟨g, 0, none⟩) n c) (.int .i64 (k : Int))).run Try.prog W = .ok (.pointer (some ⟨g, k * 3, none⟩)) W) ∧ w.cell? ⟨g, k * 3, none⟩ = some (.int .i64 s.gen) ∧ w.cell? ⟨g, k * 3 + 1, none⟩ = some (.bool s.used) ∧ w.cell? ⟨g, k * 3 + 2, none⟩ = some (.int .i64 s.at_) := by
  have hk : k < S.length := (List.getElem?_eq_some_iff.1 hs).1
  have t0 := Rd.cell (OwnS.rd h) (tabL_get S k s hs 0 (by omega))
  have t1 := Rd.cell (OwnS.rd h) (tabL_get S k s hs 1 (by omega))
  have t2 := Rd.cell (OwnS.rd h) (tabL_get S k s hs 2 (by omega))
  refine ⟨fun W => ?_, ?_, ?_, ?_⟩
  · have := Rd.ixN (P := Try.prog) (OwnS.rd h) Try.underlying64 size_slot hk W
    simpa [cellAt] using this
  · simpa [cellAt] using t0
  · simpa [cellAt] using t1
  · simpa [cellAt] using t2
/-- a model's own slots changed, all else kept -/
theorem OwnM.slots {w W : World} {B g n c : Nat} {tv ov : Value} {m : Mo} {S : List Sl} (h : OwnM w B 68 tv ov (.slice (some ⟨g, 0, none⟩) n c) m) (hg : w.grownBy W (some g)) (hS : OwnS W B 68 (.slice (some ⟨g, 0, none⟩) n c) S) :
    OwnM W B 68 tv ov (.slice (some ⟨g, 0, none⟩) n c) ⟨m.types, m.objs, S⟩ := by
  refine ⟨OwnT.kept h.t h.s hg (by decide) (by decide), ?_, hS⟩
  obtain ⟨vs, a1, a2, a4, a5⟩ := h.o
  exact ⟨vs, a1, World.ownsRow.kept a2 hg (own_unlike a2 h.s (by decide)), fun i x l h5 h6 => World.ownsRow.kept (a4 i x l h5 h6) hg (own_unlike (a4 i x l h5 h6) h.s (by decide)), a5⟩
/-- all old blocks but one are as they were -/
def Keep (w w' : World) (row : Option Nat) : Prop := w.heap.size ≤ w'.heap.size ∧ ∀ k, k < w.heap.size → some k ≠ row → w'.heap[k]? = w.heap[k]?
theorem Keep.grown {w w' w'' : World} {row : Option Nat} (h : Keep w w' row) (hg : w'.grownBy w'' row) : Keep w w'' row := ⟨Nat.le_trans h.1 hg.size, fun k hk hr => (hg.block k (Nat.lt_of_lt_of_le hk h.1) hr).trans (h.2 k hk hr)⟩
theorem Keep.setCell {w w' : World} {row : Option Nat} (h : Keep w w' row) {p : Addr} (hp : w.heap.size ≤ p.block) (u : Value) : Keep w (w'.setCell p u) row :=
  ⟨by simpa [World.setCell] using h.1, fun k hk hr => (Below.heap_setCell w' p u k (by omega)).trans (h.2 k hk hr)⟩
theorem Bx.keep {w w' : World} {g : Nat} {t : TypeId} {cs : Array Value} {row : Option Nat} (h : Bx w g t cs) (hk : Keep w w' row) (hne : row = none ∨ row ≠ some g) : Bx w' g t cs := by
  have hl := h.lt
  unfold Bx at *
  rw [hk.2 g hl (by rcases hne with rfl | h; · simp
                    · exact fun e => h e.symm)]
  exact h
end Go.Proofs.Ytbfmdbeeiicabaa
namespace Go.Proofs.Ytbfmdbeeiicabaa
open Go.RowKit L02 L13 L18 L20
/-- the number of a slot is stored -/
theorem OwnS.put1 {w : World} {B E g n c k : Nat} {S : List Sl} {s : Sl} (h : OwnS w B E (.slice (some ⟨g, 0, none⟩) n c) S) (hs : S[k]? = some s) (a : Int) :
    OwnS (w.setCell ⟨g, k * 3 + 2, none⟩ (.int .i64 a)) B E (.slice (some ⟨g, 0, none⟩) n c) (S.set k ⟨s.gen, s.used, a⟩) ∧
      w.grownBy (w.setCell ⟨g, k * 3 + 2, none⟩ (.int .i64 a)) (some g) ∧ B ≤ g ∧ g < w.heap.size ∧ ∀ j, w.frozen? ⟨g, j, none⟩ = false := by
  have hk : k < S.length := (List.getElem?_eq_some_iff.1 hs).1
  have hn : n = S.length := by
    obtain ⟨g', cap, cur, hv, _⟩ := own_form h (by omega)
    injection hv
  subst hn
  have h3 := World.ownsRow.stored h (k * 3 + 2) (.int .i64 a)
  have hl := h.lt g rfl
  have hsame : ∀ i : Nat, i < 3 → ∀ u, (slC s)[i]? = some u → (tabL S).set (k * 3 + i) u = tabL S := by
    intro i hi u hu
    have t0 := tabL_get S k s hs i hi
    rw [hu] at t0
    apply List.ext_getElem?
    intro j
    by_cases hj : j = k * 3 + i
    · subst hj
      rw [List.getElem?_set_self (List.getElem?_eq_some_iff.1 t0).1, t0]
    · rw [List.getElem?_set_ne (Ne.symm hj)]
  have h0 := hsame 0 (by omega) (.int .i64 s.gen) rfl
  have h1 := hsame 1 (by omega) (.bool s.used) rfl
  rw [Nat.add_zero] at h0
  refine ⟨?_, h3.2, hl.1, hl.2, fun j => h.frozenAt j⟩
  unfold OwnS
  rw [← tabL_set S k ⟨s.gen, s.used, a⟩ hk, List.length_set]
  show World.ownsRow _ _ _ _ _ _ ((((tabL S).set (k * 3) (.int .i64 s.gen)).set (k * 3 + 1) (.bool s.used)).set (k * 3 + 2) (.int .i64 a))
  rw [h0, h1]
  exact h3.1
theorem own_ne_bx {w : World} {B e sz n n' p g c : Nat} {xs : List Value} {t : TypeId} {cs : Array Value} (h : w.ownsRow B e sz (.slice (some ⟨g, 0, none⟩) n c) n' xs) (hg : Bx w p t cs) (hne : e ≠ t) : g ≠ p := by
  rintro rfl
  rcases own_not_bx h hg hne with h | h
  · cases h
  · exact h rfl
end Go.Proofs.Ytbfmdbeeiicabaa
namespace Go.Proofs.Ytbfmdbeeiicabaa
open Go.RowKit Go.Maps L02 L13 L18 L20
/-- .. that has just n entries, those whose keys K tells -/
def MapN (P : Program) (k e : TypeId) (z0 : Lit) (W : World) (g n : Nat) (f : Int → Lit) (K : Int → Bool) : Prop :=
  ∃ D : DataW Unit, W.ownsMap P k (plainElem P e) g n D ∧ (∀ a, D.atKey (.int .i64 a) (.lit z0) = .lit (f a)) ∧ size D = n ∧ ∀ a, has D (.int .i64 a) = K a
section
variable {P : Program} {k e : TypeId} {z0 : Lit} {W : World} {g n : Nat} {f : Int → Lit} {K : Int → Bool}
theorem MapN.mapL (h : MapN P k e z0 W g n f K) : MapL P k e z0 W g n f := by obtain ⟨D, h1, h2, _⟩ := h; exact ⟨D, h1, h2⟩
theorem MapN.made (W : World) : MapN P k e z0 (W.alloc (.map #[] 0)) W.heap.size 0 (fun _ => z0) (fun _ => false) :=
  ⟨.map [], World.ownsMap_made W P k _, fun a => rfl, rfl, fun a => rfl⟩
theorem MapN.kept {W' : World} {row : Option Nat} (h : MapN P k e z0 W g n f K) (hg : W.grownBy W' row) (hne : some g ≠ row) : MapN P k e z0 W' g n f K := by
  obtain ⟨D, h1, h2⟩ := h; exact ⟨D, h1.kept hg hne, h2⟩
theorem MapN.below {W' : World} (h : MapN P k e z0 W g n f K) (hb : Below W.heap.size W W') : MapN P k e z0 W' g n f K := by
  obtain ⟨D, ⟨es, clock, hh, F, hs, hD⟩, h2⟩ := h
  exact ⟨D, ⟨es, clock, (hb.block g (Array.getElem?_eq_some_iff.1 hh).1).trans hh, F, hs, hD⟩, h2⟩
theorem MapL.block (h : MapL P k e z0 W g n f) : ∃ es clock, W.heap[g]? = some (.map es clock) := by
  obtain ⟨D, ⟨es, clock, hh, _⟩, _⟩ := h; exact ⟨es, clock, hh⟩
theorem MapN.len {t : TypeId} (h : MapN P k e z0 W g n f K) (ht : P.underlying t = some (.map k e)) : ∀ ty, (Builtin.len_ #[t] ty #[.map (some g)]).run P W = .ok (.int .i64 (n : Int)) W := by
  obtain ⟨D, h1, _, h3, _⟩ := h
  intro ty
  rw [h1.len ht ty, h3]
theorem MapN.put {t : TypeId} (h : MapN P k e z0 W g n f K) (hk : P.underlying k = some (.int .i64)) (ht : P.underlying t = some (.map k e)) (hn : n < maxLen) {a : Int} (ha : i64Ok a) (hK : K a = false) {v : Value} {l : Lit} (hv : plainElem (H := Unit) P e v = some (.lit l, [])) :
    ∃ W', (Instr.mapUpdate t (.map (some g)) (.int .i64 a) v).run P W = .ok () W' ∧ MapN P k e z0 W' g (n + 1) (fun b => if b = a then l else f b) (fun b => decide (b = a) || K b) ∧ W.grownBy W' (some g) := by
  obtain ⟨D, h1, h2, h3, h4⟩ := h
  obtain ⟨W', r1, r2, r3⟩ := h1.update (int_keyed hk) ht hn (keyOf_int_mk hk (lit_wf ha)) hv
  refine ⟨W', r1, ⟨_, r2, fun b => ?_, ?_, fun b => ?_⟩, r3⟩
  · by_cases hb : b = a
    · subst hb
      show _ = DataW.lit (if b = b then l else f b)
      rw [if_pos rfl]
      exact atKey_put_same (h1.isMap) ((int_keyed hk).key (keyOf_int_mk hk (lit_wf ha))) _ _
    · show _ = DataW.lit (if b = a then l else f b)
      rw [if_neg hb, atKey_put_other (by intro e; injection e with _ e; exact hb e), h2]
  · rw [size_put (h1.tidy (int_keyed hk)), h4, hK, h3]; rfl
  · by_cases hb : b = a
    · subst hb
      rw [has_put_same h1.isMap ((int_keyed hk).key (keyOf_int_mk hk (lit_wf ha)))]; simp
    · rw [has_put_other (by intro e; injection e with _ e; exact hb e), h4]; simp [hb]
/-- a store at the operation, for the walk -/
theorem wpList_mapPutN {ops : Array Oper} {rest : List Oper} {o : Oper} {a : Act} {Q : Exit → Act → World → Prop} (hg : o.guard = none) {m x v : Operand} {t : TypeId} (hop : o.op = Op.mapUpdate t m x v) (hk : P.underlying k = some (.int .i64)) (ht : P.underlying t = some (.map k e))
    (hm : a.eval m = .map (some g)) {key : Int} {val : Value} {l : Lit} (hx : a.eval x = .int .i64 key) (hv : a.eval v = val) (h : MapN P k e z0 W g n f K) (hn : n < maxLen) (hkey : i64Ok key) (hK : K key = false) (hval : plainElem (H := Unit) P e val = some (.lit l, []))
    (hC : ∀ W', MapN P k e z0 W' g (n + 1) (fun b => if b = key then l else f b) (fun b => decide (b = key) || K b) → W.grownBy W' (some g) → wpList P ops Q rest (a.put o.dst undef) W') : wpList P ops Q (o :: rest) a W := by
  refine wpList_plain hg fun K' hK' => ?_
  obtain ⟨W', hrun, r1, r2⟩ := h.put hk ht hn hkey hK hval
  unfold Oper.wp
  simp [execOp, hop, hm, hx, hv, hrun, Result.andThen]
  exact hK' _ _ (hC W' r1 r2)
/-- a row does not lie in a map's block -/
theorem own_ne_map {B e' sz n' : Nat} {v : Value} {xs : List Value} {es : Array MapEntry} {clock : Nat} (h : W.ownsRow B e' sz v n' xs) (hm : W.heap[g]? = some (.map es clock)) : v.ownBlock = none ∨ v.ownBlock ≠ some g := by
  rcases h.2 with ⟨rfl, _⟩ | ⟨g', cap, cur, rfl, _, hg', _⟩
  · exact .inl rfl
  · refine .inr ?_
    intro he
    simp [Value.ownBlock] at he
    subst he
    rw [hg'] at hm
    injection hm with hm
    cases hm
theorem Bx.ne_map {p : Nat} {t : TypeId} {cs : Array Value} {es : Array MapEntry} {clock : Nat} (h : Bx W p t cs) (hm : W.heap[g]? = some (.map es clock)) : g ≠ p := by
  rintro rfl
  unfold Bx at h
  rw [h] at hm
  injection hm with hm
  cases hm
theorem row_keptM {W' : World} {B e' sz n' : Nat} {v : Value} {xs : List Value} {es : Array MapEntry} {clock : Nat} (h : W.ownsRow B e' sz v n' xs) (hm : W.heap[g]? = some (.map es clock)) (hg : W.grownBy W' (some g)) : W'.ownsRow B e' sz v n' xs :=
  World.ownsRow.kept h hg (own_ne_map h hm)
theorem OwnT.keptM {W' : World} {B : Nat} {v : Value} {L : List (List UInt8)} {es : Array MapEntry} {clock : Nat} (h : OwnT W B v L) (hm : W.heap[g]? = some (.map es clock)) (hg : W.grownBy W' (some g)) : OwnT W' B v L := by
  obtain ⟨vs, a1, a2, a4⟩ := h
  exact ⟨vs, a1, row_keptM a2 hm hg, fun i x l h5 h6 => row_keptM (a4 i x l h5 h6) hm hg⟩
theorem Bx.keptM {W' : World} {p : Nat} {t : TypeId} {cs : Array Value} {es : Array MapEntry} {clock : Nat} (h : Bx W p t cs) (hm : W.heap[g]? = some (.map es clock)) (hg : W.grownBy W' (some g)) : Bx W' p t cs :=
  h.grown hg (.inr (fun e => h.ne_map hm (by injection e)))
end
end Go.Proofs.Ytbfmdbeeiicabaa
namespace Go.Proofs.Ytbfmdbeeiicabaa.L14
open L05
structure Hb where
  at_ : Int
  size : Int
  kind : Int
  ty : Int
  mark : Bool
  next : UInt64
deriving DecidableEq
def Hb.none : Hb := ⟨0, 0, 0, 0, false, 0⟩
def ObjB (b : Hb) : Prop := b.kind = 1 ∧ (0 ≤ b.ty ∧ b.ty < 8) ∧ b.size ≤ 10
instance (b : Hb) : Decidable (ObjB b) := inferInstanceAs (Decidable (_ ∧ _ ∧ _))
def FreeB (b : Hb) : Prop := b.kind = 2 ∧ b.ty = 0 ∧ b.mark = false ∧ b.size ≤ 1920
instance (b : Hb) : Decidable (FreeB b) := inferInstanceAs (Decidable (_ ∧ _ ∧ _ ∧ _))
def BkOk (b : Hb) : Prop := (2 ≤ b.size ∧ b.size % 2 = 0) ∧ (ObjB b ∨ FreeB b)
instance (b : Hb) : Decidable (BkOk b) := inferInstanceAs (Decidable (_ ∧ _))
def hErr (b : Hb) : Int := if BkOk b then 0 else 8
def mk1 (m : Bool) : Nat := if m then 1 else 0
/-- the lower half of a first word -/
def lowN (b : Hb) : Nat := b.kind.toNat + mk1 b.mark * 256 + b.ty.toNat * 512 + b.size.toNat * 65536
def partN (x : UInt64) : Nat := (sum [x]).toNat % 4294967296
def wordN (b : Hb) : Nat := lowN b + partN (UInt64.ofNat (lowN b)) * 4294967296
def word (b : Hb) : UInt64 := if BkOk b then UInt64.ofNat (wordN b) else 0
/-- what the lower half of a word tells -/
def told (x : UInt64) : Hb := ⟨0, (x.toNat / 65536 % 65536 : Nat), (x.toNat % 256 : Nat), (x.toNat / 512 % 128 : Nat), decide (x.toNat / 256 % 2 = 1), 0⟩
def HdOk (x : UInt64) : Prop := BkOk (told x) ∧ word (told x) = x
instance (x : UInt64) : Decidable (HdOk x) := inferInstanceAs (Decidable (_ ∧ _))
def split (x : UInt64) : Hb := if HdOk x then told x else .none
def splE (x : UInt64) : Int := if HdOk x then 0 else 50
theorem hErr_ok {b : Hb} (h : BkOk b) : hErr b = 0 := if_pos h
theorem hErr_no {b : Hb} (h : ¬ BkOk b) : hErr b = 8 := if_neg h
theorem mk1_le (m : Bool) : mk1 m ≤ 1 := by cases m <;> decide
theorem part_lt (x : UInt64) : partN x < 4294967296 := Nat.mod_lt _ (by decide)
/-- the bounds of a valid block -/
theorem BkOk.bounds {b : Hb} (h : BkOk b) : 2 ≤ b.size ∧ b.size % 2 = 0 ∧ b.size ≤ 1920 ∧ (b.kind = 1 ∨ b.kind = 2) ∧ 0 ≤ b.ty ∧ b.ty < 8 := by
  obtain ⟨⟨h1, h2⟩, h3 | h3⟩ := h
  · obtain ⟨a, c, d⟩ := h3; exact ⟨h1, h2, by omega, .inl a, c.1, c.2⟩
  · obtain ⟨a, c, d, e⟩ := h3; exact ⟨h1, h2, by omega, .inr a, by omega, by omega⟩
theorem lowN_lt {b : Hb} (h : BkOk b) : lowN b < 4294967296 := by
  have := h.bounds
  have := mk1_le b.mark
  unfold lowN; omega
theorem wordN_lt {b : Hb} (h : BkOk b) : wordN b < 18446744073709551616 := by
  have h1 := lowN_lt h
  have h2 := part_lt (UInt64.ofNat (lowN b))
  unfold wordN; omega
theorem word_nat {b : Hb} (h : BkOk b) : (word b).toNat = wordN b := by
  rw [word, if_pos h, UInt64.toNat_ofNat', Nat.mod_eq_of_lt (wordN_lt h)]
/-- the first word of a valid block tells it, but for its address and its second word -/
theorem told_word {b : Hb} (h : BkOk b) : told (word b) = ⟨0, b.size, b.kind, b.ty, b.mark, 0⟩ := by
  obtain ⟨h1, h2, h3, h4, h5, h6⟩ := h.bounds
  have hm := mk1_le b.mark
  have hn := word_nat h
  have hl : lowN b < 4294967296 := lowN_lt h
  have e1 : (word b).toNat % 4294967296 = lowN b := by rw [hn, wordN]; omega
  unfold lowN at e1
  have e2 : ((word b).toNat / 65536 % 65536 : Nat) = b.size.toNat := by omega
  have e3 : ((word b).toNat % 256 : Nat) = b.kind.toNat := by omega
  have e4 : ((word b).toNat / 512 % 128 : Nat) = b.ty.toNat := by omega
  have e5 : (word b).toNat / 256 % 2 = mk1 b.mark := by omega
  rw [told, e2, e3, e4, e5]
  obtain ⟨at_, size, kind, ty, mark, next⟩ := b
  dsimp only at *
  have a1 : (size.toNat : Int) = size := by omega
  have a2 : (kind.toNat : Int) = kind := by omega
  have a3 : (ty.toNat : Int) = ty := by omega
  rw [a1, a2, a3]
  cases mark <;> rfl
theorem ok_bare {b : Hb} {a : Int} {n : UInt64} : BkOk (⟨a, b.size, b.kind, b.ty, b.mark, n⟩ : Hb) ↔ BkOk b := Iff.rfl
theorem word_bare {b : Hb} {a : Int} {n : UInt64} : word (⟨a, b.size, b.kind, b.ty, b.mark, n⟩ : Hb) = word b := rfl
theorem hd_word {b : Hb} (h : BkOk b) : HdOk (word b) := by
  have e := told_word h
  refine ⟨by rw [e]; exact ok_bare.2 h, ?_⟩
  rw [e]; exact word_bare (b := b)
theorem split_word {b : Hb} (h : BkOk b) : split (word b) = ⟨0, b.size, b.kind, b.ty, b.mark, 0⟩ := by rw [split, if_pos (hd_word h), told_word h]
theorem split_ok {x : UInt64} (h : HdOk x) : BkOk (split x) := by rw [split, if_pos h]; exact h.1
theorem split_told {x : UInt64} (h : HdOk x) : split x = told x := if_pos h
end Go.Proofs.Ytbfmdbeeiicabaa.L14
namespace Go.Proofs.Ytbfmdbeeiicabaa
open Go.RowKit L01 L02 L05 L14
set_option maxHeartbeats 1000000 in
theorem HCheck_any (b : Hb) (r : Int) (hr : r = hErr b) (w : World) : Calls Try.prog 22 #[.agg #[.int .i64 b.at_, .int .i64 b.size, .int .i64 b.kind, .int .i64 b.ty, .bool b.mark, .int .u64 b.next.toNat]] w fun e w' => e = .returned (.int .i64 r) ∧ Below w.heap.size w w' := by
  have HB := Lib.hid hr; clear hr
  obtain ⟨at_, size, kind, ty, mark, next⟩ := b
  dsimp only at *
  cases mark
  all_goals
    go_enter Try.func22, Try.ntmps22
    go_wp2
    all_goals
      go_ret
      refine ⟨ret_int ?_, (Below.refl _ _).alloc (Nat.le_refl _) _⟩
      rw [HB.out]
      try simp only [Bool.not_eq_true', Bool.not_eq_false', decide_eq_true_eq, decide_eq_false_iff_not, beq_eq_false_iff_ne, beq_iff_eq, bne_iff_ne, bne_eq_false_iff_eq, ne_eq] at *
      first
      | exact (hErr_ok (by simp [BkOk, ObjB, FreeB]; try omega)).symm
      | exact (hErr_no (by simp [BkOk, ObjB, FreeB]; try omega)).symm
theorem mask32_any (w : World) : Calls Try.prog 149 #[.int .i64 0, .int .i64 32] w fun e w' => e = .returned (.int .u64 4294967295) ∧ w = w' := by
  go_enter Try.func149, Try.ntmps149
  go_wp2
  go_ret
  exact ⟨rfl, rfl⟩
theorem Get32_any (x : UInt64) (r : Nat) (hr : r = x.toNat % 4294967296) (w : World) : Calls Try.prog 133 #[.int .u64 x.toNat, .int .i64 0, .int .i64 32] w fun e w' => e = .returned (.tuple #[.int .u64 (r : Int), .int .i64 0]) ∧ w = w' := by
  have hxl := toNat_lt x
  have e1 := and_int (a := (x.toNat : Int)) 32 (by omega) (by omega) 4294967295 (by decide) (by omega)
  rw [show ((2 ^ 32 : Nat) : Int) = 4294967296 from rfl] at e1
  have e2 : (x.toNat : Int) % 4294967296 = (r : Int) := by rw [hr]; omega
  have e3 := e1.trans e2
  clear hr e1 e2
  go_enter Try.func133, Try.ntmps133
  go_wp2_with fail
  refine (mask32_any _).mono ?_
  rintro e w' ⟨rfl, rfl⟩
  go_wp2
  go_ret2
  exact ⟨rfl, rfl⟩
theorem Low32_any (v : Value) (l : List UInt64) (r : Nat) (hr : r = (sum l).toNat % 4294967296) (hl : l.length ≤ 2048) (w : World) (h : Words w v l) :
    Calls Try.prog 95 #[v, .int .i64 32] w fun e w' => e = .returned (.tuple #[.int .u64 (r : Int), .int .i64 0]) ∧ Below w.heap.size w w' := by
  obtain ⟨S, hS⟩ : ∃ S, S = sum l := ⟨_, rfl⟩
  rw [← hS] at hr
  have GT := Lib.hid (fun w => Get32_any S r hr w)
  have HO : Hid (∀ w, Words w v l → Calls Try.prog 132 #[v] w fun e w' => e = .returned (.tuple #[.int .u64 S.toNat, .int .i64 0]) ∧ Below w.heap.size w w') := by
    rw [hS]; exact Lib.hid (fun w h => Of_any v l w h hl)
  have B : Below w.heap.size w w := Below.refl _ _
  have H := Lib.hid h; clear h hr hS
  go_enter Try.func95, Try.ntmps95
  go_wp2_with fail
  refine (HO.out _ (H.out.below B)).mono ?_
  rintro e wa1 ⟨rfl, b⟩
  replace B := B.trans (b.mono B.size); clear b
  go_wp2_with fail
  refine (GT.out _).mono ?_
  rintro e w' ⟨rfl, rfl⟩
  go_wp2
  go_ret2
  exact ⟨rfl, B⟩
theorem lit_one {w : World} {e n : Nat} (x : UInt64) (hn : w.heap.size = n) : Words (w.alloc (.cells #[.int .u64 x.toNat] e)) (.slice (some ⟨n, 0, none⟩) 1 1) [x] := by
  subst hn; exact lit_words [x] rfl rfl (by simp)
set_option maxRecDepth 100000 in
theorem sealed_any (x : UInt64) (r : Nat) (hx : x.toNat < 4294967296) (hr : r = x.toNat + partN x * 4294967296) (w : World) :
    Calls Try.prog 54 #[.int .u64 x.toNat] w fun e w' => e = .returned (.tuple #[.int .u64 (r : Int), .int .i64 0]) ∧ Below w.heap.size w w' := by
  have B : Below w.heap.size w w := Below.refl _ _
  obtain ⟨p, hp⟩ : ∃ p, p = partN x := ⟨_, rfl⟩
  have hpl : p < 4294967296 := by rw [hp]; exact part_lt x
  have hp2 : (sum [x]).toNat % 4294967296 = p := hp.symm
  have LO := Lib.hid (fun v w h => Low32_any v [x] p hp2.symm (by simp) w h)
  have e1 := or_int (a := (x.toNat : Int)) (b := (p : Int) * 4294967296) 32 p (by omega) (by simp; omega) (by omega) (by omega) (by omega)
  have e2 : IntKind.u64.wrap ((p : Int) * 4294967296) = (p : Int) * 4294967296 := by rw [wrap_u64]; omega
  rw [← hp] at hr
  have HR := Lib.hid hr; clear hp hr hp2
  go_enter Try.func54, Try.ntmps54
  go_wp2_with fail
  refine (LO.out _ _ (lit_one x rfl)).mono ?_
  rintro e w' ⟨rfl, b⟩
  replace B := (B.alloc B.size _).trans (b.mono (by simp))
  go_wp2
  go_ret2
  exact ⟨by rw [HR.out]; congr 3, B⟩
set_option maxHeartbeats 1000000 in
theorem of_any (b : Hb) (hb : BkOk b) (lw : Nat) (hlw : lw = lowN b) (w : World) :
    Calls Try.prog 53 #[.agg #[.int .i64 b.at_, .int .i64 b.size, .int .i64 b.kind, .int .i64 b.ty, .bool b.mark, .int .u64 b.next.toNat]] w fun e w' => e = .returned (.agg #[.int .u64 (lw : Int), .int .u64 b.kind, .int .u64 b.ty, .int .u64 b.size, .int .u64 (mk1 b.mark : Nat)]) ∧ Below w.heap.size w w' := by
  have B : Below w.heap.size w w := Below.refl _ _
  obtain ⟨h1, h2, h3, h4, h5, h6⟩ := hb.bounds
  obtain ⟨at_, size, kind, ty, mark, next⟩ := b
  dsimp only at *
  obtain ⟨S, rfl⟩ := Int.eq_ofNat_of_zero_le (show 0 ≤ size by omega)
  obtain ⟨K, rfl⟩ := Int.eq_ofNat_of_zero_le (show 0 ≤ kind by omega)
  obtain ⟨T, rfl⟩ := Int.eq_ofNat_of_zero_le h5
  have w1 : IntKind.u64.wrap (K : Int) = K := by rw [wrap_u64]; omega
  have w2 : IntKind.u64.wrap (T : Int) = T := by rw [wrap_u64]; omega
  have w3 : IntKind.u64.wrap (S : Int) = S := by rw [wrap_u64]; omega
  have w4 : IntKind.u64.wrap ((T : Int) * 512) = (T : Int) * 512 := by rw [wrap_u64]; omega
  have w5 : IntKind.u64.wrap ((S : Int) * 65536) = (S : Int) * 65536 := by rw [wrap_u64]; omega
  have HL := Lib.hid hlw; clear hlw hb
  cases mark
  · have o1 := or_int (a := (K : Int)) (b := (T : Int) * 512) 9 T (by omega) (by simp; omega) (by omega) (by omega) (by omega)
    have o2 := or_int (a := (K : Int) + (T : Int) * 512) (b := (S : Int) * 65536) 16 S (by omega) (by simp; omega) (by omega) (by omega) (by omega)
    have o0 := or_int (a := (K : Int)) (b := 0) 9 0 (by omega) (by simp; omega) (by omega) (by omega) (by omega)
    rw [Int.add_zero] at o0
    go_enter Try.func53, Try.ntmps53
    go_wp2
    refine bodyPost_ret (v := .agg #[.int .u64 (lw : Int), .int .u64 K, .int .u64 T, .int .u64 S, .int .u64 0]) (by simp [results, Try.results53, go_sem, HL.out, lowN, mk1]) rfl ⟨rfl, ?_⟩
    (repeat (first | refine Below.setCell ?_ (by first | exact Nat.le_refl _ | (simp <;> omega)) _ | refine Below.alloc ?_ (by first | exact B.size | (have := B.size; simp <;> omega)) _)); exact B
  · have o0 := or_int (a := (K : Int)) (b := 256) 8 1 (by omega) (by simp; omega) (by omega) (by omega) (by omega)
    have o1 := or_int (a := (K : Int) + 256) (b := (T : Int) * 512) 9 T (by omega) (by simp; omega) (by omega) (by omega) (by omega)
    have o2 := or_int (a := (K : Int) + 256 + (T : Int) * 512) (b := (S : Int) * 65536) 16 S (by omega) (by simp; omega) (by omega) (by omega) (by omega)
    go_enter Try.func53, Try.ntmps53
    go_wp2
    refine bodyPost_ret (v := .agg #[.int .u64 (lw : Int), .int .u64 K, .int .u64 T, .int .u64 S, .int .u64 1]) (by simp [results, Try.results53, go_sem, HL.out, lowN, mk1]) rfl ⟨rfl, ?_⟩
    (repeat (first | refine Below.setCell ?_ (by first | exact Nat.le_refl _ | (simp <;> omega)) _ | refine Below.alloc ?_ (by first | exact B.size | (have := B.size; simp <;> omega)) _)); exact B
theorem form_low (a b c d e : Int) (W : World) : (Instr.field 95 (.agg #[.int .u64 a, .int .u64 b, .int .u64 c, .int .u64 d, .int .u64 e]) 0).run Try.prog W = .ok (.int .u64 a) W := by kernel_rfl
set_option maxRecDepth 100000 in
theorem HWord_any (b : Hb) (v : UInt64) (r : Int) (hv : v = word b) (hr : r = hErr b) (w : World) :
    Calls Try.prog 19 #[.agg #[.int .i64 b.at_, .int .i64 b.size, .int .i64 b.kind, .int .i64 b.ty, .bool b.mark, .int .u64 b.next.toNat]] w fun e w' => e = .returned (.tuple #[.int .u64 v.toNat, .int .i64 r]) ∧ Below w.heap.size w w' := by
  have B : Below w.heap.size w w := Below.refl _ _
  have CT := Lib.hid (fun w => HCheck_any b r hr w)
  by_cases hb : BkOk b
  · rw [hErr_ok hb] at hr
    have hn := word_nat hb
    rw [← hv] at hn
    have hlt := lowN_lt hb
    obtain ⟨x, hx⟩ : ∃ x : UInt64, x = UInt64.ofNat (lowN b) := ⟨_, rfl⟩
    have hxn : x.toNat = lowN b := by rw [hx, UInt64.toNat_ofNat', Nat.mod_eq_of_lt (by omega)]
    have OT := Lib.hid (fun w => of_any b hb x.toNat hxn w)
    have ST := Lib.hid (fun w => sealed_any x v.toNat (by omega) (by rw [hn, wordN, ← hx, hxn]) w)
    subst hr
    have hf := fun W => form_low (x.toNat : Int) b.kind b.ty b.size (mk1 b.mark : Nat) W
    clear hv hb hn hlt hx hxn
    go_enter Try.func19, Try.ntmps19
    go_upto_region 1 with (fail)
    refine wp_gen (fun Wv => Bx Wv (w.heap.size) (38) (#[.int .i64 b.at_, .int .i64 b.size, .int .i64 b.kind, .int .i64 b.ty, .bool b.mark, .int .u64 b.next.toNat]) ∧ Below w.heap.size w Wv) ⟨((Bx.at_ (by simp))), ((Below.refl _ w).alloc (by simp <;> omega) _)⟩ ?_
    rintro wa1 ⟨g1, b⟩
    replace B := B.trans (b.mono B.size); clear b
    have c_g1 := g1.cell; have f_g1 := g1.free; have a_g1 := fun o => (g1.alloc o).cell; have d_g1 := fun o o2 => ((g1.alloc o).alloc o2).cell; have e_g1 := fun o => (g1.alloc o).free
    go_wp2_with fail
    refine (CT.out _).mono ?_
    rintro e wa2 ⟨rfl, b⟩
    try clear c_g1 f_g1 a_g1 d_g1 e_g1
    replace g1 := g1.below b; have c_g1 := g1.cell; have f_g1 := g1.free; have a_g1 := fun o => (g1.alloc o).cell; have d_g1 := fun o o2 => ((g1.alloc o).alloc o2).cell; have e_g1 := fun o => (g1.alloc o).free; replace B := B.trans (b.mono B.size); clear b
    go_wp2_with fail
    refine (OT.out _).mono ?_
    rintro e wa3 ⟨rfl, b⟩
    try clear c_g1 f_g1 a_g1 d_g1 e_g1
    replace g1 := g1.below b; have c_g1 := g1.cell; have f_g1 := g1.free; have a_g1 := fun o => (g1.alloc o).cell; have d_g1 := fun o o2 => ((g1.alloc o).alloc o2).cell; have e_g1 := fun o => (g1.alloc o).free; replace B := B.trans (b.mono B.size); clear b
    go_wp2_with fail
    refine (ST.out _).mono ?_
    rintro e wa4 ⟨rfl, b⟩
    try clear c_g1 f_g1 a_g1 d_g1 e_g1
    replace g1 := g1.below b; have c_g1 := g1.cell; have f_g1 := g1.free; have a_g1 := fun o => (g1.alloc o).cell; have d_g1 := fun o o2 => ((g1.alloc o).alloc o2).cell; have e_g1 := fun o => (g1.alloc o).free; replace B := B.trans (b.mono B.size); clear b
    go_wp2
    go_ret2
    exact ⟨rfl, B⟩
  · rw [hErr_no hb] at hr
    have hv0 : v = 0 := by rw [hv, word, if_neg hb]
    subst hr; subst hv0
    clear hv hb
    go_enter Try.func19, Try.ntmps19
    go_upto_region 1 with (fail)
    refine wp_gen (fun Wv => Bx Wv (w.heap.size) (38) (#[.int .i64 b.at_, .int .i64 b.size, .int .i64 b.kind, .int .i64 b.ty, .bool b.mark, .int .u64 b.next.toNat]) ∧ Below w.heap.size w Wv) ⟨((Bx.at_ (by simp))), ((Below.refl _ w).alloc (by simp <;> omega) _)⟩ ?_
    rintro wa1 ⟨g1, b⟩
    replace B := B.trans (b.mono B.size); clear b
    have c_g1 := g1.cell; have f_g1 := g1.free; have a_g1 := fun o => (g1.alloc o).cell; have d_g1 := fun o o2 => ((g1.alloc o).alloc o2).cell; have e_g1 := fun o => (g1.alloc o).free
    go_wp2_with fail
    refine (CT.out _).mono ?_
    rintro e wa2 ⟨rfl, b⟩
    try clear c_g1 f_g1 a_g1 d_g1 e_g1
    replace g1 := g1.below b; have c_g1 := g1.cell; have f_g1 := g1.free; have a_g1 := fun o => (g1.alloc o).cell; have d_g1 := fun o o2 => ((g1.alloc o).alloc o2).cell; have e_g1 := fun o => (g1.alloc o).free; replace B := B.trans (b.mono B.size); clear b
    go_wp2
    go_ret2
    exact ⟨rfl, B⟩
set_option maxRecDepth 100000 in
set_option maxHeartbeats 1000000 in
theorem HSplit_any (x : UInt64) (b : Hb) (r : Int) (hb : b = split x) (hr : r = splE x) (w : World) :
    Calls Try.prog 129 #[.int .u64 x.toNat] w fun e w' => e = .returned (.tuple #[.agg #[.int .i64 b.at_, .int .i64 b.size, .int .i64 b.kind, .int .i64 b.ty, .bool b.mark, .int .u64 b.next.toNat], .int .i64 r]) ∧ Below w.heap.size w w' := by
  have B : Below w.heap.size w w := Below.refl _ _
  have hxl := toNat_lt x
  obtain ⟨t, ht⟩ : ∃ t, t = told x := ⟨_, rfl⟩
  obtain ⟨v, hv⟩ : ∃ v, v = word t := ⟨_, rfl⟩
  obtain ⟨e, he⟩ : ∃ e, e = hErr t := ⟨_, rfl⟩
  have WT := Lib.hid (fun w => HWord_any t v e hv he w)
  have a1 := and_int (a := (x.toNat : Int)) 8 (by omega) (by omega) 255 (by decide) (by omega)
  have a2 := and_int (a := (x.toNat : Int) / 256) 1 (by omega) (by omega) 1 (by decide) (by omega)
  have a3 := and_int (a := (x.toNat : Int) / 512) 7 (by omega) (by omega) 127 (by decide) (by omega)
  have a4 := and_int (a := (x.toNat : Int) / 65536) 16 (by omega) (by omega) 65535 (by decide) (by omega)
  rw [show ((2 ^ 8 : Nat) : Int) = 256 from rfl] at a1
  rw [show ((2 ^ 1 : Nat) : Int) = 2 from rfl] at a2
  rw [show ((2 ^ 7 : Nat) : Int) = 128 from rfl] at a3
  rw [show ((2 ^ 16 : Nat) : Int) = 65536 from rfl] at a4
  have i1 : IntKind.i64.wrap ((x.toNat : Int) % 256) = (x.toNat : Int) % 256 := IntWalk.i64_in _ (by omega)
  have i3 : IntKind.i64.wrap ((x.toNat : Int) / 512 % 128) = (x.toNat : Int) / 512 % 128 := IntWalk.i64_in _ (by omega)
  have i4 : IntKind.i64.wrap ((x.toNat : Int) / 65536 % 65536) = (x.toNat : Int) / 65536 % 65536 := IntWalk.i64_in _ (by omega)
  have t1 : (x.toNat : Int) % 256 = t.kind := by rw [ht]; rfl
  have t3 : (x.toNat : Int) / 512 % 128 = t.ty := by rw [ht]; rfl
  have t4 : (x.toNat : Int) / 65536 % 65536 = t.size := by rw [ht]; rfl
  have t2 : ((x.toNat : Int) / 256 % 2 == 1) = t.mark := by
    rw [ht, Bool.eq_iff_iff, beq_iff_eq]
    show _ ↔ decide (x.toNat / 256 % 2 = 1) = true
    rw [decide_eq_true_iff]; omega
  have t5 : t.at_ = 0 := by rw [ht]; rfl
  have t6 : t.next = 0 := by rw [ht]; rfl
  have hcase : (e = 0 ∧ v = x ∧ b = t ∧ r = 0) ∨ (e ≠ 0 ∧ b = .none ∧ r = 50) ∨ (e = 0 ∧ v ≠ x ∧ b = .none ∧ r = 50) := by
    by_cases hk : BkOk t
    · by_cases hw : v = x
      · have hd : HdOk x := ⟨by rw [← ht]; exact hk, by rw [← ht, ← hv]; exact hw⟩
        exact .inl ⟨by rw [he, hErr_ok hk], hw, by rw [hb, split_told hd, ht], by rw [hr, splE, if_pos hd]⟩
      · have hd : ¬ HdOk x := fun h => hw (by rw [hv, ht]; exact h.2)
        exact .inr (.inr ⟨by rw [he, hErr_ok hk], hw, by rw [hb, split, if_neg hd], by rw [hr, splE, if_neg hd]⟩)
    · have hd : ¬ HdOk x := fun h => hk (by rw [ht]; exact h.1)
      exact .inr (.inl ⟨by rw [he, hErr_no hk]; decide, by rw [hb, split, if_neg hd], by rw [hr, splE, if_neg hd]⟩)
  obtain ⟨at_, size, kind, ty, mark, next⟩ := t
  dsimp only at t1 t2 t3 t4 t5 t6
  subst t5; subst t6
  have q1 := a1.trans t1; have q3 := a3.trans t3; have q4 := a4.trans t4
  have j1 : IntKind.i64.wrap kind = kind := by rw [← t1]; exact i1
  have j3 : IntKind.i64.wrap ty = ty := by rw [← t3]; exact i3
  have j4 : IntKind.i64.wrap size = size := by rw [← t4]; exact i4
  have WT' : Hid (∀ w, Calls Try.prog 19 #[.agg #[.int .i64 0, .int .i64 size, .int .i64 kind, .int .i64 ty, .bool mark, .int .u64 0]] w fun e_1 w' => e_1 = .returned (.tuple #[.int .u64 v.toNat, .int .i64 e]) ∧ Below w.heap.size w w') := WT
  clear ht hv he hb hr WT a1 a3 a4 i1 i3 i4 t1 t3 t4
  go_enter Try.func129, Try.ntmps129
  go_upto_region 2 with (fail)
  refine wp_gen (fun Wv => Bx Wv (w.heap.size) (38) (#[.int .i64 0, .int .i64 0, .int .i64 0, .int .i64 0, .bool false, .int .u64 0]) ∧ Bx Wv (w.heap.size + 1) (38) (#[.int .i64 0, .int .i64 size, .int .i64 kind, .int .i64 ty, .bool mark, .int .u64 0]) ∧ Below w.heap.size w Wv) ⟨(((Bx.at_ (by simp)).alloc _)), ((Bx.at_ (by simp))), (((Below.refl _ w).alloc (by simp <;> omega) _).alloc (by simp <;> omega) _)⟩ ?_
  rintro wa1 ⟨g1, g2, b⟩
  replace B := B.trans (b.mono B.size); clear b
  have c_g1 := g1.cell; have f_g1 := g1.free; have a_g1 := fun o => (g1.alloc o).cell; have d_g1 := fun o o2 => ((g1.alloc o).alloc o2).cell; have e_g1 := fun o => (g1.alloc o).free
  have c_g2 := g2.cell; have f_g2 := g2.free; have a_g2 := fun o => (g2.alloc o).cell; have d_g2 := fun o o2 => ((g2.alloc o).alloc o2).cell; have e_g2 := fun o => (g2.alloc o).free
  go_wp2_with fail
  refine (WT'.out _).mono ?_
  rintro e wa2 ⟨rfl, b⟩
  try clear c_g1 f_g1 a_g1 d_g1 e_g1
  replace g1 := g1.below b; have c_g1 := g1.cell; have f_g1 := g1.free; have a_g1 := fun o => (g1.alloc o).cell; have d_g1 := fun o o2 => ((g1.alloc o).alloc o2).cell; have e_g1 := fun o => (g1.alloc o).free; try clear c_g2 f_g2 a_g2 d_g2 e_g2
  replace g2 := g2.below b; have c_g2 := g2.cell; have f_g2 := g2.free; have a_g2 := fun o => (g2.alloc o).cell; have d_g2 := fun o o2 => ((g2.alloc o).alloc o2).cell; have e_g2 := fun o => (g2.alloc o).free; replace B := B.trans (b.mono B.size); clear b
  rcases hcase with ⟨rfl, rfl, rfl, rfl⟩ | ⟨h1, rfl, rfl⟩ | ⟨rfl, h1, rfl, rfl⟩
  · go_wp2
    refine bodyPost_ret (v := .tuple #[.agg #[.int .i64 0, .int .i64 size, .int .i64 kind, .int .i64 ty, .bool mark, .int .u64 0], .int .i64 0]) (by simp [results, Try.results129, go_sem, c_g1, f_g1, a_g1, e_g1, c_g2, f_g2, a_g2, e_g2]) rfl ?_
    refine ⟨rfl, ?_⟩
    (repeat (first | refine Below.setCell ?_ (by first | exact Nat.le_refl _ | (simp <;> omega)) _ | refine Below.alloc ?_ (by first | exact B.size | (have := B.size; simp <;> omega)) _)); exact B
  · have n1 : (e != 0) = true := by rw [bne_iff_ne]; exact h1
    go_wp2
    refine bodyPost_ret (v := .tuple #[.agg #[.int .i64 0, .int .i64 0, .int .i64 0, .int .i64 0, .bool false, .int .u64 0], .int .i64 50]) (by simp [results, Try.results129, go_sem, c_g1, f_g1, a_g1, e_g1, c_g2, f_g2, a_g2, e_g2]) rfl ?_
    refine ⟨rfl, ?_⟩
    (repeat (first | refine Below.setCell ?_ (by first | exact Nat.le_refl _ | (simp <;> omega)) _ | refine Below.alloc ?_ (by first | exact B.size | (have := B.size; simp <;> omega)) _)); exact B
  · have n1 : ((v.toNat : Int) != (x.toNat : Int)) = true := by rw [bne_iff_ne]; intro e; exact h1 (UInt64.toNat.inj (by omega))
    go_wp2
    refine bodyPost_ret (v := .tuple #[.agg #[.int .i64 0, .int .i64 0, .int .i64 0, .int .i64 0, .bool false, .int .u64 0], .int .i64 50]) (by simp [results, Try.results129, go_sem, c_g1, f_g1, a_g1, e_g1, c_g2, f_g2, a_g2, e_g2]) rfl ?_
    refine ⟨rfl, ?_⟩
    (repeat (first | refine Below.setCell ?_ (by first | exact Nat.le_refl _ | (simp <;> omega)) _ | refine Below.alloc ?_ (by first | exact B.size | (have := B.size; simp <;> omega)) _)); exact B
end Go.Proofs.Ytbfmdbeeiicabaa
namespace Go.Proofs.Ytbfmdbeeiicabaa
open Go.RowKit L01 L02 L05 L14
set_option maxHeartbeats 1000000 in
theorem HCheckR_any (b : Hb) (r : Int) (hr : r = hErr b) (w : World) : Calls Try.prog 59 #[.agg #[.int .i64 b.at_, .int .i64 b.size, .int .i64 b.kind, .int .i64 b.ty, .bool b.mark, .int .u64 b.next.toNat]] w fun e w' => e = .returned (.int .i64 r) ∧ Below w.heap.size w w' := by
  have HB := Lib.hid hr; clear hr
  obtain ⟨at_, size, kind, ty, mark, next⟩ := b
  dsimp only at *
  cases mark
  all_goals
    go_enter Try.func59, Try.ntmps59
    go_wp2
    all_goals
      go_ret
      refine ⟨ret_int ?_, (Below.refl _ _).alloc (Nat.le_refl _) _⟩
      rw [HB.out]
      try simp only [Bool.not_eq_true', Bool.not_eq_false', decide_eq_true_eq, decide_eq_false_iff_not, beq_eq_false_iff_ne, beq_iff_eq, bne_iff_ne, bne_eq_false_iff_eq, ne_eq] at *
      first
      | exact (hErr_ok (by simp [BkOk, ObjB, FreeB]; try omega)).symm
      | exact (hErr_no (by simp [BkOk, ObjB, FreeB]; try omega)).symm
theorem val_mod (x f n : Nat) : val x f n = x / 2 ^ f % 2 ^ n := rfl
set_option maxRecDepth 100000 in
theorem PartR32_any (v : Value) (l : List UInt64) (r : Nat) (hr : r = (sum l).toNat % 4294967296) (hl : l.length ≤ 2048) (w : World) (h : Words w v l) :
    Calls Try.prog 112 #[v, .int .i64 32] w fun e w' => e = .returned (.int .u64 (r : Int)) ∧ Below w.heap.size w w' := by
  obtain ⟨S, hS⟩ : ∃ S, S = sum l := ⟨_, rfl⟩
  rw [← hS] at hr
  have hsl := toNat_lt S
  have VT := Lib.hid (fun w => Value_any S.toNat 0 32 r (by rw [hr, val_mod]; omega) w (by omega) (by omega) (by omega))
  have HO : Hid (∀ w, Words w v l → Calls Try.prog 137 #[v] w fun e w' => e = .returned (.int .u64 S.toNat) ∧ Below w.heap.size w w') := by
    rw [hS]; exact Lib.hid (fun w h => SumR_any v l w h (by omega))
  have B : Below w.heap.size w w := Below.refl _ _
  have H := Lib.hid h; clear h hr hS
  go_enter Try.func112, Try.ntmps112
  go_wp2_with fail
  refine (HO.out _ (H.out.below B)).mono ?_
  rintro e wa1 ⟨rfl, b⟩
  replace B := B.trans (b.mono B.size); clear b
  go_wp2_with fail
  refine (VT.out _).mono ?_
  rintro e w' ⟨rfl, rfl⟩
  go_wp2
  go_ret
  exact ⟨rfl, B⟩
theorem wth_plain {w f k v : Nat} (hw : w < 2 ^ f) (hv : v < 2 ^ k) : wth w f k v = w + v * 2 ^ f := by
  have h1 : w < 2 ^ (f + k) := Nat.lt_of_lt_of_le hw (Nat.pow_le_pow_right (by omega) (by omega))
  rw [wth, Nat.div_eq_of_lt h1, Nat.mod_eq_of_lt hw, Nat.mod_eq_of_lt hv]; omega
set_option maxRecDepth 100000 in
set_option maxHeartbeats 1000000 in
theorem WordHR_any (b : Hb) (hb : BkOk b) (v : UInt64) (hv : v = word b) (w : World) :
    Calls Try.prog 73 #[.int .i64 b.kind, .bool b.mark, .int .i64 b.ty, .int .i64 b.size] w fun e w' => e = .returned (.int .u64 v.toNat) ∧ Below w.heap.size w w' := by
  have B : Below w.heap.size w w := Below.refl _ _
  obtain ⟨h1, h2, h3, h4, h5, h6⟩ := hb.bounds
  have hn := word_nat hb
  rw [← hv] at hn
  have hlt := lowN_lt hb
  obtain ⟨lw, hlw⟩ : ∃ lw, lw = lowN b := ⟨_, rfl⟩
  rw [wordN, ← hlw] at hn
  rw [← hlw] at hlt
  obtain ⟨x, hx⟩ : ∃ x : UInt64, x = UInt64.ofNat lw := ⟨_, rfl⟩
  have hxn : x.toNat = lw := by rw [hx, UInt64.toNat_ofNat', Nat.mod_eq_of_lt (by omega)]
  rw [← hx] at hn
  obtain ⟨p, hp⟩ : ∃ p, p = partN x := ⟨_, rfl⟩
  have hpl : p < 4294967296 := by rw [hp]; exact part_lt x
  rw [← hp] at hn
  have PT := Lib.hid (fun v w h => PartR32_any v [x] p hp (by simp) w h)
  obtain ⟨at_, size, kind, ty, mark, next⟩ := b
  dsimp only at *
  obtain ⟨S, rfl⟩ := Int.eq_ofNat_of_zero_le (show 0 ≤ size by omega)
  obtain ⟨K, rfl⟩ := Int.eq_ofNat_of_zero_le (show 0 ≤ kind by omega)
  obtain ⟨T, rfl⟩ := Int.eq_ofNat_of_zero_le h5
  have w1 : IntKind.u64.wrap (K : Int) = K := by rw [wrap_u64]; omega
  have w2 : IntKind.u64.wrap (T : Int) = T := by rw [wrap_u64]; omega
  have w3 : IntKind.u64.wrap (S : Int) = S := by rw [wrap_u64]; omega
  have hw5 : v.toNat = wth lw 32 32 p := by rw [wth_plain (by omega) (by omega), hn]
  have A5 := Lib.hid (fun w => With_any lw 32 32 p v.toNat hw5 w (by omega) (by omega) (by omega) (by omega))
  have A1 := Lib.hid (fun w => With_any 0 0 8 K K (by rw [wth_plain (by omega) (by omega)]; omega) w (by omega) (by omega) (by omega) (by omega))
  clear hv hb hn hx hp hw5
  cases mark
  · have e3 : lw = K + T * 512 + S * 65536 := by rw [hlw, lowN, mk1]; simp
    have A3 := Lib.hid (fun w => With_any K 9 7 T (K + T * 512) (by rw [wth_plain (by omega) (by omega)]) w (by omega) (by omega) (by omega) (by omega))
    have A4 := Lib.hid (fun w => With_any (K + T * 512) 16 16 S lw (by rw [wth_plain (by omega) (by omega), e3]) w (by omega) (by omega) (by omega) (by omega))
    have HX := Lib.hid hxn
    clear hlw e3 hxn
    go_enter Try.func73, Try.ntmps73
    go_wp2_with fail
    refine (A1.out _).mono ?_
    rintro e w' ⟨rfl, rfl⟩
    go_wp2_with fail
    refine (A3.out _).mono ?_
    rintro e w' ⟨rfl, rfl⟩
    go_wp2_with fail
    refine (A4.out _).mono ?_
    rintro e w' ⟨rfl, rfl⟩
    go_wp2_with fail
    refine (PT.out _ _ (by rw [← HX.out]; exact lit_one x rfl)).mono ?_
    rintro e w' ⟨rfl, b⟩
    replace B := (B.alloc B.size _).trans (b.mono (by simp))
    go_wp2_with fail
    refine (A5.out _).mono ?_
    rintro e w' ⟨rfl, rfl⟩
    go_wp2
    go_ret
    exact ⟨rfl, B⟩
  · have e3 : lw = K + 256 + T * 512 + S * 65536 := by rw [hlw, lowN, mk1]; simp
    have A2 := Lib.hid (fun w => With_any K 8 1 1 (K + 256) (by rw [wth_plain (by omega) (by omega)]) w (by omega) (by omega) (by omega) (by omega))
    have A3 := Lib.hid (fun w => With_any (K + 256) 9 7 T (K + 256 + T * 512) (by rw [wth_plain (by omega) (by omega)]) w (by omega) (by omega) (by omega) (by omega))
    have A4 := Lib.hid (fun w => With_any (K + 256 + T * 512) 16 16 S lw (by rw [wth_plain (by omega) (by omega), e3]) w (by omega) (by omega) (by omega) (by omega))
    have HX := Lib.hid hxn
    clear hlw e3 hxn
    go_enter Try.func73, Try.ntmps73
    go_wp2_with fail
    refine (A1.out _).mono ?_
    rintro e w' ⟨rfl, rfl⟩
    go_wp2_with fail
    refine (A2.out _).mono ?_
    rintro e w' ⟨rfl, rfl⟩
    go_wp2_with fail
    refine (A3.out _).mono ?_
    rintro e w' ⟨rfl, rfl⟩
    go_wp2_with fail
    refine (A4.out _).mono ?_
    rintro e w' ⟨rfl, rfl⟩
    go_wp2_with fail
    refine (PT.out _ _ (by rw [← HX.out]; exact lit_one x rfl)).mono ?_
    rintro e w' ⟨rfl, b⟩
    replace B := (B.alloc B.size _).trans (b.mono (by simp))
    go_wp2_with fail
    refine (A5.out _).mono ?_
    rintro e w' ⟨rfl, rfl⟩
    go_wp2
    go_ret
    exact ⟨rfl, B⟩
set_option maxRecDepth 100000 in
theorem OfHR_any (b : Hb) (hb : BkOk b) (v : UInt64) (hv : v = word b) (w : World) :
    Calls Try.prog 34 #[.agg #[.int .i64 b.at_, .int .i64 b.size, .int .i64 b.kind, .int .i64 b.ty, .bool b.mark, .int .u64 b.next.toNat]] w fun e w' => e = .returned (.int .u64 v.toNat) ∧ Below w.heap.size w w' := by
  have B : Below w.heap.size w w := Below.refl _ _
  have WT := Lib.hid (fun w => WordHR_any b hb v hv w)
  clear hb hv
  go_enter Try.func34, Try.ntmps34
  go_upto_region 1 with (fail)
  refine wp_gen (fun Wv => Bx Wv (w.heap.size) (38) (#[.int .i64 b.at_, .int .i64 b.size, .int .i64 b.kind, .int .i64 b.ty, .bool b.mark, .int .u64 b.next.toNat]) ∧ Below w.heap.size w Wv) ⟨((Bx.at_ (by simp))), ((Below.refl _ w).alloc (by simp <;> omega) _)⟩ ?_
  rintro wa1 ⟨g1, b⟩
  replace B := B.trans (b.mono B.size); clear b
  have c_g1 := g1.cell; have f_g1 := g1.free; have a_g1 := fun o => (g1.alloc o).cell; have d_g1 := fun o o2 => ((g1.alloc o).alloc o2).cell; have e_g1 := fun o => (g1.alloc o).free
  go_wp2_with fail
  refine (WT.out _).mono ?_
  rintro e wa2 ⟨rfl, b⟩
  try clear c_g1 f_g1 a_g1 d_g1 e_g1
  replace g1 := g1.below b; have c_g1 := g1.cell; have f_g1 := g1.free; have a_g1 := fun o => (g1.alloc o).cell; have d_g1 := fun o o2 => ((g1.alloc o).alloc o2).cell; have e_g1 := fun o => (g1.alloc o).free; replace B := B.trans (b.mono B.size); clear b
  go_wp2
  go_ret
  exact ⟨rfl, B⟩
set_option maxRecDepth 100000 in
set_option maxHeartbeats 1000000 in
theorem HSplitR_any (x : UInt64) (b : Hb) (r : Bool) (hb : b = split x) (hr : r = decide (HdOk x)) (w : World) :
    Calls Try.prog 153 #[.int .u64 x.toNat] w fun e w' => e = .returned (.tuple #[.agg #[.int .i64 b.at_, .int .i64 b.size, .int .i64 b.kind, .int .i64 b.ty, .bool b.mark, .int .u64 b.next.toNat], .bool r]) ∧ Below w.heap.size w w' := by
  have B : Below w.heap.size w w := Below.refl _ _
  have hxl := toNat_lt x
  obtain ⟨t, ht⟩ : ∃ t, t = told x := ⟨_, rfl⟩
  obtain ⟨v, hv⟩ : ∃ v, v = word t := ⟨_, rfl⟩
  obtain ⟨e, he⟩ : ∃ e, e = hErr t := ⟨_, rfl⟩
  obtain ⟨V1, hV1⟩ : ∃ V, V = x.toNat % 256 := ⟨_, rfl⟩
  obtain ⟨V2, hV2⟩ : ∃ V, V = x.toNat / 256 % 2 := ⟨_, rfl⟩
  obtain ⟨V3, hV3⟩ : ∃ V, V = x.toNat / 512 % 128 := ⟨_, rfl⟩
  obtain ⟨V4, hV4⟩ : ∃ V, V = x.toNat / 65536 % 65536 := ⟨_, rfl⟩
  have A1 := Lib.hid (fun w => Value_any x.toNat 0 8 V1 (by rw [val_mod, hV1]; omega) w (by omega) (by omega) (by omega))
  have A2 := Lib.hid (fun w => Value_any x.toNat 8 1 V2 (by rw [val_mod, hV2]) w (by omega) (by omega) (by omega))
  have A3 := Lib.hid (fun w => Value_any x.toNat 9 7 V3 (by rw [val_mod, hV3]) w (by omega) (by omega) (by omega))
  have A4 := Lib.hid (fun w => Value_any x.toNat 16 16 V4 (by rw [val_mod, hV4]) w (by omega) (by omega) (by omega))
  have CT := Lib.hid (fun w => HCheckR_any t e he w)
  have hcase : (e = 0 ∧ BkOk t ∧ v = x ∧ b = t ∧ r = true) ∨ (e ≠ 0 ∧ b = .none ∧ r = false) ∨ (e = 0 ∧ BkOk t ∧ v ≠ x ∧ b = .none ∧ r = false) := by
    by_cases hk : BkOk t
    · by_cases hw : v = x
      · have hd : HdOk x := ⟨by rw [← ht]; exact hk, by rw [← ht, ← hv]; exact hw⟩
        exact .inl ⟨by rw [he, hErr_ok hk], hk, hw, by rw [hb, split_told hd, ht], by rw [hr, decide_eq_true hd]⟩
      · have hd : ¬ HdOk x := fun h => hw (by rw [hv, ht]; exact h.2)
        exact .inr (.inr ⟨by rw [he, hErr_ok hk], hk, hw, by rw [hb, split, if_neg hd], by rw [hr, decide_eq_false hd]⟩)
    · have hd : ¬ HdOk x := fun h => hk (by rw [ht]; exact h.1)
      exact .inr (.inl ⟨by rw [he, hErr_no hk]; decide, by rw [hb, split, if_neg hd], by rw [hr, decide_eq_false hd]⟩)
  have OT := Lib.hid (fun hk w => OfHR_any t hk v hv w)
  have t1 : t.kind = (V1 : Int) := by rw [ht, hV1]; rfl
  have t3 : t.ty = (V3 : Int) := by rw [ht, hV3]; rfl
  have t4 : t.size = (V4 : Int) := by rw [ht, hV4]; rfl
  have t2 : ((V2 : Int) == 1) = t.mark := by
    rw [ht, Bool.eq_iff_iff, beq_iff_eq]
    show _ ↔ decide (x.toNat / 256 % 2 = 1) = true
    rw [decide_eq_true_iff]; omega
  have t5 : t.at_ = 0 := by rw [ht]; rfl
  have t6 : t.next = 0 := by rw [ht]; rfl
  have i1 : IntKind.i64.wrap (V1 : Int) = (V1 : Int) := IntWalk.i64_in _ (by omega)
  have i3 : IntKind.i64.wrap (V3 : Int) = (V3 : Int) := IntWalk.i64_in _ (by omega)
  have i4 : IntKind.i64.wrap (V4 : Int) = (V4 : Int) := IntWalk.i64_in _ (by omega)
  obtain ⟨at_, size, kind, ty, mark, next⟩ := t
  dsimp only at t1 t2 t3 t4 t5 t6
  subst t5; subst t6; subst t1; subst t3; subst t4
  have CT' : Hid (∀ w, Calls Try.prog 59 #[.agg #[.int .i64 0, .int .i64 V4, .int .i64 V1, .int .i64 V3, .bool mark, .int .u64 0]] w fun e_1 w' => e_1 = .returned (.int .i64 e) ∧ Below w.heap.size w w') := CT
  have OT' : Hid (BkOk ⟨0, V4, V1, V3, mark, 0⟩ → ∀ w, Calls Try.prog 34 #[.agg #[.int .i64 0, .int .i64 V4, .int .i64 V1, .int .i64 V3, .bool mark, .int .u64 0]] w fun e_1 w' => e_1 = .returned (.int .u64 v.toNat) ∧ Below w.heap.size w w') := OT
  clear ht hv he hb hr CT OT hV1 hV2 hV3 hV4
  go_enter Try.func153, Try.ntmps153
  go_wp2_with fail
  refine (A1.out _).mono ?_
  rintro e w' ⟨rfl, rfl⟩
  go_wp2_with fail
  refine (A2.out _).mono ?_
  rintro e w' ⟨rfl, rfl⟩
  go_wp2_with fail
  refine (A3.out _).mono ?_
  rintro e w' ⟨rfl, rfl⟩
  go_wp2_with fail
  refine (A4.out _).mono ?_
  rintro e w' ⟨rfl, rfl⟩
  go_upto_region 2 with (fail)
  refine wp_gen (fun Wv => Bx Wv (w.heap.size) (38) (#[.int .i64 0, .int .i64 0, .int .i64 0, .int .i64 0, .bool false, .int .u64 0]) ∧ Bx Wv (w.heap.size + 1) (38) (#[.int .i64 0, .int .i64 V4, .int .i64 V1, .int .i64 V3, .bool mark, .int .u64 0]) ∧ Below w.heap.size w Wv) ⟨(((Bx.at_ (by simp)).alloc _)), ((Bx.at_ (by simp))), (((Below.refl _ w).alloc (by simp <;> omega) _).alloc (by simp <;> omega) _)⟩ ?_
  rintro wa1 ⟨g1, g2, b⟩
  replace B := B.trans (b.mono B.size); clear b
  have c_g1 := g1.cell; have f_g1 := g1.free; have a_g1 := fun o => (g1.alloc o).cell; have d_g1 := fun o o2 => ((g1.alloc o).alloc o2).cell; have e_g1 := fun o => (g1.alloc o).free
  have c_g2 := g2.cell; have f_g2 := g2.free; have a_g2 := fun o => (g2.alloc o).cell; have d_g2 := fun o o2 => ((g2.alloc o).alloc o2).cell; have e_g2 := fun o => (g2.alloc o).free
  go_wp2_with fail
  refine (CT'.out _).mono ?_
  rintro e wa2 ⟨rfl, b⟩
  try clear c_g1 f_g1 a_g1 d_g1 e_g1
  replace g1 := g1.below b; have c_g1 := g1.cell; have f_g1 := g1.free; have a_g1 := fun o => (g1.alloc o).cell; have d_g1 := fun o o2 => ((g1.alloc o).alloc o2).cell; have e_g1 := fun o => (g1.alloc o).free; try clear c_g2 f_g2 a_g2 d_g2 e_g2
  replace g2 := g2.below b; have c_g2 := g2.cell; have f_g2 := g2.free; have a_g2 := fun o => (g2.alloc o).cell; have d_g2 := fun o o2 => ((g2.alloc o).alloc o2).cell; have e_g2 := fun o => (g2.alloc o).free; replace B := B.trans (b.mono B.size); clear b
  rcases hcase with ⟨rfl, hk, rfl, rfl, rfl⟩ | ⟨h1, rfl, rfl⟩ | ⟨rfl, hk, h1, rfl, rfl⟩
  · have HK := Lib.hid hk; clear hk
    go_wp2_with fail
    refine (OT'.out HK.out _).mono ?_
    rintro e wa3 ⟨rfl, b⟩
    try clear c_g1 f_g1 a_g1 d_g1 e_g1
    replace g1 := g1.below b; have c_g1 := g1.cell; have f_g1 := g1.free; have a_g1 := fun o => (g1.alloc o).cell; have d_g1 := fun o o2 => ((g1.alloc o).alloc o2).cell; have e_g1 := fun o => (g1.alloc o).free; try clear c_g2 f_g2 a_g2 d_g2 e_g2
    replace g2 := g2.below b; have c_g2 := g2.cell; have f_g2 := g2.free; have a_g2 := fun o => (g2.alloc o).cell; have d_g2 := fun o o2 => ((g2.alloc o).alloc o2).cell; have e_g2 := fun o => (g2.alloc o).free; replace B := B.trans (b.mono B.size); clear b
    go_wp2
    refine bodyPost_ret (v := .tuple #[.agg #[.int .i64 0, .int .i64 V4, .int .i64 V1, .int .i64 V3, .bool mark, .int .u64 0], .bool true]) (by simp [results, Try.results153, go_sem, c_g1, f_g1, a_g1, e_g1, c_g2, f_g2, a_g2, e_g2]) rfl ?_
    refine ⟨rfl, ?_⟩
    (repeat (first | refine Below.setCell ?_ (by first | exact Nat.le_refl _ | (simp <;> omega)) _ | refine Below.alloc ?_ (by first | exact B.size | (have := B.size; simp <;> omega)) _)); exact B
  · have n1 : (e != 0) = true := by rw [bne_iff_ne]; exact h1
    go_wp2
    refine bodyPost_ret (v := .tuple #[.agg #[.int .i64 0, .int .i64 0, .int .i64 0, .int .i64 0, .bool false, .int .u64 0], .bool false]) (by simp [results, Try.results153, go_sem, c_g1, f_g1, a_g1, e_g1, c_g2, f_g2, a_g2, e_g2]) rfl ?_
    refine ⟨rfl, ?_⟩
    (repeat (first | refine Below.setCell ?_ (by first | exact Nat.le_refl _ | (simp <;> omega)) _ | refine Below.alloc ?_ (by first | exact B.size | (have := B.size; simp <;> omega)) _)); exact B
  · have n1 : ((v.toNat : Int) != (x.toNat : Int)) = true := by rw [bne_iff_ne]; intro e; exact h1 (UInt64.toNat.inj (by omega))
    have HK := Lib.hid hk; clear hk
    go_wp2_with fail
    refine (OT'.out HK.out _).mono ?_
    rintro e wa4 ⟨rfl, b⟩
    try clear c_g1 f_g1 a_g1 d_g1 e_g1
    replace g1 := g1.below b; have c_g1 := g1.cell; have f_g1 := g1.free; have a_g1 := fun o => (g1.alloc o).cell; have d_g1 := fun o o2 => ((g1.alloc o).alloc o2).cell; have e_g1 := fun o => (g1.alloc o).free; try clear c_g2 f_g2 a_g2 d_g2 e_g2
    replace g2 := g2.below b; have c_g2 := g2.cell; have f_g2 := g2.free; have a_g2 := fun o => (g2.alloc o).cell; have d_g2 := fun o o2 => ((g2.alloc o).alloc o2).cell; have e_g2 := fun o => (g2.alloc o).free; replace B := B.trans (b.mono B.size); clear b
    go_wp2
    refine bodyPost_ret (v := .tuple #[.agg #[.int .i64 0, .int .i64 0, .int .i64 0, .int .i64 0, .bool false, .int .u64 0], .bool false]) (by simp [results, Try.results153, go_sem, c_g1, f_g1, a_g1, e_g1, c_g2, f_g2, a_g2, e_g2]) rfl ?_
    refine ⟨rfl, ?_⟩
    (repeat (first | refine Below.setCell ?_ (by first | exact Nat.le_refl _ | (simp <;> omega)) _ | refine Below.alloc ?_ (by first | exact B.size | (have := B.size; simp <;> omega)) _)); exact B
end Go.Proofs.Ytbfmdbeeiicabaa
namespace Go.Proofs.Ytbfmdbeeiicabaa.L15
open L02 L14
/-- the block that stands at an address -/
def stand (l : List UInt64) (k : Nat) : Hb := { split (l.getD k 0) with at_ := k, next := l.getD (k + 1) 0 }
def StOk (l : List UInt64) (k : Nat) : Prop := HdOk (l.getD k 0) ∧ (k : Int) + (split (l.getD k 0)).size ≤ l.length
instance (l : List UInt64) (k : Nat) : Decidable (StOk l k) := inferInstanceAs (Decidable (_ ∧ _))
def szN (l : List UInt64) (k : Nat) : Nat := (split (l.getD k 0)).size.toNat
/-- the blocks from an address on, in at most f steps -/
def fromF (l : List UInt64) : Nat → Nat → Option (List Hb)
  | 0, k => if k = l.length then some [] else none
  | f + 1, k => if k = l.length then some [] else if StOk l k then (fromF l f (k + szN l k)).map (stand l k :: ·) else none
def from_ (l : List UInt64) (k : Nat) : Option (List Hb) := fromF l (l.length - k) k
/-- two free extents side by side -/
def Adj : List Hb → Prop
  | a :: b :: L => (a.kind = 2 ∧ b.kind = 2) ∨ Adj (b :: L)
  | _ => False
instance adjDec : (L : List Hb) → Decidable (Adj L)
  | [] => inferInstanceAs (Decidable False)
  | [_] => inferInstanceAs (Decidable False)
  | a :: b :: L => by
    have := adjDec (b :: L)
    exact inferInstanceAs (Decidable ((a.kind = 2 ∧ b.kind = 2) ∨ Adj (b :: L)))
def parsed (l : List UInt64) : Option (List Hb) := match from_ l 128 with | some L => if Adj L then none else some L | none => none
def fromErr (l : List UInt64) (a : Int) : Int := if SizeOk l.length then (if 128 ≤ a ∧ a ≤ l.length ∧ a % 2 = 0 then (if (from_ l a.toNat).isSome then 0 else 50) else 2) else 8
def fromL (l : List UInt64) (a : Int) : List Hb := if fromErr l a = 0 then (from_ l a.toNat).getD [] else []
def allErr (l : List UInt64) : Int := if SizeOk l.length then (if (parsed l).isSome then 0 else 50) else 8
def allL (l : List UInt64) : List Hb := (if allErr l = 0 then (parsed l).getD [] else [])
theorem szN_ge {l : List UInt64} {k : Nat} (h : StOk l k) : 2 ≤ szN l k ∧ (szN l k : Int) = (split (l.getD k 0)).size ∧ szN l k % 2 = 0 ∧ k + szN l k ≤ l.length ∧ szN l k ≤ 1920 := by
  obtain ⟨h1, h2⟩ := h
  have := (split_ok h1).bounds
  unfold szN
  omega
theorem fromF_more {l : List UInt64} : ∀ (f k : Nat), l.length - k ≤ f → k ≤ l.length → fromF l f k = fromF l (l.length - k) k
  | 0, k, h, hk => by rw [show l.length - k = 0 by omega]
  | f + 1, k, h, hk => by
    by_cases hl : k = l.length
    · subst hl
      rw [Nat.sub_self, fromF, fromF, if_pos rfl, if_pos rfl]
    · obtain ⟨d, hd⟩ : ∃ d, l.length - k = d + 1 := ⟨l.length - k - 1, by omega⟩
      rw [hd, fromF, fromF, if_neg hl, if_neg hl]
      by_cases hs : StOk l k
      · rw [if_pos hs, if_pos hs]
        have hz := szN_ge hs
        rw [fromF_more f _ (by omega) hz.2.2.2.1, fromF_more d _ (by omega) hz.2.2.2.1]
      · rw [if_neg hs, if_neg hs]
termination_by f => f
theorem from_end {l : List UInt64} : from_ l l.length = some [] := by rw [from_, Nat.sub_self, fromF, if_pos rfl]
theorem from_no {l : List UInt64} {k : Nat} (hk : k < l.length) (h : ¬ StOk l k) : from_ l k = none := by
  obtain ⟨d, hd⟩ : ∃ d, l.length - k = d + 1 := ⟨l.length - k - 1, by omega⟩
  rw [from_, hd, fromF, if_neg (by omega), if_neg h]
theorem from_step {l : List UInt64} {k : Nat} (hk : k < l.length) (h : StOk l k) : from_ l k = (from_ l (k + szN l k)).map (stand l k :: ·) := by
  obtain ⟨d, hd⟩ : ∃ d, l.length - k = d + 1 := ⟨l.length - k - 1, by omega⟩
  have hz := szN_ge h
  rw [from_, hd, fromF, if_neg (by omega), if_pos h, fromF_more d _ (by omega) hz.2.2.2.1]; rfl
theorem from_past {l : List UInt64} {k : Nat} (hk : l.length < k) : from_ l k = none := by
  rw [from_, show l.length - k = 0 by omega, fromF, if_neg (by omega)]
/-- a chain of blocks: each one stands at the end of the one before -/
inductive Chain (l : List UInt64) : Nat → List Hb → Prop where
  | nil : Chain l l.length []
  | cons {k : Nat} {L : List Hb} : k < l.length → StOk l k → Chain l (k + szN l k) L → Chain l k (stand l k :: L)
theorem chain_of {l : List UInt64} : ∀ (n k : Nat) (L : List Hb), l.length - k ≤ n → from_ l k = some L → Chain l k L
  | n, k, L, hn, h => by
    by_cases hl : k = l.length
    · subst hl
      rw [from_end] at h; injection h with h; subst h; exact .nil
    · by_cases hk : k < l.length
      · by_cases hs : StOk l k
        · rw [from_step hk hs] at h
          have hz := szN_ge hs
          cases h2 : from_ l (k + szN l k) with
          | none => rw [h2] at h; cases h
          | some L' =>
            rw [h2] at h; injection h with h; subst h
            match n, hn with
            | n + 1, hn => exact .cons hk hs (chain_of n _ _ (by omega) h2)
            | 0, hn => omega
        · rw [from_no hk hs] at h; cases h
      · rw [from_past (by omega)] at h; cases h
termination_by n => n
theorem from_chain {l : List UInt64} {k : Nat} {L : List Hb} (h : Chain l k L) : from_ l k = some L := by
  induction h with
  | nil => exact from_end
  | cons hk hs _ ih => rw [from_step hk hs, ih]; rfl
theorem chain_iff {l : List UInt64} {k : Nat} {L : List Hb} : from_ l k = some L ↔ Chain l k L := ⟨chain_of _ _ _ (Nat.le_refl _), from_chain⟩
/-- all blocks of a chain -/
theorem chain_mem {l : List UInt64} {k : Nat} {L : List Hb} (h : Chain l k L) : ∀ b ∈ L, ∃ a : Nat, k ≤ a ∧ a < l.length ∧ StOk l a ∧ b = stand l a ∧ (k % 2 = 0 → a % 2 = 0) := by
  induction h with
  | nil => intro b hb; cases hb
  | cons hk hs hc ih =>
    intro b hb
    rcases List.mem_cons.1 hb with rfl | hb
    · exact ⟨_, Nat.le_refl _, hk, hs, rfl, id⟩
    · obtain ⟨a, h1, h2, h3, h4, h5⟩ := ih b hb
      have := szN_ge hs
      exact ⟨a, by omega, h2, h3, h4, fun h => h5 (by omega)⟩
theorem stand_ok {l : List UInt64} {k : Nat} (h : StOk l k) : BkOk (stand l k) := ok_bare.2 (split_ok h.1)
theorem stand_at (l : List UInt64) (k : Nat) : (stand l k).at_ = k := rfl
theorem stand_size {l : List UInt64} {k : Nat} (h : StOk l k) : (stand l k).size = szN l k := (szN_ge h).2.1.symm
theorem chain_len {l : List UInt64} {k : Nat} {L : List Hb} (h : Chain l k L) : 2 * L.length + k ≤ l.length := by
  induction h with
  | nil => simp
  | cons hk hs hc ih => have := szN_ge hs; simp only [List.length_cons]; omega
theorem parsed_ok {l : List UInt64} {L : List Hb} : parsed l = some L ↔ from_ l 128 = some L ∧ ¬ Adj L := by
  unfold parsed
  generalize from_ l 128 = x
  cases x with
  | none => simp
  | some M =>
    by_cases ha : Adj M
    · simp only [if_pos ha]
      refine ⟨fun e => (by cases e), fun h => ?_⟩
      obtain ⟨e, hn⟩ := h
      have := Option.some.inj e
      subst this
      exact absurd ha hn
    · simp only [if_neg ha]
      refine ⟨fun e => ?_, fun h => h.1⟩
      have := Option.some.inj e
      subst this
      exact ⟨rfl, ha⟩
theorem allErr_ok {l : List UInt64} (h : allErr l = 0) : SizeOk l.length ∧ parsed l = some (allL l) := by
  have h' := h
  unfold allErr at h
  split at h
  · split at h
    · rename_i h1 h2
      obtain ⟨L, hL⟩ := Option.isSome_iff_exists.1 h2
      exact ⟨h1, by simp only [allL, h', hL, if_true, Option.getD_some]⟩
    · omega
  · omega
theorem adj_iff : ∀ {L : List Hb}, Adj L ↔ ∃ (i : Nat) (a b : Hb), L[i]? = some a ∧ L[i + 1]? = some b ∧ a.kind = 2 ∧ b.kind = 2
  | [] => ⟨False.elim, fun ⟨_, _, _, h, _⟩ => by simp at h⟩
  | [x] => ⟨False.elim, fun ⟨i, _, _, _, h, _⟩ => by simp at h⟩
  | x :: y :: L => by
    rw [Adj, adj_iff (L := y :: L)]
    constructor
    · rintro (⟨h1, h2⟩ | ⟨i, a, b, h⟩)
      · exact ⟨0, x, y, rfl, rfl, h1, h2⟩
      · exact ⟨i + 1, a, b, h⟩
    · rintro ⟨i, a, b, h1, h2, h3, h4⟩
      rcases i with _ | i
      · simp at h1 h2; subst h1; subst h2; exact .inl ⟨h3, h4⟩
      · exact .inr ⟨i, a, b, h1, h2, h3, h4⟩
end Go.Proofs.Ytbfmdbeeiicabaa.L15
namespace Go.Proofs.Ytbfmdbeeiicabaa
open Go.RowKit L02 L14 L15
def bkL (b : Hb) : List Value := [.int .i64 b.at_, .int .i64 b.size, .int .i64 b.kind, .int .i64 b.ty, .bool b.mark, .int .u64 b.next.toNat]
def tabB (L : List Hb) : List Value := L.flatMap bkL
theorem tabB_len (L : List Hb) : (tabB L).length = L.length * 6 := by
  induction L with
  | nil => rfl
  | cons s L ih => rw [tabB, List.flatMap_cons, List.length_append, ← tabB, ih]; simp [bkL]; omega
theorem tabB_get : ∀ (L : List Hb) (k : Nat) (s : Hb), L[k]? = some s → ∀ i, i < 6 → (tabB L)[k * 6 + i]? = (bkL s)[i]?
  | [], _, _, h, _, _ => by cases h
  | t :: L, 0, s, h, i, hi => by
    simp at h; subst h
    rw [tabB, List.flatMap_cons, Nat.zero_mul, Nat.zero_add, List.getElem?_append_left (by simpa [bkL] using hi)]
  | t :: L, k + 1, s, h, i, hi => by
    rw [tabB, List.flatMap_cons, List.getElem?_append_right (by simp [bkL]; omega)]
    rw [show (k + 1) * 6 + i - (bkL t).length = k * 6 + i by simp [bkL]; omega]
    exact tabB_get L k s (by simpa using h) i hi
theorem bkL_one (s : Hb) : ∀ u ∈ bkL s, u.oneCell' = true := by
  intro u hu
  simp [bkL] at hu
  rcases hu with rfl | rfl | rfl | rfl | rfl | rfl <;> rfl
theorem tabB_snoc (L : List Hb) (s : Hb) : tabB L ++ bkL s = tabB (L ++ [s]) := by simp [tabB, List.flatMap_append]
theorem size_block : (Try.prog.info? 38).map (·.size) = some 6 := by kernel_rfl
theorem info_block : (Try.prog.info? 38).map (fun i => (i.zero, i.size, i.bytes)) = some (some (.agg #[.int .i64 0, .int .i64 0, .int .i64 0, .int .i64 0, .bool false, .int .u64 0]), 6, 48) := by kernel_rfl
/-- A slice of blocks. -/
def Blks (w : World) (v : Value) (L : List Hb) : Prop := Rd w 6 v L.length (tabB L)
def OwnK (w : World) (base : Nat) (v : Value) (L : List Hb) : Prop := w.ownsRow base 38 6 v L.length (tabB L)
theorem OwnK.rd {w : World} {base : Nat} {v : Value} {L : List Hb} (h : OwnK w base v L) : Blks w v L := Rd.of_own h
theorem Blks.below {w w' : World} {v : Value} {L : List Hb} (h : Blks w v L) (hb : Below w.heap.size w w') : Blks w' v L := Rd.below h hb
theorem OwnK.below {w w' : World} {base : Nat} {v : Value} {L : List Hb} (h : OwnK w base v L) (hb : Below w.heap.size w w') : OwnK w' base v L := own_below h hb
theorem OwnK.mono {w : World} {base base' : Nat} {v : Value} {L : List Hb} (h : OwnK w base v L) (hb : base' ≤ base) : OwnK w base' v L := own_mono h hb
theorem OwnK.nil (w : World) (base : Nat) : OwnK w base (.slice none 0 0) [] := World.ownsRow_nil w base _ 6
theorem Blks.nil (w : World) : Blks w (.slice none 0 0) [] := (OwnK.nil w 0).rd
theorem OwnK.of {w : World} {B n : Nat} {v : Value} {xs : List Value} {L : List Hb} (h : w.ownsRow B 38 6 v n xs) (hx : xs = tabB L) : OwnK w B v L := by
  subst hx
  have hn : n = L.length := by have := h.1; rw [tabB_len] at this; omega
  subst hn; exact h
theorem Blks.len {w : World} {v : Value} {L : List Hb} (h : Blks w v L) : ∀ ty W, (Builtin.len_ #[26] ty #[v]).run Try.prog W = .ok (.int .i64 (L.length : Int)) W := Rd.len h Try.underlying26
theorem Blks.len_le {w : World} {v : Value} {L : List Hb} (h : Blks w v L) : L.length ≤ 9223372036854775807 := Rd.len_le h
theorem Blks.form {w : World} {v : Value} {L : List Hb} (h : Blks w v L) : ∃ A c, v = .slice A L.length c := by
  obtain ⟨A, c, e, _⟩ := h; exact ⟨A, c, e⟩
theorem lit_block {w : World} {e : TypeId} {n : Nat} (s : Hb) (hn : w.heap.size = n) : Rd (w.alloc (.cells #[.int .i64 s.at_, .int .i64 s.size, .int .i64 s.kind, .int .i64 s.ty, .bool s.mark, .int .u64 s.next.toNat] e)) 6 (.slice (some ⟨n, 0, none⟩) 1 1) 1 (bkL s) := by
  subst hn; exact lit_rdK (n := 1) (sz := 6) rfl (by omega)
/-- a block of a slice -/
theorem Blks.at_ {w : World} {v : Value} {L : List Hb} (h : Blks w v L) {k : Nat} (hk : k < L.length) :
    ∃ b o s, (∀ W, (Instr.indexAt 26 v (.int .i64 (k : Int))).run Try.prog W = .ok (.pointer (some ⟨b, o, none⟩)) W) ∧ w.cell? ⟨b, o, none⟩ = some (.int .i64 s.at_) ∧ w.cell? ⟨b, o + 1, none⟩ = some (.int .i64 s.size) ∧ w.cell? ⟨b, o + 2, none⟩ = some (.int .i64 s.kind) ∧ w.cell? ⟨b, o + 3, none⟩ = some (.int .i64 s.ty) ∧ w.cell? ⟨b, o + 4, none⟩ = some (.bool s.mark) ∧ w.cell? ⟨b, o + 5, none⟩ = some (.int .u64 s.next.toNat) ∧ Hid (L[k]? = some s) ∧ b < w.heap.size := by
  have hix := fun W => Rd.ixN (P := Try.prog) h Try.underlying26 size_block hk W
  obtain ⟨b, o, c, rfl, hb, hc, hcell⟩ := Rd.form h (by omega)
  have hs : L[k]? = some L[k] := List.getElem?_eq_getElem hk
  have t0 := tabB_get L k _ hs 0 (by omega)
  have t1 := tabB_get L k _ hs 1 (by omega)
  have t2 := tabB_get L k _ hs 2 (by omega)
  have t3 := tabB_get L k _ hs 3 (by omega)
  have t4 := tabB_get L k _ hs 4 (by omega)
  have t5 := tabB_get L k _ hs 5 (by omega)
  exact ⟨b, o + k * 6, L[k], fun W => hix W, hcell _ _ t0, hcell _ _ t1, hcell _ _ t2, hcell _ _ t3, hcell _ _ t4, hcell _ _ t5, Lib.hid hs, hb⟩
end Go.Proofs.Ytbfmdbeeiicabaa
namespace Go.Proofs.Ytbfmdbeeiicabaa
open Go.RowKit L01 L02 L05 L14 L15
/-- the worlds of two stores into a block -/
def wsK (W : World) (g : Nat) (a : Int) (x : Nat) : Nat → World
  | 0 => W.drew
  | 1 => W.drew.setCell ⟨g, 0, none⟩ (.int .i64 a)
  | _ + 2 => (W.drew.setCell ⟨g, 0, none⟩ (.int .i64 a)).setCell ⟨g, 5, none⟩ (.int .u64 x)
theorem stOk_of {l : List UInt64} {k : Nat} {x : UInt64} (hx : l[k]? = some x) : StOk l k ↔ HdOk x ∧ (k : Int) + (split x).size ≤ l.length := by
  unfold StOk
  rw [show l.getD k 0 = x by rw [List.getD_eq_getElem?_getD, hx]; rfl]
set_option maxRecDepth 100000 in
set_option maxHeartbeats 2000000 in
theorem stands_any (v : Value) (l : List UInt64) (k : Nat) (b : Hb) (r : Int) (hk : k < l.length) (hb : b = if StOk l k then stand l k else .none) (hr : r = if StOk l k then 0 else 50) (w : World) (h : Words w v l) :
    Calls Try.prog 93 #[v, .int .i64 k] w fun e w' => e = .returned (.tuple #[.agg #[.int .i64 b.at_, .int .i64 b.size, .int .i64 b.kind, .int .i64 b.ty, .bool b.mark, .int .u64 b.next.toNat], .int .i64 r]) ∧ Below w.heap.size w w' := by
  have B : Below w.heap.size w w := Below.refl _ _
  have H := Lib.hid h
  have hlen := Rd.len_le h
  have lw := Rd.len h Try.underlying22
  obtain ⟨ad, x, ia, m0, hx⟩ := h.at_ (P := Try.prog) Try.underlying22 one_u64 hk
  obtain ⟨N, hN⟩ : ∃ N, N = l.length := ⟨_, rfl⟩
  rw [← hN] at lw hlen
  have hst := stOk_of hx.out
  obtain ⟨s, hs⟩ : ∃ s, s = split x := ⟨_, rfl⟩
  obtain ⟨z, hz⟩ : ∃ z, z = splE x := ⟨_, rfl⟩
  have ST := Lib.hid (fun w => HSplit_any x s z hs hz w)
  have hgk : l.getD k 0 = x := by rw [List.getD_eq_getElem?_getD, hx.out]; rfl
  by_cases hd : HdOk x
  · have hz0 : z = 0 := by rw [hz, splE, if_pos hd]
    subst hz0
    obtain ⟨s1, s2, s3, s4, s5, s6⟩ := (by rw [hs]; exact (split_ok hd).bounds : 2 ≤ s.size ∧ s.size % 2 = 0 ∧ s.size ≤ 1920 ∧ (s.kind = 1 ∨ s.kind = 2) ∧ 0 ≤ s.ty ∧ s.ty < 8)
    have hw : IntKind.i64.wrap ((N : Int) - (k : Int)) = (N : Int) - k := IntWalk.i64_in _ (by omega)
    by_cases hl : (k : Int) + s.size ≤ N
    · have hok : StOk l k := hst.2 ⟨hd, by rw [← hs, ← hN]; exact hl⟩
      obtain ⟨ad2, y, ia2, m1, hy⟩ := h.at_ (P := Try.prog) Try.underlying22 one_u64 (k := k + 1) (by omega)
      have hr0 : r = 0 := by rw [hr, if_pos hok]
      have hb0 : b = ⟨k, s.size, s.kind, s.ty, s.mark, y⟩ := by
        rw [hb, if_pos hok, stand, hgk, ← hs, show l.getD (k + 1) 0 = y by rw [List.getD_eq_getElem?_getD, hy.out]; rfl]
      have hw1 : IntKind.i64.wrap ((k : Int) + 1) = (k : Int) + 1 := IntWalk.i64_in _ (by omega)
      have ia3 : ∀ W, (Instr.indexAt 22 v (.int .i64 ((k : Int) + 1))).run Try.prog W = .ok (.pointer (some ad2)) W := ia2
      have n1 : ¬ ((N : Int) - k < s.size) := by omega
      have n2 : decide ((N : Int) - k < s.size) = false := decide_eq_false n1
      have hs0 : s.at_ = 0 := by rw [hs, split_told hd]; rfl
      have hs5 : s.next = 0 := by rw [hs, split_told hd]; rfl
      obtain ⟨sa, sz, sk, sty, sm, sn⟩ := s
      dsimp only at *
      subst hs0; subst hs5; subst hr0; subst hb0
      have ST' : Hid (∀ w, Calls Try.prog 129 #[.int .u64 x.toNat] w fun e w' => e = .returned (.tuple #[.agg #[.int .i64 0, .int .i64 sz, .int .i64 sk, .int .i64 sty, .bool sm, .int .u64 0], .int .i64 0]) ∧ Below w.heap.size w w') := ST
      have HK := Lib.hid (And.intro hk hN)
      have M0 := Lib.hid m1
      clear hst hs hz hgk hd hl hok hb hr hx hy h ST hk hN
      go_enter Try.func93, Try.ntmps93
      go_upto_region 1 with (fail)
      refine wp_gen (fun Wv => Bx Wv (w.heap.size) (38) (#[.int .i64 0, .int .i64 0, .int .i64 0, .int .i64 0, .bool false, .int .u64 0]) ∧ Below w.heap.size w Wv) ⟨((Bx.at_ (by simp))), ((Below.refl _ w).alloc (by simp <;> omega) _)⟩ ?_
      rintro wa1 ⟨g1, b⟩
      replace m0 := cell_later b m0; replace m1 := cell_later b m1; replace B := B.trans (b.mono B.size); clear b
      have c_g1 := g1.cell; have f_g1 := g1.free; have a_g1 := fun o => (g1.alloc o).cell; have d_g1 := fun o o2 => ((g1.alloc o).alloc o2).cell; have e_g1 := fun o => (g1.alloc o).free
      go_wp2_with fail
      refine (ST'.out _).mono ?_
      rintro e wa2 ⟨rfl, b⟩
      replace m0 := cell_later b m0; replace m1 := cell_later b m1; try clear c_g1 f_g1 a_g1 d_g1 e_g1
      replace g1 := g1.below b; have c_g1 := g1.cell; have f_g1 := g1.free; have a_g1 := fun o => (g1.alloc o).cell; have d_g1 := fun o o2 => ((g1.alloc o).alloc o2).cell; have e_g1 := fun o => (g1.alloc o).free; replace B := B.trans (b.mono B.size); clear b
      have hl1 : w.heap.size < wa2.heap.size := g1.lt
      go_upto_region 2 with (fail)
      refine wp_gen (fun Wv => Bx Wv (wa2.heap.size) (38) (#[.int .i64 0, .int .i64 sz, .int .i64 sk, .int .i64 sty, .bool sm, .int .u64 0]) ∧ Below wa2.heap.size wa2 Wv) ⟨((Bx.at_ (by simp))), ((Below.refl _ wa2).alloc (by simp <;> omega) _)⟩ ?_
      rintro wa3 ⟨g2, b⟩
      replace m0 := cell_later b m0; replace m1 := cell_later b m1; try clear c_g1 f_g1 a_g1 d_g1 e_g1
      replace g1 := g1.below b; have c_g1 := g1.cell; have f_g1 := g1.free; have a_g1 := fun o => (g1.alloc o).cell; have d_g1 := fun o o2 => ((g1.alloc o).alloc o2).cell; have e_g1 := fun o => (g1.alloc o).free; replace B := B.trans (b.mono B.size); clear b
      have c_g2 := g2.cell; have f_g2 := g2.free; have a_g2 := fun o => (g2.alloc o).cell; have d_g2 := fun o o2 => ((g2.alloc o).alloc o2).cell; have e_g2 := fun o => (g2.alloc o).free
      go_upto_region 4 with (fail)
      have hz2 := B.size
      have hp := g2.lt
      have k0 := g2.cell 0; have k5 := (g2.set (i := 0) (.int .i64 (k : Int))).cell 5; have kf := g2.free
      have ne : w.heap.size ≠ wa2.heap.size := by omega
      have A1 : ∀ d, d ≤ 2 → Bx (wsK wa3 wa2.heap.size k y.toNat d) w.heap.size 38 #[.int .i64 0, .int .i64 0, .int .i64 0, .int .i64 0, .bool false, .int .u64 0] := by
        intro d hd
        rcases d with _ | _ | d
        · exact g1
        · exact Bx.far (w := wa3.drew) g1 (p := ⟨wa2.heap.size, 0, none⟩) ne _
        · exact (Bx.far (w := wa3.drew) g1 (p := ⟨wa2.heap.size, 0, none⟩) ne _).far (p := ⟨wa2.heap.size, 5, none⟩) ne _
      have BW : ∀ d, d ≤ 2 → Below w.heap.size w (wsK wa3 wa2.heap.size k y.toNat d) := by
        intro d hd
        rcases d with _ | _ | d
        · exact B.drew
        · exact (B.drew).setCell (p := ⟨wa2.heap.size, 0, none⟩) (by show w.heap.size ≤ wa2.heap.size; omega) _
        · exact ((B.drew).setCell (p := ⟨wa2.heap.size, 0, none⟩) (by show w.heap.size ≤ wa2.heap.size; omega) _).setCell (p := ⟨wa2.heap.size, 5, none⟩) (by show w.heap.size ≤ wa2.heap.size; omega) _
      have BX : ∀ d, d ≤ 2 → Below wa3.heap.size wa3 (wsK wa3 wa2.heap.size k y.toNat d) → True := fun _ _ _ => trivial
      have M1 : ∀ d, d ≤ 2 → (wsK wa3 wa2.heap.size k y.toNat d).cell? ad2 = some (.int .u64 y.toNat) := by
        intro d hd
        exact cell_later (BW d hd) M0.out
      have G2 : Bx (wsK wa3 wa2.heap.size k y.toNat 2) wa2.heap.size 38 #[.int .i64 k, .int .i64 sz, .int .i64 sk, .int .i64 sty, .bool sm, .int .u64 y.toNat] :=
        ((Bx.set (w := wa3.drew) g2 (i := 0) (.int .i64 (k : Int))).set (i := 5) (.int .u64 y.toNat))
      have a1 := fun x : FXN (FL [7, 9] (wsK wa3 wa2.heap.size k y.toNat) 7 2) => (FL.all (ks := [7, 9]) (Ws := wsK wa3 wa2.heap.size k y.toNat) (p := fun V => V.cell? ad2 = some (.int .u64 y.toNat)) M1 x)
      have HX := Lib.hid (And.intro (A1 2 (by omega)) (And.intro G2 (BW 2 (by omega))))
      have s0 : wa3.cell? ⟨wa2.heap.size, 0, none⟩ = some (.int .i64 0) := g2.cell 0
      have s1 : ∀ i, wa3.frozen? ⟨wa2.heap.size, i, none⟩ = false := g2.free
      have s2 : (wa3.setCell ⟨wa2.heap.size, 0, none⟩ (.int .i64 k)).cell? ⟨wa2.heap.size, 5, none⟩ = some (.int .u64 0) := (g2.set (i := 0) (.int .i64 (k : Int))).cell 5
      clear A1 BW BX M1 G2 k0 k5 kf c_g1 f_g1 a_g1 d_g1 e_g1 c_g2 f_g2 a_g2 d_g2 e_g2 m0 m1
      haveI : Nonempty (FXN (FL [7, 9] (wsK wa3 wa2.heap.size k y.toNat) 7 2)) := ⟨⟨_, _, FL.start⟩⟩
      refine wp_region_N (FL [7, 9] (wsK wa3 wa2.heap.size k y.toNat) 7 2) [7, 7, 9] FL.dep (by kernel_rfl) (by kernel_rfl) (by kernel_rfl) FL.start ?_
      iterate 7 (refine wpN_read FL.dep rfl (by decide) ?_; go_big_quiet_step (fail); refine wpQuiet_nil ?_)
      refine wpN_storeD FL.dep rfl 3 (.tmp 34) (.tmp 28) rfl (by rfl) (p := .pointer (some ⟨wa2.heap.size, 0, none⟩)) (u := .int .i64 k) (by rfl) (by rfl) [] (by kernel_rfl) (fun f W' hF h0 h1 => ?_) ?_
      · obtain ⟨rfl, h2⟩ := FL.step (i := 0) rfl (by decide) hF h0 (by intro p hp; omega) (by omega)
        refine ⟨_, ?_, h2⟩
        simp [go_sem, wsK, s0, s1]
      simp only [Act.put, List.setIfInBounds_toArray, List.set_cons_zero, List.set_cons_succ]
      iterate 1 (refine wpN_read FL.dep rfl (by decide) ?_; go_big_quiet_step (fail); refine wpQuiet_nil ?_)
      refine wpN_storeD FL.dep rfl 34 (.tmp 35) (.tmp 33) rfl (by rfl) (p := .pointer (some ⟨wa2.heap.size, 5, none⟩)) (u := .int .u64 y.toNat) (by rfl) (by rfl) [7] (by kernel_rfl) (fun f W' hF h0 h1 => ?_) ?_
      · obtain ⟨rfl, h2⟩ := FL.step (i := 1) rfl (by decide) hF h0 (FL.prev rfl (h1 7 (by simp))) (by omega)
        refine ⟨_, ?_, h2⟩
        simp [go_sem, wsK, s2, s1]
      simp only [Act.put, List.setIfInBounds_toArray, List.set_cons_zero, List.set_cons_succ]
      show ∀ w', _ → _
      intro w' hw'
      obtain rfl := FL.done hw'
      clear a1 s0 s1 s2 hw'
      have hW : wsK wa3 wa2.heap.size k y.toNat ([7, 9] : List Nat).length = wsK wa3 wa2.heap.size k y.toNat 2 := rfl
      rw [hW]
      generalize wsK wa3 wa2.heap.size k y.toNat 2 = V at HX ⊢
      obtain ⟨g1, g2, B⟩ := HX.out
      have c_g1 := g1.cell; have c_g2 := g2.cell; have f_g1 := g1.free; have f_g2 := g2.free
      go_wp2
      refine bodyPost_ret (v := .tuple #[.agg #[.int .i64 k, .int .i64 sz, .int .i64 sk, .int .i64 sty, .bool sm, .int .u64 y.toNat], .int .i64 0]) (by simp [results, Try.results93, go_sem, c_g1, c_g2, f_g1, f_g2, ne]) rfl ?_
      refine ⟨rfl, ?_⟩
      (repeat (first | refine Below.setCell ?_ (by first | exact Nat.le_refl _ | (simp <;> omega)) _ | refine Below.alloc ?_ (by first | exact B.size | (have := B.size; simp <;> omega)) _)); exact B
    · have hno : ¬ StOk l k := fun h => hl (by have := (hst.1 h).2; rw [← hs, ← hN] at this; exact this)
      have hr0 : r = 50 := by rw [hr, if_neg hno]
      have hb0 : b = .none := by rw [hb, if_neg hno]
      have n1 : (N : Int) - k < s.size := by omega
      subst hr0; subst hb0
      clear hst hs hz hgk hd hl hno hb hr hx h hN hk
      go_enter Try.func93, Try.ntmps93
      go_upto_region 1 with (fail)
      refine wp_gen (fun Wv => Bx Wv (w.heap.size) (38) (#[.int .i64 0, .int .i64 0, .int .i64 0, .int .i64 0, .bool false, .int .u64 0]) ∧ Below w.heap.size w Wv) ⟨((Bx.at_ (by simp))), ((Below.refl _ w).alloc (by simp <;> omega) _)⟩ ?_
      rintro wa1 ⟨g1, b⟩
      replace m0 := cell_later b m0; replace B := B.trans (b.mono B.size); clear b
      have c_g1 := g1.cell; have f_g1 := g1.free; have a_g1 := fun o => (g1.alloc o).cell; have d_g1 := fun o o2 => ((g1.alloc o).alloc o2).cell; have e_g1 := fun o => (g1.alloc o).free
      go_wp2_with fail
      refine (ST.out _).mono ?_
      rintro e wa2 ⟨rfl, b⟩
      replace m0 := cell_later b m0; try clear c_g1 f_g1 a_g1 d_g1 e_g1
      replace g1 := g1.below b; have c_g1 := g1.cell; have f_g1 := g1.free; have a_g1 := fun o => (g1.alloc o).cell; have d_g1 := fun o o2 => ((g1.alloc o).alloc o2).cell; have e_g1 := fun o => (g1.alloc o).free; replace B := B.trans (b.mono B.size); clear b
      go_upto_region 2 with (fail)
      refine wp_gen (fun Wv => Bx Wv (wa2.heap.size) (38) (#[.int .i64 s.at_, .int .i64 s.size, .int .i64 s.kind, .int .i64 s.ty, .bool s.mark, .int .u64 s.next.toNat]) ∧ Below wa2.heap.size wa2 Wv) ⟨((Bx.at_ (by simp))), ((Below.refl _ wa2).alloc (by simp <;> omega) _)⟩ ?_
      rintro wa3 ⟨g2, b⟩
      replace m0 := cell_later b m0; try clear c_g1 f_g1 a_g1 d_g1 e_g1
      replace g1 := g1.below b; have c_g1 := g1.cell; have f_g1 := g1.free; have a_g1 := fun o => (g1.alloc o).cell; have d_g1 := fun o o2 => ((g1.alloc o).alloc o2).cell; have e_g1 := fun o => (g1.alloc o).free; replace B := B.trans (b.mono B.size); clear b
      have c_g2 := g2.cell; have f_g2 := g2.free; have a_g2 := fun o => (g2.alloc o).cell; have d_g2 := fun o o2 => ((g2.alloc o).alloc o2).cell; have e_g2 := fun o => (g2.alloc o).free
      go_wp2
      refine bodyPost_ret (v := .tuple #[.agg #[.int .i64 0, .int .i64 0, .int .i64 0, .int .i64 0, .bool false, .int .u64 0], .int .i64 50]) (by simp [results, Try.results93, go_sem, c_g1, f_g1, a_g1, e_g1, c_g2, f_g2, a_g2, e_g2]) rfl ?_
      refine ⟨rfl, ?_⟩
      (repeat (first | refine Below.setCell ?_ (by first | exact Nat.le_refl _ | (simp <;> omega)) _ | refine Below.alloc ?_ (by first | exact B.size | (have := B.size; simp <;> omega)) _)); exact B
  · have hz0 : z = 50 := by rw [hz, splE, if_neg hd]
    have hno : ¬ StOk l k := fun h => hd (hst.1 h).1
    have hr0 : r = 50 := by rw [hr, if_neg hno]
    have hb0 : b = .none := by rw [hb, if_neg hno]
    subst hr0; subst hb0; subst hz0
    clear hst hs hz hgk hd hno hb hr hx h hN hk
    go_enter Try.func93, Try.ntmps93
    go_upto_region 1 with (fail)
    refine wp_gen (fun Wv => Bx Wv (w.heap.size) (38) (#[.int .i64 0, .int .i64 0, .int .i64 0, .int .i64 0, .bool false, .int .u64 0]) ∧ Below w.heap.size w Wv) ⟨((Bx.at_ (by simp))), ((Below.refl _ w).alloc (by simp <;> omega) _)⟩ ?_
    rintro wa1 ⟨g1, b⟩
    replace m0 := cell_later b m0; replace B := B.trans (b.mono B.size); clear b
    have c_g1 := g1.cell; have f_g1 := g1.free; have a_g1 := fun o => (g1.alloc o).cell; have d_g1 := fun o o2 => ((g1.alloc o).alloc o2).cell; have e_g1 := fun o => (g1.alloc o).free
    go_wp2_with fail
    refine (ST.out _).mono ?_
    rintro e wa2 ⟨rfl, b⟩
    replace m0 := cell_later b m0; try clear c_g1 f_g1 a_g1 d_g1 e_g1
    replace g1 := g1.below b; have c_g1 := g1.cell; have f_g1 := g1.free; have a_g1 := fun o => (g1.alloc o).cell; have d_g1 := fun o o2 => ((g1.alloc o).alloc o2).cell; have e_g1 := fun o => (g1.alloc o).free; replace B := B.trans (b.mono B.size); clear b
    go_upto_region 2 with (fail)
    refine wp_gen (fun Wv => Bx Wv (wa2.heap.size) (38) (#[.int .i64 s.at_, .int .i64 s.size, .int .i64 s.kind, .int .i64 s.ty, .bool s.mark, .int .u64 s.next.toNat]) ∧ Below wa2.heap.size wa2 Wv) ⟨((Bx.at_ (by simp))), ((Below.refl _ wa2).alloc (by simp <;> omega) _)⟩ ?_
    rintro wa3 ⟨g2, b⟩
    replace m0 := cell_later b m0; try clear c_g1 f_g1 a_g1 d_g1 e_g1
    replace g1 := g1.below b; have c_g1 := g1.cell; have f_g1 := g1.free; have a_g1 := fun o => (g1.alloc o).cell; have d_g1 := fun o o2 => ((g1.alloc o).alloc o2).cell; have e_g1 := fun o => (g1.alloc o).free; replace B := B.trans (b.mono B.size); clear b
    have c_g2 := g2.cell; have f_g2 := g2.free; have a_g2 := fun o => (g2.alloc o).cell; have d_g2 := fun o o2 => ((g2.alloc o).alloc o2).cell; have e_g2 := fun o => (g2.alloc o).free
    go_wp2
    refine bodyPost_ret (v := .tuple #[.agg #[.int .i64 0, .int .i64 0, .int .i64 0, .int .i64 0, .bool false, .int .u64 0], .int .i64 50]) (by simp [results, Try.results93, go_sem, c_g1, f_g1, a_g1, e_g1, c_g2, f_g2, a_g2, e_g2]) rfl ?_
    refine ⟨rfl, ?_⟩
    (repeat (first | refine Below.setCell ?_ (by first | exact Nat.le_refl _ | (simp <;> omega)) _ | refine Below.alloc ?_ (by first | exact B.size | (have := B.size; simp <;> omega)) _)); exact B
end Go.Proofs.Ytbfmdbeeiicabaa
namespace Go.Proofs.Ytbfmdbeeiicabaa
open Go.RowKit L01 L02 L05 L14 L15
theorem map_append_cons {o : Option (List Hb)} {L0 : List Hb} {b : Hb} : (o.map (b :: ·)).map (L0 ++ ·) = o.map ((L0 ++ [b]) ++ ·) := by
  cases o <;> simp
set_option maxRecDepth 100000 in
set_option maxHeartbeats 2000000 in
theorem From_any (v : Value) (l : List UInt64) (a : Int) (L : List Hb) (r : Int) (hL : L = fromL l a) (hr : r = fromErr l a) (w : World) (h : Words w v l) :
    Calls Try.prog 51 #[v, .int .i64 a] w fun e w' => ∃ x, e = .returned (.tuple #[x, .int .i64 r]) ∧ OwnK w' w.heap.size x L ∧ Below w.heap.size w w' := by
  have B : Below w.heap.size w w := Below.refl _ _
  have H := Lib.hid h
  have hlen := Rd.len_le h
  have lw := Rd.len h Try.underlying22
  obtain ⟨c, hc⟩ : ∃ c, c = chk l := ⟨_, rfl⟩
  have CT : Hid (∀ w, Words w v l → Calls Try.prog 55 #[v] w fun e w' => e = .returned (.int .i64 c) ∧ w = w') := by rw [hc]; exact Lib.hid (fun w h => Check_any v l w h)
  by_cases hs : SizeOk l.length
  case neg =>
    have hr0 : r = 8 := by rw [hr, fromErr, if_neg hs]
    have hL0 : L = [] := by rw [hL, fromL, ← hr, hr0]; rfl
    have hc8 : c = 8 := by rw [hc, chk_no hs]
    subst hr0; subst hL0; subst hc8
    clear hr hL hs hc h lw hlen
    go_enter Try.func51, Try.ntmps51
    go_wp2_with fail
    refine (CT.out _ (H.out.below B)).mono ?_
    rintro e w' ⟨rfl, rfl⟩
    go_wp2
    go_ret2
    exact ⟨_, rfl, OwnK.nil _ _, B⟩
  case pos =>
    have hc0 : c = 0 := by rw [hc, chk_ok hs]
    subst hc0
    obtain ⟨N, hN⟩ : ∃ N, N = l.length := ⟨_, rfl⟩
    rw [← hN] at lw hlen
    have hs2 := hs
    rw [← hN] at hs2
    obtain ⟨hn1, hn2, hn3⟩ := hs2
    by_cases hin : 128 ≤ a ∧ a ≤ N ∧ a % 2 = 0
    case neg =>
      have hr0 : r = 2 := by rw [hr, fromErr, if_pos hs, if_neg (by rw [← hN]; exact hin)]
      have hL0 : L = [] := by rw [hL, fromL, ← hr, hr0]; rfl
      subst hr0; subst hL0
      have hcase : a < 128 ∨ (128 ≤ a ∧ (N : Int) < a) ∨ (128 ≤ a ∧ a ≤ (N : Int) ∧ (a % 2 != 0) = true) := by
        by_cases h1 : a < 128
        · exact .inl h1
        · by_cases h2 : (N : Int) < a
          · exact .inr (.inl ⟨by omega, h2⟩)
          · exact .inr (.inr ⟨by omega, by omega, by rw [bne_iff_ne]; omega⟩)
      clear hr hL hs hc h hin hN
      rcases hcase with h1 | ⟨h0, h1⟩ | ⟨h0, h1, h2⟩
      all_goals
        go_enter Try.func51, Try.ntmps51
        go_wp2_with fail
        refine (CT.out _ (H.out.below B)).mono ?_
        rintro e w' ⟨rfl, rfl⟩
        go_wp2
        go_ret2
        exact ⟨_, rfl, OwnK.nil _ _, B⟩
    case pos =>
      obtain ⟨h1, h2, h3⟩ := hin
      obtain ⟨k, rfl⟩ := Int.eq_ofNat_of_zero_le (show 0 ≤ a by omega)
      have hre : r = if (from_ l k).isSome then 0 else 50 := by rw [hr, fromErr, if_pos hs, if_pos (by rw [← hN]; exact ⟨h1, h2, h3⟩), Int.toNat_natCast]
      have hLe : L = (from_ l k).getD [] := by
        rw [hL, fromL, ← hr, hre, Int.toNat_natCast]
        cases from_ l k with
        | none => rfl
        | some M => rfl
      have n1 : ¬ (k : Int) < 128 := by omega
      have n2 : ¬ (N : Int) < (k : Int) := by omega
      have n4 : decide ((k : Int) < 128) = false := decide_eq_false n1
      have n5 : decide (N < k) = false := decide_eq_false (by omega)
      have n6 : ¬ N < k := by omega
      have n3 : (k : Int).tmod 2 = 0 := by rw [Int.tmod_eq_emod_of_nonneg (by omega)]; omega
      have HR := Lib.hid (And.intro hre hLe); have HN := Lib.hid hN
      have hkN : k ≤ N := by omega
      clear hr hL hs hc h hre hLe h1 h2 h3 hN
      go_enter Try.func51, Try.ntmps51
      go_wp2_with fail
      refine (CT.out _ (H.out.below B)).mono ?_
      rintro e w' ⟨rfl, rfl⟩
      go_wp2
      have HB := Lib.hid B; clear B
      go_loopg [1, 7] (N - k) (fun g i xv wr => ∃ (q : Nat) (L0 : List Hb), q ≤ N ∧ g = N - q ∧ i = .int .i64 q ∧ Hid (OwnK wr w.heap.size xv L0 ∧ from_ l k = (from_ l q).map (L0 ++ ·) ∧ 2 * L0.length ≤ q ∧ Below w.heap.size w wr))
      case atStart => exact ⟨k, [], hkN, rfl, rfl, Lib.hid ⟨OwnK.nil _ _, by cases from_ l k <;> rfl, by simp, HB.out⟩⟩
      case round =>
        obtain ⟨q, L0, hq, rfl, rfl, hh⟩ := hrel
        clear HB
        by_cases hlt : q < N
        · by_cases hso : StOk l q
          · obtain ⟨b, hb⟩ : ∃ b, b = stand l q := ⟨_, rfl⟩
            have ST := Lib.hid (fun w h => stands_any v l q b 0 (by rw [← HN.out]; exact hlt) (by rw [if_pos hso, hb]) (by rw [if_pos hso]) w h)
            have hsz := szN_ge hso
            have hbs : b.size = (szN l q : Int) := by rw [hb]; exact stand_size hso
            have hst := from_step (by rw [← HN.out]; exact hlt) hso
            rw [← hb] at hst
            obtain ⟨z, hz⟩ : ∃ z, z = szN l q := ⟨_, rfl⟩
            rw [← hz] at hsz hbs hst
            rw [← HN.out] at hsz
            obtain ⟨hz1, -, -, hz4, -⟩ := hsz
            have o1 := hh.out.1
            have B := hh.out.2.2.2
            have hl0 := hh.out.2.2.1
            have hfr := hh.out.2.1
            rw [hst, map_append_cons] at hfr
            have HF := Lib.hid hfr
            have hB0 := B.size
            have hwq : IntKind.i64.wrap ((q : Int) + b.size) = ((q + z : Nat) : Int) := by rw [hbs, show ((q + z : Nat) : Int) = (q : Int) + z by omega]; exact IntWalk.i64_in _ (by omega)
            have HZ := Lib.hid (And.intro hz1 hz4)
            clear hb hst hfr hz hbs hso
            go_wp2_with fail
            refine (ST.out _ (H.out.below B)).mono ?_
            rintro e wa1 ⟨rfl, b⟩
            replace o1 := o1.below b; replace B := B.trans (b.mono B.size); clear b
            have hne := own_fresh o1
            go_upto_region 9 with (fail)
            refine wp_gen (fun Wv => Bx Wv (wa1.heap.size) (38) (#[.int .i64 b.at_, .int .i64 b.size, .int .i64 b.kind, .int .i64 b.ty, .bool b.mark, .int .u64 b.next.toNat]) ∧ Below wa1.heap.size wa1 Wv) ⟨((Bx.at_ (by simp))), ((Below.refl _ wa1).alloc (by simp <;> omega) _)⟩ ?_
            rintro wa2 ⟨g2, b⟩
            replace o1 := o1.below b; replace B := B.trans (b.mono B.size); clear b
            have c_g2 := g2.cell; have f_g2 := g2.free; have a_g2 := fun o => (g2.alloc o).cell; have d_g2 := fun o o2 => ((g2.alloc o).alloc o2).cell; have e_g2 := fun o => (g2.alloc o).free
            clear f_g2 a_g2 d_g2 e_g2
            go_wp2_with (at_builtin; refine wpList_append (by rfl) rfl rfl rfl Try.underlying26 info_block rfl (by omega) (by exact own_below o1 ((Below.refl _ _).alloc (Nat.le_refl _) _)) (by exact lit_block b (by simp)) (bkL_one b) (by omega) (by omega) (by exact B.alloc B.size _) (Nat.le_refl _) ?_; intro v1 w3 o3 B3 g3; have c_4 := ((g2.alloc _).grown g3 hne).cell; clear c_g2)
            have o4 : OwnK w3 w.heap.size v1 (L0 ++ [b]) := OwnK.of o3 (tabB_snoc L0 b)
            have HO := Lib.hid (And.intro o4 B3)
            go_roundg (N - (q + z))
            case measure => have := HZ.out.1; omega
            case rel => exact ⟨q + z, L0 ++ [b], by have := HZ.out.2; omega, rfl, rfl, Lib.hid ⟨HO.out.1, HF.out, by have := HZ.out.1; simp only [List.length_append, List.length_cons, List.length_nil]; omega, HO.out.2⟩⟩
          · have ST := Lib.hid (fun w h => stands_any v l q .none 50 (by rw [← HN.out]; exact hlt) (by rw [if_neg hso]) (by rw [if_neg hso]) w h)
            have hno := from_no (by rw [← HN.out]; exact hlt) hso
            have hfr := hh.out.2.1
            rw [hno] at hfr
            have hr0 : r = 50 := by rw [HR.out.1, hfr]; rfl
            have hL0 : L = [] := by rw [HR.out.2, hfr]; rfl
            subst hr0; subst hL0
            have B := hh.out.2.2.2
            clear hso hno hfr
            go_wp2_with fail
            refine (ST.out _ (H.out.below B)).mono ?_
            rintro e wa3 ⟨rfl, b⟩
            replace B := B.trans (b.mono B.size); clear b
            go_wp2
            go_ret2
            refine ⟨_, rfl, OwnK.nil _ _, ?_⟩
            (repeat (first | refine Below.setCell ?_ (by first | exact Nat.le_refl _ | (simp <;> omega)) _ | refine Below.alloc ?_ (by first | exact B.size | (have := B.size; simp <;> omega)) _)); exact B
        · obtain rfl : q = N := by omega
          have hfr := hh.out.2.1
          rw [show from_ l q = some [] by rw [HN.out]; exact from_end] at hfr
          have hr0 : r = 0 := by rw [HR.out.1, hfr]; rfl
          have hL0 : L = L0 := by rw [HR.out.2, hfr]; simp
          subst hr0; subst hL0
          have o1 := hh.out.1
          have B := hh.out.2.2.2
          clear hfr
          go_wp2
          go_ret2
          exact ⟨_, rfl, o1, B⟩
end Go.Proofs.Ytbfmdbeeiicabaa
namespace Go.Proofs.Ytbfmdbeeiicabaa
open Go.RowKit L01 L02 L05 L14 L15
/-- no two free extents side by side among the first j blocks -/
def NoAdj (L : List Hb) (j : Nat) : Prop := ∀ (i : Nat) (a b : Hb), i + 1 < j → L[i]? = some a → L[i + 1]? = some b → ¬ (a.kind = 2 ∧ b.kind = 2)
theorem noAdj_all {L : List Hb} (h : NoAdj L L.length) : ¬ Adj L := fun ha => by
  obtain ⟨i, a, b, h1, h2, h3, h4⟩ := adj_iff.1 ha
  exact h i a b (List.getElem?_eq_some_iff.1 h2).1 h1 h2 ⟨h3, h4⟩
theorem noAdj_step {L : List Hb} {j : Nat} (h : NoAdj L j) (h2 : ∀ (i : Nat) (a b : Hb), j = i + 1 → L[i]? = some a → L[i + 1]? = some b → ¬ (a.kind = 2 ∧ b.kind = 2)) : NoAdj L (j + 1) := fun i a b hi h3 h4 => by
  by_cases e : i + 1 = j
  · exact h2 i a b e.symm h3 h4
  · exact h i a b (by omega) h3 h4
theorem adj_at {L : List Hb} {i : Nat} {a b : Hb} (h1 : L[i]? = some a) (h2 : L[i + 1]? = some b) (h3 : a.kind = 2) (h4 : b.kind = 2) : Adj L := adj_iff.2 ⟨i, a, b, h1, h2, h3, h4⟩
theorem from128 {l : List UInt64} (hs : SizeOk l.length) : fromErr l 128 = if (from_ l 128).isSome then 0 else 50 := by
  have e : (128 : Int).toNat = 128 := rfl
  rw [fromErr, if_pos hs, if_pos (by have := hs.1; omega), e]
theorem fromL128 {l : List UInt64} {M : List Hb} (hs : SizeOk l.length) (hf : from_ l 128 = some M) : fromL l 128 = M := by
  have e : (128 : Int).toNat = 128 := rfl
  rw [fromL, if_pos (by rw [from128 hs, hf, if_pos Option.isSome_some]), e, hf]; rfl
theorem parsed_none {l : List UInt64} (hf : from_ l 128 = none) : parsed l = none := by
  unfold parsed
  generalize from_ l 128 = x at *
  subst hf; rfl
theorem parsed_some {l : List UInt64} {M : List Hb} (hf : from_ l 128 = some M) : parsed l = if Adj M then none else some M := by
  unfold parsed
  generalize from_ l 128 = x at *
  subst hf; rfl
set_option maxRecDepth 100000 in
set_option maxHeartbeats 2000000 in
theorem AllW_any (v : Value) (l : List UInt64) (L : List Hb) (r : Int) (hL : L = allL l) (hr : r = allErr l) (w : World) (h : Words w v l) :
    Calls Try.prog 15 #[v] w fun e w' => ∃ x, e = .returned (.tuple #[x, .int .i64 r]) ∧ OwnK w' w.heap.size x L ∧ Below w.heap.size w w' := by
  have B : Below w.heap.size w w := Below.refl _ _
  have H := Lib.hid h
  obtain ⟨L0, hL0⟩ : ∃ L0, L0 = fromL l 128 := ⟨_, rfl⟩
  obtain ⟨r0, hr0⟩ : ∃ r0, r0 = fromErr l 128 := ⟨_, rfl⟩
  have FT := Lib.hid (fun w h => From_any v l 128 L0 r0 hL0 hr0 w h)
  by_cases h0 : r0 = 0
  case neg =>
    have hn : (r0 != 0) = true := by rw [bne_iff_ne]; exact h0
    have hre : r = r0 := by
      rw [hr, allErr]
      by_cases hs : SizeOk l.length
      · rw [if_pos hs]
        rw [from128 hs] at hr0
        cases hf : from_ l 128 with
        | none => rw [hf, if_neg (by simp)] at hr0; rw [hr0, parsed_none hf, if_neg (by simp)]
        | some M => rw [hf, if_pos Option.isSome_some] at hr0; exact absurd hr0 h0
      · rw [if_neg hs, hr0, fromErr, if_neg hs]
    have hL1 : L = [] := by rw [hL, allL, ← hr, hre, if_neg h0]
    subst hL1; subst hre
    clear hL hr hL0 hr0 h h0
    go_enter Try.func15, Try.ntmps15
    go_wp2_with fail
    refine (FT.out _ (H.out.below B)).mono ?_
    rintro e wa1 ⟨x1, rfl, o1, b⟩
    replace B := B.trans (b.mono B.size); clear b
    go_wp2
    go_ret2
    exact ⟨_, rfl, OwnK.nil _ _, B⟩
  case pos =>
    have hs : SizeOk l.length := by
      rw [h0] at hr0
      by_cases hs : SizeOk l.length
      · exact hs
      · rw [fromErr, if_neg hs] at hr0; omega
    have hf : from_ l 128 = some L0 := by
      rw [h0, from128 hs] at hr0
      cases hf : from_ l 128 with
      | none => rw [hf, if_neg (by simp)] at hr0; omega
      | some M => rw [hL0, fromL128 hs hf]
    have hre : r = if Adj L0 then 50 else 0 := by
      rw [hr, allErr, if_pos hs, parsed_some hf]
      by_cases ha : Adj L0 <;> simp [ha]
    have hLe : L = if Adj L0 then [] else L0 := by
      rw [hL, allL, ← hr, hre, parsed_some hf]
      by_cases ha : Adj L0 <;> simp [ha]
    have HR := Lib.hid (And.intro hre hLe)
    subst h0
    obtain ⟨N, hN⟩ : ∃ N, N = L0.length := ⟨_, rfl⟩
    have HN := Lib.hid hN
    clear hL hr hL0 hr0 h hs hf hre hLe
    go_enter Try.func15, Try.ntmps15
    go_wp2_with fail
    refine (FT.out _ (H.out.below B)).mono ?_
    rintro e wa1 ⟨x1, rfl, o1, b⟩
    replace B := B.trans (b.mono B.size); clear b
    have lx := o1.rd.len
    have hlen := o1.rd.len_le
    rw [← hN] at lx hlen
    clear hN
    go_wp2
    go_loopg [17] N (fun g i wr => ∃ j : Nat, j ≤ N ∧ g = N - j ∧ i = .int .i64 j ∧ wr = wa1 ∧ Hid (NoAdj L0 j))
    case atStart => exact ⟨0, by omega, by omega, rfl, rfl, Lib.hid (fun i a b h1 => by omega)⟩
    case round =>
      obtain ⟨j, hj, rfl, rfl, rfl, hna⟩ := hrel
      by_cases hlt : j < N
      · obtain ⟨bb, oo, s, ia, _, _, m0, _, _, _, hs, _⟩ := o1.rd.at_ (k := j) (by rw [← HN.out]; exact hlt)
        rcases j with _ | i
        · have n1 : ¬ (0 : Int) < ((0 : Nat) : Int) := by omega
          go_wp2
          go_roundg (N - 1)
          case measure => omega
          case rel => exact ⟨1, by omega, rfl, by go_num, rfl, Lib.hid (noAdj_step hna.out (fun i a b h1 => by omega))⟩
        · obtain ⟨b2, o2, t, ia2, _, _, m1, _, _, _, ht, _⟩ := o1.rd.at_ (k := i) (by rw [← HN.out]; omega)
          have ia3 : ∀ W, (Instr.indexAt 26 x1 (.int .i64 ((i : Int) + 1))).run Try.prog W = .ok (.pointer (some ⟨bb, oo, none⟩)) W := ia
          have hw : IntKind.i64.wrap ((i : Int) + 1 - 1) = (i : Int) := by rw [show (i : Int) + 1 - 1 = (i : Int) by omega]; exact IntWalk.i64_in _ (by omega)
          have hw2 : IntKind.i64.wrap (i : Int) = (i : Int) := IntWalk.i64_in _ (by omega)
          have n1 : (0 : Int) < (i : Int) + 1 := by omega
          by_cases hk : t.kind = 2 ∧ s.kind = 2
          · have ha := adj_at ht.out hs.out hk.1 hk.2
            have hr0 : r = 50 := by rw [HR.out.1, if_pos ha]
            have hL0 : L = [] := by rw [HR.out.2, if_pos ha]
            rw [hk.2] at m0; rw [hk.1] at m1
            subst hr0; subst hL0
            clear hk ha
            go_wp2
            go_ret2
            exact ⟨_, rfl, OwnK.nil _ _, B⟩
          · have hna2 : NoAdj L0 (i + 1 + 1) := noAdj_step hna.out (fun i' a b h1 h2 h3 => by
              obtain rfl : i' = i := by omega
              rw [ht.out] at h2; rw [hs.out] at h3
              injection h2 with h2; injection h3 with h3; subst h2; subst h3; exact hk)
            have HNA := Lib.hid hna2; clear hna2
            by_cases hs2 : s.kind = 2
            · have ht2 : (t.kind == 2) = false := by rw [beq_eq_false_iff_ne]; exact fun e => hk ⟨e, hs2⟩
              rw [hs2] at m0
              clear hk hs2
              go_wp2
              go_roundg (N - (i + 1 + 1))
              case measure => omega
              case rel => exact ⟨i + 1 + 1, by omega, rfl, by go_num, rfl, HNA⟩
            · have ht2 : (s.kind == 2) = false := by rw [beq_eq_false_iff_ne]; exact hs2
              clear hk hs2
              go_wp2
              go_roundg (N - (i + 1 + 1))
              case measure => omega
              case rel => exact ⟨i + 1 + 1, by omega, rfl, by go_num, rfl, HNA⟩
      · obtain rfl : j = N := by omega
        have ha : ¬ Adj L0 := noAdj_all (by rw [← HN.out]; exact hna.out)
        have hr0 : r = 0 := by rw [HR.out.1, if_neg ha]
        have hL0 : L = L0 := by rw [HR.out.2, if_neg ha]
        subst hr0; subst hL0
        clear ha
        go_wp2
        go_ret2
        exact ⟨_, rfl, o1, B⟩
end Go.Proofs.Ytbfmdbeeiicabaa
namespace Go.Proofs.Ytbfmdbeeiicabaa
open Go.RowKit L01 L02 L05 L14 L15
set_option maxRecDepth 100000 in
set_option maxHeartbeats 2000000 in
theorem AtR_any (v : Value) (l : List UInt64) (k : Nat) (b : Hb) (r : Bool) (hk : k < l.length) (hb : b = if StOk l k then stand l k else .none) (hr : r = decide (StOk l k)) (hl63 : l.length ≤ 1000000) (w : World) (h : Words w v l) :
    Calls Try.prog 143 #[v, .int .i64 k] w fun e w' => e = .returned (.tuple #[.agg #[.int .i64 b.at_, .int .i64 b.size, .int .i64 b.kind, .int .i64 b.ty, .bool b.mark, .int .u64 b.next.toNat], .bool r]) ∧ Below w.heap.size w w' := by
  have B : Below w.heap.size w w := Below.refl _ _
  have H := Lib.hid h
  have lw := Rd.len h Try.underlying22
  obtain ⟨ad, x, ia, m0, hx⟩ := h.at_ (P := Try.prog) Try.underlying22 one_u64 hk
  obtain ⟨N, hN⟩ : ∃ N, N = l.length := ⟨_, rfl⟩
  rw [← hN] at lw
  have hst := stOk_of hx.out
  obtain ⟨s, hs⟩ : ∃ s, s = split x := ⟨_, rfl⟩
  obtain ⟨z, hz⟩ : ∃ z, z = decide (HdOk x) := ⟨_, rfl⟩
  have ST := Lib.hid (fun w => HSplitR_any x s z hs hz w)
  have hgk : l.getD k 0 = x := by rw [List.getD_eq_getElem?_getD, hx.out]; rfl
  have n7 : ¬ (k : Int) < 0 := by omega
  have n8 : ¬ (N : Int) ≤ (k : Int) := by omega
  by_cases hd : HdOk x
  · have hz0 : z = true := by rw [hz, decide_eq_true hd]
    subst hz0
    obtain ⟨s1, s2, s3, s4, s5, s6⟩ := (by rw [hs]; exact (split_ok hd).bounds : 2 ≤ s.size ∧ s.size % 2 = 0 ∧ s.size ≤ 1920 ∧ (s.kind = 1 ∨ s.kind = 2) ∧ 0 ≤ s.ty ∧ s.ty < 8)
    have hw : IntKind.i64.wrap ((k : Int) + s.size) = (k : Int) + s.size := IntWalk.i64_in _ (by omega)
    by_cases hl : (k : Int) + s.size ≤ N
    · have hok : StOk l k := hst.2 ⟨hd, by rw [← hs, ← hN]; exact hl⟩
      obtain ⟨ad2, y, ia2, m1, hy⟩ := h.at_ (P := Try.prog) Try.underlying22 one_u64 (k := k + 1) (by omega)
      have hr0 : r = true := by rw [hr, decide_eq_true hok]
      have hb0 : b = ⟨k, s.size, s.kind, s.ty, s.mark, y⟩ := by
        rw [hb, if_pos hok, stand, hgk, ← hs, show l.getD (k + 1) 0 = y by rw [List.getD_eq_getElem?_getD, hy.out]; rfl]
      have hw1 : IntKind.i64.wrap ((k : Int) + 1) = (k : Int) + 1 := IntWalk.i64_in _ (by omega)
      have ia3 : ∀ W, (Instr.indexAt 22 v (.int .i64 ((k : Int) + 1))).run Try.prog W = .ok (.pointer (some ad2)) W := ia2
      have n1 : ¬ ((N : Int) < (k : Int) + s.size) := by omega
      have hs0 : s.at_ = 0 := by rw [hs, split_told hd]; rfl
      have hs5 : s.next = 0 := by rw [hs, split_told hd]; rfl
      obtain ⟨sa, sz, sk, sty, sm, sn⟩ := s
      dsimp only at *
      subst hs0; subst hs5; subst hr0; subst hb0
      have ST' : Hid (∀ w, Calls Try.prog 153 #[.int .u64 x.toNat] w fun e w' => e = .returned (.tuple #[.agg #[.int .i64 0, .int .i64 sz, .int .i64 sk, .int .i64 sty, .bool sm, .int .u64 0], .bool true]) ∧ Below w.heap.size w w') := ST
      have M0 := Lib.hid m1
      clear hst hs hz hgk hd hl hok hb hr hx hy h ST hk hN m1
      go_enter Try.func143, Try.ntmps143
      go_upto_region 1 with (fail)
      refine wp_gen (fun Wv => Bx Wv (w.heap.size) (38) (#[.int .i64 0, .int .i64 0, .int .i64 0, .int .i64 0, .bool false, .int .u64 0]) ∧ Below w.heap.size w Wv) ⟨((Bx.at_ (by simp))), ((Below.refl _ w).alloc (by simp <;> omega) _)⟩ ?_
      rintro wa1 ⟨g1, b⟩
      replace m0 := cell_later b m0; replace B := B.trans (b.mono B.size); clear b
      have c_g1 := g1.cell; have f_g1 := g1.free; have a_g1 := fun o => (g1.alloc o).cell; have d_g1 := fun o o2 => ((g1.alloc o).alloc o2).cell; have e_g1 := fun o => (g1.alloc o).free
      go_wp2_with fail
      refine (ST'.out _).mono ?_
      rintro e wa2 ⟨rfl, b⟩
      replace m0 := cell_later b m0; try clear c_g1 f_g1 a_g1 d_g1 e_g1
      replace g1 := g1.below b; have c_g1 := g1.cell; have f_g1 := g1.free; have a_g1 := fun o => (g1.alloc o).cell; have d_g1 := fun o o2 => ((g1.alloc o).alloc o2).cell; have e_g1 := fun o => (g1.alloc o).free; replace B := B.trans (b.mono B.size); clear b
      go_upto_region 4 with (fail)
      have hl1 : w.heap.size < wa2.heap.size := g1.lt
      refine wp_gen (fun Wv => Bx Wv (wa2.heap.size) (38) (#[.int .i64 0, .int .i64 sz, .int .i64 sk, .int .i64 sty, .bool sm, .int .u64 0]) ∧ Below wa2.heap.size wa2 Wv) ⟨((Bx.at_ (by simp))), ((Below.refl _ wa2).alloc (by simp <;> omega) _)⟩ ?_
      rintro wa3 ⟨g2, b⟩
      replace m0 := cell_later b m0; try clear c_g1 f_g1 a_g1 d_g1 e_g1
      replace g1 := g1.below b; have c_g1 := g1.cell; have f_g1 := g1.free; have a_g1 := fun o => (g1.alloc o).cell; have d_g1 := fun o o2 => ((g1.alloc o).alloc o2).cell; have e_g1 := fun o => (g1.alloc o).free; replace B := B.trans (b.mono B.size); clear b
      have c_g2 := g2.cell; have f_g2 := g2.free; have a_g2 := fun o => (g2.alloc o).cell; have d_g2 := fun o o2 => ((g2.alloc o).alloc o2).cell; have e_g2 := fun o => (g2.alloc o).free
      have ne : w.heap.size ≠ wa2.heap.size := by omega
      have hp : w.heap.size ≤ wa2.heap.size := by omega
      go_upto_region 7 with (fail)
      have HG := Lib.hid (And.intro (g1.far (p := ⟨wa2.heap.size, 0, none⟩) ne (.int .i64 (k : Int))) (And.intro (g2.set (i := 0) (.int .i64 (k : Int))) (B.setCell (p := ⟨wa2.heap.size, 0, none⟩) hp (.int .i64 (k : Int)))))
      refine wp_gen (fun V => Bx V w.heap.size 38 #[.int .i64 0, .int .i64 0, .int .i64 0, .int .i64 0, .bool false, .int .u64 0] ∧ Bx V wa2.heap.size 38 #[.int .i64 k, .int .i64 sz, .int .i64 sk, .int .i64 sty, .bool sm, .int .u64 0] ∧ Below w.heap.size w V) HG.out ?_
      clear HG g1 g2 B c_g1 f_g1 a_g1 d_g1 e_g1 c_g2 f_g2 a_g2 d_g2 e_g2 m0
      rintro V ⟨g1, g2, B⟩
      have m1 := cell_later B M0.out
      have c_g1 := g1.cell; have c_g2 := g2.cell; have f_g1 := g1.free; have f_g2 := g2.free
      have G2 := g2.set (i := 5) (.int .u64 y.toNat)
      have c_G2 := G2.cell
      go_wp2
      refine bodyPost_ret (v := .tuple #[.agg #[.int .i64 k, .int .i64 sz, .int .i64 sk, .int .i64 sty, .bool sm, .int .u64 y.toNat], .bool true]) (by simp [results, Try.results143, go_sem, c_g1, c_g2, f_g1, f_g2, ne, ne.symm]) rfl ?_
      refine ⟨rfl, ?_⟩
      (repeat (first | refine Below.setCell ?_ (by first | exact Nat.le_refl _ | (simp <;> omega)) _ | refine Below.alloc ?_ (by first | exact B.size | (have := B.size; simp <;> omega)) _)); exact B
    · have hno : ¬ StOk l k := fun h => hl (by have := (hst.1 h).2; rw [← hs, ← hN] at this; exact this)
      have hr0 : r = false := by rw [hr, decide_eq_false hno]
      have hb0 : b = .none := by rw [hb, if_neg hno]
      have n1 : (N : Int) < (k : Int) + s.size := by omega
      subst hr0; subst hb0
      clear hst hs hz hgk hd hl hno hb hr hx h hN hk
      go_enter Try.func143, Try.ntmps143
      go_upto_region 1 with (fail)
      refine wp_gen (fun Wv => Bx Wv (w.heap.size) (38) (#[.int .i64 0, .int .i64 0, .int .i64 0, .int .i64 0, .bool false, .int .u64 0]) ∧ Below w.heap.size w Wv) ⟨((Bx.at_ (by simp))), ((Below.refl _ w).alloc (by simp <;> omega) _)⟩ ?_
      rintro wa1 ⟨g1, b⟩
      replace m0 := cell_later b m0; replace B := B.trans (b.mono B.size); clear b
      have c_g1 := g1.cell; have f_g1 := g1.free; have a_g1 := fun o => (g1.alloc o).cell; have d_g1 := fun o o2 => ((g1.alloc o).alloc o2).cell; have e_g1 := fun o => (g1.alloc o).free
      go_wp2_with fail
      refine (ST.out _).mono ?_
      rintro e wa2 ⟨rfl, b⟩
      replace m0 := cell_later b m0; try clear c_g1 f_g1 a_g1 d_g1 e_g1
      replace g1 := g1.below b; have c_g1 := g1.cell; have f_g1 := g1.free; have a_g1 := fun o => (g1.alloc o).cell; have d_g1 := fun o o2 => ((g1.alloc o).alloc o2).cell; have e_g1 := fun o => (g1.alloc o).free; replace B := B.trans (b.mono B.size); clear b
      go_upto_region 4 with (fail)
      refine wp_gen (fun Wv => Bx Wv (wa2.heap.size) (38) (#[.int .i64 s.at_, .int .i64 s.size, .int .i64 s.kind, .int .i64 s.ty, .bool s.mark, .int .u64 s.next.toNat]) ∧ Below wa2.heap.size wa2 Wv) ⟨((Bx.at_ (by simp))), ((Below.refl _ wa2).alloc (by simp <;> omega) _)⟩ ?_
      rintro wa3 ⟨g2, b⟩
      replace m0 := cell_later b m0; try clear c_g1 f_g1 a_g1 d_g1 e_g1
      replace g1 := g1.below b; have c_g1 := g1.cell; have f_g1 := g1.free; have a_g1 := fun o => (g1.alloc o).cell; have d_g1 := fun o o2 => ((g1.alloc o).alloc o2).cell; have e_g1 := fun o => (g1.alloc o).free; replace B := B.trans (b.mono B.size); clear b
      have c_g2 := g2.cell; have f_g2 := g2.free; have a_g2 := fun o => (g2.alloc o).cell; have d_g2 := fun o o2 => ((g2.alloc o).alloc o2).cell; have e_g2 := fun o => (g2.alloc o).free
      go_wp2
      refine bodyPost_ret (v := .tuple #[.agg #[.int .i64 0, .int .i64 0, .int .i64 0, .int .i64 0, .bool false, .int .u64 0], .bool false]) (by simp [results, Try.results143, go_sem, c_g1, f_g1, a_g1, e_g1, c_g2, f_g2, a_g2, e_g2]) rfl ?_
      refine ⟨rfl, ?_⟩
      (repeat (first | refine Below.setCell ?_ (by first | exact Nat.le_refl _ | (simp <;> omega)) _ | refine Below.alloc ?_ (by first | exact B.size | (have := B.size; simp <;> omega)) _)); exact B
  · have hz0 : z = false := by rw [hz, decide_eq_false hd]
    have hno : ¬ StOk l k := fun h => hd (hst.1 h).1
    have hr0 : r = false := by rw [hr, decide_eq_false hno]
    have hb0 : b = .none := by rw [hb, if_neg hno]
    subst hr0; subst hb0; subst hz0
    clear hst hs hz hgk hd hno hb hr hx h hN hk
    go_enter Try.func143, Try.ntmps143
    go_upto_region 1 with (fail)
    refine wp_gen (fun Wv => Bx Wv (w.heap.size) (38) (#[.int .i64 0, .int .i64 0, .int .i64 0, .int .i64 0, .bool false, .int .u64 0]) ∧ Below w.heap.size w Wv) ⟨((Bx.at_ (by simp))), ((Below.refl _ w).alloc (by simp <;> omega) _)⟩ ?_
    rintro wa1 ⟨g1, b⟩
    replace m0 := cell_later b m0; replace B := B.trans (b.mono B.size); clear b
    have c_g1 := g1.cell; have f_g1 := g1.free; have a_g1 := fun o => (g1.alloc o).cell; have d_g1 := fun o o2 => ((g1.alloc o).alloc o2).cell; have e_g1 := fun o => (g1.alloc o).free
    go_wp2_with fail
    refine (ST.out _).mono ?_
    rintro e wa2 ⟨rfl, b⟩
    replace m0 := cell_later b m0; try clear c_g1 f_g1 a_g1 d_g1 e_g1
    replace g1 := g1.below b; have c_g1 := g1.cell; have f_g1 := g1.free; have a_g1 := fun o => (g1.alloc o).cell; have d_g1 := fun o o2 => ((g1.alloc o).alloc o2).cell; have e_g1 := fun o => (g1.alloc o).free; replace B := B.trans (b.mono B.size); clear b
    go_upto_region 4 with (fail)
    refine wp_gen (fun Wv => Bx Wv (wa2.heap.size) (38) (#[.int .i64 s.at_, .int .i64 s.size, .int .i64 s.kind, .int .i64 s.ty, .bool s.mark, .int .u64 s.next.toNat]) ∧ Below wa2.heap.size wa2 Wv) ⟨((Bx.at_ (by simp))), ((Below.refl _ wa2).alloc (by simp <;> omega) _)⟩ ?_
    rintro wa3 ⟨g2, b⟩
    replace m0 := cell_later b m0; try clear c_g1 f_g1 a_g1 d_g1 e_g1
    replace g1 := g1.below b; have c_g1 := g1.cell; have f_g1 := g1.free; have a_g1 := fun o => (g1.alloc o).cell; have d_g1 := fun o o2 => ((g1.alloc o).alloc o2).cell; have e_g1 := fun o => (g1.alloc o).free; replace B := B.trans (b.mono B.size); clear b
    have c_g2 := g2.cell; have f_g2 := g2.free; have a_g2 := fun o => (g2.alloc o).cell; have d_g2 := fun o o2 => ((g2.alloc o).alloc o2).cell; have e_g2 := fun o => (g2.alloc o).free
    go_wp2
    refine bodyPost_ret (v := .tuple #[.agg #[.int .i64 0, .int .i64 0, .int .i64 0, .int .i64 0, .bool false, .int .u64 0], .bool false]) (by simp [results, Try.results143, go_sem, c_g1, f_g1, a_g1, e_g1, c_g2, f_g2, a_g2, e_g2]) rfl ?_
    refine ⟨rfl, ?_⟩
    (repeat (first | refine Below.setCell ?_ (by first | exact Nat.le_refl _ | (simp <;> omega)) _ | refine Below.alloc ?_ (by first | exact B.size | (have := B.size; simp <;> omega)) _)); exact B
end Go.Proofs.Ytbfmdbeeiicabaa
namespace Go.Proofs.Ytbfmdbeeiicabaa
open Go.RowKit
theorem info_boolF : (Try.prog.info? 4).map (fun i => (i.zero, i.size, i.bytes)) = some (some (.bool false), 1, 1) := by kernel_rfl
theorem one_bool : (Try.prog.info? 4).map (·.size) = some 1 := by kernel_rfl
end Go.Proofs.Ytbfmdbeeiicabaa
namespace Go.Proofs.Ytbfmdbeeiicabaa
open Go.RowKit L01 L02 L05 L14 L15
/-- from which addresses on there are blocks, as far as this is known from address j on -/
def rgB (l : List UInt64) (j q : Nat) : Bool := decide (j ≤ q ∧ q % 2 = 0 ∧ (from_ l q).isSome = true)
def rg (l : List UInt64) (j : Nat) : List Bool := (List.range (l.length + 1)).map (rgB l j)
theorem rg_len (l : List UInt64) (j : Nat) : (rg l j).length = l.length + 1 := by simp [rg]
theorem rg_get {l : List UInt64} {j q : Nat} (hq : q ≤ l.length) : (rg l j)[q]? = some (rgB l j q) := by
  simp [rg, List.getElem?_map, List.getElem?_range (show q < l.length + 1 by omega)]
theorem rg_start {l : List UInt64} (hl : l.length % 2 = 0) : (List.replicate (l.length + 1) false).set l.length true = rg l l.length := by
  apply List.ext_getElem?
  intro q
  by_cases hq : q ≤ l.length
  · rw [rg_get hq]
    by_cases e : q = l.length
    · subst e
      rw [List.getElem?_set_self (by simp)]
      unfold rgB
      rw [from_end, decide_eq_true ⟨Nat.le_refl _, hl, rfl⟩]
    · rw [List.getElem?_set_ne (Ne.symm e), List.getElem?_replicate, if_pos (by omega)]
      unfold rgB
      rw [decide_eq_false (fun h => by omega)]
  · rw [List.getElem?_eq_none (by simp; omega), List.getElem?_eq_none (by rw [rg_len]; omega)]
theorem rg_step {l : List UInt64} {j : Nat} (h2 : 2 ≤ j) (hj : j ≤ l.length) (he : j % 2 = 0) : (rg l j).set (j - 2) (from_ l (j - 2)).isSome = rg l (j - 2) := by
  apply List.ext_getElem?
  intro q
  by_cases hq : q ≤ l.length
  · rw [rg_get hq]
    by_cases e : j - 2 = q
    · subst e
      rw [List.getElem?_set_self (by rw [rg_len]; omega)]
      unfold rgB
      congr 1
      rw [Bool.eq_iff_iff, decide_eq_true_iff]
      exact ⟨fun h => ⟨Nat.le_refl _, by omega, h⟩, fun h => h.2.2⟩
    · rw [List.getElem?_set_ne e, rg_get hq]
      unfold rgB
      congr 1
      rw [Bool.eq_iff_iff, decide_eq_true_iff, decide_eq_true_iff]
      constructor
      · rintro ⟨a, b, c⟩; exact ⟨by omega, b, c⟩
      · rintro ⟨a, b, c⟩; exact ⟨by omega, b, c⟩
  · rw [List.getElem?_eq_none (by rw [List.length_set, rg_len]; omega), List.getElem?_eq_none (by rw [rg_len]; omega)]
/-- A slice of bools of the call's own. -/
def OwnBl (w : World) (base : Nat) (v : Value) (R : List Bool) : Prop := w.ownsRow base 4 1 v R.length (R.map .bool)
theorem OwnBl.below {w w' : World} {base : Nat} {v : Value} {R : List Bool} (h : OwnBl w base v R) (hb : Below w.heap.size w w') : OwnBl w' base v R := own_below h hb
theorem OwnBl.of {w : World} {B n : Nat} {v : Value} {xs : List Value} {R : List Bool} (h : w.ownsRow B 4 1 v n xs) (hx : xs = R.map .bool) : OwnBl w B v R := by
  subst hx
  have hn : n = R.length := by have := h.1; simp at this; omega
  subst hn; exact h
theorem OwnBl.at_ {w : World} {base : Nat} {v : Value} {R : List Bool} (h : OwnBl w base v R) {k : Nat} {b : Bool} (hk : R[k]? = some b) :
    ∃ ad, (∀ W, (Instr.indexAt 204 v (.int .i64 (k : Int))).run Try.prog W = .ok (.pointer (some ad)) W) ∧ w.cell? ad = some (.bool b) ∧ w.frozen? ad = false ∧ base ≤ ad.block ∧ ∀ u, OwnBl (w.setCell ad (.bool u)) base v (R.set k u) := by
  obtain ⟨ad, u0, h1, h2, h3, h4, h5, h6⟩ := own_at (P := Try.prog) h Try.underlying204 one_bool (k := (k : Int)) (by omega) (by have := (List.getElem?_eq_some_iff.1 hk).1; omega)
  have h5 := h5.out
  rw [Int.toNat_natCast, List.getElem?_map, hk] at h5
  injection h5 with h5
  refine ⟨ad, h1, by rw [h2, ← h5], h3, h4, fun u => OwnBl.of (h6 (.bool u)) ?_⟩
  rw [Int.toNat_natCast, List.map_set]
set_option maxRecDepth 100000 in
set_option maxHeartbeats 4000000 in
theorem FromR_any (v : Value) (l : List UInt64) (hs : SizeOk l.length) (L : List Hb) (r : Bool) (hL : L = (from_ l 128).getD []) (hr : r = (from_ l 128).isSome) (w : World) (h : Words w v l) :
    Calls Try.prog 116 #[v, .int .i64 128] w fun e w' => ∃ x, e = .returned (.tuple #[x, .bool r]) ∧ OwnK w' w.heap.size x L ∧ Below w.heap.size w w' := by
  have B : Below w.heap.size w w := Below.refl _ _
  have H := Lib.hid h
  have lw := Rd.len h Try.underlying22
  obtain ⟨N, hN⟩ : ∃ N, N = l.length := ⟨_, rfl⟩
  rw [← hN] at lw
  have hs2 := hs
  rw [← hN] at hs2
  obtain ⟨hn1, hn2, hn3⟩ := hs2
  have HN := Lib.hid hN; have HR := Lib.hid (And.intro hr hL)
  have hw0 : IntKind.i64.wrap ((N : Int) + 1) = (N : Int) + 1 := IntWalk.i64_in _ (by omega)
  have hw2 : IntKind.i64.wrap ((N : Int) - 2) = (N : Int) - 2 := IntWalk.i64_in _ (by omega)
  have hN8 : N % 8 = 0 := by omega
  clear hr hL h hs hN
  go_enter Try.func116, Try.ntmps116
  go_upto_region 2 with (at_make; refine wpList_makeI (by rfl) rfl (by rfl) (by rfl) Try.underlying204 info_boolF rfl (by omega) (by omega) (by omega) B (Nat.le_refl _) ?_; intro vS wb oS bS bS2)
  have o0 : OwnBl wb w.heap.size vS (List.replicate (l.length + 1) false) := OwnBl.of oS (by rw [List.map_replicate, ← HN.out]; congr 1)
  obtain ⟨ad, ia, ca, fa, hb, hst⟩ := o0.at_ (k := N) (b := false) (by rw [List.getElem?_replicate, if_pos (by rw [HN.out]; omega)])
  have o1 := hst true
  rw [HN.out, rg_start (by rw [← HN.out]; omega)] at o1
  have HO := Lib.hid (And.intro o1 (bS.setCell (p := ad) hb (.bool true)))
  clear o0 o1 hst bS2 oS B
  go_wp2
  go_loopg [7] N (fun g i wr => ∃ j : Nat, 128 ≤ j ∧ j ≤ N ∧ j % 2 = 0 ∧ g = j ∧ i = .int .i64 ((j : Int) - 2) ∧ Hid (OwnBl wr w.heap.size vS (rg l j) ∧ Below w.heap.size w wr))
  case atStart => exact ⟨N, by omega, by omega, by omega, rfl, rfl, by rw [← HN.out] at HO; exact HO⟩
  case round =>
    obtain ⟨j, hj1, hj2, hj3, hgj, rfl, hh⟩ := hrel
    clear ia ca fa hb HO bS
    by_cases hlt : 130 ≤ j
    · obtain ⟨i, hij⟩ : ∃ i, j = i + 2 := ⟨j - 2, by omega⟩
      subst hij
      subst hgj
      have hwi : ((i + 2 : Nat) : Int) - 2 = (i : Int) := by omega
      rw [hwi]
      have q1 : ¬ (i : Int) < 128 := by omega
      have q2 : ¬ (i : Int) < 0 := by omega
      have q3 : (128 : Int) ≤ (i : Int) := by omega
      have hwj : IntKind.i64.wrap ((i : Int) - 2) = (i : Int) - 2 := IntWalk.i64_in _ (by omega)
      have hstep := rg_step (l := l) (j := i + 2) (by omega) (by rw [← HN.out]; omega) (by omega)
      rw [show i + 2 - 2 = i by omega] at hstep
      have HS := Lib.hid hstep
      have o1 := hh.out.1
      have B := hh.out.2
      have hB0 := B.size
      clear hstep
      by_cases hso : StOk l i
      · have hsz := szN_ge hso
        obtain ⟨z, hz⟩ : ∃ z, z = szN l i := ⟨_, rfl⟩
        obtain ⟨b, hbb⟩ : ∃ b, b = stand l i := ⟨_, rfl⟩
        have AT := Lib.hid (fun w h => AtR_any v l i b true (by rw [← HN.out]; omega) (by rw [if_pos hso, hbb]) (by rw [decide_eq_true hso]) (by rw [← HN.out]; omega) w h)
        have hbs : b.size = (z : Int) := by rw [hbb, hz]; exact stand_size hso
        have hfs := from_step (by rw [← HN.out]; omega) hso
        rw [← hz] at hsz hfs
        rw [← HN.out] at hsz
        obtain ⟨hz1, -, hz3, hz4, -⟩ := hsz
        have hval : rgB l (i + 2) (i + z) = (from_ l i).isSome := by
          unfold rgB
          rw [hfs, Option.isSome_map, Bool.eq_iff_iff, decide_eq_true_iff]
          exact ⟨fun h => h.2.2, fun h => ⟨by omega, by omega, h⟩⟩
        have hwz : IntKind.i64.wrap ((i : Int) + b.size) = (i : Int) + (z : Int) := by rw [hbs]; exact IntWalk.i64_in _ (by omega)
        obtain ⟨y, hy⟩ : ∃ y, y = (from_ l i).isSome := ⟨_, rfl⟩
        rw [← hy] at hval
        have HV := Lib.hid (And.intro hval hy)
        have HZ := Lib.hid (show i + z ≤ l.length by rw [← HN.out]; exact hz4)
        clear hz hbb hfs hval hy hbs hso hz1 hz3 hz4
        go_wp2_with fail
        refine (AT.out _ (H.out.below B)).mono ?_
        rintro e wa1 ⟨rfl, b⟩
        replace o1 := o1.below b; replace B := B.trans (b.mono B.size); clear b
        go_upto_region 7 with (fail)
        refine wp_gen (fun Wv => Bx Wv (wa1.heap.size) (38) (#[.int .i64 b.at_, .int .i64 b.size, .int .i64 b.kind, .int .i64 b.ty, .bool b.mark, .int .u64 b.next.toNat]) ∧ Below wa1.heap.size wa1 Wv) ⟨((Bx.at_ (by simp))), ((Below.refl _ wa1).alloc (by simp <;> omega) _)⟩ ?_
        rintro wa2 ⟨g2, b⟩
        replace o1 := o1.below b; replace B := B.trans (b.mono B.size); clear b
        have c_g2 := g2.cell; have f_g2 := g2.free; have a_g2 := fun o => (g2.alloc o).cell; have d_g2 := fun o o2 => ((g2.alloc o).alloc o2).cell; have e_g2 := fun o => (g2.alloc o).free
        obtain ⟨ad, ia, ca, fa, hb, hst⟩ := o1.at_ (k := i) (b := rgB l (i + 2) i) (rg_get (by rw [← HN.out]; omega))
        obtain ⟨ad2, ia2, ca2, fa2, hb2, -⟩ := o1.at_ (k := i + z) (b := y) (by rw [rg_get HZ.out, HV.out.1])
        have ia3 : ∀ W, (Instr.indexAt 204 vS (.int .i64 ((i : Int) + (z : Int)))).run Try.prog W = .ok (.pointer (some ad2)) W := ia2
        have hst2 := hst y
        rw [HV.out.2, HS.out] at hst2
        have HO := Lib.hid (And.intro hst2 (B.setCell (p := ad) hb (.bool (from_ l i).isSome)))
        rw [← HV.out.2] at HO
        clear hst hst2 ia2
        go_upto_region 5 with (fail)
        refine wp_gen (fun V => OwnBl V w.heap.size vS (rg l i) ∧ Below w.heap.size w V) HO.out ?_
        clear HO ia ca fa hb ia3 ca2 fa2 hb2 o1 B g2 c_g2 f_g2 a_g2 d_g2 e_g2
        rintro V HO
        have HO2 := Lib.hid HO
        clear HO
        go_wp2
        go_roundg i
        case measure => omega
        case rel => exact ⟨i, by omega, by omega, by omega, rfl, rfl, HO2⟩
      · have AT := Lib.hid (fun w h => AtR_any v l i .none false (by rw [← HN.out]; omega) (by rw [if_neg hso]) (by rw [decide_eq_false hso]) (by rw [← HN.out]; omega) w h)
        have hfs := from_no (by rw [← HN.out]; omega) hso
        have HV := Lib.hid hfs
        clear hfs hso
        go_wp2_with fail
        refine (AT.out _ (H.out.below B)).mono ?_
        rintro e wa3 ⟨rfl, b⟩
        replace o1 := o1.below b; replace B := B.trans (b.mono B.size); clear b
        go_upto_region 7 with (fail)
        refine wp_gen (fun Wv => Bx Wv (wa3.heap.size) (38) (#[.int .i64 0, .int .i64 0, .int .i64 0, .int .i64 0, .bool false, .int .u64 0]) ∧ Below wa3.heap.size wa3 Wv) ⟨((Bx.at_ (by simp))), ((Below.refl _ wa3).alloc (by simp <;> omega) _)⟩ ?_
        rintro wa4 ⟨g2, b⟩
        replace o1 := o1.below b; replace B := B.trans (b.mono B.size); clear b
        have c_g2 := g2.cell; have f_g2 := g2.free; have a_g2 := fun o => (g2.alloc o).cell; have d_g2 := fun o o2 => ((g2.alloc o).alloc o2).cell; have e_g2 := fun o => (g2.alloc o).free
        obtain ⟨ad, ia, ca, fa, hb, hst⟩ := o1.at_ (k := i) (b := rgB l (i + 2) i) (rg_get (by rw [← HN.out]; omega))
        have hst2 := hst false
        rw [show false = (from_ l i).isSome by rw [HV.out]; rfl, HS.out] at hst2
        have HO : Hid (OwnBl (World.setCell _ ad (.bool false)) w.heap.size vS (rg l i) ∧ Below w.heap.size w (World.setCell _ ad (.bool false))) := Lib.hid (And.intro (by rw [show false = (from_ l i).isSome by rw [HV.out]; rfl]; exact hst2) (B.setCell (p := ad) hb (.bool false)))
        clear hst hst2
        go_upto_region 5 with (fail)
        refine wp_gen (fun V => OwnBl V w.heap.size vS (rg l i) ∧ Below w.heap.size w V) HO.out ?_
        clear HO ia ca fa hb o1 B g2 c_g2 f_g2 a_g2 d_g2 e_g2
        rintro V HO
        have HO2 := Lib.hid HO
        clear HO
        go_wp2
        go_roundg i
        case measure => omega
        case rel => exact ⟨i, by omega, by omega, by omega, rfl, rfl, HO2⟩
    · obtain rfl : j = 128 := by omega
      subst hgj
      have q1 : ((128 : Nat) : Int) - 2 = 126 := rfl
      rw [q1]
      have o1 := hh.out.1
      have B := hh.out.2
      obtain ⟨ad, ia, ca, fa, hb, -⟩ := o1.at_ (k := 128) (b := rgB l 128 128) (rg_get (by rw [← HN.out]; omega))
      have ia3 : ∀ W, (Instr.indexAt 204 vS (.int .i64 128)).run Try.prog W = .ok (.pointer (some ad)) W := ia
      have hv : rgB l 128 128 = r := by
        rw [HR.out.1]
        unfold rgB
        rw [Bool.eq_iff_iff, decide_eq_true_iff]
        exact ⟨fun h => h.2.2, fun h => ⟨by omega, by omega, h⟩⟩
      rw [hv] at ca
      have q3 : ¬ (N : Int) < 128 := by omega
      have q4 : decide (N < 128) = false := decide_eq_false (by omega)
      have q5 : ¬ N < 128 := by omega
      clear hv ia
      cases r
      · have hL : L = [] := by
          rw [HR.out.2]
          cases hf : from_ l 128 with
          | none => rfl
          | some M => have := HR.out.1; rw [hf] at this; simp at this
        subst hL
        go_wp2
        go_ret2
        exact ⟨_, rfl, OwnK.nil _ _, B⟩
      · have hf : from_ l 128 = some L := by
          cases hf : from_ l 128 with
          | none => have := HR.out.1; rw [hf] at this; simp at this
          | some M => have := HR.out.2; rw [hf] at this; rw [this]; rfl
        have HF := Lib.hid hf
        have HBB := Lib.hid B
        clear hf B o1 hh
        go_wp2
        go_loopg [1, 10] (N - 128) (fun g i xv wr => ∃ (q : Nat) (L0 : List Hb) (L1 : List Hb), q ≤ N ∧ g = N - q ∧ i = .int .i64 q ∧ Hid (OwnK wr w.heap.size xv L0 ∧ from_ l q = some L1 ∧ L = L0 ++ L1 ∧ 2 * L0.length ≤ q ∧ Below w.heap.size w wr))
        case atStart => exact ⟨128, [], L, by omega, rfl, rfl, Lib.hid ⟨OwnK.nil _ _, HF.out, rfl, by simp, HBB.out⟩⟩
        case round =>
          obtain ⟨q, L0, L1, hq, rfl, rfl, hh⟩ := hrel
          clear HBB
          by_cases hlt : q < N
          · have hfr := hh.out.2.1
            have hso : StOk l q := by
              by_cases hso : StOk l q
              · exact hso
              · rw [from_no (by rw [← HN.out]; exact hlt) hso] at hfr; cases hfr
            obtain ⟨b, hb⟩ : ∃ b, b = stand l q := ⟨_, rfl⟩
            have AT := Lib.hid (fun w h => AtR_any v l q b true (by rw [← HN.out]; exact hlt) (by rw [if_pos hso, hb]) (by rw [decide_eq_true hso]) (by rw [← HN.out]; omega) w h)
            have hsz := szN_ge hso
            have hbs : b.size = (szN l q : Int) := by rw [hb]; exact stand_size hso
            have hst := from_step (by rw [← HN.out]; exact hlt) hso
            rw [← hb] at hst
            obtain ⟨z, hz⟩ : ∃ z, z = szN l q := ⟨_, rfl⟩
            rw [← hz] at hsz hbs hst
            rw [← HN.out] at hsz
            obtain ⟨hz1, -, -, hz4, -⟩ := hsz
            rw [hst] at hfr
            obtain ⟨L2, hL2, hL12⟩ := Option.map_eq_some_iff.1 hfr
            have o1 := hh.out.1
            have B := hh.out.2.2.2.2
            have hl0 := hh.out.2.2.2.1
            have hLL := hh.out.2.2.1
            have hB0 := B.size
            have hwq : IntKind.i64.wrap ((q : Int) + b.size) = ((q + z : Nat) : Int) := by rw [hbs, show ((q + z : Nat) : Int) = (q : Int) + z by omega]; exact IntWalk.i64_in _ (by omega)
            have HZ := Lib.hid (And.intro hz1 (And.intro hz4 (And.intro hL2 (show L = L0 ++ [b] ++ L2 by rw [hLL, ← hL12]; simp))))
            clear hb hst hfr hz hbs hso hL2 hL12 hLL hz1 hz4
            go_wp2_with fail
            refine (AT.out _ (H.out.below B)).mono ?_
            rintro e wa5 ⟨rfl, b⟩
            replace o1 := o1.below b; replace B := B.trans (b.mono B.size); clear b
            have hne := own_fresh o1
            go_upto_region 13 with (fail)
            refine wp_gen (fun Wv => Bx Wv (wa5.heap.size) (38) (#[.int .i64 b.at_, .int .i64 b.size, .int .i64 b.kind, .int .i64 b.ty, .bool b.mark, .int .u64 b.next.toNat]) ∧ Below wa5.heap.size wa5 Wv) ⟨((Bx.at_ (by simp))), ((Below.refl _ wa5).alloc (by simp <;> omega) _)⟩ ?_
            rintro wa6 ⟨g2, b⟩
            replace o1 := o1.below b; replace B := B.trans (b.mono B.size); clear b
            have c_g2 := g2.cell; have f_g2 := g2.free; have a_g2 := fun o => (g2.alloc o).cell; have d_g2 := fun o o2 => ((g2.alloc o).alloc o2).cell; have e_g2 := fun o => (g2.alloc o).free
            clear f_g2 a_g2 d_g2 e_g2
            go_wp2_with (at_builtin; refine wpList_append (by rfl) rfl rfl rfl Try.underlying26 info_block rfl (by omega) (by exact own_below o1 ((Below.refl _ _).alloc (Nat.le_refl _) _)) (by exact lit_block b (by simp)) (bkL_one b) (by omega) (by omega) (by exact B.alloc B.size _) (Nat.le_refl _) ?_; intro v1 w3 o3 B3 g3; have c_4 := ((g2.alloc _).grown g3 hne).cell; clear c_g2)
            have o4 : OwnK w3 w.heap.size v1 (L0 ++ [b]) := OwnK.of o3 (tabB_snoc L0 b)
            have HO := Lib.hid (And.intro o4 B3)
            go_roundg (N - (q + z))
            case measure => have := HZ.out.1; omega
            case rel => exact ⟨q + z, L0 ++ [b], L2, by have := HZ.out.2.1; omega, rfl, rfl, Lib.hid ⟨HO.out.1, HZ.out.2.2.1, HZ.out.2.2.2, by have := HZ.out.1; simp only [List.length_append, List.length_cons, List.length_nil]; omega, HO.out.2⟩⟩
          · obtain rfl : q = N := by omega
            have hfr := hh.out.2.1
            rw [show from_ l q = some [] by rw [HN.out]; exact from_end] at hfr
            injection hfr with hfr
            have hL0 : L = L0 := by rw [hh.out.2.2.1, ← hfr, List.append_nil]
            subst hL0
            have o1 := hh.out.1
            have B := hh.out.2.2.2.2
            clear hfr
            go_wp2
            go_ret2
            exact ⟨_, rfl, o1, B⟩
set_option maxRecDepth 100000 in
set_option maxHeartbeats 2000000 in
theorem ParsedR_any (v : Value) (l : List UInt64) (hs : SizeOk l.length) (L : List Hb) (r : Bool) (hL : L = allL l) (hr : r = decide (allErr l = 0)) (w : World) (h : Words w v l) :
    Calls Try.prog 79 #[v] w fun e w' => ∃ x, e = .returned (.tuple #[x, .bool r]) ∧ OwnK w' w.heap.size x L ∧ Below w.heap.size w w' := by
  have B : Below w.heap.size w w := Below.refl _ _
  have H := Lib.hid h
  obtain ⟨L0, hL0⟩ : ∃ L0, L0 = (from_ l 128).getD [] := ⟨_, rfl⟩
  obtain ⟨r0, hr0⟩ : ∃ r0, r0 = (from_ l 128).isSome := ⟨_, rfl⟩
  have FT := Lib.hid (fun w h => FromR_any v l hs L0 r0 hL0 hr0 w h)
  have hre : r = (r0 && decide (¬ Adj L0)) := by
    rw [hr, hr0, hL0, allErr, if_pos hs]
    cases hf : from_ l 128 with
    | none => rw [parsed_none hf]; rfl
    | some M =>
      rw [parsed_some hf]
      by_cases ha : Adj M <;> simp [ha]
  have hLe : L = if r = true then L0 else [] := by
    rw [hL, allL, hr, hL0]
    by_cases h0 : allErr l = 0
    · rw [if_pos h0, if_pos (decide_eq_true h0)]
      have h1 := h0
      unfold allErr at h1
      rw [if_pos hs] at h1
      cases hf : from_ l 128 with
      | none => rw [parsed_none hf]
      | some M =>
        rw [parsed_some hf] at h1 ⊢
        by_cases ha : Adj M
        · rw [if_pos ha] at h1; simp at h1
        · rw [if_neg ha]
    · rw [if_neg h0, if_neg (by simpa using h0)]
  have HR := Lib.hid (And.intro hre hLe)
  have hnil : r0 = false → L0 = [] := fun e => by
    rw [hL0]
    rw [hr0] at e
    cases hf : from_ l 128 with
    | none => rfl
    | some M => rw [hf] at e; cases e
  have HE := Lib.hid hnil
  obtain ⟨N, hN⟩ : ∃ N, N = L0.length := ⟨_, rfl⟩
  have HN := Lib.hid hN
  clear hL hr hL0 hr0 h hs hre hLe hnil
  go_enter Try.func79, Try.ntmps79
  go_wp2_with fail
  refine (FT.out _ (H.out.below B)).mono ?_
  rintro e wa1 ⟨x1, rfl, o1, b⟩
  replace B := B.trans (b.mono B.size); clear b
  have lx := o1.rd.len
  have hlen := o1.rd.len_le
  rw [← hN] at lx hlen
  clear hN
  cases r0
  · have h0 := HE.out rfl
    have hN0 : N = 0 := by rw [HN.out, h0]; rfl
    have hr0 : r = false := by rw [HR.out.1]; rfl
    have hL0 : L = [] := by rw [HR.out.2, hr0]; rfl
    rw [hN0] at lx
    subst hr0; subst hL0
    clear h0 hN0
    go_wp2
    go_loopg [6, 5] 0 (fun g i rv wr => i = .int .i64 1 ∧ rv = .bool false ∧ wr = wa1)
    case atStart => exact ⟨rfl, rfl, rfl⟩
    case round =>
      obtain ⟨rfl, rfl, rfl⟩ := hrel
      go_wp2
      go_ret2
      exact ⟨_, rfl, OwnK.nil _ _, B⟩
  · go_wp2
    go_loopg [6, 5] N (fun g i rv wr => ∃ (j : Nat) (c : Bool), 1 ≤ j ∧ j ≤ N + 1 ∧ g = N + 1 - j ∧ i = .int .i64 j ∧ rv = .bool c ∧ wr = wa1 ∧ Hid ((c = true → NoAdj L0 j) ∧ (c = false → Adj L0)))
    case atStart => exact ⟨1, true, by omega, by omega, by omega, rfl, rfl, rfl, Lib.hid ⟨fun _ i a b h1 => by omega, fun e => (by cases e)⟩⟩
    case round =>
      obtain ⟨j, c, hj1, hj, rfl, rfl, rfl, rfl, hna⟩ := hrel
      by_cases hlt : j < N
      · obtain ⟨i, hij⟩ : ∃ i, j = i + 1 := ⟨j - 1, by omega⟩
        subst hij
        obtain ⟨bb, oo, s, ia, _, _, m0, _, _, _, hs, _⟩ := o1.rd.at_ (k := i + 1) (by rw [← HN.out]; exact hlt)
        obtain ⟨b2, o2, t, ia2, _, _, m1, _, _, _, ht, _⟩ := o1.rd.at_ (k := i) (by rw [← HN.out]; omega)
        have ia3 : ∀ W, (Instr.indexAt 26 x1 (.int .i64 ((i : Int) + 1))).run Try.prog W = .ok (.pointer (some ⟨bb, oo, none⟩)) W := ia
        have hw : IntKind.i64.wrap ((i : Int) + 1 - 1) = (i : Int) := by rw [show (i : Int) + 1 - 1 = (i : Int) by omega]; exact IntWalk.i64_in _ (by omega)
        have hw2 : IntKind.i64.wrap (i : Int) = (i : Int) := IntWalk.i64_in _ (by omega)
        by_cases hk : t.kind = 2 ∧ s.kind = 2
        · have ha := Lib.hid (adj_at ht.out hs.out hk.1 hk.2)
          rw [hk.2] at m0; rw [hk.1] at m1
          clear hk
          go_wp2
          go_roundg (N + 1 - (i + 1 + 1))
          case measure => omega
          case rel => exact ⟨i + 1 + 1, false, by omega, by omega, rfl, by go_num, rfl, rfl, Lib.hid ⟨fun e => (by cases e), fun _ => ha.out⟩⟩
        · have HNA : Hid ((c = true → NoAdj L0 (i + 1 + 1)) ∧ (c = false → Adj L0)) := Lib.hid ⟨fun e => noAdj_step (hna.out.1 e) (fun i' a b h1 h2 h3 => by
            obtain rfl : i' = i := by omega
            rw [ht.out] at h2; rw [hs.out] at h3
            injection h2 with h2; injection h3 with h3; subst h2; subst h3; exact hk), hna.out.2⟩
          by_cases hs2 : t.kind = 2
          · have ht2 : (s.kind == 2) = false := by rw [beq_eq_false_iff_ne]; exact fun e => hk ⟨hs2, e⟩
            rw [hs2] at m1
            clear hk hs2
            go_wp2
            go_roundg (N + 1 - (i + 1 + 1))
            case measure => omega
            case rel => exact ⟨i + 1 + 1, c, by omega, by omega, rfl, by go_num, rfl, rfl, HNA⟩
          · have ht2 : (t.kind == 2) = false := by rw [beq_eq_false_iff_ne]; exact hs2
            clear hk hs2
            go_wp2
            go_roundg (N + 1 - (i + 1 + 1))
            case measure => omega
            case rel => exact ⟨i + 1 + 1, c, by omega, by omega, rfl, by go_num, rfl, rfl, HNA⟩
      · have hge : N ≤ j := by omega
        cases c
        · have ha := hna.out.2 rfl
          have hr0 : r = false := by rw [HR.out.1]; simp [ha]
          have hL0 : L = [] := by rw [HR.out.2, hr0]; rfl
          subst hr0; subst hL0
          clear ha
          go_wp2
          go_ret2
          exact ⟨_, rfl, OwnK.nil _ _, B⟩
        · have ha : ¬ Adj L0 := fun ha => by
            obtain ⟨i, a, b, h1, h2, h3, h4⟩ := adj_iff.1 ha
            have hi := (List.getElem?_eq_some_iff.1 h2).1
            exact hna.out.1 rfl i a b (by have := HN.out; omega) h1 h2 ⟨h3, h4⟩
          have hr0 : r = true := by rw [HR.out.1]; simp [ha]
          have hL0 : L = L0 := by rw [HR.out.2, hr0]; rfl
          subst hr0; subst hL0
          clear ha
          go_wp2
          go_ret2
          exact ⟨_, rfl, o1, B⟩
end Go.Proofs.Ytbfmdbeeiicabaa
namespace Go.Proofs.Ytbfmdbeeiicabaa.L06
open L02 L05
def SupOk (W T : Int) : Prop := SizeOk W ∧ 0 ≤ T ∧ T ≤ 8
instance (W T : Int) : Decidable (SupOk W T) := inferInstanceAs (Decidable (SizeOk W ∧ 0 ≤ T ∧ T ≤ 8))
def supErr (W T : Int) : Int := if SupOk W T then 0 else 8
def magic : UInt64 := 32777959566500194
def u (n : Int) : UInt64 := UInt64.ofNat n.toNat
def body (W T : Int) : List UInt64 := [magic, 1, u W, u T, 0, 0, 0]
def wordsOf (W T : Int) : List UInt64 := body W T ++ [sum (body W T)]
def write (W T : Int) : List UInt64 := if SupOk W T then wordsOf W T else []
def at2 (l : List UInt64) : Int := (l.getD 2 0).toNat
def at3 (l : List UInt64) : Int := (l.getD 3 0).toNat
def ReadOk (l : List UInt64) : Prop := SupOk (at2 l) (at3 l) ∧ l = wordsOf (at2 l) (at3 l)
instance (l : List UInt64) : Decidable (ReadOk l) := inferInstanceAs (Decidable (SupOk (at2 l) (at3 l) ∧ l = wordsOf (at2 l) (at3 l)))
def rdW (l : List UInt64) : Int := if ReadOk l then at2 l else 0
def rdT (l : List UInt64) : Int := if ReadOk l then at3 l else 0
def rdErr (l : List UInt64) : Int := if l.length = 8 then (if ReadOk l then 0 else 50) else 2
theorem u_nat {n : Int} (h0 : 0 ≤ n) (h1 : n < 18446744073709551616) : ((u n).toNat : Int) = n := by
  unfold u; rw [UInt64.toNat_ofNat', Nat.mod_eq_of_lt (by omega)]; omega
theorem readOk_len {l : List UInt64} (h : ReadOk l) : l.length = 8 := by rw [h.2]; rfl
theorem rd_no {l : List UInt64} (h : ¬ ReadOk l) : rdW l = 0 ∧ rdT l = 0 := ⟨if_neg h, if_neg h⟩
/-! ### the sum tells one byte -/
end Go.Proofs.Ytbfmdbeeiicabaa.L06
