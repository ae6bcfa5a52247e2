/- Contracts of the functions that the laws 'N' reach, part 18. No condition. -/
import Derived.Test.YteejianjjpdimaaMNq
set_option linter.unusedVariables false
set_option linter.unusedSimpArgs false
namespace Go.Proofs.Yteejianjjpdimaa
open Go.RowKit L02 L13 L18 L20
/-- make([]T, n) for elements of several cells -/
theorem wpList_makeK {P : Program} {ops : Array Oper} {rest : List Oper} {o : Oper} {a : Act} {Q : Exit → Act → World → Prop} {w : World} (hgd : Region.wanted o (yielded ops a.tmps) = true) {l c : Operand} {t e sz by_ m : Nat} (ho : o.op = .makeSlice t l c)
    {z : Value} (hl : a.eval l = .int .i64 (m : Int)) (hc : a.eval c = .int .i64 (m : Int)) (ht : P.underlying t = some (.slice e))
    (hi : (P.info? e).map (fun i => (i.zero, i.size, i.bytes)) = some (some z, sz, by_)) (hby : by_ ≤ 64) (hn : m ≤ 1048576)
    (h : ∀ v' w', w'.ownsRow w.heap.size e sz v' m (madeCells z.cells (m * sz)).toList → Below w.heap.size w w' → wpList P ops Q rest (a.put o.dst v') w') : wpList P ops Q (o :: rest) a w := by
  obtain ⟨i, hi1, hi2, hi3, hi4⟩ := info3 hi
  have hbb : by_ * m ≤ 64 * 1048576 := Nat.mul_le_mul hby (by omega)
  obtain ⟨w', hrun, g1, g2⟩ := run_make_full (P := P) w w.heap.size t e i z sz ht hi1 hi2 hi3 .i64 .i64 m (by rw [hi4]; omega) (by unfold maxLen; omega) (Nat.le_refl _)
  refine wpList_wanted hgd fun K hK => ?_
  unfold Oper.wp
  simp [execOp, ho, hl, hc, hrun]
  exact hK _ _ (h _ w' g1 ((Below.refl _ _).grown g2 (Nat.le_refl _) (fun _ hk => by cases hk)))
structure NmR (W : World) (B gT cT gO cO gS sC : Nat) (z0 z1 x0 x1 : Value) : Prop where
  om : OwnM W B 48 (.slice (some ⟨gT, 0, none⟩) 2 cT) (.slice (some ⟨gO, 0, none⟩) 2 cO) (.slice (some ⟨gS, 0, none⟩) 16 sC) nmM
  ht : W.ownsRow B 41 1 (.slice (some ⟨gT, 0, none⟩) 2 cT) 2 [z0, z1]
  b0 : OwnB W B 5 z0 [3]
  b1 : OwnB W B 5 z1 [2, 1]
  ho : W.ownsRow B 45 2 (.slice (some ⟨gO, 0, none⟩) 2 cO) 2 [.int .i64 0, x0, .int .i64 0, x1]
  f0 : OwnW W B 46 x0 [2]
  f1 : OwnW W B 46 x1 [0]
  hO : B ≤ gO
  hS : B ≤ gS
section
variable {W W' : World} {B gT cT gO cO gS sC : Nat} {z0 z1 x0 x1 : Value}
theorem NmR.of {t o s : Value} (om : OwnM W B 48 t o s nmM) : ∃ gT cT gO cO gS sC z0 z1 x0 x1, t = .slice (some ⟨gT, 0, none⟩) 2 cT ∧ o = .slice (some ⟨gO, 0, none⟩) 2 cO ∧ s = .slice (some ⟨gS, 0, none⟩) 16 sC ∧ NmR W B gT cT gO cO gS sC z0 z1 x0 x1 := by
  obtain ⟨gT, cT, z0, z1, rfl, ht, hb0, hb1⟩ := nm_typs (a := [3]) (b := [2, 1]) om.t
  obtain ⟨gO, cO, x0, x1, rfl, hgO, hgO2, hO, hf0, hf1⟩ := nm_objs (a := ⟨0, [2]⟩) (b := ⟨0, [0]⟩) om.o
  obtain ⟨gS, n, sC, e, e2⟩ := om.s.form (by decide)
  have h16 : nmM.slots.length = 16 := rfl
  rw [e2, h16] at e; subst e
  exact ⟨gT, cT, gO, cO, gS, sC, z0, z1, x0, x1, rfl, rfl, rfl, om, ht, hb0, hb1, hO, hf0, hf1, hgO, (om.s.lt gS rfl).1⟩
theorem NmR.below (h : NmR W B gT cT gO cO gS sC z0 z1 x0 x1) (b : Below W.heap.size W W') : NmR W' B gT cT gO cO gS sC z0 z1 x0 x1 :=
  ⟨h.om.below b, own_below h.ht b, own_below h.b0 b, own_below h.b1 b, own_below h.ho b, own_below h.f0 b, own_below h.f1 b, h.hO, h.hS⟩
/-- the cells of the first object -/
theorem NmR.obj (h : NmR W B gT cT gO cO gS sC z0 z1 x0 x1) : (∀ V, (Instr.indexAt 23 (.slice (some ⟨gO, 0, none⟩) 2 cO) (.int .i64 0)).run Try.prog V = .ok (.pointer (some ⟨gO, 0, none⟩)) V) ∧ W.cell? ⟨gO, 0, none⟩ = some (.int .i64 0) ∧ W.cell? ⟨gO, 1, none⟩ = some x0 ∧ ∀ j, W.frozen? ⟨gO, j, none⟩ = false := by
  have ix := fun V => Rd.ixN (P := Try.prog) (Rd.of_own h.ho) (t := 23) Try.underlying23 size_obj2 (k := 0) (by omega) V
  have c0 := Rd.cell (Rd.of_own h.ho) (j := 0) (u := .int .i64 0) rfl
  have c1 := Rd.cell (Rd.of_own h.ho) (j := 1) (u := x0) rfl
  exact ⟨fun V => by have := ix V; simpa [cellAt] using this, by simpa [cellAt] using c0, by simpa [cellAt] using c1, fun j => World.ownsRow.frozenAt h.ho j⟩
theorem NmR.c4 (h : NmR W B gT cT gO cO gS sC z0 z1 x0 x1) : W.grownBy (W.setCell ⟨gO, 0, none⟩ (.int .i64 2)) (some gO) ∧ Mod (W.setCell ⟨gO, 0, none⟩ (.int .i64 2)) (.slice (some ⟨gT, 0, none⟩) 2 cT) (.slice (some ⟨gO, 0, none⟩) 2 cO) (.slice (some ⟨gS, 0, none⟩) 16 sC) (nmC 4) := by
  have st := World.ownsRow.stored h.ho 0 (.int .i64 2)
  have k0 : OwnW _ B 46 x0 [2] := World.ownsRow.kept h.f0 st.2 (by simpa [Value.ownBlock] using own_unlike h.f0 h.ho (by decide))
  exact ⟨st.2, nm_obj (a := ⟨0, [2]⟩) (b := ⟨0, [0]⟩) h.om.t h.om.s h.ho h.f1 st.2 st.1 k0.rd⟩
theorem NmR.c5 (h : NmR W B gT cT gO cO gS sC z0 z1 x0 x1) : W.grownBy (W.setCell ⟨gO, 1, none⟩ (.slice none 0 0)) (some gO) ∧ Mod (W.setCell ⟨gO, 1, none⟩ (.slice none 0 0)) (.slice (some ⟨gT, 0, none⟩) 2 cT) (.slice (some ⟨gO, 0, none⟩) 2 cO) (.slice (some ⟨gS, 0, none⟩) 16 sC) (nmC 5) := by
  have st := World.ownsRow.stored h.ho 1 (.slice none 0 0)
  exact ⟨st.2, nm_obj (a := ⟨0, [2]⟩) (b := ⟨0, [0]⟩) h.om.t h.om.s h.ho h.f1 st.2 st.1 (Rd.nil _ 1)⟩
theorem grown_two {w a b : World} {g : Nat} (h : w.grownBy a (some g)) (k : a.grownBy b (some g)) : w.grownBy b (some g) := by
  obtain ⟨h1, h2, h3, h4, h5⟩ := h
  obtain ⟨k1, k2, k3, k4, k5⟩ := k
  exact ⟨k1.trans h1, k2.trans h2, k3.trans h3, Nat.le_trans h4 k4, fun i hi hne => (k5 i (by omega) hne).trans (h5 i hi hne)⟩
theorem NmR.c7 {q : Nat} (h : NmR W B gT cT gO cO gS sC z0 z1 x0 x1) (hq : Bx W q 46 #[.int .u64 9221120237041090560, .int .u64 0]) :
    W.grownBy ((W.setCell ⟨gO, 0, none⟩ (.int .i64 1)).setCell ⟨gO, 1, none⟩ (.slice (some ⟨q, 0, none⟩) 2 2)) (some gO) ∧ Mod ((W.setCell ⟨gO, 0, none⟩ (.int .i64 1)).setCell ⟨gO, 1, none⟩ (.slice (some ⟨q, 0, none⟩) 2 2)) (.slice (some ⟨gT, 0, none⟩) 2 cT) (.slice (some ⟨gO, 0, none⟩) 2 cO) (.slice (some ⟨gS, 0, none⟩) 16 sC) (nmC 7) := by
  have st := World.ownsRow.stored h.ho 0 (.int .i64 1)
  have st2 := World.ownsRow.stored st.1 1 (.slice (some ⟨q, 0, none⟩) 2 2)
  have hg := grown_two st.2 st2.2
  have hrow : OwnW W 0 46 (.slice (some ⟨q, 0, none⟩) 2 2) [9221120237041090560, 0] := Bx.row hq (Nat.zero_le _) rfl (by omega)
  have k0 : OwnW _ 0 46 (.slice (some ⟨q, 0, none⟩) 2 2) [9221120237041090560, 0] := World.ownsRow.kept hrow hg (by simpa [Value.ownBlock] using own_unlike hrow h.ho (by decide))
  exact ⟨hg, nm_obj (a := ⟨0, [2]⟩) (b := ⟨0, [0]⟩) h.om.t h.om.s h.ho h.f1 hg st2.1 k0.rd⟩
theorem NmR.c6 (h : NmR W B gT cT gO cO gS sC z0 z1 x0 x1) : ∃ gf cf, x0 = .slice (some ⟨gf, 0, none⟩) 1 cf ∧ B ≤ gf ∧ (∀ V, (Instr.indexAt 43 (.slice (some ⟨gf, 0, none⟩) 1 cf) (.int .i64 0)).run Try.prog V = .ok (.pointer (some ⟨gf, 0, none⟩)) V) ∧ W.cell? ⟨gf, 0, none⟩ = some (.int .u64 2) ∧ W.frozen? ⟨gf, 0, none⟩ = false ∧
    W.grownBy (W.setCell ⟨gf, 0, none⟩ (.int .u64 3)) (some gf) ∧ Mod (W.setCell ⟨gf, 0, none⟩ (.int .u64 3)) (.slice (some ⟨gT, 0, none⟩) 2 cT) (.slice (some ⟨gO, 0, none⟩) 2 cO) (.slice (some ⟨gS, 0, none⟩) 16 sC) (nmC 6) := by
  obtain ⟨gf, cf, cur, e, hB, hgf, _⟩ := own_form h.f0 (by simp)
  have ix := fun V => Rd.ixN (P := Try.prog) (Rd.of_own h.f0) (t := 43) Try.underlying43 (by kernel_rfl) (k := 0) (by simp) V
  have c0 := Rd.cell (Rd.of_own h.f0) (j := 0) (u := .int .u64 2) rfl
  have hf0 := h.f0
  subst e
  have st := World.ownsRow.stored hf0 0 (.int .u64 3)
  refine ⟨gf, cf, rfl, hB, fun V => by have := ix V; simpa [cellAt] using this, by simpa [cellAt] using c0, World.ownsRow.frozenAt hf0 0, st.2, ?_⟩
  have hap : x1.ownBlock = none ∨ x1.ownBlock ≠ some gf := by
    cases hb : x1.ownBlock with
    | none => exact .inl rfl
    | some g0 =>
      refine .inr (fun e => ?_)
      injection e with e
      subst e
      obtain ⟨p0, q0, cur0, e0, _, _, _⟩ := own_form h.f1 (by simp)
      have c00 := Rd.cell (Rd.of_own h.f1) (j := 0) (u := .int .u64 0) rfl
      subst e0
      simp [Value.ownBlock] at hb
      subst hb
      rw [show cellAt (.slice (some ⟨p0, 0, none⟩) ([0] : List UInt64).length q0) 0 = ⟨p0, 0, none⟩ by simp [cellAt]] at c00
      rw [show cellAt (.slice (some ⟨p0, 0, none⟩) ([2] : List UInt64).length cf) 0 = ⟨p0, 0, none⟩ by simp [cellAt]] at c0
      rw [c00] at c0
      injection c0 with c0; injection c0 with _ c0; cases c0
  have hg := st.2
  have k1 : OwnW _ B 46 x1 [0] := World.ownsRow.kept h.f1 hg hap
  have ko := World.ownsRow.kept h.ho hg (by simpa [Value.ownBlock] using own_unlike h.ho hf0 (by decide))
  have kt : OwnT _ B _ nmM.types := OwnT.kept h.om.t hf0 (by simpa [Value.ownBlock] using hg) (by decide) (by decide)
  have ks := World.ownsRow.kept h.om.s hg (by simpa [Value.ownBlock] using own_unlike h.om.s hf0 (by decide))
  have h3 : (W.setCell ⟨gf, 0, none⟩ (.int .u64 3)).ownsRow B 46 1 (.slice (some ⟨gf, 0, none⟩) 1 cf) 1 [.int .u64 3] := st.1
  exact ⟨kt.rd, objs_two (a := ⟨0, [3]⟩) (b := ⟨0, [0]⟩) (Rd.of_own ko) (Rd.of_own h3) k1.rd, Rd.of_own ks⟩
theorem NmR.c3 (h : NmR W B gT cT gO cO gS sC z0 z1 x0 x1) : ∃ p q, z1 = .slice (some ⟨p, 0, none⟩) 2 q ∧ B ≤ p ∧ W.cell? ⟨p, 0, none⟩ = some (.int .u8 2) ∧ W.frozen? ⟨p, 0, none⟩ = false ∧ (∀ W, (Instr.indexAt 41 (.slice (some ⟨p, 0, none⟩) 2 q) (.int .i64 0)).run Try.prog W = .ok (.pointer (some ⟨p, 0, none⟩)) W) ∧ W.cell? ⟨gT, 1, none⟩ = some (.slice (some ⟨p, 0, none⟩) 2 q) ∧ (∀ W, (Instr.indexAt 22 (.slice (some ⟨gT, 0, none⟩) 2 cT) (.int .i64 1)).run Try.prog W = .ok (.pointer (some ⟨gT, 1, none⟩)) W) ∧
    W.grownBy (W.setCell ⟨p, 0, none⟩ (.int .u8 4)) (some p) ∧ Mod (W.setCell ⟨p, 0, none⟩ (.int .u8 4)) (.slice (some ⟨gT, 0, none⟩) 2 cT) (.slice (some ⟨gO, 0, none⟩) 2 cO) (.slice (some ⟨gS, 0, none⟩) 16 sC) (nmC 3) := by
  obtain ⟨p, q, e, hB, _, c, fz, ix, cT', ixT, hM⟩ := nm_byte h.ht h.b0 h.b1
  subst e
  obtain ⟨a, b⟩ := hM _ _ _ h.om
  exact ⟨p, q, rfl, hB, c, fz, ix, cT', ixT, a, b⟩
/-- the slots' cells -/
theorem NmR.slots (h : NmR W B gT cT gO cO gS sC z0 z1 x0 x1) : (∀ V, (Instr.indexAt 24 (.slice (some ⟨gS, 0, none⟩) 16 sC) (.int .i64 0)).run Try.prog V = .ok (.pointer (some ⟨gS, 0, none⟩)) V) ∧ (∀ V, (Instr.indexAt 24 (.slice (some ⟨gS, 0, none⟩) 16 sC) (.int .i64 5)).run Try.prog V = .ok (.pointer (some ⟨gS, 15, none⟩)) V) ∧
    W.cell? ⟨gS, 0, none⟩ = some (.int .i64 1) ∧ W.cell? ⟨gS, 2, none⟩ = some (.int .i64 0) ∧ W.cell? ⟨gS, 17, none⟩ = some (.int .i64 0) ∧ ∀ j, W.frozen? ⟨gS, j, none⟩ = false := by
  obtain ⟨i0, a0, a1, a2⟩ := OwnS.cells (k := 0) (s := ⟨1, true, 0⟩) h.om.s rfl
  obtain ⟨i5, b0, b1, b2⟩ := OwnS.cells (k := 5) (s := ⟨0, false, 0⟩) h.om.s rfl
  exact ⟨i0, i5, a0, a2, b2, fun j => World.ownsRow.frozenAt (show W.ownsRow B 48 3 (.slice (some ⟨gS, 0, none⟩) 16 sC) 16 _ from h.om.s) j⟩
theorem NmR.cS (h : NmR W B gT cT gO cO gS sC z0 z1 x0 x1) {k : Nat} {u : Value} {S' : List Sl} (hS' : S'.length = 16) (e : (tabL nmM.slots).set k u = tabL S') :
    W.grownBy (W.setCell ⟨gS, k, none⟩ u) (some gS) ∧ Mod (W.setCell ⟨gS, k, none⟩ u) (.slice (some ⟨gT, 0, none⟩) 2 cT) (.slice (some ⟨gO, 0, none⟩) 2 cO) (.slice (some ⟨gS, 0, none⟩) 16 sC) ⟨nmM.types, nmM.objs, S'⟩ := by
  obtain ⟨a, b⟩ := nm_slot (T := nmM.types) (O := nmM.objs) (S := nmM.slots) h.om rfl hS' e
  exact ⟨a, b.rd⟩
end
end Go.Proofs.Yteejianjjpdimaa
namespace Go.Proofs.Yteejianjjpdimaa
open Go.RowKit L02 L13 L18 L20
def rbH0 : Array Value := #[.int .i64 0, .int .i64 0]
def rbHn (h : Int × Int) : Array Value := #[.int .i64 h.1, .int .i64 h.2]
def rbS2 (w : World) (p : Nat) (h : Int × Int) : World := (w.setCell ⟨p, 0, none⟩ (.int .i64 h.1)).setCell ⟨p, 1, none⟩ (.int .i64 h.2)
def rbM : Array Value := #[.slice none 0 0, .slice none 0 0, .slice none 0 0]
def rbS3 (w : World) (p : Nat) (a b c : Value) : World := ((w.setCell ⟨p, 0, none⟩ a).setCell ⟨p, 1, none⟩ b).setCell ⟨p, 2, none⟩ c
theorem Bx.rbp2 {w : World} {p : Nat} {t : TypeId} {x y : Value} (h : Bx w p t #[x, y]) (s : Int × Int) : Bx (rbS2 w p s) p t (rbHn s) := by
  have := (h.set (i := 0) (.int .i64 s.1)).set (i := 1) (.int .i64 s.2)
  simpa [rbS2, rbHn] using this
theorem Bx.rbp3 {w : World} {p : Nat} {t : TypeId} {x y z : Value} (h : Bx w p t #[x, y, z]) (a b c : Value) : Bx (rbS3 w p a b c) p t #[a, b, c] := by
  have := ((h.set (i := 0) a).set (i := 1) b).set (i := 2) c
  simpa [rbS3] using this
theorem Bx.rbf2 {w : World} {g p : Nat} {t : TypeId} {cs : Array Value} (h : Bx w g t cs) (hne : g ≠ p) (s : Int × Int) : Bx (rbS2 w p s) g t cs := (h.far (p := ⟨p, 0, none⟩) hne _).far (p := ⟨p, 1, none⟩) hne _
theorem Bx.rbf3 {w : World} {g p : Nat} {t : TypeId} {cs : Array Value} (h : Bx w g t cs) (hne : g ≠ p) (a b c : Value) : Bx (rbS3 w p a b c) g t cs := ((h.far (p := ⟨p, 0, none⟩) hne _).far (p := ⟨p, 1, none⟩) hne _).far (p := ⟨p, 2, none⟩) hne _
theorem below_rbS2 {B : Nat} {w0 w : World} {p : Nat} (h : Below B w0 w) (hp : B ≤ p) (s : Int × Int) : Below B w0 (rbS2 w p s) := (h.setCell (p := ⟨p, 0, none⟩) hp _).setCell (p := ⟨p, 1, none⟩) hp _
theorem below_rbS3 {B : Nat} {w0 w : World} {p : Nat} (h : Below B w0 w) (hp : B ≤ p) (a b c : Value) : Below B w0 (rbS3 w p a b c) := ((h.setCell (p := ⟨p, 0, none⟩) hp _).setCell (p := ⟨p, 1, none⟩) hp _).setCell (p := ⟨p, 2, none⟩) hp _
/-- what stays when nothing is changed but blocks of models and handles -/
structure RbSt (R : World → Prop) : Prop where
  below : ∀ W W', R W → Below W.heap.size W W' → R W'
  set : ∀ W p t cs i u, t = 26 ∨ t = 50 → Bx W p t cs → R W → R (W.setCell ⟨p, i, none⟩ u)
theorem RbSt.own (B e sz n : Nat) (v : Value) (xs : List Value) (h1 : e ≠ 26) (h2 : e ≠ 50) : RbSt (fun W => W.ownsRow B e sz v n xs) :=
  ⟨fun W W' h hb => own_below h hb, fun W p t cs i u ht hb h => own_set h hb (by rcases ht with rfl | rfl <;> assumption)⟩
theorem RbSt.words (B : Nat) (v : Value) (l : List UInt64) : RbSt (fun W => OwnW W B 46 v l) := RbSt.own _ _ _ _ _ _ (by decide) (by decide)
theorem RbSt.model (B : Nat) (t o s : Value) (m : Mo) : RbSt (fun W => OwnM W B 48 t o s m) :=
  ⟨fun W W' h hb => h.below hb, fun W p t cs i u ht hb h => by
    rcases ht with rfl | rfl
    · exact ⟨h.t.set hb (by decide) (by decide), h.o.set hb (by decide) (by decide), own_set h.s hb (by decide)⟩
    · exact ⟨h.t.set hb (by decide) (by decide), h.o.set hb (by decide) (by decide), own_set h.s hb (by decide)⟩⟩
theorem RbSt.and {R S : World → Prop} (h : RbSt R) (k : RbSt S) : RbSt (fun W => R W ∧ S W) :=
  ⟨fun W W' a hb => ⟨h.below W W' a.1 hb, k.below W W' a.2 hb⟩, fun W p t cs i u ht hb a => ⟨h.set W p t cs i u ht hb a.1, k.set W p t cs i u ht hb a.2⟩⟩
theorem RbSt.imp {p : Prop} {R : World → Prop} (h : RbSt R) : RbSt (fun W => p → R W) :=
  ⟨fun W W' a hb hp => h.below W W' (a hp) hb, fun W q t cs i u ht hb a hp => h.set W q t cs i u ht hb (a hp)⟩
theorem RbSt.triv : RbSt (fun _ => True) := ⟨fun _ _ _ _ => trivial, fun _ _ _ _ _ _ _ _ _ => trivial⟩
theorem RbSt.rbS2 {R : World → Prop} (h : RbSt R) {W : World} {p : Nat} {cs : Array Value} (s : Int × Int) (hb : Bx W p 50 cs) (hr : R W) : R (Proofs.Yteejianjjpdimaa.rbS2 W p s) :=
  h.set _ p _ _ 1 _ (.inr rfl) (hb.set (i := 0) _) (h.set _ p _ _ 0 _ (.inr rfl) hb hr)
theorem RbSt.rbS3 {R : World → Prop} (h : RbSt R) {W : World} {p : Nat} {cs : Array Value} (a b c : Value) (hb : Bx W p 26 cs) (hr : R W) : R (rbS3 W p a b c) :=
  h.set _ p _ _ 2 _ (.inl rfl) ((hb.set (i := 0) _).set (i := 1) _) (h.set _ p _ _ 1 _ (.inl rfl) (hb.set (i := 0) _) (h.set _ p _ _ 0 _ (.inl rfl) hb hr))
structure GR where
  tA : Option Addr
  tn : Nat
  tc : Nat
  oA : Option Addr
  on : Nat
  oc : Nat
  sA : Option Addr
  sn : Nat
  sc : Nat
  c1 : Int
  c2 : Int
def GR.m (g : GR) : Value × Value × Value := (.slice g.tA g.tn g.tc, .slice g.oA g.on g.oc, .slice g.sA g.sn g.sc)
def GR.v (r : Int) (g : GR) : Value := .tuple #[.agg #[.slice g.tA g.tn g.tc, .slice g.oA g.on g.oc, .slice g.sA g.sn g.sc], .agg #[.int .i64 g.c1, .int .i64 g.c2], .int .i64 r]
def FR2 (w : World) (Rg : GR → World → Prop) (g : GR × Nat × Nat) (φ : Nat → Bool) (W : World) : Prop :=
  Below w.heap.size w W ∧ (φ 2 = true → Rg g.1 W) ∧ (φ 9 = true → φ 7 = true ∧ φ 2 = true) ∧ (φ 10 = true → φ 8 = true ∧ φ 2 = true) ∧ (φ 7 = true → w.heap.size ≤ g.2.1 ∧ Bx W g.2.1 26 (if φ 9 = true then #[g.1.m.1, g.1.m.2.1, g.1.m.2.2] else rbM)) ∧
    (φ 8 = true → w.heap.size ≤ g.2.2 ∧ Bx W g.2.2 50 (if φ 10 = true then rbHn (g.1.c1, g.1.c2) else rbH0)) ∧ (φ 7 = true → φ 8 = true → g.2.1 ≠ g.2.2)
def valR2 (n r : Int) (g : GR × Nat × Nat) (k : Nat) : Value := if k = 1 then .agg #[.int .i64 n, .int .i64 1] else if k = 2 then GR.v r g.1 else if k = 7 then .pointer (some ⟨g.2.1, 0, none⟩) else .pointer (some ⟨g.2.2, 0, none⟩)
def AgR2 (φ : Nat → Bool) (g g' : GR × Nat × Nat) : Prop := (φ 2 = true ∨ φ 9 = true ∨ φ 10 = true → g.1 = g'.1) ∧ (φ 7 = true → g.2.1 = g'.2.1) ∧ (φ 8 = true → g.2.2 = g'.2.2)
def TR2 (n : Int) (f : FuncId) (av : Array Value) (k : Nat) (s : Sem Next) : Prop := if k = 1 then ∀ W, s.run Try.prog W = .ok (.enter 17 #[.int .i64 n]) W else if k = 2 then ∀ W, s.run Try.prog W = .ok (.enter f av) W else if k = 7 then ∀ W, s.run Try.prog W = .ok (.value (.pointer (some ⟨W.heap.size, 0, none⟩))) (W.alloc (.cells rbM 26)) else ∀ W, s.run Try.prog W = .ok (.value (.pointer (some ⟨W.heap.size, 0, none⟩))) (W.alloc (.cells rbH0 50))
section
variable {w : World} {Rg : GR → World → Prop} {g g' : GR × Nat × Nat} {φ : Nat → Bool} {W W' : World}
theorem FR2.dep : Dep (FR2 w Rg g) [2, 7, 8, 9, 10] := by
  rintro φ ψ W h ⟨h1, h2, h3, h4, h5, h6, h7⟩
  have e1 := h 2 (by simp); have e2 := h 7 (by simp); have e3 := h 8 (by simp); have e4 := h 9 (by simp); have e5 := h 10 (by simp)
  rw [e1] at h2; rw [e4, e2, e1] at h3; rw [e5, e3, e1] at h4; rw [e2, e4] at h5; rw [e3, e5] at h6; rw [e2, e3] at h7
  exact ⟨h1, h2, h3, h4, h5, h6, h7⟩
theorem FR2.agree (hA : AgR2 φ g g') (h : FR2 w Rg g φ W) : FR2 w Rg g' φ W := by
  obtain ⟨h1, h2, h3, h4, h5, h6, h7⟩ := h
  refine ⟨h1, fun e => by rw [← hA.1 (.inl e)]; exact h2 e, h3, h4, fun e => ?_, fun e => ?_, fun e e2 => by rw [← hA.2.1 e, ← hA.2.2 e2]; exact h7 e e2⟩
  · rw [← hA.2.1 e]
    by_cases e4 : φ 9 = true
    · have := h5 e; rw [if_pos e4] at this ⊢; rw [← hA.1 (.inr (.inl e4))]; exact this
    · have := h5 e; rw [if_neg e4] at this ⊢; exact this
  · rw [← hA.2.2 e]
    by_cases e4 : φ 10 = true
    · have := h6 e; rw [if_pos e4] at this ⊢; rw [← hA.1 (.inr (.inr e4))]; exact this
    · have := h6 e; rw [if_neg e4] at this ⊢; exact this
theorem FR2.start : FR2 w Rg g (fun _ => false) w.drew := ⟨(Below.refl _ w).drew, fun e => (by cases e), fun e => (by cases e), fun e => (by cases e), fun e => (by cases e), fun e => (by cases e), fun e => (by cases e)⟩
theorem FR2.below (hS : ∀ g, RbSt (Rg g)) (h : FR2 w Rg g φ W) (hb : Below W.heap.size W W') : FR2 w Rg g φ W' := by
  obtain ⟨h1, h2, h3, h4, h5, h6, h7⟩ := h
  exact ⟨h1.trans (hb.mono h1.size), fun e => (hS _).below _ _ (h2 e) hb, h3, h4, fun e => ⟨(h5 e).1, (h5 e).2.below hb⟩, fun e => ⟨(h6 e).1, (h6 e).2.below hb⟩, h7⟩
theorem FR2.alloc1 (hS : ∀ g, RbSt (Rg g)) (h : FR2 w Rg g φ W) (h0 : φ 7 = false) : FR2 w Rg (g.1, W.heap.size, g.2.2) (fun j => j == 7 || φ j) (W.alloc (.cells rbM 26)) := by
  obtain ⟨h1, h2, h3, h4, h5, h6, h7⟩ := h
  have h16 : φ 9 = false := by
    cases e : φ 9
    · rfl
    · rw [(h3 e).1] at h0; cases h0
  have hb : Below W.heap.size W (W.alloc (.cells rbM 26)) := (Below.refl _ _).alloc (Nat.le_refl _) _
  refine ⟨h1.alloc h1.size _, fun e => (hS _).below _ _ (h2 (by simpa using e)) hb, fun e => ⟨by simp, by simpa using (h3 (by simpa using e)).2⟩, fun e => by simpa using h4 (by simpa using e), fun _ => ⟨h1.size, ?_⟩, fun e => ?_, fun _ e => ?_⟩
  · simp [h16]; exact Bx.new _ _ _
  · obtain ⟨a1, a2⟩ := h6 (by simpa using e)
    exact ⟨a1, by simpa using a2.alloc _⟩
  · have := (h6 (by simpa using e)).2.lt
    show W.heap.size ≠ g.2.2; omega
theorem FR2.alloc2 (hS : ∀ g, RbSt (Rg g)) (h : FR2 w Rg g φ W) (h0 : φ 8 = false) : FR2 w Rg (g.1, g.2.1, W.heap.size) (fun j => j == 8 || φ j) (W.alloc (.cells rbH0 50)) := by
  obtain ⟨h1, h2, h3, h4, h5, h6, h7⟩ := h
  have h16 : φ 10 = false := by
    cases e : φ 10
    · rfl
    · rw [(h4 e).1] at h0; cases h0
  have hb : Below W.heap.size W (W.alloc (.cells rbH0 50)) := (Below.refl _ _).alloc (Nat.le_refl _) _
  refine ⟨h1.alloc h1.size _, fun e => (hS _).below _ _ (h2 (by simpa using e)) hb, fun e => by simpa using h3 (by simpa using e), fun e => ⟨by simp, by simpa using (h4 (by simpa using e)).2⟩, fun e => ?_, fun _ => ⟨h1.size, ?_⟩, fun e _ => ?_⟩
  · obtain ⟨a1, a2⟩ := h5 (by simpa using e)
    exact ⟨a1, by simpa using a2.alloc _⟩
  · simp [h16]; exact Bx.new _ _ _
  · have := (h5 (by simpa using e)).2.lt
    show g.2.1 ≠ W.heap.size; omega
theorem FR2.store1 (hS : ∀ g, RbSt (Rg g)) (h : FR2 w Rg g φ W) (h8 : φ 7 = true) (h9 : φ 2 = true) (h0 : φ 9 = false) :
    (∀ i, W.cell? ⟨g.2.1, i, none⟩ = rbM[i]?) ∧ (∀ i, W.frozen? ⟨g.2.1, i, none⟩ = false) ∧ FR2 w Rg g (fun j => j == 9 || φ j) (rbS3 W g.2.1 g.1.m.1 g.1.m.2.1 g.1.m.2.2) := by
  obtain ⟨h1, h2, h3, h4, h5, h6, h7⟩ := h
  obtain ⟨a1, a2⟩ := h5 h8
  rw [h0] at a2
  have a3 : Bx W g.2.1 26 rbM := a2
  refine ⟨a3.cell, a3.free, below_rbS3 h1 a1 _ _ _, fun e => (hS _).rbS3 _ _ _ a3 (h2 (by simpa using e)), fun _ => ⟨by simpa using h8, by simpa using h9⟩, fun e => by simpa using h4 (by simpa using e), fun _ => ⟨a1, by simpa using Bx.rbp3 a3 g.1.m.1 g.1.m.2.1 g.1.m.2.2⟩, fun e => ?_, fun _ e => h7 h8 (by simpa using e)⟩
  obtain ⟨c1, c2⟩ := h6 (by simpa using e)
  exact ⟨c1, by simpa using c2.rbf3 (Ne.symm (h7 h8 (by simpa using e))) _ _ _⟩
theorem FR2.store2 (hS : ∀ g, RbSt (Rg g)) (h : FR2 w Rg g φ W) (h8 : φ 8 = true) (h9 : φ 2 = true) (h0 : φ 10 = false) :
    (∀ i, W.cell? ⟨g.2.2, i, none⟩ = rbH0[i]?) ∧ (∀ i, W.frozen? ⟨g.2.2, i, none⟩ = false) ∧ FR2 w Rg g (fun j => j == 10 || φ j) (rbS2 W g.2.2 (g.1.c1, g.1.c2)) := by
  obtain ⟨h1, h2, h3, h4, h5, h6, h7⟩ := h
  obtain ⟨a1, a2⟩ := h6 h8
  rw [h0] at a2
  have a3 : Bx W g.2.2 50 rbH0 := a2
  refine ⟨a3.cell, a3.free, below_rbS2 h1 a1 _, fun e => (hS _).rbS2 _ a3 (h2 (by simpa using e)), fun e => by simpa using h3 (by simpa using e), fun _ => ⟨by simpa using h8, by simpa using h9⟩, fun e => ?_, fun _ => ⟨a1, by simpa using Bx.rbp2 a3 (g.1.c1, g.1.c2)⟩, fun e _ => h7 (by simpa using e) h8⟩
  obtain ⟨c1, c2⟩ := h5 (by simpa using e)
  exact ⟨c1, by simpa using c2.rbf2 (h7 (by simpa using e) h8) _⟩
theorem FXN.belowR2 (x : FXN (FR2 w Rg g)) : Below w.heap.size w x.W := by obtain ⟨V, φ, hF⟩ := x; exact hF.1
end
theorem FR2.other {w : World} {Rg : GR → World → Prop} {g : GR × Nat × Nat} {φ : Nat → Bool} {W : World} (h : FR2 w Rg g φ W) : FR2 w Rg g (fun i => i == 1 || φ i) W := FR2.dep _ _ _ (fun j hj => by
  simp only [List.mem_cons, List.not_mem_nil, or_false] at hj
  rcases hj with rfl | rfl | rfl | rfl | rfl <;> simp) h
theorem wp_region_R2 {id : Nat} {Q : Exit → Act → World → Prop} {ac : Act} {w : World} {l : List Oper} (n r : Int) (Rg : GR → World → Prop) (hS : ∀ g, RbSt (Rg g)) (f : FuncId) (av : Array Value)
    (hm : (Try.prog).follows .mixedOrders = true) (hB : Region.lexB .any l.toArray = true)
    (hf : (([1, 2, 7, 8, 9, 10] : List Nat).all fun j => (setAll l.length 0 (Array.replicate l.length false)).getD j false) = true)
    (hnj : (([1, 2, 7, 8] : List Nat).all fun k => ([1, 2, 7, 8, 9, 10] : List Nat).contains k && match l.toArray[k]? with | some o => (([] : List Nat)).all (fun j => o.after.any fun e => Region.binds .any e && e.on == j) | none => false) = true)
    (hc : ∀ W, Below w.heap.size w W → Calls Try.prog f av W fun e W' => ∃ g : GR, e = .returned (GR.v r g) ∧ Rg g W' ∧ Below W.heap.size W W')
    (h : ∀ g, wpM Try.prog .any l.toArray (CN (FR2 w Rg g)) (fun i => ([1, 2, 7, 8] : List Nat).contains i) (valR2 n r g) (TR2 n f av) (fun a' => ∀ w', FR2 w Rg g (fun _ => true) w' → Q .normal a' w') l 0 ac) : (Code.region id l.toArray true).wp Try.prog Q ac w := by
  refine wp_region_M (G := GR × Nat × Nat) (valR2 n r) AgR2 (FR2 w Rg) [1, 2, 7, 8, 9, 10] [1, 2, 7, 8] (fun _ => []) (TR2 n f av) (⟨none, 0, 0, none, 0, 0, none, 0, 0, 0, 0⟩, 0, 0) (fun g => fun φ ψ W hh hF => FR2.dep φ ψ W (fun j hj => hh j (List.mem_cons_of_mem _ hj)) hF) hm hB hf hnj
    (fun φ ψ g g' he h => ⟨fun e => h.1 (by rw [he 2 (by simp), he 9 (by simp), he 10 (by simp)]; exact e), fun e => h.2.1 (by rw [he 7 (by simp)]; exact e), fun e => h.2.2 (by rw [he 8 (by simp)]; exact e)⟩) (fun φ g => ⟨fun _ => rfl, fun _ => rfl, fun _ => rfl⟩) (fun φ g g' g'' h1 h2 => ⟨fun e => (h1.1 e).trans (h2.1 e), fun e => (h1.2.1 e).trans (h2.2.1 e), fun e => (h1.2.2 e).trans (h2.2.2 e)⟩) (fun φ k g g' h hk => ⟨fun e => h.1 (by rcases e with e | e | e <;> simp [e]), fun e => h.2.1 (by simp [e]), fun e => h.2.2 (by simp [e])⟩) ?_ (fun φ g g' W h hF => FR2.agree h hF) (fun g => ⟨fun e => (by rcases e with e | e | e <;> cases e), fun e => (by cases e), fun e => (by cases e)⟩) FR2.start ?_ h
  · intro φ k g g' hk h0 hA
    simp only [List.mem_cons, List.not_mem_nil, or_false] at hk
    rcases hk with rfl | rfl | rfl | rfl
    · rfl
    · have e := hA.1 (by simp)
      simp [valR2, e]
    · have e := hA.2.1 (by simp)
      simp [valR2, e]
    · have e := hA.2.2 (by simp)
      simp [valR2, e]
  · intro k s φ W g hk hT h0 _ hF
    simp only [List.mem_cons, List.not_mem_nil, or_false] at hk
    rcases hk with rfl | rfl | rfl | rfl
    · have hT' : ∀ W, s.run Try.prog W = .ok (.enter 17 #[.int .i64 n]) W := hT
      rw [hT' W]
      refine (slot20_any n W).mono ?_
      rintro e W' ⟨rfl, bb⟩
      exact ⟨_, rfl, g, ⟨fun _ => rfl, fun _ => rfl, fun _ => rfl⟩, rfl, (hF.below hS bb).other⟩
    · have hT' : ∀ W, s.run Try.prog W = .ok (.enter f av) W := hT
      rw [hT' W]
      refine (hc W hF.1).mono fun e W' ⟨q, e1, e2, e3⟩ => ⟨_, e1, (q, g.2), ⟨fun e => ?_, fun _ => rfl, fun _ => rfl⟩, rfl, ?_⟩
      · rcases e with e | e | e
        · rw [h0] at e; cases e
        · rw [(hF.2.2.1 e).2] at h0; cases h0
        · rw [(hF.2.2.2.1 e).2] at h0; cases h0
      · have hb := hF.below hS e3
        obtain ⟨k1, k2, k3, k4, k5, k6, k7⟩ := hb
        have n16 : φ 9 = false := by
          cases e : φ 9
          · rfl
          · rw [(k3 e).2] at h0; cases h0
        have n17 : φ 10 = false := by
          cases e : φ 10
          · rfl
          · rw [(k4 e).2] at h0; cases h0
        rw [n16] at k5; rw [n17] at k6
        refine ⟨k1, fun _ => e2, fun e => ?_, fun e => ?_, fun e => ?_, fun e => ?_, fun a b => k7 (by simpa using a) (by simpa using b)⟩
        · have : φ 9 = true := by simpa using e
          rw [n16] at this; cases this
        · have : φ 10 = true := by simpa using e
          rw [n17] at this; cases this
        · have := k5 (by simpa using e)
          simpa [n16] using this
        · have := k6 (by simpa using e)
          simpa [n17] using this
    · have hT' : ∀ W, s.run Try.prog W = .ok (.value (.pointer (some ⟨W.heap.size, 0, none⟩))) (W.alloc (.cells rbM 26)) := hT
      rw [hT' W]
      exact ⟨(g.1, W.heap.size, g.2.2), ⟨fun _ => rfl, fun e => (by rw [h0] at e; cases e), fun _ => rfl⟩, rfl, hF.alloc1 hS h0⟩
    · have hT' : ∀ W, s.run Try.prog W = .ok (.value (.pointer (some ⟨W.heap.size, 0, none⟩))) (W.alloc (.cells rbH0 50)) := hT
      rw [hT' W]
      exact ⟨(g.1, g.2.1, W.heap.size), ⟨fun _ => rfl, fun _ => rfl, fun e => (by rw [h0] at e; cases e)⟩, rfl, hF.alloc2 hS h0⟩
theorem FR2.call {w : World} {Rg : GR → World → Prop} (hS : ∀ g, RbSt (Rg g)) {g : GR × Nat × Nat} {f : FuncId} {args : Array Value} {v : Value} {x : FXN (FR2 w Rg g)} (h : Calls Try.prog f args x.W fun e w' => e = .returned v ∧ Below x.W.heap.size x.W w') :
    Calls Try.prog f args x.W fun e w'' => e = .returned v ∧ ∃ y : FXN (FR2 w Rg g), w'' = y.W := by
  obtain ⟨V, φ, hF⟩ := x
  exact h.mono fun e w' ⟨he, hb⟩ => ⟨he, ⟨w', φ, FR2.below hS hF hb⟩, rfl⟩
end Go.Proofs.Yteejianjjpdimaa
namespace Go.Proofs.Yteejianjjpdimaa
open Go.RowKit L02 L13 L18 L20
def GR.v1 (r : Int) (g : GR) : Value := .tuple #[.agg #[.slice g.tA g.tn g.tc, .slice g.oA g.on g.oc, .slice g.sA g.sn g.sc], .int .i64 r]
def FR1 (w : World) (Rg : GR → World → Prop) (g : GR × Nat) (φ : Nat → Bool) (W : World) : Prop :=
  Below w.heap.size w W ∧ (φ 2 = true → Rg g.1 W) ∧ (φ 7 = true → φ 6 = true ∧ φ 2 = true) ∧ (φ 6 = true → w.heap.size ≤ g.2 ∧ Bx W g.2 26 (if φ 7 = true then #[g.1.m.1, g.1.m.2.1, g.1.m.2.2] else rbM))
def valR1 (n r : Int) (g : GR × Nat) (k : Nat) : Value := if k = 1 then .agg #[.int .i64 n, .int .i64 1] else if k = 2 then g.1.v1 r else .pointer (some ⟨g.2, 0, none⟩)
def AgR1 (φ : Nat → Bool) (g g' : GR × Nat) : Prop := (φ 2 = true ∨ φ 7 = true → g.1 = g'.1) ∧ (φ 6 = true → g.2 = g'.2)
def TR1 (n : Int) (f : FuncId) (av : Array Value) (k : Nat) (s : Sem Next) : Prop := if k = 1 then ∀ W, s.run Try.prog W = .ok (.enter 17 #[.int .i64 n]) W else if k = 2 then ∀ W, s.run Try.prog W = .ok (.enter f av) W else ∀ W, s.run Try.prog W = .ok (.value (.pointer (some ⟨W.heap.size, 0, none⟩))) (W.alloc (.cells rbM 26))
section
variable {w : World} {Rg : GR → World → Prop} {g g' : GR × Nat} {φ : Nat → Bool} {W W' : World}
theorem FR1.dep : Dep (FR1 w Rg g) [2, 6, 7] := by
  rintro φ ψ W h ⟨h1, h2, h3, h5⟩
  have e1 := h 2 (by simp); have e2 := h 6 (by simp); have e4 := h 7 (by simp)
  rw [e1] at h2; rw [e4, e2, e1] at h3; rw [e2, e4] at h5
  exact ⟨h1, h2, h3, h5⟩
theorem FR1.agree (hA : AgR1 φ g g') (h : FR1 w Rg g φ W) : FR1 w Rg g' φ W := by
  obtain ⟨h1, h2, h3, h5⟩ := h
  refine ⟨h1, fun e => by rw [← hA.1 (.inl e)]; exact h2 e, h3, fun e => ?_⟩
  rw [← hA.2 e]
  by_cases e4 : φ 7 = true
  · have := h5 e; rw [if_pos e4] at this ⊢; rw [← hA.1 (.inr e4)]; exact this
  · have := h5 e; rw [if_neg e4] at this ⊢; exact this
theorem FR1.start : FR1 w Rg g (fun _ => false) w.drew := ⟨(Below.refl _ w).drew, fun e => (by cases e), fun e => (by cases e), fun e => (by cases e)⟩
theorem FR1.below (hS : ∀ g, RbSt (Rg g)) (h : FR1 w Rg g φ W) (hb : Below W.heap.size W W') : FR1 w Rg g φ W' := by
  obtain ⟨h1, h2, h3, h5⟩ := h
  exact ⟨h1.trans (hb.mono h1.size), fun e => (hS _).below _ _ (h2 e) hb, h3, fun e => ⟨(h5 e).1, (h5 e).2.below hb⟩⟩
theorem FR1.alloc1 (hS : ∀ g, RbSt (Rg g)) (h : FR1 w Rg g φ W) (h0 : φ 6 = false) : FR1 w Rg (g.1, W.heap.size) (fun j => j == 6 || φ j) (W.alloc (.cells rbM 26)) := by
  obtain ⟨h1, h2, h3, h5⟩ := h
  have h16 : φ 7 = false := by
    cases e : φ 7
    · rfl
    · rw [(h3 e).1] at h0; cases h0
  have hb : Below W.heap.size W (W.alloc (.cells rbM 26)) := (Below.refl _ _).alloc (Nat.le_refl _) _
  refine ⟨h1.alloc h1.size _, fun e => (hS _).below _ _ (h2 (by simpa using e)) hb, fun e => ⟨by simp, by simpa using (h3 (by simpa using e)).2⟩, fun _ => ⟨h1.size, ?_⟩⟩
  simp [h16]; exact Bx.new _ _ _
theorem FR1.store1 (hS : ∀ g, RbSt (Rg g)) (h : FR1 w Rg g φ W) (h8 : φ 6 = true) (h9 : φ 2 = true) (h0 : φ 7 = false) :
    (∀ i, W.cell? ⟨g.2, i, none⟩ = rbM[i]?) ∧ (∀ i, W.frozen? ⟨g.2, i, none⟩ = false) ∧ FR1 w Rg g (fun j => j == 7 || φ j) (rbS3 W g.2 g.1.m.1 g.1.m.2.1 g.1.m.2.2) := by
  obtain ⟨h1, h2, h3, h5⟩ := h
  obtain ⟨a1, a2⟩ := h5 h8
  rw [h0] at a2
  have a3 : Bx W g.2 26 rbM := a2
  exact ⟨a3.cell, a3.free, below_rbS3 h1 a1 _ _ _, fun e => (hS _).rbS3 _ _ _ a3 (h2 (by simpa using e)), fun _ => ⟨by simpa using h8, by simpa using h9⟩, fun _ => ⟨a1, by simpa using Bx.rbp3 a3 g.1.m.1 g.1.m.2.1 g.1.m.2.2⟩⟩
theorem FXN.belowR1 (x : FXN (FR1 w Rg g)) : Below w.heap.size w x.W := by obtain ⟨V, φ, hF⟩ := x; exact hF.1
end
theorem FR1.other {w : World} {Rg : GR → World → Prop} {g : GR × Nat} {φ : Nat → Bool} {W : World} (h : FR1 w Rg g φ W) : FR1 w Rg g (fun i => i == 1 || φ i) W := FR1.dep _ _ _ (fun j hj => by
  simp only [List.mem_cons, List.not_mem_nil, or_false] at hj
  rcases hj with rfl | rfl | rfl <;> simp) h
theorem wp_region_R1 {id : Nat} {Q : Exit → Act → World → Prop} {ac : Act} {w : World} {l : List Oper} (n r : Int) (Rg : GR → World → Prop) (hS : ∀ g, RbSt (Rg g)) (f : FuncId) (av : Array Value)
    (hm : (Try.prog).follows .mixedOrders = true) (hB : Region.lexB .any l.toArray = true)
    (hf : (([1, 2, 6, 7] : List Nat).all fun j => (setAll l.length 0 (Array.replicate l.length false)).getD j false) = true)
    (hnj : (([1, 2, 6] : List Nat).all fun k => ([1, 2, 6, 7] : List Nat).contains k && match l.toArray[k]? with | some o => (([] : List Nat)).all (fun j => o.after.any fun e => Region.binds .any e && e.on == j) | none => false) = true)
    (hc : ∀ W, Below w.heap.size w W → Calls Try.prog f av W fun e W' => ∃ g : GR, e = .returned (GR.v1 r g) ∧ Rg g W' ∧ Below W.heap.size W W')
    (h : ∀ g, wpM Try.prog .any l.toArray (CN (FR1 w Rg g)) (fun i => ([1, 2, 6] : List Nat).contains i) (valR1 n r g) (TR1 n f av) (fun a' => ∀ w', FR1 w Rg g (fun _ => true) w' → Q .normal a' w') l 0 ac) : (Code.region id l.toArray true).wp Try.prog Q ac w := by
  refine wp_region_M (G := GR × Nat) (valR1 n r) AgR1 (FR1 w Rg) [1, 2, 6, 7] [1, 2, 6] (fun _ => []) (TR1 n f av) (⟨none, 0, 0, none, 0, 0, none, 0, 0, 0, 0⟩, 0) (fun g => fun φ ψ W hh hF => FR1.dep φ ψ W (fun j hj => hh j (List.mem_cons_of_mem _ hj)) hF) hm hB hf hnj
    (fun φ ψ g g' he h => ⟨fun e => h.1 (by rw [he 2 (by simp), he 7 (by simp)]; exact e), fun e => h.2 (by rw [he 6 (by simp)]; exact e)⟩) (fun φ g => ⟨fun _ => rfl, fun _ => rfl⟩) (fun φ g g' g'' h1 h2 => ⟨fun e => (h1.1 e).trans (h2.1 e), fun e => (h1.2 e).trans (h2.2 e)⟩) (fun φ k g g' h hk => ⟨fun e => h.1 (by rcases e with e | e <;> simp [e]), fun e => h.2 (by simp [e])⟩) ?_ (fun φ g g' W h hF => FR1.agree h hF) (fun g => ⟨fun e => (by rcases e with e | e <;> cases e), fun e => (by cases e)⟩) FR1.start ?_ h
  · intro φ k g g' hk h0 hA
    simp only [List.mem_cons, List.not_mem_nil, or_false] at hk
    rcases hk with rfl | rfl | rfl
    · rfl
    · have e := hA.1 (by simp)
      simp [valR1, e]
    · have e := hA.2 (by simp)
      simp [valR1, e]
  · intro k s φ W g hk hT h0 _ hF
    simp only [List.mem_cons, List.not_mem_nil, or_false] at hk
    rcases hk with rfl | rfl | rfl
    · have hT' : ∀ W, s.run Try.prog W = .ok (.enter 17 #[.int .i64 n]) W := hT
      rw [hT' W]
      refine (slot20_any n W).mono ?_
      rintro e W' ⟨rfl, bb⟩
      exact ⟨_, rfl, g, ⟨fun _ => rfl, fun _ => rfl⟩, rfl, (hF.below hS bb).other⟩
    · have hT' : ∀ W, s.run Try.prog W = .ok (.enter f av) W := hT
      rw [hT' W]
      refine (hc W hF.1).mono fun e W' ⟨q, e1, e2, e3⟩ => ⟨_, e1, (q, g.2), ⟨fun e => ?_, fun _ => rfl⟩, rfl, ?_⟩
      · rcases e with e | e
        · rw [h0] at e; cases e
        · rw [(hF.2.2.1 e).2] at h0; cases h0
      · have hb := hF.below hS e3
        obtain ⟨k1, k2, k3, k5⟩ := hb
        have n16 : φ 7 = false := by
          cases e : φ 7
          · rfl
          · rw [(k3 e).2] at h0; cases h0
        rw [n16] at k5
        refine ⟨k1, fun _ => e2, fun e => ?_, fun e => ?_⟩
        · have : φ 7 = true := by simpa using e
          rw [n16] at this; cases this
        · have := k5 (by simpa using e)
          simpa [n16] using this
    · have hT' : ∀ W, s.run Try.prog W = .ok (.value (.pointer (some ⟨W.heap.size, 0, none⟩))) (W.alloc (.cells rbM 26)) := hT
      rw [hT' W]
      exact ⟨(g.1, W.heap.size), ⟨fun _ => rfl, fun e => (by rw [h0] at e; cases e)⟩, rfl, hF.alloc1 hS h0⟩
theorem FR1.call {w : World} {Rg : GR → World → Prop} (hS : ∀ g, RbSt (Rg g)) {g : GR × Nat} {f : FuncId} {args : Array Value} {v : Value} {x : FXN (FR1 w Rg g)} (h : Calls Try.prog f args x.W fun e w' => e = .returned v ∧ Below x.W.heap.size x.W w') :
    Calls Try.prog f args x.W fun e w'' => e = .returned v ∧ ∃ y : FXN (FR1 w Rg g), w'' = y.W := by
  obtain ⟨V, φ, hF⟩ := x
  exact h.mono fun e w' ⟨he, hb⟩ => ⟨he, ⟨w', φ, FR1.below hS hF hb⟩, rfl⟩
end Go.Proofs.Yteejianjjpdimaa
namespace Go.Proofs.Yteejianjjpdimaa
open Go.RowKit L02 L13 L18 L20
theorem Canon20_no (tv ov sv : Value) (m : Mo) (r : Int) (hr : r = chk m) (hc : ¬ chk m = 0) (w : World) (h : Mod w tv ov sv m) :
    Calls Try.prog 7 #[.agg #[tv, ov, sv]] w fun e w' => ∃ t' o' s', e = .returned (.tuple #[.agg #[t', o', s'], .int .i64 r]) ∧ Mod w' t' o' s' .nil ∧ Below w.heap.size w w' := by
  have B : Below w.heap.size w w := Below.refl _ _
  have H := Lib.hid h
  have CT := Lib.hid (fun w h => Check20_any tv ov sv m r hr w h)
  have hne : (r != 0) = true := by rw [bne_iff_ne, hr]; exact hc
  clear hr hc h
  go_enter Try.func7, Try.ntmps7
  go_upto_region 1 with (fail)
  refine wp_gen (fun Wv => Bx Wv (w.heap.size) (26) (#[tv, ov, sv]) ∧ Bx Wv (w.heap.size + 1) (26) (#[.slice none 0 0, .slice none 0 0, .slice none 0 0]) ∧ Below w.heap.size w Wv) ⟨(((Bx.at_ (by simp)).alloc _)), ((Bx.at_ (by simp))), (((Below.refl _ w).alloc (by simp <;> omega) _).alloc (by simp <;> omega) _)⟩ ?_
  rintro wa1 ⟨g1, g2, b⟩
  replace B := B.trans (b.mono B.size); clear b
  have c_g1 := g1.cell; have f_g1 := g1.free; have a_g1 := fun o => (g1.alloc o).cell; have d_g1 := fun o o2 => ((g1.alloc o).alloc o2).cell; have e_g1 := fun o => (g1.alloc o).free
  have c_g2 := g2.cell; have f_g2 := g2.free; have a_g2 := fun o => (g2.alloc o).cell; have d_g2 := fun o o2 => ((g2.alloc o).alloc o2).cell; have e_g2 := fun o => (g2.alloc o).free
  go_wp2_with fail
  refine (CT.out _ (H.out.below B)).mono ?_
  rintro e wa2 ⟨rfl, b⟩
  try clear c_g1 f_g1 a_g1 d_g1 e_g1
  replace g1 := g1.below b; have c_g1 := g1.cell; have f_g1 := g1.free; have a_g1 := fun o => (g1.alloc o).cell; have d_g1 := fun o o2 => ((g1.alloc o).alloc o2).cell; have e_g1 := fun o => (g1.alloc o).free; try clear c_g2 f_g2 a_g2 d_g2 e_g2
  replace g2 := g2.below b; have c_g2 := g2.cell; have f_g2 := g2.free; have a_g2 := fun o => (g2.alloc o).cell; have d_g2 := fun o o2 => ((g2.alloc o).alloc o2).cell; have e_g2 := fun o => (g2.alloc o).free; replace B := B.trans (b.mono B.size); clear b
  go_wp2
  refine bodyPost_ret (v := .tuple #[.agg #[.slice none 0 0, .slice none 0 0, .slice none 0 0], .int .i64 r]) (by simp [results, Try.results7, go_sem, c_g2, f_g2]) rfl ?_
  refine ⟨_, _, _, rfl, Mod.nil _, ?_⟩
  (repeat (first | refine Below.setCell ?_ (by first | exact Nat.le_refl _ | (simp <;> omega)) _ | refine Below.alloc ?_ (by first | exact B.size | (have := B.size; simp <;> omega)) _)); exact B
end Go.Proofs.Yteejianjjpdimaa
namespace Go.Proofs.Yteejianjjpdimaa
open Go.RowKit L02 L13 L18 L20
theorem Alloc20_er (m : Mo) (t r : Int) (hr : r = allE m t) : ∃ (M : Mo) (a b : Int), ∀ tv ov sv w, Mod w tv ov sv m →
    Calls Try.prog 14 #[.agg #[tv, ov, sv], .int .i64 t] w fun e w' => ∃ t' o' s', e = .returned (.tuple #[.agg #[t', o', s'], .agg #[.int .i64 a, .int .i64 b], .int .i64 r]) ∧ Mod w' t' o' s' M ∧ Below w.heap.size w w' :=
  ⟨_, _, _, fun tv ov sv w h => Alloc20_any tv ov sv m t _ r _ _ rfl hr rfl rfl w h⟩
theorem Root20_er (m : Mo) (sl g n r : Int) (hr : r = rootE m sl g n) : ∃ (M : Mo) (a b : Int), ∀ tv ov sv w, Mod w tv ov sv m →
    Calls Try.prog 20 #[.agg #[tv, ov, sv], .agg #[.int .i64 sl, .int .i64 g], .int .i64 n] w fun e w' => ∃ t' o' s', e = .returned (.tuple #[.agg #[t', o', s'], .agg #[.int .i64 a, .int .i64 b], .int .i64 r]) ∧ Mod w' t' o' s' M ∧ Below w.heap.size w w' :=
  ⟨_, _, _, fun tv ov sv w h => Root20_any tv ov sv m sl g n _ r _ _ rfl hr rfl rfl w h⟩
theorem Get20_er (m : Mo) (sl g n r : Int) (hr : r = getE m sl g n) : ∃ v : UInt64, ∀ tv ov sv w, Mod w tv ov sv m →
    Calls Try.prog 15 #[.agg #[tv, ov, sv], .agg #[.int .i64 sl, .int .i64 g], .int .i64 n] w fun e w' => e = .returned (.tuple #[.int .u64 v.toNat, .int .i64 r]) ∧ Below w.heap.size w w' :=
  ⟨_, fun tv ov sv w h => Get20_any tv ov sv m sl g n _ r rfl hr w h⟩
theorem Set20_er (m : Mo) (sl g n r : Int) (x : UInt64) (hr : r = getE m sl g n) : ∃ M : Mo, ∀ tv ov sv w, Mod w tv ov sv m →
    Calls Try.prog 18 #[.agg #[tv, ov, sv], .agg #[.int .i64 sl, .int .i64 g], .int .i64 n, .int .u64 x.toNat] w fun e w' => ∃ t' o' s', e = .returned (.tuple #[.agg #[t', o', s'], .int .i64 r]) ∧ Mod w' t' o' s' M ∧ Below w.heap.size w w' :=
  ⟨_, fun tv ov sv w h => Set20_any tv ov sv m sl g n x _ r rfl hr w h⟩
theorem SetRef20_er (m : Mo) (sl g n r : Int) (tt : Option (Int × Int)) (hr : r = refE m sl g n tt) : ∃ M : Mo, ∀ tv ov sv pv w, Mod w tv ov sv m → PtrH w pv tt →
    Calls Try.prog 19 #[.agg #[tv, ov, sv], .agg #[.int .i64 sl, .int .i64 g], .int .i64 n, pv] w fun e w' => ∃ t' o' s', e = .returned (.tuple #[.agg #[t', o', s'], .int .i64 r]) ∧ Mod w' t' o' s' M ∧ Below w.heap.size w w' :=
  ⟨_, fun tv ov sv pv w h hp => SetRef20_any tv ov sv m sl g n pv tt _ r rfl hr w h hp⟩
theorem Drop20_er (m : Mo) (sl g r : Int) (hr : r = asked m sl g) : ∃ M : Mo, ∀ tv ov sv w, Mod w tv ov sv m →
    Calls Try.prog 21 #[.agg #[tv, ov, sv], .agg #[.int .i64 sl, .int .i64 g]] w fun e w' => ∃ t' o' s', e = .returned (.tuple #[.agg #[t', o', s'], .int .i64 r]) ∧ Mod w' t' o' s' M ∧ Below w.heap.size w w' :=
  ⟨_, fun tv ov sv w h => Drop20_any tv ov sv m sl g _ r rfl hr w h⟩
theorem Free20_er (m : Mo) (sl g r : Int) (hr : r = freeE m sl g) : ∃ M : Mo, ∀ tv ov sv w, Mod w tv ov sv m →
    Calls Try.prog 22 #[.agg #[tv, ov, sv], .agg #[.int .i64 sl, .int .i64 g]] w fun e w' => ∃ t' o' s', e = .returned (.tuple #[.agg #[t', o', s'], .int .i64 r]) ∧ Mod w' t' o' s' M ∧ Below w.heap.size w w' :=
  ⟨_, fun tv ov sv w h => Free20_any tv ov sv m sl g _ r rfl hr w h⟩
theorem allE_bad {m : Mo} {t c : Int} (h : chk m = c) (h0 : c ≠ 0) : c = allE m t := by
  rw [allE, if_neg (by rw [h]; exact h0), h]
theorem getE_bad {m : Mo} {sl g n c : Int} (h : chk m = c) (h0 : c ≠ 0) : c = getE m sl g n := by
  have ha : asked m sl g = c := by rw [asked, if_neg (by rw [h]; exact h0), h]
  have hk : kErrF m sl g n = c := by rw [kErrF, if_neg (by rw [ha]; exact h0), ha]
  rw [getE, if_neg (by rw [hk]; exact h0), hk]
theorem toR1 {f : FuncId} {av : Array Value} {W : World} {M : Mo} {r : Int} (h : Calls Try.prog f av W fun e w' => ∃ t' o' s', e = .returned (.tuple #[.agg #[t', o', s'], .int .i64 r]) ∧ Mod w' t' o' s' M ∧ Below W.heap.size W w') :
    Calls Try.prog f av W fun e W' => ∃ g : GR, e = .returned (GR.v1 r g) ∧ True ∧ Below W.heap.size W W' :=
  h.mono fun e w' ⟨t', o', s', he, hm, hb⟩ => by
    obtain ⟨⟨tA, tn, tc, rfl⟩, ⟨oA, on, oc, rfl⟩, ⟨sA, sn, sc, rfl⟩⟩ := hm.forms
    exact ⟨⟨tA, tn, tc, oA, on, oc, sA, sn, sc, 0, 0⟩, he, trivial, hb⟩
theorem toR2 {f : FuncId} {av : Array Value} {W : World} {M : Mo} {a b r : Int} (h : Calls Try.prog f av W fun e w' => ∃ t' o' s', e = .returned (.tuple #[.agg #[t', o', s'], .agg #[.int .i64 a, .int .i64 b], .int .i64 r]) ∧ Mod w' t' o' s' M ∧ Below W.heap.size W w') :
    Calls Try.prog f av W fun e W' => ∃ g : GR, e = .returned (GR.v r g) ∧ True ∧ Below W.heap.size W W' :=
  h.mono fun e w' ⟨t', o', s', he, hm, hb⟩ => by
    obtain ⟨⟨tA, tn, tc, rfl⟩, ⟨oA, on, oc, rfl⟩, ⟨sA, sn, sc, rfl⟩⟩ := hm.forms
    exact ⟨⟨tA, tn, tc, oA, on, oc, sA, sn, sc, a, b⟩, he, trivial, hb⟩
/-- the model is the call's own -/
def OwnR (B : Nat) (M : Mo) (a b : Int) (g : GR) (V : World) : Prop := OwnM V B 48 g.m.1 g.m.2.1 g.m.2.2 M ∧ g.c1 = a ∧ g.c2 = b
theorem OwnR.st (B : Nat) (M : Mo) (a b : Int) (g : GR) : RbSt (OwnR B M a b g) := by
  have h := RbSt.model B g.m.1 g.m.2.1 g.m.2.2 M
  exact ⟨fun W W' x hb => ⟨h.below W W' x.1 hb, x.2⟩, fun W p t cs i u ht hb x => ⟨h.set W p t cs i u ht hb x.1, x.2⟩⟩
theorem toR1own {f : FuncId} {av : Array Value} {W : World} {B : Nat} {M : Mo} {r : Int} (hB : B ≤ W.heap.size) (h : Calls Try.prog f av W fun e w' => ∃ t' o' s', e = .returned (.tuple #[.agg #[t', o', s'], .int .i64 r]) ∧ OwnM w' W.heap.size 48 t' o' s' M ∧ Below W.heap.size W w') :
    Calls Try.prog f av W fun e W' => ∃ g : GR, e = .returned (GR.v1 r g) ∧ OwnR B M 0 0 g W' ∧ Below W.heap.size W W' :=
  h.mono fun e w' ⟨t', o', s', he, hm, hb⟩ => by
    obtain ⟨⟨tA, tn, tc, rfl⟩, ⟨oA, on, oc, rfl⟩, ⟨sA, sn, sc, rfl⟩⟩ := hm.rd.forms
    exact ⟨⟨tA, tn, tc, oA, on, oc, sA, sn, sc, 0, 0⟩, he, ⟨hm.mono hB, rfl, rfl⟩, hb⟩
theorem toR2own {f : FuncId} {av : Array Value} {W : World} {B : Nat} {M : Mo} {a b r : Int} (hB : B ≤ W.heap.size) (h : Calls Try.prog f av W fun e w' => ∃ t' o' s', e = .returned (.tuple #[.agg #[t', o', s'], .agg #[.int .i64 a, .int .i64 b], .int .i64 r]) ∧ OwnM w' W.heap.size 48 t' o' s' M ∧ Below W.heap.size W w') :
    Calls Try.prog f av W fun e W' => ∃ g : GR, e = .returned (GR.v r g) ∧ OwnR B M a b g W' ∧ Below W.heap.size W W' :=
  h.mono fun e w' ⟨t', o', s', he, hm, hb⟩ => by
    obtain ⟨⟨tA, tn, tc, rfl⟩, ⟨oA, on, oc, rfl⟩, ⟨sA, sn, sc, rfl⟩⟩ := hm.rd.forms
    exact ⟨⟨tA, tn, tc, oA, on, oc, sA, sn, sc, a, b⟩, he, ⟨hm.mono hB, rfl, rfl⟩, hb⟩
end Go.Proofs.Yteejianjjpdimaa
namespace Go.Proofs.Yteejianjjpdimaa
open Go Go.RowKit
/-- the first d of the operations ks are done, the world is Ws d; the reads rs come before the first one. -/
def FS2 (ks rs : List Nat) (Ws : Nat → World) : (Nat → Bool) → World → Prop := fun f W =>
  ∃ d, d ≤ ks.length ∧ (∀ i k, ks[i]? = some k → f k = decide (i < d)) ∧ W = Ws d ∧ (0 < d → ∀ r ∈ rs, f r = true)
section
variable {ks rs : List Nat} {Ws : Nat → World}
theorem FS2.dep : Dep (FS2 ks rs Ws) (rs ++ ks) := by
  rintro f g W hfg ⟨d, h1, h2, h3, h4⟩
  refine ⟨d, h1, fun i k hk => ?_, h3, fun hm r hr => ?_⟩
  · rw [← hfg k (List.mem_append_right _ (List.mem_of_getElem? hk))]; exact h2 i k hk
  · rw [← hfg r (List.mem_append_left _ hr)]; exact h4 hm r hr
theorem FS2.start : FS2 ks rs Ws (fun _ => false) (Ws 0) := ⟨0, Nat.zero_le _, fun i k _ => by simp, rfl, fun h => by omega⟩
theorem FS2.done {W : World} (h : FS2 ks rs Ws (fun _ => true) W) : W = Ws ks.length := by
  obtain ⟨d, h1, h2, h3, h4⟩ := h
  rw [h3]
  congr 1
  by_cases hd : d = ks.length
  · exact hd
  · have hlt : d < ks.length := by omega
    have := h2 d ks[d] (List.getElem?_eq_getElem hlt)
    simp at this
theorem FS2.step {i k : Nat} (hk : ks[i]? = some k) (hn : ks.Nodup) (hrk : k ∉ rs) {f : Nat → Bool} {W : World} (h : FS2 ks rs Ws f W) (h0 : f k = false) (hp : ∀ p, i = p + 1 → ∀ k', ks[p]? = some k' → f k' = true) (hm : i = 0 → ∀ r ∈ rs, f r = true) :
    W = Ws i ∧ FS2 ks rs Ws (fun j => j == k || f j) (Ws (i + 1)) := by
  obtain ⟨d, h1, h2, h3, h4⟩ := h
  have hil : i < ks.length := (List.getElem?_eq_some_iff.1 hk).1
  have hd1 : ¬ i < d := by have := h2 i k hk; rw [h0] at this; simpa using this.symm
  have hd2 : i ≤ d := by
    rcases i with _ | p
    · omega
    · have hp' : ks[p]? = some ks[p] := List.getElem?_eq_getElem (by omega)
      have e1 := hp p rfl _ hp'
      rw [h2 p _ hp'] at e1
      have := of_decide_eq_true e1
      omega
  obtain rfl : d = i := by omega
  refine ⟨h3, d + 1, by omega, fun j k' hk' => ?_, rfl, fun hmd r hr => ?_⟩
  · by_cases hj : j = d
    · subst hj
      rw [hk] at hk'; injection hk' with hk'; subst hk'
      simp
    · have hne : k' ≠ k := fun e => by
        subst e
        exact hj ((List.getElem?_inj (List.getElem?_eq_some_iff.1 hk').1 hn).1 (hk'.trans hk.symm))
      have e1 : (k' == k) = false := by rw [beq_eq_false_iff_ne]; exact hne
      simp only [e1, Bool.false_or]
      rw [h2 j k' hk']
      have : (j < d) = (j < d + 1) := by rw [eq_iff_iff]; omega
      simp only [this]
  · rcases Nat.eq_zero_or_pos d with h | h
    · simp [hm h r hr]
    · simp [h4 h r hr]
theorem FS2.prev {p q : Nat} {f : Nat → Bool} (hq : ks[p]? = some q) (h : f q = true) : ∀ p', p + 1 = p' + 1 → ∀ k', ks[p']? = some k' → f k' = true := by
  intro p' hp k' hk
  obtain rfl : p = p' := by omega
  rw [hq] at hk; injection hk with hk; subst hk; exact h
theorem FS2.read {r : Nat} (hr : r ∈ rs) (hk : r ∉ ks) {f : Nat → Bool} {W : World} (h : FS2 ks rs Ws f W) (h0 : f r = false) : W = Ws 0 ∧ FS2 ks rs Ws (fun j => j == r || f j) W := by
  obtain ⟨d, h1, h2, h3, h4⟩ := h
  have hd : d = 0 := by
    rcases Nat.eq_zero_or_pos d with h | h
    · exact h
    · have := h4 h r hr; rw [h0] at this; cases this
  subst hd
  refine ⟨h3, 0, h1, fun i k hk' => ?_, h3, fun h => by omega⟩
  have hne : (k == r) = false := by rw [beq_eq_false_iff_ne]; exact fun e => hk (e ▸ List.mem_of_getElem? hk')
  simp only [hne, Bool.false_or]
  exact h2 i k hk'
theorem FS2.all {p : World → Prop} (h : ∀ d, d ≤ ks.length → p (Ws d)) (x : FXN (FS2 ks rs Ws)) : p x.W := by
  obtain ⟨W, f, d, h1, _, h3, _⟩ := x
  subst h3; exact h d h1
end
end Go.Proofs.Yteejianjjpdimaa
namespace Go.Proofs.Yteejianjjpdimaa
open Go.RowKit L02 L13 L18 L20
def wsY (w : World) (p1 p0 : Nat) : Nat → World
  | 0 => w.drew
  | 1 => w.drew.setCell ⟨p1, 0, none⟩ (.int .u64 2)
  | _ => (w.drew.setCell ⟨p1, 0, none⟩ (.int .u64 2)).setCell ⟨p0, 0, none⟩ (.int .u64 0)
theorem nm_own {W : World} {B : Nat} {tv ov sv : Value} (om : OwnM W B 48 tv ov sv exM) : ∃ gO cO p0 q0 p1 q1, ov = .slice (some ⟨gO, 0, none⟩) 2 cO ∧ W.cell? ⟨gO, 1, none⟩ = some (.slice (some ⟨p0, 0, none⟩) 1 q0) ∧ W.cell? ⟨gO, 3, none⟩ = some (.slice (some ⟨p1, 0, none⟩) 1 q1) ∧
    (∀ V, (Instr.indexAt 23 ov (.int .i64 0)).run Try.prog V = .ok (.pointer (some ⟨gO, 0, none⟩)) V) ∧ (∀ V, (Instr.indexAt 23 ov (.int .i64 1)).run Try.prog V = .ok (.pointer (some ⟨gO, 2, none⟩)) V) ∧
    (∀ V, (Instr.indexAt 43 (.slice (some ⟨p0, 0, none⟩) 1 q0) (.int .i64 0)).run Try.prog V = .ok (.pointer (some ⟨p0, 0, none⟩)) V) ∧ (∀ V, (Instr.indexAt 43 (.slice (some ⟨p1, 0, none⟩) 1 q1) (.int .i64 0)).run Try.prog V = .ok (.pointer (some ⟨p1, 0, none⟩)) V) ∧
    W.cell? ⟨p0, 0, none⟩ = some (.int .u64 2) ∧ W.cell? ⟨p1, 0, none⟩ = some (.int .u64 0) ∧ W.frozen? ⟨p0, 0, none⟩ = false ∧ W.frozen? ⟨p1, 0, none⟩ = false ∧ p0 ≠ p1 ∧ p0 ≠ gO ∧ p1 ≠ gO ∧ B ≤ p0 ∧ B ≤ p1 ∧ W.ownsRow B 46 1 (.slice (some ⟨p0, 0, none⟩) 1 q0) 1 [.int .u64 2] ∧ W.ownsRow B 46 1 (.slice (some ⟨p1, 0, none⟩) 1 q1) 1 [.int .u64 0] ∧
    Mod (wsY W p1 p0 2) tv ov sv nmO := by
  obtain ⟨gO, cO, x0, x1, rfl, hgO, hgO2, ho, f0, f1⟩ := nm_objs (a := ⟨0, [2]⟩) (b := ⟨0, [0]⟩) om.o
  obtain ⟨p0, q0, cur0, e0, hB0, hp0, _⟩ := own_form f0 (by simp)
  obtain ⟨p1, q1, cur1, e1, hB1, hp1, _⟩ := own_form f1 (by simp)
  subst e0; subst e1
  have r0 : W.ownsRow B 46 1 (.slice (some ⟨p0, 0, none⟩) 1 q0) 1 [.int .u64 2] := f0
  have r1 : W.ownsRow B 46 1 (.slice (some ⟨p1, 0, none⟩) 1 q1) 1 [.int .u64 0] := f1
  have i0 := fun V => Rd.ixN (P := Try.prog) (Rd.of_own r0) (t := 43) Try.underlying43 (by kernel_rfl) (k := 0) (by simp) V
  have i1 := fun V => Rd.ixN (P := Try.prog) (Rd.of_own r1) (t := 43) Try.underlying43 (by kernel_rfl) (k := 0) (by simp) V
  have j0 := fun V => Rd.ixN (P := Try.prog) (Rd.of_own ho) (t := 23) Try.underlying23 size_obj2 (k := 0) (by omega) V
  have j1 := fun V => Rd.ixN (P := Try.prog) (Rd.of_own ho) (t := 23) Try.underlying23 size_obj2 (k := 1) (by omega) V
  have c0 : W.cell? ⟨p0, 0, none⟩ = some (.int .u64 2) := by simpa [cellAt] using Rd.cell (Rd.of_own r0) (j := 0) (u := .int .u64 2) rfl
  have c1 : W.cell? ⟨p1, 0, none⟩ = some (.int .u64 0) := by simpa [cellAt] using Rd.cell (Rd.of_own r1) (j := 0) (u := .int .u64 0) rfl
  have d0 : W.cell? ⟨gO, 1, none⟩ = some (.slice (some ⟨p0, 0, none⟩) 1 q0) := by simpa [cellAt] using Rd.cell (Rd.of_own ho) (j := 1) (u := .slice (some ⟨p0, 0, none⟩) 1 q0) rfl
  have d1 : W.cell? ⟨gO, 3, none⟩ = some (.slice (some ⟨p1, 0, none⟩) 1 q1) := by simpa [cellAt] using Rd.cell (Rd.of_own ho) (j := 3) (u := .slice (some ⟨p1, 0, none⟩) 1 q1) rfl
  have hne : p0 ≠ p1 := by
    intro e; subst e; rw [c0] at c1; injection c1 with c1; injection c1 with _ c1; cases c1
  have n0 : p0 ≠ gO := by
    rcases own_unlike r0 ho (by decide) with h | h
    · simp [Value.ownBlock] at h
    · intro e; exact h (by simp [Value.ownBlock, e])
  have n1 : p1 ≠ gO := by
    rcases own_unlike r1 ho (by decide) with h | h
    · simp [Value.ownBlock] at h
    · intro e; exact h (by simp [Value.ownBlock, e])
  refine ⟨gO, cO, p0, q0, p1, q1, rfl, d0, d1, fun V => by have := j0 V; simpa [cellAt] using this, fun V => by have := j1 V; simpa [cellAt] using this, fun V => by have := i0 V; simpa [cellAt] using this, fun V => by have := i1 V; simpa [cellAt] using this, c0, c1, World.ownsRow.frozenAt r0 0, World.ownsRow.frozenAt r1 0, hne, n0, n1, hB0, hB1, r0, r1, ?_⟩
  have r0d : W.drew.ownsRow B 46 1 (.slice (some ⟨p0, 0, none⟩) 1 q0) 1 [.int .u64 2] := r0
  have r1d : W.drew.ownsRow B 46 1 (.slice (some ⟨p1, 0, none⟩) 1 q1) 1 [.int .u64 0] := r1
  have hod : W.drew.ownsRow B 45 2 (.slice (some ⟨gO, 0, none⟩) 2 cO) 2 [.int .i64 0, .slice (some ⟨p0, 0, none⟩) 1 q0, .int .i64 0, .slice (some ⟨p1, 0, none⟩) 1 q1] := ho
  have htd : OwnT W.drew B tv exM.types := om.t
  have hsd : OwnS W.drew B 48 sv exM.slots := om.s
  have s1 := World.ownsRow.stored r1d 0 (.int .u64 2)
  have k0 := World.ownsRow.kept r0d s1.2 (.inr (by simp [Value.ownBlock]; exact hne))
  have ko := World.ownsRow.kept hod s1.2 (.inr (by simp [Value.ownBlock]; exact Ne.symm n1))
  have kt := OwnT.kept htd r1d (by simpa [Value.ownBlock] using s1.2) (by decide) (by decide)
  have ks := World.ownsRow.kept hsd s1.2 (by simpa [Value.ownBlock] using own_unlike hsd r1d (by decide))
  have s0 := World.ownsRow.stored k0 0 (.int .u64 0)
  have k1 := World.ownsRow.kept s1.1 s0.2 (.inr (by simp [Value.ownBlock]; exact Ne.symm hne))
  have ko2 := World.ownsRow.kept ko s0.2 (.inr (by simp [Value.ownBlock]; exact Ne.symm n0))
  have kt2 := OwnT.kept kt k0 (by simpa [Value.ownBlock] using s0.2) (by decide) (by decide)
  have ks2 := World.ownsRow.kept ks s0.2 (by simpa [Value.ownBlock] using own_unlike ks k0 (by decide))
  exact ⟨kt2.rd, objs_two (a := ⟨0, [0]⟩) (b := ⟨0, [2]⟩) (Rd.of_own ko2) (Rd.of_own s0.1) (Rd.of_own k1), Rd.of_own ks2⟩
theorem nmS_len (n : Nat) (h : 2 ≤ n) (h2 : n ≤ 16) : (nmS n).length = 16 := by simp [nmS]; omega
theorem nmS_at : ∀ n, n < 16 → 2 ≤ n → (nmS n)[n]? = some ⟨0, false, 0⟩ := by decide +kernel
end Go.Proofs.Yteejianjjpdimaa
