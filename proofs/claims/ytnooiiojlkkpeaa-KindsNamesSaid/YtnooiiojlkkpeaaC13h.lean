/- Contracts of types: two stores into an own row. -/
import Derived.Test.YtnooiiojlkkpeaaC13g
import Derived.Test.YtnooiiojlkkpeaaC13e
import Derived.Test.YtnooiiojlkkpeaaL13c
set_option linter.unusedVariables false
set_option linter.unusedSimpArgs false
namespace Go.Proofs.Ytnooiiojlkkpeaa
open Go.RowKit L02 L05 L13

theorem own_ix {P : Program} {W : World} {B e g c n j t e' : Nat} {xs : List Value} (h : W.ownsRow B e 1 (.slice (some ⟨g, 0, none⟩) n c) n xs) (ht : P.underlying t = some (.slice e')) (hi : (P.info? e').map (·.size) = some 1) (hj : j < n) :
    ∀ W', (Instr.indexAt t (.slice (some ⟨g, 0, none⟩) n c) (.int .i64 (j : Int))).run P W' = .ok (.pointer (some ⟨g, j, none⟩)) W' := by
  intro W'
  have := Rd.ixN (Rd.of_own h) ht hi hj W'
  simpa [cellAt] using this
theorem own_put {W : World} {B e g c n j : Nat} {xs : List Value} (h : W.ownsRow B e 1 (.slice (some ⟨g, 0, none⟩) n c) n xs) (hj : j < n) (u : Value) :
    (∃ u0, W.cell? ⟨g, j, none⟩ = some u0) ∧ W.frozen? ⟨g, j, none⟩ = false ∧ (W.setCell ⟨g, j, none⟩ u).ownsRow B e 1 (.slice (some ⟨g, 0, none⟩) n c) n (xs.set j u) ∧ B ≤ g ∧ g < W.heap.size := by
  obtain ⟨g', cap, cur, hv, hB, hg, hnc, hcm, hcs, htake⟩ := own_form h (by omega)
  have hxl : j < xs.length := by have := h.1; omega
  have hcell := Rd.cell (Rd.of_own h) (j := j) (u := xs[j]) (List.getElem?_eq_getElem hxl)
  have e2 : cellAt (.slice (some ⟨g, 0, none⟩) n c) j = ⟨g, j, none⟩ := by simp [cellAt]
  rw [e2] at hcell
  cases hv
  exact ⟨⟨_, hcell⟩, h.frozenAt j, (h.stored j u).1, hB, (Array.getElem?_eq_some_iff.1 hg).1⟩
theorem store_word {W : World} {ad : Addr} {u0 : Value} (hc : W.cell? ad = some u0) (hf : W.frozen? ad = false) (x : Nat) :
    (Instr.storeAt 23 (.pointer (some ad)) (.int .u64 (x : Int))).run Try.prog W = .ok () (W.setCell ad (.int .u64 (x : Int))) := by
  simp [go_sem, hc, hf]

/-- two words are stored into an own row; an array lies by -/
def FTwo (w0 : World) (B g n c : Nat) (M : List UInt64) (p q : Nat) (a b : UInt64) (gp : Nat) (t : TypeId) (cs : Array Value) : Bool → Bool → World → Prop := fun b1 b2 W =>
  Below B w0 W ∧ OwnW W B 23 (.slice (some ⟨g, 0, none⟩) n c) (two M p q a b b1 b2) ∧ Bx W gp t cs
section
variable {w0 : World} {B g n c : Nat} {M : List UInt64} {p q : Nat} {a b : UInt64} {gp : Nat} {t : TypeId} {cs : Array Value}
theorem FTwo.step {b1 b2 b1' b2' : Bool} {j : Nat} {x : UInt64} {W : World} (hn : M.length = n) (hj : j < n) (hg : gp ≠ g) (hs : (two M p q a b b1 b2).set j x = two M p q a b b1' b2') (h : FTwo w0 B g n c M p q a b gp t cs b1 b2 W) :
    ∃ W', (Instr.storeAt 23 (.pointer (some ⟨g, j, none⟩)) (.int .u64 x.toNat)).run Try.prog W = .ok () W' ∧ FTwo w0 B g n c M p q a b gp t cs b1' b2' W' := by
  obtain ⟨h1, h2, h3⟩ := h
  unfold OwnW at h2
  rw [two_len, hn] at h2
  obtain ⟨⟨u0, c1⟩, c2, c3, c4, c5⟩ := own_put h2 hj (.int .u64 x.toNat)
  refine ⟨_, store_word c1 c2 _, h1.setCell (p := ⟨g, j, none⟩) c4 _, ?_, h3.far (p := ⟨g, j, none⟩) hg _⟩
  rw [← hs]
  refine OwnW.of c3 ?_
  rw [List.map_set]; rfl
theorem FTwo.cell (x : FX (FTwo w0 B g n c M p q a b gp t cs)) (i : Nat) : x.W.cell? ⟨gp, i, none⟩ = cs[i]? := by obtain ⟨W, b1, b2, h⟩ := x; exact h.2.2.cell i
theorem FTwo.start {W : World} (h1 : Below B w0 W) (h2 : OwnW W B 23 (.slice (some ⟨g, 0, none⟩) n c) M) (h3 : Bx W gp t cs) : FTwo w0 B g n c M p q a b gp t cs false false W.drew := ⟨h1.drew, h2, h3⟩
end
theorem own_lt {W : World} {B e g n c : Nat} {l : List UInt64} (h : OwnW W B e (.slice (some ⟨g, 0, none⟩) n c) l) (hl : 0 < l.length) : g < W.heap.size := by
  obtain ⟨g', cap, cur, hv, hB, hg, _⟩ := own_form h hl
  cases hv
  exact (Array.getElem?_eq_some_iff.1 hg).1
end Go.Proofs.Ytnooiiojlkkpeaa
