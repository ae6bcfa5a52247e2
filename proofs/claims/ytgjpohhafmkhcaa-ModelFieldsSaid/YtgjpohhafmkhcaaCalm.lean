/- Regions that draw their order, whose operations only read and whose calls make memory but change none: one walk in the order of the text serves every order. No condition. -/
import Derived.Test.YtgjpohhafmkhcaaOps
import Derived.Test.YtgjpohhafmkhcaaC02
set_option linter.unusedVariables false
set_option linter.unusedSimpArgs false
namespace Go.Proofs.Ytgjpohhafmkhcaa
open Go.RowKit

theorem Same_r (va vb : Value) (la lb : List UInt64) (r : Bool) (hr : r = L02.same la lb) (w : World) (ha : Words w va la) (hb : Words w vb lb) :
    Calls Try.prog 48 #[va, vb] w fun e w' => e = .returned (.bool r) ∧ Below w.heap.size w w' := by
  subst hr
  exact (Same_any va vb la lb w ha hb).mono fun _ _ ⟨h1, h2⟩ => ⟨h1, h2.below⟩

/-- A world that may come behind w: all that w has is there, unchanged. -/
structure Fut (w : World) where
  W : World
  h : Below w.heap.size w W

instance (w : World) : Nonempty (Fut w) := ⟨⟨w, Below.refl _ _⟩⟩
section
variable {P : Program} {w : World}
theorem Bx.at_ {n : Nat} {t : TypeId} {cs : Array Value} (h : w.heap.size = n) : Bx (w.alloc (.cells cs t)) n t cs := by subst h; exact Bx.new w t cs
theorem Fut.call {f : FuncId} {args : Array Value} {v : Value} {x : Fut w} (h : Calls P f args x.W fun e w' => e = .returned v ∧ Below x.W.heap.size x.W w') :
    Calls P f args x.W fun e w'' => e = .returned v ∧ ∃ y : Fut w, w'' = y.W :=
  h.mono fun _ w' ⟨he, hb⟩ => ⟨he, ⟨w', x.h.trans (hb.mono x.h.size)⟩, rfl⟩
theorem Fut.same {f : FuncId} {args : Array Value} {v : Value} {x : Fut w} (h : Calls P f args x.W fun e w' => e = .returned v ∧ x.W = w') :
    Calls P f args x.W fun e w'' => e = .returned v ∧ ∃ y : Fut w, w'' = y.W :=
  h.mono fun _ w' ⟨he, hb⟩ => ⟨he, x, hb.symm⟩
theorem Fut.quiet {f : FuncId} {args : Array Value} {v : Value} {x : Fut w} (h : Calls P f args x.W fun e w' => e = .returned v ∧ Quiet x.W w') :
    Calls P f args x.W fun e w'' => e = .returned v ∧ ∃ y : Fut w, w'' = y.W :=
  Fut.call (h.mono fun _ _ ⟨he, hq⟩ => ⟨he, hq.below⟩)
theorem wp_region_calm {id : Nat} {Q : Exit → Act → World → Prop} {a : Act} {l : List Oper} (hm : P.follows .mixedOrders = true) (hB : Region.lexB .any l.toArray = true)
    (h : wpQuiet P l.toArray (fun w' => ∃ x : Fut w, w' = x.W) (fun a' => ∀ w', (∃ x : Fut w, w' = x.W) → Q .normal a' w') l a) : (Code.region id l.toArray true).wp P Q a w :=
  wp_region_quiet (C := fun w' => ∃ x : Fut w, w' = x.W) hm hB ⟨⟨_, below_drewN (Below.refl _ _) 1⟩, rfl⟩ (by simpa using h)
end
end Go.Proofs.Ytgjpohhafmkhcaa
