/- Lists of handles and of flags of the call's own, beside an image: memory for the law HandlesOnce. -/
import Derived.Test.YteiocllnhljpjaaC18k
import Derived.Test.YteiocllnhljpjaaL18d
import Derived.OneCell
set_option linter.unusedVariables false
set_option linter.unusedSimpArgs false
namespace Go.Proofs.Yteiocllnhljpjaa
open Go.RowKit L01 L02 L18

def hC (H : List (Int × Int)) : List Value := H.flatMap fun h => [.int .i64 h.1, .int .i64 h.2]
theorem hC_len (H : List (Int × Int)) : (hC H).length = H.length * 2 := by
  induction H with
  | nil => rfl
  | cons h H ih => simp only [hC, List.flatMap_cons, List.length_append, List.length_cons, List.length_nil] at *; omega
theorem hC_get : ∀ (H : List (Int × Int)) (k : Nat) (h : Int × Int), H[k]? = some h → (hC H)[k * 2]? = some (.int .i64 h.1) ∧ (hC H)[k * 2 + 1]? = some (.int .i64 h.2)
  | [], k, h, hk => by simp at hk
  | x :: H, 0, h, hk => by simp at hk; subst hk; exact ⟨rfl, rfl⟩
  | x :: H, k + 1, h, hk => by
    have := hC_get H k h (by simpa using hk)
    rw [show (k + 1) * 2 = k * 2 + 1 + 1 by omega]
    simpa [hC] using this
theorem hC_snoc (H : List (Int × Int)) (a b : Int) : hC H ++ [.int .i64 a, .int .i64 b] = hC (H ++ [(a, b)]) := by simp [hC, List.flatMap_append]
def OwnH (w : World) (base : Nat) (v : Value) (H : List (Int × Int)) : Prop := w.ownsRow base 39 2 v H.length (hC H)
def OwnL (w : World) (base : Nat) (v : Value) (V : List Bool) : Prop := w.ownsRow base 4 1 v V.length (V.map .bool)
theorem size_hdl : (Try.prog.info? 39).map (·.size) = some 2 := by kernel_rfl
theorem info_hdl : (Try.prog.info? 39).map (fun i => (i.zero, i.size, i.bytes)) = some (some (.agg #[.int .i64 0, .int .i64 0]), 2, 16) := by kernel_rfl
theorem one_bool : (Try.prog.info? 4).map (·.size) = some 1 := by kernel_rfl
theorem info_bool : (Try.prog.info? 4).map (fun i => (i.zero, i.size, i.bytes)) = some (some (.bool false), 1, 1) := by kernel_rfl
theorem OwnH.at_ {w : World} {base : Nat} {v : Value} {H : List (Int × Int)} (h : OwnH w base v H) {k : Nat} (hk : k < H.length) :
    ∃ b o a g, (∀ W, (Instr.indexAt 66 v (.int .i64 (k : Int))).run Try.prog W = .ok (.pointer (some ⟨b, o, none⟩)) W) ∧ w.cell? ⟨b, o, none⟩ = some (.int .i64 a) ∧ w.cell? ⟨b, o + 1, none⟩ = some (.int .i64 g) ∧ Hid (H[k]? = some (a, g)) := by
  have hrd := Rd.of_own h
  have hix := fun W => Rd.ixN hrd Try.underlying66 size_hdl hk W
  obtain ⟨b, o, c, rfl, hb, hc, hcell⟩ := Rd.form hrd (by omega)
  have hs : H[k]? = some (H[k].1, H[k].2) := List.getElem?_eq_getElem hk
  have t := hC_get H k _ hs
  exact ⟨b, o + k * 2, H[k].1, H[k].2, fun W => hix W, hcell _ _ t.1, hcell _ _ t.2, Lib.hid hs⟩
theorem lit_hdl {w : World} {e : TypeId} {n : Nat} (a g : Int) (hn : w.heap.size = n) : Rd (w.alloc (.cells #[.int .i64 a, .int .i64 g] e)) 2 (.slice (some ⟨n, 0, none⟩) 1 1) 1 [.int .i64 a, .int .i64 g] := by
  subst hn; exact lit_rdK (n := 1) (sz := 2) rfl (by omega)

/-- two own rows of unlike elements lie in unlike blocks. -/
theorem own_unlike18 {w : World} {b1 b2 e1 e2 s1 s2 n1 n2 : Nat} {x a : Value} {xs ys : List Value} (hx : w.ownsRow b1 e1 s1 x n1 xs) (ha : w.ownsRow b2 e2 s2 a n2 ys) (h : e1 ≠ e2) : x.ownBlock = none ∨ x.ownBlock ≠ a.ownBlock := by
  rcases hx.2 with ⟨rfl, _⟩ | ⟨g, cap, cur, rfl, _, hg, _⟩
  · exact .inl rfl
  · rcases ha.2 with ⟨rfl, _⟩ | ⟨g', cap', cur', rfl, _, hg', _⟩
    · exact .inr (by simp [Value.ownBlock])
    · refine .inr ?_
      intro he
      simp [Value.ownBlock] at he
      subst he
      rw [hg] at hg'
      injection hg' with hg'
      injection hg' with _ h2 _
      exact h h2

/-- what there is in a round: an image (the argument, or the call's own), handles, flags -/
structure Env (w3 : World) (v0 : Value) (l0 : List UInt64) (w : World) (wv hv lv : Value) (l : List UInt64) (H : List (Int × Int)) (V : List Bool) : Prop where
  hw : (wv = v0 ∧ l = l0) ∨ OwnW w w3.heap.size 24 wv l
  hh : OwnH w w3.heap.size hv H
  hl : OwnL w w3.heap.size lv V
  b : Below w3.heap.size w3 w
section
variable {w3 w w' : World} {v0 wv hv lv : Value} {l0 l : List UInt64} {H : List (Int × Int)} {V : List Bool}
theorem Env.words (e : Env w3 v0 l0 w wv hv lv l H V) (h0 : Words w3 v0 l0) : Words w wv l := by
  rcases e.hw with ⟨rfl, rfl⟩ | h
  · exact h0.below e.b
  · exact h.rd
theorem Env.below (e : Env w3 v0 l0 w wv hv lv l H V) (b : Below w.heap.size w w') : Env w3 v0 l0 w' wv hv lv l H V :=
  ⟨e.hw.imp id (fun h => h.below b), own_below e.hh b, own_below e.hl b, e.b.trans (b.mono e.b.size)⟩
theorem Env.alloc (e : Env w3 v0 l0 w wv hv lv l H V) (o : Obj) : Env w3 v0 l0 (w.alloc o) wv hv lv l H V := e.below ((Below.refl _ _).alloc (Nat.le_refl _) o)
theorem Env.drew (e : Env w3 v0 l0 w wv hv lv l H V) : Env w3 v0 l0 w.drew wv hv lv l H V := e.below (below_drewN (Below.refl _ _) 1)
theorem Env.image {y : Value} {l' : List UInt64} (e : Env w3 v0 l0 w wv hv lv l H V) (o : OwnW w' w.heap.size 24 y l') (b : Below w.heap.size w w') : Env w3 v0 l0 w' y hv lv l' H V :=
  let e' := e.below b
  ⟨.inr (own_mono o e.b.size), e'.hh, e'.hl, e'.b⟩
theorem Env.lenH (e : Env w3 v0 l0 w wv hv lv l H V) : ∀ ty W, (Builtin.len_ #[66] ty #[hv]).run Try.prog W = .ok (.int .i64 (H.length : Int)) W := Rd.len (Rd.of_own e.hh) Try.underlying66
theorem Env.flag (e : Env w3 v0 l0 w wv hv lv l H V) {k : Nat} (hk : k < V.length) :
    ∃ ad x, (∀ W, (Instr.indexAt 67 lv (.int .i64 (k : Int))).run Try.prog W = .ok (.pointer (some ad)) W) ∧ w.cell? ad = some (.bool x) ∧ w.frozen? ad = false ∧ Hid (V[k]? = some x) ∧ Hid (∀ u : Bool, Env w3 v0 l0 (w.setCell ad (.bool u)) wv hv lv l H (V.set k u)) ∧ Hid (∀ (q : Nat) t cs, Bx w q t cs → t ≠ 4 → q ≠ ad.block) := by
  have hrd := Rd.of_own e.hl
  have hix := fun W => Rd.ixN hrd Try.underlying67 one_bool hk W
  obtain ⟨g, cap, cur, rfl, hB, hg, hnc, hcm, hcs, htake⟩ := own_form e.hl (by omega)
  have hx : V[k]? = some V[k] := List.getElem?_eq_getElem hk
  have hcell := Rd.cell hrd (j := k) (u := .bool V[k]) (by simp [hx])
  have e1 : cellAt (.slice (some ⟨g, 0, none⟩) V.length cap) (k * 1) = ⟨g, k, none⟩ := by simp [cellAt]
  have e2 : cellAt (.slice (some ⟨g, 0, none⟩) V.length cap) k = ⟨g, k, none⟩ := by simp [cellAt]
  rw [e2] at hcell
  refine ⟨⟨g, k, none⟩, V[k], fun W => by rw [← e1]; exact hix W, hcell, e.hl.frozenAt k, Lib.hid hx, Lib.hid fun u => ⟨?_, ?_, ?_, e.b.setCell (p := ⟨g, k, none⟩) hB _⟩, Lib.hid ?_⟩
  · rcases e.hw with h | h
    · exact .inl h
    · refine .inr (ownsRow_setCell_other h (a := ⟨g, k, none⟩) ?_ _)
      rcases own_unlike18 h e.hl (by decide) with hn | hn
      · rw [hn]; simp
      · exact hn
  · refine ownsRow_setCell_other e.hh (a := ⟨g, k, none⟩) ?_ _
    rcases own_unlike18 e.hh e.hl (by decide) with hn | hn
    · rw [hn]; simp
    · exact hn
  · have := (e.hl.stored k (.bool u)).1
    unfold OwnL
    rw [List.length_set, List.map_set]
    exact this
  · intro q t cs hq ht he
    unfold Bx at hq
    rw [show q = g from he, hg] at hq
    injection hq with hq
    injection hq with _ h2 _
    exact ht h2.symm
theorem Env.addH (e : Env w3 v0 l0 w wv hv lv l H V) {a g : Int} {hv' : Value} {n : Nat} (o : w'.ownsRow w3.heap.size 39 2 hv' n (hC H ++ [.int .i64 a, .int .i64 g])) (b : Below w3.heap.size w3 w') (hg : w.grownBy w' hv.ownBlock) : Env w3 v0 l0 w' wv hv' lv l (H ++ [(a, g)]) V := by
  rw [hC_snoc] at o
  have hn : n = (H ++ [(a, g)]).length := by have := o.1; rw [hC_len] at this; omega
  subst hn
  exact ⟨e.hw.imp id (fun h => World.ownsRow.kept h hg (own_unlike18 h e.hh (by decide))), o, World.ownsRow.kept e.hl hg (own_unlike18 e.hl e.hh (by decide)), b⟩
theorem Env.addL (e : Env w3 v0 l0 w wv hv lv l H V) {u : Bool} {lv' : Value} {n : Nat} (o : w'.ownsRow w3.heap.size 4 1 lv' n (V.map Value.bool ++ [.bool u])) (b : Below w3.heap.size w3 w') (hg : w.grownBy w' lv.ownBlock) : Env w3 v0 l0 w' wv hv lv' l H (V ++ [u]) := by
  have hx : V.map Value.bool ++ [.bool u] = (V ++ [u]).map Value.bool := by simp
  rw [hx] at o
  have hn : n = (V ++ [u]).length := by have := o.1; simp at this ⊢; omega
  subst hn
  exact ⟨e.hw.imp id (fun h => World.ownsRow.kept h hg (own_unlike18 h e.hl (by decide))), World.ownsRow.kept e.hh hg (own_unlike18 e.hh e.hl (by decide)), o, b⟩
end
end Go.Proofs.Yteiocllnhljpjaa
