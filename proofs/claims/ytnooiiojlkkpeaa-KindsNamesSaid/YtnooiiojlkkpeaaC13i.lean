/- Contracts of types: the tables of the law KindsNames; facts. -/
import Derived.Test.YtnooiiojlkkpeaaC13h
import Derived.Test.YtnooiiojlkkpeaaFlagN
set_option linter.unusedVariables false
set_option linter.unusedSimpArgs false
namespace Go.Proofs.Ytnooiiojlkkpeaa
open Go.RowKit L02 L05 L13

def cont4 (M : List UInt64) (a b c d : UInt64) (f : Nat → Bool) (i : Nat) : Option UInt64 :=
  if f 13 = true ∧ i = 96 then some a else if f 15 = true ∧ i = 97 then some b else if f 17 = true ∧ i = 98 then some c else if f 19 = true ∧ i = 99 then some d else M[i]?
section
variable {M M' : List UInt64} {a b c d : UInt64} {f : Nat → Bool}
theorem cont_96 (hl : M'.length = 256) (h : ∀ i, M'[i]? = cont4 M a b c d f i) : ∀ i, (M'.set 96 a)[i]? = cont4 M a b c d (fun j => j == 13 || f j) i := by
  intro i
  rw [List.getElem?_set]
  by_cases e : i = 96
  · subst e; rw [if_pos rfl, if_pos (by omega)]; simp [cont4]
  · rw [if_neg (Ne.symm e), h]; simp [cont4, e]
theorem cont_97 (hl : M'.length = 256) (h : ∀ i, M'[i]? = cont4 M a b c d f i) : ∀ i, (M'.set 97 b)[i]? = cont4 M a b c d (fun j => j == 15 || f j) i := by
  intro i
  rw [List.getElem?_set]
  by_cases e : i = 97
  · subst e; rw [if_pos rfl, if_pos (by omega)]; simp [cont4]
  · rw [if_neg (Ne.symm e), h]; simp [cont4, e]
theorem cont_98 (hl : M'.length = 256) (h : ∀ i, M'[i]? = cont4 M a b c d f i) : ∀ i, (M'.set 98 c)[i]? = cont4 M a b c d (fun j => j == 17 || f j) i := by
  intro i
  rw [List.getElem?_set]
  by_cases e : i = 98
  · subst e; rw [if_pos rfl, if_pos (by omega)]; simp [cont4]
  · rw [if_neg (Ne.symm e), h]; simp [cont4, e]
theorem cont_99 (hl : M'.length = 256) (h : ∀ i, M'[i]? = cont4 M a b c d f i) : ∀ i, (M'.set 99 d)[i]? = cont4 M a b c d (fun j => j == 19 || f j) i := by
  intro i
  rw [List.getElem?_set]
  by_cases e : i = 99
  · subst e; rw [if_pos rfl, if_pos (by omega)]; simp [cont4]
  · rw [if_neg (Ne.symm e), h]; simp [cont4, e]
end
def ex2 : List (List UInt8) := [[1, 2, 3], []]
theorem cont_all {M' : List UInt64} (h : ∀ i, M'[i]? = cont4 (fillT ex2 0) (w0 [1, 2, 3]) (w1 [1, 2, 3]) (w0 []) (w1 []) (fun _ => true) i) : M' = fillT ex2 2 := by
  apply List.ext_getElem?
  intro i
  rw [h i]
  have e : fillT ex2 2 = ((((fillT ex2 0).set 96 (w0 [1, 2, 3])).set 97 (w1 [1, 2, 3])).set 98 (w0 [])).set 99 (w1 []) := rfl
  have hl := fillT_len ex2 0
  rw [e]
  generalize fillT ex2 0 = M at hl ⊢
  simp only [List.getElem?_set, cont4, List.length_set, hl, true_and]
  by_cases h1 : i = 96
  · subst h1; simp
  · by_cases h2 : i = 97
    · subst h2; simp
    · by_cases h3 : i = 98
      · subst h3; simp
      · by_cases h4 : i = 99
        · subst h4; simp
        · rw [if_neg h1, if_neg h2, if_neg h3, if_neg h4, if_neg (Ne.symm h4), if_neg (Ne.symm h3), if_neg (Ne.symm h2), if_neg (Ne.symm h1)]
theorem ex2_ok : tabErr (fillT ex2 2) 2 = 0 ∧ tabT (fillT ex2 2) 2 = ex2 := fill_ok (L := ex2) (by decide) (by decide)
theorem ex2_1 : tabErr (fillT ex2 2) 1 = 50 := fill_no (L := ex2) (n := 1) (by decide) (by decide) (by decide) (by decide)
theorem ex2_3 : tabErr (fillT ex2 2) 3 = 50 := fill_no (L := ex2) (n := 3) (by decide) (by decide) (by decide) (by decide)
theorem ex2_9 : tabErr (fillT ex2 2) 9 = 2 := by rw [tabErr, if_pos (fill_size _ _), if_neg (by omega)]
theorem ex2_m : tabErr (fillT ex2 2) (-1) = 2 := by rw [tabErr, if_pos (fill_size _ _), if_neg (by omega)]
theorem ex2_cut : tabErr ((fillT ex2 2).take 255) 9 = 8 := by
  rw [tabErr, if_neg]
  rw [List.length_take, fillT_len]; decide
theorem ex2_set : tabErr ((fillT ex2 2).set 111 1) 2 = 50 := by
  rw [tabErr, if_pos (by rw [List.length_set]; exact fill_size _ _), if_pos (by omega), if_neg]
  intro h
  have h7 := h 7 (by omega)
  unfold TyOk at h7
  rw [if_neg (by decide)] at h7
  have := h7.2
  rw [tb, List.getD_eq_getElem?_getD, List.getElem?_set, if_pos rfl, if_pos (by rw [fillT_len]; omega)] at this
  exact absurd this (by decide)

/-- four words are stored into an own row; two arrays lie by -/
def FFour (w0 : World) (B g c : Nat) (M : List UInt64) (x1 x2 x3 x4 : UInt64) (gp gq : Nat) (t : TypeId) (cs ds : Array Value) : (Nat → Bool) → World → Prop := fun f W =>
  Below B w0 W ∧ (∃ M' : List UInt64, M'.length = 256 ∧ W.ownsRow B 23 1 (.slice (some ⟨g, 0, none⟩) 256 c) 256 (M'.map Go.Proofs.Ytnooiiojlkkpeaa.u64) ∧ ∀ i, M'[i]? = cont4 M x1 x2 x3 x4 f i) ∧ Bx W gp t cs ∧ Bx W gq t ds
section
variable {w0 : World} {B g c : Nat} {M : List UInt64} {x1 x2 x3 x4 : UInt64} {gp gq : Nat} {t : TypeId} {cs ds : Array Value}
theorem FFour.dep : Dep (FFour w0 B g c M x1 x2 x3 x4 gp gq t cs ds) [13, 15, 17, 19] := by
  rintro f g' W hfg ⟨h1, ⟨M', h2, h3, h4⟩, h5, h6⟩
  refine ⟨h1, ⟨M', h2, h3, fun i => ?_⟩, h5, h6⟩
  rw [h4 i]
  unfold cont4
  rw [hfg 13 (by simp), hfg 15 (by simp), hfg 17 (by simp), hfg 19 (by simp)]
theorem FFour.step {j k : Nat} {x : UInt64} (hj : j < 256) (hg : gp ≠ g) (hg2 : gq ≠ g) (hs : ∀ (f : Nat → Bool) (M' : List UInt64), M'.length = 256 → (∀ i, M'[i]? = cont4 M x1 x2 x3 x4 f i) → ∀ i, (M'.set j x)[i]? = cont4 M x1 x2 x3 x4 (fun i => i == k || f i) i)
    (f : Nat → Bool) (W : World) (h : FFour w0 B g c M x1 x2 x3 x4 gp gq t cs ds f W) :
    ∃ W', (Instr.storeAt 23 (.pointer (some ⟨g, j, none⟩)) (.int .u64 x.toNat)).run Try.prog W = .ok () W' ∧ FFour w0 B g c M x1 x2 x3 x4 gp gq t cs ds (fun i => i == k || f i) W' := by
  obtain ⟨h1, ⟨M', h2, h3, h4⟩, h5, h6⟩ := h
  obtain ⟨⟨u0, c1⟩, c2, c3, c4, c5⟩ := own_put h3 hj (.int .u64 x.toNat)
  refine ⟨_, store_word c1 c2 _, h1.setCell (p := ⟨g, j, none⟩) c4 _, ⟨M'.set j x, by simpa using h2, ?_, hs f M' h2 h4⟩, h5.far (p := ⟨g, j, none⟩) hg _, h6.far (p := ⟨g, j, none⟩) hg2 _⟩
  rw [List.map_set]; exact c3
theorem FFour.cell (x : FXN (FFour w0 B g c M x1 x2 x3 x4 gp gq t cs ds)) (i : Nat) : x.W.cell? ⟨gp, i, none⟩ = cs[i]? := by obtain ⟨W, f, h⟩ := x; exact h.2.2.1.cell i
theorem FFour.cell2 (x : FXN (FFour w0 B g c M x1 x2 x3 x4 gp gq t cs ds)) (i : Nat) : x.W.cell? ⟨gq, i, none⟩ = ds[i]? := by obtain ⟨W, f, h⟩ := x; exact h.2.2.2.cell i
theorem FFour.start {W : World} (h1 : Below B w0 W) (h2 : W.ownsRow B 23 1 (.slice (some ⟨g, 0, none⟩) 256 c) 256 (M.map Go.Proofs.Ytnooiiojlkkpeaa.u64)) (hl : M.length = 256) (h3 : Bx W gp t cs) (h4 : Bx W gq t ds) : FFour w0 B g c M x1 x2 x3 x4 gp gq t cs ds (fun _ => false) W.drew :=
  ⟨h1.drew, ⟨M, hl, h2, fun i => by simp [cont4]⟩, h3, h4⟩
end
theorem own_far {W W' : World} {base e s n g : Nat} {y : Value} {ys : List Value} (hy : W.ownsRow base e s y n ys) (hg : W.grownBy W' (some g)) (h : g < base) : W'.ownsRow base e s y n ys := by
  refine World.ownsRow.kept hy hg ?_
  cases hb : y.ownBlock with
  | none => exact .inl rfl
  | some g' => right; have := (hy.lt g' hb).1; simp; omega
theorem OwnT.far {W W' : World} {base g : Nat} {v : Value} {L : List (List UInt8)} (h : OwnT W base v L) (hg : W.grownBy W' (some g)) (hb : g < base) : OwnT W' base v L := by
  obtain ⟨vs, h1, h2, h4⟩ := h; exact ⟨vs, h1, own_far h2 hg hb, fun i x l h5 h6 => own_far (h4 i x l h5 h6) hg hb⟩
end Go.Proofs.Ytnooiiojlkkpeaa
