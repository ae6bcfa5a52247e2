/- Opening arguments of laws: slices of ints. Nothing of the program. -/
import Derived.Test.YteiocllnhljpjaaFrame
namespace Go.Proofs.Yteiocllnhljpjaa
open Go.RowKit Go.ChangeShapes Go.WideShapes Go.ChangeAt Go.Joins Go.Deep

theorem ex_ints : ∀ (zs : List Int), (∀ n ∈ zs, (Lit.int .i64 n).wf = true) → ∃ l : List Int, zs.map (Value.int .i64) = l.map i64 ∧ zs.length = l.length := fun zs _ => ⟨zs, rfl, rfl⟩

section
variable {H : Type} {enc : TypeId × Value → H} {P : Program} {w : World} {base : Nat} {held : Bool} {spare : Nat → Bool} {r : Reach} {b0 : Nat}
theorem open_intl {t e : TypeId} {v : Value} {d : DataW H} {ps : List MemPlace} (ht : P.underlying t = some (.slice e)) (he : P.underlying e = some (.int .i64)) (hc : P.cellsOf e = 1)
    (hval : Value.okWide P w r b0 t v) (h : DataW.Trod enc P w base spare held t v d ps) : ∃ l, Ints w v l := by
  obtain ⟨a, len, cap, rfl⟩ := okWide_slice ht hval
  obtain ⟨fuel, hf⟩ := h
  rcases open_ints ht he hc hf with ⟨hcs, _⟩ | ⟨x, l, c, zs, hcs, _, hl, hm, hz, _, hcell, hwz⟩
  · simp [Value.cells] at hcs
    obtain ⟨rfl, rfl, rfl⟩ := hcs
    exact ⟨[], Rd.nil w 1⟩
  · simp [Value.cells] at hcs
    obtain ⟨rfl, rfl, rfl⟩ := hcs
    have hlz : len ≤ zs.length := by rw [hz]; split <;> omega
    obtain ⟨l, h1, h2⟩ := ex_ints (zs.take len) (fun n hn => hwz n (List.mem_of_mem_take hn))
    have hll : l.length = len := by rw [← h2, List.length_take]; omega
    refine ⟨l, ?_⟩
    unfold Ints
    rw [hll, ← h1]
    refine ⟨_, cap, rfl, hl, by simpa [maxLen] using hm, by rw [List.length_map, List.length_take]; omega, fun h => (by cases h), fun hn ad e => ?_⟩
    cases e
    obtain ⟨b, o, s⟩ := x
    have hc0 := hcell 0 (by omega)
    have hsp : s = none := by
      have := World.cell?_spot hc0
      simpa [Addr.add] using this
    subst hsp
    refine ⟨rfl, World.block_lt_of_cell? w _ hc0, fun j u hu => ?_⟩
    have hj : j < len ∧ j < zs.length := by
      have := List.getElem?_eq_some_iff.1 hu
      obtain ⟨h, _⟩ := this
      rw [List.length_map, List.length_take] at h
      omega
    have := hcell j hj.2
    rw [show ((⟨b, o, none⟩ : Addr).add j) = ⟨b, o + j, none⟩ by unfold Addr.add; split <;> simp_all] at this
    rw [this]
    rw [List.getElem?_map, List.getElem?_take, if_pos hj.1, List.getElem?_eq_getElem hj.2] at hu
    simp at hu
    rw [← hu, List.getD_eq_getElem?_getD, List.getElem?_eq_getElem hj.2]; rfl
end
end Go.Proofs.Yteiocllnhljpjaa
