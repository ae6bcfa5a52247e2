/- Opening the arguments of laws: slices of slices of bytes. Nothing of the program. -/
import Derived.Test.YtgjpohhafmkhcaaFrame
import Derived.Deep.Matrix
namespace Go.Proofs.Ytgjpohhafmkhcaa
open Go.RowKit Go.ChangeShapes Go.WideShapes Go.ChangeAt Go.Joins Go.Deep

section
variable {H : Type} {enc : TypeId × Value → H} {P : Program} {w : World} {base : Nat} {held : Bool} {r : Reach} {b0 : Nat}
theorem open_typs {t e q : TypeId} {v : Value} {d : DataW H} {ps : List MemPlace} (ht : P.underlying t = some (.slice e)) (he : P.underlying e = some (.slice q)) (hq : P.underlying q = some (.int .u8)) (ce : P.cellsOf e = 1) (cq : P.cellsOf q = 1)
    (hval : Value.okWide P w r b0 t v) (h : DataW.Trod enc P w base (fun _ => true) held t v d ps) :
    ∃ (L : List (List UInt8)) (vs : List Value), vs.length = L.length ∧ Rd w 1 v L.length vs ∧ ∀ (i : Nat) x (l : List UInt8), vs[i]? = some x → L[i]? = some l → Rd w 1 x l.length (l.map fun x : UInt8 => Value.int .u8 x.toNat) := by
  obtain ⟨a, len, cap, rfl⟩ := okWide_slice ht hval
  obtain ⟨fuel, hf⟩ := h
  rcases open_int_rows ht he hq ce cq hf with ⟨hcs, _⟩ | ⟨x, n, c, A, Ls, C, Z, hcs, _, hl, hm, _, hcell⟩
  · simp [Value.cells] at hcs
    obtain ⟨rfl, rfl, rfl⟩ := hcs
    exact ⟨[], [], rfl, Rd.nil w 1, fun i x l h => by simp at h⟩
  · simp [Value.cells] at hcs
    obtain ⟨rfl, rfl, rfl⟩ := hcs
    have each : ∀ r, r < cap → ∃ l : List UInt8, Rd w 1 (.slice (A r) (Ls r) (C r)) l.length (l.map fun x : UInt8 => Value.int .u8 x.toNat) := by
      intro r hr
      obtain ⟨_, h1, h2, h3, h4, h5, h6⟩ := hcell r hr
      obtain ⟨l, e1, e2⟩ := ex_byts ((Z r).take (Ls r)) (fun n hn => h4 n (List.mem_of_mem_take hn))
      have hll : l.length = Ls r := by rw [← e2, List.length_take]; omega
      refine ⟨l, ?_⟩
      rw [hll, ← e1]
      refine ⟨_, _, rfl, h1, by simpa [maxLen] using h2, by rw [List.length_map, List.length_take]; omega, h5, fun hn ad e => ?_⟩
      obtain ⟨_, h7⟩ := h6 ad e
      obtain ⟨b, o, s⟩ := ad
      have hc0 := h7 0 (by omega)
      have hsp : s = none := by
        have := World.cell?_spot hc0
        simpa [Addr.add] using this
      subst hsp
      refine ⟨rfl, World.block_lt_of_cell? w _ hc0, fun j u hu => ?_⟩
      have hj : j < Ls r ∧ j < (Z r).length := by
        have := List.getElem?_eq_some_iff.1 hu
        obtain ⟨h, _⟩ := this
        rw [List.length_map, List.length_take] at h
        omega
      have := h7 j (by omega)
      rw [show ((⟨b, o, none⟩ : Addr).add j) = ⟨b, o + j, none⟩ by unfold Addr.add; split <;> simp_all] at this
      rw [this]
      rw [List.getElem?_map, List.getElem?_take, if_pos hj.1, List.getElem?_eq_getElem hj.2] at hu
      simp at hu
      rw [← hu, List.getD_eq_getElem?_getD, List.getElem?_eq_getElem hj.2]; rfl
    obtain ⟨F, hF⟩ := choose_lt each
    refine ⟨(List.range len).map F, (List.range len).map fun r => .slice (A r) (Ls r) (C r), by simp, ?_, ?_⟩
    · rw [List.length_map, List.length_range]
      refine ⟨_, cap, rfl, hl, by simpa [maxLen] using hm, by simp, fun h => (by cases h), fun hn ad e => ?_⟩
      cases e
      obtain ⟨b, o, s⟩ := x
      have hc0 := (hcell 0 (by omega)).1
      have hsp : s = none := by
        have := World.cell?_spot hc0
        simpa [Addr.add] using this
      subst hsp
      refine ⟨rfl, World.block_lt_of_cell? w _ hc0, fun j u hu => ?_⟩
      have hj : j < len := by
        have := List.getElem?_eq_some_iff.1 hu
        obtain ⟨h, _⟩ := this
        simpa using h
      have := (hcell j (by omega)).1
      rw [show ((⟨b, o, none⟩ : Addr).add j) = ⟨b, o + j, none⟩ by unfold Addr.add; split <;> simp_all] at this
      rw [this]
      rw [List.getElem?_map, List.getElem?_range hj] at hu
      simpa using hu
    · intro i y l hy hl'
      have hi : i < len := by
        have := List.getElem?_eq_some_iff.1 hy
        obtain ⟨h, _⟩ := this
        simpa using h
      rw [List.getElem?_map, List.getElem?_range hi] at hy hl'
      simp at hy hl'
      subst hy hl'
      exact hF i (by omega)
end
end Go.Proofs.Ytgjpohhafmkhcaa
