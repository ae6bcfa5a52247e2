/- Opening the arguments of laws: slices of words, structs of ints. Nothing of the program. -/
import Derived.Test.YtgjpohhafmkhcaaBase
import Derived.ProofKit
import Derived.OpenShut
import Derived.Lib.SmallJoins
namespace Go.Proofs.Ytgjpohhafmkhcaa
open Go.RowKit Go.ChangeShapes Go.WideShapes Go.ChangeAt Go.Joins Go.Deep

theorem bd_i64 {a : Int} (h : (Lit.int .i64 a).wf = true) : -9223372036854775808 ≤ a ∧ a ≤ 9223372036854775807 := bounds_i64 h
theorem bd_u64 {a : Int} (h : (Lit.int .u64 a).wf = true) : ∃ x : UInt64, a = x.toNat := by
  have h1 := bounds_u64 h
  refine ⟨UInt64.ofNat a.toNat, ?_⟩
  rw [UInt64.toNat_ofNat']
  have : a.toNat % 2 ^ 64 = a.toNat := Nat.mod_eq_of_lt (by omega)
  rw [this]; omega
theorem bd_u8 {a : Int} (h : (Lit.int .u8 a).wf = true) : ∃ x : UInt8, a = x.toNat := by
  have h1 := bounds_u8 h
  refine ⟨UInt8.ofNat a.toNat, ?_⟩
  rw [UInt8.toNat_ofNat']
  have : a.toNat % 2 ^ 8 = a.toNat := Nat.mod_eq_of_lt (by omega)
  rw [this]; omega
theorem ex_words : ∀ (zs : List Int), (∀ n ∈ zs, (Lit.int .u64 n).wf = true) → ∃ l : List UInt64, zs.map (Value.int .u64) = l.map u64 ∧ zs.length = l.length
  | [], _ => ⟨[], rfl, rfl⟩
  | z :: zs, h => by
    obtain ⟨l, h1, h2⟩ := ex_words zs (fun n hn => h n (List.mem_cons_of_mem _ hn))
    obtain ⟨x, rfl⟩ := bd_u64 (h z (List.mem_cons_self ..))
    exact ⟨x :: l, by simp [h1, u64], by simp [h2]⟩

theorem ex_byts : ∀ (zs : List Int), (∀ n ∈ zs, (Lit.int .u8 n).wf = true) → ∃ l : List UInt8, zs.map (Value.int .u8) = l.map (fun x : UInt8 => Value.int .u8 x.toNat) ∧ zs.length = l.length
  | [], _ => ⟨[], rfl, rfl⟩
  | z :: zs, h => by
    obtain ⟨l, h1, h2⟩ := ex_byts zs (fun n hn => h n (List.mem_cons_of_mem _ hn))
    obtain ⟨x, rfl⟩ := bd_u8 (h z (List.mem_cons_self ..))
    exact ⟨x :: l, by simp [h1], by simp [h2]⟩

section
variable {H : Type} {enc : TypeId × Value → H} {P : Program} {w : World} {base : Nat} {held : Bool} {spare : Nat → Bool} {r : Reach} {b0 : Nat}
theorem open_words {t e : TypeId} {v : Value} {d : DataW H} {ps : List MemPlace} (ht : P.underlying t = some (.slice e)) (he : P.underlying e = some (.int .u64)) (hc : P.cellsOf e = 1)
    (hval : Value.okWide P w r b0 t v) (h : DataW.Trod enc P w base spare held t v d ps) : ∃ l, Words w v l := by
  obtain ⟨a, len, cap, rfl⟩ := okWide_slice ht hval
  obtain ⟨fuel, hf⟩ := h
  rcases open_ints ht he hc hf with ⟨hcs, _⟩ | ⟨x, l, c, zs, hcs, _, hl, hm, hz, _, hcell, hwz⟩
  · simp [Value.cells] at hcs
    obtain ⟨rfl, rfl, rfl⟩ := hcs
    exact ⟨[], Words.nil w⟩
  · simp [Value.cells] at hcs
    obtain ⟨rfl, rfl, rfl⟩ := hcs
    have hlz : len ≤ zs.length := by rw [hz]; split <;> omega
    obtain ⟨l, h1, h2⟩ := ex_words (zs.take len) (fun n hn => hwz n (List.mem_of_mem_take hn))
    have hll : l.length = len := by rw [← h2, List.length_take]; omega
    refine ⟨l, ?_⟩
    unfold Words
    rw [hll, ← h1]
    refine ⟨_, cap, rfl, hl, by simpa [maxLen] using hm, by rw [List.length_map, List.length_take]; omega, fun h => (by cases h), fun hn ad e => ?_⟩
    cases e
    obtain ⟨b, o, s⟩ := x
    have hc0 := hcell 0 (by omega)
    have hsp : s = none := by
      have := World.cell?_spot hc0
      simpa [Addr.add] using this
    subst hsp
    refine ⟨rfl, World.block_lt_of_cell? w _ hc0, fun j u hu => ?_⟩
    have hj : j < len ∧ j < zs.length := by
      have := List.getElem?_eq_some_iff.1 hu
      obtain ⟨h, _⟩ := this
      rw [List.length_map, List.length_take] at h
      omega
    have := hcell j hj.2
    rw [show ((⟨b, o, none⟩ : Addr).add j) = ⟨b, o + j, none⟩ by unfold Addr.add; split <;> simp_all] at this
    rw [this]
    rw [List.getElem?_map, List.getElem?_take, if_pos hj.1, List.getElem?_eq_getElem hj.2] at hu
    simp at hu
    rw [← hu, List.getD_eq_getElem?_getD, List.getElem?_eq_getElem hj.2]; rfl
theorem open_byts {t e : TypeId} {v : Value} {d : DataW H} {ps : List MemPlace} (ht : P.underlying t = some (.slice e)) (he : P.underlying e = some (.int .u8)) (hc : P.cellsOf e = 1)
    (hval : Value.okWide P w r b0 t v) (h : DataW.Trod enc P w base spare held t v d ps) : ∃ l : List UInt8, Rd w 1 v l.length (l.map fun x : UInt8 => Value.int .u8 x.toNat) := by
  obtain ⟨a, len, cap, rfl⟩ := okWide_slice ht hval
  obtain ⟨fuel, hf⟩ := h
  rcases open_ints ht he hc hf with ⟨hcs, _⟩ | ⟨x, l, c, zs, hcs, _, hl, hm, hz, _, hcell, hwz⟩
  · simp [Value.cells] at hcs
    obtain ⟨rfl, rfl, rfl⟩ := hcs
    exact ⟨[], Rd.nil w 1⟩
  · simp [Value.cells] at hcs
    obtain ⟨rfl, rfl, rfl⟩ := hcs
    have hlz : len ≤ zs.length := by rw [hz]; split <;> omega
    obtain ⟨l, h1, h2⟩ := ex_byts (zs.take len) (fun n hn => hwz n (List.mem_of_mem_take hn))
    have hll : l.length = len := by rw [← h2, List.length_take]; omega
    refine ⟨l, ?_⟩
    rw [hll, ← h1]
    refine ⟨_, cap, rfl, hl, by simpa [maxLen] using hm, by rw [List.length_map, List.length_take]; omega, fun h => (by cases h), fun hn ad e => ?_⟩
    cases e
    obtain ⟨b, o, s⟩ := x
    have hc0 := hcell 0 (by omega)
    have hsp : s = none := by
      have := World.cell?_spot hc0
      simpa [Addr.add] using this
    subst hsp
    refine ⟨rfl, World.block_lt_of_cell? w _ hc0, fun j u hu => ?_⟩
    have hj : j < len ∧ j < zs.length := by
      have := List.getElem?_eq_some_iff.1 hu
      obtain ⟨h, _⟩ := this
      rw [List.length_map, List.length_take] at h
      omega
    have := hcell j hj.2
    rw [show ((⟨b, o, none⟩ : Addr).add j) = ⟨b, o + j, none⟩ by unfold Addr.add; split <;> simp_all] at this
    rw [this]
    rw [List.getElem?_map, List.getElem?_take, if_pos hj.1, List.getElem?_eq_getElem hj.2] at hu
    simp at hu
    rw [← hu, List.getD_eq_getElem?_getD, List.getElem?_eq_getElem hj.2]; rfl
theorem open_ints2 {t : TypeId} {f0 f1 : Field} {v : Value} {d : DataW H} {ps : List MemPlace} (hs : P.underlying t = some (.struct #[f0, f1])) (hone : oneCellFields P #[f0, f1] = true) (hC : P.cellsOf t = 2)
    (h0 : P.underlying f0.type = some (.int .i64)) (h1 : P.underlying f1.type = some (.int .i64))
    (hv : Value.okWide P w r b0 t v) (h : DataW.Trod enc P w base spare held t v d ps) :
    ∃ a b : Int, v = .agg #[.int .i64 a, .int .i64 b] ∧ (-9223372036854775808 ≤ a ∧ a ≤ 9223372036854775807) ∧ (-9223372036854775808 ≤ b ∧ b ≤ 9223372036854775807) := by
  obtain ⟨c0, c1, y0, y1, m, rfl, _, _, hy0, hy1⟩ := open_agg2 hs hone hC hv h
  obtain ⟨a, e0, _, wa⟩ := DataW.trod_int h0 hy0
  obtain ⟨b, e1, _, wb⟩ := DataW.trod_int h1 hy1
  simp at e0 e1
  subst e0 e1
  exact ⟨a, b, rfl, bd_i64 wa, bd_i64 wb⟩
theorem open_slot {t : TypeId} {f0 f1 f2 : Field} {v : Value} {d : DataW H} {ps : List MemPlace} (hs : P.underlying t = some (.struct #[f0, f1, f2])) (hone : oneCellFields P #[f0, f1, f2] = true) (hC : P.cellsOf t = 3)
    (h0 : P.underlying f0.type = some (.int .i64)) (h1 : P.underlying f1.type = some .bool) (h2 : P.underlying f2.type = some (.int .i64))
    (hv : Value.okWide P w r b0 t v) (h : DataW.Trod enc P w base spare held t v d ps) :
    ∃ (a : Int) (b : Bool) (c : Int), v = .agg #[.int .i64 a, .bool b, .int .i64 c] ∧ (-9223372036854775808 ≤ a ∧ a ≤ 9223372036854775807) ∧ (-9223372036854775808 ≤ c ∧ c ≤ 9223372036854775807) := by
  obtain ⟨c0, c1, c2, y0, y1, y2, m, rfl, _, _, hy0, hy1, hy2⟩ := open_agg3 hs hone hC hv h
  obtain ⟨a, e0, _, wa⟩ := DataW.trod_int h0 hy0
  obtain ⟨b, e1, _⟩ := DataW.trod_bool h1 hy1
  obtain ⟨c, e2, _, wc⟩ := DataW.trod_int h2 hy2
  simp at e0 e1 e2
  subst e0 e1 e2
  exact ⟨a, b, c, rfl, bd_i64 wa, bd_i64 wc⟩
end
end Go.Proofs.Ytgjpohhafmkhcaa
