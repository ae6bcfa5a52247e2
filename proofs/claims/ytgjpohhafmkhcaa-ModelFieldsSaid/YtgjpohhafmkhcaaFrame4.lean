/- Opening the arguments of laws: models. -/
import Derived.Test.YtgjpohhafmkhcaaFrame2
import Derived.Test.YtgjpohhafmkhcaaC20
import Derived.Deep.SlicePairs
import Derived.Deep.Strs
set_option linter.unusedVariables false
set_option linter.unusedSimpArgs false
namespace Go.Proofs.Ytgjpohhafmkhcaa
open Go.RowKit Go.ChangeShapes Go.WideShapes Go.ChangeAt Go.Joins Go.Deep L18 L20

section
variable {H : Type} {enc : TypeId × Value → H} {P : Program} {w : World} {base : Nat} {held : Bool} {r : Reach} {b0 : Nat}
theorem words_of {spare : Nat → Bool} {t e : TypeId} {fuel : Nat} {v : Value} {y : DataW H × List MemPlace} (ht : P.underlying t = some (.slice e)) (he : P.underlying e = some (.int .u64)) (hc : P.cellsOf e = 1) (hf : DataW.trod enc P w base spare held fuel t [v] = some y) : ∃ l, Words w v l := by
  rcases open_ints ht he hc hf with ⟨hcs, _⟩ | ⟨x, len, cap, zs, hcs, _, hl, hm, hz, _, hcell, hwz⟩
  · simp at hcs; subst hcs
    exact ⟨[], Words.nil w⟩
  · simp at hcs; subst hcs
    have hlz : len ≤ zs.length := by rw [hz]; split <;> omega
    obtain ⟨l, h1, h2⟩ := ex_words (zs.take len) (fun n hn => hwz n (List.mem_of_mem_take hn))
    have hll : l.length = len := by rw [← h2, List.length_take]; omega
    refine ⟨l, ?_⟩
    unfold Words
    rw [hll, ← h1]
    refine ⟨_, cap, rfl, hl, by simpa [maxLen] using hm, by rw [List.length_map, List.length_take]; omega, fun h => (by cases h), fun hn ad e => ?_⟩
    cases e
    obtain ⟨b, o, s⟩ := x
    have hc0 := hcell 0 (by omega)
    have hsp : s = none := by
      have := World.cell?_spot hc0
      simpa [Addr.add] using this
    subst hsp
    refine ⟨rfl, World.block_lt_of_cell? w _ hc0, fun j u hu => ?_⟩
    have hj : j < len ∧ j < zs.length := by
      have := List.getElem?_eq_some_iff.1 hu
      obtain ⟨h, _⟩ := this
      rw [List.length_map, List.length_take] at h
      omega
    have := hcell j hj.2
    rw [show ((⟨b, o, none⟩ : Addr).add j) = ⟨b, o + j, none⟩ by unfold Addr.add; split <;> simp_all] at this
    rw [this]
    rw [List.getElem?_map, List.getElem?_take, if_pos hj.1, List.getElem?_eq_getElem hj.2] at hu
    simp at hu
    rw [← hu, List.getD_eq_getElem?_getD, List.getElem?_eq_getElem hj.2]; rfl
theorem byts_of {spare : Nat → Bool} {t e : TypeId} {fuel : Nat} {v : Value} {y : DataW H × List MemPlace} (ht : P.underlying t = some (.slice e)) (he : P.underlying e = some (.int .u8)) (hc : P.cellsOf e = 1) (hf : DataW.trod enc P w base spare held fuel t [v] = some y) : ∃ l : List UInt8, Byts w v l := by
  rcases open_ints ht he hc hf with ⟨hcs, _⟩ | ⟨x, len, cap, zs, hcs, _, hl, hm, hz, _, hcell, hwz⟩
  · simp at hcs; subst hcs
    exact ⟨[], Byts.nil w⟩
  · simp at hcs; subst hcs
    have hlz : len ≤ zs.length := by rw [hz]; split <;> omega
    obtain ⟨l, h1, h2⟩ := ex_byts (zs.take len) (fun n hn => hwz n (List.mem_of_mem_take hn))
    have hll : l.length = len := by rw [← h2, List.length_take]; omega
    refine ⟨l, ?_⟩
    unfold Byts
    rw [hll, show l.map u8 = l.map (fun x : UInt8 => Value.int .u8 x.toNat) from rfl, ← h1]
    refine ⟨_, cap, rfl, hl, by simpa [maxLen] using hm, by rw [List.length_map, List.length_take]; omega, fun h => (by cases h), fun hn ad e => ?_⟩
    cases e
    obtain ⟨b, o, s⟩ := x
    have hc0 := hcell 0 (by omega)
    have hsp : s = none := by
      have := World.cell?_spot hc0
      simpa [Addr.add] using this
    subst hsp
    refine ⟨rfl, World.block_lt_of_cell? w _ hc0, fun j u hu => ?_⟩
    have hj : j < len ∧ j < zs.length := by
      have := List.getElem?_eq_some_iff.1 hu
      obtain ⟨h, _⟩ := this
      rw [List.length_map, List.length_take] at h
      omega
    have := hcell j hj.2
    rw [show ((⟨b, o, none⟩ : Addr).add j) = ⟨b, o + j, none⟩ by unfold Addr.add; split <;> simp_all] at this
    rw [this]
    rw [List.getElem?_map, List.getElem?_take, if_pos hj.1, List.getElem?_eq_getElem hj.2] at hu
    simp at hu
    rw [← hu, List.getD_eq_getElem?_getD, List.getElem?_eq_getElem hj.2]; rfl
theorem typs_of {spare : Nat → Bool} {t e q : TypeId} {fuel : Nat} {v : Value} {y : DataW H × List MemPlace} (ht : P.underlying t = some (.slice e)) (he : P.underlying e = some (.slice q)) (hq : P.underlying q = some (.int .u8)) (ce : P.cellsOf e = 1) (cq : P.cellsOf q = 1)
    (hf : DataW.trod enc P w base spare held fuel t [v] = some y) : ∃ L, Typs w v L := by
  rcases open_slice1 ht ce hf with ⟨hcs, _⟩ | ⟨a, len, cap, m, n, V, D, Pl, hcs, _, hl, hm, hmm, _, hx⟩
  · simp at hcs; subst hcs
    exact ⟨[], [], rfl, Rd.nil w 1, fun i x l h => by simp at h⟩
  · simp at hcs; subst hcs
    have hlm : len ≤ m := by rw [hmm]; split <;> omega
    have each : ∀ i, i < len → ∃ l : List UInt8, Byts w (V i) l := fun i hi => byts_of he hq cq (hx i (by omega)).2
    obtain ⟨F, hF⟩ := choose_lt each
    refine ⟨(List.range len).map F, (List.range len).map V, by simp, ?_, ?_⟩
    · rw [List.length_map, List.length_range]
      refine ⟨_, cap, rfl, hl, by simpa [maxLen] using hm, by simp, fun h => (by cases h), fun hn ad e => ?_⟩
      cases e
      obtain ⟨b, o, s⟩ := a
      have hc0 := (hx 0 (by omega)).1
      have hsp : s = none := by
        have := World.cell?_spot hc0
        simpa [Addr.add] using this
      subst hsp
      refine ⟨rfl, World.block_lt_of_cell? w _ hc0, fun j u hu => ?_⟩
      have hj : j < len := by
        have := List.getElem?_eq_some_iff.1 hu
        obtain ⟨h, _⟩ := this
        simpa using h
      have := (hx j (by omega)).1
      rw [show ((⟨b, o, none⟩ : Addr).add j) = ⟨b, o + j, none⟩ by unfold Addr.add; split <;> simp_all] at this
      rw [this]
      rw [List.getElem?_map, List.getElem?_range hj] at hu
      simpa using hu
    · intro i y l hy hl'
      have hi : i < len := by
        have := List.getElem?_eq_some_iff.1 hy
        obtain ⟨h, _⟩ := this
        simpa using h
      rw [List.getElem?_map, List.getElem?_range hi] at hy hl'
      simp at hy hl'
      subst hy hl'
      exact hF i hi
theorem objs_of {spare : Nat → Bool} {t e q : TypeId} {f0 f1 : Field} {fuel : Nat} {v : Value} {y : DataW H × List MemPlace} (ht : P.underlying t = some (.slice e)) (he : P.underlying e = some (.struct #[f0, f1])) (ce : P.cellsOf e = 2) (o0 : f0.offset = 0) (o1 : f1.offset = 1) (c0 : P.cellsOf f0.type = 1) (c1 : P.cellsOf f1.type = 1)
    (h0 : P.underlying f0.type = some (.int .i64)) (h1 : P.underlying f1.type = some (.slice q)) (hq : P.underlying q = some (.int .u64)) (cq : P.cellsOf q = 1) (hf : DataW.trod enc P w base spare held fuel t [v] = some y) : ∃ L, Objs w v L := by
  rcases open_slice_pairs ht he ce o0 o1 c0 c1 hf with ⟨hcs, _⟩ | ⟨a, len, cap, m, n, V0, V1, D0, D1, P0, P1, hcs, _, hl, hm, hmm, _, hx⟩
  · simp at hcs; subst hcs
    exact ⟨[], Objs.nil w⟩
  · simp at hcs; subst hcs
    have hlm : len ≤ m := by rw [hmm]; split <;> omega
    have each : ∀ i, i < len → ∃ p : Int × List UInt64, V0 i = i64 p.1 ∧ Words w (V1 i) p.2 := by
      intro i hi
      obtain ⟨_, _, g0, g1⟩ := hx i (by omega)
      obtain ⟨z, e0, _, _⟩ := DataW.trod_int h0 g0
      obtain ⟨l, hw⟩ := words_of h1 hq cq g1
      simp at e0
      exact ⟨(z, l), e0, hw⟩
    obtain ⟨F, hF⟩ := choose_lt each
    have hobc : ∀ n, n ≤ len → obC ((List.range n).map fun i => (⟨(F i).1, (F i).2⟩ : Ob)) ((List.range n).map V1) = (List.range n).flatMap fun i => [V0 i, V1 i] := by
      intro n
      induction n with
      | zero => intro _; rfl
      | succ n ih =>
        intro hn
        rw [List.range_succ, List.map_append, List.map_append, List.flatMap_append]
        rw [List.map_cons, List.map_nil, List.map_cons, List.map_nil, obC_snoc (by simp), ih (by omega)]
        simp only [List.flatMap_cons, List.flatMap_nil, List.append_nil]
        rw [(hF n (by omega)).1]
    refine ⟨(List.range len).map fun i => (⟨(F i).1, (F i).2⟩ : Ob), (List.range len).map V1, by simp, ?_, ?_⟩
    · rw [List.length_map, List.length_range, hobc len (Nat.le_refl _)]
      have hfl : ∀ n, ((List.range n).flatMap fun i => [V0 i, V1 i]).length = n * 2 := by
        intro n
        induction n with
        | zero => rfl
        | succ n ih => rw [List.range_succ, List.flatMap_append, List.length_append, ih]; simp; omega
      have hget : ∀ n k, k < n → ((List.range n).flatMap fun i => [V0 i, V1 i])[k * 2]? = some (V0 k) ∧ ((List.range n).flatMap fun i => [V0 i, V1 i])[k * 2 + 1]? = some (V1 k) := by
        intro n
        induction n with
        | zero => intro k hk; omega
        | succ n ih =>
          intro k hk
          rw [List.range_succ, List.flatMap_append]
          by_cases hkn : k < n
          · rw [List.getElem?_append_left (by rw [hfl]; omega), List.getElem?_append_left (by rw [hfl]; omega)]
            exact ih k hkn
          · obtain rfl : k = n := by omega
            rw [List.getElem?_append_right (by rw [hfl]; omega), List.getElem?_append_right (by rw [hfl]; omega), hfl]
            simp
      refine ⟨_, cap, rfl, hl, by simpa [maxLen] using hm, hfl len, fun h => (by cases h), fun hn ad e => ?_⟩
      cases e
      obtain ⟨b, o, s⟩ := a
      have hc0 := (hx 0 (by omega)).1
      have hsp : s = none := by
        have := World.cell?_spot hc0
        simpa [Addr.add] using this
      subst hsp
      refine ⟨rfl, World.block_lt_of_cell? w _ hc0, fun j u hu => ?_⟩
      have hj : j < len * 2 := by
        have := List.getElem?_eq_some_iff.1 hu
        obtain ⟨h, _⟩ := this
        rwa [hfl] at h
      obtain ⟨k, rfl | rfl⟩ : ∃ k, j = k * 2 ∨ j = k * 2 + 1 := ⟨j / 2, by omega⟩
      · rw [(hget len k (by omega)).1] at hu
        have := (hx k (by omega)).1
        rw [show ((⟨b, o, none⟩ : Addr).add (k * 2)) = ⟨b, o + k * 2, none⟩ by unfold Addr.add; split <;> simp_all] at this
        rw [this]; exact hu
      · rw [(hget len k (by omega)).2] at hu
        have := (hx k (by omega)).2.1
        rw [show ((⟨b, o, none⟩ : Addr).add (k * 2 + 1)) = ⟨b, o + (k * 2 + 1), none⟩ by unfold Addr.add; split <;> simp_all] at this
        rw [this]; exact hu
    · intro i y l hy hl'
      have hi : i < len := by
        have := List.getElem?_eq_some_iff.1 hy
        obtain ⟨h, _⟩ := this
        simpa using h
      rw [List.getElem?_map, List.getElem?_range hi] at hy hl'
      simp at hy hl'
      subst hy hl'
      exact (hF i hi).2
theorem slots_of {spare : Nat → Bool} {t e : TypeId} {f0 f1 f2 : Field} {fuel : Nat} {v : Value} {y : DataW H × List MemPlace} (ht : P.underlying t = some (.slice e)) (he : P.underlying e = some (.struct #[f0, f1, f2])) (hone : oneCellFields P #[f0, f1, f2] = true) (ce : P.cellsOf e = 3)
    (h0 : P.underlying f0.type = some (.int .i64)) (h1 : P.underlying f1.type = some .bool) (h2 : P.underlying f2.type = some (.int .i64)) (hf : DataW.trod enc P w base spare held fuel t [v] = some y) : ∃ L, Slots w v L := by
  rcases open_slice ht hf with ⟨hcs, _⟩ | ⟨a, len, cap, m, n, D, Pl, hcs, _, hl, hm, hmm, _, hx⟩
  · simp at hcs; subst hcs
    exact ⟨[], Slots.nil w⟩
  · simp at hcs; subst hcs
    have hlm : len ≤ m := by rw [hmm]; split <;> omega
    have each : ∀ i, i < len → ∃ s : Sl, w.cell? (a.add (i * 3)) = some (.int .i64 s.gen) ∧ w.cell? (a.add (i * 3 + 1)) = some (.bool s.used) ∧ w.cell? (a.add (i * 3 + 2)) = some (.int .i64 s.at_) := by
      intro i hi
      obtain ⟨cs', g1, g2⟩ := hx i (by omega)
      rw [ce] at g1
      obtain ⟨_, hlen, hcell⟩ := World.cells?_some g1
      obtain ⟨y0, y1, y2, k, _, _, p0, p1, p2⟩ := trod_struct3 he g2
      obtain ⟨o0, k0⟩ := hone_of hone 0 f0 rfl
      obtain ⟨o1, k1⟩ := hone_of hone 1 f1 rfl
      obtain ⟨o2, k2⟩ := hone_of hone 2 f2 rfl
      match cs', hlen with
      | [v0, v1, v2], _ =>
        obtain ⟨z0, e0, _, _⟩ := DataW.trod_int h0 p0
        obtain ⟨z1, e1, _⟩ := DataW.trod_bool h1 p1
        obtain ⟨z2, e2, _, _⟩ := DataW.trod_int h2 p2
        simp [o0, o1, o2, k0, k1, k2] at e0 e1 e2
        subst e0 e1 e2
        have q0 := hcell 0 (by omega); have q1 := hcell 1 (by omega); have q2 := hcell 2 (by omega)
        rw [add_add] at q0 q1 q2
        exact ⟨⟨z0, z1, z2⟩, by simpa using q0, by simpa using q1, by simpa using q2⟩
    haveI : Inhabited Sl := ⟨.none⟩
    obtain ⟨F, hF⟩ := choose_lt each
    refine ⟨(List.range len).map F, ?_⟩
    unfold Slots
    rw [List.length_map, List.length_range]
    refine ⟨_, cap, rfl, hl, by simpa [maxLen] using hm, by rw [tabL_len]; simp, fun h => (by cases h), fun hn ad e => ?_⟩
    cases e
    obtain ⟨b, o, s⟩ := a
    have hc0 := (hF 0 (by omega)).1
    have hsp : s = none := by
      have := World.cell?_spot hc0
      simpa [Addr.add] using this
    subst hsp
    refine ⟨rfl, World.block_lt_of_cell? w _ hc0, fun j u hu => ?_⟩
    have hj : j < len * 3 := by
      have := List.getElem?_eq_some_iff.1 hu
      obtain ⟨h, _⟩ := this
      rw [tabL_len] at h; simpa using h
    obtain ⟨k, q, hq, rfl⟩ : ∃ k q, q < 3 ∧ j = k * 3 + q := ⟨j / 3, j % 3, Nat.mod_lt _ (by omega), by omega⟩
    have hk : k < len := by omega
    have hs : ((List.range len).map F)[k]? = some (F k) := by rw [List.getElem?_map, List.getElem?_range hk]; rfl
    rw [tabL_get _ k _ hs q hq] at hu
    obtain ⟨g0, g1, g2⟩ := hF k hk
    have ad : ∀ j, ((⟨b, o, none⟩ : Addr).add j) = ⟨b, o + j, none⟩ := fun j => by unfold Addr.add; split <;> simp_all
    rw [ad] at g0 g1 g2
    have : q = 0 ∨ q = 1 ∨ q = 2 := by omega
    rcases this with rfl | rfl | rfl
    · rw [Nat.add_zero, g0]; simpa [slC] using hu
    · rw [g1]; simpa [slC] using hu
    · rw [g2]; simpa [slC] using hu
theorem open_model {spare : Nat → Bool} {t eT eO eS q8 q64 : TypeId} {f0 f1 f2 g0 g1 k0 k1 k2 : Field} {v : Value} {d : DataW H} {ps : List MemPlace} (hs : P.underlying t = some (.struct #[f0, f1, f2])) (hone : oneCellFields P #[f0, f1, f2] = true) (hC : P.cellsOf t = 3)
    (hT : P.underlying f0.type = some (.slice eT)) (hT2 : P.underlying eT = some (.slice q8)) (hq8 : P.underlying q8 = some (.int .u8)) (cT : P.cellsOf eT = 1) (c8 : P.cellsOf q8 = 1)
    (hO : P.underlying f1.type = some (.slice eO)) (hO2 : P.underlying eO = some (.struct #[g0, g1])) (cO : P.cellsOf eO = 2) (o0 : g0.offset = 0) (o1 : g1.offset = 1) (c0 : P.cellsOf g0.type = 1) (c1 : P.cellsOf g1.type = 1) (hg0 : P.underlying g0.type = some (.int .i64)) (hg1 : P.underlying g1.type = some (.slice q64)) (hq64 : P.underlying q64 = some (.int .u64)) (c64 : P.cellsOf q64 = 1)
    (hS : P.underlying f2.type = some (.slice eS)) (hS2 : P.underlying eS = some (.struct #[k0, k1, k2])) (hSone : oneCellFields P #[k0, k1, k2] = true) (cS : P.cellsOf eS = 3) (hk0 : P.underlying k0.type = some (.int .i64)) (hk1 : P.underlying k1.type = some .bool) (hk2 : P.underlying k2.type = some (.int .i64))
    (hv : Value.okWide P w r b0 t v) (h : DataW.Trod enc P w base spare held t v d ps) : ∃ tv ov sv m, v = .agg #[tv, ov, sv] ∧ Mod w tv ov sv m := by
  obtain ⟨v0, v1, v2, y0, y1, y2, n, rfl, _, _, h0, h1, h2⟩ := open_agg3 hs hone hC hv h
  obtain ⟨T, hT'⟩ := typs_of hT hT2 hq8 cT c8 h0
  obtain ⟨O, hO'⟩ := objs_of hO hO2 cO o0 o1 c0 c1 hg0 hg1 hq64 c64 h1
  obtain ⟨S, hS'⟩ := slots_of hS hS2 hSone cS hk0 hk1 hk2 h2
  exact ⟨v0, v1, v2, ⟨T, O, S⟩, rfl, hT', hO', hS'⟩
end
end Go.Proofs.Ytgjpohhafmkhcaa
