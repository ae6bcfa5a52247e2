/- Contracts of copies of slices. -/
import Derived.Test.YtgjpohhafmkhcaaC20f
import Derived.Test.YtgjpohhafmkhcaaGhost
set_option linter.unusedVariables false
set_option linter.unusedSimpArgs false
namespace Go.Proofs.Ytgjpohhafmkhcaa
open Go.RowKit L02 L13 L18 L20

theorem run_lit0 {P : Program} {t e : TypeId} (W : World) (ht : P.underlying t = some (.slice e)) (hi : (P.info? e).isSome = true) : (Instr.buildSlice t 0 #[]).run P W = .ok (.slice (some ⟨W.heap.size, 0, none⟩) 0 0) (W.alloc (.cells #[] e)) := by
  obtain ⟨i, hi'⟩ := Option.isSome_iff_exists.1 hi
  simp [Instr.buildSlice, run_underlying ht, sizeOf, typeInfo, hi', go_sem]

set_option maxRecDepth 100000 in
set_option maxHeartbeats 1000000 in
theorem CloneW_rd (x : Value) (n : Nat) (xs : List Value) (hn : n ≤ 1000) (h1 : ∀ u ∈ xs, u.oneCell' = true) (w : World) (h : Rd w 1 x n xs) :
    Calls Try.prog 65 #[x] w fun e w' => ∃ y, e = .returned y ∧ w'.ownsRow w.heap.size 29 1 y n xs ∧ Below w.heap.size w w' := by
  have B : Below w.heap.size w w := Below.refl _ _
  have HX := Lib.hid h; have HU := Lib.hid h1
  obtain ⟨A, c, rfl, hc, _, hl, hA, _⟩ := h
  rcases A with _ | ad
  · have hc0 := hA rfl
    subst hc0
    obtain rfl : n = 0 := by omega
    obtain rfl : xs = [] := List.eq_nil_of_length_eq_zero (by simpa using hl)
    clear hl hA hc
    have q : ∀ W, (binOp .eql 70 (.slice none 0 0) (.slice none 0 0)).run Try.prog W = .ok (.bool true) W := fun W => Lib.run_eql_slice_nil W _ _ _ _ _ _ _ Try.underlying70
    go_enter Try.func65, Try.ntmps65
    go_wp2
    go_ret
    exact ⟨_, rfl, World.ownsRow_nil _ _ _ _, B⟩
  · clear hl hA hc
    have q : ∀ W, (binOp .eql 70 (.slice (some ad) n c) (.slice none 0 0)).run Try.prog W = .ok (.bool false) W := fun W => Lib.run_eql_slice_nil W _ _ _ _ _ _ _ Try.underlying70
    go_enter Try.func65, Try.ntmps65
    go_wp2_with (at_builtin; refine wpList_append (by rfl) rfl rfl rfl Try.underlying70 info_u64 rfl (by omega) (by exact lit0_own (Nat.le_refl _)) (by exact HX.out.alloc _) HU.out (by omega) (by omega) (by exact B.alloc B.size _) (Nat.le_refl _) ?_; intro v1 w3 o3 B3 g3; clear g3)
    go_ret
    exact ⟨_, rfl, by simpa using o3, B3⟩

set_option maxRecDepth 100000 in
set_option maxHeartbeats 1000000 in
theorem CloneB_rd (x : Value) (n : Nat) (xs : List Value) (hn : n ≤ 1000) (h1 : ∀ u ∈ xs, u.oneCell' = true) (w : World) (h : Rd w 1 x n xs) :
    Calls Try.prog 64 #[x] w fun e w' => ∃ y, e = .returned y ∧ w'.ownsRow w.heap.size 5 1 y n xs ∧ Below w.heap.size w w' := by
  have B : Below w.heap.size w w := Below.refl _ _
  have HX := Lib.hid h; have HU := Lib.hid h1
  obtain ⟨A, c, rfl, hc, _, hl, hA, _⟩ := h
  rcases A with _ | ad
  · have hc0 := hA rfl
    subst hc0
    obtain rfl : n = 0 := by omega
    obtain rfl : xs = [] := List.eq_nil_of_length_eq_zero (by simpa using hl)
    clear hl hA hc
    have q : ∀ W, (binOp .eql 74 (.slice none 0 0) (.slice none 0 0)).run Try.prog W = .ok (.bool true) W := fun W => Lib.run_eql_slice_nil W _ _ _ _ _ _ _ Try.underlying74
    go_enter Try.func64, Try.ntmps64
    go_wp2
    go_ret
    exact ⟨_, rfl, World.ownsRow_nil _ _ _ _, B⟩
  · clear hl hA hc
    have q : ∀ W, (binOp .eql 74 (.slice (some ad) n c) (.slice none 0 0)).run Try.prog W = .ok (.bool false) W := fun W => Lib.run_eql_slice_nil W _ _ _ _ _ _ _ Try.underlying74
    go_enter Try.func64, Try.ntmps64
    go_wp2_with (at_builtin; refine wpList_append (by rfl) rfl rfl rfl Try.underlying74 info_u8 rfl (by omega) (by exact lit0_own (Nat.le_refl _)) (by exact HX.out.alloc _) HU.out (by omega) (by omega) (by exact B.alloc B.size _) (Nat.le_refl _) ?_; intro v1 w3 o3 B3 g3; clear g3)
    go_ret
    exact ⟨_, rfl, by simpa using o3, B3⟩

set_option maxRecDepth 100000 in
set_option maxHeartbeats 1000000 in
theorem CloneS_rd (x : Value) (n : Nat) (xs : List Value) (hn : n ≤ 1000) (h1 : ∀ u ∈ xs, u.oneCell' = true) (w : World) (h : Rd w 3 x n xs) :
    Calls Try.prog 63 #[x] w fun e w' => ∃ y, e = .returned y ∧ w'.ownsRow w.heap.size 67 3 y n xs ∧ Below w.heap.size w w' := by
  have B : Below w.heap.size w w := Below.refl _ _
  have HX := Lib.hid h; have HU := Lib.hid h1
  obtain ⟨A, c, rfl, hc, _, hl, hA, _⟩ := h
  rcases A with _ | ad
  · have hc0 := hA rfl
    subst hc0
    obtain rfl : n = 0 := by omega
    obtain rfl : xs = [] := List.eq_nil_of_length_eq_zero (by simpa using hl)
    clear hl hA hc
    have q : ∀ W, (binOp .eql 24 (.slice none 0 0) (.slice none 0 0)).run Try.prog W = .ok (.bool true) W := fun W => Lib.run_eql_slice_nil W _ _ _ _ _ _ _ Try.underlying24
    go_enter Try.func63, Try.ntmps63
    go_wp2
    go_ret
    exact ⟨_, rfl, World.ownsRow_nil _ _ _ _, B⟩
  · clear hl hA hc
    have q : ∀ W, (binOp .eql 24 (.slice (some ad) n c) (.slice none 0 0)).run Try.prog W = .ok (.bool false) W := fun W => Lib.run_eql_slice_nil W _ _ _ _ _ _ _ Try.underlying24
    go_enter Try.func63, Try.ntmps63
    go_wp2_with (at_builtin; refine wpList_append (by rfl) rfl rfl rfl Try.underlying24 info_slot rfl (by omega) (by exact lit0_own (Nat.le_refl _)) (by exact HX.out.alloc _) HU.out (by omega) (by omega) (by exact B.alloc B.size _) (Nat.le_refl _) ?_; intro v1 w3 o3 B3 g3; clear g3)
    go_ret
    exact ⟨_, rfl, by simpa using o3, B3⟩

theorem CloneW_any (x : Value) (l : List UInt64) (hn : l.length ≤ 1000) (w : World) (h : Words w x l) :
    Calls Try.prog 65 #[x] w fun e w' => ∃ y, e = .returned y ∧ OwnW w' w.heap.size 29 y l ∧ Below w.heap.size w w' := CloneW_rd x _ _ hn (one_u64s l) w h
theorem CloneB_any (x : Value) (l : List UInt8) (hn : l.length ≤ 1000) (w : World) (h : Byts w x l) :
    Calls Try.prog 64 #[x] w fun e w' => ∃ y, e = .returned y ∧ OwnB w' w.heap.size 5 y l ∧ Below w.heap.size w w' := CloneB_rd x _ _ hn (one_u8s l) w h
theorem CloneS_any (x : Value) (l : List Sl) (hn : l.length ≤ 1000) (w : World) (h : Slots w x l) :
    Calls Try.prog 63 #[x] w fun e w' => ∃ y, e = .returned y ∧ OwnS w' w.heap.size 67 y l ∧ Below w.heap.size w w' := CloneS_rd x _ _ hn (tabL_one l) w h
end Go.Proofs.Ytgjpohhafmkhcaa
