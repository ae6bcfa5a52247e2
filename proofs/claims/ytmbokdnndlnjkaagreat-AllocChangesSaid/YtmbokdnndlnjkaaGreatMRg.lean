/- Contracts of the functions that the laws 'R' reach, part 7. No condition. -/
import Derived.Test.YtmbokdnndlnjkaaGreatMRb
set_option linter.unusedVariables false
set_option linter.unusedSimpArgs false
namespace Go.Proofs.YtmbokdnndlnjkaaGreat.L18
open L02
structure Sl where
  gen : Int
  used : Bool
  at_ : Int
deriving DecidableEq
def Sl.none : Sl := ⟨0, false, 0⟩
def Right (s : Sl) : Prop := 0 ≤ s.gen ∧ s.gen ≤ 2147483647 ∧ (s.used = false → s.at_ = 0) ∧ (s.used = true → 0 < s.gen ∧ 128 ≤ s.at_ ∧ s.at_ < 2048)
instance (s : Sl) : Decidable (Right s) := inferInstanceAs (Decidable (0 ≤ s.gen ∧ s.gen ≤ 2147483647 ∧ (s.used = false → s.at_ = 0) ∧ (s.used = true → 0 < s.gen ∧ 128 ≤ s.at_ ∧ s.at_ < 2048)))
def pkN (s : Sl) : Nat := s.at_.toNat + s.gen.toNat * 4294967296 + (if s.used then 9223372036854775808 else 0)
def pk (s : Sl) : UInt64 := UInt64.ofNat (pkN s)
def spl (w : UInt64) : Sl := ⟨(w.toNat / 4294967296 % 2147483648 : Nat), decide (w.toNat / 9223372036854775808 = 1), (w.toNat % 4294967296 : Nat)⟩
def wordErr (s : Sl) : Int := if Right s then 0 else 8
def word (s : Sl) : UInt64 := if Right s then pk s else 0
def splErr (w : UInt64) : Int := if Right (spl w) then 0 else 50
def spl0 (w : UInt64) : Sl := if Right (spl w) then spl w else .none
/-- the words of slots, in an image -/
def ws (l : List UInt64) : List UInt64 := (l.drop 112).take 16
def slots (l : List UInt64) : List Sl := (ws l).map spl
def AllR (l : List UInt64) : Prop := ∀ x ∈ ws l, Right (spl x)
instance (l : List UInt64) : Decidable (AllR l) := inferInstanceAs (Decidable (∀ x ∈ ws l, Right (spl x)))
def openErr (l : List UInt64) : Int := if SizeOk l.length then (if AllR l then 0 else 50) else 8
def all (l : List UInt64) : List Sl := if openErr l = 0 then slots l else []
def rightErr (L : List Sl) (s g : Int) : Int := if 0 ≤ s ∧ s < L.length then (if (L.getD s.toNat .none).used = true ∧ (L.getD s.toNat .none).gen = g then 0 else 28) else 2
def resErr (l : List UInt64) (s g : Int) : Int := if openErr l = 0 then rightErr (slots l) s g else openErr l
def res (l : List UInt64) (s g : Int) : Int := if resErr l s g = 0 then ((slots l).getD s.toNat .none).at_ else 0
/-- the first free slot from k on -/
def nextFrom : List Sl → Nat → Option Nat
  | [], _ => none
  | s :: L, k => if s.used = false ∧ s.gen ≠ 2147483647 then some k else nextFrom L (k + 1)
def next (L : List Sl) : Option Nat := nextFrom L 0
def newErr (l : List UInt64) (a : Int) : Int := if openErr l = 0 then (if 128 ≤ a ∧ a < 2048 then (if next (slots l) = none then 23 else 0) else 2) else openErr l
def newSlot (l : List UInt64) (a : Int) : Int := if newErr l a = 0 then ((next (slots l)).getD 0 : Nat) else 0
def newGen (l : List UInt64) (a : Int) : Int := if newErr l a = 0 then ((slots l).getD ((next (slots l)).getD 0) .none).gen + 1 else 0
def newAt (l : List UInt64) (a : Int) : Int := if newErr l a = 0 then 112 + ((next (slots l)).getD 0 : Nat) else 0
def newVal (l : List UInt64) (a : Int) : UInt64 := if newErr l a = 0 then pk ⟨newGen l a, true, a⟩ else 0
def dropAt (l : List UInt64) (s g : Int) : Int := if resErr l s g = 0 then 112 + s else 0
def dropVal (l : List UInt64) (s g : Int) : UInt64 := if resErr l s g = 0 then pk ⟨g, false, 0⟩ else 0
theorem pkN_t {s : Sl} (hu : s.used = true) : pkN s = s.at_.toNat + s.gen.toNat * 4294967296 + 9223372036854775808 := by rw [pkN, hu]; rfl
theorem pkN_f {s : Sl} (h : Right s) (hu : s.used = false) : pkN s = s.gen.toNat * 4294967296 := by
  have := h.2.2.1 hu
  rw [pkN, hu, this]; simp
theorem pkN_lt {s : Sl} (h : Right s) : pkN s < 18446744073709551616 := by
  have h1 := h.1; have h2 := h.2.1
  cases hu : s.used
  · rw [pkN_f h hu]; omega
  · have h4 := h.2.2.2 hu
    rw [pkN_t hu]; omega
theorem pk_nat {s : Sl} (h : Right s) : (pk s).toNat = pkN s := by
  unfold pk
  rw [UInt64.toNat_ofNat']
  exact Nat.mod_eq_of_lt (pkN_lt h)
theorem spl_pk {s : Sl} (h : Right s) : spl (pk s) = s := by
  have hn := pk_nat h
  obtain ⟨g, u, a⟩ := s
  have h1 : 0 ≤ g := h.1
  have h2 : g ≤ 2147483647 := h.2.1
  unfold spl
  rw [hn]
  cases hu : u
  · have h3 : a = 0 := h.2.2.1 hu
    rw [pkN_f (by rw [← hu]; exact h) rfl]
    subst h3 hu
    have e1 : decide (g.toNat * 4294967296 / 9223372036854775808 = 1) = false := by rw [decide_eq_false_iff_not]; omega
    simp only [e1, Sl.mk.injEq, true_and, and_true]
    exact ⟨by omega, by omega⟩
  · have h4 : 0 < g ∧ 128 ≤ a ∧ a < 2048 := h.2.2.2 hu
    rw [pkN_t rfl]
    subst hu
    have e1 : decide ((a.toNat + g.toNat * 4294967296 + 9223372036854775808) / 9223372036854775808 = 1) = true := by rw [decide_eq_true_iff]; omega
    simp only [e1, Sl.mk.injEq, true_and, and_true]
    exact ⟨by omega, by omega⟩
end Go.Proofs.YtmbokdnndlnjkaaGreat.L18
namespace Go.Proofs.YtmbokdnndlnjkaaGreat
open Go.RowKit L01 L02 L18
def slV (s : Sl) : Value := .agg #[.int .i64 s.gen, .bool s.used, .int .i64 s.at_]
set_option maxHeartbeats 600000 in
theorem right_any (s : Sl) (b : Bool) (hb : b = decide (Right s)) (w : World) : Calls Tryz.prog 154 #[.agg #[.int .i64 s.gen, .bool s.used, .int .i64 s.at_]] w fun e w' => e = .returned (.bool b) ∧ Below w.heap.size w w' := by
  have HB := Lib.hid hb; clear hb
  obtain ⟨g, u, a⟩ := s
  dsimp only at *
  cases u
  all_goals
    go_enter Tryz.func154, Tryz.ntmps154
    go_wp2
    all_goals
      go_ret
      refine ⟨ret_bool ?_, (Below.refl _ _).alloc (Nat.le_refl _) _⟩
      rw [HB.out]
      exact bool_dec (by simp [Right]; try omega)
set_option maxHeartbeats 600000 in
theorem Check18R_any (s : Sl) (r : Int) (hr : r = wordErr s) (w : World) : Calls Tryz.prog 165 #[.agg #[.int .i64 s.gen, .bool s.used, .int .i64 s.at_]] w fun e w' => e = .returned (.int .i64 r) ∧ Below w.heap.size w w' := by
  have HB := Lib.hid hr; clear hr
  obtain ⟨g, u, a⟩ := s
  dsimp only at *
  cases u
  all_goals
    go_enter Tryz.func165, Tryz.ntmps165
    go_wp2
    all_goals
      go_ret
      refine ⟨ret_int ?_, (Below.refl _ _).alloc (Nat.le_refl _) _⟩
      rw [HB.out]
      try simp only [Bool.not_eq_true', Bool.not_eq_false', decide_eq_true_eq, decide_eq_false_iff_not, beq_eq_false_iff_ne, beq_iff_eq, ne_eq] at *
      first
      | exact (if_pos (by simp [Right]; try omega)).symm
      | exact (if_neg (by simp [Right]; try omega)).symm
set_option maxHeartbeats 600000 in
theorem pack_any (s : Sl) (x : UInt64) (hx : x = pk s) (hs : Right s) (w : World) : Calls Tryz.prog 113 #[.agg #[.int .i64 s.gen, .bool s.used, .int .i64 s.at_]] w fun e w' => e = .returned (.int .u64 x.toNat) ∧ Below w.heap.size w w' := by
  have hn := pk_nat hs
  rw [← hx] at hn
  obtain ⟨h1, h2, h3, h4⟩ := hs
  clear hx
  obtain ⟨g, u, a⟩ := s
  dsimp only at *
  cases u
  · have h5 := h3 rfl
    subst h5
    have e1 := or_int (a := 0) (b := g * 4294967296) 32 g.toNat (by omega) (by decide) (by omega) (by omega) (by omega)
    rw [pkN_f ⟨h1, h2, h3, h4⟩ rfl] at hn
    have HN := Lib.hid hn; clear hn h3 h4
    go_enter Tryz.func113, Tryz.ntmps113
    go_wp2
    go_ret
    exact ⟨ret_int (by have := HN.out; omega), (Below.refl _ _).alloc (Nat.le_refl _) _⟩
  · obtain ⟨h5, h6, h7⟩ := h4 rfl
    have e1 := or_int (a := a) (b := g * 4294967296) 32 g.toNat (by omega) (by simp; omega) (by omega) (by omega) (by omega)
    have e2 := or_int (a := a + g * 4294967296) (b := 9223372036854775808) 63 1 (by omega) (by simp; omega) (by decide) (by omega) (by omega)
    rw [pkN_t rfl] at hn
    have HN := Lib.hid hn; clear hn h3 h4
    go_enter Tryz.func113, Tryz.ntmps113
    go_wp2
    go_ret
    exact ⟨ret_int (by have := HN.out; omega), (Below.refl _ _).alloc (Nat.le_refl _) _⟩
theorem OfR_any (s : Sl) (x : UInt64) (hx : x = pk s) (hs : Right s) (w : World) : Calls Tryz.prog 115 #[.agg #[.int .i64 s.gen, .bool s.used, .int .i64 s.at_]] w fun e w' => e = .returned (.int .u64 x.toNat) ∧ Below w.heap.size w w' := by
  have hn := pk_nat hs
  rw [← hx] at hn
  obtain ⟨h1, h2, h3, h4⟩ := hs
  clear hx
  obtain ⟨g, u, a⟩ := s
  have h1 : 0 ≤ g := h1
  have h2 : g ≤ 2147483647 := h2
  obtain ⟨G, rfl⟩ := Int.eq_ofNat_of_zero_le h1
  dsimp only at *
  have B : Below w.heap.size w w := Below.refl _ _
  cases u
  · have h5 := h3 rfl
    subst h5
    rw [pkN_f ⟨h1, h2, h3, h4⟩ rfl] at hn
    have w1 := With_any 0 0 32 0 0 (by decide)
    have w2 := With_any 0 32 31 G (G * 4294967296) (by unfold wth; omega)
    have HW1 := Lib.hid w1; have HW2 := Lib.hid w2; clear w1 w2
    have HN := Lib.hid hn; clear hn h3 h4
    go_enter Tryz.func115, Tryz.ntmps115
    go_wp2_with fail
    refine calls_gen (fun Wv => Bx Wv (w.heap.size) (37) (#[.int .i64 G, .bool false, .int .i64 0]) ∧ Below w.heap.size w Wv) ⟨((Bx.at_ (by simp))), ((Below.refl _ w).alloc (by simp <;> omega) _)⟩ ?_
    rintro w' ⟨g1, b⟩
    replace B := B.trans (b.mono B.size); clear b
    have c_g1 := g1.cell; have f_g1 := g1.free; have a_g1 := fun o => (g1.alloc o).cell; have d_g1 := fun o o2 => ((g1.alloc o).alloc o2).cell; have e_g1 := fun o => (g1.alloc o).free
    refine (HW1.out _ (by omega) (by omega) (by omega) (by omega)).mono ?_
    rintro e w' ⟨rfl, rfl⟩
    go_wp2_with fail
    refine (HW2.out _ (by omega) (by omega) (by omega) (by omega)).mono ?_
    rintro e w' ⟨rfl, rfl⟩
    go_wp2
    go_ret
    exact ⟨ret_int (by have := HN.out; simp at this; omega), B⟩
  · obtain ⟨h5, h6, h7⟩ := h4 rfl
    obtain ⟨A, rfl⟩ := Int.eq_ofNat_of_zero_le (show 0 ≤ a by omega)
    rw [pkN_t rfl] at hn
    have w1 := With_any 0 0 32 A A (by unfold wth; omega)
    have w2 := With_any A 32 31 G (A + G * 4294967296) (by unfold wth; omega)
    have w3 := With_any (A + G * 4294967296) 63 1 1 (A + G * 4294967296 + 9223372036854775808) (by unfold wth; omega)
    have HW1 := Lib.hid w1; have HW2 := Lib.hid w2; have HW3 := Lib.hid w3; clear w1 w2 w3
    have HN := Lib.hid hn; clear hn h3 h4
    go_enter Tryz.func115, Tryz.ntmps115
    go_wp2_with fail
    refine calls_gen (fun Wv => Bx Wv (w.heap.size) (37) (#[.int .i64 G, .bool true, .int .i64 A]) ∧ Below w.heap.size w Wv) ⟨((Bx.at_ (by simp))), ((Below.refl _ w).alloc (by simp <;> omega) _)⟩ ?_
    rintro w' ⟨g1, b⟩
    replace B := B.trans (b.mono B.size); clear b
    have c_g1 := g1.cell; have f_g1 := g1.free; have a_g1 := fun o => (g1.alloc o).cell; have d_g1 := fun o o2 => ((g1.alloc o).alloc o2).cell; have e_g1 := fun o => (g1.alloc o).free
    refine (HW1.out _ (by omega) (by omega) (by omega) (by omega)).mono ?_
    rintro e w' ⟨rfl, rfl⟩
    go_wp2_with fail
    refine (HW2.out _ (by omega) (by omega) (by omega) (by omega)).mono ?_
    rintro e w' ⟨rfl, rfl⟩
    go_wp2_with fail
    refine (HW3.out _ (by omega) (by omega) (by omega) (by omega)).mono ?_
    rintro e w' ⟨rfl, rfl⟩
    go_wp2
    go_ret
    exact ⟨ret_int (by have := HN.out; simp at this; omega), B⟩
end Go.Proofs.YtmbokdnndlnjkaaGreat
namespace Go.Proofs.YtmbokdnndlnjkaaGreat
open Go.RowKit L01 L02 L18
theorem spl_int (x : UInt64) (s : Sl) (h : s = spl x) : (x.toNat : Int) / 4294967296 % 2147483648 = s.gen ∧ ((x.toNat : Int) / 9223372036854775808 == 1) = s.used ∧ (x.toNat : Int) % 4294967296 = s.at_ := by
  subst h
  refine ⟨?_, ?_, ?_⟩
  · show _ = ((x.toNat / 4294967296 % 2147483648 : Nat) : Int); omega
  · show _ = decide (x.toNat / 9223372036854775808 = 1)
    rw [Bool.eq_iff_iff, beq_iff_eq, decide_eq_true_iff]; omega
  · show _ = ((x.toNat % 4294967296 : Nat) : Int); omega
set_option maxHeartbeats 1000000 in
theorem Split_any (x : UInt64) (w : World) : Calls Tryz.prog 138 #[.int .u64 x.toNat] w fun e w' => e = .returned (.tuple #[slV (spl0 x), .int .i64 (splErr x)]) ∧ Below w.heap.size w w' := by
  have B : Below w.heap.size w w := Below.refl _ _
  have hxl := toNat_lt x
  obtain ⟨s, hs⟩ : ∃ s, s = spl x := ⟨_, rfl⟩
  obtain ⟨i1, i2, i3⟩ := spl_int x s hs
  have e1 := and_int (a := (x.toNat : Int) / 4294967296) 31 (by omega) (by omega) 2147483647 (by decide) (by omega)
  have e2 := and_int (a := (x.toNat : Int)) 32 (by omega) (by omega) 4294967295 (by decide) (by omega)
  rw [show ((2 ^ 31 : Nat) : Int) = 2147483648 from rfl, i1] at e1
  rw [show ((2 ^ 32 : Nat) : Int) = 4294967296 from rfl, i3] at e2
  have b1 : 0 ≤ s.gen ∧ s.gen ≤ 2147483647 := by omega
  have b3 : 0 ≤ s.at_ ∧ s.at_ ≤ 4294967295 := by omega
  clear i1 i3
  by_cases hr : Right s
  · have k0 : spl0 x = s := by rw [spl0, ← hs, if_pos hr]
    have k1 : splErr x = 0 := by rw [splErr, ← hs, if_pos hr]
    have RT := fun w => right_any s true (decide_eq_true hr).symm w
    rw [k0, k1]
    have RT := Lib.hid RT; clear hs hr k0 k1
    obtain ⟨g, u, a⟩ := s
    dsimp only at *
    obtain ⟨b1, b2⟩ := b1
    obtain ⟨b3, b4⟩ := b3
    unfold slV
    go_enter Tryz.func138, Tryz.ntmps138
    go_wp2_with fail
    refine calls_gen (fun Wv => Bx Wv (w.heap.size) (37) (#[.int .i64 0, .bool false, .int .i64 0]) ∧ Bx Wv (w.heap.size + 1) (37) (#[.int .i64 g, .bool u, .int .i64 a]) ∧ Below w.heap.size w Wv) ⟨(((Bx.at_ (by simp)).alloc _)), ((Bx.at_ (by simp))), (((Below.refl _ w).alloc (by simp <;> omega) _).alloc (by simp <;> omega) _)⟩ ?_
    rintro w' ⟨g0, g1, b⟩
    replace B := B.trans (b.mono B.size); clear b
    have c_g0 := g0.cell; have f_g0 := g0.free; have a_g0 := fun o => (g0.alloc o).cell; have d_g0 := fun o o2 => ((g0.alloc o).alloc o2).cell; have e_g0 := fun o => (g0.alloc o).free
    have c_g1 := g1.cell; have f_g1 := g1.free; have a_g1 := fun o => (g1.alloc o).cell; have d_g1 := fun o o2 => ((g1.alloc o).alloc o2).cell; have e_g1 := fun o => (g1.alloc o).free
    go_wp2_with fail
    refine (RT.out _).mono ?_
    rintro e w' ⟨rfl, b⟩
    try clear c_g0 f_g0 a_g0 d_g0 e_g0
    replace g0 := g0.below b; have c_g0 := g0.cell; have f_g0 := g0.free; have a_g0 := fun o => (g0.alloc o).cell; have d_g0 := fun o o2 => ((g0.alloc o).alloc o2).cell; have e_g0 := fun o => (g0.alloc o).free; try clear c_g1 f_g1 a_g1 d_g1 e_g1
    replace g1 := g1.below b; have c_g1 := g1.cell; have f_g1 := g1.free; have a_g1 := fun o => (g1.alloc o).cell; have d_g1 := fun o o2 => ((g1.alloc o).alloc o2).cell; have e_g1 := fun o => (g1.alloc o).free; replace B := B.trans (b.mono B.size); clear b
    go_wp2
    refine bodyPost_ret (v := .tuple #[.agg #[.int .i64 g, .bool u, .int .i64 a], .int .i64 0]) (by simp [results, Tryz.results138, go_sem, c_g0, f_g0, a_g0, e_g0, c_g1, f_g1, a_g1, e_g1]) rfl ?_
    refine ⟨rfl, ?_⟩
    (repeat (first | refine Below.setCell ?_ (by first | exact Nat.le_refl _ | (simp <;> omega)) _ | refine Below.alloc ?_ (by first | exact B.size | (have := B.size; simp <;> omega)) _)); exact B
  · have k0 : spl0 x = .none := by rw [spl0, ← hs, if_neg hr]
    have k1 : splErr x = 50 := by rw [splErr, ← hs, if_neg hr]
    have RT := fun w => right_any s false (decide_eq_false hr).symm w
    rw [k0, k1]
    have RT := Lib.hid RT; clear hs hr k0 k1
    obtain ⟨g, u, a⟩ := s
    dsimp only at *
    obtain ⟨b1, b2⟩ := b1
    obtain ⟨b3, b4⟩ := b3
    unfold slV Sl.none
    dsimp only
    go_enter Tryz.func138, Tryz.ntmps138
    go_wp2_with fail
    refine calls_gen (fun Wv => Bx Wv (w.heap.size) (37) (#[.int .i64 0, .bool false, .int .i64 0]) ∧ Bx Wv (w.heap.size + 1) (37) (#[.int .i64 g, .bool u, .int .i64 a]) ∧ Below w.heap.size w Wv) ⟨(((Bx.at_ (by simp)).alloc _)), ((Bx.at_ (by simp))), (((Below.refl _ w).alloc (by simp <;> omega) _).alloc (by simp <;> omega) _)⟩ ?_
    rintro w' ⟨g0, g1, b⟩
    replace B := B.trans (b.mono B.size); clear b
    have c_g0 := g0.cell; have f_g0 := g0.free; have a_g0 := fun o => (g0.alloc o).cell; have d_g0 := fun o o2 => ((g0.alloc o).alloc o2).cell; have e_g0 := fun o => (g0.alloc o).free
    have c_g1 := g1.cell; have f_g1 := g1.free; have a_g1 := fun o => (g1.alloc o).cell; have d_g1 := fun o o2 => ((g1.alloc o).alloc o2).cell; have e_g1 := fun o => (g1.alloc o).free
    go_wp2_with fail
    refine (RT.out _).mono ?_
    rintro e w' ⟨rfl, b⟩
    try clear c_g0 f_g0 a_g0 d_g0 e_g0
    replace g0 := g0.below b; have c_g0 := g0.cell; have f_g0 := g0.free; have a_g0 := fun o => (g0.alloc o).cell; have d_g0 := fun o o2 => ((g0.alloc o).alloc o2).cell; have e_g0 := fun o => (g0.alloc o).free; try clear c_g1 f_g1 a_g1 d_g1 e_g1
    replace g1 := g1.below b; have c_g1 := g1.cell; have f_g1 := g1.free; have a_g1 := fun o => (g1.alloc o).cell; have d_g1 := fun o o2 => ((g1.alloc o).alloc o2).cell; have e_g1 := fun o => (g1.alloc o).free; replace B := B.trans (b.mono B.size); clear b
    go_wp2
    refine bodyPost_ret (v := .tuple #[.agg #[.int .i64 0, .bool false, .int .i64 0], .int .i64 50]) (by simp [results, Tryz.results138, go_sem, c_g0, f_g0, a_g0, e_g0, c_g1, f_g1, a_g1, e_g1]) rfl ?_
    refine ⟨rfl, ?_⟩
    (repeat (first | refine Below.setCell ?_ (by first | exact Nat.le_refl _ | (simp <;> omega)) _ | refine Below.alloc ?_ (by first | exact B.size | (have := B.size; simp <;> omega)) _)); exact B
theorem val_gen (x : UInt64) (s : Sl) (h : s = spl x) : ∃ G A : Nat, s.gen = G ∧ s.at_ = A ∧ G = val x.toNat 32 31 ∧ A = val x.toNat 0 32 ∧ (s.used = true ↔ 1 = val x.toNat 63 1) ∧ G ≤ 2147483647 ∧ A ≤ 4294967295 ∧ (val x.toNat 63 1 < 2) := by
  have hl := toNat_lt x
  subst h
  refine ⟨x.toNat / 4294967296 % 2147483648, x.toNat % 4294967296, rfl, rfl, rfl, ?_, ?_, by omega, by omega, ?_⟩
  · unfold val; simp
  · show decide (x.toNat / 9223372036854775808 = 1) = true ↔ _
    unfold val
    rw [decide_eq_true_iff]; simp only [show (2 : Nat) ^ 63 = 9223372036854775808 from rfl, show (2 : Nat) ^ 1 = 2 from rfl]; omega
  · unfold val; simp only [show (2 : Nat) ^ 1 = 2 from rfl]; omega
set_option maxHeartbeats 1000000 in
theorem SplitR_any (x : UInt64) (w : World) : Calls Tryz.prog 148 #[.int .u64 x.toNat] w fun e w' => e = .returned (.tuple #[slV (spl0 x), .int .i64 (splErr x)]) ∧ Below w.heap.size w w' := by
  have B : Below w.heap.size w w := Below.refl _ _
  have hxl := toNat_lt x
  obtain ⟨s, hs⟩ : ∃ s, s = spl x := ⟨_, rfl⟩
  obtain ⟨G, A, q1, q2, q3, q4, q5, q6, q7, q8⟩ := val_gen x s hs
  obtain ⟨U, hU⟩ : ∃ U, U = val x.toNat 63 1 := ⟨_, rfl⟩
  rw [← hU] at q5 q8
  have V1 := Value_any x.toNat 32 31 G q3
  have V2 := Value_any x.toNat 63 1 U hU
  have V3 := Value_any x.toNat 0 32 A q4
  have V1 := Lib.hid V1; have V2 := Lib.hid V2; have V3 := Lib.hid V3; clear q3 q4 hU
  obtain ⟨r, hrr⟩ : ∃ r, r = wordErr s := ⟨_, rfl⟩
  have CT := fun w => Check18R_any s r hrr w
  have CT := Lib.hid CT
  obtain ⟨g, u, a⟩ := s
  dsimp only at q1 q2 q5 CT
  subst q1 q2
  have hu : ((U : Int) == 1) = u := by
    rw [Bool.eq_iff_iff, q5, beq_iff_eq]; omega
  by_cases hr : Right ⟨G, u, A⟩
  · have k0 : spl0 x = ⟨G, u, A⟩ := by rw [spl0, ← hs, if_pos hr]
    have k1 : splErr x = 0 := by rw [splErr, ← hs, if_pos hr]
    have k2 : r = 0 := by rw [hrr]; exact if_pos hr
    rw [k0, k1]
    clear hs hr k0 k1 hrr q5
    subst k2
    unfold slV
    dsimp only
    go_enter Tryz.func148, Tryz.ntmps148
    go_wp2_with fail
    refine (V1.out _ (by omega) (by omega) (by omega)).mono ?_
    rintro e w' ⟨rfl, rfl⟩
    go_wp2_with fail
    refine (V2.out _ (by omega) (by omega) (by omega)).mono ?_
    rintro e w' ⟨rfl, rfl⟩
    go_wp2_with fail
    refine (V3.out _ (by omega) (by omega) (by omega)).mono ?_
    rintro e w' ⟨rfl, rfl⟩
    go_wp2_with fail
    refine calls_gen (fun Wv => Bx Wv (w.heap.size) (37) (#[.int .i64 0, .bool false, .int .i64 0]) ∧ Bx Wv (w.heap.size + 1) (37) (#[.int .i64 G, .bool u, .int .i64 A]) ∧ Below w.heap.size w Wv) ⟨(((Bx.at_ (by simp)).alloc _)), ((Bx.at_ (by simp))), (((Below.refl _ w).alloc (by simp <;> omega) _).alloc (by simp <;> omega) _)⟩ ?_
    rintro w' ⟨g0, g1, b⟩
    replace B := B.trans (b.mono B.size); clear b
    have c_g0 := g0.cell; have f_g0 := g0.free; have a_g0 := fun o => (g0.alloc o).cell; have d_g0 := fun o o2 => ((g0.alloc o).alloc o2).cell; have e_g0 := fun o => (g0.alloc o).free
    have c_g1 := g1.cell; have f_g1 := g1.free; have a_g1 := fun o => (g1.alloc o).cell; have d_g1 := fun o o2 => ((g1.alloc o).alloc o2).cell; have e_g1 := fun o => (g1.alloc o).free
    go_wp2_with fail
    refine (CT.out _).mono ?_
    rintro e w' ⟨rfl, b⟩
    try clear c_g0 f_g0 a_g0 d_g0 e_g0
    replace g0 := g0.below b; have c_g0 := g0.cell; have f_g0 := g0.free; have a_g0 := fun o => (g0.alloc o).cell; have d_g0 := fun o o2 => ((g0.alloc o).alloc o2).cell; have e_g0 := fun o => (g0.alloc o).free; try clear c_g1 f_g1 a_g1 d_g1 e_g1
    replace g1 := g1.below b; have c_g1 := g1.cell; have f_g1 := g1.free; have a_g1 := fun o => (g1.alloc o).cell; have d_g1 := fun o o2 => ((g1.alloc o).alloc o2).cell; have e_g1 := fun o => (g1.alloc o).free; replace B := B.trans (b.mono B.size); clear b
    go_wp2
    refine bodyPost_ret (v := .tuple #[.agg #[.int .i64 G, .bool u, .int .i64 A], .int .i64 0]) (by simp [results, Tryz.results148, go_sem, c_g0, f_g0, a_g0, e_g0, c_g1, f_g1, a_g1, e_g1]) rfl ?_
    refine ⟨rfl, ?_⟩
    (repeat (first | refine Below.setCell ?_ (by first | exact Nat.le_refl _ | (simp <;> omega)) _ | refine Below.alloc ?_ (by first | exact B.size | (have := B.size; simp <;> omega)) _)); exact B
  · have k0 : spl0 x = .none := by rw [spl0, ← hs, if_neg hr]
    have k1 : splErr x = 50 := by rw [splErr, ← hs, if_neg hr]
    have k2 : r = 8 := by rw [hrr]; exact if_neg hr
    rw [k0, k1]
    clear hs hr k0 k1 hrr q5
    subst k2
    unfold slV Sl.none
    dsimp only
    go_enter Tryz.func148, Tryz.ntmps148
    go_wp2_with fail
    refine (V1.out _ (by omega) (by omega) (by omega)).mono ?_
    rintro e w' ⟨rfl, rfl⟩
    go_wp2_with fail
    refine (V2.out _ (by omega) (by omega) (by omega)).mono ?_
    rintro e w' ⟨rfl, rfl⟩
    go_wp2_with fail
    refine (V3.out _ (by omega) (by omega) (by omega)).mono ?_
    rintro e w' ⟨rfl, rfl⟩
    go_wp2_with fail
    refine calls_gen (fun Wv => Bx Wv (w.heap.size) (37) (#[.int .i64 0, .bool false, .int .i64 0]) ∧ Bx Wv (w.heap.size + 1) (37) (#[.int .i64 G, .bool u, .int .i64 A]) ∧ Below w.heap.size w Wv) ⟨(((Bx.at_ (by simp)).alloc _)), ((Bx.at_ (by simp))), (((Below.refl _ w).alloc (by simp <;> omega) _).alloc (by simp <;> omega) _)⟩ ?_
    rintro w' ⟨g0, g1, b⟩
    replace B := B.trans (b.mono B.size); clear b
    have c_g0 := g0.cell; have f_g0 := g0.free; have a_g0 := fun o => (g0.alloc o).cell; have d_g0 := fun o o2 => ((g0.alloc o).alloc o2).cell; have e_g0 := fun o => (g0.alloc o).free
    have c_g1 := g1.cell; have f_g1 := g1.free; have a_g1 := fun o => (g1.alloc o).cell; have d_g1 := fun o o2 => ((g1.alloc o).alloc o2).cell; have e_g1 := fun o => (g1.alloc o).free
    go_wp2_with fail
    refine (CT.out _).mono ?_
    rintro e w' ⟨rfl, b⟩
    try clear c_g0 f_g0 a_g0 d_g0 e_g0
    replace g0 := g0.below b; have c_g0 := g0.cell; have f_g0 := g0.free; have a_g0 := fun o => (g0.alloc o).cell; have d_g0 := fun o o2 => ((g0.alloc o).alloc o2).cell; have e_g0 := fun o => (g0.alloc o).free; try clear c_g1 f_g1 a_g1 d_g1 e_g1
    replace g1 := g1.below b; have c_g1 := g1.cell; have f_g1 := g1.free; have a_g1 := fun o => (g1.alloc o).cell; have d_g1 := fun o o2 => ((g1.alloc o).alloc o2).cell; have e_g1 := fun o => (g1.alloc o).free; replace B := B.trans (b.mono B.size); clear b
    go_wp2
    refine bodyPost_ret (v := .tuple #[.agg #[.int .i64 0, .bool false, .int .i64 0], .int .i64 50]) (by simp [results, Tryz.results148, go_sem, c_g0, f_g0, a_g0, e_g0, c_g1, f_g1, a_g1, e_g1]) rfl ?_
    refine ⟨rfl, ?_⟩
    (repeat (first | refine Below.setCell ?_ (by first | exact Nat.le_refl _ | (simp <;> omega)) _ | refine Below.alloc ?_ (by first | exact B.size | (have := B.size; simp <;> omega)) _)); exact B
theorem Split_r (x : UInt64) (s : Sl) (r : Int) (hx : s = spl0 x) (hr : r = splErr x) (w : World) : Calls Tryz.prog 138 #[.int .u64 x.toNat] w fun e w' => e = .returned (.tuple #[.agg #[.int .i64 s.gen, .bool s.used, .int .i64 s.at_], .int .i64 r]) ∧ Below w.heap.size w w' := by
  subst hx hr; exact Split_any x w
theorem SplitR_r (x : UInt64) (s : Sl) (r : Int) (hx : s = spl0 x) (hr : r = splErr x) (w : World) : Calls Tryz.prog 148 #[.int .u64 x.toNat] w fun e w' => e = .returned (.tuple #[.agg #[.int .i64 s.gen, .bool s.used, .int .i64 s.at_], .int .i64 r]) ∧ Below w.heap.size w w' := by
  subst hx hr; exact SplitR_any x w
end Go.Proofs.YtmbokdnndlnjkaaGreat
namespace Go.Proofs.YtmbokdnndlnjkaaGreat
open Go.RowKit L01 L02 L18
def slC (s : Sl) : List Value := [.int .i64 s.gen, .bool s.used, .int .i64 s.at_]
def tabL (L : List Sl) : List Value := L.flatMap slC
def tab (L : List Sl) : Array Value := (tabL L).toArray
def tabOf (l : List UInt64) : List Sl := if openErr l = 0 then slots l else List.replicate 16 .none
theorem tabL_len (L : List Sl) : (tabL L).length = L.length * 3 := by
  induction L with
  | nil => rfl
  | cons s L ih => rw [tabL, List.flatMap_cons, List.length_append, ← tabL, ih]; simp [slC]; omega
theorem tabL_get : ∀ (L : List Sl) (k : Nat) (s : Sl), L[k]? = some s → ∀ i, i < 3 → (tabL L)[k * 3 + i]? = (slC s)[i]?
  | [], _, _, h, _, _ => by cases h
  | t :: L, 0, s, h, i, hi => by
    simp at h; subst h
    rw [tabL, List.flatMap_cons, Nat.zero_mul, Nat.zero_add, List.getElem?_append_left (by simpa [slC] using hi)]
  | t :: L, k + 1, s, h, i, hi => by
    rw [tabL, List.flatMap_cons, List.getElem?_append_right (by simp [slC]; omega)]
    rw [show (k + 1) * 3 + i - (slC t).length = k * 3 + i by simp [slC]; omega]
    exact tabL_get L k s (by simpa using h) i hi
theorem tabL_one (L : List Sl) : ∀ u ∈ tabL L, u.oneCell' = true := by
  intro u hu
  obtain ⟨s, _, hs⟩ := List.mem_flatMap.1 hu
  simp [slC] at hs
  rcases hs with rfl | rfl | rfl <;> rfl
theorem tab_size (L : List Sl) : (tab L).size = L.length * 3 := by simp [tab, tabL_len]
theorem ws_len {l : List UInt64} (h : SizeOk l.length) : (ws l).length = 16 := by
  have := h.1; simp [ws]; omega
theorem ws_get {l : List UInt64} {k : Nat} {x : UInt64} (hk : k < 16) (h : l[112 + k]? = some x) : (ws l)[k]? = some x := by
  rw [ws, List.getElem?_take, if_pos hk, List.getElem?_drop]; exact h
theorem slots_len {l : List UInt64} (h : SizeOk l.length) : (slots l).length = 16 := by rw [slots, List.length_map, ws_len h]
theorem tabOf_len (l : List UInt64) : (tabOf l).length = 16 := by
  unfold tabOf
  split
  · rename_i h
    unfold openErr at h
    split at h
    · exact slots_len ‹_›
    · omega
  · simp
theorem tabOf_size (l : List UInt64) : (tab (tabOf l)).size = 48 := by rw [tab_size, tabOf_len]
theorem size_table : (Tryz.prog.info? 172).map (·.size) = some 48 := by kernel_rfl
theorem size_slot : (Tryz.prog.info? 37).map (·.size) = some 3 := by kernel_rfl
theorem z48_one : (#[.int .i64 0, .bool false, .int .i64 0, .int .i64 0, .bool false, .int .i64 0, .int .i64 0, .bool false, .int .i64 0, .int .i64 0, .bool false, .int .i64 0, .int .i64 0, .bool false, .int .i64 0, .int .i64 0, .bool false, .int .i64 0, .int .i64 0, .bool false, .int .i64 0, .int .i64 0, .bool false, .int .i64 0, .int .i64 0, .bool false, .int .i64 0, .int .i64 0, .bool false, .int .i64 0, .int .i64 0, .bool false, .int .i64 0, .int .i64 0, .bool false, .int .i64 0, .int .i64 0, .bool false, .int .i64 0, .int .i64 0, .bool false, .int .i64 0, .int .i64 0, .bool false, .int .i64 0, .int .i64 0, .bool false, .int .i64 0] : Array Value).all (·.oneCell') = true := by simp [Value.oneCell']
theorem slot_one (s : Sl) : (#[.int .i64 s.gen, .bool s.used, .int .i64 s.at_] : Array Value).all (·.oneCell') = true := by simp [Value.oneCell']
/-- the cells cs have the first k slots of S -/
def TabTo (S : List Sl) (k : Nat) (cs : Array Value) : Prop := cs.size = 48 ∧ ∀ j, j < k * 3 → cs[j]? = (tabL S)[j]?
theorem TabTo.zero (S : List Sl) {cs : Array Value} (h : cs.size = 48) : TabTo S 0 cs := ⟨h, fun j hj => by omega⟩
theorem TabTo.succ {S : List Sl} {k : Nat} {cs : Array Value} {s : Sl} (h : TabTo S k cs) (hs : S[k]? = some s) (hk : k < 16) : TabTo S (k + 1) (putL cs (k * 3) (slC s)) := by
  refine ⟨by rw [putL_size]; exact h.1, fun j hj => ?_⟩
  rw [putL_get _ _ _ _ (by rw [h.1]; simp [slC]; omega)]
  by_cases h1 : k * 3 ≤ j
  · rw [if_pos ⟨h1, by simp [slC]; omega⟩]
    have := tabL_get S k s hs (j - k * 3) (by omega)
    rw [show k * 3 + (j - k * 3) = j by omega] at this
    exact this.symm
  · rw [if_neg (by omega)]
    exact h.2 j (by omega)
theorem TabTo.done {S : List Sl} {cs : Array Value} (h : TabTo S 16 cs) (hS : S.length = 16) : cs = tab S := by
  apply Array.ext_getElem?
  intro j
  by_cases hj : j < 48
  · rw [h.2 j hj]; simp [tab]
  · rw [Array.getElem?_eq_none (by rw [h.1]; omega), Array.getElem?_eq_none (by rw [tab_size, hS]; omega)]
theorem openErr_of {l : List UInt64} (h : SizeOk l.length) (h2 : ∀ x ∈ (ws l).take 16, Right (spl x)) : openErr l = 0 := by
  rw [openErr, if_pos h, if_pos]
  intro x hx
  exact h2 x (by rw [List.take_of_length_le (by rw [ws_len h]; omega)]; exact hx)
theorem openErr_no {l : List UInt64} (h : SizeOk l.length) {k : Nat} {x : UInt64} (hx : (ws l)[k]? = some x) (hn : ¬ Right (spl x)) : openErr l = 50 := by
  rw [openErr, if_pos h, if_neg]
  intro hall
  exact hn (hall x (List.mem_of_getElem? hx))
theorem right_take {l : List UInt64} {k : Nat} {x : UInt64} (h : ∀ y ∈ (ws l).take k, Right (spl y)) (hx : (ws l)[k]? = some x) (hr : Right (spl x)) : ∀ y ∈ (ws l).take (k + 1), Right (spl y) := by
  intro y hy
  rw [List.take_add_one, hx] at hy
  rcases List.mem_append.1 hy with hy | hy
  · exact h y hy
  · simp at hy; subst hy; exact hr
theorem tabNo (l : List UInt64) (h : openErr l ≠ 0) : tab (tabOf l) = #[.int .i64 0, .bool false, .int .i64 0, .int .i64 0, .bool false, .int .i64 0, .int .i64 0, .bool false, .int .i64 0, .int .i64 0, .bool false, .int .i64 0, .int .i64 0, .bool false, .int .i64 0, .int .i64 0, .bool false, .int .i64 0, .int .i64 0, .bool false, .int .i64 0, .int .i64 0, .bool false, .int .i64 0, .int .i64 0, .bool false, .int .i64 0, .int .i64 0, .bool false, .int .i64 0, .int .i64 0, .bool false, .int .i64 0, .int .i64 0, .bool false, .int .i64 0, .int .i64 0, .bool false, .int .i64 0, .int .i64 0, .bool false, .int .i64 0, .int .i64 0, .bool false, .int .i64 0, .int .i64 0, .bool false, .int .i64 0] := by rw [tabOf, if_neg h]; rfl
set_option maxRecDepth 100000 in
set_option maxHeartbeats 2000000 in
theorem open_any (v : Value) (l : List UInt64) (V : Array Value) (hV : V = tab (tabOf l)) (r : Int) (hr : r = openErr l) (w : World) (h : Words w v l) :
    Calls Tryz.prog 94 #[v] w fun e w' => e = .returned (.tuple #[.agg V, .int .i64 r]) ∧ Below w.heap.size w w' := by
  have B : Below w.heap.size w w := Below.refl _ _
  have HV := Lib.hid hV; have HR := Lib.hid hr; clear hV hr
  have CT := fun w h => Check_any v l w h
  by_cases hs : SizeOk l.length
  · rw [chk_ok hs] at CT
    have HC := Lib.hid CT; have H := Lib.hid h; have HS := Lib.hid hs
    have hlen := hs.1
    clear h hs CT
    go_enter Tryz.func94, Tryz.ntmps94
    go_wp2_with fail
    refine calls_gen (fun Wv => Bx Wv (w.heap.size) (172) (#[.int .i64 0, .bool false, .int .i64 0, .int .i64 0, .bool false, .int .i64 0, .int .i64 0, .bool false, .int .i64 0, .int .i64 0, .bool false, .int .i64 0, .int .i64 0, .bool false, .int .i64 0, .int .i64 0, .bool false, .int .i64 0, .int .i64 0, .bool false, .int .i64 0, .int .i64 0, .bool false, .int .i64 0, .int .i64 0, .bool false, .int .i64 0, .int .i64 0, .bool false, .int .i64 0, .int .i64 0, .bool false, .int .i64 0, .int .i64 0, .bool false, .int .i64 0, .int .i64 0, .bool false, .int .i64 0, .int .i64 0, .bool false, .int .i64 0, .int .i64 0, .bool false, .int .i64 0, .int .i64 0, .bool false, .int .i64 0]) ∧ Below w.heap.size w Wv) ⟨((Bx.at_ (by simp))), ((Below.refl _ w).alloc (by simp <;> omega) _)⟩ ?_
    rintro w' ⟨q0, b⟩
    replace B := B.trans (b.mono B.size); clear b
    have hz1 : w.heap.size < w'.heap.size := q0.lt
    obtain ⟨w1, hw1⟩ : ∃ w1, w1 = w' := ⟨_, rfl⟩
    subst hw1
    refine (HC.out _ (H.out.below B)).mono ?_
    rintro e w2 ⟨rfl, rfl⟩
    go_wp2
    refine wp_gen (fun Wv => Bx Wv (w1.heap.size) (172) (#[.int .i64 0, .bool false, .int .i64 0, .int .i64 0, .bool false, .int .i64 0, .int .i64 0, .bool false, .int .i64 0, .int .i64 0, .bool false, .int .i64 0, .int .i64 0, .bool false, .int .i64 0, .int .i64 0, .bool false, .int .i64 0, .int .i64 0, .bool false, .int .i64 0, .int .i64 0, .bool false, .int .i64 0, .int .i64 0, .bool false, .int .i64 0, .int .i64 0, .bool false, .int .i64 0, .int .i64 0, .bool false, .int .i64 0, .int .i64 0, .bool false, .int .i64 0, .int .i64 0, .bool false, .int .i64 0, .int .i64 0, .bool false, .int .i64 0, .int .i64 0, .bool false, .int .i64 0, .int .i64 0, .bool false, .int .i64 0]) ∧ Below w1.heap.size w1 Wv) ⟨((Bx.at_ (by simp))), ((Below.refl _ w1).alloc (by simp <;> omega) _)⟩ ?_
    rintro w' ⟨q1, b⟩
    replace q0 := q0.below b; replace B := B.trans (b.mono B.size); clear b
    have hq : w1.heap.size ≠ w.heap.size := by have := hz1; omega
    obtain ⟨S, hS⟩ : ∃ S, S = slots l := ⟨_, rfl⟩
    have HSS := Lib.hid hS; clear hS
    have HB := Lib.hid B; have HG := Lib.hid (And.intro q0 q1); clear B q0 q1
    go_loopw [15] (fun i wr => ∃ k : Nat, k ≤ 16 ∧ i = .int .i64 k ∧ Hid (Bx wr w.heap.size 172 #[.int .i64 0, .bool false, .int .i64 0, .int .i64 0, .bool false, .int .i64 0, .int .i64 0, .bool false, .int .i64 0, .int .i64 0, .bool false, .int .i64 0, .int .i64 0, .bool false, .int .i64 0, .int .i64 0, .bool false, .int .i64 0, .int .i64 0, .bool false, .int .i64 0, .int .i64 0, .bool false, .int .i64 0, .int .i64 0, .bool false, .int .i64 0, .int .i64 0, .bool false, .int .i64 0, .int .i64 0, .bool false, .int .i64 0, .int .i64 0, .bool false, .int .i64 0, .int .i64 0, .bool false, .int .i64 0, .int .i64 0, .bool false, .int .i64 0, .int .i64 0, .bool false, .int .i64 0, .int .i64 0, .bool false, .int .i64 0] ∧ (∃ cs, Bx wr w1.heap.size 172 cs ∧ TabTo S k cs) ∧ ∀ x ∈ (ws l).take k, Right (spl x)) ∧ Below w.heap.size w wr) (fun i _ => 16 - (intOf i).toNat)
    case atStart => exact ⟨0, by omega, rfl, Lib.hid ⟨HG.out.1, ⟨_, HG.out.2, TabTo.zero _ rfl⟩, by simp⟩, HB.out⟩
    case round =>
      obtain ⟨k, hk, rfl, hh, B⟩ := hrel
      by_cases hlt : k < 16
      · obtain ⟨ad, x, ia, ca, hx⟩ := (H.out.below B).atI Tryz.underlying22 one_u64 (k := 112 + (k : Int)) (by omega) (by omega)
        have hx' : (ws l)[k]? = some x := ws_get hlt (by have := hx.out; rwa [show (112 + (k : Int)).toNat = 112 + k by omega] at this)
        have HX := Lib.hid hx'; clear hx hx'
        by_cases hr : Right (spl x)
        · have SP := Split_r x (spl x) 0 (by rw [spl0, if_pos hr]) (by rw [splErr, if_pos hr])
          obtain ⟨s, hs⟩ : ∃ s, s = spl x := ⟨_, rfl⟩
          rw [← hs] at SP
          have HSP := Lib.hid SP; have HRR := Lib.hid hr; have HSX := Lib.hid hs; clear SP hr hs
          go_wp2_with fail
          refine (HSP.out _).mono ?_
          rintro e w2 ⟨rfl, b⟩
          obtain ⟨gg0, ⟨cs, gg1, ht⟩, hright⟩ := hh.out
          have b0 := gg0.below b; have b1 := gg1.below b; replace B := B.trans (b.mono B.size)
          clear b gg0 gg1
          have HT := Lib.hid ht; have HRT := Lib.hid hright; have hcs : k * 3 + 3 ≤ cs.size := by rw [ht.1]; omega
          clear ht hright
          go_wp2_with ((with_reducible refine at_store 37 33 32 ?_); refine wpList_storePart rfl _ _ _ rfl _ _ _ rfl rfl (b1.alloc _) size_slot (by simpa using hcs) (slot_one _) ?_; intro W c1 S1)
          have hgS : S[k]? = some s := by rw [HSS.out, slots, List.getElem?_map, HX.out, HSX.out]; rfl
          have HGS := Lib.hid hgS; have HC1 := Lib.hid c1; have HS1 := Lib.hid S1; have HB0 := Lib.hid b0; have HB := Lib.hid B
          clear hgS c1 S1 b0 B b1 hcs hh
          go_roundw
          case rel =>
            refine ⟨k + 1, by omega, by go_num, Lib.hid ⟨HS1.out.2 (by omega) (HB0.out.alloc _), ⟨_, HC1.out, ?_⟩, right_take HRT.out HX.out HRR.out⟩, HS1.out.1 (HB.out.alloc HB.out.size _) (by omega)⟩
            have := HT.out.succ HGS.out hlt
            exact this
          case measure => simp [intOf]; omega
        · have SP := Split_r x .none 50 (by rw [spl0, if_neg hr]) (by rw [splErr, if_neg hr])
          have he := openErr_no HS.out HX.out hr
          have hz := tabNo l (by rw [he]; omega)
          have HSP := Lib.hid SP; have HE := Lib.hid he; have HZ := Lib.hid hz; clear SP hr he hz
          go_wp2_with fail
          refine (HSP.out _).mono ?_
          rintro e w2 ⟨rfl, b⟩
          obtain ⟨gg0, ⟨cs, gg1, ht⟩, hright⟩ := hh.out
          have b0 := gg0.below b; replace B := B.trans (b.mono B.size)
          clear b gg0 gg1 ht hright hh
          go_wp2_with ((with_reducible refine at_store 172 2 29 ?_); refine wpList_storeRow rfl _ _ _ rfl _ _ rfl rfl (b0.alloc _) size_table rfl z48_one ?_; intro W g0 S0)
          refine bodyPost_ret (results_row rfl _ rfl g0 _ Tryz.underlying172 rfl size_table) rfl ⟨?_, S0.1 (B.alloc B.size _) (Nat.le_refl _)⟩
          rw [HV.out, HZ.out, HR.out, HE.out]; rfl
      · obtain rfl : k = 16 := by omega
        obtain ⟨gg0, ⟨cs, gg1, ht⟩, hright⟩ := hh.out
        have he := openErr_of HS.out hright
        have hcs := ht.done (by rw [HSS.out]; exact slots_len HS.out)
        have hV : V = cs := by rw [HV.out, tabOf, if_pos he, ← HSS.out, hcs]
        subst hV
        have hsz : V.size = 48 := ht.1
        have h1 : V.all (·.oneCell') = true := by rw [hcs]; exact all_oneCell_toArray (tabL_one S)
        have HCS := Lib.hid hcs; have HE := Lib.hid he; clear hcs he hright ht hh
        have HSZ := Lib.hid hsz; have H1 := Lib.hid h1; clear hsz h1
        go_wp2_with (first
          | ((with_reducible refine at_load 35 172 5 ?_); refine wpList_loadRow rfl _ _ rfl _ rfl gg1 _ Tryz.underlying172 rfl (by rw [HSZ.out]; exact size_table) ?_)
          | ((with_reducible refine at_store 172 2 35 ?_); refine wpList_storeRow rfl _ _ _ rfl _ _ rfl rfl gg0 (by rw [HSZ.out]; exact size_table) (by rw [HSZ.out]; rfl) H1.out ?_; intro W g0 S0))
        refine bodyPost_ret (results_row rfl _ rfl g0 _ Tryz.underlying172 rfl (by rw [HSZ.out]; exact size_table)) rfl ⟨?_, S0.1 B (Nat.le_refl _)⟩
        rw [HR.out, HE.out]; rfl
  · have hr8 : openErr l = 8 := by rw [openErr, if_neg hs]
    have hz := tabNo l (by rw [hr8]; omega)
    rw [chk_no hs] at CT
    have HZ := Lib.hid hz; have HR8 := Lib.hid hr8
    have HC := Lib.hid CT; have H := Lib.hid h; clear h hs hz hr8 CT
    go_enter Tryz.func94, Tryz.ntmps94
    go_wp2_with fail
    refine calls_gen (fun Wv => Bx Wv (w.heap.size) (172) (#[.int .i64 0, .bool false, .int .i64 0, .int .i64 0, .bool false, .int .i64 0, .int .i64 0, .bool false, .int .i64 0, .int .i64 0, .bool false, .int .i64 0, .int .i64 0, .bool false, .int .i64 0, .int .i64 0, .bool false, .int .i64 0, .int .i64 0, .bool false, .int .i64 0, .int .i64 0, .bool false, .int .i64 0, .int .i64 0, .bool false, .int .i64 0, .int .i64 0, .bool false, .int .i64 0, .int .i64 0, .bool false, .int .i64 0, .int .i64 0, .bool false, .int .i64 0, .int .i64 0, .bool false, .int .i64 0, .int .i64 0, .bool false, .int .i64 0, .int .i64 0, .bool false, .int .i64 0, .int .i64 0, .bool false, .int .i64 0]) ∧ Below w.heap.size w Wv) ⟨((Bx.at_ (by simp))), ((Below.refl _ w).alloc (by simp <;> omega) _)⟩ ?_
    rintro w' ⟨q0, b⟩
    replace B := B.trans (b.mono B.size); clear b
    refine (HC.out _ (H.out.below B)).mono ?_
    rintro e w1 ⟨rfl, rfl⟩
    go_wp2_with ((with_reducible refine at_store 172 2 13 ?_); refine wpList_storeRow rfl _ _ _ rfl _ _ rfl rfl q0 size_table rfl z48_one ?_; intro W g0 S0)
    refine bodyPost_ret (results_row rfl _ rfl g0 _ Tryz.underlying172 rfl size_table) rfl ⟨?_, S0.1 B (Nat.le_refl _)⟩
    rw [HV.out, HZ.out, HR.out, HR8.out]; rfl
end Go.Proofs.YtmbokdnndlnjkaaGreat
namespace Go.Proofs.YtmbokdnndlnjkaaGreat
open Go.RowKit L01 L02 L18
theorem tab_one (L : List Sl) : (tab L).all (·.oneCell') = true := all_oneCell_toArray (tabL_one L)
theorem tab_get3 {L : List Sl} {k : Nat} {s : Sl} (h : L[k]? = some s) : (tab L)[k * 3]? = some (.int .i64 s.gen) ∧ (tab L)[k * 3 + 1]? = some (.bool s.used) ∧ (tab L)[k * 3 + 2]? = some (.int .i64 s.at_) := by
  have h0 := tabL_get L k s h 0 (by omega)
  have h1 := tabL_get L k s h 1 (by omega)
  have h2 := tabL_get L k s h 2 (by omega)
  simp only [tab, List.getElem?_toArray]
  exact ⟨h0, h1, h2⟩
def findS (L : List Sl) (sl g : Int) : Sl := if rightErr L sl g = 0 then L.getD sl.toNat .none else .none
set_option maxRecDepth 100000 in
set_option maxHeartbeats 1000000 in
theorem find_any (L : List Sl) (hL : L.length = 16) (V : Array Value) (hV : V = tab L) (sl g : Int) (s : Sl) (r : Int) (hs : s = findS L sl g) (hr : r = rightErr L sl g) (w : World) :
    Calls Tryz.prog 112 #[.agg V, .agg #[.int .i64 sl, .int .i64 g]] w fun e w' => e = .returned (.tuple #[.agg #[.int .i64 s.gen, .bool s.used, .int .i64 s.at_], .int .i64 r]) ∧ Below w.heap.size w w' := by
  have B : Below w.heap.size w w := Below.refl _ _
  have HV := Lib.hid hV
  by_cases hin : 0 ≤ sl ∧ sl < 16
  · obtain ⟨h0, h1⟩ := hin
    obtain ⟨k, rfl⟩ := Int.eq_ofNat_of_zero_le h0
    have hk : k < 16 := by omega
    have hx : L[k]? = some (L[k]'(by omega)) := List.getElem?_eq_getElem (by omega)
    obtain ⟨x, hxx⟩ : ∃ x, x = L[k]'(by omega) := ⟨_, rfl⟩
    rw [← hxx] at hx; clear hxx
    obtain ⟨t0, t1, t2⟩ := tab_get3 hx
    rw [← hV] at t0 t1 t2
    have hgd : L.getD (k : Int).toNat .none = x := by simp [List.getD_eq_getElem?_getD, hx]
    by_cases hu : x.used = true ∧ x.gen = g
    · have hr0 : r = 0 := by rw [hr, rightErr, if_pos (by omega), hgd, if_pos hu]
      have hs0 : s = x := by rw [hs, findS, ← hr, if_pos hr0, hgd]
      clear hr hs hgd hx hV hL
      obtain ⟨hu1, hu2⟩ := hu
      subst hu2 hr0 hs0
      obtain ⟨gn, us, a⟩ := s
      dsimp only at hu1 t0 t1 t2 ⊢
      subst hu1
      go_enter Tryz.func112, Tryz.ntmps112
      go_upto_region 1 with (fail)
      refine wp_gen (fun Wv => Bx Wv (w.heap.size) (172) (V) ∧ Bx Wv (w.heap.size + 1) (39) (#[.int .i64 k, .int .i64 gn]) ∧ Bx Wv (w.heap.size + 1 + 1) (37) (#[.int .i64 0, .bool false, .int .i64 0]) ∧ Below w.heap.size w Wv) ⟨((((Bx.at_ (by simp)).alloc _).alloc _)), (((Bx.at_ (by simp)).alloc _)), ((Bx.at_ (by simp))), ((((Below.refl _ w).alloc (by simp <;> omega) _).alloc (by simp <;> omega) _).alloc (by simp <;> omega) _)⟩ ?_
      rintro w' ⟨g1, g2, g0, b⟩
      replace B := B.trans (b.mono B.size); clear b
      have c_g1 := g1.cell; have f_g1 := g1.free; have a_g1 := fun o => (g1.alloc o).cell; have d_g1 := fun o o2 => ((g1.alloc o).alloc o2).cell; have e_g1 := fun o => (g1.alloc o).free
      have c_g2 := g2.cell; have f_g2 := g2.free; have a_g2 := fun o => (g2.alloc o).cell; have d_g2 := fun o o2 => ((g2.alloc o).alloc o2).cell; have e_g2 := fun o => (g2.alloc o).free
      have c_g0 := g0.cell; have f_g0 := g0.free; have a_g0 := fun o => (g0.alloc o).cell; have d_g0 := fun o o2 => ((g0.alloc o).alloc o2).cell; have e_g0 := fun o => (g0.alloc o).free
      go_wp2
      refine bodyPost_ret (v := .tuple #[.agg #[.int .i64 gn, .bool true, .int .i64 a], .int .i64 0]) (by simp [results, Tryz.results112, go_sem, c_g1, f_g1, a_g1, e_g1, c_g2, f_g2, a_g2, e_g2, c_g0, f_g0, a_g0, e_g0]) rfl ?_
      refine ⟨rfl, ?_⟩
      (repeat (first | refine Below.setCell ?_ (by first | exact Nat.le_refl _ | (simp <;> omega)) _ | refine Below.alloc ?_ (by first | exact B.size | (have := B.size; simp <;> omega)) _)); exact B
    · have hr0 : r = 28 := by rw [hr, rightErr, if_pos (by omega), hgd, if_neg hu]
      have hs0 : s = .none := by rw [hs, findS, ← hr, hr0]; rfl
      clear hr hs hgd hx hV hL
      subst hr0 hs0
      obtain ⟨gn, us, a⟩ := x
      dsimp only at hu t0 t1 t2 ⊢
      unfold Sl.none
      dsimp only
      have hcase : us = false ∨ us = true ∧ (gn != g) = true := by
        cases us
        · exact .inl rfl
        · refine .inr ⟨rfl, ?_⟩
          rw [bne_iff_ne]; exact fun h => hu ⟨rfl, h⟩
      clear hu
      rcases hcase with rfl | ⟨rfl, hne⟩
      all_goals
        go_enter Tryz.func112, Tryz.ntmps112
        go_upto_region 1 with (fail)
        refine wp_gen (fun Wv => Bx Wv (w.heap.size) (172) (V) ∧ Bx Wv (w.heap.size + 1) (39) (#[.int .i64 k, .int .i64 g]) ∧ Bx Wv (w.heap.size + 1 + 1) (37) (#[.int .i64 0, .bool false, .int .i64 0]) ∧ Below w.heap.size w Wv) ⟨((((Bx.at_ (by simp)).alloc _).alloc _)), (((Bx.at_ (by simp)).alloc _)), ((Bx.at_ (by simp))), ((((Below.refl _ w).alloc (by simp <;> omega) _).alloc (by simp <;> omega) _).alloc (by simp <;> omega) _)⟩ ?_
        rintro w' ⟨g1, g2, g0, b⟩
        replace B := B.trans (b.mono B.size); clear b
        have c_g1 := g1.cell; have f_g1 := g1.free; have a_g1 := fun o => (g1.alloc o).cell; have d_g1 := fun o o2 => ((g1.alloc o).alloc o2).cell; have e_g1 := fun o => (g1.alloc o).free
        have c_g2 := g2.cell; have f_g2 := g2.free; have a_g2 := fun o => (g2.alloc o).cell; have d_g2 := fun o o2 => ((g2.alloc o).alloc o2).cell; have e_g2 := fun o => (g2.alloc o).free
        have c_g0 := g0.cell; have f_g0 := g0.free; have a_g0 := fun o => (g0.alloc o).cell; have d_g0 := fun o o2 => ((g0.alloc o).alloc o2).cell; have e_g0 := fun o => (g0.alloc o).free
        go_wp2
        refine bodyPost_ret (v := .tuple #[.agg #[.int .i64 0, .bool false, .int .i64 0], .int .i64 28]) (by simp [results, Tryz.results112, go_sem, c_g1, f_g1, a_g1, e_g1, c_g2, f_g2, a_g2, e_g2, c_g0, f_g0, a_g0, e_g0]) rfl ?_
        refine ⟨rfl, ?_⟩
        (repeat (first | refine Below.setCell ?_ (by first | exact Nat.le_refl _ | (simp <;> omega)) _ | refine Below.alloc ?_ (by first | exact B.size | (have := B.size; simp <;> omega)) _)); exact B
  · have hr0 : r = 2 := by rw [hr, rightErr, if_neg (by omega)]
    have hs0 : s = .none := by rw [hs, findS, ← hr, hr0]; rfl
    clear hr hs hV hL
    subst hr0 hs0
    unfold Sl.none
    dsimp only
    have hcase : sl < 0 ∨ 16 ≤ sl := by omega
    clear hin
    rcases hcase with hneg | hneg
    all_goals
      go_enter Tryz.func112, Tryz.ntmps112
      go_upto_region 1 with (fail)
      refine wp_gen (fun Wv => Bx Wv (w.heap.size) (172) (V) ∧ Bx Wv (w.heap.size + 1) (39) (#[.int .i64 sl, .int .i64 g]) ∧ Bx Wv (w.heap.size + 1 + 1) (37) (#[.int .i64 0, .bool false, .int .i64 0]) ∧ Below w.heap.size w Wv) ⟨((((Bx.at_ (by simp)).alloc _).alloc _)), (((Bx.at_ (by simp)).alloc _)), ((Bx.at_ (by simp))), ((((Below.refl _ w).alloc (by simp <;> omega) _).alloc (by simp <;> omega) _).alloc (by simp <;> omega) _)⟩ ?_
      rintro w' ⟨g1, g2, g0, b⟩
      replace B := B.trans (b.mono B.size); clear b
      have c_g1 := g1.cell; have f_g1 := g1.free; have a_g1 := fun o => (g1.alloc o).cell; have d_g1 := fun o o2 => ((g1.alloc o).alloc o2).cell; have e_g1 := fun o => (g1.alloc o).free
      have c_g2 := g2.cell; have f_g2 := g2.free; have a_g2 := fun o => (g2.alloc o).cell; have d_g2 := fun o o2 => ((g2.alloc o).alloc o2).cell; have e_g2 := fun o => (g2.alloc o).free
      have c_g0 := g0.cell; have f_g0 := g0.free; have a_g0 := fun o => (g0.alloc o).cell; have d_g0 := fun o o2 => ((g0.alloc o).alloc o2).cell; have e_g0 := fun o => (g0.alloc o).free
      go_wp2
      refine bodyPost_ret (v := .tuple #[.agg #[.int .i64 0, .bool false, .int .i64 0], .int .i64 2]) (by simp [results, Tryz.results112, go_sem, c_g1, f_g1, a_g1, e_g1, c_g2, f_g2, a_g2, e_g2, c_g0, f_g0, a_g0, e_g0]) rfl ?_
      refine ⟨rfl, ?_⟩
      (repeat (first | refine Below.setCell ?_ (by first | exact Nat.le_refl _ | (simp <;> omega)) _ | refine Below.alloc ?_ (by first | exact B.size | (have := B.size; simp <;> omega)) _)); exact B
/-- A slice of slots. -/
def Slots (w : World) (v : Value) (L : List Sl) : Prop := Rd w 3 v L.length (tabL L)
def OwnS (w : World) (base E : Nat) (v : Value) (L : List Sl) : Prop := w.ownsRow base E 3 v L.length (tabL L)
theorem OwnS.rd {w : World} {base E : Nat} {v : Value} {L : List Sl} (h : OwnS w base E v L) : Slots w v L := Rd.of_own h
theorem Slots.below {w w' : World} {v : Value} {L : List Sl} (h : Slots w v L) (hb : Below w.heap.size w w') : Slots w' v L := Rd.below h hb
theorem OwnS.below {w w' : World} {base E : Nat} {v : Value} {L : List Sl} (h : OwnS w base E v L) (hb : Below w.heap.size w w') : OwnS w' base E v L := own_below h hb
theorem OwnS.nil (w : World) (base E : Nat) : OwnS w base E (.slice none 0 0) [] := World.ownsRow_nil w base E 3
/-- a whole array, taken as a slice. -/
theorem Bx.ownS {w : World} {g base : Nat} {t : TypeId} {cs : Array Value} {L : List Sl} (h : Bx w g t cs) (hb : base ≤ g) (hc : cs = tab L) (hL : L.length = 16) : OwnS w base t (.slice (some ⟨g, 0, none⟩) 16 16) L := by
  subst hc
  unfold OwnS
  rw [hL]
  refine ⟨by rw [tabL_len, hL], .inr ⟨g, 16, tab L, rfl, hb, h, Nat.le_refl _, by simp [maxLen], by rw [tab_size, hL], ?_⟩⟩
  rw [List.take_of_length_le (by simp [tab, tabL_len]; omega)]
  simp [tab]
theorem all_nil {l : List UInt64} (h : openErr l ≠ 0) : all l = [] := if_neg h
theorem all_ok {l : List UInt64} (h : openErr l = 0) : all l = slots l := if_pos h
theorem tabOf_ok {l : List UInt64} (h : openErr l = 0) : tabOf l = slots l := if_pos h
theorem slots16 {l : List UInt64} (h : openErr l = 0) : (slots l).length = 16 := by rw [← tabOf_ok h, tabOf_len]
set_option maxRecDepth 100000 in
set_option maxHeartbeats 1000000 in
theorem All18_any (v : Value) (l : List UInt64) (L : List Sl) (r : Int) (hL : L = all l) (hr : r = openErr l) (w : World) (h : Words w v l) :
    Calls Tryz.prog 27 #[v] w fun e w' => ∃ x E, e = .returned (.tuple #[x, .int .i64 r]) ∧ OwnS w' w.heap.size E x L ∧ Below w.heap.size w w' := by
  have B : Below w.heap.size w w := Below.refl _ _
  obtain ⟨V, hV⟩ : ∃ V, V = tab (tabOf l) := ⟨_, rfl⟩
  have OT := fun w h => open_any v l V hV r hr w h
  have HOT := Lib.hid OT; have H := Lib.hid h; clear OT h
  by_cases h0 : openErr l = 0
  · have hr0 : r = 0 := hr.trans h0
    have hVs : V.size = 48 := by rw [hV]; exact tabOf_size l
    have hV1 : V.all (·.oneCell') = true := by rw [hV]; exact tab_one _
    have hLS : L = slots l := hL.trans (all_ok h0)
    have hVL : V = tab L := by rw [hV, tabOf_ok h0, hLS]
    have hL16 : L.length = 16 := by rw [hLS]; exact slots16 h0
    subst hr0
    have HVs := Lib.hid hVs; have HV1 := Lib.hid hV1; have HVL := Lib.hid hVL; have HL16 := Lib.hid hL16
    clear hr h0 hVs hV1 hLS hVL hL16 hV hL
    go_enter Tryz.func27, Tryz.ntmps27
    go_wp2_with fail
    refine (HOT.out _ (H.out.below B)).mono ?_
    rintro e w' ⟨rfl, b⟩
    replace B := B.trans (b.mono B.size); clear b
    go_wp2_with ((with_reducible refine at_store 172 4 9 ?_); refine wpList_storeNew rfl _ _ _ rfl rfl V rfl rfl (by rw [HVs.out]; exact size_table) (by rw [HVs.out]; rfl) HV1.out ?_; intro W q1 b1)
    go_ret2
    exact ⟨_, _, rfl, q1.ownS B.size HVL.out HL16.out, B.trans (b1.mono B.size)⟩
  · have hne : (r != 0) = true := by rw [bne_iff_ne, hr]; exact h0
    have hVs : V.size = 48 := by rw [hV]; exact tabOf_size l
    have hV1 : V.all (·.oneCell') = true := by rw [hV]; exact tab_one _
    have hL0 : L = [] := hL.trans (all_nil h0)
    have HVs := Lib.hid hVs; have HV1 := Lib.hid hV1
    clear hr h0 hVs hV1 hV hL
    subst hL0
    go_enter Tryz.func27, Tryz.ntmps27
    go_wp2_with fail
    refine (HOT.out _ (H.out.below B)).mono ?_
    rintro e w' ⟨rfl, b⟩
    replace B := B.trans (b.mono B.size); clear b
    go_wp2_with ((with_reducible refine at_store 172 4 9 ?_); refine wpList_storeNew rfl _ _ _ rfl rfl V rfl rfl (by rw [HVs.out]; exact size_table) (by rw [HVs.out]; rfl) HV1.out ?_; intro W q1 b1)
    go_ret2
    exact ⟨_, 0, rfl, OwnS.nil _ _ _, B.trans (b1.mono B.size)⟩
set_option maxRecDepth 100000 in
set_option maxHeartbeats 1000000 in
theorem Resolve_any (v : Value) (l : List UInt64) (sl g : Int) (x r : Int) (hx : x = res l sl g) (hr : r = resErr l sl g) (w : World) (h : Words w v l) :
    Calls Tryz.prog 105 #[v, .agg #[.int .i64 sl, .int .i64 g]] w fun e w' => e = .returned (.tuple #[.int .i64 x, .int .i64 r]) ∧ Below w.heap.size w w' := by
  have B : Below w.heap.size w w := Below.refl _ _
  obtain ⟨V, hV⟩ : ∃ V, V = tab (tabOf l) := ⟨_, rfl⟩
  obtain ⟨oe, hoe⟩ : ∃ oe, oe = openErr l := ⟨_, rfl⟩
  have OT := fun w h => open_any v l V hV oe hoe w h
  have HOT := Lib.hid OT; have H := Lib.hid h; clear OT h
  have hVs : V.size = 48 := by rw [hV]; exact tabOf_size l
  have hV1 : V.all (·.oneCell') = true := by rw [hV]; exact tab_one _
  have HVs := Lib.hid hVs; have HV1 := Lib.hid hV1
  clear hVs hV1
  by_cases h0 : openErr l = 0
  · have hr0 : r = rightErr (slots l) sl g := by rw [hr, resErr, if_pos h0]
    obtain ⟨s, hs⟩ : ∃ s, s = findS (slots l) sl g := ⟨_, rfl⟩
    have hx0 : x = s.at_ := by
      rw [hx, res, resErr, if_pos h0, hs, findS]
      split <;> rfl
    have FT := fun w => find_any (slots l) (slots16 h0) V (by rw [hV, tabOf_ok h0]) sl g s r hs hr0 w
    have HFT := Lib.hid FT
    rw [h0] at hoe
    subst hoe hx0
    clear FT hr h0 hV hs hx hr0
    go_enter Tryz.func105, Tryz.ntmps105
    go_upto_region 1 with (fail)
    refine wp_gen (fun Wv => Bx Wv (w.heap.size) (39) (#[.int .i64 sl, .int .i64 g]) ∧ Below w.heap.size w Wv) ⟨((Bx.at_ (by simp))), ((Below.refl _ w).alloc (by simp <;> omega) _)⟩ ?_
    rintro w' ⟨g1, b⟩
    replace B := B.trans (b.mono B.size); clear b
    have c_g1 := g1.cell; have f_g1 := g1.free; have a_g1 := fun o => (g1.alloc o).cell; have d_g1 := fun o o2 => ((g1.alloc o).alloc o2).cell; have e_g1 := fun o => (g1.alloc o).free
    go_wp2_with fail
    refine (HOT.out _ (H.out.below B)).mono ?_
    rintro e w' ⟨rfl, b⟩
    try clear c_g1 f_g1 a_g1 d_g1 e_g1
    replace g1 := g1.below b; have c_g1 := g1.cell; have f_g1 := g1.free; have a_g1 := fun o => (g1.alloc o).cell; have d_g1 := fun o o2 => ((g1.alloc o).alloc o2).cell; have e_g1 := fun o => (g1.alloc o).free; replace B := B.trans (b.mono B.size); clear b
    go_wp2_with (first
      | ((with_reducible refine at_store 172 6 12 ?_); refine wpList_storeNew rfl _ _ _ rfl rfl V rfl rfl (by rw [HVs.out]; exact size_table) (by rw [HVs.out]; rfl) HV1.out ?_; intro W q1 b1; have k1 := (g1.below b1).cell)
      | ((with_reducible refine at_load 18 172 6 ?_); refine wpList_loadRow rfl _ _ rfl _ rfl q1 _ Tryz.underlying172 rfl (by rw [HVs.out]; exact size_table) ?_))
    refine (HFT.out _).mono ?_
    rintro e w' ⟨rfl, b⟩
    replace B := (B.trans (b1.mono B.size)).trans (b.mono (Nat.le_trans B.size b1.size))
    clear k1 b b1 q1
    go_wp2
    go_ret2
    exact ⟨rfl, by (repeat (first | refine Below.setCell ?_ (by first | exact Nat.le_refl _ | (simp <;> omega)) _ | refine Below.alloc ?_ (by first | exact B.size | (have := B.size; simp <;> omega)) _)); exact B⟩
  · have hne : (oe != 0) = true := by rw [bne_iff_ne, hoe]; exact h0
    have hr0 : r = oe := by rw [hr, resErr, if_neg h0, hoe]
    have hx0 : x = 0 := by rw [hx, res, resErr, if_neg h0, if_neg h0]
    clear hr h0 hV hx hoe
    subst hr0 hx0
    go_enter Tryz.func105, Tryz.ntmps105
    go_upto_region 1 with (fail)
    refine wp_gen (fun Wv => Bx Wv (w.heap.size) (39) (#[.int .i64 sl, .int .i64 g]) ∧ Below w.heap.size w Wv) ⟨((Bx.at_ (by simp))), ((Below.refl _ w).alloc (by simp <;> omega) _)⟩ ?_
    rintro w' ⟨g1, b⟩
    replace B := B.trans (b.mono B.size); clear b
    have c_g1 := g1.cell; have f_g1 := g1.free; have a_g1 := fun o => (g1.alloc o).cell; have d_g1 := fun o o2 => ((g1.alloc o).alloc o2).cell; have e_g1 := fun o => (g1.alloc o).free
    go_wp2_with fail
    refine (HOT.out _ (H.out.below B)).mono ?_
    rintro e w' ⟨rfl, b⟩
    try clear c_g1 f_g1 a_g1 d_g1 e_g1
    replace g1 := g1.below b; have c_g1 := g1.cell; have f_g1 := g1.free; have a_g1 := fun o => (g1.alloc o).cell; have d_g1 := fun o o2 => ((g1.alloc o).alloc o2).cell; have e_g1 := fun o => (g1.alloc o).free; replace B := B.trans (b.mono B.size); clear b
    go_wp2_with ((with_reducible refine at_store 172 6 12 ?_); refine wpList_storeNew rfl _ _ _ rfl rfl V rfl rfl (by rw [HVs.out]; exact size_table) (by rw [HVs.out]; rfl) HV1.out ?_; intro W q1 b1)
    go_ret2
    exact ⟨rfl, B.trans (b1.mono B.size)⟩
end Go.Proofs.YtmbokdnndlnjkaaGreat
