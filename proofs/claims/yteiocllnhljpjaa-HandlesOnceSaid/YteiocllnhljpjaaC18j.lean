/- Contracts of the laws' own functions on slots. -/
import Derived.Test.YteiocllnhljpjaaC18i
import Derived.Test.YteiocllnhljpjaaC02b
set_option linter.unusedVariables false
set_option linter.unusedSimpArgs false
namespace Go.Proofs.Yteiocllnhljpjaa
open Go.RowKit L01 L02 L18

theorem hdl_eql (a b c d : Int) (r : Bool) (hr : r = (a == c && b == d)) (W : World) : (binOp .eql 39 (.agg #[.int .i64 a, .int .i64 b]) (.agg #[.int .i64 c, .int .i64 d])).run Try.prog W = .ok (.bool r) W := by
  subst hr
  cases h : (a == c) <;> cases h2 : (b == d) <;> simp [go_sem, h, h2]
theorem ent_eql (a c : Int) (b d : UInt64) (r : Bool) (hr : r = (a == c && b == d)) (W : World) : (binOp .eql 52 (.agg #[.int .i64 a, .int .u64 b.toNat]) (.agg #[.int .i64 c, .int .u64 d.toNat])).run Try.prog W = .ok (.bool r) W := by
  subst hr
  have e : (b == d) = ((b.toNat : Int) == (d.toNat : Int)) := by
    rw [Bool.eq_iff_iff, beq_iff_eq, beq_iff_eq]
    exact ⟨fun h => by rw [h], fun h => UInt64.toNat_inj.1 (by omega)⟩
  rw [e]
  cases h : (a == c) <;> cases h2 : ((b.toNat : Int) == (d.toNat : Int)) <;> simp [go_sem, h, h2]

/-- an image with a word changed -/
def madeOk (a : Int) : Prop := 112 ≤ a ∧ a < 128
instance (a : Int) : Decidable (madeOk a) := inferInstanceAs (Decidable (112 ≤ a ∧ a < 128))

set_option maxRecDepth 100000 in
set_option maxHeartbeats 1000000 in
theorem made_any (v : Value) (l : List UInt64) (a : Int) (x : UInt64) (w : World) (h : Words w v l) (hs : SizeOk l.length) (ha : 112 ≤ a ∧ a < 128) :
    Calls Try.prog 27 #[v, .agg #[.int .i64 a, .int .u64 x.toNat]] w fun e w' => ∃ y, e = .returned (.tuple #[y, .bool true]) ∧ OwnW w' w.heap.size 24 y (l.set a.toNat x) ∧ Below w.heap.size w w' := by
  have B : Below w.heap.size w w := Below.refl _ _
  have TT := fun w h => Twin_any v l w h (by have := hs.2.1; omega)
  have HT := Lib.hid TT; have H := Lib.hid h
  have h1 := hs.1
  obtain ⟨a1, a2⟩ := ha
  clear TT h hs
  go_enter Try.func27, Try.ntmps27
  go_upto_region 1 with (fail)
  refine wp_gen (fun Wv => Bx Wv (w.heap.size) (52) (#[.int .i64 a, .int .u64 x.toNat]) ∧ Below w.heap.size w Wv) ⟨((Bx.at_ (by simp))), ((Below.refl _ w).alloc (by simp <;> omega) _)⟩ ?_
  rintro w' ⟨g3, b⟩
  replace B := B.trans (b.mono B.size); clear b
  have c_g3 := g3.cell; have f_g3 := g3.free; have a_g3 := fun o => (g3.alloc o).cell; have d_g3 := fun o o2 => ((g3.alloc o).alloc o2).cell; have e_g3 := fun o => (g3.alloc o).free
  have hz := B.size
  go_wp2_with fail
  refine (HT.out _ (H.out.below B)).mono ?_
  rintro e w' ⟨y, rfl, o1, b⟩
  try clear c_g3 f_g3 a_g3 d_g3 e_g3
  replace g3 := g3.below b; have c_g3 := g3.cell; have f_g3 := g3.free; have a_g3 := fun o => (g3.alloc o).cell; have d_g3 := fun o o2 => ((g3.alloc o).alloc o2).cell; have e_g3 := fun o => (g3.alloc o).free; replace B := B.trans (b.mono B.size); clear b
  obtain ⟨ad, u0, ia, ca, fa, hb, hu, hset⟩ := own_at (P := Try.prog) o1 Try.underlying37 one_u64 (k := a) (by omega) (by omega)
  have HS := Lib.hid hset; have HO := Lib.hid o1; clear hset o1
  go_wp2
  go_ret2
  refine ⟨y, rfl, ?_, ?_⟩
  · have := own_mono (OwnW.set (x := x) (HS.out _)) (B' := w.heap.size) hz
    exact this
  · exact B.setCell (by omega) _

set_option maxRecDepth 100000 in
set_option maxHeartbeats 4000000 in
theorem alive18_any (w : World) : Calls Try.prog 13 #[] w fun e w' => e = .returned (.bool true) ∧ Below w.heap.size w w' := by
  have B : Below w.heap.size w w := Below.refl _ _
  obtain ⟨x1, hx1⟩ : ∃ x, x = word ⟨3, true, 130⟩ := ⟨_, rfl⟩
  obtain ⟨x2, hx2⟩ : ∃ x, x = word ⟨3, false, 0⟩ := ⟨_, rfl⟩
  have n1 : x1.toNat = 9223372049739677826 := by rw [hx1]; decide +kernel
  have n2 : x2.toNat = 12884901888 := by rw [hx2]; decide +kernel
  have W1 := fun w => Word_r ⟨3, true, 130⟩ x1 0 hx1 (by decide) w
  have W2 := fun w => Word_r ⟨3, false, 0⟩ x2 0 hx2 (by decide) w
  dsimp only at W1 W2
  rw [n1] at W1
  rw [n2] at W2
  obtain ⟨l, hl⟩ : ∃ l : List UInt64, l = (List.replicate 256 0).set 112 x2 := ⟨_, rfl⟩
  have hx2' : x2 = 12884901888 := by rw [hx2]; decide +kernel
  rw [hx2'] at hl
  have NT := fun v w h => New18_any v l 130 0 4 112 9223372054034645122 0 (by rw [hl]; decide +kernel) (by rw [hl]; decide +kernel) (by rw [hl]; decide +kernel) (by rw [hl]; decide +kernel) (by rw [hl]; decide +kernel) w h
  have HW1 := Lib.hid W1; have HW2 := Lib.hid W2; have HN := Lib.hid NT; have HL := Lib.hid hl; have HX := Lib.hid hx2'
  clear W1 W2 NT hl hx1 hx2 n1 n2 hx2'
  have q1 := fun W => hdl_eql 0 4 0 4 true (by rfl) W
  have q2 := fun W => ent_eql 112 112 9223372054034645122 9223372054034645122 true (by simp) W
  go_enter Try.func13, Try.ntmps13
  go_wp2_with fail
  refine (HW1.out _).mono ?_
  rintro e w' ⟨rfl, b⟩
  replace B := B.trans (b.mono B.size); clear b
  go_wp2_with fail
  refine (HW2.out _).mono ?_
  rintro e w' ⟨rfl, b⟩
  replace B := B.trans (b.mono B.size); clear b
  go_wp2_with (at_make; refine wpList_makeI (by rfl) rfl rfl rfl Try.underlying37 info_u64 rfl (by omega) (by omega) (by omega) B (Nat.le_refl _) ?_; intro v1 w1 o1 B1 b1; obtain ⟨ad, u0, ia, ca, fa, hb, hu, hset⟩ := own_at (P := Try.prog) o1 Try.underlying37 one_u64 (k := 112) (by omega) (by decide); have HSET := Lib.hid hset; clear hset o1 hu)
  have B2 : Below w.heap.size w (w1.setCell ad (.int .u64 12884901888)) := B1.setCell hb _
  have o2 : OwnW (w1.setCell ad (.int .u64 12884901888)) w.heap.size 24 v1 l := by
    refine OwnW.of (HSET.out _) ?_
    rw [HL.out]; rfl
  obtain ⟨w2, hw2⟩ : ∃ w2, w2 = w1.setCell ad (.int .u64 12884901888) := ⟨_, rfl⟩
  rw [← hw2] at B2 o2 ⊢
  clear hw2 B1 ca fa b1 ia HSET
  refine (HN.out _ _ o2.rd).mono ?_
  rintro e w' ⟨rfl, b⟩
  replace B := B2.trans (b.mono B2.size)
  go_wp2
  go_ret
  exact ⟨rfl, by (repeat (first | refine Below.setCell ?_ (by first | exact Nat.le_refl _ | (simp <;> omega)) _ | refine Below.alloc ?_ (by first | exact B.size | (have := B.size; simp <;> omega)) _)); exact B⟩
end Go.Proofs.Yteiocllnhljpjaa
