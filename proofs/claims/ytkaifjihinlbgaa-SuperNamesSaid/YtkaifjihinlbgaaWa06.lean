/- The walk of 'alive' of superblocks. -/
import Derived.Test.YtkaifjihinlbgaaC06f
import Derived.Test.YtkaifjihinlbgaaC02b
set_option linter.unusedVariables false
set_option linter.unusedSimpArgs false
namespace Go.Proofs.Ytkaifjihinlbgaa
open Go.RowKit L02 L05 L06

def True_ (w : World) (e : Ending) (w' : World) : Prop := e = .returned (.bool true) ∧ Below w.heap.size w w'

theorem ok256 : SupOk 256 2 := by decide
def ex6 : List UInt64 := wordsOf 256 2
theorem ex6_no : ¬ ReadOk (ex6.set 3 3) := by decide +kernel
theorem ex6_take : ex6.take 7 = [magic, 1, 256, 2, 0, 0, 0] := by decide +kernel
theorem ex6_err : supErr 256 2 = 0 := if_pos ok256
theorem ex6_write : write 256 2 = ex6 := if_pos ok256

set_option maxHeartbeats 1000000 in
theorem alive6_any (w : World) : Calls Try.prog 19 #[] w (True_ w) := by
  have B : Below w.heap.size w w := Below.refl _ _
  go_enter Try.func19, Try.ntmps19
  go_wp2_with fail
  refine (Write6_any 256 2 _).mono ?_
  rw [ex6_err, ex6_write]
  rintro e w1 ⟨x1, rfl, ⟨E, o⟩, b⟩
  have r1 := o.rd; replace B := B.trans (b.mono B.size); clear o b
  have l1 := Rd.len r1 Try.underlying25
  rw [show ex6.length = 8 from rfl] at l1
  go_wp2_with fail
  refine (Twin_any _ _ _ r1 (by decide)).mono ?_
  rintro e w2 ⟨x2, rfl, o, b⟩
  obtain ⟨ad, u0, hix, hc, hf, hB, _, hst⟩ := own_at (P := Try.prog) o Try.underlying25 one_u64 (k := (3 : Int)) (by omega) (by decide)
  have o3 : OwnW (w2.setCell ad (.int .u64 3)) w1.heap.size 30 x2 (ex6.set 3 3) := OwnW.set (x := 3) (hst _)
  have bs : Below w1.heap.size w1 (w2.setCell ad (.int .u64 3)) := b.setCell hB _
  replace r1 := r1.below bs; replace B := B.trans (bs.mono B.size)
  have r3 := o3.rd
  have R1 := Lib.hid r1; have R3 := Lib.hid r3; have HB := Lib.hid B
  clear r1 r3 o o3 bs b B hst hB
  go_wp2_with fail
  clear hix hc hf
  obtain ⟨w3, hw3⟩ : ∃ w3, w3 = w2.setCell ad (.int .u64 3) := ⟨_, rfl⟩
  rw [← hw3] at R1 R3 HB ⊢
  clear hw3
  refine (Read6_any _ _ _ R3.out).mono ?_
  rw [show rdErr (ex6.set 3 3) = 50 from by rw [rdErr, if_pos (by decide), if_neg ex6_no], (rd_no ex6_no).1, (rd_no ex6_no).2]
  unfold supV
  rintro e w4 ⟨rfl, b⟩
  have r1 := R1.out.below b; have B := HB.out.trans (b.mono HB.out.size)
  clear b R1 R3 HB
  obtain ⟨v7, hsl, h7⟩ := r1.cutTo Try.underlying25 one_u64 (hi := (7 : Int)) (by omega) (by decide)
  rw [show ex6.take (7 : Int).toNat = [magic, 1, 256, 2, 0, 0, 0] from ex6_take] at h7
  go_wp2_with fail
  refine calls_gen (fun W => Words W v7 [magic, 1, 256, 2, 0, 0, 0] ∧ Words W (.slice (some ⟨w4.heap.size + 1, 0, none⟩) 7 7) [magic, 1, 256, 2, 0, 0, 0] ∧ Below w.heap.size w W)
    ⟨(h7.alloc _).alloc _, ?_, (B.alloc B.size _).alloc (Nat.le_trans B.size (by simp)) _⟩ ?_
  · have := lit_words (w := w4.alloc (.cells #[.int .i64 0, .int .i64 0] 23)) (cs := #[.int .u64 32777959566500194, .int .u64 1, .int .u64 256, .int .u64 2, .int .u64 0, .int .u64 0, .int .u64 0]) (e := 30) [magic, 1, 256, 2, 0, 0, 0] rfl rfl (by simp)
    rw [alloc_sz] at this
    exact this
  rintro w5 ⟨ra, rb, B5⟩
  refine (Same_any _ _ _ _ _ ra rb).mono ?_
  rw [same_refl]
  rintro e w6 ⟨rfl, q⟩
  replace B5 := B5.trans (q.below.mono B5.size)
  go_wp2
  go_ret
  exact ⟨rfl, B5⟩
end Go.Proofs.Ytkaifjihinlbgaa
