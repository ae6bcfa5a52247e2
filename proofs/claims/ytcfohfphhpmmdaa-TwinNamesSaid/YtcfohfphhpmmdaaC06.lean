/- Contracts of superblocks. -/
import Derived.Test.YtcfohfphhpmmdaaC05
import Derived.Test.YtcfohfphhpmmdaaL06
set_option linter.unusedVariables false
set_option linter.unusedSimpArgs false
namespace Go.Proofs.Ytcfohfphhpmmdaa
open Go.RowKit L02 L05 L06

def supV (W T : Int) : Value := .agg #[.int .i64 W, .int .i64 T]
def arr8 (l : List UInt64) : Value := .agg (l.map u64).toArray

theorem Check6_any (W T : Int) (w : World) : Calls Try.prog 40 #[supV W T] w fun e w' => e = .returned (.int .i64 (supErr W T)) ∧ Below w.heap.size w w' := by
  unfold supV
  go_enter Try.func40, Try.ntmps40
  go_wp2
  all_goals
    go_ret
    refine ⟨ret_int ?_, (Below.refl _ _).alloc (Nat.le_refl _) _⟩
    first
    | exact (if_pos (by unfold SupOk SizeOk; omega)).symm
    | exact (if_neg (by unfold SupOk SizeOk; omega)).symm

set_option maxHeartbeats 1000000 in
theorem words_any (W T : Int) (w : World) (h : SupOk W T) : Calls Try.prog 37 #[supV W T] w fun e w' => e = .returned (arr8 (wordsOf W T)) ∧ Below w.heap.size w w' := by
  have h1 := h.1.1; have h2 := h.1.2.1; have h3 := h.2.1; have h4 := h.2.2
  have hu1 := u_nat (n := W) (by omega) (by omega)
  have hu2 := u_nat (n := T) (by omega) (by omega)
  have HU1 := Lib.hid hu1; have HU2 := Lib.hid hu2; clear hu1 hu2 h
  unfold supV
  go_enter Try.func37, Try.ntmps37
  go_wp2_with fail
  have hW : (((w.alloc (.cells #[.int .i64 W, .int .i64 T] 26)).alloc (.cells #[.int .u64 0, .int .u64 0, .int .u64 0, .int .u64 0, .int .u64 0, .int .u64 0, .int .u64 0, .int .u64 0] 73)).alloc
    (.cells #[.int .u64 32777959566500194, .int .u64 1, .int .u64 W, .int .u64 T, .int .u64 0, .int .u64 0, .int .u64 0, .int .u64 0] 73)).heap.size = w.heap.size + 1 + 1 + 1 := by simp
  have g2 := blk_new ((w.alloc (.cells #[.int .i64 W, .int .i64 T] 26)).alloc (.cells #[.int .u64 0, .int .u64 0, .int .u64 0, .int .u64 0, .int .u64 0, .int .u64 0, .int .u64 0, .int .u64 0] 73))
    (.cells #[.int .u64 32777959566500194, .int .u64 1, .int .u64 W, .int .u64 T, .int .u64 0, .int .u64 0, .int .u64 0, .int .u64 0] 73)
  have g1 := blk_old (blk_new (w.alloc (.cells #[.int .i64 W, .int .i64 T] 26)) (.cells #[.int .u64 0, .int .u64 0, .int .u64 0, .int .u64 0, .int .u64 0, .int .u64 0, .int .u64 0, .int .u64 0] 73))
    (.cells #[.int .u64 32777959566500194, .int .u64 1, .int .u64 W, .int .u64 T, .int .u64 0, .int .u64 0, .int .u64 0, .int .u64 0] 73)
  rw [show ((w.alloc (.cells #[.int .i64 W, .int .i64 T] 26)).alloc (.cells #[.int .u64 0, .int .u64 0, .int .u64 0, .int .u64 0, .int .u64 0, .int .u64 0, .int .u64 0, .int .u64 0] 73)).heap.size = w.heap.size + 1 + 1 by simp] at g2
  rw [show (w.alloc (.cells #[.int .i64 W, .int .i64 T] 26)).heap.size = w.heap.size + 1 by simp] at g1
  have B : Below w.heap.size w _ := (((Below.refl _ w).alloc (Nat.le_refl _) (.cells #[.int .i64 W, .int .i64 T] 26)).alloc (by simp) (.cells #[.int .u64 0, .int .u64 0, .int .u64 0, .int .u64 0, .int .u64 0, .int .u64 0, .int .u64 0, .int .u64 0] 73)).alloc (by simp; omega)
    (.cells #[.int .u64 32777959566500194, .int .u64 1, .int .u64 W, .int .u64 T, .int .u64 0, .int .u64 0, .int .u64 0, .int .u64 0] 73)
  have r := part_words (n := 7) (c := 8) (body W T) g2 rfl rfl (by simp [body, u64, HU1.out, HU2.out, magic]) (by simp)
  refine (Of_any _ _ _ r (by simp [body])).mono ?_
  rintro e w2 ⟨rfl, b⟩
  have g1' := blk_below g1 b; have g2' := blk_below g2 b
  replace B := B.trans (b.mono B.size)
  have hz := b.size
  rw [hW] at hz
  clear r b g1 g2 hW
  obtain ⟨S, hS⟩ : ∃ S, S = sum (body W T) := ⟨_, rfl⟩
  rw [← hS]
  have HS := Lib.hid hS; clear hS
  have c1 := blk_cell g1'; have c2 := blk_cell g2'; have f1 := blk_free g1'; have f2 := blk_free g2'
  have HB := Lib.hid B
  clear B g1' g2'
  go_wp2
  refine bodyPost_ret (v := arr8 (wordsOf W T)) ?_ rfl ⟨rfl, ?_⟩
  · simp [results, Try.results37, go_sem, c1, f1]
    simp [arr8, wordsOf, body, u64, HU1.out, HU2.out, magic, HS.out]
  · iterate 9 refine Below.setCell ?_ (by simp <;> omega) _
    exact HB.out

/-- fresh words and an error; the block may be that of an array. -/
def RetWB (w : World) (l : List UInt64) (err : Int) (e : Ending) (w' : World) : Prop := ∃ v, e = .returned (.tuple #[v, .int .i64 err]) ∧ (∃ E, OwnW w' w.heap.size E v l) ∧ Below w.heap.size w w'

set_option maxHeartbeats 1000000 in
theorem Write6_any (W T : Int) (w : World) : Calls Try.prog 30 #[supV W T] w (RetWB w (write W T) (supErr W T)) := by
  by_cases h : SupOk W T
  · have h0 : supErr W T = 0 := if_pos h
    have hl : arr8 (wordsOf W T) = .agg #[.int .u64 magic.toNat, .int .u64 (1 : UInt64).toNat, .int .u64 (u W).toNat, .int .u64 (u T).toNat, .int .u64 (0 : UInt64).toNat, .int .u64 (0 : UInt64).toNat, .int .u64 (0 : UInt64).toNat, .int .u64 (sum (body W T)).toNat] := rfl
    have H := Lib.hid h; have H0 := Lib.hid h0; clear h h0
    have HL := Lib.hid hl; clear hl
    unfold supV
    go_enter Try.func30, Try.ntmps30
    go_wp2_with fail
    refine (Check6_any W T _).mono ?_
    rw [H0.out]
    rintro e w1 ⟨rfl, b⟩
    have c1 := blk_cell (blk_below (blk_new w (.cells #[.int .i64 W, .int .i64 T] 26)) b)
    have B := ((Below.refl _ w).alloc (Nat.le_refl _) (.cells #[.int .i64 W, .int .i64 T] 26)).trans (b.mono (by simp))
    have HB := Lib.hid B; clear B b
    go_wp2_with fail
    refine (words_any W T _ H.out).mono ?_
    rw [HL.out]
    rintro e w2 ⟨rfl, b⟩
    have B := HB.out.trans (b.mono HB.out.size)
    have HB := Lib.hid B; clear B b
    clear c1
    go_wp2
    go_ret2
    refine ⟨_, ret_ve H0.out.symm, ⟨73, OwnW.of (World.ownsRow_lit w2 _ 8 HB.out.size (by simp [maxLen]) rfl) ?_⟩, HB.out.alloc HB.out.size _⟩
    rw [write, if_pos H.out]
    rfl
  · have h0 : supErr W T = 8 := if_neg h
    have H := Lib.hid h; have H0 := Lib.hid h0; clear h h0
    unfold supV
    go_enter Try.func30, Try.ntmps30
    go_wp2_with fail
    refine (Check6_any W T _).mono ?_
    rw [H0.out]
    rintro e w1 ⟨rfl, b⟩
    have B := ((Below.refl _ w).alloc (Nat.le_refl _) (.cells #[.int .i64 W, .int .i64 T] 26)).trans (b.mono (by simp))
    have HB := Lib.hid B; clear B b
    go_wp2
    go_ret2
    refine ⟨_, ret_ve H0.out.symm, ⟨50, ?_⟩, HB.out⟩
    rw [write, if_neg H.out]
    exact OwnW.nil _ _ _

end Go.Proofs.Ytcfohfphhpmmdaa
