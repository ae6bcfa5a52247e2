/- Contracts of the functions of images and of their reference, continued. -/
import Derived.Test.YtcfohfphhpmmdaaC02
set_option linter.unusedVariables false
set_option linter.unusedSimpArgs false
namespace Go.Proofs.Ytcfohfphhpmmdaa
open Go.RowKit L02

theorem check_any (v : Value) (l : List UInt64) (at_ n : Int) (w : World) (h : Words w v l) : Calls Try.prog 35 #[v, .int .i64 at_, .int .i64 n] w fun e w' => e = .returned (.int .i64 (rng l at_ n)) ∧ w = w' := by
  have l1 := Rd.len h Try.underlying22
  have l2 := Rd.len_le h
  have H := Lib.hid h; clear h
  by_cases hs : SizeOk l.length
  · have HS := Lib.hid hs
    have l3 : l.length ≤ 2048 := by have := hs.2.1; omega
    clear hs
    go_enter Try.func35, Try.ntmps35
    go_wp2_with (go_at_call 27; refine (Check_any _ l _ H.out).mono ?_; rw [chk_ok HS.out]; rintro e w' ⟨rfl, rfl⟩)
    all_goals
      go_ret
      exact ⟨ret_int (by first | exact (rng_ok HS.out (by unfold InR; omega)).symm | exact (rng_no HS.out (by unfold InR; omega)).symm), rfl⟩
  · rw [rng_bad hs]
    have HS := Lib.hid hs; clear hs
    go_enter Try.func35, Try.ntmps35
    go_wp2_with (go_at_call 27; refine (Check_any _ l _ H.out).mono ?_; rw [chk_no HS.out]; rintro e w' ⟨rfl, rfl⟩)
    go_ret
    exact ⟨rfl, rfl⟩

theorem New_any (n : Int) (w : World) : Calls Try.prog 33 #[.int .i64 n] w (RetWE w (new n) (newErr n)) := by
  by_cases hs : SizeOk n
  · have h0 : 0 ≤ n := by have := hs.1; omega
    have h2 : n ≤ 2048 := hs.2.1
    obtain ⟨m, rfl⟩ := Int.eq_ofNat_of_zero_le h0
    have HS := Lib.hid hs; clear hs
    go_enter Try.func33, Try.ntmps33
    go_wp2_with (first
      | (go_at_call 38; refine (Size_any _ true (decide_eq_true HS.out).symm _).mono ?_; rintro e w' ⟨rfl, rfl⟩)
      | (at_make
         refine wpList_make (by rfl) rfl rfl rfl Try.underlying22 info_u64 rfl (by omega) (by omega) (Below.refl w.heap.size w) (Nat.le_refl _) ?_
         intro v1 w1 hown hbel))
    go_ret2
    refine ⟨v1, ?_, OwnW.of hown ?_, hbel⟩
    · simp [newErr, HS.out]
    · simp [new, HS.out, u64]
  · have HS := Lib.hid hs; clear hs
    go_enter Try.func33, Try.ntmps33
    go_wp2_with (go_at_call 38; refine (Size_any _ false (decide_eq_false HS.out).symm _).mono ?_; rintro e w' ⟨rfl, rfl⟩)
    go_ret2
    refine ⟨_, ?_, OwnW.of (World.ownsRow_nil _ _ _ _) ?_, Below.refl _ _⟩
    · simp [newErr, HS.out]
    · simp [new, HS.out]
def RetW (w : World) (l : List UInt64) (e : Ending) (w' : World) : Prop := ∃ v, e = .returned v ∧ OwnW w' w.heap.size 50 v l ∧ Below w.heap.size w w'

theorem clone_any (v : Value) (l : List UInt64) (w : World) (h : Words w v l) (hl : l.length ≤ 1048576) : Calls Try.prog 36 #[v] w (RetW w l) := by
  have l1 := Rd.len h Try.underlying22
  have H := Lib.hid h; clear h
  obtain ⟨n, hn⟩ : ∃ n, n = l.length := ⟨_, rfl⟩
  rw [← hn] at l1 hl
  have Hn := Lib.hid hn; clear hn
  go_enter Try.func36, Try.ntmps36
  go_wp2_with (at_make
               refine wpList_make (by rfl) rfl rfl rfl Try.underlying22 info_u64 rfl (by omega) (by omega) (Below.refl w.heap.size w) (Nat.le_refl _) ?_
               intro v1 w1 hown hbel)
  obtain ⟨w2, hrun, hown2, hbel2⟩ := run_copy 22 3 Try.underlying22 one_u64 hown (CutOf.all hown) (H.out.below hbel) (one_u64s _) hbel (Nat.le_refl _)
  rw [hrun, Result.andThen_ok]
  clear hrun
  go_wp2
  go_ret
  refine ⟨v1, rfl, OwnW.of hown2 ?_, hbel2⟩
  have hn := Hn.out
  rw [List.take_of_length_le (by simp; omega)]
  simp [splice, hn]

theorem Twin_any (v : Value) (l : List UInt64) (w : World) (h : Words w v l) (hl : l.length ≤ 1048576) : Calls Try.prog 10 #[v] w (RetW w l) := by
  have H := Lib.hid h; clear h
  go_enter Try.func10, Try.ntmps10
  go_wp2_with (at_builtin
               refine wpList_append (by rfl) rfl rfl rfl Try.underlying22 info_u64 rfl (by omega) (lit0_own (Nat.le_refl _)) (by exact H.out.alloc _) (one_u64s _) (by omega) (by omega) ((Below.refl _ w).alloc (Nat.le_refl _) _) (Nat.le_refl _) ?_
               intro v1 w1 hown hbel hv)
  go_ret
  exact ⟨v1, rfl, OwnW.of hown (by simp), hbel⟩

theorem Get_any (v : Value) (l : List UInt64) (at_ n : Int) (w : World) (h : Words w v l) : Calls Try.prog 26 #[v, .int .i64 at_, .int .i64 n] w (RetWE w (L02.get l at_ n) (rng l at_ n)) := by
  have l1 := Rd.len h Try.underlying22
  by_cases h0 : rng l at_ n = 0
  · have hs : SizeOk l.length := by
      by_cases hs : SizeOk l.length
      · exact hs
      · rw [rng_bad hs] at h0; omega
    have hr : InR l at_ n := by
      by_cases hr : InR l at_ n
      · exact hr
      · rw [rng_no hs hr] at h0; omega
    have l2 := hs.2.1
    obtain ⟨r1, r2, r3, r4⟩ := hr
    obtain ⟨v', hsl, hv'⟩ := h.cut Try.underlying22 one_u64 (lo := at_) (hi := at_ + n) r1 (by omega) (by omega)
    have H := Lib.hid h; have HV := Lib.hid hv'; have H0 := Lib.hid h0; clear h hv' h0 hs
    go_enter Try.func26, Try.ntmps26
    go_wp2_with fail
    refine (check_any _ l _ _ _ H.out).mono ?_
    rw [H0.out]
    rintro e w' ⟨rfl, rfl⟩
    go_wp2_with fail
    refine (clone_any _ _ _ HV.out (by simp; omega)).mono ?_
    rintro e w' ⟨v1, rfl, hown, hbel⟩
    go_wp2
    go_ret2
    refine ⟨v1, ret_ve H0.out.symm, ?_, hbel⟩
    rw [L02.get, if_pos H0.out]
    have e : (at_ + n).toNat - at_.toNat = n.toNat := by omega
    rw [e] at hown
    exact hown
  · have H := Lib.hid h; have H0 := Lib.hid h0; clear h
    have hne : (rng l at_ n != 0) = true := by simpa using h0
    clear h0
    go_enter Try.func26, Try.ntmps26
    go_wp2_with fail
    refine (check_any _ l _ _ _ H.out).mono ?_
    rintro e w' ⟨rfl, rfl⟩
    go_wp2
    go_ret2
    refine ⟨_, rfl, ?_, Below.refl _ _⟩
    rw [L02.get, if_neg H0.out]
    exact OwnW.nil _ _ _

end Go.Proofs.Ytcfohfphhpmmdaa
