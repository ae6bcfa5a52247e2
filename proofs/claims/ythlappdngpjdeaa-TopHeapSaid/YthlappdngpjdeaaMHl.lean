/- Contracts of the functions that the laws 'H' reach, part 12. No condition. -/
import Derived.Test.YthlappdngpjdeaaMHk
set_option linter.unusedVariables false
set_option linter.unusedSimpArgs false
namespace Go.Proofs.Ythlappdngpjdeaa
open Go.RowKit L02 L14 L15 L16 L19 L71
/-- the two words of a block are stored one behind the other, in a row of the call's own -/
def FBw (W0 : World) (bz : Nat) (v : Value) (l l1 l2 : List UInt64) (φ : Nat → Bool) (W : World) : Prop :=
  Below bz W0 W ∧ OwnW W bz 34 v (if φ 12 = true then l2 else if φ 10 = true then l1 else l) ∧ (φ 12 = true → φ 10 = true)
theorem FBw.dep {W0 : World} {bz : Nat} {v : Value} {l l1 l2 : List UInt64} : Dep (FBw W0 bz v l l1 l2) [10, 12] := by
  rintro φ ψ W h ⟨h1, h2, h3⟩
  have e1 := h 10 (by simp); have e2 := h 12 (by simp)
  rw [e1, e2] at h2; rw [e1, e2] at h3
  exact ⟨h1, h2, h3⟩
theorem FBw.below {W0 : World} {bz : Nat} {v : Value} {l l1 l2 : List UInt64} {φ : Nat → Bool} {W W' : World} (hz : bz ≤ W0.heap.size) (h : FBw W0 bz v l l1 l2 φ W) (hb : Below W.heap.size W W') : FBw W0 bz v l l1 l2 (fun i => i == 8 || φ i) W' := by
  obtain ⟨h1, h2, h3⟩ := h
  have hz2 : bz ≤ W.heap.size := Nat.le_trans hz h1.size
  refine ⟨h1.trans (hb.mono hz2), ?_, by simpa using h3⟩
  have := OwnW.below h2 hb
  simpa using this
theorem FXN.bw {W0 : World} {bz : Nat} {v : Value} {l l1 l2 : List UInt64} (x : FXN (FBw W0 bz v l l1 l2)) : Below bz W0 x.W := by obtain ⟨V, φ, hF⟩ := x; exact hF.1
theorem enter_of14 (x : Value) (W : World) : (callFunc 30 (#[] ++ #[x] ++ #[])).run Try.prog W = .ok (.enter 30 #[x]) W := by
  simp [go_sem]
theorem blk_eql18 (a b c d : Int) (m : Bool) (n : UInt64) (W : World) : (binOp .eql 38 (.agg #[.int .i64 a, .int .i64 b, .int .i64 c, .int .i64 d, .bool m, .int .u64 n.toNat]) (.agg #[.int .i64 a, .int .i64 b, .int .i64 c, .int .i64 d, .bool m, .int .u64 n.toNat])).run Try.prog W = .ok (.bool true) W := by
  simp [go_sem]
set_option maxRecDepth 100000 in
set_option maxHeartbeats 8000000 in
theorem becomes18_any (v : Value) (l : List UInt64) (a : Int) (hl9 : l.length ≤ 1048576) (hf : findErr l a = 0) (hk : (find l a).kind = 1) (w : World) (h : Words w v l) :
    Calls Try.prog 16 #[v, .int .i64 a] w fun e w' => e = .returned (.bool true) ∧ Below w.heap.size w w' := by
  have B : Below w.heap.size w w := Below.refl _ _
  have H := Lib.hid h
  obtain ⟨har, hbe, p, hp, hp128, hps, hp1, hfe, hfd⟩ := th_becomes hf hk
  obtain ⟨b, hb⟩ : ∃ b, b = around l a := ⟨_, rfl⟩
  rw [← hb] at hbe hp hps hfe hfd
  have hok : BkOk b := by
    by_cases h : BkOk b
    · exact h
    · rw [hErr_no h] at hbe; cases hbe
  obtain ⟨pa, S, K, T, m, n⟩ := b
  dsimp only at hp hps
  subst hp
  have AR := fun w h => Around_any v l a ⟨(p : Int), S, K, T, m, n⟩ 0 hb har.symm w h
  have HC := fun w => HCheckR_any ⟨(p : Int), S, K, T, m, n⟩ 0 hbe.symm w
  have OF := fun w => OfHR_any ⟨(p : Int), S, K, T, m, n⟩ hok _ rfl w
  obtain ⟨wd, hwd⟩ : ∃ x, x = word ⟨(p : Int), S, K, T, m, n⟩ := ⟨_, rfl⟩
  rw [← hwd] at OF hfe hfd
  obtain ⟨l1, hl1⟩ : ∃ x, x = l.set p wd := ⟨_, rfl⟩
  obtain ⟨l2, hl2⟩ : ∃ x, x = l1.set (p + 1) 0 := ⟨_, rfl⟩
  rw [← hl1, ← hl2] at hfe hfd
  have FI := fun v w h => Find_any v l2 (p : Int) ⟨(p : Int), S, K, T, m, n⟩ 0 hfd.symm hfe.symm w h
  dsimp only at AR HC OF FI
  have ln := Rd.len h Try.underlying22
  have TW := Lib.hid (fun w h => Twin_any v l w h hl9)
  have hsz2 : (2 : Int) ≤ S ∧ S ≤ 100000 := by have := hok.bounds; dsimp only at this; omega
  have d1 : decide ((p : Int) < 128) = false := decide_eq_false (by omega)
  have w1 : IntKind.i64.wrap ((p : Int) + S) = (p : Int) + S := IntWalk.i64_in _ (by omega)
  have d2 : decide ((l.length : Int) < (p : Int) + S) = false := decide_eq_false (by omega)
  have w2 : IntKind.i64.wrap ((p : Int) + 1) = (p : Int) + 1 := IntWalk.i64_in _ (by omega)
  have beq := fun W => blk_eql18 (p : Int) S K T m n W
  have HAR := Lib.hid AR; have HHC := Lib.hid HC; have HOF := Lib.hid OF; have HFI := Lib.hid FI
  have HL1 := Lib.hid hl1; have HL2 := Lib.hid hl2; have HP1 := Lib.hid hp1
  clear AR HC OF FI har hbe hfe hfd hb hok hwd hl1 hl2 hsz2 hps hp128 hf hk h hp1
  go_enter Try.func16, Try.ntmps16
  go_wp2_with fail
  refine (HAR.out _ (H.out.below B)).mono ?_
  rintro e wa1 ⟨rfl, b⟩
  replace B := B.trans (b.mono B.size); clear b
  go_upto_region 2 with (fail)
  refine wp_gen (fun Wv => Bx Wv (wa1.heap.size) (38) (#[.int .i64 p, .int .i64 S, .int .i64 K, .int .i64 T, .bool m, .int .u64 n.toNat]) ∧ Below wa1.heap.size wa1 Wv) ⟨((Bx.at_ (by simp))), ((Below.refl _ wa1).alloc (by simp <;> omega) _)⟩ ?_
  rintro wa2 ⟨g5, b⟩
  replace B := B.trans (b.mono B.size); clear b
  have c_g5 := g5.cell; have f_g5 := g5.free; have a_g5 := fun o => (g5.alloc o).cell; have d_g5 := fun o o2 => ((g5.alloc o).alloc o2).cell; have e_g5 := fun o => (g5.alloc o).free
  go_wp2_with fail
  refine (HHC.out _).mono ?_
  rintro e wa3 ⟨rfl, b⟩
  try clear c_g5 f_g5 a_g5 d_g5 e_g5
  replace g5 := g5.below b; have c_g5 := g5.cell; have f_g5 := g5.free; have a_g5 := fun o => (g5.alloc o).cell; have d_g5 := fun o o2 => ((g5.alloc o).alloc o2).cell; have e_g5 := fun o => (g5.alloc o).free; replace B := B.trans (b.mono B.size); clear b
  have hz4 := B.size
  have h5l := g5.lt
  have B5 : Below wa3.heap.size wa3 wa3 := Below.refl _ _
  go_wp2_with fail
  refine (TW.out _ (H.out.below B)).mono ?_
  rintro e wa4 ⟨yv, rfl, oy, b⟩
  try clear c_g5 f_g5 a_g5 d_g5 e_g5
  replace g5 := g5.below b; have c_g5 := g5.cell; have f_g5 := g5.free; have a_g5 := fun o => (g5.alloc o).cell; have d_g5 := fun o o2 => ((g5.alloc o).alloc o2).cell; have e_g5 := fun o => (g5.alloc o).free; replace B5 := B5.trans (b.mono B5.size); replace B := B.trans (b.mono B.size); clear b
  have hz := B5.size
  clear TW HHC HAR
  obtain ⟨ad0, ix0, _⟩ := OwnW.at_ oy (k := p) (by have := HP1.out; omega)
  obtain ⟨ad1, ix1, _⟩ := OwnW.at_ oy (k := p + 1) HP1.out
  have ix2 : ∀ W, (Instr.indexAt 22 yv (.int .i64 ((p : Int) + 1))).run Try.prog W = .ok (.pointer (some ad1)) W := fun W => by have := ix1 W; rwa [show ((p + 1 : Nat) : Int) = (p : Int) + 1 by omega] at this
  have hst : FBw wa4 wa3.heap.size yv l l1 l2 (fun _ => false) wa4.drew := ⟨(Below.refl _ _).drew, by have : OwnW wa4.drew wa3.heap.size 34 yv l := oy; simpa using this, by simp⟩
  have HST := Lib.hid hst
  have c5 := fun (x : FXN (FBw wa4 wa3.heap.size yv l l1 l2)) (i : Nat) => ((FXN.bw x).cell (p := ⟨wa1.heap.size, i, none⟩) h5l).trans (g5.cell i)
  have HB := Lib.hid (And.intro g5 B)
  clear hst c_g5 f_g5 a_g5 d_g5 e_g5 g5 B B5 oy
  go_upto_region 5 with (fail)
  haveI : Nonempty (FXN (FBw wa4 wa3.heap.size yv l l1 l2)) := ⟨⟨_, _, HST.out⟩⟩
  refine wp_region_N (FBw wa4 wa3.heap.size yv l l1 l2) [10, 12] FBw.dep (by kernel_rfl) (by kernel_rfl) (by kernel_rfl) HST.out ?_
  iterate 8 (refine wpN_read FBw.dep rfl (by decide) ?_; go_big_quiet_step (fail); refine wpQuiet_nil ?_)
  refine wpN_call FBw.dep rfl #[.agg #[.int .i64 (p : Int), .int .i64 S, .int .i64 K, .int .i64 T, .bool m, .int .u64 n.toNat]] (.int .u64 wd.toNat) (by rfl) (by simp [Act.eval]) (fun W => enter_of14 _ W) [] rfl (fun f' W hF h0 h1 => ?_) ?_
  · refine (HOF.out W).mono ?_
    rintro e W' ⟨rfl, bb⟩
    exact ⟨rfl, FBw.below hz hF bb⟩
  simp only [Act.put, List.setIfInBounds_toArray, List.set_cons_zero, List.set_cons_succ]
  iterate 1 (refine wpN_read FBw.dep rfl (by decide) ?_; go_big_quiet_step (fail); refine wpQuiet_nil ?_)
  refine wpN_storeD FBw.dep rfl 34 (.tmp 49) (.tmp 48) rfl (by rfl) (p := .pointer (some ad0)) (u := .int .u64 wd.toNat) (by rfl) (by rfl) [] rfl (fun f W hF h0 h1 => ?_) ?_
  · have h12 : f 12 = false := by
      cases e : f 12
      · rfl
      · rw [hF.2.2 e] at h0; cases h0
    have o := hF.2.1
    rw [h12, h0] at o
    obtain ⟨ad, jx, c, z, hb, _, hs⟩ := OwnW.at_ (l := l) o (k := p) (by have := HP1.out; omega)
    obtain rfl : ad = ad0 := by have e := (jx W).symm.trans (ix0 W); injection e with e; injection e with e; injection e
    refine ⟨_, store_int (by kernel_rfl) _ _ _ _ _ c z, hF.1.setCell hb _, ?_, fun _ => by simp⟩
    have := hs wd
    rw [← HL1.out] at this
    simpa [h12] using this
  simp only [Act.put, List.setIfInBounds_toArray, List.set_cons_zero, List.set_cons_succ]
  iterate 1 (refine wpN_read FBw.dep rfl (by decide) ?_; go_big_quiet_step (fail); refine wpQuiet_nil ?_)
  refine wpN_storeD FBw.dep rfl 34 (.tmp 50) (.const (.int .u64 0)) rfl (by rfl) (p := .pointer (some ad1)) (u := .int .u64 0) (by rfl) (by rfl) [10] (by kernel_rfl) (fun f W hF h0 h1 => ?_) ?_
  · have h10 := h1 10 (by simp)
    have o := hF.2.1
    rw [h0, h10] at o
    have hlen : p + 1 < l1.length := by rw [HL1.out, List.length_set]; exact HP1.out
    obtain ⟨ad, jx, c, z, hb, _, hs⟩ := OwnW.at_ (l := l1) o (k := p + 1) hlen
    obtain rfl : ad = ad1 := by have e := (jx W).symm.trans (ix1 W); injection e with e; injection e with e; injection e
    refine ⟨_, store_int (by kernel_rfl) _ _ _ _ _ c z, hF.1.setCell hb _, ?_, fun _ => by simp [h10]⟩
    have := hs 0
    rw [← HL2.out] at this
    simpa using this
  simp only [Act.put, List.setIfInBounds_toArray, List.set_cons_zero, List.set_cons_succ]
  show ∀ w', _ → _
  intro V hV
  obtain ⟨b0, oy, _⟩ := hV
  obtain ⟨g5, B⟩ := HB.out
  have oy2 : OwnW V wa3.heap.size 34 yv l2 := by simpa using oy
  have g5v : Bx V wa1.heap.size 38 #[.int .i64 p, .int .i64 S, .int .i64 K, .int .i64 T, .bool m, .int .u64 n.toNat] := by
    unfold Bx; rw [b0.block _ h5l]; exact g5
  replace B := B.trans (b0.mono hz4)
  clear oy g5 HST HB c5 this b0 ix0 ix1 ix2 hz
  have g5 := g5v
  have c_g5 := g5.cell; have f_g5 := g5.free; have a_g5 := fun o => (g5.alloc o).cell; have d_g5 := fun o o2 => ((g5.alloc o).alloc o2).cell; have e_g5 := fun o => (g5.alloc o).free
  clear g5v
  go_wp2_with fail
  refine (HFI.out _ _ oy2.rd).mono ?_
  rintro e wa5 ⟨rfl, b⟩
  try clear c_g5 f_g5 a_g5 d_g5 e_g5
  replace g5 := g5.below b; have c_g5 := g5.cell; have f_g5 := g5.free; have a_g5 := fun o => (g5.alloc o).cell; have d_g5 := fun o o2 => ((g5.alloc o).alloc o2).cell; have e_g5 := fun o => (g5.alloc o).free; replace B := B.trans (b.mono B.size); clear b
  go_upto_region 7 with (fail)
  refine wp_gen (fun Wv => Bx Wv (wa5.heap.size) (38) (#[.int .i64 p, .int .i64 S, .int .i64 K, .int .i64 T, .bool m, .int .u64 n.toNat]) ∧ Below wa5.heap.size wa5 Wv) ⟨((Bx.at_ (by simp))), ((Below.refl _ wa5).alloc (by simp <;> omega) _)⟩ ?_
  rintro wa6 ⟨g8, b⟩
  try clear c_g5 f_g5 a_g5 d_g5 e_g5
  replace g5 := g5.below b; have c_g5 := g5.cell; have f_g5 := g5.free; have a_g5 := fun o => (g5.alloc o).cell; have d_g5 := fun o o2 => ((g5.alloc o).alloc o2).cell; have e_g5 := fun o => (g5.alloc o).free; replace B := B.trans (b.mono B.size); clear b
  have c_g8 := g8.cell; have f_g8 := g8.free; have a_g8 := fun o => (g8.alloc o).cell; have d_g8 := fun o o2 => ((g8.alloc o).alloc o2).cell; have e_g8 := fun o => (g8.alloc o).free
  go_wp2
  go_ret
  exact ⟨rfl, B⟩
end Go.Proofs.Ythlappdngpjdeaa
namespace Go.Proofs.Ythlappdngpjdeaa
open Go.RowKit L02 L14 L15 L16 L19 L71
set_option maxRecDepth 100000 in
set_option maxHeartbeats 8000000 in
theorem handled18_any (v : Value) (l : List UInt64) (a : Int) (hs : SizeOk l.length) (hf : findErr l a = 0) (hk : (find l a).kind = 1) (w : World) (h : Words w v l) :
    Calls Try.prog 17 #[v, .int .i64 a] w fun e w' => e = .returned (.bool true) ∧ Below w.heap.size w w' := by
  have B : Below w.heap.size w w := Below.refl _ _
  have H := Lib.hid h
  have hl2 : l.length ≤ 2048 := by have := hs.2.1; omega
  have hl1 : 256 ≤ l.length := by have := hs.1; omega
  have hth := th_handled hs hf
  obtain ⟨sl, hsl⟩ : ∃ x, x = L18.newSlot l a := ⟨_, rfl⟩
  obtain ⟨gn, hgn⟩ : ∃ x, x = L18.newGen l a := ⟨_, rfl⟩
  obtain ⟨ea, hea⟩ : ∃ x, x = L18.newAt l a := ⟨_, rfl⟩
  obtain ⟨ev, hev⟩ : ∃ x, x = L18.newVal l a := ⟨_, rfl⟩
  obtain ⟨r, hr⟩ : ∃ x, x = L18.newErr l a := ⟨_, rfl⟩
  have NW := Lib.hid (fun w h => New18_any v l a sl gn ea ev r hsl hgn hea hev hr w h)
  rw [← hsl, ← hgn, ← hea, ← hev, ← hr] at hth
  clear hsl hgn hea hev hr
  have fin : r = 23 ∨ r = 50 → Calls Try.prog 17 #[v, .int .i64 a] w fun e w' => e = .returned (.bool true) ∧ Below w.heap.size w w' := by
    intro hr
    clear hth hs hf hk h
    rcases hr with rfl | rfl
    all_goals
      go_enter Try.func17, Try.ntmps17
      go_wp2_with fail
      refine (NW.out _ (H.out.below B)).mono ?_
      rintro e wa1 ⟨rfl, b⟩
      replace B := B.trans (b.mono B.size); clear b
      go_upto_region 2 with (fail)
      refine wp_gen (fun Wv => Bx Wv (wa1.heap.size) (68) (#[.int .i64 sl, .int .i64 gn]) ∧ Bx Wv (wa1.heap.size + 1) (70) (#[.int .i64 ea, .int .u64 ev.toNat]) ∧ Below wa1.heap.size wa1 Wv) ⟨(((Bx.at_ (by simp)).alloc _)), ((Bx.at_ (by simp))), (((Below.refl _ wa1).alloc (by simp <;> omega) _).alloc (by simp <;> omega) _)⟩ ?_
      rintro wa2 ⟨g5, g6, b⟩
      replace B := B.trans (b.mono B.size); clear b
      have c_g5 := g5.cell; have f_g5 := g5.free; have a_g5 := fun o => (g5.alloc o).cell; have d_g5 := fun o o2 => ((g5.alloc o).alloc o2).cell; have e_g5 := fun o => (g5.alloc o).free
      have c_g6 := g6.cell; have f_g6 := g6.free; have a_g6 := fun o => (g6.alloc o).cell; have d_g6 := fun o o2 => ((g6.alloc o).alloc o2).cell; have e_g6 := fun o => (g6.alloc o).free
      go_wp2
      go_ret
      exact ⟨rfl, B⟩
  rcases hth with e | e | ⟨e, k, hk16, he, h1, h2, h3, h4⟩
  · exact fin (.inl e)
  · exact fin (.inr e)
  · clear fin
    subst e; subst he
    obtain ⟨l', hl'⟩ : ∃ x, x = l.set (112 + k) ev := ⟨_, rfl⟩
    rw [← hl'] at h1 h2 h3 h4
    obtain ⟨b, hb⟩ : ∃ x, x = find l a := ⟨_, rfl⟩
    rw [← hb] at h4 hk
    have RS := Lib.hid (fun v w h => Resolve_any v l' sl gn a 0 h2.symm h1.symm w h)
    have FI := Lib.hid (fun v w h => Find_any v l' a b 0 h4.symm h3.symm w h)
    have TW := Lib.hid (fun w h => Twin_any v l w h (by omega))
    have d1 : decide ((112 : Int) + (k : Int) < 112) = false := decide_eq_false (by omega)
    have d2 : decide ((128 : Int) ≤ (112 : Int) + (k : Int)) = false := decide_eq_false (by omega)
    have d3 : (b.kind == 1) = true := by rw [beq_iff_eq]; exact hk
    have HL := Lib.hid hl'; have HLN := Lib.hid hl1
    clear hl' h1 h2 h3 h4 hb hk hs hf h hl2 hl1
    go_enter Try.func17, Try.ntmps17
    go_wp2_with fail
    refine (NW.out _ (H.out.below B)).mono ?_
    rintro e wa1 ⟨rfl, b⟩
    replace B := B.trans (b.mono B.size); clear b
    go_upto_region 2 with (fail)
    refine wp_gen (fun Wv => Bx Wv (wa1.heap.size) (68) (#[.int .i64 sl, .int .i64 gn]) ∧ Bx Wv (wa1.heap.size + 1) (70) (#[.int .i64 (112 + (k : Int)), .int .u64 ev.toNat]) ∧ Below wa1.heap.size wa1 Wv) ⟨(((Bx.at_ (by simp)).alloc _)), ((Bx.at_ (by simp))), (((Below.refl _ wa1).alloc (by simp <;> omega) _).alloc (by simp <;> omega) _)⟩ ?_
    rintro wa2 ⟨g5, g6, b⟩
    replace B := B.trans (b.mono B.size); clear b
    have c_g5 := g5.cell; have f_g5 := g5.free; have a_g5 := fun o => (g5.alloc o).cell; have d_g5 := fun o o2 => ((g5.alloc o).alloc o2).cell; have e_g5 := fun o => (g5.alloc o).free
    have c_g6 := g6.cell; have f_g6 := g6.free; have a_g6 := fun o => (g6.alloc o).cell; have d_g6 := fun o o2 => ((g6.alloc o).alloc o2).cell; have e_g6 := fun o => (g6.alloc o).free
    have hz2 := B.size
    have h5l := g5.lt
    go_wp2_with fail
    refine (TW.out _ (H.out.below B)).mono ?_
    rintro e wa3 ⟨yv, rfl, oy, b⟩
    try clear c_g5 f_g5 a_g5 d_g5 e_g5
    replace g5 := g5.below b; have c_g5 := g5.cell; have f_g5 := g5.free; have a_g5 := fun o => (g5.alloc o).cell; have d_g5 := fun o o2 => ((g5.alloc o).alloc o2).cell; have e_g5 := fun o => (g5.alloc o).free; try clear c_g6 f_g6 a_g6 d_g6 e_g6
    replace g6 := g6.below b; have c_g6 := g6.cell; have f_g6 := g6.free; have a_g6 := fun o => (g6.alloc o).cell; have d_g6 := fun o o2 => ((g6.alloc o).alloc o2).cell; have e_g6 := fun o => (g6.alloc o).free; replace B := B.trans (b.mono B.size); clear b
    obtain ⟨ad, ix, mc, mz, hab, _, hst⟩ := OwnW.at_ oy (k := 112 + k) (by have := HLN.out; omega)
    have ix2 : ∀ W, (Instr.indexAt 22 yv (.int .i64 (112 + (k : Int)))).run Try.prog W = .ok (.pointer (some ad)) W := fun W => by have := ix W; rwa [show ((112 + k : Nat) : Int) = 112 + (k : Int) by omega] at this
    have hst2 := hst ev
    rw [← HL.out] at hst2
    clear ix NW TW
    go_upto_region 8 with (fail)
    refine wp_gen (fun Wv => OwnW Wv wa2.heap.size 34 yv l' ∧ Bx Wv wa1.heap.size 68 #[.int .i64 sl, .int .i64 gn] ∧ Below w.heap.size w Wv) ⟨hst2, g5.far (p := ad) (by omega) _, B.setCell (by omega) _⟩ ?_
    clear oy hst hst2 ix2 mc mz hab g5 g6 B c_g5 f_g5 a_g5 d_g5 e_g5 c_g6 f_g6 a_g6 d_g6 e_g6
    rintro W8 ⟨oy2, g5, B⟩
    have c_g5 := g5.cell; have f_g5 := g5.free; have a_g5 := fun o => (g5.alloc o).cell; have d_g5 := fun o o2 => ((g5.alloc o).alloc o2).cell; have e_g5 := fun o => (g5.alloc o).free
    go_wp2_with fail
    refine (RS.out _ _ oy2.rd).mono ?_
    rintro e wa4 ⟨rfl, b⟩
    try clear c_g5 f_g5 a_g5 d_g5 e_g5
    replace g5 := g5.below b; have c_g5 := g5.cell; have f_g5 := g5.free; have a_g5 := fun o => (g5.alloc o).cell; have d_g5 := fun o o2 => ((g5.alloc o).alloc o2).cell; have e_g5 := fun o => (g5.alloc o).free; replace oy2 := oy2.below b; replace B := B.trans (b.mono B.size); clear b
    go_wp2_with fail
    refine (FI.out _ _ oy2.rd).mono ?_
    rintro e wa5 ⟨rfl, b⟩
    try clear c_g5 f_g5 a_g5 d_g5 e_g5
    replace g5 := g5.below b; have c_g5 := g5.cell; have f_g5 := g5.free; have a_g5 := fun o => (g5.alloc o).cell; have d_g5 := fun o o2 => ((g5.alloc o).alloc o2).cell; have e_g5 := fun o => (g5.alloc o).free; replace oy2 := oy2.below b; replace B := B.trans (b.mono B.size); clear b
    go_upto_region 10 with (fail)
    refine wp_gen (fun Wv => Bx Wv (wa5.heap.size) (38) (#[.int .i64 b.at_, .int .i64 b.size, .int .i64 b.kind, .int .i64 b.ty, .bool b.mark, .int .u64 b.next.toNat]) ∧ Below wa5.heap.size wa5 Wv) ⟨((Bx.at_ (by simp))), ((Below.refl _ wa5).alloc (by simp <;> omega) _)⟩ ?_
    rintro wa6 ⟨g11, b⟩
    try clear c_g5 f_g5 a_g5 d_g5 e_g5
    replace g5 := g5.below b; have c_g5 := g5.cell; have f_g5 := g5.free; have a_g5 := fun o => (g5.alloc o).cell; have d_g5 := fun o o2 => ((g5.alloc o).alloc o2).cell; have e_g5 := fun o => (g5.alloc o).free; replace oy2 := oy2.below b; replace B := B.trans (b.mono B.size); clear b
    have c_g11 := g11.cell; have f_g11 := g11.free; have a_g11 := fun o => (g11.alloc o).cell; have d_g11 := fun o o2 => ((g11.alloc o).alloc o2).cell; have e_g11 := fun o => (g11.alloc o).free
    go_wp2
    go_ret
    exact ⟨rfl, B⟩
end Go.Proofs.Ythlappdngpjdeaa
namespace Go.Proofs.Ythlappdngpjdeaa.L19
open L02 L05 L06 L07 L13 L14 L15 L18
end Go.Proofs.Ythlappdngpjdeaa.L19
namespace Go.Proofs.Ythlappdngpjdeaa
open Go.RowKit L02 L14 L15 L16 L19 L71
def al18 : List Hb := [⟨0, 4, 1, 0, false, 0⟩, ⟨0, 124, 2, 0, false, 0⟩]
theorem al18_ok : ∀ b ∈ al18, BkOk b := by decide
theorem al18_err : allErr (L19.laid 256 al18) = 0 := by decide +kernel
theorem al18_len : (allL (L19.laid 256 al18)).length = 2 := by decide +kernel
theorem al18_free : freeL (L19.laid 256 al18) = [⟨132, 124, 2, 0, false, 0⟩] := by decide +kernel
theorem al18_list : listB [⟨132, 124, 2, 0, false, 0⟩] 6 = [132] := by decide +kernel
theorem lit_blk2 {w : World} {cs : Array Value} {n c : Nat} (L : List Hb) (hn : w.heap.size = n) (hc : cs.toList = tabB L) (hl : c = L.length) (hm : L.length ≤ 1000) : Blks (w.alloc (.cells cs 38)) (.slice (some ⟨n, 0, none⟩) c c) L := by
  subst hn; subst hl
  unfold Blks
  rw [← hc]
  exact lit_rdK (by rw [← Array.length_toList, hc, tabB_len]) (by omega)
set_option maxRecDepth 100000 in
set_option maxHeartbeats 8000000 in
theorem alive18_any (w : World) : Calls Try.prog 4 #[] w fun e w' => e = .returned (.bool true) ∧ Below w.heap.size w w' := by
  have B : Below w.heap.size w w := Below.refl _ _
  have LT := Lib.hid (fun v w h => LaidR_any 256 v al18 al18_ok (by decide) (by omega) w h)
  obtain ⟨l0, hl0⟩ : ∃ l, l = L19.laid 256 al18 := ⟨_, rfl⟩
  rw [← hl0] at LT
  have e1 := al18_err; have e2 := al18_len; have e3 := al18_free
  rw [← hl0] at e1 e2 e3
  have WA := Lib.hid (fun v w h => AllW_any v l0 (allL l0) 0 rfl e1.symm w h)
  have LS := Lib.hid (fun v w h => Lists_any v l0 [⟨132, 124, 2, 0, false, 0⟩] e3.symm e1 w h)
  have HL := Lib.hid e2
  clear e1 e2 e3 hl0
  go_enter Try.func4, Try.ntmps4
  go_wp2_with fail
  refine (LT.out _ _ (lit_blk2 al18 rfl rfl rfl (by decide))).mono ?_
  rintro e w2 ⟨x, rfl, ox, b⟩
  have hal := B.alloc B.size (.cells #[.int .i64 0, .int .i64 4, .int .i64 1, .int .i64 0, .bool false, .int .u64 0, .int .i64 0, .int .i64 124, .int .i64 2, .int .i64 0, .bool false, .int .u64 0] 38)
  replace B := hal.trans (b.mono hal.size)
  clear b hal
  have hx := ox.rd
  clear ox
  go_wp2_with fail
  refine (WA.out _ _ hx).mono ?_
  rintro e wa1 ⟨xl, rfl, ol, b⟩
  replace hx := hx.below b; replace B := B.trans (b.mono B.size); clear b
  have lk := ol.rd.len
  rw [HL.out] at lk
  clear ol
  go_wp2_with fail
  refine (LS.out _ _ hx).mono ?_
  rintro e wa2 ⟨kv, rfl, oll, b⟩
  replace hx := hx.below b; replace B := B.trans (b.mono B.size); clear b
  have ll := oll.len
  rw [listsB_len] at ll
  obtain ⟨gs, x6, l6, _, ix, hcx, _, _, _, hl6, hx6, _⟩ := oll.at_ (k := 6) (by rw [listsB_len]; omega)
  obtain rfl : l6 = [132] := by have := hl6.out; rw [listsB_at _ (by omega), al18_list] at this; injection this with e; exact e.symm
  have l6 := Rd.len hx6.rd Try.underlying51
  obtain ⟨xa, y, iy, my, hy⟩ := (hx6.rd).at_ (P := Try.prog) Try.underlying51 one_int (k := 0) (by decide)
  obtain rfl : y = 132 := by have h := hy.out; injection h with h; exact h.symm
  replace ix : ∀ W, (Instr.indexAt 30 kv (.int .i64 6)).run Try.prog W = .ok (.pointer (some ⟨gs, 6, none⟩)) W := ix
  replace iy : ∀ W, (Instr.indexAt 51 x6 (.int .i64 0)).run Try.prog W = .ok (.pointer (some xa)) W := iy
  clear hl6 hx6 hy oll hx WA LS LT
  go_wp2
  go_ret
  exact ⟨rfl, B⟩
end Go.Proofs.Ythlappdngpjdeaa
