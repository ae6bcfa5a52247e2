/- Contracts of the functions that the laws 'A' reach, part 23. No condition. -/
import Derived.Test.YtmbokdnndlnjkaaMAv
set_option linter.unusedVariables false
set_option linter.unusedSimpArgs false
namespace Go.Proofs.Ytmbokdnndlnjkaa
open Go.RowKit L01 L02 L05 L06 L07 L13 L14 L15 L18 L19
/-- the slots of the example, as far as they are written -/
def setsE (l : List UInt64) : Nat → List UInt64
  | 0 => l
  | j + 1 => (setsE l j).set (112 + j) (pk ⟨1, true, 128 + 4 * (j : Int)⟩)
theorem setsE_len (l : List UInt64) : ∀ j, (setsE l j).length = l.length
  | 0 => rfl
  | j + 1 => by rw [setsE, List.length_set, setsE_len l j]
set_option maxRecDepth 100000 in
set_option maxHeartbeats 4000000 in
theorem example23_any (w : World) : Calls Try.prog 69 #[] w fun e w' => ∃ x, e = .returned x ∧ OwnW w' w.heap.size 24 x ex23 ∧ Below w.heap.size w w' := by
  have B : Below w.heap.size w w := Below.refl _ _
  obtain ⟨L, hL⟩ : ∃ L, L = [objB 0 4 false, objB 0 4 false, objB 0 4 false, freeB 116] := ⟨_, rfl⟩
  obtain ⟨l0, hl0⟩ : ∃ l0, l0 = laid 256 L := ⟨_, rfl⟩
  obtain ⟨ws, hws⟩ : ∃ ws, ws = wordsOf 256 1 := ⟨_, rfl⟩
  obtain ⟨a, ha⟩ : ∃ a, a = w0 [3] := ⟨_, rfl⟩
  obtain ⟨b, hb⟩ : ∃ b, b = w1 [3] := ⟨_, rfl⟩
  have hbk : ∀ b ∈ L, BkOk b := by rw [hL]; decide
  have hl0l : l0.length = 256 := by rw [hl0]; exact laid_len _ _
  have hwsl : ws.length = 8 := by rw [hws]; exact wO_len _ _
  have LT := Lib.hid (fun v w h => LaidR_any 256 v L hbk (by rw [hL]; decide) (by omega) w h)
  have WT := Lib.hid (fun w => Written_any 256 1 w (by decide))
  have KT := Lib.hid (fun v w h => KWriteR_any v [3] a b 0 ha hb (by decide) w h)
  have OT := Lib.hid (fun (j : Nat) (hj : j < 3) w => OfR_any ⟨1, true, 128 + 4 * (j : Int)⟩ _ rfl ⟨by show (0 : Int) ≤ 1; decide, by show (1 : Int) ≤ 2147483647; decide, fun e => (by cases e), fun _ => ⟨by show (0 : Int) < 1; decide, by show (128 : Int) ≤ 128 + 4 * (j : Int); omega, by show 128 + 4 * (j : Int) < (2048 : Int); omega⟩⟩ w)
  rw [← hl0] at LT; rw [← hws] at WT
  have HX := Lib.hid (show ex23 = (((putW (putW (putW l0 0 ws) 8 ws) 96 [a, b]).set 112 (pk ⟨1, true, 128⟩)).set 113 (pk ⟨1, true, 132⟩)).set 114 (pk ⟨1, true, 136⟩) from by rw [ex23, base22, hl0, hL, hws, ha, hb])
  have HL := Lib.hid hL; have HL0 := Lib.hid hl0l; have HWS := Lib.hid hwsl
  clear hL hl0 hws ha hb hbk hl0l hwsl
  go_enter Try.func69, Try.ntmps69
  go_upto_region 2 with (fail)
  refine wp_gen (fun Wv => Bx Wv (w.heap.size) (54) (#[.int .i64 0, .int .i64 4, .int .i64 1, .int .i64 0, .bool false, .int .u64 0]) ∧ Below w.heap.size w Wv) ⟨((Bx.at_ (by simp))), ((Below.refl _ w).alloc (by simp <;> omega) _)⟩ ?_
  rintro wa1 ⟨g1, b⟩
  replace B := B.trans (b.mono B.size); clear b
  have c_g1 := g1.cell; have f_g1 := g1.free; have a_g1 := fun o => (g1.alloc o).cell; have d_g1 := fun o o2 => ((g1.alloc o).alloc o2).cell; have e_g1 := fun o => (g1.alloc o).free
  go_wp2_with fail
  refine (LT.out _ _ (lit_blocks L rfl (by rw [HL.out]; rfl) (by rw [HL.out]; rfl) (by rw [HL.out]; decide))).mono ?_
  rintro e w2 ⟨x, rfl, ox, b⟩
  have hal := B.alloc B.size (.cells #[.int .i64 0, .int .i64 4, .int .i64 1, .int .i64 0, .bool false, .int .u64 0, .int .i64 0, .int .i64 4, .int .i64 1, .int .i64 0, .bool false, .int .u64 0, .int .i64 0, .int .i64 4, .int .i64 1, .int .i64 0, .bool false, .int .u64 0, .int .i64 0, .int .i64 116, .int .i64 2, .int .i64 0, .bool false, .int .u64 0] 54)
  replace B := hal.trans (b.mono hal.size)
  replace ox : OwnW w2 w.heap.size 24 x l0 := own_mono ox hal.size
  clear b hal g1 c_g1 f_g1 a_g1 d_g1 e_g1
  have hb1 := B.size
  go_wp2_with fail
  refine (WT.out _).mono ?_
  rintro e w3 ⟨s, rfl, os, b⟩
  have hne := (own_ne ox os (Nat.le_refl _)).1
  replace ox := ox.below b
  replace B := B.trans (b.mono B.size)
  have hb2 := B.size
  clear b
  have HO := Lib.hid (And.intro ox (And.intro os (And.intro hne B)))
  clear ox os hne B
  go_wp2_with fail
  refine (KT.out _ _ (lit_byts [3] rfl rfl rfl (by simp))).mono ?_
  rintro e w4 ⟨rfl, b⟩
  have hal : Below w3.heap.size w3 (w3.alloc (.cells #[.int .u8 3] 5)) := (Below.refl _ _).alloc (Nat.le_refl _) _
  have hb34 := hal.trans (b.mono hal.size)
  obtain ⟨ox, os, hne, B⟩ := HO.out
  replace ox := ox.below hb34
  replace os := os.below hb34
  replace B := B.trans (hb34.mono B.size)
  clear hal hb34 b
  go_upto_region 5 with (fail)
  refine wp_gen (fun Wv => Bx Wv (w4.heap.size) (25) (#[.int .u64 a.toNat, .int .u64 b.toNat]) ∧ Below w4.heap.size w4 Wv) ⟨((Bx.at_ (by simp))), ((Below.refl _ w4).alloc (by simp <;> omega) _)⟩ ?_
  rintro wa2 ⟨g4, b⟩
  replace ox := ox.below b; replace os := os.below b; replace B := B.trans (b.mono B.size); clear b
  have c_g4 := g4.cell; have f_g4 := g4.free; have a_g4 := fun o => (g4.alloc o).cell; have d_g4 := fun o o2 => ((g4.alloc o).alloc o2).cell; have e_g4 := fun o => (g4.alloc o).free
  obtain ⟨d1, sl1, cut1⟩ := own_cut2 (P := Try.prog) ox Try.underlying22 one_u64 (lo := 0) (hi := 8) (by omega) (by rw [HL0.out]; omega)
  have sl1' : ∀ W, (Instr.sliceAt 22 x (some (.int .i64 0)) (some (.int .i64 8)) none).run Try.prog W = .ok d1 W := sl1
  clear sl1
  go_wp2_with fail
  obtain ⟨w6, x6, hrun, o6, B6, g6⟩ := copyW (l := l0) (m := ws) (a := 0) ox cut1 os.rd (by rw [HWS.out]) (by rw [HL0.out]; omega) B (Nat.le_refl _)
  rw [hrun, Result.andThen_ok]
  have g4' := g4.grown g6 (own_not_bx ox g4 (by decide))
  have os' := os.kept g6 hne
  clear hrun cut1 sl1' ox os g4 c_g4 f_g4 a_g4 d_g4 e_g4 B g6
  have hlen1 : (putW l0 0 ws).length = 256 := by rw [putW_len, HL0.out]
  obtain ⟨d2, sl2, cut2⟩ := own_cut2 (P := Try.prog) o6 Try.underlying22 one_u64 (lo := 8) (hi := 16) (by omega) (by rw [hlen1]; omega)
  have sl2' : ∀ W, (Instr.sliceAt 22 x (some (.int .i64 8)) (some (.int .i64 16)) none).run Try.prog W = .ok d2 W := sl2
  clear sl2
  go_wp2_with fail
  obtain ⟨w7, x7, hrun, o7, B7, g7⟩ := copyW (l := putW l0 0 ws) (m := ws) (a := 8) o6 cut2 os'.rd (by rw [HWS.out]) (by rw [hlen1]; omega) B6 (Nat.le_refl _)
  rw [hrun, Result.andThen_ok]
  have g5' := g4'.grown g7 (own_not_bx o6 g4' (by decide))
  clear hrun cut2 sl2' o6 os' g4' B6 g7
  have hlen2 : (putW (putW l0 0 ws) 8 ws).length = 256 := by rw [putW_len, hlen1]
  obtain ⟨d3, sl3, cut3⟩ := own_cut2 (P := Try.prog) o7 Try.underlying22 one_u64 (lo := 96) (hi := 98) (by omega) (by rw [hlen2]; omega)
  have sl3' : ∀ W, (Instr.sliceAt 22 x (some (.int .i64 96)) (some (.int .i64 98)) none).run Try.prog W = .ok d3 W := sl3
  clear sl3
  go_upto_region 7 with (fail)
  refine wp_region_qtail 3 (by kernel_rfl) (by kernel_rfl) ?_
  simp only [List.take_succ_cons, List.take_zero, List.drop_succ_cons, List.drop_zero]
  iterate 3 (go_big_quiet_step (fail))
  refine wpQuiet_nil ?_
  go_wp2_with fail
  have o7d : OwnW w7.drew w.heap.size 24 x (putW (putW l0 0 ws) 8 ws) := o7
  have g5d : Bx w7.drew w4.heap.size 25 #[.int .u64 a.toNat, .int .u64 b.toNat] := g5'
  obtain ⟨w8, x8, hrun, o8, B8, g8⟩ := copyW (l := putW (putW l0 0 ws) 8 ws) (m := [a, b]) (a := 96) o7d cut3 (arr_words g5d) rfl (by rw [hlen2]; omega) B7.drew (Nat.le_refl _)
  rw [hrun, Result.andThen_ok]
  clear hrun cut3 sl3' o7 o7d g5d g5' B7 g8
  have hlen3 : (putW (putW (putW l0 0 ws) 8 ws) 96 [a, b]).length = 256 := by rw [putW_len, hlen2]
  obtain ⟨l3, hl3⟩ : ∃ l3, l3 = putW (putW (putW l0 0 ws) 8 ws) 96 [a, b] := ⟨_, rfl⟩
  rw [← hl3] at hlen3 o8
  have HX2 := Lib.hid (show ex23 = ((l3.set 112 (pk ⟨1, true, 128⟩)).set 113 (pk ⟨1, true, 132⟩)).set 114 (pk ⟨1, true, 136⟩) from by rw [HX.out, hl3])
  have HL3 := Lib.hid hlen3
  have HS := Lib.hid (And.intro o8 B8)
  clear HX hl3 hlen3 hlen2 hlen1 o8 B8
  go_wp2
  go_loopg [6] 3 (fun g i wr => ∃ j : Nat, j ≤ 3 ∧ g = 3 - j ∧ i = .int .i64 j ∧ Hid (OwnW wr w.heap.size 24 x (setsE l3 j) ∧ Below w.heap.size w wr))
  case atStart => exact ⟨0, by omega, by omega, rfl, HS⟩
  case round =>
    clear HS
    obtain ⟨j, hj, rfl, rfl, hh⟩ := hrel
    obtain ⟨o8, B8⟩ := hh.out
    clear hh
    by_cases hlt : j < 3
    · have hb8 := B8.size
      have hw1 : IntKind.i64.wrap (112 + (j : Int)) = 112 + (j : Int) := IntWalk.i64_in _ (by omega)
      have hw2 : IntKind.i64.wrap (4 * (j : Int)) = 4 * (j : Int) := IntWalk.i64_in _ (by omega)
      have hw3 : IntKind.i64.wrap (128 + 4 * (j : Int)) = 128 + 4 * (j : Int) := IntWalk.i64_in _ (by omega)
      go_wp2_with fail
      refine (OT.out j hlt _).mono ?_
      rintro e w9 ⟨rfl, b9⟩
      obtain ⟨ad, u0, ia, ca, fa, hb, -, hset⟩ := own_at (P := Try.prog) (o8.below b9) Try.underlying22 one_u64 (k := 112 + (j : Int)) (by omega) (by rw [setsE_len, HL3.out]; omega)
      have HR := Lib.hid (show OwnW (w9.setCell ad (.int .u64 (pk ⟨1, true, 128 + 4 * (j : Int)⟩).toNat)) w.heap.size 24 x (setsE l3 (j + 1)) ∧ Below w.heap.size w (w9.setCell ad (.int .u64 (pk ⟨1, true, 128 + 4 * (j : Int)⟩).toNat)) from ⟨by rw [setsE, show 112 + j = (112 + (j : Int)).toNat by omega]; exact OwnW.set (hset (.int .u64 (pk ⟨1, true, 128 + 4 * (j : Int)⟩).toNat)), (B8.trans (b9.mono hb8)).setCell (p := ad) hb _⟩)
      clear hset hb o8 B8 b9
      go_wp2
      go_roundg (3 - (j + 1))
      case measure => omega
      case rel => exact ⟨j + 1, by omega, rfl, by go_num, HR⟩
    · obtain rfl : j = 3 := by omega
      have HR := Lib.hid (show OwnW wr w.heap.size 24 x ex23 ∧ Below w.heap.size w wr from ⟨by rw [HX2.out]; exact o8, B8⟩)
      clear o8 B8
      go_wp2
      go_ret
      exact ⟨_, rfl, HR.out⟩
theorem slot23_any (n : Int) (w : World) : Calls Try.prog 70 #[.int .i64 n] w fun e w' => e = .returned (.agg #[.int .i64 n, .int .i64 1]) ∧ Below w.heap.size w w' := by
  have B : Below w.heap.size w w := Below.refl _ _
  go_enter Try.func70, Try.ntmps70
  go_wp2
  exact bodyPost_ret (v := .agg #[.int .i64 n, .int .i64 1]) (by simp [results, Try.results70, go_sem]) rfl ⟨rfl, B.alloc B.size _⟩
set_option maxRecDepth 100000 in
set_option maxHeartbeats 2000000 in
theorem frees23_any (v : Value) (l : List UInt64) (n a sz : Int) (hn : 0 ≤ n ∧ n ≤ 100) (hz : BkOk (freeB sz)) (h0 : fiE l n 1 = 0) (hE : fiL l n 1 = [(112 + n, 4294967296), (a, freeW sz)]) (w : World) (h : Words w v l) :
    Calls Try.prog 71 #[v, .int .i64 n, .int .i64 a, .int .i64 sz] w fun e w' => e = .returned (.bool true) ∧ Below w.heap.size w w' := by
  have B : Below w.heap.size w w := Below.refl _ _
  have H := Lib.hid h
  obtain ⟨x, hx⟩ : ∃ x, x = freeW sz := ⟨_, rfl⟩
  rw [← hx] at hE
  have FT := Lib.hid (fun w h => Free23_any v l n 1 [(112 + n, 4294967296), (a, x)] 0 hE.symm h0.symm w h)
  have OT := Lib.hid (fun w => OfHR_any (freeB sz) hz x hx w)
  have SM := Lib.hid (fun va vb w ha hb => Same22_any va vb [(112 + n, 4294967296), (a, x)] [(112 + n, 4294967296), (a, x)] true (by simp) w ha hb)
  have w1 : IntKind.i64.wrap (112 + n) = 112 + n := IntWalk.i64_in _ (by omega)
  clear h hn hz h0 hE hx
  go_enter Try.func71, Try.ntmps71
  go_wp2_with fail
  refine (slot23_any n _).mono ?_
  rintro e wa1 ⟨rfl, b⟩
  replace B := B.trans (b.mono B.size); clear b
  go_wp2_with fail
  refine (FT.out _ (H.out.below B)).mono ?_
  rintro e wa2 ⟨y, rfl, o1, b⟩
  replace B := B.trans (b.mono B.size); clear b
  have q1 := o1.rd
  clear o1
  go_wp2_with fail
  refine (OT.out _).mono ?_
  rintro e wa3 ⟨rfl, b⟩
  replace q1 := q1.below b; replace B := B.trans (b.mono B.size); clear b
  go_wp2_with fail
  refine (SM.out _ _ _ (Rd.alloc q1 _) (ent_own2 (Nat.le_refl _)).rd).mono ?_
  rintro e w2 ⟨rfl, b⟩
  have hal := B.alloc B.size (.cells #[.int .i64 (112 + n), .int .u64 (4294967296 : UInt64).toNat, .int .i64 a, .int .u64 x.toNat] 50)
  replace B := hal.trans (b.mono hal.size)
  go_wp2
  go_ret
  exact ⟨rfl, B⟩
set_option maxRecDepth 100000 in
set_option maxHeartbeats 2000000 in
theorem alive23_any (w : World) : Calls Try.prog 39 #[] w fun e w' => e = .returned (.bool true) ∧ Below w.heap.size w w' := by
  have B : Below w.heap.size w w := Below.refl _ _
  have EX := Lib.hid (fun w => example23_any w)
  obtain ⟨l, hl⟩ : ∃ l, l = ex23 := ⟨_, rfl⟩
  obtain ⟨l2, hl2⟩ : ∃ l2, l2 = ex23x := ⟨_, rfl⟩
  have S0 := ex23_free; have S1 := ex23_free2
  have hm : l2 = made l (fiL l 1 1) := by rw [hl2, hl]; rfl
  have hln : l.length ≤ 1048576 := by rw [hl, ex23_len]; decide
  rw [← hl] at EX S0
  rw [← hl2] at S1
  obtain ⟨E, hE⟩ : ∃ E, E = fiL l 1 1 := ⟨_, rfl⟩
  rw [← hE] at hm
  have FT := Lib.hid (fun v w h => Free23_any v l 1 1 E 0 hE S0.1.symm w h)
  have F1 := Lib.hid (fun v w h => frees23_any v l 1 132 4 (by decide) (by decide) S0.1 S0.2 w h)
  have F2 := Lib.hid (fun v w h => frees23_any v l2 2 132 124 (by decide) (by decide) S1.1 S1.2 w h)
  have MT := Lib.hid (fun v ev w h he => Made_any v ev l E hln w h he)
  rw [← hm] at MT
  clear hl hl2 S0 S1 hm hln hE
  go_enter Try.func39, Try.ntmps39
  go_wp2_with fail
  refine (EX.out _).mono ?_
  rintro e wa1 ⟨x0, rfl, o0, b⟩
  replace B := B.trans (b.mono B.size); clear b
  go_wp2_with fail
  refine (slot23_any 1 _).mono ?_
  rintro e wa2 ⟨rfl, b⟩
  replace o0 := o0.below b; replace B := B.trans (b.mono B.size); clear b
  go_wp2_with fail
  refine (FT.out _ _ o0.rd).mono ?_
  rintro e wa3 ⟨y, rfl, o1, b⟩
  replace o0 := o0.below b; replace B := B.trans (b.mono B.size); clear b
  go_wp2_with fail
  refine (EX.out _).mono ?_
  rintro e wa4 ⟨x2, rfl, o2, b⟩
  replace o0 := o0.below b; replace o1 := o1.below b; replace B := B.trans (b.mono B.size); clear b
  go_wp2_with fail
  refine (F1.out _ _ o2.rd).mono ?_
  rintro e wa5 ⟨rfl, b⟩
  replace o0 := o0.below b; replace o1 := o1.below b; replace o2 := o2.below b; replace B := B.trans (b.mono B.size); clear b
  go_wp2_with fail
  refine (EX.out _).mono ?_
  rintro e wa6 ⟨x3, rfl, o3, b⟩
  replace o0 := o0.below b; replace o1 := o1.below b; replace o2 := o2.below b; replace B := B.trans (b.mono B.size); clear b
  go_wp2_with fail
  refine (MT.out _ _ _ o3.rd o1.rd).mono ?_
  rintro e wa7 ⟨x4, rfl, o4, b⟩
  replace o0 := o0.below b; replace o1 := o1.below b; replace o2 := o2.below b; replace o3 := o3.below b; replace B := B.trans (b.mono B.size); clear b
  go_wp2_with fail
  refine (F2.out _ _ o4.rd).mono ?_
  rintro e wa8 ⟨rfl, b⟩
  replace o0 := o0.below b; replace o1 := o1.below b; replace o2 := o2.below b; replace o3 := o3.below b; replace o4 := o4.below b; replace B := B.trans (b.mono B.size); clear b
  go_wp2
  go_ret
  exact ⟨rfl, B⟩
end Go.Proofs.Ytmbokdnndlnjkaa
namespace Go.Proofs.Ytmbokdnndlnjkaa
open Go.RowKit L02 L07 L14 L15 L16 L19
def valT (g : Nat × Nat) (k : Nat) : Value := if k = 8 then .pointer (some ⟨g.1, 0, none⟩) else .pointer (some ⟨g.2, 0, none⟩)
def AgT (φ : Nat → Bool) (g g' : Nat × Nat) : Prop := (φ 8 = true → g.1 = g'.1) ∧ (φ 9 = true → g.2 = g'.2)
def FTB (w : World) (b1 b2 : Hb) (g : Nat × Nat) (φ : Nat → Bool) (W : World) : Prop :=
  Below w.heap.size w W ∧ (φ 10 = true → φ 8 = true) ∧ (φ 11 = true → φ 9 = true) ∧ (φ 8 = true → w.heap.size ≤ g.1 ∧ Bx W g.1 54 (if φ 10 = true then bkA b1 else zeroB)) ∧
    (φ 9 = true → w.heap.size ≤ g.2 ∧ Bx W g.2 54 (if φ 11 = true then bkA b2 else zeroB)) ∧ (φ 8 = true → φ 9 = true → g.1 ≠ g.2)
theorem FTB.dep {w : World} {b1 b2 : Hb} {g : Nat × Nat} : Dep (FTB w b1 b2 g) [8, 9, 10, 11] := by
  rintro φ ψ W h ⟨h1, h2, h3, h4, h5, h6⟩
  have e1 := h 8 (by simp); have e2 := h 9 (by simp); have e3 := h 10 (by simp); have e4 := h 11 (by simp)
  rw [e1, e3] at h2; rw [e2, e4] at h3; rw [e1, e3] at h4; rw [e2, e4] at h5; rw [e1, e2] at h6
  exact ⟨h1, h2, h3, h4, h5, h6⟩
theorem FTB.agree {w : World} {b1 b2 : Hb} {g g' : Nat × Nat} {φ : Nat → Bool} {W : World} (hA : AgT φ g g') (h : FTB w b1 b2 g φ W) : FTB w b1 b2 g' φ W := by
  obtain ⟨h1, h2, h3, h4, h5, h6⟩ := h
  exact ⟨h1, h2, h3, fun e => by rw [← hA.1 e]; exact h4 e, fun e => by rw [← hA.2 e]; exact h5 e, fun e e2 => by rw [← hA.1 e, ← hA.2 e2]; exact h6 e e2⟩
theorem FTB.start {w : World} {b1 b2 : Hb} {g : Nat × Nat} : FTB w b1 b2 g (fun _ => false) w.drew := ⟨(Below.refl _ w).drew, fun e => (by cases e), fun e => (by cases e), fun e => (by cases e), fun e => (by cases e), fun e => (by cases e)⟩
theorem FTB.alloc1 {w : World} {b1 b2 : Hb} {g : Nat × Nat} {φ : Nat → Bool} {W : World} (h : FTB w b1 b2 g φ W) (h0 : φ 8 = false) : FTB w b1 b2 (W.heap.size, g.2) (fun j => j == 8 || φ j) (W.alloc (.cells zeroB 54)) := by
  obtain ⟨h1, h2, h3, h4, h5, h6⟩ := h
  have h10 : φ 10 = false := by
    cases e : φ 10
    · rfl
    · rw [h2 e] at h0; cases h0
  refine ⟨h1.alloc h1.size _, fun _ => by simp, fun e => by simpa using h3 (by simpa using e), fun _ => ⟨h1.size, ?_⟩, fun e => ?_, fun _ e => ?_⟩
  · simp [h10]; exact Bx.new _ _ _
  · obtain ⟨a1, a2⟩ := h5 (by simpa using e)
    exact ⟨a1, by simpa using a2.alloc _⟩
  · have := (h5 (by simpa using e)).2.lt
    show W.heap.size ≠ g.2; omega
theorem FTB.alloc2 {w : World} {b1 b2 : Hb} {g : Nat × Nat} {φ : Nat → Bool} {W : World} (h : FTB w b1 b2 g φ W) (h0 : φ 9 = false) : FTB w b1 b2 (g.1, W.heap.size) (fun j => j == 9 || φ j) (W.alloc (.cells zeroB 54)) := by
  obtain ⟨h1, h2, h3, h4, h5, h6⟩ := h
  have h10 : φ 11 = false := by
    cases e : φ 11
    · rfl
    · rw [h3 e] at h0; cases h0
  refine ⟨h1.alloc h1.size _, fun e => by simpa using h2 (by simpa using e), fun _ => by simp, fun e => ?_, fun _ => ⟨h1.size, ?_⟩, fun e _ => ?_⟩
  · obtain ⟨a1, a2⟩ := h4 (by simpa using e)
    exact ⟨a1, by simpa using a2.alloc _⟩
  · simp [h10]; exact Bx.new _ _ _
  · have := (h4 (by simpa using e)).2.lt
    show g.1 ≠ W.heap.size; omega
theorem FTB.store1 {w : World} {b1 b2 : Hb} {g : Nat × Nat} {φ : Nat → Bool} {W : World} (h : FTB w b1 b2 g φ W) (h8 : φ 8 = true) (h0 : φ 10 = false) :
    (∀ i, W.cell? ⟨g.1, i, none⟩ = zeroB[i]?) ∧ (∀ i, W.frozen? ⟨g.1, i, none⟩ = false) ∧ FTB w b1 b2 g (fun j => j == 10 || φ j) (set6 W g.1 b1) := by
  obtain ⟨h1, h2, h3, h4, h5, h6⟩ := h
  obtain ⟨a1, a2⟩ := h4 h8
  rw [h0] at a2
  have a3 : Bx W g.1 54 zeroB := a2
  refine ⟨a3.cell, a3.free, below_set6 h1 a1 b1, fun _ => by simpa using h8, fun e => by simpa using h3 (by simpa using e), fun _ => ⟨a1, by simpa using a3.put6 rfl b1⟩, fun e => ?_, fun _ e => h6 h8 (by simpa using e)⟩
  obtain ⟨c1, c2⟩ := h5 (by simpa using e)
  exact ⟨c1, by simpa using c2.far6 (Ne.symm (h6 h8 (by simpa using e))) b1⟩
theorem FTB.store2 {w : World} {b1 b2 : Hb} {g : Nat × Nat} {φ : Nat → Bool} {W : World} (h : FTB w b1 b2 g φ W) (h8 : φ 9 = true) (h0 : φ 11 = false) :
    (∀ i, W.cell? ⟨g.2, i, none⟩ = zeroB[i]?) ∧ (∀ i, W.frozen? ⟨g.2, i, none⟩ = false) ∧ FTB w b1 b2 g (fun j => j == 11 || φ j) (set6 W g.2 b2) := by
  obtain ⟨h1, h2, h3, h4, h5, h6⟩ := h
  obtain ⟨a1, a2⟩ := h5 h8
  rw [h0] at a2
  have a3 : Bx W g.2 54 zeroB := a2
  refine ⟨a3.cell, a3.free, below_set6 h1 a1 b2, fun e => by simpa using h2 (by simpa using e), fun _ => by simpa using h8, fun e => ?_, fun _ => ⟨a1, by simpa using a3.put6 rfl b2⟩, fun e _ => h6 (by simpa using e) h8⟩
  obtain ⟨c1, c2⟩ := h4 (by simpa using e)
  exact ⟨c1, by simpa using c2.far6 (h6 (by simpa using e) h8) b2⟩
def TTB (_k : Nat) (s : Sem Next) : Prop := ∀ W, s.run Try.prog W = .ok (.value (.pointer (some ⟨W.heap.size, 0, none⟩))) (W.alloc (.cells zeroB 54))
theorem FXN.belowTB {w : World} {b1 b2 : Hb} {g : Nat × Nat} (x : FXN (FTB w b1 b2 g)) : Below w.heap.size w x.W := by obtain ⟨V, φ, hF⟩ := x; exact hF.1
theorem wp_region_two {id : Nat} {Q : Exit → Act → World → Prop} {ac : Act} {w : World} {l : List Oper} (b1 b2 : Hb)
    (hm : (Try.prog).follows .mixedOrders = true) (hB : Region.lexB .any l.toArray = true)
    (hf : (([8, 9, 10, 11] : List Nat).all fun j => (setAll l.length 0 (Array.replicate l.length false)).getD j false) = true)
    (hnj : (([8, 9] : List Nat).all fun k => ([8, 9, 10, 11] : List Nat).contains k && match l.toArray[k]? with | some o => (([] : List Nat)).all (fun j => o.after.any fun e => Region.binds .any e && e.on == j) | none => false) = true)
    (h : ∀ g, wpM Try.prog .any l.toArray (CN (FTB w b1 b2 g)) (fun i => ([8, 9] : List Nat).contains i) (valT g) TTB (fun a' => ∀ w', FTB w b1 b2 g (fun _ => true) w' → Q .normal a' w') l 0 ac) : (Code.region id l.toArray true).wp Try.prog Q ac w := by
  refine wp_region_M (G := Nat × Nat) valT AgT (FTB w b1 b2) [8, 9, 10, 11] [8, 9] (fun _ => []) TTB (0, 0) (fun g => FTB.dep) hm hB hf hnj
    (fun φ ψ g g' he h => ⟨fun e => h.1 (by rw [he 8 (by simp)]; exact e), fun e => h.2 (by rw [he 9 (by simp)]; exact e)⟩) (fun φ g => ⟨fun _ => rfl, fun _ => rfl⟩) (fun φ g g' g'' h1 h2 => ⟨fun e => (h1.1 e).trans (h2.1 e), fun e => (h1.2 e).trans (h2.2 e)⟩) (fun φ k g g' h hk => ⟨fun e => h.1 (by simp [e]), fun e => h.2 (by simp [e])⟩) ?_ (fun φ g g' W h hF => FTB.agree h hF) (fun g => ⟨fun e => (by cases e), fun e => (by cases e)⟩) FTB.start ?_ h
  · intro φ k g g' hk h0 hA
    simp only [List.mem_cons, List.not_mem_nil, or_false] at hk
    rcases hk with rfl | rfl
    · have e := hA.1 (by simp)
      simp [valT, e]
    · have e := hA.2 (by simp)
      simp [valT, e]
  · intro k s φ W g hk hT h0 _ hF
    simp only [List.mem_cons, List.not_mem_nil, or_false] at hk
    have hT' : ∀ W, s.run Try.prog W = .ok (.value (.pointer (some ⟨W.heap.size, 0, none⟩))) (W.alloc (.cells zeroB 54)) := hT
    rw [hT' W]
    rcases hk with rfl | rfl
    · exact ⟨(W.heap.size, g.2), ⟨fun e => (by rw [h0] at e; cases e), fun _ => rfl⟩, rfl, hF.alloc1 h0⟩
    · exact ⟨(g.1, W.heap.size), ⟨fun _ => rfl, fun e => (by rw [h0] at e; cases e)⟩, rfl, hF.alloc2 h0⟩
/-- the sixth cells of two blocks set -/
theorem two_zero {w : World} {p q : Nat} {t : TypeId} {a0 a1 a2 a3 a4 a5 b0 b1 b2 b3 b4 b5 v u : Value} (x1 : Bx w p t #[a0, a1, a2, a3, a4, a5]) (x2 : Bx w q t #[b0, b1, b2, b3, b4, b5]) (h : p ≠ q) :
    Bx ((w.setCell ⟨p, 5, none⟩ v).setCell ⟨q, 5, none⟩ u) p t #[a0, a1, a2, a3, a4, v] ∧ Bx ((w.setCell ⟨p, 5, none⟩ v).setCell ⟨q, 5, none⟩ u) q t #[b0, b1, b2, b3, b4, u] := by
  have h1 := (x1.set (i := 5) v).far (p := ⟨q, 5, none⟩) h u
  have h2 := (x2.far (p := ⟨p, 5, none⟩) (Ne.symm h) v).set (i := 5) u
  exact ⟨by simpa using h1, by simpa using h2⟩
end Go.Proofs.Ytmbokdnndlnjkaa
namespace Go.Proofs.Ytmbokdnndlnjkaa
open Go Go.RowKit
def dep2 (k0 k1 : Nat) (k : Nat) : List Nat := if k = k1 then [k0] else []
def Φ2 (k0 k1 : Nat) (Ψ0 Ψ1 : Value → World → Prop) (k : Nat) (g : Nat → Value) (W : World) : Prop := (k = k0 → Ψ0 (g k0) W) ∧ (k = k1 → Ψ1 (g k1) W)
def V2 (k0 k1 : Nat) (V0 V1 : Value → Prop) (k : Nat) (v : Value) : Prop := (k = k0 → V0 v) ∧ (k = k1 → V1 v)
theorem wp_region_f2 {P : Program} {id : Nat} {Q : Exit → Act → World → Prop} {a : Act} {w : World} {l : List Oper} (n k0 k1 : Nat) (V0 V1 : Value → Prop) (Ψ0 Ψ1 : Value → World → Prop) (hk : k0 ≠ k1) (e0 : ∃ v, V0 v) (e1 : ∃ v, V1 v)
    (hst0 : ∀ v W W', Ψ0 v W → Below W.heap.size W W' → Ψ0 v W') (hst1 : ∀ v W W', Ψ1 v W → Below W.heap.size W W' → Ψ1 v W')
    (hm : P.follows .mixedOrders = true) (hB : Region.lexTailB .any l.toArray n = true)
    (hnj : (([k0, k1] : List Nat).all fun k => decide (k < n) && match l.toArray[k]? with | some o => (dep2 k0 k1 k).all (fun j => ([k0, k1] : List Nat).contains j && o.after.any fun e => Region.binds .any e && e.on == j) | none => false) = true)
    (h : ∀ g, V0 (g k0) → V1 (g k1) → wpM P .any l.toArray (CH w [k0, k1] (dep2 k0 k1) (Φ2 k0 k1 Ψ0 Ψ1) g) (fun i => ([k0, k1] : List Nat).contains i) g (TS P w (dep2 k0 k1) (V2 k0 k1 V0 V1) (Φ2 k0 k1 Ψ0 Ψ1) g)
      (fun a' => ∀ W, Below w.heap.size w W → Ψ0 (g k0) W → Ψ1 (g k1) W → wpList P l.toArray Q (l.drop n) a' W) (l.take n) 0 a) : (Code.region id l.toArray true).wp P Q a w := by
  refine wp_region_ftail n [k0, k1] (dep2 k0 k1) (V2 k0 k1 V0 V1) (Φ2 k0 k1 Ψ0 Ψ1) hm hB hnj ?_ ?_ ?_ ?_
  · intro k hk g W W' h hb
    exact ⟨fun e => hst0 _ _ _ (h.1 e) hb, fun e => hst1 _ _ _ (h.2 e) hb⟩
  · intro k hk g g' W he h
    refine ⟨fun e => ?_, fun e => ?_⟩
    · subst e; rw [← he k (.inl rfl)]; exact h.1 rfl
    · subst e; rw [← he k (.inl rfl)]; exact h.2 rfl
  · intro k _
    obtain ⟨v0, h0⟩ := e0
    obtain ⟨v1, h1⟩ := e1
    by_cases e : k = k0
    · exact ⟨v0, fun _ => h0, fun e' => absurd (e.symm.trans e') hk⟩
    · exact ⟨v1, fun e' => absurd e' e, fun _ => h1⟩
  · intro g hV
    have h1 := h g ((hV k0 (by simp)).1 rfl) ((hV k1 (by simp)).2 rfl)
    have mono : ∀ (C : Array Bool → World → Prop) (nn : Nat → Bool) (T : Nat → Sem Next → Prop) (r : List Oper) (k : Nat) (a' : Act), wpM P .any l.toArray C nn g T
        (fun a' => ∀ W, Below w.heap.size w W → Ψ0 (g k0) W → Ψ1 (g k1) W → wpList P l.toArray Q (l.drop n) a' W) r k a' → wpM P .any l.toArray C nn g T
        (fun a' => ∀ W, Below w.heap.size w W → (∀ k ∈ [k0, k1], Φ2 k0 k1 Ψ0 Ψ1 k g W) → wpList P l.toArray Q (l.drop n) a' W) r k a' := by
      intro C nn T r
      induction r with
      | nil =>
        intro k a' h0 W hW hΦ
        exact h0 W hW ((hΦ k0 (by simp)).1 rfl) ((hΦ k1 (by simp)).2 rfl)
      | cons o r ih => intro k a' h0; obtain ⟨v, h1, h2⟩ := h0; exact ⟨v, h1, ih _ _ h2⟩
    exact mono _ _ _ _ _ _ h1
end Go.Proofs.Ytmbokdnndlnjkaa
namespace Go.Proofs.Ytmbokdnndlnjkaa
open Go.RowKit L01 L02 L05 L06 L07 L13 L14 L15 L18 L19
set_option maxHeartbeats 1000000 in
theorem own24_any (w : World) : Calls Try.prog 14 #[] w fun e w' => e = .returned (.agg #[.int .i64 0, .int .i64 1]) ∧ Below w.heap.size w w' := by
  have B : Below w.heap.size w w := Below.refl _ _
  go_enter Try.func14, Try.ntmps14
  go_wp2
  exact bodyPost_ret (v := .agg #[.int .i64 0, .int .i64 1]) (by simp [results, Try.results14, go_sem]) rfl ⟨rfl, B.alloc B.size _⟩
set_option maxHeartbeats 1000000 in
theorem one24_any (v : Value) (E : List (Int × UInt64)) (r a : Int) (x : UInt64) (q : Bool) (hq : q = (decide (r = 0) && decide (E = [(a, x)]))) (w : World) (h : Ents w v E) :
    Calls Try.prog 15 #[v, .int .i64 r, .int .i64 a, .int .u64 x.toNat] w fun e w' => e = .returned (.bool q) ∧ Below w.heap.size w w' := by
  have B : Below w.heap.size w w := Below.refl _ _
  have H := Lib.hid h
  by_cases h0 : r = 0
  case neg =>
    obtain rfl : q = false := by rw [hq, decide_eq_false h0, Bool.false_and]
    have n1 : (r == 0) = false := by rw [beq_eq_false_iff_ne]; exact h0
    clear h hq h0
    go_enter Try.func15, Try.ntmps15
    go_wp2
    go_ret
    exact ⟨rfl, B⟩
  case pos =>
    subst h0
    have SM := Lib.hid (fun va vb w ha hb => Same22_any va vb E [(a, x)] q (by rw [hq]; simp) w ha hb)
    clear h hq
    go_enter Try.func15, Try.ntmps15
    go_wp2_with fail
    refine (SM.out _ _ _ (Rd.alloc H.out _) (ent_own (Nat.le_refl _)).rd).mono ?_
    rintro e w2 ⟨rfl, b⟩
    have hal := B.alloc B.size (.cells #[.int .i64 a, .int .u64 x.toNat] 50)
    replace B := hal.trans (b.mono hal.size)
    go_wp2
    go_ret
    exact ⟨rfl, B⟩
theorem enter_example24 (W : World) : (callFunc 10 (#[] ++ #[] ++ #[])).run Try.prog W = .ok (.enter 10 #[]) W := by
  simp [go_sem]
theorem enter_set24 (a b c d : Value) (W : World) : (callFunc 13 (#[] ++ #[a, b, c, d] ++ #[])).run Try.prog W = .ok (.enter 13 #[a, b, c, d]) W := by
  simp [go_sem]
theorem enter_setref24 (a b c d : Value) (W : World) : (callFunc 17 (#[] ++ #[a, b, c, d] ++ #[])).run Try.prog W = .ok (.enter 17 #[a, b, c, d]) W := by
  simp [go_sem]
set_option maxRecDepth 100000 in
set_option maxHeartbeats 4000000 in
theorem alive24_any (w : World) : Calls Try.prog 20 #[] w fun e w' => e = .returned (.bool true) ∧ Below w.heap.size w w' := by
  have B : Below w.heap.size w w := Below.refl _ _
  have EX := Lib.hid (fun w => example24_any w)
  obtain ⟨l, hl⟩ : ∃ l, l = ex24 := ⟨_, rfl⟩
  have S0 := ex24_set; have S1 := ex24_ref; have S2 := ex24_type
  rw [← hl] at EX S0 S1 S2
  have T1 := Lib.hid (fun v w h => Set24_any v l 0 1 0 7 [(142, 7)] 0 S0.2.symm S0.1.symm w h)
  have T2 := Lib.hid (fun v pv w h hp => SetRef24_any v pv l 0 1 1 (some (0, 1)) [(143, 140)] 0 S1.2.symm S1.1.symm w h hp)
  have T3 := Lib.hid (fun v w h => Set24_any v l 0 1 1 7 [] 42 S2.2.symm S2.1.symm w h)
  have O1 := Lib.hid (fun v w h => one24_any v [(142, 7)] 0 142 7 true (by decide) w h)
  have O2 := Lib.hid (fun v w h => one24_any v [(143, 140)] 0 143 140 true (by decide) w h)
  clear hl S0 S1 S2
  go_enter Try.func20, Try.ntmps20
  go_wp2_with fail
  refine (own24_any _).mono ?_
  rintro e wa1 ⟨rfl, b⟩
  replace B := B.trans (b.mono B.size); clear b
  go_upto_region 2 with (fail)
  refine wp_gen (fun Wv => Bx Wv (wa1.heap.size) (35) (#[.int .i64 0, .int .i64 1]) ∧ Below wa1.heap.size wa1 Wv) ⟨((Bx.at_ (by simp))), ((Below.refl _ wa1).alloc (by simp <;> omega) _)⟩ ?_
  rintro wa2 ⟨g1, b⟩
  replace B := B.trans (b.mono B.size); clear b
  have c_g1 := g1.cell; have f_g1 := g1.free; have a_g1 := fun o => (g1.alloc o).cell; have d_g1 := fun o o2 => ((g1.alloc o).alloc o2).cell; have e_g1 := fun o => (g1.alloc o).free
  clear c_g1 f_g1 a_g1 d_g1 e_g1
  have hz2 := B.size
  have c_1 := fun x : Fut wa2 => (g1.below x.h).cell
  refine wp_region_f2 7 0 2 (fun _ => True) (fun v => ∃ y, v = .tuple #[y, .int .i64 0]) (fun v W => OwnW W wa2.heap.size 24 v l) (fun v W => ∃ y, v = .tuple #[y, .int .i64 0] ∧ Ents W y [(142, 7)]) (by decide) ⟨undef, trivial⟩ ⟨_, undef, rfl⟩ (fun v W W' h b => h.below b) (fun v W W' ⟨y, h1, h2⟩ b => ⟨y, h1, h2.below b⟩) (by kernel_rfl) (by kernel_rfl) (by kernel_rfl) ?_
  intro gg _ hv1
  obtain ⟨y2, hy1⟩ := hv1
  simp only [List.take_succ_cons, List.take_zero, List.drop_succ_cons, List.drop_zero]
  refine wpH_new rfl rfl (TS.call (av := #[]) (by simp [Act.eval]) (fun W => enter_example24 W) ?_) ?_
  · intro W hW _
    refine (EX.out W).mono ?_
    rintro e W' ⟨x, rfl, o, bb⟩
    exact ⟨_, rfl, ⟨fun _ => trivial, fun e => (by cases e)⟩, bb, fun g' hg' _ => ⟨fun _ => by rw [hg']; exact own_mono o hW.size, fun e => (by cases e)⟩⟩
  simp only [Act.put, List.setIfInBounds_toArray, List.set_cons_zero, List.set_cons_succ]
  iterate 1 (refine wpH_read0 rfl rfl ?_; go_big_quiet_step (fail); refine wpQuiet_nil ?_)
  refine wpH_new rfl rfl (TS.call (av := #[gg 0, .agg #[.int .i64 0, .int .i64 1], .int .i64 0, .int .u64 7]) (by simp [Act.eval]) (fun W => enter_set24 _ _ _ _ W) ?_) ?_
  · intro W hW hd
    have o0 := (hd 0 (by simp [dep2])).1 rfl
    refine (T1.out _ W o0.rd).mono ?_
    rintro e W' ⟨y, rfl, o, bb⟩
    exact ⟨_, rfl, ⟨fun e => (by cases e), fun _ => ⟨y, rfl⟩⟩, bb, fun g' hg' _ => ⟨fun e => (by cases e), fun _ => ⟨y, hg', o.rd⟩⟩⟩
  rw [hy1]
  simp only [Act.put, List.setIfInBounds_toArray, List.set_cons_zero, List.set_cons_succ]
  iterate 4 (refine wpH_read0 rfl rfl ?_; go_big_quiet_step (fail); refine wpQuiet_nil ?_)
  refine wpH_nil ?_
  intro W2 bW _ o1
  obtain ⟨y, e1, q2⟩ := o1
  try rw [hy1] at e1
  obtain rfl : y2 = y := by injection e1 with e1; injection e1 with e1; injection e1
  clear c_1 hy1 e1
  replace g1 := g1.below bW
  replace B := B.trans (bW.mono hz2)
  clear bW hz2
  go_upto_region 3 with (fail)
  have hz3 := B.size
  have c_1 := fun x : Fut W2 => (g1.below x.h).cell
  refine wp_region_f2 7 0 2 (fun _ => True) (fun v => ∃ y, v = .tuple #[y, .int .i64 0]) (fun v W => OwnW W W2.heap.size 24 v l) (fun v W => ∃ y, v = .tuple #[y, .int .i64 0] ∧ Ents W y [(143, 140)]) (by decide) ⟨undef, trivial⟩ ⟨_, undef, rfl⟩ (fun v W W' h b => h.below b) (fun v W W' ⟨y, h1, h2⟩ b => ⟨y, h1, h2.below b⟩) (by kernel_rfl) (by kernel_rfl) (by kernel_rfl) ?_
  intro gg _ hv1
  obtain ⟨y3, hy1⟩ := hv1
  simp only [List.take_succ_cons, List.take_zero, List.drop_succ_cons, List.drop_zero]
  refine wpH_new rfl rfl (TS.call (av := #[]) (by simp [Act.eval]) (fun W => enter_example24 W) ?_) ?_
  · intro W hW _
    refine (EX.out W).mono ?_
    rintro e W' ⟨x, rfl, o, bb⟩
    exact ⟨_, rfl, ⟨fun _ => trivial, fun e => (by cases e)⟩, bb, fun g' hg' _ => ⟨fun _ => by rw [hg']; exact own_mono o hW.size, fun e => (by cases e)⟩⟩
  simp only [Act.put, List.setIfInBounds_toArray, List.set_cons_zero, List.set_cons_succ]
  iterate 1 (refine wpH_read0 rfl rfl ?_; go_big_quiet_step (fail); refine wpQuiet_nil ?_)
  refine wpH_new rfl rfl (TS.call (av := #[gg 0, .agg #[.int .i64 0, .int .i64 1], .int .i64 1, .pointer (some ⟨wa1.heap.size, 0, none⟩)]) (by simp [Act.eval]) (fun W => enter_setref24 _ _ _ _ W) ?_) ?_
  · intro W hW hd
    have o0 := (hd 0 (by simp [dep2])).1 rfl
    refine (T2.out _ _ W o0.rd ⟨_, rfl, g1.below hW⟩).mono ?_
    rintro e W' ⟨y, rfl, o, bb⟩
    exact ⟨_, rfl, ⟨fun e => (by cases e), fun _ => ⟨y, rfl⟩⟩, bb, fun g' hg' _ => ⟨fun e => (by cases e), fun _ => ⟨y, hg', o.rd⟩⟩⟩
  rw [hy1]
  simp only [Act.put, List.setIfInBounds_toArray, List.set_cons_zero, List.set_cons_succ]
  iterate 4 (refine wpH_read0 rfl rfl ?_; go_big_quiet_step (fail); refine wpQuiet_nil ?_)
  refine wpH_nil ?_
  intro W3 bW _ o1
  obtain ⟨y, e1, q3⟩ := o1
  try rw [hy1] at e1
  obtain rfl : y3 = y := by injection e1 with e1; injection e1 with e1; injection e1
  clear c_1 hy1 e1
  replace q2 := Rd.below q2 bW
  replace g1 := g1.below bW
  replace B := B.trans (bW.mono hz3)
  clear bW hz3
  go_upto_region 4 with (fail)
  have hz4 := B.size
  have c_1 := fun x : Fut W3 => (g1.below x.h).cell
  refine wp_region_f2 7 0 2 (fun _ => True) (fun v => ∃ y, v = .tuple #[y, .int .i64 42]) (fun v W => OwnW W W3.heap.size 24 v l) (fun v W => ∃ y, v = .tuple #[y, .int .i64 42] ∧ Ents W y ([] : List (Int × UInt64))) (by decide) ⟨undef, trivial⟩ ⟨_, undef, rfl⟩ (fun v W W' h b => h.below b) (fun v W W' ⟨y, h1, h2⟩ b => ⟨y, h1, h2.below b⟩) (by kernel_rfl) (by kernel_rfl) (by kernel_rfl) ?_
  intro gg _ hv1
  obtain ⟨y4, hy1⟩ := hv1
  simp only [List.take_succ_cons, List.take_zero, List.drop_succ_cons, List.drop_zero]
  refine wpH_new rfl rfl (TS.call (av := #[]) (by simp [Act.eval]) (fun W => enter_example24 W) ?_) ?_
  · intro W hW _
    refine (EX.out W).mono ?_
    rintro e W' ⟨x, rfl, o, bb⟩
    exact ⟨_, rfl, ⟨fun _ => trivial, fun e => (by cases e)⟩, bb, fun g' hg' _ => ⟨fun _ => by rw [hg']; exact own_mono o hW.size, fun e => (by cases e)⟩⟩
  simp only [Act.put, List.setIfInBounds_toArray, List.set_cons_zero, List.set_cons_succ]
  iterate 1 (refine wpH_read0 rfl rfl ?_; go_big_quiet_step (fail); refine wpQuiet_nil ?_)
  refine wpH_new rfl rfl (TS.call (av := #[gg 0, .agg #[.int .i64 0, .int .i64 1], .int .i64 1, .int .u64 7]) (by simp [Act.eval]) (fun W => enter_set24 _ _ _ _ W) ?_) ?_
  · intro W hW hd
    have o0 := (hd 0 (by simp [dep2])).1 rfl
    refine (T3.out _ W o0.rd).mono ?_
    rintro e W' ⟨y, rfl, o, bb⟩
    exact ⟨_, rfl, ⟨fun e => (by cases e), fun _ => ⟨y, rfl⟩⟩, bb, fun g' hg' _ => ⟨fun e => (by cases e), fun _ => ⟨y, hg', o.rd⟩⟩⟩
  rw [hy1]
  simp only [Act.put, List.setIfInBounds_toArray, List.set_cons_zero, List.set_cons_succ]
  iterate 4 (refine wpH_read0 rfl rfl ?_; go_big_quiet_step (fail); refine wpQuiet_nil ?_)
  refine wpH_nil ?_
  intro W4 bW _ o1
  obtain ⟨y, e1, q4⟩ := o1
  try rw [hy1] at e1
  obtain rfl : y4 = y := by injection e1 with e1; injection e1 with e1; injection e1
  clear c_1 hy1 e1
  replace q2 := Rd.below q2 bW
  replace q3 := Rd.below q3 bW
  replace g1 := g1.below bW
  replace B := B.trans (bW.mono hz4)
  clear bW hz4
  clear q4
  go_wp2_with fail
  refine (O1.out _ _ q2).mono ?_
  rintro e wa3 ⟨rfl, b⟩
  replace q2 := q2.below b; replace q3 := q3.below b; replace B := B.trans (b.mono B.size); clear b
  go_wp2_with fail
  refine (O2.out _ _ q3).mono ?_
  rintro e wa4 ⟨rfl, b⟩
  replace q2 := q2.below b; replace q3 := q3.below b; replace B := B.trans (b.mono B.size); clear b
  go_wp2
  go_ret
  exact ⟨rfl, B⟩
end Go.Proofs.Ytmbokdnndlnjkaa
namespace Go.Proofs.Ytmbokdnndlnjkaa.L19
open L02 L05 L06 L07 L13 L14 L15 L16 L18 L20
def fn0 : List UInt64 := putW ex24 96 [w0 [2, 3], w1 [2, 3]]
def fn1 : List UInt64 := ex24.set 143 140
/-- slots 1 to j written -/
def fnS (l : List UInt64) : Nat → List UInt64
  | 0 => l
  | j + 1 => (fnS l j).set (113 + j) (pk ⟨2147483647, false, 0⟩)
theorem fnS_len (l : List UInt64) : ∀ j, (fnS l j).length = l.length
  | 0 => rfl
  | j + 1 => by rw [fnS, List.length_set, fnS_len l j]
def fn2 : List UInt64 := fnS fn1 15
def fn3 : List UInt64 := fn2.set 16 1
theorem fn_len : fn0.length = 256 ∧ fn1.length = 256 ∧ fn2.length = 256 ∧ fn3.length = 256 := by
  have h1 : fn1.length = 256 := by rw [fn1, List.length_set, ex24_len]
  have h2 : fn2.length = 256 := by rw [fn2, fnS_len, h1]
  exact ⟨by rw [fn0, putW_len, ex24_len], h1, h2, by rw [fn3, List.length_set, h2]⟩
theorem fn0_set : giE fn0 0 1 0 = 0 ∧ siL fn0 0 1 0 18444492273895866369 = [(142, 9221120237041090561)] ∧ siL fn0 0 1 0 18442240474082181120 = [(142, 18442240474082181120)] ∧ siL fn0 0 1 0 9218868437227405313 = [(142, 9221120237041090561)] := by decide +kernel
theorem ex24_gets : giE ex24 0 2 0 = 28 ∧ giE ex24 16 1 9 = 2 ∧ giE ex24 0 1 2 = 2 ∧ giE ex24 0 1 (-1) = 2 ∧ giE ex24 0 1 1 = 42 := by decide +kernel
theorem ex24_refs : riE ex24 0 1 0 (some (16, 1)) = 42 ∧ riE ex24 0 1 1 (some (16, 1)) = 2 ∧ riE ex24 0 1 1 (some (0, 2)) = 28 ∧ riE ex24 0 1 1 none = 0 ∧ riL ex24 0 1 1 none = [(143, 0)] ∧ oiE ex24 0 1 0 = 42 ∧ oiE ex24 0 1 1 = 6 := by decide +kernel
theorem fn1_root : oiE fn1 0 1 1 = 0 ∧ oiL fn1 0 1 1 = [(113, pk ⟨1, true, 140⟩)] ∧ oiS fn1 0 1 1 = 1 ∧ oiG fn1 0 1 1 = 1 := by decide +kernel
theorem fn2_root : oiE fn2 0 1 1 = 23 := by decide +kernel
theorem fn3_get : giE fn3 16 1 9 = 50 := by decide +kernel
theorem fn3_cut : giE (fn3.take 9) 0 1 0 = 8 := by decide +kernel
end Go.Proofs.Ytmbokdnndlnjkaa.L19
