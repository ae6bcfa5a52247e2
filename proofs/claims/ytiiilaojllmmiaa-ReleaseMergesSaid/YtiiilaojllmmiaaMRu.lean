/- Contracts of the functions that the laws 'R' reach, part 21. No condition. -/
import Derived.Test.YtiiilaojllmmiaaMRt
set_option linter.unusedVariables false
set_option linter.unusedSimpArgs false
namespace Go.Proofs.Ytiiilaojllmmiaa
open Go.RowKit L01 L02 L05 L06 L07 L13 L14 L15 L18 L19
/-- the slots of the example, as far as they are written -/
def setsE (l : List UInt64) : Nat → List UInt64
  | 0 => l
  | j + 1 => (setsE l j).set (112 + j) (pk ⟨1, true, 128 + 4 * (j : Int)⟩)
theorem setsE_len (l : List UInt64) : ∀ j, (setsE l j).length = l.length
  | 0 => rfl
  | j + 1 => by rw [setsE, List.length_set, setsE_len l j]
set_option maxRecDepth 100000 in
set_option maxHeartbeats 4000000 in
theorem example23_any (w : World) : Calls Try.prog 20 #[] w fun e w' => ∃ x, e = .returned x ∧ OwnW w' w.heap.size 25 x ex23 ∧ Below w.heap.size w w' := by
  have B : Below w.heap.size w w := Below.refl _ _
  obtain ⟨L, hL⟩ : ∃ L, L = [objB 0 4 false, objB 0 4 false, objB 0 4 false, freeB 116] := ⟨_, rfl⟩
  obtain ⟨l0, hl0⟩ : ∃ l0, l0 = laid 256 L := ⟨_, rfl⟩
  obtain ⟨ws, hws⟩ : ∃ ws, ws = wordsOf 256 1 := ⟨_, rfl⟩
  obtain ⟨a, ha⟩ : ∃ a, a = w0 [3] := ⟨_, rfl⟩
  obtain ⟨b, hb⟩ : ∃ b, b = w1 [3] := ⟨_, rfl⟩
  have hbk : ∀ b ∈ L, BkOk b := by rw [hL]; decide
  have hl0l : l0.length = 256 := by rw [hl0]; exact laid_len _ _
  have hwsl : ws.length = 8 := by rw [hws]; exact wO_len _ _
  have LT := Lib.hid (fun v w h => LaidR_any 256 v L hbk (by rw [hL]; decide) (by omega) w h)
  have WT := Lib.hid (fun w => Written_any 256 1 w (by decide))
  have KT := Lib.hid (fun v w h => KWriteR_any v [3] a b 0 ha hb (by decide) w h)
  have OT := Lib.hid (fun (j : Nat) (hj : j < 3) w => OfR_any ⟨1, true, 128 + 4 * (j : Int)⟩ _ rfl ⟨by show (0 : Int) ≤ 1; decide, by show (1 : Int) ≤ 2147483647; decide, fun e => (by cases e), fun _ => ⟨by show (0 : Int) < 1; decide, by show (128 : Int) ≤ 128 + 4 * (j : Int); omega, by show 128 + 4 * (j : Int) < (2048 : Int); omega⟩⟩ w)
  rw [← hl0] at LT; rw [← hws] at WT
  have HX := Lib.hid (show ex23 = (((putW (putW (putW l0 0 ws) 8 ws) 96 [a, b]).set 112 (pk ⟨1, true, 128⟩)).set 113 (pk ⟨1, true, 132⟩)).set 114 (pk ⟨1, true, 136⟩) from by rw [ex23, base22, hl0, hL, hws, ha, hb])
  have HL := Lib.hid hL; have HL0 := Lib.hid hl0l; have HWS := Lib.hid hwsl
  clear hL hl0 hws ha hb hbk hl0l hwsl
  go_enter Try.func20, Try.ntmps20
  go_upto_region 2 with (fail)
  refine wp_gen (fun Wv => Bx Wv (w.heap.size) (74) (#[.int .i64 0, .int .i64 4, .int .i64 1, .int .i64 0, .bool false, .int .u64 0]) ∧ Below w.heap.size w Wv) ⟨((Bx.at_ (by simp))), ((Below.refl _ w).alloc (by simp <;> omega) _)⟩ ?_
  rintro wa1 ⟨g1, b⟩
  replace B := B.trans (b.mono B.size); clear b
  have c_g1 := g1.cell; have f_g1 := g1.free; have a_g1 := fun o => (g1.alloc o).cell; have d_g1 := fun o o2 => ((g1.alloc o).alloc o2).cell; have e_g1 := fun o => (g1.alloc o).free
  go_wp2_with fail
  refine (LT.out _ _ (lit_blocks L rfl (by rw [HL.out]; rfl) (by rw [HL.out]; rfl) (by rw [HL.out]; decide))).mono ?_
  rintro e w2 ⟨x, rfl, ox, b⟩
  have hal := B.alloc B.size (.cells #[.int .i64 0, .int .i64 4, .int .i64 1, .int .i64 0, .bool false, .int .u64 0, .int .i64 0, .int .i64 4, .int .i64 1, .int .i64 0, .bool false, .int .u64 0, .int .i64 0, .int .i64 4, .int .i64 1, .int .i64 0, .bool false, .int .u64 0, .int .i64 0, .int .i64 116, .int .i64 2, .int .i64 0, .bool false, .int .u64 0] 74)
  replace B := hal.trans (b.mono hal.size)
  replace ox : OwnW w2 w.heap.size 25 x l0 := own_mono ox hal.size
  clear b hal g1 c_g1 f_g1 a_g1 d_g1 e_g1
  have hb1 := B.size
  go_wp2_with fail
  refine (WT.out _).mono ?_
  rintro e w3 ⟨s, rfl, os, b⟩
  have hne := (own_ne ox os (Nat.le_refl _)).1
  replace ox := ox.below b
  replace B := B.trans (b.mono B.size)
  have hb2 := B.size
  clear b
  have HO := Lib.hid (And.intro ox (And.intro os (And.intro hne B)))
  clear ox os hne B
  go_wp2_with fail
  refine (KT.out _ _ (lit_byts [3] rfl rfl rfl (by simp))).mono ?_
  rintro e w4 ⟨rfl, b⟩
  have hal : Below w3.heap.size w3 (w3.alloc (.cells #[.int .u8 3] 5)) := (Below.refl _ _).alloc (Nat.le_refl _) _
  have hb34 := hal.trans (b.mono hal.size)
  obtain ⟨ox, os, hne, B⟩ := HO.out
  replace ox := ox.below hb34
  replace os := os.below hb34
  replace B := B.trans (hb34.mono B.size)
  clear hal hb34 b
  go_upto_region 5 with (fail)
  refine wp_gen (fun Wv => Bx Wv (w4.heap.size) (65) (#[.int .u64 a.toNat, .int .u64 b.toNat]) ∧ Below w4.heap.size w4 Wv) ⟨((Bx.at_ (by simp))), ((Below.refl _ w4).alloc (by simp <;> omega) _)⟩ ?_
  rintro wa2 ⟨g4, b⟩
  replace ox := ox.below b; replace os := os.below b; replace B := B.trans (b.mono B.size); clear b
  have c_g4 := g4.cell; have f_g4 := g4.free; have a_g4 := fun o => (g4.alloc o).cell; have d_g4 := fun o o2 => ((g4.alloc o).alloc o2).cell; have e_g4 := fun o => (g4.alloc o).free
  obtain ⟨d1, sl1, cut1⟩ := own_cut2 (P := Try.prog) ox Try.underlying22 one_u64 (lo := 0) (hi := 8) (by omega) (by rw [HL0.out]; omega)
  have sl1' : ∀ W, (Instr.sliceAt 22 x (some (.int .i64 0)) (some (.int .i64 8)) none).run Try.prog W = .ok d1 W := sl1
  clear sl1
  go_wp2_with fail
  obtain ⟨w6, x6, hrun, o6, B6, g6⟩ := copyW (l := l0) (m := ws) (a := 0) ox cut1 os.rd (by rw [HWS.out]) (by rw [HL0.out]; omega) B (Nat.le_refl _)
  rw [hrun, Result.andThen_ok]
  have g4' := g4.grown g6 (own_not_bx ox g4 (by decide))
  have os' := os.kept g6 hne
  clear hrun cut1 sl1' ox os g4 c_g4 f_g4 a_g4 d_g4 e_g4 B g6
  have hlen1 : (putW l0 0 ws).length = 256 := by rw [putW_len, HL0.out]
  obtain ⟨d2, sl2, cut2⟩ := own_cut2 (P := Try.prog) o6 Try.underlying22 one_u64 (lo := 8) (hi := 16) (by omega) (by rw [hlen1]; omega)
  have sl2' : ∀ W, (Instr.sliceAt 22 x (some (.int .i64 8)) (some (.int .i64 16)) none).run Try.prog W = .ok d2 W := sl2
  clear sl2
  go_wp2_with fail
  obtain ⟨w7, x7, hrun, o7, B7, g7⟩ := copyW (l := putW l0 0 ws) (m := ws) (a := 8) o6 cut2 os'.rd (by rw [HWS.out]) (by rw [hlen1]; omega) B6 (Nat.le_refl _)
  rw [hrun, Result.andThen_ok]
  have g5' := g4'.grown g7 (own_not_bx o6 g4' (by decide))
  clear hrun cut2 sl2' o6 os' g4' B6 g7
  have hlen2 : (putW (putW l0 0 ws) 8 ws).length = 256 := by rw [putW_len, hlen1]
  obtain ⟨d3, sl3, cut3⟩ := own_cut2 (P := Try.prog) o7 Try.underlying22 one_u64 (lo := 96) (hi := 98) (by omega) (by rw [hlen2]; omega)
  have sl3' : ∀ W, (Instr.sliceAt 22 x (some (.int .i64 96)) (some (.int .i64 98)) none).run Try.prog W = .ok d3 W := sl3
  clear sl3
  go_upto_region 7 with (fail)
  refine wp_region_qtail 3 (by kernel_rfl) (by kernel_rfl) ?_
  simp only [List.take_succ_cons, List.take_zero, List.drop_succ_cons, List.drop_zero]
  iterate 3 (go_big_quiet_step (fail))
  refine wpQuiet_nil ?_
  go_wp2_with fail
  have o7d : OwnW w7.drew w.heap.size 25 x (putW (putW l0 0 ws) 8 ws) := o7
  have g5d : Bx w7.drew w4.heap.size 65 #[.int .u64 a.toNat, .int .u64 b.toNat] := g5'
  obtain ⟨w8, x8, hrun, o8, B8, g8⟩ := copyW (l := putW (putW l0 0 ws) 8 ws) (m := [a, b]) (a := 96) o7d cut3 (arr_words g5d) rfl (by rw [hlen2]; omega) B7.drew (Nat.le_refl _)
  rw [hrun, Result.andThen_ok]
  clear hrun cut3 sl3' o7 o7d g5d g5' B7 g8
  have hlen3 : (putW (putW (putW l0 0 ws) 8 ws) 96 [a, b]).length = 256 := by rw [putW_len, hlen2]
  obtain ⟨l3, hl3⟩ : ∃ l3, l3 = putW (putW (putW l0 0 ws) 8 ws) 96 [a, b] := ⟨_, rfl⟩
  rw [← hl3] at hlen3 o8
  have HX2 := Lib.hid (show ex23 = ((l3.set 112 (pk ⟨1, true, 128⟩)).set 113 (pk ⟨1, true, 132⟩)).set 114 (pk ⟨1, true, 136⟩) from by rw [HX.out, hl3])
  have HL3 := Lib.hid hlen3
  have HS := Lib.hid (And.intro o8 B8)
  clear HX hl3 hlen3 hlen2 hlen1 o8 B8
  go_wp2
  go_loopg [6] 3 (fun g i wr => ∃ j : Nat, j ≤ 3 ∧ g = 3 - j ∧ i = .int .i64 j ∧ Hid (OwnW wr w.heap.size 25 x (setsE l3 j) ∧ Below w.heap.size w wr))
  case atStart => exact ⟨0, by omega, by omega, rfl, HS⟩
  case round =>
    clear HS
    obtain ⟨j, hj, rfl, rfl, hh⟩ := hrel
    obtain ⟨o8, B8⟩ := hh.out
    clear hh
    by_cases hlt : j < 3
    · have hb8 := B8.size
      have hw1 : IntKind.i64.wrap (112 + (j : Int)) = 112 + (j : Int) := IntWalk.i64_in _ (by omega)
      have hw2 : IntKind.i64.wrap (4 * (j : Int)) = 4 * (j : Int) := IntWalk.i64_in _ (by omega)
      have hw3 : IntKind.i64.wrap (128 + 4 * (j : Int)) = 128 + 4 * (j : Int) := IntWalk.i64_in _ (by omega)
      go_wp2_with fail
      refine (OT.out j hlt _).mono ?_
      rintro e w9 ⟨rfl, b9⟩
      obtain ⟨ad, u0, ia, ca, fa, hb, -, hset⟩ := own_at (P := Try.prog) (o8.below b9) Try.underlying22 one_u64 (k := 112 + (j : Int)) (by omega) (by rw [setsE_len, HL3.out]; omega)
      have HR := Lib.hid (show OwnW (w9.setCell ad (.int .u64 (pk ⟨1, true, 128 + 4 * (j : Int)⟩).toNat)) w.heap.size 25 x (setsE l3 (j + 1)) ∧ Below w.heap.size w (w9.setCell ad (.int .u64 (pk ⟨1, true, 128 + 4 * (j : Int)⟩).toNat)) from ⟨by rw [setsE, show 112 + j = (112 + (j : Int)).toNat by omega]; exact OwnW.set (hset (.int .u64 (pk ⟨1, true, 128 + 4 * (j : Int)⟩).toNat)), (B8.trans (b9.mono hb8)).setCell (p := ad) hb _⟩)
      clear hset hb o8 B8 b9
      go_wp2
      go_roundg (3 - (j + 1))
      case measure => omega
      case rel => exact ⟨j + 1, by omega, rfl, by go_num, HR⟩
    · obtain rfl : j = 3 := by omega
      have HR := Lib.hid (show OwnW wr w.heap.size 25 x ex23 ∧ Below w.heap.size w wr from ⟨by rw [HX2.out]; exact o8, B8⟩)
      clear o8 B8
      go_wp2
      go_ret
      exact ⟨_, rfl, HR.out⟩
theorem slot23_any (n : Int) (w : World) : Calls Try.prog 22 #[.int .i64 n] w fun e w' => e = .returned (.agg #[.int .i64 n, .int .i64 1]) ∧ Below w.heap.size w w' := by
  have B : Below w.heap.size w w := Below.refl _ _
  go_enter Try.func22, Try.ntmps22
  go_wp2
  exact bodyPost_ret (v := .agg #[.int .i64 n, .int .i64 1]) (by simp [results, Try.results22, go_sem]) rfl ⟨rfl, B.alloc B.size _⟩
set_option maxRecDepth 100000 in
set_option maxHeartbeats 2000000 in
theorem frees23_any (v : Value) (l : List UInt64) (n a sz : Int) (hn : 0 ≤ n ∧ n ≤ 100) (hz : BkOk (freeB sz)) (h0 : fiE l n 1 = 0) (hE : fiL l n 1 = [(112 + n, 4294967296), (a, freeW sz)]) (w : World) (h : Words w v l) :
    Calls Try.prog 27 #[v, .int .i64 n, .int .i64 a, .int .i64 sz] w fun e w' => e = .returned (.bool true) ∧ Below w.heap.size w w' := by
  have B : Below w.heap.size w w := Below.refl _ _
  have H := Lib.hid h
  obtain ⟨x, hx⟩ : ∃ x, x = freeW sz := ⟨_, rfl⟩
  rw [← hx] at hE
  have FT := Lib.hid (fun w h => Free23_any v l n 1 [(112 + n, 4294967296), (a, x)] 0 hE.symm h0.symm w h)
  have OT := Lib.hid (fun w => OfHR_any (freeB sz) hz x hx w)
  have SM := Lib.hid (fun va vb w ha hb => Same22_any va vb [(112 + n, 4294967296), (a, x)] [(112 + n, 4294967296), (a, x)] true (by simp) w ha hb)
  have w1 : IntKind.i64.wrap (112 + n) = 112 + n := IntWalk.i64_in _ (by omega)
  clear h hn hz h0 hE hx
  go_enter Try.func27, Try.ntmps27
  go_wp2_with fail
  refine (slot23_any n _).mono ?_
  rintro e wa1 ⟨rfl, b⟩
  replace B := B.trans (b.mono B.size); clear b
  go_wp2_with fail
  refine (FT.out _ (H.out.below B)).mono ?_
  rintro e wa2 ⟨y, rfl, o1, b⟩
  replace B := B.trans (b.mono B.size); clear b
  have q1 := o1.rd
  clear o1
  go_wp2_with fail
  refine (OT.out _).mono ?_
  rintro e wa3 ⟨rfl, b⟩
  replace q1 := q1.below b; replace B := B.trans (b.mono B.size); clear b
  go_wp2_with fail
  refine (SM.out _ _ _ (Rd.alloc q1 _) (ent_own2 (Nat.le_refl _)).rd).mono ?_
  rintro e w2 ⟨rfl, b⟩
  have hal := B.alloc B.size (.cells #[.int .i64 (112 + n), .int .u64 (4294967296 : UInt64).toNat, .int .i64 a, .int .u64 x.toNat] 47)
  replace B := hal.trans (b.mono hal.size)
  go_wp2
  go_ret
  exact ⟨rfl, B⟩
set_option maxRecDepth 100000 in
set_option maxHeartbeats 2000000 in
theorem alive23_any (w : World) : Calls Try.prog 26 #[] w fun e w' => e = .returned (.bool true) ∧ Below w.heap.size w w' := by
  have B : Below w.heap.size w w := Below.refl _ _
  have EX := Lib.hid (fun w => example23_any w)
  obtain ⟨l, hl⟩ : ∃ l, l = ex23 := ⟨_, rfl⟩
  obtain ⟨l2, hl2⟩ : ∃ l2, l2 = ex23x := ⟨_, rfl⟩
  have S0 := ex23_free; have S1 := ex23_free2
  have hm : l2 = made l (fiL l 1 1) := by rw [hl2, hl]; rfl
  have hln : l.length ≤ 1048576 := by rw [hl, ex23_len]; decide
  rw [← hl] at EX S0
  rw [← hl2] at S1
  obtain ⟨E, hE⟩ : ∃ E, E = fiL l 1 1 := ⟨_, rfl⟩
  rw [← hE] at hm
  have FT := Lib.hid (fun v w h => Free23_any v l 1 1 E 0 hE S0.1.symm w h)
  have F1 := Lib.hid (fun v w h => frees23_any v l 1 132 4 (by decide) (by decide) S0.1 S0.2 w h)
  have F2 := Lib.hid (fun v w h => frees23_any v l2 2 132 124 (by decide) (by decide) S1.1 S1.2 w h)
  have MT := Lib.hid (fun v ev w h he => Made_any v ev l E hln w h he)
  rw [← hm] at MT
  clear hl hl2 S0 S1 hm hln hE
  go_enter Try.func26, Try.ntmps26
  go_wp2_with fail
  refine (EX.out _).mono ?_
  rintro e wa1 ⟨x0, rfl, o0, b⟩
  replace B := B.trans (b.mono B.size); clear b
  go_wp2_with fail
  refine (slot23_any 1 _).mono ?_
  rintro e wa2 ⟨rfl, b⟩
  replace o0 := o0.below b; replace B := B.trans (b.mono B.size); clear b
  go_wp2_with fail
  refine (FT.out _ _ o0.rd).mono ?_
  rintro e wa3 ⟨y, rfl, o1, b⟩
  replace o0 := o0.below b; replace B := B.trans (b.mono B.size); clear b
  go_wp2_with fail
  refine (EX.out _).mono ?_
  rintro e wa4 ⟨x2, rfl, o2, b⟩
  replace o0 := o0.below b; replace o1 := o1.below b; replace B := B.trans (b.mono B.size); clear b
  go_wp2_with fail
  refine (F1.out _ _ o2.rd).mono ?_
  rintro e wa5 ⟨rfl, b⟩
  replace o0 := o0.below b; replace o1 := o1.below b; replace o2 := o2.below b; replace B := B.trans (b.mono B.size); clear b
  go_wp2_with fail
  refine (EX.out _).mono ?_
  rintro e wa6 ⟨x3, rfl, o3, b⟩
  replace o0 := o0.below b; replace o1 := o1.below b; replace o2 := o2.below b; replace B := B.trans (b.mono B.size); clear b
  go_wp2_with fail
  refine (MT.out _ _ _ o3.rd o1.rd).mono ?_
  rintro e wa7 ⟨x4, rfl, o4, b⟩
  replace o0 := o0.below b; replace o1 := o1.below b; replace o2 := o2.below b; replace o3 := o3.below b; replace B := B.trans (b.mono B.size); clear b
  go_wp2_with fail
  refine (F2.out _ _ o4.rd).mono ?_
  rintro e wa8 ⟨rfl, b⟩
  replace o0 := o0.below b; replace o1 := o1.below b; replace o2 := o2.below b; replace o3 := o3.below b; replace o4 := o4.below b; replace B := B.trans (b.mono B.size); clear b
  go_wp2
  go_ret
  exact ⟨rfl, B⟩
end Go.Proofs.Ytiiilaojllmmiaa
namespace Go.Proofs.Ytiiilaojllmmiaa
open Go.RowKit L01 L02 L05 L06 L07 L13 L14 L15 L18 L19
set_option maxRecDepth 100000 in
set_option maxHeartbeats 2000000 in
theorem stale23_any (v ev sv : Value) (l l' : List UInt64) (E : List (Int × UInt64)) (S : List Sl) (k : Nat) (g : Int) (hl : l.length ≤ 1048576) (hl' : l' = made l E) (hS : S.length = 16) (h0 : openErr l' = 0) (hr : resErr l' k g = 28) (hs : ∀ i : Nat, i ≠ k → (slots l')[i]? = S[i]?) (w : World) (h : Words w v l) (he : Ents w ev E) (hsl : Slots w sv S) :
    Calls Try.prog 31 #[v, ev, sv, .agg #[.int .i64 k, .int .i64 g]] w fun e w' => e = .returned (.bool true) ∧ Below w.heap.size w w' := by
  have B : Below w.heap.size w w := Below.refl _ _
  have H := Lib.hid h; have HE := Lib.hid he; have HS := Lib.hid hsl; have H16 := Lib.hid hS; have HSS := Lib.hid hs
  have ls := Rd.len hsl Try.underlying50
  rw [hS] at ls
  have ls16 : ∀ ty W, (Builtin.len_ #[50] ty #[sv]).run Try.prog W = .ok (.int .i64 16) W := ls
  have MT := Lib.hid (fun w h he => Made_any v ev l E hl w h he)
  rw [← hl'] at MT
  obtain ⟨S', hS'⟩ : ∃ S', S' = slots l' := ⟨_, rfl⟩
  have hS16 : S'.length = 16 := by rw [hS']; exact slots_len' h0
  have AT := Lib.hid (fun v w h => All18_own v l' S' hS' h0 w h)
  have RT := Lib.hid (fun v w h => Resolve_any v l' k g 0 28 (by rw [res, hr]; rfl) hr.symm w h)
  rw [← hS'] at HSS
  have H16' := Lib.hid hS16
  clear h he hsl hS hs hl hl' h0 hr hS' hS16 ls
  go_enter Try.func31, Try.ntmps31
  go_upto_region 1 with (fail)
  refine wp_gen (fun Wv => Bx Wv (w.heap.size) (24) (#[.int .i64 k, .int .i64 g]) ∧ Below w.heap.size w Wv) ⟨((Bx.at_ (by simp))), ((Below.refl _ w).alloc (by simp <;> omega) _)⟩ ?_
  rintro wa1 ⟨g1, b⟩
  replace B := B.trans (b.mono B.size); clear b
  have c_g1 := g1.cell; have f_g1 := g1.free; have a_g1 := fun o => (g1.alloc o).cell; have d_g1 := fun o o2 => ((g1.alloc o).alloc o2).cell; have e_g1 := fun o => (g1.alloc o).free
  go_wp2_with fail
  refine (MT.out _ (H.out.below B) (Rd.below HE.out B)).mono ?_
  rintro e wa2 ⟨z, rfl, oz, b⟩
  try clear c_g1 f_g1 a_g1 d_g1 e_g1
  replace g1 := g1.below b; have c_g1 := g1.cell; have f_g1 := g1.free; have a_g1 := fun o => (g1.alloc o).cell; have d_g1 := fun o o2 => ((g1.alloc o).alloc o2).cell; have e_g1 := fun o => (g1.alloc o).free; replace B := B.trans (b.mono B.size); clear b
  have rz := oz.rd
  clear oz
  go_wp2_with fail
  refine (AT.out _ _ rz).mono ?_
  rintro e wa3 ⟨xs, rfl, os, b⟩
  try clear c_g1 f_g1 a_g1 d_g1 e_g1
  replace g1 := g1.below b; have c_g1 := g1.cell; have f_g1 := g1.free; have a_g1 := fun o => (g1.alloc o).cell; have d_g1 := fun o o2 => ((g1.alloc o).alloc o2).cell; have e_g1 := fun o => (g1.alloc o).free; replace rz := rz.below b; replace B := B.trans (b.mono B.size); clear b
  have q1 : Slots wa3 xs S' := os.rd
  clear os
  go_wp2_with fail
  refine (RT.out _ _ rz).mono ?_
  rintro e wa4 ⟨rfl, b⟩
  try clear c_g1 f_g1 a_g1 d_g1 e_g1
  replace g1 := g1.below b; have c_g1 := g1.cell; have f_g1 := g1.free; have a_g1 := fun o => (g1.alloc o).cell; have d_g1 := fun o o2 => ((g1.alloc o).alloc o2).cell; have e_g1 := fun o => (g1.alloc o).free; replace rz := rz.below b; replace q1 := q1.below b; replace B := B.trans (b.mono B.size); clear b
  have l2 := Rd.len q1 Try.underlying50
  rw [H16'.out] at l2
  have l216 : ∀ ty W, (Builtin.len_ #[50] ty #[xs]).run Try.prog W = .ok (.int .i64 16) W := l2
  have HB := Lib.hid (And.intro g1 (And.intro q1 B))
  have HBB := Lib.hid (Below.refl wa4.heap.size wa4)
  have hB1 := B.size
  clear l2 q1 rz g1 B c_g1 f_g1 a_g1 d_g1 e_g1
  go_wp2
  go_loopg [14] 16 (fun gg i wr => ∃ j : Nat, j ≤ 16 ∧ gg = 16 - j ∧ i = .int .i64 j ∧ Hid (Below wa4.heap.size wa4 wr))
  case atStart => exact ⟨0, by omega, by omega, rfl, HBB⟩
  case round =>
    obtain ⟨j, hj, rfl, rfl, hh⟩ := hrel
    clear HBB
    have B2 := hh.out
    clear hh
    have B := HB.out.2.2.trans (B2.mono hB1)
    have g1 := HB.out.1.below B2
    by_cases hlt : j < 16
    · obtain ⟨b, o, s, ia, m0, m1, m2, hsk⟩ := (HS.out.below B).at_ (P := Try.prog) Try.underlying50 size_slot (k := j) (by rw [H16.out]; exact hlt)
      obtain ⟨b', o', t, ib, m3, m4, m5, htk⟩ := (HB.out.2.1.below B2).at_ (P := Try.prog) Try.underlying50 size_slot (k := j) (by rw [H16'.out]; exact hlt)
      have c_1 := g1.cell
      by_cases hb : j = k
      · have hb' : ((j : Int) != (k : Int)) = false := by rw [bne_eq_false_iff_eq]; omega
        have HR := Lib.hid B2
        clear hb hsk htk B2 B g1
        go_wp2
        go_big_quiet (fail)
        go_wp2
        go_roundg (16 - (j + 1))
        case measure => omega
        case rel => exact ⟨j + 1, by omega, rfl, by go_num, Lib.hid (below_drewN HR.out _)⟩
      · have hb' : ((j : Int) != (k : Int)) = true := by rw [bne_iff_ne]; omega
        have hst : s = t := by
          have h3 := HSS.out j hb
          rw [hsk.out, htk.out] at h3
          injection h3 with h3; exact h3.symm
        subst hst
        have q := fun W => slot_neq s s false (by simp) W
        have HR := Lib.hid B2
        clear hb hsk htk B2 B g1
        go_wp2
        go_big_quiet (fail)
        go_wp2
        go_roundg (16 - (j + 1))
        case measure => omega
        case rel => exact ⟨j + 1, by omega, rfl, by go_num, Lib.hid (below_drewN HR.out _)⟩
    · obtain rfl : j = 16 := by omega
      clear g1 B2
      have HR := Lib.hid B
      clear B
      go_wp2
      go_ret
      exact ⟨rfl, HR.out⟩
end Go.Proofs.Ytiiilaojllmmiaa
namespace Go.Proofs.Ytiiilaojllmmiaa.L19
open L02 L07 L13 L14 L15 L16 L18 L20
def sumE (l : List UInt64) : Int := if allErr l = 0 then sumN (freeL l) else 0
theorem sum_bound : ∀ {F : List Hb} {j : Nat}, (∀ c ∈ F, 0 ≤ c.size ∧ c.size ≤ 2000) → F.length ≤ j → 0 ≤ sumN F ∧ sumN F ≤ 2000 * j
  | [], j, _, _ => by simp only [sumN]; omega
  | c :: F, j, h, hl => by
    rw [List.length_cons] at hl
    have h1 := sum_bound (F := F) (j := j - 1) (fun c hc => h c (List.mem_cons_of_mem _ hc)) (by omega)
    have h2 := h c List.mem_cons_self
    rw [sumN]; omega
theorem sumN_app : ∀ (A B : List Hb), sumN (A ++ B) = sumN A + sumN B
  | [], B => by simp [sumN]
  | a :: A, B => by rw [List.cons_append, sumN, sumN, sumN_app A B]; omega
theorem Seg.sum {l : List UInt64} {k q : Nat} {L : List Hb} (h : Seg l k L q) : (q : Int) = k + sumN L := by
  induction h with
  | nil h => simp [sumN]
  | cons hk hs ht ih => rw [sumN, stand_size hs]; omega
theorem sum_parts : ∀ {L : List Hb}, (∀ b ∈ L, b.kind = 1 ∨ b.kind = 2) → sumN L = sumN (free L) + sumN (objs L)
  | [], _ => rfl
  | b :: L, h => by
    have ih := sum_parts (L := L) (fun c hc => h c (List.mem_cons_of_mem _ hc))
    rcases h b List.mem_cons_self with hb | hb
    · have e1 : free (b :: L) = free L := by unfold free; rw [List.filter_cons_of_neg (by simp; omega)]
      have e2 : objs (b :: L) = b :: objs L := by unfold objs; rw [List.filter_cons_of_pos (by simp; omega)]
      rw [e1, e2, sumN, sumN]; omega
    · have e1 : free (b :: L) = b :: free L := by unfold free; rw [List.filter_cons_of_pos (by simp; omega)]
      have e2 : objs (b :: L) = objs L := by unfold objs; rw [List.filter_cons_of_neg (by simp; omega)]
      rw [e1, e2, sumN, sumN]; omega
/-- the words of free extents and of objects are those of the heap -/
theorem sum_all {l : List UInt64} (h : allErr l = 0) : sumN (freeL l) + sumN (O19 l) = (l.length : Int) - 128 := by
  have h1 := (seg_of_all h).1.sum
  have h2 := sum_parts (L := allL l) (fun b hb => by
    obtain ⟨a, _, _, h3, h4, _⟩ := all_mem h hb
    have := (stand_ok h3).bounds
    rw [← h4] at this
    exact this.2.2.2.1)
  have e1 : freeL l = free (allL l) := rfl
  have e2 : O19 l = objs (allL l) := rfl
  rw [e1, e2]; omega
theorem all_pair {l : List UInt64} (h : allErr l = 0) : (allL l).Pairwise fun a b => a.at_ + a.size ≤ b.at_ :=
  (chain_apart (chain_iff.1 (parsed_ok.1 (allErr_ok h).2).1)).2
theorem all_size {l : List UInt64} (h : allErr l = 0) {b : Hb} (hb : b ∈ allL l) : 2 ≤ b.size := by
  obtain ⟨a, _, _, h3, h4, _⟩ := all_mem h hb
  have := (stand_ok h3).bounds
  rw [← h4] at this
  omega
/-- dropping a handle leaves the free extents -/
theorem Hd.dropWords {l : List UInt64} {k a nn q : Nat} {sg : Int} {b : Hb} {t : List UInt8} (h : Hd l k a nn q sg b t) : sumE (made l (diL l k sg)) = sumE l := by
  obtain ⟨d1, d2, d3, d4, d5, d6, d7, d8⟩ := h.drop
  unfold sumE freeL
  rw [if_pos d3.al, if_pos h.rt.al, d7]
/-- freeing an object makes its words free, and takes it away -/
theorem Hd.freeWords {l : List UInt64} {k a nn q : Nat} {sg : Int} {b : Hb} {t : List UInt8} (h : Hd l k a nn q sg b t) (h0 : fiE l k sg = 0) :
    sumE (made l (fiL l k sg)) = sumE l + b.size ∧ ∀ c ∈ allL (made l (fiL l k sg)), ¬ (c.kind = 1 ∧ c.at_ = a) := by
  obtain ⟨i, m, p, f1, f2, f3, f4, f5, f6, f7, f8, f9, f10, f11, f12, f13, P, M, S, g1, g2, g3, g4⟩ := h.free h0
  obtain ⟨l1, hl1⟩ : ∃ l1, l1 = made l (fiL l k sg) := ⟨_, rfl⟩
  rw [← hl1] at f10 f11 g4 ⊢
  have hlen : l1.length = l.length := by rw [hl1, made_len]
  have hm2 : m.kind = 2 := by rw [f2]; rfl
  have hpair := all_pair h.rt.al
  rw [g1] at hpair
  obtain ⟨pa, pb, pc⟩ := List.pairwise_append.1 hpair
  obtain ⟨pd, pe, pf⟩ := List.pairwise_append.1 pb
  have hb2 : 2 ≤ b.size := all_size h.rt.al (by rw [g1]; simp [g2])
  have eO : O19 l = objs P ++ (objs M ++ objs S) := by unfold O19; rw [g1, objs_app, objs_app]
  have eO1 : O19 l1 = objs P ++ objs S := by
    unfold O19
    rw [g4, objs_app, objs_app]
    have : objs [({ m with next := l1.getD (p + 1) 0 } : Hb)] = [] := List.filter_eq_nil_iff.2 fun x hx => by
      rw [List.mem_singleton] at hx; subst hx; simp; omega
    rw [this]; simp
  have hbk : b.kind = 1 := (objs_mem.1 (List.mem_of_getElem? h.ho)).2
  have hM : objs M = [b] := by
    have hall : ∀ c ∈ objs M, c = b := fun c hc => by
      obtain ⟨c1, c2⟩ := objs_mem.1 hc
      refine Decidable.not_not.1 fun hne => ?_
      have := g3 c c1 hne
      omega
    have hmem : b ∈ objs M := objs_mem.2 ⟨g2, hbk⟩
    have hpO : (objs M).Pairwise fun a b => a.at_ + a.size ≤ b.at_ := List.Pairwise.filter _ pd
    cases hoM : objs M with
    | nil => rw [hoM] at hmem; cases hmem
    | cons x xs =>
      cases xs with
      | nil => rw [hall x (by rw [hoM]; simp)]
      | cons y ys =>
        rw [hoM] at hpO
        have h1 := hall x (by rw [hoM]; simp)
        have h2 := hall y (by rw [hoM]; simp)
        have := (List.pairwise_cons.1 hpO).1 y (by simp)
        rw [h1, h2] at this
        omega
  rw [hM] at eO
  constructor
  · have s0 := sum_all h.rt.al
    have s1 := sum_all f10.al
    rw [eO, sumN_app, sumN_app] at s0
    rw [eO1, sumN_app, hlen] at s1
    unfold sumE
    rw [if_pos f10.al, if_pos h.rt.al]
    simp only [sumN] at s0
    omega
  · intro c hc ⟨hk, ha⟩
    rw [g4] at hc
    have hca : c.at_ = b.at_ := by rw [ha, h.hat]
    rcases List.mem_append.1 hc with h1 | h1
    · have := pc c h1 b (List.mem_append.2 (.inl g2))
      have := all_size h.rt.al (b := c) (by rw [g1]; exact List.mem_append.2 (.inl h1))
      omega
    · rcases List.mem_append.1 h1 with h2 | h2
      · rw [List.mem_singleton] at h2
        subst h2
        have hk' : m.kind = 1 := hk
        omega
      · have := pf b g2 c h2
        omega
end Go.Proofs.Ytiiilaojllmmiaa.L19
namespace Go.Proofs.Ytiiilaojllmmiaa
open Go.RowKit L01 L02 L05 L06 L07 L13 L14 L15 L16 L18 L19
set_option maxRecDepth 100000 in
set_option maxHeartbeats 2000000 in
theorem Words16_any (v : Value) (l : List UInt64) (n r : Int) (hn : n = sumE l) (hr : r = allErr l) (w : World) (h : Words w v l) :
    Calls Try.prog 42 #[v] w fun e w' => ∃ x : Int, e = .returned (.tuple #[.int .i64 n, .int .i64 x, .int .i64 r]) ∧ Below w.heap.size w w' := by
  have B : Below w.heap.size w w := Below.refl _ _
  have H := Lib.hid h
  obtain ⟨F, hF⟩ : ∃ F, F = freeL l := ⟨_, rfl⟩
  have FT := Lib.hid (fun w h => FreeW_any v l F r hF hr w h)
  by_cases h0 : r = 0
  case neg =>
    obtain rfl : n = 0 := by rw [hn, sumE, if_neg (by rw [← hr]; exact h0)]
    have n1 : (r != 0) = true := by rw [bne_iff_ne]; exact h0
    clear h hn hr hF h0
    go_enter Try.func42, Try.ntmps42
    go_wp2_with fail
    refine (FT.out _ (H.out.below B)).mono ?_
    rintro e wa1 ⟨xl, rfl, ol, b⟩
    replace B := B.trans (b.mono B.size); clear b
    go_wp2
    go_ret3
    exact ⟨_, rfl, B⟩
  case pos =>
    subst h0
    have hn2 : n = sumN F := by rw [hn, sumE, if_pos hr.symm, hF]
    have hs : ∀ c ∈ F, 0 ≤ c.size ∧ c.size ≤ 2000 := fun c hc => by
      rw [hF] at hc
      obtain ⟨a, h1, h2, h3, h4, _⟩ := all_mem hr.symm (free_mem.1 hc).1
      have := (stand_ok h3).bounds
      rw [← h4] at this
      omega
    have hl9 : F.length ≤ 960 := by rw [hF]; exact Nat.le_trans (List.length_filter_le _ _) (all_len hr.symm)
    obtain ⟨N, hN⟩ : ∃ N, N = F.length := ⟨_, rfl⟩
    have hN9 : N ≤ 960 := by omega
    have HN := Lib.hid hN; have HS := Lib.hid hs; have HR := Lib.hid hn2
    clear h hn hr hF hs hl9 hN hn2
    go_enter Try.func42, Try.ntmps42
    go_wp2_with fail
    refine (FT.out _ (H.out.below B)).mono ?_
    rintro e wa1 ⟨xl, rfl, ol, b⟩
    replace B := B.trans (b.mono B.size); clear b
    have lx := ol.rd.len
    rw [← HN.out] at lx
    have HO := Lib.hid ol.rd
    have hB1 := B.size
    have HB := Lib.hid B
    have HBB := Lib.hid (Below.refl wa1.heap.size wa1)
    clear ol B
    go_wp2
    clear lx
    go_loopg [2, 3, 18] N (fun g sv mv i wr => ∃ j : Nat, ∃ mx : Int, j ≤ N ∧ g = N - j ∧ sv = .int .i64 (sumN (F.take j)) ∧ mv = .int .i64 mx ∧ i = .int .i64 j ∧ Hid (Below wa1.heap.size wa1 wr))
    case atStart => exact ⟨0, 0, by omega, by omega, rfl, rfl, rfl, HBB⟩
    case round =>
      obtain ⟨j, mx, hj, rfl, rfl, rfl, rfl, hh⟩ := hrel
      clear HBB
      have B2 := hh.out
      clear hh
      by_cases hlt : j < N
      · obtain ⟨bb, oo, c, ia, m0, m1, m2, m3, m4, m5, hc, _⟩ := (Blks.below HO.out B2).at_ (k := j) (by rw [← HN.out]; exact hlt)
        obtain ⟨z1, z2⟩ := HS.out c (List.mem_of_getElem? hc.out)
        have htk : F.take (j + 1) = F.take j ++ [c] := by rw [List.take_add_one, hc.out]; rfl
        obtain ⟨s, hs⟩ : ∃ s, s = sumN (F.take j) := ⟨_, rfl⟩
        have hsb : 0 ≤ s ∧ s ≤ 2000 * j := by
          rw [hs]
          exact sum_bound (fun c hc => HS.out c (List.mem_of_mem_take hc)) (by rw [List.length_take]; omega)
        rw [← hs]
        have HT := Lib.hid (show sumN (F.take (j + 1)) = s + c.size by rw [htk, sumN_snoc, ← hs])
        have hw : IntKind.i64.wrap (s + c.size) = s + c.size := IntWalk.i64_in _ (by omega)
        have B := HB.out.trans (B2.mono hB1)
        clear hc htk hs hsb
        go_upto_region 7 with (fail)
        refine wp_gen (fun Wv => Bx Wv (wr.heap.size) (74) (#[.int .i64 c.at_, .int .i64 c.size, .int .i64 c.kind, .int .i64 c.ty, .bool c.mark, .int .u64 c.next.toNat]) ∧ Below wr.heap.size wr Wv) ⟨((Bx.at_ (by simp))), ((Below.refl _ wr).alloc (by simp <;> omega) _)⟩ ?_
        rintro wa2 ⟨g3, b⟩
        replace B2 := B2.trans (b.mono B2.size); replace B := B.trans (b.mono B.size); clear b
        have c_g3 := g3.cell; have f_g3 := g3.free; have a_g3 := fun o => (g3.alloc o).cell; have d_g3 := fun o o2 => ((g3.alloc o).alloc o2).cell; have e_g3 := fun o => (g3.alloc o).free
        have HZ := Lib.hid B2
        clear B B2
        go_wp2
        all_goals
          go_roundg (N - (j + 1))
          case measure => omega
          case rel => exact ⟨j + 1, _, by omega, rfl, by rw [HT.out], rfl, by go_num, HZ⟩
      · obtain rfl : j = N := by omega
        have hfin : sumN (F.take j) = n := by rw [HR.out, HN.out, List.take_length]
        rw [hfin]
        have B := HB.out.trans (B2.mono hB1)
        clear hfin B2
        go_wp2
        go_ret3
        exact ⟨_, rfl, B⟩
end Go.Proofs.Ytiiilaojllmmiaa
namespace Go.Proofs.Ytiiilaojllmmiaa
open Go Go.RowKit
def dep2 (k0 k1 : Nat) (k : Nat) : List Nat := if k = k1 then [k0] else []
def Φ2 (k0 k1 : Nat) (Ψ0 Ψ1 : Value → World → Prop) (k : Nat) (g : Nat → Value) (W : World) : Prop := (k = k0 → Ψ0 (g k0) W) ∧ (k = k1 → Ψ1 (g k1) W)
def V2 (k0 k1 : Nat) (V0 V1 : Value → Prop) (k : Nat) (v : Value) : Prop := (k = k0 → V0 v) ∧ (k = k1 → V1 v)
theorem wp_region_f2 {P : Program} {id : Nat} {Q : Exit → Act → World → Prop} {a : Act} {w : World} {l : List Oper} (n k0 k1 : Nat) (V0 V1 : Value → Prop) (Ψ0 Ψ1 : Value → World → Prop) (hk : k0 ≠ k1) (e0 : ∃ v, V0 v) (e1 : ∃ v, V1 v)
    (hst0 : ∀ v W W', Ψ0 v W → Below W.heap.size W W' → Ψ0 v W') (hst1 : ∀ v W W', Ψ1 v W → Below W.heap.size W W' → Ψ1 v W')
    (hm : P.follows .mixedOrders = true) (hB : Region.lexTailB .any l.toArray n = true)
    (hnj : (([k0, k1] : List Nat).all fun k => decide (k < n) && match l.toArray[k]? with | some o => (dep2 k0 k1 k).all (fun j => ([k0, k1] : List Nat).contains j && o.after.any fun e => Region.binds .any e && e.on == j) | none => false) = true)
    (h : ∀ g, V0 (g k0) → V1 (g k1) → wpM P .any l.toArray (CH w [k0, k1] (dep2 k0 k1) (Φ2 k0 k1 Ψ0 Ψ1) g) (fun i => ([k0, k1] : List Nat).contains i) g (TS P w (dep2 k0 k1) (V2 k0 k1 V0 V1) (Φ2 k0 k1 Ψ0 Ψ1) g)
      (fun a' => ∀ W, Below w.heap.size w W → Ψ0 (g k0) W → Ψ1 (g k1) W → wpList P l.toArray Q (l.drop n) a' W) (l.take n) 0 a) : (Code.region id l.toArray true).wp P Q a w := by
  refine wp_region_ftail n [k0, k1] (dep2 k0 k1) (V2 k0 k1 V0 V1) (Φ2 k0 k1 Ψ0 Ψ1) hm hB hnj ?_ ?_ ?_ ?_
  · intro k hk g W W' h hb
    exact ⟨fun e => hst0 _ _ _ (h.1 e) hb, fun e => hst1 _ _ _ (h.2 e) hb⟩
  · intro k hk g g' W he h
    refine ⟨fun e => ?_, fun e => ?_⟩
    · subst e; rw [← he k (.inl rfl)]; exact h.1 rfl
    · subst e; rw [← he k (.inl rfl)]; exact h.2 rfl
  · intro k _
    obtain ⟨v0, h0⟩ := e0
    obtain ⟨v1, h1⟩ := e1
    by_cases e : k = k0
    · exact ⟨v0, fun _ => h0, fun e' => absurd (e.symm.trans e') hk⟩
    · exact ⟨v1, fun e' => absurd e' e, fun _ => h1⟩
  · intro g hV
    have h1 := h g ((hV k0 (by simp)).1 rfl) ((hV k1 (by simp)).2 rfl)
    have mono : ∀ (C : Array Bool → World → Prop) (nn : Nat → Bool) (T : Nat → Sem Next → Prop) (r : List Oper) (k : Nat) (a' : Act), wpM P .any l.toArray C nn g T
        (fun a' => ∀ W, Below w.heap.size w W → Ψ0 (g k0) W → Ψ1 (g k1) W → wpList P l.toArray Q (l.drop n) a' W) r k a' → wpM P .any l.toArray C nn g T
        (fun a' => ∀ W, Below w.heap.size w W → (∀ k ∈ [k0, k1], Φ2 k0 k1 Ψ0 Ψ1 k g W) → wpList P l.toArray Q (l.drop n) a' W) r k a' := by
      intro C nn T r
      induction r with
      | nil =>
        intro k a' h0 W hW hΦ
        exact h0 W hW ((hΦ k0 (by simp)).1 rfl) ((hΦ k1 (by simp)).2 rfl)
      | cons o r ih => intro k a' h0; obtain ⟨v, h1, h2⟩ := h0; exact ⟨v, h1, ih _ _ h2⟩
    exact mono _ _ _ _ _ _ h1
end Go.Proofs.Ytiiilaojllmmiaa
namespace Go.Proofs.Ytiiilaojllmmiaa.L19
open L02 L05 L06 L07 L13 L14 L15 L16 L18 L20
def rn1 : List UInt64 := (ex23.set 130 132).set 134 132
def rn2 : List UInt64 := rn1.set 130 0
def rn3 : List UInt64 := rn2.set 120 (pk ⟨1, true, 132⟩)
def rn4 : List UInt64 := rn2.set 16 1
theorem rn_len : rn1.length = 256 ∧ rn2.length = 256 ∧ rn3.length = 256 ∧ rn4.length = 256 := by
  refine ⟨?_, ?_, ?_, ?_⟩ <;> simp only [rn4, rn3, rn2, rn1, List.length_set, ex23_len]
theorem rn2_113 : rn2[113]? = some (pk ⟨1, true, 132⟩) := by decide +kernel
theorem rn1_free : fiE rn1 1 1 = 45 := by decide +kernel
theorem rn1_busy : biE rn1 1 1 = true ∧ askI rn1 1 1 = 0 := by decide +kernel
theorem rn2_busy : biE rn2 1 1 = false ∧ askI rn2 1 1 = 0 := by decide +kernel
theorem rn3_free : fiE rn3 1 1 = 45 := by decide +kernel
theorem rn2_far : fiE rn2 16 1 = 2 := by decide +kernel
theorem rn2_old : askI rn2 1 2 = 28 := by decide +kernel
theorem rn2_none : askI rn2 5 0 = 28 := by decide +kernel
theorem rn2_cut : fiE (rn2.take 255) 1 1 = 8 := by decide +kernel
theorem rn3_drop : askI rn3 1 1 = 0 ∧ diL rn3 1 1 = [(113, 4294967296)] := by decide +kernel
theorem rn4_ask : askI rn4 (-1) 0 = 50 ∧ askI rn4 1 1 = 50 := by decide +kernel
theorem rn2_f1 : fiE rn2 1 1 = 0 ∧ fiL rn2 1 1 = [(113, 4294967296), (132, freeW 4)] := by decide +kernel
theorem rn2_f2 : fiE rn2 2 1 = 0 ∧ fiL rn2 2 1 = [(114, 4294967296), (136, freeW 120)] := by decide +kernel
end Go.Proofs.Ytiiilaojllmmiaa.L19
