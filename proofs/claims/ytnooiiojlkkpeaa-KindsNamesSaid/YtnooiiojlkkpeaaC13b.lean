/- Contracts of types: writing. -/
import Derived.Test.YtnooiiojlkkpeaaC13
set_option linter.unusedVariables false
set_option linter.unusedSimpArgs false
namespace Go.Proofs.Ytnooiiojlkkpeaa
open Go.RowKit L02 L05 L13

theorem Of_r (v : Value) (l : List UInt64) (x : UInt64) (hx : x = sum l) (w : World) (h : Words w v l) (hl : l.length ≤ 2048) :
    Calls Try.prog 25 #[v] w fun e w' => e = .returned (.tuple #[.int .u64 x.toNat, .int .i64 0]) ∧ Below w.heap.size w w' := by
  subst hx; exact Of_any v l w h hl
theorem SumR_r (v : Value) (l : List UInt64) (x : UInt64) (hx : x = sum l) (w : World) (h : Words w v l) (hl : l.length ≤ 2100) :
    Calls Try.prog 29 #[v] w fun e w' => e = .returned (.int .u64 x.toNat) ∧ Below w.heap.size w w' := by
  subst hx; exact SumR_any v l w h hl
theorem lit_word {w : World} {e n : Nat} (x : UInt64) (hn : w.heap.size = n) : Words (w.alloc (.cells #[.int .u64 x.toNat] e)) (.slice (some ⟨n, 0, none⟩) 1 1) [x] := by
  subst hn; exact lit_words [x] rfl rfl (by simp)

theorem or_digit {l : List UInt8} {k z N : Nat} {x : UInt8} (h0 : kErr l = 0) (hN : N = l.length) (hx : l[k]? = some x) (hz : z = fN (l.take k) * 256 + N) :
    bits .or .u64 (z : Int) (IntKind.u64.wrap ((x.toNat : Int) * 2 ^ (8 + 2 * k))) = ((fN (l.take (k + 1)) * 256 + N : Nat) : Int) := by
  obtain ⟨h1, h2⟩ := kErr_ok h0
  have hk : k < l.length := (List.getElem?_eq_some_iff.1 hx).1
  have hlt := fN_lt (l.take k) fun y hy => (h2 y (List.mem_of_mem_take hy)).2
  rw [List.length_take, Nat.min_eq_left (by omega)] at hlt
  have e4 : (2 : Nat) ^ (8 + 2 * k) = 4 ^ k * 256 := by rw [Nat.pow_add, Nat.pow_mul, Nat.mul_comm]
  have hp : 4 ^ k ≤ 4 ^ 8 := Nat.pow_le_pow_right (by omega) (by omega)
  have hx3 := (h2 x (List.mem_of_getElem? hx)).2
  have e1 : ((x.toNat : Int) * 2 ^ (8 + 2 * k)) = ((2 ^ (8 + 2 * k) * x.toNat : Nat) : Int) := by
    rw [Int.natCast_mul, Int.natCast_pow, Int.mul_comm]; rfl
  have hb : 2 ^ (8 + 2 * k) * x.toNat ≤ 4 ^ 8 * 256 * 3 := by
    rw [e4]; exact Nat.mul_le_mul (Nat.mul_le_mul_right _ hp) hx3
  simp only [show (4 : Nat) ^ 8 = 65536 from rfl] at hb hp
  have hzl : z < 2 ^ (8 + 2 * k) := by rw [e4]; omega
  have ew : IntKind.u64.wrap ((2 ^ (8 + 2 * k) * x.toNat : Nat) : Int) = ((2 ^ (8 + 2 * k) * x.toNat : Nat) : Int) := by
    rw [wrap_u64]
    generalize 2 ^ (8 + 2 * k) * x.toNat = q at hb
    omega
  rw [e1, ew, or_int (8 + 2 * k) x.toNat (by omega) (by exact_mod_cast hzl) rfl (by omega) (by generalize 2 ^ (8 + 2 * k) * x.toNat = q at hb; omega)]
  rw [fN_take hx, hz, e4]
  have : 4 ^ k * 256 * x.toNat = x.toNat * 4 ^ k * 256 := by rw [Nat.mul_comm, Nat.mul_assoc]
  omega

set_option maxHeartbeats 1000000 in
theorem KWrite_any (v : Value) (l : List UInt8) (a b : UInt64) (r : Int) (ha : a = w0 l) (hb : b = w1 l) (hr : r = kErr l) (w : World) (h : Byts w v l) :
    Calls Try.prog 12 #[v] w fun e w' => e = .returned (.tuple #[.agg #[.int .u64 a.toNat, .int .u64 b.toNat], .int .i64 r]) ∧ Below w.heap.size w w' := by
  have B : Below w.heap.size w w := Below.refl _ _
  have l1 := Rd.len h Try.underlying22
  obtain ⟨N, hN⟩ : ∃ N, N = l.length := ⟨_, rfl⟩
  rw [← hN] at l1
  have CT := fun w h => KCheck_any v l r hr w h
  have HC := Lib.hid CT; have H := Lib.hid h; clear CT h
  by_cases h0 : kErr l = 0
  · have hs : N ≤ 8 := by rw [hN]; exact kErr_len h0
    rw [h0] at hr
    subst hr
    have HN := Lib.hid hN; have H0 := Lib.hid h0
    have an : a.toNat = firstN l := by rw [ha]; exact w0_nat h0
    have hb' : b = sum [a] := by rw [hb, w1, if_pos h0, ha]
    have HAN := Lib.hid an; have HB := Lib.hid hb'
    clear hN h0 ha hb an hb'
    go_enter Try.func12, Try.ntmps12
    go_upto_region 1 with (fail)
    refine wp_gen (fun Wv => Bx Wv (w.heap.size) (29) (#[.int .u64 0, .int .u64 0]) ∧ Below w.heap.size w Wv) ⟨((Bx.at_ (by simp))), ((Below.refl _ w).alloc (by simp <;> omega) _)⟩ ?_
    rintro w' ⟨g2, b⟩
    replace B := B.trans (b.mono B.size); clear b
    have c_g2 := g2.cell; have f_g2 := g2.free; have a_g2 := fun o => (g2.alloc o).cell; have d_g2 := fun o o2 => ((g2.alloc o).alloc o2).cell; have e_g2 := fun o => (g2.alloc o).free
    go_wp2_with fail
    refine (HC.out _ (H.out.below B)).mono ?_
    rintro e w2 ⟨rfl, rfl⟩
    obtain ⟨w3, hw3⟩ : ∃ w3, w3 = w' := ⟨_, rfl⟩
    subst hw3
    go_wp2
    have HG := Lib.hid g2; have HBB := Lib.hid B; have HL := Lib.hid (H.out.below B)
    clear c_g2 f_g2 a_g2 d_g2 e_g2 g2 B
    go_loop [5, 21] (fun y i => ∃ k z : Nat, k ≤ N ∧ i = .int .i64 k ∧ y = .int .u64 (z : Int) ∧ Hid (z = fN (l.take k) * 256 + N)) (fun _ i => N - (intOf i).toNat)
    case atStart => exact ⟨0, N, Nat.zero_le _, rfl, by simp, Lib.hid (by simp [fN])⟩
    case round =>
      obtain ⟨k, z, hk, rfl, rfl, hz⟩ := hrel
      by_cases hlt : k < N
      · obtain ⟨ad, x, ia, ca, hx⟩ := HL.out.at_ (P := Try.prog) Try.underlying22 one_u8 (k := k) (by have := HN.out; omega)
        have hxl := x.toNat_lt
        go_wp2
        refine ⟨⟨k + 1, fN (l.take (k + 1)) * 256 + N, by omega, by go_num, ?_, Lib.hid rfl⟩, ?_⟩
        · rw [or_digit H0.out HN.out hx.out hz.out]
        · simp [intOf]; omega
      · obtain rfl : k = N := by omega
        have hza : z = a.toNat := by rw [hz.out, HAN.out, firstN, HN.out, List.take_length]
        subst hza
        have OT := fun v w h => Of_r v [a] b HB.out w h (by simp)
        have HO := Lib.hid OT; clear OT
        go_wp2_with fail
        refine (HO.out _ _ (lit_word a rfl)).mono ?_
        rintro e w4 ⟨rfl, bb⟩
        have g2 := HG.out.below ((Below.refl _ _).alloc (Nat.le_refl _) (.cells #[.int .u64 a.toNat] 23))
        replace g2 := g2.below bb
        have B := (HBB.out.alloc HBB.out.size (.cells #[.int .u64 a.toNat] 23)).trans (bb.mono (Nat.le_trans HBB.out.size (by simp)))
        have k2 := g2.cell; have l2 := g2.free
        clear bb g2
        go_wp2
        refine bodyPost_ret (v := .tuple #[.agg #[.int .u64 a.toNat, .int .u64 b.toNat], .int .i64 0]) (by simp [results, Try.results12, go_sem, k2, l2]) rfl ⟨rfl, ?_⟩
        (repeat (first | refine Below.setCell ?_ (by first | exact Nat.le_refl _ | (simp <;> omega)) _ | refine Below.alloc ?_ (by first | exact B.size | (have := B.size; simp <;> omega)) _)); exact B
  · have hne : (r != 0) = true := by rw [bne_iff_ne, hr]; exact h0
    have ha0 : a = 0 := by rw [ha, w0, if_neg h0]
    have hb0 : b = 0 := by rw [hb, w1, if_neg h0]
    subst ha0 hb0
    clear ha hb hr h0 hN
    go_enter Try.func12, Try.ntmps12
    go_upto_region 1 with (fail)
    refine wp_gen (fun Wv => Bx Wv (w.heap.size) (29) (#[.int .u64 0, .int .u64 0]) ∧ Below w.heap.size w Wv) ⟨((Bx.at_ (by simp))), ((Below.refl _ w).alloc (by simp <;> omega) _)⟩ ?_
    rintro w' ⟨g2, b⟩
    replace B := B.trans (b.mono B.size); clear b
    have c_g2 := g2.cell; have f_g2 := g2.free; have a_g2 := fun o => (g2.alloc o).cell; have d_g2 := fun o o2 => ((g2.alloc o).alloc o2).cell; have e_g2 := fun o => (g2.alloc o).free
    go_wp2_with fail
    refine (HC.out _ (H.out.below B)).mono ?_
    rintro e w2 ⟨rfl, rfl⟩
    go_wp2
    refine bodyPost_ret (v := .tuple #[.agg #[.int .u64 0, .int .u64 0], .int .i64 r]) (by simp [results, Try.results12, go_sem, c_g2, f_g2, a_g2, e_g2]) rfl ?_
    refine ⟨rfl, ?_⟩
    (repeat (first | refine Below.setCell ?_ (by first | exact Nat.le_refl _ | (simp <;> omega)) _ | refine Below.alloc ?_ (by first | exact B.size | (have := B.size; simp <;> omega)) _)); exact B

set_option maxHeartbeats 1000000 in
theorem FirstR_any (v : Value) (l : List UInt8) (a : UInt64) (ha : a = w0 l) (h0 : kErr l = 0) (w : World) (h : Byts w v l) :
    Calls Try.prog 28 #[v] w fun e w' => e = .returned (.int .u64 a.toNat) ∧ w = w' := by
  have l1 := Rd.len h Try.underlying22
  obtain ⟨N, hN⟩ : ∃ N, N = l.length := ⟨_, rfl⟩
  rw [← hN] at l1
  have hs : N ≤ 8 := by rw [hN]; exact kErr_len h0
  have H := Lib.hid h; have HN := Lib.hid hN; have H0 := Lib.hid h0
  have an : a.toNat = firstN l := by rw [ha]; exact w0_nat h0
  have HAN := Lib.hid an
  clear h hN h0 ha an
  go_enter Try.func28, Try.ntmps28
  go_wp2
  go_loop [3, 4] (fun y i => ∃ k z : Nat, k ≤ N ∧ i = .int .i64 ((k : Int) - 1) ∧ y = .int .u64 (z : Int) ∧ z < 65536 ∧ Hid (z = fN (l.drop k))) (fun _ i => (intOf i + 1).toNat)
  case atStart => exact ⟨N, 0, Nat.le_refl _, by go_num, rfl, by omega, Lib.hid (by rw [List.drop_of_length_le (by rw [HN.out]; exact Nat.le_refl _)]; rfl)⟩
  case round =>
    obtain ⟨k, z, hk, rfl, rfl, hzl, hz⟩ := hrel
    by_cases hlt : 0 < k
    · obtain ⟨j, rfl⟩ : ∃ j, k = j + 1 := ⟨k - 1, by omega⟩
      have ej : (((j + 1 : Nat) : Int) - 1) = (j : Int) := by omega
      rw [ej]
      obtain ⟨ad, x, ia, ca, hx⟩ := H.out.at_ (P := Try.prog) Try.underlying22 one_u8 (k := j) (by have := HN.out; omega)
      have hxl := x.toNat_lt
      have hfl := fN_lt (l.drop j) fun y hy => ((kErr_ok H0.out).2 y (List.mem_of_mem_drop hy)).2
      have hp := pow4_le (n := (l.drop j).length) (by rw [List.length_drop]; have := HN.out; omega)
      have hfd := fN_drop hx.out
      have hsm : z * 4 + x.toNat < 65536 := by rw [hz.out]; omega
      have HFD := Lib.hid hfd; clear hfl hp hfd ej
      go_wp2
      go_round
      case rel => exact ⟨j, z * 4 + x.toNat, by omega, by go_num, by go_num, hsm, Lib.hid (by have h5 := HFD.out; have h6 := hz.out; omega)⟩
      case measure => simp [intOf] <;> omega
    · obtain rfl : k = 0 := by omega
      go_wp2
      go_ret
      refine ⟨ret_int ?_, rfl⟩
      have h1 := HAN.out; have h2 := hz.out; have h3 := HN.out
      rw [List.drop_zero] at h2
      rw [h1, firstN, ← h2, ← h3]
      try omega

set_option maxHeartbeats 1000000 in
theorem KWriteR_any (v : Value) (l : List UInt8) (a b : UInt64) (r : Int) (ha : a = w0 l) (hb : b = w1 l) (hr : r = kErr l) (w : World) (h : Byts w v l) :
    Calls Try.prog 13 #[v] w fun e w' => e = .returned (.tuple #[.agg #[.int .u64 a.toNat, .int .u64 b.toNat], .int .i64 r]) ∧ Below w.heap.size w w' := by
  have B : Below w.heap.size w w := Below.refl _ _
  have CT := fun w h => KCheckR_any v l r hr w h
  have HC := Lib.hid CT; have H := Lib.hid h; clear CT h
  by_cases h0 : kErr l = 0
  · have FT := fun w h => FirstR_any v l a ha h0 w h
    have ST := fun v w h => SumR_r v [a] b (by rw [hb, w1, if_pos h0, ha]) w h (by simp)
    have HF := Lib.hid FT; have HS := Lib.hid ST
    rw [h0] at hr
    subst hr
    clear FT ST h0 ha hb
    go_enter Try.func13, Try.ntmps13
    go_upto_region 1 with (fail)
    refine wp_gen (fun Wv => Bx Wv (w.heap.size) (29) (#[.int .u64 0, .int .u64 0]) ∧ Below w.heap.size w Wv) ⟨((Bx.at_ (by simp))), ((Below.refl _ w).alloc (by simp <;> omega) _)⟩ ?_
    rintro w' ⟨g2, b⟩
    replace B := B.trans (b.mono B.size); clear b
    have c_g2 := g2.cell; have f_g2 := g2.free; have a_g2 := fun o => (g2.alloc o).cell; have d_g2 := fun o o2 => ((g2.alloc o).alloc o2).cell; have e_g2 := fun o => (g2.alloc o).free
    go_wp2_with fail
    refine (HC.out _ (H.out.below B)).mono ?_
    rintro e w2 ⟨rfl, rfl⟩
    go_wp2_with fail
    refine (HF.out _ (H.out.below B)).mono ?_
    rintro e w2 ⟨rfl, rfl⟩
    go_wp2_with fail
    refine (HF.out _ (H.out.below B)).mono ?_
    rintro e w2 ⟨rfl, rfl⟩
    go_wp2_with fail
    refine (HS.out _ _ (lit_word a rfl)).mono ?_
    rintro e w4 ⟨rfl, bb⟩
    clear c_g2 f_g2 a_g2 d_g2 e_g2
    replace g2 := (g2.below ((Below.refl _ _).alloc (Nat.le_refl _) (.cells #[.int .u64 a.toNat] 23))).below bb
    replace B := (B.alloc B.size (.cells #[.int .u64 a.toNat] 23)).trans (bb.mono (Nat.le_trans B.size (by simp)))
    have k2 := g2.cell; have l2 := g2.free
    clear bb
    go_wp2
    refine bodyPost_ret (v := .tuple #[.agg #[.int .u64 a.toNat, .int .u64 b.toNat], .int .i64 0]) (by simp [results, Try.results13, go_sem, k2, l2]) rfl ⟨rfl, ?_⟩
    (repeat (first | refine Below.setCell ?_ (by first | exact Nat.le_refl _ | (simp <;> omega)) _ | refine Below.alloc ?_ (by first | exact B.size | (have := B.size; simp <;> omega)) _)); exact B
  · have hne : (r != 0) = true := by rw [bne_iff_ne, hr]; exact h0
    have ha0 : a = 0 := by rw [ha, w0, if_neg h0]
    have hb0 : b = 0 := by rw [hb, w1, if_neg h0]
    subst ha0 hb0
    clear ha hb hr h0
    go_enter Try.func13, Try.ntmps13
    go_upto_region 1 with (fail)
    refine wp_gen (fun Wv => Bx Wv (w.heap.size) (29) (#[.int .u64 0, .int .u64 0]) ∧ Below w.heap.size w Wv) ⟨((Bx.at_ (by simp))), ((Below.refl _ w).alloc (by simp <;> omega) _)⟩ ?_
    rintro w' ⟨g2, b⟩
    replace B := B.trans (b.mono B.size); clear b
    have c_g2 := g2.cell; have f_g2 := g2.free; have a_g2 := fun o => (g2.alloc o).cell; have d_g2 := fun o o2 => ((g2.alloc o).alloc o2).cell; have e_g2 := fun o => (g2.alloc o).free
    go_wp2_with fail
    refine (HC.out _ (H.out.below B)).mono ?_
    rintro e w2 ⟨rfl, rfl⟩
    go_wp2_with fail
    refine (HC.out _ (H.out.below B)).mono ?_
    rintro e w2 ⟨rfl, rfl⟩
    go_wp2
    refine bodyPost_ret (v := .tuple #[.agg #[.int .u64 0, .int .u64 0], .int .i64 r]) (by simp [results, Try.results13, go_sem, c_g2, f_g2, a_g2, e_g2]) rfl ?_
    refine ⟨rfl, ?_⟩
    (repeat (first | refine Below.setCell ?_ (by first | exact Nat.le_refl _ | (simp <;> omega)) _ | refine Below.alloc ?_ (by first | exact B.size | (have := B.size; simp <;> omega)) _)); exact B
end Go.Proofs.Ytnooiiojlkkpeaa
