/- Contracts of the functions that the laws 'N' reach, part 4. No condition. -/
import Derived.Test.YtodbbacmdjcheaaMNc
set_option linter.unusedVariables false
set_option linter.unusedSimpArgs false
namespace Go.Proofs.Ytodbbacmdjcheaa
open Go.RowKit L02 L05 L13
set_option maxHeartbeats 600000 in
theorem KCheck_any (v : Value) (l : List UInt8) (r : Int) (hr : r = kErr l) (w : World) (h : Byts w v l) : Calls Try.prog 66 #[v] w fun e w' => e = .returned (.int .i64 r) ∧ w = w' := by
  have l1 := Rd.len h Try.underlying69
  obtain ⟨N, hN⟩ : ∃ N, N = l.length := ⟨_, rfl⟩
  rw [← hN] at l1
  have HN := Lib.hid hN; have H := Lib.hid h; have HR := Lib.hid hr; clear hN h hr
  by_cases hbig : 8 < N
  · go_enter Try.func66, Try.ntmps66
    go_wp2
    go_ret
    exact ⟨ret_int (by rw [HR.out, kErr_many (by have := HN.out; omega)]), rfl⟩
  · have hs : N ≤ 8 := by omega
    clear hbig
    go_enter Try.func66, Try.ntmps66
    go_wp2
    go_loop [10] (fun i => ∃ k : Nat, k ≤ N ∧ i = .int .i64 k ∧ Hid (∀ x ∈ l.take k, 1 ≤ x.toNat ∧ x.toNat ≤ 3)) (fun i => N - (intOf i).toNat)
    case atStart => exact ⟨0, Nat.zero_le _, rfl, Lib.hid (by simp)⟩
    case round =>
      obtain ⟨k, hk, rfl, hh⟩ := hrel
      by_cases hlt : k < N
      · obtain ⟨ad, x, ia, ca, hx⟩ := H.out.at_ (P := Try.prog) Try.underlying69 one_u8 (k := k) (by have := HN.out; omega)
        by_cases hg : 1 ≤ x.toNat ∧ x.toNat ≤ 3
        · obtain ⟨h1, h2⟩ := hg
          go_wp2
          go_round
          case rel =>
            refine ⟨k + 1, by omega, by go_num, Lib.hid ?_⟩
            intro y hy
            rw [List.take_add_one, hx.out] at hy
            rcases List.mem_append.1 hy with hy | hy
            · exact hh.out y hy
            · simp at hy; subst hy; exact ⟨h1, h2⟩
          case measure => simp [intOf]; omega
        · have hcase : x.toNat < 1 ∨ 1 ≤ x.toNat ∧ 3 < x.toNat := by omega
          have hb := kErr_bad (by have := HN.out; omega) hx.out hg
          have HB := Lib.hid hb; clear hb hg
          rcases hcase with h1 | ⟨h1, h2⟩
          all_goals
            go_wp2
            go_ret
            exact ⟨ret_int (by rw [HR.out, HB.out]), rfl⟩
      · obtain rfl : k = N := by omega
        go_wp2
        go_ret
        refine ⟨ret_int ?_, rfl⟩
        rw [HR.out, kErr_of (by have := HN.out; omega)]
        have := hh.out
        rw [List.take_of_length_le (by have := HN.out; omega)] at this
        exact this
theorem kErr_len {l : List UInt8} (h : kErr l = 0) : l.length ≤ 8 := (kErr_ok h).1
set_option maxHeartbeats 600000 in
theorem KSize_any (v : Value) (l : List UInt8) (n r : Int) (hn : n = kSize l) (hr : r = kErr l) (w : World) (h : Byts w v l) : Calls Try.prog 47 #[v] w fun e w' => e = .returned (.tuple #[.int .i64 n, .int .i64 r]) ∧ w = w' := by
  have l1 := Rd.len h Try.underlying69
  obtain ⟨N, hN⟩ : ∃ N, N = l.length := ⟨_, rfl⟩
  rw [← hN] at l1
  have CT := fun w h => KCheck_any v l r hr w h
  have HC := Lib.hid CT; have H := Lib.hid h; clear CT h
  by_cases h0 : kErr l = 0
  · have hs : N ≤ 8 := by rw [hN]; exact kErr_len h0
    have hk : n = 2 + ((N + 1) / 2 * 2 : Nat) := by rw [hn, kSize, if_pos h0, hN]
    rw [h0] at hr
    have HK := Lib.hid hk
    subst hr
    clear hn h0 hN hk
    go_enter Try.func47, Try.ntmps47
    go_wp2_with fail
    refine (HC.out _ H.out).mono ?_
    rintro e w' ⟨rfl, rfl⟩
    go_wp2
    go_ret2
    exact ⟨by rw [HK.out]; exact congrArg (fun z => Ending.returned (.tuple #[.int .i64 z, .int .i64 0])) (by omega), rfl⟩
  · have hne : (r != 0) = true := by rw [bne_iff_ne, hr]; exact h0
    have hk : n = 0 := by rw [hn, kSize, if_neg h0]
    subst hk
    clear hn h0 hN hr
    go_enter Try.func47, Try.ntmps47
    go_wp2_with fail
    refine (HC.out _ H.out).mono ?_
    rintro e w' ⟨rfl, rfl⟩
    go_wp2
    go_ret2
    exact ⟨rfl, rfl⟩
end Go.Proofs.Ytodbbacmdjcheaa

namespace Go.Proofs.Ytodbbacmdjcheaa
open Go.RowKit L02 L05 L13
theorem Of_r (v : Value) (l : List UInt64) (x : UInt64) (hx : x = sum l) (w : World) (h : Words w v l) (hl : l.length ≤ 2048) :
    Calls Try.prog 67 #[v] w fun e w' => e = .returned (.tuple #[.int .u64 x.toNat, .int .i64 0]) ∧ Below w.heap.size w w' := by
  subst hx; exact Of_any v l w h hl
theorem lit_word {w : World} {e n : Nat} (x : UInt64) (hn : w.heap.size = n) : Words (w.alloc (.cells #[.int .u64 x.toNat] e)) (.slice (some ⟨n, 0, none⟩) 1 1) [x] := by
  subst hn; exact lit_words [x] rfl rfl (by simp)
theorem or_digit {l : List UInt8} {k z N : Nat} {x : UInt8} (h0 : kErr l = 0) (hN : N = l.length) (hx : l[k]? = some x) (hz : z = fN (l.take k) * 256 + N) :
    bits .or .u64 (z : Int) (IntKind.u64.wrap ((x.toNat : Int) * 2 ^ (8 + 2 * k))) = ((fN (l.take (k + 1)) * 256 + N : Nat) : Int) := by
  obtain ⟨h1, h2⟩ := kErr_ok h0
  have hk : k < l.length := (List.getElem?_eq_some_iff.1 hx).1
  have hlt := fN_lt (l.take k) fun y hy => (h2 y (List.mem_of_mem_take hy)).2
  rw [List.length_take, Nat.min_eq_left (by omega)] at hlt
  have e4 : (2 : Nat) ^ (8 + 2 * k) = 4 ^ k * 256 := by rw [Nat.pow_add, Nat.pow_mul, Nat.mul_comm]
  have hp : 4 ^ k ≤ 4 ^ 8 := Nat.pow_le_pow_right (by omega) (by omega)
  have hx3 := (h2 x (List.mem_of_getElem? hx)).2
  have e1 : ((x.toNat : Int) * 2 ^ (8 + 2 * k)) = ((2 ^ (8 + 2 * k) * x.toNat : Nat) : Int) := by
    rw [Int.natCast_mul, Int.natCast_pow, Int.mul_comm]; rfl
  have hb : 2 ^ (8 + 2 * k) * x.toNat ≤ 4 ^ 8 * 256 * 3 := by
    rw [e4]; exact Nat.mul_le_mul (Nat.mul_le_mul_right _ hp) hx3
  simp only [show (4 : Nat) ^ 8 = 65536 from rfl] at hb hp
  have hzl : z < 2 ^ (8 + 2 * k) := by rw [e4]; omega
  have ew : IntKind.u64.wrap ((2 ^ (8 + 2 * k) * x.toNat : Nat) : Int) = ((2 ^ (8 + 2 * k) * x.toNat : Nat) : Int) := by
    rw [wrap_u64]
    generalize 2 ^ (8 + 2 * k) * x.toNat = q at hb
    omega
  rw [e1, ew, or_int (8 + 2 * k) x.toNat (by omega) (by exact_mod_cast hzl) rfl (by omega) (by generalize 2 ^ (8 + 2 * k) * x.toNat = q at hb; omega)]
  rw [fN_take hx, hz, e4]
  have : 4 ^ k * 256 * x.toNat = x.toNat * 4 ^ k * 256 := by rw [Nat.mul_comm, Nat.mul_assoc]
  omega
set_option maxHeartbeats 1000000 in
theorem KWrite_any (v : Value) (l : List UInt8) (a b : UInt64) (r : Int) (ha : a = w0 l) (hb : b = w1 l) (hr : r = kErr l) (w : World) (h : Byts w v l) :
    Calls Try.prog 34 #[v] w fun e w' => e = .returned (.tuple #[.agg #[.int .u64 a.toNat, .int .u64 b.toNat], .int .i64 r]) ∧ Below w.heap.size w w' := by
  have B : Below w.heap.size w w := Below.refl _ _
  have l1 := Rd.len h Try.underlying69
  obtain ⟨N, hN⟩ : ∃ N, N = l.length := ⟨_, rfl⟩
  rw [← hN] at l1
  have CT := fun w h => KCheck_any v l r hr w h
  have HC := Lib.hid CT; have H := Lib.hid h; clear CT h
  by_cases h0 : kErr l = 0
  · have hs : N ≤ 8 := by rw [hN]; exact kErr_len h0
    rw [h0] at hr
    subst hr
    have HN := Lib.hid hN; have H0 := Lib.hid h0
    have an : a.toNat = firstN l := by rw [ha]; exact w0_nat h0
    have hb' : b = sum [a] := by rw [hb, w1, if_pos h0, ha]
    have HAN := Lib.hid an; have HB := Lib.hid hb'
    clear hN h0 ha hb an hb'
    go_enter Try.func34, Try.ntmps34
    go_upto_region 1 with (fail)
    refine wp_gen (fun Wv => Bx Wv (w.heap.size) (76) (#[.int .u64 0, .int .u64 0]) ∧ Below w.heap.size w Wv) ⟨((Bx.at_ (by simp))), ((Below.refl _ w).alloc (by simp <;> omega) _)⟩ ?_
    rintro w' ⟨g2, b⟩
    replace B := B.trans (b.mono B.size); clear b
    have c_g2 := g2.cell; have f_g2 := g2.free; have a_g2 := fun o => (g2.alloc o).cell; have d_g2 := fun o o2 => ((g2.alloc o).alloc o2).cell; have e_g2 := fun o => (g2.alloc o).free
    go_wp2_with fail
    refine (HC.out _ (H.out.below B)).mono ?_
    rintro e w2 ⟨rfl, rfl⟩
    obtain ⟨w3, hw3⟩ : ∃ w3, w3 = w' := ⟨_, rfl⟩
    subst hw3
    go_wp2
    have HG := Lib.hid g2; have HBB := Lib.hid B; have HL := Lib.hid (H.out.below B)
    clear c_g2 f_g2 a_g2 d_g2 e_g2 g2 B
    go_loop [5, 21] (fun y i => ∃ k z : Nat, k ≤ N ∧ i = .int .i64 k ∧ y = .int .u64 (z : Int) ∧ Hid (z = fN (l.take k) * 256 + N)) (fun _ i => N - (intOf i).toNat)
    case atStart => exact ⟨0, N, Nat.zero_le _, rfl, by simp, Lib.hid (by simp [fN])⟩
    case round =>
      obtain ⟨k, z, hk, rfl, rfl, hz⟩ := hrel
      by_cases hlt : k < N
      · obtain ⟨ad, x, ia, ca, hx⟩ := HL.out.at_ (P := Try.prog) Try.underlying69 one_u8 (k := k) (by have := HN.out; omega)
        have hxl := x.toNat_lt
        go_wp2
        refine ⟨⟨k + 1, fN (l.take (k + 1)) * 256 + N, by omega, by go_num, ?_, Lib.hid rfl⟩, ?_⟩
        · rw [or_digit H0.out HN.out hx.out hz.out]
        · simp [intOf]; omega
      · obtain rfl : k = N := by omega
        have hza : z = a.toNat := by rw [hz.out, HAN.out, firstN, HN.out, List.take_length]
        subst hza
        have OT := fun v w h => Of_r v [a] b HB.out w h (by simp)
        have HO := Lib.hid OT; clear OT
        go_wp2_with fail
        refine (HO.out _ _ (lit_word a rfl)).mono ?_
        rintro e w4 ⟨rfl, bb⟩
        have g2 := HG.out.below ((Below.refl _ _).alloc (Nat.le_refl _) (.cells #[.int .u64 a.toNat] 64))
        replace g2 := g2.below bb
        have B := (HBB.out.alloc HBB.out.size (.cells #[.int .u64 a.toNat] 64)).trans (bb.mono (Nat.le_trans HBB.out.size (by simp)))
        have k2 := g2.cell; have l2 := g2.free
        clear bb g2
        go_wp2
        refine bodyPost_ret (v := .tuple #[.agg #[.int .u64 a.toNat, .int .u64 b.toNat], .int .i64 0]) (by simp [results, Try.results34, go_sem, k2, l2]) rfl ⟨rfl, ?_⟩
        (repeat (first | refine Below.setCell ?_ (by first | exact Nat.le_refl _ | (simp <;> omega)) _ | refine Below.alloc ?_ (by first | exact B.size | (have := B.size; simp <;> omega)) _)); exact B
  · have hne : (r != 0) = true := by rw [bne_iff_ne, hr]; exact h0
    have ha0 : a = 0 := by rw [ha, w0, if_neg h0]
    have hb0 : b = 0 := by rw [hb, w1, if_neg h0]
    subst ha0 hb0
    clear ha hb hr h0 hN
    go_enter Try.func34, Try.ntmps34
    go_upto_region 1 with (fail)
    refine wp_gen (fun Wv => Bx Wv (w.heap.size) (76) (#[.int .u64 0, .int .u64 0]) ∧ Below w.heap.size w Wv) ⟨((Bx.at_ (by simp))), ((Below.refl _ w).alloc (by simp <;> omega) _)⟩ ?_
    rintro w' ⟨g2, b⟩
    replace B := B.trans (b.mono B.size); clear b
    have c_g2 := g2.cell; have f_g2 := g2.free; have a_g2 := fun o => (g2.alloc o).cell; have d_g2 := fun o o2 => ((g2.alloc o).alloc o2).cell; have e_g2 := fun o => (g2.alloc o).free
    go_wp2_with fail
    refine (HC.out _ (H.out.below B)).mono ?_
    rintro e w2 ⟨rfl, rfl⟩
    go_wp2
    refine bodyPost_ret (v := .tuple #[.agg #[.int .u64 0, .int .u64 0], .int .i64 r]) (by simp [results, Try.results34, go_sem, c_g2, f_g2, a_g2, e_g2]) rfl ?_
    refine ⟨rfl, ?_⟩
    (repeat (first | refine Below.setCell ?_ (by first | exact Nat.le_refl _ | (simp <;> omega)) _ | refine Below.alloc ?_ (by first | exact B.size | (have := B.size; simp <;> omega)) _)); exact B
end Go.Proofs.Ytodbbacmdjcheaa
namespace Go.Proofs.Ytodbbacmdjcheaa
open Go.RowKit
section
variable {P : Program}
theorem run_eqItems_words (d : Nat) {e : TypeId} (he : P.underlying e = some (.int .u64)) (hp : ∀ (X : Array Value) (j : Nat) (u : Value) (w : World), X[j]? = some u → (part e X j).run P w = .ok u w) :
    ∀ (m k : Nat) (l1 l2 : List UInt64) (w : World), k + m ≤ l1.length → k + m ≤ l2.length →
    (Op.eqItems (d + 1) e 1 (l1.map u64).toArray (l2.map u64).toArray (List.range' k m)).run P w = .ok (decide ((l1.drop k).take m = (l2.drop k).take m)) w
  | 0, k, l1, l2, w, _, _ => by simp [Op.eqItems]
  | m + 1, k, l1, l2, w, h1, h2 => by
    have e1 : (l1.map u64).toArray[k]? = some (u64 (l1[k]'(by omega))) := by simp [show k < l1.length by omega]
    have e2 : (l2.map u64).toArray[k]? = some (u64 (l2[k]'(by omega))) := by simp [show k < l2.length by omega]
    have ih := run_eqItems_words d he hp m (k + 1) l1 l2 w (by omega) (by omega)
    rw [List.range'_succ]
    simp only [Op.eqItems, Nat.mul_one, Sem.run_bind, hp _ _ _ _ e1, hp _ _ _ _ e2, Result.andThen_ok]
    rw [show (Op.equalIn (d + 1) e (u64 (l1[k]'(by omega))) (u64 (l2[k]'(by omega)))).run P w = .ok (((l1[k]'(by omega)).toNat : Int) == ((l2[k]'(by omega)).toNat : Int)) w from run_equalIn_int w d e .u64 .u64 _ _ he]
    rw [List.drop_eq_getElem_cons (show k < l1.length by omega), List.drop_eq_getElem_cons (show k < l2.length by omega), List.take_succ_cons, List.take_succ_cons]
    by_cases hx : l1[k]'(by omega) = l2[k]'(by omega)
    · have t1 : (((l1[k]'(by omega)).toNat : Int) == ((l2[k]'(by omega)).toNat : Int)) = true := by rw [hx]; simp
      rw [t1]
      simp only [Result.andThen_ok, Bool.not_true, Bool.false_eq_true, if_false]
      rw [ih, hx]
      simp
    · have t1 : (((l1[k]'(by omega)).toNat : Int) == ((l2[k]'(by omega)).toNat : Int)) = false := by
        rw [beq_eq_false_iff_ne]; intro h; exact hx (UInt64.toNat_inj.1 (by omega))
      rw [t1]
      simp [hx]
theorem run_neq_words {t e : TypeId} {n : Nat} (ht : P.underlying t = some (.array n e)) (hi : (P.info? e).isSome = true) (he : P.underlying e = some (.int .u64)) (hc : P.cellsOf e = 1)
    (hp : ∀ (X : Array Value) (j : Nat) (u : Value) (w : World), X[j]? = some u → (part e X j).run P w = .ok u w)
    (l1 l2 : List UInt64) (h1 : l1.length = n) (h2 : l2.length = n) (w : World) : (binOp .neq t (.agg (l1.map u64).toArray) (.agg (l2.map u64).toArray)).run P w = .ok (.bool (!decide (l1 = l2))) w := by
  obtain ⟨i, hi⟩ := Option.isSome_iff_exists.1 hi
  rw [run_neq_struct, run_equalIn_array (w := w) 9999 _ _ ht hi, hc, List.range_eq_range', run_eqItems_words 9998 he hp n 0 l1 l2 w (by omega) (by omega)]
  simp only [List.drop_zero, Result.andThen_ok]
  rw [List.take_of_length_le (by omega), List.take_of_length_le (by omega)]
end
end Go.Proofs.Ytodbbacmdjcheaa
namespace Go.Proofs.Ytodbbacmdjcheaa
open Go.RowKit L02 L05 L13
theorem pair_neq (a b c d : UInt64) (r : Bool) (hr : r = !decide ([a, b] = [c, d])) (W : World) : (binOp .neq 76 (.agg #[.int .u64 a.toNat, .int .u64 b.toNat]) (.agg #[.int .u64 c.toNat, .int .u64 d.toNat])).run Try.prog W = .ok (.bool r) W := by
  subst hr
  exact run_neq_words (P := Try.prog) (n := 2) Try.underlying76 (by kernel_rfl) Try.underlying64 (by kernel_rfl) (fun X j u W h => run_part_plain W (by kernel_rfl) h) [a, b] [c, d] rfl rfl W
theorem lit_u8 {w : World} {e n : Nat} (x : Int) (q : UInt8) (hq : x = q.toNat) (hn : w.heap.size = n) : Rd (w.alloc (.cells #[.int .u8 x] e)) 1 (.slice (some ⟨n, 0, none⟩) 1 1) 1 ([q].map u8) := by
  subst hn hq; exact lit_rd
theorem one_u8' (q : UInt8) : ∀ u ∈ [q].map u8, u.oneCell' = true := one_u8s [q]
set_option maxHeartbeats 2000000 in
theorem KRead_any (a b : UInt64) (L : List UInt8) (r : Int) (hL : L = rdL a b) (hr : r = rdE a b) (w : World) :
    Calls Try.prog 72 #[.int .u64 a.toNat, .int .u64 b.toNat] w fun e w' => ∃ x, e = .returned (.tuple #[x, .int .i64 r]) ∧ OwnB w' w.heap.size 5 x L ∧ Below w.heap.size w w' := by
  have B : Below w.heap.size w w := Below.refl _ _
  have hal := toNat_lt a
  have e1 := and_int (a := (a.toNat : Int)) 8 (by omega) (by omega) 255 (by decide) (by omega)
  obtain ⟨n, hn⟩ : ∃ n, n = nOf a := ⟨_, rfl⟩
  have e1' : bits .and .u64 (a.toNat : Int) 255 = (n : Int) := by rw [e1, hn]; unfold nOf; simp only [show ((2 ^ 8 : Nat) : Int) = 256 from rfl]; omega
  clear e1
  have HL := Lib.hid hL; have HR := Lib.hid hr; have HN := Lib.hid hn
  clear hL hr
  by_cases hb : 8 < n
  · have hno : ¬ RdOk a b := fun h => by have := h.1; omega
    have hL0 : L = [] := by rw [HL.out, rdL, if_neg hno]
    have hr0 : r = 50 := by rw [HR.out, rdE, if_neg hno]
    subst hL0 hr0
    clear hn hno
    go_enter Try.func72, Try.ntmps72
    go_wp2
    go_ret2
    exact ⟨_, rfl, OwnB.nil _ _ _, B⟩
  · have hn8 : n ≤ 8 := by omega
    clear hb hn
    go_enter Try.func72, Try.ntmps72
    go_wp2
    have HB := Lib.hid B; clear B
    go_loopw [7, 16] (fun xv i wr => ∃ k : Nat, k ≤ n ∧ i = .int .u64 k ∧ Hid (OwnB wr w.heap.size 5 xv (dig a k)) ∧ Below w.heap.size w wr) (fun _ i _ => n - (intOf i).toNat)
    case atStart => exact ⟨0, by omega, rfl, Lib.hid (OwnB.nil _ _ _), HB.out⟩
    case round =>
      obtain ⟨k, hk, rfl, hh, B⟩ := hrel
      by_cases hlt : k < n
      · have hp : (2 : Int) ^ (8 + 2 * k) = ((256 * 4 ^ k : Nat) : Int) := by
          have : (2 : Nat) ^ (8 + 2 * k) = 256 * 4 ^ k := by rw [Nat.pow_add, Nat.pow_mul]
          exact_mod_cast this
        have HP := Lib.hid hp; clear hp
        obtain ⟨q, hq⟩ : ∃ q : UInt8, q = UInt8.ofNat (a.toNat / 256 / 4 ^ k % 4) := ⟨_, rfl⟩
        have hqn : q.toNat = a.toNat / 256 / 4 ^ k % 4 := by rw [hq, UInt8.toNat_ofNat']; omega
        have hql : q.toNat < 256 := q.toNat_lt
        have e2 : bits .and .u64 ((a.toNat : Int) / 2 ^ (8 + 2 * k)) 3 = (q.toNat : Int) := by
          have e3 : ((a.toNat : Int) / 2 ^ (8 + 2 * k)) = ((a.toNat / 256 / 4 ^ k : Nat) : Int) := by
            rw [HP.out, Nat.div_div_eq_div_mul]; exact (Int.natCast_ediv _ _).symm
          have h4 : a.toNat / 256 / 4 ^ k ≤ a.toNat := by rw [Nat.div_div_eq_div_mul]; exact Nat.div_le_self _ _
          rw [e3, hqn]
          generalize a.toNat / 256 / 4 ^ k = z at h4
          rw [and_int (a := (z : Int)) 2 (by omega) (by omega) 3 (by decide) (by omega)]
          exact (Int.natCast_emod z 4).symm
        have HQ := Lib.hid hq; have HO := Lib.hid hh.out; have HBB := Lib.hid B
        clear hq hqn hh B
        have hlk : (dig a k).length = k := dig_len a k
        have HLK := Lib.hid hlk; clear hlk
        go_wp2_with (at_builtin; refine wpList_append (by rfl) rfl rfl rfl Try.underlying69 info_u8 rfl (by omega) (by exact own_below HO.out ((Below.refl _ _).alloc (Nat.le_refl _) _)) (by exact lit_u8 _ q (by omega) rfl) (one_u8' q) (by rw [HLK.out]; omega) (by rw [HLK.out]; omega) (by exact HBB.out.alloc HBB.out.size _) (Nat.le_refl _) ?_; intro v1 w3 o3 B3 g3; clear g3)
        have o4 : OwnB w3 w.heap.size 5 v1 (dig a (k + 1)) := OwnB.of o3 (by rw [dig_succ, List.map_append, ← HQ.out])
        have HO4 := Lib.hid o4; have HB3 := Lib.hid B3; clear o3 o4 B3
        go_roundw
        case rel => exact ⟨k + 1, by omega, by go_num, Lib.hid HO4.out, HB3.out⟩
        case measure => simp [intOf]; omega
      · obtain rfl : k = n := by omega
        have HO := Lib.hid hh.out
        obtain ⟨l, hl⟩ : ∃ l, l = dig a k := ⟨_, rfl⟩
        rw [← hl] at HO
        obtain ⟨c, hc⟩ : ∃ c, c = w0 l := ⟨_, rfl⟩
        obtain ⟨d, hd⟩ : ∃ d, d = w1 l := ⟨_, rfl⟩
        obtain ⟨e, he⟩ : ∃ e, e = kErr l := ⟨_, rfl⟩
        have WT := fun v w h => KWrite_any v l c d e hc hd he w h
        have HW := Lib.hid WT; clear WT
        have hiff : RdOk a b ↔ e = 0 ∧ [c, d] = [a, b] := by
          unfold RdOk
          rw [← HN.out, ← hl, ← he, ← hc, ← hd]
          simp only [List.cons.injEq, and_true]
          exact ⟨fun h => ⟨h.2.1, h.2.2.1, h.2.2.2⟩, fun h => ⟨hn8, h.1, h.2.1, h.2.2⟩⟩
        have hrl : RdOk a b → L = l ∧ r = 0 := fun h => ⟨by rw [HL.out, rdL, if_pos h, ← HN.out, hl], by rw [HR.out, rdE, if_pos h]⟩
        have hrn : ¬ RdOk a b → L = [] ∧ r = 50 := fun h => ⟨by rw [HL.out, rdL, if_neg h], by rw [HR.out, rdE, if_neg h]⟩
        clear hc hd he hl hh
        have hcase : (e != 0) = true ∧ L = [] ∧ r = 50 ∨ e = 0 ∧ ((!decide ([c, d] = [a, b])) = true ∧ L = [] ∧ r = 50 ∨ (!decide ([c, d] = [a, b])) = false ∧ L = l ∧ r = 0) := by
          by_cases h1 : e = 0
          · by_cases h2 : [c, d] = [a, b]
            · have := hrl (hiff.2 ⟨h1, h2⟩)
              exact .inr ⟨h1, .inr ⟨by rw [decide_eq_true h2]; rfl, this⟩⟩
            · have := hrn (fun h => h2 (hiff.1 h).2)
              exact .inr ⟨h1, .inl ⟨by rw [decide_eq_false h2]; rfl, this⟩⟩
          · have := hrn (fun h => h1 (hiff.1 h).1)
            exact .inl ⟨by rw [bne_iff_ne]; exact h1, this⟩
        clear hiff hrl hrn
        rcases hcase with ⟨h1, rfl, rfl⟩ | ⟨rfl, ⟨h2, rfl, rfl⟩ | ⟨h2, rfl, rfl⟩⟩
        · go_wp2_with fail
          refine (HW.out _ _ HO.out.rd).mono ?_
          rintro e w3 ⟨rfl, bb⟩
          replace B := B.trans (bb.mono B.size); clear bb
          go_wp2
          go_ret2
          exact ⟨_, rfl, OwnB.nil _ _ _, B.alloc B.size _⟩
        · have q1 := fun W => pair_neq c d a b true h2.symm W
          go_wp2_with fail
          refine (HW.out _ _ HO.out.rd).mono ?_
          rintro e w3 ⟨rfl, bb⟩
          replace B := B.trans (bb.mono B.size); clear bb
          go_wp2
          go_ret2
          exact ⟨_, rfl, OwnB.nil _ _ _, B.alloc B.size _⟩
        · have q1 := fun W => pair_neq c d a b false h2.symm W
          go_wp2_with fail
          refine (HW.out _ _ HO.out.rd).mono ?_
          rintro e w3 ⟨rfl, bb⟩
          have o4 := (HO.out.below bb).below ((Below.refl _ _).alloc (Nat.le_refl _) (.cells #[.int .u64 c.toNat, .int .u64 d.toNat] 76))
          have HO4 := Lib.hid o4
          replace B := B.trans (bb.mono B.size); clear bb o4
          go_wp2
          go_ret2
          exact ⟨_, rfl, HO4.out, B.alloc B.size _⟩
end Go.Proofs.Ytodbbacmdjcheaa
namespace Go.Proofs.Ytodbbacmdjcheaa
open Go.RowKit L02 L05 L13
end Go.Proofs.Ytodbbacmdjcheaa
namespace Go.Proofs.Ytodbbacmdjcheaa
open Go.RowKit L02 L05 L13
/-- A slice of slices of bytes. -/
def Typs (w : World) (v : Value) (L : List (List UInt8)) : Prop := ∃ vs : List Value, vs.length = L.length ∧ Rd w 1 v L.length vs ∧ ∀ (i : Nat) x l, vs[i]? = some x → L[i]? = some l → Byts w x l
/-- .. of the call's own, its rows too. -/
def OwnT (w : World) (base : Nat) (v : Value) (L : List (List UInt8)) : Prop := ∃ vs : List Value, vs.length = L.length ∧ w.ownsRow base 69 1 v L.length vs ∧ ∀ (i : Nat) x l, vs[i]? = some x → L[i]? = some l → OwnB w base 5 x l
theorem OwnT.rd {w : World} {base : Nat} {v : Value} {L : List (List UInt8)} (h : OwnT w base v L) : Typs w v L := by
  obtain ⟨vs, h1, h2, h4⟩ := h; exact ⟨vs, h1, Rd.of_own h2, fun i x l h5 h6 => (h4 i x l h5 h6).rd⟩
theorem Typs.below {w w' : World} {v : Value} {L : List (List UInt8)} (h : Typs w v L) (hb : Below w.heap.size w w') : Typs w' v L := by
  obtain ⟨vs, h1, h2, h3⟩ := h; exact ⟨vs, h1, h2.below hb, fun i x l h4 h5 => (h3 i x l h4 h5).below hb⟩
theorem OwnT.below {w w' : World} {base : Nat} {v : Value} {L : List (List UInt8)} (h : OwnT w base v L) (hb : Below w.heap.size w w') : OwnT w' base v L := by
  obtain ⟨vs, h1, h2, h4⟩ := h; exact ⟨vs, h1, own_below h2 hb, fun i x l h5 h6 => (h4 i x l h5 h6).below hb⟩
theorem OwnT.nil (w : World) (base : Nat) : OwnT w base (.slice none 0 0) [] := ⟨[], rfl, World.ownsRow_nil w base _ 1, fun i x l h => by simp at h⟩
theorem Typs.len {w : World} {v : Value} {L : List (List UInt8)} (h : Typs w v L) : ∀ ty W, (Builtin.len_ #[22] ty #[v]).run Try.prog W = .ok (.int .i64 (L.length : Int)) W := by
  obtain ⟨vs, h1, h2, h3⟩ := h; exact Rd.len h2 Try.underlying22
theorem Typs.len_le {w : World} {v : Value} {L : List (List UInt8)} (h : Typs w v L) : L.length ≤ 9223372036854775807 := by
  obtain ⟨vs, h1, h2, h3⟩ := h; exact Rd.len_le h2
theorem one_bytes : (Try.prog.info? 69).map (·.size) = some 1 := by kernel_rfl
theorem info_bytes : (Try.prog.info? 69).map (fun i => (i.zero, i.size, i.bytes)) = some (some (.slice none 0 0), 1, 24) := by kernel_rfl
theorem Typs.at_ {w : World} {v : Value} {L : List (List UInt8)} (h : Typs w v L) {k : Nat} (hk : k < L.length) :
    ∃ ad x l, (∀ W, (Instr.indexAt 22 v (.int .i64 (k : Int))).run Try.prog W = .ok (.pointer (some ad)) W) ∧ w.cell? ad = some x ∧ Hid (L[k]? = some l) ∧ Hid (Byts w x l) := by
  obtain ⟨vs, h1, h2, h3⟩ := h
  have hv : vs[k]? = some vs[k] := List.getElem?_eq_getElem (by omega)
  have hl : L[k]? = some L[k] := List.getElem?_eq_getElem hk
  exact ⟨_, vs[k], L[k], fun W => Rd.ixN h2 Try.underlying22 one_bytes hk W, by rw [Nat.mul_one]; exact Rd.cell h2 hv, Lib.hid hl, Lib.hid (h3 k _ _ hv hl)⟩
theorem Byts.oneCell {w : World} {x : Value} {l : List UInt8} (h : Byts w x l) : x.oneCell' = true := by
  obtain ⟨A, c, rfl, _⟩ := h; rfl
/-- two own rows of unlike elements lie in unlike blocks. -/
theorem own_unlike {w : World} {b1 b2 e1 e2 s1 s2 n1 n2 : Nat} {x a : Value} {xs ys : List Value} (hx : w.ownsRow b1 e1 s1 x n1 xs) (ha : w.ownsRow b2 e2 s2 a n2 ys) (h : e1 ≠ e2) : x.ownBlock = none ∨ x.ownBlock ≠ a.ownBlock := by
  rcases hx.2 with ⟨rfl, _⟩ | ⟨g, cap, cur, rfl, _, hg, _⟩
  · exact .inl rfl
  · rcases ha.2 with ⟨rfl, _⟩ | ⟨g', cap', cur', rfl, _, hg', _⟩
    · exact .inr (by simp [Value.ownBlock])
    · refine .inr ?_
      intro he
      simp [Value.ownBlock] at he
      subst he
      rw [hg] at hg'
      injection hg' with hg'
      injection hg' with _ h2 _
      exact h h2
/-- one more row. -/
theorem OwnT.snoc {w w' : World} {base n : Nat} {v v' x : Value} {L : List (List UInt8)} {l : List UInt8} {vs : List Value} (h1 : vs.length = L.length) (ho0 : w.ownsRow base 69 1 v L.length vs) (ho : w'.ownsRow base 69 1 v' n (vs ++ [x]))
    (h4 : ∀ (i : Nat) x l, vs[i]? = some x → L[i]? = some l → OwnB w base 5 x l) (hx : OwnB w base 5 x l) (hg : w.grownBy w' v.ownBlock) : OwnT w' base v' (L ++ [l]) := by
  have hn : n = (L ++ [l]).length := by have := ho.1; simp at this ⊢; omega
  subst hn
  have keep : ∀ y m, OwnB w base 5 y m → OwnB w' base 5 y m := fun y m hy => World.ownsRow.kept hy hg (own_unlike hy ho0 (by decide))
  refine ⟨vs ++ [x], by simp [h1], ho, fun i y m hy hm => ?_⟩
  by_cases hi : i < vs.length
  · rw [List.getElem?_append_left hi] at hy
    rw [List.getElem?_append_left (by omega)] at hm
    exact keep _ _ (h4 i y m hy hm)
  · rw [List.getElem?_append_right (by omega)] at hy
    rw [List.getElem?_append_right (by omega)] at hm
    have h0 : i - vs.length = 0 := by
      rcases Nat.eq_zero_or_pos (i - vs.length) with h | h
      · exact h
      · rw [List.getElem?_eq_none (by simp; omega)] at hy; cases hy
    rw [h0] at hy; rw [← h1, h0] at hm
    simp at hy hm; subst hy; subst hm
    exact keep _ _ hx
set_option maxHeartbeats 4000000 in
theorem KTable_ok (v : Value) (l : List UInt64) (n : Nat) (hn : n ≤ 8) (hs : SizeOk l.length) (L : List (List UInt8)) (r : Int) (hL : L = tabT l n) (hr : r = tabErr l n) (w : World) (h : Words w v l) :
    Calls Try.prog 42 #[v, .int .i64 (n : Int)] w fun e w' => ∃ x, e = .returned (.tuple #[x, .int .i64 r]) ∧ OwnT w' w.heap.size x L ∧ Below w.heap.size w w' := by
  have B : Below w.heap.size w w := Below.refl _ _
  have hbad : ¬ TysOk l n → L = [] ∧ r = 50 := fun hno => by
    have e : tabErr l n = 50 := by rw [tabErr, if_pos hs, if_pos ⟨by omega, by omega⟩, if_neg (by simpa using hno)]
    exact ⟨by rw [hL, tabT, if_neg (by rw [e]; omega)], by rw [hr, e]⟩
  have hgood : TysOk l n → L = tysTo l n ∧ r = 0 := fun hyes => by
    have e : tabErr l n = 0 := by rw [tabErr, if_pos hs, if_pos ⟨by omega, by omega⟩, if_pos (by simpa using hyes)]
    exact ⟨by rw [hL, tabT, if_pos e]; simp, by rw [hr, e]⟩
  have CT := fun w h => Check_any v l w h
  rw [chk_ok hs] at CT
  have hlen := hs.1
  have HC := Lib.hid CT; have H := Lib.hid h; have HBAD := Lib.hid hbad; have HGOOD := Lib.hid hgood
  clear CT h hs hL hr hbad hgood
  go_enter Try.func42, Try.ntmps42
  go_wp2_with fail
  refine (HC.out _ (H.out.below B)).mono ?_
  rintro e w2 ⟨rfl, rfl⟩
  go_wp2
  have HB := Lib.hid B; clear B
  go_loopw [7, 24] (fun xv i wr => ∃ k : Nat, k ≤ 8 ∧ i = .int .i64 k ∧ Hid (OwnT wr w.heap.size xv (tysTo l (min k n)) ∧ ∀ i, i < k → TyOk l n i) ∧ Below w.heap.size w wr) (fun _ i _ => 8 - (intOf i).toNat)
  case atStart => exact ⟨0, by omega, rfl, Lib.hid ⟨by rw [Nat.zero_min]; exact OwnT.nil _ _, fun i hi => by omega⟩, HB.out⟩
  case round =>
    obtain ⟨k, hk, rfl, hh, B⟩ := hrel
    by_cases hlt : k < 8
    · obtain ⟨ad, a, ia, m0, ha⟩ := (H.out.below B).atI Try.underlying25 one_u64 (k := 96 + 2 * (k : Int)) (by omega) (by omega)
      obtain ⟨bd, b, ib, m1, hb⟩ := (H.out.below B).atI Try.underlying25 one_u64 (k := 96 + 2 * (k : Int) + 1) (by omega) (by omega)
      have ea : ta l k = a := ta_of (by have := ha.out; rwa [show (96 + 2 * (k : Int)).toNat = 96 + 2 * k by omega] at this)
      have eb : tb l k = b := tb_of (by have := hb.out; rwa [show (96 + 2 * (k : Int) + 1).toNat = 97 + 2 * k by omega] at this)
      have hw1 : IntKind.i64.wrap (2 * (k : Int)) = 2 * (k : Int) := IntWalk.i64_in _ (by omega)
      have hw2 : IntKind.i64.wrap (96 + 2 * (k : Int)) = 96 + 2 * (k : Int) := IntWalk.i64_in _ (by omega)
      have hw3 : IntKind.i64.wrap (96 + 2 * (k : Int) + 1) = 96 + 2 * (k : Int) + 1 := IntWalk.i64_in _ (by omega)
      have EA := Lib.hid ea; have EB := Lib.hid eb
      clear ha hb ea eb
      by_cases hkn : k < n
      · have hmin : min k n = k := by omega
        obtain ⟨f, hf⟩ : ∃ f, f = rdL a b := ⟨_, rfl⟩
        obtain ⟨e, he⟩ : ∃ e, e = rdE a b := ⟨_, rfl⟩
        have RT := fun w => KRead_any a b f e hf he w
        have HRT := Lib.hid RT; have HF := Lib.hid hf; have HE := Lib.hid he
        have hcase : e = 0 ∨ (e != 0) = true := by by_cases h : e = 0; exact .inl h; exact .inr (by rw [bne_iff_ne]; exact h)
        clear RT hf he
        rcases hcase with rfl | hne
        · go_wp2
          refine wp_region_calm (by kernel_rfl) (by kernel_rfl) ?_
          have c_m0 := fun x : Fut _ => cell_later x.h m0
          have c_m1 := fun x : Fut _ => cell_later x.h m1
          repeat (go_big_quiet_step (fail))
          refine wpQuiet_nil ?_
          intro _ hw'
          obtain ⟨xq, hw''⟩ := hw'
          subst hw''
          clear c_m0; replace m0 := cell_later xq.h m0
          clear c_m1; replace m1 := cell_later xq.h m1
          replace B := B.trans (xq.h.mono B.size)
          clear hw1 hw2 hw3
          have HHB : Hid (OwnT xq.W w.heap.size _ (tysTo l k)) := Lib.hid (by have := hh.out.1.below xq.h; rwa [hmin] at this)
          go_wp2_with fail
          have hzz := B.size
          refine (HRT.out _).mono ?_
          rintro e w3 ⟨y, rfl, oy, bb⟩
          obtain ⟨yA, yc, rfl, _⟩ := OwnB.rd oy
          obtain ⟨vs, z1, z2, z4⟩ := HHB.out.below bb
          replace B := B.trans (bb.mono B.size)
          have HY := Lib.hid (own_mono oy (B' := w.heap.size) hzz); have HBB := Lib.hid B; have Z1 := Lib.hid z1; have Z2 := Lib.hid z2; have Z4 := Lib.hid z4
          clear bb oy B z1 z2 z4 m0 m1
          have hlk := tysTo_len l k
          have HLK := Lib.hid hlk; clear hlk
          have hba : ∀ o, Below w3.heap.size w3 (w3.alloc o) := fun o => (Below.refl _ _).alloc (Nat.le_refl _) o
          have HBA := Lib.hid hba; clear hba
          go_wp2_with (at_builtin; refine wpList_append (by rfl) rfl rfl rfl Try.underlying22 info_bytes rfl (by omega) (by exact own_below Z2.out (HBA.out _)) (by exact lit_rd) (by intro u hu; simp at hu; subst hu; exact (OwnB.rd HY.out).oneCell) (by rw [HLK.out]; omega) (by rw [HLK.out]; omega) (by exact HBB.out.alloc HBB.out.size _) (Nat.le_refl _) ?_; intro v1 w4 o4 B4 g4; have T4 := Lib.hid (OwnT.snoc Z1.out (own_below Z2.out (HBA.out _)) o4 (fun i x l h5 h6 => (Z4.out i x l h5 h6).below (HBA.out _)) (OwnB.below HY.out (HBA.out _)) g4); have HB4 := Lib.hid B4; clear o4 B4 g4)
          go_roundw
          case rel =>
            refine ⟨k + 1, by omega, by go_num, Lib.hid ⟨?_, ?_⟩, HB4.out⟩
            · rw [show min (k + 1) n = k + 1 by omega, tysTo_succ, EA.out, EB.out, ← HF.out]; exact T4.out
            · intro i hi
              by_cases hik : i < k
              · exact hh.out.2 i hik
              · obtain rfl : i = k := by omega
                rw [TyOk, if_pos hkn, EA.out, EB.out]; exact rdE_ok.1 HE.out.symm
          case measure => simp [intOf]; omega
        · have hno : ¬ TysOk l n := fun hall => by
            have := hall k hlt
            rw [TyOk, if_pos hkn, EA.out, EB.out, ← rdE_ok, ← HE.out] at this
            rw [this] at hne; simp at hne
          obtain ⟨rfl, rfl⟩ := HBAD.out hno
          have hfe : e = 50 := by
            have h1 := HE.out
            unfold rdE at h1
            split at h1
            · rw [h1] at hne; simp at hne
            · exact h1
          subst hfe
          clear hno hne
          go_wp2
          refine wp_region_calm (by kernel_rfl) (by kernel_rfl) ?_
          have c_m0 := fun x : Fut _ => cell_later x.h m0
          have c_m1 := fun x : Fut _ => cell_later x.h m1
          repeat (go_big_quiet_step (fail))
          refine wpQuiet_nil ?_
          intro _ hw'
          obtain ⟨xq, hw''⟩ := hw'
          subst hw''
          clear c_m0; replace m0 := cell_later xq.h m0
          clear c_m1; replace m1 := cell_later xq.h m1
          replace B := B.trans (xq.h.mono B.size)
          clear hw1 hw2 hw3
          go_wp2_with fail
          refine (HRT.out _).mono ?_
          rintro e w3 ⟨y, rfl, oy, bb⟩
          replace B := B.trans (bb.mono B.size); clear bb oy m0 m1
          go_wp2
          go_ret2
          exact ⟨_, rfl, OwnT.nil _ _, B⟩
      · have hmin : min k n = n := by omega
        have hmin2 : min (k + 1) n = n := by omega
        have HM := Lib.hid (And.intro hmin hmin2); clear hmin hmin2
        have hcase : ((a.toNat : Int) != 0) = true ∨ ((a.toNat : Int) != 0) = false ∧ (((b.toNat : Int) != 0) = true ∨ ((b.toNat : Int) != 0) = false) := by
          cases ((a.toNat : Int) != 0) <;> cases ((b.toNat : Int) != 0) <;> simp
        have hz : ∀ x : UInt64, ((x.toNat : Int) != 0) = false → x = 0 := fun x h => by
          rw [bne_eq_false_iff_eq] at h
          exact UInt64.toNat_inj.1 (by simpa using (by omega : x.toNat = 0))
        have hz' : ∀ x : UInt64, ((x.toNat : Int) != 0) = true → x ≠ 0 := fun x h h2 => by
          rw [h2] at h; simp at h
        have HZ := Lib.hid hz; have HZ' := Lib.hid hz'; clear hz hz'
        rcases hcase with h1 | ⟨h1, h2 | h2⟩
        · have hno : ¬ TysOk l n := fun hall => by
            have := hall k hlt
            rw [TyOk, if_neg hkn, EA.out, EB.out] at this
            exact HZ'.out a h1 this.1
          obtain ⟨rfl, rfl⟩ := HBAD.out hno
          clear hno
          go_wp2
          refine wp_region_calm (by kernel_rfl) (by kernel_rfl) ?_
          have c_m0 := fun x : Fut _ => cell_later x.h m0
          have c_m1 := fun x : Fut _ => cell_later x.h m1
          repeat (go_big_quiet_step (fail))
          refine wpQuiet_nil ?_
          intro _ hw'
          obtain ⟨xq, hw''⟩ := hw'
          subst hw''
          clear c_m0; replace m0 := cell_later xq.h m0
          clear c_m1; replace m1 := cell_later xq.h m1
          replace B := B.trans (xq.h.mono B.size)
          clear hw1 hw2 hw3
          go_wp2
          go_ret2
          exact ⟨_, rfl, OwnT.nil _ _, B⟩
        · have hno : ¬ TysOk l n := fun hall => by
            have := hall k hlt
            rw [TyOk, if_neg hkn, EA.out, EB.out] at this
            exact HZ'.out b h2 this.2
          obtain ⟨rfl, rfl⟩ := HBAD.out hno
          clear hno
          go_wp2
          refine wp_region_calm (by kernel_rfl) (by kernel_rfl) ?_
          have c_m0 := fun x : Fut _ => cell_later x.h m0
          have c_m1 := fun x : Fut _ => cell_later x.h m1
          repeat (go_big_quiet_step (fail))
          refine wpQuiet_nil ?_
          intro _ hw'
          obtain ⟨xq, hw''⟩ := hw'
          subst hw''
          clear c_m0; replace m0 := cell_later xq.h m0
          clear c_m1; replace m1 := cell_later xq.h m1
          replace B := B.trans (xq.h.mono B.size)
          clear hw1 hw2 hw3
          go_wp2
          go_ret2
          exact ⟨_, rfl, OwnT.nil _ _, B⟩
        · have e1 := HZ.out a h1; have e2 := HZ.out b h2
          have HE12 := Lib.hid (And.intro e1 e2)
          clear e1 e2
          go_wp2
          refine wp_region_calm (by kernel_rfl) (by kernel_rfl) ?_
          have c_m0 := fun x : Fut _ => cell_later x.h m0
          have c_m1 := fun x : Fut _ => cell_later x.h m1
          repeat (go_big_quiet_step (fail))
          refine wpQuiet_nil ?_
          intro _ hw'
          obtain ⟨xq, hw''⟩ := hw'
          subst hw''
          clear c_m0; replace m0 := cell_later xq.h m0
          clear c_m1; replace m1 := cell_later xq.h m1
          replace B := B.trans (xq.h.mono B.size)
          clear hw1 hw2 hw3
          go_wp2
          have HBB := Lib.hid B; have HX := Lib.hid (hh.out.1.below xq.h)
          go_roundw
          case rel =>
            refine ⟨k + 1, by omega, by go_num, Lib.hid ⟨?_, ?_⟩, HBB.out⟩
            · have := HX.out
              rw [HM.out.1] at this
              rw [HM.out.2]; exact this
            · intro i hi
              by_cases hik : i < k
              · exact hh.out.2 i hik
              · obtain rfl : i = k := by omega
                rw [TyOk, if_neg hkn, EA.out, EB.out]; exact HE12.out
          case measure => simp [intOf]; omega
    · obtain rfl : k = 8 := by omega
      obtain ⟨rfl, rfl⟩ := HGOOD.out (fun i hi => hh.out.2 i hi)
      have HX := Lib.hid hh.out.1
      go_wp2
      go_ret2
      exact ⟨_, rfl, by have := HX.out; rwa [show min 8 n = n by omega] at this, B⟩
end Go.Proofs.Ytodbbacmdjcheaa
namespace Go.Proofs.Ytodbbacmdjcheaa
open Go.RowKit L02 L05 L13
set_option maxHeartbeats 1000000 in
theorem KTable_any (v : Value) (l : List UInt64) (n : Int) (L : List (List UInt8)) (r : Int) (hL : L = tabT l n) (hr : r = tabErr l n) (w : World) (h : Words w v l) :
    Calls Try.prog 42 #[v, .int .i64 n] w fun e w' => ∃ x, e = .returned (.tuple #[x, .int .i64 r]) ∧ OwnT w' w.heap.size x L ∧ Below w.heap.size w w' := by
  by_cases hs : SizeOk l.length
  · by_cases hn : 0 ≤ n ∧ n ≤ 8
    · obtain ⟨k, rfl⟩ := Int.eq_ofNat_of_zero_le hn.1
      exact KTable_ok v l k (by omega) hs L r hL hr w h
    · have e : tabErr l n = 2 := by rw [tabErr, if_pos hs, if_neg hn]
      have hL0 : L = [] := by rw [hL, tabT, if_neg (by rw [e]; omega)]
      rw [e] at hr
      subst hL0 hr
      have B : Below w.heap.size w w := Below.refl _ _
      have CT := fun w h => Check_any v l w h
      rw [chk_ok hs] at CT
      have HC := Lib.hid CT; have H := Lib.hid h
      have hcase : n < 0 ∨ 0 ≤ n ∧ 8 < n := by omega
      clear CT h hs hL e hn
      rcases hcase with h1 | ⟨h1, h2⟩
      all_goals
        go_enter Try.func42, Try.ntmps42
        go_wp2_with fail
        refine (HC.out _ H.out).mono ?_
        rintro e w2 ⟨rfl, rfl⟩
        go_wp2
        go_ret2
        exact ⟨_, rfl, OwnT.nil _ _, B⟩
  · have e : tabErr l n = 8 := by rw [tabErr, if_neg hs]
    have hL0 : L = [] := by rw [hL, tabT, if_neg (by rw [e]; omega)]
    rw [e] at hr
    subst hL0 hr
    have B : Below w.heap.size w w := Below.refl _ _
    have CT := fun w h => Check_any v l w h
    rw [chk_no hs] at CT
    have HC := Lib.hid CT; have H := Lib.hid h
    clear CT h hs hL e
    go_enter Try.func42, Try.ntmps42
    go_wp2_with fail
    refine (HC.out _ H.out).mono ?_
    rintro e w2 ⟨rfl, rfl⟩
    go_wp2
    go_ret2
    exact ⟨_, rfl, OwnT.nil _ _, B⟩
end Go.Proofs.Ytodbbacmdjcheaa

namespace Go.Proofs.Ytodbbacmdjcheaa
open Go.RowKit Go.Shelf L02 L05 L13
/-- the first error of types -/
def errT : List (List UInt8) → Int
  | [] => 0
  | l :: T => if kErr l = 0 then errT T else kErr l
theorem errT_take : ∀ (T : List (List UInt8)) (k : Nat) (l : List UInt8), (∀ i l', i < k → T[i]? = some l' → kErr l' = 0) → T[k]? = some l → kErr l ≠ 0 → errT T = kErr l
  | [], k, l, _, h, _ => by simp at h
  | x :: T, 0, l, _, h, h2 => by simp at h; subst h; rw [errT, if_neg h2]
  | x :: T, k + 1, l, h1, h, h2 => by
    rw [errT, if_pos (h1 0 x (by omega) rfl)]
    exact errT_take T k l (fun i l' hi hl => h1 (i + 1) l' (by omega) (by simpa using hl)) (by simpa using h) h2
theorem errT_none : ∀ (T : List (List UInt8)), (∀ i l', i < T.length → T[i]? = some l' → kErr l' = 0) → errT T = 0
  | [], _ => rfl
  | x :: T, h => by
    rw [errT, if_pos (h 0 x (by simp) rfl)]
    exact errT_none T (fun i l' hi hl => h (i + 1) l' (by simp; omega) (by simpa using hl))
/-- what the loop's variables get in round k -/
def encY (T : List (List UInt8)) (k : Nat) : Array Value := #[.int .i64 (96 + 2 * k), .agg #[.int .u64 (w0 (T.getD k [])).toNat, .int .u64 (w1 (T.getD k [])).toNat]]
set_option maxRecDepth 100000 in
set_option maxHeartbeats 4000000 in
theorem wordsT1_any (m l tb eb cb : Nat) (tv : Value) (T : List (List UInt8)) (hT8 : T.length ≤ 1000) (J : Nat → World → Prop)
    (hJ : ∀ k A B, J k A → Below A.heap.size A B → J k B)
    (hJT : ∀ k A, J k A → Typs A tv T ∧ A.cell? ⟨tb, 0, none⟩ = some tv ∧ A.cell? ⟨eb, 0, none⟩ = some (.pointer (some ⟨cb, 0, none⟩)) ∧ A.cell? ⟨cb, 0, none⟩ = some (.int .i64 0) ∧ A.frozen? ⟨cb, 0, none⟩ = false)
    (hY : ∀ k A, J k A → k < T.length → YieldAt Fence.wide m Try.prog l (encY T k) A fun e W' => e = .returned (.bool true) ∧ J (k + 1) W')
    (W : World) (h0 : J 0 W) :
    CallsIn Fence.wide (m + 1) Try.prog 54 #[.func (.yield l) #[] #[], .pointer (some ⟨tb, 0, none⟩), .pointer (some ⟨eb, 0, none⟩)] W fun e W' => (∃ v, e = .returned v) ∧
      ∃ k A, J k A ∧ ((errT T = 0 ∧ k = T.length ∧ W' = A) ∨ (errT T ≠ 0 ∧ W' = A.setCell ⟨cb, 0, none⟩ (.int .i64 (errT T)))) := by
  have HY := Lib.hid hY; have HT := Lib.hid hJT; have HJ := Lib.hid hJ; have H0 := Lib.hid h0
  obtain ⟨t0, ct0, -, -, -⟩ := hJT 0 W h0
  have l1 := t0.len
  have HTT := Lib.hid t0
  obtain ⟨N, hN⟩ : ∃ N, N = T.length := ⟨_, rfl⟩
  rw [← hN] at l1 hT8
  have HN := Lib.hid hN
  clear hY hJT hJ h0 t0 hN
  refine callsIn_of_wp Try.func54 rfl trivial ?_ rfl
  simp only [Try.ntmps54, List.size_toArray, List.length_cons, List.length_nil, Nat.reduceAdd, Nat.reduceSub, Array.replicate_succ, Array.replicate_zero, List.push_toArray, List.append_toArray, List.nil_append, List.cons_append]
  gi_wp2
  gi_loopw [10] (fun i wr => ∃ k : Nat, k ≤ N ∧ i = .int .i64 k ∧ Hid (J k wr) ∧ Hid (∀ i l', i < k → T[i]? = some l' → kErr l' = 0))
    (fun i _ => N - (intOf i).toNat)
  case atStart => exact ⟨0, Nat.zero_le _, rfl, H0, Lib.hid (fun i l' hi => by omega)⟩
  case round =>
    obtain ⟨k, hk, rfl, hJs, hok⟩ := hrel
    by_cases hlt : k < N
    · obtain ⟨tr, ct, ce, cc, fc⟩ := HT.out k wr hJs.out
      obtain ⟨ad, x, tl, hix, hcx, htl, hbx⟩ := tr.at_ (k := k) (by rw [← HN.out]; exact hlt)
      have one := hbx.out.oneCell
      gi_wp2_with fail
      refine ⟨trivial, (callsIn_wide.2 (KWrite_any x tl _ _ (kErr tl) rfl rfl rfl wr hbx.out)).mono ?_⟩
      rintro e w2 ⟨rfl, b⟩
      have J2 := HJ.out k wr w2 hJs.out b
      obtain ⟨-, -, ce2, cc2, fc2⟩ := HT.out k w2 J2
      have tb0 : T.getD k [] = tl := by rw [List.getD_eq_getElem?_getD, htl.out]; rfl
      have hAl := fun o => (Below.refl w2.heap.size w2).alloc (Nat.le_refl _) o
      have HTB := Lib.hid tb0
      by_cases h0 : kErr tl = 0
      · obtain ⟨a, ha⟩ : ∃ a, a = w0 tl := ⟨_, rfl⟩
        obtain ⟨c, hc⟩ : ∃ c, c = w1 tl := ⟨_, rfl⟩
        obtain ⟨fn, tmps, assign, body, hy, hR⟩ := HY.out k (w2.alloc (.cells #[.int .u64 a.toNat, .int .u64 c.toNat] 76)) (HJ.out k w2 _ J2 (hAl _)) (by rw [← HN.out]; exact hlt)
        have hy' : ((Instr.yield l #[.int .i64 (96 + 2 * (k : Int)), .agg #[.int .u64 a.toNat, .int .u64 c.toNat]]).run Try.prog (w2.alloc (.cells #[.int .u64 a.toNat, .int .u64 c.toNat] 76))) = .ok (.round l fn tmps assign body) (w2.alloc (.cells #[.int .u64 a.toNat, .int .u64 c.toNat] 76)) := by
          rw [ha, hc]; rw [encY, tb0, ha, hc] at hy; exact hy
        have hr1 : IntKind.i64.wrap (2 * (k : Int)) = 2 * (k : Int) := IntWalk.i64_in _ (by omega)
        have hr2 : IntKind.i64.wrap (96 + 2 * (k : Int)) = 96 + 2 * (k : Int) := IntWalk.i64_in _ (by omega)
        rw [← ha, ← hc, h0]
        have HJ3 := Lib.hid hR
        clear hy hR tb0 ha hc
        gi_wp2
        refine HJ3.out.mono ?_
        rintro e W3 ⟨rfl, hJ3⟩
        have HJ4 := Lib.hid hJ3
        clear hJ3
        gi_wp2
        go_roundw
        case rel =>
          refine ⟨k + 1, by omega, by simp, HJ4, Lib.hid fun i l' hi hl => ?_⟩
          by_cases e : i = k
          · subst e; rw [htl.out] at hl; cases hl; exact h0
          · exact hok.out i l' (by omega) hl
        case measure => simp [intOf]; omega
      · have ce3 := fun o => (((hAl o).cell (p := ⟨eb, 0, none⟩) (World.block_lt_of_cell? w2 _ ce2)).trans ce2)
        have H0 := Lib.hid h0
        have cc3 := fun o => (((hAl o).cell (p := ⟨cb, 0, none⟩) (World.block_lt_of_cell? w2 _ cc2)).trans cc2)
        have fc3 := fun o => (((hAl o).frozen (p := ⟨cb, 0, none⟩) (World.block_lt_of_cell? w2 _ cc2)).trans fc2)
        gi_wp2
        have hE := errT_take T k tl hok.out htl.out H0.out
        exact bodyPost_ret (results_none rfl _ _ _) rfl ⟨⟨_, rfl⟩, k, _, HJ.out k w2 _ J2 (hAl _), .inr ⟨by rw [hE]; exact H0.out, by rw [hE]⟩⟩
    · obtain rfl : k = N := by omega
      gi_wp2
      go_end0
      exact ⟨⟨_, rfl⟩, _, wr, hJs.out, .inl ⟨errT_none T (fun i l' hi hl => hok.out i l' (by rw [HN.out]; exact hi) hl), HN.out, rfl⟩⟩
/-- **words(types, &e)**: the two are boxed; the function value captures the boxes. -/
theorem wordsT_any (tv : Value) (T : List (List UInt8)) (c : Addr) (w : World) (h : Typs w tv T) :
    Calls Try.prog 27 #[tv, .pointer (some c)] w fun e w' => e = .returned (.func (.func 54) #[] #[.pointer (some ⟨w.heap.size, 0, none⟩), .pointer (some ⟨w.heap.size + 1, 0, none⟩)]) ∧
      w' = (w.alloc (.cells #[tv] 22)).alloc (.cells #[.pointer (some c)] 75) := by
  obtain ⟨vs, -, ⟨A, cp, rfl, -⟩, -⟩ := h
  go_enter Try.func27, Try.ntmps27
  go_wp2
  go_ret
  exact ⟨rfl, rfl⟩
end Go.Proofs.Ytodbbacmdjcheaa
namespace Go.Proofs.Ytodbbacmdjcheaa
open Go.RowKit L02 L05 L06
def supV (W T : Int) : Value := .agg #[.int .i64 W, .int .i64 T]
def arr8 (l : List UInt64) : Value := .agg (l.map u64).toArray
theorem Check6_any (W T : Int) (w : World) : Calls Try.prog 55 #[supV W T] w fun e w' => e = .returned (.int .i64 (supErr W T)) ∧ Below w.heap.size w w' := by
  unfold supV
  go_enter Try.func55, Try.ntmps55
  go_wp2
  all_goals
    go_ret
    refine ⟨ret_int ?_, (Below.refl _ _).alloc (Nat.le_refl _) _⟩
    first
    | exact (if_pos (by unfold SupOk SizeOk; omega)).symm
    | exact (if_neg (by unfold SupOk SizeOk; omega)).symm
set_option maxHeartbeats 1000000 in
theorem words_any (W T : Int) (w : World) (h : SupOk W T) : Calls Try.prog 56 #[supV W T] w fun e w' => e = .returned (arr8 (wordsOf W T)) ∧ Below w.heap.size w w' := by
  have h1 := h.1.1; have h2 := h.1.2.1; have h3 := h.2.1; have h4 := h.2.2
  have hu1 := u_nat (n := W) (by omega) (by omega)
  have hu2 := u_nat (n := T) (by omega) (by omega)
  have HU1 := Lib.hid hu1; have HU2 := Lib.hid hu2; clear hu1 hu2 h
  unfold supV
  go_enter Try.func56, Try.ntmps56
  go_wp2_with fail
  have hW : (((w.alloc (.cells #[.int .i64 W, .int .i64 T] 80)).alloc (.cells #[.int .u64 0, .int .u64 0, .int .u64 0, .int .u64 0, .int .u64 0, .int .u64 0, .int .u64 0, .int .u64 0] 125)).alloc
    (.cells #[.int .u64 32777959566500194, .int .u64 1, .int .u64 W, .int .u64 T, .int .u64 0, .int .u64 0, .int .u64 0, .int .u64 0] 125)).heap.size = w.heap.size + 1 + 1 + 1 := by simp
  have g2 := blk_new ((w.alloc (.cells #[.int .i64 W, .int .i64 T] 80)).alloc (.cells #[.int .u64 0, .int .u64 0, .int .u64 0, .int .u64 0, .int .u64 0, .int .u64 0, .int .u64 0, .int .u64 0] 125))
    (.cells #[.int .u64 32777959566500194, .int .u64 1, .int .u64 W, .int .u64 T, .int .u64 0, .int .u64 0, .int .u64 0, .int .u64 0] 125)
  have g1 := blk_old (blk_new (w.alloc (.cells #[.int .i64 W, .int .i64 T] 80)) (.cells #[.int .u64 0, .int .u64 0, .int .u64 0, .int .u64 0, .int .u64 0, .int .u64 0, .int .u64 0, .int .u64 0] 125))
    (.cells #[.int .u64 32777959566500194, .int .u64 1, .int .u64 W, .int .u64 T, .int .u64 0, .int .u64 0, .int .u64 0, .int .u64 0] 125)
  rw [show ((w.alloc (.cells #[.int .i64 W, .int .i64 T] 80)).alloc (.cells #[.int .u64 0, .int .u64 0, .int .u64 0, .int .u64 0, .int .u64 0, .int .u64 0, .int .u64 0, .int .u64 0] 125)).heap.size = w.heap.size + 1 + 1 by simp] at g2
  rw [show (w.alloc (.cells #[.int .i64 W, .int .i64 T] 80)).heap.size = w.heap.size + 1 by simp] at g1
  have B : Below w.heap.size w _ := (((Below.refl _ w).alloc (Nat.le_refl _) (.cells #[.int .i64 W, .int .i64 T] 80)).alloc (by simp) (.cells #[.int .u64 0, .int .u64 0, .int .u64 0, .int .u64 0, .int .u64 0, .int .u64 0, .int .u64 0, .int .u64 0] 125)).alloc (by simp; omega)
    (.cells #[.int .u64 32777959566500194, .int .u64 1, .int .u64 W, .int .u64 T, .int .u64 0, .int .u64 0, .int .u64 0, .int .u64 0] 125)
  have r := part_words (n := 7) (c := 8) (body W T) g2 rfl rfl (by simp [body, u64, HU1.out, HU2.out, magic]) (by simp)
  refine (Of_any _ _ _ r (by simp [body])).mono ?_
  rintro e w2 ⟨rfl, b⟩
  have g1' := blk_below g1 b; have g2' := blk_below g2 b
  replace B := B.trans (b.mono B.size)
  have hz := b.size
  rw [hW] at hz
  clear r b g1 g2 hW
  obtain ⟨S, hS⟩ : ∃ S, S = sum (body W T) := ⟨_, rfl⟩
  rw [← hS]
  have HS := Lib.hid hS; clear hS
  have c1 := blk_cell g1'; have c2 := blk_cell g2'; have f1 := blk_free g1'; have f2 := blk_free g2'
  have HB := Lib.hid B
  clear B g1' g2'
  go_wp2
  refine bodyPost_ret (v := arr8 (wordsOf W T)) ?_ rfl ⟨rfl, ?_⟩
  · simp [results, Try.results56, go_sem, c1, f1]
    simp [arr8, wordsOf, body, u64, HU1.out, HU2.out, magic, HS.out]
  · iterate 9 refine Below.setCell ?_ (by simp <;> omega) _
    exact HB.out
/-- fresh words and an error; the block may be that of an array. -/
def RetWB (w : World) (l : List UInt64) (err : Int) (e : Ending) (w' : World) : Prop := ∃ v, e = .returned (.tuple #[v, .int .i64 err]) ∧ (∃ E, OwnW w' w.heap.size E v l) ∧ Below w.heap.size w w'
set_option maxHeartbeats 1000000 in
theorem Write6_any (W T : Int) (w : World) : Calls Try.prog 29 #[supV W T] w (RetWB w (write W T) (supErr W T)) := by
  by_cases h : SupOk W T
  · have h0 : supErr W T = 0 := if_pos h
    have hl : arr8 (wordsOf W T) = .agg #[.int .u64 magic.toNat, .int .u64 (1 : UInt64).toNat, .int .u64 (u W).toNat, .int .u64 (u T).toNat, .int .u64 (0 : UInt64).toNat, .int .u64 (0 : UInt64).toNat, .int .u64 (0 : UInt64).toNat, .int .u64 (sum (body W T)).toNat] := rfl
    have H := Lib.hid h; have H0 := Lib.hid h0; clear h h0
    have HL := Lib.hid hl; clear hl
    unfold supV
    go_enter Try.func29, Try.ntmps29
    go_wp2_with fail
    refine (Check6_any W T _).mono ?_
    rw [H0.out]
    rintro e w1 ⟨rfl, b⟩
    have c1 := blk_cell (blk_below (blk_new w (.cells #[.int .i64 W, .int .i64 T] 80)) b)
    have B := ((Below.refl _ w).alloc (Nat.le_refl _) (.cells #[.int .i64 W, .int .i64 T] 80)).trans (b.mono (by simp))
    have HB := Lib.hid B; clear B b
    go_wp2_with fail
    refine (words_any W T _ H.out).mono ?_
    rw [HL.out]
    rintro e w2 ⟨rfl, b⟩
    have B := HB.out.trans (b.mono HB.out.size)
    have HB := Lib.hid B; clear B b
    clear c1
    go_wp2
    go_ret2
    refine ⟨_, ret_ve H0.out.symm, ⟨125, OwnW.of (World.ownsRow_lit w2 _ 8 HB.out.size (by simp [maxLen]) rfl) ?_⟩, HB.out.alloc HB.out.size _⟩
    rw [write, if_pos H.out]
    rfl
  · have h0 : supErr W T = 8 := if_neg h
    have H := Lib.hid h; have H0 := Lib.hid h0; clear h h0
    unfold supV
    go_enter Try.func29, Try.ntmps29
    go_wp2_with fail
    refine (Check6_any W T _).mono ?_
    rw [H0.out]
    rintro e w1 ⟨rfl, b⟩
    have B := ((Below.refl _ w).alloc (Nat.le_refl _) (.cells #[.int .i64 W, .int .i64 T] 80)).trans (b.mono (by simp))
    have HB := Lib.hid B; clear B b
    go_wp2
    go_ret2
    refine ⟨_, ret_ve H0.out.symm, ⟨64, ?_⟩, HB.out⟩
    rw [write, if_neg H.out]
    exact OwnW.nil _ _ _
end Go.Proofs.Ytodbbacmdjcheaa
namespace Go.Proofs.Ytodbbacmdjcheaa.L01
/-- the bits of w from f on, k of them -/
def val (w f k : Nat) : Nat := w / 2 ^ f % 2 ^ k
end Go.Proofs.Ytodbbacmdjcheaa.L01
namespace Go.Proofs.Ytodbbacmdjcheaa
open Go.RowKit L01
end Go.Proofs.Ytodbbacmdjcheaa
