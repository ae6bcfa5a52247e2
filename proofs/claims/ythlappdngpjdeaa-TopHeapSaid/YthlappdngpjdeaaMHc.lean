/- Contracts of the functions that the laws 'H' reach, part 3. No condition. -/
import Derived.Test.YthlappdngpjdeaaMHb
set_option linter.unusedVariables false
set_option linter.unusedSimpArgs false
namespace Go.Proofs.Ythlappdngpjdeaa
open Go.RowKit L02 L05 L13
theorem Of_r (v : Value) (l : List UInt64) (x : UInt64) (hx : x = sum l) (w : World) (h : Words w v l) (hl : l.length ≤ 2048) :
    Calls Try.prog 46 #[v] w fun e w' => e = .returned (.tuple #[.int .u64 x.toNat, .int .i64 0]) ∧ Below w.heap.size w w' := by
  subst hx; exact Of_any v l w h hl
theorem lit_word {w : World} {e n : Nat} (x : UInt64) (hn : w.heap.size = n) : Words (w.alloc (.cells #[.int .u64 x.toNat] e)) (.slice (some ⟨n, 0, none⟩) 1 1) [x] := by
  subst hn; exact lit_words [x] rfl rfl (by simp)
theorem or_digit {l : List UInt8} {k z N : Nat} {x : UInt8} (h0 : kErr l = 0) (hN : N = l.length) (hx : l[k]? = some x) (hz : z = fN (l.take k) * 256 + N) :
    bits .or .u64 (z : Int) (IntKind.u64.wrap ((x.toNat : Int) * 2 ^ (8 + 2 * k))) = ((fN (l.take (k + 1)) * 256 + N : Nat) : Int) := by
  obtain ⟨h1, h2⟩ := kErr_ok h0
  have hk : k < l.length := (List.getElem?_eq_some_iff.1 hx).1
  have hlt := fN_lt (l.take k) fun y hy => (h2 y (List.mem_of_mem_take hy)).2
  rw [List.length_take, Nat.min_eq_left (by omega)] at hlt
  have e4 : (2 : Nat) ^ (8 + 2 * k) = 4 ^ k * 256 := by rw [Nat.pow_add, Nat.pow_mul, Nat.mul_comm]
  have hp : 4 ^ k ≤ 4 ^ 8 := Nat.pow_le_pow_right (by omega) (by omega)
  have hx3 := (h2 x (List.mem_of_getElem? hx)).2
  have e1 : ((x.toNat : Int) * 2 ^ (8 + 2 * k)) = ((2 ^ (8 + 2 * k) * x.toNat : Nat) : Int) := by
    rw [Int.natCast_mul, Int.natCast_pow, Int.mul_comm]; rfl
  have hb : 2 ^ (8 + 2 * k) * x.toNat ≤ 4 ^ 8 * 256 * 3 := by
    rw [e4]; exact Nat.mul_le_mul (Nat.mul_le_mul_right _ hp) hx3
  simp only [show (4 : Nat) ^ 8 = 65536 from rfl] at hb hp
  have hzl : z < 2 ^ (8 + 2 * k) := by rw [e4]; omega
  have ew : IntKind.u64.wrap ((2 ^ (8 + 2 * k) * x.toNat : Nat) : Int) = ((2 ^ (8 + 2 * k) * x.toNat : Nat) : Int) := by
    rw [wrap_u64]
    generalize 2 ^ (8 + 2 * k) * x.toNat = q at hb
    omega
  rw [e1, ew, or_int (8 + 2 * k) x.toNat (by omega) (by exact_mod_cast hzl) rfl (by omega) (by generalize 2 ^ (8 + 2 * k) * x.toNat = q at hb; omega)]
  rw [fN_take hx, hz, e4]
  have : 4 ^ k * 256 * x.toNat = x.toNat * 4 ^ k * 256 := by rw [Nat.mul_comm, Nat.mul_assoc]
  omega
set_option maxHeartbeats 1000000 in
theorem KWrite_any (v : Value) (l : List UInt8) (a b : UInt64) (r : Int) (ha : a = w0 l) (hb : b = w1 l) (hr : r = kErr l) (w : World) (h : Byts w v l) :
    Calls Try.prog 37 #[v] w fun e w' => e = .returned (.tuple #[.agg #[.int .u64 a.toNat, .int .u64 b.toNat], .int .i64 r]) ∧ Below w.heap.size w w' := by
  have B : Below w.heap.size w w := Below.refl _ _
  have l1 := Rd.len h Try.underlying44
  obtain ⟨N, hN⟩ : ∃ N, N = l.length := ⟨_, rfl⟩
  rw [← hN] at l1
  have CT := fun w h => KCheck_any v l r hr w h
  have HC := Lib.hid CT; have H := Lib.hid h; clear CT h
  by_cases h0 : kErr l = 0
  · have hs : N ≤ 8 := by rw [hN]; exact kErr_len h0
    rw [h0] at hr
    subst hr
    have HN := Lib.hid hN; have H0 := Lib.hid h0
    have an : a.toNat = firstN l := by rw [ha]; exact w0_nat h0
    have hb' : b = sum [a] := by rw [hb, w1, if_pos h0, ha]
    have HAN := Lib.hid an; have HB := Lib.hid hb'
    clear hN h0 ha hb an hb'
    go_enter Try.func37, Try.ntmps37
    go_upto_region 1 with (fail)
    refine wp_gen (fun Wv => Bx Wv (w.heap.size) (77) (#[.int .u64 0, .int .u64 0]) ∧ Below w.heap.size w Wv) ⟨((Bx.at_ (by simp))), ((Below.refl _ w).alloc (by simp <;> omega) _)⟩ ?_
    rintro w' ⟨g2, b⟩
    replace B := B.trans (b.mono B.size); clear b
    have c_g2 := g2.cell; have f_g2 := g2.free; have a_g2 := fun o => (g2.alloc o).cell; have d_g2 := fun o o2 => ((g2.alloc o).alloc o2).cell; have e_g2 := fun o => (g2.alloc o).free
    go_wp2_with fail
    refine (HC.out _ (H.out.below B)).mono ?_
    rintro e w2 ⟨rfl, rfl⟩
    obtain ⟨w3, hw3⟩ : ∃ w3, w3 = w' := ⟨_, rfl⟩
    subst hw3
    go_wp2
    have HG := Lib.hid g2; have HBB := Lib.hid B; have HL := Lib.hid (H.out.below B)
    clear c_g2 f_g2 a_g2 d_g2 e_g2 g2 B
    go_loop [5, 21] (fun y i => ∃ k z : Nat, k ≤ N ∧ i = .int .i64 k ∧ y = .int .u64 (z : Int) ∧ Hid (z = fN (l.take k) * 256 + N)) (fun _ i => N - (intOf i).toNat)
    case atStart => exact ⟨0, N, Nat.zero_le _, rfl, by simp, Lib.hid (by simp [fN])⟩
    case round =>
      obtain ⟨k, z, hk, rfl, rfl, hz⟩ := hrel
      by_cases hlt : k < N
      · obtain ⟨ad, x, ia, ca, hx⟩ := HL.out.at_ (P := Try.prog) Try.underlying44 one_u8 (k := k) (by have := HN.out; omega)
        have hxl := x.toNat_lt
        go_wp2
        refine ⟨⟨k + 1, fN (l.take (k + 1)) * 256 + N, by omega, by go_num, ?_, Lib.hid rfl⟩, ?_⟩
        · rw [or_digit H0.out HN.out hx.out hz.out]
        · simp [intOf]; omega
      · obtain rfl : k = N := by omega
        have hza : z = a.toNat := by rw [hz.out, HAN.out, firstN, HN.out, List.take_length]
        subst hza
        have OT := fun v w h => Of_r v [a] b HB.out w h (by simp)
        have HO := Lib.hid OT; clear OT
        go_wp2_with fail
        refine (HO.out _ _ (lit_word a rfl)).mono ?_
        rintro e w4 ⟨rfl, bb⟩
        have g2 := HG.out.below ((Below.refl _ _).alloc (Nat.le_refl _) (.cells #[.int .u64 a.toNat] 34))
        replace g2 := g2.below bb
        have B := (HBB.out.alloc HBB.out.size (.cells #[.int .u64 a.toNat] 34)).trans (bb.mono (Nat.le_trans HBB.out.size (by simp)))
        have k2 := g2.cell; have l2 := g2.free
        clear bb g2
        go_wp2
        refine bodyPost_ret (v := .tuple #[.agg #[.int .u64 a.toNat, .int .u64 b.toNat], .int .i64 0]) (by simp [results, Try.results37, go_sem, k2, l2]) rfl ⟨rfl, ?_⟩
        (repeat (first | refine Below.setCell ?_ (by first | exact Nat.le_refl _ | (simp <;> omega)) _ | refine Below.alloc ?_ (by first | exact B.size | (have := B.size; simp <;> omega)) _)); exact B
  · have hne : (r != 0) = true := by rw [bne_iff_ne, hr]; exact h0
    have ha0 : a = 0 := by rw [ha, w0, if_neg h0]
    have hb0 : b = 0 := by rw [hb, w1, if_neg h0]
    subst ha0 hb0
    clear ha hb hr h0 hN
    go_enter Try.func37, Try.ntmps37
    go_upto_region 1 with (fail)
    refine wp_gen (fun Wv => Bx Wv (w.heap.size) (77) (#[.int .u64 0, .int .u64 0]) ∧ Below w.heap.size w Wv) ⟨((Bx.at_ (by simp))), ((Below.refl _ w).alloc (by simp <;> omega) _)⟩ ?_
    rintro w' ⟨g2, b⟩
    replace B := B.trans (b.mono B.size); clear b
    have c_g2 := g2.cell; have f_g2 := g2.free; have a_g2 := fun o => (g2.alloc o).cell; have d_g2 := fun o o2 => ((g2.alloc o).alloc o2).cell; have e_g2 := fun o => (g2.alloc o).free
    go_wp2_with fail
    refine (HC.out _ (H.out.below B)).mono ?_
    rintro e w2 ⟨rfl, rfl⟩
    go_wp2
    refine bodyPost_ret (v := .tuple #[.agg #[.int .u64 0, .int .u64 0], .int .i64 r]) (by simp [results, Try.results37, go_sem, c_g2, f_g2, a_g2, e_g2]) rfl ?_
    refine ⟨rfl, ?_⟩
    (repeat (first | refine Below.setCell ?_ (by first | exact Nat.le_refl _ | (simp <;> omega)) _ | refine Below.alloc ?_ (by first | exact B.size | (have := B.size; simp <;> omega)) _)); exact B
end Go.Proofs.Ythlappdngpjdeaa
namespace Go.Proofs.Ythlappdngpjdeaa
open Go.RowKit
section
variable {P : Program}
theorem run_eqItems_words (d : Nat) {e : TypeId} (he : P.underlying e = some (.int .u64)) (hp : ∀ (X : Array Value) (j : Nat) (u : Value) (w : World), X[j]? = some u → (part e X j).run P w = .ok u w) :
    ∀ (m k : Nat) (l1 l2 : List UInt64) (w : World), k + m ≤ l1.length → k + m ≤ l2.length →
    (Op.eqItems (d + 1) e 1 (l1.map u64).toArray (l2.map u64).toArray (List.range' k m)).run P w = .ok (decide ((l1.drop k).take m = (l2.drop k).take m)) w
  | 0, k, l1, l2, w, _, _ => by simp [Op.eqItems]
  | m + 1, k, l1, l2, w, h1, h2 => by
    have e1 : (l1.map u64).toArray[k]? = some (u64 (l1[k]'(by omega))) := by simp [show k < l1.length by omega]
    have e2 : (l2.map u64).toArray[k]? = some (u64 (l2[k]'(by omega))) := by simp [show k < l2.length by omega]
    have ih := run_eqItems_words d he hp m (k + 1) l1 l2 w (by omega) (by omega)
    rw [List.range'_succ]
    simp only [Op.eqItems, Nat.mul_one, Sem.run_bind, hp _ _ _ _ e1, hp _ _ _ _ e2, Result.andThen_ok]
    rw [show (Op.equalIn (d + 1) e (u64 (l1[k]'(by omega))) (u64 (l2[k]'(by omega)))).run P w = .ok (((l1[k]'(by omega)).toNat : Int) == ((l2[k]'(by omega)).toNat : Int)) w from run_equalIn_int w d e .u64 .u64 _ _ he]
    rw [List.drop_eq_getElem_cons (show k < l1.length by omega), List.drop_eq_getElem_cons (show k < l2.length by omega), List.take_succ_cons, List.take_succ_cons]
    by_cases hx : l1[k]'(by omega) = l2[k]'(by omega)
    · have t1 : (((l1[k]'(by omega)).toNat : Int) == ((l2[k]'(by omega)).toNat : Int)) = true := by rw [hx]; simp
      rw [t1]
      simp only [Result.andThen_ok, Bool.not_true, Bool.false_eq_true, if_false]
      rw [ih, hx]
      simp
    · have t1 : (((l1[k]'(by omega)).toNat : Int) == ((l2[k]'(by omega)).toNat : Int)) = false := by
        rw [beq_eq_false_iff_ne]; intro h; exact hx (UInt64.toNat_inj.1 (by omega))
      rw [t1]
      simp [hx]
theorem run_neq_words {t e : TypeId} {n : Nat} (ht : P.underlying t = some (.array n e)) (hi : (P.info? e).isSome = true) (he : P.underlying e = some (.int .u64)) (hc : P.cellsOf e = 1)
    (hp : ∀ (X : Array Value) (j : Nat) (u : Value) (w : World), X[j]? = some u → (part e X j).run P w = .ok u w)
    (l1 l2 : List UInt64) (h1 : l1.length = n) (h2 : l2.length = n) (w : World) : (binOp .neq t (.agg (l1.map u64).toArray) (.agg (l2.map u64).toArray)).run P w = .ok (.bool (!decide (l1 = l2))) w := by
  obtain ⟨i, hi⟩ := Option.isSome_iff_exists.1 hi
  rw [run_neq_struct, run_equalIn_array (w := w) 9999 _ _ ht hi, hc, List.range_eq_range', run_eqItems_words 9998 he hp n 0 l1 l2 w (by omega) (by omega)]
  simp only [List.drop_zero, Result.andThen_ok]
  rw [List.take_of_length_le (by omega), List.take_of_length_le (by omega)]
end
end Go.Proofs.Ythlappdngpjdeaa
namespace Go.Proofs.Ythlappdngpjdeaa
open Go.RowKit L02 L05 L13
theorem pair_neq (a b c d : UInt64) (r : Bool) (hr : r = !decide ([a, b] = [c, d])) (W : World) : (binOp .neq 77 (.agg #[.int .u64 a.toNat, .int .u64 b.toNat]) (.agg #[.int .u64 c.toNat, .int .u64 d.toNat])).run Try.prog W = .ok (.bool r) W := by
  subst hr
  exact run_neq_words (P := Try.prog) (n := 2) Try.underlying77 (by kernel_rfl) Try.underlying34 (by kernel_rfl) (fun X j u W h => run_part_plain W (by kernel_rfl) h) [a, b] [c, d] rfl rfl W
theorem lit_u8 {w : World} {e n : Nat} (x : Int) (q : UInt8) (hq : x = q.toNat) (hn : w.heap.size = n) : Rd (w.alloc (.cells #[.int .u8 x] e)) 1 (.slice (some ⟨n, 0, none⟩) 1 1) 1 ([q].map u8) := by
  subst hn hq; exact lit_rd
theorem one_u8' (q : UInt8) : ∀ u ∈ [q].map u8, u.oneCell' = true := one_u8s [q]
set_option maxHeartbeats 2000000 in
theorem KRead_any (a b : UInt64) (L : List UInt8) (r : Int) (hL : L = rdL a b) (hr : r = rdE a b) (w : World) :
    Calls Try.prog 25 #[.int .u64 a.toNat, .int .u64 b.toNat] w fun e w' => ∃ x, e = .returned (.tuple #[x, .int .i64 r]) ∧ OwnB w' w.heap.size 5 x L ∧ Below w.heap.size w w' := by
  have B : Below w.heap.size w w := Below.refl _ _
  have hal := toNat_lt a
  have e1 := and_int (a := (a.toNat : Int)) 8 (by omega) (by omega) 255 (by decide) (by omega)
  obtain ⟨n, hn⟩ : ∃ n, n = nOf a := ⟨_, rfl⟩
  have e1' : bits .and .u64 (a.toNat : Int) 255 = (n : Int) := by rw [e1, hn]; unfold nOf; simp only [show ((2 ^ 8 : Nat) : Int) = 256 from rfl]; omega
  clear e1
  have HL := Lib.hid hL; have HR := Lib.hid hr; have HN := Lib.hid hn
  clear hL hr
  by_cases hb : 8 < n
  · have hno : ¬ RdOk a b := fun h => by have := h.1; omega
    have hL0 : L = [] := by rw [HL.out, rdL, if_neg hno]
    have hr0 : r = 50 := by rw [HR.out, rdE, if_neg hno]
    subst hL0 hr0
    clear hn hno
    go_enter Try.func25, Try.ntmps25
    go_wp2
    go_ret2
    exact ⟨_, rfl, OwnB.nil _ _ _, B⟩
  · have hn8 : n ≤ 8 := by omega
    clear hb hn
    go_enter Try.func25, Try.ntmps25
    go_wp2
    have HB := Lib.hid B; clear B
    go_loopw [7, 16] (fun xv i wr => ∃ k : Nat, k ≤ n ∧ i = .int .u64 k ∧ Hid (OwnB wr w.heap.size 5 xv (dig a k)) ∧ Below w.heap.size w wr) (fun _ i _ => n - (intOf i).toNat)
    case atStart => exact ⟨0, by omega, rfl, Lib.hid (OwnB.nil _ _ _), HB.out⟩
    case round =>
      obtain ⟨k, hk, rfl, hh, B⟩ := hrel
      by_cases hlt : k < n
      · have hp : (2 : Int) ^ (8 + 2 * k) = ((256 * 4 ^ k : Nat) : Int) := by
          have : (2 : Nat) ^ (8 + 2 * k) = 256 * 4 ^ k := by rw [Nat.pow_add, Nat.pow_mul]
          exact_mod_cast this
        have HP := Lib.hid hp; clear hp
        obtain ⟨q, hq⟩ : ∃ q : UInt8, q = UInt8.ofNat (a.toNat / 256 / 4 ^ k % 4) := ⟨_, rfl⟩
        have hqn : q.toNat = a.toNat / 256 / 4 ^ k % 4 := by rw [hq, UInt8.toNat_ofNat']; omega
        have hql : q.toNat < 256 := q.toNat_lt
        have e2 : bits .and .u64 ((a.toNat : Int) / 2 ^ (8 + 2 * k)) 3 = (q.toNat : Int) := by
          have e3 : ((a.toNat : Int) / 2 ^ (8 + 2 * k)) = ((a.toNat / 256 / 4 ^ k : Nat) : Int) := by
            rw [HP.out, Nat.div_div_eq_div_mul]; exact (Int.natCast_ediv _ _).symm
          have h4 : a.toNat / 256 / 4 ^ k ≤ a.toNat := by rw [Nat.div_div_eq_div_mul]; exact Nat.div_le_self _ _
          rw [e3, hqn]
          generalize a.toNat / 256 / 4 ^ k = z at h4
          rw [and_int (a := (z : Int)) 2 (by omega) (by omega) 3 (by decide) (by omega)]
          exact (Int.natCast_emod z 4).symm
        have HQ := Lib.hid hq; have HO := Lib.hid hh.out; have HBB := Lib.hid B
        clear hq hqn hh B
        have hlk : (dig a k).length = k := dig_len a k
        have HLK := Lib.hid hlk; clear hlk
        go_wp2_with (at_builtin; refine wpList_append (by rfl) rfl rfl rfl Try.underlying44 info_u8 rfl (by omega) (by exact own_below HO.out ((Below.refl _ _).alloc (Nat.le_refl _) _)) (by exact lit_u8 _ q (by omega) rfl) (one_u8' q) (by rw [HLK.out]; omega) (by rw [HLK.out]; omega) (by exact HBB.out.alloc HBB.out.size _) (Nat.le_refl _) ?_; intro v1 w3 o3 B3 g3; clear g3)
        have o4 : OwnB w3 w.heap.size 5 v1 (dig a (k + 1)) := OwnB.of o3 (by rw [dig_succ, List.map_append, ← HQ.out])
        have HO4 := Lib.hid o4; have HB3 := Lib.hid B3; clear o3 o4 B3
        go_roundw
        case rel => exact ⟨k + 1, by omega, by go_num, Lib.hid HO4.out, HB3.out⟩
        case measure => simp [intOf]; omega
      · obtain rfl : k = n := by omega
        have HO := Lib.hid hh.out
        obtain ⟨l, hl⟩ : ∃ l, l = dig a k := ⟨_, rfl⟩
        rw [← hl] at HO
        obtain ⟨c, hc⟩ : ∃ c, c = w0 l := ⟨_, rfl⟩
        obtain ⟨d, hd⟩ : ∃ d, d = w1 l := ⟨_, rfl⟩
        obtain ⟨e, he⟩ : ∃ e, e = kErr l := ⟨_, rfl⟩
        have WT := fun v w h => KWrite_any v l c d e hc hd he w h
        have HW := Lib.hid WT; clear WT
        have hiff : RdOk a b ↔ e = 0 ∧ [c, d] = [a, b] := by
          unfold RdOk
          rw [← HN.out, ← hl, ← he, ← hc, ← hd]
          simp only [List.cons.injEq, and_true]
          exact ⟨fun h => ⟨h.2.1, h.2.2.1, h.2.2.2⟩, fun h => ⟨hn8, h.1, h.2.1, h.2.2⟩⟩
        have hrl : RdOk a b → L = l ∧ r = 0 := fun h => ⟨by rw [HL.out, rdL, if_pos h, ← HN.out, hl], by rw [HR.out, rdE, if_pos h]⟩
        have hrn : ¬ RdOk a b → L = [] ∧ r = 50 := fun h => ⟨by rw [HL.out, rdL, if_neg h], by rw [HR.out, rdE, if_neg h]⟩
        clear hc hd he hl hh
        have hcase : (e != 0) = true ∧ L = [] ∧ r = 50 ∨ e = 0 ∧ ((!decide ([c, d] = [a, b])) = true ∧ L = [] ∧ r = 50 ∨ (!decide ([c, d] = [a, b])) = false ∧ L = l ∧ r = 0) := by
          by_cases h1 : e = 0
          · by_cases h2 : [c, d] = [a, b]
            · have := hrl (hiff.2 ⟨h1, h2⟩)
              exact .inr ⟨h1, .inr ⟨by rw [decide_eq_true h2]; rfl, this⟩⟩
            · have := hrn (fun h => h2 (hiff.1 h).2)
              exact .inr ⟨h1, .inl ⟨by rw [decide_eq_false h2]; rfl, this⟩⟩
          · have := hrn (fun h => h1 (hiff.1 h).1)
            exact .inl ⟨by rw [bne_iff_ne]; exact h1, this⟩
        clear hiff hrl hrn
        rcases hcase with ⟨h1, rfl, rfl⟩ | ⟨rfl, ⟨h2, rfl, rfl⟩ | ⟨h2, rfl, rfl⟩⟩
        · go_wp2_with fail
          refine (HW.out _ _ HO.out.rd).mono ?_
          rintro e w3 ⟨rfl, bb⟩
          replace B := B.trans (bb.mono B.size); clear bb
          go_wp2
          go_ret2
          exact ⟨_, rfl, OwnB.nil _ _ _, B.alloc B.size _⟩
        · have q1 := fun W => pair_neq c d a b true h2.symm W
          go_wp2_with fail
          refine (HW.out _ _ HO.out.rd).mono ?_
          rintro e w3 ⟨rfl, bb⟩
          replace B := B.trans (bb.mono B.size); clear bb
          go_wp2
          go_ret2
          exact ⟨_, rfl, OwnB.nil _ _ _, B.alloc B.size _⟩
        · have q1 := fun W => pair_neq c d a b false h2.symm W
          go_wp2_with fail
          refine (HW.out _ _ HO.out.rd).mono ?_
          rintro e w3 ⟨rfl, bb⟩
          have o4 := (HO.out.below bb).below ((Below.refl _ _).alloc (Nat.le_refl _) (.cells #[.int .u64 c.toNat, .int .u64 d.toNat] 77))
          have HO4 := Lib.hid o4
          replace B := B.trans (bb.mono B.size); clear bb o4
          go_wp2
          go_ret2
          exact ⟨_, rfl, HO4.out, B.alloc B.size _⟩
end Go.Proofs.Ythlappdngpjdeaa
namespace Go.Proofs.Ythlappdngpjdeaa
open Go.RowKit L02 L05 L13
end Go.Proofs.Ythlappdngpjdeaa
namespace Go.Proofs.Ythlappdngpjdeaa.L13
open L02 L05
/-- the two words of type number i -/
def ta (l : List UInt64) (i : Nat) : UInt64 := l.getD (96 + 2 * i) 0
def tb (l : List UInt64) (i : Nat) : UInt64 := l.getD (97 + 2 * i) 0
def TyOk (l : List UInt64) (n i : Nat) : Prop := if i < n then RdOk (ta l i) (tb l i) else ta l i = 0 ∧ tb l i = 0
instance (l : List UInt64) (n i : Nat) : Decidable (TyOk l n i) := inferInstanceAs (Decidable (if i < n then RdOk (ta l i) (tb l i) else ta l i = 0 ∧ tb l i = 0))
def TysOk (l : List UInt64) (n : Nat) : Prop := ∀ i, i < 8 → TyOk l n i
instance (l : List UInt64) (n : Nat) : Decidable (TysOk l n) := inferInstanceAs (Decidable (∀ i, i < 8 → TyOk l n i))
def tysTo (l : List UInt64) (k : Nat) : List (List UInt8) := (List.range k).map fun i => rdL (ta l i) (tb l i)
def tabErr (l : List UInt64) (n : Int) : Int := if SizeOk l.length then (if 0 ≤ n ∧ n ≤ 8 then (if TysOk l n.toNat then 0 else 50) else 2) else 8
def tabT (l : List UInt64) (n : Int) : List (List UInt8) := if tabErr l n = 0 then tysTo l n.toNat else []
theorem tysTo_succ (l : List UInt64) (k : Nat) : tysTo l (k + 1) = tysTo l k ++ [rdL (ta l k) (tb l k)] := by
  unfold tysTo
  rw [List.range_succ, List.map_append]; rfl
theorem tysTo_len (l : List UInt64) (k : Nat) : (tysTo l k).length = k := by simp [tysTo]
theorem ta_of {l : List UInt64} {i : Nat} {x : UInt64} (h : l[96 + 2 * i]? = some x) : ta l i = x := by simp [ta, List.getD_eq_getElem?_getD, h]
theorem tb_of {l : List UInt64} {i : Nat} {x : UInt64} (h : l[97 + 2 * i]? = some x) : tb l i = x := by simp [tb, List.getD_eq_getElem?_getD, h]
theorem rdE_ok {a b : UInt64} : rdE a b = 0 ↔ RdOk a b := by
  unfold rdE
  split <;> simp_all
end Go.Proofs.Ythlappdngpjdeaa.L13
namespace Go.Proofs.Ythlappdngpjdeaa
open Go.RowKit L02 L05 L13
/-- A slice of slices of bytes. -/
def Typs (w : World) (v : Value) (L : List (List UInt8)) : Prop := ∃ vs : List Value, vs.length = L.length ∧ Rd w 1 v L.length vs ∧ ∀ (i : Nat) x l, vs[i]? = some x → L[i]? = some l → Byts w x l
/-- .. of the call's own, its rows too. -/
def OwnT (w : World) (base : Nat) (v : Value) (L : List (List UInt8)) : Prop := ∃ vs : List Value, vs.length = L.length ∧ w.ownsRow base 44 1 v L.length vs ∧ ∀ (i : Nat) x l, vs[i]? = some x → L[i]? = some l → OwnB w base 5 x l
theorem OwnT.rd {w : World} {base : Nat} {v : Value} {L : List (List UInt8)} (h : OwnT w base v L) : Typs w v L := by
  obtain ⟨vs, h1, h2, h4⟩ := h; exact ⟨vs, h1, Rd.of_own h2, fun i x l h5 h6 => (h4 i x l h5 h6).rd⟩
theorem Typs.below {w w' : World} {v : Value} {L : List (List UInt8)} (h : Typs w v L) (hb : Below w.heap.size w w') : Typs w' v L := by
  obtain ⟨vs, h1, h2, h3⟩ := h; exact ⟨vs, h1, h2.below hb, fun i x l h4 h5 => (h3 i x l h4 h5).below hb⟩
theorem OwnT.below {w w' : World} {base : Nat} {v : Value} {L : List (List UInt8)} (h : OwnT w base v L) (hb : Below w.heap.size w w') : OwnT w' base v L := by
  obtain ⟨vs, h1, h2, h4⟩ := h; exact ⟨vs, h1, own_below h2 hb, fun i x l h5 h6 => (h4 i x l h5 h6).below hb⟩
theorem OwnT.nil (w : World) (base : Nat) : OwnT w base (.slice none 0 0) [] := ⟨[], rfl, World.ownsRow_nil w base _ 1, fun i x l h => by simp at h⟩
theorem Typs.len {w : World} {v : Value} {L : List (List UInt8)} (h : Typs w v L) : ∀ ty W, (Builtin.len_ #[39] ty #[v]).run Try.prog W = .ok (.int .i64 (L.length : Int)) W := by
  obtain ⟨vs, h1, h2, h3⟩ := h; exact Rd.len h2 Try.underlying39
theorem Typs.len_le {w : World} {v : Value} {L : List (List UInt8)} (h : Typs w v L) : L.length ≤ 9223372036854775807 := by
  obtain ⟨vs, h1, h2, h3⟩ := h; exact Rd.len_le h2
theorem one_bytes : (Try.prog.info? 44).map (·.size) = some 1 := by kernel_rfl
theorem info_bytes : (Try.prog.info? 44).map (fun i => (i.zero, i.size, i.bytes)) = some (some (.slice none 0 0), 1, 24) := by kernel_rfl
theorem Typs.at_ {w : World} {v : Value} {L : List (List UInt8)} (h : Typs w v L) {k : Nat} (hk : k < L.length) :
    ∃ ad x l, (∀ W, (Instr.indexAt 39 v (.int .i64 (k : Int))).run Try.prog W = .ok (.pointer (some ad)) W) ∧ w.cell? ad = some x ∧ Hid (L[k]? = some l) ∧ Hid (Byts w x l) := by
  obtain ⟨vs, h1, h2, h3⟩ := h
  have hv : vs[k]? = some vs[k] := List.getElem?_eq_getElem (by omega)
  have hl : L[k]? = some L[k] := List.getElem?_eq_getElem hk
  exact ⟨_, vs[k], L[k], fun W => Rd.ixN h2 Try.underlying39 one_bytes hk W, by rw [Nat.mul_one]; exact Rd.cell h2 hv, Lib.hid hl, Lib.hid (h3 k _ _ hv hl)⟩
theorem Byts.oneCell {w : World} {x : Value} {l : List UInt8} (h : Byts w x l) : x.oneCell' = true := by
  obtain ⟨A, c, rfl, _⟩ := h; rfl
/-- two own rows of unlike elements lie in unlike blocks. -/
theorem own_unlike {w : World} {b1 b2 e1 e2 s1 s2 n1 n2 : Nat} {x a : Value} {xs ys : List Value} (hx : w.ownsRow b1 e1 s1 x n1 xs) (ha : w.ownsRow b2 e2 s2 a n2 ys) (h : e1 ≠ e2) : x.ownBlock = none ∨ x.ownBlock ≠ a.ownBlock := by
  rcases hx.2 with ⟨rfl, _⟩ | ⟨g, cap, cur, rfl, _, hg, _⟩
  · exact .inl rfl
  · rcases ha.2 with ⟨rfl, _⟩ | ⟨g', cap', cur', rfl, _, hg', _⟩
    · exact .inr (by simp [Value.ownBlock])
    · refine .inr ?_
      intro he
      simp [Value.ownBlock] at he
      subst he
      rw [hg] at hg'
      injection hg' with hg'
      injection hg' with _ h2 _
      exact h h2
/-- one more row. -/
theorem OwnT.snoc {w w' : World} {base n : Nat} {v v' x : Value} {L : List (List UInt8)} {l : List UInt8} {vs : List Value} (h1 : vs.length = L.length) (ho0 : w.ownsRow base 44 1 v L.length vs) (ho : w'.ownsRow base 44 1 v' n (vs ++ [x]))
    (h4 : ∀ (i : Nat) x l, vs[i]? = some x → L[i]? = some l → OwnB w base 5 x l) (hx : OwnB w base 5 x l) (hg : w.grownBy w' v.ownBlock) : OwnT w' base v' (L ++ [l]) := by
  have hn : n = (L ++ [l]).length := by have := ho.1; simp at this ⊢; omega
  subst hn
  have keep : ∀ y m, OwnB w base 5 y m → OwnB w' base 5 y m := fun y m hy => World.ownsRow.kept hy hg (own_unlike hy ho0 (by decide))
  refine ⟨vs ++ [x], by simp [h1], ho, fun i y m hy hm => ?_⟩
  by_cases hi : i < vs.length
  · rw [List.getElem?_append_left hi] at hy
    rw [List.getElem?_append_left (by omega)] at hm
    exact keep _ _ (h4 i y m hy hm)
  · rw [List.getElem?_append_right (by omega)] at hy
    rw [List.getElem?_append_right (by omega)] at hm
    have h0 : i - vs.length = 0 := by
      rcases Nat.eq_zero_or_pos (i - vs.length) with h | h
      · exact h
      · rw [List.getElem?_eq_none (by simp; omega)] at hy; cases hy
    rw [h0] at hy; rw [← h1, h0] at hm
    simp at hy hm; subst hy; subst hm
    exact keep _ _ hx
set_option maxHeartbeats 4000000 in
theorem KTable_ok (v : Value) (l : List UInt64) (n : Nat) (hn : n ≤ 8) (hs : SizeOk l.length) (L : List (List UInt8)) (r : Int) (hL : L = tabT l n) (hr : r = tabErr l n) (w : World) (h : Words w v l) :
    Calls Try.prog 12 #[v, .int .i64 (n : Int)] w fun e w' => ∃ x, e = .returned (.tuple #[x, .int .i64 r]) ∧ OwnT w' w.heap.size x L ∧ Below w.heap.size w w' := by
  have B : Below w.heap.size w w := Below.refl _ _
  have hbad : ¬ TysOk l n → L = [] ∧ r = 50 := fun hno => by
    have e : tabErr l n = 50 := by rw [tabErr, if_pos hs, if_pos ⟨by omega, by omega⟩, if_neg (by simpa using hno)]
    exact ⟨by rw [hL, tabT, if_neg (by rw [e]; omega)], by rw [hr, e]⟩
  have hgood : TysOk l n → L = tysTo l n ∧ r = 0 := fun hyes => by
    have e : tabErr l n = 0 := by rw [tabErr, if_pos hs, if_pos ⟨by omega, by omega⟩, if_pos (by simpa using hyes)]
    exact ⟨by rw [hL, tabT, if_pos e]; simp, by rw [hr, e]⟩
  have CT := fun w h => Check_any v l w h
  rw [chk_ok hs] at CT
  have hlen := hs.1
  have HC := Lib.hid CT; have H := Lib.hid h; have HBAD := Lib.hid hbad; have HGOOD := Lib.hid hgood
  clear CT h hs hL hr hbad hgood
  go_enter Try.func12, Try.ntmps12
  go_wp2_with fail
  refine (HC.out _ (H.out.below B)).mono ?_
  rintro e w2 ⟨rfl, rfl⟩
  go_wp2
  have HB := Lib.hid B; clear B
  go_loopw [7, 24] (fun xv i wr => ∃ k : Nat, k ≤ 8 ∧ i = .int .i64 k ∧ Hid (OwnT wr w.heap.size xv (tysTo l (min k n)) ∧ ∀ i, i < k → TyOk l n i) ∧ Below w.heap.size w wr) (fun _ i _ => 8 - (intOf i).toNat)
  case atStart => exact ⟨0, by omega, rfl, Lib.hid ⟨by rw [Nat.zero_min]; exact OwnT.nil _ _, fun i hi => by omega⟩, HB.out⟩
  case round =>
    obtain ⟨k, hk, rfl, hh, B⟩ := hrel
    by_cases hlt : k < 8
    · obtain ⟨ad, a, ia, m0, ha⟩ := (H.out.below B).atI Try.underlying22 one_u64 (k := 96 + 2 * (k : Int)) (by omega) (by omega)
      obtain ⟨bd, b, ib, m1, hb⟩ := (H.out.below B).atI Try.underlying22 one_u64 (k := 96 + 2 * (k : Int) + 1) (by omega) (by omega)
      have ea : ta l k = a := ta_of (by have := ha.out; rwa [show (96 + 2 * (k : Int)).toNat = 96 + 2 * k by omega] at this)
      have eb : tb l k = b := tb_of (by have := hb.out; rwa [show (96 + 2 * (k : Int) + 1).toNat = 97 + 2 * k by omega] at this)
      have hw1 : IntKind.i64.wrap (2 * (k : Int)) = 2 * (k : Int) := IntWalk.i64_in _ (by omega)
      have hw2 : IntKind.i64.wrap (96 + 2 * (k : Int)) = 96 + 2 * (k : Int) := IntWalk.i64_in _ (by omega)
      have hw3 : IntKind.i64.wrap (96 + 2 * (k : Int) + 1) = 96 + 2 * (k : Int) + 1 := IntWalk.i64_in _ (by omega)
      have EA := Lib.hid ea; have EB := Lib.hid eb
      clear ha hb ea eb
      by_cases hkn : k < n
      · have hmin : min k n = k := by omega
        obtain ⟨f, hf⟩ : ∃ f, f = rdL a b := ⟨_, rfl⟩
        obtain ⟨e, he⟩ : ∃ e, e = rdE a b := ⟨_, rfl⟩
        have RT := fun w => KRead_any a b f e hf he w
        have HRT := Lib.hid RT; have HF := Lib.hid hf; have HE := Lib.hid he
        have hcase : e = 0 ∨ (e != 0) = true := by by_cases h : e = 0; exact .inl h; exact .inr (by rw [bne_iff_ne]; exact h)
        clear RT hf he
        rcases hcase with rfl | hne
        · go_wp2
          refine wp_region_calm (by kernel_rfl) (by kernel_rfl) ?_
          have c_m0 := fun x : Fut _ => cell_later x.h m0
          have c_m1 := fun x : Fut _ => cell_later x.h m1
          repeat (go_big_quiet_step (fail))
          refine wpQuiet_nil ?_
          intro _ hw'
          obtain ⟨xq, hw''⟩ := hw'
          subst hw''
          clear c_m0; replace m0 := cell_later xq.h m0
          clear c_m1; replace m1 := cell_later xq.h m1
          replace B := B.trans (xq.h.mono B.size)
          clear hw1 hw2 hw3
          have HHB : Hid (OwnT xq.W w.heap.size _ (tysTo l k)) := Lib.hid (by have := hh.out.1.below xq.h; rwa [hmin] at this)
          go_wp2_with fail
          have hzz := B.size
          refine (HRT.out _).mono ?_
          rintro e w3 ⟨y, rfl, oy, bb⟩
          obtain ⟨yA, yc, rfl, _⟩ := OwnB.rd oy
          obtain ⟨vs, z1, z2, z4⟩ := HHB.out.below bb
          replace B := B.trans (bb.mono B.size)
          have HY := Lib.hid (own_mono oy (B' := w.heap.size) hzz); have HBB := Lib.hid B; have Z1 := Lib.hid z1; have Z2 := Lib.hid z2; have Z4 := Lib.hid z4
          clear bb oy B z1 z2 z4 m0 m1
          have hlk := tysTo_len l k
          have HLK := Lib.hid hlk; clear hlk
          have hba : ∀ o, Below w3.heap.size w3 (w3.alloc o) := fun o => (Below.refl _ _).alloc (Nat.le_refl _) o
          have HBA := Lib.hid hba; clear hba
          go_wp2_with (at_builtin; refine wpList_append (by rfl) rfl rfl rfl Try.underlying39 info_bytes rfl (by omega) (by exact own_below Z2.out (HBA.out _)) (by exact lit_rd) (by intro u hu; simp at hu; subst hu; exact (OwnB.rd HY.out).oneCell) (by rw [HLK.out]; omega) (by rw [HLK.out]; omega) (by exact HBB.out.alloc HBB.out.size _) (Nat.le_refl _) ?_; intro v1 w4 o4 B4 g4; have T4 := Lib.hid (OwnT.snoc Z1.out (own_below Z2.out (HBA.out _)) o4 (fun i x l h5 h6 => (Z4.out i x l h5 h6).below (HBA.out _)) (OwnB.below HY.out (HBA.out _)) g4); have HB4 := Lib.hid B4; clear o4 B4 g4)
          go_roundw
          case rel =>
            refine ⟨k + 1, by omega, by go_num, Lib.hid ⟨?_, ?_⟩, HB4.out⟩
            · rw [show min (k + 1) n = k + 1 by omega, tysTo_succ, EA.out, EB.out, ← HF.out]; exact T4.out
            · intro i hi
              by_cases hik : i < k
              · exact hh.out.2 i hik
              · obtain rfl : i = k := by omega
                rw [TyOk, if_pos hkn, EA.out, EB.out]; exact rdE_ok.1 HE.out.symm
          case measure => simp [intOf]; omega
        · have hno : ¬ TysOk l n := fun hall => by
            have := hall k hlt
            rw [TyOk, if_pos hkn, EA.out, EB.out, ← rdE_ok, ← HE.out] at this
            rw [this] at hne; simp at hne
          obtain ⟨rfl, rfl⟩ := HBAD.out hno
          have hfe : e = 50 := by
            have h1 := HE.out
            unfold rdE at h1
            split at h1
            · rw [h1] at hne; simp at hne
            · exact h1
          subst hfe
          clear hno hne
          go_wp2
          refine wp_region_calm (by kernel_rfl) (by kernel_rfl) ?_
          have c_m0 := fun x : Fut _ => cell_later x.h m0
          have c_m1 := fun x : Fut _ => cell_later x.h m1
          repeat (go_big_quiet_step (fail))
          refine wpQuiet_nil ?_
          intro _ hw'
          obtain ⟨xq, hw''⟩ := hw'
          subst hw''
          clear c_m0; replace m0 := cell_later xq.h m0
          clear c_m1; replace m1 := cell_later xq.h m1
          replace B := B.trans (xq.h.mono B.size)
          clear hw1 hw2 hw3
          go_wp2_with fail
          refine (HRT.out _).mono ?_
          rintro e w3 ⟨y, rfl, oy, bb⟩
          replace B := B.trans (bb.mono B.size); clear bb oy m0 m1
          go_wp2
          go_ret2
          exact ⟨_, rfl, OwnT.nil _ _, B⟩
      · have hmin : min k n = n := by omega
        have hmin2 : min (k + 1) n = n := by omega
        have HM := Lib.hid (And.intro hmin hmin2); clear hmin hmin2
        have hcase : ((a.toNat : Int) != 0) = true ∨ ((a.toNat : Int) != 0) = false ∧ (((b.toNat : Int) != 0) = true ∨ ((b.toNat : Int) != 0) = false) := by
          cases ((a.toNat : Int) != 0) <;> cases ((b.toNat : Int) != 0) <;> simp
        have hz : ∀ x : UInt64, ((x.toNat : Int) != 0) = false → x = 0 := fun x h => by
          rw [bne_eq_false_iff_eq] at h
          exact UInt64.toNat_inj.1 (by simpa using (by omega : x.toNat = 0))
        have hz' : ∀ x : UInt64, ((x.toNat : Int) != 0) = true → x ≠ 0 := fun x h h2 => by
          rw [h2] at h; simp at h
        have HZ := Lib.hid hz; have HZ' := Lib.hid hz'; clear hz hz'
        rcases hcase with h1 | ⟨h1, h2 | h2⟩
        · have hno : ¬ TysOk l n := fun hall => by
            have := hall k hlt
            rw [TyOk, if_neg hkn, EA.out, EB.out] at this
            exact HZ'.out a h1 this.1
          obtain ⟨rfl, rfl⟩ := HBAD.out hno
          clear hno
          go_wp2
          refine wp_region_calm (by kernel_rfl) (by kernel_rfl) ?_
          have c_m0 := fun x : Fut _ => cell_later x.h m0
          have c_m1 := fun x : Fut _ => cell_later x.h m1
          repeat (go_big_quiet_step (fail))
          refine wpQuiet_nil ?_
          intro _ hw'
          obtain ⟨xq, hw''⟩ := hw'
          subst hw''
          clear c_m0; replace m0 := cell_later xq.h m0
          clear c_m1; replace m1 := cell_later xq.h m1
          replace B := B.trans (xq.h.mono B.size)
          clear hw1 hw2 hw3
          go_wp2
          go_ret2
          exact ⟨_, rfl, OwnT.nil _ _, B⟩
        · have hno : ¬ TysOk l n := fun hall => by
            have := hall k hlt
            rw [TyOk, if_neg hkn, EA.out, EB.out] at this
            exact HZ'.out b h2 this.2
          obtain ⟨rfl, rfl⟩ := HBAD.out hno
          clear hno
          go_wp2
          refine wp_region_calm (by kernel_rfl) (by kernel_rfl) ?_
          have c_m0 := fun x : Fut _ => cell_later x.h m0
          have c_m1 := fun x : Fut _ => cell_later x.h m1
          repeat (go_big_quiet_step (fail))
          refine wpQuiet_nil ?_
          intro _ hw'
          obtain ⟨xq, hw''⟩ := hw'
          subst hw''
          clear c_m0; replace m0 := cell_later xq.h m0
          clear c_m1; replace m1 := cell_later xq.h m1
          replace B := B.trans (xq.h.mono B.size)
          clear hw1 hw2 hw3
          go_wp2
          go_ret2
          exact ⟨_, rfl, OwnT.nil _ _, B⟩
        · have e1 := HZ.out a h1; have e2 := HZ.out b h2
          have HE12 := Lib.hid (And.intro e1 e2)
          clear e1 e2
          go_wp2
          refine wp_region_calm (by kernel_rfl) (by kernel_rfl) ?_
          have c_m0 := fun x : Fut _ => cell_later x.h m0
          have c_m1 := fun x : Fut _ => cell_later x.h m1
          repeat (go_big_quiet_step (fail))
          refine wpQuiet_nil ?_
          intro _ hw'
          obtain ⟨xq, hw''⟩ := hw'
          subst hw''
          clear c_m0; replace m0 := cell_later xq.h m0
          clear c_m1; replace m1 := cell_later xq.h m1
          replace B := B.trans (xq.h.mono B.size)
          clear hw1 hw2 hw3
          go_wp2
          have HBB := Lib.hid B; have HX := Lib.hid (hh.out.1.below xq.h)
          go_roundw
          case rel =>
            refine ⟨k + 1, by omega, by go_num, Lib.hid ⟨?_, ?_⟩, HBB.out⟩
            · have := HX.out
              rw [HM.out.1] at this
              rw [HM.out.2]; exact this
            · intro i hi
              by_cases hik : i < k
              · exact hh.out.2 i hik
              · obtain rfl : i = k := by omega
                rw [TyOk, if_neg hkn, EA.out, EB.out]; exact HE12.out
          case measure => simp [intOf]; omega
    · obtain rfl : k = 8 := by omega
      obtain ⟨rfl, rfl⟩ := HGOOD.out (fun i hi => hh.out.2 i hi)
      have HX := Lib.hid hh.out.1
      go_wp2
      go_ret2
      exact ⟨_, rfl, by have := HX.out; rwa [show min 8 n = n by omega] at this, B⟩
end Go.Proofs.Ythlappdngpjdeaa
namespace Go.Proofs.Ythlappdngpjdeaa.L14
open L05
structure Hb where
  at_ : Int
  size : Int
  kind : Int
  ty : Int
  mark : Bool
  next : UInt64
deriving DecidableEq
def Hb.none : Hb := ⟨0, 0, 0, 0, false, 0⟩
def ObjB (b : Hb) : Prop := b.kind = 1 ∧ (0 ≤ b.ty ∧ b.ty < 8) ∧ b.size ≤ 10
instance (b : Hb) : Decidable (ObjB b) := inferInstanceAs (Decidable (_ ∧ _ ∧ _))
def FreeB (b : Hb) : Prop := b.kind = 2 ∧ b.ty = 0 ∧ b.mark = false ∧ b.size ≤ 1920
instance (b : Hb) : Decidable (FreeB b) := inferInstanceAs (Decidable (_ ∧ _ ∧ _ ∧ _))
def BkOk (b : Hb) : Prop := (2 ≤ b.size ∧ b.size % 2 = 0) ∧ (ObjB b ∨ FreeB b)
instance (b : Hb) : Decidable (BkOk b) := inferInstanceAs (Decidable (_ ∧ _))
def hErr (b : Hb) : Int := if BkOk b then 0 else 8
def mk1 (m : Bool) : Nat := if m then 1 else 0
/-- the lower half of a first word -/
def lowN (b : Hb) : Nat := b.kind.toNat + mk1 b.mark * 256 + b.ty.toNat * 512 + b.size.toNat * 65536
def partN (x : UInt64) : Nat := (sum [x]).toNat % 4294967296
def wordN (b : Hb) : Nat := lowN b + partN (UInt64.ofNat (lowN b)) * 4294967296
def word (b : Hb) : UInt64 := if BkOk b then UInt64.ofNat (wordN b) else 0
/-- what the lower half of a word tells -/
def told (x : UInt64) : Hb := ⟨0, (x.toNat / 65536 % 65536 : Nat), (x.toNat % 256 : Nat), (x.toNat / 512 % 128 : Nat), decide (x.toNat / 256 % 2 = 1), 0⟩
def HdOk (x : UInt64) : Prop := BkOk (told x) ∧ word (told x) = x
instance (x : UInt64) : Decidable (HdOk x) := inferInstanceAs (Decidable (_ ∧ _))
def split (x : UInt64) : Hb := if HdOk x then told x else .none
def splE (x : UInt64) : Int := if HdOk x then 0 else 50
theorem hErr_ok {b : Hb} (h : BkOk b) : hErr b = 0 := if_pos h
theorem hErr_no {b : Hb} (h : ¬ BkOk b) : hErr b = 8 := if_neg h
theorem mk1_le (m : Bool) : mk1 m ≤ 1 := by cases m <;> decide
theorem part_lt (x : UInt64) : partN x < 4294967296 := Nat.mod_lt _ (by decide)
/-- the bounds of a valid block -/
theorem BkOk.bounds {b : Hb} (h : BkOk b) : 2 ≤ b.size ∧ b.size % 2 = 0 ∧ b.size ≤ 1920 ∧ (b.kind = 1 ∨ b.kind = 2) ∧ 0 ≤ b.ty ∧ b.ty < 8 := by
  obtain ⟨⟨h1, h2⟩, h3 | h3⟩ := h
  · obtain ⟨a, c, d⟩ := h3; exact ⟨h1, h2, by omega, .inl a, c.1, c.2⟩
  · obtain ⟨a, c, d, e⟩ := h3; exact ⟨h1, h2, by omega, .inr a, by omega, by omega⟩
theorem lowN_lt {b : Hb} (h : BkOk b) : lowN b < 4294967296 := by
  have := h.bounds
  have := mk1_le b.mark
  unfold lowN; omega
theorem wordN_lt {b : Hb} (h : BkOk b) : wordN b < 18446744073709551616 := by
  have h1 := lowN_lt h
  have h2 := part_lt (UInt64.ofNat (lowN b))
  unfold wordN; omega
theorem word_nat {b : Hb} (h : BkOk b) : (word b).toNat = wordN b := by
  rw [word, if_pos h, UInt64.toNat_ofNat', Nat.mod_eq_of_lt (wordN_lt h)]
/-- the first word of a valid block tells it, but for its address and its second word -/
theorem told_word {b : Hb} (h : BkOk b) : told (word b) = ⟨0, b.size, b.kind, b.ty, b.mark, 0⟩ := by
  obtain ⟨h1, h2, h3, h4, h5, h6⟩ := h.bounds
  have hm := mk1_le b.mark
  have hn := word_nat h
  have hl : lowN b < 4294967296 := lowN_lt h
  have e1 : (word b).toNat % 4294967296 = lowN b := by rw [hn, wordN]; omega
  unfold lowN at e1
  have e2 : ((word b).toNat / 65536 % 65536 : Nat) = b.size.toNat := by omega
  have e3 : ((word b).toNat % 256 : Nat) = b.kind.toNat := by omega
  have e4 : ((word b).toNat / 512 % 128 : Nat) = b.ty.toNat := by omega
  have e5 : (word b).toNat / 256 % 2 = mk1 b.mark := by omega
  rw [told, e2, e3, e4, e5]
  obtain ⟨at_, size, kind, ty, mark, next⟩ := b
  dsimp only at *
  have a1 : (size.toNat : Int) = size := by omega
  have a2 : (kind.toNat : Int) = kind := by omega
  have a3 : (ty.toNat : Int) = ty := by omega
  rw [a1, a2, a3]
  cases mark <;> rfl
theorem ok_bare {b : Hb} {a : Int} {n : UInt64} : BkOk (⟨a, b.size, b.kind, b.ty, b.mark, n⟩ : Hb) ↔ BkOk b := Iff.rfl
theorem word_bare {b : Hb} {a : Int} {n : UInt64} : word (⟨a, b.size, b.kind, b.ty, b.mark, n⟩ : Hb) = word b := rfl
theorem hd_word {b : Hb} (h : BkOk b) : HdOk (word b) := by
  have e := told_word h
  refine ⟨by rw [e]; exact ok_bare.2 h, ?_⟩
  rw [e]; exact word_bare (b := b)
theorem split_word {b : Hb} (h : BkOk b) : split (word b) = ⟨0, b.size, b.kind, b.ty, b.mark, 0⟩ := by rw [split, if_pos (hd_word h), told_word h]
/-- a word that splits is the word of its block, whatever the address and the second word -/
theorem word_split {x : UInt64} (h : HdOk x) {a : Int} {n : UInt64} : word { split x with at_ := a, next := n } = x := by
  rw [split, if_pos h]
  exact h.2
theorem split_ok {x : UInt64} (h : HdOk x) : BkOk (split x) := by rw [split, if_pos h]; exact h.1
theorem split_told {x : UInt64} (h : HdOk x) : split x = told x := if_pos h
end Go.Proofs.Ythlappdngpjdeaa.L14
namespace Go.Proofs.Ythlappdngpjdeaa.L15
open L02 L14
/-- the block that stands at an address -/
def stand (l : List UInt64) (k : Nat) : Hb := { split (l.getD k 0) with at_ := k, next := l.getD (k + 1) 0 }
def StOk (l : List UInt64) (k : Nat) : Prop := HdOk (l.getD k 0) ∧ (k : Int) + (split (l.getD k 0)).size ≤ l.length
instance (l : List UInt64) (k : Nat) : Decidable (StOk l k) := inferInstanceAs (Decidable (_ ∧ _))
def szN (l : List UInt64) (k : Nat) : Nat := (split (l.getD k 0)).size.toNat
/-- the blocks from an address on, in at most f steps -/
def fromF (l : List UInt64) : Nat → Nat → Option (List Hb)
  | 0, k => if k = l.length then some [] else none
  | f + 1, k => if k = l.length then some [] else if StOk l k then (fromF l f (k + szN l k)).map (stand l k :: ·) else none
def from_ (l : List UInt64) (k : Nat) : Option (List Hb) := fromF l (l.length - k) k
/-- two free extents side by side -/
def Adj : List Hb → Prop
  | a :: b :: L => (a.kind = 2 ∧ b.kind = 2) ∨ Adj (b :: L)
  | _ => False
instance adjDec : (L : List Hb) → Decidable (Adj L)
  | [] => inferInstanceAs (Decidable False)
  | [_] => inferInstanceAs (Decidable False)
  | a :: b :: L => by
    have := adjDec (b :: L)
    exact inferInstanceAs (Decidable ((a.kind = 2 ∧ b.kind = 2) ∨ Adj (b :: L)))
def parsed (l : List UInt64) : Option (List Hb) := match from_ l 128 with | some L => if Adj L then none else some L | none => none
def fromErr (l : List UInt64) (a : Int) : Int := if SizeOk l.length then (if 128 ≤ a ∧ a ≤ l.length ∧ a % 2 = 0 then (if (from_ l a.toNat).isSome then 0 else 50) else 2) else 8
def fromL (l : List UInt64) (a : Int) : List Hb := if fromErr l a = 0 then (from_ l a.toNat).getD [] else []
def allErr (l : List UInt64) : Int := if SizeOk l.length then (if (parsed l).isSome then 0 else 50) else 8
def allL (l : List UInt64) : List Hb := (if allErr l = 0 then (parsed l).getD [] else [])
/-- the block at an address -/
def findB (L : List Hb) (a : Int) : Option Hb := L.find? fun b => decide (b.at_ = a)
def findErr (l : List UInt64) (a : Int) : Int := if allErr l = 0 then (if (findB (allL l) a).isSome then 0 else 6) else allErr l
def find (l : List UInt64) (a : Int) : Hb := if findErr l a = 0 then (findB (allL l) a).getD .none else .none
theorem szN_ge {l : List UInt64} {k : Nat} (h : StOk l k) : 2 ≤ szN l k ∧ (szN l k : Int) = (split (l.getD k 0)).size ∧ szN l k % 2 = 0 ∧ k + szN l k ≤ l.length ∧ szN l k ≤ 1920 := by
  obtain ⟨h1, h2⟩ := h
  have := (split_ok h1).bounds
  unfold szN
  omega
theorem fromF_more {l : List UInt64} : ∀ (f k : Nat), l.length - k ≤ f → k ≤ l.length → fromF l f k = fromF l (l.length - k) k
  | 0, k, h, hk => by rw [show l.length - k = 0 by omega]
  | f + 1, k, h, hk => by
    by_cases hl : k = l.length
    · subst hl
      rw [Nat.sub_self, fromF, fromF, if_pos rfl, if_pos rfl]
    · obtain ⟨d, hd⟩ : ∃ d, l.length - k = d + 1 := ⟨l.length - k - 1, by omega⟩
      rw [hd, fromF, fromF, if_neg hl, if_neg hl]
      by_cases hs : StOk l k
      · rw [if_pos hs, if_pos hs]
        have hz := szN_ge hs
        rw [fromF_more f _ (by omega) hz.2.2.2.1, fromF_more d _ (by omega) hz.2.2.2.1]
      · rw [if_neg hs, if_neg hs]
termination_by f => f
theorem from_end {l : List UInt64} : from_ l l.length = some [] := by rw [from_, Nat.sub_self, fromF, if_pos rfl]
theorem from_no {l : List UInt64} {k : Nat} (hk : k < l.length) (h : ¬ StOk l k) : from_ l k = none := by
  obtain ⟨d, hd⟩ : ∃ d, l.length - k = d + 1 := ⟨l.length - k - 1, by omega⟩
  rw [from_, hd, fromF, if_neg (by omega), if_neg h]
theorem from_step {l : List UInt64} {k : Nat} (hk : k < l.length) (h : StOk l k) : from_ l k = (from_ l (k + szN l k)).map (stand l k :: ·) := by
  obtain ⟨d, hd⟩ : ∃ d, l.length - k = d + 1 := ⟨l.length - k - 1, by omega⟩
  have hz := szN_ge h
  rw [from_, hd, fromF, if_neg (by omega), if_pos h, fromF_more d _ (by omega) hz.2.2.2.1]; rfl
theorem from_past {l : List UInt64} {k : Nat} (hk : l.length < k) : from_ l k = none := by
  rw [from_, show l.length - k = 0 by omega, fromF, if_neg (by omega)]
/-- a chain of blocks: each one stands at the end of the one before -/
inductive Chain (l : List UInt64) : Nat → List Hb → Prop where
  | nil : Chain l l.length []
  | cons {k : Nat} {L : List Hb} : k < l.length → StOk l k → Chain l (k + szN l k) L → Chain l k (stand l k :: L)
theorem chain_of {l : List UInt64} : ∀ (n k : Nat) (L : List Hb), l.length - k ≤ n → from_ l k = some L → Chain l k L
  | n, k, L, hn, h => by
    by_cases hl : k = l.length
    · subst hl
      rw [from_end] at h; injection h with h; subst h; exact .nil
    · by_cases hk : k < l.length
      · by_cases hs : StOk l k
        · rw [from_step hk hs] at h
          have hz := szN_ge hs
          cases h2 : from_ l (k + szN l k) with
          | none => rw [h2] at h; cases h
          | some L' =>
            rw [h2] at h; injection h with h; subst h
            match n, hn with
            | n + 1, hn => exact .cons hk hs (chain_of n _ _ (by omega) h2)
            | 0, hn => omega
        · rw [from_no hk hs] at h; cases h
      · rw [from_past (by omega)] at h; cases h
termination_by n => n
theorem from_chain {l : List UInt64} {k : Nat} {L : List Hb} (h : Chain l k L) : from_ l k = some L := by
  induction h with
  | nil => exact from_end
  | cons hk hs _ ih => rw [from_step hk hs, ih]; rfl
theorem chain_iff {l : List UInt64} {k : Nat} {L : List Hb} : from_ l k = some L ↔ Chain l k L := ⟨chain_of _ _ _ (Nat.le_refl _), from_chain⟩
/-- all blocks of a chain -/
theorem chain_mem {l : List UInt64} {k : Nat} {L : List Hb} (h : Chain l k L) : ∀ b ∈ L, ∃ a : Nat, k ≤ a ∧ a < l.length ∧ StOk l a ∧ b = stand l a ∧ (k % 2 = 0 → a % 2 = 0) := by
  induction h with
  | nil => intro b hb; cases hb
  | cons hk hs hc ih =>
    intro b hb
    rcases List.mem_cons.1 hb with rfl | hb
    · exact ⟨_, Nat.le_refl _, hk, hs, rfl, id⟩
    · obtain ⟨a, h1, h2, h3, h4, h5⟩ := ih b hb
      have := szN_ge hs
      exact ⟨a, by omega, h2, h3, h4, fun h => h5 (by omega)⟩
theorem stand_ok {l : List UInt64} {k : Nat} (h : StOk l k) : BkOk (stand l k) := ok_bare.2 (split_ok h.1)
theorem stand_at (l : List UInt64) (k : Nat) : (stand l k).at_ = k := rfl
theorem stand_size {l : List UInt64} {k : Nat} (h : StOk l k) : (stand l k).size = szN l k := (szN_ge h).2.1.symm
theorem stand_word {l : List UInt64} {k : Nat} (h : StOk l k) : word (stand l k) = l.getD k 0 := word_split h.1
theorem chain_len {l : List UInt64} {k : Nat} {L : List Hb} (h : Chain l k L) : 2 * L.length + k ≤ l.length := by
  induction h with
  | nil => simp
  | cons hk hs hc ih => have := szN_ge hs; simp only [List.length_cons]; omega
theorem parsed_ok {l : List UInt64} {L : List Hb} : parsed l = some L ↔ from_ l 128 = some L ∧ ¬ Adj L := by
  unfold parsed
  generalize from_ l 128 = x
  cases x with
  | none => simp
  | some M =>
    by_cases ha : Adj M
    · simp only [if_pos ha]
      refine ⟨fun e => (by cases e), fun h => ?_⟩
      obtain ⟨e, hn⟩ := h
      have := Option.some.inj e
      subst this
      exact absurd ha hn
    · simp only [if_neg ha]
      refine ⟨fun e => ?_, fun h => h.1⟩
      have := Option.some.inj e
      subst this
      exact ⟨rfl, ha⟩
theorem allErr_ok {l : List UInt64} (h : allErr l = 0) : SizeOk l.length ∧ parsed l = some (allL l) := by
  have h' := h
  unfold allErr at h
  split at h
  · split at h
    · rename_i h1 h2
      obtain ⟨L, hL⟩ := Option.isSome_iff_exists.1 h2
      exact ⟨h1, by simp only [allL, h', hL, if_true, Option.getD_some]⟩
    · omega
  · omega
theorem adj_iff : ∀ {L : List Hb}, Adj L ↔ ∃ (i : Nat) (a b : Hb), L[i]? = some a ∧ L[i + 1]? = some b ∧ a.kind = 2 ∧ b.kind = 2
  | [] => ⟨False.elim, fun ⟨_, _, _, h, _⟩ => by simp at h⟩
  | [x] => ⟨False.elim, fun ⟨i, _, _, _, h, _⟩ => by simp at h⟩
  | x :: y :: L => by
    rw [Adj, adj_iff (L := y :: L)]
    constructor
    · rintro (⟨h1, h2⟩ | ⟨i, a, b, h⟩)
      · exact ⟨0, x, y, rfl, rfl, h1, h2⟩
      · exact ⟨i + 1, a, b, h⟩
    · rintro ⟨i, a, b, h1, h2, h3, h4⟩
      rcases i with _ | i
      · simp at h1 h2; subst h1; subst h2; exact .inl ⟨h3, h4⟩
      · exact .inr ⟨i, a, b, h1, h2, h3, h4⟩
end Go.Proofs.Ythlappdngpjdeaa.L15
namespace Go.Proofs.Ythlappdngpjdeaa.L06
open L02 L05
def SupOk (W T : Int) : Prop := SizeOk W ∧ 0 ≤ T ∧ T ≤ 8
instance (W T : Int) : Decidable (SupOk W T) := inferInstanceAs (Decidable (SizeOk W ∧ 0 ≤ T ∧ T ≤ 8))
def magic : UInt64 := 32777959566500194
def u (n : Int) : UInt64 := UInt64.ofNat n.toNat
def body (W T : Int) : List UInt64 := [magic, 1, u W, u T, 0, 0, 0]
def wordsOf (W T : Int) : List UInt64 := body W T ++ [sum (body W T)]
def write (W T : Int) : List UInt64 := if SupOk W T then wordsOf W T else []
def at2 (l : List UInt64) : Int := (l.getD 2 0).toNat
def at3 (l : List UInt64) : Int := (l.getD 3 0).toNat
def ReadOk (l : List UInt64) : Prop := SupOk (at2 l) (at3 l) ∧ l = wordsOf (at2 l) (at3 l)
instance (l : List UInt64) : Decidable (ReadOk l) := inferInstanceAs (Decidable (SupOk (at2 l) (at3 l) ∧ l = wordsOf (at2 l) (at3 l)))
theorem readOk_len {l : List UInt64} (h : ReadOk l) : l.length = 8 := by rw [h.2]; rfl
/-! ### the sum tells one byte -/
def inv : UInt64 := 14886173955864302971
end Go.Proofs.Ythlappdngpjdeaa.L06
namespace Go.Proofs.Ythlappdngpjdeaa.L07
open L02 L05 L06
def c0 (m : List UInt64) : List UInt64 := m.take 8
def c1 (m : List UInt64) : List UInt64 := (m.drop 8).take 8
def CopyOk (n : Nat) (l : List UInt64) : Prop := ReadOk l ∧ at2 l = (n : Int)
instance (n : Nat) (l : List UInt64) : Decidable (CopyOk n l) := inferInstanceAs (Decidable (ReadOk l ∧ at2 l = (n : Int)))
def is0 (m : List UInt64) : Bool := decide (SizeOk m.length ∧ CopyOk m.length (c0 m))
def is1 (m : List UInt64) : Bool := decide (SizeOk m.length ∧ CopyOk m.length (c1 m))
def rErr (m : List UInt64) : Int := if SizeOk m.length then (if is0 m = true ∨ is1 m = true then 0 else 50) else 8
/-- the copy that counts -/
def one (m : List UInt64) : List UInt64 := if is0 m = true then c0 m else c1 m
def sW (m : List UInt64) : Int := if rErr m = 0 then (m.length : Int) else 0
def sT (m : List UInt64) : Int := if rErr m = 0 then at3 (one m) else 0
def view (m : List UInt64) : List UInt64 := if rErr m = 0 then one m ++ (one m ++ m.drop 16) else []
def heals (m : List UInt64) : List (Int × UInt64) := if rErr m = 0 then (diffs m (view m)).map fun i => (i, (view m).getD i.toNat 0) else []
theorem rErr_ok {m : List UInt64} (h : rErr m = 0) : SizeOk m.length ∧ (is0 m = true ∨ is1 m = true) := by
  unfold rErr at h
  split at h
  · split at h
    · exact ⟨‹_›, ‹_›⟩
    · omega
  · omega
theorem one_good {m : List UInt64} (h : rErr m = 0) : CopyOk m.length (one m) := by
  obtain ⟨_, h1⟩ := rErr_ok h
  unfold one
  split
  · rename_i h0; exact (of_decide_eq_true h0).2
  · rename_i h0
    exact (of_decide_eq_true (h1.resolve_left h0)).2
theorem one_len {m : List UInt64} (h : rErr m = 0) : (one m).length = 8 := readOk_len (one_good h).1
theorem view_ok {m : List UInt64} (h : rErr m = 0) : view m = one m ++ (one m ++ m.drop 16) := if_pos h
theorem view_len {m : List UInt64} (h : rErr m = 0) : (view m).length = m.length := by
  have := (rErr_ok h).1.1
  rw [view_ok h]; simp [one_len h]; omega
section
variable {m a b : List UInt64}
end
/-- differences -/
theorem diffsTo_mem {a b : List UInt64} {k : Nat} {x : Int} (h : x ∈ diffsTo a b k) : ∃ i : Nat, x = (i : Int) ∧ i < k ∧ a[i]? ≠ b[i]? := by
  unfold diffsTo at h
  obtain ⟨i, hi, rfl⟩ := List.mem_map.1 h
  obtain ⟨h1, h2⟩ := List.mem_filter.1 hi
  exact ⟨i, rfl, List.mem_range.1 h1, of_decide_eq_true h2⟩
theorem diffsTo_more {a b : List UInt64} {n : Nat} (h : ∀ i, n ≤ i → a[i]? = b[i]?) : ∀ k, n ≤ k → diffsTo a b k = diffsTo a b n
  | 0, h0 => by rw [Nat.le_zero.1 h0]
  | k + 1, h0 => by
    by_cases hk : n = k + 1
    · rw [hk]
    · rw [diffsTo_succ, diffsTo_more h k (by omega), if_neg (by simp [h k (by omega)]), List.append_nil]
theorem diffsTo_congr {a b a' b' : List UInt64} {k : Nat} (h1 : ∀ i, i < k → a[i]? = a'[i]?) (h2 : ∀ i, i < k → b[i]? = b'[i]?) : diffsTo a b k = diffsTo a' b' k := by
  unfold diffsTo
  congr 1
  apply List.filter_congr
  intro i hi
  rw [h1 i (List.mem_range.1 hi), h2 i (List.mem_range.1 hi)]
section
variable {m : List UInt64}
theorem diff_ok (h : rErr m = 0) : diffErr m (view m) = 0 ∧ diffs m (view m) = diffsTo m (view m) m.length := by
  have h1 := (rErr_ok h).1
  have h2 := view_len h
  have e : diffErr m (view m) = 0 := by rw [diffErr, if_pos ⟨h1, by rw [h2]; exact h1⟩, if_pos h2.symm]
  exact ⟨e, if_pos e⟩
/-- behind the copies all is as it was -/
theorem view_far (h : rErr m = 0) {i : Nat} (hi : 16 ≤ i) : m[i]? = (view m)[i]? := by
  rw [view_ok h, List.getElem?_append_right (by rw [one_len h]; omega), List.getElem?_append_right (by rw [one_len h]; omega), List.getElem?_drop, one_len h]
  congr 1; omega
theorem heals_to (h : rErr m = 0) : heals m = (diffsTo m (view m) 16).map fun i => (i, (view m).getD i.toNat 0) := by
  have := (rErr_ok h).1.1
  rw [heals, if_pos h, (diff_ok h).2, diffsTo_more (fun i hi => view_far h hi) m.length (by omega)]
/-- TwinApart -/
theorem apart {k : Nat} (hk : 16 ≤ k) (x : UInt64) : rErr (m.set k x) = rErr m ∧ is0 (m.set k x) = is0 m ∧ is1 (m.set k x) = is1 m ∧ sW (m.set k x) = sW m ∧ sT (m.set k x) = sT m ∧ heals (m.set k x) = heals m := by
  have e0 : c0 (m.set k x) = c0 m := by rw [c0, List.take_set_of_le (by omega)]; rfl
  have e1 : c1 (m.set k x) = c1 m := by rw [c1, List.drop_set, if_neg (by omega), List.take_set_of_le (by omega)]; rfl
  have i0 : is0 (m.set k x) = is0 m := by unfold is0; rw [e0, List.length_set]
  have i1 : is1 (m.set k x) = is1 m := by unfold is1; rw [e1, List.length_set]
  have r : rErr (m.set k x) = rErr m := by unfold rErr; rw [i0, i1, List.length_set]
  have o : one (m.set k x) = one m := by unfold one; rw [i0, e0, e1]
  refine ⟨r, i0, i1, by unfold sW; rw [r, List.length_set], by unfold sT; rw [r, o], ?_⟩
  by_cases h : rErr m = 0
  · have h' : rErr (m.set k x) = 0 := r.trans h
    have ev : ∀ i, i < 16 → (view (m.set k x))[i]? = (view m)[i]? := fun i hi => by
      rw [view_ok h, view_ok h', o, ← List.append_assoc, ← List.append_assoc, List.getElem?_append_left (l₁ := one m ++ one m) (by simp [one_len h]; omega), List.getElem?_append_left (l₁ := one m ++ one m) (by simp [one_len h]; omega)]
    rw [heals_to h, heals_to h', diffsTo_congr (a' := m) (b' := view m) (fun i hi => by rw [List.getElem?_set_ne (by omega)]) ev]
    apply List.map_congr_left
    intro y hy
    obtain ⟨i, rfl, hi, _⟩ := diffsTo_mem hy
    simp only [Int.toNat_natCast, List.getD_eq_getElem?_getD, ev i hi]
  · rw [heals, if_neg (by rw [r]; exact h), heals, if_neg h]
end
/-- an image of zeros with a superblock in both copies -/
def made (W T : Int) : List UInt64 := wordsOf W T ++ (wordsOf W T ++ List.replicate (W.toNat - 16) 0)
end Go.Proofs.Ythlappdngpjdeaa.L07
namespace Go.Proofs.Ythlappdngpjdeaa.L18
open L02
structure Sl where
  gen : Int
  used : Bool
  at_ : Int
deriving DecidableEq
def Sl.none : Sl := ⟨0, false, 0⟩
def Right (s : Sl) : Prop := 0 ≤ s.gen ∧ s.gen ≤ 2147483647 ∧ (s.used = false → s.at_ = 0) ∧ (s.used = true → 0 < s.gen ∧ 128 ≤ s.at_ ∧ s.at_ < 2048)
instance (s : Sl) : Decidable (Right s) := inferInstanceAs (Decidable (0 ≤ s.gen ∧ s.gen ≤ 2147483647 ∧ (s.used = false → s.at_ = 0) ∧ (s.used = true → 0 < s.gen ∧ 128 ≤ s.at_ ∧ s.at_ < 2048)))
def pkN (s : Sl) : Nat := s.at_.toNat + s.gen.toNat * 4294967296 + (if s.used then 9223372036854775808 else 0)
def pk (s : Sl) : UInt64 := UInt64.ofNat (pkN s)
def spl (w : UInt64) : Sl := ⟨(w.toNat / 4294967296 % 2147483648 : Nat), decide (w.toNat / 9223372036854775808 = 1), (w.toNat % 4294967296 : Nat)⟩
def word (s : Sl) : UInt64 := if Right s then pk s else 0
def splErr (w : UInt64) : Int := if Right (spl w) then 0 else 50
def spl0 (w : UInt64) : Sl := if Right (spl w) then spl w else .none
/-- the words of slots, in an image -/
def ws (l : List UInt64) : List UInt64 := (l.drop 112).take 16
def slots (l : List UInt64) : List Sl := (ws l).map spl
def AllR (l : List UInt64) : Prop := ∀ x ∈ ws l, Right (spl x)
instance (l : List UInt64) : Decidable (AllR l) := inferInstanceAs (Decidable (∀ x ∈ ws l, Right (spl x)))
def openErr (l : List UInt64) : Int := if SizeOk l.length then (if AllR l then 0 else 50) else 8
def all (l : List UInt64) : List Sl := if openErr l = 0 then slots l else []
def rightErr (L : List Sl) (s g : Int) : Int := if 0 ≤ s ∧ s < L.length then (if (L.getD s.toNat .none).used = true ∧ (L.getD s.toNat .none).gen = g then 0 else 28) else 2
def resErr (l : List UInt64) (s g : Int) : Int := if openErr l = 0 then rightErr (slots l) s g else openErr l
def res (l : List UInt64) (s g : Int) : Int := if resErr l s g = 0 then ((slots l).getD s.toNat .none).at_ else 0
/-- the first free slot from k on -/
def nextFrom : List Sl → Nat → Option Nat
  | [], _ => none
  | s :: L, k => if s.used = false ∧ s.gen ≠ 2147483647 then some k else nextFrom L (k + 1)
def next (L : List Sl) : Option Nat := nextFrom L 0
def newErr (l : List UInt64) (a : Int) : Int := if openErr l = 0 then (if 128 ≤ a ∧ a < 2048 then (if next (slots l) = none then 23 else 0) else 2) else openErr l
def newSlot (l : List UInt64) (a : Int) : Int := if newErr l a = 0 then ((next (slots l)).getD 0 : Nat) else 0
def newGen (l : List UInt64) (a : Int) : Int := if newErr l a = 0 then ((slots l).getD ((next (slots l)).getD 0) .none).gen + 1 else 0
def newAt (l : List UInt64) (a : Int) : Int := if newErr l a = 0 then 112 + ((next (slots l)).getD 0 : Nat) else 0
def newVal (l : List UInt64) (a : Int) : UInt64 := if newErr l a = 0 then pk ⟨newGen l a, true, a⟩ else 0
def dropAt (l : List UInt64) (s g : Int) : Int := if resErr l s g = 0 then 112 + s else 0
def dropVal (l : List UInt64) (s g : Int) : UInt64 := if resErr l s g = 0 then pk ⟨g, false, 0⟩ else 0
theorem pkN_t {s : Sl} (hu : s.used = true) : pkN s = s.at_.toNat + s.gen.toNat * 4294967296 + 9223372036854775808 := by rw [pkN, hu]; rfl
theorem pkN_f {s : Sl} (h : Right s) (hu : s.used = false) : pkN s = s.gen.toNat * 4294967296 := by
  have := h.2.2.1 hu
  rw [pkN, hu, this]; simp
theorem pkN_lt {s : Sl} (h : Right s) : pkN s < 18446744073709551616 := by
  have h1 := h.1; have h2 := h.2.1
  cases hu : s.used
  · rw [pkN_f h hu]; omega
  · have h4 := h.2.2.2 hu
    rw [pkN_t hu]; omega
theorem pk_nat {s : Sl} (h : Right s) : (pk s).toNat = pkN s := by
  unfold pk
  rw [UInt64.toNat_ofNat']
  exact Nat.mod_eq_of_lt (pkN_lt h)
theorem spl_pk {s : Sl} (h : Right s) : spl (pk s) = s := by
  have hn := pk_nat h
  obtain ⟨g, u, a⟩ := s
  have h1 : 0 ≤ g := h.1
  have h2 : g ≤ 2147483647 := h.2.1
  unfold spl
  rw [hn]
  cases hu : u
  · have h3 : a = 0 := h.2.2.1 hu
    rw [pkN_f (by rw [← hu]; exact h) rfl]
    subst h3 hu
    have e1 : decide (g.toNat * 4294967296 / 9223372036854775808 = 1) = false := by rw [decide_eq_false_iff_not]; omega
    simp only [e1, Sl.mk.injEq, true_and, and_true]
    exact ⟨by omega, by omega⟩
  · have h4 : 0 < g ∧ 128 ≤ a ∧ a < 2048 := h.2.2.2 hu
    rw [pkN_t rfl]
    subst hu
    have e1 : decide ((a.toNat + g.toNat * 4294967296 + 9223372036854775808) / 9223372036854775808 = 1) = true := by rw [decide_eq_true_iff]; omega
    simp only [e1, Sl.mk.injEq, true_and, and_true]
    exact ⟨by omega, by omega⟩
end Go.Proofs.Ythlappdngpjdeaa.L18
