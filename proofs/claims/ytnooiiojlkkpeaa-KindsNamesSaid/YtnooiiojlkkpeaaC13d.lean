/- Contracts of the reference of types: reading. -/
import Derived.Test.YtnooiiojlkkpeaaC13c
set_option linter.unusedVariables false
set_option linter.unusedSimpArgs false
namespace Go.Proofs.Ytnooiiojlkkpeaa
open Go.RowKit L02 L05 L13

def tL (a : UInt64) : List UInt8 := dig a (min (nOf a) 8)
def tOk (a : UInt64) : Bool := decide (nOf a ≤ 8 ∧ a.toNat / 256 / 4 ^ nOf a = 0 ∧ kErr (dig a (nOf a)) = 0)

set_option maxHeartbeats 2000000 in
theorem KTold_any (a : UInt64) (r : Bool) (hr : r = tOk a) (w : World) :
    Calls Try.prog 30 #[.int .u64 a.toNat] w fun e w' => ∃ x, e = .returned (.tuple #[x, .bool r]) ∧ OwnB w' w.heap.size 5 x (tL a) ∧ Below w.heap.size w w' := by
  have B : Below w.heap.size w w := Below.refl _ _
  have hal := toNat_lt a
  obtain ⟨n, hn⟩ : ∃ n, n = nOf a := ⟨_, rfl⟩
  have hn' : (a.toNat : Int) % 256 = (n : Int) := by rw [hn]; unfold nOf; omega
  have hna : (n : Int) ≤ (a.toNat : Int) % 256 := by omega
  have hnb : (a.toNat : Int) % 256 ≤ (n : Int) := by omega
  clear hn'
  have hn2 : n < 256 := by rw [hn]; unfold nOf; omega
  obtain ⟨z0, hz0⟩ : ∃ z, z = a.toNat / 256 := ⟨_, rfl⟩
  have hz0' : (a.toNat : Int) / 256 = (z0 : Int) := by omega
  have hz0l : z0 < 18446744073709551616 := by omega
  have HR := Lib.hid hr; have HN := Lib.hid hn; have HZ0 := Lib.hid hz0
  clear hr hn hz0
  obtain ⟨m, hm⟩ : ∃ m, m = min n 8 := ⟨_, rfl⟩
  have hm1 : m ≤ n := by omega
  have hm2 : m ≤ 8 := by omega
  have hm3 : n ≤ m ∨ 8 ≤ m := by omega
  have HM := Lib.hid hm; clear hm
  go_enter Try.func30, Try.ntmps30
  go_wp2
  have HB := Lib.hid B; clear B hz0'
  go_loopw [5, 6, 7] (fun xv rv i wr => ∃ k z : Nat, k ≤ m ∧ i = .int .u64 k ∧ rv = .int .u64 (z : Int) ∧ z < 18446744073709551616 ∧ Hid (z = a.toNat / 256 / 4 ^ k ∧ OwnB wr w.heap.size 5 xv (dig a k)) ∧ Below w.heap.size w wr) (fun _ _ i _ => m - (intOf i).toNat)
  case atStart => exact ⟨0, z0, by omega, rfl, rfl, hz0l, Lib.hid ⟨by rw [HZ0.out]; simp, OwnB.nil _ _ _⟩, HB.out⟩
  case round =>
    obtain ⟨k, z, hk, rfl, rfl, hzl, hh, B⟩ := hrel
    by_cases hlt : k < m
    · have c1 : k < n := by omega
      have c2 : k < 8 := by omega
      obtain ⟨q, hq⟩ : ∃ q : UInt8, q = UInt8.ofNat (a.toNat / 256 / 4 ^ k % 4) := ⟨_, rfl⟩
      have hqn : q.toNat = z % 4 := by rw [hq, UInt8.toNat_ofNat', hh.out.1]; omega
      have HQ := Lib.hid hq; have HO := Lib.hid hh.out.2; have HBB := Lib.hid B; have HZ := Lib.hid hh.out.1; have HQN := Lib.hid hqn
      clear hq hh B hqn
      have hlk : (dig a k).length = k := dig_len a k
      have HLK := Lib.hid hlk; clear hlk
      go_wp2_with (at_builtin; refine wpList_append (by rfl) rfl rfl rfl Try.underlying22 info_u8 rfl (by omega) (by exact own_below HO.out ((Below.refl _ _).alloc (Nat.le_refl _) _)) (by exact lit_u8 _ q (by have := HQN.out; omega) rfl) (one_u8' q) (by rw [HLK.out]; omega) (by rw [HLK.out]; omega) (by exact HBB.out.alloc HBB.out.size _) (Nat.le_refl _) ?_; intro v1 w3 o3 B3 g3; clear g3)
      have o4 : OwnB w3 w.heap.size 5 v1 (dig a (k + 1)) := OwnB.of o3 (by rw [dig_succ, List.map_append, ← HQ.out])
      have HO4 := Lib.hid o4; have HB3 := Lib.hid B3; clear o3 o4 B3
      go_roundw
      case rel => exact ⟨k + 1, z / 4, by omega, by go_num, by go_num, by omega, Lib.hid ⟨by rw [HZ.out, Nat.pow_succ, ← Nat.div_div_eq_div_mul], HO4.out⟩, HB3.out⟩
      case measure => simp [intOf]; omega
    · obtain rfl : k = m := by omega
      have HO := Lib.hid hh.out.2; have HZ := Lib.hid hh.out.1
      clear hh
      by_cases h8 : n ≤ 8
      · have hkn : k = n := by omega
        have hkL : tL a = dig a k := by rw [tL, ← HN.out, ← HM.out]
        have hrr : r = decide (z = 0 ∧ kErr (dig a k) = 0) := by
          have h1 := HZ.out
          rw [hkn] at h1
          rw [HR.out, tOk, hkn, Bool.eq_iff_iff, decide_eq_true_iff, decide_eq_true_iff, ← HN.out, ← h1]
          exact ⟨fun h => h.2, fun h => ⟨h8, h⟩⟩
        have HKL := Lib.hid hkL
        obtain ⟨e, he⟩ : ∃ e, e = kErr (dig a k) := ⟨_, rfl⟩
        rw [← he] at hrr
        have CT := fun v w h => KCheckR_any v (dig a k) e he w h
        have HC := Lib.hid CT
        subst hkn
        clear hkL CT he hm1 hm3 hlt
        have hcase : ((z : Int) == 0) = false ∧ r = false ∨ z = 0 ∧ ((e == 0) = false ∧ r = false ∨ (e == 0) = true ∧ r = true) := by
          by_cases h1 : z = 0
          · by_cases h2 : e = 0
            · exact .inr ⟨h1, .inr ⟨by rw [beq_iff_eq]; exact h2, by rw [hrr, decide_eq_true ⟨h1, h2⟩]⟩⟩
            · exact .inr ⟨h1, .inl ⟨by rw [beq_eq_false_iff_ne]; exact h2, by rw [hrr, decide_eq_false (fun h => h2 h.2)]⟩⟩
          · exact .inl ⟨by rw [beq_eq_false_iff_ne]; omega, by rw [hrr, decide_eq_false (fun h => h1 h.1)]⟩
        clear hrr
        rcases hcase with ⟨h1, rfl⟩ | ⟨rfl, ⟨h2, rfl⟩ | ⟨h2, rfl⟩⟩
        · go_wp2
          go_ret2
          exact ⟨_, rfl, by rw [HKL.out]; exact HO.out, B⟩
        · go_wp2_with fail
          refine (HC.out _ _ HO.out.rd).mono ?_
          rintro e2 w3 ⟨rfl, rfl⟩
          go_wp2
          go_ret2
          exact ⟨_, rfl, by rw [HKL.out]; exact HO.out, B⟩
        · go_wp2_with fail
          refine (HC.out _ _ HO.out.rd).mono ?_
          rintro e2 w3 ⟨rfl, rfl⟩
          go_wp2
          go_ret2
          exact ⟨_, rfl, by rw [HKL.out]; exact HO.out, B⟩
      · have hkL : tL a = dig a k := by rw [tL, ← HN.out, ← HM.out]
        have hrr : r = false := by rw [HR.out, tOk, decide_eq_false]; intro h; have := h.1; rw [← HN.out] at this; exact h8 this
        have HKL := Lib.hid hkL
        subst hrr
        have hk8 : k = 8 := by omega
        subst hk8
        clear hkL hlt hm3
        go_wp2
        go_ret2
        exact ⟨_, rfl, by rw [HKL.out]; exact HO.out, B⟩

theorem rd_iff (a b : UInt64) : RdOk a b ↔ tOk a = true ∧ b = sum [a] := by
  unfold RdOk tOk
  rw [decide_eq_true_iff]
  constructor
  · rintro ⟨h1, h2, h3, h4⟩
    refine ⟨⟨h1, (w0_dig a h1 h2).1 h3, h2⟩, ?_⟩
    rw [← h4, w1, if_pos h2, h3]
  · rintro ⟨⟨h1, h2, h3⟩, h4⟩
    have h5 := (w0_dig a h1 h3).2 h2
    exact ⟨h1, h3, h5, by rw [w1, if_pos h3, h5, h4]⟩

set_option maxHeartbeats 2000000 in
theorem KReadR_any (a b : UInt64) (L : List UInt8) (r : Int) (hL : L = rdL a b) (hr : r = rdE a b) (w : World) :
    Calls Try.prog 15 #[.int .u64 a.toNat, .int .u64 b.toNat] w fun e w' => ∃ x, e = .returned (.tuple #[x, .int .i64 r]) ∧ OwnB w' w.heap.size 5 x L ∧ Below w.heap.size w w' := by
  have B : Below w.heap.size w w := Below.refl _ _
  obtain ⟨t, ht⟩ : ∃ t, t = tOk a := ⟨_, rfl⟩
  have TT := fun w => KTold_any a t ht w
  obtain ⟨s, hs⟩ : ∃ s, s = sum [a] := ⟨_, rfl⟩
  have ST := fun v w h => SumR_r v [a] s hs w h (by simp)
  have HT := Lib.hid TT; have HS := Lib.hid ST
  have hiff := rd_iff a b
  rw [← ht, ← hs] at hiff
  have hcase : t = false ∧ L = [] ∧ r = 50 ∨ t = true ∧ (((b.toNat : Int) != (s.toNat : Int)) = true ∧ L = [] ∧ r = 50 ∨ ((b.toNat : Int) != (s.toNat : Int)) = false ∧ L = tL a ∧ r = 0) := by
    have hno : ¬ RdOk a b → L = [] ∧ r = 50 := fun h => ⟨by rw [hL, rdL, if_neg h], by rw [hr, rdE, if_neg h]⟩
    cases t
    · exact .inl ⟨rfl, hno (fun h => by simpa using (hiff.1 h).1)⟩
    · by_cases hbs : b = s
      · have hok := hiff.2 ⟨rfl, hbs⟩
        refine .inr ⟨rfl, .inr ⟨by rw [hbs]; simp, ?_, by rw [hr, rdE, if_pos hok]⟩⟩
        rw [hL, rdL, if_pos hok, tL, Nat.min_eq_left hok.1]
      · refine .inr ⟨rfl, .inl ⟨?_, hno (fun h => hbs (hiff.1 h).2)⟩⟩
        rw [bne_iff_ne]
        exact fun h => hbs (UInt64.toNat_inj.1 (by omega))
  clear TT ST ht hs hiff hL hr
  rcases hcase with ⟨rfl, rfl, rfl⟩ | ⟨rfl, ⟨hne, rfl, rfl⟩ | ⟨hne, rfl, rfl⟩⟩
  · go_enter Try.func15, Try.ntmps15
    go_wp2_with fail
    refine (HT.out _).mono ?_
    rintro e w2 ⟨x, rfl, o, b⟩
    go_wp2
    go_ret2
    exact ⟨_, rfl, OwnB.nil _ _ _, b⟩
  · go_enter Try.func15, Try.ntmps15
    go_wp2_with fail
    refine (HT.out _).mono ?_
    rintro e w2 ⟨x, rfl, o, b⟩
    go_wp2_with fail
    refine (HS.out _ _ (lit_word a rfl)).mono ?_
    rintro e w3 ⟨rfl, bb⟩
    have B := (b.alloc b.size (.cells #[.int .u64 a.toNat] 23)).trans (bb.mono (Nat.le_trans b.size (by simp)))
    clear bb
    go_wp2
    go_ret2
    exact ⟨_, rfl, OwnB.nil _ _ _, B⟩
  · go_enter Try.func15, Try.ntmps15
    go_wp2_with fail
    refine (HT.out _).mono ?_
    rintro e w2 ⟨x, rfl, o, b⟩
    go_wp2_with fail
    refine (HS.out _ _ (lit_word a rfl)).mono ?_
    rintro e w3 ⟨rfl, bb⟩
    have B := (b.alloc b.size (.cells #[.int .u64 a.toNat] 23)).trans (bb.mono (Nat.le_trans b.size (by simp)))
    have o2 := (o.below ((Below.refl _ _).alloc (Nat.le_refl _) (.cells #[.int .u64 a.toNat] 23))).below bb
    have HO := Lib.hid o2
    clear bb o o2
    go_wp2
    go_ret2
    exact ⟨_, rfl, HO.out, B⟩
end Go.Proofs.Ytnooiiojlkkpeaa
