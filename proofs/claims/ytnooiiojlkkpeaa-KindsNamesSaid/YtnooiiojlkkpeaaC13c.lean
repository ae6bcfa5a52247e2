/- Contracts of types: reading. -/
import Derived.Test.YtnooiiojlkkpeaaC13b
import Derived.Test.YtnooiiojlkkpeaaEq
set_option linter.unusedVariables false
set_option linter.unusedSimpArgs false
namespace Go.Proofs.Ytnooiiojlkkpeaa
open Go.RowKit L02 L05 L13

theorem pair_neq (a b c d : UInt64) (r : Bool) (hr : r = !decide ([a, b] = [c, d])) (W : World) : (binOp .neq 29 (.agg #[.int .u64 a.toNat, .int .u64 b.toNat]) (.agg #[.int .u64 c.toNat, .int .u64 d.toNat])).run Try.prog W = .ok (.bool r) W := by
  subst hr
  exact run_neq_words (P := Try.prog) (n := 2) Try.underlying29 (by kernel_rfl) Try.underlying23 (by kernel_rfl) (fun X j u W h => run_part_plain W (by kernel_rfl) h) [a, b] [c, d] rfl rfl W
theorem pair_eql (a b c d : UInt64) (r : Bool) (hr : r = decide ([a, b] = [c, d])) (W : World) : (binOp .eql 29 (.agg #[.int .u64 a.toNat, .int .u64 b.toNat]) (.agg #[.int .u64 c.toNat, .int .u64 d.toNat])).run Try.prog W = .ok (.bool r) W := by
  subst hr
  exact run_eql_words (P := Try.prog) (n := 2) Try.underlying29 (by kernel_rfl) Try.underlying23 (by kernel_rfl) (fun X j u W h => run_part_plain W (by kernel_rfl) h) [a, b] [c, d] rfl rfl W
theorem lit_u8 {w : World} {e n : Nat} (x : Int) (q : UInt8) (hq : x = q.toNat) (hn : w.heap.size = n) : Rd (w.alloc (.cells #[.int .u8 x] e)) 1 (.slice (some ⟨n, 0, none⟩) 1 1) 1 ([q].map u8) := by
  subst hn hq; exact lit_rd
theorem one_u8' (q : UInt8) : ∀ u ∈ [q].map u8, u.oneCell' = true := one_u8s [q]

set_option maxHeartbeats 2000000 in
theorem KRead_any (a b : UInt64) (L : List UInt8) (r : Int) (hL : L = rdL a b) (hr : r = rdE a b) (w : World) :
    Calls Try.prog 14 #[.int .u64 a.toNat, .int .u64 b.toNat] w fun e w' => ∃ x, e = .returned (.tuple #[x, .int .i64 r]) ∧ OwnB w' w.heap.size 5 x L ∧ Below w.heap.size w w' := by
  have B : Below w.heap.size w w := Below.refl _ _
  have hal := toNat_lt a
  have e1 := and_int (a := (a.toNat : Int)) 8 (by omega) (by omega) 255 (by decide) (by omega)
  obtain ⟨n, hn⟩ : ∃ n, n = nOf a := ⟨_, rfl⟩
  have e1' : bits .and .u64 (a.toNat : Int) 255 = (n : Int) := by rw [e1, hn]; unfold nOf; simp only [show ((2 ^ 8 : Nat) : Int) = 256 from rfl]; omega
  clear e1
  have HL := Lib.hid hL; have HR := Lib.hid hr; have HN := Lib.hid hn
  clear hL hr
  by_cases hb : 8 < n
  · have hno : ¬ RdOk a b := fun h => by have := h.1; omega
    have hL0 : L = [] := by rw [HL.out, rdL, if_neg hno]
    have hr0 : r = 50 := by rw [HR.out, rdE, if_neg hno]
    subst hL0 hr0
    clear hn hno
    go_enter Try.func14, Try.ntmps14
    go_wp2
    go_ret2
    exact ⟨_, rfl, OwnB.nil _ _ _, B⟩
  · have hn8 : n ≤ 8 := by omega
    clear hb hn
    go_enter Try.func14, Try.ntmps14
    go_wp2
    have HB := Lib.hid B; clear B
    go_loopw [7, 16] (fun xv i wr => ∃ k : Nat, k ≤ n ∧ i = .int .u64 k ∧ Hid (OwnB wr w.heap.size 5 xv (dig a k)) ∧ Below w.heap.size w wr) (fun _ i _ => n - (intOf i).toNat)
    case atStart => exact ⟨0, by omega, rfl, Lib.hid (OwnB.nil _ _ _), HB.out⟩
    case round =>
      obtain ⟨k, hk, rfl, hh, B⟩ := hrel
      by_cases hlt : k < n
      · have hp : (2 : Int) ^ (8 + 2 * k) = ((256 * 4 ^ k : Nat) : Int) := by
          have : (2 : Nat) ^ (8 + 2 * k) = 256 * 4 ^ k := by rw [Nat.pow_add, Nat.pow_mul]
          exact_mod_cast this
        have HP := Lib.hid hp; clear hp
        obtain ⟨q, hq⟩ : ∃ q : UInt8, q = UInt8.ofNat (a.toNat / 256 / 4 ^ k % 4) := ⟨_, rfl⟩
        have hqn : q.toNat = a.toNat / 256 / 4 ^ k % 4 := by rw [hq, UInt8.toNat_ofNat']; omega
        have hql : q.toNat < 256 := q.toNat_lt
        have e2 : bits .and .u64 ((a.toNat : Int) / 2 ^ (8 + 2 * k)) 3 = (q.toNat : Int) := by
          have e3 : ((a.toNat : Int) / 2 ^ (8 + 2 * k)) = ((a.toNat / 256 / 4 ^ k : Nat) : Int) := by
            rw [HP.out, Nat.div_div_eq_div_mul]; exact (Int.natCast_ediv _ _).symm
          have h4 : a.toNat / 256 / 4 ^ k ≤ a.toNat := by rw [Nat.div_div_eq_div_mul]; exact Nat.div_le_self _ _
          rw [e3, hqn]
          generalize a.toNat / 256 / 4 ^ k = z at h4
          rw [and_int (a := (z : Int)) 2 (by omega) (by omega) 3 (by decide) (by omega)]
          exact (Int.natCast_emod z 4).symm
        have HQ := Lib.hid hq; have HO := Lib.hid hh.out; have HBB := Lib.hid B
        clear hq hqn hh B
        have hlk : (dig a k).length = k := dig_len a k
        have HLK := Lib.hid hlk; clear hlk
        go_wp2_with (at_builtin; refine wpList_append (by rfl) rfl rfl rfl Try.underlying22 info_u8 rfl (by omega) (by exact own_below HO.out ((Below.refl _ _).alloc (Nat.le_refl _) _)) (by exact lit_u8 _ q (by omega) rfl) (one_u8' q) (by rw [HLK.out]; omega) (by rw [HLK.out]; omega) (by exact HBB.out.alloc HBB.out.size _) (Nat.le_refl _) ?_; intro v1 w3 o3 B3 g3; clear g3)
        have o4 : OwnB w3 w.heap.size 5 v1 (dig a (k + 1)) := OwnB.of o3 (by rw [dig_succ, List.map_append, ← HQ.out])
        have HO4 := Lib.hid o4; have HB3 := Lib.hid B3; clear o3 o4 B3
        go_roundw
        case rel => exact ⟨k + 1, by omega, by go_num, Lib.hid HO4.out, HB3.out⟩
        case measure => simp [intOf]; omega
      · obtain rfl : k = n := by omega
        have HO := Lib.hid hh.out
        obtain ⟨l, hl⟩ : ∃ l, l = dig a k := ⟨_, rfl⟩
        rw [← hl] at HO
        obtain ⟨c, hc⟩ : ∃ c, c = w0 l := ⟨_, rfl⟩
        obtain ⟨d, hd⟩ : ∃ d, d = w1 l := ⟨_, rfl⟩
        obtain ⟨e, he⟩ : ∃ e, e = kErr l := ⟨_, rfl⟩
        have WT := fun v w h => KWrite_any v l c d e hc hd he w h
        have HW := Lib.hid WT; clear WT
        have hiff : RdOk a b ↔ e = 0 ∧ [c, d] = [a, b] := by
          unfold RdOk
          rw [← HN.out, ← hl, ← he, ← hc, ← hd]
          simp only [List.cons.injEq, and_true]
          exact ⟨fun h => ⟨h.2.1, h.2.2.1, h.2.2.2⟩, fun h => ⟨hn8, h.1, h.2.1, h.2.2⟩⟩
        have hrl : RdOk a b → L = l ∧ r = 0 := fun h => ⟨by rw [HL.out, rdL, if_pos h, ← HN.out, hl], by rw [HR.out, rdE, if_pos h]⟩
        have hrn : ¬ RdOk a b → L = [] ∧ r = 50 := fun h => ⟨by rw [HL.out, rdL, if_neg h], by rw [HR.out, rdE, if_neg h]⟩
        clear hc hd he hl hh
        have hcase : (e != 0) = true ∧ L = [] ∧ r = 50 ∨ e = 0 ∧ ((!decide ([c, d] = [a, b])) = true ∧ L = [] ∧ r = 50 ∨ (!decide ([c, d] = [a, b])) = false ∧ L = l ∧ r = 0) := by
          by_cases h1 : e = 0
          · by_cases h2 : [c, d] = [a, b]
            · have := hrl (hiff.2 ⟨h1, h2⟩)
              exact .inr ⟨h1, .inr ⟨by rw [decide_eq_true h2]; rfl, this⟩⟩
            · have := hrn (fun h => h2 (hiff.1 h).2)
              exact .inr ⟨h1, .inl ⟨by rw [decide_eq_false h2]; rfl, this⟩⟩
          · have := hrn (fun h => h1 (hiff.1 h).1)
            exact .inl ⟨by rw [bne_iff_ne]; exact h1, this⟩
        clear hiff hrl hrn
        rcases hcase with ⟨h1, rfl, rfl⟩ | ⟨rfl, ⟨h2, rfl, rfl⟩ | ⟨h2, rfl, rfl⟩⟩
        · go_wp2_with fail
          refine (HW.out _ _ HO.out.rd).mono ?_
          rintro e w3 ⟨rfl, bb⟩
          replace B := B.trans (bb.mono B.size); clear bb
          go_wp2
          go_ret2
          exact ⟨_, rfl, OwnB.nil _ _ _, B.alloc B.size _⟩
        · have q1 := fun W => pair_neq c d a b true h2.symm W
          go_wp2_with fail
          refine (HW.out _ _ HO.out.rd).mono ?_
          rintro e w3 ⟨rfl, bb⟩
          replace B := B.trans (bb.mono B.size); clear bb
          go_wp2
          go_ret2
          exact ⟨_, rfl, OwnB.nil _ _ _, B.alloc B.size _⟩
        · have q1 := fun W => pair_neq c d a b false h2.symm W
          go_wp2_with fail
          refine (HW.out _ _ HO.out.rd).mono ?_
          rintro e w3 ⟨rfl, bb⟩
          have o4 := (HO.out.below bb).below ((Below.refl _ _).alloc (Nat.le_refl _) (.cells #[.int .u64 c.toNat, .int .u64 d.toNat] 29))
          have HO4 := Lib.hid o4
          replace B := B.trans (bb.mono B.size); clear bb o4
          go_wp2
          go_ret2
          exact ⟨_, rfl, HO4.out, B.alloc B.size _⟩
end Go.Proofs.Ytnooiiojlkkpeaa
