/- Contracts of checking types. -/
import Derived.Test.YtgjpohhafmkhcaaBytes
import Derived.Test.YtgjpohhafmkhcaaL13
set_option linter.unusedVariables false
set_option linter.unusedSimpArgs false
namespace Go.Proofs.Ytgjpohhafmkhcaa
open Go.RowKit L02 L13

set_option maxHeartbeats 600000 in
theorem KCheck_any (v : Value) (l : List UInt8) (r : Int) (hr : r = kErr l) (w : World) (h : Byts w v l) : Calls Try.prog 59 #[v] w fun e w' => e = .returned (.int .i64 r) ∧ w = w' := by
  have l1 := Rd.len h Try.underlying74
  obtain ⟨N, hN⟩ : ∃ N, N = l.length := ⟨_, rfl⟩
  rw [← hN] at l1
  have HN := Lib.hid hN; have H := Lib.hid h; have HR := Lib.hid hr; clear hN h hr
  by_cases hbig : 8 < N
  · go_enter Try.func59, Try.ntmps59
    go_wp2
    go_ret
    exact ⟨ret_int (by rw [HR.out, kErr_many (by have := HN.out; omega)]), rfl⟩
  · have hs : N ≤ 8 := by omega
    clear hbig
    go_enter Try.func59, Try.ntmps59
    go_wp2
    go_loop [10] (fun i => ∃ k : Nat, k ≤ N ∧ i = .int .i64 k ∧ Hid (∀ x ∈ l.take k, 1 ≤ x.toNat ∧ x.toNat ≤ 3)) (fun i => N - (intOf i).toNat)
    case atStart => exact ⟨0, Nat.zero_le _, rfl, Lib.hid (by simp)⟩
    case round =>
      obtain ⟨k, hk, rfl, hh⟩ := hrel
      by_cases hlt : k < N
      · obtain ⟨ad, x, ia, ca, hx⟩ := H.out.at_ (P := Try.prog) Try.underlying74 one_u8 (k := k) (by have := HN.out; omega)
        by_cases hg : 1 ≤ x.toNat ∧ x.toNat ≤ 3
        · obtain ⟨h1, h2⟩ := hg
          go_wp2
          go_round
          case rel =>
            refine ⟨k + 1, by omega, by go_num, Lib.hid ?_⟩
            intro y hy
            rw [List.take_add_one, hx.out] at hy
            rcases List.mem_append.1 hy with hy | hy
            · exact hh.out y hy
            · simp at hy; subst hy; exact ⟨h1, h2⟩
          case measure => simp [intOf]; omega
        · have hcase : x.toNat < 1 ∨ 1 ≤ x.toNat ∧ 3 < x.toNat := by omega
          have hb := kErr_bad (by have := HN.out; omega) hx.out hg
          have HB := Lib.hid hb; clear hb hg
          rcases hcase with h1 | ⟨h1, h2⟩
          all_goals
            go_wp2
            go_ret
            exact ⟨ret_int (by rw [HR.out, HB.out]), rfl⟩
      · obtain rfl : k = N := by omega
        go_wp2
        go_ret
        refine ⟨ret_int ?_, rfl⟩
        rw [HR.out, kErr_of (by have := HN.out; omega)]
        have := hh.out
        rw [List.take_of_length_le (by have := HN.out; omega)] at this
        exact this
set_option maxHeartbeats 600000 in
theorem KCheckR_any (v : Value) (l : List UInt8) (r : Int) (hr : r = kErr l) (w : World) (h : Byts w v l) : Calls Try.prog 66 #[v] w fun e w' => e = .returned (.int .i64 r) ∧ w = w' := by
  have l1 := Rd.len h Try.underlying74
  obtain ⟨N, hN⟩ : ∃ N, N = l.length := ⟨_, rfl⟩
  rw [← hN] at l1
  have HN := Lib.hid hN; have H := Lib.hid h; have HR := Lib.hid hr; clear hN h hr
  by_cases hbig : 8 < N
  · go_enter Try.func66, Try.ntmps66
    go_wp2
    go_ret
    exact ⟨ret_int (by rw [HR.out, kErr_many (by have := HN.out; omega)]), rfl⟩
  · have hs : N ≤ 8 := by omega
    clear hbig
    go_enter Try.func66, Try.ntmps66
    go_wp2
    go_loop [3] (fun i => ∃ k : Nat, k ≤ N ∧ i = .int .i64 k ∧ Hid (∀ x ∈ l.take k, 1 ≤ x.toNat ∧ x.toNat ≤ 3)) (fun i => N - (intOf i).toNat)
    case atStart => exact ⟨0, Nat.zero_le _, rfl, Lib.hid (by simp)⟩
    case round =>
      obtain ⟨k, hk, rfl, hh⟩ := hrel
      by_cases hlt : k < N
      · obtain ⟨ad, x, ia, ca, hx⟩ := H.out.at_ (P := Try.prog) Try.underlying74 one_u8 (k := k) (by have := HN.out; omega)
        by_cases hg : 1 ≤ x.toNat ∧ x.toNat ≤ 3
        · obtain ⟨h1, h2⟩ := hg
          have e0 : ((x.toNat : Int) == 0) = false := by rw [beq_eq_false_iff_ne]; omega
          go_wp2
          go_round
          case rel =>
            refine ⟨k + 1, by omega, by go_num, Lib.hid ?_⟩
            intro y hy
            rw [List.take_add_one, hx.out] at hy
            rcases List.mem_append.1 hy with hy | hy
            · exact hh.out y hy
            · simp at hy; subst hy; exact ⟨h1, h2⟩
          case measure => simp [intOf]; omega
        · have hcase : ((x.toNat : Int) == 0) = true ∨ ((x.toNat : Int) == 0) = false ∧ 3 < x.toNat := by
            by_cases h0 : x.toNat = 0
            · exact .inl (by rw [beq_iff_eq]; omega)
            · exact .inr ⟨by rw [beq_eq_false_iff_ne]; omega, by omega⟩
          have hb := kErr_bad (by have := HN.out; omega) hx.out hg
          have HB := Lib.hid hb; clear hb hg
          rcases hcase with h1 | ⟨h1, h2⟩
          all_goals
            go_wp2
            go_ret
            exact ⟨ret_int (by rw [HR.out, HB.out]), rfl⟩
      · obtain rfl : k = N := by omega
        go_wp2
        go_ret
        refine ⟨ret_int ?_, rfl⟩
        rw [HR.out, kErr_of (by have := HN.out; omega)]
        have := hh.out
        rw [List.take_of_length_le (by have := HN.out; omega)] at this
        exact this
end Go.Proofs.Ytgjpohhafmkhcaa
