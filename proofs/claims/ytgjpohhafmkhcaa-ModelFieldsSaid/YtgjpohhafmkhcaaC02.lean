/- Contracts of the functions of images and of their reference. -/
import Derived.Test.YtgjpohhafmkhcaaInfo
import Derived.Test.YtgjpohhafmkhcaaL02
set_option linter.unusedVariables false
set_option linter.unusedSimpArgs false
namespace Go.Proofs.Ytgjpohhafmkhcaa
open Go.RowKit L02

def Quiet (w w' : World) : Prop := ∃ n, w' = w.drewN n
theorem Quiet.below {w w' : World} (h : Quiet w w') : Below w.heap.size w w' := by obtain ⟨n, rfl⟩ := h; exact below_drewN (Below.refl _ _) n
theorem same_refl (l : List UInt64) : same l l = true := by simp [same]
theorem sameI_refl (l : List Int) : sameI l l = true := by simp [sameI]
def RetWE (w : World) (l : List UInt64) (err : Int) (e : Ending) (w' : World) : Prop := ∃ v, e = .returned (.tuple #[v, .int .i64 err]) ∧ OwnW w' w.heap.size 29 v l ∧ Below w.heap.size w w'
def RetIE (w : World) (l : List Int) (err : Int) (e : Ending) (w' : World) : Prop := ∃ v, e = .returned (.tuple #[v, .int .i64 err]) ∧ OwnI w' w.heap.size 3 v l ∧ Below w.heap.size w w'

theorem same_step {a b : List UInt64} {k : Nat} {x y : UInt64} (h : a.take k = b.take k) (hx : a[k]? = some x) (hy : b[k]? = some y) (e : ((x.toNat : Int) != y.toNat) = false) : a.take (k+1) = b.take (k+1) := by
  have : x = y := by simp at e; exact UInt64.toNat_inj.1 (by omega)
  rw [List.take_add_one, List.take_add_one, h, hx, hy, this]
theorem same_no {a b : List UInt64} {k : Nat} {x y : UInt64} (hx : a[k]? = some x) (hy : b[k]? = some y) (e : ((x.toNat : Int) != y.toNat) = true) : same a b = false := by
  simp [same]; rintro rfl; rw [hx] at hy; cases hy; simp at e
theorem same_len {a b : List UInt64} (h : a.length ≠ b.length) : same a b = false := by
  simp [same]; rintro rfl; exact h rfl
theorem same_end {a b : List UInt64} {k : Nat} (h : a.take k = b.take k) (ha : a.length ≤ k) (hb : b.length ≤ k) : same a b = true := by
  rw [List.take_of_length_le ha, List.take_of_length_le hb] at h; simp [same, h]

set_option maxHeartbeats 400000 in
theorem Same_any (va vb : Value) (la lb : List UInt64) (w : World) (ha : Words w va la) (hb : Words w vb lb) :
    Calls Try.prog 48 #[va, vb] w fun e w' => e = .returned (.bool (same la lb)) ∧ Quiet w w' := by
  have la1 := Rd.len ha Try.underlying70; have lb1 := Rd.len hb Try.underlying70
  have la2 := Rd.len_le ha; have lb2 := Rd.len_le hb
  have HA := Lib.hid ha; have HB := Lib.hid hb; clear ha hb
  obtain ⟨na, hna⟩ : ∃ na, na = la.length := ⟨_, rfl⟩
  obtain ⟨nb, hnb⟩ : ∃ nb, nb = lb.length := ⟨_, rfl⟩
  rw [← hna] at la1 la2; rw [← hnb] at lb1 lb2
  have Hna := Lib.hid hna; have Hnb := Lib.hid hnb; clear hna hnb
  by_cases hl : na = nb
  · subst hl
    go_enter Try.func48, Try.ntmps48
    go_wp2
    go_loopw [5] (fun i wr => ∃ k n : Nat, k ≤ na ∧ i = .int .i64 k ∧ wr = w.drewN n ∧ la.take k = lb.take k) (fun i _ => na - (intOf i).toNat)
    case atStart => exact ⟨0, 0, Nat.zero_le _, rfl, rfl, by simp⟩
    case round =>
      obtain ⟨k, n, hk, rfl, rfl, heq⟩ := hrel
      have HE := Lib.hid heq; clear heq
      by_cases hlt : k < na
      · obtain ⟨ad, x, ia, ca', hx⟩ := HA.out.at_ Try.underlying70 one_u64 (k := k) (by have := Hna.out; omega)
        obtain ⟨bd, y, ib, cb', hy⟩ := HB.out.at_ Try.underlying70 one_u64 (k := k) (by have := Hnb.out; omega)
        go_wp2
        go_quiet (fail)
        go_wp2
        · go_ret
          exact ⟨ret_bool (same_no hx.out hy.out ‹_›).symm, _, World.drewN_drewN _ _ _⟩
        · go_roundw
          case rel => exact ⟨k + 1, _, by omega, by go_num, rfl, same_step HE.out hx.out hy.out ‹_›⟩
          case measure => simp [intOf]; omega
      · go_wp2
        go_ret
        exact ⟨ret_bool (same_end HE.out (by have := Hna.out; omega) (by have := Hnb.out; omega)).symm, _, rfl⟩
  · have hl' : ((na : Int) != nb) = true := by simp; omega
    go_enter Try.func48, Try.ntmps48
    go_wp2
    go_ret
    exact ⟨ret_bool (same_len (by have := Hna.out; have := Hnb.out; omega)).symm, 0, rfl⟩

end Go.Proofs.Ytgjpohhafmkhcaa
