/- Slices of slices of bytes: what is known of them; the reference's comparison. -/
import Derived.Test.YtgjpohhafmkhcaaK20
import Derived.Test.YtgjpohhafmkhcaaCalm
set_option linter.unusedVariables false
set_option linter.unusedSimpArgs false
namespace Go.Proofs.Ytgjpohhafmkhcaa
open Go.RowKit L02 L13

/-- A slice of slices of bytes. -/
def Typs (w : World) (v : Value) (L : List (List UInt8)) : Prop := ∃ vs : List Value, vs.length = L.length ∧ Rd w 1 v L.length vs ∧ ∀ (i : Nat) x l, vs[i]? = some x → L[i]? = some l → Byts w x l
/-- .. of the call's own, its rows too. -/
def OwnT (w : World) (base : Nat) (v : Value) (L : List (List UInt8)) : Prop := ∃ vs : List Value, vs.length = L.length ∧ w.ownsRow base 74 1 v L.length vs ∧ ∀ (i : Nat) x l, vs[i]? = some x → L[i]? = some l → OwnB w base 5 x l
theorem OwnT.rd {w : World} {base : Nat} {v : Value} {L : List (List UInt8)} (h : OwnT w base v L) : Typs w v L := by
  obtain ⟨vs, h1, h2, h4⟩ := h; exact ⟨vs, h1, Rd.of_own h2, fun i x l h5 h6 => (h4 i x l h5 h6).rd⟩
theorem Typs.below {w w' : World} {v : Value} {L : List (List UInt8)} (h : Typs w v L) (hb : Below w.heap.size w w') : Typs w' v L := by
  obtain ⟨vs, h1, h2, h3⟩ := h; exact ⟨vs, h1, h2.below hb, fun i x l h4 h5 => (h3 i x l h4 h5).below hb⟩
theorem OwnT.below {w w' : World} {base : Nat} {v : Value} {L : List (List UInt8)} (h : OwnT w base v L) (hb : Below w.heap.size w w') : OwnT w' base v L := by
  obtain ⟨vs, h1, h2, h4⟩ := h; exact ⟨vs, h1, own_below h2 hb, fun i x l h5 h6 => (h4 i x l h5 h6).below hb⟩
theorem OwnT.nil (w : World) (base : Nat) : OwnT w base (.slice none 0 0) [] := ⟨[], rfl, World.ownsRow_nil w base _ 1, fun i x l h => by simp at h⟩
theorem Typs.len {w : World} {v : Value} {L : List (List UInt8)} (h : Typs w v L) : ∀ ty W, (Builtin.len_ #[22] ty #[v]).run Try.prog W = .ok (.int .i64 (L.length : Int)) W := by
  obtain ⟨vs, h1, h2, h3⟩ := h; exact Rd.len h2 Try.underlying22
theorem Typs.len_le {w : World} {v : Value} {L : List (List UInt8)} (h : Typs w v L) : L.length ≤ 9223372036854775807 := by
  obtain ⟨vs, h1, h2, h3⟩ := h; exact Rd.len_le h2
theorem one_bytes : (Try.prog.info? 74).map (·.size) = some 1 := by kernel_rfl
theorem info_bytes : (Try.prog.info? 74).map (fun i => (i.zero, i.size, i.bytes)) = some (some (.slice none 0 0), 1, 24) := by kernel_rfl
theorem Typs.at_ {w : World} {v : Value} {L : List (List UInt8)} (h : Typs w v L) {k : Nat} (hk : k < L.length) :
    ∃ ad x l, (∀ W, (Instr.indexAt 22 v (.int .i64 (k : Int))).run Try.prog W = .ok (.pointer (some ad)) W) ∧ w.cell? ad = some x ∧ Hid (L[k]? = some l) ∧ Hid (Byts w x l) := by
  obtain ⟨vs, h1, h2, h3⟩ := h
  have hv : vs[k]? = some vs[k] := List.getElem?_eq_getElem (by omega)
  have hl : L[k]? = some L[k] := List.getElem?_eq_getElem hk
  exact ⟨_, vs[k], L[k], fun W => Rd.ixN h2 Try.underlying22 one_bytes hk W, by rw [Nat.mul_one]; exact Rd.cell h2 hv, Lib.hid hl, Lib.hid (h3 k _ _ hv hl)⟩
theorem Byts.oneCell {w : World} {x : Value} {l : List UInt8} (h : Byts w x l) : x.oneCell' = true := by
  obtain ⟨A, c, rfl, _⟩ := h; rfl
/-- two own rows of unlike elements lie in unlike blocks. -/
theorem own_unlike {w : World} {b1 b2 e1 e2 s1 s2 n1 n2 : Nat} {x a : Value} {xs ys : List Value} (hx : w.ownsRow b1 e1 s1 x n1 xs) (ha : w.ownsRow b2 e2 s2 a n2 ys) (h : e1 ≠ e2) : x.ownBlock = none ∨ x.ownBlock ≠ a.ownBlock := by
  rcases hx.2 with ⟨rfl, _⟩ | ⟨g, cap, cur, rfl, _, hg, _⟩
  · exact .inl rfl
  · rcases ha.2 with ⟨rfl, _⟩ | ⟨g', cap', cur', rfl, _, hg', _⟩
    · exact .inr (by simp [Value.ownBlock])
    · refine .inr ?_
      intro he
      simp [Value.ownBlock] at he
      subst he
      rw [hg] at hg'
      injection hg' with hg'
      injection hg' with _ h2 _
      exact h h2
/-- one more row. -/
theorem OwnT.snoc {w w' : World} {base n : Nat} {v v' x : Value} {L : List (List UInt8)} {l : List UInt8} {vs : List Value} (h1 : vs.length = L.length) (ho0 : w.ownsRow base 74 1 v L.length vs) (ho : w'.ownsRow base 74 1 v' n (vs ++ [x]))
    (h4 : ∀ (i : Nat) x l, vs[i]? = some x → L[i]? = some l → OwnB w base 5 x l) (hx : OwnB w base 5 x l) (hg : w.grownBy w' v.ownBlock) : OwnT w' base v' (L ++ [l]) := by
  have hn : n = (L ++ [l]).length := by have := ho.1; simp at this ⊢; omega
  subst hn
  have keep : ∀ y m, OwnB w base 5 y m → OwnB w' base 5 y m := fun y m hy => World.ownsRow.kept hy hg (own_unlike hy ho0 (by decide))
  refine ⟨vs ++ [x], by simp [h1], ho, fun i y m hy hm => ?_⟩
  by_cases hi : i < vs.length
  · rw [List.getElem?_append_left hi] at hy
    rw [List.getElem?_append_left (by omega)] at hm
    exact keep _ _ (h4 i y m hy hm)
  · rw [List.getElem?_append_right (by omega)] at hy
    rw [List.getElem?_append_right (by omega)] at hm
    have h0 : i - vs.length = 0 := by
      rcases Nat.eq_zero_or_pos (i - vs.length) with h | h
      · exact h
      · rw [List.getElem?_eq_none (by simp; omega)] at hy; cases hy
    rw [h0] at hy; rw [← h1, h0] at hm
    simp at hy hm; subst hy; subst hm
    exact keep _ _ hx

set_option maxHeartbeats 2000000 in
theorem SameT_any (va vb : Value) (La Lb : List (List UInt8)) (r : Bool) (hr : r = decide (La = Lb)) (w : World) (ha : Typs w va La) (hb : Typs w vb Lb) :
    Calls Try.prog 46 #[va, vb] w fun e w' => e = .returned (.bool r) ∧ Below w.heap.size w w' := by
  have B : Below w.heap.size w w := Below.refl _ _
  have la1 := ha.len; have lb1 := hb.len
  have la2 := ha.len_le; have lb2 := hb.len_le
  have HA := Lib.hid ha; have HB := Lib.hid hb; have HR := Lib.hid hr; clear ha hb hr
  obtain ⟨na, hna⟩ : ∃ na, na = La.length := ⟨_, rfl⟩
  obtain ⟨nb, hnb⟩ : ∃ nb, nb = Lb.length := ⟨_, rfl⟩
  rw [← hna] at la1 la2; rw [← hnb] at lb1 lb2
  have Hna := Lib.hid hna; have Hnb := Lib.hid hnb; clear hna hnb
  by_cases hl : na = nb
  · subst hl
    go_enter Try.func46, Try.ntmps46
    go_wp2
    have HBB := Lib.hid B; clear B
    go_loopw [5] (fun i wr => ∃ k : Nat, k ≤ na ∧ i = .int .i64 k ∧ Hid (La.take k = Lb.take k) ∧ Below w.heap.size w wr) (fun i _ => na - (intOf i).toNat)
    case atStart => exact ⟨0, Nat.zero_le _, rfl, Lib.hid rfl, HBB.out⟩
    case round =>
      obtain ⟨k, hk, rfl, heq, B⟩ := hrel
      by_cases hlt : k < na
      · obtain ⟨ad, x, s, ia, m0, hs, hx⟩ := (HA.out.below B).at_ (k := k) (by have := Hna.out; omega)
        obtain ⟨bd, y, t, ib, m1, ht, hy⟩ := (HB.out.below B).at_ (k := k) (by have := Hnb.out; omega)
        have sx := fun z : Fut wr => (hx.out.below z.h).str (P := Try.prog) (dst := 9) Try.underlying74 Try.underlying5 Try.underlying9
        have sy := fun z : Fut wr => (hy.out.below z.h).str (P := Try.prog) (dst := 9) Try.underlying74 Try.underlying5 Try.underlying9
        obtain ⟨c, hc⟩ : ∃ c, c = decide (s = t) := ⟨_, rfl⟩
        have hst : (s == t) = c := by rw [hc, Bool.eq_iff_iff, beq_iff_eq, decide_eq_true_iff]
        have HC := Lib.hid hc; clear hc
        cases c
        · go_wp2
          refine wp_region_calm (by kernel_rfl) (by kernel_rfl) ?_
          have c_m0 := fun x : Fut _ => cell_later x.h m0
          have c_m1 := fun x : Fut _ => cell_later x.h m1
          repeat (go_big_quiet_step (fail))
          refine wpQuiet_nil ?_
          intro _ hw'
          obtain ⟨xq, hw''⟩ := hw'
          subst hw''
          clear c_m0; replace m0 := cell_later xq.h m0
          clear c_m1; replace m1 := cell_later xq.h m1
          replace B := B.trans (xq.h.mono B.size)
          clear sx sy hst
          go_wp2
          go_ret
          refine ⟨ret_bool ?_, B⟩
          have e : ¬ s = t := by have := HC.out; simpa using this
          rw [HR.out, eq_comm, decide_eq_false_iff_not]
          intro hab
          have h1 := hs.out; have h2 := ht.out
          rw [hab, h2] at h1
          injection h1 with h1
          exact e h1.symm
        · go_wp2
          refine wp_region_calm (by kernel_rfl) (by kernel_rfl) ?_
          have c_m0 := fun x : Fut _ => cell_later x.h m0
          have c_m1 := fun x : Fut _ => cell_later x.h m1
          repeat (go_big_quiet_step (fail))
          refine wpQuiet_nil ?_
          intro _ hw'
          obtain ⟨xq, hw''⟩ := hw'
          subst hw''
          clear c_m0; replace m0 := cell_later xq.h m0
          clear c_m1; replace m1 := cell_later xq.h m1
          replace B := B.trans (xq.h.mono B.size)
          clear sx sy hst
          go_wp2
          go_roundw
          case rel =>
            have e : s = t := by have := HC.out; simpa using this
            refine ⟨k + 1, by omega, by go_num, Lib.hid ?_, B⟩
            rw [List.take_add_one, List.take_add_one, heq.out, hs.out, ht.out, e]
          case measure => simp [intOf]; omega
      · obtain rfl : k = na := by omega
        go_wp2
        go_ret
        refine ⟨ret_bool ?_, B⟩
        have h1 := heq.out
        rw [List.take_of_length_le (by have := Hna.out; omega), List.take_of_length_le (by have := Hnb.out; omega)] at h1
        rw [HR.out, h1, decide_eq_true rfl]
  · have hl' : ((na : Int) != nb) = true := by rw [bne_iff_ne]; omega
    go_enter Try.func46, Try.ntmps46
    go_wp2
    go_ret
    refine ⟨ret_bool ?_, B⟩
    rw [HR.out, eq_comm, decide_eq_false_iff_not]
    intro hab
    have h1 := Hna.out; have h2 := Hnb.out
    rw [hab] at h1; omega
end Go.Proofs.Ytgjpohhafmkhcaa
