/- Contracts of the functions that the law 'ModelOf' reaches, part 2. No condition. -/
import Derived.Test.YtbfmdbeeiicabaaMMOfa
set_option linter.unusedVariables false
set_option linter.unusedSimpArgs false
namespace Go.Proofs.Ytbfmdbeeiicabaa
open Go.RowKit L02 L05 L13
set_option maxHeartbeats 1000000 in
theorem KTable_any (v : Value) (l : List UInt64) (n : Int) (L : List (List UInt8)) (r : Int) (hL : L = tabT l n) (hr : r = tabErr l n) (w : World) (h : Words w v l) :
    Calls Try.prog 20 #[v, .int .i64 n] w fun e w' => ∃ x, e = .returned (.tuple #[x, .int .i64 r]) ∧ OwnT w' w.heap.size x L ∧ Below w.heap.size w w' := by
  by_cases hs : SizeOk l.length
  · by_cases hn : 0 ≤ n ∧ n ≤ 8
    · obtain ⟨k, rfl⟩ := Int.eq_ofNat_of_zero_le hn.1
      exact KTable_ok v l k (by omega) hs L r hL hr w h
    · have e : tabErr l n = 2 := by rw [tabErr, if_pos hs, if_neg hn]
      have hL0 : L = [] := by rw [hL, tabT, if_neg (by rw [e]; omega)]
      rw [e] at hr
      subst hL0 hr
      have B : Below w.heap.size w w := Below.refl _ _
      have CT := fun w h => Check_any v l w h
      rw [chk_ok hs] at CT
      have HC := Lib.hid CT; have H := Lib.hid h
      have hcase : n < 0 ∨ 0 ≤ n ∧ 8 < n := by omega
      clear CT h hs hL e hn
      rcases hcase with h1 | ⟨h1, h2⟩
      all_goals
        go_enter Try.func20, Try.ntmps20
        go_wp2_with fail
        refine (HC.out _ H.out).mono ?_
        rintro e w2 ⟨rfl, rfl⟩
        go_wp2
        go_ret2
        exact ⟨_, rfl, OwnT.nil _ _, B⟩
  · have e : tabErr l n = 8 := by rw [tabErr, if_neg hs]
    have hL0 : L = [] := by rw [hL, tabT, if_neg (by rw [e]; omega)]
    rw [e] at hr
    subst hL0 hr
    have B : Below w.heap.size w w := Below.refl _ _
    have CT := fun w h => Check_any v l w h
    rw [chk_no hs] at CT
    have HC := Lib.hid CT; have H := Lib.hid h
    clear CT h hs hL e
    go_enter Try.func20, Try.ntmps20
    go_wp2_with fail
    refine (HC.out _ H.out).mono ?_
    rintro e w2 ⟨rfl, rfl⟩
    go_wp2
    go_ret2
    exact ⟨_, rfl, OwnT.nil _ _, B⟩
set_option maxHeartbeats 4000000 in
theorem TypesR_any (v : Value) (l : List UInt64) (n : Nat) (hn : n ≤ 8) (hlen : 112 ≤ l.length) (L : List (List UInt8)) (r : Bool) (hL : L = tys l n) (hr : r = decide (TysOk l n)) (w : World) (h : Words w v l) :
    Calls Try.prog 135 #[v, .int .i64 (n : Int)] w fun e w' => ∃ x, e = .returned (.tuple #[x, .bool r]) ∧ OwnT w' w.heap.size x L ∧ Below w.heap.size w w' := by
  have B : Below w.heap.size w w := Below.refl _ _
  have hbad : ¬ TysOk l n → L = [] ∧ r = false := fun hno => ⟨by rw [hL, tys, if_neg hno], by rw [hr, decide_eq_false hno]⟩
  have hgood : TysOk l n → L = tysTo l n ∧ r = true := fun hyes => ⟨by rw [hL, tys, if_pos hyes], by rw [hr, decide_eq_true hyes]⟩
  have H := Lib.hid h; have HBAD := Lib.hid hbad; have HGOOD := Lib.hid hgood
  clear h hL hr hbad hgood
  go_enter Try.func135, Try.ntmps135
  go_wp2
  have HB := Lib.hid B; clear B
  go_loopw [6, 7] (fun xv i wr => ∃ k : Nat, k ≤ 8 ∧ i = .int .i64 k ∧ Hid (OwnT wr w.heap.size xv (tysTo l (min k n)) ∧ ∀ i, i < k → TyOk l n i) ∧ Below w.heap.size w wr) (fun _ i _ => 8 - (intOf i).toNat)
  case atStart => exact ⟨0, by omega, rfl, Lib.hid ⟨by rw [Nat.zero_min]; exact OwnT.nil _ _, fun i hi => by omega⟩, HB.out⟩
  case round =>
    obtain ⟨k, hk, rfl, hh, B⟩ := hrel
    by_cases hlt : k < 8
    · obtain ⟨ad, a, ia, m0, ha⟩ := (H.out.below B).atI Try.underlying22 one_u64 (k := 96 + 2 * (k : Int)) (by omega) (by omega)
      obtain ⟨bd, b, ib, m1, hb⟩ := (H.out.below B).atI Try.underlying22 one_u64 (k := 96 + 2 * (k : Int) + 1) (by omega) (by omega)
      have ea : ta l k = a := ta_of (by have := ha.out; rwa [show (96 + 2 * (k : Int)).toNat = 96 + 2 * k by omega] at this)
      have eb : tb l k = b := tb_of (by have := hb.out; rwa [show (96 + 2 * (k : Int) + 1).toNat = 97 + 2 * k by omega] at this)
      have hw1 : IntKind.i64.wrap (2 * (k : Int)) = 2 * (k : Int) := IntWalk.i64_in _ (by omega)
      have hw2 : IntKind.i64.wrap (96 + 2 * (k : Int)) = 96 + 2 * (k : Int) := IntWalk.i64_in _ (by omega)
      have hw3 : IntKind.i64.wrap (96 + 2 * (k : Int) + 1) = 96 + 2 * (k : Int) + 1 := IntWalk.i64_in _ (by omega)
      have EA := Lib.hid ea; have EB := Lib.hid eb
      clear ha hb ea eb
      obtain ⟨f, hf⟩ : ∃ f, f = rdL a b := ⟨_, rfl⟩
      obtain ⟨e, he⟩ : ∃ e, e = rdE a b := ⟨_, rfl⟩
      have RT := fun w => KReadR_any a b f e hf he w
      have HRT := Lib.hid RT; have HF := Lib.hid hf; have HE := Lib.hid he
      clear RT hf he
      by_cases hkn : k < n
      · have hmin : min k n = k := by omega
        have hcase : e = 0 ∨ (e != 0) = true := by by_cases h : e = 0; exact .inl h; exact .inr (by rw [bne_iff_ne]; exact h)
        rcases hcase with rfl | hne
        · go_wp2
          refine wp_region_calm (by kernel_rfl) (by kernel_rfl) ?_
          have c_m0 := fun x : Fut _ => cell_later x.h m0
          have c_m1 := fun x : Fut _ => cell_later x.h m1
          repeat (go_big_quiet_step (fail))
          refine wpQuiet_nil ?_
          intro _ hw'
          obtain ⟨xq, hw''⟩ := hw'
          subst hw''
          clear c_m0; replace m0 := cell_later xq.h m0
          clear c_m1; replace m1 := cell_later xq.h m1
          replace B := B.trans (xq.h.mono B.size)
          clear hw1 hw2 hw3
          have HHB : Hid (OwnT xq.W w.heap.size _ (tysTo l k)) := Lib.hid (by have := hh.out.1.below xq.h; rwa [hmin] at this)
          go_wp2_with fail
          have hzz := B.size
          refine (HRT.out _).mono ?_
          rintro e w3 ⟨y, rfl, oy, bb⟩
          obtain ⟨yA, yc, rfl, _⟩ := OwnB.rd oy
          obtain ⟨vs, z1, z2, z4⟩ := HHB.out.below bb
          replace B := B.trans (bb.mono B.size)
          have HY := Lib.hid (own_mono oy (B' := w.heap.size) hzz); have HBB := Lib.hid B; have Z1 := Lib.hid z1; have Z2 := Lib.hid z2; have Z4 := Lib.hid z4
          clear bb oy B z1 z2 z4 m0 m1 hmin
          have hlk := tysTo_len l k
          have HLK := Lib.hid hlk; clear hlk
          have hba : ∀ o, Below w3.heap.size w3 (w3.alloc o) := fun o => (Below.refl _ _).alloc (Nat.le_refl _) o
          have HBA := Lib.hid hba; clear hba
          go_wp2_with (at_builtin; refine wpList_append (by rfl) rfl rfl rfl Try.underlying39 info_bytes rfl (by omega) (by exact own_below Z2.out (HBA.out _)) (by exact lit_rd) (by intro u hu; simp at hu; subst hu; exact (OwnB.rd HY.out).oneCell) (by rw [HLK.out]; omega) (by rw [HLK.out]; omega) (by exact HBB.out.alloc HBB.out.size _) (Nat.le_refl _) ?_; intro v1 w4 o4 B4 g4; have T4 := Lib.hid (OwnT.snoc Z1.out (own_below Z2.out (HBA.out _)) o4 (fun i x l h5 h6 => (Z4.out i x l h5 h6).below (HBA.out _)) (OwnB.below HY.out (HBA.out _)) g4); have HB4 := Lib.hid B4; clear o4 B4 g4)
          go_roundw
          case rel =>
            refine ⟨k + 1, by omega, by go_num, Lib.hid ⟨?_, ?_⟩, HB4.out⟩
            · rw [show min (k + 1) n = k + 1 by omega, tysTo_succ, EA.out, EB.out, ← HF.out]; exact T4.out
            · intro i hi
              by_cases hik : i < k
              · exact hh.out.2 i hik
              · obtain rfl : i = k := by omega
                rw [TyOk, if_pos hkn, EA.out, EB.out]; exact rdE_ok.1 HE.out.symm
          case measure => simp [intOf]; omega
        · have hno : ¬ TysOk l n := fun hall => by
            have := hall k hlt
            rw [TyOk, if_pos hkn, EA.out, EB.out, ← rdE_ok, ← HE.out] at this
            rw [this] at hne; simp at hne
          obtain ⟨rfl, rfl⟩ := HBAD.out hno
          clear hno hmin
          go_wp2
          refine wp_region_calm (by kernel_rfl) (by kernel_rfl) ?_
          have c_m0 := fun x : Fut _ => cell_later x.h m0
          have c_m1 := fun x : Fut _ => cell_later x.h m1
          repeat (go_big_quiet_step (fail))
          refine wpQuiet_nil ?_
          intro _ hw'
          obtain ⟨xq, hw''⟩ := hw'
          subst hw''
          clear c_m0; replace m0 := cell_later xq.h m0
          clear c_m1; replace m1 := cell_later xq.h m1
          replace B := B.trans (xq.h.mono B.size)
          clear hw1 hw2 hw3
          go_wp2_with fail
          refine (HRT.out _).mono ?_
          rintro e w3 ⟨y, rfl, oy, bb⟩
          replace B := B.trans (bb.mono B.size); clear bb oy m0 m1
          go_wp2
          go_ret2
          exact ⟨_, rfl, OwnT.nil _ _, B⟩
      · have hmin : min k n = n := by omega
        have hmin2 : min (k + 1) n = n := by omega
        have HM := Lib.hid (And.intro hmin hmin2); clear hmin hmin2
        have hcase : 0 < a.toNat ∨ a = 0 ∧ (0 < b.toNat ∨ b = 0) := by
          by_cases h1 : a.toNat = 0
          · refine .inr ⟨UInt64.toNat_inj.1 h1, ?_⟩
            by_cases h2 : b.toNat = 0
            · exact .inr (UInt64.toNat_inj.1 h2)
            · exact .inl (by omega)
          · exact .inl (by omega)
        rcases hcase with h1 | ⟨rfl, h2 | rfl⟩
        · have hno : ¬ TysOk l n := fun hall => by
            have := hall k hlt
            rw [TyOk, if_neg hkn, EA.out, EB.out] at this
            rw [this.1] at h1; simp at h1
          obtain ⟨rfl, rfl⟩ := HBAD.out hno
          clear hno
          go_wp2
          refine wp_region_calm (by kernel_rfl) (by kernel_rfl) ?_
          have c_m0 := fun x : Fut _ => cell_later x.h m0
          have c_m1 := fun x : Fut _ => cell_later x.h m1
          repeat (go_big_quiet_step (fail))
          refine wpQuiet_nil ?_
          intro _ hw'
          obtain ⟨xq, hw''⟩ := hw'
          subst hw''
          clear c_m0; replace m0 := cell_later xq.h m0
          clear c_m1; replace m1 := cell_later xq.h m1
          replace B := B.trans (xq.h.mono B.size)
          clear hw1 hw2 hw3
          go_wp2_with fail
          refine (HRT.out _).mono ?_
          rintro e w3 ⟨y, rfl, oy, bb⟩
          replace B := B.trans (bb.mono B.size); clear bb oy m0 m1
          go_wp2
          go_ret2
          exact ⟨_, rfl, OwnT.nil _ _, B⟩
        · have hno : ¬ TysOk l n := fun hall => by
            have := hall k hlt
            rw [TyOk, if_neg hkn, EA.out, EB.out] at this
            rw [this.2] at h2; simp at h2
          obtain ⟨rfl, rfl⟩ := HBAD.out hno
          clear hno
          go_wp2
          refine wp_region_calm (by kernel_rfl) (by kernel_rfl) ?_
          have c_m0 := fun x : Fut _ => cell_later x.h m0
          have c_m1 := fun x : Fut _ => cell_later x.h m1
          repeat (go_big_quiet_step (fail))
          refine wpQuiet_nil ?_
          intro _ hw'
          obtain ⟨xq, hw''⟩ := hw'
          subst hw''
          clear c_m0; replace m0 := cell_later xq.h m0
          clear c_m1; replace m1 := cell_later xq.h m1
          replace B := B.trans (xq.h.mono B.size)
          clear hw1 hw2 hw3
          go_wp2_with fail
          refine (HRT.out _).mono ?_
          rintro e w3 ⟨y, rfl, oy, bb⟩
          replace B := B.trans (bb.mono B.size); clear bb oy m0 m1
          go_wp2
          go_ret2
          exact ⟨_, rfl, OwnT.nil _ _, B⟩
        · go_wp2
          refine wp_region_calm (by kernel_rfl) (by kernel_rfl) ?_
          have c_m0 := fun x : Fut _ => cell_later x.h m0
          have c_m1 := fun x : Fut _ => cell_later x.h m1
          repeat (go_big_quiet_step (fail))
          refine wpQuiet_nil ?_
          intro _ hw'
          obtain ⟨xq, hw''⟩ := hw'
          subst hw''
          clear c_m0; replace m0 := cell_later xq.h m0
          clear c_m1; replace m1 := cell_later xq.h m1
          replace B := B.trans (xq.h.mono B.size)
          clear hw1 hw2 hw3
          have HX := Lib.hid (hh.out.1.below xq.h)
          go_wp2_with fail
          refine (HRT.out _).mono ?_
          rintro e w3 ⟨y, rfl, oy, bb⟩
          replace B := B.trans (bb.mono B.size)
          have HX2 := Lib.hid (HX.out.below bb); have HBB := Lib.hid B
          clear bb oy m0 m1 B
          go_wp2
          go_roundw
          case rel =>
            refine ⟨k + 1, by omega, by go_num, Lib.hid ⟨?_, ?_⟩, HBB.out⟩
            · have := HX2.out
              rw [HM.out.1] at this
              rw [HM.out.2]; exact this
            · intro i hi
              by_cases hik : i < k
              · exact hh.out.2 i hik
              · obtain rfl : i = k := by omega
                rw [TyOk, if_neg hkn, EA.out, EB.out]; exact ⟨rfl, rfl⟩
          case measure => simp [intOf]; omega
    · obtain rfl : k = 8 := by omega
      obtain ⟨rfl, rfl⟩ := HGOOD.out (fun i hi => hh.out.2 i hi)
      have HX := Lib.hid hh.out.1
      go_wp2
      go_ret2
      exact ⟨_, rfl, by have := HX.out; rwa [show min 8 n = n by omega] at this, B⟩
set_option maxHeartbeats 2000000 in
theorem SameT_any (va vb : Value) (La Lb : List (List UInt8)) (r : Bool) (hr : r = decide (La = Lb)) (w : World) (ha : Typs w va La) (hb : Typs w vb Lb) :
    Calls Try.prog 82 #[va, vb] w fun e w' => e = .returned (.bool r) ∧ Below w.heap.size w w' := by
  have B : Below w.heap.size w w := Below.refl _ _
  have la1 := ha.len; have lb1 := hb.len
  have la2 := ha.len_le; have lb2 := hb.len_le
  have HA := Lib.hid ha; have HB := Lib.hid hb; have HR := Lib.hid hr; clear ha hb hr
  obtain ⟨na, hna⟩ : ∃ na, na = La.length := ⟨_, rfl⟩
  obtain ⟨nb, hnb⟩ : ∃ nb, nb = Lb.length := ⟨_, rfl⟩
  rw [← hna] at la1 la2; rw [← hnb] at lb1 lb2
  have Hna := Lib.hid hna; have Hnb := Lib.hid hnb; clear hna hnb
  by_cases hl : na = nb
  · subst hl
    go_enter Try.func82, Try.ntmps82
    go_wp2
    have HBB := Lib.hid B; clear B
    go_loopw [5] (fun i wr => ∃ k : Nat, k ≤ na ∧ i = .int .i64 k ∧ Hid (La.take k = Lb.take k) ∧ Below w.heap.size w wr) (fun i _ => na - (intOf i).toNat)
    case atStart => exact ⟨0, Nat.zero_le _, rfl, Lib.hid rfl, HBB.out⟩
    case round =>
      obtain ⟨k, hk, rfl, heq, B⟩ := hrel
      by_cases hlt : k < na
      · obtain ⟨ad, x, s, ia, m0, hs, hx⟩ := (HA.out.below B).at_ (k := k) (by have := Hna.out; omega)
        obtain ⟨bd, y, t, ib, m1, ht, hy⟩ := (HB.out.below B).at_ (k := k) (by have := Hnb.out; omega)
        have sx := fun z : Fut wr => (hx.out.below z.h).str (P := Try.prog) (dst := 9) Try.underlying44 Try.underlying5 Try.underlying9
        have sy := fun z : Fut wr => (hy.out.below z.h).str (P := Try.prog) (dst := 9) Try.underlying44 Try.underlying5 Try.underlying9
        obtain ⟨c, hc⟩ : ∃ c, c = decide (s = t) := ⟨_, rfl⟩
        have hst : (s == t) = c := by rw [hc, Bool.eq_iff_iff, beq_iff_eq, decide_eq_true_iff]
        have HC := Lib.hid hc; clear hc
        cases c
        · go_wp2
          refine wp_region_calm (by kernel_rfl) (by kernel_rfl) ?_
          have c_m0 := fun x : Fut _ => cell_later x.h m0
          have c_m1 := fun x : Fut _ => cell_later x.h m1
          repeat (go_big_quiet_step (fail))
          refine wpQuiet_nil ?_
          intro _ hw'
          obtain ⟨xq, hw''⟩ := hw'
          subst hw''
          clear c_m0; replace m0 := cell_later xq.h m0
          clear c_m1; replace m1 := cell_later xq.h m1
          replace B := B.trans (xq.h.mono B.size)
          clear sx sy hst
          go_wp2
          go_ret
          refine ⟨ret_bool ?_, B⟩
          have e : ¬ s = t := by have := HC.out; simpa using this
          rw [HR.out, eq_comm, decide_eq_false_iff_not]
          intro hab
          have h1 := hs.out; have h2 := ht.out
          rw [hab, h2] at h1
          injection h1 with h1
          exact e h1.symm
        · go_wp2
          refine wp_region_calm (by kernel_rfl) (by kernel_rfl) ?_
          have c_m0 := fun x : Fut _ => cell_later x.h m0
          have c_m1 := fun x : Fut _ => cell_later x.h m1
          repeat (go_big_quiet_step (fail))
          refine wpQuiet_nil ?_
          intro _ hw'
          obtain ⟨xq, hw''⟩ := hw'
          subst hw''
          clear c_m0; replace m0 := cell_later xq.h m0
          clear c_m1; replace m1 := cell_later xq.h m1
          replace B := B.trans (xq.h.mono B.size)
          clear sx sy hst
          go_wp2
          go_roundw
          case rel =>
            have e : s = t := by have := HC.out; simpa using this
            refine ⟨k + 1, by omega, by go_num, Lib.hid ?_, B⟩
            rw [List.take_add_one, List.take_add_one, heq.out, hs.out, ht.out, e]
          case measure => simp [intOf]; omega
      · obtain rfl : k = na := by omega
        go_wp2
        go_ret
        refine ⟨ret_bool ?_, B⟩
        have h1 := heq.out
        rw [List.take_of_length_le (by have := Hna.out; omega), List.take_of_length_le (by have := Hnb.out; omega)] at h1
        rw [HR.out, h1, decide_eq_true rfl]
  · have hl' : ((na : Int) != nb) = true := by rw [bne_iff_ne]; omega
    go_enter Try.func82, Try.ntmps82
    go_wp2
    go_ret
    refine ⟨ret_bool ?_, B⟩
    rw [HR.out, eq_comm, decide_eq_false_iff_not]
    intro hab
    have h1 := Hna.out; have h2 := Hnb.out
    rw [hab] at h1; omega
end Go.Proofs.Ytbfmdbeeiicabaa

namespace Go.Proofs.Ytbfmdbeeiicabaa.L18
open L02
structure Sl where
  gen : Int
  used : Bool
  at_ : Int
deriving DecidableEq
def Sl.none : Sl := ⟨0, false, 0⟩
def Right (s : Sl) : Prop := 0 ≤ s.gen ∧ s.gen ≤ 2147483647 ∧ (s.used = false → s.at_ = 0) ∧ (s.used = true → 0 < s.gen ∧ 128 ≤ s.at_ ∧ s.at_ < 2048)
instance (s : Sl) : Decidable (Right s) := inferInstanceAs (Decidable (0 ≤ s.gen ∧ s.gen ≤ 2147483647 ∧ (s.used = false → s.at_ = 0) ∧ (s.used = true → 0 < s.gen ∧ 128 ≤ s.at_ ∧ s.at_ < 2048)))
def pkN (s : Sl) : Nat := s.at_.toNat + s.gen.toNat * 4294967296 + (if s.used then 9223372036854775808 else 0)
def pk (s : Sl) : UInt64 := UInt64.ofNat (pkN s)
def spl (w : UInt64) : Sl := ⟨(w.toNat / 4294967296 % 2147483648 : Nat), decide (w.toNat / 9223372036854775808 = 1), (w.toNat % 4294967296 : Nat)⟩
def wordErr (s : Sl) : Int := if Right s then 0 else 8
def word (s : Sl) : UInt64 := if Right s then pk s else 0
def splErr (w : UInt64) : Int := if Right (spl w) then 0 else 50
def spl0 (w : UInt64) : Sl := if Right (spl w) then spl w else .none
/-- the words of slots, in an image -/
def ws (l : List UInt64) : List UInt64 := (l.drop 112).take 16
def slots (l : List UInt64) : List Sl := (ws l).map spl
def AllR (l : List UInt64) : Prop := ∀ x ∈ ws l, Right (spl x)
instance (l : List UInt64) : Decidable (AllR l) := inferInstanceAs (Decidable (∀ x ∈ ws l, Right (spl x)))
def openErr (l : List UInt64) : Int := if SizeOk l.length then (if AllR l then 0 else 50) else 8
def all (l : List UInt64) : List Sl := if openErr l = 0 then slots l else []
def rightErr (L : List Sl) (s g : Int) : Int := if 0 ≤ s ∧ s < L.length then (if (L.getD s.toNat .none).used = true ∧ (L.getD s.toNat .none).gen = g then 0 else 28) else 2
/-- the first free slot from k on -/
def nextFrom : List Sl → Nat → Option Nat
  | [], _ => none
  | s :: L, k => if s.used = false ∧ s.gen ≠ 2147483647 then some k else nextFrom L (k + 1)
def next (L : List Sl) : Option Nat := nextFrom L 0
end Go.Proofs.Ytbfmdbeeiicabaa.L18
namespace Go.Proofs.Ytbfmdbeeiicabaa.L01
/-- the bits of w from f on, k of them -/
def val (w f k : Nat) : Nat := w / 2 ^ f % 2 ^ k
/-- w with those bits set to v's -/
def wth (w f k v : Nat) : Nat := w / 2 ^ (f + k) * 2 ^ (f + k) + v % 2 ^ k * 2 ^ f + w % 2 ^ f
theorem bit_div (w k : Nat) : w / 2 ^ k / 2 = w / 2 ^ (k + 1) := by rw [Nat.div_div_eq_div_mul, ← Nat.pow_succ]
theorem val_zero (w f : Nat) : val w f 0 = 0 := by simp [val, Nat.mod_one]
theorem val_succ (w f k : Nat) : val w f (k + 1) = val w f k + w / 2 ^ (f + k) % 2 * 2 ^ k := by
  unfold val
  rw [Nat.mod_pow_succ, Nat.div_div_eq_div_mul, ← Nat.pow_add, Nat.mul_comm (2 ^ k)]
theorem val_lt (w f k : Nat) : val w f k < 2 ^ k := Nat.mod_lt _ (Nat.two_pow_pos k)
theorem wth_zero (w f v : Nat) : wth w f 0 v = w := by
  unfold wth
  have := Nat.div_add_mod w (2 ^ f)
  simp [Nat.mod_one]
  rw [Nat.mul_comm]; exact this
theorem low_lt (w f k v : Nat) : v % 2 ^ k * 2 ^ f + w % 2 ^ f < 2 ^ (f + k) := by
  have h1 := Nat.mod_lt v (Nat.two_pow_pos k)
  have h2 := Nat.mod_lt w (Nat.two_pow_pos f)
  rw [Nat.pow_add]
  have h3 : (v % 2 ^ k + 1) * 2 ^ f ≤ 2 ^ k * 2 ^ f := Nat.mul_le_mul_right _ h1
  rw [Nat.add_mul, Nat.mul_comm (2 ^ k)] at h3
  omega
theorem wth_hi (w f k v : Nat) : wth w f k v / 2 ^ (f + k) = w / 2 ^ (f + k) := by
  have h := low_lt w f k v
  unfold wth
  rw [Nat.add_assoc, Nat.mul_comm, Nat.mul_add_div (Nat.two_pow_pos _), Nat.div_eq_of_lt h, Nat.add_zero]
theorem wth_ge (w f k v : Nat) : w / 2 ^ (f + k) % 2 * 2 ^ (f + k) ≤ wth w f k v := by
  unfold wth
  have h1 : w / 2 ^ (f + k) % 2 * 2 ^ (f + k) ≤ w / 2 ^ (f + k) * 2 ^ (f + k) := Nat.mul_le_mul_right _ (Nat.mod_le _ _)
  omega
theorem wth_succ (w f k v : Nat) : wth w f (k + 1) v = wth w f k v - w / 2 ^ (f + k) % 2 * 2 ^ (f + k) + v / 2 ^ k % 2 * 2 ^ (f + k) := by
  have h1 : w / 2 ^ (f + k) = 2 * (w / 2 ^ (f + (k + 1))) + w / 2 ^ (f + k) % 2 := by
    rw [← Nat.add_assoc, ← bit_div]; omega
  have h2 : v % 2 ^ (k + 1) = v % 2 ^ k + v / 2 ^ k % 2 * 2 ^ k := by rw [Nat.mod_pow_succ, Nat.mul_comm (2 ^ k)]
  unfold wth
  rw [h2]
  generalize hq' : w / 2 ^ (f + (k + 1)) = q' at *
  generalize hq : w / 2 ^ (f + k) = q at *
  generalize hb : q % 2 = b at *
  generalize hc : v / 2 ^ k % 2 = c at *
  generalize hr : v % 2 ^ k = r at *
  generalize hs : w % 2 ^ f = s at *
  subst h1
  have e1 : 2 ^ (f + (k + 1)) = 2 * 2 ^ (f + k) := by rw [← Nat.add_assoc, Nat.pow_succ, Nat.mul_comm]
  have e2 : (r + c * 2 ^ k) * 2 ^ f = r * 2 ^ f + c * 2 ^ (f + k) := by rw [Nat.add_mul, Nat.mul_assoc, Nat.pow_add, Nat.mul_comm (2 ^ k)]
  have e3 : q' * (2 * 2 ^ (f + k)) = 2 * (q' * 2 ^ (f + k)) := by rw [Nat.mul_left_comm]
  have e4 : (2 * q' + b) * 2 ^ (f + k) = 2 * (q' * 2 ^ (f + k)) + b * 2 ^ (f + k) := by rw [Nat.add_mul, Nat.mul_assoc]
  rw [e1, e2, e3, e4]
  omega
theorem wth_lt {w f k v : Nat} (hw : w < 2 ^ 64) (h : f + k ≤ 64) : wth w f k v < 2 ^ 64 := by
  have h1 := low_lt w f k v
  unfold wth
  have h2 : w / 2 ^ (f + k) < 2 ^ (64 - (f + k)) := by
    rw [Nat.div_lt_iff_lt_mul (Nat.two_pow_pos _), ← Nat.pow_add]
    rw [show 64 - (f + k) + (f + k) = 64 by omega]; exact hw
  have h3 : (w / 2 ^ (f + k) + 1) * 2 ^ (f + k) ≤ 2 ^ (64 - (f + k)) * 2 ^ (f + k) := Nat.mul_le_mul_right _ h2
  rw [← Nat.pow_add, show 64 - (f + k) + (f + k) = 64 by omega, Nat.add_mul] at h3
  omega
end Go.Proofs.Ytbfmdbeeiicabaa.L01
namespace Go.Proofs.Ytbfmdbeeiicabaa
open Go.RowKit L01
theorem bit_any (x i r : Nat) (hr : r = x / 2 ^ i % 2) (w : World) (hx : x < 18446744073709551616) (hi : i ≤ 64) :
    Calls Try.prog 139 #[.int .u64 (x : Int), .int .i64 (i : Int)] w fun e w' => e = .returned (.int .u64 (r : Int)) ∧ w = w' := by
  have HR := Lib.hid hr; clear hr
  go_enter Try.func139, Try.ntmps139
  go_wp2
  go_loop [0, 5] (fun y k => ∃ j z : Nat, j ≤ i ∧ k = .int .i64 j ∧ y = .int .u64 (z : Int) ∧ z < 18446744073709551616 ∧ Hid (z = x / 2 ^ j)) (fun _ k => i - (intOf k).toNat)
  case atStart => exact ⟨0, x, by omega, rfl, rfl, hx, Lib.hid (by simp)⟩
  case round =>
    obtain ⟨j, z, hj, rfl, rfl, hz, hzz⟩ := hrel
    by_cases hlt : j < i
    · go_wp2
      go_round
      case rel => exact ⟨j + 1, z / 2, by omega, by go_num, by go_num, by omega, Lib.hid (by rw [hzz.out, bit_div])⟩
      case measure => simp [intOf]; omega
    · obtain rfl : j = i := by omega
      go_wp2
      go_ret
      exact ⟨ret_int (by have h1 := hzz.out; have h2 := HR.out; rw [← h1] at h2; omega), rfl⟩
theorem power_any (i r : Nat) (hr : r = 2 ^ i) (w : World) (hi : i < 64) :
    Calls Try.prog 140 #[.int .i64 (i : Int)] w fun e w' => e = .returned (.int .u64 (r : Int)) ∧ w = w' := by
  have HR := Lib.hid hr; clear hr
  go_enter Try.func140, Try.ntmps140
  go_wp2
  go_loop [3, 4] (fun y k => ∃ j z : Nat, j ≤ i ∧ k = .int .i64 j ∧ y = .int .u64 (z : Int) ∧ z < 18446744073709551616 ∧ Hid (z = 2 ^ j)) (fun _ k => i - (intOf k).toNat)
  case atStart => exact ⟨0, 1, by omega, rfl, rfl, by omega, Lib.hid rfl⟩
  case round =>
    obtain ⟨j, z, hj, rfl, rfl, hz, hzz⟩ := hrel
    by_cases hlt : j < i
    · have h2 : 2 * z < 18446744073709551616 := by
        have h3 : 2 ^ (j + 1) ≤ 2 ^ 63 := Nat.pow_le_pow_right (by omega) (by omega)
        rw [hzz.out, Nat.mul_comm, ← Nat.pow_succ]; exact Nat.lt_of_le_of_lt h3 (by decide)
      go_wp2
      go_round
      case rel => exact ⟨j + 1, 2 * z, by omega, by go_num, by go_num, by omega, Lib.hid (by rw [hzz.out, Nat.mul_comm, ← Nat.pow_succ])⟩
      case measure => simp [intOf]; omega
    · obtain rfl : j = i := by omega
      go_wp2
      go_ret
      exact ⟨ret_int (by rw [hzz.out, HR.out]), rfl⟩
set_option maxHeartbeats 1000000 in
theorem Value_any (x f n r : Nat) (hr : r = val x f n) (w : World) (hx : x < 18446744073709551616) (hn : f + n ≤ 64) (h63 : n ≤ 63) :
    Calls Try.prog 141 #[.int .u64 (x : Int), .int .i64 (f : Int), .int .i64 (n : Int)] w fun e w' => e = .returned (.int .u64 (r : Int)) ∧ w = w' := by
  have HR := Lib.hid hr; clear hr
  go_enter Try.func141, Try.ntmps141
  go_wp2
  go_loop [7, 8] (fun y k => ∃ j z : Nat, j ≤ n ∧ k = .int .i64 j ∧ y = .int .u64 (z : Int) ∧ z < 18446744073709551616 ∧ Hid (z = val x f j)) (fun _ k => n - (intOf k).toNat)
  case atStart => exact ⟨0, 0, by omega, rfl, rfl, by omega, Lib.hid (val_zero x f).symm⟩
  case round =>
    obtain ⟨j, z, hj, rfl, rfl, hz, hzz⟩ := hrel
    by_cases hlt : j < n
    · have hp : 2 ^ j ≤ 2 ^ 62 := Nat.pow_le_pow_right (by omega) (by omega)
      obtain ⟨p, hpp⟩ : ∃ p : Nat, p = 2 ^ j := ⟨_, rfl⟩
      obtain ⟨b, hb⟩ : ∃ b : Nat, b = x / 2 ^ (f + j) % 2 := ⟨_, rfl⟩
      have hb2 : b < 2 := by rw [hb]; omega
      have hp2 : p ≤ 4611686018427387904 := by rw [hpp]; exact hp
      have hbp : b * p < 4611686018427387905 := by
        have : b = 0 ∨ b = 1 := by omega
        rcases this with rfl | rfl <;> omega
      have hs : val x f (j + 1) = z + b * p := by rw [val_succ, hzz.out, hb, hpp]
      have hz2 : z + b * p < 9223372036854775808 := by
        rw [← hs]
        have h1 := val_lt x f (j + 1)
        have h2 : 2 ^ (j + 1) ≤ 2 ^ 63 := Nat.pow_le_pow_right (by omega) (by omega)
        exact Nat.lt_of_lt_of_le h1 h2
      have HS := Lib.hid hs; have HP := Lib.hid hpp; have HB := Lib.hid hb; clear hs hpp hb hp
      go_wp2_with fail
      rw [show (f : Int) + (j : Int) = ((f + j : Nat) : Int) by omega]
      refine (bit_any x (f + j) b HB.out _ hx (by omega)).mono ?_
      rintro e w' ⟨rfl, rfl⟩
      go_wp2_with fail
      refine (power_any j p HP.out _ (by omega)).mono ?_
      rintro e w' ⟨rfl, rfl⟩
      have hm : (b : Int) * (p : Int) = ((b * p : Nat) : Int) := by simp
      have h0 : (0 : Int) ≤ (b : Int) * (p : Int) := by rw [hm]; omega
      have h1 : (b : Int) * (p : Int) < 4611686018427387905 := by rw [hm]; omega
      have h2 : (z : Int) + (b : Int) * (p : Int) < 9223372036854775808 := by rw [hm]; omega
      have HM := Lib.hid hm; clear hm
      go_wp2
      go_round
      case rel => exact ⟨j + 1, z + b * p, by omega, by go_num, by have := HM.out; go_num, by omega, Lib.hid HS.out.symm⟩
      case measure => simp [intOf]; omega
    · obtain rfl : j = n := by omega
      go_wp2
      go_ret
      exact ⟨ret_int (by rw [hzz.out, HR.out]), rfl⟩
set_option maxHeartbeats 1000000 in
theorem With_any (x f n v r : Nat) (hr : r = wth x f n v) (w : World) (hx : x < 18446744073709551616) (hv : v < 18446744073709551616) (hn : f + n ≤ 64) (h63 : n ≤ 63) :
    Calls Try.prog 111 #[.int .u64 (x : Int), .int .i64 (f : Int), .int .i64 (n : Int), .int .u64 (v : Int)] w fun e w' => e = .returned (.int .u64 (r : Int)) ∧ w = w' := by
  have HR := Lib.hid hr; clear hr
  go_enter Try.func111, Try.ntmps111
  go_wp2
  go_loop [0, 9] (fun y k => ∃ j z : Nat, j ≤ n ∧ k = .int .i64 j ∧ y = .int .u64 (z : Int) ∧ z < 18446744073709551616 ∧ Hid (z = wth x f j v)) (fun _ k => n - (intOf k).toNat)
  case atStart => exact ⟨0, x, by omega, rfl, rfl, hx, Lib.hid (wth_zero x f v).symm⟩
  case round =>
    obtain ⟨j, z, hj, rfl, rfl, hz, hzz⟩ := hrel
    by_cases hlt : j < n
    · have hp : 2 ^ (f + j) ≤ 2 ^ 63 := Nat.pow_le_pow_right (by omega) (by omega)
      obtain ⟨p, hpp⟩ : ∃ p : Nat, p = 2 ^ (f + j) := ⟨_, rfl⟩
      obtain ⟨b, hb⟩ : ∃ b : Nat, b = z / 2 ^ (f + j) % 2 := ⟨_, rfl⟩
      obtain ⟨c, hc⟩ : ∃ c : Nat, c = v / 2 ^ j % 2 := ⟨_, rfl⟩
      have hb2 : b < 2 := by rw [hb]; omega
      have hc2 : c < 2 := by rw [hc]; omega
      have hp2 : p ≤ 9223372036854775808 := by rw [hpp]; exact hp
      have hbp : b * p ≤ 9223372036854775808 := by
        have : b = 0 ∨ b = 1 := by omega
        rcases this with rfl | rfl <;> omega
      have hcp : c * p ≤ 9223372036854775808 := by
        have : c = 0 ∨ c = 1 := by omega
        rcases this with rfl | rfl <;> omega
      have hbz : b * p ≤ z := by rw [hb, hpp, hzz.out, wth_hi]; exact wth_ge x f j v
      have hs : wth x f (j + 1) v = z - b * p + c * p := by rw [wth_succ, hb, hpp, hc, hzz.out, wth_hi]
      have hz2 : z - b * p + c * p < 18446744073709551616 := by
        rw [← hs]
        exact wth_lt (k := j + 1) hx (by omega)
      have HS := Lib.hid hs; have HP := Lib.hid hpp; have HB := Lib.hid hb; have HC := Lib.hid hc; clear hs hpp hb hp hc
      go_wp2_with fail
      rw [show (f : Int) + (j : Int) = ((f + j : Nat) : Int) by omega]
      refine (bit_any z (f + j) b HB.out _ hz (by omega)).mono ?_
      rintro e w' ⟨rfl, rfl⟩
      go_wp2_with fail
      rw [show (f : Int) + (j : Int) = ((f + j : Nat) : Int) by omega]
      refine (power_any (f + j) p HP.out _ (by omega)).mono ?_
      rintro e w' ⟨rfl, rfl⟩
      have hm : (b : Int) * (p : Int) = ((b * p : Nat) : Int) := by simp
      have hm2 : (c : Int) * (p : Int) = ((c * p : Nat) : Int) := by simp
      have h0 : (0 : Int) ≤ (b : Int) * (p : Int) := by rw [hm]; omega
      have h1 : (b : Int) * (p : Int) ≤ (z : Int) := by rw [hm]; omega
      have h3 : (0 : Int) ≤ (c : Int) * (p : Int) := by rw [hm2]; omega
      have h4 : (c : Int) * (p : Int) ≤ 9223372036854775808 := by rw [hm2]; omega
      have h2 : (z : Int) - (b : Int) * (p : Int) + (c : Int) * (p : Int) < 18446744073709551616 := by rw [hm, hm2]; omega
      have HM := Lib.hid hm; clear hm
      have HM2 := Lib.hid hm2; clear hm2
      go_wp2_with fail
      refine (bit_any v j c HC.out _ hv (by omega)).mono ?_
      rintro e w' ⟨rfl, rfl⟩
      go_wp2_with fail
      rw [show (f : Int) + (j : Int) = ((f + j : Nat) : Int) by omega]
      refine (power_any (f + j) p HP.out _ (by omega)).mono ?_
      rintro e w' ⟨rfl, rfl⟩
      go_wp2
      go_round
      case rel => exact ⟨j + 1, z - b * p + c * p, by omega, by go_num, congrArg _ (by have h5 := HM.out; have h6 := HM2.out; omega), by omega, Lib.hid HS.out.symm⟩
      case measure => simp [intOf]; omega
    · obtain rfl : j = n := by omega
      go_wp2
      go_ret
      exact ⟨ret_int (by rw [hzz.out, HR.out]), rfl⟩
end Go.Proofs.Ytbfmdbeeiicabaa
namespace Go.Proofs.Ytbfmdbeeiicabaa
open Go.RowKit L01 L02 L18
def slV (s : Sl) : Value := .agg #[.int .i64 s.gen, .bool s.used, .int .i64 s.at_]
set_option maxHeartbeats 600000 in
theorem right_any (s : Sl) (b : Bool) (hb : b = decide (Right s)) (w : World) : Calls Try.prog 142 #[.agg #[.int .i64 s.gen, .bool s.used, .int .i64 s.at_]] w fun e w' => e = .returned (.bool b) ∧ Below w.heap.size w w' := by
  have HB := Lib.hid hb; clear hb
  obtain ⟨g, u, a⟩ := s
  dsimp only at *
  cases u
  all_goals
    go_enter Try.func142, Try.ntmps142
    go_wp2
    all_goals
      go_ret
      refine ⟨ret_bool ?_, (Below.refl _ _).alloc (Nat.le_refl _) _⟩
      rw [HB.out]
      exact bool_dec (by simp [Right]; try omega)
set_option maxHeartbeats 600000 in
theorem Check18R_any (s : Sl) (r : Int) (hr : r = wordErr s) (w : World) : Calls Try.prog 147 #[.agg #[.int .i64 s.gen, .bool s.used, .int .i64 s.at_]] w fun e w' => e = .returned (.int .i64 r) ∧ Below w.heap.size w w' := by
  have HB := Lib.hid hr; clear hr
  obtain ⟨g, u, a⟩ := s
  dsimp only at *
  cases u
  all_goals
    go_enter Try.func147, Try.ntmps147
    go_wp2
    all_goals
      go_ret
      refine ⟨ret_int ?_, (Below.refl _ _).alloc (Nat.le_refl _) _⟩
      rw [HB.out]
      try simp only [Bool.not_eq_true', Bool.not_eq_false', decide_eq_true_eq, decide_eq_false_iff_not, beq_eq_false_iff_ne, beq_iff_eq, ne_eq] at *
      first
      | exact (if_pos (by simp [Right]; try omega)).symm
      | exact (if_neg (by simp [Right]; try omega)).symm
end Go.Proofs.Ytbfmdbeeiicabaa
namespace Go.Proofs.Ytbfmdbeeiicabaa
open Go.RowKit L01 L02 L18
theorem spl_int (x : UInt64) (s : Sl) (h : s = spl x) : (x.toNat : Int) / 4294967296 % 2147483648 = s.gen ∧ ((x.toNat : Int) / 9223372036854775808 == 1) = s.used ∧ (x.toNat : Int) % 4294967296 = s.at_ := by
  subst h
  refine ⟨?_, ?_, ?_⟩
  · show _ = ((x.toNat / 4294967296 % 2147483648 : Nat) : Int); omega
  · show _ = decide (x.toNat / 9223372036854775808 = 1)
    rw [Bool.eq_iff_iff, beq_iff_eq, decide_eq_true_iff]; omega
  · show _ = ((x.toNat % 4294967296 : Nat) : Int); omega
set_option maxHeartbeats 1000000 in
theorem Split_any (x : UInt64) (w : World) : Calls Try.prog 114 #[.int .u64 x.toNat] w fun e w' => e = .returned (.tuple #[slV (spl0 x), .int .i64 (splErr x)]) ∧ Below w.heap.size w w' := by
  have B : Below w.heap.size w w := Below.refl _ _
  have hxl := toNat_lt x
  obtain ⟨s, hs⟩ : ∃ s, s = spl x := ⟨_, rfl⟩
  obtain ⟨i1, i2, i3⟩ := spl_int x s hs
  have e1 := and_int (a := (x.toNat : Int) / 4294967296) 31 (by omega) (by omega) 2147483647 (by decide) (by omega)
  have e2 := and_int (a := (x.toNat : Int)) 32 (by omega) (by omega) 4294967295 (by decide) (by omega)
  rw [show ((2 ^ 31 : Nat) : Int) = 2147483648 from rfl, i1] at e1
  rw [show ((2 ^ 32 : Nat) : Int) = 4294967296 from rfl, i3] at e2
  have b1 : 0 ≤ s.gen ∧ s.gen ≤ 2147483647 := by omega
  have b3 : 0 ≤ s.at_ ∧ s.at_ ≤ 4294967295 := by omega
  clear i1 i3
  by_cases hr : Right s
  · have k0 : spl0 x = s := by rw [spl0, ← hs, if_pos hr]
    have k1 : splErr x = 0 := by rw [splErr, ← hs, if_pos hr]
    have RT := fun w => right_any s true (decide_eq_true hr).symm w
    rw [k0, k1]
    have RT := Lib.hid RT; clear hs hr k0 k1
    obtain ⟨g, u, a⟩ := s
    dsimp only at *
    obtain ⟨b1, b2⟩ := b1
    obtain ⟨b3, b4⟩ := b3
    unfold slV
    go_enter Try.func114, Try.ntmps114
    go_wp2_with fail
    refine calls_gen (fun Wv => Bx Wv (w.heap.size) (68) (#[.int .i64 0, .bool false, .int .i64 0]) ∧ Bx Wv (w.heap.size + 1) (68) (#[.int .i64 g, .bool u, .int .i64 a]) ∧ Below w.heap.size w Wv) ⟨(((Bx.at_ (by simp)).alloc _)), ((Bx.at_ (by simp))), (((Below.refl _ w).alloc (by simp <;> omega) _).alloc (by simp <;> omega) _)⟩ ?_
    rintro w' ⟨g0, g1, b⟩
    replace B := B.trans (b.mono B.size); clear b
    have c_g0 := g0.cell; have f_g0 := g0.free; have a_g0 := fun o => (g0.alloc o).cell; have d_g0 := fun o o2 => ((g0.alloc o).alloc o2).cell; have e_g0 := fun o => (g0.alloc o).free
    have c_g1 := g1.cell; have f_g1 := g1.free; have a_g1 := fun o => (g1.alloc o).cell; have d_g1 := fun o o2 => ((g1.alloc o).alloc o2).cell; have e_g1 := fun o => (g1.alloc o).free
    go_wp2_with fail
    refine (RT.out _).mono ?_
    rintro e w' ⟨rfl, b⟩
    try clear c_g0 f_g0 a_g0 d_g0 e_g0
    replace g0 := g0.below b; have c_g0 := g0.cell; have f_g0 := g0.free; have a_g0 := fun o => (g0.alloc o).cell; have d_g0 := fun o o2 => ((g0.alloc o).alloc o2).cell; have e_g0 := fun o => (g0.alloc o).free; try clear c_g1 f_g1 a_g1 d_g1 e_g1
    replace g1 := g1.below b; have c_g1 := g1.cell; have f_g1 := g1.free; have a_g1 := fun o => (g1.alloc o).cell; have d_g1 := fun o o2 => ((g1.alloc o).alloc o2).cell; have e_g1 := fun o => (g1.alloc o).free; replace B := B.trans (b.mono B.size); clear b
    go_wp2
    refine bodyPost_ret (v := .tuple #[.agg #[.int .i64 g, .bool u, .int .i64 a], .int .i64 0]) (by simp [results, Try.results114, go_sem, c_g0, f_g0, a_g0, e_g0, c_g1, f_g1, a_g1, e_g1]) rfl ?_
    refine ⟨rfl, ?_⟩
    (repeat (first | refine Below.setCell ?_ (by first | exact Nat.le_refl _ | (simp <;> omega)) _ | refine Below.alloc ?_ (by first | exact B.size | (have := B.size; simp <;> omega)) _)); exact B
  · have k0 : spl0 x = .none := by rw [spl0, ← hs, if_neg hr]
    have k1 : splErr x = 50 := by rw [splErr, ← hs, if_neg hr]
    have RT := fun w => right_any s false (decide_eq_false hr).symm w
    rw [k0, k1]
    have RT := Lib.hid RT; clear hs hr k0 k1
    obtain ⟨g, u, a⟩ := s
    dsimp only at *
    obtain ⟨b1, b2⟩ := b1
    obtain ⟨b3, b4⟩ := b3
    unfold slV Sl.none
    dsimp only
    go_enter Try.func114, Try.ntmps114
    go_wp2_with fail
    refine calls_gen (fun Wv => Bx Wv (w.heap.size) (68) (#[.int .i64 0, .bool false, .int .i64 0]) ∧ Bx Wv (w.heap.size + 1) (68) (#[.int .i64 g, .bool u, .int .i64 a]) ∧ Below w.heap.size w Wv) ⟨(((Bx.at_ (by simp)).alloc _)), ((Bx.at_ (by simp))), (((Below.refl _ w).alloc (by simp <;> omega) _).alloc (by simp <;> omega) _)⟩ ?_
    rintro w' ⟨g0, g1, b⟩
    replace B := B.trans (b.mono B.size); clear b
    have c_g0 := g0.cell; have f_g0 := g0.free; have a_g0 := fun o => (g0.alloc o).cell; have d_g0 := fun o o2 => ((g0.alloc o).alloc o2).cell; have e_g0 := fun o => (g0.alloc o).free
    have c_g1 := g1.cell; have f_g1 := g1.free; have a_g1 := fun o => (g1.alloc o).cell; have d_g1 := fun o o2 => ((g1.alloc o).alloc o2).cell; have e_g1 := fun o => (g1.alloc o).free
    go_wp2_with fail
    refine (RT.out _).mono ?_
    rintro e w' ⟨rfl, b⟩
    try clear c_g0 f_g0 a_g0 d_g0 e_g0
    replace g0 := g0.below b; have c_g0 := g0.cell; have f_g0 := g0.free; have a_g0 := fun o => (g0.alloc o).cell; have d_g0 := fun o o2 => ((g0.alloc o).alloc o2).cell; have e_g0 := fun o => (g0.alloc o).free; try clear c_g1 f_g1 a_g1 d_g1 e_g1
    replace g1 := g1.below b; have c_g1 := g1.cell; have f_g1 := g1.free; have a_g1 := fun o => (g1.alloc o).cell; have d_g1 := fun o o2 => ((g1.alloc o).alloc o2).cell; have e_g1 := fun o => (g1.alloc o).free; replace B := B.trans (b.mono B.size); clear b
    go_wp2
    refine bodyPost_ret (v := .tuple #[.agg #[.int .i64 0, .bool false, .int .i64 0], .int .i64 50]) (by simp [results, Try.results114, go_sem, c_g0, f_g0, a_g0, e_g0, c_g1, f_g1, a_g1, e_g1]) rfl ?_
    refine ⟨rfl, ?_⟩
    (repeat (first | refine Below.setCell ?_ (by first | exact Nat.le_refl _ | (simp <;> omega)) _ | refine Below.alloc ?_ (by first | exact B.size | (have := B.size; simp <;> omega)) _)); exact B
theorem val_gen (x : UInt64) (s : Sl) (h : s = spl x) : ∃ G A : Nat, s.gen = G ∧ s.at_ = A ∧ G = val x.toNat 32 31 ∧ A = val x.toNat 0 32 ∧ (s.used = true ↔ 1 = val x.toNat 63 1) ∧ G ≤ 2147483647 ∧ A ≤ 4294967295 ∧ (val x.toNat 63 1 < 2) := by
  have hl := toNat_lt x
  subst h
  refine ⟨x.toNat / 4294967296 % 2147483648, x.toNat % 4294967296, rfl, rfl, rfl, ?_, ?_, by omega, by omega, ?_⟩
  · unfold val; simp
  · show decide (x.toNat / 9223372036854775808 = 1) = true ↔ _
    unfold val
    rw [decide_eq_true_iff]; simp only [show (2 : Nat) ^ 63 = 9223372036854775808 from rfl, show (2 : Nat) ^ 1 = 2 from rfl]; omega
  · unfold val; simp only [show (2 : Nat) ^ 1 = 2 from rfl]; omega
set_option maxHeartbeats 1000000 in
theorem SplitR_any (x : UInt64) (w : World) : Calls Try.prog 128 #[.int .u64 x.toNat] w fun e w' => e = .returned (.tuple #[slV (spl0 x), .int .i64 (splErr x)]) ∧ Below w.heap.size w w' := by
  have B : Below w.heap.size w w := Below.refl _ _
  have hxl := toNat_lt x
  obtain ⟨s, hs⟩ : ∃ s, s = spl x := ⟨_, rfl⟩
  obtain ⟨G, A, q1, q2, q3, q4, q5, q6, q7, q8⟩ := val_gen x s hs
  obtain ⟨U, hU⟩ : ∃ U, U = val x.toNat 63 1 := ⟨_, rfl⟩
  rw [← hU] at q5 q8
  have V1 := Value_any x.toNat 32 31 G q3
  have V2 := Value_any x.toNat 63 1 U hU
  have V3 := Value_any x.toNat 0 32 A q4
  have V1 := Lib.hid V1; have V2 := Lib.hid V2; have V3 := Lib.hid V3; clear q3 q4 hU
  obtain ⟨r, hrr⟩ : ∃ r, r = wordErr s := ⟨_, rfl⟩
  have CT := fun w => Check18R_any s r hrr w
  have CT := Lib.hid CT
  obtain ⟨g, u, a⟩ := s
  dsimp only at q1 q2 q5 CT
  subst q1 q2
  have hu : ((U : Int) == 1) = u := by
    rw [Bool.eq_iff_iff, q5, beq_iff_eq]; omega
  by_cases hr : Right ⟨G, u, A⟩
  · have k0 : spl0 x = ⟨G, u, A⟩ := by rw [spl0, ← hs, if_pos hr]
    have k1 : splErr x = 0 := by rw [splErr, ← hs, if_pos hr]
    have k2 : r = 0 := by rw [hrr]; exact if_pos hr
    rw [k0, k1]
    clear hs hr k0 k1 hrr q5
    subst k2
    unfold slV
    dsimp only
    go_enter Try.func128, Try.ntmps128
    go_wp2_with fail
    refine (V1.out _ (by omega) (by omega) (by omega)).mono ?_
    rintro e w' ⟨rfl, rfl⟩
    go_wp2_with fail
    refine (V2.out _ (by omega) (by omega) (by omega)).mono ?_
    rintro e w' ⟨rfl, rfl⟩
    go_wp2_with fail
    refine (V3.out _ (by omega) (by omega) (by omega)).mono ?_
    rintro e w' ⟨rfl, rfl⟩
    go_wp2_with fail
    refine calls_gen (fun Wv => Bx Wv (w.heap.size) (68) (#[.int .i64 0, .bool false, .int .i64 0]) ∧ Bx Wv (w.heap.size + 1) (68) (#[.int .i64 G, .bool u, .int .i64 A]) ∧ Below w.heap.size w Wv) ⟨(((Bx.at_ (by simp)).alloc _)), ((Bx.at_ (by simp))), (((Below.refl _ w).alloc (by simp <;> omega) _).alloc (by simp <;> omega) _)⟩ ?_
    rintro w' ⟨g0, g1, b⟩
    replace B := B.trans (b.mono B.size); clear b
    have c_g0 := g0.cell; have f_g0 := g0.free; have a_g0 := fun o => (g0.alloc o).cell; have d_g0 := fun o o2 => ((g0.alloc o).alloc o2).cell; have e_g0 := fun o => (g0.alloc o).free
    have c_g1 := g1.cell; have f_g1 := g1.free; have a_g1 := fun o => (g1.alloc o).cell; have d_g1 := fun o o2 => ((g1.alloc o).alloc o2).cell; have e_g1 := fun o => (g1.alloc o).free
    go_wp2_with fail
    refine (CT.out _).mono ?_
    rintro e w' ⟨rfl, b⟩
    try clear c_g0 f_g0 a_g0 d_g0 e_g0
    replace g0 := g0.below b; have c_g0 := g0.cell; have f_g0 := g0.free; have a_g0 := fun o => (g0.alloc o).cell; have d_g0 := fun o o2 => ((g0.alloc o).alloc o2).cell; have e_g0 := fun o => (g0.alloc o).free; try clear c_g1 f_g1 a_g1 d_g1 e_g1
    replace g1 := g1.below b; have c_g1 := g1.cell; have f_g1 := g1.free; have a_g1 := fun o => (g1.alloc o).cell; have d_g1 := fun o o2 => ((g1.alloc o).alloc o2).cell; have e_g1 := fun o => (g1.alloc o).free; replace B := B.trans (b.mono B.size); clear b
    go_wp2
    refine bodyPost_ret (v := .tuple #[.agg #[.int .i64 G, .bool u, .int .i64 A], .int .i64 0]) (by simp [results, Try.results128, go_sem, c_g0, f_g0, a_g0, e_g0, c_g1, f_g1, a_g1, e_g1]) rfl ?_
    refine ⟨rfl, ?_⟩
    (repeat (first | refine Below.setCell ?_ (by first | exact Nat.le_refl _ | (simp <;> omega)) _ | refine Below.alloc ?_ (by first | exact B.size | (have := B.size; simp <;> omega)) _)); exact B
  · have k0 : spl0 x = .none := by rw [spl0, ← hs, if_neg hr]
    have k1 : splErr x = 50 := by rw [splErr, ← hs, if_neg hr]
    have k2 : r = 8 := by rw [hrr]; exact if_neg hr
    rw [k0, k1]
    clear hs hr k0 k1 hrr q5
    subst k2
    unfold slV Sl.none
    dsimp only
    go_enter Try.func128, Try.ntmps128
    go_wp2_with fail
    refine (V1.out _ (by omega) (by omega) (by omega)).mono ?_
    rintro e w' ⟨rfl, rfl⟩
    go_wp2_with fail
    refine (V2.out _ (by omega) (by omega) (by omega)).mono ?_
    rintro e w' ⟨rfl, rfl⟩
    go_wp2_with fail
    refine (V3.out _ (by omega) (by omega) (by omega)).mono ?_
    rintro e w' ⟨rfl, rfl⟩
    go_wp2_with fail
    refine calls_gen (fun Wv => Bx Wv (w.heap.size) (68) (#[.int .i64 0, .bool false, .int .i64 0]) ∧ Bx Wv (w.heap.size + 1) (68) (#[.int .i64 G, .bool u, .int .i64 A]) ∧ Below w.heap.size w Wv) ⟨(((Bx.at_ (by simp)).alloc _)), ((Bx.at_ (by simp))), (((Below.refl _ w).alloc (by simp <;> omega) _).alloc (by simp <;> omega) _)⟩ ?_
    rintro w' ⟨g0, g1, b⟩
    replace B := B.trans (b.mono B.size); clear b
    have c_g0 := g0.cell; have f_g0 := g0.free; have a_g0 := fun o => (g0.alloc o).cell; have d_g0 := fun o o2 => ((g0.alloc o).alloc o2).cell; have e_g0 := fun o => (g0.alloc o).free
    have c_g1 := g1.cell; have f_g1 := g1.free; have a_g1 := fun o => (g1.alloc o).cell; have d_g1 := fun o o2 => ((g1.alloc o).alloc o2).cell; have e_g1 := fun o => (g1.alloc o).free
    go_wp2_with fail
    refine (CT.out _).mono ?_
    rintro e w' ⟨rfl, b⟩
    try clear c_g0 f_g0 a_g0 d_g0 e_g0
    replace g0 := g0.below b; have c_g0 := g0.cell; have f_g0 := g0.free; have a_g0 := fun o => (g0.alloc o).cell; have d_g0 := fun o o2 => ((g0.alloc o).alloc o2).cell; have e_g0 := fun o => (g0.alloc o).free; try clear c_g1 f_g1 a_g1 d_g1 e_g1
    replace g1 := g1.below b; have c_g1 := g1.cell; have f_g1 := g1.free; have a_g1 := fun o => (g1.alloc o).cell; have d_g1 := fun o o2 => ((g1.alloc o).alloc o2).cell; have e_g1 := fun o => (g1.alloc o).free; replace B := B.trans (b.mono B.size); clear b
    go_wp2
    refine bodyPost_ret (v := .tuple #[.agg #[.int .i64 0, .bool false, .int .i64 0], .int .i64 50]) (by simp [results, Try.results128, go_sem, c_g0, f_g0, a_g0, e_g0, c_g1, f_g1, a_g1, e_g1]) rfl ?_
    refine ⟨rfl, ?_⟩
    (repeat (first | refine Below.setCell ?_ (by first | exact Nat.le_refl _ | (simp <;> omega)) _ | refine Below.alloc ?_ (by first | exact B.size | (have := B.size; simp <;> omega)) _)); exact B
theorem Split_r (x : UInt64) (s : Sl) (r : Int) (hx : s = spl0 x) (hr : r = splErr x) (w : World) : Calls Try.prog 114 #[.int .u64 x.toNat] w fun e w' => e = .returned (.tuple #[.agg #[.int .i64 s.gen, .bool s.used, .int .i64 s.at_], .int .i64 r]) ∧ Below w.heap.size w w' := by
  subst hx hr; exact Split_any x w
theorem SplitR_r (x : UInt64) (s : Sl) (r : Int) (hx : s = spl0 x) (hr : r = splErr x) (w : World) : Calls Try.prog 128 #[.int .u64 x.toNat] w fun e w' => e = .returned (.tuple #[.agg #[.int .i64 s.gen, .bool s.used, .int .i64 s.at_], .int .i64 r]) ∧ Below w.heap.size w w' := by
  subst hx hr; exact SplitR_any x w
theorem slot_neq (s t : Sl) (b : Bool) (hb : b = !decide (s = t)) (W : World) : (binOp .neq 68 (.agg #[.int .i64 s.gen, .bool s.used, .int .i64 s.at_]) (.agg #[.int .i64 t.gen, .bool t.used, .int .i64 t.at_])).run Try.prog W = .ok (.bool b) W := by
  subst hb
  obtain ⟨g, u, a⟩ := s
  obtain ⟨g', u', a'⟩ := t
  have e : decide ((⟨g, u, a⟩ : Sl) = ⟨g', u', a'⟩) = (g == g' && (u == u' && a == a')) := by
    rw [Bool.eq_iff_iff]; simp
  rw [e]
  cases h : (g == g') <;> cases h2 : (u == u') <;> cases h3 : (a == a') <;> simp [go_sem, h, h2, h3]
end Go.Proofs.Ytbfmdbeeiicabaa
namespace Go.Proofs.Ytbfmdbeeiicabaa
open Go.RowKit L01 L02 L18
def slC (s : Sl) : List Value := [.int .i64 s.gen, .bool s.used, .int .i64 s.at_]
def tabL (L : List Sl) : List Value := L.flatMap slC
def tab (L : List Sl) : Array Value := (tabL L).toArray
def tabOf (l : List UInt64) : List Sl := if openErr l = 0 then slots l else List.replicate 16 .none
theorem tabL_len (L : List Sl) : (tabL L).length = L.length * 3 := by
  induction L with
  | nil => rfl
  | cons s L ih => rw [tabL, List.flatMap_cons, List.length_append, ← tabL, ih]; simp [slC]; omega
theorem tabL_get : ∀ (L : List Sl) (k : Nat) (s : Sl), L[k]? = some s → ∀ i, i < 3 → (tabL L)[k * 3 + i]? = (slC s)[i]?
  | [], _, _, h, _, _ => by cases h
  | t :: L, 0, s, h, i, hi => by
    simp at h; subst h
    rw [tabL, List.flatMap_cons, Nat.zero_mul, Nat.zero_add, List.getElem?_append_left (by simpa [slC] using hi)]
  | t :: L, k + 1, s, h, i, hi => by
    rw [tabL, List.flatMap_cons, List.getElem?_append_right (by simp [slC]; omega)]
    rw [show (k + 1) * 3 + i - (slC t).length = k * 3 + i by simp [slC]; omega]
    exact tabL_get L k s (by simpa using h) i hi
theorem tabL_one (L : List Sl) : ∀ u ∈ tabL L, u.oneCell' = true := by
  intro u hu
  obtain ⟨s, _, hs⟩ := List.mem_flatMap.1 hu
  simp [slC] at hs
  rcases hs with rfl | rfl | rfl <;> rfl
theorem tab_size (L : List Sl) : (tab L).size = L.length * 3 := by simp [tab, tabL_len]
theorem ws_len {l : List UInt64} (h : SizeOk l.length) : (ws l).length = 16 := by
  have := h.1; simp [ws]; omega
theorem ws_get {l : List UInt64} {k : Nat} {x : UInt64} (hk : k < 16) (h : l[112 + k]? = some x) : (ws l)[k]? = some x := by
  rw [ws, List.getElem?_take, if_pos hk, List.getElem?_drop]; exact h
theorem slots_len {l : List UInt64} (h : SizeOk l.length) : (slots l).length = 16 := by rw [slots, List.length_map, ws_len h]
theorem tabOf_len (l : List UInt64) : (tabOf l).length = 16 := by
  unfold tabOf
  split
  · rename_i h
    unfold openErr at h
    split at h
    · exact slots_len ‹_›
    · omega
  · simp
theorem tabOf_size (l : List UInt64) : (tab (tabOf l)).size = 48 := by rw [tab_size, tabOf_len]
theorem size_table : (Try.prog.info? 127).map (·.size) = some 48 := by kernel_rfl
theorem size_slot : (Try.prog.info? 68).map (·.size) = some 3 := by kernel_rfl
theorem z48_one : (#[.int .i64 0, .bool false, .int .i64 0, .int .i64 0, .bool false, .int .i64 0, .int .i64 0, .bool false, .int .i64 0, .int .i64 0, .bool false, .int .i64 0, .int .i64 0, .bool false, .int .i64 0, .int .i64 0, .bool false, .int .i64 0, .int .i64 0, .bool false, .int .i64 0, .int .i64 0, .bool false, .int .i64 0, .int .i64 0, .bool false, .int .i64 0, .int .i64 0, .bool false, .int .i64 0, .int .i64 0, .bool false, .int .i64 0, .int .i64 0, .bool false, .int .i64 0, .int .i64 0, .bool false, .int .i64 0, .int .i64 0, .bool false, .int .i64 0, .int .i64 0, .bool false, .int .i64 0, .int .i64 0, .bool false, .int .i64 0] : Array Value).all (·.oneCell') = true := by simp [Value.oneCell']
theorem slot_one (s : Sl) : (#[.int .i64 s.gen, .bool s.used, .int .i64 s.at_] : Array Value).all (·.oneCell') = true := by simp [Value.oneCell']
/-- the cells cs have the first k slots of S -/
def TabTo (S : List Sl) (k : Nat) (cs : Array Value) : Prop := cs.size = 48 ∧ ∀ j, j < k * 3 → cs[j]? = (tabL S)[j]?
theorem TabTo.zero (S : List Sl) {cs : Array Value} (h : cs.size = 48) : TabTo S 0 cs := ⟨h, fun j hj => by omega⟩
theorem TabTo.succ {S : List Sl} {k : Nat} {cs : Array Value} {s : Sl} (h : TabTo S k cs) (hs : S[k]? = some s) (hk : k < 16) : TabTo S (k + 1) (putL cs (k * 3) (slC s)) := by
  refine ⟨by rw [putL_size]; exact h.1, fun j hj => ?_⟩
  rw [putL_get _ _ _ _ (by rw [h.1]; simp [slC]; omega)]
  by_cases h1 : k * 3 ≤ j
  · rw [if_pos ⟨h1, by simp [slC]; omega⟩]
    have := tabL_get S k s hs (j - k * 3) (by omega)
    rw [show k * 3 + (j - k * 3) = j by omega] at this
    exact this.symm
  · rw [if_neg (by omega)]
    exact h.2 j (by omega)
theorem TabTo.done {S : List Sl} {cs : Array Value} (h : TabTo S 16 cs) (hS : S.length = 16) : cs = tab S := by
  apply Array.ext_getElem?
  intro j
  by_cases hj : j < 48
  · rw [h.2 j hj]; simp [tab]
  · rw [Array.getElem?_eq_none (by rw [h.1]; omega), Array.getElem?_eq_none (by rw [tab_size, hS]; omega)]
theorem openErr_of {l : List UInt64} (h : SizeOk l.length) (h2 : ∀ x ∈ (ws l).take 16, Right (spl x)) : openErr l = 0 := by
  rw [openErr, if_pos h, if_pos]
  intro x hx
  exact h2 x (by rw [List.take_of_length_le (by rw [ws_len h]; omega)]; exact hx)
theorem openErr_no {l : List UInt64} (h : SizeOk l.length) {k : Nat} {x : UInt64} (hx : (ws l)[k]? = some x) (hn : ¬ Right (spl x)) : openErr l = 50 := by
  rw [openErr, if_pos h, if_neg]
  intro hall
  exact hn (hall x (List.mem_of_getElem? hx))
theorem right_take {l : List UInt64} {k : Nat} {x : UInt64} (h : ∀ y ∈ (ws l).take k, Right (spl y)) (hx : (ws l)[k]? = some x) (hr : Right (spl x)) : ∀ y ∈ (ws l).take (k + 1), Right (spl y) := by
  intro y hy
  rw [List.take_add_one, hx] at hy
  rcases List.mem_append.1 hy with hy | hy
  · exact h y hy
  · simp at hy; subst hy; exact hr
theorem tabNo (l : List UInt64) (h : openErr l ≠ 0) : tab (tabOf l) = #[.int .i64 0, .bool false, .int .i64 0, .int .i64 0, .bool false, .int .i64 0, .int .i64 0, .bool false, .int .i64 0, .int .i64 0, .bool false, .int .i64 0, .int .i64 0, .bool false, .int .i64 0, .int .i64 0, .bool false, .int .i64 0, .int .i64 0, .bool false, .int .i64 0, .int .i64 0, .bool false, .int .i64 0, .int .i64 0, .bool false, .int .i64 0, .int .i64 0, .bool false, .int .i64 0, .int .i64 0, .bool false, .int .i64 0, .int .i64 0, .bool false, .int .i64 0, .int .i64 0, .bool false, .int .i64 0, .int .i64 0, .bool false, .int .i64 0, .int .i64 0, .bool false, .int .i64 0, .int .i64 0, .bool false, .int .i64 0] := by rw [tabOf, if_neg h]; rfl
set_option maxRecDepth 100000 in
set_option maxHeartbeats 2000000 in
theorem open_any (v : Value) (l : List UInt64) (V : Array Value) (hV : V = tab (tabOf l)) (r : Int) (hr : r = openErr l) (w : World) (h : Words w v l) :
    Calls Try.prog 76 #[v] w fun e w' => e = .returned (.tuple #[.agg V, .int .i64 r]) ∧ Below w.heap.size w w' := by
  have B : Below w.heap.size w w := Below.refl _ _
  have HV := Lib.hid hV; have HR := Lib.hid hr; clear hV hr
  have CT := fun w h => Check_any v l w h
  by_cases hs : SizeOk l.length
  · rw [chk_ok hs] at CT
    have HC := Lib.hid CT; have H := Lib.hid h; have HS := Lib.hid hs
    have hlen := hs.1
    clear h hs CT
    go_enter Try.func76, Try.ntmps76
    go_wp2_with fail
    refine calls_gen (fun Wv => Bx Wv (w.heap.size) (127) (#[.int .i64 0, .bool false, .int .i64 0, .int .i64 0, .bool false, .int .i64 0, .int .i64 0, .bool false, .int .i64 0, .int .i64 0, .bool false, .int .i64 0, .int .i64 0, .bool false, .int .i64 0, .int .i64 0, .bool false, .int .i64 0, .int .i64 0, .bool false, .int .i64 0, .int .i64 0, .bool false, .int .i64 0, .int .i64 0, .bool false, .int .i64 0, .int .i64 0, .bool false, .int .i64 0, .int .i64 0, .bool false, .int .i64 0, .int .i64 0, .bool false, .int .i64 0, .int .i64 0, .bool false, .int .i64 0, .int .i64 0, .bool false, .int .i64 0, .int .i64 0, .bool false, .int .i64 0, .int .i64 0, .bool false, .int .i64 0]) ∧ Below w.heap.size w Wv) ⟨((Bx.at_ (by simp))), ((Below.refl _ w).alloc (by simp <;> omega) _)⟩ ?_
    rintro w' ⟨q0, b⟩
    replace B := B.trans (b.mono B.size); clear b
    have hz1 : w.heap.size < w'.heap.size := q0.lt
    obtain ⟨w1, hw1⟩ : ∃ w1, w1 = w' := ⟨_, rfl⟩
    subst hw1
    refine (HC.out _ (H.out.below B)).mono ?_
    rintro e w2 ⟨rfl, rfl⟩
    go_wp2
    refine wp_gen (fun Wv => Bx Wv (w1.heap.size) (127) (#[.int .i64 0, .bool false, .int .i64 0, .int .i64 0, .bool false, .int .i64 0, .int .i64 0, .bool false, .int .i64 0, .int .i64 0, .bool false, .int .i64 0, .int .i64 0, .bool false, .int .i64 0, .int .i64 0, .bool false, .int .i64 0, .int .i64 0, .bool false, .int .i64 0, .int .i64 0, .bool false, .int .i64 0, .int .i64 0, .bool false, .int .i64 0, .int .i64 0, .bool false, .int .i64 0, .int .i64 0, .bool false, .int .i64 0, .int .i64 0, .bool false, .int .i64 0, .int .i64 0, .bool false, .int .i64 0, .int .i64 0, .bool false, .int .i64 0, .int .i64 0, .bool false, .int .i64 0, .int .i64 0, .bool false, .int .i64 0]) ∧ Below w1.heap.size w1 Wv) ⟨((Bx.at_ (by simp))), ((Below.refl _ w1).alloc (by simp <;> omega) _)⟩ ?_
    rintro w' ⟨q1, b⟩
    replace q0 := q0.below b; replace B := B.trans (b.mono B.size); clear b
    have hq : w1.heap.size ≠ w.heap.size := by have := hz1; omega
    obtain ⟨S, hS⟩ : ∃ S, S = slots l := ⟨_, rfl⟩
    have HSS := Lib.hid hS; clear hS
    have HB := Lib.hid B; have HG := Lib.hid (And.intro q0 q1); clear B q0 q1
    go_loopw [15] (fun i wr => ∃ k : Nat, k ≤ 16 ∧ i = .int .i64 k ∧ Hid (Bx wr w.heap.size 127 #[.int .i64 0, .bool false, .int .i64 0, .int .i64 0, .bool false, .int .i64 0, .int .i64 0, .bool false, .int .i64 0, .int .i64 0, .bool false, .int .i64 0, .int .i64 0, .bool false, .int .i64 0, .int .i64 0, .bool false, .int .i64 0, .int .i64 0, .bool false, .int .i64 0, .int .i64 0, .bool false, .int .i64 0, .int .i64 0, .bool false, .int .i64 0, .int .i64 0, .bool false, .int .i64 0, .int .i64 0, .bool false, .int .i64 0, .int .i64 0, .bool false, .int .i64 0, .int .i64 0, .bool false, .int .i64 0, .int .i64 0, .bool false, .int .i64 0, .int .i64 0, .bool false, .int .i64 0, .int .i64 0, .bool false, .int .i64 0] ∧ (∃ cs, Bx wr w1.heap.size 127 cs ∧ TabTo S k cs) ∧ ∀ x ∈ (ws l).take k, Right (spl x)) ∧ Below w.heap.size w wr) (fun i _ => 16 - (intOf i).toNat)
    case atStart => exact ⟨0, by omega, rfl, Lib.hid ⟨HG.out.1, ⟨_, HG.out.2, TabTo.zero _ rfl⟩, by simp⟩, HB.out⟩
    case round =>
      obtain ⟨k, hk, rfl, hh, B⟩ := hrel
      by_cases hlt : k < 16
      · obtain ⟨ad, x, ia, ca, hx⟩ := (H.out.below B).atI Try.underlying22 one_u64 (k := 112 + (k : Int)) (by omega) (by omega)
        have hx' : (ws l)[k]? = some x := ws_get hlt (by have := hx.out; rwa [show (112 + (k : Int)).toNat = 112 + k by omega] at this)
        have HX := Lib.hid hx'; clear hx hx'
        by_cases hr : Right (spl x)
        · have SP := Split_r x (spl x) 0 (by rw [spl0, if_pos hr]) (by rw [splErr, if_pos hr])
          obtain ⟨s, hs⟩ : ∃ s, s = spl x := ⟨_, rfl⟩
          rw [← hs] at SP
          have HSP := Lib.hid SP; have HRR := Lib.hid hr; have HSX := Lib.hid hs; clear SP hr hs
          go_wp2_with fail
          refine (HSP.out _).mono ?_
          rintro e w2 ⟨rfl, b⟩
          obtain ⟨gg0, ⟨cs, gg1, ht⟩, hright⟩ := hh.out
          have b0 := gg0.below b; have b1 := gg1.below b; replace B := B.trans (b.mono B.size)
          clear b gg0 gg1
          have HT := Lib.hid ht; have HRT := Lib.hid hright; have hcs : k * 3 + 3 ≤ cs.size := by rw [ht.1]; omega
          clear ht hright
          go_wp2_with ((with_reducible refine at_store 68 33 32 ?_); refine wpList_storePart rfl _ _ _ rfl _ _ _ rfl rfl (b1.alloc _) size_slot (by simpa using hcs) (slot_one _) ?_; intro W c1 S1)
          have hgS : S[k]? = some s := by rw [HSS.out, slots, List.getElem?_map, HX.out, HSX.out]; rfl
          have HGS := Lib.hid hgS; have HC1 := Lib.hid c1; have HS1 := Lib.hid S1; have HB0 := Lib.hid b0; have HB := Lib.hid B
          clear hgS c1 S1 b0 B b1 hcs hh
          go_roundw
          case rel =>
            refine ⟨k + 1, by omega, by go_num, Lib.hid ⟨HS1.out.2 (by omega) (HB0.out.alloc _), ⟨_, HC1.out, ?_⟩, right_take HRT.out HX.out HRR.out⟩, HS1.out.1 (HB.out.alloc HB.out.size _) (by omega)⟩
            have := HT.out.succ HGS.out hlt
            exact this
          case measure => simp [intOf]; omega
        · have SP := Split_r x .none 50 (by rw [spl0, if_neg hr]) (by rw [splErr, if_neg hr])
          have he := openErr_no HS.out HX.out hr
          have hz := tabNo l (by rw [he]; omega)
          have HSP := Lib.hid SP; have HE := Lib.hid he; have HZ := Lib.hid hz; clear SP hr he hz
          go_wp2_with fail
          refine (HSP.out _).mono ?_
          rintro e w2 ⟨rfl, b⟩
          obtain ⟨gg0, ⟨cs, gg1, ht⟩, hright⟩ := hh.out
          have b0 := gg0.below b; replace B := B.trans (b.mono B.size)
          clear b gg0 gg1 ht hright hh
          go_wp2_with ((with_reducible refine at_store 127 2 29 ?_); refine wpList_storeRow rfl _ _ _ rfl _ _ rfl rfl (b0.alloc _) size_table rfl z48_one ?_; intro W g0 S0)
          refine bodyPost_ret (results_row rfl _ rfl g0 _ Try.underlying127 rfl size_table) rfl ⟨?_, S0.1 (B.alloc B.size _) (Nat.le_refl _)⟩
          rw [HV.out, HZ.out, HR.out, HE.out]; rfl
      · obtain rfl : k = 16 := by omega
        obtain ⟨gg0, ⟨cs, gg1, ht⟩, hright⟩ := hh.out
        have he := openErr_of HS.out hright
        have hcs := ht.done (by rw [HSS.out]; exact slots_len HS.out)
        have hV : V = cs := by rw [HV.out, tabOf, if_pos he, ← HSS.out, hcs]
        subst hV
        have hsz : V.size = 48 := ht.1
        have h1 : V.all (·.oneCell') = true := by rw [hcs]; exact all_oneCell_toArray (tabL_one S)
        have HCS := Lib.hid hcs; have HE := Lib.hid he; clear hcs he hright ht hh
        have HSZ := Lib.hid hsz; have H1 := Lib.hid h1; clear hsz h1
        go_wp2_with (first
          | ((with_reducible refine at_load 35 127 5 ?_); refine wpList_loadRow rfl _ _ rfl _ rfl gg1 _ Try.underlying127 rfl (by rw [HSZ.out]; exact size_table) ?_)
          | ((with_reducible refine at_store 127 2 35 ?_); refine wpList_storeRow rfl _ _ _ rfl _ _ rfl rfl gg0 (by rw [HSZ.out]; exact size_table) (by rw [HSZ.out]; rfl) H1.out ?_; intro W g0 S0))
        refine bodyPost_ret (results_row rfl _ rfl g0 _ Try.underlying127 rfl (by rw [HSZ.out]; exact size_table)) rfl ⟨?_, S0.1 B (Nat.le_refl _)⟩
        rw [HR.out, HE.out]; rfl
  · have hr8 : openErr l = 8 := by rw [openErr, if_neg hs]
    have hz := tabNo l (by rw [hr8]; omega)
    rw [chk_no hs] at CT
    have HZ := Lib.hid hz; have HR8 := Lib.hid hr8
    have HC := Lib.hid CT; have H := Lib.hid h; clear h hs hz hr8 CT
    go_enter Try.func76, Try.ntmps76
    go_wp2_with fail
    refine calls_gen (fun Wv => Bx Wv (w.heap.size) (127) (#[.int .i64 0, .bool false, .int .i64 0, .int .i64 0, .bool false, .int .i64 0, .int .i64 0, .bool false, .int .i64 0, .int .i64 0, .bool false, .int .i64 0, .int .i64 0, .bool false, .int .i64 0, .int .i64 0, .bool false, .int .i64 0, .int .i64 0, .bool false, .int .i64 0, .int .i64 0, .bool false, .int .i64 0, .int .i64 0, .bool false, .int .i64 0, .int .i64 0, .bool false, .int .i64 0, .int .i64 0, .bool false, .int .i64 0, .int .i64 0, .bool false, .int .i64 0, .int .i64 0, .bool false, .int .i64 0, .int .i64 0, .bool false, .int .i64 0, .int .i64 0, .bool false, .int .i64 0, .int .i64 0, .bool false, .int .i64 0]) ∧ Below w.heap.size w Wv) ⟨((Bx.at_ (by simp))), ((Below.refl _ w).alloc (by simp <;> omega) _)⟩ ?_
    rintro w' ⟨q0, b⟩
    replace B := B.trans (b.mono B.size); clear b
    refine (HC.out _ (H.out.below B)).mono ?_
    rintro e w1 ⟨rfl, rfl⟩
    go_wp2_with ((with_reducible refine at_store 127 2 13 ?_); refine wpList_storeRow rfl _ _ _ rfl _ _ rfl rfl q0 size_table rfl z48_one ?_; intro W g0 S0)
    refine bodyPost_ret (results_row rfl _ rfl g0 _ Try.underlying127 rfl size_table) rfl ⟨?_, S0.1 B (Nat.le_refl _)⟩
    rw [HV.out, HZ.out, HR.out, HR8.out]; rfl
end Go.Proofs.Ytbfmdbeeiicabaa
namespace Go.Proofs.Ytbfmdbeeiicabaa
open Go.RowKit L01 L02 L18
theorem tab_one (L : List Sl) : (tab L).all (·.oneCell') = true := all_oneCell_toArray (tabL_one L)
/-- A slice of slots. -/
def Slots (w : World) (v : Value) (L : List Sl) : Prop := Rd w 3 v L.length (tabL L)
def OwnS (w : World) (base E : Nat) (v : Value) (L : List Sl) : Prop := w.ownsRow base E 3 v L.length (tabL L)
theorem OwnS.rd {w : World} {base E : Nat} {v : Value} {L : List Sl} (h : OwnS w base E v L) : Slots w v L := Rd.of_own h
theorem Slots.below {w w' : World} {v : Value} {L : List Sl} (h : Slots w v L) (hb : Below w.heap.size w w') : Slots w' v L := Rd.below h hb
theorem OwnS.below {w w' : World} {base E : Nat} {v : Value} {L : List Sl} (h : OwnS w base E v L) (hb : Below w.heap.size w w') : OwnS w' base E v L := own_below h hb
theorem OwnS.nil (w : World) (base E : Nat) : OwnS w base E (.slice none 0 0) [] := World.ownsRow_nil w base E 3
/-- a whole array, taken as a slice. -/
theorem Bx.ownS {w : World} {g base : Nat} {t : TypeId} {cs : Array Value} {L : List Sl} (h : Bx w g t cs) (hb : base ≤ g) (hc : cs = tab L) (hL : L.length = 16) : OwnS w base t (.slice (some ⟨g, 0, none⟩) 16 16) L := by
  subst hc
  unfold OwnS
  rw [hL]
  refine ⟨by rw [tabL_len, hL], .inr ⟨g, 16, tab L, rfl, hb, h, Nat.le_refl _, by simp [maxLen], by rw [tab_size, hL], ?_⟩⟩
  rw [List.take_of_length_le (by simp [tab, tabL_len]; omega)]
  simp [tab]
theorem all_nil {l : List UInt64} (h : openErr l ≠ 0) : all l = [] := if_neg h
theorem all_ok {l : List UInt64} (h : openErr l = 0) : all l = slots l := if_pos h
theorem tabOf_ok {l : List UInt64} (h : openErr l = 0) : tabOf l = slots l := if_pos h
theorem slots16 {l : List UInt64} (h : openErr l = 0) : (slots l).length = 16 := by rw [← tabOf_ok h, tabOf_len]
set_option maxRecDepth 100000 in
set_option maxHeartbeats 1000000 in
theorem All18_any (v : Value) (l : List UInt64) (L : List Sl) (r : Int) (hL : L = all l) (hr : r = openErr l) (w : World) (h : Words w v l) :
    Calls Try.prog 38 #[v] w fun e w' => ∃ x E, e = .returned (.tuple #[x, .int .i64 r]) ∧ OwnS w' w.heap.size E x L ∧ Below w.heap.size w w' := by
  have B : Below w.heap.size w w := Below.refl _ _
  obtain ⟨V, hV⟩ : ∃ V, V = tab (tabOf l) := ⟨_, rfl⟩
  have OT := fun w h => open_any v l V hV r hr w h
  have HOT := Lib.hid OT; have H := Lib.hid h; clear OT h
  by_cases h0 : openErr l = 0
  · have hr0 : r = 0 := hr.trans h0
    have hVs : V.size = 48 := by rw [hV]; exact tabOf_size l
    have hV1 : V.all (·.oneCell') = true := by rw [hV]; exact tab_one _
    have hLS : L = slots l := hL.trans (all_ok h0)
    have hVL : V = tab L := by rw [hV, tabOf_ok h0, hLS]
    have hL16 : L.length = 16 := by rw [hLS]; exact slots16 h0
    subst hr0
    have HVs := Lib.hid hVs; have HV1 := Lib.hid hV1; have HVL := Lib.hid hVL; have HL16 := Lib.hid hL16
    clear hr h0 hVs hV1 hLS hVL hL16 hV hL
    go_enter Try.func38, Try.ntmps38
    go_wp2_with fail
    refine (HOT.out _ (H.out.below B)).mono ?_
    rintro e w' ⟨rfl, b⟩
    replace B := B.trans (b.mono B.size); clear b
    go_wp2_with ((with_reducible refine at_store 127 4 9 ?_); refine wpList_storeNew rfl _ _ _ rfl rfl V rfl rfl (by rw [HVs.out]; exact size_table) (by rw [HVs.out]; rfl) HV1.out ?_; intro W q1 b1)
    go_ret2
    exact ⟨_, _, rfl, q1.ownS B.size HVL.out HL16.out, B.trans (b1.mono B.size)⟩
  · have hne : (r != 0) = true := by rw [bne_iff_ne, hr]; exact h0
    have hVs : V.size = 48 := by rw [hV]; exact tabOf_size l
    have hV1 : V.all (·.oneCell') = true := by rw [hV]; exact tab_one _
    have hL0 : L = [] := hL.trans (all_nil h0)
    have HVs := Lib.hid hVs; have HV1 := Lib.hid hV1
    clear hr h0 hVs hV1 hV hL
    subst hL0
    go_enter Try.func38, Try.ntmps38
    go_wp2_with fail
    refine (HOT.out _ (H.out.below B)).mono ?_
    rintro e w' ⟨rfl, b⟩
    replace B := B.trans (b.mono B.size); clear b
    go_wp2_with ((with_reducible refine at_store 127 4 9 ?_); refine wpList_storeNew rfl _ _ _ rfl rfl V rfl rfl (by rw [HVs.out]; exact size_table) (by rw [HVs.out]; rfl) HV1.out ?_; intro W q1 b1)
    go_ret2
    exact ⟨_, 0, rfl, OwnS.nil _ _ _, B.trans (b1.mono B.size)⟩
end Go.Proofs.Ytbfmdbeeiicabaa
namespace Go.Proofs.Ytbfmdbeeiicabaa
open Go.RowKit L01 L02 L18
end Go.Proofs.Ytbfmdbeeiicabaa
namespace Go.Proofs.Ytbfmdbeeiicabaa
open Go.RowKit L01 L02 L18
end Go.Proofs.Ytbfmdbeeiicabaa
namespace Go.Proofs.Ytbfmdbeeiicabaa
open Go.RowKit L01 L02 L18
theorem Slots.at_ {P : Program} {w : World} {v : Value} {L : List Sl} {t e : TypeId} (h : Slots w v L) (ht : P.underlying t = some (.slice e)) (hi : (P.info? e).map (·.size) = some 3) {k : Nat} (hk : k < L.length) :
    ∃ b o s, (∀ W, (Instr.indexAt t v (.int .i64 (k : Int))).run P W = .ok (.pointer (some ⟨b, o, none⟩)) W) ∧ w.cell? ⟨b, o, none⟩ = some (.int .i64 s.gen) ∧ w.cell? ⟨b, o + 1, none⟩ = some (.bool s.used) ∧ w.cell? ⟨b, o + 2, none⟩ = some (.int .i64 s.at_) ∧ Hid (L[k]? = some s) := by
  have hix := fun W => Rd.ixN h ht hi hk W
  obtain ⟨b, o, c, rfl, hb, hc, hcell⟩ := Rd.form h (by omega)
  have hs : L[k]? = some L[k] := List.getElem?_eq_getElem hk
  have t0 := tabL_get L k _ hs 0 (by omega)
  have t1 := tabL_get L k _ hs 1 (by omega)
  have t2 := tabL_get L k _ hs 2 (by omega)
  refine ⟨b, o + k * 3, L[k], fun W => hix W, hcell _ _ t0, hcell _ _ t1, hcell _ _ t2, Lib.hid hs⟩
def sameS (a b : List Sl) : Bool := decide (a = b)
theorem sameS_refl (a : List Sl) : sameS a a = true := by simp [sameS]
set_option maxRecDepth 100000 in
set_option maxHeartbeats 1000000 in
theorem SameS_any (va vb : Value) (La Lb : List Sl) (r : Bool) (hr : r = sameS La Lb) (w : World) (ha : Slots w va La) (hb : Slots w vb Lb) :
    Calls Try.prog 83 #[va, vb] w fun e w' => e = .returned (.bool r) ∧ Below w.heap.size w w' := by
  have B : Below w.heap.size w w := Below.refl _ _
  have la1 := Rd.len ha Try.underlying64; have lb1 := Rd.len hb Try.underlying64
  have la2 := Rd.len_le ha; have lb2 := Rd.len_le hb
  have HA := Lib.hid ha; have HB := Lib.hid hb; have HR := Lib.hid hr; clear ha hb hr
  obtain ⟨na, hna⟩ : ∃ na, na = La.length := ⟨_, rfl⟩
  obtain ⟨nb, hnb⟩ : ∃ nb, nb = Lb.length := ⟨_, rfl⟩
  rw [← hna] at la1 la2; rw [← hnb] at lb1 lb2
  have Hna := Lib.hid hna; have Hnb := Lib.hid hnb; clear hna hnb
  by_cases hl : na = nb
  · subst hl
    go_enter Try.func83, Try.ntmps83
    go_wp2
    have HBB := Lib.hid B; clear B
    go_loopw [5] (fun i wr => ∃ k : Nat, k ≤ na ∧ i = .int .i64 k ∧ Hid (La.take k = Lb.take k) ∧ Below w.heap.size w wr) (fun i _ => na - (intOf i).toNat)
    case atStart => exact ⟨0, Nat.zero_le _, rfl, Lib.hid rfl, HBB.out⟩
    case round =>
      obtain ⟨k, hk, rfl, heq, B⟩ := hrel
      by_cases hlt : k < na
      · obtain ⟨b, o, s, ia, m0, m1, m2, hs⟩ := (HA.out.below B).at_ (P := Try.prog) Try.underlying64 size_slot (k := k) (by have := Hna.out; omega)
        obtain ⟨b', o', t, ib, m3, m4, m5, ht⟩ := (HB.out.below B).at_ (P := Try.prog) Try.underlying64 size_slot (k := k) (by have := Hnb.out; omega)
        obtain ⟨c, hc⟩ : ∃ c, c = !decide (s = t) := ⟨_, rfl⟩
        have q := fun W => slot_neq s t c hc W
        have HC := Lib.hid hc; clear hc
        cases c
        · go_wp2
          refine wp_region_calm (by kernel_rfl) (by kernel_rfl) ?_
          have c_m0 := fun x : Fut _ => cell_later x.h m0
          have c_m1 := fun x : Fut _ => cell_later x.h m1
          have c_m2 := fun x : Fut _ => cell_later x.h m2
          have c_m3 := fun x : Fut _ => cell_later x.h m3
          have c_m4 := fun x : Fut _ => cell_later x.h m4
          have c_m5 := fun x : Fut _ => cell_later x.h m5
          repeat (go_big_quiet_step (fail))
          refine wpQuiet_nil ?_
          intro _ hw'
          obtain ⟨xq, hw''⟩ := hw'
          subst hw''
          clear c_m0; replace m0 := cell_later xq.h m0
          clear c_m1; replace m1 := cell_later xq.h m1
          clear c_m2; replace m2 := cell_later xq.h m2
          clear c_m3; replace m3 := cell_later xq.h m3
          clear c_m4; replace m4 := cell_later xq.h m4
          clear c_m5; replace m5 := cell_later xq.h m5
          replace B := B.trans (xq.h.mono B.size)
          go_wp2
          go_roundw
          case rel =>
            have e : s = t := by have := HC.out; simpa using this
            refine ⟨k + 1, by omega, by go_num, Lib.hid ?_, B⟩
            rw [List.take_add_one, List.take_add_one, heq.out, hs.out, ht.out, e]
          case measure => simp [intOf]; omega
        · go_wp2
          refine wp_region_calm (by kernel_rfl) (by kernel_rfl) ?_
          have c_m0 := fun x : Fut _ => cell_later x.h m0
          have c_m1 := fun x : Fut _ => cell_later x.h m1
          have c_m2 := fun x : Fut _ => cell_later x.h m2
          have c_m3 := fun x : Fut _ => cell_later x.h m3
          have c_m4 := fun x : Fut _ => cell_later x.h m4
          have c_m5 := fun x : Fut _ => cell_later x.h m5
          repeat (go_big_quiet_step (fail))
          refine wpQuiet_nil ?_
          intro _ hw'
          obtain ⟨xq, hw''⟩ := hw'
          subst hw''
          clear c_m0; replace m0 := cell_later xq.h m0
          clear c_m1; replace m1 := cell_later xq.h m1
          clear c_m2; replace m2 := cell_later xq.h m2
          clear c_m3; replace m3 := cell_later xq.h m3
          clear c_m4; replace m4 := cell_later xq.h m4
          clear c_m5; replace m5 := cell_later xq.h m5
          replace B := B.trans (xq.h.mono B.size)
          go_wp2
          go_ret
          refine ⟨ret_bool ?_, B⟩
          have e : ¬ s = t := by have := HC.out; simpa using this
          rw [HR.out, sameS, eq_comm, decide_eq_false_iff_not]
          intro hab
          have h1 := hs.out; have h2 := ht.out
          rw [hab, h2] at h1
          injection h1 with h1
          exact e h1.symm
      · obtain rfl : k = na := by omega
        go_wp2
        go_ret
        refine ⟨ret_bool ?_, B⟩
        have h1 := heq.out
        rw [List.take_of_length_le (by have := Hna.out; omega), List.take_of_length_le (by have := Hnb.out; omega)] at h1
        rw [HR.out, h1, sameS_refl]
  · have hl' : ((na : Int) != nb) = true := by rw [bne_iff_ne]; omega
    go_enter Try.func83, Try.ntmps83
    go_wp2
    go_ret
    refine ⟨ret_bool ?_, B⟩
    rw [HR.out, sameS, eq_comm, decide_eq_false_iff_not]
    intro hab
    have h1 := Hna.out; have h2 := Hnb.out
    rw [hab] at h1; omega
end Go.Proofs.Ytbfmdbeeiicabaa

namespace Go.Proofs.Ytbfmdbeeiicabaa.L20
open L02 L13 L18
structure Ob where
  ty : Int
  fs : List UInt64
deriving DecidableEq
structure Mo where
  types : List (List UInt8)
  objs : List Ob
  slots : List Sl
deriving DecidableEq
def Mo.nil : Mo := ⟨[], [], []⟩
def no : UInt64 := 9221120237041090561
def FloatOk (v : UInt64) : Prop := v.toNat = 9221120237041090561 ∨ v.toNat % 9223372036854775808 ≤ 9218868437227405312
instance (v : UInt64) : Decidable (FloatOk v) := inferInstanceAs (Decidable (_ ∨ _))
/-- a field of the kind k may hold v, with n objects -/
def FdOk (n : Nat) (k : UInt8) (v : UInt64) : Prop := (k.toNat = 2 → FloatOk v) ∧ (k.toNat = 3 → v.toNat ≤ n)
instance (n : Nat) (k : UInt8) (v : UInt64) : Decidable (FdOk n k v) := inferInstanceAs (Decidable (_ ∧ _))
def ty (T : List (List UInt8)) (o : Ob) : List UInt8 := T.getD o.ty.toNat []
def ObOk (T : List (List UInt8)) (n : Nat) (o : Ob) : Prop := (0 ≤ o.ty ∧ o.ty < T.length) ∧ o.fs.length = (ty T o).length ∧ ∀ i, i < o.fs.length → FdOk n ((ty T o).getD i 0) (o.fs.getD i 0)
instance (T : List (List UInt8)) (n : Nat) (o : Ob) : Decidable (ObOk T n o) := inferInstanceAs (Decidable (_ ∧ _ ∧ ∀ i, i < o.fs.length → _))
def SlOk (n : Nat) (s : Sl) : Prop := (0 ≤ s.gen ∧ s.gen ≤ 2147483647) ∧ (s.used = false → s.at_ = 0) ∧ (s.used = true → 0 < s.gen ∧ 0 ≤ s.at_ ∧ s.at_ < n)
instance (n : Nat) (s : Sl) : Decidable (SlOk n s) := inferInstanceAs (Decidable (_ ∧ _ ∧ _))
def MoOk (m : Mo) : Prop := m.slots.length = 16 ∧ (∀ t ∈ m.types, kErr t = 0) ∧ (∀ o ∈ m.objs, ObOk m.types m.objs.length o) ∧ ∀ s ∈ m.slots, SlOk m.objs.length s
instance (m : Mo) : Decidable (MoOk m) := inferInstanceAs (Decidable (_ ∧ _ ∧ _ ∧ _))
def chk (m : Mo) : Int := if 8 < m.types.length ∨ 960 < m.objs.length then 4 else if MoOk m then 0 else 8
/-- more than the statements consider -/
def Great (m : Mo) : Prop := (40 < m.objs.length ∧ m.objs.length < 960) ∨ 962 < m.objs.length ∨ 20 < m.types.length ∨ 30 < m.slots.length ∨ (∃ t ∈ m.types, 20 < t.length) ∨ ∃ o ∈ m.objs, 20 < o.fs.length
instance (m : Mo) : Decidable (Great m) := inferInstanceAs (Decidable (_ ∨ _ ∨ _ ∨ _ ∨ _ ∨ _))
def asked (m : Mo) (sl g : Int) : Int := if chk m = 0 then rightErr m.slots sl g else chk m
def own (m : Mo) (sl : Int) : Nat := (m.slots.getD sl.toNat .none).at_.toNat
def ob (m : Mo) (k : Nat) : Ob := m.objs.getD k ⟨0, []⟩
def kinds (m : Mo) (sl : Int) : List UInt8 := ty m.types (ob m (own m sl))
/-- the error of a field -/
def kErrF (m : Mo) (sl g n : Int) : Int := if asked m sl g = 0 then (if 0 ≤ n ∧ n < (kinds m sl).length then 0 else 2) else asked m sl g
def kind (m : Mo) (sl g n : Int) : UInt8 := if kErrF m sl g n = 0 then (kinds m sl).getD n.toNat 0 else 0
def putF (m : Mo) (k i : Nat) (x : UInt64) : Mo := ⟨m.types, m.objs.set k ⟨(ob m k).ty, (ob m k).fs.set i x⟩, m.slots⟩
def put (m : Mo) (sl n : Int) (x : UInt64) : Mo := putF m (own m sl) n.toNat x
theorem chk_ok {m : Mo} (h : chk m = 0) : m.types.length ≤ 8 ∧ m.objs.length ≤ 960 ∧ MoOk m := by
  unfold chk at h
  split at h
  · omega
  · split at h
    · exact ⟨by omega, by omega, by assumption⟩
    · omega
end Go.Proofs.Ytbfmdbeeiicabaa.L20
namespace Go.Proofs.Ytbfmdbeeiicabaa
open Go.RowKit L01 L02 L18
theorem info_slot : (Try.prog.info? 68).map (fun i => (i.zero, i.size, i.bytes)) = some (some (.agg #[.int .i64 0, .bool false, .int .i64 0]), 3, 24) := by kernel_rfl
theorem lit_slot {w : World} {e : TypeId} {n : Nat} (s : Sl) (hn : w.heap.size = n) : Rd (w.alloc (.cells #[.int .i64 s.gen, .bool s.used, .int .i64 s.at_] e)) 3 (.slice (some ⟨n, 0, none⟩) 1 1) 1 (slC s) := by
  subst hn; exact lit_rdK (n := 1) (sz := 3) rfl (by omega)
theorem slC_one (s : Sl) : ∀ u ∈ slC s, u.oneCell' = true := by
  intro u hu
  simp [slC] at hu
  rcases hu with rfl | rfl | rfl <;> rfl
theorem OwnS.of {w : World} {B E n : Nat} {v : Value} {xs : List Value} {L : List Sl} (h : w.ownsRow B E 3 v n xs) (hx : xs = tabL L) : OwnS w B E v L := by
  subst hx
  have hn : n = L.length := by have := h.1; rw [tabL_len] at this; omega
  subst hn; exact h
theorem tabL_snoc (L : List Sl) (s : Sl) : tabL L ++ slC s = tabL (L ++ [s]) := by simp [tabL, List.flatMap_append]
set_option maxRecDepth 100000 in
set_option maxHeartbeats 1000000 in
theorem ToldR_any (v : Value) (l : List UInt64) (hs : SizeOk l.length) (L : List Sl) (r : Bool) (hL : L = all l) (hr : r = decide (openErr l = 0)) (w : World) (h : Words w v l) :
    Calls Try.prog 92 #[v] w fun e w' => ∃ x, e = .returned (.tuple #[x, .bool r]) ∧ OwnS w' w.heap.size 68 x L ∧ Below w.heap.size w w' := by
  have B : Below w.heap.size w w := Below.refl _ _
  have H := Lib.hid h; have HS := Lib.hid hs; have HL := Lib.hid hL; have HR := Lib.hid hr
  have hlen := hs.1
  clear h hs hL hr
  go_enter Try.func92, Try.ntmps92
  go_wp2
  have HB := Lib.hid B; clear B
  go_loopw [4, 5] (fun xv i wr => ∃ k : Nat, k ≤ 16 ∧ i = .int .i64 k ∧ Hid (OwnS wr w.heap.size 68 xv ((slots l).take k) ∧ ∀ x ∈ (ws l).take k, Right (spl x)) ∧ Below w.heap.size w wr) (fun _ i _ => 16 - (intOf i).toNat)
  case atStart => exact ⟨0, by omega, rfl, Lib.hid ⟨OwnS.nil _ _ _, by simp⟩, HB.out⟩
  case round =>
    obtain ⟨k, hk, rfl, hh, B⟩ := hrel
    by_cases hlt : k < 16
    · obtain ⟨ad, x, ia, ca, hx⟩ := (H.out.below B).atI Try.underlying22 one_u64 (k := 112 + (k : Int)) (by omega) (by omega)
      have hx' : (ws l)[k]? = some x := ws_get hlt (by have := hx.out; rwa [show (112 + (k : Int)).toNat = 112 + k by omega] at this)
      have HX := Lib.hid hx'; clear hx hx'
      by_cases hr : Right (spl x)
      · have SP := SplitR_r x (spl x) 0 (by rw [spl0, if_pos hr]) (by rw [splErr, if_pos hr])
        obtain ⟨s, hs⟩ : ∃ s, s = spl x := ⟨_, rfl⟩
        rw [← hs] at SP
        have HSP := Lib.hid SP; have HRR := Lib.hid hr; have HSX := Lib.hid hs; clear SP hr hs
        go_wp2_with fail
        refine (HSP.out _).mono ?_
        rintro e w2 ⟨rfl, b⟩
        have o := hh.out.1.below b
        replace B := B.trans (b.mono B.size)
        have HO := Lib.hid o; have HBB := Lib.hid B; clear b o B
        have hlk : ((slots l).take k).length ≤ 16 := by have := List.length_take_le k (slots l); omega
        go_wp2_with (at_builtin; refine wpList_append (by rfl) rfl rfl rfl Try.underlying64 info_slot rfl (by omega) (by exact own_below HO.out (((Below.refl _ _).alloc (Nat.le_refl _) _).alloc (by simp) _)) (by exact lit_slot s (by simp)) (slC_one s) (by omega) (by omega) (by exact (HBB.out.alloc HBB.out.size _).alloc (by have := HBB.out.size; simp; omega) _) (Nat.le_refl _) ?_; intro v1 w3 o3 B3 g3; clear g3)
        have hgS : (slots l)[k]? = some s := by rw [slots, List.getElem?_map, HX.out, HSX.out]; rfl
        have o4 : OwnS w3 w.heap.size 68 v1 ((slots l).take (k + 1)) := OwnS.of o3 (by rw [tabL_snoc, List.take_add_one, hgS]; rfl)
        have HO4 := Lib.hid o4; have HB3 := Lib.hid B3; clear o3 o4 B3 hgS
        go_roundw
        case rel => exact ⟨k + 1, by omega, by go_num, Lib.hid ⟨HO4.out, right_take hh.out.2 HX.out HRR.out⟩, HB3.out⟩
        case measure => simp [intOf]; omega
      · have SP := SplitR_r x .none 50 (by rw [spl0, if_neg hr]) (by rw [splErr, if_neg hr])
        have he := openErr_no HS.out HX.out hr
        have HSP := Lib.hid SP; have HE := Lib.hid he; clear SP hr he
        go_wp2_with fail
        refine (HSP.out _).mono ?_
        rintro e w2 ⟨rfl, b⟩
        replace B := B.trans (b.mono B.size); clear b
        go_wp2
        go_ret2
        have hr1 : r = false := by rw [HR.out, decide_eq_false (by rw [HE.out]; omega)]
        subst hr1
        refine ⟨_, rfl, ?_, B.alloc B.size _⟩
        rw [HL.out, all_nil (by rw [HE.out]; omega)]; exact OwnS.nil _ _ _
    · obtain rfl : k = 16 := by omega
      have he := openErr_of HS.out hh.out.2
      have HE := Lib.hid he; clear he
      go_wp2
      go_ret2
      have hr1 : r = true := by rw [HR.out, decide_eq_true HE.out]
      subst hr1
      refine ⟨_, rfl, ?_, B⟩
      have := hh.out.1
      rw [List.take_of_length_le (by rw [slots16 HE.out]; omega)] at this
      rw [HL.out, all_ok HE.out]; exact this
end Go.Proofs.Ytbfmdbeeiicabaa
namespace Go.Proofs.Ytbfmdbeeiicabaa
open Go.RowKit L02 L13 L18 L20
theorem size_obj : (Try.prog.info? 136).map (·.size) = some 2 := by kernel_rfl
theorem info_obj : (Try.prog.info? 136).map (fun i => (i.zero, i.size, i.bytes)) = some (some (.agg #[.int .i64 0, .slice none 0 0]), 2, 32) := by kernel_rfl
/-- the cells of objects, whose fields are the slices vs -/
def obC : List Ob → List Value → List Value
  | o :: L, x :: vs => i64 o.ty :: x :: obC L vs
  | _, _ => []
theorem obC_len : ∀ {L : List Ob} {vs : List Value}, vs.length = L.length → (obC L vs).length = L.length * 2
  | [], _, _ => rfl
  | o :: L, [], h => by simp at h
  | o :: L, x :: vs, h => by rw [obC, List.length_cons, List.length_cons, obC_len (by simpa using h), List.length_cons]; omega
theorem obC_get : ∀ {L : List Ob} {vs : List Value} {k : Nat} {o : Ob} {x : Value}, L[k]? = some o → vs[k]? = some x → (obC L vs)[k * 2]? = some (i64 o.ty) ∧ (obC L vs)[k * 2 + 1]? = some x
  | [], _, _, _, _, h, _ => by simp at h
  | o :: L, [], _, _, _, _, h => by simp at h
  | o :: L, x :: vs, 0, o', x', h, h' => by simp at h h'; subst h; subst h'; simp [obC]
  | o :: L, x :: vs, k + 1, o', x', h, h' => by
    have := obC_get (L := L) (vs := vs) (k := k) (by simpa using h) (by simpa using h')
    rw [obC, show (k + 1) * 2 = k * 2 + 1 + 1 by omega, show k * 2 + 1 + 1 + 1 = (k * 2 + 1) + 1 + 1 by omega]
    simpa using this
theorem obC_snoc : ∀ {L : List Ob} {vs : List Value} {o : Ob} {x : Value}, vs.length = L.length → obC (L ++ [o]) (vs ++ [x]) = obC L vs ++ [i64 o.ty, x]
  | [], [], _, _, _ => rfl
  | [], x :: vs, _, _, h => by simp at h
  | o :: L, [], _, _, h => by simp at h
  | o :: L, x :: vs, o', x', h => by
    rw [List.cons_append, List.cons_append, obC, obC_snoc (by simpa using h), obC]; rfl
/-- A slice of objects. -/
def Objs (w : World) (v : Value) (L : List Ob) : Prop := ∃ vs : List Value, vs.length = L.length ∧ Rd w 2 v L.length (obC L vs) ∧ ∀ (i : Nat) x o, vs[i]? = some x → L[i]? = some o → Words w x o.fs
/-- .. of the call's own, their fields too, which lie apart -/
def OwnO (w : World) (base : Nat) (v : Value) (L : List Ob) : Prop := ∃ vs : List Value, vs.length = L.length ∧ w.ownsRow base 136 2 v L.length (obC L vs) ∧ (∀ (i : Nat) x o, vs[i]? = some x → L[i]? = some o → OwnW w base 34 x o.fs) ∧
  ∀ (i j : Nat) x y, i ≠ j → vs[i]? = some x → vs[j]? = some y → x.ownBlock = none ∨ x.ownBlock ≠ y.ownBlock
theorem OwnO.rd {w : World} {base : Nat} {v : Value} {L : List Ob} (h : OwnO w base v L) : Objs w v L := by
  obtain ⟨vs, h1, h2, h4, _⟩ := h; exact ⟨vs, h1, Rd.of_own h2, fun i x l h5 h6 => (h4 i x l h5 h6).rd⟩
theorem Objs.below {w w' : World} {v : Value} {L : List Ob} (h : Objs w v L) (hb : Below w.heap.size w w') : Objs w' v L := by
  obtain ⟨vs, h1, h2, h3⟩ := h; exact ⟨vs, h1, h2.below hb, fun i x l h4 h5 => (h3 i x l h4 h5).below hb⟩
theorem OwnO.below {w w' : World} {base : Nat} {v : Value} {L : List Ob} (h : OwnO w base v L) (hb : Below w.heap.size w w') : OwnO w' base v L := by
  obtain ⟨vs, h1, h2, h4, h5⟩ := h; exact ⟨vs, h1, own_below h2 hb, fun i x l h5 h6 => (h4 i x l h5 h6).below hb, h5⟩
theorem OwnO.mono {w : World} {base base' : Nat} {v : Value} {L : List Ob} (h : OwnO w base v L) (hb : base' ≤ base) : OwnO w base' v L := by
  obtain ⟨vs, h1, h2, h4, h5⟩ := h; exact ⟨vs, h1, own_mono h2 hb, fun i x l h5 h6 => own_mono (h4 i x l h5 h6) hb, h5⟩
theorem OwnT.mono {w : World} {base base' : Nat} {v : Value} {L : List (List UInt8)} (h : OwnT w base v L) (hb : base' ≤ base) : OwnT w base' v L := by
  obtain ⟨vs, h1, h2, h4⟩ := h; exact ⟨vs, h1, own_mono h2 hb, fun i x l h5 h6 => own_mono (h4 i x l h5 h6) hb⟩
theorem OwnO.nil (w : World) (base : Nat) : OwnO w base (.slice none 0 0) [] := ⟨[], rfl, World.ownsRow_nil w base _ 2, fun i x l h => by simp at h, fun i j x y _ h => by simp at h⟩
theorem Objs.nil (w : World) : Objs w (.slice none 0 0) [] := (OwnO.nil w 0).rd
theorem Typs.nil (w : World) : Typs w (.slice none 0 0) [] := (OwnT.nil w 0).rd
theorem Slots.nil (w : World) : Slots w (.slice none 0 0) [] := Rd.nil w 3
theorem Objs.len {w : World} {v : Value} {L : List Ob} (h : Objs w v L) : ∀ ty W, (Builtin.len_ #[77] ty #[v]).run Try.prog W = .ok (.int .i64 (L.length : Int)) W := by
  obtain ⟨vs, h1, h2, h3⟩ := h; exact Rd.len h2 Try.underlying77
theorem Objs.len_le {w : World} {v : Value} {L : List Ob} (h : Objs w v L) : L.length ≤ 9223372036854775807 := by
  obtain ⟨vs, h1, h2, h3⟩ := h; exact Rd.len_le h2
theorem Slots.len {w : World} {v : Value} {L : List Sl} (h : Slots w v L) : ∀ ty W, (Builtin.len_ #[64] ty #[v]).run Try.prog W = .ok (.int .i64 (L.length : Int)) W := Rd.len h Try.underlying64
theorem Slots.len_le {w : World} {v : Value} {L : List Sl} (h : Slots w v L) : L.length ≤ 9223372036854775807 := Rd.len_le h
theorem Objs.at_ {w : World} {v : Value} {L : List Ob} (h : Objs w v L) {k : Nat} (hk : k < L.length) :
    ∃ b q x o, (∀ W, (Instr.indexAt 77 v (.int .i64 (k : Int))).run Try.prog W = .ok (.pointer (some ⟨b, q, none⟩)) W) ∧ w.cell? ⟨b, q, none⟩ = some (.int .i64 o.ty) ∧ w.cell? ⟨b, q + 1, none⟩ = some x ∧ Hid (L[k]? = some o) ∧ Hid (Words w x o.fs) ∧ b < w.heap.size := by
  obtain ⟨vs, h1, h2, h3⟩ := h
  have hv : vs[k]? = some vs[k] := List.getElem?_eq_getElem (by omega)
  have hl : L[k]? = some L[k] := List.getElem?_eq_getElem hk
  have hix := fun W => Rd.ixN h2 Try.underlying77 size_obj hk W
  obtain ⟨b, q, c, rfl, hb, hc, hcell⟩ := Rd.form h2 (by omega)
  obtain ⟨c0, c1⟩ := obC_get hl hv
  exact ⟨b, q + k * 2, vs[k], L[k], fun W => hix W, hcell _ _ c0, hcell _ _ c1, Lib.hid hl, Lib.hid (h3 k _ _ hv hl), hb⟩
theorem Words.oneCell {w : World} {x : Value} {l : List UInt64} (h : Words w x l) : x.oneCell' = true := by
  obtain ⟨A, c, rfl, _⟩ := h; rfl
theorem Typs.oneCell {w : World} {x : Value} {l : List (List UInt8)} (h : Typs w x l) : x.oneCell' = true := by
  obtain ⟨_, _, ⟨A, c, rfl, _⟩, _⟩ := h; rfl
theorem Objs.oneCell {w : World} {x : Value} {l : List Ob} (h : Objs w x l) : x.oneCell' = true := by
  obtain ⟨_, _, ⟨A, c, rfl, _⟩, _⟩ := h; rfl
theorem Slots.oneCell {w : World} {x : Value} {l : List Sl} (h : Slots w x l) : x.oneCell' = true := by
  obtain ⟨A, c, rfl, _⟩ := h; rfl
/-- A model: three slices. -/
structure Mod (w : World) (tv ov sv : Value) (m : Mo) : Prop where
  t : Typs w tv m.types
  o : Objs w ov m.objs
  s : Slots w sv m.slots
structure OwnM (w : World) (base E : Nat) (tv ov sv : Value) (m : Mo) : Prop where
  t : OwnT w base tv m.types
  o : OwnO w base ov m.objs
  s : OwnS w base E sv m.slots
theorem Mod.below {w w' : World} {tv ov sv : Value} {m : Mo} (h : Mod w tv ov sv m) (hb : Below w.heap.size w w') : Mod w' tv ov sv m := ⟨h.t.below hb, h.o.below hb, h.s.below hb⟩
theorem OwnM.below {w w' : World} {base E : Nat} {tv ov sv : Value} {m : Mo} (h : OwnM w base E tv ov sv m) (hb : Below w.heap.size w w') : OwnM w' base E tv ov sv m := ⟨h.t.below hb, h.o.below hb, h.s.below hb⟩
theorem OwnM.rd {w : World} {base E : Nat} {tv ov sv : Value} {m : Mo} (h : OwnM w base E tv ov sv m) : Mod w tv ov sv m := ⟨h.t.rd, h.o.rd, h.s.rd⟩
theorem OwnM.mono {w : World} {base base' E : Nat} {tv ov sv : Value} {m : Mo} (h : OwnM w base E tv ov sv m) (hb : base' ≤ base) : OwnM w base' E tv ov sv m := ⟨h.t.mono hb, h.o.mono hb, own_mono h.s hb⟩
theorem Mod.nil (w : World) : Mod w (.slice none 0 0) (.slice none 0 0) (.slice none 0 0) .nil := ⟨Typs.nil w, Objs.nil w, Slots.nil w⟩
end Go.Proofs.Ytbfmdbeeiicabaa
namespace Go.Proofs.Ytbfmdbeeiicabaa
open Go.RowKit L02 L13 L18 L20
end Go.Proofs.Ytbfmdbeeiicabaa
namespace Go.Proofs.Ytbfmdbeeiicabaa
open Go.RowKit L02 L13 L18 L20
end Go.Proofs.Ytbfmdbeeiicabaa
namespace Go.Proofs.Ytbfmdbeeiicabaa
open Go.RowKit L02 L13 L18 L20
end Go.Proofs.Ytbfmdbeeiicabaa
namespace Go.Proofs.Ytbfmdbeeiicabaa
open Go.RowKit L02 L13 L18 L20
end Go.Proofs.Ytbfmdbeeiicabaa
namespace Go.Proofs.Ytbfmdbeeiicabaa
open Go.RowKit L02 L13 L18 L20
end Go.Proofs.Ytbfmdbeeiicabaa
namespace Go.Proofs.Ytbfmdbeeiicabaa
open Go Go.RowKit
section
variable {P : Program} {ops : Array Oper} {md : Region.Mode} {C : Array Bool → World → Prop}
def uponF (P : Program) (Post : World → Prop) (v : Value) : Result Next → Prop
  | .ok (.value u) w' => u = v ∧ Post w'
  | .ok .skip w' => v = undef ∧ Post w'
  | .ok (.enter f args) w' => Calls P f args w' (fun e w'' => e = .returned v ∧ Post w'')
  | _ => False
def YieldsF (P : Program) (md : Region.Mode) (ops : Array Oper) (C : Array Bool → World → Prop) (i : Nat) (o : Oper) (v : Value) (a : Act) : Prop :=
  (Region.wanted o (yielded ops a.tmps) = true ∧ ∀ listed w, i ∈ Region.ready md ops listed → C listed w → uponF P (C (listed.setIfInBounds i true)) v ((execOp a.eval o).run P w)) ∨
  (Region.wanted o (yielded ops a.tmps) = false ∧ v = undef ∧ ∀ listed w, i ∈ Region.ready md ops listed → C listed w → C (listed.setIfInBounds i true) w)
def qOpF (P : Program) (md : Region.Mode) (ops : Array Oper) (C : Array Bool → World → Prop) (i : Nat) (K : Act → Prop) (a : Act) : Prop :=
  match ops[i]? with
  | none => False
  | some o => ∃ v, YieldsF P md ops C i o v a ∧ K (a.put o.dst v)
theorem qOpF_mono {i : Nat} {a : Act} {K K' : Act → Prop} (h : ∀ a, K a → K' a) (hh : qOpF P md ops C i K a) : qOpF P md ops C i K' a := by
  unfold qOpF at *
  split
  · rename_i ho; simp only [ho] at hh
  · rename_i o ho
    simp only [ho] at hh
    obtain ⟨v, h1, h2⟩ := hh
    exact ⟨v, h1, h _ h2⟩
def wpAnyF (P : Program) (md : Region.Mode) (ops : Array Oper) (C : Array Bool → World → Prop) (Q : Array Bool → Act → Prop) : Nat → Array Bool → Act → Prop
  | 0, listed, a => Region.ready md ops listed = [] ∧ Q listed a
  | fuel + 1, listed, a =>
    (Region.ready md ops listed = [] → Q listed a) ∧
    ∀ i ∈ Region.ready md ops listed, qOpF P md ops C i (wpAnyF P md ops C Q fuel (listed.setIfInBounds i true)) a
theorem wpOp_of_qOpF {i : Nat} {a : Act} {listed : Array Bool} {K : Act → Prop} {K' : Act → World → Prop} {Q' : Exit → Act → World → Prop} {w : World} (hl : i ∈ Region.ready md ops listed) (hC : C listed w)
    (h : ∀ a w', C (listed.setIfInBounds i true) w' → K a → K' a w') (hh : qOpF P md ops C i K a) : wpOp P ops Q' i K' a w := by
  unfold qOpF at hh
  unfold wpOp
  split
  · rename_i ho; simp only [ho] at hh
  · rename_i o ho
    simp only [ho] at hh
    obtain ⟨v, hy, h2⟩ := hh
    rcases hy with ⟨hw, hv⟩ | ⟨hw, rfl, hv⟩
    · rw [if_pos hw]
      left
      have h3 := hv listed w hl hC
      unfold Oper.wp
      generalize (execOp a.eval o).run P w = r at *
      cases r with
      | ok n w' =>
        cases n <;> simp only [uponF] at h3 <;> simp only [Oper.upon]
        case value u => obtain ⟨e1, e2⟩ := h3; rw [e1]; exact h _ _ e2 h2
        case skip => obtain ⟨e1, e2⟩ := h3; rw [← e1]; exact h _ _ e2 h2
        case enter f args => exact h3.mono fun e w'' ⟨he, hw''⟩ => by subst he; exact h _ _ hw'' h2
      | halt x w' => simp only [uponF] at h3
    · rw [if_neg (by rw [hw]; exact Bool.false_ne_true)]
      exact h _ _ (hv listed w hl hC) h2
theorem wpAny_of_F {Q : Array Bool → Act → Prop} {Q' : Exit → Act → World → Prop} (hQ : ∀ listed a w, C listed w → Q listed a → Q' .normal a w) : ∀ (fuel : Nat) (listed : Array Bool) (a : Act) (w : World), C listed w →
    wpAnyF P md ops C Q fuel listed a → wpAny P md ops Q' fuel listed a w
  | 0, _, _, _, hw, h => ⟨h.1, hQ _ _ _ hw h.2⟩
  | fuel + 1, listed, _, _, hw, h => ⟨fun h0 => hQ _ _ _ hw (h.1 h0), fun i hi => wpOp_of_qOpF hi hw (fun a' w' hw' => wpAny_of_F hQ fuel _ a' w' hw') (h.2 i hi)⟩
theorem YieldsF.of_same {i : Nat} {o : Oper} {v : Value} {a a' : Act} (hy : YieldsF P md ops C i o v a) (he : execOp a'.eval o = execOp a.eval o)
    (hw : Region.wanted o (yielded ops a'.tmps) = Region.wanted o (yielded ops a.tmps)) : YieldsF P md ops C i o v a' := by
  unfold YieldsF at *
  rw [he, hw]
  exact hy
theorem qOpF_put {i j : Nat} {oi oj : Oper} {v : Value} (hj : ops[j]? = some oj) (hap : oi.apart ops oj = true)
    (hsi : ∀ cs b, oi.op ≠ .select cs b) (hsj : ∀ cs b, oj.op ≠ .select cs b) {K : Act → Prop} {a : Act}
    (hy : YieldsF P md ops C i oi v a) (h : qOpF P md ops C j K (a.put oi.dst v)) :
    qOpF P md ops C j (fun a' => YieldsF P md ops C i oi v a' ∧ K (a'.put oi.dst v)) a := by
  obtain ⟨h1, h2, h3⟩ := Oper.apart_spec hap
  unfold qOpF at *
  simp only [hj] at *
  obtain ⟨u, hu, hn⟩ := h
  refine ⟨u, hu.of_same ?_ ?_, hy.of_same ?_ ?_, ?_⟩
  · exact (execOp_put oj hsj a oi.dst v h1).symm
  · exact (wanted_put oj a oi.dst v h1).symm
  · exact execOp_put oi hsi a oj.dst u h3
  · exact wanted_put oi a oj.dst u h3
  · rw [← Act.put_comm a v u h2]; exact hn
theorem wpAnyF_first {Q : Array Bool → Act → Prop} {i : Nat} {oi : Oper} {v : Value} (hi : ops[i]? = some oi) (hsel : ∀ (j : Nat) (o : Oper) cs b, ops[j]? = some o → o.op ≠ .select cs b) :
    ∀ (fuel : Nat) (listed : Array Bool) (a : Act),
      (∀ j oj, ops[j]? = some oj → j ≠ i → listed.getD j true = false → (∀ e ∈ oj.after, Region.binds md e = true → e.on ≠ i) → oi.apart ops oj = true) →
      i ∈ Region.ready md ops listed → YieldsF P md ops C i oi v a →
      wpAnyF P md ops C Q fuel (listed.setIfInBounds i true) (a.put oi.dst v) → wpAnyF P md ops C Q (fuel + 1) listed a := by
  intro fuel
  induction fuel with
  | zero =>
    intro listed a _ hr hy H
    refine ⟨fun h => (by rw [h] at hr; cases hr), fun j hj => ?_⟩
    by_cases hji : j = i
    · subst hji
      unfold qOpF; simp only [hi]
      exact ⟨v, hy, H⟩
    · have := ready_mono hj hji
      rw [H.1] at this
      cases this
  | succ fuel ih =>
    intro listed a hfree hr hy H
    refine ⟨fun h => (by rw [h] at hr; cases hr), fun j hj => ?_⟩
    by_cases hji : j = i
    · subst hji
      unfold qOpF; simp only [hi]
      exact ⟨v, hy, H⟩
    · have h1 := H.2 j (ready_mono hj hji)
      obtain ⟨hjun, oj, hoj, hall⟩ := mem_ready.1 hj
      have hnot : ∀ e ∈ oj.after, Region.binds md e = true → e.on ≠ i := fun e he hb heq => by
        have h1 := hall e he hb
        have h0 := (mem_ready.1 hr).1
        rw [heq] at h1
        rcases Nat.lt_or_ge i listed.size with h' | h'
        · simp [h'] at h0 h1; rw [h0] at h1; cases h1
        · simp [Array.getElem?_eq_none h'] at h1
      have h2 := qOpF_put hoj (hfree j oj hoj hji hjun hnot) (fun cs b => hsel i oi cs b hi) (fun cs b => hsel j oj cs b hoj) hy h1
      have hfree' : ∀ k ok, ops[k]? = some ok → k ≠ i → (listed.setIfInBounds j true).getD k true = false →
          (∀ e ∈ ok.after, Region.binds md e = true → e.on ≠ i) → oi.apart ops ok = true := fun k ok hk hki hun hno => by
        refine hfree k ok hk hki ?_ hno
        by_cases hjk : j = k
        · subst hjk; exact hjun
        · rw [getD_set_ne true hjk] at hun; exact hun
      refine qOpF_mono (fun a' h3 => ih (listed.setIfInBounds j true) a' hfree' (ready_mono hr (Ne.symm hji)) h3.1 ?_) h2
      rw [Array.setIfInBounds_comm _ _ hji]
      exact h3.2
/-- the walk in the order of the text, number k first -/
def wpF (P : Program) (md : Region.Mode) (ops : Array Oper) (C : Array Bool → World → Prop) (Q : Act → Prop) : List Oper → Nat → Act → Prop
  | [], _, a => Q a
  | o :: rest, k, a => ∃ v, YieldsF P md ops C k o v a ∧ wpF P md ops C Q rest (k + 1) (a.put o.dst v)
def setAll : Nat → Nat → Array Bool → Array Bool
  | 0, _, l => l
  | n + 1, k, l => setAll n (k + 1) (l.setIfInBounds k true)
theorem wpAnyF_lex {Q : Array Bool → Act → Prop} (hs : Region.noSelect ops = true) : ∀ (l : List Oper) (k : Nat) (listed : Array Bool) (a : Act), (∀ j, l[j]? = ops[k + j]?) →
    Region.lexFrom md ops l.length k listed = true → wpF P md ops C (Q (setAll l.length k listed)) l k a → wpAnyF P md ops C Q l.length listed a
  | [], _, _, _, _, hB, h => ⟨by simpa [Region.lexFrom] using hB, h⟩
  | o :: l, k, listed, a, hl, hB, h => by
    have h0 : ops[k]? = some o := by simpa using (hl 0).symm
    simp only [List.length_cons, Region.lexFrom, Bool.and_eq_true] at hB
    obtain ⟨⟨hr, hf⟩, hB'⟩ := hB
    obtain ⟨v, hy, hK⟩ := h
    exact wpAnyF_first h0 (Region.noSelect_spec hs) l.length listed a (Region.free_spec h0 hf) (by simpa using hr) hy
      (wpAnyF_lex hs l (k + 1) _ _ (fun j => by have := hl (j + 1); simpa [Nat.add_assoc, Nat.add_comm 1 j] using this) hB' hK)
theorem wp_region_F {id : Nat} {Q : Exit → Act → World → Prop} {a : Act} {w : World} {l : List Oper} (C : Array Bool → World → Prop) (hm : P.follows .mixedOrders = true) (hB : Region.lexB .any l.toArray = true)
    (hC : C (Array.replicate l.length false) { w with drawn := w.drawn + 1 })
    (h : wpF P .any l.toArray C (fun a' => ∀ w', C (setAll l.length 0 (Array.replicate l.length false)) w' → Q .normal a' w') l 0 a) : (Code.region id l.toArray true).wp P Q a w := by
  simp only [Region.lexB, Bool.and_eq_true] at hB
  refine wp_region_any hm (wpAny_of_F (C := C) (Q := fun listed a' => ∀ w', C listed w' → Q .normal a' w') (fun _ _ w' hw' h => h w' hw') _ _ _ _ (by simpa using hC) ?_)
  have := wpAnyF_lex (C := C) (md := .any) (Q := fun listed a' => ∀ w', C listed w' → Q .normal a' w') hB.1 l 0 (Array.replicate l.length false) a (by simp) (by simpa using hB.2) h
  simpa using this
end
/-! two flagged operations, numbers j1, j2 (a number that no operation bears: none) -/
/-- the operations that yield a value without entering a function -/
def isV : Op → Bool
  | .move _ | .assign _ | .pick .. | .build .. | .load .. | .binOp .. | .unOp .. | .convert .. | .slice .. | .fieldAddr .. | .field .. | .indexAddr .. | .index .. | .extract .. | .sliceToArrayPointer .. => true
  | _ => false
theorem run_v {P : Program} {s : Sem Value} {w w' : World} {n : Next} (h : (do pure (Next.value (← s)) : Sem Next).run P w = .ok n w') : ∃ u, n = .value u := by
  rw [Sem.run_bind] at h
  cases hs : s.run P w with
  | ok u w1 => rw [hs] at h; simp [Result.andThen] at h; exact ⟨u, h.1.symm⟩
  | halt x w1 => rw [hs] at h; simp [Result.andThen] at h
theorem isV_value {P : Program} {o : Oper} {ev : Operand → Value} {w w' : World} {n : Next} (hV : isV o.op = true) (h : (execOp ev o).run P w = .ok n w') : ∃ u, n = .value u := by
  unfold execOp at h
  cases ho : o.op <;> rw [ho] at h hV <;> simp only [isV, Bool.false_eq_true] at hV <;> dsimp only at h
  case move x => simp at h; exact ⟨_, h.1.symm⟩
  case assign x => simp at h; exact ⟨_, h.1.symm⟩
  case pick c x y =>
    rw [Sem.run_bind] at h
    cases hs : (asBool (ev c)).run P w with
    | ok u w1 => rw [hs] at h; simp [Result.andThen] at h; exact ⟨_, h.1.symm⟩
    | halt x w1 => rw [hs] at h; simp [Result.andThen] at h
  all_goals exact run_v h
structure FX (F : Bool → Bool → World → Prop) where
  W : World
  h : ∃ b1 b2, F b1 b2 W
section
variable {P : Program} {ops : Array Oper} {rest : List Oper} {o : Oper} {a : Act} {Q : Act → Prop} {F : Bool → Bool → World → Prop} {j1 j2 k : Nat} {md : Region.Mode}
theorem ready_after {i j : Nat} {oi : Oper} {listed : Array Bool} (hi : ops[i]? = some oi) (hd : (oi.after.any fun e => Region.binds md e && e.on == j) = true) (hr : i ∈ Region.ready md ops listed) : listed.getD j false = true := by
  obtain ⟨_, o', ho', hall⟩ := mem_ready.1 hr
  have : o' = oi := Option.some.inj (ho'.symm.trans hi)
  subst this
  obtain ⟨e, he, hb⟩ := Array.any_eq_true'.1 hd
  simp only [Bool.and_eq_true, beq_iff_eq] at hb
  rw [← hb.2]; exact hall e he hb.1
structure FX1 (F : Bool → Bool → World → Prop) where
  W : World
  h : ∃ b2, F true b2 W
theorem getD_on {listed : Array Bool} {i : Nat} (h : listed.getD i true = false) : listed.getD i false = false ∧ (listed.setIfInBounds i true).getD i false = true := by
  rcases Nat.lt_or_ge i listed.size with h' | h'
  · simp [h'] at h ⊢; exact h
  · simp [Array.getElem?_eq_none h'] at h
end
/-- the flagged operation is a call that makes just one block -/
def FNew (w0 : World) (t : TypeId) (cs : Array Value) : Bool → Bool → World → Prop := fun b1 _ W => Below w0.heap.size w0 W ∧ (b1 = false → W.heap.size = w0.heap.size) ∧ (b1 = true → Bx W w0.heap.size t cs)
theorem FNew.start (w0 : World) (t : TypeId) (cs : Array Value) : FNew w0 t cs false false w0.drew := ⟨(Below.refl _ _).drew, fun _ => rfl, (fun h => by cases h)⟩
theorem FNew.below {w0 : World} {t : TypeId} {cs : Array Value} (x : FX (FNew w0 t cs)) : Below w0.heap.size w0 x.W := by obtain ⟨W, b1, b2, h⟩ := x; exact h.1
instance (w0 : World) (t : TypeId) (cs : Array Value) : Nonempty (FX (FNew w0 t cs)) := ⟨⟨w0.drew, false, false, FNew.start w0 t cs⟩⟩
instance (w0 : World) (t : TypeId) (cs : Array Value) : Nonempty (FX1 (FNew w0 t cs)) := ⟨⟨w0.alloc (.cells cs t), false, (Below.refl _ _).alloc (Nat.le_refl _) _, (fun h => by cases h), fun _ => Bx.new _ _ _⟩⟩
theorem FNew.call {P : Program} {f : FuncId} {av : Array Value} {w0 : World} {t : TypeId} {cs : Array Value} {n c : Nat}
    (h : ∀ W, Calls P f av W (fun e w' => e = .returned (.slice (some ⟨W.heap.size, 0, none⟩) n c) ∧ Bx w' W.heap.size t cs ∧ Below W.heap.size W w')) (b2 : Bool) (W : World) (hW : FNew w0 t cs false b2 W) :
    Calls P f av W (fun e W' => e = .returned (.slice (some ⟨w0.heap.size, 0, none⟩) n c) ∧ FNew w0 t cs true b2 W') := by
  have hz := hW.2.1 rfl
  refine (h W).mono fun e w' ⟨h1, h2, h3⟩ => ?_
  rw [hz] at h1 h2
  exact ⟨h1, hW.1.trans (h3.mono (by rw [hz]; exact Nat.le_refl _)), (fun h => by cases h), fun _ => h2⟩
end Go.Proofs.Ytbfmdbeeiicabaa
namespace Go.Proofs.Ytbfmdbeeiicabaa
open Go Go.RowKit
def CN (F : (Nat → Bool) → World → Prop) : Array Bool → World → Prop := fun listed W => F (fun j => listed.getD j false) W
def Dep (F : (Nat → Bool) → World → Prop) (js : List Nat) : Prop := ∀ f g W, (∀ j ∈ js, f j = g j) → F f W → F g W
structure FXN (F : (Nat → Bool) → World → Prop) where
  W : World
  h : ∃ f, F f W
section
variable {P : Program} {ops : Array Oper} {rest : List Oper} {o : Oper} {a : Act} {Q : Act → Prop} {F : (Nat → Bool) → World → Prop} {js : List Nat} {k : Nat} {md : Region.Mode}
theorem CN.skip (hD : Dep F js) (hk : k ∉ js) {listed : Array Bool} {W : World} (hW : CN F listed W) : CN F (listed.setIfInBounds k true) W := by
  refine hD _ _ _ (fun j hj => ?_) hW
  have hne : k ≠ j := fun e => hk (e ▸ hj)
  rw [getD_set_ne false hne]
theorem wpN_read (hD : Dep F js) (hV : isV o.op = true) (hk : k ∉ js) (h : wpQuiet P ops (fun W => ∃ x : FXN F, W = x.W) (fun a' => wpF P md ops (CN F) Q rest (k + 1) a') [o] a) : wpF P md ops (CN F) Q (o :: rest) k a := by
  unfold wpQuiet at h
  split at h
  · rename_i hw
    obtain ⟨v, h1, h2⟩ := h
    refine ⟨v, .inl ⟨hw, fun listed W hl hW => ?_⟩, h2⟩
    have h3 := h1 W ⟨⟨W, _, hW⟩, rfl⟩
    unfold Oper.quietAt at h3
    cases hr : (execOp a.eval o).run P W with
    | ok n w' =>
      obtain ⟨u, rfl⟩ := isV_value hV hr
      rw [hr] at h3
      simp only [Oper.quietUpon] at h3
      simp only [uponF]
      obtain ⟨e1, e2⟩ := h3
      subst e1
      exact ⟨e2, hW.skip hD hk⟩
    | halt x w' => rw [hr] at h3; simp only [Oper.quietUpon] at h3
  · rename_i hw
    exact ⟨undef, .inr ⟨by simpa using hw, rfl, fun listed W hl hW => hW.skip hD hk⟩, h⟩
theorem wpN_store (hD : Dep F js) (ty : TypeId) (x y : Operand) (ho : o.op = .store ty x y) (hw : Region.wanted o (yielded ops a.tmps) = true) {p u : Value} (hx : a.eval x = p) (hy : a.eval y = u)
    (hs : ∀ f W, F f W → ∃ W', (Instr.storeAt ty p u).run P W = .ok () W' ∧ F (fun i => i == k || f i) W') (h : wpF P md ops (CN F) Q rest (k + 1) (a.put o.dst undef)) : wpF P md ops (CN F) Q (o :: rest) k a := by
  refine ⟨undef, .inl ⟨hw, fun listed W hl hW => ?_⟩, h⟩
  obtain ⟨W', h1, h2⟩ := hs _ W hW
  unfold execOp
  simp only [ho, hx, hy, Sem.run_bind, h1, Result.andThen_ok, Sem.run_pure, uponF, true_and]
  refine hD _ _ _ (fun j hj => ?_) h2
  by_cases hjk : j = k
  · subst hjk
    rw [(getD_on (mem_ready.1 hl).1).2]; simp
  · have hne : k ≠ j := Ne.symm hjk
    rw [getD_set_ne false hne]; simp [hjk]
end
theorem wp_region_N {P : Program} {id : Nat} {Q : Exit → Act → World → Prop} {a : Act} {w : World} {l : List Oper} (F : (Nat → Bool) → World → Prop) (js : List Nat) (hD : Dep F js) (hm : P.follows .mixedOrders = true) (hB : Region.lexB .any l.toArray = true)
    (hf : (js.all fun j => (setAll l.length 0 (Array.replicate l.length false)).getD j false) = true)
    (hC : F (fun _ => false) w.drew)
    (h : wpF P .any l.toArray (CN F) (fun a' => ∀ w', F (fun _ => true) w' → Q .normal a' w') l 0 a) : (Code.region id l.toArray true).wp P Q a w := by
  have e : ∀ j, (Array.replicate l.length false).getD j false = false := fun j => getD_replicate_false _ _
  refine wp_region_F (CN F) hm hB ?_ ?_
  · exact hD _ _ _ (fun j _ => (e j).symm) hC
  · have e2 : ∀ w', CN F (setAll l.length 0 (Array.replicate l.length false)) w' → F (fun _ => true) w' := fun w' h' => hD _ _ _ (fun j hj => by simpa using List.all_eq_true.1 hf j hj) h'
    have mono : ∀ (r : List Oper) (k : Nat) (a' : Act), wpF P .any l.toArray (CN F) (fun a' => ∀ w', F (fun _ => true) w' → Q .normal a' w') r k a' → wpF P .any l.toArray (CN F) (fun a' => ∀ w', CN F (setAll l.length 0 (Array.replicate l.length false)) w' → Q .normal a' w') r k a' := by
      intro r
      induction r with
      | nil => intro k a' h0 w' h'; exact h0 w' (e2 w' h')
      | cons o r ih => intro k a' h0; obtain ⟨v, h1, h2⟩ := h0; exact ⟨v, h1, ih _ _ h2⟩
    exact mono l 0 a h
end Go.Proofs.Ytbfmdbeeiicabaa
namespace Go.Proofs.Ytbfmdbeeiicabaa
open Go Go.RowKit
/-- a block, and the store number k that makes 'new' of 'old' -/
structure Bk where
  g : Nat
  t : TypeId
  k : Nat
  old : Array Value
  new : Array Value
def FBx (w0 : World) (B : Nat) (L : List Bk) : (Nat → Bool) → World → Prop := fun f W => Below B w0 W ∧ ∀ p ∈ L, Bx W p.g p.t (if f p.k = true then p.new else p.old)
section
variable {w0 : World} {B : Nat} {L : List Bk} {js : List Nat}
theorem FBx.dep (h : ∀ p ∈ L, p.k ∈ js) : Dep (FBx w0 B L) js := by
  rintro f g W hfg ⟨h1, h2⟩
  exact ⟨h1, fun p hp => by rw [← hfg p.k (h p hp)]; exact h2 p hp⟩
theorem FBx.start {W : World} (h1 : Below B w0 W) (h2 : ∀ p ∈ L, Bx W p.g p.t p.old) : FBx w0 B L (fun _ => false) W.drew := ⟨h1.drew, fun p hp => by rw [if_neg (by simp)]; exact h2 p hp⟩
theorem FBx.done {W : World} (h : FBx w0 B L (fun _ => true) W) : Below B w0 W ∧ ∀ p ∈ L, Bx W p.g p.t p.new := ⟨h.1, fun p hp => by have := h.2 p hp; rwa [if_pos rfl] at this⟩
theorem FBx.cell (p : Bk) (hp : p ∈ L) (he : p.old = p.new) (x : FXN (FBx w0 B L)) (i : Nat) : x.W.cell? ⟨p.g, i, none⟩ = p.old[i]? := by
  obtain ⟨W, f, h⟩ := x
  have := h.2 p hp
  rw [← he] at this
  split at this <;> exact this.cell i
theorem FBx.base (x : FXN (FBx w0 B L)) : Below B w0 x.W := by obtain ⟨W, f, h⟩ := x; exact h.1
variable {P : Program} {k : Nat}
theorem FBx.step1 (p : Bk) (hp : p ∈ L) (hB : B ≤ p.g) (hk : p.k = k) {q : Nat} {u u0 u1 : Value} (ho : p.old[q]? = some u0) (hn : p.new[q]? = some u1) (h1 : p.old.setIfInBounds q u = p.new) (h2 : p.new.setIfInBounds q u = p.new)
    (hoth : ∀ p' ∈ L, p' = p ∨ (p'.g ≠ p.g ∧ (p'.k ≠ k ∨ p'.old = p'.new))) {ty : TypeId}
    (hs : ∀ (W : World) (u0 : Value), W.cell? ⟨p.g, q, none⟩ = some u0 → W.frozen? ⟨p.g, q, none⟩ = false → (Instr.storeAt ty (.pointer (some ⟨p.g, q, none⟩)) u).run P W = .ok () (W.setCell ⟨p.g, q, none⟩ u))
    (f : Nat → Bool) (W : World) (h : FBx w0 B L f W) : ∃ W', (Instr.storeAt ty (.pointer (some ⟨p.g, q, none⟩)) u).run P W = .ok () W' ∧ FBx w0 B L (fun i => i == k || f i) W' := by
  have hb := h.2 p hp
  have hc : ∃ v, W.cell? ⟨p.g, q, none⟩ = some v := by
    rw [hb.cell]; split
    · exact ⟨_, hn⟩
    · exact ⟨_, ho⟩
  obtain ⟨v, hc⟩ := hc
  refine ⟨_, hs W v hc (hb.free q), h.1.setCell (p := ⟨p.g, q, none⟩) hB _, fun p' hp' => ?_⟩
  rcases hoth p' hp' with rfl | ⟨e1, e2⟩
  · have := hb.set (i := q) u
    rw [if_pos (by simp [hk])]
    split at this
    · rwa [h2] at this
    · rwa [h1] at this
  · have := (h.2 p' hp').far (p := ⟨p.g, q, none⟩) e1 u
    rcases e2 with e2 | e2
    · simp only [show (p'.k == k) = false by rw [beq_eq_false_iff_ne]; exact e2, Bool.false_or]; exact this
    · rw [e2] at this ⊢
      split at this <;> split <;> exact this
theorem FBx.stepRow (p : Bk) (hp : p ∈ L) (hB : B ≤ p.g) (hk : p.k = k) {q : Nat} {cells : Array Value} (ho : q + cells.size ≤ p.old.size) (hn : q + cells.size ≤ p.new.size) (h1 : putL p.old q cells.toList = p.new) (h2 : putL p.new q cells.toList = p.new)
    (hoth : ∀ p' ∈ L, p' = p ∨ (p'.g ≠ p.g ∧ (p'.k ≠ k ∨ p'.old = p'.new))) {ty : TypeId} (hi : (P.info? ty).map (·.size) = some cells.size) (hc1 : cells.all (·.oneCell') = true)
    (f : Nat → Bool) (W : World) (h : FBx w0 B L f W) : ∃ W', (Instr.storeAt ty (.pointer (some ⟨p.g, q, none⟩)) (.agg cells)).run P W = .ok () W' ∧ FBx w0 B L (fun i => i == k || f i) W' := by
  have hb := h.2 p hp
  have ht : W.there p.g q cells.size := fun j hj => by
    refine ⟨?_, hb.free _⟩
    rw [hb.cell]
    split
    · rw [Array.getElem?_eq_getElem (by omega)]; rfl
    · rw [Array.getElem?_eq_getElem (by omega)]; rfl
  refine ⟨_, run_storeAt_mid (P := P) W p.g q ty cells ht hi hc1, below_setCells hB _ _ _ h.1, fun p' hp' => ?_⟩
  rcases hoth p' hp' with rfl | ⟨e1, e2⟩
  · have := Bx.setCells cells.toList q hb
    rw [if_pos (by simp [hk])]
    split at this
    · rwa [h2] at this
    · rwa [h1] at this
  · have := setCells_far e1 cells.toList q W (h.2 p' hp')
    rcases e2 with e2 | e2
    · simp only [show (p'.k == k) = false by rw [beq_eq_false_iff_ne]; exact e2, Bool.false_or]; exact this
    · rw [e2] at this ⊢
      split at this <;> split <;> exact this
end
section
variable {P : Program} {ops : Array Oper} {rest : List Oper} {o : Oper} {a : Act} {Q : Act → Prop} {F : (Nat → Bool) → World → Prop} {js : List Nat} {k : Nat} {md : Region.Mode}
/-- len(..) -/
theorem wpN_len (hD : Dep F js) {x : Operand} {ats : Array TypeId} (ho : o.op = .call { callee := .builtin .len, args := #[x], argTypes := ats }) (hk : k ∉ js) (hw : Region.wanted o (yielded ops a.tmps) = true) {v : Value}
    (hl : ∀ W, (Builtin.len_ ats o.type #[a.eval x]).run P W = .ok v W) (h : wpF P md ops (CN F) Q rest (k + 1) (a.put o.dst v)) : wpF P md ops (CN F) Q (o :: rest) k a := by
  refine ⟨v, .inl ⟨hw, fun listed W hl' hW => ?_⟩, h⟩
  have : (execOp a.eval o).run P W = .ok (.value v) W := by
    simp [execOp, ho, resolve, invoke, builtin, hl]
  rw [this]
  exact ⟨rfl, hW.skip hD hk⟩
/-- an operation that is passed over -/
theorem wpN_skip (hD : Dep F js) (hk : k ∉ js) (hw : Region.wanted o (yielded ops a.tmps) = false) (h : wpF P md ops (CN F) Q rest (k + 1) (a.put o.dst undef)) : wpF P md ops (CN F) Q (o :: rest) k a :=
  ⟨undef, .inr ⟨hw, rfl, fun listed W hl hW => hW.skip hD hk⟩, h⟩
end
theorem store_bool {P : Program} {ty : TypeId} (hi : (P.info? ty).map (·.size) = some 1) (W : World) (ad : Addr) (u0 : Value) (b : Bool) (hc : W.cell? ad = some u0) (hf : W.frozen? ad = false) : (Instr.storeAt ty (.pointer (some ad)) (.bool b)).run P W = .ok () (W.setCell ad (.bool b)) := by
  obtain ⟨i, hi', e⟩ := Option.map_eq_some_iff.1 hi
  simp [go_sem, hc, hf, sizeOf, typeInfo, hi', e]
end Go.Proofs.Ytbfmdbeeiicabaa
namespace Go.Proofs.Ytbfmdbeeiicabaa
open Go Go.RowKit
section
variable {P : Program} {ops : Array Oper} {rest : List Oper} {o : Oper} {a : Act} {Q : Act → Prop} {F : (Nat → Bool) → World → Prop} {js : List Nat} {k : Nat} {md : Region.Mode}
end
/-- one of five worlds, by which of four operations are done, one behind the other -/
def FCh (k1 k2 k3 k4 : Nat) (W0 W1 W2 W3 W4 : World) : (Nat → Bool) → World → Prop := fun f W =>
  (f k2 = true → f k1 = true) ∧ (f k3 = true → f k2 = true) ∧ (f k4 = true → f k3 = true) ∧ W = (if f k4 = true then W4 else if f k3 = true then W3 else if f k2 = true then W2 else if f k1 = true then W1 else W0)
section
variable {k1 k2 k3 k4 : Nat} {W0 W1 W2 W3 W4 : World}
theorem FCh.dep : Dep (FCh k1 k2 k3 k4 W0 W1 W2 W3 W4) [k1, k2, k3, k4] := by
  rintro f g W hfg ⟨h1, h2, h3, h4⟩
  have e1 := hfg k1 (by simp); have e2 := hfg k2 (by simp); have e3 := hfg k3 (by simp); have e4 := hfg k4 (by simp)
  rw [e1, e2] at h1; rw [e2, e3] at h2; rw [e3, e4] at h3; rw [e1, e2, e3, e4] at h4
  exact ⟨h1, h2, h3, h4⟩
theorem FCh.start : FCh k1 k2 k3 k4 W0 W1 W2 W3 W4 (fun _ => false) W0 := ⟨by simp, by simp, by simp, by simp⟩
theorem FCh.done {W : World} (h : FCh k1 k2 k3 k4 W0 W1 W2 W3 W4 (fun _ => true) W) : W = W4 := by have := h.2.2.2; simpa using this
theorem no_of {b c : Bool} (h : b = true → c = true) (hc : c = false) : b = false := by cases b; rfl; rw [h rfl] at hc; cases hc
theorem FCh.s1 (hk : k1 ≠ k2 ∧ k1 ≠ k3 ∧ k1 ≠ k4) {f : Nat → Bool} {W : World} (h : FCh k1 k2 k3 k4 W0 W1 W2 W3 W4 f W) (h0 : f k1 = false) : W = W0 ∧ FCh k1 k2 k3 k4 W0 W1 W2 W3 W4 (fun i => i == k1 || f i) W1 := by
  obtain ⟨a1, a2, a3, a4⟩ := h
  have b2 := no_of a1 h0; have b3 := no_of a2 b2; have b4 := no_of a3 b3
  refine ⟨by rw [a4]; simp [h0, b2, b3, b4], by simp, ?_, ?_, ?_⟩
  · simp only [b3, Bool.or_false]; intro h; rw [beq_iff_eq] at h; exact absurd h.symm hk.2.1
  · simp only [b4, Bool.or_false]; intro h; rw [beq_iff_eq] at h; exact absurd h.symm hk.2.2
  · have e2 : (k2 == k1) = false := by rw [beq_eq_false_iff_ne]; exact hk.1.symm
    have e3 : (k3 == k1) = false := by rw [beq_eq_false_iff_ne]; exact hk.2.1.symm
    have e4 : (k4 == k1) = false := by rw [beq_eq_false_iff_ne]; exact hk.2.2.symm
    simp [b2, b3, b4, e2, e3, e4]
theorem FCh.s2 (hk : k2 ≠ k1 ∧ k2 ≠ k3 ∧ k2 ≠ k4) {f : Nat → Bool} {W : World} (h : FCh k1 k2 k3 k4 W0 W1 W2 W3 W4 f W) (h0 : f k2 = false) (h1 : f k1 = true) : W = W1 ∧ FCh k1 k2 k3 k4 W0 W1 W2 W3 W4 (fun i => i == k2 || f i) W2 := by
  obtain ⟨a1, a2, a3, a4⟩ := h
  have b3 := no_of a2 h0; have b4 := no_of a3 b3
  have e1 : (k1 == k2) = false := by rw [beq_eq_false_iff_ne]; exact hk.1.symm
  have e3 : (k3 == k2) = false := by rw [beq_eq_false_iff_ne]; exact hk.2.1.symm
  have e4 : (k4 == k2) = false := by rw [beq_eq_false_iff_ne]; exact hk.2.2.symm
  exact ⟨by rw [a4]; simp [h0, h1, b3, b4], by simp [h1], by simp, by simp [b4, e4], by simp [b3, b4, e3, e4]⟩
theorem FCh.s3 (hk : k3 ≠ k1 ∧ k3 ≠ k2 ∧ k3 ≠ k4) {f : Nat → Bool} {W : World} (h : FCh k1 k2 k3 k4 W0 W1 W2 W3 W4 f W) (h0 : f k3 = false) (h1 : f k2 = true) : W = W2 ∧ FCh k1 k2 k3 k4 W0 W1 W2 W3 W4 (fun i => i == k3 || f i) W3 := by
  obtain ⟨a1, a2, a3, a4⟩ := h
  have b4 := no_of a3 h0
  have e4 : (k4 == k3) = false := by rw [beq_eq_false_iff_ne]; exact hk.2.2.symm
  exact ⟨by rw [a4]; simp [h0, h1, b4], by simp [a1 h1], by simp [h1], by simp, by simp [b4, e4]⟩
theorem FCh.s4 (hk : k4 ≠ k1 ∧ k4 ≠ k2 ∧ k4 ≠ k3) {f : Nat → Bool} {W : World} (h : FCh k1 k2 k3 k4 W0 W1 W2 W3 W4 f W) (h0 : f k4 = false) (h1 : f k3 = true) : W = W3 ∧ FCh k1 k2 k3 k4 W0 W1 W2 W3 W4 (fun i => i == k4 || f i) W4 := by
  obtain ⟨a1, a2, a3, a4⟩ := h
  exact ⟨by rw [a4]; simp [h0, h1], by simp [a1 (a2 h1)], by simp [a2 h1], by simp [h1], by simp⟩
end
/-- one of four worlds, by which of three operations are done, one behind the other -/
def FC3 (k1 k2 k3 : Nat) (W0 W1 W2 W3 : World) : (Nat → Bool) → World → Prop := fun f W =>
  (f k2 = true → f k1 = true) ∧ (f k3 = true → f k2 = true) ∧ W = (if f k3 = true then W3 else if f k2 = true then W2 else if f k1 = true then W1 else W0)
section
variable {k1 k2 k3 : Nat} {W0 W1 W2 W3 : World}
theorem FC3.dep : Dep (FC3 k1 k2 k3 W0 W1 W2 W3) [k1, k2, k3] := by
  rintro f g W hfg ⟨h1, h2, h4⟩
  have e1 := hfg k1 (by simp); have e2 := hfg k2 (by simp); have e3 := hfg k3 (by simp)
  rw [e1, e2] at h1; rw [e2, e3] at h2; rw [e1, e2, e3] at h4
  exact ⟨h1, h2, h4⟩
theorem FC3.start : FC3 k1 k2 k3 W0 W1 W2 W3 (fun _ => false) W0 := ⟨by simp, by simp, by simp⟩
theorem FC3.done {W : World} (h : FC3 k1 k2 k3 W0 W1 W2 W3 (fun _ => true) W) : W = W3 := by have := h.2.2; simpa using this
theorem FC3.s1 (hk : k1 ≠ k2 ∧ k1 ≠ k3) {f : Nat → Bool} {W : World} (h : FC3 k1 k2 k3 W0 W1 W2 W3 f W) (h0 : f k1 = false) : W = W0 ∧ FC3 k1 k2 k3 W0 W1 W2 W3 (fun i => i == k1 || f i) W1 := by
  obtain ⟨a1, a2, a4⟩ := h
  have b2 := no_of a1 h0; have b3 := no_of a2 b2
  have e2 : (k2 == k1) = false := by rw [beq_eq_false_iff_ne]; exact hk.1.symm
  have e3 : (k3 == k1) = false := by rw [beq_eq_false_iff_ne]; exact hk.2.symm
  exact ⟨by rw [a4]; simp [h0, b2, b3], by simp, by simp [b3, e3], by simp [b2, b3, e2, e3]⟩
theorem FC3.s2 (hk : k2 ≠ k1 ∧ k2 ≠ k3) {f : Nat → Bool} {W : World} (h : FC3 k1 k2 k3 W0 W1 W2 W3 f W) (h0 : f k2 = false) (h1 : f k1 = true) : W = W1 ∧ FC3 k1 k2 k3 W0 W1 W2 W3 (fun i => i == k2 || f i) W2 := by
  obtain ⟨a1, a2, a4⟩ := h
  have b3 := no_of a2 h0
  have e3 : (k3 == k2) = false := by rw [beq_eq_false_iff_ne]; exact hk.2.symm
  exact ⟨by rw [a4]; simp [h0, h1, b3], by simp [h1], by simp, by simp [b3, e3]⟩
theorem FC3.s3 (hk : k3 ≠ k1 ∧ k3 ≠ k2) {f : Nat → Bool} {W : World} (h : FC3 k1 k2 k3 W0 W1 W2 W3 f W) (h0 : f k3 = false) (h1 : f k2 = true) : W = W2 ∧ FC3 k1 k2 k3 W0 W1 W2 W3 (fun i => i == k3 || f i) W3 := by
  obtain ⟨a1, a2, a4⟩ := h
  exact ⟨by rw [a4]; simp [h0, h1], by simp [a1 h1], by simp [h1], by simp⟩
end
end Go.Proofs.Ytbfmdbeeiicabaa
namespace Go.Proofs.Ytbfmdbeeiicabaa
open Go Go.RowKit
/-- the first d of the operations ks are done, the world is Ws d; the read r comes before the operation number m. -/
def FL (ks : List Nat) (Ws : Nat → World) (r m : Nat) : (Nat → Bool) → World → Prop := fun f W =>
  ∃ d, d ≤ ks.length ∧ (∀ i k, ks[i]? = some k → f k = decide (i < d)) ∧ W = Ws d ∧ (m < d → f r = true)
section
variable {ks : List Nat} {Ws : Nat → World} {r m : Nat}
theorem FL.dep : Dep (FL ks Ws r m) (r :: ks) := by
  rintro f g W hfg ⟨d, h1, h2, h3, h4⟩
  refine ⟨d, h1, fun i k hk => ?_, h3, fun hm => ?_⟩
  · rw [← hfg k (List.mem_cons_of_mem _ (List.mem_of_getElem? hk))]; exact h2 i k hk
  · rw [← hfg r List.mem_cons_self]; exact h4 hm
theorem FL.start : FL ks Ws r m (fun _ => false) (Ws 0) := ⟨0, Nat.zero_le _, fun i k _ => by simp, rfl, fun h => by omega⟩
theorem FL.done {W : World} (h : FL ks Ws r m (fun _ => true) W) : W = Ws ks.length := by
  obtain ⟨d, h1, h2, h3, h4⟩ := h
  rw [h3]
  congr 1
  by_cases hd : d = ks.length
  · exact hd
  · have hlt : d < ks.length := by omega
    have := h2 d ks[d] (List.getElem?_eq_getElem hlt)
    simp at this
theorem FL.step {i k : Nat} (hk : ks[i]? = some k) (hn : ks.Nodup) {f : Nat → Bool} {W : World} (h : FL ks Ws r m f W) (h0 : f k = false) (hp : ∀ p, i = p + 1 → ∀ k', ks[p]? = some k' → f k' = true) (hm : i = m → f r = true) :
    W = Ws i ∧ FL ks Ws r m (fun j => j == k || f j) (Ws (i + 1)) := by
  obtain ⟨d, h1, h2, h3, h4⟩ := h
  have hil : i < ks.length := (List.getElem?_eq_some_iff.1 hk).1
  have hd1 : ¬ i < d := by have := h2 i k hk; rw [h0] at this; simpa using this.symm
  have hd2 : i ≤ d := by
    rcases i with _ | p
    · omega
    · have hp' : ks[p]? = some ks[p] := List.getElem?_eq_getElem (by omega)
      have e1 := hp p rfl _ hp'
      rw [h2 p _ hp'] at e1
      have := of_decide_eq_true e1
      omega
  obtain rfl : d = i := by omega
  refine ⟨h3, d + 1, by omega, fun j k' hk' => ?_, rfl, fun hmd => ?_⟩
  · by_cases hj : j = d
    · subst hj
      rw [hk] at hk'; injection hk' with hk'; subst hk'
      simp
    · have hne : k' ≠ k := fun e => by
        subst e
        exact hj ((List.getElem?_inj (List.getElem?_eq_some_iff.1 hk').1 hn).1 (hk'.trans hk.symm))
      have e1 : (k' == k) = false := by rw [beq_eq_false_iff_ne]; exact hne
      simp only [e1, Bool.false_or]
      rw [h2 j k' hk']
      have : (j < d) = (j < d + 1) := by rw [eq_iff_iff]; omega
      simp only [this]
  · by_cases hmi : d = m
    · simp [hm hmi]
    · simp [h4 (by omega)]
theorem FL.prev {p q : Nat} {f : Nat → Bool} (hq : ks[p]? = some q) (h : f q = true) : ∀ p', p + 1 = p' + 1 → ∀ k', ks[p']? = some k' → f k' = true := by
  intro p' hp k' hk
  obtain rfl : p = p' := by omega
  rw [hq] at hk; injection hk with hk; subst hk; exact h
theorem FL.read (hr : r ∉ ks) {f : Nat → Bool} {W : World} (h : FL ks Ws r m f W) (h0 : f r = false) : (∃ d, d ≤ ks.length ∧ d ≤ m ∧ W = Ws d) ∧ FL ks Ws r m (fun j => j == r || f j) W := by
  obtain ⟨d, h1, h2, h3, h4⟩ := h
  have hdm : d ≤ m := by
    rcases Nat.lt_or_ge m d with h | h
    · rw [h4 h] at h0; cases h0
    · exact h
  refine ⟨⟨d, h1, hdm, h3⟩, d, h1, fun i k hk => ?_, h3, fun _ => by simp⟩
  have hne : (k == r) = false := by rw [beq_eq_false_iff_ne]; exact fun e => hr (e ▸ List.mem_of_getElem? hk)
  simp only [hne, Bool.false_or]
  exact h2 i k hk
theorem FL.all {p : World → Prop} (h : ∀ d, d ≤ ks.length → p (Ws d)) (x : FXN (FL ks Ws r m)) : p x.W := by
  obtain ⟨W, f, d, h1, _, h3, _⟩ := x
  subst h3; exact h d h1
end
section
variable {P : Program} {ops : Array Oper} {rest : List Oper} {o : Oper} {a : Act} {Q : Act → Prop} {F : (Nat → Bool) → World → Prop} {js : List Nat} {k : Nat} {md : Region.Mode}
/-- a store, where others that it waits for are done -/
theorem wpN_storeD (hD : Dep F js) (hi : ops[k]? = some o) (ty : TypeId) (px py : Operand) (ho : o.op = .store ty px py) (hw : Region.wanted o (yielded ops a.tmps) = true) {p u : Value} (hx : a.eval px = p) (hy : a.eval py = u) (dep : List Nat) (hd : (dep.all fun j => o.after.any fun e => Region.binds md e && e.on == j) = true)
    (hs : ∀ f W, F f W → f k = false → (∀ j ∈ dep, f j = true) → ∃ W', (Instr.storeAt ty p u).run P W = .ok () W' ∧ F (fun i => i == k || f i) W') (h : wpF P md ops (CN F) Q rest (k + 1) (a.put o.dst undef)) : wpF P md ops (CN F) Q (o :: rest) k a := by
  refine ⟨undef, .inl ⟨hw, fun listed W hl hW => ?_⟩, h⟩
  have hk : listed.getD k false = false := by
    have h1 := (mem_ready.1 hl).1
    rcases Nat.lt_or_ge k listed.size with h' | h'
    · simp [h'] at h1 ⊢; exact h1
    · simp [Array.getElem?_eq_none h'] at h1 
  obtain ⟨W', h1, h2⟩ := hs _ W hW hk (fun j hj => ready_after hi (List.all_eq_true.1 hd j hj) hl)
  unfold execOp
  simp only [ho, hx, hy, Sem.run_bind, h1, Result.andThen_ok, Sem.run_pure, uponF, true_and]
  refine hD _ _ _ (fun j hj => ?_) h2
  by_cases hjk : j = k
  · subst hjk
    rw [(getD_on (mem_ready.1 hl).1).2]; simp
  · have hne : k ≠ j := Ne.symm hjk
    rw [getD_set_ne false hne]; simp [hjk]
end
end Go.Proofs.Ytbfmdbeeiicabaa
namespace Go.Proofs.Ytbfmdbeeiicabaa
open Go Go.RowKit
section
variable {P : Program} {ops : Array Oper} {md : Region.Mode}
def uponV (Post : World → Prop) (v : Value) : Result Next → Prop
  | .ok (.value u) w' => u = v ∧ Post w'
  | .ok .skip w' => v = undef ∧ Post w'
  | _ => False
def YieldsV (P : Program) (md : Region.Mode) (ops : Array Oper) (C : Array Bool → World → Prop) (i : Nat) (o : Oper) (v : Value) (a : Act) : Prop :=
  (Region.wanted o (yielded ops a.tmps) = true ∧ ∀ listed w, i ∈ Region.ready md ops listed → C listed w → uponV (C (listed.setIfInBounds i true)) v ((execOp a.eval o).run P w)) ∨
  (Region.wanted o (yielded ops a.tmps) = false ∧ v = undef ∧ ∀ listed w, i ∈ Region.ready md ops listed → C listed w → C (listed.setIfInBounds i true) w)
/-- number k0 yields the value x, whatever its world; the others as they do -/
def YieldsG (P : Program) (md : Region.Mode) (ops : Array Oper) (C : Array Bool → World → Prop) (k0 : Nat) (x : Value) (i : Nat) (o : Oper) (v : Value) (a : Act) : Prop :=
  (i = k0 ∧ v = x ∧ Region.wanted o (yielded ops a.tmps) = true) ∨ (i ≠ k0 ∧ YieldsV P md ops C i o v a)
theorem YieldsV.of_same {C : Array Bool → World → Prop} {i : Nat} {o : Oper} {v : Value} {a a' : Act} (hy : YieldsV P md ops C i o v a) (he : execOp a'.eval o = execOp a.eval o)
    (hw : Region.wanted o (yielded ops a'.tmps) = Region.wanted o (yielded ops a.tmps)) : YieldsV P md ops C i o v a' := by
  unfold YieldsV at *
  rw [he, hw]
  exact hy
/-- what is known of the operation k0: whatever it runs on, it runs alike at two acts -/
def G0 (k0 : Nat) (T : Act → Prop) (ops : Array Oper) : Prop := ∀ o, ops[k0]? = some o → ∀ a a' : Act, execOp a'.eval o = execOp a.eval o → T a → T a'
theorem YieldsG.of_same {C : Array Bool → World → Prop} {k0 : Nat} {x : Value} {i : Nat} {o : Oper} {v : Value} {a a' : Act} (hy : YieldsG P md ops C k0 x i o v a) (he : execOp a'.eval o = execOp a.eval o)
    (hw : Region.wanted o (yielded ops a'.tmps) = Region.wanted o (yielded ops a.tmps)) : YieldsG P md ops C k0 x i o v a' := by
  rcases hy with ⟨h1, h2, h3⟩ | ⟨h1, h2⟩
  · exact .inl ⟨h1, h2, by rw [hw]; exact h3⟩
  · exact .inr ⟨h1, h2.of_same he hw⟩
variable {C : Array Bool → World → Prop} {k0 : Nat} {x : Value} {T : Sem Next → Prop}
end
section
variable {P : Program} {ops : Array Oper} {rest : List Oper} {o : Oper} {a : Act} {Q : Act → Prop} {F : (Nat → Bool) → World → Prop} {js : List Nat} {k k0 : Nat} {md : Region.Mode} {x : Value} {T : Sem Next → Prop}
end
end Go.Proofs.Ytbfmdbeeiicabaa
namespace Go.Proofs.Ytbfmdbeeiicabaa
open Go.RowKit L02 L13 L18 L20
set_option maxRecDepth 100000 in
set_option maxHeartbeats 1000000 in
theorem CloneW_rd (x : Value) (n : Nat) (xs : List Value) (hn : n ≤ 1000) (h1 : ∀ u ∈ xs, u.oneCell' = true) (w : World) (h : Rd w 1 x n xs) :
    Calls Try.prog 80 #[x] w fun e w' => ∃ y, e = .returned y ∧ w'.ownsRow w.heap.size 34 1 y n xs ∧ Below w.heap.size w w' := by
  have B : Below w.heap.size w w := Below.refl _ _
  have HX := Lib.hid h; have HU := Lib.hid h1
  obtain ⟨A, c, rfl, hc, _, hl, hA, _⟩ := h
  rcases A with _ | ad
  · have hc0 := hA rfl
    subst hc0
    obtain rfl : n = 0 := by omega
    obtain rfl : xs = [] := List.eq_nil_of_length_eq_zero (by simpa using hl)
    clear hl hA hc
    have q : ∀ W, (binOp .eql 22 (.slice none 0 0) (.slice none 0 0)).run Try.prog W = .ok (.bool true) W := fun W => Lib.run_eql_slice_nil W _ _ _ _ _ _ _ Try.underlying22
    go_enter Try.func80, Try.ntmps80
    go_wp2
    go_ret
    exact ⟨_, rfl, World.ownsRow_nil _ _ _ _, B⟩
  · clear hl hA hc
    have q : ∀ W, (binOp .eql 22 (.slice (some ad) n c) (.slice none 0 0)).run Try.prog W = .ok (.bool false) W := fun W => Lib.run_eql_slice_nil W _ _ _ _ _ _ _ Try.underlying22
    go_enter Try.func80, Try.ntmps80
    go_wp2_with (at_builtin; refine wpList_append (by rfl) rfl rfl rfl Try.underlying22 info_u64 rfl (by omega) (by exact lit0_own (Nat.le_refl _)) (by exact HX.out.alloc _) HU.out (by omega) (by omega) (by exact B.alloc B.size _) (Nat.le_refl _) ?_; intro v1 w3 o3 B3 g3; clear g3)
    go_ret
    exact ⟨_, rfl, by simpa using o3, B3⟩
theorem CloneW_any (x : Value) (l : List UInt64) (hn : l.length ≤ 1000) (w : World) (h : Words w x l) :
    Calls Try.prog 80 #[x] w fun e w' => ∃ y, e = .returned y ∧ OwnW w' w.heap.size 34 y l ∧ Below w.heap.size w w' := CloneW_rd x _ _ hn (one_u64s l) w h
end Go.Proofs.Ytbfmdbeeiicabaa
namespace Go.Proofs.Ytbfmdbeeiicabaa
open Go.RowKit
theorem grown_set (w : World) (p : Addr) (u : Value) : w.grownBy (w.setCell p u) (some p.block) :=
  ⟨rfl, rfl, rfl, by simp [World.setCell], fun k hk hne => Below.heap_setCell w p u k (fun e => hne (by rw [e]))⟩
theorem own_not_bx {w : World} {B e sz n p : Nat} {v : Value} {xs : List Value} {t : TypeId} {cs : Array Value} (h : w.ownsRow B e sz v n xs) (hg : Bx w p t cs) (hne : e ≠ t) : v.ownBlock = none ∨ v.ownBlock ≠ some p := by
  rcases h.2 with ⟨rfl, _⟩ | ⟨g, cap, cur, rfl, _, hgg, _⟩
  · exact .inl rfl
  · refine .inr ?_
    intro he
    simp [Value.ownBlock] at he
    subst he
    rw [Bx, hgg] at hg
    injection hg with hg
    injection hg with _ h2 _
    exact hne h2
theorem own_set {w : World} {B e sz n p i : Nat} {v u : Value} {xs : List Value} {t : TypeId} {cs : Array Value} (h : w.ownsRow B e sz v n xs) (hg : Bx w p t cs) (hne : e ≠ t) : (w.setCell ⟨p, i, none⟩ u).ownsRow B e sz v n xs :=
  World.ownsRow.kept h (grown_set w ⟨p, i, none⟩ u) (own_not_bx h hg hne)
theorem Bx.grown {w w' : World} {g : Nat} {t : TypeId} {cs : Array Value} {row : Option Nat} (h : Bx w g t cs) (hg : w.grownBy w' row) (hne : row = none ∨ row ≠ some g) : Bx w' g t cs := by
  have hl := h.lt
  unfold Bx at *
  rw [hg.block g hl (by rcases hne with rfl | h; · simp
                        · exact fun e => h e.symm)]
  exact h
theorem own_fresh {w : World} {B e sz n : Nat} {v : Value} {xs : List Value} (h : w.ownsRow B e sz v n xs) : v.ownBlock = none ∨ v.ownBlock ≠ some w.heap.size := by
  cases hv : v.ownBlock with
  | none => exact .inl rfl
  | some g => exact .inr (fun e => by injection e with e; have := (h.lt g hv).2; omega)
/-- a store below the base of a row -/
theorem own_apart {w : World} {B e sz n p i : Nat} {v u : Value} {xs : List Value} (h : w.ownsRow B e sz v n xs) (hp : p < B) : (w.setCell ⟨p, i, none⟩ u).ownsRow B e sz v n xs := by
  refine World.ownsRow.kept h (grown_set w ⟨p, i, none⟩ u) ?_
  cases hv : v.ownBlock with
  | none => exact .inl rfl
  | some g => exact .inr (fun e => by injection e with e; subst e; have := (h.lt g hv).1; omega)
/-- the blocks from lo to hi are as they were -/
def Mid (lo hi : Nat) (w w' : World) : Prop := ∀ k, lo ≤ k → k < hi → w'.heap[k]? = w.heap[k]?
theorem Mid.refl (lo hi : Nat) (w : World) : Mid lo hi w w := fun _ _ _ => rfl
theorem Mid.set {lo hi : Nat} {w w' : World} (h : Mid lo hi w w') {p : Addr} (hp : p.block < lo ∨ hi ≤ p.block) (u : Value) : Mid lo hi w (w'.setCell p u) := fun k h1 h2 =>
  (Below.heap_setCell w' p u k (by omega)).trans (h k h1 h2)
theorem Mid.grown {lo hi : Nat} {w w' w'' : World} {row : Option Nat} (h : Mid lo hi w w') (hs : hi ≤ w'.heap.size) (hg : w'.grownBy w'' row) (hr : ∀ k, row = some k → k < lo ∨ hi ≤ k) : Mid lo hi w w'' := fun k h1 h2 =>
  (hg.block k (by omega) (fun e => by have := hr k e.symm; omega)).trans (h k h1 h2)
theorem Mid.below {lo hi : Nat} {w w' w'' : World} (h : Mid lo hi w w') (hs : hi ≤ w'.heap.size) (hb : Below w'.heap.size w' w'') : Mid lo hi w w'' := fun k h1 h2 =>
  (hb.block k (by omega)).trans (h k h1 h2)
theorem own_mid {lo e sz n : Nat} {w w' : World} {v : Value} {xs : List Value} (h : w.ownsRow lo e sz v n xs) (hm : Mid lo w.heap.size w w') : w'.ownsRow lo e sz v n xs := by
  refine ⟨h.1, h.2.imp id ?_⟩
  rintro ⟨g, cap, cur, h1, h2, h3, h4⟩
  exact ⟨g, cap, cur, h1, h2, (hm g h2 (Array.getElem?_eq_some_iff.1 h3).1).trans h3, h4⟩
end Go.Proofs.Ytbfmdbeeiicabaa
namespace Go.Proofs.Ytbfmdbeeiicabaa
open Go.RowKit L02 L13 L18 L20
theorem OwnT.set {w : World} {B p i : Nat} {v u : Value} {L : List (List UInt8)} {t : TypeId} {cs : Array Value} (h : OwnT w B v L) (hg : Bx w p t cs) (h1 : 44 ≠ t) (h2 : 5 ≠ t) : OwnT (w.setCell ⟨p, i, none⟩ u) B v L := by
  obtain ⟨vs, a1, a2, a4⟩ := h; exact ⟨vs, a1, own_set a2 hg h1, fun i x l h5 h6 => own_set (a4 i x l h5 h6) hg h2⟩
theorem OwnO.set {w : World} {B p i : Nat} {v u : Value} {L : List Ob} {t : TypeId} {cs : Array Value} (h : OwnO w B v L) (hg : Bx w p t cs) (h1 : 136 ≠ t) (h2 : 34 ≠ t) : OwnO (w.setCell ⟨p, i, none⟩ u) B v L := by
  obtain ⟨vs, a1, a2, a4, a5⟩ := h; exact ⟨vs, a1, own_set a2 hg h1, fun i x l h5 h6 => own_set (a4 i x l h5 h6) hg h2, a5⟩
/-- one more object: xs the slices of fields, x the new one; the row was appended to. -/
theorem OwnO.snoc {w w' : World} {base n : Nat} {v v' x : Value} {L : List Ob} {o : Ob} {vs : List Value} (h1 : vs.length = L.length) (ho0 : w.ownsRow base 136 2 v L.length (obC L vs)) (ho : w'.ownsRow base 136 2 v' n (obC L vs ++ [i64 o.ty, x]))
    (h4 : ∀ (i : Nat) x l, vs[i]? = some x → L[i]? = some l → OwnW w base 34 x l.fs) (h5 : ∀ (i j : Nat) x y, i ≠ j → vs[i]? = some x → vs[j]? = some y → x.ownBlock = none ∨ x.ownBlock ≠ y.ownBlock)
    (hx : OwnW w base 34 x o.fs) (hap : ∀ (i : Nat) y, vs[i]? = some y → (x.ownBlock = none ∨ x.ownBlock ≠ y.ownBlock) ∧ (y.ownBlock = none ∨ y.ownBlock ≠ x.ownBlock)) (hg : w.grownBy w' v.ownBlock) : OwnO w' base v' (L ++ [o]) := by
  have hn : n = (L ++ [o]).length := by have := ho.1; rw [List.length_append, obC_len h1] at this; simp at this ⊢; omega
  subst hn
  have keep : ∀ y m, OwnW w base 34 y m → OwnW w' base 34 y m := fun y m hy => World.ownsRow.kept hy hg (own_unlike hy ho0 (by decide))
  have idx : ∀ i, i ≥ vs.length → ∀ y, (vs ++ [x])[i]? = some y → i = vs.length ∧ y = x := by
    intro i hi y hy
    rw [List.getElem?_append_right hi] at hy
    have h0 : i - vs.length = 0 := by
      rcases Nat.eq_zero_or_pos (i - vs.length) with h | h
      · exact h
      · rw [List.getElem?_eq_none (by simp; omega)] at hy; cases hy
    rw [h0] at hy
    simp at hy
    exact ⟨by omega, hy.symm⟩
  refine ⟨vs ++ [x], by simp [h1], by rw [obC_snoc h1]; exact ho, fun i y l hy hl => ?_, fun i j y z hij hy hz => ?_⟩
  · by_cases hi : i < vs.length
    · rw [List.getElem?_append_left hi] at hy
      rw [List.getElem?_append_left (by omega)] at hl
      exact keep _ _ (h4 i y l hy hl)
    · obtain ⟨rfl, rfl⟩ := idx i (by omega) y hy
      rw [List.getElem?_append_right (by omega), h1] at hl
      simp at hl; subst hl
      exact keep _ _ hx
  · by_cases hi : i < vs.length
    · rw [List.getElem?_append_left hi] at hy
      by_cases hj : j < vs.length
      · rw [List.getElem?_append_left hj] at hz
        exact h5 i j y z hij hy hz
      · obtain ⟨_, rfl⟩ := idx j (by omega) z hz
        exact (hap i y hy).2
    · obtain ⟨e1, rfl⟩ := idx i (by omega) y hy
      by_cases hj : j < vs.length
      · rw [List.getElem?_append_left hj] at hz
        exact (hap j z hz).1
      · obtain ⟨e2, rfl⟩ := idx j (by omega) z hz
        omega
theorem own_form' {w : World} {B e sz n : Nat} {v : Value} {xs : List Value} (h : w.ownsRow B e sz v n xs) : ∃ A c, v = .slice A n c := by
  obtain ⟨A, c, e, _⟩ := Rd.of_own h; exact ⟨A, c, e⟩
theorem OwnT.kept {w w' : World} {B B2 e n sz : Nat} {v a : Value} {L : List (List UInt8)} {xs : List Value} (h : OwnT w B v L) (ha : w.ownsRow B2 e sz a n xs) (hg : w.grownBy w' a.ownBlock) (h1 : 44 ≠ e) (h2 : 5 ≠ e) : OwnT w' B v L := by
  obtain ⟨vs, a1, a2, a4⟩ := h
  exact ⟨vs, a1, World.ownsRow.kept a2 hg (own_unlike a2 ha h1), fun i x l h5 h6 => World.ownsRow.kept (a4 i x l h5 h6) hg (own_unlike (a4 i x l h5 h6) ha h2)⟩
/-- what one more copied object leaves of memory -/
theorem copyO_mem {w wr W1 W3 : World} {B0 p a b n : Nat} {ot y v xt ys : Value} {vs : List Value} {L : List Ob} {o : Ob} {S : List Sl} {T : List (List UInt8)} {cs1 cs2 : Array Value}
    (z1 : vs.length = L.length) (z2 : wr.ownsRow B0 136 2 ot L.length (obC L vs)) (z4 : ∀ (i : Nat) x l, vs[i]? = some x → L[i]? = some l → OwnW wr B0 34 x l.fs)
    (z5 : ∀ (i j : Nat) x y, i ≠ j → vs[i]? = some x → vs[j]? = some y → x.ownBlock = none ∨ x.ownBlock ≠ y.ownBlock)
    (oy : OwnW W1 wr.heap.size 34 y o.fs) (b1 : Below wr.heap.size wr W1) (hown : W3.ownsRow B0 136 2 v n (obC L vs ++ [i64 o.ty, y])) (hgr : (W1.alloc (.cells #[i64 o.ty, y] 136)).grownBy W3 ot.ownBlock)
    (q1 : Bx wr a 79 cs1) (q2 : Bx wr b 79 cs2) (q3 : Bx wr p 79 #[xt, ot, ys]) (oT : OwnT wr B0 xt T) (oS : OwnS wr B0 68 ys S) (B : Below B0 w wr) (hB : B0 ≤ wr.heap.size) (ha : a ≠ p) (hb : b ≠ p) (hp : B0 ≤ p) {q : Nat} {tq : TypeId} {cs4 : Array Value} (q4 : Bx wr q tq cs4) (hq : ot.ownBlock = none ∨ ot.ownBlock ≠ some q) (hqp : q ≠ p) :
    (W3.cell? ⟨p, 1, none⟩ = some ot ∧ W3.frozen? ⟨p, 1, none⟩ = false) ∧ OwnO (W3.setCell ⟨p, 1, none⟩ v) B0 v (L ++ [o]) ∧ Bx (W3.setCell ⟨p, 1, none⟩ v) a 79 cs1 ∧ Bx (W3.setCell ⟨p, 1, none⟩ v) b 79 cs2 ∧ Bx (W3.setCell ⟨p, 1, none⟩ v) p 79 #[xt, v, ys] ∧
      OwnT (W3.setCell ⟨p, 1, none⟩ v) B0 xt T ∧ OwnS (W3.setCell ⟨p, 1, none⟩ v) B0 68 ys S ∧ Below B0 w (W3.setCell ⟨p, 1, none⟩ v) ∧ Bx W3 q tq cs4 ∧ Bx (W3.setCell ⟨p, 1, none⟩ v) q tq cs4 := by
  have b2 : Below wr.heap.size wr (W1.alloc (.cells #[i64 o.ty, y] 136)) := b1.alloc b1.size _
  have z2' := own_below z2 b2
  have nx := fun {g : Nat} {cs : Array Value} (hq : Bx (W1.alloc (.cells #[i64 o.ty, y] 136)) g 79 cs) => Bx.grown hq hgr (own_not_bx z2' hq (by decide))
  have r1 := nx (q1.below b2); have r2 := nx (q2.below b2); have r3 := nx (q3.below b2)
  have oS' : OwnS W3 B0 68 ys S := World.ownsRow.kept (own_below oS b2) hgr (own_unlike (own_below oS b2) z2' (by decide))
  have oT' : OwnT W3 B0 xt T := (oT.below b2).kept z2' hgr (by decide) (by decide)
  have oO : OwnO W3 B0 v (L ++ [o]) := OwnO.snoc z1 z2' hown (fun i x l h5 h6 => OwnW.below (z4 i x l h5 h6) b2) z5 (OwnW.below (own_mono oy hB) ((Below.refl _ W1).alloc (Nat.le_refl _) _))
    (fun i x hx => own_ne (z4 i x _ hx (List.getElem?_eq_getElem (by have := (List.getElem?_eq_some_iff.1 hx).1; omega))) oy (Nat.le_refl _)) hgr
  have B3 : Below B0 w W3 := (B.trans (b2.mono hB)).grown hgr (Nat.le_trans hB b2.size) (fun k hk => (z2'.lt k hk).1)
  refine ⟨⟨r3.cell 1, r3.free 1⟩, oO.set r3 (by decide) (by decide), r1.far (p := ⟨p, 1, none⟩) ha _, r2.far (p := ⟨p, 1, none⟩) hb _, ?_, oT'.set r3 (by decide) (by decide), own_set oS' r3 (by decide), B3.setCell (p := ⟨p, 1, none⟩) hp _, (q4.below b2).grown hgr hq, ((q4.below b2).grown hgr hq).far (p := ⟨p, 1, none⟩) hqp _⟩
  have := r3.set (i := 1) v
  simpa using this
/-- a literal of one object -/
theorem lit_obj {w : World} {ty : Int} {x : Value} : Rd (w.alloc (.cells #[i64 ty, x] 136)) 2 (.slice (some ⟨w.heap.size, 0, none⟩) 1 1) 1 [i64 ty, x] := lit_rdK (n := 1) (sz := 2) rfl (by omega)
theorem one_obj {ty : Int} {x : Value} (h : x.oneCell' = true) : ∀ u ∈ [i64 ty, x], u.oneCell' = true := by
  intro u hu
  rcases List.mem_cons.1 hu with rfl | hu
  · rfl
  · simp at hu; subst hu; exact h
theorem OwnM.set {w : World} {B p i : Nat} {tv ov sv u : Value} {m : Mo} {cs : Array Value} (h : OwnM w B 68 tv ov sv m) (hg : Bx w p 79 cs) : OwnM (w.setCell ⟨p, i, none⟩ u) B 68 tv ov sv m :=
  ⟨h.t.set hg (by decide) (by decide), h.o.set hg (by decide) (by decide), own_set h.s hg (by decide)⟩
/-- a model's three cells are stored elsewhere -/
theorem OwnM.set3 {w : World} {B p : Nat} {tv ov sv a b c : Value} {m : Mo} {cs : Array Value} (h : OwnM w B 68 tv ov sv m) (hg : Bx w p 79 cs) :
    OwnM (((w.setCell ⟨p, 0, none⟩ a).setCell ⟨p, 1, none⟩ b).setCell ⟨p, 2, none⟩ c) B 68 tv ov sv m :=
  ((h.set hg).set (hg.set a)).set ((hg.set a).set b)
end Go.Proofs.Ytbfmdbeeiicabaa
namespace Go.Proofs.Ytbfmdbeeiicabaa
open Go.RowKit L02 L13 L18 L20
structure GCopy where
  y : Value
  W1 : World
  v : Value
  W3 : World
end Go.Proofs.Ytbfmdbeeiicabaa
namespace Go.Proofs.Ytbfmdbeeiicabaa
open Go.RowKit L02 L13 L18 L20
end Go.Proofs.Ytbfmdbeeiicabaa
namespace Go.Proofs.Ytbfmdbeeiicabaa
open Go.RowKit L02 L13 L18 L20
end Go.Proofs.Ytbfmdbeeiicabaa
