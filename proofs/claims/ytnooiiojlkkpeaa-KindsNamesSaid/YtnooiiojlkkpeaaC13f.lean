/- Contracts of types: tables. -/
import Derived.Test.YtnooiiojlkkpeaaC13d
import Derived.Test.YtnooiiojlkkpeaaL13b
set_option linter.unusedVariables false
set_option linter.unusedSimpArgs false
namespace Go.Proofs.Ytnooiiojlkkpeaa
open Go.RowKit L02 L05 L13

/-- A slice of slices of bytes. -/
def Typs (w : World) (v : Value) (L : List (List UInt8)) : Prop := ∃ vs : List Value, vs.length = L.length ∧ Rd w 1 v L.length vs ∧ ∀ (i : Nat) x l, vs[i]? = some x → L[i]? = some l → Byts w x l
/-- .. of the call's own, its rows too. -/
def OwnT (w : World) (base : Nat) (v : Value) (L : List (List UInt8)) : Prop := ∃ vs : List Value, vs.length = L.length ∧ w.ownsRow base 22 1 v L.length vs ∧ ∀ (i : Nat) x l, vs[i]? = some x → L[i]? = some l → OwnB w base 5 x l
theorem OwnT.rd {w : World} {base : Nat} {v : Value} {L : List (List UInt8)} (h : OwnT w base v L) : Typs w v L := by
  obtain ⟨vs, h1, h2, h4⟩ := h; exact ⟨vs, h1, Rd.of_own h2, fun i x l h5 h6 => (h4 i x l h5 h6).rd⟩
theorem Typs.below {w w' : World} {v : Value} {L : List (List UInt8)} (h : Typs w v L) (hb : Below w.heap.size w w') : Typs w' v L := by
  obtain ⟨vs, h1, h2, h3⟩ := h; exact ⟨vs, h1, h2.below hb, fun i x l h4 h5 => (h3 i x l h4 h5).below hb⟩
theorem OwnT.below {w w' : World} {base : Nat} {v : Value} {L : List (List UInt8)} (h : OwnT w base v L) (hb : Below w.heap.size w w') : OwnT w' base v L := by
  obtain ⟨vs, h1, h2, h4⟩ := h; exact ⟨vs, h1, own_below h2 hb, fun i x l h5 h6 => (h4 i x l h5 h6).below hb⟩
theorem OwnT.nil (w : World) (base : Nat) : OwnT w base (.slice none 0 0) [] := ⟨[], rfl, World.ownsRow_nil w base _ 1, fun i x l h => by simp at h⟩
theorem Typs.len {w : World} {v : Value} {L : List (List UInt8)} (h : Typs w v L) : ∀ ty W, (Builtin.len_ #[49] ty #[v]).run Try.prog W = .ok (.int .i64 (L.length : Int)) W := by
  obtain ⟨vs, h1, h2, h3⟩ := h; exact Rd.len h2 Try.underlying49
theorem Typs.len_le {w : World} {v : Value} {L : List (List UInt8)} (h : Typs w v L) : L.length ≤ 9223372036854775807 := by
  obtain ⟨vs, h1, h2, h3⟩ := h; exact Rd.len_le h2
theorem one_bytes : (Try.prog.info? 22).map (·.size) = some 1 := by kernel_rfl
theorem info_bytes : (Try.prog.info? 22).map (fun i => (i.zero, i.size, i.bytes)) = some (some (.slice none 0 0), 1, 24) := by kernel_rfl
theorem Typs.at_ {w : World} {v : Value} {L : List (List UInt8)} (h : Typs w v L) {k : Nat} (hk : k < L.length) :
    ∃ ad x l, (∀ W, (Instr.indexAt 49 v (.int .i64 (k : Int))).run Try.prog W = .ok (.pointer (some ad)) W) ∧ w.cell? ad = some x ∧ Hid (L[k]? = some l) ∧ Hid (Byts w x l) := by
  obtain ⟨vs, h1, h2, h3⟩ := h
  have hv : vs[k]? = some vs[k] := List.getElem?_eq_getElem (by omega)
  have hl : L[k]? = some L[k] := List.getElem?_eq_getElem hk
  exact ⟨_, vs[k], L[k], fun W => Rd.ixN h2 Try.underlying49 one_bytes hk W, by rw [Nat.mul_one]; exact Rd.cell h2 hv, Lib.hid hl, Lib.hid (h3 k _ _ hv hl)⟩
theorem Byts.oneCell {w : World} {x : Value} {l : List UInt8} (h : Byts w x l) : x.oneCell' = true := by
  obtain ⟨A, c, rfl, _⟩ := h; rfl
/-- two own rows of unlike elements lie in unlike blocks. -/
theorem own_unlike {w : World} {b1 b2 e1 e2 s1 s2 n1 n2 : Nat} {x a : Value} {xs ys : List Value} (hx : w.ownsRow b1 e1 s1 x n1 xs) (ha : w.ownsRow b2 e2 s2 a n2 ys) (h : e1 ≠ e2) : x.ownBlock = none ∨ x.ownBlock ≠ a.ownBlock := by
  rcases hx.2 with ⟨rfl, _⟩ | ⟨g, cap, cur, rfl, _, hg, _⟩
  · exact .inl rfl
  · rcases ha.2 with ⟨rfl, _⟩ | ⟨g', cap', cur', rfl, _, hg', _⟩
    · exact .inr (by simp [Value.ownBlock])
    · refine .inr ?_
      intro he
      simp [Value.ownBlock] at he
      subst he
      rw [hg] at hg'
      injection hg' with hg'
      injection hg' with _ h2 _
      exact h h2
/-- one more row. -/
theorem OwnT.snoc {w w' : World} {base n : Nat} {v v' x : Value} {L : List (List UInt8)} {l : List UInt8} {vs : List Value} (h1 : vs.length = L.length) (ho0 : w.ownsRow base 22 1 v L.length vs) (ho : w'.ownsRow base 22 1 v' n (vs ++ [x]))
    (h4 : ∀ (i : Nat) x l, vs[i]? = some x → L[i]? = some l → OwnB w base 5 x l) (hx : OwnB w base 5 x l) (hg : w.grownBy w' v.ownBlock) : OwnT w' base v' (L ++ [l]) := by
  have hn : n = (L ++ [l]).length := by have := ho.1; simp at this ⊢; omega
  subst hn
  have keep : ∀ y m, OwnB w base 5 y m → OwnB w' base 5 y m := fun y m hy => World.ownsRow.kept hy hg (own_unlike hy ho0 (by decide))
  refine ⟨vs ++ [x], by simp [h1], ho, fun i y m hy hm => ?_⟩
  by_cases hi : i < vs.length
  · rw [List.getElem?_append_left hi] at hy
    rw [List.getElem?_append_left (by omega)] at hm
    exact keep _ _ (h4 i y m hy hm)
  · rw [List.getElem?_append_right (by omega)] at hy
    rw [List.getElem?_append_right (by omega)] at hm
    have h0 : i - vs.length = 0 := by
      rcases Nat.eq_zero_or_pos (i - vs.length) with h | h
      · exact h
      · rw [List.getElem?_eq_none (by simp; omega)] at hy; cases hy
    rw [h0] at hy; rw [← h1, h0] at hm
    simp at hy hm; subst hy; subst hm
    exact keep _ _ hx

set_option maxHeartbeats 4000000 in
theorem KTable_ok (v : Value) (l : List UInt64) (n : Nat) (hn : n ≤ 8) (hs : SizeOk l.length) (L : List (List UInt8)) (r : Int) (hL : L = tabT l n) (hr : r = tabErr l n) (w : World) (h : Words w v l) :
    Calls Try.prog 21 #[v, .int .i64 (n : Int)] w fun e w' => ∃ x, e = .returned (.tuple #[x, .int .i64 r]) ∧ OwnT w' w.heap.size x L ∧ Below w.heap.size w w' := by
  have B : Below w.heap.size w w := Below.refl _ _
  have hbad : ¬ TysOk l n → L = [] ∧ r = 50 := fun hno => by
    have e : tabErr l n = 50 := by rw [tabErr, if_pos hs, if_pos ⟨by omega, by omega⟩, if_neg (by simpa using hno)]
    exact ⟨by rw [hL, tabT, if_neg (by rw [e]; omega)], by rw [hr, e]⟩
  have hgood : TysOk l n → L = tysTo l n ∧ r = 0 := fun hyes => by
    have e : tabErr l n = 0 := by rw [tabErr, if_pos hs, if_pos ⟨by omega, by omega⟩, if_pos (by simpa using hyes)]
    exact ⟨by rw [hL, tabT, if_pos e]; simp, by rw [hr, e]⟩
  have CT := fun w h => Check_any v l w h
  rw [chk_ok hs] at CT
  have hlen := hs.1
  have HC := Lib.hid CT; have H := Lib.hid h; have HBAD := Lib.hid hbad; have HGOOD := Lib.hid hgood
  clear CT h hs hL hr hbad hgood
  go_enter Try.func21, Try.ntmps21
  go_wp2_with fail
  refine (HC.out _ (H.out.below B)).mono ?_
  rintro e w2 ⟨rfl, rfl⟩
  go_wp2
  have HB := Lib.hid B; clear B
  go_loopw [7, 24] (fun xv i wr => ∃ k : Nat, k ≤ 8 ∧ i = .int .i64 k ∧ Hid (OwnT wr w.heap.size xv (tysTo l (min k n)) ∧ ∀ i, i < k → TyOk l n i) ∧ Below w.heap.size w wr) (fun _ i _ => 8 - (intOf i).toNat)
  case atStart => exact ⟨0, by omega, rfl, Lib.hid ⟨by rw [Nat.zero_min]; exact OwnT.nil _ _, fun i hi => by omega⟩, HB.out⟩
  case round =>
    obtain ⟨k, hk, rfl, hh, B⟩ := hrel
    by_cases hlt : k < 8
    · obtain ⟨ad, a, ia, m0, ha⟩ := (H.out.below B).atI Try.underlying46 one_u64 (k := 96 + 2 * (k : Int)) (by omega) (by omega)
      obtain ⟨bd, b, ib, m1, hb⟩ := (H.out.below B).atI Try.underlying46 one_u64 (k := 96 + 2 * (k : Int) + 1) (by omega) (by omega)
      have ea : ta l k = a := ta_of (by have := ha.out; rwa [show (96 + 2 * (k : Int)).toNat = 96 + 2 * k by omega] at this)
      have eb : tb l k = b := tb_of (by have := hb.out; rwa [show (96 + 2 * (k : Int) + 1).toNat = 97 + 2 * k by omega] at this)
      have hw1 : IntKind.i64.wrap (2 * (k : Int)) = 2 * (k : Int) := IntWalk.i64_in _ (by omega)
      have hw2 : IntKind.i64.wrap (96 + 2 * (k : Int)) = 96 + 2 * (k : Int) := IntWalk.i64_in _ (by omega)
      have hw3 : IntKind.i64.wrap (96 + 2 * (k : Int) + 1) = 96 + 2 * (k : Int) + 1 := IntWalk.i64_in _ (by omega)
      have EA := Lib.hid ea; have EB := Lib.hid eb
      clear ha hb ea eb
      by_cases hkn : k < n
      · have hmin : min k n = k := by omega
        obtain ⟨f, hf⟩ : ∃ f, f = rdL a b := ⟨_, rfl⟩
        obtain ⟨e, he⟩ : ∃ e, e = rdE a b := ⟨_, rfl⟩
        have RT := fun w => KRead_any a b f e hf he w
        have HRT := Lib.hid RT; have HF := Lib.hid hf; have HE := Lib.hid he
        have hcase : e = 0 ∨ (e != 0) = true := by by_cases h : e = 0; exact .inl h; exact .inr (by rw [bne_iff_ne]; exact h)
        clear RT hf he
        rcases hcase with rfl | hne
        · go_wp2
          refine wp_region_calm (by kernel_rfl) (by kernel_rfl) ?_
          have c_m0 := fun x : Fut _ => cell_later x.h m0
          have c_m1 := fun x : Fut _ => cell_later x.h m1
          repeat (go_big_quiet_step (fail))
          refine wpQuiet_nil ?_
          intro _ hw'
          obtain ⟨xq, hw''⟩ := hw'
          subst hw''
          clear c_m0; replace m0 := cell_later xq.h m0
          clear c_m1; replace m1 := cell_later xq.h m1
          replace B := B.trans (xq.h.mono B.size)
          clear hw1 hw2 hw3
          have HHB : Hid (OwnT xq.W w.heap.size _ (tysTo l k)) := Lib.hid (by have := hh.out.1.below xq.h; rwa [hmin] at this)
          go_wp2_with fail
          have hzz := B.size
          refine (HRT.out _).mono ?_
          rintro e w3 ⟨y, rfl, oy, bb⟩
          obtain ⟨yA, yc, rfl, _⟩ := OwnB.rd oy
          obtain ⟨vs, z1, z2, z4⟩ := HHB.out.below bb
          replace B := B.trans (bb.mono B.size)
          have HY := Lib.hid (own_mono oy (B' := w.heap.size) hzz); have HBB := Lib.hid B; have Z1 := Lib.hid z1; have Z2 := Lib.hid z2; have Z4 := Lib.hid z4
          clear bb oy B z1 z2 z4 m0 m1
          have hlk := tysTo_len l k
          have HLK := Lib.hid hlk; clear hlk
          have hba : ∀ o, Below w3.heap.size w3 (w3.alloc o) := fun o => (Below.refl _ _).alloc (Nat.le_refl _) o
          have HBA := Lib.hid hba; clear hba
          go_wp2_with (at_builtin; refine wpList_append (by rfl) rfl rfl rfl Try.underlying49 info_bytes rfl (by omega) (by exact own_below Z2.out (HBA.out _)) (by exact lit_rd) (by intro u hu; simp at hu; subst hu; exact (OwnB.rd HY.out).oneCell) (by rw [HLK.out]; omega) (by rw [HLK.out]; omega) (by exact HBB.out.alloc HBB.out.size _) (Nat.le_refl _) ?_; intro v1 w4 o4 B4 g4; have T4 := Lib.hid (OwnT.snoc Z1.out (own_below Z2.out (HBA.out _)) o4 (fun i x l h5 h6 => (Z4.out i x l h5 h6).below (HBA.out _)) (OwnB.below HY.out (HBA.out _)) g4); have HB4 := Lib.hid B4; clear o4 B4 g4)
          go_roundw
          case rel =>
            refine ⟨k + 1, by omega, by go_num, Lib.hid ⟨?_, ?_⟩, HB4.out⟩
            · rw [show min (k + 1) n = k + 1 by omega, tysTo_succ, EA.out, EB.out, ← HF.out]; exact T4.out
            · intro i hi
              by_cases hik : i < k
              · exact hh.out.2 i hik
              · obtain rfl : i = k := by omega
                rw [TyOk, if_pos hkn, EA.out, EB.out]; exact rdE_ok.1 HE.out.symm
          case measure => simp [intOf]; omega
        · have hno : ¬ TysOk l n := fun hall => by
            have := hall k hlt
            rw [TyOk, if_pos hkn, EA.out, EB.out, ← rdE_ok, ← HE.out] at this
            rw [this] at hne; simp at hne
          obtain ⟨rfl, rfl⟩ := HBAD.out hno
          have hfe : e = 50 := by
            have h1 := HE.out
            unfold rdE at h1
            split at h1
            · rw [h1] at hne; simp at hne
            · exact h1
          subst hfe
          clear hno hne
          go_wp2
          refine wp_region_calm (by kernel_rfl) (by kernel_rfl) ?_
          have c_m0 := fun x : Fut _ => cell_later x.h m0
          have c_m1 := fun x : Fut _ => cell_later x.h m1
          repeat (go_big_quiet_step (fail))
          refine wpQuiet_nil ?_
          intro _ hw'
          obtain ⟨xq, hw''⟩ := hw'
          subst hw''
          clear c_m0; replace m0 := cell_later xq.h m0
          clear c_m1; replace m1 := cell_later xq.h m1
          replace B := B.trans (xq.h.mono B.size)
          clear hw1 hw2 hw3
          go_wp2_with fail
          refine (HRT.out _).mono ?_
          rintro e w3 ⟨y, rfl, oy, bb⟩
          replace B := B.trans (bb.mono B.size); clear bb oy m0 m1
          go_wp2
          go_ret2
          exact ⟨_, rfl, OwnT.nil _ _, B⟩
      · have hmin : min k n = n := by omega
        have hmin2 : min (k + 1) n = n := by omega
        have HM := Lib.hid (And.intro hmin hmin2); clear hmin hmin2
        have hcase : ((a.toNat : Int) != 0) = true ∨ ((a.toNat : Int) != 0) = false ∧ (((b.toNat : Int) != 0) = true ∨ ((b.toNat : Int) != 0) = false) := by
          cases ((a.toNat : Int) != 0) <;> cases ((b.toNat : Int) != 0) <;> simp
        have hz : ∀ x : UInt64, ((x.toNat : Int) != 0) = false → x = 0 := fun x h => by
          rw [bne_eq_false_iff_eq] at h
          exact UInt64.toNat_inj.1 (by simpa using (by omega : x.toNat = 0))
        have hz' : ∀ x : UInt64, ((x.toNat : Int) != 0) = true → x ≠ 0 := fun x h h2 => by
          rw [h2] at h; simp at h
        have HZ := Lib.hid hz; have HZ' := Lib.hid hz'; clear hz hz'
        rcases hcase with h1 | ⟨h1, h2 | h2⟩
        · have hno : ¬ TysOk l n := fun hall => by
            have := hall k hlt
            rw [TyOk, if_neg hkn, EA.out, EB.out] at this
            exact HZ'.out a h1 this.1
          obtain ⟨rfl, rfl⟩ := HBAD.out hno
          clear hno
          go_wp2
          refine wp_region_calm (by kernel_rfl) (by kernel_rfl) ?_
          have c_m0 := fun x : Fut _ => cell_later x.h m0
          have c_m1 := fun x : Fut _ => cell_later x.h m1
          repeat (go_big_quiet_step (fail))
          refine wpQuiet_nil ?_
          intro _ hw'
          obtain ⟨xq, hw''⟩ := hw'
          subst hw''
          clear c_m0; replace m0 := cell_later xq.h m0
          clear c_m1; replace m1 := cell_later xq.h m1
          replace B := B.trans (xq.h.mono B.size)
          clear hw1 hw2 hw3
          go_wp2
          go_ret2
          exact ⟨_, rfl, OwnT.nil _ _, B⟩
        · have hno : ¬ TysOk l n := fun hall => by
            have := hall k hlt
            rw [TyOk, if_neg hkn, EA.out, EB.out] at this
            exact HZ'.out b h2 this.2
          obtain ⟨rfl, rfl⟩ := HBAD.out hno
          clear hno
          go_wp2
          refine wp_region_calm (by kernel_rfl) (by kernel_rfl) ?_
          have c_m0 := fun x : Fut _ => cell_later x.h m0
          have c_m1 := fun x : Fut _ => cell_later x.h m1
          repeat (go_big_quiet_step (fail))
          refine wpQuiet_nil ?_
          intro _ hw'
          obtain ⟨xq, hw''⟩ := hw'
          subst hw''
          clear c_m0; replace m0 := cell_later xq.h m0
          clear c_m1; replace m1 := cell_later xq.h m1
          replace B := B.trans (xq.h.mono B.size)
          clear hw1 hw2 hw3
          go_wp2
          go_ret2
          exact ⟨_, rfl, OwnT.nil _ _, B⟩
        · have e1 := HZ.out a h1; have e2 := HZ.out b h2
          have HE12 := Lib.hid (And.intro e1 e2)
          clear e1 e2
          go_wp2
          refine wp_region_calm (by kernel_rfl) (by kernel_rfl) ?_
          have c_m0 := fun x : Fut _ => cell_later x.h m0
          have c_m1 := fun x : Fut _ => cell_later x.h m1
          repeat (go_big_quiet_step (fail))
          refine wpQuiet_nil ?_
          intro _ hw'
          obtain ⟨xq, hw''⟩ := hw'
          subst hw''
          clear c_m0; replace m0 := cell_later xq.h m0
          clear c_m1; replace m1 := cell_later xq.h m1
          replace B := B.trans (xq.h.mono B.size)
          clear hw1 hw2 hw3
          go_wp2
          have HBB := Lib.hid B; have HX := Lib.hid (hh.out.1.below xq.h)
          go_roundw
          case rel =>
            refine ⟨k + 1, by omega, by go_num, Lib.hid ⟨?_, ?_⟩, HBB.out⟩
            · have := HX.out
              rw [HM.out.1] at this
              rw [HM.out.2]; exact this
            · intro i hi
              by_cases hik : i < k
              · exact hh.out.2 i hik
              · obtain rfl : i = k := by omega
                rw [TyOk, if_neg hkn, EA.out, EB.out]; exact HE12.out
          case measure => simp [intOf]; omega
    · obtain rfl : k = 8 := by omega
      obtain ⟨rfl, rfl⟩ := HGOOD.out (fun i hi => hh.out.2 i hi)
      have HX := Lib.hid hh.out.1
      go_wp2
      go_ret2
      exact ⟨_, rfl, by have := HX.out; rwa [show min 8 n = n by omega] at this, B⟩
end Go.Proofs.Ytnooiiojlkkpeaa
