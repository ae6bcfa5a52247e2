/- Contracts of the functions that the laws 'R' reach, part 4. No condition. -/
import Derived.Test.YtodbbacmdjcheaaMRc
set_option linter.unusedVariables false
set_option linter.unusedSimpArgs false
namespace Go.Proofs.Ytodbbacmdjcheaa
open Go.RowKit L02 L05 L13
/-- A slice of slices of bytes. -/
def Typs (w : World) (v : Value) (L : List (List UInt8)) : Prop := ∃ vs : List Value, vs.length = L.length ∧ Rd w 1 v L.length vs ∧ ∀ (i : Nat) x l, vs[i]? = some x → L[i]? = some l → Byts w x l
/-- .. of the call's own, its rows too. -/
def OwnT (w : World) (base : Nat) (v : Value) (L : List (List UInt8)) : Prop := ∃ vs : List Value, vs.length = L.length ∧ w.ownsRow base 69 1 v L.length vs ∧ ∀ (i : Nat) x l, vs[i]? = some x → L[i]? = some l → OwnB w base 5 x l
theorem OwnT.rd {w : World} {base : Nat} {v : Value} {L : List (List UInt8)} (h : OwnT w base v L) : Typs w v L := by
  obtain ⟨vs, h1, h2, h4⟩ := h; exact ⟨vs, h1, Rd.of_own h2, fun i x l h5 h6 => (h4 i x l h5 h6).rd⟩
theorem Typs.below {w w' : World} {v : Value} {L : List (List UInt8)} (h : Typs w v L) (hb : Below w.heap.size w w') : Typs w' v L := by
  obtain ⟨vs, h1, h2, h3⟩ := h; exact ⟨vs, h1, h2.below hb, fun i x l h4 h5 => (h3 i x l h4 h5).below hb⟩
theorem OwnT.below {w w' : World} {base : Nat} {v : Value} {L : List (List UInt8)} (h : OwnT w base v L) (hb : Below w.heap.size w w') : OwnT w' base v L := by
  obtain ⟨vs, h1, h2, h4⟩ := h; exact ⟨vs, h1, own_below h2 hb, fun i x l h5 h6 => (h4 i x l h5 h6).below hb⟩
theorem OwnT.nil (w : World) (base : Nat) : OwnT w base (.slice none 0 0) [] := ⟨[], rfl, World.ownsRow_nil w base _ 1, fun i x l h => by simp at h⟩
theorem Typs.len {w : World} {v : Value} {L : List (List UInt8)} (h : Typs w v L) : ∀ ty W, (Builtin.len_ #[22] ty #[v]).run Try.prog W = .ok (.int .i64 (L.length : Int)) W := by
  obtain ⟨vs, h1, h2, h3⟩ := h; exact Rd.len h2 Try.underlying22
theorem Typs.len_le {w : World} {v : Value} {L : List (List UInt8)} (h : Typs w v L) : L.length ≤ 9223372036854775807 := by
  obtain ⟨vs, h1, h2, h3⟩ := h; exact Rd.len_le h2
theorem one_bytes : (Try.prog.info? 69).map (·.size) = some 1 := by kernel_rfl
theorem info_bytes : (Try.prog.info? 69).map (fun i => (i.zero, i.size, i.bytes)) = some (some (.slice none 0 0), 1, 24) := by kernel_rfl
theorem Typs.at_ {w : World} {v : Value} {L : List (List UInt8)} (h : Typs w v L) {k : Nat} (hk : k < L.length) :
    ∃ ad x l, (∀ W, (Instr.indexAt 22 v (.int .i64 (k : Int))).run Try.prog W = .ok (.pointer (some ad)) W) ∧ w.cell? ad = some x ∧ Hid (L[k]? = some l) ∧ Hid (Byts w x l) := by
  obtain ⟨vs, h1, h2, h3⟩ := h
  have hv : vs[k]? = some vs[k] := List.getElem?_eq_getElem (by omega)
  have hl : L[k]? = some L[k] := List.getElem?_eq_getElem hk
  exact ⟨_, vs[k], L[k], fun W => Rd.ixN h2 Try.underlying22 one_bytes hk W, by rw [Nat.mul_one]; exact Rd.cell h2 hv, Lib.hid hl, Lib.hid (h3 k _ _ hv hl)⟩
theorem Byts.oneCell {w : World} {x : Value} {l : List UInt8} (h : Byts w x l) : x.oneCell' = true := by
  obtain ⟨A, c, rfl, _⟩ := h; rfl
/-- two own rows of unlike elements lie in unlike blocks. -/
theorem own_unlike {w : World} {b1 b2 e1 e2 s1 s2 n1 n2 : Nat} {x a : Value} {xs ys : List Value} (hx : w.ownsRow b1 e1 s1 x n1 xs) (ha : w.ownsRow b2 e2 s2 a n2 ys) (h : e1 ≠ e2) : x.ownBlock = none ∨ x.ownBlock ≠ a.ownBlock := by
  rcases hx.2 with ⟨rfl, _⟩ | ⟨g, cap, cur, rfl, _, hg, _⟩
  · exact .inl rfl
  · rcases ha.2 with ⟨rfl, _⟩ | ⟨g', cap', cur', rfl, _, hg', _⟩
    · exact .inr (by simp [Value.ownBlock])
    · refine .inr ?_
      intro he
      simp [Value.ownBlock] at he
      subst he
      rw [hg] at hg'
      injection hg' with hg'
      injection hg' with _ h2 _
      exact h h2
/-- one more row. -/
theorem OwnT.snoc {w w' : World} {base n : Nat} {v v' x : Value} {L : List (List UInt8)} {l : List UInt8} {vs : List Value} (h1 : vs.length = L.length) (ho0 : w.ownsRow base 69 1 v L.length vs) (ho : w'.ownsRow base 69 1 v' n (vs ++ [x]))
    (h4 : ∀ (i : Nat) x l, vs[i]? = some x → L[i]? = some l → OwnB w base 5 x l) (hx : OwnB w base 5 x l) (hg : w.grownBy w' v.ownBlock) : OwnT w' base v' (L ++ [l]) := by
  have hn : n = (L ++ [l]).length := by have := ho.1; simp at this ⊢; omega
  subst hn
  have keep : ∀ y m, OwnB w base 5 y m → OwnB w' base 5 y m := fun y m hy => World.ownsRow.kept hy hg (own_unlike hy ho0 (by decide))
  refine ⟨vs ++ [x], by simp [h1], ho, fun i y m hy hm => ?_⟩
  by_cases hi : i < vs.length
  · rw [List.getElem?_append_left hi] at hy
    rw [List.getElem?_append_left (by omega)] at hm
    exact keep _ _ (h4 i y m hy hm)
  · rw [List.getElem?_append_right (by omega)] at hy
    rw [List.getElem?_append_right (by omega)] at hm
    have h0 : i - vs.length = 0 := by
      rcases Nat.eq_zero_or_pos (i - vs.length) with h | h
      · exact h
      · rw [List.getElem?_eq_none (by simp; omega)] at hy; cases hy
    rw [h0] at hy; rw [← h1, h0] at hm
    simp at hy hm; subst hy; subst hm
    exact keep _ _ hx
set_option maxHeartbeats 4000000 in
theorem KTable_ok (v : Value) (l : List UInt64) (n : Nat) (hn : n ≤ 8) (hs : SizeOk l.length) (L : List (List UInt8)) (r : Int) (hL : L = tabT l n) (hr : r = tabErr l n) (w : World) (h : Words w v l) :
    Calls Try.prog 42 #[v, .int .i64 (n : Int)] w fun e w' => ∃ x, e = .returned (.tuple #[x, .int .i64 r]) ∧ OwnT w' w.heap.size x L ∧ Below w.heap.size w w' := by
  have B : Below w.heap.size w w := Below.refl _ _
  have hbad : ¬ TysOk l n → L = [] ∧ r = 50 := fun hno => by
    have e : tabErr l n = 50 := by rw [tabErr, if_pos hs, if_pos ⟨by omega, by omega⟩, if_neg (by simpa using hno)]
    exact ⟨by rw [hL, tabT, if_neg (by rw [e]; omega)], by rw [hr, e]⟩
  have hgood : TysOk l n → L = tysTo l n ∧ r = 0 := fun hyes => by
    have e : tabErr l n = 0 := by rw [tabErr, if_pos hs, if_pos ⟨by omega, by omega⟩, if_pos (by simpa using hyes)]
    exact ⟨by rw [hL, tabT, if_pos e]; simp, by rw [hr, e]⟩
  have CT := fun w h => Check_any v l w h
  rw [chk_ok hs] at CT
  have hlen := hs.1
  have HC := Lib.hid CT; have H := Lib.hid h; have HBAD := Lib.hid hbad; have HGOOD := Lib.hid hgood
  clear CT h hs hL hr hbad hgood
  go_enter Try.func42, Try.ntmps42
  go_wp2_with fail
  refine (HC.out _ (H.out.below B)).mono ?_
  rintro e w2 ⟨rfl, rfl⟩
  go_wp2
  have HB := Lib.hid B; clear B
  go_loopw [7, 24] (fun xv i wr => ∃ k : Nat, k ≤ 8 ∧ i = .int .i64 k ∧ Hid (OwnT wr w.heap.size xv (tysTo l (min k n)) ∧ ∀ i, i < k → TyOk l n i) ∧ Below w.heap.size w wr) (fun _ i _ => 8 - (intOf i).toNat)
  case atStart => exact ⟨0, by omega, rfl, Lib.hid ⟨by rw [Nat.zero_min]; exact OwnT.nil _ _, fun i hi => by omega⟩, HB.out⟩
  case round =>
    obtain ⟨k, hk, rfl, hh, B⟩ := hrel
    by_cases hlt : k < 8
    · obtain ⟨ad, a, ia, m0, ha⟩ := (H.out.below B).atI Try.underlying25 one_u64 (k := 96 + 2 * (k : Int)) (by omega) (by omega)
      obtain ⟨bd, b, ib, m1, hb⟩ := (H.out.below B).atI Try.underlying25 one_u64 (k := 96 + 2 * (k : Int) + 1) (by omega) (by omega)
      have ea : ta l k = a := ta_of (by have := ha.out; rwa [show (96 + 2 * (k : Int)).toNat = 96 + 2 * k by omega] at this)
      have eb : tb l k = b := tb_of (by have := hb.out; rwa [show (96 + 2 * (k : Int) + 1).toNat = 97 + 2 * k by omega] at this)
      have hw1 : IntKind.i64.wrap (2 * (k : Int)) = 2 * (k : Int) := IntWalk.i64_in _ (by omega)
      have hw2 : IntKind.i64.wrap (96 + 2 * (k : Int)) = 96 + 2 * (k : Int) := IntWalk.i64_in _ (by omega)
      have hw3 : IntKind.i64.wrap (96 + 2 * (k : Int) + 1) = 96 + 2 * (k : Int) + 1 := IntWalk.i64_in _ (by omega)
      have EA := Lib.hid ea; have EB := Lib.hid eb
      clear ha hb ea eb
      by_cases hkn : k < n
      · have hmin : min k n = k := by omega
        obtain ⟨f, hf⟩ : ∃ f, f = rdL a b := ⟨_, rfl⟩
        obtain ⟨e, he⟩ : ∃ e, e = rdE a b := ⟨_, rfl⟩
        have RT := fun w => KRead_any a b f e hf he w
        have HRT := Lib.hid RT; have HF := Lib.hid hf; have HE := Lib.hid he
        have hcase : e = 0 ∨ (e != 0) = true := by by_cases h : e = 0; exact .inl h; exact .inr (by rw [bne_iff_ne]; exact h)
        clear RT hf he
        rcases hcase with rfl | hne
        · go_wp2
          refine wp_region_calm (by kernel_rfl) (by kernel_rfl) ?_
          have c_m0 := fun x : Fut _ => cell_later x.h m0
          have c_m1 := fun x : Fut _ => cell_later x.h m1
          repeat (go_big_quiet_step (fail))
          refine wpQuiet_nil ?_
          intro _ hw'
          obtain ⟨xq, hw''⟩ := hw'
          subst hw''
          clear c_m0; replace m0 := cell_later xq.h m0
          clear c_m1; replace m1 := cell_later xq.h m1
          replace B := B.trans (xq.h.mono B.size)
          clear hw1 hw2 hw3
          have HHB : Hid (OwnT xq.W w.heap.size _ (tysTo l k)) := Lib.hid (by have := hh.out.1.below xq.h; rwa [hmin] at this)
          go_wp2_with fail
          have hzz := B.size
          refine (HRT.out _).mono ?_
          rintro e w3 ⟨y, rfl, oy, bb⟩
          obtain ⟨yA, yc, rfl, _⟩ := OwnB.rd oy
          obtain ⟨vs, z1, z2, z4⟩ := HHB.out.below bb
          replace B := B.trans (bb.mono B.size)
          have HY := Lib.hid (own_mono oy (B' := w.heap.size) hzz); have HBB := Lib.hid B; have Z1 := Lib.hid z1; have Z2 := Lib.hid z2; have Z4 := Lib.hid z4
          clear bb oy B z1 z2 z4 m0 m1
          have hlk := tysTo_len l k
          have HLK := Lib.hid hlk; clear hlk
          have hba : ∀ o, Below w3.heap.size w3 (w3.alloc o) := fun o => (Below.refl _ _).alloc (Nat.le_refl _) o
          have HBA := Lib.hid hba; clear hba
          go_wp2_with (at_builtin; refine wpList_append (by rfl) rfl rfl rfl Try.underlying22 info_bytes rfl (by omega) (by exact own_below Z2.out (HBA.out _)) (by exact lit_rd) (by intro u hu; simp at hu; subst hu; exact (OwnB.rd HY.out).oneCell) (by rw [HLK.out]; omega) (by rw [HLK.out]; omega) (by exact HBB.out.alloc HBB.out.size _) (Nat.le_refl _) ?_; intro v1 w4 o4 B4 g4; have T4 := Lib.hid (OwnT.snoc Z1.out (own_below Z2.out (HBA.out _)) o4 (fun i x l h5 h6 => (Z4.out i x l h5 h6).below (HBA.out _)) (OwnB.below HY.out (HBA.out _)) g4); have HB4 := Lib.hid B4; clear o4 B4 g4)
          go_roundw
          case rel =>
            refine ⟨k + 1, by omega, by go_num, Lib.hid ⟨?_, ?_⟩, HB4.out⟩
            · rw [show min (k + 1) n = k + 1 by omega, tysTo_succ, EA.out, EB.out, ← HF.out]; exact T4.out
            · intro i hi
              by_cases hik : i < k
              · exact hh.out.2 i hik
              · obtain rfl : i = k := by omega
                rw [TyOk, if_pos hkn, EA.out, EB.out]; exact rdE_ok.1 HE.out.symm
          case measure => simp [intOf]; omega
        · have hno : ¬ TysOk l n := fun hall => by
            have := hall k hlt
            rw [TyOk, if_pos hkn, EA.out, EB.out, ← rdE_ok, ← HE.out] at this
            rw [this] at hne; simp at hne
          obtain ⟨rfl, rfl⟩ := HBAD.out hno
          have hfe : e = 50 := by
            have h1 := HE.out
            unfold rdE at h1
            split at h1
            · rw [h1] at hne; simp at hne
            · exact h1
          subst hfe
          clear hno hne
          go_wp2
          refine wp_region_calm (by kernel_rfl) (by kernel_rfl) ?_
          have c_m0 := fun x : Fut _ => cell_later x.h m0
          have c_m1 := fun x : Fut _ => cell_later x.h m1
          repeat (go_big_quiet_step (fail))
          refine wpQuiet_nil ?_
          intro _ hw'
          obtain ⟨xq, hw''⟩ := hw'
          subst hw''
          clear c_m0; replace m0 := cell_later xq.h m0
          clear c_m1; replace m1 := cell_later xq.h m1
          replace B := B.trans (xq.h.mono B.size)
          clear hw1 hw2 hw3
          go_wp2_with fail
          refine (HRT.out _).mono ?_
          rintro e w3 ⟨y, rfl, oy, bb⟩
          replace B := B.trans (bb.mono B.size); clear bb oy m0 m1
          go_wp2
          go_ret2
          exact ⟨_, rfl, OwnT.nil _ _, B⟩
      · have hmin : min k n = n := by omega
        have hmin2 : min (k + 1) n = n := by omega
        have HM := Lib.hid (And.intro hmin hmin2); clear hmin hmin2
        have hcase : ((a.toNat : Int) != 0) = true ∨ ((a.toNat : Int) != 0) = false ∧ (((b.toNat : Int) != 0) = true ∨ ((b.toNat : Int) != 0) = false) := by
          cases ((a.toNat : Int) != 0) <;> cases ((b.toNat : Int) != 0) <;> simp
        have hz : ∀ x : UInt64, ((x.toNat : Int) != 0) = false → x = 0 := fun x h => by
          rw [bne_eq_false_iff_eq] at h
          exact UInt64.toNat_inj.1 (by simpa using (by omega : x.toNat = 0))
        have hz' : ∀ x : UInt64, ((x.toNat : Int) != 0) = true → x ≠ 0 := fun x h h2 => by
          rw [h2] at h; simp at h
        have HZ := Lib.hid hz; have HZ' := Lib.hid hz'; clear hz hz'
        rcases hcase with h1 | ⟨h1, h2 | h2⟩
        · have hno : ¬ TysOk l n := fun hall => by
            have := hall k hlt
            rw [TyOk, if_neg hkn, EA.out, EB.out] at this
            exact HZ'.out a h1 this.1
          obtain ⟨rfl, rfl⟩ := HBAD.out hno
          clear hno
          go_wp2
          refine wp_region_calm (by kernel_rfl) (by kernel_rfl) ?_
          have c_m0 := fun x : Fut _ => cell_later x.h m0
          have c_m1 := fun x : Fut _ => cell_later x.h m1
          repeat (go_big_quiet_step (fail))
          refine wpQuiet_nil ?_
          intro _ hw'
          obtain ⟨xq, hw''⟩ := hw'
          subst hw''
          clear c_m0; replace m0 := cell_later xq.h m0
          clear c_m1; replace m1 := cell_later xq.h m1
          replace B := B.trans (xq.h.mono B.size)
          clear hw1 hw2 hw3
          go_wp2
          go_ret2
          exact ⟨_, rfl, OwnT.nil _ _, B⟩
        · have hno : ¬ TysOk l n := fun hall => by
            have := hall k hlt
            rw [TyOk, if_neg hkn, EA.out, EB.out] at this
            exact HZ'.out b h2 this.2
          obtain ⟨rfl, rfl⟩ := HBAD.out hno
          clear hno
          go_wp2
          refine wp_region_calm (by kernel_rfl) (by kernel_rfl) ?_
          have c_m0 := fun x : Fut _ => cell_later x.h m0
          have c_m1 := fun x : Fut _ => cell_later x.h m1
          repeat (go_big_quiet_step (fail))
          refine wpQuiet_nil ?_
          intro _ hw'
          obtain ⟨xq, hw''⟩ := hw'
          subst hw''
          clear c_m0; replace m0 := cell_later xq.h m0
          clear c_m1; replace m1 := cell_later xq.h m1
          replace B := B.trans (xq.h.mono B.size)
          clear hw1 hw2 hw3
          go_wp2
          go_ret2
          exact ⟨_, rfl, OwnT.nil _ _, B⟩
        · have e1 := HZ.out a h1; have e2 := HZ.out b h2
          have HE12 := Lib.hid (And.intro e1 e2)
          clear e1 e2
          go_wp2
          refine wp_region_calm (by kernel_rfl) (by kernel_rfl) ?_
          have c_m0 := fun x : Fut _ => cell_later x.h m0
          have c_m1 := fun x : Fut _ => cell_later x.h m1
          repeat (go_big_quiet_step (fail))
          refine wpQuiet_nil ?_
          intro _ hw'
          obtain ⟨xq, hw''⟩ := hw'
          subst hw''
          clear c_m0; replace m0 := cell_later xq.h m0
          clear c_m1; replace m1 := cell_later xq.h m1
          replace B := B.trans (xq.h.mono B.size)
          clear hw1 hw2 hw3
          go_wp2
          have HBB := Lib.hid B; have HX := Lib.hid (hh.out.1.below xq.h)
          go_roundw
          case rel =>
            refine ⟨k + 1, by omega, by go_num, Lib.hid ⟨?_, ?_⟩, HBB.out⟩
            · have := HX.out
              rw [HM.out.1] at this
              rw [HM.out.2]; exact this
            · intro i hi
              by_cases hik : i < k
              · exact hh.out.2 i hik
              · obtain rfl : i = k := by omega
                rw [TyOk, if_neg hkn, EA.out, EB.out]; exact HE12.out
          case measure => simp [intOf]; omega
    · obtain rfl : k = 8 := by omega
      obtain ⟨rfl, rfl⟩ := HGOOD.out (fun i hi => hh.out.2 i hi)
      have HX := Lib.hid hh.out.1
      go_wp2
      go_ret2
      exact ⟨_, rfl, by have := HX.out; rwa [show min 8 n = n by omega] at this, B⟩
end Go.Proofs.Ytodbbacmdjcheaa
namespace Go.Proofs.Ytodbbacmdjcheaa
open Go.RowKit L02 L05 L13
set_option maxHeartbeats 1000000 in
theorem KTable_any (v : Value) (l : List UInt64) (n : Int) (L : List (List UInt8)) (r : Int) (hL : L = tabT l n) (hr : r = tabErr l n) (w : World) (h : Words w v l) :
    Calls Try.prog 42 #[v, .int .i64 n] w fun e w' => ∃ x, e = .returned (.tuple #[x, .int .i64 r]) ∧ OwnT w' w.heap.size x L ∧ Below w.heap.size w w' := by
  by_cases hs : SizeOk l.length
  · by_cases hn : 0 ≤ n ∧ n ≤ 8
    · obtain ⟨k, rfl⟩ := Int.eq_ofNat_of_zero_le hn.1
      exact KTable_ok v l k (by omega) hs L r hL hr w h
    · have e : tabErr l n = 2 := by rw [tabErr, if_pos hs, if_neg hn]
      have hL0 : L = [] := by rw [hL, tabT, if_neg (by rw [e]; omega)]
      rw [e] at hr
      subst hL0 hr
      have B : Below w.heap.size w w := Below.refl _ _
      have CT := fun w h => Check_any v l w h
      rw [chk_ok hs] at CT
      have HC := Lib.hid CT; have H := Lib.hid h
      have hcase : n < 0 ∨ 0 ≤ n ∧ 8 < n := by omega
      clear CT h hs hL e hn
      rcases hcase with h1 | ⟨h1, h2⟩
      all_goals
        go_enter Try.func42, Try.ntmps42
        go_wp2_with fail
        refine (HC.out _ H.out).mono ?_
        rintro e w2 ⟨rfl, rfl⟩
        go_wp2
        go_ret2
        exact ⟨_, rfl, OwnT.nil _ _, B⟩
  · have e : tabErr l n = 8 := by rw [tabErr, if_neg hs]
    have hL0 : L = [] := by rw [hL, tabT, if_neg (by rw [e]; omega)]
    rw [e] at hr
    subst hL0 hr
    have B : Below w.heap.size w w := Below.refl _ _
    have CT := fun w h => Check_any v l w h
    rw [chk_no hs] at CT
    have HC := Lib.hid CT; have H := Lib.hid h
    clear CT h hs hL e
    go_enter Try.func42, Try.ntmps42
    go_wp2_with fail
    refine (HC.out _ H.out).mono ?_
    rintro e w2 ⟨rfl, rfl⟩
    go_wp2
    go_ret2
    exact ⟨_, rfl, OwnT.nil _ _, B⟩
set_option maxHeartbeats 2000000 in
theorem SameT_any (va vb : Value) (La Lb : List (List UInt8)) (r : Bool) (hr : r = decide (La = Lb)) (w : World) (ha : Typs w va La) (hb : Typs w vb Lb) :
    Calls Try.prog 16 #[va, vb] w fun e w' => e = .returned (.bool r) ∧ Below w.heap.size w w' := by
  have B : Below w.heap.size w w := Below.refl _ _
  have la1 := ha.len; have lb1 := hb.len
  have la2 := ha.len_le; have lb2 := hb.len_le
  have HA := Lib.hid ha; have HB := Lib.hid hb; have HR := Lib.hid hr; clear ha hb hr
  obtain ⟨na, hna⟩ : ∃ na, na = La.length := ⟨_, rfl⟩
  obtain ⟨nb, hnb⟩ : ∃ nb, nb = Lb.length := ⟨_, rfl⟩
  rw [← hna] at la1 la2; rw [← hnb] at lb1 lb2
  have Hna := Lib.hid hna; have Hnb := Lib.hid hnb; clear hna hnb
  by_cases hl : na = nb
  · subst hl
    go_enter Try.func16, Try.ntmps16
    go_wp2
    have HBB := Lib.hid B; clear B
    go_loopw [5] (fun i wr => ∃ k : Nat, k ≤ na ∧ i = .int .i64 k ∧ Hid (La.take k = Lb.take k) ∧ Below w.heap.size w wr) (fun i _ => na - (intOf i).toNat)
    case atStart => exact ⟨0, Nat.zero_le _, rfl, Lib.hid rfl, HBB.out⟩
    case round =>
      obtain ⟨k, hk, rfl, heq, B⟩ := hrel
      by_cases hlt : k < na
      · obtain ⟨ad, x, s, ia, m0, hs, hx⟩ := (HA.out.below B).at_ (k := k) (by have := Hna.out; omega)
        obtain ⟨bd, y, t, ib, m1, ht, hy⟩ := (HB.out.below B).at_ (k := k) (by have := Hnb.out; omega)
        have sx := fun z : Fut wr => (hx.out.below z.h).str (P := Try.prog) (dst := 9) Try.underlying69 Try.underlying5 Try.underlying9
        have sy := fun z : Fut wr => (hy.out.below z.h).str (P := Try.prog) (dst := 9) Try.underlying69 Try.underlying5 Try.underlying9
        obtain ⟨c, hc⟩ : ∃ c, c = decide (s = t) := ⟨_, rfl⟩
        have hst : (s == t) = c := by rw [hc, Bool.eq_iff_iff, beq_iff_eq, decide_eq_true_iff]
        have HC := Lib.hid hc; clear hc
        cases c
        · go_wp2
          refine wp_region_calm (by kernel_rfl) (by kernel_rfl) ?_
          have c_m0 := fun x : Fut _ => cell_later x.h m0
          have c_m1 := fun x : Fut _ => cell_later x.h m1
          repeat (go_big_quiet_step (fail))
          refine wpQuiet_nil ?_
          intro _ hw'
          obtain ⟨xq, hw''⟩ := hw'
          subst hw''
          clear c_m0; replace m0 := cell_later xq.h m0
          clear c_m1; replace m1 := cell_later xq.h m1
          replace B := B.trans (xq.h.mono B.size)
          clear sx sy hst
          go_wp2
          go_ret
          refine ⟨ret_bool ?_, B⟩
          have e : ¬ s = t := by have := HC.out; simpa using this
          rw [HR.out, eq_comm, decide_eq_false_iff_not]
          intro hab
          have h1 := hs.out; have h2 := ht.out
          rw [hab, h2] at h1
          injection h1 with h1
          exact e h1.symm
        · go_wp2
          refine wp_region_calm (by kernel_rfl) (by kernel_rfl) ?_
          have c_m0 := fun x : Fut _ => cell_later x.h m0
          have c_m1 := fun x : Fut _ => cell_later x.h m1
          repeat (go_big_quiet_step (fail))
          refine wpQuiet_nil ?_
          intro _ hw'
          obtain ⟨xq, hw''⟩ := hw'
          subst hw''
          clear c_m0; replace m0 := cell_later xq.h m0
          clear c_m1; replace m1 := cell_later xq.h m1
          replace B := B.trans (xq.h.mono B.size)
          clear sx sy hst
          go_wp2
          go_roundw
          case rel =>
            have e : s = t := by have := HC.out; simpa using this
            refine ⟨k + 1, by omega, by go_num, Lib.hid ?_, B⟩
            rw [List.take_add_one, List.take_add_one, heq.out, hs.out, ht.out, e]
          case measure => simp [intOf]; omega
      · obtain rfl : k = na := by omega
        go_wp2
        go_ret
        refine ⟨ret_bool ?_, B⟩
        have h1 := heq.out
        rw [List.take_of_length_le (by have := Hna.out; omega), List.take_of_length_le (by have := Hnb.out; omega)] at h1
        rw [HR.out, h1, decide_eq_true rfl]
  · have hl' : ((na : Int) != nb) = true := by rw [bne_iff_ne]; omega
    go_enter Try.func16, Try.ntmps16
    go_wp2
    go_ret
    refine ⟨ret_bool ?_, B⟩
    rw [HR.out, eq_comm, decide_eq_false_iff_not]
    intro hab
    have h1 := Hna.out; have h2 := Hnb.out
    rw [hab] at h1; omega
end Go.Proofs.Ytodbbacmdjcheaa

namespace Go.Proofs.Ytodbbacmdjcheaa
open Go.RowKit Go.Shelf L02 L05 L13
/-- the first error of types -/
def errT : List (List UInt8) → Int
  | [] => 0
  | l :: T => if kErr l = 0 then errT T else kErr l
theorem errT_take : ∀ (T : List (List UInt8)) (k : Nat) (l : List UInt8), (∀ i l', i < k → T[i]? = some l' → kErr l' = 0) → T[k]? = some l → kErr l ≠ 0 → errT T = kErr l
  | [], k, l, _, h, _ => by simp at h
  | x :: T, 0, l, _, h, h2 => by simp at h; subst h; rw [errT, if_neg h2]
  | x :: T, k + 1, l, h1, h, h2 => by
    rw [errT, if_pos (h1 0 x (by omega) rfl)]
    exact errT_take T k l (fun i l' hi hl => h1 (i + 1) l' (by omega) (by simpa using hl)) (by simpa using h) h2
theorem errT_none : ∀ (T : List (List UInt8)), (∀ i l', i < T.length → T[i]? = some l' → kErr l' = 0) → errT T = 0
  | [], _ => rfl
  | x :: T, h => by
    rw [errT, if_pos (h 0 x (by simp) rfl)]
    exact errT_none T (fun i l' hi hl => h (i + 1) l' (by simp; omega) (by simpa using hl))
/-- what the loop's variables get in round k -/
def encY (T : List (List UInt8)) (k : Nat) : Array Value := #[.int .i64 (96 + 2 * k), .agg #[.int .u64 (w0 (T.getD k [])).toNat, .int .u64 (w1 (T.getD k [])).toNat]]
set_option maxRecDepth 100000 in
set_option maxHeartbeats 4000000 in
theorem wordsT1_any (m l tb eb cb : Nat) (tv : Value) (T : List (List UInt8)) (hT8 : T.length ≤ 1000) (J : Nat → World → Prop)
    (hJ : ∀ k A B, J k A → Below A.heap.size A B → J k B)
    (hJT : ∀ k A, J k A → Typs A tv T ∧ A.cell? ⟨tb, 0, none⟩ = some tv ∧ A.cell? ⟨eb, 0, none⟩ = some (.pointer (some ⟨cb, 0, none⟩)) ∧ A.cell? ⟨cb, 0, none⟩ = some (.int .i64 0) ∧ A.frozen? ⟨cb, 0, none⟩ = false)
    (hY : ∀ k A, J k A → k < T.length → YieldAt Fence.wide m Try.prog l (encY T k) A fun e W' => e = .returned (.bool true) ∧ J (k + 1) W')
    (W : World) (h0 : J 0 W) :
    CallsIn Fence.wide (m + 1) Try.prog 54 #[.func (.yield l) #[] #[], .pointer (some ⟨tb, 0, none⟩), .pointer (some ⟨eb, 0, none⟩)] W fun e W' => (∃ v, e = .returned v) ∧
      ∃ k A, J k A ∧ ((errT T = 0 ∧ k = T.length ∧ W' = A) ∨ (errT T ≠ 0 ∧ W' = A.setCell ⟨cb, 0, none⟩ (.int .i64 (errT T)))) := by
  have HY := Lib.hid hY; have HT := Lib.hid hJT; have HJ := Lib.hid hJ; have H0 := Lib.hid h0
  obtain ⟨t0, ct0, -, -, -⟩ := hJT 0 W h0
  have l1 := t0.len
  have HTT := Lib.hid t0
  obtain ⟨N, hN⟩ : ∃ N, N = T.length := ⟨_, rfl⟩
  rw [← hN] at l1 hT8
  have HN := Lib.hid hN
  clear hY hJT hJ h0 t0 hN
  refine callsIn_of_wp Try.func54 rfl trivial ?_ rfl
  simp only [Try.ntmps54, List.size_toArray, List.length_cons, List.length_nil, Nat.reduceAdd, Nat.reduceSub, Array.replicate_succ, Array.replicate_zero, List.push_toArray, List.append_toArray, List.nil_append, List.cons_append]
  gi_wp2
  gi_loopw [10] (fun i wr => ∃ k : Nat, k ≤ N ∧ i = .int .i64 k ∧ Hid (J k wr) ∧ Hid (∀ i l', i < k → T[i]? = some l' → kErr l' = 0))
    (fun i _ => N - (intOf i).toNat)
  case atStart => exact ⟨0, Nat.zero_le _, rfl, H0, Lib.hid (fun i l' hi => by omega)⟩
  case round =>
    obtain ⟨k, hk, rfl, hJs, hok⟩ := hrel
    by_cases hlt : k < N
    · obtain ⟨tr, ct, ce, cc, fc⟩ := HT.out k wr hJs.out
      obtain ⟨ad, x, tl, hix, hcx, htl, hbx⟩ := tr.at_ (k := k) (by rw [← HN.out]; exact hlt)
      have one := hbx.out.oneCell
      gi_wp2_with fail
      refine ⟨trivial, (callsIn_wide.2 (KWrite_any x tl _ _ (kErr tl) rfl rfl rfl wr hbx.out)).mono ?_⟩
      rintro e w2 ⟨rfl, b⟩
      have J2 := HJ.out k wr w2 hJs.out b
      obtain ⟨-, -, ce2, cc2, fc2⟩ := HT.out k w2 J2
      have tb0 : T.getD k [] = tl := by rw [List.getD_eq_getElem?_getD, htl.out]; rfl
      have hAl := fun o => (Below.refl w2.heap.size w2).alloc (Nat.le_refl _) o
      have HTB := Lib.hid tb0
      by_cases h0 : kErr tl = 0
      · obtain ⟨a, ha⟩ : ∃ a, a = w0 tl := ⟨_, rfl⟩
        obtain ⟨c, hc⟩ : ∃ c, c = w1 tl := ⟨_, rfl⟩
        obtain ⟨fn, tmps, assign, body, hy, hR⟩ := HY.out k (w2.alloc (.cells #[.int .u64 a.toNat, .int .u64 c.toNat] 76)) (HJ.out k w2 _ J2 (hAl _)) (by rw [← HN.out]; exact hlt)
        have hy' : ((Instr.yield l #[.int .i64 (96 + 2 * (k : Int)), .agg #[.int .u64 a.toNat, .int .u64 c.toNat]]).run Try.prog (w2.alloc (.cells #[.int .u64 a.toNat, .int .u64 c.toNat] 76))) = .ok (.round l fn tmps assign body) (w2.alloc (.cells #[.int .u64 a.toNat, .int .u64 c.toNat] 76)) := by
          rw [ha, hc]; rw [encY, tb0, ha, hc] at hy; exact hy
        have hr1 : IntKind.i64.wrap (2 * (k : Int)) = 2 * (k : Int) := IntWalk.i64_in _ (by omega)
        have hr2 : IntKind.i64.wrap (96 + 2 * (k : Int)) = 96 + 2 * (k : Int) := IntWalk.i64_in _ (by omega)
        rw [← ha, ← hc, h0]
        have HJ3 := Lib.hid hR
        clear hy hR tb0 ha hc
        gi_wp2
        refine HJ3.out.mono ?_
        rintro e W3 ⟨rfl, hJ3⟩
        have HJ4 := Lib.hid hJ3
        clear hJ3
        gi_wp2
        go_roundw
        case rel =>
          refine ⟨k + 1, by omega, by simp, HJ4, Lib.hid fun i l' hi hl => ?_⟩
          by_cases e : i = k
          · subst e; rw [htl.out] at hl; cases hl; exact h0
          · exact hok.out i l' (by omega) hl
        case measure => simp [intOf]; omega
      · have ce3 := fun o => (((hAl o).cell (p := ⟨eb, 0, none⟩) (World.block_lt_of_cell? w2 _ ce2)).trans ce2)
        have H0 := Lib.hid h0
        have cc3 := fun o => (((hAl o).cell (p := ⟨cb, 0, none⟩) (World.block_lt_of_cell? w2 _ cc2)).trans cc2)
        have fc3 := fun o => (((hAl o).frozen (p := ⟨cb, 0, none⟩) (World.block_lt_of_cell? w2 _ cc2)).trans fc2)
        gi_wp2
        have hE := errT_take T k tl hok.out htl.out H0.out
        exact bodyPost_ret (results_none rfl _ _ _) rfl ⟨⟨_, rfl⟩, k, _, HJ.out k w2 _ J2 (hAl _), .inr ⟨by rw [hE]; exact H0.out, by rw [hE]⟩⟩
    · obtain rfl : k = N := by omega
      gi_wp2
      go_end0
      exact ⟨⟨_, rfl⟩, _, wr, hJs.out, .inl ⟨errT_none T (fun i l' hi hl => hok.out i l' (by rw [HN.out]; exact hi) hl), HN.out, rfl⟩⟩
/-- **words(types, &e)**: the two are boxed; the function value captures the boxes. -/
theorem wordsT_any (tv : Value) (T : List (List UInt8)) (c : Addr) (w : World) (h : Typs w tv T) :
    Calls Try.prog 27 #[tv, .pointer (some c)] w fun e w' => e = .returned (.func (.func 54) #[] #[.pointer (some ⟨w.heap.size, 0, none⟩), .pointer (some ⟨w.heap.size + 1, 0, none⟩)]) ∧
      w' = (w.alloc (.cells #[tv] 22)).alloc (.cells #[.pointer (some c)] 75) := by
  obtain ⟨vs, -, ⟨A, cp, rfl, -⟩, -⟩ := h
  go_enter Try.func27, Try.ntmps27
  go_wp2
  go_ret
  exact ⟨rfl, rfl⟩
end Go.Proofs.Ytodbbacmdjcheaa
namespace Go.Proofs.Ytodbbacmdjcheaa
open Go.RowKit L02 L05 L06
def supV (W T : Int) : Value := .agg #[.int .i64 W, .int .i64 T]
def arr8 (l : List UInt64) : Value := .agg (l.map u64).toArray
theorem Check6_any (W T : Int) (w : World) : Calls Try.prog 55 #[supV W T] w fun e w' => e = .returned (.int .i64 (supErr W T)) ∧ Below w.heap.size w w' := by
  unfold supV
  go_enter Try.func55, Try.ntmps55
  go_wp2
  all_goals
    go_ret
    refine ⟨ret_int ?_, (Below.refl _ _).alloc (Nat.le_refl _) _⟩
    first
    | exact (if_pos (by unfold SupOk SizeOk; omega)).symm
    | exact (if_neg (by unfold SupOk SizeOk; omega)).symm
set_option maxHeartbeats 1000000 in
theorem words_any (W T : Int) (w : World) (h : SupOk W T) : Calls Try.prog 56 #[supV W T] w fun e w' => e = .returned (arr8 (wordsOf W T)) ∧ Below w.heap.size w w' := by
  have h1 := h.1.1; have h2 := h.1.2.1; have h3 := h.2.1; have h4 := h.2.2
  have hu1 := u_nat (n := W) (by omega) (by omega)
  have hu2 := u_nat (n := T) (by omega) (by omega)
  have HU1 := Lib.hid hu1; have HU2 := Lib.hid hu2; clear hu1 hu2 h
  unfold supV
  go_enter Try.func56, Try.ntmps56
  go_wp2_with fail
  have hW : (((w.alloc (.cells #[.int .i64 W, .int .i64 T] 80)).alloc (.cells #[.int .u64 0, .int .u64 0, .int .u64 0, .int .u64 0, .int .u64 0, .int .u64 0, .int .u64 0, .int .u64 0] 125)).alloc
    (.cells #[.int .u64 32777959566500194, .int .u64 1, .int .u64 W, .int .u64 T, .int .u64 0, .int .u64 0, .int .u64 0, .int .u64 0] 125)).heap.size = w.heap.size + 1 + 1 + 1 := by simp
  have g2 := blk_new ((w.alloc (.cells #[.int .i64 W, .int .i64 T] 80)).alloc (.cells #[.int .u64 0, .int .u64 0, .int .u64 0, .int .u64 0, .int .u64 0, .int .u64 0, .int .u64 0, .int .u64 0] 125))
    (.cells #[.int .u64 32777959566500194, .int .u64 1, .int .u64 W, .int .u64 T, .int .u64 0, .int .u64 0, .int .u64 0, .int .u64 0] 125)
  have g1 := blk_old (blk_new (w.alloc (.cells #[.int .i64 W, .int .i64 T] 80)) (.cells #[.int .u64 0, .int .u64 0, .int .u64 0, .int .u64 0, .int .u64 0, .int .u64 0, .int .u64 0, .int .u64 0] 125))
    (.cells #[.int .u64 32777959566500194, .int .u64 1, .int .u64 W, .int .u64 T, .int .u64 0, .int .u64 0, .int .u64 0, .int .u64 0] 125)
  rw [show ((w.alloc (.cells #[.int .i64 W, .int .i64 T] 80)).alloc (.cells #[.int .u64 0, .int .u64 0, .int .u64 0, .int .u64 0, .int .u64 0, .int .u64 0, .int .u64 0, .int .u64 0] 125)).heap.size = w.heap.size + 1 + 1 by simp] at g2
  rw [show (w.alloc (.cells #[.int .i64 W, .int .i64 T] 80)).heap.size = w.heap.size + 1 by simp] at g1
  have B : Below w.heap.size w _ := (((Below.refl _ w).alloc (Nat.le_refl _) (.cells #[.int .i64 W, .int .i64 T] 80)).alloc (by simp) (.cells #[.int .u64 0, .int .u64 0, .int .u64 0, .int .u64 0, .int .u64 0, .int .u64 0, .int .u64 0, .int .u64 0] 125)).alloc (by simp; omega)
    (.cells #[.int .u64 32777959566500194, .int .u64 1, .int .u64 W, .int .u64 T, .int .u64 0, .int .u64 0, .int .u64 0, .int .u64 0] 125)
  have r := part_words (n := 7) (c := 8) (body W T) g2 rfl rfl (by simp [body, u64, HU1.out, HU2.out, magic]) (by simp)
  refine (Of_any _ _ _ r (by simp [body])).mono ?_
  rintro e w2 ⟨rfl, b⟩
  have g1' := blk_below g1 b; have g2' := blk_below g2 b
  replace B := B.trans (b.mono B.size)
  have hz := b.size
  rw [hW] at hz
  clear r b g1 g2 hW
  obtain ⟨S, hS⟩ : ∃ S, S = sum (body W T) := ⟨_, rfl⟩
  rw [← hS]
  have HS := Lib.hid hS; clear hS
  have c1 := blk_cell g1'; have c2 := blk_cell g2'; have f1 := blk_free g1'; have f2 := blk_free g2'
  have HB := Lib.hid B
  clear B g1' g2'
  go_wp2
  refine bodyPost_ret (v := arr8 (wordsOf W T)) ?_ rfl ⟨rfl, ?_⟩
  · simp [results, Try.results56, go_sem, c1, f1]
    simp [arr8, wordsOf, body, u64, HU1.out, HU2.out, magic, HS.out]
  · iterate 9 refine Below.setCell ?_ (by simp <;> omega) _
    exact HB.out
/-- fresh words and an error; the block may be that of an array. -/
def RetWB (w : World) (l : List UInt64) (err : Int) (e : Ending) (w' : World) : Prop := ∃ v, e = .returned (.tuple #[v, .int .i64 err]) ∧ (∃ E, OwnW w' w.heap.size E v l) ∧ Below w.heap.size w w'
set_option maxHeartbeats 1000000 in
theorem Write6_any (W T : Int) (w : World) : Calls Try.prog 29 #[supV W T] w (RetWB w (write W T) (supErr W T)) := by
  by_cases h : SupOk W T
  · have h0 : supErr W T = 0 := if_pos h
    have hl : arr8 (wordsOf W T) = .agg #[.int .u64 magic.toNat, .int .u64 (1 : UInt64).toNat, .int .u64 (u W).toNat, .int .u64 (u T).toNat, .int .u64 (0 : UInt64).toNat, .int .u64 (0 : UInt64).toNat, .int .u64 (0 : UInt64).toNat, .int .u64 (sum (body W T)).toNat] := rfl
    have H := Lib.hid h; have H0 := Lib.hid h0; clear h h0
    have HL := Lib.hid hl; clear hl
    unfold supV
    go_enter Try.func29, Try.ntmps29
    go_wp2_with fail
    refine (Check6_any W T _).mono ?_
    rw [H0.out]
    rintro e w1 ⟨rfl, b⟩
    have c1 := blk_cell (blk_below (blk_new w (.cells #[.int .i64 W, .int .i64 T] 80)) b)
    have B := ((Below.refl _ w).alloc (Nat.le_refl _) (.cells #[.int .i64 W, .int .i64 T] 80)).trans (b.mono (by simp))
    have HB := Lib.hid B; clear B b
    go_wp2_with fail
    refine (words_any W T _ H.out).mono ?_
    rw [HL.out]
    rintro e w2 ⟨rfl, b⟩
    have B := HB.out.trans (b.mono HB.out.size)
    have HB := Lib.hid B; clear B b
    clear c1
    go_wp2
    go_ret2
    refine ⟨_, ret_ve H0.out.symm, ⟨125, OwnW.of (World.ownsRow_lit w2 _ 8 HB.out.size (by simp [maxLen]) rfl) ?_⟩, HB.out.alloc HB.out.size _⟩
    rw [write, if_pos H.out]
    rfl
  · have h0 : supErr W T = 8 := if_neg h
    have H := Lib.hid h; have H0 := Lib.hid h0; clear h h0
    unfold supV
    go_enter Try.func29, Try.ntmps29
    go_wp2_with fail
    refine (Check6_any W T _).mono ?_
    rw [H0.out]
    rintro e w1 ⟨rfl, b⟩
    have B := ((Below.refl _ w).alloc (Nat.le_refl _) (.cells #[.int .i64 W, .int .i64 T] 80)).trans (b.mono (by simp))
    have HB := Lib.hid B; clear B b
    go_wp2
    go_ret2
    refine ⟨_, ret_ve H0.out.symm, ⟨64, ?_⟩, HB.out⟩
    rw [write, if_neg H.out]
    exact OwnW.nil _ _ _
end Go.Proofs.Ytodbbacmdjcheaa
namespace Go.Proofs.Ytodbbacmdjcheaa.L01
/-- the bits of w from f on, k of them -/
def val (w f k : Nat) : Nat := w / 2 ^ f % 2 ^ k
end Go.Proofs.Ytodbbacmdjcheaa.L01
namespace Go.Proofs.Ytodbbacmdjcheaa
open Go.RowKit L01
end Go.Proofs.Ytodbbacmdjcheaa
namespace Go.Proofs.Ytodbbacmdjcheaa
open Go.RowKit L01 L02 L05 L14
set_option maxHeartbeats 1000000 in
theorem HCheck_any (b : Hb) (r : Int) (hr : r = hErr b) (w : World) : Calls Try.prog 57 #[.agg #[.int .i64 b.at_, .int .i64 b.size, .int .i64 b.kind, .int .i64 b.ty, .bool b.mark, .int .u64 b.next.toNat]] w fun e w' => e = .returned (.int .i64 r) ∧ Below w.heap.size w w' := by
  have HB := Lib.hid hr; clear hr
  obtain ⟨at_, size, kind, ty, mark, next⟩ := b
  dsimp only at *
  cases mark
  all_goals
    go_enter Try.func57, Try.ntmps57
    go_wp2
    all_goals
      go_ret
      refine ⟨ret_int ?_, (Below.refl _ _).alloc (Nat.le_refl _) _⟩
      rw [HB.out]
      try simp only [Bool.not_eq_true', Bool.not_eq_false', decide_eq_true_eq, decide_eq_false_iff_not, beq_eq_false_iff_ne, beq_iff_eq, bne_iff_ne, bne_eq_false_iff_eq, ne_eq] at *
      first
      | exact (hErr_ok (by simp [BkOk, ObjB, FreeB]; try omega)).symm
      | exact (hErr_no (by simp [BkOk, ObjB, FreeB]; try omega)).symm
theorem mask32_any (w : World) : Calls Try.prog 105 #[.int .i64 0, .int .i64 32] w fun e w' => e = .returned (.int .u64 4294967295) ∧ w = w' := by
  go_enter Try.func105, Try.ntmps105
  go_wp2
  go_ret
  exact ⟨rfl, rfl⟩
theorem Get32_any (x : UInt64) (r : Nat) (hr : r = x.toNat % 4294967296) (w : World) : Calls Try.prog 95 #[.int .u64 x.toNat, .int .i64 0, .int .i64 32] w fun e w' => e = .returned (.tuple #[.int .u64 (r : Int), .int .i64 0]) ∧ w = w' := by
  have hxl := toNat_lt x
  have e1 := and_int (a := (x.toNat : Int)) 32 (by omega) (by omega) 4294967295 (by decide) (by omega)
  rw [show ((2 ^ 32 : Nat) : Int) = 4294967296 from rfl] at e1
  have e2 : (x.toNat : Int) % 4294967296 = (r : Int) := by rw [hr]; omega
  have e3 := e1.trans e2
  clear hr e1 e2
  go_enter Try.func95, Try.ntmps95
  go_wp2_with fail
  refine (mask32_any _).mono ?_
  rintro e w' ⟨rfl, rfl⟩
  go_wp2
  go_ret2
  exact ⟨rfl, rfl⟩
theorem Low32_any (v : Value) (l : List UInt64) (r : Nat) (hr : r = (sum l).toNat % 4294967296) (hl : l.length ≤ 2048) (w : World) (h : Words w v l) :
    Calls Try.prog 84 #[v, .int .i64 32] w fun e w' => e = .returned (.tuple #[.int .u64 (r : Int), .int .i64 0]) ∧ Below w.heap.size w w' := by
  obtain ⟨S, hS⟩ : ∃ S, S = sum l := ⟨_, rfl⟩
  rw [← hS] at hr
  have GT := Lib.hid (fun w => Get32_any S r hr w)
  have HO : Hid (∀ w, Words w v l → Calls Try.prog 67 #[v] w fun e w' => e = .returned (.tuple #[.int .u64 S.toNat, .int .i64 0]) ∧ Below w.heap.size w w') := by
    rw [hS]; exact Lib.hid (fun w h => Of_any v l w h hl)
  have B : Below w.heap.size w w := Below.refl _ _
  have H := Lib.hid h; clear h hr hS
  go_enter Try.func84, Try.ntmps84
  go_wp2_with fail
  refine (HO.out _ (H.out.below B)).mono ?_
  rintro e wa1 ⟨rfl, b⟩
  replace B := B.trans (b.mono B.size); clear b
  go_wp2_with fail
  refine (GT.out _).mono ?_
  rintro e w' ⟨rfl, rfl⟩
  go_wp2
  go_ret2
  exact ⟨rfl, B⟩
theorem lit_one {w : World} {e n : Nat} (x : UInt64) (hn : w.heap.size = n) : Words (w.alloc (.cells #[.int .u64 x.toNat] e)) (.slice (some ⟨n, 0, none⟩) 1 1) [x] := by
  subst hn; exact lit_words [x] rfl rfl (by simp)
set_option maxRecDepth 100000 in
theorem sealed_any (x : UInt64) (r : Nat) (hx : x.toNat < 4294967296) (hr : r = x.toNat + partN x * 4294967296) (w : World) :
    Calls Try.prog 59 #[.int .u64 x.toNat] w fun e w' => e = .returned (.tuple #[.int .u64 (r : Int), .int .i64 0]) ∧ Below w.heap.size w w' := by
  have B : Below w.heap.size w w := Below.refl _ _
  obtain ⟨p, hp⟩ : ∃ p, p = partN x := ⟨_, rfl⟩
  have hpl : p < 4294967296 := by rw [hp]; exact part_lt x
  have hp2 : (sum [x]).toNat % 4294967296 = p := hp.symm
  have LO := Lib.hid (fun v w h => Low32_any v [x] p hp2.symm (by simp) w h)
  have e1 := or_int (a := (x.toNat : Int)) (b := (p : Int) * 4294967296) 32 p (by omega) (by simp; omega) (by omega) (by omega) (by omega)
  have e2 : IntKind.u64.wrap ((p : Int) * 4294967296) = (p : Int) * 4294967296 := by rw [wrap_u64]; omega
  rw [← hp] at hr
  have HR := Lib.hid hr; clear hp hr hp2
  go_enter Try.func59, Try.ntmps59
  go_wp2_with fail
  refine (LO.out _ _ (lit_one x rfl)).mono ?_
  rintro e w' ⟨rfl, b⟩
  replace B := (B.alloc B.size _).trans (b.mono (by simp))
  go_wp2
  go_ret2
  exact ⟨by rw [HR.out]; congr 3, B⟩
set_option maxHeartbeats 1000000 in
theorem of_any (b : Hb) (hb : BkOk b) (lw : Nat) (hlw : lw = lowN b) (w : World) :
    Calls Try.prog 58 #[.agg #[.int .i64 b.at_, .int .i64 b.size, .int .i64 b.kind, .int .i64 b.ty, .bool b.mark, .int .u64 b.next.toNat]] w fun e w' => e = .returned (.agg #[.int .u64 (lw : Int), .int .u64 b.kind, .int .u64 b.ty, .int .u64 b.size, .int .u64 (mk1 b.mark : Nat)]) ∧ Below w.heap.size w w' := by
  have B : Below w.heap.size w w := Below.refl _ _
  obtain ⟨h1, h2, h3, h4, h5, h6⟩ := hb.bounds
  obtain ⟨at_, size, kind, ty, mark, next⟩ := b
  dsimp only at *
  obtain ⟨S, rfl⟩ := Int.eq_ofNat_of_zero_le (show 0 ≤ size by omega)
  obtain ⟨K, rfl⟩ := Int.eq_ofNat_of_zero_le (show 0 ≤ kind by omega)
  obtain ⟨T, rfl⟩ := Int.eq_ofNat_of_zero_le h5
  have w1 : IntKind.u64.wrap (K : Int) = K := by rw [wrap_u64]; omega
  have w2 : IntKind.u64.wrap (T : Int) = T := by rw [wrap_u64]; omega
  have w3 : IntKind.u64.wrap (S : Int) = S := by rw [wrap_u64]; omega
  have w4 : IntKind.u64.wrap ((T : Int) * 512) = (T : Int) * 512 := by rw [wrap_u64]; omega
  have w5 : IntKind.u64.wrap ((S : Int) * 65536) = (S : Int) * 65536 := by rw [wrap_u64]; omega
  have HL := Lib.hid hlw; clear hlw hb
  cases mark
  · have o1 := or_int (a := (K : Int)) (b := (T : Int) * 512) 9 T (by omega) (by simp; omega) (by omega) (by omega) (by omega)
    have o2 := or_int (a := (K : Int) + (T : Int) * 512) (b := (S : Int) * 65536) 16 S (by omega) (by simp; omega) (by omega) (by omega) (by omega)
    have o0 := or_int (a := (K : Int)) (b := 0) 9 0 (by omega) (by simp; omega) (by omega) (by omega) (by omega)
    rw [Int.add_zero] at o0
    go_enter Try.func58, Try.ntmps58
    go_wp2
    refine bodyPost_ret (v := .agg #[.int .u64 (lw : Int), .int .u64 K, .int .u64 T, .int .u64 S, .int .u64 0]) (by simp [results, Try.results58, go_sem, HL.out, lowN, mk1]) rfl ⟨rfl, ?_⟩
    (repeat (first | refine Below.setCell ?_ (by first | exact Nat.le_refl _ | (simp <;> omega)) _ | refine Below.alloc ?_ (by first | exact B.size | (have := B.size; simp <;> omega)) _)); exact B
  · have o0 := or_int (a := (K : Int)) (b := 256) 8 1 (by omega) (by simp; omega) (by omega) (by omega) (by omega)
    have o1 := or_int (a := (K : Int) + 256) (b := (T : Int) * 512) 9 T (by omega) (by simp; omega) (by omega) (by omega) (by omega)
    have o2 := or_int (a := (K : Int) + 256 + (T : Int) * 512) (b := (S : Int) * 65536) 16 S (by omega) (by simp; omega) (by omega) (by omega) (by omega)
    go_enter Try.func58, Try.ntmps58
    go_wp2
    refine bodyPost_ret (v := .agg #[.int .u64 (lw : Int), .int .u64 K, .int .u64 T, .int .u64 S, .int .u64 1]) (by simp [results, Try.results58, go_sem, HL.out, lowN, mk1]) rfl ⟨rfl, ?_⟩
    (repeat (first | refine Below.setCell ?_ (by first | exact Nat.le_refl _ | (simp <;> omega)) _ | refine Below.alloc ?_ (by first | exact B.size | (have := B.size; simp <;> omega)) _)); exact B
theorem form_low (a b c d e : Int) (W : World) : (Instr.field 130 (.agg #[.int .u64 a, .int .u64 b, .int .u64 c, .int .u64 d, .int .u64 e]) 0).run Try.prog W = .ok (.int .u64 a) W := by kernel_rfl
set_option maxRecDepth 100000 in
theorem HWord_any (b : Hb) (v : UInt64) (r : Int) (hv : v = word b) (hr : r = hErr b) (w : World) :
    Calls Try.prog 30 #[.agg #[.int .i64 b.at_, .int .i64 b.size, .int .i64 b.kind, .int .i64 b.ty, .bool b.mark, .int .u64 b.next.toNat]] w fun e w' => e = .returned (.tuple #[.int .u64 v.toNat, .int .i64 r]) ∧ Below w.heap.size w w' := by
  have B : Below w.heap.size w w := Below.refl _ _
  have CT := Lib.hid (fun w => HCheck_any b r hr w)
  by_cases hb : BkOk b
  · rw [hErr_ok hb] at hr
    have hn := word_nat hb
    rw [← hv] at hn
    have hlt := lowN_lt hb
    obtain ⟨x, hx⟩ : ∃ x : UInt64, x = UInt64.ofNat (lowN b) := ⟨_, rfl⟩
    have hxn : x.toNat = lowN b := by rw [hx, UInt64.toNat_ofNat', Nat.mod_eq_of_lt (by omega)]
    have OT := Lib.hid (fun w => of_any b hb x.toNat hxn w)
    have ST := Lib.hid (fun w => sealed_any x v.toNat (by omega) (by rw [hn, wordN, ← hx, hxn]) w)
    subst hr
    have hf := fun W => form_low (x.toNat : Int) b.kind b.ty b.size (mk1 b.mark : Nat) W
    clear hv hb hn hlt hx hxn
    go_enter Try.func30, Try.ntmps30
    go_upto_region 1 with (fail)
    refine wp_gen (fun Wv => Bx Wv (w.heap.size) (84) (#[.int .i64 b.at_, .int .i64 b.size, .int .i64 b.kind, .int .i64 b.ty, .bool b.mark, .int .u64 b.next.toNat]) ∧ Below w.heap.size w Wv) ⟨((Bx.at_ (by simp))), ((Below.refl _ w).alloc (by simp <;> omega) _)⟩ ?_
    rintro wa1 ⟨g1, b⟩
    replace B := B.trans (b.mono B.size); clear b
    have c_g1 := g1.cell; have f_g1 := g1.free; have a_g1 := fun o => (g1.alloc o).cell; have d_g1 := fun o o2 => ((g1.alloc o).alloc o2).cell; have e_g1 := fun o => (g1.alloc o).free
    go_wp2_with fail
    refine (CT.out _).mono ?_
    rintro e wa2 ⟨rfl, b⟩
    try clear c_g1 f_g1 a_g1 d_g1 e_g1
    replace g1 := g1.below b; have c_g1 := g1.cell; have f_g1 := g1.free; have a_g1 := fun o => (g1.alloc o).cell; have d_g1 := fun o o2 => ((g1.alloc o).alloc o2).cell; have e_g1 := fun o => (g1.alloc o).free; replace B := B.trans (b.mono B.size); clear b
    go_wp2_with fail
    refine (OT.out _).mono ?_
    rintro e wa3 ⟨rfl, b⟩
    try clear c_g1 f_g1 a_g1 d_g1 e_g1
    replace g1 := g1.below b; have c_g1 := g1.cell; have f_g1 := g1.free; have a_g1 := fun o => (g1.alloc o).cell; have d_g1 := fun o o2 => ((g1.alloc o).alloc o2).cell; have e_g1 := fun o => (g1.alloc o).free; replace B := B.trans (b.mono B.size); clear b
    go_wp2_with fail
    refine (ST.out _).mono ?_
    rintro e wa4 ⟨rfl, b⟩
    try clear c_g1 f_g1 a_g1 d_g1 e_g1
    replace g1 := g1.below b; have c_g1 := g1.cell; have f_g1 := g1.free; have a_g1 := fun o => (g1.alloc o).cell; have d_g1 := fun o o2 => ((g1.alloc o).alloc o2).cell; have e_g1 := fun o => (g1.alloc o).free; replace B := B.trans (b.mono B.size); clear b
    go_wp2
    go_ret2
    exact ⟨rfl, B⟩
  · rw [hErr_no hb] at hr
    have hv0 : v = 0 := by rw [hv, word, if_neg hb]
    subst hr; subst hv0
    clear hv hb
    go_enter Try.func30, Try.ntmps30
    go_upto_region 1 with (fail)
    refine wp_gen (fun Wv => Bx Wv (w.heap.size) (84) (#[.int .i64 b.at_, .int .i64 b.size, .int .i64 b.kind, .int .i64 b.ty, .bool b.mark, .int .u64 b.next.toNat]) ∧ Below w.heap.size w Wv) ⟨((Bx.at_ (by simp))), ((Below.refl _ w).alloc (by simp <;> omega) _)⟩ ?_
    rintro wa1 ⟨g1, b⟩
    replace B := B.trans (b.mono B.size); clear b
    have c_g1 := g1.cell; have f_g1 := g1.free; have a_g1 := fun o => (g1.alloc o).cell; have d_g1 := fun o o2 => ((g1.alloc o).alloc o2).cell; have e_g1 := fun o => (g1.alloc o).free
    go_wp2_with fail
    refine (CT.out _).mono ?_
    rintro e wa2 ⟨rfl, b⟩
    try clear c_g1 f_g1 a_g1 d_g1 e_g1
    replace g1 := g1.below b; have c_g1 := g1.cell; have f_g1 := g1.free; have a_g1 := fun o => (g1.alloc o).cell; have d_g1 := fun o o2 => ((g1.alloc o).alloc o2).cell; have e_g1 := fun o => (g1.alloc o).free; replace B := B.trans (b.mono B.size); clear b
    go_wp2
    go_ret2
    exact ⟨rfl, B⟩
set_option maxRecDepth 100000 in
set_option maxHeartbeats 1000000 in
theorem HSplit_any (x : UInt64) (b : Hb) (r : Int) (hb : b = split x) (hr : r = splE x) (w : World) :
    Calls Try.prog 102 #[.int .u64 x.toNat] w fun e w' => e = .returned (.tuple #[.agg #[.int .i64 b.at_, .int .i64 b.size, .int .i64 b.kind, .int .i64 b.ty, .bool b.mark, .int .u64 b.next.toNat], .int .i64 r]) ∧ Below w.heap.size w w' := by
  have B : Below w.heap.size w w := Below.refl _ _
  have hxl := toNat_lt x
  obtain ⟨t, ht⟩ : ∃ t, t = told x := ⟨_, rfl⟩
  obtain ⟨v, hv⟩ : ∃ v, v = word t := ⟨_, rfl⟩
  obtain ⟨e, he⟩ : ∃ e, e = hErr t := ⟨_, rfl⟩
  have WT := Lib.hid (fun w => HWord_any t v e hv he w)
  have a1 := and_int (a := (x.toNat : Int)) 8 (by omega) (by omega) 255 (by decide) (by omega)
  have a2 := and_int (a := (x.toNat : Int) / 256) 1 (by omega) (by omega) 1 (by decide) (by omega)
  have a3 := and_int (a := (x.toNat : Int) / 512) 7 (by omega) (by omega) 127 (by decide) (by omega)
  have a4 := and_int (a := (x.toNat : Int) / 65536) 16 (by omega) (by omega) 65535 (by decide) (by omega)
  rw [show ((2 ^ 8 : Nat) : Int) = 256 from rfl] at a1
  rw [show ((2 ^ 1 : Nat) : Int) = 2 from rfl] at a2
  rw [show ((2 ^ 7 : Nat) : Int) = 128 from rfl] at a3
  rw [show ((2 ^ 16 : Nat) : Int) = 65536 from rfl] at a4
  have i1 : IntKind.i64.wrap ((x.toNat : Int) % 256) = (x.toNat : Int) % 256 := IntWalk.i64_in _ (by omega)
  have i3 : IntKind.i64.wrap ((x.toNat : Int) / 512 % 128) = (x.toNat : Int) / 512 % 128 := IntWalk.i64_in _ (by omega)
  have i4 : IntKind.i64.wrap ((x.toNat : Int) / 65536 % 65536) = (x.toNat : Int) / 65536 % 65536 := IntWalk.i64_in _ (by omega)
  have t1 : (x.toNat : Int) % 256 = t.kind := by rw [ht]; rfl
  have t3 : (x.toNat : Int) / 512 % 128 = t.ty := by rw [ht]; rfl
  have t4 : (x.toNat : Int) / 65536 % 65536 = t.size := by rw [ht]; rfl
  have t2 : ((x.toNat : Int) / 256 % 2 == 1) = t.mark := by
    rw [ht, Bool.eq_iff_iff, beq_iff_eq]
    show _ ↔ decide (x.toNat / 256 % 2 = 1) = true
    rw [decide_eq_true_iff]; omega
  have t5 : t.at_ = 0 := by rw [ht]; rfl
  have t6 : t.next = 0 := by rw [ht]; rfl
  have hcase : (e = 0 ∧ v = x ∧ b = t ∧ r = 0) ∨ (e ≠ 0 ∧ b = .none ∧ r = 50) ∨ (e = 0 ∧ v ≠ x ∧ b = .none ∧ r = 50) := by
    by_cases hk : BkOk t
    · by_cases hw : v = x
      · have hd : HdOk x := ⟨by rw [← ht]; exact hk, by rw [← ht, ← hv]; exact hw⟩
        exact .inl ⟨by rw [he, hErr_ok hk], hw, by rw [hb, split_told hd, ht], by rw [hr, splE, if_pos hd]⟩
      · have hd : ¬ HdOk x := fun h => hw (by rw [hv, ht]; exact h.2)
        exact .inr (.inr ⟨by rw [he, hErr_ok hk], hw, by rw [hb, split, if_neg hd], by rw [hr, splE, if_neg hd]⟩)
    · have hd : ¬ HdOk x := fun h => hk (by rw [ht]; exact h.1)
      exact .inr (.inl ⟨by rw [he, hErr_no hk]; decide, by rw [hb, split, if_neg hd], by rw [hr, splE, if_neg hd]⟩)
  obtain ⟨at_, size, kind, ty, mark, next⟩ := t
  dsimp only at t1 t2 t3 t4 t5 t6
  subst t5; subst t6
  have q1 := a1.trans t1; have q3 := a3.trans t3; have q4 := a4.trans t4
  have j1 : IntKind.i64.wrap kind = kind := by rw [← t1]; exact i1
  have j3 : IntKind.i64.wrap ty = ty := by rw [← t3]; exact i3
  have j4 : IntKind.i64.wrap size = size := by rw [← t4]; exact i4
  have WT' : Hid (∀ w, Calls Try.prog 30 #[.agg #[.int .i64 0, .int .i64 size, .int .i64 kind, .int .i64 ty, .bool mark, .int .u64 0]] w fun e_1 w' => e_1 = .returned (.tuple #[.int .u64 v.toNat, .int .i64 e]) ∧ Below w.heap.size w w') := WT
  clear ht hv he hb hr WT a1 a3 a4 i1 i3 i4 t1 t3 t4
  go_enter Try.func102, Try.ntmps102
  go_upto_region 2 with (fail)
  refine wp_gen (fun Wv => Bx Wv (w.heap.size) (84) (#[.int .i64 0, .int .i64 0, .int .i64 0, .int .i64 0, .bool false, .int .u64 0]) ∧ Bx Wv (w.heap.size + 1) (84) (#[.int .i64 0, .int .i64 size, .int .i64 kind, .int .i64 ty, .bool mark, .int .u64 0]) ∧ Below w.heap.size w Wv) ⟨(((Bx.at_ (by simp)).alloc _)), ((Bx.at_ (by simp))), (((Below.refl _ w).alloc (by simp <;> omega) _).alloc (by simp <;> omega) _)⟩ ?_
  rintro wa1 ⟨g1, g2, b⟩
  replace B := B.trans (b.mono B.size); clear b
  have c_g1 := g1.cell; have f_g1 := g1.free; have a_g1 := fun o => (g1.alloc o).cell; have d_g1 := fun o o2 => ((g1.alloc o).alloc o2).cell; have e_g1 := fun o => (g1.alloc o).free
  have c_g2 := g2.cell; have f_g2 := g2.free; have a_g2 := fun o => (g2.alloc o).cell; have d_g2 := fun o o2 => ((g2.alloc o).alloc o2).cell; have e_g2 := fun o => (g2.alloc o).free
  go_wp2_with fail
  refine (WT'.out _).mono ?_
  rintro e wa2 ⟨rfl, b⟩
  try clear c_g1 f_g1 a_g1 d_g1 e_g1
  replace g1 := g1.below b; have c_g1 := g1.cell; have f_g1 := g1.free; have a_g1 := fun o => (g1.alloc o).cell; have d_g1 := fun o o2 => ((g1.alloc o).alloc o2).cell; have e_g1 := fun o => (g1.alloc o).free; try clear c_g2 f_g2 a_g2 d_g2 e_g2
  replace g2 := g2.below b; have c_g2 := g2.cell; have f_g2 := g2.free; have a_g2 := fun o => (g2.alloc o).cell; have d_g2 := fun o o2 => ((g2.alloc o).alloc o2).cell; have e_g2 := fun o => (g2.alloc o).free; replace B := B.trans (b.mono B.size); clear b
  rcases hcase with ⟨rfl, rfl, rfl, rfl⟩ | ⟨h1, rfl, rfl⟩ | ⟨rfl, h1, rfl, rfl⟩
  · go_wp2
    refine bodyPost_ret (v := .tuple #[.agg #[.int .i64 0, .int .i64 size, .int .i64 kind, .int .i64 ty, .bool mark, .int .u64 0], .int .i64 0]) (by simp [results, Try.results102, go_sem, c_g1, f_g1, a_g1, e_g1, c_g2, f_g2, a_g2, e_g2]) rfl ?_
    refine ⟨rfl, ?_⟩
    (repeat (first | refine Below.setCell ?_ (by first | exact Nat.le_refl _ | (simp <;> omega)) _ | refine Below.alloc ?_ (by first | exact B.size | (have := B.size; simp <;> omega)) _)); exact B
  · have n1 : (e != 0) = true := by rw [bne_iff_ne]; exact h1
    go_wp2
    refine bodyPost_ret (v := .tuple #[.agg #[.int .i64 0, .int .i64 0, .int .i64 0, .int .i64 0, .bool false, .int .u64 0], .int .i64 50]) (by simp [results, Try.results102, go_sem, c_g1, f_g1, a_g1, e_g1, c_g2, f_g2, a_g2, e_g2]) rfl ?_
    refine ⟨rfl, ?_⟩
    (repeat (first | refine Below.setCell ?_ (by first | exact Nat.le_refl _ | (simp <;> omega)) _ | refine Below.alloc ?_ (by first | exact B.size | (have := B.size; simp <;> omega)) _)); exact B
  · have n1 : ((v.toNat : Int) != (x.toNat : Int)) = true := by rw [bne_iff_ne]; intro e; exact h1 (UInt64.toNat.inj (by omega))
    go_wp2
    refine bodyPost_ret (v := .tuple #[.agg #[.int .i64 0, .int .i64 0, .int .i64 0, .int .i64 0, .bool false, .int .u64 0], .int .i64 50]) (by simp [results, Try.results102, go_sem, c_g1, f_g1, a_g1, e_g1, c_g2, f_g2, a_g2, e_g2]) rfl ?_
    refine ⟨rfl, ?_⟩
    (repeat (first | refine Below.setCell ?_ (by first | exact Nat.le_refl _ | (simp <;> omega)) _ | refine Below.alloc ?_ (by first | exact B.size | (have := B.size; simp <;> omega)) _)); exact B
end Go.Proofs.Ytodbbacmdjcheaa
namespace Go.Proofs.Ytodbbacmdjcheaa
open Go.RowKit L02
theorem New_any (n : Int) (w : World) : Calls Try.prog 26 #[.int .i64 n] w (RetWE w (new n) (newErr n)) := by
  by_cases hs : SizeOk n
  · have h0 : 0 ≤ n := by have := hs.1; omega
    have h2 : n ≤ 2048 := hs.2.1
    obtain ⟨m, rfl⟩ := Int.eq_ofNat_of_zero_le h0
    have HS := Lib.hid hs; clear hs
    go_enter Try.func26, Try.ntmps26
    go_wp2_with (first
      | (go_at_call 53; refine (Size_any _ true (decide_eq_true HS.out).symm _).mono ?_; rintro e w' ⟨rfl, rfl⟩)
      | (at_make
         refine wpList_make (by rfl) rfl rfl rfl Try.underlying25 info_u64 rfl (by omega) (by omega) (Below.refl w.heap.size w) (Nat.le_refl _) ?_
         intro v1 w1 hown hbel))
    go_ret2
    refine ⟨v1, ?_, OwnW.of hown ?_, hbel⟩
    · simp [newErr, HS.out]
    · simp [new, HS.out, u64]
  · have HS := Lib.hid hs; clear hs
    go_enter Try.func26, Try.ntmps26
    go_wp2_with (go_at_call 53; refine (Size_any _ false (decide_eq_false HS.out).symm _).mono ?_; rintro e w' ⟨rfl, rfl⟩)
    go_ret2
    refine ⟨_, ?_, OwnW.of (World.ownsRow_nil _ _ _ _) ?_, Below.refl _ _⟩
    · simp [newErr, HS.out]
    · simp [new, HS.out]
def RetW (w : World) (l : List UInt64) (e : Ending) (w' : World) : Prop := ∃ v, e = .returned v ∧ OwnW w' w.heap.size 64 v l ∧ Below w.heap.size w w'
end Go.Proofs.Ytodbbacmdjcheaa
