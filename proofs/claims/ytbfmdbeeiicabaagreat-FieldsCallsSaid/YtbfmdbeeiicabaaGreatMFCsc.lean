/- Contracts of the functions that the law 'FieldsCalls' reaches, part 3. No condition. -/
import Derived.Test.YtbfmdbeeiicabaaGreatMFCsb
set_option linter.unusedVariables false
set_option linter.unusedSimpArgs false
namespace Go.Proofs.YtbfmdbeeiicabaaGreat
open Go.RowKit L02 L05 L13
/-- A slice of slices of bytes. -/
def Typs (w : World) (v : Value) (L : List (List UInt8)) : Prop := ∃ vs : List Value, vs.length = L.length ∧ Rd w 1 v L.length vs ∧ ∀ (i : Nat) x l, vs[i]? = some x → L[i]? = some l → Byts w x l
/-- .. of the call's own, its rows too. -/
def OwnT (w : World) (base : Nat) (v : Value) (L : List (List UInt8)) : Prop := ∃ vs : List Value, vs.length = L.length ∧ w.ownsRow base 94 1 v L.length vs ∧ ∀ (i : Nat) x l, vs[i]? = some x → L[i]? = some l → OwnB w base 5 x l
theorem OwnT.rd {w : World} {base : Nat} {v : Value} {L : List (List UInt8)} (h : OwnT w base v L) : Typs w v L := by
  obtain ⟨vs, h1, h2, h4⟩ := h; exact ⟨vs, h1, Rd.of_own h2, fun i x l h5 h6 => (h4 i x l h5 h6).rd⟩
theorem Typs.below {w w' : World} {v : Value} {L : List (List UInt8)} (h : Typs w v L) (hb : Below w.heap.size w w') : Typs w' v L := by
  obtain ⟨vs, h1, h2, h3⟩ := h; exact ⟨vs, h1, h2.below hb, fun i x l h4 h5 => (h3 i x l h4 h5).below hb⟩
theorem OwnT.below {w w' : World} {base : Nat} {v : Value} {L : List (List UInt8)} (h : OwnT w base v L) (hb : Below w.heap.size w w') : OwnT w' base v L := by
  obtain ⟨vs, h1, h2, h4⟩ := h; exact ⟨vs, h1, own_below h2 hb, fun i x l h5 h6 => (h4 i x l h5 h6).below hb⟩
theorem OwnT.nil (w : World) (base : Nat) : OwnT w base (.slice none 0 0) [] := ⟨[], rfl, World.ownsRow_nil w base _ 1, fun i x l h => by simp at h⟩
theorem Typs.len {w : World} {v : Value} {L : List (List UInt8)} (h : Typs w v L) : ∀ ty W, (Builtin.len_ #[89] ty #[v]).run Tryz.prog W = .ok (.int .i64 (L.length : Int)) W := by
  obtain ⟨vs, h1, h2, h3⟩ := h; exact Rd.len h2 Tryz.underlying89
theorem Typs.len_le {w : World} {v : Value} {L : List (List UInt8)} (h : Typs w v L) : L.length ≤ 9223372036854775807 := by
  obtain ⟨vs, h1, h2, h3⟩ := h; exact Rd.len_le h2
theorem one_bytes : (Tryz.prog.info? 94).map (·.size) = some 1 := by kernel_rfl
theorem info_bytes : (Tryz.prog.info? 94).map (fun i => (i.zero, i.size, i.bytes)) = some (some (.slice none 0 0), 1, 24) := by kernel_rfl
theorem Typs.at_ {w : World} {v : Value} {L : List (List UInt8)} (h : Typs w v L) {k : Nat} (hk : k < L.length) :
    ∃ ad x l, (∀ W, (Instr.indexAt 89 v (.int .i64 (k : Int))).run Tryz.prog W = .ok (.pointer (some ad)) W) ∧ w.cell? ad = some x ∧ Hid (L[k]? = some l) ∧ Hid (Byts w x l) := by
  obtain ⟨vs, h1, h2, h3⟩ := h
  have hv : vs[k]? = some vs[k] := List.getElem?_eq_getElem (by omega)
  have hl : L[k]? = some L[k] := List.getElem?_eq_getElem hk
  exact ⟨_, vs[k], L[k], fun W => Rd.ixN h2 Tryz.underlying89 one_bytes hk W, by rw [Nat.mul_one]; exact Rd.cell h2 hv, Lib.hid hl, Lib.hid (h3 k _ _ hv hl)⟩
theorem Byts.oneCell {w : World} {x : Value} {l : List UInt8} (h : Byts w x l) : x.oneCell' = true := by
  obtain ⟨A, c, rfl, _⟩ := h; rfl
/-- two own rows of unlike elements lie in unlike blocks. -/
theorem own_unlike {w : World} {b1 b2 e1 e2 s1 s2 n1 n2 : Nat} {x a : Value} {xs ys : List Value} (hx : w.ownsRow b1 e1 s1 x n1 xs) (ha : w.ownsRow b2 e2 s2 a n2 ys) (h : e1 ≠ e2) : x.ownBlock = none ∨ x.ownBlock ≠ a.ownBlock := by
  rcases hx.2 with ⟨rfl, _⟩ | ⟨g, cap, cur, rfl, _, hg, _⟩
  · exact .inl rfl
  · rcases ha.2 with ⟨rfl, _⟩ | ⟨g', cap', cur', rfl, _, hg', _⟩
    · exact .inr (by simp [Value.ownBlock])
    · refine .inr ?_
      intro he
      simp [Value.ownBlock] at he
      subst he
      rw [hg] at hg'
      injection hg' with hg'
      injection hg' with _ h2 _
      exact h h2
/-- one more row. -/
theorem OwnT.snoc {w w' : World} {base n : Nat} {v v' x : Value} {L : List (List UInt8)} {l : List UInt8} {vs : List Value} (h1 : vs.length = L.length) (ho0 : w.ownsRow base 94 1 v L.length vs) (ho : w'.ownsRow base 94 1 v' n (vs ++ [x]))
    (h4 : ∀ (i : Nat) x l, vs[i]? = some x → L[i]? = some l → OwnB w base 5 x l) (hx : OwnB w base 5 x l) (hg : w.grownBy w' v.ownBlock) : OwnT w' base v' (L ++ [l]) := by
  have hn : n = (L ++ [l]).length := by have := ho.1; simp at this ⊢; omega
  subst hn
  have keep : ∀ y m, OwnB w base 5 y m → OwnB w' base 5 y m := fun y m hy => World.ownsRow.kept hy hg (own_unlike hy ho0 (by decide))
  refine ⟨vs ++ [x], by simp [h1], ho, fun i y m hy hm => ?_⟩
  by_cases hi : i < vs.length
  · rw [List.getElem?_append_left hi] at hy
    rw [List.getElem?_append_left (by omega)] at hm
    exact keep _ _ (h4 i y m hy hm)
  · rw [List.getElem?_append_right (by omega)] at hy
    rw [List.getElem?_append_right (by omega)] at hm
    have h0 : i - vs.length = 0 := by
      rcases Nat.eq_zero_or_pos (i - vs.length) with h | h
      · exact h
      · rw [List.getElem?_eq_none (by simp; omega)] at hy; cases hy
    rw [h0] at hy; rw [← h1, h0] at hm
    simp at hy hm; subst hy; subst hm
    exact keep _ _ hx
set_option maxHeartbeats 4000000 in
theorem KTable_ok (v : Value) (l : List UInt64) (n : Nat) (hn : n ≤ 8) (hs : SizeOk l.length) (L : List (List UInt8)) (r : Int) (hL : L = tabT l n) (hr : r = tabErr l n) (w : World) (h : Words w v l) :
    Calls Tryz.prog 38 #[v, .int .i64 (n : Int)] w fun e w' => ∃ x, e = .returned (.tuple #[x, .int .i64 r]) ∧ OwnT w' w.heap.size x L ∧ Below w.heap.size w w' := by
  have B : Below w.heap.size w w := Below.refl _ _
  have hbad : ¬ TysOk l n → L = [] ∧ r = 50 := fun hno => by
    have e : tabErr l n = 50 := by rw [tabErr, if_pos hs, if_pos ⟨by omega, by omega⟩, if_neg (by simpa using hno)]
    exact ⟨by rw [hL, tabT, if_neg (by rw [e]; omega)], by rw [hr, e]⟩
  have hgood : TysOk l n → L = tysTo l n ∧ r = 0 := fun hyes => by
    have e : tabErr l n = 0 := by rw [tabErr, if_pos hs, if_pos ⟨by omega, by omega⟩, if_pos (by simpa using hyes)]
    exact ⟨by rw [hL, tabT, if_pos e]; simp, by rw [hr, e]⟩
  have CT := fun w h => Check_any v l w h
  rw [chk_ok hs] at CT
  have hlen := hs.1
  have HC := Lib.hid CT; have H := Lib.hid h; have HBAD := Lib.hid hbad; have HGOOD := Lib.hid hgood
  clear CT h hs hL hr hbad hgood
  go_enter Tryz.func38, Tryz.ntmps38
  go_wp2_with fail
  refine (HC.out _ (H.out.below B)).mono ?_
  rintro e w2 ⟨rfl, rfl⟩
  go_wp2
  have HB := Lib.hid B; clear B
  go_loopw [7, 24] (fun xv i wr => ∃ k : Nat, k ≤ 8 ∧ i = .int .i64 k ∧ Hid (OwnT wr w.heap.size xv (tysTo l (min k n)) ∧ ∀ i, i < k → TyOk l n i) ∧ Below w.heap.size w wr) (fun _ i _ => 8 - (intOf i).toNat)
  case atStart => exact ⟨0, by omega, rfl, Lib.hid ⟨by rw [Nat.zero_min]; exact OwnT.nil _ _, fun i hi => by omega⟩, HB.out⟩
  case round =>
    obtain ⟨k, hk, rfl, hh, B⟩ := hrel
    by_cases hlt : k < 8
    · obtain ⟨ad, a, ia, m0, ha⟩ := (H.out.below B).atI Tryz.underlying22 one_u64 (k := 96 + 2 * (k : Int)) (by omega) (by omega)
      obtain ⟨bd, b, ib, m1, hb⟩ := (H.out.below B).atI Tryz.underlying22 one_u64 (k := 96 + 2 * (k : Int) + 1) (by omega) (by omega)
      have ea : ta l k = a := ta_of (by have := ha.out; rwa [show (96 + 2 * (k : Int)).toNat = 96 + 2 * k by omega] at this)
      have eb : tb l k = b := tb_of (by have := hb.out; rwa [show (96 + 2 * (k : Int) + 1).toNat = 97 + 2 * k by omega] at this)
      have hw1 : IntKind.i64.wrap (2 * (k : Int)) = 2 * (k : Int) := IntWalk.i64_in _ (by omega)
      have hw2 : IntKind.i64.wrap (96 + 2 * (k : Int)) = 96 + 2 * (k : Int) := IntWalk.i64_in _ (by omega)
      have hw3 : IntKind.i64.wrap (96 + 2 * (k : Int) + 1) = 96 + 2 * (k : Int) + 1 := IntWalk.i64_in _ (by omega)
      have EA := Lib.hid ea; have EB := Lib.hid eb
      clear ha hb ea eb
      by_cases hkn : k < n
      · have hmin : min k n = k := by omega
        obtain ⟨f, hf⟩ : ∃ f, f = rdL a b := ⟨_, rfl⟩
        obtain ⟨e, he⟩ : ∃ e, e = rdE a b := ⟨_, rfl⟩
        have RT := fun w => KRead_any a b f e hf he w
        have HRT := Lib.hid RT; have HF := Lib.hid hf; have HE := Lib.hid he
        have hcase : e = 0 ∨ (e != 0) = true := by by_cases h : e = 0; exact .inl h; exact .inr (by rw [bne_iff_ne]; exact h)
        clear RT hf he
        rcases hcase with rfl | hne
        · go_wp2
          refine wp_region_calm (by kernel_rfl) (by kernel_rfl) ?_
          have c_m0 := fun x : Fut _ => cell_later x.h m0
          have c_m1 := fun x : Fut _ => cell_later x.h m1
          repeat (go_big_quiet_step (fail))
          refine wpQuiet_nil ?_
          intro _ hw'
          obtain ⟨xq, hw''⟩ := hw'
          subst hw''
          clear c_m0; replace m0 := cell_later xq.h m0
          clear c_m1; replace m1 := cell_later xq.h m1
          replace B := B.trans (xq.h.mono B.size)
          clear hw1 hw2 hw3
          have HHB : Hid (OwnT xq.W w.heap.size _ (tysTo l k)) := Lib.hid (by have := hh.out.1.below xq.h; rwa [hmin] at this)
          go_wp2_with fail
          have hzz := B.size
          refine (HRT.out _).mono ?_
          rintro e w3 ⟨y, rfl, oy, bb⟩
          obtain ⟨yA, yc, rfl, _⟩ := OwnB.rd oy
          obtain ⟨vs, z1, z2, z4⟩ := HHB.out.below bb
          replace B := B.trans (bb.mono B.size)
          have HY := Lib.hid (own_mono oy (B' := w.heap.size) hzz); have HBB := Lib.hid B; have Z1 := Lib.hid z1; have Z2 := Lib.hid z2; have Z4 := Lib.hid z4
          clear bb oy B z1 z2 z4 m0 m1
          have hlk := tysTo_len l k
          have HLK := Lib.hid hlk; clear hlk
          have hba : ∀ o, Below w3.heap.size w3 (w3.alloc o) := fun o => (Below.refl _ _).alloc (Nat.le_refl _) o
          have HBA := Lib.hid hba; clear hba
          go_wp2_with (at_builtin; refine wpList_append (by rfl) rfl rfl rfl Tryz.underlying89 info_bytes rfl (by omega) (by exact own_below Z2.out (HBA.out _)) (by exact lit_rd) (by intro u hu; simp at hu; subst hu; exact (OwnB.rd HY.out).oneCell) (by rw [HLK.out]; omega) (by rw [HLK.out]; omega) (by exact HBB.out.alloc HBB.out.size _) (Nat.le_refl _) ?_; intro v1 w4 o4 B4 g4; have T4 := Lib.hid (OwnT.snoc Z1.out (own_below Z2.out (HBA.out _)) o4 (fun i x l h5 h6 => (Z4.out i x l h5 h6).below (HBA.out _)) (OwnB.below HY.out (HBA.out _)) g4); have HB4 := Lib.hid B4; clear o4 B4 g4)
          go_roundw
          case rel =>
            refine ⟨k + 1, by omega, by go_num, Lib.hid ⟨?_, ?_⟩, HB4.out⟩
            · rw [show min (k + 1) n = k + 1 by omega, tysTo_succ, EA.out, EB.out, ← HF.out]; exact T4.out
            · intro i hi
              by_cases hik : i < k
              · exact hh.out.2 i hik
              · obtain rfl : i = k := by omega
                rw [TyOk, if_pos hkn, EA.out, EB.out]; exact rdE_ok.1 HE.out.symm
          case measure => simp [intOf]; omega
        · have hno : ¬ TysOk l n := fun hall => by
            have := hall k hlt
            rw [TyOk, if_pos hkn, EA.out, EB.out, ← rdE_ok, ← HE.out] at this
            rw [this] at hne; simp at hne
          obtain ⟨rfl, rfl⟩ := HBAD.out hno
          have hfe : e = 50 := by
            have h1 := HE.out
            unfold rdE at h1
            split at h1
            · rw [h1] at hne; simp at hne
            · exact h1
          subst hfe
          clear hno hne
          go_wp2
          refine wp_region_calm (by kernel_rfl) (by kernel_rfl) ?_
          have c_m0 := fun x : Fut _ => cell_later x.h m0
          have c_m1 := fun x : Fut _ => cell_later x.h m1
          repeat (go_big_quiet_step (fail))
          refine wpQuiet_nil ?_
          intro _ hw'
          obtain ⟨xq, hw''⟩ := hw'
          subst hw''
          clear c_m0; replace m0 := cell_later xq.h m0
          clear c_m1; replace m1 := cell_later xq.h m1
          replace B := B.trans (xq.h.mono B.size)
          clear hw1 hw2 hw3
          go_wp2_with fail
          refine (HRT.out _).mono ?_
          rintro e w3 ⟨y, rfl, oy, bb⟩
          replace B := B.trans (bb.mono B.size); clear bb oy m0 m1
          go_wp2
          go_ret2
          exact ⟨_, rfl, OwnT.nil _ _, B⟩
      · have hmin : min k n = n := by omega
        have hmin2 : min (k + 1) n = n := by omega
        have HM := Lib.hid (And.intro hmin hmin2); clear hmin hmin2
        have hcase : ((a.toNat : Int) != 0) = true ∨ ((a.toNat : Int) != 0) = false ∧ (((b.toNat : Int) != 0) = true ∨ ((b.toNat : Int) != 0) = false) := by
          cases ((a.toNat : Int) != 0) <;> cases ((b.toNat : Int) != 0) <;> simp
        have hz : ∀ x : UInt64, ((x.toNat : Int) != 0) = false → x = 0 := fun x h => by
          rw [bne_eq_false_iff_eq] at h
          exact UInt64.toNat_inj.1 (by simpa using (by omega : x.toNat = 0))
        have hz' : ∀ x : UInt64, ((x.toNat : Int) != 0) = true → x ≠ 0 := fun x h h2 => by
          rw [h2] at h; simp at h
        have HZ := Lib.hid hz; have HZ' := Lib.hid hz'; clear hz hz'
        rcases hcase with h1 | ⟨h1, h2 | h2⟩
        · have hno : ¬ TysOk l n := fun hall => by
            have := hall k hlt
            rw [TyOk, if_neg hkn, EA.out, EB.out] at this
            exact HZ'.out a h1 this.1
          obtain ⟨rfl, rfl⟩ := HBAD.out hno
          clear hno
          go_wp2
          refine wp_region_calm (by kernel_rfl) (by kernel_rfl) ?_
          have c_m0 := fun x : Fut _ => cell_later x.h m0
          have c_m1 := fun x : Fut _ => cell_later x.h m1
          repeat (go_big_quiet_step (fail))
          refine wpQuiet_nil ?_
          intro _ hw'
          obtain ⟨xq, hw''⟩ := hw'
          subst hw''
          clear c_m0; replace m0 := cell_later xq.h m0
          clear c_m1; replace m1 := cell_later xq.h m1
          replace B := B.trans (xq.h.mono B.size)
          clear hw1 hw2 hw3
          go_wp2
          go_ret2
          exact ⟨_, rfl, OwnT.nil _ _, B⟩
        · have hno : ¬ TysOk l n := fun hall => by
            have := hall k hlt
            rw [TyOk, if_neg hkn, EA.out, EB.out] at this
            exact HZ'.out b h2 this.2
          obtain ⟨rfl, rfl⟩ := HBAD.out hno
          clear hno
          go_wp2
          refine wp_region_calm (by kernel_rfl) (by kernel_rfl) ?_
          have c_m0 := fun x : Fut _ => cell_later x.h m0
          have c_m1 := fun x : Fut _ => cell_later x.h m1
          repeat (go_big_quiet_step (fail))
          refine wpQuiet_nil ?_
          intro _ hw'
          obtain ⟨xq, hw''⟩ := hw'
          subst hw''
          clear c_m0; replace m0 := cell_later xq.h m0
          clear c_m1; replace m1 := cell_later xq.h m1
          replace B := B.trans (xq.h.mono B.size)
          clear hw1 hw2 hw3
          go_wp2
          go_ret2
          exact ⟨_, rfl, OwnT.nil _ _, B⟩
        · have e1 := HZ.out a h1; have e2 := HZ.out b h2
          have HE12 := Lib.hid (And.intro e1 e2)
          clear e1 e2
          go_wp2
          refine wp_region_calm (by kernel_rfl) (by kernel_rfl) ?_
          have c_m0 := fun x : Fut _ => cell_later x.h m0
          have c_m1 := fun x : Fut _ => cell_later x.h m1
          repeat (go_big_quiet_step (fail))
          refine wpQuiet_nil ?_
          intro _ hw'
          obtain ⟨xq, hw''⟩ := hw'
          subst hw''
          clear c_m0; replace m0 := cell_later xq.h m0
          clear c_m1; replace m1 := cell_later xq.h m1
          replace B := B.trans (xq.h.mono B.size)
          clear hw1 hw2 hw3
          go_wp2
          have HBB := Lib.hid B; have HX := Lib.hid (hh.out.1.below xq.h)
          go_roundw
          case rel =>
            refine ⟨k + 1, by omega, by go_num, Lib.hid ⟨?_, ?_⟩, HBB.out⟩
            · have := HX.out
              rw [HM.out.1] at this
              rw [HM.out.2]; exact this
            · intro i hi
              by_cases hik : i < k
              · exact hh.out.2 i hik
              · obtain rfl : i = k := by omega
                rw [TyOk, if_neg hkn, EA.out, EB.out]; exact HE12.out
          case measure => simp [intOf]; omega
    · obtain rfl : k = 8 := by omega
      obtain ⟨rfl, rfl⟩ := HGOOD.out (fun i hi => hh.out.2 i hi)
      have HX := Lib.hid hh.out.1
      go_wp2
      go_ret2
      exact ⟨_, rfl, by have := HX.out; rwa [show min 8 n = n by omega] at this, B⟩
end Go.Proofs.YtbfmdbeeiicabaaGreat
namespace Go.Proofs.YtbfmdbeeiicabaaGreat
open Go.RowKit L02 L05 L13
set_option maxHeartbeats 1000000 in
theorem KTable_any (v : Value) (l : List UInt64) (n : Int) (L : List (List UInt8)) (r : Int) (hL : L = tabT l n) (hr : r = tabErr l n) (w : World) (h : Words w v l) :
    Calls Tryz.prog 38 #[v, .int .i64 n] w fun e w' => ∃ x, e = .returned (.tuple #[x, .int .i64 r]) ∧ OwnT w' w.heap.size x L ∧ Below w.heap.size w w' := by
  by_cases hs : SizeOk l.length
  · by_cases hn : 0 ≤ n ∧ n ≤ 8
    · obtain ⟨k, rfl⟩ := Int.eq_ofNat_of_zero_le hn.1
      exact KTable_ok v l k (by omega) hs L r hL hr w h
    · have e : tabErr l n = 2 := by rw [tabErr, if_pos hs, if_neg hn]
      have hL0 : L = [] := by rw [hL, tabT, if_neg (by rw [e]; omega)]
      rw [e] at hr
      subst hL0 hr
      have B : Below w.heap.size w w := Below.refl _ _
      have CT := fun w h => Check_any v l w h
      rw [chk_ok hs] at CT
      have HC := Lib.hid CT; have H := Lib.hid h
      have hcase : n < 0 ∨ 0 ≤ n ∧ 8 < n := by omega
      clear CT h hs hL e hn
      rcases hcase with h1 | ⟨h1, h2⟩
      all_goals
        go_enter Tryz.func38, Tryz.ntmps38
        go_wp2_with fail
        refine (HC.out _ H.out).mono ?_
        rintro e w2 ⟨rfl, rfl⟩
        go_wp2
        go_ret2
        exact ⟨_, rfl, OwnT.nil _ _, B⟩
  · have e : tabErr l n = 8 := by rw [tabErr, if_neg hs]
    have hL0 : L = [] := by rw [hL, tabT, if_neg (by rw [e]; omega)]
    rw [e] at hr
    subst hL0 hr
    have B : Below w.heap.size w w := Below.refl _ _
    have CT := fun w h => Check_any v l w h
    rw [chk_no hs] at CT
    have HC := Lib.hid CT; have H := Lib.hid h
    clear CT h hs hL e
    go_enter Tryz.func38, Tryz.ntmps38
    go_wp2_with fail
    refine (HC.out _ H.out).mono ?_
    rintro e w2 ⟨rfl, rfl⟩
    go_wp2
    go_ret2
    exact ⟨_, rfl, OwnT.nil _ _, B⟩
set_option maxHeartbeats 4000000 in
theorem TypesR_any (v : Value) (l : List UInt64) (n : Nat) (hn : n ≤ 8) (hlen : 112 ≤ l.length) (L : List (List UInt8)) (r : Bool) (hL : L = tys l n) (hr : r = decide (TysOk l n)) (w : World) (h : Words w v l) :
    Calls Tryz.prog 89 #[v, .int .i64 (n : Int)] w fun e w' => ∃ x, e = .returned (.tuple #[x, .bool r]) ∧ OwnT w' w.heap.size x L ∧ Below w.heap.size w w' := by
  have B : Below w.heap.size w w := Below.refl _ _
  have hbad : ¬ TysOk l n → L = [] ∧ r = false := fun hno => ⟨by rw [hL, tys, if_neg hno], by rw [hr, decide_eq_false hno]⟩
  have hgood : TysOk l n → L = tysTo l n ∧ r = true := fun hyes => ⟨by rw [hL, tys, if_pos hyes], by rw [hr, decide_eq_true hyes]⟩
  have H := Lib.hid h; have HBAD := Lib.hid hbad; have HGOOD := Lib.hid hgood
  clear h hL hr hbad hgood
  go_enter Tryz.func89, Tryz.ntmps89
  go_wp2
  have HB := Lib.hid B; clear B
  go_loopw [6, 7] (fun xv i wr => ∃ k : Nat, k ≤ 8 ∧ i = .int .i64 k ∧ Hid (OwnT wr w.heap.size xv (tysTo l (min k n)) ∧ ∀ i, i < k → TyOk l n i) ∧ Below w.heap.size w wr) (fun _ i _ => 8 - (intOf i).toNat)
  case atStart => exact ⟨0, by omega, rfl, Lib.hid ⟨by rw [Nat.zero_min]; exact OwnT.nil _ _, fun i hi => by omega⟩, HB.out⟩
  case round =>
    obtain ⟨k, hk, rfl, hh, B⟩ := hrel
    by_cases hlt : k < 8
    · obtain ⟨ad, a, ia, m0, ha⟩ := (H.out.below B).atI Tryz.underlying22 one_u64 (k := 96 + 2 * (k : Int)) (by omega) (by omega)
      obtain ⟨bd, b, ib, m1, hb⟩ := (H.out.below B).atI Tryz.underlying22 one_u64 (k := 96 + 2 * (k : Int) + 1) (by omega) (by omega)
      have ea : ta l k = a := ta_of (by have := ha.out; rwa [show (96 + 2 * (k : Int)).toNat = 96 + 2 * k by omega] at this)
      have eb : tb l k = b := tb_of (by have := hb.out; rwa [show (96 + 2 * (k : Int) + 1).toNat = 97 + 2 * k by omega] at this)
      have hw1 : IntKind.i64.wrap (2 * (k : Int)) = 2 * (k : Int) := IntWalk.i64_in _ (by omega)
      have hw2 : IntKind.i64.wrap (96 + 2 * (k : Int)) = 96 + 2 * (k : Int) := IntWalk.i64_in _ (by omega)
      have hw3 : IntKind.i64.wrap (96 + 2 * (k : Int) + 1) = 96 + 2 * (k : Int) + 1 := IntWalk.i64_in _ (by omega)
      have EA := Lib.hid ea; have EB := Lib.hid eb
      clear ha hb ea eb
      obtain ⟨f, hf⟩ : ∃ f, f = rdL a b := ⟨_, rfl⟩
      obtain ⟨e, he⟩ : ∃ e, e = rdE a b := ⟨_, rfl⟩
      have RT := fun w => KReadR_any a b f e hf he w
      have HRT := Lib.hid RT; have HF := Lib.hid hf; have HE := Lib.hid he
      clear RT hf he
      by_cases hkn : k < n
      · have hmin : min k n = k := by omega
        have hcase : e = 0 ∨ (e != 0) = true := by by_cases h : e = 0; exact .inl h; exact .inr (by rw [bne_iff_ne]; exact h)
        rcases hcase with rfl | hne
        · go_wp2
          refine wp_region_calm (by kernel_rfl) (by kernel_rfl) ?_
          have c_m0 := fun x : Fut _ => cell_later x.h m0
          have c_m1 := fun x : Fut _ => cell_later x.h m1
          repeat (go_big_quiet_step (fail))
          refine wpQuiet_nil ?_
          intro _ hw'
          obtain ⟨xq, hw''⟩ := hw'
          subst hw''
          clear c_m0; replace m0 := cell_later xq.h m0
          clear c_m1; replace m1 := cell_later xq.h m1
          replace B := B.trans (xq.h.mono B.size)
          clear hw1 hw2 hw3
          have HHB : Hid (OwnT xq.W w.heap.size _ (tysTo l k)) := Lib.hid (by have := hh.out.1.below xq.h; rwa [hmin] at this)
          go_wp2_with fail
          have hzz := B.size
          refine (HRT.out _).mono ?_
          rintro e w3 ⟨y, rfl, oy, bb⟩
          obtain ⟨yA, yc, rfl, _⟩ := OwnB.rd oy
          obtain ⟨vs, z1, z2, z4⟩ := HHB.out.below bb
          replace B := B.trans (bb.mono B.size)
          have HY := Lib.hid (own_mono oy (B' := w.heap.size) hzz); have HBB := Lib.hid B; have Z1 := Lib.hid z1; have Z2 := Lib.hid z2; have Z4 := Lib.hid z4
          clear bb oy B z1 z2 z4 m0 m1 hmin
          have hlk := tysTo_len l k
          have HLK := Lib.hid hlk; clear hlk
          have hba : ∀ o, Below w3.heap.size w3 (w3.alloc o) := fun o => (Below.refl _ _).alloc (Nat.le_refl _) o
          have HBA := Lib.hid hba; clear hba
          go_wp2_with (at_builtin; refine wpList_append (by rfl) rfl rfl rfl Tryz.underlying89 info_bytes rfl (by omega) (by exact own_below Z2.out (HBA.out _)) (by exact lit_rd) (by intro u hu; simp at hu; subst hu; exact (OwnB.rd HY.out).oneCell) (by rw [HLK.out]; omega) (by rw [HLK.out]; omega) (by exact HBB.out.alloc HBB.out.size _) (Nat.le_refl _) ?_; intro v1 w4 o4 B4 g4; have T4 := Lib.hid (OwnT.snoc Z1.out (own_below Z2.out (HBA.out _)) o4 (fun i x l h5 h6 => (Z4.out i x l h5 h6).below (HBA.out _)) (OwnB.below HY.out (HBA.out _)) g4); have HB4 := Lib.hid B4; clear o4 B4 g4)
          go_roundw
          case rel =>
            refine ⟨k + 1, by omega, by go_num, Lib.hid ⟨?_, ?_⟩, HB4.out⟩
            · rw [show min (k + 1) n = k + 1 by omega, tysTo_succ, EA.out, EB.out, ← HF.out]; exact T4.out
            · intro i hi
              by_cases hik : i < k
              · exact hh.out.2 i hik
              · obtain rfl : i = k := by omega
                rw [TyOk, if_pos hkn, EA.out, EB.out]; exact rdE_ok.1 HE.out.symm
          case measure => simp [intOf]; omega
        · have hno : ¬ TysOk l n := fun hall => by
            have := hall k hlt
            rw [TyOk, if_pos hkn, EA.out, EB.out, ← rdE_ok, ← HE.out] at this
            rw [this] at hne; simp at hne
          obtain ⟨rfl, rfl⟩ := HBAD.out hno
          clear hno hmin
          go_wp2
          refine wp_region_calm (by kernel_rfl) (by kernel_rfl) ?_
          have c_m0 := fun x : Fut _ => cell_later x.h m0
          have c_m1 := fun x : Fut _ => cell_later x.h m1
          repeat (go_big_quiet_step (fail))
          refine wpQuiet_nil ?_
          intro _ hw'
          obtain ⟨xq, hw''⟩ := hw'
          subst hw''
          clear c_m0; replace m0 := cell_later xq.h m0
          clear c_m1; replace m1 := cell_later xq.h m1
          replace B := B.trans (xq.h.mono B.size)
          clear hw1 hw2 hw3
          go_wp2_with fail
          refine (HRT.out _).mono ?_
          rintro e w3 ⟨y, rfl, oy, bb⟩
          replace B := B.trans (bb.mono B.size); clear bb oy m0 m1
          go_wp2
          go_ret2
          exact ⟨_, rfl, OwnT.nil _ _, B⟩
      · have hmin : min k n = n := by omega
        have hmin2 : min (k + 1) n = n := by omega
        have HM := Lib.hid (And.intro hmin hmin2); clear hmin hmin2
        have hcase : 0 < a.toNat ∨ a = 0 ∧ (0 < b.toNat ∨ b = 0) := by
          by_cases h1 : a.toNat = 0
          · refine .inr ⟨UInt64.toNat_inj.1 h1, ?_⟩
            by_cases h2 : b.toNat = 0
            · exact .inr (UInt64.toNat_inj.1 h2)
            · exact .inl (by omega)
          · exact .inl (by omega)
        rcases hcase with h1 | ⟨rfl, h2 | rfl⟩
        · have hno : ¬ TysOk l n := fun hall => by
            have := hall k hlt
            rw [TyOk, if_neg hkn, EA.out, EB.out] at this
            rw [this.1] at h1; simp at h1
          obtain ⟨rfl, rfl⟩ := HBAD.out hno
          clear hno
          go_wp2
          refine wp_region_calm (by kernel_rfl) (by kernel_rfl) ?_
          have c_m0 := fun x : Fut _ => cell_later x.h m0
          have c_m1 := fun x : Fut _ => cell_later x.h m1
          repeat (go_big_quiet_step (fail))
          refine wpQuiet_nil ?_
          intro _ hw'
          obtain ⟨xq, hw''⟩ := hw'
          subst hw''
          clear c_m0; replace m0 := cell_later xq.h m0
          clear c_m1; replace m1 := cell_later xq.h m1
          replace B := B.trans (xq.h.mono B.size)
          clear hw1 hw2 hw3
          go_wp2_with fail
          refine (HRT.out _).mono ?_
          rintro e w3 ⟨y, rfl, oy, bb⟩
          replace B := B.trans (bb.mono B.size); clear bb oy m0 m1
          go_wp2
          go_ret2
          exact ⟨_, rfl, OwnT.nil _ _, B⟩
        · have hno : ¬ TysOk l n := fun hall => by
            have := hall k hlt
            rw [TyOk, if_neg hkn, EA.out, EB.out] at this
            rw [this.2] at h2; simp at h2
          obtain ⟨rfl, rfl⟩ := HBAD.out hno
          clear hno
          go_wp2
          refine wp_region_calm (by kernel_rfl) (by kernel_rfl) ?_
          have c_m0 := fun x : Fut _ => cell_later x.h m0
          have c_m1 := fun x : Fut _ => cell_later x.h m1
          repeat (go_big_quiet_step (fail))
          refine wpQuiet_nil ?_
          intro _ hw'
          obtain ⟨xq, hw''⟩ := hw'
          subst hw''
          clear c_m0; replace m0 := cell_later xq.h m0
          clear c_m1; replace m1 := cell_later xq.h m1
          replace B := B.trans (xq.h.mono B.size)
          clear hw1 hw2 hw3
          go_wp2_with fail
          refine (HRT.out _).mono ?_
          rintro e w3 ⟨y, rfl, oy, bb⟩
          replace B := B.trans (bb.mono B.size); clear bb oy m0 m1
          go_wp2
          go_ret2
          exact ⟨_, rfl, OwnT.nil _ _, B⟩
        · go_wp2
          refine wp_region_calm (by kernel_rfl) (by kernel_rfl) ?_
          have c_m0 := fun x : Fut _ => cell_later x.h m0
          have c_m1 := fun x : Fut _ => cell_later x.h m1
          repeat (go_big_quiet_step (fail))
          refine wpQuiet_nil ?_
          intro _ hw'
          obtain ⟨xq, hw''⟩ := hw'
          subst hw''
          clear c_m0; replace m0 := cell_later xq.h m0
          clear c_m1; replace m1 := cell_later xq.h m1
          replace B := B.trans (xq.h.mono B.size)
          clear hw1 hw2 hw3
          have HX := Lib.hid (hh.out.1.below xq.h)
          go_wp2_with fail
          refine (HRT.out _).mono ?_
          rintro e w3 ⟨y, rfl, oy, bb⟩
          replace B := B.trans (bb.mono B.size)
          have HX2 := Lib.hid (HX.out.below bb); have HBB := Lib.hid B
          clear bb oy m0 m1 B
          go_wp2
          go_roundw
          case rel =>
            refine ⟨k + 1, by omega, by go_num, Lib.hid ⟨?_, ?_⟩, HBB.out⟩
            · have := HX2.out
              rw [HM.out.1] at this
              rw [HM.out.2]; exact this
            · intro i hi
              by_cases hik : i < k
              · exact hh.out.2 i hik
              · obtain rfl : i = k := by omega
                rw [TyOk, if_neg hkn, EA.out, EB.out]; exact ⟨rfl, rfl⟩
          case measure => simp [intOf]; omega
    · obtain rfl : k = 8 := by omega
      obtain ⟨rfl, rfl⟩ := HGOOD.out (fun i hi => hh.out.2 i hi)
      have HX := Lib.hid hh.out.1
      go_wp2
      go_ret2
      exact ⟨_, rfl, by have := HX.out; rwa [show min 8 n = n by omega] at this, B⟩
end Go.Proofs.YtbfmdbeeiicabaaGreat
namespace Go.Proofs.YtbfmdbeeiicabaaGreat.L18
open L02
structure Sl where
  gen : Int
  used : Bool
  at_ : Int
deriving DecidableEq
def Sl.none : Sl := ⟨0, false, 0⟩
def Right (s : Sl) : Prop := 0 ≤ s.gen ∧ s.gen ≤ 2147483647 ∧ (s.used = false → s.at_ = 0) ∧ (s.used = true → 0 < s.gen ∧ 128 ≤ s.at_ ∧ s.at_ < 2048)
instance (s : Sl) : Decidable (Right s) := inferInstanceAs (Decidable (0 ≤ s.gen ∧ s.gen ≤ 2147483647 ∧ (s.used = false → s.at_ = 0) ∧ (s.used = true → 0 < s.gen ∧ 128 ≤ s.at_ ∧ s.at_ < 2048)))
def pkN (s : Sl) : Nat := s.at_.toNat + s.gen.toNat * 4294967296 + (if s.used then 9223372036854775808 else 0)
def pk (s : Sl) : UInt64 := UInt64.ofNat (pkN s)
def spl (w : UInt64) : Sl := ⟨(w.toNat / 4294967296 % 2147483648 : Nat), decide (w.toNat / 9223372036854775808 = 1), (w.toNat % 4294967296 : Nat)⟩
def wordErr (s : Sl) : Int := if Right s then 0 else 8
def word (s : Sl) : UInt64 := if Right s then pk s else 0
def splErr (w : UInt64) : Int := if Right (spl w) then 0 else 50
def spl0 (w : UInt64) : Sl := if Right (spl w) then spl w else .none
/-- the words of slots, in an image -/
def ws (l : List UInt64) : List UInt64 := (l.drop 112).take 16
def slots (l : List UInt64) : List Sl := (ws l).map spl
def AllR (l : List UInt64) : Prop := ∀ x ∈ ws l, Right (spl x)
instance (l : List UInt64) : Decidable (AllR l) := inferInstanceAs (Decidable (∀ x ∈ ws l, Right (spl x)))
def openErr (l : List UInt64) : Int := if SizeOk l.length then (if AllR l then 0 else 50) else 8
def all (l : List UInt64) : List Sl := if openErr l = 0 then slots l else []
def rightErr (L : List Sl) (s g : Int) : Int := if 0 ≤ s ∧ s < L.length then (if (L.getD s.toNat .none).used = true ∧ (L.getD s.toNat .none).gen = g then 0 else 28) else 2
def resErr (l : List UInt64) (s g : Int) : Int := if openErr l = 0 then rightErr (slots l) s g else openErr l
def res (l : List UInt64) (s g : Int) : Int := if resErr l s g = 0 then ((slots l).getD s.toNat .none).at_ else 0
/-- the first free slot from k on -/
def nextFrom : List Sl → Nat → Option Nat
  | [], _ => none
  | s :: L, k => if s.used = false ∧ s.gen ≠ 2147483647 then some k else nextFrom L (k + 1)
def next (L : List Sl) : Option Nat := nextFrom L 0
def newErr (l : List UInt64) (a : Int) : Int := if openErr l = 0 then (if 128 ≤ a ∧ a < 2048 then (if next (slots l) = none then 23 else 0) else 2) else openErr l
def newSlot (l : List UInt64) (a : Int) : Int := if newErr l a = 0 then ((next (slots l)).getD 0 : Nat) else 0
def newGen (l : List UInt64) (a : Int) : Int := if newErr l a = 0 then ((slots l).getD ((next (slots l)).getD 0) .none).gen + 1 else 0
def newAt (l : List UInt64) (a : Int) : Int := if newErr l a = 0 then 112 + ((next (slots l)).getD 0 : Nat) else 0
def newVal (l : List UInt64) (a : Int) : UInt64 := if newErr l a = 0 then pk ⟨newGen l a, true, a⟩ else 0
theorem pkN_t {s : Sl} (hu : s.used = true) : pkN s = s.at_.toNat + s.gen.toNat * 4294967296 + 9223372036854775808 := by rw [pkN, hu]; rfl
theorem pkN_f {s : Sl} (h : Right s) (hu : s.used = false) : pkN s = s.gen.toNat * 4294967296 := by
  have := h.2.2.1 hu
  rw [pkN, hu, this]; simp
theorem pkN_lt {s : Sl} (h : Right s) : pkN s < 18446744073709551616 := by
  have h1 := h.1; have h2 := h.2.1
  cases hu : s.used
  · rw [pkN_f h hu]; omega
  · have h4 := h.2.2.2 hu
    rw [pkN_t hu]; omega
theorem pk_nat {s : Sl} (h : Right s) : (pk s).toNat = pkN s := by
  unfold pk
  rw [UInt64.toNat_ofNat']
  exact Nat.mod_eq_of_lt (pkN_lt h)
end Go.Proofs.YtbfmdbeeiicabaaGreat.L18
namespace Go.Proofs.YtbfmdbeeiicabaaGreat
open Go.RowKit L01 L02 L18
def slV (s : Sl) : Value := .agg #[.int .i64 s.gen, .bool s.used, .int .i64 s.at_]
set_option maxHeartbeats 600000 in
theorem right_any (s : Sl) (b : Bool) (hb : b = decide (Right s)) (w : World) : Calls Tryz.prog 118 #[.agg #[.int .i64 s.gen, .bool s.used, .int .i64 s.at_]] w fun e w' => e = .returned (.bool b) ∧ Below w.heap.size w w' := by
  have HB := Lib.hid hb; clear hb
  obtain ⟨g, u, a⟩ := s
  dsimp only at *
  cases u
  all_goals
    go_enter Tryz.func118, Tryz.ntmps118
    go_wp2
    all_goals
      go_ret
      refine ⟨ret_bool ?_, (Below.refl _ _).alloc (Nat.le_refl _) _⟩
      rw [HB.out]
      exact bool_dec (by simp [Right]; try omega)
set_option maxHeartbeats 600000 in
theorem Check18R_any (s : Sl) (r : Int) (hr : r = wordErr s) (w : World) : Calls Tryz.prog 132 #[.agg #[.int .i64 s.gen, .bool s.used, .int .i64 s.at_]] w fun e w' => e = .returned (.int .i64 r) ∧ Below w.heap.size w w' := by
  have HB := Lib.hid hr; clear hr
  obtain ⟨g, u, a⟩ := s
  dsimp only at *
  cases u
  all_goals
    go_enter Tryz.func132, Tryz.ntmps132
    go_wp2
    all_goals
      go_ret
      refine ⟨ret_int ?_, (Below.refl _ _).alloc (Nat.le_refl _) _⟩
      rw [HB.out]
      try simp only [Bool.not_eq_true', Bool.not_eq_false', decide_eq_true_eq, decide_eq_false_iff_not, beq_eq_false_iff_ne, beq_iff_eq, ne_eq] at *
      first
      | exact (if_pos (by simp [Right]; try omega)).symm
      | exact (if_neg (by simp [Right]; try omega)).symm
set_option maxHeartbeats 600000 in
theorem pack_any (s : Sl) (x : UInt64) (hx : x = pk s) (hs : Right s) (w : World) : Calls Tryz.prog 66 #[.agg #[.int .i64 s.gen, .bool s.used, .int .i64 s.at_]] w fun e w' => e = .returned (.int .u64 x.toNat) ∧ Below w.heap.size w w' := by
  have hn := pk_nat hs
  rw [← hx] at hn
  obtain ⟨h1, h2, h3, h4⟩ := hs
  clear hx
  obtain ⟨g, u, a⟩ := s
  dsimp only at *
  cases u
  · have h5 := h3 rfl
    subst h5
    have e1 := or_int (a := 0) (b := g * 4294967296) 32 g.toNat (by omega) (by decide) (by omega) (by omega) (by omega)
    rw [pkN_f ⟨h1, h2, h3, h4⟩ rfl] at hn
    have HN := Lib.hid hn; clear hn h3 h4
    go_enter Tryz.func66, Tryz.ntmps66
    go_wp2
    go_ret
    exact ⟨ret_int (by have := HN.out; omega), (Below.refl _ _).alloc (Nat.le_refl _) _⟩
  · obtain ⟨h5, h6, h7⟩ := h4 rfl
    have e1 := or_int (a := a) (b := g * 4294967296) 32 g.toNat (by omega) (by simp; omega) (by omega) (by omega) (by omega)
    have e2 := or_int (a := a + g * 4294967296) (b := 9223372036854775808) 63 1 (by omega) (by simp; omega) (by decide) (by omega) (by omega)
    rw [pkN_t rfl] at hn
    have HN := Lib.hid hn; clear hn h3 h4
    go_enter Tryz.func66, Tryz.ntmps66
    go_wp2
    go_ret
    exact ⟨ret_int (by have := HN.out; omega), (Below.refl _ _).alloc (Nat.le_refl _) _⟩
theorem OfR_any (s : Sl) (x : UInt64) (hx : x = pk s) (hs : Right s) (w : World) : Calls Tryz.prog 68 #[.agg #[.int .i64 s.gen, .bool s.used, .int .i64 s.at_]] w fun e w' => e = .returned (.int .u64 x.toNat) ∧ Below w.heap.size w w' := by
  have hn := pk_nat hs
  rw [← hx] at hn
  obtain ⟨h1, h2, h3, h4⟩ := hs
  clear hx
  obtain ⟨g, u, a⟩ := s
  have h1 : 0 ≤ g := h1
  have h2 : g ≤ 2147483647 := h2
  obtain ⟨G, rfl⟩ := Int.eq_ofNat_of_zero_le h1
  dsimp only at *
  have B : Below w.heap.size w w := Below.refl _ _
  cases u
  · have h5 := h3 rfl
    subst h5
    rw [pkN_f ⟨h1, h2, h3, h4⟩ rfl] at hn
    have w1 := With_any 0 0 32 0 0 (by decide)
    have w2 := With_any 0 32 31 G (G * 4294967296) (by unfold wth; omega)
    have HW1 := Lib.hid w1; have HW2 := Lib.hid w2; clear w1 w2
    have HN := Lib.hid hn; clear hn h3 h4
    go_enter Tryz.func68, Tryz.ntmps68
    go_wp2_with fail
    refine calls_gen (fun Wv => Bx Wv (w.heap.size) (83) (#[.int .i64 G, .bool false, .int .i64 0]) ∧ Below w.heap.size w Wv) ⟨((Bx.at_ (by simp))), ((Below.refl _ w).alloc (by simp <;> omega) _)⟩ ?_
    rintro w' ⟨g1, b⟩
    replace B := B.trans (b.mono B.size); clear b
    have c_g1 := g1.cell; have f_g1 := g1.free; have a_g1 := fun o => (g1.alloc o).cell; have d_g1 := fun o o2 => ((g1.alloc o).alloc o2).cell; have e_g1 := fun o => (g1.alloc o).free
    refine (HW1.out _ (by omega) (by omega) (by omega) (by omega)).mono ?_
    rintro e w' ⟨rfl, rfl⟩
    go_wp2_with fail
    refine (HW2.out _ (by omega) (by omega) (by omega) (by omega)).mono ?_
    rintro e w' ⟨rfl, rfl⟩
    go_wp2
    go_ret
    exact ⟨ret_int (by have := HN.out; simp at this; omega), B⟩
  · obtain ⟨h5, h6, h7⟩ := h4 rfl
    obtain ⟨A, rfl⟩ := Int.eq_ofNat_of_zero_le (show 0 ≤ a by omega)
    rw [pkN_t rfl] at hn
    have w1 := With_any 0 0 32 A A (by unfold wth; omega)
    have w2 := With_any A 32 31 G (A + G * 4294967296) (by unfold wth; omega)
    have w3 := With_any (A + G * 4294967296) 63 1 1 (A + G * 4294967296 + 9223372036854775808) (by unfold wth; omega)
    have HW1 := Lib.hid w1; have HW2 := Lib.hid w2; have HW3 := Lib.hid w3; clear w1 w2 w3
    have HN := Lib.hid hn; clear hn h3 h4
    go_enter Tryz.func68, Tryz.ntmps68
    go_wp2_with fail
    refine calls_gen (fun Wv => Bx Wv (w.heap.size) (83) (#[.int .i64 G, .bool true, .int .i64 A]) ∧ Below w.heap.size w Wv) ⟨((Bx.at_ (by simp))), ((Below.refl _ w).alloc (by simp <;> omega) _)⟩ ?_
    rintro w' ⟨g1, b⟩
    replace B := B.trans (b.mono B.size); clear b
    have c_g1 := g1.cell; have f_g1 := g1.free; have a_g1 := fun o => (g1.alloc o).cell; have d_g1 := fun o o2 => ((g1.alloc o).alloc o2).cell; have e_g1 := fun o => (g1.alloc o).free
    refine (HW1.out _ (by omega) (by omega) (by omega) (by omega)).mono ?_
    rintro e w' ⟨rfl, rfl⟩
    go_wp2_with fail
    refine (HW2.out _ (by omega) (by omega) (by omega) (by omega)).mono ?_
    rintro e w' ⟨rfl, rfl⟩
    go_wp2_with fail
    refine (HW3.out _ (by omega) (by omega) (by omega) (by omega)).mono ?_
    rintro e w' ⟨rfl, rfl⟩
    go_wp2
    go_ret
    exact ⟨ret_int (by have := HN.out; simp at this; omega), B⟩
end Go.Proofs.YtbfmdbeeiicabaaGreat
namespace Go.Proofs.YtbfmdbeeiicabaaGreat
open Go.RowKit L01 L02 L18
theorem spl_int (x : UInt64) (s : Sl) (h : s = spl x) : (x.toNat : Int) / 4294967296 % 2147483648 = s.gen ∧ ((x.toNat : Int) / 9223372036854775808 == 1) = s.used ∧ (x.toNat : Int) % 4294967296 = s.at_ := by
  subst h
  refine ⟨?_, ?_, ?_⟩
  · show _ = ((x.toNat / 4294967296 % 2147483648 : Nat) : Int); omega
  · show _ = decide (x.toNat / 9223372036854775808 = 1)
    rw [Bool.eq_iff_iff, beq_iff_eq, decide_eq_true_iff]; omega
  · show _ = ((x.toNat % 4294967296 : Nat) : Int); omega
set_option maxHeartbeats 1000000 in
theorem Split_any (x : UInt64) (w : World) : Calls Tryz.prog 94 #[.int .u64 x.toNat] w fun e w' => e = .returned (.tuple #[slV (spl0 x), .int .i64 (splErr x)]) ∧ Below w.heap.size w w' := by
  have B : Below w.heap.size w w := Below.refl _ _
  have hxl := toNat_lt x
  obtain ⟨s, hs⟩ : ∃ s, s = spl x := ⟨_, rfl⟩
  obtain ⟨i1, i2, i3⟩ := spl_int x s hs
  have e1 := and_int (a := (x.toNat : Int) / 4294967296) 31 (by omega) (by omega) 2147483647 (by decide) (by omega)
  have e2 := and_int (a := (x.toNat : Int)) 32 (by omega) (by omega) 4294967295 (by decide) (by omega)
  rw [show ((2 ^ 31 : Nat) : Int) = 2147483648 from rfl, i1] at e1
  rw [show ((2 ^ 32 : Nat) : Int) = 4294967296 from rfl, i3] at e2
  have b1 : 0 ≤ s.gen ∧ s.gen ≤ 2147483647 := by omega
  have b3 : 0 ≤ s.at_ ∧ s.at_ ≤ 4294967295 := by omega
  clear i1 i3
  by_cases hr : Right s
  · have k0 : spl0 x = s := by rw [spl0, ← hs, if_pos hr]
    have k1 : splErr x = 0 := by rw [splErr, ← hs, if_pos hr]
    have RT := fun w => right_any s true (decide_eq_true hr).symm w
    rw [k0, k1]
    have RT := Lib.hid RT; clear hs hr k0 k1
    obtain ⟨g, u, a⟩ := s
    dsimp only at *
    obtain ⟨b1, b2⟩ := b1
    obtain ⟨b3, b4⟩ := b3
    unfold slV
    go_enter Tryz.func94, Tryz.ntmps94
    go_wp2_with fail
    refine calls_gen (fun Wv => Bx Wv (w.heap.size) (83) (#[.int .i64 0, .bool false, .int .i64 0]) ∧ Bx Wv (w.heap.size + 1) (83) (#[.int .i64 g, .bool u, .int .i64 a]) ∧ Below w.heap.size w Wv) ⟨(((Bx.at_ (by simp)).alloc _)), ((Bx.at_ (by simp))), (((Below.refl _ w).alloc (by simp <;> omega) _).alloc (by simp <;> omega) _)⟩ ?_
    rintro w' ⟨g0, g1, b⟩
    replace B := B.trans (b.mono B.size); clear b
    have c_g0 := g0.cell; have f_g0 := g0.free; have a_g0 := fun o => (g0.alloc o).cell; have d_g0 := fun o o2 => ((g0.alloc o).alloc o2).cell; have e_g0 := fun o => (g0.alloc o).free
    have c_g1 := g1.cell; have f_g1 := g1.free; have a_g1 := fun o => (g1.alloc o).cell; have d_g1 := fun o o2 => ((g1.alloc o).alloc o2).cell; have e_g1 := fun o => (g1.alloc o).free
    go_wp2_with fail
    refine (RT.out _).mono ?_
    rintro e w' ⟨rfl, b⟩
    try clear c_g0 f_g0 a_g0 d_g0 e_g0
    replace g0 := g0.below b; have c_g0 := g0.cell; have f_g0 := g0.free; have a_g0 := fun o => (g0.alloc o).cell; have d_g0 := fun o o2 => ((g0.alloc o).alloc o2).cell; have e_g0 := fun o => (g0.alloc o).free; try clear c_g1 f_g1 a_g1 d_g1 e_g1
    replace g1 := g1.below b; have c_g1 := g1.cell; have f_g1 := g1.free; have a_g1 := fun o => (g1.alloc o).cell; have d_g1 := fun o o2 => ((g1.alloc o).alloc o2).cell; have e_g1 := fun o => (g1.alloc o).free; replace B := B.trans (b.mono B.size); clear b
    go_wp2
    refine bodyPost_ret (v := .tuple #[.agg #[.int .i64 g, .bool u, .int .i64 a], .int .i64 0]) (by simp [results, Tryz.results94, go_sem, c_g0, f_g0, a_g0, e_g0, c_g1, f_g1, a_g1, e_g1]) rfl ?_
    refine ⟨rfl, ?_⟩
    (repeat (first | refine Below.setCell ?_ (by first | exact Nat.le_refl _ | (simp <;> omega)) _ | refine Below.alloc ?_ (by first | exact B.size | (have := B.size; simp <;> omega)) _)); exact B
  · have k0 : spl0 x = .none := by rw [spl0, ← hs, if_neg hr]
    have k1 : splErr x = 50 := by rw [splErr, ← hs, if_neg hr]
    have RT := fun w => right_any s false (decide_eq_false hr).symm w
    rw [k0, k1]
    have RT := Lib.hid RT; clear hs hr k0 k1
    obtain ⟨g, u, a⟩ := s
    dsimp only at *
    obtain ⟨b1, b2⟩ := b1
    obtain ⟨b3, b4⟩ := b3
    unfold slV Sl.none
    dsimp only
    go_enter Tryz.func94, Tryz.ntmps94
    go_wp2_with fail
    refine calls_gen (fun Wv => Bx Wv (w.heap.size) (83) (#[.int .i64 0, .bool false, .int .i64 0]) ∧ Bx Wv (w.heap.size + 1) (83) (#[.int .i64 g, .bool u, .int .i64 a]) ∧ Below w.heap.size w Wv) ⟨(((Bx.at_ (by simp)).alloc _)), ((Bx.at_ (by simp))), (((Below.refl _ w).alloc (by simp <;> omega) _).alloc (by simp <;> omega) _)⟩ ?_
    rintro w' ⟨g0, g1, b⟩
    replace B := B.trans (b.mono B.size); clear b
    have c_g0 := g0.cell; have f_g0 := g0.free; have a_g0 := fun o => (g0.alloc o).cell; have d_g0 := fun o o2 => ((g0.alloc o).alloc o2).cell; have e_g0 := fun o => (g0.alloc o).free
    have c_g1 := g1.cell; have f_g1 := g1.free; have a_g1 := fun o => (g1.alloc o).cell; have d_g1 := fun o o2 => ((g1.alloc o).alloc o2).cell; have e_g1 := fun o => (g1.alloc o).free
    go_wp2_with fail
    refine (RT.out _).mono ?_
    rintro e w' ⟨rfl, b⟩
    try clear c_g0 f_g0 a_g0 d_g0 e_g0
    replace g0 := g0.below b; have c_g0 := g0.cell; have f_g0 := g0.free; have a_g0 := fun o => (g0.alloc o).cell; have d_g0 := fun o o2 => ((g0.alloc o).alloc o2).cell; have e_g0 := fun o => (g0.alloc o).free; try clear c_g1 f_g1 a_g1 d_g1 e_g1
    replace g1 := g1.below b; have c_g1 := g1.cell; have f_g1 := g1.free; have a_g1 := fun o => (g1.alloc o).cell; have d_g1 := fun o o2 => ((g1.alloc o).alloc o2).cell; have e_g1 := fun o => (g1.alloc o).free; replace B := B.trans (b.mono B.size); clear b
    go_wp2
    refine bodyPost_ret (v := .tuple #[.agg #[.int .i64 0, .bool false, .int .i64 0], .int .i64 50]) (by simp [results, Tryz.results94, go_sem, c_g0, f_g0, a_g0, e_g0, c_g1, f_g1, a_g1, e_g1]) rfl ?_
    refine ⟨rfl, ?_⟩
    (repeat (first | refine Below.setCell ?_ (by first | exact Nat.le_refl _ | (simp <;> omega)) _ | refine Below.alloc ?_ (by first | exact B.size | (have := B.size; simp <;> omega)) _)); exact B
theorem val_gen (x : UInt64) (s : Sl) (h : s = spl x) : ∃ G A : Nat, s.gen = G ∧ s.at_ = A ∧ G = val x.toNat 32 31 ∧ A = val x.toNat 0 32 ∧ (s.used = true ↔ 1 = val x.toNat 63 1) ∧ G ≤ 2147483647 ∧ A ≤ 4294967295 ∧ (val x.toNat 63 1 < 2) := by
  have hl := toNat_lt x
  subst h
  refine ⟨x.toNat / 4294967296 % 2147483648, x.toNat % 4294967296, rfl, rfl, rfl, ?_, ?_, by omega, by omega, ?_⟩
  · unfold val; simp
  · show decide (x.toNat / 9223372036854775808 = 1) = true ↔ _
    unfold val
    rw [decide_eq_true_iff]; simp only [show (2 : Nat) ^ 63 = 9223372036854775808 from rfl, show (2 : Nat) ^ 1 = 2 from rfl]; omega
  · unfold val; simp only [show (2 : Nat) ^ 1 = 2 from rfl]; omega
set_option maxHeartbeats 1000000 in
theorem SplitR_any (x : UInt64) (w : World) : Calls Tryz.prog 113 #[.int .u64 x.toNat] w fun e w' => e = .returned (.tuple #[slV (spl0 x), .int .i64 (splErr x)]) ∧ Below w.heap.size w w' := by
  have B : Below w.heap.size w w := Below.refl _ _
  have hxl := toNat_lt x
  obtain ⟨s, hs⟩ : ∃ s, s = spl x := ⟨_, rfl⟩
  obtain ⟨G, A, q1, q2, q3, q4, q5, q6, q7, q8⟩ := val_gen x s hs
  obtain ⟨U, hU⟩ : ∃ U, U = val x.toNat 63 1 := ⟨_, rfl⟩
  rw [← hU] at q5 q8
  have V1 := Value_any x.toNat 32 31 G q3
  have V2 := Value_any x.toNat 63 1 U hU
  have V3 := Value_any x.toNat 0 32 A q4
  have V1 := Lib.hid V1; have V2 := Lib.hid V2; have V3 := Lib.hid V3; clear q3 q4 hU
  obtain ⟨r, hrr⟩ : ∃ r, r = wordErr s := ⟨_, rfl⟩
  have CT := fun w => Check18R_any s r hrr w
  have CT := Lib.hid CT
  obtain ⟨g, u, a⟩ := s
  dsimp only at q1 q2 q5 CT
  subst q1 q2
  have hu : ((U : Int) == 1) = u := by
    rw [Bool.eq_iff_iff, q5, beq_iff_eq]; omega
  by_cases hr : Right ⟨G, u, A⟩
  · have k0 : spl0 x = ⟨G, u, A⟩ := by rw [spl0, ← hs, if_pos hr]
    have k1 : splErr x = 0 := by rw [splErr, ← hs, if_pos hr]
    have k2 : r = 0 := by rw [hrr]; exact if_pos hr
    rw [k0, k1]
    clear hs hr k0 k1 hrr q5
    subst k2
    unfold slV
    dsimp only
    go_enter Tryz.func113, Tryz.ntmps113
    go_wp2_with fail
    refine (V1.out _ (by omega) (by omega) (by omega)).mono ?_
    rintro e w' ⟨rfl, rfl⟩
    go_wp2_with fail
    refine (V2.out _ (by omega) (by omega) (by omega)).mono ?_
    rintro e w' ⟨rfl, rfl⟩
    go_wp2_with fail
    refine (V3.out _ (by omega) (by omega) (by omega)).mono ?_
    rintro e w' ⟨rfl, rfl⟩
    go_wp2_with fail
    refine calls_gen (fun Wv => Bx Wv (w.heap.size) (83) (#[.int .i64 0, .bool false, .int .i64 0]) ∧ Bx Wv (w.heap.size + 1) (83) (#[.int .i64 G, .bool u, .int .i64 A]) ∧ Below w.heap.size w Wv) ⟨(((Bx.at_ (by simp)).alloc _)), ((Bx.at_ (by simp))), (((Below.refl _ w).alloc (by simp <;> omega) _).alloc (by simp <;> omega) _)⟩ ?_
    rintro w' ⟨g0, g1, b⟩
    replace B := B.trans (b.mono B.size); clear b
    have c_g0 := g0.cell; have f_g0 := g0.free; have a_g0 := fun o => (g0.alloc o).cell; have d_g0 := fun o o2 => ((g0.alloc o).alloc o2).cell; have e_g0 := fun o => (g0.alloc o).free
    have c_g1 := g1.cell; have f_g1 := g1.free; have a_g1 := fun o => (g1.alloc o).cell; have d_g1 := fun o o2 => ((g1.alloc o).alloc o2).cell; have e_g1 := fun o => (g1.alloc o).free
    go_wp2_with fail
    refine (CT.out _).mono ?_
    rintro e w' ⟨rfl, b⟩
    try clear c_g0 f_g0 a_g0 d_g0 e_g0
    replace g0 := g0.below b; have c_g0 := g0.cell; have f_g0 := g0.free; have a_g0 := fun o => (g0.alloc o).cell; have d_g0 := fun o o2 => ((g0.alloc o).alloc o2).cell; have e_g0 := fun o => (g0.alloc o).free; try clear c_g1 f_g1 a_g1 d_g1 e_g1
    replace g1 := g1.below b; have c_g1 := g1.cell; have f_g1 := g1.free; have a_g1 := fun o => (g1.alloc o).cell; have d_g1 := fun o o2 => ((g1.alloc o).alloc o2).cell; have e_g1 := fun o => (g1.alloc o).free; replace B := B.trans (b.mono B.size); clear b
    go_wp2
    refine bodyPost_ret (v := .tuple #[.agg #[.int .i64 G, .bool u, .int .i64 A], .int .i64 0]) (by simp [results, Tryz.results113, go_sem, c_g0, f_g0, a_g0, e_g0, c_g1, f_g1, a_g1, e_g1]) rfl ?_
    refine ⟨rfl, ?_⟩
    (repeat (first | refine Below.setCell ?_ (by first | exact Nat.le_refl _ | (simp <;> omega)) _ | refine Below.alloc ?_ (by first | exact B.size | (have := B.size; simp <;> omega)) _)); exact B
  · have k0 : spl0 x = .none := by rw [spl0, ← hs, if_neg hr]
    have k1 : splErr x = 50 := by rw [splErr, ← hs, if_neg hr]
    have k2 : r = 8 := by rw [hrr]; exact if_neg hr
    rw [k0, k1]
    clear hs hr k0 k1 hrr q5
    subst k2
    unfold slV Sl.none
    dsimp only
    go_enter Tryz.func113, Tryz.ntmps113
    go_wp2_with fail
    refine (V1.out _ (by omega) (by omega) (by omega)).mono ?_
    rintro e w' ⟨rfl, rfl⟩
    go_wp2_with fail
    refine (V2.out _ (by omega) (by omega) (by omega)).mono ?_
    rintro e w' ⟨rfl, rfl⟩
    go_wp2_with fail
    refine (V3.out _ (by omega) (by omega) (by omega)).mono ?_
    rintro e w' ⟨rfl, rfl⟩
    go_wp2_with fail
    refine calls_gen (fun Wv => Bx Wv (w.heap.size) (83) (#[.int .i64 0, .bool false, .int .i64 0]) ∧ Bx Wv (w.heap.size + 1) (83) (#[.int .i64 G, .bool u, .int .i64 A]) ∧ Below w.heap.size w Wv) ⟨(((Bx.at_ (by simp)).alloc _)), ((Bx.at_ (by simp))), (((Below.refl _ w).alloc (by simp <;> omega) _).alloc (by simp <;> omega) _)⟩ ?_
    rintro w' ⟨g0, g1, b⟩
    replace B := B.trans (b.mono B.size); clear b
    have c_g0 := g0.cell; have f_g0 := g0.free; have a_g0 := fun o => (g0.alloc o).cell; have d_g0 := fun o o2 => ((g0.alloc o).alloc o2).cell; have e_g0 := fun o => (g0.alloc o).free
    have c_g1 := g1.cell; have f_g1 := g1.free; have a_g1 := fun o => (g1.alloc o).cell; have d_g1 := fun o o2 => ((g1.alloc o).alloc o2).cell; have e_g1 := fun o => (g1.alloc o).free
    go_wp2_with fail
    refine (CT.out _).mono ?_
    rintro e w' ⟨rfl, b⟩
    try clear c_g0 f_g0 a_g0 d_g0 e_g0
    replace g0 := g0.below b; have c_g0 := g0.cell; have f_g0 := g0.free; have a_g0 := fun o => (g0.alloc o).cell; have d_g0 := fun o o2 => ((g0.alloc o).alloc o2).cell; have e_g0 := fun o => (g0.alloc o).free; try clear c_g1 f_g1 a_g1 d_g1 e_g1
    replace g1 := g1.below b; have c_g1 := g1.cell; have f_g1 := g1.free; have a_g1 := fun o => (g1.alloc o).cell; have d_g1 := fun o o2 => ((g1.alloc o).alloc o2).cell; have e_g1 := fun o => (g1.alloc o).free; replace B := B.trans (b.mono B.size); clear b
    go_wp2
    refine bodyPost_ret (v := .tuple #[.agg #[.int .i64 0, .bool false, .int .i64 0], .int .i64 50]) (by simp [results, Tryz.results113, go_sem, c_g0, f_g0, a_g0, e_g0, c_g1, f_g1, a_g1, e_g1]) rfl ?_
    refine ⟨rfl, ?_⟩
    (repeat (first | refine Below.setCell ?_ (by first | exact Nat.le_refl _ | (simp <;> omega)) _ | refine Below.alloc ?_ (by first | exact B.size | (have := B.size; simp <;> omega)) _)); exact B
theorem Split_r (x : UInt64) (s : Sl) (r : Int) (hx : s = spl0 x) (hr : r = splErr x) (w : World) : Calls Tryz.prog 94 #[.int .u64 x.toNat] w fun e w' => e = .returned (.tuple #[.agg #[.int .i64 s.gen, .bool s.used, .int .i64 s.at_], .int .i64 r]) ∧ Below w.heap.size w w' := by
  subst hx hr; exact Split_any x w
theorem SplitR_r (x : UInt64) (s : Sl) (r : Int) (hx : s = spl0 x) (hr : r = splErr x) (w : World) : Calls Tryz.prog 113 #[.int .u64 x.toNat] w fun e w' => e = .returned (.tuple #[.agg #[.int .i64 s.gen, .bool s.used, .int .i64 s.at_], .int .i64 r]) ∧ Below w.heap.size w w' := by
  subst hx hr; exact SplitR_any x w
end Go.Proofs.YtbfmdbeeiicabaaGreat
namespace Go.Proofs.YtbfmdbeeiicabaaGreat
open Go.RowKit L01 L02 L18
def slC (s : Sl) : List Value := [.int .i64 s.gen, .bool s.used, .int .i64 s.at_]
def tabL (L : List Sl) : List Value := L.flatMap slC
def tab (L : List Sl) : Array Value := (tabL L).toArray
def tabOf (l : List UInt64) : List Sl := if openErr l = 0 then slots l else List.replicate 16 .none
theorem tabL_len (L : List Sl) : (tabL L).length = L.length * 3 := by
  induction L with
  | nil => rfl
  | cons s L ih => rw [tabL, List.flatMap_cons, List.length_append, ← tabL, ih]; simp [slC]; omega
theorem tabL_get : ∀ (L : List Sl) (k : Nat) (s : Sl), L[k]? = some s → ∀ i, i < 3 → (tabL L)[k * 3 + i]? = (slC s)[i]?
  | [], _, _, h, _, _ => by cases h
  | t :: L, 0, s, h, i, hi => by
    simp at h; subst h
    rw [tabL, List.flatMap_cons, Nat.zero_mul, Nat.zero_add, List.getElem?_append_left (by simpa [slC] using hi)]
  | t :: L, k + 1, s, h, i, hi => by
    rw [tabL, List.flatMap_cons, List.getElem?_append_right (by simp [slC]; omega)]
    rw [show (k + 1) * 3 + i - (slC t).length = k * 3 + i by simp [slC]; omega]
    exact tabL_get L k s (by simpa using h) i hi
theorem tabL_one (L : List Sl) : ∀ u ∈ tabL L, u.oneCell' = true := by
  intro u hu
  obtain ⟨s, _, hs⟩ := List.mem_flatMap.1 hu
  simp [slC] at hs
  rcases hs with rfl | rfl | rfl <;> rfl
theorem tab_size (L : List Sl) : (tab L).size = L.length * 3 := by simp [tab, tabL_len]
theorem ws_len {l : List UInt64} (h : SizeOk l.length) : (ws l).length = 16 := by
  have := h.1; simp [ws]; omega
theorem ws_get {l : List UInt64} {k : Nat} {x : UInt64} (hk : k < 16) (h : l[112 + k]? = some x) : (ws l)[k]? = some x := by
  rw [ws, List.getElem?_take, if_pos hk, List.getElem?_drop]; exact h
theorem slots_len {l : List UInt64} (h : SizeOk l.length) : (slots l).length = 16 := by rw [slots, List.length_map, ws_len h]
theorem tabOf_len (l : List UInt64) : (tabOf l).length = 16 := by
  unfold tabOf
  split
  · rename_i h
    unfold openErr at h
    split at h
    · exact slots_len ‹_›
    · omega
  · simp
theorem tabOf_size (l : List UInt64) : (tab (tabOf l)).size = 48 := by rw [tab_size, tabOf_len]
theorem size_table : (Tryz.prog.info? 127).map (·.size) = some 48 := by kernel_rfl
theorem size_slot : (Tryz.prog.info? 83).map (·.size) = some 3 := by kernel_rfl
theorem z48_one : (#[.int .i64 0, .bool false, .int .i64 0, .int .i64 0, .bool false, .int .i64 0, .int .i64 0, .bool false, .int .i64 0, .int .i64 0, .bool false, .int .i64 0, .int .i64 0, .bool false, .int .i64 0, .int .i64 0, .bool false, .int .i64 0, .int .i64 0, .bool false, .int .i64 0, .int .i64 0, .bool false, .int .i64 0, .int .i64 0, .bool false, .int .i64 0, .int .i64 0, .bool false, .int .i64 0, .int .i64 0, .bool false, .int .i64 0, .int .i64 0, .bool false, .int .i64 0, .int .i64 0, .bool false, .int .i64 0, .int .i64 0, .bool false, .int .i64 0, .int .i64 0, .bool false, .int .i64 0, .int .i64 0, .bool false, .int .i64 0] : Array Value).all (·.oneCell') = true := by simp [Value.oneCell']
theorem slot_one (s : Sl) : (#[.int .i64 s.gen, .bool s.used, .int .i64 s.at_] : Array Value).all (·.oneCell') = true := by simp [Value.oneCell']
/-- the cells cs have the first k slots of S -/
def TabTo (S : List Sl) (k : Nat) (cs : Array Value) : Prop := cs.size = 48 ∧ ∀ j, j < k * 3 → cs[j]? = (tabL S)[j]?
theorem TabTo.zero (S : List Sl) {cs : Array Value} (h : cs.size = 48) : TabTo S 0 cs := ⟨h, fun j hj => by omega⟩
theorem TabTo.succ {S : List Sl} {k : Nat} {cs : Array Value} {s : Sl} (h : TabTo S k cs) (hs : S[k]? = some s) (hk : k < 16) : TabTo S (k + 1) (putL cs (k * 3) (slC s)) := by
  refine ⟨by rw [putL_size]; exact h.1, fun j hj => ?_⟩
  rw [putL_get _ _ _ _ (by rw [h.1]; simp [slC]; omega)]
  by_cases h1 : k * 3 ≤ j
  · rw [if_pos ⟨h1, by simp [slC]; omega⟩]
    have := tabL_get S k s hs (j - k * 3) (by omega)
    rw [show k * 3 + (j - k * 3) = j by omega] at this
    exact this.symm
  · rw [if_neg (by omega)]
    exact h.2 j (by omega)
theorem TabTo.done {S : List Sl} {cs : Array Value} (h : TabTo S 16 cs) (hS : S.length = 16) : cs = tab S := by
  apply Array.ext_getElem?
  intro j
  by_cases hj : j < 48
  · rw [h.2 j hj]; simp [tab]
  · rw [Array.getElem?_eq_none (by rw [h.1]; omega), Array.getElem?_eq_none (by rw [tab_size, hS]; omega)]
theorem openErr_of {l : List UInt64} (h : SizeOk l.length) (h2 : ∀ x ∈ (ws l).take 16, Right (spl x)) : openErr l = 0 := by
  rw [openErr, if_pos h, if_pos]
  intro x hx
  exact h2 x (by rw [List.take_of_length_le (by rw [ws_len h]; omega)]; exact hx)
theorem openErr_no {l : List UInt64} (h : SizeOk l.length) {k : Nat} {x : UInt64} (hx : (ws l)[k]? = some x) (hn : ¬ Right (spl x)) : openErr l = 50 := by
  rw [openErr, if_pos h, if_neg]
  intro hall
  exact hn (hall x (List.mem_of_getElem? hx))
theorem right_take {l : List UInt64} {k : Nat} {x : UInt64} (h : ∀ y ∈ (ws l).take k, Right (spl y)) (hx : (ws l)[k]? = some x) (hr : Right (spl x)) : ∀ y ∈ (ws l).take (k + 1), Right (spl y) := by
  intro y hy
  rw [List.take_add_one, hx] at hy
  rcases List.mem_append.1 hy with hy | hy
  · exact h y hy
  · simp at hy; subst hy; exact hr
theorem tabNo (l : List UInt64) (h : openErr l ≠ 0) : tab (tabOf l) = #[.int .i64 0, .bool false, .int .i64 0, .int .i64 0, .bool false, .int .i64 0, .int .i64 0, .bool false, .int .i64 0, .int .i64 0, .bool false, .int .i64 0, .int .i64 0, .bool false, .int .i64 0, .int .i64 0, .bool false, .int .i64 0, .int .i64 0, .bool false, .int .i64 0, .int .i64 0, .bool false, .int .i64 0, .int .i64 0, .bool false, .int .i64 0, .int .i64 0, .bool false, .int .i64 0, .int .i64 0, .bool false, .int .i64 0, .int .i64 0, .bool false, .int .i64 0, .int .i64 0, .bool false, .int .i64 0, .int .i64 0, .bool false, .int .i64 0, .int .i64 0, .bool false, .int .i64 0, .int .i64 0, .bool false, .int .i64 0] := by rw [tabOf, if_neg h]; rfl
set_option maxRecDepth 100000 in
set_option maxHeartbeats 2000000 in
theorem open_any (v : Value) (l : List UInt64) (V : Array Value) (hV : V = tab (tabOf l)) (r : Int) (hr : r = openErr l) (w : World) (h : Words w v l) :
    Calls Tryz.prog 64 #[v] w fun e w' => e = .returned (.tuple #[.agg V, .int .i64 r]) ∧ Below w.heap.size w w' := by
  have B : Below w.heap.size w w := Below.refl _ _
  have HV := Lib.hid hV; have HR := Lib.hid hr; clear hV hr
  have CT := fun w h => Check_any v l w h
  by_cases hs : SizeOk l.length
  · rw [chk_ok hs] at CT
    have HC := Lib.hid CT; have H := Lib.hid h; have HS := Lib.hid hs
    have hlen := hs.1
    clear h hs CT
    go_enter Tryz.func64, Tryz.ntmps64
    go_wp2_with fail
    refine calls_gen (fun Wv => Bx Wv (w.heap.size) (127) (#[.int .i64 0, .bool false, .int .i64 0, .int .i64 0, .bool false, .int .i64 0, .int .i64 0, .bool false, .int .i64 0, .int .i64 0, .bool false, .int .i64 0, .int .i64 0, .bool false, .int .i64 0, .int .i64 0, .bool false, .int .i64 0, .int .i64 0, .bool false, .int .i64 0, .int .i64 0, .bool false, .int .i64 0, .int .i64 0, .bool false, .int .i64 0, .int .i64 0, .bool false, .int .i64 0, .int .i64 0, .bool false, .int .i64 0, .int .i64 0, .bool false, .int .i64 0, .int .i64 0, .bool false, .int .i64 0, .int .i64 0, .bool false, .int .i64 0, .int .i64 0, .bool false, .int .i64 0, .int .i64 0, .bool false, .int .i64 0]) ∧ Below w.heap.size w Wv) ⟨((Bx.at_ (by simp))), ((Below.refl _ w).alloc (by simp <;> omega) _)⟩ ?_
    rintro w' ⟨q0, b⟩
    replace B := B.trans (b.mono B.size); clear b
    have hz1 : w.heap.size < w'.heap.size := q0.lt
    obtain ⟨w1, hw1⟩ : ∃ w1, w1 = w' := ⟨_, rfl⟩
    subst hw1
    refine (HC.out _ (H.out.below B)).mono ?_
    rintro e w2 ⟨rfl, rfl⟩
    go_wp2
    refine wp_gen (fun Wv => Bx Wv (w1.heap.size) (127) (#[.int .i64 0, .bool false, .int .i64 0, .int .i64 0, .bool false, .int .i64 0, .int .i64 0, .bool false, .int .i64 0, .int .i64 0, .bool false, .int .i64 0, .int .i64 0, .bool false, .int .i64 0, .int .i64 0, .bool false, .int .i64 0, .int .i64 0, .bool false, .int .i64 0, .int .i64 0, .bool false, .int .i64 0, .int .i64 0, .bool false, .int .i64 0, .int .i64 0, .bool false, .int .i64 0, .int .i64 0, .bool false, .int .i64 0, .int .i64 0, .bool false, .int .i64 0, .int .i64 0, .bool false, .int .i64 0, .int .i64 0, .bool false, .int .i64 0, .int .i64 0, .bool false, .int .i64 0, .int .i64 0, .bool false, .int .i64 0]) ∧ Below w1.heap.size w1 Wv) ⟨((Bx.at_ (by simp))), ((Below.refl _ w1).alloc (by simp <;> omega) _)⟩ ?_
    rintro w' ⟨q1, b⟩
    replace q0 := q0.below b; replace B := B.trans (b.mono B.size); clear b
    have hq : w1.heap.size ≠ w.heap.size := by have := hz1; omega
    obtain ⟨S, hS⟩ : ∃ S, S = slots l := ⟨_, rfl⟩
    have HSS := Lib.hid hS; clear hS
    have HB := Lib.hid B; have HG := Lib.hid (And.intro q0 q1); clear B q0 q1
    go_loopw [15] (fun i wr => ∃ k : Nat, k ≤ 16 ∧ i = .int .i64 k ∧ Hid (Bx wr w.heap.size 127 #[.int .i64 0, .bool false, .int .i64 0, .int .i64 0, .bool false, .int .i64 0, .int .i64 0, .bool false, .int .i64 0, .int .i64 0, .bool false, .int .i64 0, .int .i64 0, .bool false, .int .i64 0, .int .i64 0, .bool false, .int .i64 0, .int .i64 0, .bool false, .int .i64 0, .int .i64 0, .bool false, .int .i64 0, .int .i64 0, .bool false, .int .i64 0, .int .i64 0, .bool false, .int .i64 0, .int .i64 0, .bool false, .int .i64 0, .int .i64 0, .bool false, .int .i64 0, .int .i64 0, .bool false, .int .i64 0, .int .i64 0, .bool false, .int .i64 0, .int .i64 0, .bool false, .int .i64 0, .int .i64 0, .bool false, .int .i64 0] ∧ (∃ cs, Bx wr w1.heap.size 127 cs ∧ TabTo S k cs) ∧ ∀ x ∈ (ws l).take k, Right (spl x)) ∧ Below w.heap.size w wr) (fun i _ => 16 - (intOf i).toNat)
    case atStart => exact ⟨0, by omega, rfl, Lib.hid ⟨HG.out.1, ⟨_, HG.out.2, TabTo.zero _ rfl⟩, by simp⟩, HB.out⟩
    case round =>
      obtain ⟨k, hk, rfl, hh, B⟩ := hrel
      by_cases hlt : k < 16
      · obtain ⟨ad, x, ia, ca, hx⟩ := (H.out.below B).atI Tryz.underlying22 one_u64 (k := 112 + (k : Int)) (by omega) (by omega)
        have hx' : (ws l)[k]? = some x := ws_get hlt (by have := hx.out; rwa [show (112 + (k : Int)).toNat = 112 + k by omega] at this)
        have HX := Lib.hid hx'; clear hx hx'
        by_cases hr : Right (spl x)
        · have SP := Split_r x (spl x) 0 (by rw [spl0, if_pos hr]) (by rw [splErr, if_pos hr])
          obtain ⟨s, hs⟩ : ∃ s, s = spl x := ⟨_, rfl⟩
          rw [← hs] at SP
          have HSP := Lib.hid SP; have HRR := Lib.hid hr; have HSX := Lib.hid hs; clear SP hr hs
          go_wp2_with fail
          refine (HSP.out _).mono ?_
          rintro e w2 ⟨rfl, b⟩
          obtain ⟨gg0, ⟨cs, gg1, ht⟩, hright⟩ := hh.out
          have b0 := gg0.below b; have b1 := gg1.below b; replace B := B.trans (b.mono B.size)
          clear b gg0 gg1
          have HT := Lib.hid ht; have HRT := Lib.hid hright; have hcs : k * 3 + 3 ≤ cs.size := by rw [ht.1]; omega
          clear ht hright
          go_wp2_with ((with_reducible refine at_store 83 33 32 ?_); refine wpList_storePart rfl _ _ _ rfl _ _ _ rfl rfl (b1.alloc _) size_slot (by simpa using hcs) (slot_one _) ?_; intro W c1 S1)
          have hgS : S[k]? = some s := by rw [HSS.out, slots, List.getElem?_map, HX.out, HSX.out]; rfl
          have HGS := Lib.hid hgS; have HC1 := Lib.hid c1; have HS1 := Lib.hid S1; have HB0 := Lib.hid b0; have HB := Lib.hid B
          clear hgS c1 S1 b0 B b1 hcs hh
          go_roundw
          case rel =>
            refine ⟨k + 1, by omega, by go_num, Lib.hid ⟨HS1.out.2 (by omega) (HB0.out.alloc _), ⟨_, HC1.out, ?_⟩, right_take HRT.out HX.out HRR.out⟩, HS1.out.1 (HB.out.alloc HB.out.size _) (by omega)⟩
            have := HT.out.succ HGS.out hlt
            exact this
          case measure => simp [intOf]; omega
        · have SP := Split_r x .none 50 (by rw [spl0, if_neg hr]) (by rw [splErr, if_neg hr])
          have he := openErr_no HS.out HX.out hr
          have hz := tabNo l (by rw [he]; omega)
          have HSP := Lib.hid SP; have HE := Lib.hid he; have HZ := Lib.hid hz; clear SP hr he hz
          go_wp2_with fail
          refine (HSP.out _).mono ?_
          rintro e w2 ⟨rfl, b⟩
          obtain ⟨gg0, ⟨cs, gg1, ht⟩, hright⟩ := hh.out
          have b0 := gg0.below b; replace B := B.trans (b.mono B.size)
          clear b gg0 gg1 ht hright hh
          go_wp2_with ((with_reducible refine at_store 127 2 29 ?_); refine wpList_storeRow rfl _ _ _ rfl _ _ rfl rfl (b0.alloc _) size_table rfl z48_one ?_; intro W g0 S0)
          refine bodyPost_ret (results_row rfl _ rfl g0 _ Tryz.underlying127 rfl size_table) rfl ⟨?_, S0.1 (B.alloc B.size _) (Nat.le_refl _)⟩
          rw [HV.out, HZ.out, HR.out, HE.out]; rfl
      · obtain rfl : k = 16 := by omega
        obtain ⟨gg0, ⟨cs, gg1, ht⟩, hright⟩ := hh.out
        have he := openErr_of HS.out hright
        have hcs := ht.done (by rw [HSS.out]; exact slots_len HS.out)
        have hV : V = cs := by rw [HV.out, tabOf, if_pos he, ← HSS.out, hcs]
        subst hV
        have hsz : V.size = 48 := ht.1
        have h1 : V.all (·.oneCell') = true := by rw [hcs]; exact all_oneCell_toArray (tabL_one S)
        have HCS := Lib.hid hcs; have HE := Lib.hid he; clear hcs he hright ht hh
        have HSZ := Lib.hid hsz; have H1 := Lib.hid h1; clear hsz h1
        go_wp2_with (first
          | ((with_reducible refine at_load 35 127 5 ?_); refine wpList_loadRow rfl _ _ rfl _ rfl gg1 _ Tryz.underlying127 rfl (by rw [HSZ.out]; exact size_table) ?_)
          | ((with_reducible refine at_store 127 2 35 ?_); refine wpList_storeRow rfl _ _ _ rfl _ _ rfl rfl gg0 (by rw [HSZ.out]; exact size_table) (by rw [HSZ.out]; rfl) H1.out ?_; intro W g0 S0))
        refine bodyPost_ret (results_row rfl _ rfl g0 _ Tryz.underlying127 rfl (by rw [HSZ.out]; exact size_table)) rfl ⟨?_, S0.1 B (Nat.le_refl _)⟩
        rw [HR.out, HE.out]; rfl
  · have hr8 : openErr l = 8 := by rw [openErr, if_neg hs]
    have hz := tabNo l (by rw [hr8]; omega)
    rw [chk_no hs] at CT
    have HZ := Lib.hid hz; have HR8 := Lib.hid hr8
    have HC := Lib.hid CT; have H := Lib.hid h; clear h hs hz hr8 CT
    go_enter Tryz.func64, Tryz.ntmps64
    go_wp2_with fail
    refine calls_gen (fun Wv => Bx Wv (w.heap.size) (127) (#[.int .i64 0, .bool false, .int .i64 0, .int .i64 0, .bool false, .int .i64 0, .int .i64 0, .bool false, .int .i64 0, .int .i64 0, .bool false, .int .i64 0, .int .i64 0, .bool false, .int .i64 0, .int .i64 0, .bool false, .int .i64 0, .int .i64 0, .bool false, .int .i64 0, .int .i64 0, .bool false, .int .i64 0, .int .i64 0, .bool false, .int .i64 0, .int .i64 0, .bool false, .int .i64 0, .int .i64 0, .bool false, .int .i64 0, .int .i64 0, .bool false, .int .i64 0, .int .i64 0, .bool false, .int .i64 0, .int .i64 0, .bool false, .int .i64 0, .int .i64 0, .bool false, .int .i64 0, .int .i64 0, .bool false, .int .i64 0]) ∧ Below w.heap.size w Wv) ⟨((Bx.at_ (by simp))), ((Below.refl _ w).alloc (by simp <;> omega) _)⟩ ?_
    rintro w' ⟨q0, b⟩
    replace B := B.trans (b.mono B.size); clear b
    refine (HC.out _ (H.out.below B)).mono ?_
    rintro e w1 ⟨rfl, rfl⟩
    go_wp2_with ((with_reducible refine at_store 127 2 13 ?_); refine wpList_storeRow rfl _ _ _ rfl _ _ rfl rfl q0 size_table rfl z48_one ?_; intro W g0 S0)
    refine bodyPost_ret (results_row rfl _ rfl g0 _ Tryz.underlying127 rfl size_table) rfl ⟨?_, S0.1 B (Nat.le_refl _)⟩
    rw [HV.out, HZ.out, HR.out, HR8.out]; rfl
end Go.Proofs.YtbfmdbeeiicabaaGreat
namespace Go.Proofs.YtbfmdbeeiicabaaGreat
open Go.RowKit L01 L02 L18
theorem tab_one (L : List Sl) : (tab L).all (·.oneCell') = true := all_oneCell_toArray (tabL_one L)
theorem tab_get3 {L : List Sl} {k : Nat} {s : Sl} (h : L[k]? = some s) : (tab L)[k * 3]? = some (.int .i64 s.gen) ∧ (tab L)[k * 3 + 1]? = some (.bool s.used) ∧ (tab L)[k * 3 + 2]? = some (.int .i64 s.at_) := by
  have h0 := tabL_get L k s h 0 (by omega)
  have h1 := tabL_get L k s h 1 (by omega)
  have h2 := tabL_get L k s h 2 (by omega)
  simp only [tab, List.getElem?_toArray]
  exact ⟨h0, h1, h2⟩
def findS (L : List Sl) (sl g : Int) : Sl := if rightErr L sl g = 0 then L.getD sl.toNat .none else .none
set_option maxRecDepth 100000 in
set_option maxHeartbeats 1000000 in
theorem find_any (L : List Sl) (hL : L.length = 16) (V : Array Value) (hV : V = tab L) (sl g : Int) (s : Sl) (r : Int) (hs : s = findS L sl g) (hr : r = rightErr L sl g) (w : World) :
    Calls Tryz.prog 65 #[.agg V, .agg #[.int .i64 sl, .int .i64 g]] w fun e w' => e = .returned (.tuple #[.agg #[.int .i64 s.gen, .bool s.used, .int .i64 s.at_], .int .i64 r]) ∧ Below w.heap.size w w' := by
  have B : Below w.heap.size w w := Below.refl _ _
  have HV := Lib.hid hV
  by_cases hin : 0 ≤ sl ∧ sl < 16
  · obtain ⟨h0, h1⟩ := hin
    obtain ⟨k, rfl⟩ := Int.eq_ofNat_of_zero_le h0
    have hk : k < 16 := by omega
    have hx : L[k]? = some (L[k]'(by omega)) := List.getElem?_eq_getElem (by omega)
    obtain ⟨x, hxx⟩ : ∃ x, x = L[k]'(by omega) := ⟨_, rfl⟩
    rw [← hxx] at hx; clear hxx
    obtain ⟨t0, t1, t2⟩ := tab_get3 hx
    rw [← hV] at t0 t1 t2
    have hgd : L.getD (k : Int).toNat .none = x := by simp [List.getD_eq_getElem?_getD, hx]
    by_cases hu : x.used = true ∧ x.gen = g
    · have hr0 : r = 0 := by rw [hr, rightErr, if_pos (by omega), hgd, if_pos hu]
      have hs0 : s = x := by rw [hs, findS, ← hr, if_pos hr0, hgd]
      clear hr hs hgd hx hV hL
      obtain ⟨hu1, hu2⟩ := hu
      subst hu2 hr0 hs0
      obtain ⟨gn, us, a⟩ := s
      dsimp only at hu1 t0 t1 t2 ⊢
      subst hu1
      go_enter Tryz.func65, Tryz.ntmps65
      go_upto_region 1 with (fail)
      refine wp_gen (fun Wv => Bx Wv (w.heap.size) (127) (V) ∧ Bx Wv (w.heap.size + 1) (24) (#[.int .i64 k, .int .i64 gn]) ∧ Bx Wv (w.heap.size + 1 + 1) (83) (#[.int .i64 0, .bool false, .int .i64 0]) ∧ Below w.heap.size w Wv) ⟨((((Bx.at_ (by simp)).alloc _).alloc _)), (((Bx.at_ (by simp)).alloc _)), ((Bx.at_ (by simp))), ((((Below.refl _ w).alloc (by simp <;> omega) _).alloc (by simp <;> omega) _).alloc (by simp <;> omega) _)⟩ ?_
      rintro w' ⟨g1, g2, g0, b⟩
      replace B := B.trans (b.mono B.size); clear b
      have c_g1 := g1.cell; have f_g1 := g1.free; have a_g1 := fun o => (g1.alloc o).cell; have d_g1 := fun o o2 => ((g1.alloc o).alloc o2).cell; have e_g1 := fun o => (g1.alloc o).free
      have c_g2 := g2.cell; have f_g2 := g2.free; have a_g2 := fun o => (g2.alloc o).cell; have d_g2 := fun o o2 => ((g2.alloc o).alloc o2).cell; have e_g2 := fun o => (g2.alloc o).free
      have c_g0 := g0.cell; have f_g0 := g0.free; have a_g0 := fun o => (g0.alloc o).cell; have d_g0 := fun o o2 => ((g0.alloc o).alloc o2).cell; have e_g0 := fun o => (g0.alloc o).free
      go_wp2
      refine bodyPost_ret (v := .tuple #[.agg #[.int .i64 gn, .bool true, .int .i64 a], .int .i64 0]) (by simp [results, Tryz.results65, go_sem, c_g1, f_g1, a_g1, e_g1, c_g2, f_g2, a_g2, e_g2, c_g0, f_g0, a_g0, e_g0]) rfl ?_
      refine ⟨rfl, ?_⟩
      (repeat (first | refine Below.setCell ?_ (by first | exact Nat.le_refl _ | (simp <;> omega)) _ | refine Below.alloc ?_ (by first | exact B.size | (have := B.size; simp <;> omega)) _)); exact B
    · have hr0 : r = 28 := by rw [hr, rightErr, if_pos (by omega), hgd, if_neg hu]
      have hs0 : s = .none := by rw [hs, findS, ← hr, hr0]; rfl
      clear hr hs hgd hx hV hL
      subst hr0 hs0
      obtain ⟨gn, us, a⟩ := x
      dsimp only at hu t0 t1 t2 ⊢
      unfold Sl.none
      dsimp only
      have hcase : us = false ∨ us = true ∧ (gn != g) = true := by
        cases us
        · exact .inl rfl
        · refine .inr ⟨rfl, ?_⟩
          rw [bne_iff_ne]; exact fun h => hu ⟨rfl, h⟩
      clear hu
      rcases hcase with rfl | ⟨rfl, hne⟩
      all_goals
        go_enter Tryz.func65, Tryz.ntmps65
        go_upto_region 1 with (fail)
        refine wp_gen (fun Wv => Bx Wv (w.heap.size) (127) (V) ∧ Bx Wv (w.heap.size + 1) (24) (#[.int .i64 k, .int .i64 g]) ∧ Bx Wv (w.heap.size + 1 + 1) (83) (#[.int .i64 0, .bool false, .int .i64 0]) ∧ Below w.heap.size w Wv) ⟨((((Bx.at_ (by simp)).alloc _).alloc _)), (((Bx.at_ (by simp)).alloc _)), ((Bx.at_ (by simp))), ((((Below.refl _ w).alloc (by simp <;> omega) _).alloc (by simp <;> omega) _).alloc (by simp <;> omega) _)⟩ ?_
        rintro w' ⟨g1, g2, g0, b⟩
        replace B := B.trans (b.mono B.size); clear b
        have c_g1 := g1.cell; have f_g1 := g1.free; have a_g1 := fun o => (g1.alloc o).cell; have d_g1 := fun o o2 => ((g1.alloc o).alloc o2).cell; have e_g1 := fun o => (g1.alloc o).free
        have c_g2 := g2.cell; have f_g2 := g2.free; have a_g2 := fun o => (g2.alloc o).cell; have d_g2 := fun o o2 => ((g2.alloc o).alloc o2).cell; have e_g2 := fun o => (g2.alloc o).free
        have c_g0 := g0.cell; have f_g0 := g0.free; have a_g0 := fun o => (g0.alloc o).cell; have d_g0 := fun o o2 => ((g0.alloc o).alloc o2).cell; have e_g0 := fun o => (g0.alloc o).free
        go_wp2
        refine bodyPost_ret (v := .tuple #[.agg #[.int .i64 0, .bool false, .int .i64 0], .int .i64 28]) (by simp [results, Tryz.results65, go_sem, c_g1, f_g1, a_g1, e_g1, c_g2, f_g2, a_g2, e_g2, c_g0, f_g0, a_g0, e_g0]) rfl ?_
        refine ⟨rfl, ?_⟩
        (repeat (first | refine Below.setCell ?_ (by first | exact Nat.le_refl _ | (simp <;> omega)) _ | refine Below.alloc ?_ (by first | exact B.size | (have := B.size; simp <;> omega)) _)); exact B
  · have hr0 : r = 2 := by rw [hr, rightErr, if_neg (by omega)]
    have hs0 : s = .none := by rw [hs, findS, ← hr, hr0]; rfl
    clear hr hs hV hL
    subst hr0 hs0
    unfold Sl.none
    dsimp only
    have hcase : sl < 0 ∨ 16 ≤ sl := by omega
    clear hin
    rcases hcase with hneg | hneg
    all_goals
      go_enter Tryz.func65, Tryz.ntmps65
      go_upto_region 1 with (fail)
      refine wp_gen (fun Wv => Bx Wv (w.heap.size) (127) (V) ∧ Bx Wv (w.heap.size + 1) (24) (#[.int .i64 sl, .int .i64 g]) ∧ Bx Wv (w.heap.size + 1 + 1) (83) (#[.int .i64 0, .bool false, .int .i64 0]) ∧ Below w.heap.size w Wv) ⟨((((Bx.at_ (by simp)).alloc _).alloc _)), (((Bx.at_ (by simp)).alloc _)), ((Bx.at_ (by simp))), ((((Below.refl _ w).alloc (by simp <;> omega) _).alloc (by simp <;> omega) _).alloc (by simp <;> omega) _)⟩ ?_
      rintro w' ⟨g1, g2, g0, b⟩
      replace B := B.trans (b.mono B.size); clear b
      have c_g1 := g1.cell; have f_g1 := g1.free; have a_g1 := fun o => (g1.alloc o).cell; have d_g1 := fun o o2 => ((g1.alloc o).alloc o2).cell; have e_g1 := fun o => (g1.alloc o).free
      have c_g2 := g2.cell; have f_g2 := g2.free; have a_g2 := fun o => (g2.alloc o).cell; have d_g2 := fun o o2 => ((g2.alloc o).alloc o2).cell; have e_g2 := fun o => (g2.alloc o).free
      have c_g0 := g0.cell; have f_g0 := g0.free; have a_g0 := fun o => (g0.alloc o).cell; have d_g0 := fun o o2 => ((g0.alloc o).alloc o2).cell; have e_g0 := fun o => (g0.alloc o).free
      go_wp2
      refine bodyPost_ret (v := .tuple #[.agg #[.int .i64 0, .bool false, .int .i64 0], .int .i64 2]) (by simp [results, Tryz.results65, go_sem, c_g1, f_g1, a_g1, e_g1, c_g2, f_g2, a_g2, e_g2, c_g0, f_g0, a_g0, e_g0]) rfl ?_
      refine ⟨rfl, ?_⟩
      (repeat (first | refine Below.setCell ?_ (by first | exact Nat.le_refl _ | (simp <;> omega)) _ | refine Below.alloc ?_ (by first | exact B.size | (have := B.size; simp <;> omega)) _)); exact B
/-- A slice of slots. -/
def Slots (w : World) (v : Value) (L : List Sl) : Prop := Rd w 3 v L.length (tabL L)
def OwnS (w : World) (base E : Nat) (v : Value) (L : List Sl) : Prop := w.ownsRow base E 3 v L.length (tabL L)
theorem OwnS.rd {w : World} {base E : Nat} {v : Value} {L : List Sl} (h : OwnS w base E v L) : Slots w v L := Rd.of_own h
theorem Slots.below {w w' : World} {v : Value} {L : List Sl} (h : Slots w v L) (hb : Below w.heap.size w w') : Slots w' v L := Rd.below h hb
theorem OwnS.below {w w' : World} {base E : Nat} {v : Value} {L : List Sl} (h : OwnS w base E v L) (hb : Below w.heap.size w w') : OwnS w' base E v L := own_below h hb
theorem OwnS.nil (w : World) (base E : Nat) : OwnS w base E (.slice none 0 0) [] := World.ownsRow_nil w base E 3
/-- a whole array, taken as a slice. -/
theorem Bx.ownS {w : World} {g base : Nat} {t : TypeId} {cs : Array Value} {L : List Sl} (h : Bx w g t cs) (hb : base ≤ g) (hc : cs = tab L) (hL : L.length = 16) : OwnS w base t (.slice (some ⟨g, 0, none⟩) 16 16) L := by
  subst hc
  unfold OwnS
  rw [hL]
  refine ⟨by rw [tabL_len, hL], .inr ⟨g, 16, tab L, rfl, hb, h, Nat.le_refl _, by simp [maxLen], by rw [tab_size, hL], ?_⟩⟩
  rw [List.take_of_length_le (by simp [tab, tabL_len]; omega)]
  simp [tab]
theorem all_nil {l : List UInt64} (h : openErr l ≠ 0) : all l = [] := if_neg h
theorem all_ok {l : List UInt64} (h : openErr l = 0) : all l = slots l := if_pos h
theorem tabOf_ok {l : List UInt64} (h : openErr l = 0) : tabOf l = slots l := if_pos h
theorem slots16 {l : List UInt64} (h : openErr l = 0) : (slots l).length = 16 := by rw [← tabOf_ok h, tabOf_len]
set_option maxRecDepth 100000 in
set_option maxHeartbeats 1000000 in
theorem All18_any (v : Value) (l : List UInt64) (L : List Sl) (r : Int) (hL : L = all l) (hr : r = openErr l) (w : World) (h : Words w v l) :
    Calls Tryz.prog 36 #[v] w fun e w' => ∃ x E, e = .returned (.tuple #[x, .int .i64 r]) ∧ OwnS w' w.heap.size E x L ∧ Below w.heap.size w w' := by
  have B : Below w.heap.size w w := Below.refl _ _
  obtain ⟨V, hV⟩ : ∃ V, V = tab (tabOf l) := ⟨_, rfl⟩
  have OT := fun w h => open_any v l V hV r hr w h
  have HOT := Lib.hid OT; have H := Lib.hid h; clear OT h
  by_cases h0 : openErr l = 0
  · have hr0 : r = 0 := hr.trans h0
    have hVs : V.size = 48 := by rw [hV]; exact tabOf_size l
    have hV1 : V.all (·.oneCell') = true := by rw [hV]; exact tab_one _
    have hLS : L = slots l := hL.trans (all_ok h0)
    have hVL : V = tab L := by rw [hV, tabOf_ok h0, hLS]
    have hL16 : L.length = 16 := by rw [hLS]; exact slots16 h0
    subst hr0
    have HVs := Lib.hid hVs; have HV1 := Lib.hid hV1; have HVL := Lib.hid hVL; have HL16 := Lib.hid hL16
    clear hr h0 hVs hV1 hLS hVL hL16 hV hL
    go_enter Tryz.func36, Tryz.ntmps36
    go_wp2_with fail
    refine (HOT.out _ (H.out.below B)).mono ?_
    rintro e w' ⟨rfl, b⟩
    replace B := B.trans (b.mono B.size); clear b
    go_wp2_with ((with_reducible refine at_store 127 4 9 ?_); refine wpList_storeNew rfl _ _ _ rfl rfl V rfl rfl (by rw [HVs.out]; exact size_table) (by rw [HVs.out]; rfl) HV1.out ?_; intro W q1 b1)
    go_ret2
    exact ⟨_, _, rfl, q1.ownS B.size HVL.out HL16.out, B.trans (b1.mono B.size)⟩
  · have hne : (r != 0) = true := by rw [bne_iff_ne, hr]; exact h0
    have hVs : V.size = 48 := by rw [hV]; exact tabOf_size l
    have hV1 : V.all (·.oneCell') = true := by rw [hV]; exact tab_one _
    have hL0 : L = [] := hL.trans (all_nil h0)
    have HVs := Lib.hid hVs; have HV1 := Lib.hid hV1
    clear hr h0 hVs hV1 hV hL
    subst hL0
    go_enter Tryz.func36, Tryz.ntmps36
    go_wp2_with fail
    refine (HOT.out _ (H.out.below B)).mono ?_
    rintro e w' ⟨rfl, b⟩
    replace B := B.trans (b.mono B.size); clear b
    go_wp2_with ((with_reducible refine at_store 127 4 9 ?_); refine wpList_storeNew rfl _ _ _ rfl rfl V rfl rfl (by rw [HVs.out]; exact size_table) (by rw [HVs.out]; rfl) HV1.out ?_; intro W q1 b1)
    go_ret2
    exact ⟨_, 0, rfl, OwnS.nil _ _ _, B.trans (b1.mono B.size)⟩
set_option maxRecDepth 100000 in
set_option maxHeartbeats 1000000 in
theorem Resolve_any (v : Value) (l : List UInt64) (sl g : Int) (x r : Int) (hx : x = res l sl g) (hr : r = resErr l sl g) (w : World) (h : Words w v l) :
    Calls Tryz.prog 45 #[v, .agg #[.int .i64 sl, .int .i64 g]] w fun e w' => e = .returned (.tuple #[.int .i64 x, .int .i64 r]) ∧ Below w.heap.size w w' := by
  have B : Below w.heap.size w w := Below.refl _ _
  obtain ⟨V, hV⟩ : ∃ V, V = tab (tabOf l) := ⟨_, rfl⟩
  obtain ⟨oe, hoe⟩ : ∃ oe, oe = openErr l := ⟨_, rfl⟩
  have OT := fun w h => open_any v l V hV oe hoe w h
  have HOT := Lib.hid OT; have H := Lib.hid h; clear OT h
  have hVs : V.size = 48 := by rw [hV]; exact tabOf_size l
  have hV1 : V.all (·.oneCell') = true := by rw [hV]; exact tab_one _
  have HVs := Lib.hid hVs; have HV1 := Lib.hid hV1
  clear hVs hV1
  by_cases h0 : openErr l = 0
  · have hr0 : r = rightErr (slots l) sl g := by rw [hr, resErr, if_pos h0]
    obtain ⟨s, hs⟩ : ∃ s, s = findS (slots l) sl g := ⟨_, rfl⟩
    have hx0 : x = s.at_ := by
      rw [hx, res, resErr, if_pos h0, hs, findS]
      split <;> rfl
    have FT := fun w => find_any (slots l) (slots16 h0) V (by rw [hV, tabOf_ok h0]) sl g s r hs hr0 w
    have HFT := Lib.hid FT
    rw [h0] at hoe
    subst hoe hx0
    clear FT hr h0 hV hs hx hr0
    go_enter Tryz.func45, Tryz.ntmps45
    go_upto_region 1 with (fail)
    refine wp_gen (fun Wv => Bx Wv (w.heap.size) (24) (#[.int .i64 sl, .int .i64 g]) ∧ Below w.heap.size w Wv) ⟨((Bx.at_ (by simp))), ((Below.refl _ w).alloc (by simp <;> omega) _)⟩ ?_
    rintro w' ⟨g1, b⟩
    replace B := B.trans (b.mono B.size); clear b
    have c_g1 := g1.cell; have f_g1 := g1.free; have a_g1 := fun o => (g1.alloc o).cell; have d_g1 := fun o o2 => ((g1.alloc o).alloc o2).cell; have e_g1 := fun o => (g1.alloc o).free
    go_wp2_with fail
    refine (HOT.out _ (H.out.below B)).mono ?_
    rintro e w' ⟨rfl, b⟩
    try clear c_g1 f_g1 a_g1 d_g1 e_g1
    replace g1 := g1.below b; have c_g1 := g1.cell; have f_g1 := g1.free; have a_g1 := fun o => (g1.alloc o).cell; have d_g1 := fun o o2 => ((g1.alloc o).alloc o2).cell; have e_g1 := fun o => (g1.alloc o).free; replace B := B.trans (b.mono B.size); clear b
    go_wp2_with (first
      | ((with_reducible refine at_store 127 6 12 ?_); refine wpList_storeNew rfl _ _ _ rfl rfl V rfl rfl (by rw [HVs.out]; exact size_table) (by rw [HVs.out]; rfl) HV1.out ?_; intro W q1 b1; have k1 := (g1.below b1).cell)
      | ((with_reducible refine at_load 18 127 6 ?_); refine wpList_loadRow rfl _ _ rfl _ rfl q1 _ Tryz.underlying127 rfl (by rw [HVs.out]; exact size_table) ?_))
    refine (HFT.out _).mono ?_
    rintro e w' ⟨rfl, b⟩
    replace B := (B.trans (b1.mono B.size)).trans (b.mono (Nat.le_trans B.size b1.size))
    clear k1 b b1 q1
    go_wp2
    go_ret2
    exact ⟨rfl, by (repeat (first | refine Below.setCell ?_ (by first | exact Nat.le_refl _ | (simp <;> omega)) _ | refine Below.alloc ?_ (by first | exact B.size | (have := B.size; simp <;> omega)) _)); exact B⟩
  · have hne : (oe != 0) = true := by rw [bne_iff_ne, hoe]; exact h0
    have hr0 : r = oe := by rw [hr, resErr, if_neg h0, hoe]
    have hx0 : x = 0 := by rw [hx, res, resErr, if_neg h0, if_neg h0]
    clear hr h0 hV hx hoe
    subst hr0 hx0
    go_enter Tryz.func45, Tryz.ntmps45
    go_upto_region 1 with (fail)
    refine wp_gen (fun Wv => Bx Wv (w.heap.size) (24) (#[.int .i64 sl, .int .i64 g]) ∧ Below w.heap.size w Wv) ⟨((Bx.at_ (by simp))), ((Below.refl _ w).alloc (by simp <;> omega) _)⟩ ?_
    rintro w' ⟨g1, b⟩
    replace B := B.trans (b.mono B.size); clear b
    have c_g1 := g1.cell; have f_g1 := g1.free; have a_g1 := fun o => (g1.alloc o).cell; have d_g1 := fun o o2 => ((g1.alloc o).alloc o2).cell; have e_g1 := fun o => (g1.alloc o).free
    go_wp2_with fail
    refine (HOT.out _ (H.out.below B)).mono ?_
    rintro e w' ⟨rfl, b⟩
    try clear c_g1 f_g1 a_g1 d_g1 e_g1
    replace g1 := g1.below b; have c_g1 := g1.cell; have f_g1 := g1.free; have a_g1 := fun o => (g1.alloc o).cell; have d_g1 := fun o o2 => ((g1.alloc o).alloc o2).cell; have e_g1 := fun o => (g1.alloc o).free; replace B := B.trans (b.mono B.size); clear b
    go_wp2_with ((with_reducible refine at_store 127 6 12 ?_); refine wpList_storeNew rfl _ _ _ rfl rfl V rfl rfl (by rw [HVs.out]; exact size_table) (by rw [HVs.out]; rfl) HV1.out ?_; intro W q1 b1)
    go_ret2
    exact ⟨rfl, B.trans (b1.mono B.size)⟩
end Go.Proofs.YtbfmdbeeiicabaaGreat
namespace Go.Proofs.YtbfmdbeeiicabaaGreat
open Go.RowKit L01 L02 L18
def entV (a : Int) (x : UInt64) : Value := .agg #[.int .i64 a, .int .u64 x.toNat]
theorem index_tab {L : List Sl} {k : Nat} {s : Sl} (hL : L.length = 16) (V : Array Value) (hV : V = tab L) (h : L[k]? = some s) (W : World) : (Instr.index 127 (.agg V) (.int .i64 (k : Int))).run Tryz.prog W = .ok (.agg #[.int .i64 s.gen, .bool s.used, .int .i64 s.at_]) W := by
  subst hV
  have hk : k < 16 := by have := (List.getElem?_eq_some_iff.1 h).1; omega
  obtain ⟨t0, t1, t2⟩ := tab_get3 h
  obtain ⟨i, hi, hsz⟩ := Option.map_eq_some_iff.1 size_slot
  have he : (tab L).extract (k * 3) (k * 3 + 3) = #[.int .i64 s.gen, .bool s.used, .int .i64 s.at_] := by
    apply Array.ext_getElem?
    intro j
    rw [Array.getElem?_extract]
    have hz : (tab L).size = 48 := by rw [tab_size, hL]
    match j with
    | 0 => rw [if_pos (by rw [hz]; omega)]; exact t0
    | 1 => rw [if_pos (by rw [hz]; omega)]; exact t1
    | 2 => rw [if_pos (by rw [hz]; omega)]; exact t2
    | j + 3 => rw [if_neg (by rw [hz]; omega)]; simp
  simp [Instr.index, run_underlying Tryz.underlying127, asIntOf, hk, sizeOf, typeInfo, go_sem, hi, hsz]
  exact he
set_option maxRecDepth 100000 in
set_option maxHeartbeats 1000000 in
theorem New18_ok (v : Value) (l : List UInt64) (a : Int) (w : World) (h : Words w v l) (h0 : openErr l = 0) (ha : 128 ≤ a ∧ a < 2048) :
    Calls Tryz.prog 47 #[v, .int .i64 a] w fun e w' => e = .returned (.tuple #[.agg #[.int .i64 (newSlot l a), .int .i64 (newGen l a)], entV (newAt l a) (newVal l a), .int .i64 (L18.newErr l a)]) ∧ Below w.heap.size w w' := by
  have B : Below w.heap.size w w := Below.refl _ _
  obtain ⟨V, hV⟩ : ∃ V, V = tab (tabOf l) := ⟨_, rfl⟩
  have OT := fun w h => open_any v l V hV 0 h0.symm w h
  have HOT := Lib.hid OT; have H := Lib.hid h; clear OT h
  have hVs : V.size = 48 := by rw [hV]; exact tabOf_size l
  have hV1 : V.all (·.oneCell') = true := by rw [hV]; exact tab_one _
  have HVs := Lib.hid hVs; have HV1 := Lib.hid hV1
  clear hVs hV1
  rw [tabOf_ok h0] at hV
  have HV := Lib.hid hV; have H0 := Lib.hid h0; have HA := Lib.hid ha
  obtain ⟨a1, a2⟩ := ha
  clear hV h0
  go_enter Tryz.func47, Tryz.ntmps47
  go_upto_region 1 with (fail)
  refine wp_gen (fun Wv => Bx Wv (w.heap.size) (24) (#[.int .i64 0, .int .i64 0]) ∧ Bx Wv (w.heap.size + 1) (61) (#[.int .i64 0, .int .u64 0]) ∧ Below w.heap.size w Wv) ⟨(((Bx.at_ (by simp)).alloc _)), ((Bx.at_ (by simp))), (((Below.refl _ w).alloc (by simp <;> omega) _).alloc (by simp <;> omega) _)⟩ ?_
  rintro w' ⟨g4, g5, b⟩
  replace B := B.trans (b.mono B.size); clear b
  have c_g4 := g4.cell; have f_g4 := g4.free; have a_g4 := fun o => (g4.alloc o).cell; have d_g4 := fun o o2 => ((g4.alloc o).alloc o2).cell; have e_g4 := fun o => (g4.alloc o).free
  have c_g5 := g5.cell; have f_g5 := g5.free; have a_g5 := fun o => (g5.alloc o).cell; have d_g5 := fun o o2 => ((g5.alloc o).alloc o2).cell; have e_g5 := fun o => (g5.alloc o).free
  go_wp2_with fail
  refine (HOT.out _ (H.out.below B)).mono ?_
  rintro e w' ⟨rfl, b⟩
  try clear c_g4 f_g4 a_g4 d_g4 e_g4
  replace g4 := g4.below b; have c_g4 := g4.cell; have f_g4 := g4.free; have a_g4 := fun o => (g4.alloc o).cell; have d_g4 := fun o o2 => ((g4.alloc o).alloc o2).cell; have e_g4 := fun o => (g4.alloc o).free; try clear c_g5 f_g5 a_g5 d_g5 e_g5
  replace g5 := g5.below b; have c_g5 := g5.cell; have f_g5 := g5.free; have a_g5 := fun o => (g5.alloc o).cell; have d_g5 := fun o o2 => ((g5.alloc o).alloc o2).cell; have e_g5 := fun o => (g5.alloc o).free; replace B := B.trans (b.mono B.size); clear b
  go_wp2_with (first
    | ((with_reducible refine at_store 127 7 15 ?_); refine wpList_storeNew rfl _ _ _ rfl rfl V rfl rfl (by rw [HVs.out]; exact size_table) (by rw [HVs.out]; rfl) HV1.out ?_; intro W q1 b1)
    | ((with_reducible refine at_load 30 127 7 ?_); refine wpList_loadRow rfl _ _ rfl _ rfl q1 _ Tryz.underlying127 rfl (by rw [HVs.out]; exact size_table) ?_))
  replace g4 := g4.below b1; replace g5 := g5.below b1; replace B := B.trans (b1.mono B.size)
  have HG := Lib.hid (And.intro g4 g5); have HB := Lib.hid B; clear q1 b1 B
  clear c_g4 f_g4 a_g4 d_g4 e_g4 c_g5 f_g5 a_g5 d_g5 e_g5
  clear g4 g5
  go_loopw [31] (fun i wr => ∃ k : Nat, k ≤ 16 ∧ i = .int .i64 k ∧ Hid ((Bx wr w.heap.size 24 #[.int .i64 0, .int .i64 0] ∧ Bx wr (w.heap.size + 1) 61 #[.int .i64 0, .int .u64 0]) ∧ nextFrom ((slots l).drop k) k = next (slots l)) ∧ Below w.heap.size w wr) (fun i _ => 16 - (intOf i).toNat)
  case atStart => exact ⟨0, by omega, rfl, Lib.hid ⟨HG.out, rfl⟩, HB.out⟩
  case round =>
    clear HG HB
    obtain ⟨k, hk, rfl, hh, B⟩ := hrel
    by_cases hlt : k < 16
    · obtain ⟨s, hs⟩ : ∃ s, (slots l)[k]? = some s := ⟨_, List.getElem?_eq_getElem (by rw [slots16 H0.out]; exact hlt)⟩
      have hix := index_tab (slots16 H0.out) V HV.out hs
      obtain ⟨⟨g4, g5⟩, hn⟩ := hh.out
      rw [List.drop_eq_getElem_cons (by rw [slots16 H0.out]; exact hlt)] at hn
      have HS := Lib.hid hs; have HN := Lib.hid hn; clear hs hn hh
      obtain ⟨gn, us, at_⟩ := s
      dsimp only at hix
      have hcase : (us = true ∨ us = false ∧ gn = 2147483647) ∨ (us = false ∧ (gn == 2147483647) = false) := by
        cases us
        · by_cases hg : gn = 2147483647
          · exact .inl (.inr ⟨rfl, hg⟩)
          · exact .inr ⟨rfl, by rw [beq_eq_false_iff_ne]; exact hg⟩
        · exact .inl (.inl rfl)
      have HIX := Lib.hid hix; clear hix
      rcases hcase with hcase | ⟨rfl, hne⟩
      · have hnx : nextFrom ((slots l).drop (k + 1)) (k + 1) = next (slots l) := by
          rw [← HN.out, nextFrom, if_neg]
          have e := HS.out
          rw [List.getElem?_eq_getElem (by rw [slots16 H0.out]; exact hlt)] at e
          injection e with e
          rw [e]
          rcases hcase with h | ⟨_, h⟩
          · exact fun h2 => by rw [h] at h2; exact absurd h2.1 (by simp)
          · exact fun h2 => h2.2 h
        have HNX := Lib.hid hnx; clear hnx
        have HG := Lib.hid (And.intro g4 g5); have HB := Lib.hid B; clear g4 g5 B
        have hix := HIX.out
        rcases hcase with rfl | ⟨rfl, rfl⟩
        all_goals
          go_wp2
          go_roundw
          case rel => exact ⟨k + 1, by omega, by go_num, Lib.hid ⟨⟨HG.out.1.alloc _, HG.out.2.alloc _⟩, HNX.out⟩, HB.out.alloc HB.out.size _⟩
          case measure => simp [intOf]; omega
      · have hnx : next (slots l) = some k := by
          rw [← HN.out, nextFrom, if_pos]
          have e := HS.out
          rw [List.getElem?_eq_getElem (by rw [slots16 H0.out]; exact hlt)] at e
          injection e with e
          rw [e]
          exact ⟨rfl, by simpa using hne⟩
        have hR : Right ⟨gn, false, at_⟩ := by
          have hall := H0.out
          unfold openErr at hall
          split at hall
          · split at hall
            · rename_i h2 h3
              have e := HS.out
              rw [slots, List.getElem?_map] at e
              obtain ⟨x, hx, hxe⟩ := Option.map_eq_some_iff.1 e
              rw [← hxe]; exact h3 x (List.mem_of_getElem? hx)
            · omega
          · omega
        have hR2 : Right ⟨gn + 1, true, a⟩ := ⟨by have := hR.1; simp at this ⊢; omega, by have := hR.2.1; simp at this hne ⊢; omega, by simp, fun _ => ⟨by have := hR.1; simp at this ⊢; omega, a1, a2⟩⟩
        have hg1 : 0 ≤ gn := hR.1
        have hg2 : gn < 2147483647 := by have := hR.2.1; simp at this hne; omega
        have herr : L18.newErr l a = 0 := by rw [L18.newErr, if_pos H0.out, if_pos HA.out, hnx]; rfl
        have e1 : newSlot l a = k := by rw [newSlot, if_pos herr, hnx]; rfl
        have e2 : newGen l a = gn + 1 := by rw [newGen, if_pos herr, hnx]; simp [List.getD_eq_getElem?_getD, HS.out]
        have e3 : newAt l a = 112 + k := by rw [newAt, if_pos herr, hnx]; rfl
        have e4 : newVal l a = pk ⟨gn + 1, true, a⟩ := by rw [newVal, if_pos herr, e2]
        obtain ⟨x, hx⟩ : ∃ x, x = pk ⟨gn + 1, true, a⟩ := ⟨_, rfl⟩
        have PT := fun w => pack_any ⟨gn + 1, true, a⟩ x hx hR2 w
        dsimp only at PT
        rw [← hx] at e4
        have HE := Lib.hid (And.intro herr (And.intro e1 (And.intro e2 (And.intro e3 e4)))); have HPT := Lib.hid PT
        clear hnx hR hR2 herr e1 e2 e3 e4 PT hx
        have hix := HIX.out
        have hsz := B.size
        have n4 : wr.heap.size + 1 ≠ w.heap.size := by omega
        have n5 : wr.heap.size + 1 ≠ w.heap.size + 1 := by have := g5.lt; omega
        go_wp2
        refine wp_gen (fun Wv => Bx Wv (wr.heap.size + 1) (83) (#[.int .i64 (gn + 1), .bool true, .int .i64 a]) ∧ Below wr.heap.size wr Wv) ⟨((Bx.at_ (by simp))), (((Below.refl _ wr).alloc (by simp <;> omega) _).alloc (by simp <;> omega) _)⟩ ?_
        rintro w' ⟨g11, b⟩
        try clear c_g4 f_g4 a_g4 d_g4 e_g4
        replace g4 := g4.below b; have c_g4 := g4.cell; have f_g4 := g4.free; have a_g4 := fun o => (g4.alloc o).cell; have d_g4 := fun o o2 => ((g4.alloc o).alloc o2).cell; have e_g4 := fun o => (g4.alloc o).free; try clear c_g5 f_g5 a_g5 d_g5 e_g5
        replace g5 := g5.below b; have c_g5 := g5.cell; have f_g5 := g5.free; have a_g5 := fun o => (g5.alloc o).cell; have d_g5 := fun o o2 => ((g5.alloc o).alloc o2).cell; have e_g5 := fun o => (g5.alloc o).free; replace B := B.trans (b.mono B.size); clear b
        have c_g11 := g11.cell; have f_g11 := g11.free; have a_g11 := fun o => (g11.alloc o).cell; have d_g11 := fun o o2 => ((g11.alloc o).alloc o2).cell; have e_g11 := fun o => (g11.alloc o).free
        clear hix
        have i0 := c_g11 0; have i1 := c_g11 1; have i2 := c_g11 2
        simp only [List.getElem?_toArray, List.getElem?_cons_zero, List.getElem?_cons_succ] at i0 i1 i2
        clear c_g11 f_g11 a_g11 d_g11 e_g11 c_g4 f_g4 a_g4 d_g4 e_g4 c_g5 f_g5 a_g5 d_g5 e_g5
        obtain ⟨W0, hW0⟩ : ∃ W0, W0 = w' := ⟨_, rfl⟩
        subst hW0
        have hwk : IntKind.i64.wrap (112 + (k : Int)) = 112 + (k : Int) := IntWalk.i64_in _ (by omega)
        go_region_held3 (fun Z => Z.cell? ⟨wr.heap.size + 1, 0, none⟩ = some (.int .i64 (gn + 1)) ∧ Z.cell? ⟨wr.heap.size + 1, 1, none⟩ = some (.bool true) ∧ Z.cell? ⟨wr.heap.size + 1, 2, none⟩ = some (.int .i64 a))
          (first
            | with_reducible exact ⟨j0, j1, j2⟩
            | with_reducible exact ⟨cell_far (cell_far j0 n4) n4, cell_far (cell_far j1 n4) n4, cell_far (cell_far j2 n4) n4⟩
            | with_reducible exact ⟨cell_far (cell_far (cell_far (cell_far j0 n4) n4) n5) n5, cell_far (cell_far (cell_far (cell_far j1 n4) n4) n5) n5, cell_far (cell_far (cell_far (cell_far j2 n4) n4) n5) n5⟩
            | exact ⟨i0, i1, i2⟩)
          ((go_at_call 66; (with_reducible refine (HPT.out _).mono ?_); rintro e W1 ⟨rfl, b⟩; have bb : Below W0.heap.size W0 W1 := ((Below.refl W0.heap.size W0).drew).trans b; have m11 := g11.below bb; have j0 : W1.cell? ⟨wr.heap.size + 1, 0, none⟩ = some (.int .i64 (gn + 1)) := m11.cell 0; have j1 : W1.cell? ⟨wr.heap.size + 1, 1, none⟩ = some (.bool true) := m11.cell 1; have j2 : W1.cell? ⟨wr.heap.size + 1, 2, none⟩ = some (.int .i64 a) := m11.cell 2; have m4 := g4.below bb; have m5 := g5.below bb; have k4 := m4.cell; have l4 := m4.free; have k5 := m5.cell; have l5 := m5.free))
        go_wp2
        refine bodyPost_ret (v := .tuple #[.agg #[.int .i64 k, .int .i64 (gn + 1)], .agg #[.int .i64 (112 + k), .int .u64 x.toNat], .int .i64 0]) (by simp [results, Tryz.results47, go_sem, k4, l4, k5, l5]) rfl ?_
        obtain ⟨e0, e1, e2, e3, e4⟩ := HE.out
        refine ⟨by rw [e0, e1, e2, e3, e4]; rfl, ?_⟩
        replace B := B.trans (bb.mono B.size)
        (repeat (first | refine Below.setCell ?_ (by first | exact Nat.le_refl _ | (simp <;> omega)) _ | refine Below.alloc ?_ (by first | exact B.size | (have := B.size; simp <;> omega)) _)); exact B
    · obtain rfl : k = 16 := by omega
      obtain ⟨⟨g4, g5⟩, hn⟩ := hh.out
      rw [List.drop_of_length_le (by rw [slots16 H0.out]; omega)] at hn
      have hnx : next (slots l) = none := hn.symm
      have herr : L18.newErr l a = 23 := by rw [L18.newErr, if_pos H0.out, if_pos HA.out, if_pos hnx]
      have e1 : newSlot l a = 0 := if_neg (by rw [herr]; omega)
      have e2 : newGen l a = 0 := if_neg (by rw [herr]; omega)
      have e3 : newAt l a = 0 := if_neg (by rw [herr]; omega)
      have e4 : newVal l a = 0 := if_neg (by rw [herr]; omega)
      have HE := Lib.hid (And.intro herr (And.intro e1 (And.intro e2 (And.intro e3 e4))))
      have k4 := g4.cell; have l4 := g4.free; have k5 := g5.cell; have l5 := g5.free
      clear hn hnx herr e1 e2 e3 e4 hh
      go_wp2
      refine bodyPost_ret (v := .tuple #[.agg #[.int .i64 0, .int .i64 0], .agg #[.int .i64 0, .int .u64 0], .int .i64 23]) (by simp [results, Tryz.results47, go_sem, k4, l4, k5, l5]) rfl ?_
      obtain ⟨e0, e1, e2, e3, e4⟩ := HE.out
      refine ⟨by rw [e0, e1, e2, e3, e4]; rfl, ?_⟩
      (repeat (first | refine Below.setCell ?_ (by first | exact Nat.le_refl _ | (simp <;> omega)) _ | refine Below.alloc ?_ (by first | exact B.size | (have := B.size; simp <;> omega)) _)); exact B
set_option maxRecDepth 100000 in
set_option maxHeartbeats 1000000 in
theorem New18_any (v : Value) (l : List UInt64) (a sl g ea : Int) (ev : UInt64) (r : Int) (h1 : sl = newSlot l a) (h2 : g = newGen l a) (h3 : ea = newAt l a) (h4 : ev = newVal l a) (h5 : r = L18.newErr l a) (w : World) (h : Words w v l) :
    Calls Tryz.prog 47 #[v, .int .i64 a] w fun e w' => e = .returned (.tuple #[.agg #[.int .i64 sl, .int .i64 g], .agg #[.int .i64 ea, .int .u64 ev.toNat], .int .i64 r]) ∧ Below w.heap.size w w' := by
  by_cases h0 : openErr l = 0
  · by_cases ha : 128 ≤ a ∧ a < 2048
    · subst h1 h2 h3 h4 h5
      exact New18_ok v l a w h h0 ha
    · have herr : L18.newErr l a = 2 := by rw [L18.newErr, if_pos h0, if_neg ha]
      have e1 : sl = 0 := h1.trans (if_neg (by rw [herr]; omega))
      have e2 : g = 0 := h2.trans (if_neg (by rw [herr]; omega))
      have e3 : ea = 0 := h3.trans (if_neg (by rw [herr]; omega))
      have e4 : ev = 0 := h4.trans (if_neg (by rw [herr]; omega))
      rw [herr] at h5
      clear h1 h2 h3 h4 herr
      subst e1 e2 e3 e4 h5
      have B : Below w.heap.size w w := Below.refl _ _
      obtain ⟨V, hV⟩ : ∃ V, V = tab (tabOf l) := ⟨_, rfl⟩
      have OT := fun w h => open_any v l V hV 0 h0.symm w h
      have HOT := Lib.hid OT; have H := Lib.hid h; clear OT h
      have hVs : V.size = 48 := by rw [hV]; exact tabOf_size l
      have hV1 : V.all (·.oneCell') = true := by rw [hV]; exact tab_one _
      have HVs := Lib.hid hVs; have HV1 := Lib.hid hV1
      clear hVs hV1 hV h0
      have hcase : a < 128 ∨ 128 ≤ a ∧ 2048 ≤ a := by omega
      clear ha
      rcases hcase with a1 | ⟨a1, a2⟩
      all_goals
        go_enter Tryz.func47, Tryz.ntmps47
        go_upto_region 1 with (fail)
        refine wp_gen (fun Wv => Bx Wv (w.heap.size) (24) (#[.int .i64 0, .int .i64 0]) ∧ Bx Wv (w.heap.size + 1) (61) (#[.int .i64 0, .int .u64 0]) ∧ Below w.heap.size w Wv) ⟨(((Bx.at_ (by simp)).alloc _)), ((Bx.at_ (by simp))), (((Below.refl _ w).alloc (by simp <;> omega) _).alloc (by simp <;> omega) _)⟩ ?_
        rintro w' ⟨g4, g5, b⟩
        replace B := B.trans (b.mono B.size); clear b
        have c_g4 := g4.cell; have f_g4 := g4.free; have a_g4 := fun o => (g4.alloc o).cell; have d_g4 := fun o o2 => ((g4.alloc o).alloc o2).cell; have e_g4 := fun o => (g4.alloc o).free
        have c_g5 := g5.cell; have f_g5 := g5.free; have a_g5 := fun o => (g5.alloc o).cell; have d_g5 := fun o o2 => ((g5.alloc o).alloc o2).cell; have e_g5 := fun o => (g5.alloc o).free
        go_wp2_with fail
        refine (HOT.out _ (H.out.below B)).mono ?_
        rintro e w' ⟨rfl, b⟩
        try clear c_g4 f_g4 a_g4 d_g4 e_g4
        replace g4 := g4.below b; have c_g4 := g4.cell; have f_g4 := g4.free; have a_g4 := fun o => (g4.alloc o).cell; have d_g4 := fun o o2 => ((g4.alloc o).alloc o2).cell; have e_g4 := fun o => (g4.alloc o).free; try clear c_g5 f_g5 a_g5 d_g5 e_g5
        replace g5 := g5.below b; have c_g5 := g5.cell; have f_g5 := g5.free; have a_g5 := fun o => (g5.alloc o).cell; have d_g5 := fun o o2 => ((g5.alloc o).alloc o2).cell; have e_g5 := fun o => (g5.alloc o).free; replace B := B.trans (b.mono B.size); clear b
        go_wp2_with ((with_reducible refine at_store 127 7 15 ?_); refine wpList_storeNew rfl _ _ _ rfl rfl V rfl rfl (by rw [HVs.out]; exact size_table) (by rw [HVs.out]; rfl) HV1.out ?_; intro W q1 b1; have k4 := (g4.below b1).cell; have l4 := (g4.below b1).free; have k5 := (g5.below b1).cell; have l5 := (g5.below b1).free)
        refine bodyPost_ret (v := .tuple #[.agg #[.int .i64 0, .int .i64 0], .agg #[.int .i64 0, .int .u64 0], .int .i64 2]) (by simp [results, Tryz.results47, go_sem, k4, l4, k5, l5]) rfl ⟨rfl, ?_⟩
        replace B := B.trans (b1.mono B.size)
        (repeat (first | refine Below.setCell ?_ (by first | exact Nat.le_refl _ | (simp <;> omega)) _ | refine Below.alloc ?_ (by first | exact B.size | (have := B.size; simp <;> omega)) _)); exact B
  · have herr : L18.newErr l a = openErr l := by rw [L18.newErr, if_neg h0]
    have e1 : sl = 0 := h1.trans (if_neg (by rw [herr]; exact h0))
    have e2 : g = 0 := h2.trans (if_neg (by rw [herr]; exact h0))
    have e3 : ea = 0 := h3.trans (if_neg (by rw [herr]; exact h0))
    have e4 : ev = 0 := h4.trans (if_neg (by rw [herr]; exact h0))
    rw [herr] at h5
    clear h1 h2 h3 h4 herr
    subst e1 e2 e3 e4
    have B : Below w.heap.size w w := Below.refl _ _
    obtain ⟨V, hV⟩ : ∃ V, V = tab (tabOf l) := ⟨_, rfl⟩
    have OT := fun w h => open_any v l V hV r h5 w h
    have HOT := Lib.hid OT; have H := Lib.hid h; clear OT h
    have hVs : V.size = 48 := by rw [hV]; exact tabOf_size l
    have hV1 : V.all (·.oneCell') = true := by rw [hV]; exact tab_one _
    have HVs := Lib.hid hVs; have HV1 := Lib.hid hV1
    have hne : (r != 0) = true := by rw [bne_iff_ne, h5]; exact h0
    clear hVs hV1 hV h0 h5
    go_enter Tryz.func47, Tryz.ntmps47
    go_upto_region 1 with (fail)
    refine wp_gen (fun Wv => Bx Wv (w.heap.size) (24) (#[.int .i64 0, .int .i64 0]) ∧ Bx Wv (w.heap.size + 1) (61) (#[.int .i64 0, .int .u64 0]) ∧ Below w.heap.size w Wv) ⟨(((Bx.at_ (by simp)).alloc _)), ((Bx.at_ (by simp))), (((Below.refl _ w).alloc (by simp <;> omega) _).alloc (by simp <;> omega) _)⟩ ?_
    rintro w' ⟨g4, g5, b⟩
    replace B := B.trans (b.mono B.size); clear b
    have c_g4 := g4.cell; have f_g4 := g4.free; have a_g4 := fun o => (g4.alloc o).cell; have d_g4 := fun o o2 => ((g4.alloc o).alloc o2).cell; have e_g4 := fun o => (g4.alloc o).free
    have c_g5 := g5.cell; have f_g5 := g5.free; have a_g5 := fun o => (g5.alloc o).cell; have d_g5 := fun o o2 => ((g5.alloc o).alloc o2).cell; have e_g5 := fun o => (g5.alloc o).free
    go_wp2_with fail
    refine (HOT.out _ (H.out.below B)).mono ?_
    rintro e w' ⟨rfl, b⟩
    try clear c_g4 f_g4 a_g4 d_g4 e_g4
    replace g4 := g4.below b; have c_g4 := g4.cell; have f_g4 := g4.free; have a_g4 := fun o => (g4.alloc o).cell; have d_g4 := fun o o2 => ((g4.alloc o).alloc o2).cell; have e_g4 := fun o => (g4.alloc o).free; try clear c_g5 f_g5 a_g5 d_g5 e_g5
    replace g5 := g5.below b; have c_g5 := g5.cell; have f_g5 := g5.free; have a_g5 := fun o => (g5.alloc o).cell; have d_g5 := fun o o2 => ((g5.alloc o).alloc o2).cell; have e_g5 := fun o => (g5.alloc o).free; replace B := B.trans (b.mono B.size); clear b
    go_wp2_with ((with_reducible refine at_store 127 7 15 ?_); refine wpList_storeNew rfl _ _ _ rfl rfl V rfl rfl (by rw [HVs.out]; exact size_table) (by rw [HVs.out]; rfl) HV1.out ?_; intro W q1 b1; have k4 := (g4.below b1).cell; have l4 := (g4.below b1).free; have k5 := (g5.below b1).cell; have l5 := (g5.below b1).free)
    refine bodyPost_ret (v := .tuple #[.agg #[.int .i64 0, .int .i64 0], .agg #[.int .i64 0, .int .u64 0], .int .i64 r]) (by simp [results, Tryz.results47, go_sem, k4, l4, k5, l5]) rfl ⟨rfl, ?_⟩
    replace B := B.trans (b1.mono B.size)
    (repeat (first | refine Below.setCell ?_ (by first | exact Nat.le_refl _ | (simp <;> omega)) _ | refine Below.alloc ?_ (by first | exact B.size | (have := B.size; simp <;> omega)) _)); exact B
end Go.Proofs.YtbfmdbeeiicabaaGreat
namespace Go.Proofs.YtbfmdbeeiicabaaGreat
open Go.RowKit L01 L02 L18
theorem right_of {l : List UInt64} (h0 : openErr l = 0) : ∀ s ∈ slots l, Right s := by
  intro s hs
  obtain ⟨x, hx, rfl⟩ := List.mem_map.1 hs
  unfold openErr at h0
  split at h0
  · split at h0
    · rename_i h2 h3; exact h3 x hx
    · omega
  · omega
theorem rightErr_ok {L : List Sl} {sl g : Int} (h : rightErr L sl g = 0) : 0 ≤ sl ∧ sl < L.length ∧ ∃ s, L[sl.toNat]? = some s ∧ s.used = true ∧ s.gen = g := by
  unfold rightErr at h
  split at h
  · rename_i h1
    split at h
    · rename_i h2
      refine ⟨h1.1, h1.2, _, List.getElem?_eq_getElem (by omega), ?_⟩
      rw [List.getD_eq_getElem?_getD, List.getElem?_eq_getElem (by omega)] at h2
      exact h2
    · omega
  · omega
end Go.Proofs.YtbfmdbeeiicabaaGreat
namespace Go.Proofs.YtbfmdbeeiicabaaGreat
open Go.RowKit L01 L02 L18
theorem Slots.at_ {P : Program} {w : World} {v : Value} {L : List Sl} {t e : TypeId} (h : Slots w v L) (ht : P.underlying t = some (.slice e)) (hi : (P.info? e).map (·.size) = some 3) {k : Nat} (hk : k < L.length) :
    ∃ b o s, (∀ W, (Instr.indexAt t v (.int .i64 (k : Int))).run P W = .ok (.pointer (some ⟨b, o, none⟩)) W) ∧ w.cell? ⟨b, o, none⟩ = some (.int .i64 s.gen) ∧ w.cell? ⟨b, o + 1, none⟩ = some (.bool s.used) ∧ w.cell? ⟨b, o + 2, none⟩ = some (.int .i64 s.at_) ∧ Hid (L[k]? = some s) := by
  have hix := fun W => Rd.ixN h ht hi hk W
  obtain ⟨b, o, c, rfl, hb, hc, hcell⟩ := Rd.form h (by omega)
  have hs : L[k]? = some L[k] := List.getElem?_eq_getElem hk
  have t0 := tabL_get L k _ hs 0 (by omega)
  have t1 := tabL_get L k _ hs 1 (by omega)
  have t2 := tabL_get L k _ hs 2 (by omega)
  refine ⟨b, o + k * 3, L[k], fun W => hix W, hcell _ _ t0, hcell _ _ t1, hcell _ _ t2, Lib.hid hs⟩
set_option maxRecDepth 100000 in
set_option maxHeartbeats 1000000 in
theorem RightR_any (v : Value) (L : List Sl) (sl g : Int) (r : Int) (hr : r = rightErr L sl g) (w : World) (h : Slots w v L) :
    Calls Tryz.prog 67 #[v, .agg #[.int .i64 sl, .int .i64 g]] w fun e w' => e = .returned (.int .i64 r) ∧ Below w.heap.size w w' := by
  have B : Below w.heap.size w w := Below.refl _ _
  have l1 := Rd.len h Tryz.underlying79
  obtain ⟨N, hN⟩ : ∃ N, N = L.length := ⟨_, rfl⟩
  rw [← hN] at l1
  by_cases hin : 0 ≤ sl ∧ sl < N
  · obtain ⟨h0, h1⟩ := hin
    obtain ⟨k, rfl⟩ := Int.eq_ofNat_of_zero_le h0
    obtain ⟨b, o, s, ia, m0, m1, m2, hs⟩ := h.at_ (P := Tryz.prog) Tryz.underlying79 size_slot (k := k) (by omega)
    have hgd : L.getD (k : Int).toNat .none = s := by simp [List.getD_eq_getElem?_getD, hs.out]
    have hrr : r = if s.used = true ∧ s.gen = g then 0 else 28 := by rw [hr, rightErr, if_pos (by omega), hgd]
    clear hr hgd hs
    have HN := Lib.hid hN; clear hN h
    obtain ⟨gn, us, a⟩ := s
    dsimp only at *
    have hcase : (us = false ∧ r = 28) ∨ (us = true ∧ (gn != g) = true ∧ r = 28) ∨ (us = true ∧ (gn != g) = false ∧ r = 0) := by
      cases us
      · exact .inl ⟨rfl, by rw [hrr, if_neg (by simp)]⟩
      · by_cases hg : gn = g
        · exact .inr (.inr ⟨rfl, by rw [bne_eq_false_iff_eq]; exact hg, by rw [hrr, if_pos ⟨rfl, hg⟩]⟩)
        · exact .inr (.inl ⟨rfl, by rw [bne_iff_ne]; exact hg, by rw [hrr, if_neg (fun h => hg h.2)]⟩)
    clear hrr
    have n0 : (0 : Int) ≤ (k : Int) := by omega
    rcases hcase with ⟨rfl, rfl⟩ | ⟨rfl, hne, rfl⟩ | ⟨rfl, hne, rfl⟩
    all_goals
      go_enter Tryz.func67, Tryz.ntmps67
      go_upto_region 1 with (fail)
      refine wp_gen (fun Wv => Bx Wv (w.heap.size) (24) (#[.int .i64 k, .int .i64 g]) ∧ Below w.heap.size w Wv) ⟨((Bx.at_ (by simp))), ((Below.refl _ w).alloc (by simp <;> omega) _)⟩ ?_
      rintro w' ⟨g3, b⟩
      replace m0 := cell_later b m0; replace m1 := cell_later b m1; replace m2 := cell_later b m2; replace B := B.trans (b.mono B.size); clear b
      have c_g3 := g3.cell; have f_g3 := g3.free; have a_g3 := fun o => (g3.alloc o).cell; have d_g3 := fun o o2 => ((g3.alloc o).alloc o2).cell; have e_g3 := fun o => (g3.alloc o).free
      go_wp2
      refine wp_region_calm (by kernel_rfl) (by kernel_rfl) ?_
      try clear c_g3 f_g3 a_g3 d_g3 e_g3
      have c_g3 := fun x : Fut _ => (g3.below x.h).cell
      have c_m0 := fun x : Fut _ => cell_later x.h m0
      have c_m1 := fun x : Fut _ => cell_later x.h m1
      have c_m2 := fun x : Fut _ => cell_later x.h m2
      repeat (go_big_quiet_step (fail))
      refine wpQuiet_nil ?_
      intro _ hw'
      obtain ⟨xq, hw''⟩ := hw'
      subst hw''
      clear c_m0; replace m0 := cell_later xq.h m0
      clear c_m1; replace m1 := cell_later xq.h m1
      clear c_m2; replace m2 := cell_later xq.h m2
      clear c_g3; replace g3 := g3.below xq.h; have c_g3 := g3.cell; have f_g3 := g3.free; have a_g3 := fun o => (g3.alloc o).cell; have d_g3 := fun o o2 => ((g3.alloc o).alloc o2).cell; have e_g3 := fun o => (g3.alloc o).free
      replace B := B.trans (xq.h.mono B.size)
      go_wp2
      go_ret
      exact ⟨rfl, B⟩
  · have hr0 : r = 2 := by rw [hr, rightErr, if_neg (by omega)]
    clear hr h hN
    subst hr0
    have hcase : sl < 0 ∨ 0 ≤ sl ∧ (N : Int) ≤ sl := by omega
    clear hin
    rcases hcase with hneg | ⟨hneg, hbig⟩
    all_goals
      go_enter Tryz.func67, Tryz.ntmps67
      go_upto_region 1 with (fail)
      refine wp_gen (fun Wv => Bx Wv (w.heap.size) (24) (#[.int .i64 sl, .int .i64 g]) ∧ Below w.heap.size w Wv) ⟨((Bx.at_ (by simp))), ((Below.refl _ w).alloc (by simp <;> omega) _)⟩ ?_
      rintro w' ⟨g3, b⟩
      replace B := B.trans (b.mono B.size); clear b
      have c_g3 := g3.cell; have f_g3 := g3.free; have a_g3 := fun o => (g3.alloc o).cell; have d_g3 := fun o o2 => ((g3.alloc o).alloc o2).cell; have e_g3 := fun o => (g3.alloc o).free
      go_wp2
      go_ret
      exact ⟨rfl, B⟩
def nextI (L : List Sl) : Int := match next L with | none => -1 | some k => (k : Int)
theorem nextFrom_drop {L : List Sl} {k : Nat} {s : Sl} (h : L[k]? = some s) : nextFrom (L.drop k) k = if s.used = false ∧ s.gen ≠ 2147483647 then some k else nextFrom (L.drop (k + 1)) (k + 1) := by
  obtain ⟨hk, rfl⟩ := List.getElem?_eq_some_iff.1 h
  rw [List.drop_eq_getElem_cons hk, nextFrom]
set_option maxRecDepth 100000 in
set_option maxHeartbeats 1000000 in
theorem NextR_any (v : Value) (L : List Sl) (r : Int) (hr : r = nextI L) (w : World) (h : Slots w v L) (hL : ∀ s ∈ L, s.gen ≤ 2147483647) :
    Calls Tryz.prog 57 #[v] w fun e w' => e = .returned (.int .i64 r) ∧ w = w' := by
  have l1 := Rd.len h Tryz.underlying79
  have l2 := Rd.len_le h
  obtain ⟨N, hN⟩ : ∃ N, N = L.length := ⟨_, rfl⟩
  rw [← hN] at l1 l2
  have HN := Lib.hid hN; have H := Lib.hid h; have HR := Lib.hid hr; have HL := Lib.hid hL; clear hN h hr hL
  go_enter Tryz.func57, Tryz.ntmps57
  go_wp2
  go_loop [3] (fun i => ∃ k : Nat, k ≤ N ∧ i = .int .i64 k ∧ Hid (nextFrom (L.drop k) k = next L)) (fun i => N - (intOf i).toNat)
  case atStart => exact ⟨0, Nat.zero_le _, rfl, Lib.hid rfl⟩
  case round =>
    obtain ⟨k, hk, rfl, hh⟩ := hrel
    by_cases hlt : k < N
    · obtain ⟨b, o, s, ia, c0, c1, c2, hs⟩ := H.out.at_ (P := Tryz.prog) Tryz.underlying79 size_slot (k := k) (by have := HN.out; omega)
      have hnf := nextFrom_drop hs.out
      have hg := HL.out s (List.mem_of_getElem? hs.out)
      rw [hh.out] at hnf
      obtain ⟨gn, us, a⟩ := s
      dsimp only at *
      have hcase : (us = true ∧ next L = nextFrom (L.drop (k + 1)) (k + 1)) ∨ (us = false ∧ ¬ gn < 2147483647 ∧ next L = nextFrom (L.drop (k + 1)) (k + 1)) ∨ (us = false ∧ gn < 2147483647 ∧ next L = some k) := by
        cases us
        · by_cases hg2 : gn = 2147483647
          · exact .inr (.inl ⟨rfl, by omega, by rw [hnf, if_neg (fun h => h.2 hg2)]⟩)
          · exact .inr (.inr ⟨rfl, by omega, by rw [hnf, if_pos ⟨rfl, hg2⟩]⟩)
        · exact .inl ⟨rfl, by rw [hnf, if_neg (fun h => by simp at h)]⟩
      clear hnf hh hs
      rcases hcase with ⟨rfl, hx⟩ | ⟨rfl, hg2, hx⟩ | ⟨rfl, hg2, hx⟩
      · have HX := Lib.hid hx; clear hx
        go_wp2
        go_round
        case rel => exact ⟨k + 1, by omega, by go_num, Lib.hid HX.out.symm⟩
        case measure => simp [intOf]; omega
      · have HX := Lib.hid hx; clear hx
        go_wp2
        go_round
        case rel => exact ⟨k + 1, by omega, by go_num, Lib.hid HX.out.symm⟩
        case measure => simp [intOf]; omega
      · have HX := Lib.hid hx; clear hx
        go_wp2
        go_ret
        exact ⟨ret_int (by rw [HR.out, nextI, HX.out]), rfl⟩
    · obtain rfl : k = N := by omega
      go_wp2
      go_ret
      exact ⟨ret_int (by rw [HR.out, nextI, ← hh.out, List.drop_of_length_le (by have := HN.out; omega)]; rfl), rfl⟩
end Go.Proofs.YtbfmdbeeiicabaaGreat
namespace Go.Proofs.YtbfmdbeeiicabaaGreat
open Go.RowKit L01 L02 L18
theorem info_slot : (Tryz.prog.info? 83).map (fun i => (i.zero, i.size, i.bytes)) = some (some (.agg #[.int .i64 0, .bool false, .int .i64 0]), 3, 24) := by kernel_rfl
theorem lit_slot {w : World} {e : TypeId} {n : Nat} (s : Sl) (hn : w.heap.size = n) : Rd (w.alloc (.cells #[.int .i64 s.gen, .bool s.used, .int .i64 s.at_] e)) 3 (.slice (some ⟨n, 0, none⟩) 1 1) 1 (slC s) := by
  subst hn; exact lit_rdK (n := 1) (sz := 3) rfl (by omega)
theorem slC_one (s : Sl) : ∀ u ∈ slC s, u.oneCell' = true := by
  intro u hu
  simp [slC] at hu
  rcases hu with rfl | rfl | rfl <;> rfl
theorem OwnS.of {w : World} {B E n : Nat} {v : Value} {xs : List Value} {L : List Sl} (h : w.ownsRow B E 3 v n xs) (hx : xs = tabL L) : OwnS w B E v L := by
  subst hx
  have hn : n = L.length := by have := h.1; rw [tabL_len] at this; omega
  subst hn; exact h
theorem tabL_snoc (L : List Sl) (s : Sl) : tabL L ++ slC s = tabL (L ++ [s]) := by simp [tabL, List.flatMap_append]
set_option maxRecDepth 100000 in
set_option maxHeartbeats 1000000 in
theorem ToldR_any (v : Value) (l : List UInt64) (hs : SizeOk l.length) (L : List Sl) (r : Bool) (hL : L = all l) (hr : r = decide (openErr l = 0)) (w : World) (h : Words w v l) :
    Calls Tryz.prog 90 #[v] w fun e w' => ∃ x, e = .returned (.tuple #[x, .bool r]) ∧ OwnS w' w.heap.size 83 x L ∧ Below w.heap.size w w' := by
  have B : Below w.heap.size w w := Below.refl _ _
  have H := Lib.hid h; have HS := Lib.hid hs; have HL := Lib.hid hL; have HR := Lib.hid hr
  have hlen := hs.1
  clear h hs hL hr
  go_enter Tryz.func90, Tryz.ntmps90
  go_wp2
  have HB := Lib.hid B; clear B
  go_loopw [4, 5] (fun xv i wr => ∃ k : Nat, k ≤ 16 ∧ i = .int .i64 k ∧ Hid (OwnS wr w.heap.size 83 xv ((slots l).take k) ∧ ∀ x ∈ (ws l).take k, Right (spl x)) ∧ Below w.heap.size w wr) (fun _ i _ => 16 - (intOf i).toNat)
  case atStart => exact ⟨0, by omega, rfl, Lib.hid ⟨OwnS.nil _ _ _, by simp⟩, HB.out⟩
  case round =>
    obtain ⟨k, hk, rfl, hh, B⟩ := hrel
    by_cases hlt : k < 16
    · obtain ⟨ad, x, ia, ca, hx⟩ := (H.out.below B).atI Tryz.underlying22 one_u64 (k := 112 + (k : Int)) (by omega) (by omega)
      have hx' : (ws l)[k]? = some x := ws_get hlt (by have := hx.out; rwa [show (112 + (k : Int)).toNat = 112 + k by omega] at this)
      have HX := Lib.hid hx'; clear hx hx'
      by_cases hr : Right (spl x)
      · have SP := SplitR_r x (spl x) 0 (by rw [spl0, if_pos hr]) (by rw [splErr, if_pos hr])
        obtain ⟨s, hs⟩ : ∃ s, s = spl x := ⟨_, rfl⟩
        rw [← hs] at SP
        have HSP := Lib.hid SP; have HRR := Lib.hid hr; have HSX := Lib.hid hs; clear SP hr hs
        go_wp2_with fail
        refine (HSP.out _).mono ?_
        rintro e w2 ⟨rfl, b⟩
        have o := hh.out.1.below b
        replace B := B.trans (b.mono B.size)
        have HO := Lib.hid o; have HBB := Lib.hid B; clear b o B
        have hlk : ((slots l).take k).length ≤ 16 := by have := List.length_take_le k (slots l); omega
        go_wp2_with (at_builtin; refine wpList_append (by rfl) rfl rfl rfl Tryz.underlying79 info_slot rfl (by omega) (by exact own_below HO.out (((Below.refl _ _).alloc (Nat.le_refl _) _).alloc (by simp) _)) (by exact lit_slot s (by simp)) (slC_one s) (by omega) (by omega) (by exact (HBB.out.alloc HBB.out.size _).alloc (by have := HBB.out.size; simp; omega) _) (Nat.le_refl _) ?_; intro v1 w3 o3 B3 g3; clear g3)
        have hgS : (slots l)[k]? = some s := by rw [slots, List.getElem?_map, HX.out, HSX.out]; rfl
        have o4 : OwnS w3 w.heap.size 83 v1 ((slots l).take (k + 1)) := OwnS.of o3 (by rw [tabL_snoc, List.take_add_one, hgS]; rfl)
        have HO4 := Lib.hid o4; have HB3 := Lib.hid B3; clear o3 o4 B3 hgS
        go_roundw
        case rel => exact ⟨k + 1, by omega, by go_num, Lib.hid ⟨HO4.out, right_take hh.out.2 HX.out HRR.out⟩, HB3.out⟩
        case measure => simp [intOf]; omega
      · have SP := SplitR_r x .none 50 (by rw [spl0, if_neg hr]) (by rw [splErr, if_neg hr])
        have he := openErr_no HS.out HX.out hr
        have HSP := Lib.hid SP; have HE := Lib.hid he; clear SP hr he
        go_wp2_with fail
        refine (HSP.out _).mono ?_
        rintro e w2 ⟨rfl, b⟩
        replace B := B.trans (b.mono B.size); clear b
        go_wp2
        go_ret2
        have hr1 : r = false := by rw [HR.out, decide_eq_false (by rw [HE.out]; omega)]
        subst hr1
        refine ⟨_, rfl, ?_, B.alloc B.size _⟩
        rw [HL.out, all_nil (by rw [HE.out]; omega)]; exact OwnS.nil _ _ _
    · obtain rfl : k = 16 := by omega
      have he := openErr_of HS.out hh.out.2
      have HE := Lib.hid he; clear he
      go_wp2
      go_ret2
      have hr1 : r = true := by rw [HR.out, decide_eq_true HE.out]
      subst hr1
      refine ⟨_, rfl, ?_, B⟩
      have := hh.out.1
      rw [List.take_of_length_le (by rw [slots16 HE.out]; omega)] at this
      rw [HL.out, all_ok HE.out]; exact this
set_option maxRecDepth 100000 in
set_option maxHeartbeats 1000000 in
theorem AllR_any (v : Value) (l : List UInt64) (L : List Sl) (r : Int) (hL : L = all l) (hr : r = openErr l) (w : World) (h : Words w v l) :
    Calls Tryz.prog 81 #[v] w fun e w' => ∃ x E, e = .returned (.tuple #[x, .int .i64 r]) ∧ OwnS w' w.heap.size E x L ∧ Below w.heap.size w w' := by
  have B : Below w.heap.size w w := Below.refl _ _
  have CT := fun w h => CheckR_any v l w h
  by_cases hs : SizeOk l.length
  · rw [chk_ok hs] at CT
    by_cases h0 : openErr l = 0
    · have TT := fun w h => ToldR_any v l hs L true hL (by rw [decide_eq_true h0]) w h
      have HC := Lib.hid CT; have HT := Lib.hid TT; have H := Lib.hid h
      rw [h0] at hr
      subst hr
      clear CT TT h h0 hL hs
      go_enter Tryz.func81, Tryz.ntmps81
      go_wp2_with fail
      refine (HC.out _ H.out).mono ?_
      rintro e w1 ⟨rfl, rfl⟩
      go_wp2_with fail
      refine (HT.out _ H.out).mono ?_
      rintro e w1 ⟨x, rfl, o, b⟩
      go_wp2
      go_ret2
      exact ⟨x, _, rfl, o, b⟩
    · have h50 : openErr l = 50 := by
        unfold openErr at h0 ⊢
        rw [if_pos hs] at h0 ⊢
        split <;> simp_all
      have TT := fun w h => ToldR_any v l hs L false hL (by rw [decide_eq_false h0]) w h
      have HC := Lib.hid CT; have HT := Lib.hid TT; have H := Lib.hid h
      rw [h50] at hr
      have hL0 := hL.trans (all_nil h0)
      subst hr hL0
      clear CT TT h h0 hL hs h50
      go_enter Tryz.func81, Tryz.ntmps81
      go_wp2_with fail
      refine (HC.out _ H.out).mono ?_
      rintro e w1 ⟨rfl, rfl⟩
      go_wp2_with fail
      refine (HT.out _ H.out).mono ?_
      rintro e w1 ⟨x, rfl, o, b⟩
      go_wp2
      go_ret2
      exact ⟨_, 0, rfl, OwnS.nil _ _ _, b⟩
  · have h8 : openErr l = 8 := by rw [openErr, if_neg hs]
    rw [chk_no hs] at CT
    have HC := Lib.hid CT; have H := Lib.hid h
    have hL0 := hL.trans (all_nil (by rw [h8]; omega))
    rw [h8] at hr
    subst hr hL0
    clear CT h hL hs h8
    go_enter Tryz.func81, Tryz.ntmps81
    go_wp2_with fail
    refine (HC.out _ H.out).mono ?_
    rintro e w1 ⟨rfl, rfl⟩
    go_wp2
    go_ret2
    exact ⟨_, 0, rfl, OwnS.nil _ _ _, B⟩
set_option maxRecDepth 100000 in
set_option maxHeartbeats 1000000 in
theorem ResolveR_any (v : Value) (l : List UInt64) (sl g : Int) (x r : Int) (hx : x = res l sl g) (hr : r = resErr l sl g) (w : World) (h : Words w v l) :
    Calls Tryz.prog 46 #[v, .agg #[.int .i64 sl, .int .i64 g]] w fun e w' => e = .returned (.tuple #[.int .i64 x, .int .i64 r]) ∧ Below w.heap.size w w' := by
  have B : Below w.heap.size w w := Below.refl _ _
  obtain ⟨L, hL⟩ : ∃ L, L = all l := ⟨_, rfl⟩
  obtain ⟨oe, hoe⟩ : ∃ oe, oe = openErr l := ⟨_, rfl⟩
  have AT := fun w h => AllR_any v l L oe hL hoe w h
  have HAT := Lib.hid AT; have H := Lib.hid h; clear AT h
  by_cases h0 : openErr l = 0
  · have hr0 : r = rightErr L sl g := by rw [hr, resErr, if_pos h0, hL, all_ok h0]
    have RT := fun v w h => RightR_any v L sl g r hr0 w h
    have HRT := Lib.hid RT; clear RT
    rw [h0] at hoe
    subst hoe
    by_cases hrr : r = 0
    · obtain ⟨p1, p2, s, p3, p4, p5⟩ := rightErr_ok (hr0.symm.trans hrr)
      obtain ⟨k, rfl⟩ := Int.eq_ofNat_of_zero_le p1
      have hx0 : x = s.at_ := by
        rw [hx, res, if_pos (by rw [← hr]; exact hrr), ← all_ok h0, ← hL]
        simp at p3
        simp [List.getD_eq_getElem?_getD, p3]
      have hk : k < L.length := by omega
      simp only [Int.toNat_natCast] at p3
      have HP := Lib.hid p3
      clear hx hr h0 hr0 p4 p5 hL p2 p3
      subst hrr hx0
      go_enter Tryz.func46, Tryz.ntmps46
      go_upto_region 1 with (fail)
      refine wp_gen (fun Wv => Bx Wv (w.heap.size) (24) (#[.int .i64 k, .int .i64 g]) ∧ Below w.heap.size w Wv) ⟨((Bx.at_ (by simp))), ((Below.refl _ w).alloc (by simp <;> omega) _)⟩ ?_
      rintro w' ⟨g1, b⟩
      replace B := B.trans (b.mono B.size); clear b
      have c_g1 := g1.cell; have f_g1 := g1.free; have a_g1 := fun o => (g1.alloc o).cell; have d_g1 := fun o o2 => ((g1.alloc o).alloc o2).cell; have e_g1 := fun o => (g1.alloc o).free
      go_wp2_with fail
      refine (HAT.out _ (H.out.below B)).mono ?_
      rintro e w' ⟨xv, E, rfl, r1, b⟩
      try clear c_g1 f_g1 a_g1 d_g1 e_g1
      replace g1 := g1.below b; have c_g1 := g1.cell; have f_g1 := g1.free; have a_g1 := fun o => (g1.alloc o).cell; have d_g1 := fun o o2 => ((g1.alloc o).alloc o2).cell; have e_g1 := fun o => (g1.alloc o).free; replace B := B.trans (b.mono B.size); clear b
      go_wp2_with fail
      refine (HRT.out _ _ r1.rd).mono ?_
      rintro e w' ⟨rfl, b⟩
      try clear c_g1 f_g1 a_g1 d_g1 e_g1
      replace g1 := g1.below b; have c_g1 := g1.cell; have f_g1 := g1.free; have a_g1 := fun o => (g1.alloc o).cell; have d_g1 := fun o o2 => ((g1.alloc o).alloc o2).cell; have e_g1 := fun o => (g1.alloc o).free; replace r1 := r1.below b; replace B := B.trans (b.mono B.size); clear b
      obtain ⟨b, o, t, ia, c0, c1, c2, ht⟩ := r1.rd.at_ (P := Tryz.prog) Tryz.underlying79 size_slot (k := k) hk
      have hts : t = s := by have h1 := ht.out; rw [HP.out] at h1; injection h1 with h1; exact h1.symm
      subst hts
      have n0 : (0 : Int) ≤ (k : Int) := by omega
      go_wp2
      go_ret2
      exact ⟨rfl, B⟩
    · have hne : (r != 0) = true := by rw [bne_iff_ne]; exact hrr
      have hx0 : x = 0 := by rw [hx, res, if_neg (by rw [← hr]; exact hrr)]
      clear hx hr h0 hr0 hrr hL
      subst hx0
      go_enter Tryz.func46, Tryz.ntmps46
      go_upto_region 1 with (fail)
      refine wp_gen (fun Wv => Bx Wv (w.heap.size) (24) (#[.int .i64 sl, .int .i64 g]) ∧ Below w.heap.size w Wv) ⟨((Bx.at_ (by simp))), ((Below.refl _ w).alloc (by simp <;> omega) _)⟩ ?_
      rintro w' ⟨g1, b⟩
      replace B := B.trans (b.mono B.size); clear b
      have c_g1 := g1.cell; have f_g1 := g1.free; have a_g1 := fun o => (g1.alloc o).cell; have d_g1 := fun o o2 => ((g1.alloc o).alloc o2).cell; have e_g1 := fun o => (g1.alloc o).free
      go_wp2_with fail
      refine (HAT.out _ (H.out.below B)).mono ?_
      rintro e w' ⟨xv, E, rfl, r1, b⟩
      try clear c_g1 f_g1 a_g1 d_g1 e_g1
      replace g1 := g1.below b; have c_g1 := g1.cell; have f_g1 := g1.free; have a_g1 := fun o => (g1.alloc o).cell; have d_g1 := fun o o2 => ((g1.alloc o).alloc o2).cell; have e_g1 := fun o => (g1.alloc o).free; replace B := B.trans (b.mono B.size); clear b
      go_wp2_with fail
      refine (HRT.out _ _ r1.rd).mono ?_
      rintro e w' ⟨rfl, b⟩
      try clear c_g1 f_g1 a_g1 d_g1 e_g1
      replace g1 := g1.below b; have c_g1 := g1.cell; have f_g1 := g1.free; have a_g1 := fun o => (g1.alloc o).cell; have d_g1 := fun o o2 => ((g1.alloc o).alloc o2).cell; have e_g1 := fun o => (g1.alloc o).free; replace r1 := r1.below b; replace B := B.trans (b.mono B.size); clear b
      go_wp2
      go_ret2
      exact ⟨rfl, B⟩
  · have hne : (oe != 0) = true := by rw [bne_iff_ne, hoe]; exact h0
    have hr0 : r = oe := by rw [hr, resErr, if_neg h0, hoe]
    have hx0 : x = 0 := by rw [hx, res, resErr, if_neg h0, if_neg h0]
    clear hr h0 hx hoe hL
    subst hr0 hx0
    go_enter Tryz.func46, Tryz.ntmps46
    go_upto_region 1 with (fail)
    refine wp_gen (fun Wv => Bx Wv (w.heap.size) (24) (#[.int .i64 sl, .int .i64 g]) ∧ Below w.heap.size w Wv) ⟨((Bx.at_ (by simp))), ((Below.refl _ w).alloc (by simp <;> omega) _)⟩ ?_
    rintro w' ⟨g1, b⟩
    replace B := B.trans (b.mono B.size); clear b
    have c_g1 := g1.cell; have f_g1 := g1.free; have a_g1 := fun o => (g1.alloc o).cell; have d_g1 := fun o o2 => ((g1.alloc o).alloc o2).cell; have e_g1 := fun o => (g1.alloc o).free
    go_wp2_with fail
    refine (HAT.out _ (H.out.below B)).mono ?_
    rintro e w' ⟨xv, E, rfl, r1, b⟩
    try clear c_g1 f_g1 a_g1 d_g1 e_g1
    replace g1 := g1.below b; have c_g1 := g1.cell; have f_g1 := g1.free; have a_g1 := fun o => (g1.alloc o).cell; have d_g1 := fun o o2 => ((g1.alloc o).alloc o2).cell; have e_g1 := fun o => (g1.alloc o).free; replace B := B.trans (b.mono B.size); clear b
    go_wp2
    go_ret2
    exact ⟨rfl, B⟩
end Go.Proofs.YtbfmdbeeiicabaaGreat
namespace Go.Proofs.YtbfmdbeeiicabaaGreat.L06
open L02 L05
def SupOk (W T : Int) : Prop := SizeOk W ∧ 0 ≤ T ∧ T ≤ 8
instance (W T : Int) : Decidable (SupOk W T) := inferInstanceAs (Decidable (SizeOk W ∧ 0 ≤ T ∧ T ≤ 8))
def supErr (W T : Int) : Int := if SupOk W T then 0 else 8
def magic : UInt64 := 32777959566500194
def u (n : Int) : UInt64 := UInt64.ofNat n.toNat
def body (W T : Int) : List UInt64 := [magic, 1, u W, u T, 0, 0, 0]
def wordsOf (W T : Int) : List UInt64 := body W T ++ [sum (body W T)]
def write (W T : Int) : List UInt64 := if SupOk W T then wordsOf W T else []
def at2 (l : List UInt64) : Int := (l.getD 2 0).toNat
def at3 (l : List UInt64) : Int := (l.getD 3 0).toNat
def ReadOk (l : List UInt64) : Prop := SupOk (at2 l) (at3 l) ∧ l = wordsOf (at2 l) (at3 l)
instance (l : List UInt64) : Decidable (ReadOk l) := inferInstanceAs (Decidable (SupOk (at2 l) (at3 l) ∧ l = wordsOf (at2 l) (at3 l)))
def rdW (l : List UInt64) : Int := if ReadOk l then at2 l else 0
def rdT (l : List UInt64) : Int := if ReadOk l then at3 l else 0
def rdErr (l : List UInt64) : Int := if l.length = 8 then (if ReadOk l then 0 else 50) else 2
theorem u_nat {n : Int} (h0 : 0 ≤ n) (h1 : n < 18446744073709551616) : ((u n).toNat : Int) = n := by
  unfold u; rw [UInt64.toNat_ofNat', Nat.mod_eq_of_lt (by omega)]; omega
theorem readOk_len {l : List UInt64} (h : ReadOk l) : l.length = 8 := by rw [h.2]; rfl
theorem rd_no {l : List UInt64} (h : ¬ ReadOk l) : rdW l = 0 ∧ rdT l = 0 := ⟨if_neg h, if_neg h⟩
/-! ### the sum tells one byte -/
def inv : UInt64 := 14886173955864302971
end Go.Proofs.YtbfmdbeeiicabaaGreat.L06
namespace Go.Proofs.YtbfmdbeeiicabaaGreat.L07
open L02 L05 L06
def c0 (m : List UInt64) : List UInt64 := m.take 8
def c1 (m : List UInt64) : List UInt64 := (m.drop 8).take 8
def CopyOk (n : Nat) (l : List UInt64) : Prop := ReadOk l ∧ at2 l = (n : Int)
instance (n : Nat) (l : List UInt64) : Decidable (CopyOk n l) := inferInstanceAs (Decidable (ReadOk l ∧ at2 l = (n : Int)))
def is0 (m : List UInt64) : Bool := decide (SizeOk m.length ∧ CopyOk m.length (c0 m))
def is1 (m : List UInt64) : Bool := decide (SizeOk m.length ∧ CopyOk m.length (c1 m))
def rErr (m : List UInt64) : Int := if SizeOk m.length then (if is0 m = true ∨ is1 m = true then 0 else 50) else 8
/-- the copy that counts -/
def one (m : List UInt64) : List UInt64 := if is0 m = true then c0 m else c1 m
def sW (m : List UInt64) : Int := if rErr m = 0 then (m.length : Int) else 0
def sT (m : List UInt64) : Int := if rErr m = 0 then at3 (one m) else 0
def view (m : List UInt64) : List UInt64 := if rErr m = 0 then one m ++ (one m ++ m.drop 16) else []
def heals (m : List UInt64) : List (Int × UInt64) := if rErr m = 0 then (diffs m (view m)).map fun i => (i, (view m).getD i.toNat 0) else []
theorem c0_len {m : List UInt64} (h : SizeOk m.length) : (c0 m).length = 8 := by have := h.1; simp [c0]; omega
theorem c1_len {m : List UInt64} (h : SizeOk m.length) : (c1 m).length = 8 := by have := h.1; simp [c1]; omega
theorem rErr_ok {m : List UInt64} (h : rErr m = 0) : SizeOk m.length ∧ (is0 m = true ∨ is1 m = true) := by
  unfold rErr at h
  split at h
  · split at h
    · exact ⟨‹_›, ‹_›⟩
    · omega
  · omega
theorem rErr_mk {m : List UInt64} (h : SizeOk m.length) (h1 : is0 m = true ∨ is1 m = true) : rErr m = 0 := by rw [rErr, if_pos h, if_pos h1]
theorem rErr_no {m : List UInt64} (h : ¬ SizeOk m.length) : rErr m = 8 := if_neg h
theorem rErr_50 {m : List UInt64} (h : SizeOk m.length) (h0 : is0 m = false) (h1 : is1 m = false) : rErr m = 50 := by rw [rErr, if_pos h, if_neg (by simp [h0, h1])]
theorem is0_no {m : List UInt64} (h : ¬ SizeOk m.length) : is0 m = false := decide_eq_false (fun x => h x.1)
theorem is1_no {m : List UInt64} (h : ¬ SizeOk m.length) : is1 m = false := decide_eq_false (fun x => h x.1)
theorem is0_good {m : List UInt64} (h : SizeOk m.length) : is0 m = decide (CopyOk m.length (c0 m)) := by simp [is0, h]
theorem is1_good {m : List UInt64} (h : SizeOk m.length) : is1 m = decide (CopyOk m.length (c1 m)) := by simp [is1, h]
theorem one_good {m : List UInt64} (h : rErr m = 0) : CopyOk m.length (one m) := by
  obtain ⟨_, h1⟩ := rErr_ok h
  unfold one
  split
  · rename_i h0; exact (of_decide_eq_true h0).2
  · rename_i h0
    exact (of_decide_eq_true (h1.resolve_left h0)).2
theorem one_len {m : List UInt64} (h : rErr m = 0) : (one m).length = 8 := readOk_len (one_good h).1
/-- the copy that counts is what Write writes -/
theorem one_words {m : List UInt64} (h : rErr m = 0) : one m = wordsOf (sW m) (sT m) ∧ SupOk (sW m) (sT m) := by
  have hg := one_good h
  have e1 : sW m = at2 (one m) := by rw [sW, if_pos h, hg.2]
  have e2 : sT m = at3 (one m) := if_pos h
  rw [e1, e2]
  exact ⟨hg.1.2, hg.1.1⟩
theorem view_ok {m : List UInt64} (h : rErr m = 0) : view m = one m ++ (one m ++ m.drop 16) := if_pos h
theorem view_len {m : List UInt64} (h : rErr m = 0) : (view m).length = m.length := by
  have := (rErr_ok h).1.1
  rw [view_ok h]; simp [one_len h]; omega
section
variable {m a b : List UInt64}
end
/-- differences -/
theorem diffsTo_mem {a b : List UInt64} {k : Nat} {x : Int} (h : x ∈ diffsTo a b k) : ∃ i : Nat, x = (i : Int) ∧ i < k ∧ a[i]? ≠ b[i]? := by
  unfold diffsTo at h
  obtain ⟨i, hi, rfl⟩ := List.mem_map.1 h
  obtain ⟨h1, h2⟩ := List.mem_filter.1 hi
  exact ⟨i, rfl, List.mem_range.1 h1, of_decide_eq_true h2⟩
theorem diffsTo_more {a b : List UInt64} {n : Nat} (h : ∀ i, n ≤ i → a[i]? = b[i]?) : ∀ k, n ≤ k → diffsTo a b k = diffsTo a b n
  | 0, h0 => by rw [Nat.le_zero.1 h0]
  | k + 1, h0 => by
    by_cases hk : n = k + 1
    · rw [hk]
    · rw [diffsTo_succ, diffsTo_more h k (by omega), if_neg (by simp [h k (by omega)]), List.append_nil]
theorem diffsTo_congr {a b a' b' : List UInt64} {k : Nat} (h1 : ∀ i, i < k → a[i]? = a'[i]?) (h2 : ∀ i, i < k → b[i]? = b'[i]?) : diffsTo a b k = diffsTo a' b' k := by
  unfold diffsTo
  congr 1
  apply List.filter_congr
  intro i hi
  rw [h1 i (List.mem_range.1 hi), h2 i (List.mem_range.1 hi)]
section
variable {m : List UInt64}
theorem diff_ok (h : rErr m = 0) : diffErr m (view m) = 0 ∧ diffs m (view m) = diffsTo m (view m) m.length := by
  have h1 := (rErr_ok h).1
  have h2 := view_len h
  have e : diffErr m (view m) = 0 := by rw [diffErr, if_pos ⟨h1, by rw [h2]; exact h1⟩, if_pos h2.symm]
  exact ⟨e, if_pos e⟩
/-- behind the copies all is as it was -/
theorem view_far (h : rErr m = 0) {i : Nat} (hi : 16 ≤ i) : m[i]? = (view m)[i]? := by
  rw [view_ok h, List.getElem?_append_right (by rw [one_len h]; omega), List.getElem?_append_right (by rw [one_len h]; omega), List.getElem?_drop, one_len h]
  congr 1; omega
theorem heals_to (h : rErr m = 0) : heals m = (diffsTo m (view m) 16).map fun i => (i, (view m).getD i.toNat 0) := by
  have := (rErr_ok h).1.1
  rw [heals, if_pos h, (diff_ok h).2, diffsTo_more (fun i hi => view_far h hi) m.length (by omega)]
/-- TwinApart -/
theorem apart {k : Nat} (hk : 16 ≤ k) (x : UInt64) : rErr (m.set k x) = rErr m ∧ is0 (m.set k x) = is0 m ∧ is1 (m.set k x) = is1 m ∧ sW (m.set k x) = sW m ∧ sT (m.set k x) = sT m ∧ heals (m.set k x) = heals m := by
  have e0 : c0 (m.set k x) = c0 m := by rw [c0, List.take_set_of_le (by omega)]; rfl
  have e1 : c1 (m.set k x) = c1 m := by rw [c1, List.drop_set, if_neg (by omega), List.take_set_of_le (by omega)]; rfl
  have i0 : is0 (m.set k x) = is0 m := by unfold is0; rw [e0, List.length_set]
  have i1 : is1 (m.set k x) = is1 m := by unfold is1; rw [e1, List.length_set]
  have r : rErr (m.set k x) = rErr m := by unfold rErr; rw [i0, i1, List.length_set]
  have o : one (m.set k x) = one m := by unfold one; rw [i0, e0, e1]
  refine ⟨r, i0, i1, by unfold sW; rw [r, List.length_set], by unfold sT; rw [r, o], ?_⟩
  by_cases h : rErr m = 0
  · have h' : rErr (m.set k x) = 0 := r.trans h
    have ev : ∀ i, i < 16 → (view (m.set k x))[i]? = (view m)[i]? := fun i hi => by
      rw [view_ok h, view_ok h', o, ← List.append_assoc, ← List.append_assoc, List.getElem?_append_left (l₁ := one m ++ one m) (by simp [one_len h]; omega), List.getElem?_append_left (l₁ := one m ++ one m) (by simp [one_len h]; omega)]
    rw [heals_to h, heals_to h', diffsTo_congr (a' := m) (b' := view m) (fun i hi => by rw [List.getElem?_set_ne (by omega)]) ev]
    apply List.map_congr_left
    intro y hy
    obtain ⟨i, rfl, hi, _⟩ := diffsTo_mem hy
    simp only [Int.toNat_natCast, List.getD_eq_getElem?_getD, ev i hi]
  · rw [heals, if_neg (by rw [r]; exact h), heals, if_neg h]
end
/-- an image of zeros with a superblock in both copies -/
def made (W T : Int) : List UInt64 := wordsOf W T ++ (wordsOf W T ++ List.replicate (W.toNat - 16) 0)
end Go.Proofs.YtbfmdbeeiicabaaGreat.L07
namespace Go.Proofs.YtbfmdbeeiicabaaGreat.L18
open L02
theorem size_of {l : List UInt64} (h : openErr l = 0) : SizeOk l.length := by
  unfold openErr at h
  split at h
  · assumption
  · omega
theorem allR_of {l : List UInt64} (h : openErr l = 0) : AllR l := by
  unfold openErr at h
  split at h
  · split at h
    · assumption
    · omega
  · omega
theorem slots_len' {l : List UInt64} (h : openErr l = 0) : (slots l).length = 16 := by
  have := (size_of h).1
  simp [slots, ws]; omega
theorem resErr_ok {l : List UInt64} {sl g : Int} (h : resErr l sl g = 0) : openErr l = 0 ∧ ∃ (k : Nat) (s : Sl), k < 16 ∧ sl = (k : Int) ∧ (slots l)[k]? = some s ∧ s.used = true ∧ s.gen = g ∧ Right s ∧ res l sl g = s.at_ := by
  have hr := h
  unfold resErr at h
  split at h
  · rename_i h0
    unfold rightErr at h
    rw [slots_len' h0] at h
    split at h
    · rename_i h1
      split at h
      · rename_i h2
        obtain ⟨k, rfl⟩ := Int.eq_ofNat_of_zero_le h1.1
        have hk : k < 16 := by omega
        have hs : (slots l)[k]? = some ((slots l)[k]'(by rw [slots_len' h0]; exact hk)) := List.getElem?_eq_getElem _
        have hgd : (slots l).getD (k : Int).toNat .none = (slots l)[k]'(by rw [slots_len' h0]; exact hk) := by simp [List.getD_eq_getElem?_getD, hs]
        rw [hgd] at h2
        refine ⟨h0, k, _, hk, rfl, hs, h2.1, h2.2, ?_, by rw [res, if_pos hr, hgd]⟩
        obtain ⟨x, hx, hxs⟩ := List.mem_map.1 (List.mem_of_getElem? hs)
        rw [← hxs]; exact allR_of h0 x hx
      · omega
    · omega
  · rename_i h0; exact absurd h h0
end Go.Proofs.YtbfmdbeeiicabaaGreat.L18
namespace Go.Proofs.YtbfmdbeeiicabaaGreat.L20
open L02 L13 L18
structure Ob where
  ty : Int
  fs : List UInt64
deriving DecidableEq
structure Mo where
  types : List (List UInt8)
  objs : List Ob
  slots : List Sl
deriving DecidableEq
def Mo.nil : Mo := ⟨[], [], []⟩
def no : UInt64 := 9221120237041090561
def FloatOk (v : UInt64) : Prop := v.toNat = 9221120237041090561 ∨ v.toNat % 9223372036854775808 ≤ 9218868437227405312
instance (v : UInt64) : Decidable (FloatOk v) := inferInstanceAs (Decidable (_ ∨ _))
/-- a field of the kind k may hold v, with n objects -/
def FdOk (n : Nat) (k : UInt8) (v : UInt64) : Prop := (k.toNat = 2 → FloatOk v) ∧ (k.toNat = 3 → v.toNat ≤ n)
instance (n : Nat) (k : UInt8) (v : UInt64) : Decidable (FdOk n k v) := inferInstanceAs (Decidable (_ ∧ _))
def ty (T : List (List UInt8)) (o : Ob) : List UInt8 := T.getD o.ty.toNat []
def ObOk (T : List (List UInt8)) (n : Nat) (o : Ob) : Prop := (0 ≤ o.ty ∧ o.ty < T.length) ∧ o.fs.length = (ty T o).length ∧ ∀ i, i < o.fs.length → FdOk n ((ty T o).getD i 0) (o.fs.getD i 0)
instance (T : List (List UInt8)) (n : Nat) (o : Ob) : Decidable (ObOk T n o) := inferInstanceAs (Decidable (_ ∧ _ ∧ ∀ i, i < o.fs.length → _))
def SlOk (n : Nat) (s : Sl) : Prop := (0 ≤ s.gen ∧ s.gen ≤ 2147483647) ∧ (s.used = false → s.at_ = 0) ∧ (s.used = true → 0 < s.gen ∧ 0 ≤ s.at_ ∧ s.at_ < n)
instance (n : Nat) (s : Sl) : Decidable (SlOk n s) := inferInstanceAs (Decidable (_ ∧ _ ∧ _))
def MoOk (m : Mo) : Prop := m.slots.length = 16 ∧ (∀ t ∈ m.types, kErr t = 0) ∧ (∀ o ∈ m.objs, ObOk m.types m.objs.length o) ∧ ∀ s ∈ m.slots, SlOk m.objs.length s
instance (m : Mo) : Decidable (MoOk m) := inferInstanceAs (Decidable (_ ∧ _ ∧ _ ∧ _))
def chk (m : Mo) : Int := if 8 < m.types.length ∨ 960 < m.objs.length then 4 else if MoOk m then 0 else 8
/-- more than the statements consider -/
def Great (m : Mo) : Prop := (40 < m.objs.length ∧ m.objs.length < 960) ∨ 962 < m.objs.length ∨ 20 < m.types.length ∨ 30 < m.slots.length ∨ (∃ t ∈ m.types, 20 < t.length) ∨ ∃ o ∈ m.objs, 20 < o.fs.length
instance (m : Mo) : Decidable (Great m) := inferInstanceAs (Decidable (_ ∨ _ ∨ _ ∨ _ ∨ _ ∨ _))
def asked (m : Mo) (sl g : Int) : Int := if chk m = 0 then rightErr m.slots sl g else chk m
def own (m : Mo) (sl : Int) : Nat := (m.slots.getD sl.toNat .none).at_.toNat
def ob (m : Mo) (k : Nat) : Ob := m.objs.getD k ⟨0, []⟩
def kinds (m : Mo) (sl : Int) : List UInt8 := ty m.types (ob m (own m sl))
/-- the error of a field -/
def kErrF (m : Mo) (sl g n : Int) : Int := if asked m sl g = 0 then (if 0 ≤ n ∧ n < (kinds m sl).length then 0 else 2) else asked m sl g
def kind (m : Mo) (sl g n : Int) : UInt8 := if kErrF m sl g n = 0 then (kinds m sl).getD n.toNat 0 else 0
def putF (m : Mo) (k i : Nat) (x : UInt64) : Mo := ⟨m.types, m.objs.set k ⟨(ob m k).ty, (ob m k).fs.set i x⟩, m.slots⟩
def put (m : Mo) (sl n : Int) (x : UInt64) : Mo := putF m (own m sl) n.toNat x
def setV (k : UInt8) (x : UInt64) : UInt64 := if k.toNat = 2 ∧ ¬ FloatOk x then no else x
theorem chk_ok {m : Mo} (h : chk m = 0) : m.types.length ≤ 8 ∧ m.objs.length ≤ 960 ∧ MoOk m := by
  unfold chk at h
  split at h
  · omega
  · split at h
    · exact ⟨by omega, by omega, by assumption⟩
    · omega
end Go.Proofs.YtbfmdbeeiicabaaGreat.L20
namespace Go.Proofs.YtbfmdbeeiicabaaGreat.L19
open L02 L07 L13 L14 L15 L18
/-- eight words are 0 -/
def Zr (l : List UInt64) (a : Nat) : Prop := ∀ i, i < 8 → l.getD (a + i) 0 = 0
instance (l : List UInt64) (a : Nat) : Decidable (Zr l a) := inferInstanceAs (Decidable (∀ i, i < 8 → _))
def objs (L : List Hb) : List Hb := L.filter fun b => decide (b.kind = 1)
/-- an object begins at an address -/
def IsObj (O : List Hb) (a : Int) : Prop := ∃ b ∈ O, b.at_ = a
instance (O : List Hb) (a : Int) : Decidable (IsObj O a) := inferInstanceAs (Decidable (∃ b ∈ O, _))
def kindsB (T : List (List UInt8)) (b : Hb) : List UInt8 := T.getD b.ty.toNat []
def fw (l : List UInt64) (b : Hb) (i : Nat) : UInt64 := l.getD (b.at_.toNat + 2 + i) 0
def Idle (b : Hb) : Prop := b.mark = false ∧ b.next = 0
instance (b : Hb) : Decidable (Idle b) := inferInstanceAs (Decidable (_ ∧ _))
def Typed (T : List (List UInt8)) (b : Hb) : Prop := b.ty < T.length ∧ b.size = 2 + (((kindsB T b).length + 1) / 2 * 2 : Nat)
instance (T : List (List UInt8)) (b : Hb) : Decidable (Typed T b) := inferInstanceAs (Decidable (_ ∧ _))
def Padded (l : List UInt64) (T : List (List UInt8)) (b : Hb) : Prop := (kindsB T b).length % 2 = 0 ∨ fw l b (kindsB T b).length = 0
instance (l : List UInt64) (T : List (List UInt8)) (b : Hb) : Decidable (Padded l T b) := inferInstanceAs (Decidable (_ ∨ _))
def FloatsB (l : List UInt64) (T : List (List UInt8)) (b : Hb) : Prop := ∀ i, i < (kindsB T b).length → ((kindsB T b).getD i 0).toNat = 2 → L20.FloatOk (fw l b i)
instance (l : List UInt64) (T : List (List UInt8)) (b : Hb) : Decidable (FloatsB l T b) := inferInstanceAs (Decidable (∀ i, i < _ → _))
def RefsB (l : List UInt64) (T : List (List UInt8)) (O : List Hb) (b : Hb) : Prop := ∀ i, i < (kindsB T b).length → ((kindsB T b).getD i 0).toNat = 3 → (fw l b i = 0 ∨ IsObj O (fw l b i).toNat)
instance (l : List UInt64) (T : List (List UInt8)) (O : List Hb) (b : Hb) : Decidable (RefsB l T O b) := inferInstanceAs (Decidable (∀ i, i < _ → _))
/-- what an object must have, by the number of the reason -/
def Good (l : List UInt64) (T : List (List UInt8)) (O : List Hb) (r : Nat) (b : Hb) : Prop :=
  match r with
  | 7 => Idle b
  | 8 => Typed T b
  | 9 => Padded l T b
  | 10 => FloatsB l T b
  | _ => RefsB l T O b
instance (l : List UInt64) (T : List (List UInt8)) (O : List Hb) (r : Nat) (b : Hb) : Decidable (Good l T O r b) := by
  unfold Good; split <;> infer_instance
def AllGood (l : List UInt64) (T : List (List UInt8)) (O : List Hb) (r : Nat) : Prop := ∀ b ∈ O, Good l T O r b
instance (l : List UInt64) (T : List (List UInt8)) (O : List Hb) (r : Nat) : Decidable (AllGood l T O r) := inferInstanceAs (Decidable (∀ b ∈ O, _))
def SlotsGood (S : List Sl) (O : List Hb) : Prop := ∀ s ∈ S, s.used = true → IsObj O s.at_
instance (S : List Sl) (O : List Hb) : Decidable (SlotsGood S O) := inferInstanceAs (Decidable (∀ s ∈ S, _ → _))
/-- the types, the slots, the blocks, the objects of an image -/
def T19 (l : List UInt64) : List (List UInt8) := tabT l (sT l)
def O19 (l : List UInt64) : List Hb := objs (allL l)
/-- the first of the reasons 1 to 6 -/
def why6 (l : List UInt64) : Nat :=
  if rErr l ≠ 0 then 1 else if ¬ Zr l 16 then 2 else if ¬ Zr l 24 then 3 else if tabErr l (sT l) ≠ 0 then 4 else if openErr l ≠ 0 then 5 else if allErr l ≠ 0 then 6 else 0
/-- the first of the reasons r to 11, or 0 -/
def whyO (l : List UInt64) (T : List (List UInt8)) (O : List Hb) : Nat → Nat → Nat
  | 0, _ => 0
  | f + 1, r => if AllGood l T O r then whyO l T O f (r + 1) else r
def why (l : List UInt64) : Nat :=
  if why6 l ≠ 0 then why6 l else if whyO l (T19 l) (O19 l) 5 7 ≠ 0 then whyO l (T19 l) (O19 l) 5 7 else if SlotsGood (slots l) (O19 l) then 0 else 12
def reaE (l : List UInt64) : Int := if SizeOk l.length then 0 else 8
def rea (l : List UInt64) : Nat := if SizeOk l.length then why l else 0
def chk19 (l : List UInt64) : Int := if SizeOk l.length then (if why l = 0 then 0 else 50) else 8
theorem whyO_zero {l : List UInt64} {T : List (List UInt8)} {O : List Hb} : ∀ (f r : Nat), 0 < r → (whyO l T O f r = 0 ↔ ∀ i, r ≤ i → i < r + f → AllGood l T O i)
  | 0, r, _ => ⟨fun _ i h1 h2 => by omega, fun _ => rfl⟩
  | f + 1, r, hr => by
    rw [whyO]
    by_cases h : AllGood l T O r
    · rw [if_pos h, whyO_zero f (r + 1) (by omega)]
      refine ⟨fun h2 i h3 h4 => ?_, fun h2 i h3 h4 => h2 i (by omega) (by omega)⟩
      by_cases hi : i = r
      · subst hi; exact h
      · exact h2 i (by omega) (by omega)
    · rw [if_neg h]
      exact ⟨fun h2 => by omega, fun h2 => absurd (h2 r (Nat.le_refl _) (by omega)) h⟩
theorem why6_zero {l : List UInt64} : why6 l = 0 ↔ rErr l = 0 ∧ Zr l 16 ∧ Zr l 24 ∧ tabErr l (sT l) = 0 ∧ openErr l = 0 ∧ allErr l = 0 := by
  unfold why6
  by_cases h1 : rErr l = 0 <;> by_cases h2 : Zr l 16 <;> by_cases h3 : Zr l 24 <;> by_cases h4 : tabErr l (sT l) = 0 <;> by_cases h5 : openErr l = 0 <;> by_cases h6 : allErr l = 0 <;> simp [h1, h2, h3, h4, h5, h6]
theorem why_zero {l : List UInt64} : why l = 0 ↔ why6 l = 0 ∧ (∀ i, 7 ≤ i → i < 12 → AllGood l (T19 l) (O19 l) i) ∧ SlotsGood (slots l) (O19 l) := by
  have h := whyO_zero (l := l) (T := T19 l) (O := O19 l) 5 7 (by omega)
  unfold why
  by_cases h1 : why6 l = 0
  · simp only [h1, ne_eq, not_true, if_false, true_and]
    by_cases h2 : whyO l (T19 l) (O19 l) 5 7 = 0
    · simp only [h2, ne_eq, not_true, if_false]
      have h2' := h.1 h2
      by_cases h3 : SlotsGood (slots l) (O19 l)
      · simp only [h3, if_true, and_true, true_iff]; exact h2'
      · simp [h3]
    · simp only [ne_eq, h2, not_false_eq_true, if_true, false_iff]
      exact fun hh => h2 (h.2 hh.1)
  · simp [h1]
theorem chk19_ok {l : List UInt64} (h : chk19 l = 0) : SizeOk l.length ∧ why l = 0 := by
  unfold chk19 at h
  split at h
  · split at h
    · rename_i h1 h2; exact ⟨h1, h2⟩
    · omega
  · omega
end Go.Proofs.YtbfmdbeeiicabaaGreat.L19
