/- Contracts of the functions that the laws 'R' reach, part 14. No condition. -/
import Derived.Test.YtmbokdnndlnjkaaGreatMRm
set_option linter.unusedVariables false
set_option linter.unusedSimpArgs false
namespace Go.Proofs.YtmbokdnndlnjkaaGreat
open Go.RowKit L01 L02 L05 L06 L07 L13 L14 L15 L18 L19
set_option maxHeartbeats 1000000 in
theorem floatR19_any (x : UInt64) (b : Bool) (hb : b = decide (L20.FloatOk x)) (w : World) : Calls Tryz.prog 97 #[.int .u64 x.toNat] w fun e w' => e = .returned (.bool b) ∧ w = w' := by
  have HB := Lib.hid hb; clear hb
  go_enter Tryz.func97, Tryz.ntmps97
  go_wp2
  all_goals
    go_ret
    refine ⟨ret_bool ?_, rfl⟩
    rw [HB.out]
    rename_i hcase
    first
      | (rw [beq_iff_eq] at hcase; rw [eq_comm, decide_eq_true_iff]; unfold L20.FloatOk; omega)
      | (rw [beq_eq_false_iff_ne] at hcase; rw [Bool.eq_iff_iff, decide_eq_true_iff, decide_eq_true_iff]; unfold L20.FloatOk; omega)
set_option maxRecDepth 100000 in
theorem emptyR19_any (v : Value) (l : List UInt64) (a : Nat) (b : Bool) (hb : b = decide (Zr l a)) (ha : a + 8 ≤ l.length) (hl : l.length ≤ 1000000) (w : World) (h : Words w v l) :
    Calls Tryz.prog 161 #[v, .int .i64 a] w fun e w' => e = .returned (.bool b) ∧ w = w' := by
  have HB := Lib.hid hb; have HA := Lib.hid ha; have H := Lib.hid h
  have hal : a ≤ 1000000 := by omega
  clear hb ha hl h
  go_enter Tryz.func161, Tryz.ntmps161
  go_wp2
  go_loopg [5] 8 (fun g i wr => ∃ j : Nat, j ≤ 8 ∧ g = 8 - j ∧ i = .int .i64 j ∧ wr = w ∧ Hid (∀ i, i < j → l.getD (a + i) 0 = 0))
  case atStart => exact ⟨0, by omega, rfl, rfl, rfl, Lib.hid (fun i hi => by omega)⟩
  case round =>
    obtain ⟨j, hj, rfl, rfl, rfl, hz⟩ := hrel
    by_cases hlt : j < 8
    · have hwj : IntKind.i64.wrap ((a : Int) + (j : Int)) = (a : Int) + (j : Int) := IntWalk.i64_in _ (by omega)
      obtain ⟨ad, x, ia, m0, hx⟩ := H.out.atI (P := Tryz.prog) Tryz.underlying22 one_u64 (k := (a : Int) + (j : Int)) (by omega) (by have := HA.out; omega)
      have hgx : l.getD (a + j) 0 = x := by
        have := hx.out
        rw [show ((a : Int) + (j : Int)).toNat = a + j by omega] at this
        rw [List.getD_eq_getElem?_getD, this]; rfl
      by_cases hx0 : x = 0
      · have h0 : ((x.toNat : Int) != 0) = false := by rw [hx0]; rfl
        have HZ : Hid (∀ i, i < j + 1 → l.getD (a + i) 0 = 0) := Lib.hid (fun i hi => by
          by_cases e : i = j
          · subst e; rw [hgx, hx0]
          · exact hz.out i (by omega))
        clear hgx hx0 hx
        go_wp2
        go_roundg (8 - (j + 1))
        case measure => omega
        case rel => exact ⟨j + 1, by omega, rfl, by go_num, rfl, HZ⟩
      · have h0 : ((x.toNat : Int) != 0) = true := by rw [bne_iff_ne]; intro e; exact hx0 (UInt64.toNat.inj (by simp; omega))
        have hb : b = false := by rw [HB.out, decide_eq_false_iff_not]; exact fun h => hx0 (by rw [← hgx]; exact h j hlt)
        subst hb
        clear hgx hx0 hx
        go_wp2
        go_ret
        exact ⟨rfl, rfl⟩
    · obtain rfl : j = 8 := by omega
      have hb : b = true := by rw [HB.out, decide_eq_true_iff]; exact hz.out
      subst hb
      go_wp2
      go_ret
      exact ⟨rfl, rfl⟩
theorem sT_le {l : List UInt64} (h : rErr l = 0) : 0 ≤ sT l ∧ sT l ≤ 8 := by
  obtain ⟨_, h1⟩ := one_words h
  unfold SupOk at h1
  omega
theorem tab_tys {l : List UInt64} {n : Nat} (hs : SizeOk l.length) (hn : n ≤ 8) : tabT l n = tys l n ∧ (tabErr l n = 0 ↔ TysOk l n) := by
  have e : tabErr l n = if TysOk l n then 0 else 50 := by rw [tabErr, if_pos hs, if_pos ⟨by omega, by omega⟩, Int.toNat_natCast]
  rw [tabT, tys, e, Int.toNat_natCast]
  by_cases h : TysOk l n <;> simp [h]
set_option maxRecDepth 100000 in
set_option maxHeartbeats 1000000 in
theorem TypesR19_any (v : Value) (l : List UInt64) (hs : SizeOk l.length) (L : List (List UInt8)) (r : Bool) (hr : r = decide (rErr l = 0 ∧ tabErr l (sT l) = 0)) (hL : L = if r = true then T19 l else []) (w : World) (h : Words w v l) :
    Calls Tryz.prog 74 #[v] w fun e w' => ∃ x, e = .returned (.tuple #[x, .bool r]) ∧ OwnT w' w.heap.size x L ∧ Below w.heap.size w w' := by
  have B : Below w.heap.size w w := Below.refl _ _
  obtain ⟨sw, hsw⟩ : ∃ x, x = sW l := ⟨_, rfl⟩
  obtain ⟨st, hst⟩ : ∃ x, x = sT l := ⟨_, rfl⟩
  obtain ⟨i0, hi0⟩ : ∃ x, x = is0 l := ⟨_, rfl⟩
  obtain ⟨i1, hi1⟩ : ∃ x, x = is1 l := ⟨_, rfl⟩
  obtain ⟨r1, hr1⟩ : ∃ x, x = rErr l := ⟨_, rfl⟩
  have TT := Lib.hid (fun w h => TReadR_any v l sw st i0 i1 r1 hsw hst hi0 hi1 hr1 w h)
  have H := Lib.hid h
  by_cases h1 : r1 = 0
  case neg =>
    have hr0 : r = false := by rw [hr, decide_eq_false_iff_not, ← hr1]; exact fun h => h1 h.1
    have hL0 : L = [] := by rw [hL, hr0]; rfl
    have n1 : (r1 != 0) = true := by rw [bne_iff_ne]; exact h1
    subst hr0; subst hL0
    clear hr hL hsw hst hi0 hi1 hr1 h hs h1
    go_enter Tryz.func74, Tryz.ntmps74
    go_wp2_with fail
    refine (TT.out _ (H.out.below B)).mono ?_
    rintro e wa1 ⟨rfl, b⟩
    replace B := B.trans (b.mono B.size); clear b
    go_upto_region 2 with (fail)
    refine wp_gen (fun Wv => Bx Wv (wa1.heap.size) (69) (#[.int .i64 sw, .int .i64 st]) ∧ Bx Wv (wa1.heap.size + 1) (70) (#[.bool i0, .bool i1]) ∧ Below wa1.heap.size wa1 Wv) ⟨(((Bx.at_ (by simp)).alloc _)), ((Bx.at_ (by simp))), (((Below.refl _ wa1).alloc (by simp <;> omega) _).alloc (by simp <;> omega) _)⟩ ?_
    rintro wa2 ⟨g2, g3, b⟩
    replace B := B.trans (b.mono B.size); clear b
    have c_g2 := g2.cell; have f_g2 := g2.free; have a_g2 := fun o => (g2.alloc o).cell; have d_g2 := fun o o2 => ((g2.alloc o).alloc o2).cell; have e_g2 := fun o => (g2.alloc o).free
    have c_g3 := g3.cell; have f_g3 := g3.free; have a_g3 := fun o => (g3.alloc o).cell; have d_g3 := fun o o2 => ((g3.alloc o).alloc o2).cell; have e_g3 := fun o => (g3.alloc o).free
    go_wp2
    go_ret2
    exact ⟨_, rfl, OwnT.nil _ _, B⟩
  case pos =>
    subst h1
    obtain ⟨q1, q2⟩ := sT_le hr1.symm
    rw [← hst] at q1 q2
    obtain ⟨n, rfl⟩ := Int.eq_ofNat_of_zero_le q1
    have hn : n ≤ 8 := by omega
    obtain ⟨e1, e2⟩ := tab_tys hs hn
    have hre : r = decide (TysOk l n) := by
      rw [hr, ← hst, Bool.eq_iff_iff, decide_eq_true_iff, decide_eq_true_iff, e2]
      exact ⟨fun h => h.2, fun h => ⟨hr1.symm, h⟩⟩
    have hLe : L = tys l n := by
      rw [hL, T19, ← hst, e1, hre]
      by_cases h : TysOk l n
      · rw [if_pos (decide_eq_true h)]
      · rw [if_neg (by simpa using h), tys, if_neg h]
    have KT := Lib.hid (fun w h => TypesR_any v l n hn (by have := hs.1; omega) L r hLe hre w h)
    clear hr hL hsw hst hi0 hi1 hr1 h hs hre hLe e1 e2 q1 q2 hn
    go_enter Tryz.func74, Tryz.ntmps74
    go_wp2_with fail
    refine (TT.out _ (H.out.below B)).mono ?_
    rintro e wa1 ⟨rfl, b⟩
    replace B := B.trans (b.mono B.size); clear b
    go_upto_region 2 with (fail)
    refine wp_gen (fun Wv => Bx Wv (wa1.heap.size) (69) (#[.int .i64 sw, .int .i64 n]) ∧ Bx Wv (wa1.heap.size + 1) (70) (#[.bool i0, .bool i1]) ∧ Below wa1.heap.size wa1 Wv) ⟨(((Bx.at_ (by simp)).alloc _)), ((Bx.at_ (by simp))), (((Below.refl _ wa1).alloc (by simp <;> omega) _).alloc (by simp <;> omega) _)⟩ ?_
    rintro wa2 ⟨g2, g3, b⟩
    replace B := B.trans (b.mono B.size); clear b
    have c_g2 := g2.cell; have f_g2 := g2.free; have a_g2 := fun o => (g2.alloc o).cell; have d_g2 := fun o o2 => ((g2.alloc o).alloc o2).cell; have e_g2 := fun o => (g2.alloc o).free
    have c_g3 := g3.cell; have f_g3 := g3.free; have a_g3 := fun o => (g3.alloc o).cell; have d_g3 := fun o o2 => ((g3.alloc o).alloc o2).cell; have e_g3 := fun o => (g3.alloc o).free
    have hB1 := B.size
    go_wp2_with fail
    refine (KT.out _ (H.out.below B)).mono ?_
    rintro e wa3 ⟨xt, rfl, ot, b⟩
    try clear c_g2 f_g2 a_g2 d_g2 e_g2
    replace g2 := g2.below b; have c_g2 := g2.cell; have f_g2 := g2.free; have a_g2 := fun o => (g2.alloc o).cell; have d_g2 := fun o o2 => ((g2.alloc o).alloc o2).cell; have e_g2 := fun o => (g2.alloc o).free; try clear c_g3 f_g3 a_g3 d_g3 e_g3
    replace g3 := g3.below b; have c_g3 := g3.cell; have f_g3 := g3.free; have a_g3 := fun o => (g3.alloc o).cell; have d_g3 := fun o o2 => ((g3.alloc o).alloc o2).cell; have e_g3 := fun o => (g3.alloc o).free; replace B := B.trans (b.mono B.size); clear b
    go_wp2
    go_ret2
    exact ⟨_, rfl, ot.up hB1, B⟩
set_option maxRecDepth 100000 in
set_option maxHeartbeats 1000000 in
theorem objsR_any (v : Value) (L : List Hb) (O : List Hb) (hO : O = objs L) (w : World) (h : Blks w v L) (hl : L.length ≤ 1000000) :
    Calls Tryz.prog 121 #[v] w fun e w' => ∃ x, e = .returned x ∧ OwnK w' w.heap.size x O ∧ Below w.heap.size w w' := by
  have B : Below w.heap.size w w := Below.refl _ _
  have H := Lib.hid h; have HO := Lib.hid hO
  have lx := h.len
  obtain ⟨N, hN⟩ : ∃ N, N = L.length := ⟨_, rfl⟩
  rw [← hN] at lx hl
  have HN := Lib.hid hN
  clear h hO hN
  go_enter Tryz.func121, Tryz.ntmps121
  go_wp2
  have HB := Lib.hid B
  go_loopg [3, 4] N (fun g xv i wr => ∃ j : Nat, j ≤ N ∧ g = N - j ∧ i = .int .i64 j ∧ Hid (OwnK wr w.heap.size xv (objs (L.take j)) ∧ Below w.heap.size w wr))
  case atStart => exact ⟨0, by omega, by omega, rfl, Lib.hid ⟨by rw [List.take_zero]; exact OwnK.nil _ _, HB.out⟩⟩
  case round =>
    obtain ⟨j, hj, rfl, rfl, hh⟩ := hrel
    clear HB B
    have o1 := hh.out.1
    have B := hh.out.2
    by_cases hlt : j < N
    · have hB0 := B.size
      obtain ⟨bb, oo, b, ia, m0, m1, m2, m3, m4, m5, hb, _⟩ := (Blks.below H.out B).at_ (k := j) (by rw [← HN.out]; exact hlt)
      have htk : L.take (j + 1) = L.take j ++ [b] := by rw [List.take_add_one, hb.out]; rfl
      have hsn := objs_snoc (L := L.take j) (b := b)
      rw [← htk] at hsn
      by_cases hk : b.kind = 1
      · rw [if_pos hk] at hsn
        have k1 : (b.kind == 1) = true := by rw [beq_iff_eq]; exact hk
        have HS := Lib.hid hsn
        have hol : (objs (L.take j)).length ≤ j := Nat.le_trans (List.length_filter_le _ _) (by rw [List.length_take]; omega)
        clear hsn htk hk
        have hne := own_fresh o1
        go_wp2_with (at_builtin; refine wpList_append (by rfl) rfl rfl rfl Tryz.underlying77 info_block rfl (by omega) (by exact own_below o1 ((Below.refl _ _).alloc (Nat.le_refl _) _)) (by exact lit_block b (by simp)) (bkL_one b) (by omega) (by omega) (by exact B.alloc B.size _) (Nat.le_refl _) ?_; intro v1 w3 o3 B3 g3)
        have o4 : OwnK w3 w.heap.size v1 (objs (L.take (j + 1))) := by rw [HS.out]; exact OwnK.of o3 (tabB_snoc _ b)
        have HZ := Lib.hid (And.intro o4 B3)
        go_roundg (N - (j + 1))
        case measure => omega
        case rel => exact ⟨j + 1, by omega, rfl, by go_num, HZ⟩
      · rw [if_neg hk, List.append_nil] at hsn
        have k1 : (b.kind == 1) = false := by rw [beq_eq_false_iff_ne]; exact hk
        have HZ := hh
        rw [← hsn] at HZ
        clear hsn htk hk
        go_wp2
        go_roundg (N - (j + 1))
        case measure => omega
        case rel => exact ⟨j + 1, by omega, rfl, by go_num, HZ⟩
    · obtain rfl : j = N := by omega
      have e : objs (L.take j) = O := by rw [HO.out, HN.out, List.take_length]
      rw [e] at o1
      clear e
      go_wp2
      go_ret
      exact ⟨_, rfl, o1, B⟩
/-- the number of the block at an address, or -1 -/
def idxI (O : List Hb) (a : Int) : Int := match idx O a with | some i => (i : Int) | none => -1
theorem idx_first : ∀ {O : List Hb} {a : Int} {j : Nat} {b : Hb}, O[j]? = some b → b.at_ = a → (∀ i c, i < j → O[i]? = some c → c.at_ ≠ a) → idx O a = some j
  | [], _, _, _, h, _, _ => by cases h
  | c :: O, a, 0, b, h, e, _ => by
    simp at h; subst h
    rw [idx, if_pos e]
  | c :: O, a, j + 1, b, h, e, hn => by
    rw [idx, if_neg (hn 0 c (by omega) rfl), idx_first (by simpa using h) e (fun i d hi hd => hn (i + 1) d (by omega) (by simpa using hd))]; rfl
theorem idxI_neg {O : List Hb} {a : Int} : idxI O a < 0 ↔ ¬ IsObj O a := by
  rw [← idx_none]
  unfold idxI
  cases h : idx O a with
  | none => simp
  | some i => simp
set_option maxRecDepth 100000 in
set_option maxHeartbeats 1000000 in
theorem idxR_any (v : Value) (O : List Hb) (a : UInt64) (r : Int) (hr : r = idxI O a.toNat) (hO : ∀ b ∈ O, 0 ≤ b.at_ ∧ b.at_ ≤ 1000000) (hl : O.length ≤ 1000000) (w : World) (h : Blks w v O) :
    Calls Tryz.prog 63 #[v, .int .u64 a.toNat] w fun e w' => e = .returned (.int .i64 r) ∧ w = w' := by
  have H := Lib.hid h; have HO := Lib.hid hO; have HR := Lib.hid hr
  have lx := h.len
  obtain ⟨N, hN⟩ : ∃ N, N = O.length := ⟨_, rfl⟩
  rw [← hN] at lx hl
  have HN := Lib.hid hN
  clear h hO hN hr
  go_enter Tryz.func63, Tryz.ntmps63
  go_wp2
  go_loopg [5] N (fun g i wr => ∃ j : Nat, j ≤ N ∧ g = N - j ∧ i = .int .i64 j ∧ wr = w ∧ Hid (∀ i c, i < j → O[i]? = some c → c.at_ ≠ (a.toNat : Int)))
  case atStart => exact ⟨0, by omega, by omega, rfl, rfl, Lib.hid (fun i c hi => by omega)⟩
  case round =>
    obtain ⟨j, hj, rfl, rfl, rfl, hz⟩ := hrel
    by_cases hlt : j < N
    · obtain ⟨bb, oo, b, ia, m0, m1, m2, m3, m4, m5, hb, _⟩ := H.out.at_ (k := j) (by rw [← HN.out]; exact hlt)
      obtain ⟨z1, z2⟩ := HO.out b (List.mem_of_getElem? hb.out)
      have hwb : IntKind.u64.wrap b.at_ = b.at_ := by rw [wrap_u64]; omega
      by_cases he : b.at_ = (a.toNat : Int)
      · have k1 : (b.at_ == (a.toNat : Int)) = true := by rw [beq_iff_eq]; exact he
        have hr : r = (j : Int) := by rw [HR.out, idxI, idx_first hb.out he hz.out]
        subst hr
        clear he z1 z2
        go_wp2
        go_ret
        exact ⟨rfl, rfl⟩
      · have k1 : (b.at_ == (a.toNat : Int)) = false := by rw [beq_eq_false_iff_ne]; exact he
        have HZ : Hid (∀ i c, i < j + 1 → O[i]? = some c → c.at_ ≠ (a.toNat : Int)) := Lib.hid (fun i c hi hc => by
          by_cases e : i = j
          · subst e; rw [hb.out] at hc; injection hc with hc; subst hc; exact he
          · exact hz.out i c (by omega) hc)
        clear he z1 z2
        go_wp2
        go_roundg (N - (j + 1))
        case measure => omega
        case rel => exact ⟨j + 1, by omega, rfl, by go_num, rfl, HZ⟩
    · obtain rfl : j = N := by omega
      have hr : r = -1 := by
        rw [HR.out, idxI]
        have : idx O (a.toNat : Int) = none := idx_none.2 (fun ⟨b, hb, e⟩ => by
          obtain ⟨i, hi⟩ := List.getElem?_of_mem hb
          exact hz.out i b (by rw [HN.out]; exact (List.getElem?_eq_some_iff.1 hi).1) hi e)
        rw [this]
      subst hr
      go_wp2
      go_ret
      exact ⟨rfl, rfl⟩
end Go.Proofs.YtmbokdnndlnjkaaGreat
namespace Go.Proofs.YtmbokdnndlnjkaaGreat
open Go.RowKit L01 L02 L05 L06 L07 L13 L14 L15 L18 L19
set_option maxRecDepth 100000 in
set_option maxHeartbeats 1000000 in
theorem wrong7 (v tv bv : Value) (b : Hb) (c : Bool) (hc : c = decide (¬ Idle b)) (w : World) :
    Calls Tryz.prog 162 #[v, tv, bv, .agg #[.int .i64 b.at_, .int .i64 b.size, .int .i64 b.kind, .int .i64 b.ty, .bool b.mark, .int .u64 b.next.toNat], .int .i64 7] w fun e w' => e = .returned (.bool c) ∧ Below w.heap.size w w' := by
  have B : Below w.heap.size w w := Below.refl _ _
  have HC := Lib.hid hc; clear hc
  obtain ⟨at_, size, kind, ty, mark, next⟩ := b
  dsimp only at *
  have hn0 : (decide ((0 : Int) < (next.toNat : Int))) = decide (¬ next = 0) := by
    rw [Bool.eq_iff_iff, decide_eq_true_iff, decide_eq_true_iff]
    exact ⟨fun h e => by rw [e] at h; simp at h, fun h => by
      have : next.toNat ≠ 0 := fun e => h (UInt64.toNat.inj (by simpa using e))
      omega⟩
  obtain ⟨q, hq⟩ : ∃ q, q = decide (¬ next = 0) := ⟨_, rfl⟩
  rw [← hq] at hn0
  have hn1 : (decide ((0 : Nat) < next.toNat)) = q := by rw [← hn0, Bool.eq_iff_iff, decide_eq_true_iff, decide_eq_true_iff]; omega
  have hc : c = (mark || q) := by rw [HC.out, hq]; unfold Idle; cases mark <;> simp
  clear HC hq
  cases mark
  all_goals
    go_enter Tryz.func162, Tryz.ntmps162
    go_upto_region 1 with (fail)
    refine wp_gen (fun Wv => Bx Wv (w.heap.size) (82) (#[.int .i64 at_, .int .i64 size, .int .i64 kind, .int .i64 ty, .bool _, .int .u64 next.toNat]) ∧ Below w.heap.size w Wv) ⟨((Bx.at_ (by simp))), ((Below.refl _ w).alloc (by simp <;> omega) _)⟩ ?_
    rintro wa1 ⟨g2, b⟩
    replace B := B.trans (b.mono B.size); clear b
    have c_g2 := g2.cell; have f_g2 := g2.free; have a_g2 := fun o => (g2.alloc o).cell; have d_g2 := fun o o2 => ((g2.alloc o).alloc o2).cell; have e_g2 := fun o => (g2.alloc o).free
    go_wp2
    go_ret
    exact ⟨by rw [hc]; simp_all, B⟩
set_option maxRecDepth 100000 in
set_option maxHeartbeats 1000000 in
theorem wrong8 (v tv bv : Value) (T : List (List UInt8)) (b : Hb) (c : Bool) (hc : c = decide (¬ Typed T b)) (h0 : 0 ≤ b.ty) (hT : ∀ t ∈ T, kErr t = 0) (w : World) (h : Typs w tv T) :
    Calls Tryz.prog 162 #[v, tv, bv, .agg #[.int .i64 b.at_, .int .i64 b.size, .int .i64 b.kind, .int .i64 b.ty, .bool b.mark, .int .u64 b.next.toNat], .int .i64 8] w fun e w' => e = .returned (.bool c) ∧ Below w.heap.size w w' := by
  have B : Below w.heap.size w w := Below.refl _ _
  have lt := h.len
  obtain ⟨NT, hNT⟩ : ∃ N, N = T.length := ⟨_, rfl⟩
  rw [← hNT] at lt
  by_cases hlt : b.ty < T.length
  · obtain ⟨q, hq⟩ := Int.eq_ofNat_of_zero_le h0
    obtain ⟨at_, size, kind, ty, mark, next⟩ := b
    dsimp only at *
    subst hq
    have hqT : q < T.length := by omega
    obtain ⟨ad, x, t, it, m0, ht, hx⟩ := h.at_ (k := q) hqT
    have hk : kErr t = 0 := hT t (List.mem_of_getElem? ht.out)
    have hk8 := kErr_len hk
    obtain ⟨tn, htn⟩ : ∃ n, n = t.length := ⟨_, rfl⟩
    have lx := Rd.len hx.out Tryz.underlying83
    rw [← htn] at lx hk8
    obtain ⟨n, hn⟩ : ∃ n : Int, n = (tn : Int) + (tn : Int) % 2 + 2 := ⟨_, rfl⟩
    have KT := Lib.hid (fun w => WordsR_any (tn : Int) n (by omega) hn w)
    have hck : (n != size) = c := by
      rw [hc, Bool.eq_iff_iff, bne_iff_ne, decide_eq_true_iff]
      unfold Typed kindsB
      rw [Int.toNat_natCast, List.getD_eq_getElem?_getD, ht.out]
      simp only [Option.getD_some]
      rw [← htn]
      omega
    have n1 : decide ((NT : Int) ≤ (q : Int)) = false := decide_eq_false (by omega)
    have n2 : decide (NT ≤ q) = false := decide_eq_false (by omega)
    have n3 : ¬ (NT : Int) ≤ (q : Int) := by omega
    clear hc hT hk hn ht hx hlt hqT h0 hNT h htn
    go_enter Tryz.func162, Tryz.ntmps162
    go_upto_region 1 with (fail)
    refine wp_gen (fun Wv => Bx Wv (w.heap.size) (82) (#[.int .i64 at_, .int .i64 size, .int .i64 kind, .int .i64 q, .bool mark, .int .u64 next.toNat]) ∧ Below w.heap.size w Wv) ⟨((Bx.at_ (by simp))), ((Below.refl _ w).alloc (by simp <;> omega) _)⟩ ?_
    rintro wa1 ⟨g2, b⟩
    replace m0 := cell_later b m0; replace B := B.trans (b.mono B.size); clear b
    have c_g2 := g2.cell; have f_g2 := g2.free; have a_g2 := fun o => (g2.alloc o).cell; have d_g2 := fun o o2 => ((g2.alloc o).alloc o2).cell; have e_g2 := fun o => (g2.alloc o).free
    go_upto_region 4 with (fail)
    refine wp_region_calm (by kernel_rfl) (by kernel_rfl) ?_
    try clear c_g2 f_g2 a_g2 d_g2 e_g2
    have c_g2 := fun x : Fut _ => (g2.below x.h).cell
    have c_m0 := fun x : Fut _ => cell_later x.h m0
    repeat (go_big_quiet_step (exact Fut.same (KT.out _)))
    refine wpQuiet_nil ?_
    intro _ hw'
    obtain ⟨xq, hw''⟩ := hw'
    subst hw''
    clear c_m0; replace m0 := cell_later xq.h m0
    clear c_g2; replace g2 := g2.below xq.h; have c_g2 := g2.cell; have f_g2 := g2.free; have a_g2 := fun o => (g2.alloc o).cell; have d_g2 := fun o o2 => ((g2.alloc o).alloc o2).cell; have e_g2 := fun o => (g2.alloc o).free
    replace B := B.trans (xq.h.mono B.size)
    go_wp2
    go_ret
    exact ⟨rfl, B⟩
  · have hc0 : c = true := by rw [hc, decide_eq_true_iff]; exact fun h => hlt h.1
    obtain ⟨at_, size, kind, ty, mark, next⟩ := b
    dsimp only at *
    have n1 : decide ((NT : Int) ≤ ty) = true := decide_eq_true (by omega)
    have n3 : (NT : Int) ≤ ty := by omega
    subst hc0
    clear hc hT hlt hNT h
    go_enter Tryz.func162, Tryz.ntmps162
    go_upto_region 1 with (fail)
    refine wp_gen (fun Wv => Bx Wv (w.heap.size) (82) (#[.int .i64 at_, .int .i64 size, .int .i64 kind, .int .i64 ty, .bool mark, .int .u64 next.toNat]) ∧ Below w.heap.size w Wv) ⟨((Bx.at_ (by simp))), ((Below.refl _ w).alloc (by simp <;> omega) _)⟩ ?_
    rintro wa1 ⟨g2, b⟩
    replace B := B.trans (b.mono B.size); clear b
    have c_g2 := g2.cell; have f_g2 := g2.free; have a_g2 := fun o => (g2.alloc o).cell; have d_g2 := fun o o2 => ((g2.alloc o).alloc o2).cell; have e_g2 := fun o => (g2.alloc o).free
    go_upto_region 4 with (fail)
    refine wp_region_calm (by kernel_rfl) (by kernel_rfl) ?_
    try clear c_g2 f_g2 a_g2 d_g2 e_g2
    have c_g2 := fun x : Fut _ => (g2.below x.h).cell
    repeat (go_big_quiet_step (fail))
    refine wpQuiet_nil ?_
    intro _ hw'
    obtain ⟨xq, hw''⟩ := hw'
    subst hw''
    clear c_g2; replace g2 := g2.below xq.h; have c_g2 := g2.cell; have f_g2 := g2.free; have a_g2 := fun o => (g2.alloc o).cell; have d_g2 := fun o o2 => ((g2.alloc o).alloc o2).cell; have e_g2 := fun o => (g2.alloc o).free
    replace B := B.trans (xq.h.mono B.size)
    go_wp2
    go_ret
    exact ⟨rfl, B⟩
set_option maxRecDepth 100000 in
set_option maxHeartbeats 1000000 in
theorem wrong9 (v tv bv : Value) (l : List UInt64) (T : List (List UInt8)) (b : Hb) (c : Bool) (hc : c = decide (¬ Padded l T b)) (hi : In19 l b) (hty : Typed T b) (hl : l.length ≤ 1000000) (w : World) (hw : Words w v l) (h : Typs w tv T) :
    Calls Tryz.prog 162 #[v, tv, bv, .agg #[.int .i64 b.at_, .int .i64 b.size, .int .i64 b.kind, .int .i64 b.ty, .bool b.mark, .int .u64 b.next.toNat], .int .i64 9] w fun e w' => e = .returned (.bool c) ∧ Below w.heap.size w w' := by
  have B : Below w.heap.size w w := Below.refl _ _
  obtain ⟨a, q, t, ha, hq, hT, hk, _, hle, hodd⟩ := in_kinds hi hty
  obtain ⟨ad, x, t', it, m0, ht', hx⟩ := h.at_ (k := q) (List.getElem?_eq_some_iff.1 hT).1
  obtain rfl : t' = t := by have := ht'.out; rw [hT] at this; injection this with this; exact this.symm
  obtain ⟨n, hn⟩ : ∃ n, n = t'.length := ⟨_, rfl⟩
  have lx := Rd.len hx.out Tryz.underlying83
  rw [← hn] at lx hle hodd
  have hcp : c = decide (¬ (n % 2 = 0 ∨ fw l b n = 0)) := by rw [hc, Bool.eq_iff_iff, decide_eq_true_iff, decide_eq_true_iff]; unfold Padded; rw [hk, ← hn]
  have hsz := hty.2
  rw [hk, ← hn] at hsz
  obtain ⟨at_, size, kind, ty, mark, next⟩ := b
  dsimp only at ha hq hsz
  subst ha; subst hq
  have hfw : fw l ⟨(a : Int), size, kind, (q : Int), mark, next⟩ n = l.getD (a + 2 + n) 0 := by unfold fw; rw [Int.toNat_natCast]
  rw [hfw] at hcp
  have hw1 : IntKind.i64.wrap ((a : Int) + 2) = (a : Int) + 2 := IntWalk.i64_in _ (by omega)
  have hw2 : IntKind.i64.wrap ((a : Int) + 2 + (n : Int)) = (a : Int) + 2 + (n : Int) := IntWalk.i64_in _ (by omega)
  have hw3 : IntKind.i64.wrap (size - 2) = size - 2 := IntWalk.i64_in _ (by omega)
  by_cases hev : n % 2 = 0
  · have hc1 : c = false := by rw [hcp, decide_eq_false_iff_not]; exact fun h => h (.inl hev)
    have n1 : decide ((n : Int) < size - 2) = false := decide_eq_false (by omega)
    have n2 : ¬ (n : Int) < size - 2 := by omega
    subst hc1
    clear hc hi hty hT hk hle hodd ht' hx hcp hfw hn hw h hsz hev
    go_enter Tryz.func162, Tryz.ntmps162
    go_upto_region 1 with (fail)
    refine wp_gen (fun Wv => Bx Wv (w.heap.size) (82) (#[.int .i64 a, .int .i64 size, .int .i64 kind, .int .i64 q, .bool mark, .int .u64 next.toNat]) ∧ Below w.heap.size w Wv) ⟨((Bx.at_ (by simp))), ((Below.refl _ w).alloc (by simp <;> omega) _)⟩ ?_
    rintro wa1 ⟨g2, b⟩
    replace m0 := cell_later b m0; replace B := B.trans (b.mono B.size); clear b
    have c_g2 := g2.cell; have f_g2 := g2.free; have a_g2 := fun o => (g2.alloc o).cell; have d_g2 := fun o o2 => ((g2.alloc o).alloc o2).cell; have e_g2 := fun o => (g2.alloc o).free
    go_wp2
    go_ret
    exact ⟨rfl, B⟩
  · have n1 : decide ((n : Int) < size - 2) = true := decide_eq_true (by omega)
    have n2 : (n : Int) < size - 2 := by omega
    obtain ⟨ad2, y, iy, m1, hy⟩ := hw.at_ (P := Tryz.prog) Tryz.underlying22 one_u64 (k := a + 2 + n) (hodd (by omega))
    have iy2 : ∀ W, (Instr.indexAt 22 v (.int .i64 ((a : Int) + 2 + (n : Int)))).run Tryz.prog W = .ok (.pointer (some ad2)) W := iy
    have hgy : l.getD (a + 2 + n) 0 = y := by rw [List.getD_eq_getElem?_getD, hy.out]; rfl
    have hc1 : c = decide (¬ y = 0) := by rw [hcp, hgy]; simp [hev]
    have hy0 : ((y.toNat : Int) != 0) = c := by
      rw [hc1, Bool.eq_iff_iff, bne_iff_ne, decide_eq_true_iff]
      exact ⟨fun h e => h (by rw [e]; rfl), fun h e => h (UInt64.toNat.inj (by simp; omega))⟩
    clear hc hi hty hT hk hle hodd ht' hx hcp hfw hn hw h hgy hc1 hy hsz hev iy
    go_enter Tryz.func162, Tryz.ntmps162
    go_upto_region 1 with (fail)
    refine wp_gen (fun Wv => Bx Wv (w.heap.size) (82) (#[.int .i64 a, .int .i64 size, .int .i64 kind, .int .i64 q, .bool mark, .int .u64 next.toNat]) ∧ Below w.heap.size w Wv) ⟨((Bx.at_ (by simp))), ((Below.refl _ w).alloc (by simp <;> omega) _)⟩ ?_
    rintro wa1 ⟨g2, b⟩
    replace m0 := cell_later b m0; replace m1 := cell_later b m1; replace B := B.trans (b.mono B.size); clear b
    have c_g2 := g2.cell; have f_g2 := g2.free; have a_g2 := fun o => (g2.alloc o).cell; have d_g2 := fun o o2 => ((g2.alloc o).alloc o2).cell; have e_g2 := fun o => (g2.alloc o).free
    go_wp2
    go_ret
    exact ⟨rfl, B⟩
end Go.Proofs.YtmbokdnndlnjkaaGreat
namespace Go.Proofs.YtmbokdnndlnjkaaGreat
open Go.RowKit L01 L02 L05 L06 L07 L13 L14 L15 L18 L19
set_option maxRecDepth 100000 in
set_option maxHeartbeats 2000000 in
theorem wrong10 (v tv bv : Value) (l : List UInt64) (T : List (List UInt8)) (b : Hb) (c : Bool) (hc : c = decide (¬ FloatsB l T b)) (hi : In19 l b) (hty : Typed T b) (hl : l.length ≤ 1000000) (w : World) (hw : Words w v l) (h : Typs w tv T) :
    Calls Tryz.prog 162 #[v, tv, bv, .agg #[.int .i64 b.at_, .int .i64 b.size, .int .i64 b.kind, .int .i64 b.ty, .bool b.mark, .int .u64 b.next.toNat], .int .i64 10] w fun e w' => e = .returned (.bool c) ∧ Below w.heap.size w w' := by
  have B : Below w.heap.size w w := Below.refl _ _
  obtain ⟨a, q, t, ha, hq, hT, hk, _, hle, _⟩ := in_kinds hi hty
  obtain ⟨ad, x, t', it, m0, ht', hx⟩ := h.at_ (k := q) (List.getElem?_eq_some_iff.1 hT).1
  obtain rfl : t' = t := by have := ht'.out; rw [hT] at this; injection this with this; exact this.symm
  obtain ⟨n, hn⟩ : ∃ n, n = t'.length := ⟨_, rfl⟩
  have lx := Rd.len hx.out Tryz.underlying83
  rw [← hn] at lx hle
  have hcp : c = decide (¬ ∀ i, i < n → (t'.getD i 0).toNat = 2 → L20.FloatOk (fw l b i)) := by rw [hc, Bool.eq_iff_iff, decide_eq_true_iff, decide_eq_true_iff]; unfold FloatsB; rw [hk, ← hn]
  obtain ⟨at_, size, kind, ty, mark, next⟩ := b
  dsimp only at ha hq
  subst ha; subst hq
  have hfw : ∀ i, fw l ⟨(a : Int), size, kind, (q : Int), mark, next⟩ i = l.getD (a + 2 + i) 0 := fun i => by unfold fw; rw [Int.toNat_natCast]
  have HC := Lib.hid (And.intro hcp hfw)
  have hw1 : IntKind.i64.wrap ((a : Int) + 2) = (a : Int) + 2 := IntWalk.i64_in _ (by omega)
  have HH := Lib.hid hn; have HX := hx; have HW := Lib.hid hw
  have HN := Lib.hid (And.intro hle hl)
  have hnb : n ≤ 1000000 := by omega
  clear hc hi hty hT hk hle ht' hx hcp hfw hn hw h hl
  go_enter Tryz.func162, Tryz.ntmps162
  go_upto_region 1 with (fail)
  refine wp_gen (fun Wv => Bx Wv (w.heap.size) (82) (#[.int .i64 a, .int .i64 size, .int .i64 kind, .int .i64 q, .bool mark, .int .u64 next.toNat]) ∧ Below w.heap.size w Wv) ⟨((Bx.at_ (by simp))), ((Below.refl _ w).alloc (by simp <;> omega) _)⟩ ?_
  rintro wa1 ⟨g2, b⟩
  replace m0 := cell_later b m0; replace B := B.trans (b.mono B.size); clear b
  have c_g2 := g2.cell; have f_g2 := g2.free; have a_g2 := fun o => (g2.alloc o).cell; have d_g2 := fun o o2 => ((g2.alloc o).alloc o2).cell; have e_g2 := fun o => (g2.alloc o).free
  go_wp2
  go_loopg [12] n (fun gg i wr => ∃ j : Nat, j ≤ n ∧ gg = n - j ∧ i = .int .i64 j ∧ Hid (wr = wa1) ∧ Hid (∀ i, i < j → (t'.getD i 0).toNat = 2 → L20.FloatOk (l.getD (a + 2 + i) 0)))
  case atStart => exact ⟨0, by omega, rfl, rfl, Lib.hid rfl, Lib.hid (fun i hi => by omega)⟩
  case round =>
    obtain ⟨j, hj, rfl, rfl, hh, hz⟩ := hrel
    obtain rfl := hh.out
    by_cases hlt : j < n
    · obtain ⟨ak, kd, ik, mk, hkd⟩ := (Byts.below HX.out B).at_ (P := Tryz.prog) Tryz.underlying83 one_u8 (k := j) (by rw [← HH.out]; exact hlt)
      have hgk : t'.getD j 0 = kd := by rw [List.getD_eq_getElem?_getD, hkd.out]; rfl
      obtain ⟨ad2, y, iy, m2, hy⟩ := (HW.out.below B).at_ (P := Tryz.prog) Tryz.underlying22 one_u64 (k := a + 2 + j) (by have := HN.out.1; omega)
      have iy2 : ∀ W, (Instr.indexAt 22 v (.int .i64 ((a : Int) + 2 + (j : Int)))).run Tryz.prog W = .ok (.pointer (some ad2)) W := iy
      have hgy : l.getD (a + 2 + j) 0 = y := by rw [List.getD_eq_getElem?_getD, hy.out]; rfl
      have hw2 : IntKind.i64.wrap ((a : Int) + 2 + (j : Int)) = (a : Int) + 2 + (j : Int) := IntWalk.i64_in _ (by have := HN.out; omega)
      by_cases hk2 : kd.toNat = 2
      · have hk3 : ((kd.toNat : Int) == 2) = true := by rw [beq_iff_eq]; omega
        obtain ⟨fb, hfb⟩ : ∃ fb, fb = decide (L20.FloatOk y) := ⟨_, rfl⟩
        have FT := Lib.hid (fun w => floatR19_any y fb hfb w)
        cases fb
        · have hno : ¬ L20.FloatOk y := of_decide_eq_false hfb.symm
          have hc0 : c = true := by
            rw [HC.out.1, decide_eq_true_iff]
            intro hall
            have := hall j hlt (by rw [hgk]; exact hk2)
            rw [HC.out.2, hgy] at this
            exact hno this
          subst hc0
          clear hfb hno hgy hy hgk hk2 hkd iy
          go_wp2_with fail
          refine (FT.out _).mono ?_
          rintro e w' ⟨rfl, rfl⟩
          go_wp2
          go_ret
          exact ⟨rfl, B⟩
        · have hyes : L20.FloatOk y := of_decide_eq_true hfb.symm
          have HZ : Hid (∀ i, i < j + 1 → (t'.getD i 0).toNat = 2 → L20.FloatOk (l.getD (a + 2 + i) 0)) := Lib.hid (fun i hi h2 => by
            by_cases e : i = j
            · subst e; rw [hgy]; exact hyes
            · exact hz.out i (by omega) h2)
          clear hfb hyes hgy hy hgk hk2 hkd iy
          go_wp2_with fail
          refine (FT.out _).mono ?_
          rintro e w' ⟨rfl, rfl⟩
          go_wp2
          go_roundg (n - (j + 1))
          case measure => omega
          case rel => exact ⟨j + 1, by omega, rfl, by go_num, Lib.hid rfl, HZ⟩
      · have hk3 : ((kd.toNat : Int) == 2) = false := by rw [beq_eq_false_iff_ne]; omega
        have HZ : Hid (∀ i, i < j + 1 → (t'.getD i 0).toNat = 2 → L20.FloatOk (l.getD (a + 2 + i) 0)) := Lib.hid (fun i hi h2 => by
          by_cases e : i = j
          · subst e; rw [hgk] at h2; exact absurd h2 hk2
          · exact hz.out i (by omega) h2)
        clear hgk hk2 hkd hgy hy iy
        go_wp2
        go_roundg (n - (j + 1))
        case measure => omega
        case rel => exact ⟨j + 1, by omega, rfl, by go_num, Lib.hid rfl, HZ⟩
    · obtain rfl : j = n := by omega
      have hc1 : c = false := by rw [HC.out.1, decide_eq_false_iff_not]; exact fun hh => hh (by intro i hi h2; rw [HC.out.2]; exact hz.out i hi h2)
      subst hc1
      go_wp2
      go_ret
      exact ⟨rfl, B⟩
set_option maxRecDepth 100000 in
set_option maxHeartbeats 2000000 in
theorem wrong11 (v tv bv : Value) (l : List UInt64) (T : List (List UInt8)) (O : List Hb) (b : Hb) (c : Bool) (hc : c = decide (¬ RefsB l T O b)) (hi : In19 l b) (hty : Typed T b) (hl : l.length ≤ 1000000) (hO : ∀ b ∈ O, 0 ≤ b.at_ ∧ b.at_ ≤ 1000000) (hOl : O.length ≤ 1000000) (w : World) (hw : Words w v l) (h : Typs w tv T) (hb : Blks w bv O) :
    Calls Tryz.prog 162 #[v, tv, bv, .agg #[.int .i64 b.at_, .int .i64 b.size, .int .i64 b.kind, .int .i64 b.ty, .bool b.mark, .int .u64 b.next.toNat], .int .i64 11] w fun e w' => e = .returned (.bool c) ∧ Below w.heap.size w w' := by
  have B : Below w.heap.size w w := Below.refl _ _
  obtain ⟨a, q, t, ha, hq, hT, hk, _, hle, _⟩ := in_kinds hi hty
  obtain ⟨ad, x, t', it, m0, ht', hx⟩ := h.at_ (k := q) (List.getElem?_eq_some_iff.1 hT).1
  obtain rfl : t' = t := by have := ht'.out; rw [hT] at this; injection this with this; exact this.symm
  obtain ⟨n, hn⟩ : ∃ n, n = t'.length := ⟨_, rfl⟩
  have lx := Rd.len hx.out Tryz.underlying83
  rw [← hn] at lx hle
  have hcp : c = decide (¬ ∀ i, i < n → (t'.getD i 0).toNat = 3 → (fw l b i = 0 ∨ IsObj O (fw l b i).toNat)) := by rw [hc, Bool.eq_iff_iff, decide_eq_true_iff, decide_eq_true_iff]; unfold RefsB; rw [hk, ← hn]
  obtain ⟨at_, size, kind, ty, mark, next⟩ := b
  dsimp only at ha hq
  subst ha; subst hq
  have hfw : ∀ i, fw l ⟨(a : Int), size, kind, (q : Int), mark, next⟩ i = l.getD (a + 2 + i) 0 := fun i => by unfold fw; rw [Int.toNat_natCast]
  have HC := Lib.hid (And.intro hcp hfw)
  have hw1 : IntKind.i64.wrap ((a : Int) + 2) = (a : Int) + 2 := IntWalk.i64_in _ (by omega)
  have HH := Lib.hid hn; have HX := hx; have HW := Lib.hid hw; have HO := Lib.hid (And.intro hO (And.intro hOl hb))
  have HN := Lib.hid (And.intro hle hl)
  have hnb : n ≤ 1000000 := by omega
  clear hc hi hty hT hk hle ht' hx hcp hfw hn hw h hl hO hOl hb
  go_enter Tryz.func162, Tryz.ntmps162
  go_upto_region 1 with (fail)
  refine wp_gen (fun Wv => Bx Wv (w.heap.size) (82) (#[.int .i64 a, .int .i64 size, .int .i64 kind, .int .i64 q, .bool mark, .int .u64 next.toNat]) ∧ Below w.heap.size w Wv) ⟨((Bx.at_ (by simp))), ((Below.refl _ w).alloc (by simp <;> omega) _)⟩ ?_
  rintro wa1 ⟨g2, b⟩
  replace m0 := cell_later b m0; replace B := B.trans (b.mono B.size); clear b
  have c_g2 := g2.cell; have f_g2 := g2.free; have a_g2 := fun o => (g2.alloc o).cell; have d_g2 := fun o o2 => ((g2.alloc o).alloc o2).cell; have e_g2 := fun o => (g2.alloc o).free
  go_wp2
  go_loopg [12] n (fun gg i wr => ∃ j : Nat, j ≤ n ∧ gg = n - j ∧ i = .int .i64 j ∧ Hid (wr = wa1) ∧ Hid (∀ i, i < j → (t'.getD i 0).toNat = 3 → (l.getD (a + 2 + i) 0 = 0 ∨ IsObj O (l.getD (a + 2 + i) 0).toNat)))
  case atStart => exact ⟨0, by omega, rfl, rfl, Lib.hid rfl, Lib.hid (fun i hi => by omega)⟩
  case round =>
    obtain ⟨j, hj, rfl, rfl, hh, hz⟩ := hrel
    obtain rfl := hh.out
    by_cases hlt : j < n
    · obtain ⟨ak, kd, ik, mk, hkd⟩ := (Byts.below HX.out B).at_ (P := Tryz.prog) Tryz.underlying83 one_u8 (k := j) (by rw [← HH.out]; exact hlt)
      have hgk : t'.getD j 0 = kd := by rw [List.getD_eq_getElem?_getD, hkd.out]; rfl
      obtain ⟨ad2, y, iy, m2, hy⟩ := (HW.out.below B).at_ (P := Tryz.prog) Tryz.underlying22 one_u64 (k := a + 2 + j) (by have := HN.out.1; omega)
      have iy2 : ∀ W, (Instr.indexAt 22 v (.int .i64 ((a : Int) + 2 + (j : Int)))).run Tryz.prog W = .ok (.pointer (some ad2)) W := iy
      have hgy : l.getD (a + 2 + j) 0 = y := by rw [List.getD_eq_getElem?_getD, hy.out]; rfl
      have hw2 : IntKind.i64.wrap ((a : Int) + 2 + (j : Int)) = (a : Int) + 2 + (j : Int) := IntWalk.i64_in _ (by have := HN.out; omega)
      have hstep : ((t'.getD j 0).toNat = 3 → (y = 0 ∨ IsObj O y.toNat)) → Hid (∀ i, i < j + 1 → (t'.getD i 0).toNat = 3 → (l.getD (a + 2 + i) 0 = 0 ∨ IsObj O (l.getD (a + 2 + i) 0).toNat)) := fun hh => Lib.hid (fun i hi h2 => by
        by_cases e : i = j
        · subst e; rw [hgy]; exact hh h2
        · exact hz.out i (by omega) h2)
      by_cases hk3 : kd.toNat = 3
      · have hk4 : ((kd.toNat : Int) == 3) = true := by rw [beq_iff_eq]; omega
        by_cases hy0 : y = 0
        · have h0 : decide ((0 : Int) < (y.toNat : Int)) = false := by rw [hy0]; rfl
          have h1 : decide ((0 : Nat) < y.toNat) = false := by rw [hy0]; rfl
          have HZ := hstep (fun _ => .inl hy0)
          clear hstep hgy hgk hy0 hy hkd hk3 iy
          go_wp2
          go_roundg (n - (j + 1))
          case measure => omega
          case rel => exact ⟨j + 1, by omega, rfl, by go_num, Lib.hid rfl, HZ⟩
        · have hyp : 0 < y.toNat := Nat.pos_of_ne_zero (fun e => hy0 (UInt64.toNat.inj (by simpa using e)))
          have h0 : decide ((0 : Int) < (y.toNat : Int)) = true := decide_eq_true (by omega)
          have h1 : decide ((0 : Nat) < y.toNat) = true := decide_eq_true hyp
          obtain ⟨r, hr⟩ : ∃ r, r = idxI O y.toNat := ⟨_, rfl⟩
          have IT := Lib.hid (fun w h => idxR_any bv O y r hr HO.out.1 HO.out.2.1 w h)
          have hneg : r < 0 ↔ ¬ IsObj O y.toNat := by rw [hr]; exact idxI_neg
          by_cases ho : IsObj O y.toNat
          · have n1 : decide (r < 0) = false := decide_eq_false (fun h => hneg.1 h ho)
            have n2 : ¬ r < 0 := fun h => hneg.1 h ho
            have HZ := hstep (fun _ => .inr ho)
            clear hstep hgy hgk hy0 hy hkd hk3 iy hr hneg ho hyp
            go_wp2_with fail
            refine (IT.out _ (HO.out.2.2.below B)).mono ?_
            rintro e w' ⟨rfl, rfl⟩
            go_wp2
            go_roundg (n - (j + 1))
            case measure => omega
            case rel => exact ⟨j + 1, by omega, rfl, by go_num, Lib.hid rfl, HZ⟩
          · have n1 : decide (r < 0) = true := decide_eq_true (hneg.2 ho)
            have n2 : r < 0 := hneg.2 ho
            have hc0 : c = true := by
              rw [HC.out.1, decide_eq_true_iff]
              intro hall
              have := hall j hlt (by rw [hgk]; exact hk3)
              rw [HC.out.2, hgy] at this
              exact this.elim hy0 ho
            subst hc0
            clear hstep hgy hgk hy0 hy hkd hk3 iy hr hneg ho hyp
            go_wp2_with fail
            refine (IT.out _ (HO.out.2.2.below B)).mono ?_
            rintro e w' ⟨rfl, rfl⟩
            go_wp2
            go_ret
            exact ⟨rfl, B⟩
      · have hkn : ((kd.toNat : Int) == 3) = false := by rw [beq_eq_false_iff_ne]; omega
        have HZ := hstep (fun h3 => absurd (by rw [← hgk]; exact h3) hk3)
        clear hstep hgy hgk hy hkd hk3 iy
        go_wp2
        go_roundg (n - (j + 1))
        case measure => omega
        case rel => exact ⟨j + 1, by omega, rfl, by go_num, Lib.hid rfl, HZ⟩
    · obtain rfl : j = n := by omega
      have hc1 : c = false := by rw [HC.out.1, decide_eq_false_iff_not]; exact fun hh => hh (by intro i hi h2; rw [HC.out.2]; exact hz.out i hi h2)
      subst hc1
      go_wp2
      go_ret
      exact ⟨rfl, B⟩
/-- whether an object is wrong for a reason -/
theorem wrongR_any (v tv bv : Value) (l : List UInt64) (T : List (List UInt8)) (O : List Hb) (b : Hb) (r : Nat) (c : Bool) (hc : c = decide (¬ L19.Good l T O r b)) (hr : 7 ≤ r ∧ r ≤ 11) (hi : In19 l b) (hty : 8 < r → Typed T b) (hT : ∀ t ∈ T, kErr t = 0) (hl : l.length ≤ 1000000) (hO : ∀ b ∈ O, 0 ≤ b.at_ ∧ b.at_ ≤ 1000000) (hOl : O.length ≤ 1000000) (w : World) (hw : Words w v l) (h : Typs w tv T) (hb : Blks w bv O) :
    Calls Tryz.prog 162 #[v, tv, bv, .agg #[.int .i64 b.at_, .int .i64 b.size, .int .i64 b.kind, .int .i64 b.ty, .bool b.mark, .int .u64 b.next.toNat], .int .i64 r] w fun e w' => e = .returned (.bool c) ∧ Below w.heap.size w w' := by
  obtain ⟨h1, h2⟩ := hr
  obtain rfl | rfl | rfl | rfl | rfl : r = 7 ∨ r = 8 ∨ r = 9 ∨ r = 10 ∨ r = 11 := by omega
  · exact wrong7 v tv bv b c hc w
  · exact wrong8 v tv bv T b c hc (by obtain ⟨a, _, hok, _⟩ := hi; exact hok.bounds.2.2.2.2.1) hT w h
  · exact wrong9 v tv bv l T b c hc hi (hty (by omega)) hl w hw h
  · exact wrong10 v tv bv l T b c hc hi (hty (by omega)) hl w hw h
  · exact wrong11 v tv bv l T O b c hc hi (hty (by omega)) hl hO hOl w hw h hb
end Go.Proofs.YtmbokdnndlnjkaaGreat
namespace Go.Proofs.YtmbokdnndlnjkaaGreat
open Go.RowKit L01 L02 L05 L06 L07 L13 L14 L15 L18 L19
/-- what the reference knows of an image -/
structure Rs19 (W : World) (v tv sv bv : Value) (l : List UInt64) (T : List (List UInt8)) (S : List Sl) (O : List Hb) : Prop where
  w : Words W v l
  t : Typs W tv T
  s : Slots W sv S
  b : Blks W bv O
theorem Rs19.below {W W' : World} {v tv sv bv : Value} {l : List UInt64} {T : List (List UInt8)} {S : List Sl} {O : List Hb} (h : Rs19 W v tv sv bv l T S O) (hb : Below W.heap.size W W') : Rs19 W' v tv sv bv l T S O :=
  ⟨h.w.below hb, h.t.below hb, Slots.below h.s hb, h.b.below hb⟩
set_option maxRecDepth 100000 in
set_option maxHeartbeats 8000000 in
theorem WhyR_any (v : Value) (l : List UInt64) (hs : SizeOk l.length) (n : Nat) (hn : n = why l) (w : World) (h : Words w v l) :
    Calls Tryz.prog 145 #[v] w fun e w' => e = .returned (.int .i64 n) ∧ Below w.heap.size w w' := by
  have B : Below w.heap.size w w := Below.refl _ _
  have H := Lib.hid h
  have hs2 := hs
  obtain ⟨hn1, hn2, hn3⟩ := hs2
  obtain ⟨sw, hsw⟩ : ∃ x, x = sW l := ⟨_, rfl⟩
  obtain ⟨st, hst⟩ : ∃ x, x = sT l := ⟨_, rfl⟩
  obtain ⟨i0, hi0⟩ : ∃ x, x = is0 l := ⟨_, rfl⟩
  obtain ⟨i1, hi1⟩ : ∃ x, x = is1 l := ⟨_, rfl⟩
  obtain ⟨r1, hr1⟩ : ∃ x, x = rErr l := ⟨_, rfl⟩
  have TT := Lib.hid (fun w h => TReadR_any v l sw st i0 i1 r1 hsw hst hi0 hi1 hr1 w h)
  obtain ⟨z1, hz1⟩ : ∃ x, x = decide (Zr l 16) := ⟨_, rfl⟩
  obtain ⟨z2, hz2⟩ : ∃ x, x = decide (Zr l 24) := ⟨_, rfl⟩
  have Z1 : Hid (∀ w, Words w v l → Calls Tryz.prog 161 #[v, .int .i64 16] w fun e w' => e = .returned (.bool z1) ∧ w = w') := Lib.hid (fun w h => emptyR19_any v l 16 z1 hz1 (by omega) (by omega) w h)
  have Z2 : Hid (∀ w, Words w v l → Calls Tryz.prog 161 #[v, .int .i64 24] w fun e w' => e = .returned (.bool z2) ∧ w = w') := Lib.hid (fun w h => emptyR19_any v l 24 z2 hz2 (by omega) (by omega) w h)
  obtain ⟨t4, ht4⟩ : ∃ x, x = decide (rErr l = 0 ∧ tabErr l (sT l) = 0) := ⟨_, rfl⟩
  obtain ⟨T, hT⟩ : ∃ T, T = if t4 = true then T19 l else [] := ⟨_, rfl⟩
  have KT := Lib.hid (fun w h => TypesR19_any v l hs T t4 ht4 hT w h)
  obtain ⟨S, hS⟩ : ∃ S, S = all l := ⟨_, rfl⟩
  obtain ⟨t5, ht5⟩ : ∃ x, x = decide (openErr l = 0) := ⟨_, rfl⟩
  have AT := Lib.hid (fun w h => ToldR_any v l hs S t5 hS ht5 w h)
  obtain ⟨L, hL⟩ : ∃ L, L = allL l := ⟨_, rfl⟩
  obtain ⟨t6, ht6⟩ : ∃ x, x = decide (allErr l = 0) := ⟨_, rfl⟩
  have WT := Lib.hid (fun w h => ParsedR_any v l hs L t6 hL ht6 w h)
  have h6 : why6 l = if r1 ≠ 0 then 1 else if z1 = false then 2 else if z2 = false then 3 else if t4 = false then 4 else if t5 = false then 5 else if t6 = false then 6 else 0 := by
    rw [why6, hr1]
    by_cases c0 : rErr l = 0 <;> by_cases c1 : Zr l 16 <;> by_cases c2 : Zr l 24 <;> by_cases c3 : tabErr l (sT l) = 0 <;> by_cases c4 : openErr l = 0 <;> by_cases c5 : allErr l = 0 <;> simp [hz1, hz2, ht4, ht5, ht6, c0, c1, c2, c3, c4, c5]
  have HW6 := Lib.hid h6
  have HWY := Lib.hid (show ∀ k, why6 l = k → k ≠ 0 → n = k from fun k hk h0 => by rw [hn, why, if_pos (by rw [hk]; exact h0), hk])
  have HWN := Lib.hid (show why6 l = 0 → n = if whyO l (T19 l) (O19 l) 5 7 ≠ 0 then whyO l (T19 l) (O19 l) 5 7 else if SlotsGood (slots l) (O19 l) then 0 else 12 from fun h0 => by rw [hn, why, if_neg (fun h => h h0)])
  have HF := Lib.hid (And.intro hT (And.intro hS (And.intro hL hs)))
  have HD := Lib.hid (And.intro ht4 (And.intro ht5 ht6))
  clear hn hsw hst hi0 hi1 hr1 hz1 hz2 hT ht4 hS ht5 hL ht6 h hn1 hn2 hn3 hs h6
  go_enter Tryz.func145, Tryz.ntmps145
  go_wp2_with fail
  refine (TT.out _ (H.out.below B)).mono ?_
  rintro e wa1 ⟨rfl, b⟩
  replace B := B.trans (b.mono B.size); clear b
  go_upto_region 2 with (fail)
  refine wp_gen (fun Wv => Bx Wv (wa1.heap.size) (69) (#[.int .i64 sw, .int .i64 st]) ∧ Bx Wv (wa1.heap.size + 1) (70) (#[.bool i0, .bool i1]) ∧ Below wa1.heap.size wa1 Wv) ⟨(((Bx.at_ (by simp)).alloc _)), ((Bx.at_ (by simp))), (((Below.refl _ wa1).alloc (by simp <;> omega) _).alloc (by simp <;> omega) _)⟩ ?_
  rintro wa2 ⟨g2, g3, b⟩
  replace B := B.trans (b.mono B.size); clear b
  have c_g2 := g2.cell; have f_g2 := g2.free; have a_g2 := fun o => (g2.alloc o).cell; have d_g2 := fun o o2 => ((g2.alloc o).alloc o2).cell; have e_g2 := fun o => (g2.alloc o).free
  have c_g3 := g3.cell; have f_g3 := g3.free; have a_g3 := fun o => (g3.alloc o).cell; have d_g3 := fun o o2 => ((g3.alloc o).alloc o2).cell; have e_g3 := fun o => (g3.alloc o).free
  by_cases h1 : r1 = 0
  case neg =>
    have n1 : (r1 != 0) = true := by rw [bne_iff_ne]; exact h1
    obtain rfl := HWY.out 1 (by rw [HW6.out, if_pos h1]) (by omega)
    clear h1
    go_wp2
    go_ret
    exact ⟨rfl, B⟩
  case pos =>
    subst h1
    go_upto_region 4 with (fail)
    go_wp2_with fail
    refine (Z1.out _ (H.out.below B)).mono ?_
    rintro e w' ⟨rfl, rfl⟩
    cases z1
    · obtain rfl := HWY.out 2 (by rw [HW6.out]; simp) (by omega)
      go_wp2
      go_ret
      exact ⟨rfl, B⟩
    · go_wp2_with fail
      refine (Z2.out _ (H.out.below B)).mono ?_
      rintro e w' ⟨rfl, rfl⟩
      cases z2
      · obtain rfl := HWY.out 3 (by rw [HW6.out]; simp) (by omega)
        go_wp2
        go_ret
        exact ⟨rfl, B⟩
      · clear g2 g3 c_g2 f_g2 a_g2 d_g2 e_g2 c_g3 f_g3 a_g3 d_g3 e_g3
        go_upto_region 8 with (fail)
        go_wp2_with fail
        refine (KT.out _ (H.out.below B)).mono ?_
        rintro e wa3 ⟨xt, rfl, ot, b⟩
        replace B := B.trans (b.mono B.size); clear b
        cases t4
        · obtain rfl := HWY.out 4 (by rw [HW6.out]; simp) (by omega)
          go_wp2
          go_ret
          exact ⟨rfl, B⟩
        · skip
          go_wp2_with fail
          refine (AT.out _ (H.out.below B)).mono ?_
          rintro e wa4 ⟨xs, rfl, os, b⟩
          replace ot := ot.below b; replace B := B.trans (b.mono B.size); clear b
          cases t5
          · obtain rfl := HWY.out 5 (by rw [HW6.out]; simp) (by omega)
            go_wp2
            go_ret
            exact ⟨rfl, B⟩
          · skip
            go_wp2_with fail
            refine (WT.out _ (H.out.below B)).mono ?_
            rintro e wa5 ⟨xl, rfl, ol, b⟩
            replace ot := ot.below b; replace os := os.below b; replace B := B.trans (b.mono B.size); clear b
            cases t6
            · obtain rfl := HWY.out 6 (by rw [HW6.out]; simp) (by omega)
              go_wp2
              go_ret
              exact ⟨rfl, B⟩
            · have e6 := HW6.out
              simp only [ne_eq, not_true, if_false, Bool.true_eq_false] at e6
              have HN := Lib.hid (HWN.out e6)
              obtain ⟨d4, d5, d6⟩ := HD.out
              have d4' := (of_decide_eq_true d4.symm).2
              have d5' := of_decide_eq_true d5.symm
              have d6' := of_decide_eq_true d6.symm
              obtain ⟨hT, hS, hL, hs⟩ := HF.out
              have hT' : T = T19 l := by simpa using hT
              have hS' : S = slots l := by rw [hS, all, if_pos d5']
              have hkT := (T19_ok d4').2
              have hIn : ∀ b ∈ O19 l, In19 l b := fun b hb => in19_of d6' hb
              have hl1 : l.length ≤ 1000000 := by have := hs.2.1; omega
              have hOl : ∀ b ∈ O19 l, 0 ≤ b.at_ ∧ b.at_ ≤ 1000000 := fun b hb => by obtain ⟨a, _, h2, h3, h4, _, _, _, h8, _⟩ := objs_at d6' hb; omega
              have hOn := objs_len d6'
              have hLn := all_len d6'
              have hSn := slots_len' d5'
              have hI64 : ∀ s ∈ slots l, s.used = true → 0 ≤ s.at_ ∧ s.at_ ≤ 1000000 := fun s hs' hu => by
                obtain ⟨x, hx, rfl⟩ := List.mem_map.1 hs'
                have := (allR_of d5' x hx).2.2.2 hu
                omega
              rw [← hL] at hLn
              obtain ⟨O, hO⟩ : ∃ O, O = O19 l := ⟨_, rfl⟩
              have OT := Lib.hid (fun w h => objsR_any xl L O (by rw [hO, O19, hL]) w h (by omega))
              rw [← hO] at hIn hOl hOn
              rw [← hT'] at hkT
              rw [← hS'] at hSn hI64
              have HK := Lib.hid (And.intro hkT (And.intro hIn (And.intro hl1 (And.intro hOl hI64))))
              have HSN := Lib.hid hSn
              have HN' : Hid (n = if whyO l T O 5 7 ≠ 0 then whyO l T O 5 7 else if SlotsGood S O then 0 else 12) := by rw [hT', hS', hO]; exact HN
              clear HN e6 d4 d5 d6 d4' d5' d6' hT hS hL hs hT' hS' hkT hIn hl1 hOl hLn hSn hI64 hO HD HF HW6 HWY HWN
              go_wp2_with fail
              refine (OT.out _ ol.rd).mono ?_
              rintro e wa6 ⟨xo, rfl, oo, b⟩
              replace ot := ot.below b; replace os := os.below b; replace ol := ol.below b; replace B := B.trans (b.mono B.size); clear b
              obtain ⟨NO, hNO⟩ : ∃ N, N = O.length := ⟨_, rfl⟩
              rw [← hNO] at hOn
              have HNO := Lib.hid hNO
              clear hNO
              have HG0 := Lib.hid (And.intro (Rs19.mk (H.out.below B) ot.rd os.rd oo.rd) B)
              clear ot os ol oo B
              go_wp2
              go_loopg [11] 5 (fun gg i wr => ∃ j : Nat, 7 ≤ j ∧ j ≤ 12 ∧ gg = 12 - j ∧ i = .int .i64 j ∧ Hid (Rs19 wr v xt xs xo l T S O ∧ Below w.heap.size w wr) ∧ Hid (∀ i, 7 ≤ i → i < j → AllGood l T O i))
              case atStart => exact ⟨7, by omega, by omega, by omega, rfl, HG0, Lib.hid (fun i h1 h2 => by omega)⟩
              case round =>
                obtain ⟨j, hj7, hj, rfl, rfl, hh, hz⟩ := hrel
                clear HG0
                by_cases hlt : j ≤ 11
                · have n1 : decide ((j : Int) ≤ 11) = true := decide_eq_true (by omega)
                  go_wp2
                  go_loopg [12] NO (fun gg i wx => ∃ k : Nat, k ≤ NO ∧ gg = NO - k ∧ i = .int .i64 k ∧ Hid (Rs19 wx v xt xs xo l T S O ∧ Below w.heap.size w wx) ∧ Hid (∀ i b, i < k → O[i]? = some b → L19.Good l T O j b))
                  case atStart => exact ⟨0, by omega, by omega, rfl, hh, Lib.hid (fun i b h1 => by omega)⟩
                  case round =>
                    obtain ⟨k, hk, rfl, rfl, hh2, hz2⟩ := hrel
                    clear hh
                    obtain ⟨rs, B⟩ := hh2.out
                    have lo := rs.b.len
                    rw [← HNO.out] at lo
                    by_cases hlk : k < NO
                    · obtain ⟨bb, oo, b, ia, m0, m1, m2, m3, m4, m5, hb, _⟩ := rs.b.at_ (k := k) (by rw [← HNO.out]; exact hlk)
                      have hbO := List.mem_of_getElem? hb.out
                      obtain ⟨c, hc⟩ : ∃ c, c = decide (¬ L19.Good l T O j b) := ⟨_, rfl⟩
                      have WR := Lib.hid (fun w hw ht hb' => wrongR_any v xt xo l T O b j c hc ⟨hj7, hlt⟩ (HK.out.2.1 b hbO) (fun h8 => hz.out 8 (by omega) (by omega) b hbO) HK.out.1 HK.out.2.2.1 HK.out.2.2.2.1 (by rw [← HNO.out]; omega) w hw ht hb')
                      cases c
                      · have hg : L19.Good l T O j b := by simpa using hc.symm
                        have HZ : Hid (∀ i b, i < k + 1 → O[i]? = some b → L19.Good l T O j b) := Lib.hid (fun i b' hi hb' => by
                          by_cases e : i = k
                          · subst e; rw [hb.out] at hb'; injection hb' with hb'; subst hb'; exact hg
                          · exact hz2.out i b' (by omega) hb')
                        clear hc hg hbO hb
                        go_wp2_with fail
                        refine (WR.out _ rs.w rs.t rs.b).mono ?_
                        rintro e wa7 ⟨rfl, b⟩
                        replace rs := rs.below b; replace B := B.trans (b.mono B.size); clear b
                        have HG := Lib.hid (And.intro rs B)
                        go_wp2
                        go_roundg (NO - (k + 1))
                        case measure => omega
                        case rel => exact ⟨k + 1, by omega, rfl, by go_num, HG, HZ⟩
                      · have hg : ¬ L19.Good l T O j b := by simpa using hc.symm
                        have hwo := whyO_at (l := l) (T := T) (O := O) 5 7 (j - 7) (by omega) (fun i hi => hz.out (7 + i) (by omega) (by omega)) (by rw [show 7 + (j - 7) = j by omega]; exact fun ha => hg (ha b hbO))
                        rw [show 7 + (j - 7) = j by omega] at hwo
                        have hn : n = j := by rw [HN'.out, hwo, if_pos (by omega)]
                        subst hn
                        clear hc hg hbO hb hwo
                        go_wp2_with fail
                        refine (WR.out _ rs.w rs.t rs.b).mono ?_
                        rintro e wa8 ⟨rfl, b⟩
                        replace rs := rs.below b; replace B := B.trans (b.mono B.size); clear b
                        go_wp2
                        go_ret
                        exact ⟨rfl, B⟩
                    · obtain rfl : k = NO := by omega
                      have HZ : Hid (∀ i, 7 ≤ i → i < j + 1 → AllGood l T O i) := Lib.hid (fun i h1 h2 => by
                        by_cases e : i = j
                        · subst e
                          intro b hb
                          obtain ⟨q, hq⟩ := List.getElem?_of_mem hb
                          exact hz2.out q b (by rw [HNO.out]; exact (List.getElem?_eq_some_iff.1 hq).1) hq
                        · exact hz.out i h1 (by omega))
                      go_wp2
                      go_roundg (12 - (j + 1))
                      case measure => omega
                      case rel => exact ⟨j + 1, by omega, by omega, rfl, by go_num, hh2, HZ⟩
                · obtain rfl : j = 12 := by omega
                  have hw0 := (whyO_zero (l := l) (T := T) (O := O) 5 7 (by omega)).2 (fun i h1 h2 => hz.out i h1 (by omega))
                  have hn0 : n = if SlotsGood S O then 0 else 12 := by rw [HN'.out, hw0, if_neg (by omega)]
                  have HN := Lib.hid hn0
                  clear hw0 hn0
                  go_wp2
                  go_loopg [13] 16 (fun gg i wx => ∃ k : Nat, k ≤ 16 ∧ gg = 16 - k ∧ i = .int .i64 k ∧ Hid (Rs19 wx v xt xs xo l T S O ∧ Below w.heap.size w wx) ∧ Hid (∀ i s, i < k → S[i]? = some s → s.used = true → IsObj O s.at_))
                  case atStart => exact ⟨0, by omega, by omega, rfl, hh, Lib.hid (fun i b h1 => by omega)⟩
                  case round =>
                    obtain ⟨k, hk, rfl, rfl, hh2, hz2⟩ := hrel
                    clear hh
                    obtain ⟨rs, B⟩ := hh2.out
                    have ls := Rd.len rs.s Tryz.underlying29
                    rw [HSN.out] at ls
                    by_cases hlk : k < 16
                    · obtain ⟨bb, oo, t, ia, m0, m1, m2, ht⟩ := rs.s.at_ (P := Tryz.prog) Tryz.underlying29 size_slot (k := k) (by rw [HSN.out]; exact hlk)
                      obtain ⟨tg, tu, ta⟩ := t
                      dsimp only at m0 m1 m2
                      have HT := Lib.hid ht.out
                      clear ht
                      cases tu
                      · have HZ : Hid (∀ i s, i < k + 1 → S[i]? = some s → s.used = true → IsObj O s.at_) := Lib.hid (fun i s hi hs hu => by
                          by_cases e : i = k
                          · subst e; rw [HT.out] at hs; injection hs with hs; subst hs; cases hu
                          · exact hz2.out i s (by omega) hs hu)
                        go_wp2
                        go_roundg (16 - (k + 1))
                        case measure => omega
                        case rel => exact ⟨k + 1, by omega, rfl, by go_num, hh2, HZ⟩
                      · obtain ⟨y1, y2⟩ := HK.out.2.2.2.2 _ (List.mem_of_getElem? HT.out) rfl
                        dsimp only at y1 y2
                        obtain ⟨a, ha⟩ : ∃ a : UInt64, ta = (a.toNat : Int) := ⟨UInt64.ofNat ta.toNat, by
                          rw [UInt64.toNat_ofNat_of_lt' (by show ta.toNat < 18446744073709551616; omega)]; omega⟩
                        subst ha
                        have hwa : IntKind.u64.wrap (a.toNat : Int) = (a.toNat : Int) := by rw [wrap_u64]; omega
                        obtain ⟨r, hr⟩ : ∃ r, r = idxI O a.toNat := ⟨_, rfl⟩
                        have IT := Lib.hid (fun w h => idxR_any xo O a r hr HK.out.2.2.2.1 (by rw [← HNO.out]; omega) w h)
                        have hneg : r < 0 ↔ ¬ IsObj O a.toNat := by rw [hr]; exact idxI_neg
                        by_cases ho : IsObj O a.toNat
                        · have n1 : decide (r < 0) = false := decide_eq_false (fun h => hneg.1 h ho)
                          have n2 : ¬ r < 0 := fun h => hneg.1 h ho
                          have HZ : Hid (∀ i s, i < k + 1 → S[i]? = some s → s.used = true → IsObj O s.at_) := Lib.hid (fun i s hi hs hu => by
                            by_cases e : i = k
                            · subst e; rw [HT.out] at hs; injection hs with hs; subst hs; exact ho
                            · exact hz2.out i s (by omega) hs hu)
                          clear hr hneg ho y1 y2
                          go_wp2_with fail
                          refine (IT.out _ rs.b).mono ?_
                          rintro e w' ⟨rfl, rfl⟩
                          go_wp2
                          go_roundg (16 - (k + 1))
                          case measure => omega
                          case rel => exact ⟨k + 1, by omega, rfl, by go_num, hh2, HZ⟩
                        · have n1 : decide (r < 0) = true := decide_eq_true (hneg.2 ho)
                          have n2 : r < 0 := hneg.2 ho
                          have hn0 : n = 12 := by rw [HN.out, if_neg (fun hsg => ho (hsg _ (List.mem_of_getElem? HT.out) rfl))]
                          subst hn0
                          clear hr hneg ho y1 y2
                          go_wp2_with fail
                          refine (IT.out _ rs.b).mono ?_
                          rintro e w' ⟨rfl, rfl⟩
                          go_wp2
                          go_ret
                          exact ⟨rfl, B⟩
                    · obtain rfl : k = 16 := by omega
                      have hsg : SlotsGood S O := fun s hs hu => by
                        obtain ⟨i, hi⟩ := List.getElem?_of_mem hs
                        exact hz2.out i s (by rw [← HSN.out]; exact (List.getElem?_eq_some_iff.1 hi).1) hi hu
                      have hn0 : n = 0 := by rw [HN.out, if_pos hsg]
                      subst hn0
                      clear hsg
                      go_wp2
                      go_ret
                      exact ⟨rfl, B⟩
end Go.Proofs.YtmbokdnndlnjkaaGreat
