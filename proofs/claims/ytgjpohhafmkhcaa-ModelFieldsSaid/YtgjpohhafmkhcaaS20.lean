/- Slices of slots: what is known of them; contracts of the reference's functions on them. -/
import Derived.Test.YtgjpohhafmkhcaaRow
import Derived.Test.YtgjpohhafmkhcaaInfo
import Derived.Test.YtgjpohhafmkhcaaL18
set_option linter.unusedVariables false
set_option linter.unusedSimpArgs false
namespace Go.Proofs.Ytgjpohhafmkhcaa
open Go.RowKit L02 L18

def slC (s : Sl) : List Value := [.int .i64 s.gen, .bool s.used, .int .i64 s.at_]
def tabL (L : List Sl) : List Value := L.flatMap slC
def tab (L : List Sl) : Array Value := (tabL L).toArray
theorem tabL_len (L : List Sl) : (tabL L).length = L.length * 3 := by
  induction L with
  | nil => rfl
  | cons s L ih => rw [tabL, List.flatMap_cons, List.length_append, ← tabL, ih]; simp [slC]; omega
theorem tabL_get : ∀ (L : List Sl) (k : Nat) (s : Sl), L[k]? = some s → ∀ i, i < 3 → (tabL L)[k * 3 + i]? = (slC s)[i]?
  | [], _, _, h, _, _ => by cases h
  | t :: L, 0, s, h, i, hi => by
    simp at h; subst h
    rw [tabL, List.flatMap_cons, Nat.zero_mul, Nat.zero_add, List.getElem?_append_left (by simpa [slC] using hi)]
  | t :: L, k + 1, s, h, i, hi => by
    rw [tabL, List.flatMap_cons, List.getElem?_append_right (by simp [slC]; omega)]
    rw [show (k + 1) * 3 + i - (slC t).length = k * 3 + i by simp [slC]; omega]
    exact tabL_get L k s (by simpa using h) i hi
theorem tabL_one (L : List Sl) : ∀ u ∈ tabL L, u.oneCell' = true := by
  intro u hu
  obtain ⟨s, _, hs⟩ := List.mem_flatMap.1 hu
  simp [slC] at hs
  rcases hs with rfl | rfl | rfl <;> rfl
theorem tab_size (L : List Sl) : (tab L).size = L.length * 3 := by simp [tab, tabL_len]
theorem size_slot : (Try.prog.info? 67).map (·.size) = some 3 := by kernel_rfl
theorem slot_one (s : Sl) : (#[.int .i64 s.gen, .bool s.used, .int .i64 s.at_] : Array Value).all (·.oneCell') = true := by simp [Value.oneCell']

/-- A slice of slots. -/
def Slots (w : World) (v : Value) (L : List Sl) : Prop := Rd w 3 v L.length (tabL L)
def OwnS (w : World) (base E : Nat) (v : Value) (L : List Sl) : Prop := w.ownsRow base E 3 v L.length (tabL L)
theorem OwnS.rd {w : World} {base E : Nat} {v : Value} {L : List Sl} (h : OwnS w base E v L) : Slots w v L := Rd.of_own h
theorem Slots.below {w w' : World} {v : Value} {L : List Sl} (h : Slots w v L) (hb : Below w.heap.size w w') : Slots w' v L := Rd.below h hb
theorem OwnS.below {w w' : World} {base E : Nat} {v : Value} {L : List Sl} (h : OwnS w base E v L) (hb : Below w.heap.size w w') : OwnS w' base E v L := own_below h hb
theorem OwnS.nil (w : World) (base E : Nat) : OwnS w base E (.slice none 0 0) [] := World.ownsRow_nil w base E 3
/-- a whole array, taken as a slice. -/
theorem Bx.ownS {w : World} {g base : Nat} {t : TypeId} {cs : Array Value} {L : List Sl} (h : Bx w g t cs) (hb : base ≤ g) (hc : cs = tab L) (hL : L.length = 16) : OwnS w base t (.slice (some ⟨g, 0, none⟩) 16 16) L := by
  subst hc
  unfold OwnS
  rw [hL]
  refine ⟨by rw [tabL_len, hL], .inr ⟨g, 16, tab L, rfl, hb, h, Nat.le_refl _, by simp [maxLen], by rw [tab_size, hL], ?_⟩⟩
  rw [List.take_of_length_le (by simp [tab, tabL_len]; omega)]
  simp [tab]

theorem slot_neq (s t : Sl) (b : Bool) (hb : b = !decide (s = t)) (W : World) : (binOp .neq 67 (.agg #[.int .i64 s.gen, .bool s.used, .int .i64 s.at_]) (.agg #[.int .i64 t.gen, .bool t.used, .int .i64 t.at_])).run Try.prog W = .ok (.bool b) W := by
  subst hb
  obtain ⟨g, u, a⟩ := s
  obtain ⟨g', u', a'⟩ := t
  have e : decide ((⟨g, u, a⟩ : Sl) = ⟨g', u', a'⟩) = (g == g' && (u == u' && a == a')) := by
    rw [Bool.eq_iff_iff]; simp
  rw [e]
  cases h : (g == g') <;> cases h2 : (u == u') <;> cases h3 : (a == a') <;> simp [go_sem, h, h2, h3]

theorem Slots.at_ {P : Program} {w : World} {v : Value} {L : List Sl} {t e : TypeId} (h : Slots w v L) (ht : P.underlying t = some (.slice e)) (hi : (P.info? e).map (·.size) = some 3) {k : Nat} (hk : k < L.length) :
    ∃ b o s, (∀ W, (Instr.indexAt t v (.int .i64 (k : Int))).run P W = .ok (.pointer (some ⟨b, o, none⟩)) W) ∧ w.cell? ⟨b, o, none⟩ = some (.int .i64 s.gen) ∧ w.cell? ⟨b, o + 1, none⟩ = some (.bool s.used) ∧ w.cell? ⟨b, o + 2, none⟩ = some (.int .i64 s.at_) ∧ Hid (L[k]? = some s) := by
  have hix := fun W => Rd.ixN h ht hi hk W
  obtain ⟨b, o, c, rfl, hb, hc, hcell⟩ := Rd.form h (by omega)
  have hs : L[k]? = some L[k] := List.getElem?_eq_getElem hk
  have t0 := tabL_get L k _ hs 0 (by omega)
  have t1 := tabL_get L k _ hs 1 (by omega)
  have t2 := tabL_get L k _ hs 2 (by omega)
  refine ⟨b, o + k * 3, L[k], fun W => hix W, hcell _ _ t0, hcell _ _ t1, hcell _ _ t2, Lib.hid hs⟩

set_option maxRecDepth 100000 in
set_option maxHeartbeats 1000000 in
theorem RightR_any (v : Value) (L : List Sl) (sl g : Int) (r : Int) (hr : r = rightErr L sl g) (w : World) (h : Slots w v L) :
    Calls Try.prog 34 #[v, .agg #[.int .i64 sl, .int .i64 g]] w fun e w' => e = .returned (.int .i64 r) ∧ Below w.heap.size w w' := by
  have B : Below w.heap.size w w := Below.refl _ _
  have l1 := Rd.len h Try.underlying24
  obtain ⟨N, hN⟩ : ∃ N, N = L.length := ⟨_, rfl⟩
  rw [← hN] at l1
  by_cases hin : 0 ≤ sl ∧ sl < N
  · obtain ⟨h0, h1⟩ := hin
    obtain ⟨k, rfl⟩ := Int.eq_ofNat_of_zero_le h0
    obtain ⟨b, o, s, ia, m0, m1, m2, hs⟩ := h.at_ (P := Try.prog) Try.underlying24 size_slot (k := k) (by omega)
    have hgd : L.getD (k : Int).toNat .none = s := by simp [List.getD_eq_getElem?_getD, hs.out]
    have hrr : r = if s.used = true ∧ s.gen = g then 0 else 28 := by rw [hr, rightErr, if_pos (by omega), hgd]
    clear hr hgd hs
    have HN := Lib.hid hN; clear hN h
    obtain ⟨gn, us, a⟩ := s
    dsimp only at *
    have hcase : (us = false ∧ r = 28) ∨ (us = true ∧ (gn != g) = true ∧ r = 28) ∨ (us = true ∧ (gn != g) = false ∧ r = 0) := by
      cases us
      · exact .inl ⟨rfl, by rw [hrr, if_neg (by simp)]⟩
      · by_cases hg : gn = g
        · exact .inr (.inr ⟨rfl, by rw [bne_eq_false_iff_eq]; exact hg, by rw [hrr, if_pos ⟨rfl, hg⟩]⟩)
        · exact .inr (.inl ⟨rfl, by rw [bne_iff_ne]; exact hg, by rw [hrr, if_neg (fun h => hg h.2)]⟩)
    clear hrr
    have n0 : (0 : Int) ≤ (k : Int) := by omega
    rcases hcase with ⟨rfl, rfl⟩ | ⟨rfl, hne, rfl⟩ | ⟨rfl, hne, rfl⟩
    all_goals
      go_enter Try.func34, Try.ntmps34
      go_upto_region 1 with (fail)
      refine wp_gen (fun Wv => Bx Wv (w.heap.size) (28) (#[.int .i64 k, .int .i64 g]) ∧ Below w.heap.size w Wv) ⟨((Bx.at_ (by simp))), ((Below.refl _ w).alloc (by simp <;> omega) _)⟩ ?_
      rintro w' ⟨g3, b⟩
      replace m0 := cell_later b m0; replace m1 := cell_later b m1; replace m2 := cell_later b m2; replace B := B.trans (b.mono B.size); clear b
      have c_g3 := g3.cell; have f_g3 := g3.free; have a_g3 := fun o => (g3.alloc o).cell; have d_g3 := fun o o2 => ((g3.alloc o).alloc o2).cell; have e_g3 := fun o => (g3.alloc o).free
      go_wp2
      refine wp_region_calm (by kernel_rfl) (by kernel_rfl) ?_
      try clear c_g3 f_g3 a_g3 d_g3 e_g3
      have c_g3 := fun x : Fut _ => (g3.below x.h).cell
      have c_m0 := fun x : Fut _ => cell_later x.h m0
      have c_m1 := fun x : Fut _ => cell_later x.h m1
      have c_m2 := fun x : Fut _ => cell_later x.h m2
      repeat (go_big_quiet_step (fail))
      refine wpQuiet_nil ?_
      intro _ hw'
      obtain ⟨xq, hw''⟩ := hw'
      subst hw''
      clear c_m0; replace m0 := cell_later xq.h m0
      clear c_m1; replace m1 := cell_later xq.h m1
      clear c_m2; replace m2 := cell_later xq.h m2
      clear c_g3; replace g3 := g3.below xq.h; have c_g3 := g3.cell; have f_g3 := g3.free; have a_g3 := fun o => (g3.alloc o).cell; have d_g3 := fun o o2 => ((g3.alloc o).alloc o2).cell; have e_g3 := fun o => (g3.alloc o).free
      replace B := B.trans (xq.h.mono B.size)
      go_wp2
      go_ret
      exact ⟨rfl, B⟩
  · have hr0 : r = 2 := by rw [hr, rightErr, if_neg (by omega)]
    clear hr h hN
    subst hr0
    have hcase : sl < 0 ∨ 0 ≤ sl ∧ (N : Int) ≤ sl := by omega
    clear hin
    rcases hcase with hneg | ⟨hneg, hbig⟩
    all_goals
      go_enter Try.func34, Try.ntmps34
      go_upto_region 1 with (fail)
      refine wp_gen (fun Wv => Bx Wv (w.heap.size) (28) (#[.int .i64 sl, .int .i64 g]) ∧ Below w.heap.size w Wv) ⟨((Bx.at_ (by simp))), ((Below.refl _ w).alloc (by simp <;> omega) _)⟩ ?_
      rintro w' ⟨g3, b⟩
      replace B := B.trans (b.mono B.size); clear b
      have c_g3 := g3.cell; have f_g3 := g3.free; have a_g3 := fun o => (g3.alloc o).cell; have d_g3 := fun o o2 => ((g3.alloc o).alloc o2).cell; have e_g3 := fun o => (g3.alloc o).free
      go_wp2
      go_ret
      exact ⟨rfl, B⟩

def nextI (L : List Sl) : Int := match next L with | none => -1 | some k => (k : Int)
theorem nextFrom_drop {L : List Sl} {k : Nat} {s : Sl} (h : L[k]? = some s) : nextFrom (L.drop k) k = if s.used = false ∧ s.gen ≠ 2147483647 then some k else nextFrom (L.drop (k + 1)) (k + 1) := by
  obtain ⟨hk, rfl⟩ := List.getElem?_eq_some_iff.1 h
  rw [List.drop_eq_getElem_cons hk, nextFrom]

set_option maxRecDepth 100000 in
set_option maxHeartbeats 1000000 in
theorem NextR_any (v : Value) (L : List Sl) (r : Int) (hr : r = nextI L) (w : World) (h : Slots w v L) (hL : ∀ s ∈ L, s.gen ≤ 2147483647) :
    Calls Try.prog 62 #[v] w fun e w' => e = .returned (.int .i64 r) ∧ w = w' := by
  have l1 := Rd.len h Try.underlying24
  have l2 := Rd.len_le h
  obtain ⟨N, hN⟩ : ∃ N, N = L.length := ⟨_, rfl⟩
  rw [← hN] at l1 l2
  have HN := Lib.hid hN; have H := Lib.hid h; have HR := Lib.hid hr; have HL := Lib.hid hL; clear hN h hr hL
  go_enter Try.func62, Try.ntmps62
  go_wp2
  go_loop [3] (fun i => ∃ k : Nat, k ≤ N ∧ i = .int .i64 k ∧ Hid (nextFrom (L.drop k) k = next L)) (fun i => N - (intOf i).toNat)
  case atStart => exact ⟨0, Nat.zero_le _, rfl, Lib.hid rfl⟩
  case round =>
    obtain ⟨k, hk, rfl, hh⟩ := hrel
    by_cases hlt : k < N
    · obtain ⟨b, o, s, ia, c0, c1, c2, hs⟩ := H.out.at_ (P := Try.prog) Try.underlying24 size_slot (k := k) (by have := HN.out; omega)
      have hnf := nextFrom_drop hs.out
      have hg := HL.out s (List.mem_of_getElem? hs.out)
      rw [hh.out] at hnf
      obtain ⟨gn, us, a⟩ := s
      dsimp only at *
      have hcase : (us = true ∧ next L = nextFrom (L.drop (k + 1)) (k + 1)) ∨ (us = false ∧ ¬ gn < 2147483647 ∧ next L = nextFrom (L.drop (k + 1)) (k + 1)) ∨ (us = false ∧ gn < 2147483647 ∧ next L = some k) := by
        cases us
        · by_cases hg2 : gn = 2147483647
          · exact .inr (.inl ⟨rfl, by omega, by rw [hnf, if_neg (fun h => h.2 hg2)]⟩)
          · exact .inr (.inr ⟨rfl, by omega, by rw [hnf, if_pos ⟨rfl, hg2⟩]⟩)
        · exact .inl ⟨rfl, by rw [hnf, if_neg (fun h => by simp at h)]⟩
      clear hnf hh hs
      rcases hcase with ⟨rfl, hx⟩ | ⟨rfl, hg2, hx⟩ | ⟨rfl, hg2, hx⟩
      · have HX := Lib.hid hx; clear hx
        go_wp2
        go_round
        case rel => exact ⟨k + 1, by omega, by go_num, Lib.hid HX.out.symm⟩
        case measure => simp [intOf]; omega
      · have HX := Lib.hid hx; clear hx
        go_wp2
        go_round
        case rel => exact ⟨k + 1, by omega, by go_num, Lib.hid HX.out.symm⟩
        case measure => simp [intOf]; omega
      · have HX := Lib.hid hx; clear hx
        go_wp2
        go_ret
        exact ⟨ret_int (by rw [HR.out, nextI, HX.out]), rfl⟩
    · obtain rfl : k = N := by omega
      go_wp2
      go_ret
      exact ⟨ret_int (by rw [HR.out, nextI, ← hh.out, List.drop_of_length_le (by have := HN.out; omega)]; rfl), rfl⟩

def sameS (a b : List Sl) : Bool := decide (a = b)
theorem sameS_refl (a : List Sl) : sameS a a = true := by simp [sameS]

set_option maxRecDepth 100000 in
set_option maxHeartbeats 1000000 in
theorem SameS_any (va vb : Value) (La Lb : List Sl) (r : Bool) (hr : r = sameS La Lb) (w : World) (ha : Slots w va La) (hb : Slots w vb Lb) :
    Calls Try.prog 47 #[va, vb] w fun e w' => e = .returned (.bool r) ∧ Below w.heap.size w w' := by
  have B : Below w.heap.size w w := Below.refl _ _
  have la1 := Rd.len ha Try.underlying24; have lb1 := Rd.len hb Try.underlying24
  have la2 := Rd.len_le ha; have lb2 := Rd.len_le hb
  have HA := Lib.hid ha; have HB := Lib.hid hb; have HR := Lib.hid hr; clear ha hb hr
  obtain ⟨na, hna⟩ : ∃ na, na = La.length := ⟨_, rfl⟩
  obtain ⟨nb, hnb⟩ : ∃ nb, nb = Lb.length := ⟨_, rfl⟩
  rw [← hna] at la1 la2; rw [← hnb] at lb1 lb2
  have Hna := Lib.hid hna; have Hnb := Lib.hid hnb; clear hna hnb
  by_cases hl : na = nb
  · subst hl
    go_enter Try.func47, Try.ntmps47
    go_wp2
    have HBB := Lib.hid B; clear B
    go_loopw [5] (fun i wr => ∃ k : Nat, k ≤ na ∧ i = .int .i64 k ∧ Hid (La.take k = Lb.take k) ∧ Below w.heap.size w wr) (fun i _ => na - (intOf i).toNat)
    case atStart => exact ⟨0, Nat.zero_le _, rfl, Lib.hid rfl, HBB.out⟩
    case round =>
      obtain ⟨k, hk, rfl, heq, B⟩ := hrel
      by_cases hlt : k < na
      · obtain ⟨b, o, s, ia, m0, m1, m2, hs⟩ := (HA.out.below B).at_ (P := Try.prog) Try.underlying24 size_slot (k := k) (by have := Hna.out; omega)
        obtain ⟨b', o', t, ib, m3, m4, m5, ht⟩ := (HB.out.below B).at_ (P := Try.prog) Try.underlying24 size_slot (k := k) (by have := Hnb.out; omega)
        obtain ⟨c, hc⟩ : ∃ c, c = !decide (s = t) := ⟨_, rfl⟩
        have q := fun W => slot_neq s t c hc W
        have HC := Lib.hid hc; clear hc
        cases c
        · go_wp2
          refine wp_region_calm (by kernel_rfl) (by kernel_rfl) ?_
          have c_m0 := fun x : Fut _ => cell_later x.h m0
          have c_m1 := fun x : Fut _ => cell_later x.h m1
          have c_m2 := fun x : Fut _ => cell_later x.h m2
          have c_m3 := fun x : Fut _ => cell_later x.h m3
          have c_m4 := fun x : Fut _ => cell_later x.h m4
          have c_m5 := fun x : Fut _ => cell_later x.h m5
          repeat (go_big_quiet_step (fail))
          refine wpQuiet_nil ?_
          intro _ hw'
          obtain ⟨xq, hw''⟩ := hw'
          subst hw''
          clear c_m0; replace m0 := cell_later xq.h m0
          clear c_m1; replace m1 := cell_later xq.h m1
          clear c_m2; replace m2 := cell_later xq.h m2
          clear c_m3; replace m3 := cell_later xq.h m3
          clear c_m4; replace m4 := cell_later xq.h m4
          clear c_m5; replace m5 := cell_later xq.h m5
          replace B := B.trans (xq.h.mono B.size)
          go_wp2
          go_roundw
          case rel =>
            have e : s = t := by have := HC.out; simpa using this
            refine ⟨k + 1, by omega, by go_num, Lib.hid ?_, B⟩
            rw [List.take_add_one, List.take_add_one, heq.out, hs.out, ht.out, e]
          case measure => simp [intOf]; omega
        · go_wp2
          refine wp_region_calm (by kernel_rfl) (by kernel_rfl) ?_
          have c_m0 := fun x : Fut _ => cell_later x.h m0
          have c_m1 := fun x : Fut _ => cell_later x.h m1
          have c_m2 := fun x : Fut _ => cell_later x.h m2
          have c_m3 := fun x : Fut _ => cell_later x.h m3
          have c_m4 := fun x : Fut _ => cell_later x.h m4
          have c_m5 := fun x : Fut _ => cell_later x.h m5
          repeat (go_big_quiet_step (fail))
          refine wpQuiet_nil ?_
          intro _ hw'
          obtain ⟨xq, hw''⟩ := hw'
          subst hw''
          clear c_m0; replace m0 := cell_later xq.h m0
          clear c_m1; replace m1 := cell_later xq.h m1
          clear c_m2; replace m2 := cell_later xq.h m2
          clear c_m3; replace m3 := cell_later xq.h m3
          clear c_m4; replace m4 := cell_later xq.h m4
          clear c_m5; replace m5 := cell_later xq.h m5
          replace B := B.trans (xq.h.mono B.size)
          go_wp2
          go_ret
          refine ⟨ret_bool ?_, B⟩
          have e : ¬ s = t := by have := HC.out; simpa using this
          rw [HR.out, sameS, eq_comm, decide_eq_false_iff_not]
          intro hab
          have h1 := hs.out; have h2 := ht.out
          rw [hab, h2] at h1
          injection h1 with h1
          exact e h1.symm
      · obtain rfl : k = na := by omega
        go_wp2
        go_ret
        refine ⟨ret_bool ?_, B⟩
        have h1 := heq.out
        rw [List.take_of_length_le (by have := Hna.out; omega), List.take_of_length_le (by have := Hnb.out; omega)] at h1
        rw [HR.out, h1, sameS_refl]
  · have hl' : ((na : Int) != nb) = true := by rw [bne_iff_ne]; omega
    go_enter Try.func47, Try.ntmps47
    go_wp2
    go_ret
    refine ⟨ret_bool ?_, B⟩
    rw [HR.out, sameS, eq_comm, decide_eq_false_iff_not]
    intro hab
    have h1 := Hna.out; have h2 := Hnb.out
    rw [hab] at h1; omega
end Go.Proofs.Ytgjpohhafmkhcaa
