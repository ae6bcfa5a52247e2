/- Contracts of tables of slots: finding, resolving. -/
import Derived.Test.YteiocllnhljpjaaC18c
set_option linter.unusedVariables false
set_option linter.unusedSimpArgs false
namespace Go.Proofs.Yteiocllnhljpjaa
open Go.RowKit L01 L02 L18

theorem tab_one (L : List Sl) : (tab L).all (·.oneCell') = true := all_oneCell_toArray (tabL_one L)
theorem tab_get3 {L : List Sl} {k : Nat} {s : Sl} (h : L[k]? = some s) : (tab L)[k * 3]? = some (.int .i64 s.gen) ∧ (tab L)[k * 3 + 1]? = some (.bool s.used) ∧ (tab L)[k * 3 + 2]? = some (.int .i64 s.at_) := by
  have h0 := tabL_get L k s h 0 (by omega)
  have h1 := tabL_get L k s h 1 (by omega)
  have h2 := tabL_get L k s h 2 (by omega)
  simp only [tab, List.getElem?_toArray]
  exact ⟨h0, h1, h2⟩

def findS (L : List Sl) (sl g : Int) : Sl := if rightErr L sl g = 0 then L.getD sl.toNat .none else .none

set_option maxRecDepth 100000 in
set_option maxHeartbeats 1000000 in
theorem find_any (L : List Sl) (hL : L.length = 16) (V : Array Value) (hV : V = tab L) (sl g : Int) (s : Sl) (r : Int) (hs : s = findS L sl g) (hr : r = rightErr L sl g) (w : World) :
    Calls Try.prog 36 #[.agg V, .agg #[.int .i64 sl, .int .i64 g]] w fun e w' => e = .returned (.tuple #[.agg #[.int .i64 s.gen, .bool s.used, .int .i64 s.at_], .int .i64 r]) ∧ Below w.heap.size w w' := by
  have B : Below w.heap.size w w := Below.refl _ _
  have HV := Lib.hid hV
  by_cases hin : 0 ≤ sl ∧ sl < 16
  · obtain ⟨h0, h1⟩ := hin
    obtain ⟨k, rfl⟩ := Int.eq_ofNat_of_zero_le h0
    have hk : k < 16 := by omega
    have hx : L[k]? = some (L[k]'(by omega)) := List.getElem?_eq_getElem (by omega)
    obtain ⟨x, hxx⟩ : ∃ x, x = L[k]'(by omega) := ⟨_, rfl⟩
    rw [← hxx] at hx; clear hxx
    obtain ⟨t0, t1, t2⟩ := tab_get3 hx
    rw [← hV] at t0 t1 t2
    have hgd : L.getD (k : Int).toNat .none = x := by simp [List.getD_eq_getElem?_getD, hx]
    by_cases hu : x.used = true ∧ x.gen = g
    · have hr0 : r = 0 := by rw [hr, rightErr, if_pos (by omega), hgd, if_pos hu]
      have hs0 : s = x := by rw [hs, findS, ← hr, if_pos hr0, hgd]
      clear hr hs hgd hx hV hL
      obtain ⟨hu1, hu2⟩ := hu
      subst hu2 hr0 hs0
      obtain ⟨gn, us, a⟩ := s
      dsimp only at hu1 t0 t1 t2 ⊢
      subst hu1
      go_enter Try.func36, Try.ntmps36
      go_upto_region 1 with (fail)
      refine wp_gen (fun Wv => Bx Wv (w.heap.size) (78) (V) ∧ Bx Wv (w.heap.size + 1) (39) (#[.int .i64 k, .int .i64 gn]) ∧ Bx Wv (w.heap.size + 1 + 1) (23) (#[.int .i64 0, .bool false, .int .i64 0]) ∧ Below w.heap.size w Wv) ⟨((((Bx.at_ (by simp)).alloc _).alloc _)), (((Bx.at_ (by simp)).alloc _)), ((Bx.at_ (by simp))), ((((Below.refl _ w).alloc (by simp <;> omega) _).alloc (by simp <;> omega) _).alloc (by simp <;> omega) _)⟩ ?_
      rintro w' ⟨g1, g2, g0, b⟩
      replace B := B.trans (b.mono B.size); clear b
      have c_g1 := g1.cell; have f_g1 := g1.free; have a_g1 := fun o => (g1.alloc o).cell; have d_g1 := fun o o2 => ((g1.alloc o).alloc o2).cell; have e_g1 := fun o => (g1.alloc o).free
      have c_g2 := g2.cell; have f_g2 := g2.free; have a_g2 := fun o => (g2.alloc o).cell; have d_g2 := fun o o2 => ((g2.alloc o).alloc o2).cell; have e_g2 := fun o => (g2.alloc o).free
      have c_g0 := g0.cell; have f_g0 := g0.free; have a_g0 := fun o => (g0.alloc o).cell; have d_g0 := fun o o2 => ((g0.alloc o).alloc o2).cell; have e_g0 := fun o => (g0.alloc o).free
      go_wp2
      refine bodyPost_ret (v := .tuple #[.agg #[.int .i64 gn, .bool true, .int .i64 a], .int .i64 0]) (by simp [results, Try.results36, go_sem, c_g1, f_g1, a_g1, e_g1, c_g2, f_g2, a_g2, e_g2, c_g0, f_g0, a_g0, e_g0]) rfl ?_
      refine ⟨rfl, ?_⟩
      (repeat (first | refine Below.setCell ?_ (by first | exact Nat.le_refl _ | (simp <;> omega)) _ | refine Below.alloc ?_ (by first | exact B.size | (have := B.size; simp <;> omega)) _)); exact B
    · have hr0 : r = 28 := by rw [hr, rightErr, if_pos (by omega), hgd, if_neg hu]
      have hs0 : s = .none := by rw [hs, findS, ← hr, hr0]; rfl
      clear hr hs hgd hx hV hL
      subst hr0 hs0
      obtain ⟨gn, us, a⟩ := x
      dsimp only at hu t0 t1 t2 ⊢
      unfold Sl.none
      dsimp only
      have hcase : us = false ∨ us = true ∧ (gn != g) = true := by
        cases us
        · exact .inl rfl
        · refine .inr ⟨rfl, ?_⟩
          rw [bne_iff_ne]; exact fun h => hu ⟨rfl, h⟩
      clear hu
      rcases hcase with rfl | ⟨rfl, hne⟩
      all_goals
        go_enter Try.func36, Try.ntmps36
        go_upto_region 1 with (fail)
        refine wp_gen (fun Wv => Bx Wv (w.heap.size) (78) (V) ∧ Bx Wv (w.heap.size + 1) (39) (#[.int .i64 k, .int .i64 g]) ∧ Bx Wv (w.heap.size + 1 + 1) (23) (#[.int .i64 0, .bool false, .int .i64 0]) ∧ Below w.heap.size w Wv) ⟨((((Bx.at_ (by simp)).alloc _).alloc _)), (((Bx.at_ (by simp)).alloc _)), ((Bx.at_ (by simp))), ((((Below.refl _ w).alloc (by simp <;> omega) _).alloc (by simp <;> omega) _).alloc (by simp <;> omega) _)⟩ ?_
        rintro w' ⟨g1, g2, g0, b⟩
        replace B := B.trans (b.mono B.size); clear b
        have c_g1 := g1.cell; have f_g1 := g1.free; have a_g1 := fun o => (g1.alloc o).cell; have d_g1 := fun o o2 => ((g1.alloc o).alloc o2).cell; have e_g1 := fun o => (g1.alloc o).free
        have c_g2 := g2.cell; have f_g2 := g2.free; have a_g2 := fun o => (g2.alloc o).cell; have d_g2 := fun o o2 => ((g2.alloc o).alloc o2).cell; have e_g2 := fun o => (g2.alloc o).free
        have c_g0 := g0.cell; have f_g0 := g0.free; have a_g0 := fun o => (g0.alloc o).cell; have d_g0 := fun o o2 => ((g0.alloc o).alloc o2).cell; have e_g0 := fun o => (g0.alloc o).free
        go_wp2
        refine bodyPost_ret (v := .tuple #[.agg #[.int .i64 0, .bool false, .int .i64 0], .int .i64 28]) (by simp [results, Try.results36, go_sem, c_g1, f_g1, a_g1, e_g1, c_g2, f_g2, a_g2, e_g2, c_g0, f_g0, a_g0, e_g0]) rfl ?_
        refine ⟨rfl, ?_⟩
        (repeat (first | refine Below.setCell ?_ (by first | exact Nat.le_refl _ | (simp <;> omega)) _ | refine Below.alloc ?_ (by first | exact B.size | (have := B.size; simp <;> omega)) _)); exact B
  · have hr0 : r = 2 := by rw [hr, rightErr, if_neg (by omega)]
    have hs0 : s = .none := by rw [hs, findS, ← hr, hr0]; rfl
    clear hr hs hV hL
    subst hr0 hs0
    unfold Sl.none
    dsimp only
    have hcase : sl < 0 ∨ 16 ≤ sl := by omega
    clear hin
    rcases hcase with hneg | hneg
    all_goals
      go_enter Try.func36, Try.ntmps36
      go_upto_region 1 with (fail)
      refine wp_gen (fun Wv => Bx Wv (w.heap.size) (78) (V) ∧ Bx Wv (w.heap.size + 1) (39) (#[.int .i64 sl, .int .i64 g]) ∧ Bx Wv (w.heap.size + 1 + 1) (23) (#[.int .i64 0, .bool false, .int .i64 0]) ∧ Below w.heap.size w Wv) ⟨((((Bx.at_ (by simp)).alloc _).alloc _)), (((Bx.at_ (by simp)).alloc _)), ((Bx.at_ (by simp))), ((((Below.refl _ w).alloc (by simp <;> omega) _).alloc (by simp <;> omega) _).alloc (by simp <;> omega) _)⟩ ?_
      rintro w' ⟨g1, g2, g0, b⟩
      replace B := B.trans (b.mono B.size); clear b
      have c_g1 := g1.cell; have f_g1 := g1.free; have a_g1 := fun o => (g1.alloc o).cell; have d_g1 := fun o o2 => ((g1.alloc o).alloc o2).cell; have e_g1 := fun o => (g1.alloc o).free
      have c_g2 := g2.cell; have f_g2 := g2.free; have a_g2 := fun o => (g2.alloc o).cell; have d_g2 := fun o o2 => ((g2.alloc o).alloc o2).cell; have e_g2 := fun o => (g2.alloc o).free
      have c_g0 := g0.cell; have f_g0 := g0.free; have a_g0 := fun o => (g0.alloc o).cell; have d_g0 := fun o o2 => ((g0.alloc o).alloc o2).cell; have e_g0 := fun o => (g0.alloc o).free
      go_wp2
      refine bodyPost_ret (v := .tuple #[.agg #[.int .i64 0, .bool false, .int .i64 0], .int .i64 2]) (by simp [results, Try.results36, go_sem, c_g1, f_g1, a_g1, e_g1, c_g2, f_g2, a_g2, e_g2, c_g0, f_g0, a_g0, e_g0]) rfl ?_
      refine ⟨rfl, ?_⟩
      (repeat (first | refine Below.setCell ?_ (by first | exact Nat.le_refl _ | (simp <;> omega)) _ | refine Below.alloc ?_ (by first | exact B.size | (have := B.size; simp <;> omega)) _)); exact B

/-- A slice of slots. -/
def Slots (w : World) (v : Value) (L : List Sl) : Prop := Rd w 3 v L.length (tabL L)
def OwnS (w : World) (base E : Nat) (v : Value) (L : List Sl) : Prop := w.ownsRow base E 3 v L.length (tabL L)
theorem OwnS.rd {w : World} {base E : Nat} {v : Value} {L : List Sl} (h : OwnS w base E v L) : Slots w v L := Rd.of_own h
theorem Slots.below {w w' : World} {v : Value} {L : List Sl} (h : Slots w v L) (hb : Below w.heap.size w w') : Slots w' v L := Rd.below h hb
theorem OwnS.below {w w' : World} {base E : Nat} {v : Value} {L : List Sl} (h : OwnS w base E v L) (hb : Below w.heap.size w w') : OwnS w' base E v L := own_below h hb
theorem OwnS.nil (w : World) (base E : Nat) : OwnS w base E (.slice none 0 0) [] := World.ownsRow_nil w base E 3
/-- a whole array, taken as a slice. -/
theorem Bx.ownS {w : World} {g base : Nat} {t : TypeId} {cs : Array Value} {L : List Sl} (h : Bx w g t cs) (hb : base ≤ g) (hc : cs = tab L) (hL : L.length = 16) : OwnS w base t (.slice (some ⟨g, 0, none⟩) 16 16) L := by
  subst hc
  unfold OwnS
  rw [hL]
  refine ⟨by rw [tabL_len, hL], .inr ⟨g, 16, tab L, rfl, hb, h, Nat.le_refl _, by simp [maxLen], by rw [tab_size, hL], ?_⟩⟩
  rw [List.take_of_length_le (by simp [tab, tabL_len]; omega)]
  simp [tab]

theorem all_nil {l : List UInt64} (h : openErr l ≠ 0) : all l = [] := if_neg h
theorem all_ok {l : List UInt64} (h : openErr l = 0) : all l = slots l := if_pos h
theorem tabOf_ok {l : List UInt64} (h : openErr l = 0) : tabOf l = slots l := if_pos h
theorem slots16 {l : List UInt64} (h : openErr l = 0) : (slots l).length = 16 := by rw [← tabOf_ok h, tabOf_len]

set_option maxRecDepth 100000 in
set_option maxHeartbeats 1000000 in
theorem All18_any (v : Value) (l : List UInt64) (L : List Sl) (r : Int) (hL : L = all l) (hr : r = openErr l) (w : World) (h : Words w v l) :
    Calls Try.prog 16 #[v] w fun e w' => ∃ x E, e = .returned (.tuple #[x, .int .i64 r]) ∧ OwnS w' w.heap.size E x L ∧ Below w.heap.size w w' := by
  have B : Below w.heap.size w w := Below.refl _ _
  obtain ⟨V, hV⟩ : ∃ V, V = tab (tabOf l) := ⟨_, rfl⟩
  have OT := fun w h => open_any v l V hV r hr w h
  have HOT := Lib.hid OT; have H := Lib.hid h; clear OT h
  by_cases h0 : openErr l = 0
  · have hr0 : r = 0 := hr.trans h0
    have hVs : V.size = 48 := by rw [hV]; exact tabOf_size l
    have hV1 : V.all (·.oneCell') = true := by rw [hV]; exact tab_one _
    have hLS : L = slots l := hL.trans (all_ok h0)
    have hVL : V = tab L := by rw [hV, tabOf_ok h0, hLS]
    have hL16 : L.length = 16 := by rw [hLS]; exact slots16 h0
    subst hr0
    have HVs := Lib.hid hVs; have HV1 := Lib.hid hV1; have HVL := Lib.hid hVL; have HL16 := Lib.hid hL16
    clear hr h0 hVs hV1 hLS hVL hL16 hV hL
    go_enter Try.func16, Try.ntmps16
    go_wp2_with fail
    refine (HOT.out _ (H.out.below B)).mono ?_
    rintro e w' ⟨rfl, b⟩
    replace B := B.trans (b.mono B.size); clear b
    go_wp2_with ((with_reducible refine at_store 78 4 9 ?_); refine wpList_storeNew rfl _ _ _ rfl rfl V rfl rfl (by rw [HVs.out]; exact size_table) (by rw [HVs.out]; rfl) HV1.out ?_; intro W q1 b1)
    go_ret2
    exact ⟨_, _, rfl, q1.ownS B.size HVL.out HL16.out, B.trans (b1.mono B.size)⟩
  · have hne : (r != 0) = true := by rw [bne_iff_ne, hr]; exact h0
    have hVs : V.size = 48 := by rw [hV]; exact tabOf_size l
    have hV1 : V.all (·.oneCell') = true := by rw [hV]; exact tab_one _
    have hL0 : L = [] := hL.trans (all_nil h0)
    have HVs := Lib.hid hVs; have HV1 := Lib.hid hV1
    clear hr h0 hVs hV1 hV hL
    subst hL0
    go_enter Try.func16, Try.ntmps16
    go_wp2_with fail
    refine (HOT.out _ (H.out.below B)).mono ?_
    rintro e w' ⟨rfl, b⟩
    replace B := B.trans (b.mono B.size); clear b
    go_wp2_with ((with_reducible refine at_store 78 4 9 ?_); refine wpList_storeNew rfl _ _ _ rfl rfl V rfl rfl (by rw [HVs.out]; exact size_table) (by rw [HVs.out]; rfl) HV1.out ?_; intro W q1 b1)
    go_ret2
    exact ⟨_, 0, rfl, OwnS.nil _ _ _, B.trans (b1.mono B.size)⟩

set_option maxRecDepth 100000 in
set_option maxHeartbeats 1000000 in
theorem Resolve_any (v : Value) (l : List UInt64) (sl g : Int) (x r : Int) (hx : x = res l sl g) (hr : r = resErr l sl g) (w : World) (h : Words w v l) :
    Calls Try.prog 18 #[v, .agg #[.int .i64 sl, .int .i64 g]] w fun e w' => e = .returned (.tuple #[.int .i64 x, .int .i64 r]) ∧ Below w.heap.size w w' := by
  have B : Below w.heap.size w w := Below.refl _ _
  obtain ⟨V, hV⟩ : ∃ V, V = tab (tabOf l) := ⟨_, rfl⟩
  obtain ⟨oe, hoe⟩ : ∃ oe, oe = openErr l := ⟨_, rfl⟩
  have OT := fun w h => open_any v l V hV oe hoe w h
  have HOT := Lib.hid OT; have H := Lib.hid h; clear OT h
  have hVs : V.size = 48 := by rw [hV]; exact tabOf_size l
  have hV1 : V.all (·.oneCell') = true := by rw [hV]; exact tab_one _
  have HVs := Lib.hid hVs; have HV1 := Lib.hid hV1
  clear hVs hV1
  by_cases h0 : openErr l = 0
  · have hr0 : r = rightErr (slots l) sl g := by rw [hr, resErr, if_pos h0]
    obtain ⟨s, hs⟩ : ∃ s, s = findS (slots l) sl g := ⟨_, rfl⟩
    have hx0 : x = s.at_ := by
      rw [hx, res, resErr, if_pos h0, hs, findS]
      split <;> rfl
    have FT := fun w => find_any (slots l) (slots16 h0) V (by rw [hV, tabOf_ok h0]) sl g s r hs hr0 w
    have HFT := Lib.hid FT
    rw [h0] at hoe
    subst hoe hx0
    clear FT hr h0 hV hs hx hr0
    go_enter Try.func18, Try.ntmps18
    go_upto_region 1 with (fail)
    refine wp_gen (fun Wv => Bx Wv (w.heap.size) (39) (#[.int .i64 sl, .int .i64 g]) ∧ Below w.heap.size w Wv) ⟨((Bx.at_ (by simp))), ((Below.refl _ w).alloc (by simp <;> omega) _)⟩ ?_
    rintro w' ⟨g1, b⟩
    replace B := B.trans (b.mono B.size); clear b
    have c_g1 := g1.cell; have f_g1 := g1.free; have a_g1 := fun o => (g1.alloc o).cell; have d_g1 := fun o o2 => ((g1.alloc o).alloc o2).cell; have e_g1 := fun o => (g1.alloc o).free
    go_wp2_with fail
    refine (HOT.out _ (H.out.below B)).mono ?_
    rintro e w' ⟨rfl, b⟩
    try clear c_g1 f_g1 a_g1 d_g1 e_g1
    replace g1 := g1.below b; have c_g1 := g1.cell; have f_g1 := g1.free; have a_g1 := fun o => (g1.alloc o).cell; have d_g1 := fun o o2 => ((g1.alloc o).alloc o2).cell; have e_g1 := fun o => (g1.alloc o).free; replace B := B.trans (b.mono B.size); clear b
    go_wp2_with (first
      | ((with_reducible refine at_store 78 6 12 ?_); refine wpList_storeNew rfl _ _ _ rfl rfl V rfl rfl (by rw [HVs.out]; exact size_table) (by rw [HVs.out]; rfl) HV1.out ?_; intro W q1 b1; have k1 := (g1.below b1).cell)
      | ((with_reducible refine at_load 18 78 6 ?_); refine wpList_loadRow rfl _ _ rfl _ rfl q1 _ Try.underlying78 rfl (by rw [HVs.out]; exact size_table) ?_))
    refine (HFT.out _).mono ?_
    rintro e w' ⟨rfl, b⟩
    replace B := (B.trans (b1.mono B.size)).trans (b.mono (Nat.le_trans B.size b1.size))
    clear k1 b b1 q1
    go_wp2
    go_ret2
    exact ⟨rfl, by (repeat (first | refine Below.setCell ?_ (by first | exact Nat.le_refl _ | (simp <;> omega)) _ | refine Below.alloc ?_ (by first | exact B.size | (have := B.size; simp <;> omega)) _)); exact B⟩
  · have hne : (oe != 0) = true := by rw [bne_iff_ne, hoe]; exact h0
    have hr0 : r = oe := by rw [hr, resErr, if_neg h0, hoe]
    have hx0 : x = 0 := by rw [hx, res, resErr, if_neg h0, if_neg h0]
    clear hr h0 hV hx hoe
    subst hr0 hx0
    go_enter Try.func18, Try.ntmps18
    go_upto_region 1 with (fail)
    refine wp_gen (fun Wv => Bx Wv (w.heap.size) (39) (#[.int .i64 sl, .int .i64 g]) ∧ Below w.heap.size w Wv) ⟨((Bx.at_ (by simp))), ((Below.refl _ w).alloc (by simp <;> omega) _)⟩ ?_
    rintro w' ⟨g1, b⟩
    replace B := B.trans (b.mono B.size); clear b
    have c_g1 := g1.cell; have f_g1 := g1.free; have a_g1 := fun o => (g1.alloc o).cell; have d_g1 := fun o o2 => ((g1.alloc o).alloc o2).cell; have e_g1 := fun o => (g1.alloc o).free
    go_wp2_with fail
    refine (HOT.out _ (H.out.below B)).mono ?_
    rintro e w' ⟨rfl, b⟩
    try clear c_g1 f_g1 a_g1 d_g1 e_g1
    replace g1 := g1.below b; have c_g1 := g1.cell; have f_g1 := g1.free; have a_g1 := fun o => (g1.alloc o).cell; have d_g1 := fun o o2 => ((g1.alloc o).alloc o2).cell; have e_g1 := fun o => (g1.alloc o).free; replace B := B.trans (b.mono B.size); clear b
    go_wp2_with ((with_reducible refine at_store 78 6 12 ?_); refine wpList_storeNew rfl _ _ _ rfl rfl V rfl rfl (by rw [HVs.out]; exact size_table) (by rw [HVs.out]; rfl) HV1.out ?_; intro W q1 b1)
    go_ret2
    exact ⟨rfl, B.trans (b1.mono B.size)⟩
end Go.Proofs.Yteiocllnhljpjaa
