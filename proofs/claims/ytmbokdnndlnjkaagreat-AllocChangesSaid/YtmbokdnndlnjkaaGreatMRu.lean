/- Contracts of the functions that the laws 'R' reach, part 21. No condition. -/
import Derived.Test.YtmbokdnndlnjkaaGreatMRt
set_option linter.unusedVariables false
set_option linter.unusedSimpArgs false
namespace Go.Proofs.YtmbokdnndlnjkaaGreat
open Go.RowKit Go.Maps L02 L13 L18 L20
/-- .. that has just n entries, those whose keys K tells -/
def MapN (P : Program) (k e : TypeId) (z0 : Lit) (W : World) (g n : Nat) (f : Int → Lit) (K : Int → Bool) : Prop :=
  ∃ D : DataW Unit, W.ownsMap P k (plainElem P e) g n D ∧ (∀ a, D.atKey (.int .i64 a) (.lit z0) = .lit (f a)) ∧ size D = n ∧ ∀ a, has D (.int .i64 a) = K a
section
variable {P : Program} {k e : TypeId} {z0 : Lit} {W : World} {g n : Nat} {f : Int → Lit} {K : Int → Bool}
theorem MapN.made (W : World) : MapN P k e z0 (W.alloc (.map #[] 0)) W.heap.size 0 (fun _ => z0) (fun _ => false) :=
  ⟨.map [], World.ownsMap_made W P k _, fun a => rfl, rfl, fun a => rfl⟩
theorem MapN.kept {W' : World} {row : Option Nat} (h : MapN P k e z0 W g n f K) (hg : W.grownBy W' row) (hne : some g ≠ row) : MapN P k e z0 W' g n f K := by
  obtain ⟨D, h1, h2⟩ := h; exact ⟨D, h1.kept hg hne, h2⟩
theorem MapN.below {W' : World} (h : MapN P k e z0 W g n f K) (hb : Below W.heap.size W W') : MapN P k e z0 W' g n f K := by
  obtain ⟨D, ⟨es, clock, hh, F, hs, hD⟩, h2⟩ := h
  exact ⟨D, ⟨es, clock, (hb.block g (Array.getElem?_eq_some_iff.1 hh).1).trans hh, F, hs, hD⟩, h2⟩
theorem MapL.block (h : MapL P k e z0 W g n f) : ∃ es clock, W.heap[g]? = some (.map es clock) := by
  obtain ⟨D, ⟨es, clock, hh, _⟩, _⟩ := h; exact ⟨es, clock, hh⟩
theorem MapN.len {t : TypeId} (h : MapN P k e z0 W g n f K) (ht : P.underlying t = some (.map k e)) : ∀ ty, (Builtin.len_ #[t] ty #[.map (some g)]).run P W = .ok (.int .i64 (n : Int)) W := by
  obtain ⟨D, h1, _, h3, _⟩ := h
  intro ty
  rw [h1.len ht ty, h3]
theorem MapN.put {t : TypeId} (h : MapN P k e z0 W g n f K) (hk : P.underlying k = some (.int .i64)) (ht : P.underlying t = some (.map k e)) (hn : n < maxLen) {a : Int} (ha : i64Ok a) (hK : K a = false) {v : Value} {l : Lit} (hv : plainElem (H := Unit) P e v = some (.lit l, [])) :
    ∃ W', (Instr.mapUpdate t (.map (some g)) (.int .i64 a) v).run P W = .ok () W' ∧ MapN P k e z0 W' g (n + 1) (fun b => if b = a then l else f b) (fun b => decide (b = a) || K b) ∧ W.grownBy W' (some g) := by
  obtain ⟨D, h1, h2, h3, h4⟩ := h
  obtain ⟨W', r1, r2, r3⟩ := h1.update (int_keyed hk) ht hn (keyOf_int_mk hk (lit_wf ha)) hv
  refine ⟨W', r1, ⟨_, r2, fun b => ?_, ?_, fun b => ?_⟩, r3⟩
  · by_cases hb : b = a
    · subst hb
      show _ = DataW.lit (if b = b then l else f b)
      rw [if_pos rfl]
      exact atKey_put_same (h1.isMap) ((int_keyed hk).key (keyOf_int_mk hk (lit_wf ha))) _ _
    · show _ = DataW.lit (if b = a then l else f b)
      rw [if_neg hb, atKey_put_other (by intro e; injection e with _ e; exact hb e), h2]
  · rw [size_put (h1.tidy (int_keyed hk)), h4, hK, h3]; rfl
  · by_cases hb : b = a
    · subst hb
      rw [has_put_same h1.isMap ((int_keyed hk).key (keyOf_int_mk hk (lit_wf ha)))]; simp
    · rw [has_put_other (by intro e; injection e with _ e; exact hb e), h4]; simp [hb]
end
end Go.Proofs.YtmbokdnndlnjkaaGreat
namespace Go.Proofs.YtmbokdnndlnjkaaGreat
open Go.RowKit L01 L02 L05 L06 L07 L13 L14 L15 L18 L19 L20
theorem All18_own (v : Value) (l : List UInt64) (L : List Sl) (hL : L = slots l) (h0 : openErr l = 0) (w : World) (h : Words w v l) :
    Calls Tryz.prog 27 #[v] w fun e w' => ∃ x, e = .returned (.tuple #[x, .int .i64 0]) ∧ OwnS w' w.heap.size 172 x L ∧ Below w.heap.size w w' := by
  have B : Below w.heap.size w w := Below.refl _ _
  obtain ⟨V, hV⟩ : ∃ V, V = tab (tabOf l) := ⟨_, rfl⟩
  have HOT := Lib.hid (fun w h => open_any v l V hV 0 h0.symm w h); have H := Lib.hid h; clear h
  have hVs : V.size = 48 := by rw [hV]; exact tabOf_size l
  have hV1 : V.all (·.oneCell') = true := by rw [hV]; exact tab_one _
  have hVL : V = tab L := by rw [hV, tabOf_ok h0, hL]
  have hL16 : L.length = 16 := by rw [hL]; exact slots16 h0
  have HVs := Lib.hid hVs; have HV1 := Lib.hid hV1; have HVL := Lib.hid hVL; have HL16 := Lib.hid hL16
  clear h0 hVs hV1 hVL hL16 hV hL
  go_enter Tryz.func27, Tryz.ntmps27
  go_wp2_with fail
  refine (HOT.out _ (H.out.below B)).mono ?_
  rintro e w' ⟨rfl, b⟩
  replace B := B.trans (b.mono B.size); clear b
  go_wp2_with ((with_reducible refine at_store 172 4 9 ?_); refine wpList_storeNew rfl _ _ _ rfl rfl V rfl rfl (by rw [HVs.out]; exact size_table) (by rw [HVs.out]; rfl) HV1.out ?_; intro W q1 b1)
  go_ret2
  exact ⟨_, rfl, q1.ownS B.size HVL.out HL16.out, B.trans (b1.mono B.size)⟩
/-- one more object at the end of a model's objects: all else is kept -/
structure PushO (wr W' w : World) (B0 p : Nat) (v xt ys : Value) (L : List Ob) (o : Ob) : Prop where
  own : OwnO W' B0 v (L ++ [o])
  md : Bx W' p 31 #[xt, v, ys]
  below : Below B0 w W'
  row : ∀ {B e sz n : Nat} {x : Value} {xs : List Value}, wr.ownsRow B e sz x n xs → e ≠ 85 → e ≠ 31 → W'.ownsRow B e sz x n xs
  bx : ∀ {q : Nat} {t : TypeId} {cs : Array Value}, Bx wr q t cs → q ≠ p → 85 ≠ t → Bx W' q t cs
  map : ∀ {k e : TypeId} {z0 : Lit} {g n : Nat} {f : Int → Lit} {K : Int → Bool}, MapN Tryz.prog k e z0 wr g n f K → MapN Tryz.prog k e z0 W' g n f K
theorem PushO.t {wr W' w : World} {B0 p : Nat} {v xt ys : Value} {L : List Ob} {o : Ob} (h : PushO wr W' w B0 p v xt ys L o) {B : Nat} {x : Value} {T : List (List UInt8)} (hT : OwnT wr B x T) : OwnT W' B x T := by
  obtain ⟨vs, a1, a2, a4⟩ := hT
  exact ⟨vs, a1, h.row a2 (by decide) (by decide), fun i x l h5 h6 => h.row (a4 i x l h5 h6) (by decide) (by decide)⟩
theorem inKinds {l : List UInt64} (rt : Rt l) {b : Hb} (hb : b ∈ O19 l) : ∃ (a q : Nat) (t : List UInt8), b.at_ = a ∧ b.ty = q ∧ (T19 l)[q]? = some t ∧ kindsB (T19 l) b = t ∧ 128 ≤ a ∧ a ≤ 2048 ∧ a + 2 + t.length ≤ l.length ∧ t.length ≤ 8 := by
  have hty : Typed (T19 l) b := rt.good 8 (by omega) (by omega) b hb
  obtain ⟨a, q, t, ha, hq, hTq, hkB, _, hle, _⟩ := in_kinds (in19_of rt.al hb) hty
  have hkE : kErr t = 0 := (T19_ok rt.ty).2 t (List.mem_of_getElem? hTq)
  obtain ⟨a', h1, h2, h3, h4, _⟩ := objs_at rt.al hb
  have := rt.sz.2.1
  exact ⟨a, q, t, ha, hq, hTq, hkB, by omega, by omega, hle, (kErr_ok hkE).1⟩
end Go.Proofs.YtmbokdnndlnjkaaGreat
namespace Go.Proofs.YtmbokdnndlnjkaaGreat
open Go.RowKit L01 L02 L05 L06 L07 L13 L14 L15 L18 L19 L20
/-- a block that refers to an address -/
def RefTo (l : List UInt64) (T : List (List UInt8)) (a : Int) (c : Hb) : Prop := c.kind = 1 ∧ c.at_ ≠ a ∧ ∃ j, j < (kindsB T c).length ∧ ((kindsB T c).getD j 0).toNat = 3 ∧ ((fw l c j).toNat : Int) = a
set_option maxRecDepth 100000 in
set_option maxHeartbeats 8000000 in
theorem Busy23_any (v : Value) (l : List UInt64) (sl g : Int) (b : Bool) (r : Int) (hb : b = biE l sl g) (hr : r = askI l sl g) (w : World) (h : Words w v l) :
    Calls Tryz.prog 18 #[v, .agg #[.int .i64 sl, .int .i64 g]] w fun e w' => e = .returned (.tuple #[.bool b, .int .i64 r]) ∧ Below w.heap.size w w' := by
  have B : Below w.heap.size w w := Below.refl _ _
  have H := Lib.hid h
  obtain ⟨p, hp⟩ : ∃ c, c = atI l sl g := ⟨_, rfl⟩
  have OT := Lib.hid (fun w h => open23_any v l sl g p r hp hr w h)
  by_cases h0 : r = 0
  case neg =>
    obtain rfl : b = false := by rw [hb, biE, decide_eq_false (by rw [← hr]; exact h0), Bool.false_and]
    have n1 : (r != 0) = true := by rw [bne_iff_ne]; exact h0
    clear hb hr h hp h0
    go_enter Tryz.func18, Tryz.ntmps18
    go_upto_region 1 with (fail)
    refine wp_gen (fun Wv => Bx Wv (w.heap.size) (39) (#[.int .i64 sl, .int .i64 g]) ∧ Below w.heap.size w Wv) ⟨((Bx.at_ (by simp))), ((Below.refl _ w).alloc (by simp <;> omega) _)⟩ ?_
    rintro wa1 ⟨g1, b⟩
    replace B := B.trans (b.mono B.size); clear b
    have c_g1 := g1.cell; have f_g1 := g1.free; have a_g1 := fun o => (g1.alloc o).cell; have d_g1 := fun o o2 => ((g1.alloc o).alloc o2).cell; have e_g1 := fun o => (g1.alloc o).free
    go_wp2_with fail
    refine (OT.out _ (H.out.below B)).mono ?_
    rintro e wa2 ⟨rfl, b⟩
    try clear c_g1 f_g1 a_g1 d_g1 e_g1
    replace g1 := g1.below b; have c_g1 := g1.cell; have f_g1 := g1.free; have a_g1 := fun o => (g1.alloc o).cell; have d_g1 := fun o o2 => ((g1.alloc o).alloc o2).cell; have e_g1 := fun o => (g1.alloc o).free; replace B := B.trans (b.mono B.size); clear b
    go_wp2
    go_ret2
    exact ⟨rfl, B⟩
  case pos =>
    subst h0
    obtain ⟨k, a, nn, q0, bk, t0, rfl, hh⟩ := Hd.of hr.symm
    obtain rfl : p = (a : Int) := by rw [hp]; exact hh.hati
    have rt := hh.rt
    obtain ⟨T, hT⟩ : ∃ T, T = T19 l := ⟨_, rfl⟩
    obtain ⟨S, hS⟩ : ∃ S, S = slots l := ⟨_, rfl⟩
    obtain ⟨L, hL⟩ : ∃ L, L = allL l := ⟨_, rfl⟩
    obtain ⟨sw, hsw⟩ : ∃ x, x = sW l := ⟨_, rfl⟩
    obtain ⟨st, hst⟩ : ∃ x, x = sT l := ⟨_, rfl⟩
    obtain ⟨i0, hi0⟩ : ∃ x, x = is0 l := ⟨_, rfl⟩
    obtain ⟨i1, hi1⟩ : ∃ x, x = is1 l := ⟨_, rfl⟩
    have T3 := Lib.hid (fun w h => TRead_any v l sw st i0 i1 0 hsw hst hi0 hi1 rt.tw.symm w h)
    have KT := Lib.hid (fun w h => KTable_any v l st T 0 (by rw [hT, hst]; rfl) (by rw [hst]; exact rt.ty.symm) w h)
    have AT := Lib.hid (fun w h => All18_own v l S hS rt.sl w h)
    have WT := Lib.hid (fun w h => AllW_any v l L 0 hL rt.al.symm w h)
    have hbu : b = true ↔ Busy (L19.seen l) k (L20.own (L19.seen l) k) := by rw [hb, biE, decide_eq_true hr.symm, Bool.true_and, decide_eq_true_iff]
    rw [hh.busy, ← hS, ← hT] at hbu
    have hobj : ∀ c, c ∈ L → c.kind = 1 → c ∈ O19 l := fun c h1 h2 => objs_mem.2 ⟨by rw [← hL]; exact h1, h2⟩
    have hyS : ∀ i s, (i : Nat) ≠ k → S[i]? = some s → s.used = true → s.at_ = a → b = true := fun i s h1 h2 h3 h4 => hbu.2 (.inl ⟨i, s, h1, h2, h3, h4⟩)
    have hyF : ∀ c, c ∈ L → RefTo l T a c → b = true := fun c h1 ⟨h2, h3, j, h4, h5, h6⟩ => hbu.2 (.inr ⟨c, hobj c h1 h2, h3, j, h4, h5, h6⟩)
    have hno : (∀ (i : Nat) s, i < 16 → S[i]? = some s → ¬ ((i : Int) ≠ k ∧ s.used = true ∧ s.at_ = a)) → (∀ i c, i < L.length → L[i]? = some c → ¬ RefTo l T a c) → b = false := fun h1 h2 => by
      rw [← Bool.not_eq_true]
      intro hb1
      rcases hbu.1 hb1 with ⟨i, s, z1, z2, z3, z4⟩ | ⟨c, z1, z2, z3⟩
      · have hi := (List.getElem?_eq_some_iff.1 z2).1
        rw [hS, slots_len' rt.sl] at hi
        exact h1 i s hi z2 ⟨by omega, z3, z4⟩
      · obtain ⟨y1, y2⟩ := objs_mem.1 z1
        obtain ⟨i, hi⟩ := List.getElem?_of_mem y1
        rw [← hL] at hi
        exact h2 i c (List.getElem?_eq_some_iff.1 hi).1 hi ⟨y2, z2, z3⟩
    have hL9 : L.length ≤ 960 := by rw [hL]; exact all_len rt.al
    have hS16 : S.length = 16 := by rw [hS]; exact slots_len' rt.sl
    obtain ⟨N, hN⟩ : ∃ N, N = L.length := ⟨_, rfl⟩
    have hN9 : N ≤ 960 := by omega
    have ha2 := hh.ha2
    have hk16 := hh.hk
    have HRT := Lib.hid rt; have HT := Lib.hid hT; have HN := Lib.hid hN; have HS16 := Lib.hid hS16; have HOB := Lib.hid hobj; have HYS := Lib.hid hyS; have HYF := Lib.hid hyF; have HNO := Lib.hid hno
    have wa0 : IntKind.u64.wrap (a : Int) = (a : Int) := by show (a : Int) % 18446744073709551616 = _; omega
    clear h hb hr hp rt hT hS hL hL9 hS16 hN hsw hst hi0 hi1 hobj hyS hyF hno hbu hh
    go_enter Tryz.func18, Tryz.ntmps18
    go_upto_region 1 with (fail)
    refine wp_gen (fun Wv => Bx Wv (w.heap.size) (39) (#[.int .i64 k, .int .i64 g]) ∧ Below w.heap.size w Wv) ⟨((Bx.at_ (by simp))), ((Below.refl _ w).alloc (by simp <;> omega) _)⟩ ?_
    rintro wa1 ⟨g1, b⟩
    replace B := B.trans (b.mono B.size); clear b
    have c_g1 := g1.cell; have f_g1 := g1.free; have a_g1 := fun o => (g1.alloc o).cell; have d_g1 := fun o o2 => ((g1.alloc o).alloc o2).cell; have e_g1 := fun o => (g1.alloc o).free
    go_wp2_with fail
    refine (OT.out _ (H.out.below B)).mono ?_
    rintro e wa2 ⟨rfl, b⟩
    try clear c_g1 f_g1 a_g1 d_g1 e_g1
    replace g1 := g1.below b; have c_g1 := g1.cell; have f_g1 := g1.free; have a_g1 := fun o => (g1.alloc o).cell; have d_g1 := fun o o2 => ((g1.alloc o).alloc o2).cell; have e_g1 := fun o => (g1.alloc o).free; replace B := B.trans (b.mono B.size); clear b
    go_wp2_with fail
    refine (AT.out _ (H.out.below B)).mono ?_
    rintro e wa3 ⟨xs, rfl, os, b⟩
    try clear c_g1 f_g1 a_g1 d_g1 e_g1
    replace g1 := g1.below b; have c_g1 := g1.cell; have f_g1 := g1.free; have a_g1 := fun o => (g1.alloc o).cell; have d_g1 := fun o o2 => ((g1.alloc o).alloc o2).cell; have e_g1 := fun o => (g1.alloc o).free; replace B := B.trans (b.mono B.size); clear b
    obtain ⟨gS, sc, rfl⟩ : ∃ g c, xs = .slice (some ⟨g, 0, none⟩) 16 c := by obtain ⟨g, n, c, e, e2⟩ := os.form (by rw [HS16.out]; omega); rw [e2, HS16.out] at e; exact ⟨g, c, e⟩
    have HG := Lib.hid (And.intro g1 (And.intro os.rd B))
    have HBB := Lib.hid (Below.refl wa3.heap.size wa3)
    have hB1 := B.size
    clear os g1 B c_g1 f_g1 a_g1 d_g1 e_g1
    go_wp2
    go_loopg [38] 16 (fun gg i wr => ∃ j : Nat, j ≤ 16 ∧ gg = 16 - j ∧ i = .int .i64 j ∧ Hid (Below wa3.heap.size wa3 wr ∧ ∀ (i : Nat) s, i < j → S[i]? = some s → ¬ ((i : Int) ≠ k ∧ s.used = true ∧ s.at_ = a)))
    case atStart => exact ⟨0, by omega, by omega, rfl, Lib.hid ⟨HBB.out, fun i s hi => by omega⟩⟩
    case round =>
      obtain ⟨j, hj, rfl, rfl, hh⟩ := hrel
      clear HBB
      have B2 := hh.out.1
      have HZ := Lib.hid hh.out.2
      have g1 := HG.out.1.below B2
      have B := HG.out.2.2.trans (B2.mono hB1)
      clear hh
      by_cases hlt : j < 16
      · obtain ⟨bs, qs, s, ix, m0, m1, m2, hs⟩ := (HG.out.2.1.below B2).at_ (P := Tryz.prog) Tryz.underlying29 size_slot (k := j) (by rw [HS16.out]; exact hlt)
        have hcase := busy_cases (j : Int) (k : Int) s a
        have HY := Lib.hid (fun (h1 : (j : Nat) ≠ k) (h2 : s.used = true) (h3 : s.at_ = a) => HYS.out j s h1 hs.out h2 h3)
        have HJ := Lib.hid (fun (hx : ¬ ((j : Int) ≠ k ∧ s.used = true ∧ s.at_ = (a : Int))) => show ∀ (i : Nat) s, i < j + 1 → S[i]? = some s → ¬ ((i : Int) ≠ k ∧ s.used = true ∧ s.at_ = a) from fun i s' hi hs' => by
          by_cases hij : i < j
          · exact HZ.out i s' hij hs'
          · obtain rfl : i = j := by omega
            obtain rfl : s' = s := by have := hs.out; rw [hs'] at this; injection this
            exact hx)
        obtain ⟨gn, us, at9⟩ := s
        dsimp only at *
        clear hs HZ
        rcases hcase with e1 | ⟨e1, rfl⟩ | ⟨e1, rfl, e3⟩ | ⟨e1, rfl, e3⟩
        · have HR := Lib.hid (HJ.out (fun hx => by rw [bne_eq_false_iff_eq] at e1; exact hx.1 e1))
          clear HJ HY
          go_upto_region 8 with (fail)
          refine wp_gen (fun Wv => Bx Wv (wr.heap.size) (37) (#[.int .i64 gn, .bool us, .int .i64 at9]) ∧ Below wr.heap.size wr Wv) ⟨((Bx.at_ (by simp))), ((Below.refl _ wr).alloc (by simp <;> omega) _)⟩ ?_
          rintro wa4 ⟨g2, b⟩
          try clear c_g1 f_g1 a_g1 d_g1 e_g1
          replace g1 := g1.below b; have c_g1 := g1.cell; have f_g1 := g1.free; have a_g1 := fun o => (g1.alloc o).cell; have d_g1 := fun o o2 => ((g1.alloc o).alloc o2).cell; have e_g1 := fun o => (g1.alloc o).free; replace B2 := B2.trans (b.mono B2.size); replace m0 := cell_later b m0; replace m1 := cell_later b m1; replace m2 := cell_later b m2; replace B := B.trans (b.mono B.size); clear b
          have c_g2 := g2.cell; have f_g2 := g2.free; have a_g2 := fun o => (g2.alloc o).cell; have d_g2 := fun o o2 => ((g2.alloc o).alloc o2).cell; have e_g2 := fun o => (g2.alloc o).free
          have HB2 := Lib.hid B2
          clear B2 B m0 m1 m2
          go_wp2
          go_roundg (16 - (j + 1))
          case measure => omega
          case rel => exact ⟨j + 1, by omega, rfl, by go_num, Lib.hid ⟨HB2.out, HR.out⟩⟩
        · have HR := Lib.hid (HJ.out (fun hx => by cases hx.2.1))
          clear HJ HY
          go_upto_region 8 with (fail)
          refine wp_gen (fun Wv => Bx Wv (wr.heap.size) (37) (#[.int .i64 gn, .bool false, .int .i64 at9]) ∧ Below wr.heap.size wr Wv) ⟨((Bx.at_ (by simp))), ((Below.refl _ wr).alloc (by simp <;> omega) _)⟩ ?_
          rintro wa5 ⟨g2, b⟩
          try clear c_g1 f_g1 a_g1 d_g1 e_g1
          replace g1 := g1.below b; have c_g1 := g1.cell; have f_g1 := g1.free; have a_g1 := fun o => (g1.alloc o).cell; have d_g1 := fun o o2 => ((g1.alloc o).alloc o2).cell; have e_g1 := fun o => (g1.alloc o).free; replace B2 := B2.trans (b.mono B2.size); replace m0 := cell_later b m0; replace m1 := cell_later b m1; replace m2 := cell_later b m2; replace B := B.trans (b.mono B.size); clear b
          have c_g2 := g2.cell; have f_g2 := g2.free; have a_g2 := fun o => (g2.alloc o).cell; have d_g2 := fun o o2 => ((g2.alloc o).alloc o2).cell; have e_g2 := fun o => (g2.alloc o).free
          have HB2 := Lib.hid B2
          clear B2 B m0 m1 m2
          go_wp2
          go_roundg (16 - (j + 1))
          case measure => omega
          case rel => exact ⟨j + 1, by omega, rfl, by go_num, Lib.hid ⟨HB2.out, HR.out⟩⟩
        · have HR := Lib.hid (HJ.out (fun hx => by rw [beq_eq_false_iff_ne] at e3; exact e3 hx.2.2))
          clear HJ HY
          go_upto_region 8 with (fail)
          refine wp_gen (fun Wv => Bx Wv (wr.heap.size) (37) (#[.int .i64 gn, .bool true, .int .i64 at9]) ∧ Below wr.heap.size wr Wv) ⟨((Bx.at_ (by simp))), ((Below.refl _ wr).alloc (by simp <;> omega) _)⟩ ?_
          rintro wa6 ⟨g2, b⟩
          try clear c_g1 f_g1 a_g1 d_g1 e_g1
          replace g1 := g1.below b; have c_g1 := g1.cell; have f_g1 := g1.free; have a_g1 := fun o => (g1.alloc o).cell; have d_g1 := fun o o2 => ((g1.alloc o).alloc o2).cell; have e_g1 := fun o => (g1.alloc o).free; replace B2 := B2.trans (b.mono B2.size); replace m0 := cell_later b m0; replace m1 := cell_later b m1; replace m2 := cell_later b m2; replace B := B.trans (b.mono B.size); clear b
          have c_g2 := g2.cell; have f_g2 := g2.free; have a_g2 := fun o => (g2.alloc o).cell; have d_g2 := fun o o2 => ((g2.alloc o).alloc o2).cell; have e_g2 := fun o => (g2.alloc o).free
          have HB2 := Lib.hid B2
          clear B2 B m0 m1 m2
          go_wp2
          go_roundg (16 - (j + 1))
          case measure => omega
          case rel => exact ⟨j + 1, by omega, rfl, by go_num, Lib.hid ⟨HB2.out, HR.out⟩⟩
        · obtain rfl := HY.out (by rw [bne_iff_ne] at e1; omega) rfl (by rw [beq_iff_eq] at e3; exact e3)
          clear HJ HY
          go_upto_region 8 with (fail)
          refine wp_gen (fun Wv => Bx Wv (wr.heap.size) (37) (#[.int .i64 gn, .bool true, .int .i64 at9]) ∧ Below wr.heap.size wr Wv) ⟨((Bx.at_ (by simp))), ((Below.refl _ wr).alloc (by simp <;> omega) _)⟩ ?_
          rintro wa7 ⟨g2, b⟩
          try clear c_g1 f_g1 a_g1 d_g1 e_g1
          replace g1 := g1.below b; have c_g1 := g1.cell; have f_g1 := g1.free; have a_g1 := fun o => (g1.alloc o).cell; have d_g1 := fun o o2 => ((g1.alloc o).alloc o2).cell; have e_g1 := fun o => (g1.alloc o).free; replace B2 := B2.trans (b.mono B2.size); replace m0 := cell_later b m0; replace m1 := cell_later b m1; replace m2 := cell_later b m2; replace B := B.trans (b.mono B.size); clear b
          have c_g2 := g2.cell; have f_g2 := g2.free; have a_g2 := fun o => (g2.alloc o).cell; have d_g2 := fun o o2 => ((g2.alloc o).alloc o2).cell; have e_g2 := fun o => (g2.alloc o).free
          have HB2 := Lib.hid B
          clear B2 B m0 m1 m2
          go_wp2
          go_ret2
          exact ⟨rfl, HB2.out⟩
      · obtain rfl : j = 16 := by omega
        clear HG g1 B2
        go_wp2_with fail
        refine (T3.out _ (H.out.below B)).mono ?_
        rintro e wa8 ⟨rfl, b⟩
        replace B := B.trans (b.mono B.size); clear b
        go_upto_region 12 with (fail)
        refine wp_gen (fun Wv => Bx Wv (wa8.heap.size) (69) (#[.int .i64 sw, .int .i64 st]) ∧ Below wa8.heap.size wa8 Wv) ⟨(((Bx.at_ (by simp)).alloc _)), (((Below.refl _ wa8).alloc (by simp <;> omega) _).alloc (by simp <;> omega) _)⟩ ?_
        rintro wa9 ⟨g3, b⟩
        replace B := B.trans (b.mono B.size); clear b
        have c_g3 := g3.cell; have f_g3 := g3.free; have a_g3 := fun o => (g3.alloc o).cell; have d_g3 := fun o o2 => ((g3.alloc o).alloc o2).cell; have e_g3 := fun o => (g3.alloc o).free
        go_wp2_with fail
        refine (KT.out _ (H.out.below B)).mono ?_
        rintro e wa10 ⟨xt, rfl, ot, b⟩
        try clear c_g3 f_g3 a_g3 d_g3 e_g3
        replace g3 := g3.below b; have c_g3 := g3.cell; have f_g3 := g3.free; have a_g3 := fun o => (g3.alloc o).cell; have d_g3 := fun o o2 => ((g3.alloc o).alloc o2).cell; have e_g3 := fun o => (g3.alloc o).free; replace B := B.trans (b.mono B.size); clear b
        clear c_g3 f_g3 a_g3 d_g3 e_g3
        clear g3
        go_wp2_with fail
        refine (WT.out _ (H.out.below B)).mono ?_
        rintro e wa11 ⟨xl, rfl, ol, b⟩
        replace ot := ot.below b; replace B := B.trans (b.mono B.size); clear b
        go_upto_region 14 with (fail)
        refine wp_gen (fun V => Typs V xt T ∧ Blks V xl L ∧ Below w.heap.size w V) ⟨ot.rd, ol.rd, B⟩ ?_
        clear ot ol B
        intro V0 hV0
        have HV := Lib.hid hV0
        have hV1 := hV0.2.2.size
        have HBB := Lib.hid (Below.refl V0.heap.size V0)
        have lx := hV0.2.1.len
        rw [← HN.out] at lx
        clear hV0
        go_wp2
        clear lx
        go_loopg [78] N (fun gg i wr => ∃ j : Nat, j ≤ N ∧ gg = N - j ∧ i = .int .i64 j ∧ Hid (Below V0.heap.size V0 wr ∧ ∀ i c, i < j → L[i]? = some c → ¬ RefTo l T a c))
        case atStart => exact ⟨0, by omega, by omega, rfl, Lib.hid ⟨HBB.out, fun i c hi => by omega⟩⟩
        case round =>
          obtain ⟨j, hj2, rfl, rfl, hh⟩ := hrel
          clear HBB
          have B2 := hh.out.1
          have HZ2 := Lib.hid hh.out.2
          have B := HV.out.2.2.trans (B2.mono hV1)
          clear hh
          by_cases hlt : j < N
          · obtain ⟨bb, oo, c, ia, m0, m1, m2, m3, m4, m5, hc, _⟩ := (Blks.below HV.out.2.1 B2).at_ (k := j) (by rw [← HN.out]; exact hlt)
            have HJ := Lib.hid (fun (hx : ¬ RefTo l T a c) => show ∀ i c, i < j + 1 → L[i]? = some c → ¬ RefTo l T a c from fun i c' hi hc' => by
              by_cases hij : i < j
              · exact HZ2.out i c' hij hc'
              · obtain rfl : i = j := by omega
                obtain rfl : c' = c := by have := hc.out; rw [hc'] at this; injection this
                exact hx)
            have hcL := List.mem_of_getElem? hc.out
            by_cases hk : c.kind = 1
            · by_cases hca : c.at_ = a
              · have k1 : (c.kind != 1) = false := by rw [bne_eq_false_iff_eq]; exact hk
                have k2 : (c.at_ == (a : Int)) = true := by rw [beq_iff_eq]; exact hca
                have HR := Lib.hid (HJ.out (fun hx => hx.2.1 hca))
                clear HJ hc hcL hk hca HZ2
                go_upto_region 17 with (fail)
                refine wp_gen (fun Wv => Bx Wv (wr.heap.size) (82) (#[.int .i64 c.at_, .int .i64 c.size, .int .i64 c.kind, .int .i64 c.ty, .bool c.mark, .int .u64 c.next.toNat]) ∧ Below wr.heap.size wr Wv) ⟨((Bx.at_ (by simp))), ((Below.refl _ wr).alloc (by simp <;> omega) _)⟩ ?_
                rintro wa12 ⟨g8, b⟩
                replace B2 := B2.trans (b.mono B2.size); replace m0 := cell_later b m0; replace m1 := cell_later b m1; replace m2 := cell_later b m2; replace m3 := cell_later b m3; replace m4 := cell_later b m4; replace m5 := cell_later b m5; replace B := B.trans (b.mono B.size); clear b
                have c_g8 := g8.cell; have f_g8 := g8.free; have a_g8 := fun o => (g8.alloc o).cell; have d_g8 := fun o o2 => ((g8.alloc o).alloc o2).cell; have e_g8 := fun o => (g8.alloc o).free
                have HB2 := Lib.hid B2
                clear B2 B m0 m1 m2 m3 m4 m5
                go_wp2
                go_roundg (N - (j + 1))
                case measure => omega
                case rel => exact ⟨j + 1, by omega, rfl, by go_num, Lib.hid ⟨HB2.out, HR.out⟩⟩
              · have k1 : (c.kind != 1) = false := by rw [bne_eq_false_iff_eq]; exact hk
                have k2 : (c.at_ == (a : Int)) = false := by rw [beq_eq_false_iff_ne]; exact hca
                obtain ⟨a2, q, t, ha, hq, hTq, hkB, ha1, ha3, hle, hn8⟩ := inKinds HRT.out (HOB.out c hcL hk)
                rw [← HT.out] at hTq hkB
                obtain ⟨nf, hnf⟩ : ∃ N, N = t.length := ⟨_, rfl⟩
                rw [← hnf] at hle hn8
                have hqT := (List.getElem?_eq_some_iff.1 hTq).1
                have HYE := Lib.hid (show ∀ p, p < nf → (t.getD p 0).toNat = 3 → ((l.getD (a2 + 2 + p) 0).toNat : Int) = a → b = true from fun p h1 h2 h3 => HYF.out c hcL ⟨hk, hca, p, by rw [hkB, ← hnf]; exact h1, by rw [hkB]; exact h2, by unfold fw; rw [ha, Int.toNat_natCast]; exact h3⟩)
                have HJ2 := Lib.hid (show (∀ p, p < nf → ¬ ((t.getD p 0).toNat = 3 ∧ ((l.getD (a2 + 2 + p) 0).toNat : Int) = a)) → ¬ RefTo l T a c from fun h1 ⟨_, _, p, h2, h3, h4⟩ => h1 p (by rw [hkB, ← hnf] at h2; exact h2) ⟨by rw [hkB] at h3; exact h3, by unfold fw at h4; rw [ha, Int.toNat_natCast] at h4; exact h4⟩)
                have HTQ := Lib.hid hTq; have HNF := Lib.hid hnf; have HQT := Lib.hid hqT; have HLE := Lib.hid hle
                obtain ⟨bat, bsz, bkd, bty, bmk, bnx⟩ := c
                dsimp only at ha hq m0 m1 m2 m3 m4 m5 k1 k2
                subst ha; subst hq
                clear hTq hkB hnf hqT hle hc hcL hk hca HZ2
                go_upto_region 17 with (fail)
                refine wp_gen (fun Wv => Bx Wv (wr.heap.size) (82) (#[.int .i64 a2, .int .i64 bsz, .int .i64 bkd, .int .i64 q, .bool bmk, .int .u64 bnx.toNat]) ∧ Below wr.heap.size wr Wv) ⟨((Bx.at_ (by simp))), ((Below.refl _ wr).alloc (by simp <;> omega) _)⟩ ?_
                rintro wa13 ⟨g8, b⟩
                replace B2 := B2.trans (b.mono B2.size); replace m0 := cell_later b m0; replace m1 := cell_later b m1; replace m2 := cell_later b m2; replace m3 := cell_later b m3; replace m4 := cell_later b m4; replace m5 := cell_later b m5; replace B := B.trans (b.mono B.size); clear b
                have c_g8 := g8.cell; have f_g8 := g8.free; have a_g8 := fun o => (g8.alloc o).cell; have d_g8 := fun o o2 => ((g8.alloc o).alloc o2).cell; have e_g8 := fun o => (g8.alloc o).free
                obtain ⟨ad, yt, t2, iy, m9, ht2, hby⟩ := (HV.out.1.below B2).at_ HQT.out
                obtain rfl : t2 = t := by have := ht2.out; rw [HTQ.out] at this; injection this with e; exact e.symm
                have lx := Rd.len hby.out Tryz.underlying83
                rw [← HNF.out] at lx
                refine wp_gen (fun V => Bx V wr.heap.size 82 #[.int .i64 a2, .int .i64 bsz, .int .i64 bkd, .int .i64 q, .bool bmk, .int .u64 bnx.toNat] ∧ V.cell? ad = some yt ∧ Byts V yt t2 ∧ Below V0.heap.size V0 V) ⟨g8, m9, hby.out, B2⟩ ?_
                clear ht2 hby g8 m0 m1 m2 m3 m4 m5 m9 c_g8 f_g8 a_g8 d_g8 e_g8 B2 B
                intro V1 hV1'
                obtain ⟨g8, m9, hby, B2⟩ := hV1'
                have HV2 := Lib.hid (And.intro g8 (And.intro hby B2))
                have HBC := Lib.hid (Below.refl V1.heap.size V1)
                have hV2 := B2.size
                have c_8 := g8.cell
                clear g8 hby B2
                go_wp2
                clear c_8 m9 lx
                go_loopg [97] nf (fun gg i wr => ∃ p : Nat, p ≤ nf ∧ gg = nf - p ∧ i = .int .i64 p ∧ Hid (Below V1.heap.size V1 wr ∧ ∀ p', p' < p → ¬ ((t2.getD p' 0).toNat = 3 ∧ ((l.getD (a2 + 2 + p') 0).toNat : Int) = a)))
                case atStart => exact ⟨0, by omega, by omega, rfl, Lib.hid ⟨HBC.out, fun i hi => by omega⟩⟩
                case round =>
                  obtain ⟨p, hp, rfl, rfl, hh⟩ := hrel
                  clear HBC
                  have B3 := hh.out.1
                  have HZ3 := Lib.hid hh.out.2
                  have g8 := HV2.out.1.below B3
                  have B2 := HV2.out.2.2.trans (B3.mono hV2)
                  have B := HV.out.2.2.trans (B2.mono hV1)
                  clear hh
                  by_cases hlp : p < nf
                  · obtain ⟨bd, kk, ib, m4, hkk⟩ := (HV2.out.2.1.below B3).at_ (P := Tryz.prog) Tryz.underlying83 one_u8 (k := p) (by rw [← HNF.out]; exact hlp)
                    obtain ⟨cd, x, ic, m6, hx⟩ := (H.out.below B).at_ (P := Tryz.prog) Tryz.underlying22 one_u64 (k := a2 + 2 + p) (by have := HLE.out; omega)
                    have ic2 : ∀ W, (Instr.indexAt 22 v (.int .i64 ((a2 : Int) + 2 + (p : Int)))).run Tryz.prog W = .ok (.pointer (some cd)) W := ic
                    have hk3 : t2.getD p 0 = kk := by rw [List.getD_eq_getElem?_getD, hkk.out]; rfl
                    have hx3 : l.getD (a2 + 2 + p) 0 = x := by rw [List.getD_eq_getElem?_getD, hx.out]; rfl
                    have HY9 := Lib.hid (HYE.out p hlp)
                    rw [hk3, hx3] at HY9
                    have HJ3 := Lib.hid (fun (hxx : ¬ (kk.toNat = 3 ∧ (x.toNat : Int) = a)) => show ∀ p', p' < p + 1 → ¬ ((t2.getD p' 0).toNat = 3 ∧ ((l.getD (a2 + 2 + p') 0).toNat : Int) = a) from fun i hi => by
                      by_cases hij : i < p
                      · exact HZ3.out i hij
                      · obtain rfl : i = p := by omega
                        rw [hk3, hx3]; exact hxx)
                    have w1 : IntKind.i64.wrap ((a2 : Int) + 2) = (a2 : Int) + 2 := IntWalk.i64_in _ (by omega)
                    have w2 : IntKind.i64.wrap ((a2 : Int) + 2 + (p : Int)) = (a2 : Int) + 2 + (p : Int) := IntWalk.i64_in _ (by omega)
                    have c_8 := g8.cell
                    clear ic hkk hx hk3 hx3 HZ3 g8
                    by_cases hk3 : kk.toNat = 3
                    · have e1 : ((kk.toNat : Int) == 3) = true := by rw [beq_iff_eq]; omega
                      by_cases hx3 : (x.toNat : Int) = a
                      · have e2 : ((x.toNat : Int) == (a : Int)) = true := by rw [beq_iff_eq]; exact hx3
                        obtain rfl := HY9.out hk3 hx3
                        have HB9 := Lib.hid B
                        clear HJ3 HY9 B B2 B3 hx3 hk3
                        go_wp2
                        go_ret2
                        exact ⟨rfl, HB9.out⟩
                      · have e2 : ((x.toNat : Int) == (a : Int)) = false := by rw [beq_eq_false_iff_ne]; exact hx3
                        have HR := Lib.hid (And.intro B3 (HJ3.out (fun hx => hx3 hx.2)))
                        clear HJ3 HY9 B B2 B3 hx3 hk3
                        go_wp2
                        go_roundg (nf - (p + 1))
                        case measure => omega
                        case rel => exact ⟨p + 1, by omega, rfl, by go_num, HR⟩
                    · have e1 : ((kk.toNat : Int) == 3) = false := by rw [beq_eq_false_iff_ne]; omega
                      have HR := Lib.hid (And.intro B3 (HJ3.out (fun hx => hk3 hx.1)))
                      clear HJ3 HY9 B B2 B3 hk3
                      go_wp2
                      go_roundg (nf - (p + 1))
                      case measure => omega
                      case rel => exact ⟨p + 1, by omega, rfl, by go_num, HR⟩
                  · obtain rfl : p = nf := by omega
                    have HR := Lib.hid (And.intro B2 (HJ.out (HJ2.out HZ3.out)))
                    clear g8 B B2 B3
                    go_wp2
                    go_roundg (N - (j + 1))
                    case measure => omega
                    case rel => exact ⟨j + 1, by omega, rfl, by go_num, HR⟩
            · have k1 : (c.kind != 1) = true := by rw [bne_iff_ne]; exact hk
              have HR := Lib.hid (HJ.out (fun hx => hk hx.1))
              clear HJ hc hcL hk HZ2
              go_upto_region 17 with (fail)
              refine wp_gen (fun Wv => Bx Wv (wr.heap.size) (82) (#[.int .i64 c.at_, .int .i64 c.size, .int .i64 c.kind, .int .i64 c.ty, .bool c.mark, .int .u64 c.next.toNat]) ∧ Below wr.heap.size wr Wv) ⟨((Bx.at_ (by simp))), ((Below.refl _ wr).alloc (by simp <;> omega) _)⟩ ?_
              rintro wa14 ⟨g8, b⟩
              replace B2 := B2.trans (b.mono B2.size); replace m0 := cell_later b m0; replace m1 := cell_later b m1; replace m2 := cell_later b m2; replace m3 := cell_later b m3; replace m4 := cell_later b m4; replace m5 := cell_later b m5; replace B := B.trans (b.mono B.size); clear b
              have c_g8 := g8.cell; have f_g8 := g8.free; have a_g8 := fun o => (g8.alloc o).cell; have d_g8 := fun o o2 => ((g8.alloc o).alloc o2).cell; have e_g8 := fun o => (g8.alloc o).free
              have HB2 := Lib.hid B2
              clear B2 B m0 m1 m2 m3 m4 m5
              go_wp2
              go_roundg (N - (j + 1))
              case measure => omega
              case rel => exact ⟨j + 1, by omega, rfl, by go_num, Lib.hid ⟨HB2.out, HR.out⟩⟩
          · obtain rfl : j = N := by omega
            obtain rfl : b = false := HNO.out HZ.out (fun i c hi => HZ2.out i c (by rw [HN.out]; exact hi))
            have HB9 := Lib.hid B
            clear B B2
            go_wp2
            go_ret2
            exact ⟨rfl, HB9.out⟩
end Go.Proofs.YtmbokdnndlnjkaaGreat
