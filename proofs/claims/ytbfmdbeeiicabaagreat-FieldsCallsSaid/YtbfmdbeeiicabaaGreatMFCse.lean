/- Contracts of the functions that the law 'FieldsCalls' reaches, part 5. No condition. -/
import Derived.Test.YtbfmdbeeiicabaaGreatMFCsd
set_option linter.unusedVariables false
set_option linter.unusedSimpArgs false
namespace Go.Proofs.YtbfmdbeeiicabaaGreat
open Go.RowKit L01 L02 L05 L07 L13 L14 L15 L18 L19
theorem OwnT.apart {w : World} {B p i : Nat} {v u : Value} {L : List (List UInt8)} (h : OwnT w B v L) (hp : p < B) : OwnT (w.setCell ⟨p, i, none⟩ u) B v L := by
  obtain ⟨vs, a1, a2, a4⟩ := h
  exact ⟨vs, a1, own_apart a2 hp, fun i x l h5 h6 => own_apart (a4 i x l h5 h6) hp⟩
theorem OwnT.mid {w w' : World} {lo : Nat} {v : Value} {L : List (List UInt8)} (h : OwnT w lo v L) (hm : Mid lo w.heap.size w w') : OwnT w' lo v L := by
  obtain ⟨vs, a1, a2, a4⟩ := h
  exact ⟨vs, a1, own_mid a2 hm, fun i x l h5 h6 => own_mid (a4 i x l h5 h6) hm⟩
theorem OwnT.up {w : World} {base base' : Nat} {v : Value} {L : List (List UInt8)} (h : OwnT w base v L) (hb : base' ≤ base) : OwnT w base' v L := by
  obtain ⟨vs, h1, h2, h4⟩ := h; exact ⟨vs, h1, own_mono h2 hb, fun i x l h5 h6 => own_mono (h4 i x l h5 h6) hb⟩
theorem OwnT.form {w : World} {B : Nat} {v : Value} {L : List (List UInt8)} (h : OwnT w B v L) : ∃ A n c, v = .slice A n c := by
  obtain ⟨_, _, h2, _⟩ := h
  obtain ⟨A, c, e, _⟩ := Rd.of_own h2; exact ⟨A, _, c, e⟩
theorem row_form {w : World} {B e sz n : Nat} {v : Value} {xs : List Value} (h : w.ownsRow B e sz v n xs) : ∃ A n c, v = .slice A n c := by
  obtain ⟨A, c, e, _⟩ := Rd.of_own h; exact ⟨A, _, c, e⟩
/-- the blocks that the walk of parts has made stay -/
structure MidS (lo : Nat) (ws w : World) : Prop where
  m : Mid lo ws.heap.size ws w
  z : ws.heap.size ≤ w.heap.size
theorem MidS.below {lo : Nat} {ws w w' : World} (h : MidS lo ws w) (hb : Below w.heap.size w w') : MidS lo ws w' := ⟨h.m.below h.z hb, Nat.le_trans h.z hb.size⟩
theorem MidS.grown {lo : Nat} {ws w w' : World} {row : Option Nat} (h : MidS lo ws w) (hg : w.grownBy w' row) (hr : ∀ k, row = some k → k < lo ∨ ws.heap.size ≤ k) : MidS lo ws w' := ⟨h.m.grown h.z hg hr, Nat.le_trans h.z hg.size⟩
theorem MidS.set {lo : Nat} {ws w : World} (h : MidS lo ws w) {p : Addr} (hp : p.block < lo) (u : Value) : MidS lo ws (w.setCell p u) := ⟨h.m.set (.inl hp) u, by simpa [World.setCell] using h.z⟩
/-- what is known while parts fills its result -/
structure SgO (W : World) (base lo : Nat) (v tv sv bv : Value) (E pm nm : Nat) (l : List UInt64) (T : List (List UInt8)) (S : List Sl) (O : List Hb) (w0 : World) : Prop where
  b : Below w0.heap.size w0 W
  t : OwnT W lo tv T
  s : W.ownsRow lo E 3 sv S.length (tabL S)
  k : OwnK W base bv O
  kn : bv.ownBlock ≠ some w0.heap.size
  m : MapL Tryz.prog 3 4 (.bool false) W pm nm (fun a => .bool (decide (IsObj O a)))
theorem SgO.set {W w0 : World} {base lo E pm nm i : Nat} {v tv sv bv u : Value} {l : List UInt64} {T : List (List UInt8)} {S : List Sl} {O : List Hb} (h : SgO W base lo v tv sv bv E pm nm l T S O w0) (hp : w0.heap.size < lo) (hm : w0.heap.size ≠ pm) : SgO (W.setCell ⟨w0.heap.size, i, none⟩ u) base lo v tv sv bv E pm nm l T S O w0 :=
  ⟨h.b.setCell (p := ⟨w0.heap.size, i, none⟩) (Nat.le_refl _) _, h.t.apart hp, own_apart h.s hp, World.ownsRow.kept h.k (grown_set _ ⟨w0.heap.size, i, none⟩ u) (.inr h.kn), h.kn, h.m.kept (grown_set _ ⟨w0.heap.size, i, none⟩ u) (by intro e; injection e with e; exact hm e.symm)⟩
theorem SgO.sg {W w0 : World} {base lo E pm nm : Nat} {v tv sv bv : Value} {l : List UInt64} {T : List (List UInt8)} {S : List Sl} {O : List Hb} (h : SgO W base lo v tv sv bv E pm nm l T S O w0) (hw : Words w0 v l) : Sg W v tv sv bv pm nm l T S O :=
  ⟨hw.below h.b, h.t.rd, Rd.of_own h.s, h.k.rd, h.m⟩
theorem objs_snoc {L : List Hb} {b : Hb} : objs (L ++ [b]) = objs L ++ (if b.kind = 1 then [b] else []) := by
  unfold objs
  rw [List.filter_append]
  by_cases h : b.kind = 1 <;> simp [h]
theorem isObj_snoc {L : List Hb} {b : Hb} {a : Int} : IsObj (L ++ [b]) a ↔ a = b.at_ ∨ IsObj L a := by
  constructor
  · rintro ⟨c, hc, e⟩
    rcases List.mem_append.1 hc with hc | hc
    · exact .inr ⟨c, hc, e⟩
    · rw [List.mem_singleton] at hc; subst hc; exact .inl e.symm
  · rintro (e | ⟨c, hc, e⟩)
    · exact ⟨b, by simp, e.symm⟩
    · exact ⟨c, List.mem_append_left _ hc, e⟩
set_option maxRecDepth 100000 in
set_option maxHeartbeats 8000000 in
theorem parts_any (v : Value) (l : List UInt64) (hs : SizeOk l.length) (r : Nat) (hr : r = why6 l) (w : World) (h : Words w v l) :
    Calls Tryz.prog 102 #[v] w fun e w' => ∃ a b c d m, e = .returned (.tuple #[.agg #[a, b, c, d, m], .int .i64 r]) ∧ (r = 0 → a = v ∧ ∃ g n, m = .map (some g) ∧ Sg w' v b c d g n l (T19 l) (slots l) (O19 l)) ∧ (r ≠ 0 → a = .slice none 0 0 ∧ b = .slice none 0 0 ∧ c = .slice none 0 0 ∧ d = .slice none 0 0 ∧ m = .map none) ∧ Below w.heap.size w w' := by
  have B : Below w.heap.size w w := Below.refl _ _
  obtain ⟨vA, vn, vc, rfl⟩ : ∃ A n c, v = .slice A n c := by obtain ⟨A, c, e, _⟩ := h; exact ⟨A, _, c, e⟩
  have H := Lib.hid h
  have hmm := @run_makeMap Tryz.prog
  obtain ⟨hn1, hn2, hn3⟩ := hs
  obtain ⟨sw, hsw⟩ : ∃ x, x = sW l := ⟨_, rfl⟩
  obtain ⟨st, hst⟩ : ∃ x, x = sT l := ⟨_, rfl⟩
  obtain ⟨i0, hi0⟩ : ∃ x, x = is0 l := ⟨_, rfl⟩
  obtain ⟨i1, hi1⟩ : ∃ x, x = is1 l := ⟨_, rfl⟩
  obtain ⟨r1, hr1⟩ : ∃ x, x = rErr l := ⟨_, rfl⟩
  have TT := Lib.hid (fun w h => TRead_any (.slice vA vn vc) l sw st i0 i1 r1 hsw hst hi0 hi1 hr1 w h)
  obtain ⟨z1, hz1⟩ : ∃ x, x = decide (Zr l 16) := ⟨_, rfl⟩
  obtain ⟨z2, hz2⟩ : ∃ x, x = decide (Zr l 24) := ⟨_, rfl⟩
  have Z1 : Hid (∀ w, Words w (.slice vA vn vc) l → Calls Tryz.prog 124 #[(.slice vA vn vc), .int .i64 16] w fun e w' => e = .returned (.bool z1) ∧ w = w') := Lib.hid (fun w h => zero19_any (.slice vA vn vc) l 16 z1 hz1 (by omega) (by omega) w h)
  have Z2 : Hid (∀ w, Words w (.slice vA vn vc) l → Calls Tryz.prog 124 #[(.slice vA vn vc), .int .i64 24] w fun e w' => e = .returned (.bool z2) ∧ w = w') := Lib.hid (fun w h => zero19_any (.slice vA vn vc) l 24 z2 hz2 (by omega) (by omega) w h)
  obtain ⟨T, hT⟩ : ∃ T, T = T19 l := ⟨_, rfl⟩
  obtain ⟨r4, hr4⟩ : ∃ x, x = tabErr l (sT l) := ⟨_, rfl⟩
  have KT := Lib.hid (fun w h => KTable_any (.slice vA vn vc) l st T r4 (by rw [hT, hst]; rfl) (by rw [hr4, hst]) w h)
  obtain ⟨S, hS⟩ : ∃ S, S = all l := ⟨_, rfl⟩
  obtain ⟨r5, hr5⟩ : ∃ x, x = openErr l := ⟨_, rfl⟩
  have AT := Lib.hid (fun w h => All18_any (.slice vA vn vc) l S r5 hS hr5 w h)
  obtain ⟨L, hL⟩ : ∃ L, L = allL l := ⟨_, rfl⟩
  obtain ⟨r6, hr6⟩ : ∃ x, x = allErr l := ⟨_, rfl⟩
  have WT := Lib.hid (fun w h => AllW_any (.slice vA vn vc) l L r6 hL hr6 w h)
  have HR : Hid (r = if r1 ≠ 0 then 1 else if z1 = false then 2 else if z2 = false then 3 else if r4 ≠ 0 then 4 else if r5 ≠ 0 then 5 else if r6 ≠ 0 then 6 else 0) := Lib.hid (by
    rw [hr, why6, hr1, hr4, hr5, hr6]
    by_cases c1 : Zr l 16 <;> by_cases c2 : Zr l 24 <;> simp [hz1, hz2, c1, c2])
  have HF := Lib.hid (And.intro hT (And.intro hL (show (r5 = 0) → S = slots l from fun e => by rw [hS, all, ← hr5, if_pos e])))
  have HNN := Lib.hid (show r6 = 0 → ∀ b ∈ L, i64Ok b.at_ from fun e b hb => by
    rw [hL] at hb
    obtain ⟨a, h1, h2, _, h4, _⟩ := all_mem (hr6 ▸ e) hb
    rw [h4, stand_at]
    exact ⟨by omega, by omega⟩)
  have HLN := Lib.hid (show r6 = 0 → L.length ≤ 960 from fun e => by rw [hL]; exact all_len (hr6 ▸ e))
  clear hr hsw hst hi0 hi1 hr1 hz1 hz2 hT hr4 hS hr5 hL hr6 h hn1 hn2 hn3
  go_enter Tryz.func102, Tryz.ntmps102
  go_upto_region 1 with (fail)
  refine wp_gen (fun Wv => Bx Wv (w.heap.size) (179) (#[.slice none 0 0, .slice none 0 0, .slice none 0 0, .slice none 0 0, .map none]) ∧ Below w.heap.size w Wv) ⟨((Bx.at_ (by simp))), ((Below.refl _ w).alloc (by simp <;> omega) _)⟩ ?_
  rintro wa1 ⟨g1, b⟩
  replace B := B.trans (b.mono B.size); clear b
  have c_g1 := g1.cell; have f_g1 := g1.free; have a_g1 := fun o => (g1.alloc o).cell; have d_g1 := fun o o2 => ((g1.alloc o).alloc o2).cell; have e_g1 := fun o => (g1.alloc o).free
  go_wp2_with fail
  refine (TT.out _ (H.out.below B)).mono ?_
  rintro e wa2 ⟨rfl, b⟩
  try clear c_g1 f_g1 a_g1 d_g1 e_g1
  replace g1 := g1.below b; have c_g1 := g1.cell; have f_g1 := g1.free; have a_g1 := fun o => (g1.alloc o).cell; have d_g1 := fun o o2 => ((g1.alloc o).alloc o2).cell; have e_g1 := fun o => (g1.alloc o).free; replace B := B.trans (b.mono B.size); clear b
  go_upto_region 2 with (fail)
  refine wp_gen (fun Wv => Bx Wv (wa2.heap.size) (85) (#[.int .i64 sw, .int .i64 st]) ∧ Bx Wv (wa2.heap.size + 1) (86) (#[.bool i0, .bool i1]) ∧ Below wa2.heap.size wa2 Wv) ⟨(((Bx.at_ (by simp)).alloc _)), ((Bx.at_ (by simp))), (((Below.refl _ wa2).alloc (by simp <;> omega) _).alloc (by simp <;> omega) _)⟩ ?_
  rintro wa3 ⟨g2, g3, b⟩
  try clear c_g1 f_g1 a_g1 d_g1 e_g1
  replace g1 := g1.below b; have c_g1 := g1.cell; have f_g1 := g1.free; have a_g1 := fun o => (g1.alloc o).cell; have d_g1 := fun o o2 => ((g1.alloc o).alloc o2).cell; have e_g1 := fun o => (g1.alloc o).free; replace B := B.trans (b.mono B.size); clear b
  have c_g2 := g2.cell; have f_g2 := g2.free; have a_g2 := fun o => (g2.alloc o).cell; have d_g2 := fun o o2 => ((g2.alloc o).alloc o2).cell; have e_g2 := fun o => (g2.alloc o).free
  have c_g3 := g3.cell; have f_g3 := g3.free; have a_g3 := fun o => (g3.alloc o).cell; have d_g3 := fun o o2 => ((g3.alloc o).alloc o2).cell; have e_g3 := fun o => (g3.alloc o).free
  by_cases h1 : r1 = 0
  case neg =>
    have n1 : (r1 != 0) = true := by rw [bne_iff_ne]; exact h1
    have hr0 : r = 1 := by rw [HR.out, if_pos h1]
    subst hr0
    go_wp2
    refine bodyPost_ret (v := .tuple #[.agg #[.slice none 0 0, .slice none 0 0, .slice none 0 0, .slice none 0 0, .map none], .int .i64 1]) (by simp [results, Tryz.results102, go_sem, c_g1, f_g1, a_g1, e_g1, c_g2, f_g2, a_g2, e_g2, c_g3, f_g3, a_g3, e_g3]) rfl ?_
    refine ⟨_, _, _, _, _, rfl, fun e => by omega, fun _ => ⟨rfl, rfl, rfl, rfl, rfl⟩, ?_⟩
    (repeat (first | refine Below.setCell ?_ (by first | exact Nat.le_refl _ | (simp <;> omega)) _ | refine Below.alloc ?_ (by first | exact B.size | (have := B.size; simp <;> omega)) _)); exact B
  case pos =>
    subst h1
    go_upto_region 4 with (fail)
    go_wp2_with fail
    refine (Z1.out _ (H.out.below B)).mono ?_
    rintro e w' ⟨rfl, rfl⟩
    cases z1
    · have hr0 : r = 2 := by rw [HR.out]; simp
      subst hr0
      go_wp2
      refine bodyPost_ret (v := .tuple #[.agg #[.slice none 0 0, .slice none 0 0, .slice none 0 0, .slice none 0 0, .map none], .int .i64 2]) (by simp [results, Tryz.results102, go_sem, c_g1, f_g1, a_g1, e_g1, c_g2, f_g2, a_g2, e_g2, c_g3, f_g3, a_g3, e_g3]) rfl ?_
      refine ⟨_, _, _, _, _, rfl, fun e => by omega, fun _ => ⟨rfl, rfl, rfl, rfl, rfl⟩, ?_⟩
      (repeat (first | refine Below.setCell ?_ (by first | exact Nat.le_refl _ | (simp <;> omega)) _ | refine Below.alloc ?_ (by first | exact B.size | (have := B.size; simp <;> omega)) _)); exact B
    · go_wp2_with fail
      refine (Z2.out _ (H.out.below B)).mono ?_
      rintro e w' ⟨rfl, rfl⟩
      cases z2
      · have hr0 : r = 3 := by rw [HR.out]; simp
        subst hr0
        go_wp2
        refine bodyPost_ret (v := .tuple #[.agg #[.slice none 0 0, .slice none 0 0, .slice none 0 0, .slice none 0 0, .map none], .int .i64 3]) (by simp [results, Tryz.results102, go_sem, c_g1, f_g1, a_g1, e_g1, c_g2, f_g2, a_g2, e_g2, c_g3, f_g3, a_g3, e_g3]) rfl ?_
        refine ⟨_, _, _, _, _, rfl, fun e => by omega, fun _ => ⟨rfl, rfl, rfl, rfl, rfl⟩, ?_⟩
        (repeat (first | refine Below.setCell ?_ (by first | exact Nat.le_refl _ | (simp <;> omega)) _ | refine Below.alloc ?_ (by first | exact B.size | (have := B.size; simp <;> omega)) _)); exact B
      · have hz3 := B.size
        have hp1 := g1.lt; have hp2 := g2.lt
        go_upto_region 9 with (fail)
        refine wp_gen (fun V => Bx V w.heap.size 179 #[.slice none 0 0, .slice none 0 0, .slice none 0 0, .slice none 0 0, .map none] ∧ Bx V wa2.heap.size 85 #[.int .i64 sw, .int .i64 st] ∧ Bx V (wa3.heap.size + 1) 179 #[(.slice vA vn vc), .slice none 0 0, .slice none 0 0, .slice none 0 0, .map (some wa3.heap.size)] ∧ MapL Tryz.prog 3 4 (.bool false) V wa3.heap.size 0 (fun _ => .bool false) ∧ Below w.heap.size w V)
          ⟨(g1.alloc _).alloc _, (g2.alloc _).alloc _, Bx.at_ (by simp), (MapL.made wa3).below ((Below.refl _ _).alloc (Nat.le_refl _) _), (B.alloc hz3 _).alloc (by simp; omega) _⟩ ?_
        clear B g1 g2 g3 c_g1 f_g1 a_g1 d_g1 e_g1 c_g2 f_g2 a_g2 d_g2 e_g2 c_g3 f_g3 a_g3 d_g3 e_g3
        rintro wb ⟨g1, g2, g4, mp, B⟩
        have hlb : w.heap.size < wa3.heap.size ∧ wa2.heap.size < wa3.heap.size + 1 ∧ wa3.heap.size + 1 < wb.heap.size := ⟨hp1, by have := hp2; omega, g4.lt⟩
        obtain ⟨hq1, hq2, hq3⟩ := hlb
        generalize wa3.heap.size = pm at *
        generalize wa2.heap.size = ps at *
        have c_g1 := g1.cell; have c_g2 := g2.cell; have c_g4 := g4.cell
        have B1 : Below wb.heap.size wb wb := Below.refl _ _
        obtain ⟨lo, hlo⟩ : ∃ lo, lo = wb.heap.size := ⟨_, rfl⟩
        go_wp2_with fail
        refine (KT.out _ (H.out.below B)).mono ?_
        rintro e wa4 ⟨xt, rfl, ot, b⟩
        try clear c_g1 f_g1 a_g1 d_g1 e_g1
        replace g1 := g1.below b; have c_g1 := g1.cell; have f_g1 := g1.free; have a_g1 := fun o => (g1.alloc o).cell; have d_g1 := fun o o2 => ((g1.alloc o).alloc o2).cell; have e_g1 := fun o => (g1.alloc o).free; try clear c_g2 f_g2 a_g2 d_g2 e_g2
        replace g2 := g2.below b; have c_g2 := g2.cell; have f_g2 := g2.free; have a_g2 := fun o => (g2.alloc o).cell; have d_g2 := fun o o2 => ((g2.alloc o).alloc o2).cell; have e_g2 := fun o => (g2.alloc o).free; try clear c_g4 f_g4 a_g4 d_g4 e_g4
        replace g4 := g4.below b; have c_g4 := g4.cell; have f_g4 := g4.free; have a_g4 := fun o => (g4.alloc o).cell; have d_g4 := fun o o2 => ((g4.alloc o).alloc o2).cell; have e_g4 := fun o => (g4.alloc o).free; replace mp := mp.below b; replace B1 := B1.trans (b.mono B1.size); replace B := B.trans (b.mono B.size); clear b
        obtain ⟨tA, tn, tc, rfl⟩ := ot.form
        go_upto_region 10 with (fail)
        have hB1 := B1.size
        rw [← hlo] at ot hq3 hB1
        refine wp_gen (fun V => Bx V w.heap.size 179 #[.slice none 0 0, .slice none 0 0, .slice none 0 0, .slice none 0 0, .map none] ∧ Bx V (pm + 1) 179 #[.slice vA vn vc, .slice tA tn tc, .slice none 0 0, .slice none 0 0, .map (some pm)] ∧ MapL Tryz.prog 3 4 (.bool false) V pm 0 (fun _ => .bool false) ∧ OwnT V lo (.slice tA tn tc) T ∧ Below w.heap.size w V ∧ lo ≤ V.heap.size)
          ⟨g1.far (p := ⟨pm + 1, 1, none⟩) (by show _ ≠ pm + 1; omega) _, g4.set (i := 1) _, mp.kept (grown_set _ ⟨pm + 1, 1, none⟩ _) (by intro e; injection e with e; have : pm = pm + 1 := e; omega), ot.apart hq3, B.setCell (p := ⟨pm + 1, 1, none⟩) (by show w.heap.size ≤ pm + 1; omega) _, by simpa [World.setCell] using hB1⟩ ?_
        clear B B1 g1 g2 g4 mp ot c_g1 f_g1 a_g1 d_g1 e_g1 c_g2 f_g2 a_g2 d_g2 e_g2 c_g4 f_g4 a_g4 d_g4 e_g4 hB1
        rintro wc ⟨g1, g4, mp, ot, B, hlc⟩
        have c_g1 := g1.cell; have c_g4 := g4.cell; have f_g1 := g1.free
        by_cases h4 : r4 = 0
        case neg =>
          have n1 : (r4 != 0) = true := by rw [bne_iff_ne]; exact h4
          have hr0 : r = 4 := by rw [HR.out]; simp [h4]
          subst hr0
          go_wp2
          refine bodyPost_ret (v := .tuple #[.agg #[.slice none 0 0, .slice none 0 0, .slice none 0 0, .slice none 0 0, .map none], .int .i64 4]) (by simp [results, Tryz.results102, go_sem, c_g1, f_g1]) rfl ?_
          refine ⟨_, _, _, _, _, rfl, fun e => by omega, fun _ => ⟨rfl, rfl, rfl, rfl, rfl⟩, ?_⟩
          (repeat (first | refine Below.setCell ?_ (by first | exact Nat.le_refl _ | (simp <;> omega)) _ | refine Below.alloc ?_ (by first | exact B.size | (have := B.size; simp <;> omega)) _)); exact B
        case pos =>
          subst h4
          go_upto_region 12 with (fail)
          have B1 : Below wc.heap.size wc wc := Below.refl _ _
          go_wp2_with fail
          refine (AT.out _ (H.out.below B)).mono ?_
          rintro e wa5 ⟨xs, E, rfl, os, b⟩
          try clear c_g1 f_g1 a_g1 d_g1 e_g1
          replace g1 := g1.below b; have c_g1 := g1.cell; have f_g1 := g1.free; have a_g1 := fun o => (g1.alloc o).cell; have d_g1 := fun o o2 => ((g1.alloc o).alloc o2).cell; have e_g1 := fun o => (g1.alloc o).free; try clear c_g4 f_g4 a_g4 d_g4 e_g4
          replace g4 := g4.below b; have c_g4 := g4.cell; have f_g4 := g4.free; have a_g4 := fun o => (g4.alloc o).cell; have d_g4 := fun o o2 => ((g4.alloc o).alloc o2).cell; have e_g4 := fun o => (g4.alloc o).free; replace mp := mp.below b; replace ot := ot.below b; replace B1 := B1.trans (b.mono B1.size); replace B := B.trans (b.mono B.size); clear b
          obtain ⟨sA, sn, sc, rfl⟩ := row_form os
          go_upto_region 13 with (fail)
          have hB1 := B1.size
          have os' := own_mono os hlc
          refine wp_gen (fun V => Bx V w.heap.size 179 #[.slice none 0 0, .slice none 0 0, .slice none 0 0, .slice none 0 0, .map none] ∧ Bx V (pm + 1) 179 #[.slice vA vn vc, .slice tA tn tc, .slice sA sn sc, .slice none 0 0, .map (some pm)] ∧ MapL Tryz.prog 3 4 (.bool false) V pm 0 (fun _ => .bool false) ∧ OwnT V lo (.slice tA tn tc) T ∧ OwnS V lo E (.slice sA sn sc) S ∧ Below w.heap.size w V ∧ lo ≤ V.heap.size)
            ⟨g1.far (p := ⟨pm + 1, 2, none⟩) (by show _ ≠ pm + 1; omega) _, g4.set (i := 2) _, mp.kept (grown_set _ ⟨pm + 1, 2, none⟩ _) (by intro e; injection e with e; have : pm = pm + 1 := e; omega), ot.apart hq3, own_apart os' hq3, B.setCell (p := ⟨pm + 1, 2, none⟩) (by show w.heap.size ≤ pm + 1; omega) _, by have : wc.heap.size ≤ _ := hB1; simp only [World.setCell, Array.size_modify]; omega⟩ ?_
          clear B B1 g1 g4 mp ot os os' c_g1 f_g1 a_g1 d_g1 e_g1 c_g4 f_g4 a_g4 d_g4 e_g4 hB1
          rintro wd ⟨g1, g4, mp, ot, os, B, hld⟩
          have c_g1 := g1.cell; have c_g4 := g4.cell; have f_g1 := g1.free
          by_cases h5 : r5 = 0
          case neg =>
            have n1 : (r5 != 0) = true := by rw [bne_iff_ne]; exact h5
            have hr0 : r = 5 := by rw [HR.out]; simp [h5]
            subst hr0
            go_wp2
            refine bodyPost_ret (v := .tuple #[.agg #[.slice none 0 0, .slice none 0 0, .slice none 0 0, .slice none 0 0, .map none], .int .i64 5]) (by simp [results, Tryz.results102, go_sem, c_g1, f_g1]) rfl ?_
            refine ⟨_, _, _, _, _, rfl, fun e => by omega, fun _ => ⟨rfl, rfl, rfl, rfl, rfl⟩, ?_⟩
            (repeat (first | refine Below.setCell ?_ (by first | exact Nat.le_refl _ | (simp <;> omega)) _ | refine Below.alloc ?_ (by first | exact B.size | (have := B.size; simp <;> omega)) _)); exact B
          case pos =>
            subst h5
            go_upto_region 15 with (fail)
            go_wp2_with fail
            refine (WT.out _ (H.out.below B)).mono ?_
            rintro e wa6 ⟨xl, rfl, ol, b⟩
            try clear c_g1 f_g1 a_g1 d_g1 e_g1
            replace g1 := g1.below b; have c_g1 := g1.cell; have f_g1 := g1.free; have a_g1 := fun o => (g1.alloc o).cell; have d_g1 := fun o o2 => ((g1.alloc o).alloc o2).cell; have e_g1 := fun o => (g1.alloc o).free; try clear c_g4 f_g4 a_g4 d_g4 e_g4
            replace g4 := g4.below b; have c_g4 := g4.cell; have f_g4 := g4.free; have a_g4 := fun o => (g4.alloc o).cell; have d_g4 := fun o o2 => ((g4.alloc o).alloc o2).cell; have e_g4 := fun o => (g4.alloc o).free; replace mp := mp.below b; replace ot := ot.below b; replace os := os.below b; replace B := B.trans (b.mono B.size); clear b
            obtain ⟨lA, ln, lc, rfl⟩ := row_form ol
            by_cases h6 : r6 = 0
            case neg =>
              have n1 : (r6 != 0) = true := by rw [bne_iff_ne]; exact h6
              have hr0 : r = 6 := by rw [HR.out]; simp [h6]
              subst hr0
              go_wp2
              refine bodyPost_ret (v := .tuple #[.agg #[.slice none 0 0, .slice none 0 0, .slice none 0 0, .slice none 0 0, .map none], .int .i64 6]) (by simp [results, Tryz.results102, go_sem, c_g1, f_g1, a_g1, e_g1, c_g4, f_g4, a_g4, e_g4]) rfl ?_
              refine ⟨_, _, _, _, _, rfl, fun e => by omega, fun _ => ⟨rfl, rfl, rfl, rfl, rfl⟩, ?_⟩
              (repeat (first | refine Below.setCell ?_ (by first | exact Nat.le_refl _ | (simp <;> omega)) _ | refine Below.alloc ?_ (by first | exact B.size | (have := B.size; simp <;> omega)) _)); exact B
            case pos =>
              subst h6
              have hr0 : r = 0 := by rw [HR.out]; simp
              subst hr0
              obtain ⟨hTe, hLe, hSe⟩ := HF.out
              have hSe := hSe (by trivial)
              have HIA := Lib.hid (HNN.out (by trivial))
              have hN960 := HLN.out (by trivial)
              obtain ⟨N, hN⟩ : ∃ N, N = L.length := ⟨_, rfl⟩
              have HNL := Lib.hid hN
              have lx := ol.rd.len
              rw [← hN] at lx hN960
              have ol' := own_mono ol hld
              have HXT := Lib.hid (And.intro hTe (And.intro hLe hSe))
              clear hN hTe hLe hSe ol
              go_upto_region 18 with (fail)
              refine wp_gen (fun V => Bx V w.heap.size 179 #[.slice none 0 0, .slice none 0 0, .slice none 0 0, .slice none 0 0, .map none] ∧ Bx V (pm + 1) 179 #[.slice vA vn vc, .slice tA tn tc, .slice sA sn sc, .slice none 0 0, .map (some pm)] ∧ MapL Tryz.prog 3 4 (.bool false) V pm 0 (fun _ => .bool false) ∧ OwnT V lo (.slice tA tn tc) T ∧ OwnS V lo E (.slice sA sn sc) S ∧ OwnK V lo (.slice lA ln lc) L ∧ Below w.heap.size w V)
                ⟨g1, g4, mp, ot, os, ol', B⟩ ?_
              clear B g1 g4 mp ot os ol' c_g1 f_g1 a_g1 d_g1 e_g1 c_g4 f_g4 a_g4 d_g4 e_g4
              rintro ws ⟨g1, g4, mp, ot, os, ol, B⟩
              have HSTART := Lib.hid (And.intro g1 (And.intro g4 (And.intro mp B)))
              have HOWN := Lib.hid (And.intro ot (And.intro os ol))
              have hps : pm + 1 < ws.heap.size := g4.lt
              have hpl : w.heap.size ≤ pm := by omega
              clear g1 g4 mp ot os ol B
              go_wp2
              go_loopg [61] N (fun gg i wr => ∃ j : Nat, j ≤ N ∧ gg = N - j ∧ i = .int .i64 j ∧ Hid (∃ bj nm, Bx wr w.heap.size 179 #[.slice none 0 0, .slice none 0 0, .slice none 0 0, .slice none 0 0, .map none] ∧ Bx wr (pm + 1) 179 #[.slice vA vn vc, .slice tA tn tc, .slice sA sn sc, bj, .map (some pm)] ∧
                MapL Tryz.prog 3 4 (.bool false) wr pm nm (fun a => .bool (decide (IsObj (objs (L.take j)) a))) ∧ nm ≤ j ∧ OwnK wr w.heap.size bj (objs (L.take j)) ∧ (∀ g, bj.ownBlock = some g → ws.heap.size ≤ g) ∧ MidS lo ws wr ∧ Below w.heap.size w wr))
              case atStart =>
                obtain ⟨g1, g4, mp, B⟩ := HSTART.out
                exact ⟨0, by omega, by omega, rfl, Lib.hid ⟨_, 0, g1, g4, by simpa [objs, IsObj] using mp, by omega, OwnK.nil _ _, fun g hg => (by cases hg), ⟨Mid.refl _ _ _, Nat.le_refl _⟩, B⟩⟩
              case round =>
                obtain ⟨j, hj, rfl, rfl, hh⟩ := hrel
                clear HSTART
                obtain ⟨bj, nm, g1, g4, mp, hnm, oj, hbj, hmid, B⟩ := hh.out
                clear hh
                obtain ⟨jA, jn, jc, rfl⟩ := row_form oj
                have hol : OwnK wr lo (.slice lA ln lc) L := own_mid HOWN.out.2.2 hmid.m
                by_cases hlt : j < N
                · obtain ⟨bb, oo, b, ia, m0, m1, m2, m3, m4, m5, hb, _⟩ := hol.rd.at_ (k := j) (by rw [← HNL.out]; exact hlt)
                  have htk : L.take (j + 1) = L.take j ++ [b] := by rw [List.take_add_one, hb.out]; rfl
                  have hia := HIA.out b (List.mem_of_getElem? hb.out)
                  have HTK := Lib.hid htk
                  have hbj' := Lib.hid hbj
                  have hzz := hmid.z
                  clear htk hbj
                  by_cases hk1 : b.kind = 1
                  · have HK1 := Lib.hid hk1
                    clear hk1
                    have hne4 : (Value.slice jA jn jc).ownBlock = none ∨ (Value.slice jA jn jc).ownBlock ≠ some (pm + 1) := by
                      cases hv : (Value.slice jA jn jc).ownBlock with
                      | none => exact .inl rfl
                      | some g => exact .inr (fun e => by injection e with e; have := hbj'.out g hv; omega)
                    have hnep : (Value.slice jA jn jc).ownBlock = none ∨ (Value.slice jA jn jc).ownBlock ≠ some w.heap.size := by
                      cases hv : (Value.slice jA jn jc).ownBlock with
                      | none => exact .inl rfl
                      | some g => exact .inr (fun e => by injection e with e; have := hbj'.out g hv; omega)
                    have hne5 := own_fresh oj
                    have hlj : (objs (L.take j)).length ≤ 960 := Nat.le_trans (List.length_filter_le _ _) (by rw [List.length_take]; omega)
                    have hB0 := B.size
                    go_upto_region 21 with (fail)
                    refine wp_gen (fun Wv => Bx Wv (wr.heap.size) (69) (#[.int .i64 b.at_, .int .i64 b.size, .int .i64 b.kind, .int .i64 b.ty, .bool b.mark, .int .u64 b.next.toNat]) ∧ Below wr.heap.size wr Wv) ⟨((Bx.at_ (by simp))), ((Below.refl _ wr).alloc (by simp <;> omega) _)⟩ ?_
                    rintro wa7 ⟨g5, b⟩
                    try clear c_g1 f_g1 a_g1 d_g1 e_g1
                    replace g1 := g1.below b; have c_g1 := g1.cell; have f_g1 := g1.free; have a_g1 := fun o => (g1.alloc o).cell; have d_g1 := fun o o2 => ((g1.alloc o).alloc o2).cell; have e_g1 := fun o => (g1.alloc o).free; try clear c_g4 f_g4 a_g4 d_g4 e_g4
                    replace g4 := g4.below b; have c_g4 := g4.cell; have f_g4 := g4.free; have a_g4 := fun o => (g4.alloc o).cell; have d_g4 := fun o o2 => ((g4.alloc o).alloc o2).cell; have e_g4 := fun o => (g4.alloc o).free; replace mp := mp.below b; replace oj := oj.below b; replace hmid := hmid.below b; replace B := B.trans (b.mono B.size); clear b
                    have c_g5 := g5.cell; have f_g5 := g5.free; have a_g5 := fun o => (g5.alloc o).cell; have d_g5 := fun o o2 => ((g5.alloc o).alloc o2).cell; have e_g5 := fun o => (g5.alloc o).free
                    have hk1' : (b.kind == 1) = true := by rw [beq_iff_eq]; exact HK1.out
                    clear a_g1 d_g1 e_g1 a_g4 d_g4 e_g4 f_g5 a_g5 d_g5 e_g5
                    go_upto_region 23 with (at_builtin; refine wpList_append2 (by rfl) rfl rfl rfl Tryz.underlying73 info_block rfl (by omega) (by exact own_below oj ((Below.refl _ _).alloc (Nat.le_refl _) _)) (by exact lit_block b (by simp)) (bkL_one b) (by omega) (by omega) (by omega) (by exact B.alloc B.size _) (Nat.le_refl _) ?_; intro v1 w3 o3 B3 g3 hk3; obtain ⟨yA, yn, yc, rfl⟩ := row_form o3; have c_4 := ((g4.alloc _).grown g3 hne4).cell; have f_4 := ((g4.alloc _).grown g3 hne4).free; have c_5 := ((g5.alloc _).grown g3 hne5).cell; clear c_g4 f_g4 c_g5)
                    obtain ⟨m1', m2', m3'⟩ := (⟨g1, g4, mp⟩ : _ ∧ _ ∧ _)
                    have e1 : Bx w3 w.heap.size 179 #[.slice none 0 0, .slice none 0 0, .slice none 0 0, .slice none 0 0, .map none] := (g1.alloc _).grown g3 hnep
                    have e4 : Bx w3 (pm + 1) 179 #[.slice vA vn vc, .slice tA tn tc, .slice sA sn sc, .slice jA jn jc, .map (some pm)] := (g4.alloc _).grown g3 hne4
                    have e5 : Bx w3 wr.heap.size 69 #[.int .i64 b.at_, .int .i64 b.size, .int .i64 b.kind, .int .i64 b.ty, .bool b.mark, .int .u64 b.next.toNat] := (g5.alloc _).grown g3 hne5
                    have hnem : some pm ≠ (Value.slice jA jn jc).ownBlock := fun e => by have := hbj'.out pm e.symm; omega
                    have em : MapL Tryz.prog 3 4 (.bool false) w3 pm nm (fun a => .bool (decide (IsObj (objs (L.take j)) a))) := (mp.below ((Below.refl _ _).alloc (Nat.le_refl _) _)).kept g3 hnem
                    have eM : MidS lo ws w3 := (hmid.below ((Below.refl _ _).alloc (Nat.le_refl _) _)).grown g3 (fun k hk => .inr (hbj'.out k hk))
                    have eK : OwnK w3 w.heap.size (.slice yA yn yc) (objs (L.take j) ++ [b]) := OwnK.of o3 (tabB_snoc _ b)
                    have hky : ∀ g, (Value.slice yA yn yc).ownBlock = some g → ws.heap.size ≤ g := fun g hg => by
                      rcases hk3 g hg with h | h
                      · exact hbj'.out g h
                      · have h2 := hmid.z
                        simp only [World.size_alloc] at h
                        omega
                    refine wp_gen (fun V => Bx V w.heap.size 179 #[.slice none 0 0, .slice none 0 0, .slice none 0 0, .slice none 0 0, .map none] ∧ Bx V (pm + 1) 179 #[.slice vA vn vc, .slice tA tn tc, .slice sA sn sc, .slice yA yn yc, .map (some pm)] ∧ Bx V wr.heap.size 69 #[.int .i64 b.at_, .int .i64 b.size, .int .i64 b.kind, .int .i64 b.ty, .bool b.mark, .int .u64 b.next.toNat] ∧
                      MapL Tryz.prog 3 4 (.bool false) V pm nm (fun a => .bool (decide (IsObj (objs (L.take j)) a))) ∧ OwnK V w.heap.size (.slice yA yn yc) (objs (L.take j) ++ [b]) ∧ MidS lo ws V ∧ Below w.heap.size w V)
                      ⟨e1.far (p := ⟨pm + 1, 3, none⟩) (by show w.heap.size ≠ pm + 1; omega) _, e4.set (i := 3) _, e5.far (p := ⟨pm + 1, 3, none⟩) (by show wr.heap.size ≠ pm + 1; omega) _, em.kept (grown_set _ ⟨pm + 1, 3, none⟩ _) (by intro e; injection e with e; have : pm = pm + 1 := e; omega), own_set eK e4 (by decide), eM.set (p := ⟨pm + 1, 3, none⟩) hq3 _, B3.setCell (p := ⟨pm + 1, 3, none⟩) (by show w.heap.size ≤ pm + 1; omega) _⟩ ?_
                    clear e1 e4 e5 em eM eK g1 g4 g5 mp oj hmid B B3 g3 hk3 o3 c_4 f_4 c_5 m1' m2' m3' m0 m1 m2 m3 m4 m5 hne4 hnep hne5 hnem hk1' c_g1 f_g1 ia
                    rintro V ⟨g1, g4, g5, mp, oj, hmid, B⟩
                    have c_g4 := g4.cell; have c_g5 := g5.cell
                    have hnk : some pm ≠ (Value.slice yA yn yc).ownBlock := fun e => by have := hky pm e.symm; omega
                    have hnk2 : (Value.slice yA yn yc).ownBlock = none ∨ (Value.slice yA yn yc).ownBlock ≠ some pm := .inr (fun e => hnk e.symm)
                    have HKY := Lib.hid hky
                    clear hky
                    go_wp2_with (at_mapUpdate; refine wpList_mapPut rfl rfl Tryz.underlying3 Tryz.underlying177 rfl rfl rfl mp (by unfold maxLen; omega) hia (plainElem_bool Tryz.underlying4 true) ?_; intro w5 mp5 g5')
                    have hob : objs (L.take (j + 1)) = objs (L.take j) ++ [b] := by rw [HTK.out, objs_snoc, if_pos HK1.out]
                    have HREL := Lib.hid (show ∃ bj nm, Bx w5 w.heap.size 179 #[.slice none 0 0, .slice none 0 0, .slice none 0 0, .slice none 0 0, .map none] ∧ Bx w5 (pm + 1) 179 #[.slice vA vn vc, .slice tA tn tc, .slice sA sn sc, bj, .map (some pm)] ∧
                      MapL Tryz.prog 3 4 (.bool false) w5 pm nm (fun a => .bool (decide (IsObj (objs (L.take (j + 1))) a))) ∧ nm ≤ j + 1 ∧ OwnK w5 w.heap.size bj (objs (L.take (j + 1))) ∧ (∀ g, bj.ownBlock = some g → ws.heap.size ≤ g) ∧ MidS lo ws w5 ∧ Below w.heap.size w w5 from
                      ⟨_, nm + 1, g1.grown g5' (.inr (by intro e; injection e with e; omega)), g4.grown g5' (.inr (by intro e; injection e with e; omega)), by
                        rw [hob]
                        obtain ⟨D, x1, x2⟩ := mp5
                        refine ⟨D, x1, fun a => ?_⟩
                        rw [x2 a]
                        congr 1
                        dsimp only
                        by_cases e : a = b.at_
                        · rw [if_pos e]; congr 1; rw [eq_comm, decide_eq_true_iff]; exact isObj_snoc.2 (.inl e)
                        · rw [if_neg e]; congr 1; rw [Bool.eq_iff_iff, decide_eq_true_iff, decide_eq_true_iff, isObj_snoc]; simp [e], by omega, by rw [hob]; exact World.ownsRow.kept oj g5' hnk2, HKY.out, hmid.grown g5' (fun k hk => .inl (by injection hk with hk; omega)), B.grown g5' B.size (fun k hk => by injection hk with hk; omega)⟩)
                    clear mp5 g5' g1 g4 g5 mp oj hmid B
                    go_roundg (N - (j + 1))
                    case measure => omega
                    case rel => exact ⟨j + 1, by omega, rfl, by go_num, HREL⟩
                  · have hk2 : (b.kind == 1) = false := by rw [beq_eq_false_iff_ne]; exact hk1
                    have hob : objs (L.take (j + 1)) = objs (L.take j) := by rw [HTK.out, objs_snoc, if_neg hk1, List.append_nil]
                    have HOB := Lib.hid hob
                    clear hk1 hob
                    go_upto_region 21 with (fail)
                    refine wp_gen (fun Wv => Bx Wv (wr.heap.size) (69) (#[.int .i64 b.at_, .int .i64 b.size, .int .i64 b.kind, .int .i64 b.ty, .bool b.mark, .int .u64 b.next.toNat]) ∧ Below wr.heap.size wr Wv) ⟨((Bx.at_ (by simp))), ((Below.refl _ wr).alloc (by simp <;> omega) _)⟩ ?_
                    rintro wa8 ⟨g5, b⟩
                    try clear c_g1 f_g1 a_g1 d_g1 e_g1
                    replace g1 := g1.below b; have c_g1 := g1.cell; have f_g1 := g1.free; have a_g1 := fun o => (g1.alloc o).cell; have d_g1 := fun o o2 => ((g1.alloc o).alloc o2).cell; have e_g1 := fun o => (g1.alloc o).free; try clear c_g4 f_g4 a_g4 d_g4 e_g4
                    replace g4 := g4.below b; have c_g4 := g4.cell; have f_g4 := g4.free; have a_g4 := fun o => (g4.alloc o).cell; have d_g4 := fun o o2 => ((g4.alloc o).alloc o2).cell; have e_g4 := fun o => (g4.alloc o).free; replace mp := mp.below b; replace oj := oj.below b; replace hmid := hmid.below b; replace B := B.trans (b.mono B.size); clear b
                    have c_g5 := g5.cell; have f_g5 := g5.free; have a_g5 := fun o => (g5.alloc o).cell; have d_g5 := fun o o2 => ((g5.alloc o).alloc o2).cell; have e_g5 := fun o => (g5.alloc o).free
                    have HREL := Lib.hid (show ∃ bj nm, Bx _ w.heap.size 179 #[.slice none 0 0, .slice none 0 0, .slice none 0 0, .slice none 0 0, .map none] ∧ Bx _ (pm + 1) 179 #[.slice vA vn vc, .slice tA tn tc, .slice sA sn sc, bj, .map (some pm)] ∧
                      MapL Tryz.prog 3 4 (.bool false) _ pm nm (fun a => .bool (decide (IsObj (objs (L.take (j + 1))) a))) ∧ nm ≤ j + 1 ∧ OwnK _ w.heap.size bj (objs (L.take (j + 1))) ∧ (∀ g, bj.ownBlock = some g → ws.heap.size ≤ g) ∧ MidS lo ws _ ∧ Below w.heap.size w _ from ⟨_, nm, g1, g4, by rw [HOB.out]; exact mp, by omega, by rw [HOB.out]; exact oj, hbj'.out, hmid, B⟩)
                    go_wp2
                    go_roundg (N - (j + 1))
                    case measure => omega
                    case rel => exact ⟨j + 1, by omega, rfl, by go_num, HREL⟩
                · obtain rfl : j = N := by omega
                  have htk : L.take j = L := List.take_of_length_le (by rw [← HNL.out]; exact Nat.le_refl _)
                  rw [htk] at mp oj
                  have c_g1 := g1.cell; have c_g4 := g4.cell; have f_g1 := g1.free
                  have hne1 : w.heap.size ≠ pm + 1 := by omega
                  have HSG : Hid (SgO wr w.heap.size lo (.slice vA vn vc) (.slice tA tn tc) (.slice sA sn sc) (.slice jA jn jc) E pm nm l (T19 l) (slots l) (O19 l) w) := Lib.hid ⟨B, by rw [← HXT.out.1]; exact OwnT.mid HOWN.out.1 hmid.m, by rw [← HXT.out.2.2]; exact own_mid HOWN.out.2.1 hmid.m, by unfold O19; rw [← HXT.out.2.1]; exact oj, fun e => by have := hbj _ e; omega, by unfold O19; rw [← HXT.out.2.1]; exact mp⟩
                  clear mp oj
                  go_wp2
                  refine bodyPost_ret (v := .tuple #[.agg #[.slice vA vn vc, .slice tA tn tc, .slice sA sn sc, .slice jA jn jc, .map (some pm)], .int .i64 0]) (by simp [results, Tryz.results102, go_sem, c_g1, f_g1, c_g4, hne1]) rfl ?_
                  first | refine ⟨_, _, _, _, _, rfl, ⟨rfl, pm, rfl, nm, SgO.sg (((((HSG.out.set (by omega) (by omega)).set (by omega) (by omega)).set (by omega) (by omega)).set (by omega) (by omega)).set (by omega) (by omega)) H.out⟩, ?_⟩ | refine ⟨_, _, _, _, _, rfl, ⟨rfl, pm, rfl, nm, SgO.sg (((((HSG.out.set (by omega) (by omega)).set (by omega) (by omega)).set (by omega) (by omega)).set (by omega) (by omega)).set (by omega) (by omega)) H.out⟩, fun e => absurd rfl e, ?_⟩
                  (repeat (first | refine Below.setCell ?_ (by first | exact Nat.le_refl _ | (simp <;> omega)) _ | refine Below.alloc ?_ (by first | exact B.size | (have := B.size; simp <;> omega)) _)); exact B
end Go.Proofs.YtbfmdbeeiicabaaGreat
namespace Go.Proofs.YtbfmdbeeiicabaaGreat
open Go.RowKit L01 L02 L05 L07 L13 L14 L15 L18 L19
set_option maxRecDepth 100000 in
set_option maxHeartbeats 2000000 in
theorem each_any (fid : Nat) (v tv sv bv : Value) (g : Nat) (O : List Hb) (p : Hb → Bool) (c : Bool) (hc : c = decide (∀ b ∈ O, p b = true)) (hcf : ∀ args W, (callFunc fid args).run Tryz.prog W = .ok (.enter fid args) W) (w : World) (h : Blks w bv O)
    (hcl : ∀ b ∈ O, ∀ W, Below w.heap.size w W → Calls Tryz.prog fid (#[.agg #[v, tv, sv, bv, .map (some g)]] ++ (#[.agg #[.int .i64 b.at_, .int .i64 b.size, .int .i64 b.kind, .int .i64 b.ty, .bool b.mark, .int .u64 b.next.toNat]] ++ #[])) W fun e W' => e = .returned (.bool (p b)) ∧ Below W.heap.size W W') :
    Calls Tryz.prog 108 #[.agg #[v, tv, sv, bv, .map (some g)], .func (.func fid) #[.agg #[v, tv, sv, bv, .map (some g)]] #[]] w fun e w' => e = .returned (.bool c) ∧ Below w.heap.size w w' := by
  have B : Below w.heap.size w w := Below.refl _ _
  have lo := h.len
  obtain ⟨N, hN⟩ : ∃ N, N = O.length := ⟨_, rfl⟩
  have hlen := h.len_le
  rw [← hN] at lo hlen
  have H := Lib.hid h; have HN := Lib.hid hN; have HC := Lib.hid hc; have HCL := Lib.hid hcl
  clear h hN hc hcl
  go_enter Tryz.func108, Tryz.ntmps108
  go_upto_region 1 with (fail)
  refine wp_gen (fun Wv => Bx Wv (w.heap.size) (179) (#[v, tv, sv, bv, .map (some g)]) ∧ Below w.heap.size w Wv) ⟨((Bx.at_ (by simp))), ((Below.refl _ w).alloc (by simp <;> omega) _)⟩ ?_
  rintro wa1 ⟨g1, b⟩
  replace B := B.trans (b.mono B.size); clear b
  have c_g1 := g1.cell; have f_g1 := g1.free; have a_g1 := fun o => (g1.alloc o).cell; have d_g1 := fun o o2 => ((g1.alloc o).alloc o2).cell; have e_g1 := fun o => (g1.alloc o).free
  go_wp2
  have HB := Lib.hid (And.intro g1 B)
  go_loopg [10] N (fun gg i wr => ∃ j : Nat, j ≤ N ∧ gg = N - j ∧ i = .int .i64 j ∧ Hid (Below w.heap.size w wr ∧ ∀ i b, i < j → O[i]? = some b → p b = true))
  case atStart => exact ⟨0, by omega, rfl, rfl, Lib.hid ⟨HB.out.2, fun i b hi => by omega⟩⟩
  case round =>
    obtain ⟨j, hj, rfl, rfl, hh⟩ := hrel
    clear HB g1 B c_g1 f_g1 a_g1 d_g1 e_g1
    have B := hh.out.1
    by_cases hlt : j < N
    · obtain ⟨bb, oo, b, ia, m0, m1, m2, m3, m4, m5, hb, _⟩ := (Blks.below H.out B).at_ (k := j) (by rw [← HN.out]; exact hlt)
      obtain ⟨q, hq⟩ : ∃ q, q = p b := ⟨_, rfl⟩
      have CL : Hid (∀ W, Below w.heap.size w W → Calls Tryz.prog fid (#[.agg #[v, tv, sv, bv, .map (some g)]] ++ (#[.agg #[.int .i64 b.at_, .int .i64 b.size, .int .i64 b.kind, .int .i64 b.ty, .bool b.mark, .int .u64 b.next.toNat]] ++ #[])) W fun e W' => e = .returned (.bool q) ∧ Below W.heap.size W W') := by
        rw [hq]; exact Lib.hid (HCL.out b (List.mem_of_getElem? hb.out))
      cases q
      · have hc : c = false := by
          rw [HC.out, decide_eq_false_iff_not]
          exact fun hall => by have := hall b (List.mem_of_getElem? hb.out); rw [← hq] at this; cases this
        subst hc
        clear hq hb
        go_upto_region 4 with (fail)
        refine wp_gen (fun Wv => Bx Wv (wr.heap.size) (69) (#[.int .i64 b.at_, .int .i64 b.size, .int .i64 b.kind, .int .i64 b.ty, .bool b.mark, .int .u64 b.next.toNat]) ∧ Below wr.heap.size wr Wv) ⟨((Bx.at_ (by simp))), ((Below.refl _ wr).alloc (by simp <;> omega) _)⟩ ?_
        rintro wa2 ⟨g2, b⟩
        replace B := B.trans (b.mono B.size); clear b
        have c_g2 := g2.cell; have f_g2 := g2.free; have a_g2 := fun o => (g2.alloc o).cell; have d_g2 := fun o o2 => ((g2.alloc o).alloc o2).cell; have e_g2 := fun o => (g2.alloc o).free
        go_wp2_with fail
        refine (CL.out _ B).mono ?_
        rintro e wz ⟨rfl, b2⟩
        replace B := B.trans (b2.mono B.size)
        go_wp2
        go_ret
        exact ⟨rfl, B⟩
      · have HZ : Hid (∀ i b, i < j + 1 → O[i]? = some b → p b = true) := Lib.hid (fun i b' hi hb' => by
          by_cases e : i = j
          · subst e; rw [hb.out] at hb'; injection hb' with hb'; subst hb'; exact hq.symm
          · exact hh.out.2 i b' (by omega) hb')
        clear hq hb
        go_upto_region 4 with (fail)
        refine wp_gen (fun Wv => Bx Wv (wr.heap.size) (69) (#[.int .i64 b.at_, .int .i64 b.size, .int .i64 b.kind, .int .i64 b.ty, .bool b.mark, .int .u64 b.next.toNat]) ∧ Below wr.heap.size wr Wv) ⟨((Bx.at_ (by simp))), ((Below.refl _ wr).alloc (by simp <;> omega) _)⟩ ?_
        rintro wa3 ⟨g2, b⟩
        replace B := B.trans (b.mono B.size); clear b
        have c_g2 := g2.cell; have f_g2 := g2.free; have a_g2 := fun o => (g2.alloc o).cell; have d_g2 := fun o o2 => ((g2.alloc o).alloc o2).cell; have e_g2 := fun o => (g2.alloc o).free
        go_wp2_with fail
        refine (CL.out _ B).mono ?_
        rintro e wz ⟨rfl, b2⟩
        replace B := B.trans (b2.mono B.size)
        have HB := Lib.hid B
        go_wp2
        go_roundg (N - (j + 1))
        case measure => omega
        case rel => exact ⟨j + 1, by omega, rfl, by go_num, Lib.hid ⟨HB.out, HZ.out⟩⟩
    · obtain rfl : j = N := by omega
      have hc : c = true := by
        rw [HC.out, decide_eq_true_iff]
        intro b hb
        obtain ⟨i, hi, e⟩ := List.mem_iff_getElem.1 hb
        exact hh.out.2 i b (by rw [HN.out]; exact hi) (by rw [List.getElem?_eq_getElem hi, e])
      subst hc
      go_wp2
      go_ret
      exact ⟨rfl, B⟩
end Go.Proofs.YtbfmdbeeiicabaaGreat
namespace Go.Proofs.YtbfmdbeeiicabaaGreat
open Go.RowKit L01 L02 L05 L07 L13 L14 L15 L18 L19
theorem in19_of {l : List UInt64} (h : allErr l = 0) {b : Hb} (hb : b ∈ O19 l) : In19 l b := by
  obtain ⟨a, h1, h2, h3, h4, h5, h6, _⟩ := objs_at h hb
  exact ⟨a, h2, by rw [h6]; exact stand_ok h5, by omega⟩
/-- the first that fails of five -/
theorem whyO_at {l : List UInt64} {T : List (List UInt8)} {O : List Hb} : ∀ (f r k : Nat), k < f → (∀ i, i < k → AllGood l T O (r + i)) → ¬ AllGood l T O (r + k) → whyO l T O f r = r + k
  | 0, r, k, hk, _, _ => by omega
  | f + 1, r, 0, hk, h1, h2 => by
    rw [Nat.add_zero] at h2
    rw [whyO, if_neg h2]; rfl
  | f + 1, r, k + 1, hk, h1, h2 => by
    have h0 := h1 0 (by omega)
    rw [Nat.add_zero] at h0
    rw [whyO, if_pos h0, whyO_at f (r + 1) k (by omega) (fun i hi => by have := h1 (i + 1) (by omega); rwa [show r + 1 + i = r + (i + 1) by omega]) (by rwa [show r + 1 + k = r + (k + 1) by omega])]
    omega
set_option maxRecDepth 100000 in
set_option maxHeartbeats 8000000 in
theorem Reason_any (v : Value) (l : List UInt64) (n : Nat) (r : Int) (hn : n = rea l) (hr : r = reaE l) (w : World) (h : Words w v l) :
    Calls Tryz.prog 82 #[v] w fun e w' => e = .returned (.tuple #[.int .i64 n, .int .i64 r]) ∧ Below w.heap.size w w' := by
  have B : Below w.heap.size w w := Below.refl _ _
  obtain ⟨vA, vn, vc, rfl⟩ : ∃ A n c, v = .slice A n c := by obtain ⟨A, c, e, _⟩ := h; exact ⟨A, _, c, e⟩
  have H := Lib.hid h
  obtain ⟨c, hc⟩ : ∃ c, c = chk l := ⟨_, rfl⟩
  have CT : Hid (∀ w, Words w (.slice vA vn vc) l → Calls Tryz.prog 74 #[.slice vA vn vc] w fun e w' => e = .returned (.int .i64 c) ∧ w = w') := by rw [hc]; exact Lib.hid (fun w h => Check_any _ l w h)
  by_cases hs : SizeOk l.length
  case neg =>
    have hr0 : r = 8 := by rw [hr, reaE, if_neg hs]
    have hn0 : n = 0 := by rw [hn, rea, if_neg hs]
    have hc8 : c = 8 := by rw [hc, chk_no hs]
    subst hr0; subst hn0; subst hc8
    clear hr hn hs hc h
    go_enter Tryz.func82, Tryz.ntmps82
    go_wp2_with fail
    refine (CT.out _ (H.out.below B)).mono ?_
    rintro e w' ⟨rfl, rfl⟩
    go_wp2
    go_ret2
    exact ⟨rfl, B⟩
  case pos =>
    have hr0 : r = 0 := by rw [hr, reaE, if_pos hs]
    have hnw : n = why l := by rw [hn, rea, if_pos hs]
    have hc0 : c = 0 := by rw [hc, chk_ok hs]
    subst hr0; subst hc0
    obtain ⟨r6, hr6⟩ : ∃ x, x = why6 l := ⟨_, rfl⟩
    have PT := Lib.hid (fun w h => parts_any (.slice vA vn vc) l hs r6 hr6 w h)
    by_cases h6 : r6 = 0
    case neg =>
      have hn0 : n = r6 := by rw [hnw, why, if_pos (by rw [← hr6]; exact h6), hr6]
      have n1 : ((r6 : Int) != 0) = true := by rw [bne_iff_ne]; omega
      have h6' := h6
      subst hn0
      clear hr hn hs hc h hnw hr6 h6
      go_enter Tryz.func82, Tryz.ntmps82
      go_wp2_with fail
      refine (CT.out _ (H.out.below B)).mono ?_
      rintro e w' ⟨rfl, rfl⟩
      go_wp2_with fail
      refine (PT.out _ (H.out.below B)).mono ?_
      rintro e wa1 ⟨a, b, c, d, m, rfl, -, hz, b⟩
      replace B := B.trans (b.mono B.size); clear b
      obtain ⟨rfl, rfl, rfl, rfl, rfl⟩ := hz h6'
      go_wp2
      go_ret2
      refine ⟨rfl, ?_⟩
      (repeat (first | refine Below.setCell ?_ (by first | exact Nat.le_refl _ | (simp <;> omega)) _ | refine Below.alloc ?_ (by first | exact B.size | (have := B.size; simp <;> omega)) _)); exact B
    case pos =>
      subst h6
      obtain ⟨e1, e2, e3, e4, e5, e6⟩ := why6_zero.1 hr6.symm
      have hT := (T19_ok e4).2
      have hIn : ∀ b ∈ O19 l, In19 l b := fun b hb => in19_of e6 hb
      have hOl : ∀ b ∈ O19 l, b.at_ < l.length := fun b hb => by obtain ⟨a, _, h2, h3, h4, _, _, _, h8, _⟩ := objs_at e6 hb; omega
      have hl1 : l.length ≤ 1000000 := by have := hs.2.1; omega
      have hsn := slots_len' e5
      obtain ⟨c7, hc7⟩ : ∃ c, c = decide (AllGood l (T19 l) (O19 l) 7) := ⟨_, rfl⟩
      obtain ⟨c8, hc8⟩ : ∃ c, c = decide (AllGood l (T19 l) (O19 l) 8) := ⟨_, rfl⟩
      obtain ⟨c9, hc9⟩ : ∃ c, c = decide (AllGood l (T19 l) (O19 l) 9) := ⟨_, rfl⟩
      obtain ⟨c10, hc10⟩ : ∃ c, c = decide (AllGood l (T19 l) (O19 l) 10) := ⟨_, rfl⟩
      obtain ⟨c11, hc11⟩ : ∃ c, c = decide (AllGood l (T19 l) (O19 l) 11) := ⟨_, rfl⟩
      have E7 := Lib.hid (fun (tv sv bv : Value) (g gn : Nat) (w : World) (h : Sg w (.slice vA vn vc) tv sv bv g gn l (T19 l) (slots l) (O19 l)) => each_any 103 (.slice vA vn vc) tv sv bv g (O19 l) (fun b => decide (Idle b)) c7 (by rw [hc7]; simp only [decide_eq_true_iff]; rfl) (fun _ _ => rfl) w h.b (fun b hb W hW => idleB_any _ tv sv bv g b _ rfl W))
      have E8 := Lib.hid (fun (tv sv bv : Value) (g gn : Nat) (w : World) (h : Sg w (.slice vA vn vc) tv sv bv g gn l (T19 l) (slots l) (O19 l)) => each_any 104 (.slice vA vn vc) tv sv bv g (O19 l) (fun b => decide (Typed (T19 l) b)) c8 (by rw [hc8]; simp only [decide_eq_true_iff]; rfl) (fun _ _ => rfl) w h.b (fun b hb W hW => typedB_any _ tv sv bv g (T19 l) b _ rfl (by obtain ⟨a, _, hk, _⟩ := hIn b hb; exact hk.bounds.2.2.2.2.1) hT W (h.t.below hW)))
      have E9 := Lib.hid (fun (h8 : AllGood l (T19 l) (O19 l) 8) (tv sv bv : Value) (g gn : Nat) (w : World) (h : Sg w (.slice vA vn vc) tv sv bv g gn l (T19 l) (slots l) (O19 l)) => each_any 105 (.slice vA vn vc) tv sv bv g (O19 l) (fun b => decide (Padded l (T19 l) b)) c9 (by rw [hc9]; simp only [decide_eq_true_iff]; rfl) (fun _ _ => rfl) w h.b (fun b hb W hW => paddedB_any _ tv sv bv g l (T19 l) b _ rfl (hIn b hb) (h8 b hb) hl1 W (h.w.below hW) (h.t.below hW)))
      have E10 := Lib.hid (fun (h8 : AllGood l (T19 l) (O19 l) 8) (tv sv bv : Value) (g gn : Nat) (w : World) (h : Sg w (.slice vA vn vc) tv sv bv g gn l (T19 l) (slots l) (O19 l)) => each_any 106 (.slice vA vn vc) tv sv bv g (O19 l) (fun b => decide (FloatsB l (T19 l) b)) c10 (by rw [hc10]; simp only [decide_eq_true_iff]; rfl) (fun _ _ => rfl) w h.b (fun b hb W hW => floatsB_any _ tv sv bv g l (T19 l) b _ rfl (hIn b hb) (h8 b hb) hl1 W (h.w.below hW) (h.t.below hW)))
      have E11 := Lib.hid (fun (h8 : AllGood l (T19 l) (O19 l) 8) (tv sv bv : Value) (g gn : Nat) (w : World) (h : Sg w (.slice vA vn vc) tv sv bv g gn l (T19 l) (slots l) (O19 l)) => each_any 107 (.slice vA vn vc) tv sv bv g (O19 l) (fun b => decide (RefsB l (T19 l) (O19 l) b)) c11 (by rw [hc11]; simp only [decide_eq_true_iff]; rfl) (fun _ _ => rfl) w h.b (fun b hb W hW => refsB_any _ tv sv bv g gn l (T19 l) (slots l) (O19 l) b _ rfl (hIn b hb) (h8 b hb) hl1 hOl W (h.below hW)))
      have hwO : n = if whyO l (T19 l) (O19 l) 5 7 ≠ 0 then whyO l (T19 l) (O19 l) 5 7 else if SlotsGood (slots l) (O19 l) then 0 else 12 := by
        rw [hnw, why, if_neg (by rw [← hr6]; exact fun h => h rfl)]
      have HW := Lib.hid hwO
      have HCS := Lib.hid (And.intro hc7 (And.intro hc8 (And.intro hc9 (And.intro hc10 hc11))))
      have HSN := Lib.hid hsn
      have hI64 : ∀ s ∈ slots l, s.used = true → i64Ok s.at_ := fun s hs' hu => by
        obtain ⟨x, hx, rfl⟩ := List.mem_map.1 hs'
        have := (allR_of e5 x hx).2.2.2 hu
        exact ⟨by omega, by omega⟩
      have HI := Lib.hid hI64
      clear hr hn hs hc h hnw hr6 e1 e2 e3 e4 e5 e6 hT hIn hOl hl1 hsn hc7 hc8 hc9 hc10 hc11 hwO hI64
      go_enter Tryz.func82, Tryz.ntmps82
      go_wp2_with fail
      refine (CT.out _ (H.out.below B)).mono ?_
      rintro e w' ⟨rfl, rfl⟩
      go_wp2_with fail
      refine (PT.out _ (H.out.below B)).mono ?_
      rintro e wa1 ⟨a, tv, sv, bv, m, rfl, hsg, -, b⟩
      replace B := B.trans (b.mono B.size); clear b
      obtain ⟨rfl, g, gn, rfl, sg⟩ := hsg (by trivial)
      obtain ⟨tA, tn, tc, rfl⟩ : ∃ A n c, tv = .slice A n c := by obtain ⟨_, _, ⟨A, c, e, _⟩, _⟩ := sg.t; exact ⟨A, _, c, e⟩
      obtain ⟨sA, sn, sc, rfl⟩ : ∃ A n c, sv = .slice A n c := by obtain ⟨A, c, e, _⟩ := sg.s; exact ⟨A, _, c, e⟩
      obtain ⟨bA, bn, bc, rfl⟩ : ∃ A n c, bv = .slice A n c := by obtain ⟨A, c, e⟩ := sg.b.form; exact ⟨A, _, c, e⟩
      go_upto_region 5 with (fail)
      refine wp_gen (fun Wv => Bx Wv (wa1.heap.size) (179) (#[.slice vA vn vc, .slice tA tn tc, .slice sA sn sc, .slice bA bn bc, .map (some g)]) ∧ Below wa1.heap.size wa1 Wv) ⟨((Bx.at_ (by simp))), ((Below.refl _ wa1).alloc (by simp <;> omega) _)⟩ ?_
      rintro wa2 ⟨g1, b⟩
      replace sg := sg.below b; replace B := B.trans (b.mono B.size); clear b
      have c_g1 := g1.cell; have f_g1 := g1.free; have a_g1 := fun o => (g1.alloc o).cell; have d_g1 := fun o o2 => ((g1.alloc o).alloc o2).cell; have e_g1 := fun o => (g1.alloc o).free
      go_upto_region 7 with (fail)
      go_wp2
      refine wp_gen (fun Wv => Bx Wv (wa2.heap.size) (182) (#[.func (.func 103) #[.agg #[.slice vA vn vc, .slice tA tn tc, .slice sA sn sc, .slice bA bn bc, .map (some g)]] #[], .func (.func 104) #[.agg #[.slice vA vn vc, .slice tA tn tc, .slice sA sn sc, .slice bA bn bc, .map (some g)]] #[], .func (.func 105) #[.agg #[.slice vA vn vc, .slice tA tn tc, .slice sA sn sc, .slice bA bn bc, .map (some g)]] #[], .func (.func 106) #[.agg #[.slice vA vn vc, .slice tA tn tc, .slice sA sn sc, .slice bA bn bc, .map (some g)]] #[], .func (.func 107) #[.agg #[.slice vA vn vc, .slice tA tn tc, .slice sA sn sc, .slice bA bn bc, .map (some g)]] #[]]) ∧ Below wa2.heap.size wa2 Wv) ⟨((Bx.at_ (by simp))), ((Below.refl _ wa2).alloc (by simp <;> omega) _)⟩ ?_
      rintro wa3 ⟨g2, b⟩
      replace sg := sg.below b; try clear c_g1 f_g1 a_g1 d_g1 e_g1
      replace g1 := g1.below b; have c_g1 := g1.cell; have f_g1 := g1.free; have a_g1 := fun o => (g1.alloc o).cell; have d_g1 := fun o o2 => ((g1.alloc o).alloc o2).cell; have e_g1 := fun o => (g1.alloc o).free; replace B := B.trans (b.mono B.size); clear b
      have c_g2 := g2.cell; have f_g2 := g2.free; have a_g2 := fun o => (g2.alloc o).cell; have d_g2 := fun o o2 => ((g2.alloc o).alloc o2).cell; have e_g2 := fun o => (g2.alloc o).free
      have HG0 := Lib.hid (And.intro g1 (And.intro g2 (And.intro sg B)))
      clear g1 g2 sg B c_g1 f_g1 a_g1 d_g1 e_g1 c_g2 f_g2 a_g2 d_g2 e_g2
      go_loopg [36] 5 (fun gg i wr => ∃ j : Nat, j ≤ 5 ∧ gg = 5 - j ∧ i = .int .i64 j ∧ Hid (Bx wr wa1.heap.size 179 #[.slice vA vn vc, .slice tA tn tc, .slice sA sn sc, .slice bA bn bc, .map (some g)] ∧ Bx wr wa2.heap.size 182 #[.func (.func 103) #[.agg #[.slice vA vn vc, .slice tA tn tc, .slice sA sn sc, .slice bA bn bc, .map (some g)]] #[], .func (.func 104) #[.agg #[.slice vA vn vc, .slice tA tn tc, .slice sA sn sc, .slice bA bn bc, .map (some g)]] #[], .func (.func 105) #[.agg #[.slice vA vn vc, .slice tA tn tc, .slice sA sn sc, .slice bA bn bc, .map (some g)]] #[], .func (.func 106) #[.agg #[.slice vA vn vc, .slice tA tn tc, .slice sA sn sc, .slice bA bn bc, .map (some g)]] #[], .func (.func 107) #[.agg #[.slice vA vn vc, .slice tA tn tc, .slice sA sn sc, .slice bA bn bc, .map (some g)]] #[]] ∧ Sg wr (.slice vA vn vc) (.slice tA tn tc) (.slice sA sn sc) (.slice bA bn bc) g gn l (T19 l) (slots l) (O19 l) ∧ Below w.heap.size w wr ∧ ∀ i, i < j → AllGood l (T19 l) (O19 l) (7 + i)))
      case atStart =>
        obtain ⟨g1, g2, sg, B⟩ := HG0.out
        exact ⟨0, by omega, by omega, rfl, Lib.hid ⟨g1, g2, sg, B, fun i hi => by omega⟩⟩
      case round =>
        obtain ⟨j, hj, hgj, rfl, hh⟩ := hrel
        clear HG0
        obtain ⟨g1, g2, sg, B, -⟩ := hh.out
        have c_g1 := g1.cell; have c_g2 := g2.cell
        rcases (show j = 0 ∨ j = 1 ∨ j = 2 ∨ j = 3 ∨ j = 4 ∨ j = 5 by omega) with rfl | rfl | rfl | rfl | rfl | rfl
        all_goals subst hgj
        · -- reason 7
          have EK := Lib.hid (fun w h => E7.out (.slice tA tn tc) (.slice sA sn sc) (.slice bA bn bc) g gn w h)
          cases c7
          · have hno : ¬ AllGood l (T19 l) (O19 l) (7 + 0) := of_decide_eq_false HCS.out.1.symm
            have hw := whyO_at (l := l) (T := T19 l) (O := O19 l) 5 7 0 (by omega) (fun i hi => hh.out.2.2.2.2 i (by omega)) hno
            have hn0 : n = 7 + 0 := by rw [HW.out, hw, if_pos (by omega)]
            subst hn0
            clear hno hw
            go_wp2_with fail
            refine (EK.out _ sg).mono ?_
            rintro e wa4 ⟨rfl, b⟩
            try clear c_g1 f_g1 a_g1 d_g1 e_g1
            replace g1 := g1.below b; have c_g1 := g1.cell; have f_g1 := g1.free; have a_g1 := fun o => (g1.alloc o).cell; have d_g1 := fun o o2 => ((g1.alloc o).alloc o2).cell; have e_g1 := fun o => (g1.alloc o).free; try clear c_g2 f_g2 a_g2 d_g2 e_g2
            replace g2 := g2.below b; have c_g2 := g2.cell; have f_g2 := g2.free; have a_g2 := fun o => (g2.alloc o).cell; have d_g2 := fun o o2 => ((g2.alloc o).alloc o2).cell; have e_g2 := fun o => (g2.alloc o).free; replace sg := sg.below b; replace B := B.trans (b.mono B.size); clear b
            go_wp2
            go_ret2
            exact ⟨rfl, B⟩
          · have hyes : AllGood l (T19 l) (O19 l) (7 + 0) := of_decide_eq_true HCS.out.1.symm
            have HA : Hid (∀ i, i < 0 + 1 → AllGood l (T19 l) (O19 l) (7 + i)) := Lib.hid (fun i hi => by
              by_cases e : i = 0
              · subst e; exact hyes
              · exact hh.out.2.2.2.2 i (by omega))
            clear hyes
            go_wp2_with fail
            refine (EK.out _ sg).mono ?_
            rintro e wa5 ⟨rfl, b⟩
            try clear c_g1 f_g1 a_g1 d_g1 e_g1
            replace g1 := g1.below b; have c_g1 := g1.cell; have f_g1 := g1.free; have a_g1 := fun o => (g1.alloc o).cell; have d_g1 := fun o o2 => ((g1.alloc o).alloc o2).cell; have e_g1 := fun o => (g1.alloc o).free; try clear c_g2 f_g2 a_g2 d_g2 e_g2
            replace g2 := g2.below b; have c_g2 := g2.cell; have f_g2 := g2.free; have a_g2 := fun o => (g2.alloc o).cell; have d_g2 := fun o o2 => ((g2.alloc o).alloc o2).cell; have e_g2 := fun o => (g2.alloc o).free; replace sg := sg.below b; replace B := B.trans (b.mono B.size); clear b
            have HG := Lib.hid (And.intro g1 (And.intro g2 (And.intro sg (And.intro B HA.out))))
            go_wp2
            go_roundg (5 - (0 + 1))
            case measure => omega
            case rel => exact ⟨0 + 1, by omega, rfl, by go_num, HG⟩
        · -- reason 8
          have EK := Lib.hid (fun w h => E8.out (.slice tA tn tc) (.slice sA sn sc) (.slice bA bn bc) g gn w h)
          cases c8
          · have hno : ¬ AllGood l (T19 l) (O19 l) (7 + 1) := of_decide_eq_false HCS.out.2.1.symm
            have hw := whyO_at (l := l) (T := T19 l) (O := O19 l) 5 7 1 (by omega) (fun i hi => hh.out.2.2.2.2 i (by omega)) hno
            have hn0 : n = 7 + 1 := by rw [HW.out, hw, if_pos (by omega)]
            subst hn0
            clear hno hw
            go_wp2_with fail
            refine (EK.out _ sg).mono ?_
            rintro e wa6 ⟨rfl, b⟩
            try clear c_g1 f_g1 a_g1 d_g1 e_g1
            replace g1 := g1.below b; have c_g1 := g1.cell; have f_g1 := g1.free; have a_g1 := fun o => (g1.alloc o).cell; have d_g1 := fun o o2 => ((g1.alloc o).alloc o2).cell; have e_g1 := fun o => (g1.alloc o).free; try clear c_g2 f_g2 a_g2 d_g2 e_g2
            replace g2 := g2.below b; have c_g2 := g2.cell; have f_g2 := g2.free; have a_g2 := fun o => (g2.alloc o).cell; have d_g2 := fun o o2 => ((g2.alloc o).alloc o2).cell; have e_g2 := fun o => (g2.alloc o).free; replace sg := sg.below b; replace B := B.trans (b.mono B.size); clear b
            go_wp2
            go_ret2
            exact ⟨rfl, B⟩
          · have hyes : AllGood l (T19 l) (O19 l) (7 + 1) := of_decide_eq_true HCS.out.2.1.symm
            have HA : Hid (∀ i, i < 1 + 1 → AllGood l (T19 l) (O19 l) (7 + i)) := Lib.hid (fun i hi => by
              by_cases e : i = 1
              · subst e; exact hyes
              · exact hh.out.2.2.2.2 i (by omega))
            clear hyes
            go_wp2_with fail
            refine (EK.out _ sg).mono ?_
            rintro e wa7 ⟨rfl, b⟩
            try clear c_g1 f_g1 a_g1 d_g1 e_g1
            replace g1 := g1.below b; have c_g1 := g1.cell; have f_g1 := g1.free; have a_g1 := fun o => (g1.alloc o).cell; have d_g1 := fun o o2 => ((g1.alloc o).alloc o2).cell; have e_g1 := fun o => (g1.alloc o).free; try clear c_g2 f_g2 a_g2 d_g2 e_g2
            replace g2 := g2.below b; have c_g2 := g2.cell; have f_g2 := g2.free; have a_g2 := fun o => (g2.alloc o).cell; have d_g2 := fun o o2 => ((g2.alloc o).alloc o2).cell; have e_g2 := fun o => (g2.alloc o).free; replace sg := sg.below b; replace B := B.trans (b.mono B.size); clear b
            have HG := Lib.hid (And.intro g1 (And.intro g2 (And.intro sg (And.intro B HA.out))))
            go_wp2
            go_roundg (5 - (1 + 1))
            case measure => omega
            case rel => exact ⟨1 + 1, by omega, rfl, by go_num, HG⟩
        · -- reason 9
          have EK := Lib.hid (fun w h => E9.out (hh.out.2.2.2.2 1 (by omega)) (.slice tA tn tc) (.slice sA sn sc) (.slice bA bn bc) g gn w h)
          cases c9
          · have hno : ¬ AllGood l (T19 l) (O19 l) (7 + 2) := of_decide_eq_false HCS.out.2.2.1.symm
            have hw := whyO_at (l := l) (T := T19 l) (O := O19 l) 5 7 2 (by omega) (fun i hi => hh.out.2.2.2.2 i (by omega)) hno
            have hn0 : n = 7 + 2 := by rw [HW.out, hw, if_pos (by omega)]
            subst hn0
            clear hno hw
            go_wp2_with fail
            refine (EK.out _ sg).mono ?_
            rintro e wa8 ⟨rfl, b⟩
            try clear c_g1 f_g1 a_g1 d_g1 e_g1
            replace g1 := g1.below b; have c_g1 := g1.cell; have f_g1 := g1.free; have a_g1 := fun o => (g1.alloc o).cell; have d_g1 := fun o o2 => ((g1.alloc o).alloc o2).cell; have e_g1 := fun o => (g1.alloc o).free; try clear c_g2 f_g2 a_g2 d_g2 e_g2
            replace g2 := g2.below b; have c_g2 := g2.cell; have f_g2 := g2.free; have a_g2 := fun o => (g2.alloc o).cell; have d_g2 := fun o o2 => ((g2.alloc o).alloc o2).cell; have e_g2 := fun o => (g2.alloc o).free; replace sg := sg.below b; replace B := B.trans (b.mono B.size); clear b
            go_wp2
            go_ret2
            exact ⟨rfl, B⟩
          · have hyes : AllGood l (T19 l) (O19 l) (7 + 2) := of_decide_eq_true HCS.out.2.2.1.symm
            have HA : Hid (∀ i, i < 2 + 1 → AllGood l (T19 l) (O19 l) (7 + i)) := Lib.hid (fun i hi => by
              by_cases e : i = 2
              · subst e; exact hyes
              · exact hh.out.2.2.2.2 i (by omega))
            clear hyes
            go_wp2_with fail
            refine (EK.out _ sg).mono ?_
            rintro e wa9 ⟨rfl, b⟩
            try clear c_g1 f_g1 a_g1 d_g1 e_g1
            replace g1 := g1.below b; have c_g1 := g1.cell; have f_g1 := g1.free; have a_g1 := fun o => (g1.alloc o).cell; have d_g1 := fun o o2 => ((g1.alloc o).alloc o2).cell; have e_g1 := fun o => (g1.alloc o).free; try clear c_g2 f_g2 a_g2 d_g2 e_g2
            replace g2 := g2.below b; have c_g2 := g2.cell; have f_g2 := g2.free; have a_g2 := fun o => (g2.alloc o).cell; have d_g2 := fun o o2 => ((g2.alloc o).alloc o2).cell; have e_g2 := fun o => (g2.alloc o).free; replace sg := sg.below b; replace B := B.trans (b.mono B.size); clear b
            have HG := Lib.hid (And.intro g1 (And.intro g2 (And.intro sg (And.intro B HA.out))))
            go_wp2
            go_roundg (5 - (2 + 1))
            case measure => omega
            case rel => exact ⟨2 + 1, by omega, rfl, by go_num, HG⟩
        · -- reason 10
          have EK := Lib.hid (fun w h => E10.out (hh.out.2.2.2.2 1 (by omega)) (.slice tA tn tc) (.slice sA sn sc) (.slice bA bn bc) g gn w h)
          cases c10
          · have hno : ¬ AllGood l (T19 l) (O19 l) (7 + 3) := of_decide_eq_false HCS.out.2.2.2.1.symm
            have hw := whyO_at (l := l) (T := T19 l) (O := O19 l) 5 7 3 (by omega) (fun i hi => hh.out.2.2.2.2 i (by omega)) hno
            have hn0 : n = 7 + 3 := by rw [HW.out, hw, if_pos (by omega)]
            subst hn0
            clear hno hw
            go_wp2_with fail
            refine (EK.out _ sg).mono ?_
            rintro e wa10 ⟨rfl, b⟩
            try clear c_g1 f_g1 a_g1 d_g1 e_g1
            replace g1 := g1.below b; have c_g1 := g1.cell; have f_g1 := g1.free; have a_g1 := fun o => (g1.alloc o).cell; have d_g1 := fun o o2 => ((g1.alloc o).alloc o2).cell; have e_g1 := fun o => (g1.alloc o).free; try clear c_g2 f_g2 a_g2 d_g2 e_g2
            replace g2 := g2.below b; have c_g2 := g2.cell; have f_g2 := g2.free; have a_g2 := fun o => (g2.alloc o).cell; have d_g2 := fun o o2 => ((g2.alloc o).alloc o2).cell; have e_g2 := fun o => (g2.alloc o).free; replace sg := sg.below b; replace B := B.trans (b.mono B.size); clear b
            go_wp2
            go_ret2
            exact ⟨rfl, B⟩
          · have hyes : AllGood l (T19 l) (O19 l) (7 + 3) := of_decide_eq_true HCS.out.2.2.2.1.symm
            have HA : Hid (∀ i, i < 3 + 1 → AllGood l (T19 l) (O19 l) (7 + i)) := Lib.hid (fun i hi => by
              by_cases e : i = 3
              · subst e; exact hyes
              · exact hh.out.2.2.2.2 i (by omega))
            clear hyes
            go_wp2_with fail
            refine (EK.out _ sg).mono ?_
            rintro e wa11 ⟨rfl, b⟩
            try clear c_g1 f_g1 a_g1 d_g1 e_g1
            replace g1 := g1.below b; have c_g1 := g1.cell; have f_g1 := g1.free; have a_g1 := fun o => (g1.alloc o).cell; have d_g1 := fun o o2 => ((g1.alloc o).alloc o2).cell; have e_g1 := fun o => (g1.alloc o).free; try clear c_g2 f_g2 a_g2 d_g2 e_g2
            replace g2 := g2.below b; have c_g2 := g2.cell; have f_g2 := g2.free; have a_g2 := fun o => (g2.alloc o).cell; have d_g2 := fun o o2 => ((g2.alloc o).alloc o2).cell; have e_g2 := fun o => (g2.alloc o).free; replace sg := sg.below b; replace B := B.trans (b.mono B.size); clear b
            have HG := Lib.hid (And.intro g1 (And.intro g2 (And.intro sg (And.intro B HA.out))))
            go_wp2
            go_roundg (5 - (3 + 1))
            case measure => omega
            case rel => exact ⟨3 + 1, by omega, rfl, by go_num, HG⟩
        · -- reason 11
          have EK := Lib.hid (fun w h => E11.out (hh.out.2.2.2.2 1 (by omega)) (.slice tA tn tc) (.slice sA sn sc) (.slice bA bn bc) g gn w h)
          cases c11
          · have hno : ¬ AllGood l (T19 l) (O19 l) (7 + 4) := of_decide_eq_false HCS.out.2.2.2.2.symm
            have hw := whyO_at (l := l) (T := T19 l) (O := O19 l) 5 7 4 (by omega) (fun i hi => hh.out.2.2.2.2 i (by omega)) hno
            have hn0 : n = 7 + 4 := by rw [HW.out, hw, if_pos (by omega)]
            subst hn0
            clear hno hw
            go_wp2_with fail
            refine (EK.out _ sg).mono ?_
            rintro e wa12 ⟨rfl, b⟩
            try clear c_g1 f_g1 a_g1 d_g1 e_g1
            replace g1 := g1.below b; have c_g1 := g1.cell; have f_g1 := g1.free; have a_g1 := fun o => (g1.alloc o).cell; have d_g1 := fun o o2 => ((g1.alloc o).alloc o2).cell; have e_g1 := fun o => (g1.alloc o).free; try clear c_g2 f_g2 a_g2 d_g2 e_g2
            replace g2 := g2.below b; have c_g2 := g2.cell; have f_g2 := g2.free; have a_g2 := fun o => (g2.alloc o).cell; have d_g2 := fun o o2 => ((g2.alloc o).alloc o2).cell; have e_g2 := fun o => (g2.alloc o).free; replace sg := sg.below b; replace B := B.trans (b.mono B.size); clear b
            go_wp2
            go_ret2
            exact ⟨rfl, B⟩
          · have hyes : AllGood l (T19 l) (O19 l) (7 + 4) := of_decide_eq_true HCS.out.2.2.2.2.symm
            have HA : Hid (∀ i, i < 4 + 1 → AllGood l (T19 l) (O19 l) (7 + i)) := Lib.hid (fun i hi => by
              by_cases e : i = 4
              · subst e; exact hyes
              · exact hh.out.2.2.2.2 i (by omega))
            clear hyes
            go_wp2_with fail
            refine (EK.out _ sg).mono ?_
            rintro e wa13 ⟨rfl, b⟩
            try clear c_g1 f_g1 a_g1 d_g1 e_g1
            replace g1 := g1.below b; have c_g1 := g1.cell; have f_g1 := g1.free; have a_g1 := fun o => (g1.alloc o).cell; have d_g1 := fun o o2 => ((g1.alloc o).alloc o2).cell; have e_g1 := fun o => (g1.alloc o).free; try clear c_g2 f_g2 a_g2 d_g2 e_g2
            replace g2 := g2.below b; have c_g2 := g2.cell; have f_g2 := g2.free; have a_g2 := fun o => (g2.alloc o).cell; have d_g2 := fun o o2 => ((g2.alloc o).alloc o2).cell; have e_g2 := fun o => (g2.alloc o).free; replace sg := sg.below b; replace B := B.trans (b.mono B.size); clear b
            have HG := Lib.hid (And.intro g1 (And.intro g2 (And.intro sg (And.intro B HA.out))))
            go_wp2
            go_roundg (5 - (4 + 1))
            case measure => omega
            case rel => exact ⟨4 + 1, by omega, rfl, by go_num, HG⟩
        · have hall : ∀ i, 7 ≤ i → i < 7 + 5 → AllGood l (T19 l) (O19 l) i := fun i h1 h2 => by
            have := hh.out.2.2.2.2 (i - 7) (by omega)
            rwa [show 7 + (i - 7) = i by omega] at this
          have hw0 := (whyO_zero (l := l) (T := T19 l) (O := O19 l) 5 7 (by omega)).2 hall
          have hn0 : n = if SlotsGood (slots l) (O19 l) then 0 else 12 := by rw [HW.out, hw0, if_neg (by omega)]
          have HN := Lib.hid hn0
          have ls := Rd.len sg.s Tryz.underlying79
          rw [HSN.out] at ls
          clear hall hw0 hn0 g2 c_g2
          go_wp2
          have HG1 := Lib.hid (And.intro g1 (And.intro sg B))
          clear g1 sg B c_g1
          go_loopg [51] 16 (fun gg i wr2 => ∃ j : Nat, j ≤ 16 ∧ gg = 16 - j ∧ i = .int .i64 j ∧ Hid (Bx wr2 wa1.heap.size 179 #[.slice vA vn vc, .slice tA tn tc, .slice sA sn sc, .slice bA bn bc, .map (some g)] ∧ Sg wr2 (.slice vA vn vc) (.slice tA tn tc) (.slice sA sn sc) (.slice bA bn bc) g gn l (T19 l) (slots l) (O19 l) ∧ Below w.heap.size w wr2 ∧ ∀ i s, i < j → (slots l)[i]? = some s → s.used = true → IsObj (O19 l) s.at_))
          case atStart =>
            obtain ⟨g1, sg, B⟩ := HG1.out
            exact ⟨0, by omega, by omega, rfl, Lib.hid ⟨g1, sg, B, fun i s hi => by omega⟩⟩
          case round =>
            obtain ⟨j, hj, rfl, rfl, hh2⟩ := hrel
            clear HG1
            obtain ⟨g1, sg, B, -⟩ := hh2.out
            have c_g1 := g1.cell
            by_cases hlt : j < 16
            · obtain ⟨bb, oo, t, ia, m0, m1, m2, ht⟩ := sg.s.at_ (P := Tryz.prog) Tryz.underlying79 size_slot (k := j) (by rw [HSN.out]; exact hlt)
              obtain ⟨tg, tu, ta⟩ := t
              dsimp only at m0 m1 m2
              have HT := Lib.hid ht.out
              clear ht
              cases tu
              · have HZ : Hid (∀ i s, i < j + 1 → (slots l)[i]? = some s → s.used = true → IsObj (O19 l) s.at_) := Lib.hid (fun i s hi hs hu => by
                  by_cases e : i = j
                  · subst e; rw [HT.out] at hs; injection hs with hs; subst hs; cases hu
                  · exact hh2.out.2.2.2 i s (by omega) hs hu)
                go_upto_region 16 with (fail)
                refine wp_gen (fun Wv => Bx Wv (wr.heap.size) (83) (#[.int .i64 tg, .bool false, .int .i64 ta]) ∧ Below wr.heap.size wr Wv) ⟨((Bx.at_ (by simp))), ((Below.refl _ wr).alloc (by simp <;> omega) _)⟩ ?_
                rintro wa14 ⟨g2, b⟩
                try clear c_g1 f_g1 a_g1 d_g1 e_g1
                replace g1 := g1.below b; have c_g1 := g1.cell; have f_g1 := g1.free; have a_g1 := fun o => (g1.alloc o).cell; have d_g1 := fun o o2 => ((g1.alloc o).alloc o2).cell; have e_g1 := fun o => (g1.alloc o).free; replace sg := sg.below b; replace B := B.trans (b.mono B.size); clear b
                have c_g2 := g2.cell; have f_g2 := g2.free; have a_g2 := fun o => (g2.alloc o).cell; have d_g2 := fun o o2 => ((g2.alloc o).alloc o2).cell; have e_g2 := fun o => (g2.alloc o).free
                have HG := Lib.hid (And.intro g1 (And.intro sg (And.intro B HZ.out)))
                go_wp2
                go_roundg (16 - (j + 1))
                case measure => omega
                case rel => exact ⟨j + 1, by omega, rfl, by go_num, HG⟩
              · have hi64 := HI.out _ (List.mem_of_getElem? HT.out) rfl
                obtain ⟨q, hq⟩ : ∃ q, q = decide (IsObj (O19 l) ta) := ⟨_, rfl⟩
                go_upto_region 16 with (fail)
                refine wp_gen (fun Wv => Bx Wv (wr.heap.size) (83) (#[.int .i64 tg, .bool true, .int .i64 ta]) ∧ Below wr.heap.size wr Wv) ⟨((Bx.at_ (by simp))), ((Below.refl _ wr).alloc (by simp <;> omega) _)⟩ ?_
                rintro wa15 ⟨g2, b⟩
                try clear c_g1 f_g1 a_g1 d_g1 e_g1
                replace g1 := g1.below b; have c_g1 := g1.cell; have f_g1 := g1.free; have a_g1 := fun o => (g1.alloc o).cell; have d_g1 := fun o o2 => ((g1.alloc o).alloc o2).cell; have e_g1 := fun o => (g1.alloc o).free; replace sg := sg.below b; replace B := B.trans (b.mono B.size); clear b
                have c_g2 := g2.cell; have f_g2 := g2.free; have a_g2 := fun o => (g2.alloc o).cell; have d_g2 := fun o o2 => ((g2.alloc o).alloc o2).cell; have e_g2 := fun o => (g2.alloc o).free
                have hlk := sg.look (a := ta) hi64
                rw [← hq] at hlk
                cases q
                · have hno : ¬ SlotsGood (slots l) (O19 l) := fun hg => of_decide_eq_false hq.symm (hg _ (List.mem_of_getElem? HT.out) rfl)
                  have hn0 : n = 12 := by rw [HN.out, if_neg hno]
                  subst hn0
                  clear hno hq
                  go_wp2
                  go_ret2
                  exact ⟨rfl, B⟩
                · have HZ : Hid (∀ i s, i < j + 1 → (slots l)[i]? = some s → s.used = true → IsObj (O19 l) s.at_) := Lib.hid (fun i s hi hs hu => by
                    by_cases e : i = j
                    · subst e; rw [HT.out] at hs; injection hs with hs; subst hs; exact of_decide_eq_true hq.symm
                    · exact hh2.out.2.2.2 i s (by omega) hs hu)
                  have HG := Lib.hid (And.intro g1 (And.intro sg (And.intro B HZ.out)))
                  clear hq
                  go_wp2
                  go_roundg (16 - (j + 1))
                  case measure => omega
                  case rel => exact ⟨j + 1, by omega, rfl, by go_num, HG⟩
            · obtain rfl : j = 16 := by omega
              have hsg : SlotsGood (slots l) (O19 l) := fun s hs hu => by
                obtain ⟨i, hi, e⟩ := List.mem_iff_getElem.1 hs
                exact hh2.out.2.2.2 i s (by rw [← HSN.out]; exact hi) (by rw [List.getElem?_eq_getElem hi, e]) hu
              have hn0 : n = 0 := by rw [HN.out, if_pos hsg]
              subst hn0
              clear hsg
              go_wp2
              go_ret2
              exact ⟨rfl, B⟩
theorem Check19_any (v : Value) (l : List UInt64) (r : Int) (hr : r = chk19 l) (w : World) (h : Words w v l) :
    Calls Tryz.prog 49 #[v] w fun e w' => e = .returned (.int .i64 r) ∧ Below w.heap.size w w' := by
  have B : Below w.heap.size w w := Below.refl _ _
  have H := Lib.hid h
  obtain ⟨n, hn⟩ : ∃ n, n = rea l := ⟨_, rfl⟩
  obtain ⟨q, hq⟩ : ∃ q, q = reaE l := ⟨_, rfl⟩
  have RT := Lib.hid (fun w h => Reason_any v l n q hn hq w h)
  have hcase : (q = 0 ∧ n = 0 ∧ r = 0) ∨ (q = 0 ∧ 0 < n ∧ r = 50) ∨ (q = 8 ∧ r = 8) := by
    rw [hr, hn, hq]
    by_cases hs : SizeOk l.length
    · by_cases h0 : why l = 0
      · exact .inl ⟨by rw [reaE, if_pos hs], by rw [rea, if_pos hs, h0], by rw [chk19, if_pos hs, if_pos h0]⟩
      · exact .inr (.inl ⟨by rw [reaE, if_pos hs], by rw [rea, if_pos hs]; omega, by rw [chk19, if_pos hs, if_neg h0]⟩)
    · exact .inr (.inr ⟨by rw [reaE, if_neg hs], by rw [chk19, if_neg hs]⟩)
  clear hn hq hr h
  rcases hcase with ⟨rfl, rfl, rfl⟩ | ⟨rfl, h1, rfl⟩ | ⟨rfl, rfl⟩
  · skip
    go_enter Tryz.func49, Tryz.ntmps49
    go_wp2_with fail
    refine (RT.out _ (H.out.below B)).mono ?_
    rintro e wa1 ⟨rfl, b⟩
    replace B := B.trans (b.mono B.size); clear b
    go_wp2
    go_ret
    exact ⟨rfl, B⟩
  · have n1 : (0 : Int) < (n : Int) := by omega
    go_enter Tryz.func49, Tryz.ntmps49
    go_wp2_with fail
    refine (RT.out _ (H.out.below B)).mono ?_
    rintro e wa1 ⟨rfl, b⟩
    replace B := B.trans (b.mono B.size); clear b
    go_wp2
    go_ret
    exact ⟨rfl, B⟩
  · skip
    go_enter Tryz.func49, Tryz.ntmps49
    go_wp2_with fail
    refine (RT.out _ (H.out.below B)).mono ?_
    rintro e wa1 ⟨rfl, b⟩
    replace B := B.trans (b.mono B.size); clear b
    go_wp2
    go_ret
    exact ⟨rfl, B⟩
end Go.Proofs.YtbfmdbeeiicabaaGreat
namespace Go.Proofs.YtbfmdbeeiicabaaGreat
open Go.RowKit L02 L05 L06 L07
set_option maxHeartbeats 2000000 in
theorem TCopyR_any (v : Value) (m : List UInt64) (hs : SizeOk m.length) (k : Int) (l : List UInt64) (hk : k = 0 ∧ l = c0 m ∨ k = 1 ∧ l = c1 m) (W T : Int) (b : Bool) (hb : b = decide (CopyOk m.length l)) (hW : W = if CopyOk m.length l then (m.length : Int) else 0) (hT : T = if CopyOk m.length l then at3 l else 0) (w : World) (h : Words w v m) :
    Calls Tryz.prog 111 #[v, .int .i64 k] w fun e w' => e = .returned (.tuple #[.agg #[.int .i64 W, .int .i64 T], .bool b]) ∧ Below w.heap.size w w' := by
  have B : Below w.heap.size w w := Below.refl _ _
  have hn := hs.1
  have l1 := Rd.len h Tryz.underlying22
  have hl : l.length = 8 := by rcases hk with ⟨_, rfl⟩ | ⟨_, rfl⟩; exact c0_len hs; exact c1_len hs
  have sl : ∃ v', (∀ W, (Instr.sliceAt 22 v (some (.int .i64 (8 * k))) (some (.int .i64 (8 * k + 8))) none).run Tryz.prog W = .ok v' W) ∧ Words w v' l := by
    rcases hk with ⟨rfl, rfl⟩ | ⟨rfl, rfl⟩
    · exact h.cut (P := Tryz.prog) Tryz.underlying22 one_u64 (lo := 0) (hi := 8) (by omega) (by omega) (by omega)
    · exact h.cut (P := Tryz.prog) Tryz.underlying22 one_u64 (lo := 8) (hi := 16) (by omega) (by omega) (by omega)
  obtain ⟨v', sl', hv'⟩ := sl
  obtain ⟨a0, ha0⟩ : ∃ x, x = rdW l := ⟨_, rfl⟩
  obtain ⟨t0, ht0⟩ : ∃ x, x = rdT l := ⟨_, rfl⟩
  obtain ⟨e0, he0⟩ : ∃ x, x = rdErr l := ⟨_, rfl⟩
  have R0 := Lib.hid (fun w h => Read6R_r v' l (by omega) a0 t0 e0 ha0 ht0 he0 w h)
  obtain ⟨n, hnn⟩ : ∃ n, n = m.length := ⟨_, rfl⟩
  rw [← hnn] at l1
  have K : (e0 = 0 ∧ (a0 != (n : Int)) = false ∧ b = true ∧ W = a0 ∧ T = t0) ∨ (e0 = 0 ∧ (a0 != (n : Int)) = true ∧ b = false ∧ W = 0 ∧ T = 0) ∨ ((e0 != 0) = true ∧ b = false ∧ W = 0 ∧ T = 0) := by
    by_cases hg : CopyOk m.length l
    · obtain ⟨g1, g2⟩ := (good_rd hl).1 hg
      rw [if_pos hg] at hW hT
      exact .inl ⟨by rw [he0]; exact g1, by rw [bne_eq_false_iff_eq, ha0, g2, hnn], by rw [hb]; exact decide_eq_true hg, by rw [hW, ha0, g2], by rw [hT, ht0, (rd_ok3 hg.1).2]⟩
    · rw [if_neg hg] at hW hT
      rw [decide_eq_false hg] at hb
      by_cases h0 : e0 = 0
      · refine .inr (.inl ⟨h0, ?_, hb, hW, hT⟩)
        rw [bne_iff_ne]; intro ha; exact hg ((good_rd hl).2 ⟨by rw [← he0]; exact h0, by rw [← ha0, ha, hnn]⟩)
      · exact .inr (.inr ⟨by rw [bne_iff_ne]; exact h0, hb, hW, hT⟩)
  have hk2 : 0 ≤ k ∧ k ≤ 1 := by omega
  have w1 : IntKind.i64.wrap (8 * k) = 8 * k := IntWalk.i64_in _ (by omega)
  have w2 : IntKind.i64.wrap (8 * k + 8) = 8 * k + 8 := IntWalk.i64_in _ (by omega)
  have HV := Lib.hid hv'
  clear h hs hk hb hW hT hl hv' ha0 ht0 he0 hnn hn hk2
  rcases K with ⟨rfl, hq, rfl, rfl, rfl⟩ | ⟨rfl, hq, rfl, rfl, rfl⟩ | ⟨hq, rfl, rfl, rfl⟩
  all_goals
    go_enter Tryz.func111, Tryz.ntmps111
    go_upto_region 1 with (fail)
    refine wp_gen (fun Wv => Bx Wv (w.heap.size) (85) (#[.int .i64 0, .int .i64 0]) ∧ Below w.heap.size w Wv) ⟨((Bx.at_ (by simp))), ((Below.refl _ w).alloc (by simp <;> omega) _)⟩ ?_
    rintro wa1 ⟨g4, b⟩
    replace B := B.trans (b.mono B.size); clear b
    have c_g4 := g4.cell; have f_g4 := g4.free; have a_g4 := fun o => (g4.alloc o).cell; have d_g4 := fun o o2 => ((g4.alloc o).alloc o2).cell; have e_g4 := fun o => (g4.alloc o).free
    go_wp2_with fail
    refine (R0.out _ (HV.out.below B)).mono ?_
    rintro e wx ⟨rfl, b⟩
    clear c_g4 f_g4 a_g4 d_g4 e_g4
    replace g4 := g4.below b; replace B := B.trans (b.mono B.size); clear b
    have c_g4 := g4.cell; have f_g4 := g4.free; have a_g4 := fun o => (g4.alloc o).cell; have e_g4 := fun o => (g4.alloc o).free
    go_wp2
    refine bodyPost_ret (by simp [results, Tryz.results111, go_sem, c_g4, f_g4, a_g4, e_g4]) rfl ⟨rfl, ?_⟩
    (repeat (first | refine Below.setCell ?_ (by first | exact Nat.le_refl _ | (simp <;> omega)) _ | refine Below.alloc ?_ (by first | exact B.size | (have := B.size; simp <;> omega)) _)); exact B
set_option maxHeartbeats 2000000 in
theorem TReadR_any (v : Value) (m : List UInt64) (W T : Int) (b0 b1 : Bool) (r : Int) (hW : W = sW m) (hT : T = sT m) (h0 : b0 = is0 m) (h1 : b1 = is1 m) (hr : r = rErr m) (w : World) (h : Words w v m) :
    Calls Tryz.prog 88 #[v] w fun e w' => e = .returned (.tuple #[.agg #[.int .i64 W, .int .i64 T], .agg #[.bool b0, .bool b1], .int .i64 r]) ∧ Below w.heap.size w w' := by
  have B : Below w.heap.size w w := Below.refl _ _
  have CT := fun w h => CheckR_any v m w h
  by_cases hs : SizeOk m.length
  rotate_left
  · rw [chk_no hs] at CT
    obtain rfl : W = 0 := by rw [hW, sW, if_neg (by rw [rErr_no hs]; omega)]
    obtain rfl : T = 0 := by rw [hT, sT, if_neg (by rw [rErr_no hs]; omega)]
    obtain rfl : b0 = false := by rw [h0, is0_no hs]
    obtain rfl : b1 = false := by rw [h1, is1_no hs]
    obtain rfl : r = 8 := by rw [hr, rErr_no hs]
    have HC := Lib.hid CT; have H := Lib.hid h; clear CT h hs hW hT h0 h1 hr
    go_enter Tryz.func88, Tryz.ntmps88
    go_upto_region 1 with (fail)
    refine wp_gen (fun Wv => Bx Wv (w.heap.size) (85) (#[.int .i64 0, .int .i64 0]) ∧ Bx Wv (w.heap.size + 1) (86) (#[.bool false, .bool false]) ∧ Below w.heap.size w Wv) ⟨(((Bx.at_ (by simp)).alloc _)), ((Bx.at_ (by simp))), (((Below.refl _ w).alloc (by simp <;> omega) _).alloc (by simp <;> omega) _)⟩ ?_
    rintro w' ⟨g2, g3, b⟩
    replace B := B.trans (b.mono B.size); clear b
    have c_g2 := g2.cell; have f_g2 := g2.free; have a_g2 := fun o => (g2.alloc o).cell; have d_g2 := fun o o2 => ((g2.alloc o).alloc o2).cell; have e_g2 := fun o => (g2.alloc o).free
    have c_g3 := g3.cell; have f_g3 := g3.free; have a_g3 := fun o => (g3.alloc o).cell; have d_g3 := fun o o2 => ((g3.alloc o).alloc o2).cell; have e_g3 := fun o => (g3.alloc o).free
    go_wp2_with fail
    refine (HC.out _ (H.out.below B)).mono ?_
    rintro e w' ⟨rfl, rfl⟩
    go_wp2
    refine bodyPost_ret (v := .tuple #[.agg #[.int .i64 0, .int .i64 0], .agg #[.bool false, .bool false], .int .i64 8]) (by simp [results, Tryz.results88, go_sem, c_g2, f_g2, a_g2, e_g2, c_g3, f_g3, a_g3, e_g3]) rfl ?_
    exact ⟨rfl, by (repeat (first | refine Below.setCell ?_ (by first | exact Nat.le_refl _ | (simp <;> omega)) _ | refine Below.alloc ?_ (by first | exact B.size | (have := B.size; simp <;> omega)) _)); exact B⟩
  rw [chk_ok hs] at CT
  obtain ⟨a0, ha0⟩ : ∃ x, x = (if CopyOk m.length (c0 m) then (m.length : Int) else 0) := ⟨_, rfl⟩
  obtain ⟨t0, ht0⟩ : ∃ x, x = (if CopyOk m.length (c0 m) then at3 (c0 m) else 0) := ⟨_, rfl⟩
  obtain ⟨a1, ha1⟩ : ∃ x, x = (if CopyOk m.length (c1 m) then (m.length : Int) else 0) := ⟨_, rfl⟩
  obtain ⟨t1, ht1⟩ : ∃ x, x = (if CopyOk m.length (c1 m) then at3 (c1 m) else 0) := ⟨_, rfl⟩
  have R0 := Lib.hid (fun w h => TCopyR_any v m hs 0 (c0 m) (.inl ⟨rfl, rfl⟩) a0 t0 b0 (by rw [h0, is0_good hs]) ha0 ht0 w h)
  have R1 := Lib.hid (fun w h => TCopyR_any v m hs 1 (c1 m) (.inr ⟨rfl, rfl⟩) a1 t1 b1 (by rw [h1, is1_good hs]) ha1 ht1 w h)
  have F0 : b0 = true → W = a0 ∧ T = t0 ∧ r = 0 := by
    intro h
    have hi : is0 m = true := by rw [← h0]; exact h
    have hr0 := rErr_mk hs (.inl hi)
    have hg : CopyOk m.length (c0 m) := (of_decide_eq_true hi).2
    have ho : one m = c0 m := if_pos hi
    exact ⟨by rw [hW, sW, if_pos hr0, ha0, if_pos hg], by rw [hT, sT, if_pos hr0, ht0, if_pos hg, ho], by rw [hr, hr0]⟩
  have F1 : b0 = false → b1 = true → W = a1 ∧ T = t1 ∧ r = 0 := by
    intro h h'
    have hi : is1 m = true := by rw [← h1]; exact h'
    have hi0 : is0 m = false := by rw [← h0]; exact h
    have hr0 := rErr_mk hs (.inr hi)
    have hg : CopyOk m.length (c1 m) := (of_decide_eq_true hi).2
    have ho : one m = c1 m := if_neg (by simp [hi0])
    exact ⟨by rw [hW, sW, if_pos hr0, ha1, if_pos hg], by rw [hT, sT, if_pos hr0, ht1, if_pos hg, ho], by rw [hr, hr0]⟩
  have F2 : b0 = false → b1 = false → W = 0 ∧ T = 0 ∧ r = 50 := by
    intro h h'
    have hr0 := rErr_50 hs (by rw [← h0]; exact h) (by rw [← h1]; exact h')
    exact ⟨by rw [hW, sW, if_neg (by rw [hr0]; omega)], by rw [hT, sT, if_neg (by rw [hr0]; omega)], by rw [hr, hr0]⟩
  have KK : (b0 = true ∧ a0 = W ∧ t0 = T ∧ r = 0) ∨ (b0 = false ∧ b1 = true ∧ a1 = W ∧ t1 = T ∧ r = 0) ∨ (b0 = false ∧ b1 = false ∧ W = 0 ∧ T = 0 ∧ r = 50) := by
    cases b0
    · cases b1
      · exact .inr (.inr ⟨rfl, rfl, F2 rfl rfl⟩)
      · exact .inr (.inl ⟨rfl, rfl, (F1 rfl rfl).1.symm, (F1 rfl rfl).2.1.symm, (F1 rfl rfl).2.2⟩)
    · exact .inl ⟨rfl, (F0 rfl).1.symm, (F0 rfl).2.1.symm, (F0 rfl).2.2⟩
  have HC := Lib.hid CT; have H := Lib.hid h
  clear CT h hs hW hT h0 h1 hr ha0 ht0 ha1 ht1 F0 F1 F2
  rcases KK with ⟨rfl, rfl, rfl, rfl⟩ | ⟨rfl, rfl, rfl, rfl, rfl⟩ | ⟨rfl, rfl, rfl, rfl, rfl⟩
  all_goals
    go_enter Tryz.func88, Tryz.ntmps88
    go_upto_region 1 with (fail)
    refine wp_gen (fun Wv => Bx Wv (w.heap.size) (85) (#[.int .i64 0, .int .i64 0]) ∧ Bx Wv (w.heap.size + 1) (86) (#[.bool false, .bool false]) ∧ Below w.heap.size w Wv) ⟨(((Bx.at_ (by simp)).alloc _)), ((Bx.at_ (by simp))), (((Below.refl _ w).alloc (by simp <;> omega) _).alloc (by simp <;> omega) _)⟩ ?_
    rintro wa1 ⟨g2, g3, b⟩
    replace B := B.trans (b.mono B.size); clear b
    have c_g2 := g2.cell; have f_g2 := g2.free; have a_g2 := fun o => (g2.alloc o).cell; have d_g2 := fun o o2 => ((g2.alloc o).alloc o2).cell; have e_g2 := fun o => (g2.alloc o).free
    have c_g3 := g3.cell; have f_g3 := g3.free; have a_g3 := fun o => (g3.alloc o).cell; have d_g3 := fun o o2 => ((g3.alloc o).alloc o2).cell; have e_g3 := fun o => (g3.alloc o).free
    go_wp2_with fail
    refine (HC.out _ (H.out.below B)).mono ?_
    rintro e w' ⟨rfl, rfl⟩
    go_wp2_with fail
    refine (R0.out _ (H.out.below B)).mono ?_
    rintro e wa2 ⟨rfl, b⟩
    try clear c_g2 f_g2 a_g2 d_g2 e_g2
    replace g2 := g2.below b; have c_g2 := g2.cell; have f_g2 := g2.free; have a_g2 := fun o => (g2.alloc o).cell; have d_g2 := fun o o2 => ((g2.alloc o).alloc o2).cell; have e_g2 := fun o => (g2.alloc o).free; try clear c_g3 f_g3 a_g3 d_g3 e_g3
    replace g3 := g3.below b; have c_g3 := g3.cell; have f_g3 := g3.free; have a_g3 := fun o => (g3.alloc o).cell; have d_g3 := fun o o2 => ((g3.alloc o).alloc o2).cell; have e_g3 := fun o => (g3.alloc o).free; replace B := B.trans (b.mono B.size); clear b
    go_upto_region 4 with (fail)
    refine wp_gen (fun Wv => Bx Wv (wa2.heap.size) (85) (#[.int .i64 a0, .int .i64 t0]) ∧ Below wa2.heap.size wa2 Wv) ⟨((Bx.at_ (by simp))), ((Below.refl _ wa2).alloc (by simp <;> omega) _)⟩ ?_
    rintro wa3 ⟨g5, b⟩
    try clear c_g2 f_g2 a_g2 d_g2 e_g2
    replace g2 := g2.below b; have c_g2 := g2.cell; have f_g2 := g2.free; have a_g2 := fun o => (g2.alloc o).cell; have d_g2 := fun o o2 => ((g2.alloc o).alloc o2).cell; have e_g2 := fun o => (g2.alloc o).free; try clear c_g3 f_g3 a_g3 d_g3 e_g3
    replace g3 := g3.below b; have c_g3 := g3.cell; have f_g3 := g3.free; have a_g3 := fun o => (g3.alloc o).cell; have d_g3 := fun o o2 => ((g3.alloc o).alloc o2).cell; have e_g3 := fun o => (g3.alloc o).free; replace B := B.trans (b.mono B.size); clear b
    have c_g5 := g5.cell; have f_g5 := g5.free; have a_g5 := fun o => (g5.alloc o).cell; have d_g5 := fun o o2 => ((g5.alloc o).alloc o2).cell; have e_g5 := fun o => (g5.alloc o).free
    go_wp2_with fail
    refine (R1.out _ (H.out.below B)).mono ?_
    rintro e wa4 ⟨rfl, b⟩
    try clear c_g2 f_g2 a_g2 d_g2 e_g2
    replace g2 := g2.below b; have c_g2 := g2.cell; have f_g2 := g2.free; have a_g2 := fun o => (g2.alloc o).cell; have d_g2 := fun o o2 => ((g2.alloc o).alloc o2).cell; have e_g2 := fun o => (g2.alloc o).free; try clear c_g3 f_g3 a_g3 d_g3 e_g3
    replace g3 := g3.below b; have c_g3 := g3.cell; have f_g3 := g3.free; have a_g3 := fun o => (g3.alloc o).cell; have d_g3 := fun o o2 => ((g3.alloc o).alloc o2).cell; have e_g3 := fun o => (g3.alloc o).free; try clear c_g5 f_g5 a_g5 d_g5 e_g5
    replace g5 := g5.below b; have c_g5 := g5.cell; have f_g5 := g5.free; have a_g5 := fun o => (g5.alloc o).cell; have d_g5 := fun o o2 => ((g5.alloc o).alloc o2).cell; have e_g5 := fun o => (g5.alloc o).free; replace B := B.trans (b.mono B.size); clear b
    go_upto_region 5 with (fail)
    refine wp_gen (fun Wv => Bx Wv (wa4.heap.size) (85) (#[.int .i64 a1, .int .i64 t1]) ∧ Below wa4.heap.size wa4 Wv) ⟨((Bx.at_ (by simp))), ((Below.refl _ wa4).alloc (by simp <;> omega) _)⟩ ?_
    rintro wa5 ⟨g7, b⟩
    try clear c_g2 f_g2 a_g2 d_g2 e_g2
    replace g2 := g2.below b; have c_g2 := g2.cell; have f_g2 := g2.free; have a_g2 := fun o => (g2.alloc o).cell; have d_g2 := fun o o2 => ((g2.alloc o).alloc o2).cell; have e_g2 := fun o => (g2.alloc o).free; try clear c_g3 f_g3 a_g3 d_g3 e_g3
    replace g3 := g3.below b; have c_g3 := g3.cell; have f_g3 := g3.free; have a_g3 := fun o => (g3.alloc o).cell; have d_g3 := fun o o2 => ((g3.alloc o).alloc o2).cell; have e_g3 := fun o => (g3.alloc o).free; try clear c_g5 f_g5 a_g5 d_g5 e_g5
    replace g5 := g5.below b; have c_g5 := g5.cell; have f_g5 := g5.free; have a_g5 := fun o => (g5.alloc o).cell; have d_g5 := fun o o2 => ((g5.alloc o).alloc o2).cell; have e_g5 := fun o => (g5.alloc o).free; replace B := B.trans (b.mono B.size); clear b
    have c_g7 := g7.cell; have f_g7 := g7.free; have a_g7 := fun o => (g7.alloc o).cell; have d_g7 := fun o o2 => ((g7.alloc o).alloc o2).cell; have e_g7 := fun o => (g7.alloc o).free
    go_wp2
    refine bodyPost_ret (by simp [results, Tryz.results88, go_sem, c_g2, f_g2, a_g2, e_g2, c_g3, f_g3, a_g3, e_g3]) rfl ⟨rfl, ?_⟩
    (repeat (first | refine Below.setCell ?_ (by first | exact Nat.le_refl _ | (simp <;> omega)) _ | refine Below.alloc ?_ (by first | exact B.size | (have := B.size; simp <;> omega)) _)); exact B
end Go.Proofs.YtbfmdbeeiicabaaGreat
namespace Go.Proofs.YtbfmdbeeiicabaaGreat
open Go.RowKit L01 L02 L05 L06 L07 L13 L14 L15 L18 L19
set_option maxHeartbeats 1000000 in
theorem floatR19_any (x : UInt64) (b : Bool) (hb : b = decide (L20.FloatOk x)) (w : World) : Calls Tryz.prog 44 #[.int .u64 x.toNat] w fun e w' => e = .returned (.bool b) ∧ w = w' := by
  have HB := Lib.hid hb; clear hb
  go_enter Tryz.func44, Tryz.ntmps44
  go_wp2
  all_goals
    go_ret
    refine ⟨ret_bool ?_, rfl⟩
    rw [HB.out]
    rename_i hcase
    first
      | (rw [beq_iff_eq] at hcase; rw [eq_comm, decide_eq_true_iff]; unfold L20.FloatOk; omega)
      | (rw [beq_eq_false_iff_ne] at hcase; rw [Bool.eq_iff_iff, decide_eq_true_iff, decide_eq_true_iff]; unfold L20.FloatOk; omega)
set_option maxRecDepth 100000 in
theorem emptyR19_any (v : Value) (l : List UInt64) (a : Nat) (b : Bool) (hb : b = decide (Zr l a)) (ha : a + 8 ≤ l.length) (hl : l.length ≤ 1000000) (w : World) (h : Words w v l) :
    Calls Tryz.prog 128 #[v, .int .i64 a] w fun e w' => e = .returned (.bool b) ∧ w = w' := by
  have HB := Lib.hid hb; have HA := Lib.hid ha; have H := Lib.hid h
  have hal : a ≤ 1000000 := by omega
  clear hb ha hl h
  go_enter Tryz.func128, Tryz.ntmps128
  go_wp2
  go_loopg [5] 8 (fun g i wr => ∃ j : Nat, j ≤ 8 ∧ g = 8 - j ∧ i = .int .i64 j ∧ wr = w ∧ Hid (∀ i, i < j → l.getD (a + i) 0 = 0))
  case atStart => exact ⟨0, by omega, rfl, rfl, rfl, Lib.hid (fun i hi => by omega)⟩
  case round =>
    obtain ⟨j, hj, rfl, rfl, rfl, hz⟩ := hrel
    by_cases hlt : j < 8
    · have hwj : IntKind.i64.wrap ((a : Int) + (j : Int)) = (a : Int) + (j : Int) := IntWalk.i64_in _ (by omega)
      obtain ⟨ad, x, ia, m0, hx⟩ := H.out.atI (P := Tryz.prog) Tryz.underlying22 one_u64 (k := (a : Int) + (j : Int)) (by omega) (by have := HA.out; omega)
      have hgx : l.getD (a + j) 0 = x := by
        have := hx.out
        rw [show ((a : Int) + (j : Int)).toNat = a + j by omega] at this
        rw [List.getD_eq_getElem?_getD, this]; rfl
      by_cases hx0 : x = 0
      · have h0 : ((x.toNat : Int) != 0) = false := by rw [hx0]; rfl
        have HZ : Hid (∀ i, i < j + 1 → l.getD (a + i) 0 = 0) := Lib.hid (fun i hi => by
          by_cases e : i = j
          · subst e; rw [hgx, hx0]
          · exact hz.out i (by omega))
        clear hgx hx0 hx
        go_wp2
        go_roundg (8 - (j + 1))
        case measure => omega
        case rel => exact ⟨j + 1, by omega, rfl, by go_num, rfl, HZ⟩
      · have h0 : ((x.toNat : Int) != 0) = true := by rw [bne_iff_ne]; intro e; exact hx0 (UInt64.toNat.inj (by simp; omega))
        have hb : b = false := by rw [HB.out, decide_eq_false_iff_not]; exact fun h => hx0 (by rw [← hgx]; exact h j hlt)
        subst hb
        clear hgx hx0 hx
        go_wp2
        go_ret
        exact ⟨rfl, rfl⟩
    · obtain rfl : j = 8 := by omega
      have hb : b = true := by rw [HB.out, decide_eq_true_iff]; exact hz.out
      subst hb
      go_wp2
      go_ret
      exact ⟨rfl, rfl⟩
theorem sT_le {l : List UInt64} (h : rErr l = 0) : 0 ≤ sT l ∧ sT l ≤ 8 := by
  obtain ⟨_, h1⟩ := one_words h
  unfold SupOk at h1
  omega
theorem tab_tys {l : List UInt64} {n : Nat} (hs : SizeOk l.length) (hn : n ≤ 8) : tabT l n = tys l n ∧ (tabErr l n = 0 ↔ TysOk l n) := by
  have e : tabErr l n = if TysOk l n then 0 else 50 := by rw [tabErr, if_pos hs, if_pos ⟨by omega, by omega⟩, Int.toNat_natCast]
  rw [tabT, tys, e, Int.toNat_natCast]
  by_cases h : TysOk l n <;> simp [h]
set_option maxRecDepth 100000 in
set_option maxHeartbeats 1000000 in
theorem TypesR19_any (v : Value) (l : List UInt64) (hs : SizeOk l.length) (L : List (List UInt8)) (r : Bool) (hr : r = decide (rErr l = 0 ∧ tabErr l (sT l) = 0)) (hL : L = if r = true then T19 l else []) (w : World) (h : Words w v l) :
    Calls Tryz.prog 56 #[v] w fun e w' => ∃ x, e = .returned (.tuple #[x, .bool r]) ∧ OwnT w' w.heap.size x L ∧ Below w.heap.size w w' := by
  have B : Below w.heap.size w w := Below.refl _ _
  obtain ⟨sw, hsw⟩ : ∃ x, x = sW l := ⟨_, rfl⟩
  obtain ⟨st, hst⟩ : ∃ x, x = sT l := ⟨_, rfl⟩
  obtain ⟨i0, hi0⟩ : ∃ x, x = is0 l := ⟨_, rfl⟩
  obtain ⟨i1, hi1⟩ : ∃ x, x = is1 l := ⟨_, rfl⟩
  obtain ⟨r1, hr1⟩ : ∃ x, x = rErr l := ⟨_, rfl⟩
  have TT := Lib.hid (fun w h => TReadR_any v l sw st i0 i1 r1 hsw hst hi0 hi1 hr1 w h)
  have H := Lib.hid h
  by_cases h1 : r1 = 0
  case neg =>
    have hr0 : r = false := by rw [hr, decide_eq_false_iff_not, ← hr1]; exact fun h => h1 h.1
    have hL0 : L = [] := by rw [hL, hr0]; rfl
    have n1 : (r1 != 0) = true := by rw [bne_iff_ne]; exact h1
    subst hr0; subst hL0
    clear hr hL hsw hst hi0 hi1 hr1 h hs h1
    go_enter Tryz.func56, Tryz.ntmps56
    go_wp2_with fail
    refine (TT.out _ (H.out.below B)).mono ?_
    rintro e wa1 ⟨rfl, b⟩
    replace B := B.trans (b.mono B.size); clear b
    go_upto_region 2 with (fail)
    refine wp_gen (fun Wv => Bx Wv (wa1.heap.size) (85) (#[.int .i64 sw, .int .i64 st]) ∧ Bx Wv (wa1.heap.size + 1) (86) (#[.bool i0, .bool i1]) ∧ Below wa1.heap.size wa1 Wv) ⟨(((Bx.at_ (by simp)).alloc _)), ((Bx.at_ (by simp))), (((Below.refl _ wa1).alloc (by simp <;> omega) _).alloc (by simp <;> omega) _)⟩ ?_
    rintro wa2 ⟨g2, g3, b⟩
    replace B := B.trans (b.mono B.size); clear b
    have c_g2 := g2.cell; have f_g2 := g2.free; have a_g2 := fun o => (g2.alloc o).cell; have d_g2 := fun o o2 => ((g2.alloc o).alloc o2).cell; have e_g2 := fun o => (g2.alloc o).free
    have c_g3 := g3.cell; have f_g3 := g3.free; have a_g3 := fun o => (g3.alloc o).cell; have d_g3 := fun o o2 => ((g3.alloc o).alloc o2).cell; have e_g3 := fun o => (g3.alloc o).free
    go_wp2
    go_ret2
    exact ⟨_, rfl, OwnT.nil _ _, B⟩
  case pos =>
    subst h1
    obtain ⟨q1, q2⟩ := sT_le hr1.symm
    rw [← hst] at q1 q2
    obtain ⟨n, rfl⟩ := Int.eq_ofNat_of_zero_le q1
    have hn : n ≤ 8 := by omega
    obtain ⟨e1, e2⟩ := tab_tys hs hn
    have hre : r = decide (TysOk l n) := by
      rw [hr, ← hst, Bool.eq_iff_iff, decide_eq_true_iff, decide_eq_true_iff, e2]
      exact ⟨fun h => h.2, fun h => ⟨hr1.symm, h⟩⟩
    have hLe : L = tys l n := by
      rw [hL, T19, ← hst, e1, hre]
      by_cases h : TysOk l n
      · rw [if_pos (decide_eq_true h)]
      · rw [if_neg (by simpa using h), tys, if_neg h]
    have KT := Lib.hid (fun w h => TypesR_any v l n hn (by have := hs.1; omega) L r hLe hre w h)
    clear hr hL hsw hst hi0 hi1 hr1 h hs hre hLe e1 e2 q1 q2 hn
    go_enter Tryz.func56, Tryz.ntmps56
    go_wp2_with fail
    refine (TT.out _ (H.out.below B)).mono ?_
    rintro e wa1 ⟨rfl, b⟩
    replace B := B.trans (b.mono B.size); clear b
    go_upto_region 2 with (fail)
    refine wp_gen (fun Wv => Bx Wv (wa1.heap.size) (85) (#[.int .i64 sw, .int .i64 n]) ∧ Bx Wv (wa1.heap.size + 1) (86) (#[.bool i0, .bool i1]) ∧ Below wa1.heap.size wa1 Wv) ⟨(((Bx.at_ (by simp)).alloc _)), ((Bx.at_ (by simp))), (((Below.refl _ wa1).alloc (by simp <;> omega) _).alloc (by simp <;> omega) _)⟩ ?_
    rintro wa2 ⟨g2, g3, b⟩
    replace B := B.trans (b.mono B.size); clear b
    have c_g2 := g2.cell; have f_g2 := g2.free; have a_g2 := fun o => (g2.alloc o).cell; have d_g2 := fun o o2 => ((g2.alloc o).alloc o2).cell; have e_g2 := fun o => (g2.alloc o).free
    have c_g3 := g3.cell; have f_g3 := g3.free; have a_g3 := fun o => (g3.alloc o).cell; have d_g3 := fun o o2 => ((g3.alloc o).alloc o2).cell; have e_g3 := fun o => (g3.alloc o).free
    have hB1 := B.size
    go_wp2_with fail
    refine (KT.out _ (H.out.below B)).mono ?_
    rintro e wa3 ⟨xt, rfl, ot, b⟩
    try clear c_g2 f_g2 a_g2 d_g2 e_g2
    replace g2 := g2.below b; have c_g2 := g2.cell; have f_g2 := g2.free; have a_g2 := fun o => (g2.alloc o).cell; have d_g2 := fun o o2 => ((g2.alloc o).alloc o2).cell; have e_g2 := fun o => (g2.alloc o).free; try clear c_g3 f_g3 a_g3 d_g3 e_g3
    replace g3 := g3.below b; have c_g3 := g3.cell; have f_g3 := g3.free; have a_g3 := fun o => (g3.alloc o).cell; have d_g3 := fun o o2 => ((g3.alloc o).alloc o2).cell; have e_g3 := fun o => (g3.alloc o).free; replace B := B.trans (b.mono B.size); clear b
    go_wp2
    go_ret2
    exact ⟨_, rfl, ot.up hB1, B⟩
set_option maxRecDepth 100000 in
set_option maxHeartbeats 1000000 in
theorem objsR_any (v : Value) (L : List Hb) (O : List Hb) (hO : O = objs L) (w : World) (h : Blks w v L) (hl : L.length ≤ 1000000) :
    Calls Tryz.prog 79 #[v] w fun e w' => ∃ x, e = .returned x ∧ OwnK w' w.heap.size x O ∧ Below w.heap.size w w' := by
  have B : Below w.heap.size w w := Below.refl _ _
  have H := Lib.hid h; have HO := Lib.hid hO
  have lx := h.len
  obtain ⟨N, hN⟩ : ∃ N, N = L.length := ⟨_, rfl⟩
  rw [← hN] at lx hl
  have HN := Lib.hid hN
  clear h hO hN
  go_enter Tryz.func79, Tryz.ntmps79
  go_wp2
  have HB := Lib.hid B
  go_loopg [3, 4] N (fun g xv i wr => ∃ j : Nat, j ≤ N ∧ g = N - j ∧ i = .int .i64 j ∧ Hid (OwnK wr w.heap.size xv (objs (L.take j)) ∧ Below w.heap.size w wr))
  case atStart => exact ⟨0, by omega, by omega, rfl, Lib.hid ⟨by rw [List.take_zero]; exact OwnK.nil _ _, HB.out⟩⟩
  case round =>
    obtain ⟨j, hj, rfl, rfl, hh⟩ := hrel
    clear HB B
    have o1 := hh.out.1
    have B := hh.out.2
    by_cases hlt : j < N
    · have hB0 := B.size
      obtain ⟨bb, oo, b, ia, m0, m1, m2, m3, m4, m5, hb, _⟩ := (Blks.below H.out B).at_ (k := j) (by rw [← HN.out]; exact hlt)
      have htk : L.take (j + 1) = L.take j ++ [b] := by rw [List.take_add_one, hb.out]; rfl
      have hsn := objs_snoc (L := L.take j) (b := b)
      rw [← htk] at hsn
      by_cases hk : b.kind = 1
      · rw [if_pos hk] at hsn
        have k1 : (b.kind == 1) = true := by rw [beq_iff_eq]; exact hk
        have HS := Lib.hid hsn
        have hol : (objs (L.take j)).length ≤ j := Nat.le_trans (List.length_filter_le _ _) (by rw [List.length_take]; omega)
        clear hsn htk hk
        have hne := own_fresh o1
        go_wp2_with (at_builtin; refine wpList_append (by rfl) rfl rfl rfl Tryz.underlying73 info_block rfl (by omega) (by exact own_below o1 ((Below.refl _ _).alloc (Nat.le_refl _) _)) (by exact lit_block b (by simp)) (bkL_one b) (by omega) (by omega) (by exact B.alloc B.size _) (Nat.le_refl _) ?_; intro v1 w3 o3 B3 g3)
        have o4 : OwnK w3 w.heap.size v1 (objs (L.take (j + 1))) := by rw [HS.out]; exact OwnK.of o3 (tabB_snoc _ b)
        have HZ := Lib.hid (And.intro o4 B3)
        go_roundg (N - (j + 1))
        case measure => omega
        case rel => exact ⟨j + 1, by omega, rfl, by go_num, HZ⟩
      · rw [if_neg hk, List.append_nil] at hsn
        have k1 : (b.kind == 1) = false := by rw [beq_eq_false_iff_ne]; exact hk
        have HZ := hh
        rw [← hsn] at HZ
        clear hsn htk hk
        go_wp2
        go_roundg (N - (j + 1))
        case measure => omega
        case rel => exact ⟨j + 1, by omega, rfl, by go_num, HZ⟩
    · obtain rfl : j = N := by omega
      have e : objs (L.take j) = O := by rw [HO.out, HN.out, List.take_length]
      rw [e] at o1
      clear e
      go_wp2
      go_ret
      exact ⟨_, rfl, o1, B⟩
/-- the number of the block at an address, or -1 -/
def idxI (O : List Hb) (a : Int) : Int := match idx O a with | some i => (i : Int) | none => -1
theorem idx_first : ∀ {O : List Hb} {a : Int} {j : Nat} {b : Hb}, O[j]? = some b → b.at_ = a → (∀ i c, i < j → O[i]? = some c → c.at_ ≠ a) → idx O a = some j
  | [], _, _, _, h, _, _ => by cases h
  | c :: O, a, 0, b, h, e, _ => by
    simp at h; subst h
    rw [idx, if_pos e]
  | c :: O, a, j + 1, b, h, e, hn => by
    rw [idx, if_neg (hn 0 c (by omega) rfl), idx_first (by simpa using h) e (fun i d hi hd => hn (i + 1) d (by omega) (by simpa using hd))]; rfl
theorem idxI_neg {O : List Hb} {a : Int} : idxI O a < 0 ↔ ¬ IsObj O a := by
  rw [← idx_none]
  unfold idxI
  cases h : idx O a with
  | none => simp
  | some i => simp
set_option maxRecDepth 100000 in
set_option maxHeartbeats 1000000 in
theorem idxR_any (v : Value) (O : List Hb) (a : UInt64) (r : Int) (hr : r = idxI O a.toNat) (hO : ∀ b ∈ O, 0 ≤ b.at_ ∧ b.at_ ≤ 1000000) (hl : O.length ≤ 1000000) (w : World) (h : Blks w v O) :
    Calls Tryz.prog 34 #[v, .int .u64 a.toNat] w fun e w' => e = .returned (.int .i64 r) ∧ w = w' := by
  have H := Lib.hid h; have HO := Lib.hid hO; have HR := Lib.hid hr
  have lx := h.len
  obtain ⟨N, hN⟩ : ∃ N, N = O.length := ⟨_, rfl⟩
  rw [← hN] at lx hl
  have HN := Lib.hid hN
  clear h hO hN hr
  go_enter Tryz.func34, Tryz.ntmps34
  go_wp2
  go_loopg [5] N (fun g i wr => ∃ j : Nat, j ≤ N ∧ g = N - j ∧ i = .int .i64 j ∧ wr = w ∧ Hid (∀ i c, i < j → O[i]? = some c → c.at_ ≠ (a.toNat : Int)))
  case atStart => exact ⟨0, by omega, by omega, rfl, rfl, Lib.hid (fun i c hi => by omega)⟩
  case round =>
    obtain ⟨j, hj, rfl, rfl, rfl, hz⟩ := hrel
    by_cases hlt : j < N
    · obtain ⟨bb, oo, b, ia, m0, m1, m2, m3, m4, m5, hb, _⟩ := H.out.at_ (k := j) (by rw [← HN.out]; exact hlt)
      obtain ⟨z1, z2⟩ := HO.out b (List.mem_of_getElem? hb.out)
      have hwb : IntKind.u64.wrap b.at_ = b.at_ := by rw [wrap_u64]; omega
      by_cases he : b.at_ = (a.toNat : Int)
      · have k1 : (b.at_ == (a.toNat : Int)) = true := by rw [beq_iff_eq]; exact he
        have hr : r = (j : Int) := by rw [HR.out, idxI, idx_first hb.out he hz.out]
        subst hr
        clear he z1 z2
        go_wp2
        go_ret
        exact ⟨rfl, rfl⟩
      · have k1 : (b.at_ == (a.toNat : Int)) = false := by rw [beq_eq_false_iff_ne]; exact he
        have HZ : Hid (∀ i c, i < j + 1 → O[i]? = some c → c.at_ ≠ (a.toNat : Int)) := Lib.hid (fun i c hi hc => by
          by_cases e : i = j
          · subst e; rw [hb.out] at hc; injection hc with hc; subst hc; exact he
          · exact hz.out i c (by omega) hc)
        clear he z1 z2
        go_wp2
        go_roundg (N - (j + 1))
        case measure => omega
        case rel => exact ⟨j + 1, by omega, rfl, by go_num, rfl, HZ⟩
    · obtain rfl : j = N := by omega
      have hr : r = -1 := by
        rw [HR.out, idxI]
        have : idx O (a.toNat : Int) = none := idx_none.2 (fun ⟨b, hb, e⟩ => by
          obtain ⟨i, hi⟩ := List.getElem?_of_mem hb
          exact hz.out i b (by rw [HN.out]; exact (List.getElem?_eq_some_iff.1 hi).1) hi e)
        rw [this]
      subst hr
      go_wp2
      go_ret
      exact ⟨rfl, rfl⟩
end Go.Proofs.YtbfmdbeeiicabaaGreat
namespace Go.Proofs.YtbfmdbeeiicabaaGreat
open Go.RowKit L01 L02 L05 L06 L07 L13 L14 L15 L18 L19
set_option maxRecDepth 100000 in
set_option maxHeartbeats 1000000 in
theorem wrong7 (v tv bv : Value) (b : Hb) (c : Bool) (hc : c = decide (¬ Idle b)) (w : World) :
    Calls Tryz.prog 129 #[v, tv, bv, .agg #[.int .i64 b.at_, .int .i64 b.size, .int .i64 b.kind, .int .i64 b.ty, .bool b.mark, .int .u64 b.next.toNat], .int .i64 7] w fun e w' => e = .returned (.bool c) ∧ Below w.heap.size w w' := by
  have B : Below w.heap.size w w := Below.refl _ _
  have HC := Lib.hid hc; clear hc
  obtain ⟨at_, size, kind, ty, mark, next⟩ := b
  dsimp only at *
  have hn0 : (decide ((0 : Int) < (next.toNat : Int))) = decide (¬ next = 0) := by
    rw [Bool.eq_iff_iff, decide_eq_true_iff, decide_eq_true_iff]
    exact ⟨fun h e => by rw [e] at h; simp at h, fun h => by
      have : next.toNat ≠ 0 := fun e => h (UInt64.toNat.inj (by simpa using e))
      omega⟩
  obtain ⟨q, hq⟩ : ∃ q, q = decide (¬ next = 0) := ⟨_, rfl⟩
  rw [← hq] at hn0
  have hn1 : (decide ((0 : Nat) < next.toNat)) = q := by rw [← hn0, Bool.eq_iff_iff, decide_eq_true_iff, decide_eq_true_iff]; omega
  have hc : c = (mark || q) := by rw [HC.out, hq]; unfold Idle; cases mark <;> simp
  clear HC hq
  cases mark
  all_goals
    go_enter Tryz.func129, Tryz.ntmps129
    go_upto_region 1 with (fail)
    refine wp_gen (fun Wv => Bx Wv (w.heap.size) (69) (#[.int .i64 at_, .int .i64 size, .int .i64 kind, .int .i64 ty, .bool _, .int .u64 next.toNat]) ∧ Below w.heap.size w Wv) ⟨((Bx.at_ (by simp))), ((Below.refl _ w).alloc (by simp <;> omega) _)⟩ ?_
    rintro wa1 ⟨g2, b⟩
    replace B := B.trans (b.mono B.size); clear b
    have c_g2 := g2.cell; have f_g2 := g2.free; have a_g2 := fun o => (g2.alloc o).cell; have d_g2 := fun o o2 => ((g2.alloc o).alloc o2).cell; have e_g2 := fun o => (g2.alloc o).free
    go_wp2
    go_ret
    exact ⟨by rw [hc]; simp_all, B⟩
set_option maxRecDepth 100000 in
set_option maxHeartbeats 1000000 in
theorem wrong8 (v tv bv : Value) (T : List (List UInt8)) (b : Hb) (c : Bool) (hc : c = decide (¬ Typed T b)) (h0 : 0 ≤ b.ty) (hT : ∀ t ∈ T, kErr t = 0) (w : World) (h : Typs w tv T) :
    Calls Tryz.prog 129 #[v, tv, bv, .agg #[.int .i64 b.at_, .int .i64 b.size, .int .i64 b.kind, .int .i64 b.ty, .bool b.mark, .int .u64 b.next.toNat], .int .i64 8] w fun e w' => e = .returned (.bool c) ∧ Below w.heap.size w w' := by
  have B : Below w.heap.size w w := Below.refl _ _
  have lt := h.len
  obtain ⟨NT, hNT⟩ : ∃ N, N = T.length := ⟨_, rfl⟩
  rw [← hNT] at lt
  by_cases hlt : b.ty < T.length
  · obtain ⟨q, hq⟩ := Int.eq_ofNat_of_zero_le h0
    obtain ⟨at_, size, kind, ty, mark, next⟩ := b
    dsimp only at *
    subst hq
    have hqT : q < T.length := by omega
    obtain ⟨ad, x, t, it, m0, ht, hx⟩ := h.at_ (k := q) hqT
    have hk : kErr t = 0 := hT t (List.mem_of_getElem? ht.out)
    have hk8 := kErr_len hk
    obtain ⟨tn, htn⟩ : ∃ n, n = t.length := ⟨_, rfl⟩
    have lx := Rd.len hx.out Tryz.underlying94
    rw [← htn] at lx hk8
    obtain ⟨n, hn⟩ : ∃ n : Int, n = (tn : Int) + (tn : Int) % 2 + 2 := ⟨_, rfl⟩
    have KT := Lib.hid (fun w => WordsR_any (tn : Int) n (by omega) hn w)
    have hck : (n != size) = c := by
      rw [hc, Bool.eq_iff_iff, bne_iff_ne, decide_eq_true_iff]
      unfold Typed kindsB
      rw [Int.toNat_natCast, List.getD_eq_getElem?_getD, ht.out]
      simp only [Option.getD_some]
      rw [← htn]
      omega
    have n1 : decide ((NT : Int) ≤ (q : Int)) = false := decide_eq_false (by omega)
    have n2 : decide (NT ≤ q) = false := decide_eq_false (by omega)
    have n3 : ¬ (NT : Int) ≤ (q : Int) := by omega
    clear hc hT hk hn ht hx hlt hqT h0 hNT h htn
    go_enter Tryz.func129, Tryz.ntmps129
    go_upto_region 1 with (fail)
    refine wp_gen (fun Wv => Bx Wv (w.heap.size) (69) (#[.int .i64 at_, .int .i64 size, .int .i64 kind, .int .i64 q, .bool mark, .int .u64 next.toNat]) ∧ Below w.heap.size w Wv) ⟨((Bx.at_ (by simp))), ((Below.refl _ w).alloc (by simp <;> omega) _)⟩ ?_
    rintro wa1 ⟨g2, b⟩
    replace m0 := cell_later b m0; replace B := B.trans (b.mono B.size); clear b
    have c_g2 := g2.cell; have f_g2 := g2.free; have a_g2 := fun o => (g2.alloc o).cell; have d_g2 := fun o o2 => ((g2.alloc o).alloc o2).cell; have e_g2 := fun o => (g2.alloc o).free
    go_upto_region 4 with (fail)
    refine wp_region_calm (by kernel_rfl) (by kernel_rfl) ?_
    try clear c_g2 f_g2 a_g2 d_g2 e_g2
    have c_g2 := fun x : Fut _ => (g2.below x.h).cell
    have c_m0 := fun x : Fut _ => cell_later x.h m0
    repeat (go_big_quiet_step (exact Fut.same (KT.out _)))
    refine wpQuiet_nil ?_
    intro _ hw'
    obtain ⟨xq, hw''⟩ := hw'
    subst hw''
    clear c_m0; replace m0 := cell_later xq.h m0
    clear c_g2; replace g2 := g2.below xq.h; have c_g2 := g2.cell; have f_g2 := g2.free; have a_g2 := fun o => (g2.alloc o).cell; have d_g2 := fun o o2 => ((g2.alloc o).alloc o2).cell; have e_g2 := fun o => (g2.alloc o).free
    replace B := B.trans (xq.h.mono B.size)
    go_wp2
    go_ret
    exact ⟨rfl, B⟩
  · have hc0 : c = true := by rw [hc, decide_eq_true_iff]; exact fun h => hlt h.1
    obtain ⟨at_, size, kind, ty, mark, next⟩ := b
    dsimp only at *
    have n1 : decide ((NT : Int) ≤ ty) = true := decide_eq_true (by omega)
    have n3 : (NT : Int) ≤ ty := by omega
    subst hc0
    clear hc hT hlt hNT h
    go_enter Tryz.func129, Tryz.ntmps129
    go_upto_region 1 with (fail)
    refine wp_gen (fun Wv => Bx Wv (w.heap.size) (69) (#[.int .i64 at_, .int .i64 size, .int .i64 kind, .int .i64 ty, .bool mark, .int .u64 next.toNat]) ∧ Below w.heap.size w Wv) ⟨((Bx.at_ (by simp))), ((Below.refl _ w).alloc (by simp <;> omega) _)⟩ ?_
    rintro wa1 ⟨g2, b⟩
    replace B := B.trans (b.mono B.size); clear b
    have c_g2 := g2.cell; have f_g2 := g2.free; have a_g2 := fun o => (g2.alloc o).cell; have d_g2 := fun o o2 => ((g2.alloc o).alloc o2).cell; have e_g2 := fun o => (g2.alloc o).free
    go_upto_region 4 with (fail)
    refine wp_region_calm (by kernel_rfl) (by kernel_rfl) ?_
    try clear c_g2 f_g2 a_g2 d_g2 e_g2
    have c_g2 := fun x : Fut _ => (g2.below x.h).cell
    repeat (go_big_quiet_step (fail))
    refine wpQuiet_nil ?_
    intro _ hw'
    obtain ⟨xq, hw''⟩ := hw'
    subst hw''
    clear c_g2; replace g2 := g2.below xq.h; have c_g2 := g2.cell; have f_g2 := g2.free; have a_g2 := fun o => (g2.alloc o).cell; have d_g2 := fun o o2 => ((g2.alloc o).alloc o2).cell; have e_g2 := fun o => (g2.alloc o).free
    replace B := B.trans (xq.h.mono B.size)
    go_wp2
    go_ret
    exact ⟨rfl, B⟩
set_option maxRecDepth 100000 in
set_option maxHeartbeats 1000000 in
theorem wrong9 (v tv bv : Value) (l : List UInt64) (T : List (List UInt8)) (b : Hb) (c : Bool) (hc : c = decide (¬ Padded l T b)) (hi : In19 l b) (hty : Typed T b) (hl : l.length ≤ 1000000) (w : World) (hw : Words w v l) (h : Typs w tv T) :
    Calls Tryz.prog 129 #[v, tv, bv, .agg #[.int .i64 b.at_, .int .i64 b.size, .int .i64 b.kind, .int .i64 b.ty, .bool b.mark, .int .u64 b.next.toNat], .int .i64 9] w fun e w' => e = .returned (.bool c) ∧ Below w.heap.size w w' := by
  have B : Below w.heap.size w w := Below.refl _ _
  obtain ⟨a, q, t, ha, hq, hT, hk, _, hle, hodd⟩ := in_kinds hi hty
  obtain ⟨ad, x, t', it, m0, ht', hx⟩ := h.at_ (k := q) (List.getElem?_eq_some_iff.1 hT).1
  obtain rfl : t' = t := by have := ht'.out; rw [hT] at this; injection this with this; exact this.symm
  obtain ⟨n, hn⟩ : ∃ n, n = t'.length := ⟨_, rfl⟩
  have lx := Rd.len hx.out Tryz.underlying94
  rw [← hn] at lx hle hodd
  have hcp : c = decide (¬ (n % 2 = 0 ∨ fw l b n = 0)) := by rw [hc, Bool.eq_iff_iff, decide_eq_true_iff, decide_eq_true_iff]; unfold Padded; rw [hk, ← hn]
  have hsz := hty.2
  rw [hk, ← hn] at hsz
  obtain ⟨at_, size, kind, ty, mark, next⟩ := b
  dsimp only at ha hq hsz
  subst ha; subst hq
  have hfw : fw l ⟨(a : Int), size, kind, (q : Int), mark, next⟩ n = l.getD (a + 2 + n) 0 := by unfold fw; rw [Int.toNat_natCast]
  rw [hfw] at hcp
  have hw1 : IntKind.i64.wrap ((a : Int) + 2) = (a : Int) + 2 := IntWalk.i64_in _ (by omega)
  have hw2 : IntKind.i64.wrap ((a : Int) + 2 + (n : Int)) = (a : Int) + 2 + (n : Int) := IntWalk.i64_in _ (by omega)
  have hw3 : IntKind.i64.wrap (size - 2) = size - 2 := IntWalk.i64_in _ (by omega)
  by_cases hev : n % 2 = 0
  · have hc1 : c = false := by rw [hcp, decide_eq_false_iff_not]; exact fun h => h (.inl hev)
    have n1 : decide ((n : Int) < size - 2) = false := decide_eq_false (by omega)
    have n2 : ¬ (n : Int) < size - 2 := by omega
    subst hc1
    clear hc hi hty hT hk hle hodd ht' hx hcp hfw hn hw h hsz hev
    go_enter Tryz.func129, Tryz.ntmps129
    go_upto_region 1 with (fail)
    refine wp_gen (fun Wv => Bx Wv (w.heap.size) (69) (#[.int .i64 a, .int .i64 size, .int .i64 kind, .int .i64 q, .bool mark, .int .u64 next.toNat]) ∧ Below w.heap.size w Wv) ⟨((Bx.at_ (by simp))), ((Below.refl _ w).alloc (by simp <;> omega) _)⟩ ?_
    rintro wa1 ⟨g2, b⟩
    replace m0 := cell_later b m0; replace B := B.trans (b.mono B.size); clear b
    have c_g2 := g2.cell; have f_g2 := g2.free; have a_g2 := fun o => (g2.alloc o).cell; have d_g2 := fun o o2 => ((g2.alloc o).alloc o2).cell; have e_g2 := fun o => (g2.alloc o).free
    go_wp2
    go_ret
    exact ⟨rfl, B⟩
  · have n1 : decide ((n : Int) < size - 2) = true := decide_eq_true (by omega)
    have n2 : (n : Int) < size - 2 := by omega
    obtain ⟨ad2, y, iy, m1, hy⟩ := hw.at_ (P := Tryz.prog) Tryz.underlying22 one_u64 (k := a + 2 + n) (hodd (by omega))
    have iy2 : ∀ W, (Instr.indexAt 22 v (.int .i64 ((a : Int) + 2 + (n : Int)))).run Tryz.prog W = .ok (.pointer (some ad2)) W := iy
    have hgy : l.getD (a + 2 + n) 0 = y := by rw [List.getD_eq_getElem?_getD, hy.out]; rfl
    have hc1 : c = decide (¬ y = 0) := by rw [hcp, hgy]; simp [hev]
    have hy0 : ((y.toNat : Int) != 0) = c := by
      rw [hc1, Bool.eq_iff_iff, bne_iff_ne, decide_eq_true_iff]
      exact ⟨fun h e => h (by rw [e]; rfl), fun h e => h (UInt64.toNat.inj (by simp; omega))⟩
    clear hc hi hty hT hk hle hodd ht' hx hcp hfw hn hw h hgy hc1 hy hsz hev iy
    go_enter Tryz.func129, Tryz.ntmps129
    go_upto_region 1 with (fail)
    refine wp_gen (fun Wv => Bx Wv (w.heap.size) (69) (#[.int .i64 a, .int .i64 size, .int .i64 kind, .int .i64 q, .bool mark, .int .u64 next.toNat]) ∧ Below w.heap.size w Wv) ⟨((Bx.at_ (by simp))), ((Below.refl _ w).alloc (by simp <;> omega) _)⟩ ?_
    rintro wa1 ⟨g2, b⟩
    replace m0 := cell_later b m0; replace m1 := cell_later b m1; replace B := B.trans (b.mono B.size); clear b
    have c_g2 := g2.cell; have f_g2 := g2.free; have a_g2 := fun o => (g2.alloc o).cell; have d_g2 := fun o o2 => ((g2.alloc o).alloc o2).cell; have e_g2 := fun o => (g2.alloc o).free
    go_wp2
    go_ret
    exact ⟨rfl, B⟩
end Go.Proofs.YtbfmdbeeiicabaaGreat
namespace Go.Proofs.YtbfmdbeeiicabaaGreat
open Go.RowKit L01 L02 L05 L06 L07 L13 L14 L15 L18 L19
set_option maxRecDepth 100000 in
set_option maxHeartbeats 2000000 in
theorem wrong10 (v tv bv : Value) (l : List UInt64) (T : List (List UInt8)) (b : Hb) (c : Bool) (hc : c = decide (¬ FloatsB l T b)) (hi : In19 l b) (hty : Typed T b) (hl : l.length ≤ 1000000) (w : World) (hw : Words w v l) (h : Typs w tv T) :
    Calls Tryz.prog 129 #[v, tv, bv, .agg #[.int .i64 b.at_, .int .i64 b.size, .int .i64 b.kind, .int .i64 b.ty, .bool b.mark, .int .u64 b.next.toNat], .int .i64 10] w fun e w' => e = .returned (.bool c) ∧ Below w.heap.size w w' := by
  have B : Below w.heap.size w w := Below.refl _ _
  obtain ⟨a, q, t, ha, hq, hT, hk, _, hle, _⟩ := in_kinds hi hty
  obtain ⟨ad, x, t', it, m0, ht', hx⟩ := h.at_ (k := q) (List.getElem?_eq_some_iff.1 hT).1
  obtain rfl : t' = t := by have := ht'.out; rw [hT] at this; injection this with this; exact this.symm
  obtain ⟨n, hn⟩ : ∃ n, n = t'.length := ⟨_, rfl⟩
  have lx := Rd.len hx.out Tryz.underlying94
  rw [← hn] at lx hle
  have hcp : c = decide (¬ ∀ i, i < n → (t'.getD i 0).toNat = 2 → L20.FloatOk (fw l b i)) := by rw [hc, Bool.eq_iff_iff, decide_eq_true_iff, decide_eq_true_iff]; unfold FloatsB; rw [hk, ← hn]
  obtain ⟨at_, size, kind, ty, mark, next⟩ := b
  dsimp only at ha hq
  subst ha; subst hq
  have hfw : ∀ i, fw l ⟨(a : Int), size, kind, (q : Int), mark, next⟩ i = l.getD (a + 2 + i) 0 := fun i => by unfold fw; rw [Int.toNat_natCast]
  have HC := Lib.hid (And.intro hcp hfw)
  have hw1 : IntKind.i64.wrap ((a : Int) + 2) = (a : Int) + 2 := IntWalk.i64_in _ (by omega)
  have HH := Lib.hid hn; have HX := hx; have HW := Lib.hid hw
  have HN := Lib.hid (And.intro hle hl)
  have hnb : n ≤ 1000000 := by omega
  clear hc hi hty hT hk hle ht' hx hcp hfw hn hw h hl
  go_enter Tryz.func129, Tryz.ntmps129
  go_upto_region 1 with (fail)
  refine wp_gen (fun Wv => Bx Wv (w.heap.size) (69) (#[.int .i64 a, .int .i64 size, .int .i64 kind, .int .i64 q, .bool mark, .int .u64 next.toNat]) ∧ Below w.heap.size w Wv) ⟨((Bx.at_ (by simp))), ((Below.refl _ w).alloc (by simp <;> omega) _)⟩ ?_
  rintro wa1 ⟨g2, b⟩
  replace m0 := cell_later b m0; replace B := B.trans (b.mono B.size); clear b
  have c_g2 := g2.cell; have f_g2 := g2.free; have a_g2 := fun o => (g2.alloc o).cell; have d_g2 := fun o o2 => ((g2.alloc o).alloc o2).cell; have e_g2 := fun o => (g2.alloc o).free
  go_wp2
  go_loopg [12] n (fun gg i wr => ∃ j : Nat, j ≤ n ∧ gg = n - j ∧ i = .int .i64 j ∧ Hid (wr = wa1) ∧ Hid (∀ i, i < j → (t'.getD i 0).toNat = 2 → L20.FloatOk (l.getD (a + 2 + i) 0)))
  case atStart => exact ⟨0, by omega, rfl, rfl, Lib.hid rfl, Lib.hid (fun i hi => by omega)⟩
  case round =>
    obtain ⟨j, hj, rfl, rfl, hh, hz⟩ := hrel
    obtain rfl := hh.out
    by_cases hlt : j < n
    · obtain ⟨ak, kd, ik, mk, hkd⟩ := (Byts.below HX.out B).at_ (P := Tryz.prog) Tryz.underlying94 one_u8 (k := j) (by rw [← HH.out]; exact hlt)
      have hgk : t'.getD j 0 = kd := by rw [List.getD_eq_getElem?_getD, hkd.out]; rfl
      obtain ⟨ad2, y, iy, m2, hy⟩ := (HW.out.below B).at_ (P := Tryz.prog) Tryz.underlying22 one_u64 (k := a + 2 + j) (by have := HN.out.1; omega)
      have iy2 : ∀ W, (Instr.indexAt 22 v (.int .i64 ((a : Int) + 2 + (j : Int)))).run Tryz.prog W = .ok (.pointer (some ad2)) W := iy
      have hgy : l.getD (a + 2 + j) 0 = y := by rw [List.getD_eq_getElem?_getD, hy.out]; rfl
      have hw2 : IntKind.i64.wrap ((a : Int) + 2 + (j : Int)) = (a : Int) + 2 + (j : Int) := IntWalk.i64_in _ (by have := HN.out; omega)
      by_cases hk2 : kd.toNat = 2
      · have hk3 : ((kd.toNat : Int) == 2) = true := by rw [beq_iff_eq]; omega
        obtain ⟨fb, hfb⟩ : ∃ fb, fb = decide (L20.FloatOk y) := ⟨_, rfl⟩
        have FT := Lib.hid (fun w => floatR19_any y fb hfb w)
        cases fb
        · have hno : ¬ L20.FloatOk y := of_decide_eq_false hfb.symm
          have hc0 : c = true := by
            rw [HC.out.1, decide_eq_true_iff]
            intro hall
            have := hall j hlt (by rw [hgk]; exact hk2)
            rw [HC.out.2, hgy] at this
            exact hno this
          subst hc0
          clear hfb hno hgy hy hgk hk2 hkd iy
          go_wp2_with fail
          refine (FT.out _).mono ?_
          rintro e w' ⟨rfl, rfl⟩
          go_wp2
          go_ret
          exact ⟨rfl, B⟩
        · have hyes : L20.FloatOk y := of_decide_eq_true hfb.symm
          have HZ : Hid (∀ i, i < j + 1 → (t'.getD i 0).toNat = 2 → L20.FloatOk (l.getD (a + 2 + i) 0)) := Lib.hid (fun i hi h2 => by
            by_cases e : i = j
            · subst e; rw [hgy]; exact hyes
            · exact hz.out i (by omega) h2)
          clear hfb hyes hgy hy hgk hk2 hkd iy
          go_wp2_with fail
          refine (FT.out _).mono ?_
          rintro e w' ⟨rfl, rfl⟩
          go_wp2
          go_roundg (n - (j + 1))
          case measure => omega
          case rel => exact ⟨j + 1, by omega, rfl, by go_num, Lib.hid rfl, HZ⟩
      · have hk3 : ((kd.toNat : Int) == 2) = false := by rw [beq_eq_false_iff_ne]; omega
        have HZ : Hid (∀ i, i < j + 1 → (t'.getD i 0).toNat = 2 → L20.FloatOk (l.getD (a + 2 + i) 0)) := Lib.hid (fun i hi h2 => by
          by_cases e : i = j
          · subst e; rw [hgk] at h2; exact absurd h2 hk2
          · exact hz.out i (by omega) h2)
        clear hgk hk2 hkd hgy hy iy
        go_wp2
        go_roundg (n - (j + 1))
        case measure => omega
        case rel => exact ⟨j + 1, by omega, rfl, by go_num, Lib.hid rfl, HZ⟩
    · obtain rfl : j = n := by omega
      have hc1 : c = false := by rw [HC.out.1, decide_eq_false_iff_not]; exact fun hh => hh (by intro i hi h2; rw [HC.out.2]; exact hz.out i hi h2)
      subst hc1
      go_wp2
      go_ret
      exact ⟨rfl, B⟩
set_option maxRecDepth 100000 in
set_option maxHeartbeats 2000000 in
theorem wrong11 (v tv bv : Value) (l : List UInt64) (T : List (List UInt8)) (O : List Hb) (b : Hb) (c : Bool) (hc : c = decide (¬ RefsB l T O b)) (hi : In19 l b) (hty : Typed T b) (hl : l.length ≤ 1000000) (hO : ∀ b ∈ O, 0 ≤ b.at_ ∧ b.at_ ≤ 1000000) (hOl : O.length ≤ 1000000) (w : World) (hw : Words w v l) (h : Typs w tv T) (hb : Blks w bv O) :
    Calls Tryz.prog 129 #[v, tv, bv, .agg #[.int .i64 b.at_, .int .i64 b.size, .int .i64 b.kind, .int .i64 b.ty, .bool b.mark, .int .u64 b.next.toNat], .int .i64 11] w fun e w' => e = .returned (.bool c) ∧ Below w.heap.size w w' := by
  have B : Below w.heap.size w w := Below.refl _ _
  obtain ⟨a, q, t, ha, hq, hT, hk, _, hle, _⟩ := in_kinds hi hty
  obtain ⟨ad, x, t', it, m0, ht', hx⟩ := h.at_ (k := q) (List.getElem?_eq_some_iff.1 hT).1
  obtain rfl : t' = t := by have := ht'.out; rw [hT] at this; injection this with this; exact this.symm
  obtain ⟨n, hn⟩ : ∃ n, n = t'.length := ⟨_, rfl⟩
  have lx := Rd.len hx.out Tryz.underlying94
  rw [← hn] at lx hle
  have hcp : c = decide (¬ ∀ i, i < n → (t'.getD i 0).toNat = 3 → (fw l b i = 0 ∨ IsObj O (fw l b i).toNat)) := by rw [hc, Bool.eq_iff_iff, decide_eq_true_iff, decide_eq_true_iff]; unfold RefsB; rw [hk, ← hn]
  obtain ⟨at_, size, kind, ty, mark, next⟩ := b
  dsimp only at ha hq
  subst ha; subst hq
  have hfw : ∀ i, fw l ⟨(a : Int), size, kind, (q : Int), mark, next⟩ i = l.getD (a + 2 + i) 0 := fun i => by unfold fw; rw [Int.toNat_natCast]
  have HC := Lib.hid (And.intro hcp hfw)
  have hw1 : IntKind.i64.wrap ((a : Int) + 2) = (a : Int) + 2 := IntWalk.i64_in _ (by omega)
  have HH := Lib.hid hn; have HX := hx; have HW := Lib.hid hw; have HO := Lib.hid (And.intro hO (And.intro hOl hb))
  have HN := Lib.hid (And.intro hle hl)
  have hnb : n ≤ 1000000 := by omega
  clear hc hi hty hT hk hle ht' hx hcp hfw hn hw h hl hO hOl hb
  go_enter Tryz.func129, Tryz.ntmps129
  go_upto_region 1 with (fail)
  refine wp_gen (fun Wv => Bx Wv (w.heap.size) (69) (#[.int .i64 a, .int .i64 size, .int .i64 kind, .int .i64 q, .bool mark, .int .u64 next.toNat]) ∧ Below w.heap.size w Wv) ⟨((Bx.at_ (by simp))), ((Below.refl _ w).alloc (by simp <;> omega) _)⟩ ?_
  rintro wa1 ⟨g2, b⟩
  replace m0 := cell_later b m0; replace B := B.trans (b.mono B.size); clear b
  have c_g2 := g2.cell; have f_g2 := g2.free; have a_g2 := fun o => (g2.alloc o).cell; have d_g2 := fun o o2 => ((g2.alloc o).alloc o2).cell; have e_g2 := fun o => (g2.alloc o).free
  go_wp2
  go_loopg [12] n (fun gg i wr => ∃ j : Nat, j ≤ n ∧ gg = n - j ∧ i = .int .i64 j ∧ Hid (wr = wa1) ∧ Hid (∀ i, i < j → (t'.getD i 0).toNat = 3 → (l.getD (a + 2 + i) 0 = 0 ∨ IsObj O (l.getD (a + 2 + i) 0).toNat)))
  case atStart => exact ⟨0, by omega, rfl, rfl, Lib.hid rfl, Lib.hid (fun i hi => by omega)⟩
  case round =>
    obtain ⟨j, hj, rfl, rfl, hh, hz⟩ := hrel
    obtain rfl := hh.out
    by_cases hlt : j < n
    · obtain ⟨ak, kd, ik, mk, hkd⟩ := (Byts.below HX.out B).at_ (P := Tryz.prog) Tryz.underlying94 one_u8 (k := j) (by rw [← HH.out]; exact hlt)
      have hgk : t'.getD j 0 = kd := by rw [List.getD_eq_getElem?_getD, hkd.out]; rfl
      obtain ⟨ad2, y, iy, m2, hy⟩ := (HW.out.below B).at_ (P := Tryz.prog) Tryz.underlying22 one_u64 (k := a + 2 + j) (by have := HN.out.1; omega)
      have iy2 : ∀ W, (Instr.indexAt 22 v (.int .i64 ((a : Int) + 2 + (j : Int)))).run Tryz.prog W = .ok (.pointer (some ad2)) W := iy
      have hgy : l.getD (a + 2 + j) 0 = y := by rw [List.getD_eq_getElem?_getD, hy.out]; rfl
      have hw2 : IntKind.i64.wrap ((a : Int) + 2 + (j : Int)) = (a : Int) + 2 + (j : Int) := IntWalk.i64_in _ (by have := HN.out; omega)
      have hstep : ((t'.getD j 0).toNat = 3 → (y = 0 ∨ IsObj O y.toNat)) → Hid (∀ i, i < j + 1 → (t'.getD i 0).toNat = 3 → (l.getD (a + 2 + i) 0 = 0 ∨ IsObj O (l.getD (a + 2 + i) 0).toNat)) := fun hh => Lib.hid (fun i hi h2 => by
        by_cases e : i = j
        · subst e; rw [hgy]; exact hh h2
        · exact hz.out i (by omega) h2)
      by_cases hk3 : kd.toNat = 3
      · have hk4 : ((kd.toNat : Int) == 3) = true := by rw [beq_iff_eq]; omega
        by_cases hy0 : y = 0
        · have h0 : decide ((0 : Int) < (y.toNat : Int)) = false := by rw [hy0]; rfl
          have h1 : decide ((0 : Nat) < y.toNat) = false := by rw [hy0]; rfl
          have HZ := hstep (fun _ => .inl hy0)
          clear hstep hgy hgk hy0 hy hkd hk3 iy
          go_wp2
          go_roundg (n - (j + 1))
          case measure => omega
          case rel => exact ⟨j + 1, by omega, rfl, by go_num, Lib.hid rfl, HZ⟩
        · have hyp : 0 < y.toNat := Nat.pos_of_ne_zero (fun e => hy0 (UInt64.toNat.inj (by simpa using e)))
          have h0 : decide ((0 : Int) < (y.toNat : Int)) = true := decide_eq_true (by omega)
          have h1 : decide ((0 : Nat) < y.toNat) = true := decide_eq_true hyp
          obtain ⟨r, hr⟩ : ∃ r, r = idxI O y.toNat := ⟨_, rfl⟩
          have IT := Lib.hid (fun w h => idxR_any bv O y r hr HO.out.1 HO.out.2.1 w h)
          have hneg : r < 0 ↔ ¬ IsObj O y.toNat := by rw [hr]; exact idxI_neg
          by_cases ho : IsObj O y.toNat
          · have n1 : decide (r < 0) = false := decide_eq_false (fun h => hneg.1 h ho)
            have n2 : ¬ r < 0 := fun h => hneg.1 h ho
            have HZ := hstep (fun _ => .inr ho)
            clear hstep hgy hgk hy0 hy hkd hk3 iy hr hneg ho hyp
            go_wp2_with fail
            refine (IT.out _ (HO.out.2.2.below B)).mono ?_
            rintro e w' ⟨rfl, rfl⟩
            go_wp2
            go_roundg (n - (j + 1))
            case measure => omega
            case rel => exact ⟨j + 1, by omega, rfl, by go_num, Lib.hid rfl, HZ⟩
          · have n1 : decide (r < 0) = true := decide_eq_true (hneg.2 ho)
            have n2 : r < 0 := hneg.2 ho
            have hc0 : c = true := by
              rw [HC.out.1, decide_eq_true_iff]
              intro hall
              have := hall j hlt (by rw [hgk]; exact hk3)
              rw [HC.out.2, hgy] at this
              exact this.elim hy0 ho
            subst hc0
            clear hstep hgy hgk hy0 hy hkd hk3 iy hr hneg ho hyp
            go_wp2_with fail
            refine (IT.out _ (HO.out.2.2.below B)).mono ?_
            rintro e w' ⟨rfl, rfl⟩
            go_wp2
            go_ret
            exact ⟨rfl, B⟩
      · have hkn : ((kd.toNat : Int) == 3) = false := by rw [beq_eq_false_iff_ne]; omega
        have HZ := hstep (fun h3 => absurd (by rw [← hgk]; exact h3) hk3)
        clear hstep hgy hgk hy hkd hk3 iy
        go_wp2
        go_roundg (n - (j + 1))
        case measure => omega
        case rel => exact ⟨j + 1, by omega, rfl, by go_num, Lib.hid rfl, HZ⟩
    · obtain rfl : j = n := by omega
      have hc1 : c = false := by rw [HC.out.1, decide_eq_false_iff_not]; exact fun hh => hh (by intro i hi h2; rw [HC.out.2]; exact hz.out i hi h2)
      subst hc1
      go_wp2
      go_ret
      exact ⟨rfl, B⟩
/-- whether an object is wrong for a reason -/
theorem wrongR_any (v tv bv : Value) (l : List UInt64) (T : List (List UInt8)) (O : List Hb) (b : Hb) (r : Nat) (c : Bool) (hc : c = decide (¬ L19.Good l T O r b)) (hr : 7 ≤ r ∧ r ≤ 11) (hi : In19 l b) (hty : 8 < r → Typed T b) (hT : ∀ t ∈ T, kErr t = 0) (hl : l.length ≤ 1000000) (hO : ∀ b ∈ O, 0 ≤ b.at_ ∧ b.at_ ≤ 1000000) (hOl : O.length ≤ 1000000) (w : World) (hw : Words w v l) (h : Typs w tv T) (hb : Blks w bv O) :
    Calls Tryz.prog 129 #[v, tv, bv, .agg #[.int .i64 b.at_, .int .i64 b.size, .int .i64 b.kind, .int .i64 b.ty, .bool b.mark, .int .u64 b.next.toNat], .int .i64 r] w fun e w' => e = .returned (.bool c) ∧ Below w.heap.size w w' := by
  obtain ⟨h1, h2⟩ := hr
  obtain rfl | rfl | rfl | rfl | rfl : r = 7 ∨ r = 8 ∨ r = 9 ∨ r = 10 ∨ r = 11 := by omega
  · exact wrong7 v tv bv b c hc w
  · exact wrong8 v tv bv T b c hc (by obtain ⟨a, _, hok, _⟩ := hi; exact hok.bounds.2.2.2.2.1) hT w h
  · exact wrong9 v tv bv l T b c hc hi (hty (by omega)) hl w hw h
  · exact wrong10 v tv bv l T b c hc hi (hty (by omega)) hl w hw h
  · exact wrong11 v tv bv l T O b c hc hi (hty (by omega)) hl hO hOl w hw h hb
end Go.Proofs.YtbfmdbeeiicabaaGreat
namespace Go.Proofs.YtbfmdbeeiicabaaGreat
open Go.RowKit L01 L02 L05 L06 L07 L13 L14 L15 L18 L19
/-- what the reference knows of an image -/
structure Rs (W : World) (v tv sv bv : Value) (l : List UInt64) (T : List (List UInt8)) (S : List Sl) (O : List Hb) : Prop where
  w : Words W v l
  t : Typs W tv T
  s : Slots W sv S
  b : Blks W bv O
theorem Rs.below {W W' : World} {v tv sv bv : Value} {l : List UInt64} {T : List (List UInt8)} {S : List Sl} {O : List Hb} (h : Rs W v tv sv bv l T S O) (hb : Below W.heap.size W W') : Rs W' v tv sv bv l T S O :=
  ⟨h.w.below hb, h.t.below hb, Slots.below h.s hb, h.b.below hb⟩
set_option maxRecDepth 100000 in
set_option maxHeartbeats 8000000 in
theorem WhyR_any (v : Value) (l : List UInt64) (hs : SizeOk l.length) (n : Nat) (hn : n = why l) (w : World) (h : Words w v l) :
    Calls Tryz.prog 110 #[v] w fun e w' => e = .returned (.int .i64 n) ∧ Below w.heap.size w w' := by
  have B : Below w.heap.size w w := Below.refl _ _
  have H := Lib.hid h
  have hs2 := hs
  obtain ⟨hn1, hn2, hn3⟩ := hs2
  obtain ⟨sw, hsw⟩ : ∃ x, x = sW l := ⟨_, rfl⟩
  obtain ⟨st, hst⟩ : ∃ x, x = sT l := ⟨_, rfl⟩
  obtain ⟨i0, hi0⟩ : ∃ x, x = is0 l := ⟨_, rfl⟩
  obtain ⟨i1, hi1⟩ : ∃ x, x = is1 l := ⟨_, rfl⟩
  obtain ⟨r1, hr1⟩ : ∃ x, x = rErr l := ⟨_, rfl⟩
  have TT := Lib.hid (fun w h => TReadR_any v l sw st i0 i1 r1 hsw hst hi0 hi1 hr1 w h)
  obtain ⟨z1, hz1⟩ : ∃ x, x = decide (Zr l 16) := ⟨_, rfl⟩
  obtain ⟨z2, hz2⟩ : ∃ x, x = decide (Zr l 24) := ⟨_, rfl⟩
  have Z1 : Hid (∀ w, Words w v l → Calls Tryz.prog 128 #[v, .int .i64 16] w fun e w' => e = .returned (.bool z1) ∧ w = w') := Lib.hid (fun w h => emptyR19_any v l 16 z1 hz1 (by omega) (by omega) w h)
  have Z2 : Hid (∀ w, Words w v l → Calls Tryz.prog 128 #[v, .int .i64 24] w fun e w' => e = .returned (.bool z2) ∧ w = w') := Lib.hid (fun w h => emptyR19_any v l 24 z2 hz2 (by omega) (by omega) w h)
  obtain ⟨t4, ht4⟩ : ∃ x, x = decide (rErr l = 0 ∧ tabErr l (sT l) = 0) := ⟨_, rfl⟩
  obtain ⟨T, hT⟩ : ∃ T, T = if t4 = true then T19 l else [] := ⟨_, rfl⟩
  have KT := Lib.hid (fun w h => TypesR19_any v l hs T t4 ht4 hT w h)
  obtain ⟨S, hS⟩ : ∃ S, S = all l := ⟨_, rfl⟩
  obtain ⟨t5, ht5⟩ : ∃ x, x = decide (openErr l = 0) := ⟨_, rfl⟩
  have AT := Lib.hid (fun w h => ToldR_any v l hs S t5 hS ht5 w h)
  obtain ⟨L, hL⟩ : ∃ L, L = allL l := ⟨_, rfl⟩
  obtain ⟨t6, ht6⟩ : ∃ x, x = decide (allErr l = 0) := ⟨_, rfl⟩
  have WT := Lib.hid (fun w h => ParsedR_any v l hs L t6 hL ht6 w h)
  have h6 : why6 l = if r1 ≠ 0 then 1 else if z1 = false then 2 else if z2 = false then 3 else if t4 = false then 4 else if t5 = false then 5 else if t6 = false then 6 else 0 := by
    rw [why6, hr1]
    by_cases c0 : rErr l = 0 <;> by_cases c1 : Zr l 16 <;> by_cases c2 : Zr l 24 <;> by_cases c3 : tabErr l (sT l) = 0 <;> by_cases c4 : openErr l = 0 <;> by_cases c5 : allErr l = 0 <;> simp [hz1, hz2, ht4, ht5, ht6, c0, c1, c2, c3, c4, c5]
  have HW6 := Lib.hid h6
  have HWY := Lib.hid (show ∀ k, why6 l = k → k ≠ 0 → n = k from fun k hk h0 => by rw [hn, why, if_pos (by rw [hk]; exact h0), hk])
  have HWN := Lib.hid (show why6 l = 0 → n = if whyO l (T19 l) (O19 l) 5 7 ≠ 0 then whyO l (T19 l) (O19 l) 5 7 else if SlotsGood (slots l) (O19 l) then 0 else 12 from fun h0 => by rw [hn, why, if_neg (fun h => h h0)])
  have HF := Lib.hid (And.intro hT (And.intro hS (And.intro hL hs)))
  have HD := Lib.hid (And.intro ht4 (And.intro ht5 ht6))
  clear hn hsw hst hi0 hi1 hr1 hz1 hz2 hT ht4 hS ht5 hL ht6 h hn1 hn2 hn3 hs h6
  go_enter Tryz.func110, Tryz.ntmps110
  go_wp2_with fail
  refine (TT.out _ (H.out.below B)).mono ?_
  rintro e wa1 ⟨rfl, b⟩
  replace B := B.trans (b.mono B.size); clear b
  go_upto_region 2 with (fail)
  refine wp_gen (fun Wv => Bx Wv (wa1.heap.size) (85) (#[.int .i64 sw, .int .i64 st]) ∧ Bx Wv (wa1.heap.size + 1) (86) (#[.bool i0, .bool i1]) ∧ Below wa1.heap.size wa1 Wv) ⟨(((Bx.at_ (by simp)).alloc _)), ((Bx.at_ (by simp))), (((Below.refl _ wa1).alloc (by simp <;> omega) _).alloc (by simp <;> omega) _)⟩ ?_
  rintro wa2 ⟨g2, g3, b⟩
  replace B := B.trans (b.mono B.size); clear b
  have c_g2 := g2.cell; have f_g2 := g2.free; have a_g2 := fun o => (g2.alloc o).cell; have d_g2 := fun o o2 => ((g2.alloc o).alloc o2).cell; have e_g2 := fun o => (g2.alloc o).free
  have c_g3 := g3.cell; have f_g3 := g3.free; have a_g3 := fun o => (g3.alloc o).cell; have d_g3 := fun o o2 => ((g3.alloc o).alloc o2).cell; have e_g3 := fun o => (g3.alloc o).free
  by_cases h1 : r1 = 0
  case neg =>
    have n1 : (r1 != 0) = true := by rw [bne_iff_ne]; exact h1
    obtain rfl := HWY.out 1 (by rw [HW6.out, if_pos h1]) (by omega)
    clear h1
    go_wp2
    go_ret
    exact ⟨rfl, B⟩
  case pos =>
    subst h1
    go_upto_region 4 with (fail)
    go_wp2_with fail
    refine (Z1.out _ (H.out.below B)).mono ?_
    rintro e w' ⟨rfl, rfl⟩
    cases z1
    · obtain rfl := HWY.out 2 (by rw [HW6.out]; simp) (by omega)
      go_wp2
      go_ret
      exact ⟨rfl, B⟩
    · go_wp2_with fail
      refine (Z2.out _ (H.out.below B)).mono ?_
      rintro e w' ⟨rfl, rfl⟩
      cases z2
      · obtain rfl := HWY.out 3 (by rw [HW6.out]; simp) (by omega)
        go_wp2
        go_ret
        exact ⟨rfl, B⟩
      · clear g2 g3 c_g2 f_g2 a_g2 d_g2 e_g2 c_g3 f_g3 a_g3 d_g3 e_g3
        go_upto_region 8 with (fail)
        go_wp2_with fail
        refine (KT.out _ (H.out.below B)).mono ?_
        rintro e wa3 ⟨xt, rfl, ot, b⟩
        replace B := B.trans (b.mono B.size); clear b
        cases t4
        · obtain rfl := HWY.out 4 (by rw [HW6.out]; simp) (by omega)
          go_wp2
          go_ret
          exact ⟨rfl, B⟩
        · skip
          go_wp2_with fail
          refine (AT.out _ (H.out.below B)).mono ?_
          rintro e wa4 ⟨xs, rfl, os, b⟩
          replace ot := ot.below b; replace B := B.trans (b.mono B.size); clear b
          cases t5
          · obtain rfl := HWY.out 5 (by rw [HW6.out]; simp) (by omega)
            go_wp2
            go_ret
            exact ⟨rfl, B⟩
          · skip
            go_wp2_with fail
            refine (WT.out _ (H.out.below B)).mono ?_
            rintro e wa5 ⟨xl, rfl, ol, b⟩
            replace ot := ot.below b; replace os := os.below b; replace B := B.trans (b.mono B.size); clear b
            cases t6
            · obtain rfl := HWY.out 6 (by rw [HW6.out]; simp) (by omega)
              go_wp2
              go_ret
              exact ⟨rfl, B⟩
            · have e6 := HW6.out
              simp only [ne_eq, not_true, if_false, Bool.true_eq_false] at e6
              have HN := Lib.hid (HWN.out e6)
              obtain ⟨d4, d5, d6⟩ := HD.out
              have d4' := (of_decide_eq_true d4.symm).2
              have d5' := of_decide_eq_true d5.symm
              have d6' := of_decide_eq_true d6.symm
              obtain ⟨hT, hS, hL, hs⟩ := HF.out
              have hT' : T = T19 l := by simpa using hT
              have hS' : S = slots l := by rw [hS, all, if_pos d5']
              have hkT := (T19_ok d4').2
              have hIn : ∀ b ∈ O19 l, In19 l b := fun b hb => in19_of d6' hb
              have hl1 : l.length ≤ 1000000 := by have := hs.2.1; omega
              have hOl : ∀ b ∈ O19 l, 0 ≤ b.at_ ∧ b.at_ ≤ 1000000 := fun b hb => by obtain ⟨a, _, h2, h3, h4, _, _, _, h8, _⟩ := objs_at d6' hb; omega
              have hOn := objs_len d6'
              have hLn := all_len d6'
              have hSn := slots_len' d5'
              have hI64 : ∀ s ∈ slots l, s.used = true → 0 ≤ s.at_ ∧ s.at_ ≤ 1000000 := fun s hs' hu => by
                obtain ⟨x, hx, rfl⟩ := List.mem_map.1 hs'
                have := (allR_of d5' x hx).2.2.2 hu
                omega
              rw [← hL] at hLn
              obtain ⟨O, hO⟩ : ∃ O, O = O19 l := ⟨_, rfl⟩
              have OT := Lib.hid (fun w h => objsR_any xl L O (by rw [hO, O19, hL]) w h (by omega))
              rw [← hO] at hIn hOl hOn
              rw [← hT'] at hkT
              rw [← hS'] at hSn hI64
              have HK := Lib.hid (And.intro hkT (And.intro hIn (And.intro hl1 (And.intro hOl hI64))))
              have HSN := Lib.hid hSn
              have HN' : Hid (n = if whyO l T O 5 7 ≠ 0 then whyO l T O 5 7 else if SlotsGood S O then 0 else 12) := by rw [hT', hS', hO]; exact HN
              clear HN e6 d4 d5 d6 d4' d5' d6' hT hS hL hs hT' hS' hkT hIn hl1 hOl hLn hSn hI64 hO HD HF HW6 HWY HWN
              go_wp2_with fail
              refine (OT.out _ ol.rd).mono ?_
              rintro e wa6 ⟨xo, rfl, oo, b⟩
              replace ot := ot.below b; replace os := os.below b; replace ol := ol.below b; replace B := B.trans (b.mono B.size); clear b
              obtain ⟨NO, hNO⟩ : ∃ N, N = O.length := ⟨_, rfl⟩
              rw [← hNO] at hOn
              have HNO := Lib.hid hNO
              clear hNO
              have HG0 := Lib.hid (And.intro (Rs.mk (H.out.below B) ot.rd os.rd oo.rd) B)
              clear ot os ol oo B
              go_wp2
              go_loopg [11] 5 (fun gg i wr => ∃ j : Nat, 7 ≤ j ∧ j ≤ 12 ∧ gg = 12 - j ∧ i = .int .i64 j ∧ Hid (Rs wr v xt xs xo l T S O ∧ Below w.heap.size w wr) ∧ Hid (∀ i, 7 ≤ i → i < j → AllGood l T O i))
              case atStart => exact ⟨7, by omega, by omega, by omega, rfl, HG0, Lib.hid (fun i h1 h2 => by omega)⟩
              case round =>
                obtain ⟨j, hj7, hj, rfl, rfl, hh, hz⟩ := hrel
                clear HG0
                by_cases hlt : j ≤ 11
                · have n1 : decide ((j : Int) ≤ 11) = true := decide_eq_true (by omega)
                  go_wp2
                  go_loopg [12] NO (fun gg i wx => ∃ k : Nat, k ≤ NO ∧ gg = NO - k ∧ i = .int .i64 k ∧ Hid (Rs wx v xt xs xo l T S O ∧ Below w.heap.size w wx) ∧ Hid (∀ i b, i < k → O[i]? = some b → L19.Good l T O j b))
                  case atStart => exact ⟨0, by omega, by omega, rfl, hh, Lib.hid (fun i b h1 => by omega)⟩
                  case round =>
                    obtain ⟨k, hk, rfl, rfl, hh2, hz2⟩ := hrel
                    clear hh
                    obtain ⟨rs, B⟩ := hh2.out
                    have lo := rs.b.len
                    rw [← HNO.out] at lo
                    by_cases hlk : k < NO
                    · obtain ⟨bb, oo, b, ia, m0, m1, m2, m3, m4, m5, hb, _⟩ := rs.b.at_ (k := k) (by rw [← HNO.out]; exact hlk)
                      have hbO := List.mem_of_getElem? hb.out
                      obtain ⟨c, hc⟩ : ∃ c, c = decide (¬ L19.Good l T O j b) := ⟨_, rfl⟩
                      have WR := Lib.hid (fun w hw ht hb' => wrongR_any v xt xo l T O b j c hc ⟨hj7, hlt⟩ (HK.out.2.1 b hbO) (fun h8 => hz.out 8 (by omega) (by omega) b hbO) HK.out.1 HK.out.2.2.1 HK.out.2.2.2.1 (by rw [← HNO.out]; omega) w hw ht hb')
                      cases c
                      · have hg : L19.Good l T O j b := by simpa using hc.symm
                        have HZ : Hid (∀ i b, i < k + 1 → O[i]? = some b → L19.Good l T O j b) := Lib.hid (fun i b' hi hb' => by
                          by_cases e : i = k
                          · subst e; rw [hb.out] at hb'; injection hb' with hb'; subst hb'; exact hg
                          · exact hz2.out i b' (by omega) hb')
                        clear hc hg hbO hb
                        go_wp2_with fail
                        refine (WR.out _ rs.w rs.t rs.b).mono ?_
                        rintro e wa7 ⟨rfl, b⟩
                        replace rs := rs.below b; replace B := B.trans (b.mono B.size); clear b
                        have HG := Lib.hid (And.intro rs B)
                        go_wp2
                        go_roundg (NO - (k + 1))
                        case measure => omega
                        case rel => exact ⟨k + 1, by omega, rfl, by go_num, HG, HZ⟩
                      · have hg : ¬ L19.Good l T O j b := by simpa using hc.symm
                        have hwo := whyO_at (l := l) (T := T) (O := O) 5 7 (j - 7) (by omega) (fun i hi => hz.out (7 + i) (by omega) (by omega)) (by rw [show 7 + (j - 7) = j by omega]; exact fun ha => hg (ha b hbO))
                        rw [show 7 + (j - 7) = j by omega] at hwo
                        have hn : n = j := by rw [HN'.out, hwo, if_pos (by omega)]
                        subst hn
                        clear hc hg hbO hb hwo
                        go_wp2_with fail
                        refine (WR.out _ rs.w rs.t rs.b).mono ?_
                        rintro e wa8 ⟨rfl, b⟩
                        replace rs := rs.below b; replace B := B.trans (b.mono B.size); clear b
                        go_wp2
                        go_ret
                        exact ⟨rfl, B⟩
                    · obtain rfl : k = NO := by omega
                      have HZ : Hid (∀ i, 7 ≤ i → i < j + 1 → AllGood l T O i) := Lib.hid (fun i h1 h2 => by
                        by_cases e : i = j
                        · subst e
                          intro b hb
                          obtain ⟨q, hq⟩ := List.getElem?_of_mem hb
                          exact hz2.out q b (by rw [HNO.out]; exact (List.getElem?_eq_some_iff.1 hq).1) hq
                        · exact hz.out i h1 (by omega))
                      go_wp2
                      go_roundg (12 - (j + 1))
                      case measure => omega
                      case rel => exact ⟨j + 1, by omega, by omega, rfl, by go_num, hh2, HZ⟩
                · obtain rfl : j = 12 := by omega
                  have hw0 := (whyO_zero (l := l) (T := T) (O := O) 5 7 (by omega)).2 (fun i h1 h2 => hz.out i h1 (by omega))
                  have hn0 : n = if SlotsGood S O then 0 else 12 := by rw [HN'.out, hw0, if_neg (by omega)]
                  have HN := Lib.hid hn0
                  clear hw0 hn0
                  go_wp2
                  go_loopg [13] 16 (fun gg i wx => ∃ k : Nat, k ≤ 16 ∧ gg = 16 - k ∧ i = .int .i64 k ∧ Hid (Rs wx v xt xs xo l T S O ∧ Below w.heap.size w wx) ∧ Hid (∀ i s, i < k → S[i]? = some s → s.used = true → IsObj O s.at_))
                  case atStart => exact ⟨0, by omega, by omega, rfl, hh, Lib.hid (fun i b h1 => by omega)⟩
                  case round =>
                    obtain ⟨k, hk, rfl, rfl, hh2, hz2⟩ := hrel
                    clear hh
                    obtain ⟨rs, B⟩ := hh2.out
                    have ls := Rd.len rs.s Tryz.underlying79
                    rw [HSN.out] at ls
                    by_cases hlk : k < 16
                    · obtain ⟨bb, oo, t, ia, m0, m1, m2, ht⟩ := rs.s.at_ (P := Tryz.prog) Tryz.underlying79 size_slot (k := k) (by rw [HSN.out]; exact hlk)
                      obtain ⟨tg, tu, ta⟩ := t
                      dsimp only at m0 m1 m2
                      have HT := Lib.hid ht.out
                      clear ht
                      cases tu
                      · have HZ : Hid (∀ i s, i < k + 1 → S[i]? = some s → s.used = true → IsObj O s.at_) := Lib.hid (fun i s hi hs hu => by
                          by_cases e : i = k
                          · subst e; rw [HT.out] at hs; injection hs with hs; subst hs; cases hu
                          · exact hz2.out i s (by omega) hs hu)
                        go_wp2
                        go_roundg (16 - (k + 1))
                        case measure => omega
                        case rel => exact ⟨k + 1, by omega, rfl, by go_num, hh2, HZ⟩
                      · obtain ⟨y1, y2⟩ := HK.out.2.2.2.2 _ (List.mem_of_getElem? HT.out) rfl
                        dsimp only at y1 y2
                        obtain ⟨a, ha⟩ : ∃ a : UInt64, ta = (a.toNat : Int) := ⟨UInt64.ofNat ta.toNat, by
                          rw [UInt64.toNat_ofNat_of_lt' (by show ta.toNat < 18446744073709551616; omega)]; omega⟩
                        subst ha
                        have hwa : IntKind.u64.wrap (a.toNat : Int) = (a.toNat : Int) := by rw [wrap_u64]; omega
                        obtain ⟨r, hr⟩ : ∃ r, r = idxI O a.toNat := ⟨_, rfl⟩
                        have IT := Lib.hid (fun w h => idxR_any xo O a r hr HK.out.2.2.2.1 (by rw [← HNO.out]; omega) w h)
                        have hneg : r < 0 ↔ ¬ IsObj O a.toNat := by rw [hr]; exact idxI_neg
                        by_cases ho : IsObj O a.toNat
                        · have n1 : decide (r < 0) = false := decide_eq_false (fun h => hneg.1 h ho)
                          have n2 : ¬ r < 0 := fun h => hneg.1 h ho
                          have HZ : Hid (∀ i s, i < k + 1 → S[i]? = some s → s.used = true → IsObj O s.at_) := Lib.hid (fun i s hi hs hu => by
                            by_cases e : i = k
                            · subst e; rw [HT.out] at hs; injection hs with hs; subst hs; exact ho
                            · exact hz2.out i s (by omega) hs hu)
                          clear hr hneg ho y1 y2
                          go_wp2_with fail
                          refine (IT.out _ rs.b).mono ?_
                          rintro e w' ⟨rfl, rfl⟩
                          go_wp2
                          go_roundg (16 - (k + 1))
                          case measure => omega
                          case rel => exact ⟨k + 1, by omega, rfl, by go_num, hh2, HZ⟩
                        · have n1 : decide (r < 0) = true := decide_eq_true (hneg.2 ho)
                          have n2 : r < 0 := hneg.2 ho
                          have hn0 : n = 12 := by rw [HN.out, if_neg (fun hsg => ho (hsg _ (List.mem_of_getElem? HT.out) rfl))]
                          subst hn0
                          clear hr hneg ho y1 y2
                          go_wp2_with fail
                          refine (IT.out _ rs.b).mono ?_
                          rintro e w' ⟨rfl, rfl⟩
                          go_wp2
                          go_ret
                          exact ⟨rfl, B⟩
                    · obtain rfl : k = 16 := by omega
                      have hsg : SlotsGood S O := fun s hs hu => by
                        obtain ⟨i, hi⟩ := List.getElem?_of_mem hs
                        exact hz2.out i s (by rw [← HSN.out]; exact (List.getElem?_eq_some_iff.1 hi).1) hi hu
                      have hn0 : n = 0 := by rw [HN.out, if_pos hsg]
                      subst hn0
                      clear hsg
                      go_wp2
                      go_ret
                      exact ⟨rfl, B⟩
end Go.Proofs.YtbfmdbeeiicabaaGreat
