/- Contracts of the functions that the law 'LayoutHas' reaches, part 4. No condition. -/
import Derived.Test.YtbfmdbeeiicabaaMLHsc
set_option linter.unusedVariables false
set_option linter.unusedSimpArgs false
namespace Go.Proofs.Ytbfmdbeeiicabaa
open Go.RowKit L01 L02 L05 L07 L13 L14 L15 L18 L19
theorem OwnT.apart {w : World} {B p i : Nat} {v u : Value} {L : List (List UInt8)} (h : OwnT w B v L) (hp : p < B) : OwnT (w.setCell ⟨p, i, none⟩ u) B v L := by
  obtain ⟨vs, a1, a2, a4⟩ := h
  exact ⟨vs, a1, own_apart a2 hp, fun i x l h5 h6 => own_apart (a4 i x l h5 h6) hp⟩
theorem OwnT.mid {w w' : World} {lo : Nat} {v : Value} {L : List (List UInt8)} (h : OwnT w lo v L) (hm : Mid lo w.heap.size w w') : OwnT w' lo v L := by
  obtain ⟨vs, a1, a2, a4⟩ := h
  exact ⟨vs, a1, own_mid a2 hm, fun i x l h5 h6 => own_mid (a4 i x l h5 h6) hm⟩
theorem OwnT.up {w : World} {base base' : Nat} {v : Value} {L : List (List UInt8)} (h : OwnT w base v L) (hb : base' ≤ base) : OwnT w base' v L := by
  obtain ⟨vs, h1, h2, h4⟩ := h; exact ⟨vs, h1, own_mono h2 hb, fun i x l h5 h6 => own_mono (h4 i x l h5 h6) hb⟩
theorem OwnT.form {w : World} {B : Nat} {v : Value} {L : List (List UInt8)} (h : OwnT w B v L) : ∃ A n c, v = .slice A n c := by
  obtain ⟨_, _, h2, _⟩ := h
  obtain ⟨A, c, e, _⟩ := Rd.of_own h2; exact ⟨A, _, c, e⟩
theorem row_form {w : World} {B e sz n : Nat} {v : Value} {xs : List Value} (h : w.ownsRow B e sz v n xs) : ∃ A n c, v = .slice A n c := by
  obtain ⟨A, c, e, _⟩ := Rd.of_own h; exact ⟨A, _, c, e⟩
/-- the blocks that the walk of parts has made stay -/
structure MidS (lo : Nat) (ws w : World) : Prop where
  m : Mid lo ws.heap.size ws w
  z : ws.heap.size ≤ w.heap.size
theorem MidS.below {lo : Nat} {ws w w' : World} (h : MidS lo ws w) (hb : Below w.heap.size w w') : MidS lo ws w' := ⟨h.m.below h.z hb, Nat.le_trans h.z hb.size⟩
theorem MidS.grown {lo : Nat} {ws w w' : World} {row : Option Nat} (h : MidS lo ws w) (hg : w.grownBy w' row) (hr : ∀ k, row = some k → k < lo ∨ ws.heap.size ≤ k) : MidS lo ws w' := ⟨h.m.grown h.z hg hr, Nat.le_trans h.z hg.size⟩
theorem MidS.set {lo : Nat} {ws w : World} (h : MidS lo ws w) {p : Addr} (hp : p.block < lo) (u : Value) : MidS lo ws (w.setCell p u) := ⟨h.m.set (.inl hp) u, by simpa [World.setCell] using h.z⟩
/-- what is known while parts fills its result -/
structure SgO (W : World) (base lo : Nat) (v tv sv bv : Value) (E pm nm : Nat) (l : List UInt64) (T : List (List UInt8)) (S : List Sl) (O : List Hb) (w0 : World) : Prop where
  b : Below w0.heap.size w0 W
  t : OwnT W lo tv T
  s : W.ownsRow lo E 3 sv S.length (tabL S)
  k : OwnK W base bv O
  kn : bv.ownBlock ≠ some w0.heap.size
  m : MapL Try.prog 3 4 (.bool false) W pm nm (fun a => .bool (decide (IsObj O a)))
theorem SgO.set {W w0 : World} {base lo E pm nm i : Nat} {v tv sv bv u : Value} {l : List UInt64} {T : List (List UInt8)} {S : List Sl} {O : List Hb} (h : SgO W base lo v tv sv bv E pm nm l T S O w0) (hp : w0.heap.size < lo) (hm : w0.heap.size ≠ pm) : SgO (W.setCell ⟨w0.heap.size, i, none⟩ u) base lo v tv sv bv E pm nm l T S O w0 :=
  ⟨h.b.setCell (p := ⟨w0.heap.size, i, none⟩) (Nat.le_refl _) _, h.t.apart hp, own_apart h.s hp, World.ownsRow.kept h.k (grown_set _ ⟨w0.heap.size, i, none⟩ u) (.inr h.kn), h.kn, h.m.kept (grown_set _ ⟨w0.heap.size, i, none⟩ u) (by intro e; injection e with e; exact hm e.symm)⟩
theorem SgO.sg {W w0 : World} {base lo E pm nm : Nat} {v tv sv bv : Value} {l : List UInt64} {T : List (List UInt8)} {S : List Sl} {O : List Hb} (h : SgO W base lo v tv sv bv E pm nm l T S O w0) (hw : Words w0 v l) : Sg W v tv sv bv pm nm l T S O :=
  ⟨hw.below h.b, h.t.rd, Rd.of_own h.s, h.k.rd, h.m⟩
theorem objs_snoc {L : List Hb} {b : Hb} : objs (L ++ [b]) = objs L ++ (if b.kind = 1 then [b] else []) := by
  unfold objs
  rw [List.filter_append]
  by_cases h : b.kind = 1 <;> simp [h]
theorem isObj_snoc {L : List Hb} {b : Hb} {a : Int} : IsObj (L ++ [b]) a ↔ a = b.at_ ∨ IsObj L a := by
  constructor
  · rintro ⟨c, hc, e⟩
    rcases List.mem_append.1 hc with hc | hc
    · exact .inr ⟨c, hc, e⟩
    · rw [List.mem_singleton] at hc; subst hc; exact .inl e.symm
  · rintro (e | ⟨c, hc, e⟩)
    · exact ⟨b, by simp, e.symm⟩
    · exact ⟨c, List.mem_append_left _ hc, e⟩
set_option maxRecDepth 100000 in
set_option maxHeartbeats 8000000 in
theorem parts_any (v : Value) (l : List UInt64) (hs : SizeOk l.length) (r : Nat) (hr : r = why6 l) (w : World) (h : Words w v l) :
    Calls Try.prog 62 #[v] w fun e w' => ∃ a b c d m, e = .returned (.tuple #[.agg #[a, b, c, d, m], .int .i64 r]) ∧ (r = 0 → a = v ∧ ∃ g n, m = .map (some g) ∧ Sg w' v b c d g n l (T19 l) (slots l) (O19 l)) ∧ (r ≠ 0 → a = .slice none 0 0 ∧ b = .slice none 0 0 ∧ c = .slice none 0 0 ∧ d = .slice none 0 0 ∧ m = .map none) ∧ Below w.heap.size w w' := by
  have B : Below w.heap.size w w := Below.refl _ _
  obtain ⟨vA, vn, vc, rfl⟩ : ∃ A n c, v = .slice A n c := by obtain ⟨A, c, e, _⟩ := h; exact ⟨A, _, c, e⟩
  have H := Lib.hid h
  have hmm := @run_makeMap Try.prog
  obtain ⟨hn1, hn2, hn3⟩ := hs
  obtain ⟨sw, hsw⟩ : ∃ x, x = sW l := ⟨_, rfl⟩
  obtain ⟨st, hst⟩ : ∃ x, x = sT l := ⟨_, rfl⟩
  obtain ⟨i0, hi0⟩ : ∃ x, x = is0 l := ⟨_, rfl⟩
  obtain ⟨i1, hi1⟩ : ∃ x, x = is1 l := ⟨_, rfl⟩
  obtain ⟨r1, hr1⟩ : ∃ x, x = rErr l := ⟨_, rfl⟩
  have TT := Lib.hid (fun w h => TRead_any (.slice vA vn vc) l sw st i0 i1 r1 hsw hst hi0 hi1 hr1 w h)
  obtain ⟨z1, hz1⟩ : ∃ x, x = decide (Zr l 16) := ⟨_, rfl⟩
  obtain ⟨z2, hz2⟩ : ∃ x, x = decide (Zr l 24) := ⟨_, rfl⟩
  have Z1 : Hid (∀ w, Words w (.slice vA vn vc) l → Calls Try.prog 101 #[(.slice vA vn vc), .int .i64 16] w fun e w' => e = .returned (.bool z1) ∧ w = w') := Lib.hid (fun w h => zero19_any (.slice vA vn vc) l 16 z1 hz1 (by omega) (by omega) w h)
  have Z2 : Hid (∀ w, Words w (.slice vA vn vc) l → Calls Try.prog 101 #[(.slice vA vn vc), .int .i64 24] w fun e w' => e = .returned (.bool z2) ∧ w = w') := Lib.hid (fun w h => zero19_any (.slice vA vn vc) l 24 z2 hz2 (by omega) (by omega) w h)
  obtain ⟨T, hT⟩ : ∃ T, T = T19 l := ⟨_, rfl⟩
  obtain ⟨r4, hr4⟩ : ∃ x, x = tabErr l (sT l) := ⟨_, rfl⟩
  have KT := Lib.hid (fun w h => KTable_any (.slice vA vn vc) l st T r4 (by rw [hT, hst]; rfl) (by rw [hr4, hst]) w h)
  obtain ⟨S, hS⟩ : ∃ S, S = all l := ⟨_, rfl⟩
  obtain ⟨r5, hr5⟩ : ∃ x, x = openErr l := ⟨_, rfl⟩
  have AT := Lib.hid (fun w h => All18_any (.slice vA vn vc) l S r5 hS hr5 w h)
  obtain ⟨L, hL⟩ : ∃ L, L = allL l := ⟨_, rfl⟩
  obtain ⟨r6, hr6⟩ : ∃ x, x = allErr l := ⟨_, rfl⟩
  have WT := Lib.hid (fun w h => AllW_any (.slice vA vn vc) l L r6 hL hr6 w h)
  have HR : Hid (r = if r1 ≠ 0 then 1 else if z1 = false then 2 else if z2 = false then 3 else if r4 ≠ 0 then 4 else if r5 ≠ 0 then 5 else if r6 ≠ 0 then 6 else 0) := Lib.hid (by
    rw [hr, why6, hr1, hr4, hr5, hr6]
    by_cases c1 : Zr l 16 <;> by_cases c2 : Zr l 24 <;> simp [hz1, hz2, c1, c2])
  have HF := Lib.hid (And.intro hT (And.intro hL (show (r5 = 0) → S = slots l from fun e => by rw [hS, all, ← hr5, if_pos e])))
  have HNN := Lib.hid (show r6 = 0 → ∀ b ∈ L, i64Ok b.at_ from fun e b hb => by
    rw [hL] at hb
    obtain ⟨a, h1, h2, _, h4, _⟩ := all_mem (hr6 ▸ e) hb
    rw [h4, stand_at]
    exact ⟨by omega, by omega⟩)
  have HLN := Lib.hid (show r6 = 0 → L.length ≤ 960 from fun e => by rw [hL]; exact all_len (hr6 ▸ e))
  clear hr hsw hst hi0 hi1 hr1 hz1 hz2 hT hr4 hS hr5 hL hr6 h hn1 hn2 hn3
  go_enter Try.func62, Try.ntmps62
  go_upto_region 1 with (fail)
  refine wp_gen (fun Wv => Bx Wv (w.heap.size) (111) (#[.slice none 0 0, .slice none 0 0, .slice none 0 0, .slice none 0 0, .map none]) ∧ Below w.heap.size w Wv) ⟨((Bx.at_ (by simp))), ((Below.refl _ w).alloc (by simp <;> omega) _)⟩ ?_
  rintro wa1 ⟨g1, b⟩
  replace B := B.trans (b.mono B.size); clear b
  have c_g1 := g1.cell; have f_g1 := g1.free; have a_g1 := fun o => (g1.alloc o).cell; have d_g1 := fun o o2 => ((g1.alloc o).alloc o2).cell; have e_g1 := fun o => (g1.alloc o).free
  go_wp2_with fail
  refine (TT.out _ (H.out.below B)).mono ?_
  rintro e wa2 ⟨rfl, b⟩
  try clear c_g1 f_g1 a_g1 d_g1 e_g1
  replace g1 := g1.below b; have c_g1 := g1.cell; have f_g1 := g1.free; have a_g1 := fun o => (g1.alloc o).cell; have d_g1 := fun o o2 => ((g1.alloc o).alloc o2).cell; have e_g1 := fun o => (g1.alloc o).free; replace B := B.trans (b.mono B.size); clear b
  go_upto_region 2 with (fail)
  refine wp_gen (fun Wv => Bx Wv (wa2.heap.size) (60) (#[.int .i64 sw, .int .i64 st]) ∧ Bx Wv (wa2.heap.size + 1) (61) (#[.bool i0, .bool i1]) ∧ Below wa2.heap.size wa2 Wv) ⟨(((Bx.at_ (by simp)).alloc _)), ((Bx.at_ (by simp))), (((Below.refl _ wa2).alloc (by simp <;> omega) _).alloc (by simp <;> omega) _)⟩ ?_
  rintro wa3 ⟨g2, g3, b⟩
  try clear c_g1 f_g1 a_g1 d_g1 e_g1
  replace g1 := g1.below b; have c_g1 := g1.cell; have f_g1 := g1.free; have a_g1 := fun o => (g1.alloc o).cell; have d_g1 := fun o o2 => ((g1.alloc o).alloc o2).cell; have e_g1 := fun o => (g1.alloc o).free; replace B := B.trans (b.mono B.size); clear b
  have c_g2 := g2.cell; have f_g2 := g2.free; have a_g2 := fun o => (g2.alloc o).cell; have d_g2 := fun o o2 => ((g2.alloc o).alloc o2).cell; have e_g2 := fun o => (g2.alloc o).free
  have c_g3 := g3.cell; have f_g3 := g3.free; have a_g3 := fun o => (g3.alloc o).cell; have d_g3 := fun o o2 => ((g3.alloc o).alloc o2).cell; have e_g3 := fun o => (g3.alloc o).free
  by_cases h1 : r1 = 0
  case neg =>
    have n1 : (r1 != 0) = true := by rw [bne_iff_ne]; exact h1
    have hr0 : r = 1 := by rw [HR.out, if_pos h1]
    subst hr0
    go_wp2
    refine bodyPost_ret (v := .tuple #[.agg #[.slice none 0 0, .slice none 0 0, .slice none 0 0, .slice none 0 0, .map none], .int .i64 1]) (by simp [results, Try.results62, go_sem, c_g1, f_g1, a_g1, e_g1, c_g2, f_g2, a_g2, e_g2, c_g3, f_g3, a_g3, e_g3]) rfl ?_
    refine ⟨_, _, _, _, _, rfl, fun e => by omega, fun _ => ⟨rfl, rfl, rfl, rfl, rfl⟩, ?_⟩
    (repeat (first | refine Below.setCell ?_ (by first | exact Nat.le_refl _ | (simp <;> omega)) _ | refine Below.alloc ?_ (by first | exact B.size | (have := B.size; simp <;> omega)) _)); exact B
  case pos =>
    subst h1
    go_upto_region 4 with (fail)
    go_wp2_with fail
    refine (Z1.out _ (H.out.below B)).mono ?_
    rintro e w' ⟨rfl, rfl⟩
    cases z1
    · have hr0 : r = 2 := by rw [HR.out]; simp
      subst hr0
      go_wp2
      refine bodyPost_ret (v := .tuple #[.agg #[.slice none 0 0, .slice none 0 0, .slice none 0 0, .slice none 0 0, .map none], .int .i64 2]) (by simp [results, Try.results62, go_sem, c_g1, f_g1, a_g1, e_g1, c_g2, f_g2, a_g2, e_g2, c_g3, f_g3, a_g3, e_g3]) rfl ?_
      refine ⟨_, _, _, _, _, rfl, fun e => by omega, fun _ => ⟨rfl, rfl, rfl, rfl, rfl⟩, ?_⟩
      (repeat (first | refine Below.setCell ?_ (by first | exact Nat.le_refl _ | (simp <;> omega)) _ | refine Below.alloc ?_ (by first | exact B.size | (have := B.size; simp <;> omega)) _)); exact B
    · go_wp2_with fail
      refine (Z2.out _ (H.out.below B)).mono ?_
      rintro e w' ⟨rfl, rfl⟩
      cases z2
      · have hr0 : r = 3 := by rw [HR.out]; simp
        subst hr0
        go_wp2
        refine bodyPost_ret (v := .tuple #[.agg #[.slice none 0 0, .slice none 0 0, .slice none 0 0, .slice none 0 0, .map none], .int .i64 3]) (by simp [results, Try.results62, go_sem, c_g1, f_g1, a_g1, e_g1, c_g2, f_g2, a_g2, e_g2, c_g3, f_g3, a_g3, e_g3]) rfl ?_
        refine ⟨_, _, _, _, _, rfl, fun e => by omega, fun _ => ⟨rfl, rfl, rfl, rfl, rfl⟩, ?_⟩
        (repeat (first | refine Below.setCell ?_ (by first | exact Nat.le_refl _ | (simp <;> omega)) _ | refine Below.alloc ?_ (by first | exact B.size | (have := B.size; simp <;> omega)) _)); exact B
      · have hz3 := B.size
        have hp1 := g1.lt; have hp2 := g2.lt
        go_upto_region 9 with (fail)
        refine wp_gen (fun V => Bx V w.heap.size 111 #[.slice none 0 0, .slice none 0 0, .slice none 0 0, .slice none 0 0, .map none] ∧ Bx V wa2.heap.size 60 #[.int .i64 sw, .int .i64 st] ∧ Bx V (wa3.heap.size + 1) 111 #[(.slice vA vn vc), .slice none 0 0, .slice none 0 0, .slice none 0 0, .map (some wa3.heap.size)] ∧ MapL Try.prog 3 4 (.bool false) V wa3.heap.size 0 (fun _ => .bool false) ∧ Below w.heap.size w V)
          ⟨(g1.alloc _).alloc _, (g2.alloc _).alloc _, Bx.at_ (by simp), (MapL.made wa3).below ((Below.refl _ _).alloc (Nat.le_refl _) _), (B.alloc hz3 _).alloc (by simp; omega) _⟩ ?_
        clear B g1 g2 g3 c_g1 f_g1 a_g1 d_g1 e_g1 c_g2 f_g2 a_g2 d_g2 e_g2 c_g3 f_g3 a_g3 d_g3 e_g3
        rintro wb ⟨g1, g2, g4, mp, B⟩
        have hlb : w.heap.size < wa3.heap.size ∧ wa2.heap.size < wa3.heap.size + 1 ∧ wa3.heap.size + 1 < wb.heap.size := ⟨hp1, by have := hp2; omega, g4.lt⟩
        obtain ⟨hq1, hq2, hq3⟩ := hlb
        generalize wa3.heap.size = pm at *
        generalize wa2.heap.size = ps at *
        have c_g1 := g1.cell; have c_g2 := g2.cell; have c_g4 := g4.cell
        have B1 : Below wb.heap.size wb wb := Below.refl _ _
        obtain ⟨lo, hlo⟩ : ∃ lo, lo = wb.heap.size := ⟨_, rfl⟩
        go_wp2_with fail
        refine (KT.out _ (H.out.below B)).mono ?_
        rintro e wa4 ⟨xt, rfl, ot, b⟩
        try clear c_g1 f_g1 a_g1 d_g1 e_g1
        replace g1 := g1.below b; have c_g1 := g1.cell; have f_g1 := g1.free; have a_g1 := fun o => (g1.alloc o).cell; have d_g1 := fun o o2 => ((g1.alloc o).alloc o2).cell; have e_g1 := fun o => (g1.alloc o).free; try clear c_g2 f_g2 a_g2 d_g2 e_g2
        replace g2 := g2.below b; have c_g2 := g2.cell; have f_g2 := g2.free; have a_g2 := fun o => (g2.alloc o).cell; have d_g2 := fun o o2 => ((g2.alloc o).alloc o2).cell; have e_g2 := fun o => (g2.alloc o).free; try clear c_g4 f_g4 a_g4 d_g4 e_g4
        replace g4 := g4.below b; have c_g4 := g4.cell; have f_g4 := g4.free; have a_g4 := fun o => (g4.alloc o).cell; have d_g4 := fun o o2 => ((g4.alloc o).alloc o2).cell; have e_g4 := fun o => (g4.alloc o).free; replace mp := mp.below b; replace B1 := B1.trans (b.mono B1.size); replace B := B.trans (b.mono B.size); clear b
        obtain ⟨tA, tn, tc, rfl⟩ := ot.form
        go_upto_region 10 with (fail)
        have hB1 := B1.size
        rw [← hlo] at ot hq3 hB1
        refine wp_gen (fun V => Bx V w.heap.size 111 #[.slice none 0 0, .slice none 0 0, .slice none 0 0, .slice none 0 0, .map none] ∧ Bx V (pm + 1) 111 #[.slice vA vn vc, .slice tA tn tc, .slice none 0 0, .slice none 0 0, .map (some pm)] ∧ MapL Try.prog 3 4 (.bool false) V pm 0 (fun _ => .bool false) ∧ OwnT V lo (.slice tA tn tc) T ∧ Below w.heap.size w V ∧ lo ≤ V.heap.size)
          ⟨g1.far (p := ⟨pm + 1, 1, none⟩) (by show _ ≠ pm + 1; omega) _, g4.set (i := 1) _, mp.kept (grown_set _ ⟨pm + 1, 1, none⟩ _) (by intro e; injection e with e; have : pm = pm + 1 := e; omega), ot.apart hq3, B.setCell (p := ⟨pm + 1, 1, none⟩) (by show w.heap.size ≤ pm + 1; omega) _, by simpa [World.setCell] using hB1⟩ ?_
        clear B B1 g1 g2 g4 mp ot c_g1 f_g1 a_g1 d_g1 e_g1 c_g2 f_g2 a_g2 d_g2 e_g2 c_g4 f_g4 a_g4 d_g4 e_g4 hB1
        rintro wc ⟨g1, g4, mp, ot, B, hlc⟩
        have c_g1 := g1.cell; have c_g4 := g4.cell; have f_g1 := g1.free
        by_cases h4 : r4 = 0
        case neg =>
          have n1 : (r4 != 0) = true := by rw [bne_iff_ne]; exact h4
          have hr0 : r = 4 := by rw [HR.out]; simp [h4]
          subst hr0
          go_wp2
          refine bodyPost_ret (v := .tuple #[.agg #[.slice none 0 0, .slice none 0 0, .slice none 0 0, .slice none 0 0, .map none], .int .i64 4]) (by simp [results, Try.results62, go_sem, c_g1, f_g1]) rfl ?_
          refine ⟨_, _, _, _, _, rfl, fun e => by omega, fun _ => ⟨rfl, rfl, rfl, rfl, rfl⟩, ?_⟩
          (repeat (first | refine Below.setCell ?_ (by first | exact Nat.le_refl _ | (simp <;> omega)) _ | refine Below.alloc ?_ (by first | exact B.size | (have := B.size; simp <;> omega)) _)); exact B
        case pos =>
          subst h4
          go_upto_region 12 with (fail)
          have B1 : Below wc.heap.size wc wc := Below.refl _ _
          go_wp2_with fail
          refine (AT.out _ (H.out.below B)).mono ?_
          rintro e wa5 ⟨xs, E, rfl, os, b⟩
          try clear c_g1 f_g1 a_g1 d_g1 e_g1
          replace g1 := g1.below b; have c_g1 := g1.cell; have f_g1 := g1.free; have a_g1 := fun o => (g1.alloc o).cell; have d_g1 := fun o o2 => ((g1.alloc o).alloc o2).cell; have e_g1 := fun o => (g1.alloc o).free; try clear c_g4 f_g4 a_g4 d_g4 e_g4
          replace g4 := g4.below b; have c_g4 := g4.cell; have f_g4 := g4.free; have a_g4 := fun o => (g4.alloc o).cell; have d_g4 := fun o o2 => ((g4.alloc o).alloc o2).cell; have e_g4 := fun o => (g4.alloc o).free; replace mp := mp.below b; replace ot := ot.below b; replace B1 := B1.trans (b.mono B1.size); replace B := B.trans (b.mono B.size); clear b
          obtain ⟨sA, sn, sc, rfl⟩ := row_form os
          go_upto_region 13 with (fail)
          have hB1 := B1.size
          have os' := own_mono os hlc
          refine wp_gen (fun V => Bx V w.heap.size 111 #[.slice none 0 0, .slice none 0 0, .slice none 0 0, .slice none 0 0, .map none] ∧ Bx V (pm + 1) 111 #[.slice vA vn vc, .slice tA tn tc, .slice sA sn sc, .slice none 0 0, .map (some pm)] ∧ MapL Try.prog 3 4 (.bool false) V pm 0 (fun _ => .bool false) ∧ OwnT V lo (.slice tA tn tc) T ∧ OwnS V lo E (.slice sA sn sc) S ∧ Below w.heap.size w V ∧ lo ≤ V.heap.size)
            ⟨g1.far (p := ⟨pm + 1, 2, none⟩) (by show _ ≠ pm + 1; omega) _, g4.set (i := 2) _, mp.kept (grown_set _ ⟨pm + 1, 2, none⟩ _) (by intro e; injection e with e; have : pm = pm + 1 := e; omega), ot.apart hq3, own_apart os' hq3, B.setCell (p := ⟨pm + 1, 2, none⟩) (by show w.heap.size ≤ pm + 1; omega) _, by have : wc.heap.size ≤ _ := hB1; simp only [World.setCell, Array.size_modify]; omega⟩ ?_
          clear B B1 g1 g4 mp ot os os' c_g1 f_g1 a_g1 d_g1 e_g1 c_g4 f_g4 a_g4 d_g4 e_g4 hB1
          rintro wd ⟨g1, g4, mp, ot, os, B, hld⟩
          have c_g1 := g1.cell; have c_g4 := g4.cell; have f_g1 := g1.free
          by_cases h5 : r5 = 0
          case neg =>
            have n1 : (r5 != 0) = true := by rw [bne_iff_ne]; exact h5
            have hr0 : r = 5 := by rw [HR.out]; simp [h5]
            subst hr0
            go_wp2
            refine bodyPost_ret (v := .tuple #[.agg #[.slice none 0 0, .slice none 0 0, .slice none 0 0, .slice none 0 0, .map none], .int .i64 5]) (by simp [results, Try.results62, go_sem, c_g1, f_g1]) rfl ?_
            refine ⟨_, _, _, _, _, rfl, fun e => by omega, fun _ => ⟨rfl, rfl, rfl, rfl, rfl⟩, ?_⟩
            (repeat (first | refine Below.setCell ?_ (by first | exact Nat.le_refl _ | (simp <;> omega)) _ | refine Below.alloc ?_ (by first | exact B.size | (have := B.size; simp <;> omega)) _)); exact B
          case pos =>
            subst h5
            go_upto_region 15 with (fail)
            go_wp2_with fail
            refine (WT.out _ (H.out.below B)).mono ?_
            rintro e wa6 ⟨xl, rfl, ol, b⟩
            try clear c_g1 f_g1 a_g1 d_g1 e_g1
            replace g1 := g1.below b; have c_g1 := g1.cell; have f_g1 := g1.free; have a_g1 := fun o => (g1.alloc o).cell; have d_g1 := fun o o2 => ((g1.alloc o).alloc o2).cell; have e_g1 := fun o => (g1.alloc o).free; try clear c_g4 f_g4 a_g4 d_g4 e_g4
            replace g4 := g4.below b; have c_g4 := g4.cell; have f_g4 := g4.free; have a_g4 := fun o => (g4.alloc o).cell; have d_g4 := fun o o2 => ((g4.alloc o).alloc o2).cell; have e_g4 := fun o => (g4.alloc o).free; replace mp := mp.below b; replace ot := ot.below b; replace os := os.below b; replace B := B.trans (b.mono B.size); clear b
            obtain ⟨lA, ln, lc, rfl⟩ := row_form ol
            by_cases h6 : r6 = 0
            case neg =>
              have n1 : (r6 != 0) = true := by rw [bne_iff_ne]; exact h6
              have hr0 : r = 6 := by rw [HR.out]; simp [h6]
              subst hr0
              go_wp2
              refine bodyPost_ret (v := .tuple #[.agg #[.slice none 0 0, .slice none 0 0, .slice none 0 0, .slice none 0 0, .map none], .int .i64 6]) (by simp [results, Try.results62, go_sem, c_g1, f_g1, a_g1, e_g1, c_g4, f_g4, a_g4, e_g4]) rfl ?_
              refine ⟨_, _, _, _, _, rfl, fun e => by omega, fun _ => ⟨rfl, rfl, rfl, rfl, rfl⟩, ?_⟩
              (repeat (first | refine Below.setCell ?_ (by first | exact Nat.le_refl _ | (simp <;> omega)) _ | refine Below.alloc ?_ (by first | exact B.size | (have := B.size; simp <;> omega)) _)); exact B
            case pos =>
              subst h6
              have hr0 : r = 0 := by rw [HR.out]; simp
              subst hr0
              obtain ⟨hTe, hLe, hSe⟩ := HF.out
              have hSe := hSe (by trivial)
              have HIA := Lib.hid (HNN.out (by trivial))
              have hN960 := HLN.out (by trivial)
              obtain ⟨N, hN⟩ : ∃ N, N = L.length := ⟨_, rfl⟩
              have HNL := Lib.hid hN
              have lx := ol.rd.len
              rw [← hN] at lx hN960
              have ol' := own_mono ol hld
              have HXT := Lib.hid (And.intro hTe (And.intro hLe hSe))
              clear hN hTe hLe hSe ol
              go_upto_region 18 with (fail)
              refine wp_gen (fun V => Bx V w.heap.size 111 #[.slice none 0 0, .slice none 0 0, .slice none 0 0, .slice none 0 0, .map none] ∧ Bx V (pm + 1) 111 #[.slice vA vn vc, .slice tA tn tc, .slice sA sn sc, .slice none 0 0, .map (some pm)] ∧ MapL Try.prog 3 4 (.bool false) V pm 0 (fun _ => .bool false) ∧ OwnT V lo (.slice tA tn tc) T ∧ OwnS V lo E (.slice sA sn sc) S ∧ OwnK V lo (.slice lA ln lc) L ∧ Below w.heap.size w V)
                ⟨g1, g4, mp, ot, os, ol', B⟩ ?_
              clear B g1 g4 mp ot os ol' c_g1 f_g1 a_g1 d_g1 e_g1 c_g4 f_g4 a_g4 d_g4 e_g4
              rintro ws ⟨g1, g4, mp, ot, os, ol, B⟩
              have HSTART := Lib.hid (And.intro g1 (And.intro g4 (And.intro mp B)))
              have HOWN := Lib.hid (And.intro ot (And.intro os ol))
              have hps : pm + 1 < ws.heap.size := g4.lt
              have hpl : w.heap.size ≤ pm := by omega
              clear g1 g4 mp ot os ol B
              go_wp2
              go_loopg [61] N (fun gg i wr => ∃ j : Nat, j ≤ N ∧ gg = N - j ∧ i = .int .i64 j ∧ Hid (∃ bj nm, Bx wr w.heap.size 111 #[.slice none 0 0, .slice none 0 0, .slice none 0 0, .slice none 0 0, .map none] ∧ Bx wr (pm + 1) 111 #[.slice vA vn vc, .slice tA tn tc, .slice sA sn sc, bj, .map (some pm)] ∧
                MapL Try.prog 3 4 (.bool false) wr pm nm (fun a => .bool (decide (IsObj (objs (L.take j)) a))) ∧ nm ≤ j ∧ OwnK wr w.heap.size bj (objs (L.take j)) ∧ (∀ g, bj.ownBlock = some g → ws.heap.size ≤ g) ∧ MidS lo ws wr ∧ Below w.heap.size w wr))
              case atStart =>
                obtain ⟨g1, g4, mp, B⟩ := HSTART.out
                exact ⟨0, by omega, by omega, rfl, Lib.hid ⟨_, 0, g1, g4, by simpa [objs, IsObj] using mp, by omega, OwnK.nil _ _, fun g hg => (by cases hg), ⟨Mid.refl _ _ _, Nat.le_refl _⟩, B⟩⟩
              case round =>
                obtain ⟨j, hj, rfl, rfl, hh⟩ := hrel
                clear HSTART
                obtain ⟨bj, nm, g1, g4, mp, hnm, oj, hbj, hmid, B⟩ := hh.out
                clear hh
                obtain ⟨jA, jn, jc, rfl⟩ := row_form oj
                have hol : OwnK wr lo (.slice lA ln lc) L := own_mid HOWN.out.2.2 hmid.m
                by_cases hlt : j < N
                · obtain ⟨bb, oo, b, ia, m0, m1, m2, m3, m4, m5, hb, _⟩ := hol.rd.at_ (k := j) (by rw [← HNL.out]; exact hlt)
                  have htk : L.take (j + 1) = L.take j ++ [b] := by rw [List.take_add_one, hb.out]; rfl
                  have hia := HIA.out b (List.mem_of_getElem? hb.out)
                  have HTK := Lib.hid htk
                  have hbj' := Lib.hid hbj
                  have hzz := hmid.z
                  clear htk hbj
                  by_cases hk1 : b.kind = 1
                  · have HK1 := Lib.hid hk1
                    clear hk1
                    have hne4 : (Value.slice jA jn jc).ownBlock = none ∨ (Value.slice jA jn jc).ownBlock ≠ some (pm + 1) := by
                      cases hv : (Value.slice jA jn jc).ownBlock with
                      | none => exact .inl rfl
                      | some g => exact .inr (fun e => by injection e with e; have := hbj'.out g hv; omega)
                    have hnep : (Value.slice jA jn jc).ownBlock = none ∨ (Value.slice jA jn jc).ownBlock ≠ some w.heap.size := by
                      cases hv : (Value.slice jA jn jc).ownBlock with
                      | none => exact .inl rfl
                      | some g => exact .inr (fun e => by injection e with e; have := hbj'.out g hv; omega)
                    have hne5 := own_fresh oj
                    have hlj : (objs (L.take j)).length ≤ 960 := Nat.le_trans (List.length_filter_le _ _) (by rw [List.length_take]; omega)
                    have hB0 := B.size
                    go_upto_region 21 with (fail)
                    refine wp_gen (fun Wv => Bx Wv (wr.heap.size) (38) (#[.int .i64 b.at_, .int .i64 b.size, .int .i64 b.kind, .int .i64 b.ty, .bool b.mark, .int .u64 b.next.toNat]) ∧ Below wr.heap.size wr Wv) ⟨((Bx.at_ (by simp))), ((Below.refl _ wr).alloc (by simp <;> omega) _)⟩ ?_
                    rintro wa7 ⟨g5, b⟩
                    try clear c_g1 f_g1 a_g1 d_g1 e_g1
                    replace g1 := g1.below b; have c_g1 := g1.cell; have f_g1 := g1.free; have a_g1 := fun o => (g1.alloc o).cell; have d_g1 := fun o o2 => ((g1.alloc o).alloc o2).cell; have e_g1 := fun o => (g1.alloc o).free; try clear c_g4 f_g4 a_g4 d_g4 e_g4
                    replace g4 := g4.below b; have c_g4 := g4.cell; have f_g4 := g4.free; have a_g4 := fun o => (g4.alloc o).cell; have d_g4 := fun o o2 => ((g4.alloc o).alloc o2).cell; have e_g4 := fun o => (g4.alloc o).free; replace mp := mp.below b; replace oj := oj.below b; replace hmid := hmid.below b; replace B := B.trans (b.mono B.size); clear b
                    have c_g5 := g5.cell; have f_g5 := g5.free; have a_g5 := fun o => (g5.alloc o).cell; have d_g5 := fun o o2 => ((g5.alloc o).alloc o2).cell; have e_g5 := fun o => (g5.alloc o).free
                    have hk1' : (b.kind == 1) = true := by rw [beq_iff_eq]; exact HK1.out
                    clear a_g1 d_g1 e_g1 a_g4 d_g4 e_g4 f_g5 a_g5 d_g5 e_g5
                    go_upto_region 23 with (at_builtin; refine wpList_append2 (by rfl) rfl rfl rfl Try.underlying26 info_block rfl (by omega) (by exact own_below oj ((Below.refl _ _).alloc (Nat.le_refl _) _)) (by exact lit_block b (by simp)) (bkL_one b) (by omega) (by omega) (by omega) (by exact B.alloc B.size _) (Nat.le_refl _) ?_; intro v1 w3 o3 B3 g3 hk3; obtain ⟨yA, yn, yc, rfl⟩ := row_form o3; have c_4 := ((g4.alloc _).grown g3 hne4).cell; have f_4 := ((g4.alloc _).grown g3 hne4).free; have c_5 := ((g5.alloc _).grown g3 hne5).cell; clear c_g4 f_g4 c_g5)
                    obtain ⟨m1', m2', m3'⟩ := (⟨g1, g4, mp⟩ : _ ∧ _ ∧ _)
                    have e1 : Bx w3 w.heap.size 111 #[.slice none 0 0, .slice none 0 0, .slice none 0 0, .slice none 0 0, .map none] := (g1.alloc _).grown g3 hnep
                    have e4 : Bx w3 (pm + 1) 111 #[.slice vA vn vc, .slice tA tn tc, .slice sA sn sc, .slice jA jn jc, .map (some pm)] := (g4.alloc _).grown g3 hne4
                    have e5 : Bx w3 wr.heap.size 38 #[.int .i64 b.at_, .int .i64 b.size, .int .i64 b.kind, .int .i64 b.ty, .bool b.mark, .int .u64 b.next.toNat] := (g5.alloc _).grown g3 hne5
                    have hnem : some pm ≠ (Value.slice jA jn jc).ownBlock := fun e => by have := hbj'.out pm e.symm; omega
                    have em : MapL Try.prog 3 4 (.bool false) w3 pm nm (fun a => .bool (decide (IsObj (objs (L.take j)) a))) := (mp.below ((Below.refl _ _).alloc (Nat.le_refl _) _)).kept g3 hnem
                    have eM : MidS lo ws w3 := (hmid.below ((Below.refl _ _).alloc (Nat.le_refl _) _)).grown g3 (fun k hk => .inr (hbj'.out k hk))
                    have eK : OwnK w3 w.heap.size (.slice yA yn yc) (objs (L.take j) ++ [b]) := OwnK.of o3 (tabB_snoc _ b)
                    have hky : ∀ g, (Value.slice yA yn yc).ownBlock = some g → ws.heap.size ≤ g := fun g hg => by
                      rcases hk3 g hg with h | h
                      · exact hbj'.out g h
                      · have h2 := hmid.z
                        simp only [World.size_alloc] at h
                        omega
                    refine wp_gen (fun V => Bx V w.heap.size 111 #[.slice none 0 0, .slice none 0 0, .slice none 0 0, .slice none 0 0, .map none] ∧ Bx V (pm + 1) 111 #[.slice vA vn vc, .slice tA tn tc, .slice sA sn sc, .slice yA yn yc, .map (some pm)] ∧ Bx V wr.heap.size 38 #[.int .i64 b.at_, .int .i64 b.size, .int .i64 b.kind, .int .i64 b.ty, .bool b.mark, .int .u64 b.next.toNat] ∧
                      MapL Try.prog 3 4 (.bool false) V pm nm (fun a => .bool (decide (IsObj (objs (L.take j)) a))) ∧ OwnK V w.heap.size (.slice yA yn yc) (objs (L.take j) ++ [b]) ∧ MidS lo ws V ∧ Below w.heap.size w V)
                      ⟨e1.far (p := ⟨pm + 1, 3, none⟩) (by show w.heap.size ≠ pm + 1; omega) _, e4.set (i := 3) _, e5.far (p := ⟨pm + 1, 3, none⟩) (by show wr.heap.size ≠ pm + 1; omega) _, em.kept (grown_set _ ⟨pm + 1, 3, none⟩ _) (by intro e; injection e with e; have : pm = pm + 1 := e; omega), own_set eK e4 (by decide), eM.set (p := ⟨pm + 1, 3, none⟩) hq3 _, B3.setCell (p := ⟨pm + 1, 3, none⟩) (by show w.heap.size ≤ pm + 1; omega) _⟩ ?_
                    clear e1 e4 e5 em eM eK g1 g4 g5 mp oj hmid B B3 g3 hk3 o3 c_4 f_4 c_5 m1' m2' m3' m0 m1 m2 m3 m4 m5 hne4 hnep hne5 hnem hk1' c_g1 f_g1 ia
                    rintro V ⟨g1, g4, g5, mp, oj, hmid, B⟩
                    have c_g4 := g4.cell; have c_g5 := g5.cell
                    have hnk : some pm ≠ (Value.slice yA yn yc).ownBlock := fun e => by have := hky pm e.symm; omega
                    have hnk2 : (Value.slice yA yn yc).ownBlock = none ∨ (Value.slice yA yn yc).ownBlock ≠ some pm := .inr (fun e => hnk e.symm)
                    have HKY := Lib.hid hky
                    clear hky
                    go_wp2_with (at_mapUpdate; refine wpList_mapPut rfl rfl Try.underlying3 Try.underlying109 rfl rfl rfl mp (by unfold maxLen; omega) hia (plainElem_bool Try.underlying4 true) ?_; intro w5 mp5 g5')
                    have hob : objs (L.take (j + 1)) = objs (L.take j) ++ [b] := by rw [HTK.out, objs_snoc, if_pos HK1.out]
                    have HREL := Lib.hid (show ∃ bj nm, Bx w5 w.heap.size 111 #[.slice none 0 0, .slice none 0 0, .slice none 0 0, .slice none 0 0, .map none] ∧ Bx w5 (pm + 1) 111 #[.slice vA vn vc, .slice tA tn tc, .slice sA sn sc, bj, .map (some pm)] ∧
                      MapL Try.prog 3 4 (.bool false) w5 pm nm (fun a => .bool (decide (IsObj (objs (L.take (j + 1))) a))) ∧ nm ≤ j + 1 ∧ OwnK w5 w.heap.size bj (objs (L.take (j + 1))) ∧ (∀ g, bj.ownBlock = some g → ws.heap.size ≤ g) ∧ MidS lo ws w5 ∧ Below w.heap.size w w5 from
                      ⟨_, nm + 1, g1.grown g5' (.inr (by intro e; injection e with e; omega)), g4.grown g5' (.inr (by intro e; injection e with e; omega)), by
                        rw [hob]
                        obtain ⟨D, x1, x2⟩ := mp5
                        refine ⟨D, x1, fun a => ?_⟩
                        rw [x2 a]
                        congr 1
                        dsimp only
                        by_cases e : a = b.at_
                        · rw [if_pos e]; congr 1; rw [eq_comm, decide_eq_true_iff]; exact isObj_snoc.2 (.inl e)
                        · rw [if_neg e]; congr 1; rw [Bool.eq_iff_iff, decide_eq_true_iff, decide_eq_true_iff, isObj_snoc]; simp [e], by omega, by rw [hob]; exact World.ownsRow.kept oj g5' hnk2, HKY.out, hmid.grown g5' (fun k hk => .inl (by injection hk with hk; omega)), B.grown g5' B.size (fun k hk => by injection hk with hk; omega)⟩)
                    clear mp5 g5' g1 g4 g5 mp oj hmid B
                    go_roundg (N - (j + 1))
                    case measure => omega
                    case rel => exact ⟨j + 1, by omega, rfl, by go_num, HREL⟩
                  · have hk2 : (b.kind == 1) = false := by rw [beq_eq_false_iff_ne]; exact hk1
                    have hob : objs (L.take (j + 1)) = objs (L.take j) := by rw [HTK.out, objs_snoc, if_neg hk1, List.append_nil]
                    have HOB := Lib.hid hob
                    clear hk1 hob
                    go_upto_region 21 with (fail)
                    refine wp_gen (fun Wv => Bx Wv (wr.heap.size) (38) (#[.int .i64 b.at_, .int .i64 b.size, .int .i64 b.kind, .int .i64 b.ty, .bool b.mark, .int .u64 b.next.toNat]) ∧ Below wr.heap.size wr Wv) ⟨((Bx.at_ (by simp))), ((Below.refl _ wr).alloc (by simp <;> omega) _)⟩ ?_
                    rintro wa8 ⟨g5, b⟩
                    try clear c_g1 f_g1 a_g1 d_g1 e_g1
                    replace g1 := g1.below b; have c_g1 := g1.cell; have f_g1 := g1.free; have a_g1 := fun o => (g1.alloc o).cell; have d_g1 := fun o o2 => ((g1.alloc o).alloc o2).cell; have e_g1 := fun o => (g1.alloc o).free; try clear c_g4 f_g4 a_g4 d_g4 e_g4
                    replace g4 := g4.below b; have c_g4 := g4.cell; have f_g4 := g4.free; have a_g4 := fun o => (g4.alloc o).cell; have d_g4 := fun o o2 => ((g4.alloc o).alloc o2).cell; have e_g4 := fun o => (g4.alloc o).free; replace mp := mp.below b; replace oj := oj.below b; replace hmid := hmid.below b; replace B := B.trans (b.mono B.size); clear b
                    have c_g5 := g5.cell; have f_g5 := g5.free; have a_g5 := fun o => (g5.alloc o).cell; have d_g5 := fun o o2 => ((g5.alloc o).alloc o2).cell; have e_g5 := fun o => (g5.alloc o).free
                    have HREL := Lib.hid (show ∃ bj nm, Bx _ w.heap.size 111 #[.slice none 0 0, .slice none 0 0, .slice none 0 0, .slice none 0 0, .map none] ∧ Bx _ (pm + 1) 111 #[.slice vA vn vc, .slice tA tn tc, .slice sA sn sc, bj, .map (some pm)] ∧
                      MapL Try.prog 3 4 (.bool false) _ pm nm (fun a => .bool (decide (IsObj (objs (L.take (j + 1))) a))) ∧ nm ≤ j + 1 ∧ OwnK _ w.heap.size bj (objs (L.take (j + 1))) ∧ (∀ g, bj.ownBlock = some g → ws.heap.size ≤ g) ∧ MidS lo ws _ ∧ Below w.heap.size w _ from ⟨_, nm, g1, g4, by rw [HOB.out]; exact mp, by omega, by rw [HOB.out]; exact oj, hbj'.out, hmid, B⟩)
                    go_wp2
                    go_roundg (N - (j + 1))
                    case measure => omega
                    case rel => exact ⟨j + 1, by omega, rfl, by go_num, HREL⟩
                · obtain rfl : j = N := by omega
                  have htk : L.take j = L := List.take_of_length_le (by rw [← HNL.out]; exact Nat.le_refl _)
                  rw [htk] at mp oj
                  have c_g1 := g1.cell; have c_g4 := g4.cell; have f_g1 := g1.free
                  have hne1 : w.heap.size ≠ pm + 1 := by omega
                  have HSG : Hid (SgO wr w.heap.size lo (.slice vA vn vc) (.slice tA tn tc) (.slice sA sn sc) (.slice jA jn jc) E pm nm l (T19 l) (slots l) (O19 l) w) := Lib.hid ⟨B, by rw [← HXT.out.1]; exact OwnT.mid HOWN.out.1 hmid.m, by rw [← HXT.out.2.2]; exact own_mid HOWN.out.2.1 hmid.m, by unfold O19; rw [← HXT.out.2.1]; exact oj, fun e => by have := hbj _ e; omega, by unfold O19; rw [← HXT.out.2.1]; exact mp⟩
                  clear mp oj
                  go_wp2
                  refine bodyPost_ret (v := .tuple #[.agg #[.slice vA vn vc, .slice tA tn tc, .slice sA sn sc, .slice jA jn jc, .map (some pm)], .int .i64 0]) (by simp [results, Try.results62, go_sem, c_g1, f_g1, c_g4, hne1]) rfl ?_
                  first | refine ⟨_, _, _, _, _, rfl, ⟨rfl, pm, rfl, nm, SgO.sg (((((HSG.out.set (by omega) (by omega)).set (by omega) (by omega)).set (by omega) (by omega)).set (by omega) (by omega)).set (by omega) (by omega)) H.out⟩, ?_⟩ | refine ⟨_, _, _, _, _, rfl, ⟨rfl, pm, rfl, nm, SgO.sg (((((HSG.out.set (by omega) (by omega)).set (by omega) (by omega)).set (by omega) (by omega)).set (by omega) (by omega)).set (by omega) (by omega)) H.out⟩, fun e => absurd rfl e, ?_⟩
                  (repeat (first | refine Below.setCell ?_ (by first | exact Nat.le_refl _ | (simp <;> omega)) _ | refine Below.alloc ?_ (by first | exact B.size | (have := B.size; simp <;> omega)) _)); exact B
end Go.Proofs.Ytbfmdbeeiicabaa
namespace Go.Proofs.Ytbfmdbeeiicabaa
open Go.RowKit L01 L02 L05 L07 L13 L14 L15 L18 L19
set_option maxRecDepth 100000 in
set_option maxHeartbeats 2000000 in
theorem each_any (fid : Nat) (v tv sv bv : Value) (g : Nat) (O : List Hb) (p : Hb → Bool) (c : Bool) (hc : c = decide (∀ b ∈ O, p b = true)) (hcf : ∀ args W, (callFunc fid args).run Try.prog W = .ok (.enter fid args) W) (w : World) (h : Blks w bv O)
    (hcl : ∀ b ∈ O, ∀ W, Below w.heap.size w W → Calls Try.prog fid (#[.agg #[v, tv, sv, bv, .map (some g)]] ++ (#[.agg #[.int .i64 b.at_, .int .i64 b.size, .int .i64 b.kind, .int .i64 b.ty, .bool b.mark, .int .u64 b.next.toNat]] ++ #[])) W fun e W' => e = .returned (.bool (p b)) ∧ Below W.heap.size W W') :
    Calls Try.prog 68 #[.agg #[v, tv, sv, bv, .map (some g)], .func (.func fid) #[.agg #[v, tv, sv, bv, .map (some g)]] #[]] w fun e w' => e = .returned (.bool c) ∧ Below w.heap.size w w' := by
  have B : Below w.heap.size w w := Below.refl _ _
  have lo := h.len
  obtain ⟨N, hN⟩ : ∃ N, N = O.length := ⟨_, rfl⟩
  have hlen := h.len_le
  rw [← hN] at lo hlen
  have H := Lib.hid h; have HN := Lib.hid hN; have HC := Lib.hid hc; have HCL := Lib.hid hcl
  clear h hN hc hcl
  go_enter Try.func68, Try.ntmps68
  go_upto_region 1 with (fail)
  refine wp_gen (fun Wv => Bx Wv (w.heap.size) (111) (#[v, tv, sv, bv, .map (some g)]) ∧ Below w.heap.size w Wv) ⟨((Bx.at_ (by simp))), ((Below.refl _ w).alloc (by simp <;> omega) _)⟩ ?_
  rintro wa1 ⟨g1, b⟩
  replace B := B.trans (b.mono B.size); clear b
  have c_g1 := g1.cell; have f_g1 := g1.free; have a_g1 := fun o => (g1.alloc o).cell; have d_g1 := fun o o2 => ((g1.alloc o).alloc o2).cell; have e_g1 := fun o => (g1.alloc o).free
  go_wp2
  have HB := Lib.hid (And.intro g1 B)
  go_loopg [10] N (fun gg i wr => ∃ j : Nat, j ≤ N ∧ gg = N - j ∧ i = .int .i64 j ∧ Hid (Below w.heap.size w wr ∧ ∀ i b, i < j → O[i]? = some b → p b = true))
  case atStart => exact ⟨0, by omega, rfl, rfl, Lib.hid ⟨HB.out.2, fun i b hi => by omega⟩⟩
  case round =>
    obtain ⟨j, hj, rfl, rfl, hh⟩ := hrel
    clear HB g1 B c_g1 f_g1 a_g1 d_g1 e_g1
    have B := hh.out.1
    by_cases hlt : j < N
    · obtain ⟨bb, oo, b, ia, m0, m1, m2, m3, m4, m5, hb, _⟩ := (Blks.below H.out B).at_ (k := j) (by rw [← HN.out]; exact hlt)
      obtain ⟨q, hq⟩ : ∃ q, q = p b := ⟨_, rfl⟩
      have CL : Hid (∀ W, Below w.heap.size w W → Calls Try.prog fid (#[.agg #[v, tv, sv, bv, .map (some g)]] ++ (#[.agg #[.int .i64 b.at_, .int .i64 b.size, .int .i64 b.kind, .int .i64 b.ty, .bool b.mark, .int .u64 b.next.toNat]] ++ #[])) W fun e W' => e = .returned (.bool q) ∧ Below W.heap.size W W') := by
        rw [hq]; exact Lib.hid (HCL.out b (List.mem_of_getElem? hb.out))
      cases q
      · have hc : c = false := by
          rw [HC.out, decide_eq_false_iff_not]
          exact fun hall => by have := hall b (List.mem_of_getElem? hb.out); rw [← hq] at this; cases this
        subst hc
        clear hq hb
        go_upto_region 4 with (fail)
        refine wp_gen (fun Wv => Bx Wv (wr.heap.size) (38) (#[.int .i64 b.at_, .int .i64 b.size, .int .i64 b.kind, .int .i64 b.ty, .bool b.mark, .int .u64 b.next.toNat]) ∧ Below wr.heap.size wr Wv) ⟨((Bx.at_ (by simp))), ((Below.refl _ wr).alloc (by simp <;> omega) _)⟩ ?_
        rintro wa2 ⟨g2, b⟩
        replace B := B.trans (b.mono B.size); clear b
        have c_g2 := g2.cell; have f_g2 := g2.free; have a_g2 := fun o => (g2.alloc o).cell; have d_g2 := fun o o2 => ((g2.alloc o).alloc o2).cell; have e_g2 := fun o => (g2.alloc o).free
        go_wp2_with fail
        refine (CL.out _ B).mono ?_
        rintro e wz ⟨rfl, b2⟩
        replace B := B.trans (b2.mono B.size)
        go_wp2
        go_ret
        exact ⟨rfl, B⟩
      · have HZ : Hid (∀ i b, i < j + 1 → O[i]? = some b → p b = true) := Lib.hid (fun i b' hi hb' => by
          by_cases e : i = j
          · subst e; rw [hb.out] at hb'; injection hb' with hb'; subst hb'; exact hq.symm
          · exact hh.out.2 i b' (by omega) hb')
        clear hq hb
        go_upto_region 4 with (fail)
        refine wp_gen (fun Wv => Bx Wv (wr.heap.size) (38) (#[.int .i64 b.at_, .int .i64 b.size, .int .i64 b.kind, .int .i64 b.ty, .bool b.mark, .int .u64 b.next.toNat]) ∧ Below wr.heap.size wr Wv) ⟨((Bx.at_ (by simp))), ((Below.refl _ wr).alloc (by simp <;> omega) _)⟩ ?_
        rintro wa3 ⟨g2, b⟩
        replace B := B.trans (b.mono B.size); clear b
        have c_g2 := g2.cell; have f_g2 := g2.free; have a_g2 := fun o => (g2.alloc o).cell; have d_g2 := fun o o2 => ((g2.alloc o).alloc o2).cell; have e_g2 := fun o => (g2.alloc o).free
        go_wp2_with fail
        refine (CL.out _ B).mono ?_
        rintro e wz ⟨rfl, b2⟩
        replace B := B.trans (b2.mono B.size)
        have HB := Lib.hid B
        go_wp2
        go_roundg (N - (j + 1))
        case measure => omega
        case rel => exact ⟨j + 1, by omega, rfl, by go_num, Lib.hid ⟨HB.out, HZ.out⟩⟩
    · obtain rfl : j = N := by omega
      have hc : c = true := by
        rw [HC.out, decide_eq_true_iff]
        intro b hb
        obtain ⟨i, hi, e⟩ := List.mem_iff_getElem.1 hb
        exact hh.out.2 i b (by rw [HN.out]; exact hi) (by rw [List.getElem?_eq_getElem hi, e])
      subst hc
      go_wp2
      go_ret
      exact ⟨rfl, B⟩
end Go.Proofs.Ytbfmdbeeiicabaa
namespace Go.Proofs.Ytbfmdbeeiicabaa
open Go.RowKit L01 L02 L05 L07 L13 L14 L15 L18 L19
theorem in19_of {l : List UInt64} (h : allErr l = 0) {b : Hb} (hb : b ∈ O19 l) : In19 l b := by
  obtain ⟨a, h1, h2, h3, h4, h5, h6, _⟩ := objs_at h hb
  exact ⟨a, h2, by rw [h6]; exact stand_ok h5, by omega⟩
/-- the first that fails of five -/
theorem whyO_at {l : List UInt64} {T : List (List UInt8)} {O : List Hb} : ∀ (f r k : Nat), k < f → (∀ i, i < k → AllGood l T O (r + i)) → ¬ AllGood l T O (r + k) → whyO l T O f r = r + k
  | 0, r, k, hk, _, _ => by omega
  | f + 1, r, 0, hk, h1, h2 => by
    rw [Nat.add_zero] at h2
    rw [whyO, if_neg h2]; rfl
  | f + 1, r, k + 1, hk, h1, h2 => by
    have h0 := h1 0 (by omega)
    rw [Nat.add_zero] at h0
    rw [whyO, if_pos h0, whyO_at f (r + 1) k (by omega) (fun i hi => by have := h1 (i + 1) (by omega); rwa [show r + 1 + i = r + (i + 1) by omega]) (by rwa [show r + 1 + k = r + (k + 1) by omega])]
    omega
set_option maxRecDepth 100000 in
set_option maxHeartbeats 8000000 in
theorem Reason_any (v : Value) (l : List UInt64) (n : Nat) (r : Int) (hn : n = rea l) (hr : r = reaE l) (w : World) (h : Words w v l) :
    Calls Try.prog 27 #[v] w fun e w' => e = .returned (.tuple #[.int .i64 n, .int .i64 r]) ∧ Below w.heap.size w w' := by
  have B : Below w.heap.size w w := Below.refl _ _
  obtain ⟨vA, vn, vc, rfl⟩ : ∃ A n c, v = .slice A n c := by obtain ⟨A, c, e, _⟩ := h; exact ⟨A, _, c, e⟩
  have H := Lib.hid h
  obtain ⟨c, hc⟩ : ∃ c, c = chk l := ⟨_, rfl⟩
  have CT : Hid (∀ w, Words w (.slice vA vn vc) l → Calls Try.prog 55 #[.slice vA vn vc] w fun e w' => e = .returned (.int .i64 c) ∧ w = w') := by rw [hc]; exact Lib.hid (fun w h => Check_any _ l w h)
  by_cases hs : SizeOk l.length
  case neg =>
    have hr0 : r = 8 := by rw [hr, reaE, if_neg hs]
    have hn0 : n = 0 := by rw [hn, rea, if_neg hs]
    have hc8 : c = 8 := by rw [hc, chk_no hs]
    subst hr0; subst hn0; subst hc8
    clear hr hn hs hc h
    go_enter Try.func27, Try.ntmps27
    go_wp2_with fail
    refine (CT.out _ (H.out.below B)).mono ?_
    rintro e w' ⟨rfl, rfl⟩
    go_wp2
    go_ret2
    exact ⟨rfl, B⟩
  case pos =>
    have hr0 : r = 0 := by rw [hr, reaE, if_pos hs]
    have hnw : n = why l := by rw [hn, rea, if_pos hs]
    have hc0 : c = 0 := by rw [hc, chk_ok hs]
    subst hr0; subst hc0
    obtain ⟨r6, hr6⟩ : ∃ x, x = why6 l := ⟨_, rfl⟩
    have PT := Lib.hid (fun w h => parts_any (.slice vA vn vc) l hs r6 hr6 w h)
    by_cases h6 : r6 = 0
    case neg =>
      have hn0 : n = r6 := by rw [hnw, why, if_pos (by rw [← hr6]; exact h6), hr6]
      have n1 : ((r6 : Int) != 0) = true := by rw [bne_iff_ne]; omega
      have h6' := h6
      subst hn0
      clear hr hn hs hc h hnw hr6 h6
      go_enter Try.func27, Try.ntmps27
      go_wp2_with fail
      refine (CT.out _ (H.out.below B)).mono ?_
      rintro e w' ⟨rfl, rfl⟩
      go_wp2_with fail
      refine (PT.out _ (H.out.below B)).mono ?_
      rintro e wa1 ⟨a, b, c, d, m, rfl, -, hz, b⟩
      replace B := B.trans (b.mono B.size); clear b
      obtain ⟨rfl, rfl, rfl, rfl, rfl⟩ := hz h6'
      go_wp2
      go_ret2
      refine ⟨rfl, ?_⟩
      (repeat (first | refine Below.setCell ?_ (by first | exact Nat.le_refl _ | (simp <;> omega)) _ | refine Below.alloc ?_ (by first | exact B.size | (have := B.size; simp <;> omega)) _)); exact B
    case pos =>
      subst h6
      obtain ⟨e1, e2, e3, e4, e5, e6⟩ := why6_zero.1 hr6.symm
      have hT := (T19_ok e4).2
      have hIn : ∀ b ∈ O19 l, In19 l b := fun b hb => in19_of e6 hb
      have hOl : ∀ b ∈ O19 l, b.at_ < l.length := fun b hb => by obtain ⟨a, _, h2, h3, h4, _, _, _, h8, _⟩ := objs_at e6 hb; omega
      have hl1 : l.length ≤ 1000000 := by have := hs.2.1; omega
      have hsn := slots_len' e5
      obtain ⟨c7, hc7⟩ : ∃ c, c = decide (AllGood l (T19 l) (O19 l) 7) := ⟨_, rfl⟩
      obtain ⟨c8, hc8⟩ : ∃ c, c = decide (AllGood l (T19 l) (O19 l) 8) := ⟨_, rfl⟩
      obtain ⟨c9, hc9⟩ : ∃ c, c = decide (AllGood l (T19 l) (O19 l) 9) := ⟨_, rfl⟩
      obtain ⟨c10, hc10⟩ : ∃ c, c = decide (AllGood l (T19 l) (O19 l) 10) := ⟨_, rfl⟩
      obtain ⟨c11, hc11⟩ : ∃ c, c = decide (AllGood l (T19 l) (O19 l) 11) := ⟨_, rfl⟩
      have E7 := Lib.hid (fun (tv sv bv : Value) (g gn : Nat) (w : World) (h : Sg w (.slice vA vn vc) tv sv bv g gn l (T19 l) (slots l) (O19 l)) => each_any 63 (.slice vA vn vc) tv sv bv g (O19 l) (fun b => decide (Idle b)) c7 (by rw [hc7]; simp only [decide_eq_true_iff]; rfl) (fun _ _ => rfl) w h.b (fun b hb W hW => idleB_any _ tv sv bv g b _ rfl W))
      have E8 := Lib.hid (fun (tv sv bv : Value) (g gn : Nat) (w : World) (h : Sg w (.slice vA vn vc) tv sv bv g gn l (T19 l) (slots l) (O19 l)) => each_any 64 (.slice vA vn vc) tv sv bv g (O19 l) (fun b => decide (Typed (T19 l) b)) c8 (by rw [hc8]; simp only [decide_eq_true_iff]; rfl) (fun _ _ => rfl) w h.b (fun b hb W hW => typedB_any _ tv sv bv g (T19 l) b _ rfl (by obtain ⟨a, _, hk, _⟩ := hIn b hb; exact hk.bounds.2.2.2.2.1) hT W (h.t.below hW)))
      have E9 := Lib.hid (fun (h8 : AllGood l (T19 l) (O19 l) 8) (tv sv bv : Value) (g gn : Nat) (w : World) (h : Sg w (.slice vA vn vc) tv sv bv g gn l (T19 l) (slots l) (O19 l)) => each_any 65 (.slice vA vn vc) tv sv bv g (O19 l) (fun b => decide (Padded l (T19 l) b)) c9 (by rw [hc9]; simp only [decide_eq_true_iff]; rfl) (fun _ _ => rfl) w h.b (fun b hb W hW => paddedB_any _ tv sv bv g l (T19 l) b _ rfl (hIn b hb) (h8 b hb) hl1 W (h.w.below hW) (h.t.below hW)))
      have E10 := Lib.hid (fun (h8 : AllGood l (T19 l) (O19 l) 8) (tv sv bv : Value) (g gn : Nat) (w : World) (h : Sg w (.slice vA vn vc) tv sv bv g gn l (T19 l) (slots l) (O19 l)) => each_any 66 (.slice vA vn vc) tv sv bv g (O19 l) (fun b => decide (FloatsB l (T19 l) b)) c10 (by rw [hc10]; simp only [decide_eq_true_iff]; rfl) (fun _ _ => rfl) w h.b (fun b hb W hW => floatsB_any _ tv sv bv g l (T19 l) b _ rfl (hIn b hb) (h8 b hb) hl1 W (h.w.below hW) (h.t.below hW)))
      have E11 := Lib.hid (fun (h8 : AllGood l (T19 l) (O19 l) 8) (tv sv bv : Value) (g gn : Nat) (w : World) (h : Sg w (.slice vA vn vc) tv sv bv g gn l (T19 l) (slots l) (O19 l)) => each_any 67 (.slice vA vn vc) tv sv bv g (O19 l) (fun b => decide (RefsB l (T19 l) (O19 l) b)) c11 (by rw [hc11]; simp only [decide_eq_true_iff]; rfl) (fun _ _ => rfl) w h.b (fun b hb W hW => refsB_any _ tv sv bv g gn l (T19 l) (slots l) (O19 l) b _ rfl (hIn b hb) (h8 b hb) hl1 hOl W (h.below hW)))
      have hwO : n = if whyO l (T19 l) (O19 l) 5 7 ≠ 0 then whyO l (T19 l) (O19 l) 5 7 else if SlotsGood (slots l) (O19 l) then 0 else 12 := by
        rw [hnw, why, if_neg (by rw [← hr6]; exact fun h => h rfl)]
      have HW := Lib.hid hwO
      have HCS := Lib.hid (And.intro hc7 (And.intro hc8 (And.intro hc9 (And.intro hc10 hc11))))
      have HSN := Lib.hid hsn
      have hI64 : ∀ s ∈ slots l, s.used = true → i64Ok s.at_ := fun s hs' hu => by
        obtain ⟨x, hx, rfl⟩ := List.mem_map.1 hs'
        have := (allR_of e5 x hx).2.2.2 hu
        exact ⟨by omega, by omega⟩
      have HI := Lib.hid hI64
      clear hr hn hs hc h hnw hr6 e1 e2 e3 e4 e5 e6 hT hIn hOl hl1 hsn hc7 hc8 hc9 hc10 hc11 hwO hI64
      go_enter Try.func27, Try.ntmps27
      go_wp2_with fail
      refine (CT.out _ (H.out.below B)).mono ?_
      rintro e w' ⟨rfl, rfl⟩
      go_wp2_with fail
      refine (PT.out _ (H.out.below B)).mono ?_
      rintro e wa1 ⟨a, tv, sv, bv, m, rfl, hsg, -, b⟩
      replace B := B.trans (b.mono B.size); clear b
      obtain ⟨rfl, g, gn, rfl, sg⟩ := hsg (by trivial)
      obtain ⟨tA, tn, tc, rfl⟩ : ∃ A n c, tv = .slice A n c := by obtain ⟨_, _, ⟨A, c, e, _⟩, _⟩ := sg.t; exact ⟨A, _, c, e⟩
      obtain ⟨sA, sn, sc, rfl⟩ : ∃ A n c, sv = .slice A n c := by obtain ⟨A, c, e, _⟩ := sg.s; exact ⟨A, _, c, e⟩
      obtain ⟨bA, bn, bc, rfl⟩ : ∃ A n c, bv = .slice A n c := by obtain ⟨A, c, e⟩ := sg.b.form; exact ⟨A, _, c, e⟩
      go_upto_region 5 with (fail)
      refine wp_gen (fun Wv => Bx Wv (wa1.heap.size) (111) (#[.slice vA vn vc, .slice tA tn tc, .slice sA sn sc, .slice bA bn bc, .map (some g)]) ∧ Below wa1.heap.size wa1 Wv) ⟨((Bx.at_ (by simp))), ((Below.refl _ wa1).alloc (by simp <;> omega) _)⟩ ?_
      rintro wa2 ⟨g1, b⟩
      replace sg := sg.below b; replace B := B.trans (b.mono B.size); clear b
      have c_g1 := g1.cell; have f_g1 := g1.free; have a_g1 := fun o => (g1.alloc o).cell; have d_g1 := fun o o2 => ((g1.alloc o).alloc o2).cell; have e_g1 := fun o => (g1.alloc o).free
      go_upto_region 7 with (fail)
      go_wp2
      refine wp_gen (fun Wv => Bx Wv (wa2.heap.size) (114) (#[.func (.func 63) #[.agg #[.slice vA vn vc, .slice tA tn tc, .slice sA sn sc, .slice bA bn bc, .map (some g)]] #[], .func (.func 64) #[.agg #[.slice vA vn vc, .slice tA tn tc, .slice sA sn sc, .slice bA bn bc, .map (some g)]] #[], .func (.func 65) #[.agg #[.slice vA vn vc, .slice tA tn tc, .slice sA sn sc, .slice bA bn bc, .map (some g)]] #[], .func (.func 66) #[.agg #[.slice vA vn vc, .slice tA tn tc, .slice sA sn sc, .slice bA bn bc, .map (some g)]] #[], .func (.func 67) #[.agg #[.slice vA vn vc, .slice tA tn tc, .slice sA sn sc, .slice bA bn bc, .map (some g)]] #[]]) ∧ Below wa2.heap.size wa2 Wv) ⟨((Bx.at_ (by simp))), ((Below.refl _ wa2).alloc (by simp <;> omega) _)⟩ ?_
      rintro wa3 ⟨g2, b⟩
      replace sg := sg.below b; try clear c_g1 f_g1 a_g1 d_g1 e_g1
      replace g1 := g1.below b; have c_g1 := g1.cell; have f_g1 := g1.free; have a_g1 := fun o => (g1.alloc o).cell; have d_g1 := fun o o2 => ((g1.alloc o).alloc o2).cell; have e_g1 := fun o => (g1.alloc o).free; replace B := B.trans (b.mono B.size); clear b
      have c_g2 := g2.cell; have f_g2 := g2.free; have a_g2 := fun o => (g2.alloc o).cell; have d_g2 := fun o o2 => ((g2.alloc o).alloc o2).cell; have e_g2 := fun o => (g2.alloc o).free
      have HG0 := Lib.hid (And.intro g1 (And.intro g2 (And.intro sg B)))
      clear g1 g2 sg B c_g1 f_g1 a_g1 d_g1 e_g1 c_g2 f_g2 a_g2 d_g2 e_g2
      go_loopg [36] 5 (fun gg i wr => ∃ j : Nat, j ≤ 5 ∧ gg = 5 - j ∧ i = .int .i64 j ∧ Hid (Bx wr wa1.heap.size 111 #[.slice vA vn vc, .slice tA tn tc, .slice sA sn sc, .slice bA bn bc, .map (some g)] ∧ Bx wr wa2.heap.size 114 #[.func (.func 63) #[.agg #[.slice vA vn vc, .slice tA tn tc, .slice sA sn sc, .slice bA bn bc, .map (some g)]] #[], .func (.func 64) #[.agg #[.slice vA vn vc, .slice tA tn tc, .slice sA sn sc, .slice bA bn bc, .map (some g)]] #[], .func (.func 65) #[.agg #[.slice vA vn vc, .slice tA tn tc, .slice sA sn sc, .slice bA bn bc, .map (some g)]] #[], .func (.func 66) #[.agg #[.slice vA vn vc, .slice tA tn tc, .slice sA sn sc, .slice bA bn bc, .map (some g)]] #[], .func (.func 67) #[.agg #[.slice vA vn vc, .slice tA tn tc, .slice sA sn sc, .slice bA bn bc, .map (some g)]] #[]] ∧ Sg wr (.slice vA vn vc) (.slice tA tn tc) (.slice sA sn sc) (.slice bA bn bc) g gn l (T19 l) (slots l) (O19 l) ∧ Below w.heap.size w wr ∧ ∀ i, i < j → AllGood l (T19 l) (O19 l) (7 + i)))
      case atStart =>
        obtain ⟨g1, g2, sg, B⟩ := HG0.out
        exact ⟨0, by omega, by omega, rfl, Lib.hid ⟨g1, g2, sg, B, fun i hi => by omega⟩⟩
      case round =>
        obtain ⟨j, hj, hgj, rfl, hh⟩ := hrel
        clear HG0
        obtain ⟨g1, g2, sg, B, -⟩ := hh.out
        have c_g1 := g1.cell; have c_g2 := g2.cell
        rcases (show j = 0 ∨ j = 1 ∨ j = 2 ∨ j = 3 ∨ j = 4 ∨ j = 5 by omega) with rfl | rfl | rfl | rfl | rfl | rfl
        all_goals subst hgj
        · -- reason 7
          have EK := Lib.hid (fun w h => E7.out (.slice tA tn tc) (.slice sA sn sc) (.slice bA bn bc) g gn w h)
          cases c7
          · have hno : ¬ AllGood l (T19 l) (O19 l) (7 + 0) := of_decide_eq_false HCS.out.1.symm
            have hw := whyO_at (l := l) (T := T19 l) (O := O19 l) 5 7 0 (by omega) (fun i hi => hh.out.2.2.2.2 i (by omega)) hno
            have hn0 : n = 7 + 0 := by rw [HW.out, hw, if_pos (by omega)]
            subst hn0
            clear hno hw
            go_wp2_with fail
            refine (EK.out _ sg).mono ?_
            rintro e wa4 ⟨rfl, b⟩
            try clear c_g1 f_g1 a_g1 d_g1 e_g1
            replace g1 := g1.below b; have c_g1 := g1.cell; have f_g1 := g1.free; have a_g1 := fun o => (g1.alloc o).cell; have d_g1 := fun o o2 => ((g1.alloc o).alloc o2).cell; have e_g1 := fun o => (g1.alloc o).free; try clear c_g2 f_g2 a_g2 d_g2 e_g2
            replace g2 := g2.below b; have c_g2 := g2.cell; have f_g2 := g2.free; have a_g2 := fun o => (g2.alloc o).cell; have d_g2 := fun o o2 => ((g2.alloc o).alloc o2).cell; have e_g2 := fun o => (g2.alloc o).free; replace sg := sg.below b; replace B := B.trans (b.mono B.size); clear b
            go_wp2
            go_ret2
            exact ⟨rfl, B⟩
          · have hyes : AllGood l (T19 l) (O19 l) (7 + 0) := of_decide_eq_true HCS.out.1.symm
            have HA : Hid (∀ i, i < 0 + 1 → AllGood l (T19 l) (O19 l) (7 + i)) := Lib.hid (fun i hi => by
              by_cases e : i = 0
              · subst e; exact hyes
              · exact hh.out.2.2.2.2 i (by omega))
            clear hyes
            go_wp2_with fail
            refine (EK.out _ sg).mono ?_
            rintro e wa5 ⟨rfl, b⟩
            try clear c_g1 f_g1 a_g1 d_g1 e_g1
            replace g1 := g1.below b; have c_g1 := g1.cell; have f_g1 := g1.free; have a_g1 := fun o => (g1.alloc o).cell; have d_g1 := fun o o2 => ((g1.alloc o).alloc o2).cell; have e_g1 := fun o => (g1.alloc o).free; try clear c_g2 f_g2 a_g2 d_g2 e_g2
            replace g2 := g2.below b; have c_g2 := g2.cell; have f_g2 := g2.free; have a_g2 := fun o => (g2.alloc o).cell; have d_g2 := fun o o2 => ((g2.alloc o).alloc o2).cell; have e_g2 := fun o => (g2.alloc o).free; replace sg := sg.below b; replace B := B.trans (b.mono B.size); clear b
            have HG := Lib.hid (And.intro g1 (And.intro g2 (And.intro sg (And.intro B HA.out))))
            go_wp2
            go_roundg (5 - (0 + 1))
            case measure => omega
            case rel => exact ⟨0 + 1, by omega, rfl, by go_num, HG⟩
        · -- reason 8
          have EK := Lib.hid (fun w h => E8.out (.slice tA tn tc) (.slice sA sn sc) (.slice bA bn bc) g gn w h)
          cases c8
          · have hno : ¬ AllGood l (T19 l) (O19 l) (7 + 1) := of_decide_eq_false HCS.out.2.1.symm
            have hw := whyO_at (l := l) (T := T19 l) (O := O19 l) 5 7 1 (by omega) (fun i hi => hh.out.2.2.2.2 i (by omega)) hno
            have hn0 : n = 7 + 1 := by rw [HW.out, hw, if_pos (by omega)]
            subst hn0
            clear hno hw
            go_wp2_with fail
            refine (EK.out _ sg).mono ?_
            rintro e wa6 ⟨rfl, b⟩
            try clear c_g1 f_g1 a_g1 d_g1 e_g1
            replace g1 := g1.below b; have c_g1 := g1.cell; have f_g1 := g1.free; have a_g1 := fun o => (g1.alloc o).cell; have d_g1 := fun o o2 => ((g1.alloc o).alloc o2).cell; have e_g1 := fun o => (g1.alloc o).free; try clear c_g2 f_g2 a_g2 d_g2 e_g2
            replace g2 := g2.below b; have c_g2 := g2.cell; have f_g2 := g2.free; have a_g2 := fun o => (g2.alloc o).cell; have d_g2 := fun o o2 => ((g2.alloc o).alloc o2).cell; have e_g2 := fun o => (g2.alloc o).free; replace sg := sg.below b; replace B := B.trans (b.mono B.size); clear b
            go_wp2
            go_ret2
            exact ⟨rfl, B⟩
          · have hyes : AllGood l (T19 l) (O19 l) (7 + 1) := of_decide_eq_true HCS.out.2.1.symm
            have HA : Hid (∀ i, i < 1 + 1 → AllGood l (T19 l) (O19 l) (7 + i)) := Lib.hid (fun i hi => by
              by_cases e : i = 1
              · subst e; exact hyes
              · exact hh.out.2.2.2.2 i (by omega))
            clear hyes
            go_wp2_with fail
            refine (EK.out _ sg).mono ?_
            rintro e wa7 ⟨rfl, b⟩
            try clear c_g1 f_g1 a_g1 d_g1 e_g1
            replace g1 := g1.below b; have c_g1 := g1.cell; have f_g1 := g1.free; have a_g1 := fun o => (g1.alloc o).cell; have d_g1 := fun o o2 => ((g1.alloc o).alloc o2).cell; have e_g1 := fun o => (g1.alloc o).free; try clear c_g2 f_g2 a_g2 d_g2 e_g2
            replace g2 := g2.below b; have c_g2 := g2.cell; have f_g2 := g2.free; have a_g2 := fun o => (g2.alloc o).cell; have d_g2 := fun o o2 => ((g2.alloc o).alloc o2).cell; have e_g2 := fun o => (g2.alloc o).free; replace sg := sg.below b; replace B := B.trans (b.mono B.size); clear b
            have HG := Lib.hid (And.intro g1 (And.intro g2 (And.intro sg (And.intro B HA.out))))
            go_wp2
            go_roundg (5 - (1 + 1))
            case measure => omega
            case rel => exact ⟨1 + 1, by omega, rfl, by go_num, HG⟩
        · -- reason 9
          have EK := Lib.hid (fun w h => E9.out (hh.out.2.2.2.2 1 (by omega)) (.slice tA tn tc) (.slice sA sn sc) (.slice bA bn bc) g gn w h)
          cases c9
          · have hno : ¬ AllGood l (T19 l) (O19 l) (7 + 2) := of_decide_eq_false HCS.out.2.2.1.symm
            have hw := whyO_at (l := l) (T := T19 l) (O := O19 l) 5 7 2 (by omega) (fun i hi => hh.out.2.2.2.2 i (by omega)) hno
            have hn0 : n = 7 + 2 := by rw [HW.out, hw, if_pos (by omega)]
            subst hn0
            clear hno hw
            go_wp2_with fail
            refine (EK.out _ sg).mono ?_
            rintro e wa8 ⟨rfl, b⟩
            try clear c_g1 f_g1 a_g1 d_g1 e_g1
            replace g1 := g1.below b; have c_g1 := g1.cell; have f_g1 := g1.free; have a_g1 := fun o => (g1.alloc o).cell; have d_g1 := fun o o2 => ((g1.alloc o).alloc o2).cell; have e_g1 := fun o => (g1.alloc o).free; try clear c_g2 f_g2 a_g2 d_g2 e_g2
            replace g2 := g2.below b; have c_g2 := g2.cell; have f_g2 := g2.free; have a_g2 := fun o => (g2.alloc o).cell; have d_g2 := fun o o2 => ((g2.alloc o).alloc o2).cell; have e_g2 := fun o => (g2.alloc o).free; replace sg := sg.below b; replace B := B.trans (b.mono B.size); clear b
            go_wp2
            go_ret2
            exact ⟨rfl, B⟩
          · have hyes : AllGood l (T19 l) (O19 l) (7 + 2) := of_decide_eq_true HCS.out.2.2.1.symm
            have HA : Hid (∀ i, i < 2 + 1 → AllGood l (T19 l) (O19 l) (7 + i)) := Lib.hid (fun i hi => by
              by_cases e : i = 2
              · subst e; exact hyes
              · exact hh.out.2.2.2.2 i (by omega))
            clear hyes
            go_wp2_with fail
            refine (EK.out _ sg).mono ?_
            rintro e wa9 ⟨rfl, b⟩
            try clear c_g1 f_g1 a_g1 d_g1 e_g1
            replace g1 := g1.below b; have c_g1 := g1.cell; have f_g1 := g1.free; have a_g1 := fun o => (g1.alloc o).cell; have d_g1 := fun o o2 => ((g1.alloc o).alloc o2).cell; have e_g1 := fun o => (g1.alloc o).free; try clear c_g2 f_g2 a_g2 d_g2 e_g2
            replace g2 := g2.below b; have c_g2 := g2.cell; have f_g2 := g2.free; have a_g2 := fun o => (g2.alloc o).cell; have d_g2 := fun o o2 => ((g2.alloc o).alloc o2).cell; have e_g2 := fun o => (g2.alloc o).free; replace sg := sg.below b; replace B := B.trans (b.mono B.size); clear b
            have HG := Lib.hid (And.intro g1 (And.intro g2 (And.intro sg (And.intro B HA.out))))
            go_wp2
            go_roundg (5 - (2 + 1))
            case measure => omega
            case rel => exact ⟨2 + 1, by omega, rfl, by go_num, HG⟩
        · -- reason 10
          have EK := Lib.hid (fun w h => E10.out (hh.out.2.2.2.2 1 (by omega)) (.slice tA tn tc) (.slice sA sn sc) (.slice bA bn bc) g gn w h)
          cases c10
          · have hno : ¬ AllGood l (T19 l) (O19 l) (7 + 3) := of_decide_eq_false HCS.out.2.2.2.1.symm
            have hw := whyO_at (l := l) (T := T19 l) (O := O19 l) 5 7 3 (by omega) (fun i hi => hh.out.2.2.2.2 i (by omega)) hno
            have hn0 : n = 7 + 3 := by rw [HW.out, hw, if_pos (by omega)]
            subst hn0
            clear hno hw
            go_wp2_with fail
            refine (EK.out _ sg).mono ?_
            rintro e wa10 ⟨rfl, b⟩
            try clear c_g1 f_g1 a_g1 d_g1 e_g1
            replace g1 := g1.below b; have c_g1 := g1.cell; have f_g1 := g1.free; have a_g1 := fun o => (g1.alloc o).cell; have d_g1 := fun o o2 => ((g1.alloc o).alloc o2).cell; have e_g1 := fun o => (g1.alloc o).free; try clear c_g2 f_g2 a_g2 d_g2 e_g2
            replace g2 := g2.below b; have c_g2 := g2.cell; have f_g2 := g2.free; have a_g2 := fun o => (g2.alloc o).cell; have d_g2 := fun o o2 => ((g2.alloc o).alloc o2).cell; have e_g2 := fun o => (g2.alloc o).free; replace sg := sg.below b; replace B := B.trans (b.mono B.size); clear b
            go_wp2
            go_ret2
            exact ⟨rfl, B⟩
          · have hyes : AllGood l (T19 l) (O19 l) (7 + 3) := of_decide_eq_true HCS.out.2.2.2.1.symm
            have HA : Hid (∀ i, i < 3 + 1 → AllGood l (T19 l) (O19 l) (7 + i)) := Lib.hid (fun i hi => by
              by_cases e : i = 3
              · subst e; exact hyes
              · exact hh.out.2.2.2.2 i (by omega))
            clear hyes
            go_wp2_with fail
            refine (EK.out _ sg).mono ?_
            rintro e wa11 ⟨rfl, b⟩
            try clear c_g1 f_g1 a_g1 d_g1 e_g1
            replace g1 := g1.below b; have c_g1 := g1.cell; have f_g1 := g1.free; have a_g1 := fun o => (g1.alloc o).cell; have d_g1 := fun o o2 => ((g1.alloc o).alloc o2).cell; have e_g1 := fun o => (g1.alloc o).free; try clear c_g2 f_g2 a_g2 d_g2 e_g2
            replace g2 := g2.below b; have c_g2 := g2.cell; have f_g2 := g2.free; have a_g2 := fun o => (g2.alloc o).cell; have d_g2 := fun o o2 => ((g2.alloc o).alloc o2).cell; have e_g2 := fun o => (g2.alloc o).free; replace sg := sg.below b; replace B := B.trans (b.mono B.size); clear b
            have HG := Lib.hid (And.intro g1 (And.intro g2 (And.intro sg (And.intro B HA.out))))
            go_wp2
            go_roundg (5 - (3 + 1))
            case measure => omega
            case rel => exact ⟨3 + 1, by omega, rfl, by go_num, HG⟩
        · -- reason 11
          have EK := Lib.hid (fun w h => E11.out (hh.out.2.2.2.2 1 (by omega)) (.slice tA tn tc) (.slice sA sn sc) (.slice bA bn bc) g gn w h)
          cases c11
          · have hno : ¬ AllGood l (T19 l) (O19 l) (7 + 4) := of_decide_eq_false HCS.out.2.2.2.2.symm
            have hw := whyO_at (l := l) (T := T19 l) (O := O19 l) 5 7 4 (by omega) (fun i hi => hh.out.2.2.2.2 i (by omega)) hno
            have hn0 : n = 7 + 4 := by rw [HW.out, hw, if_pos (by omega)]
            subst hn0
            clear hno hw
            go_wp2_with fail
            refine (EK.out _ sg).mono ?_
            rintro e wa12 ⟨rfl, b⟩
            try clear c_g1 f_g1 a_g1 d_g1 e_g1
            replace g1 := g1.below b; have c_g1 := g1.cell; have f_g1 := g1.free; have a_g1 := fun o => (g1.alloc o).cell; have d_g1 := fun o o2 => ((g1.alloc o).alloc o2).cell; have e_g1 := fun o => (g1.alloc o).free; try clear c_g2 f_g2 a_g2 d_g2 e_g2
            replace g2 := g2.below b; have c_g2 := g2.cell; have f_g2 := g2.free; have a_g2 := fun o => (g2.alloc o).cell; have d_g2 := fun o o2 => ((g2.alloc o).alloc o2).cell; have e_g2 := fun o => (g2.alloc o).free; replace sg := sg.below b; replace B := B.trans (b.mono B.size); clear b
            go_wp2
            go_ret2
            exact ⟨rfl, B⟩
          · have hyes : AllGood l (T19 l) (O19 l) (7 + 4) := of_decide_eq_true HCS.out.2.2.2.2.symm
            have HA : Hid (∀ i, i < 4 + 1 → AllGood l (T19 l) (O19 l) (7 + i)) := Lib.hid (fun i hi => by
              by_cases e : i = 4
              · subst e; exact hyes
              · exact hh.out.2.2.2.2 i (by omega))
            clear hyes
            go_wp2_with fail
            refine (EK.out _ sg).mono ?_
            rintro e wa13 ⟨rfl, b⟩
            try clear c_g1 f_g1 a_g1 d_g1 e_g1
            replace g1 := g1.below b; have c_g1 := g1.cell; have f_g1 := g1.free; have a_g1 := fun o => (g1.alloc o).cell; have d_g1 := fun o o2 => ((g1.alloc o).alloc o2).cell; have e_g1 := fun o => (g1.alloc o).free; try clear c_g2 f_g2 a_g2 d_g2 e_g2
            replace g2 := g2.below b; have c_g2 := g2.cell; have f_g2 := g2.free; have a_g2 := fun o => (g2.alloc o).cell; have d_g2 := fun o o2 => ((g2.alloc o).alloc o2).cell; have e_g2 := fun o => (g2.alloc o).free; replace sg := sg.below b; replace B := B.trans (b.mono B.size); clear b
            have HG := Lib.hid (And.intro g1 (And.intro g2 (And.intro sg (And.intro B HA.out))))
            go_wp2
            go_roundg (5 - (4 + 1))
            case measure => omega
            case rel => exact ⟨4 + 1, by omega, rfl, by go_num, HG⟩
        · have hall : ∀ i, 7 ≤ i → i < 7 + 5 → AllGood l (T19 l) (O19 l) i := fun i h1 h2 => by
            have := hh.out.2.2.2.2 (i - 7) (by omega)
            rwa [show 7 + (i - 7) = i by omega] at this
          have hw0 := (whyO_zero (l := l) (T := T19 l) (O := O19 l) 5 7 (by omega)).2 hall
          have hn0 : n = if SlotsGood (slots l) (O19 l) then 0 else 12 := by rw [HW.out, hw0, if_neg (by omega)]
          have HN := Lib.hid hn0
          have ls := Rd.len sg.s Try.underlying64
          rw [HSN.out] at ls
          clear hall hw0 hn0 g2 c_g2
          go_wp2
          have HG1 := Lib.hid (And.intro g1 (And.intro sg B))
          clear g1 sg B c_g1
          go_loopg [51] 16 (fun gg i wr2 => ∃ j : Nat, j ≤ 16 ∧ gg = 16 - j ∧ i = .int .i64 j ∧ Hid (Bx wr2 wa1.heap.size 111 #[.slice vA vn vc, .slice tA tn tc, .slice sA sn sc, .slice bA bn bc, .map (some g)] ∧ Sg wr2 (.slice vA vn vc) (.slice tA tn tc) (.slice sA sn sc) (.slice bA bn bc) g gn l (T19 l) (slots l) (O19 l) ∧ Below w.heap.size w wr2 ∧ ∀ i s, i < j → (slots l)[i]? = some s → s.used = true → IsObj (O19 l) s.at_))
          case atStart =>
            obtain ⟨g1, sg, B⟩ := HG1.out
            exact ⟨0, by omega, by omega, rfl, Lib.hid ⟨g1, sg, B, fun i s hi => by omega⟩⟩
          case round =>
            obtain ⟨j, hj, rfl, rfl, hh2⟩ := hrel
            clear HG1
            obtain ⟨g1, sg, B, -⟩ := hh2.out
            have c_g1 := g1.cell
            by_cases hlt : j < 16
            · obtain ⟨bb, oo, t, ia, m0, m1, m2, ht⟩ := sg.s.at_ (P := Try.prog) Try.underlying64 size_slot (k := j) (by rw [HSN.out]; exact hlt)
              obtain ⟨tg, tu, ta⟩ := t
              dsimp only at m0 m1 m2
              have HT := Lib.hid ht.out
              clear ht
              cases tu
              · have HZ : Hid (∀ i s, i < j + 1 → (slots l)[i]? = some s → s.used = true → IsObj (O19 l) s.at_) := Lib.hid (fun i s hi hs hu => by
                  by_cases e : i = j
                  · subst e; rw [HT.out] at hs; injection hs with hs; subst hs; cases hu
                  · exact hh2.out.2.2.2 i s (by omega) hs hu)
                go_upto_region 16 with (fail)
                refine wp_gen (fun Wv => Bx Wv (wr.heap.size) (68) (#[.int .i64 tg, .bool false, .int .i64 ta]) ∧ Below wr.heap.size wr Wv) ⟨((Bx.at_ (by simp))), ((Below.refl _ wr).alloc (by simp <;> omega) _)⟩ ?_
                rintro wa14 ⟨g2, b⟩
                try clear c_g1 f_g1 a_g1 d_g1 e_g1
                replace g1 := g1.below b; have c_g1 := g1.cell; have f_g1 := g1.free; have a_g1 := fun o => (g1.alloc o).cell; have d_g1 := fun o o2 => ((g1.alloc o).alloc o2).cell; have e_g1 := fun o => (g1.alloc o).free; replace sg := sg.below b; replace B := B.trans (b.mono B.size); clear b
                have c_g2 := g2.cell; have f_g2 := g2.free; have a_g2 := fun o => (g2.alloc o).cell; have d_g2 := fun o o2 => ((g2.alloc o).alloc o2).cell; have e_g2 := fun o => (g2.alloc o).free
                have HG := Lib.hid (And.intro g1 (And.intro sg (And.intro B HZ.out)))
                go_wp2
                go_roundg (16 - (j + 1))
                case measure => omega
                case rel => exact ⟨j + 1, by omega, rfl, by go_num, HG⟩
              · have hi64 := HI.out _ (List.mem_of_getElem? HT.out) rfl
                obtain ⟨q, hq⟩ : ∃ q, q = decide (IsObj (O19 l) ta) := ⟨_, rfl⟩
                go_upto_region 16 with (fail)
                refine wp_gen (fun Wv => Bx Wv (wr.heap.size) (68) (#[.int .i64 tg, .bool true, .int .i64 ta]) ∧ Below wr.heap.size wr Wv) ⟨((Bx.at_ (by simp))), ((Below.refl _ wr).alloc (by simp <;> omega) _)⟩ ?_
                rintro wa15 ⟨g2, b⟩
                try clear c_g1 f_g1 a_g1 d_g1 e_g1
                replace g1 := g1.below b; have c_g1 := g1.cell; have f_g1 := g1.free; have a_g1 := fun o => (g1.alloc o).cell; have d_g1 := fun o o2 => ((g1.alloc o).alloc o2).cell; have e_g1 := fun o => (g1.alloc o).free; replace sg := sg.below b; replace B := B.trans (b.mono B.size); clear b
                have c_g2 := g2.cell; have f_g2 := g2.free; have a_g2 := fun o => (g2.alloc o).cell; have d_g2 := fun o o2 => ((g2.alloc o).alloc o2).cell; have e_g2 := fun o => (g2.alloc o).free
                have hlk := sg.look (a := ta) hi64
                rw [← hq] at hlk
                cases q
                · have hno : ¬ SlotsGood (slots l) (O19 l) := fun hg => of_decide_eq_false hq.symm (hg _ (List.mem_of_getElem? HT.out) rfl)
                  have hn0 : n = 12 := by rw [HN.out, if_neg hno]
                  subst hn0
                  clear hno hq
                  go_wp2
                  go_ret2
                  exact ⟨rfl, B⟩
                · have HZ : Hid (∀ i s, i < j + 1 → (slots l)[i]? = some s → s.used = true → IsObj (O19 l) s.at_) := Lib.hid (fun i s hi hs hu => by
                    by_cases e : i = j
                    · subst e; rw [HT.out] at hs; injection hs with hs; subst hs; exact of_decide_eq_true hq.symm
                    · exact hh2.out.2.2.2 i s (by omega) hs hu)
                  have HG := Lib.hid (And.intro g1 (And.intro sg (And.intro B HZ.out)))
                  clear hq
                  go_wp2
                  go_roundg (16 - (j + 1))
                  case measure => omega
                  case rel => exact ⟨j + 1, by omega, rfl, by go_num, HG⟩
            · obtain rfl : j = 16 := by omega
              have hsg : SlotsGood (slots l) (O19 l) := fun s hs hu => by
                obtain ⟨i, hi, e⟩ := List.mem_iff_getElem.1 hs
                exact hh2.out.2.2.2 i s (by rw [← HSN.out]; exact hi) (by rw [List.getElem?_eq_getElem hi, e]) hu
              have hn0 : n = 0 := by rw [HN.out, if_pos hsg]
              subst hn0
              clear hsg
              go_wp2
              go_ret2
              exact ⟨rfl, B⟩
theorem Check19_any (v : Value) (l : List UInt64) (r : Int) (hr : r = chk19 l) (w : World) (h : Words w v l) :
    Calls Try.prog 29 #[v] w fun e w' => e = .returned (.int .i64 r) ∧ Below w.heap.size w w' := by
  have B : Below w.heap.size w w := Below.refl _ _
  have H := Lib.hid h
  obtain ⟨n, hn⟩ : ∃ n, n = rea l := ⟨_, rfl⟩
  obtain ⟨q, hq⟩ : ∃ q, q = reaE l := ⟨_, rfl⟩
  have RT := Lib.hid (fun w h => Reason_any v l n q hn hq w h)
  have hcase : (q = 0 ∧ n = 0 ∧ r = 0) ∨ (q = 0 ∧ 0 < n ∧ r = 50) ∨ (q = 8 ∧ r = 8) := by
    rw [hr, hn, hq]
    by_cases hs : SizeOk l.length
    · by_cases h0 : why l = 0
      · exact .inl ⟨by rw [reaE, if_pos hs], by rw [rea, if_pos hs, h0], by rw [chk19, if_pos hs, if_pos h0]⟩
      · exact .inr (.inl ⟨by rw [reaE, if_pos hs], by rw [rea, if_pos hs]; omega, by rw [chk19, if_pos hs, if_neg h0]⟩)
    · exact .inr (.inr ⟨by rw [reaE, if_neg hs], by rw [chk19, if_neg hs]⟩)
  clear hn hq hr h
  rcases hcase with ⟨rfl, rfl, rfl⟩ | ⟨rfl, h1, rfl⟩ | ⟨rfl, rfl⟩
  · skip
    go_enter Try.func29, Try.ntmps29
    go_wp2_with fail
    refine (RT.out _ (H.out.below B)).mono ?_
    rintro e wa1 ⟨rfl, b⟩
    replace B := B.trans (b.mono B.size); clear b
    go_wp2
    go_ret
    exact ⟨rfl, B⟩
  · have n1 : (0 : Int) < (n : Int) := by omega
    go_enter Try.func29, Try.ntmps29
    go_wp2_with fail
    refine (RT.out _ (H.out.below B)).mono ?_
    rintro e wa1 ⟨rfl, b⟩
    replace B := B.trans (b.mono B.size); clear b
    go_wp2
    go_ret
    exact ⟨rfl, B⟩
  · skip
    go_enter Try.func29, Try.ntmps29
    go_wp2_with fail
    refine (RT.out _ (H.out.below B)).mono ?_
    rintro e wa1 ⟨rfl, b⟩
    replace B := B.trans (b.mono B.size); clear b
    go_wp2
    go_ret
    exact ⟨rfl, B⟩
end Go.Proofs.Ytbfmdbeeiicabaa
namespace Go.Proofs.Ytbfmdbeeiicabaa
open Go.RowKit L02
def RetW (w : World) (l : List UInt64) (e : Ending) (w' : World) : Prop := ∃ v, e = .returned v ∧ OwnW w' w.heap.size 34 v l ∧ Below w.heap.size w w'
theorem Twin_any (v : Value) (l : List UInt64) (w : World) (h : Words w v l) (hl : l.length ≤ 1048576) : Calls Try.prog 26 #[v] w (RetW w l) := by
  have H := Lib.hid h; clear h
  go_enter Try.func26, Try.ntmps26
  go_wp2_with (at_builtin
               refine wpList_append (by rfl) rfl rfl rfl Try.underlying22 info_u64 rfl (by omega) (lit0_own (Nat.le_refl _)) (by exact H.out.alloc _) (one_u64s _) (by omega) (by omega) ((Below.refl _ w).alloc (Nat.le_refl _) _) (Nat.le_refl _) ?_
               intro v1 w1 hown hbel hv)
  go_ret
  exact ⟨v1, rfl, OwnW.of hown (by simp), hbel⟩
end Go.Proofs.Ytbfmdbeeiicabaa
namespace Go.Proofs.Ytbfmdbeeiicabaa.L19
open L02 L05 L06 L07 L13 L14 L15 L18
end Go.Proofs.Ytbfmdbeeiicabaa.L19
namespace Go.Proofs.Ytbfmdbeeiicabaa
open Go.RowKit L01 L02 L05 L06 L07 L13 L14 L15 L18 L19
/-- a literal of words -/
theorem lit_ownW {w : World} {cs : Array Value} {n m base : Nat} (l : List UInt64) (hn : w.heap.size = n) (hb : base ≤ n) (h : cs.toList = l.map u64) (hm : m = l.length) (hl : l.length ≤ 1048576) : OwnW (w.alloc (.cells cs 34)) base 34 (.slice (some ⟨n, 0, none⟩) m m) l := by
  subst hn
  have hs : cs.size = m := by rw [← Array.length_toList, h]; simp [hm]
  subst hm
  have := World.ownsRow_lit (base := base) (size := 1) (e := 34) w cs l.length hb (by simp [maxLen]; omega) (by simpa using hs)
  rw [h] at this
  exact this
set_option maxRecDepth 100000 in
set_option maxHeartbeats 1000000 in
theorem put19_any (v mv : Value) (l m : List UInt64) (a : Nat) (w w0 : World) (B0 B1 B2 : Nat) (hB1 : B0 ≤ B1) (hlen : a + m.length ≤ l.length) (hl : l.length ≤ 1000000) (o1 : OwnW w B1 34 v l) (o2 : OwnW w B2 34 mv m) (hne : mv.ownBlock = none ∨ mv.ownBlock ≠ v.ownBlock) (B : Below B0 w0 w) :
    Calls Try.prog 71 #[v, .int .i64 a, mv] w fun e w' => e = .returned (.tuple #[]) ∧ OwnW w' B1 34 v (putW l a m) ∧ w.grownBy w' v.ownBlock ∧ Below B0 w0 w' := by
  have O1 := Lib.hid o1; have O2 := Lib.hid o2; have HB := Lib.hid B; have HN := Lib.hid hne
  have lm := Rd.len o2.rd Try.underlying22
  obtain ⟨M, hM⟩ : ∃ M, M = m.length := ⟨_, rfl⟩
  rw [← hM] at lm hlen
  have HM := Lib.hid hM; have HL := Lib.hid (And.intro hlen hl)
  have hb : a ≤ 1000000 ∧ M ≤ 1000000 := by omega
  obtain ⟨hb1, hb2⟩ := hb
  clear o1 o2 B hne hM hlen hl
  go_enter Try.func71, Try.ntmps71
  go_wp2
  go_loopg [6] M (fun g i wr => ∃ j : Nat, j ≤ M ∧ g = M - j ∧ i = .int .i64 j ∧ Hid (OwnW wr B1 34 v (putW l a (m.take j)) ∧ w.grownBy wr v.ownBlock ∧ Below B0 w0 wr))
  case atStart => exact ⟨0, by omega, by omega, rfl, Lib.hid ⟨O1.out, World.grownBy.refl w _, HB.out⟩⟩
  case round =>
    obtain ⟨j, hj, rfl, rfl, hh⟩ := hrel
    by_cases hlt : j < M
    · obtain ⟨h1, h2, h3⟩ := hh.out
      obtain ⟨am, x, im, cm, hx⟩ := (O2.out.kept h2 HN.out).rd.at_ (P := Try.prog) Try.underlying22 one_u64 (k := j) (by rw [← HM.out]; exact hlt)
      obtain ⟨ad, ia, ca, fa, hb, hob, hst⟩ := h1.at_ (k := a + j) (by rw [putW_len]; have := HL.out; omega)
      have ia2 : ∀ W, (Instr.indexAt 22 v (.int .i64 ((a : Int) + (j : Int)))).run Try.prog W = .ok (.pointer (some ad)) W := ia
      have hw1 : IntKind.i64.wrap ((a : Int) + (j : Int)) = (a : Int) + (j : Int) := IntWalk.i64_in _ (by omega)
      have htk : m.take (j + 1) = m.take j ++ [x] := by rw [List.take_add_one, hx.out]; rfl
      have hst1 := hst x
      rw [show a + j = a + (m.take j).length by rw [List.length_take]; have := HM.out; omega, ← putW_snoc, ← htk] at hst1
      have HG := Lib.hid (And.intro hst1 (And.intro (h2.trans (by rw [hob]; exact grown_set _ ad (.int .u64 x.toNat))) (h3.setCell (p := ad) (by omega) (.int .u64 x.toNat))))
      clear hst1 hst htk hx ia hob hb h1 h2 h3
      go_wp2
      go_roundg (M - (j + 1))
      case measure => omega
      case rel => exact ⟨j + 1, by omega, rfl, by go_num, HG⟩
    · obtain rfl : j = M := by omega
      go_wp2
      refine bodyPost_end (results_none rfl _ _ _) rfl ⟨rfl, ?_, hh.out.2.1, hh.out.2.2⟩
      have := hh.out.1
      rwa [HM.out, List.take_length] at this
set_option maxHeartbeats 1000000 in
theorem with19_any (v : Value) (l : List UInt64) (a : Nat) (x : UInt64) (ha : a < l.length) (hl : l.length ≤ 1048576) (w : World) (h : Words w v l) :
    Calls Try.prog 33 #[v, .int .i64 a, .int .u64 x.toNat] w fun e w' => ∃ y, e = .returned y ∧ OwnW w' w.heap.size 34 y (l.set a x) ∧ Below w.heap.size w w' := by
  have B : Below w.heap.size w w := Below.refl _ _
  have H := Lib.hid h; have HA := Lib.hid (And.intro ha hl)
  clear h ha hl
  go_enter Try.func33, Try.ntmps33
  go_wp2_with fail
  refine (Twin_any v l _ (H.out.below B) HA.out.2).mono ?_
  rintro e w1 ⟨y, rfl, o1, b⟩
  replace B := B.trans (b.mono B.size)
  obtain ⟨ad, ia, ca, fa, hb, -, hst⟩ := o1.at_ (k := a) HA.out.1
  have HG := Lib.hid (And.intro (hst x) (B.setCell (p := ad) hb (.int .u64 x.toNat)))
  clear hst b o1 B hb
  go_wp2
  go_ret
  exact ⟨_, rfl, HG.out.1, HG.out.2⟩
set_option maxHeartbeats 1000000 in
theorem says19_any (v : Value) (l : List UInt64) (k : Nat) (hk : rea l = k) (hs : SizeOk l.length) (w : World) (h : Words w v l) :
    Calls Try.prog 35 #[v, .int .i64 k] w fun e w' => e = .returned (.bool true) ∧ Below w.heap.size w w' := by
  have B : Below w.heap.size w w := Below.refl _ _
  have H := Lib.hid h
  have hw : why l = k := by rw [← hk, rea, if_pos hs]
  obtain ⟨c, hc⟩ : ∃ c, c = chk19 l := ⟨_, rfl⟩
  have T1 := Lib.hid (fun w h => Reason_any v l k 0 hk.symm (by rw [reaE, if_pos hs]) w h)
  have T2 := Lib.hid (fun w h => Check19_any v l c hc w h)
  rw [chk19, if_pos hs, hw] at hc
  rcases Nat.eq_zero_or_pos k with rfl | hp
  · rw [if_pos rfl] at hc
    subst hc
    clear h hs hk hw
    go_enter Try.func35, Try.ntmps35
    go_wp2_with fail
    refine (T1.out _ (H.out.below B)).mono ?_
    rintro e wa1 ⟨rfl, b⟩
    replace B := B.trans (b.mono B.size); clear b
    go_wp2_with fail
    refine (T2.out _ (H.out.below B)).mono ?_
    rintro e wa2 ⟨rfl, b⟩
    replace B := B.trans (b.mono B.size); clear b
    go_wp2
    go_ret
    exact ⟨rfl, B⟩
  · rw [if_neg (by omega)] at hc
    subst hc
    have n1 : ((k : Int) == 0) = false := by rw [beq_eq_false_iff_ne]; omega
    clear h hs hk hw
    go_enter Try.func35, Try.ntmps35
    go_wp2_with fail
    refine (T1.out _ (H.out.below B)).mono ?_
    rintro e wa1 ⟨rfl, b⟩
    replace B := B.trans (b.mono B.size); clear b
    go_wp2_with fail
    refine (T2.out _ (H.out.below B)).mono ?_
    rintro e wa2 ⟨rfl, b⟩
    replace B := B.trans (b.mono B.size); clear b
    go_wp2_with fail
    refine (T2.out _ (H.out.below B)).mono ?_
    rintro e wa3 ⟨rfl, b⟩
    replace B := B.trans (b.mono B.size); clear b
    go_wp2
    go_ret
    exact ⟨rfl, B⟩
end Go.Proofs.Ytbfmdbeeiicabaa
namespace Go.Proofs.Ytbfmdbeeiicabaa
open Go.RowKit L01 L02 L05 L06 L07 L13 L14 L15 L18 L19
set_option maxRecDepth 100000 in
set_option maxHeartbeats 2000000 in
theorem example19_any (tv : Value) (T : List (List UInt8)) (hT : ∀ t ∈ T, kErr t = 0) (h8 : T.length ≤ 8) (w : World) (h : Typs w tv T) :
    Calls Try.prog 70 #[tv] w fun e w' => ∃ x, e = .returned x ∧ OwnW w' w.heap.size 34 x (exL T) ∧ Below w.heap.size w w' := by
  have B : Below w.heap.size w w := Below.refl _ _
  have H := Lib.hid h; have HT := Lib.hid hT
  have lt := h.len
  obtain ⟨N, hN⟩ : ∃ N, N = T.length := ⟨_, rfl⟩
  rw [← hN] at lt h8
  have HN := Lib.hid hN
  have HS : Hid (SupOk 256 (N : Int)) := Lib.hid ⟨by decide, by omega, by omega⟩
  clear h hT hN
  go_enter Try.func70, Try.ntmps70
  go_wp2_with fail
  refine (LaidR_any 256 _ [freeB 128] (by decide) (by simp) (by omega) _ (lit_block (freeB 128) rfl)).mono ?_
  rintro e wA ⟨x, rfl, ox, b⟩
  have hal : Below w.heap.size w (w.alloc (.cells #[.int .i64 (freeB 128).at_, .int .i64 (freeB 128).size, .int .i64 (freeB 128).kind, .int .i64 (freeB 128).ty, .bool (freeB 128).mark, .int .u64 (freeB 128).next.toNat] 38)) := B.alloc (Nat.le_refl _) _
  replace B := hal.trans (b.mono hal.size)
  replace ox : OwnW wA w.heap.size 34 x (laid 256 [freeB 128]) := own_mono ox hal.size
  have hb1 := B.size
  clear b hal
  go_wp2_with fail
  refine (Written_any 256 (N : Int) _ HS.out).mono ?_
  rintro e wB ⟨s, rfl, os, b⟩
  have hne := (own_ne ox os (Nat.le_refl _)).1
  replace ox := ox.below b
  replace B := B.trans (b.mono B.size)
  clear b
  have hln : (laid 256 [freeB 128]).length = 256 := laid_len _ _
  have hwl : (wordsOf 256 (N : Int)).length = 8 := by simp [wordsOf, body]
  obtain ⟨l0, hl0⟩ : ∃ l0, l0 = laid 256 [freeB 128] := ⟨_, rfl⟩
  obtain ⟨ws, hws⟩ : ∃ ws, ws = wordsOf 256 (N : Int) := ⟨_, rfl⟩
  rw [← hl0] at ox hln
  rw [← hws] at os hwl
  have HX := Lib.hid (And.intro ox (And.intro os (And.intro hne B))); have HLN := Lib.hid (And.intro hln hwl); have HE := Lib.hid (And.intro hl0 hws)
  clear ox os hne B hln hwl hl0 hws hb1
  go_wp2_with fail
  refine (put19_any x s l0 ws 0 _ w w.heap.size w.heap.size _ (Nat.le_refl _) (by have := HLN.out; omega) (by have := HLN.out; omega) HX.out.1 HX.out.2.1 HX.out.2.2.1 HX.out.2.2.2).mono ?_
  rintro e wC ⟨rfl, ox, g, B⟩
  have os := HX.out.2.1.kept g HX.out.2.2.1
  have HX2 := Lib.hid (And.intro ox (And.intro os (And.intro HX.out.2.2.1 B)))
  clear ox os g B HX
  go_wp2_with fail
  refine (put19_any x s (putW l0 0 ws) ws 8 _ w w.heap.size w.heap.size _ (Nat.le_refl _) (by rw [putW_len]; have := HLN.out; omega) (by rw [putW_len]; have := HLN.out; omega) HX2.out.1 HX2.out.2.1 HX2.out.2.2.1 HX2.out.2.2.2).mono ?_
  rintro e wD ⟨rfl, ox, -, B⟩
  have hx0 : putW (putW l0 0 ws) 8 ws = ex0 N := by rw [HE.out.1, HE.out.2]; rfl
  rw [hx0] at ox
  have HX := Lib.hid (And.intro ox B)
  clear ox B hx0 HX2 HE HLN
  go_wp2
  go_loopg [5] N (fun g i wr => ∃ j : Nat, j ≤ N ∧ g = N - j ∧ i = .int .i64 j ∧ Hid (OwnW wr w.heap.size 34 x (exTo (ex0 N) T j) ∧ Below w.heap.size w wr))
  case atStart => exact ⟨0, by omega, by omega, rfl, HX⟩
  case round =>
    obtain ⟨j, hj, rfl, rfl, hh⟩ := hrel
    clear HX
    by_cases hlt : j < N
    · have B := hh.out.2
      have ox := hh.out.1
      have hB0 := B.size
      obtain ⟨ad, tx, t, it, m0, ht, hx⟩ := (H.out.below B).at_ (k := j) (by rw [← HN.out]; exact hlt)
      have hk := HT.out t (List.mem_of_getElem? ht.out)
      have hgt : T.getD j [] = t := by rw [List.getD_eq_getElem?_getD, ht.out]; rfl
      obtain ⟨a, ha⟩ : ∃ a, a = w0 t := ⟨_, rfl⟩
      obtain ⟨b, hb⟩ : ∃ b, b = w1 t := ⟨_, rfl⟩
      have KT := Lib.hid (fun w h => KWriteR_any tx t a b 0 ha hb hk.symm w h)
      have HAB := Lib.hid (show exTo (ex0 N) T (j + 1) = putW (exTo (ex0 N) T j) (96 + 2 * j) [a, b] by rw [exTo, hgt, ha, hb])
      have HXX := hx
      have hw1 : IntKind.i64.wrap (2 * (j : Int)) = 2 * (j : Int) := IntWalk.i64_in _ (by omega)
      have hw2 : IntKind.i64.wrap (96 + 2 * (j : Int)) = 96 + 2 * (j : Int) := IntWalk.i64_in _ (by omega)
      clear ha hb hk hgt ht hx
      go_wp2_with fail
      refine (KT.out _ (Byts.below HXX.out (Below.refl _ _))).mono ?_
      rintro e wa1 ⟨rfl, b⟩
      replace ox := ox.below b; replace m0 := cell_later b m0; replace B := B.trans (b.mono B.size); clear b
      go_upto_region 9 with (fail)
      refine wp_gen (fun Wv => Bx Wv (wa1.heap.size) (151) (#[.int .u64 a.toNat, .int .u64 b.toNat]) ∧ Below wa1.heap.size wa1 Wv) ⟨((Bx.at_ (by simp))), ((Below.refl _ wa1).alloc (by simp <;> omega) _)⟩ ?_
      rintro wa2 ⟨g2, b⟩
      replace ox := ox.below b; replace m0 := cell_later b m0; replace B := B.trans (b.mono B.size); clear b
      have c_g2 := g2.cell; have f_g2 := g2.free; have a_g2 := fun o => (g2.alloc o).cell; have d_g2 := fun o o2 => ((g2.alloc o).alloc o2).cell; have e_g2 := fun o => (g2.alloc o).free
      have hB2 := B.size
      go_wp2_with fail
      clear m0
      have ol : OwnW (wa2.alloc (.cells #[.int .u64 a.toNat, .int .u64 b.toNat] 34)) wa2.heap.size 34 (.slice (some ⟨wa2.heap.size, 0, none⟩) 2 2) [a, b] := lit_ownW [a, b] rfl (Nat.le_refl _) rfl rfl (by simp)
      have hne := (own_ne ox ol (Nat.le_refl _)).1
      have hal : Below wa2.heap.size wa2 (wa2.alloc (.cells #[.int .u64 a.toNat, .int .u64 b.toNat] 34)) := (Below.refl _ _).alloc (Nat.le_refl _) _
      have PT := put19_any x _ (exTo (ex0 N) T j) [a, b] (96 + 2 * j) _ w w.heap.size w.heap.size _ (Nat.le_refl _) (by rw [exTo_len, ex0_len]; simp only [List.length_cons, List.length_nil]; omega) (by rw [exTo_len, ex0_len]; omega) (ox.below hal) ol hne (B.trans (hal.mono hB2))
      rw [show ((96 + 2 * j : Nat) : Int) = 96 + 2 * (j : Int) by omega] at PT
      refine PT.mono ?_
      clear PT hne hal ol ox B g2 c_g2
      rintro e wE ⟨rfl, ox, -, B⟩
      rw [← HAB.out] at ox
      have HG := Lib.hid (And.intro ox B)
      clear ox B
      go_wp2
      go_roundg (N - (j + 1))
      case measure => omega
      case rel => exact ⟨j + 1, by omega, rfl, by go_num, HG⟩
    · obtain rfl : j = N := by omega
      go_wp2
      go_ret
      exact ⟨_, rfl, by rw [exL, ← HN.out]; exact hh.out.1, hh.out.2⟩
set_option maxHeartbeats 1000000 in
theorem alive19_any (w : World) : Calls Try.prog 36 #[] w fun e w' => e = .returned (.bool true) ∧ Below w.heap.size w w' := by
  have B : Below w.heap.size w w := Below.refl _ _
  have EX := Lib.hid (fun w => example19_any (.slice none 0 0) [] (by simp) (by simp) w (OwnT.nil w 0).rd)
  obtain ⟨l, hl⟩ : ∃ l, l = exL [] := ⟨_, rfl⟩
  have R0 := rea_ex0
  have R1 := rea_ex1
  have R2 := rea_ex2
  have hlen := exL_len []
  have hsz := ex_size
  rw [← hl] at R0 R1 R2 EX hlen hsz
  have S0 := Lib.hid (fun v w h => says19_any v l 0 R0 hsz w h)
  have S1 := Lib.hid (fun v w h => says19_any v (l.set 16 1) 2 R1 (by rw [List.length_set]; exact hsz) w h)
  have S2 := Lib.hid (fun v w h => says19_any v (l.set 112 9223372041149743232) 12 R2 (by rw [List.length_set]; exact hsz) w h)
  have W1 := Lib.hid (fun v w h => with19_any v l 16 1 (by omega) (by omega) w h)
  have W2 := Lib.hid (fun v w h => with19_any v l 112 9223372041149743232 (by omega) (by omega) w h)
  clear hl R0 R1 R2 hlen hsz
  go_enter Try.func36, Try.ntmps36
  go_wp2_with fail
  refine (EX.out _).mono ?_
  rintro e wa1 ⟨x0, rfl, o0, b⟩
  replace B := B.trans (b.mono B.size); clear b
  go_wp2_with fail
  refine (S0.out _ _ o0.rd).mono ?_
  rintro e wa2 ⟨rfl, b⟩
  replace o0 := o0.below b; replace B := B.trans (b.mono B.size); clear b
  go_wp2_with fail
  refine (EX.out _).mono ?_
  rintro e wa3 ⟨x1, rfl, o1, b⟩
  replace o0 := o0.below b; replace B := B.trans (b.mono B.size); clear b
  go_wp2_with fail
  refine (W1.out _ _ o1.rd).mono ?_
  rintro e wa4 ⟨y1, rfl, o2, b⟩
  replace o0 := o0.below b; replace o1 := o1.below b; replace B := B.trans (b.mono B.size); clear b
  go_wp2_with fail
  refine (S1.out _ _ o2.rd).mono ?_
  rintro e wa5 ⟨rfl, b⟩
  replace o0 := o0.below b; replace o1 := o1.below b; replace o2 := o2.below b; replace B := B.trans (b.mono B.size); clear b
  go_wp2_with fail
  refine (EX.out _).mono ?_
  rintro e wa6 ⟨x2, rfl, o3, b⟩
  replace o0 := o0.below b; replace o1 := o1.below b; replace o2 := o2.below b; replace B := B.trans (b.mono B.size); clear b
  go_wp2_with fail
  refine (W2.out _ _ o3.rd).mono ?_
  rintro e wa7 ⟨y2, rfl, o4, b⟩
  replace o0 := o0.below b; replace o1 := o1.below b; replace o2 := o2.below b; replace o3 := o3.below b; replace B := B.trans (b.mono B.size); clear b
  go_wp2_with fail
  refine (S2.out _ _ o4.rd).mono ?_
  rintro e wa8 ⟨rfl, b⟩
  replace o0 := o0.below b; replace o1 := o1.below b; replace o2 := o2.below b; replace o3 := o3.below b; replace o4 := o4.below b; replace B := B.trans (b.mono B.size); clear b
  go_wp2
  go_ret
  exact ⟨rfl, B⟩
end Go.Proofs.Ytbfmdbeeiicabaa
namespace Go.Proofs.Ytbfmdbeeiicabaa
open Go.RowKit L01 L02 L05 L06 L07 L13 L14 L15 L18 L19
set_option maxRecDepth 100000 in
set_option maxHeartbeats 1000000 in
theorem object19_any (v : Value) (L : List Hb) (a : UInt64) (ho : IsObj (objs L) a.toNat) (hu : ∀ b ∈ L, ∀ c ∈ L, b.at_ = c.at_ → b = c) (hb : ∀ b ∈ L, 0 ≤ b.at_ ∧ b.at_ ≤ 1000000) (hl : L.length ≤ 1000000) (w : World) (h : Blks w v L) :
    Calls Try.prog 39 #[v, .int .u64 a.toNat] w fun e w' => e = .returned (.bool true) ∧ w = w' := by
  obtain ⟨b0, hm, he⟩ := ho
  obtain ⟨hmL, hk0⟩ := objs_mem.1 hm
  have H := Lib.hid h; have HO := Lib.hid hb; have HU := Lib.hid (show ∀ c ∈ L, c.at_ = (a.toNat : Int) → c.kind = 1 from fun c hc e => by
    have := hu c hc b0 hmL (by rw [e, he]); rw [this]; exact hk0)
  have HE := Lib.hid (show ∃ c ∈ L, c.at_ = (a.toNat : Int) from ⟨b0, hmL, he⟩)
  have lx := h.len
  obtain ⟨N, hN⟩ : ∃ N, N = L.length := ⟨_, rfl⟩
  rw [← hN] at lx hl
  have HN := Lib.hid hN
  clear h hb hu hN hm he hmL hk0
  go_enter Try.func39, Try.ntmps39
  go_wp2
  go_loopg [5] N (fun g i wr => ∃ j : Nat, j ≤ N ∧ g = N - j ∧ i = .int .i64 j ∧ wr = w ∧ Hid (∀ i c, i < j → L[i]? = some c → c.at_ ≠ (a.toNat : Int)))
  case atStart => exact ⟨0, by omega, by omega, rfl, rfl, Lib.hid (fun i c hi => by omega)⟩
  case round =>
    obtain ⟨j, hj, rfl, rfl, rfl, hz⟩ := hrel
    by_cases hlt : j < N
    · obtain ⟨bb, oo, b, ia, m0, m1, m2, m3, m4, m5, hb, _⟩ := H.out.at_ (k := j) (by rw [← HN.out]; exact hlt)
      have hbL := List.mem_of_getElem? hb.out
      obtain ⟨z1, z2⟩ := HO.out b hbL
      have hwb : IntKind.u64.wrap b.at_ = b.at_ := by rw [wrap_u64]; omega
      by_cases he : b.at_ = (a.toNat : Int)
      · have k1 : (b.at_ == (a.toNat : Int)) = true := by rw [beq_iff_eq]; exact he
        have k2 : (b.kind == 1) = true := by rw [beq_iff_eq]; exact HU.out b hbL he
        clear he z1 z2 hbL
        go_wp2
        go_ret
        exact ⟨rfl, rfl⟩
      · have k1 : (b.at_ == (a.toNat : Int)) = false := by rw [beq_eq_false_iff_ne]; exact he
        have HZ : Hid (∀ i c, i < j + 1 → L[i]? = some c → c.at_ ≠ (a.toNat : Int)) := Lib.hid (fun i c hi hc => by
          by_cases e : i = j
          · subst e; rw [hb.out] at hc; injection hc with hc; subst hc; exact he
          · exact hz.out i c (by omega) hc)
        clear he z1 z2 hbL
        go_wp2
        go_roundg (N - (j + 1))
        case measure => omega
        case rel => exact ⟨j + 1, by omega, rfl, by go_num, rfl, HZ⟩
    · obtain rfl : j = N := by omega
      exfalso
      obtain ⟨c, hc, e⟩ := HE.out
      obtain ⟨i, hi⟩ := List.getElem?_of_mem hc
      exact hz.out i c (by rw [HN.out]; exact (List.getElem?_eq_some_iff.1 hi).1) hi e
theorem all_uniq {l : List UInt64} (h : allErr l = 0) : ∀ b ∈ allL l, ∀ c ∈ allL l, b.at_ = c.at_ → b = c := fun b hb c hc e => by
  rcases all_apart h hb hc with h1 | h1 | h1
  · exact h1
  all_goals
    exfalso
    obtain ⟨x, _, _, hs, h4, _⟩ := all_mem h hb
    obtain ⟨y, _, _, hs', h4', _⟩ := all_mem h hc
    have z1 := szN_ge hs
    have z2 := szN_ge hs'
    have e1 : b.size = szN l x := by rw [h4]; exact stand_size hs
    have e2 : c.size = szN l y := by rw [h4']; exact stand_size hs'
    omega
end Go.Proofs.Ytbfmdbeeiicabaa
namespace Go.Proofs.Ytbfmdbeeiicabaa
open Go.RowKit L01 L02 L05 L06 L07 L13 L14 L15 L18 L19
theorem why_le (l : List UInt64) : why l ≤ 12 := by
  unfold why
  have h6 : why6 l ≤ 6 := by unfold why6; (repeat' split) <;> omega
  have hO := whyO_range (l := l) (T := T19 l) (O := O19 l) 5 7
  split
  · omega
  · split
    · omega
    · split <;> omega
theorem why_one {l : List UInt64} : why l = 1 ↔ rErr l ≠ 0 := by
  have hO := whyO_range (l := l) (T := T19 l) (O := O19 l) 5 7
  by_cases h : rErr l = 0
  · have h6 : why6 l ≠ 1 := by unfold why6; simp only [h, ne_eq, not_true, if_false]; (repeat' split) <;> omega
    simp only [h, ne_eq, not_true, iff_false]
    unfold why
    split
    · exact h6
    · split
      · omega
      · split <;> omega
  · have h6 : why6 l = 1 := by unfold why6; simp [h]
    simp [h, why, h6]
/-- what the law knows of an image -/
structure Hs (W : World) (tv sv bv : Value) (T : List (List UInt8)) (S : List Sl) (L : List Hb) : Prop where
  t : Typs W tv T
  s : Slots W sv S
  b : Blks W bv L
theorem Hs.below {W W' : World} {tv sv bv : Value} {T : List (List UInt8)} {S : List Sl} {L : List Hb} (h : Hs W tv sv bv T S L) (hb : Below W.heap.size W W') : Hs W' tv sv bv T S L :=
  ⟨h.t.below hb, Slots.below h.s hb, h.b.below hb⟩
set_option maxRecDepth 100000 in
set_option maxHeartbeats 8000000 in
theorem LayoutHas_walk (v0 : Value) (l : List UInt64) (w : World) (h0 : Words w v0 l) :
    Calls Try.prog 6 #[v0] w fun e w' => e = .returned (.bool true) ∧ Below w.heap.size w w' := by
  have B : Below w.heap.size w w := Below.refl _ _
  have H := Lib.hid h0; clear h0
  have AL := Lib.hid alive19_any
  have lw := Rd.len H.out Try.underlying22
  obtain ⟨N, hN⟩ : ∃ N, N = l.length := ⟨_, rfl⟩
  rw [← hN] at lw
  have HNN := Lib.hid hN
  obtain ⟨c, hc⟩ : ∃ c, c = chk l := ⟨_, rfl⟩
  obtain ⟨gr, hgr⟩ : ∃ g, g = decide (2100 < l.length) := ⟨_, rfl⟩
  have G : Hid (∀ w, Words w v0 l → Calls Try.prog 13 #[v0] w fun e w' => e = .returned (.bool gr) ∧ w = w') := by rw [hgr]; exact Lib.hid (fun w h => Great_any v0 l w h)
  have CT : Hid (∀ w, Words w v0 l → Calls Try.prog 14 #[v0] w fun e w' => e = .returned (.int .i64 c) ∧ w = w') := by rw [hc]; exact Lib.hid (fun w h => CheckR_any v0 l w h)
  cases gr
  case true =>
    clear hgr hc hN
    go_enter Try.func6, Try.ntmps6
    go_wp2_with fail
    refine (AL.out _).mono ?_
    rintro e wa1 ⟨rfl, b⟩
    replace B := B.trans (b.mono B.size); clear b
    go_wp2_with fail
    refine (G.out _ (H.out.below B)).mono ?_
    rintro e w' ⟨rfl, rfl⟩
    go_wp2
    go_ret
    exact ⟨rfl, B⟩
  case false =>
    by_cases hs : SizeOk l.length
    case neg =>
      have hc8 : c = 8 := by rw [hc, chk_no hs]
      subst hc8
      clear hgr hc hs hN
      go_enter Try.func6, Try.ntmps6
      go_wp2_with fail
      refine (AL.out _).mono ?_
      rintro e wa1 ⟨rfl, b⟩
      replace B := B.trans (b.mono B.size); clear b
      go_wp2_with fail
      refine (G.out _ (H.out.below B)).mono ?_
      rintro e w' ⟨rfl, rfl⟩
      go_wp2_with fail
      refine (CT.out _ (H.out.below B)).mono ?_
      rintro e w' ⟨rfl, rfl⟩
      go_wp2
      go_ret
      exact ⟨rfl, B⟩
    case pos =>
      have hc0 : c = 0 := by rw [hc, chk_ok hs]
      subst hc0
      have HS := Lib.hid hs
      have hN2 : N ≤ 2048 := by have := hs.2.1; omega
      obtain ⟨n, hn⟩ : ∃ n, n = rea l := ⟨_, rfl⟩
      have hnw : n = why l := by rw [hn, rea, if_pos hs]
      obtain ⟨k, hk⟩ : ∃ k, k = chk19 l := ⟨_, rfl⟩
      have hkw : k = if n = 0 then 0 else 50 := by rw [hk, chk19, if_pos hs, hnw]
      obtain ⟨sw, hsw⟩ : ∃ x, x = sW l := ⟨_, rfl⟩
      obtain ⟨st, hst⟩ : ∃ x, x = sT l := ⟨_, rfl⟩
      obtain ⟨i0, hi0⟩ : ∃ x, x = is0 l := ⟨_, rfl⟩
      obtain ⟨i1, hi1⟩ : ∃ x, x = is1 l := ⟨_, rfl⟩
      obtain ⟨r1, hr1⟩ : ∃ x, x = rErr l := ⟨_, rfl⟩
      have T1 := Lib.hid (fun w h => Reason_any v0 l n 0 hn (by rw [reaE, if_pos hs]) w h)
      have T2 := Lib.hid (fun w h => Check19_any v0 l k hk w h)
      have T3 := Lib.hid (fun w h => TRead_any v0 l sw st i0 i1 r1 hsw hst hi0 hi1 hr1 w h)
      have hle := why_le l
      have h1 := why_one (l := l)
      rw [← hnw] at hle h1
      rw [← hr1] at h1
      by_cases hn0 : n = 0
      case neg =>
        have hk5 : k = 50 := by rw [hkw, if_neg hn0]
        subst hk5
        have g1 : decide ((n : Int) < 0) = false := decide_eq_false (by omega)
        have g2 : decide ((12 : Int) < (n : Int)) = false := decide_eq_false (by omega)
        have g3 : ((n : Int) == 0) = false := by rw [beq_eq_false_iff_ne]; omega
        have g4 : decide ((0 : Int) < (n : Int)) = true := decide_eq_true (by omega)
        have g2' : decide (12 < n) = false := decide_eq_false (by omega)
        have g4' : decide (0 < n) = true := decide_eq_true (by omega)
        have g4'' : (0 : Int) < (n : Int) := by omega
        have hq : ((n : Int) == 1) = (r1 != 0) := by
          rw [Bool.eq_iff_iff, beq_iff_eq, bne_iff_ne, ← h1]; omega
        obtain ⟨q, hqq⟩ : ∃ q, q = (r1 != 0) := ⟨_, rfl⟩
        rw [← hqq] at hq
        have hq2 := hqq.symm
        clear hqq hgr hc hs hN hn hnw hk hkw hsw hst hi0 hi1 hr1 hle h1 hn0
        go_enter Try.func6, Try.ntmps6
        go_wp2_with fail
        refine (AL.out _).mono ?_
        rintro e wa1 ⟨rfl, b⟩
        replace B := B.trans (b.mono B.size); clear b
        go_wp2_with fail
        refine (G.out _ (H.out.below B)).mono ?_
        rintro e w' ⟨rfl, rfl⟩
        go_wp2_with fail
        refine (CT.out _ (H.out.below B)).mono ?_
        rintro e w' ⟨rfl, rfl⟩
        go_wp2_with fail
        refine (T1.out _ (H.out.below B)).mono ?_
        rintro e wa2 ⟨rfl, b⟩
        replace B := B.trans (b.mono B.size); clear b
        go_wp2_with fail
        refine (T2.out _ (H.out.below B)).mono ?_
        rintro e wa3 ⟨rfl, b⟩
        replace B := B.trans (b.mono B.size); clear b
        go_wp2_with fail
        refine (T3.out _ (H.out.below B)).mono ?_
        rintro e wa4 ⟨rfl, b⟩
        replace B := B.trans (b.mono B.size); clear b
        go_upto_region 8 with (fail)
        refine wp_gen (fun Wv => Bx Wv (wa4.heap.size) (60) (#[.int .i64 sw, .int .i64 st]) ∧ Bx Wv (wa4.heap.size + 1) (61) (#[.bool i0, .bool i1]) ∧ Below wa4.heap.size wa4 Wv) ⟨(((Bx.at_ (by simp)).alloc _)), ((Bx.at_ (by simp))), (((Below.refl _ wa4).alloc (by simp <;> omega) _).alloc (by simp <;> omega) _)⟩ ?_
        rintro wa5 ⟨g2, g3, b⟩
        replace B := B.trans (b.mono B.size); clear b
        have c_g2 := g2.cell; have f_g2 := g2.free; have a_g2 := fun o => (g2.alloc o).cell; have d_g2 := fun o o2 => ((g2.alloc o).alloc o2).cell; have e_g2 := fun o => (g2.alloc o).free
        have c_g3 := g3.cell; have f_g3 := g3.free; have a_g3 := fun o => (g3.alloc o).cell; have d_g3 := fun o o2 => ((g3.alloc o).alloc o2).cell; have e_g3 := fun o => (g3.alloc o).free
        cases q
        all_goals
          go_wp2
          go_ret
          exact ⟨rfl, B⟩
      case pos =>
        have hk0 : k = 0 := by rw [hkw, if_pos hn0]
        have rt : Rt l := Rt.of (by rw [← hk]; exact hk0)
        have hr0 : r1 = 0 := by rw [hr1]; exact rt.tw
        have hsN : sw = (N : Int) := by rw [hsw, sW, if_pos rt.tw, hN]
        subst hk0; subst hr0; subst hn0; subst hsN
        obtain ⟨T, hT⟩ : ∃ T, T = T19 l := ⟨_, rfl⟩
        obtain ⟨S, hS⟩ : ∃ S, S = slots l := ⟨_, rfl⟩
        obtain ⟨L, hL⟩ : ∃ L, L = allL l := ⟨_, rfl⟩
        have KT := Lib.hid (fun w h => KTable_any v0 l st T 0 (by rw [hT, hst]; rfl) (by rw [hst]; exact rt.ty.symm) w h)
        have AT := Lib.hid (fun w h => All18_any v0 l S 0 (by rw [hS, all, if_pos rt.sl]) rt.sl.symm w h)
        have WT := Lib.hid (fun w h => AllW_any v0 l L 0 hL rt.al.symm w h)
        have hLn : L.length ≤ 960 := by rw [hL]; exact all_len rt.al
        have hob : ∀ b ∈ L, 0 ≤ b.at_ ∧ b.at_ ≤ 1000000 := fun b hb => by
          rw [hL] at hb
          obtain ⟨x, k1, k2, k3, k4, k5⟩ := all_mem rt.al hb
          have : b.at_ = x := by rw [k4]; rfl
          have := hs.2.1
          omega
        have OT := Lib.hid (fun (v : Value) (a : UInt64) (ho : IsObj (objs L) a.toNat) w h => object19_any v L a ho (by rw [hL]; exact all_uniq rt.al) hob (by omega) w h)
        have hSn : S.length = 16 := by rw [hS]; exact slots_len' rt.sl
        have HRT := Lib.hid (And.intro rt (And.intro hT (And.intro hS hL)))
        have HSN := Lib.hid hSn
        have HLN := Lib.hid hLn
        have hz : ∀ i, i < 16 → l.getD (16 + i) 0 = 0 := fun i hi => by
          by_cases h8 : i < 8
          · exact rt.z16 i h8
          · have := rt.z24 (i - 8) (by omega)
            rwa [show 24 + (i - 8) = 16 + i by omega] at this
        have HZ := Lib.hid hz
        have hs2 : ∀ s ∈ S, s.used = true → IsObj (objs L) s.at_ ∧ 0 ≤ s.at_ ∧ s.at_ ≤ 1000000 := fun s hs' hu => by
          rw [hS] at hs'
          refine ⟨by rw [hL]; exact rt.slots s hs' hu, ?_⟩
          obtain ⟨x, hx, rfl⟩ := List.mem_map.1 hs'
          have := (allR_of rt.sl x hx).2.2.2 hu
          omega
        have HS2 := Lib.hid hs2
        clear hgr hc hs hN hn hnw hk hkw hsw hst hi0 hi1 hr1 hle h1 rt hT hS hL hLn hob hSn hz hs2
        go_enter Try.func6, Try.ntmps6
        go_wp2_with fail
        refine (AL.out _).mono ?_
        rintro e wa1 ⟨rfl, b⟩
        replace B := B.trans (b.mono B.size); clear b
        go_wp2_with fail
        refine (G.out _ (H.out.below B)).mono ?_
        rintro e w' ⟨rfl, rfl⟩
        go_wp2_with fail
        refine (CT.out _ (H.out.below B)).mono ?_
        rintro e w' ⟨rfl, rfl⟩
        go_wp2_with fail
        refine (T1.out _ (H.out.below B)).mono ?_
        rintro e wa2 ⟨rfl, b⟩
        replace B := B.trans (b.mono B.size); clear b
        go_wp2_with fail
        refine (T2.out _ (H.out.below B)).mono ?_
        rintro e wa3 ⟨rfl, b⟩
        replace B := B.trans (b.mono B.size); clear b
        go_wp2_with fail
        refine (T3.out _ (H.out.below B)).mono ?_
        rintro e wa4 ⟨rfl, b⟩
        replace B := B.trans (b.mono B.size); clear b
        go_upto_region 8 with (fail)
        refine wp_gen (fun Wv => Bx Wv (wa4.heap.size) (60) (#[.int .i64 N, .int .i64 st]) ∧ Bx Wv (wa4.heap.size + 1) (61) (#[.bool i0, .bool i1]) ∧ Below wa4.heap.size wa4 Wv) ⟨(((Bx.at_ (by simp)).alloc _)), ((Bx.at_ (by simp))), (((Below.refl _ wa4).alloc (by simp <;> omega) _).alloc (by simp <;> omega) _)⟩ ?_
        rintro wa5 ⟨g2, g3, b⟩
        replace B := B.trans (b.mono B.size); clear b
        have c_g2 := g2.cell; have f_g2 := g2.free; have a_g2 := fun o => (g2.alloc o).cell; have d_g2 := fun o o2 => ((g2.alloc o).alloc o2).cell; have e_g2 := fun o => (g2.alloc o).free
        have c_g3 := g3.cell; have f_g3 := g3.free; have a_g3 := fun o => (g3.alloc o).cell; have d_g3 := fun o o2 => ((g3.alloc o).alloc o2).cell; have e_g3 := fun o => (g3.alloc o).free
        clear g3
        go_wp2_with fail
        refine (KT.out _ (H.out.below B)).mono ?_
        rintro e wa6 ⟨xt, rfl, ot, b⟩
        try clear c_g2 f_g2 a_g2 d_g2 e_g2
        replace g2 := g2.below b; have c_g2 := g2.cell; have f_g2 := g2.free; have a_g2 := fun o => (g2.alloc o).cell; have d_g2 := fun o o2 => ((g2.alloc o).alloc o2).cell; have e_g2 := fun o => (g2.alloc o).free; replace B := B.trans (b.mono B.size); clear b
        go_wp2_with fail
        refine (AT.out _ (H.out.below B)).mono ?_
        rintro e wa7 ⟨xs, E, rfl, os, b⟩
        try clear c_g2 f_g2 a_g2 d_g2 e_g2
        replace g2 := g2.below b; have c_g2 := g2.cell; have f_g2 := g2.free; have a_g2 := fun o => (g2.alloc o).cell; have d_g2 := fun o o2 => ((g2.alloc o).alloc o2).cell; have e_g2 := fun o => (g2.alloc o).free; replace ot := ot.below b; replace B := B.trans (b.mono B.size); clear b
        go_wp2_with fail
        refine (WT.out _ (H.out.below B)).mono ?_
        rintro e wa8 ⟨xl, rfl, ol, b⟩
        try clear c_g2 f_g2 a_g2 d_g2 e_g2
        replace g2 := g2.below b; have c_g2 := g2.cell; have f_g2 := g2.free; have a_g2 := fun o => (g2.alloc o).cell; have d_g2 := fun o o2 => ((g2.alloc o).alloc o2).cell; have e_g2 := fun o => (g2.alloc o).free; replace ot := ot.below b; replace os := os.below b; replace B := B.trans (b.mono B.size); clear b
        have HG0 := Lib.hid (And.intro (Hs.mk ot.rd os.rd ol.rd) B)
        clear ot os ol B
        go_wp2
        clear g2 c_g2 f_g2 a_g2 d_g2 e_g2
        go_loopg [14] 16 (fun gg i wr => ∃ j : Nat, j ≤ 16 ∧ gg = 16 - j ∧ i = .int .i64 j ∧ Hid (Hs wr xt xs xl T S L ∧ Below w.heap.size w wr))
        case atStart => exact ⟨0, by omega, by omega, rfl, HG0⟩
        case round =>
          obtain ⟨j, hj, rfl, rfl, hh⟩ := hrel
          clear HG0
          obtain ⟨rs, B⟩ := hh.out
          by_cases hlt : j < 16
          · obtain ⟨ad, x, ia, ca, hx⟩ := (H.out.below B).atI (P := Try.prog) Try.underlying22 one_u64 (k := 16 + (j : Int)) (by omega) (by have := HS.out.1; have := HNN.out; omega)
            have hx0 : x = 0 := by
              have h1 := HZ.out j hlt
              have h2 := hx.out
              rw [show (16 + (j : Int)).toNat = 16 + j by omega] at h2
              rw [List.getD_eq_getElem?_getD, h2] at h1
              exact h1
            subst hx0
            have hw1 : IntKind.i64.wrap (16 + (j : Int)) = 16 + (j : Int) := IntWalk.i64_in _ (by omega)
            obtain ⟨bb, oo, t, it, m0, m1, m2, ht⟩ := rs.s.at_ (P := Try.prog) Try.underlying64 size_slot (k := j) (by rw [HSN.out]; exact hlt)
            obtain ⟨tg, tu, ta⟩ := t
            dsimp only at m0 m1 m2
            have HT := Lib.hid ht.out
            clear ht hx
            cases tu
            · go_wp2
              go_roundg (16 - (j + 1))
              case measure => omega
              case rel => exact ⟨j + 1, by omega, rfl, by go_num, hh⟩
            · obtain ⟨y0, y1, y2⟩ := HS2.out _ (List.mem_of_getElem? HT.out) rfl
              dsimp only at y0 y1 y2
              obtain ⟨a, ha⟩ : ∃ a : UInt64, ta = (a.toNat : Int) := ⟨UInt64.ofNat ta.toNat, by
                rw [UInt64.toNat_ofNat_of_lt' (by show ta.toNat < 18446744073709551616; omega)]; omega⟩
              subst ha
              have hwa : IntKind.u64.wrap (a.toNat : Int) = (a.toNat : Int) := by rw [wrap_u64]; omega
              have OO := Lib.hid (fun w h => OT.out xl a y0 w h)
              clear y0 y1 y2
              go_wp2_with fail
              refine (OO.out _ rs.b).mono ?_
              rintro e w' ⟨rfl, rfl⟩
              go_wp2
              go_roundg (16 - (j + 1))
              case measure => omega
              case rel => exact ⟨j + 1, by omega, rfl, by go_num, hh⟩
          · obtain rfl : j = 16 := by omega
            obtain ⟨M, hM⟩ : ∃ M, M = L.length := ⟨_, rfl⟩
            have HM := Lib.hid hM
            have hM9 : M ≤ 960 := by rw [hM]; exact HLN.out
            clear hM rs B
            go_wp2
            go_loopg [15] M (fun gg i wx => ∃ j : Nat, j ≤ M ∧ gg = M - j ∧ i = .int .i64 j ∧ Hid (Hs wx xt xs xl T S L ∧ Below w.heap.size w wx))
            case atStart => exact ⟨0, by omega, by omega, rfl, hh⟩
            case round =>
              obtain ⟨j, hj, rfl, rfl, hh2⟩ := hrel
              clear hh
              obtain ⟨rs, B⟩ := hh2.out
              have lo := rs.b.len
              rw [← HM.out] at lo
              by_cases hlt : j < M
              · obtain ⟨bb, oo, b, ia, m0, m1, m2, m3, m4, m5, hb, _⟩ := rs.b.at_ (k := j) (by rw [← HM.out]; exact hlt)
                have hbL := List.mem_of_getElem? hb.out
                by_cases hk : b.kind = 2
                · have k1 : (b.kind == 2) = true := by rw [beq_iff_eq]; exact hk
                  clear hb hbL hk
                  go_upto_region 26 with (fail)
                  refine wp_gen (fun Wv => Bx Wv (wr.heap.size) (38) (#[.int .i64 b.at_, .int .i64 b.size, .int .i64 b.kind, .int .i64 b.ty, .bool b.mark, .int .u64 b.next.toNat]) ∧ Below wr.heap.size wr Wv) ⟨((Bx.at_ (by simp))), ((Below.refl _ wr).alloc (by simp <;> omega) _)⟩ ?_
                  rintro wa9 ⟨g2, b⟩
                  replace rs := rs.below b; replace B := B.trans (b.mono B.size); clear b
                  have c_g2 := g2.cell; have f_g2 := g2.free; have a_g2 := fun o => (g2.alloc o).cell; have d_g2 := fun o o2 => ((g2.alloc o).alloc o2).cell; have e_g2 := fun o => (g2.alloc o).free
                  have HG := Lib.hid (And.intro rs B)
                  go_wp2
                  go_roundg (M - (j + 1))
                  case measure => omega
                  case rel => exact ⟨j + 1, by omega, rfl, by go_num, HG⟩
                · have k1 : (b.kind == 2) = false := by rw [beq_eq_false_iff_ne]; exact hk
                  obtain ⟨rt, hT, hS, hL⟩ := HRT.out
                  have hbO : b ∈ O19 l := by
                    rw [hL] at hbL
                    refine objs_mem.2 ⟨hbL, ?_⟩
                    obtain ⟨x, _, _, hst, h4, _⟩ := all_mem rt.al hbL
                    have hok := stand_ok hst
                    rw [← h4] at hok
                    rcases hok.2 with h | h
                    · exact h.1
                    · exact absurd h.1 hk
                  have hid : Idle b := rt.good 7 (by omega) (by omega) b hbO
                  have hty : Typed T b := by rw [hT]; exact rt.good 8 (by omega) (by omega) b hbO
                  have hrf : RefsB l T (objs L) b := by rw [hT, hL]; exact rt.good 11 (by omega) (by omega) b hbO
                  obtain ⟨a, q, t, ha, hq, hTq, hkB, _, hle, _⟩ := in_kinds (in19_of rt.al hbO) hty
                  have hqT := (List.getElem?_eq_some_iff.1 hTq).1
                  obtain ⟨ad, x, t', it, m6, ht', hx⟩ := rs.t.at_ (k := q) hqT
                  obtain rfl : t' = t := by have := ht'.out; rw [hTq] at this; injection this with this; exact this.symm
                  have hkE : kErr t' = 0 := by rw [hT] at hTq; exact (T19_ok rt.ty).2 t' (List.mem_of_getElem? hTq)
                  obtain ⟨n, hn⟩ : ∃ n, n = t'.length := ⟨_, rfl⟩
                  obtain ⟨NT, hNT⟩ : ∃ n, n = T.length := ⟨_, rfl⟩
                  have lT := rs.t.len
                  rw [← hNT] at lT hqT
                  have hsz : b.size = kSize t' := by rw [hty.2, hkB, kSize, if_pos hkE]
                  have KS := Lib.hid (fun w h => KSize_any x t' b.size 0 hsz hkE.symm w h)
                  have hrf' : ∀ i, i < n → (t'.getD i 0).toNat = 3 → (l.getD (a + 2 + i) 0 = 0 ∨ IsObj (objs L) (l.getD (a + 2 + i) 0).toNat) := fun i hi h3 => by
                    have := hrf i (by rw [hkB, ← hn]; exact hi) (by rw [hkB]; exact h3)
                    have hfw : fw l b i = l.getD (a + 2 + i) 0 := by unfold fw; rw [ha, Int.toNat_natCast]
                    rwa [hfw] at this
                  have HRF := Lib.hid hrf'
                  have lx := Rd.len hx.out Try.underlying44
                  rw [← hn] at lx hle
                  have HX := hx; have HNT := Lib.hid hn; have HLE := Lib.hid hle
                  obtain ⟨hid1, hid2⟩ := hid
                  obtain ⟨at_, size, kind, ty, mark, next⟩ := b
                  dsimp only at *
                  subst ha; subst hq; subst hid1; subst hid2
                  have hal : a ≤ 100000 ∧ n ≤ 100000 := by have := HS.out.2.1; omega
                  obtain ⟨hal1, hal2⟩ := hal
                  have hw1 : IntKind.i64.wrap ((a : Int) + 2) = (a : Int) + 2 := IntWalk.i64_in _ (by omega)
                  have n1 : decide ((NT : Int) ≤ (q : Int)) = false := decide_eq_false (by omega)
                  have n2 : decide (NT ≤ q) = false := decide_eq_false (by omega)
                  have hq0 : q < NT := hqT
                  have HQT := Lib.hid (And.intro hTq hNT)
                  clear hb hbL hk rt hT hS hL hbO hty hrf hTq hkB hle ht' hkE hn hNT hsz hrf' hx hqT
                  have B1 : Below wr.heap.size wr wr := Below.refl _ _
                  go_upto_region 26 with (fail)
                  refine wp_gen (fun Wv => Bx Wv (wr.heap.size) (38) (#[.int .i64 a, .int .i64 size, .int .i64 kind, .int .i64 q, .bool false, .int .u64 0]) ∧ Below wr.heap.size wr Wv) ⟨((Bx.at_ (by simp))), ((Below.refl _ wr).alloc (by simp <;> omega) _)⟩ ?_
                  rintro wa10 ⟨g2, b⟩
                  replace rs := rs.below b; replace m6 := cell_later b m6; replace B1 := B1.trans (b.mono B1.size); replace B := B.trans (b.mono B.size); clear b
                  have c_g2 := g2.cell; have f_g2 := g2.free; have a_g2 := fun o => (g2.alloc o).cell; have d_g2 := fun o o2 => ((g2.alloc o).alloc o2).cell; have e_g2 := fun o => (g2.alloc o).free
                  go_wp2_with fail
                  refine (KS.out _ (Byts.below HX.out B1)).mono ?_
                  rintro e w' ⟨rfl, rfl⟩
                  have HG := Lib.hid (And.intro rs (And.intro g2 (And.intro B B1)))
                  go_wp2
                  clear rs g2 B B1 c_g2 f_g2 a_g2 d_g2 e_g2 m6 it lx
                  go_loopg [19] n (fun gg i wx => ∃ k : Nat, k ≤ n ∧ gg = n - k ∧ i = .int .i64 k ∧ Hid (Hs wx xt xs xl T S L ∧ Bx wx wr.heap.size 38 #[.int .i64 a, .int .i64 size, .int .i64 kind, .int .i64 q, .bool false, .int .u64 0] ∧ Below w.heap.size w wx ∧ Below wr.heap.size wr wx))
                  case atStart => exact ⟨0, by omega, by omega, rfl, HG⟩
                  case round =>
                    obtain ⟨k, hkn, rfl, rfl, hh3⟩ := hrel
                    clear HG hh2
                    obtain ⟨rs, g2, B, B1⟩ := hh3.out
                    have c_g2 := g2.cell
                    obtain ⟨ad, x, t2, it, m6, ht', hx⟩ := rs.t.at_ (k := q) (by rw [← HQT.out.2]; exact hq0)
                    obtain rfl : t2 = t' := by have := ht'.out; rw [HQT.out.1] at this; injection this with this; exact this.symm
                    obtain ⟨xA, xn, xc, rfl⟩ : ∃ A n c, x = .slice A n c := by obtain ⟨A, c, e, _⟩ := hx.out; exact ⟨A, _, c, e⟩
                    have lx2 := Rd.len hx.out Try.underlying44
                    rw [← HNT.out] at lx2
                    by_cases hlk : k < n
                    · obtain ⟨ak, kd, ik, mk, hkd⟩ := hx.out.at_ (P := Try.prog) Try.underlying44 one_u8 (k := k) (by rw [← HNT.out]; exact hlk)
                      have hgk : t2.getD k 0 = kd := by rw [List.getD_eq_getElem?_getD, hkd.out]; rfl
                      obtain ⟨ad2, y, iy, m2, hy⟩ := (H.out.below B).at_ (P := Try.prog) Try.underlying22 one_u64 (k := a + 2 + k) (by have := HLE.out; omega)
                      have iy2 : ∀ W, (Instr.indexAt 22 v0 (.int .i64 ((a : Int) + 2 + (k : Int)))).run Try.prog W = .ok (.pointer (some ad2)) W := iy
                      have hgy : l.getD (a + 2 + k) 0 = y := by rw [List.getD_eq_getElem?_getD, hy.out]; rfl
                      have hw2 : IntKind.i64.wrap ((a : Int) + 2 + (k : Int)) = (a : Int) + 2 + (k : Int) := IntWalk.i64_in _ (by omega)
                      by_cases hk3 : kd.toNat = 3
                      · have hk4 : ((kd.toNat : Int) == 3) = true := by rw [beq_iff_eq]; omega
                        have hyy := HRF.out k hlk (by rw [hgk]; exact hk3)
                        rw [hgy] at hyy
                        by_cases hy0 : y = 0
                        · have e0 : ((y.toNat : Int) != 0) = false := by rw [hy0]; rfl
                          clear hyy hgy hgk hy0 hy hkd hk3 iy
                          go_wp2
                          go_roundg (n - (k + 1))
                          case measure => omega
                          case rel => exact ⟨k + 1, by omega, rfl, by go_num, hh3⟩
                        · have e0 : ((y.toNat : Int) != 0) = true := by rw [bne_iff_ne]; intro e; exact hy0 (UInt64.toNat.inj (by simp; omega))
                          have OO := Lib.hid (fun w h => OT.out xl y (hyy.resolve_left hy0) w h)
                          clear hyy hgy hgk hy0 hy hkd hk3 iy
                          go_wp2_with fail
                          refine (OO.out _ rs.b).mono ?_
                          rintro e w' ⟨rfl, rfl⟩
                          go_wp2
                          go_roundg (n - (k + 1))
                          case measure => omega
                          case rel => exact ⟨k + 1, by omega, rfl, by go_num, hh3⟩
                      · have hk4 : ((kd.toNat : Int) == 3) = false := by rw [beq_eq_false_iff_ne]; omega
                        clear hgy hgk hy hkd hk3 iy
                        go_wp2
                        go_roundg (n - (k + 1))
                        case measure => omega
                        case rel => exact ⟨k + 1, by omega, rfl, by go_num, hh3⟩
                    · obtain rfl : k = n := by omega
                      have HG2 := Lib.hid (And.intro rs B)
                      go_wp2
                      go_roundg (M - (j + 1))
                      case measure => omega
                      case rel => exact ⟨j + 1, by omega, rfl, by go_num, HG2⟩
              · obtain rfl : j = M := by omega
                go_wp2
                go_ret
                exact ⟨rfl, B⟩
end Go.Proofs.Ytbfmdbeeiicabaa
