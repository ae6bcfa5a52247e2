/- Contracts of the functions that the laws 'N' reach, part 11. No condition. -/
import Derived.Test.YtodbbacmdjcheaaMNj
set_option linter.unusedVariables false
set_option linter.unusedSimpArgs false
namespace Go.Proofs.Ytodbbacmdjcheaa
open Go.RowKit L01 L02 L05 L07 L13 L14 L15 L18 L19
theorem OwnT.apart {w : World} {B p i : Nat} {v u : Value} {L : List (List UInt8)} (h : OwnT w B v L) (hp : p < B) : OwnT (w.setCell ⟨p, i, none⟩ u) B v L := by
  obtain ⟨vs, a1, a2, a4⟩ := h
  exact ⟨vs, a1, own_apart a2 hp, fun i x l h5 h6 => own_apart (a4 i x l h5 h6) hp⟩
theorem OwnT.mid {w w' : World} {lo : Nat} {v : Value} {L : List (List UInt8)} (h : OwnT w lo v L) (hm : Mid lo w.heap.size w w') : OwnT w' lo v L := by
  obtain ⟨vs, a1, a2, a4⟩ := h
  exact ⟨vs, a1, own_mid a2 hm, fun i x l h5 h6 => own_mid (a4 i x l h5 h6) hm⟩
theorem OwnT.up {w : World} {base base' : Nat} {v : Value} {L : List (List UInt8)} (h : OwnT w base v L) (hb : base' ≤ base) : OwnT w base' v L := by
  obtain ⟨vs, h1, h2, h4⟩ := h; exact ⟨vs, h1, own_mono h2 hb, fun i x l h5 h6 => own_mono (h4 i x l h5 h6) hb⟩
theorem OwnT.form {w : World} {B : Nat} {v : Value} {L : List (List UInt8)} (h : OwnT w B v L) : ∃ A n c, v = .slice A n c := by
  obtain ⟨_, _, h2, _⟩ := h
  obtain ⟨A, c, e, _⟩ := Rd.of_own h2; exact ⟨A, _, c, e⟩
theorem row_form {w : World} {B e sz n : Nat} {v : Value} {xs : List Value} (h : w.ownsRow B e sz v n xs) : ∃ A n c, v = .slice A n c := by
  obtain ⟨A, c, e, _⟩ := Rd.of_own h; exact ⟨A, _, c, e⟩
/-- the blocks that the walk of parts has made stay -/
structure MidS (lo : Nat) (ws w : World) : Prop where
  m : Mid lo ws.heap.size ws w
  z : ws.heap.size ≤ w.heap.size
theorem MidS.below {lo : Nat} {ws w w' : World} (h : MidS lo ws w) (hb : Below w.heap.size w w') : MidS lo ws w' := ⟨h.m.below h.z hb, Nat.le_trans h.z hb.size⟩
theorem MidS.grown {lo : Nat} {ws w w' : World} {row : Option Nat} (h : MidS lo ws w) (hg : w.grownBy w' row) (hr : ∀ k, row = some k → k < lo ∨ ws.heap.size ≤ k) : MidS lo ws w' := ⟨h.m.grown h.z hg hr, Nat.le_trans h.z hg.size⟩
theorem MidS.set {lo : Nat} {ws w : World} (h : MidS lo ws w) {p : Addr} (hp : p.block < lo) (u : Value) : MidS lo ws (w.setCell p u) := ⟨h.m.set (.inl hp) u, by simpa [World.setCell] using h.z⟩
/-- what is known while parts fills its result -/
structure SgO (W : World) (base lo : Nat) (v tv sv bv : Value) (E pm nm : Nat) (l : List UInt64) (T : List (List UInt8)) (S : List Sl) (O : List Hb) (w0 : World) : Prop where
  b : Below w0.heap.size w0 W
  t : OwnT W lo tv T
  s : W.ownsRow lo E 3 sv S.length (tabL S)
  k : OwnK W base bv O
  kn : bv.ownBlock ≠ some w0.heap.size
  m : MapL Try.prog 3 4 (.bool false) W pm nm (fun a => .bool (decide (IsObj O a)))
theorem SgO.set {W w0 : World} {base lo E pm nm i : Nat} {v tv sv bv u : Value} {l : List UInt64} {T : List (List UInt8)} {S : List Sl} {O : List Hb} (h : SgO W base lo v tv sv bv E pm nm l T S O w0) (hp : w0.heap.size < lo) (hm : w0.heap.size ≠ pm) : SgO (W.setCell ⟨w0.heap.size, i, none⟩ u) base lo v tv sv bv E pm nm l T S O w0 :=
  ⟨h.b.setCell (p := ⟨w0.heap.size, i, none⟩) (Nat.le_refl _) _, h.t.apart hp, own_apart h.s hp, World.ownsRow.kept h.k (grown_set _ ⟨w0.heap.size, i, none⟩ u) (.inr h.kn), h.kn, h.m.kept (grown_set _ ⟨w0.heap.size, i, none⟩ u) (by intro e; injection e with e; exact hm e.symm)⟩
theorem SgO.sg {W w0 : World} {base lo E pm nm : Nat} {v tv sv bv : Value} {l : List UInt64} {T : List (List UInt8)} {S : List Sl} {O : List Hb} (h : SgO W base lo v tv sv bv E pm nm l T S O w0) (hw : Words w0 v l) : Sg W v tv sv bv pm nm l T S O :=
  ⟨hw.below h.b, h.t.rd, Rd.of_own h.s, h.k.rd, h.m⟩
theorem objs_snoc {L : List Hb} {b : Hb} : objs (L ++ [b]) = objs L ++ (if b.kind = 1 then [b] else []) := by
  unfold objs
  rw [List.filter_append]
  by_cases h : b.kind = 1 <;> simp [h]
theorem isObj_snoc {L : List Hb} {b : Hb} {a : Int} : IsObj (L ++ [b]) a ↔ a = b.at_ ∨ IsObj L a := by
  constructor
  · rintro ⟨c, hc, e⟩
    rcases List.mem_append.1 hc with hc | hc
    · exact .inr ⟨c, hc, e⟩
    · rw [List.mem_singleton] at hc; subst hc; exact .inl e.symm
  · rintro (e | ⟨c, hc, e⟩)
    · exact ⟨b, by simp, e.symm⟩
    · exact ⟨c, List.mem_append_left _ hc, e⟩
set_option maxRecDepth 100000 in
set_option maxHeartbeats 8000000 in
theorem parts_any (v : Value) (l : List UInt64) (hs : SizeOk l.length) (r : Nat) (hr : r = why6 l) (w : World) (h : Words w v l) :
    Calls Try.prog 74 #[v] w fun e w' => ∃ a b c d m, e = .returned (.tuple #[.agg #[a, b, c, d, m], .int .i64 r]) ∧ (r = 0 → a = v ∧ ∃ g n, m = .map (some g) ∧ Sg w' v b c d g n l (T19 l) (slots l) (O19 l)) ∧ (r ≠ 0 → a = .slice none 0 0 ∧ b = .slice none 0 0 ∧ c = .slice none 0 0 ∧ d = .slice none 0 0 ∧ m = .map none) ∧ Below w.heap.size w w' := by
  have B : Below w.heap.size w w := Below.refl _ _
  obtain ⟨vA, vn, vc, rfl⟩ : ∃ A n c, v = .slice A n c := by obtain ⟨A, c, e, _⟩ := h; exact ⟨A, _, c, e⟩
  have H := Lib.hid h
  have hmm := @run_makeMap Try.prog
  obtain ⟨hn1, hn2, hn3⟩ := hs
  obtain ⟨sw, hsw⟩ : ∃ x, x = sW l := ⟨_, rfl⟩
  obtain ⟨st, hst⟩ : ∃ x, x = sT l := ⟨_, rfl⟩
  obtain ⟨i0, hi0⟩ : ∃ x, x = is0 l := ⟨_, rfl⟩
  obtain ⟨i1, hi1⟩ : ∃ x, x = is1 l := ⟨_, rfl⟩
  obtain ⟨r1, hr1⟩ : ∃ x, x = rErr l := ⟨_, rfl⟩
  have TT := Lib.hid (fun w h => TRead_any (.slice vA vn vc) l sw st i0 i1 r1 hsw hst hi0 hi1 hr1 w h)
  obtain ⟨z1, hz1⟩ : ∃ x, x = decide (Zr l 16) := ⟨_, rfl⟩
  obtain ⟨z2, hz2⟩ : ∃ x, x = decide (Zr l 24) := ⟨_, rfl⟩
  have Z1 : Hid (∀ w, Words w (.slice vA vn vc) l → Calls Try.prog 92 #[(.slice vA vn vc), .int .i64 16] w fun e w' => e = .returned (.bool z1) ∧ w = w') := Lib.hid (fun w h => zero19_any (.slice vA vn vc) l 16 z1 hz1 (by omega) (by omega) w h)
  have Z2 : Hid (∀ w, Words w (.slice vA vn vc) l → Calls Try.prog 92 #[(.slice vA vn vc), .int .i64 24] w fun e w' => e = .returned (.bool z2) ∧ w = w') := Lib.hid (fun w h => zero19_any (.slice vA vn vc) l 24 z2 hz2 (by omega) (by omega) w h)
  obtain ⟨T, hT⟩ : ∃ T, T = T19 l := ⟨_, rfl⟩
  obtain ⟨r4, hr4⟩ : ∃ x, x = tabErr l (sT l) := ⟨_, rfl⟩
  have KT := Lib.hid (fun w h => KTable_any (.slice vA vn vc) l st T r4 (by rw [hT, hst]; rfl) (by rw [hr4, hst]) w h)
  obtain ⟨S, hS⟩ : ∃ S, S = all l := ⟨_, rfl⟩
  obtain ⟨r5, hr5⟩ : ∃ x, x = openErr l := ⟨_, rfl⟩
  have AT := Lib.hid (fun w h => All18_any (.slice vA vn vc) l S r5 hS hr5 w h)
  obtain ⟨L, hL⟩ : ∃ L, L = allL l := ⟨_, rfl⟩
  obtain ⟨r6, hr6⟩ : ∃ x, x = allErr l := ⟨_, rfl⟩
  have WT := Lib.hid (fun w h => AllW_any (.slice vA vn vc) l L r6 hL hr6 w h)
  have HR : Hid (r = if r1 ≠ 0 then 1 else if z1 = false then 2 else if z2 = false then 3 else if r4 ≠ 0 then 4 else if r5 ≠ 0 then 5 else if r6 ≠ 0 then 6 else 0) := Lib.hid (by
    rw [hr, why6, hr1, hr4, hr5, hr6]
    by_cases c1 : Zr l 16 <;> by_cases c2 : Zr l 24 <;> simp [hz1, hz2, c1, c2])
  have HF := Lib.hid (And.intro hT (And.intro hL (show (r5 = 0) → S = slots l from fun e => by rw [hS, all, ← hr5, if_pos e])))
  have HNN := Lib.hid (show r6 = 0 → ∀ b ∈ L, i64Ok b.at_ from fun e b hb => by
    rw [hL] at hb
    obtain ⟨a, h1, h2, _, h4, _⟩ := all_mem (hr6 ▸ e) hb
    rw [h4, stand_at]
    exact ⟨by omega, by omega⟩)
  have HLN := Lib.hid (show r6 = 0 → L.length ≤ 960 from fun e => by rw [hL]; exact all_len (hr6 ▸ e))
  clear hr hsw hst hi0 hi1 hr1 hz1 hz2 hT hr4 hS hr5 hL hr6 h hn1 hn2 hn3
  go_enter Try.func74, Try.ntmps74
  go_upto_region 1 with (fail)
  refine wp_gen (fun Wv => Bx Wv (w.heap.size) (155) (#[.slice none 0 0, .slice none 0 0, .slice none 0 0, .slice none 0 0, .map none]) ∧ Below w.heap.size w Wv) ⟨((Bx.at_ (by simp))), ((Below.refl _ w).alloc (by simp <;> omega) _)⟩ ?_
  rintro wa1 ⟨g1, b⟩
  replace B := B.trans (b.mono B.size); clear b
  have c_g1 := g1.cell; have f_g1 := g1.free; have a_g1 := fun o => (g1.alloc o).cell; have d_g1 := fun o o2 => ((g1.alloc o).alloc o2).cell; have e_g1 := fun o => (g1.alloc o).free
  go_wp2_with fail
  refine (TT.out _ (H.out.below B)).mono ?_
  rintro e wa2 ⟨rfl, b⟩
  try clear c_g1 f_g1 a_g1 d_g1 e_g1
  replace g1 := g1.below b; have c_g1 := g1.cell; have f_g1 := g1.free; have a_g1 := fun o => (g1.alloc o).cell; have d_g1 := fun o o2 => ((g1.alloc o).alloc o2).cell; have e_g1 := fun o => (g1.alloc o).free; replace B := B.trans (b.mono B.size); clear b
  go_upto_region 2 with (fail)
  refine wp_gen (fun Wv => Bx Wv (wa2.heap.size) (80) (#[.int .i64 sw, .int .i64 st]) ∧ Bx Wv (wa2.heap.size + 1) (95) (#[.bool i0, .bool i1]) ∧ Below wa2.heap.size wa2 Wv) ⟨(((Bx.at_ (by simp)).alloc _)), ((Bx.at_ (by simp))), (((Below.refl _ wa2).alloc (by simp <;> omega) _).alloc (by simp <;> omega) _)⟩ ?_
  rintro wa3 ⟨g2, g3, b⟩
  try clear c_g1 f_g1 a_g1 d_g1 e_g1
  replace g1 := g1.below b; have c_g1 := g1.cell; have f_g1 := g1.free; have a_g1 := fun o => (g1.alloc o).cell; have d_g1 := fun o o2 => ((g1.alloc o).alloc o2).cell; have e_g1 := fun o => (g1.alloc o).free; replace B := B.trans (b.mono B.size); clear b
  have c_g2 := g2.cell; have f_g2 := g2.free; have a_g2 := fun o => (g2.alloc o).cell; have d_g2 := fun o o2 => ((g2.alloc o).alloc o2).cell; have e_g2 := fun o => (g2.alloc o).free
  have c_g3 := g3.cell; have f_g3 := g3.free; have a_g3 := fun o => (g3.alloc o).cell; have d_g3 := fun o o2 => ((g3.alloc o).alloc o2).cell; have e_g3 := fun o => (g3.alloc o).free
  by_cases h1 : r1 = 0
  case neg =>
    have n1 : (r1 != 0) = true := by rw [bne_iff_ne]; exact h1
    have hr0 : r = 1 := by rw [HR.out, if_pos h1]
    subst hr0
    go_wp2
    refine bodyPost_ret (v := .tuple #[.agg #[.slice none 0 0, .slice none 0 0, .slice none 0 0, .slice none 0 0, .map none], .int .i64 1]) (by simp [results, Try.results74, go_sem, c_g1, f_g1, a_g1, e_g1, c_g2, f_g2, a_g2, e_g2, c_g3, f_g3, a_g3, e_g3]) rfl ?_
    refine ⟨_, _, _, _, _, rfl, fun e => by omega, fun _ => ⟨rfl, rfl, rfl, rfl, rfl⟩, ?_⟩
    (repeat (first | refine Below.setCell ?_ (by first | exact Nat.le_refl _ | (simp <;> omega)) _ | refine Below.alloc ?_ (by first | exact B.size | (have := B.size; simp <;> omega)) _)); exact B
  case pos =>
    subst h1
    go_upto_region 4 with (fail)
    go_wp2_with fail
    refine (Z1.out _ (H.out.below B)).mono ?_
    rintro e w' ⟨rfl, rfl⟩
    cases z1
    · have hr0 : r = 2 := by rw [HR.out]; simp
      subst hr0
      go_wp2
      refine bodyPost_ret (v := .tuple #[.agg #[.slice none 0 0, .slice none 0 0, .slice none 0 0, .slice none 0 0, .map none], .int .i64 2]) (by simp [results, Try.results74, go_sem, c_g1, f_g1, a_g1, e_g1, c_g2, f_g2, a_g2, e_g2, c_g3, f_g3, a_g3, e_g3]) rfl ?_
      refine ⟨_, _, _, _, _, rfl, fun e => by omega, fun _ => ⟨rfl, rfl, rfl, rfl, rfl⟩, ?_⟩
      (repeat (first | refine Below.setCell ?_ (by first | exact Nat.le_refl _ | (simp <;> omega)) _ | refine Below.alloc ?_ (by first | exact B.size | (have := B.size; simp <;> omega)) _)); exact B
    · go_wp2_with fail
      refine (Z2.out _ (H.out.below B)).mono ?_
      rintro e w' ⟨rfl, rfl⟩
      cases z2
      · have hr0 : r = 3 := by rw [HR.out]; simp
        subst hr0
        go_wp2
        refine bodyPost_ret (v := .tuple #[.agg #[.slice none 0 0, .slice none 0 0, .slice none 0 0, .slice none 0 0, .map none], .int .i64 3]) (by simp [results, Try.results74, go_sem, c_g1, f_g1, a_g1, e_g1, c_g2, f_g2, a_g2, e_g2, c_g3, f_g3, a_g3, e_g3]) rfl ?_
        refine ⟨_, _, _, _, _, rfl, fun e => by omega, fun _ => ⟨rfl, rfl, rfl, rfl, rfl⟩, ?_⟩
        (repeat (first | refine Below.setCell ?_ (by first | exact Nat.le_refl _ | (simp <;> omega)) _ | refine Below.alloc ?_ (by first | exact B.size | (have := B.size; simp <;> omega)) _)); exact B
      · have hz3 := B.size
        have hp1 := g1.lt; have hp2 := g2.lt
        go_upto_region 9 with (fail)
        refine wp_gen (fun V => Bx V w.heap.size 155 #[.slice none 0 0, .slice none 0 0, .slice none 0 0, .slice none 0 0, .map none] ∧ Bx V wa2.heap.size 80 #[.int .i64 sw, .int .i64 st] ∧ Bx V (wa3.heap.size + 1) 155 #[(.slice vA vn vc), .slice none 0 0, .slice none 0 0, .slice none 0 0, .map (some wa3.heap.size)] ∧ MapL Try.prog 3 4 (.bool false) V wa3.heap.size 0 (fun _ => .bool false) ∧ Below w.heap.size w V)
          ⟨(g1.alloc _).alloc _, (g2.alloc _).alloc _, Bx.at_ (by simp), (MapL.made wa3).below ((Below.refl _ _).alloc (Nat.le_refl _) _), (B.alloc hz3 _).alloc (by simp; omega) _⟩ ?_
        clear B g1 g2 g3 c_g1 f_g1 a_g1 d_g1 e_g1 c_g2 f_g2 a_g2 d_g2 e_g2 c_g3 f_g3 a_g3 d_g3 e_g3
        rintro wb ⟨g1, g2, g4, mp, B⟩
        have hlb : w.heap.size < wa3.heap.size ∧ wa2.heap.size < wa3.heap.size + 1 ∧ wa3.heap.size + 1 < wb.heap.size := ⟨hp1, by have := hp2; omega, g4.lt⟩
        obtain ⟨hq1, hq2, hq3⟩ := hlb
        generalize wa3.heap.size = pm at *
        generalize wa2.heap.size = ps at *
        have c_g1 := g1.cell; have c_g2 := g2.cell; have c_g4 := g4.cell
        have B1 : Below wb.heap.size wb wb := Below.refl _ _
        obtain ⟨lo, hlo⟩ : ∃ lo, lo = wb.heap.size := ⟨_, rfl⟩
        go_wp2_with fail
        refine (KT.out _ (H.out.below B)).mono ?_
        rintro e wa4 ⟨xt, rfl, ot, b⟩
        try clear c_g1 f_g1 a_g1 d_g1 e_g1
        replace g1 := g1.below b; have c_g1 := g1.cell; have f_g1 := g1.free; have a_g1 := fun o => (g1.alloc o).cell; have d_g1 := fun o o2 => ((g1.alloc o).alloc o2).cell; have e_g1 := fun o => (g1.alloc o).free; try clear c_g2 f_g2 a_g2 d_g2 e_g2
        replace g2 := g2.below b; have c_g2 := g2.cell; have f_g2 := g2.free; have a_g2 := fun o => (g2.alloc o).cell; have d_g2 := fun o o2 => ((g2.alloc o).alloc o2).cell; have e_g2 := fun o => (g2.alloc o).free; try clear c_g4 f_g4 a_g4 d_g4 e_g4
        replace g4 := g4.below b; have c_g4 := g4.cell; have f_g4 := g4.free; have a_g4 := fun o => (g4.alloc o).cell; have d_g4 := fun o o2 => ((g4.alloc o).alloc o2).cell; have e_g4 := fun o => (g4.alloc o).free; replace mp := mp.below b; replace B1 := B1.trans (b.mono B1.size); replace B := B.trans (b.mono B.size); clear b
        obtain ⟨tA, tn, tc, rfl⟩ := ot.form
        go_upto_region 10 with (fail)
        have hB1 := B1.size
        rw [← hlo] at ot hq3 hB1
        refine wp_gen (fun V => Bx V w.heap.size 155 #[.slice none 0 0, .slice none 0 0, .slice none 0 0, .slice none 0 0, .map none] ∧ Bx V (pm + 1) 155 #[.slice vA vn vc, .slice tA tn tc, .slice none 0 0, .slice none 0 0, .map (some pm)] ∧ MapL Try.prog 3 4 (.bool false) V pm 0 (fun _ => .bool false) ∧ OwnT V lo (.slice tA tn tc) T ∧ Below w.heap.size w V ∧ lo ≤ V.heap.size)
          ⟨g1.far (p := ⟨pm + 1, 1, none⟩) (by show _ ≠ pm + 1; omega) _, g4.set (i := 1) _, mp.kept (grown_set _ ⟨pm + 1, 1, none⟩ _) (by intro e; injection e with e; have : pm = pm + 1 := e; omega), ot.apart hq3, B.setCell (p := ⟨pm + 1, 1, none⟩) (by show w.heap.size ≤ pm + 1; omega) _, by simpa [World.setCell] using hB1⟩ ?_
        clear B B1 g1 g2 g4 mp ot c_g1 f_g1 a_g1 d_g1 e_g1 c_g2 f_g2 a_g2 d_g2 e_g2 c_g4 f_g4 a_g4 d_g4 e_g4 hB1
        rintro wc ⟨g1, g4, mp, ot, B, hlc⟩
        have c_g1 := g1.cell; have c_g4 := g4.cell; have f_g1 := g1.free
        by_cases h4 : r4 = 0
        case neg =>
          have n1 : (r4 != 0) = true := by rw [bne_iff_ne]; exact h4
          have hr0 : r = 4 := by rw [HR.out]; simp [h4]
          subst hr0
          go_wp2
          refine bodyPost_ret (v := .tuple #[.agg #[.slice none 0 0, .slice none 0 0, .slice none 0 0, .slice none 0 0, .map none], .int .i64 4]) (by simp [results, Try.results74, go_sem, c_g1, f_g1]) rfl ?_
          refine ⟨_, _, _, _, _, rfl, fun e => by omega, fun _ => ⟨rfl, rfl, rfl, rfl, rfl⟩, ?_⟩
          (repeat (first | refine Below.setCell ?_ (by first | exact Nat.le_refl _ | (simp <;> omega)) _ | refine Below.alloc ?_ (by first | exact B.size | (have := B.size; simp <;> omega)) _)); exact B
        case pos =>
          subst h4
          go_upto_region 12 with (fail)
          have B1 : Below wc.heap.size wc wc := Below.refl _ _
          go_wp2_with fail
          refine (AT.out _ (H.out.below B)).mono ?_
          rintro e wa5 ⟨xs, E, rfl, os, b⟩
          try clear c_g1 f_g1 a_g1 d_g1 e_g1
          replace g1 := g1.below b; have c_g1 := g1.cell; have f_g1 := g1.free; have a_g1 := fun o => (g1.alloc o).cell; have d_g1 := fun o o2 => ((g1.alloc o).alloc o2).cell; have e_g1 := fun o => (g1.alloc o).free; try clear c_g4 f_g4 a_g4 d_g4 e_g4
          replace g4 := g4.below b; have c_g4 := g4.cell; have f_g4 := g4.free; have a_g4 := fun o => (g4.alloc o).cell; have d_g4 := fun o o2 => ((g4.alloc o).alloc o2).cell; have e_g4 := fun o => (g4.alloc o).free; replace mp := mp.below b; replace ot := ot.below b; replace B1 := B1.trans (b.mono B1.size); replace B := B.trans (b.mono B.size); clear b
          obtain ⟨sA, sn, sc, rfl⟩ := row_form os
          go_upto_region 13 with (fail)
          have hB1 := B1.size
          have os' := own_mono os hlc
          refine wp_gen (fun V => Bx V w.heap.size 155 #[.slice none 0 0, .slice none 0 0, .slice none 0 0, .slice none 0 0, .map none] ∧ Bx V (pm + 1) 155 #[.slice vA vn vc, .slice tA tn tc, .slice sA sn sc, .slice none 0 0, .map (some pm)] ∧ MapL Try.prog 3 4 (.bool false) V pm 0 (fun _ => .bool false) ∧ OwnT V lo (.slice tA tn tc) T ∧ OwnS V lo E (.slice sA sn sc) S ∧ Below w.heap.size w V ∧ lo ≤ V.heap.size)
            ⟨g1.far (p := ⟨pm + 1, 2, none⟩) (by show _ ≠ pm + 1; omega) _, g4.set (i := 2) _, mp.kept (grown_set _ ⟨pm + 1, 2, none⟩ _) (by intro e; injection e with e; have : pm = pm + 1 := e; omega), ot.apart hq3, own_apart os' hq3, B.setCell (p := ⟨pm + 1, 2, none⟩) (by show w.heap.size ≤ pm + 1; omega) _, by have : wc.heap.size ≤ _ := hB1; simp only [World.setCell, Array.size_modify]; omega⟩ ?_
          clear B B1 g1 g4 mp ot os os' c_g1 f_g1 a_g1 d_g1 e_g1 c_g4 f_g4 a_g4 d_g4 e_g4 hB1
          rintro wd ⟨g1, g4, mp, ot, os, B, hld⟩
          have c_g1 := g1.cell; have c_g4 := g4.cell; have f_g1 := g1.free
          by_cases h5 : r5 = 0
          case neg =>
            have n1 : (r5 != 0) = true := by rw [bne_iff_ne]; exact h5
            have hr0 : r = 5 := by rw [HR.out]; simp [h5]
            subst hr0
            go_wp2
            refine bodyPost_ret (v := .tuple #[.agg #[.slice none 0 0, .slice none 0 0, .slice none 0 0, .slice none 0 0, .map none], .int .i64 5]) (by simp [results, Try.results74, go_sem, c_g1, f_g1]) rfl ?_
            refine ⟨_, _, _, _, _, rfl, fun e => by omega, fun _ => ⟨rfl, rfl, rfl, rfl, rfl⟩, ?_⟩
            (repeat (first | refine Below.setCell ?_ (by first | exact Nat.le_refl _ | (simp <;> omega)) _ | refine Below.alloc ?_ (by first | exact B.size | (have := B.size; simp <;> omega)) _)); exact B
          case pos =>
            subst h5
            go_upto_region 15 with (fail)
            go_wp2_with fail
            refine (WT.out _ (H.out.below B)).mono ?_
            rintro e wa6 ⟨xl, rfl, ol, b⟩
            try clear c_g1 f_g1 a_g1 d_g1 e_g1
            replace g1 := g1.below b; have c_g1 := g1.cell; have f_g1 := g1.free; have a_g1 := fun o => (g1.alloc o).cell; have d_g1 := fun o o2 => ((g1.alloc o).alloc o2).cell; have e_g1 := fun o => (g1.alloc o).free; try clear c_g4 f_g4 a_g4 d_g4 e_g4
            replace g4 := g4.below b; have c_g4 := g4.cell; have f_g4 := g4.free; have a_g4 := fun o => (g4.alloc o).cell; have d_g4 := fun o o2 => ((g4.alloc o).alloc o2).cell; have e_g4 := fun o => (g4.alloc o).free; replace mp := mp.below b; replace ot := ot.below b; replace os := os.below b; replace B := B.trans (b.mono B.size); clear b
            obtain ⟨lA, ln, lc, rfl⟩ := row_form ol
            by_cases h6 : r6 = 0
            case neg =>
              have n1 : (r6 != 0) = true := by rw [bne_iff_ne]; exact h6
              have hr0 : r = 6 := by rw [HR.out]; simp [h6]
              subst hr0
              go_wp2
              refine bodyPost_ret (v := .tuple #[.agg #[.slice none 0 0, .slice none 0 0, .slice none 0 0, .slice none 0 0, .map none], .int .i64 6]) (by simp [results, Try.results74, go_sem, c_g1, f_g1, a_g1, e_g1, c_g4, f_g4, a_g4, e_g4]) rfl ?_
              refine ⟨_, _, _, _, _, rfl, fun e => by omega, fun _ => ⟨rfl, rfl, rfl, rfl, rfl⟩, ?_⟩
              (repeat (first | refine Below.setCell ?_ (by first | exact Nat.le_refl _ | (simp <;> omega)) _ | refine Below.alloc ?_ (by first | exact B.size | (have := B.size; simp <;> omega)) _)); exact B
            case pos =>
              subst h6
              have hr0 : r = 0 := by rw [HR.out]; simp
              subst hr0
              obtain ⟨hTe, hLe, hSe⟩ := HF.out
              have hSe := hSe (by trivial)
              have HIA := Lib.hid (HNN.out (by trivial))
              have hN960 := HLN.out (by trivial)
              obtain ⟨N, hN⟩ : ∃ N, N = L.length := ⟨_, rfl⟩
              have HNL := Lib.hid hN
              have lx := ol.rd.len
              rw [← hN] at lx hN960
              have ol' := own_mono ol hld
              have HXT := Lib.hid (And.intro hTe (And.intro hLe hSe))
              clear hN hTe hLe hSe ol
              go_upto_region 18 with (fail)
              refine wp_gen (fun V => Bx V w.heap.size 155 #[.slice none 0 0, .slice none 0 0, .slice none 0 0, .slice none 0 0, .map none] ∧ Bx V (pm + 1) 155 #[.slice vA vn vc, .slice tA tn tc, .slice sA sn sc, .slice none 0 0, .map (some pm)] ∧ MapL Try.prog 3 4 (.bool false) V pm 0 (fun _ => .bool false) ∧ OwnT V lo (.slice tA tn tc) T ∧ OwnS V lo E (.slice sA sn sc) S ∧ OwnK V lo (.slice lA ln lc) L ∧ Below w.heap.size w V)
                ⟨g1, g4, mp, ot, os, ol', B⟩ ?_
              clear B g1 g4 mp ot os ol' c_g1 f_g1 a_g1 d_g1 e_g1 c_g4 f_g4 a_g4 d_g4 e_g4
              rintro ws ⟨g1, g4, mp, ot, os, ol, B⟩
              have HSTART := Lib.hid (And.intro g1 (And.intro g4 (And.intro mp B)))
              have HOWN := Lib.hid (And.intro ot (And.intro os ol))
              have hps : pm + 1 < ws.heap.size := g4.lt
              have hpl : w.heap.size ≤ pm := by omega
              clear g1 g4 mp ot os ol B
              go_wp2
              go_loopg [61] N (fun gg i wr => ∃ j : Nat, j ≤ N ∧ gg = N - j ∧ i = .int .i64 j ∧ Hid (∃ bj nm, Bx wr w.heap.size 155 #[.slice none 0 0, .slice none 0 0, .slice none 0 0, .slice none 0 0, .map none] ∧ Bx wr (pm + 1) 155 #[.slice vA vn vc, .slice tA tn tc, .slice sA sn sc, bj, .map (some pm)] ∧
                MapL Try.prog 3 4 (.bool false) wr pm nm (fun a => .bool (decide (IsObj (objs (L.take j)) a))) ∧ nm ≤ j ∧ OwnK wr w.heap.size bj (objs (L.take j)) ∧ (∀ g, bj.ownBlock = some g → ws.heap.size ≤ g) ∧ MidS lo ws wr ∧ Below w.heap.size w wr))
              case atStart =>
                obtain ⟨g1, g4, mp, B⟩ := HSTART.out
                exact ⟨0, by omega, by omega, rfl, Lib.hid ⟨_, 0, g1, g4, by simpa [objs, IsObj] using mp, by omega, OwnK.nil _ _, fun g hg => (by cases hg), ⟨Mid.refl _ _ _, Nat.le_refl _⟩, B⟩⟩
              case round =>
                obtain ⟨j, hj, rfl, rfl, hh⟩ := hrel
                clear HSTART
                obtain ⟨bj, nm, g1, g4, mp, hnm, oj, hbj, hmid, B⟩ := hh.out
                clear hh
                obtain ⟨jA, jn, jc, rfl⟩ := row_form oj
                have hol : OwnK wr lo (.slice lA ln lc) L := own_mid HOWN.out.2.2 hmid.m
                by_cases hlt : j < N
                · obtain ⟨bb, oo, b, ia, m0, m1, m2, m3, m4, m5, hb, _⟩ := hol.rd.at_ (k := j) (by rw [← HNL.out]; exact hlt)
                  have htk : L.take (j + 1) = L.take j ++ [b] := by rw [List.take_add_one, hb.out]; rfl
                  have hia := HIA.out b (List.mem_of_getElem? hb.out)
                  have HTK := Lib.hid htk
                  have hbj' := Lib.hid hbj
                  have hzz := hmid.z
                  clear htk hbj
                  by_cases hk1 : b.kind = 1
                  · have HK1 := Lib.hid hk1
                    clear hk1
                    have hne4 : (Value.slice jA jn jc).ownBlock = none ∨ (Value.slice jA jn jc).ownBlock ≠ some (pm + 1) := by
                      cases hv : (Value.slice jA jn jc).ownBlock with
                      | none => exact .inl rfl
                      | some g => exact .inr (fun e => by injection e with e; have := hbj'.out g hv; omega)
                    have hnep : (Value.slice jA jn jc).ownBlock = none ∨ (Value.slice jA jn jc).ownBlock ≠ some w.heap.size := by
                      cases hv : (Value.slice jA jn jc).ownBlock with
                      | none => exact .inl rfl
                      | some g => exact .inr (fun e => by injection e with e; have := hbj'.out g hv; omega)
                    have hne5 := own_fresh oj
                    have hlj : (objs (L.take j)).length ≤ 960 := Nat.le_trans (List.length_filter_le _ _) (by rw [List.length_take]; omega)
                    have hB0 := B.size
                    go_upto_region 21 with (fail)
                    refine wp_gen (fun Wv => Bx Wv (wr.heap.size) (84) (#[.int .i64 b.at_, .int .i64 b.size, .int .i64 b.kind, .int .i64 b.ty, .bool b.mark, .int .u64 b.next.toNat]) ∧ Below wr.heap.size wr Wv) ⟨((Bx.at_ (by simp))), ((Below.refl _ wr).alloc (by simp <;> omega) _)⟩ ?_
                    rintro wa7 ⟨g5, b⟩
                    try clear c_g1 f_g1 a_g1 d_g1 e_g1
                    replace g1 := g1.below b; have c_g1 := g1.cell; have f_g1 := g1.free; have a_g1 := fun o => (g1.alloc o).cell; have d_g1 := fun o o2 => ((g1.alloc o).alloc o2).cell; have e_g1 := fun o => (g1.alloc o).free; try clear c_g4 f_g4 a_g4 d_g4 e_g4
                    replace g4 := g4.below b; have c_g4 := g4.cell; have f_g4 := g4.free; have a_g4 := fun o => (g4.alloc o).cell; have d_g4 := fun o o2 => ((g4.alloc o).alloc o2).cell; have e_g4 := fun o => (g4.alloc o).free; replace mp := mp.below b; replace oj := oj.below b; replace hmid := hmid.below b; replace B := B.trans (b.mono B.size); clear b
                    have c_g5 := g5.cell; have f_g5 := g5.free; have a_g5 := fun o => (g5.alloc o).cell; have d_g5 := fun o o2 => ((g5.alloc o).alloc o2).cell; have e_g5 := fun o => (g5.alloc o).free
                    have hk1' : (b.kind == 1) = true := by rw [beq_iff_eq]; exact HK1.out
                    clear a_g1 d_g1 e_g1 a_g4 d_g4 e_g4 f_g5 a_g5 d_g5 e_g5
                    go_upto_region 23 with (at_builtin; refine wpList_append2 (by rfl) rfl rfl rfl Try.underlying92 info_block rfl (by omega) (by exact own_below oj ((Below.refl _ _).alloc (Nat.le_refl _) _)) (by exact lit_block b (by simp)) (bkL_one b) (by omega) (by omega) (by omega) (by exact B.alloc B.size _) (Nat.le_refl _) ?_; intro v1 w3 o3 B3 g3 hk3; obtain ⟨yA, yn, yc, rfl⟩ := row_form o3; have c_4 := ((g4.alloc _).grown g3 hne4).cell; have f_4 := ((g4.alloc _).grown g3 hne4).free; have c_5 := ((g5.alloc _).grown g3 hne5).cell; clear c_g4 f_g4 c_g5)
                    obtain ⟨m1', m2', m3'⟩ := (⟨g1, g4, mp⟩ : _ ∧ _ ∧ _)
                    have e1 : Bx w3 w.heap.size 155 #[.slice none 0 0, .slice none 0 0, .slice none 0 0, .slice none 0 0, .map none] := (g1.alloc _).grown g3 hnep
                    have e4 : Bx w3 (pm + 1) 155 #[.slice vA vn vc, .slice tA tn tc, .slice sA sn sc, .slice jA jn jc, .map (some pm)] := (g4.alloc _).grown g3 hne4
                    have e5 : Bx w3 wr.heap.size 84 #[.int .i64 b.at_, .int .i64 b.size, .int .i64 b.kind, .int .i64 b.ty, .bool b.mark, .int .u64 b.next.toNat] := (g5.alloc _).grown g3 hne5
                    have hnem : some pm ≠ (Value.slice jA jn jc).ownBlock := fun e => by have := hbj'.out pm e.symm; omega
                    have em : MapL Try.prog 3 4 (.bool false) w3 pm nm (fun a => .bool (decide (IsObj (objs (L.take j)) a))) := (mp.below ((Below.refl _ _).alloc (Nat.le_refl _) _)).kept g3 hnem
                    have eM : MidS lo ws w3 := (hmid.below ((Below.refl _ _).alloc (Nat.le_refl _) _)).grown g3 (fun k hk => .inr (hbj'.out k hk))
                    have eK : OwnK w3 w.heap.size (.slice yA yn yc) (objs (L.take j) ++ [b]) := OwnK.of o3 (tabB_snoc _ b)
                    have hky : ∀ g, (Value.slice yA yn yc).ownBlock = some g → ws.heap.size ≤ g := fun g hg => by
                      rcases hk3 g hg with h | h
                      · exact hbj'.out g h
                      · have h2 := hmid.z
                        simp only [World.size_alloc] at h
                        omega
                    refine wp_gen (fun V => Bx V w.heap.size 155 #[.slice none 0 0, .slice none 0 0, .slice none 0 0, .slice none 0 0, .map none] ∧ Bx V (pm + 1) 155 #[.slice vA vn vc, .slice tA tn tc, .slice sA sn sc, .slice yA yn yc, .map (some pm)] ∧ Bx V wr.heap.size 84 #[.int .i64 b.at_, .int .i64 b.size, .int .i64 b.kind, .int .i64 b.ty, .bool b.mark, .int .u64 b.next.toNat] ∧
                      MapL Try.prog 3 4 (.bool false) V pm nm (fun a => .bool (decide (IsObj (objs (L.take j)) a))) ∧ OwnK V w.heap.size (.slice yA yn yc) (objs (L.take j) ++ [b]) ∧ MidS lo ws V ∧ Below w.heap.size w V)
                      ⟨e1.far (p := ⟨pm + 1, 3, none⟩) (by show w.heap.size ≠ pm + 1; omega) _, e4.set (i := 3) _, e5.far (p := ⟨pm + 1, 3, none⟩) (by show wr.heap.size ≠ pm + 1; omega) _, em.kept (grown_set _ ⟨pm + 1, 3, none⟩ _) (by intro e; injection e with e; have : pm = pm + 1 := e; omega), own_set eK e4 (by decide), eM.set (p := ⟨pm + 1, 3, none⟩) hq3 _, B3.setCell (p := ⟨pm + 1, 3, none⟩) (by show w.heap.size ≤ pm + 1; omega) _⟩ ?_
                    clear e1 e4 e5 em eM eK g1 g4 g5 mp oj hmid B B3 g3 hk3 o3 c_4 f_4 c_5 m1' m2' m3' m0 m1 m2 m3 m4 m5 hne4 hnep hne5 hnem hk1' c_g1 f_g1 ia
                    rintro V ⟨g1, g4, g5, mp, oj, hmid, B⟩
                    have c_g4 := g4.cell; have c_g5 := g5.cell
                    have hnk : some pm ≠ (Value.slice yA yn yc).ownBlock := fun e => by have := hky pm e.symm; omega
                    have hnk2 : (Value.slice yA yn yc).ownBlock = none ∨ (Value.slice yA yn yc).ownBlock ≠ some pm := .inr (fun e => hnk e.symm)
                    have HKY := Lib.hid hky
                    clear hky
                    go_wp2_with (at_mapUpdate; refine wpList_mapPut rfl rfl Try.underlying3 Try.underlying153 rfl rfl rfl mp (by unfold maxLen; omega) hia (plainElem_bool Try.underlying4 true) ?_; intro w5 mp5 g5')
                    have hob : objs (L.take (j + 1)) = objs (L.take j) ++ [b] := by rw [HTK.out, objs_snoc, if_pos HK1.out]
                    have HREL := Lib.hid (show ∃ bj nm, Bx w5 w.heap.size 155 #[.slice none 0 0, .slice none 0 0, .slice none 0 0, .slice none 0 0, .map none] ∧ Bx w5 (pm + 1) 155 #[.slice vA vn vc, .slice tA tn tc, .slice sA sn sc, bj, .map (some pm)] ∧
                      MapL Try.prog 3 4 (.bool false) w5 pm nm (fun a => .bool (decide (IsObj (objs (L.take (j + 1))) a))) ∧ nm ≤ j + 1 ∧ OwnK w5 w.heap.size bj (objs (L.take (j + 1))) ∧ (∀ g, bj.ownBlock = some g → ws.heap.size ≤ g) ∧ MidS lo ws w5 ∧ Below w.heap.size w w5 from
                      ⟨_, nm + 1, g1.grown g5' (.inr (by intro e; injection e with e; omega)), g4.grown g5' (.inr (by intro e; injection e with e; omega)), by
                        rw [hob]
                        obtain ⟨D, x1, x2⟩ := mp5
                        refine ⟨D, x1, fun a => ?_⟩
                        rw [x2 a]
                        congr 1
                        dsimp only
                        by_cases e : a = b.at_
                        · rw [if_pos e]; congr 1; rw [eq_comm, decide_eq_true_iff]; exact isObj_snoc.2 (.inl e)
                        · rw [if_neg e]; congr 1; rw [Bool.eq_iff_iff, decide_eq_true_iff, decide_eq_true_iff, isObj_snoc]; simp [e], by omega, by rw [hob]; exact World.ownsRow.kept oj g5' hnk2, HKY.out, hmid.grown g5' (fun k hk => .inl (by injection hk with hk; omega)), B.grown g5' B.size (fun k hk => by injection hk with hk; omega)⟩)
                    clear mp5 g5' g1 g4 g5 mp oj hmid B
                    go_roundg (N - (j + 1))
                    case measure => omega
                    case rel => exact ⟨j + 1, by omega, rfl, by go_num, HREL⟩
                  · have hk2 : (b.kind == 1) = false := by rw [beq_eq_false_iff_ne]; exact hk1
                    have hob : objs (L.take (j + 1)) = objs (L.take j) := by rw [HTK.out, objs_snoc, if_neg hk1, List.append_nil]
                    have HOB := Lib.hid hob
                    clear hk1 hob
                    go_upto_region 21 with (fail)
                    refine wp_gen (fun Wv => Bx Wv (wr.heap.size) (84) (#[.int .i64 b.at_, .int .i64 b.size, .int .i64 b.kind, .int .i64 b.ty, .bool b.mark, .int .u64 b.next.toNat]) ∧ Below wr.heap.size wr Wv) ⟨((Bx.at_ (by simp))), ((Below.refl _ wr).alloc (by simp <;> omega) _)⟩ ?_
                    rintro wa8 ⟨g5, b⟩
                    try clear c_g1 f_g1 a_g1 d_g1 e_g1
                    replace g1 := g1.below b; have c_g1 := g1.cell; have f_g1 := g1.free; have a_g1 := fun o => (g1.alloc o).cell; have d_g1 := fun o o2 => ((g1.alloc o).alloc o2).cell; have e_g1 := fun o => (g1.alloc o).free; try clear c_g4 f_g4 a_g4 d_g4 e_g4
                    replace g4 := g4.below b; have c_g4 := g4.cell; have f_g4 := g4.free; have a_g4 := fun o => (g4.alloc o).cell; have d_g4 := fun o o2 => ((g4.alloc o).alloc o2).cell; have e_g4 := fun o => (g4.alloc o).free; replace mp := mp.below b; replace oj := oj.below b; replace hmid := hmid.below b; replace B := B.trans (b.mono B.size); clear b
                    have c_g5 := g5.cell; have f_g5 := g5.free; have a_g5 := fun o => (g5.alloc o).cell; have d_g5 := fun o o2 => ((g5.alloc o).alloc o2).cell; have e_g5 := fun o => (g5.alloc o).free
                    have HREL := Lib.hid (show ∃ bj nm, Bx _ w.heap.size 155 #[.slice none 0 0, .slice none 0 0, .slice none 0 0, .slice none 0 0, .map none] ∧ Bx _ (pm + 1) 155 #[.slice vA vn vc, .slice tA tn tc, .slice sA sn sc, bj, .map (some pm)] ∧
                      MapL Try.prog 3 4 (.bool false) _ pm nm (fun a => .bool (decide (IsObj (objs (L.take (j + 1))) a))) ∧ nm ≤ j + 1 ∧ OwnK _ w.heap.size bj (objs (L.take (j + 1))) ∧ (∀ g, bj.ownBlock = some g → ws.heap.size ≤ g) ∧ MidS lo ws _ ∧ Below w.heap.size w _ from ⟨_, nm, g1, g4, by rw [HOB.out]; exact mp, by omega, by rw [HOB.out]; exact oj, hbj'.out, hmid, B⟩)
                    go_wp2
                    go_roundg (N - (j + 1))
                    case measure => omega
                    case rel => exact ⟨j + 1, by omega, rfl, by go_num, HREL⟩
                · obtain rfl : j = N := by omega
                  have htk : L.take j = L := List.take_of_length_le (by rw [← HNL.out]; exact Nat.le_refl _)
                  rw [htk] at mp oj
                  have c_g1 := g1.cell; have c_g4 := g4.cell; have f_g1 := g1.free
                  have hne1 : w.heap.size ≠ pm + 1 := by omega
                  have HSG : Hid (SgO wr w.heap.size lo (.slice vA vn vc) (.slice tA tn tc) (.slice sA sn sc) (.slice jA jn jc) E pm nm l (T19 l) (slots l) (O19 l) w) := Lib.hid ⟨B, by rw [← HXT.out.1]; exact OwnT.mid HOWN.out.1 hmid.m, by rw [← HXT.out.2.2]; exact own_mid HOWN.out.2.1 hmid.m, by unfold O19; rw [← HXT.out.2.1]; exact oj, fun e => by have := hbj _ e; omega, by unfold O19; rw [← HXT.out.2.1]; exact mp⟩
                  clear mp oj
                  go_wp2
                  refine bodyPost_ret (v := .tuple #[.agg #[.slice vA vn vc, .slice tA tn tc, .slice sA sn sc, .slice jA jn jc, .map (some pm)], .int .i64 0]) (by simp [results, Try.results74, go_sem, c_g1, f_g1, c_g4, hne1]) rfl ?_
                  first | refine ⟨_, _, _, _, _, rfl, ⟨rfl, pm, rfl, nm, SgO.sg (((((HSG.out.set (by omega) (by omega)).set (by omega) (by omega)).set (by omega) (by omega)).set (by omega) (by omega)).set (by omega) (by omega)) H.out⟩, ?_⟩ | refine ⟨_, _, _, _, _, rfl, ⟨rfl, pm, rfl, nm, SgO.sg (((((HSG.out.set (by omega) (by omega)).set (by omega) (by omega)).set (by omega) (by omega)).set (by omega) (by omega)).set (by omega) (by omega)) H.out⟩, fun e => absurd rfl e, ?_⟩
                  (repeat (first | refine Below.setCell ?_ (by first | exact Nat.le_refl _ | (simp <;> omega)) _ | refine Below.alloc ?_ (by first | exact B.size | (have := B.size; simp <;> omega)) _)); exact B
end Go.Proofs.Ytodbbacmdjcheaa
namespace Go.Proofs.Ytodbbacmdjcheaa
open Go.RowKit L01 L02 L05 L07 L13 L14 L15 L18 L19
set_option maxRecDepth 100000 in
set_option maxHeartbeats 2000000 in
theorem each_any (fid : Nat) (v tv sv bv : Value) (g : Nat) (O : List Hb) (p : Hb → Bool) (c : Bool) (hc : c = decide (∀ b ∈ O, p b = true)) (hcf : ∀ args W, (callFunc fid args).run Try.prog W = .ok (.enter fid args) W) (w : World) (h : Blks w bv O)
    (hcl : ∀ b ∈ O, ∀ W, Below w.heap.size w W → Calls Try.prog fid (#[.agg #[v, tv, sv, bv, .map (some g)]] ++ (#[.agg #[.int .i64 b.at_, .int .i64 b.size, .int .i64 b.kind, .int .i64 b.ty, .bool b.mark, .int .u64 b.next.toNat]] ++ #[])) W fun e W' => e = .returned (.bool (p b)) ∧ Below W.heap.size W W') :
    Calls Try.prog 80 #[.agg #[v, tv, sv, bv, .map (some g)], .func (.func fid) #[.agg #[v, tv, sv, bv, .map (some g)]] #[]] w fun e w' => e = .returned (.bool c) ∧ Below w.heap.size w w' := by
  have B : Below w.heap.size w w := Below.refl _ _
  have lo := h.len
  obtain ⟨N, hN⟩ : ∃ N, N = O.length := ⟨_, rfl⟩
  have hlen := h.len_le
  rw [← hN] at lo hlen
  have H := Lib.hid h; have HN := Lib.hid hN; have HC := Lib.hid hc; have HCL := Lib.hid hcl
  clear h hN hc hcl
  go_enter Try.func80, Try.ntmps80
  go_upto_region 1 with (fail)
  refine wp_gen (fun Wv => Bx Wv (w.heap.size) (155) (#[v, tv, sv, bv, .map (some g)]) ∧ Below w.heap.size w Wv) ⟨((Bx.at_ (by simp))), ((Below.refl _ w).alloc (by simp <;> omega) _)⟩ ?_
  rintro wa1 ⟨g1, b⟩
  replace B := B.trans (b.mono B.size); clear b
  have c_g1 := g1.cell; have f_g1 := g1.free; have a_g1 := fun o => (g1.alloc o).cell; have d_g1 := fun o o2 => ((g1.alloc o).alloc o2).cell; have e_g1 := fun o => (g1.alloc o).free
  go_wp2
  have HB := Lib.hid (And.intro g1 B)
  go_loopg [10] N (fun gg i wr => ∃ j : Nat, j ≤ N ∧ gg = N - j ∧ i = .int .i64 j ∧ Hid (Below w.heap.size w wr ∧ ∀ i b, i < j → O[i]? = some b → p b = true))
  case atStart => exact ⟨0, by omega, rfl, rfl, Lib.hid ⟨HB.out.2, fun i b hi => by omega⟩⟩
  case round =>
    obtain ⟨j, hj, rfl, rfl, hh⟩ := hrel
    clear HB g1 B c_g1 f_g1 a_g1 d_g1 e_g1
    have B := hh.out.1
    by_cases hlt : j < N
    · obtain ⟨bb, oo, b, ia, m0, m1, m2, m3, m4, m5, hb, _⟩ := (Blks.below H.out B).at_ (k := j) (by rw [← HN.out]; exact hlt)
      obtain ⟨q, hq⟩ : ∃ q, q = p b := ⟨_, rfl⟩
      have CL : Hid (∀ W, Below w.heap.size w W → Calls Try.prog fid (#[.agg #[v, tv, sv, bv, .map (some g)]] ++ (#[.agg #[.int .i64 b.at_, .int .i64 b.size, .int .i64 b.kind, .int .i64 b.ty, .bool b.mark, .int .u64 b.next.toNat]] ++ #[])) W fun e W' => e = .returned (.bool q) ∧ Below W.heap.size W W') := by
        rw [hq]; exact Lib.hid (HCL.out b (List.mem_of_getElem? hb.out))
      cases q
      · have hc : c = false := by
          rw [HC.out, decide_eq_false_iff_not]
          exact fun hall => by have := hall b (List.mem_of_getElem? hb.out); rw [← hq] at this; cases this
        subst hc
        clear hq hb
        go_upto_region 4 with (fail)
        refine wp_gen (fun Wv => Bx Wv (wr.heap.size) (84) (#[.int .i64 b.at_, .int .i64 b.size, .int .i64 b.kind, .int .i64 b.ty, .bool b.mark, .int .u64 b.next.toNat]) ∧ Below wr.heap.size wr Wv) ⟨((Bx.at_ (by simp))), ((Below.refl _ wr).alloc (by simp <;> omega) _)⟩ ?_
        rintro wa2 ⟨g2, b⟩
        replace B := B.trans (b.mono B.size); clear b
        have c_g2 := g2.cell; have f_g2 := g2.free; have a_g2 := fun o => (g2.alloc o).cell; have d_g2 := fun o o2 => ((g2.alloc o).alloc o2).cell; have e_g2 := fun o => (g2.alloc o).free
        go_wp2_with fail
        refine (CL.out _ B).mono ?_
        rintro e wz ⟨rfl, b2⟩
        replace B := B.trans (b2.mono B.size)
        go_wp2
        go_ret
        exact ⟨rfl, B⟩
      · have HZ : Hid (∀ i b, i < j + 1 → O[i]? = some b → p b = true) := Lib.hid (fun i b' hi hb' => by
          by_cases e : i = j
          · subst e; rw [hb.out] at hb'; injection hb' with hb'; subst hb'; exact hq.symm
          · exact hh.out.2 i b' (by omega) hb')
        clear hq hb
        go_upto_region 4 with (fail)
        refine wp_gen (fun Wv => Bx Wv (wr.heap.size) (84) (#[.int .i64 b.at_, .int .i64 b.size, .int .i64 b.kind, .int .i64 b.ty, .bool b.mark, .int .u64 b.next.toNat]) ∧ Below wr.heap.size wr Wv) ⟨((Bx.at_ (by simp))), ((Below.refl _ wr).alloc (by simp <;> omega) _)⟩ ?_
        rintro wa3 ⟨g2, b⟩
        replace B := B.trans (b.mono B.size); clear b
        have c_g2 := g2.cell; have f_g2 := g2.free; have a_g2 := fun o => (g2.alloc o).cell; have d_g2 := fun o o2 => ((g2.alloc o).alloc o2).cell; have e_g2 := fun o => (g2.alloc o).free
        go_wp2_with fail
        refine (CL.out _ B).mono ?_
        rintro e wz ⟨rfl, b2⟩
        replace B := B.trans (b2.mono B.size)
        have HB := Lib.hid B
        go_wp2
        go_roundg (N - (j + 1))
        case measure => omega
        case rel => exact ⟨j + 1, by omega, rfl, by go_num, Lib.hid ⟨HB.out, HZ.out⟩⟩
    · obtain rfl : j = N := by omega
      have hc : c = true := by
        rw [HC.out, decide_eq_true_iff]
        intro b hb
        obtain ⟨i, hi, e⟩ := List.mem_iff_getElem.1 hb
        exact hh.out.2 i b (by rw [HN.out]; exact hi) (by rw [List.getElem?_eq_getElem hi, e])
      subst hc
      go_wp2
      go_ret
      exact ⟨rfl, B⟩
end Go.Proofs.Ytodbbacmdjcheaa
