/- Contracts of the functions that the laws 'R' reach, part 10. No condition. -/
import Derived.Test.YtmbokdnndlnjkaaGreatMRi
set_option linter.unusedVariables false
set_option linter.unusedSimpArgs false
namespace Go.Proofs.YtmbokdnndlnjkaaGreat
open Go.RowKit L01 L02 L05 L13 L14 L15 L18 L19
/-- the kinds of the fields of an object, and where its words lie -/
theorem in_kinds {l : List UInt64} {T : List (List UInt8)} {b : Hb} (hi : In19 l b) (ht : Typed T b) : ∃ (a q : Nat) (t : List UInt8), b.at_ = a ∧ b.ty = q ∧ T[q]? = some t ∧ kindsB T b = t ∧ 128 ≤ a + 128 ∧ a + 2 + t.length ≤ l.length ∧ (t.length % 2 = 1 → a + 2 + t.length < l.length) := by
  obtain ⟨a, ha, hok, hle⟩ := hi
  have hb := hok.bounds
  obtain ⟨q, hq⟩ := Int.eq_ofNat_of_zero_le hb.2.2.2.2.1
  have hlt : q < T.length := by have := ht.1; omega
  have hT : T[q]? = some T[q] := List.getElem?_eq_getElem hlt
  have hk : kindsB T b = T[q] := by unfold kindsB; rw [hq, Int.toNat_natCast, List.getD_eq_getElem?_getD, hT]; rfl
  have hs := ht.2
  rw [hk] at hs
  exact ⟨a, q, T[q], ha, hq, hT, hk, by omega, by omega, fun h => by omega⟩
set_option maxRecDepth 100000 in
set_option maxHeartbeats 1000000 in
theorem paddedB_any (v tv sv bv : Value) (g : Nat) (l : List UInt64) (T : List (List UInt8)) (b : Hb) (c : Bool) (hc : c = decide (Padded l T b)) (hi : In19 l b) (hty : Typed T b) (hl : l.length ≤ 1000000) (w : World) (hw : Words w v l) (h : Typs w tv T) :
    Calls Tryz.prog 87 #[.agg #[v, tv, sv, bv, .map (some g)], .agg #[.int .i64 b.at_, .int .i64 b.size, .int .i64 b.kind, .int .i64 b.ty, .bool b.mark, .int .u64 b.next.toNat]] w fun e w' => e = .returned (.bool c) ∧ Below w.heap.size w w' := by
  have B : Below w.heap.size w w := Below.refl _ _
  obtain ⟨a, q, t, ha, hq, hT, hk, _, hle, hodd⟩ := in_kinds hi hty
  obtain ⟨ad, x, t', it, m0, ht', hx⟩ := h.at_ (k := q) (List.getElem?_eq_some_iff.1 hT).1
  obtain rfl : t' = t := by have := ht'.out; rw [hT] at this; injection this with this; exact this.symm
  obtain ⟨n, hn⟩ : ∃ n, n = t'.length := ⟨_, rfl⟩
  have lx := Rd.len hx.out Tryz.underlying83
  rw [← hn] at lx hle hodd
  have hcp : c = decide (n % 2 = 0 ∨ fw l b n = 0) := by rw [hc, Bool.eq_iff_iff, decide_eq_true_iff, decide_eq_true_iff]; unfold Padded; rw [hk, ← hn]
  obtain ⟨at_, size, kind, ty, mark, next⟩ := b
  dsimp only at ha hq
  subst ha; subst hq
  have hfw : fw l ⟨(a : Int), size, kind, (q : Int), mark, next⟩ n = l.getD (a + 2 + n) 0 := by unfold fw; rw [Int.toNat_natCast]
  rw [hfw] at hcp
  have HC := Lib.hid hcp
  have hw1 : IntKind.i64.wrap ((a : Int) + 2) = (a : Int) + 2 := IntWalk.i64_in _ (by omega)
  have hw2 : IntKind.i64.wrap ((a : Int) + 2 + (n : Int)) = (a : Int) + 2 + (n : Int) := IntWalk.i64_in _ (by omega)
  have HH := Lib.hid hn
  by_cases hev : n % 2 = 0
  · have e1 : ((n : Int).tmod 2 == 0) = true := by rw [beq_iff_eq, Int.tmod_eq_emod_of_nonneg (by omega)]; omega
    have e2 : ((n : Int) % 2 == 0) = true := by rw [beq_iff_eq]; omega
    have e3 : (n : Int).tmod 2 = 0 := by rw [Int.tmod_eq_emod_of_nonneg (by omega)]; omega
    have hc1 : c = true := by rw [hcp, decide_eq_true_iff]; exact .inl hev
    subst hc1
    clear hc hi hty hT hk hle hodd ht' hx hcp hfw hn hw h
    go_enter Tryz.func87, Tryz.ntmps87
    go_upto_region 1 with (fail)
    refine wp_gen (fun Wv => Bx Wv (w.heap.size) (158) (#[v, tv, sv, bv, .map (some g)]) ∧ Bx Wv (w.heap.size + 1) (82) (#[.int .i64 a, .int .i64 size, .int .i64 kind, .int .i64 q, .bool mark, .int .u64 next.toNat]) ∧ Below w.heap.size w Wv) ⟨(((Bx.at_ (by simp)).alloc _)), ((Bx.at_ (by simp))), (((Below.refl _ w).alloc (by simp <;> omega) _).alloc (by simp <;> omega) _)⟩ ?_
    rintro wa1 ⟨g1, g2, b⟩
    replace m0 := cell_later b m0; replace B := B.trans (b.mono B.size); clear b
    have c_g1 := g1.cell; have f_g1 := g1.free; have a_g1 := fun o => (g1.alloc o).cell; have d_g1 := fun o o2 => ((g1.alloc o).alloc o2).cell; have e_g1 := fun o => (g1.alloc o).free
    have c_g2 := g2.cell; have f_g2 := g2.free; have a_g2 := fun o => (g2.alloc o).cell; have d_g2 := fun o o2 => ((g2.alloc o).alloc o2).cell; have e_g2 := fun o => (g2.alloc o).free
    go_wp2
    go_ret
    exact ⟨rfl, B⟩
  · have e1 : ((n : Int).tmod 2 == 0) = false := by rw [beq_eq_false_iff_ne, Int.tmod_eq_emod_of_nonneg (by omega)]; omega
    have e2 : ((n : Int) % 2 == 0) = false := by rw [beq_eq_false_iff_ne]; omega
    have e3 : (n : Int).tmod 2 = 1 := by rw [Int.tmod_eq_emod_of_nonneg (by omega)]; omega
    obtain ⟨ad2, y, iy, m1, hy⟩ := hw.at_ (P := Tryz.prog) Tryz.underlying22 one_u64 (k := a + 2 + n) (hodd (by omega))
    have iy2 : ∀ W, (Instr.indexAt 22 v (.int .i64 ((a : Int) + 2 + (n : Int)))).run Tryz.prog W = .ok (.pointer (some ad2)) W := iy
    have hgy : l.getD (a + 2 + n) 0 = y := by rw [List.getD_eq_getElem?_getD, hy.out]; rfl
    have hc1 : c = decide (y = 0) := by rw [hcp, hgy]; simp [hev]
    have hy0 : ((y.toNat : Int) == 0) = c := by
      rw [hc1, Bool.eq_iff_iff, beq_iff_eq, decide_eq_true_iff]
      exact ⟨fun e => UInt64.toNat.inj (by simp; omega), fun e => by rw [e]; rfl⟩
    clear hc hi hty hT hk hle hodd ht' hx hcp hfw hn hw h hgy hc1 hy HC
    go_enter Tryz.func87, Tryz.ntmps87
    go_upto_region 1 with (fail)
    refine wp_gen (fun Wv => Bx Wv (w.heap.size) (158) (#[v, tv, sv, bv, .map (some g)]) ∧ Bx Wv (w.heap.size + 1) (82) (#[.int .i64 a, .int .i64 size, .int .i64 kind, .int .i64 q, .bool mark, .int .u64 next.toNat]) ∧ Below w.heap.size w Wv) ⟨(((Bx.at_ (by simp)).alloc _)), ((Bx.at_ (by simp))), (((Below.refl _ w).alloc (by simp <;> omega) _).alloc (by simp <;> omega) _)⟩ ?_
    rintro wa1 ⟨g1, g2, b⟩
    replace m0 := cell_later b m0; replace m1 := cell_later b m1; replace B := B.trans (b.mono B.size); clear b
    have c_g1 := g1.cell; have f_g1 := g1.free; have a_g1 := fun o => (g1.alloc o).cell; have d_g1 := fun o o2 => ((g1.alloc o).alloc o2).cell; have e_g1 := fun o => (g1.alloc o).free
    have c_g2 := g2.cell; have f_g2 := g2.free; have a_g2 := fun o => (g2.alloc o).cell; have d_g2 := fun o o2 => ((g2.alloc o).alloc o2).cell; have e_g2 := fun o => (g2.alloc o).free
    go_wp2
    go_ret
    exact ⟨rfl, B⟩
set_option maxRecDepth 100000 in
set_option maxHeartbeats 2000000 in
theorem floatsB_any (v tv sv bv : Value) (g : Nat) (l : List UInt64) (T : List (List UInt8)) (b : Hb) (c : Bool) (hc : c = decide (FloatsB l T b)) (hi : In19 l b) (hty : Typed T b) (hl : l.length ≤ 1000000) (w : World) (hw : Words w v l) (h : Typs w tv T) :
    Calls Tryz.prog 88 #[.agg #[v, tv, sv, bv, .map (some g)], .agg #[.int .i64 b.at_, .int .i64 b.size, .int .i64 b.kind, .int .i64 b.ty, .bool b.mark, .int .u64 b.next.toNat]] w fun e w' => e = .returned (.bool c) ∧ Below w.heap.size w w' := by
  have B : Below w.heap.size w w := Below.refl _ _
  obtain ⟨a, q, t, ha, hq, hT, hk, _, hle, _⟩ := in_kinds hi hty
  obtain ⟨ad, x, t', it, m0, ht', hx⟩ := h.at_ (k := q) (List.getElem?_eq_some_iff.1 hT).1
  obtain rfl : t' = t := by have := ht'.out; rw [hT] at this; injection this with this; exact this.symm
  obtain ⟨n, hn⟩ : ∃ n, n = t'.length := ⟨_, rfl⟩
  have lx := Rd.len hx.out Tryz.underlying83
  rw [← hn] at lx hle
  have hcp : c = decide (∀ i, i < n → (t'.getD i 0).toNat = 2 → L20.FloatOk (fw l b i)) := by rw [hc, Bool.eq_iff_iff, decide_eq_true_iff, decide_eq_true_iff]; unfold FloatsB; rw [hk, ← hn]
  obtain ⟨at_, size, kind, ty, mark, next⟩ := b
  dsimp only at ha hq
  subst ha; subst hq
  have hfw : ∀ i, fw l ⟨(a : Int), size, kind, (q : Int), mark, next⟩ i = l.getD (a + 2 + i) 0 := fun i => by unfold fw; rw [Int.toNat_natCast]
  have HC := Lib.hid (And.intro hcp hfw)
  have hw1 : IntKind.i64.wrap ((a : Int) + 2) = (a : Int) + 2 := IntWalk.i64_in _ (by omega)
  have HH := Lib.hid hn; have HX := hx; have HW := Lib.hid hw
  have HN := Lib.hid (And.intro hle hl)
  have hnb : n ≤ 1000000 := by omega
  clear hc hi hty hT hk hle ht' hx hcp hfw hn hw h hl
  go_enter Tryz.func88, Tryz.ntmps88
  go_upto_region 1 with (fail)
  refine wp_gen (fun Wv => Bx Wv (w.heap.size) (158) (#[v, tv, sv, bv, .map (some g)]) ∧ Bx Wv (w.heap.size + 1) (82) (#[.int .i64 a, .int .i64 size, .int .i64 kind, .int .i64 q, .bool mark, .int .u64 next.toNat]) ∧ Below w.heap.size w Wv) ⟨(((Bx.at_ (by simp)).alloc _)), ((Bx.at_ (by simp))), (((Below.refl _ w).alloc (by simp <;> omega) _).alloc (by simp <;> omega) _)⟩ ?_
  rintro wa1 ⟨g1, g2, b⟩
  replace m0 := cell_later b m0; replace B := B.trans (b.mono B.size); clear b
  have c_g1 := g1.cell; have f_g1 := g1.free; have a_g1 := fun o => (g1.alloc o).cell; have d_g1 := fun o o2 => ((g1.alloc o).alloc o2).cell; have e_g1 := fun o => (g1.alloc o).free
  have c_g2 := g2.cell; have f_g2 := g2.free; have a_g2 := fun o => (g2.alloc o).cell; have d_g2 := fun o o2 => ((g2.alloc o).alloc o2).cell; have e_g2 := fun o => (g2.alloc o).free
  go_wp2
  go_loopg [14] n (fun gg i wr => ∃ j : Nat, j ≤ n ∧ gg = n - j ∧ i = .int .i64 j ∧ Hid (Bx wr w.heap.size 158 #[v, tv, sv, bv, .map (some g)] ∧ Bx wr (w.heap.size + 1) 82 #[.int .i64 a, .int .i64 size, .int .i64 kind, .int .i64 q, .bool mark, .int .u64 next.toNat] ∧ Below w.heap.size w wr) ∧ Hid (∀ i, i < j → (t'.getD i 0).toNat = 2 → L20.FloatOk (l.getD (a + 2 + i) 0)))
  case atStart => exact ⟨0, by omega, rfl, rfl, Lib.hid ⟨g1, g2, B⟩, Lib.hid (fun i hi => by omega)⟩
  case round =>
    obtain ⟨j, hj, rfl, rfl, hh, hz⟩ := hrel
    clear g1 g2 B m0 c_g1 f_g1 a_g1 d_g1 e_g1 c_g2 f_g2 a_g2 d_g2 e_g2
    obtain ⟨g1, g2, B⟩ := hh.out
    have c_g1 := g1.cell; have c_g2 := g2.cell
    by_cases hlt : j < n
    · obtain ⟨ak, kd, ik, mk, hkd⟩ := (Byts.below HX.out B).at_ (P := Tryz.prog) Tryz.underlying83 one_u8 (k := j) (by rw [← HH.out]; exact hlt)
      have hgk : t'.getD j 0 = kd := by rw [List.getD_eq_getElem?_getD, hkd.out]; rfl
      by_cases hk2 : kd.toNat = 2
      · obtain ⟨ad2, y, iy, m2, hy⟩ := (HW.out.below B).at_ (P := Tryz.prog) Tryz.underlying22 one_u64 (k := a + 2 + j) (by have := HN.out.1; omega)
        have iy2 : ∀ W, (Instr.indexAt 22 v (.int .i64 ((a : Int) + 2 + (j : Int)))).run Tryz.prog W = .ok (.pointer (some ad2)) W := iy
        have hgy : l.getD (a + 2 + j) 0 = y := by rw [List.getD_eq_getElem?_getD, hy.out]; rfl
        have hw2 : IntKind.i64.wrap ((a : Int) + 2 + (j : Int)) = (a : Int) + 2 + (j : Int) := IntWalk.i64_in _ (by have := HN.out; omega)
        obtain ⟨fb, hfb⟩ : ∃ fb, fb = decide (L20.FloatOk y) := ⟨_, rfl⟩
        have FT := Lib.hid (fun w => float19_any y fb hfb w)
        rw [hk2] at mk
        cases fb
        · have hno : ¬ L20.FloatOk y := of_decide_eq_false hfb.symm
          have hc0 : c = false := by
            rw [HC.out.1, decide_eq_false_iff_not]
            intro hall
            have := hall j hlt (by rw [hgk]; exact hk2)
            rw [HC.out.2, hgy] at this
            exact hno this
          subst hc0
          clear hfb hno hgy hy hgk hk2 hkd iy
          go_wp2_with fail
          refine (FT.out _).mono ?_
          rintro e wa2 ⟨rfl, b⟩
          try clear c_g1 f_g1 a_g1 d_g1 e_g1
          replace g1 := g1.below b; have c_g1 := g1.cell; have f_g1 := g1.free; have a_g1 := fun o => (g1.alloc o).cell; have d_g1 := fun o o2 => ((g1.alloc o).alloc o2).cell; have e_g1 := fun o => (g1.alloc o).free; try clear c_g2 f_g2 a_g2 d_g2 e_g2
          replace g2 := g2.below b; have c_g2 := g2.cell; have f_g2 := g2.free; have a_g2 := fun o => (g2.alloc o).cell; have d_g2 := fun o o2 => ((g2.alloc o).alloc o2).cell; have e_g2 := fun o => (g2.alloc o).free; replace m2 := cell_later b m2; replace B := B.trans (b.mono B.size); clear b
          go_wp2
          go_ret
          exact ⟨rfl, B⟩
        · have hyes : L20.FloatOk y := of_decide_eq_true hfb.symm
          have HZ : Hid (∀ i, i < j + 1 → (t'.getD i 0).toNat = 2 → L20.FloatOk (l.getD (a + 2 + i) 0)) := Lib.hid (fun i hi h2 => by
            by_cases e : i = j
            · subst e; rw [hgy]; exact hyes
            · exact hz.out i (by omega) h2)
          clear hfb hyes hgy hy hgk hk2 hkd iy
          go_wp2_with fail
          refine (FT.out _).mono ?_
          rintro e wa3 ⟨rfl, b⟩
          try clear c_g1 f_g1 a_g1 d_g1 e_g1
          replace g1 := g1.below b; have c_g1 := g1.cell; have f_g1 := g1.free; have a_g1 := fun o => (g1.alloc o).cell; have d_g1 := fun o o2 => ((g1.alloc o).alloc o2).cell; have e_g1 := fun o => (g1.alloc o).free; try clear c_g2 f_g2 a_g2 d_g2 e_g2
          replace g2 := g2.below b; have c_g2 := g2.cell; have f_g2 := g2.free; have a_g2 := fun o => (g2.alloc o).cell; have d_g2 := fun o o2 => ((g2.alloc o).alloc o2).cell; have e_g2 := fun o => (g2.alloc o).free; replace m2 := cell_later b m2; replace B := B.trans (b.mono B.size); clear b
          have HG := Lib.hid (And.intro g1 (And.intro g2 B))
          go_wp2
          go_roundg (n - (j + 1))
          case measure => omega
          case rel => exact ⟨j + 1, by omega, rfl, by go_num, HG, HZ⟩
      · have hk3 : ((kd.toNat : Int) == 2) = false := by rw [beq_eq_false_iff_ne]; omega
        have HZ : Hid (∀ i, i < j + 1 → (t'.getD i 0).toNat = 2 → L20.FloatOk (l.getD (a + 2 + i) 0)) := Lib.hid (fun i hi h2 => by
          by_cases e : i = j
          · subst e; rw [hgk] at h2; exact absurd h2 hk2
          · exact hz.out i (by omega) h2)
        have HG := Lib.hid (And.intro g1 (And.intro g2 B))
        clear hgk hk2 hkd
        go_wp2
        go_roundg (n - (j + 1))
        case measure => omega
        case rel => exact ⟨j + 1, by omega, rfl, by go_num, HG, HZ⟩
    · obtain rfl : j = n := by omega
      have hc1 : c = true := by rw [HC.out.1, decide_eq_true_iff]; intro i hi h2; rw [HC.out.2]; exact hz.out i hi h2
      subst hc1
      go_wp2
      go_ret
      exact ⟨rfl, B⟩
set_option maxRecDepth 100000 in
set_option maxHeartbeats 2000000 in
theorem refsB_any (v tv sv bv : Value) (g gn : Nat) (l : List UInt64) (T : List (List UInt8)) (S : List Sl) (O : List Hb) (b : Hb) (c : Bool) (hc : c = decide (RefsB l T O b)) (hi : In19 l b) (hty : Typed T b) (hl : l.length ≤ 1000000) (hO : ∀ b ∈ O, b.at_ < l.length) (w : World) (h : Sg w v tv sv bv g gn l T S O) :
    Calls Tryz.prog 89 #[.agg #[v, tv, sv, bv, .map (some g)], .agg #[.int .i64 b.at_, .int .i64 b.size, .int .i64 b.kind, .int .i64 b.ty, .bool b.mark, .int .u64 b.next.toNat]] w fun e w' => e = .returned (.bool c) ∧ Below w.heap.size w w' := by
  have B : Below w.heap.size w w := Below.refl _ _
  obtain ⟨a, q, t, ha, hq, hT, hk, _, hle, _⟩ := in_kinds hi hty
  obtain ⟨ad, x, t', it, m0, ht', hx⟩ := h.t.at_ (k := q) (List.getElem?_eq_some_iff.1 hT).1
  obtain rfl : t' = t := by have := ht'.out; rw [hT] at this; injection this with this; exact this.symm
  obtain ⟨n, hn⟩ : ∃ n, n = t'.length := ⟨_, rfl⟩
  have lx := Rd.len hx.out Tryz.underlying83
  rw [← hn] at lx hle
  obtain ⟨N, hN⟩ : ∃ N, N = l.length := ⟨_, rfl⟩
  have lw := Rd.len h.w Tryz.underlying22
  rw [← hN] at lw hle hl
  have hcp : c = decide (∀ i, i < n → (t'.getD i 0).toNat = 3 → (fw l b i = 0 ∨ IsObj O (fw l b i).toNat)) := by rw [hc, Bool.eq_iff_iff, decide_eq_true_iff, decide_eq_true_iff]; unfold RefsB; rw [hk, ← hn]
  obtain ⟨at_, size, kind, ty, mark, next⟩ := b
  dsimp only at ha hq
  subst ha; subst hq
  have hfw : ∀ i, fw l ⟨(a : Int), size, kind, (q : Int), mark, next⟩ i = l.getD (a + 2 + i) 0 := fun i => by unfold fw; rw [Int.toNat_natCast]
  have HC := Lib.hid (And.intro hcp hfw)
  have hw1 : IntKind.i64.wrap ((a : Int) + 2) = (a : Int) + 2 := IntWalk.i64_in _ (by omega)
  have hw4 : IntKind.u64.wrap (N : Int) = (N : Int) := by rw [wrap_u64]; omega
  have HH := Lib.hid hn; have HX := hx; have HW := Lib.hid h; have HNN := Lib.hid hN; have HO := Lib.hid hO
  have HN := Lib.hid (And.intro hle hl)
  have hnb : n ≤ 1000000 := by omega
  clear hc hi hty hT hk hle ht' hx hcp hfw hn h hl hN hO
  go_enter Tryz.func89, Tryz.ntmps89
  go_upto_region 1 with (fail)
  refine wp_gen (fun Wv => Bx Wv (w.heap.size) (158) (#[v, tv, sv, bv, .map (some g)]) ∧ Bx Wv (w.heap.size + 1) (82) (#[.int .i64 a, .int .i64 size, .int .i64 kind, .int .i64 q, .bool mark, .int .u64 next.toNat]) ∧ Below w.heap.size w Wv) ⟨(((Bx.at_ (by simp)).alloc _)), ((Bx.at_ (by simp))), (((Below.refl _ w).alloc (by simp <;> omega) _).alloc (by simp <;> omega) _)⟩ ?_
  rintro wa1 ⟨g1, g2, b⟩
  replace m0 := cell_later b m0; replace B := B.trans (b.mono B.size); clear b
  have c_g1 := g1.cell; have f_g1 := g1.free; have a_g1 := fun o => (g1.alloc o).cell; have d_g1 := fun o o2 => ((g1.alloc o).alloc o2).cell; have e_g1 := fun o => (g1.alloc o).free
  have c_g2 := g2.cell; have f_g2 := g2.free; have a_g2 := fun o => (g2.alloc o).cell; have d_g2 := fun o o2 => ((g2.alloc o).alloc o2).cell; have e_g2 := fun o => (g2.alloc o).free
  go_wp2
  go_loopg [15] n (fun gg i wr => ∃ j : Nat, j ≤ n ∧ gg = n - j ∧ i = .int .i64 j ∧ wr = wa1 ∧ Hid (∀ i, i < j → (t'.getD i 0).toNat = 3 → (l.getD (a + 2 + i) 0 = 0 ∨ IsObj O (l.getD (a + 2 + i) 0).toNat)))
  case atStart => exact ⟨0, by omega, rfl, rfl, rfl, Lib.hid (fun i hi => by omega)⟩
  case round =>
    obtain ⟨j, hj, rfl, rfl, rfl, hz⟩ := hrel
    by_cases hlt : j < n
    · obtain ⟨ak, kd, ik, mk, hkd⟩ := (Byts.below HX.out B).at_ (P := Tryz.prog) Tryz.underlying83 one_u8 (k := j) (by rw [← HH.out]; exact hlt)
      have hgk : t'.getD j 0 = kd := by rw [List.getD_eq_getElem?_getD, hkd.out]; rfl
      obtain ⟨ad2, y, iy, m2, hy⟩ := (HW.out.below B).w.at_ (P := Tryz.prog) Tryz.underlying22 one_u64 (k := a + 2 + j) (by have := HN.out.1; rw [← HNN.out]; omega)
      have iy2 : ∀ W, (Instr.indexAt 22 v (.int .i64 ((a : Int) + 2 + (j : Int)))).run Tryz.prog W = .ok (.pointer (some ad2)) W := iy
      have hgy : l.getD (a + 2 + j) 0 = y := by rw [List.getD_eq_getElem?_getD, hy.out]; rfl
      have hw2 : IntKind.i64.wrap ((a : Int) + 2 + (j : Int)) = (a : Int) + 2 + (j : Int) := IntWalk.i64_in _ (by have := HN.out; omega)
      have hstep : ((t'.getD j 0).toNat = 3 → (y = 0 ∨ IsObj O y.toNat)) → Hid (∀ i, i < j + 1 → (t'.getD i 0).toNat = 3 → (l.getD (a + 2 + i) 0 = 0 ∨ IsObj O (l.getD (a + 2 + i) 0).toNat)) := fun hh => Lib.hid (fun i hi h2 => by
        by_cases e : i = j
        · subst e; rw [hgy]; exact hh h2
        · exact hz.out i (by omega) h2)
      have hfall : (t'.getD j 0).toNat = 3 → ¬ (y = 0 ∨ IsObj O y.toNat) → c = false := fun h3 hno => by
        rw [HC.out.1, decide_eq_false_iff_not]
        intro hall
        have := hall j hlt h3
        rw [HC.out.2, hgy] at this
        exact hno this
      by_cases hk3 : kd.toNat = 3
      · rw [hk3] at mk
        by_cases hy0 : y = 0
        · have h0 : ((y.toNat : Int) != 0) = false := by rw [hy0]; rfl
          have HZ := hstep (fun _ => .inl hy0)
          clear hstep hfall hgy hgk hy0 hy hkd hk3 iy
          go_wp2
          go_roundg (n - (j + 1))
          case measure => omega
          case rel => exact ⟨j + 1, by omega, rfl, by go_num, rfl, HZ⟩
        · have h0 : ((y.toNat : Int) != 0) = true := by rw [bne_iff_ne]; intro e; exact hy0 (UInt64.toNat.inj (by simp; omega))
          by_cases hyN : y.toNat < N
          · have h1 : ¬ ((N : Int) ≤ (y.toNat : Int)) := by omega
            have h2 : decide ((N : Int) ≤ (y.toNat : Int)) = false := decide_eq_false h1
            have h3 : decide (N ≤ y.toNat) = false := decide_eq_false (by omega)
            have hw3 : IntKind.i64.wrap (y.toNat : Int) = (y.toNat : Int) := IntWalk.i64_in _ (by have := HN.out; omega)
            have hlk := (HW.out.below B).look (a := (y.toNat : Int)) ⟨by omega, by have := HN.out; omega⟩
            obtain ⟨ob, hob⟩ : ∃ ob, ob = decide (IsObj O y.toNat) := ⟨_, rfl⟩
            rw [← hob] at hlk
            cases ob
            · have hc0 := hfall (by rw [hgk]; exact hk3) (fun h => h.elim hy0 (of_decide_eq_false hob.symm))
              subst hc0
              clear hstep hfall hgy hgk hy0 hy hkd hk3 hob iy
              go_wp2
              go_ret
              exact ⟨rfl, B⟩
            · have HZ := hstep (fun _ => .inr (of_decide_eq_true hob.symm))
              clear hstep hfall hgy hgk hy0 hy hkd hk3 hob iy
              go_wp2
              go_roundg (n - (j + 1))
              case measure => omega
              case rel => exact ⟨j + 1, by omega, rfl, by go_num, rfl, HZ⟩
          · have h1 : (N : Int) ≤ (y.toNat : Int) := by omega
            have h2 : decide ((N : Int) ≤ (y.toNat : Int)) = true := decide_eq_true h1
            have h3 : decide (N ≤ y.toNat) = true := decide_eq_true (by omega)
            have hc0 := hfall (by rw [hgk]; exact hk3) (fun h => h.elim hy0 (fun ⟨b', hb', e⟩ => by have := HO.out b' hb'; rw [← HNN.out] at this; omega))
            subst hc0
            clear hstep hfall hgy hgk hy0 hy hkd hk3 iy
            go_wp2
            go_ret
            exact ⟨rfl, B⟩
      · have hkn : ((kd.toNat : Int) == 3) = false := by rw [beq_eq_false_iff_ne]; omega
        have HZ := hstep (fun h3 => absurd (by rw [← hgk]; exact h3) hk3)
        clear hstep hfall hgy hgk hy hkd hk3 iy
        go_wp2
        go_roundg (n - (j + 1))
        case measure => omega
        case rel => exact ⟨j + 1, by omega, rfl, by go_num, rfl, HZ⟩
    · obtain rfl : j = n := by omega
      have hc1 : c = true := by rw [HC.out.1, decide_eq_true_iff]; intro i hi h2; rw [HC.out.2]; exact hz.out i hi h2
      subst hc1
      go_wp2
      go_ret
      exact ⟨rfl, B⟩
end Go.Proofs.YtmbokdnndlnjkaaGreat
namespace Go.Proofs.YtmbokdnndlnjkaaGreat
open Go.RowKit L02 L05 L06
def supV (W T : Int) : Value := .agg #[.int .i64 W, .int .i64 T]
def arr8 (l : List UInt64) : Value := .agg (l.map u64).toArray
set_option maxHeartbeats 1000000 in
theorem words_any (W T : Int) (w : World) (h : SupOk W T) : Calls Tryz.prog 136 #[supV W T] w fun e w' => e = .returned (arr8 (wordsOf W T)) ∧ Below w.heap.size w w' := by
  have h1 := h.1.1; have h2 := h.1.2.1; have h3 := h.2.1; have h4 := h.2.2
  have hu1 := u_nat (n := W) (by omega) (by omega)
  have hu2 := u_nat (n := T) (by omega) (by omega)
  have HU1 := Lib.hid hu1; have HU2 := Lib.hid hu2; clear hu1 hu2 h
  unfold supV
  go_enter Tryz.func136, Tryz.ntmps136
  go_wp2_with fail
  have hW : (((w.alloc (.cells #[.int .i64 W, .int .i64 T] 69)).alloc (.cells #[.int .u64 0, .int .u64 0, .int .u64 0, .int .u64 0, .int .u64 0, .int .u64 0, .int .u64 0, .int .u64 0] 219)).alloc
    (.cells #[.int .u64 32777959566500194, .int .u64 1, .int .u64 W, .int .u64 T, .int .u64 0, .int .u64 0, .int .u64 0, .int .u64 0] 219)).heap.size = w.heap.size + 1 + 1 + 1 := by simp
  have g2 := blk_new ((w.alloc (.cells #[.int .i64 W, .int .i64 T] 69)).alloc (.cells #[.int .u64 0, .int .u64 0, .int .u64 0, .int .u64 0, .int .u64 0, .int .u64 0, .int .u64 0, .int .u64 0] 219))
    (.cells #[.int .u64 32777959566500194, .int .u64 1, .int .u64 W, .int .u64 T, .int .u64 0, .int .u64 0, .int .u64 0, .int .u64 0] 219)
  have g1 := blk_old (blk_new (w.alloc (.cells #[.int .i64 W, .int .i64 T] 69)) (.cells #[.int .u64 0, .int .u64 0, .int .u64 0, .int .u64 0, .int .u64 0, .int .u64 0, .int .u64 0, .int .u64 0] 219))
    (.cells #[.int .u64 32777959566500194, .int .u64 1, .int .u64 W, .int .u64 T, .int .u64 0, .int .u64 0, .int .u64 0, .int .u64 0] 219)
  rw [show ((w.alloc (.cells #[.int .i64 W, .int .i64 T] 69)).alloc (.cells #[.int .u64 0, .int .u64 0, .int .u64 0, .int .u64 0, .int .u64 0, .int .u64 0, .int .u64 0, .int .u64 0] 219)).heap.size = w.heap.size + 1 + 1 by simp] at g2
  rw [show (w.alloc (.cells #[.int .i64 W, .int .i64 T] 69)).heap.size = w.heap.size + 1 by simp] at g1
  have B : Below w.heap.size w _ := (((Below.refl _ w).alloc (Nat.le_refl _) (.cells #[.int .i64 W, .int .i64 T] 69)).alloc (by simp) (.cells #[.int .u64 0, .int .u64 0, .int .u64 0, .int .u64 0, .int .u64 0, .int .u64 0, .int .u64 0, .int .u64 0] 219)).alloc (by simp; omega)
    (.cells #[.int .u64 32777959566500194, .int .u64 1, .int .u64 W, .int .u64 T, .int .u64 0, .int .u64 0, .int .u64 0, .int .u64 0] 219)
  have r := part_words (n := 7) (c := 8) (body W T) g2 rfl rfl (by simp [body, u64, HU1.out, HU2.out, magic]) (by simp)
  refine (Of_any _ _ _ r (by simp [body])).mono ?_
  rintro e w2 ⟨rfl, b⟩
  have g1' := blk_below g1 b; have g2' := blk_below g2 b
  replace B := B.trans (b.mono B.size)
  have hz := b.size
  rw [hW] at hz
  clear r b g1 g2 hW
  obtain ⟨S, hS⟩ : ∃ S, S = sum (body W T) := ⟨_, rfl⟩
  rw [← hS]
  have HS := Lib.hid hS; clear hS
  have c1 := blk_cell g1'; have c2 := blk_cell g2'; have f1 := blk_free g1'; have f2 := blk_free g2'
  have HB := Lib.hid B
  clear B g1' g2'
  go_wp2
  refine bodyPost_ret (v := arr8 (wordsOf W T)) ?_ rfl ⟨rfl, ?_⟩
  · simp [results, Tryz.results136, go_sem, c1, f1]
    simp [arr8, wordsOf, body, u64, HU1.out, HU2.out, magic, HS.out]
  · iterate 9 refine Below.setCell ?_ (by simp <;> omega) _
    exact HB.out
end Go.Proofs.YtmbokdnndlnjkaaGreat
namespace Go.Proofs.YtmbokdnndlnjkaaGreat
open Go.RowKit L02 L05 L06
set_option maxHeartbeats 1000000 in
theorem Read6_bad (v : Value) (l : List UInt64) (w : World) (h : Words w v l) (hl : l.length ≠ 8) :
    Calls Tryz.prog 92 #[v] w fun e w' => e = .returned (.tuple #[supV 0 0, .int .i64 2]) ∧ Below w.heap.size w w' := by
  have l1 := Rd.len h Tryz.underlying22
  have hne : ((l.length : Int) != 8) = true := by simp; omega
  clear h hl
  go_enter Tryz.func92, Tryz.ntmps92
  go_wp2
  go_step3
  go_wp2
  try rw [Exit.noGoto_ret]
  refine bodyPost_ret (v := .tuple #[supV 0 0, .int .i64 2]) ?_ rfl ⟨rfl, ?_⟩
  · simp [results, Tryz.results92, go_sem, supV]
  · exact (Below.refl _ _).alloc (Nat.le_refl _) _
set_option maxHeartbeats 1000000 in
theorem Read6_eight (v : Value) (l : List UInt64) (w : World) (h : Words w v l) (hl : l.length = 8) :
    Calls Tryz.prog 92 #[v] w fun e w' => e = .returned (.tuple #[supV (rdW l) (rdT l), .int .i64 (if ReadOk l then 0 else 50)]) ∧ Below w.heap.size w w' := by
  match l, hl with
  | [x0, x1, x2, x3, x4, x5, x6, x7], _ =>
  obtain ⟨b, o, c, rfl, hb, hc, hcell⟩ := Rd.form h (by simp)
  have c0 := hcell 0 (.int .u64 x0.toNat) rfl
  have c1 := hcell 1 (.int .u64 x1.toNat) rfl
  have c2 := hcell 2 (.int .u64 x2.toNat) rfl
  have c3 := hcell 3 (.int .u64 x3.toNat) rfl
  have c4 := hcell 4 (.int .u64 x4.toNat) rfl
  have c5 := hcell 5 (.int .u64 x5.toNat) rfl
  have c6 := hcell 6 (.int .u64 x6.toNat) rfl
  have c7 := hcell 7 (.int .u64 x7.toNat) rfl
  simp only [Nat.add_zero] at c0
  clear h hcell
  go_enter Tryz.func92, Tryz.ntmps92
  go_wp2
  have ha : ∀ W, (Instr.arrayAt 219 (.slice (some ⟨b, o, none⟩) 8 c)).run Tryz.prog W = .ok (.pointer (some ⟨b, o, none⟩)) W := fun W => by simp [Instr.arrayAt, run_underlying Tryz.underlying219]
  go_step3
  go_wp2
  go_step3
  go_wp2
  obtain ⟨A, hA⟩ : ∃ A, A = (x2.toNat : Int) := ⟨_, rfl⟩
  obtain ⟨T, hT⟩ : ∃ T, T = (x3.toNat : Int) := ⟨_, rfl⟩
  have hA0 : 0 ≤ A := by omega
  have hT0 : 0 ≤ T := by omega
  rw [← hA, ← hT]
  have HA := Lib.hid hA; have HT := Lib.hid hT
  clear hA hT c0 c1 c2 c3 c4 c5 c6 c7 ha
  go_loop [6] (fun n => ∃ k : Int, 256 ≤ k ∧ k ≤ 2056 ∧ k % 8 = 0 ∧ n = .int .i64 k ∧ ¬ (256 ≤ A ∧ A < k ∧ A % 8 = 0 ∧ T ≤ 8)) (fun n => (2056 - intOf n).toNat)
  case atStart => exact ⟨256, by omega, by omega, by omega, rfl, by omega⟩
  case round =>
    obtain ⟨n, n1, n2, n3, rfl, n4⟩ := hrel
    have N3 := Lib.hid n3; have N4 := Lib.hid n4; clear n3 n4
    by_cases hlt : n ≤ 2048
    · by_cases hnA : n = A
      · subst hnA
        go_wp2
        go_loop [19] (fun t => ∃ j : Int, 0 ≤ j ∧ j ≤ 9 ∧ t = .int .i64 j ∧ ¬ T < j) (fun t => (9 - intOf t).toNat)
        case atStart => exact ⟨0, by omega, by omega, rfl, by omega⟩
        case round =>
          obtain ⟨t, t1, t2, rfl, t3⟩ := hrel
          by_cases htl : t < 9
          · by_cases htT : t = T
            · subst htT
              go_wp2
              refine wp_gen (fun W => W.heap[w.heap.size]? = some (.cells #[.int .i64 0, .int .i64 0] 69 (0, 0)) ∧ W.heap[w.heap.size + 1]? = some (.cells #[.int .i64 n, .int .i64 t] 69 (0, 0)) ∧
                W.heap[w.heap.size + 1 + 1]? = some (.cells #[.int .u64 x0.toNat, .int .u64 x1.toNat, .int .u64 n, .int .u64 t, .int .u64 x4.toNat, .int .u64 x5.toNat, .int .u64 x6.toNat, .int .u64 x7.toNat] 219 (0, 0)) ∧ Below w.heap.size w W ∧ w.heap.size + 3 ≤ W.heap.size)
                ⟨by simp only [alloc_heap, Array.getElem?_push, Array.size_push]; simp <;> omega, by simp only [alloc_heap, Array.getElem?_push, Array.size_push]; simp <;> omega, by simp only [alloc_heap, Array.getElem?_push, Array.size_push]; simp <;> omega, (((Below.refl _ w).alloc (Nat.le_refl _) _).alloc (by simp) _).alloc (by simp; omega) _, by simp⟩ ?_
              rintro w1 ⟨g0, g1, g2, B, hz⟩
              have c0 := blk_cell g0; have c1 := blk_cell g1; have c2 := blk_cell g2; have f0 := blk_free g0
              have HB := Lib.hid B; clear B
              have s0 : w1.cell? ⟨w.heap.size + 1, 0, none⟩ = some (.int .i64 n) := c1 0
              have s1 : w1.cell? ⟨w.heap.size + 1, 1, none⟩ = some (.int .i64 t) := c1 1
              have a0 : w1.cell? ⟨w.heap.size + 1 + 1, 0, none⟩ = some (.int .u64 x0.toNat) := c2 0
              have a1 : w1.cell? ⟨w.heap.size + 1 + 1, 1, none⟩ = some (.int .u64 x1.toNat) := c2 1
              have a2 : w1.cell? ⟨w.heap.size + 1 + 1, 2, none⟩ = some (.int .u64 n) := c2 2
              have a3 : w1.cell? ⟨w.heap.size + 1 + 1, 3, none⟩ = some (.int .u64 t) := c2 3
              have a4 : w1.cell? ⟨w.heap.size + 1 + 1, 4, none⟩ = some (.int .u64 x4.toNat) := c2 4
              have a5 : w1.cell? ⟨w.heap.size + 1 + 1, 5, none⟩ = some (.int .u64 x5.toNat) := c2 5
              have a6 : w1.cell? ⟨w.heap.size + 1 + 1, 6, none⟩ = some (.int .u64 x6.toNat) := c2 6
              have a7 : w1.cell? ⟨w.heap.size + 1 + 1, 7, none⟩ = some (.int .u64 x7.toNat) := c2 7
              have G0 := Lib.hid g0; have G1 := Lib.hid g1; have G2 := Lib.hid g2; have HT0 := Lib.hid t3
              have hok : SupOk n t := ⟨⟨n1, hlt, N3.out⟩, t1, by omega⟩
              have HOK := Lib.hid hok
              have hcmp := fun W => run_neq_words (P := Tryz.prog) (n := 8) Tryz.underlying219 (by kernel_rfl) Tryz.underlying42 (by kernel_rfl) (fun X j u W h => run_part_plain W (by kernel_rfl) h) (wordsOf n t) [x0, x1, x2, x3, x4, x5, x6, x7] rfl rfl W
              have e1 : (List.map u64 [x0, x1, x2, x3, x4, x5, x6, x7]).toArray = #[.int .u64 x0.toNat, .int .u64 x1.toNat, .int .u64 n, .int .u64 t, .int .u64 x4.toNat, .int .u64 x5.toNat, .int .u64 x6.toNat, .int .u64 x7.toNat] := by rw [HA.out, HT.out]; rfl
              rw [e1] at hcmp
              obtain ⟨V, hV⟩ : ∃ V, V = (List.map u64 (wordsOf n t)).toArray := ⟨_, rfl⟩
              rw [← hV] at hcmp
              have HV := Lib.hid hV
              have hz0 : (n == 0) = false := by rw [beq_eq_false_iff_ne]; omega
              have heql : ∀ W, (binOp .eql 69 (.agg #[.int .i64 n, .int .i64 t]) (.agg #[.int .i64 0, .int .i64 0])).run Tryz.prog W = .ok (.bool false) W := by
                intro W
                simp [go_sem, hz0]
              clear g0 g1 g2 c1 c2 t3 hok e1 hV hz0
              obtain ⟨dB, hdB⟩ : ∃ dB, dB = decide (wordsOf n t = [x0, x1, x2, x3, x4, x5, x6, x7]) := ⟨_, rfl⟩
              rw [← hdB] at hcmp
              have HDB := Lib.hid hdB; clear hdB
              have hat : at2 [x0, x1, x2, x3, x4, x5, x6, x7] = n ∧ at3 [x0, x1, x2, x3, x4, x5, x6, x7] = t := ⟨HA.out.symm, HT.out.symm⟩
              have HAT := Lib.hid hat; clear hat
              have k3 : ∀ (W : World), Below w1.heap.size w1 W → W.heap[w.heap.size]? = some (.cells #[.int .i64 0, .int .i64 0] 69 (0, 0)) := fun W b => blk_below G0.out b
              have K3 := Lib.hid k3; clear k3
              cases dB
              all_goals
                go_region_held3 (fun w' => w'.cell? ⟨w.heap.size + 1, 0, none⟩ = some (.int .i64 n) ∧ w'.cell? ⟨w.heap.size + 1, 1, none⟩ = some (.int .i64 t) ∧ w'.cell? ⟨w.heap.size + 1 + 1, 0, none⟩ = some (.int .u64 x0.toNat) ∧ w'.cell? ⟨w.heap.size + 1 + 1, 1, none⟩ = some (.int .u64 x1.toNat) ∧ w'.cell? ⟨w.heap.size + 1 + 1, 2, none⟩ = some (.int .u64 n) ∧ w'.cell? ⟨w.heap.size + 1 + 1, 3, none⟩ = some (.int .u64 t) ∧ w'.cell? ⟨w.heap.size + 1 + 1, 4, none⟩ = some (.int .u64 x4.toNat) ∧ w'.cell? ⟨w.heap.size + 1 + 1, 5, none⟩ = some (.int .u64 x5.toNat) ∧ w'.cell? ⟨w.heap.size + 1 + 1, 6, none⟩ = some (.int .u64 x6.toNat) ∧ w'.cell? ⟨w.heap.size + 1 + 1, 7, none⟩ = some (.int .u64 x7.toNat))
                  (first | exact ⟨s0, s1, a0, a1, a2, a3, a4, a5, a6, a7⟩ | exact ⟨(k2 _ _ (by omega)).trans s0, (k2 _ _ (by omega)).trans s1, (k2 _ _ (by omega)).trans a0, (k2 _ _ (by omega)).trans a1, (k2 _ _ (by omega)).trans a2, (k2 _ _ (by omega)).trans a3, (k2 _ _ (by omega)).trans a4, (k2 _ _ (by omega)).trans a5, (k2 _ _ (by omega)).trans a6, (k2 _ _ (by omega)).trans a7⟩)
                  (first | (go_at_call 136; refine (words_any n t _ HOK.out).mono ?_; rw [show arr8 (wordsOf n t) = .agg V by rw [HV.out]; rfl]; rintro e w2 ⟨rfl, b2⟩; have k2 : ∀ (g q : Nat), g < w1.heap.size → w2.cell? ⟨g, q, none⟩ = w1.cell? ⟨g, q, none⟩ := fun g q hg => b2.cell (p := ⟨g, q, none⟩) hg))
                have b3 := (below_drewN (Below.refl w1.heap.size w1) 1).trans b2
                have z0 := blk_cell (K3.out _ b3); have zf := blk_free (K3.out _ b3); have z1 := blk_cell (blk_below G1.out b3)
                have HB2 := Lib.hid b3
                clear k2 b2 b3
                go_wp2
                try rw [Exit.noGoto_ret]
              · have hno : ¬ ReadOk [x0, x1, x2, x3, x4, x5, x6, x7] := by
                  rintro ⟨_, h2⟩
                  rw [HAT.out.1, HAT.out.2] at h2
                  exact absurd h2.symm (of_decide_eq_false HDB.out.symm)
                refine bodyPost_ret (v := .tuple #[supV 0 0, .int .i64 50]) ?_ rfl ⟨?_, ?_⟩
                · simp [results, Tryz.results92, go_sem, supV, z0, zf]
                · rw [if_neg hno, (rd_no hno).1, (rd_no hno).2]
                · exact ((HB.out.trans (HB2.out.mono HB.out.size)).setCell (Nat.le_refl _) _).setCell (Nat.le_refl _) _
              · have hyes : ReadOk [x0, x1, x2, x3, x4, x5, x6, x7] := by
                  unfold ReadOk
                  rw [HAT.out.1, HAT.out.2]
                  exact ⟨HOK.out, (of_decide_eq_true HDB.out.symm).symm⟩
                refine bodyPost_ret (v := .tuple #[supV n t, .int .i64 0]) ?_ rfl ⟨?_, ?_⟩
                · simp [results, Tryz.results92, go_sem, supV, z0, zf]
                · rw [if_pos hyes, rdW, if_pos hyes, rdT, if_pos hyes, HAT.out.1, HAT.out.2]
                · exact ((HB.out.trans (HB2.out.mono HB.out.size)).setCell (Nat.le_refl _) _).setCell (Nat.le_refl _) _
            · have hne : (t == T) = false := by rw [beq_eq_false_iff_ne]; exact htT
              go_wp2
              go_round
              case rel => exact ⟨t + 1, by omega, by omega, rfl, by omega⟩
              case measure => simp [intOf]; omega
          · go_wp2
            go_round
            case rel => exact ⟨n + 8, by omega, by omega, by have := N3.out; omega, rfl, by omega⟩
            case measure => simp [intOf]; omega
      · have hne : (n == A) = false := by rw [beq_eq_false_iff_ne]; exact hnA
        go_wp2
        go_loop [19] (fun t => ∃ j : Int, 0 ≤ j ∧ j ≤ 9 ∧ t = .int .i64 j) (fun t => (9 - intOf t).toNat)
        case atStart => exact ⟨0, by omega, by omega, rfl⟩
        case round =>
          obtain ⟨t, t1, t2, rfl⟩ := hrel
          by_cases htl : t < 9
          · go_wp2
            go_round
            case rel => exact ⟨t + 1, by omega, by omega, rfl⟩
            case measure => simp [intOf]; omega
          · go_wp2
            go_round
            case rel => exact ⟨n + 8, by omega, by omega, by have := N3.out; omega, rfl, by have := N3.out; have := N4.out; omega⟩
            case measure => simp [intOf]; omega
    · go_wp2
      refine wp_gen (fun W => W.heap[w.heap.size]? = some (.cells #[.int .i64 0, .int .i64 0] 69 (0, 0)) ∧ W.heap[w.heap.size + 1]? = some (.cells #[.int .i64 0, .int .i64 0] 69 (0, 0)) ∧
        W.heap[w.heap.size + 1 + 1]? = some (.cells #[.int .u64 x0.toNat, .int .u64 x1.toNat, .int .u64 A, .int .u64 T, .int .u64 x4.toNat, .int .u64 x5.toNat, .int .u64 x6.toNat, .int .u64 x7.toNat] 219 (0, 0)) ∧ Below w.heap.size w W ∧ w.heap.size + 3 ≤ W.heap.size)
        ⟨by simp only [alloc_heap, Array.getElem?_push, Array.size_push]; simp <;> omega, by simp only [alloc_heap, Array.getElem?_push, Array.size_push]; simp <;> omega, by simp only [alloc_heap, Array.getElem?_push, Array.size_push]; simp <;> omega, (((Below.refl _ w).alloc (Nat.le_refl _) _).alloc (by simp) _).alloc (by simp; omega) _, by simp⟩ ?_
      rintro w1 ⟨g0, g1, g2, B, hz⟩
      have c0 := blk_cell g0; have c1 := blk_cell g1; have c2 := blk_cell g2; have f0 := blk_free g0
      have HB := Lib.hid B; clear B
      have G0 := Lib.hid g0; clear g0 g1 g2
      go_big_quiet (fail)
      go_wp2
      try rw [Exit.noGoto_ret]
      have hno : ¬ ReadOk [x0, x1, x2, x3, x4, x5, x6, x7] := by
        rintro ⟨⟨⟨h1, h2, h3⟩, h4, h5⟩, _⟩
        have h6 : at2 [x0, x1, x2, x3, x4, x5, x6, x7] = A := HA.out.symm
        have h7 : at3 [x0, x1, x2, x3, x4, x5, x6, x7] = T := HT.out.symm
        rw [h6] at h1 h2 h3
        rw [h7] at h4 h5
        exact N4.out ⟨h1, by omega, h3, h5⟩
      refine bodyPost_ret (v := .tuple #[supV 0 0, .int .i64 50]) ?_ rfl ⟨?_, ?_⟩
      · simp [results, Tryz.results92, go_sem, supV, c0, f0]
      · rw [if_neg hno, (rd_no hno).1, (rd_no hno).2]
      · exact ((below_drewN HB.out _).setCell (Nat.le_refl _) _).setCell (Nat.le_refl _) _
theorem Read6_any (v : Value) (l : List UInt64) (w : World) (h : Words w v l) :
    Calls Tryz.prog 92 #[v] w fun e w' => e = .returned (.tuple #[supV (rdW l) (rdT l), .int .i64 (rdErr l)]) ∧ Below w.heap.size w w' := by
  by_cases hl : l.length = 8
  · rw [rdErr, if_pos hl]; exact Read6_eight v l w h hl
  · have hno : ¬ ReadOk l := fun hr => hl (readOk_len hr)
    rw [rdErr, if_neg hl, (rd_no hno).1, (rd_no hno).2]; exact Read6_bad v l w h hl
end Go.Proofs.YtmbokdnndlnjkaaGreat
namespace Go.Proofs.YtmbokdnndlnjkaaGreat
open Go.RowKit L02 L05 L06
set_option maxHeartbeats 600000 in
theorem Check6R_any (W T : Int) (w : World) : Calls Tryz.prog 170 #[supV W T] w fun e w' => e = .returned (.int .i64 (supErr W T)) ∧ Below w.heap.size w w' := by
  unfold supV
  by_cases hs : SizeOk W
  · have HS := Lib.hid hs; clear hs
    go_enter Tryz.func170, Tryz.ntmps170
    go_wp2_with (go_at_call 160; refine (SizeR_any _ true (decide_eq_true HS.out).symm _).mono ?_; rintro e w' ⟨rfl, rfl⟩)
    all_goals
      go_ret
      refine ⟨ret_int ?_, (Below.refl _ _).alloc (Nat.le_refl _) _⟩
      first
      | exact (if_pos ⟨HS.out, by omega, by omega⟩).symm
      | exact (if_neg (fun h => by have := h.2; omega)).symm
  · have HS := Lib.hid hs; clear hs
    go_enter Tryz.func170, Tryz.ntmps170
    go_wp2_with (go_at_call 160; refine (SizeR_any _ false (decide_eq_false HS.out).symm _).mono ?_; rintro e w' ⟨rfl, rfl⟩)
    go_ret
    exact ⟨ret_int (if_neg (fun h => HS.out h.1)).symm, (Below.refl _ _).alloc (Nat.le_refl _) _⟩
set_option maxHeartbeats 1000000 in
theorem Written_any (W T : Int) (w : World) (h : SupOk W T) : Calls Tryz.prog 171 #[supV W T] w fun e w' => ∃ v, e = .returned v ∧ OwnW w' w.heap.size 42 v (wordsOf W T) ∧ Below w.heap.size w w' := by
  have h1 := h.1.1; have h2 := h.1.2.1; have h3 := h.2.1; have h4 := h.2.2
  have hu1 := u_nat (n := W) (by omega) (by omega)
  have hu2 := u_nat (n := T) (by omega) (by omega)
  have HU1 := Lib.hid hu1; have HU2 := Lib.hid hu2; clear hu1 hu2 h
  unfold supV
  go_enter Tryz.func171, Tryz.ntmps171
  go_wp2_with fail
  refine calls_gen (fun W' => W'.ownsRow w.heap.size 42 1 (.slice (some ⟨w.heap.size + 1, 0, none⟩) 7 7) 7 ((body W T).map u64) ∧ Below w.heap.size w W') ⟨?_, ((Below.refl _ w).alloc (Nat.le_refl _) _).alloc (by simp) _⟩ ?_
  · have := World.ownsRow_lit (base := w.heap.size) (size := 1) (e := 42) (w.alloc (.cells #[.int .i64 W, .int .i64 T] 69)) #[.int .u64 32777959566500194, .int .u64 1, .int .u64 W, .int .u64 T, .int .u64 0, .int .u64 0, .int .u64 0] 7 (by simp) (by simp [maxLen]) rfl
    rw [alloc_sz] at this
    have e : (body W T).map u64 = [.int .u64 32777959566500194, .int .u64 1, .int .u64 W, .int .u64 T, .int .u64 0, .int .u64 0, .int .u64 0] := by simp [body, u64, HU1.out, HU2.out, magic]
    rw [e]
    exact this
  rintro w1 ⟨o1, B⟩
  refine (SumR_any _ _ _ (OwnW.rd (OwnW.of o1 rfl)) (by simp [body])).mono ?_
  rintro e w2 ⟨rfl, b⟩
  replace o1 := own_below o1 b; replace B := B.trans (b.mono B.size); clear b
  have HO := Lib.hid o1; have HB := Lib.hid B; clear o1 B
  obtain ⟨S, hS⟩ : ∃ S, S = sum (body W T) := ⟨_, rfl⟩
  rw [← hS]
  have HS := Lib.hid hS; clear hS
  go_wp2_with (at_builtin; refine wpList_append (by rfl) rfl rfl rfl Tryz.underlying22 info_u64 rfl (by omega) (by exact own_below HO.out ((Below.refl _ _).alloc (Nat.le_refl _) _)) (by exact lit_rd) (by simp [Value.oneCell']) (by omega) (by omega) (by exact HB.out.alloc HB.out.size _) (Nat.le_refl _) ?_; intro v1 w3 o3 B3 g3; clear g3)
  go_ret
  refine ⟨v1, rfl, OwnW.of o3 ?_, B3⟩
  rw [wordsOf, List.map_append, HS.out]; rfl
set_option maxHeartbeats 2000000 in
theorem Read6R_any (v : Value) (l : List UInt64) (w : World) (h : Words w v l) (hmax : l.length ≤ 2100) :
    Calls Tryz.prog 163 #[v] w fun e w' => e = .returned (.tuple #[supV (rdW l) (rdT l), .int .i64 (rdErr l)]) ∧ Below w.heap.size w w' := by
  have l1 := Rd.len h Tryz.underlying22
  by_cases hl : l.length = 8
  · rw [rdErr, if_pos hl]
    obtain ⟨E, hE⟩ : ∃ E, E = (if ReadOk l then (0 : Int) else 50) := ⟨_, rfl⟩
    rw [← hE]
    have HE := Lib.hid hE; clear hE
    have hlt2 : (2 : Int) < l.length := by omega
    have hlt3 : (3 : Int) < l.length := by omega
    obtain ⟨ad2, x2, i2, c2, e2⟩ := h.atI Tryz.underlying22 one_u64 (k := (2 : Int)) (by omega) hlt2
    obtain ⟨ad3, x3, i3, c3, e3⟩ := h.atI Tryz.underlying22 one_u64 (k := (3 : Int)) (by omega) hlt3
    have hA : at2 l = (x2.toNat : Int) := by unfold at2; rw [List.getD_eq_getElem?_getD, show l[2]? = some x2 from e2.out]; rfl
    have hT : at3 l = (x3.toNat : Int) := by unfold at3; rw [List.getD_eq_getElem?_getD, show l[3]? = some x3 from e3.out]; rfl
    rw [hl] at l1
    obtain ⟨A, hAA⟩ : ∃ A, A = (x2.toNat : Int) := ⟨_, rfl⟩
    obtain ⟨T, hTT⟩ : ∃ T, T = (x3.toNat : Int) := ⟨_, rfl⟩
    have hA0 : 0 ≤ A := by omega
    have hT0 : 0 ≤ T := by omega
    rw [← hAA] at hA c2; rw [← hTT] at hT c3
    have d2 : ∀ o, (w.alloc o).cell? ad2 = some (.int .u64 A) := fun o => (World.cell?_alloc_lt w o ad2 (World.block_lt_of_cell? w _ c2)).trans c2
    have d3 : ∀ o, (w.alloc o).cell? ad3 = some (.int .u64 T) := fun o => (World.cell?_alloc_lt w o ad3 (World.block_lt_of_cell? w _ c3)).trans c3
    have H := Lib.hid h; have HA := Lib.hid hA; have HT := Lib.hid hT
    clear h hlt2 hlt3 hA hT hAA hTT e2 e3
    by_cases hbig : 1000000 < A ∨ 1000000 < T
    · have hno : ¬ ReadOk l := by
        rintro ⟨⟨⟨_, h2, _⟩, _, h5⟩, _⟩
        rw [HA.out] at h2; rw [HT.out] at h5; omega
      have hE := HE.out
      rw [if_neg hno] at hE
      subst hE
      rw [(rd_no hno).1, (rd_no hno).2]
      clear hno
      rcases hbig with hb | hb
      · go_enter Tryz.func163, Tryz.ntmps163
        go_wp2
        refine bodyPost_ret (v := .tuple #[supV 0 0, .int .i64 50]) ?_ rfl ⟨rfl, ?_⟩
        · simp [results, Tryz.results163, go_sem, supV]
        · exact (Below.refl _ _).alloc (Nat.le_refl _) _
      · by_cases hb' : 1000000 < A
        all_goals
          go_enter Tryz.func163, Tryz.ntmps163
          go_wp2
          refine bodyPost_ret (v := .tuple #[supV 0 0, .int .i64 50]) ?_ rfl ⟨rfl, ?_⟩
          · simp [results, Tryz.results163, go_sem, supV]
          · exact (Below.refl _ _).alloc (Nat.le_refl _) _
    · have hb1 : A ≤ 1000000 := by omega
      have hb2 : T ≤ 1000000 := by omega
      clear hbig
      go_enter Tryz.func163, Tryz.ntmps163
      go_wp2
      refine wp_gen (fun W => W.heap[w.heap.size]? = some (.cells #[.int .i64 0, .int .i64 0] 69 (0, 0)) ∧ Below w.heap.size w W ∧ w.heap.size + 1 ≤ W.heap.size ∧ W.cell? ad2 = some (.int .u64 A) ∧ W.cell? ad3 = some (.int .u64 T))
        ⟨by simp only [alloc_heap, Array.getElem?_push]; simp, (Below.refl _ w).alloc (Nat.le_refl _) _, by simp, d2 _, d3 _⟩ ?_
      clear c2 c3 d2 d3
      rintro w1 ⟨g0, B, hz, c2, c3⟩
      have d2 : ∀ o, (w1.alloc o).cell? ad2 = some (.int .u64 A) := fun o => (World.cell?_alloc_lt w1 o ad2 (World.block_lt_of_cell? w1 _ c2)).trans c2
      have d3 : ∀ o, (w1.alloc o).cell? ad3 = some (.int .u64 T) := fun o => (World.cell?_alloc_lt w1 o ad3 (World.block_lt_of_cell? w1 _ c3)).trans c3
      have G0 := Lib.hid g0; have HB := Lib.hid B; clear g0 B
      go_region
      clear c2 c3 d2 d3
      go_wp2_with fail
      refine calls_gen (fun W => W.heap[w.heap.size]? = some (.cells #[.int .i64 0, .int .i64 0] 69 (0, 0)) ∧ W.heap[w1.heap.size]? = some (.cells #[.int .i64 A, .int .i64 T] 69 (0, 0)) ∧ Below w.heap.size w W ∧ w1.heap.size + 1 ≤ W.heap.size)
        ⟨blk_old (w := w1) G0.out _, blk_new w1 _, (HB.out.alloc HB.out.size _).drew, by simp⟩ ?_
      rintro w2 ⟨g0, g1, B, hz2⟩
      refine (Check6R_any A T _).mono ?_
      by_cases hok : SupOk A T
      · have hrd : ReadOk l ↔ wordsOf A T = l := by
          unfold ReadOk; rw [HA.out, HT.out]
          exact ⟨fun h => h.2.symm, fun h => ⟨hok, h.symm⟩⟩
        have HRD := Lib.hid hrd
        rw [show supErr A T = 0 from if_pos hok]
        have HOK := Lib.hid hok
        clear hrd hok
        rintro e w3 ⟨rfl, b⟩
        replace g0 := blk_below g0 b; replace g1 := blk_below g1 b; replace B := B.trans (b.mono B.size)
        have h2 : Words w3 v l := H.out.below B
        have c1 := blk_cell g1
        have hz3 := b.size
        have G0 := Lib.hid g0; have G1 := Lib.hid g1; have HB := Lib.hid B; have H2 := Lib.hid h2
        clear g0 g1 b B h2
        go_wp2_with fail
        refine (Written_any A T _ HOK.out).mono ?_
        rintro e w4 ⟨x, rfl, o, b⟩
        have G0' := Lib.hid (blk_below G0.out b); have G1' := Lib.hid (blk_below G1.out b); have HB' := Lib.hid (HB.out.trans (b.mono HB.out.size)); have H2' := Lib.hid (H2.out.below b)
        have r := o.rd
        clear o b c1
        go_wp2_with fail
        refine (Same_any _ _ _ _ _ r H2'.out).mono ?_
        obtain ⟨dB, hdB⟩ : ∃ dB, dB = same (wordsOf A T) l := ⟨_, rfl⟩
        rw [← hdB]
        have HDB := Lib.hid hdB
        clear hdB r
        rintro e w5 ⟨rfl, q⟩
        have b := q.below
        have z0 := blk_cell (blk_below G0'.out b); have zf := blk_free (blk_below G0'.out b); have z1 := blk_cell (blk_below G1'.out b)
        have HB5 := Lib.hid (HB'.out.trans (b.mono HB'.out.size))
        clear b q
        cases dB
        all_goals go_wp2
        · have hno : ¬ ReadOk l := fun hr => by
            have := HRD.out.1 hr
            have h6 := HDB.out
            rw [this, same_refl] at h6; cases h6
          rw [HE.out, if_neg hno, (rd_no hno).1, (rd_no hno).2]
          refine bodyPost_ret (v := .tuple #[supV 0 0, .int .i64 50]) ?_ rfl ⟨rfl, ?_⟩
          · simp [results, Tryz.results163, go_sem, supV, z0, zf]
          · exact (HB5.out.setCell (Nat.le_refl _) _).setCell (Nat.le_refl _) _
        · have hyes : ReadOk l := HRD.out.2 (by have := HDB.out.symm; simpa [same] using this)
          rw [HE.out, if_pos hyes, rdW, if_pos hyes, rdT, if_pos hyes, HA.out, HT.out]
          refine bodyPost_ret (v := .tuple #[supV A T, .int .i64 0]) ?_ rfl ⟨rfl, ?_⟩
          · simp [results, Tryz.results163, go_sem, supV, z0, zf]
          · exact (HB5.out.setCell (Nat.le_refl _) _).setCell (Nat.le_refl _) _
      · have hno : ¬ ReadOk l := fun hr => hok (by have := hr.1; rwa [HA.out, HT.out] at this)
        rw [show supErr A T = 8 from if_neg hok]
        have HNO := Lib.hid hno
        clear hno hok
        rintro e w3 ⟨rfl, b⟩
        have z0 := blk_cell (blk_below g0 b); have zf := blk_free (blk_below g0 b)
        have HB5 := Lib.hid (B.trans (b.mono B.size))
        clear g0 g1 b B
        go_wp2
        rw [HE.out, if_neg HNO.out, (rd_no HNO.out).1, (rd_no HNO.out).2]
        refine bodyPost_ret (v := .tuple #[supV 0 0, .int .i64 50]) ?_ rfl ⟨rfl, ?_⟩
        · simp [results, Tryz.results163, go_sem, supV, z0, zf]
        · exact (HB5.out.setCell (Nat.le_refl _) _).setCell (Nat.le_refl _) _
  · have hno : ¬ ReadOk l := fun hr => hl (readOk_len hr)
    rw [rdErr, if_neg hl, (rd_no hno).1, (rd_no hno).2]
    have hne : ((l.length : Int) != 8) = true := by simp; omega
    clear h hl hno
    go_enter Tryz.func163, Tryz.ntmps163
    go_wp2
    refine bodyPost_ret (v := .tuple #[supV 0 0, .int .i64 2]) ?_ rfl ⟨rfl, ?_⟩
    · simp [results, Tryz.results163, go_sem, supV]
    · exact (Below.refl _ _).alloc (Nat.le_refl _) _
end Go.Proofs.YtmbokdnndlnjkaaGreat
