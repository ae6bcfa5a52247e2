/- Contracts of the functions that the laws 'N' reach, part 10. No condition. -/
import Derived.Test.YtodbbacmdjcheaaMNi
set_option linter.unusedVariables false
set_option linter.unusedSimpArgs false
namespace Go.Proofs.Ytodbbacmdjcheaa
open Go.RowKit L01 L02 L05 L13 L14 L15 L18 L19
/-- the kinds of the fields of an object, and where its words lie -/
theorem in_kinds {l : List UInt64} {T : List (List UInt8)} {b : Hb} (hi : In19 l b) (ht : Typed T b) : ∃ (a q : Nat) (t : List UInt8), b.at_ = a ∧ b.ty = q ∧ T[q]? = some t ∧ kindsB T b = t ∧ 128 ≤ a + 128 ∧ a + 2 + t.length ≤ l.length ∧ (t.length % 2 = 1 → a + 2 + t.length < l.length) := by
  obtain ⟨a, ha, hok, hle⟩ := hi
  have hb := hok.bounds
  obtain ⟨q, hq⟩ := Int.eq_ofNat_of_zero_le hb.2.2.2.2.1
  have hlt : q < T.length := by have := ht.1; omega
  have hT : T[q]? = some T[q] := List.getElem?_eq_getElem hlt
  have hk : kindsB T b = T[q] := by unfold kindsB; rw [hq, Int.toNat_natCast, List.getD_eq_getElem?_getD, hT]; rfl
  have hs := ht.2
  rw [hk] at hs
  exact ⟨a, q, T[q], ha, hq, hT, hk, by omega, by omega, fun h => by omega⟩
set_option maxRecDepth 100000 in
set_option maxHeartbeats 1000000 in
theorem paddedB_any (v tv sv bv : Value) (g : Nat) (l : List UInt64) (T : List (List UInt8)) (b : Hb) (c : Bool) (hc : c = decide (Padded l T b)) (hi : In19 l b) (hty : Typed T b) (hl : l.length ≤ 1000000) (w : World) (hw : Words w v l) (h : Typs w tv T) :
    Calls Try.prog 77 #[.agg #[v, tv, sv, bv, .map (some g)], .agg #[.int .i64 b.at_, .int .i64 b.size, .int .i64 b.kind, .int .i64 b.ty, .bool b.mark, .int .u64 b.next.toNat]] w fun e w' => e = .returned (.bool c) ∧ Below w.heap.size w w' := by
  have B : Below w.heap.size w w := Below.refl _ _
  obtain ⟨a, q, t, ha, hq, hT, hk, _, hle, hodd⟩ := in_kinds hi hty
  obtain ⟨ad, x, t', it, m0, ht', hx⟩ := h.at_ (k := q) (List.getElem?_eq_some_iff.1 hT).1
  obtain rfl : t' = t := by have := ht'.out; rw [hT] at this; injection this with this; exact this.symm
  obtain ⟨n, hn⟩ : ∃ n, n = t'.length := ⟨_, rfl⟩
  have lx := Rd.len hx.out Try.underlying69
  rw [← hn] at lx hle hodd
  have hcp : c = decide (n % 2 = 0 ∨ fw l b n = 0) := by rw [hc, Bool.eq_iff_iff, decide_eq_true_iff, decide_eq_true_iff]; unfold Padded; rw [hk, ← hn]
  obtain ⟨at_, size, kind, ty, mark, next⟩ := b
  dsimp only at ha hq
  subst ha; subst hq
  have hfw : fw l ⟨(a : Int), size, kind, (q : Int), mark, next⟩ n = l.getD (a + 2 + n) 0 := by unfold fw; rw [Int.toNat_natCast]
  rw [hfw] at hcp
  have HC := Lib.hid hcp
  have hw1 : IntKind.i64.wrap ((a : Int) + 2) = (a : Int) + 2 := IntWalk.i64_in _ (by omega)
  have hw2 : IntKind.i64.wrap ((a : Int) + 2 + (n : Int)) = (a : Int) + 2 + (n : Int) := IntWalk.i64_in _ (by omega)
  have HH := Lib.hid hn
  by_cases hev : n % 2 = 0
  · have e1 : ((n : Int).tmod 2 == 0) = true := by rw [beq_iff_eq, Int.tmod_eq_emod_of_nonneg (by omega)]; omega
    have e2 : ((n : Int) % 2 == 0) = true := by rw [beq_iff_eq]; omega
    have e3 : (n : Int).tmod 2 = 0 := by rw [Int.tmod_eq_emod_of_nonneg (by omega)]; omega
    have hc1 : c = true := by rw [hcp, decide_eq_true_iff]; exact .inl hev
    subst hc1
    clear hc hi hty hT hk hle hodd ht' hx hcp hfw hn hw h
    go_enter Try.func77, Try.ntmps77
    go_upto_region 1 with (fail)
    refine wp_gen (fun Wv => Bx Wv (w.heap.size) (155) (#[v, tv, sv, bv, .map (some g)]) ∧ Bx Wv (w.heap.size + 1) (84) (#[.int .i64 a, .int .i64 size, .int .i64 kind, .int .i64 q, .bool mark, .int .u64 next.toNat]) ∧ Below w.heap.size w Wv) ⟨(((Bx.at_ (by simp)).alloc _)), ((Bx.at_ (by simp))), (((Below.refl _ w).alloc (by simp <;> omega) _).alloc (by simp <;> omega) _)⟩ ?_
    rintro wa1 ⟨g1, g2, b⟩
    replace m0 := cell_later b m0; replace B := B.trans (b.mono B.size); clear b
    have c_g1 := g1.cell; have f_g1 := g1.free; have a_g1 := fun o => (g1.alloc o).cell; have d_g1 := fun o o2 => ((g1.alloc o).alloc o2).cell; have e_g1 := fun o => (g1.alloc o).free
    have c_g2 := g2.cell; have f_g2 := g2.free; have a_g2 := fun o => (g2.alloc o).cell; have d_g2 := fun o o2 => ((g2.alloc o).alloc o2).cell; have e_g2 := fun o => (g2.alloc o).free
    go_wp2
    go_ret
    exact ⟨rfl, B⟩
  · have e1 : ((n : Int).tmod 2 == 0) = false := by rw [beq_eq_false_iff_ne, Int.tmod_eq_emod_of_nonneg (by omega)]; omega
    have e2 : ((n : Int) % 2 == 0) = false := by rw [beq_eq_false_iff_ne]; omega
    have e3 : (n : Int).tmod 2 = 1 := by rw [Int.tmod_eq_emod_of_nonneg (by omega)]; omega
    obtain ⟨ad2, y, iy, m1, hy⟩ := hw.at_ (P := Try.prog) Try.underlying25 one_u64 (k := a + 2 + n) (hodd (by omega))
    have iy2 : ∀ W, (Instr.indexAt 25 v (.int .i64 ((a : Int) + 2 + (n : Int)))).run Try.prog W = .ok (.pointer (some ad2)) W := iy
    have hgy : l.getD (a + 2 + n) 0 = y := by rw [List.getD_eq_getElem?_getD, hy.out]; rfl
    have hc1 : c = decide (y = 0) := by rw [hcp, hgy]; simp [hev]
    have hy0 : ((y.toNat : Int) == 0) = c := by
      rw [hc1, Bool.eq_iff_iff, beq_iff_eq, decide_eq_true_iff]
      exact ⟨fun e => UInt64.toNat.inj (by simp; omega), fun e => by rw [e]; rfl⟩
    clear hc hi hty hT hk hle hodd ht' hx hcp hfw hn hw h hgy hc1 hy HC
    go_enter Try.func77, Try.ntmps77
    go_upto_region 1 with (fail)
    refine wp_gen (fun Wv => Bx Wv (w.heap.size) (155) (#[v, tv, sv, bv, .map (some g)]) ∧ Bx Wv (w.heap.size + 1) (84) (#[.int .i64 a, .int .i64 size, .int .i64 kind, .int .i64 q, .bool mark, .int .u64 next.toNat]) ∧ Below w.heap.size w Wv) ⟨(((Bx.at_ (by simp)).alloc _)), ((Bx.at_ (by simp))), (((Below.refl _ w).alloc (by simp <;> omega) _).alloc (by simp <;> omega) _)⟩ ?_
    rintro wa1 ⟨g1, g2, b⟩
    replace m0 := cell_later b m0; replace m1 := cell_later b m1; replace B := B.trans (b.mono B.size); clear b
    have c_g1 := g1.cell; have f_g1 := g1.free; have a_g1 := fun o => (g1.alloc o).cell; have d_g1 := fun o o2 => ((g1.alloc o).alloc o2).cell; have e_g1 := fun o => (g1.alloc o).free
    have c_g2 := g2.cell; have f_g2 := g2.free; have a_g2 := fun o => (g2.alloc o).cell; have d_g2 := fun o o2 => ((g2.alloc o).alloc o2).cell; have e_g2 := fun o => (g2.alloc o).free
    go_wp2
    go_ret
    exact ⟨rfl, B⟩
set_option maxRecDepth 100000 in
set_option maxHeartbeats 2000000 in
theorem floatsB_any (v tv sv bv : Value) (g : Nat) (l : List UInt64) (T : List (List UInt8)) (b : Hb) (c : Bool) (hc : c = decide (FloatsB l T b)) (hi : In19 l b) (hty : Typed T b) (hl : l.length ≤ 1000000) (w : World) (hw : Words w v l) (h : Typs w tv T) :
    Calls Try.prog 78 #[.agg #[v, tv, sv, bv, .map (some g)], .agg #[.int .i64 b.at_, .int .i64 b.size, .int .i64 b.kind, .int .i64 b.ty, .bool b.mark, .int .u64 b.next.toNat]] w fun e w' => e = .returned (.bool c) ∧ Below w.heap.size w w' := by
  have B : Below w.heap.size w w := Below.refl _ _
  obtain ⟨a, q, t, ha, hq, hT, hk, _, hle, _⟩ := in_kinds hi hty
  obtain ⟨ad, x, t', it, m0, ht', hx⟩ := h.at_ (k := q) (List.getElem?_eq_some_iff.1 hT).1
  obtain rfl : t' = t := by have := ht'.out; rw [hT] at this; injection this with this; exact this.symm
  obtain ⟨n, hn⟩ : ∃ n, n = t'.length := ⟨_, rfl⟩
  have lx := Rd.len hx.out Try.underlying69
  rw [← hn] at lx hle
  have hcp : c = decide (∀ i, i < n → (t'.getD i 0).toNat = 2 → L20.FloatOk (fw l b i)) := by rw [hc, Bool.eq_iff_iff, decide_eq_true_iff, decide_eq_true_iff]; unfold FloatsB; rw [hk, ← hn]
  obtain ⟨at_, size, kind, ty, mark, next⟩ := b
  dsimp only at ha hq
  subst ha; subst hq
  have hfw : ∀ i, fw l ⟨(a : Int), size, kind, (q : Int), mark, next⟩ i = l.getD (a + 2 + i) 0 := fun i => by unfold fw; rw [Int.toNat_natCast]
  have HC := Lib.hid (And.intro hcp hfw)
  have hw1 : IntKind.i64.wrap ((a : Int) + 2) = (a : Int) + 2 := IntWalk.i64_in _ (by omega)
  have HH := Lib.hid hn; have HX := hx; have HW := Lib.hid hw
  have HN := Lib.hid (And.intro hle hl)
  have hnb : n ≤ 1000000 := by omega
  clear hc hi hty hT hk hle ht' hx hcp hfw hn hw h hl
  go_enter Try.func78, Try.ntmps78
  go_upto_region 1 with (fail)
  refine wp_gen (fun Wv => Bx Wv (w.heap.size) (155) (#[v, tv, sv, bv, .map (some g)]) ∧ Bx Wv (w.heap.size + 1) (84) (#[.int .i64 a, .int .i64 size, .int .i64 kind, .int .i64 q, .bool mark, .int .u64 next.toNat]) ∧ Below w.heap.size w Wv) ⟨(((Bx.at_ (by simp)).alloc _)), ((Bx.at_ (by simp))), (((Below.refl _ w).alloc (by simp <;> omega) _).alloc (by simp <;> omega) _)⟩ ?_
  rintro wa1 ⟨g1, g2, b⟩
  replace m0 := cell_later b m0; replace B := B.trans (b.mono B.size); clear b
  have c_g1 := g1.cell; have f_g1 := g1.free; have a_g1 := fun o => (g1.alloc o).cell; have d_g1 := fun o o2 => ((g1.alloc o).alloc o2).cell; have e_g1 := fun o => (g1.alloc o).free
  have c_g2 := g2.cell; have f_g2 := g2.free; have a_g2 := fun o => (g2.alloc o).cell; have d_g2 := fun o o2 => ((g2.alloc o).alloc o2).cell; have e_g2 := fun o => (g2.alloc o).free
  go_wp2
  go_loopg [14] n (fun gg i wr => ∃ j : Nat, j ≤ n ∧ gg = n - j ∧ i = .int .i64 j ∧ Hid (Bx wr w.heap.size 155 #[v, tv, sv, bv, .map (some g)] ∧ Bx wr (w.heap.size + 1) 84 #[.int .i64 a, .int .i64 size, .int .i64 kind, .int .i64 q, .bool mark, .int .u64 next.toNat] ∧ Below w.heap.size w wr) ∧ Hid (∀ i, i < j → (t'.getD i 0).toNat = 2 → L20.FloatOk (l.getD (a + 2 + i) 0)))
  case atStart => exact ⟨0, by omega, rfl, rfl, Lib.hid ⟨g1, g2, B⟩, Lib.hid (fun i hi => by omega)⟩
  case round =>
    obtain ⟨j, hj, rfl, rfl, hh, hz⟩ := hrel
    clear g1 g2 B m0 c_g1 f_g1 a_g1 d_g1 e_g1 c_g2 f_g2 a_g2 d_g2 e_g2
    obtain ⟨g1, g2, B⟩ := hh.out
    have c_g1 := g1.cell; have c_g2 := g2.cell
    by_cases hlt : j < n
    · obtain ⟨ak, kd, ik, mk, hkd⟩ := (Byts.below HX.out B).at_ (P := Try.prog) Try.underlying69 one_u8 (k := j) (by rw [← HH.out]; exact hlt)
      have hgk : t'.getD j 0 = kd := by rw [List.getD_eq_getElem?_getD, hkd.out]; rfl
      by_cases hk2 : kd.toNat = 2
      · obtain ⟨ad2, y, iy, m2, hy⟩ := (HW.out.below B).at_ (P := Try.prog) Try.underlying25 one_u64 (k := a + 2 + j) (by have := HN.out.1; omega)
        have iy2 : ∀ W, (Instr.indexAt 25 v (.int .i64 ((a : Int) + 2 + (j : Int)))).run Try.prog W = .ok (.pointer (some ad2)) W := iy
        have hgy : l.getD (a + 2 + j) 0 = y := by rw [List.getD_eq_getElem?_getD, hy.out]; rfl
        have hw2 : IntKind.i64.wrap ((a : Int) + 2 + (j : Int)) = (a : Int) + 2 + (j : Int) := IntWalk.i64_in _ (by have := HN.out; omega)
        obtain ⟨fb, hfb⟩ : ∃ fb, fb = decide (L20.FloatOk y) := ⟨_, rfl⟩
        have FT := Lib.hid (fun w => float19_any y fb hfb w)
        rw [hk2] at mk
        cases fb
        · have hno : ¬ L20.FloatOk y := of_decide_eq_false hfb.symm
          have hc0 : c = false := by
            rw [HC.out.1, decide_eq_false_iff_not]
            intro hall
            have := hall j hlt (by rw [hgk]; exact hk2)
            rw [HC.out.2, hgy] at this
            exact hno this
          subst hc0
          clear hfb hno hgy hy hgk hk2 hkd iy
          go_wp2_with fail
          refine (FT.out _).mono ?_
          rintro e wa2 ⟨rfl, b⟩
          try clear c_g1 f_g1 a_g1 d_g1 e_g1
          replace g1 := g1.below b; have c_g1 := g1.cell; have f_g1 := g1.free; have a_g1 := fun o => (g1.alloc o).cell; have d_g1 := fun o o2 => ((g1.alloc o).alloc o2).cell; have e_g1 := fun o => (g1.alloc o).free; try clear c_g2 f_g2 a_g2 d_g2 e_g2
          replace g2 := g2.below b; have c_g2 := g2.cell; have f_g2 := g2.free; have a_g2 := fun o => (g2.alloc o).cell; have d_g2 := fun o o2 => ((g2.alloc o).alloc o2).cell; have e_g2 := fun o => (g2.alloc o).free; replace m2 := cell_later b m2; replace B := B.trans (b.mono B.size); clear b
          go_wp2
          go_ret
          exact ⟨rfl, B⟩
        · have hyes : L20.FloatOk y := of_decide_eq_true hfb.symm
          have HZ : Hid (∀ i, i < j + 1 → (t'.getD i 0).toNat = 2 → L20.FloatOk (l.getD (a + 2 + i) 0)) := Lib.hid (fun i hi h2 => by
            by_cases e : i = j
            · subst e; rw [hgy]; exact hyes
            · exact hz.out i (by omega) h2)
          clear hfb hyes hgy hy hgk hk2 hkd iy
          go_wp2_with fail
          refine (FT.out _).mono ?_
          rintro e wa3 ⟨rfl, b⟩
          try clear c_g1 f_g1 a_g1 d_g1 e_g1
          replace g1 := g1.below b; have c_g1 := g1.cell; have f_g1 := g1.free; have a_g1 := fun o => (g1.alloc o).cell; have d_g1 := fun o o2 => ((g1.alloc o).alloc o2).cell; have e_g1 := fun o => (g1.alloc o).free; try clear c_g2 f_g2 a_g2 d_g2 e_g2
          replace g2 := g2.below b; have c_g2 := g2.cell; have f_g2 := g2.free; have a_g2 := fun o => (g2.alloc o).cell; have d_g2 := fun o o2 => ((g2.alloc o).alloc o2).cell; have e_g2 := fun o => (g2.alloc o).free; replace m2 := cell_later b m2; replace B := B.trans (b.mono B.size); clear b
          have HG := Lib.hid (And.intro g1 (And.intro g2 B))
          go_wp2
          go_roundg (n - (j + 1))
          case measure => omega
          case rel => exact ⟨j + 1, by omega, rfl, by go_num, HG, HZ⟩
      · have hk3 : ((kd.toNat : Int) == 2) = false := by rw [beq_eq_false_iff_ne]; omega
        have HZ : Hid (∀ i, i < j + 1 → (t'.getD i 0).toNat = 2 → L20.FloatOk (l.getD (a + 2 + i) 0)) := Lib.hid (fun i hi h2 => by
          by_cases e : i = j
          · subst e; rw [hgk] at h2; exact absurd h2 hk2
          · exact hz.out i (by omega) h2)
        have HG := Lib.hid (And.intro g1 (And.intro g2 B))
        clear hgk hk2 hkd
        go_wp2
        go_roundg (n - (j + 1))
        case measure => omega
        case rel => exact ⟨j + 1, by omega, rfl, by go_num, HG, HZ⟩
    · obtain rfl : j = n := by omega
      have hc1 : c = true := by rw [HC.out.1, decide_eq_true_iff]; intro i hi h2; rw [HC.out.2]; exact hz.out i hi h2
      subst hc1
      go_wp2
      go_ret
      exact ⟨rfl, B⟩
set_option maxRecDepth 100000 in
set_option maxHeartbeats 2000000 in
theorem refsB_any (v tv sv bv : Value) (g gn : Nat) (l : List UInt64) (T : List (List UInt8)) (S : List Sl) (O : List Hb) (b : Hb) (c : Bool) (hc : c = decide (RefsB l T O b)) (hi : In19 l b) (hty : Typed T b) (hl : l.length ≤ 1000000) (hO : ∀ b ∈ O, b.at_ < l.length) (w : World) (h : Sg w v tv sv bv g gn l T S O) :
    Calls Try.prog 79 #[.agg #[v, tv, sv, bv, .map (some g)], .agg #[.int .i64 b.at_, .int .i64 b.size, .int .i64 b.kind, .int .i64 b.ty, .bool b.mark, .int .u64 b.next.toNat]] w fun e w' => e = .returned (.bool c) ∧ Below w.heap.size w w' := by
  have B : Below w.heap.size w w := Below.refl _ _
  obtain ⟨a, q, t, ha, hq, hT, hk, _, hle, _⟩ := in_kinds hi hty
  obtain ⟨ad, x, t', it, m0, ht', hx⟩ := h.t.at_ (k := q) (List.getElem?_eq_some_iff.1 hT).1
  obtain rfl : t' = t := by have := ht'.out; rw [hT] at this; injection this with this; exact this.symm
  obtain ⟨n, hn⟩ : ∃ n, n = t'.length := ⟨_, rfl⟩
  have lx := Rd.len hx.out Try.underlying69
  rw [← hn] at lx hle
  obtain ⟨N, hN⟩ : ∃ N, N = l.length := ⟨_, rfl⟩
  have lw := Rd.len h.w Try.underlying25
  rw [← hN] at lw hle hl
  have hcp : c = decide (∀ i, i < n → (t'.getD i 0).toNat = 3 → (fw l b i = 0 ∨ IsObj O (fw l b i).toNat)) := by rw [hc, Bool.eq_iff_iff, decide_eq_true_iff, decide_eq_true_iff]; unfold RefsB; rw [hk, ← hn]
  obtain ⟨at_, size, kind, ty, mark, next⟩ := b
  dsimp only at ha hq
  subst ha; subst hq
  have hfw : ∀ i, fw l ⟨(a : Int), size, kind, (q : Int), mark, next⟩ i = l.getD (a + 2 + i) 0 := fun i => by unfold fw; rw [Int.toNat_natCast]
  have HC := Lib.hid (And.intro hcp hfw)
  have hw1 : IntKind.i64.wrap ((a : Int) + 2) = (a : Int) + 2 := IntWalk.i64_in _ (by omega)
  have hw4 : IntKind.u64.wrap (N : Int) = (N : Int) := by rw [wrap_u64]; omega
  have HH := Lib.hid hn; have HX := hx; have HW := Lib.hid h; have HNN := Lib.hid hN; have HO := Lib.hid hO
  have HN := Lib.hid (And.intro hle hl)
  have hnb : n ≤ 1000000 := by omega
  clear hc hi hty hT hk hle ht' hx hcp hfw hn h hl hN hO
  go_enter Try.func79, Try.ntmps79
  go_upto_region 1 with (fail)
  refine wp_gen (fun Wv => Bx Wv (w.heap.size) (155) (#[v, tv, sv, bv, .map (some g)]) ∧ Bx Wv (w.heap.size + 1) (84) (#[.int .i64 a, .int .i64 size, .int .i64 kind, .int .i64 q, .bool mark, .int .u64 next.toNat]) ∧ Below w.heap.size w Wv) ⟨(((Bx.at_ (by simp)).alloc _)), ((Bx.at_ (by simp))), (((Below.refl _ w).alloc (by simp <;> omega) _).alloc (by simp <;> omega) _)⟩ ?_
  rintro wa1 ⟨g1, g2, b⟩
  replace m0 := cell_later b m0; replace B := B.trans (b.mono B.size); clear b
  have c_g1 := g1.cell; have f_g1 := g1.free; have a_g1 := fun o => (g1.alloc o).cell; have d_g1 := fun o o2 => ((g1.alloc o).alloc o2).cell; have e_g1 := fun o => (g1.alloc o).free
  have c_g2 := g2.cell; have f_g2 := g2.free; have a_g2 := fun o => (g2.alloc o).cell; have d_g2 := fun o o2 => ((g2.alloc o).alloc o2).cell; have e_g2 := fun o => (g2.alloc o).free
  go_wp2
  go_loopg [15] n (fun gg i wr => ∃ j : Nat, j ≤ n ∧ gg = n - j ∧ i = .int .i64 j ∧ wr = wa1 ∧ Hid (∀ i, i < j → (t'.getD i 0).toNat = 3 → (l.getD (a + 2 + i) 0 = 0 ∨ IsObj O (l.getD (a + 2 + i) 0).toNat)))
  case atStart => exact ⟨0, by omega, rfl, rfl, rfl, Lib.hid (fun i hi => by omega)⟩
  case round =>
    obtain ⟨j, hj, rfl, rfl, rfl, hz⟩ := hrel
    by_cases hlt : j < n
    · obtain ⟨ak, kd, ik, mk, hkd⟩ := (Byts.below HX.out B).at_ (P := Try.prog) Try.underlying69 one_u8 (k := j) (by rw [← HH.out]; exact hlt)
      have hgk : t'.getD j 0 = kd := by rw [List.getD_eq_getElem?_getD, hkd.out]; rfl
      obtain ⟨ad2, y, iy, m2, hy⟩ := (HW.out.below B).w.at_ (P := Try.prog) Try.underlying25 one_u64 (k := a + 2 + j) (by have := HN.out.1; rw [← HNN.out]; omega)
      have iy2 : ∀ W, (Instr.indexAt 25 v (.int .i64 ((a : Int) + 2 + (j : Int)))).run Try.prog W = .ok (.pointer (some ad2)) W := iy
      have hgy : l.getD (a + 2 + j) 0 = y := by rw [List.getD_eq_getElem?_getD, hy.out]; rfl
      have hw2 : IntKind.i64.wrap ((a : Int) + 2 + (j : Int)) = (a : Int) + 2 + (j : Int) := IntWalk.i64_in _ (by have := HN.out; omega)
      have hstep : ((t'.getD j 0).toNat = 3 → (y = 0 ∨ IsObj O y.toNat)) → Hid (∀ i, i < j + 1 → (t'.getD i 0).toNat = 3 → (l.getD (a + 2 + i) 0 = 0 ∨ IsObj O (l.getD (a + 2 + i) 0).toNat)) := fun hh => Lib.hid (fun i hi h2 => by
        by_cases e : i = j
        · subst e; rw [hgy]; exact hh h2
        · exact hz.out i (by omega) h2)
      have hfall : (t'.getD j 0).toNat = 3 → ¬ (y = 0 ∨ IsObj O y.toNat) → c = false := fun h3 hno => by
        rw [HC.out.1, decide_eq_false_iff_not]
        intro hall
        have := hall j hlt h3
        rw [HC.out.2, hgy] at this
        exact hno this
      by_cases hk3 : kd.toNat = 3
      · rw [hk3] at mk
        by_cases hy0 : y = 0
        · have h0 : ((y.toNat : Int) != 0) = false := by rw [hy0]; rfl
          have HZ := hstep (fun _ => .inl hy0)
          clear hstep hfall hgy hgk hy0 hy hkd hk3 iy
          go_wp2
          go_roundg (n - (j + 1))
          case measure => omega
          case rel => exact ⟨j + 1, by omega, rfl, by go_num, rfl, HZ⟩
        · have h0 : ((y.toNat : Int) != 0) = true := by rw [bne_iff_ne]; intro e; exact hy0 (UInt64.toNat.inj (by simp; omega))
          by_cases hyN : y.toNat < N
          · have h1 : ¬ ((N : Int) ≤ (y.toNat : Int)) := by omega
            have h2 : decide ((N : Int) ≤ (y.toNat : Int)) = false := decide_eq_false h1
            have h3 : decide (N ≤ y.toNat) = false := decide_eq_false (by omega)
            have hw3 : IntKind.i64.wrap (y.toNat : Int) = (y.toNat : Int) := IntWalk.i64_in _ (by have := HN.out; omega)
            have hlk := (HW.out.below B).look (a := (y.toNat : Int)) ⟨by omega, by have := HN.out; omega⟩
            obtain ⟨ob, hob⟩ : ∃ ob, ob = decide (IsObj O y.toNat) := ⟨_, rfl⟩
            rw [← hob] at hlk
            cases ob
            · have hc0 := hfall (by rw [hgk]; exact hk3) (fun h => h.elim hy0 (of_decide_eq_false hob.symm))
              subst hc0
              clear hstep hfall hgy hgk hy0 hy hkd hk3 hob iy
              go_wp2
              go_ret
              exact ⟨rfl, B⟩
            · have HZ := hstep (fun _ => .inr (of_decide_eq_true hob.symm))
              clear hstep hfall hgy hgk hy0 hy hkd hk3 hob iy
              go_wp2
              go_roundg (n - (j + 1))
              case measure => omega
              case rel => exact ⟨j + 1, by omega, rfl, by go_num, rfl, HZ⟩
          · have h1 : (N : Int) ≤ (y.toNat : Int) := by omega
            have h2 : decide ((N : Int) ≤ (y.toNat : Int)) = true := decide_eq_true h1
            have h3 : decide (N ≤ y.toNat) = true := decide_eq_true (by omega)
            have hc0 := hfall (by rw [hgk]; exact hk3) (fun h => h.elim hy0 (fun ⟨b', hb', e⟩ => by have := HO.out b' hb'; rw [← HNN.out] at this; omega))
            subst hc0
            clear hstep hfall hgy hgk hy0 hy hkd hk3 iy
            go_wp2
            go_ret
            exact ⟨rfl, B⟩
      · have hkn : ((kd.toNat : Int) == 3) = false := by rw [beq_eq_false_iff_ne]; omega
        have HZ := hstep (fun h3 => absurd (by rw [← hgk]; exact h3) hk3)
        clear hstep hfall hgy hgk hy hkd hk3 iy
        go_wp2
        go_roundg (n - (j + 1))
        case measure => omega
        case rel => exact ⟨j + 1, by omega, rfl, by go_num, rfl, HZ⟩
    · obtain rfl : j = n := by omega
      have hc1 : c = true := by rw [HC.out.1, decide_eq_true_iff]; intro i hi h2; rw [HC.out.2]; exact hz.out i hi h2
      subst hc1
      go_wp2
      go_ret
      exact ⟨rfl, B⟩
end Go.Proofs.Ytodbbacmdjcheaa
namespace Go.Proofs.Ytodbbacmdjcheaa.L19
open L02 L07 L13 L14 L15 L18 L20
/-- the number of the block at an address -/
def idx : List Hb → Int → Option Nat
  | [], _ => none
  | b :: O, a => if b.at_ = a then some 0 else (idx O a).map (· + 1)
def refV (O : List Hb) (v : UInt64) : UInt64 := match idx O v.toNat with | some i => UInt64.ofNat (i + 1) | none => 0
def fldV (O : List Hb) (k : UInt8) (v : UInt64) : UInt64 := if k.toNat = 3 then refV O v else v
def obFs (l : List UInt64) (T : List (List UInt8)) (O : List Hb) (b : Hb) : List UInt64 := (List.range (kindsB T b).length).map fun i => fldV O ((kindsB T b).getD i 0) (fw l b i)
def obOf (l : List UInt64) (T : List (List UInt8)) (O : List Hb) (b : Hb) : Ob := ⟨b.ty, obFs l T O b⟩
def slOf (O : List Hb) (s : Sl) : Sl := if s.used = true then ⟨s.gen, true, match idx O s.at_ with | some i => (i : Int) | none => -1⟩ else s
def seen (l : List UInt64) : Mo := ⟨T19 l, (O19 l).map (obOf l (T19 l) (O19 l)), (slots l).map (slOf (O19 l))⟩
theorem idx_some : ∀ {O : List Hb} {a : Int} {i : Nat}, idx O a = some i → ∃ b, O[i]? = some b ∧ b.at_ = a
  | [], a, i, h => by cases h
  | b :: O, a, i, h => by
    rw [idx] at h
    by_cases hb : b.at_ = a
    · rw [if_pos hb] at h; injection h with h; subst h; exact ⟨b, rfl, hb⟩
    · rw [if_neg hb] at h
      cases h2 : idx O a with
      | none => rw [h2] at h; cases h
      | some j =>
        rw [h2] at h; injection h with h
        obtain ⟨c, h3, h4⟩ := idx_some h2
        subst h
        exact ⟨c, h3, h4⟩
theorem idx_none : ∀ {O : List Hb} {a : Int}, idx O a = none ↔ ¬ IsObj O a
  | [], a => ⟨fun _ ⟨b, hb, _⟩ => (by cases hb), fun _ => rfl⟩
  | b :: O, a => by
    rw [idx]
    by_cases hb : b.at_ = a
    · rw [if_pos hb]
      exact ⟨fun h => (by cases h), fun h => absurd ⟨b, List.mem_cons_self, hb⟩ h⟩
    · rw [if_neg hb, Option.map_eq_none_iff, idx_none]
      constructor
      · rintro h ⟨c, hc, e⟩
        rcases List.mem_cons.1 hc with rfl | hc
        · exact hb e
        · exact h ⟨c, hc, e⟩
      · rintro h ⟨c, hc, e⟩; exact h ⟨c, List.mem_cons_of_mem _ hc, e⟩
theorem idx_of {O : List Hb} {a : Int} (h : IsObj O a) : ∃ i b, idx O a = some i ∧ O[i]? = some b ∧ b.at_ = a ∧ i < O.length := by
  cases h2 : idx O a with
  | none => exact absurd h (idx_none.1 h2)
  | some i =>
    obtain ⟨b, h3, h4⟩ := idx_some h2
    exact ⟨i, b, rfl, h3, h4, (List.getElem?_eq_some_iff.1 h3).1⟩
theorem obFs_len (l : List UInt64) (T : List (List UInt8)) (O : List Hb) (b : Hb) : (obFs l T O b).length = (kindsB T b).length := by simp [obFs]
theorem obFs_get {l : List UInt64} {T : List (List UInt8)} {O : List Hb} {b : Hb} {i : Nat} (h : i < (kindsB T b).length) : (obFs l T O b)[i]? = some (fldV O ((kindsB T b).getD i 0) (fw l b i)) := by
  simp [obFs, List.getElem?_map, List.getElem?_range h]
theorem all_len {l : List UInt64} (h : allErr l = 0) : (allL l).length ≤ 960 := by
  obtain ⟨hs, hp⟩ := allErr_ok h
  have := chain_len (chain_iff.1 (parsed_ok.1 hp).1)
  have := hs.2.1
  omega
theorem objs_len {l : List UInt64} (h : allErr l = 0) : (O19 l).length ≤ 960 := Nat.le_trans (List.length_filter_le _ _) (all_len h)
/-- objects lie apart, so that an address tells one -/
theorem objs_inj {l : List UInt64} (h : allErr l = 0) {a b : Hb} (ha : a ∈ O19 l) (hb : b ∈ O19 l) (e : a.at_ = b.at_) : a = b := by
  obtain ⟨_, _, _, h1, _, _, _, _, h2, _⟩ := objs_at h ha
  obtain ⟨_, _, _, h3, _, _, _, _, h4, _⟩ := objs_at h hb
  rcases all_apart h (objs_mem.1 ha).1 (objs_mem.1 hb).1 with h5 | h5 | h5
  · exact h5
  · omega
  · omega
theorem T19_ok {l : List UInt64} (h : tabErr l (sT l) = 0) : (T19 l).length ≤ 8 ∧ ∀ t ∈ T19 l, kErr t = 0 := by
  have h0 := h
  unfold tabErr at h
  split at h
  · split at h
    · rename_i h1 h2
      split at h
      · rename_i h3
        have e : T19 l = tysTo l (sT l).toNat := by unfold T19 tabT; rw [if_pos h0]
        refine ⟨by rw [e, tysTo_len]; omega, fun t ht => ?_⟩
        rw [e] at ht
        obtain ⟨i, hi, rfl⟩ := List.mem_map.1 ht
        have hi' := List.mem_range.1 hi
        have := h3 i (by omega)
        unfold TyOk at this
        rw [if_pos hi'] at this
        rw [rdL, if_pos this]
        exact this.2.1
      · omega
    · omega
  · omega
theorem refV_lt {O : List Hb} {v : UInt64} (h : O.length ≤ 960) : (refV O v).toNat ≤ O.length := by
  unfold refV
  cases h2 : idx O v.toNat with
  | none => simp
  | some i =>
    obtain ⟨b, h3, _⟩ := idx_some h2
    have := (List.getElem?_eq_some_iff.1 h3).1
    show (UInt64.ofNat (i + 1)).toNat ≤ _
    rw [UInt64.toNat_ofNat', Nat.mod_eq_of_lt (by omega)]; omega
theorem seen_slot {l : List UInt64} (h : Rt l) {s : Sl} (hs : s ∈ slots l) : Right s := by
  have hr := allR_of h.sl
  obtain ⟨x, hx, rfl⟩ := List.mem_map.1 hs
  exact hr x hx
/-- the model of a right image is valid -/
theorem seen_chk {l : List UInt64} (h : Rt l) : L20.chk (seen l) = 0 := by
  have hT := T19_ok h.ty
  have hO := objs_len h.al
  refine chk_zero (by show ¬ (8 < (T19 l).length ∨ 960 < ((O19 l).map _).length); rw [List.length_map]; omega) ⟨by show ((slots l).map _).length = 16; rw [List.length_map]; exact slots_len' h.sl, hT.2, fun o ho => ?_, fun s hs => ?_⟩
  · obtain ⟨b, hb, rfl⟩ := List.mem_map.1 ho
    obtain ⟨a, h1, h2, h3, h4, h5, h6, h7, h8, _⟩ := objs_at h.al hb
    have hok : BkOk b := by rw [h6]; exact stand_ok h5
    have hty := (h.good 8 (by omega) (by omega) b hb).1
    refine ⟨⟨hok.bounds.2.2.2.2.1, hty⟩, obFs_len _ _ _ _, fun i hi => ?_⟩
    have hi' : i < (kindsB (T19 l) b).length := by
      have : i < (obFs l (T19 l) (O19 l) b).length := hi
      rw [obFs_len] at this; exact this
    show FdOk ((O19 l).map _).length ((kindsB (T19 l) b).getD i 0) ((obFs l (T19 l) (O19 l) b).getD i 0)
    rw [List.getD_eq_getElem?_getD (l := obFs _ _ _ _), obFs_get hi', List.length_map]
    show FdOk _ _ (fldV _ _ _)
    refine ⟨fun h2 => ?_, fun h3 => ?_⟩
    · rw [fldV, if_neg (by omega)]
      exact h.good 10 (by omega) (by omega) b hb i hi' h2
    · rw [fldV, if_pos h3]; exact refV_lt hO
  · obtain ⟨s', hs', rfl⟩ := List.mem_map.1 hs
    have hr := seen_slot h hs'
    obtain ⟨r1, r2, r3, r4⟩ := hr
    show SlOk ((O19 l).map _).length (slOf _ _)
    rw [List.length_map]
    unfold slOf
    by_cases hu : s'.used = true
    · rw [if_pos hu]
      obtain ⟨i, b, e1, _, _, e2⟩ := idx_of (h.slots s' hs' hu)
      rw [e1]
      exact ⟨⟨r1, r2⟩, fun e => (by cases e), fun _ => ⟨(r4 hu).1, by dsimp only; omega, by dsimp only; omega⟩⟩
    · rw [if_neg hu]
      have hf : s'.used = false := by simpa using hu
      exact ⟨⟨r1, r2⟩, fun _ => r3 hf, fun e => absurd e hu⟩
theorem idx_inj {O : List Hb} {a c : Int} {i : Nat} (h1 : idx O a = some i) (h2 : idx O c = some i) : a = c := by
  obtain ⟨b, h3, h4⟩ := idx_some h1
  obtain ⟨b', h5, h6⟩ := idx_some h2
  rw [h3] at h5; injection h5 with h5; subst h5; rw [← h4, h6]
end Go.Proofs.Ytodbbacmdjcheaa.L19
namespace Go.Proofs.Ytodbbacmdjcheaa
open Go Go.RowKit
section
variable {P : Program} {ops : Array Oper} {rest : List Oper} {o : Oper} {a : Act} {Q : Exit → Act → World → Prop} {w : World}
theorem run_append_own2 (base : Nat) (t ty e : TypeId) (i : TypeInfo) (z : Value) (size bytes : Nat) (ht : P.underlying t = some (.slice e)) (hi : P.info? e = some i) (hz : i.zero = some z)
    (hsize : i.size = size) (hby : i.bytes = bytes) (hzs : z.cells.size = size) (hsz : 0 < size) (v : Value) (n : Nat) (xs : List Value) (hown : w.ownsRow base e size v n xs)
    (ad : Addr) (m c : Nat) (news : List Value) (hl : news.length = m * size) (hnews : ∀ j u, news[j]? = some u → w.cell? (ad.add j) = some u) (h1 : ∀ u ∈ news, u.oneCell' = true)
    (h63 : n + m ≤ maxLen) (hbytes : (n + m) * bytes ≤ 140737488355328) (hbase : base ≤ w.heap.size) :
    ∃ v' w', (Builtin.append_ #[t, t] ty #[v, .slice (some ad) m c]).run P w = .ok v' w' ∧ w'.ownsRow base e size v' (n + m) (xs ++ news) ∧ w.grownBy w' v.ownBlock ∧ ∀ g, v'.ownBlock = some g → v.ownBlock = some g ∨ w.heap.size ≤ g := by
  obtain ⟨v', w', hrun, r1, r2, _⟩ := run_append_own (P := P) w base t ty e i z size bytes ht hi hz hsize hby hzs hsz v n xs hown ad m c news hl hnews h1 h63 hbytes hbase
  refine ⟨v', w', hrun, r1, r2, fun g hg => ?_⟩
  rcases hown.2 with ⟨rfl, rfl⟩ | ⟨g0, cap, cur, rfl, hB, hg0, hc, hm, hcs, htk⟩
  · have hxs : xs = [] := List.eq_nil_of_length_eq_zero (by have := hown.1; simpa using this)
    obtain ⟨v2, w2, hrun2, r3, _⟩ := run_append_own (P := P) w w.heap.size t ty e i z size bytes ht hi hz hsize hby hzs hsz (.slice none 0 0) 0 [] (World.ownsRow_nil w _ _ _) ad m c news hl hnews h1 h63 hbytes (Nat.le_refl _)
    rw [hrun] at hrun2
    injection hrun2 with e1 e2
    subst e1; subst e2
    exact .inr (r3.lt g hg).1
  · subst hsize
    have hcell : ∀ j u, xs[j]? = some u → w.cell? ((⟨g0, 0, none⟩ : Addr).add j) = some u := fun j u hu => hown.cells (g := g0) rfl j u hu
    by_cases hroom : n + m ≤ cap
    · have hr := run_append_room_cells (P := P) w t ty e i ht hi g0 0 n cap ad m c news hl hnews h1 hroom (fun j hj => by
        have hlt : 0 + n * i.size + j < cur.size := by
          have : (n + m) * i.size ≤ cap * i.size := Nat.mul_le_mul hroom (Nat.le_refl _)
          rw [Nat.add_mul] at this; rw [hcs]; rw [hl] at hj; omega
        have := cell_of_row w g0 (0 + n * i.size + j) cur e (0, 0) hg0
        rw [this, Array.getElem?_eq_getElem hlt]; rfl) (fun j hj => frozen_of_row w g0 _ cur e hg0)
      rw [hrun] at hr
      injection hr with e1 e2
      subst e1
      exact .inl hg
    · obtain ⟨v2, w2, hrun2, r3, _⟩ := run_append_arg_grows (P := P) w t ty e i z i.size bytes ht hi hz rfl hby hzs hsz ⟨g0, 0, none⟩ n cap xs hown.1 hcell ad m c news hl hnews (by omega) h63 hbytes
      rw [hrun] at hrun2
      injection hrun2 with e1 e2
      subst e1; subst e2
      exact .inr (r3.lt g hg).1
theorem wpList_append2 (hgd : Region.wanted o (yielded ops a.tmps) = true) {s x : Operand} {t e B sz by_ : Nat} (ho : o.op = .call { callee := .builtin .append, args := #[s, x], argTypes := #[t, t] })
    {v z : Value} {n m c : Nat} {xs ys : List Value} (hs : a.eval s = v) {ad : Addr} (hx : a.eval x = .slice (some ad) m c) (ht : P.underlying t = some (.slice e))
    (hi : (P.info? e).map (fun i => (i.zero, i.size, i.bytes)) = some (some z, sz, by_)) (hzs : z.cells.size = sz) (hsz : 0 < sz)
    (hown : w.ownsRow B e sz v n xs) (hrd : Rd w sz (.slice (some ad) m c) m ys) (h1 : ∀ u ∈ ys, u.oneCell' = true) (hm : 0 < m) (h63 : n + m ≤ 9223372036854775807) (hbytes : (n + m) * by_ ≤ 140737488355328)
    {w0 : World} (hb : Below B w0 w) (hB : B ≤ w0.heap.size)
    (h : ∀ v' w', w'.ownsRow B e sz v' (n + m) (xs ++ ys) → Below B w0 w' → w.grownBy w' v.ownBlock → (∀ g, v'.ownBlock = some g → v.ownBlock = some g ∨ w.heap.size ≤ g) → wpList P ops Q rest (a.put o.dst v') w') : wpList P ops Q (o :: rest) a w := by
  obtain ⟨i, hi1, hi2, hi3, hi4⟩ := info3 hi
  have hcell : ∀ j u, ys[j]? = some u → w.cell? (ad.add j) = some u := by
    obtain ⟨A, c', e1, s1, s2, s3, s4, s5⟩ := hrd
    injection e1 with e1 _ _
    intro j u hu
    obtain ⟨p1, p2, p3⟩ := s5 hm ad e1.symm
    obtain ⟨b, q, sp⟩ := ad
    simp at p1; subst p1
    rw [show ((⟨b, q, none⟩ : Addr).add j) = ⟨b, q + j, none⟩ by unfold Addr.add; split <;> simp_all]
    exact p3 j u hu
  have hyl : ys.length = m * sz := by obtain ⟨A, c', e1, s1, s2, s3, _⟩ := hrd; exact s3
  obtain ⟨v', w', hrun, r1, r2, r3⟩ := run_append_own2 (P := P) (w := w) B t o.type e i z sz by_ ht hi1 hi2 hi3 hi4 hzs hsz v n xs hown ad m c ys hyl hcell h1 (by unfold maxLen; omega) hbytes (Nat.le_trans hB hb.size)
  refine wpList_wanted hgd fun K hK => ?_
  unfold Oper.wp
  simp [execOp, ho, resolve, invoke, builtin, hs, hx, hrun, Result.andThen]
  exact hK _ _ (h v' w' r1 (hb.grown r2 (Nat.le_trans hB hb.size) fun k hk => (hown.lt k hk).1) r2 r3)
end
end Go.Proofs.Ytodbbacmdjcheaa
