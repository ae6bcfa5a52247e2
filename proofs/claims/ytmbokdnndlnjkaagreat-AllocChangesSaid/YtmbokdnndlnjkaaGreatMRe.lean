/- Contracts of the functions that the laws 'R' reach, part 5. No condition. -/
import Derived.Test.YtmbokdnndlnjkaaGreatMRd
set_option linter.unusedVariables false
set_option linter.unusedSimpArgs false
namespace Go.Proofs.YtmbokdnndlnjkaaGreat
open Go.RowKit L01 L02 L05 L14 L15
set_option maxRecDepth 100000 in
set_option maxHeartbeats 2000000 in
theorem AtR_any (v : Value) (l : List UInt64) (k : Nat) (b : Hb) (r : Bool) (hk : k < l.length) (hb : b = if StOk l k then stand l k else .none) (hr : r = decide (StOk l k)) (hl63 : l.length ≤ 1000000) (w : World) (h : Words w v l) :
    Calls Tryz.prog 142 #[v, .int .i64 k] w fun e w' => e = .returned (.tuple #[.agg #[.int .i64 b.at_, .int .i64 b.size, .int .i64 b.kind, .int .i64 b.ty, .bool b.mark, .int .u64 b.next.toNat], .bool r]) ∧ Below w.heap.size w w' := by
  have B : Below w.heap.size w w := Below.refl _ _
  have H := Lib.hid h
  have lw := Rd.len h Tryz.underlying22
  obtain ⟨ad, x, ia, m0, hx⟩ := h.at_ (P := Tryz.prog) Tryz.underlying22 one_u64 hk
  obtain ⟨N, hN⟩ : ∃ N, N = l.length := ⟨_, rfl⟩
  rw [← hN] at lw
  have hst := stOk_of hx.out
  obtain ⟨s, hs⟩ : ∃ s, s = split x := ⟨_, rfl⟩
  obtain ⟨z, hz⟩ : ∃ z, z = decide (HdOk x) := ⟨_, rfl⟩
  have ST := Lib.hid (fun w => HSplitR_any x s z hs hz w)
  have hgk : l.getD k 0 = x := by rw [List.getD_eq_getElem?_getD, hx.out]; rfl
  have n7 : ¬ (k : Int) < 0 := by omega
  have n8 : ¬ (N : Int) ≤ (k : Int) := by omega
  by_cases hd : HdOk x
  · have hz0 : z = true := by rw [hz, decide_eq_true hd]
    subst hz0
    obtain ⟨s1, s2, s3, s4, s5, s6⟩ := (by rw [hs]; exact (split_ok hd).bounds : 2 ≤ s.size ∧ s.size % 2 = 0 ∧ s.size ≤ 1920 ∧ (s.kind = 1 ∨ s.kind = 2) ∧ 0 ≤ s.ty ∧ s.ty < 8)
    have hw : IntKind.i64.wrap ((k : Int) + s.size) = (k : Int) + s.size := IntWalk.i64_in _ (by omega)
    by_cases hl : (k : Int) + s.size ≤ N
    · have hok : StOk l k := hst.2 ⟨hd, by rw [← hs, ← hN]; exact hl⟩
      obtain ⟨ad2, y, ia2, m1, hy⟩ := h.at_ (P := Tryz.prog) Tryz.underlying22 one_u64 (k := k + 1) (by omega)
      have hr0 : r = true := by rw [hr, decide_eq_true hok]
      have hb0 : b = ⟨k, s.size, s.kind, s.ty, s.mark, y⟩ := by
        rw [hb, if_pos hok, stand, hgk, ← hs, show l.getD (k + 1) 0 = y by rw [List.getD_eq_getElem?_getD, hy.out]; rfl]
      have hw1 : IntKind.i64.wrap ((k : Int) + 1) = (k : Int) + 1 := IntWalk.i64_in _ (by omega)
      have ia3 : ∀ W, (Instr.indexAt 22 v (.int .i64 ((k : Int) + 1))).run Tryz.prog W = .ok (.pointer (some ad2)) W := ia2
      have n1 : ¬ ((N : Int) < (k : Int) + s.size) := by omega
      have hs0 : s.at_ = 0 := by rw [hs, split_told hd]; rfl
      have hs5 : s.next = 0 := by rw [hs, split_told hd]; rfl
      obtain ⟨sa, sz, sk, sty, sm, sn⟩ := s
      dsimp only at *
      subst hs0; subst hs5; subst hr0; subst hb0
      have ST' : Hid (∀ w, Calls Tryz.prog 157 #[.int .u64 x.toNat] w fun e w' => e = .returned (.tuple #[.agg #[.int .i64 0, .int .i64 sz, .int .i64 sk, .int .i64 sty, .bool sm, .int .u64 0], .bool true]) ∧ Below w.heap.size w w') := ST
      have M0 := Lib.hid m1
      clear hst hs hz hgk hd hl hok hb hr hx hy h ST hk hN m1
      go_enter Tryz.func142, Tryz.ntmps142
      go_upto_region 1 with (fail)
      refine wp_gen (fun Wv => Bx Wv (w.heap.size) (82) (#[.int .i64 0, .int .i64 0, .int .i64 0, .int .i64 0, .bool false, .int .u64 0]) ∧ Below w.heap.size w Wv) ⟨((Bx.at_ (by simp))), ((Below.refl _ w).alloc (by simp <;> omega) _)⟩ ?_
      rintro wa1 ⟨g1, b⟩
      replace m0 := cell_later b m0; replace B := B.trans (b.mono B.size); clear b
      have c_g1 := g1.cell; have f_g1 := g1.free; have a_g1 := fun o => (g1.alloc o).cell; have d_g1 := fun o o2 => ((g1.alloc o).alloc o2).cell; have e_g1 := fun o => (g1.alloc o).free
      go_wp2_with fail
      refine (ST'.out _).mono ?_
      rintro e wa2 ⟨rfl, b⟩
      replace m0 := cell_later b m0; try clear c_g1 f_g1 a_g1 d_g1 e_g1
      replace g1 := g1.below b; have c_g1 := g1.cell; have f_g1 := g1.free; have a_g1 := fun o => (g1.alloc o).cell; have d_g1 := fun o o2 => ((g1.alloc o).alloc o2).cell; have e_g1 := fun o => (g1.alloc o).free; replace B := B.trans (b.mono B.size); clear b
      go_upto_region 4 with (fail)
      have hl1 : w.heap.size < wa2.heap.size := g1.lt
      refine wp_gen (fun Wv => Bx Wv (wa2.heap.size) (82) (#[.int .i64 0, .int .i64 sz, .int .i64 sk, .int .i64 sty, .bool sm, .int .u64 0]) ∧ Below wa2.heap.size wa2 Wv) ⟨((Bx.at_ (by simp))), ((Below.refl _ wa2).alloc (by simp <;> omega) _)⟩ ?_
      rintro wa3 ⟨g2, b⟩
      replace m0 := cell_later b m0; try clear c_g1 f_g1 a_g1 d_g1 e_g1
      replace g1 := g1.below b; have c_g1 := g1.cell; have f_g1 := g1.free; have a_g1 := fun o => (g1.alloc o).cell; have d_g1 := fun o o2 => ((g1.alloc o).alloc o2).cell; have e_g1 := fun o => (g1.alloc o).free; replace B := B.trans (b.mono B.size); clear b
      have c_g2 := g2.cell; have f_g2 := g2.free; have a_g2 := fun o => (g2.alloc o).cell; have d_g2 := fun o o2 => ((g2.alloc o).alloc o2).cell; have e_g2 := fun o => (g2.alloc o).free
      have ne : w.heap.size ≠ wa2.heap.size := by omega
      have hp : w.heap.size ≤ wa2.heap.size := by omega
      go_upto_region 7 with (fail)
      have HG := Lib.hid (And.intro (g1.far (p := ⟨wa2.heap.size, 0, none⟩) ne (.int .i64 (k : Int))) (And.intro (g2.set (i := 0) (.int .i64 (k : Int))) (B.setCell (p := ⟨wa2.heap.size, 0, none⟩) hp (.int .i64 (k : Int)))))
      refine wp_gen (fun V => Bx V w.heap.size 82 #[.int .i64 0, .int .i64 0, .int .i64 0, .int .i64 0, .bool false, .int .u64 0] ∧ Bx V wa2.heap.size 82 #[.int .i64 k, .int .i64 sz, .int .i64 sk, .int .i64 sty, .bool sm, .int .u64 0] ∧ Below w.heap.size w V) HG.out ?_
      clear HG g1 g2 B c_g1 f_g1 a_g1 d_g1 e_g1 c_g2 f_g2 a_g2 d_g2 e_g2 m0
      rintro V ⟨g1, g2, B⟩
      have m1 := cell_later B M0.out
      have c_g1 := g1.cell; have c_g2 := g2.cell; have f_g1 := g1.free; have f_g2 := g2.free
      have G2 := g2.set (i := 5) (.int .u64 y.toNat)
      have c_G2 := G2.cell
      go_wp2
      refine bodyPost_ret (v := .tuple #[.agg #[.int .i64 k, .int .i64 sz, .int .i64 sk, .int .i64 sty, .bool sm, .int .u64 y.toNat], .bool true]) (by simp [results, Tryz.results142, go_sem, c_g1, c_g2, f_g1, f_g2, ne, ne.symm]) rfl ?_
      refine ⟨rfl, ?_⟩
      (repeat (first | refine Below.setCell ?_ (by first | exact Nat.le_refl _ | (simp <;> omega)) _ | refine Below.alloc ?_ (by first | exact B.size | (have := B.size; simp <;> omega)) _)); exact B
    · have hno : ¬ StOk l k := fun h => hl (by have := (hst.1 h).2; rw [← hs, ← hN] at this; exact this)
      have hr0 : r = false := by rw [hr, decide_eq_false hno]
      have hb0 : b = .none := by rw [hb, if_neg hno]
      have n1 : (N : Int) < (k : Int) + s.size := by omega
      subst hr0; subst hb0
      clear hst hs hz hgk hd hl hno hb hr hx h hN hk
      go_enter Tryz.func142, Tryz.ntmps142
      go_upto_region 1 with (fail)
      refine wp_gen (fun Wv => Bx Wv (w.heap.size) (82) (#[.int .i64 0, .int .i64 0, .int .i64 0, .int .i64 0, .bool false, .int .u64 0]) ∧ Below w.heap.size w Wv) ⟨((Bx.at_ (by simp))), ((Below.refl _ w).alloc (by simp <;> omega) _)⟩ ?_
      rintro wa1 ⟨g1, b⟩
      replace m0 := cell_later b m0; replace B := B.trans (b.mono B.size); clear b
      have c_g1 := g1.cell; have f_g1 := g1.free; have a_g1 := fun o => (g1.alloc o).cell; have d_g1 := fun o o2 => ((g1.alloc o).alloc o2).cell; have e_g1 := fun o => (g1.alloc o).free
      go_wp2_with fail
      refine (ST.out _).mono ?_
      rintro e wa2 ⟨rfl, b⟩
      replace m0 := cell_later b m0; try clear c_g1 f_g1 a_g1 d_g1 e_g1
      replace g1 := g1.below b; have c_g1 := g1.cell; have f_g1 := g1.free; have a_g1 := fun o => (g1.alloc o).cell; have d_g1 := fun o o2 => ((g1.alloc o).alloc o2).cell; have e_g1 := fun o => (g1.alloc o).free; replace B := B.trans (b.mono B.size); clear b
      go_upto_region 4 with (fail)
      refine wp_gen (fun Wv => Bx Wv (wa2.heap.size) (82) (#[.int .i64 s.at_, .int .i64 s.size, .int .i64 s.kind, .int .i64 s.ty, .bool s.mark, .int .u64 s.next.toNat]) ∧ Below wa2.heap.size wa2 Wv) ⟨((Bx.at_ (by simp))), ((Below.refl _ wa2).alloc (by simp <;> omega) _)⟩ ?_
      rintro wa3 ⟨g2, b⟩
      replace m0 := cell_later b m0; try clear c_g1 f_g1 a_g1 d_g1 e_g1
      replace g1 := g1.below b; have c_g1 := g1.cell; have f_g1 := g1.free; have a_g1 := fun o => (g1.alloc o).cell; have d_g1 := fun o o2 => ((g1.alloc o).alloc o2).cell; have e_g1 := fun o => (g1.alloc o).free; replace B := B.trans (b.mono B.size); clear b
      have c_g2 := g2.cell; have f_g2 := g2.free; have a_g2 := fun o => (g2.alloc o).cell; have d_g2 := fun o o2 => ((g2.alloc o).alloc o2).cell; have e_g2 := fun o => (g2.alloc o).free
      go_wp2
      refine bodyPost_ret (v := .tuple #[.agg #[.int .i64 0, .int .i64 0, .int .i64 0, .int .i64 0, .bool false, .int .u64 0], .bool false]) (by simp [results, Tryz.results142, go_sem, c_g1, f_g1, a_g1, e_g1, c_g2, f_g2, a_g2, e_g2]) rfl ?_
      refine ⟨rfl, ?_⟩
      (repeat (first | refine Below.setCell ?_ (by first | exact Nat.le_refl _ | (simp <;> omega)) _ | refine Below.alloc ?_ (by first | exact B.size | (have := B.size; simp <;> omega)) _)); exact B
  · have hz0 : z = false := by rw [hz, decide_eq_false hd]
    have hno : ¬ StOk l k := fun h => hd (hst.1 h).1
    have hr0 : r = false := by rw [hr, decide_eq_false hno]
    have hb0 : b = .none := by rw [hb, if_neg hno]
    subst hr0; subst hb0; subst hz0
    clear hst hs hz hgk hd hno hb hr hx h hN hk
    go_enter Tryz.func142, Tryz.ntmps142
    go_upto_region 1 with (fail)
    refine wp_gen (fun Wv => Bx Wv (w.heap.size) (82) (#[.int .i64 0, .int .i64 0, .int .i64 0, .int .i64 0, .bool false, .int .u64 0]) ∧ Below w.heap.size w Wv) ⟨((Bx.at_ (by simp))), ((Below.refl _ w).alloc (by simp <;> omega) _)⟩ ?_
    rintro wa1 ⟨g1, b⟩
    replace m0 := cell_later b m0; replace B := B.trans (b.mono B.size); clear b
    have c_g1 := g1.cell; have f_g1 := g1.free; have a_g1 := fun o => (g1.alloc o).cell; have d_g1 := fun o o2 => ((g1.alloc o).alloc o2).cell; have e_g1 := fun o => (g1.alloc o).free
    go_wp2_with fail
    refine (ST.out _).mono ?_
    rintro e wa2 ⟨rfl, b⟩
    replace m0 := cell_later b m0; try clear c_g1 f_g1 a_g1 d_g1 e_g1
    replace g1 := g1.below b; have c_g1 := g1.cell; have f_g1 := g1.free; have a_g1 := fun o => (g1.alloc o).cell; have d_g1 := fun o o2 => ((g1.alloc o).alloc o2).cell; have e_g1 := fun o => (g1.alloc o).free; replace B := B.trans (b.mono B.size); clear b
    go_upto_region 4 with (fail)
    refine wp_gen (fun Wv => Bx Wv (wa2.heap.size) (82) (#[.int .i64 s.at_, .int .i64 s.size, .int .i64 s.kind, .int .i64 s.ty, .bool s.mark, .int .u64 s.next.toNat]) ∧ Below wa2.heap.size wa2 Wv) ⟨((Bx.at_ (by simp))), ((Below.refl _ wa2).alloc (by simp <;> omega) _)⟩ ?_
    rintro wa3 ⟨g2, b⟩
    replace m0 := cell_later b m0; try clear c_g1 f_g1 a_g1 d_g1 e_g1
    replace g1 := g1.below b; have c_g1 := g1.cell; have f_g1 := g1.free; have a_g1 := fun o => (g1.alloc o).cell; have d_g1 := fun o o2 => ((g1.alloc o).alloc o2).cell; have e_g1 := fun o => (g1.alloc o).free; replace B := B.trans (b.mono B.size); clear b
    have c_g2 := g2.cell; have f_g2 := g2.free; have a_g2 := fun o => (g2.alloc o).cell; have d_g2 := fun o o2 => ((g2.alloc o).alloc o2).cell; have e_g2 := fun o => (g2.alloc o).free
    go_wp2
    refine bodyPost_ret (v := .tuple #[.agg #[.int .i64 0, .int .i64 0, .int .i64 0, .int .i64 0, .bool false, .int .u64 0], .bool false]) (by simp [results, Tryz.results142, go_sem, c_g1, f_g1, a_g1, e_g1, c_g2, f_g2, a_g2, e_g2]) rfl ?_
    refine ⟨rfl, ?_⟩
    (repeat (first | refine Below.setCell ?_ (by first | exact Nat.le_refl _ | (simp <;> omega)) _ | refine Below.alloc ?_ (by first | exact B.size | (have := B.size; simp <;> omega)) _)); exact B
end Go.Proofs.YtmbokdnndlnjkaaGreat
namespace Go.Proofs.YtmbokdnndlnjkaaGreat
open Go.RowKit
theorem info_boolF : (Tryz.prog.info? 4).map (fun i => (i.zero, i.size, i.bytes)) = some (some (.bool false), 1, 1) := by kernel_rfl
theorem one_bool : (Tryz.prog.info? 4).map (·.size) = some 1 := by kernel_rfl
end Go.Proofs.YtmbokdnndlnjkaaGreat
namespace Go.Proofs.YtmbokdnndlnjkaaGreat
open Go.RowKit L01 L02 L05 L14 L15
/-- from which addresses on there are blocks, as far as this is known from address j on -/
def rgB (l : List UInt64) (j q : Nat) : Bool := decide (j ≤ q ∧ q % 2 = 0 ∧ (from_ l q).isSome = true)
def rg (l : List UInt64) (j : Nat) : List Bool := (List.range (l.length + 1)).map (rgB l j)
theorem rg_len (l : List UInt64) (j : Nat) : (rg l j).length = l.length + 1 := by simp [rg]
theorem rg_get {l : List UInt64} {j q : Nat} (hq : q ≤ l.length) : (rg l j)[q]? = some (rgB l j q) := by
  simp [rg, List.getElem?_map, List.getElem?_range (show q < l.length + 1 by omega)]
theorem rg_start {l : List UInt64} (hl : l.length % 2 = 0) : (List.replicate (l.length + 1) false).set l.length true = rg l l.length := by
  apply List.ext_getElem?
  intro q
  by_cases hq : q ≤ l.length
  · rw [rg_get hq]
    by_cases e : q = l.length
    · subst e
      rw [List.getElem?_set_self (by simp)]
      unfold rgB
      rw [from_end, decide_eq_true ⟨Nat.le_refl _, hl, rfl⟩]
    · rw [List.getElem?_set_ne (Ne.symm e), List.getElem?_replicate, if_pos (by omega)]
      unfold rgB
      rw [decide_eq_false (fun h => by omega)]
  · rw [List.getElem?_eq_none (by simp; omega), List.getElem?_eq_none (by rw [rg_len]; omega)]
theorem rg_step {l : List UInt64} {j : Nat} (h2 : 2 ≤ j) (hj : j ≤ l.length) (he : j % 2 = 0) : (rg l j).set (j - 2) (from_ l (j - 2)).isSome = rg l (j - 2) := by
  apply List.ext_getElem?
  intro q
  by_cases hq : q ≤ l.length
  · rw [rg_get hq]
    by_cases e : j - 2 = q
    · subst e
      rw [List.getElem?_set_self (by rw [rg_len]; omega)]
      unfold rgB
      congr 1
      rw [Bool.eq_iff_iff, decide_eq_true_iff]
      exact ⟨fun h => ⟨Nat.le_refl _, by omega, h⟩, fun h => h.2.2⟩
    · rw [List.getElem?_set_ne e, rg_get hq]
      unfold rgB
      congr 1
      rw [Bool.eq_iff_iff, decide_eq_true_iff, decide_eq_true_iff]
      constructor
      · rintro ⟨a, b, c⟩; exact ⟨by omega, b, c⟩
      · rintro ⟨a, b, c⟩; exact ⟨by omega, b, c⟩
  · rw [List.getElem?_eq_none (by rw [List.length_set, rg_len]; omega), List.getElem?_eq_none (by rw [rg_len]; omega)]
/-- A slice of bools of the call's own. -/
def OwnBl (w : World) (base : Nat) (v : Value) (R : List Bool) : Prop := w.ownsRow base 4 1 v R.length (R.map .bool)
theorem OwnBl.below {w w' : World} {base : Nat} {v : Value} {R : List Bool} (h : OwnBl w base v R) (hb : Below w.heap.size w w') : OwnBl w' base v R := own_below h hb
theorem OwnBl.of {w : World} {B n : Nat} {v : Value} {xs : List Value} {R : List Bool} (h : w.ownsRow B 4 1 v n xs) (hx : xs = R.map .bool) : OwnBl w B v R := by
  subst hx
  have hn : n = R.length := by have := h.1; simp at this; omega
  subst hn; exact h
theorem OwnBl.at_ {w : World} {base : Nat} {v : Value} {R : List Bool} (h : OwnBl w base v R) {k : Nat} {b : Bool} (hk : R[k]? = some b) :
    ∃ ad, (∀ W, (Instr.indexAt 226 v (.int .i64 (k : Int))).run Tryz.prog W = .ok (.pointer (some ad)) W) ∧ w.cell? ad = some (.bool b) ∧ w.frozen? ad = false ∧ base ≤ ad.block ∧ ∀ u, OwnBl (w.setCell ad (.bool u)) base v (R.set k u) := by
  obtain ⟨ad, u0, h1, h2, h3, h4, h5, h6⟩ := own_at (P := Tryz.prog) h Tryz.underlying226 one_bool (k := (k : Int)) (by omega) (by have := (List.getElem?_eq_some_iff.1 hk).1; omega)
  have h5 := h5.out
  rw [Int.toNat_natCast, List.getElem?_map, hk] at h5
  injection h5 with h5
  refine ⟨ad, h1, by rw [h2, ← h5], h3, h4, fun u => OwnBl.of (h6 (.bool u)) ?_⟩
  rw [Int.toNat_natCast, List.map_set]
set_option maxRecDepth 100000 in
set_option maxHeartbeats 4000000 in
theorem FromR_any (v : Value) (l : List UInt64) (hs : SizeOk l.length) (L : List Hb) (r : Bool) (hL : L = (from_ l 128).getD []) (hr : r = (from_ l 128).isSome) (w : World) (h : Words w v l) :
    Calls Tryz.prog 120 #[v, .int .i64 128] w fun e w' => ∃ x, e = .returned (.tuple #[x, .bool r]) ∧ OwnK w' w.heap.size x L ∧ Below w.heap.size w w' := by
  have B : Below w.heap.size w w := Below.refl _ _
  have H := Lib.hid h
  have lw := Rd.len h Tryz.underlying22
  obtain ⟨N, hN⟩ : ∃ N, N = l.length := ⟨_, rfl⟩
  rw [← hN] at lw
  have hs2 := hs
  rw [← hN] at hs2
  obtain ⟨hn1, hn2, hn3⟩ := hs2
  have HN := Lib.hid hN; have HR := Lib.hid (And.intro hr hL)
  have hw0 : IntKind.i64.wrap ((N : Int) + 1) = (N : Int) + 1 := IntWalk.i64_in _ (by omega)
  have hw2 : IntKind.i64.wrap ((N : Int) - 2) = (N : Int) - 2 := IntWalk.i64_in _ (by omega)
  have hN8 : N % 8 = 0 := by omega
  clear hr hL h hs hN
  go_enter Tryz.func120, Tryz.ntmps120
  go_upto_region 2 with (at_make; refine wpList_makeI (by rfl) rfl (by rfl) (by rfl) Tryz.underlying226 info_boolF rfl (by omega) (by omega) (by omega) B (Nat.le_refl _) ?_; intro vS wb oS bS bS2)
  have o0 : OwnBl wb w.heap.size vS (List.replicate (l.length + 1) false) := OwnBl.of oS (by rw [List.map_replicate, ← HN.out]; congr 1)
  obtain ⟨ad, ia, ca, fa, hb, hst⟩ := o0.at_ (k := N) (b := false) (by rw [List.getElem?_replicate, if_pos (by rw [HN.out]; omega)])
  have o1 := hst true
  rw [HN.out, rg_start (by rw [← HN.out]; omega)] at o1
  have HO := Lib.hid (And.intro o1 (bS.setCell (p := ad) hb (.bool true)))
  clear o0 o1 hst bS2 oS B
  go_wp2
  go_loopg [7] N (fun g i wr => ∃ j : Nat, 128 ≤ j ∧ j ≤ N ∧ j % 2 = 0 ∧ g = j ∧ i = .int .i64 ((j : Int) - 2) ∧ Hid (OwnBl wr w.heap.size vS (rg l j) ∧ Below w.heap.size w wr))
  case atStart => exact ⟨N, by omega, by omega, by omega, rfl, rfl, by rw [← HN.out] at HO; exact HO⟩
  case round =>
    obtain ⟨j, hj1, hj2, hj3, hgj, rfl, hh⟩ := hrel
    clear ia ca fa hb HO bS
    by_cases hlt : 130 ≤ j
    · obtain ⟨i, hij⟩ : ∃ i, j = i + 2 := ⟨j - 2, by omega⟩
      subst hij
      subst hgj
      have hwi : ((i + 2 : Nat) : Int) - 2 = (i : Int) := by omega
      rw [hwi]
      have q1 : ¬ (i : Int) < 128 := by omega
      have q2 : ¬ (i : Int) < 0 := by omega
      have q3 : (128 : Int) ≤ (i : Int) := by omega
      have hwj : IntKind.i64.wrap ((i : Int) - 2) = (i : Int) - 2 := IntWalk.i64_in _ (by omega)
      have hstep := rg_step (l := l) (j := i + 2) (by omega) (by rw [← HN.out]; omega) (by omega)
      rw [show i + 2 - 2 = i by omega] at hstep
      have HS := Lib.hid hstep
      have o1 := hh.out.1
      have B := hh.out.2
      have hB0 := B.size
      clear hstep
      by_cases hso : StOk l i
      · have hsz := szN_ge hso
        obtain ⟨z, hz⟩ : ∃ z, z = szN l i := ⟨_, rfl⟩
        obtain ⟨b, hbb⟩ : ∃ b, b = stand l i := ⟨_, rfl⟩
        have AT := Lib.hid (fun w h => AtR_any v l i b true (by rw [← HN.out]; omega) (by rw [if_pos hso, hbb]) (by rw [decide_eq_true hso]) (by rw [← HN.out]; omega) w h)
        have hbs : b.size = (z : Int) := by rw [hbb, hz]; exact stand_size hso
        have hfs := from_step (by rw [← HN.out]; omega) hso
        rw [← hz] at hsz hfs
        rw [← HN.out] at hsz
        obtain ⟨hz1, -, hz3, hz4, -⟩ := hsz
        have hval : rgB l (i + 2) (i + z) = (from_ l i).isSome := by
          unfold rgB
          rw [hfs, Option.isSome_map, Bool.eq_iff_iff, decide_eq_true_iff]
          exact ⟨fun h => h.2.2, fun h => ⟨by omega, by omega, h⟩⟩
        have hwz : IntKind.i64.wrap ((i : Int) + b.size) = (i : Int) + (z : Int) := by rw [hbs]; exact IntWalk.i64_in _ (by omega)
        obtain ⟨y, hy⟩ : ∃ y, y = (from_ l i).isSome := ⟨_, rfl⟩
        rw [← hy] at hval
        have HV := Lib.hid (And.intro hval hy)
        have HZ := Lib.hid (show i + z ≤ l.length by rw [← HN.out]; exact hz4)
        clear hz hbb hfs hval hy hbs hso hz1 hz3 hz4
        go_wp2_with fail
        refine (AT.out _ (H.out.below B)).mono ?_
        rintro e wa1 ⟨rfl, b⟩
        replace o1 := o1.below b; replace B := B.trans (b.mono B.size); clear b
        go_upto_region 7 with (fail)
        refine wp_gen (fun Wv => Bx Wv (wa1.heap.size) (82) (#[.int .i64 b.at_, .int .i64 b.size, .int .i64 b.kind, .int .i64 b.ty, .bool b.mark, .int .u64 b.next.toNat]) ∧ Below wa1.heap.size wa1 Wv) ⟨((Bx.at_ (by simp))), ((Below.refl _ wa1).alloc (by simp <;> omega) _)⟩ ?_
        rintro wa2 ⟨g2, b⟩
        replace o1 := o1.below b; replace B := B.trans (b.mono B.size); clear b
        have c_g2 := g2.cell; have f_g2 := g2.free; have a_g2 := fun o => (g2.alloc o).cell; have d_g2 := fun o o2 => ((g2.alloc o).alloc o2).cell; have e_g2 := fun o => (g2.alloc o).free
        obtain ⟨ad, ia, ca, fa, hb, hst⟩ := o1.at_ (k := i) (b := rgB l (i + 2) i) (rg_get (by rw [← HN.out]; omega))
        obtain ⟨ad2, ia2, ca2, fa2, hb2, -⟩ := o1.at_ (k := i + z) (b := y) (by rw [rg_get HZ.out, HV.out.1])
        have ia3 : ∀ W, (Instr.indexAt 226 vS (.int .i64 ((i : Int) + (z : Int)))).run Tryz.prog W = .ok (.pointer (some ad2)) W := ia2
        have hst2 := hst y
        rw [HV.out.2, HS.out] at hst2
        have HO := Lib.hid (And.intro hst2 (B.setCell (p := ad) hb (.bool (from_ l i).isSome)))
        rw [← HV.out.2] at HO
        clear hst hst2 ia2
        go_upto_region 5 with (fail)
        refine wp_gen (fun V => OwnBl V w.heap.size vS (rg l i) ∧ Below w.heap.size w V) HO.out ?_
        clear HO ia ca fa hb ia3 ca2 fa2 hb2 o1 B g2 c_g2 f_g2 a_g2 d_g2 e_g2
        rintro V HO
        have HO2 := Lib.hid HO
        clear HO
        go_wp2
        go_roundg i
        case measure => omega
        case rel => exact ⟨i, by omega, by omega, by omega, rfl, rfl, HO2⟩
      · have AT := Lib.hid (fun w h => AtR_any v l i .none false (by rw [← HN.out]; omega) (by rw [if_neg hso]) (by rw [decide_eq_false hso]) (by rw [← HN.out]; omega) w h)
        have hfs := from_no (by rw [← HN.out]; omega) hso
        have HV := Lib.hid hfs
        clear hfs hso
        go_wp2_with fail
        refine (AT.out _ (H.out.below B)).mono ?_
        rintro e wa3 ⟨rfl, b⟩
        replace o1 := o1.below b; replace B := B.trans (b.mono B.size); clear b
        go_upto_region 7 with (fail)
        refine wp_gen (fun Wv => Bx Wv (wa3.heap.size) (82) (#[.int .i64 0, .int .i64 0, .int .i64 0, .int .i64 0, .bool false, .int .u64 0]) ∧ Below wa3.heap.size wa3 Wv) ⟨((Bx.at_ (by simp))), ((Below.refl _ wa3).alloc (by simp <;> omega) _)⟩ ?_
        rintro wa4 ⟨g2, b⟩
        replace o1 := o1.below b; replace B := B.trans (b.mono B.size); clear b
        have c_g2 := g2.cell; have f_g2 := g2.free; have a_g2 := fun o => (g2.alloc o).cell; have d_g2 := fun o o2 => ((g2.alloc o).alloc o2).cell; have e_g2 := fun o => (g2.alloc o).free
        obtain ⟨ad, ia, ca, fa, hb, hst⟩ := o1.at_ (k := i) (b := rgB l (i + 2) i) (rg_get (by rw [← HN.out]; omega))
        have hst2 := hst false
        rw [show false = (from_ l i).isSome by rw [HV.out]; rfl, HS.out] at hst2
        have HO : Hid (OwnBl (World.setCell _ ad (.bool false)) w.heap.size vS (rg l i) ∧ Below w.heap.size w (World.setCell _ ad (.bool false))) := Lib.hid (And.intro (by rw [show false = (from_ l i).isSome by rw [HV.out]; rfl]; exact hst2) (B.setCell (p := ad) hb (.bool false)))
        clear hst hst2
        go_upto_region 5 with (fail)
        refine wp_gen (fun V => OwnBl V w.heap.size vS (rg l i) ∧ Below w.heap.size w V) HO.out ?_
        clear HO ia ca fa hb o1 B g2 c_g2 f_g2 a_g2 d_g2 e_g2
        rintro V HO
        have HO2 := Lib.hid HO
        clear HO
        go_wp2
        go_roundg i
        case measure => omega
        case rel => exact ⟨i, by omega, by omega, by omega, rfl, rfl, HO2⟩
    · obtain rfl : j = 128 := by omega
      subst hgj
      have q1 : ((128 : Nat) : Int) - 2 = 126 := rfl
      rw [q1]
      have o1 := hh.out.1
      have B := hh.out.2
      obtain ⟨ad, ia, ca, fa, hb, -⟩ := o1.at_ (k := 128) (b := rgB l 128 128) (rg_get (by rw [← HN.out]; omega))
      have ia3 : ∀ W, (Instr.indexAt 226 vS (.int .i64 128)).run Tryz.prog W = .ok (.pointer (some ad)) W := ia
      have hv : rgB l 128 128 = r := by
        rw [HR.out.1]
        unfold rgB
        rw [Bool.eq_iff_iff, decide_eq_true_iff]
        exact ⟨fun h => h.2.2, fun h => ⟨by omega, by omega, h⟩⟩
      rw [hv] at ca
      have q3 : ¬ (N : Int) < 128 := by omega
      have q4 : decide (N < 128) = false := decide_eq_false (by omega)
      have q5 : ¬ N < 128 := by omega
      clear hv ia
      cases r
      · have hL : L = [] := by
          rw [HR.out.2]
          cases hf : from_ l 128 with
          | none => rfl
          | some M => have := HR.out.1; rw [hf] at this; simp at this
        subst hL
        go_wp2
        go_ret2
        exact ⟨_, rfl, OwnK.nil _ _, B⟩
      · have hf : from_ l 128 = some L := by
          cases hf : from_ l 128 with
          | none => have := HR.out.1; rw [hf] at this; simp at this
          | some M => have := HR.out.2; rw [hf] at this; rw [this]; rfl
        have HF := Lib.hid hf
        have HBB := Lib.hid B
        clear hf B o1 hh
        go_wp2
        go_loopg [1, 10] (N - 128) (fun g i xv wr => ∃ (q : Nat) (L0 : List Hb) (L1 : List Hb), q ≤ N ∧ g = N - q ∧ i = .int .i64 q ∧ Hid (OwnK wr w.heap.size xv L0 ∧ from_ l q = some L1 ∧ L = L0 ++ L1 ∧ 2 * L0.length ≤ q ∧ Below w.heap.size w wr))
        case atStart => exact ⟨128, [], L, by omega, rfl, rfl, Lib.hid ⟨OwnK.nil _ _, HF.out, rfl, by simp, HBB.out⟩⟩
        case round =>
          obtain ⟨q, L0, L1, hq, rfl, rfl, hh⟩ := hrel
          clear HBB
          by_cases hlt : q < N
          · have hfr := hh.out.2.1
            have hso : StOk l q := by
              by_cases hso : StOk l q
              · exact hso
              · rw [from_no (by rw [← HN.out]; exact hlt) hso] at hfr; cases hfr
            obtain ⟨b, hb⟩ : ∃ b, b = stand l q := ⟨_, rfl⟩
            have AT := Lib.hid (fun w h => AtR_any v l q b true (by rw [← HN.out]; exact hlt) (by rw [if_pos hso, hb]) (by rw [decide_eq_true hso]) (by rw [← HN.out]; omega) w h)
            have hsz := szN_ge hso
            have hbs : b.size = (szN l q : Int) := by rw [hb]; exact stand_size hso
            have hst := from_step (by rw [← HN.out]; exact hlt) hso
            rw [← hb] at hst
            obtain ⟨z, hz⟩ : ∃ z, z = szN l q := ⟨_, rfl⟩
            rw [← hz] at hsz hbs hst
            rw [← HN.out] at hsz
            obtain ⟨hz1, -, -, hz4, -⟩ := hsz
            rw [hst] at hfr
            obtain ⟨L2, hL2, hL12⟩ := Option.map_eq_some_iff.1 hfr
            have o1 := hh.out.1
            have B := hh.out.2.2.2.2
            have hl0 := hh.out.2.2.2.1
            have hLL := hh.out.2.2.1
            have hB0 := B.size
            have hwq : IntKind.i64.wrap ((q : Int) + b.size) = ((q + z : Nat) : Int) := by rw [hbs, show ((q + z : Nat) : Int) = (q : Int) + z by omega]; exact IntWalk.i64_in _ (by omega)
            have HZ := Lib.hid (And.intro hz1 (And.intro hz4 (And.intro hL2 (show L = L0 ++ [b] ++ L2 by rw [hLL, ← hL12]; simp))))
            clear hb hst hfr hz hbs hso hL2 hL12 hLL hz1 hz4
            go_wp2_with fail
            refine (AT.out _ (H.out.below B)).mono ?_
            rintro e wa5 ⟨rfl, b⟩
            replace o1 := o1.below b; replace B := B.trans (b.mono B.size); clear b
            have hne := own_fresh o1
            go_upto_region 13 with (fail)
            refine wp_gen (fun Wv => Bx Wv (wa5.heap.size) (82) (#[.int .i64 b.at_, .int .i64 b.size, .int .i64 b.kind, .int .i64 b.ty, .bool b.mark, .int .u64 b.next.toNat]) ∧ Below wa5.heap.size wa5 Wv) ⟨((Bx.at_ (by simp))), ((Below.refl _ wa5).alloc (by simp <;> omega) _)⟩ ?_
            rintro wa6 ⟨g2, b⟩
            replace o1 := o1.below b; replace B := B.trans (b.mono B.size); clear b
            have c_g2 := g2.cell; have f_g2 := g2.free; have a_g2 := fun o => (g2.alloc o).cell; have d_g2 := fun o o2 => ((g2.alloc o).alloc o2).cell; have e_g2 := fun o => (g2.alloc o).free
            clear f_g2 a_g2 d_g2 e_g2
            go_wp2_with (at_builtin; refine wpList_append (by rfl) rfl rfl rfl Tryz.underlying77 info_block rfl (by omega) (by exact own_below o1 ((Below.refl _ _).alloc (Nat.le_refl _) _)) (by exact lit_block b (by simp)) (bkL_one b) (by omega) (by omega) (by exact B.alloc B.size _) (Nat.le_refl _) ?_; intro v1 w3 o3 B3 g3; have c_4 := ((g2.alloc _).grown g3 hne).cell; clear c_g2)
            have o4 : OwnK w3 w.heap.size v1 (L0 ++ [b]) := OwnK.of o3 (tabB_snoc L0 b)
            have HO := Lib.hid (And.intro o4 B3)
            go_roundg (N - (q + z))
            case measure => have := HZ.out.1; omega
            case rel => exact ⟨q + z, L0 ++ [b], L2, by have := HZ.out.2.1; omega, rfl, rfl, Lib.hid ⟨HO.out.1, HZ.out.2.2.1, HZ.out.2.2.2, by have := HZ.out.1; simp only [List.length_append, List.length_cons, List.length_nil]; omega, HO.out.2⟩⟩
          · obtain rfl : q = N := by omega
            have hfr := hh.out.2.1
            rw [show from_ l q = some [] by rw [HN.out]; exact from_end] at hfr
            injection hfr with hfr
            have hL0 : L = L0 := by rw [hh.out.2.2.1, ← hfr, List.append_nil]
            subst hL0
            have o1 := hh.out.1
            have B := hh.out.2.2.2.2
            clear hfr
            go_wp2
            go_ret2
            exact ⟨_, rfl, o1, B⟩
set_option maxRecDepth 100000 in
set_option maxHeartbeats 2000000 in
theorem ParsedR_any (v : Value) (l : List UInt64) (hs : SizeOk l.length) (L : List Hb) (r : Bool) (hL : L = allL l) (hr : r = decide (allErr l = 0)) (w : World) (h : Words w v l) :
    Calls Tryz.prog 61 #[v] w fun e w' => ∃ x, e = .returned (.tuple #[x, .bool r]) ∧ OwnK w' w.heap.size x L ∧ Below w.heap.size w w' := by
  have B : Below w.heap.size w w := Below.refl _ _
  have H := Lib.hid h
  obtain ⟨L0, hL0⟩ : ∃ L0, L0 = (from_ l 128).getD [] := ⟨_, rfl⟩
  obtain ⟨r0, hr0⟩ : ∃ r0, r0 = (from_ l 128).isSome := ⟨_, rfl⟩
  have FT := Lib.hid (fun w h => FromR_any v l hs L0 r0 hL0 hr0 w h)
  have hre : r = (r0 && decide (¬ Adj L0)) := by
    rw [hr, hr0, hL0, allErr, if_pos hs]
    cases hf : from_ l 128 with
    | none => rw [parsed_none hf]; rfl
    | some M =>
      rw [parsed_some hf]
      by_cases ha : Adj M <;> simp [ha]
  have hLe : L = if r = true then L0 else [] := by
    rw [hL, allL, hr, hL0]
    by_cases h0 : allErr l = 0
    · rw [if_pos h0, if_pos (decide_eq_true h0)]
      have h1 := h0
      unfold allErr at h1
      rw [if_pos hs] at h1
      cases hf : from_ l 128 with
      | none => rw [parsed_none hf]
      | some M =>
        rw [parsed_some hf] at h1 ⊢
        by_cases ha : Adj M
        · rw [if_pos ha] at h1; simp at h1
        · rw [if_neg ha]
    · rw [if_neg h0, if_neg (by simpa using h0)]
  have HR := Lib.hid (And.intro hre hLe)
  have hnil : r0 = false → L0 = [] := fun e => by
    rw [hL0]
    rw [hr0] at e
    cases hf : from_ l 128 with
    | none => rfl
    | some M => rw [hf] at e; cases e
  have HE := Lib.hid hnil
  obtain ⟨N, hN⟩ : ∃ N, N = L0.length := ⟨_, rfl⟩
  have HN := Lib.hid hN
  clear hL hr hL0 hr0 h hs hre hLe hnil
  go_enter Tryz.func61, Tryz.ntmps61
  go_wp2_with fail
  refine (FT.out _ (H.out.below B)).mono ?_
  rintro e wa1 ⟨x1, rfl, o1, b⟩
  replace B := B.trans (b.mono B.size); clear b
  have lx := o1.rd.len
  have hlen := o1.rd.len_le
  rw [← hN] at lx hlen
  clear hN
  cases r0
  · have h0 := HE.out rfl
    have hN0 : N = 0 := by rw [HN.out, h0]; rfl
    have hr0 : r = false := by rw [HR.out.1]; rfl
    have hL0 : L = [] := by rw [HR.out.2, hr0]; rfl
    rw [hN0] at lx
    subst hr0; subst hL0
    clear h0 hN0
    go_wp2
    go_loopg [6, 5] 0 (fun g i rv wr => i = .int .i64 1 ∧ rv = .bool false ∧ wr = wa1)
    case atStart => exact ⟨rfl, rfl, rfl⟩
    case round =>
      obtain ⟨rfl, rfl, rfl⟩ := hrel
      go_wp2
      go_ret2
      exact ⟨_, rfl, OwnK.nil _ _, B⟩
  · go_wp2
    go_loopg [6, 5] N (fun g i rv wr => ∃ (j : Nat) (c : Bool), 1 ≤ j ∧ j ≤ N + 1 ∧ g = N + 1 - j ∧ i = .int .i64 j ∧ rv = .bool c ∧ wr = wa1 ∧ Hid ((c = true → NoAdj L0 j) ∧ (c = false → Adj L0)))
    case atStart => exact ⟨1, true, by omega, by omega, by omega, rfl, rfl, rfl, Lib.hid ⟨fun _ i a b h1 => by omega, fun e => (by cases e)⟩⟩
    case round =>
      obtain ⟨j, c, hj1, hj, rfl, rfl, rfl, rfl, hna⟩ := hrel
      by_cases hlt : j < N
      · obtain ⟨i, hij⟩ : ∃ i, j = i + 1 := ⟨j - 1, by omega⟩
        subst hij
        obtain ⟨bb, oo, s, ia, _, _, m0, _, _, _, hs, _⟩ := o1.rd.at_ (k := i + 1) (by rw [← HN.out]; exact hlt)
        obtain ⟨b2, o2, t, ia2, _, _, m1, _, _, _, ht, _⟩ := o1.rd.at_ (k := i) (by rw [← HN.out]; omega)
        have ia3 : ∀ W, (Instr.indexAt 77 x1 (.int .i64 ((i : Int) + 1))).run Tryz.prog W = .ok (.pointer (some ⟨bb, oo, none⟩)) W := ia
        have hw : IntKind.i64.wrap ((i : Int) + 1 - 1) = (i : Int) := by rw [show (i : Int) + 1 - 1 = (i : Int) by omega]; exact IntWalk.i64_in _ (by omega)
        have hw2 : IntKind.i64.wrap (i : Int) = (i : Int) := IntWalk.i64_in _ (by omega)
        by_cases hk : t.kind = 2 ∧ s.kind = 2
        · have ha := Lib.hid (adj_at ht.out hs.out hk.1 hk.2)
          rw [hk.2] at m0; rw [hk.1] at m1
          clear hk
          go_wp2
          go_roundg (N + 1 - (i + 1 + 1))
          case measure => omega
          case rel => exact ⟨i + 1 + 1, false, by omega, by omega, rfl, by go_num, rfl, rfl, Lib.hid ⟨fun e => (by cases e), fun _ => ha.out⟩⟩
        · have HNA : Hid ((c = true → NoAdj L0 (i + 1 + 1)) ∧ (c = false → Adj L0)) := Lib.hid ⟨fun e => noAdj_step (hna.out.1 e) (fun i' a b h1 h2 h3 => by
            obtain rfl : i' = i := by omega
            rw [ht.out] at h2; rw [hs.out] at h3
            injection h2 with h2; injection h3 with h3; subst h2; subst h3; exact hk), hna.out.2⟩
          by_cases hs2 : t.kind = 2
          · have ht2 : (s.kind == 2) = false := by rw [beq_eq_false_iff_ne]; exact fun e => hk ⟨hs2, e⟩
            rw [hs2] at m1
            clear hk hs2
            go_wp2
            go_roundg (N + 1 - (i + 1 + 1))
            case measure => omega
            case rel => exact ⟨i + 1 + 1, c, by omega, by omega, rfl, by go_num, rfl, rfl, HNA⟩
          · have ht2 : (t.kind == 2) = false := by rw [beq_eq_false_iff_ne]; exact hs2
            clear hk hs2
            go_wp2
            go_roundg (N + 1 - (i + 1 + 1))
            case measure => omega
            case rel => exact ⟨i + 1 + 1, c, by omega, by omega, rfl, by go_num, rfl, rfl, HNA⟩
      · have hge : N ≤ j := by omega
        cases c
        · have ha := hna.out.2 rfl
          have hr0 : r = false := by rw [HR.out.1]; simp [ha]
          have hL0 : L = [] := by rw [HR.out.2, hr0]; rfl
          subst hr0; subst hL0
          clear ha
          go_wp2
          go_ret2
          exact ⟨_, rfl, OwnK.nil _ _, B⟩
        · have ha : ¬ Adj L0 := fun ha => by
            obtain ⟨i, a, b, h1, h2, h3, h4⟩ := adj_iff.1 ha
            have hi := (List.getElem?_eq_some_iff.1 h2).1
            exact hna.out.1 rfl i a b (by have := HN.out; omega) h1 h2 ⟨h3, h4⟩
          have hr0 : r = true := by rw [HR.out.1]; simp [ha]
          have hL0 : L = L0 := by rw [HR.out.2, hr0]; rfl
          subst hr0; subst hL0
          clear ha
          go_wp2
          go_ret2
          exact ⟨_, rfl, o1, B⟩
end Go.Proofs.YtmbokdnndlnjkaaGreat
namespace Go.Proofs.YtmbokdnndlnjkaaGreat
open Go.RowKit Go.Maps
def i64Ok (a : Int) : Prop := -9223372036854775808 ≤ a ∧ a ≤ 9223372036854775807
theorem lit_wf {a : Int} (h : i64Ok a) : (Lit.int .i64 a).wf = true := by
  unfold i64Ok at h
  have e1 : IntKind.i64.min = -9223372036854775808 := by decide
  have e2 : IntKind.i64.max = 9223372036854775807 := by decide
  simp [Lit.wf, e1, e2]
  omega
/-- block g is a map of at most n entries that yields the literal f a at a, z0 where nothing stands -/
def MapL (P : Program) (k e : TypeId) (z0 : Lit) (W : World) (g n : Nat) (f : Int → Lit) : Prop :=
  ∃ D : DataW Unit, W.ownsMap P k (plainElem P e) g n D ∧ ∀ a, D.atKey (.int .i64 a) (.lit z0) = .lit (f a)
section
variable {P : Program} {k e : TypeId} {z0 : Lit} {W : World} {g n : Nat} {f : Int → Lit}
theorem MapL.made (W : World) : MapL P k e z0 (W.alloc (.map #[] 0)) W.heap.size 0 (fun _ => z0) :=
  ⟨.map [], World.ownsMap_made W P k _, fun a => rfl⟩
theorem MapL.lt (h : MapL P k e z0 W g n f) : g < W.heap.size := by obtain ⟨D, h1, _⟩ := h; exact h1.lt
theorem MapL.kept {W' : World} {row : Option Nat} (h : MapL P k e z0 W g n f) (hg : W.grownBy W' row) (hne : some g ≠ row) : MapL P k e z0 W' g n f := by
  obtain ⟨D, h1, h2⟩ := h; exact ⟨D, h1.kept hg hne, h2⟩
theorem MapL.below {W' : World} (h : MapL P k e z0 W g n f) (hb : Below W.heap.size W W') : MapL P k e z0 W' g n f := by
  obtain ⟨D, ⟨es, clock, hh, F, hs, hD⟩, h2⟩ := h
  exact ⟨D, ⟨es, clock, (hb.block g (Array.getElem?_eq_some_iff.1 hh).1).trans hh, F, hs, hD⟩, h2⟩
theorem MapL.mono {n' : Nat} (h : MapL P k e z0 W g n f) (hn : n ≤ n') : MapL P k e z0 W g n' f := by
  obtain ⟨D, h1, h2⟩ := h; exact ⟨D, h1.mono hn, h2⟩
/-- a store, as an equation on its run -/
theorem MapL.put {t : TypeId} (h : MapL P k e z0 W g n f) (hk : P.underlying k = some (.int .i64)) (ht : P.underlying t = some (.map k e)) (hn : n < maxLen) {a : Int} (ha : i64Ok a) {v : Value} {l : Lit} (hv : plainElem (H := Unit) P e v = some (.lit l, [])) :
    ∃ W', (Instr.mapUpdate t (.map (some g)) (.int .i64 a) v).run P W = .ok () W' ∧ MapL P k e z0 W' g (n + 1) (fun b => if b = a then l else f b) ∧ W.grownBy W' (some g) := by
  obtain ⟨D, h1, h2⟩ := h
  obtain ⟨W', r1, r2, r3⟩ := h1.update (int_keyed hk) ht hn (keyOf_int_mk hk (lit_wf ha)) hv
  refine ⟨W', r1, ⟨_, r2, fun b => ?_⟩, r3⟩
  by_cases hb : b = a
  · subst hb
    show _ = DataW.lit (if b = b then l else f b)
    rw [if_pos rfl]
    exact atKey_put_same (h1.isMap) ((int_keyed hk).key (keyOf_int_mk hk (lit_wf ha))) _ _
  · show _ = DataW.lit (if b = a then l else f b)
    rw [if_neg hb, atKey_put_other (by intro e; injection e with _ e; exact hb e), h2]
theorem plainElem_bool_inv {v : Value} {b : Bool} {ps : List MemPlace} (he : P.underlying e = some .bool) (h : plainElem (H := Unit) P e v = some (.lit (.bool b), ps)) : v = .bool b := by
  unfold plainElem at h
  rw [he] at h
  cases v <;> simp at h
  rw [h.1]
/-- a look-up -/
theorem MapL.lookB {t : TypeId} {S : Int → Bool} (h : MapL P k e (.bool false) W g n (fun a => .bool (S a))) (hk : P.underlying k = some (.int .i64)) (ht : P.underlying t = some (.map k e)) (he : P.underlying e = some .bool) (hz : (zeroValue e).run P W = .ok (.bool false) W) {a : Int} (ha : i64Ok a) :
    (Instr.lookup t (.map (some g)) (.int .i64 a) false).run P W = .ok (.bool (S a)) W := by
  obtain ⟨D, h1, h2⟩ := h
  obtain ⟨v, ps, hrun, hv⟩ := h1.lookup (int_keyed hk) ht hz (plainElem_bool he false) (keyOf_int_mk hk (lit_wf ha))
  rw [h2] at hv
  rw [hrun, plainElem_bool_inv he hv]
/-- a store at the operation, for the walk -/
theorem wpList_mapPut {ops : Array Oper} {rest : List Oper} {o : Oper} {a : Act} {Q : Exit → Act → World → Prop} (hg : o.guard = none) {m x v : Operand} {t : TypeId} (hop : o.op = Op.mapUpdate t m x v) (hk : P.underlying k = some (.int .i64)) (ht : P.underlying t = some (.map k e))
    (hm : a.eval m = .map (some g)) {key : Int} {val : Value} {l : Lit} (hx : a.eval x = .int .i64 key) (hv : a.eval v = val) (h : MapL P k e z0 W g n f) (hn : n < maxLen) (hkey : i64Ok key) (hval : plainElem (H := Unit) P e val = some (.lit l, []))
    (hK : ∀ W', MapL P k e z0 W' g (n + 1) (fun b => if b = key then l else f b) → W.grownBy W' (some g) → wpList P ops Q rest (a.put o.dst undef) W') : wpList P ops Q (o :: rest) a W := by
  refine wpList_plain hg fun K' hK' => ?_
  obtain ⟨W', hrun, r1, r2⟩ := h.put hk ht hn hkey hval
  unfold Oper.wp
  simp [execOp, hop, hm, hx, hv, hrun, Result.andThen]
  exact hK' _ _ (hK W' r1 r2)
end
end Go.Proofs.YtmbokdnndlnjkaaGreat
namespace Go.Proofs.YtmbokdnndlnjkaaGreat
open Go.RowKit
def u8 (x : UInt8) : Value := .int .u8 x.toNat
def Byts (w : World) (v : Value) (l : List UInt8) : Prop := Rd w 1 v l.length (l.map u8)
def OwnB (w : World) (base E : Nat) (v : Value) (l : List UInt8) : Prop := w.ownsRow base E 1 v l.length (l.map u8)
theorem one_u8 : (Tryz.prog.info? 5).map (·.size) = some 1 := by kernel_rfl
theorem info_u8 : (Tryz.prog.info? 5).map (fun i => (i.zero, i.size, i.bytes)) = some (some (.int .u8 0), 1, 1) := by kernel_rfl
theorem one_u8s (l : List UInt8) : ∀ u ∈ l.map u8, u.oneCell' = true := by
  intro u hu; obtain ⟨x, _, rfl⟩ := List.mem_map.1 hu; rfl
section
variable {P : Program} {w w' : World} {v : Value} {l : List UInt8} {base E : Nat}
theorem OwnB.rd (h : OwnB w base E v l) : Byts w v l := Rd.of_own h
theorem Byts.below (h : Byts w v l) (hb : Below w.heap.size w w') : Byts w' v l := Rd.below h hb
theorem Byts.alloc (h : Byts w v l) (o : Obj) : Byts (w.alloc o) v l := Rd.alloc h o
theorem OwnB.below (h : OwnB w base E v l) (hb : Below w.heap.size w w') : OwnB w' base E v l := own_below h hb
theorem OwnB.nil (w : World) (base E : Nat) : OwnB w base E (.slice none 0 0) [] := World.ownsRow_nil w base E 1
theorem Byts.nil (w : World) : Byts w (.slice none 0 0) [] := Rd.nil w 1
theorem OwnB.of {n : Nat} {xs : List Value} (h : w.ownsRow base E 1 v n xs) (hx : xs = l.map u8) : OwnB w base E v l := by
  subst hx
  have hn : n = l.length := by have := h.1; simp at this; omega
  subst hn; exact h
theorem Byts.at_ {t e : TypeId} (h : Byts w v l) (ht : P.underlying t = some (.slice e)) (hi : (P.info? e).map (·.size) = some 1) {k : Nat} (hk : k < l.length) :
    ∃ ad x, (∀ W, (Instr.indexAt t v (.int .i64 (k : Int))).run P W = .ok (.pointer (some ad)) W) ∧ w.cell? ad = some (.int .u8 (UInt8.toNat x)) ∧ Hid (l[k]? = some x) :=
  ⟨_, l[k], fun W => Rd.ixN h ht hi hk W, by rw [Nat.mul_one]; exact Rd.cell h (by simp [hk]; rfl), by unfold Hid; simp [hk]⟩
end
end Go.Proofs.YtmbokdnndlnjkaaGreat
namespace Go.Proofs.YtmbokdnndlnjkaaGreat.L13
open L05
def kErr (l : List UInt8) : Int := if 8 < l.length then 4 else if ∀ k ∈ l, 1 ≤ k.toNat ∧ k.toNat ≤ 3 then 0 else 8
def kSize (l : List UInt8) : Int := if kErr l = 0 then 2 + ((l.length + 1) / 2 * 2 : Nat) else 0
/-- digits to the base 4, the first one the lowest -/
def fN : List UInt8 → Nat
  | [] => 0
  | k :: l => k.toNat + 4 * fN l
def firstN (l : List UInt8) : Nat := fN l * 256 + l.length
def w0 (l : List UInt8) : UInt64 := if kErr l = 0 then UInt64.ofNat (firstN l) else 0
def w1 (l : List UInt8) : UInt64 := if kErr l = 0 then sum [w0 l] else 0
def nOf (a : UInt64) : Nat := a.toNat % 256
def dig (a : UInt64) (n : Nat) : List UInt8 := (List.range n).map fun i => UInt8.ofNat (a.toNat / 256 / 4 ^ i % 4)
def RdOk (a b : UInt64) : Prop := nOf a ≤ 8 ∧ kErr (dig a (nOf a)) = 0 ∧ w0 (dig a (nOf a)) = a ∧ w1 (dig a (nOf a)) = b
instance (a b : UInt64) : Decidable (RdOk a b) := inferInstanceAs (Decidable (_ ∧ _ ∧ _ ∧ _))
def rdL (a b : UInt64) : List UInt8 := if RdOk a b then dig a (nOf a) else []
def rdE (a b : UInt64) : Int := if RdOk a b then 0 else 50
theorem kErr_ok {l : List UInt8} (h : kErr l = 0) : l.length ≤ 8 ∧ ∀ k ∈ l, 1 ≤ k.toNat ∧ k.toNat ≤ 3 := by
  unfold kErr at h
  split at h
  · omega
  · split at h
    · exact ⟨by omega, by assumption⟩
    · omega
theorem kErr_of {l : List UInt8} (h : l.length ≤ 8) (h2 : ∀ k ∈ l, 1 ≤ k.toNat ∧ k.toNat ≤ 3) : kErr l = 0 := by
  unfold kErr
  rw [if_neg (by omega), if_pos h2]
theorem kErr_many {l : List UInt8} (h : 8 < l.length) : kErr l = 4 := if_pos h
theorem kErr_bad {l : List UInt8} (h : l.length ≤ 8) {k : Nat} {x : UInt8} (hx : l[k]? = some x) (hb : ¬ (1 ≤ x.toNat ∧ x.toNat ≤ 3)) : kErr l = 8 := by
  unfold kErr
  rw [if_neg (by omega), if_neg]
  intro hall
  exact hb (hall x (List.mem_of_getElem? hx))
theorem fN_snoc : ∀ (l : List UInt8) (k : UInt8), fN (l ++ [k]) = fN l + k.toNat * 4 ^ l.length
  | [], k => by simp [fN]
  | x :: l, k => by
    rw [List.cons_append, fN, fN_snoc l k, fN, List.length_cons, Nat.pow_succ]
    have : k.toNat * (4 ^ l.length * 4) = 4 * (k.toNat * 4 ^ l.length) := by rw [← Nat.mul_assoc, Nat.mul_comm]
    omega
theorem fN_lt : ∀ (l : List UInt8), (∀ k ∈ l, k.toNat ≤ 3) → fN l < 4 ^ l.length
  | [], _ => by simp [fN]
  | x :: l, h => by
    have h1 := fN_lt l fun k hk => h k (List.mem_cons_of_mem _ hk)
    have h2 := h x List.mem_cons_self
    rw [fN, List.length_cons, Nat.pow_succ]
    omega
theorem fN_take {l : List UInt8} {k : Nat} {x : UInt8} (hx : l[k]? = some x) : fN (l.take (k + 1)) = fN (l.take k) + x.toNat * 4 ^ k := by
  have hk : k < l.length := (List.getElem?_eq_some_iff.1 hx).1
  rw [List.take_add_one, hx]
  show fN (l.take k ++ [x]) = _
  rw [fN_snoc, List.length_take, Nat.min_eq_left (by omega)]
theorem pow4_le {n : Nat} (h : n ≤ 8) : 4 ^ n ≤ 65536 := Nat.pow_le_pow_right (by omega) h
theorem firstN_lt {l : List UInt8} (h : kErr l = 0) : firstN l < 16777216 := by
  obtain ⟨h1, h2⟩ := kErr_ok h
  have h3 := fN_lt l fun k hk => (h2 k hk).2
  have h4 := pow4_le h1
  unfold firstN
  omega
theorem w0_nat {l : List UInt8} (h : kErr l = 0) : (w0 l).toNat = firstN l := by
  rw [w0, if_pos h, UInt64.toNat_ofNat']
  have := firstN_lt h
  exact Nat.mod_eq_of_lt (by omega)
theorem dig_succ (a : UInt64) (n : Nat) : dig a (n + 1) = dig a n ++ [UInt8.ofNat (a.toNat / 256 / 4 ^ n % 4)] := by
  unfold dig
  rw [List.range_succ, List.map_append]; rfl
theorem dig_len (a : UInt64) (n : Nat) : (dig a n).length = n := by simp [dig]
theorem fN_dig (a : UInt64) : ∀ n, fN (dig a n) = a.toNat / 256 % 4 ^ n
  | 0 => by simp [dig, fN, Nat.mod_one]
  | n + 1 => by
    have e : a.toNat / 256 / 4 ^ n % 4 % 256 = a.toNat / 256 / 4 ^ n % 4 := by omega
    have e2 := Nat.mod_pow_succ (b := 4) (k := n) (x := a.toNat / 256)
    rw [dig_succ, fN_snoc, fN_dig a n, dig_len, UInt8.toNat_ofNat', e2]
    rw [show (2 : Nat) ^ 8 = 256 from rfl, e, Nat.mul_comm (4 ^ n)]
/-- what the reference asks of the first word -/
theorem w0_dig (a : UInt64) (h : nOf a ≤ 8) (hk : kErr (dig a (nOf a)) = 0) : w0 (dig a (nOf a)) = a ↔ a.toNat / 256 / 4 ^ nOf a = 0 := by
  have hn := w0_nat hk
  have e : firstN (dig a (nOf a)) = a.toNat / 256 % 4 ^ nOf a * 256 + nOf a := by rw [firstN, fN_dig, dig_len]
  have ha : a.toNat = a.toNat / 256 * 256 + nOf a := by unfold nOf; omega
  constructor
  · intro h1
    rw [h1, e] at hn
    have h2 : a.toNat / 256 = a.toNat / 256 % 4 ^ nOf a := by omega
    rw [h2]
    exact Nat.div_eq_of_lt (Nat.mod_lt _ (Nat.pow_pos (by omega)))
  · intro h1
    have h2 : a.toNat / 256 < 4 ^ nOf a := by
      rcases Nat.lt_or_ge (a.toNat / 256) (4 ^ nOf a) with h | h
      · exact h
      · have := Nat.div_pos h (Nat.pow_pos (by omega)); omega
    apply UInt64.toNat_inj.1
    rw [hn, e, Nat.mod_eq_of_lt h2]
    exact ha.symm
end Go.Proofs.YtmbokdnndlnjkaaGreat.L13
namespace Go.Proofs.YtmbokdnndlnjkaaGreat
open Go.RowKit L02 L05 L13
set_option maxHeartbeats 600000 in
theorem KCheck_any (v : Value) (l : List UInt8) (r : Int) (hr : r = kErr l) (w : World) (h : Byts w v l) : Calls Tryz.prog 107 #[v] w fun e w' => e = .returned (.int .i64 r) ∧ w = w' := by
  have l1 := Rd.len h Tryz.underlying83
  obtain ⟨N, hN⟩ : ∃ N, N = l.length := ⟨_, rfl⟩
  rw [← hN] at l1
  have HN := Lib.hid hN; have H := Lib.hid h; have HR := Lib.hid hr; clear hN h hr
  by_cases hbig : 8 < N
  · go_enter Tryz.func107, Tryz.ntmps107
    go_wp2
    go_ret
    exact ⟨ret_int (by rw [HR.out, kErr_many (by have := HN.out; omega)]), rfl⟩
  · have hs : N ≤ 8 := by omega
    clear hbig
    go_enter Tryz.func107, Tryz.ntmps107
    go_wp2
    go_loop [10] (fun i => ∃ k : Nat, k ≤ N ∧ i = .int .i64 k ∧ Hid (∀ x ∈ l.take k, 1 ≤ x.toNat ∧ x.toNat ≤ 3)) (fun i => N - (intOf i).toNat)
    case atStart => exact ⟨0, Nat.zero_le _, rfl, Lib.hid (by simp)⟩
    case round =>
      obtain ⟨k, hk, rfl, hh⟩ := hrel
      by_cases hlt : k < N
      · obtain ⟨ad, x, ia, ca, hx⟩ := H.out.at_ (P := Tryz.prog) Tryz.underlying83 one_u8 (k := k) (by have := HN.out; omega)
        by_cases hg : 1 ≤ x.toNat ∧ x.toNat ≤ 3
        · obtain ⟨h1, h2⟩ := hg
          go_wp2
          go_round
          case rel =>
            refine ⟨k + 1, by omega, by go_num, Lib.hid ?_⟩
            intro y hy
            rw [List.take_add_one, hx.out] at hy
            rcases List.mem_append.1 hy with hy | hy
            · exact hh.out y hy
            · simp at hy; subst hy; exact ⟨h1, h2⟩
          case measure => simp [intOf]; omega
        · have hcase : x.toNat < 1 ∨ 1 ≤ x.toNat ∧ 3 < x.toNat := by omega
          have hb := kErr_bad (by have := HN.out; omega) hx.out hg
          have HB := Lib.hid hb; clear hb hg
          rcases hcase with h1 | ⟨h1, h2⟩
          all_goals
            go_wp2
            go_ret
            exact ⟨ret_int (by rw [HR.out, HB.out]), rfl⟩
      · obtain rfl : k = N := by omega
        go_wp2
        go_ret
        refine ⟨ret_int ?_, rfl⟩
        rw [HR.out, kErr_of (by have := HN.out; omega)]
        have := hh.out
        rw [List.take_of_length_le (by have := HN.out; omega)] at this
        exact this
set_option maxHeartbeats 600000 in
theorem KCheckR_any (v : Value) (l : List UInt8) (r : Int) (hr : r = kErr l) (w : World) (h : Byts w v l) : Calls Tryz.prog 96 #[v] w fun e w' => e = .returned (.int .i64 r) ∧ w = w' := by
  have l1 := Rd.len h Tryz.underlying83
  obtain ⟨N, hN⟩ : ∃ N, N = l.length := ⟨_, rfl⟩
  rw [← hN] at l1
  have HN := Lib.hid hN; have H := Lib.hid h; have HR := Lib.hid hr; clear hN h hr
  by_cases hbig : 8 < N
  · go_enter Tryz.func96, Tryz.ntmps96
    go_wp2
    go_ret
    exact ⟨ret_int (by rw [HR.out, kErr_many (by have := HN.out; omega)]), rfl⟩
  · have hs : N ≤ 8 := by omega
    clear hbig
    go_enter Tryz.func96, Tryz.ntmps96
    go_wp2
    go_loop [3] (fun i => ∃ k : Nat, k ≤ N ∧ i = .int .i64 k ∧ Hid (∀ x ∈ l.take k, 1 ≤ x.toNat ∧ x.toNat ≤ 3)) (fun i => N - (intOf i).toNat)
    case atStart => exact ⟨0, Nat.zero_le _, rfl, Lib.hid (by simp)⟩
    case round =>
      obtain ⟨k, hk, rfl, hh⟩ := hrel
      by_cases hlt : k < N
      · obtain ⟨ad, x, ia, ca, hx⟩ := H.out.at_ (P := Tryz.prog) Tryz.underlying83 one_u8 (k := k) (by have := HN.out; omega)
        by_cases hg : 1 ≤ x.toNat ∧ x.toNat ≤ 3
        · obtain ⟨h1, h2⟩ := hg
          have e0 : ((x.toNat : Int) == 0) = false := by rw [beq_eq_false_iff_ne]; omega
          go_wp2
          go_round
          case rel =>
            refine ⟨k + 1, by omega, by go_num, Lib.hid ?_⟩
            intro y hy
            rw [List.take_add_one, hx.out] at hy
            rcases List.mem_append.1 hy with hy | hy
            · exact hh.out y hy
            · simp at hy; subst hy; exact ⟨h1, h2⟩
          case measure => simp [intOf]; omega
        · have hcase : ((x.toNat : Int) == 0) = true ∨ ((x.toNat : Int) == 0) = false ∧ 3 < x.toNat := by
            by_cases h0 : x.toNat = 0
            · exact .inl (by rw [beq_iff_eq]; omega)
            · exact .inr ⟨by rw [beq_eq_false_iff_ne]; omega, by omega⟩
          have hb := kErr_bad (by have := HN.out; omega) hx.out hg
          have HB := Lib.hid hb; clear hb hg
          rcases hcase with h1 | ⟨h1, h2⟩
          all_goals
            go_wp2
            go_ret
            exact ⟨ret_int (by rw [HR.out, HB.out]), rfl⟩
      · obtain rfl : k = N := by omega
        go_wp2
        go_ret
        refine ⟨ret_int ?_, rfl⟩
        rw [HR.out, kErr_of (by have := HN.out; omega)]
        have := hh.out
        rw [List.take_of_length_le (by have := HN.out; omega)] at this
        exact this
theorem kErr_len {l : List UInt8} (h : kErr l = 0) : l.length ≤ 8 := (kErr_ok h).1
set_option maxHeartbeats 600000 in
theorem KSize_any (v : Value) (l : List UInt8) (n r : Int) (hn : n = kSize l) (hr : r = kErr l) (w : World) (h : Byts w v l) : Calls Tryz.prog 67 #[v] w fun e w' => e = .returned (.tuple #[.int .i64 n, .int .i64 r]) ∧ w = w' := by
  have l1 := Rd.len h Tryz.underlying83
  obtain ⟨N, hN⟩ : ∃ N, N = l.length := ⟨_, rfl⟩
  rw [← hN] at l1
  have CT := fun w h => KCheck_any v l r hr w h
  have HC := Lib.hid CT; have H := Lib.hid h; clear CT h
  by_cases h0 : kErr l = 0
  · have hs : N ≤ 8 := by rw [hN]; exact kErr_len h0
    have hk : n = 2 + ((N + 1) / 2 * 2 : Nat) := by rw [hn, kSize, if_pos h0, hN]
    rw [h0] at hr
    have HK := Lib.hid hk
    subst hr
    clear hn h0 hN hk
    go_enter Tryz.func67, Tryz.ntmps67
    go_wp2_with fail
    refine (HC.out _ H.out).mono ?_
    rintro e w' ⟨rfl, rfl⟩
    go_wp2
    go_ret2
    exact ⟨by rw [HK.out]; exact congrArg (fun z => Ending.returned (.tuple #[.int .i64 z, .int .i64 0])) (by omega), rfl⟩
  · have hne : (r != 0) = true := by rw [bne_iff_ne, hr]; exact h0
    have hk : n = 0 := by rw [hn, kSize, if_neg h0]
    subst hk
    clear hn h0 hN hr
    go_enter Tryz.func67, Tryz.ntmps67
    go_wp2_with fail
    refine (HC.out _ H.out).mono ?_
    rintro e w' ⟨rfl, rfl⟩
    go_wp2
    go_ret2
    exact ⟨rfl, rfl⟩
theorem WordsR_any (n m : Int) (hn : 0 ≤ n ∧ n ≤ 1000) (hm : m = n + n % 2 + 2) (w : World) : Calls Tryz.prog 77 #[.int .i64 n] w fun e w' => e = .returned (.int .i64 m) ∧ w = w' := by
  obtain ⟨h1, h2⟩ := hn
  have HM := Lib.hid hm; clear hm
  by_cases hp : n % 2 = 1
  all_goals
    have hq : (n % 2 == 1) = true ∨ (n % 2 == 1) = false := by cases (n % 2 == 1) <;> simp
    have HP := Lib.hid hp; clear hp
    go_enter Tryz.func77, Tryz.ntmps77
    rcases hq with hq | hq
    all_goals
      go_wp2
      go_ret
      refine ⟨ret_int ?_, rfl⟩
      have h3 := HM.out; have h4 := HP.out
      simp only [beq_iff_eq, beq_eq_false_iff_ne, ne_eq] at hq
      omega
end Go.Proofs.YtmbokdnndlnjkaaGreat
