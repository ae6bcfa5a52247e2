/- Contracts of the functions that the laws 'R' reach, part 25. No condition. -/
import Derived.Test.YtmbokdnndlnjkaaGreatMRx
set_option linter.unusedVariables false
set_option linter.unusedSimpArgs false
namespace Go.Proofs.YtmbokdnndlnjkaaGreat
open Go.RowKit L01 L02 L05 L06 L07 L13 L14 L15 L16 L18 L19
def bkA (b : Hb) : Array Value := #[.int .i64 b.at_, .int .i64 b.size, .int .i64 b.kind, .int .i64 b.ty, .bool b.mark, .int .u64 b.next.toNat]
def zeroB : Array Value := #[.int .i64 0, .int .i64 0, .int .i64 0, .int .i64 0, .bool false, .int .u64 0]
/-- the worlds of a block that is stored whole -/
def set6 (w : World) (p : Nat) (b : Hb) : World := (((((w.setCell ⟨p, 0, none⟩ (.int .i64 b.at_)).setCell ⟨p, 1, none⟩ (.int .i64 b.size)).setCell ⟨p, 2, none⟩ (.int .i64 b.kind)).setCell ⟨p, 3, none⟩ (.int .i64 b.ty)).setCell ⟨p, 4, none⟩ (.bool b.mark)).setCell ⟨p, 5, none⟩ (.int .u64 b.next.toNat)
theorem Bx.put6 {w : World} {p : Nat} {t : TypeId} {cs : Array Value} (h : Bx w p t cs) (hs : cs.size = 6) (b : Hb) : Bx (set6 w p b) p t (bkA b) := by
  have := (((((h.set (i := 0) (.int .i64 b.at_)).set (i := 1) (.int .i64 b.size)).set (i := 2) (.int .i64 b.kind)).set (i := 3) (.int .i64 b.ty)).set (i := 4) (.bool b.mark)).set (i := 5) (.int .u64 b.next.toNat)
  have e : ((((((cs.setIfInBounds 0 (.int .i64 b.at_)).setIfInBounds 1 (.int .i64 b.size)).setIfInBounds 2 (.int .i64 b.kind)).setIfInBounds 3 (.int .i64 b.ty)).setIfInBounds 4 (.bool b.mark)).setIfInBounds 5 (.int .u64 b.next.toNat)) = bkA b := by
    obtain ⟨c0, c1, c2, c3, c4, c5, e⟩ : ∃ c0 c1 c2 c3 c4 c5, cs = #[c0, c1, c2, c3, c4, c5] := by
      rcases cs with ⟨l⟩
      rcases l with _ | ⟨c0, _ | ⟨c1, _ | ⟨c2, _ | ⟨c3, _ | ⟨c4, _ | ⟨c5, _ | ⟨c6, l⟩⟩⟩⟩⟩⟩⟩ <;> simp at hs
      exact ⟨_, _, _, _, _, _, rfl⟩
    subst e
    simp [bkA]
  rw [e] at this
  exact this
theorem Bx.far6 {w : World} {g p : Nat} {t : TypeId} {cs : Array Value} (h : Bx w g t cs) (hne : g ≠ p) (b : Hb) : Bx (set6 w p b) g t cs :=
  (((((h.far (p := ⟨p, 0, none⟩) hne _).far (p := ⟨p, 1, none⟩) hne _).far (p := ⟨p, 2, none⟩) hne _).far (p := ⟨p, 3, none⟩) hne _).far (p := ⟨p, 4, none⟩) hne _).far (p := ⟨p, 5, none⟩) hne _
theorem below_set6 {B : Nat} {w0 w : World} {p : Nat} (h : Below B w0 w) (hp : B ≤ p) (b : Hb) : Below B w0 (set6 w p b) :=
  (((((h.setCell (p := ⟨p, 0, none⟩) hp _).setCell (p := ⟨p, 1, none⟩) hp _).setCell (p := ⟨p, 2, none⟩) hp _).setCell (p := ⟨p, 3, none⟩) hp _).setCell (p := ⟨p, 4, none⟩) hp _).setCell (p := ⟨p, 5, none⟩) hp _
theorem own_set6 {w : World} {B e sz n p : Nat} {v : Value} {xs : List Value} (h : w.ownsRow B e sz v n xs) (hne : v.ownBlock = none ∨ v.ownBlock ≠ some p) (b : Hb) : (set6 w p b).ownsRow B e sz v n xs := by
  have st : ∀ {W : World} (i : Nat) (u : Value), W.ownsRow B e sz v n xs → (W.setCell ⟨p, i, none⟩ u).ownsRow B e sz v n xs := fun i u h => World.ownsRow.kept h (grown_set _ ⟨p, i, none⟩ u) hne
  exact st 5 _ (st 4 _ (st 3 _ (st 2 _ (st 1 _ (st 0 _ h)))))
/-- what the loop has found -/
def Found21 (o : Option Hb) (be : Int) (b : Hb) : Prop := (o = none ∧ be = 0 ∧ b = .none) ∨ (o = some b ∧ be = (bl b : Int) - 1 ∧ 1 ≤ be)
set_option maxRecDepth 100000 in
set_option maxHeartbeats 4000000 in
theorem FitFind_any (v : Value) (l : List UInt64) (n : Int) (b : Hb) (r : Int) (hb : b = fitB l n) (hr : r = fitE l n) (w : World) (h : Words w v l) :
    Calls Tryz.prog 69 #[v, .int .i64 n] w fun e w' => e = .returned (.tuple #[.agg #[.int .i64 b.at_, .int .i64 b.size, .int .i64 b.kind, .int .i64 b.ty, .bool b.mark, .int .u64 b.next.toNat], .int .i64 r]) ∧ Below w.heap.size w w' := by
  have B : Below w.heap.size w w := Below.refl _ _
  have H := Lib.hid h
  obtain ⟨F, hF⟩ : ∃ F, F = freeL l := ⟨_, rfl⟩
  obtain ⟨c, hc⟩ : ∃ c, c = allErr l := ⟨_, rfl⟩
  have FT := Lib.hid (fun w h => FreeW_any v l F c hF hc w h)
  by_cases h0 : c = 0
  case neg =>
    have hr0 : r = c := by rw [hr, fitE, if_neg (by rw [← hc]; exact h0), hc]
    obtain rfl : b = .none := by rw [hb, fitB, if_neg (by rw [← hr, hr0]; exact h0)]
    subst hr0
    have n1 : (r != 0) = true := by rw [bne_iff_ne]; exact h0
    clear hb hr h hF hc h0
    go_enter Tryz.func69, Tryz.ntmps69
    go_upto_region 1 with (fail)
    refine wp_gen (fun Wv => Bx Wv (w.heap.size) (82) (#[.int .i64 0, .int .i64 0, .int .i64 0, .int .i64 0, .bool false, .int .u64 0]) ∧ Below w.heap.size w Wv) ⟨((Bx.at_ (by simp))), ((Below.refl _ w).alloc (by simp <;> omega) _)⟩ ?_
    rintro wa1 ⟨g1, b⟩
    replace B := B.trans (b.mono B.size); clear b
    have c_g1 := g1.cell; have f_g1 := g1.free; have a_g1 := fun o => (g1.alloc o).cell; have d_g1 := fun o o2 => ((g1.alloc o).alloc o2).cell; have e_g1 := fun o => (g1.alloc o).free
    go_wp2_with fail
    refine (FT.out _ (H.out.below B)).mono ?_
    rintro e wa2 ⟨xl, rfl, ol, b⟩
    try clear c_g1 f_g1 a_g1 d_g1 e_g1
    replace g1 := g1.below b; have c_g1 := g1.cell; have f_g1 := g1.free; have a_g1 := fun o => (g1.alloc o).cell; have d_g1 := fun o o2 => ((g1.alloc o).alloc o2).cell; have e_g1 := fun o => (g1.alloc o).free; replace B := B.trans (b.mono B.size); clear b
    go_wp2
    refine bodyPost_ret (v := .tuple #[.agg #[.int .i64 0, .int .i64 0, .int .i64 0, .int .i64 0, .bool false, .int .u64 0], .int .i64 r]) (by simp [results, Tryz.results69, go_sem, c_g1, f_g1, a_g1, e_g1]) rfl ?_
    refine ⟨rfl, ?_⟩
    (repeat (first | refine Below.setCell ?_ (by first | exact Nat.le_refl _ | (simp <;> omega)) _ | refine Below.alloc ?_ (by first | exact B.size | (have := B.size; simp <;> omega)) _)); exact B
  case pos =>
    subst h0
    by_cases hn : RightN n
    case neg =>
      have hr0 : r = 2 := by rw [hr, fitE, if_pos hc.symm, if_neg hn]
      obtain rfl : b = .none := by rw [hb, fitB, if_neg (by rw [← hr, hr0]; decide)]
      subst hr0
      have RT := Lib.hid (fun w => right21_any n false (decide_eq_false hn).symm w)
      clear hb hr h hF hc hn
      go_enter Tryz.func69, Tryz.ntmps69
      go_upto_region 1 with (fail)
      refine wp_gen (fun Wv => Bx Wv (w.heap.size) (82) (#[.int .i64 0, .int .i64 0, .int .i64 0, .int .i64 0, .bool false, .int .u64 0]) ∧ Below w.heap.size w Wv) ⟨((Bx.at_ (by simp))), ((Below.refl _ w).alloc (by simp <;> omega) _)⟩ ?_
      rintro wa1 ⟨g1, b⟩
      replace B := B.trans (b.mono B.size); clear b
      have c_g1 := g1.cell; have f_g1 := g1.free; have a_g1 := fun o => (g1.alloc o).cell; have d_g1 := fun o o2 => ((g1.alloc o).alloc o2).cell; have e_g1 := fun o => (g1.alloc o).free
      go_wp2_with fail
      refine (FT.out _ (H.out.below B)).mono ?_
      rintro e wa2 ⟨xl, rfl, ol, b⟩
      try clear c_g1 f_g1 a_g1 d_g1 e_g1
      replace g1 := g1.below b; have c_g1 := g1.cell; have f_g1 := g1.free; have a_g1 := fun o => (g1.alloc o).cell; have d_g1 := fun o o2 => ((g1.alloc o).alloc o2).cell; have e_g1 := fun o => (g1.alloc o).free; replace B := B.trans (b.mono B.size); clear b
      go_wp2_with fail
      refine (RT.out _).mono ?_
      rintro e w3 ⟨rfl, rfl⟩
      go_wp2
      refine bodyPost_ret (v := .tuple #[.agg #[.int .i64 0, .int .i64 0, .int .i64 0, .int .i64 0, .bool false, .int .u64 0], .int .i64 2]) (by simp [results, Tryz.results69, go_sem, c_g1, f_g1, a_g1, e_g1]) rfl ?_
      refine ⟨rfl, ?_⟩
      (repeat (first | refine Below.setCell ?_ (by first | exact Nat.le_refl _ | (simp <;> omega)) _ | refine Below.alloc ?_ (by first | exact B.size | (have := B.size; simp <;> omega)) _)); exact B
    case pos =>
      have hs : ∀ c ∈ F, 2 ≤ c.size ∧ c.size ≤ 1920 := fun c hc' => by
        rw [hF] at hc'
        obtain ⟨a, h1, h2, h3, h4, _⟩ := all_mem hc.symm (free_mem.1 hc').1
        have := (stand_ok h3).bounds
        rw [← h4] at this
        omega
      have hl9 : F.length ≤ 960 := by rw [hF]; exact Nat.le_trans (List.length_filter_le _ _) (all_len hc.symm)
      have hfin : (∀ x, takes F n = some x → b = x ∧ r = 0) ∧ (takes F n = none → b = .none ∧ r = 20) := by
        constructor
        · intro x hx
          have hr0 : fitE l n = 0 := by rw [fitE, if_pos hc.symm, if_pos hn, ← hF, hx]; rfl
          exact ⟨by rw [hb, fitB, if_pos hr0, ← hF, hx]; rfl, by rw [hr, hr0]⟩
        · intro hx
          have hr0 : fitE l n = 20 := by rw [fitE, if_pos hc.symm, if_pos hn, ← hF, hx]; rfl
          exact ⟨by rw [hb, fitB, if_neg (by rw [hr0]; decide)], by rw [hr, hr0]⟩
      have RT := Lib.hid (fun w => right21_any n true (decide_eq_true hn).symm w)
      obtain ⟨N, hN⟩ : ∃ N, N = F.length := ⟨_, rfl⟩
      have hN9 : N ≤ 960 := by omega
      have HN := Lib.hid hN; have HS := Lib.hid hs; have HF := Lib.hid hfin
      clear hb hr h hF hc hs hl9 hfin hN hn
      go_enter Tryz.func69, Tryz.ntmps69
      go_upto_region 1 with (fail)
      refine wp_gen (fun Wv => Bx Wv (w.heap.size) (82) (#[.int .i64 0, .int .i64 0, .int .i64 0, .int .i64 0, .bool false, .int .u64 0]) ∧ Below w.heap.size w Wv) ⟨((Bx.at_ (by simp))), ((Below.refl _ w).alloc (by simp <;> omega) _)⟩ ?_
      rintro wa1 ⟨g1, b⟩
      replace B := B.trans (b.mono B.size); clear b
      have c_g1 := g1.cell; have f_g1 := g1.free; have a_g1 := fun o => (g1.alloc o).cell; have d_g1 := fun o o2 => ((g1.alloc o).alloc o2).cell; have e_g1 := fun o => (g1.alloc o).free
      go_wp2_with fail
      refine (FT.out _ (H.out.below B)).mono ?_
      rintro e wa2 ⟨xl, rfl, ol, b⟩
      try clear c_g1 f_g1 a_g1 d_g1 e_g1
      replace g1 := g1.below b; have c_g1 := g1.cell; have f_g1 := g1.free; have a_g1 := fun o => (g1.alloc o).cell; have d_g1 := fun o o2 => ((g1.alloc o).alloc o2).cell; have e_g1 := fun o => (g1.alloc o).free; replace B := B.trans (b.mono B.size); clear b
      go_wp2_with fail
      refine (RT.out _).mono ?_
      rintro e w3 ⟨rfl, rfl⟩
      have hlt1 := g1.lt
      have hz1 := B.size
      have hxl := own_fresh ol
      go_upto_region 7 with (fail)
      refine wp_gen (fun Wv => Bx Wv (wa2.heap.size) (82) (#[.int .i64 0, .int .i64 0, .int .i64 0, .int .i64 0, .bool false, .int .u64 0]) ∧ Below wa2.heap.size wa2 Wv) ⟨((Bx.at_ (by simp))), ((Below.refl _ wa2).alloc (by simp <;> omega) _)⟩ ?_
      rintro wa3 ⟨g2, b⟩
      try clear c_g1 f_g1 a_g1 d_g1 e_g1
      replace g1 := g1.below b; have c_g1 := g1.cell; have f_g1 := g1.free; have a_g1 := fun o => (g1.alloc o).cell; have d_g1 := fun o o2 => ((g1.alloc o).alloc o2).cell; have e_g1 := fun o => (g1.alloc o).free; replace ol := ol.below b; replace B := B.trans (b.mono B.size); clear b
      have c_g2 := g2.cell; have f_g2 := g2.free; have a_g2 := fun o => (g2.alloc o).cell; have d_g2 := fun o o2 => ((g2.alloc o).alloc o2).cell; have e_g2 := fun o => (g2.alloc o).free
      have lx := ol.rd.len
      rw [← HN.out] at lx
      obtain ⟨p2, hp2⟩ : ∃ p, p = wa2.heap.size := ⟨_, rfl⟩
      rw [← hp2] at g2 hlt1 hz1 hxl
      rw [← hp2]
      have HO := Lib.hid ol
      have HB := Lib.hid (And.intro g1 (And.intro g2 B))
      have HBB := Lib.hid (Below.refl wa3.heap.size wa3)
      have hB1 := B.size
      have hlt2 := g2.lt
      clear ol g1 g2 B c_g1 f_g1 a_g1 d_g1 e_g1 c_g2 f_g2 a_g2 d_g2 e_g2 hp2
      go_wp2
      clear lx
      go_loopg [9, 29] N (fun gg bv i wr => ∃ (j : Nat) (be : Int), j ≤ N ∧ gg = N - j ∧ bv = .int .i64 be ∧ i = .int .i64 j ∧ Hid (∃ (o : Option Hb) (x : Hb), Found21 o be x ∧ takesF n (F.drop j) o = takes F n ∧ (∀ y, o = some y → y ∈ F) ∧ OwnK wr wa1.heap.size xl F ∧ Bx wr w.heap.size 82 zeroB ∧ Bx wr p2 82 (bkA x) ∧ Below w.heap.size w wr))
      case atStart => exact ⟨0, 0, by omega, by omega, rfl, rfl, Lib.hid ⟨none, .none, .inl ⟨rfl, rfl, rfl⟩, by rw [List.drop_zero]; rfl, fun y hy => (by cases hy), HO.out, HB.out.1, HB.out.2.1, HB.out.2.2⟩⟩
      case round =>
        clear HBB HB HO
        obtain ⟨j, be, hj, rfl, rfl, rfl, hh⟩ := hrel
        obtain ⟨o, x, hfo, htk, hom, hrd, g1, g2, B⟩ := hh.out
        clear hh
        by_cases hlt : j < N
        · have hblk : Blks wr xl F := hrd.rd
          obtain ⟨bb, oo, y, ia, m0, m1, m2, m3, m4, m5, hy, _⟩ := hblk.at_ (k := j) (by rw [← HN.out]; exact hlt)
          have hyF := List.mem_of_getElem? hy.out
          have hys := HS.out y hyF
          have hstep := takesF_step (n := n) (o := o) hy.out
          rw [htk] at hstep
          have CT := Lib.hid (fun w => Class_any y.size hys w)
          have hbl := bitLen_two (n := y.size.toNat) (by omega) (by omega)
          obtain ⟨kb, hkb⟩ : ∃ k : Int, k = (Lib.bitLen y.size.toNat : Int) - 1 := ⟨_, rfl⟩
          rw [← hkb] at CT
          have hkbl : kb = (bl y : Int) - 1 := hkb
          have hkb1 : 1 ≤ kb := by omega
          have hdone : betterB n y o = decide (n ≤ y.size ∧ (be = 0 ∨ kb < be)) := by
            unfold betterB
            rcases hfo with ⟨rfl, rfl, _⟩ | ⟨rfl, e2, e3⟩
            · simp
            · show (decide (n ≤ y.size) && decide (bl y < bl x)) = _
              rw [show decide (bl y < bl x) = decide (be = 0 ∨ kb < be) by
                rw [Bool.eq_iff_iff, decide_eq_true_iff, decide_eq_true_iff]; omega]
              rw [Bool.eq_iff_iff, Bool.and_eq_true, decide_eq_true_iff, decide_eq_true_iff, decide_eq_true_iff]
          have HG := Lib.hid (And.intro hfo (And.intro hstep (And.intro hom (And.intro hdone (And.intro hyF hkbl)))))
          clear hy hys hbl hkb hkbl hfo htk hom hstep hdone hyF hblk
          have hlw := g2.lt
          unfold zeroB at g1
          unfold bkA at g2
          go_upto_region 11 with (fail)
          refine wp_gen (fun Wv => Bx Wv (wr.heap.size) (82) (#[.int .i64 y.at_, .int .i64 y.size, .int .i64 y.kind, .int .i64 y.ty, .bool y.mark, .int .u64 y.next.toNat]) ∧ Below wr.heap.size wr Wv) ⟨((Bx.at_ (by simp))), ((Below.refl _ wr).alloc (by simp <;> omega) _)⟩ ?_
          rintro wa4 ⟨g3, b⟩
          try clear c_g1 f_g1 a_g1 d_g1 e_g1
          replace g1 := g1.below b; have c_g1 := g1.cell; have f_g1 := g1.free; have a_g1 := fun o => (g1.alloc o).cell; have d_g1 := fun o o2 => ((g1.alloc o).alloc o2).cell; have e_g1 := fun o => (g1.alloc o).free; try clear c_g2 f_g2 a_g2 d_g2 e_g2
          replace g2 := g2.below b; have c_g2 := g2.cell; have f_g2 := g2.free; have a_g2 := fun o => (g2.alloc o).cell; have d_g2 := fun o o2 => ((g2.alloc o).alloc o2).cell; have e_g2 := fun o => (g2.alloc o).free; replace hrd := hrd.below b; replace B := B.trans (b.mono B.size); clear b
          have c_g3 := g3.cell; have f_g3 := g3.free; have a_g3 := fun o => (g3.alloc o).cell; have d_g3 := fun o o2 => ((g3.alloc o).alloc o2).cell; have e_g3 := fun o => (g3.alloc o).free
          go_wp2_with fail
          refine (CT.out _).mono ?_
          rintro e w4 ⟨rfl, rfl⟩
          by_cases hd : n ≤ y.size ∧ (be = 0 ∨ kb < be)
          case neg =>
            obtain ⟨hfo, hstep, hom, hdone, hyF, hkbl⟩ := HG.out
            rw [if_neg (by rw [hdone, decide_eq_true_iff]; exact hd)] at hstep
            have HR := Lib.hid (show ∃ (o : Option Hb) (x : Hb), Found21 o be x ∧ takesF n (F.drop (j + 1)) o = takes F n ∧ (∀ y, o = some y → y ∈ F) ∧ OwnK wa4 wa1.heap.size xl F ∧ Bx wa4 w.heap.size 82 zeroB ∧ Bx wa4 p2 82 (bkA x) ∧ Below w.heap.size w wa4 from ⟨o, x, hfo, hstep.symm, hom, hrd, g1, g2, B⟩)
            clear hfo hstep hom hdone hyF hkbl HG g1 g2 hrd B c_g1 f_g1 a_g1 d_g1 e_g1 c_g2 f_g2 a_g2 d_g2 e_g2
            by_cases h1 : n ≤ y.size
            · have n2 : (be == 0) = false := by rw [beq_eq_false_iff_ne]; exact fun e => hd ⟨h1, .inl e⟩
              have n3 : decide (kb < be) = false := decide_eq_false (fun e => hd ⟨h1, .inr e⟩)
              clear hd
              go_wp2
              go_roundg (N - (j + 1))
              case measure => omega
              case rel => exact ⟨j + 1, be, by omega, rfl, rfl, by go_num, HR⟩
            · clear hd
              go_wp2
              go_roundg (N - (j + 1))
              case measure => omega
              case rel => exact ⟨j + 1, be, by omega, rfl, rfl, by go_num, HR⟩
          case pos =>
            obtain ⟨hfo, hstep, hom, hdone, hyF, hkbl⟩ := HG.out
            rw [if_pos (by rw [hdone, decide_eq_true_iff]; exact hd)] at hstep
            have HR := Lib.hid (show ∃ (o : Option Hb) (x : Hb), Found21 o kb x ∧ takesF n (F.drop (j + 1)) o = takes F n ∧ (∀ y, o = some y → y ∈ F) ∧ OwnK (set6 wa4 p2 y) wa1.heap.size xl F ∧ Bx (set6 wa4 p2 y) w.heap.size 82 zeroB ∧ Bx (set6 wa4 p2 y) p2 82 (bkA x) ∧ Below w.heap.size w (set6 wa4 p2 y) from ⟨some y, y, .inr ⟨rfl, hkbl, hkb1⟩, hstep.symm, (fun z hz => by injection hz with hz; rw [← hz]; exact hyF), own_set6 hrd hxl y, g1.far6 (by omega) y, g2.put6 rfl y, below_set6 B (by omega) y⟩)
            have hne3 : p2 ≠ wr.heap.size := by omega
            clear hfo hstep hom hdone hyF hkbl HG g1 hrd B c_g1 f_g1 a_g1 d_g1 e_g1
            by_cases h1 : be = 0
            · have n2 : (be == 0) = true := by rw [beq_iff_eq]; exact h1
              have n3 := hd.1
              clear hd h1
              go_wp2
              go_roundg (N - (j + 1))
              case measure => omega
              case rel => exact ⟨j + 1, kb, by omega, rfl, rfl, by go_num, HR⟩
            · have n2 : (be == 0) = false := by rw [beq_eq_false_iff_ne]; exact h1
              have n3 := hd.1
              have n4 : decide (kb < be) = true := decide_eq_true (hd.2.resolve_left h1)
              clear hd h1
              go_wp2
              go_roundg (N - (j + 1))
              case measure => omega
              case rel => exact ⟨j + 1, kb, by omega, rfl, rfl, by go_num, HR⟩
        · obtain rfl : j = N := by omega
          have hdr : F.drop j = [] := List.drop_of_length_le (by rw [← HN.out]; exact Nat.le_refl _)
          rw [hdr] at htk
          have htk2 : o = takes F n := htk
          rcases hfo with ⟨rfl, rfl, rfl⟩ | ⟨rfl, e2, e3⟩
          · obtain ⟨rfl, rfl⟩ := HF.out.2 htk2.symm
            unfold zeroB at g1
            have c_g1 := g1.cell; have f_g1 := g1.free
            clear hdr htk htk2 hom hrd HF
            go_wp2
            refine bodyPost_ret (v := .tuple #[.agg #[.int .i64 0, .int .i64 0, .int .i64 0, .int .i64 0, .bool false, .int .u64 0], .int .i64 20]) (by simp [results, Tryz.results69, go_sem, c_g1, f_g1]) rfl ?_
            refine ⟨rfl, ?_⟩
            (repeat (first | refine Below.setCell ?_ (by first | exact Nat.le_refl _ | (simp <;> omega)) _ | refine Below.alloc ?_ (by first | exact B.size | (have := B.size; simp <;> omega)) _)); exact B
          · obtain ⟨hbx, rfl⟩ := HF.out.1 _ htk2.symm
            have HBX := Lib.hid hbx
            have n1 : (be == 0) = false := by rw [beq_eq_false_iff_ne]; omega
            unfold zeroB at g1
            unfold bkA at g2
            have c_g1 := g1.cell; have f_g1 := g1.free; have c_g2 := g2.cell
            clear hdr htk htk2 hom hrd HF e2 e3 hbx
            have hne12 : w.heap.size ≠ p2 := by omega
            go_wp2
            refine bodyPost_ret (v := .tuple #[.agg #[.int .i64 x.at_, .int .i64 x.size, .int .i64 x.kind, .int .i64 x.ty, .bool x.mark, .int .u64 x.next.toNat], .int .i64 0]) (by simp [results, Tryz.results69, go_sem, c_g1, f_g1]) rfl ?_
            refine ⟨by rw [HBX.out], ?_⟩
            (repeat (first | refine Below.setCell ?_ (by first | exact Nat.le_refl _ | (simp <;> omega)) _ | refine Below.alloc ?_ (by first | exact B.size | (have := B.size; simp <;> omega)) _)); exact B
end Go.Proofs.YtmbokdnndlnjkaaGreat
namespace Go.Proofs.YtmbokdnndlnjkaaGreat
open Go.RowKit L01 L02 L05 L06 L07 L13 L14 L15 L16 L18 L19
theorem runE_zero (p : Nat) (x : UInt64) (k : Nat) : runE (p : Int) (x :: List.replicate (k + 1) 0) = runE (p : Int) (x :: List.replicate k 0) ++ [((p : Int) + ((k + 1 : Nat) : Int), 0)] := by
  rw [List.replicate_succ', ← List.cons_append, runE_app, List.length_cons, List.length_replicate]; rfl
theorem one_ents : (Tryz.prog.info? 49).map (·.size) = some 1 := by kernel_rfl
theorem eC_one (E : List (Int × UInt64)) : ∀ u ∈ eC E, u.oneCell' = true := by
  intro u hu
  obtain ⟨e, _, h⟩ := List.mem_flatMap.1 hu
  simp at h
  rcases h with rfl | rfl <;> rfl
set_option maxRecDepth 100000 in
set_option maxHeartbeats 2000000 in
theorem Left_any (p n c : Nat) (b : Hb) (hb : b.at_ = p) (hs : b.size = c) (hk : b.kind = 2) (hok : BkOk b) (hn : RightN n) (hle : n ≤ c) (hp : p ≤ 100000) (w : World) :
    Calls Tryz.prog 71 #[.agg #[.int .i64 b.at_, .int .i64 b.size, .int .i64 b.kind, .int .i64 b.ty, .bool b.mark, .int .u64 b.next.toNat], .int .i64 n] w fun e w' => (c = n → e = .returned (.tuple #[.agg zeroB, .bool false, .int .i64 0])) ∧ (c ≠ n → e = .returned (.tuple #[.agg (bkA (restH p n c)), .bool true, .int .i64 0])) ∧ Below w.heap.size w w' := by
  have B : Below w.heap.size w w := Below.refl _ _
  have CT := Lib.hid (fun w => HCheck_any b 0 (hErr_ok hok).symm w)
  have RT := Lib.hid (fun w => right21_any n true (decide_eq_true hn).symm w)
  have hbd := hok.bounds
  obtain ⟨bat, bsz, bk1, bty, bmk, bnx⟩ := b
  dsimp only at hb hs hk hbd CT
  subst hb; subst hs; subst hk
  clear hok hn
  by_cases he : c = n
  · subst he
    have g1 : decide ((c : Int) < (c : Int)) = false := decide_eq_false (by omega)
    go_enter Tryz.func71, Tryz.ntmps71
    go_upto_region 1 with (fail)
    refine wp_gen (fun Wv => Bx Wv (w.heap.size) (82) (#[.int .i64 p, .int .i64 c, .int .i64 2, .int .i64 bty, .bool bmk, .int .u64 bnx.toNat]) ∧ Bx Wv (w.heap.size + 1) (82) (#[.int .i64 0, .int .i64 0, .int .i64 0, .int .i64 0, .bool false, .int .u64 0]) ∧ Below w.heap.size w Wv) ⟨(((Bx.at_ (by simp)).alloc _)), ((Bx.at_ (by simp))), (((Below.refl _ w).alloc (by simp <;> omega) _).alloc (by simp <;> omega) _)⟩ ?_
    rintro wa1 ⟨g1, g2, b⟩
    replace B := B.trans (b.mono B.size); clear b
    have c_g1 := g1.cell; have f_g1 := g1.free; have a_g1 := fun o => (g1.alloc o).cell; have d_g1 := fun o o2 => ((g1.alloc o).alloc o2).cell; have e_g1 := fun o => (g1.alloc o).free
    have c_g2 := g2.cell; have f_g2 := g2.free; have a_g2 := fun o => (g2.alloc o).cell; have d_g2 := fun o o2 => ((g2.alloc o).alloc o2).cell; have e_g2 := fun o => (g2.alloc o).free
    go_wp2_with fail
    refine (CT.out _).mono ?_
    rintro e wa2 ⟨rfl, b⟩
    try clear c_g1 f_g1 a_g1 d_g1 e_g1
    replace g1 := g1.below b; have c_g1 := g1.cell; have f_g1 := g1.free; have a_g1 := fun o => (g1.alloc o).cell; have d_g1 := fun o o2 => ((g1.alloc o).alloc o2).cell; have e_g1 := fun o => (g1.alloc o).free; try clear c_g2 f_g2 a_g2 d_g2 e_g2
    replace g2 := g2.below b; have c_g2 := g2.cell; have f_g2 := g2.free; have a_g2 := fun o => (g2.alloc o).cell; have d_g2 := fun o o2 => ((g2.alloc o).alloc o2).cell; have e_g2 := fun o => (g2.alloc o).free; replace B := B.trans (b.mono B.size); clear b
    go_wp2_with fail
    refine (RT.out _).mono ?_
    rintro e w3 ⟨rfl, rfl⟩
    go_wp2
    refine bodyPost_ret (v := .tuple #[.agg #[.int .i64 0, .int .i64 0, .int .i64 0, .int .i64 0, .bool false, .int .u64 0], .bool false, .int .i64 0]) (by simp [results, Tryz.results71, go_sem, c_g1, f_g1, a_g1, e_g1, c_g2, f_g2, a_g2, e_g2]) rfl ?_
    refine ⟨fun _ => rfl, fun h => absurd rfl h, ?_⟩
    (repeat (first | refine Below.setCell ?_ (by first | exact Nat.le_refl _ | (simp <;> omega)) _ | refine Below.alloc ?_ (by first | exact B.size | (have := B.size; simp <;> omega)) _)); exact B
  · have g1 : decide ((c : Int) < (n : Int)) = false := decide_eq_false (by omega)
    have g2 : ((n : Int) == (c : Int)) = false := by rw [beq_eq_false_iff_ne]; omega
    have w1 : IntKind.i64.wrap ((p : Int) + (n : Int)) = (p : Int) + (n : Int) := IntWalk.i64_in _ (by omega)
    have w2 : IntKind.i64.wrap ((c : Int) - (n : Int)) = (c : Int) - (n : Int) := IntWalk.i64_in _ (by omega)
    go_enter Tryz.func71, Tryz.ntmps71
    go_upto_region 1 with (fail)
    refine wp_gen (fun Wv => Bx Wv (w.heap.size) (82) (#[.int .i64 p, .int .i64 c, .int .i64 2, .int .i64 bty, .bool bmk, .int .u64 bnx.toNat]) ∧ Bx Wv (w.heap.size + 1) (82) (#[.int .i64 0, .int .i64 0, .int .i64 0, .int .i64 0, .bool false, .int .u64 0]) ∧ Below w.heap.size w Wv) ⟨(((Bx.at_ (by simp)).alloc _)), ((Bx.at_ (by simp))), (((Below.refl _ w).alloc (by simp <;> omega) _).alloc (by simp <;> omega) _)⟩ ?_
    rintro wa1 ⟨g1, g2, b⟩
    replace B := B.trans (b.mono B.size); clear b
    have c_g1 := g1.cell; have f_g1 := g1.free; have a_g1 := fun o => (g1.alloc o).cell; have d_g1 := fun o o2 => ((g1.alloc o).alloc o2).cell; have e_g1 := fun o => (g1.alloc o).free
    have c_g2 := g2.cell; have f_g2 := g2.free; have a_g2 := fun o => (g2.alloc o).cell; have d_g2 := fun o o2 => ((g2.alloc o).alloc o2).cell; have e_g2 := fun o => (g2.alloc o).free
    go_wp2_with fail
    refine (CT.out _).mono ?_
    rintro e wa2 ⟨rfl, b⟩
    try clear c_g1 f_g1 a_g1 d_g1 e_g1
    replace g1 := g1.below b; have c_g1 := g1.cell; have f_g1 := g1.free; have a_g1 := fun o => (g1.alloc o).cell; have d_g1 := fun o o2 => ((g1.alloc o).alloc o2).cell; have e_g1 := fun o => (g1.alloc o).free; try clear c_g2 f_g2 a_g2 d_g2 e_g2
    replace g2 := g2.below b; have c_g2 := g2.cell; have f_g2 := g2.free; have a_g2 := fun o => (g2.alloc o).cell; have d_g2 := fun o o2 => ((g2.alloc o).alloc o2).cell; have e_g2 := fun o => (g2.alloc o).free; replace B := B.trans (b.mono B.size); clear b
    go_wp2_with fail
    refine (RT.out _).mono ?_
    rintro e w3 ⟨rfl, rfl⟩
    go_wp2
    have HE := Lib.hid (show bkA (restH p n c) = #[.int .i64 ((p : Int) + (n : Int)), .int .i64 ((c : Int) - (n : Int)), .int .i64 2, .int .i64 0, .bool false, .int .u64 0] from by
      unfold bkA restH
      dsimp only
      rw [show ((p + n : Nat) : Int) = (p : Int) + (n : Int) by omega, show ((c - n : Nat) : Int) = (c : Int) - (n : Int) by omega]
      rfl)
    refine bodyPost_ret (v := .tuple #[.agg #[.int .i64 ((p : Int) + (n : Int)), .int .i64 ((c : Int) - (n : Int)), .int .i64 2, .int .i64 0, .bool false, .int .u64 0], .bool true, .int .i64 0]) (by simp [results, Tryz.results71, go_sem, c_g1, f_g1, a_g1, e_g1, c_g2, f_g2, a_g2, e_g2]) rfl ?_
    refine ⟨fun h => absurd h he, fun _ => by rw [HE.out], ?_⟩
    (repeat (first | refine Below.setCell ?_ (by first | exact Nat.le_refl _ | (simp <;> omega)) _ | refine Below.alloc ?_ (by first | exact B.size | (have := B.size; simp <;> omega)) _)); exact B
set_option maxRecDepth 100000 in
set_option maxHeartbeats 2000000 in
theorem block22_any (p : Nat) (m : Nat) (b : Hb) (x : UInt64) (hb : b.at_ = p) (hx : x = L14.word b) (hok : BkOk b) (hp : p ≤ 100000) (hm : m ≤ 20) (w : World) :
    Calls Tryz.prog 70 #[.agg #[.int .i64 b.at_, .int .i64 b.size, .int .i64 b.kind, .int .i64 b.ty, .bool b.mark, .int .u64 b.next.toNat], .int .i64 m] w fun e w' => ∃ y, e = .returned (.tuple #[y, .int .i64 0]) ∧ OwnE w' w.heap.size y (runE p (x :: List.replicate m 0)) ∧ Below w.heap.size w w' := by
  have B : Below w.heap.size w w := Below.refl _ _
  have WT := Lib.hid (fun w => HWord_any b x 0 hx (hErr_ok hok).symm w)
  obtain ⟨bat, bsz, bk1, bty, bmk, bnx⟩ := b
  dsimp only at hb WT
  subst hb
  clear hok hx
  go_enter Tryz.func70, Tryz.ntmps70
  go_upto_region 1 with (fail)
  refine wp_gen (fun Wv => Bx Wv (w.heap.size) (82) (#[.int .i64 p, .int .i64 bsz, .int .i64 bk1, .int .i64 bty, .bool bmk, .int .u64 bnx.toNat]) ∧ Below w.heap.size w Wv) ⟨((Bx.at_ (by simp))), ((Below.refl _ w).alloc (by simp <;> omega) _)⟩ ?_
  rintro wa1 ⟨g1, b⟩
  replace B := B.trans (b.mono B.size); clear b
  have c_g1 := g1.cell; have f_g1 := g1.free; have a_g1 := fun o => (g1.alloc o).cell; have d_g1 := fun o o2 => ((g1.alloc o).alloc o2).cell; have e_g1 := fun o => (g1.alloc o).free
  go_wp2_with fail
  refine (WT.out _).mono ?_
  rintro e wa2 ⟨rfl, b⟩
  try clear c_g1 f_g1 a_g1 d_g1 e_g1
  replace g1 := g1.below b; have c_g1 := g1.cell; have f_g1 := g1.free; have a_g1 := fun o => (g1.alloc o).cell; have d_g1 := fun o o2 => ((g1.alloc o).alloc o2).cell; have e_g1 := fun o => (g1.alloc o).free; replace B := B.trans (b.mono B.size); clear b
  have hb1 := B.size
  go_upto_region 3 with (fail)
  have hfr : OwnE (wa2.alloc (.cells #[.int .i64 p, .int .u64 x.toNat] 120)) w.heap.size (.slice (some ⟨wa2.heap.size, 0, none⟩) 1 1) (runE p (x :: List.replicate 0 0)) := ent_own hb1
  refine wp_gen (fun V => OwnE V w.heap.size (.slice (some ⟨wa2.heap.size, 0, none⟩) 1 1) (runE p (x :: List.replicate 0 0)) ∧ Bx V w.heap.size 82 #[.int .i64 p, .int .i64 bsz, .int .i64 bk1, .int .i64 bty, .bool bmk, .int .u64 bnx.toNat] ∧ Below w.heap.size w V) ⟨hfr, g1.alloc _, B.alloc hb1 _⟩ ?_
  clear hfr g1 B c_g1 f_g1 a_g1 d_g1 e_g1 hb1
  intro V0 hV0
  have HV := Lib.hid hV0
  clear hV0
  go_wp2
  go_loopg [8, 9] (m + 1) (fun gg ov i wr => ∃ k : Nat, k ≤ m ∧ gg = m + 1 - k ∧ i = .int .i64 ((k + 1 : Nat) : Int) ∧ Hid (OwnE wr w.heap.size ov (runE p (x :: List.replicate k 0)) ∧ Bx wr w.heap.size 82 #[.int .i64 p, .int .i64 bsz, .int .i64 bk1, .int .i64 bty, .bool bmk, .int .u64 bnx.toNat] ∧ Below w.heap.size w wr))
  case atStart => exact ⟨0, by omega, by omega, rfl, HV⟩
  case round =>
    clear HV
    obtain ⟨k, hk, rfl, rfl, hh⟩ := hrel
    obtain ⟨oy, g1, B⟩ := hh.out
    by_cases hlt : k + 1 ≤ m
    · have w1 : IntKind.i64.wrap ((p : Int) + ((k + 1 : Nat) : Int)) = (p : Int) + ((k + 1 : Nat) : Int) := IntWalk.i64_in _ (by omega)
      have w2 : IntKind.i64.wrap (((k + 1 : Nat) : Int) + 1) = ((k + 1 + 1 : Nat) : Int) := by rw [show ((k + 1 + 1 : Nat) : Int) = ((k + 1 : Nat) : Int) + 1 by omega]; exact IntWalk.i64_in _ (by omega)
      have g0 : decide (((k + 1 : Nat) : Int) ≤ (m : Int)) = true := decide_eq_true (by omega)
      have hne := own_not_bx oy g1 (by decide)
      have hlen : (runE (p : Int) (x :: List.replicate k 0)).length ≤ 100 := by rw [runE_len, List.length_cons, List.length_replicate]; omega
      have c_1 := g1.cell
      generalize hkk : ((k + 1 : Nat) : Int) = kk at *
      go_wp2_with (at_builtin; refine wpList_append (by rfl) rfl rfl rfl Tryz.underlying49 info_ent rfl (by omega) (by exact own_below oy ((Below.refl _ _).alloc (Nat.le_refl _) _)) (by exact lit_ent ((p : Int) + kk) 0 (by simp)) (by simp [Value.oneCell']) (by omega) (by omega) (by exact B.alloc B.size _) (Nat.le_refl _) ?_; intro v1 w3 o3 B3 g3; have q1 := (g1.alloc _).grown g3 hne)
      have HH := Lib.hid (show OwnE w3 w.heap.size v1 (runE p (x :: List.replicate (k + 1) 0)) ∧ Bx w3 w.heap.size 82 #[.int .i64 p, .int .i64 bsz, .int .i64 bk1, .int .i64 bty, .bool bmk, .int .u64 bnx.toNat] ∧ Below w.heap.size w w3 from ⟨OwnE.of o3 (by rw [runE_zero, ← hkk]; exact eC_snoc _ _ _), q1, B3⟩)
      clear o3 B3 q1 g3
      go_roundg (m + 1 - (k + 1))
      case measure => omega
      case rel => exact ⟨k + 1, by omega, rfl, by rw [← hkk, show ((k + 1 + 1 : Nat) : Int) = ((k + 1 : Nat) : Int) + 1 by omega], HH⟩
    · obtain rfl : k = m := by omega
      have g0 : decide (((k + 1 : Nat) : Int) ≤ (k : Int)) = false := decide_eq_false (by omega)
      have HR := Lib.hid (And.intro oy B)
      clear oy g1 B
      go_wp2
      go_ret2
      exact ⟨_, rfl, HR.out⟩
/-- two lists joined -/
theorem ents_form {w : World} {v : Value} {E : List (Int × UInt64)} (h : Ents w v E) : ∃ A c, v = .slice A E.length c := by obtain ⟨A, c, e, _⟩ := h; exact ⟨A, c, e⟩
set_option maxRecDepth 100000 in
set_option maxHeartbeats 2000000 in
theorem join22_any (lv v1 v2 : Value) (E1 E2 : List (Int × UInt64)) (h1 : E1.length ≤ 50) (h2 : E2.length ≤ 50) (w : World) (hl : Rd w 1 lv 2 [v1, v2]) (hv1 : Ents w v1 E1) (hv2 : Ents w v2 E2) :
    Calls Tryz.prog 72 #[lv] w fun e w' => ∃ y, e = .returned y ∧ OwnE w' w.heap.size y (E1 ++ E2) ∧ Below w.heap.size w w' := by
  have B : Below w.heap.size w w := Below.refl _ _
  have HL := Lib.hid hl; have HV1 := Lib.hid hv1; have HV2 := Lib.hid hv2
  have ll := Rd.len hl Tryz.underlying208
  have ll2 : ∀ ty W, (Builtin.len_ #[208] ty #[lv]).run Tryz.prog W = .ok (.int .i64 2) W := ll
  have i0 : ∀ W, (Instr.indexAt 208 lv (.int .i64 0)).run Tryz.prog W = .ok (.pointer (some (cellAt lv 0))) W := fun W => by have := Rd.ixN (P := Tryz.prog) hl Tryz.underlying208 one_ents (k := 0) (by omega) W; rw [Nat.zero_mul] at this; exact this
  have i1 : ∀ W, (Instr.indexAt 208 lv (.int .i64 1)).run Tryz.prog W = .ok (.pointer (some (cellAt lv 1))) W := fun W => by have := Rd.ixN (P := Tryz.prog) hl Tryz.underlying208 one_ents (k := 1) (by omega) W; rw [Nat.one_mul] at this; exact this
  have HH := Lib.hid (show OwnE w w.heap.size (.slice none 0 0) [] ∧ Below w.heap.size w w from ⟨OwnE.nil _ _, B⟩)
  clear hl hv1 hv2 ll B
  go_enter Tryz.func72, Tryz.ntmps72
  go_wp2
  clear ll2
  go_loopg [3, 8] 2 (fun gg ov i wr => ∃ k : Nat, k ≤ 2 ∧ gg = 2 - k ∧ i = .int .i64 k ∧ Hid (OwnE wr w.heap.size ov (if k = 0 then [] else if k = 1 then E1 else E1 ++ E2) ∧ Below w.heap.size w wr))
  case atStart => exact ⟨0, by omega, by omega, rfl, HH⟩
  case round =>
    clear HH
    obtain ⟨k, hk, rfl, rfl, hh⟩ := hrel
    have hk3 : k = 0 ∨ k = 1 ∨ k = 2 := by omega
    clear hk
    rcases hk3 with rfl | rfl | rfl
    · obtain ⟨oy, B⟩ := hh.out
      rw [if_pos rfl] at oy
      clear hh
      have c0 := (HL.out.below B).cell (j := 0) (u := v1) rfl
      have q1 := Rd.below HV1.out B
      go_wp2_with (at_builtin; refine wpList_append (by rfl) rfl rfl rfl Tryz.underlying49 info_ent rfl (by omega) (by exact oy) (by exact q1) (eC_one _) (by simp; omega) (by simp; omega) (by exact B) (Nat.le_refl _) ?_; intro v3 w3 o3 B3 g3; clear g3)
      have HH := Lib.hid (show OwnE w3 w.heap.size v3 E1 ∧ Below w.heap.size w w3 from ⟨OwnE.of o3 (by simp [eC]), B3⟩)
      clear o3 B3 oy B q1 c0
      go_roundg (2 - 1)
      case measure => omega
      case rel => exact ⟨1, by omega, rfl, by go_num, HH⟩
    · obtain ⟨oy, B⟩ := hh.out
      rw [if_neg (by omega), if_pos rfl] at oy
      clear hh
      have c0 := (HL.out.below B).cell (j := 1) (u := v2) rfl
      have q1 := Rd.below HV2.out B
      go_wp2_with (at_builtin; refine wpList_append (by rfl) rfl rfl rfl Tryz.underlying49 info_ent rfl (by omega) (by exact oy) (by exact q1) (eC_one _) (by omega) (by omega) (by exact B) (Nat.le_refl _) ?_; intro v3 w3 o3 B3 g3; clear g3)
      have HH := Lib.hid (show OwnE w3 w.heap.size v3 (E1 ++ E2) ∧ Below w.heap.size w w3 from ⟨OwnE.of o3 (by simp [eC]), B3⟩)
      clear o3 B3 oy B q1 c0
      go_roundg (2 - 2)
      case measure => omega
      case rel => exact ⟨2, by omega, rfl, by go_num, HH⟩
    · obtain ⟨oy, B⟩ := hh.out
      rw [if_neg (by omega), if_neg (by omega)] at oy
      have HR := Lib.hid (And.intro oy B)
      clear hh oy B i0 i1
      go_wp2
      go_ret
      exact ⟨_, rfl, HR.out⟩
end Go.Proofs.YtmbokdnndlnjkaaGreat
