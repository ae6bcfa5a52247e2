/- Contracts of the functions that the laws 'N' reach, part 17. No condition. -/
import Derived.Test.YteejianjjpdimaaMNp
set_option linter.unusedVariables false
set_option linter.unusedSimpArgs false
namespace Go.Proofs.Yteejianjjpdimaa
open Go.RowKit L02 L13 L18 L20
theorem Bx.row {w : World} {g base n sz : Nat} {t : TypeId} {cs : Array Value} (h : Bx w g t cs) (hb : base ≤ g) (hs : cs.size = n * sz) (hn : n ≤ 1000) : w.ownsRow base t sz (.slice (some ⟨g, 0, none⟩) n n) n cs.toList :=
  ⟨by simpa using hs, .inr ⟨g, n, cs, rfl, hb, h, Nat.le_refl _, by simp [maxLen]; omega, hs, List.take_of_length_le (by rw [Array.length_toList, hs]; exact Nat.le_refl _)⟩⟩
theorem info_slotF : (Try.prog.info? 48).map (fun i => (i.zero, i.size, i.bytes)) = some (some (.agg #[.int .i64 0, .bool false, .int .i64 0]), 3, 24) := by kernel_rfl
theorem make_slots (w : World) : ∃ w', (Instr.makeSlice 24 (.int .i64 16) (.int .i64 16)).run Try.prog w = .ok (.slice (some ⟨w.heap.size, 0, none⟩) 16 16) w' ∧ OwnS w' w.heap.size 48 (.slice (some ⟨w.heap.size, 0, none⟩) 16 16) (List.replicate 16 Sl.none) ∧ Below w.heap.size w w' := by
  obtain ⟨i, hi1, hi2, hi3, hi4⟩ := info3 info_slotF
  obtain ⟨w', hrun, g1, g2⟩ := run_make_full (P := Try.prog) w w.heap.size 24 48 i _ 3 Try.underlying24 hi1 hi2 hi3 .i64 .i64 16 (by rw [hi4]; decide) (by unfold maxLen; decide) (Nat.le_refl _)
  rw [show (madeCells (Value.agg #[.int .i64 0, .bool false, .int .i64 0]).cells (16 * 3)).toList = tabL (List.replicate 16 Sl.none) by simp [madeCells, tabL, slC, Sl.none, List.replicate, Value.cells]; rfl] at g1
  exact ⟨w', hrun, g1, (Below.refl _ _).grown g2 (Nat.le_refl _) (fun _ hk => by cases hk)⟩
theorem wpList_makeSlots {ops : Array Oper} {Q : Exit → Act → World → Prop} {rest : List Oper} {o : Oper} {a : Act} {w : World} (hgd : Region.wanted o (yielded ops a.tmps) = true) {l c : Operand} (ho : o.op = .makeSlice 24 l c) (hl : a.eval l = .int .i64 16) (hc : a.eval c = .int .i64 16)
    (h : ∀ w', OwnS w' w.heap.size 48 (.slice (some ⟨w.heap.size, 0, none⟩) 16 16) (List.replicate 16 Sl.none) → Below w.heap.size w w' → wpList Try.prog ops Q rest (a.put o.dst (.slice (some ⟨w.heap.size, 0, none⟩) 16 16)) w') : wpList Try.prog ops Q (o :: rest) a w := by
  obtain ⟨w', hrun, g1, g2⟩ := make_slots w
  refine wpList_wanted hgd fun K hK => ?_
  unfold Oper.wp
  simp [execOp, ho, hl, hc, hrun]
  exact hK _ _ (h w' g1 g2)
theorem slot20_any (n : Int) (w : World) : Calls Try.prog 17 #[.int .i64 n] w fun e w' => e = .returned (.agg #[.int .i64 n, .int .i64 1]) ∧ Below w.heap.size w w' := by
  have B : Below w.heap.size w w := Below.refl _ _
  go_enter Try.func17, Try.ntmps17
  go_wp2
  exact bodyPost_ret (v := .agg #[.int .i64 n, .int .i64 1]) (by simp [results, Try.results17, go_sem]) rfl ⟨rfl, B.alloc B.size _⟩
/-- the worlds of the two stores -/
def wsE (w : World) (g : Nat) : Nat → World
  | 0 => w.drew
  | 1 => ((w.drew.setCell ⟨g, 0, none⟩ (.int .i64 1)).setCell ⟨g, 1, none⟩ (.bool true)).setCell ⟨g, 2, none⟩ (.int .i64 0)
  | _ + 2 => (((((w.drew.setCell ⟨g, 0, none⟩ (.int .i64 1)).setCell ⟨g, 1, none⟩ (.bool true)).setCell ⟨g, 2, none⟩ (.int .i64 0)).setCell ⟨g, 3, none⟩ (.int .i64 1)).setCell ⟨g, 4, none⟩ (.bool true)).setCell ⟨g, 5, none⟩ (.int .i64 1)
set_option maxRecDepth 100000 in
theorem example20_any (w : World) : Calls Try.prog 12 #[] w fun e w' => ∃ t o s, e = .returned (.agg #[t, o, s]) ∧ OwnM w' w.heap.size 48 t o s exM ∧ Below w.heap.size w w' := by
  have B : Below w.heap.size w w := Below.refl _ _
  go_enter Try.func12, Try.ntmps12
  go_upto_region 1 with (fail)
  refine wp_gen (fun Wv => Bx Wv (w.heap.size) (26) (#[.slice none 0 0, .slice none 0 0, .slice none 0 0]) ∧ Below w.heap.size w Wv) ⟨((Bx.at_ (by simp))), ((Below.refl _ w).alloc (by simp <;> omega) _)⟩ ?_
  rintro wa1 ⟨g1, b⟩
  replace B := B.trans (b.mono B.size); clear b
  have c_g1 := g1.cell; have f_g1 := g1.free; have a_g1 := fun o => (g1.alloc o).cell; have d_g1 := fun o o2 => ((g1.alloc o).alloc o2).cell; have e_g1 := fun o => (g1.alloc o).free
  go_upto_region 2 with (at_make; refine wpList_makeSlots (by rfl) rfl rfl rfl ?_; intro w1 o1 b1)
  have hz := g1.lt
  have hs0 := B.size
  have q0 := ((((((Bx.at_ (w := wa1) (t := 5) (cs := #[.int .u8 3]) rfl).alloc _).alloc _).alloc _).alloc _).below b1).alloc (.cells #[.slice (some ⟨wa1.heap.size + 1, 0, none⟩) 1 1, .slice (some ⟨wa1.heap.size + 1 + 1 + 1 + 1, 0, none⟩) 2 2, .slice (some ⟨wa1.heap.size + 1 + 1 + 1 + 1 + 1, 0, none⟩) 16 16] 26)
  have q1 := (((((Bx.at_ (n := wa1.heap.size + 1) (t := 41) (cs := #[.slice (some ⟨wa1.heap.size, 0, none⟩) 1 1]) (by simp)).alloc _).alloc _).alloc _).below b1).alloc (.cells #[.slice (some ⟨wa1.heap.size + 1, 0, none⟩) 1 1, .slice (some ⟨wa1.heap.size + 1 + 1 + 1 + 1, 0, none⟩) 2 2, .slice (some ⟨wa1.heap.size + 1 + 1 + 1 + 1 + 1, 0, none⟩) 16 16] 26)
  have q2 := ((((Bx.at_ (n := wa1.heap.size + 1 + 1) (t := 46) (cs := #[.int .u64 2]) (by simp)).alloc _).alloc _).below b1).alloc (.cells #[.slice (some ⟨wa1.heap.size + 1, 0, none⟩) 1 1, .slice (some ⟨wa1.heap.size + 1 + 1 + 1 + 1, 0, none⟩) 2 2, .slice (some ⟨wa1.heap.size + 1 + 1 + 1 + 1 + 1, 0, none⟩) 16 16] 26)
  have q3 := (((Bx.at_ (n := wa1.heap.size + 1 + 1 + 1) (t := 46) (cs := #[.int .u64 0]) (by simp)).alloc _).below b1).alloc (.cells #[.slice (some ⟨wa1.heap.size + 1, 0, none⟩) 1 1, .slice (some ⟨wa1.heap.size + 1 + 1 + 1 + 1, 0, none⟩) 2 2, .slice (some ⟨wa1.heap.size + 1 + 1 + 1 + 1 + 1, 0, none⟩) 16 16] 26)
  have q4 := ((Bx.at_ (n := wa1.heap.size + 1 + 1 + 1 + 1) (t := 45) (cs := #[.int .i64 0, .slice (some ⟨wa1.heap.size + 1 + 1, 0, none⟩) 1 1, .int .i64 0, .slice (some ⟨wa1.heap.size + 1 + 1 + 1, 0, none⟩) 1 1]) (by simp)).below b1).alloc (.cells #[.slice (some ⟨wa1.heap.size + 1, 0, none⟩) 1 1, .slice (some ⟨wa1.heap.size + 1 + 1 + 1 + 1, 0, none⟩) 2 2, .slice (some ⟨wa1.heap.size + 1 + 1 + 1 + 1 + 1, 0, none⟩) 16 16] 26)
  have q5 := Bx.new w1 26 #[.slice (some ⟨wa1.heap.size + 1, 0, none⟩) 1 1, .slice (some ⟨wa1.heap.size + 1 + 1 + 1 + 1, 0, none⟩) 2 2, .slice (some ⟨wa1.heap.size + 1 + 1 + 1 + 1 + 1, 0, none⟩) 16 16]
  have b2 : Below wa1.heap.size wa1 w1 := (((((((Below.refl _ wa1).alloc (by simp <;> omega) _).alloc (by simp <;> omega) _).alloc (by simp <;> omega) _).alloc (by simp <;> omega) _).alloc (by simp <;> omega) _).trans (b1.mono (by simp; omega)))
  have oS := OwnS.below (own_mono o1 (B' := w.heap.size) (by simp; omega)) ((Below.refl _ _).alloc (Nat.le_refl _) (.cells #[.slice (some ⟨wa1.heap.size + 1, 0, none⟩) 1 1, .slice (some ⟨wa1.heap.size + 1 + 1 + 1 + 1, 0, none⟩) 2 2, .slice (some ⟨wa1.heap.size + 1 + 1 + 1 + 1 + 1, 0, none⟩) 16 16] 26))
  simp only [World.size_alloc] at oS
  have hp : wa1.heap.size + 1 + 1 + 1 + 1 + 1 < w1.heap.size := by have h5 := (o1.lt _ rfl).2; simp only [World.size_alloc] at h5; exact h5
  have g1' := (g1.below b2).alloc (.cells #[.slice (some ⟨wa1.heap.size + 1, 0, none⟩) 1 1, .slice (some ⟨wa1.heap.size + 1 + 1 + 1 + 1, 0, none⟩) 2 2, .slice (some ⟨wa1.heap.size + 1 + 1 + 1 + 1 + 1, 0, none⟩) 16 16] 26)
  have B' := (B.trans (b2.mono hs0)).alloc (Nat.le_trans hs0 b2.size) (.cells #[.slice (some ⟨wa1.heap.size + 1, 0, none⟩) 1 1, .slice (some ⟨wa1.heap.size + 1 + 1 + 1 + 1, 0, none⟩) 2 2, .slice (some ⟨wa1.heap.size + 1 + 1 + 1 + 1 + 1, 0, none⟩) 16 16] 26)
  clear g1 B c_g1 f_g1 a_g1 d_g1 e_g1 b1 o1
  generalize w1.alloc (.cells #[.slice (some ⟨wa1.heap.size + 1, 0, none⟩) 1 1, .slice (some ⟨wa1.heap.size + 1 + 1 + 1 + 1, 0, none⟩) 2 2, .slice (some ⟨wa1.heap.size + 1 + 1 + 1 + 1 + 1, 0, none⟩) 16 16] 26) = W at *
  have oB : OwnB W w.heap.size 5 (.slice (some ⟨wa1.heap.size, 0, none⟩) 1 1) [3] := Bx.row q0 hs0 rfl (by omega)
  have oF1 : OwnW W w.heap.size 46 (.slice (some ⟨wa1.heap.size + 1 + 1, 0, none⟩) 1 1) [2] := Bx.row q2 (by omega) rfl (by omega)
  have oF2 : OwnW W w.heap.size 46 (.slice (some ⟨wa1.heap.size + 1 + 1 + 1, 0, none⟩) 1 1) [0] := Bx.row q3 (by omega) rfl (by omega)
  have oT : OwnT W w.heap.size (.slice (some ⟨wa1.heap.size + 1, 0, none⟩) 1 1) [[3]] := ⟨[.slice (some ⟨wa1.heap.size, 0, none⟩) 1 1], rfl, Bx.row q1 (by omega) rfl (by omega), fun i x l h1 h2 => by
    rcases i with _ | i
    · simp at h1 h2; subst h1; subst h2; exact oB
    · simp at h1⟩
  have oO : OwnO W w.heap.size (.slice (some ⟨wa1.heap.size + 1 + 1 + 1 + 1, 0, none⟩) 2 2) [⟨0, [2]⟩, ⟨0, [0]⟩] := ⟨[.slice (some ⟨wa1.heap.size + 1 + 1, 0, none⟩) 1 1, .slice (some ⟨wa1.heap.size + 1 + 1 + 1, 0, none⟩) 1 1], rfl, Bx.row q4 (by omega) rfl (by omega), fun i x l h1 h2 => by
    rcases i with _ | _ | i
    · simp at h1 h2; subst h1; subst h2; exact oF1
    · simp at h1 h2; subst h1; subst h2; exact oF2
    · simp at h1, fun i j x y hij h1 h2 => by
    rcases i with _ | _ | i <;> rcases j with _ | _ | j <;> simp at h1 h2 hij <;> subst h1 <;> subst h2 <;> simp [Value.ownBlock]⟩
  have om : OwnM W.drew w.heap.size 48 (.slice (some ⟨wa1.heap.size + 1, 0, none⟩) 1 1) (.slice (some ⟨wa1.heap.size + 1 + 1 + 1 + 1, 0, none⟩) 2 2) (.slice (some ⟨wa1.heap.size + 1 + 1 + 1 + 1 + 1, 0, none⟩) 16 16) ⟨[[3]], [⟨0, [2]⟩, ⟨0, [0]⟩], List.replicate 16 Sl.none⟩ := ⟨oT, oO, oS⟩
  have hg : w.heap.size < wa1.heap.size := hz
  have hg5 : w.heap.size < wa1.heap.size + 1 + 1 + 1 + 1 + 1 := by omega
  clear oT oO oS oB oF1 oF2 q0 q1 q2 q3 q4 hs0 b2
  obtain ⟨ix0, k0, k1, k2⟩ := OwnS.cells (k := 0) om.s rfl
  obtain ⟨ix1, _, _, _⟩ := OwnS.cells (k := 1) om.s rfl
  have P0 := OwnS.put3 (k := 0) om.s (by decide) ⟨1, true, 0⟩
  obtain ⟨_, j0, j1, j2⟩ := OwnS.cells (k := 1) P0.1 rfl
  have P1 := OwnS.put3 (k := 1) P0.1 (by decide) ⟨1, true, 1⟩
  have fz : ∀ j, W.frozen? ⟨wa1.heap.size + 1 + 1 + 1 + 1 + 1, j, none⟩ = false := P0.2.2.2.2
  have fz1 := P1.2.2.2.2
  have HF := Lib.hid (OwnM.slots (OwnM.slots om P0.2.1 P0.1) P1.2.1 P1.1)
  generalize wa1.heap.size + 1 + 1 + 1 + 1 + 1 = p5 at *
  have hne : w1.heap.size ≠ p5 := by omega
  have hne0 : w.heap.size ≠ p5 := by omega
  have hix0 : ∀ V, (Instr.indexAt 24 (.slice (some ⟨p5, 0, none⟩) 16 16) (.int .i64 0)).run Try.prog V = .ok (.pointer (some ⟨p5, 0, none⟩)) V := ix0
  have hix1 : ∀ V, (Instr.indexAt 24 (.slice (some ⟨p5, 0, none⟩) 16 16) (.int .i64 1)).run Try.prog V = .ok (.pointer (some ⟨p5, 3, none⟩)) V := ix1
  have c0 : W.cell? ⟨p5, 0, none⟩ = some (.int .i64 0) := k0
  have c1 : W.cell? ⟨p5, 1, none⟩ = some (.bool false) := k1
  have c2 : W.cell? ⟨p5, 2, none⟩ = some (.int .i64 0) := k2
  have d0 : (wsE W p5 1).cell? ⟨p5, 3, none⟩ = some (.int .i64 0) := j0
  have d1 : (wsE W p5 1).cell? ⟨p5, 4, none⟩ = some (.bool false) := j1
  have d2 : (wsE W p5 1).cell? ⟨p5, 5, none⟩ = some (.int .i64 0) := j2
  have e1 : ∀ j, (wsE W p5 1).frozen? ⟨p5, j, none⟩ = false := fz1
  have HF2 : OwnM (wsE W p5 2) w.heap.size 48 (.slice (some ⟨wa1.heap.size + 1, 0, none⟩) 1 1) (.slice (some ⟨wa1.heap.size + 1 + 1 + 1 + 1, 0, none⟩) 2 2) (.slice (some ⟨p5, 0, none⟩) 16 16) exM := HF.out
  have HF3 := Lib.hid HF2
  clear ix0 ix1 k0 k1 k2 j0 j1 j2 P0 P1 HF HF2 fz1 om
  have far : ∀ {g cs}, g ≠ p5 → Bx W g 26 cs → ∀ d, d ≤ 2 → Bx (wsE W p5 d) g 26 cs := by
    intro g cs hn hb d hd
    rcases d with _ | _ | d
    · exact hb
    · exact ((Bx.far (w := W.drew) hb (p := ⟨p5, 0, none⟩) hn _).far (p := ⟨p5, 1, none⟩) hn _).far (p := ⟨p5, 2, none⟩) hn _
    · exact (((((Bx.far (w := W.drew) hb (p := ⟨p5, 0, none⟩) hn _).far (p := ⟨p5, 1, none⟩) hn _).far (p := ⟨p5, 2, none⟩) hn _).far (p := ⟨p5, 3, none⟩) hn _).far (p := ⟨p5, 4, none⟩) hn _).far (p := ⟨p5, 5, none⟩) hn _
  have A5 := far hne q5
  have A1 := far hne0 g1'
  have BB : Below w.heap.size w (wsE W p5 2) := by
    have hp' : w.heap.size ≤ p5 := by omega
    exact ((((((B'.drew).setCell (p := ⟨p5, 0, none⟩) hp' _).setCell (p := ⟨p5, 1, none⟩) hp' _).setCell (p := ⟨p5, 2, none⟩) hp' _).setCell (p := ⟨p5, 3, none⟩) hp' _).setCell (p := ⟨p5, 4, none⟩) hp' _).setCell (p := ⟨p5, 5, none⟩) hp' _
  have AA := Lib.hid (fun x : FXN (FL [7, 9] (wsE W p5) 7 2) => FL.all (ks := [7, 9]) (Ws := wsE W p5) (p := fun V => Bx V w1.heap.size 26 #[.slice (some ⟨wa1.heap.size + 1, 0, none⟩) 1 1, .slice (some ⟨wa1.heap.size + 1 + 1 + 1 + 1, 0, none⟩) 2 2, .slice (some ⟨p5, 0, none⟩) 16 16]) A5 x)
  have HX := Lib.hid (And.intro (A5 2 (by omega)) (And.intro (A1 2 (by omega)) BB))
  have ca := fun x : FXN (FL [7, 9] (wsE W p5) 7 2) => (AA.out x).cell
  haveI : Nonempty (FXN (FL [7, 9] (wsE W p5) 7 2)) := ⟨⟨_, _, FL.start⟩⟩
  clear far A5 A1 BB q5 g1' B'
  refine wp_region_N (FL [7, 9] (wsE W p5) 7 2) [7, 7, 9] FL.dep (by kernel_rfl) (by kernel_rfl) (by kernel_rfl) FL.start ?_
  iterate 7 (refine wpN_read FL.dep rfl (by decide) ?_; go_big_quiet_step (fail); refine wpQuiet_nil ?_)
  refine wpN_storeD FL.dep rfl 48 (.tmp 17) (.tmp 15) rfl (by rfl) (p := .pointer (some ⟨p5, 0, none⟩)) (u := .agg #[.int .i64 1, .bool true, .int .i64 0]) (by rfl) (by rfl) [] (by kernel_rfl) (fun f W' hF h0 h1 => ?_) ?_
  · obtain ⟨rfl, h2⟩ := FL.step (i := 0) rfl (by decide) hF h0 (by intro p hp; omega) (by omega)
    refine ⟨_, ?_, h2⟩
    simp [go_sem, wsE, c0, c1, c2, fz]
  simp only [Act.put, List.setIfInBounds_toArray, List.set_cons_zero, List.set_cons_succ]
  iterate 1 (refine wpN_read FL.dep rfl (by decide) ?_; go_big_quiet_step (fail); refine wpQuiet_nil ?_)
  refine wpN_storeD FL.dep rfl 48 (.tmp 18) (.tmp 16) rfl (by rfl) (p := .pointer (some ⟨p5, 3, none⟩)) (u := .agg #[.int .i64 1, .bool true, .int .i64 1]) (by rfl) (by rfl) [7] (by kernel_rfl) (fun f W' hF h0 h1 => ?_) ?_
  · obtain ⟨rfl, h2⟩ := FL.step (i := 1) rfl (by decide) hF h0 (FL.prev rfl (h1 7 (by simp))) (by omega)
    refine ⟨_, ?_, h2⟩
    have := e1 3; have := e1 4; have := e1 5
    simp [go_sem, d0, d1, d2, e1]
    rfl
  simp only [Act.put, List.setIfInBounds_toArray, List.set_cons_zero, List.set_cons_succ]
  show ∀ w', _ → _
  intro w' hw'
  obtain rfl := FL.done hw'
  clear ca AA hw' c0 c1 c2 d0 d1 d2 e1 fz hix0 hix1
  have hW : wsE W p5 ([7, 9] : List Nat).length = wsE W p5 2 := rfl
  rw [hW]
  generalize wsE W p5 2 = V at HF3 HX ⊢
  obtain ⟨g2, g1, B⟩ := HX.out
  have c_2 := g2.cell; have c_1 := g1.cell; have f_1 := g1.free
  go_wp2
  refine bodyPost_ret (v := .agg #[.slice (some ⟨wa1.heap.size + 1, 0, none⟩) 1 1, .slice (some ⟨wa1.heap.size + 1 + 1 + 1 + 1, 0, none⟩) 2 2, .slice (some ⟨p5, 0, none⟩) 16 16]) (by simp [results, Try.results12, go_sem, c_1, f_1]) rfl ⟨_, _, _, rfl, OwnM.set3 HF3.out g1, ?_⟩
  exact ((B.setCell (p := ⟨w.heap.size, 0, none⟩) (Nat.le_refl _) _).setCell (p := ⟨w.heap.size, 1, none⟩) (Nat.le_refl _) _).setCell (p := ⟨w.heap.size, 2, none⟩) (Nat.le_refl _) _
end Go.Proofs.Yteejianjjpdimaa
namespace Go.Proofs.Yteejianjjpdimaa
open Go.RowKit L02 L13 L18 L20
set_option maxRecDepth 100000 in
set_option maxHeartbeats 8000000 in
theorem Drop20_own (tv ov sv : Value) (m : Mo) (sl g : Int) (M : Mo) (r : Int) (hM : M = dropM m sl g) (hr : r = asked m sl g) (ha : asked m sl g = 0) (w : World) (h : Mod w tv ov sv m) :
    Calls Try.prog 21 #[.agg #[tv, ov, sv], .agg #[.int .i64 sl, .int .i64 g]] w fun e w' => ∃ t' o' s', e = .returned (.tuple #[.agg #[t', o', s'], .int .i64 0]) ∧ OwnM w' w.heap.size 48 t' o' s' M ∧ Below w.heap.size w w' := by
  have B : Below w.heap.size w w := Below.refl _ _
  have H := Lib.hid h
  obtain ⟨c0, hr0, k, s, n', o, t, hk, hk16, hs, hu, hg, hso, hat, hown, _⟩ := asked_ok ha
  have OT := Lib.hid (fun w h => open20_ok tv ov sv m sl g n' ha hown w h)
  obtain ⟨_, _, h16, _⟩ := chk_ok c0
  have hr1 : r = 0 := by rw [hr, ha]
  have hM1 : M = ⟨m.types, m.objs, m.slots.set k ⟨g, false, 0⟩⟩ := by rw [hM, dropM, if_pos ha, hk, Int.toNat_natCast]
  subst hk
  subst hr1; subst hM1
  have HS := Lib.hid hs; have H16 := Lib.hid h16
  clear hr hM ha c0 hr0 hu hso hat hown h hs h16
  go_enter Try.func21, Try.ntmps21
  go_upto_region 1 with (fail)
  refine wp_gen (fun Wv => Bx Wv (w.heap.size) (26) (#[tv, ov, sv]) ∧ Bx Wv (w.heap.size + 1) (50) (#[.int .i64 k, .int .i64 g]) ∧ Bx Wv (w.heap.size + 1 + 1) (26) (#[.slice none 0 0, .slice none 0 0, .slice none 0 0]) ∧ Below w.heap.size w Wv) ⟨((((Bx.at_ (by simp)).alloc _).alloc _)), (((Bx.at_ (by simp)).alloc _)), ((Bx.at_ (by simp))), ((((Below.refl _ w).alloc (by simp <;> omega) _).alloc (by simp <;> omega) _).alloc (by simp <;> omega) _)⟩ ?_
  rintro wa1 ⟨g1, g2, g3, b⟩
  replace B := B.trans (b.mono B.size); clear b
  have c_g1 := g1.cell; have f_g1 := g1.free; have a_g1 := fun o => (g1.alloc o).cell; have d_g1 := fun o o2 => ((g1.alloc o).alloc o2).cell; have e_g1 := fun o => (g1.alloc o).free
  have c_g2 := g2.cell; have f_g2 := g2.free; have a_g2 := fun o => (g2.alloc o).cell; have d_g2 := fun o o2 => ((g2.alloc o).alloc o2).cell; have e_g2 := fun o => (g2.alloc o).free
  have c_g3 := g3.cell; have f_g3 := g3.free; have a_g3 := fun o => (g3.alloc o).cell; have d_g3 := fun o o2 => ((g3.alloc o).alloc o2).cell; have e_g3 := fun o => (g3.alloc o).free
  have hz1 := B.size; have hp1 := g3.lt
  go_wp2_with fail
  refine (OT.out _ (H.out.below B)).mono ?_
  rintro e wa2 ⟨t', o', s', rfl, om, b⟩
  try clear c_g1 f_g1 a_g1 d_g1 e_g1
  replace g1 := g1.below b; have c_g1 := g1.cell; have f_g1 := g1.free; have a_g1 := fun o => (g1.alloc o).cell; have d_g1 := fun o o2 => ((g1.alloc o).alloc o2).cell; have e_g1 := fun o => (g1.alloc o).free; try clear c_g2 f_g2 a_g2 d_g2 e_g2
  replace g2 := g2.below b; have c_g2 := g2.cell; have f_g2 := g2.free; have a_g2 := fun o => (g2.alloc o).cell; have d_g2 := fun o o2 => ((g2.alloc o).alloc o2).cell; have e_g2 := fun o => (g2.alloc o).free; try clear c_g3 f_g3 a_g3 d_g3 e_g3
  replace g3 := g3.below b; have c_g3 := g3.cell; have f_g3 := g3.free; have a_g3 := fun o => (g3.alloc o).cell; have d_g3 := fun o o2 => ((g3.alloc o).alloc o2).cell; have e_g3 := fun o => (g3.alloc o).free; replace B := B.trans (b.mono B.size); clear b
  obtain ⟨⟨tA, tn, tc, rfl⟩, ⟨oA, on, oc, rfl⟩, _⟩ := om.forms
  obtain ⟨gS, sc, rfl⟩ : ∃ g c, s' = .slice (some ⟨g, 0, none⟩) 16 c := by obtain ⟨g, n, c, e, e2⟩ := om.s.form (by have := H16.out; omega); rw [e2, H16.out] at e; exact ⟨g, c, e⟩
  have hgS := om.s.lt gS rfl
  go_upto_region 2 with (fail)
  refine wp_gen (fun Wv => Bx Wv (wa2.heap.size) (26) (#[.slice tA tn tc, .slice oA on oc, .slice (some ⟨gS, 0, none⟩) 16 sc]) ∧ Below wa2.heap.size wa2 Wv) ⟨((Bx.at_ (by simp))), ((Below.refl _ wa2).alloc (by simp <;> omega) _)⟩ ?_
  rintro wa3 ⟨g4, b⟩
  try clear c_g1 f_g1 a_g1 d_g1 e_g1
  replace g1 := g1.below b; have c_g1 := g1.cell; have f_g1 := g1.free; have a_g1 := fun o => (g1.alloc o).cell; have d_g1 := fun o o2 => ((g1.alloc o).alloc o2).cell; have e_g1 := fun o => (g1.alloc o).free; try clear c_g2 f_g2 a_g2 d_g2 e_g2
  replace g2 := g2.below b; have c_g2 := g2.cell; have f_g2 := g2.free; have a_g2 := fun o => (g2.alloc o).cell; have d_g2 := fun o o2 => ((g2.alloc o).alloc o2).cell; have e_g2 := fun o => (g2.alloc o).free; try clear c_g3 f_g3 a_g3 d_g3 e_g3
  replace g3 := g3.below b; have c_g3 := g3.cell; have f_g3 := g3.free; have a_g3 := fun o => (g3.alloc o).cell; have d_g3 := fun o o2 => ((g3.alloc o).alloc o2).cell; have e_g3 := fun o => (g3.alloc o).free; replace om := om.below b; replace B := B.trans (b.mono B.size); clear b
  have c_g4 := g4.cell; have f_g4 := g4.free; have a_g4 := fun o => (g4.alloc o).cell; have d_g4 := fun o o2 => ((g4.alloc o).alloc o2).cell; have e_g4 := fun o => (g4.alloc o).free
  have HP := Lib.hid (OwnS.put3 (k := k) om.s (by have := H16.out; omega) ⟨g, false, 0⟩)
  obtain ⟨ix, p0, p1, p2⟩ := OwnS.cells om.s HS.out
  have fz := HP.out.2.2.2.2
  have hM3 := OwnM.slots om HP.out.2.1 HP.out.1
  have nx := fun {q : Nat} {tq : TypeId} {cs : Array Value} (hb : Bx wa3 q tq cs) (hne : gS ≠ q) => hb.grown HP.out.2.1 (.inr (fun e => hne (by injection e)))
  have r3 := nx g3 (by omega); have r4 := nx g4 (by omega)
  have hb3 := B.grown HP.out.2.1 B.size (fun k hk => by injection hk with hk; rw [← hk]; have := HP.out.2.2.1; omega)
  have HH := Lib.hid (And.intro hM3 (And.intro r3 (And.intro r4 hb3)))
  clear nx r3 r4 hb3 hM3
  go_upto_region 5 with (fail)
  refine wp_gen (fun Wv => OwnM Wv wa1.heap.size 48 (.slice tA tn tc) (.slice oA on oc) (.slice (some ⟨gS, 0, none⟩) 16 sc) ⟨m.types, m.objs, m.slots.set k ⟨g, false, 0⟩⟩ ∧ Bx Wv (w.heap.size + 1 + 1) 26 #[.slice none 0 0, .slice none 0 0, .slice none 0 0] ∧ Bx Wv wa2.heap.size 26 #[.slice tA tn tc, .slice oA on oc, .slice (some ⟨gS, 0, none⟩) 16 sc] ∧ Below w.heap.size w Wv) HH.out ?_
  rintro wz ⟨om2, r3, r4, B2⟩
  clear HH om g1 g2 g3 g4 B p0 p1 p2 fz ix HP c_g1 f_g1 a_g1 d_g1 e_g1 c_g2 f_g2 a_g2 d_g2 e_g2 c_g3 f_g3 a_g3 d_g3 e_g3 c_g4 f_g4 a_g4 d_g4 e_g4
  have c3 := r3.cell; have f3 := r3.free; have c4 := r4.cell
  go_wp2
  refine bodyPost_ret (v := .tuple #[.agg #[.slice tA tn tc, .slice oA on oc, .slice (some ⟨gS, 0, none⟩) 16 sc], .int .i64 0]) (by simp [results, Try.results21, go_sem, c3, f3]) rfl ?_
  refine ⟨_, _, _, rfl, (OwnM.set3 om2 r3).mono hz1, ?_⟩
  exact ((B2.setCell (p := ⟨w.heap.size + 1 + 1, 0, none⟩) (by simp; omega) _).setCell (p := ⟨w.heap.size + 1 + 1, 1, none⟩) (by simp; omega) _).setCell (p := ⟨w.heap.size + 1 + 1, 2, none⟩) (by simp; omega) _
end Go.Proofs.Yteejianjjpdimaa
namespace Go.Proofs.Yteejianjjpdimaa
open Go.RowKit L02 L13 L18 L20
/-- what is fresh in the region of the second Drop -/
structure GA where
  a1 : Option Addr
  n1 : Nat
  c1 : Nat
  a2 : Option Addr
  n2 : Nat
  c2 : Nat
  a3 : Option Addr
  n3 : Nat
  c3 : Nat
  p : Nat
def GA.m (g : GA) : Value × Value × Value := (.slice g.a1 g.n1 g.c1, .slice g.a2 g.n2 g.c2, .slice g.a3 g.n3 g.c3)
def valA (g : GA) (k : Nat) : Value := if k = 1 then .agg #[.int .i64 0, .int .i64 1] else if k = 2 then .tuple #[.agg #[.slice g.a1 g.n1 g.c1, .slice g.a2 g.n2 g.c2, .slice g.a3 g.n3 g.c3], .int .i64 0] else .pointer (some ⟨g.p, 0, none⟩)
def AgA (φ : Nat → Bool) (g g' : GA) : Prop := (φ 2 = true → g.m = g'.m) ∧ (φ 6 = true → g.p = g'.p)
def FA (w : World) (z : Nat) (g : GA) (φ : Nat → Bool) (W : World) : Prop :=
  (Below w.heap.size w W ∧ z ≤ W.heap.size) ∧ (φ 2 = true → OwnM W z 48 g.m.1 g.m.2.1 g.m.2.2 exN) ∧ (φ 7 = true → φ 6 = true ∧ φ 2 = true) ∧ (φ 6 = true → z ≤ g.p ∧ Bx W g.p 26 (if φ 7 = true then #[g.m.1, g.m.2.1, g.m.2.2] else #[.slice none 0 0, .slice none 0 0, .slice none 0 0]))
theorem FA.dep {w : World} {z : Nat} {g : GA} : Dep (FA w z g) [1, 2, 6, 7] := by
  rintro φ ψ W h ⟨h1, h2, h3, h4⟩
  have e2 := h 2 (by simp); have e6 := h 6 (by simp); have e7 := h 7 (by simp)
  rw [e2] at h2; rw [e7, e6, e2] at h3; rw [e6, e7] at h4
  exact ⟨h1, h2, h3, h4⟩
theorem FA.agree {w : World} {z : Nat} {g g' : GA} {φ : Nat → Bool} {W : World} (hA : AgA φ g g') (h : FA w z g φ W) : FA w z g' φ W := by
  obtain ⟨h1, h2, h3, h4⟩ := h
  refine ⟨h1, fun e => by rw [← hA.1 e]; exact h2 e, h3, fun e => ?_⟩
  rw [← hA.2 e]
  refine ⟨(h4 e).1, ?_⟩
  have := (h4 e).2
  cases h7 : φ 7
  · rw [h7] at this; exact this
  · rw [h7] at this; rw [← hA.1 (h3 h7).2]; exact this
def TA (av : Array Value) (k : Nat) (s : Sem Next) : Prop := if k = 1 then (∀ W, s.run Try.prog W = .ok (.enter 17 #[.int .i64 0]) W) else if k = 2 then (∀ W, s.run Try.prog W = .ok (.enter 21 av) W) else ∀ W, s.run Try.prog W = .ok (.value (.pointer (some ⟨W.heap.size, 0, none⟩))) (W.alloc (.cells #[.slice none 0 0, .slice none 0 0, .slice none 0 0] 26))
set_option maxRecDepth 100000 in
set_option maxHeartbeats 8000000 in
theorem alive20_any (w : World) : Calls Try.prog 5 #[] w fun e w' => e = .returned (.bool true) ∧ Below w.heap.size w w' := by
  have B : Below w.heap.size w w := Below.refl _ _
  have FRE := Lib.hid (fun t o s w h => Free20_any t o s exM 1 1 _ 45 rfl ex_free.symm w h)
  have DA := Lib.hid (fun t o s w h => Drop20_any t o s exM 1 1 exD 0 ex_d1.symm ex_a1.symm w h)
  have DB := Lib.hid (fun t o s w h => Drop20_own t o s exD 0 1 exN 0 ex_d2.symm ex_a2.symm ex_a2 w h)
  have CA := Lib.hid (fun t o s w h => Canon20_any t o s exD exD_chk _ exD_rs w h)
  have CB := Lib.hid (fun t o s w h => Canon20_any t o s exN exN_chk _ exN_rs w h)
  go_enter Try.func5, Try.ntmps5
  go_wp2_with fail
  refine (example20_any _).mono ?_
  rintro e wa1 ⟨t1, o1, s1, rfl, k1, b⟩
  replace B := B.trans (b.mono B.size); clear b
  go_wp2_with fail
  refine (slot20_any 1 _).mono ?_
  rintro e wa2 ⟨rfl, b⟩
  replace k1 := k1.below b; replace B := B.trans (b.mono B.size); clear b
  go_wp2_with fail
  refine (FRE.out _ _ _ _ k1.rd).mono ?_
  rintro e wa3 ⟨t2, o2, s2, rfl, k2, b⟩
  replace k1 := k1.below b; replace B := B.trans (b.mono B.size); clear b
  obtain ⟨⟨t2A, t2n, t2c, rfl⟩, ⟨o2A, o2n, o2c, rfl⟩, ⟨s2A, s2n, s2c, rfl⟩⟩ := k2.forms
  clear k1
  go_upto_region 2 with (fail)
  refine wp_gen (fun Wv => Bx Wv (wa3.heap.size) (26) (#[.slice t2A t2n t2c, .slice o2A o2n o2c, .slice s2A s2n s2c]) ∧ Below wa3.heap.size wa3 Wv) ⟨((Bx.at_ (by simp))), ((Below.refl _ wa3).alloc (by simp <;> omega) _)⟩ ?_
  rintro wa4 ⟨g1, b⟩
  replace B := B.trans (b.mono B.size); clear b
  have c_g1 := g1.cell; have f_g1 := g1.free; have a_g1 := fun o => (g1.alloc o).cell; have d_g1 := fun o o2 => ((g1.alloc o).alloc o2).cell; have e_g1 := fun o => (g1.alloc o).free
  clear g1 c_g1 f_g1 a_g1 d_g1 e_g1
  go_wp2_with fail
  refine (example20_any _).mono ?_
  rintro e wa5 ⟨t3, o3, s3, rfl, k3, b⟩
  replace B := B.trans (b.mono B.size); clear b
  go_wp2_with fail
  refine (slot20_any 1 _).mono ?_
  rintro e wa6 ⟨rfl, b⟩
  replace k3 := k3.below b; replace B := B.trans (b.mono B.size); clear b
  go_wp2_with fail
  refine (DA.out _ _ _ _ k3.rd).mono ?_
  rintro e wa7 ⟨t4, o4, s4, rfl, k4, b⟩
  replace k3 := k3.below b; replace B := B.trans (b.mono B.size); clear b
  obtain ⟨⟨t4A, t4n, t4c, rfl⟩, ⟨o4A, o4n, o4c, rfl⟩, ⟨s4A, s4n, s4c, rfl⟩⟩ := k4.forms
  clear k3
  go_upto_region 3 with (fail)
  refine wp_gen (fun Wv => Bx Wv (wa7.heap.size) (26) (#[.slice t4A t4n t4c, .slice o4A o4n o4c, .slice s4A s4n s4c]) ∧ Below wa7.heap.size wa7 Wv) ⟨((Bx.at_ (by simp))), ((Below.refl _ wa7).alloc (by simp <;> omega) _)⟩ ?_
  rintro wa8 ⟨g2, b⟩
  replace k4 := k4.below b; replace B := B.trans (b.mono B.size); clear b
  have c_g2 := g2.cell; have f_g2 := g2.free; have a_g2 := fun o => (g2.alloc o).cell; have d_g2 := fun o o2 => ((g2.alloc o).alloc o2).cell; have e_g2 := fun o => (g2.alloc o).free
  go_wp2_with fail
  refine (CA.out _ _ _ _ k4).mono ?_
  rintro e wa9 ⟨t5, o5, s5, rfl, k5, b⟩
  replace k4 := k4.below b; try clear c_g2 f_g2 a_g2 d_g2 e_g2
  replace g2 := g2.below b; have c_g2 := g2.cell; have f_g2 := g2.free; have a_g2 := fun o => (g2.alloc o).cell; have d_g2 := fun o o2 => ((g2.alloc o).alloc o2).cell; have e_g2 := fun o => (g2.alloc o).free; replace B := B.trans (b.mono B.size); clear b
  have l5 := k5.o.len
  rw [exD_len] at l5
  obtain ⟨⟨t5A, t5n, t5c, rfl⟩, ⟨o5A, o5n, o5c, rfl⟩, ⟨s5A, s5n, s5c, rfl⟩⟩ := k5.forms
  clear k5
  go_upto_region 4 with (fail)
  refine wp_gen (fun Wv => Bx Wv (wa9.heap.size) (26) (#[.slice t5A t5n t5c, .slice o5A o5n o5c, .slice s5A s5n s5c]) ∧ Below wa9.heap.size wa9 Wv) ⟨((Bx.at_ (by simp))), ((Below.refl _ wa9).alloc (by simp <;> omega) _)⟩ ?_
  rintro wa10 ⟨g3, b⟩
  replace k4 := k4.below b; try clear c_g2 f_g2 a_g2 d_g2 e_g2
  replace g2 := g2.below b; have c_g2 := g2.cell; have f_g2 := g2.free; have a_g2 := fun o => (g2.alloc o).cell; have d_g2 := fun o o2 => ((g2.alloc o).alloc o2).cell; have e_g2 := fun o => (g2.alloc o).free; replace B := B.trans (b.mono B.size); clear b
  have c_g3 := g3.cell; have f_g3 := g3.free; have a_g3 := fun o => (g3.alloc o).cell; have d_g3 := fun o o2 => ((g3.alloc o).alloc o2).cell; have e_g3 := fun o => (g3.alloc o).free
  have hz1 := B.size
  have h2 := g2.lt; have h3 := g3.lt
  refine wp_region_M (G := GA) valA AgA (FA wa10 wa10.heap.size) [1, 2, 6, 7] [1, 2, 6] (fun _ => []) (TA #[.agg #[.slice t4A t4n t4c, .slice o4A o4n o4c, .slice s4A s4n s4c], .agg #[.int .i64 0, .int .i64 1]]) ⟨none, 0, 0, none, 0, 0, none, 0, 0, 0⟩ (fun g => FA.dep) (by kernel_rfl) (by kernel_rfl) (by kernel_rfl) (by kernel_rfl)
    (fun φ ψ g g' he h => ⟨fun e => h.1 (by rw [he 2 (by simp)]; exact e), fun e => h.2 (by rw [he 6 (by simp)]; exact e)⟩) (fun φ g => ⟨fun _ => rfl, fun _ => rfl⟩) (fun φ g g' g'' h1 h2 => ⟨fun e => (h1.1 e).trans (h2.1 e), fun e => (h1.2 e).trans (h2.2 e)⟩) (fun φ k g g' h hk => ⟨fun e => h.1 (by simp [e]), fun e => h.2 (by simp [e])⟩) ?_ (fun φ g g' W h hF => FA.agree h hF) (fun g => ⟨fun e => (by cases e), fun e => (by cases e)⟩) ⟨⟨(Below.refl _ wa10).drew, Nat.le_refl _⟩, fun e => (by cases e), fun e => (by cases e), fun e => (by cases e)⟩ ?_ ?_
  · intro φ k g g' hk h0 hA
    simp only [List.mem_cons, List.not_mem_nil, or_false] at hk
    rcases hk with rfl | rfl | rfl
    · rfl
    · have e := hA.1 (by simp)
      simp only [GA.m, Prod.mk.injEq] at e
      simp [valA, e.1, e.2.1, e.2.2]
    · have e := hA.2 (by simp)
      simp [valA, e]
  · intro k s φ W g hk hT h0 _ hF
    simp only [List.mem_cons, List.not_mem_nil, or_false] at hk
    obtain ⟨⟨f0, fz⟩, f1, f2, f3⟩ := hF
    have h7 : k = 2 ∨ k = 6 → φ 7 = false := fun h => by
      cases e : φ 7
      · rfl
      · obtain ⟨x1, x2⟩ := f2 e
        rcases h with rfl | rfl
        · rw [h0] at x2; cases x2
        · rw [h0] at x1; cases x1
    rcases hk with rfl | rfl | rfl
    · have hT' : ∀ W, s.run Try.prog W = .ok (.enter 17 #[.int .i64 0]) W := hT
      rw [hT' W]
      refine (slot20_any 0 W).mono ?_
      rintro e W' ⟨rfl, bb⟩
      refine ⟨_, rfl, g, ⟨fun _ => rfl, fun _ => rfl⟩, rfl, ⟨f0.trans (bb.mono f0.size), Nat.le_trans fz bb.size⟩, fun e => (f1 (by simpa using e)).below bb, by simpa using f2, fun e => ?_⟩
      obtain ⟨x1, x2⟩ := f3 (by simpa using e)
      exact ⟨x1, by simpa using x2.below bb⟩
    · have hT' : ∀ W, s.run Try.prog W = .ok (.enter 21 #[.agg #[.slice t4A t4n t4c, .slice o4A o4n o4c, .slice s4A s4n s4c], .agg #[.int .i64 0, .int .i64 1]]) W := hT
      rw [hT' W]
      refine (DB.out _ _ _ W (k4.below f0)).mono ?_
      rintro e W' ⟨t', o', s', rfl, om, bb⟩
      obtain ⟨⟨tA, tn, tc, rfl⟩, ⟨oA, on, oc, rfl⟩, ⟨sA, sn, sc, rfl⟩⟩ := om.rd.forms
      refine ⟨_, rfl, ⟨tA, tn, tc, oA, on, oc, sA, sn, sc, g.p⟩, ⟨fun e => (by rw [h0] at e; cases e), fun _ => rfl⟩, rfl, ⟨f0.trans (bb.mono f0.size), Nat.le_trans fz bb.size⟩, fun e => om.mono fz, by simp [h7 (.inl rfl)], fun e => ?_⟩
      obtain ⟨x1, x2⟩ := f3 (by simpa using e)
      have h77 := h7 (.inl rfl)
      rw [h77] at x2
      refine ⟨x1, ?_⟩
      have : (2 == 7 || φ 7) = false := by rw [h77]; rfl
      simp only [h77]
      exact x2.below bb
    · have hT' : ∀ W, s.run Try.prog W = .ok (.value (.pointer (some ⟨W.heap.size, 0, none⟩))) (W.alloc (.cells #[.slice none 0 0, .slice none 0 0, .slice none 0 0] 26)) := hT
      rw [hT' W]
      have bb : Below W.heap.size W (W.alloc (.cells #[.slice none 0 0, .slice none 0 0, .slice none 0 0] 26)) := (Below.refl _ _).alloc (Nat.le_refl _) _
      refine ⟨⟨g.a1, g.n1, g.c1, g.a2, g.n2, g.c2, g.a3, g.n3, g.c3, W.heap.size⟩, ⟨fun _ => rfl, fun e => (by rw [h0] at e; cases e)⟩, rfl, ⟨f0.trans (bb.mono f0.size), Nat.le_trans fz bb.size⟩, fun e => (f1 (by simpa using e)).below bb, fun e => ?_, fun e => ⟨fz, ?_⟩⟩
      · have h77 := h7 (.inr rfl)
        simp [h77] at e
      · have h77 := h7 (.inr rfl)
        simp only [h77]
        exact Bx.new _ _ _
  intro g
  have c_2 := fun x : FXN (FA wa10 wa10.heap.size g) => (by obtain ⟨V, φ, hF⟩ := x; exact (g2.below hF.1.1).cell : ∀ i, x.W.cell? ⟨wa7.heap.size, i, none⟩ = (#[.slice t4A t4n t4c, .slice o4A o4n o4c, .slice s4A s4n s4c] : Array Value)[i]?)
  haveI : Nonempty (FXN (FA wa10 wa10.heap.size g)) := ⟨⟨wa10.drew, fun _ => false, ⟨⟨(Below.refl _ wa10).drew, Nat.le_refl _⟩, fun e => (by cases e), fun e => (by cases e), fun e => (by cases e)⟩⟩⟩
  iterate 1 (refine wpM_read FA.dep rfl (by decide) (by decide) ?_; go_big_quiet_step (fail); refine wpQuiet_nil ?_)
  refine wpM_new (by decide) rfl (by show TA _ 1 _; unfold TA; rw [if_pos rfl]; intro W; simp [execOp, resolve, invoke, Act.eval, go_sem]) ?_
  simp only [Act.put, List.setIfInBounds_toArray, List.set_cons_zero, List.set_cons_succ]
  rw [show valA g 1 = .agg #[.int .i64 0, .int .i64 1] from rfl]
  refine wpM_new (by decide) rfl (by show TA _ 2 _; unfold TA; rw [if_neg (by decide), if_pos rfl]; intro W; simp [execOp, resolve, invoke, Act.eval, go_sem]) ?_
  simp only [Act.put, List.setIfInBounds_toArray, List.set_cons_zero, List.set_cons_succ]
  rw [show valA g 2 = .tuple #[.agg #[.slice g.a1 g.n1 g.c1, .slice g.a2 g.n2 g.c2, .slice g.a3 g.n3 g.c3], .int .i64 0] from rfl]
  iterate 3 (refine wpM_read FA.dep rfl (by decide) (by decide) ?_; go_big_quiet_step (fail); refine wpQuiet_nil ?_)
  refine wpM_new (by decide) rfl (by show TA _ 6 _; unfold TA; rw [if_neg (by decide), if_neg (by decide)]; intro W; simp [execOp, go_sem]) ?_
  simp only [Act.put, List.setIfInBounds_toArray, List.set_cons_zero, List.set_cons_succ]
  rw [show valA g 6 = .pointer (some ⟨g.p, 0, none⟩) from rfl]
  refine wpM_store FA.dep (by decide) rfl 26 (.tmp 7) (.tmp 32) rfl (by rfl) (p := .pointer (some ⟨g.p, 0, none⟩)) (u := .agg #[.slice g.a1 g.n1 g.c1, .slice g.a2 g.n2 g.c2, .slice g.a3 g.n3 g.c3]) (by rfl) (by rfl) [6, 2] (by kernel_rfl) (fun f W hF h0 h1 => ?_) ?_
  · have h6 := h1 6 (by simp); have h2 := h1 2 (by simp)
    obtain ⟨⟨f0, fz⟩, f1, f2, f3⟩ := hF
    obtain ⟨x1, x2⟩ := f3 h6
    rw [h0] at x2
    have x3 : Bx W g.p 26 #[.slice none 0 0, .slice none 0 0, .slice none 0 0] := x2
    have k0 := x3.cell; have kf := x3.free
    refine ⟨((W.setCell ⟨g.p, 0, none⟩ (.slice g.a1 g.n1 g.c1)).setCell ⟨g.p, 1, none⟩ (.slice g.a2 g.n2 g.c2)).setCell ⟨g.p, 2, none⟩ (.slice g.a3 g.n3 g.c3), by simp [go_sem, k0, kf], ⟨((f0.setCell (p := ⟨g.p, 0, none⟩) x1 _).setCell (p := ⟨g.p, 1, none⟩) x1 _).setCell (p := ⟨g.p, 2, none⟩) x1 _, by simpa [World.setCell] using fz⟩, fun _ => OwnM.set3 (f1 h2) x3, fun _ => ⟨by simp [h6], by simp [h2]⟩, fun _ => ⟨x1, ?_⟩⟩
    have := ((x3.set (i := 0) (.slice g.a1 g.n1 g.c1)).set (i := 1) (.slice g.a2 g.n2 g.c2)).set (i := 2) (.slice g.a3 g.n3 g.c3)
    simpa [GA.m] using this
  simp only [Act.put, List.setIfInBounds_toArray, List.set_cons_zero, List.set_cons_succ]
  refine wpM_read FA.dep rfl (by decide) (by decide) ?_; go_big_quiet_step (fail); refine wpQuiet_nil ?_
  refine wpM_nil ?_
  intro wy hF
  obtain ⟨⟨bW, _⟩, f1, f2, f3⟩ := hF
  have om0 := f1 rfl
  obtain ⟨x1, g40⟩ := f3 rfl
  have g4 : Bx wy g.p 26 #[.slice g.a1 g.n1 g.c1, .slice g.a2 g.n2 g.c2, .slice g.a3 g.n3 g.c3] := g40
  have om : OwnM wy wa10.heap.size 48 (.slice g.a1 g.n1 g.c1) (.slice g.a2 g.n2 g.c2) (.slice g.a3 g.n3 g.c3) exN := om0
  clear om0 g40
  replace B := B.trans (bW.mono hz1)
  replace g3 := g3.below bW
  have k6 := om.rd
  have l7 := k6.o.len
  rw [show exN.objs.length = 2 from rfl] at l7
  have c_g3 := g3.cell; have c_g4 := g4.cell
  generalize g.a1 = tA at *; generalize g.n1 = tn at *; generalize g.c1 = tc at *
  generalize g.a2 = oA at *; generalize g.n2 = on at *; generalize g.c2 = oc at *
  generalize g.a3 = sA at *; generalize g.n3 = sn at *; generalize g.c3 = sc at *
  generalize g.p = p7 at *
  clear x1 f1 f2 f3 bW hz1 h2 h3 om this c_2 k4 g2
  go_wp2_with fail
  have m5 : ∀ ty W, (Builtin.len_ #[23] ty #[.slice o5A o5n o5c]).run Try.prog W = .ok (.int .i64 2) W := l5
  have m7 : ∀ ty W, (Builtin.len_ #[23] ty #[.slice oA on oc]).run Try.prog W = .ok (.int .i64 2) W := l7
  clear l5 l7
  go_wp2_with fail
  refine (CB.out _ _ _ _ k6).mono ?_
  rintro e wa11 ⟨t8, o8, s8, rfl, k8, b⟩
  try clear c_g3 f_g3 a_g3 d_g3 e_g3
  replace g3 := g3.below b; have c_g3 := g3.cell; have f_g3 := g3.free; have a_g3 := fun o => (g3.alloc o).cell; have d_g3 := fun o o2 => ((g3.alloc o).alloc o2).cell; have e_g3 := fun o => (g3.alloc o).free; try clear c_g4 f_g4 a_g4 d_g4 e_g4
  replace g4 := g4.below b; have c_g4 := g4.cell; have f_g4 := g4.free; have a_g4 := fun o => (g4.alloc o).cell; have d_g4 := fun o o2 => ((g4.alloc o).alloc o2).cell; have e_g4 := fun o => (g4.alloc o).free; replace B := B.trans (b.mono B.size); clear b
  have l8 := k8.o.len
  rw [exN_len] at l8
  obtain ⟨⟨t8A, t8n, t8c, rfl⟩, ⟨o8A, o8n, o8c, rfl⟩, ⟨s8A, s8n, s8c, rfl⟩⟩ := k8.forms
  have m8 : ∀ ty W, (Builtin.len_ #[23] ty #[.slice o8A o8n o8c]).run Try.prog W = .ok (.int .i64 0) W := l8
  clear l8
  go_upto_region 6 with (fail)
  refine wp_gen (fun Wv => Bx Wv (wa11.heap.size) (26) (#[.slice t8A t8n t8c, .slice o8A o8n o8c, .slice s8A s8n s8c]) ∧ Below wa11.heap.size wa11 Wv) ⟨((Bx.at_ (by simp))), ((Below.refl _ wa11).alloc (by simp <;> omega) _)⟩ ?_
  rintro wa12 ⟨g5, b⟩
  try clear c_g3 f_g3 a_g3 d_g3 e_g3
  replace g3 := g3.below b; have c_g3 := g3.cell; have f_g3 := g3.free; have a_g3 := fun o => (g3.alloc o).cell; have d_g3 := fun o o2 => ((g3.alloc o).alloc o2).cell; have e_g3 := fun o => (g3.alloc o).free; try clear c_g4 f_g4 a_g4 d_g4 e_g4
  replace g4 := g4.below b; have c_g4 := g4.cell; have f_g4 := g4.free; have a_g4 := fun o => (g4.alloc o).cell; have d_g4 := fun o o2 => ((g4.alloc o).alloc o2).cell; have e_g4 := fun o => (g4.alloc o).free; replace k8 := k8.below b; replace B := B.trans (b.mono B.size); clear b
  have c_g5 := g5.cell; have f_g5 := g5.free; have a_g5 := fun o => (g5.alloc o).cell; have d_g5 := fun o o2 => ((g5.alloc o).alloc o2).cell; have e_g5 := fun o => (g5.alloc o).free
  go_wp2
  go_ret
  exact ⟨rfl, B⟩
end Go.Proofs.Yteejianjjpdimaa
namespace Go.Proofs.Yteejianjjpdimaa
open Go.RowKit L02 L13 L18 L20
end Go.Proofs.Yteejianjjpdimaa
namespace Go.Proofs.Yteejianjjpdimaa
open Go.RowKit L02 L13 L18 L20
theorem info_typs : (Try.prog.info? 41).map (fun i => (i.zero, i.size, i.bytes)) = some (some (.slice none 0 0), 1, 24) := by kernel_rfl
theorem info_obj2 : (Try.prog.info? 45).map (fun i => (i.zero, i.size, i.bytes)) = some (some (.agg #[.int .i64 0, .slice none 0 0]), 2, 32) := by kernel_rfl
theorem size_typ1 : (Try.prog.info? 41).map (·.size) = some 1 := by kernel_rfl
theorem size_obj2 : (Try.prog.info? 45).map (·.size) = some 2 := by kernel_rfl
theorem size_byte1 : (Try.prog.info? 5).map (·.size) = some 1 := by kernel_rfl
section
variable {w : World} {B : Nat} {tv ov sv : Value}
/-- the rows of types of the model -/
theorem nm_typs {a b : List UInt8} (h : OwnT w B tv [a, b]) : ∃ g c y0 y1, tv = .slice (some ⟨g, 0, none⟩) 2 c ∧ w.ownsRow B 41 1 tv 2 [y0, y1] ∧ OwnB w B 5 y0 a ∧ OwnB w B 5 y1 b := by
  obtain ⟨vs, h1, h2, h3⟩ := h
  match vs, h1 with
  | [y0, y1], _ =>
    obtain ⟨g, c, cur, e, _⟩ := own_form h2 (by simp)
    exact ⟨g, c, y0, y1, e, h2, h3 0 _ _ rfl rfl, h3 1 _ _ rfl rfl⟩
theorem typs_two {w : World} {tv y0 y1 : Value} {a b : List UInt8} (h : Rd w 1 tv 2 [y0, y1]) (h0 : Byts w y0 a) (h1 : Byts w y1 b) : Typs w tv [a, b] := by
  refine ⟨[y0, y1], rfl, h, fun i x l e1 e2 => ?_⟩
  rcases i with _ | _ | i
  · simp at e1 e2; subst e1; subst e2; exact h0
  · simp at e1 e2; subst e1; subst e2; exact h1
  · simp at e1
theorem objs_two {w : World} {ov x0 x1 : Value} {a b : Ob} (h : Rd w 2 ov 2 [.int .i64 a.ty, x0, .int .i64 b.ty, x1]) (h0 : Words w x0 a.fs) (h1 : Words w x1 b.fs) : Objs w ov [a, b] := by
  refine ⟨[x0, x1], rfl, h, fun i x l e1 e2 => ?_⟩
  rcases i with _ | _ | i
  · simp at e1 e2; subst e1; subst e2; exact h0
  · simp at e1 e2; subst e1; subst e2; exact h1
  · simp at e1
/-- .. of objects -/
theorem nm_objs {a b : Ob} (h : OwnO w B ov [a, b]) : ∃ g c x0 x1, ov = .slice (some ⟨g, 0, none⟩) 2 c ∧ B ≤ g ∧ g < w.heap.size ∧ w.ownsRow B 45 2 ov 2 [.int .i64 a.ty, x0, .int .i64 b.ty, x1] ∧ OwnW w B 46 x0 a.fs ∧ OwnW w B 46 x1 b.fs := by
  obtain ⟨vs, h1, h2, h3, h4⟩ := h
  match vs, h1 with
  | [x0, x1], _ =>
    obtain ⟨g, c, cur, e, hB, hg, _⟩ := own_form h2 (by simp)
    exact ⟨g, c, x0, x1, e, hB, (Array.getElem?_eq_some_iff.1 hg).1, h2, h3 0 _ _ rfl rfl, h3 1 _ _ rfl rfl⟩
/-- a change in the row of objects -/
theorem nm_obj {W : World} {g c : Nat} {T : List (List UInt8)} {S : List Sl} {a b : Ob} {x0' x1 x' : Value} {ty : Int} {fs : List UInt64} (ht : OwnT w B tv T) (hs : OwnS w B 48 sv S) (ho : w.ownsRow B 45 2 (.slice (some ⟨g, 0, none⟩) 2 c) 2 [.int .i64 a.ty, x0', .int .i64 b.ty, x1])
    (h1 : OwnW w B 46 x1 b.fs) (hg : w.grownBy W (some g)) (hn : W.ownsRow B 45 2 (.slice (some ⟨g, 0, none⟩) 2 c) 2 [.int .i64 ty, x', .int .i64 b.ty, x1]) (hx : Words W x' fs) :
    Mod W tv (.slice (some ⟨g, 0, none⟩) 2 c) sv ⟨T, [⟨ty, fs⟩, b], S⟩ := by
  have k1 : OwnW W B 46 x1 b.fs := World.ownsRow.kept h1 hg (by simpa [Value.ownBlock] using own_unlike h1 ho (by decide))
  have kt : OwnT W B tv T := OwnT.kept ht ho (by simpa [Value.ownBlock] using hg) (by decide) (by decide)
  have ks : OwnS W B 48 sv S := World.ownsRow.kept hs hg (by simpa [Value.ownBlock] using own_unlike hs ho (by decide))
  exact ⟨kt.rd, objs_two (a := ⟨ty, fs⟩) (Rd.of_own hn) hx k1.rd, ks.rd⟩
/-- a byte of the second type is changed: the types differ, and so their rows lie apart -/
theorem nm_byte {g c : Nat} {y0 y1 : Value} (ht : w.ownsRow B 41 1 (.slice (some ⟨g, 0, none⟩) 2 c) 2 [y0, y1]) (h0 : OwnB w B 5 y0 [3]) (h1 : OwnB w B 5 y1 [2, 1]) :
    ∃ p q, y1 = .slice (some ⟨p, 0, none⟩) 2 q ∧ B ≤ p ∧ p < w.heap.size ∧ w.cell? ⟨p, 0, none⟩ = some (.int .u8 2) ∧ w.frozen? ⟨p, 0, none⟩ = false ∧ (∀ W, (Instr.indexAt 41 y1 (.int .i64 0)).run Try.prog W = .ok (.pointer (some ⟨p, 0, none⟩)) W) ∧ w.cell? ⟨g, 1, none⟩ = some y1 ∧ (∀ W, (Instr.indexAt 22 (.slice (some ⟨g, 0, none⟩) 2 c) (.int .i64 1)).run Try.prog W = .ok (.pointer (some ⟨g, 1, none⟩)) W) ∧
      ∀ o s m, OwnM w B 48 (.slice (some ⟨g, 0, none⟩) 2 c) o s m → w.grownBy (w.setCell ⟨p, 0, none⟩ (.int .u8 4)) (some p) ∧ Mod (w.setCell ⟨p, 0, none⟩ (.int .u8 4)) (.slice (some ⟨g, 0, none⟩) 2 c) o s ⟨[[3], [4, 1]], m.objs, m.slots⟩ := by
  obtain ⟨p, q, cur, e, hB, hg, _⟩ := own_form h1 (by simp)
  have ix := fun W => Rd.ixN (P := Try.prog) (Rd.of_own h1) (t := 41) Try.underlying41 size_byte1 (k := 0) (by simp) W
  have ixT := fun W => Rd.ixN (P := Try.prog) (Rd.of_own ht) (t := 22) Try.underlying22 size_typ1 (k := 1) (by simp) W
  have c0 := Rd.cell (Rd.of_own h1) (j := 0) (u := .int .u8 2) rfl
  have cT := Rd.cell (Rd.of_own ht) (j := 1) (u := y1) rfl
  subst e
  have fz := World.ownsRow.frozenAt h1 0
  have hst := World.ownsRow.stored h1 0 (.int .u8 4)
  have hap : y0.ownBlock = none ∨ y0.ownBlock ≠ some p := by
    cases hb : y0.ownBlock with
    | none => exact .inl rfl
    | some g0 =>
      refine .inr (fun e => ?_)
      injection e with e
      subst e
      obtain ⟨p0, q0, cur0, e0, _, _, _⟩ := own_form h0 (by simp)
      have c00 := Rd.cell (Rd.of_own h0) (j := 0) (u := .int .u8 3) rfl
      subst e0
      simp [Value.ownBlock] at hb
      subst hb
      rw [show cellAt (.slice (some ⟨p0, 0, none⟩) ([3] : List UInt8).length q0) 0 = ⟨p0, 0, none⟩ by simp [cellAt]] at c00
      rw [show cellAt (.slice (some ⟨p0, 0, none⟩) ([2, 1] : List UInt8).length q) 0 = ⟨p0, 0, none⟩ by simp [cellAt]] at c0
      rw [c00] at c0
      injection c0 with c0; injection c0 with _ c0; cases c0
  refine ⟨p, q, rfl, hB, (Array.getElem?_eq_some_iff.1 hg).1, by simpa [cellAt] using c0, fz, fun W => by have := ix W; simpa [cellAt] using this, by simpa [cellAt] using cT, fun W => by have := ixT W; simpa [cellAt] using this, fun o s m hM => ⟨hst.2, ?_⟩⟩
  have hg2 := hst.2
  have k0 : OwnB _ B 5 y0 [3] := World.ownsRow.kept h0 hg2 hap
  have kt := World.ownsRow.kept ht hg2 (by simpa [Value.ownBlock] using own_unlike ht h1 (by decide))
  have ks := World.ownsRow.kept hM.s hg2 (by simpa [Value.ownBlock] using own_unlike hM.s h1 (by decide))
  obtain ⟨vs, a1, a2, a4, a5⟩ := hM.o
  have ko := World.ownsRow.kept a2 hg2 (by simpa [Value.ownBlock] using own_unlike a2 h1 (by decide))
  refine ⟨typs_two (Rd.of_own kt) k0.rd ?_, ⟨vs, a1, Rd.of_own ko, fun i x l e1 e2 => Rd.of_own (World.ownsRow.kept (a4 i x l e1 e2) hg2 (by simpa [Value.ownBlock] using own_unlike (a4 i x l e1 e2) h1 (by decide)))⟩, Rd.of_own ks⟩
  have h4 : (w.setCell ⟨p, 0, none⟩ (.int .u8 4)).ownsRow B 5 1 (.slice (some ⟨p, 0, none⟩) 2 q) 2 (([2, 1] : List UInt8).map u8 |>.set 0 (.int .u8 4)) := hst.1
  exact Rd.of_own h4
/-- the first fifteen slots -/
theorem nm_cut {S : List Sl} (h : Slots w sv S) (h16 : S.length = 16) : ∃ v', (∀ W, (Instr.sliceAt 24 sv none (some (.int .i64 15)) none).run Try.prog W = .ok v' W) ∧ Slots w v' (S.take 15) := by
  obtain ⟨v', _, _, r1, r2, _⟩ := Rd.cutN (P := Try.prog) h Try.underlying24 size_slot (lo := 0) (hi := 15) (by omega) (by omega)
  refine ⟨v', r1 rfl, ?_⟩
  have e : (tabL S).take 45 = tabL (S.take 15) := by
    match S, h16 with
    | [_, _, _, _, _, _, _, _, _, _, _, _, _, _, _, _], _ => rfl
  have l : (S.take 15).length = 15 := by rw [List.length_take]; omega
  unfold Slots
  rw [l, ← e]
  simpa using r2
/-- nine empty types -/
theorem nm_nine (h : w.ownsRow B 41 1 tv 9 (List.replicate 9 (.slice none 0 0))) : Typs w tv (List.replicate 9 []) :=
  ⟨List.replicate 9 (.slice none 0 0), rfl, Rd.of_own h, fun i x l e1 e2 => by
    have e1 := List.eq_of_mem_replicate (List.mem_of_getElem? e1); have e2 := List.eq_of_mem_replicate (List.mem_of_getElem? e2)
    subst e1; subst e2; exact Byts.nil w⟩
theorem obC_rep (n : Nat) : obC (List.replicate n ⟨0, []⟩) (List.replicate n (.slice none 0 0)) = (madeCells #[.int .i64 0, .slice none 0 0] (n * 2)).toList := by
  have h1 : ∀ n, obC (List.replicate n ⟨0, []⟩) (List.replicate n (.slice none 0 0)) = (List.range (n * 2)).map fun i => (#[Value.int .i64 0, .slice none 0 0])[i % 2]! := by
    intro n
    induction n with
    | zero => rfl
    | succ n ih =>
      rw [List.replicate_succ', List.replicate_succ', show (n + 1) * 2 = n * 2 + 1 + 1 by omega, List.range_succ, List.range_succ, List.map_append, List.map_append, ← ih]
      rw [show (obC (List.replicate n ⟨0, []⟩ ++ [⟨0, []⟩]) (List.replicate n (.slice none 0 0) ++ [.slice none 0 0])) = obC (List.replicate n ⟨0, []⟩) (List.replicate n (.slice none 0 0)) ++ [i64 0, .slice none 0 0] from by
        generalize n = k
        induction k with
        | zero => rfl
        | succ k ihk => simp only [List.replicate_succ, List.cons_append, obC, ihk]]
      simp [show n * 2 % 2 = 0 by omega, show (n * 2 + 1) % 2 = 1 by omega, i64]
  rw [h1]
  simp [madeCells]
/-- many empty objects -/
theorem nm_many {n : Nat} (h : w.ownsRow B 45 2 ov n (madeCells #[.int .i64 0, .slice none 0 0] (n * 2)).toList) : Objs w ov (List.replicate n ⟨0, []⟩) := by
  refine ⟨List.replicate n (.slice none 0 0), by simp, ?_, fun i x l e1 e2 => ?_⟩
  · rw [obC_rep, List.length_replicate]; exact Rd.of_own h
  · have e1 := List.eq_of_mem_replicate (List.mem_of_getElem? e1); have e2 := List.eq_of_mem_replicate (List.mem_of_getElem? e2)
    subst e1; subst e2; exact Rd.nil w 1
/-- one cell of a slot -/
theorem nm_slot {g c : Nat} {S S' : List Sl} {k : Nat} {u : Value} {T : List (List UInt8)} {O : List Ob} (h : OwnM w B 48 tv ov (.slice (some ⟨g, 0, none⟩) 16 c) ⟨T, O, S⟩) (hS : S.length = 16) (hS' : S'.length = 16) (e : (tabL S).set k u = tabL S') :
    w.grownBy (w.setCell ⟨g, k, none⟩ u) (some g) ∧ OwnM (w.setCell ⟨g, k, none⟩ u) B 48 tv ov (.slice (some ⟨g, 0, none⟩) 16 c) ⟨T, O, S'⟩ := by
  have h1 : w.ownsRow B 48 3 (.slice (some ⟨g, 0, none⟩) 16 c) 16 (tabL S) := by have := h.s; unfold OwnS at this; rw [show (⟨T, O, S⟩ : Mo).slots.length = 16 from hS] at this; exact this
  have hst := World.ownsRow.stored h1 k u
  refine ⟨hst.2, OwnM.slots (m := ⟨T, O, S⟩) h hst.2 ?_⟩
  have := hst.1
  rw [e] at this
  unfold OwnS
  rw [hS']; exact this
/-- a second type -/
theorem nm_push {V W : World} {pA : Nat} {y0 v1 : Value} (om : OwnM w B 48 tv ov sv exM) (hb : Below w.heap.size w V) (hT : w.ownsRow B 41 1 tv 1 [y0]) (h0 : OwnB w B 5 y0 [3]) (hA : Bx V pA 5 #[.int .u8 2, .int .u8 1]) (hpA : B ≤ pA) (hg : V.grownBy W tv.ownBlock)
    (hown : W.ownsRow B 41 1 v1 (1 + 1) ([y0] ++ [.slice (some ⟨pA, 0, none⟩) 2 2])) : OwnM W B 48 v1 ov sv nmM := by
  have hTV := own_below hT hb
  have h0V : OwnB V B 5 y0 [3] := own_below h0 hb
  have hAW : OwnB V B 5 (.slice (some ⟨pA, 0, none⟩) 2 2) [2, 1] := Bx.row hA hpA rfl (by omega)
  have k0 : OwnB W B 5 y0 [3] := World.ownsRow.kept h0V hg (own_unlike h0V hTV (by decide))
  have k1 : OwnB W B 5 (.slice (some ⟨pA, 0, none⟩) 2 2) [2, 1] := World.ownsRow.kept hAW hg (own_unlike hAW hTV (by decide))
  have omV := om.below hb
  refine ⟨⟨[y0, .slice (some ⟨pA, 0, none⟩) 2 2], rfl, hown, fun i x l e1 e2 => ?_⟩, ?_, World.ownsRow.kept omV.s hg (own_unlike omV.s hTV (by decide))⟩
  · rcases i with _ | _ | i
    · simp at e1; simp [nmM] at e2; subst e1; subst e2; exact k0
    · simp at e1; simp [nmM] at e2; subst e1; subst e2; exact k1
    · simp at e1
  · obtain ⟨vs, a1, a2, a4, a5⟩ := omV.o
    exact ⟨vs, a1, World.ownsRow.kept a2 hg (own_unlike a2 hTV (by decide)), fun i x l e1 e2 => World.ownsRow.kept (a4 i x l e1 e2) hg (own_unlike (a4 i x l e1 e2) hTV (by decide)), a5⟩
end
end Go.Proofs.Yteejianjjpdimaa
