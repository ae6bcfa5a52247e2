/- Contracts of the functions that the law 'ModelEdits' reaches, part 7. No condition. -/
import Derived.Test.YtgjpohhafmkhcaaMMEsf
set_option linter.unusedVariables false
set_option linter.unusedSimpArgs false
namespace Go.Proofs.Ytgjpohhafmkhcaa
open Go.RowKit L02 L13 L18 L20
theorem Bx.row {w : World} {g base n sz : Nat} {t : TypeId} {cs : Array Value} (h : Bx w g t cs) (hb : base ≤ g) (hs : cs.size = n * sz) (hn : n ≤ 1000) : w.ownsRow base t sz (.slice (some ⟨g, 0, none⟩) n n) n cs.toList :=
  ⟨by simpa using hs, .inr ⟨g, n, cs, rfl, hb, h, Nat.le_refl _, by simp [maxLen]; omega, hs, List.take_of_length_le (by rw [Array.length_toList, hs]; exact Nat.le_refl _)⟩⟩
theorem info_slotF : (Try.prog.info? 67).map (fun i => (i.zero, i.size, i.bytes)) = some (some (.agg #[.int .i64 0, .bool false, .int .i64 0]), 3, 24) := by kernel_rfl
theorem make_slots (w : World) : ∃ w', (Instr.makeSlice 24 (.int .i64 16) (.int .i64 16)).run Try.prog w = .ok (.slice (some ⟨w.heap.size, 0, none⟩) 16 16) w' ∧ OwnS w' w.heap.size 67 (.slice (some ⟨w.heap.size, 0, none⟩) 16 16) (List.replicate 16 Sl.none) ∧ Below w.heap.size w w' := by
  obtain ⟨i, hi1, hi2, hi3, hi4⟩ := info3 info_slotF
  obtain ⟨w', hrun, g1, g2⟩ := run_make_full (P := Try.prog) w w.heap.size 24 67 i _ 3 Try.underlying24 hi1 hi2 hi3 .i64 .i64 16 (by rw [hi4]; decide) (by unfold maxLen; decide) (Nat.le_refl _)
  rw [show (madeCells (Value.agg #[.int .i64 0, .bool false, .int .i64 0]).cells (16 * 3)).toList = tabL (List.replicate 16 Sl.none) by simp [madeCells, tabL, slC, Sl.none, List.replicate, Value.cells]; rfl] at g1
  exact ⟨w', hrun, g1, (Below.refl _ _).grown g2 (Nat.le_refl _) (fun _ hk => by cases hk)⟩
theorem wpList_makeSlots {ops : Array Oper} {Q : Exit → Act → World → Prop} {rest : List Oper} {o : Oper} {a : Act} {w : World} (hgd : Region.wanted o (yielded ops a.tmps) = true) {l c : Operand} (ho : o.op = .makeSlice 24 l c) (hl : a.eval l = .int .i64 16) (hc : a.eval c = .int .i64 16)
    (h : ∀ w', OwnS w' w.heap.size 67 (.slice (some ⟨w.heap.size, 0, none⟩) 16 16) (List.replicate 16 Sl.none) → Below w.heap.size w w' → wpList Try.prog ops Q rest (a.put o.dst (.slice (some ⟨w.heap.size, 0, none⟩) 16 16)) w') : wpList Try.prog ops Q (o :: rest) a w := by
  obtain ⟨w', hrun, g1, g2⟩ := make_slots w
  refine wpList_wanted hgd fun K hK => ?_
  unfold Oper.wp
  simp [execOp, ho, hl, hc, hrun]
  exact hK _ _ (h w' g1 g2)
theorem slot20_any (n : Int) (w : World) : Calls Try.prog 38 #[.int .i64 n] w fun e w' => e = .returned (.agg #[.int .i64 n, .int .i64 1]) ∧ Below w.heap.size w w' := by
  have B : Below w.heap.size w w := Below.refl _ _
  go_enter Try.func38, Try.ntmps38
  go_wp2
  exact bodyPost_ret (v := .agg #[.int .i64 n, .int .i64 1]) (by simp [results, Try.results38, go_sem]) rfl ⟨rfl, B.alloc B.size _⟩
/-- the worlds of the two stores -/
def wsE (w : World) (g : Nat) : Nat → World
  | 0 => w.drew
  | 1 => ((w.drew.setCell ⟨g, 0, none⟩ (.int .i64 1)).setCell ⟨g, 1, none⟩ (.bool true)).setCell ⟨g, 2, none⟩ (.int .i64 0)
  | _ + 2 => (((((w.drew.setCell ⟨g, 0, none⟩ (.int .i64 1)).setCell ⟨g, 1, none⟩ (.bool true)).setCell ⟨g, 2, none⟩ (.int .i64 0)).setCell ⟨g, 3, none⟩ (.int .i64 1)).setCell ⟨g, 4, none⟩ (.bool true)).setCell ⟨g, 5, none⟩ (.int .i64 1)
set_option maxRecDepth 100000 in
theorem example20_any (w : World) : Calls Try.prog 37 #[] w fun e w' => ∃ t o s, e = .returned (.agg #[t, o, s]) ∧ OwnM w' w.heap.size 67 t o s exM ∧ Below w.heap.size w w' := by
  have B : Below w.heap.size w w := Below.refl _ _
  go_enter Try.func37, Try.ntmps37
  go_upto_region 1 with (fail)
  refine wp_gen (fun Wv => Bx Wv (w.heap.size) (26) (#[.slice none 0 0, .slice none 0 0, .slice none 0 0]) ∧ Below w.heap.size w Wv) ⟨((Bx.at_ (by simp))), ((Below.refl _ w).alloc (by simp <;> omega) _)⟩ ?_
  rintro wa1 ⟨g1, b⟩
  replace B := B.trans (b.mono B.size); clear b
  have c_g1 := g1.cell; have f_g1 := g1.free; have a_g1 := fun o => (g1.alloc o).cell; have d_g1 := fun o o2 => ((g1.alloc o).alloc o2).cell; have e_g1 := fun o => (g1.alloc o).free
  go_upto_region 2 with (at_make; refine wpList_makeSlots (by rfl) rfl rfl rfl ?_; intro w1 o1 b1)
  have hz := g1.lt
  have hs0 := B.size
  have q0 := ((((((Bx.at_ (w := wa1) (t := 5) (cs := #[.int .u8 3]) rfl).alloc _).alloc _).alloc _).alloc _).below b1).alloc (.cells #[.slice (some ⟨wa1.heap.size + 1, 0, none⟩) 1 1, .slice (some ⟨wa1.heap.size + 1 + 1 + 1 + 1, 0, none⟩) 2 2, .slice (some ⟨wa1.heap.size + 1 + 1 + 1 + 1 + 1, 0, none⟩) 16 16] 26)
  have q1 := (((((Bx.at_ (n := wa1.heap.size + 1) (t := 74) (cs := #[.slice (some ⟨wa1.heap.size, 0, none⟩) 1 1]) (by simp)).alloc _).alloc _).alloc _).below b1).alloc (.cells #[.slice (some ⟨wa1.heap.size + 1, 0, none⟩) 1 1, .slice (some ⟨wa1.heap.size + 1 + 1 + 1 + 1, 0, none⟩) 2 2, .slice (some ⟨wa1.heap.size + 1 + 1 + 1 + 1 + 1, 0, none⟩) 16 16] 26)
  have q2 := ((((Bx.at_ (n := wa1.heap.size + 1 + 1) (t := 29) (cs := #[.int .u64 2]) (by simp)).alloc _).alloc _).below b1).alloc (.cells #[.slice (some ⟨wa1.heap.size + 1, 0, none⟩) 1 1, .slice (some ⟨wa1.heap.size + 1 + 1 + 1 + 1, 0, none⟩) 2 2, .slice (some ⟨wa1.heap.size + 1 + 1 + 1 + 1 + 1, 0, none⟩) 16 16] 26)
  have q3 := (((Bx.at_ (n := wa1.heap.size + 1 + 1 + 1) (t := 29) (cs := #[.int .u64 0]) (by simp)).alloc _).below b1).alloc (.cells #[.slice (some ⟨wa1.heap.size + 1, 0, none⟩) 1 1, .slice (some ⟨wa1.heap.size + 1 + 1 + 1 + 1, 0, none⟩) 2 2, .slice (some ⟨wa1.heap.size + 1 + 1 + 1 + 1 + 1, 0, none⟩) 16 16] 26)
  have q4 := ((Bx.at_ (n := wa1.heap.size + 1 + 1 + 1 + 1) (t := 72) (cs := #[.int .i64 0, .slice (some ⟨wa1.heap.size + 1 + 1, 0, none⟩) 1 1, .int .i64 0, .slice (some ⟨wa1.heap.size + 1 + 1 + 1, 0, none⟩) 1 1]) (by simp)).below b1).alloc (.cells #[.slice (some ⟨wa1.heap.size + 1, 0, none⟩) 1 1, .slice (some ⟨wa1.heap.size + 1 + 1 + 1 + 1, 0, none⟩) 2 2, .slice (some ⟨wa1.heap.size + 1 + 1 + 1 + 1 + 1, 0, none⟩) 16 16] 26)
  have q5 := Bx.new w1 26 #[.slice (some ⟨wa1.heap.size + 1, 0, none⟩) 1 1, .slice (some ⟨wa1.heap.size + 1 + 1 + 1 + 1, 0, none⟩) 2 2, .slice (some ⟨wa1.heap.size + 1 + 1 + 1 + 1 + 1, 0, none⟩) 16 16]
  have b2 : Below wa1.heap.size wa1 w1 := (((((((Below.refl _ wa1).alloc (by simp <;> omega) _).alloc (by simp <;> omega) _).alloc (by simp <;> omega) _).alloc (by simp <;> omega) _).alloc (by simp <;> omega) _).trans (b1.mono (by simp; omega)))
  have oS := OwnS.below (own_mono o1 (B' := w.heap.size) (by simp; omega)) ((Below.refl _ _).alloc (Nat.le_refl _) (.cells #[.slice (some ⟨wa1.heap.size + 1, 0, none⟩) 1 1, .slice (some ⟨wa1.heap.size + 1 + 1 + 1 + 1, 0, none⟩) 2 2, .slice (some ⟨wa1.heap.size + 1 + 1 + 1 + 1 + 1, 0, none⟩) 16 16] 26))
  simp only [World.size_alloc] at oS
  have hp : wa1.heap.size + 1 + 1 + 1 + 1 + 1 < w1.heap.size := by have h5 := (o1.lt _ rfl).2; simp only [World.size_alloc] at h5; exact h5
  have g1' := (g1.below b2).alloc (.cells #[.slice (some ⟨wa1.heap.size + 1, 0, none⟩) 1 1, .slice (some ⟨wa1.heap.size + 1 + 1 + 1 + 1, 0, none⟩) 2 2, .slice (some ⟨wa1.heap.size + 1 + 1 + 1 + 1 + 1, 0, none⟩) 16 16] 26)
  have B' := (B.trans (b2.mono hs0)).alloc (Nat.le_trans hs0 b2.size) (.cells #[.slice (some ⟨wa1.heap.size + 1, 0, none⟩) 1 1, .slice (some ⟨wa1.heap.size + 1 + 1 + 1 + 1, 0, none⟩) 2 2, .slice (some ⟨wa1.heap.size + 1 + 1 + 1 + 1 + 1, 0, none⟩) 16 16] 26)
  clear g1 B c_g1 f_g1 a_g1 d_g1 e_g1 b1 o1
  generalize w1.alloc (.cells #[.slice (some ⟨wa1.heap.size + 1, 0, none⟩) 1 1, .slice (some ⟨wa1.heap.size + 1 + 1 + 1 + 1, 0, none⟩) 2 2, .slice (some ⟨wa1.heap.size + 1 + 1 + 1 + 1 + 1, 0, none⟩) 16 16] 26) = W at *
  have oB : OwnB W w.heap.size 5 (.slice (some ⟨wa1.heap.size, 0, none⟩) 1 1) [3] := Bx.row q0 hs0 rfl (by omega)
  have oF1 : OwnW W w.heap.size 29 (.slice (some ⟨wa1.heap.size + 1 + 1, 0, none⟩) 1 1) [2] := Bx.row q2 (by omega) rfl (by omega)
  have oF2 : OwnW W w.heap.size 29 (.slice (some ⟨wa1.heap.size + 1 + 1 + 1, 0, none⟩) 1 1) [0] := Bx.row q3 (by omega) rfl (by omega)
  have oT : OwnT W w.heap.size (.slice (some ⟨wa1.heap.size + 1, 0, none⟩) 1 1) [[3]] := ⟨[.slice (some ⟨wa1.heap.size, 0, none⟩) 1 1], rfl, Bx.row q1 (by omega) rfl (by omega), fun i x l h1 h2 => by
    rcases i with _ | i
    · simp at h1 h2; subst h1; subst h2; exact oB
    · simp at h1⟩
  have oO : OwnO W w.heap.size (.slice (some ⟨wa1.heap.size + 1 + 1 + 1 + 1, 0, none⟩) 2 2) [⟨0, [2]⟩, ⟨0, [0]⟩] := ⟨[.slice (some ⟨wa1.heap.size + 1 + 1, 0, none⟩) 1 1, .slice (some ⟨wa1.heap.size + 1 + 1 + 1, 0, none⟩) 1 1], rfl, Bx.row q4 (by omega) rfl (by omega), fun i x l h1 h2 => by
    rcases i with _ | _ | i
    · simp at h1 h2; subst h1; subst h2; exact oF1
    · simp at h1 h2; subst h1; subst h2; exact oF2
    · simp at h1, fun i j x y hij h1 h2 => by
    rcases i with _ | _ | i <;> rcases j with _ | _ | j <;> simp at h1 h2 hij <;> subst h1 <;> subst h2 <;> simp [Value.ownBlock]⟩
  have om : OwnM W.drew w.heap.size 67 (.slice (some ⟨wa1.heap.size + 1, 0, none⟩) 1 1) (.slice (some ⟨wa1.heap.size + 1 + 1 + 1 + 1, 0, none⟩) 2 2) (.slice (some ⟨wa1.heap.size + 1 + 1 + 1 + 1 + 1, 0, none⟩) 16 16) ⟨[[3]], [⟨0, [2]⟩, ⟨0, [0]⟩], List.replicate 16 Sl.none⟩ := ⟨oT, oO, oS⟩
  have hg : w.heap.size < wa1.heap.size := hz
  have hg5 : w.heap.size < wa1.heap.size + 1 + 1 + 1 + 1 + 1 := by omega
  clear oT oO oS oB oF1 oF2 q0 q1 q2 q3 q4 hs0 b2
  obtain ⟨ix0, k0, k1, k2⟩ := OwnS.cells (k := 0) om.s rfl
  obtain ⟨ix1, _, _, _⟩ := OwnS.cells (k := 1) om.s rfl
  have P0 := OwnS.put3 (k := 0) om.s (by decide) ⟨1, true, 0⟩
  obtain ⟨_, j0, j1, j2⟩ := OwnS.cells (k := 1) P0.1 rfl
  have P1 := OwnS.put3 (k := 1) P0.1 (by decide) ⟨1, true, 1⟩
  have fz : ∀ j, W.frozen? ⟨wa1.heap.size + 1 + 1 + 1 + 1 + 1, j, none⟩ = false := P0.2.2.2.2
  have fz1 := P1.2.2.2.2
  have HF := Lib.hid (OwnM.slots (OwnM.slots om P0.2.1 P0.1) P1.2.1 P1.1)
  generalize wa1.heap.size + 1 + 1 + 1 + 1 + 1 = p5 at *
  have hne : w1.heap.size ≠ p5 := by omega
  have hne0 : w.heap.size ≠ p5 := by omega
  have hix0 : ∀ V, (Instr.indexAt 24 (.slice (some ⟨p5, 0, none⟩) 16 16) (.int .i64 0)).run Try.prog V = .ok (.pointer (some ⟨p5, 0, none⟩)) V := ix0
  have hix1 : ∀ V, (Instr.indexAt 24 (.slice (some ⟨p5, 0, none⟩) 16 16) (.int .i64 1)).run Try.prog V = .ok (.pointer (some ⟨p5, 3, none⟩)) V := ix1
  have c0 : W.cell? ⟨p5, 0, none⟩ = some (.int .i64 0) := k0
  have c1 : W.cell? ⟨p5, 1, none⟩ = some (.bool false) := k1
  have c2 : W.cell? ⟨p5, 2, none⟩ = some (.int .i64 0) := k2
  have d0 : (wsE W p5 1).cell? ⟨p5, 3, none⟩ = some (.int .i64 0) := j0
  have d1 : (wsE W p5 1).cell? ⟨p5, 4, none⟩ = some (.bool false) := j1
  have d2 : (wsE W p5 1).cell? ⟨p5, 5, none⟩ = some (.int .i64 0) := j2
  have e1 : ∀ j, (wsE W p5 1).frozen? ⟨p5, j, none⟩ = false := fz1
  have HF2 : OwnM (wsE W p5 2) w.heap.size 67 (.slice (some ⟨wa1.heap.size + 1, 0, none⟩) 1 1) (.slice (some ⟨wa1.heap.size + 1 + 1 + 1 + 1, 0, none⟩) 2 2) (.slice (some ⟨p5, 0, none⟩) 16 16) exM := HF.out
  have HF3 := Lib.hid HF2
  clear ix0 ix1 k0 k1 k2 j0 j1 j2 P0 P1 HF HF2 fz1 om
  have far : ∀ {g cs}, g ≠ p5 → Bx W g 26 cs → ∀ d, d ≤ 2 → Bx (wsE W p5 d) g 26 cs := by
    intro g cs hn hb d hd
    rcases d with _ | _ | d
    · exact hb
    · exact ((Bx.far (w := W.drew) hb (p := ⟨p5, 0, none⟩) hn _).far (p := ⟨p5, 1, none⟩) hn _).far (p := ⟨p5, 2, none⟩) hn _
    · exact (((((Bx.far (w := W.drew) hb (p := ⟨p5, 0, none⟩) hn _).far (p := ⟨p5, 1, none⟩) hn _).far (p := ⟨p5, 2, none⟩) hn _).far (p := ⟨p5, 3, none⟩) hn _).far (p := ⟨p5, 4, none⟩) hn _).far (p := ⟨p5, 5, none⟩) hn _
  have A5 := far hne q5
  have A1 := far hne0 g1'
  have BB : Below w.heap.size w (wsE W p5 2) := by
    have hp' : w.heap.size ≤ p5 := by omega
    exact ((((((B'.drew).setCell (p := ⟨p5, 0, none⟩) hp' _).setCell (p := ⟨p5, 1, none⟩) hp' _).setCell (p := ⟨p5, 2, none⟩) hp' _).setCell (p := ⟨p5, 3, none⟩) hp' _).setCell (p := ⟨p5, 4, none⟩) hp' _).setCell (p := ⟨p5, 5, none⟩) hp' _
  have AA := Lib.hid (fun x : FXN (FL [7, 9] (wsE W p5) 7 2) => FL.all (ks := [7, 9]) (Ws := wsE W p5) (p := fun V => Bx V w1.heap.size 26 #[.slice (some ⟨wa1.heap.size + 1, 0, none⟩) 1 1, .slice (some ⟨wa1.heap.size + 1 + 1 + 1 + 1, 0, none⟩) 2 2, .slice (some ⟨p5, 0, none⟩) 16 16]) A5 x)
  have HX := Lib.hid (And.intro (A5 2 (by omega)) (And.intro (A1 2 (by omega)) BB))
  have ca := fun x : FXN (FL [7, 9] (wsE W p5) 7 2) => (AA.out x).cell
  haveI : Nonempty (FXN (FL [7, 9] (wsE W p5) 7 2)) := ⟨⟨_, _, FL.start⟩⟩
  clear far A5 A1 BB q5 g1' B'
  refine wp_region_N (FL [7, 9] (wsE W p5) 7 2) [7, 7, 9] FL.dep (by kernel_rfl) (by kernel_rfl) (by kernel_rfl) FL.start ?_
  iterate 7 (refine wpN_read FL.dep rfl (by decide) ?_; go_big_quiet_step (fail); refine wpQuiet_nil ?_)
  refine wpN_storeD FL.dep rfl 67 (.tmp 17) (.tmp 15) rfl (by rfl) (p := .pointer (some ⟨p5, 0, none⟩)) (u := .agg #[.int .i64 1, .bool true, .int .i64 0]) (by rfl) (by rfl) [] (by kernel_rfl) (fun f W' hF h0 h1 => ?_) ?_
  · obtain ⟨rfl, h2⟩ := FL.step (i := 0) rfl (by decide) hF h0 (by intro p hp; omega) (by omega)
    refine ⟨_, ?_, h2⟩
    simp [go_sem, wsE, c0, c1, c2, fz]
  simp only [Act.put, List.setIfInBounds_toArray, List.set_cons_zero, List.set_cons_succ]
  iterate 1 (refine wpN_read FL.dep rfl (by decide) ?_; go_big_quiet_step (fail); refine wpQuiet_nil ?_)
  refine wpN_storeD FL.dep rfl 67 (.tmp 18) (.tmp 16) rfl (by rfl) (p := .pointer (some ⟨p5, 3, none⟩)) (u := .agg #[.int .i64 1, .bool true, .int .i64 1]) (by rfl) (by rfl) [7] (by kernel_rfl) (fun f W' hF h0 h1 => ?_) ?_
  · obtain ⟨rfl, h2⟩ := FL.step (i := 1) rfl (by decide) hF h0 (FL.prev rfl (h1 7 (by simp))) (by omega)
    refine ⟨_, ?_, h2⟩
    have := e1 3; have := e1 4; have := e1 5
    simp [go_sem, d0, d1, d2, e1]
    rfl
  simp only [Act.put, List.setIfInBounds_toArray, List.set_cons_zero, List.set_cons_succ]
  show ∀ w', _ → _
  intro w' hw'
  obtain rfl := FL.done hw'
  clear ca AA hw' c0 c1 c2 d0 d1 d2 e1 fz hix0 hix1
  have hW : wsE W p5 ([7, 9] : List Nat).length = wsE W p5 2 := rfl
  rw [hW]
  generalize wsE W p5 2 = V at HF3 HX ⊢
  obtain ⟨g2, g1, B⟩ := HX.out
  have c_2 := g2.cell; have c_1 := g1.cell; have f_1 := g1.free
  go_wp2
  refine bodyPost_ret (v := .agg #[.slice (some ⟨wa1.heap.size + 1, 0, none⟩) 1 1, .slice (some ⟨wa1.heap.size + 1 + 1 + 1 + 1, 0, none⟩) 2 2, .slice (some ⟨p5, 0, none⟩) 16 16]) (by simp [results, Try.results37, go_sem, c_1, f_1]) rfl ⟨_, _, _, rfl, OwnM.set3 HF3.out g1, ?_⟩
  exact ((B.setCell (p := ⟨w.heap.size, 0, none⟩) (Nat.le_refl _) _).setCell (p := ⟨w.heap.size, 1, none⟩) (Nat.le_refl _) _).setCell (p := ⟨w.heap.size, 2, none⟩) (Nat.le_refl _) _
end Go.Proofs.Ytgjpohhafmkhcaa
namespace Go.Proofs.Ytgjpohhafmkhcaa
open Go.RowKit L02 L13 L18 L20
set_option maxRecDepth 100000 in
set_option maxHeartbeats 8000000 in
theorem Drop20_own (tv ov sv : Value) (m : Mo) (sl g : Int) (M : Mo) (r : Int) (hM : M = dropM m sl g) (hr : r = asked m sl g) (ha : asked m sl g = 0) (w : World) (h : Mod w tv ov sv m) :
    Calls Try.prog 28 #[.agg #[tv, ov, sv], .agg #[.int .i64 sl, .int .i64 g]] w fun e w' => ∃ t' o' s', e = .returned (.tuple #[.agg #[t', o', s'], .int .i64 0]) ∧ OwnM w' w.heap.size 67 t' o' s' M ∧ Below w.heap.size w w' := by
  have B : Below w.heap.size w w := Below.refl _ _
  have H := Lib.hid h
  obtain ⟨c0, hr0, k, s, n', o, t, hk, hk16, hs, hu, hg, hso, hat, hown, _⟩ := asked_ok ha
  have OT := Lib.hid (fun w h => open20_ok tv ov sv m sl g n' ha hown w h)
  obtain ⟨_, _, h16, _⟩ := chk_ok c0
  have hr1 : r = 0 := by rw [hr, ha]
  have hM1 : M = ⟨m.types, m.objs, m.slots.set k ⟨g, false, 0⟩⟩ := by rw [hM, dropM, if_pos ha, hk, Int.toNat_natCast]
  subst hk
  subst hr1; subst hM1
  have HS := Lib.hid hs; have H16 := Lib.hid h16
  clear hr hM ha c0 hr0 hu hso hat hown h hs h16
  go_enter Try.func28, Try.ntmps28
  go_upto_region 1 with (fail)
  refine wp_gen (fun Wv => Bx Wv (w.heap.size) (26) (#[tv, ov, sv]) ∧ Bx Wv (w.heap.size + 1) (28) (#[.int .i64 k, .int .i64 g]) ∧ Bx Wv (w.heap.size + 1 + 1) (26) (#[.slice none 0 0, .slice none 0 0, .slice none 0 0]) ∧ Below w.heap.size w Wv) ⟨((((Bx.at_ (by simp)).alloc _).alloc _)), (((Bx.at_ (by simp)).alloc _)), ((Bx.at_ (by simp))), ((((Below.refl _ w).alloc (by simp <;> omega) _).alloc (by simp <;> omega) _).alloc (by simp <;> omega) _)⟩ ?_
  rintro wa1 ⟨g1, g2, g3, b⟩
  replace B := B.trans (b.mono B.size); clear b
  have c_g1 := g1.cell; have f_g1 := g1.free; have a_g1 := fun o => (g1.alloc o).cell; have d_g1 := fun o o2 => ((g1.alloc o).alloc o2).cell; have e_g1 := fun o => (g1.alloc o).free
  have c_g2 := g2.cell; have f_g2 := g2.free; have a_g2 := fun o => (g2.alloc o).cell; have d_g2 := fun o o2 => ((g2.alloc o).alloc o2).cell; have e_g2 := fun o => (g2.alloc o).free
  have c_g3 := g3.cell; have f_g3 := g3.free; have a_g3 := fun o => (g3.alloc o).cell; have d_g3 := fun o o2 => ((g3.alloc o).alloc o2).cell; have e_g3 := fun o => (g3.alloc o).free
  have hz1 := B.size; have hp1 := g3.lt
  go_wp2_with fail
  refine (OT.out _ (H.out.below B)).mono ?_
  rintro e wa2 ⟨t', o', s', rfl, om, b⟩
  try clear c_g1 f_g1 a_g1 d_g1 e_g1
  replace g1 := g1.below b; have c_g1 := g1.cell; have f_g1 := g1.free; have a_g1 := fun o => (g1.alloc o).cell; have d_g1 := fun o o2 => ((g1.alloc o).alloc o2).cell; have e_g1 := fun o => (g1.alloc o).free; try clear c_g2 f_g2 a_g2 d_g2 e_g2
  replace g2 := g2.below b; have c_g2 := g2.cell; have f_g2 := g2.free; have a_g2 := fun o => (g2.alloc o).cell; have d_g2 := fun o o2 => ((g2.alloc o).alloc o2).cell; have e_g2 := fun o => (g2.alloc o).free; try clear c_g3 f_g3 a_g3 d_g3 e_g3
  replace g3 := g3.below b; have c_g3 := g3.cell; have f_g3 := g3.free; have a_g3 := fun o => (g3.alloc o).cell; have d_g3 := fun o o2 => ((g3.alloc o).alloc o2).cell; have e_g3 := fun o => (g3.alloc o).free; replace B := B.trans (b.mono B.size); clear b
  obtain ⟨⟨tA, tn, tc, rfl⟩, ⟨oA, on, oc, rfl⟩, _⟩ := om.forms
  obtain ⟨gS, sc, rfl⟩ : ∃ g c, s' = .slice (some ⟨g, 0, none⟩) 16 c := by obtain ⟨g, n, c, e, e2⟩ := om.s.form (by have := H16.out; omega); rw [e2, H16.out] at e; exact ⟨g, c, e⟩
  have hgS := om.s.lt gS rfl
  go_upto_region 2 with (fail)
  refine wp_gen (fun Wv => Bx Wv (wa2.heap.size) (26) (#[.slice tA tn tc, .slice oA on oc, .slice (some ⟨gS, 0, none⟩) 16 sc]) ∧ Below wa2.heap.size wa2 Wv) ⟨((Bx.at_ (by simp))), ((Below.refl _ wa2).alloc (by simp <;> omega) _)⟩ ?_
  rintro wa3 ⟨g4, b⟩
  try clear c_g1 f_g1 a_g1 d_g1 e_g1
  replace g1 := g1.below b; have c_g1 := g1.cell; have f_g1 := g1.free; have a_g1 := fun o => (g1.alloc o).cell; have d_g1 := fun o o2 => ((g1.alloc o).alloc o2).cell; have e_g1 := fun o => (g1.alloc o).free; try clear c_g2 f_g2 a_g2 d_g2 e_g2
  replace g2 := g2.below b; have c_g2 := g2.cell; have f_g2 := g2.free; have a_g2 := fun o => (g2.alloc o).cell; have d_g2 := fun o o2 => ((g2.alloc o).alloc o2).cell; have e_g2 := fun o => (g2.alloc o).free; try clear c_g3 f_g3 a_g3 d_g3 e_g3
  replace g3 := g3.below b; have c_g3 := g3.cell; have f_g3 := g3.free; have a_g3 := fun o => (g3.alloc o).cell; have d_g3 := fun o o2 => ((g3.alloc o).alloc o2).cell; have e_g3 := fun o => (g3.alloc o).free; replace om := om.below b; replace B := B.trans (b.mono B.size); clear b
  have c_g4 := g4.cell; have f_g4 := g4.free; have a_g4 := fun o => (g4.alloc o).cell; have d_g4 := fun o o2 => ((g4.alloc o).alloc o2).cell; have e_g4 := fun o => (g4.alloc o).free
  have HP := Lib.hid (OwnS.put3 (k := k) om.s (by have := H16.out; omega) ⟨g, false, 0⟩)
  obtain ⟨ix, p0, p1, p2⟩ := OwnS.cells om.s HS.out
  have fz := HP.out.2.2.2.2
  have hM3 := OwnM.slots om HP.out.2.1 HP.out.1
  have nx := fun {q : Nat} {tq : TypeId} {cs : Array Value} (hb : Bx wa3 q tq cs) (hne : gS ≠ q) => hb.grown HP.out.2.1 (.inr (fun e => hne (by injection e)))
  have r3 := nx g3 (by omega); have r4 := nx g4 (by omega)
  have hb3 := B.grown HP.out.2.1 B.size (fun k hk => by injection hk with hk; rw [← hk]; have := HP.out.2.2.1; omega)
  have HH := Lib.hid (And.intro hM3 (And.intro r3 (And.intro r4 hb3)))
  clear nx r3 r4 hb3 hM3
  go_upto_region 5 with (fail)
  refine wp_gen (fun Wv => OwnM Wv wa1.heap.size 67 (.slice tA tn tc) (.slice oA on oc) (.slice (some ⟨gS, 0, none⟩) 16 sc) ⟨m.types, m.objs, m.slots.set k ⟨g, false, 0⟩⟩ ∧ Bx Wv (w.heap.size + 1 + 1) 26 #[.slice none 0 0, .slice none 0 0, .slice none 0 0] ∧ Bx Wv wa2.heap.size 26 #[.slice tA tn tc, .slice oA on oc, .slice (some ⟨gS, 0, none⟩) 16 sc] ∧ Below w.heap.size w Wv) HH.out ?_
  rintro wz ⟨om2, r3, r4, B2⟩
  clear HH om g1 g2 g3 g4 B p0 p1 p2 fz ix HP c_g1 f_g1 a_g1 d_g1 e_g1 c_g2 f_g2 a_g2 d_g2 e_g2 c_g3 f_g3 a_g3 d_g3 e_g3 c_g4 f_g4 a_g4 d_g4 e_g4
  have c3 := r3.cell; have f3 := r3.free; have c4 := r4.cell
  go_wp2
  refine bodyPost_ret (v := .tuple #[.agg #[.slice tA tn tc, .slice oA on oc, .slice (some ⟨gS, 0, none⟩) 16 sc], .int .i64 0]) (by simp [results, Try.results28, go_sem, c3, f3]) rfl ?_
  refine ⟨_, _, _, rfl, (OwnM.set3 om2 r3).mono hz1, ?_⟩
  exact ((B2.setCell (p := ⟨w.heap.size + 1 + 1, 0, none⟩) (by simp; omega) _).setCell (p := ⟨w.heap.size + 1 + 1, 1, none⟩) (by simp; omega) _).setCell (p := ⟨w.heap.size + 1 + 1, 2, none⟩) (by simp; omega) _
end Go.Proofs.Ytgjpohhafmkhcaa
namespace Go.Proofs.Ytgjpohhafmkhcaa
open Go.RowKit L02 L13 L18 L20
/-- what is fresh in the region of the second Drop -/
structure GA where
  a1 : Option Addr
  n1 : Nat
  c1 : Nat
  a2 : Option Addr
  n2 : Nat
  c2 : Nat
  a3 : Option Addr
  n3 : Nat
  c3 : Nat
  p : Nat
def GA.m (g : GA) : Value × Value × Value := (.slice g.a1 g.n1 g.c1, .slice g.a2 g.n2 g.c2, .slice g.a3 g.n3 g.c3)
def valA (g : GA) (k : Nat) : Value := if k = 1 then .agg #[.int .i64 0, .int .i64 1] else if k = 2 then .tuple #[.agg #[.slice g.a1 g.n1 g.c1, .slice g.a2 g.n2 g.c2, .slice g.a3 g.n3 g.c3], .int .i64 0] else .pointer (some ⟨g.p, 0, none⟩)
def AgA (φ : Nat → Bool) (g g' : GA) : Prop := (φ 2 = true → g.m = g'.m) ∧ (φ 6 = true → g.p = g'.p)
def FA (w : World) (z : Nat) (g : GA) (φ : Nat → Bool) (W : World) : Prop :=
  (Below w.heap.size w W ∧ z ≤ W.heap.size) ∧ (φ 2 = true → OwnM W z 67 g.m.1 g.m.2.1 g.m.2.2 exN) ∧ (φ 7 = true → φ 6 = true ∧ φ 2 = true) ∧ (φ 6 = true → z ≤ g.p ∧ Bx W g.p 26 (if φ 7 = true then #[g.m.1, g.m.2.1, g.m.2.2] else #[.slice none 0 0, .slice none 0 0, .slice none 0 0]))
theorem FA.dep {w : World} {z : Nat} {g : GA} : Dep (FA w z g) [1, 2, 6, 7] := by
  rintro φ ψ W h ⟨h1, h2, h3, h4⟩
  have e2 := h 2 (by simp); have e6 := h 6 (by simp); have e7 := h 7 (by simp)
  rw [e2] at h2; rw [e7, e6, e2] at h3; rw [e6, e7] at h4
  exact ⟨h1, h2, h3, h4⟩
theorem FA.agree {w : World} {z : Nat} {g g' : GA} {φ : Nat → Bool} {W : World} (hA : AgA φ g g') (h : FA w z g φ W) : FA w z g' φ W := by
  obtain ⟨h1, h2, h3, h4⟩ := h
  refine ⟨h1, fun e => by rw [← hA.1 e]; exact h2 e, h3, fun e => ?_⟩
  rw [← hA.2 e]
  refine ⟨(h4 e).1, ?_⟩
  have := (h4 e).2
  cases h7 : φ 7
  · rw [h7] at this; exact this
  · rw [h7] at this; rw [← hA.1 (h3 h7).2]; exact this
def TA (av : Array Value) (k : Nat) (s : Sem Next) : Prop := if k = 1 then (∀ W, s.run Try.prog W = .ok (.enter 38 #[.int .i64 0]) W) else if k = 2 then (∀ W, s.run Try.prog W = .ok (.enter 28 av) W) else ∀ W, s.run Try.prog W = .ok (.value (.pointer (some ⟨W.heap.size, 0, none⟩))) (W.alloc (.cells #[.slice none 0 0, .slice none 0 0, .slice none 0 0] 26))
set_option maxRecDepth 100000 in
set_option maxHeartbeats 8000000 in
theorem alive20_any (w : World) : Calls Try.prog 20 #[] w fun e w' => e = .returned (.bool true) ∧ Below w.heap.size w w' := by
  have B : Below w.heap.size w w := Below.refl _ _
  have FRE := Lib.hid (fun t o s w h => Free20_any t o s exM 1 1 _ 45 rfl ex_free.symm w h)
  have DA := Lib.hid (fun t o s w h => Drop20_any t o s exM 1 1 exD 0 ex_d1.symm ex_a1.symm w h)
  have DB := Lib.hid (fun t o s w h => Drop20_own t o s exD 0 1 exN 0 ex_d2.symm ex_a2.symm ex_a2 w h)
  have CA := Lib.hid (fun t o s w h => Canon20_any t o s exD exD_chk _ exD_rs w h)
  have CB := Lib.hid (fun t o s w h => Canon20_any t o s exN exN_chk _ exN_rs w h)
  go_enter Try.func20, Try.ntmps20
  go_wp2_with fail
  refine (example20_any _).mono ?_
  rintro e wa1 ⟨t1, o1, s1, rfl, k1, b⟩
  replace B := B.trans (b.mono B.size); clear b
  go_wp2_with fail
  refine (slot20_any 1 _).mono ?_
  rintro e wa2 ⟨rfl, b⟩
  replace k1 := k1.below b; replace B := B.trans (b.mono B.size); clear b
  go_wp2_with fail
  refine (FRE.out _ _ _ _ k1.rd).mono ?_
  rintro e wa3 ⟨t2, o2, s2, rfl, k2, b⟩
  replace k1 := k1.below b; replace B := B.trans (b.mono B.size); clear b
  obtain ⟨⟨t2A, t2n, t2c, rfl⟩, ⟨o2A, o2n, o2c, rfl⟩, ⟨s2A, s2n, s2c, rfl⟩⟩ := k2.forms
  clear k1
  go_upto_region 2 with (fail)
  refine wp_gen (fun Wv => Bx Wv (wa3.heap.size) (26) (#[.slice t2A t2n t2c, .slice o2A o2n o2c, .slice s2A s2n s2c]) ∧ Below wa3.heap.size wa3 Wv) ⟨((Bx.at_ (by simp))), ((Below.refl _ wa3).alloc (by simp <;> omega) _)⟩ ?_
  rintro wa4 ⟨g1, b⟩
  replace B := B.trans (b.mono B.size); clear b
  have c_g1 := g1.cell; have f_g1 := g1.free; have a_g1 := fun o => (g1.alloc o).cell; have d_g1 := fun o o2 => ((g1.alloc o).alloc o2).cell; have e_g1 := fun o => (g1.alloc o).free
  clear g1 c_g1 f_g1 a_g1 d_g1 e_g1
  go_wp2_with fail
  refine (example20_any _).mono ?_
  rintro e wa5 ⟨t3, o3, s3, rfl, k3, b⟩
  replace B := B.trans (b.mono B.size); clear b
  go_wp2_with fail
  refine (slot20_any 1 _).mono ?_
  rintro e wa6 ⟨rfl, b⟩
  replace k3 := k3.below b; replace B := B.trans (b.mono B.size); clear b
  go_wp2_with fail
  refine (DA.out _ _ _ _ k3.rd).mono ?_
  rintro e wa7 ⟨t4, o4, s4, rfl, k4, b⟩
  replace k3 := k3.below b; replace B := B.trans (b.mono B.size); clear b
  obtain ⟨⟨t4A, t4n, t4c, rfl⟩, ⟨o4A, o4n, o4c, rfl⟩, ⟨s4A, s4n, s4c, rfl⟩⟩ := k4.forms
  clear k3
  go_upto_region 3 with (fail)
  refine wp_gen (fun Wv => Bx Wv (wa7.heap.size) (26) (#[.slice t4A t4n t4c, .slice o4A o4n o4c, .slice s4A s4n s4c]) ∧ Below wa7.heap.size wa7 Wv) ⟨((Bx.at_ (by simp))), ((Below.refl _ wa7).alloc (by simp <;> omega) _)⟩ ?_
  rintro wa8 ⟨g2, b⟩
  replace k4 := k4.below b; replace B := B.trans (b.mono B.size); clear b
  have c_g2 := g2.cell; have f_g2 := g2.free; have a_g2 := fun o => (g2.alloc o).cell; have d_g2 := fun o o2 => ((g2.alloc o).alloc o2).cell; have e_g2 := fun o => (g2.alloc o).free
  go_wp2_with fail
  refine (CA.out _ _ _ _ k4).mono ?_
  rintro e wa9 ⟨t5, o5, s5, rfl, k5, b⟩
  replace k4 := k4.below b; try clear c_g2 f_g2 a_g2 d_g2 e_g2
  replace g2 := g2.below b; have c_g2 := g2.cell; have f_g2 := g2.free; have a_g2 := fun o => (g2.alloc o).cell; have d_g2 := fun o o2 => ((g2.alloc o).alloc o2).cell; have e_g2 := fun o => (g2.alloc o).free; replace B := B.trans (b.mono B.size); clear b
  have l5 := k5.o.len
  rw [exD_len] at l5
  obtain ⟨⟨t5A, t5n, t5c, rfl⟩, ⟨o5A, o5n, o5c, rfl⟩, ⟨s5A, s5n, s5c, rfl⟩⟩ := k5.forms
  clear k5
  go_upto_region 4 with (fail)
  refine wp_gen (fun Wv => Bx Wv (wa9.heap.size) (26) (#[.slice t5A t5n t5c, .slice o5A o5n o5c, .slice s5A s5n s5c]) ∧ Below wa9.heap.size wa9 Wv) ⟨((Bx.at_ (by simp))), ((Below.refl _ wa9).alloc (by simp <;> omega) _)⟩ ?_
  rintro wa10 ⟨g3, b⟩
  replace k4 := k4.below b; try clear c_g2 f_g2 a_g2 d_g2 e_g2
  replace g2 := g2.below b; have c_g2 := g2.cell; have f_g2 := g2.free; have a_g2 := fun o => (g2.alloc o).cell; have d_g2 := fun o o2 => ((g2.alloc o).alloc o2).cell; have e_g2 := fun o => (g2.alloc o).free; replace B := B.trans (b.mono B.size); clear b
  have c_g3 := g3.cell; have f_g3 := g3.free; have a_g3 := fun o => (g3.alloc o).cell; have d_g3 := fun o o2 => ((g3.alloc o).alloc o2).cell; have e_g3 := fun o => (g3.alloc o).free
  have hz1 := B.size
  have h2 := g2.lt; have h3 := g3.lt
  refine wp_region_M (G := GA) valA AgA (FA wa10 wa10.heap.size) [1, 2, 6, 7] [1, 2, 6] (fun _ => []) (TA #[.agg #[.slice t4A t4n t4c, .slice o4A o4n o4c, .slice s4A s4n s4c], .agg #[.int .i64 0, .int .i64 1]]) ⟨none, 0, 0, none, 0, 0, none, 0, 0, 0⟩ (fun g => FA.dep) (by kernel_rfl) (by kernel_rfl) (by kernel_rfl) (by kernel_rfl)
    (fun φ ψ g g' he h => ⟨fun e => h.1 (by rw [he 2 (by simp)]; exact e), fun e => h.2 (by rw [he 6 (by simp)]; exact e)⟩) (fun φ g => ⟨fun _ => rfl, fun _ => rfl⟩) (fun φ g g' g'' h1 h2 => ⟨fun e => (h1.1 e).trans (h2.1 e), fun e => (h1.2 e).trans (h2.2 e)⟩) (fun φ k g g' h hk => ⟨fun e => h.1 (by simp [e]), fun e => h.2 (by simp [e])⟩) ?_ (fun φ g g' W h hF => FA.agree h hF) (fun g => ⟨fun e => (by cases e), fun e => (by cases e)⟩) ⟨⟨(Below.refl _ wa10).drew, Nat.le_refl _⟩, fun e => (by cases e), fun e => (by cases e), fun e => (by cases e)⟩ ?_ ?_
  · intro φ k g g' hk h0 hA
    simp only [List.mem_cons, List.not_mem_nil, or_false] at hk
    rcases hk with rfl | rfl | rfl
    · rfl
    · have e := hA.1 (by simp)
      simp only [GA.m, Prod.mk.injEq] at e
      simp [valA, e.1, e.2.1, e.2.2]
    · have e := hA.2 (by simp)
      simp [valA, e]
  · intro k s φ W g hk hT h0 _ hF
    simp only [List.mem_cons, List.not_mem_nil, or_false] at hk
    obtain ⟨⟨f0, fz⟩, f1, f2, f3⟩ := hF
    have h7 : k = 2 ∨ k = 6 → φ 7 = false := fun h => by
      cases e : φ 7
      · rfl
      · obtain ⟨x1, x2⟩ := f2 e
        rcases h with rfl | rfl
        · rw [h0] at x2; cases x2
        · rw [h0] at x1; cases x1
    rcases hk with rfl | rfl | rfl
    · have hT' : ∀ W, s.run Try.prog W = .ok (.enter 38 #[.int .i64 0]) W := hT
      rw [hT' W]
      refine (slot20_any 0 W).mono ?_
      rintro e W' ⟨rfl, bb⟩
      refine ⟨_, rfl, g, ⟨fun _ => rfl, fun _ => rfl⟩, rfl, ⟨f0.trans (bb.mono f0.size), Nat.le_trans fz bb.size⟩, fun e => (f1 (by simpa using e)).below bb, by simpa using f2, fun e => ?_⟩
      obtain ⟨x1, x2⟩ := f3 (by simpa using e)
      exact ⟨x1, by simpa using x2.below bb⟩
    · have hT' : ∀ W, s.run Try.prog W = .ok (.enter 28 #[.agg #[.slice t4A t4n t4c, .slice o4A o4n o4c, .slice s4A s4n s4c], .agg #[.int .i64 0, .int .i64 1]]) W := hT
      rw [hT' W]
      refine (DB.out _ _ _ W (k4.below f0)).mono ?_
      rintro e W' ⟨t', o', s', rfl, om, bb⟩
      obtain ⟨⟨tA, tn, tc, rfl⟩, ⟨oA, on, oc, rfl⟩, ⟨sA, sn, sc, rfl⟩⟩ := om.rd.forms
      refine ⟨_, rfl, ⟨tA, tn, tc, oA, on, oc, sA, sn, sc, g.p⟩, ⟨fun e => (by rw [h0] at e; cases e), fun _ => rfl⟩, rfl, ⟨f0.trans (bb.mono f0.size), Nat.le_trans fz bb.size⟩, fun e => om.mono fz, by simp [h7 (.inl rfl)], fun e => ?_⟩
      obtain ⟨x1, x2⟩ := f3 (by simpa using e)
      have h77 := h7 (.inl rfl)
      rw [h77] at x2
      refine ⟨x1, ?_⟩
      have : (2 == 7 || φ 7) = false := by rw [h77]; rfl
      simp only [h77]
      exact x2.below bb
    · have hT' : ∀ W, s.run Try.prog W = .ok (.value (.pointer (some ⟨W.heap.size, 0, none⟩))) (W.alloc (.cells #[.slice none 0 0, .slice none 0 0, .slice none 0 0] 26)) := hT
      rw [hT' W]
      have bb : Below W.heap.size W (W.alloc (.cells #[.slice none 0 0, .slice none 0 0, .slice none 0 0] 26)) := (Below.refl _ _).alloc (Nat.le_refl _) _
      refine ⟨⟨g.a1, g.n1, g.c1, g.a2, g.n2, g.c2, g.a3, g.n3, g.c3, W.heap.size⟩, ⟨fun _ => rfl, fun e => (by rw [h0] at e; cases e)⟩, rfl, ⟨f0.trans (bb.mono f0.size), Nat.le_trans fz bb.size⟩, fun e => (f1 (by simpa using e)).below bb, fun e => ?_, fun e => ⟨fz, ?_⟩⟩
      · have h77 := h7 (.inr rfl)
        simp [h77] at e
      · have h77 := h7 (.inr rfl)
        simp only [h77]
        exact Bx.new _ _ _
  intro g
  have c_2 := fun x : FXN (FA wa10 wa10.heap.size g) => (by obtain ⟨V, φ, hF⟩ := x; exact (g2.below hF.1.1).cell : ∀ i, x.W.cell? ⟨wa7.heap.size, i, none⟩ = (#[.slice t4A t4n t4c, .slice o4A o4n o4c, .slice s4A s4n s4c] : Array Value)[i]?)
  haveI : Nonempty (FXN (FA wa10 wa10.heap.size g)) := ⟨⟨wa10.drew, fun _ => false, ⟨⟨(Below.refl _ wa10).drew, Nat.le_refl _⟩, fun e => (by cases e), fun e => (by cases e), fun e => (by cases e)⟩⟩⟩
  iterate 1 (refine wpM_read FA.dep rfl (by decide) (by decide) ?_; go_big_quiet_step (fail); refine wpQuiet_nil ?_)
  refine wpM_new (by decide) rfl (by show TA _ 1 _; unfold TA; rw [if_pos rfl]; intro W; simp [execOp, resolve, invoke, Act.eval, go_sem]) ?_
  simp only [Act.put, List.setIfInBounds_toArray, List.set_cons_zero, List.set_cons_succ]
  rw [show valA g 1 = .agg #[.int .i64 0, .int .i64 1] from rfl]
  refine wpM_new (by decide) rfl (by show TA _ 2 _; unfold TA; rw [if_neg (by decide), if_pos rfl]; intro W; simp [execOp, resolve, invoke, Act.eval, go_sem]) ?_
  simp only [Act.put, List.setIfInBounds_toArray, List.set_cons_zero, List.set_cons_succ]
  rw [show valA g 2 = .tuple #[.agg #[.slice g.a1 g.n1 g.c1, .slice g.a2 g.n2 g.c2, .slice g.a3 g.n3 g.c3], .int .i64 0] from rfl]
  iterate 3 (refine wpM_read FA.dep rfl (by decide) (by decide) ?_; go_big_quiet_step (fail); refine wpQuiet_nil ?_)
  refine wpM_new (by decide) rfl (by show TA _ 6 _; unfold TA; rw [if_neg (by decide), if_neg (by decide)]; intro W; simp [execOp, go_sem]) ?_
  simp only [Act.put, List.setIfInBounds_toArray, List.set_cons_zero, List.set_cons_succ]
  rw [show valA g 6 = .pointer (some ⟨g.p, 0, none⟩) from rfl]
  refine wpM_store FA.dep (by decide) rfl 26 (.tmp 7) (.tmp 32) rfl (by rfl) (p := .pointer (some ⟨g.p, 0, none⟩)) (u := .agg #[.slice g.a1 g.n1 g.c1, .slice g.a2 g.n2 g.c2, .slice g.a3 g.n3 g.c3]) (by rfl) (by rfl) [6, 2] (by kernel_rfl) (fun f W hF h0 h1 => ?_) ?_
  · have h6 := h1 6 (by simp); have h2 := h1 2 (by simp)
    obtain ⟨⟨f0, fz⟩, f1, f2, f3⟩ := hF
    obtain ⟨x1, x2⟩ := f3 h6
    rw [h0] at x2
    have x3 : Bx W g.p 26 #[.slice none 0 0, .slice none 0 0, .slice none 0 0] := x2
    have k0 := x3.cell; have kf := x3.free
    refine ⟨((W.setCell ⟨g.p, 0, none⟩ (.slice g.a1 g.n1 g.c1)).setCell ⟨g.p, 1, none⟩ (.slice g.a2 g.n2 g.c2)).setCell ⟨g.p, 2, none⟩ (.slice g.a3 g.n3 g.c3), by simp [go_sem, k0, kf], ⟨((f0.setCell (p := ⟨g.p, 0, none⟩) x1 _).setCell (p := ⟨g.p, 1, none⟩) x1 _).setCell (p := ⟨g.p, 2, none⟩) x1 _, by simpa [World.setCell] using fz⟩, fun _ => OwnM.set3 (f1 h2) x3, fun _ => ⟨by simp [h6], by simp [h2]⟩, fun _ => ⟨x1, ?_⟩⟩
    have := ((x3.set (i := 0) (.slice g.a1 g.n1 g.c1)).set (i := 1) (.slice g.a2 g.n2 g.c2)).set (i := 2) (.slice g.a3 g.n3 g.c3)
    simpa [GA.m] using this
  simp only [Act.put, List.setIfInBounds_toArray, List.set_cons_zero, List.set_cons_succ]
  refine wpM_read FA.dep rfl (by decide) (by decide) ?_; go_big_quiet_step (fail); refine wpQuiet_nil ?_
  refine wpM_nil ?_
  intro wy hF
  obtain ⟨⟨bW, _⟩, f1, f2, f3⟩ := hF
  have om0 := f1 rfl
  obtain ⟨x1, g40⟩ := f3 rfl
  have g4 : Bx wy g.p 26 #[.slice g.a1 g.n1 g.c1, .slice g.a2 g.n2 g.c2, .slice g.a3 g.n3 g.c3] := g40
  have om : OwnM wy wa10.heap.size 67 (.slice g.a1 g.n1 g.c1) (.slice g.a2 g.n2 g.c2) (.slice g.a3 g.n3 g.c3) exN := om0
  clear om0 g40
  replace B := B.trans (bW.mono hz1)
  replace g3 := g3.below bW
  have k6 := om.rd
  have l7 := k6.o.len
  rw [show exN.objs.length = 2 from rfl] at l7
  have c_g3 := g3.cell; have c_g4 := g4.cell
  generalize g.a1 = tA at *; generalize g.n1 = tn at *; generalize g.c1 = tc at *
  generalize g.a2 = oA at *; generalize g.n2 = on at *; generalize g.c2 = oc at *
  generalize g.a3 = sA at *; generalize g.n3 = sn at *; generalize g.c3 = sc at *
  generalize g.p = p7 at *
  clear x1 f1 f2 f3 bW hz1 h2 h3 om this c_2 k4 g2
  go_wp2_with fail
  have m5 : ∀ ty W, (Builtin.len_ #[23] ty #[.slice o5A o5n o5c]).run Try.prog W = .ok (.int .i64 2) W := l5
  have m7 : ∀ ty W, (Builtin.len_ #[23] ty #[.slice oA on oc]).run Try.prog W = .ok (.int .i64 2) W := l7
  clear l5 l7
  go_wp2_with fail
  refine (CB.out _ _ _ _ k6).mono ?_
  rintro e wa11 ⟨t8, o8, s8, rfl, k8, b⟩
  try clear c_g3 f_g3 a_g3 d_g3 e_g3
  replace g3 := g3.below b; have c_g3 := g3.cell; have f_g3 := g3.free; have a_g3 := fun o => (g3.alloc o).cell; have d_g3 := fun o o2 => ((g3.alloc o).alloc o2).cell; have e_g3 := fun o => (g3.alloc o).free; try clear c_g4 f_g4 a_g4 d_g4 e_g4
  replace g4 := g4.below b; have c_g4 := g4.cell; have f_g4 := g4.free; have a_g4 := fun o => (g4.alloc o).cell; have d_g4 := fun o o2 => ((g4.alloc o).alloc o2).cell; have e_g4 := fun o => (g4.alloc o).free; replace B := B.trans (b.mono B.size); clear b
  have l8 := k8.o.len
  rw [exN_len] at l8
  obtain ⟨⟨t8A, t8n, t8c, rfl⟩, ⟨o8A, o8n, o8c, rfl⟩, ⟨s8A, s8n, s8c, rfl⟩⟩ := k8.forms
  have m8 : ∀ ty W, (Builtin.len_ #[23] ty #[.slice o8A o8n o8c]).run Try.prog W = .ok (.int .i64 0) W := l8
  clear l8
  go_upto_region 6 with (fail)
  refine wp_gen (fun Wv => Bx Wv (wa11.heap.size) (26) (#[.slice t8A t8n t8c, .slice o8A o8n o8c, .slice s8A s8n s8c]) ∧ Below wa11.heap.size wa11 Wv) ⟨((Bx.at_ (by simp))), ((Below.refl _ wa11).alloc (by simp <;> omega) _)⟩ ?_
  rintro wa12 ⟨g5, b⟩
  try clear c_g3 f_g3 a_g3 d_g3 e_g3
  replace g3 := g3.below b; have c_g3 := g3.cell; have f_g3 := g3.free; have a_g3 := fun o => (g3.alloc o).cell; have d_g3 := fun o o2 => ((g3.alloc o).alloc o2).cell; have e_g3 := fun o => (g3.alloc o).free; try clear c_g4 f_g4 a_g4 d_g4 e_g4
  replace g4 := g4.below b; have c_g4 := g4.cell; have f_g4 := g4.free; have a_g4 := fun o => (g4.alloc o).cell; have d_g4 := fun o o2 => ((g4.alloc o).alloc o2).cell; have e_g4 := fun o => (g4.alloc o).free; replace k8 := k8.below b; replace B := B.trans (b.mono B.size); clear b
  have c_g5 := g5.cell; have f_g5 := g5.free; have a_g5 := fun o => (g5.alloc o).cell; have d_g5 := fun o o2 => ((g5.alloc o).alloc o2).cell; have e_g5 := fun o => (g5.alloc o).free
  go_wp2
  go_ret
  exact ⟨rfl, B⟩
end Go.Proofs.Ytgjpohhafmkhcaa
namespace Go.Proofs.Ytgjpohhafmkhcaa
open Go.RowKit L02 L13 L18 L20
theorem fit_any (tv ov sv : Value) (m : Mo) (b : Bool) (hb : b = decide (¬ Great m ∧ chk m = 0)) (w : World) (h : Mod w tv ov sv m) :
    Calls Try.prog 21 #[.agg #[tv, ov, sv]] w fun e w' => e = .returned (.bool b) ∧ Below w.heap.size w w' := by
  have B : Below w.heap.size w w := Below.refl _ _
  have H := Lib.hid h
  obtain ⟨z, hz⟩ : ∃ z, z = decide (Great m) := ⟨_, rfl⟩
  have GT := Lib.hid (fun w h => Great20_any tv ov sv m z hz w h)
  obtain ⟨c, hc⟩ : ∃ c, c = chk m := ⟨_, rfl⟩
  have CT := Lib.hid (fun w h => CheckR20_any tv ov sv m c hc w h)
  cases z
  · have hng : ¬ Great m := by rw [eq_comm, decide_eq_false_iff_not] at hz; exact hz
    have hb2 : b = decide (c = 0) := by rw [hb, hc]; simp [hng]
    clear hz hng hc hb h
    go_enter Try.func21, Try.ntmps21
    go_upto_region 1 with (fail)
    refine wp_gen (fun Wv => Bx Wv (w.heap.size) (26) (#[tv, ov, sv]) ∧ Below w.heap.size w Wv) ⟨((Bx.at_ (by simp))), ((Below.refl _ w).alloc (by simp <;> omega) _)⟩ ?_
    rintro wa1 ⟨g1, b⟩
    replace B := B.trans (b.mono B.size); clear b
    have c_g1 := g1.cell; have f_g1 := g1.free; have a_g1 := fun o => (g1.alloc o).cell; have d_g1 := fun o o2 => ((g1.alloc o).alloc o2).cell; have e_g1 := fun o => (g1.alloc o).free
    go_wp2_with fail
    refine (GT.out _ (H.out.below B)).mono ?_
    rintro e wa2 ⟨rfl, b⟩
    try clear c_g1 f_g1 a_g1 d_g1 e_g1
    replace g1 := g1.below b; have c_g1 := g1.cell; have f_g1 := g1.free; have a_g1 := fun o => (g1.alloc o).cell; have d_g1 := fun o o2 => ((g1.alloc o).alloc o2).cell; have e_g1 := fun o => (g1.alloc o).free; replace B := B.trans (b.mono B.size); clear b
    go_wp2_with fail
    refine (CT.out _ (H.out.below B)).mono ?_
    rintro e wa3 ⟨rfl, b⟩
    try clear c_g1 f_g1 a_g1 d_g1 e_g1
    replace g1 := g1.below b; have c_g1 := g1.cell; have f_g1 := g1.free; have a_g1 := fun o => (g1.alloc o).cell; have d_g1 := fun o o2 => ((g1.alloc o).alloc o2).cell; have e_g1 := fun o => (g1.alloc o).free; replace B := B.trans (b.mono B.size); clear b
    go_wp2
    go_ret
    rw [hb2]
    exact ⟨rfl, B⟩
  · have hg : Great m := by rw [eq_comm, decide_eq_true_iff] at hz; exact hz
    have hb2 : b = false := by rw [hb]; simp [hg]
    clear hz hg hc hb h
    go_enter Try.func21, Try.ntmps21
    go_upto_region 1 with (fail)
    refine wp_gen (fun Wv => Bx Wv (w.heap.size) (26) (#[tv, ov, sv]) ∧ Below w.heap.size w Wv) ⟨((Bx.at_ (by simp))), ((Below.refl _ w).alloc (by simp <;> omega) _)⟩ ?_
    rintro wa1 ⟨g1, b⟩
    replace B := B.trans (b.mono B.size); clear b
    have c_g1 := g1.cell; have f_g1 := g1.free; have a_g1 := fun o => (g1.alloc o).cell; have d_g1 := fun o o2 => ((g1.alloc o).alloc o2).cell; have e_g1 := fun o => (g1.alloc o).free
    go_wp2_with fail
    refine (GT.out _ (H.out.below B)).mono ?_
    rintro e wa2 ⟨rfl, b⟩
    try clear c_g1 f_g1 a_g1 d_g1 e_g1
    replace g1 := g1.below b; have c_g1 := g1.cell; have f_g1 := g1.free; have a_g1 := fun o => (g1.alloc o).cell; have d_g1 := fun o o2 => ((g1.alloc o).alloc o2).cell; have e_g1 := fun o => (g1.alloc o).free; replace B := B.trans (b.mono B.size); clear b
    go_wp2
    go_ret
    rw [hb2]
    exact ⟨rfl, B⟩
end Go.Proofs.Ytgjpohhafmkhcaa
