/- Contracts of the functions that the laws 'R' reach, part 20. No condition. -/
import Derived.Test.YtmbokdnndlnjkaaGreatMRs
set_option linter.unusedVariables false
set_option linter.unusedSimpArgs false
namespace Go.Proofs.YtmbokdnndlnjkaaGreat
open Go.RowKit L01 L02 L05 L06 L07 L13 L14 L15 L16 L18 L19
set_option maxRecDepth 100000 in
set_option maxHeartbeats 8000000 in
theorem BecomesR_any (v : Value) (L : List Hb) (i : Nat) (b : Hb) (hb : b = becomes L i) (hi : i < L.length) (hl : L.length ≤ 100000) (hs : ∀ c ∈ L, 0 ≤ c.size ∧ c.size ≤ 100000) (w : World) (h : Blks w v L) :
    Calls Tryz.prog 62 #[v, .int .i64 i] w fun e w' => e = .returned (.agg #[.int .i64 b.at_, .int .i64 b.size, .int .i64 b.kind, .int .i64 b.ty, .bool b.mark, .int .u64 b.next.toNat]) ∧ Below w.heap.size w w' := by
  have B : Below w.heap.size w w := Below.refl _ _
  have H := Lib.hid h
  have lx := h.len
  obtain ⟨N, hN⟩ : ∃ N, N = L.length := ⟨_, rfl⟩
  rw [← hN] at lx hi hl
  obtain ⟨bb, oo, x, ia, m0, m1, _, _, _, _, hx, _⟩ := h.at_ (k := i) (by rw [← hN]; exact hi)
  obtain ⟨xa, hxa⟩ : ∃ a, a = x.at_ := ⟨_, rfl⟩
  obtain ⟨xs, hxs⟩ : ∃ a, a = x.size := ⟨_, rfl⟩
  rw [← hxa] at m0
  rw [← hxs] at m1
  have hgx : L.getD i .none = x := by rw [List.getD_eq_getElem?_getD, hx.out]; rfl
  have hxz := hs x (List.mem_of_getElem? hx.out)
  rw [← hxs] at hxz
  have HS := Lib.hid hs; have HN := Lib.hid hN; have HGX := Lib.hid (And.intro hgx (And.intro hxa hxs)); have HBE := Lib.hid hb
  have wi1 : IntKind.i64.wrap ((i : Int) - 1) = (i : Int) - 1 := IntWalk.i64_in _ (by omega)
  have wi2 : IntKind.i64.wrap ((i : Int) + 1) = (i : Int) + 1 := IntWalk.i64_in _ (by omega)
  clear h hN hs hb hx hgx hxa hxs
  go_enter Tryz.func62, Tryz.ntmps62
  go_upto_region 1 with (fail)
  refine wp_gen (fun Wv => Bx Wv (w.heap.size) (82) (#[.int .i64 0, .int .i64 0, .int .i64 0, .int .i64 0, .bool false, .int .u64 0]) ∧ Below w.heap.size w Wv) ⟨((Bx.at_ (by simp))), ((Below.refl _ w).alloc (by simp <;> omega) _)⟩ ?_
  rintro wa1 ⟨g1, b⟩
  replace m0 := cell_later b m0; replace m1 := cell_later b m1; replace B := B.trans (b.mono B.size); clear b
  have c_g1 := g1.cell; have f_g1 := g1.free; have a_g1 := fun o => (g1.alloc o).cell; have d_g1 := fun o o2 => ((g1.alloc o).alloc o2).cell; have e_g1 := fun o => (g1.alloc o).free
  have hp1 := g1.lt; have hz1 := B.size
  clear a_g1 d_g1 e_g1 c_g1 f_g1
  have c_m0 := fun x : Fut _ => cell_later x.h m0
  have c_m1 := fun x : Fut _ => cell_later x.h m1
  refine wp_region_fblock 12 11 (fun p => .pointer (some ⟨p, 0, none⟩)) 82 (#[.int .i64 0, .int .i64 0, .int .i64 0, .int .i64 0, .bool false, .int .u64 0]) (mk_ptr) (by kernel_rfl) (by kernel_rfl) (by kernel_rfl) ?_
  intro gg p5 eq
  simp only [List.take_succ_cons, List.take_zero, List.drop_succ_cons, List.drop_zero]
  iterate 11 (refine wpH_read0 rfl rfl ?_; go_big_quiet_step (fail); refine wpQuiet_nil ?_)
  refine wpH_new rfl rfl (TS.block (Instr.alloc 82 true (.tuple #[])) rfl (fun W => by simp [go_sem])) ?_
  rw [eq]
  simp only [Act.put, List.setIfInBounds_toArray, List.set_cons_zero, List.set_cons_succ]
  refine wpH_nil ?_
  intro W1 bW g5 hp5
  have g1' := g1.below bW
  have B1 := B.trans (bW.mono hz1)
  have c_5 := g5.cell; have f_5 := g5.free
  have hpw : w.heap.size < p5 := by omega
  have HW := Lib.hid (And.intro g1' (And.intro g5 B1))
  clear c_m0 c_m1 g1 g1' g5 B B1 m0 m1 ia bW
  go_upto_region 2 with (fail)
  refine wp_gen (fun V => Bx V w.heap.size 82 #[.int .i64 0, .int .i64 0, .int .i64 0, .int .i64 0, .bool false, .int .u64 0] ∧ Bx V p5 82 #[.int .i64 xa, .int .i64 xs, .int .i64 2, .int .i64 0, .bool false, .int .u64 0] ∧ Below w.heap.size w V) ?_ ?_
  · obtain ⟨g1, g5, B⟩ := HW.out
    have far := fun {W : World} {k : Nat} {u : Value} {cs : Array Value} (hb : Bx W w.heap.size 82 cs) => hb.far (p := ⟨p5, k, none⟩) (by show w.heap.size ≠ p5; omega) u
    have set_ := fun {W : World} {k : Nat} {u : Value} (hb : Below w.heap.size w W) => hb.setCell (p := ⟨p5, k, none⟩) (by show w.heap.size ≤ p5; omega) u
    refine ⟨far (far (far (far (far (far g1))))), ?_, set_ (set_ (set_ (set_ (set_ (set_ B)))))⟩
    have := (((((g5.set (i := 0) (.int .i64 xa)).set (i := 1) (.int .i64 xs)).set (i := 2) (.int .i64 2)).set (i := 3) (.int .i64 0)).set (i := 4) (.bool false)).set (i := 5) (.int .u64 0)
    simpa using this
  clear HW c_5 f_5
  rintro V ⟨g1, g5, B⟩
  by_cases hj0 : 0 < i
  · obtain ⟨pb, po, px, ip, m2w, m3w, m4w, _, _, _, hpx, _⟩ := H.out.at_ (k := i - 1) (by rw [← HN.out]; omega)
    have ip2 : ∀ W, (Instr.indexAt 77 v (.int .i64 ((i : Int) - 1))).run Tryz.prog W = .ok (.pointer (some ⟨pb, po, none⟩)) W := fun W => by rw [show ((i : Int) - 1) = ((i - 1 : Nat) : Int) by omega]; exact ip W
    have gj0 : decide ((0 : Int) < (i : Int)) = true := decide_eq_true (by omega)
    have gj0' : decide (0 < i) = true := decide_eq_true hj0
    have hpz := HS.out px (List.mem_of_getElem? hpx.out)
    have hgp : L.getD (i - 1) .none = px := by rw [List.getD_eq_getElem?_getD, hpx.out]; rfl
    have hlf : lowF L i = decide (px.kind = 2) := by unfold lowF; rw [gj0', hgp]; rfl
    obtain ⟨pa, hpa⟩ : ∃ s, s = px.at_ := ⟨_, rfl⟩
    obtain ⟨ps, hps⟩ : ∃ s, s = px.size := ⟨_, rfl⟩
    rw [← hpa] at m2w
    rw [← hps] at m3w hpz
    have m2 := cell_later B m2w; have m3 := cell_later B m3w; have m4 := cell_later B m4w
    have HM3 := Lib.hid m3w
    clear m2w m3w m4w
    have HLF0 := Lib.hid hlf
    have HPX := Lib.hid (And.intro hgp (And.intro hpa hps))
    clear ip hpx hlf hgp hpa hps
    by_cases hk2 : px.kind = 2
    · have kp : (px.kind == 2) = true := by rw [beq_iff_eq]; exact hk2
      have hlf := HLF0.out
      rw [decide_eq_true hk2] at hlf
      have HLF := Lib.hid hlf
      have wp1 : IntKind.i64.wrap (xs + ps) = xs + ps := IntWalk.i64_in _ (by omega)
      clear hk2 hlf
      have c_5 := g5.cell; have f_5 := g5.free
      have HW := Lib.hid (And.intro g1 (And.intro g5 B))
      have hB0 := B.size
      have R2 := m2; have R3 := m3
      clear g1 g5 B
      go_upto_region 4 with (fail)
      refine wp_gen (fun V2 => Bx V2 w.heap.size 82 #[.int .i64 0, .int .i64 0, .int .i64 0, .int .i64 0, .bool false, .int .u64 0] ∧ Bx V2 p5 82 #[.int .i64 pa, .int .i64 xs, .int .i64 2, .int .i64 0, .bool false, .int .u64 0] ∧ Below w.heap.size w V2) ?_ ?_
      · obtain ⟨g1, g5, B⟩ := HW.out
        refine ⟨g1.far (p := ⟨p5, 0, none⟩) (by show w.heap.size ≠ p5; omega) _, ?_, B.setCell (p := ⟨p5, 0, none⟩) (by show w.heap.size ≤ p5; omega) _⟩
        have := g5.set (i := 0) (.int .i64 pa)
        simpa using this
      clear HW c_5 f_5 R2 R3 m2 m3 m4
      rintro V2 ⟨g1, g5, B⟩
      have m3 := cell_later B HM3.out
      have c_5 := g5.cell
      refine wp_region_qtail 10 (by kernel_rfl) (by kernel_rfl) ?_
      simp only [List.take_succ_cons, List.take_zero, List.drop_succ_cons, List.drop_zero]
      iterate 10 (go_big_quiet_step (fail))
      refine wpQuiet_nil ?_
      have f_5 := (show Bx V2.drew p5 _ _ from g5).free
      have HW := Lib.hid (And.intro g1 (And.intro g5 B))
      clear g1 g5 B
      go_upto_region 5 with (fail)
      refine wp_gen (fun V => Bx V w.heap.size 82 #[.int .i64 0, .int .i64 0, .int .i64 0, .int .i64 0, .bool false, .int .u64 0] ∧ Bx V p5 82 #[.int .i64 pa, .int .i64 (xs + ps), .int .i64 2, .int .i64 0, .bool false, .int .u64 0] ∧ Below w.heap.size w V) ?_ ?_
      · obtain ⟨g1, g5, B⟩ := HW.out
        have e5 : Bx (V2.setCell ⟨p5, 1, none⟩ (.int .i64 (xs + ps))) p5 82 #[.int .i64 pa, .int .i64 (xs + ps), .int .i64 2, .int .i64 0, .bool false, .int .u64 0] := by
          have := g5.set (i := 1) (.int .i64 (xs + ps))
          simpa using this
        exact ⟨g1.far (p := ⟨p5, 1, none⟩) (by show w.heap.size ≠ p5; omega) _, e5, (B.setCell (p := ⟨p5, 1, none⟩) (by show w.heap.size ≤ p5; omega) _).drew⟩
      clear HW c_5 f_5 m3
      rintro V ⟨g1, g5, B⟩
      by_cases hjn : i + 1 < N
      · obtain ⟨nb, no, nx, inn, _, m8w, m9w, _, _, _, hnx, _⟩ := H.out.at_ (k := i + 1) (by rw [← HN.out]; exact hjn)
        have m8 := cell_later B m8w; have m9 := cell_later B m9w
        clear m8w m9w
        have in2 : ∀ W, (Instr.indexAt 77 v (.int .i64 ((i : Int) + 1))).run Tryz.prog W = .ok (.pointer (some ⟨nb, no, none⟩)) W := inn
        have gn : decide ((i : Int) + 1 < (N : Int)) = true := decide_eq_true (by omega)
        have gn' : decide (i + 1 < N) = true := decide_eq_true hjn
        have hnz := HS.out nx (List.mem_of_getElem? hnx.out)
        have hgn : L.getD (i + 1) .none = nx := by rw [List.getD_eq_getElem?_getD, hnx.out]; rfl
        have hhf : highF L i = decide (nx.kind = 2) := by unfold highF; rw [hgn]
        obtain ⟨ns, hns⟩ : ∃ s, s = nx.size := ⟨_, rfl⟩
        rw [← hns] at m8 hnz
        have HHF := Lib.hid hhf; have HGN := Lib.hid (And.intro hgn hns)
        clear inn hnx hhf hgn hns
        by_cases hk3 : nx.kind = 2
        · have kn : (nx.kind == 2) = true := by rw [beq_iff_eq]; exact hk3
          have hhf := HHF.out
          rw [decide_eq_true hk3] at hhf
          have HH2 := Lib.hid hhf
          have wn : IntKind.i64.wrap ((xs + ps) + ns) = (xs + ps) + ns := IntWalk.i64_in _ (by omega)
          have wn2 : IntKind.i64.wrap ((xs + ps) + ns) = (xs + ps) + ns := wn
          clear hk3 hhf
          have c_5 := g5.cell
          go_upto_region 6 with (fail)
          refine wp_region_qtail 10 (by kernel_rfl) (by kernel_rfl) ?_
          simp only [List.take_succ_cons, List.take_zero, List.drop_succ_cons, List.drop_zero]
          iterate 10 (go_big_quiet_step (fail))
          refine wpQuiet_nil ?_
          have f_5 := (show Bx V.drew p5 _ _ from g5).free
          have HW := Lib.hid (And.intro g1 (And.intro g5 B))
          clear g1 g5 B
          go_upto_region 7 with (fail)
          refine wp_gen (fun V => Bx V w.heap.size 82 #[.int .i64 0, .int .i64 0, .int .i64 0, .int .i64 0, .bool false, .int .u64 0] ∧ Bx V p5 82 #[.int .i64 pa, .int .i64 ((xs + ps) + ns), .int .i64 2, .int .i64 0, .bool false, .int .u64 0] ∧ Below w.heap.size w V) ?_ ?_
          · obtain ⟨g1, g5, B⟩ := HW.out
            have e5 : Bx (V.setCell ⟨p5, 1, none⟩ (.int .i64 ((xs + ps) + ns))) p5 82 #[.int .i64 pa, .int .i64 ((xs + ps) + ns), .int .i64 2, .int .i64 0, .bool false, .int .u64 0] := by
              have := g5.set (i := 1) (.int .i64 ((xs + ps) + ns))
              simpa using this
            exact ⟨g1.far (p := ⟨p5, 1, none⟩) (by show w.heap.size ≠ p5; omega) _, e5, (B.setCell (p := ⟨p5, 1, none⟩) (by show w.heap.size ≤ p5; omega) _).drew⟩
          clear HW c_5 f_5 m8 m9
          rintro V2 ⟨g1, g5, B⟩
          have c_5 := g5.cell; have c_1 := g1.cell; have f_1 := g1.free
          have HG := Lib.hid B
          clear g5 g1 B
          go_wp2
          refine bodyPost_ret (v := .agg #[.int .i64 pa, .int .i64 ((xs + ps) + ns), .int .i64 2, .int .i64 0, .bool false, .int .u64 0]) (by simp [results, Tryz.results62, go_sem, c_1, f_1]) rfl ?_
          have B := HG.out
          refine ⟨?_, ?_⟩
          · rw [HBE.out]
            unfold becomes
            rw [HLF.out, HH2.out, HGN.out.1, ← HGN.out.2, HGX.out.1, ← HGX.out.2.1, ← HGX.out.2.2]
            rw [if_pos rfl, if_pos rfl, HPX.out.1, ← HPX.out.2.1, ← HPX.out.2.2]
            simp
          · skip
            (repeat (first | refine Below.setCell ?_ (by first | exact Nat.le_refl _ | (simp <;> omega)) _ | refine Below.alloc ?_ (by first | exact B.size | (have := B.size; simp <;> omega)) _)); exact B
        · have kn : (nx.kind == 2) = false := by rw [beq_eq_false_iff_ne]; exact hk3
          have hhf := HHF.out
          rw [decide_eq_false hk3] at hhf
          have HH2 := Lib.hid hhf
          clear hk3 hhf
          have c_5 := g5.cell; have c_1 := g1.cell; have f_1 := g1.free
          have HG := Lib.hid B
          clear g5 g1 B
          go_wp2
          refine bodyPost_ret (v := .agg #[.int .i64 pa, .int .i64 (xs + ps), .int .i64 2, .int .i64 0, .bool false, .int .u64 0]) (by simp [results, Tryz.results62, go_sem, c_1, f_1]) rfl ?_
          have B := HG.out
          refine ⟨?_, ?_⟩
          · rw [HBE.out]
            unfold becomes
            rw [HLF.out, HH2.out, HGX.out.1, ← HGX.out.2.1, ← HGX.out.2.2]
            rw [if_pos rfl, if_pos rfl, HPX.out.1, ← HPX.out.2.1, ← HPX.out.2.2]
            simp
          · skip
            (repeat (first | refine Below.setCell ?_ (by first | exact Nat.le_refl _ | (simp <;> omega)) _ | refine Below.alloc ?_ (by first | exact B.size | (have := B.size; simp <;> omega)) _)); exact B
      · have gn : decide ((i : Int) + 1 < (N : Int)) = false := decide_eq_false (by omega)
        have gn' : decide (i + 1 < N) = false := decide_eq_false hjn
        have hhf : highF L i = false := by
          unfold highF
          rw [List.getD_eq_getElem?_getD, List.getElem?_eq_none (by rw [← HN.out]; omega)]; rfl
        have HH2 := Lib.hid hhf
        clear hhf hjn
        have c_5 := g5.cell; have c_1 := g1.cell; have f_1 := g1.free
        have HG := Lib.hid B
        clear g5 g1 B
        go_wp2
        refine bodyPost_ret (v := .agg #[.int .i64 pa, .int .i64 (xs + ps), .int .i64 2, .int .i64 0, .bool false, .int .u64 0]) (by simp [results, Tryz.results62, go_sem, c_1, f_1]) rfl ?_
        have B := HG.out
        refine ⟨?_, ?_⟩
        · rw [HBE.out]
          unfold becomes
          rw [HLF.out, HH2.out, HGX.out.1, ← HGX.out.2.1, ← HGX.out.2.2]
          rw [if_pos rfl, if_pos rfl, HPX.out.1, ← HPX.out.2.1, ← HPX.out.2.2]
          simp
        · skip
          (repeat (first | refine Below.setCell ?_ (by first | exact Nat.le_refl _ | (simp <;> omega)) _ | refine Below.alloc ?_ (by first | exact B.size | (have := B.size; simp <;> omega)) _)); exact B
    · have kp : (px.kind == 2) = false := by rw [beq_eq_false_iff_ne]; exact hk2
      have hlf := HLF0.out
      rw [decide_eq_false hk2] at hlf
      have HLF := Lib.hid hlf
      clear hk2 hlf
      by_cases hjn : i + 1 < N
      · obtain ⟨nb, no, nx, inn, _, m8w, m9w, _, _, _, hnx, _⟩ := H.out.at_ (k := i + 1) (by rw [← HN.out]; exact hjn)
        have m8 := cell_later B m8w; have m9 := cell_later B m9w
        clear m8w m9w
        have in2 : ∀ W, (Instr.indexAt 77 v (.int .i64 ((i : Int) + 1))).run Tryz.prog W = .ok (.pointer (some ⟨nb, no, none⟩)) W := inn
        have gn : decide ((i : Int) + 1 < (N : Int)) = true := decide_eq_true (by omega)
        have gn' : decide (i + 1 < N) = true := decide_eq_true hjn
        have hnz := HS.out nx (List.mem_of_getElem? hnx.out)
        have hgn : L.getD (i + 1) .none = nx := by rw [List.getD_eq_getElem?_getD, hnx.out]; rfl
        have hhf : highF L i = decide (nx.kind = 2) := by unfold highF; rw [hgn]
        obtain ⟨ns, hns⟩ : ∃ s, s = nx.size := ⟨_, rfl⟩
        rw [← hns] at m8 hnz
        have HHF := Lib.hid hhf; have HGN := Lib.hid (And.intro hgn hns)
        clear inn hnx hhf hgn hns
        by_cases hk3 : nx.kind = 2
        · have kn : (nx.kind == 2) = true := by rw [beq_iff_eq]; exact hk3
          have hhf := HHF.out
          rw [decide_eq_true hk3] at hhf
          have HH2 := Lib.hid hhf
          have wn : IntKind.i64.wrap (xs + ns) = xs + ns := IntWalk.i64_in _ (by omega)
          have wn2 : IntKind.i64.wrap (xs + ns) = xs + ns := wn
          clear hk3 hhf
          have c_5 := g5.cell
          go_upto_region 6 with (fail)
          refine wp_region_qtail 10 (by kernel_rfl) (by kernel_rfl) ?_
          simp only [List.take_succ_cons, List.take_zero, List.drop_succ_cons, List.drop_zero]
          iterate 10 (go_big_quiet_step (fail))
          refine wpQuiet_nil ?_
          have f_5 := (show Bx V.drew p5 _ _ from g5).free
          have HW := Lib.hid (And.intro g1 (And.intro g5 B))
          clear g1 g5 B
          go_upto_region 7 with (fail)
          refine wp_gen (fun V => Bx V w.heap.size 82 #[.int .i64 0, .int .i64 0, .int .i64 0, .int .i64 0, .bool false, .int .u64 0] ∧ Bx V p5 82 #[.int .i64 xa, .int .i64 (xs + ns), .int .i64 2, .int .i64 0, .bool false, .int .u64 0] ∧ Below w.heap.size w V) ?_ ?_
          · obtain ⟨g1, g5, B⟩ := HW.out
            have e5 : Bx (V.setCell ⟨p5, 1, none⟩ (.int .i64 (xs + ns))) p5 82 #[.int .i64 xa, .int .i64 (xs + ns), .int .i64 2, .int .i64 0, .bool false, .int .u64 0] := by
              have := g5.set (i := 1) (.int .i64 (xs + ns))
              simpa using this
            exact ⟨g1.far (p := ⟨p5, 1, none⟩) (by show w.heap.size ≠ p5; omega) _, e5, (B.setCell (p := ⟨p5, 1, none⟩) (by show w.heap.size ≤ p5; omega) _).drew⟩
          clear HW c_5 f_5 m8 m9
          rintro V2 ⟨g1, g5, B⟩
          have c_5 := g5.cell; have c_1 := g1.cell; have f_1 := g1.free
          have HG := Lib.hid B
          clear g5 g1 B
          go_wp2
          refine bodyPost_ret (v := .agg #[.int .i64 xa, .int .i64 (xs + ns), .int .i64 2, .int .i64 0, .bool false, .int .u64 0]) (by simp [results, Tryz.results62, go_sem, c_1, f_1]) rfl ?_
          have B := HG.out
          refine ⟨?_, ?_⟩
          · rw [HBE.out]
            unfold becomes
            rw [HLF.out, HH2.out, HGN.out.1, ← HGN.out.2, HGX.out.1, ← HGX.out.2.1, ← HGX.out.2.2]
            simp
          · skip
            (repeat (first | refine Below.setCell ?_ (by first | exact Nat.le_refl _ | (simp <;> omega)) _ | refine Below.alloc ?_ (by first | exact B.size | (have := B.size; simp <;> omega)) _)); exact B
        · have kn : (nx.kind == 2) = false := by rw [beq_eq_false_iff_ne]; exact hk3
          have hhf := HHF.out
          rw [decide_eq_false hk3] at hhf
          have HH2 := Lib.hid hhf
          clear hk3 hhf
          have c_5 := g5.cell; have c_1 := g1.cell; have f_1 := g1.free
          have HG := Lib.hid B
          clear g5 g1 B
          go_wp2
          refine bodyPost_ret (v := .agg #[.int .i64 xa, .int .i64 xs, .int .i64 2, .int .i64 0, .bool false, .int .u64 0]) (by simp [results, Tryz.results62, go_sem, c_1, f_1]) rfl ?_
          have B := HG.out
          refine ⟨?_, ?_⟩
          · rw [HBE.out]
            unfold becomes
            rw [HLF.out, HH2.out, HGX.out.1, ← HGX.out.2.1, ← HGX.out.2.2]
            simp
          · skip
            (repeat (first | refine Below.setCell ?_ (by first | exact Nat.le_refl _ | (simp <;> omega)) _ | refine Below.alloc ?_ (by first | exact B.size | (have := B.size; simp <;> omega)) _)); exact B
      · have gn : decide ((i : Int) + 1 < (N : Int)) = false := decide_eq_false (by omega)
        have gn' : decide (i + 1 < N) = false := decide_eq_false hjn
        have hhf : highF L i = false := by
          unfold highF
          rw [List.getD_eq_getElem?_getD, List.getElem?_eq_none (by rw [← HN.out]; omega)]; rfl
        have HH2 := Lib.hid hhf
        clear hhf hjn
        have c_5 := g5.cell; have c_1 := g1.cell; have f_1 := g1.free
        have HG := Lib.hid B
        clear g5 g1 B
        go_wp2
        refine bodyPost_ret (v := .agg #[.int .i64 xa, .int .i64 xs, .int .i64 2, .int .i64 0, .bool false, .int .u64 0]) (by simp [results, Tryz.results62, go_sem, c_1, f_1]) rfl ?_
        have B := HG.out
        refine ⟨?_, ?_⟩
        · rw [HBE.out]
          unfold becomes
          rw [HLF.out, HH2.out, HGX.out.1, ← HGX.out.2.1, ← HGX.out.2.2]
          simp
        · skip
          (repeat (first | refine Below.setCell ?_ (by first | exact Nat.le_refl _ | (simp <;> omega)) _ | refine Below.alloc ?_ (by first | exact B.size | (have := B.size; simp <;> omega)) _)); exact B
  · have gj0 : decide ((0 : Int) < (i : Int)) = false := decide_eq_false (by omega)
    have gj0' : decide (0 < i) = false := decide_eq_false hj0
    have HLF := Lib.hid (show lowF L i = false by unfold lowF; rw [gj0']; rfl)
    have HPX := Lib.hid trivial
    by_cases hjn : i + 1 < N
    · obtain ⟨nb, no, nx, inn, _, m8w, m9w, _, _, _, hnx, _⟩ := H.out.at_ (k := i + 1) (by rw [← HN.out]; exact hjn)
      have m8 := cell_later B m8w; have m9 := cell_later B m9w
      clear m8w m9w
      have in2 : ∀ W, (Instr.indexAt 77 v (.int .i64 ((i : Int) + 1))).run Tryz.prog W = .ok (.pointer (some ⟨nb, no, none⟩)) W := inn
      have gn : decide ((i : Int) + 1 < (N : Int)) = true := decide_eq_true (by omega)
      have gn' : decide (i + 1 < N) = true := decide_eq_true hjn
      have hnz := HS.out nx (List.mem_of_getElem? hnx.out)
      have hgn : L.getD (i + 1) .none = nx := by rw [List.getD_eq_getElem?_getD, hnx.out]; rfl
      have hhf : highF L i = decide (nx.kind = 2) := by unfold highF; rw [hgn]
      obtain ⟨ns, hns⟩ : ∃ s, s = nx.size := ⟨_, rfl⟩
      rw [← hns] at m8 hnz
      have HHF := Lib.hid hhf; have HGN := Lib.hid (And.intro hgn hns)
      clear inn hnx hhf hgn hns
      by_cases hk3 : nx.kind = 2
      · have kn : (nx.kind == 2) = true := by rw [beq_iff_eq]; exact hk3
        have hhf := HHF.out
        rw [decide_eq_true hk3] at hhf
        have HH2 := Lib.hid hhf
        have wn : IntKind.i64.wrap (xs + ns) = xs + ns := IntWalk.i64_in _ (by omega)
        have wn2 : IntKind.i64.wrap (xs + ns) = xs + ns := wn
        clear hk3 hhf
        have c_5 := g5.cell
        go_upto_region 6 with (fail)
        refine wp_region_qtail 10 (by kernel_rfl) (by kernel_rfl) ?_
        simp only [List.take_succ_cons, List.take_zero, List.drop_succ_cons, List.drop_zero]
        iterate 10 (go_big_quiet_step (fail))
        refine wpQuiet_nil ?_
        have f_5 := (show Bx V.drew p5 _ _ from g5).free
        have HW := Lib.hid (And.intro g1 (And.intro g5 B))
        clear g1 g5 B
        go_upto_region 7 with (fail)
        refine wp_gen (fun V => Bx V w.heap.size 82 #[.int .i64 0, .int .i64 0, .int .i64 0, .int .i64 0, .bool false, .int .u64 0] ∧ Bx V p5 82 #[.int .i64 xa, .int .i64 (xs + ns), .int .i64 2, .int .i64 0, .bool false, .int .u64 0] ∧ Below w.heap.size w V) ?_ ?_
        · obtain ⟨g1, g5, B⟩ := HW.out
          have e5 : Bx (V.setCell ⟨p5, 1, none⟩ (.int .i64 (xs + ns))) p5 82 #[.int .i64 xa, .int .i64 (xs + ns), .int .i64 2, .int .i64 0, .bool false, .int .u64 0] := by
            have := g5.set (i := 1) (.int .i64 (xs + ns))
            simpa using this
          exact ⟨g1.far (p := ⟨p5, 1, none⟩) (by show w.heap.size ≠ p5; omega) _, e5, (B.setCell (p := ⟨p5, 1, none⟩) (by show w.heap.size ≤ p5; omega) _).drew⟩
        clear HW c_5 f_5 m8 m9
        rintro V2 ⟨g1, g5, B⟩
        have c_5 := g5.cell; have c_1 := g1.cell; have f_1 := g1.free
        have HG := Lib.hid B
        clear g5 g1 B
        go_wp2
        refine bodyPost_ret (v := .agg #[.int .i64 xa, .int .i64 (xs + ns), .int .i64 2, .int .i64 0, .bool false, .int .u64 0]) (by simp [results, Tryz.results62, go_sem, c_1, f_1]) rfl ?_
        have B := HG.out
        refine ⟨?_, ?_⟩
        · rw [HBE.out]
          unfold becomes
          rw [HLF.out, HH2.out, HGN.out.1, ← HGN.out.2, HGX.out.1, ← HGX.out.2.1, ← HGX.out.2.2]
          simp
        · skip
          (repeat (first | refine Below.setCell ?_ (by first | exact Nat.le_refl _ | (simp <;> omega)) _ | refine Below.alloc ?_ (by first | exact B.size | (have := B.size; simp <;> omega)) _)); exact B
      · have kn : (nx.kind == 2) = false := by rw [beq_eq_false_iff_ne]; exact hk3
        have hhf := HHF.out
        rw [decide_eq_false hk3] at hhf
        have HH2 := Lib.hid hhf
        clear hk3 hhf
        have c_5 := g5.cell; have c_1 := g1.cell; have f_1 := g1.free
        have HG := Lib.hid B
        clear g5 g1 B
        go_wp2
        refine bodyPost_ret (v := .agg #[.int .i64 xa, .int .i64 xs, .int .i64 2, .int .i64 0, .bool false, .int .u64 0]) (by simp [results, Tryz.results62, go_sem, c_1, f_1]) rfl ?_
        have B := HG.out
        refine ⟨?_, ?_⟩
        · rw [HBE.out]
          unfold becomes
          rw [HLF.out, HH2.out, HGX.out.1, ← HGX.out.2.1, ← HGX.out.2.2]
          simp
        · skip
          (repeat (first | refine Below.setCell ?_ (by first | exact Nat.le_refl _ | (simp <;> omega)) _ | refine Below.alloc ?_ (by first | exact B.size | (have := B.size; simp <;> omega)) _)); exact B
    · have gn : decide ((i : Int) + 1 < (N : Int)) = false := decide_eq_false (by omega)
      have gn' : decide (i + 1 < N) = false := decide_eq_false hjn
      have hhf : highF L i = false := by
        unfold highF
        rw [List.getD_eq_getElem?_getD, List.getElem?_eq_none (by rw [← HN.out]; omega)]; rfl
      have HH2 := Lib.hid hhf
      clear hhf hjn
      have c_5 := g5.cell; have c_1 := g1.cell; have f_1 := g1.free
      have HG := Lib.hid B
      clear g5 g1 B
      go_wp2
      refine bodyPost_ret (v := .agg #[.int .i64 xa, .int .i64 xs, .int .i64 2, .int .i64 0, .bool false, .int .u64 0]) (by simp [results, Tryz.results62, go_sem, c_1, f_1]) rfl ?_
      have B := HG.out
      refine ⟨?_, ?_⟩
      · rw [HBE.out]
        unfold becomes
        rw [HLF.out, HH2.out, HGX.out.1, ← HGX.out.2.1, ← HGX.out.2.2]
        simp
      · skip
        (repeat (first | refine Below.setCell ?_ (by first | exact Nat.le_refl _ | (simp <;> omega)) _ | refine Below.alloc ?_ (by first | exact B.size | (have := B.size; simp <;> omega)) _)); exact B
end Go.Proofs.YtmbokdnndlnjkaaGreat
namespace Go.Proofs.YtmbokdnndlnjkaaGreat
open Go.RowKit L02 L13 L18 L20
/-- objects of the call's own, of which number n has its fields in block gf -/
def OwnF (w : World) (base : Nat) (v : Value) (L : List Ob) (n gf : Nat) : Prop := ∃ (vs : List Value) (nf cf : Nat), vs.length = L.length ∧ w.ownsRow base 85 2 v L.length (obC L vs) ∧ (∀ (i : Nat) x o, vs[i]? = some x → L[i]? = some o → OwnW w base 42 x o.fs) ∧
  (∀ (i j : Nat) x y, i ≠ j → vs[i]? = some x → vs[j]? = some y → x.ownBlock = none ∨ x.ownBlock ≠ y.ownBlock) ∧ vs[n]? = some (.slice (some ⟨gf, 0, none⟩) nf cf)
theorem OwnF.own {w : World} {base n gf : Nat} {v : Value} {L : List Ob} (h : OwnF w base v L n gf) : OwnO w base v L := by
  obtain ⟨vs, nf, cf, h1, h2, h4, h5, _⟩ := h; exact ⟨vs, h1, h2, h4, h5⟩
theorem OwnF.below {w w' : World} {base n gf : Nat} {v : Value} {L : List Ob} (h : OwnF w base v L n gf) (hb : Below w.heap.size w w') : OwnF w' base v L n gf := by
  obtain ⟨vs, nf, cf, h1, h2, h4, h5, h6⟩ := h; exact ⟨vs, nf, cf, h1, own_below h2 hb, fun i x l h5 h6 => (h4 i x l h5 h6).below hb, h5, h6⟩
theorem OwnF.mono {w : World} {base base' n gf : Nat} {v : Value} {L : List Ob} (h : OwnF w base v L n gf) (hb : base' ≤ base) : OwnF w base' v L n gf := by
  obtain ⟨vs, nf, cf, h1, h2, h4, h5, h6⟩ := h; exact ⟨vs, nf, cf, h1, own_mono h2 hb, fun i x l h5 h6 => own_mono (h4 i x l h5 h6) hb, h5, h6⟩
theorem OwnF.set {w : World} {B p i n gf : Nat} {v u : Value} {L : List Ob} {t : TypeId} {cs : Array Value} (h : OwnF w B v L n gf) (hg : Bx w p t cs) (h1 : 85 ≠ t) (h2 : 42 ≠ t) : OwnF (w.setCell ⟨p, i, none⟩ u) B v L n gf := by
  obtain ⟨vs, nf, cf, a1, a2, a4, a5, a6⟩ := h; exact ⟨vs, nf, cf, a1, own_set a2 hg h1, fun i x l h5 h6 => own_set (a4 i x l h5 h6) hg h2, a5, a6⟩
theorem OwnF.cell {w : World} {base n gf i : Nat} {v : Value} {L : List Ob} {o : Ob} {x : UInt64} (h : OwnF w base v L n gf) (ho : L[n]? = some o) (hx : o.fs[i]? = some x) :
    w.cell? ⟨gf, i, none⟩ = some (.int .u64 x.toNat) ∧ w.frozen? ⟨gf, i, none⟩ = false ∧ base ≤ gf ∧ gf < w.heap.size := by
  obtain ⟨vs, nf, cf, h1, h2, h4, h5, h6⟩ := h
  have hr := h4 n _ _ h6 ho
  have hi : i < o.fs.length := (List.getElem?_eq_some_iff.1 hx).1
  have hn : nf = o.fs.length := by
    obtain ⟨g', cap, cur, hv, _⟩ := own_form hr (by omega)
    injection hv
  subst hn
  have hl := hr.lt gf rfl
  have hc := Rd.cell (OwnW.rd hr) (j := i) (u := u64 x) (by rw [List.getElem?_map, hx]; rfl)
  refine ⟨?_, hr.frozenAt i, hl.1, hl.2⟩
  simpa [cellAt, u64] using hc
/-- where an own object lies; x the slice of its fields -/
theorem OwnO.at_ {w : World} {base : Nat} {v : Value} {L : List Ob} (h : OwnO w base v L) {n : Nat} {o : Ob} (ho : L[n]? = some o) (hf : 0 < o.fs.length) :
    ∃ b q gf nf cf, (∀ W, (Instr.indexAt 28 v (.int .i64 (n : Int))).run Tryz.prog W = .ok (.pointer (some ⟨b, q, none⟩)) W) ∧ w.cell? ⟨b, q, none⟩ = some (.int .i64 o.ty) ∧ w.cell? ⟨b, q + 1, none⟩ = some (.slice (some ⟨gf, 0, none⟩) nf cf) ∧ b < w.heap.size ∧ OwnF w base v L n gf ∧ nf = o.fs.length ∧
      ∀ i, i < o.fs.length → ∀ W, (Instr.indexAt 22 (.slice (some ⟨gf, 0, none⟩) nf cf) (.int .i64 (i : Int))).run Tryz.prog W = .ok (.pointer (some ⟨gf, i, none⟩)) W := by
  obtain ⟨vs, h1, h2, h4, h5⟩ := h
  have hk : n < L.length := (List.getElem?_eq_some_iff.1 ho).1
  have hv : vs[n]? = some vs[n] := List.getElem?_eq_getElem (by omega)
  have hr := h4 n _ _ hv ho
  obtain ⟨gf, cap, cur, hvv, _⟩ := own_form hr hf
  have hix := fun W => Rd.ixN (P := Tryz.prog) (Rd.of_own h2) Tryz.underlying28 size_obj hk W
  obtain ⟨b, q, c, rfl, hb, hc, hcell⟩ := Rd.form (Rd.of_own h2) (by omega)
  obtain ⟨c0, c1⟩ := obC_get ho hv
  rw [hvv] at c1 hv hr
  refine ⟨b, q + n * 2, gf, _, cap, fun W => hix W, hcell _ _ c0, hcell _ _ c1, hb, ⟨vs, _, cap, h1, h2, h4, h5, hv⟩, rfl, fun i hi W => ?_⟩
  have := Rd.ixN (P := Tryz.prog) (OwnW.rd hr) Tryz.underlying22 one_u64 hi W
  simpa [cellAt] using this
end Go.Proofs.YtmbokdnndlnjkaaGreat
namespace Go.Proofs.YtmbokdnndlnjkaaGreat
open Go.RowKit L02 L13 L18 L20
/-- a byte of an own table -/
theorem OwnT.at2 {w : World} {base : Nat} {v : Value} {L : List (List UInt8)} (h : OwnT w base v L) {k i : Nat} {l : List UInt8} {b : UInt8} (hl : L[k]? = some l) (hb : l[i]? = some b) :
    ∃ ad bd y, (∀ W, (Instr.indexAt 27 v (.int .i64 (k : Int))).run Tryz.prog W = .ok (.pointer (some ad)) W) ∧ w.cell? ad = some y ∧ (∀ W, (Instr.indexAt 83 y (.int .i64 (i : Int))).run Tryz.prog W = .ok (.pointer (some bd)) W) ∧ w.cell? bd = some (.int .u8 b.toNat) ∧ base ≤ ad.block ∧ base ≤ bd.block := by
  obtain ⟨vs, h1, h2, h4⟩ := h
  have hk : k < L.length := (List.getElem?_eq_some_iff.1 hl).1
  have hi : i < l.length := (List.getElem?_eq_some_iff.1 hb).1
  have hv : vs[k]? = some vs[k] := List.getElem?_eq_getElem (by omega)
  have hr := h4 k _ _ hv hl
  obtain ⟨g, c, cur, e, hg, _⟩ := own_form h2 (by omega)
  obtain ⟨g', c', cur', e', hg', _⟩ := own_form hr (by omega)
  refine ⟨cellAt v (k * 1), cellAt vs[k] (i * 1), vs[k], fun W => Rd.ixN (Rd.of_own h2) Tryz.underlying27 one_bytes hk W, by rw [Nat.mul_one]; exact Rd.cell (Rd.of_own h2) hv, fun W => Rd.ixN (OwnB.rd hr) Tryz.underlying83 one_u8 hi W, ?_, ?_, ?_⟩
  · rw [Nat.mul_one]; exact Rd.cell (OwnB.rd hr) (by rw [List.getElem?_map, hb]; rfl)
  · rw [e]; exact hg
  · rw [e']; exact hg'
end Go.Proofs.YtmbokdnndlnjkaaGreat
namespace Go.Proofs.YtmbokdnndlnjkaaGreat
open Go.RowKit L02 L13 L18 L20
theorem OwnM.nil (w : World) (base : Nat) : OwnM w base 37 (.slice none 0 0) (.slice none 0 0) (.slice none 0 0) .nil := ⟨OwnT.nil _ _, OwnO.nil _ _, OwnS.nil _ _ _⟩
end Go.Proofs.YtmbokdnndlnjkaaGreat
namespace Go.Proofs.YtmbokdnndlnjkaaGreat
open Go.RowKit L02 L13 L18 L20
end Go.Proofs.YtmbokdnndlnjkaaGreat
namespace Go.Proofs.YtmbokdnndlnjkaaGreat
open Go.RowKit L02 L13 L18 L20
/-- the region in which a handle is made, and a block for it: g is that block. R: what holds of the model before, behind the call; ps: blocks that stay -/
def FHandle (w : World) (R : Bool → World → Prop) (ps : List (Nat × TypeId × Array Value)) (gf i : Nat) (x : Int) (a b : Int) (z : Nat) (g : Nat) : (Nat → Bool) → World → Prop := fun φ W =>
  (R (φ 6) W ∧ z ≤ W.heap.size) ∧ Below w.heap.size w W ∧ (∀ p ∈ ps, Bx W p.1 p.2.1 p.2.2) ∧ W.cell? ⟨gf, i, none⟩ = some (.int .u64 x) ∧ (φ 11 = true → φ 10 = true) ∧ (φ 10 = true → (∀ p ∈ ps, g ≠ p.1) ∧ gf ≠ g ∧ z ≤ g) ∧ (φ 10 = true → φ 11 = false → Bx W g 39 #[.int .i64 0, .int .i64 0]) ∧ (φ 11 = true → Bx W g 39 #[.int .i64 a, .int .i64 b])
theorem FHandle.dep {w : World} {R : Bool → World → Prop} {ps : List (Nat × TypeId × Array Value)} {gf i : Nat} {x a b : Int} {z g : Nat} : Dep (FHandle w R ps gf i x a b z g) [6, 10, 11] := by
  rintro φ ψ W h ⟨h1, h2, h3, h4, h5, h6, h7, h8⟩
  have e1 := h 6 (by simp); have e2 := h 10 (by simp); have e3 := h 11 (by simp)
  rw [e1] at h1; rw [e2, e3] at h5; rw [e2] at h6; rw [e2, e3] at h7; rw [e3] at h8
  exact ⟨h1, h2, h3, h4, h5, h6, h7, h8⟩
/-- the block is made -/
theorem FHandle.alloc {w : World} {R : Bool → World → Prop} {ps : List (Nat × TypeId × Array Value)} {gf i : Nat} {x a b : Int} {z g : Nat} {φ : Nat → Bool} {W : World} (hF : FHandle w R ps gf i x a b z g φ W) (h10 : φ 10 = false) (hR : ∀ c W o, R c W → R c (W.alloc o)) :
    FHandle w R ps gf i x a b z W.heap.size (fun j => j == 10 || φ j) (W.alloc (.cells #[.int .i64 0, .int .i64 0] 39)) := by
  obtain ⟨h1, h2, h3, h4, h5, h6, h7, h8⟩ := hF
  have h11 : φ 11 = false := by
    cases e : φ 11
    · rfl
    · rw [h5 e] at h10; cases h10
  have hlt := World.block_lt_of_cell? W _ h4
  refine ⟨⟨by simpa using hR _ _ _ h1.1, by simp; omega⟩, h2.alloc h2.size _, fun p hp => (h3 p hp).alloc _, cell_later ((Below.refl _ W).alloc (Nat.le_refl _) _) h4, by simp, fun _ => ⟨fun p hp => by have := (h3 p hp).lt; omega, by simp at hlt; omega, h1.2⟩, fun _ _ => Bx.new _ _ _, by simp [h11]⟩
/-- the handle is made -/
theorem FHandle.call {w : World} {R : Bool → World → Prop} {ps : List (Nat × TypeId × Array Value)} {gf i : Nat} {x a b : Int} {z g : Nat} {φ : Nat → Bool} {W W' : World} {row : Option Nat} (hF : FHandle w R ps gf i x a b z g φ W) (hk : Keep W W' row) (hps : ∀ p ∈ ps, row ≠ some p.1) (hgf : row ≠ some gf) (hrow : ∀ k, row = some k → k < z)
    (hR : R true W') (hB : Below w.heap.size w W') : FHandle w R ps gf i x a b z g (fun j => j == 6 || φ j) W' := by
  obtain ⟨h1, h2, h3, h4, h5, h6, h7, h8⟩ := hF
  have hlt := World.block_lt_of_cell? W _ h4
  have hrg : φ 10 = true → row = none ∨ row ≠ some g := fun e => by
    rcases row with _ | k
    · exact .inl rfl
    · have h := hrow k rfl
      have h' := (h6 e).2.2
      exact .inr (fun e => by injection e with e; omega)
  refine ⟨⟨by simpa using hR, Nat.le_trans h1.2 hk.1⟩, hB, fun p hp => (h3 p hp).keep hk (.inr (hps p hp)), ?_, by simpa using h5, by simpa using h6, fun e1 e2 => ?_, fun e => ?_⟩
  · rw [World.cell?_of_block (hk.2 gf hlt (fun e => hgf e.symm))]; exact h4
  · have e1' : φ 10 = true := by simpa using e1
    exact (h7 e1' (by simpa using e2)).keep hk (hrg e1')
  · have e' : φ 11 = true := by simpa using e
    exact (h8 e').keep hk (hrg (h5 e'))
/-- the handle is stored -/
theorem FHandle.store {w : World} {R : Bool → World → Prop} {ps : List (Nat × TypeId × Array Value)} {gf i : Nat} {x a b : Int} {z g : Nat} {φ : Nat → Bool} {W : World} (hF : FHandle w R ps gf i x a b z g φ W) (hz : w.heap.size ≤ z) (h10 : φ 10 = true) (h11 : φ 11 = false)
    (hR : ∀ c W p cs u, Bx W g 39 cs → R c W → R c (W.setCell ⟨g, p, none⟩ u)) :
    (W.cell? ⟨g, 0, none⟩ = some (.int .i64 0) ∧ W.cell? ⟨g, 1, none⟩ = some (.int .i64 0) ∧ ∀ j, W.frozen? ⟨g, j, none⟩ = false) ∧ FHandle w R ps gf i x a b z g (fun j => j == 11 || φ j) ((W.setCell ⟨g, 0, none⟩ (.int .i64 a)).setCell ⟨g, 1, none⟩ (.int .i64 b)) := by
  obtain ⟨h1, h2, h3, h4, h5, h6, h7, h8⟩ := hF
  have hb := h7 h10 h11
  obtain ⟨k1, k2, k3⟩ := h6 h10
  have k4 := Nat.le_trans hz k3
  refine ⟨⟨hb.cell 0, hb.cell 1, fun j => hb.free j⟩, ⟨?_, by simpa [World.setCell] using h1.2⟩, (h2.setCell (p := ⟨g, 0, none⟩) k4 _).setCell (p := ⟨g, 1, none⟩) k4 _, fun p hp => ((h3 p hp).far (p := ⟨g, 0, none⟩) (Ne.symm (k1 p hp)) _).far (p := ⟨g, 1, none⟩) (Ne.symm (k1 p hp)) _, cell_far (cell_far h4 k2) k2, fun _ => by simpa using h10, fun _ => ⟨k1, k2, k3⟩, fun _ e => by simp at e, fun _ => ?_⟩
  · have := hR _ _ 1 _ (.int .i64 b) (hb.set (i := 0) (.int .i64 a)) (hR _ _ 0 _ (.int .i64 a) hb h1.1)
    simpa using this
  · have := (hb.set (i := 0) (.int .i64 a)).set (i := 1) (.int .i64 b)
    simpa using this
/-- two results are stored, in either order -/
def FTwoR (w : World) (B0 : Nat) (t o s : Value) (m : Mo) (p7 p4 gq : Nat) (p3 : Nat) (a b : Int) : (Nat → Bool) → World → Prop := fun f W =>
  Below w.heap.size w W ∧ OwnM W B0 37 t o s m ∧ Bx W p3 31 (if f 2 = true then #[t, o, s] else #[.slice none 0 0, .slice none 0 0, .slice none 0 0]) ∧ Bx W p7 39 (if f 3 = true then #[.int .i64 a, .int .i64 b] else #[.int .i64 0, .int .i64 0]) ∧
    Bx W p4 31 #[t, o, s] ∧ Bx W gq 39 #[.int .i64 a, .int .i64 b]
theorem FTwoR.dep {w : World} {B0 : Nat} {t o s : Value} {m : Mo} {p7 p4 gq p3 : Nat} {a b : Int} : Dep (FTwoR w B0 t o s m p7 p4 gq p3 a b) [2, 3] := by
  rintro f g W h ⟨h1, h2, h3, h4, h5, h6⟩
  have e1 := h 2 (by simp); have e2 := h 3 (by simp)
  rw [e1] at h3; rw [e2] at h4
  exact ⟨h1, h2, h3, h4, h5, h6⟩
end Go.Proofs.YtmbokdnndlnjkaaGreat
namespace Go.Proofs.YtmbokdnndlnjkaaGreat
open Go.RowKit L02 L13 L18 L20
end Go.Proofs.YtmbokdnndlnjkaaGreat
namespace Go.Proofs.YtmbokdnndlnjkaaGreat
open Go.RowKit L02 L13 L18 L20
end Go.Proofs.YtmbokdnndlnjkaaGreat
namespace Go.Proofs.YtmbokdnndlnjkaaGreat
open Go.RowKit L02 L13 L18 L20
end Go.Proofs.YtmbokdnndlnjkaaGreat
namespace Go.Proofs.YtmbokdnndlnjkaaGreat
open Go.RowKit L02 L13 L18 L20
end Go.Proofs.YtmbokdnndlnjkaaGreat
namespace Go.Proofs.YtmbokdnndlnjkaaGreat
open Go.RowKit L02 L13 L18 L20
end Go.Proofs.YtmbokdnndlnjkaaGreat
namespace Go.Proofs.YtmbokdnndlnjkaaGreat
open Go.RowKit L02 L13 L18 L20
end Go.Proofs.YtmbokdnndlnjkaaGreat
namespace Go.Proofs.YtmbokdnndlnjkaaGreat
open Go.RowKit L02 L13 L18 L20
end Go.Proofs.YtmbokdnndlnjkaaGreat
namespace Go.Proofs.YtmbokdnndlnjkaaGreat
open Go.RowKit L02 L13 L18 L20
end Go.Proofs.YtmbokdnndlnjkaaGreat
namespace Go.Proofs.YtmbokdnndlnjkaaGreat
open Go.RowKit L02 L13 L18 L20
end Go.Proofs.YtmbokdnndlnjkaaGreat
namespace Go.Proofs.YtmbokdnndlnjkaaGreat
open Go.RowKit L02 L13 L18 L20
theorem ob_at {m : Mo} {i : Nat} {o : Ob} (h : m.objs[i]? = some o) : ob m i = o := by simp [ob, List.getD_eq_getElem?_getD, h]
theorem busy_cases (d : Int) (sl : Int) (s : Sl) (n : Nat) : ((d != sl) = false) ∨ ((d != sl) = true ∧ s.used = false) ∨ ((d != sl) = true ∧ s.used = true ∧ (s.at_ == (n : Int)) = false) ∨ ((d != sl) = true ∧ s.used = true ∧ (s.at_ == (n : Int)) = true) := by
  by_cases h : d = sl
  · exact .inl (by rw [bne_eq_false_iff_eq]; exact h)
  · have h' : (d != sl) = true := by rw [bne_iff_ne]; exact h
    cases hu : s.used
    · exact .inr (.inl ⟨h', rfl⟩)
    · by_cases ha : s.at_ = n
      · exact .inr (.inr (.inr ⟨h', rfl, by rw [beq_iff_eq]; exact ha⟩))
      · exact .inr (.inr (.inl ⟨h', rfl, by rw [beq_eq_false_iff_ne]; exact ha⟩))
set_option maxRecDepth 100000 in
set_option maxHeartbeats 16000000 in
theorem Busy_any (tv ov sv : Value) (m : Mo) (sl : Int) (n : Nat) (b : Bool) (hb : b = decide (Busy m sl n)) (hc : chk m = 0) (hn : n ≤ 1000) (w : World) (h : Mod w tv ov sv m) :
    Calls Tryz.prog 66 #[.agg #[tv, ov, sv], .int .i64 sl, .int .i64 n] w fun e w' => e = .returned (.bool b) ∧ Below w.heap.size w w' := by
  have B : Below w.heap.size w w := Below.refl _ _
  have lo := h.o.len; have ls := h.s.len
  have hyes : Busy m sl n → b = true := fun h2 => by rw [hb, decide_eq_true h2]
  obtain ⟨k1, k2, k3⟩ := chk_ok hc
  obtain ⟨NO, hNO⟩ : ∃ N, N = m.objs.length := ⟨_, rfl⟩
  obtain ⟨NS, hNS⟩ : ∃ N, N = m.slots.length := ⟨_, rfl⟩
  rw [← hNO] at lo; rw [← hNS] at ls
  have hw1 : IntKind.i64.wrap ((n : Int) + 1) = (n : Int) + 1 := IntWalk.i64_in _ (by omega)
  have hw2 : IntKind.u64.wrap ((n : Int) + 1) = (n : Int) + 1 := by show ((n : Int) + 1) % 18446744073709551616 = _; omega
  have hNO2 : NO ≤ 960 := by omega
  have hNS2 : NS = 16 := by rw [hNS]; exact k3.1
  have H := Lib.hid h; have HNO := Lib.hid hNO; have HNS := Lib.hid hNS; have HY := Lib.hid hyes; have HB0 := Lib.hid hb; have HK := Lib.hid k3.2.2.1; have HSM := Lib.hid (small_chk hc); have hNS3 : NS ≤ 16 := by omega
  clear h hNO hNS hyes hb k1 k2 k3 hc hNS2
  go_enter Tryz.func66, Tryz.ntmps66
  go_upto_region 1 with (fail)
  refine wp_gen (fun Wv => Bx Wv (w.heap.size) (31) (#[tv, ov, sv]) ∧ Below w.heap.size w Wv) ⟨((Bx.at_ (by simp))), ((Below.refl _ w).alloc (by simp <;> omega) _)⟩ ?_
  rintro wa1 ⟨g1, b⟩
  replace B := B.trans (b.mono B.size); clear b
  have c_g1 := g1.cell; have f_g1 := g1.free; have a_g1 := fun o => (g1.alloc o).cell; have d_g1 := fun o o2 => ((g1.alloc o).alloc o2).cell; have e_g1 := fun o => (g1.alloc o).free
  have HB := Lib.hid B; clear B
  go_wp2
  have HG1 := Lib.hid g1
  clear g1 c_g1 f_g1 a_g1 d_g1 e_g1
  go_loopg [7] NS (fun g i wr => ∃ j : Nat, j ≤ NS ∧ g = NS - j ∧ i = .int .i64 j ∧ Hid ((∀ i : Nat, i < j → ¬ ((i : Int) ≠ sl ∧ (m.slots.getD i .none).used = true ∧ (m.slots.getD i .none).at_ = n)) ∧ Bx wr w.heap.size 31 #[tv, ov, sv] ∧ Below w.heap.size w wr))
  case atStart => exact ⟨0, by omega, by omega, rfl, Lib.hid ⟨fun i hi => by omega, HG1.out, HB.out⟩⟩
  case round =>
    clear HG1 HB
    obtain ⟨j, hj, rfl, rfl, hh⟩ := hrel
    have g1 := hh.out.2.1
    have c_g1 := g1.cell
    by_cases hlt : j < NS
    · obtain ⟨bb, q, s, ix, m0, m1, m2, hs⟩ := (H.out.s.below hh.out.2.2).at_ (P := Tryz.prog) Tryz.underlying29 size_slot (k := j) (by have := HNS.out; omega)
      have hgd : m.slots.getD j .none = s := by simp [List.getD_eq_getElem?_getD, hs.out]
      have hcase := busy_cases (j : Int) sl s n
      obtain ⟨gn, us, a⟩ := s
      have HS := Lib.hid hgd
      clear hgd hs
      dsimp only at *
      have HJ := Lib.hid (fun (hx : ¬ ((j : Int) ≠ sl ∧ us = true ∧ a = (n : Int))) => show ∀ i : Nat, i < j + 1 → ¬ ((i : Int) ≠ sl ∧ (m.slots.getD i .none).used = true ∧ (m.slots.getD i .none).at_ = n) from fun i hi => by
        by_cases hij : i < j
        · exact hh.out.1 i hij
        · obtain rfl : i = j := by omega
          rw [HS.out]; exact hx)
      rcases hcase with e1 | ⟨e1, rfl⟩ | ⟨e1, rfl, e3⟩ | ⟨e1, rfl, e3⟩
      · have HR := Lib.hid (HJ.out (fun hx => by rw [bne_eq_false_iff_eq] at e1; exact hx.1 e1))
        clear HJ
        go_wp2
        go_roundg (NS - (j + 1))
        case measure => omega
        case rel => exact ⟨j + 1, by omega, rfl, by go_num, Lib.hid ⟨HR.out, hh.out.2⟩⟩
      · have HR := Lib.hid (HJ.out (fun hx => by cases hx.2.1))
        clear HJ
        go_wp2
        go_roundg (NS - (j + 1))
        case measure => omega
        case rel => exact ⟨j + 1, by omega, rfl, by go_num, Lib.hid ⟨HR.out, hh.out.2⟩⟩
      · have HR := Lib.hid (HJ.out (fun hx => by rw [beq_eq_false_iff_ne] at e3; exact e3 hx.2.2))
        clear HJ
        go_wp2
        go_roundg (NS - (j + 1))
        case measure => omega
        case rel => exact ⟨j + 1, by omega, rfl, by go_num, Lib.hid ⟨HR.out, hh.out.2⟩⟩
      · obtain rfl := HY.out (.inl ⟨j, by have := HNS.out; omega, by rw [bne_iff_ne] at e1; exact e1, by rw [HS.out], by rw [HS.out]; rw [beq_iff_eq] at e3; exact e3⟩)
        clear HJ
        go_wp2
        go_ret
        exact ⟨rfl, hh.out.2.2⟩
    · obtain rfl : j = NS := by omega
      have HT := Lib.hid hh.out.1; have HB := Lib.hid hh.out.2.2
      clear hh
      go_wp2
      have HG1 := Lib.hid g1
      clear g1 c_g1
      go_loopg [8] NO (fun g i wr => ∃ k : Nat, k ≤ NO ∧ g = NO - k ∧ i = .int .i64 k ∧ Hid ((∀ i : Nat, i < k → ¬ (i ≠ n ∧ ∃ p, p < (ob m i).fs.length ∧ isRef m (ob m i) p n)) ∧ Bx wr w.heap.size 31 #[tv, ov, sv] ∧ Below w.heap.size w wr))
      case atStart => exact ⟨0, by omega, by omega, rfl, Lib.hid ⟨fun i hi => by omega, HG1.out, HB.out⟩⟩
      case round =>
        clear HG1 HB
        obtain ⟨k, hk, rfl, rfl, hh⟩ := hrel
        have g1 := hh.out.2.1
        have c_g1 := g1.cell
        by_cases hltk : k < NO
        · obtain ⟨o, ho⟩ : ∃ o, m.objs[k]? = some o := ⟨_, List.getElem?_eq_getElem (by have := HNO.out; omega)⟩
          have hoo := HK.out o (List.mem_of_getElem? ho)
          obtain ⟨q, hq⟩ := Int.eq_ofNat_of_zero_le hoo.1.1
          have hqt : q < m.types.length := by have := hoo.1.2; omega
          obtain ⟨t, ht⟩ : ∃ t, m.types[q]? = some t := ⟨_, List.getElem?_eq_getElem hqt⟩
          have htt : ty m.types o = t := by rw [ty, hq]; simp [List.getD_eq_getElem?_getD, ht]
          obtain ⟨nf, hnf⟩ : ∃ N, N = o.fs.length := ⟨_, rfl⟩
          have hlt2 : nf = t.length := by rw [hnf, hoo.2.1, htt]
          have hnf20 : nf ≤ 20 := by rw [hnf]; exact HSM.out.2.2.2.2 o (List.mem_of_getElem? ho)
          have HE := Lib.hid (show ob m k = o from ob_at ho)
          have hall := hh.out
          have HNF := Lib.hid hnf; have HO := Lib.hid ho; have HT := Lib.hid ht; have HQ := Lib.hid hq; have HL := Lib.hid hlt2; have HTT := Lib.hid htt; have HQT := Lib.hid hqt
          clear hoo hq hqt ht htt hnf hlt2 ho
          go_wp2
          have HALL := Lib.hid hall
          clear g1 c_g1 hh hall
          go_loopg [9] nf (fun g i wr2 => ∃ p : Nat, p ≤ nf ∧ g = nf - p ∧ i = .int .i64 p ∧ Hid ((∀ p', p' < p → ¬ (k ≠ n ∧ isRef m o p' n)) ∧ Bx wr2 w.heap.size 31 #[tv, ov, sv] ∧ Below w.heap.size w wr2))
          case atStart => exact ⟨0, by omega, by omega, rfl, Lib.hid ⟨fun i hi => by omega, HALL.out.2⟩⟩
          case round =>
            obtain ⟨p, hp, rfl, rfl, hh⟩ := hrel
            have g1 := hh.out.2.1
            have c_g1 := g1.cell
            have B := hh.out.2.2
            obtain ⟨bo, oq, x, o2, ix, m0, m1, ho2, hx, hob⟩ := (H.out.o.below B).at_ (k := k) (by have := HNO.out; omega)
            obtain rfl : o2 = o := by have := ho2.out; rw [HO.out] at this; injection this with e; exact e.symm
            have hxx := hx.out
            obtain ⟨xA, xn, xc, rfl⟩ : ∃ A n c, x = .slice A n c := by obtain ⟨A, c, e, _⟩ := hx.out; exact ⟨A, _, c, e⟩
            have lx := Rd.len hxx Tryz.underlying22
            rw [← HNF.out] at lx
            clear hx ho2
            by_cases hltp : p < nf
            · obtain ⟨ad, y, t2, iy, m2, ht2, hby⟩ := (H.out.t.below B).at_ HQT.out
              obtain rfl : t2 = t := by have := ht2.out; rw [HT.out] at this; injection this with e; exact e.symm
              obtain ⟨bd, kk, ib, m3, hkk⟩ := hby.out.at_ (P := Tryz.prog) Tryz.underlying83 one_u8 (k := p) (by have := HL.out; omega)
              obtain ⟨cd, v, ic, m4, hv⟩ := hxx.at_ (P := Tryz.prog) Tryz.underlying22 one_u64 (k := p) (by have := HNF.out; omega)
              have hir : isRef m o2 p n ↔ kk.toNat = 3 ∧ v.toNat = n + 1 := by rw [isRef, HTT.out]; simp [List.getD_eq_getElem?_getD, hkk.out, hv.out]
              have HJ := Lib.hid (fun (hx : ¬ (k ≠ n ∧ kk.toNat = 3 ∧ v.toNat = n + 1)) => show ∀ p', p' < p + 1 → ¬ (k ≠ n ∧ isRef m o2 p' n) from fun i hi => by
                by_cases hij : i < p
                · exact hh.out.1 i hij
                · obtain rfl : i = p := by omega
                  rw [hir]; exact hx)
              have HI := Lib.hid hir
              rw [HQ.out] at m0
              clear ht2 hby hkk hv hir hh
              have hcase : ((k : Int) != (n : Int)) = false ∨ (((k : Int) != (n : Int)) = true ∧ ((kk.toNat : Int) == 3) = false) ∨ (((k : Int) != (n : Int)) = true ∧ ((kk.toNat : Int) == 3) = true ∧ ((v.toNat : Int) == (n : Int) + 1) = false) ∨ (((k : Int) != (n : Int)) = true ∧ ((kk.toNat : Int) == 3) = true ∧ ((v.toNat : Int) == (n : Int) + 1) = true) := by
                by_cases h1 : k = n
                · exact .inl (by rw [bne_eq_false_iff_eq]; omega)
                · have h1' : ((k : Int) != (n : Int)) = true := by rw [bne_iff_ne]; omega
                  by_cases h2 : kk.toNat = 3
                  · have h2' : ((kk.toNat : Int) == 3) = true := by rw [beq_iff_eq]; omega
                    by_cases h3 : v.toNat = n + 1
                    · exact .inr (.inr (.inr ⟨h1', h2', by rw [beq_iff_eq]; omega⟩))
                    · exact .inr (.inr (.inl ⟨h1', h2', by rw [beq_eq_false_iff_ne]; omega⟩))
                  · exact .inr (.inl ⟨h1', by rw [beq_eq_false_iff_ne]; omega⟩)
              rcases hcase with e1 | ⟨e1, e2⟩ | ⟨e1, e2, e3⟩ | ⟨e1, e2, e3⟩
              · have HR := Lib.hid (HJ.out (fun hx => by rw [bne_eq_false_iff_eq] at e1; omega))
                clear HJ
                go_wp2
                refine wp_region_calm (by kernel_rfl) (by kernel_rfl) ?_
                try clear c_g1 f_g1 a_g1 d_g1 e_g1
                have c_g1 := fun x : Fut _ => (g1.below x.h).cell
                have c_m0 := fun x : Fut _ => cell_later x.h m0
                have c_m1 := fun x : Fut _ => cell_later x.h m1
                have c_m2 := fun x : Fut _ => cell_later x.h m2
                have c_m3 := fun x : Fut _ => cell_later x.h m3
                have c_m4 := fun x : Fut _ => cell_later x.h m4
                repeat (go_big_quiet_step (fail))
                refine wpQuiet_nil ?_
                intro _ hw'
                obtain ⟨xq, hw''⟩ := hw'
                subst hw''
                clear c_g1; replace g1 := g1.below xq.h; have c_g1 := g1.cell; have f_g1 := g1.free; have a_g1 := fun o => (g1.alloc o).cell; have d_g1 := fun o o2 => ((g1.alloc o).alloc o2).cell; have e_g1 := fun o => (g1.alloc o).free
                clear c_m0; replace m0 := cell_later xq.h m0
                clear c_m1; replace m1 := cell_later xq.h m1
                clear c_m2; replace m2 := cell_later xq.h m2
                clear c_m3; replace m3 := cell_later xq.h m3
                clear c_m4; replace m4 := cell_later xq.h m4
                replace hxx := hxx.below xq.h
                replace B := B.trans (xq.h.mono B.size)
                go_wp2
                have HH := Lib.hid (And.intro HR.out (And.intro g1 B))
                clear g1 c_g1 f_g1 a_g1 d_g1 e_g1 B m0 m1 m2 m3 m4 hxx
                go_roundg (nf - (p + 1))
                case measure => omega
                case rel => exact ⟨p + 1, by omega, rfl, by go_num, Lib.hid HH.out⟩
              · have HR := Lib.hid (HJ.out (fun hx => by rw [beq_eq_false_iff_ne] at e2; omega))
                clear HJ
                go_wp2
                refine wp_region_calm (by kernel_rfl) (by kernel_rfl) ?_
                try clear c_g1 f_g1 a_g1 d_g1 e_g1
                have c_g1 := fun x : Fut _ => (g1.below x.h).cell
                have c_m0 := fun x : Fut _ => cell_later x.h m0
                have c_m1 := fun x : Fut _ => cell_later x.h m1
                have c_m2 := fun x : Fut _ => cell_later x.h m2
                have c_m3 := fun x : Fut _ => cell_later x.h m3
                have c_m4 := fun x : Fut _ => cell_later x.h m4
                repeat (go_big_quiet_step (fail))
                refine wpQuiet_nil ?_
                intro _ hw'
                obtain ⟨xq, hw''⟩ := hw'
                subst hw''
                clear c_g1; replace g1 := g1.below xq.h; have c_g1 := g1.cell; have f_g1 := g1.free; have a_g1 := fun o => (g1.alloc o).cell; have d_g1 := fun o o2 => ((g1.alloc o).alloc o2).cell; have e_g1 := fun o => (g1.alloc o).free
                clear c_m0; replace m0 := cell_later xq.h m0
                clear c_m1; replace m1 := cell_later xq.h m1
                clear c_m2; replace m2 := cell_later xq.h m2
                clear c_m3; replace m3 := cell_later xq.h m3
                clear c_m4; replace m4 := cell_later xq.h m4
                replace hxx := hxx.below xq.h
                replace B := B.trans (xq.h.mono B.size)
                go_wp2
                have HH := Lib.hid (And.intro HR.out (And.intro g1 B))
                clear g1 c_g1 f_g1 a_g1 d_g1 e_g1 B m0 m1 m2 m3 m4 hxx
                go_roundg (nf - (p + 1))
                case measure => omega
                case rel => exact ⟨p + 1, by omega, rfl, by go_num, Lib.hid HH.out⟩
              · have HR := Lib.hid (HJ.out (fun hx => by rw [beq_eq_false_iff_ne] at e3; omega))
                clear HJ
                go_wp2
                refine wp_region_calm (by kernel_rfl) (by kernel_rfl) ?_
                try clear c_g1 f_g1 a_g1 d_g1 e_g1
                have c_g1 := fun x : Fut _ => (g1.below x.h).cell
                have c_m0 := fun x : Fut _ => cell_later x.h m0
                have c_m1 := fun x : Fut _ => cell_later x.h m1
                have c_m2 := fun x : Fut _ => cell_later x.h m2
                have c_m3 := fun x : Fut _ => cell_later x.h m3
                have c_m4 := fun x : Fut _ => cell_later x.h m4
                repeat (go_big_quiet_step (fail))
                refine wpQuiet_nil ?_
                intro _ hw'
                obtain ⟨xq, hw''⟩ := hw'
                subst hw''
                clear c_g1; replace g1 := g1.below xq.h; have c_g1 := g1.cell; have f_g1 := g1.free; have a_g1 := fun o => (g1.alloc o).cell; have d_g1 := fun o o2 => ((g1.alloc o).alloc o2).cell; have e_g1 := fun o => (g1.alloc o).free
                clear c_m0; replace m0 := cell_later xq.h m0
                clear c_m1; replace m1 := cell_later xq.h m1
                clear c_m2; replace m2 := cell_later xq.h m2
                clear c_m3; replace m3 := cell_later xq.h m3
                clear c_m4; replace m4 := cell_later xq.h m4
                replace hxx := hxx.below xq.h
                replace B := B.trans (xq.h.mono B.size)
                go_wp2
                have HH := Lib.hid (And.intro HR.out (And.intro g1 B))
                clear g1 c_g1 f_g1 a_g1 d_g1 e_g1 B m0 m1 m2 m3 m4 hxx
                go_roundg (nf - (p + 1))
                case measure => omega
                case rel => exact ⟨p + 1, by omega, rfl, by go_num, Lib.hid HH.out⟩
              · obtain rfl := HY.out (.inr ⟨k, by have := HNO.out; omega, by rw [bne_iff_ne] at e1; omega, p, by rw [HE.out, ← HNF.out]; exact hltp, by rw [HE.out]; exact HI.out.2 ⟨by rw [beq_iff_eq] at e2; omega, by rw [beq_iff_eq] at e3; omega⟩⟩)
                clear HJ
                go_wp2
                refine wp_region_calm (by kernel_rfl) (by kernel_rfl) ?_
                try clear c_g1 f_g1 a_g1 d_g1 e_g1
                have c_g1 := fun x : Fut _ => (g1.below x.h).cell
                have c_m0 := fun x : Fut _ => cell_later x.h m0
                have c_m1 := fun x : Fut _ => cell_later x.h m1
                have c_m2 := fun x : Fut _ => cell_later x.h m2
                have c_m3 := fun x : Fut _ => cell_later x.h m3
                have c_m4 := fun x : Fut _ => cell_later x.h m4
                repeat (go_big_quiet_step (fail))
                refine wpQuiet_nil ?_
                intro _ hw'
                obtain ⟨xq, hw''⟩ := hw'
                subst hw''
                clear c_g1; replace g1 := g1.below xq.h; have c_g1 := g1.cell; have f_g1 := g1.free; have a_g1 := fun o => (g1.alloc o).cell; have d_g1 := fun o o2 => ((g1.alloc o).alloc o2).cell; have e_g1 := fun o => (g1.alloc o).free
                clear c_m0; replace m0 := cell_later xq.h m0
                clear c_m1; replace m1 := cell_later xq.h m1
                clear c_m2; replace m2 := cell_later xq.h m2
                clear c_m3; replace m3 := cell_later xq.h m3
                clear c_m4; replace m4 := cell_later xq.h m4
                replace hxx := hxx.below xq.h
                replace B := B.trans (xq.h.mono B.size)
                go_wp2
                go_ret
                exact ⟨rfl, B⟩
            · obtain rfl : p = nf := by omega
              have HH := Lib.hid (And.intro hh.out.1 (And.intro g1 B))
              clear hh B
              go_wp2
              clear g1 c_g1 m0 m1 hxx
              go_roundg (NO - (k + 1))
              case measure => omega
              case rel =>
                refine ⟨k + 1, by omega, rfl, by go_num, Lib.hid ⟨fun i hi => ?_, HH.out.2⟩⟩
                by_cases hij : i < k
                · exact HALL.out.1 i hij
                · obtain rfl : i = k := by omega
                  rw [HE.out]
                  rintro ⟨h1, p', h2, h3⟩
                  exact HH.out.1 p' (by rw [HNF.out]; exact h2) ⟨h1, h3⟩
        · obtain rfl : k = NO := by omega
          have HA := Lib.hid hh.out.1; have B := hh.out.2.2
          clear hh
          go_wp2
          go_ret
          refine ⟨ret_bool ?_, B⟩
          rw [HB0.out, eq_comm, decide_eq_false_iff_not]
          rintro (⟨i, h1, h2, h3, h4⟩ | ⟨i, h1, h2, h3⟩)
          · exact HT.out i (by have := HNS.out; omega) ⟨h2, h3, h4⟩
          · exact HA.out i (by have := HNO.out; omega) ⟨h2, h3⟩
end Go.Proofs.YtmbokdnndlnjkaaGreat
