/- Contracts of the functions that the laws 'F' reach, part 19. No condition. -/
import Derived.Test.YtiiilaojllmmiaaMFr
set_option linter.unusedVariables false
set_option linter.unusedSimpArgs false
namespace Go.Proofs.Ytiiilaojllmmiaa
open Go.RowKit L01 L02 L05 L06 L07 L13 L14 L15 L18 L19
/-- a part of a row of the call's own -/
theorem own_cut2 {P : Program} {w : World} {v : Value} {n B e t : Nat} {xs : List Value} (h : w.ownsRow B e 1 v n xs) (ht : P.underlying t = some (.slice e)) (hs : (P.info? e).map (·.size) = some 1) {lo hi : Nat} (h1 : lo < hi) (h2 : hi ≤ n) :
    ∃ dv, (∀ W, (Instr.sliceAt t v (some (.int .i64 (lo : Int))) (some (.int .i64 (hi : Int))) none).run P W = .ok dv W) ∧ CutOf v lo (hi - lo) dv := by
  obtain ⟨dv, r1, _, _, _, A, c, r3, r4⟩ := Rd.cutN (Rd.of_own h) ht hs (lo := lo) (hi := hi) (by omega) h2
  refine ⟨dv, r1, A, n, c, r3, by omega, ?_, by simpa using r4⟩
  rcases h.2 with ⟨h, h'⟩ | ⟨g, cap, cur, h, _, _, hc, _⟩
  · omega
  · rw [r3] at h; simp at h; omega
theorem splice_putW {l m : List UInt64} {a : Nat} (h : a + m.length ≤ l.length) : splice (l.map u64) a (m.map u64) = (putW l a m).map u64 := by
  rw [putW_eq _ _ _ h]
  unfold splice
  rw [List.map_append, List.map_append, List.map_take, List.map_drop, List.length_map]
/-- words copied into a part of an image of the call's own -/
theorem copyW {w w0 : World} {v sv dv : Value} {l m : List UInt64} {a k n B : Nat} (o : OwnW w B 25 v l) (hcut : CutOf v a k dv) (hs : Rd w 1 sv n (m.map u64)) (hk : k = m.length) (hle : a + k ≤ l.length) (hb : Below B w0 w) (hB : B ≤ w0.heap.size) :
    ∃ w' x, (Builtin.copy_ #[22, 22] 3 #[dv, sv]).run Try.prog w = .ok x w' ∧ OwnW w' B 25 v (putW l a m) ∧ Below B w0 w' ∧ w.grownBy w' v.ownBlock := by
  obtain ⟨w', hrun, h2, h3⟩ := run_copy_own (P := Try.prog) (sT := 22) (ty := 3) Try.underlying22 one_u64 o hcut hs (one_u64s _)
  refine ⟨w', _, hrun, OwnW.of h2 ?_, hb.grown h3 (Nat.le_trans hB hb.size) fun k hk => (o.lt k hk).1, h3⟩
  rw [List.take_of_length_le (by rw [List.length_map]; omega), splice_putW (by omega)]
theorem lit_blocks {w : World} {cs : Array Value} {n c : Nat} (L : List Hb) (hn : w.heap.size = n) (hc : cs.toList = tabB L) (hl : c = L.length) (hm : L.length ≤ 1000) : Blks (w.alloc (.cells cs 74)) (.slice (some ⟨n, 0, none⟩) c c) L := by
  subst hn; subst hl
  unfold Blks
  rw [← hc]
  exact lit_rdK (by rw [← Array.length_toList, hc, tabB_len]) (by omega)
theorem arr_words {w : World} {g : Nat} {t : TypeId} {a b : UInt64} (h : Bx w g t #[.int .u64 a.toNat, .int .u64 b.toNat]) : Rd w 1 (.slice (some ⟨g, 0, none⟩) 2 2) 2 ([a, b].map u64) :=
  part_words (w := w) (g := g) (n := 2) (c := 2) (cs := #[.int .u64 a.toNat, .int .u64 b.toNat]) [a, b] h rfl rfl rfl (by show 2 ≤ 1048576; omega)
theorem wO_len (W T : Int) : (wordsOf W T).length = 8 := by simp [wordsOf, body]
set_option maxRecDepth 100000 in
set_option maxHeartbeats 4000000 in
theorem example24_any (w : World) : Calls Try.prog 36 #[] w fun e w' => ∃ x, e = .returned x ∧ OwnW w' w.heap.size 25 x ex24 ∧ Below w.heap.size w w' := by
  have B : Below w.heap.size w w := Below.refl _ _
  obtain ⟨L, hL⟩ : ∃ L, L = [freeB 12, objB 0 4 false, freeB 112] := ⟨_, rfl⟩
  obtain ⟨l0, hl0⟩ : ∃ l0, l0 = laid 256 L := ⟨_, rfl⟩
  obtain ⟨ws, hws⟩ : ∃ ws, ws = wordsOf 256 1 := ⟨_, rfl⟩
  obtain ⟨a, ha⟩ : ∃ a, a = w0 [1, 3] := ⟨_, rfl⟩
  obtain ⟨b, hb⟩ : ∃ b, b = w1 [1, 3] := ⟨_, rfl⟩
  obtain ⟨pv, hpv⟩ : ∃ p, p = pk ⟨1, true, 140⟩ := ⟨_, rfl⟩
  have hbk : ∀ b ∈ L, BkOk b := by rw [hL]; decide
  have hl0l : l0.length = 256 := by rw [hl0]; exact laid_len _ _
  have hwsl : ws.length = 8 := by rw [hws]; exact wO_len _ _
  have LT := Lib.hid (fun v w h => LaidR_any 256 v L hbk (by rw [hL]; decide) (by omega) w h)
  have WT := Lib.hid (fun w => Written_any 256 1 w (by decide))
  have KT := Lib.hid (fun v w h => KWriteR_any v [1, 3] a b 0 ha hb (by decide) w h)
  have OT := Lib.hid (fun w => OfR_any ⟨1, true, 140⟩ pv hpv (by decide) w)
  rw [← hl0] at LT; rw [← hws] at WT
  have HX := Lib.hid (show ex24 = (putW (putW (putW l0 0 ws) 8 ws) 96 [a, b]).set 112 pv from by rw [ex24, base22, hl0, hL, hws, ha, hb, hpv])
  have HL := Lib.hid hL; have HL0 := Lib.hid hl0l; have HWS := Lib.hid hwsl
  clear hL hl0 hws ha hb hpv hbk hl0l hwsl
  go_enter Try.func36, Try.ntmps36
  go_upto_region 2 with (fail)
  refine wp_gen (fun Wv => Bx Wv (w.heap.size) (74) (#[.int .i64 0, .int .i64 4, .int .i64 1, .int .i64 0, .bool false, .int .u64 0]) ∧ Below w.heap.size w Wv) ⟨((Bx.at_ (by simp))), ((Below.refl _ w).alloc (by simp <;> omega) _)⟩ ?_
  rintro wa1 ⟨g1, b⟩
  replace B := B.trans (b.mono B.size); clear b
  have c_g1 := g1.cell; have f_g1 := g1.free; have a_g1 := fun o => (g1.alloc o).cell; have d_g1 := fun o o2 => ((g1.alloc o).alloc o2).cell; have e_g1 := fun o => (g1.alloc o).free
  go_wp2_with fail
  refine (LT.out _ _ (lit_blocks L rfl (by rw [HL.out]; rfl) (by rw [HL.out]; rfl) (by rw [HL.out]; decide))).mono ?_
  rintro e w2 ⟨x, rfl, ox, b⟩
  have hal := B.alloc B.size (.cells #[.int .i64 0, .int .i64 12, .int .i64 2, .int .i64 0, .bool false, .int .u64 0, .int .i64 0, .int .i64 4, .int .i64 1, .int .i64 0, .bool false, .int .u64 0, .int .i64 0, .int .i64 112, .int .i64 2, .int .i64 0, .bool false, .int .u64 0] 74)
  replace B := hal.trans (b.mono hal.size)
  replace ox : OwnW w2 w.heap.size 25 x l0 := own_mono ox hal.size
  clear b hal g1 c_g1 f_g1 a_g1 d_g1 e_g1
  have hb1 := B.size
  go_wp2_with fail
  refine (WT.out _).mono ?_
  rintro e w3 ⟨s, rfl, os, b⟩
  have hne := (own_ne ox os (Nat.le_refl _)).1
  replace ox := ox.below b
  replace B := B.trans (b.mono B.size)
  have hb2 := B.size
  clear b
  have HO := Lib.hid (And.intro ox (And.intro os (And.intro hne B)))
  clear ox os hne B
  go_wp2_with fail
  refine (KT.out _ _ (lit_byts [1, 3] rfl rfl rfl (by simp))).mono ?_
  rintro e w4 ⟨rfl, b⟩
  have hal : Below w3.heap.size w3 (w3.alloc (.cells #[.int .u8 1, .int .u8 3] 5)) := (Below.refl _ _).alloc (Nat.le_refl _) _
  have hb34 := hal.trans (b.mono hal.size)
  obtain ⟨ox, os, hne, B⟩ := HO.out
  replace ox := ox.below hb34
  replace os := os.below hb34
  replace B := B.trans (hb34.mono B.size)
  clear hal hb34 b
  go_upto_region 5 with (fail)
  refine wp_gen (fun Wv => Bx Wv (w4.heap.size) (65) (#[.int .u64 a.toNat, .int .u64 b.toNat]) ∧ Below w4.heap.size w4 Wv) ⟨((Bx.at_ (by simp))), ((Below.refl _ w4).alloc (by simp <;> omega) _)⟩ ?_
  rintro wa2 ⟨g4, b⟩
  replace ox := ox.below b; replace os := os.below b; replace B := B.trans (b.mono B.size); clear b
  have c_g4 := g4.cell; have f_g4 := g4.free; have a_g4 := fun o => (g4.alloc o).cell; have d_g4 := fun o o2 => ((g4.alloc o).alloc o2).cell; have e_g4 := fun o => (g4.alloc o).free
  obtain ⟨d1, sl1, cut1⟩ := own_cut2 (P := Try.prog) ox Try.underlying22 one_u64 (lo := 0) (hi := 8) (by omega) (by rw [HL0.out]; omega)
  have sl1' : ∀ W, (Instr.sliceAt 22 x (some (.int .i64 0)) (some (.int .i64 8)) none).run Try.prog W = .ok d1 W := sl1
  clear sl1
  go_wp2_with fail
  obtain ⟨w6, x6, hrun, o6, B6, g6⟩ := copyW (l := l0) (m := ws) (a := 0) ox cut1 os.rd (by rw [HWS.out]) (by rw [HL0.out]; omega) B (Nat.le_refl _)
  rw [hrun, Result.andThen_ok]
  have g4' := g4.grown g6 (own_not_bx ox g4 (by decide))
  have os' := os.kept g6 hne
  clear hrun cut1 sl1' ox os g4 c_g4 f_g4 a_g4 d_g4 e_g4 B g6
  have hlen1 : (putW l0 0 ws).length = 256 := by rw [putW_len, HL0.out]
  obtain ⟨d2, sl2, cut2⟩ := own_cut2 (P := Try.prog) o6 Try.underlying22 one_u64 (lo := 8) (hi := 16) (by omega) (by rw [hlen1]; omega)
  have sl2' : ∀ W, (Instr.sliceAt 22 x (some (.int .i64 8)) (some (.int .i64 16)) none).run Try.prog W = .ok d2 W := sl2
  clear sl2
  go_wp2_with fail
  obtain ⟨w7, x7, hrun, o7, B7, g7⟩ := copyW (l := putW l0 0 ws) (m := ws) (a := 8) o6 cut2 os'.rd (by rw [HWS.out]) (by rw [hlen1]; omega) B6 (Nat.le_refl _)
  rw [hrun, Result.andThen_ok]
  have g5' := g4'.grown g7 (own_not_bx o6 g4' (by decide))
  clear hrun cut2 sl2' o6 os' g4' B6 g7
  have hlen2 : (putW (putW l0 0 ws) 8 ws).length = 256 := by rw [putW_len, hlen1]
  obtain ⟨d3, sl3, cut3⟩ := own_cut2 (P := Try.prog) o7 Try.underlying22 one_u64 (lo := 96) (hi := 98) (by omega) (by rw [hlen2]; omega)
  have sl3' : ∀ W, (Instr.sliceAt 22 x (some (.int .i64 96)) (some (.int .i64 98)) none).run Try.prog W = .ok d3 W := sl3
  clear sl3
  go_upto_region 7 with (fail)
  refine wp_region_qtail 3 (by kernel_rfl) (by kernel_rfl) ?_
  simp only [List.take_succ_cons, List.take_zero, List.drop_succ_cons, List.drop_zero]
  iterate 3 (go_big_quiet_step (fail))
  refine wpQuiet_nil ?_
  go_wp2_with fail
  have o7d : OwnW w7.drew w.heap.size 25 x (putW (putW l0 0 ws) 8 ws) := o7
  have g5d : Bx w7.drew w4.heap.size 65 #[.int .u64 a.toNat, .int .u64 b.toNat] := g5'
  obtain ⟨w8, x8, hrun, o8, B8, g8⟩ := copyW (l := putW (putW l0 0 ws) 8 ws) (m := [a, b]) (a := 96) o7d cut3 (arr_words g5d) rfl (by rw [hlen2]; omega) B7.drew (Nat.le_refl _)
  rw [hrun, Result.andThen_ok]
  clear hrun cut3 sl3' o7 o7d g5d g5' B7 g8
  have hlen3 : (putW (putW (putW l0 0 ws) 8 ws) 96 [a, b]).length = 256 := by rw [putW_len, hlen2]
  have hb8 := B8.size
  go_wp2_with fail
  refine (OT.out _).mono ?_
  rintro e w9 ⟨rfl, b9⟩
  obtain ⟨ad, u0, ia, ca, fa, hb, -, hset⟩ := own_at (P := Try.prog) (o8.below b9) Try.underlying22 one_u64 (k := 112) (by omega) (by rw [hlen3]; omega)
  have HR := Lib.hid (show OwnW (w9.setCell ad (.int .u64 pv.toNat)) w.heap.size 25 x ex24 ∧ Below w.heap.size w (w9.setCell ad (.int .u64 pv.toNat)) from ⟨by rw [HX.out]; exact OwnW.set (hset (.int .u64 pv.toNat)), (B8.trans (b9.mono hb8)).setCell (p := ad) hb _⟩)
  clear hset hb o8 B8 b9 hlen3 hlen2 hlen1
  go_wp2
  go_ret
  exact ⟨_, rfl, HR.out⟩
end Go.Proofs.Ytiiilaojllmmiaa
namespace Go.Proofs.Ytiiilaojllmmiaa
open Go Go.RowKit
section
variable {P : Program} {ops : Array Oper} {md : Region.Mode} {C : Array Bool → World → Prop} {nn : Nat → Bool} {x : Nat → Value} {T : Nat → Sem Next → Prop}
def wpAnyH (P : Program) (md : Region.Mode) (ops : Array Oper) (C : Array Bool → World → Prop) (nn : Nat → Bool) (x : Nat → Value) (T : Nat → Sem Next → Prop) (n : Nat) (L : Array Bool → Act → Prop) : Nat → Array Bool → Act → Prop
  | 0, listed, a => L listed a
  | f + 1, listed, a =>
    Region.ready md ops listed ≠ [] ∧ ∀ i ∈ Region.ready md ops listed, i < n ∧ qOpM P md ops C nn x T i (wpAnyH P md ops C nn x T n L f (listed.setIfInBounds i true)) a
theorem wpAnyH_first {n i : Nat} {oi : Oper} {v : Value} {L : Array Bool → Act → Prop} (hi : ops[i]? = some oi) (hsel : ∀ (j : Nat) (o : Oper) cs b, ops[j]? = some o → o.op ≠ .select cs b)
    (hs : Region.sinkB md ops n = true) (hc : Region.chainB md ops n = true) (hn : n < ops.size) (hin : i < n)
    (hdone : ∀ listed a, L listed a → ∀ j ∈ Region.ready md ops listed, n ≤ j) :
    ∀ (f : Nat) (listed : Array Bool) (a : Act), HeadInv md ops n listed →
      (∀ j oj, ops[j]? = some oj → j ≠ i → listed.getD j true = false → (∀ e ∈ oj.after, Region.binds md e = true → e.on ≠ i) → oi.apart ops oj = true) →
      i ∈ Region.ready md ops listed → YieldsM P md ops C nn x i oi v a ∧ (nn i = true → T i (execOp a.eval oi)) →
      wpAnyH P md ops C nn x T n L f (listed.setIfInBounds i true) (a.put oi.dst v) → wpAnyH P md ops C nn x T n L (f + 1) listed a := by
  intro f
  induction f with
  | zero =>
    intro listed a inv _ hr hy H
    have hun := (mem_ready.1 hr).1
    refine ⟨fun h => (by rw [h] at hr; cases hr), fun j hj => ?_⟩
    have hjn : j < n := by
      rcases Nat.lt_or_ge j n with h | h
      · exact h
      · exact absurd hj (tail_waits hs hc hn inv _ i rfl hin hun j h)
    refine ⟨hjn, ?_⟩
    by_cases hji : j = i
    · subst hji; unfold qOpM; simp only [hi]; exact ⟨v, hy, H⟩
    · have := hdone _ _ H j (ready_mono hj hji)
      omega
  | succ f ih =>
    intro listed a inv hfree hr hy H
    have hun := (mem_ready.1 hr).1
    refine ⟨fun h => (by rw [h] at hr; cases hr), fun j hj => ?_⟩
    have hjn : j < n := by
      rcases Nat.lt_or_ge j n with h | h
      · exact h
      · exact absurd hj (tail_waits hs hc hn inv _ i rfl hin hun j h)
    refine ⟨hjn, ?_⟩
    by_cases hji : j = i
    · subst hji; unfold qOpM; simp only [hi]; exact ⟨v, hy, H⟩
    · have h1 := (H.2 j (ready_mono hj hji)).2
      obtain ⟨hjun, oj, hoj, hall⟩ := mem_ready.1 hj
      have hnot : ∀ e ∈ oj.after, Region.binds md e = true → e.on ≠ i := fun e he hb heq => by
        have h1 := hall e he hb
        rw [heq, getD_both hun] at h1
        cases h1
      have h2 := qOpM_put hoj (hfree j oj hoj hji hjun hnot) (fun cs b => hsel i oi cs b hi) (fun cs b => hsel j oj cs b hoj) hy h1
      have hfree' : ∀ k ok, ops[k]? = some ok → k ≠ i → (listed.setIfInBounds j true).getD k true = false →
          (∀ e ∈ ok.after, Region.binds md e = true → e.on ≠ i) → oi.apart ops ok = true := fun k ok hk hki hun hno => by
        refine hfree k ok hk hki ?_ hno
        by_cases hjk : j = k
        · subst hjk; exact hjun
        · rw [getD_set_ne true hjk] at hun; exact hun
      refine qOpM_mono (fun a' h3 => ih (listed.setIfInBounds j true) a' (inv.set hj hjn) hfree' (ready_mono hr (Ne.symm hji)) h3.1 ?_) h2
      rw [Array.setIfInBounds_comm _ _ hji]
      exact h3.2
theorem wpAnyH_lex {n g : Nat} {Lq : Act → Prop} (hsel : Region.noSelect ops = true) (hs : Region.sinkB md ops n = true) (hc : Region.chainB md ops n = true) (hn : n < ops.size) :
    ∀ (l : List Oper) (k : Nat) (listed : Array Bool) (a : Act), (∀ j, j < l.length → l[j]? = ops[k + j]?) → k + l.length = n → HeadInv md ops n listed → (∀ j, j < k → listed.getD j false = true) →
    Region.lexHead md ops g l.length k listed = true → wpM P md ops C nn x T Lq l k a →
    wpAnyH P md ops C nn x T n (fun listed' a' => Region.seqB md ops g n listed' = true ∧ (∀ j, j < n → listed'.getD j false = true) ∧ Lq a') l.length listed a
  | [], k, listed, a, _, hk, _, hd, hB, h => by
    have : k = n := by simpa using hk
    subst this
    exact ⟨by simpa [Region.lexHead] using hB, hd, h⟩
  | o :: l, k, listed, a, hl, hk, inv, hd, hB, h => by
    have h0 : ops[k]? = some o := by simpa using (hl 0 (by simp)).symm
    simp only [List.length_cons, Region.lexHead, Bool.and_eq_true] at hB
    obtain ⟨⟨hr, hf⟩, hB'⟩ := hB
    have hkn : k < n := by simp only [List.length_cons] at hk; omega
    have hr' : k ∈ Region.ready md ops listed := by simpa using hr
    obtain ⟨v, hy, hK⟩ := h
    have hun := (mem_ready.1 hr').1
    exact wpAnyH_first h0 (Region.noSelect_spec hsel) hs hc hn hkn (fun listed' a' hL => seqB_ready hL.1) l.length listed a inv (Region.free_spec h0 hf) hr' hy
      (wpAnyH_lex hsel hs hc hn l (k + 1) _ _ (fun j hj => by have := hl (j + 1) (by simp; omega); simpa [Nat.add_assoc, Nat.add_comm 1 j] using this) (by simp only [List.length_cons] at hk; omega) (inv.set hr' hkn) (fun j hj => by
        by_cases hjk : j = k
        · subst hjk; exact (getD_on hun).2
        · rw [getD_set_ne false (Ne.symm hjk)]; exact hd j (by omega)) hB' hK)
theorem wpAny_of_H {G : Type} {val : G → Nat → Value} {V : G → Prop} {Ag : Array Bool → G → G → Prop} {Cg : G → Array Bool → World → Prop} {Tg : G → Nat → Sem Next → Prop} {Q' : Exit → Act → World → Prop} {n gt : Nat} {L : G → Array Bool → Act → Prop}
    (hL : ∀ g l a w, Cg g l w → L g l a → wpAny P md ops Q' gt l a w)
    (hrf : ∀ (l : Array Bool) g, Ag l g g) (htr : ∀ (l : Array Bool) g g' g'', Ag l g g' → Ag l g' g'' → Ag l g g'') (hmn : ∀ (l : Array Bool) i g g', Ag (l.setIfInBounds i true) g g' → l.getD i true = false → Ag l g g')
    (hvl : ∀ (l : Array Bool) i g g', nn i = true → l.getD i true = false → Ag (l.setIfInBounds i true) g g' → val g i = val g' i) (hag : ∀ (l : Array Bool) g g' w, Ag l g g' → Cg g l w → Cg g' l w)
    (hT : ∀ i s (l : Array Bool) w g, nn i = true → Tg g i s → V g → i ∈ Region.ready md ops l → Cg g l w → uponN P (fun v w' => ∃ g', V g' ∧ Ag l g g' ∧ v = val g' i ∧ Cg g' (l.setIfInBounds i true) w') (s.run P w)) :
    ∀ (fuel : Nat) (l : Array Bool) (a : Act) (w : World) (g0 : G), V g0 → Cg g0 l w →
    (∀ g, V g → Ag l g0 g → wpAnyH P md ops (Cg g) nn (val g) (Tg g) n (L g) fuel l a) → wpAny P md ops Q' (fuel + gt) l a w
  | 0, l, a, w, g0, hg0, hC, h => by rw [Nat.zero_add]; exact hL g0 l a w hC (h g0 hg0 (hrf _ _))
  | fuel + 1, l, a, w, g0, hg0, hC, h => by
    rw [show fuel + 1 + gt = (fuel + gt) + 1 by omega]
    refine ⟨fun h0 => absurd h0 (h g0 hg0 (hrf _ _)).1, fun i hi => ?_⟩
    have hun := (mem_ready.1 hi).1
    have h1 := ((h g0 hg0 (hrf _ _)).2 i hi).2
    unfold qOpM at h1
    unfold wpOp
    split
    · rename_i ho; simp only [ho] at h1
    · rename_i o ho
      simp only [ho] at h1
      obtain ⟨v, ⟨h2, hT0⟩, h3⟩ := h1
      have next : nn i = true → ∀ g', V g' → Ag l g0 g' → ∀ w', Cg g' (l.setIfInBounds i true) w' → wpAny P md ops Q' (fuel + gt) (l.setIfInBounds i true) (a.put o.dst (val g' i)) w' := by
        intro hn g' hg' hA w' hC'
        refine wpAny_of_H (n := n) hL hrf htr hmn hvl hag hT fuel _ _ w' g' hg' hC' fun g hg hA2 => ?_
        have h4 := ((h g hg (htr _ _ _ _ hA (hmn _ _ _ _ hA2 hun))).2 i hi).2
        unfold qOpM at h4
        simp only [ho] at h4
        obtain ⟨v', ⟨h5, _⟩, h6⟩ := h4
        rcases h5 with ⟨_, e5, _⟩ | ⟨hne, _⟩
        · rw [hvl _ _ _ _ hn hun hA2, ← e5]; exact h6
        · rw [hn] at hne; cases hne
      rcases h2 with ⟨hn, hv, hw⟩ | ⟨hn, h2⟩
      · rw [if_pos hw]
        left
        have h5 := hT i _ l w g0 hn (hT0 hn) hg0 hi hC
        unfold Oper.wp
        generalize (execOp a.eval o).run P w = r at *
        cases r with
        | ok n w' =>
          cases n <;> simp only [uponN] at h5 <;> simp only [Oper.upon]
          case value u => obtain ⟨g', e1, e2, rfl, e4⟩ := h5; exact next hn g' e1 e2 _ e4
          case enter f args =>
            refine h5.mono fun e w'' ⟨u, he, g', e1, e2, e3, e4⟩ => ?_
            subst he; subst e3
            exact next hn g' e1 e2 _ e4
        | halt y w' => simp only [uponN] at h5
      · have hval : ∀ g, V g → Ag (l.setIfInBounds i true) g0 g → wpAnyH P md ops (Cg g) nn (val g) (Tg g) n (L g) fuel (l.setIfInBounds i true) (a.put o.dst v) := by
          intro g hg hA2
          have hA := hmn _ _ _ _ hA2 hun
          have h4 := ((h g hg hA).2 i hi).2
          unfold qOpM at h4
          simp only [ho] at h4
          obtain ⟨v', ⟨h5, _⟩, h6⟩ := h4
          rcases h5 with ⟨e, _⟩ | ⟨_, h5⟩
          · rw [hn] at e; cases e
          · have hvv : v = v' := by
              rcases h2 with ⟨hw, ha⟩ | ⟨hw, rfl, _⟩
              · rcases h5 with ⟨_, hb⟩ | ⟨hw', _⟩
                · exact uponV_val (ha l w hi hC) (hb l w hi (hag _ _ _ _ hA hC))
                · rw [hw] at hw'; cases hw'
              · rcases h5 with ⟨hw', _⟩ | ⟨_, e, _⟩
                · rw [hw] at hw'; cases hw'
                · exact e.symm
            rw [hvv]; exact h6
        rcases h2 with ⟨hw, ha⟩ | ⟨hw, rfl, hv⟩
        · rw [if_pos hw]
          left
          have h5 := ha l w hi hC
          unfold Oper.wp
          generalize (execOp a.eval o).run P w = r at *
          cases r with
          | ok n w' =>
            cases n <;> simp only [uponV] at h5 <;> simp only [Oper.upon]
            case value u => obtain ⟨e1, e2⟩ := h5; rw [e1]; exact wpAny_of_H (n := n) hL hrf htr hmn hvl hag hT fuel _ _ w' g0 hg0 e2 hval
            case skip => obtain ⟨e1, e2⟩ := h5; rw [← e1]; exact wpAny_of_H (n := n) hL hrf htr hmn hvl hag hT fuel _ _ w' g0 hg0 e2 hval
          | halt y w' => simp only [uponV] at h5
        · rw [if_neg (by rw [hw]; exact Bool.false_ne_true)]
          exact wpAny_of_H (n := n) hL hrf htr hmn hvl hag hT fuel _ _ w g0 hg0 (hv l w hi hC) hval
end
/-- a world behind w, of which p holds besides -/
structure FutP (w : World) (p : World → Prop) where
  W : World
  h : Below w.heap.size w W
  hp : p W
/-- what holds at the head: no old block is changed; of the operations ns that are done, what is known of their values -/
def CH (w : World) (ns : List Nat) (dep : Nat → List Nat) (Φ : Nat → (Nat → Value) → World → Prop) (g : Nat → Value) : Array Bool → World → Prop := fun listed W =>
  Below w.heap.size w W ∧ ∀ k ∈ ns, listed.getD k false = true → Φ k g W ∧ ∀ j ∈ dep k, listed.getD j false = true
section
variable {P : Program} {ops : Array Oper} {rest : List Oper} {o : Oper} {a : Act} {Q : Act → Prop} {k : Nat} {md : Region.Mode} {T : Nat → Sem Next → Prop} {w : World} {ns : List Nat} {dep : Nat → List Nat} {Φ : Nat → (Nat → Value) → World → Prop} {g : Nat → Value}
theorem wpH_nil {C : Array Bool → World → Prop} {nn : Nat → Bool} {x : Nat → Value} (h : Q a) : wpM P md ops C nn x T Q [] k a := h
/-- an operation that only reads what was there before -/
theorem wpH_read0 (hV : isV o.op = true) (hn : (ns.contains k) = false)
    (h : wpQuiet P ops (fun W => ∃ x : Fut w, W = x.W) (fun a' => wpM P md ops (CH w ns dep Φ g) (fun i => ns.contains i) g T Q rest (k + 1) a') [o] a) : wpM P md ops (CH w ns dep Φ g) (fun i => ns.contains i) g T Q (o :: rest) k a := by
  have skip : ∀ {listed : Array Bool} {W : World}, CH w ns dep Φ g listed W → CH w ns dep Φ g (listed.setIfInBounds k true) W := fun {listed W} hW => by
    refine ⟨hW.1, fun j hj hl => ?_⟩
    have hjk : k ≠ j := fun e => by subst e; rw [List.contains_iff_mem.2 hj] at hn; cases hn
    rw [getD_set_ne false hjk] at hl
    obtain ⟨h1, h2⟩ := hW.2 j hj hl
    exact ⟨h1, fun i hi => getD_set_true (h2 i hi)⟩
  unfold wpQuiet at h
  split at h
  · rename_i hw
    obtain ⟨v, h1, h2⟩ := h
    refine ⟨v, ⟨.inr ⟨hn, .inl ⟨hw, fun listed W hl hW => ?_⟩⟩, fun e => (by have e' : ns.contains k = true := e; rw [hn] at e'; cases e')⟩, h2⟩
    have h3 := h1 W ⟨⟨W, hW.1⟩, rfl⟩
    unfold Oper.quietAt at h3
    cases hr : (execOp a.eval o).run P W with
    | ok n w' =>
      obtain ⟨u, rfl⟩ := isV_value hV hr
      rw [hr] at h3
      simp only [Oper.quietUpon] at h3
      simp only [uponV]
      obtain ⟨e1, e2⟩ := h3
      subst e1
      exact ⟨e2, skip hW⟩
    | halt x w' => rw [hr] at h3; simp only [Oper.quietUpon] at h3
  · rename_i hw
    exact ⟨undef, ⟨.inr ⟨hn, .inr ⟨by simpa using hw, rfl, fun listed W hl hW => skip hW⟩⟩, fun e => (by have e' : ns.contains k = true := e; rw [hn] at e'; cases e')⟩, h⟩
/-- an operation that makes fresh memory -/
theorem wpH_new (hn : ns.contains k = true) (hw : Region.wanted o (yielded ops a.tmps) = true) (hT : T k (execOp a.eval o)) (h : wpM P md ops (CH w ns dep Φ g) (fun i => ns.contains i) g T Q rest (k + 1) (a.put o.dst (g k))) : wpM P md ops (CH w ns dep Φ g) (fun i => ns.contains i) g T Q (o :: rest) k a :=
  ⟨g k, ⟨.inl ⟨hn, rfl, hw⟩, fun _ => hT⟩, h⟩
end
/-- what a fresh operation does: no old block is changed; its value is of the shape V, and Φ is known of it -/
def TS (P : Program) (w : World) (dep : Nat → List Nat) (V : Nat → Value → Prop) (Φ : Nat → (Nat → Value) → World → Prop) (g : Nat → Value) (k : Nat) (s : Sem Next) : Prop :=
  ∀ W, Below w.heap.size w W → (∀ j ∈ dep k, Φ j g W) → uponN P (fun v W' => V k v ∧ Below W.heap.size W W' ∧ ∀ g', g' k = v → (∀ j ∈ dep k, g' j = g j) → Φ k g' W') (s.run P W)
section
variable {P : Program} {w : World} {dep : Nat → List Nat} {V : Nat → Value → Prop} {Φ : Nat → (Nat → Value) → World → Prop} {g : Nat → Value} {k : Nat} {o : Oper} {a : Act}
/-- a call -/
theorem TS.call {f : FuncId} {xs : Array Operand} {ats : Array TypeId} {dst : Option Tmp} {ty : TypeId} {pos : String} {after : Array Edge} {gd : Option (Nat × Bool)} {av : Array Value} (hav : xs.map a.eval = av) (hf : ∀ W, (callFunc f (#[] ++ av ++ #[])).run P W = .ok (.enter f av) W)
    (h : ∀ W, Below w.heap.size w W → (∀ j ∈ dep k, Φ j g W) → Calls P f av W fun e W' => ∃ v, e = .returned v ∧ V k v ∧ Below W.heap.size W W' ∧ ∀ g', g' k = v → (∀ j ∈ dep k, g' j = g j) → Φ k g' W') :
    TS P w dep V Φ g k (execOp a.eval ⟨dst, .call ⟨.value (.func f), xs, ats⟩, ty, pos, after, gd⟩) := by
  intro W hW hd
  rw [execOp_call_go, hav, hf]
  exact h W hW hd
/-- what yields a value -/
theorem TS.val {s : Sem Next} (h : ∀ W, Below w.heap.size w W → (∀ j ∈ dep k, Φ j g W) → ∃ v W', s.run P W = .ok (.value v) W' ∧ V k v ∧ Below W.heap.size W W' ∧ ∀ g', g' k = v → (∀ j ∈ dep k, g' j = g j) → Φ k g' W') : TS P w dep V Φ g k s := by
  intro W hW hd
  obtain ⟨v, W', h1, h2⟩ := h W hW hd
  rw [h1]; exact h2
/-- a slice is made -/
theorem TS.make {t : TypeId} {l c : Operand} (ho : o.op = .makeSlice t l c) {lv cv : Value} (hl : a.eval l = lv) (hc : a.eval c = cv)
    (h : ∀ W, Below w.heap.size w W → (∀ j ∈ dep k, Φ j g W) → ∃ v W', (Instr.makeSlice t lv cv).run P W = .ok v W' ∧ V k v ∧ Below W.heap.size W W' ∧ ∀ g', g' k = v → (∀ j ∈ dep k, g' j = g j) → Φ k g' W') : TS P w dep V Φ g k (execOp a.eval o) := by
  refine TS.val fun W hW hd => ?_
  obtain ⟨v, W', h1, h2⟩ := h W hW hd
  refine ⟨v, W', ?_, h2⟩
  simp [execOp, ho, hl, hc, h1]
/-- what is run for a value -/
theorem TS.sem {s : Sem Value} (hs : execOp a.eval o = (do pure (Next.value (← s)))) (h : ∀ W, Below w.heap.size w W → (∀ j ∈ dep k, Φ j g W) → ∃ v W', s.run P W = .ok v W' ∧ V k v ∧ Below W.heap.size W W' ∧ ∀ g', g' k = v → (∀ j ∈ dep k, g' j = g j) → Φ k g' W') : TS P w dep V Φ g k (execOp a.eval o) := by
  refine TS.val fun W hW hd => ?_
  obtain ⟨v, W', h1, h2⟩ := h W hW hd
  refine ⟨v, W', ?_, h2⟩
  rw [hs, Sem.run_bind, h1]; rfl
end
/-- the region: the first n are the head; ns those that make fresh memory; dep which of these each of them waits for; Φ what is known of their values; T what they run -/
theorem wp_region_ftail {P : Program} {id : Nat} {Q : Exit → Act → World → Prop} {a : Act} {w : World} {l : List Oper} (n : Nat) (ns : List Nat) (dep : Nat → List Nat) (V : Nat → Value → Prop) (Φ : Nat → (Nat → Value) → World → Prop)
    (hm : P.follows .mixedOrders = true) (hB : Region.lexTailB .any l.toArray n = true)
    (hnj : (ns.all fun k => decide (k < n) && match l.toArray[k]? with | some o => (dep k).all (fun j => ns.contains j && o.after.any fun e => Region.binds .any e && e.on == j) | none => false) = true)
    (hst : ∀ k ∈ ns, ∀ g W W', Φ k g W → Below W.heap.size W W' → Φ k g W')
    (hdp : ∀ k ∈ ns, ∀ g g' W, (∀ j, (j = k ∨ j ∈ dep k) → g j = g' j) → Φ k g W → Φ k g' W)
    (hV0 : ∀ k ∈ ns, ∃ v, V k v)
    (h : ∀ g, (∀ k ∈ ns, V k (g k)) → wpM P .any l.toArray (CH w ns dep Φ g) (fun i => ns.contains i) g (TS P w dep V Φ g) (fun a' => ∀ W, Below w.heap.size w W → (∀ k ∈ ns, Φ k g W) → wpList P l.toArray Q (l.drop n) a' W) (l.take n) 0 a) : (Code.region id l.toArray true).wp P Q a w := by
  simp only [Region.lexTailB, Bool.and_eq_true, decide_eq_true_eq] at hB
  obtain ⟨⟨⟨⟨hsel, hn⟩, hs⟩, hc⟩, hlex⟩ := hB
  have hn' : n < l.length := by simpa using hn
  have htl : (l.take n).length = n := by simp; omega
  have hdl : (l.drop n).length = l.toArray.size - n := by simp
  have inv0 : HeadInv .any l.toArray n (Array.replicate l.toArray.size false) :=
    ⟨by simp, fun j oj _ hl => (by rw [getD_replicate_false] at hl; cases hl), fun t _ ht => getD_in (by simpa using ht) (getD_replicate_false _ _)⟩
  have H := fun g hg => wpAnyH_lex (md := .any) (g := l.toArray.size - n) hsel hs hc hn (l.take n) 0 _ a (fun j hj => by
    have hj' : j < n := by rw [htl] at hj; exact hj
    simp [hj']) (by simpa using htl) inv0 (fun j hj => by omega) (by rw [htl]; exact hlex) (h g hg)
  have un : ∀ {listed : Array Bool} {i : Nat}, listed.getD i true = false → listed.getD i false = false := fun {listed i} h1 => getD_both h1
  obtain ⟨g0, hg0⟩ : ∃ g0 : Nat → Value, ∀ k ∈ ns, V k (g0 k) := by
    have h1 : ∀ k, ∃ v, k ∈ ns → V k v := fun k => by
      by_cases hk : k ∈ ns
      · obtain ⟨v, hv⟩ := hV0 k hk; exact ⟨v, fun _ => hv⟩
      · exact ⟨undef, fun h => absurd h hk⟩
    obtain ⟨f, hf⟩ := Classical.axiomOfChoice h1
    exact ⟨f, hf⟩
  refine wp_region_any hm ?_
  have := wpAny_of_H (P := P) (md := .any) (ops := l.toArray) (Q' := Q) (gt := l.toArray.size - n) (n := n) (nn := fun i => ns.contains i) (G := Nat → Value) (val := fun g => g) (V := fun g => ∀ k ∈ ns, V k (g k))
    (Ag := fun listed g g' => ∀ k ∈ ns, listed.getD k false = true → g k = g' k) (Cg := CH w ns dep Φ) (Tg := TS P w dep V Φ)
    (L := fun g listed' a' => Region.seqB .any l.toArray (l.toArray.size - n) n listed' = true ∧ (∀ j, j < n → listed'.getD j false = true) ∧ ∀ W, Below w.heap.size w W → (∀ k ∈ ns, Φ k g W) → wpList P l.toArray Q (l.drop n) a' W)
    (fun g listed a' W hC hL => by
      obtain ⟨h1, h2, h3⟩ := hL
      have hlt : ∀ k ∈ ns, k < n := fun k hk => by
        have := List.all_eq_true.1 hnj k hk
        simp only [Bool.and_eq_true, decide_eq_true_eq] at this
        exact this.1
      have := wpAny_of_seq (md := .any) (Q' := Q) (l.drop n) n listed a' W (fun j => by simp [List.getElem?_drop]) (by rw [hdl]; exact h1) (h3 W hC.1 (fun k hk => (hC.2 k hk (h2 k (hlt k hk))).1))
      rwa [hdl] at this)
    (fun _ _ _ _ _ => rfl) (fun l g g' g'' h1 h2 k hk hl => (h1 k hk hl).trans (h2 k hk hl))
    (fun listed i g g' h1 h2 k hk hl => h1 k hk (getD_set_true hl))
    (fun listed i g g' hi h1 h2 => h2 i (List.contains_iff_mem.1 hi) (getD_on h1).2)
    (fun listed g g' W hA hC => ⟨hC.1, fun k hk hl => ⟨hdp k hk g g' W (fun j hj => by
      rcases hj with rfl | hj
      · exact hA j hk hl
      · have hdj := List.all_eq_true.1 hnj k hk
        simp only [Bool.and_eq_true] at hdj
        have h2 := (hC.2 k hk hl).2 j hj
        cases ho : l.toArray[k]? with
        | none => rw [ho] at hdj; cases hdj.2
        | some o =>
          have h3 := hdj.2
          simp only [ho] at h3
          have h4 := List.all_eq_true.1 h3 j hj
          simp only [Bool.and_eq_true] at h4
          exact hA j (List.contains_iff_mem.1 h4.1) h2) (hC.2 k hk hl).1, (hC.2 k hk hl).2⟩⟩)
    (fun i s listed W g hi hTs hg hr hC => by
      have hin : i ∈ ns := List.contains_iff_mem.1 hi
      have hun := (mem_ready.1 hr).1
      have hdj := List.all_eq_true.1 hnj i hin
      simp only [Bool.and_eq_true] at hdj
      obtain ⟨o, ho, _⟩ := (mem_ready.1 hr).2
      have h3 := hdj.2
      simp only [ho] at h3
      have hdeps : ∀ j ∈ dep i, j ∈ ns ∧ listed.getD j false = true := fun j hj => by
        have h4 := List.all_eq_true.1 h3 j hj
        simp only [Bool.and_eq_true] at h4
        exact ⟨List.contains_iff_mem.1 h4.1, ready_after ho h4.2 hr⟩
      have h5 := hTs W hC.1 (fun j hj => (hC.2 j (hdeps j hj).1 (hdeps j hj).2).1)
      refine uponN_mono (fun v W' ⟨e0, e1, e2⟩ => ?_) h5
      refine ⟨fun j => if j = i then v else g j, fun k hk => ?_, fun k hk hl => ?_, by simp, hC.1.trans (e1.mono hC.1.size), fun k hk hl => ?_⟩
      · by_cases hki : k = i
        · subst hki; simpa using e0
        · simpa [hki] using hg k hk
      · have hki : k ≠ i := fun e => by subst e; rw [un hun] at hl; cases hl
        simp [hki]
      · by_cases hki : k = i
        · subst hki
          refine ⟨e2 _ (by simp) (fun j hj => ?_), fun j hj => getD_set_true (hdeps j hj).2⟩
          have hjk : j ≠ k := fun e => by subst e; have := (hdeps j hj).2; rw [un hun] at this; cases this
          simp [hjk]
        · rw [getD_set_ne false (Ne.symm hki)] at hl
          obtain ⟨f1, f2⟩ := hC.2 k hk hl
          refine ⟨hdp k hk g _ W' (fun j hj => ?_) (hst k hk g W W' f1 e1), fun j hj => getD_set_true (f2 j hj)⟩
          have hji : j ≠ i := fun e => by
            subst e
            rcases hj with e | hj
            · exact hki e.symm
            · have := f2 j hj; rw [un hun] at this; cases this
          simp [hji])
    _ _ a (World.drew w) g0 hg0 ⟨(Below.refl _ _).drew, fun k hk hl => by rw [getD_replicate_false] at hl; cases hl⟩ (fun g hg _ => H g hg)
  rw [htl, show n + (l.toArray.size - n) = l.toArray.size by omega] at this
  exact this
/-- the same with one fresh operation, which makes one block -/
def ΦB (b k0 : Nat) (mk : Nat → Value) (t : TypeId) (cs : Array Value) (k : Nat) (g : Nat → Value) (W : World) : Prop := k = k0 → ∃ p, g k0 = mk p ∧ Bx W p t cs ∧ b ≤ p
def VB (mk : Nat → Value) (_k : Nat) (v : Value) : Prop := ∃ p, v = mk p
theorem TS.block {P : Program} {w : World} {mk : Nat → Value} {t : TypeId} {cs : Array Value} {g : Nat → Value} {k0 : Nat} {o : Oper} {a : Act} (s : Sem Value) (hs : execOp a.eval o = (do pure (Next.value (← s)))) (hr : ∀ W, s.run P W = .ok (mk W.heap.size) (W.alloc (.cells cs t))) :
    TS P w (fun _ => []) (VB mk) (ΦB w.heap.size k0 mk t cs) g k0 (execOp a.eval o) :=
  TS.sem hs fun W hW _ => ⟨_, _, hr W, ⟨_, rfl⟩, (Below.refl _ _).alloc (Nat.le_refl _) _, fun g' hg' _ _ => ⟨_, hg', Bx.new _ _ _, hW.size⟩⟩
theorem wp_region_fblock {P : Program} {id : Nat} {Q : Exit → Act → World → Prop} {a : Act} {w : World} {l : List Oper} (n k0 : Nat) (mk : Nat → Value) (t : TypeId) (cs : Array Value) (hmk : ∀ p q, mk p = mk q → p = q)
    (hm : P.follows .mixedOrders = true) (hB : Region.lexTailB .any l.toArray n = true)
    (hnj : (([k0] : List Nat).all fun k => decide (k < n) && match l.toArray[k]? with | some o => (([] : List Nat)).all (fun j => ([k0] : List Nat).contains j && o.after.any fun e => Region.binds .any e && e.on == j) | none => false) = true)
    (h : ∀ g p, g k0 = mk p → wpM P .any l.toArray (CH w [k0] (fun _ => []) (ΦB w.heap.size k0 mk t cs) g) (fun i => ([k0] : List Nat).contains i) g (TS P w (fun _ => []) (VB mk) (ΦB w.heap.size k0 mk t cs) g)
      (fun a' => ∀ W, Below w.heap.size w W → Bx W p t cs → w.heap.size ≤ p → wpList P l.toArray Q (l.drop n) a' W) (l.take n) 0 a) : (Code.region id l.toArray true).wp P Q a w := by
  refine wp_region_ftail n [k0] (fun _ => []) (VB mk) (ΦB w.heap.size k0 mk t cs) hm hB hnj ?_ ?_ ?_ ?_
  · intro k hk g W W' h hb e
    obtain ⟨p, a1, a2, a3⟩ := h e
    exact ⟨p, a1, a2.below hb, a3⟩
  · intro k hk g g' W he h e
    obtain ⟨p, a1, a2, a3⟩ := h e
    subst e
    exact ⟨p, by rw [← he k (.inl rfl)]; exact a1, a2, a3⟩
  · intro k _; exact ⟨mk 0, 0, rfl⟩
  · intro g hV
    obtain ⟨p, hp⟩ := hV k0 (by simp)
    have h1 := h g p hp
    have mono : ∀ (r : List Oper) (k : Nat) (a' : Act), wpM P .any l.toArray (CH w [k0] (fun _ => []) (ΦB w.heap.size k0 mk t cs) g) (fun i => ([k0] : List Nat).contains i) g (TS P w (fun _ => []) (VB mk) (ΦB w.heap.size k0 mk t cs) g)
        (fun a' => ∀ W, Below w.heap.size w W → Bx W p t cs → w.heap.size ≤ p → wpList P l.toArray Q (l.drop n) a' W) r k a' → wpM P .any l.toArray (CH w [k0] (fun _ => []) (ΦB w.heap.size k0 mk t cs) g) (fun i => ([k0] : List Nat).contains i) g (TS P w (fun _ => []) (VB mk) (ΦB w.heap.size k0 mk t cs) g)
        (fun a' => ∀ W, Below w.heap.size w W → (∀ k ∈ [k0], ΦB w.heap.size k0 mk t cs k g W) → wpList P l.toArray Q (l.drop n) a' W) r k a' := by
      intro r
      induction r with
      | nil =>
        intro k a' h0 W hW hΦ
        obtain ⟨q, b1, b2, b3⟩ := hΦ k0 (by simp) rfl
        obtain rfl := hmk _ _ (hp.symm.trans b1)
        exact h0 W hW b2 b3
      | cons o r ih => intro k a' h0; obtain ⟨v, h1, h2⟩ := h0; exact ⟨v, h1, ih _ _ h2⟩
    exact mono _ _ _ h1
theorem mk_sl (n p q : Nat) (h : Value.slice (some ⟨p, 0, none⟩) n n = Value.slice (some ⟨q, 0, none⟩) n n) : p = q := by
  injection h with h; injection h with h; injection h with h
end Go.Proofs.Ytiiilaojllmmiaa
