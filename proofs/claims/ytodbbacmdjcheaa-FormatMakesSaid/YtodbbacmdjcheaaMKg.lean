/- Contracts of the functions that the laws 'K' reach, part 7. No condition. -/
import Derived.Test.YtodbbacmdjcheaaMKf
set_option linter.unusedVariables false
set_option linter.unusedSimpArgs false
namespace Go.Proofs.Ytodbbacmdjcheaa.L76
open L02 L05 L06 L07 L13 L14 L15 L16 L18 L19 L73 L74
/-- two words stored, in either order -/
def two36 (M : List UInt64) (p q : Nat) (a b : UInt64) (b1 b2 : Bool) : List UInt64 :=
  let M1 := if b1 then M.set p a else M
  if b2 then M1.set q b else M1
theorem two36_len (M : List UInt64) (p q : Nat) (a b : UInt64) (b1 b2 : Bool) : (two36 M p q a b b1 b2).length = M.length := by
  cases b1 <;> cases b2 <;> simp [two36]
theorem two36_set1 (M : List UInt64) {p q : Nat} (h : p ≠ q) (a b : UInt64) (b2 : Bool) : (two36 M p q a b false b2).set p a = two36 M p q a b true b2 := by
  cases b2 <;> simp [two36]
  exact List.set_comm _ _ (Ne.symm h)
theorem two36_set2 (M : List UInt64) (p q : Nat) (a b : UInt64) (b1 : Bool) : (two36 M p q a b b1 false).set q b = two36 M p q a b b1 true := by
  cases b1 <;> simp [two36]
/-- the two copies of the head, word by word -/
def fr1 (n : Nat) (s : List UInt64) : Nat → List UInt64
  | 0 => List.replicate n 0
  | k + 1 => two36 (fr1 n s k) k (8 + k) (s.getD k 0) (s.getD k 0) true true
theorem fr1_len (n : Nat) (s : List UInt64) : ∀ k, (fr1 n s k).length = n
  | 0 => by rw [fr1, List.length_replicate]
  | k + 1 => by rw [fr1, two36_len, fr1_len n s k]
theorem two_getD {M : List UInt64} {p q : Nat} {a b : UInt64} (hp : p < M.length) (hq : q < M.length) (i : Nat) : (two36 M p q a b true true).getD i 0 = if i = q then b else if i = p then a else M.getD i 0 := by
  simp only [two36, if_true, List.getD_eq_getElem?_getD, List.getElem?_set, List.length_set]
  by_cases e : i = q
  · subst e; rw [if_pos rfl, if_pos hq, if_pos rfl]; rfl
  · rw [if_neg (fun h => e h.symm), if_neg e]
    by_cases e2 : i = p
    · subst e2; rw [if_pos rfl, if_pos hp, if_pos rfl]; rfl
    · rw [if_neg (fun h => e2 h.symm), if_neg e2]
theorem fr1_getD {n : Nat} (hn : 256 ≤ n) (s : List UInt64) : ∀ k, k ≤ 8 → ∀ i, (fr1 n s k).getD i 0 = if i < k then s.getD i 0 else if 8 ≤ i ∧ i < 8 + k then s.getD (i - 8) 0 else 0
  | 0, _, i => by
    rw [if_neg (by omega), if_neg (by omega), fr1, List.getD_eq_getElem?_getD, List.getElem?_replicate]
    split <;> rfl
  | k + 1, hk, i => by
    rw [fr1, two_getD (by rw [fr1_len]; omega) (by rw [fr1_len]; omega), fr1_getD hn s k (by omega) i]
    by_cases e : i = 8 + k
    · subst e; rw [if_pos rfl, if_neg (by omega), if_pos (by omega), show 8 + k - 8 = k by omega]
    · rw [if_neg e]
      by_cases e2 : i = k
      · subst e2; rw [if_pos rfl, if_pos (by omega)]
      · rw [if_neg e2]
        by_cases e3 : i < k
        · rw [if_pos e3, if_pos (by omega)]
        · rw [if_neg e3, if_neg (show ¬ i < k + 1 by omega)]
          by_cases e4 : 8 ≤ i ∧ i < 8 + k
          · rw [if_pos e4, if_pos (by omega)]
          · rw [if_neg e4, if_neg (by omega)]
/-- the types, one behind the other -/
def fr2 (l : List UInt64) (T : List (List UInt8)) : Nat → List UInt64
  | 0 => l
  | k + 1 => two36 (fr2 l T k) (96 + 2 * k) (97 + 2 * k) (w0 (T.getD k [])) (L13.w1 (T.getD k [])) true true
theorem fr2_eq (l : List UInt64) (T : List (List UInt8)) : ∀ k, fr2 l T k = tysP l T k
  | 0 => rfl
  | k + 1 => by
    rw [fr2, fr2_eq l T k, tysP]
    show ((tysP l T k).set _ _).set _ _ = ((tysP l T k).set _ _).set (96 + 2 * k + 1) _
    rw [show 96 + 2 * k + 1 = 97 + 2 * k by omega]
theorem fr2_len (l : List UInt64) (T : List (List UInt8)) (k : Nat) : (fr2 l T k).length = l.length := by rw [fr2_eq, tysP_len]
def fresh36 (n : Nat) (T : List (List UInt8)) : List UInt64 := (fr2 (fr1 n (wordsOf n T.length) 8) T T.length).set 128 (word ⟨0, (n : Int) - 128, 2, 0, false, 0⟩)
theorem fresh36_eq {n : Nat} {T : List (List UInt8)} (hn : 256 ≤ n) (hT : T.length ≤ 8) : fresh36 n T = imageP n T := by
  have hl : (fr1 n (wordsOf n T.length) 8).length = n := fr1_len _ _ _
  have hl2 : (fr2 (fr1 n (wordsOf n T.length) 8) T T.length).length = n := by rw [fr2_len, hl]
  refine ext0 (by rw [fresh36, List.length_set, hl2, imageP_len]) fun i hi => ?_
  rw [fresh36, List.length_set, hl2] at hi
  rw [imageP_getD hn hT, fresh36, List.getD_eq_getElem?_getD, List.getElem?_set, hl2]
  by_cases e : i = 128
  · subst e; rw [if_pos rfl, if_pos hi, if_pos rfl]; rfl
  rw [if_neg (fun h => e h.symm), if_neg e, ← List.getD_eq_getElem?_getD, fr2_eq]
  by_cases c : 96 ≤ i ∧ i < 96 + 2 * T.length
  · rw [if_neg (by omega), if_neg (by omega)]
    have a1 := tysP_getD (fr1 n (wordsOf n T.length) 8) T (by rw [hl]; omega) T.length hT
    have a2 := tysP_getD (List.replicate n 0) T (by simp; omega) T.length hT
    rcases Nat.mod_two_eq_zero_or_one i with h2 | h2
    · obtain ⟨j, rfl⟩ : ∃ j, i = 96 + 2 * j := ⟨(i - 96) / 2, by omega⟩
      rw [(a1 j (by omega)).1, (a2 j (by omega)).1]
    · obtain ⟨j, rfl⟩ : ∃ j, i = 97 + 2 * j := ⟨(i - 97) / 2, by omega⟩
      rw [(a1 j (by omega)).2, (a2 j (by omega)).2]
  · rw [tysP_far _ _ (by rw [hl]; omega) _ hT _ (by omega), fr1_getD hn _ 8 (Nat.le_refl _)]
    by_cases e1 : 8 ≤ i ∧ i < 16
    · rw [if_neg (by omega), if_pos (by omega), if_pos e1]
    · by_cases e2 : i < 8
      · simp only [if_neg e1, if_pos e2]
      · simp only [if_neg e1, if_neg e2]
        rw [tysP_far _ _ (by simp; omega) _ hT _ (by omega), List.getD_eq_getElem?_getD, List.getElem?_replicate_of_lt hi]; rfl
end Go.Proofs.Ytodbbacmdjcheaa.L76
namespace Go.Proofs.Ytodbbacmdjcheaa
open Go.RowKit L02 L05 L06 L07 L13 L14 L15 L16 L18 L19 L73 L74 L76
theorem own_ix36 {P : Program} {W : World} {B e g c n j t e' : Nat} {xs : List Value} (h : W.ownsRow B e 1 (.slice (some ⟨g, 0, none⟩) n c) n xs) (ht : P.underlying t = some (.slice e')) (hi : (P.info? e').map (·.size) = some 1) (hj : j < n) :
    ∀ W', (Instr.indexAt t (.slice (some ⟨g, 0, none⟩) n c) (.int .i64 (j : Int))).run P W' = .ok (.pointer (some ⟨g, j, none⟩)) W' := by
  intro W'
  have := Rd.ixN (Rd.of_own h) ht hi hj W'
  simpa [cellAt] using this
theorem own_put36 {W : World} {B e g c n j : Nat} {xs : List Value} (h : W.ownsRow B e 1 (.slice (some ⟨g, 0, none⟩) n c) n xs) (hj : j < n) (u : Value) :
    (∃ u0, W.cell? ⟨g, j, none⟩ = some u0) ∧ W.frozen? ⟨g, j, none⟩ = false ∧ (W.setCell ⟨g, j, none⟩ u).ownsRow B e 1 (.slice (some ⟨g, 0, none⟩) n c) n (xs.set j u) ∧ B ≤ g ∧ g < W.heap.size := by
  obtain ⟨g', cap, cur, hv, hB, hg, hnc, hcm, hcs, htake⟩ := own_form h (by omega)
  have hxl : j < xs.length := by have := h.1; omega
  have hcell := Rd.cell (Rd.of_own h) (j := j) (u := xs[j]) (List.getElem?_eq_getElem hxl)
  have e2 : cellAt (.slice (some ⟨g, 0, none⟩) n c) j = ⟨g, j, none⟩ := by simp [cellAt]
  rw [e2] at hcell
  cases hv
  exact ⟨⟨_, hcell⟩, h.frozenAt j, (h.stored j u).1, hB, (Array.getElem?_eq_some_iff.1 hg).1⟩
theorem store_word36 {W : World} {ad : Addr} {u0 : Value} (hc : W.cell? ad = some u0) (hf : W.frozen? ad = false) (x : Nat) :
    (Instr.storeAt 64 (.pointer (some ad)) (.int .u64 (x : Int))).run Try.prog W = .ok () (W.setCell ad (.int .u64 (x : Int))) := by
  simp [go_sem, hc, hf]
/-- two words are stored into an own row; a block lies by -/
def FT36 (w0 : World) (B g n c : Nat) (M : List UInt64) (p q : Nat) (a b : UInt64) (gp : Nat) (t : TypeId) (cs : Array Value) : Bool → Bool → World → Prop := fun b1 b2 W =>
  Below B w0 W ∧ OwnW W B 64 (.slice (some ⟨g, 0, none⟩) n c) (two36 M p q a b b1 b2) ∧ Bx W gp t cs
section
variable {w0 : World} {B g n c : Nat} {M : List UInt64} {p q : Nat} {a b : UInt64} {gp : Nat} {t : TypeId} {cs : Array Value}
theorem FT36.step {b1 b2 b1' b2' : Bool} {j : Nat} {x : UInt64} {W : World} (hn : M.length = n) (hj : j < n) (hg : gp ≠ g) (hs : (two36 M p q a b b1 b2).set j x = two36 M p q a b b1' b2') (h : FT36 w0 B g n c M p q a b gp t cs b1 b2 W) :
    ∃ W', (Instr.storeAt 64 (.pointer (some ⟨g, j, none⟩)) (.int .u64 x.toNat)).run Try.prog W = .ok () W' ∧ FT36 w0 B g n c M p q a b gp t cs b1' b2' W' := by
  obtain ⟨h1, h2, h3⟩ := h
  unfold OwnW at h2
  rw [two36_len, hn] at h2
  obtain ⟨⟨u0, c1⟩, c2, c3, c4, c5⟩ := own_put36 h2 hj (.int .u64 x.toNat)
  refine ⟨_, store_word36 c1 c2 _, h1.setCell (p := ⟨g, j, none⟩) c4 _, ?_, h3.far (p := ⟨g, j, none⟩) hg _⟩
  rw [← hs]
  refine OwnW.of c3 ?_
  rw [List.map_set]; rfl
theorem FT36.cell (x : FX (FT36 w0 B g n c M p q a b gp t cs)) (i : Nat) : x.W.cell? ⟨gp, i, none⟩ = cs[i]? := by obtain ⟨W, b1, b2, h⟩ := x; exact h.2.2.cell i
theorem FT36.start {W : World} (h1 : Below B w0 W) (h2 : OwnW W B 64 (.slice (some ⟨g, 0, none⟩) n c) M) (h3 : Bx W gp t cs) : FT36 w0 B g n c M p q a b gp t cs false false W.drew := ⟨h1.drew, h2, h3⟩
end
theorem own_lt36 {W : World} {B e g c : Nat} {n : Nat} {xs : List Value} (h : W.ownsRow B e 1 (.slice (some ⟨g, 0, none⟩) n c) n xs) (hl : 0 < n) : g < W.heap.size := by
  obtain ⟨g', cap, cur, hv, hB, hg, _⟩ := own_form h hl
  cases hv
  exact (Array.getElem?_eq_some_iff.1 hg).1
set_option maxRecDepth 100000 in
set_option maxHeartbeats 8000000 in
theorem Fresh_any (n : Nat) (T : List (List UInt8)) (l : List UInt64) (nw : Nw n T) (hl : l = imageP n T) (v : Value) (w : World) (h : Typs w v T) :
    Calls Try.prog 31 #[.int .i64 n, v] w fun e w' => ∃ y, e = .returned y ∧ OwnW w' w.heap.size 64 y l ∧ Below w.heap.size w w' := by
  have B : Below w.heap.size w w := Below.refl _ _
  have l1 := h.len
  obtain ⟨N, hN⟩ : ∃ N, N = T.length := ⟨_, rfl⟩
  rw [← hN] at l1
  have N8 : N ≤ 8 := by rw [hN]; exact nw.len
  obtain ⟨hn1, hn2⟩ := nw.le
  obtain ⟨s, hs⟩ : ∃ s, s = wordsOf n N := ⟨_, rfl⟩
  have hsl : s.length = 8 := by rw [hs]; exact len_words _ _
  have WT := Lib.hid (fun w => (show Calls Try.prog 60 #[.agg #[.int .i64 n, .int .i64 N]] w fun e w' => ∃ v, e = .returned v ∧ OwnW w' w.heap.size 64 v s ∧ Below w.heap.size w w' from by
    rw [hs]; exact Written_any n N w (by rw [hN]; exact nw.sup)))
  obtain ⟨wd, hwd⟩ : ∃ x, x = word ⟨0, (n : Int) - 128, 2, 0, false, 0⟩ := ⟨_, rfl⟩
  have WW := Lib.hid (fun w => (show Calls Try.prog 62 #[.int .i64 2, .bool false, .int .i64 0, .int .i64 ((n : Int) - 128)] w fun e w' => e = .returned (.int .u64 wd.toNat) ∧ Below w.heap.size w w' from
    WordHR_any ⟨0, (n : Int) - 128, 2, 0, false, 0⟩ nw.bk wd hwd w))
  have HL := Lib.hid (show l = (fr2 (fr1 n s 8) T N).set 128 wd from by rw [hl, ← fresh36_eq nw.le.1 nw.len, fresh36, ← hN, ← hwd, hs])
  have hok := Lib.hid nw.ok
  have HN := Lib.hid hN; have H := Lib.hid h; have HSL := Lib.hid hsl
  clear hN h hs hl hwd nw hsl
  go_enter Try.func31, Try.ntmps31
  go_wp2_with (at_make; refine wpList_makeI (by rfl) rfl (by rfl) (by rfl) Try.underlying25 info_u64 rfl (by omega) (by omega) (by omega) B (Nat.le_refl _) ?_; intro v1 wm o1 b1 b2; rw [Int.toNat_natCast] at o1; obtain ⟨g6, c6, cur, rfl, _⟩ := id (own_form o1 (by omega)))
  have hg6 := own_lt36 o1 (by omega)
  have HO := Lib.hid o1; have HB := Lib.hid b1; have HG := Lib.hid hg6
  clear o1 b1 b2 hg6 B
  refine (WT.out _).mono ?_
  rintro e w2 ⟨sv, rfl, os, b⟩
  unfold OwnW at os
  rw [HSL.out] at os
  obtain ⟨gs, cS, curS, rfl, hBs, hgs, _, _, _, htk⟩ := own_form os (by omega)
  have hbs : Bx w2 gs 64 curS := hgs
  have hne : gs ≠ g6 := by have := HG.out; omega
  have IS : Hid (∀ k : Nat, k < 8 → ∀ W', (Instr.indexAt 25 (.slice (some ⟨gs, 0, none⟩) 8 cS) (.int .i64 (k : Int))).run Try.prog W' = .ok (.pointer (some ⟨gs, k, none⟩)) W') := Lib.hid fun k hk => own_ix36 os Try.underlying25 one_u64 hk
  have HC : Hid (∀ k : Nat, k < 8 → curS[k]? = some (.int .u64 (s.getD k 0).toNat)) := Lib.hid fun k hk => by
    have h1 : (s.map Go.Proofs.Ytodbbacmdjcheaa.u64)[k]? = some (.int .u64 (s.getD k 0).toNat) := by
      rw [List.getElem?_map, List.getD_eq_getElem?_getD, List.getElem?_eq_getElem (by rw [HSL.out]; exact hk)]; rfl
    rw [← htk, List.getElem?_take_of_lt (by omega)] at h1
    simpa using h1
  have HB2 := Lib.hid (HB.out.trans (b.mono HB.out.size))
  have HM := Lib.hid (show OwnW w2 w.heap.size 64 (.slice (some ⟨g6, 0, none⟩) n c6) (fr1 n s 0) from OwnW.of (own_below HO.out b) (by rw [fr1, List.map_replicate]; rfl))
  have HS := Lib.hid hbs
  clear os hBs hgs htk hbs b HB HO HG
  go_wp2
  go_loopw [7] (fun i wr => ∃ k : Nat, k ≤ 8 ∧ i = .int .i64 k ∧ Hid (OwnW wr w.heap.size 64 (.slice (some ⟨g6, 0, none⟩) n c6) (fr1 n s k)) ∧ Hid (Bx wr gs 64 curS) ∧ Below w.heap.size w wr) (fun i _ => 8 - (intOf i).toNat)
  case atStart => exact ⟨0, by omega, rfl, HM, HS, HB2.out⟩
  case round =>
    clear HM HS HB2
    obtain ⟨k, hk, rfl, hM, hS, B⟩ := hrel
    by_cases hlt : k < 8
    · obtain ⟨M, hMM⟩ : ∃ M, M = fr1 n s k := ⟨_, rfl⟩
      have hMl : M.length = n := by rw [hMM]; exact fr1_len _ _ _
      have o6 := hM.out
      rw [← hMM] at o6
      obtain ⟨a, ha⟩ : ∃ a, a = s.getD k 0 := ⟨_, rfl⟩
      have hcell := HC.out k hlt
      rw [← ha] at hcell
      have hb := hS.out
      have o7 : wr.ownsRow w.heap.size 64 1 (.slice (some ⟨g6, 0, none⟩) n c6) n (M.map Go.Proofs.Ytodbbacmdjcheaa.u64) := by have := o6; unfold OwnW at this; rwa [hMl] at this
      have ix1 := own_ix36 (P := Try.prog) (t := 25) o7 Try.underlying25 one_u64 (j := k) (by omega)
      have ix2 := own_ix36 (P := Try.prog) (t := 25) o7 Try.underlying25 one_u64 (j := 8 + k) (by omega)
      rw [show ((8 + k : Nat) : Int) = 8 + (k : Int) by omega] at ix2
      have ix3 := IS.out k hlt
      have hw1 : IntKind.i64.wrap (k : Int) = k := IntWalk.i64_in _ (by omega)
      have hw2 : IntKind.i64.wrap (8 + (k : Int)) = 8 + (k : Int) := IntWalk.i64_in _ (by omega)
      have HA := Lib.hid (show fr1 n s (k + 1) = two36 M k (8 + k) a a true true from by rw [fr1, ← hMM, ← ha])
      haveI : Nonempty (FX (FT36 w w.heap.size g6 n c6 M k (8 + k) a a gs 64 curS)) := ⟨⟨_, false, false, FT36.start B o6 hb⟩⟩
      have c1 := fun x : FX (FT36 w w.heap.size g6 n c6 M k (8 + k) a a gs 64 curS) => (FT36.cell x k).trans hcell
      clear hMM ha hM hS hcell o7
      go_wp2_with fail
      refine wp_region_flag (FT36 w w.heap.size g6 n c6 M k (8 + k) a a gs 64 curS) 15 17 (by kernel_rfl) (by kernel_rfl) true true ⟨by kernel_rfl, by kernel_rfl⟩ (FT36.start B o6 hb) ?_
      iterate 15 (refine wpF_read rfl rfl ?_; go_big_quiet_step (fail); refine wpQuiet_nil ?_)
      refine wpF_store1 64 (.tmp 36) (.tmp 31) rfl rfl (by decide) (p := .pointer (some ⟨g6, k, none⟩)) (u := .int .u64 a.toNat) (by rfl) (by rfl) (fun b2 W h => FT36.step hMl (by omega) hne (two36_set1 M (by omega) a a b2) h) ?_
      simp only [Act.put, List.setIfInBounds_toArray, List.set_cons_zero, List.set_cons_succ]
      iterate 1 (refine wpF_read rfl rfl ?_; go_big_quiet_step (fail); refine wpQuiet_nil ?_)
      refine wpF_store2 64 (.tmp 37) (.tmp 35) rfl rfl (by decide) (p := .pointer (some ⟨g6, 8 + k, none⟩)) (u := .int .u64 a.toNat) (by rfl) (by rfl) (fun b1 W h => FT36.step hMl (by omega) hne (two36_set2 M _ _ a a b1) h) ?_
      simp only [Act.put, List.setIfInBounds_toArray, List.set_cons_zero, List.set_cons_succ]
      intro w6 h6
      have H6 := Lib.hid h6; clear h6 c1 ix1 ix2 ix3
      go_wp2
      go_roundw
      case rel => exact ⟨k + 1, by omega, by go_num, Lib.hid (by rw [HA.out]; exact H6.out.2.1), Lib.hid H6.out.2.2, H6.out.1⟩
      case measure => simp [intOf]; omega
    · obtain rfl : k = 8 := by omega
      clear hS IS HC hlt
      have HM := hM; have HB2 := Lib.hid B
      clear hM B
      go_wp2
      go_loopw [8, 9, 10] (fun i p e wr => ∃ k : Nat, k ≤ N ∧ i = .int .i64 k ∧ Hid (OwnW wr w.heap.size 64 (.slice (some ⟨g6, 0, none⟩) n c6) (fr2 (fr1 n s 8) T k)) ∧ Below w.heap.size w wr) (fun i _ _ _ => N - (intOf i).toNat)
      case atStart => exact ⟨0, by omega, rfl, HM, HB2.out⟩
      case round =>
        clear HM HB2
        obtain ⟨k, hk, rfl, hM, B⟩ := hrel
        have hfl : (fr2 (fr1 n s 8) T k).length = n := by rw [fr2_len, fr1_len]
        by_cases hlt : k < N
        · obtain ⟨ad, x, t, ia, m0, ht, hx⟩ := (H.out.below B).at_ (k := k) (by rw [← HN.out]; exact hlt)
          have he := hok.out t (List.mem_of_getElem? ht.out)
          obtain ⟨a, ha⟩ : ∃ c, c = w0 t := ⟨_, rfl⟩
          obtain ⟨b2, hb2⟩ : ∃ c, c = L13.w1 t := ⟨_, rfl⟩
          have HW := Lib.hid (fun w h => KWriteR_any x t a b2 0 ha hb2 he.symm w h)
          have one := hx.out.oneCell
          obtain ⟨M, hMM⟩ : ∃ M, M = fr2 (fr1 n s 8) T k := ⟨_, rfl⟩
          have hMl : M.length = n := by rw [hMM]; exact hfl
          have o6 := hM.out
          rw [← hMM] at o6
          have HA := Lib.hid (show fr2 (fr1 n s 8) T (k + 1) = two36 M (96 + 2 * k) (97 + 2 * k) a b2 true true from by
            rw [fr2, ← hMM, show T.getD k [] = t by rw [List.getD_eq_getElem?_getD, ht.out]; rfl, ← ha, ← hb2])
          clear ha hb2 he hM hMM ht hfl
          go_wp2_with fail
          refine (HW.out _ hx.out).mono ?_
          rintro e wa1 ⟨rfl, b⟩
          replace m0 := cell_later b m0; replace o6 := o6.below b; replace B := B.trans (b.mono B.size); clear b
          have o7 : wa1.ownsRow w.heap.size 64 1 (.slice (some ⟨g6, 0, none⟩) n c6) n (M.map Go.Proofs.Ytodbbacmdjcheaa.u64) := by have := o6; unfold OwnW at this; rwa [hMl] at this
          have hg6 : g6 < wa1.heap.size := own_lt36 o7 (by omega)
          clear o7
          go_wp2_with fail
          refine wp_gen (fun Wv => Bx Wv (wa1.heap.size) (76) (#[.int .u64 a.toNat, .int .u64 b2.toNat]) ∧ Below wa1.heap.size wa1 Wv) ⟨((Bx.at_ (by simp))), ((Below.refl _ wa1).alloc (by simp <;> omega) _)⟩ ?_
          rintro wa2 ⟨g1, b⟩
          replace m0 := cell_later b m0; replace o6 := o6.below b; replace B := B.trans (b.mono B.size); clear b
          have c_g1 := g1.cell; have f_g1 := g1.free; have a_g1 := fun o => (g1.alloc o).cell; have d_g1 := fun o o2 => ((g1.alloc o).alloc o2).cell; have e_g1 := fun o => (g1.alloc o).free
          have o7 : wa2.ownsRow w.heap.size 64 1 (.slice (some ⟨g6, 0, none⟩) n c6) n (M.map Go.Proofs.Ytodbbacmdjcheaa.u64) := by have := o6; unfold OwnW at this; rwa [hMl] at this
          have ix1 := own_ix36 (P := Try.prog) (t := 25) o7 Try.underlying25 one_u64 (j := 96 + 2 * k) (by omega)
          have ix2 := own_ix36 (P := Try.prog) (t := 25) o7 Try.underlying25 one_u64 (j := 97 + 2 * k) (by omega)
          rw [show ((96 + 2 * k : Nat) : Int) = 96 + 2 * (k : Int) by omega] at ix1
          rw [show ((97 + 2 * k : Nat) : Int) = 96 + 2 * (k : Int) + 1 by omega] at ix2
          have hw1 : IntKind.i64.wrap (2 * (k : Int)) = 2 * (k : Int) := IntWalk.i64_in _ (by omega)
          have hw2 : IntKind.i64.wrap (96 + 2 * (k : Int)) = 96 + 2 * (k : Int) := IntWalk.i64_in _ (by omega)
          have hw3 : IntKind.i64.wrap (96 + 2 * (k : Int) + 1) = 96 + 2 * (k : Int) + 1 := IntWalk.i64_in _ (by omega)
          clear c_g1 f_g1 a_g1 d_g1 e_g1 o7
          haveI : Nonempty (FX (FT36 w w.heap.size g6 n c6 M (96 + 2 * k) (97 + 2 * k) a b2 wa1.heap.size 76 #[.int .u64 a.toNat, .int .u64 b2.toNat])) := ⟨⟨_, false, false, FT36.start B o6 g1⟩⟩
          have c1 := fun x : FX (FT36 w w.heap.size g6 n c6 M (96 + 2 * k) (97 + 2 * k) a b2 wa1.heap.size 76 #[.int .u64 a.toNat, .int .u64 b2.toNat]) => FT36.cell x
          refine wp_region_flag (FT36 w w.heap.size g6 n c6 M (96 + 2 * k) (97 + 2 * k) a b2 wa1.heap.size 76 #[.int .u64 a.toNat, .int .u64 b2.toNat]) 14 16 (by kernel_rfl) (by kernel_rfl) true true ⟨by kernel_rfl, by kernel_rfl⟩ (FT36.start B o6 g1) ?_
          iterate 14 (refine wpF_read rfl rfl ?_; go_big_quiet_step (fail); refine wpQuiet_nil ?_)
          refine wpF_store1 64 (.tmp 65) (.tmp 62) rfl rfl (by decide) (p := .pointer (some ⟨g6, 96 + 2 * k, none⟩)) (u := .int .u64 a.toNat) (by rfl) (by rfl) (fun b2 W h => FT36.step hMl (by omega) (by omega) (two36_set1 M (by omega) a _ b2) h) ?_
          simp only [Act.put, List.setIfInBounds_toArray, List.set_cons_zero, List.set_cons_succ]
          iterate 1 (refine wpF_read rfl rfl ?_; go_big_quiet_step (fail); refine wpQuiet_nil ?_)
          refine wpF_store2 64 (.tmp 66) (.tmp 64) rfl rfl (by decide) (p := .pointer (some ⟨g6, 97 + 2 * k, none⟩)) (u := .int .u64 b2.toNat) (by rfl) (by rfl) (fun b1 W h => FT36.step hMl (by omega) (by omega) (two36_set2 M _ _ a _ b1) h) ?_
          simp only [Act.put, List.setIfInBounds_toArray, List.set_cons_zero, List.set_cons_succ]
          intro w6 h6
          have H6 := Lib.hid h6; clear h6 c1 ix1 ix2
          go_wp2
          go_roundw
          case rel =>
            (repeat apply Exists.intro)
            refine ⟨?rel2, rfl⟩
            exact ⟨k + 1, by omega, by go_num, Lib.hid (by rw [HA.out]; exact H6.out.2.1), H6.out.1⟩
          case measure => simp [intOf]; omega
        · obtain rfl : k = N := by omega
          have hw : IntKind.i64.wrap ((n : Int) - 128) = (n : Int) - 128 := IntWalk.i64_in _ (by omega)
          have o6 : wr.ownsRow w.heap.size 64 1 (.slice (some ⟨g6, 0, none⟩) n c6) n ((fr2 (fr1 n s 8) T k).map Go.Proofs.Ytodbbacmdjcheaa.u64) := by have := hM.out; unfold OwnW at this; rwa [hfl] at this
          clear hM
          go_wp2_with fail
          refine (WW.out _).mono ?_
          rintro e w7 ⟨rfl, b⟩
          replace o6 := own_below o6 b
          replace B := B.trans (b.mono B.size)
          clear b
          obtain ⟨ad, u0, ia, ca, fa, hbk, hu, hset⟩ := own_at (P := Try.prog) o6 Try.underlying25 one_u64 (k := 128) (by omega) (by omega)
          have HZ := Lib.hid (hset (.int .u64 wd.toNat))
          have HB2 := Lib.hid (B.setCell hbk (.int .u64 wd.toNat))
          clear hset hu B o6 hbk
          go_wp2
          go_ret
          refine ⟨_, rfl, ?_, HB2.out⟩
          rw [HL.out]
          exact OwnW.of HZ.out (by rw [List.map_set]; rfl)
end Go.Proofs.Ytodbbacmdjcheaa
namespace Go.Proofs.Ytodbbacmdjcheaa
open Go.RowKit L02
end Go.Proofs.Ytodbbacmdjcheaa
namespace Go.Proofs.Ytodbbacmdjcheaa
open Go.RowKit L02 L05 L06 L07
theorem Clone_any (v : Value) (l : List UInt64) (w : World) (h : Words w v l) (h0 : 0 < l.length) (hl : l.length ≤ 1048576) : Calls Try.prog 44 #[v] w (RetW w l) := by
  obtain ⟨b, o, c, rfl, _⟩ := Rd.form h h0
  have nn : ∀ W, (binOp .eql 25 (.slice (some ⟨b, o, none⟩) l.length c) (.slice none 0 0)).run Try.prog W = .ok (.bool false) W := fun W => Lib.run_eql_slice_nil W 25 64 _ _ _ _ _ Try.underlying25
  have H := Lib.hid h; clear h
  go_enter Try.func44, Try.ntmps44
  go_wp2_with (at_builtin
               refine wpList_append (by rfl) rfl rfl rfl Try.underlying25 info_u64 rfl (by omega) (lit0_own (Nat.le_refl _)) (by exact H.out.alloc _) (one_u64s _) (by omega) (by omega) ((Below.refl _ w).alloc (Nat.le_refl _) _) (Nat.le_refl _) ?_
               intro v1 w1 hown hbel hv)
  go_ret
  exact ⟨v1, rfl, OwnW.of hown (by simp), hbel⟩
end Go.Proofs.Ytodbbacmdjcheaa
namespace Go.Proofs.Ytodbbacmdjcheaa
open Go.RowKit L02 L05 L06 L13 L14 L19 L73
def RetD (w : World) (l : List UInt64) (e : Ending) (w' : World) : Prop := ∃ v, e = .returned (.tuple #[.agg #[v, .slice none 0 0, .int .i64 (-1), .bool false], .int .i64 0]) ∧ OwnW w' w.heap.size 64 v l ∧ Below w.heap.size w w'
set_option maxRecDepth 100000 in
set_option maxHeartbeats 2000000 in
theorem NewC_any (v : Value) (l : List UInt64) (hs : SizeOk l.length) (w : World) (h : Words w v l) : Calls Try.prog 32 #[v] w (RetD w l) := by
  have B : Below w.heap.size w w := Below.refl _ _
  have CT := Lib.hid (fun w h => (show Calls Try.prog 63 #[v] w (fun e w' => e = .returned (.int .i64 0) ∧ w = w') from by have := Check_any v l w h; rw [chk_ok hs] at this; exact this))
  have H := Lib.hid h; clear h
  go_enter Try.func32, Try.ntmps32
  go_upto_region 1 with (fail)
  refine wp_gen (fun Wv => Bx Wv (w.heap.size) (33) (#[.slice none 0 0, .slice none 0 0, .int .i64 0, .bool false]) ∧ Below w.heap.size w Wv) ⟨((Bx.at_ (by simp))), ((Below.refl _ w).alloc (by simp <;> omega) _)⟩ ?_
  rintro wa1 ⟨g2, b⟩
  replace B := B.trans (b.mono B.size); clear b
  have c_g2 := g2.cell; have f_g2 := g2.free; have a_g2 := fun o => (g2.alloc o).cell; have d_g2 := fun o o2 => ((g2.alloc o).alloc o2).cell; have e_g2 := fun o => (g2.alloc o).free
  go_wp2_with fail
  refine (CT.out _ (H.out.below B)).mono ?_
  rintro e w2 ⟨rfl, rfl⟩
  have CL := Lib.hid (fun w h => Clone_any v l w h (by have := hs.1; omega) (by have := hs.2.1; omega))
  clear hs
  have hg2 := g2.lt
  have hb1 := B.size
  go_wp2_with fail
  refine (CL.out _ (H.out.below B)).mono ?_
  rintro e wa2 ⟨y, rfl, o, b⟩
  try clear c_g2 f_g2 a_g2 d_g2 e_g2
  replace g2 := g2.below b; have c_g2 := g2.cell; have f_g2 := g2.free; have a_g2 := fun o => (g2.alloc o).cell; have d_g2 := fun o o2 => ((g2.alloc o).alloc o2).cell; have e_g2 := fun o => (g2.alloc o).free; replace B := B.trans (b.mono B.size); clear b
  obtain ⟨A0, n0, c0, rfl⟩ := own_one94 o
  have HO := Lib.hid (And.intro hg2 (And.intro hb1 o)); clear hg2 hb1 o
  go_wp2
  refine bodyPost_ret (v := .tuple #[.agg #[.slice A0 n0 c0, .slice none 0 0, .int .i64 (-1), .bool false], .int .i64 0]) (by simp [results, Try.results32, go_sem, c_g2, f_g2, a_g2, e_g2]) rfl ?_
  obtain ⟨hg2, hb1, o⟩ := HO.out
  refine ⟨_, rfl, own_mono (B := wa1.heap.size) ?_ hb1, ?_⟩
  · repeat refine ownsRow_setCell_below ?_ (by exact hg2) _
    exact o
  (repeat (first | refine Below.setCell ?_ (by first | exact Nat.le_refl _ | (simp <;> omega)) _ | refine Below.alloc ?_ (by first | exact B.size | (have := B.size; simp <;> omega)) _)); exact B
set_option maxRecDepth 100000 in
set_option maxHeartbeats 2000000 in
/-- format.Device, of right words and types -/
theorem Device_ok (n : Int) (tv : Value) (T : List (List UInt8)) (l : List UInt64) (h0 : imgErr n T = 0) (hl : l = imgP n T) (hs : SizeOk l.length) (w : World) (h : Typs w tv T) : Calls Try.prog 12 #[.int .i64 n, tv] w (RetD w l) := by
  have B : Below w.heap.size w w := Below.refl _ _
  have IT := Lib.hid (fun w h => (show Calls Try.prog 10 #[.int .i64 n, tv] w (RetWE w l 0) from by have := Image_any n tv T w h; rw [h0, ← hl] at this; exact this))
  have NT := Lib.hid (fun v w h => NewC_any v l hs w h)
  have H := Lib.hid h; clear h h0 hl hs
  go_enter Try.func12, Try.ntmps12
  go_upto_region 1 with (fail)
  refine wp_gen (fun Wv => Bx Wv (w.heap.size) (33) (#[.slice none 0 0, .slice none 0 0, .int .i64 0, .bool false]) ∧ Below w.heap.size w Wv) ⟨((Bx.at_ (by simp))), ((Below.refl _ w).alloc (by simp <;> omega) _)⟩ ?_
  rintro wa1 ⟨g2, b⟩
  replace B := B.trans (b.mono B.size); clear b
  have c_g2 := g2.cell; have f_g2 := g2.free; have a_g2 := fun o => (g2.alloc o).cell; have d_g2 := fun o o2 => ((g2.alloc o).alloc o2).cell; have e_g2 := fun o => (g2.alloc o).free
  go_wp2_with fail
  refine (IT.out _ (H.out.below B)).mono ?_
  rintro e wa2 ⟨v, rfl, o, b⟩
  try clear c_g2 f_g2 a_g2 d_g2 e_g2
  replace g2 := g2.below b; have c_g2 := g2.cell; have f_g2 := g2.free; have a_g2 := fun o => (g2.alloc o).cell; have d_g2 := fun o o2 => ((g2.alloc o).alloc o2).cell; have e_g2 := fun o => (g2.alloc o).free; replace B := B.trans (b.mono B.size); clear b
  have p := o.rd
  clear o
  have hg2 := g2.lt
  have hb1 := B.size
  have HB1 := Lib.hid (And.intro hg2 hb1); clear hg2 hb1
  go_wp2_with fail
  refine (NT.out _ _ p).mono ?_
  rintro e wa3 ⟨y, rfl, o, b⟩
  try clear c_g2 f_g2 a_g2 d_g2 e_g2
  replace g2 := g2.below b; have c_g2 := g2.cell; have f_g2 := g2.free; have a_g2 := fun o => (g2.alloc o).cell; have d_g2 := fun o o2 => ((g2.alloc o).alloc o2).cell; have e_g2 := fun o => (g2.alloc o).free; replace B := B.trans (b.mono B.size); clear b
  obtain ⟨A0, n0, c0, rfl⟩ := own_one94 o
  have HO := Lib.hid o; clear o p
  go_wp2
  refine bodyPost_ret (v := .tuple #[.agg #[.slice A0 n0 c0, .slice none 0 0, .int .i64 (-1), .bool false], .int .i64 0]) (by simp [results, Try.results12, go_sem, c_g2, f_g2, a_g2, e_g2]) rfl ?_
  refine ⟨_, rfl, own_mono (B := wa2.heap.size) ?_ HB1.out.2, ?_⟩
  · have hg2 := HB1.out.1
    repeat refine ownsRow_setCell_below ?_ (by exact hg2) _
    exact HO.out
  (repeat (first | refine Below.setCell ?_ (by first | exact Nat.le_refl _ | (simp <;> omega)) _ | refine Below.alloc ?_ (by first | exact B.size | (have := B.size; simp <;> omega)) _)); exact B
set_option maxRecDepth 100000 in
set_option maxHeartbeats 2000000 in
/-- .. of others: no device, Image's error -/
theorem Device_no (n : Int) (tv : Value) (T : List (List UInt8)) (r : Int) (hr : r = imgErr n T) (h0 : r ≠ 0) (w : World) (h : Typs w tv T) : Calls Try.prog 12 #[.int .i64 n, tv] w fun e w' => e = .returned (.tuple #[.agg #[.slice none 0 0, .slice none 0 0, .int .i64 0, .bool false], .int .i64 r]) ∧ Below w.heap.size w w' := by
  have B : Below w.heap.size w w := Below.refl _ _
  have IT := Lib.hid (fun w h => (show Calls Try.prog 10 #[.int .i64 n, tv] w (RetWE w (imgP n T) r) from by have := Image_any n tv T w h; rw [← hr] at this; exact this))
  have H := Lib.hid h; clear h hr
  go_enter Try.func12, Try.ntmps12
  go_upto_region 1 with (fail)
  refine wp_gen (fun Wv => Bx Wv (w.heap.size) (33) (#[.slice none 0 0, .slice none 0 0, .int .i64 0, .bool false]) ∧ Below w.heap.size w Wv) ⟨((Bx.at_ (by simp))), ((Below.refl _ w).alloc (by simp <;> omega) _)⟩ ?_
  rintro wa1 ⟨g2, b⟩
  replace B := B.trans (b.mono B.size); clear b
  have c_g2 := g2.cell; have f_g2 := g2.free; have a_g2 := fun o => (g2.alloc o).cell; have d_g2 := fun o o2 => ((g2.alloc o).alloc o2).cell; have e_g2 := fun o => (g2.alloc o).free
  go_wp2_with fail
  refine (IT.out _ (H.out.below B)).mono ?_
  rintro e wa2 ⟨v, rfl, o, b⟩
  try clear c_g2 f_g2 a_g2 d_g2 e_g2
  replace g2 := g2.below b; have c_g2 := g2.cell; have f_g2 := g2.free; have a_g2 := fun o => (g2.alloc o).cell; have d_g2 := fun o o2 => ((g2.alloc o).alloc o2).cell; have e_g2 := fun o => (g2.alloc o).free; replace B := B.trans (b.mono B.size); clear b
  clear o
  go_wp2
  refine bodyPost_ret (v := .tuple #[.agg #[.slice none 0 0, .slice none 0 0, .int .i64 0, .bool false], .int .i64 r]) (by simp [results, Try.results12, go_sem, c_g2, f_g2, a_g2, e_g2]) rfl ?_
  refine ⟨rfl, ?_⟩
  (repeat (first | refine Below.setCell ?_ (by first | exact Nat.le_refl _ | (simp <;> omega)) _ | refine Below.alloc ?_ (by first | exact B.size | (have := B.size; simp <;> omega)) _)); exact B
end Go.Proofs.Ytodbbacmdjcheaa
namespace Go.Proofs.Ytodbbacmdjcheaa
open Go.RowKit L02 L05 L06 L13 L14 L19 L73
end Go.Proofs.Ytodbbacmdjcheaa
namespace Go.Proofs.Ytodbbacmdjcheaa
open Go.RowKit L02 L05 L06 L07 L13 L14 L15 L16 L18 L19 L73 L74 L76
theorem imgP_no {n : Int} {T : List (List UInt8)} (h : imgErr n T ≠ 0) : imgP n T = [] := by rw [imgP, if_neg h]
theorem imgP_size {n : Int} {T : List (List UInt8)} (h : imgErr n T = 0) : SizeOk (imgP n T).length := by
  obtain ⟨N, rfl, sN, _, _, iN⟩ := imgErr_ok h
  rw [iN, imageP_len]; exact sN
set_option maxRecDepth 100000 in
set_option maxHeartbeats 2000000 in
theorem ImageR36_any (n : Int) (tv : Value) (T : List (List UInt8)) (l : List UInt64) (r : Int) (hl : l = imgP n T) (hr : r = imgErr n T) (w : World) (h : Typs w tv T) :
    Calls Try.prog 11 #[.int .i64 n, tv] w (RetWE w l r) := by
  have B : Below w.heap.size w w := Below.refl _ _
  have A1 := Lib.hid (fun w h => Asked_any n tv T r hr w h)
  have H := Lib.hid h; clear h
  by_cases h0 : r = 0
  · subst h0
    obtain ⟨N, rfl, sN, t8, gT, iN⟩ := imgErr_ok hr.symm
    have FT := Lib.hid (fun w h => Fresh_any N T l ⟨sN, t8, gT⟩ (by rw [hl, iN]) tv w h)
    clear sN t8 gT iN hl hr
    go_enter Try.func11, Try.ntmps11
    go_wp2_with fail
    refine (A1.out _ H.out).mono ?_
    rintro e w2 ⟨rfl, rfl⟩
    go_wp2_with fail
    refine (FT.out _ H.out).mono ?_
    rintro e w3 ⟨y, rfl, o, b⟩
    have HO := Lib.hid o; have HB := Lib.hid b
    clear o b
    go_wp2
    go_ret2
    exact ⟨_, rfl, HO.out, HB.out⟩
  · obtain rfl : l = [] := by rw [hl, imgP_no (by rw [← hr]; exact h0)]
    have n1 : (r != 0) = true := by rw [bne_iff_ne]; exact h0
    clear hl hr h0
    go_enter Try.func11, Try.ntmps11
    go_wp2_with fail
    refine (A1.out _ H.out).mono ?_
    rintro e w2 ⟨rfl, rfl⟩
    go_wp2
    go_ret2
    exact ⟨_, rfl, OwnW.nil _ _ _, B⟩
set_option maxRecDepth 100000 in
set_option maxHeartbeats 2000000 in
theorem New03R_ok (v : Value) (l : List UInt64) (hs : SizeOk l.length) (w : World) (h : Words w v l) : Calls Try.prog 33 #[v] w (RetD w l) := by
  have B : Below w.heap.size w w := Below.refl _ _
  have CT := Lib.hid (fun w h => (show Calls Try.prog 64 #[v] w (fun e w' => e = .returned (.int .i64 0) ∧ w = w') from by have := CheckR_any v l w h; rw [chk_ok hs] at this; exact this))
  have TT := Lib.hid (fun w h => Twin_any v l w h (by have := hs.2.1; omega))
  have H := Lib.hid h; clear h hs
  go_enter Try.func33, Try.ntmps33
  go_upto_region 1 with (fail)
  refine wp_gen (fun Wv => Bx Wv (w.heap.size) (33) (#[.slice none 0 0, .slice none 0 0, .int .i64 0, .bool false]) ∧ Below w.heap.size w Wv) ⟨((Bx.at_ (by simp))), ((Below.refl _ w).alloc (by simp <;> omega) _)⟩ ?_
  rintro wa1 ⟨g2, b⟩
  replace B := B.trans (b.mono B.size); clear b
  have c_g2 := g2.cell; have f_g2 := g2.free; have a_g2 := fun o => (g2.alloc o).cell; have d_g2 := fun o o2 => ((g2.alloc o).alloc o2).cell; have e_g2 := fun o => (g2.alloc o).free
  go_wp2_with fail
  refine (CT.out _ (H.out.below B)).mono ?_
  rintro e w2 ⟨rfl, rfl⟩
  have hg2 := g2.lt
  have hb1 := B.size
  go_wp2_with fail
  refine (TT.out _ (H.out.below B)).mono ?_
  rintro e wa2 ⟨y, rfl, o, b⟩
  try clear c_g2 f_g2 a_g2 d_g2 e_g2
  replace g2 := g2.below b; have c_g2 := g2.cell; have f_g2 := g2.free; have a_g2 := fun o => (g2.alloc o).cell; have d_g2 := fun o o2 => ((g2.alloc o).alloc o2).cell; have e_g2 := fun o => (g2.alloc o).free; replace B := B.trans (b.mono B.size); clear b
  obtain ⟨A0, n0, c0, rfl⟩ := own_one94 o
  have HO := Lib.hid (And.intro hg2 (And.intro hb1 o)); clear hg2 hb1 o
  go_wp2
  refine bodyPost_ret (v := .tuple #[.agg #[.slice A0 n0 c0, .slice none 0 0, .int .i64 (-1), .bool false], .int .i64 0]) (by simp [results, Try.results33, go_sem, c_g2, f_g2, a_g2, e_g2]) rfl ?_
  obtain ⟨hg2, hb1, o⟩ := HO.out
  refine ⟨_, rfl, own_mono (B := wa1.heap.size) ?_ hb1, ?_⟩
  · repeat refine ownsRow_setCell_below ?_ (by exact hg2) _
    exact o
  (repeat (first | refine Below.setCell ?_ (by first | exact Nat.le_refl _ | (simp <;> omega)) _ | refine Below.alloc ?_ (by first | exact B.size | (have := B.size; simp <;> omega)) _)); exact B
set_option maxRecDepth 100000 in
set_option maxHeartbeats 2000000 in
theorem DeviceR36_ok (n : Int) (tv : Value) (T : List (List UInt8)) (l : List UInt64) (h0 : imgErr n T = 0) (hl : l = imgP n T) (hs : SizeOk l.length) (w : World) (h : Typs w tv T) : Calls Try.prog 13 #[.int .i64 n, tv] w (RetD w l) := by
  have B : Below w.heap.size w w := Below.refl _ _
  have IT := Lib.hid (fun w h => ImageR36_any n tv T l 0 hl h0.symm w h)
  have NT := Lib.hid (fun v w h => New03R_ok v l hs w h)
  have H := Lib.hid h; clear h h0 hl hs
  go_enter Try.func13, Try.ntmps13
  go_upto_region 1 with (fail)
  refine wp_gen (fun Wv => Bx Wv (w.heap.size) (33) (#[.slice none 0 0, .slice none 0 0, .int .i64 0, .bool false]) ∧ Below w.heap.size w Wv) ⟨((Bx.at_ (by simp))), ((Below.refl _ w).alloc (by simp <;> omega) _)⟩ ?_
  rintro wa1 ⟨g2, b⟩
  replace B := B.trans (b.mono B.size); clear b
  have c_g2 := g2.cell; have f_g2 := g2.free; have a_g2 := fun o => (g2.alloc o).cell; have d_g2 := fun o o2 => ((g2.alloc o).alloc o2).cell; have e_g2 := fun o => (g2.alloc o).free
  go_wp2_with fail
  refine (IT.out _ (H.out.below B)).mono ?_
  rintro e wa2 ⟨v, rfl, o, b⟩
  try clear c_g2 f_g2 a_g2 d_g2 e_g2
  replace g2 := g2.below b; have c_g2 := g2.cell; have f_g2 := g2.free; have a_g2 := fun o => (g2.alloc o).cell; have d_g2 := fun o o2 => ((g2.alloc o).alloc o2).cell; have e_g2 := fun o => (g2.alloc o).free; replace B := B.trans (b.mono B.size); clear b
  have p := o.rd
  clear o
  have hg2 := g2.lt
  have hb1 := B.size
  have HB1 := Lib.hid (And.intro hg2 hb1); clear hg2 hb1
  go_wp2_with fail
  refine (NT.out _ _ p).mono ?_
  rintro e wa3 ⟨y, rfl, o, b⟩
  try clear c_g2 f_g2 a_g2 d_g2 e_g2
  replace g2 := g2.below b; have c_g2 := g2.cell; have f_g2 := g2.free; have a_g2 := fun o => (g2.alloc o).cell; have d_g2 := fun o o2 => ((g2.alloc o).alloc o2).cell; have e_g2 := fun o => (g2.alloc o).free; replace B := B.trans (b.mono B.size); clear b
  obtain ⟨A0, n0, c0, rfl⟩ := own_one94 o
  have HO := Lib.hid o; clear o p
  go_wp2
  refine bodyPost_ret (v := .tuple #[.agg #[.slice A0 n0 c0, .slice none 0 0, .int .i64 (-1), .bool false], .int .i64 0]) (by simp [results, Try.results13, go_sem, c_g2, f_g2, a_g2, e_g2]) rfl ?_
  refine ⟨_, rfl, own_mono (B := wa2.heap.size) ?_ HB1.out.2, ?_⟩
  · have hg2 := HB1.out.1
    repeat refine ownsRow_setCell_below ?_ (by exact hg2) _
    exact HO.out
  (repeat (first | refine Below.setCell ?_ (by first | exact Nat.le_refl _ | (simp <;> omega)) _ | refine Below.alloc ?_ (by first | exact B.size | (have := B.size; simp <;> omega)) _)); exact B
set_option maxRecDepth 100000 in
set_option maxHeartbeats 2000000 in
theorem DeviceR36_no (n : Int) (tv : Value) (T : List (List UInt8)) (r : Int) (hr : r = imgErr n T) (h0 : r ≠ 0) (w : World) (h : Typs w tv T) : Calls Try.prog 13 #[.int .i64 n, tv] w fun e w' => e = .returned (.tuple #[.agg #[.slice none 0 0, .slice none 0 0, .int .i64 0, .bool false], .int .i64 r]) ∧ Below w.heap.size w w' := by
  have B : Below w.heap.size w w := Below.refl _ _
  obtain ⟨l, hl⟩ : ∃ l, l = imgP n T := ⟨_, rfl⟩
  have IT := Lib.hid (fun w h => ImageR36_any n tv T l r hl hr w h)
  have H := Lib.hid h; clear h hr hl
  go_enter Try.func13, Try.ntmps13
  go_upto_region 1 with (fail)
  refine wp_gen (fun Wv => Bx Wv (w.heap.size) (33) (#[.slice none 0 0, .slice none 0 0, .int .i64 0, .bool false]) ∧ Below w.heap.size w Wv) ⟨((Bx.at_ (by simp))), ((Below.refl _ w).alloc (by simp <;> omega) _)⟩ ?_
  rintro wa1 ⟨g2, b⟩
  replace B := B.trans (b.mono B.size); clear b
  have c_g2 := g2.cell; have f_g2 := g2.free; have a_g2 := fun o => (g2.alloc o).cell; have d_g2 := fun o o2 => ((g2.alloc o).alloc o2).cell; have e_g2 := fun o => (g2.alloc o).free
  go_wp2_with fail
  refine (IT.out _ (H.out.below B)).mono ?_
  rintro e wa2 ⟨v, rfl, o, b⟩
  try clear c_g2 f_g2 a_g2 d_g2 e_g2
  replace g2 := g2.below b; have c_g2 := g2.cell; have f_g2 := g2.free; have a_g2 := fun o => (g2.alloc o).cell; have d_g2 := fun o o2 => ((g2.alloc o).alloc o2).cell; have e_g2 := fun o => (g2.alloc o).free; replace B := B.trans (b.mono B.size); clear b
  clear o
  go_wp2
  refine bodyPost_ret (v := .tuple #[.agg #[.slice none 0 0, .slice none 0 0, .int .i64 0, .bool false], .int .i64 r]) (by simp [results, Try.results13, go_sem, c_g2, f_g2, a_g2, e_g2]) rfl ?_
  refine ⟨rfl, ?_⟩
  (repeat (first | refine Below.setCell ?_ (by first | exact Nat.le_refl _ | (simp <;> omega)) _ | refine Below.alloc ?_ (by first | exact B.size | (have := B.size; simp <;> omega)) _)); exact B
set_option maxRecDepth 100000 in
set_option maxHeartbeats 2000000 in
/-- devices without dirt, alike -/
theorem Same03_eq (va vb : Value) (l : List UInt64) (x : Int) (w : World) (ha : Words w va l) (hb : Words w vb l) :
    Calls Try.prog 15 #[.agg #[va, .slice none 0 0, .int .i64 x, .bool false], .agg #[vb, .slice none 0 0, .int .i64 x, .bool false]] w fun e w' => e = .returned (.bool true) ∧ Below w.heap.size w w' := by
  have B : Below w.heap.size w w := Below.refl _ _
  have ST := Lib.hid (fun w h1 h2 => Same_r va vb l l true (by rw [L02.same]; simp) w h1 h2)
  have HA := Lib.hid ha; have HB := Lib.hid hb
  obtain ⟨A0, c0, rfl, _⟩ := id ha; obtain ⟨A1, c1, rfl, _⟩ := id hb
  clear ha hb
  obtain ⟨k, hk⟩ : ∃ k, k = l.length := ⟨_, rfl⟩
  rw [← hk] at HA HB ST ⊢
  clear hk
  go_enter Try.func15, Try.ntmps15
  go_upto_region 1 with (fail)
  refine wp_gen (fun Wv => Bx Wv (w.heap.size) (33) (#[.slice A0 k c0, .slice none 0 0, .int .i64 x, .bool false]) ∧ Bx Wv (w.heap.size + 1) (33) (#[.slice A1 k c1, .slice none 0 0, .int .i64 x, .bool false]) ∧ Below w.heap.size w Wv) ⟨(((Bx.at_ (by simp)).alloc _)), ((Bx.at_ (by simp))), (((Below.refl _ w).alloc (by simp <;> omega) _).alloc (by simp <;> omega) _)⟩ ?_
  rintro wa1 ⟨g1, g2, b⟩
  replace B := B.trans (b.mono B.size); clear b
  have c_g1 := g1.cell; have f_g1 := g1.free; have a_g1 := fun o => (g1.alloc o).cell; have d_g1 := fun o o2 => ((g1.alloc o).alloc o2).cell; have e_g1 := fun o => (g1.alloc o).free
  have c_g2 := g2.cell; have f_g2 := g2.free; have a_g2 := fun o => (g2.alloc o).cell; have d_g2 := fun o o2 => ((g2.alloc o).alloc o2).cell; have e_g2 := fun o => (g2.alloc o).free
  go_wp2_with fail
  refine (ST.out _ (HA.out.below B) (HB.out.below B)).mono ?_
  rintro e wa2 ⟨rfl, b⟩
  try clear c_g1 f_g1 a_g1 d_g1 e_g1
  replace g1 := g1.below b; have c_g1 := g1.cell; have f_g1 := g1.free; have a_g1 := fun o => (g1.alloc o).cell; have d_g1 := fun o o2 => ((g1.alloc o).alloc o2).cell; have e_g1 := fun o => (g1.alloc o).free; try clear c_g2 f_g2 a_g2 d_g2 e_g2
  replace g2 := g2.below b; have c_g2 := g2.cell; have f_g2 := g2.free; have a_g2 := fun o => (g2.alloc o).cell; have d_g2 := fun o o2 => ((g2.alloc o).alloc o2).cell; have e_g2 := fun o => (g2.alloc o).free; replace B := B.trans (b.mono B.size); clear b
  have HBB := Lib.hid B
  go_wp2
  go_loopw [5] (fun i wr => i = .int .i64 0 ∧ Hid (wr = wa2)) (fun _ _ => 0)
  case atStart => exact ⟨rfl, Lib.hid rfl⟩
  case round =>
    obtain ⟨rfl, hw⟩ := hrel
    obtain rfl : wr = wa2 := hw.out
    go_wp2
    go_ret
    exact ⟨rfl, HBB.out⟩
end Go.Proofs.Ytodbbacmdjcheaa
