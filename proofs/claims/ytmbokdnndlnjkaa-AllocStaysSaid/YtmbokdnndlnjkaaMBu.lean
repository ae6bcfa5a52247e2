/- Contracts of the functions that the laws 'B' reach, part 21. No condition. -/
import Derived.Test.YtmbokdnndlnjkaaMBt
set_option linter.unusedVariables false
set_option linter.unusedSimpArgs false
namespace Go.Proofs.Ytmbokdnndlnjkaa.L19
open L02 L07 L13 L14 L15 L16 L18 L20
def sumE (l : List UInt64) : Int := if allErr l = 0 then sumN (freeL l) else 0
theorem sum_bound : ∀ {F : List Hb} {j : Nat}, (∀ c ∈ F, 0 ≤ c.size ∧ c.size ≤ 2000) → F.length ≤ j → 0 ≤ sumN F ∧ sumN F ≤ 2000 * j
  | [], j, _, _ => by simp only [sumN]; omega
  | c :: F, j, h, hl => by
    rw [List.length_cons] at hl
    have h1 := sum_bound (F := F) (j := j - 1) (fun c hc => h c (List.mem_cons_of_mem _ hc)) (by omega)
    have h2 := h c List.mem_cons_self
    rw [sumN]; omega
theorem sumN_app : ∀ (A B : List Hb), sumN (A ++ B) = sumN A + sumN B
  | [], B => by simp [sumN]
  | a :: A, B => by rw [List.cons_append, sumN, sumN, sumN_app A B]; omega
theorem Seg.sum {l : List UInt64} {k q : Nat} {L : List Hb} (h : Seg l k L q) : (q : Int) = k + sumN L := by
  induction h with
  | nil h => simp [sumN]
  | cons hk hs ht ih => rw [sumN, stand_size hs]; omega
theorem sum_parts : ∀ {L : List Hb}, (∀ b ∈ L, b.kind = 1 ∨ b.kind = 2) → sumN L = sumN (free L) + sumN (objs L)
  | [], _ => rfl
  | b :: L, h => by
    have ih := sum_parts (L := L) (fun c hc => h c (List.mem_cons_of_mem _ hc))
    rcases h b List.mem_cons_self with hb | hb
    · have e1 : free (b :: L) = free L := by unfold free; rw [List.filter_cons_of_neg (by simp; omega)]
      have e2 : objs (b :: L) = b :: objs L := by unfold objs; rw [List.filter_cons_of_pos (by simp; omega)]
      rw [e1, e2, sumN, sumN]; omega
    · have e1 : free (b :: L) = b :: free L := by unfold free; rw [List.filter_cons_of_pos (by simp; omega)]
      have e2 : objs (b :: L) = objs L := by unfold objs; rw [List.filter_cons_of_neg (by simp; omega)]
      rw [e1, e2, sumN, sumN]; omega
/-- the words of free extents and of objects are those of the heap -/
theorem sum_all {l : List UInt64} (h : allErr l = 0) : sumN (freeL l) + sumN (O19 l) = (l.length : Int) - 128 := by
  have h1 := (seg_of_all h).1.sum
  have h2 := sum_parts (L := allL l) (fun b hb => by
    obtain ⟨a, _, _, h3, h4, _⟩ := all_mem h hb
    have := (stand_ok h3).bounds
    rw [← h4] at this
    exact this.2.2.2.1)
  have e1 : freeL l = free (allL l) := rfl
  have e2 : O19 l = objs (allL l) := rfl
  rw [e1, e2]; omega
theorem all_pair {l : List UInt64} (h : allErr l = 0) : (allL l).Pairwise fun a b => a.at_ + a.size ≤ b.at_ :=
  (chain_apart (chain_iff.1 (parsed_ok.1 (allErr_ok h).2).1)).2
theorem all_size {l : List UInt64} (h : allErr l = 0) {b : Hb} (hb : b ∈ allL l) : 2 ≤ b.size := by
  obtain ⟨a, _, _, h3, h4, _⟩ := all_mem h hb
  have := (stand_ok h3).bounds
  rw [← h4] at this
  omega
end Go.Proofs.Ytmbokdnndlnjkaa.L19
namespace Go.Proofs.Ytmbokdnndlnjkaa.L19
open L02 L07 L13 L14 L15 L16 L18 L20
/-- a block by its address -/
theorem find_of {l : List UInt64} (h : allErr l = 0) {b : Hb} (hb : b ∈ allL l) : findErr l b.at_ = 0 ∧ find l b.at_ = b := by
  have hf : findB (allL l) b.at_ = some b := by
    unfold findB
    cases hc : (allL l).find? (fun c => decide (c.at_ = b.at_)) with
    | none =>
      rw [List.find?_eq_none] at hc
      have := hc b hb
      simp at this
    | some c =>
      have h1 := List.mem_of_find?_eq_some hc
      have h2 := List.find?_some hc
      have h3 : c.at_ = b.at_ := by simpa using h2
      have h4 := all_size h h1
      have h5 := all_size h hb
      rcases all_apart h h1 hb with e | e | e
      · rw [e]
      · omega
      · omega
  have he : findErr l b.at_ = 0 := by rw [findErr, if_pos h, hf]; rfl
  exact ⟨he, by rw [find, if_pos he, hf]; rfl⟩
section
variable {l l' : List UInt64} {q k p n c : Nat} {g0 : Int} {b : Hb} {t : List UInt8} {P S : List Hb}
theorem Al.len (h : Al l q k p n c g0 b t P S l') : l'.length = l.length := by rw [h.hl, List.length_set, putW_len]
theorem Al.res (h : Al l q k p n c g0 b t P S l') : resErr l' k (g0 + 1) = 0 ∧ L18.res l' k (g0 + 1) = (p : Int) := by
  obtain ⟨_, _, _, r', _, hs, _⟩ := h.after
  have hk : (slots l')[k]? = some ⟨g0 + 1, true, (p : Int)⟩ := by rw [hs, List.getElem?_set_self (by rw [slots_len' h.rt.sl]; exact h.hk)]
  have := resErr_at r'.sl hk (g0 + 1)
  exact ⟨by rw [this.1, if_pos ⟨rfl, rfl⟩], this.2 rfl rfl⟩
theorem Al.found (h : Al l q k p n c g0 b t P S l') : findErr l' (p : Int) = 0 ∧ find l' (p : Int) = objH p n q := by
  obtain ⟨_, _, _, r', _, _, ⟨R, _, hL⟩, _⟩ := h.after
  exact find_of r'.al (b := objH p n q) (by rw [hL]; simp)
theorem Al.words (h : Al l q k p n c g0 b t P S l') : sumE l' = sumE l - n ∧ 0 ≤ sumE l' ∧ sumE l ≤ 2000 := by
  obtain ⟨_, _, _, r', _, _, _, _, e1, e2⟩ := h.after
  have s0 := sum_all h.rt.al
  have s1 := sum_all r'.al
  rw [e1, sumN_app] at s0
  rw [e2, sumN_app, sumN, h.len] at s1
  have hp : ∀ {m : List UInt64}, allErr m = 0 → 0 ≤ sumN (freeL m) ∧ 0 ≤ sumN (O19 m) := fun {m} hm => by
    have hb : ∀ c ∈ allL m, 0 ≤ c.size ∧ c.size ≤ 2000 := fun c hc => by
      obtain ⟨a, _, _, h3, h4, _⟩ := all_mem hm hc
      have := (stand_ok h3).bounds
      rw [← h4] at this
      omega
    exact ⟨(sum_bound (j := (freeL m).length) (fun c hc => hb c (free_mem.1 hc).1) (Nat.le_refl _)).1, (sum_bound (j := (O19 m).length) (fun c hc => hb c (objs_mem.1 hc).1) (Nat.le_refl _)).1⟩
  have h1 := hp h.rt.al
  have h2 := hp r'.al
  have h3 := h.rt.sz.2.1
  rw [e1, sumN_app] at h1
  have ho : (objH p n q).size = (n : Int) := rfl
  rw [ho] at s1
  unfold sumE
  rw [if_pos r'.al, if_pos h.rt.al]
  omega
theorem Al.zero (h : Al l q k p n c g0 b t P S l') : ∀ i, p < i → i < p + n → l'[i]? = some 0 := fun i h1 h2 => by
  have hc := h.hc; have hp := h.hp; have hk := h.hk
  obtain ⟨w1, w2, w3, w4⟩ := newW_get (l := l) (p := p) (n := n) (q := q) (c := c) (by omega) hc.1 (by omega)
  have h3 : (putW l p (newW p n q c)).getD i 0 = 0 := w2 i h1 h2
  have hlt : i < (putW l p (newW p n q c)).length := by rw [putW_len]; omega
  rw [h.hl, List.getElem?_set_ne (by omega), List.getElem?_eq_getElem hlt]
  rw [List.getD_eq_getElem?_getD, List.getElem?_eq_getElem hlt] at h3
  exact congrArg some h3
end
end Go.Proofs.Ytmbokdnndlnjkaa.L19
namespace Go.Proofs.Ytmbokdnndlnjkaa.L19
open L02 L07 L13 L14 L15 L16 L18 L20
/-- blocks that are objects before an address -/
def isO (p : Int) (b : Hb) : Bool := decide (b.kind = 1) && decide (b.at_ < p)
def cntF (p : Int) (L : List Hb) : Nat := (L.filter (isO p)).length
theorem cntF_app (p : Int) (A B : List Hb) : cntF p (A ++ B) = cntF p A + cntF p B := by unfold cntF; rw [List.filter_append, List.length_append]
theorem cntF_step {p : Int} {L : List Hb} {j : Nat} {b : Hb} (h : L[j]? = some b) : cntF p (L.take (j + 1)) = cntF p (L.take j) + if isO p b = true then 1 else 0 := by
  rw [List.take_add_one, h, cntF_app]
  congr 1
  unfold cntF
  show (List.filter (isO p) [b]).length = _
  rw [List.filter_cons]
  split <;> rfl
theorem cntF_objs {p : Int} {L : List Hb} (h : ∀ b ∈ L, b.at_ < p) : cntF p L = (objs L).length := by
  unfold cntF objs
  congr 1
  refine List.filter_congr fun b hb => ?_
  unfold isO
  rw [decide_eq_true (h b hb), Bool.and_true]
theorem cntF_none {p : Int} {L : List Hb} (h : ∀ b ∈ L, p ≤ b.at_) : cntF p L = 0 := by
  unfold cntF
  rw [List.length_eq_zero_iff, List.filter_eq_nil_iff]
  intro b hb
  unfold isO
  have := h b hb
  rw [decide_eq_false (by omega : ¬ b.at_ < p), Bool.and_false]; simp
def insJ (f j : Nat) : List Int := (List.range j).map fun n => if n < f then (n : Int) else (n : Int) + 1
theorem insJ_succ (f j : Nat) : insJ f (j + 1) = insJ f j ++ [if j < f then (j : Int) else (j : Int) + 1] := by unfold insJ; rw [List.range_succ, List.map_append]; rfl
theorem insN_eq (N f : Nat) : insN N f = insJ f N ++ [(f : Int)] := rfl
/-- an allocation that isn't possible, of the model -/
theorem aiE_seen {l : List UInt64} {t : Int} (rt : Rt l) (h : aiE l t ≠ 0) : aiE l t = allE (seen l) t ∨ (aiE l t = 20 ∧ (allE (seen l) t = 0 ∨ allE (seen l) t = 4)) := by
  have h1 : next (seen l).slots = next (slots l) := next_map _ _
  have h2 : (seen l).types.length = (T19 l).length := rfl
  unfold aiE at h ⊢
  unfold allE
  rw [if_pos rt.chk] at h ⊢
  rw [if_pos (seen_chk rt), h1, h2]
  by_cases h3 : 0 ≤ t ∧ t < (T19 l).length
  · rw [if_pos h3] at h ⊢
    rw [if_pos h3]
    by_cases h4 : next (slots l) = none
    · rw [if_pos h4, if_pos h4]; exact .inl rfl
    · rw [if_neg h4] at h ⊢
      rw [if_neg h4]
      by_cases h5 : (takes (freeL l) (sizT (tyI l t))).isSome
      · rw [if_pos h5] at h; exact absurd rfl h
      · rw [if_neg h5]
        refine .inr ⟨rfl, ?_⟩
        split
        · exact .inr rfl
        · exact .inl rfl
  · rw [if_neg h3, if_neg h3]; exact .inl rfl
section
variable {l l' : List UInt64} {q k p n c : Nat} {g0 : Int} {b : Hb} {t : List UInt8} {P S : List Hb}
theorem Al.first (h : Al l q k p n c g0 b t P S l') : cntF p (allL l') = (objs P).length ∧ (objs P).length ≤ (O19 l).length ∧ (O19 l).length ≤ 959 := by
  obtain ⟨_, _, _, r', _, _, ⟨R, _, hL⟩, _, e1, e2⟩ := h.after
  have hp := all_pair r'.al
  have hs : ∀ d ∈ allL l', 2 ≤ d.size := fun d hd => all_size r'.al hd
  have hlen : (O19 l').length ≤ 960 := Nat.le_trans (List.length_filter_le _ _) (all_len r'.al)
  rw [hL] at hp hs ⊢
  obtain ⟨_, pb, pc⟩ := List.pairwise_append.1 hp
  rw [List.append_assoc] at pb
  refine ⟨?_, by rw [e1, List.length_append]; omega, ?_⟩
  · rw [cntF_app, cntF_objs, cntF_none]
    · rfl
    · intro d hd
      rw [List.append_assoc] at hd
      rcases List.mem_cons.1 hd with rfl | hd
      · exact Int.le_refl _
      · have := (List.pairwise_cons.1 pb).1 d hd
        have h2 : (objH p n q).at_ = (p : Int) := rfl
        have h3 : (objH p n q).size = (n : Int) := rfl
        omega
    · intro d hd
      have := pc d hd (objH p n q) (by simp)
      have h2 : (objH p n q).at_ = (p : Int) := rfl
      have := hs d (by simp [hd])
      omega
  · rw [e2, List.length_append, List.length_cons] at hlen
    rw [e1, List.length_append]; omega
theorem Al.hd (h : Al l q k p n c g0 b t P S l') : ∃ q' t', Hd l' k p (objs P).length q' (g0 + 1) (objH p n q) t' := by
  obtain ⟨_, _, _, r', _, hs, _, _, _, hO⟩ := h.after
  exact Hd.mk2 r' h.hk (by rw [hs, List.getElem?_set_self (by rw [slots_len' h.rt.sl]; exact h.hk)]) (by rw [hO, List.getElem?_append_right (Nat.le_refl _), Nat.sub_self]; rfl) rfl
/-- nothing refers to what was just allocated -/
theorem Al.idle (h : Al l q k p n c g0 b t P S l') : fiE l' k (g0 + 1) = 0 := by
  obtain ⟨q', t', hd⟩ := h.hd
  obtain ⟨_, _, _, r', _, hs, _, hT, hO, hO'⟩ := h.after
  have hcs : b.size.toNat = c := by rw [h.hsz]; rfl
  obtain ⟨l1, hl1⟩ : ∃ l1, l1 = putW l p (newW p n q c) := ⟨_, rfl⟩
  obtain ⟨_, _, _, _, _, _, _, hap, hfw1, _⟩ := seen_alloc h.rt h.hL h.hbk h.hat h.hT h.hn (by rw [h.hsz]; have := h.hc; omega) (l' := l1) (by rw [hcs]; exact hl1)
  have hfw : ∀ d ∈ O19 l, ∀ j, j < (kindsB (T19 l) d).length → fw l' d j = fw l d j := fun d hd j hj => by
    have := objs_low h.rt.al d hd
    have := h.hk
    rw [← hfw1 d hd j hj, h.hl, ← hl1]; exact fw_set (by omega)
  unfold fiE
  rw [if_pos hd.hask, if_neg]
  rw [hd.busy]
  rintro (⟨i, s, h1, h2, h3, h4⟩ | ⟨d, h1, h2, j, h3, h4, h5⟩)
  · rw [hs, List.getElem?_set_ne (Ne.symm h1)] at h2
    exact hap s.at_ (h.rt.slots s (List.mem_of_getElem? h2) h3) h4
  · have hdm : d ∈ O19 l := by
      rw [hO'] at h1
      rw [hO]
      rcases List.mem_append.1 h1 with h1 | h1
      · exact List.mem_append.2 (.inl h1)
      · rcases List.mem_cons.1 h1 with rfl | h1
        · exact absurd rfl h2
        · exact List.mem_append.2 (.inr h1)
    rw [hT] at h3 h4
    rw [hfw d hdm j h3] at h5
    have h11 : fw l d j = 0 ∨ IsObj (O19 l) (fw l d j).toNat := h.rt.good 11 (by omega) (by omega) d hdm j h3 h4
    rcases h11 with e | e
    · rw [e] at h5; have := h.hp; simp at h5; omega
    · exact hap _ e h5
end
section
variable {l l' : List UInt64} {q k p n c : Nat} {g0 : Int} {b : Hb} {t : List UInt8} {P S : List Hb}
end
end Go.Proofs.Ytmbokdnndlnjkaa.L19
namespace Go.Proofs.Ytmbokdnndlnjkaa.L19
open L02 L05 L06 L07 L13 L14 L15 L16 L18 L20
def freeW (n : Int) : UInt64 := L14.word (freeB n)
end Go.Proofs.Ytmbokdnndlnjkaa.L19
namespace Go.Proofs.Ytmbokdnndlnjkaa.L19
open L02 L05 L06 L07 L13 L14 L15 L16 L18 L20
theorem ex22_change : aiE ex22 0 = 0 ∧ aiS ex22 0 = 0 ∧ aiG ex22 0 = 1 ∧ ∃ E, aiL ex22 0 = E ∧ E.map (·.1) = [112, 128, 129, 130, 131, 132] ∧ (E.map (·.2))[5]? = some (freeW 124) := by
  refine ⟨by decide +kernel, by decide +kernel, by decide +kernel, _, rfl, by decide +kernel, by decide +kernel⟩
end Go.Proofs.Ytmbokdnndlnjkaa.L19
namespace Go.Proofs.Ytmbokdnndlnjkaa
open Go.RowKit L01 L02 L05 L06 L07 L13 L14 L15 L18 L19
set_option maxRecDepth 100000 in
set_option maxHeartbeats 4000000 in
theorem example22_any (w : World) : Calls Try.prog 21 #[] w fun e w' => ∃ x, e = .returned x ∧ OwnW w' w.heap.size 24 x ex22 ∧ Below w.heap.size w w' := by
  have B : Below w.heap.size w w := Below.refl _ _
  obtain ⟨L, hL⟩ : ∃ L, L = [freeB 128] := ⟨_, rfl⟩
  obtain ⟨l0, hl0⟩ : ∃ l0, l0 = laid 256 L := ⟨_, rfl⟩
  obtain ⟨ws, hws⟩ : ∃ ws, ws = wordsOf 256 1 := ⟨_, rfl⟩
  obtain ⟨a, ha⟩ : ∃ a, a = w0 [1] := ⟨_, rfl⟩
  obtain ⟨b, hb⟩ : ∃ b, b = w1 [1] := ⟨_, rfl⟩
  have hbk : ∀ b ∈ L, BkOk b := by rw [hL]; decide
  have hl0l : l0.length = 256 := by rw [hl0]; exact laid_len _ _
  have hwsl : ws.length = 8 := by rw [hws]; exact wO_len _ _
  have LT := Lib.hid (fun v w h => LaidR_any 256 v L hbk (by rw [hL]; decide) (by omega) w h)
  have WT := Lib.hid (fun w => Written_any 256 1 w (by decide))
  have KT := Lib.hid (fun v w h => KWriteR_any v [1] a b 0 ha hb (by decide) w h)
  rw [← hl0] at LT; rw [← hws] at WT
  have HX := Lib.hid (show ex22 = putW (putW (putW l0 0 ws) 8 ws) 96 [a, b] from by rw [ex22, base22, hl0, hL, hws, ha, hb])
  have HL := Lib.hid hL; have HL0 := Lib.hid hl0l; have HWS := Lib.hid hwsl
  clear hL hl0 hws ha hb hbk hl0l hwsl
  go_enter Try.func21, Try.ntmps21
  go_wp2_with fail
  refine (LT.out _ _ (lit_blocks L rfl (by rw [HL.out]; rfl) (by rw [HL.out]; rfl) (by rw [HL.out]; decide))).mono ?_
  rintro e w2 ⟨x, rfl, ox, b⟩
  have hal := B.alloc B.size (.cells #[.int .i64 0, .int .i64 128, .int .i64 2, .int .i64 0, .bool false, .int .u64 0] 54)
  replace B := hal.trans (b.mono hal.size)
  replace ox : OwnW w2 w.heap.size 24 x l0 := own_mono ox hal.size
  clear b hal
  have hb1 := B.size
  go_wp2_with fail
  refine (WT.out _).mono ?_
  rintro e w3 ⟨s, rfl, os, b⟩
  have hne := (own_ne ox os (Nat.le_refl _)).1
  replace ox := ox.below b
  replace B := B.trans (b.mono B.size)
  have hb2 := B.size
  clear b
  have HO := Lib.hid (And.intro ox (And.intro os (And.intro hne B)))
  clear ox os hne B
  go_wp2_with fail
  refine (KT.out _ _ (lit_byts [1] rfl rfl rfl (by simp))).mono ?_
  rintro e w4 ⟨rfl, b⟩
  have hal : Below w3.heap.size w3 (w3.alloc (.cells #[.int .u8 1] 5)) := (Below.refl _ _).alloc (Nat.le_refl _) _
  have hb34 := hal.trans (b.mono hal.size)
  obtain ⟨ox, os, hne, B⟩ := HO.out
  replace ox := ox.below hb34
  replace os := os.below hb34
  replace B := B.trans (hb34.mono B.size)
  clear hal hb34 b
  go_upto_region 4 with (fail)
  refine wp_gen (fun Wv => Bx Wv (w4.heap.size) (25) (#[.int .u64 a.toNat, .int .u64 b.toNat]) ∧ Below w4.heap.size w4 Wv) ⟨((Bx.at_ (by simp))), ((Below.refl _ w4).alloc (by simp <;> omega) _)⟩ ?_
  rintro wa1 ⟨g4, b⟩
  replace ox := ox.below b; replace os := os.below b; replace B := B.trans (b.mono B.size); clear b
  have c_g4 := g4.cell; have f_g4 := g4.free; have a_g4 := fun o => (g4.alloc o).cell; have d_g4 := fun o o2 => ((g4.alloc o).alloc o2).cell; have e_g4 := fun o => (g4.alloc o).free
  obtain ⟨d1, sl1, cut1⟩ := own_cut2 (P := Try.prog) ox Try.underlying22 one_u64 (lo := 0) (hi := 8) (by omega) (by rw [HL0.out]; omega)
  have sl1' : ∀ W, (Instr.sliceAt 22 x (some (.int .i64 0)) (some (.int .i64 8)) none).run Try.prog W = .ok d1 W := sl1
  clear sl1
  go_wp2_with fail
  obtain ⟨w6, x6, hrun, o6, B6, g6⟩ := copyW (l := l0) (m := ws) (a := 0) ox cut1 os.rd (by rw [HWS.out]) (by rw [HL0.out]; omega) B (Nat.le_refl _)
  rw [hrun, Result.andThen_ok]
  have g4' := g4.grown g6 (own_not_bx ox g4 (by decide))
  have os' := os.kept g6 hne
  clear hrun cut1 sl1' ox os g4 c_g4 f_g4 a_g4 d_g4 e_g4 B g6
  have hlen1 : (putW l0 0 ws).length = 256 := by rw [putW_len, HL0.out]
  obtain ⟨d2, sl2, cut2⟩ := own_cut2 (P := Try.prog) o6 Try.underlying22 one_u64 (lo := 8) (hi := 16) (by omega) (by rw [hlen1]; omega)
  have sl2' : ∀ W, (Instr.sliceAt 22 x (some (.int .i64 8)) (some (.int .i64 16)) none).run Try.prog W = .ok d2 W := sl2
  clear sl2
  go_wp2_with fail
  obtain ⟨w7, x7, hrun, o7, B7, g7⟩ := copyW (l := putW l0 0 ws) (m := ws) (a := 8) o6 cut2 os'.rd (by rw [HWS.out]) (by rw [hlen1]; omega) B6 (Nat.le_refl _)
  rw [hrun, Result.andThen_ok]
  have g5' := g4'.grown g7 (own_not_bx o6 g4' (by decide))
  clear hrun cut2 sl2' o6 os' g4' B6 g7
  have hlen2 : (putW (putW l0 0 ws) 8 ws).length = 256 := by rw [putW_len, hlen1]
  obtain ⟨d3, sl3, cut3⟩ := own_cut2 (P := Try.prog) o7 Try.underlying22 one_u64 (lo := 96) (hi := 98) (by omega) (by rw [hlen2]; omega)
  have sl3' : ∀ W, (Instr.sliceAt 22 x (some (.int .i64 96)) (some (.int .i64 98)) none).run Try.prog W = .ok d3 W := sl3
  clear sl3
  go_upto_region 6 with (fail)
  refine wp_region_qtail 3 (by kernel_rfl) (by kernel_rfl) ?_
  simp only [List.take_succ_cons, List.take_zero, List.drop_succ_cons, List.drop_zero]
  iterate 3 (go_big_quiet_step (fail))
  refine wpQuiet_nil ?_
  go_wp2_with fail
  have o7d : OwnW w7.drew w.heap.size 24 x (putW (putW l0 0 ws) 8 ws) := o7
  have g5d : Bx w7.drew w4.heap.size 25 #[.int .u64 a.toNat, .int .u64 b.toNat] := g5'
  obtain ⟨w8, x8, hrun, o8, B8, g8⟩ := copyW (l := putW (putW l0 0 ws) 8 ws) (m := [a, b]) (a := 96) o7d cut3 (arr_words g5d) rfl (by rw [hlen2]; omega) B7.drew (Nat.le_refl _)
  rw [hrun, Result.andThen_ok]
  clear hrun cut3 sl3' o7 o7d g5d g5' B7 g8
  have hlen3 : (putW (putW (putW l0 0 ws) 8 ws) 96 [a, b]).length = 256 := by rw [putW_len, hlen2]
  have HR := Lib.hid (show OwnW w8 w.heap.size 24 x ex22 ∧ Below w.heap.size w w8 from ⟨by rw [HX.out]; exact o8, B8⟩)
  clear o8 B8 hlen3 hlen2 hlen1
  go_wp2
  go_ret
  exact ⟨_, rfl, HR.out⟩
set_option maxRecDepth 100000 in
set_option maxHeartbeats 4000000 in
theorem alive22_any (w : World) : Calls Try.prog 25 #[] w fun e w' => e = .returned (.bool true) ∧ Below w.heap.size w w' := by
  have B : Below w.heap.size w w := Below.refl _ _
  have EX := Lib.hid (fun w => example22_any w)
  obtain ⟨l, hl⟩ : ∃ l, l = ex22 := ⟨_, rfl⟩
  obtain ⟨f1, f2, f3, E, f4, f5, f6⟩ := ex22_change
  rw [← hl] at EX f1 f2 f3 f4
  have CH := Lib.hid (fun v w h => Change_any v l 0 E 0 1 0 f4.symm f2.symm f3.symm f1.symm w h)
  obtain ⟨fw, hfw⟩ : ∃ x, x = freeW 124 := ⟨_, rfl⟩
  rw [← hfw] at f6
  have OT := Lib.hid (fun w => OfHR_any (freeB 124) (by decide) fw hfw w)
  have hEl : E.length = 6 := by have := congrArg List.length f5; rw [List.length_map] at this; simpa using this
  have HE := Lib.hid f5; have HF := Lib.hid f6; have HEL := Lib.hid hEl
  have nq : ∀ W, (binOp .neq 35 (.agg #[.int .i64 0, .int .i64 1]) (.agg #[.int .i64 0, .int .i64 1])).run Try.prog W = .ok (.bool false) W := fun W => by simp [go_sem]
  clear hl f1 f2 f3 f4 f5 f6 hfw hEl
  go_enter Try.func25, Try.ntmps25
  go_wp2_with fail
  refine (EX.out _).mono ?_
  rintro e wa1 ⟨x0, rfl, o0, b⟩
  replace B := B.trans (b.mono B.size); clear b
  have q0 := o0.rd
  clear o0
  go_wp2_with fail
  refine (CH.out _ _ q0).mono ?_
  rintro e wa2 ⟨y, rfl, o1, b⟩
  replace q0 := q0.below b; replace B := B.trans (b.mono B.size); clear b
  have q1 := o1.rd
  clear o1 q0
  go_upto_region 2 with (fail)
  refine wp_gen (fun Wv => Bx Wv (wa2.heap.size) (35) (#[.int .i64 0, .int .i64 1]) ∧ Below wa2.heap.size wa2 Wv) ⟨((Bx.at_ (by simp))), ((Below.refl _ wa2).alloc (by simp <;> omega) _)⟩ ?_
  rintro wa3 ⟨g1, b⟩
  replace q1 := q1.below b; replace B := B.trans (b.mono B.size); clear b
  have c_g1 := g1.cell; have f_g1 := g1.free; have a_g1 := fun o => (g1.alloc o).cell; have d_g1 := fun o o2 => ((g1.alloc o).alloc o2).cell; have e_g1 := fun o => (g1.alloc o).free
  go_upto_region 3 with (fail)
  refine wp_gen (fun V => Ints V (.slice (some ⟨wa3.heap.size, 0, none⟩) 6 6) [112, 128, 129, 130, 131, 132] ∧ Ents V y E ∧ Bx V wa2.heap.size 35 #[.int .i64 0, .int .i64 1] ∧ Below w.heap.size w V) ⟨lit_rdN rfl (by omega), Rd.alloc q1 _, g1.alloc _, B.alloc B.size _⟩ ?_
  clear q1 g1 c_g1 f_g1 a_g1 d_g1 e_g1 B
  rintro va ⟨q2, q1, g1, B⟩
  have le := Rd.len q1 Try.underlying30
  rw [HEL.out] at le
  have le' : ∀ ty W, (Builtin.len_ #[30] ty #[y]).run Try.prog W = .ok (.int .i64 6) W := le
  clear le
  obtain ⟨b5, o5, a5, x5, i5, m4, m5, h5⟩ := q1.at_ (k := 5) (by rw [HEL.out]; omega)
  obtain rfl : x5 = fw := by
    have h1 := h5.out
    have h2 := HF.out
    rw [List.getElem?_map, h1] at h2
    injection h2
  have i5' : ∀ W, (Instr.indexAt 30 y (.int .i64 5)).run Try.prog W = .ok (.pointer (some ⟨b5, o5, none⟩)) W := i5
  clear i5 h5 m4
  refine wp_region_calm (by kernel_rfl) (by kernel_rfl) ?_
  try clear c_g1 f_g1 a_g1 d_g1 e_g1
  have c_g1 := fun x : Fut _ => (g1.below x.h).cell
  have c_m5 := fun x : Fut _ => cell_later x.h m5
  repeat (go_big_quiet_step (first | exact Fut.call (OT.out _) | exact Fut.same (OT.out _)))
  refine wpQuiet_nil ?_
  intro _ hw'
  obtain ⟨xq, hw''⟩ := hw'
  subst hw''
  clear c_g1; replace g1 := g1.below xq.h; have c_g1 := g1.cell; have f_g1 := g1.free; have a_g1 := fun o => (g1.alloc o).cell; have d_g1 := fun o o2 => ((g1.alloc o).alloc o2).cell; have e_g1 := fun o => (g1.alloc o).free
  clear c_m5; replace m5 := cell_later xq.h m5
  replace q1 := q1.below xq.h
  replace q2 := q2.below xq.h
  replace B := B.trans (xq.h.mono B.size)
  have HQ := Lib.hid (And.intro q2 (And.intro q1 B))
  clear m5 i5' q1 q2 B g1 c_g1 f_g1 a_g1 d_g1 e_g1 le' nq
  go_wp2
  go_loopg [5] 6 (fun g i wr => ∃ j : Nat, j ≤ 6 ∧ g = 6 - j ∧ i = .int .i64 j ∧ Hid (Ints wr (.slice (some ⟨wa3.heap.size, 0, none⟩) 6 6) [112, 128, 129, 130, 131, 132] ∧ Ents wr y E ∧ Below w.heap.size w wr))
  case atStart => exact ⟨0, by omega, by omega, rfl, HQ⟩
  case round =>
    obtain ⟨j, hj, rfl, rfl, hh⟩ := hrel
    clear HQ
    by_cases hlt : j < 6
    · obtain ⟨q2, q1, B⟩ := hh.out
      clear hh
      obtain ⟨b5, o5, a5, x9, i5, m4, m5, h5⟩ := q1.at_ (k := j) (by rw [HEL.out]; exact hlt)
      obtain ⟨xa, x, ixx, m6, hx⟩ := q2.at_ (P := Try.prog) Try.underlying91 one_int (k := j) hlt
      obtain rfl : x = a5 := by
        have h1 := h5.out
        have h2 := HE.out
        have h3 := hx.out
        rw [← h2, List.getElem?_map, h1] at h3
        injection h3 with h3
        exact h3.symm
      clear h5 hx m5
      go_wp2
      refine wp_region_calm (by kernel_rfl) (by kernel_rfl) ?_
      have c_m4 := fun x : Fut _ => cell_later x.h m4
      have c_m6 := fun x : Fut _ => cell_later x.h m6
      repeat (go_big_quiet_step (fail))
      refine wpQuiet_nil ?_
      intro _ hw'
      obtain ⟨xq, hw''⟩ := hw'
      subst hw''
      clear c_m4; replace m4 := cell_later xq.h m4
      clear c_m6; replace m6 := cell_later xq.h m6
      replace q1 := q1.below xq.h
      replace q2 := q2.below xq.h
      replace B := B.trans (xq.h.mono B.size)
      have HR := Lib.hid (And.intro q2 (And.intro q1 B))
      clear m4 m6 q1 q2 B i5 ixx
      go_wp2
      go_roundg (6 - (j + 1))
      case measure => omega
      case rel => exact ⟨j + 1, by omega, rfl, by go_num, HR⟩
    · obtain rfl : j = 6 := by omega
      have B := hh.out.2.2
      clear hh
      go_wp2
      go_ret
      exact ⟨rfl, B⟩
end Go.Proofs.Ytmbokdnndlnjkaa
namespace Go.Proofs.Ytmbokdnndlnjkaa
open Go.RowKit Go.Maps L02 L13 L18 L20
/-- .. that has just n entries, those whose keys K tells -/
def MapN (P : Program) (k e : TypeId) (z0 : Lit) (W : World) (g n : Nat) (f : Int → Lit) (K : Int → Bool) : Prop :=
  ∃ D : DataW Unit, W.ownsMap P k (plainElem P e) g n D ∧ (∀ a, D.atKey (.int .i64 a) (.lit z0) = .lit (f a)) ∧ size D = n ∧ ∀ a, has D (.int .i64 a) = K a
section
variable {P : Program} {k e : TypeId} {z0 : Lit} {W : World} {g n : Nat} {f : Int → Lit} {K : Int → Bool}
theorem MapN.mapL (h : MapN P k e z0 W g n f K) : MapL P k e z0 W g n f := by obtain ⟨D, h1, h2, _⟩ := h; exact ⟨D, h1, h2⟩
theorem MapN.made (W : World) : MapN P k e z0 (W.alloc (.map #[] 0)) W.heap.size 0 (fun _ => z0) (fun _ => false) :=
  ⟨.map [], World.ownsMap_made W P k _, fun a => rfl, rfl, fun a => rfl⟩
theorem MapN.kept {W' : World} {row : Option Nat} (h : MapN P k e z0 W g n f K) (hg : W.grownBy W' row) (hne : some g ≠ row) : MapN P k e z0 W' g n f K := by
  obtain ⟨D, h1, h2⟩ := h; exact ⟨D, h1.kept hg hne, h2⟩
theorem MapN.below {W' : World} (h : MapN P k e z0 W g n f K) (hb : Below W.heap.size W W') : MapN P k e z0 W' g n f K := by
  obtain ⟨D, ⟨es, clock, hh, F, hs, hD⟩, h2⟩ := h
  exact ⟨D, ⟨es, clock, (hb.block g (Array.getElem?_eq_some_iff.1 hh).1).trans hh, F, hs, hD⟩, h2⟩
theorem MapL.block (h : MapL P k e z0 W g n f) : ∃ es clock, W.heap[g]? = some (.map es clock) := by
  obtain ⟨D, ⟨es, clock, hh, _⟩, _⟩ := h; exact ⟨es, clock, hh⟩
theorem MapN.len {t : TypeId} (h : MapN P k e z0 W g n f K) (ht : P.underlying t = some (.map k e)) : ∀ ty, (Builtin.len_ #[t] ty #[.map (some g)]).run P W = .ok (.int .i64 (n : Int)) W := by
  obtain ⟨D, h1, _, h3, _⟩ := h
  intro ty
  rw [h1.len ht ty, h3]
theorem MapN.put {t : TypeId} (h : MapN P k e z0 W g n f K) (hk : P.underlying k = some (.int .i64)) (ht : P.underlying t = some (.map k e)) (hn : n < maxLen) {a : Int} (ha : i64Ok a) (hK : K a = false) {v : Value} {l : Lit} (hv : plainElem (H := Unit) P e v = some (.lit l, [])) :
    ∃ W', (Instr.mapUpdate t (.map (some g)) (.int .i64 a) v).run P W = .ok () W' ∧ MapN P k e z0 W' g (n + 1) (fun b => if b = a then l else f b) (fun b => decide (b = a) || K b) ∧ W.grownBy W' (some g) := by
  obtain ⟨D, h1, h2, h3, h4⟩ := h
  obtain ⟨W', r1, r2, r3⟩ := h1.update (int_keyed hk) ht hn (keyOf_int_mk hk (lit_wf ha)) hv
  refine ⟨W', r1, ⟨_, r2, fun b => ?_, ?_, fun b => ?_⟩, r3⟩
  · by_cases hb : b = a
    · subst hb
      show _ = DataW.lit (if b = b then l else f b)
      rw [if_pos rfl]
      exact atKey_put_same (h1.isMap) ((int_keyed hk).key (keyOf_int_mk hk (lit_wf ha))) _ _
    · show _ = DataW.lit (if b = a then l else f b)
      rw [if_neg hb, atKey_put_other (by intro e; injection e with _ e; exact hb e), h2]
  · rw [size_put (h1.tidy (int_keyed hk)), h4, hK, h3]; rfl
  · by_cases hb : b = a
    · subst hb
      rw [has_put_same h1.isMap ((int_keyed hk).key (keyOf_int_mk hk (lit_wf ha)))]; simp
    · rw [has_put_other (by intro e; injection e with _ e; exact hb e), h4]; simp [hb]
/-- a store at the operation, for the walk -/
theorem wpList_mapPutN {ops : Array Oper} {rest : List Oper} {o : Oper} {a : Act} {Q : Exit → Act → World → Prop} (hg : o.guard = none) {m x v : Operand} {t : TypeId} (hop : o.op = Op.mapUpdate t m x v) (hk : P.underlying k = some (.int .i64)) (ht : P.underlying t = some (.map k e))
    (hm : a.eval m = .map (some g)) {key : Int} {val : Value} {l : Lit} (hx : a.eval x = .int .i64 key) (hv : a.eval v = val) (h : MapN P k e z0 W g n f K) (hn : n < maxLen) (hkey : i64Ok key) (hK : K key = false) (hval : plainElem (H := Unit) P e val = some (.lit l, []))
    (hC : ∀ W', MapN P k e z0 W' g (n + 1) (fun b => if b = key then l else f b) (fun b => decide (b = key) || K b) → W.grownBy W' (some g) → wpList P ops Q rest (a.put o.dst undef) W') : wpList P ops Q (o :: rest) a W := by
  refine wpList_plain hg fun K' hK' => ?_
  obtain ⟨W', hrun, r1, r2⟩ := h.put hk ht hn hkey hK hval
  unfold Oper.wp
  simp [execOp, hop, hm, hx, hv, hrun, Result.andThen]
  exact hK' _ _ (hC W' r1 r2)
/-- a row does not lie in a map's block -/
theorem own_ne_map {B e' sz n' : Nat} {v : Value} {xs : List Value} {es : Array MapEntry} {clock : Nat} (h : W.ownsRow B e' sz v n' xs) (hm : W.heap[g]? = some (.map es clock)) : v.ownBlock = none ∨ v.ownBlock ≠ some g := by
  rcases h.2 with ⟨rfl, _⟩ | ⟨g', cap, cur, rfl, _, hg', _⟩
  · exact .inl rfl
  · refine .inr ?_
    intro he
    simp [Value.ownBlock] at he
    subst he
    rw [hg'] at hm
    injection hm with hm
    cases hm
theorem Bx.ne_map {p : Nat} {t : TypeId} {cs : Array Value} {es : Array MapEntry} {clock : Nat} (h : Bx W p t cs) (hm : W.heap[g]? = some (.map es clock)) : g ≠ p := by
  rintro rfl
  unfold Bx at h
  rw [h] at hm
  injection hm with hm
  cases hm
theorem row_keptM {W' : World} {B e' sz n' : Nat} {v : Value} {xs : List Value} {es : Array MapEntry} {clock : Nat} (h : W.ownsRow B e' sz v n' xs) (hm : W.heap[g]? = some (.map es clock)) (hg : W.grownBy W' (some g)) : W'.ownsRow B e' sz v n' xs :=
  World.ownsRow.kept h hg (own_ne_map h hm)
theorem OwnT.keptM {W' : World} {B : Nat} {v : Value} {L : List (List UInt8)} {es : Array MapEntry} {clock : Nat} (h : OwnT W B v L) (hm : W.heap[g]? = some (.map es clock)) (hg : W.grownBy W' (some g)) : OwnT W' B v L := by
  obtain ⟨vs, a1, a2, a4⟩ := h
  exact ⟨vs, a1, row_keptM a2 hm hg, fun i x l h5 h6 => row_keptM (a4 i x l h5 h6) hm hg⟩
theorem Bx.keptM {W' : World} {p : Nat} {t : TypeId} {cs : Array Value} {es : Array MapEntry} {clock : Nat} (h : Bx W p t cs) (hm : W.heap[g]? = some (.map es clock)) (hg : W.grownBy W' (some g)) : Bx W' p t cs :=
  h.grown hg (.inr (fun e => h.ne_map hm (by injection e)))
end
end Go.Proofs.Ytmbokdnndlnjkaa
namespace Go.Proofs.Ytmbokdnndlnjkaa
open Go.RowKit L01 L02 L05 L06 L07 L13 L14 L15 L18 L19 L20
theorem All18_own (v : Value) (l : List UInt64) (L : List Sl) (hL : L = slots l) (h0 : openErr l = 0) (w : World) (h : Words w v l) :
    Calls Try.prog 29 #[v] w fun e w' => ∃ x, e = .returned (.tuple #[x, .int .i64 0]) ∧ OwnS w' w.heap.size 110 x L ∧ Below w.heap.size w w' := by
  have B : Below w.heap.size w w := Below.refl _ _
  obtain ⟨V, hV⟩ : ∃ V, V = tab (tabOf l) := ⟨_, rfl⟩
  have HOT := Lib.hid (fun w h => open_any v l V hV 0 h0.symm w h); have H := Lib.hid h; clear h
  have hVs : V.size = 48 := by rw [hV]; exact tabOf_size l
  have hV1 : V.all (·.oneCell') = true := by rw [hV]; exact tab_one _
  have hVL : V = tab L := by rw [hV, tabOf_ok h0, hL]
  have hL16 : L.length = 16 := by rw [hL]; exact slots16 h0
  have HVs := Lib.hid hVs; have HV1 := Lib.hid hV1; have HVL := Lib.hid hVL; have HL16 := Lib.hid hL16
  clear h0 hVs hV1 hVL hL16 hV hL
  go_enter Try.func29, Try.ntmps29
  go_wp2_with fail
  refine (HOT.out _ (H.out.below B)).mono ?_
  rintro e w' ⟨rfl, b⟩
  replace B := B.trans (b.mono B.size); clear b
  go_wp2_with ((with_reducible refine at_store 110 4 9 ?_); refine wpList_storeNew rfl _ _ _ rfl rfl V rfl rfl (by rw [HVs.out]; exact size_table) (by rw [HVs.out]; rfl) HV1.out ?_; intro W q1 b1)
  go_ret2
  exact ⟨_, rfl, q1.ownS B.size HVL.out HL16.out, B.trans (b1.mono B.size)⟩
/-- one more object at the end of a model's objects: all else is kept -/
structure PushO (wr W' w : World) (B0 p : Nat) (v xt ys : Value) (L : List Ob) (o : Ob) : Prop where
  own : OwnO W' B0 v (L ++ [o])
  md : Bx W' p 85 #[xt, v, ys]
  below : Below B0 w W'
  row : ∀ {B e sz n : Nat} {x : Value} {xs : List Value}, wr.ownsRow B e sz x n xs → e ≠ 135 → e ≠ 85 → W'.ownsRow B e sz x n xs
  bx : ∀ {q : Nat} {t : TypeId} {cs : Array Value}, Bx wr q t cs → q ≠ p → 135 ≠ t → Bx W' q t cs
  map : ∀ {k e : TypeId} {z0 : Lit} {g n : Nat} {f : Int → Lit} {K : Int → Bool}, MapN Try.prog k e z0 wr g n f K → MapN Try.prog k e z0 W' g n f K
theorem PushO.t {wr W' w : World} {B0 p : Nat} {v xt ys : Value} {L : List Ob} {o : Ob} (h : PushO wr W' w B0 p v xt ys L o) {B : Nat} {x : Value} {T : List (List UInt8)} (hT : OwnT wr B x T) : OwnT W' B x T := by
  obtain ⟨vs, a1, a2, a4⟩ := hT
  exact ⟨vs, a1, h.row a2 (by decide) (by decide), fun i x l h5 h6 => h.row (a4 i x l h5 h6) (by decide) (by decide)⟩
theorem pushO {w wr W1 W3 : World} {B0 p n : Nat} {ot y v xt ys : Value} {vs : List Value} {L : List Ob} {o : Ob}
    (z1 : vs.length = L.length) (z2 : wr.ownsRow B0 135 2 ot L.length (obC L vs)) (z4 : ∀ (i : Nat) x l, vs[i]? = some x → L[i]? = some l → OwnW wr B0 24 x l.fs)
    (z5 : ∀ (i j : Nat) x y, i ≠ j → vs[i]? = some x → vs[j]? = some y → x.ownBlock = none ∨ x.ownBlock ≠ y.ownBlock)
    (oy : OwnW W1 wr.heap.size 24 y o.fs) (b1 : Below wr.heap.size wr W1) (hown : W3.ownsRow B0 135 2 v n (obC L vs ++ [i64 o.ty, y])) (hgr : (W1.alloc (.cells #[i64 o.ty, y] 135)).grownBy W3 ot.ownBlock)
    (q3 : Bx wr p 85 #[xt, ot, ys]) (B : Below B0 w wr) (hB : B0 ≤ wr.heap.size) (hp : B0 ≤ p) :
    (W3.cell? ⟨p, 1, none⟩ = some ot ∧ W3.frozen? ⟨p, 1, none⟩ = false) ∧ PushO wr (W3.setCell ⟨p, 1, none⟩ v) w B0 p v xt ys L o := by
  have b2 : Below wr.heap.size wr (W1.alloc (.cells #[i64 o.ty, y] 135)) := b1.alloc b1.size _
  have z2' := own_below z2 b2
  have nx := fun {g : Nat} {cs : Array Value} (hq : Bx (W1.alloc (.cells #[i64 o.ty, y] 135)) g 85 cs) => Bx.grown hq hgr (own_not_bx z2' hq (by decide))
  have r3 := nx (q3.below b2)
  have oO : OwnO W3 B0 v (L ++ [o]) := OwnO.snoc z1 z2' hown (fun i x l h5 h6 => OwnW.below (z4 i x l h5 h6) b2) z5 (OwnW.below (own_mono oy hB) ((Below.refl _ W1).alloc (Nat.le_refl _) _))
    (fun i x hx => own_ne (z4 i x _ hx (List.getElem?_eq_getElem (by have := (List.getElem?_eq_some_iff.1 hx).1; omega))) oy (Nat.le_refl _)) hgr
  have B3 : Below B0 w W3 := (B.trans (b2.mono hB)).grown hgr (Nat.le_trans hB b2.size) (fun k hk => (z2'.lt k hk).1)
  refine ⟨⟨r3.cell 1, r3.free 1⟩, oO.set r3 (by decide) (by decide), ?_, B3.setCell (p := ⟨p, 1, none⟩) hp _, ?_, ?_, ?_⟩
  · have := r3.set (i := 1) v
    simpa using this
  · intro B e sz n x xs h h1 h2
    exact own_set (World.ownsRow.kept (own_below h b2) hgr (own_unlike (own_below h b2) z2' h1)) r3 h2
  · intro q t cs h h1 h2
    exact ((h.below b2).grown hgr (own_not_bx z2' (h.below b2) h2)).far (p := ⟨p, 1, none⟩) h1 _
  · intro k e z0 g n f K h
    have h2 := h.below b2
    obtain ⟨es, ck, hm⟩ := h2.mapL.block
    have h3 := h2.kept hgr (fun e => by
      rcases own_ne_map z2' hm with h | h
      · rw [h] at e; cases e
      · exact h e.symm)
    obtain ⟨es', ck', hm'⟩ := h3.mapL.block
    exact h3.kept (grown_set _ ⟨p, 1, none⟩ _) (fun e => r3.ne_map hm' (by injection e))
theorem OwnM.slotsE {w W : World} {B E g n c : Nat} {tv ov : Value} {m : Mo} {S : List Sl} (h : OwnM w B E tv ov (.slice (some ⟨g, 0, none⟩) n c) m) (hg : w.grownBy W (some g)) (hS : OwnS W B E (.slice (some ⟨g, 0, none⟩) n c) S) (h1 : 28 ≠ E) (h2 : 5 ≠ E) (h3 : 135 ≠ E) (h4 : 24 ≠ E) :
    OwnM W B E tv ov (.slice (some ⟨g, 0, none⟩) n c) ⟨m.types, m.objs, S⟩ := by
  refine ⟨OwnT.kept h.t h.s hg h1 h2, ?_, hS⟩
  obtain ⟨vs, a1, a2, a4, a5⟩ := h.o
  exact ⟨vs, a1, World.ownsRow.kept a2 hg (own_unlike a2 h.s h3), fun i x l h5 h6 => World.ownsRow.kept (a4 i x l h5 h6) hg (own_unlike (a4 i x l h5 h6) h.s h4), a5⟩
theorem OwnM.set3E {w : World} {B E p : Nat} {tv ov sv a b c : Value} {m : Mo} {cs : Array Value} (h : OwnM w B E tv ov sv m) (hg : Bx w p 85 cs) (hE : E ≠ 85) :
    OwnM (((w.setCell ⟨p, 0, none⟩ a).setCell ⟨p, 1, none⟩ b).setCell ⟨p, 2, none⟩ c) B E tv ov sv m := by
  have st : ∀ {w : World} {cs : Array Value} {i : Nat} {u : Value}, OwnM w B E tv ov sv m → Bx w p 85 cs → OwnM (w.setCell ⟨p, i, none⟩ u) B E tv ov sv m := fun h hg => ⟨h.t.set hg (by decide) (by decide), h.o.set hg (by decide) (by decide), own_set h.s hg hE⟩
  exact st (st (st h hg) (hg.set a)) ((hg.set a).set b)
/-- the number of the object at an address, or 0 -/
def numI (O : List Hb) (a : Int) : Int := match idx O a with | some i => (i : Int) | none => 0
theorem numI_idxI {O : List Hb} {a : Int} (h : IsObj O a) : numI O a = idxI O a := by
  obtain ⟨i, b, h1, _⟩ := idx_of h
  unfold numI idxI; rw [h1]
theorem numI_rng {O : List Hb} {a : Int} (h : O.length ≤ 960) : 0 ≤ numI O a ∧ numI O a ≤ 960 := by
  unfold numI
  cases h2 : idx O a with
  | none => exact ⟨Int.le_refl _, by decide⟩
  | some i =>
    obtain ⟨b, h3, _⟩ := idx_some h2
    have := (List.getElem?_eq_some_iff.1 h3).1
    show 0 ≤ (i : Int) ∧ (i : Int) ≤ 960
    exact ⟨by omega, by omega⟩
theorem numI_snoc {O : List Hb} {b : Hb} {a : Int} (hb : ¬ IsObj O b.at_) : numI (O ++ [b]) a = if a = b.at_ then (O.length : Int) else numI O a := by
  unfold numI
  rw [idx_app]
  by_cases h : a = b.at_
  · subst h
    rw [if_pos rfl, idx_none.2 hb, idx, if_pos rfl]
    show ((0 + O.length : Nat) : Int) = _
    omega
  · rw [if_neg h]
    cases idx O a with
    | some i => rfl
    | none => rw [idx, if_neg (fun e => h e.symm), idx]; rfl
theorem objs_new {l : List UInt64} (h : allErr l = 0) {j : Nat} {b : Hb} (hb : (allL l)[j]? = some b) : ¬ IsObj (objs ((allL l).take j)) b.at_ := by
  rintro ⟨c, hc, e⟩
  obtain ⟨hc1, _⟩ := objs_mem.1 hc
  obtain ⟨i, hi⟩ := List.getElem?_of_mem hc1
  have hi1 := (List.getElem?_eq_some_iff.1 hi).1
  rw [List.length_take] at hi1
  rw [List.getElem?_take_of_lt (by omega)] at hi
  have hp := List.pairwise_iff_getElem.1 (chain_apart (chain_iff.1 (parsed_ok.1 (allErr_ok h).2).1)).2
  obtain ⟨i1, i2⟩ := List.getElem?_eq_some_iff.1 hi
  obtain ⟨j1, j2⟩ := List.getElem?_eq_some_iff.1 hb
  have := hp i j i1 j1 (by omega)
  rw [i2, j2] at this
  obtain ⟨x, _, _, hs, h4, _⟩ := all_mem h (List.mem_of_getElem? hi)
  have hz := szN_ge hs
  have : c.size = szN l x := by rw [h4]; exact stand_size hs
  omega
theorem inKinds {l : List UInt64} (rt : Rt l) {b : Hb} (hb : b ∈ O19 l) : ∃ (a q : Nat) (t : List UInt8), b.at_ = a ∧ b.ty = q ∧ (T19 l)[q]? = some t ∧ kindsB (T19 l) b = t ∧ 128 ≤ a ∧ a ≤ 2048 ∧ a + 2 + t.length ≤ l.length ∧ t.length ≤ 8 := by
  have hty : Typed (T19 l) b := rt.good 8 (by omega) (by omega) b hb
  obtain ⟨a, q, t, ha, hq, hTq, hkB, _, hle, _⟩ := in_kinds (in19_of rt.al hb) hty
  have hkE : kErr t = 0 := (T19_ok rt.ty).2 t (List.mem_of_getElem? hTq)
  obtain ⟨a', h1, h2, h3, h4, _⟩ := objs_at rt.al hb
  have := rt.sz.2.1
  exact ⟨a, q, t, ha, hq, hTq, hkB, by omega, by omega, hle, (kErr_ok hkE).1⟩
end Go.Proofs.Ytmbokdnndlnjkaa
