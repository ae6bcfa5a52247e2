/- Contracts of the functions that the laws 'N' reach, part 15. No condition. -/
import Derived.Test.YtodbbacmdjcheaaMNn
set_option linter.unusedVariables false
set_option linter.unusedSimpArgs false
namespace Go.Proofs.Ytodbbacmdjcheaa.L20
open L02 L13 L18
/-- the numbers behind an object that comes in at f, the last of N + 1 objects -/
def insN (N f : Nat) : List Int := ((List.range N).map fun n => if n < f then (n : Int) else (n : Int) + 1) ++ [(f : Int)]
theorem insN_len (N f : Nat) : (insN N f).length = N + 1 := by simp [insN]
theorem insN_get {N f n : Nat} (h : n < N) : (insN N f)[n]? = some (if n < f then (n : Int) else (n : Int) + 1) := by
  rw [insN, List.getElem?_append_left (by simpa using h), List.getElem?_map, List.getElem?_range h]; rfl
theorem insN_last (N f : Nat) : (insN N f)[N]? = some (f : Int) := by
  rw [insN, List.getElem?_append_right (by simp)]; simp
/-- which object gets a number -/
def inv (N f w : Nat) : Nat := if w < f then w else if w = f then N else w - 1
theorem numN_ins (m : Mo) {N f w : Nat} (hf : f ≤ N) (hw : w < N + 1) : numN m (insN N f) w (N + 1) = [numO m (insN N f) (ob m (inv N f w))] := by
  have e : (List.range (N + 1)).filter (fun n => decide ((insN N f).getD n (-2) = (w : Int))) = (List.range (N + 1)).filter (fun n => decide (n = inv N f w)) := by
    refine List.filter_congr fun n hn => ?_
    have hn := List.mem_range.1 hn
    rw [List.getD_eq_getElem?_getD]
    congr 1
    rw [eq_iff_iff]
    unfold inv
    by_cases h1 : n < N
    · rw [insN_get h1, Option.getD_some]
      by_cases h2 : n < f
      · rw [if_pos h2]; split
        · omega
        · split <;> omega
      · rw [if_neg h2]; split
        · omega
        · split <;> omega
    · have : n = N := by omega
      subst this
      rw [insN_last, Option.getD_some]
      split
      · omega
      · split <;> omega
  rw [numN, e, range_filter, if_pos (by unfold inv; split; omega; split <;> omega)]; rfl
theorem numJ_ins (m : Mo) {N f : Nat} (hf : f ≤ N) : ∀ j, j ≤ N + 1 → numJ m (insN N f) j = (List.range j).map fun w => numO m (insN N f) (ob m (inv N f w))
  | 0, _ => by simp [numJ]
  | j + 1, hj => by
    rw [numJ_succ, numJ_ins m hf j (by omega), insN_len, numN_ins m hf (by omega), List.range_succ, List.map_append]; rfl
end Go.Proofs.Ytodbbacmdjcheaa.L20
namespace Go.Proofs.Ytodbbacmdjcheaa.L19
open L02 L07 L13 L14 L15 L16 L18 L20
/-- the model behind an allocation, with its handle's slot -/
theorem seen_alloc2 {l l' : List UInt64} (h : Rt l) {P S : List Hb} {b : Hb} {p q n k : Nat} {t : List UInt8} {g0 : Int} (hb : allL l = P ++ (b :: S)) (hk : b.kind = 2) (hp : b.at_ = p) (hT : (T19 l)[q]? = some t) (hn : n = sizT t) (hle : (n : Int) ≤ b.size)
    (hk16 : k < 16) (hnx : next (slots l) = some k) (hs : (slots l)[k]? = some ⟨g0, false, 0⟩) (hl' : l' = (putW l p (newW p n q b.size.toNat)).set (112 + k) (pk ⟨g0 + 1, true, p⟩)) :
    allE (seen l) q = 0 ∧ allS (seen l) q = k ∧ allG (seen l) q = g0 + 1 ∧ Rt l' ∧ seen l' = numM (allM (seen l) q) (insN (O19 l).length (objs P).length) ∧ slots l' = (slots l).set k ⟨g0 + 1, true, p⟩ ∧
      (∃ R, (R = [] ∧ b.size = n ∨ R = [{ restH p n b.size.toNat with next := l'.getD (p + n + 1) 0 }] ∧ b.size ≠ n) ∧ allL l' = P ++ (([objH p n q] ++ R) ++ S)) ∧ T19 l' = T19 l ∧ O19 l = objs P ++ objs S ∧ O19 l' = objs P ++ objH p n q :: objs S := by
  obtain ⟨l1, hl1⟩ : ∃ l1, l1 = putW l p (newW p n q b.size.toNat) := ⟨_, rfl⟩
  rw [← hl1] at hl'
  obtain ⟨r1, ⟨R, hR, r2⟩, r3, r4, r5, r6, r7, r8, r9, r10, r11, r12, r13⟩ := seen_alloc h hb hk hp hT hn hle hl1
  have hqT := (List.getElem?_eq_some_iff.1 hT).1
  have hE : allE (seen l) q = 0 := by
    unfold allE
    rw [if_pos (seen_chk h), if_pos ⟨by omega, by show (q : Int) < (T19 l).length; omega⟩]
    have h1 : next (seen l).slots = some k := by rw [← hnx]; exact next_map _ _
    rw [h1, if_neg (by simp), if_neg]
    show ¬ ((O19 l).map _).length = 960
    rw [List.length_map]; omega
  obtain ⟨k', g', ad⟩ := Alld.of hE
  have hkk : allS (seen l) q = k := by
    rw [allS, if_pos hE]
    have h1 : next (seen l).slots = some k := by rw [← hnx]; exact next_map _ _
    rw [h1]; rfl
  have e1 : k' = k := by have := ad.hS; rw [hkk] at this; omega
  subst e1
  have hsl : (seen l).slots[k']? = some ⟨g0, false, 0⟩ := by
    show ((slots l).map (slOf (O19 l)))[k']? = _
    rw [List.getElem?_map, hs]; rfl
  have e2 : g' = g0 := by have := ad.hs; rw [hsl] at this; injection this with this; injection this with this _ _; exact this.symm
  subst e2
  have hg := ad.hg
  have hbp : (p : Int) < 2048 := by
    have := h.sz.2.1
    have hbm : b ∈ allL l := by rw [hb]; simp
    obtain ⟨a, a1, a2, a3, a4, a5⟩ := all_mem h.al hbm
    have hz := szN_ge a3
    have : b.at_ = a := by rw [a4]; rfl
    omega
  have hr : Right ⟨g' + 1, true, (p : Int)⟩ := ⟨by show 0 ≤ g' + 1; omega, by show g' + 1 ≤ 2147483647; omega, fun e => (by cases e), fun _ => ⟨by show 0 < g' + 1; omega, by show (128 : Int) ≤ p; omega, hbp⟩⟩
  have hobj : IsObj (O19 l1) (p : Int) := ⟨objH p n q, by rw [r6]; simp, rfl⟩
  obtain ⟨s1, s2, s3, s4, s5⟩ := seen_slot_set r1 hk16 hr (fun _ => hobj)
  rw [← hl'] at s1 s2 s3 s4 s5
  have hss : slots l' = (slots l).set k' ⟨g' + 1, true, (p : Int)⟩ := by
    rw [hl', slots_set _ hk16, spl_pk hr, r4]
  have hfw' : ∀ i, p + n + 1 = i → l'.getD i 0 = l1.getD i 0 := fun i hi => by rw [hl', getD_set_ne (by omega)]
  refine ⟨hE, hkk, by rw [ad.hG], s1, ?_, hss, ⟨R, by rw [hfw' _ rfl]; exact hR, by rw [s5, r2]⟩, by rw [s4, r3], r5, by rw [s3, r6]⟩
  rw [s2]
  obtain ⟨F, hF⟩ : ∃ F, F = (objs P).length := ⟨_, rfl⟩
  obtain ⟨N, hN⟩ : ∃ N, N = (O19 l).length := ⟨_, rfl⟩
  have hFN : F ≤ N := by rw [hF, hN, r5, List.length_append]; omega
  rw [← hF, ← hN]
  have hidx : ∀ (a : Int) (j : Nat), idx (O19 l) a = some j → idx (O19 l1) a = some (if j < F then j else j + 1) ∧ j < N := fun a j h1 => by
    have ho : IsObj (O19 l) a := by
      refine Decidable.not_not.1 fun h2 => ?_
      rw [idx_none.2 h2] at h1; cases h1
    have h2 := r8 a ho
    obtain ⟨c, hc, _⟩ := idx_some h1
    refine ⟨?_, by rw [hN]; exact (List.getElem?_eq_some_iff.1 hc).1⟩
    rw [r5] at h1
    rw [r6, hF]
    exact idx_ins h1 (fun e => h2 e.symm)
  have hidp : idx (O19 l1) (p : Int) = some F := by
    have hm : (O19 l1)[F]? = some (objH p n q) := by rw [r6, hF, List.getElem?_append_right (Nat.le_refl _), Nat.sub_self]; rfl
    exact idx_at r1.al (b := objH p n q) hm
  have hlen1 : (seen l).objs.length = N := by show ((O19 l).map _).length = N; rw [List.length_map, hN]
  rw [ad.hM]
  unfold numM
  rw [insN_len, numJ_ins _ hFN _ (Nat.le_refl _)]
  have hkO : kindsB (T19 l) (objH p n q) = t := by
    unfold kindsB
    show (T19 l).getD (q : Int).toNat [] = t
    rw [Int.toNat_natCast, List.getD_eq_getElem?_getD, hT]; rfl
  have hk2 : ∀ c ∈ O19 l, c ∈ O19 l1 := fun c hc => by
    rw [r5] at hc; rw [r6]
    rcases List.mem_append.1 hc with h1 | h1
    · exact List.mem_append.2 (.inl h1)
    · exact List.mem_append.2 (.inr (List.mem_cons_of_mem _ h1))
  -- an object that was there
  have hold : ∀ (M : Mo), M.types = T19 l → ∀ c ∈ O19 l, obOf l1 (T19 l) (O19 l1) c = numO M (insN N F) (obOf l (T19 l) (O19 l) c) := fun M hM c hc => by
    unfold obOf numO
    rw [hM]
    congr 1
    show obFs l1 (T19 l) (O19 l1) c = (List.range (obFs l (T19 l) (O19 l) c).length).map fun j => numV (insN N F) ((kindsB (T19 l) c).getD j 0) ((obFs l (T19 l) (O19 l) c).getD j 0)
    rw [obFs_len]
    refine List.ext_getElem? fun j => ?_
    by_cases hj : j < (kindsB (T19 l) c).length
    · rw [obFs_get hj, List.getElem?_map, List.getElem?_range hj, Option.map_some, List.getD_eq_getElem?_getD (l := obFs _ _ _ _), obFs_get hj, Option.getD_some, r9 c hc j hj]
      congr 1
      by_cases h3 : ((kindsB (T19 l) c).getD j 0).toNat = 3
      · rw [fldV_ref h3, fldV_ref h3]
        have h11 : fw l c j = 0 ∨ IsObj (O19 l) (fw l c j).toNat := h.good 11 (by omega) (by omega) c hc j hj h3
        rcases h11 with h0 | h0
        · rw [h0, refV_none (no_zero h.al (objs_low h.al)), refV_none (no_zero r1.al (objs_low r1.al)), numV_other (by simp)]
        · obtain ⟨x, y, g1, g2, g3, g4⟩ := idx_of h0
          obtain ⟨g5, g6⟩ := hidx _ _ g1
          rw [refV_some g1, refV_some g5]
          have hx : (UInt64.ofNat (x + 1)).toNat = x + 1 := by rw [UInt64.toNat_ofNat', Nat.mod_eq_of_lt (by omega)]
          have hv : numV (insN N F) ((kindsB (T19 l) c).getD j 0) (UInt64.ofNat (x + 1)) = UInt64.ofNat ((if x < F then (x : Int) else (x : Int) + 1) + 1).toNat := by
            rw [numV, if_pos ⟨h3, by omega⟩, hx, Nat.add_sub_cancel, List.getD_eq_getElem?_getD, insN_get g6, Option.getD_some]
          rw [hv]
          congr 1
          split <;> omega
      · rw [fldV_not h3, fldV_not h3, numV_other (fun e => h3 e.1)]
    · rw [List.getElem?_eq_none (by rw [obFs_len]; omega), List.getElem?_eq_none (by simp; omega)]
  -- the new one
  have hnew : ∀ (M : Mo), M.types = T19 l → obOf l1 (T19 l) (O19 l1) (objH p n q) = numO M (insN N F) (newO (seen l) q) := fun M hM => by
    have hg : (seen l).types.getD (q : Int).toNat [] = t := by show (T19 l).getD _ _ = t; rw [Int.toNat_natCast, List.getD_eq_getElem?_getD, hT]; rfl
    unfold obOf numO newO
    rw [hg, hM]
    congr 1
    refine List.ext_getElem? fun j => ?_
    by_cases hj : j < t.length
    · rw [obFs_get (by rw [hkO]; exact hj), List.getElem?_map, List.getElem?_range (by rw [List.length_replicate]; exact hj), Option.map_some, r10 j (by omega) (fun _ => hj), zeros_get, numV_other (by simp)]
      congr 1
      by_cases h3 : ((kindsB (T19 l) (objH p n q)).getD j 0).toNat = 3
      · rw [fldV_ref h3, refV_none (no_zero r1.al (objs_low r1.al))]
      · rw [fldV_not h3]
    · rw [List.getElem?_eq_none (by rw [obFs_len, hkO]; omega), List.getElem?_eq_none (by simp; omega)]
  show Mo.mk (T19 l1) ((O19 l1).map (obOf l1 (T19 l1) (O19 l1))) (((slots l1).map (slOf (O19 l1))).set k' (slOf (O19 l1) ⟨g' + 1, true, p⟩)) = _
  rw [r3, r4]
  congr 1
  · refine List.ext_getElem? fun w => ?_
    by_cases hw : w < N + 1
    · rw [List.getElem?_map, List.getElem?_map, List.getElem?_range hw, Option.map_some]
      have hobA : ∀ i, i < N → ob ⟨(seen l).types, (seen l).objs ++ [newO (seen l) q], (seen l).slots.set k' ⟨g' + 1, true, (seen l).objs.length⟩⟩ i = obOf l (T19 l) (O19 l) ((O19 l).getD i .none) ∧ (O19 l).getD i .none ∈ O19 l ∧ (O19 l)[i]? = some ((O19 l).getD i .none) := fun i hi => by
        have hc : (O19 l)[i]? = some ((O19 l)[i]'(by omega)) := List.getElem?_eq_getElem _
        have hg : (O19 l).getD i .none = (O19 l)[i]'(by omega) := by rw [List.getD_eq_getElem?_getD, hc]; rfl
        rw [hg]
        refine ⟨?_, List.getElem_mem _, hc⟩
        unfold ob
        show ((seen l).objs ++ _).getD i _ = _
        rw [List.getD_eq_getElem?_getD, List.getElem?_append_left (by rw [hlen1]; exact hi)]
        show (((O19 l).map _)[i]?).getD _ = _
        rw [List.getElem?_map, hc]; rfl
      have hobN : ob ⟨(seen l).types, (seen l).objs ++ [newO (seen l) q], (seen l).slots.set k' ⟨g' + 1, true, (seen l).objs.length⟩⟩ N = newO (seen l) q := by
        unfold ob
        show ((seen l).objs ++ _).getD N _ = _
        rw [List.getD_eq_getElem?_getD, List.getElem?_append_right (by omega), hlen1, Nat.sub_self]; rfl
      unfold inv
      by_cases h1 : w < F
      · rw [if_pos h1]
        obtain ⟨z1, z2, z3⟩ := hobA w (by omega)
        rw [z1]
        have : (O19 l1)[w]? = some ((O19 l).getD w .none) := by
          rw [r5, List.getElem?_append_left (by omega)] at z3
          rw [r6, List.getElem?_append_left (by omega), z3, ← r5]
        rw [this, Option.map_some, hold ⟨(seen l).types, (seen l).objs ++ [newO (seen l) q], (seen l).slots.set k' ⟨g' + 1, true, (seen l).objs.length⟩⟩ rfl _ z2]
      · rw [if_neg h1]
        by_cases h2 : w = F
        · rw [if_pos h2, hobN]
          have : (O19 l1)[w]? = some (objH p n q) := by rw [r6, List.getElem?_append_right (by omega), show w - (objs P).length = 0 by omega]; rfl
          rw [this, Option.map_some, hnew ⟨(seen l).types, (seen l).objs ++ [newO (seen l) q], (seen l).slots.set k' ⟨g' + 1, true, (seen l).objs.length⟩⟩ rfl]
        · rw [if_neg h2]
          obtain ⟨z1, z2, z3⟩ := hobA (w - 1) (by omega)
          rw [z1]
          have : (O19 l1)[w]? = some ((O19 l).getD (w - 1) .none) := by
            rw [r5, List.getElem?_append_right (by omega)] at z3
            rw [r6, List.getElem?_append_right (by omega), show w - (objs P).length = (w - 1 - (objs P).length) + 1 by omega, List.getElem?_cons_succ, z3, ← r5]
          rw [this, Option.map_some, hold ⟨(seen l).types, (seen l).objs ++ [newO (seen l) q], (seen l).slots.set k' ⟨g' + 1, true, (seen l).objs.length⟩⟩ rfl _ z2]
    · have hl1N : (O19 l1).length = N + 1 := by rw [r6, hN, r5, List.length_append, List.length_append, List.length_cons]; omega
      rw [List.getElem?_eq_none (by rw [List.length_map]; omega), List.getElem?_eq_none (by simp; omega)]
  · rw [hlen1, List.map_set]
    have e3 : slOf (O19 l1) ⟨g' + 1, true, (p : Int)⟩ = numS (insN N F) ⟨g' + 1, true, (N : Int)⟩ := by
      unfold slOf numS
      rw [if_pos rfl, if_pos rfl, hidp]
      show Sl.mk _ _ _ = Sl.mk _ _ _
      congr 1
      rw [Int.toNat_natCast, List.getD_eq_getElem?_getD, insN_last]; rfl
    rw [e3]
    congr 1
    show _ = ((slots l).map (slOf (O19 l))).map (numS (insN N F))
    rw [List.map_map]
    refine List.map_congr_left fun s hs' => ?_
    show slOf (O19 l1) s = numS (insN N F) (slOf (O19 l) s)
    unfold slOf numS
    by_cases hu : s.used = true
    · rw [if_pos hu, if_pos hu]
      obtain ⟨x, y, g1, g2, g3, g4⟩ := idx_of (h.slots s hs' hu)
      obtain ⟨g5, g6⟩ := hidx _ _ g1
      rw [g1, g5]
      show Sl.mk _ _ _ = _
      rw [if_pos rfl]
      show Sl.mk _ _ _ = Sl.mk _ _ _
      congr 1
      show _ = (insN N F).getD ((x : Int)).toNat 0
      rw [Int.toNat_natCast, List.getD_eq_getElem?_getD, insN_get g6, Option.getD_some]
      by_cases hxF : x < F
      · rw [if_pos hxF, if_pos hxF]
      · rw [if_neg hxF, if_neg hxF]; show ((x + 1 : Nat) : Int) = (x : Int) + 1; omega
    · rw [if_neg hu, if_neg hu, if_neg hu]
end Go.Proofs.Ytodbbacmdjcheaa.L19
namespace Go.Proofs.Ytodbbacmdjcheaa.L19
open L02 L07 L13 L14 L15 L16 L18 L20
/-- the class of an extent, one higher -/
def bl (b : Hb) : Nat := Lib.bitLen b.size.toNat
def betterB (n : Int) (b : Hb) (o : Option Hb) : Bool := decide (n ≤ b.size) && (match o with | none => true | some x => decide (bl b < bl x))
/-- the first extent of the least class that is large enough -/
def takesF (n : Int) : List Hb → Option Hb → Option Hb
  | [], o => o
  | b :: L, o => takesF n L (if betterB n b o = true then some b else o)
def takes (L : List Hb) (n : Int) : Option Hb := takesF n L none
def RightN (n : Int) : Prop := 2 ≤ n ∧ n ≤ 10 ∧ n % 2 = 0
instance (n : Int) : Decidable (RightN n) := inferInstanceAs (Decidable (_ ∧ _ ∧ _))
def fitE (l : List UInt64) (n : Int) : Int := if allErr l = 0 then (if RightN n then (if (takes (freeL l) n).isSome then 0 else 20) else 2) else allErr l
def fitB (l : List UInt64) (n : Int) : Hb := if fitE l n = 0 then (takes (freeL l) n).getD .none else .none
theorem takesF_some {n : Int} : ∀ {L : List Hb} {o : Option Hb} {b : Hb}, takesF n L o = some b → o = some b ∨ (b ∈ L ∧ n ≤ b.size)
  | [], o, b, h => .inl h
  | c :: L, o, b, h => by
    rw [takesF] at h
    rcases takesF_some h with h1 | h1
    · split at h1
      · rename_i hb
        injection h1 with h1
        subst h1
        unfold betterB at hb
        rw [Bool.and_eq_true, decide_eq_true_iff] at hb
        exact .inr ⟨List.mem_cons_self, hb.1⟩
      · exact .inl h1
    · exact .inr ⟨List.mem_cons_of_mem _ h1.1, h1.2⟩
theorem takes_some {L : List Hb} {n : Int} {b : Hb} (h : takes L n = some b) : b ∈ L ∧ n ≤ b.size := by
  rcases takesF_some h with h1 | h1
  · cases h1
  · exact h1
theorem takesF_step {n : Int} {L : List Hb} {j : Nat} {b : Hb} {o : Option Hb} (h : L[j]? = some b) : takesF n (L.drop j) o = takesF n (L.drop (j + 1)) (if betterB n b o = true then some b else o) := by
  have hj := (List.getElem?_eq_some_iff.1 h).1
  have e := (List.getElem?_eq_some_iff.1 h).2
  rw [List.drop_eq_getElem_cons hj, e, takesF]
/-- words one behind the other, as entries of a change -/
def runE : Int → List UInt64 → List (Int × UInt64)
  | _, [] => []
  | a, x :: xs => (a, x) :: runE (a + 1) xs
theorem runE_len : ∀ (xs : List UInt64) (a : Int), (runE a xs).length = xs.length
  | [], _ => rfl
  | x :: xs, a => by rw [runE, List.length_cons, List.length_cons, runE_len xs]
theorem runE_app : ∀ (xs ys : List UInt64) (a : Int), runE a (xs ++ ys) = runE a xs ++ runE (a + xs.length) ys
  | [], ys, a => by simp [runE]
  | x :: xs, ys, a => by
    rw [List.cons_append, runE, runE, runE_app xs ys, List.cons_append, List.length_cons]
    congr 3
    omega
theorem runE_put : ∀ (xs : List UInt64) (l : List UInt64) (p : Nat), p + xs.length ≤ l.length → (runE (p : Int) xs).foldl put1 l = putW l p xs
  | [], l, p, h => rfl
  | x :: xs, l, p, h => by
    rw [List.length_cons] at h
    rw [runE, List.foldl_cons, put1_set (by omega), show (p : Int) + 1 = ((p + 1 : Nat) : Int) by omega, runE_put xs _ _ (by rw [List.length_set]; omega), putW]
theorem putW_set : ∀ (xs l : List UInt64) (p j : Nat) (v : UInt64), j < p → putW (l.set j v) p xs = (putW l p xs).set j v
  | [], l, p, j, v, h => rfl
  | x :: xs, l, p, j, v, h => by
    rw [putW, putW, List.set_comm _ _ (by omega), putW_set xs _ _ _ _ (by omega)]
def tyI (l : List UInt64) (t : Int) : List UInt8 := (T19 l).getD t.toNat []
def aiE (l : List UInt64) (t : Int) : Int := if chk19 l = 0 then (if 0 ≤ t ∧ t < (T19 l).length then (if next (slots l) = none then 23 else if (takes (freeL l) (sizT (tyI l t))).isSome then 0 else 20) else 2) else chk19 l
def aiB (l : List UInt64) (t : Int) : Hb := (takes (freeL l) (sizT (tyI l t))).getD .none
def aiK (l : List UInt64) : Nat := (next (slots l)).getD 0
def aiS (l : List UInt64) (t : Int) : Int := if aiE l t = 0 then (aiK l : Int) else 0
def aiG (l : List UInt64) (t : Int) : Int := if aiE l t = 0 then ((slots l).getD (aiK l) .none).gen + 1 else 0
def aiL (l : List UInt64) (t : Int) : List (Int × UInt64) := if aiE l t = 0 then (112 + (aiK l : Int), pk ⟨((slots l).getD (aiK l) .none).gen + 1, true, (aiB l t).at_⟩) :: runE (aiB l t).at_ (newW (aiB l t).at_.toNat (sizT (tyI l t)) t.toNat (aiB l t).size.toNat) else []
/-- an allocation that is done -/
structure Al (l : List UInt64) (q k p n c : Nat) (g0 : Int) (b : Hb) (t : List UInt8) (P S : List Hb) (l' : List UInt64) : Prop where
  rt : Rt l
  hT : (T19 l)[q]? = some t
  hn : n = sizT t
  hn2 : 2 ≤ n ∧ n ≤ 10 ∧ n % 2 = 0
  hk : k < 16
  hnx : next (slots l) = some k
  hs : (slots l)[k]? = some ⟨g0, false, 0⟩
  hg : 0 ≤ g0 ∧ g0 < 2147483647
  htk : takes (freeL l) (n : Int) = some b
  hbk : b.kind = 2
  hat : b.at_ = p
  hsz : b.size = c
  hc : n ≤ c ∧ c ≤ 1920 ∧ c % 2 = 0
  hp : 128 ≤ p ∧ p + c ≤ l.length
  hok : BkOk b
  hL : allL l = P ++ (b :: S)
  hE : aiE l q = 0
  hS : aiS l q = k
  hG : aiG l q = g0 + 1
  hAL : aiL l q = (112 + (k : Int), pk ⟨g0 + 1, true, (p : Int)⟩) :: runE (p : Int) (newW p n q c)
  hl : l' = (putW l p (newW p n q c)).set (112 + k) (pk ⟨g0 + 1, true, (p : Int)⟩)
  hmd : made l (aiL l q) = l'
  hr : Right ⟨g0 + 1, true, (p : Int)⟩
theorem Al.of {l : List UInt64} {ti : Int} (h : aiE l ti = 0) : ∃ q k p n c g0 b t P S, ti = ((q : Nat) : Int) ∧ Al l q k p n c g0 b t P S (made l (aiL l ti)) := by
  have h0 := h
  unfold aiE at h
  split at h
  case isFalse hc => exact absurd h hc
  case isTrue hc =>
  split at h
  case isFalse ht => omega
  case isTrue ht =>
  split at h
  case isTrue hx => omega
  case isFalse hx =>
  split at h
  case isFalse hb => omega
  case isTrue hb =>
  have rt : Rt l := Rt.of hc
  obtain ⟨q, rfl⟩ := Int.eq_ofNat_of_zero_le ht.1
  have hq : q < (T19 l).length := by omega
  have hT : (T19 l)[q]? = some (T19 l)[q] := List.getElem?_eq_getElem hq
  obtain ⟨t, htt⟩ : ∃ t, t = (T19 l)[q] := ⟨_, rfl⟩
  rw [← htt] at hT
  have hty : tyI l (q : Int) = t := by unfold tyI; rw [Int.toNat_natCast, List.getD_eq_getElem?_getD, hT]; rfl
  obtain ⟨k, hk⟩ := Option.ne_none_iff_exists'.1 hx
  obtain ⟨_, ⟨s, hs, hu, hg1⟩, _⟩ := nextFrom_some hk
  rw [Nat.sub_zero] at hs
  have hk16 : k < 16 := by have := (List.getElem?_eq_some_iff.1 hs).1; rw [slots_len' rt.sl] at this; exact this
  have hsr := seen_slot rt (List.mem_of_getElem? hs)
  obtain ⟨g0, u, a0⟩ := s
  dsimp only at hu hg1
  subst hu
  obtain rfl : a0 = 0 := hsr.2.2.1 rfl
  have hg0 := hsr.1; have hg2 := hsr.2.1
  dsimp only at hg0 hg2
  obtain ⟨b, hb⟩ := Option.isSome_iff_exists.1 hb
  rw [hty] at hb
  obtain ⟨hbm, hbs⟩ := takes_some hb
  obtain ⟨hbL, hbk⟩ := free_mem.1 hbm
  obtain ⟨a, a1, a2, a3, a4, a5⟩ := all_mem rt.al hbL
  have hz := szN_ge a3
  have hok : BkOk b := by rw [a4]; exact stand_ok a3
  have hbd := hok.bounds
  have hat : b.at_ = a := by rw [a4]; rfl
  have hsz : b.size = szN l a := by rw [a4]; exact stand_size a3
  obtain ⟨P, S, hPS⟩ := List.append_of_mem hbL
  have ht8 : t.length ≤ 8 := (kErr_ok ((T19_ok rt.ty).2 t (List.mem_of_getElem? hT))).1
  have hn2 : 2 ≤ sizT t ∧ sizT t ≤ 10 ∧ sizT t % 2 = 0 := by unfold sizT; omega
  have hgd : (slots l).getD k .none = ⟨g0, false, 0⟩ := by rw [List.getD_eq_getElem?_getD, hs]; rfl
  have hB : aiB l (q : Int) = b := by unfold aiB; rw [hty, hb]; rfl
  have hK : aiK l = k := by unfold aiK; rw [hk]; rfl
  have hcz : szN l a % 2 = 0 := hz.2.2.1
  have hAL : aiL l q = (112 + (k : Int), pk ⟨g0 + 1, true, (a : Int)⟩) :: runE (a : Int) (newW a (sizT t) q (szN l a)) := by
    unfold aiL
    rw [if_pos h0, hB, hK, hgd, hat, hsz, hty, Int.toNat_natCast, Int.toNat_natCast, Int.toNat_natCast]
  have hsl := rt.sz.2.1
  have hnl : (newW a (sizT t) q (szN l a)).length ≤ szN l a := by
    rw [newW_len (by omega)]; split <;> omega
  have hmd : made l (aiL l q) = (putW l a (newW a (sizT t) q (szN l a))).set (112 + k) (pk ⟨g0 + 1, true, (a : Int)⟩) := by
    rw [hAL]
    unfold made
    rw [List.take_of_length_le (by rw [List.length_cons, runE_len, newW_len (by omega)]; split <;> omega), List.foldl_cons]
    have : put1 l (112 + (k : Int), pk ⟨g0 + 1, true, (a : Int)⟩) = l.set (112 + k) (pk ⟨g0 + 1, true, (a : Int)⟩) := by
      have := put1_set (l := l) (p := 112 + k) (y := pk ⟨g0 + 1, true, (a : Int)⟩) (by omega)
      rw [show ((112 + k : Nat) : Int) = 112 + (k : Int) by omega] at this
      exact this
    rw [this, runE_put _ _ _ (by rw [List.length_set]; omega), putW_set _ _ _ _ _ (by omega)]
  refine ⟨q, k, a, sizT t, szN l a, g0, b, t, P, S, rfl, rt, hT, rfl, hn2, hk16, hk, hs, by omega, hb, hbk, hat, hsz, ⟨by omega, by omega, hcz⟩, ⟨a1, by omega⟩, hok, hPS, h0, by rw [aiS, if_pos h0, hK], by rw [aiG, if_pos h0, hK, hgd], hAL, by rw [hmd], rfl, ?_⟩
  exact ⟨by show 0 ≤ g0 + 1; omega, by show g0 + 1 ≤ 2147483647; omega, fun e => (by cases e), fun _ => ⟨by show 0 < g0 + 1; omega, by show (128 : Int) ≤ a; omega, by show (a : Int) < 2048; omega⟩⟩
section
variable {l l' : List UInt64} {q k p n c : Nat} {g0 : Int} {b : Hb} {t : List UInt8} {P S : List Hb}
/-- what an allocation makes of an image -/
theorem Al.after (h : Al l q k p n c g0 b t P S l') :
    allE (seen l) q = 0 ∧ allS (seen l) q = k ∧ allG (seen l) q = g0 + 1 ∧ Rt l' ∧ seen l' = numM (allM (seen l) q) (insN (O19 l).length (objs P).length) ∧ slots l' = (slots l).set k ⟨g0 + 1, true, (p : Int)⟩ ∧
      (∃ R, (R = [] ∧ c = n ∨ (∃ nx, R = [{ restH p n c with next := nx }]) ∧ c ≠ n) ∧ allL l' = P ++ (([objH p n q] ++ R) ++ S)) ∧ T19 l' = T19 l ∧ O19 l = objs P ++ objs S ∧ O19 l' = objs P ++ objH p n q :: objs S := by
  have hcs : b.size.toNat = c := by rw [h.hsz]; rfl
  obtain ⟨h1, h2, h3, h4, h5, h6, ⟨R, hR, h7⟩, h8, h9, h10⟩ := seen_alloc2 h.rt h.hL h.hbk h.hat h.hT h.hn (by rw [h.hsz]; have := h.hc; omega) h.hk h.hnx h.hs (l' := l') (by rw [hcs]; exact h.hl)
  rw [hcs, h.hsz] at hR
  refine ⟨h1, h2, h3, h4, h5, h6, ⟨R, ?_, h7⟩, h8, h9, h10⟩
  rcases hR with ⟨e1, e2⟩ | ⟨e1, e2⟩
  · exact .inl ⟨e1, by omega⟩
  · exact .inr ⟨⟨_, e1⟩, by omega⟩
end
end Go.Proofs.Ytodbbacmdjcheaa.L19
namespace Go.Proofs.Ytodbbacmdjcheaa
open Go.RowKit L01 L02 L05 L06 L07 L13 L14 L15 L16 L18 L19
set_option maxHeartbeats 4000000 in
set_option maxRecDepth 100000 in
theorem Len64_any (x : Int) (w : World) (h0 : 0 ≤ x) (h1 : x ≤ 1920) :
    Calls Try.prog 104 #[.int .u64 x] w fun e w' => e = .returned (.int .i64 (Lib.bitLen x.toNat)) ∧ w = w' := by
  have us := Try.underlying9
  have g1 : decide (4294967296 ≤ x) = false := decide_eq_false (by omega)
  have g2 : decide (65536 ≤ x) = false := decide_eq_false (by omega)
  by_cases hx : x < 256
  · have g3 : decide (256 ≤ x) = false := decide_eq_false (by omega)
    have i1 : ∀ W, (Instr.index 9 (.string Lib.len8tab) (.int .u8 x)).run Try.prog W = .ok (.int .u8 (Lib.len8 x)) W := fun W => Lib.run_index_len8tab W _ _ _ us h0 (by omega)
    have e1 : Lib.len8 x = (Lib.bitLen x.toNat : Int) := Lib.len8_of x h0 (by omega)
    have e2 := Lib.bitLen_le8' x h0 (by omega)
    have c1 : IntKind.u8.wrap x = x := by show x % 256 = x; omega
    rw [e1] at i1
    generalize hq : Lib.bitLen x.toNat = q at *
    have w1 : IntKind.i64.wrap (q : Int) = (q : Int) := IntWalk.i64_in _ (by omega)
    clear e1 hq
    go_enter Try.func104, Try.ntmps104
    go_wp2
    go_ret
    exact ⟨rfl, rfl⟩
  · have g3 : decide (256 ≤ x) = true := decide_eq_true (by omega)
    obtain ⟨y, hy⟩ : ∃ y, y = x / 256 := ⟨_, rfl⟩
    have i1 : ∀ W, (Instr.index 9 (.string Lib.len8tab) (.int .u8 y)).run Try.prog W = .ok (.int .u8 (Lib.len8 y)) W := fun W => Lib.run_index_len8tab W _ _ _ us (by omega) (by omega)
    have e1 : Lib.len8 y = (Lib.bitLen y.toNat : Int) := Lib.len8_of y (by omega) (by omega)
    have e2 := Lib.bitLen_le8' y (by omega) (by omega)
    have e3 := Lib.bitLen_shift8 x.toNat (by omega) (by omega)
    have e4 : y.toNat = x.toNat / 256 := by omega
    rw [← e4] at e3
    rw [e3]
    rw [e1] at i1
    generalize hq : Lib.bitLen y.toNat = q at *
    have w1 : IntKind.i64.wrap (q : Int) = (q : Int) := IntWalk.i64_in _ (by omega)
    have w2 : IntKind.i64.wrap (8 + (q : Int)) = 8 + (q : Int) := IntWalk.i64_in _ (by omega)
    have c1 : IntKind.u8.wrap y = y := by show y % 256 = y; omega
    have c2 : IntKind.u8.wrap (x / 256) = x / 256 := by show (x / 256) % 256 = x / 256; omega
    rw [hy] at i1
    clear e1 hq hy e3 e4 c1
    go_enter Try.func104, Try.ntmps104
    go_wp2
    go_ret
    exact ⟨rfl, rfl⟩
set_option maxHeartbeats 1000000 in
theorem Len_any (x : Int) (w : World) (h0 : 0 ≤ x) (h1 : x ≤ 1920) :
    Calls Try.prog 94 #[.int .u64 x] w fun e w' => e = .returned (.int .i64 (Lib.bitLen x.toNat)) ∧ w = w' := by
  have LT := Lib.hid (fun w => Len64_any x w h0 h1)
  generalize Lib.bitLen x.toNat = q at *
  clear h0 h1
  go_enter Try.func94, Try.ntmps94
  go_wp2_with fail
  refine (LT.out _).mono ?_
  rintro e w' ⟨rfl, rfl⟩
  go_wp2
  go_ret
  exact ⟨rfl, rfl⟩
theorem bitLen_two {n : Nat} (h : 2 ≤ n) (h2 : n ≤ 1920) : 2 ≤ Lib.bitLen n ∧ Lib.bitLen n ≤ 16 := by
  have h1 := Lib.bitLen_half n (by omega) (by omega)
  have h3 := Lib.bitLen_half (n / 2) (by omega) (by omega)
  by_cases h8 : n < 256
  · have := Lib.bitLen_le8' (n : Int) (by omega) (by omega)
    rw [Int.toNat_natCast] at this
    omega
  · have e := Lib.bitLen_shift8 n (by omega) (by omega)
    have := Lib.bitLen_le8' ((n / 256 : Nat) : Int) (by omega) (by omega)
    rw [Int.toNat_natCast] at this
    omega
set_option maxHeartbeats 1000000 in
/-- the class of a size -/
theorem Class_any (n : Int) (hn : 2 ≤ n ∧ n ≤ 1920) (w : World) :
    Calls Try.prog 83 #[.int .i64 n] w fun e w' => e = .returned (.tuple #[.int .i64 ((Lib.bitLen n.toNat : Int) - 1), .int .i64 0]) ∧ w = w' := by
  have LT := Lib.hid (fun w => Len_any n w (by omega) (by omega))
  have hb := bitLen_two (n := n.toNat) (by omega) (by omega)
  obtain ⟨hn1, hn2⟩ := hn
  generalize Lib.bitLen n.toNat = q at *
  have c1 : IntKind.u64.wrap n = n := by show n % 18446744073709551616 = n; omega
  have w1 : IntKind.i64.wrap ((q : Int) - 1) = (q : Int) - 1 := IntWalk.i64_in _ (by omega)
  have g1 : decide (n < 2) = false := decide_eq_false (by omega)
  have g2 : decide (1920 < n) = false := decide_eq_false (by omega)
  clear hb
  go_enter Try.func83, Try.ntmps83
  go_wp2_with fail
  refine (LT.out _).mono ?_
  rintro e w' ⟨rfl, rfl⟩
  go_wp2
  go_ret2
  exact ⟨rfl, rfl⟩
set_option maxHeartbeats 1000000 in
theorem right21_any (n : Int) (b : Bool) (hb : b = decide (RightN n)) (w : World) :
    Calls Try.prog 82 #[.int .i64 n] w fun e w' => e = .returned (.bool b) ∧ w = w' := by
  by_cases h1 : 2 ≤ n
  · by_cases h2 : n ≤ 10
    · have hw : n % 2 = 0 ∨ n % 2 = 1 := by omega
      have hm : n.tmod 2 = n % 2 := Int.tmod_eq_emod_of_nonneg (by omega)
      rcases hw with hw | hw
      · obtain rfl : b = true := by rw [hb]; exact decide_eq_true ⟨h1, h2, hw⟩
        rw [hw] at hm
        clear hb hw
        go_enter Try.func82, Try.ntmps82
        go_wp2
        go_ret
        exact ⟨rfl, rfl⟩
      · obtain rfl : b = false := by rw [hb]; exact decide_eq_false (fun h => by have := h.2.2; omega)
        rw [hw] at hm
        clear hb hw
        go_enter Try.func82, Try.ntmps82
        go_wp2
        go_ret
        exact ⟨rfl, rfl⟩
    · obtain rfl : b = false := by rw [hb]; exact decide_eq_false (fun h => h2 h.2.1)
      clear hb
      go_enter Try.func82, Try.ntmps82
      go_wp2
      go_ret
      exact ⟨rfl, rfl⟩
  · obtain rfl : b = false := by rw [hb]; exact decide_eq_false (fun h => h1 h.1)
    clear hb
    go_enter Try.func82, Try.ntmps82
    go_wp2
    go_ret
    exact ⟨rfl, rfl⟩
end Go.Proofs.Ytodbbacmdjcheaa
namespace Go.Proofs.Ytodbbacmdjcheaa
open Go.RowKit L01 L02 L05 L06 L07 L13 L14 L15 L16 L18 L19
def bkA (b : Hb) : Array Value := #[.int .i64 b.at_, .int .i64 b.size, .int .i64 b.kind, .int .i64 b.ty, .bool b.mark, .int .u64 b.next.toNat]
def zeroB : Array Value := #[.int .i64 0, .int .i64 0, .int .i64 0, .int .i64 0, .bool false, .int .u64 0]
/-- the worlds of a block that is stored whole -/
def set6 (w : World) (p : Nat) (b : Hb) : World := (((((w.setCell ⟨p, 0, none⟩ (.int .i64 b.at_)).setCell ⟨p, 1, none⟩ (.int .i64 b.size)).setCell ⟨p, 2, none⟩ (.int .i64 b.kind)).setCell ⟨p, 3, none⟩ (.int .i64 b.ty)).setCell ⟨p, 4, none⟩ (.bool b.mark)).setCell ⟨p, 5, none⟩ (.int .u64 b.next.toNat)
theorem Bx.put6 {w : World} {p : Nat} {t : TypeId} {cs : Array Value} (h : Bx w p t cs) (hs : cs.size = 6) (b : Hb) : Bx (set6 w p b) p t (bkA b) := by
  have := (((((h.set (i := 0) (.int .i64 b.at_)).set (i := 1) (.int .i64 b.size)).set (i := 2) (.int .i64 b.kind)).set (i := 3) (.int .i64 b.ty)).set (i := 4) (.bool b.mark)).set (i := 5) (.int .u64 b.next.toNat)
  have e : ((((((cs.setIfInBounds 0 (.int .i64 b.at_)).setIfInBounds 1 (.int .i64 b.size)).setIfInBounds 2 (.int .i64 b.kind)).setIfInBounds 3 (.int .i64 b.ty)).setIfInBounds 4 (.bool b.mark)).setIfInBounds 5 (.int .u64 b.next.toNat)) = bkA b := by
    obtain ⟨c0, c1, c2, c3, c4, c5, e⟩ : ∃ c0 c1 c2 c3 c4 c5, cs = #[c0, c1, c2, c3, c4, c5] := by
      rcases cs with ⟨l⟩
      rcases l with _ | ⟨c0, _ | ⟨c1, _ | ⟨c2, _ | ⟨c3, _ | ⟨c4, _ | ⟨c5, _ | ⟨c6, l⟩⟩⟩⟩⟩⟩⟩ <;> simp at hs
      exact ⟨_, _, _, _, _, _, rfl⟩
    subst e
    simp [bkA]
  rw [e] at this
  exact this
theorem Bx.far6 {w : World} {g p : Nat} {t : TypeId} {cs : Array Value} (h : Bx w g t cs) (hne : g ≠ p) (b : Hb) : Bx (set6 w p b) g t cs :=
  (((((h.far (p := ⟨p, 0, none⟩) hne _).far (p := ⟨p, 1, none⟩) hne _).far (p := ⟨p, 2, none⟩) hne _).far (p := ⟨p, 3, none⟩) hne _).far (p := ⟨p, 4, none⟩) hne _).far (p := ⟨p, 5, none⟩) hne _
theorem below_set6 {B : Nat} {w0 w : World} {p : Nat} (h : Below B w0 w) (hp : B ≤ p) (b : Hb) : Below B w0 (set6 w p b) :=
  (((((h.setCell (p := ⟨p, 0, none⟩) hp _).setCell (p := ⟨p, 1, none⟩) hp _).setCell (p := ⟨p, 2, none⟩) hp _).setCell (p := ⟨p, 3, none⟩) hp _).setCell (p := ⟨p, 4, none⟩) hp _).setCell (p := ⟨p, 5, none⟩) hp _
theorem own_set6 {w : World} {B e sz n p : Nat} {v : Value} {xs : List Value} (h : w.ownsRow B e sz v n xs) (hne : v.ownBlock = none ∨ v.ownBlock ≠ some p) (b : Hb) : (set6 w p b).ownsRow B e sz v n xs := by
  have st : ∀ {W : World} (i : Nat) (u : Value), W.ownsRow B e sz v n xs → (W.setCell ⟨p, i, none⟩ u).ownsRow B e sz v n xs := fun i u h => World.ownsRow.kept h (grown_set _ ⟨p, i, none⟩ u) hne
  exact st 5 _ (st 4 _ (st 3 _ (st 2 _ (st 1 _ (st 0 _ h)))))
/-- what the loop has found -/
def Found21 (o : Option Hb) (be : Int) (b : Hb) : Prop := (o = none ∧ be = 0 ∧ b = .none) ∨ (o = some b ∧ be = (bl b : Int) - 1 ∧ 1 ≤ be)
set_option maxRecDepth 100000 in
set_option maxHeartbeats 4000000 in
theorem FitFind_any (v : Value) (l : List UInt64) (n : Int) (b : Hb) (r : Int) (hb : b = fitB l n) (hr : r = fitE l n) (w : World) (h : Words w v l) :
    Calls Try.prog 49 #[v, .int .i64 n] w fun e w' => e = .returned (.tuple #[.agg #[.int .i64 b.at_, .int .i64 b.size, .int .i64 b.kind, .int .i64 b.ty, .bool b.mark, .int .u64 b.next.toNat], .int .i64 r]) ∧ Below w.heap.size w w' := by
  have B : Below w.heap.size w w := Below.refl _ _
  have H := Lib.hid h
  obtain ⟨F, hF⟩ : ∃ F, F = freeL l := ⟨_, rfl⟩
  obtain ⟨c, hc⟩ : ∃ c, c = allErr l := ⟨_, rfl⟩
  have FT := Lib.hid (fun w h => FreeW_any v l F c hF hc w h)
  by_cases h0 : c = 0
  case neg =>
    have hr0 : r = c := by rw [hr, fitE, if_neg (by rw [← hc]; exact h0), hc]
    obtain rfl : b = .none := by rw [hb, fitB, if_neg (by rw [← hr, hr0]; exact h0)]
    subst hr0
    have n1 : (r != 0) = true := by rw [bne_iff_ne]; exact h0
    clear hb hr h hF hc h0
    go_enter Try.func49, Try.ntmps49
    go_upto_region 1 with (fail)
    refine wp_gen (fun Wv => Bx Wv (w.heap.size) (84) (#[.int .i64 0, .int .i64 0, .int .i64 0, .int .i64 0, .bool false, .int .u64 0]) ∧ Below w.heap.size w Wv) ⟨((Bx.at_ (by simp))), ((Below.refl _ w).alloc (by simp <;> omega) _)⟩ ?_
    rintro wa1 ⟨g1, b⟩
    replace B := B.trans (b.mono B.size); clear b
    have c_g1 := g1.cell; have f_g1 := g1.free; have a_g1 := fun o => (g1.alloc o).cell; have d_g1 := fun o o2 => ((g1.alloc o).alloc o2).cell; have e_g1 := fun o => (g1.alloc o).free
    go_wp2_with fail
    refine (FT.out _ (H.out.below B)).mono ?_
    rintro e wa2 ⟨xl, rfl, ol, b⟩
    try clear c_g1 f_g1 a_g1 d_g1 e_g1
    replace g1 := g1.below b; have c_g1 := g1.cell; have f_g1 := g1.free; have a_g1 := fun o => (g1.alloc o).cell; have d_g1 := fun o o2 => ((g1.alloc o).alloc o2).cell; have e_g1 := fun o => (g1.alloc o).free; replace B := B.trans (b.mono B.size); clear b
    go_wp2
    refine bodyPost_ret (v := .tuple #[.agg #[.int .i64 0, .int .i64 0, .int .i64 0, .int .i64 0, .bool false, .int .u64 0], .int .i64 r]) (by simp [results, Try.results49, go_sem, c_g1, f_g1, a_g1, e_g1]) rfl ?_
    refine ⟨rfl, ?_⟩
    (repeat (first | refine Below.setCell ?_ (by first | exact Nat.le_refl _ | (simp <;> omega)) _ | refine Below.alloc ?_ (by first | exact B.size | (have := B.size; simp <;> omega)) _)); exact B
  case pos =>
    subst h0
    by_cases hn : RightN n
    case neg =>
      have hr0 : r = 2 := by rw [hr, fitE, if_pos hc.symm, if_neg hn]
      obtain rfl : b = .none := by rw [hb, fitB, if_neg (by rw [← hr, hr0]; decide)]
      subst hr0
      have RT := Lib.hid (fun w => right21_any n false (decide_eq_false hn).symm w)
      clear hb hr h hF hc hn
      go_enter Try.func49, Try.ntmps49
      go_upto_region 1 with (fail)
      refine wp_gen (fun Wv => Bx Wv (w.heap.size) (84) (#[.int .i64 0, .int .i64 0, .int .i64 0, .int .i64 0, .bool false, .int .u64 0]) ∧ Below w.heap.size w Wv) ⟨((Bx.at_ (by simp))), ((Below.refl _ w).alloc (by simp <;> omega) _)⟩ ?_
      rintro wa1 ⟨g1, b⟩
      replace B := B.trans (b.mono B.size); clear b
      have c_g1 := g1.cell; have f_g1 := g1.free; have a_g1 := fun o => (g1.alloc o).cell; have d_g1 := fun o o2 => ((g1.alloc o).alloc o2).cell; have e_g1 := fun o => (g1.alloc o).free
      go_wp2_with fail
      refine (FT.out _ (H.out.below B)).mono ?_
      rintro e wa2 ⟨xl, rfl, ol, b⟩
      try clear c_g1 f_g1 a_g1 d_g1 e_g1
      replace g1 := g1.below b; have c_g1 := g1.cell; have f_g1 := g1.free; have a_g1 := fun o => (g1.alloc o).cell; have d_g1 := fun o o2 => ((g1.alloc o).alloc o2).cell; have e_g1 := fun o => (g1.alloc o).free; replace B := B.trans (b.mono B.size); clear b
      go_wp2_with fail
      refine (RT.out _).mono ?_
      rintro e w3 ⟨rfl, rfl⟩
      go_wp2
      refine bodyPost_ret (v := .tuple #[.agg #[.int .i64 0, .int .i64 0, .int .i64 0, .int .i64 0, .bool false, .int .u64 0], .int .i64 2]) (by simp [results, Try.results49, go_sem, c_g1, f_g1, a_g1, e_g1]) rfl ?_
      refine ⟨rfl, ?_⟩
      (repeat (first | refine Below.setCell ?_ (by first | exact Nat.le_refl _ | (simp <;> omega)) _ | refine Below.alloc ?_ (by first | exact B.size | (have := B.size; simp <;> omega)) _)); exact B
    case pos =>
      have hs : ∀ c ∈ F, 2 ≤ c.size ∧ c.size ≤ 1920 := fun c hc' => by
        rw [hF] at hc'
        obtain ⟨a, h1, h2, h3, h4, _⟩ := all_mem hc.symm (free_mem.1 hc').1
        have := (stand_ok h3).bounds
        rw [← h4] at this
        omega
      have hl9 : F.length ≤ 960 := by rw [hF]; exact Nat.le_trans (List.length_filter_le _ _) (all_len hc.symm)
      have hfin : (∀ x, takes F n = some x → b = x ∧ r = 0) ∧ (takes F n = none → b = .none ∧ r = 20) := by
        constructor
        · intro x hx
          have hr0 : fitE l n = 0 := by rw [fitE, if_pos hc.symm, if_pos hn, ← hF, hx]; rfl
          exact ⟨by rw [hb, fitB, if_pos hr0, ← hF, hx]; rfl, by rw [hr, hr0]⟩
        · intro hx
          have hr0 : fitE l n = 20 := by rw [fitE, if_pos hc.symm, if_pos hn, ← hF, hx]; rfl
          exact ⟨by rw [hb, fitB, if_neg (by rw [hr0]; decide)], by rw [hr, hr0]⟩
      have RT := Lib.hid (fun w => right21_any n true (decide_eq_true hn).symm w)
      obtain ⟨N, hN⟩ : ∃ N, N = F.length := ⟨_, rfl⟩
      have hN9 : N ≤ 960 := by omega
      have HN := Lib.hid hN; have HS := Lib.hid hs; have HF := Lib.hid hfin
      clear hb hr h hF hc hs hl9 hfin hN hn
      go_enter Try.func49, Try.ntmps49
      go_upto_region 1 with (fail)
      refine wp_gen (fun Wv => Bx Wv (w.heap.size) (84) (#[.int .i64 0, .int .i64 0, .int .i64 0, .int .i64 0, .bool false, .int .u64 0]) ∧ Below w.heap.size w Wv) ⟨((Bx.at_ (by simp))), ((Below.refl _ w).alloc (by simp <;> omega) _)⟩ ?_
      rintro wa1 ⟨g1, b⟩
      replace B := B.trans (b.mono B.size); clear b
      have c_g1 := g1.cell; have f_g1 := g1.free; have a_g1 := fun o => (g1.alloc o).cell; have d_g1 := fun o o2 => ((g1.alloc o).alloc o2).cell; have e_g1 := fun o => (g1.alloc o).free
      go_wp2_with fail
      refine (FT.out _ (H.out.below B)).mono ?_
      rintro e wa2 ⟨xl, rfl, ol, b⟩
      try clear c_g1 f_g1 a_g1 d_g1 e_g1
      replace g1 := g1.below b; have c_g1 := g1.cell; have f_g1 := g1.free; have a_g1 := fun o => (g1.alloc o).cell; have d_g1 := fun o o2 => ((g1.alloc o).alloc o2).cell; have e_g1 := fun o => (g1.alloc o).free; replace B := B.trans (b.mono B.size); clear b
      go_wp2_with fail
      refine (RT.out _).mono ?_
      rintro e w3 ⟨rfl, rfl⟩
      have hlt1 := g1.lt
      have hz1 := B.size
      have hxl := own_fresh ol
      go_upto_region 7 with (fail)
      refine wp_gen (fun Wv => Bx Wv (wa2.heap.size) (84) (#[.int .i64 0, .int .i64 0, .int .i64 0, .int .i64 0, .bool false, .int .u64 0]) ∧ Below wa2.heap.size wa2 Wv) ⟨((Bx.at_ (by simp))), ((Below.refl _ wa2).alloc (by simp <;> omega) _)⟩ ?_
      rintro wa3 ⟨g2, b⟩
      try clear c_g1 f_g1 a_g1 d_g1 e_g1
      replace g1 := g1.below b; have c_g1 := g1.cell; have f_g1 := g1.free; have a_g1 := fun o => (g1.alloc o).cell; have d_g1 := fun o o2 => ((g1.alloc o).alloc o2).cell; have e_g1 := fun o => (g1.alloc o).free; replace ol := ol.below b; replace B := B.trans (b.mono B.size); clear b
      have c_g2 := g2.cell; have f_g2 := g2.free; have a_g2 := fun o => (g2.alloc o).cell; have d_g2 := fun o o2 => ((g2.alloc o).alloc o2).cell; have e_g2 := fun o => (g2.alloc o).free
      have lx := ol.rd.len
      rw [← HN.out] at lx
      obtain ⟨p2, hp2⟩ : ∃ p, p = wa2.heap.size := ⟨_, rfl⟩
      rw [← hp2] at g2 hlt1 hz1 hxl
      rw [← hp2]
      have HO := Lib.hid ol
      have HB := Lib.hid (And.intro g1 (And.intro g2 B))
      have HBB := Lib.hid (Below.refl wa3.heap.size wa3)
      have hB1 := B.size
      have hlt2 := g2.lt
      clear ol g1 g2 B c_g1 f_g1 a_g1 d_g1 e_g1 c_g2 f_g2 a_g2 d_g2 e_g2 hp2
      go_wp2
      clear lx
      go_loopg [9, 29] N (fun gg bv i wr => ∃ (j : Nat) (be : Int), j ≤ N ∧ gg = N - j ∧ bv = .int .i64 be ∧ i = .int .i64 j ∧ Hid (∃ (o : Option Hb) (x : Hb), Found21 o be x ∧ takesF n (F.drop j) o = takes F n ∧ (∀ y, o = some y → y ∈ F) ∧ OwnK wr wa1.heap.size xl F ∧ Bx wr w.heap.size 84 zeroB ∧ Bx wr p2 84 (bkA x) ∧ Below w.heap.size w wr))
      case atStart => exact ⟨0, 0, by omega, by omega, rfl, rfl, Lib.hid ⟨none, .none, .inl ⟨rfl, rfl, rfl⟩, by rw [List.drop_zero]; rfl, fun y hy => (by cases hy), HO.out, HB.out.1, HB.out.2.1, HB.out.2.2⟩⟩
      case round =>
        clear HBB HB HO
        obtain ⟨j, be, hj, rfl, rfl, rfl, hh⟩ := hrel
        obtain ⟨o, x, hfo, htk, hom, hrd, g1, g2, B⟩ := hh.out
        clear hh
        by_cases hlt : j < N
        · have hblk : Blks wr xl F := hrd.rd
          obtain ⟨bb, oo, y, ia, m0, m1, m2, m3, m4, m5, hy, _⟩ := hblk.at_ (k := j) (by rw [← HN.out]; exact hlt)
          have hyF := List.mem_of_getElem? hy.out
          have hys := HS.out y hyF
          have hstep := takesF_step (n := n) (o := o) hy.out
          rw [htk] at hstep
          have CT := Lib.hid (fun w => Class_any y.size hys w)
          have hbl := bitLen_two (n := y.size.toNat) (by omega) (by omega)
          obtain ⟨kb, hkb⟩ : ∃ k : Int, k = (Lib.bitLen y.size.toNat : Int) - 1 := ⟨_, rfl⟩
          rw [← hkb] at CT
          have hkbl : kb = (bl y : Int) - 1 := hkb
          have hkb1 : 1 ≤ kb := by omega
          have hdone : betterB n y o = decide (n ≤ y.size ∧ (be = 0 ∨ kb < be)) := by
            unfold betterB
            rcases hfo with ⟨rfl, rfl, _⟩ | ⟨rfl, e2, e3⟩
            · simp
            · show (decide (n ≤ y.size) && decide (bl y < bl x)) = _
              rw [show decide (bl y < bl x) = decide (be = 0 ∨ kb < be) by
                rw [Bool.eq_iff_iff, decide_eq_true_iff, decide_eq_true_iff]; omega]
              rw [Bool.eq_iff_iff, Bool.and_eq_true, decide_eq_true_iff, decide_eq_true_iff, decide_eq_true_iff]
          have HG := Lib.hid (And.intro hfo (And.intro hstep (And.intro hom (And.intro hdone (And.intro hyF hkbl)))))
          clear hy hys hbl hkb hkbl hfo htk hom hstep hdone hyF hblk
          have hlw := g2.lt
          unfold zeroB at g1
          unfold bkA at g2
          go_upto_region 11 with (fail)
          refine wp_gen (fun Wv => Bx Wv (wr.heap.size) (84) (#[.int .i64 y.at_, .int .i64 y.size, .int .i64 y.kind, .int .i64 y.ty, .bool y.mark, .int .u64 y.next.toNat]) ∧ Below wr.heap.size wr Wv) ⟨((Bx.at_ (by simp))), ((Below.refl _ wr).alloc (by simp <;> omega) _)⟩ ?_
          rintro wa4 ⟨g3, b⟩
          try clear c_g1 f_g1 a_g1 d_g1 e_g1
          replace g1 := g1.below b; have c_g1 := g1.cell; have f_g1 := g1.free; have a_g1 := fun o => (g1.alloc o).cell; have d_g1 := fun o o2 => ((g1.alloc o).alloc o2).cell; have e_g1 := fun o => (g1.alloc o).free; try clear c_g2 f_g2 a_g2 d_g2 e_g2
          replace g2 := g2.below b; have c_g2 := g2.cell; have f_g2 := g2.free; have a_g2 := fun o => (g2.alloc o).cell; have d_g2 := fun o o2 => ((g2.alloc o).alloc o2).cell; have e_g2 := fun o => (g2.alloc o).free; replace hrd := hrd.below b; replace B := B.trans (b.mono B.size); clear b
          have c_g3 := g3.cell; have f_g3 := g3.free; have a_g3 := fun o => (g3.alloc o).cell; have d_g3 := fun o o2 => ((g3.alloc o).alloc o2).cell; have e_g3 := fun o => (g3.alloc o).free
          go_wp2_with fail
          refine (CT.out _).mono ?_
          rintro e w4 ⟨rfl, rfl⟩
          by_cases hd : n ≤ y.size ∧ (be = 0 ∨ kb < be)
          case neg =>
            obtain ⟨hfo, hstep, hom, hdone, hyF, hkbl⟩ := HG.out
            rw [if_neg (by rw [hdone, decide_eq_true_iff]; exact hd)] at hstep
            have HR := Lib.hid (show ∃ (o : Option Hb) (x : Hb), Found21 o be x ∧ takesF n (F.drop (j + 1)) o = takes F n ∧ (∀ y, o = some y → y ∈ F) ∧ OwnK wa4 wa1.heap.size xl F ∧ Bx wa4 w.heap.size 84 zeroB ∧ Bx wa4 p2 84 (bkA x) ∧ Below w.heap.size w wa4 from ⟨o, x, hfo, hstep.symm, hom, hrd, g1, g2, B⟩)
            clear hfo hstep hom hdone hyF hkbl HG g1 g2 hrd B c_g1 f_g1 a_g1 d_g1 e_g1 c_g2 f_g2 a_g2 d_g2 e_g2
            by_cases h1 : n ≤ y.size
            · have n2 : (be == 0) = false := by rw [beq_eq_false_iff_ne]; exact fun e => hd ⟨h1, .inl e⟩
              have n3 : decide (kb < be) = false := decide_eq_false (fun e => hd ⟨h1, .inr e⟩)
              clear hd
              go_wp2
              go_roundg (N - (j + 1))
              case measure => omega
              case rel => exact ⟨j + 1, be, by omega, rfl, rfl, by go_num, HR⟩
            · clear hd
              go_wp2
              go_roundg (N - (j + 1))
              case measure => omega
              case rel => exact ⟨j + 1, be, by omega, rfl, rfl, by go_num, HR⟩
          case pos =>
            obtain ⟨hfo, hstep, hom, hdone, hyF, hkbl⟩ := HG.out
            rw [if_pos (by rw [hdone, decide_eq_true_iff]; exact hd)] at hstep
            have HR := Lib.hid (show ∃ (o : Option Hb) (x : Hb), Found21 o kb x ∧ takesF n (F.drop (j + 1)) o = takes F n ∧ (∀ y, o = some y → y ∈ F) ∧ OwnK (set6 wa4 p2 y) wa1.heap.size xl F ∧ Bx (set6 wa4 p2 y) w.heap.size 84 zeroB ∧ Bx (set6 wa4 p2 y) p2 84 (bkA x) ∧ Below w.heap.size w (set6 wa4 p2 y) from ⟨some y, y, .inr ⟨rfl, hkbl, hkb1⟩, hstep.symm, (fun z hz => by injection hz with hz; rw [← hz]; exact hyF), own_set6 hrd hxl y, g1.far6 (by omega) y, g2.put6 rfl y, below_set6 B (by omega) y⟩)
            have hne3 : p2 ≠ wr.heap.size := by omega
            clear hfo hstep hom hdone hyF hkbl HG g1 hrd B c_g1 f_g1 a_g1 d_g1 e_g1
            by_cases h1 : be = 0
            · have n2 : (be == 0) = true := by rw [beq_iff_eq]; exact h1
              have n3 := hd.1
              clear hd h1
              go_wp2
              go_roundg (N - (j + 1))
              case measure => omega
              case rel => exact ⟨j + 1, kb, by omega, rfl, rfl, by go_num, HR⟩
            · have n2 : (be == 0) = false := by rw [beq_eq_false_iff_ne]; exact h1
              have n3 := hd.1
              have n4 : decide (kb < be) = true := decide_eq_true (hd.2.resolve_left h1)
              clear hd h1
              go_wp2
              go_roundg (N - (j + 1))
              case measure => omega
              case rel => exact ⟨j + 1, kb, by omega, rfl, rfl, by go_num, HR⟩
        · obtain rfl : j = N := by omega
          have hdr : F.drop j = [] := List.drop_of_length_le (by rw [← HN.out]; exact Nat.le_refl _)
          rw [hdr] at htk
          have htk2 : o = takes F n := htk
          rcases hfo with ⟨rfl, rfl, rfl⟩ | ⟨rfl, e2, e3⟩
          · obtain ⟨rfl, rfl⟩ := HF.out.2 htk2.symm
            unfold zeroB at g1
            have c_g1 := g1.cell; have f_g1 := g1.free
            clear hdr htk htk2 hom hrd HF
            go_wp2
            refine bodyPost_ret (v := .tuple #[.agg #[.int .i64 0, .int .i64 0, .int .i64 0, .int .i64 0, .bool false, .int .u64 0], .int .i64 20]) (by simp [results, Try.results49, go_sem, c_g1, f_g1]) rfl ?_
            refine ⟨rfl, ?_⟩
            (repeat (first | refine Below.setCell ?_ (by first | exact Nat.le_refl _ | (simp <;> omega)) _ | refine Below.alloc ?_ (by first | exact B.size | (have := B.size; simp <;> omega)) _)); exact B
          · obtain ⟨hbx, rfl⟩ := HF.out.1 _ htk2.symm
            have HBX := Lib.hid hbx
            have n1 : (be == 0) = false := by rw [beq_eq_false_iff_ne]; omega
            unfold zeroB at g1
            unfold bkA at g2
            have c_g1 := g1.cell; have f_g1 := g1.free; have c_g2 := g2.cell
            clear hdr htk htk2 hom hrd HF e2 e3 hbx
            have hne12 : w.heap.size ≠ p2 := by omega
            go_wp2
            refine bodyPost_ret (v := .tuple #[.agg #[.int .i64 x.at_, .int .i64 x.size, .int .i64 x.kind, .int .i64 x.ty, .bool x.mark, .int .u64 x.next.toNat], .int .i64 0]) (by simp [results, Try.results49, go_sem, c_g1, f_g1]) rfl ?_
            refine ⟨by rw [HBX.out], ?_⟩
            (repeat (first | refine Below.setCell ?_ (by first | exact Nat.le_refl _ | (simp <;> omega)) _ | refine Below.alloc ?_ (by first | exact B.size | (have := B.size; simp <;> omega)) _)); exact B
end Go.Proofs.Ytodbbacmdjcheaa
namespace Go.Proofs.Ytodbbacmdjcheaa
open Go.RowKit L02
theorem OwnI.push {w : World} {B E n : Nat} {v : Value} {l : List Int} {x : Int} {xs : List Value} (h : w.ownsRow B E 1 v n (xs ++ [Value.int .i64 x])) (hx : xs = l.map i64) : OwnI w B E v (l ++ [x]) :=
  OwnI.of h (by subst hx; simp [i64])
end Go.Proofs.Ytodbbacmdjcheaa
namespace Go.Proofs.Ytodbbacmdjcheaa
open Go.RowKit L02 L05 L06 L07
end Go.Proofs.Ytodbbacmdjcheaa
namespace Go.Proofs.Ytodbbacmdjcheaa
open Go.RowKit L02 L05 L06 L07
/-- entries: two cells each -/
def eC (E : List (Int × UInt64)) : List Value := E.flatMap fun e => [.int .i64 e.1, .int .u64 e.2.toNat]
theorem eC_len (E : List (Int × UInt64)) : (eC E).length = E.length * 2 := by
  induction E with
  | nil => rfl
  | cons h H ih => simp only [eC, List.flatMap_cons, List.length_append, List.length_cons, List.length_nil] at *; omega
theorem eC_get : ∀ (E : List (Int × UInt64)) (k : Nat) (e : Int × UInt64), E[k]? = some e → (eC E)[k * 2]? = some (.int .i64 e.1) ∧ (eC E)[k * 2 + 1]? = some (.int .u64 e.2.toNat)
  | [], k, h, hk => by simp at hk
  | x :: H, 0, h, hk => by simp at hk; subst hk; exact ⟨rfl, rfl⟩
  | x :: H, k + 1, h, hk => by
    have := eC_get H k h (by simpa using hk)
    rw [show (k + 1) * 2 = k * 2 + 1 + 1 by omega]
    simpa [eC] using this
theorem eC_snoc (E : List (Int × UInt64)) (a : Int) (b : UInt64) : eC E ++ [.int .i64 a, .int .u64 b.toNat] = eC (E ++ [(a, b)]) := by simp [eC, List.flatMap_append]
def Ents (w : World) (v : Value) (E : List (Int × UInt64)) : Prop := Rd w 2 v E.length (eC E)
def OwnE (w : World) (base : Nat) (v : Value) (E : List (Int × UInt64)) : Prop := w.ownsRow base 66 2 v E.length (eC E)
theorem OwnE.rd {w : World} {base : Nat} {v : Value} {E : List (Int × UInt64)} (h : OwnE w base v E) : Ents w v E := Rd.of_own h
theorem Ents.below {w w' : World} {v : Value} {E : List (Int × UInt64)} (h : Ents w v E) (hb : Below w.heap.size w w') : Ents w' v E := Rd.below h hb
theorem OwnE.below {w w' : World} {base : Nat} {v : Value} {E : List (Int × UInt64)} (h : OwnE w base v E) (hb : Below w.heap.size w w') : OwnE w' base v E := own_below h hb
theorem OwnE.nil (w : World) (base : Nat) : OwnE w base (.slice none 0 0) [] := World.ownsRow_nil w base _ 2
theorem OwnE.of {w : World} {B n : Nat} {v : Value} {xs : List Value} {E : List (Int × UInt64)} (h : w.ownsRow B 66 2 v n xs) (hx : xs = eC E) : OwnE w B v E := by
  subst hx
  have hn : n = E.length := by have := h.1; rw [eC_len] at this; omega
  subst hn; exact h
theorem size_ent : (Try.prog.info? 66).map (·.size) = some 2 := by kernel_rfl
theorem info_ent : (Try.prog.info? 66).map (fun i => (i.zero, i.size, i.bytes)) = some (some (.agg #[.int .i64 0, .int .u64 0]), 2, 16) := by kernel_rfl
theorem Ents.at_ {w : World} {v : Value} {E : List (Int × UInt64)} (h : Ents w v E) {k : Nat} (hk : k < E.length) :
    ∃ b o a x, (∀ W, (Instr.indexAt 59 v (.int .i64 (k : Int))).run Try.prog W = .ok (.pointer (some ⟨b, o, none⟩)) W) ∧ w.cell? ⟨b, o, none⟩ = some (.int .i64 a) ∧ w.cell? ⟨b, o + 1, none⟩ = some (.int .u64 (UInt64.toNat x)) ∧ Hid (E[k]? = some (a, x)) := by
  have hix := fun W => Rd.ixN h Try.underlying59 size_ent hk W
  obtain ⟨b, o, c, rfl, hb, hc, hcell⟩ := Rd.form h (by omega)
  have hs : E[k]? = some (E[k].1, E[k].2) := List.getElem?_eq_getElem hk
  have t := eC_get E k _ hs
  exact ⟨b, o + k * 2, E[k].1, E[k].2, fun W => hix W, hcell _ _ t.1, hcell _ _ t.2, Lib.hid hs⟩
theorem lit_ent {w : World} {e : TypeId} {n : Nat} (a : Int) (x : UInt64) (hn : w.heap.size = n) : Rd (w.alloc (.cells #[.int .i64 a, .int .u64 x.toNat] e)) 2 (.slice (some ⟨n, 0, none⟩) 1 1) 1 [.int .i64 a, .int .u64 x.toNat] := by
  subst hn; exact lit_rdK (n := 1) (sz := 2) rfl (by omega)
def hE (V : List UInt64) (l : List Int) : List (Int × UInt64) := l.map fun i => (i, V.getD i.toNat 0)
end Go.Proofs.Ytodbbacmdjcheaa
namespace Go.Proofs.Ytodbbacmdjcheaa
open Go.RowKit L01 L02 L05 L06 L07 L13 L14 L15 L18 L19
end Go.Proofs.Ytodbbacmdjcheaa

