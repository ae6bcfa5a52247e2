/- Contracts of the functions that the laws 'R' reach, part 17. No condition. -/
import Derived.Test.YtiiilaojllmmiaaMRp
set_option linter.unusedVariables false
set_option linter.unusedSimpArgs false
namespace Go.Proofs.Ytiiilaojllmmiaa.L19
open L02 L07 L13 L14 L15 L16 L18 L20
/-- the change that drops a handle -/
def diL (l : List UInt64) (sl g : Int) : List (Int × UInt64) := if askI l sl g = 0 then [(dropAt l sl g, dropVal l sl g)] else []
/-- whether something else refers to the object of a handle -/
def biE (l : List UInt64) (sl g : Int) : Bool := decide (askI l sl g = 0) && decide (Busy (seen l) sl (own (seen l) sl))
/-- the error and the change that free an object -/
def fiE (l : List UInt64) (sl g : Int) : Int := if askI l sl g = 0 then (if Busy (seen l) sl (own (seen l) sl) then 45 else 0) else askI l sl g
def fiB (l : List UInt64) (sl g : Int) : Hb := around l (res l sl g)
def fiL (l : List UInt64) (sl g : Int) : List (Int × UInt64) := if fiE l sl g = 0 then [(dropAt l sl g, dropVal l sl g), ((fiB l sl g).at_, L14.word (fiB l sl g))] else []
theorem freeE_seen {l : List UInt64} (h : Rt l) (sl g : Int) : freeE (seen l) sl g = fiE l sl g := by
  unfold freeE fiE; rw [asked_seen h]
/-- the image behind a dropped handle -/
theorem Hd.drop {l : List UInt64} {k a nn q : Nat} {sg : Int} {b : Hb} {t : List UInt8} (h : Hd l k a nn q sg b t) :
    diL l k sg = [(((112 + k : Nat) : Int), pk ⟨sg, false, 0⟩)] ∧ made l (diL l k sg) = l.set (112 + k) (pk ⟨sg, false, 0⟩) ∧ Rt (made l (diL l k sg)) ∧ seen (made l (diL l k sg)) = dropM (seen l) k sg ∧
      O19 (made l (diL l k sg)) = O19 l ∧ T19 (made l (diL l k sg)) = T19 l ∧ allL (made l (diL l k sg)) = allL l ∧ slots (made l (diL l k sg)) = (slots l).set k ⟨sg, false, 0⟩ := by
  have hr := seen_slot h.rt (List.mem_of_getElem? h.hs)
  have hr0 : Right ⟨sg, false, 0⟩ := ⟨hr.1, hr.2.1, fun _ => rfl, fun e => by cases e⟩
  have e1 : diL l k sg = [(((112 + k : Nat) : Int), pk ⟨sg, false, 0⟩)] := by
    unfold diL; rw [if_pos h.hask, dropAt, dropVal, if_pos h.hr, if_pos h.hr]
    congr 2
  have e2 : made l (diL l k sg) = l.set (112 + k) (pk ⟨sg, false, 0⟩) := by rw [e1, made_one (by have := h.rt.sz.1; have := h.hk; omega)]
  obtain ⟨r1, r2, r3, r4, r5⟩ := seen_slot_set h.rt h.hk hr0 (fun e => by cases e)
  rw [e2]
  refine ⟨e1, rfl, r1, ?_, r3, r4, r5, ?_⟩
  · rw [r2, dropM, if_pos (by rw [asked_seen h.rt]; exact h.hask), Int.toNat_natCast]
    rfl
  · rw [slots_set _ h.hk, spl_pk hr0]
/-- what is busy, by the image alone -/
theorem Hd.busy {l : List UInt64} {k a nn q : Nat} {sg : Int} {b : Hb} {t : List UInt8} (h : Hd l k a nn q sg b t) :
    Busy (seen l) k (L20.own (seen l) k) ↔ (∃ i s, i ≠ k ∧ (slots l)[i]? = some s ∧ s.used = true ∧ s.at_ = a) ∨ ∃ c ∈ O19 l, c.at_ ≠ a ∧ ∃ j, j < (kindsB (T19 l) c).length ∧ ((kindsB (T19 l) c).getD j 0).toNat = 3 ∧ ((fw l c j).toNat : Int) = a := by
  have hOl := objs_len h.rt.al
  have hii : idx (O19 l) (a : Int) = some nn := by rw [← h.hat]; exact idx_at h.rt.al h.ho
  unfold Busy
  rw [h.own]
  refine or_congr ?_ ?_
  · constructor
    · rintro ⟨i, h1, h2, h3, h4⟩
      have h1' : i < (slots l).length := by have h9 : i < ((slots l).map (slOf (O19 l))).length := h1; rwa [List.length_map] at h9
      have hs : (slots l)[i]? = some (slots l)[i] := List.getElem?_eq_getElem h1'
      have hg : (seen l).slots.getD i .none = slOf (O19 l) (slots l)[i] := by
        show ((slots l).map (slOf (O19 l))).getD i .none = _
        rw [List.getD_eq_getElem?_getD, List.getElem?_map, hs]; rfl
      rw [hg] at h3 h4
      rw [(slOf_ug _ _).1] at h3
      refine ⟨i, _, by omega, hs, h3, ?_⟩
      obtain ⟨j, c, j1, j2, j3, _⟩ := idx_of (h.rt.slots _ (List.mem_of_getElem? hs) h3)
      unfold slOf at h4
      rw [if_pos h3, j1] at h4
      have : j = nn := by have : (j : Int) = nn := h4; omega
      subst this
      exact idx_inj j1 hii
    · rintro ⟨i, s, h1, hs, h3, h4⟩
      have hg : (seen l).slots.getD i .none = slOf (O19 l) s := by
        show ((slots l).map (slOf (O19 l))).getD i .none = _
        rw [List.getD_eq_getElem?_getD, List.getElem?_map, hs]; rfl
      refine ⟨i, ?_, by omega, ?_, ?_⟩
      · show i < ((slots l).map (slOf (O19 l))).length
        rw [List.length_map]; exact (List.getElem?_eq_some_iff.1 hs).1
      · rw [hg, (slOf_ug _ _).1, h3]
      · rw [hg]; unfold slOf; rw [if_pos h3, h4, hii]
  · have hobj : ∀ i, i < (O19 l).length → ∃ c, (O19 l)[i]? = some c ∧ L20.ob (seen l) i = obOf l (T19 l) (O19 l) c := fun i hi => by
      have hc : (O19 l)[i]? = some (O19 l)[i] := List.getElem?_eq_getElem hi
      refine ⟨_, hc, ?_⟩
      unfold L20.ob
      show ((O19 l).map _).getD i _ = _
      rw [List.getD_eq_getElem?_getD, List.getElem?_map, hc]; rfl
    have key : ∀ c ∈ O19 l, ∀ j, j < (kindsB (T19 l) c).length → (isRef (seen l) (obOf l (T19 l) (O19 l) c) j nn ↔ ((kindsB (T19 l) c).getD j 0).toNat = 3 ∧ ((fw l c j).toNat : Int) = a) := fun c hc j hj => by
      unfold isRef
      show ((kindsB (T19 l) c).getD j 0).toNat = 3 ∧ ((obFs l (T19 l) (O19 l) c).getD j 0).toNat = nn + 1 ↔ _
      rw [List.getD_eq_getElem?_getD (l := obFs l (T19 l) (O19 l) c), obFs_get hj]
      refine and_congr_right fun h3 => ?_
      show (fldV (O19 l) _ (fw l c j)).toNat = nn + 1 ↔ _
      rw [fldV_ref h3]
      have h11 : fw l c j = 0 ∨ IsObj (O19 l) (fw l c j).toNat := h.rt.good 11 (by omega) (by omega) c hc j hj h3
      rcases h11 with h0 | h0
      · rw [h0, refV_none (no_zero h.rt.al (objs_low h.rt.al))]
        have := h.ha1
        constructor <;> intro e <;> simp at e <;> omega
      · obtain ⟨x, y, j1, j2, j3, j4⟩ := idx_of h0
        rw [refV_some j1, UInt64.toNat_ofNat', Nat.mod_eq_of_lt (by omega)]
        constructor
        · intro e
          have : x = nn := by omega
          subst this
          exact idx_inj j1 hii
        · intro e
          rw [e, hii] at j1; injection j1 with j1; omega
    constructor
    · rintro ⟨i, h1, h2, j, h3, h4⟩
      have h1' : i < (O19 l).length := by have h9 : i < ((O19 l).map (obOf l (T19 l) (O19 l))).length := h1; rwa [List.length_map] at h9
      obtain ⟨c, hc, ho⟩ := hobj i h1'
      rw [ho] at h3 h4
      have h3' : j < (kindsB (T19 l) c).length := by rw [← obFs_len l (T19 l) (O19 l) c]; exact h3
      have := (key c (List.mem_of_getElem? hc) j h3').1 h4
      refine ⟨c, List.mem_of_getElem? hc, fun e => h2 ?_, j, h3', this⟩
      have hcb := objs_inj h.rt.al (List.mem_of_getElem? hc) (List.mem_of_getElem? h.ho) (by rw [e, h.hat])
      subst hcb
      exact objs_idx h.rt.al hc h.ho
    · rintro ⟨c, hc, h2, j, h3, h4⟩
      obtain ⟨i, hi⟩ := List.getElem?_of_mem hc
      have h1 := (List.getElem?_eq_some_iff.1 hi).1
      obtain ⟨c', hc', ho⟩ := hobj i h1
      have : c' = c := by rw [hi] at hc'; injection hc' with e; exact e.symm
      subst this
      refine ⟨i, ?_, fun e => h2 ?_, j, ?_, ?_⟩
      · show i < ((O19 l).map _).length
        rw [List.length_map]; exact h1
      · subst e; rw [h.ho] at hi; injection hi with hi; rw [← hi, h.hat]
      · rw [ho]; show j < (obFs l (T19 l) (O19 l) c').length; rw [obFs_len]; exact h3
      · rw [ho]; exact (key c' hc j h3).2 h4
/-- the index of an object among all blocks -/
theorem Hd.block {l : List UInt64} {k a nn q : Nat} {sg : Int} {b : Hb} {t : List UInt8} (h : Hd l k a nn q sg b t) : ∃ i, objIdx (allL l) a 0 = some i ∧ (allL l)[i]? = some b ∧ arErr l a = 0 ∧ around l a = becomes (allL l) i := by
  obtain ⟨hbL, hbk⟩ := objs_mem.1 (List.mem_of_getElem? h.ho)
  cases h1 : objIdx (allL l) (a : Int) 0 with
  | none => exact absurd ⟨h.hat, hbk⟩ (objIdx_none.1 h1 b hbL)
  | some i =>
    obtain ⟨_, c, h2, h3, h4⟩ := objIdx_some h1
    rw [Nat.sub_zero] at h2
    have hc : c = b := objs_inj h.rt.al (objs_mem.2 ⟨List.mem_of_getElem? h2, h4⟩) (List.mem_of_getElem? h.ho) (by rw [h3, h.hat])
    subst hc
    have he : arErr l a = 0 := by unfold arErr; rw [if_pos h.rt.al, h1]; rfl
    exact ⟨i, rfl, h2, he, by unfold around; rw [if_pos he, h1]; rfl⟩
/-- an object freed -/
theorem Hd.free {l : List UInt64} {k a nn q : Nat} {sg : Int} {b : Hb} {t : List UInt8} (h : Hd l k a nn q sg b t) (h0 : fiE l k sg = 0) :
    ∃ (i : Nat) (m : Hb) (p : Nat), (allL l)[i]? = some b ∧ m = becomes (allL l) i ∧ fiB l k sg = m ∧ m.at_ = p ∧ 128 ≤ p ∧ BkOk m ∧ m.at_ + m.size ≤ l.length ∧ fiL l k sg = [(((112 + k : Nat) : Int), pk ⟨sg, false, 0⟩), ((p : Int), L14.word m)] ∧
      made l (fiL l k sg) = (l.set (112 + k) (pk ⟨sg, false, 0⟩)).set p (L14.word m) ∧ Rt (made l (fiL l k sg)) ∧ seen (made l (fiL l k sg)) = freeM (seen l) k sg ∧ slots (made l (fiL l k sg)) = (slots l).set k ⟨sg, false, 0⟩ ∧ T19 (made l (fiL l k sg)) = T19 l ∧
      (∃ P M S, allL l = P ++ (M ++ S) ∧ b ∈ M ∧ (∀ c ∈ M, c ≠ b → c.kind = 2) ∧ allL (made l (fiL l k sg)) = P ++ ([{ m with next := (made l (fiL l k sg)).getD (p + 1) 0 }] ++ S)) := by
  obtain ⟨d1, d2, d3, d4, d5, d6, d7, d8⟩ := h.drop
  obtain ⟨i, i1, i2, i3, i4⟩ := h.block
  rw [d2] at d3 d4 d5 d6 d7 d8
  have hnb : ¬ Busy (seen l) k (L20.own (seen l) k) := fun hb => by
    unfold fiE at h0; rw [if_pos h.hask, if_pos hb] at h0; omega
  rw [h.busy] at hnb
  obtain ⟨hn1, hn2⟩ := not_or.1 hnb
  obtain ⟨l1, hl1⟩ : ∃ l1, l1 = l.set (112 + k) (pk ⟨sg, false, 0⟩) := ⟨_, rfl⟩
  rw [← hl1] at d3 d4 d5 d6 d7 d8 d2
  have hlen : l1.length = l.length := by rw [hl1, List.length_set]
  have hbk : b.kind = 1 := (objs_mem.1 (List.mem_of_getElem? h.ho)).2
  obtain ⟨m, hm⟩ : ∃ m, m = becomes (allL l) i := ⟨_, rfl⟩
  have hfw : ∀ c ∈ O19 l, ∀ j, fw l1 c j = fw l c j := fun c hc j => by
    have := objs_low h.rt.al c hc
    have := h.hk
    rw [hl1]; exact fw_set (by omega)
  obtain ⟨r1, r2, r3, r4, r5⟩ := seen_free d3 (n := nn) (i := i) (b := b) (by rw [d5]; exact h.ho) (by rw [d7]; exact i2) (fun s hs hu e => by
    rw [d8] at hs
    obtain ⟨j, hj⟩ := List.getElem?_of_mem hs
    by_cases hjk : j = k
    · subst hjk
      rw [List.getElem?_set_self (by rw [slots_len' h.rt.sl]; exact h.hk)] at hj
      injection hj with hj; subst hj; cases hu
    · rw [List.getElem?_set_ne (fun e => hjk e.symm)] at hj
      exact hn1 ⟨j, s, hjk, hj, hu, by rw [e, h.hat]⟩) (fun c hc hcb j hj h3 e => by
    rw [d5] at hc
    rw [d6] at hj h3
    rw [hfw c hc j] at e
    refine hn2 ⟨c, hc, fun e2 => hcb (objs_inj h.rt.al hc (List.mem_of_getElem? h.ho) (by rw [e2, h.hat])), j, hj, h3, by rw [e, h.hat]⟩) (m := m) (by rw [hm, d7])
  obtain ⟨P, lo, hi, S', p, q', hc, e1, e2, hok, _⟩ := merge_part h.rt.al i2 hbk
  rw [← hm] at e1 e2 hok
  have hpn : m.at_.toNat = p := by omega
  rw [hpn] at r1 r2 r3
  have hfB : fiB l k sg = m := by unfold fiB; rw [h.hres, i4, hm]
  have eL : fiL l k sg = [(((112 + k : Nat) : Int), pk ⟨sg, false, 0⟩), ((p : Int), L14.word m)] := by
    have : diL l k sg = [(dropAt l k sg, dropVal l k sg)] := by unfold diL; rw [if_pos h.hask]
    rw [d1] at this
    injection this with this _
    unfold fiL
    rw [if_pos h0, ← this, hfB, e1]
  have eM : made l (fiL l k sg) = l1.set p (L14.word m) := by
    rw [eL]
    unfold made
    have s1 : put1 l (((112 + k : Nat) : Int), pk ⟨sg, false, 0⟩) = l1 := by rw [put1_set (by have := h.rt.sz.1; have := h.hk; omega), hl1]
    show put1 (put1 l _) _ = _
    rw [s1, put1_set (by have hb := hok.bounds; omega)]
  rw [eM]
  have hf : Front l1 (l1.set p (L14.word m)) := front_set (by omega)
  refine ⟨i, m, p, i2, hm, hfB, e1, by omega, hok, by rw [← hlen]; exact r5, eL, by rw [hl1], r1, ?_, by rw [hf.open_.2, d8], by rw [hf.types, d6], ?_⟩
  · rw [r2, d4]
    have ha : asked (seen l) k sg = 0 := by rw [asked_seen h.rt]; exact h.hask
    have hE : freeE (seen l) k sg = 0 := by rw [freeE_seen h.rt]; exact h0
    rw [freeM, if_pos hE, dropM, if_pos ha, h.own]
    congr 2
  · obtain ⟨P, M, S, x1, x2, x3, x4⟩ := r3
    rw [d7] at x1
    exact ⟨P, M, S, x1, x2, x3, x4⟩
end Go.Proofs.Ytiiilaojllmmiaa.L19
namespace Go.Proofs.Ytiiilaojllmmiaa.L19
open L02 L05 L06 L07 L13 L14 L15 L18
/-- words written from an address on -/
def putW (l : List UInt64) (a : Nat) : List UInt64 → List UInt64
  | [] => l
  | x :: xs => putW (l.set a x) (a + 1) xs
theorem putW_len : ∀ (xs : List UInt64) (l : List UInt64) (a : Nat), (putW l a xs).length = l.length
  | [], l, a => rfl
  | x :: xs, l, a => by rw [putW, putW_len xs]; simp
/-- blocks laid one behind the other, as far as there is room -/
def laidF (n : Nat) : List UInt64 → Nat → List Hb → List UInt64
  | l, _, [] => l
  | l, a, b :: L => if (a : Int) + b.size ≤ n then laidF n ((l.set a (L14.word b)).set (a + 1) b.next) (a + b.size.toNat) L else l
def laid (n : Nat) (L : List Hb) : List UInt64 := laidF n (List.replicate n 0) 128 L
theorem laidF_len {n : Nat} : ∀ (L : List Hb) (l : List UInt64) (a : Nat), (laidF n l a L).length = l.length
  | [], _, _ => rfl
  | b :: L, l, a => by
    rw [laidF]
    split
    · rw [laidF_len L]; simp
    · rfl
theorem laid_len (n : Nat) (L : List Hb) : (laid n L).length = n := by rw [laid, laidF_len]; simp
def freeB (n : Int) : Hb := ⟨0, n, 2, 0, false, 0⟩
def objB (t n : Int) (m : Bool) : Hb := ⟨0, n, 1, t, m, 0⟩
end Go.Proofs.Ytiiilaojllmmiaa.L19
namespace Go.Proofs.Ytiiilaojllmmiaa.L19
open L02 L05 L06 L07 L13 L14 L15 L16 L18 L20
theorem putW_eq : ∀ (m l : List UInt64) (a : Nat), a + m.length ≤ l.length → putW l a m = l.take a ++ (m ++ l.drop (a + m.length))
  | [], l, a, h => by simp [putW]
  | x :: xs, l, a, h => by
    rw [List.length_cons] at h
    rw [putW, putW_eq xs _ _ (by rw [List.length_set]; omega), List.length_cons]
    have h1 : (l.set a x).take (a + 1) = l.take a ++ [x] := by
      rw [List.take_add_one, List.take_set_of_le (Nat.le_refl a), List.getElem?_set_self (by omega)]; rfl
    have h2 : (l.set a x).drop (a + 1 + xs.length) = l.drop (a + 1 + xs.length) := by
      rw [List.drop_set_of_lt (by omega)]
    rw [h1, h2, List.append_assoc, List.cons_append, List.nil_append, show a + 1 + xs.length = a + (xs.length + 1) by omega]
    rfl
/-- an image of 256 words with one type -/
def base22 (L : List Hb) (t : List UInt8) : List UInt64 := putW (putW (putW (laid 256 L) 0 (wordsOf 256 1)) 8 (wordsOf 256 1)) 96 [w0 t, w1 t]
theorem base22_len (L : List Hb) (t : List UInt8) : (base22 L t).length = 256 := by rw [base22, putW_len, putW_len, putW_len, laid_len]
def ex23 : List UInt64 := (((base22 [objB 0 4 false, objB 0 4 false, objB 0 4 false, freeB 116] [3]).set 112 (pk ⟨1, true, 128⟩)).set 113 (pk ⟨1, true, 132⟩)).set 114 (pk ⟨1, true, 136⟩)
theorem ex23_len : ex23.length = 256 := by rw [ex23, List.length_set, List.length_set, List.length_set, base22_len]
end Go.Proofs.Ytiiilaojllmmiaa.L19
namespace Go.Proofs.Ytiiilaojllmmiaa
open Go.RowKit L01 L02 L05 L06 L07 L13 L14 L15 L18 L19
theorem fold_step {l : List UInt64} {E : List (Int × UInt64)} {j : Nat} {e : Int × UInt64} (h : E[j]? = some e) : (E.take (j + 1)).foldl put1 l = put1 ((E.take j).foldl put1 l) e := by
  rw [List.take_add_one, h, List.foldl_append]; rfl
theorem fold_len (l : List UInt64) (E : List (Int × UInt64)) : (E.foldl put1 l).length = l.length := by
  induction E generalizing l with
  | nil => rfl
  | cons e F ih => rw [List.foldl_cons, ih, put1_len]
set_option maxRecDepth 100000 in
set_option maxHeartbeats 2000000 in
theorem Made_any (v ev : Value) (l : List UInt64) (E : List (Int × UInt64)) (hl : l.length ≤ 1048576) (w : World) (h : Words w v l) (he : Ents w ev E) :
    Calls Try.prog 18 #[v, ev] w fun e w' => ∃ y, e = .returned y ∧ OwnW w' w.heap.size 25 y (made l E) ∧ Below w.heap.size w w' := by
  have B : Below w.heap.size w w := Below.refl _ _
  have H := Lib.hid h; have HE := Lib.hid he; have HL := Lib.hid hl
  have le1 := Rd.len he Try.underlying32
  have le2 := Rd.len_le he
  obtain ⟨N, hN⟩ : ∃ N, N = E.length := ⟨_, rfl⟩
  rw [← hN] at le1 le2
  obtain ⟨M, hM⟩ : ∃ M, M = l.length := ⟨_, rfl⟩
  have HN := Lib.hid hN; have HM := Lib.hid hM
  have hM1 : M ≤ 1048576 := by omega
  clear h he hl hN hM
  go_enter Try.func18, Try.ntmps18
  go_wp2_with fail
  refine (Twin_any v l _ (H.out.below B) HL.out).mono ?_
  rintro e w1 ⟨y, rfl, oy, b⟩
  replace B := B.trans (b.mono B.size)
  have HB := Lib.hid (And.intro (own_mono oy (Nat.le_refl _)) B)
  clear oy b B
  go_wp2
  go_loopg [6] N (fun g i wr => ∃ j : Nat, j ≤ N ∧ j ≤ 100 ∧ g = N - j ∧ i = .int .i64 j ∧ Hid (OwnW wr w.heap.size 25 y ((E.take j).foldl put1 l) ∧ Below w.heap.size w wr))
  case atStart => exact ⟨0, by omega, by omega, by omega, rfl, HB⟩
  case round =>
    clear HB
    obtain ⟨j, hj, hj2, rfl, rfl, hh⟩ := hrel
    obtain ⟨oy, B⟩ := hh.out
    clear hh
    by_cases hlt : j < N
    · by_cases h100 : j < 100
      · obtain ⟨b, o, s1, s2, ia, m0, m1, hs⟩ := (HE.out.below B).at_ (k := j) (by rw [← HN.out]; exact hlt)
        have ly := Rd.len oy.rd Try.underlying22
        have hlen : ((E.take j).foldl put1 l).length = M := by rw [fold_len, HM.out]
        rw [hlen] at ly
        have hst := fold_step (l := l) hs.out
        by_cases h0 : 0 ≤ s1
        · by_cases h1 : s1 < M
          · obtain ⟨ad, u0, ia2, ca, fa, hb, -, hset⟩ := own_at (P := Try.prog) oy Try.underlying22 one_u64 (k := s1) h0 (by rw [hlen]; exact h1)
            have HR := Lib.hid (show OwnW (wr.setCell ad (.int .u64 s2.toNat)) w.heap.size 25 y ((E.take (j + 1)).foldl put1 l) ∧ Below w.heap.size w (wr.setCell ad (.int .u64 s2.toNat)) from by
              refine ⟨?_, B.setCell (p := ad) hb _⟩
              rw [hst, put1, if_pos ⟨h0, by rw [hlen]; exact h1⟩]
              exact OwnW.set (hset (.int .u64 s2.toNat)))
            have g1 : decide (s1 < (M : Int)) = true := decide_eq_true h1
            have g0 : decide (0 ≤ s1) = true := decide_eq_true h0
            clear oy hlen hst hset hs hb B
            go_upto_region 6 with (fail)
            refine wp_region_qtail 12 (by kernel_rfl) (by kernel_rfl) ?_
            simp only [List.take_succ_cons, List.take_zero, List.drop_succ_cons, List.drop_zero]
            iterate 12 (go_big_quiet_step (fail))
            refine wpQuiet_nil ?_
            go_wp2
            go_roundg (N - (j + 1))
            case measure => omega
            case rel => exact ⟨j + 1, by omega, by omega, rfl, by go_num, Lib.hid ⟨HR.out.1, HR.out.2.drew⟩⟩
          · have HR := Lib.hid (show OwnW wr w.heap.size 25 y ((E.take (j + 1)).foldl put1 l) ∧ Below w.heap.size w wr from by
              refine ⟨?_, B⟩
              rw [hst, put1, if_neg (fun h => h1 (by have h9 : s1 < _ := h.2; rw [hlen] at h9; exact h9))]
              exact oy)
            clear oy hlen hst hs B
            go_wp2
            go_roundg (N - (j + 1))
            case measure => omega
            case rel => exact ⟨j + 1, by omega, by omega, rfl, by go_num, HR⟩
        · have HR := Lib.hid (show OwnW wr w.heap.size 25 y ((E.take (j + 1)).foldl put1 l) ∧ Below w.heap.size w wr from by
            refine ⟨?_, B⟩
            rw [hst, put1, if_neg (fun h => h0 h.1)]
            exact oy)
          clear oy hlen hst hs B
          go_wp2
          go_roundg (N - (j + 1))
          case measure => omega
          case rel => exact ⟨j + 1, by omega, by omega, rfl, by go_num, HR⟩
      · obtain rfl : j = 100 := by omega
        have HR := Lib.hid (show OwnW wr w.heap.size 25 y (made l E) ∧ Below w.heap.size w wr from ⟨oy, B⟩)
        clear oy B
        go_wp2
        go_ret
        exact ⟨_, rfl, HR.out⟩
    · have e1 : E.take j = E.take 100 := by
        rw [List.take_of_length_le (by rw [← HN.out]; omega), List.take_of_length_le (by rw [← HN.out]; omega)]
      rw [e1] at oy
      have HR := Lib.hid (show OwnW wr w.heap.size 25 y (made l E) ∧ Below w.heap.size w wr from ⟨oy, B⟩)
      obtain rfl : j = N := by omega
      clear oy B e1
      go_wp2
      go_ret
      exact ⟨_, rfl, HR.out⟩
end Go.Proofs.Ytiiilaojllmmiaa
namespace Go.Proofs.Ytiiilaojllmmiaa
open Go.RowKit L01 L02 L05 L14 L15
/-- a word of a slice of the call's own -/
theorem OwnW.at_ {w : World} {base : Nat} {v : Value} {l : List UInt64} (h : OwnW w base 25 v l) {k : Nat} (hk : k < l.length) :
    ∃ ad, (∀ W, (Instr.indexAt 22 v (.int .i64 (k : Int))).run Try.prog W = .ok (.pointer (some ad)) W) ∧ w.cell? ad = some (.int .u64 (l.getD k 0).toNat) ∧ w.frozen? ad = false ∧ base ≤ ad.block ∧ v.ownBlock = some ad.block ∧ ∀ x : UInt64, OwnW (w.setCell ad (.int .u64 x.toNat)) base 25 v (l.set k x) := by
  obtain ⟨g, cap, cur, rfl, hB, hg, hnc, hcm, hcs, htake⟩ := own_form h (by omega)
  have hrd := Rd.of_own h
  have hix := fun W => Rd.ixN hrd Try.underlying22 one_u64 hk W
  have hcell := Rd.cell hrd (j := k) (u := .int .u64 (l.getD k 0).toNat) (by rw [List.getElem?_map, List.getElem?_eq_getElem hk, List.getD_eq_getElem?_getD, List.getElem?_eq_getElem hk]; rfl)
  have e1 : cellAt (.slice (some ⟨g, 0, none⟩) l.length cap) (k * 1) = ⟨g, k, none⟩ := by simp [cellAt]
  have e2 : cellAt (.slice (some ⟨g, 0, none⟩) l.length cap) k = ⟨g, k, none⟩ := by simp [cellAt]
  rw [e2] at hcell
  exact ⟨⟨g, k, none⟩, fun W => by rw [← e1]; exact hix W, hcell, World.ownsRow.frozenAt h k, hB, rfl, fun x => OwnW.set (World.ownsRow.stored h k _).1⟩
set_option maxRecDepth 100000 in
set_option maxHeartbeats 1000000 in
theorem LaidR_any (n : Nat) (v : Value) (L : List Hb) (hL : ∀ b ∈ L, BkOk b) (hl : L.length ≤ 1000) (hn : n ≤ 100000) (w : World) (h : Blks w v L) :
    Calls Try.prog 56 #[.int .i64 n, v] w fun e w' => ∃ x, e = .returned x ∧ OwnW w' w.heap.size 25 x (L19.laid n L) ∧ Below w.heap.size w w' := by
  have B : Below w.heap.size w w := Below.refl _ _
  have H := Lib.hid h; have HL := Lib.hid hL
  have lx := h.len
  obtain ⟨N, hN⟩ : ∃ N, N = L.length := ⟨_, rfl⟩
  rw [← hN] at lx hl
  have HN := Lib.hid hN
  clear h hL hN
  go_enter Try.func56, Try.ntmps56
  go_upto_region 2 with (at_make; refine wpList_makeI (by rfl) rfl (by rfl) (by rfl) Try.underlying22 info_u64 rfl (by omega) (by omega) (by omega) B (Nat.le_refl _) ?_; intro vS wb oS bS bS2)
  have o0 : OwnW wb w.heap.size 25 vS (List.replicate n 0) := OwnW.of oS (by rw [List.map_replicate]; rfl)
  have HO := Lib.hid (And.intro o0 bS)
  clear o0 oS bS bS2 B
  go_wp2
  go_loopg [6, 7] N (fun g av i wr => ∃ (a j : Nat) (l : List UInt64), j ≤ N ∧ a ≤ 2000000 ∧ g = N - j ∧ i = .int .i64 j ∧ av = .int .i64 a ∧ Hid (OwnW wr w.heap.size 25 vS l ∧ Below w.heap.size w wr ∧ L19.laidF n l a (L.drop j) = L19.laid n L ∧ l.length = n))
  case atStart => exact ⟨128, 0, List.replicate n 0, by omega, by omega, by omega, rfl, rfl, Lib.hid ⟨HO.out.1, HO.out.2, rfl, by simp⟩⟩
  case round =>
    obtain ⟨a, j, l, hj, ha, rfl, rfl, rfl, hh⟩ := hrel
    clear HO
    have o1 := hh.out.1
    have B := hh.out.2.1
    have hB0 := B.size
    by_cases hlt : j < N
    · obtain ⟨bb, oo, b, ia, m0, m1, m2, m3, m4, m5, hb, _⟩ := (Blks.below H.out B).at_ (k := j) (by rw [← HN.out]; exact hlt)
      have hbk := HL.out b (List.mem_of_getElem? hb.out)
      have hbd := hbk.bounds
      have hdr : L.drop j = b :: L.drop (j + 1) := List.drop_eq_getElem?_toList_append.trans (by rw [hb.out]; rfl)
      have hst := hh.out.2.2.1
      rw [hdr, L19.laidF] at hst
      have g1 : decide ((j : Int) < 1000) = true := decide_eq_true (by omega)
      have g2 : decide (j < 1000) = true := decide_eq_true (by omega)
      have g3 : decide ((j : Int) < (N : Int)) = true := decide_eq_true (by omega)
      have g4 : decide (j < N) = true := decide_eq_true hlt
      have hwa : IntKind.i64.wrap ((a : Int) + b.size) = (a : Int) + b.size := IntWalk.i64_in _ (by omega)
      by_cases hfit : (a : Int) + b.size ≤ n
      · rw [if_pos hfit] at hst
        have g5 : decide ((a : Int) + b.size ≤ (n : Int)) = true := decide_eq_true hfit
        obtain ⟨x, hx⟩ : ∃ x, x = L14.word b := ⟨_, rfl⟩
        have OT := Lib.hid (fun w => OfHR_any b hbk x hx w)
        rw [← hx] at hst
        have hln : l.length = n := hh.out.2.2.2
        have hw1 : IntKind.i64.wrap ((a : Int) + 1) = (a : Int) + 1 := IntWalk.i64_in _ (by omega)
        have HZ := Lib.hid (And.intro hst hln)
        have hbn : b.size.toNat ≤ 1920 := by omega
        have hfn : a + 2 ≤ n := by omega
        have HB := Lib.hid hb.out
        have HFN := Lib.hid (show a + b.size.toNat ≤ n ∧ 0 ≤ b.size by omega)
        clear hst hx hbk hdr hb hfit hbd
        go_wp2_with fail
        refine (OT.out _).mono ?_
        rintro e wa1 ⟨rfl, b⟩
        replace o1 := o1.below b; replace B := B.trans (b.mono B.size); clear b
        obtain ⟨ad, ia1, ca, fa, hb1, -, hst1⟩ := o1.at_ (k := a) (by rw [HZ.out.2]; omega)
        go_upto_region 7 with (fail)
        refine wp_gen (fun V => OwnW V w.heap.size 25 vS (l.set a x) ∧ Below w.heap.size w V) ⟨hst1 x, B.setCell (p := ad) hb1 _⟩ ?_
        clear o1 B ia1 ca fa hb1 hst1 ia m0 m1 m2 m3 m4 m5
        rintro V2 ⟨o2, B⟩
        obtain ⟨bb, oo, b2, ia, m0, m1, m2, m3, m4, m5, hb, _⟩ := (Blks.below H.out B).at_ (k := j) (by rw [← HN.out]; exact hlt)
        obtain rfl : b2 = b := by have := hb.out; rw [HB.out] at this; injection this with this; exact this.symm
        obtain ⟨ad, ia1, ca, fa, hb1, -, hst1⟩ := o2.at_ (k := a + 1) (by rw [List.length_set, HZ.out.2]; omega)
        clear hb
        have ia2 : ∀ W, (Instr.indexAt 22 vS (.int .i64 ((a : Int) + 1))).run Try.prog W = .ok (.pointer (some ad)) W := ia1
        clear ia1
        go_upto_region 8 with (fail)
        refine wp_gen (fun V => OwnW V w.heap.size 25 vS ((l.set a x).set (a + 1) b2.next) ∧ Below w.heap.size w V) ⟨hst1 b2.next, B.setCell (p := ad) hb1 _⟩ ?_
        clear o2 B ia2 ca fa hb1 hst1 ia m0 m1 m2 m3 m4 m5
        rintro V3 ⟨o3, B⟩
        obtain ⟨bb, oo, b3, ia, m0, m1, m2, m3, m4, m5, hb, _⟩ := (Blks.below H.out B).at_ (k := j) (by rw [← HN.out]; exact hlt)
        obtain rfl : b3 = b2 := by have := hb.out; rw [HB.out] at this; injection this with this; exact this.symm
        clear hb
        have HG := Lib.hid (And.intro o3 (And.intro B (And.intro HZ.out.1 (show ((l.set a x).set (a + 1) b3.next).length = n by rw [List.length_set, List.length_set]; exact HZ.out.2))))
        go_wp2
        go_roundg (N - (j + 1))
        case measure => omega
        case rel => exact ⟨a + b3.size.toNat, j + 1, _, by omega, by have := HFN.out; omega, rfl, by go_num, (by have := HFN.out; congr 1; omega), HG⟩
      · rw [if_neg hfit] at hst
        have g5 : decide ((a : Int) + b.size ≤ (n : Int)) = false := decide_eq_false hfit
        have HZ := Lib.hid hst
        clear hst hbk hdr hb hfit hbd
        go_wp2
        go_ret
        exact ⟨_, rfl, by rw [← HZ.out]; exact o1, B⟩
    · obtain rfl : j = N := by omega
      have hst := hh.out.2.2.1
      rw [HN.out, List.drop_length, L19.laidF] at hst
      have g3 : decide ((j : Int) < (j : Int)) = false := decide_eq_false (by omega)
      have HZ := Lib.hid hst
      clear hst
      go_wp2
      go_ret
      exact ⟨_, rfl, by rw [← HZ.out]; exact o1, B⟩
end Go.Proofs.Ytiiilaojllmmiaa
namespace Go.Proofs.Ytiiilaojllmmiaa
open Go.RowKit L01 L02 L05 L06 L07 L13 L14 L15 L18 L19
/-- a part of a row of the call's own -/
theorem own_cut2 {P : Program} {w : World} {v : Value} {n B e t : Nat} {xs : List Value} (h : w.ownsRow B e 1 v n xs) (ht : P.underlying t = some (.slice e)) (hs : (P.info? e).map (·.size) = some 1) {lo hi : Nat} (h1 : lo < hi) (h2 : hi ≤ n) :
    ∃ dv, (∀ W, (Instr.sliceAt t v (some (.int .i64 (lo : Int))) (some (.int .i64 (hi : Int))) none).run P W = .ok dv W) ∧ CutOf v lo (hi - lo) dv := by
  obtain ⟨dv, r1, _, _, _, A, c, r3, r4⟩ := Rd.cutN (Rd.of_own h) ht hs (lo := lo) (hi := hi) (by omega) h2
  refine ⟨dv, r1, A, n, c, r3, by omega, ?_, by simpa using r4⟩
  rcases h.2 with ⟨h, h'⟩ | ⟨g, cap, cur, h, _, _, hc, _⟩
  · omega
  · rw [r3] at h; simp at h; omega
theorem splice_putW {l m : List UInt64} {a : Nat} (h : a + m.length ≤ l.length) : splice (l.map u64) a (m.map u64) = (putW l a m).map u64 := by
  rw [putW_eq _ _ _ h]
  unfold splice
  rw [List.map_append, List.map_append, List.map_take, List.map_drop, List.length_map]
/-- words copied into a part of an image of the call's own -/
theorem copyW {w w0 : World} {v sv dv : Value} {l m : List UInt64} {a k n B : Nat} (o : OwnW w B 25 v l) (hcut : CutOf v a k dv) (hs : Rd w 1 sv n (m.map u64)) (hk : k = m.length) (hle : a + k ≤ l.length) (hb : Below B w0 w) (hB : B ≤ w0.heap.size) :
    ∃ w' x, (Builtin.copy_ #[22, 22] 3 #[dv, sv]).run Try.prog w = .ok x w' ∧ OwnW w' B 25 v (putW l a m) ∧ Below B w0 w' ∧ w.grownBy w' v.ownBlock := by
  obtain ⟨w', hrun, h2, h3⟩ := run_copy_own (P := Try.prog) (sT := 22) (ty := 3) Try.underlying22 one_u64 o hcut hs (one_u64s _)
  refine ⟨w', _, hrun, OwnW.of h2 ?_, hb.grown h3 (Nat.le_trans hB hb.size) fun k hk => (o.lt k hk).1, h3⟩
  rw [List.take_of_length_le (by rw [List.length_map]; omega), splice_putW (by omega)]
theorem lit_blocks {w : World} {cs : Array Value} {n c : Nat} (L : List Hb) (hn : w.heap.size = n) (hc : cs.toList = tabB L) (hl : c = L.length) (hm : L.length ≤ 1000) : Blks (w.alloc (.cells cs 74)) (.slice (some ⟨n, 0, none⟩) c c) L := by
  subst hn; subst hl
  unfold Blks
  rw [← hc]
  exact lit_rdK (by rw [← Array.length_toList, hc, tabB_len]) (by omega)
theorem arr_words {w : World} {g : Nat} {t : TypeId} {a b : UInt64} (h : Bx w g t #[.int .u64 a.toNat, .int .u64 b.toNat]) : Rd w 1 (.slice (some ⟨g, 0, none⟩) 2 2) 2 ([a, b].map u64) :=
  part_words (w := w) (g := g) (n := 2) (c := 2) (cs := #[.int .u64 a.toNat, .int .u64 b.toNat]) [a, b] h rfl rfl rfl (by show 2 ≤ 1048576; omega)
theorem wO_len (W T : Int) : (wordsOf W T).length = 8 := by simp [wordsOf, body]
end Go.Proofs.Ytiiilaojllmmiaa
namespace Go.Proofs.Ytiiilaojllmmiaa
open Go Go.RowKit
section
variable {P : Program} {ops : Array Oper} {md : Region.Mode} {C : Array Bool → World → Prop} {nn : Nat → Bool} {x : Nat → Value} {T : Nat → Sem Next → Prop}
def wpAnyH (P : Program) (md : Region.Mode) (ops : Array Oper) (C : Array Bool → World → Prop) (nn : Nat → Bool) (x : Nat → Value) (T : Nat → Sem Next → Prop) (n : Nat) (L : Array Bool → Act → Prop) : Nat → Array Bool → Act → Prop
  | 0, listed, a => L listed a
  | f + 1, listed, a =>
    Region.ready md ops listed ≠ [] ∧ ∀ i ∈ Region.ready md ops listed, i < n ∧ qOpM P md ops C nn x T i (wpAnyH P md ops C nn x T n L f (listed.setIfInBounds i true)) a
theorem wpAnyH_first {n i : Nat} {oi : Oper} {v : Value} {L : Array Bool → Act → Prop} (hi : ops[i]? = some oi) (hsel : ∀ (j : Nat) (o : Oper) cs b, ops[j]? = some o → o.op ≠ .select cs b)
    (hs : Region.sinkB md ops n = true) (hc : Region.chainB md ops n = true) (hn : n < ops.size) (hin : i < n)
    (hdone : ∀ listed a, L listed a → ∀ j ∈ Region.ready md ops listed, n ≤ j) :
    ∀ (f : Nat) (listed : Array Bool) (a : Act), HeadInv md ops n listed →
      (∀ j oj, ops[j]? = some oj → j ≠ i → listed.getD j true = false → (∀ e ∈ oj.after, Region.binds md e = true → e.on ≠ i) → oi.apart ops oj = true) →
      i ∈ Region.ready md ops listed → YieldsM P md ops C nn x i oi v a ∧ (nn i = true → T i (execOp a.eval oi)) →
      wpAnyH P md ops C nn x T n L f (listed.setIfInBounds i true) (a.put oi.dst v) → wpAnyH P md ops C nn x T n L (f + 1) listed a := by
  intro f
  induction f with
  | zero =>
    intro listed a inv _ hr hy H
    have hun := (mem_ready.1 hr).1
    refine ⟨fun h => (by rw [h] at hr; cases hr), fun j hj => ?_⟩
    have hjn : j < n := by
      rcases Nat.lt_or_ge j n with h | h
      · exact h
      · exact absurd hj (tail_waits hs hc hn inv _ i rfl hin hun j h)
    refine ⟨hjn, ?_⟩
    by_cases hji : j = i
    · subst hji; unfold qOpM; simp only [hi]; exact ⟨v, hy, H⟩
    · have := hdone _ _ H j (ready_mono hj hji)
      omega
  | succ f ih =>
    intro listed a inv hfree hr hy H
    have hun := (mem_ready.1 hr).1
    refine ⟨fun h => (by rw [h] at hr; cases hr), fun j hj => ?_⟩
    have hjn : j < n := by
      rcases Nat.lt_or_ge j n with h | h
      · exact h
      · exact absurd hj (tail_waits hs hc hn inv _ i rfl hin hun j h)
    refine ⟨hjn, ?_⟩
    by_cases hji : j = i
    · subst hji; unfold qOpM; simp only [hi]; exact ⟨v, hy, H⟩
    · have h1 := (H.2 j (ready_mono hj hji)).2
      obtain ⟨hjun, oj, hoj, hall⟩ := mem_ready.1 hj
      have hnot : ∀ e ∈ oj.after, Region.binds md e = true → e.on ≠ i := fun e he hb heq => by
        have h1 := hall e he hb
        rw [heq, getD_both hun] at h1
        cases h1
      have h2 := qOpM_put hoj (hfree j oj hoj hji hjun hnot) (fun cs b => hsel i oi cs b hi) (fun cs b => hsel j oj cs b hoj) hy h1
      have hfree' : ∀ k ok, ops[k]? = some ok → k ≠ i → (listed.setIfInBounds j true).getD k true = false →
          (∀ e ∈ ok.after, Region.binds md e = true → e.on ≠ i) → oi.apart ops ok = true := fun k ok hk hki hun hno => by
        refine hfree k ok hk hki ?_ hno
        by_cases hjk : j = k
        · subst hjk; exact hjun
        · rw [getD_set_ne true hjk] at hun; exact hun
      refine qOpM_mono (fun a' h3 => ih (listed.setIfInBounds j true) a' (inv.set hj hjn) hfree' (ready_mono hr (Ne.symm hji)) h3.1 ?_) h2
      rw [Array.setIfInBounds_comm _ _ hji]
      exact h3.2
theorem wpAnyH_lex {n g : Nat} {Lq : Act → Prop} (hsel : Region.noSelect ops = true) (hs : Region.sinkB md ops n = true) (hc : Region.chainB md ops n = true) (hn : n < ops.size) :
    ∀ (l : List Oper) (k : Nat) (listed : Array Bool) (a : Act), (∀ j, j < l.length → l[j]? = ops[k + j]?) → k + l.length = n → HeadInv md ops n listed → (∀ j, j < k → listed.getD j false = true) →
    Region.lexHead md ops g l.length k listed = true → wpM P md ops C nn x T Lq l k a →
    wpAnyH P md ops C nn x T n (fun listed' a' => Region.seqB md ops g n listed' = true ∧ (∀ j, j < n → listed'.getD j false = true) ∧ Lq a') l.length listed a
  | [], k, listed, a, _, hk, _, hd, hB, h => by
    have : k = n := by simpa using hk
    subst this
    exact ⟨by simpa [Region.lexHead] using hB, hd, h⟩
  | o :: l, k, listed, a, hl, hk, inv, hd, hB, h => by
    have h0 : ops[k]? = some o := by simpa using (hl 0 (by simp)).symm
    simp only [List.length_cons, Region.lexHead, Bool.and_eq_true] at hB
    obtain ⟨⟨hr, hf⟩, hB'⟩ := hB
    have hkn : k < n := by simp only [List.length_cons] at hk; omega
    have hr' : k ∈ Region.ready md ops listed := by simpa using hr
    obtain ⟨v, hy, hK⟩ := h
    have hun := (mem_ready.1 hr').1
    exact wpAnyH_first h0 (Region.noSelect_spec hsel) hs hc hn hkn (fun listed' a' hL => seqB_ready hL.1) l.length listed a inv (Region.free_spec h0 hf) hr' hy
      (wpAnyH_lex hsel hs hc hn l (k + 1) _ _ (fun j hj => by have := hl (j + 1) (by simp; omega); simpa [Nat.add_assoc, Nat.add_comm 1 j] using this) (by simp only [List.length_cons] at hk; omega) (inv.set hr' hkn) (fun j hj => by
        by_cases hjk : j = k
        · subst hjk; exact (getD_on hun).2
        · rw [getD_set_ne false (Ne.symm hjk)]; exact hd j (by omega)) hB' hK)
theorem wpAny_of_H {G : Type} {val : G → Nat → Value} {V : G → Prop} {Ag : Array Bool → G → G → Prop} {Cg : G → Array Bool → World → Prop} {Tg : G → Nat → Sem Next → Prop} {Q' : Exit → Act → World → Prop} {n gt : Nat} {L : G → Array Bool → Act → Prop}
    (hL : ∀ g l a w, Cg g l w → L g l a → wpAny P md ops Q' gt l a w)
    (hrf : ∀ (l : Array Bool) g, Ag l g g) (htr : ∀ (l : Array Bool) g g' g'', Ag l g g' → Ag l g' g'' → Ag l g g'') (hmn : ∀ (l : Array Bool) i g g', Ag (l.setIfInBounds i true) g g' → l.getD i true = false → Ag l g g')
    (hvl : ∀ (l : Array Bool) i g g', nn i = true → l.getD i true = false → Ag (l.setIfInBounds i true) g g' → val g i = val g' i) (hag : ∀ (l : Array Bool) g g' w, Ag l g g' → Cg g l w → Cg g' l w)
    (hT : ∀ i s (l : Array Bool) w g, nn i = true → Tg g i s → V g → i ∈ Region.ready md ops l → Cg g l w → uponN P (fun v w' => ∃ g', V g' ∧ Ag l g g' ∧ v = val g' i ∧ Cg g' (l.setIfInBounds i true) w') (s.run P w)) :
    ∀ (fuel : Nat) (l : Array Bool) (a : Act) (w : World) (g0 : G), V g0 → Cg g0 l w →
    (∀ g, V g → Ag l g0 g → wpAnyH P md ops (Cg g) nn (val g) (Tg g) n (L g) fuel l a) → wpAny P md ops Q' (fuel + gt) l a w
  | 0, l, a, w, g0, hg0, hC, h => by rw [Nat.zero_add]; exact hL g0 l a w hC (h g0 hg0 (hrf _ _))
  | fuel + 1, l, a, w, g0, hg0, hC, h => by
    rw [show fuel + 1 + gt = (fuel + gt) + 1 by omega]
    refine ⟨fun h0 => absurd h0 (h g0 hg0 (hrf _ _)).1, fun i hi => ?_⟩
    have hun := (mem_ready.1 hi).1
    have h1 := ((h g0 hg0 (hrf _ _)).2 i hi).2
    unfold qOpM at h1
    unfold wpOp
    split
    · rename_i ho; simp only [ho] at h1
    · rename_i o ho
      simp only [ho] at h1
      obtain ⟨v, ⟨h2, hT0⟩, h3⟩ := h1
      have next : nn i = true → ∀ g', V g' → Ag l g0 g' → ∀ w', Cg g' (l.setIfInBounds i true) w' → wpAny P md ops Q' (fuel + gt) (l.setIfInBounds i true) (a.put o.dst (val g' i)) w' := by
        intro hn g' hg' hA w' hC'
        refine wpAny_of_H (n := n) hL hrf htr hmn hvl hag hT fuel _ _ w' g' hg' hC' fun g hg hA2 => ?_
        have h4 := ((h g hg (htr _ _ _ _ hA (hmn _ _ _ _ hA2 hun))).2 i hi).2
        unfold qOpM at h4
        simp only [ho] at h4
        obtain ⟨v', ⟨h5, _⟩, h6⟩ := h4
        rcases h5 with ⟨_, e5, _⟩ | ⟨hne, _⟩
        · rw [hvl _ _ _ _ hn hun hA2, ← e5]; exact h6
        · rw [hn] at hne; cases hne
      rcases h2 with ⟨hn, hv, hw⟩ | ⟨hn, h2⟩
      · rw [if_pos hw]
        left
        have h5 := hT i _ l w g0 hn (hT0 hn) hg0 hi hC
        unfold Oper.wp
        generalize (execOp a.eval o).run P w = r at *
        cases r with
        | ok n w' =>
          cases n <;> simp only [uponN] at h5 <;> simp only [Oper.upon]
          case value u => obtain ⟨g', e1, e2, rfl, e4⟩ := h5; exact next hn g' e1 e2 _ e4
          case enter f args =>
            refine h5.mono fun e w'' ⟨u, he, g', e1, e2, e3, e4⟩ => ?_
            subst he; subst e3
            exact next hn g' e1 e2 _ e4
        | halt y w' => simp only [uponN] at h5
      · have hval : ∀ g, V g → Ag (l.setIfInBounds i true) g0 g → wpAnyH P md ops (Cg g) nn (val g) (Tg g) n (L g) fuel (l.setIfInBounds i true) (a.put o.dst v) := by
          intro g hg hA2
          have hA := hmn _ _ _ _ hA2 hun
          have h4 := ((h g hg hA).2 i hi).2
          unfold qOpM at h4
          simp only [ho] at h4
          obtain ⟨v', ⟨h5, _⟩, h6⟩ := h4
          rcases h5 with ⟨e, _⟩ | ⟨_, h5⟩
          · rw [hn] at e; cases e
          · have hvv : v = v' := by
              rcases h2 with ⟨hw, ha⟩ | ⟨hw, rfl, _⟩
              · rcases h5 with ⟨_, hb⟩ | ⟨hw', _⟩
                · exact uponV_val (ha l w hi hC) (hb l w hi (hag _ _ _ _ hA hC))
                · rw [hw] at hw'; cases hw'
              · rcases h5 with ⟨hw', _⟩ | ⟨_, e, _⟩
                · rw [hw] at hw'; cases hw'
                · exact e.symm
            rw [hvv]; exact h6
        rcases h2 with ⟨hw, ha⟩ | ⟨hw, rfl, hv⟩
        · rw [if_pos hw]
          left
          have h5 := ha l w hi hC
          unfold Oper.wp
          generalize (execOp a.eval o).run P w = r at *
          cases r with
          | ok n w' =>
            cases n <;> simp only [uponV] at h5 <;> simp only [Oper.upon]
            case value u => obtain ⟨e1, e2⟩ := h5; rw [e1]; exact wpAny_of_H (n := n) hL hrf htr hmn hvl hag hT fuel _ _ w' g0 hg0 e2 hval
            case skip => obtain ⟨e1, e2⟩ := h5; rw [← e1]; exact wpAny_of_H (n := n) hL hrf htr hmn hvl hag hT fuel _ _ w' g0 hg0 e2 hval
          | halt y w' => simp only [uponV] at h5
        · rw [if_neg (by rw [hw]; exact Bool.false_ne_true)]
          exact wpAny_of_H (n := n) hL hrf htr hmn hvl hag hT fuel _ _ w g0 hg0 (hv l w hi hC) hval
end
/-- a world behind w, of which p holds besides -/
structure FutP (w : World) (p : World → Prop) where
  W : World
  h : Below w.heap.size w W
  hp : p W
/-- what holds at the head: no old block is changed; of the operations ns that are done, what is known of their values -/
def CH (w : World) (ns : List Nat) (dep : Nat → List Nat) (Φ : Nat → (Nat → Value) → World → Prop) (g : Nat → Value) : Array Bool → World → Prop := fun listed W =>
  Below w.heap.size w W ∧ ∀ k ∈ ns, listed.getD k false = true → Φ k g W ∧ ∀ j ∈ dep k, listed.getD j false = true
section
variable {P : Program} {ops : Array Oper} {rest : List Oper} {o : Oper} {a : Act} {Q : Act → Prop} {k : Nat} {md : Region.Mode} {T : Nat → Sem Next → Prop} {w : World} {ns : List Nat} {dep : Nat → List Nat} {Φ : Nat → (Nat → Value) → World → Prop} {g : Nat → Value}
theorem wpH_nil {C : Array Bool → World → Prop} {nn : Nat → Bool} {x : Nat → Value} (h : Q a) : wpM P md ops C nn x T Q [] k a := h
/-- an operation that only reads what was there before -/
theorem wpH_read0 (hV : isV o.op = true) (hn : (ns.contains k) = false)
    (h : wpQuiet P ops (fun W => ∃ x : Fut w, W = x.W) (fun a' => wpM P md ops (CH w ns dep Φ g) (fun i => ns.contains i) g T Q rest (k + 1) a') [o] a) : wpM P md ops (CH w ns dep Φ g) (fun i => ns.contains i) g T Q (o :: rest) k a := by
  have skip : ∀ {listed : Array Bool} {W : World}, CH w ns dep Φ g listed W → CH w ns dep Φ g (listed.setIfInBounds k true) W := fun {listed W} hW => by
    refine ⟨hW.1, fun j hj hl => ?_⟩
    have hjk : k ≠ j := fun e => by subst e; rw [List.contains_iff_mem.2 hj] at hn; cases hn
    rw [getD_set_ne false hjk] at hl
    obtain ⟨h1, h2⟩ := hW.2 j hj hl
    exact ⟨h1, fun i hi => getD_set_true (h2 i hi)⟩
  unfold wpQuiet at h
  split at h
  · rename_i hw
    obtain ⟨v, h1, h2⟩ := h
    refine ⟨v, ⟨.inr ⟨hn, .inl ⟨hw, fun listed W hl hW => ?_⟩⟩, fun e => (by have e' : ns.contains k = true := e; rw [hn] at e'; cases e')⟩, h2⟩
    have h3 := h1 W ⟨⟨W, hW.1⟩, rfl⟩
    unfold Oper.quietAt at h3
    cases hr : (execOp a.eval o).run P W with
    | ok n w' =>
      obtain ⟨u, rfl⟩ := isV_value hV hr
      rw [hr] at h3
      simp only [Oper.quietUpon] at h3
      simp only [uponV]
      obtain ⟨e1, e2⟩ := h3
      subst e1
      exact ⟨e2, skip hW⟩
    | halt x w' => rw [hr] at h3; simp only [Oper.quietUpon] at h3
  · rename_i hw
    exact ⟨undef, ⟨.inr ⟨hn, .inr ⟨by simpa using hw, rfl, fun listed W hl hW => skip hW⟩⟩, fun e => (by have e' : ns.contains k = true := e; rw [hn] at e'; cases e')⟩, h⟩
/-- an operation that makes fresh memory -/
theorem wpH_new (hn : ns.contains k = true) (hw : Region.wanted o (yielded ops a.tmps) = true) (hT : T k (execOp a.eval o)) (h : wpM P md ops (CH w ns dep Φ g) (fun i => ns.contains i) g T Q rest (k + 1) (a.put o.dst (g k))) : wpM P md ops (CH w ns dep Φ g) (fun i => ns.contains i) g T Q (o :: rest) k a :=
  ⟨g k, ⟨.inl ⟨hn, rfl, hw⟩, fun _ => hT⟩, h⟩
end
/-- what a fresh operation does: no old block is changed; its value is of the shape V, and Φ is known of it -/
def TS (P : Program) (w : World) (dep : Nat → List Nat) (V : Nat → Value → Prop) (Φ : Nat → (Nat → Value) → World → Prop) (g : Nat → Value) (k : Nat) (s : Sem Next) : Prop :=
  ∀ W, Below w.heap.size w W → (∀ j ∈ dep k, Φ j g W) → uponN P (fun v W' => V k v ∧ Below W.heap.size W W' ∧ ∀ g', g' k = v → (∀ j ∈ dep k, g' j = g j) → Φ k g' W') (s.run P W)
section
variable {P : Program} {w : World} {dep : Nat → List Nat} {V : Nat → Value → Prop} {Φ : Nat → (Nat → Value) → World → Prop} {g : Nat → Value} {k : Nat} {o : Oper} {a : Act}
/-- a call -/
theorem TS.call {f : FuncId} {xs : Array Operand} {ats : Array TypeId} {dst : Option Tmp} {ty : TypeId} {pos : String} {after : Array Edge} {gd : Option (Nat × Bool)} {av : Array Value} (hav : xs.map a.eval = av) (hf : ∀ W, (callFunc f (#[] ++ av ++ #[])).run P W = .ok (.enter f av) W)
    (h : ∀ W, Below w.heap.size w W → (∀ j ∈ dep k, Φ j g W) → Calls P f av W fun e W' => ∃ v, e = .returned v ∧ V k v ∧ Below W.heap.size W W' ∧ ∀ g', g' k = v → (∀ j ∈ dep k, g' j = g j) → Φ k g' W') :
    TS P w dep V Φ g k (execOp a.eval ⟨dst, .call ⟨.value (.func f), xs, ats⟩, ty, pos, after, gd⟩) := by
  intro W hW hd
  rw [execOp_call_go, hav, hf]
  exact h W hW hd
/-- what yields a value -/
theorem TS.val {s : Sem Next} (h : ∀ W, Below w.heap.size w W → (∀ j ∈ dep k, Φ j g W) → ∃ v W', s.run P W = .ok (.value v) W' ∧ V k v ∧ Below W.heap.size W W' ∧ ∀ g', g' k = v → (∀ j ∈ dep k, g' j = g j) → Φ k g' W') : TS P w dep V Φ g k s := by
  intro W hW hd
  obtain ⟨v, W', h1, h2⟩ := h W hW hd
  rw [h1]; exact h2
/-- a slice is made -/
theorem TS.make {t : TypeId} {l c : Operand} (ho : o.op = .makeSlice t l c) {lv cv : Value} (hl : a.eval l = lv) (hc : a.eval c = cv)
    (h : ∀ W, Below w.heap.size w W → (∀ j ∈ dep k, Φ j g W) → ∃ v W', (Instr.makeSlice t lv cv).run P W = .ok v W' ∧ V k v ∧ Below W.heap.size W W' ∧ ∀ g', g' k = v → (∀ j ∈ dep k, g' j = g j) → Φ k g' W') : TS P w dep V Φ g k (execOp a.eval o) := by
  refine TS.val fun W hW hd => ?_
  obtain ⟨v, W', h1, h2⟩ := h W hW hd
  refine ⟨v, W', ?_, h2⟩
  simp [execOp, ho, hl, hc, h1]
/-- what is run for a value -/
theorem TS.sem {s : Sem Value} (hs : execOp a.eval o = (do pure (Next.value (← s)))) (h : ∀ W, Below w.heap.size w W → (∀ j ∈ dep k, Φ j g W) → ∃ v W', s.run P W = .ok v W' ∧ V k v ∧ Below W.heap.size W W' ∧ ∀ g', g' k = v → (∀ j ∈ dep k, g' j = g j) → Φ k g' W') : TS P w dep V Φ g k (execOp a.eval o) := by
  refine TS.val fun W hW hd => ?_
  obtain ⟨v, W', h1, h2⟩ := h W hW hd
  refine ⟨v, W', ?_, h2⟩
  rw [hs, Sem.run_bind, h1]; rfl
end
/-- the region: the first n are the head; ns those that make fresh memory; dep which of these each of them waits for; Φ what is known of their values; T what they run -/
theorem wp_region_ftail {P : Program} {id : Nat} {Q : Exit → Act → World → Prop} {a : Act} {w : World} {l : List Oper} (n : Nat) (ns : List Nat) (dep : Nat → List Nat) (V : Nat → Value → Prop) (Φ : Nat → (Nat → Value) → World → Prop)
    (hm : P.follows .mixedOrders = true) (hB : Region.lexTailB .any l.toArray n = true)
    (hnj : (ns.all fun k => decide (k < n) && match l.toArray[k]? with | some o => (dep k).all (fun j => ns.contains j && o.after.any fun e => Region.binds .any e && e.on == j) | none => false) = true)
    (hst : ∀ k ∈ ns, ∀ g W W', Φ k g W → Below W.heap.size W W' → Φ k g W')
    (hdp : ∀ k ∈ ns, ∀ g g' W, (∀ j, (j = k ∨ j ∈ dep k) → g j = g' j) → Φ k g W → Φ k g' W)
    (hV0 : ∀ k ∈ ns, ∃ v, V k v)
    (h : ∀ g, (∀ k ∈ ns, V k (g k)) → wpM P .any l.toArray (CH w ns dep Φ g) (fun i => ns.contains i) g (TS P w dep V Φ g) (fun a' => ∀ W, Below w.heap.size w W → (∀ k ∈ ns, Φ k g W) → wpList P l.toArray Q (l.drop n) a' W) (l.take n) 0 a) : (Code.region id l.toArray true).wp P Q a w := by
  simp only [Region.lexTailB, Bool.and_eq_true, decide_eq_true_eq] at hB
  obtain ⟨⟨⟨⟨hsel, hn⟩, hs⟩, hc⟩, hlex⟩ := hB
  have hn' : n < l.length := by simpa using hn
  have htl : (l.take n).length = n := by simp; omega
  have hdl : (l.drop n).length = l.toArray.size - n := by simp
  have inv0 : HeadInv .any l.toArray n (Array.replicate l.toArray.size false) :=
    ⟨by simp, fun j oj _ hl => (by rw [getD_replicate_false] at hl; cases hl), fun t _ ht => getD_in (by simpa using ht) (getD_replicate_false _ _)⟩
  have H := fun g hg => wpAnyH_lex (md := .any) (g := l.toArray.size - n) hsel hs hc hn (l.take n) 0 _ a (fun j hj => by
    have hj' : j < n := by rw [htl] at hj; exact hj
    simp [hj']) (by simpa using htl) inv0 (fun j hj => by omega) (by rw [htl]; exact hlex) (h g hg)
  have un : ∀ {listed : Array Bool} {i : Nat}, listed.getD i true = false → listed.getD i false = false := fun {listed i} h1 => getD_both h1
  obtain ⟨g0, hg0⟩ : ∃ g0 : Nat → Value, ∀ k ∈ ns, V k (g0 k) := by
    have h1 : ∀ k, ∃ v, k ∈ ns → V k v := fun k => by
      by_cases hk : k ∈ ns
      · obtain ⟨v, hv⟩ := hV0 k hk; exact ⟨v, fun _ => hv⟩
      · exact ⟨undef, fun h => absurd h hk⟩
    obtain ⟨f, hf⟩ := Classical.axiomOfChoice h1
    exact ⟨f, hf⟩
  refine wp_region_any hm ?_
  have := wpAny_of_H (P := P) (md := .any) (ops := l.toArray) (Q' := Q) (gt := l.toArray.size - n) (n := n) (nn := fun i => ns.contains i) (G := Nat → Value) (val := fun g => g) (V := fun g => ∀ k ∈ ns, V k (g k))
    (Ag := fun listed g g' => ∀ k ∈ ns, listed.getD k false = true → g k = g' k) (Cg := CH w ns dep Φ) (Tg := TS P w dep V Φ)
    (L := fun g listed' a' => Region.seqB .any l.toArray (l.toArray.size - n) n listed' = true ∧ (∀ j, j < n → listed'.getD j false = true) ∧ ∀ W, Below w.heap.size w W → (∀ k ∈ ns, Φ k g W) → wpList P l.toArray Q (l.drop n) a' W)
    (fun g listed a' W hC hL => by
      obtain ⟨h1, h2, h3⟩ := hL
      have hlt : ∀ k ∈ ns, k < n := fun k hk => by
        have := List.all_eq_true.1 hnj k hk
        simp only [Bool.and_eq_true, decide_eq_true_eq] at this
        exact this.1
      have := wpAny_of_seq (md := .any) (Q' := Q) (l.drop n) n listed a' W (fun j => by simp [List.getElem?_drop]) (by rw [hdl]; exact h1) (h3 W hC.1 (fun k hk => (hC.2 k hk (h2 k (hlt k hk))).1))
      rwa [hdl] at this)
    (fun _ _ _ _ _ => rfl) (fun l g g' g'' h1 h2 k hk hl => (h1 k hk hl).trans (h2 k hk hl))
    (fun listed i g g' h1 h2 k hk hl => h1 k hk (getD_set_true hl))
    (fun listed i g g' hi h1 h2 => h2 i (List.contains_iff_mem.1 hi) (getD_on h1).2)
    (fun listed g g' W hA hC => ⟨hC.1, fun k hk hl => ⟨hdp k hk g g' W (fun j hj => by
      rcases hj with rfl | hj
      · exact hA j hk hl
      · have hdj := List.all_eq_true.1 hnj k hk
        simp only [Bool.and_eq_true] at hdj
        have h2 := (hC.2 k hk hl).2 j hj
        cases ho : l.toArray[k]? with
        | none => rw [ho] at hdj; cases hdj.2
        | some o =>
          have h3 := hdj.2
          simp only [ho] at h3
          have h4 := List.all_eq_true.1 h3 j hj
          simp only [Bool.and_eq_true] at h4
          exact hA j (List.contains_iff_mem.1 h4.1) h2) (hC.2 k hk hl).1, (hC.2 k hk hl).2⟩⟩)
    (fun i s listed W g hi hTs hg hr hC => by
      have hin : i ∈ ns := List.contains_iff_mem.1 hi
      have hun := (mem_ready.1 hr).1
      have hdj := List.all_eq_true.1 hnj i hin
      simp only [Bool.and_eq_true] at hdj
      obtain ⟨o, ho, _⟩ := (mem_ready.1 hr).2
      have h3 := hdj.2
      simp only [ho] at h3
      have hdeps : ∀ j ∈ dep i, j ∈ ns ∧ listed.getD j false = true := fun j hj => by
        have h4 := List.all_eq_true.1 h3 j hj
        simp only [Bool.and_eq_true] at h4
        exact ⟨List.contains_iff_mem.1 h4.1, ready_after ho h4.2 hr⟩
      have h5 := hTs W hC.1 (fun j hj => (hC.2 j (hdeps j hj).1 (hdeps j hj).2).1)
      refine uponN_mono (fun v W' ⟨e0, e1, e2⟩ => ?_) h5
      refine ⟨fun j => if j = i then v else g j, fun k hk => ?_, fun k hk hl => ?_, by simp, hC.1.trans (e1.mono hC.1.size), fun k hk hl => ?_⟩
      · by_cases hki : k = i
        · subst hki; simpa using e0
        · simpa [hki] using hg k hk
      · have hki : k ≠ i := fun e => by subst e; rw [un hun] at hl; cases hl
        simp [hki]
      · by_cases hki : k = i
        · subst hki
          refine ⟨e2 _ (by simp) (fun j hj => ?_), fun j hj => getD_set_true (hdeps j hj).2⟩
          have hjk : j ≠ k := fun e => by subst e; have := (hdeps j hj).2; rw [un hun] at this; cases this
          simp [hjk]
        · rw [getD_set_ne false (Ne.symm hki)] at hl
          obtain ⟨f1, f2⟩ := hC.2 k hk hl
          refine ⟨hdp k hk g _ W' (fun j hj => ?_) (hst k hk g W W' f1 e1), fun j hj => getD_set_true (f2 j hj)⟩
          have hji : j ≠ i := fun e => by
            subst e
            rcases hj with e | hj
            · exact hki e.symm
            · have := f2 j hj; rw [un hun] at this; cases this
          simp [hji])
    _ _ a (World.drew w) g0 hg0 ⟨(Below.refl _ _).drew, fun k hk hl => by rw [getD_replicate_false] at hl; cases hl⟩ (fun g hg _ => H g hg)
  rw [htl, show n + (l.toArray.size - n) = l.toArray.size by omega] at this
  exact this
/-- the same with one fresh operation, which makes one block -/
def ΦB (b k0 : Nat) (mk : Nat → Value) (t : TypeId) (cs : Array Value) (k : Nat) (g : Nat → Value) (W : World) : Prop := k = k0 → ∃ p, g k0 = mk p ∧ Bx W p t cs ∧ b ≤ p
def VB (mk : Nat → Value) (_k : Nat) (v : Value) : Prop := ∃ p, v = mk p
theorem TS.block {P : Program} {w : World} {mk : Nat → Value} {t : TypeId} {cs : Array Value} {g : Nat → Value} {k0 : Nat} {o : Oper} {a : Act} (s : Sem Value) (hs : execOp a.eval o = (do pure (Next.value (← s)))) (hr : ∀ W, s.run P W = .ok (mk W.heap.size) (W.alloc (.cells cs t))) :
    TS P w (fun _ => []) (VB mk) (ΦB w.heap.size k0 mk t cs) g k0 (execOp a.eval o) :=
  TS.sem hs fun W hW _ => ⟨_, _, hr W, ⟨_, rfl⟩, (Below.refl _ _).alloc (Nat.le_refl _) _, fun g' hg' _ _ => ⟨_, hg', Bx.new _ _ _, hW.size⟩⟩
end Go.Proofs.Ytiiilaojllmmiaa
namespace Go.Proofs.Ytiiilaojllmmiaa
open Go.RowKit L01 L02 L05 L06 L07 L13 L14 L15 L18 L19 L20
end Go.Proofs.Ytiiilaojllmmiaa
